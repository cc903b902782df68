/- Part of a proof by program: W2. -/
import Derived.Test.YteeilbddjlpiaaaD1
import Derived.Test.YteeilbddjlpiaaaW1
namespace Go.Proofs.Yteeilbddjlpiaaa
open Go Go.E Go.L Go.RowKit
set_option linter.unusedVariables false
set_option linter.unusedSimpArgs false
set_option maxRecDepth 100000
theorem s_l3Slack_c {c : Con} {p : List Int} {v0_0 : Value} {v1 : Value} {H : FH} {w : World} (hst : Star H w []) (h0_0 : (rS 112 rTerm).rel H [v0_0] c.terms) (h1 : (rS 3 RP.int).rel H [v1] p) {r : Int} (hF : s_l3Slack c p = some r) :
 C Try.prog 133 #[.agg #[v0_0,I c.bound],v1] w fun v w'=>v = I r∧Star H w' []:=by
 unfold s_l3Slack at hF
 refine C_enter Try.func133 rfl Try.ntmps133 rfl (sq (L_box (v:=.agg #[v0_0,I c.bound]) (cs:=#[v0_0,I c.bound]) rfl rfl rfl hst (fun g3 w4 hst=>aI rfl (ns (fA 1 fa_43_1 rfl rfl (ldB 0 hst Try.isAgg3 rfl rfl rfl (L_neg rfl rfl (aI rfl (nq (sq (aI rfl (nn ?_))))))))))))
 have hlen7 : List.length c.terms≤9223372036854775807:=len_le (slice_len h0_0)
 obtain ⟨j7,hL7,hF⟩:=bind_some hF
 obtain ⟨R7,hR7⟩:=exR fun f w_=>∃ n_6 : Int,j7 = .nx n_6∧f 5 = I n_6∧Star H w_ ([])
 refine W_join R7 ?_ ?_
 refine W_block ?_
 obtain ⟨I7,hI7⟩:=exI fun n f w_=>∃ i_5 : Nat,∃ suf7 : List Term,∃ n_6 : Int,n = suf7.length∧List.drop i_5 c.terms = suf7∧i_5 + suf7.length = c.terms.length∧rangeL (s_l3Slack_b1 p) suf7 i_5 n_6 = some j7∧f 1 = v1∧f 2 = Pt g3∧f 5 = I n_6∧f 6 = I i_5∧Star H w_ ([box g3 43 #[v0_0,I c.bound]])
 refine W_loop I7 (n:=c.terms.length) ?_ ?_
 exact ij hI7 ⟨0,c.terms,i64 (-c.bound),rfl,rfl,Nat.zero_add _,hL7,rfl,rfl,rfl,rfl,hst⟩
 intro n7 f w_ hI
 obtain ⟨i_5,suf7,n_6,rfl,hd7,hl7,hL7,sf1,sf2,sf5,sf6,hst⟩:=ik hI7 hI
 refine W_seq (sq (mF sf6 rfl (fA 0 fa_43_0 sf2 rfl (ldB 0 hst Try.isAgg41 rfl rfl rfl (L_len rfl Try.underlying41 rfl (slice_len h0_0) (L_lss rfl rfl rfl (nn (W_cond (b:=decide ((i_5 : Int) < (c.terms.length : Int))) rfl (fun hc8=>?_) (fun hc8=>?_)))))))))
 have hlt7:=of_decide_eq_true hc8
 rcases suf7 with _ | ⟨x_7,rest7⟩
 exact absurd hlt7 (by simp at hl7; omega)
 obtain ⟨o7,hB7,hL7⟩:=range_cons hL7
 rw [s_l3Slack_b1] at hB7
 have hix7:=drop_idx hd7
 refine W_skip (W_seq (W_block (W_seq ?_)))
 obtain ⟨x18,hx18,hB7⟩:=bind_some hB7
 refine W_region (mF sf1 rfl (fA 0 fa_43_0 sf2 rfl (ldB 0 hst Try.isAgg41 rfl rfl rfl (mF sf6 rfl (L_ix (r:=rTerm) rfl Try.underlying41 Try.sizeOf112 rfl h0_0 rfl hix7 (fun g20 o21 cs_g20 hrk_hat22 hat22=>?_))))))
 obtain rfl:=rTerm_iff.1 hrk_hat22
 refine fA (o21 + 1) fa_112_1 rfl rfl (L_ld rfl Try.isAgg3 rfl (At.cell (AtH.at hat22 hst.sub) (j:=1) rfl) ?_)
 obtain ⟨H24b,l25,s26,z27,k28⟩:=hst.borrow
 refine L_call rfl Try.call147 (ops2 rfl rfl) (s_l3State_c (p:=p) (lit:=x_7.lit) s26 (RP.mono _ h1 l25) hx18) ?_
 rintro _ w29 ⟨rfl,hst⟩
 have hst:=k28 hst c0
 refine L_geq rfl rfl rfl (nn ?_)
 obtain ⟨n_30,hA31,hB7⟩:=bind_some hB7
 obtain ⟨R31,hR31⟩:=exR fun f w_=>f 1 = v1∧f 2 = Pt g3∧f 5 = I n_30∧f 6 = I i_5∧Star H w_ ([box g3 43 #[v0_0,I c.bound]])
 refine W_join R31 ?_ ?_
 refine W_cond (b:=decide (x18 ≥ 0)) rfl (fun hc32=>?_) (fun hc32=>?_)
 have hA31:=(ite_t hc32).symm.trans hA31
 refine W_region (mF sf5 rfl (fA 0 fa_43_0 sf2 rfl (ldB 0 hst Try.isAgg41 rfl rfl rfl (mF sf6 rfl (L_ix (r:=rTerm) rfl Try.underlying41 Try.sizeOf112 rfl h0_0 rfl hix7 (fun g37 o38 cs_g37 hrk_hat39 hat39=>?_))))))
 obtain rfl:=rTerm_iff.1 hrk_hat39
 refine fA o38 fa_112_0 rfl rfl (L_ld rfl Try.isAgg3 rfl (At.cell (AtH.at hat39 hst.sub) (j:=0) rfl) (L_add rfl rfl rfl (aI rfl (nn ?_))))
 obtain rfl:=so hA31
 exact rj hR31 ⟨sf1,sf2,rfl,sf6,hst⟩
 have hA31:=(ite_f hc32).symm.trans hA31
 refine W_skip ?_
 obtain rfl:=so hA31
 exact rj hR31 ⟨sf1,sf2,sf5,sf6,hst⟩
 intro f w_ hR
 obtain ⟨sf1,sf2,sf5,sf6,hst⟩:=rk hR31 hR
 refine W_region (mF sf6 rfl (L_add rfl rfl rfl (aI rfl (nn ?_))))
 obtain rfl:=so hB7
 show ∃ m,m < _∧I7 m _ _
 refine ⟨rest7.length,by simp,?_⟩
 exact ij hI7 ⟨i_5 + 1,rest7,n_30,rfl,drop_next hd7,by simp at hl7; omega,hL7,sf1,sf2,sf5,(Eq.trans rfl (congrArg (Value.int .i64) (i64_succ (n:=c.terms.length) (by simp at hl7; omega) hlen7))),hst⟩
 rcases suf7 with _ | ⟨_,_⟩
 obtain rfl:=range_nil hL7
 refine W_exit (rj hR7 ⟨n_6,rfl,sf5,(Star.keepN 0 hst)⟩)
 exact absurd (of_decide_eq_false hc8) (by simp at hl7; omega)
 intro f w_ hR
 obtain ⟨n_6,rfl,sf5,hst⟩:=rk hR7 hR
 refine sq (mF sf5 rfl (aI rfl (nn (W_ret (retG1 (v1:=I n_6) Try.results133 rfl ?_)))))
 obtain rfl:=so hF
 exact ⟨rfl,hst⟩
theorem s_l3Implied_c {fu : Nat} {c : Con} {p : List Int} {v0_0 : Value} {v1 : Value} {H : FH} {w : World} (hst : Star H w []) (h0_0 : (rS 112 rTerm).rel H [v0_0] c.terms) (h1 : (rS 3 RP.int).rel H [v1] p) {r : List Int} (hF : s_l3Implied fu c p = some r) :
 C Try.prog 134 #[.agg #[v0_0,I c.bound],v1] w fun v w'=>∃ (u1 : Value),v = u1∧Star H w' [oF 3 RP.int u1 r]:=by
 unfold s_l3Implied at hF
 refine C_enter Try.func134 rfl Try.ntmps134 rfl (sq (L_box (v:=.agg #[v0_0,I c.bound]) (cs:=#[v0_0,I c.bound]) rfl rfl rfl hst (fun g3 w4 hst=>aV S0 rfl (ns (L_bs rfl parts0 (bs_65_0  ) hst (fun g8 w9 hst=>?_))))))
 have hst:=Star.mkRow (R:=(OR.frz RP.int)) [] [] 0 hst rfl rfl rfl (by decide)
 refine aV (Sl g8 0 0) rfl (nq ?_)
 obtain ⟨x16,hx16,hF⟩:=bind_some hF
 refine W_region (L_lda (cs:=[v0_0,I c.bound]) rfl Try.isAgg43 Try.sizeOf43 rfl (At.sub0 (Blk.at (Star.blkAt 1 hst rfl)) 0 2) rfl (mV v1 rfl ?_))
 obtain ⟨H18b,l19,s20,z21,k22⟩:=hst.borrow
 refine L_call rfl Try.call133 (ops2 rfl rfl) (s_l3Slack_c (c:=c) (p:=p) s20 (RP.mono _ h0_0 l19) (RP.mono _ h1 l19) hx16) ?_
 rintro _ w23 ⟨rfl,hst⟩
 have hst:=k22 hst c0
 refine aI rfl (nq (sq (aI rfl (nn ?_))))
 obtain ⟨j30,hL30,hF⟩:=bind_some hF
 obtain ⟨R30,hR30⟩:=exR fun f w_=>∃ out_27 : List Int,∃ i_29 : Int,∃ v27_out : Value,j30 = .nx (out_27,i_29)∧f 5 = v27_out∧Star H w_ ([oF 3 RP.int v27_out out_27])
 refine W_join R30 ?_ ?_
 refine W_block ?_
 obtain ⟨I30,hI30⟩:=exI fun n f w_=>∃ out_27 : List Int,∃ i_29 : Int,∃ v27_out : Value,whileL (s_l3Implied_b1 c p x16) n (out_27,i_29) = some j30∧f 1 = v1∧f 2 = Pt g3∧f 5 = v27_out∧f 6 = I x16∧f 7 = I i_29∧Star H w_ ([oF 3 RP.int v27_out out_27,box g3 43 #[v0_0,I c.bound]])
 refine W_loop I30 (n:=fu) ?_ ?_
 exact ij hI30 ⟨[],0,(Sl g8 0 0),hL30,rfl,rfl,rfl,rfl,rfl,hst⟩
 intro n30 f w_ hI
 obtain ⟨out_27,i_29,v27_out,hL30,sf1,sf2,sf5,sf6,sf7,hst⟩:=ik hI30 hI
 rcases n30 with _ | n30
 exact (while_zero hL30).elim
 obtain ⟨o30,hB30,hL30⟩:=while_succ hL30
 rw [s_l3Implied_b1] at hB30
 refine W_seq (W_seq ?_)
 obtain ⟨R31,hR31⟩:=exR fun f w_=>f 1 = v1∧f 2 = Pt g3∧f 5 = v27_out∧f 6 = I x16∧f 7 = I i_29∧f 20 = Bo ((decide (i_29 < (c.terms.length : Int))) && (decide (x16 ≥ 0)))∧Star H w_ ([oF 3 RP.int v27_out out_27,box g3 43 #[v0_0,I c.bound]])
 refine W_join R31 ?_ ?_
 refine W_region (mF sf7 rfl (fA 0 fa_43_0 sf2 rfl (ldB 1 hst Try.isAgg41 rfl rfl rfl (L_len rfl Try.underlying41 rfl (slice_len h0_0) (L_lss rfl rfl rfl (mB rfl (L_split (d:=17) (b:=decide (i_29 < (c.terms.length : Int))) rfl (fun hc32=>?_) (fun hc32=>?_))))))))
 refine mF sf6 rfl (L_geq rfl rfl rfl (L_pick (v:=Bo ((decide (i_29 < (c.terms.length : Int))) && (decide (x16 ≥ 0)))) rfl rfl (and_t hc32 rfl) (nn (rj hR31 ⟨sf1,sf2,sf5,sf6,sf7,rfl,hst⟩))))
 refine ps rfl (ps rfl (L_pick (v:=Bo ((decide (i_29 < (c.terms.length : Int))) && (decide (x16 ≥ 0)))) rfl rfl (and_f hc32) (nn (rj hR31 ⟨sf1,sf2,sf5,sf6,sf7,rfl,hst⟩))))
 intro f w_ hR
 obtain ⟨sf1,sf2,sf5,sf6,sf7,sf20,hst⟩:=rk hR31 hR
 refine W_cond (b:=((decide (i_29 < (c.terms.length : Int))) && (decide (x16 ≥ 0)))) sf20 (fun hc33=>?_) (fun hc33=>?_)
 have hB30:=(ite_t hc33).symm.trans hB30
 refine W_skip (W_seq (W_block (W_seq ?_)))
 obtain ⟨x34,hx34,hB30⟩:=bind_some hB30
 obtain ⟨x44,hx44,hB30⟩:=bind_some hB30
 obtain ⟨R50,hR50⟩:=exR fun f w_=>f 1 = v1∧f 2 = Pt g3∧f 5 = v27_out∧f 6 = I x16∧f 7 = I i_29∧f 41 = Bo ((x44 == 0) && (decide (x34.coef > x16)))∧Star H w_ ([oF 3 RP.int v27_out out_27,box g3 43 #[v0_0,I c.bound]])
 refine W_join R50 ?_ ?_
 refine W_region (mF sf1 rfl (fA 0 fa_43_0 sf2 rfl (ldB 1 hst Try.isAgg41 rfl rfl rfl (mF sf7 rfl (L_ix (r:=rTerm) rfl Try.underlying41 Try.sizeOf112 rfl h0_0 rfl hx34 (fun g51 o52 cs_g51 hrk_hat53 hat53=>?_))))))
 obtain rfl:=rTerm_iff.1 hrk_hat53
 refine fA (o52 + 1) fa_112_1 rfl rfl (L_ld rfl Try.isAgg3 rfl (At.cell (AtH.at hat53 hst.sub) (j:=1) rfl) ?_)
 obtain ⟨H55b,l56,s57,z58,k59⟩:=hst.borrow
 refine L_call rfl Try.call147 (ops2 rfl rfl) (s_l3State_c (p:=p) (lit:=x34.lit) s57 (RP.mono _ h1 l56) hx44) ?_
 rintro _ w60 ⟨rfl,hst⟩
 have hst:=k59 hst c0
 refine L_eql rfl rfl rfl (mB rfl (L_split (d:=32) (b:=(x44 == 0)) rfl (fun hc61=>?_) (fun hc61=>?_)))
 refine fA 0 fa_43_0 sf2 rfl (ldB 1 hst Try.isAgg41 rfl rfl rfl (mF sf7 rfl (L_ix (r:=rTerm) rfl Try.underlying41 Try.sizeOf112 rfl h0_0 rfl hx34 (fun g62 o63 cs_g62 hrk_hat64 hat64=>?_))))
 obtain rfl:=rTerm_iff.1 hrk_hat64
 refine fA o63 fa_112_0 rfl rfl (L_ld rfl Try.isAgg3 rfl (At.cell (AtH.at hat64 hst.sub) (j:=0) rfl) (mF sf6 rfl (L_gtr rfl rfl rfl (L_pick (v:=Bo ((x44 == 0) && (decide (x34.coef > x16)))) rfl rfl (and_t hc61 rfl) (nn (rj hR50 ⟨sf1,sf2,sf5,sf6,sf7,rfl,hst⟩))))))
 refine ps rfl (ps rfl (ps rfl (ps rfl (ps rfl (ps rfl (ps rfl (ps rfl (L_pick (v:=Bo ((x44 == 0) && (decide (x34.coef > x16)))) rfl rfl (and_f hc61) (nn (rj hR50 ⟨sf1,sf2,sf5,sf6,sf7,rfl,hst⟩))))))))))
 intro f w_ hR
 obtain ⟨sf1,sf2,sf5,sf6,sf7,sf41,hst⟩:=rk hR50 hR
 obtain ⟨out_66,hA68,hB30⟩:=bind_some hB30
 obtain ⟨R68,hR68⟩:=exR fun f w_=>∃ v66_out : Value,f 1 = v1∧f 2 = Pt g3∧f 5 = v66_out∧f 6 = I x16∧f 7 = I i_29∧Star H w_ ([oF 3 RP.int v66_out out_66,box g3 43 #[v0_0,I c.bound]])
 refine W_join R68 ?_ ?_
 refine W_cond (b:=((x44 == 0) && (decide (x34.coef > x16)))) sf41 (fun hc69=>?_) (fun hc69=>?_)
 have hA68:=(ite_t hc69).symm.trans hA68
 obtain ⟨x77,hx77,hA68⟩:=bind_some hA68
 refine W_region (mF sf5 rfl (fA 0 fa_43_0 sf2 rfl (ldB 1 hst Try.isAgg41 rfl rfl rfl (mF sf7 rfl (L_ix (r:=rTerm) rfl Try.underlying41 Try.sizeOf112 rfl h0_0 rfl hx34 (fun g81 o82 cs_g81 hrk_hat83 hat83=>?_))))))
 obtain rfl:=rTerm_iff.1 hrk_hat83
 refine fA (o82 + 1) fa_112_1 rfl rfl (L_ld rfl Try.isAgg3 rfl (At.cell (AtH.at hat83 hst.sub) (j:=1) rfl) (L_bs rfl (parts1 rfl) (bs_65_1_0 (I x34.lit) rfl) hst (fun g85 w86 hst=>?_)))
 have hst:=Star.addF (r:=RP.int) (cs:=[I x34.lit]) (x:=x34.lit) hst rfl
 have hst:=Star.mkRow (R:=(OR.frz RP.int)) [([I x34.lit],x34.lit)] [x34.lit] 1 hst rfl rfl rfl (by decide)
 have hst:=hst.get 1 rfl
 refine L_appM (v:=v27_out) (u:=(Sl g85 1 1)) rfl et_65 rfl rfl hst hx77 (fun v88 w89 hst=>aV v88 rfl (nn ?_))
 obtain rfl:=so hA68
 exact rj hR68 ⟨v88,sf1,sf2,rfl,sf6,sf7,hst⟩
 have hA68:=(ite_f hc69).symm.trans hA68
 refine W_skip ?_
 obtain rfl:=so hA68
 exact rj hR68 ⟨v27_out,sf1,sf2,sf5,sf6,sf7,hst⟩
 intro f w_ hR
 obtain ⟨v66_out,sf1,sf2,sf5,sf6,sf7,hst⟩:=rk hR68 hR
 refine W_region (mF sf7 rfl (L_add rfl rfl rfl (aI rfl (nn ?_))))
 obtain rfl:=so hB30
 show ∃ m,m < _∧I30 m _ _
 refine ⟨n30,Nat.lt_succ_self _,?_⟩
 exact ij hI30 ⟨out_66,i64 (i_29 + 1),v66_out,hL30,sf1,sf2,sf5,sf6,rfl,hst⟩
 have hB30:=(ite_f hc33).symm.trans hB30
 refine W_exit ?_
 obtain rfl:=so hB30
 obtain rfl:=so hL30
 exact rj hR30 ⟨out_27,i_29,v27_out,rfl,sf5,(Star.keepN 1 hst)⟩
 intro f w_ hR
 obtain ⟨out_27,i_29,v27_out,rfl,sf5,hst⟩:=rk hR30 hR
 refine sq (mF sf5 rfl (aV v27_out rfl (nn (W_ret (retG1 (v1:=v27_out) Try.results134 rfl ?_)))))
 obtain rfl:=so hF
 exact ⟨v27_out,rfl,hst⟩
theorem s_l3Propagate_c {fu : Nat} {list : List Con} {p : List Int} {v0 : Value} {v1 : Value} {H : FH} {w : World} (hst : Star H w [oF 3 RP.int v1 p]) (h0 : (rS 43 (rCon 112)).rel H [v0] list) {r : Int × (List Int)} (hF : s_l3Propagate fu list p = some r) :
 C Try.prog 113 #[v0,v1] w fun v w'=>v = I r.1∧Star H w' [oF 3 RP.int v1 r.2]:=by
 unfold s_l3Propagate at hF
 refine C_enter Try.func113 rfl Try.ntmps113 rfl (sq (aI rfl (nq (sq (aB rfl (nn ?_))))))
 obtain ⟨j4,hL4,hF⟩:=bind_some hF
 obtain ⟨R4,hR4⟩:=exR fun f w_=>∃ p_2 : List Int,∃ changed_3 : Bool,j4 = .nx (p_2,changed_3)∧Star H w_ ([oF 3 RP.int v1 p_2])
 refine W_join R4 ?_ ?_
 refine W_block ?_
 obtain ⟨I4,hI4⟩:=exI fun n f w_=>∃ p_2 : List Int,∃ changed_3 : Bool,whileL (s_l3Propagate_b1 fu list) n (p_2,changed_3) = some j4∧f 0 = v0∧f 1 = v1∧f 5 = Bo changed_3∧Star H w_ ([oF 3 RP.int v1 p_2])
 refine W_loop I4 (n:=fu) ?_ ?_
 exact ij hI4 ⟨p,true,hL4,rfl,rfl,rfl,hst⟩
 intro n4 f w_ hI
 obtain ⟨p_2,changed_3,hL4,sf0,sf1,sf5,hst⟩:=ik hI4 hI
 rcases n4 with _ | n4
 exact (while_zero hL4).elim
 obtain ⟨o4,hB4,hL4⟩:=while_succ hL4
 rw [s_l3Propagate_b1] at hB4
 refine W_seq (sq (mF sf5 rfl (nn (W_cond (b:=changed_3) rfl (fun hc5=>?_) (fun hc5=>?_)))))
 have hB4:=(ite_t hc5).symm.trans hB4
 refine W_skip (W_block (sq (aB rfl (ns (aI rfl (nn ?_))))))
 have hlen9 : List.length list≤9223372036854775807:=len_le (slice_len h0)
 obtain ⟨j9,hL9,hB4⟩:=bind_some hB4
 obtain ⟨R9,hR9⟩:=exR fun f w_=>∃ p_7 : List Int,∃ changed_8 : Bool,j9 = .nx (p_7,changed_8)∧f 0 = v0∧f 1 = v1∧f 5 = Bo changed_8∧Star H w_ ([oF 3 RP.int v1 p_7])
 refine W_join R9 ?_ ?_
 refine W_block ?_
 obtain ⟨I9,hI9⟩:=exI fun n f w_=>∃ i_6 : Nat,∃ suf9 : List Con,∃ p_7 : List Int,∃ changed_8 : Bool,n = suf9.length∧List.drop i_6 list = suf9∧i_6 + suf9.length = list.length∧rangeL (s_l3Propagate_b2 fu) suf9 i_6 (p_7,changed_8) = some j9∧f 0 = v0∧f 1 = v1∧f 5 = Bo changed_8∧f 6 = I i_6∧Star H w_ ([oF 3 RP.int v1 p_7])
 refine W_loop I9 (n:=list.length) ?_ ?_
 exact ij hI9 ⟨0,list,p_2,false,rfl,rfl,Nat.zero_add _,hL9,sf0,sf1,rfl,rfl,hst⟩
 intro n9 f w_ hI
 obtain ⟨i_6,suf9,p_7,changed_8,rfl,hd9,hl9,hL9,sf0,sf1,sf5,sf6,hst⟩:=ik hI9 hI
 refine W_seq (sq (mF sf6 rfl (mF sf0 rfl (L_len rfl Try.underlying23 rfl (slice_len h0) (L_lss rfl rfl rfl (nn (W_cond (b:=decide ((i_6 : Int) < (list.length : Int))) rfl (fun hc10=>?_) (fun hc10=>?_))))))))
 have hlt9:=of_decide_eq_true hc10
 rcases suf9 with _ | ⟨x_9,rest9⟩
 exact absurd hlt9 (by simp at hl9; omega)
 obtain ⟨o9,hB9,hL9⟩:=range_cons hL9
 rw [s_l3Propagate_b2] at hB9
 have hix9:=drop_idx hd9
 refine W_skip (W_seq (W_block (W_seq (W_seq ?_))))
 obtain ⟨x21,hx21,hB9⟩:=bind_some hB9
 refine W_region (mF sf0 rfl (mF sf6 rfl (L_ix (r:=(rCon 112)) rfl Try.underlying23 Try.sizeOf43 rfl h0 rfl hix9 (fun g23 o24 cs_g23 hrk_hat25 hat25=>?_))))
 obtain ⟨u26_0,rfl,hu26_0⟩:=rCon_iff.1 hrk_hat25
 refine L_lda (cs:=[u26_0,I x_9.bound]) rfl Try.isAgg43 Try.sizeOf43 rfl (At.sub (AtH.at hat25 hst.sub) 0 2) rfl (mF sf1 rfl ?_)
 obtain ⟨H27b,l28,s29,z30,k31⟩:=hst.borrow
 have hb32 : (rS 3 RP.int).rel H27b [v1] p_7:=fz_own 0 z30 rfl
 refine L_call rfl Try.call133 (ops2 rfl rfl) (s_l3Slack_c (c:=x_9) (p:=p_7) s29 (RP.mono _ hu26_0 l28) hb32 hx21) ?_
 rintro _ w33 ⟨rfl,hst⟩
 have hst:=k31 hst c0
 refine L_lss rfl rfl rfl (nn (W_cond (b:=decide (x21 < 0)) rfl (fun hc34=>?_) (fun hc34=>?_)))
 have hB9:=(ite_t hc34).symm.trans hB9
 refine sq (mF sf6 rfl (aI rfl (nn (W_ret (retG1 (v1:=I i_6) Try.results113 rfl ?_)))))
 obtain rfl:=so hB9
 obtain rfl:=so hL9
 obtain rfl:=so hB4
 obtain rfl:=so hL4
 obtain rfl:=so hF
 exact ⟨rfl,hst⟩
 have hB9:=(ite_f hc34).symm.trans hB9
 refine W_skip (W_seq ?_)
 obtain ⟨x45,hx45,hB9⟩:=bind_some hB9
 refine W_region (mF sf0 rfl (mF sf6 rfl (L_ix (r:=(rCon 112)) rfl Try.underlying23 Try.sizeOf43 rfl h0 rfl hix9 (fun g48 o49 cs_g48 hrk_hat50 hat50=>?_))))
 obtain ⟨u51_0,rfl,hu51_0⟩:=rCon_iff.1 hrk_hat50
 refine L_lda (cs:=[u51_0,I x_9.bound]) rfl Try.isAgg43 Try.sizeOf43 rfl (At.sub (AtH.at hat50 hst.sub) 0 2) rfl (mF sf1 rfl ?_)
 obtain ⟨H52b,l53,s54,z55,k56⟩:=hst.borrow
 have hb57 : (rS 3 RP.int).rel H52b [v1] p_7:=fz_own 0 z55 rfl
 refine L_call rfl Try.call134 (ops2 rfl rfl) (s_l3Implied_c (c:=x_9) (p:=p_7) s54 (RP.mono _ hu51_0 l53) hb57 hx45) ?_
 rintro r58_0 w58 ⟨_,rfl,hst⟩
 have hst:=k56 hst (co closed_int c0)
 refine aV r58_0 rfl (ns (aI rfl (nn ?_)))
 have hlen63 : List.length x45≤9223372036854775807:=len_le (Star.len 0 hst rfl)
 obtain ⟨j63,hL63,hB9⟩:=bind_some hB9
 obtain ⟨R63,hR63⟩:=exR fun f w_=>∃ p_61 : List Int,∃ changed_62 : Bool,j63 = .nx (p_61,changed_62)∧f 0 = v0∧f 1 = v1∧f 5 = Bo changed_62∧f 6 = I i_6∧Star H w_ ([oF 3 RP.int v1 p_61])
 refine W_join R63 ?_ ?_
 refine W_block ?_
 obtain ⟨I63,hI63⟩:=exI fun n f w_=>∃ i_60 : Nat,∃ suf63 : List Int,∃ p_61 : List Int,∃ changed_62 : Bool,n = suf63.length∧List.drop i_60 x45 = suf63∧i_60 + suf63.length = x45.length∧rangeL s_l3Propagate_b3 suf63 i_60 (p_61,changed_62) = some j63∧f 0 = v0∧f 1 = v1∧f 5 = Bo changed_62∧f 6 = I i_6∧f 7 = r58_0∧f 8 = I i_60∧Star H w_ ([oF 3 RP.int v1 p_61,oF 3 RP.int r58_0 x45])
 have hst:=hst.get 1 rfl
 refine W_loop I63 (n:=x45.length) ?_ ?_
 exact ij hI63 ⟨0,x45,p_7,changed_8,rfl,rfl,Nat.zero_add _,hL63,sf0,sf1,sf5,sf6,rfl,rfl,hst⟩
 intro n63 f w_ hI
 obtain ⟨i_60,suf63,p_61,changed_62,rfl,hd63,hl63,hL63,sf0,sf1,sf5,sf6,sf7,sf8,hst⟩:=ik hI63 hI
 refine W_seq (sq (mF sf8 rfl (mF sf7 rfl (L_len rfl Try.underlying65 rfl (Star.len 1 hst rfl) (L_lss rfl rfl rfl (nn (W_cond (b:=decide ((i_60 : Int) < (x45.length : Int))) rfl (fun hc64=>?_) (fun hc64=>?_))))))))
 have hlt63:=of_decide_eq_true hc64
 rcases suf63 with _ | ⟨x_63,rest63⟩
 exact absurd hlt63 (by simp at hl63; omega)
 obtain ⟨o63,hB63,hL63⟩:=range_cons hL63
 rw [s_l3Propagate_b3] at hB63
 have hix63:=drop_idx hd63
 refine W_skip (W_seq (W_block (W_seq ?_)))
 obtain ⟨x74,hx74,hB63⟩:=bind_some hB63
 refine W_region (mF sf1 rfl (mF sf7 rfl (mF sf8 rfl ?_)))
 obtain ⟨g76,cap_g76,hv77,_,_⟩:=Star.row 1 hst rfl hix63
 refine L_ixO (R:=(OR.frz RP.int)) (tb:=0) 0 rfl Try.underlying65 Try.sizeOf3 rfl hv77 (by first | rfl | simp) rfl hix63 ?_
 obtain ⟨cs78,hr78,hat78⟩:=Star.eltF 1 hst rfl hv77 hix63
 obtain rfl : _ = [_]:=hr78
 refine L_ld rfl Try.isAgg3 rfl (At.cell hat78 (j:=0) rfl) ?_
 obtain ⟨H80b,l81,s82,z83,k84⟩:=hst.lend [_]
 refine L_call rfl Try.call112 (ops2 rfl rfl) (s_l3Assign_c (p:=p_61) (lit:=x_63) s82 hx74) ?_
 rintro _ w85 ⟨rfl,hst⟩
 have hst:=k84 hst (co closed_int c0)
 refine nn (W_region (aB rfl (nn (W_region (mF sf8 rfl (L_add rfl rfl rfl (aI rfl (nn ?_))))))))
 obtain rfl:=so hB63
 show ∃ m,m < _∧I63 m _ _
 refine ⟨rest63.length,by simp,?_⟩
 exact ij hI63 ⟨i_60 + 1,rest63,x74,true,rfl,drop_next hd63,by simp at hl63; omega,hL63,sf0,sf1,rfl,sf6,sf7,(Eq.trans rfl (congrArg (Value.int .i64) (i64_succ (n:=x45.length) (by simp at hl63; omega) hlen63))),hst⟩
 rcases suf63 with _ | ⟨_,_⟩
 obtain rfl:=range_nil hL63
 refine W_exit (rj hR63 ⟨p_61,changed_62,rfl,sf0,sf1,sf5,sf6,(Star.keepN 1 hst)⟩)
 exact absurd (of_decide_eq_false hc64) (by simp at hl63; omega)
 intro f w_ hR
 obtain ⟨p_61,changed_62,rfl,sf0,sf1,sf5,sf6,hst⟩:=rk hR63 hR
 refine W_region (mF sf6 rfl (L_add rfl rfl rfl (aI rfl (nn ?_))))
 obtain rfl:=so hB9
 show ∃ m,m < _∧I9 m _ _
 refine ⟨rest9.length,by simp,?_⟩
 exact ij hI9 ⟨i_6 + 1,rest9,p_61,changed_62,rfl,drop_next hd9,by simp at hl9; omega,hL9,sf0,sf1,sf5,(Eq.trans rfl (congrArg (Value.int .i64) (i64_succ (n:=list.length) (by simp at hl9; omega) hlen9))),hst⟩
 rcases suf9 with _ | ⟨_,_⟩
 obtain rfl:=range_nil hL9
 refine W_exit (rj hR9 ⟨p_7,changed_8,rfl,sf0,sf1,sf5,hst⟩)
 exact absurd (of_decide_eq_false hc10) (by simp at hl9; omega)
 intro f w_ hR
 obtain ⟨p_7,changed_8,rfl,sf0,sf1,sf5,hst⟩:=rk hR9 hR
 obtain rfl:=so hB4
 show ∃ m,m < _∧I4 m _ _
 refine ⟨n4,Nat.lt_succ_self _,?_⟩
 exact ij hI4 ⟨p_7,changed_8,hL4,sf0,sf1,sf5,hst⟩
 have hB4:=(ite_f hc5).symm.trans hB4
 refine W_exit ?_
 obtain rfl:=so hB4
 obtain rfl:=so hL4
 exact rj hR4 ⟨p_2,changed_3,rfl,hst⟩
 intro f w_ hR
 obtain ⟨p_2,changed_3,rfl,hst⟩:=rk hR4 hR
 refine sq (aI rfl (nn (W_ret (retG1 (v1:=I (-1)) Try.results113 rfl ?_))))
 obtain rfl:=so hF
 exact ⟨rfl,hst⟩
theorem s_ClauseOf_c {lits : List Int} {v0 : Value} {H : FH} {w : World} (hst : Star H w []) (h0 : (rS 3 RP.int).rel H [v0] lits) {r : Con × Bool} (hF : s_ClauseOf lits = some r) :
 C Try.prog 47 #[v0] w fun v w'=>∃ (u1 : Value),v = .tuple #[.agg #[u1,I r.1.bound],Bo r.2]∧Star H w' [oF 112 rTerm u1 r.1.terms]:=by
 unfold s_ClauseOf at hF
 refine C_enter Try.func47 rfl Try.ntmps47 rfl (sq (L_al (cs:=#[S0,I 0]) rfl Try.zeroValue43 rfl hst (fun g3 w4 hst=>aB rfl (nq ?_))))
 obtain ⟨x5,hx5,hF⟩:=bind_some hF
 refine W_region (L_mk (R:=(OR.frz RP.int)) (z0:=0) (zc:=[I 0]) rfl et_65 (by kernel_rfl) (fun _ _=>⟨rfl,rfl⟩) rfl rfl hx5 hst (fun v9 w10 hst=>aV v9 rfl (nq (sq (mV v0 rfl (L_len rfl Try.underlying65 rfl (slice_len h0) (L_gtr rfl rfl rfl (nn (W_cond (b:=decide ((lits.length : Int) > 40)) rfl (fun hc12=>?_) (fun hc12=>?_))))))))))
 have hF:=(ite_t hc12).symm.trans hF
 refine sq (L_bld rfl (parts0 ) (bld_43_  ) (L_staB (vs:=#[S0,I 0]) (cs2:=#[S0,I 0]) 1 rfl Try.sizeOf43 rfl rfl rfl (ones_cons rfl (ones_cons rfl ones_nil)) hst rfl (by show 0 + 2≤2; decide) rfl (fun w14 hst=>aB rfl (nn (W_ret (retG2 (v1:=.agg #[S0,I 0]) (v2:=Bo false) Try.results47 (resV_agg Try.isAgg43 Try.sizeOf43 rfl (Star.blkAt 0 hst rfl) rfl) rfl ?_))))))
 obtain rfl:=so hF
 have hst:=Star.addNil (R:=(OR.frz rTerm)) (e:=112) hst
 exact ⟨S0,rfl,(Star.keepN 1 hst)⟩
 have hF:=(ite_f hc12).symm.trans hF
 refine W_skip (W_seq (sq (aI rfl (nn ?_))))
 have hlen20 : List.length lits≤9223372036854775807:=len_le (slice_len h0)
 obtain ⟨j20,hL20,hF⟩:=bind_some hF
 obtain ⟨R20,hR20⟩:=exR fun f w_=>∃ seen_17 : List Int,∃ H18 : FH,j20 = .nx seen_17∧Le H H18∧f 2 = Pt g3∧f 4 = v9∧Star H18 w_ ([oF 3 RP.int v9 seen_17,box g3 43 #[S0,I 0]])
 refine W_join R20 ?_ ?_
 refine W_block ?_
 obtain ⟨I20,hI20⟩:=exI fun n f w_=>∃ i_16 : Nat,∃ suf20 : List Int,∃ seen_17 : List Int,∃ H18 : FH,n = suf20.length∧List.drop i_16 lits = suf20∧i_16 + suf20.length = lits.length∧rangeL s_ClauseOf_b1 suf20 i_16 seen_17 = some j20∧Le H H18∧f 0 = v0∧f 2 = Pt g3∧f 4 = v9∧f 5 = I i_16∧Star H18 w_ ([oF 3 RP.int v9 seen_17,box g3 43 #[S0,I 0]])
 refine W_loop I20 (n:=lits.length) ?_ ?_
 exact ij hI20 ⟨0,lits,x5,H,rfl,rfl,Nat.zero_add _,hL20,(Le.refl _),rfl,rfl,rfl,rfl,hst⟩
 intro n20 f w_ hI
 obtain ⟨i_16,suf20,seen_17,H18,rfl,hd20,hl20,hL20,l19,sf0,sf2,sf4,sf5,hst⟩:=ik hI20 hI
 refine W_seq (sq (mF sf5 rfl (mF sf0 rfl (L_len rfl Try.underlying65 rfl (slice_len (RP.mono _ h0 l19)) (L_lss rfl rfl rfl (nn (W_cond (b:=decide ((i_16 : Int) < (lits.length : Int))) rfl (fun hc21=>?_) (fun hc21=>?_))))))))
 have hlt20:=of_decide_eq_true hc21
 rcases suf20 with _ | ⟨x_20,rest20⟩
 exact absurd hlt20 (by simp at hl20; omega)
 obtain ⟨o20,hB20,hL20⟩:=range_cons hL20
 rw [s_ClauseOf_b1] at hB20
 have hix20:=drop_idx hd20
 refine W_skip (W_seq (W_block (W_seq (W_seq ?_))))
 obtain ⟨x31,hx31,hB20⟩:=bind_some hB20
 refine W_region (mF sf0 rfl (mF sf5 rfl (L_ix (r:=RP.int) rfl Try.underlying65 Try.sizeOf3 rfl (RP.mono _ h0 l19) rfl hix20 (fun g33 o34 cs_g33 hrk_hat35 hat35=>?_))))
 obtain rfl : _ = [_]:=hrk_hat35
 refine L_ld rfl Try.isAgg3 rfl (At.cell (AtH.at hat35 hst.sub) (j:=0) rfl) ?_
 obtain ⟨H37b,l38,s39,z40,k41⟩:=hst.borrow
 refine L_call rfl Try.call95 (ops1 rfl) (s_l1Lit_c (n_:=x_20) s39 hx31) ?_
 rintro _ w42 ⟨rfl,hst⟩
 have hst:=k41 hst c0
 refine L_not_ rfl rfl (nn (W_cond (b:=(!x31)) rfl (fun hc43=>?_) (fun hc43=>?_)))
 have hB20:=(ite_t hc43).symm.trans hB20
 refine sq (L_bld rfl (parts0 ) (bld_43_  ) (L_staB (vs:=#[S0,I 0]) (cs2:=#[S0,I 0]) 1 rfl Try.sizeOf43 sf2 rfl rfl (ones_cons rfl (ones_cons rfl ones_nil)) hst rfl (by show 0 + 2≤2; decide) rfl (fun w45 hst=>aB rfl (nn (W_ret (retG2 (v1:=.agg #[S0,I 0]) (v2:=Bo false) Try.results47 (resV_agg Try.isAgg43 Try.sizeOf43 sf2 (Star.blkAt 0 hst rfl) rfl) rfl ?_))))))
 obtain rfl:=so hB20
 obtain rfl:=so hL20
 obtain rfl:=so hF
 have hst:=Star.addNil (R:=(OR.frz rTerm)) (e:=112) hst
 exact ⟨S0,rfl,(Star.down (Star.keepN 1 hst) l19 (co closed_term c0))⟩
 have hB20:=(ite_f hc43).symm.trans hB20
 refine W_skip (W_seq ?_)
 obtain ⟨x56,hx56,hB20⟩:=bind_some hB20
 refine W_region (mF sf0 rfl (mF sf5 rfl (L_ix (r:=RP.int) rfl Try.underlying65 Try.sizeOf3 rfl (RP.mono _ h0 l19) rfl hix20 (fun g58 o59 cs_g58 hrk_hat60 hat60=>?_))))
 obtain rfl : _ = [_]:=hrk_hat60
 refine L_ld rfl Try.isAgg3 rfl (At.cell (AtH.at hat60 hst.sub) (j:=0) rfl) ?_
 obtain ⟨H62b,l63,s64,z65,k66⟩:=hst.borrow
 refine L_call rfl Try.call96 (ops1 rfl) (s_l1Abs_c (n_:=x_20) s64 hx56) ?_
 rintro _ w67 ⟨rfl,hst⟩
 have hst:=k66 hst c0
 refine aI rfl (nq (W_seq ?_))
 obtain ⟨x68,hx68,hB20⟩:=bind_some hB20
 obtain ⟨g78,cap_g78,hv79,_,_⟩:=Star.row 0 hst rfl hx68
 refine W_drawS 9 [isV (v9),isV (I x56),isV (.pointer (some ⟨g78,Int.toNat x56 * 1,none⟩)),isV (I x68),isV (v0),isV (I i_16),isEl RP.int x_20 0,isV (I x_20),isV (I (i64 (-x_20)))] [oF 3 RP.int v9 seen_17,box g3 43 #[S0,I 0]] [] ([]) [([],[]),([],[]),([],[]),([],[]),([],[]),([],[]),([],[]),([],[]),([],[])] (S:=[]) Try_mix (by kernel_rfl) rfl (by kernel_rfl) (amF_cons (mono_V _) (amF_cons (mono_V _) (amF_cons (mono_V _) (amF_cons (mono_V _) (amF_cons (mono_V _) (amF_cons (mono_V _) (amF_cons (mono_el _ _ _) (amF_cons (mono_V _) (amF_cons (mono_V _) amF_nil))))))))) hst ?_ (fun f w_ H77 hS77 hE77 hT77 hst=>?_)
 refine opsS_cons (fun f w_ _ _ s _ _ hst=>mF ((s 4 rfl).trans sf4) rfl (nO rfl rfl hst)) (opsS_cons (fun f w_ _ _ s _ _ hst=>mF ((s 6 rfl).trans rfl) rfl (nO rfl rfl hst)) (opsS_cons (fun f w_ _ _ _ _ p hst=>L_ixO (R:=(OR.frz RP.int)) (tb:=0) 0 rfl Try.underlying65 Try.sizeOf3 (p 0 32 rfl rfl) hv79 (by first | rfl | simp) (p 1 33 rfl rfl) hx68 (nO rfl rfl hst)) (opsS_cons ?_ ?_)))
 intro f w_ H77 X77 hS77 hE77 hP77 hst
 obtain ⟨cs86,hr86,hat86⟩:=Star.eltF 0 hst rfl hv79 hx68
 obtain rfl : _ = [_]:=hr86
 refine L_ld rfl Try.isAgg3 (hP77 2 34 rfl rfl) (At.cell hat86 (j:=0) rfl) (L_nil ⟨rfl,_,_,rfl,Le.refl _,fun _ _=>rfl,hst⟩)
 refine opsS_cons (fun f w_ _ _ s _ _ hst=>mF ((s 0 rfl).trans sf0) rfl (nO rfl rfl hst)) (opsS_cons (fun f w_ _ _ s _ _ hst=>mF ((s 5 rfl).trans sf5) rfl (nO rfl rfl hst)) (opsS_cons ?_ ?_))
 intro f w_ H77 X77 hS77 hE77 hP77 hst
 refine L_ix (r:=RP.int) rfl Try.underlying65 Try.sizeOf3 (hP77 4 36 rfl rfl) (RP.mono _ h0 (Le.trans l19 hE77)) (hP77 5 37 rfl rfl) hix20 (fun g88 o89 cs_g88 hrk_hat90 hat90=>?_)
 obtain rfl : _ = [_]:=hrk_hat90
 exact L_nil ⟨rfl,_,_,rfl,Le.refl _,fun _ _=>⟨_,_,_,rfl,rfl,hat90⟩,hst⟩
 refine opsS_cons ?_ ?_
 intro f w_ H77 X77 hS77 hE77 hP77 hst
 obtain ⟨g92,o92,cs92,hv92,hrk_hat92,hat92⟩:=(hP77 6 38 rfl rfl)
 obtain rfl : _ = [_]:=hrk_hat92
 refine L_ld rfl Try.isAgg3 hv92 (At.cell (AtH.at hat92 hst.sub) (j:=0) rfl) (L_nil ⟨rfl,_,_,rfl,Le.refl _,fun _ _=>rfl,hst⟩)
 refine opsS_cons (fun f w_ _ _ _ _ p hst=>L_neg rfl (p 7 39 rfl rfl) (nO rfl rfl hst)) (opsS_nil)
 refine L_eql rfl (hT77 3 35 rfl rfl) (hT77 8 40 rfl rfl) (nn (W_cond (b:=(x68 == (i64 (-x_20)))) rfl (fun hc94=>?_) (fun hc94=>?_)))
 have hB20:=(ite_t hc94).symm.trans hB20
 refine sq (L_bld rfl (parts0 ) (bld_43_  ) (L_staB (vs:=#[S0,I 0]) (cs2:=#[S0,I 0]) 1 rfl Try.sizeOf43 ((hS77 2 rfl).trans sf2) rfl rfl (ones_cons rfl (ones_cons rfl ones_nil)) hst rfl (by show 0 + 2≤2; decide) rfl (fun w96 hst=>aB rfl (nn (W_ret (retG2 (v1:=.agg #[S0,I 0]) (v2:=Bo false) Try.results47 (resV_agg Try.isAgg43 Try.sizeOf43 ((hS77 2 rfl).trans sf2) (Star.blkAt 0 hst rfl) rfl) rfl ?_))))))
 obtain rfl:=so hB20
 obtain rfl:=so hL20
 obtain rfl:=so hF
 have hst:=Star.addNil (R:=(OR.frz rTerm)) (e:=112) hst
 exact ⟨S0,rfl,(Star.down (Star.keepN 1 hst) (Le.trans l19 hE77) (co closed_term c0))⟩
 have hB20:=(ite_f hc94).symm.trans hB20
 refine W_skip (W_region (mF ((hS77 4 rfl).trans sf4) rfl (mF ((hS77 6 rfl).trans rfl) rfl (mF ((hS77 0 rfl).trans sf0) rfl (mF ((hS77 5 rfl).trans sf5) rfl (L_ix (r:=RP.int) rfl Try.underlying65 Try.sizeOf3 rfl (RP.mono _ h0 (Le.trans l19 hE77)) rfl hix20 (fun g103 o104 cs_g103 hrk_hat105 hat105=>?_)))))))
 obtain rfl : _ = [_]:=hrk_hat105
 refine L_ld rfl Try.isAgg3 rfl (At.cell (AtH.at hat105 hst.sub) (j:=0) rfl) (L_ixO (R:=(OR.frz RP.int)) (tb:=0) 0 rfl Try.underlying65 Try.sizeOf3 rfl hv79 (by first | rfl | simp) rfl hx68 ?_)
 have hst:=Star.addF (r:=RP.int) (cs:=[I x_20]) (x:=x_20) hst rfl
 refine L_stE1 (u:=I x_20) rfl Try.sizeOf3 rfl rfl rfl hv79 hst hx68 (fun w107 hst=>?_)
 refine nn (W_region (mF ((hS77 5 rfl).trans sf5) rfl (L_add rfl rfl rfl (aI rfl (nn ?_)))))
 obtain rfl:=so hB20
 show ∃ m,m < _∧I20 m _ _
 refine ⟨rest20.length,by simp,?_⟩
 exact ij hI20 ⟨i_16 + 1,rest20,(seen_17.set (Int.toNat x56) x_20),H77,rfl,drop_next hd20,by simp at hl20; omega,hL20,(Le.trans l19 hE77),((hS77 0 rfl).trans sf0),((hS77 2 rfl).trans sf2),((hS77 4 rfl).trans sf4),(Eq.trans rfl (congrArg (Value.int .i64) (i64_succ (n:=lits.length) (by simp at hl20; omega) hlen20))),hst⟩
 rcases suf20 with _ | ⟨_,_⟩
 obtain rfl:=range_nil hL20
 refine W_exit (rj hR20 ⟨seen_17,H18,rfl,l19,sf2,sf4,hst⟩)
 exact absurd (of_decide_eq_false hc21) (by simp at hl20; omega)
 intro f w_ hR
 obtain ⟨seen_17,H18,rfl,l19,sf2,sf4,hst⟩:=rk hR20 hR
 refine sq (L_bld rfl (parts1 rfl) (bld_43_1 (I 1) rfl) (L_al (cs:=#[S0,I 0]) rfl Try.zeroValue43 rfl hst (fun g111 w112 hst=>L_staB (vs:=#[S0,I 1]) (cs2:=#[S0,I 1]) 0 rfl Try.sizeOf43 rfl rfl rfl (ones_cons rfl (ones_cons rfl ones_nil)) hst rfl (by show 0 + 2≤2; decide) rfl (fun w113 hst=>nq (sq (aI rfl (nn ?_)))))))
 obtain ⟨k120,hk120,hF⟩:=bind_some hF
 obtain ⟨j119,hL119,hF⟩:=bind_some hF
 obtain ⟨R119,hR119⟩:=exR fun f w_=>∃ g111_0_115 : List Term,∃ H117 : FH,∃ v115_g111_0 : Value,j119 = .nx g111_0_115∧Le H18 H117∧f 2 = Pt g3∧f 7 = Pt g111∧Star H117 w_ ([oF 112 rTerm v115_g111_0 g111_0_115,box g111 43 #[v115_g111_0,I 1],box g3 43 #[S0,I 0]])
 refine W_join R119 ?_ ?_
 refine W_block ?_
 obtain ⟨I119,hI119⟩:=exI fun n f w_=>∃ i_114 : Nat,∃ suf119 : Nat,∃ g111_0_115 : List Term,∃ H117 : FH,∃ v115_g111_0 : Value,suf119 = n∧1≤i_114∧i_114 + suf119 = 1 + k120∧countL (s_ClauseOf_b2 seen_17) suf119 i_114 g111_0_115 = some j119∧Le H18 H117∧f 2 = Pt g3∧f 4 = v9∧f 7 = Pt g111∧f 8 = I i_114∧Star H117 w_ ([oF 3 RP.int v9 seen_17,oF 112 rTerm v115_g111_0 g111_0_115,box g111 43 #[v115_g111_0,I 1],box g3 43 #[S0,I 0]])
 have hst:=Star.addNil (R:=(OR.frz rTerm)) (e:=112) hst
 have hst:=hst.gets [3,2,2,3] rfl
 refine W_loop I119 (n:=k120) ?_ ?_
 exact ij hI119 ⟨1,k120,[],H18,S0,rfl,Nat.le_refl _,rfl,hL119,(Le.refl _),sf2,sf4,rfl,rfl,hst⟩
 intro n119 f w_ hI
 obtain ⟨i_114,suf119,g111_0_115,H117,v115_g111_0,rfl,hs119,hl119,hL119,l118,sf2,sf4,sf7,sf8,hst⟩:=ik hI119 hI
 refine W_seq (sq (mF sf8 rfl (L_leq rfl rfl rfl (nn (W_cond (b:=decide ((i_114 : Int)≤12)) rfl (fun hc122=>?_) (fun hc122=>?_))))))
 have hlt119:=of_decide_eq_true hc122
 rcases suf119 with _ | rest119
 exact absurd hlt119 (cntF_noL hl119 hk120)
 obtain ⟨o119,hB119,hL119⟩:=count_succ hL119
 rw [s_ClauseOf_b2] at hB119
 refine W_skip (W_seq (W_block (W_seq ?_)))
 obtain ⟨x123,hx123,hB119⟩:=bind_some hB119
 refine W_region (mF sf4 rfl (mF sf8 rfl ?_))
 obtain ⟨g128,cap_g128,hv129,_,_⟩:=Star.row 0 hst rfl hx123
 refine L_ixO (R:=(OR.frz RP.int)) (tb:=0) 0 rfl Try.underlying65 Try.sizeOf3 rfl hv129 (by first | rfl | simp) rfl hx123 ?_
 obtain ⟨cs130,hr130,hat130⟩:=Star.eltF 0 hst rfl hv129 hx123
 obtain rfl : _ = [_]:=hr130
 refine L_ld rfl Try.isAgg3 rfl (At.cell hat130 (j:=0) rfl) (L_neq rfl rfl rfl (nn ?_))
 obtain ⟨g111_0_132,hA136,hB119⟩:=bind_some hB119
 obtain ⟨R136,hR136⟩:=exR fun f w_=>∃ H134 : FH,∃ v132_g111_0 : Value,Le H117 H134∧f 2 = Pt g3∧f 4 = v9∧f 7 = Pt g111∧f 8 = I i_114∧Star H134 w_ ([oF 3 RP.int v9 seen_17,oF 112 rTerm v132_g111_0 g111_0_132,box g111 43 #[v132_g111_0,I 1],box g3 43 #[S0,I 0]])
 refine W_join R136 ?_ ?_
 refine W_cond (b:=(x123 != 0)) rfl (fun hc137=>?_) (fun hc137=>?_)
 have hA136:=(ite_t hc137).symm.trans hA136
 obtain ⟨x143,hx143,hA136⟩:=bind_some hA136
 refine W_drawS 8 [isV (Pt g111),isV (v115_g111_0),isV (v9),isV (I i_114),isV (.pointer (some ⟨g128,Int.toNat (i_114 : Int) * 1,none⟩)),isV (I x123),isV (.agg #[I 1,I x123]),anyF] [oF 3 RP.int v9 seen_17,oF 112 rTerm v115_g111_0 g111_0_115,box g111 43 #[v115_g111_0,I 1],box g3 43 #[S0,I 0]] [.made 7 67 (fun v_=>oF 112 rTerm v_ ([({ coef:=1,lit:=x123 } : Term)])) none] ([]) [([],[]),([],[]),([],[]),([],[]),([],[]),([],[]),([],[]),([],[0])] (S:=[(some 7,[67],none)]) Try_mix (by kernel_rfl) rfl (by kernel_rfl) (amF_cons (mono_V _) (amF_cons (mono_V _) (amF_cons (mono_V _) (amF_cons (mono_V _) (amF_cons (mono_V _) (amF_cons (mono_V _) (amF_cons (mono_V _) (amF_cons (mono_any) amF_nil)))))))) hst ?_ (fun f w_ H148 hS148 hE148 hT148 hst=>?_)
 refine opsS_cons (fun f w_ _ _ s _ _ hst=>fA 0 fa_43_0 ((s 7 rfl).trans sf7) rfl (nO rfl rfl hst)) (opsS_cons (fun f w_ _ _ _ _ p hst=>ldB 2 hst Try.isAgg41 (p 0 60 rfl rfl) rfl rfl (nO rfl rfl hst)) (opsS_cons (fun f w_ _ _ s _ _ hst=>mF ((s 4 rfl).trans sf4) rfl (nO rfl rfl hst)) (opsS_cons (fun f w_ _ _ s _ _ hst=>mF ((s 8 rfl).trans sf8) rfl (nO rfl rfl hst)) (opsS_cons (fun f w_ _ _ _ _ p hst=>L_ixO (R:=(OR.frz RP.int)) (tb:=0) 0 rfl Try.underlying65 Try.sizeOf3 (p 2 62 rfl rfl) hv129 (by first | rfl | simp) (p 3 63 rfl rfl) hx123 (nO rfl rfl hst)) (opsS_cons ?_ ?_)))))
 intro f w_ H148 X148 hS148 hE148 hP148 hst
 obtain ⟨cs154,hr154,hat154⟩:=Star.eltF 0 hst rfl hv129 hx123
 obtain rfl : _ = [_]:=hr154
 refine L_ld rfl Try.isAgg3 (hP148 4 64 rfl rfl) (At.cell hat154 (j:=0) rfl) (L_nil ⟨rfl,_,_,rfl,Le.refl _,fun _ _=>rfl,hst⟩)
 refine opsS_cons (fun f w_ _ _ _ _ p hst=>L_bld rfl (parts2 rfl (p 5 65 rfl rfl)) (bld_112_0_1 (I 1) (I x123) rfl rfl) (nO rfl rfl hst)) (opsS_cons ?_ ?_)
 intro f w_ H148 X148 hS148 hE148 hP148 hst
 refine L_bs rfl (parts1 (hP148 6 66 rfl rfl)) (bs_41_1_2 (I 1) (I x123) ) hst (fun g156 w157 hst=>?_)
 have hst:=Star.addF (r:=rTerm) (cs:=[I 1,I x123]) (x:=({ coef:=1,lit:=x123 } : Term)) hst (rTerm_iff.2 rfl)
 have hst:=Star.mkRow (R:=(OR.frz rTerm)) [([I 1,I x123],({ coef:=1,lit:=x123 } : Term))] [({ coef:=1,lit:=x123 } : Term)] 1 hst rfl rfl rfl (by decide)
 have hst:=hst.gets [4,4,4,4] rfl
 exact L_nil ⟨rfl,_,_,rfl,Le.refl _,fun _ _=>trivial,hst⟩
 exact opsS_nil
 have hst : Star H148 w_ ([oF 3 RP.int v9 seen_17,oF 112 rTerm v115_g111_0 g111_0_115,box g111 43 #[v115_g111_0,I 1],box g3 43 #[S0,I 0],oF 112 rTerm (f 67) ([({ coef:=1,lit:=x123 } : Term)])]):=hst
 have hst:=hst.gets [4,2] rfl
 refine L_appM (v:=v115_g111_0) (u:=(f 67)) rfl et_41 (hT148 1 61 rfl rfl) rfl hst hx143 (fun v160 w161 hst=>fA 0 fa_43_0 ((hS148 7 rfl).trans sf7) rfl (L_stB (v:=v160) (cs2:=#[v160,I 1]) 2 rfl Try.sizeOf41 rfl rfl (one_len (Star.len 0 hst rfl)) hst rfl rfl rfl (fun w163 hst=>nn ?_)))
 obtain rfl:=so hA136
 have hst:=hst.gets [3,1,2,3] rfl
 exact rj hR136 ⟨H148,v160,hE148,((hS148 2 rfl).trans sf2),((hS148 4 rfl).trans sf4),((hS148 7 rfl).trans sf7),((hS148 8 rfl).trans sf8),hst⟩
 have hA136:=(ite_f hc137).symm.trans hA136
 refine W_skip ?_
 obtain rfl:=so hA136
 exact rj hR136 ⟨H117,v115_g111_0,(Le.refl _),sf2,sf4,sf7,sf8,hst⟩
 intro f w_ hR
 obtain ⟨H134,v132_g111_0,l135,sf2,sf4,sf7,sf8,hst⟩:=rk hR136 hR
 refine W_region (mF sf8 rfl (L_add rfl rfl rfl (aI rfl (nn ?_))))
 obtain rfl:=so hB119
 show ∃ m,m < _∧I119 m _ _
 refine ⟨rest119,Nat.lt_succ_self _,?_⟩
 exact ij hI119 ⟨i_114 + 1,rest119,g111_0_132,H134,v132_g111_0,rfl,by omega,by omega,hL119,(Le.trans l118 l135),sf2,sf4,sf7,(Eq.trans rfl (congrArg (Value.int .i64) (i64_succ (n:=1 + k120) (by omega) (cntF_le hk120)))),hst⟩
 rcases suf119 with _ | _
 obtain rfl:=count_zero hL119
 refine W_exit ?_
 have hst:=hst.gets [3,3,3] rfl
 exact rj hR119 ⟨g111_0_115,H117,v115_g111_0,rfl,l118,sf2,sf7,(Star.keepN 3 hst)⟩
 exact absurd (cntF_yesL hs119 hl119 hk120) (of_decide_eq_false hc122)
 intro f w_ hR
 obtain ⟨g111_0_115,H117,v115_g111_0,rfl,l118,sf2,sf7,hst⟩:=rk hR119 hR
 refine sq (L_lda (cs:=[v115_g111_0,I 1]) rfl Try.isAgg43 Try.sizeOf43 sf7 (At.sub0 (Blk.at (Star.blkAt 1 hst rfl)) 0 2) rfl (L_staB (vs:=#[v115_g111_0,I 1]) (cs2:=#[v115_g111_0,I 1]) 2 rfl Try.sizeOf43 sf2 rfl rfl (ones_cons (one_len (Star.len 0 hst rfl)) (ones_cons rfl ones_nil)) hst rfl (by show 0 + 2≤2; decide) rfl (fun w165 hst=>aB rfl (nn (W_ret (retG2 (v1:=.agg #[v115_g111_0,I 1]) (v2:=Bo true) Try.results47 (resV_agg Try.isAgg43 Try.sizeOf43 sf2 (Star.blkAt 0 hst rfl) rfl) rfl ?_))))))
 obtain rfl:=so hF
 have hst:=hst.get 1 rfl
 exact ⟨v115_g111_0,rfl,(Star.down (Star.keepN 1 hst) (Le.trans l19 l118) (co closed_term c0))⟩
theorem s_l5Learn_c {s : Sst} {decisions : List Int} {v0_0 : Value} {v0_1 : Value} {v1 : Value} {H : FH} {w : World} {R : List Ass} (hst : Star H w (oF 43 (rCon 112) v0_0 s.list :: oF 93 (rStep 112) v0_1 s.steps :: R)) (h1 : (rS 3 RP.int).rel H [v1] decisions) {r : Sst} (hF : s_l5Learn s decisions = some r) :
 C Try.prog 114 #[.agg #[v0_0,v0_1,I s.fuel],v1] w fun v w'=>∃ H' : FH,Le H H'∧∃ (u1 : Value) (u2 : Value),v = .agg #[u1,u2,I r.fuel]∧Star H' w' (oF 43 (rCon 112) u1 r.list :: oF 93 (rStep 112) u2 r.steps :: R):=by
 unfold s_l5Learn at hF
 refine C_enter Try.func114 rfl Try.ntmps114 rfl (sq (L_box (v:=.agg #[v0_0,v0_1,I s.fuel]) (cs:=#[v0_0,v0_1,I s.fuel]) rfl rfl rfl hst (fun g5 w6 hst=>L_al (cs:=#[S0,S0,I 0]) rfl Try.zeroValue89 rfl hst (fun g7 w8 hst=>ns (L_bs rfl parts0 (bs_65_0  ) hst (fun g12 w13 hst=>?_))))))
 have hst:=Star.mkRow (R:=(OR.frz RP.int)) [] [] 0 hst rfl rfl rfl (by decide)
 refine aV (Sl g12 0 0) rfl (nq (sq (aI rfl (nn ?_))))
 have hlen18 : List.length decisions≤9223372036854775807:=len_le (slice_len h1)
 obtain ⟨j18,hL18,hF⟩:=bind_some hF
 obtain ⟨R18,hR18⟩:=exR fun f w_=>∃ lits_16 : List Int,∃ v16_lits : Value,j18 = .nx lits_16∧f 2 = Pt g5∧f 4 = Pt g7∧f 5 = v16_lits∧Star H w_ (oF 3 RP.int v16_lits lits_16 :: box g7 89 #[S0,S0,I 0] :: oF 43 (rCon 112) v0_0 s.list :: oF 93 (rStep 112) v0_1 s.steps :: box g5 89 #[v0_0,v0_1,I s.fuel] :: R)
 refine W_join R18 ?_ ?_
 refine W_block ?_
 obtain ⟨I18,hI18⟩:=exI fun n f w_=>∃ i_15 : Nat,∃ suf18 : List Int,∃ lits_16 : List Int,∃ v16_lits : Value,n = suf18.length∧List.drop i_15 decisions = suf18∧i_15 + suf18.length = decisions.length∧rangeL s_l5Learn_b1 suf18 i_15 lits_16 = some j18∧f 1 = v1∧f 2 = Pt g5∧f 4 = Pt g7∧f 5 = v16_lits∧f 6 = I i_15∧Star H w_ (oF 3 RP.int v16_lits lits_16 :: box g7 89 #[S0,S0,I 0] :: oF 43 (rCon 112) v0_0 s.list :: oF 93 (rStep 112) v0_1 s.steps :: box g5 89 #[v0_0,v0_1,I s.fuel] :: R)
 have hst:=hst.gets [2,4,4,4,4] rfl
 refine W_loop I18 (n:=decisions.length) ?_ ?_
 exact ij hI18 ⟨0,decisions,[],(Sl g12 0 0),rfl,rfl,Nat.zero_add _,hL18,rfl,rfl,rfl,rfl,rfl,hst⟩
 intro n18 f w_ hI
 obtain ⟨i_15,suf18,lits_16,v16_lits,rfl,hd18,hl18,hL18,sf1,sf2,sf4,sf5,sf6,hst⟩:=ik hI18 hI
 refine W_seq (sq (mF sf6 rfl (mF sf1 rfl (L_len rfl Try.underlying65 rfl (slice_len h1) (L_lss rfl rfl rfl (nn (W_cond (b:=decide ((i_15 : Int) < (decisions.length : Int))) rfl (fun hc19=>?_) (fun hc19=>?_))))))))
 have hlt18:=of_decide_eq_true hc19
 rcases suf18 with _ | ⟨x_18,rest18⟩
 exact absurd hlt18 (by simp at hl18; omega)
 obtain ⟨o18,hB18,hL18⟩:=range_cons hL18
 rw [s_l5Learn_b1] at hB18
 have hix18:=drop_idx hd18
 refine W_skip (W_seq (W_block ?_))
 obtain ⟨x27,hx27,hB18⟩:=bind_some hB18
 refine W_region (mF sf5 rfl (mF sf1 rfl (mF sf6 rfl (L_ix (r:=RP.int) rfl Try.underlying65 Try.sizeOf3 rfl h1 rfl hix18 (fun g31 o32 cs_g31 hrk_hat33 hat33=>?_)))))
 obtain rfl : _ = [_]:=hrk_hat33
 refine L_ld rfl Try.isAgg3 rfl (At.cell (AtH.at hat33 hst.sub) (j:=0) rfl) (L_neg rfl rfl (L_bs rfl (parts1 rfl) (bs_65_1_0 (I (i64 (-x_18))) rfl) hst (fun g35 w36 hst=>?_)))
 have hst:=Star.addF (r:=RP.int) (cs:=[I (i64 (-x_18))]) (x:=(i64 (-x_18))) hst rfl
 have hst:=Star.mkRow (R:=(OR.frz RP.int)) [([I (i64 (-x_18))],i64 (-x_18))] [i64 (-x_18)] 1 hst rfl rfl rfl (by decide)
 have hst:=hst.get 1 rfl
 refine L_appM (v:=v16_lits) (u:=(Sl g35 1 1)) rfl et_65 rfl rfl hst hx27 (fun v38 w39 hst=>aV v38 rfl (nn (W_region (mF sf6 rfl (L_add rfl rfl rfl (aI rfl (nn ?_)))))))
 obtain rfl:=so hB18
 show ∃ m,m < _∧I18 m _ _
 refine ⟨rest18.length,by simp,?_⟩
 exact ij hI18 ⟨i_15 + 1,rest18,x27,v38,rfl,drop_next hd18,by simp at hl18; omega,hL18,sf1,sf2,sf4,rfl,(Eq.trans rfl (congrArg (Value.int .i64) (i64_succ (n:=decisions.length) (by simp at hl18; omega) hlen18))),hst⟩
 rcases suf18 with _ | ⟨_,_⟩
 obtain rfl:=range_nil hL18
 refine W_exit (rj hR18 ⟨lits_16,v16_lits,rfl,sf2,sf4,sf5,hst⟩)
 exact absurd (of_decide_eq_false hc19) (by simp at hl18; omega)
 intro f w_ hR
 obtain ⟨lits_16,v16_lits,rfl,sf2,sf4,sf5,hst⟩:=rk hR18 hR
 refine W_seq ?_
 obtain ⟨x47,hx47,hF⟩:=bind_some hF
 refine W_region (mF sf5 rfl ?_)
 obtain ⟨H53b,l54,s55,z56,k57⟩:=hst.borrow
 have hb58 : (rS 3 RP.int).rel H53b [v16_lits] lits_16:=fz_own 0 z56 rfl
 refine L_call rfl Try.call47 (ops1 rfl) (s_ClauseOf_c (lits:=lits_16) s55 hb58 hx47) ?_
 rintro _ w59 ⟨r59_0,rfl,hst⟩
 have hst:=k57 hst (co closed_term c0)
 refine mV (.tuple #[.agg #[r59_0,I x47.1.bound],Bo x47.2]) rfl (L_ex (v:=.agg #[r59_0,I x47.1.bound]) rfl rfl rfl (L_ex (v:=Bo x47.2) rfl rfl rfl (L_al (cs:=#[S0,I 0]) rfl Try.zeroValue43 rfl hst (fun g61 w62 hst=>L_staB (vs:=#[r59_0,I x47.1.bound]) (cs2:=#[r59_0,I x47.1.bound]) 0 rfl Try.sizeOf43 rfl rfl rfl (ones_cons (one_len (Star.len 1 hst rfl)) (ones_cons rfl ones_nil)) hst rfl (by show 0 + 2≤2; decide) rfl (fun w63 hst=>aB rfl (nq ?_))))))
 obtain ⟨x72,hx72,hF⟩:=bind_some hF
 refine W_region (fA 0 fa_89_0 sf2 rfl (ldB 6 hst Try.isAgg23 rfl rfl rfl (L_lda (cs:=[r59_0,I x47.1.bound]) rfl Try.isAgg43 Try.sizeOf43 rfl (At.sub0 (Blk.at (Star.blkAt 0 hst rfl)) 0 2) rfl ?_)))
 have hst:=hst.get 1 rfl
 obtain ⟨H79,l80,hst,hz81⟩:=Star.freeze hst
 have hz81 : (rS 112 rTerm).rel H79 [r59_0] x47.1.terms:=hz81
 refine L_bs rfl (parts1 rfl) (bs_23_1_2 (r59_0) (I x47.1.bound) ) hst (fun g82 w83 hst=>?_)
 have hst:=Star.addF (r:=(rCon 112)) (cs:=[r59_0,I x47.1.bound]) (x:=x47.1) hst (rCon_iff.2 ⟨_,rfl,hz81⟩)
 have hst:=Star.mkRow (R:=(OR.frz (rCon 112))) [([r59_0,I x47.1.bound],x47.1)] [x47.1] 1 hst rfl rfl rfl (by decide)
 have hst:=hst.get 4 rfl
 refine L_appM (v:=v0_0) (u:=(Sl g82 1 1)) rfl et_23 rfl rfl hst hx72 (fun v85 w86 hst=>fA 0 fa_89_0 sf2 rfl (L_stB (v:=v85) (cs2:=#[v85,v0_1,I s.fuel]) 5 rfl Try.sizeOf23 rfl rfl (one_len (Star.len 0 hst rfl)) hst rfl rfl rfl (fun w88 hst=>nq ?_)))
 obtain ⟨x92,hx92,hF⟩:=bind_some hF
 refine W_region (fA 1 fa_89_1 sf2 rfl (ldB 0 hst Try.isAgg30 rfl rfl rfl (L_lda (cs:=[r59_0,I x47.1.bound]) rfl Try.isAgg43 Try.sizeOf43 rfl (At.sub0 (Blk.at (Star.blkAt 2 hst rfl)) 0 2) rfl (L_bld rfl (parts2 rfl rfl) (bld_93_0_3x2 (I 7) (r59_0) (I x47.1.bound) rfl) (L_bs rfl (parts1 rfl) (bs_30_1_5 (I 7) (I 0) (I 0) (r59_0) (I x47.1.bound) ) hst (fun g97 w98 hst=>?_))))))
 have hst:=Star.addF (r:=(rStep 112)) (cs:=[I 7,I 0,I 0,r59_0,I x47.1.bound]) (x:=({ kind:=7,a:=0,b:=0,given:=x47.1 } : Step)) hst (rStep_iff.2 ⟨_,rfl,hz81⟩)
 have hst:=Star.mkRow (R:=(OR.frz (rStep 112))) [([I 7,I 0,I 0,r59_0,I x47.1.bound],({ kind:=7,a:=0,b:=0,given:=x47.1 } : Step))] [({ kind:=7,a:=0,b:=0,given:=x47.1 } : Step)] 1 hst rfl rfl rfl (by decide)
 have hst:=hst.get 6 rfl
 refine L_appM (v:=v0_1) (u:=(Sl g97 1 1)) rfl et_30 rfl rfl hst hx92 (fun v100 w101 hst=>fA 1 fa_89_1 sf2 rfl (L_stB (v:=v100) (cs2:=#[v85,v100,I s.fuel]) 1 rfl Try.sizeOf30 rfl rfl (one_len (Star.len 0 hst rfl)) hst rfl rfl rfl (fun w103 hst=>ns (L_lda (cs:=[v85,v100,I s.fuel]) rfl Try.isAgg89 Try.sizeOf89 sf2 (At.sub0 (Blk.at (Star.blkAt 0 hst rfl)) 0 3) rfl (L_staB (vs:=#[v85,v100,I s.fuel]) (cs2:=#[v85,v100,I s.fuel]) 5 rfl Try.sizeOf89 sf4 rfl rfl (ones_cons (one_len (Star.len 2 hst rfl)) (ones_cons (one_len (Star.len 1 hst rfl)) (ones_cons rfl ones_nil))) hst rfl (by show 0 + 3≤3; decide) rfl (fun w105 hst=>nn (W_ret (retG1 (v1:=.agg #[v85,v100,I s.fuel]) Try.results114 (resV_agg Try.isAgg89 Try.sizeOf89 sf4 (Star.blkAt 0 hst rfl) rfl) ?_))))))))
 obtain rfl:=so hF
 have hst:=hst.gets [2,3] rfl
 have hst:=Star.drop 2 hst rfl
 have hst:=Star.drop 2 hst rfl
 have hst:=Star.drop 2 hst rfl
 have hst:=Star.drop 2 hst rfl
 exact ⟨H79,l80,v85,v100,rfl,hst⟩
theorem s_l5Free_c {p : List Int} {v0 : Value} {H : FH} {w : World} (hst : Star H w []) (h0 : (rS 3 RP.int).rel H [v0] p) {r : Int} (hF : s_l5Free p = some r) :
 C Try.prog 115 #[v0] w fun v w'=>v = I r∧Star H w' []:=by
 unfold s_l5Free at hF
 refine C_enter Try.func115 rfl Try.ntmps115 rfl (sq (aI rfl (nq (sq (aI rfl (nn ?_))))))
 have hlen2 : List.length p≤9223372036854775807:=len_le (slice_len h0)
 obtain ⟨j2,hL2,hF⟩:=bind_some hF
 obtain ⟨R2,hR2⟩:=exR fun f w_=>j2 = .nx ()∧Star H w_ ([])
 refine W_join R2 ?_ ?_
 refine W_block ?_
 obtain ⟨I2,hI2⟩:=exI fun n f w_=>∃ i_1 : Nat,∃ suf2 : List Int,n = suf2.length∧List.drop i_1 p = suf2∧i_1 + suf2.length = p.length∧rangeL s_l5Free_b1 suf2 i_1 () = some j2∧f 0 = v0∧f 3 = I i_1∧Star H w_ ([])
 refine W_loop I2 (n:=p.length) ?_ ?_
 exact ij hI2 ⟨0,p,rfl,rfl,Nat.zero_add _,hL2,rfl,rfl,hst⟩
 intro n2 f w_ hI
 obtain ⟨i_1,suf2,rfl,hd2,hl2,hL2,sf0,sf3,hst⟩:=ik hI2 hI
 refine W_seq (sq (mF sf3 rfl (mF sf0 rfl (L_len rfl Try.underlying65 rfl (slice_len h0) (L_lss rfl rfl rfl (nn (W_cond (b:=decide ((i_1 : Int) < (p.length : Int))) rfl (fun hc3=>?_) (fun hc3=>?_))))))))
 have hlt2:=of_decide_eq_true hc3
 rcases suf2 with _ | ⟨x_2,rest2⟩
 exact absurd hlt2 (by simp at hl2; omega)
 obtain ⟨o2,hB2,hL2⟩:=range_cons hL2
 rw [s_l5Free_b1] at hB2
 have hix2:=drop_idx hd2
 refine W_skip (W_seq (W_block (sq (mF sf0 rfl (mF sf3 rfl (L_ix (r:=RP.int) rfl Try.underlying65 Try.sizeOf3 rfl h0 rfl hix2 (fun g8 o9 cs_g8 hrk_hat10 hat10=>?_)))))))
 obtain rfl : _ = [_]:=hrk_hat10
 refine L_ld rfl Try.isAgg3 rfl (At.cell (AtH.at hat10 hst.sub) (j:=0) rfl) (L_eql rfl rfl rfl (nn (W_cond (b:=(x_2 == 0)) rfl (fun hc12=>?_) (fun hc12=>?_))))
 have hB2:=(ite_t hc12).symm.trans hB2
 refine sq (mF sf3 rfl (L_add rfl rfl rfl (aI rfl (nn (W_ret (retG1 (v1:=I (i64 ((i_1 : Int) + 1))) Try.results115 rfl ?_))))))
 obtain rfl:=so hB2
 obtain rfl:=so hL2
 obtain rfl:=so hF
 exact ⟨rfl,hst⟩
 have hB2:=(ite_f hc12).symm.trans hB2
 refine W_skip (W_region (mF sf3 rfl (L_add rfl rfl rfl (aI rfl (nn ?_)))))
 obtain rfl:=so hB2
 show ∃ m,m < _∧I2 m _ _
 refine ⟨rest2.length,by simp,?_⟩
 exact ij hI2 ⟨i_1 + 1,rest2,rfl,drop_next hd2,by simp at hl2; omega,hL2,sf0,(Eq.trans rfl (congrArg (Value.int .i64) (i64_succ (n:=p.length) (by simp at hl2; omega) hlen2))),hst⟩
 rcases suf2 with _ | ⟨_,_⟩
 obtain rfl:=range_nil hL2
 refine W_exit (rj hR2 ⟨rfl,hst⟩)
 exact absurd (of_decide_eq_false hc3) (by simp at hl2; omega)
 intro f w_ hR
 obtain ⟨rfl,hst⟩:=rk hR2 hR
 refine sq (aI rfl (nn (W_ret (retG1 (v1:=I 0) Try.results115 rfl ?_))))
 obtain rfl:=so hF
 exact ⟨rfl,hst⟩
theorem s_l5Search_F_c {fu : Nat} {rec_ : Sst→(List Int)→Option (Sst × Int × (List Bool))} (hrec : ∀ {s : Sst} {decisions : List Int} {v0_0 : Value} {v0_1 : Value} {v1 : Value} {H : FH} {w : World} {R : List Ass} (hst : Star H w (oF 43 (rCon 112) v0_0 s.list :: oF 93 (rStep 112) v0_1 s.steps :: R)) (h1 : (rS 3 RP.int).rel H [v1] decisions) {r : Sst × Int × (List Bool)} (hF : rec_ s decisions = some r),C Try.prog 69 #[.agg #[v0_0,v0_1,I s.fuel],v1] w fun v w'=>∃ H' : FH,Le H H'∧∃ (u1 : Value) (u2 : Value) (u3 : Value),v = .tuple #[.agg #[u1,u2,I r.1.fuel],I r.2.1,u3]∧Star H' w' (oF 43 (rCon 112) u1 r.1.list :: oF 93 (rStep 112) u2 r.1.steps :: oF 4 RP.bool u3 r.2.2 :: R)) {s : Sst} {decisions : List Int} {v0_0 : Value} {v0_1 : Value} {v1 : Value} {H : FH} {w : World} {R : List Ass} (hst : Star H w (oF 43 (rCon 112) v0_0 s.list :: oF 93 (rStep 112) v0_1 s.steps :: R)) (h1 : (rS 3 RP.int).rel H [v1] decisions) {r : Sst × Int × (List Bool)} (hF : s_l5Search_F fu rec_ s decisions = some r) :
 C Try.prog 69 #[.agg #[v0_0,v0_1,I s.fuel],v1] w fun v w'=>∃ H' : FH,Le H H'∧∃ (u1 : Value) (u2 : Value) (u3 : Value),v = .tuple #[.agg #[u1,u2,I r.1.fuel],I r.2.1,u3]∧Star H' w' (oF 43 (rCon 112) u1 r.1.list :: oF 93 (rStep 112) u2 r.1.steps :: oF 4 RP.bool u3 r.2.2 :: R):=by
 unfold s_l5Search_F at hF
 refine C_enter Try.func69 rfl Try.ntmps69 rfl (sq (L_box (v:=.agg #[v0_0,v0_1,I s.fuel]) (cs:=#[v0_0,v0_1,I s.fuel]) rfl rfl rfl hst (fun g5 w6 hst=>L_al (cs:=#[S0,S0,I 0]) rfl Try.zeroValue89 rfl hst (fun g7 w8 hst=>aI rfl (aV S0 rfl (nq (W_seq ?_)))))))
 obtain ⟨R9,hR9⟩:=exR fun f w_=>f 1 = v1∧f 2 = Pt g5∧f 4 = Pt g7∧f 24 = Bo ((s.fuel == 0) || (decide ((s.steps.length : Int) ≥ 1000)))∧Star H w_ (box g7 89 #[S0,S0,I 0] :: oF 43 (rCon 112) v0_0 s.list :: oF 93 (rStep 112) v0_1 s.steps :: box g5 89 #[v0_0,v0_1,I s.fuel] :: R)
 refine W_join R9 ?_ ?_
 refine W_region (fA 2 fa_89_2 rfl rfl (ldB 1 hst Try.isAgg3 rfl rfl rfl (L_eql rfl rfl rfl (mB rfl (L_split (d:=19) (b:=(s.fuel == 0)) rfl (fun hc10=>?_) (fun hc10=>?_))))))
 refine ps rfl (ps rfl (ps rfl (ps rfl (L_pick (v:=Bo ((s.fuel == 0) || (decide ((s.steps.length : Int) ≥ 1000)))) rfl rfl (or_t hc10) (nn ?_)))))
 have hst:=hst.gets [1,3,3,3] rfl
 exact rj hR9 ⟨rfl,rfl,rfl,rfl,hst⟩
 refine fA 1 fa_89_1 rfl rfl (ldB 1 hst Try.isAgg30 rfl rfl rfl (L_len rfl Try.underlying30 rfl (Star.len 3 hst rfl) (L_geq rfl rfl rfl (L_pick (v:=Bo ((s.fuel == 0) || (decide ((s.steps.length : Int) ≥ 1000)))) rfl rfl (or_f hc10 rfl) (nn ?_)))))
 have hst:=hst.gets [1,3,3,3] rfl
 exact rj hR9 ⟨rfl,rfl,rfl,rfl,hst⟩
 intro f w_ hR
 obtain ⟨sf1,sf2,sf4,sf24,hst⟩:=rk hR9 hR
 refine W_cond (b:=((s.fuel == 0) || (decide ((s.steps.length : Int) ≥ 1000)))) sf24 (fun hc11=>?_) (fun hc11=>?_)
 have hF:=(ite_t hc11).symm.trans hF
 refine sq (L_lda (cs:=[v0_0,v0_1,I s.fuel]) rfl Try.isAgg89 Try.sizeOf89 sf2 (At.sub0 (Blk.at (Star.blkAt 3 hst rfl)) 0 3) rfl (L_bs rfl parts0 (bs_24_0  ) hst (fun g16 w17 hst=>?_)))
 have hst:=Star.mkRow (R:=(OR.frz RP.bool)) [] [] 0 hst rfl rfl rfl (by decide)
 refine L_staB (vs:=#[v0_0,v0_1,I s.fuel]) (cs2:=#[v0_0,v0_1,I s.fuel]) 1 rfl Try.sizeOf89 sf4 rfl rfl (ones_cons (one_len (Star.len 2 hst rfl)) (ones_cons (one_len (Star.len 3 hst rfl)) (ones_cons rfl ones_nil))) hst rfl (by show 0 + 3≤3; decide) rfl (fun w19 hst=>aI rfl (aV (Sl g16 0 0) rfl (nn (W_ret (retG3 (v1:=.agg #[v0_0,v0_1,I s.fuel]) (v2:=I 0) (v3:=(Sl g16 0 0)) Try.results69 (resV_agg Try.isAgg89 Try.sizeOf89 sf4 (Star.blkAt 0 hst rfl) rfl) rfl rfl ?_)))))
 obtain rfl:=so hF
 have hst:=hst.gets [1,3,3] rfl
 have hst:=Star.drop 3 hst rfl
 have hst:=Star.drop 3 hst rfl
 exact ⟨H,(Le.refl _),v0_0,v0_1,(Sl g16 0 0),rfl,hst⟩
 have hF:=(ite_f hc11).symm.trans hF
 refine W_skip (sq (fA 2 fa_89_2 sf2 rfl (ldB 3 hst Try.isAgg3 rfl rfl rfl (L_sub rfl rfl rfl (fA 2 fa_89_2 sf2 rfl (L_stB (v:=I (i64 (s.fuel - 1))) (cs2:=#[v0_0,v0_1,I (i64 (s.fuel - 1))]) 3 rfl Try.sizeOf3 rfl rfl rfl hst rfl rfl rfl (fun w21 hst=>nq ?_)))))))
 obtain ⟨x22,hx22,hF⟩:=bind_some hF
 refine W_region (L_mk (R:=(OR.frz RP.int)) (z0:=0) (zc:=[I 0]) rfl et_65 (by kernel_rfl) (fun _ _=>⟨rfl,rfl⟩) rfl rfl hx22 hst (fun v26 w27 hst=>aV v26 rfl (nq (sq (aI rfl (nn ?_))))))
 have hlen31 : List.length decisions≤9223372036854775807:=len_le (slice_len h1)
 obtain ⟨j31,hL31,hF⟩:=bind_some hF
 obtain ⟨R31,hR31⟩:=exR fun f w_=>∃ p_30 : List Int,j31 = .nx p_30∧f 1 = v1∧f 2 = Pt g5∧f 4 = Pt g7∧f 7 = v26∧Star H w_ (oF 3 RP.int v26 p_30 :: box g7 89 #[S0,S0,I 0] :: oF 43 (rCon 112) v0_0 s.list :: oF 93 (rStep 112) v0_1 s.steps :: box g5 89 #[v0_0,v0_1,I (i64 (s.fuel - 1))] :: R)
 refine W_join R31 ?_ ?_
 refine W_block ?_
 obtain ⟨I31,hI31⟩:=exI fun n f w_=>∃ i_29 : Nat,∃ suf31 : List Int,∃ p_30 : List Int,n = suf31.length∧List.drop i_29 decisions = suf31∧i_29 + suf31.length = decisions.length∧rangeL s_l5Search_b1 suf31 i_29 p_30 = some j31∧f 1 = v1∧f 2 = Pt g5∧f 4 = Pt g7∧f 7 = v26∧f 8 = I i_29∧Star H w_ (oF 3 RP.int v26 p_30 :: box g7 89 #[S0,S0,I 0] :: oF 43 (rCon 112) v0_0 s.list :: oF 93 (rStep 112) v0_1 s.steps :: box g5 89 #[v0_0,v0_1,I (i64 (s.fuel - 1))] :: R)
 have hst:=hst.gets [1,4,4,4,4] rfl
 refine W_loop I31 (n:=decisions.length) ?_ ?_
 exact ij hI31 ⟨0,decisions,x22,rfl,rfl,Nat.zero_add _,hL31,sf1,sf2,sf4,rfl,rfl,hst⟩
 intro n31 f w_ hI
 obtain ⟨i_29,suf31,p_30,rfl,hd31,hl31,hL31,sf1,sf2,sf4,sf7,sf8,hst⟩:=ik hI31 hI
 refine W_seq (sq (mF sf8 rfl (mF sf1 rfl (L_len rfl Try.underlying65 rfl (slice_len h1) (L_lss rfl rfl rfl (nn (W_cond (b:=decide ((i_29 : Int) < (decisions.length : Int))) rfl (fun hc32=>?_) (fun hc32=>?_))))))))
 have hlt31:=of_decide_eq_true hc32
 rcases suf31 with _ | ⟨x_31,rest31⟩
 exact absurd hlt31 (by simp at hl31; omega)
 obtain ⟨o31,hB31,hL31⟩:=range_cons hL31
 rw [s_l5Search_b1] at hB31
 have hix31:=drop_idx hd31
 refine W_skip (W_seq (W_block ?_))
 obtain ⟨x42,hx42,hB31⟩:=bind_some hB31
 refine W_region (mF sf7 rfl (mF sf1 rfl (mF sf8 rfl (L_ix (r:=RP.int) rfl Try.underlying65 Try.sizeOf3 rfl h1 rfl hix31 (fun g44 o45 cs_g44 hrk_hat46 hat46=>?_)))))
 obtain rfl : _ = [_]:=hrk_hat46
 refine L_ld rfl Try.isAgg3 rfl (At.cell (AtH.at hat46 hst.sub) (j:=0) rfl) ?_
 obtain ⟨H48b,l49,s50,z51,k52⟩:=hst.lend [_]
 refine L_call rfl Try.call112 (ops2 rfl rfl) (s_l3Assign_c (p:=p_30) (lit:=x_31) s50 hx42) ?_
 rintro _ w53 ⟨rfl,hst⟩
 have hst:=k52 hst (co closed_int c0)
 refine nn (W_region (mF sf8 rfl (L_add rfl rfl rfl (aI rfl (nn ?_)))))
 obtain rfl:=so hB31
 show ∃ m,m < _∧I31 m _ _
 refine ⟨rest31.length,by simp,?_⟩
 exact ij hI31 ⟨i_29 + 1,rest31,x42,rfl,drop_next hd31,by simp at hl31; omega,hL31,sf1,sf2,sf4,sf7,(Eq.trans rfl (congrArg (Value.int .i64) (i64_succ (n:=decisions.length) (by simp at hl31; omega) hlen31))),hst⟩
 rcases suf31 with _ | ⟨_,_⟩
 obtain rfl:=range_nil hL31
 refine W_exit (rj hR31 ⟨p_30,rfl,sf1,sf2,sf4,sf7,hst⟩)
 exact absurd (of_decide_eq_false hc32) (by simp at hl31; omega)
 intro f w_ hR
 obtain ⟨p_30,rfl,sf1,sf2,sf4,sf7,hst⟩:=rk hR31 hR
 refine W_seq (W_seq ?_)
 obtain ⟨x60,hx60,hF⟩:=bind_some hF
 refine W_region (fA 0 fa_89_0 sf2 rfl (ldB 4 hst Try.isAgg23 rfl rfl rfl (mF sf7 rfl ?_)))
 obtain ⟨H62b,l63,s64,z65,k66⟩:=hst.lend [_]
 have hb67 : (rS 43 (rCon 112)).rel H62b [v0_0] s.list:=fz_own 1 z65 rfl
 refine L_call rfl Try.call113 (ops2 rfl rfl) (s_l3Propagate_c (list:=s.list) (p:=p_30) s64 hb67 hx60) ?_
 rintro _ w68 ⟨rfl,hst⟩
 have hst:=k66 hst (co closed_int c0)
 refine L_geq rfl rfl rfl (nn (W_cond (b:=decide (x60.1 ≥ 0)) rfl (fun hc69=>?_) (fun hc69=>?_)))
 have hF:=(ite_t hc69).symm.trans hF
 refine W_seq ?_
 obtain ⟨x70,hx70,hF⟩:=bind_some hF
 refine W_region (L_lda (cs:=[v0_0,v0_1,I (i64 (s.fuel - 1))]) rfl Try.isAgg89 Try.sizeOf89 sf2 (At.sub0 (Blk.at (Star.blkAt 4 hst rfl)) 0 3) rfl (mF sf1 rfl ?_))
 have hst:=hst.gets [3,3] rfl
 refine L_call rfl Try.call114 (ops2 rfl rfl) (s_l5Learn_c (s:=({ list:=s.list,steps:=s.steps,fuel:=i64 (s.fuel - 1) } : Sst)) (decisions:=decisions) hst h1 hx70) ?_
 rintro _ w78 ⟨H78,l78,r78_0,r78_1,rfl,hst⟩
 refine L_bs rfl parts0 (bs_24_0  ) hst (fun g81 w82 hst=>?_)
 have hst:=Star.mkRow (R:=(OR.frz RP.bool)) [] [] 0 hst rfl rfl rfl (by decide)
 refine L_staB (vs:=#[r78_0,r78_1,I x70.fuel]) (cs2:=#[r78_0,r78_1,I x70.fuel]) 4 rfl Try.sizeOf89 sf4 rfl rfl (ones_cons (one_len (Star.len 1 hst rfl)) (ones_cons (one_len (Star.len 2 hst rfl)) (ones_cons rfl ones_nil))) hst rfl (by show 0 + 3≤3; decide) rfl (fun w84 hst=>aI rfl (aV (Sl g81 0 0) rfl (nn (W_ret (retG3 (v1:=.agg #[r78_0,r78_1,I x70.fuel]) (v2:=I 2) (v3:=(Sl g81 0 0)) Try.results69 (resV_agg Try.isAgg89 Try.sizeOf89 sf4 (Star.blkAt 0 hst rfl) rfl) rfl rfl ?_)))))
 obtain rfl:=so hF
 have hst:=hst.gets [1,3,3] rfl
 have hst:=Star.drop 3 hst rfl
 have hst:=Star.drop 3 hst rfl
 have hst:=Star.drop 3 hst rfl
 exact ⟨H78,l78,r78_0,r78_1,(Sl g81 0 0),rfl,hst⟩
 have hF:=(ite_f hc69).symm.trans hF
 refine W_skip (W_seq ?_)
 obtain ⟨x91,hx91,hF⟩:=bind_some hF
 refine W_region (mF sf7 rfl ?_)
 obtain ⟨H93b,l94,s95,z96,k97⟩:=hst.borrow
 have hb98 : (rS 3 RP.int).rel H93b [v26] x60.2:=fz_own 0 z96 rfl
 refine L_call rfl Try.call115 (ops1 rfl) (s_l5Free_c (p:=x60.2) s95 hb98 hx91) ?_
 rintro _ w99 ⟨rfl,hst⟩
 have hst:=k97 hst c0
 refine aI rfl (nq (sq (mI rfl (L_eql rfl rfl rfl (nn (W_cond (b:=(x91 == 0)) rfl (fun hc100=>?_) (fun hc100=>?_)))))))
 have hF:=(ite_t hc100).symm.trans hF
 refine sq (L_bs rfl parts0 (bs_24_0  ) hst (fun g104 w105 hst=>?_))
 have hst:=Star.mkRow (R:=(OR.frz RP.bool)) [] [] 0 hst rfl rfl rfl (by decide)
 refine aV (Sl g104 0 0) rfl (nq (sq (aI rfl (nn ?_))))
 have hlen110 : List.length x60.2≤9223372036854775807:=len_le (Star.len 1 hst rfl)
 obtain ⟨j110,hL110,hF⟩:=bind_some hF
 obtain ⟨R110,hR110⟩:=exR fun f w_=>∃ values_108 : List Bool,∃ v108_values : Value,j110 = .nx values_108∧f 2 = Pt g5∧f 4 = Pt g7∧f 10 = v108_values∧Star H w_ (oF 4 RP.bool v108_values values_108 :: box g7 89 #[S0,S0,I 0] :: oF 43 (rCon 112) v0_0 s.list :: oF 93 (rStep 112) v0_1 s.steps :: box g5 89 #[v0_0,v0_1,I (i64 (s.fuel - 1))] :: R)
 refine W_join R110 ?_ ?_
 refine W_block ?_
 obtain ⟨I110,hI110⟩:=exI fun n f w_=>∃ i_107 : Nat,∃ suf110 : List Int,∃ values_108 : List Bool,∃ v108_values : Value,n = suf110.length∧List.drop i_107 x60.2 = suf110∧i_107 + suf110.length = x60.2.length∧rangeL s_l5Search_b2 suf110 i_107 values_108 = some j110∧f 2 = Pt g5∧f 4 = Pt g7∧f 7 = v26∧f 10 = v108_values∧f 11 = I i_107∧Star H w_ (oF 3 RP.int v26 x60.2 :: oF 4 RP.bool v108_values values_108 :: box g7 89 #[S0,S0,I 0] :: oF 43 (rCon 112) v0_0 s.list :: oF 93 (rStep 112) v0_1 s.steps :: box g5 89 #[v0_0,v0_1,I (i64 (s.fuel - 1))] :: R)
 have hst:=hst.gets [5,5,5,5,4,5] rfl
 refine W_loop I110 (n:=x60.2.length) ?_ ?_
 exact ij hI110 ⟨0,x60.2,[],(Sl g104 0 0),rfl,rfl,Nat.zero_add _,hL110,sf2,sf4,sf7,rfl,rfl,hst⟩
 intro n110 f w_ hI
 obtain ⟨i_107,suf110,values_108,v108_values,rfl,hd110,hl110,hL110,sf2,sf4,sf7,sf10,sf11,hst⟩:=ik hI110 hI
 refine W_seq (sq (mF sf11 rfl (mF sf7 rfl (L_len rfl Try.underlying65 rfl (Star.len 0 hst rfl) (L_lss rfl rfl rfl (nn (W_cond (b:=decide ((i_107 : Int) < (x60.2.length : Int))) rfl (fun hc111=>?_) (fun hc111=>?_))))))))
 have hlt110:=of_decide_eq_true hc111
 rcases suf110 with _ | ⟨x_110,rest110⟩
 exact absurd hlt110 (by simp at hl110; omega)
 obtain ⟨o110,hB110,hL110⟩:=range_cons hL110
 rw [s_l5Search_b2] at hB110
 have hix110:=drop_idx hd110
 refine W_skip (W_seq (W_block ?_))
 obtain ⟨x119,hx119,hB110⟩:=bind_some hB110
 refine W_region (mF sf10 rfl (mF sf7 rfl (mF sf11 rfl ?_)))
 obtain ⟨g123,cap_g123,hv124,_,_⟩:=Star.row 0 hst rfl hix110
 refine L_ixO (R:=(OR.frz RP.int)) (tb:=0) 0 rfl Try.underlying65 Try.sizeOf3 rfl hv124 (by first | rfl | simp) rfl hix110 ?_
 obtain ⟨cs125,hr125,hat125⟩:=Star.eltF 0 hst rfl hv124 hix110
 obtain rfl : _ = [_]:=hr125
 refine L_ld rfl Try.isAgg3 rfl (At.cell hat125 (j:=0) rfl) (L_gtr rfl rfl rfl (L_bs rfl (parts1 rfl) (bs_24_1_0 (Bo (decide (x_110 > 0))) rfl) hst (fun g127 w128 hst=>?_)))
 have hst:=Star.addF (r:=RP.bool) (cs:=[Bo (decide (x_110 > 0))]) (x:=(decide (x_110 > 0))) hst rfl
 have hst:=Star.mkRow (R:=(OR.frz RP.bool)) [([Bo (decide (x_110 > 0))],decide (x_110 > 0))] [decide (x_110 > 0)] 1 hst rfl rfl rfl (by decide)
 have hst:=hst.get 2 rfl
 refine L_appM (v:=v108_values) (u:=(Sl g127 1 1)) rfl et_24 rfl rfl hst hx119 (fun v130 w131 hst=>aV v130 rfl (nn (W_region (mF sf11 rfl (L_add rfl rfl rfl (aI rfl (nn ?_)))))))
 obtain rfl:=so hB110
 have hst:=hst.gets [5,5,5,5,4,5] rfl
 show ∃ m,m < _∧I110 m _ _
 refine ⟨rest110.length,by simp,?_⟩
 exact ij hI110 ⟨i_107 + 1,rest110,x119,v130,rfl,drop_next hd110,by simp at hl110; omega,hL110,sf2,sf4,sf7,rfl,(Eq.trans rfl (congrArg (Value.int .i64) (i64_succ (n:=x60.2.length) (by simp at hl110; omega) hlen110))),hst⟩
 rcases suf110 with _ | ⟨_,_⟩
 obtain rfl:=range_nil hL110
 refine W_exit ?_
 have hst:=hst.gets [5,5,5,5,5] rfl
 have hst:=Star.drop 5 hst rfl
 exact rj hR110 ⟨values_108,v108_values,rfl,sf2,sf4,sf10,hst⟩
 exact absurd (of_decide_eq_false hc111) (by simp at hl110; omega)
 intro f w_ hR
 obtain ⟨values_108,v108_values,rfl,sf2,sf4,sf10,hst⟩:=rk hR110 hR
 refine sq (L_lda (cs:=[v0_0,v0_1,I (i64 (s.fuel - 1))]) rfl Try.isAgg89 Try.sizeOf89 sf2 (At.sub0 (Blk.at (Star.blkAt 4 hst rfl)) 0 3) rfl (mF sf10 rfl (L_staB (vs:=#[v0_0,v0_1,I (i64 (s.fuel - 1))]) (cs2:=#[v0_0,v0_1,I (i64 (s.fuel - 1))]) 1 rfl Try.sizeOf89 sf4 rfl rfl (ones_cons (one_len (Star.len 2 hst rfl)) (ones_cons (one_len (Star.len 3 hst rfl)) (ones_cons rfl ones_nil))) hst rfl (by show 0 + 3≤3; decide) rfl (fun w134 hst=>aI rfl (aV v108_values rfl (nn (W_ret (retG3 (v1:=.agg #[v0_0,v0_1,I (i64 (s.fuel - 1))]) (v2:=I 1) (v3:=v108_values) Try.results69 (resV_agg Try.isAgg89 Try.sizeOf89 sf4 (Star.blkAt 0 hst rfl) rfl) rfl rfl ?_))))))))
 obtain rfl:=so hF
 have hst:=hst.gets [1,3,3] rfl
 have hst:=Star.drop 3 hst rfl
 have hst:=Star.drop 3 hst rfl
 exact ⟨H,(Le.refl _),v0_0,v0_1,v108_values,rfl,hst⟩
 have hF:=(ite_f hc100).symm.trans hF
 refine W_skip (W_seq (sq (mI rfl (mI rfl (L_neg rfl rfl (L_bs rfl (parts2 rfl rfl) (bs_65_2_0_0 (I x91) (I (i64 (-x91))) rfl rfl) hst (fun g138 w139 hst=>?_)))))))
 have hst:=Star.addF (r:=RP.int) (cs:=[I (i64 (-x91))]) (x:=(i64 (-x91))) hst rfl
 have hst:=Star.addF (r:=RP.int) (cs:=[I x91]) (x:=x91) hst rfl
 have hst:=Star.mkRow (R:=(OR.frz RP.int)) [([I x91],x91),([I (i64 (-x91))],i64 (-x91))] [x91,i64 (-x91)] 2 hst rfl rfl rfl (by decide)
 refine L_len rfl Try.underlying65 rfl (Star.len 0 hst rfl) (mI rfl (nn ?_))
 have hlen149 : List.length ([x91,i64 (-x91)])≤9223372036854775807:=len_le (Star.len 0 hst rfl)
 obtain ⟨j149,hL149,hF⟩:=bind_some hF
 obtain ⟨R149,hR149⟩:=exR fun f w_=>∃ g5_0_142 : List Con,∃ g5_1_144 : List Step,∃ g5_2_146 : Int,∃ H147 : FH,∃ v142_g5_0 v144_g5_1 : Value,j149 = .nx (g5_0_142,g5_1_144,g5_2_146)∧Le H H147∧f 1 = v1∧f 2 = Pt g5∧f 4 = Pt g7∧Star H147 w_ (box g7 89 #[S0,S0,I 0] :: oF 43 (rCon 112) v142_g5_0 g5_0_142 :: oF 93 (rStep 112) v144_g5_1 g5_1_144 :: box g5 89 #[v142_g5_0,v144_g5_1,I g5_2_146] :: R)
 refine W_join R149 ?_ ?_
 refine W_block ?_
 obtain ⟨I149,hI149⟩:=exI fun n f w_=>∃ i_141 : Nat,∃ suf149 : List Int,∃ g5_0_142 : List Con,∃ g5_1_144 : List Step,∃ g5_2_146 : Int,∃ H147 : FH,∃ v142_g5_0 v144_g5_1 : Value,n = suf149.length∧List.drop i_141 ([x91,i64 (-x91)]) = suf149∧i_141 + suf149.length = ([x91,i64 (-x91)]).length∧rangeL (s_l5Search_b3 decisions rec_) suf149 i_141 (g5_0_142,g5_1_144,g5_2_146) = some j149∧Le H H147∧f 1 = v1∧f 2 = Pt g5∧f 4 = Pt g7∧f 77 = (Sl g138 2 2)∧f 78 = I (([x91,i64 (-x91)]).length : Int)∧f 79 = I i_141∧Star H147 w_ (oF 3 RP.int (Sl g138 2 2) ([x91,i64 (-x91)]) :: box g7 89 #[S0,S0,I 0] :: oF 43 (rCon 112) v142_g5_0 g5_0_142 :: oF 93 (rStep 112) v144_g5_1 g5_1_144 :: box g5 89 #[v142_g5_0,v144_g5_1,I g5_2_146] :: R)
 have hst:=hst.gets [5,5,5,5,4] rfl
 have hst:=Star.drop 5 hst rfl
 refine W_loop I149 (n:=([x91,i64 (-x91)]).length) ?_ ?_
 exact ij hI149 ⟨0,[x91,i64 (-x91)],s.list,s.steps,i64 (s.fuel - 1),H,v0_0,v0_1,rfl,rfl,Nat.zero_add _,hL149,(Le.refl _),sf1,sf2,sf4,rfl,rfl,rfl,hst⟩
 intro n149 f w_ hI
 obtain ⟨i_141,suf149,g5_0_142,g5_1_144,g5_2_146,H147,v142_g5_0,v144_g5_1,rfl,hd149,hl149,hL149,l148,sf1,sf2,sf4,sf77,sf78,sf79,hst⟩:=ik hI149 hI
 refine sq (L_lss rfl sf79 sf78 (nq (W_cond (b:=decide ((i_141 : Int) < (([x91,i64 (-x91)]).length : Int))) rfl (fun hc150=>?_) (fun hc150=>?_))))
 have hlt149:=of_decide_eq_true hc150
 rcases suf149 with _ | ⟨x_149,rest149⟩
 exact absurd hlt149 (by simp only [List.length_cons,List.length_nil] at *; omega)
 obtain ⟨o149,hB149,hL149⟩:=range_cons hL149
 rw [s_l5Search_b3] at hB149
 have hix149:=drop_idx hd149
 refine W_skip (W_seq (W_block (sq (L_ixO (R:=(OR.frz RP.int)) (tb:=0) (g:=g138) 0 rfl Try.underlying65 Try.sizeOf3 sf77 rfl (by first | rfl | simp) sf79 hix149 ?_))))
 obtain ⟨cs153,hr153,hat153⟩:=Star.eltF 0 hst rfl rfl hix149
 obtain rfl : _ = [_]:=hr153
 refine L_ld rfl Try.isAgg3 rfl (At.cell hat153 (j:=0) rfl) (aI rfl (ns (aI rfl (ns (L_bs rfl parts0 (bs_24_0  ) hst (fun g158 w159 hst=>?_))))))
 have hst:=Star.mkRow (R:=(OR.frz RP.bool)) [] [] 0 hst rfl rfl rfl (by decide)
 refine aV (Sl g158 0 0) rfl (nq ?_)
 obtain ⟨x164,hx164,hB149⟩:=bind_some hB149
 obtain ⟨x171,hx171,hB149⟩:=bind_some hB149
 obtain ⟨x178,hx178,hB149⟩:=bind_some hB149
 refine W_drawS 14 [isV (.agg #[v142_g5_0,v144_g5_1,I g5_2_146]),anyF,isV (v1),anyF,isV (I x_149),anyF,anyF,tup3 (exA fun u_0=>exA fun u_1=>isV (.agg #[u_0,u_1,I x178.1.fuel])) (isV (I x178.2.1)) (anyF),tup3 (exA fun u_0=>exA fun u_1=>isV (.agg #[u_0,u_1,I x178.1.fuel])) (isV (I x178.2.1)) (anyF),exA fun u_0=>exA fun u_1=>isV (.agg #[u_0,u_1,I x178.1.fuel]),isV (I x178.2.1),anyF,anyF,isV (I x178.2.1)] [oF 4 RP.bool (Sl g158 0 0) ([]),oF 3 RP.int (Sl g138 2 2) ([x91,i64 (-x91)]),box g7 89 #[S0,S0,I 0]] [.base (oF 43 (rCon 112) v142_g5_0 g5_0_142) (some 7),.base (oF 93 (rStep 112) v144_g5_1 g5_1_144) (some 7),.base (box g5 89 #[v142_g5_0,v144_g5_1,I g5_2_146]) (some 12),.made 1 86 (fun v_=>oF 3 RP.int v_ ([])) (some 3),.made 3 88 (fun v_=>oF 3 RP.int v_ x164) (some 6),.made 5 90 (fun v_=>oF 3 RP.int v_ ([x_149])) (some 6),.made 6 91 (fun v_=>oF 3 RP.int v_ x171) (some 7),.made 7 92 (fun v_=>own (OR.ownS 43 (OR.frz (rCon 112))) [(aggC (tupC v_ 0) 0)] x178.1.list) (some 8),.made 7 92 (fun v_=>own (OR.ownS 93 (OR.frz (rStep 112))) [(aggC (tupC v_ 0) 1)] x178.1.steps) (some 8),.made 7 92 (fun v_=>oF 4 RP.bool (tupC v_ 2) x178.2.2) (some 8),.made 8 84 (fun v_=>own (OR.ownS 43 (OR.frz (rCon 112))) [(aggC (tupC v_ 0) 0)] x178.1.list) (some 9),.made 8 84 (fun v_=>own (OR.ownS 93 (OR.frz (rStep 112))) [(aggC (tupC v_ 0) 1)] x178.1.steps) (some 9),.made 8 84 (fun v_=>oF 4 RP.bool (tupC v_ 2) x178.2.2) (some 11),.made 9 93 (fun v_=>oF 43 (rCon 112) (aggC v_ 0) x178.1.list) none,.made 9 93 (fun v_=>oF 93 (rStep 112) (aggC v_ 1) x178.1.steps) none,.made 11 95 (fun v_=>oF 4 RP.bool v_ x178.2.2) none,.madeN 12 [93] (fun vs_=>box g5 89 #[(aggC (vs_.getD 0 undef) 0),(aggC (vs_.getD 0 undef) 1),I x178.1.fuel]) none] (R) [([2],[2]),([],[3]),([],[]),([3],[4]),([],[]),([],[5]),([4,5],[6]),([0,1,6],[7,8,9]),([7,8,9],[10,11,12]),([10,11],[13,14]),([],[]),([12],[15]),([2,13,14],[13,14,16]),([],[])] (S:=[(none,[],some 7),(none,[],some 7),(none,[],some 12),(some 1,[86],some 3),(some 3,[88],some 6),(some 5,[90],some 6),(some 6,[91],some 7),(some 7,[92],some 8),(some 7,[92],some 8),(some 7,[92],some 8),(some 8,[84],some 9),(some 8,[84],some 9),(some 8,[84],some 11),(some 9,[93],none),(some 9,[93],none),(some 11,[95],none),(some 12,[93],none)]) Try_mix (by kernel_rfl) rfl (by kernel_rfl) (amF_cons (mono_V _) (amF_cons (mono_any) (amF_cons (mono_V _) (amF_cons (mono_any) (amF_cons (mono_V _) (amF_cons (mono_any) (amF_cons (mono_any) (amF_cons (mono_tup3 (mono_exA fun _=>mono_exA fun _=>mono_V _) (mono_V _) (mono_any)) (amF_cons (mono_tup3 (mono_exA fun _=>mono_exA fun _=>mono_V _) (mono_V _) (mono_any)) (amF_cons (mono_exA fun _=>mono_exA fun _=>mono_V _) (amF_cons (mono_V _) (amF_cons (mono_any) (amF_cons (mono_any) (amF_cons (mono_V _) amF_nil)))))))))))))) hst ?_ (fun f w_ H184 hS184 hE184 hT184 hst=>?_)
 refine opsS_cons ?_ ?_
 intro f w_ H184 X184 hS184 hE184 hP184 hst
 have hst : Star H184 w_ (oF 4 RP.bool (Sl g158 0 0) ([]) :: oF 3 RP.int (Sl g138 2 2) ([x91,i64 (-x91)]) :: box g7 89 #[S0,S0,I 0] :: box g5 89 #[v142_g5_0,v144_g5_1,I g5_2_146] :: X184):=hst
 refine L_lda (cs:=[v142_g5_0,v144_g5_1,I g5_2_146]) rfl Try.isAgg89 Try.sizeOf89 ((hS184 2 rfl).trans sf2) (At.sub0 (Blk.at (Star.blkAt 3 hst rfl)) 0 3) rfl (L_nil ⟨rfl,_,_,rfl,Le.refl _,fun _ _=>rfl,hst⟩)
 refine opsS_cons ?_ ?_
 intro f w_ H184 X184 hS184 hE184 hP184 hst
 refine L_bs rfl parts0 (bs_65_0  ) hst (fun g205 w206 hst=>?_)
 have hst:=Star.mkRow (R:=(OR.frz RP.int)) [] [] 0 hst rfl rfl rfl (by decide)
 have hst:=hst.gets [3,3,3] rfl
 exact L_nil ⟨rfl,_,_,rfl,Le.refl _,fun _ _=>trivial,hst⟩
 refine opsS_cons (fun f w_ _ _ s _ _ hst=>mF ((s 1 rfl).trans sf1) rfl (nO rfl rfl hst)) (opsS_cons ?_ ?_)
 intro f w_ H184 X184 hS184 hE184 hP184 hst
 have hst : Star H184 w_ (oF 4 RP.bool (Sl g158 0 0) ([]) :: oF 3 RP.int (Sl g138 2 2) ([x91,i64 (-x91)]) :: box g7 89 #[S0,S0,I 0] :: oF 3 RP.int (f 86) ([]) :: X184):=hst
 have hst:=hst.get 3 rfl
 refine L_app (v:=(f 86)) (u:=v1) rfl et_65 rfl (hP184 2 87 rfl rfl) hst (RP.mono _ h1 (Le.trans l148 hE184)) hx164 (fun v209 w210 hst=>?_)
 have hst:=hst.gets [3,3,3] rfl
 exact L_nil ⟨rfl,_,_,rfl,Le.refl _,fun _ _=>trivial,hst⟩
 refine opsS_cons (fun f w_ _ _ s _ _ hst=>mF ((s 13 rfl).trans rfl) rfl (nO rfl rfl hst)) (opsS_cons ?_ ?_)
 intro f w_ H184 X184 hS184 hE184 hP184 hst
 refine L_bs rfl (parts1 (hP184 4 89 rfl rfl)) (bs_65_1_0 (I x_149) rfl) hst (fun g212 w213 hst=>?_)
 have hst:=Star.addF (r:=RP.int) (cs:=[I x_149]) (x:=x_149) hst rfl
 have hst:=Star.mkRow (R:=(OR.frz RP.int)) [([I x_149],x_149)] [x_149] 1 hst rfl rfl rfl (by decide)
 have hst:=hst.gets [3,3,3] rfl
 exact L_nil ⟨rfl,_,_,rfl,Le.refl _,fun _ _=>trivial,hst⟩
 refine opsS_cons ?_ ?_
 intro f w_ H184 X184 hS184 hE184 hP184 hst
 have hst : Star H184 w_ (oF 4 RP.bool (Sl g158 0 0) ([]) :: oF 3 RP.int (Sl g138 2 2) ([x91,i64 (-x91)]) :: box g7 89 #[S0,S0,I 0] :: oF 3 RP.int (f 88) x164 :: oF 3 RP.int (f 90) ([x_149]) :: X184):=hst
 have hst:=hst.gets [4,4] rfl
 refine L_appM (v:=(f 88)) (u:=(f 90)) rfl et_65 rfl rfl hst hx171 (fun v217 w218 hst=>?_)
 have hst:=hst.gets [3,3,3] rfl
 exact L_nil ⟨rfl,_,_,rfl,Le.refl _,fun _ _=>trivial,hst⟩
 refine opsS_cons ?_ ?_
 intro f w_ H184 X184 hS184 hE184 hP184 hst
 have hst : Star H184 w_ (oF 4 RP.bool (Sl g158 0 0) ([]) :: oF 3 RP.int (Sl g138 2 2) ([x91,i64 (-x91)]) :: box g7 89 #[S0,S0,I 0] :: oF 43 (rCon 112) v142_g5_0 g5_0_142 :: oF 93 (rStep 112) v144_g5_1 g5_1_144 :: oF 3 RP.int (f 91) x171 :: X184):=hst
 have hst:=hst.get 5 rfl
 obtain ⟨H221,l222,hst,hz223⟩:=Star.freeze hst
 have hz223 : (rS 3 RP.int).rel H221 [(f 91)] x171:=hz223
 have hst:=hst.gets [4,4] rfl
 refine L_call rfl Try.call69 (ops2 (hP184 0 85 rfl rfl) rfl) (hrec (s:=({ list:=g5_0_142,steps:=g5_1_144,fuel:=g5_2_146 } : Sst)) (decisions:=x171) hst hz223 hx178) ?_
 rintro _ w224 ⟨H224,l224,r224_0,r224_1,r224_2,rfl,hst⟩
 have hst:=hst.gets [2,2,2,5,5,5] rfl
 exact L_nil ⟨rfl,_,_,rfl,(Le.trans l222 l224),fun _ _=>⟨_,_,_,rfl,⟨_,_,rfl⟩,rfl,trivial⟩,hst⟩
 refine opsS_cons ?_ ?_
 intro f w_ H184 X184 hS184 hE184 hP184 hst
 have hst : Star H184 w_ (oF 4 RP.bool (Sl g158 0 0) ([]) :: oF 3 RP.int (Sl g138 2 2) ([x91,i64 (-x91)]) :: box g7 89 #[S0,S0,I 0] :: own (OR.ownS 43 (OR.frz (rCon 112))) [(aggC (tupC (f 92) 0) 0)] x178.1.list :: own (OR.ownS 93 (OR.frz (rStep 112))) [(aggC (tupC (f 92) 0) 1)] x178.1.steps :: own (OR.ownS 4 (OR.frz RP.bool)) [(tupC (f 92) 2)] x178.2.2 :: X184):=hst
 obtain ⟨a228_0,a228_1,a228_2,hv228,ht228_0,ht228_1,ht228_2⟩:=(hP184 7 92 rfl rfl)
 obtain ⟨u229_0,u229_1,rfl⟩:=ht228_0
 obtain rfl:=ht228_1
 have hren : Star H184 w_ (oF 4 RP.bool (Sl g158 0 0) ([]) :: oF 3 RP.int (Sl g138 2 2) ([x91,i64 (-x91)]) :: box g7 89 #[S0,S0,I 0] :: own (OR.ownS 43 (OR.frz (rCon 112))) [(aggC (tupC (f 92) 0) 0)] x178.1.list :: own (OR.ownS 93 (OR.frz (rStep 112))) [(aggC (tupC (f 92) 0) 1)] x178.1.steps :: own (OR.ownS 4 (OR.frz RP.bool)) [(tupC (f 92) 2)] x178.2.2 :: X184):=hst
 rw [hv228] at hren
 have hst : Star H184 w_ (oF 4 RP.bool (Sl g158 0 0) ([]) :: oF 3 RP.int (Sl g138 2 2) ([x91,i64 (-x91)]) :: box g7 89 #[S0,S0,I 0] :: oF 43 (rCon 112) u229_0 x178.1.list :: oF 93 (rStep 112) u229_1 x178.1.steps :: oF 4 RP.bool a228_2 x178.2.2 :: X184):=hren
 refine mF hv228 rfl (L_nil ⟨rfl,_,_,rfl,Le.refl _,fun _ _=>⟨_,_,_,rfl,⟨_,_,rfl⟩,rfl,trivial⟩,hst⟩)
 refine opsS_cons ?_ ?_
 intro f w_ H184 X184 hS184 hE184 hP184 hst
 have hst : Star H184 w_ (oF 4 RP.bool (Sl g158 0 0) ([]) :: oF 3 RP.int (Sl g138 2 2) ([x91,i64 (-x91)]) :: box g7 89 #[S0,S0,I 0] :: own (OR.ownS 43 (OR.frz (rCon 112))) [(aggC (tupC (f 84) 0) 0)] x178.1.list :: own (OR.ownS 93 (OR.frz (rStep 112))) [(aggC (tupC (f 84) 0) 1)] x178.1.steps :: X184):=hst
 obtain ⟨a230_0,a230_1,a230_2,hv230,ht230_0,ht230_1,ht230_2⟩:=(hP184 8 84 rfl rfl)
 obtain ⟨u231_0,u231_1,rfl⟩:=ht230_0
 obtain rfl:=ht230_1
 have hren : Star H184 w_ (oF 4 RP.bool (Sl g158 0 0) ([]) :: oF 3 RP.int (Sl g138 2 2) ([x91,i64 (-x91)]) :: box g7 89 #[S0,S0,I 0] :: own (OR.ownS 43 (OR.frz (rCon 112))) [(aggC (tupC (f 84) 0) 0)] x178.1.list :: own (OR.ownS 93 (OR.frz (rStep 112))) [(aggC (tupC (f 84) 0) 1)] x178.1.steps :: X184):=hst
 rw [hv230] at hren
 have hst : Star H184 w_ (oF 4 RP.bool (Sl g158 0 0) ([]) :: oF 3 RP.int (Sl g138 2 2) ([x91,i64 (-x91)]) :: box g7 89 #[S0,S0,I 0] :: oF 43 (rCon 112) u231_0 x178.1.list :: oF 93 (rStep 112) u231_1 x178.1.steps :: X184):=hren
 refine L_ex (v:=.agg #[u231_0,u231_1,I x178.1.fuel]) rfl hv230 rfl (L_nil ⟨rfl,_,_,rfl,Le.refl _,fun _ _=>⟨_,_,rfl⟩,hst⟩)
 refine opsS_cons ?_ ?_
 intro f w_ H184 X184 hS184 hE184 hP184 hst
 obtain ⟨a232_0,a232_1,a232_2,hv232,ht232_0,ht232_1,ht232_2⟩:=(hP184 8 84 rfl rfl)
 obtain ⟨u233_0,u233_1,rfl⟩:=ht232_0
 obtain rfl:=ht232_1
 refine L_ex (v:=I x178.2.1) rfl hv232 rfl (L_nil ⟨rfl,_,_,rfl,Le.refl _,fun _ _=>rfl,hst⟩)
 refine opsS_cons ?_ ?_
 intro f w_ H184 X184 hS184 hE184 hP184 hst
 have hst : Star H184 w_ (oF 4 RP.bool (Sl g158 0 0) ([]) :: oF 3 RP.int (Sl g138 2 2) ([x91,i64 (-x91)]) :: box g7 89 #[S0,S0,I 0] :: own (OR.ownS 4 (OR.frz RP.bool)) [(tupC (f 84) 2)] x178.2.2 :: X184):=hst
 obtain ⟨a234_0,a234_1,a234_2,hv234,ht234_0,ht234_1,ht234_2⟩:=(hP184 8 84 rfl rfl)
 obtain ⟨u235_0,u235_1,rfl⟩:=ht234_0
 obtain rfl:=ht234_1
 have hren : Star H184 w_ (oF 4 RP.bool (Sl g158 0 0) ([]) :: oF 3 RP.int (Sl g138 2 2) ([x91,i64 (-x91)]) :: box g7 89 #[S0,S0,I 0] :: own (OR.ownS 4 (OR.frz RP.bool)) [(tupC (f 84) 2)] x178.2.2 :: X184):=hst
 rw [hv234] at hren
 have hst : Star H184 w_ (oF 4 RP.bool (Sl g158 0 0) ([]) :: oF 3 RP.int (Sl g138 2 2) ([x91,i64 (-x91)]) :: box g7 89 #[S0,S0,I 0] :: oF 4 RP.bool a234_2 x178.2.2 :: X184):=hren
 refine L_ex (v:=a234_2) rfl hv234 rfl (L_nil ⟨rfl,_,_,rfl,Le.refl _,fun _ _=>trivial,hst⟩)
 refine opsS_cons ?_ ?_
 intro f w_ H184 X184 hS184 hE184 hP184 hst
 have hst : Star H184 w_ (oF 4 RP.bool (Sl g158 0 0) ([]) :: oF 3 RP.int (Sl g138 2 2) ([x91,i64 (-x91)]) :: box g7 89 #[S0,S0,I 0] :: box g5 89 #[v142_g5_0,v144_g5_1,I g5_2_146] :: own (OR.ownS 43 (OR.frz (rCon 112))) [(aggC (f 93) 0)] x178.1.list :: own (OR.ownS 93 (OR.frz (rStep 112))) [(aggC (f 93) 1)] x178.1.steps :: X184):=hst
 obtain ⟨u236_0,u236_1,hv236⟩:=(hP184 9 93 rfl rfl)
 have hren : Star H184 w_ (oF 4 RP.bool (Sl g158 0 0) ([]) :: oF 3 RP.int (Sl g138 2 2) ([x91,i64 (-x91)]) :: box g7 89 #[S0,S0,I 0] :: box g5 89 #[v142_g5_0,v144_g5_1,I g5_2_146] :: own (OR.ownS 43 (OR.frz (rCon 112))) [(aggC (f 93) 0)] x178.1.list :: own (OR.ownS 93 (OR.frz (rStep 112))) [(aggC (f 93) 1)] x178.1.steps :: X184):=hst
 rw [hv236] at hren
 have hst : Star H184 w_ (oF 4 RP.bool (Sl g158 0 0) ([]) :: oF 3 RP.int (Sl g138 2 2) ([x91,i64 (-x91)]) :: box g7 89 #[S0,S0,I 0] :: box g5 89 #[v142_g5_0,v144_g5_1,I g5_2_146] :: oF 43 (rCon 112) u236_0 x178.1.list :: oF 93 (rStep 112) u236_1 x178.1.steps :: X184):=hren
 refine L_staB (vs:=#[u236_0,u236_1,I x178.1.fuel]) (cs2:=#[u236_0,u236_1,I x178.1.fuel]) 3 rfl Try.sizeOf89 ((hS184 2 rfl).trans sf2) hv236 rfl (ones_cons (one_len (Star.len 4 hst rfl)) (ones_cons (one_len (Star.len 5 hst rfl)) (ones_cons rfl ones_nil))) hst rfl (by show 0 + 3≤3; decide) rfl (fun w237 hst=>?_)
 have hst:=hst.gets [5,5,5,5,5] rfl
 have hst : Star H184 w237 (oF 4 RP.bool (Sl g158 0 0) ([]) :: oF 3 RP.int (Sl g138 2 2) ([x91,i64 (-x91)]) :: box g7 89 #[S0,S0,I 0] :: own (OR.ownS 43 (OR.frz (rCon 112))) [(aggC (f 93) 0)] x178.1.list :: own (OR.ownS 93 (OR.frz (rStep 112))) [(aggC (f 93) 1)] x178.1.steps :: box g5 89 #[(aggC (f 93) 0),(aggC (f 93) 1),I x178.1.fuel] :: X184):=by rw [hv236]; exact hst
 exact L_nil ⟨rfl,Bo false,_,rfl,Le.refl _,(fun _ h=>nomatch h),hst⟩
 refine opsS_cons (fun f w_ _ _ _ _ p hst=>aF (p 10 94 rfl rfl) rfl (nO rfl rfl hst)) (opsS_nil)
 have hst : Star H184 w_ (oF 4 RP.bool (Sl g158 0 0) ([]) :: oF 3 RP.int (Sl g138 2 2) ([x91,i64 (-x91)]) :: box g7 89 #[S0,S0,I 0] :: own (OR.ownS 43 (OR.frz (rCon 112))) [(aggC (f 93) 0)] x178.1.list :: own (OR.ownS 93 (OR.frz (rStep 112))) [(aggC (f 93) 1)] x178.1.steps :: oF 4 RP.bool (f 95) x178.2.2 :: box g5 89 #[(aggC (f 93) 0),(aggC (f 93) 1),I x178.1.fuel] :: R):=hst
 refine aV (f 95) rfl (ns (mF (hT184 13 14 rfl rfl) rfl (L_neq rfl rfl rfl (nn (W_cond (b:=(x178.2.1 != 2)) rfl (fun hc239=>?_) (fun hc239=>?_))))))
 have hB149:=(ite_t hc239).symm.trans hB149
 refine sq (L_lda (cs:=[(aggC (f 93) 0),(aggC (f 93) 1),I x178.1.fuel]) rfl Try.isAgg89 Try.sizeOf89 ((hS184 2 rfl).trans sf2) (At.sub0 (Blk.at (Star.blkAt 6 hst rfl)) 0 3) rfl (mF (hT184 13 14 rfl rfl) rfl (mV (f 95) rfl (L_staB (vs:=#[(aggC (f 93) 0),(aggC (f 93) 1),I x178.1.fuel]) (cs2:=#[(aggC (f 93) 0),(aggC (f 93) 1),I x178.1.fuel]) 2 rfl Try.sizeOf89 ((hS184 4 rfl).trans sf4) rfl rfl (ones_cons (one_len (Star.len 3 hst rfl)) (ones_cons (one_len (Star.len 4 hst rfl)) (ones_cons rfl ones_nil))) hst rfl (by show 0 + 3≤3; decide) rfl (fun w241 hst=>aI rfl (aV (f 95) rfl (nn (W_ret (retG3 (v1:=.agg #[(aggC (f 93) 0),(aggC (f 93) 1),I x178.1.fuel]) (v2:=I x178.2.1) (v3:=(f 95)) Try.results69 (resV_agg Try.isAgg89 Try.sizeOf89 ((hS184 4 rfl).trans sf4) (Star.blkAt 0 hst rfl) rfl) rfl rfl ?_)))))))))
 obtain rfl:=so hB149
 obtain rfl:=so hL149
 obtain rfl:=so hF
 have hst:=hst.gets [5,5,5] rfl
 have hst:=Star.drop 3 hst rfl
 have hst:=Star.drop 3 hst rfl
 have hst:=Star.drop 3 hst rfl
 have hst:=Star.drop 3 hst rfl
 exact ⟨H184,(Le.trans l148 hE184),(aggC (f 93) 0),(aggC (f 93) 1),(f 95),rfl,hst⟩
 have hB149:=(ite_f hc239).symm.trans hB149
 refine W_skip (W_region (L_add rfl ((hS184 79 rfl).trans sf79) rfl (mI rfl (nn ?_))))
 obtain rfl:=so hB149
 have hst:=hst.gets [6,5,5,5,5] rfl
 have hst:=Star.drop 5 hst rfl
 have hst:=Star.drop 5 hst rfl
 show ∃ m,m < _∧I149 m _ _
 refine ⟨rest149.length,by simp,?_⟩
 exact ij hI149 ⟨i_141 + 1,rest149,x178.1.list,x178.1.steps,x178.1.fuel,H184,(aggC (f 93) 0),(aggC (f 93) 1),rfl,drop_next hd149,by simp only [List.length_cons,List.length_nil] at *; omega,hL149,(Le.trans l148 hE184),((hS184 1 rfl).trans sf1),((hS184 2 rfl).trans sf2),((hS184 4 rfl).trans sf4),((hS184 77 rfl).trans sf77),((hS184 78 rfl).trans sf78),(Eq.trans rfl (congrArg (Value.int .i64) (i64_succ (n:=([x91,i64 (-x91)]).length) (by simp only [List.length_cons,List.length_nil] at *; omega) hlen149))),hst⟩
 rcases suf149 with _ | ⟨_,_⟩
 obtain rfl:=range_nil hL149
 refine W_exit ?_
 have hst:=hst.gets [4,4,4,4] rfl
 have hst:=Star.drop 4 hst rfl
 exact rj hR149 ⟨g5_0_142,g5_1_144,g5_2_146,H147,v142_g5_0,v144_g5_1,rfl,l148,sf1,sf2,sf4,hst⟩
 exact absurd (of_decide_eq_false hc150) (by simp only [List.length_cons,List.length_nil] at *; omega)
 intro f w_ hR
 obtain ⟨g5_0_142,g5_1_144,g5_2_146,H147,v142_g5_0,v144_g5_1,rfl,l148,sf1,sf2,sf4,hst⟩:=rk hR149 hR
 refine W_seq (sq (fA 1 fa_89_1 sf2 rfl (ldB 3 hst Try.isAgg30 rfl rfl rfl (L_len rfl Try.underlying30 rfl (Star.len 2 hst rfl) (L_geq rfl rfl rfl (nn (W_cond (b:=decide ((g5_1_144.length : Int) ≥ 1000)) rfl (fun hc242=>?_) (fun hc242=>?_))))))))
 have hF:=(ite_t hc242).symm.trans hF
 refine sq (L_lda (cs:=[v142_g5_0,v144_g5_1,I g5_2_146]) rfl Try.isAgg89 Try.sizeOf89 sf2 (At.sub0 (Blk.at (Star.blkAt 3 hst rfl)) 0 3) rfl (L_bs rfl parts0 (bs_24_0  ) hst (fun g247 w248 hst=>?_)))
 have hst:=Star.mkRow (R:=(OR.frz RP.bool)) [] [] 0 hst rfl rfl rfl (by decide)
 refine L_staB (vs:=#[v142_g5_0,v144_g5_1,I g5_2_146]) (cs2:=#[v142_g5_0,v144_g5_1,I g5_2_146]) 1 rfl Try.sizeOf89 sf4 rfl rfl (ones_cons (one_len (Star.len 2 hst rfl)) (ones_cons (one_len (Star.len 3 hst rfl)) (ones_cons rfl ones_nil))) hst rfl (by show 0 + 3≤3; decide) rfl (fun w250 hst=>aI rfl (aV (Sl g247 0 0) rfl (nn (W_ret (retG3 (v1:=.agg #[v142_g5_0,v144_g5_1,I g5_2_146]) (v2:=I 0) (v3:=(Sl g247 0 0)) Try.results69 (resV_agg Try.isAgg89 Try.sizeOf89 sf4 (Star.blkAt 0 hst rfl) rfl) rfl rfl ?_)))))
 obtain rfl:=so hF
 have hst:=hst.gets [1,3,3] rfl
 have hst:=Star.drop 3 hst rfl
 have hst:=Star.drop 3 hst rfl
 exact ⟨H147,l148,v142_g5_0,v144_g5_1,(Sl g247 0 0),rfl,hst⟩
 have hF:=(ite_f hc242).symm.trans hF
 refine W_skip (W_seq ?_)
 obtain ⟨x251,hx251,hF⟩:=bind_some hF
 refine W_region (L_lda (cs:=[v142_g5_0,v144_g5_1,I g5_2_146]) rfl Try.isAgg89 Try.sizeOf89 sf2 (At.sub0 (Blk.at (Star.blkAt 3 hst rfl)) 0 3) rfl (mF sf1 rfl ?_))
 have hst:=hst.gets [2,2] rfl
 refine L_call rfl Try.call114 (ops2 rfl rfl) (s_l5Learn_c (s:=({ list:=g5_0_142,steps:=g5_1_144,fuel:=g5_2_146 } : Sst)) (decisions:=decisions) hst (RP.mono _ h1 l148) hx251) ?_
 rintro _ w259 ⟨H259,l259,r259_0,r259_1,rfl,hst⟩
 refine L_bs rfl parts0 (bs_24_0  ) hst (fun g262 w263 hst=>?_)
 have hst:=Star.mkRow (R:=(OR.frz RP.bool)) [] [] 0 hst rfl rfl rfl (by decide)
 refine L_staB (vs:=#[r259_0,r259_1,I x251.fuel]) (cs2:=#[r259_0,r259_1,I x251.fuel]) 3 rfl Try.sizeOf89 sf4 rfl rfl (ones_cons (one_len (Star.len 1 hst rfl)) (ones_cons (one_len (Star.len 2 hst rfl)) (ones_cons rfl ones_nil))) hst rfl (by show 0 + 3≤3; decide) rfl (fun w265 hst=>aI rfl (aV (Sl g262 0 0) rfl (nn (W_ret (retG3 (v1:=.agg #[r259_0,r259_1,I x251.fuel]) (v2:=I 2) (v3:=(Sl g262 0 0)) Try.results69 (resV_agg Try.isAgg89 Try.sizeOf89 sf4 (Star.blkAt 0 hst rfl) rfl) rfl rfl ?_)))))
 obtain rfl:=so hF
 have hst:=hst.gets [1,3,3] rfl
 have hst:=Star.drop 3 hst rfl
 have hst:=Star.drop 3 hst rfl
 exact ⟨H259,(Le.trans l148 l259),r259_0,r259_1,(Sl g262 0 0),rfl,hst⟩
theorem s_l5Search_R_c {fu : Nat} : ∀ (n : Nat) {s : Sst} {decisions : List Int} {v0_0 : Value} {v0_1 : Value} {v1 : Value} {H : FH} {w : World} {R : List Ass} (hst : Star H w (oF 43 (rCon 112) v0_0 s.list :: oF 93 (rStep 112) v0_1 s.steps :: R)) (h1 : (rS 3 RP.int).rel H [v1] decisions) {r : Sst × Int × (List Bool)} (hF : s_l5Search_R fu n s decisions = some r),C Try.prog 69 #[.agg #[v0_0,v0_1,I s.fuel],v1] w fun v w'=>∃ H' : FH,Le H H'∧∃ (u1 : Value) (u2 : Value) (u3 : Value),v = .tuple #[.agg #[u1,u2,I r.1.fuel],I r.2.1,u3]∧Star H' w' (oF 43 (rCon 112) u1 r.1.list :: oF 93 (rStep 112) u2 r.1.steps :: oF 4 RP.bool u3 r.2.2 :: R):=by
 intro n
 induction n with
 | zero=>intros; rename_i hF; cases hF
 | succ n ih=>intros; rename_i hst h1 _ hF; exact s_l5Search_F_c ih hst h1 hF
theorem s_l5Search_c {fu : Nat} {s : Sst} {decisions : List Int} {v0_0 : Value} {v0_1 : Value} {v1 : Value} {H : FH} {w : World} {R : List Ass} (hst : Star H w (oF 43 (rCon 112) v0_0 s.list :: oF 93 (rStep 112) v0_1 s.steps :: R)) (h1 : (rS 3 RP.int).rel H [v1] decisions) {r : Sst × Int × (List Bool)} (hF : s_l5Search fu s decisions = some r) :
 C Try.prog 69 #[.agg #[v0_0,v0_1,I s.fuel],v1] w fun v w'=>∃ H' : FH,Le H H'∧∃ (u1 : Value) (u2 : Value) (u3 : Value),v = .tuple #[.agg #[u1,u2,I r.1.fuel],I r.2.1,u3]∧Star H' w' (oF 43 (rCon 112) u1 r.1.list :: oF 93 (rStep 112) u2 r.1.steps :: oF 4 RP.bool u3 r.2.2 :: R):=s_l5Search_R_c fu hst h1 hF
theorem s_SolveProblem_c {fu : Nat} {list : List Con} {fuel : Int} {v0 : Value} {H : FH} {w : World} (hst : Star H w []) (h0 : (rS 43 (rCon 112)).rel H [v0] list) {r : Int × (List Bool) × (List Step)} (hF : s_SolveProblem fu list fuel = some r) :
 C Try.prog 20 #[v0,I fuel] w fun v w'=>∃ (u1 : Value) (u2 : Value),v = .tuple #[I r.1,u1,u2]∧Star H w' [oF 4 RP.bool u1 r.2.1,oS 93 (oStep 112) u2 r.2.2]:=by
 unfold s_SolveProblem at hF
 refine C_enter Try.func20 rfl Try.ntmps20 rfl (sq (aI rfl (aV S0 rfl (aV S0 rfl (nq (W_seq ?_))))))
 obtain ⟨x6,hx6,hF⟩:=bind_some hF
 obtain ⟨R8,hR8⟩:=exR fun f w_=>f 0 = v0∧f 1 = I fuel∧f 23 = Bo (((!x6) || (decide (fuel < 0))) || (decide (fuel > 2000)))∧Star H w_ ([])
 refine W_join R8 ?_ ?_
 refine W_region (mV v0 rfl ?_)
 obtain ⟨H9b,l10,s11,z12,k13⟩:=hst.borrow
 refine L_call rfl Try.call27 (ops1 rfl) (s_ProblemValid_c (list:=list) s11 (RP.mono _ h0 l10) hx6) ?_
 rintro _ w14 ⟨rfl,hst⟩
 have hst:=k13 hst c0
 refine L_not_ rfl rfl (mB rfl (L_split (d:=16) (b:=(!x6)) rfl (fun hc15=>?_) (fun hc15=>?_)))
 refine ps rfl (ps rfl (L_pick (v:=Bo ((!x6) || (decide (fuel < 0)))) rfl rfl (or_t hc15) (mB rfl (L_split (d:=20) (b:=((!x6) || (decide (fuel < 0)))) rfl (fun hc16=>?_) (fun hc16=>?_)))))
 refine ps rfl (ps rfl (L_pick (v:=Bo (((!x6) || (decide (fuel < 0))) || (decide (fuel > 2000)))) rfl rfl (or_t hc16) (nn (rj hR8 ⟨rfl,rfl,rfl,hst⟩))))
 refine mI rfl (L_gtr rfl rfl rfl (L_pick (v:=Bo (((!x6) || (decide (fuel < 0))) || (decide (fuel > 2000)))) rfl rfl (or_f hc16 rfl) (nn (rj hR8 ⟨rfl,rfl,rfl,hst⟩))))
 refine mI rfl (L_lss rfl rfl rfl (L_pick (v:=Bo ((!x6) || (decide (fuel < 0)))) rfl rfl (or_f hc15 rfl) (mB rfl (L_split (d:=20) (b:=((!x6) || (decide (fuel < 0)))) rfl (fun hc17=>?_) (fun hc17=>?_)))))
 refine ps rfl (ps rfl (L_pick (v:=Bo (((!x6) || (decide (fuel < 0))) || (decide (fuel > 2000)))) rfl rfl (or_t hc17) (nn (rj hR8 ⟨rfl,rfl,rfl,hst⟩))))
 refine mI rfl (L_gtr rfl rfl rfl (L_pick (v:=Bo (((!x6) || (decide (fuel < 0))) || (decide (fuel > 2000)))) rfl rfl (or_f hc17 rfl) (nn (rj hR8 ⟨rfl,rfl,rfl,hst⟩))))
 intro f w_ hR
 obtain ⟨sf0,sf1,sf23,hst⟩:=rk hR8 hR
 refine W_cond (b:=(((!x6) || (decide (fuel < 0))) || (decide (fuel > 2000)))) sf23 (fun hc18=>?_) (fun hc18=>?_)
 have hF:=(ite_t hc18).symm.trans hF
 refine sq (L_bs rfl parts0 (bs_24_0  ) hst (fun g25 w26 hst=>?_))
 have hst:=Star.mkRow (R:=(OR.frz RP.bool)) [] [] 0 hst rfl rfl rfl (by decide)
 refine L_bs rfl parts0 (bs_30_0  ) hst (fun g28 w29 hst=>?_)
 have hst:=Star.mkRow (R:=(OR.frz (rStep 112))) [] [] 0 hst rfl rfl rfl (by decide)
 refine aI rfl (aV (Sl g25 0 0) rfl (aV (Sl g28 0 0) rfl (nn (W_ret (retG3 (v1:=I 3) (v2:=(Sl g25 0 0)) (v3:=(Sl g28 0 0)) Try.results20 rfl rfl rfl ?_)))))
 obtain rfl:=so hF
 have hst:=Star.recast (R:=(OR.frz (rStep 112))) (R':=(oStep 112)) rfl hst
 have hst:=hst.get 1 rfl
 exact ⟨(Sl g25 0 0),(Sl g28 0 0),rfl,hst⟩
 have hF:=(ite_f hc18).symm.trans hF
 refine W_skip (W_seq ?_)
 obtain ⟨x34,hx34,hF⟩:=bind_some hF
 obtain ⟨x39,hx39,hF⟩:=bind_some hF
 refine W_region (L_bs rfl parts0 (bs_23_0  ) hst (fun g47 w48 hst=>?_))
 have hst:=Star.mkRow (R:=(OR.frz (rCon 112))) [] [] 0 hst rfl rfl rfl (by decide)
 refine mF sf0 rfl (L_app (v:=(Sl g47 0 0)) (u:=v0) rfl et_23 rfl rfl hst h0 hx34 (fun v50 w51 hst=>mF sf1 rfl (L_bld rfl (parts2 rfl rfl) (bld_89_0_2 (v50) (I fuel) (one_len (Star.len 0 hst rfl)) rfl) ?_)))
 have hst:=Star.addNil (R:=(OR.frz (rStep 112))) (e:=93) hst
 have hst:=hst.get 1 rfl
 refine L_call rfl Try.call69 (ops2 rfl rfl) (s_l5Search_c (s:=({ list:=x34,steps:=[],fuel:=fuel } : Sst)) (decisions:=[]) hst (rel_nil _ _ _) hx39) ?_
 rintro _ w54 ⟨H54,l54,r54_0,r54_1,r54_2,rfl,hst⟩
 refine mV (.tuple #[.agg #[r54_0,r54_1,I x39.1.fuel],I x39.2.1,r54_2]) rfl (L_ex (v:=.agg #[r54_0,r54_1,I x39.1.fuel]) rfl rfl rfl (L_ex (v:=I x39.2.1) rfl rfl rfl (L_ex (v:=r54_2) rfl rfl rfl (L_al (cs:=#[S0,S0,I 0]) rfl Try.zeroValue89 rfl hst (fun g58 w59 hst=>L_staB (vs:=#[r54_0,r54_1,I x39.1.fuel]) (cs2:=#[r54_0,r54_1,I x39.1.fuel]) 0 rfl Try.sizeOf89 rfl rfl rfl (ones_cons (one_len (Star.len 1 hst rfl)) (ones_cons (one_len (Star.len 2 hst rfl)) (ones_cons rfl ones_nil))) hst rfl (by show 0 + 3≤3; decide) rfl (fun w60 hst=>aI rfl (aV r54_2 rfl (nq (sq (mI rfl (L_neq rfl rfl rfl (nn (W_cond (b:=(x39.2.1 != 2)) rfl (fun hc61=>?_) (fun hc61=>?_))))))))))))))
 have hF:=(ite_t hc61).symm.trans hF
 refine sq (mI rfl (mV r54_2 rfl (L_bs rfl parts0 (bs_30_0  ) hst (fun g65 w66 hst=>?_))))
 have hst:=Star.mkRow (R:=(OR.frz (rStep 112))) [] [] 0 hst rfl rfl rfl (by decide)
 refine aI rfl (aV r54_2 rfl (aV (Sl g65 0 0) rfl (nn (W_ret (retG3 (v1:=I x39.2.1) (v2:=r54_2) (v3:=(Sl g65 0 0)) Try.results20 rfl rfl rfl ?_)))))
 obtain rfl:=so hF
 have hst:=Star.recast (R:=(OR.frz (rStep 112))) (R':=(oStep 112)) rfl hst
 have hst:=hst.get 4 rfl
 exact ⟨r54_2,(Sl g65 0 0),rfl,(Star.down (Star.keepN 2 hst) l54 (co closed_bool (co closed_oStep c0)))⟩
 have hF:=(ite_f hc61).symm.trans hF
 refine W_skip (sq (L_bs rfl parts0 (bs_30_0  ) hst (fun g71 w72 hst=>?_)))
 have hst:=Star.mkRow (R:=(OR.frz (rStep 112))) [] [] 0 hst rfl rfl rfl (by decide)
 refine aV (Sl g71 0 0) rfl (nq (sq (aI rfl (nn ?_))))
 have hlen77 : List.length x39.1.steps≤9223372036854775807:=len_le (Star.len 3 hst rfl)
 obtain ⟨j77,hL77,hF⟩:=bind_some hF
 obtain ⟨R77,hR77⟩:=exR fun f w_=>∃ out_75 : List Step,∃ v75_out : Value,j77 = .nx out_75∧f 8 = I x39.2.1∧f 10 = v75_out∧Star H54 w_ ([oS 93 (oStep 112) v75_out out_75])
 refine W_join R77 ?_ ?_
 refine W_block ?_
 obtain ⟨I77,hI77⟩:=exI fun n f w_=>∃ i_74 : Nat,∃ suf77 : List Step,∃ out_75 : List Step,∃ v75_out : Value,n = suf77.length∧List.drop i_74 x39.1.steps = suf77∧i_74 + suf77.length = x39.1.steps.length∧rangeL s_SolveProblem_b1 suf77 i_74 out_75 = some j77∧f 7 = Pt g58∧f 8 = I x39.2.1∧f 10 = v75_out∧f 11 = I i_74∧Star H54 w_ ([oS 93 (oStep 112) v75_out out_75,oF 43 (rCon 112) r54_0 x39.1.list,oF 93 (rStep 112) r54_1 x39.1.steps,box g58 89 #[r54_0,r54_1,I x39.1.fuel]])
 have hst:=Star.recast (R:=(OR.frz (rStep 112))) (R':=(oStep 112)) rfl hst
 have hst:=hst.gets [1,3,3,3] rfl
 refine W_loop I77 (n:=x39.1.steps.length) ?_ ?_
 exact ij hI77 ⟨0,x39.1.steps,[],(Sl g71 0 0),rfl,rfl,Nat.zero_add _,hL77,rfl,rfl,rfl,rfl,(Star.keepN 4 hst)⟩
 intro n77 f w_ hI
 obtain ⟨i_74,suf77,out_75,v75_out,rfl,hd77,hl77,hL77,sf7,sf8,sf10,sf11,hst⟩:=ik hI77 hI
 refine W_seq (sq (mF sf11 rfl (fA 1 fa_89_1 sf7 rfl (ldB 3 hst Try.isAgg30 rfl rfl rfl (L_len rfl Try.underlying30 rfl (Star.len 2 hst rfl) (L_lss rfl rfl rfl (nn (W_cond (b:=decide ((i_74 : Int) < (x39.1.steps.length : Int))) rfl (fun hc78=>?_) (fun hc78=>?_)))))))))
 have hlt77:=of_decide_eq_true hc78
 rcases suf77 with _ | ⟨x_77,rest77⟩
 exact absurd hlt77 (by simp at hl77; omega)
 obtain ⟨o77,hB77,hL77⟩:=range_cons hL77
 rw [s_SolveProblem_b1] at hB77
 have hix77:=drop_idx hd77
 refine W_skip (W_seq (W_block (sq (fA 1 fa_89_1 sf7 rfl (ldB 3 hst Try.isAgg30 rfl rfl rfl (mF sf11 rfl ?_))))))
 obtain ⟨g86,cap_g86,hv87,_,_⟩:=Star.row 2 hst rfl hix77
 refine L_ixO (R:=(OR.frz (rStep 112))) (tb:=0) 0 rfl Try.underlying30 Try.sizeOf93 rfl hv87 (by first | rfl | simp) rfl hix77 ?_
 obtain ⟨cs88,hr88,hat88⟩:=Star.eltF 2 hst rfl hv87 hix77
 obtain ⟨u89_0,rfl,hu89_0⟩:=rStep_iff.1 hr88
 refine L_lda (cs:=[I x_77.kind,I x_77.a,I x_77.b,u89_0,I x_77.given.bound]) rfl Try.isAgg93 Try.sizeOf93 rfl (At.sub hat88 0 5) rfl (L_al (cs:=#[I 0,I 0,I 0,S0,I 0]) rfl Try.zeroValue93 rfl hst (fun g90 w91 hst=>L_staB (vs:=#[I x_77.kind,I x_77.a,I x_77.b,u89_0,I x_77.given.bound]) (cs2:=#[I x_77.kind,I x_77.a,I x_77.b,u89_0,I x_77.given.bound]) 0 rfl Try.sizeOf93 rfl rfl rfl (ones_cons rfl (ones_cons rfl (ones_cons rfl (ones_cons (one_len (slice_len hu89_0)) (ones_cons rfl ones_nil))))) hst rfl (by show 0 + 5≤5; decide) rfl (fun w92 hst=>nq ?_)))
 obtain ⟨x98,hx98,hB77⟩:=bind_some hB77
 refine W_region (fA 3 fa_93_3 rfl rfl (L_lda (cs:=[u89_0,I x_77.given.bound]) rfl Try.isAgg43 Try.sizeOf43 rfl (At.sub0 (Blk.at (Star.blkAt 0 hst rfl)) 3 2) rfl ?_))
 obtain ⟨H102b,l103,s104,z105,k106⟩:=hst.borrow
 refine L_call rfl Try.call70 (ops1 rfl) (s_l1Copy_c (c:=x_77.given) s104 (RP.mono _ hu89_0 l103) hx98) ?_
 rintro _ w107 ⟨r107_0,rfl,hst⟩
 have hst:=k106 hst (co closed_term c0)
 refine fA 3 fa_93_3 rfl rfl (L_staB (vs:=#[r107_0,I x98.bound]) (cs2:=#[I x_77.kind,I x_77.a,I x_77.b,r107_0,I x98.bound]) 1 rfl Try.sizeOf43 rfl rfl rfl (ones_cons (one_len (Star.len 0 hst rfl)) (ones_cons rfl ones_nil)) hst rfl (by show 3 + 2≤5; decide) rfl (fun w109 hst=>nn ?_))
 obtain ⟨x113,hx113,hB77⟩:=bind_some hB77
 refine W_region (mF sf10 rfl (L_lda (cs:=[I x_77.kind,I x_77.a,I x_77.b,r107_0,I x98.bound]) rfl Try.isAgg93 Try.sizeOf93 rfl (At.sub0 (Blk.at (Star.blkAt 0 hst rfl)) 0 5) rfl (L_bs rfl (parts1 rfl) (bs_30_1_5 (I x_77.kind) (I x_77.a) (I x_77.b) (r107_0) (I x98.bound) ) hst (fun g117 w118 hst=>?_))))
 have hst:=hst.get 2 rfl
 have hst:=oStep_close (s:=({ kind:=x_77.kind,a:=x_77.a,b:=x_77.b,given:=x98 } : Step)) hst
 have hst:=Star.mkRow (R:=(oStep 112)) [([I x_77.kind,I x_77.a,I x_77.b,r107_0,I x98.bound],({ kind:=x_77.kind,a:=x_77.a,b:=x_77.b,given:=x98 } : Step))] [({ kind:=x_77.kind,a:=x_77.a,b:=x_77.b,given:=x98 } : Step)] 1 hst rfl rfl rfl (by decide)
 have hst:=hst.get 2 rfl
 refine L_appM (v:=v75_out) (u:=(Sl g117 1 1)) rfl et_30 rfl rfl hst hx113 (fun v120 w121 hst=>aV v120 rfl (nn (W_region (mF sf11 rfl (L_add rfl rfl rfl (aI rfl (nn ?_)))))))
 obtain rfl:=so hB77
 have hst:=hst.gets [4,4,4,3] rfl
 show ∃ m,m < _∧I77 m _ _
 refine ⟨rest77.length,by simp,?_⟩
 exact ij hI77 ⟨i_74 + 1,rest77,x113,v120,rfl,drop_next hd77,by simp at hl77; omega,hL77,sf7,sf8,rfl,(Eq.trans rfl (congrArg (Value.int .i64) (i64_succ (n:=x39.1.steps.length) (by simp at hl77; omega) hlen77))),(Star.keepN 4 hst)⟩
 rcases suf77 with _ | ⟨_,_⟩
 obtain rfl:=range_nil hL77
 refine W_exit (rj hR77 ⟨out_75,v75_out,rfl,sf8,sf10,(Star.keepN 1 hst)⟩)
 exact absurd (of_decide_eq_false hc78) (by simp at hl77; omega)
 intro f w_ hR
 obtain ⟨out_75,v75_out,rfl,sf8,sf10,hst⟩:=rk hR77 hR
 refine sq (mF sf8 rfl (L_bs rfl parts0 (bs_24_0  ) hst (fun g126 w127 hst=>?_)))
 have hst:=Star.mkRow (R:=(OR.frz RP.bool)) [] [] 0 hst rfl rfl rfl (by decide)
 refine mF sf10 rfl (aI rfl (aV (Sl g126 0 0) rfl (aV v75_out rfl (nn (W_ret (retG3 (v1:=I x39.2.1) (v2:=(Sl g126 0 0)) (v3:=v75_out) Try.results20 rfl rfl rfl ?_))))))
 obtain rfl:=so hF
 exact ⟨(Sl g126 0 0),v75_out,rfl,(Star.down hst l54 (co closed_bool (co closed_oStep c0)))⟩
theorem i_Constraint_total_c {c : Con} {v0_0 : Value} {H : FH} {w : World} (hst : Star H w []) (h0_0 : (rS 112 rTerm).rel H [v0_0] c.terms) {r : Int} (hF : i_Constraint_total c = some r) :
 C Try.prog 118 #[.agg #[v0_0,I c.bound]] w fun v w'=>v = I r∧Star H w' []:=by
 unfold i_Constraint_total at hF
 refine C_enter Try.func118 rfl Try.ntmps118 rfl (sq (L_box (v:=.agg #[v0_0,I c.bound]) (cs:=#[v0_0,I c.bound]) rfl rfl rfl hst (fun g3 w4 hst=>aI rfl (ns (aI rfl (nq (sq (fA 0 fa_43_0 rfl rfl (ldB 0 hst Try.isAgg41 rfl rfl rfl (L_len rfl Try.underlying41 rfl (slice_len h0_0) (mI rfl (nn ?_))))))))))))
 have hlen7 : List.length c.terms≤9223372036854775807:=len_le (slice_len h0_0)
 obtain ⟨j7,hL7,hF⟩:=bind_some hF
 obtain ⟨R7,hR7⟩:=exR fun f w_=>∃ sum_6 : Int,j7 = .nx sum_6∧f 3 = I sum_6∧Star H w_ ([])
 refine W_join R7 ?_ ?_
 refine W_block ?_
 obtain ⟨I7,hI7⟩:=exI fun n f w_=>∃ i_5 : Nat,∃ suf7 : List Term,∃ sum_6 : Int,n = suf7.length∧List.drop i_5 c.terms = suf7∧i_5 + suf7.length = c.terms.length∧rangeL i_Constraint_total_b1 suf7 i_5 sum_6 = some j7∧f 3 = I sum_6∧f 7 = v0_0∧f 8 = I (c.terms.length : Int)∧f 9 = I i_5∧Star H w_ ([])
 refine W_loop I7 (n:=c.terms.length) ?_ ?_
 exact ij hI7 ⟨0,c.terms,0,rfl,rfl,Nat.zero_add _,hL7,rfl,rfl,rfl,rfl,(Star.keepN 0 hst)⟩
 intro n7 f w_ hI
 obtain ⟨i_5,suf7,sum_6,rfl,hd7,hl7,hL7,sf3,sf7,sf8,sf9,hst⟩:=ik hI7 hI
 refine sq (L_lss rfl sf9 sf8 (nq (W_cond (b:=decide ((i_5 : Int) < (c.terms.length : Int))) rfl (fun hc8=>?_) (fun hc8=>?_))))
 have hlt7:=of_decide_eq_true hc8
 rcases suf7 with _ | ⟨x_7,rest7⟩
 exact absurd hlt7 (by simp at hl7; omega)
 obtain ⟨o7,hB7,hL7⟩:=range_cons hL7
 rw [i_Constraint_total_b1] at hB7
 have hix7:=drop_idx hd7
 refine W_skip (W_seq (W_block (sq (L_ix (r:=rTerm) rfl Try.underlying41 Try.sizeOf112 sf7 h0_0 sf9 hix7 (fun g16 o17 cs_g16 hrk_hat18 hat18=>?_)))))
 obtain rfl:=rTerm_iff.1 hrk_hat18
 refine L_lda (cs:=[I x_7.coef,I x_7.lit]) rfl Try.isAgg112 Try.sizeOf112 rfl (At.sub (AtH.at hat18 hst.sub) 0 2) rfl (L_al (cs:=#[I 0,I 0]) rfl Try.zeroValue112 rfl hst (fun g20 w21 hst=>L_staB (vs:=#[I x_7.coef,I x_7.lit]) (cs2:=#[I x_7.coef,I x_7.lit]) 0 rfl Try.sizeOf112 rfl rfl rfl (ones_cons rfl (ones_cons rfl ones_nil)) hst rfl (by show 0 + 2≤2; decide) rfl (fun w22 hst=>nn (W_region (mF sf3 rfl (fA 0 fa_112_0 rfl rfl (ldB 0 hst Try.isAgg3 rfl rfl rfl (L_add rfl rfl rfl (aI rfl (nn (W_region (L_add rfl sf9 rfl (mI rfl (nn ?_))))))))))))))
 obtain rfl:=so hB7
 show ∃ m,m < _∧I7 m _ _
 refine ⟨rest7.length,by simp,?_⟩
 exact ij hI7 ⟨i_5 + 1,rest7,i64 (sum_6 + x_7.coef),rfl,drop_next hd7,by simp at hl7; omega,hL7,rfl,sf7,sf8,(Eq.trans rfl (congrArg (Value.int .i64) (i64_succ (n:=c.terms.length) (by simp at hl7; omega) hlen7))),(Star.keepN 0 hst)⟩
 rcases suf7 with _ | ⟨_,_⟩
 obtain rfl:=range_nil hL7
 refine W_exit (rj hR7 ⟨sum_6,rfl,sf3,hst⟩)
 exact absurd (of_decide_eq_false hc8) (by simp at hl7; omega)
 intro f w_ hR
 obtain ⟨sum_6,rfl,sf3,hst⟩:=rk hR7 hR
 refine sq (mF sf3 rfl (aI rfl (nn (W_ret (retG1 (v1:=I sum_6) Try.results118 rfl ?_)))))
 obtain rfl:=so hF
 exact ⟨rfl,hst⟩
theorem i_Constraint_negation_c {c : Con} {v0_0 : Value} {H : FH} {w : World} (hst : Star H w []) (h0_0 : (rS 112 rTerm).rel H [v0_0] c.terms) {r : Con} (hF : i_Constraint_negation c = some r) :
 C Try.prog 78 #[.agg #[v0_0,I c.bound]] w fun v w'=>∃ (u1 : Value),v = .agg #[u1,I r.bound]∧Star H w' [oF 112 rTerm u1 r.terms]:=by
 unfold i_Constraint_negation at hF
 refine C_enter Try.func78 rfl Try.ntmps78 rfl (sq (L_box (v:=.agg #[v0_0,I c.bound]) (cs:=#[v0_0,I c.bound]) rfl rfl rfl hst (fun g5 w6 hst=>L_al (cs:=#[S0,I 0]) rfl Try.zeroValue43 rfl hst (fun g7 w8 hst=>nq ?_))))
 obtain ⟨x14,hx14,hF⟩:=bind_some hF
 refine W_drawS 9 [isV (.agg #[v0_0,I c.bound]),isV (I x14),isV (Pq g5 1),isV (I c.bound),isV (I (i64 (x14 - c.bound))),isV (I (i64 ((i64 (x14 - c.bound)) + 1))),isV (I (max 0 (i64 ((i64 (x14 - c.bound)) + 1)))),isV (.agg #[S0,I (max 0 (i64 ((i64 (x14 - c.bound)) + 1)))]),anyF] [box g7 43 #[S0,I 0],box g5 43 #[v0_0,I c.bound]] [.made 8 3 (fun v_=>boxV v_ 43 #[S0,I 0]) none] ([]) [([],[]),([],[]),([],[]),([],[]),([],[]),([],[]),([],[]),([],[]),([],[0])] (S:=[(some 8,[3],none)]) Try_mix (by kernel_rfl) rfl (by kernel_rfl) (amF_cons (mono_V _) (amF_cons (mono_V _) (amF_cons (mono_V _) (amF_cons (mono_V _) (amF_cons (mono_V _) (amF_cons (mono_V _) (amF_cons (mono_V _) (amF_cons (mono_V _) (amF_cons (mono_any) amF_nil))))))))) hst ?_ (fun f w_ H19 hS19 hE19 hT19 hst=>?_)
 refine opsS_cons (fun f w_ _ _ s _ _ hst=>L_lda (cs:=[v0_0,I c.bound]) rfl Try.isAgg43 Try.sizeOf43 ((s 1 rfl).trans rfl) (At.sub0 (Blk.at (Star.blkAt 1 hst rfl)) 0 2) rfl (nO rfl rfl hst)) (opsS_cons ?_ ?_)
 intro f w_ H19 X19 hS19 hE19 hP19 hst
 obtain ⟨H28b,l29,s30,z31,k32⟩:=hst.borrow
 refine L_call rfl Try.call118 (ops1 (hP19 0 6 rfl rfl)) (i_Constraint_total_c (c:=c) s30 (RP.mono _ h0_0 (Le.trans hE19 l29)) hx14) ?_
 rintro _ w33 ⟨rfl,hst⟩
 have hst:=k32 hst c0
 exact L_nil ⟨rfl,_,_,rfl,Le.refl _,fun _ _=>rfl,hst⟩
 refine opsS_cons (fun f w_ _ _ s _ _ hst=>fA 1 fa_43_1 ((s 1 rfl).trans rfl) rfl (nO rfl rfl hst)) (opsS_cons (fun f w_ _ _ _ _ p hst=>ldB 1 hst Try.isAgg3 (p 2 8 rfl rfl) rfl rfl (nO rfl rfl hst)) (opsS_cons (fun f w_ _ _ _ _ p hst=>L_sub rfl (p 1 7 rfl rfl) (p 3 9 rfl rfl) (nO rfl rfl hst)) (opsS_cons (fun f w_ _ _ _ _ p hst=>L_add rfl (p 4 10 rfl rfl) rfl (nO rfl rfl hst)) (opsS_cons (fun f w_ _ _ _ _ p hst=>L_max rfl rfl (p 5 11 rfl rfl) (nO rfl rfl hst)) (opsS_cons (fun f w_ _ _ _ _ p hst=>L_bld rfl (parts1 (p 6 12 rfl rfl)) (bld_43_1 (I (max 0 (i64 ((i64 (x14 - c.bound)) + 1)))) rfl) (nO rfl rfl hst)) (opsS_cons ?_ ?_))))))
 intro f w_ H19 X19 hS19 hE19 hP19 hst
 refine L_al (cs:=#[S0,I 0]) rfl Try.zeroValue43 rfl hst (fun g34 w35 hst=>?_)
 have hst:=hst.gets [2,2,2] rfl
 have hst:=Star.boxV (v:=Pt g34) rfl hst
 have hst:=hst.gets [2,2] rfl
 exact L_nil ⟨rfl,_,_,rfl,Le.refl _,fun _ _=>trivial,hst⟩
 exact opsS_nil
 have hst : Star H19 w_ ([box g7 43 #[S0,I 0],box g5 43 #[v0_0,I c.bound],boxV (f 3) 43 #[S0,I 0]]):=hst
 obtain ⟨g36,hv36,hst⟩:=Star.unboxV (Star.get 2 hst rfl)
 refine L_staB (vs:=#[S0,I (max 0 (i64 ((i64 (x14 - c.bound)) + 1)))]) (cs2:=#[S0,I (max 0 (i64 ((i64 (x14 - c.bound)) + 1)))]) 0 rfl Try.sizeOf43 hv36 (hT19 7 13 rfl rfl) rfl (ones_cons rfl (ones_cons rfl ones_nil)) hst rfl (by show 0 + 2≤2; decide) rfl (fun w37 hst=>L_nil (W_seq (sq (fA 0 fa_43_0 ((hS19 1 rfl).trans rfl) rfl (ldB 2 hst Try.isAgg41 rfl rfl rfl (L_len rfl Try.underlying41 rfl (slice_len (RP.mono _ h0_0 hE19)) (mI rfl (nn ?_))))))))
 have hlen41 : List.length c.terms≤9223372036854775807:=len_le (slice_len (RP.mono _ h0_0 hE19))
 obtain ⟨j41,hL41,hF⟩:=bind_some hF
 obtain ⟨R41,hR41⟩:=exR fun f w_=>∃ g36_0_39 : List Term,∃ v39_g36_0 : Value,j41 = .nx g36_0_39∧f 2 = Pt g7∧f 3 = Pt g36∧Star H19 w_ ([oF 112 rTerm v39_g36_0 g36_0_39,box g36 43 #[v39_g36_0,I (max 0 (i64 ((i64 (x14 - c.bound)) + 1)))],box g7 43 #[S0,I 0]])
 refine W_join R41 ?_ ?_
 refine W_block ?_
 obtain ⟨I41,hI41⟩:=exI fun n f w_=>∃ i_38 : Nat,∃ suf41 : List Term,∃ g36_0_39 : List Term,∃ v39_g36_0 : Value,n = suf41.length∧List.drop i_38 c.terms = suf41∧i_38 + suf41.length = c.terms.length∧rangeL i_Constraint_negation_b1 suf41 i_38 g36_0_39 = some j41∧f 2 = Pt g7∧f 3 = Pt g36∧f 15 = v0_0∧f 16 = I (c.terms.length : Int)∧f 17 = I i_38∧Star H19 w_ ([oF 112 rTerm v39_g36_0 g36_0_39,box g36 43 #[v39_g36_0,I (max 0 (i64 ((i64 (x14 - c.bound)) + 1)))],box g7 43 #[S0,I 0]])
 have hst:=Star.addNil (R:=(OR.frz rTerm)) (e:=112) hst
 refine W_loop I41 (n:=c.terms.length) ?_ ?_
 exact ij hI41 ⟨0,c.terms,[],S0,rfl,rfl,Nat.zero_add _,hL41,((hS19 2 rfl).trans rfl),hv36,rfl,rfl,rfl,(Star.keepN 3 hst)⟩
 intro n41 f w_ hI
 obtain ⟨i_38,suf41,g36_0_39,v39_g36_0,rfl,hd41,hl41,hL41,sf2,sf3,sf15,sf16,sf17,hst⟩:=ik hI41 hI
 refine sq (L_lss rfl sf17 sf16 (nq (W_cond (b:=decide ((i_38 : Int) < (c.terms.length : Int))) rfl (fun hc43=>?_) (fun hc43=>?_))))
 have hlt41:=of_decide_eq_true hc43
 rcases suf41 with _ | ⟨x_41,rest41⟩
 exact absurd hlt41 (by simp at hl41; omega)
 obtain ⟨o41,hB41,hL41⟩:=range_cons hL41
 rw [i_Constraint_negation_b1] at hB41
 have hix41:=drop_idx hd41
 refine W_skip (W_seq (W_block (sq (L_ix (r:=rTerm) rfl Try.underlying41 Try.sizeOf112 sf15 (RP.mono _ h0_0 hE19) sf17 hix41 (fun g51 o52 cs_g51 hrk_hat53 hat53=>?_)))))
 obtain rfl:=rTerm_iff.1 hrk_hat53
 refine L_lda (cs:=[I x_41.coef,I x_41.lit]) rfl Try.isAgg112 Try.sizeOf112 rfl (At.sub (AtH.at hat53 hst.sub) 0 2) rfl (L_al (cs:=#[I 0,I 0]) rfl Try.zeroValue112 rfl hst (fun g55 w56 hst=>L_staB (vs:=#[I x_41.coef,I x_41.lit]) (cs2:=#[I x_41.coef,I x_41.lit]) 0 rfl Try.sizeOf112 rfl rfl rfl (ones_cons rfl (ones_cons rfl ones_nil)) hst rfl (by show 0 + 2≤2; decide) rfl (fun w57 hst=>nn ?_)))
 obtain ⟨x61,hx61,hB41⟩:=bind_some hB41
 refine W_region (fA 0 fa_43_0 sf3 rfl (ldB 2 hst Try.isAgg41 rfl rfl rfl (fA 0 fa_112_0 rfl rfl (ldB 0 hst Try.isAgg3 rfl rfl rfl (fA 1 fa_112_1 rfl rfl (ldB 0 hst Try.isAgg3 rfl rfl rfl (L_neg rfl rfl (L_bld rfl (parts2 rfl rfl) (bld_112_0_1 (I x_41.coef) (I (i64 (-x_41.lit))) rfl rfl) (L_bs rfl (parts1 rfl) (bs_41_1_2 (I x_41.coef) (I (i64 (-x_41.lit))) ) hst (fun g66 w67 hst=>?_))))))))))
 have hst:=Star.addF (r:=rTerm) (cs:=[I x_41.coef,I (i64 (-x_41.lit))]) (x:=({ coef:=x_41.coef,lit:=i64 (-x_41.lit) } : Term)) hst (rTerm_iff.2 rfl)
 have hst:=Star.mkRow (R:=(OR.frz rTerm)) [([I x_41.coef,I (i64 (-x_41.lit))],({ coef:=x_41.coef,lit:=i64 (-x_41.lit) } : Term))] [({ coef:=x_41.coef,lit:=i64 (-x_41.lit) } : Term)] 1 hst rfl rfl rfl (by decide)
 have hst:=hst.get 2 rfl
 refine L_appM (v:=v39_g36_0) (u:=(Sl g66 1 1)) rfl et_41 rfl rfl hst hx61 (fun v69 w70 hst=>fA 0 fa_43_0 sf3 rfl (L_stB (v:=v69) (cs2:=#[v69,I (max 0 (i64 ((i64 (x14 - c.bound)) + 1)))]) 2 rfl Try.sizeOf41 rfl rfl (one_len (Star.len 0 hst rfl)) hst rfl rfl rfl (fun w72 hst=>nn (W_region (L_add rfl sf17 rfl (mI rfl (nn ?_)))))))
 obtain rfl:=so hB41
 have hst:=hst.gets [3,1,2] rfl
 show ∃ m,m < _∧I41 m _ _
 refine ⟨rest41.length,by simp,?_⟩
 exact ij hI41 ⟨i_38 + 1,rest41,x61,v69,rfl,drop_next hd41,by simp at hl41; omega,hL41,sf2,sf3,sf15,sf16,(Eq.trans rfl (congrArg (Value.int .i64) (i64_succ (n:=c.terms.length) (by simp at hl41; omega) hlen41))),(Star.keepN 3 hst)⟩
 rcases suf41 with _ | ⟨_,_⟩
 obtain rfl:=range_nil hL41
 refine W_exit (rj hR41 ⟨g36_0_39,v39_g36_0,rfl,sf2,sf3,hst⟩)
 exact absurd (of_decide_eq_false hc43) (by simp at hl41; omega)
 intro f w_ hR
 obtain ⟨g36_0_39,v39_g36_0,rfl,sf2,sf3,hst⟩:=rk hR41 hR
 refine sq (L_lda (cs:=[v39_g36_0,I (max 0 (i64 ((i64 (x14 - c.bound)) + 1)))]) rfl Try.isAgg43 Try.sizeOf43 sf3 (At.sub0 (Blk.at (Star.blkAt 1 hst rfl)) 0 2) rfl (L_staB (vs:=#[v39_g36_0,I (max 0 (i64 ((i64 (x14 - c.bound)) + 1)))]) (cs2:=#[v39_g36_0,I (max 0 (i64 ((i64 (x14 - c.bound)) + 1)))]) 2 rfl Try.sizeOf43 sf2 rfl rfl (ones_cons (one_len (Star.len 0 hst rfl)) (ones_cons rfl ones_nil)) hst rfl (by show 0 + 2≤2; decide) rfl (fun w74 hst=>nn (W_ret (retG1 (v1:=.agg #[v39_g36_0,I (max 0 (i64 ((i64 (x14 - c.bound)) + 1)))]) Try.results78 (resV_agg Try.isAgg43 Try.sizeOf43 sf2 (Star.blkAt 0 hst rfl) rfl) ?_)))))
 obtain rfl:=so hF
 have hst:=hst.get 1 rfl
 exact ⟨v39_g36_0,rfl,(Star.down (Star.keepN 1 hst) hE19 (co closed_term c0))⟩
theorem i_ProveConstraint_c {fu : Nat} {list : List Con} {c : Con} {fuel : Int} {v0 : Value} {v1_0 : Value} {H : FH} {w : World} (hst : Star H w []) (h0 : (rS 43 (rCon 112)).rel H [v0] list) (h1_0 : (rS 112 rTerm).rel H [v1_0] c.terms) {r : Int × (List Bool) × (List Step)} (hF : i_ProveConstraint fu list c fuel = some r) :
 C Try.prog 28 #[v0,.agg #[v1_0,I c.bound],I fuel] w fun v w'=>∃ (u1 : Value) (u2 : Value),v = .tuple #[I r.1,u1,u2]∧Star H w' [oF 4 RP.bool u1 r.2.1,oS 93 (oStep 112) u2 r.2.2]:=by
 unfold i_ProveConstraint at hF
 refine C_enter Try.func28 rfl Try.ntmps28 rfl (sq (L_box (v:=.agg #[v1_0,I c.bound]) (cs:=#[v1_0,I c.bound]) rfl rfl rfl hst (fun g3 w4 hst=>aI rfl (aV S0 rfl (aV S0 rfl (nq (W_seq ?_)))))))
 obtain ⟨x10,hx10,hF⟩:=bind_some hF
 obtain ⟨R12,hR12⟩:=exR fun f w_=>f 0 = v0∧f 2 = I fuel∧f 4 = Pt g3∧f 16 = Bo ((!x10) || (decide ((list.length : Int) ≥ 400)))∧Star H w_ ([box g3 43 #[v1_0,I c.bound]])
 refine W_join R12 ?_ ?_
 refine W_region (L_lda (cs:=[v1_0,I c.bound]) rfl Try.isAgg43 Try.sizeOf43 rfl (At.sub0 (Blk.at (Star.blkAt 0 hst rfl)) 0 2) rfl ?_)
 obtain ⟨H13b,l14,s15,z16,k17⟩:=hst.borrow
 refine L_call rfl Try.call52 (ops1 rfl) (i_ConstraintValid_c (c:=c) s15 (RP.mono _ h1_0 l14) hx10) ?_
 rintro _ w18 ⟨rfl,hst⟩
 have hst:=k17 hst c0
 refine L_not_ rfl rfl (mB rfl (L_split (d:=12) (b:=(!x10)) rfl (fun hc19=>?_) (fun hc19=>?_)))
 refine ps rfl (ps rfl (ps rfl (L_pick (v:=Bo ((!x10) || (decide ((list.length : Int) ≥ 400)))) rfl rfl (or_t hc19) (nn (rj hR12 ⟨rfl,rfl,rfl,rfl,hst⟩)))))
 refine mV v0 rfl (L_len rfl Try.underlying23 rfl (slice_len h0) (L_geq rfl rfl rfl (L_pick (v:=Bo ((!x10) || (decide ((list.length : Int) ≥ 400)))) rfl rfl (or_f hc19 rfl) (nn (rj hR12 ⟨rfl,rfl,rfl,rfl,hst⟩)))))
 intro f w_ hR
 obtain ⟨sf0,sf2,sf4,sf16,hst⟩:=rk hR12 hR
 refine W_cond (b:=((!x10) || (decide ((list.length : Int) ≥ 400)))) sf16 (fun hc20=>?_) (fun hc20=>?_)
 have hF:=(ite_t hc20).symm.trans hF
 refine sq (aI rfl (aV S0 rfl (aV S0 rfl (nn (W_ret (retG3 (v1:=I 3) (v2:=S0) (v3:=S0) Try.results28 rfl rfl rfl ?_))))))
 obtain rfl:=so hF
 have hst:=Star.addNil (R:=(OR.frz RP.bool)) (e:=4) hst
 have hst:=Star.addNil (R:=(oStep 112)) (e:=93) hst
 have hst:=hst.get 1 rfl
 exact ⟨S0,S0,rfl,(Star.keepN 2 hst)⟩
 have hF:=(ite_f hc20).symm.trans hF
 refine W_skip (W_seq ?_)
 obtain ⟨x23,hx23,hF⟩:=bind_some hF
 obtain ⟨x31,hx31,hF⟩:=bind_some hF
 obtain ⟨x37,hx37,hF⟩:=bind_some hF
 obtain ⟨x49,hx49,hF⟩:=bind_some hF
 refine W_drawS 11 [isV (v0),anyF,isV (.agg #[v1_0,I c.bound]),exA fun u_0=>isV (.agg #[u_0,I x31.bound]),anyF,anyF,isV (I fuel),tup3 (isV (I x49.1)) (anyF) (anyF),isV (I x49.1),anyF,anyF] [box g3 43 #[v1_0,I c.bound]] [.made 1 18 (fun v_=>oF 43 (rCon 112) v_ x23) (some 5),.made 3 20 (fun v_=>oF 112 rTerm (aggC v_ 0) x31.terms) (some 4),.made 4 21 (fun v_=>oS 43 (oCon 112) v_ ([x31])) (some 5),.made 5 22 (fun v_=>oF 43 (rCon 112) v_ x37) none,.made 7 24 (fun v_=>oF 4 RP.bool (tupC v_ 1) x49.2.1) (some 9),.made 7 24 (fun v_=>oS 93 (oStep 112) (tupC v_ 2) x49.2.2) (some 10),.made 9 26 (fun v_=>oF 4 RP.bool v_ x49.2.1) none,.made 10 27 (fun v_=>oS 93 (oStep 112) v_ x49.2.2) none] ([]) [([],[]),([],[0]),([],[]),([],[1]),([1],[2]),([0,2],[3]),([],[]),([3],[3,4,5]),([],[]),([4],[6]),([5],[7])] (S:=[(some 1,[18],some 5),(some 3,[20],some 4),(some 4,[21],some 5),(some 5,[22],none),(some 7,[24],some 9),(some 7,[24],some 10),(some 9,[26],none),(some 10,[27],none)]) Try_mix (by kernel_rfl) rfl (by kernel_rfl) (amF_cons (mono_V _) (amF_cons (mono_any) (amF_cons (mono_V _) (amF_cons (mono_exA fun _=>mono_V _) (amF_cons (mono_any) (amF_cons (mono_any) (amF_cons (mono_V _) (amF_cons (mono_tup3 (mono_V _) (mono_any) (mono_any)) (amF_cons (mono_V _) (amF_cons (mono_any) (amF_cons (mono_any) amF_nil))))))))))) hst ?_ (fun f w_ H53 hS53 hE53 hT53 hst=>?_)
 refine opsS_cons (fun f w_ _ _ s _ _ hst=>mF ((s 0 rfl).trans sf0) rfl (nO rfl rfl hst)) (opsS_cons ?_ ?_)
 intro f w_ H53 X53 hS53 hE53 hP53 hst
 refine L_call rfl Try.call66 (ops1 (hP53 0 17 rfl rfl)) (slices_Clone_implConstraint_c (s:=list) hst (RP.mono _ h0 hE53) hx23) ?_
 rintro r80_0 w80 ⟨H80,l80,_,rfl,hst⟩
 have hst:=hst.get 1 rfl
 exact L_nil ⟨rfl,_,_,rfl,l80,fun _ _=>trivial,hst⟩
 refine opsS_cons (fun f w_ _ _ s _ _ hst=>L_lda (cs:=[v1_0,I c.bound]) rfl Try.isAgg43 Try.sizeOf43 ((s 4 rfl).trans sf4) (At.sub0 (Blk.at (Star.blkAt 0 hst rfl)) 0 2) rfl (nO rfl rfl hst)) (opsS_cons ?_ ?_)
 intro f w_ H53 X53 hS53 hE53 hP53 hst
 obtain ⟨H82b,l83,s84,z85,k86⟩:=hst.borrow
 refine L_call rfl Try.call78 (ops1 (hP53 2 19 rfl rfl)) (i_Constraint_negation_c (c:=c) s84 (RP.mono _ h1_0 (Le.trans hE53 l83)) hx31) ?_
 rintro _ w87 ⟨r87_0,rfl,hst⟩
 have hst:=k86 hst (co closed_term c0)
 have hst:=hst.get 1 rfl
 exact L_nil ⟨rfl,_,_,rfl,Le.refl _,fun _ _=>⟨_,rfl⟩,hst⟩
 refine opsS_cons ?_ ?_
 intro f w_ H53 X53 hS53 hE53 hP53 hst
 have hst : Star H53 w_ (box g3 43 #[v1_0,I c.bound] :: own (OR.ownS 112 (OR.frz rTerm)) [(aggC (f 20) 0)] x31.terms :: X53):=hst
 obtain ⟨u89_0,hv89⟩:=(hP53 3 20 rfl rfl)
 have hren : Star H53 w_ (box g3 43 #[v1_0,I c.bound] :: own (OR.ownS 112 (OR.frz rTerm)) [(aggC (f 20) 0)] x31.terms :: X53):=hst
 rw [hv89] at hren
 have hst : Star H53 w_ (box g3 43 #[v1_0,I c.bound] :: oF 112 rTerm u89_0 x31.terms :: X53):=hren
 refine L_bs rfl (parts1 hv89) (bs_23_1_2 (u89_0) (I x31.bound) ) hst (fun g90 w91 hst=>?_)
 have hst:=hst.get 2 rfl
 have hst:=oCon_close (c:=x31) hst
 have hst:=Star.mkRow (R:=(oCon 112)) [([u89_0,I x31.bound],x31)] [x31] 1 hst rfl rfl rfl (by decide)
 have hst:=hst.get 1 rfl
 exact L_nil ⟨rfl,_,_,rfl,Le.refl _,fun _ _=>trivial,hst⟩
 refine opsS_cons ?_ ?_
 intro f w_ H53 X53 hS53 hE53 hP53 hst
 have hst : Star H53 w_ (box g3 43 #[v1_0,I c.bound] :: oF 43 (rCon 112) (f 18) x23 :: oS 43 (oCon 112) (f 21) ([x31]) :: X53):=hst
 have hst:=hst.get 2 rfl
 obtain ⟨H95,l96,hst⟩:=Star.shallow hst
 have hst : Star H95 w_ (oF 43 (rCon 112) (f 21) ([x31]) :: _):=hst
 have hst:=hst.get 2 rfl
 refine L_appM (v:=(f 18)) (u:=(f 21)) rfl et_23 rfl rfl hst hx37 (fun v97 w98 hst=>?_)
 have hst:=hst.get 1 rfl
 exact L_nil ⟨rfl,_,_,rfl,l96,fun _ _=>trivial,hst⟩
 refine opsS_cons (fun f w_ _ _ s _ _ hst=>mF ((s 2 rfl).trans sf2) rfl (nO rfl rfl hst)) (opsS_cons ?_ ?_)
 intro f w_ H53 X53 hS53 hE53 hP53 hst
 have hst : Star H53 w_ (box g3 43 #[v1_0,I c.bound] :: oF 43 (rCon 112) (f 22) x37 :: X53):=hst
 obtain ⟨H101b,l102,s103,z104,k105⟩:=hst.borrow
 have hb106 : (rS 43 (rCon 112)).rel H101b [(f 22)] x37:=fz_own 1 z104 rfl
 refine L_call rfl Try.call17 (ops2 rfl (hP53 6 23 rfl rfl)) (i_SolveProblem_c (list:=x37) (fuel:=fuel) s103 hb106 hx49) ?_
 rintro _ w107 ⟨r107_0,r107_1,rfl,hst⟩
 have hst:=k105 hst (co closed_bool (co closed_oStep c0))
 have hst:=hst.gets [1,1,3,3] rfl
 exact L_nil ⟨rfl,_,_,rfl,Le.refl _,fun _ _=>⟨_,_,_,rfl,rfl,trivial,trivial⟩,hst⟩
 refine opsS_cons ?_ ?_
 intro f w_ H53 X53 hS53 hE53 hP53 hst
 obtain ⟨a110_0,a110_1,a110_2,hv110,ht110_0,ht110_1,ht110_2⟩:=(hP53 7 24 rfl rfl)
 obtain rfl:=ht110_0
 refine L_ex (v:=I x49.1) rfl hv110 rfl (L_nil ⟨rfl,_,_,rfl,Le.refl _,fun _ _=>rfl,hst⟩)
 refine opsS_cons ?_ ?_
 intro f w_ H53 X53 hS53 hE53 hP53 hst
 have hst : Star H53 w_ (box g3 43 #[v1_0,I c.bound] :: own (OR.ownS 4 (OR.frz RP.bool)) [(tupC (f 24) 1)] x49.2.1 :: X53):=hst
 obtain ⟨a111_0,a111_1,a111_2,hv111,ht111_0,ht111_1,ht111_2⟩:=(hP53 7 24 rfl rfl)
 obtain rfl:=ht111_0
 have hren : Star H53 w_ (box g3 43 #[v1_0,I c.bound] :: own (OR.ownS 4 (OR.frz RP.bool)) [(tupC (f 24) 1)] x49.2.1 :: X53):=hst
 rw [hv111] at hren
 have hst : Star H53 w_ (box g3 43 #[v1_0,I c.bound] :: oF 4 RP.bool a111_1 x49.2.1 :: X53):=hren
 refine L_ex (v:=a111_1) rfl hv111 rfl (L_nil ⟨rfl,_,_,rfl,Le.refl _,fun _ _=>trivial,hst⟩)
 refine opsS_cons ?_ ?_
 intro f w_ H53 X53 hS53 hE53 hP53 hst
 have hst : Star H53 w_ (box g3 43 #[v1_0,I c.bound] :: own (OR.ownS 93 (oStep 112)) [(tupC (f 24) 2)] x49.2.2 :: X53):=hst
 obtain ⟨a112_0,a112_1,a112_2,hv112,ht112_0,ht112_1,ht112_2⟩:=(hP53 7 24 rfl rfl)
 obtain rfl:=ht112_0
 have hren : Star H53 w_ (box g3 43 #[v1_0,I c.bound] :: own (OR.ownS 93 (oStep 112)) [(tupC (f 24) 2)] x49.2.2 :: X53):=hst
 rw [hv112] at hren
 have hst : Star H53 w_ (box g3 43 #[v1_0,I c.bound] :: oS 93 (oStep 112) a112_2 x49.2.2 :: X53):=hren
 refine L_ex (v:=a112_2) rfl hv112 rfl (L_nil ⟨rfl,_,_,rfl,Le.refl _,fun _ _=>trivial,hst⟩)
 exact opsS_nil
 have hst : Star H53 w_ ([box g3 43 #[v1_0,I c.bound],oF 43 (rCon 112) (f 22) x37,oF 4 RP.bool (f 26) x49.2.1,oS 93 (oStep 112) (f 27) x49.2.2]):=hst
 refine aF (hT53 8 25 rfl rfl) rfl (aV (f 26) rfl (aV (f 27) rfl (nn (W_ret (retG3 (v1:=I x49.1) (v2:=(f 26)) (v3:=(f 27)) Try.results28 rfl rfl rfl ?_)))))
 obtain rfl:=so hF
 have hst:=hst.gets [3,3] rfl
 exact ⟨(f 26),(f 27),rfl,(Star.down (Star.keepN 2 hst) hE53 (co closed_bool (co closed_oStep c0)))⟩
theorem s_NegateConstraint_c {c : Con} {v0_0 : Value} {H : FH} {w : World} (hst : Star H w []) (h0_0 : (rS 112 rTerm).rel H [v0_0] c.terms) {r : Con × Bool} (hF : s_NegateConstraint c = some r) :
 C Try.prog 79 #[.agg #[v0_0,I c.bound]] w fun v w'=>∃ (u1 : Value),v = .tuple #[.agg #[u1,I r.1.bound],Bo r.2]∧Star H w' [oF 112 rTerm u1 r.1.terms]:=by
 unfold s_NegateConstraint at hF
 refine C_enter Try.func79 rfl Try.ntmps79 rfl (sq (L_box (v:=.agg #[v0_0,I c.bound]) (cs:=#[v0_0,I c.bound]) rfl rfl rfl hst (fun g5 w6 hst=>L_al (cs:=#[S0,I 0]) rfl Try.zeroValue43 rfl hst (fun g7 w8 hst=>aB rfl (nq (W_seq ?_))))))
 obtain ⟨x14,hx14,hF⟩:=bind_some hF
 refine W_region (L_lda (cs:=[v0_0,I c.bound]) rfl Try.isAgg43 Try.sizeOf43 rfl (At.sub0 (Blk.at (Star.blkAt 1 hst rfl)) 0 2) rfl ?_)
 obtain ⟨H16b,l17,s18,z19,k20⟩:=hst.borrow
 refine L_call rfl Try.call77 (ops1 rfl) (s_ConstraintValid_c (c:=c) s18 (RP.mono _ h0_0 l17) hx14) ?_
 rintro _ w21 ⟨rfl,hst⟩
 have hst:=k20 hst c0
 refine L_not_ rfl rfl (nn (W_cond (b:=(!x14)) rfl (fun hc22=>?_) (fun hc22=>?_)))
 have hF:=(ite_t hc22).symm.trans hF
 refine sq (L_bld rfl (parts0 ) (bld_43_  ) (L_staB (vs:=#[S0,I 0]) (cs2:=#[S0,I 0]) 0 rfl Try.sizeOf43 rfl rfl rfl (ones_cons rfl (ones_cons rfl ones_nil)) hst rfl (by show 0 + 2≤2; decide) rfl (fun w24 hst=>aB rfl (nn (W_ret (retG2 (v1:=.agg #[S0,I 0]) (v2:=Bo false) Try.results79 (resV_agg Try.isAgg43 Try.sizeOf43 rfl (Star.blkAt 0 hst rfl) rfl) rfl ?_))))))
 obtain rfl:=so hF
 have hst:=Star.addNil (R:=(OR.frz rTerm)) (e:=112) hst
 exact ⟨S0,rfl,(Star.keepN 1 hst)⟩
 have hF:=(ite_f hc22).symm.trans hF
 refine W_skip (W_seq ?_)
 obtain ⟨x31,hx31,hF⟩:=bind_some hF
 refine W_drawS 8 [isV (.agg #[v0_0,I c.bound]),isV (I x31),isV (Pq g5 1),isV (I c.bound),isV (I (i64 (x31 - c.bound))),isV (I (i64 ((i64 (x31 - c.bound)) + 1))),isV (.agg #[S0,I (i64 ((i64 (x31 - c.bound)) + 1))]),anyF] [box g7 43 #[S0,I 0],box g5 43 #[v0_0,I c.bound]] [.made 7 4 (fun v_=>boxV v_ 43 #[S0,I 0]) none] ([]) [([],[]),([],[]),([],[]),([],[]),([],[]),([],[]),([],[]),([],[0])] (S:=[(some 7,[4],none)]) Try_mix (by kernel_rfl) rfl (by kernel_rfl) (amF_cons (mono_V _) (amF_cons (mono_V _) (amF_cons (mono_V _) (amF_cons (mono_V _) (amF_cons (mono_V _) (amF_cons (mono_V _) (amF_cons (mono_V _) (amF_cons (mono_any) amF_nil)))))))) hst ?_ (fun f w_ H36 hS36 hE36 hT36 hst=>?_)
 refine opsS_cons (fun f w_ _ _ s _ _ hst=>L_lda (cs:=[v0_0,I c.bound]) rfl Try.isAgg43 Try.sizeOf43 ((s 1 rfl).trans rfl) (At.sub0 (Blk.at (Star.blkAt 1 hst rfl)) 0 2) rfl (nO rfl rfl hst)) (opsS_cons ?_ ?_)
 intro f w_ H36 X36 hS36 hE36 hP36 hst
 obtain ⟨H45b,l46,s47,z48,k49⟩:=hst.borrow
 refine L_call rfl Try.call104 (ops1 (hP36 0 10 rfl rfl)) (s_l1Total_c (c:=c) s47 (RP.mono _ h0_0 (Le.trans hE36 l46)) hx31) ?_
 rintro _ w50 ⟨rfl,hst⟩
 have hst:=k49 hst c0
 exact L_nil ⟨rfl,_,_,rfl,Le.refl _,fun _ _=>rfl,hst⟩
 refine opsS_cons (fun f w_ _ _ s _ _ hst=>fA 1 fa_43_1 ((s 1 rfl).trans rfl) rfl (nO rfl rfl hst)) (opsS_cons (fun f w_ _ _ _ _ p hst=>ldB 1 hst Try.isAgg3 (p 2 12 rfl rfl) rfl rfl (nO rfl rfl hst)) (opsS_cons (fun f w_ _ _ _ _ p hst=>L_sub rfl (p 1 11 rfl rfl) (p 3 13 rfl rfl) (nO rfl rfl hst)) (opsS_cons (fun f w_ _ _ _ _ p hst=>L_add rfl (p 4 14 rfl rfl) rfl (nO rfl rfl hst)) (opsS_cons (fun f w_ _ _ _ _ p hst=>L_bld rfl (parts1 (p 5 15 rfl rfl)) (bld_43_1 (I (i64 ((i64 (x31 - c.bound)) + 1))) rfl) (nO rfl rfl hst)) (opsS_cons ?_ ?_)))))
 intro f w_ H36 X36 hS36 hE36 hP36 hst
 refine L_al (cs:=#[S0,I 0]) rfl Try.zeroValue43 rfl hst (fun g51 w52 hst=>?_)
 have hst:=hst.gets [2,2,2] rfl
 have hst:=Star.boxV (v:=Pt g51) rfl hst
 have hst:=hst.gets [2,2] rfl
 exact L_nil ⟨rfl,_,_,rfl,Le.refl _,fun _ _=>trivial,hst⟩
 exact opsS_nil
 have hst : Star H36 w_ ([box g7 43 #[S0,I 0],box g5 43 #[v0_0,I c.bound],boxV (f 4) 43 #[S0,I 0]]):=hst
 obtain ⟨g53,hv53,hst⟩:=Star.unboxV (Star.get 2 hst rfl)
 refine L_staB (vs:=#[S0,I (i64 ((i64 (x31 - c.bound)) + 1))]) (cs2:=#[S0,I (i64 ((i64 (x31 - c.bound)) + 1))]) 0 rfl Try.sizeOf43 hv53 (hT36 6 16 rfl rfl) rfl (ones_cons rfl (ones_cons rfl ones_nil)) hst rfl (by show 0 + 2≤2; decide) rfl (fun w54 hst=>L_nil (W_seq (sq (aI rfl (nn ?_)))))
 have hlen60 : List.length c.terms≤9223372036854775807:=len_le (slice_len (RP.mono _ h0_0 hE36))
 obtain ⟨j60,hL60,hF⟩:=bind_some hF
 obtain ⟨R60,hR60⟩:=exR fun f w_=>∃ g53_0_56 : List Term,∃ H58 : FH,∃ v56_g53_0 : Value,j60 = .nx g53_0_56∧Le H36 H58∧f 2 = Pt g7∧f 4 = Pt g53∧Star H58 w_ ([oF 112 rTerm v56_g53_0 g53_0_56,box g53 43 #[v56_g53_0,I (i64 ((i64 (x31 - c.bound)) + 1))],box g7 43 #[S0,I 0]])
 refine W_join R60 ?_ ?_
 refine W_block ?_
 obtain ⟨I60,hI60⟩:=exI fun n f w_=>∃ i_55 : Nat,∃ suf60 : List Term,∃ g53_0_56 : List Term,∃ H58 : FH,∃ v56_g53_0 : Value,n = suf60.length∧List.drop i_55 c.terms = suf60∧i_55 + suf60.length = c.terms.length∧rangeL s_NegateConstraint_b1 suf60 i_55 g53_0_56 = some j60∧Le H36 H58∧f 1 = Pt g5∧f 2 = Pt g7∧f 4 = Pt g53∧f 5 = I i_55∧Star H58 w_ ([oF 112 rTerm v56_g53_0 g53_0_56,box g53 43 #[v56_g53_0,I (i64 ((i64 (x31 - c.bound)) + 1))],box g7 43 #[S0,I 0],box g5 43 #[v0_0,I c.bound]])
 have hst:=Star.addNil (R:=(OR.frz rTerm)) (e:=112) hst
 refine W_loop I60 (n:=c.terms.length) ?_ ?_
 exact ij hI60 ⟨0,c.terms,[],H36,S0,rfl,rfl,Nat.zero_add _,hL60,(Le.refl _),((hS36 1 rfl).trans rfl),((hS36 2 rfl).trans rfl),hv53,rfl,hst⟩
 intro n60 f w_ hI
 obtain ⟨i_55,suf60,g53_0_56,H58,v56_g53_0,rfl,hd60,hl60,hL60,l59,sf1,sf2,sf4,sf5,hst⟩:=ik hI60 hI
 refine W_seq (sq (mF sf5 rfl (fA 0 fa_43_0 sf1 rfl (ldB 3 hst Try.isAgg41 rfl rfl rfl (L_len rfl Try.underlying41 rfl (slice_len (RP.mono _ h0_0 (Le.trans hE36 l59))) (L_lss rfl rfl rfl (nn (W_cond (b:=decide ((i_55 : Int) < (c.terms.length : Int))) rfl (fun hc62=>?_) (fun hc62=>?_)))))))))
 have hlt60:=of_decide_eq_true hc62
 rcases suf60 with _ | ⟨x_60,rest60⟩
 exact absurd hlt60 (by simp at hl60; omega)
 obtain ⟨o60,hB60,hL60⟩:=range_cons hL60
 rw [s_NegateConstraint_b1] at hB60
 have hix60:=drop_idx hd60
 refine W_skip (W_seq (W_block ?_))
 obtain ⟨x74,hx74,hB60⟩:=bind_some hB60
 refine W_drawS 17 [isV (Pt g53),isV (v56_g53_0),isV (Pt g5),isV (v0_0),isV (I i_55),isEl rTerm x_60 0,isEl rTerm x_60 0,isV (I x_60.coef),isV (Pt g5),isV (v0_0),isV (I i_55),isEl rTerm x_60 0,isEl rTerm x_60 1,isV (I x_60.lit),isV (I (i64 (-x_60.lit))),isV (.agg #[I x_60.coef,I (i64 (-x_60.lit))]),anyF] [oF 112 rTerm v56_g53_0 g53_0_56,box g53 43 #[v56_g53_0,I (i64 ((i64 (x31 - c.bound)) + 1))],box g7 43 #[S0,I 0],box g5 43 #[v0_0,I c.bound]] [.made 16 40 (fun v_=>oF 112 rTerm v_ ([({ coef:=x_60.coef,lit:=i64 (-x_60.lit) } : Term)])) none] ([]) [([],[]),([],[]),([],[]),([],[]),([],[]),([],[]),([],[]),([],[]),([],[]),([],[]),([],[]),([],[]),([],[]),([],[]),([],[]),([],[]),([],[0])] (S:=[(some 16,[40],none)]) Try_mix (by kernel_rfl) rfl (by kernel_rfl) (amF_cons (mono_V _) (amF_cons (mono_V _) (amF_cons (mono_V _) (amF_cons (mono_V _) (amF_cons (mono_V _) (amF_cons (mono_el _ _ _) (amF_cons (mono_el _ _ _) (amF_cons (mono_V _) (amF_cons (mono_V _) (amF_cons (mono_V _) (amF_cons (mono_V _) (amF_cons (mono_el _ _ _) (amF_cons (mono_el _ _ _) (amF_cons (mono_V _) (amF_cons (mono_V _) (amF_cons (mono_V _) (amF_cons (mono_any) amF_nil))))))))))))))))) hst ?_ (fun f w_ H79 hS79 hE79 hT79 hst=>?_)
 refine opsS_cons (fun f w_ _ _ s _ _ hst=>fA 0 fa_43_0 ((s 4 rfl).trans sf4) rfl (nO rfl rfl hst)) (opsS_cons (fun f w_ _ _ _ _ p hst=>ldB 1 hst Try.isAgg41 (p 0 24 rfl rfl) rfl rfl (nO rfl rfl hst)) (opsS_cons (fun f w_ _ _ s _ _ hst=>fA 0 fa_43_0 ((s 1 rfl).trans sf1) rfl (nO rfl rfl hst)) (opsS_cons (fun f w_ _ _ _ _ p hst=>ldB 3 hst Try.isAgg41 (p 2 26 rfl rfl) rfl rfl (nO rfl rfl hst)) (opsS_cons (fun f w_ _ _ s _ _ hst=>mF ((s 5 rfl).trans sf5) rfl (nO rfl rfl hst)) (opsS_cons ?_ ?_)))))
 intro f w_ H79 X79 hS79 hE79 hP79 hst
 refine L_ix (r:=rTerm) rfl Try.underlying41 Try.sizeOf112 (hP79 3 27 rfl rfl) (RP.mono _ h0_0 (Le.trans (Le.trans hE36 l59) hE79)) (hP79 4 28 rfl rfl) hix60 (fun g91 o92 cs_g91 hrk_hat93 hat93=>?_)
 obtain rfl:=rTerm_iff.1 hrk_hat93
 exact L_nil ⟨rfl,_,_,rfl,Le.refl _,fun _ _=>⟨_,_,_,rfl,hrk_hat93,hat93⟩,hst⟩
 refine opsS_cons ?_ ?_
 intro f w_ H79 X79 hS79 hE79 hP79 hst
 obtain ⟨g95,o95,cs95,hv95,hrk_hat95,hat95⟩:=(hP79 5 29 rfl rfl)
 obtain rfl:=rTerm_iff.1 hrk_hat95
 refine fA o95 fa_112_0 hv95 rfl (L_nil ⟨rfl,_,_,rfl,Le.refl _,fun _ _=>⟨_,_,_,rfl,hrk_hat95,hat95⟩,hst⟩)
 refine opsS_cons ?_ ?_
 intro f w_ H79 X79 hS79 hE79 hP79 hst
 obtain ⟨g97,o97,cs97,hv97,hrk_hat97,hat97⟩:=(hP79 6 30 rfl rfl)
 obtain rfl:=rTerm_iff.1 hrk_hat97
 refine L_ld rfl Try.isAgg3 hv97 (At.cell (AtH.at hat97 hst.sub) (j:=0) rfl) (L_nil ⟨rfl,_,_,rfl,Le.refl _,fun _ _=>rfl,hst⟩)
 refine opsS_cons (fun f w_ _ _ s _ _ hst=>fA 0 fa_43_0 ((s 1 rfl).trans sf1) rfl (nO rfl rfl hst)) (opsS_cons (fun f w_ _ _ _ _ p hst=>ldB 3 hst Try.isAgg41 (p 8 32 rfl rfl) rfl rfl (nO rfl rfl hst)) (opsS_cons (fun f w_ _ _ s _ _ hst=>mF ((s 5 rfl).trans sf5) rfl (nO rfl rfl hst)) (opsS_cons ?_ ?_)))
 intro f w_ H79 X79 hS79 hE79 hP79 hst
 refine L_ix (r:=rTerm) rfl Try.underlying41 Try.sizeOf112 (hP79 9 33 rfl rfl) (RP.mono _ h0_0 (Le.trans (Le.trans hE36 l59) hE79)) (hP79 10 34 rfl rfl) hix60 (fun g99 o100 cs_g99 hrk_hat101 hat101=>?_)
 obtain rfl:=rTerm_iff.1 hrk_hat101
 exact L_nil ⟨rfl,_,_,rfl,Le.refl _,fun _ _=>⟨_,_,_,rfl,hrk_hat101,hat101⟩,hst⟩
 refine opsS_cons ?_ ?_
 intro f w_ H79 X79 hS79 hE79 hP79 hst
 obtain ⟨g103,o103,cs103,hv103,hrk_hat103,hat103⟩:=(hP79 11 35 rfl rfl)
 obtain rfl:=rTerm_iff.1 hrk_hat103
 refine fA (o103 + 1) fa_112_1 hv103 rfl (L_nil ⟨rfl,_,_,rfl,Le.refl _,fun _ _=>⟨_,_,_,rfl,hrk_hat103,hat103⟩,hst⟩)
 refine opsS_cons ?_ ?_
 intro f w_ H79 X79 hS79 hE79 hP79 hst
 obtain ⟨g105,o105,cs105,hv105,hrk_hat105,hat105⟩:=(hP79 12 36 rfl rfl)
 obtain rfl:=rTerm_iff.1 hrk_hat105
 refine L_ld rfl Try.isAgg3 hv105 (At.cell (AtH.at hat105 hst.sub) (j:=1) rfl) (L_nil ⟨rfl,_,_,rfl,Le.refl _,fun _ _=>rfl,hst⟩)
 refine opsS_cons (fun f w_ _ _ _ _ p hst=>L_neg rfl (p 13 37 rfl rfl) (nO rfl rfl hst)) (opsS_cons (fun f w_ _ _ _ _ p hst=>L_bld rfl (parts2 (p 7 31 rfl rfl) (p 14 38 rfl rfl)) (bld_112_0_1 (I x_60.coef) (I (i64 (-x_60.lit))) rfl rfl) (nO rfl rfl hst)) (opsS_cons ?_ ?_))
 intro f w_ H79 X79 hS79 hE79 hP79 hst
 refine L_bs rfl (parts1 (hP79 15 39 rfl rfl)) (bs_41_1_2 (I x_60.coef) (I (i64 (-x_60.lit))) ) hst (fun g107 w108 hst=>?_)
 have hst:=Star.addF (r:=rTerm) (cs:=[I x_60.coef,I (i64 (-x_60.lit))]) (x:=({ coef:=x_60.coef,lit:=i64 (-x_60.lit) } : Term)) hst (rTerm_iff.2 rfl)
 have hst:=Star.mkRow (R:=(OR.frz rTerm)) [([I x_60.coef,I (i64 (-x_60.lit))],({ coef:=x_60.coef,lit:=i64 (-x_60.lit) } : Term))] [({ coef:=x_60.coef,lit:=i64 (-x_60.lit) } : Term)] 1 hst rfl rfl rfl (by decide)
 have hst:=hst.gets [4,4,4,4] rfl
 exact L_nil ⟨rfl,_,_,rfl,Le.refl _,fun _ _=>trivial,hst⟩
 exact opsS_nil
 have hst : Star H79 w_ ([oF 112 rTerm v56_g53_0 g53_0_56,box g53 43 #[v56_g53_0,I (i64 ((i64 (x31 - c.bound)) + 1))],box g7 43 #[S0,I 0],box g5 43 #[v0_0,I c.bound],oF 112 rTerm (f 40) ([({ coef:=x_60.coef,lit:=i64 (-x_60.lit) } : Term)])]):=hst
 have hst:=hst.gets [4,1] rfl
 refine L_appM (v:=v56_g53_0) (u:=(f 40)) rfl et_41 (hT79 1 25 rfl rfl) rfl hst hx74 (fun v111 w112 hst=>fA 0 fa_43_0 ((hS79 4 rfl).trans sf4) rfl (L_stB (v:=v111) (cs2:=#[v111,I (i64 ((i64 (x31 - c.bound)) + 1))]) 1 rfl Try.sizeOf41 rfl rfl (one_len (Star.len 0 hst rfl)) hst rfl rfl rfl (fun w114 hst=>nn (W_region (mF ((hS79 5 rfl).trans sf5) rfl (L_add rfl rfl rfl (aI rfl (nn ?_))))))))
 obtain rfl:=so hB60
 have hst:=hst.gets [3,3,2,3] rfl
 show ∃ m,m < _∧I60 m _ _
 refine ⟨rest60.length,by simp,?_⟩
 exact ij hI60 ⟨i_55 + 1,rest60,x74,H79,v111,rfl,drop_next hd60,by simp at hl60; omega,hL60,(Le.trans l59 hE79),((hS79 1 rfl).trans sf1),((hS79 2 rfl).trans sf2),((hS79 4 rfl).trans sf4),(Eq.trans rfl (congrArg (Value.int .i64) (i64_succ (n:=c.terms.length) (by simp at hl60; omega) hlen60))),hst⟩
 rcases suf60 with _ | ⟨_,_⟩
 obtain rfl:=range_nil hL60
 refine W_exit (rj hR60 ⟨g53_0_56,H58,v56_g53_0,rfl,l59,sf2,sf4,(Star.keepN 3 hst)⟩)
 exact absurd (of_decide_eq_false hc62) (by simp at hl60; omega)
 intro f w_ hR
 obtain ⟨g53_0_56,H58,v56_g53_0,rfl,l59,sf2,sf4,hst⟩:=rk hR60 hR
 refine W_seq (sq (fA 1 fa_43_1 sf4 rfl (ldB 1 hst Try.isAgg3 rfl rfl rfl (L_lss rfl rfl rfl (nn ?_)))))
 obtain ⟨g53_1_115,hA116,hF⟩:=bind_some hF
 obtain ⟨R116,hR116⟩:=exR fun f w_=>f 2 = Pt g7∧f 4 = Pt g53∧Star H58 w_ ([oF 112 rTerm v56_g53_0 g53_0_56,box g53 43 #[v56_g53_0,I g53_1_115],box g7 43 #[S0,I 0]])
 refine W_join R116 ?_ ?_
 refine W_cond (b:=decide ((i64 ((i64 (x31 - c.bound)) + 1)) < 0)) rfl (fun hc117=>?_) (fun hc117=>?_)
 have hA116:=(ite_t hc117).symm.trans hA116
 refine W_region (fA 1 fa_43_1 sf4 rfl (L_stB (v:=I 0) (cs2:=#[v56_g53_0,I 0]) 1 rfl Try.sizeOf3 rfl rfl rfl hst rfl rfl rfl (fun w119 hst=>nn ?_)))
 obtain rfl:=so hA116
 have hst:=hst.gets [2,1,2] rfl
 exact rj hR116 ⟨sf2,sf4,hst⟩
 have hA116:=(ite_f hc117).symm.trans hA116
 refine W_skip ?_
 obtain rfl:=so hA116
 exact rj hR116 ⟨sf2,sf4,hst⟩
 intro f w_ hR
 obtain ⟨sf2,sf4,hst⟩:=rk hR116 hR
 refine sq (L_lda (cs:=[v56_g53_0,I g53_1_115]) rfl Try.isAgg43 Try.sizeOf43 sf4 (At.sub0 (Blk.at (Star.blkAt 1 hst rfl)) 0 2) rfl (L_staB (vs:=#[v56_g53_0,I g53_1_115]) (cs2:=#[v56_g53_0,I g53_1_115]) 2 rfl Try.sizeOf43 sf2 rfl rfl (ones_cons (one_len (Star.len 0 hst rfl)) (ones_cons rfl ones_nil)) hst rfl (by show 0 + 2≤2; decide) rfl (fun w121 hst=>aB rfl (nn (W_ret (retG2 (v1:=.agg #[v56_g53_0,I g53_1_115]) (v2:=Bo true) Try.results79 (resV_agg Try.isAgg43 Try.sizeOf43 sf2 (Star.blkAt 0 hst rfl) rfl) rfl ?_))))))
 obtain rfl:=so hF
 have hst:=hst.get 1 rfl
 exact ⟨v56_g53_0,rfl,(Star.down (Star.keepN 1 hst) (Le.trans hE36 l59) (co closed_term c0))⟩
theorem s_ProveConstraint_c {fu : Nat} {list : List Con} {c : Con} {fuel : Int} {v0 : Value} {v1_0 : Value} {H : FH} {w : World} (hst : Star H w []) (h0 : (rS 43 (rCon 112)).rel H [v0] list) (h1_0 : (rS 112 rTerm).rel H [v1_0] c.terms) {r : Int × (List Bool) × (List Step)} (hF : s_ProveConstraint fu list c fuel = some r) :
 C Try.prog 29 #[v0,.agg #[v1_0,I c.bound],I fuel] w fun v w'=>∃ (u1 : Value) (u2 : Value),v = .tuple #[I r.1,u1,u2]∧Star H w' [oF 4 RP.bool u1 r.2.1,oS 93 (oStep 112) u2 r.2.2]:=by
 unfold s_ProveConstraint at hF
 refine C_enter Try.func29 rfl Try.ntmps29 rfl (sq (L_box (v:=.agg #[v1_0,I c.bound]) (cs:=#[v1_0,I c.bound]) rfl rfl rfl hst (fun g3 w4 hst=>aI rfl (aV S0 rfl (aV S0 rfl (nq ?_))))))
 obtain ⟨x10,hx10,hF⟩:=bind_some hF
 refine W_region (L_lda (cs:=[v1_0,I c.bound]) rfl Try.isAgg43 Try.sizeOf43 rfl (At.sub0 (Blk.at (Star.blkAt 0 hst rfl)) 0 2) rfl ?_)
 obtain ⟨H16b,l17,s18,z19,k20⟩:=hst.borrow
 refine L_call rfl Try.call79 (ops1 rfl) (s_NegateConstraint_c (c:=c) s18 (RP.mono _ h1_0 l17) hx10) ?_
 rintro _ w21 ⟨r21_0,rfl,hst⟩
 have hst:=k20 hst (co closed_term c0)
 refine mV (.tuple #[.agg #[r21_0,I x10.1.bound],Bo x10.2]) rfl (L_ex (v:=.agg #[r21_0,I x10.1.bound]) rfl rfl rfl (L_ex (v:=Bo x10.2) rfl rfl rfl (L_al (cs:=#[S0,I 0]) rfl Try.zeroValue43 rfl hst (fun g23 w24 hst=>L_staB (vs:=#[r21_0,I x10.1.bound]) (cs2:=#[r21_0,I x10.1.bound]) 0 rfl Try.sizeOf43 rfl rfl rfl (ones_cons (one_len (Star.len 1 hst rfl)) (ones_cons rfl ones_nil)) hst rfl (by show 0 + 2≤2; decide) rfl (fun w25 hst=>aB rfl (nq (W_seq ?_)))))))
 obtain ⟨R26,hR26⟩:=exR fun f w_=>f 0 = v0∧f 2 = I fuel∧f 9 = Pt g23∧f 22 = Bo ((!x10.2) || (decide ((list.length : Int) ≥ 400)))∧Star H w_ ([oF 112 rTerm r21_0 x10.1.terms,box g23 43 #[r21_0,I x10.1.bound]])
 refine W_join R26 ?_ ?_
 refine W_region (mB rfl (L_not_ rfl rfl (mB rfl (L_split (d:=18) (b:=(!x10.2)) rfl (fun hc27=>?_) (fun hc27=>?_)))))
 refine ps rfl (ps rfl (ps rfl (L_pick (v:=Bo ((!x10.2) || (decide ((list.length : Int) ≥ 400)))) rfl rfl (or_t hc27) (nn ?_))))
 have hst:=hst.get 1 rfl
 exact rj hR26 ⟨rfl,rfl,rfl,rfl,(Star.keepN 2 hst)⟩
 refine mV v0 rfl (L_len rfl Try.underlying23 rfl (slice_len h0) (L_geq rfl rfl rfl (L_pick (v:=Bo ((!x10.2) || (decide ((list.length : Int) ≥ 400)))) rfl rfl (or_f hc27 rfl) (nn ?_))))
 have hst:=hst.get 1 rfl
 exact rj hR26 ⟨rfl,rfl,rfl,rfl,(Star.keepN 2 hst)⟩
 intro f w_ hR
 obtain ⟨sf0,sf2,sf9,sf22,hst⟩:=rk hR26 hR
 refine W_cond (b:=((!x10.2) || (decide ((list.length : Int) ≥ 400)))) sf22 (fun hc28=>?_) (fun hc28=>?_)
 have hF:=(ite_t hc28).symm.trans hF
 refine sq (L_bs rfl parts0 (bs_24_0  ) hst (fun g35 w36 hst=>?_))
 have hst:=Star.mkRow (R:=(OR.frz RP.bool)) [] [] 0 hst rfl rfl rfl (by decide)
 refine L_bs rfl parts0 (bs_30_0  ) hst (fun g38 w39 hst=>?_)
 have hst:=Star.mkRow (R:=(OR.frz (rStep 112))) [] [] 0 hst rfl rfl rfl (by decide)
 refine aI rfl (aV (Sl g35 0 0) rfl (aV (Sl g38 0 0) rfl (nn (W_ret (retG3 (v1:=I 3) (v2:=(Sl g35 0 0)) (v3:=(Sl g38 0 0)) Try.results29 rfl rfl rfl ?_)))))
 obtain rfl:=so hF
 have hst:=Star.recast (R:=(OR.frz (rStep 112))) (R':=(oStep 112)) rfl hst
 have hst:=hst.get 1 rfl
 exact ⟨(Sl g35 0 0),(Sl g38 0 0),rfl,(Star.keepN 2 hst)⟩
 have hF:=(ite_f hc28).symm.trans hF
 refine W_skip (W_seq ?_)
 obtain ⟨x44,hx44,hF⟩:=bind_some hF
 obtain ⟨x51,hx51,hF⟩:=bind_some hF
 obtain ⟨x63,hx63,hF⟩:=bind_some hF
 have hst:=hst.get 1 rfl
 refine W_drawS 11 [anyF,isV (v0),anyF,isV (.agg #[r21_0,I x10.1.bound]),anyF,anyF,isV (I fuel),tup3 (isV (I x63.1)) (anyF) (anyF),isV (I x63.1),anyF,anyF] [box g23 43 #[r21_0,I x10.1.bound]] [.base (oF 112 rTerm r21_0 x10.1.terms) (some 4),.made 0 25 (fun v_=>oF 43 (rCon 112) v_ ([])) (some 2),.made 2 27 (fun v_=>oF 43 (rCon 112) v_ x44) (some 5),.made 4 29 (fun v_=>oS 43 (oCon 112) v_ ([x10.1])) (some 5),.made 5 30 (fun v_=>oF 43 (rCon 112) v_ x51) none,.made 7 32 (fun v_=>oF 4 RP.bool (tupC v_ 1) x63.2.1) (some 9),.made 7 32 (fun v_=>oS 93 (oStep 112) (tupC v_ 2) x63.2.2) (some 10),.made 9 34 (fun v_=>oF 4 RP.bool v_ x63.2.1) none,.made 10 35 (fun v_=>oS 93 (oStep 112) v_ x63.2.2) none] ([]) [([],[1]),([],[]),([1],[2]),([],[]),([0],[3]),([2,3],[4]),([],[]),([4],[4,5,6]),([],[]),([5],[7]),([6],[8])] (S:=[(none,[],some 4),(some 0,[25],some 2),(some 2,[27],some 5),(some 4,[29],some 5),(some 5,[30],none),(some 7,[32],some 9),(some 7,[32],some 10),(some 9,[34],none),(some 10,[35],none)]) Try_mix (by kernel_rfl) rfl (by kernel_rfl) (amF_cons (mono_any) (amF_cons (mono_V _) (amF_cons (mono_any) (amF_cons (mono_V _) (amF_cons (mono_any) (amF_cons (mono_any) (amF_cons (mono_V _) (amF_cons (mono_tup3 (mono_V _) (mono_any) (mono_any)) (amF_cons (mono_V _) (amF_cons (mono_any) (amF_cons (mono_any) amF_nil))))))))))) hst ?_ (fun f w_ H67 hS67 hE67 hT67 hst=>?_)
 refine opsS_cons ?_ ?_
 intro f w_ H67 X67 hS67 hE67 hP67 hst
 refine L_bs rfl parts0 (bs_23_0  ) hst (fun g91 w92 hst=>?_)
 have hst:=Star.mkRow (R:=(OR.frz (rCon 112))) [] [] 0 hst rfl rfl rfl (by decide)
 have hst:=hst.get 1 rfl
 exact L_nil ⟨rfl,_,_,rfl,Le.refl _,fun _ _=>trivial,hst⟩
 refine opsS_cons (fun f w_ _ _ s _ _ hst=>mF ((s 0 rfl).trans sf0) rfl (nO rfl rfl hst)) (opsS_cons ?_ ?_)
 intro f w_ H67 X67 hS67 hE67 hP67 hst
 have hst : Star H67 w_ (box g23 43 #[r21_0,I x10.1.bound] :: oF 43 (rCon 112) (f 25) ([]) :: X67):=hst
 have hst:=hst.get 1 rfl
 refine L_app (v:=(f 25)) (u:=v0) rfl et_23 rfl (hP67 1 26 rfl rfl) hst (RP.mono _ h0 hE67) hx44 (fun v95 w96 hst=>?_)
 have hst:=hst.get 1 rfl
 exact L_nil ⟨rfl,_,_,rfl,Le.refl _,fun _ _=>trivial,hst⟩
 refine opsS_cons (fun f w_ _ _ s _ _ hst=>L_lda (cs:=[r21_0,I x10.1.bound]) rfl Try.isAgg43 Try.sizeOf43 ((s 9 rfl).trans sf9) (At.sub0 (Blk.at (Star.blkAt 0 hst rfl)) 0 2) rfl (nO rfl rfl hst)) (opsS_cons ?_ ?_)
 intro f w_ H67 X67 hS67 hE67 hP67 hst
 have hst : Star H67 w_ (box g23 43 #[r21_0,I x10.1.bound] :: oF 112 rTerm r21_0 x10.1.terms :: X67):=hst
 refine L_bs rfl (parts1 (hP67 3 28 rfl rfl)) (bs_23_1_2 (r21_0) (I x10.1.bound) ) hst (fun g98 w99 hst=>?_)
 have hst:=hst.get 2 rfl
 have hst:=oCon_close (c:=x10.1) hst
 have hst:=Star.mkRow (R:=(oCon 112)) [([r21_0,I x10.1.bound],x10.1)] [x10.1] 1 hst rfl rfl rfl (by decide)
 have hst:=hst.get 1 rfl
 exact L_nil ⟨rfl,_,_,rfl,Le.refl _,fun _ _=>trivial,hst⟩
 refine opsS_cons ?_ ?_
 intro f w_ H67 X67 hS67 hE67 hP67 hst
 have hst : Star H67 w_ (box g23 43 #[r21_0,I x10.1.bound] :: oF 43 (rCon 112) (f 27) x44 :: oS 43 (oCon 112) (f 29) ([x10.1]) :: X67):=hst
 have hst:=hst.get 2 rfl
 obtain ⟨H103,l104,hst⟩:=Star.shallow hst
 have hst : Star H103 w_ (oF 43 (rCon 112) (f 29) ([x10.1]) :: _):=hst
 have hst:=hst.get 2 rfl
 refine L_appM (v:=(f 27)) (u:=(f 29)) rfl et_23 rfl rfl hst hx51 (fun v105 w106 hst=>?_)
 have hst:=hst.get 1 rfl
 exact L_nil ⟨rfl,_,_,rfl,l104,fun _ _=>trivial,hst⟩
 refine opsS_cons (fun f w_ _ _ s _ _ hst=>mF ((s 2 rfl).trans sf2) rfl (nO rfl rfl hst)) (opsS_cons ?_ ?_)
 intro f w_ H67 X67 hS67 hE67 hP67 hst
 have hst : Star H67 w_ (box g23 43 #[r21_0,I x10.1.bound] :: oF 43 (rCon 112) (f 30) x51 :: X67):=hst
 obtain ⟨H109b,l110,s111,z112,k113⟩:=hst.borrow
 have hb114 : (rS 43 (rCon 112)).rel H109b [(f 30)] x51:=fz_own 1 z112 rfl
 refine L_call rfl Try.call20 (ops2 rfl (hP67 6 31 rfl rfl)) (s_SolveProblem_c (list:=x51) (fuel:=fuel) s111 hb114 hx63) ?_
 rintro _ w115 ⟨r115_0,r115_1,rfl,hst⟩
 have hst:=k113 hst (co closed_bool (co closed_oStep c0))
 have hst:=hst.gets [1,1,3,3] rfl
 exact L_nil ⟨rfl,_,_,rfl,Le.refl _,fun _ _=>⟨_,_,_,rfl,rfl,trivial,trivial⟩,hst⟩
 refine opsS_cons ?_ ?_
 intro f w_ H67 X67 hS67 hE67 hP67 hst
 obtain ⟨a118_0,a118_1,a118_2,hv118,ht118_0,ht118_1,ht118_2⟩:=(hP67 7 32 rfl rfl)
 obtain rfl:=ht118_0
 refine L_ex (v:=I x63.1) rfl hv118 rfl (L_nil ⟨rfl,_,_,rfl,Le.refl _,fun _ _=>rfl,hst⟩)
 refine opsS_cons ?_ ?_
 intro f w_ H67 X67 hS67 hE67 hP67 hst
 have hst : Star H67 w_ (box g23 43 #[r21_0,I x10.1.bound] :: own (OR.ownS 4 (OR.frz RP.bool)) [(tupC (f 32) 1)] x63.2.1 :: X67):=hst
 obtain ⟨a119_0,a119_1,a119_2,hv119,ht119_0,ht119_1,ht119_2⟩:=(hP67 7 32 rfl rfl)
 obtain rfl:=ht119_0
 have hren : Star H67 w_ (box g23 43 #[r21_0,I x10.1.bound] :: own (OR.ownS 4 (OR.frz RP.bool)) [(tupC (f 32) 1)] x63.2.1 :: X67):=hst
 rw [hv119] at hren
 have hst : Star H67 w_ (box g23 43 #[r21_0,I x10.1.bound] :: oF 4 RP.bool a119_1 x63.2.1 :: X67):=hren
 refine L_ex (v:=a119_1) rfl hv119 rfl (L_nil ⟨rfl,_,_,rfl,Le.refl _,fun _ _=>trivial,hst⟩)
 refine opsS_cons ?_ ?_
 intro f w_ H67 X67 hS67 hE67 hP67 hst
 have hst : Star H67 w_ (box g23 43 #[r21_0,I x10.1.bound] :: own (OR.ownS 93 (oStep 112)) [(tupC (f 32) 2)] x63.2.2 :: X67):=hst
 obtain ⟨a120_0,a120_1,a120_2,hv120,ht120_0,ht120_1,ht120_2⟩:=(hP67 7 32 rfl rfl)
 obtain rfl:=ht120_0
 have hren : Star H67 w_ (box g23 43 #[r21_0,I x10.1.bound] :: own (OR.ownS 93 (oStep 112)) [(tupC (f 32) 2)] x63.2.2 :: X67):=hst
 rw [hv120] at hren
 have hst : Star H67 w_ (box g23 43 #[r21_0,I x10.1.bound] :: oS 93 (oStep 112) a120_2 x63.2.2 :: X67):=hren
 refine L_ex (v:=a120_2) rfl hv120 rfl (L_nil ⟨rfl,_,_,rfl,Le.refl _,fun _ _=>trivial,hst⟩)
 exact opsS_nil
 have hst : Star H67 w_ ([box g23 43 #[r21_0,I x10.1.bound],oF 43 (rCon 112) (f 30) x51,oF 4 RP.bool (f 34) x63.2.1,oS 93 (oStep 112) (f 35) x63.2.2]):=hst
 refine aF (hT67 8 33 rfl rfl) rfl (aV (f 34) rfl (aV (f 35) rfl (nn (W_ret (retG3 (v1:=I x63.1) (v2:=(f 34)) (v3:=(f 35)) Try.results29 rfl rfl rfl ?_)))))
 obtain rfl:=so hF
 have hst:=hst.gets [3,3] rfl
 exact ⟨(f 34),(f 35),rfl,(Star.down (Star.keepN 2 hst) hE67 (co closed_bool (co closed_oStep c0)))⟩
theorem l_szTermS_c {a : List Term} {left : Int} {v0 : Value} {H : FH} {w : World} (hst : Star H w []) (h0 : (rS 135 rTerm).rel H [v0] a) {r : Int} (hF : l_szTermS a left = some r) :
 C Try.prog 84 #[v0,I left] w fun v w'=>v = I r∧Star H w' []:=by
 unfold l_szTermS at hF
 refine C_enter Try.func84 rfl Try.ntmps84 rfl (sq (aI rfl (ns (mI rfl (mV v0 rfl (L_len rfl Try.underlying57 rfl (slice_len h0) (L_sub rfl rfl rfl (aI rfl (nq (sq (mI rfl (L_lss rfl rfl rfl (nn (W_cond (b:=decide ((i64 (left - (a.length : Int))) < 0)) rfl (fun hc1=>?_) (fun hc1=>?_)))))))))))))))
 have hF:=(ite_t hc1).symm.trans hF
 refine sq (aI rfl (nn (W_ret (retG1 (v1:=I (-1)) Try.results84 rfl ?_))))
 obtain rfl:=so hF
 exact ⟨rfl,hst⟩
 have hF:=(ite_f hc1).symm.trans hF
 refine W_skip (sq (mI rfl (aI rfl (nn (W_ret (retG1 (v1:=I (i64 (left - (a.length : Int)))) Try.results84 rfl ?_))))))
 obtain rfl:=so hF
 exact ⟨rfl,hst⟩
theorem l_szConstraint_c {a : Con} {left : Int} {v0_0 : Value} {H : FH} {w : World} (hst : Star H w []) (h0_0 : (rS 135 rTerm).rel H [v0_0] a.terms) {r : Int} (hF : l_szConstraint a left = some r) :
 C Try.prog 41 #[.agg #[v0_0,I a.bound],I left] w fun v w'=>v = I r∧Star H w' []:=by
 unfold l_szConstraint at hF
 refine C_enter Try.func41 rfl Try.ntmps41 rfl (sq (L_box (v:=.agg #[v0_0,I a.bound]) (cs:=#[v0_0,I a.bound]) rfl rfl rfl hst (fun g3 w4 hst=>aI rfl (nq ?_))))
 obtain ⟨x10,hx10,hF⟩:=bind_some hF
 refine W_region (fA 0 fa_59_0 rfl rfl (ldB 0 hst Try.isAgg57 rfl rfl rfl (mI rfl ?_)))
 obtain ⟨H12b,l13,s14,z15,k16⟩:=hst.borrow
 refine L_call rfl Try.call84 (ops2 rfl rfl) (l_szTermS_c (a:=a.terms) (left:=left) s14 (RP.mono _ h0_0 l13) hx10) ?_
 rintro _ w17 ⟨rfl,hst⟩
 have hst:=k16 hst c0
 refine aI rfl (nq (sq (mI rfl (L_lss rfl rfl rfl (nn (W_cond (b:=decide (x10 < 0)) rfl (fun hc18=>?_) (fun hc18=>?_)))))))
 have hF:=(ite_t hc18).symm.trans hF
 refine sq (aI rfl (nn (W_ret (retG1 (v1:=I (-1)) Try.results41 rfl ?_))))
 obtain rfl:=so hF
 exact ⟨rfl,(Star.keepN 0 hst)⟩
 have hF:=(ite_f hc18).symm.trans hF
 refine W_skip (sq (mI rfl (aI rfl (nn (W_ret (retG1 (v1:=I x10) Try.results41 rfl ?_))))))
 obtain rfl:=so hF
 exact ⟨rfl,(Star.keepN 0 hst)⟩
theorem l_szConstraintS_c {a : List Con} {left : Int} {v0 : Value} {H : FH} {w : World} (hst : Star H w []) (h0 : (rS 59 (rCon 135)).rel H [v0] a) {r : Int} (hF : l_szConstraintS a left = some r) :
 C Try.prog 30 #[v0,I left] w fun v w'=>v = I r∧Star H w' []:=by
 unfold l_szConstraintS at hF
 refine C_enter Try.func30 rfl Try.ntmps30 rfl (sq (aI rfl (ns (mI rfl (mV v0 rfl (L_len rfl Try.underlying48 rfl (slice_len h0) (L_sub rfl rfl rfl (aI rfl (nq (sq (mI rfl (L_lss rfl rfl rfl (nn (W_cond (b:=decide ((i64 (left - (a.length : Int))) < 0)) rfl (fun hc1=>?_) (fun hc1=>?_)))))))))))))))
 have hF:=(ite_t hc1).symm.trans hF
 refine sq (aI rfl (nn (W_ret (retG1 (v1:=I (-1)) Try.results30 rfl ?_))))
 obtain rfl:=so hF
 exact ⟨rfl,hst⟩
 have hF:=(ite_f hc1).symm.trans hF
 refine W_skip (W_seq (sq (aI rfl (nn ?_))))
 have hlen4 : List.length a≤9223372036854775807:=len_le (slice_len h0)
 obtain ⟨j4,hL4,hF⟩:=bind_some hF
 obtain ⟨R4,hR4⟩:=exR fun f w_=>∃ left_3 : Int,j4 = .nx left_3∧f 1 = I left_3∧Star H w_ ([])
 refine W_join R4 ?_ ?_
 refine W_block ?_
 obtain ⟨I4,hI4⟩:=exI fun n f w_=>∃ i_2 : Nat,∃ suf4 : List Con,∃ left_3 : Int,n = suf4.length∧List.drop i_2 a = suf4∧i_2 + suf4.length = a.length∧rangeL l_szConstraintS_b1 suf4 i_2 left_3 = some j4∧f 0 = v0∧f 1 = I left_3∧f 5 = I i_2∧Star H w_ ([])
 refine W_loop I4 (n:=a.length) ?_ ?_
 exact ij hI4 ⟨0,a,i64 (left - (a.length : Int)),rfl,rfl,Nat.zero_add _,hL4,rfl,rfl,rfl,hst⟩
 intro n4 f w_ hI
 obtain ⟨i_2,suf4,left_3,rfl,hd4,hl4,hL4,sf0,sf1,sf5,hst⟩:=ik hI4 hI
 refine W_seq (sq (mF sf5 rfl (mF sf0 rfl (L_len rfl Try.underlying48 rfl (slice_len h0) (L_lss rfl rfl rfl (nn (W_cond (b:=decide ((i_2 : Int) < (a.length : Int))) rfl (fun hc5=>?_) (fun hc5=>?_))))))))
 have hlt4:=of_decide_eq_true hc5
 rcases suf4 with _ | ⟨x_4,rest4⟩
 exact absurd hlt4 (by simp at hl4; omega)
 obtain ⟨o4,hB4,hL4⟩:=range_cons hL4
 rw [l_szConstraintS_b1] at hB4
 have hix4:=drop_idx hd4
 refine W_skip (W_seq (W_block (W_seq ?_)))
 obtain ⟨x15,hx15,hB4⟩:=bind_some hB4
 refine W_region (mF sf0 rfl (mF sf5 rfl (L_ix (r:=(rCon 135)) rfl Try.underlying48 Try.sizeOf59 rfl h0 rfl hix4 (fun g17 o18 cs_g17 hrk_hat19 hat19=>?_))))
 obtain ⟨u20_0,rfl,hu20_0⟩:=rCon_iff.1 hrk_hat19
 refine L_lda (cs:=[u20_0,I x_4.bound]) rfl Try.isAgg59 Try.sizeOf59 rfl (At.sub (AtH.at hat19 hst.sub) 0 2) rfl (mF sf1 rfl ?_)
 obtain ⟨H21b,l22,s23,z24,k25⟩:=hst.borrow
 refine L_call rfl Try.call41 (ops2 rfl rfl) (l_szConstraint_c (a:=x_4) (left:=left_3) s23 (RP.mono _ hu20_0 l22) hx15) ?_
 rintro _ w26 ⟨rfl,hst⟩
 have hst:=k25 hst c0
 refine aI rfl (ns (mI rfl (L_lss rfl rfl rfl (nn (W_cond (b:=decide (x15 < 0)) rfl (fun hc27=>?_) (fun hc27=>?_))))))
 have hB4:=(ite_t hc27).symm.trans hB4
 refine sq (aI rfl (nn (W_ret (retG1 (v1:=I (-1)) Try.results30 rfl ?_))))
 obtain rfl:=so hB4
 obtain rfl:=so hL4
 obtain rfl:=so hF
 exact ⟨rfl,hst⟩
 have hB4:=(ite_f hc27).symm.trans hB4
 refine W_skip (W_region (mF sf5 rfl (L_add rfl rfl rfl (aI rfl (nn ?_)))))
 obtain rfl:=so hB4
 show ∃ m,m < _∧I4 m _ _
 refine ⟨rest4.length,by simp,?_⟩
 exact ij hI4 ⟨i_2 + 1,rest4,x15,rfl,drop_next hd4,by simp at hl4; omega,hL4,sf0,rfl,(Eq.trans rfl (congrArg (Value.int .i64) (i64_succ (n:=a.length) (by simp at hl4; omega) hlen4))),hst⟩
 rcases suf4 with _ | ⟨_,_⟩
 obtain rfl:=range_nil hL4
 refine W_exit (rj hR4 ⟨left_3,rfl,sf1,hst⟩)
 exact absurd (of_decide_eq_false hc5) (by simp at hl4; omega)
 intro f w_ hR
 obtain ⟨left_3,rfl,sf1,hst⟩:=rk hR4 hR
 refine sq (mF sf1 rfl (aI rfl (nn (W_ret (retG1 (v1:=I left_3) Try.results30 rfl ?_)))))
 obtain rfl:=so hF
 exact ⟨rfl,hst⟩
theorem l_toTerm_c {a : Term} {H : FH} {w : World} (hst : Star H w []) {r : Term} (hF : l_toTerm a = some r) :
 C Try.prog 120 #[.agg #[I a.coef,I a.lit]] w fun v w'=>v = .agg #[I r.coef,I r.lit]∧Star H w' []:=by
 unfold l_toTerm at hF
 refine C_enter Try.func120 rfl Try.ntmps120 rfl (sq (L_box (v:=.agg #[I a.coef,I a.lit]) (cs:=#[I a.coef,I a.lit]) rfl rfl rfl hst (fun g5 w6 hst=>L_al (cs:=#[I 0,I 0]) rfl Try.zeroValue112 rfl hst (fun g7 w8 hst=>ns (L_al (cs:=#[I 0,I 0]) rfl Try.zeroValue112 rfl hst (fun g11 w12 hst=>ns (fA 0 fa_135_0 rfl rfl (ldB 2 hst Try.isAgg3 rfl rfl rfl (fA 0 fa_112_0 rfl rfl (L_stB (v:=I a.coef) (cs2:=#[I a.coef,I 0]) 0 rfl Try.sizeOf3 rfl rfl rfl hst rfl rfl rfl (fun w14 hst=>ns (fA 1 fa_135_1 rfl rfl (ldB 2 hst Try.isAgg3 rfl rfl rfl (fA 1 fa_112_1 rfl rfl (L_stB (v:=I a.lit) (cs2:=#[I a.coef,I a.lit]) 0 rfl Try.sizeOf3 rfl rfl rfl hst rfl rfl rfl (fun w16 hst=>ns (L_lda (cs:=[I a.coef,I a.lit]) rfl Try.isAgg112 Try.sizeOf112 rfl (At.sub0 (Blk.at (Star.blkAt 0 hst rfl)) 0 2) rfl (L_staB (vs:=#[I a.coef,I a.lit]) (cs2:=#[I a.coef,I a.lit]) 1 rfl Try.sizeOf112 rfl rfl rfl (ones_cons rfl (ones_cons rfl ones_nil)) hst rfl (by show 0 + 2≤2; decide) rfl (fun w18 hst=>nn (W_ret (retG1 (v1:=.agg #[I a.coef,I a.lit]) Try.results120 (resV_agg Try.isAgg112 Try.sizeOf112 rfl (Star.blkAt 0 hst rfl) rfl) ?_)))))))))))))))))))))
 obtain rfl:=so hF
 exact ⟨rfl,(Star.keepN 0 hst)⟩
theorem l_toTermS_c {a : List Term} {v0 : Value} {H : FH} {w : World} (hst : Star H w []) (h0 : (rS 135 rTerm).rel H [v0] a) {r : List Term} (hF : l_toTermS a = some r) :
 C Try.prog 85 #[v0] w fun v w'=>∃ (u1 : Value),v = u1∧Star H w' [oF 112 rTerm u1 r]:=by
 unfold l_toTermS at hF
 refine C_enter Try.func85 rfl Try.ntmps85 rfl (sq (aV S0 rfl (nq ?_)))
 obtain ⟨x1,hx1,hF⟩:=bind_some hF
 refine W_region (mV v0 rfl (L_len rfl Try.underlying57 rfl (slice_len h0) (L_mk (R:=(OR.frz rTerm)) (z0:=({ coef:=0,lit:=0 } : Term)) (zc:=[I 0,I 0]) rfl et_41 (by kernel_rfl) (fun _ _=>⟨rfl,rTerm_iff.2 rfl⟩) rfl rfl hx1 hst (fun v5 w6 hst=>aV v5 rfl (nq (sq (aI rfl (nn ?_))))))))
 have hlen10 : List.length a≤9223372036854775807:=len_le (slice_len h0)
 obtain ⟨j10,hL10,hF⟩:=bind_some hF
 obtain ⟨R10,hR10⟩:=exR fun f w_=>∃ out_9 : List Term,j10 = .nx out_9∧f 3 = v5∧Star H w_ ([oF 112 rTerm v5 out_9])
 refine W_join R10 ?_ ?_
 refine W_block ?_
 obtain ⟨I10,hI10⟩:=exI fun n f w_=>∃ i_8 : Nat,∃ suf10 : List Term,∃ out_9 : List Term,n = suf10.length∧List.drop i_8 a = suf10∧i_8 + suf10.length = a.length∧rangeL l_toTermS_b1 suf10 i_8 out_9 = some j10∧f 0 = v0∧f 3 = v5∧f 4 = I i_8∧Star H w_ ([oF 112 rTerm v5 out_9])
 refine W_loop I10 (n:=a.length) ?_ ?_
 exact ij hI10 ⟨0,a,x1,rfl,rfl,Nat.zero_add _,hL10,rfl,rfl,rfl,hst⟩
 intro n10 f w_ hI
 obtain ⟨i_8,suf10,out_9,rfl,hd10,hl10,hL10,sf0,sf3,sf4,hst⟩:=ik hI10 hI
 refine W_seq (sq (mF sf4 rfl (mF sf0 rfl (L_len rfl Try.underlying57 rfl (slice_len h0) (L_lss rfl rfl rfl (nn (W_cond (b:=decide ((i_8 : Int) < (a.length : Int))) rfl (fun hc11=>?_) (fun hc11=>?_))))))))
 have hlt10:=of_decide_eq_true hc11
 rcases suf10 with _ | ⟨x_10,rest10⟩
 exact absurd hlt10 (by simp at hl10; omega)
 obtain ⟨o10,hB10,hL10⟩:=range_cons hL10
 rw [l_toTermS_b1] at hB10
 have hix10:=drop_idx hd10
 refine W_skip (W_seq (W_block ?_))
 obtain ⟨x21,hx21,hB10⟩:=bind_some hB10
 obtain ⟨x23,hx23,hB10⟩:=bind_some hB10
 refine W_region (mF sf3 rfl (mF sf4 rfl (mF sf0 rfl (mF sf4 rfl (L_ix (r:=rTerm) rfl Try.underlying57 Try.sizeOf135 rfl h0 rfl hix10 (fun g27 o28 cs_g27 hrk_hat29 hat29=>?_))))))
 obtain rfl:=rTerm_iff.1 hrk_hat29
 refine L_lda (cs:=[I x_10.coef,I x_10.lit]) rfl Try.isAgg135 Try.sizeOf135 rfl (At.sub (AtH.at hat29 hst.sub) 0 2) rfl ?_
 obtain ⟨H31b,l32,s33,z34,k35⟩:=hst.borrow
 refine L_call rfl Try.call120 (ops1 rfl) (l_toTerm_c (a:=x_10) s33 hx21) ?_
 rintro _ w36 ⟨rfl,hst⟩
 have hst:=k35 hst c0
 obtain ⟨g37,cap_g37,hv38,_,_⟩:=Star.row 0 hst rfl hx23
 refine L_ixO (R:=(OR.frz rTerm)) (tb:=0) 0 rfl Try.underlying41 Try.sizeOf112 rfl hv38 (by first | rfl | simp) rfl hx23 ?_
 have hst:=Star.addF (r:=rTerm) (cs:=[I x21.coef,I x21.lit]) (x:=x21) hst (rTerm_iff.2 rfl)
 refine L_stE (vs:=#[I x21.coef,I x21.lit]) rfl Try.sizeOf112 rfl rfl rfl hv38 hst hx23 (fun w39 hst=>nn (W_region (mF sf4 rfl (L_add rfl rfl rfl (aI rfl (nn ?_))))))
 obtain rfl:=so hB10
 show ∃ m,m < _∧I10 m _ _
 refine ⟨rest10.length,by simp,?_⟩
 exact ij hI10 ⟨i_8 + 1,rest10,(out_9.set (Int.toNat (i_8 : Int)) x21),rfl,drop_next hd10,by simp at hl10; omega,hL10,sf0,sf3,(Eq.trans rfl (congrArg (Value.int .i64) (i64_succ (n:=a.length) (by simp at hl10; omega) hlen10))),hst⟩
 rcases suf10 with _ | ⟨_,_⟩
 obtain rfl:=range_nil hL10
 refine W_exit (rj hR10 ⟨out_9,rfl,sf3,hst⟩)
 exact absurd (of_decide_eq_false hc11) (by simp at hl10; omega)
 intro f w_ hR
 obtain ⟨out_9,rfl,sf3,hst⟩:=rk hR10 hR
 refine sq (mF sf3 rfl (aV v5 rfl (nn (W_ret (retG1 (v1:=v5) Try.results85 rfl ?_)))))
 obtain rfl:=so hF
 exact ⟨v5,rfl,hst⟩
theorem l_toConstraint_c {a : Con} {v0_0 : Value} {H : FH} {w : World} (hst : Star H w []) (h0_0 : (rS 135 rTerm).rel H [v0_0] a.terms) {r : Con} (hF : l_toConstraint a = some r) :
 C Try.prog 42 #[.agg #[v0_0,I a.bound]] w fun v w'=>∃ (u1 : Value),v = .agg #[u1,I r.bound]∧Star H w' [oF 112 rTerm u1 r.terms]:=by
 unfold l_toConstraint at hF
 refine C_enter Try.func42 rfl Try.ntmps42 rfl (sq (L_box (v:=.agg #[v0_0,I a.bound]) (cs:=#[v0_0,I a.bound]) rfl rfl rfl hst (fun g5 w6 hst=>L_al (cs:=#[S0,I 0]) rfl Try.zeroValue43 rfl hst (fun g7 w8 hst=>ns (L_al (cs:=#[S0,I 0]) rfl Try.zeroValue43 rfl hst (fun g11 w12 hst=>nq ?_))))))
 obtain ⟨x18,hx18,hF⟩:=bind_some hF
 refine W_region (fA 0 fa_59_0 rfl rfl (ldB 2 hst Try.isAgg57 rfl rfl rfl ?_))
 obtain ⟨H22b,l23,s24,z25,k26⟩:=hst.borrow
 refine L_call rfl Try.call85 (ops1 rfl) (l_toTermS_c (a:=a.terms) s24 (RP.mono _ h0_0 l23) hx18) ?_
 rintro r27_0 w27 ⟨_,rfl,hst⟩
 have hst:=k26 hst (co closed_term c0)
 refine fA 0 fa_43_0 rfl rfl (L_stB (v:=r27_0) (cs2:=#[r27_0,I 0]) 1 rfl Try.sizeOf41 rfl rfl (one_len (Star.len 0 hst rfl)) hst rfl rfl rfl (fun w29 hst=>ns (fA 1 fa_59_1 rfl rfl (ldB 3 hst Try.isAgg3 rfl rfl rfl (fA 1 fa_43_1 rfl rfl (L_stB (v:=I a.bound) (cs2:=#[r27_0,I a.bound]) 0 rfl Try.sizeOf3 rfl rfl rfl hst rfl rfl rfl (fun w31 hst=>ns (L_lda (cs:=[r27_0,I a.bound]) rfl Try.isAgg43 Try.sizeOf43 rfl (At.sub0 (Blk.at (Star.blkAt 0 hst rfl)) 0 2) rfl (L_staB (vs:=#[r27_0,I a.bound]) (cs2:=#[r27_0,I a.bound]) 2 rfl Try.sizeOf43 rfl rfl rfl (ones_cons (one_len (Star.len 1 hst rfl)) (ones_cons rfl ones_nil)) hst rfl (by show 0 + 2≤2; decide) rfl (fun w33 hst=>nn (W_ret (retG1 (v1:=.agg #[r27_0,I a.bound]) Try.results42 (resV_agg Try.isAgg43 Try.sizeOf43 rfl (Star.blkAt 0 hst rfl) rfl) ?_))))))))))))
 obtain rfl:=so hF
 have hst:=hst.get 2 rfl
 exact ⟨r27_0,rfl,(Star.keepN 1 hst)⟩
theorem l_toConstraintS_c {a : List Con} {v0 : Value} {H : FH} {w : World} (hst : Star H w []) (h0 : (rS 59 (rCon 135)).rel H [v0] a) {r : List Con} (hF : l_toConstraintS a = some r) :
 C Try.prog 31 #[v0] w fun v w'=>∃ (u1 : Value),v = u1∧Star H w' [oS 43 (oCon 112) u1 r]:=by
 unfold l_toConstraintS at hF
 refine C_enter Try.func31 rfl Try.ntmps31 rfl (sq (aV S0 rfl (nq ?_)))
 obtain ⟨x1,hx1,hF⟩:=bind_some hF
 refine W_region (mV v0 rfl (L_len rfl Try.underlying48 rfl (slice_len h0) (L_mk (R:=(oCon 112)) (z0:=({ terms:=[],bound:=0 } : Con)) (zc:=[S0,I 0]) rfl et_23 (by kernel_rfl) (fun _ _=>oCon_zero) rfl rfl hx1 hst (fun v5 w6 hst=>aV v5 rfl (nq (sq (aI rfl (nn ?_))))))))
 have hlen10 : List.length a≤9223372036854775807:=len_le (slice_len h0)
 obtain ⟨j10,hL10,hF⟩:=bind_some hF
 obtain ⟨R10,hR10⟩:=exR fun f w_=>∃ out_9 : List Con,j10 = .nx out_9∧f 3 = v5∧Star H w_ ([oS 43 (oCon 112) v5 out_9])
 refine W_join R10 ?_ ?_
 refine W_block ?_
 obtain ⟨I10,hI10⟩:=exI fun n f w_=>∃ i_8 : Nat,∃ suf10 : List Con,∃ out_9 : List Con,n = suf10.length∧List.drop i_8 a = suf10∧i_8 + suf10.length = a.length∧rangeL l_toConstraintS_b1 suf10 i_8 out_9 = some j10∧f 0 = v0∧f 3 = v5∧f 4 = I i_8∧Star H w_ ([oS 43 (oCon 112) v5 out_9])
 refine W_loop I10 (n:=a.length) ?_ ?_
 exact ij hI10 ⟨0,a,x1,rfl,rfl,Nat.zero_add _,hL10,rfl,rfl,rfl,hst⟩
 intro n10 f w_ hI
 obtain ⟨i_8,suf10,out_9,rfl,hd10,hl10,hL10,sf0,sf3,sf4,hst⟩:=ik hI10 hI
 refine W_seq (sq (mF sf4 rfl (mF sf0 rfl (L_len rfl Try.underlying48 rfl (slice_len h0) (L_lss rfl rfl rfl (nn (W_cond (b:=decide ((i_8 : Int) < (a.length : Int))) rfl (fun hc11=>?_) (fun hc11=>?_))))))))
 have hlt10:=of_decide_eq_true hc11
 rcases suf10 with _ | ⟨x_10,rest10⟩
 exact absurd hlt10 (by simp at hl10; omega)
 obtain ⟨o10,hB10,hL10⟩:=range_cons hL10
 rw [l_toConstraintS_b1] at hB10
 have hix10:=drop_idx hd10
 refine W_skip (W_seq (W_block ?_))
 obtain ⟨x21,hx21,hB10⟩:=bind_some hB10
 obtain ⟨x24,hx24,hB10⟩:=bind_some hB10
 refine W_region (mF sf3 rfl (mF sf4 rfl (mF sf0 rfl (mF sf4 rfl (L_ix (r:=(rCon 135)) rfl Try.underlying48 Try.sizeOf59 rfl h0 rfl hix10 (fun g28 o29 cs_g28 hrk_hat30 hat30=>?_))))))
 obtain ⟨u31_0,rfl,hu31_0⟩:=rCon_iff.1 hrk_hat30
 refine L_lda (cs:=[u31_0,I x_10.bound]) rfl Try.isAgg59 Try.sizeOf59 rfl (At.sub (AtH.at hat30 hst.sub) 0 2) rfl ?_
 obtain ⟨H32b,l33,s34,z35,k36⟩:=hst.borrow
 refine L_call rfl Try.call42 (ops1 rfl) (l_toConstraint_c (a:=x_10) s34 (RP.mono _ hu31_0 l33) hx21) ?_
 rintro _ w37 ⟨r37_0,rfl,hst⟩
 have hst:=k36 hst (co closed_term c0)
 obtain ⟨g39,cap_g39,hv40,_,_⟩:=Star.row 1 hst rfl hx24
 refine L_ixO (R:=(oCon 112)) (tb:=0) 0 rfl Try.underlying23 Try.sizeOf43 rfl hv40 (by first | rfl | simp) rfl hx24 ?_
 have hst:=oCon_close (c:=x21) hst
 refine L_stE (vs:=#[r37_0,I x21.bound]) rfl Try.sizeOf43 rfl rfl rfl hv40 hst hx24 (fun w41 hst=>nn (W_region (mF sf4 rfl (L_add rfl rfl rfl (aI rfl (nn ?_))))))
 obtain rfl:=so hB10
 show ∃ m,m < _∧I10 m _ _
 refine ⟨rest10.length,by simp,?_⟩
 exact ij hI10 ⟨i_8 + 1,rest10,(out_9.set (Int.toNat (i_8 : Int)) x21),rfl,drop_next hd10,by simp at hl10; omega,hL10,sf0,sf3,(Eq.trans rfl (congrArg (Value.int .i64) (i64_succ (n:=a.length) (by simp at hl10; omega) hlen10))),hst⟩
 rcases suf10 with _ | ⟨_,_⟩
 obtain rfl:=range_nil hL10
 refine W_exit (rj hR10 ⟨out_9,rfl,sf3,hst⟩)
 exact absurd (of_decide_eq_false hc11) (by simp at hl10; omega)
 intro f w_ hR
 obtain ⟨out_9,rfl,sf3,hst⟩:=rk hR10 hR
 refine sq (mF sf3 rfl (aV v5 rfl (nn (W_ret (retG1 (v1:=v5) Try.results31 rfl ?_)))))
 obtain rfl:=so hF
 exact ⟨v5,rfl,hst⟩
theorem l_eqBoolS_c {a : List Bool} {b : List Bool} {v0 : Value} {v1 : Value} {H : FH} {w : World} (hst : Star H w []) (h0 : (rS 4 RP.bool).rel H [v0] a) (h1 : (rS 4 RP.bool).rel H [v1] b) {r : Bool} (hF : l_eqBoolS a b = some r) :
 C Try.prog 32 #[v0,v1] w fun v w'=>v = Bo r∧Star H w' []:=by
 unfold l_eqBoolS at hF
 refine C_enter Try.func32 rfl Try.ntmps32 rfl (sq (aB rfl (nq (sq (mV v0 rfl (L_len rfl Try.underlying24 rfl (slice_len h0) (mV v1 rfl (L_len rfl Try.underlying24 rfl (slice_len h1) (L_neq rfl rfl rfl (nn (W_cond (b:=((a.length : Int) != (b.length : Int))) rfl (fun hc1=>?_) (fun hc1=>?_))))))))))))
 have hF:=(ite_t hc1).symm.trans hF
 refine sq (aB rfl (nn (W_ret (retG1 (v1:=Bo false) Try.results32 rfl ?_))))
 obtain rfl:=so hF
 exact ⟨rfl,hst⟩
 have hF:=(ite_f hc1).symm.trans hF
 refine W_skip (W_seq (sq (aI rfl (nn ?_))))
 have hlen5 : List.length a≤9223372036854775807:=len_le (slice_len h0)
 obtain ⟨j5,hL5,hF⟩:=bind_some hF
 obtain ⟨R5,hR5⟩:=exR fun f w_=>∃ H3 : FH,j5 = .nx ()∧Le H H3∧Star H3 w_ ([])
 refine W_join R5 ?_ ?_
 refine W_block ?_
 obtain ⟨I5,hI5⟩:=exI fun n f w_=>∃ i_2 : Nat,∃ suf5 : List Bool,∃ H3 : FH,n = suf5.length∧List.drop i_2 a = suf5∧i_2 + suf5.length = a.length∧rangeL (l_eqBoolS_b1 b) suf5 i_2 () = some j5∧Le H H3∧f 0 = v0∧f 1 = v1∧f 5 = I i_2∧Star H3 w_ ([])
 refine W_loop I5 (n:=a.length) ?_ ?_
 exact ij hI5 ⟨0,a,H,rfl,rfl,Nat.zero_add _,hL5,(Le.refl _),rfl,rfl,rfl,hst⟩
 intro n5 f w_ hI
 obtain ⟨i_2,suf5,H3,rfl,hd5,hl5,hL5,l4,sf0,sf1,sf5,hst⟩:=ik hI5 hI
 refine W_seq (sq (mF sf5 rfl (mF sf0 rfl (L_len rfl Try.underlying24 rfl (slice_len (RP.mono _ h0 l4)) (L_lss rfl rfl rfl (nn (W_cond (b:=decide ((i_2 : Int) < (a.length : Int))) rfl (fun hc6=>?_) (fun hc6=>?_))))))))
 have hlt5:=of_decide_eq_true hc6
 rcases suf5 with _ | ⟨x_5,rest5⟩
 exact absurd hlt5 (by simp at hl5; omega)
 obtain ⟨o5,hB5,hL5⟩:=range_cons hL5
 rw [l_eqBoolS_b1] at hB5
 have hix5:=drop_idx hd5
 refine W_skip (W_seq (W_block (W_seq ?_)))
 obtain ⟨x11,hx11,hB5⟩:=bind_some hB5
 refine W_drawS 8 [isV (v0),isV (I i_2),isEl RP.bool x_5 0,isV (Bo x_5),isV (v1),isV (I i_2),isEl RP.bool x11 0,isV (Bo x11)] [] [] ([]) [([],[]),([],[]),([],[]),([],[]),([],[]),([],[]),([],[]),([],[])] (S:=[]) Try_mix (by kernel_rfl) rfl (by kernel_rfl) (amF_cons (mono_V _) (amF_cons (mono_V _) (amF_cons (mono_el _ _ _) (amF_cons (mono_V _) (amF_cons (mono_V _) (amF_cons (mono_V _) (amF_cons (mono_el _ _ _) (amF_cons (mono_V _) amF_nil)))))))) hst ?_ (fun f w_ H16 hS16 hE16 hT16 hst=>?_)
 refine opsS_cons (fun f w_ _ _ s _ _ hst=>mF ((s 0 rfl).trans sf0) rfl (nO rfl rfl hst)) (opsS_cons (fun f w_ _ _ s _ _ hst=>mF ((s 5 rfl).trans sf5) rfl (nO rfl rfl hst)) (opsS_cons ?_ ?_))
 intro f w_ H16 X16 hS16 hE16 hP16 hst
 refine L_ix (r:=RP.bool) rfl Try.underlying24 Try.sizeOf4 (hP16 0 17 rfl rfl) (RP.mono _ h0 (Le.trans l4 hE16)) (hP16 1 18 rfl rfl) hix5 (fun g25 o26 cs_g25 hrk_hat27 hat27=>?_)
 obtain rfl : _ = [_]:=hrk_hat27
 exact L_nil ⟨rfl,_,_,rfl,Le.refl _,fun _ _=>⟨_,_,_,rfl,rfl,hat27⟩,hst⟩
 refine opsS_cons ?_ ?_
 intro f w_ H16 X16 hS16 hE16 hP16 hst
 obtain ⟨g29,o29,cs29,hv29,hrk_hat29,hat29⟩:=(hP16 2 19 rfl rfl)
 obtain rfl : _ = [_]:=hrk_hat29
 refine L_ld rfl Try.isAgg4 hv29 (At.cell (AtH.at hat29 hst.sub) (j:=0) rfl) (L_nil ⟨rfl,_,_,rfl,Le.refl _,fun _ _=>rfl,hst⟩)
 refine opsS_cons (fun f w_ _ _ s _ _ hst=>mF ((s 1 rfl).trans sf1) rfl (nO rfl rfl hst)) (opsS_cons (fun f w_ _ _ s _ _ hst=>mF ((s 5 rfl).trans sf5) rfl (nO rfl rfl hst)) (opsS_cons ?_ ?_))
 intro f w_ H16 X16 hS16 hE16 hP16 hst
 refine L_ix (r:=RP.bool) rfl Try.underlying24 Try.sizeOf4 (hP16 4 21 rfl rfl) (RP.mono _ h1 (Le.trans l4 hE16)) (hP16 5 22 rfl rfl) hx11 (fun g31 o32 cs_g31 hrk_hat33 hat33=>?_)
 obtain rfl : _ = [_]:=hrk_hat33
 exact L_nil ⟨rfl,_,_,rfl,Le.refl _,fun _ _=>⟨_,_,_,rfl,rfl,hat33⟩,hst⟩
 refine opsS_cons ?_ ?_
 intro f w_ H16 X16 hS16 hE16 hP16 hst
 obtain ⟨g35,o35,cs35,hv35,hrk_hat35,hat35⟩:=(hP16 6 23 rfl rfl)
 obtain rfl : _ = [_]:=hrk_hat35
 refine L_ld rfl Try.isAgg4 hv35 (At.cell (AtH.at hat35 hst.sub) (j:=0) rfl) (L_nil ⟨rfl,_,_,rfl,Le.refl _,fun _ _=>rfl,hst⟩)
 exact opsS_nil
 refine L_bneq (b:=x_5) (c:=x11) rfl Try.underlying4 (hT16 3 20 rfl rfl) (hT16 7 24 rfl rfl) (nn (W_cond (b:=(x_5 != x11)) rfl (fun hc37=>?_) (fun hc37=>?_)))
 have hB5:=(ite_t hc37).symm.trans hB5
 refine sq (aB rfl (nn (W_ret (retG1 (v1:=Bo false) Try.results32 rfl ?_))))
 obtain rfl:=so hB5
 obtain rfl:=so hL5
 obtain rfl:=so hF
 exact ⟨rfl,(Star.down hst (Le.trans l4 hE16) c0)⟩
 have hB5:=(ite_f hc37).symm.trans hB5
 refine W_skip (W_region (mF ((hS16 5 rfl).trans sf5) rfl (L_add rfl rfl rfl (aI rfl (nn ?_)))))
 obtain rfl:=so hB5
 show ∃ m,m < _∧I5 m _ _
 refine ⟨rest5.length,by simp,?_⟩
 exact ij hI5 ⟨i_2 + 1,rest5,H16,rfl,drop_next hd5,by simp at hl5; omega,hL5,(Le.trans l4 hE16),((hS16 0 rfl).trans sf0),((hS16 1 rfl).trans sf1),(Eq.trans rfl (congrArg (Value.int .i64) (i64_succ (n:=a.length) (by simp at hl5; omega) hlen5))),hst⟩
 rcases suf5 with _ | ⟨_,_⟩
 obtain rfl:=range_nil hL5
 refine W_exit (rj hR5 ⟨H3,rfl,l4,hst⟩)
 exact absurd (of_decide_eq_false hc6) (by simp at hl5; omega)
 intro f w_ hR
 obtain ⟨H3,rfl,l4,hst⟩:=rk hR5 hR
 refine sq (aB rfl (nn (W_ret (retG1 (v1:=Bo true) Try.results32 rfl ?_))))
 obtain rfl:=so hF
 exact ⟨rfl,(Star.down hst l4 c0)⟩
theorem l_eqTerm_c {a : Term} {b : Term} {H : FH} {w : World} (hst : Star H w []) {r : Bool} (hF : l_eqTerm a b = some r) :
 C Try.prog 121 #[.agg #[I a.coef,I a.lit],.agg #[I b.coef,I b.lit]] w fun v w'=>v = Bo r∧Star H w' []:=by
 unfold l_eqTerm at hF
 refine C_enter Try.func121 rfl Try.ntmps121 rfl (sq (L_box (v:=.agg #[I a.coef,I a.lit]) (cs:=#[I a.coef,I a.lit]) rfl rfl rfl hst (fun g5 w6 hst=>L_box (v:=.agg #[I b.coef,I b.lit]) (cs:=#[I b.coef,I b.lit]) rfl rfl rfl hst (fun g7 w8 hst=>aB rfl (nq (sq (fA 0 fa_112_0 rfl rfl (ldB 1 hst Try.isAgg3 rfl rfl rfl (fA 0 fa_112_0 rfl rfl (ldB 0 hst Try.isAgg3 rfl rfl rfl (L_neq rfl rfl rfl (nn (W_cond (b:=(a.coef != b.coef)) rfl (fun hc9=>?_) (fun hc9=>?_))))))))))))))
 have hF:=(ite_t hc9).symm.trans hF
 refine sq (aB rfl (nn (W_ret (retG1 (v1:=Bo false) Try.results121 rfl ?_))))
 obtain rfl:=so hF
 exact ⟨rfl,(Star.keepN 0 hst)⟩
 have hF:=(ite_f hc9).symm.trans hF
 refine W_skip (W_seq (sq (fA 1 fa_112_1 rfl rfl (ldB 1 hst Try.isAgg3 rfl rfl rfl (fA 1 fa_112_1 rfl rfl (ldB 0 hst Try.isAgg3 rfl rfl rfl (L_neq rfl rfl rfl (nn (W_cond (b:=(a.lit != b.lit)) rfl (fun hc10=>?_) (fun hc10=>?_))))))))))
 have hF:=(ite_t hc10).symm.trans hF
 refine sq (aB rfl (nn (W_ret (retG1 (v1:=Bo false) Try.results121 rfl ?_))))
 obtain rfl:=so hF
 exact ⟨rfl,(Star.keepN 0 hst)⟩
 have hF:=(ite_f hc10).symm.trans hF
 refine W_skip (sq (aB rfl (nn (W_ret (retG1 (v1:=Bo true) Try.results121 rfl ?_)))))
 obtain rfl:=so hF
 exact ⟨rfl,(Star.keepN 0 hst)⟩
theorem l_eqTermS_c {a : List Term} {b : List Term} {v0 : Value} {v1 : Value} {H : FH} {w : World} (hst : Star H w []) (h0 : (rS 112 rTerm).rel H [v0] a) (h1 : (rS 112 rTerm).rel H [v1] b) {r : Bool} (hF : l_eqTermS a b = some r) :
 C Try.prog 86 #[v0,v1] w fun v w'=>v = Bo r∧Star H w' []:=by
 unfold l_eqTermS at hF
 refine C_enter Try.func86 rfl Try.ntmps86 rfl (sq (aB rfl (nq (sq (mV v0 rfl (L_len rfl Try.underlying41 rfl (slice_len h0) (mV v1 rfl (L_len rfl Try.underlying41 rfl (slice_len h1) (L_neq rfl rfl rfl (nn (W_cond (b:=((a.length : Int) != (b.length : Int))) rfl (fun hc1=>?_) (fun hc1=>?_))))))))))))
 have hF:=(ite_t hc1).symm.trans hF
 refine sq (aB rfl (nn (W_ret (retG1 (v1:=Bo false) Try.results86 rfl ?_))))
 obtain rfl:=so hF
 exact ⟨rfl,hst⟩
 have hF:=(ite_f hc1).symm.trans hF
 refine W_skip (W_seq (sq (aI rfl (nn ?_))))
 have hlen5 : List.length a≤9223372036854775807:=len_le (slice_len h0)
 obtain ⟨j5,hL5,hF⟩:=bind_some hF
 obtain ⟨R5,hR5⟩:=exR fun f w_=>∃ H3 : FH,j5 = .nx ()∧Le H H3∧Star H3 w_ ([])
 refine W_join R5 ?_ ?_
 refine W_block ?_
 obtain ⟨I5,hI5⟩:=exI fun n f w_=>∃ i_2 : Nat,∃ suf5 : List Term,∃ H3 : FH,n = suf5.length∧List.drop i_2 a = suf5∧i_2 + suf5.length = a.length∧rangeL (l_eqTermS_b1 b) suf5 i_2 () = some j5∧Le H H3∧f 0 = v0∧f 1 = v1∧f 5 = I i_2∧Star H3 w_ ([])
 refine W_loop I5 (n:=a.length) ?_ ?_
 exact ij hI5 ⟨0,a,H,rfl,rfl,Nat.zero_add _,hL5,(Le.refl _),rfl,rfl,rfl,hst⟩
 intro n5 f w_ hI
 obtain ⟨i_2,suf5,H3,rfl,hd5,hl5,hL5,l4,sf0,sf1,sf5,hst⟩:=ik hI5 hI
 refine W_seq (sq (mF sf5 rfl (mF sf0 rfl (L_len rfl Try.underlying41 rfl (slice_len (RP.mono _ h0 l4)) (L_lss rfl rfl rfl (nn (W_cond (b:=decide ((i_2 : Int) < (a.length : Int))) rfl (fun hc6=>?_) (fun hc6=>?_))))))))
 have hlt5:=of_decide_eq_true hc6
 rcases suf5 with _ | ⟨x_5,rest5⟩
 exact absurd hlt5 (by simp at hl5; omega)
 obtain ⟨o5,hB5,hL5⟩:=range_cons hL5
 rw [l_eqTermS_b1] at hB5
 have hix5:=drop_idx hd5
 refine W_skip (W_seq (W_block (W_seq ?_)))
 obtain ⟨x11,hx11,hB5⟩:=bind_some hB5
 obtain ⟨x21,hx21,hB5⟩:=bind_some hB5
 refine W_drawS 8 [isV (v0),isV (I i_2),isEl rTerm x_5 0,isV (.agg #[I x_5.coef,I x_5.lit]),isV (v1),isV (I i_2),isEl rTerm x11 0,isV (.agg #[I x11.coef,I x11.lit])] [] [] ([]) [([],[]),([],[]),([],[]),([],[]),([],[]),([],[]),([],[]),([],[])] (S:=[]) Try_mix (by kernel_rfl) rfl (by kernel_rfl) (amF_cons (mono_V _) (amF_cons (mono_V _) (amF_cons (mono_el _ _ _) (amF_cons (mono_V _) (amF_cons (mono_V _) (amF_cons (mono_V _) (amF_cons (mono_el _ _ _) (amF_cons (mono_V _) amF_nil)))))))) hst ?_ (fun f w_ H23 hS23 hE23 hT23 hst=>?_)
 refine opsS_cons (fun f w_ _ _ s _ _ hst=>mF ((s 0 rfl).trans sf0) rfl (nO rfl rfl hst)) (opsS_cons (fun f w_ _ _ s _ _ hst=>mF ((s 5 rfl).trans sf5) rfl (nO rfl rfl hst)) (opsS_cons ?_ ?_))
 intro f w_ H23 X23 hS23 hE23 hP23 hst
 refine L_ix (r:=rTerm) rfl Try.underlying41 Try.sizeOf112 (hP23 0 17 rfl rfl) (RP.mono _ h0 (Le.trans l4 hE23)) (hP23 1 18 rfl rfl) hix5 (fun g32 o33 cs_g32 hrk_hat34 hat34=>?_)
 obtain rfl:=rTerm_iff.1 hrk_hat34
 exact L_nil ⟨rfl,_,_,rfl,Le.refl _,fun _ _=>⟨_,_,_,rfl,hrk_hat34,hat34⟩,hst⟩
 refine opsS_cons ?_ ?_
 intro f w_ H23 X23 hS23 hE23 hP23 hst
 obtain ⟨g36,o36,cs36,hv36,hrk_hat36,hat36⟩:=(hP23 2 19 rfl rfl)
 obtain rfl:=rTerm_iff.1 hrk_hat36
 refine L_lda (cs:=[I x_5.coef,I x_5.lit]) rfl Try.isAgg112 Try.sizeOf112 hv36 (At.sub (AtH.at hat36 hst.sub) 0 2) rfl (L_nil ⟨rfl,_,_,rfl,Le.refl _,fun _ _=>rfl,hst⟩)
 refine opsS_cons (fun f w_ _ _ s _ _ hst=>mF ((s 1 rfl).trans sf1) rfl (nO rfl rfl hst)) (opsS_cons (fun f w_ _ _ s _ _ hst=>mF ((s 5 rfl).trans sf5) rfl (nO rfl rfl hst)) (opsS_cons ?_ ?_))
 intro f w_ H23 X23 hS23 hE23 hP23 hst
 refine L_ix (r:=rTerm) rfl Try.underlying41 Try.sizeOf112 (hP23 4 21 rfl rfl) (RP.mono _ h1 (Le.trans l4 hE23)) (hP23 5 22 rfl rfl) hx11 (fun g38 o39 cs_g38 hrk_hat40 hat40=>?_)
 obtain rfl:=rTerm_iff.1 hrk_hat40
 exact L_nil ⟨rfl,_,_,rfl,Le.refl _,fun _ _=>⟨_,_,_,rfl,hrk_hat40,hat40⟩,hst⟩
 refine opsS_cons ?_ ?_
 intro f w_ H23 X23 hS23 hE23 hP23 hst
 obtain ⟨g42,o42,cs42,hv42,hrk_hat42,hat42⟩:=(hP23 6 23 rfl rfl)
 obtain rfl:=rTerm_iff.1 hrk_hat42
 refine L_lda (cs:=[I x11.coef,I x11.lit]) rfl Try.isAgg112 Try.sizeOf112 hv42 (At.sub (AtH.at hat42 hst.sub) 0 2) rfl (L_nil ⟨rfl,_,_,rfl,Le.refl _,fun _ _=>rfl,hst⟩)
 exact opsS_nil
 obtain ⟨H44b,l45,s46,z47,k48⟩:=hst.borrow
 refine L_call rfl Try.call121 (ops2 (hT23 3 20 rfl rfl) (hT23 7 24 rfl rfl)) (l_eqTerm_c (a:=x_5) (b:=x11) s46 hx21) ?_
 rintro _ w49 ⟨rfl,hst⟩
 have hst:=k48 hst c0
 refine L_not_ rfl rfl (nn (W_cond (b:=(!x21)) rfl (fun hc50=>?_) (fun hc50=>?_)))
 have hB5:=(ite_t hc50).symm.trans hB5
 refine sq (aB rfl (nn (W_ret (retG1 (v1:=Bo false) Try.results86 rfl ?_))))
 obtain rfl:=so hB5
 obtain rfl:=so hL5
 obtain rfl:=so hF
 exact ⟨rfl,(Star.down hst (Le.trans l4 hE23) c0)⟩
 have hB5:=(ite_f hc50).symm.trans hB5
 refine W_skip (W_region (mF ((hS23 5 rfl).trans sf5) rfl (L_add rfl rfl rfl (aI rfl (nn ?_)))))
 obtain rfl:=so hB5
 show ∃ m,m < _∧I5 m _ _
 refine ⟨rest5.length,by simp,?_⟩
 exact ij hI5 ⟨i_2 + 1,rest5,H23,rfl,drop_next hd5,by simp at hl5; omega,hL5,(Le.trans l4 hE23),((hS23 0 rfl).trans sf0),((hS23 1 rfl).trans sf1),(Eq.trans rfl (congrArg (Value.int .i64) (i64_succ (n:=a.length) (by simp at hl5; omega) hlen5))),hst⟩
 rcases suf5 with _ | ⟨_,_⟩
 obtain rfl:=range_nil hL5
 refine W_exit (rj hR5 ⟨H3,rfl,l4,hst⟩)
 exact absurd (of_decide_eq_false hc6) (by simp at hl5; omega)
 intro f w_ hR
 obtain ⟨H3,rfl,l4,hst⟩:=rk hR5 hR
 refine sq (aB rfl (nn (W_ret (retG1 (v1:=Bo true) Try.results86 rfl ?_))))
 obtain rfl:=so hF
 exact ⟨rfl,(Star.down hst l4 c0)⟩
theorem l_eqConstraint_c {a : Con} {b : Con} {v0_0 : Value} {v1_0 : Value} {H : FH} {w : World} (hst : Star H w []) (h0_0 : (rS 112 rTerm).rel H [v0_0] a.terms) (h1_0 : (rS 112 rTerm).rel H [v1_0] b.terms) {r : Bool} (hF : l_eqConstraint a b = some r) :
 C Try.prog 43 #[.agg #[v0_0,I a.bound],.agg #[v1_0,I b.bound]] w fun v w'=>v = Bo r∧Star H w' []:=by
 unfold l_eqConstraint at hF
 refine C_enter Try.func43 rfl Try.ntmps43 rfl (sq (L_box (v:=.agg #[v0_0,I a.bound]) (cs:=#[v0_0,I a.bound]) rfl rfl rfl hst (fun g5 w6 hst=>L_box (v:=.agg #[v1_0,I b.bound]) (cs:=#[v1_0,I b.bound]) rfl rfl rfl hst (fun g7 w8 hst=>aB rfl (nq (W_seq ?_))))))
 obtain ⟨x14,hx14,hF⟩:=bind_some hF
 refine W_region (fA 0 fa_43_0 rfl rfl (ldB 1 hst Try.isAgg41 rfl rfl rfl (fA 0 fa_43_0 rfl rfl (ldB 0 hst Try.isAgg41 rfl rfl rfl ?_))))
 obtain ⟨H16b,l17,s18,z19,k20⟩:=hst.borrow
 refine L_call rfl Try.call86 (ops2 rfl rfl) (l_eqTermS_c (a:=a.terms) (b:=b.terms) s18 (RP.mono _ h0_0 l17) (RP.mono _ h1_0 l17) hx14) ?_
 rintro _ w21 ⟨rfl,hst⟩
 have hst:=k20 hst c0
 refine L_not_ rfl rfl (nn (W_cond (b:=(!x14)) rfl (fun hc22=>?_) (fun hc22=>?_)))
 have hF:=(ite_t hc22).symm.trans hF
 refine sq (aB rfl (nn (W_ret (retG1 (v1:=Bo false) Try.results43 rfl ?_))))
 obtain rfl:=so hF
 exact ⟨rfl,(Star.keepN 0 hst)⟩
 have hF:=(ite_f hc22).symm.trans hF
 refine W_skip (W_seq (sq (fA 1 fa_43_1 rfl rfl (ldB 1 hst Try.isAgg3 rfl rfl rfl (fA 1 fa_43_1 rfl rfl (ldB 0 hst Try.isAgg3 rfl rfl rfl (L_neq rfl rfl rfl (nn (W_cond (b:=(a.bound != b.bound)) rfl (fun hc23=>?_) (fun hc23=>?_))))))))))
 have hF:=(ite_t hc23).symm.trans hF
 refine sq (aB rfl (nn (W_ret (retG1 (v1:=Bo false) Try.results43 rfl ?_))))
 obtain rfl:=so hF
 exact ⟨rfl,(Star.keepN 0 hst)⟩
 have hF:=(ite_f hc23).symm.trans hF
 refine W_skip (sq (aB rfl (nn (W_ret (retG1 (v1:=Bo true) Try.results43 rfl ?_)))))
 obtain rfl:=so hF
 exact ⟨rfl,(Star.keepN 0 hst)⟩
theorem l_eqStep_c {a : Step} {b : Step} {v0_3 : Value} {v1_3 : Value} {H : FH} {w : World} (hst : Star H w []) (h0_3 : (rS 112 rTerm).rel H [v0_3] a.given.terms) (h1_3 : (rS 112 rTerm).rel H [v1_3] b.given.terms) {r : Bool} (hF : l_eqStep a b = some r) :
 C Try.prog 80 #[.agg #[I a.kind,I a.a,I a.b,v0_3,I a.given.bound],.agg #[I b.kind,I b.a,I b.b,v1_3,I b.given.bound]] w fun v w'=>v = Bo r∧Star H w' []:=by
 unfold l_eqStep at hF
 refine C_enter Try.func80 rfl Try.ntmps80 rfl (sq (L_box (v:=.agg #[I a.kind,I a.a,I a.b,v0_3,I a.given.bound]) (cs:=#[I a.kind,I a.a,I a.b,v0_3,I a.given.bound]) rfl rfl rfl hst (fun g5 w6 hst=>L_box (v:=.agg #[I b.kind,I b.a,I b.b,v1_3,I b.given.bound]) (cs:=#[I b.kind,I b.a,I b.b,v1_3,I b.given.bound]) rfl rfl rfl hst (fun g7 w8 hst=>aB rfl (nq (sq (fA 0 fa_93_0 rfl rfl (ldB 1 hst Try.isAgg3 rfl rfl rfl (fA 0 fa_93_0 rfl rfl (ldB 0 hst Try.isAgg3 rfl rfl rfl (L_neq rfl rfl rfl (nn (W_cond (b:=(a.kind != b.kind)) rfl (fun hc9=>?_) (fun hc9=>?_))))))))))))))
 have hF:=(ite_t hc9).symm.trans hF
 refine sq (aB rfl (nn (W_ret (retG1 (v1:=Bo false) Try.results80 rfl ?_))))
 obtain rfl:=so hF
 exact ⟨rfl,(Star.keepN 0 hst)⟩
 have hF:=(ite_f hc9).symm.trans hF
 refine W_skip (W_seq (sq (fA 1 fa_93_1 rfl rfl (ldB 1 hst Try.isAgg3 rfl rfl rfl (fA 1 fa_93_1 rfl rfl (ldB 0 hst Try.isAgg3 rfl rfl rfl (L_neq rfl rfl rfl (nn (W_cond (b:=(a.a != b.a)) rfl (fun hc10=>?_) (fun hc10=>?_))))))))))
 have hF:=(ite_t hc10).symm.trans hF
 refine sq (aB rfl (nn (W_ret (retG1 (v1:=Bo false) Try.results80 rfl ?_))))
 obtain rfl:=so hF
 exact ⟨rfl,(Star.keepN 0 hst)⟩
 have hF:=(ite_f hc10).symm.trans hF
 refine W_skip (W_seq (sq (fA 2 fa_93_2 rfl rfl (ldB 1 hst Try.isAgg3 rfl rfl rfl (fA 2 fa_93_2 rfl rfl (ldB 0 hst Try.isAgg3 rfl rfl rfl (L_neq rfl rfl rfl (nn (W_cond (b:=(a.b != b.b)) rfl (fun hc11=>?_) (fun hc11=>?_))))))))))
 have hF:=(ite_t hc11).symm.trans hF
 refine sq (aB rfl (nn (W_ret (retG1 (v1:=Bo false) Try.results80 rfl ?_))))
 obtain rfl:=so hF
 exact ⟨rfl,(Star.keepN 0 hst)⟩
 have hF:=(ite_f hc11).symm.trans hF
 refine W_skip (W_seq (W_seq ?_))
 obtain ⟨x17,hx17,hF⟩:=bind_some hF
 refine W_region (fA 3 fa_93_3 rfl rfl (L_lda (cs:=[v0_3,I a.given.bound]) rfl Try.isAgg43 Try.sizeOf43 rfl (At.sub0 (Blk.at (Star.blkAt 1 hst rfl)) 3 2) rfl (fA 3 fa_93_3 rfl rfl (L_lda (cs:=[v1_3,I b.given.bound]) rfl Try.isAgg43 Try.sizeOf43 rfl (At.sub0 (Blk.at (Star.blkAt 0 hst rfl)) 3 2) rfl ?_))))
 obtain ⟨H19b,l20,s21,z22,k23⟩:=hst.borrow
 refine L_call rfl Try.call43 (ops2 rfl rfl) (l_eqConstraint_c (a:=a.given) (b:=b.given) s21 (RP.mono _ h0_3 l20) (RP.mono _ h1_3 l20) hx17) ?_
 rintro _ w24 ⟨rfl,hst⟩
 have hst:=k23 hst c0
 refine L_not_ rfl rfl (nn (W_cond (b:=(!x17)) rfl (fun hc25=>?_) (fun hc25=>?_)))
 have hF:=(ite_t hc25).symm.trans hF
 refine sq (aB rfl (nn (W_ret (retG1 (v1:=Bo false) Try.results80 rfl ?_))))
 obtain rfl:=so hF
 exact ⟨rfl,(Star.keepN 0 hst)⟩
 have hF:=(ite_f hc25).symm.trans hF
 refine W_skip (sq (aB rfl (nn (W_ret (retG1 (v1:=Bo true) Try.results80 rfl ?_)))))
 obtain rfl:=so hF
 exact ⟨rfl,(Star.keepN 0 hst)⟩
theorem l_eqStepS_c {a : List Step} {b : List Step} {v0 : Value} {v1 : Value} {H : FH} {w : World} (hst : Star H w []) (h0 : (rS 93 (rStep 112)).rel H [v0] a) (h1 : (rS 93 (rStep 112)).rel H [v1] b) {r : Bool} (hF : l_eqStepS a b = some r) :
 C Try.prog 33 #[v0,v1] w fun v w'=>v = Bo r∧Star H w' []:=by
 unfold l_eqStepS at hF
 refine C_enter Try.func33 rfl Try.ntmps33 rfl (sq (aB rfl (nq (sq (mV v0 rfl (L_len rfl Try.underlying30 rfl (slice_len h0) (mV v1 rfl (L_len rfl Try.underlying30 rfl (slice_len h1) (L_neq rfl rfl rfl (nn (W_cond (b:=((a.length : Int) != (b.length : Int))) rfl (fun hc1=>?_) (fun hc1=>?_))))))))))))
 have hF:=(ite_t hc1).symm.trans hF
 refine sq (aB rfl (nn (W_ret (retG1 (v1:=Bo false) Try.results33 rfl ?_))))
 obtain rfl:=so hF
 exact ⟨rfl,hst⟩
 have hF:=(ite_f hc1).symm.trans hF
 refine W_skip (W_seq (sq (aI rfl (nn ?_))))
 have hlen5 : List.length a≤9223372036854775807:=len_le (slice_len h0)
 obtain ⟨j5,hL5,hF⟩:=bind_some hF
 obtain ⟨R5,hR5⟩:=exR fun f w_=>∃ H3 : FH,j5 = .nx ()∧Le H H3∧Star H3 w_ ([])
 refine W_join R5 ?_ ?_
 refine W_block ?_
 obtain ⟨I5,hI5⟩:=exI fun n f w_=>∃ i_2 : Nat,∃ suf5 : List Step,∃ H3 : FH,n = suf5.length∧List.drop i_2 a = suf5∧i_2 + suf5.length = a.length∧rangeL (l_eqStepS_b1 b) suf5 i_2 () = some j5∧Le H H3∧f 0 = v0∧f 1 = v1∧f 5 = I i_2∧Star H3 w_ ([])
 refine W_loop I5 (n:=a.length) ?_ ?_
 exact ij hI5 ⟨0,a,H,rfl,rfl,Nat.zero_add _,hL5,(Le.refl _),rfl,rfl,rfl,hst⟩
 intro n5 f w_ hI
 obtain ⟨i_2,suf5,H3,rfl,hd5,hl5,hL5,l4,sf0,sf1,sf5,hst⟩:=ik hI5 hI
 refine W_seq (sq (mF sf5 rfl (mF sf0 rfl (L_len rfl Try.underlying30 rfl (slice_len (RP.mono _ h0 l4)) (L_lss rfl rfl rfl (nn (W_cond (b:=decide ((i_2 : Int) < (a.length : Int))) rfl (fun hc6=>?_) (fun hc6=>?_))))))))
 have hlt5:=of_decide_eq_true hc6
 rcases suf5 with _ | ⟨x_5,rest5⟩
 exact absurd hlt5 (by simp at hl5; omega)
 obtain ⟨o5,hB5,hL5⟩:=range_cons hL5
 rw [l_eqStepS_b1] at hB5
 have hix5:=drop_idx hd5
 refine W_skip (W_seq (W_block (W_seq ?_)))
 obtain ⟨x11,hx11,hB5⟩:=bind_some hB5
 obtain ⟨x21,hx21,hB5⟩:=bind_some hB5
 refine W_drawS 8 [isV (v0),isV (I i_2),isEl (rStep 112) x_5 0,exD (isData (rS 112 rTerm) x_5.given.terms) fun u_3=>isV (.agg #[I x_5.kind,I x_5.a,I x_5.b,u_3,I x_5.given.bound]),isV (v1),isV (I i_2),isEl (rStep 112) x11 0,exD (isData (rS 112 rTerm) x11.given.terms) fun u_3=>isV (.agg #[I x11.kind,I x11.a,I x11.b,u_3,I x11.given.bound])] [] [] ([]) [([],[]),([],[]),([],[]),([],[]),([],[]),([],[]),([],[]),([],[])] (S:=[]) Try_mix (by kernel_rfl) rfl (by kernel_rfl) (amF_cons (mono_V _) (amF_cons (mono_V _) (amF_cons (mono_el _ _ _) (amF_cons (mono_exD (mono_data _ _) fun _=>mono_V _) (amF_cons (mono_V _) (amF_cons (mono_V _) (amF_cons (mono_el _ _ _) (amF_cons (mono_exD (mono_data _ _) fun _=>mono_V _) amF_nil)))))))) hst ?_ (fun f w_ H23 hS23 hE23 hT23 hst=>?_)
 refine opsS_cons (fun f w_ _ _ s _ _ hst=>mF ((s 0 rfl).trans sf0) rfl (nO rfl rfl hst)) (opsS_cons (fun f w_ _ _ s _ _ hst=>mF ((s 5 rfl).trans sf5) rfl (nO rfl rfl hst)) (opsS_cons ?_ ?_))
 intro f w_ H23 X23 hS23 hE23 hP23 hst
 refine L_ix (r:=(rStep 112)) rfl Try.underlying30 Try.sizeOf93 (hP23 0 17 rfl rfl) (RP.mono _ h0 (Le.trans l4 hE23)) (hP23 1 18 rfl rfl) hix5 (fun g32 o33 cs_g32 hrk_hat34 hat34=>?_)
 obtain ⟨u35_0,rfl,hu35_0⟩:=rStep_iff.1 hrk_hat34
 exact L_nil ⟨rfl,_,_,rfl,Le.refl _,fun _ _=>⟨_,_,_,rfl,hrk_hat34,hat34⟩,hst⟩
 refine opsS_cons ?_ ?_
 intro f w_ H23 X23 hS23 hE23 hP23 hst
 obtain ⟨g36,o36,cs36,hv36,hrk_hat36,hat36⟩:=(hP23 2 19 rfl rfl)
 obtain ⟨u37_0,rfl,hu37_0⟩:=rStep_iff.1 hrk_hat36
 refine L_lda (cs:=[I x_5.kind,I x_5.a,I x_5.b,u37_0,I x_5.given.bound]) rfl Try.isAgg93 Try.sizeOf93 hv36 (At.sub (AtH.at hat36 hst.sub) 0 5) rfl (L_nil ⟨rfl,_,_,rfl,Le.refl _,fun _ _=>⟨_,hu37_0,rfl⟩,hst⟩)
 refine opsS_cons (fun f w_ _ _ s _ _ hst=>mF ((s 1 rfl).trans sf1) rfl (nO rfl rfl hst)) (opsS_cons (fun f w_ _ _ s _ _ hst=>mF ((s 5 rfl).trans sf5) rfl (nO rfl rfl hst)) (opsS_cons ?_ ?_))
 intro f w_ H23 X23 hS23 hE23 hP23 hst
 refine L_ix (r:=(rStep 112)) rfl Try.underlying30 Try.sizeOf93 (hP23 4 21 rfl rfl) (RP.mono _ h1 (Le.trans l4 hE23)) (hP23 5 22 rfl rfl) hx11 (fun g38 o39 cs_g38 hrk_hat40 hat40=>?_)
 obtain ⟨u41_0,rfl,hu41_0⟩:=rStep_iff.1 hrk_hat40
 exact L_nil ⟨rfl,_,_,rfl,Le.refl _,fun _ _=>⟨_,_,_,rfl,hrk_hat40,hat40⟩,hst⟩
 refine opsS_cons ?_ ?_
 intro f w_ H23 X23 hS23 hE23 hP23 hst
 obtain ⟨g42,o42,cs42,hv42,hrk_hat42,hat42⟩:=(hP23 6 23 rfl rfl)
 obtain ⟨u43_0,rfl,hu43_0⟩:=rStep_iff.1 hrk_hat42
 refine L_lda (cs:=[I x11.kind,I x11.a,I x11.b,u43_0,I x11.given.bound]) rfl Try.isAgg93 Try.sizeOf93 hv42 (At.sub (AtH.at hat42 hst.sub) 0 5) rfl (L_nil ⟨rfl,_,_,rfl,Le.refl _,fun _ _=>⟨_,hu43_0,rfl⟩,hst⟩)
 exact opsS_nil
 obtain ⟨u44_3,hu44_3,hv44⟩:=(hT23 3 20 rfl rfl)
 obtain ⟨u45_3,hu45_3,hv45⟩:=(hT23 7 24 rfl rfl)
 obtain ⟨H46b,l47,s48,z49,k50⟩:=hst.borrow
 refine L_call rfl Try.call80 (ops2 hv44 hv45) (l_eqStep_c (a:=x_5) (b:=x11) s48 (RP.mono _ hu44_3 l47) (RP.mono _ hu45_3 l47) hx21) ?_
 rintro _ w51 ⟨rfl,hst⟩
 have hst:=k50 hst c0
 refine L_not_ rfl rfl (nn (W_cond (b:=(!x21)) rfl (fun hc52=>?_) (fun hc52=>?_)))
 have hB5:=(ite_t hc52).symm.trans hB5
 refine sq (aB rfl (nn (W_ret (retG1 (v1:=Bo false) Try.results33 rfl ?_))))
 obtain rfl:=so hB5
 obtain rfl:=so hL5
 obtain rfl:=so hF
 exact ⟨rfl,(Star.down hst (Le.trans l4 hE23) c0)⟩
 have hB5:=(ite_f hc52).symm.trans hB5
 refine W_skip (W_region (mF ((hS23 5 rfl).trans sf5) rfl (L_add rfl rfl rfl (aI rfl (nn ?_)))))
 obtain rfl:=so hB5
 show ∃ m,m < _∧I5 m _ _
 refine ⟨rest5.length,by simp,?_⟩
 exact ij hI5 ⟨i_2 + 1,rest5,H23,rfl,drop_next hd5,by simp at hl5; omega,hL5,(Le.trans l4 hE23),((hS23 0 rfl).trans sf0),((hS23 1 rfl).trans sf1),(Eq.trans rfl (congrArg (Value.int .i64) (i64_succ (n:=a.length) (by simp at hl5; omega) hlen5))),hst⟩
 rcases suf5 with _ | ⟨_,_⟩
 obtain rfl:=range_nil hL5
 refine W_exit (rj hR5 ⟨H3,rfl,l4,hst⟩)
 exact absurd (of_decide_eq_false hc6) (by simp at hl5; omega)
 intro f w_ hR
 obtain ⟨H3,rfl,l4,hst⟩:=rk hR5 hR
 refine sq (aB rfl (nn (W_ret (retG1 (v1:=Bo true) Try.results33 rfl ?_))))
 obtain rfl:=so hF
 exact ⟨rfl,(Star.down hst l4 c0)⟩
theorem l_eqConstraintS_c {a : List Con} {b : List Con} {v0 : Value} {v1 : Value} {H : FH} {w : World} (hst : Star H w []) (h0 : (rS 43 (rCon 112)).rel H [v0] a) (h1 : (rS 43 (rCon 112)).rel H [v1] b) {r : Bool} (hF : l_eqConstraintS a b = some r) :
 C Try.prog 34 #[v0,v1] w fun v w'=>v = Bo r∧Star H w' []:=by
 unfold l_eqConstraintS at hF
 refine C_enter Try.func34 rfl Try.ntmps34 rfl (sq (aB rfl (nq (sq (mV v0 rfl (L_len rfl Try.underlying23 rfl (slice_len h0) (mV v1 rfl (L_len rfl Try.underlying23 rfl (slice_len h1) (L_neq rfl rfl rfl (nn (W_cond (b:=((a.length : Int) != (b.length : Int))) rfl (fun hc1=>?_) (fun hc1=>?_))))))))))))
 have hF:=(ite_t hc1).symm.trans hF
 refine sq (aB rfl (nn (W_ret (retG1 (v1:=Bo false) Try.results34 rfl ?_))))
 obtain rfl:=so hF
 exact ⟨rfl,hst⟩
 have hF:=(ite_f hc1).symm.trans hF
 refine W_skip (W_seq (sq (aI rfl (nn ?_))))
 have hlen5 : List.length a≤9223372036854775807:=len_le (slice_len h0)
 obtain ⟨j5,hL5,hF⟩:=bind_some hF
 obtain ⟨R5,hR5⟩:=exR fun f w_=>∃ H3 : FH,j5 = .nx ()∧Le H H3∧Star H3 w_ ([])
 refine W_join R5 ?_ ?_
 refine W_block ?_
 obtain ⟨I5,hI5⟩:=exI fun n f w_=>∃ i_2 : Nat,∃ suf5 : List Con,∃ H3 : FH,n = suf5.length∧List.drop i_2 a = suf5∧i_2 + suf5.length = a.length∧rangeL (l_eqConstraintS_b1 b) suf5 i_2 () = some j5∧Le H H3∧f 0 = v0∧f 1 = v1∧f 5 = I i_2∧Star H3 w_ ([])
 refine W_loop I5 (n:=a.length) ?_ ?_
 exact ij hI5 ⟨0,a,H,rfl,rfl,Nat.zero_add _,hL5,(Le.refl _),rfl,rfl,rfl,hst⟩
 intro n5 f w_ hI
 obtain ⟨i_2,suf5,H3,rfl,hd5,hl5,hL5,l4,sf0,sf1,sf5,hst⟩:=ik hI5 hI
 refine W_seq (sq (mF sf5 rfl (mF sf0 rfl (L_len rfl Try.underlying23 rfl (slice_len (RP.mono _ h0 l4)) (L_lss rfl rfl rfl (nn (W_cond (b:=decide ((i_2 : Int) < (a.length : Int))) rfl (fun hc6=>?_) (fun hc6=>?_))))))))
 have hlt5:=of_decide_eq_true hc6
 rcases suf5 with _ | ⟨x_5,rest5⟩
 exact absurd hlt5 (by simp at hl5; omega)
 obtain ⟨o5,hB5,hL5⟩:=range_cons hL5
 rw [l_eqConstraintS_b1] at hB5
 have hix5:=drop_idx hd5
 refine W_skip (W_seq (W_block (W_seq ?_)))
 obtain ⟨x11,hx11,hB5⟩:=bind_some hB5
 obtain ⟨x21,hx21,hB5⟩:=bind_some hB5
 refine W_drawS 8 [isV (v0),isV (I i_2),isEl (rCon 112) x_5 0,exD (isData (rS 112 rTerm) x_5.terms) fun u_0=>isV (.agg #[u_0,I x_5.bound]),isV (v1),isV (I i_2),isEl (rCon 112) x11 0,exD (isData (rS 112 rTerm) x11.terms) fun u_0=>isV (.agg #[u_0,I x11.bound])] [] [] ([]) [([],[]),([],[]),([],[]),([],[]),([],[]),([],[]),([],[]),([],[])] (S:=[]) Try_mix (by kernel_rfl) rfl (by kernel_rfl) (amF_cons (mono_V _) (amF_cons (mono_V _) (amF_cons (mono_el _ _ _) (amF_cons (mono_exD (mono_data _ _) fun _=>mono_V _) (amF_cons (mono_V _) (amF_cons (mono_V _) (amF_cons (mono_el _ _ _) (amF_cons (mono_exD (mono_data _ _) fun _=>mono_V _) amF_nil)))))))) hst ?_ (fun f w_ H23 hS23 hE23 hT23 hst=>?_)
 refine opsS_cons (fun f w_ _ _ s _ _ hst=>mF ((s 0 rfl).trans sf0) rfl (nO rfl rfl hst)) (opsS_cons (fun f w_ _ _ s _ _ hst=>mF ((s 5 rfl).trans sf5) rfl (nO rfl rfl hst)) (opsS_cons ?_ ?_))
 intro f w_ H23 X23 hS23 hE23 hP23 hst
 refine L_ix (r:=(rCon 112)) rfl Try.underlying23 Try.sizeOf43 (hP23 0 17 rfl rfl) (RP.mono _ h0 (Le.trans l4 hE23)) (hP23 1 18 rfl rfl) hix5 (fun g32 o33 cs_g32 hrk_hat34 hat34=>?_)
 obtain ⟨u35_0,rfl,hu35_0⟩:=rCon_iff.1 hrk_hat34
 exact L_nil ⟨rfl,_,_,rfl,Le.refl _,fun _ _=>⟨_,_,_,rfl,hrk_hat34,hat34⟩,hst⟩
 refine opsS_cons ?_ ?_
 intro f w_ H23 X23 hS23 hE23 hP23 hst
 obtain ⟨g36,o36,cs36,hv36,hrk_hat36,hat36⟩:=(hP23 2 19 rfl rfl)
 obtain ⟨u37_0,rfl,hu37_0⟩:=rCon_iff.1 hrk_hat36
 refine L_lda (cs:=[u37_0,I x_5.bound]) rfl Try.isAgg43 Try.sizeOf43 hv36 (At.sub (AtH.at hat36 hst.sub) 0 2) rfl (L_nil ⟨rfl,_,_,rfl,Le.refl _,fun _ _=>⟨_,hu37_0,rfl⟩,hst⟩)
 refine opsS_cons (fun f w_ _ _ s _ _ hst=>mF ((s 1 rfl).trans sf1) rfl (nO rfl rfl hst)) (opsS_cons (fun f w_ _ _ s _ _ hst=>mF ((s 5 rfl).trans sf5) rfl (nO rfl rfl hst)) (opsS_cons ?_ ?_))
 intro f w_ H23 X23 hS23 hE23 hP23 hst
 refine L_ix (r:=(rCon 112)) rfl Try.underlying23 Try.sizeOf43 (hP23 4 21 rfl rfl) (RP.mono _ h1 (Le.trans l4 hE23)) (hP23 5 22 rfl rfl) hx11 (fun g38 o39 cs_g38 hrk_hat40 hat40=>?_)
 obtain ⟨u41_0,rfl,hu41_0⟩:=rCon_iff.1 hrk_hat40
 exact L_nil ⟨rfl,_,_,rfl,Le.refl _,fun _ _=>⟨_,_,_,rfl,hrk_hat40,hat40⟩,hst⟩
 refine opsS_cons ?_ ?_
 intro f w_ H23 X23 hS23 hE23 hP23 hst
 obtain ⟨g42,o42,cs42,hv42,hrk_hat42,hat42⟩:=(hP23 6 23 rfl rfl)
 obtain ⟨u43_0,rfl,hu43_0⟩:=rCon_iff.1 hrk_hat42
 refine L_lda (cs:=[u43_0,I x11.bound]) rfl Try.isAgg43 Try.sizeOf43 hv42 (At.sub (AtH.at hat42 hst.sub) 0 2) rfl (L_nil ⟨rfl,_,_,rfl,Le.refl _,fun _ _=>⟨_,hu43_0,rfl⟩,hst⟩)
 exact opsS_nil
 obtain ⟨u44_0,hu44_0,hv44⟩:=(hT23 3 20 rfl rfl)
 obtain ⟨u45_0,hu45_0,hv45⟩:=(hT23 7 24 rfl rfl)
 obtain ⟨H46b,l47,s48,z49,k50⟩:=hst.borrow
 refine L_call rfl Try.call43 (ops2 hv44 hv45) (l_eqConstraint_c (a:=x_5) (b:=x11) s48 (RP.mono _ hu44_0 l47) (RP.mono _ hu45_0 l47) hx21) ?_
 rintro _ w51 ⟨rfl,hst⟩
 have hst:=k50 hst c0
 refine L_not_ rfl rfl (nn (W_cond (b:=(!x21)) rfl (fun hc52=>?_) (fun hc52=>?_)))
 have hB5:=(ite_t hc52).symm.trans hB5
 refine sq (aB rfl (nn (W_ret (retG1 (v1:=Bo false) Try.results34 rfl ?_))))
 obtain rfl:=so hB5
 obtain rfl:=so hL5
 obtain rfl:=so hF
 exact ⟨rfl,(Star.down hst (Le.trans l4 hE23) c0)⟩
 have hB5:=(ite_f hc52).symm.trans hB5
 refine W_skip (W_region (mF ((hS23 5 rfl).trans sf5) rfl (L_add rfl rfl rfl (aI rfl (nn ?_)))))
 obtain rfl:=so hB5
 show ∃ m,m < _∧I5 m _ _
 refine ⟨rest5.length,by simp,?_⟩
 exact ij hI5 ⟨i_2 + 1,rest5,H23,rfl,drop_next hd5,by simp at hl5; omega,hL5,(Le.trans l4 hE23),((hS23 0 rfl).trans sf0),((hS23 1 rfl).trans sf1),(Eq.trans rfl (congrArg (Value.int .i64) (i64_succ (n:=a.length) (by simp at hl5; omega) hlen5))),hst⟩
 rcases suf5 with _ | ⟨_,_⟩
 obtain rfl:=range_nil hL5
 refine W_exit (rj hR5 ⟨H3,rfl,l4,hst⟩)
 exact absurd (of_decide_eq_false hc6) (by simp at hl5; omega)
 intro f w_ hR
 obtain ⟨H3,rfl,l4,hst⟩:=rk hR5 hR
 refine sq (aB rfl (nn (W_ret (retG1 (v1:=Bo true) Try.results34 rfl ?_))))
 obtain rfl:=so hF
 exact ⟨rfl,(Star.down hst l4 c0)⟩
theorem l_markTermS_c {fu : Nat} {a : List Term} {k : Int} {v0 : Value} {H : FH} {w : World} (hst : Star H w [oF 112 rTerm v0 a]) {r : Int × (List Term)} (hF : l_markTermS fu a k = some r) :
 C Try.prog 81 #[v0,I k] w fun v w'=>v = I r.1∧Star H w' [oF 112 rTerm v0 r.2]:=by
 unfold l_markTermS at hF
 refine C_enter Try.func81 rfl Try.ntmps81 rfl (sq (aI rfl (nq (sq (aI rfl (nn ?_))))))
 obtain ⟨j8,hL8,hF⟩:=bind_some hF
 obtain ⟨R8,hR8⟩:=exR fun f w_=>∃ a_5 : List Term,∃ k_6 : Int,∃ i_7 : Int,j8 = .nx (a_5,k_6,i_7)∧f 1 = I k_6∧Star H w_ ([oF 112 rTerm v0 a_5])
 refine W_join R8 ?_ ?_
 refine W_block ?_
 obtain ⟨I8,hI8⟩:=exI fun n f w_=>∃ a_5 : List Term,∃ k_6 : Int,∃ i_7 : Int,whileL l_markTermS_b1 n (a_5,k_6,i_7) = some j8∧f 0 = v0∧f 1 = I k_6∧f 5 = I i_7∧Star H w_ ([oF 112 rTerm v0 a_5])
 refine W_loop I8 (n:=fu) ?_ ?_
 exact ij hI8 ⟨a,k,0,hL8,rfl,rfl,rfl,hst⟩
 intro n8 f w_ hI
 obtain ⟨a_5,k_6,i_7,hL8,sf0,sf1,sf5,hst⟩:=ik hI8 hI
 rcases n8 with _ | n8
 exact (while_zero hL8).elim
 obtain ⟨o8,hB8,hL8⟩:=while_succ hL8
 rw [l_markTermS_b1] at hB8
 refine W_seq (sq (mF sf5 rfl (mF sf0 rfl (L_len rfl Try.underlying41 rfl (Star.len 0 hst rfl) (L_lss rfl rfl rfl (nn (W_cond (b:=decide (i_7 < (a_5.length : Int))) rfl (fun hc9=>?_) (fun hc9=>?_))))))))
 have hB8:=(ite_t hc9).symm.trans hB8
 refine W_skip (W_seq (W_block (W_seq ?_)))
 obtain ⟨x10,hx10,hB8⟩:=bind_some hB8
 refine W_region (mF sf0 rfl (mF sf5 rfl (mF sf1 rfl ?_)))
 obtain ⟨g14,cap_g14,hv15,_,_⟩:=Star.row 0 hst rfl hx10
 refine L_ixO (R:=(OR.frz rTerm)) (tb:=0) 0 rfl Try.underlying41 Try.sizeOf112 rfl hv15 (by first | rfl | simp) rfl hx10 (fA (Int.toNat i_7 * 2 + 0) fa_112_0 rfl rfl (L_stF (j:=0) (u:=I k_6) (z:={ x10 with coef:=k_6 }) rfl Try.sizeOf3 rfl rfl rfl rfl hv15 hst hx10 fldF_rTerm_0 (fun w16 hst=>ns (mF sf1 rfl (L_add rfl rfl rfl (aI rfl (nq ?_)))))))
 obtain ⟨x17,hx17,hB8⟩:=bind_some hB8
 refine W_region (mF sf0 rfl (mF sf5 rfl (mI rfl (L_ixO (R:=(OR.frz rTerm)) (tb:=0) 0 rfl Try.underlying41 Try.sizeOf112 rfl hv15 (by first | rfl | simp) rfl hx17 (fA (Int.toNat i_7 * 2 + 1) fa_112_1 rfl rfl (L_stF (j:=1) (u:=I (i64 (k_6 + 1))) (z:={ x17 with lit:=i64 (k_6 + 1) }) rfl Try.sizeOf3 rfl rfl rfl rfl hv15 hst hx17 fldF_rTerm_1 (fun w19 hst=>nn (W_region (mI rfl (L_add rfl rfl rfl (aI rfl (nn (W_region (mF sf5 rfl (L_add rfl rfl rfl (aI rfl (nn ?_)))))))))))))))))
 obtain rfl:=so hB8
 show ∃ m,m < _∧I8 m _ _
 refine ⟨n8,Nat.lt_succ_self _,?_⟩
 exact ij hI8 ⟨((a_5.set (Int.toNat i_7) ({ x10 with coef:=k_6 })).set (Int.toNat i_7) ({ x17 with lit:=i64 (k_6 + 1) })),i64 ((i64 (k_6 + 1)) + 1),i64 (i_7 + 1),hL8,sf0,rfl,rfl,hst⟩
 have hB8:=(ite_f hc9).symm.trans hB8
 refine W_exit ?_
 obtain rfl:=so hB8
 obtain rfl:=so hL8
 exact rj hR8 ⟨a_5,k_6,i_7,rfl,sf1,hst⟩
 intro f w_ hR
 obtain ⟨a_5,k_6,i_7,rfl,sf1,hst⟩:=rk hR8 hR
 refine sq (mF sf1 rfl (aI rfl (nn (W_ret (retG1 (v1:=I k_6) Try.results81 rfl ?_)))))
 obtain rfl:=so hF
 exact ⟨rfl,hst⟩
theorem l_markConstraintS_c {fu : Nat} {a : List Con} {k : Int} {v0 : Value} {H : FH} {w : World} (hst : Star H w [oS 43 (oCon 112) v0 a]) {r : Int × (List Con)} (hF : l_markConstraintS fu a k = some r) :
 C Try.prog 35 #[v0,I k] w fun v w'=>v = I r.1∧Star H w' [oS 43 (oCon 112) v0 r.2]:=by
 unfold l_markConstraintS at hF
 refine C_enter Try.func35 rfl Try.ntmps35 rfl (sq (aI rfl (nq (sq (aI rfl (nn ?_))))))
 obtain ⟨j8,hL8,hF⟩:=bind_some hF
 obtain ⟨R8,hR8⟩:=exR fun f w_=>∃ a_5 : List Con,∃ k_6 : Int,∃ i_7 : Int,j8 = .nx (a_5,k_6,i_7)∧f 1 = I k_6∧Star H w_ ([oS 43 (oCon 112) v0 a_5])
 refine W_join R8 ?_ ?_
 refine W_block ?_
 obtain ⟨I8,hI8⟩:=exI fun n f w_=>∃ a_5 : List Con,∃ k_6 : Int,∃ i_7 : Int,whileL (l_markConstraintS_b1 fu) n (a_5,k_6,i_7) = some j8∧f 0 = v0∧f 1 = I k_6∧f 5 = I i_7∧Star H w_ ([oS 43 (oCon 112) v0 a_5])
 refine W_loop I8 (n:=fu) ?_ ?_
 exact ij hI8 ⟨a,k,0,hL8,rfl,rfl,rfl,hst⟩
 intro n8 f w_ hI
 obtain ⟨a_5,k_6,i_7,hL8,sf0,sf1,sf5,hst⟩:=ik hI8 hI
 rcases n8 with _ | n8
 exact (while_zero hL8).elim
 obtain ⟨o8,hB8,hL8⟩:=while_succ hL8
 rw [l_markConstraintS_b1] at hB8
 refine W_seq (sq (mF sf5 rfl (mF sf0 rfl (L_len rfl Try.underlying23 rfl (Star.len 0 hst rfl) (L_lss rfl rfl rfl (nn (W_cond (b:=decide (i_7 < (a_5.length : Int))) rfl (fun hc9=>?_) (fun hc9=>?_))))))))
 have hB8:=(ite_t hc9).symm.trans hB8
 refine W_skip (W_seq (W_block (W_seq ?_)))
 obtain ⟨x10,hx10,hB8⟩:=bind_some hB8
 obtain ⟨x20,hx20,hB8⟩:=bind_some hB8
 refine W_region (mF sf0 rfl (mF sf5 rfl ?_))
 obtain ⟨g22,cap_g22,hv23,_,_⟩:=Star.row 0 hst rfl hx10
 refine L_ixO (R:=(oCon 112)) (tb:=0) 0 rfl Try.underlying23 Try.sizeOf43 rfl hv23 (by first | rfl | simp) rfl hx10 (fA (Int.toNat i_7 * 2 + 0) fa_43_0 rfl rfl ?_)
 obtain ⟨cs24,hst,hat24⟩:=Star.focus hst hx10
 have hat24:=hat24 _ _ _ hv23
 obtain ⟨u24_0,rfl,hst⟩:=oCon_open hst
 refine L_ld rfl Try.isAgg41 rfl (At.cell hat24 (j:=0) rfl) (mF sf1 rfl ?_)
 obtain ⟨H26b,l27,s28,z29,k30⟩:=hst.lend [_]
 refine L_call rfl Try.call81 (ops2 rfl rfl) (l_markTermS_c (a:=x10.terms) (k:=k_6) s28 hx20) ?_
 rintro _ w31 ⟨rfl,hst⟩
 have hst:=k30 hst (co closed_term c0)
 refine aI rfl (nq ?_)
 have hst:=oCon_close (c:=({ terms:=x20.2,bound:=x10.bound } : Con)) hst
 have hst:=Star.unfocus (x':=({ terms:=x20.2,bound:=x10.bound } : Con)) (idx_some hx10).2.2 hst
 obtain ⟨x32,hx32,hB8⟩:=bind_some hB8
 refine W_region (mF sf0 rfl (mF sf5 rfl (mI rfl (L_ixO (R:=(oCon 112)) (tb:=0) 0 rfl Try.underlying23 Try.sizeOf43 rfl hv23 (by first | rfl | simp) rfl hx32 (fA (Int.toNat i_7 * 2 + 1) fa_43_1 rfl rfl (L_stF (j:=1) (u:=I x20.1) (z:={ x32 with bound:=x20.1 }) rfl Try.sizeOf3 rfl rfl rfl rfl hv23 hst hx32 fld_oCon_1 (fun w34 hst=>nn (W_region (mI rfl (L_add rfl rfl rfl (aI rfl (nn (W_region (mF sf5 rfl (L_add rfl rfl rfl (aI rfl (nn ?_)))))))))))))))))
 obtain rfl:=so hB8
 show ∃ m,m < _∧I8 m _ _
 refine ⟨n8,Nat.lt_succ_self _,?_⟩
 exact ij hI8 ⟨((a_5.set (Int.toNat i_7) ({ terms:=x20.2,bound:=x10.bound } : Con)).set (Int.toNat i_7) ({ x32 with bound:=x20.1 })),i64 (x20.1 + 1),i64 (i_7 + 1),hL8,sf0,rfl,rfl,hst⟩
 have hB8:=(ite_f hc9).symm.trans hB8
 refine W_exit ?_
 obtain rfl:=so hB8
 obtain rfl:=so hL8
 exact rj hR8 ⟨a_5,k_6,i_7,rfl,sf1,hst⟩
 intro f w_ hR
 obtain ⟨a_5,k_6,i_7,rfl,sf1,hst⟩:=rk hR8 hR
 refine sq (mF sf1 rfl (aI rfl (nn (W_ret (retG1 (v1:=I k_6) Try.results35 rfl ?_)))))
 obtain rfl:=so hF
 exact ⟨rfl,hst⟩
theorem l_markBoolS_c {fu : Nat} {a : List Bool} {k : Int} {v0 : Value} {H : FH} {w : World} (hst : Star H w [oF 4 RP.bool v0 a]) {r : Int × (List Bool)} (hF : l_markBoolS fu a k = some r) :
 C Try.prog 36 #[v0,I k] w fun v w'=>v = I r.1∧Star H w' [oF 4 RP.bool v0 r.2]:=by
 unfold l_markBoolS at hF
 refine C_enter Try.func36 rfl Try.ntmps36 rfl (sq (aI rfl (nq (sq (aI rfl (nn ?_))))))
 obtain ⟨j8,hL8,hF⟩:=bind_some hF
 obtain ⟨R8,hR8⟩:=exR fun f w_=>∃ a_5 : List Bool,∃ k_6 : Int,∃ i_7 : Int,j8 = .nx (a_5,k_6,i_7)∧f 1 = I k_6∧Star H w_ ([oF 4 RP.bool v0 a_5])
 refine W_join R8 ?_ ?_
 refine W_block ?_
 obtain ⟨I8,hI8⟩:=exI fun n f w_=>∃ a_5 : List Bool,∃ k_6 : Int,∃ i_7 : Int,whileL l_markBoolS_b1 n (a_5,k_6,i_7) = some j8∧f 0 = v0∧f 1 = I k_6∧f 5 = I i_7∧Star H w_ ([oF 4 RP.bool v0 a_5])
 refine W_loop I8 (n:=fu) ?_ ?_
 exact ij hI8 ⟨a,k,0,hL8,rfl,rfl,rfl,hst⟩
 intro n8 f w_ hI
 obtain ⟨a_5,k_6,i_7,hL8,sf0,sf1,sf5,hst⟩:=ik hI8 hI
 rcases n8 with _ | n8
 exact (while_zero hL8).elim
 obtain ⟨o8,hB8,hL8⟩:=while_succ hL8
 rw [l_markBoolS_b1] at hB8
 refine W_seq (sq (mF sf5 rfl (mF sf0 rfl (L_len rfl Try.underlying24 rfl (Star.len 0 hst rfl) (L_lss rfl rfl rfl (nn (W_cond (b:=decide (i_7 < (a_5.length : Int))) rfl (fun hc9=>?_) (fun hc9=>?_))))))))
 have hB8:=(ite_t hc9).symm.trans hB8
 refine W_skip (W_seq (W_block (W_seq ?_)))
 obtain ⟨x10,hx10,hB8⟩:=bind_some hB8
 refine W_region (mF sf0 rfl (mF sf5 rfl (mF sf1 rfl (L_rem (m:=k_6) (n:=3) rfl rfl rfl (by decide) (L_eql rfl rfl rfl ?_)))))
 obtain ⟨g14,cap_g14,hv15,_,_⟩:=Star.row 0 hst rfl hx10
 refine L_ixO (R:=(OR.frz RP.bool)) (tb:=0) 0 rfl Try.underlying24 Try.sizeOf4 rfl hv15 (by first | rfl | simp) rfl hx10 ?_
 have hst:=Star.addF (r:=RP.bool) (cs:=[Bo ((Int.tmod k_6 3) == 0)]) (x:=((Int.tmod k_6 3) == 0)) hst rfl
 refine L_stE1 (u:=Bo ((Int.tmod k_6 3) == 0)) rfl Try.sizeOf4 rfl rfl rfl hv15 hst hx10 (fun w16 hst=>?_)
 refine nn (W_region (mF sf1 rfl (L_add rfl rfl rfl (aI rfl (nn (W_region (mF sf5 rfl (L_add rfl rfl rfl (aI rfl (nn ?_))))))))))
 obtain rfl:=so hB8
 show ∃ m,m < _∧I8 m _ _
 refine ⟨n8,Nat.lt_succ_self _,?_⟩
 exact ij hI8 ⟨(a_5.set (Int.toNat i_7) ((Int.tmod k_6 3) == 0)),i64 (k_6 + 1),i64 (i_7 + 1),hL8,sf0,rfl,rfl,hst⟩
 have hB8:=(ite_f hc9).symm.trans hB8
 refine W_exit ?_
 obtain rfl:=so hB8
 obtain rfl:=so hL8
 exact rj hR8 ⟨a_5,k_6,i_7,rfl,sf1,hst⟩
 intro f w_ hR
 obtain ⟨a_5,k_6,i_7,rfl,sf1,hst⟩:=rk hR8 hR
 refine sq (mF sf1 rfl (aI rfl (nn (W_ret (retG1 (v1:=I k_6) Try.results36 rfl ?_)))))
 obtain rfl:=so hF
 exact ⟨rfl,hst⟩
theorem l_markStepS_c {fu : Nat} {a : List Step} {k : Int} {v0 : Value} {H : FH} {w : World} (hst : Star H w [oS 93 (oStep 112) v0 a]) {r : Int × (List Step)} (hF : l_markStepS fu a k = some r) :
 C Try.prog 37 #[v0,I k] w fun v w'=>v = I r.1∧Star H w' [oS 93 (oStep 112) v0 r.2]:=by
 unfold l_markStepS at hF
 refine C_enter Try.func37 rfl Try.ntmps37 rfl (sq (aI rfl (nq (sq (aI rfl (nn ?_))))))
 obtain ⟨j8,hL8,hF⟩:=bind_some hF
 obtain ⟨R8,hR8⟩:=exR fun f w_=>∃ a_5 : List Step,∃ k_6 : Int,∃ i_7 : Int,j8 = .nx (a_5,k_6,i_7)∧f 1 = I k_6∧Star H w_ ([oS 93 (oStep 112) v0 a_5])
 refine W_join R8 ?_ ?_
 refine W_block ?_
 obtain ⟨I8,hI8⟩:=exI fun n f w_=>∃ a_5 : List Step,∃ k_6 : Int,∃ i_7 : Int,whileL (l_markStepS_b1 fu a) n (a_5,k_6,i_7) = some j8∧f 0 = v0∧f 1 = I k_6∧f 5 = I i_7∧Star H w_ ([oS 93 (oStep 112) v0 a_5])
 refine W_loop I8 (n:=fu) ?_ ?_
 exact ij hI8 ⟨a,k,0,hL8,rfl,rfl,rfl,hst⟩
 intro n8 f w_ hI
 obtain ⟨a_5,k_6,i_7,hL8,sf0,sf1,sf5,hst⟩:=ik hI8 hI
 rcases n8 with _ | n8
 exact (while_zero hL8).elim
 obtain ⟨o8,hB8,hL8⟩:=while_succ hL8
 rw [l_markStepS_b1] at hB8
 refine W_seq (sq (mF sf5 rfl (mF sf0 rfl (L_len rfl Try.underlying30 rfl (Star.len 0 hst rfl) (L_lss rfl rfl rfl (nn (W_cond (b:=decide (i_7 < (a_5.length : Int))) rfl (fun hc9=>?_) (fun hc9=>?_))))))))
 have hB8:=(ite_t hc9).symm.trans hB8
 refine W_skip (W_seq (W_block (W_seq ?_)))
 obtain ⟨x10,hx10,hB8⟩:=bind_some hB8
 refine W_region (mF sf0 rfl (mF sf5 rfl (mF sf1 rfl ?_)))
 obtain ⟨g14,cap_g14,hv15,_,_⟩:=Star.row 0 hst rfl hx10
 refine L_ixO (R:=(oStep 112)) (tb:=0) 0 rfl Try.underlying30 Try.sizeOf93 rfl hv15 (by first | rfl | simp) rfl hx10 (fA (Int.toNat i_7 * 5 + 0) fa_93_0 rfl rfl (L_stF (j:=0) (u:=I k_6) (z:={ x10 with kind:=k_6 }) rfl Try.sizeOf3 rfl rfl rfl rfl hv15 hst hx10 fld_oStep_0 (fun w16 hst=>ns (mF sf1 rfl (L_add rfl rfl rfl (aI rfl (nq ?_)))))))
 obtain ⟨x17,hx17,hB8⟩:=bind_some hB8
 refine W_region (mF sf0 rfl (mF sf5 rfl (mI rfl (L_ixO (R:=(oStep 112)) (tb:=0) 0 rfl Try.underlying30 Try.sizeOf93 rfl hv15 (by first | rfl | simp) rfl hx17 (fA (Int.toNat i_7 * 5 + 1) fa_93_1 rfl rfl (L_stF (j:=1) (u:=I (i64 (k_6 + 1))) (z:={ x17 with a:=i64 (k_6 + 1) }) rfl Try.sizeOf3 rfl rfl rfl rfl hv15 hst hx17 fld_oStep_1 (fun w19 hst=>ns (mI rfl (L_add rfl rfl rfl (aI rfl (nq ?_)))))))))))
 obtain ⟨x20,hx20,hB8⟩:=bind_some hB8
 refine W_region (mF sf0 rfl (mF sf5 rfl (mI rfl (L_ixO (R:=(oStep 112)) (tb:=0) 0 rfl Try.underlying30 Try.sizeOf93 rfl hv15 (by first | rfl | simp) rfl hx20 (fA (Int.toNat i_7 * 5 + 2) fa_93_2 rfl rfl (L_stF (j:=2) (u:=I (i64 ((i64 (k_6 + 1)) + 1))) (z:={ x20 with b:=i64 ((i64 (k_6 + 1)) + 1) }) rfl Try.sizeOf3 rfl rfl rfl rfl hv15 hst hx20 fld_oStep_2 (fun w22 hst=>ns (mI rfl (L_add rfl rfl rfl (aI rfl (nq ?_)))))))))))
 obtain ⟨x23,hx23,hB8⟩:=bind_some hB8
 obtain ⟨x31,hx31,hB8⟩:=bind_some hB8
 refine W_region (mF sf0 rfl (mF sf5 rfl (L_ixO (R:=(oStep 112)) (tb:=0) 0 rfl Try.underlying30 Try.sizeOf93 rfl hv15 (by first | rfl | simp) rfl hx23 (fA (Int.toNat i_7 * 5 + 3) fa_93_3 rfl rfl (fA (Int.toNat i_7 * 5 + 3) fa_43_0 rfl rfl ?_)))))
 obtain ⟨cs33,hst,hat33⟩:=Star.focus hst hx23
 have hat33:=hat33 _ _ _ hv15
 obtain ⟨u33_0,rfl,hst⟩:=oStep_open hst
 refine L_ld rfl Try.isAgg41 rfl (At.cell hat33 (j:=3) rfl) (mI rfl ?_)
 obtain ⟨H35b,l36,s37,z38,k39⟩:=hst.lend [_]
 refine L_call rfl Try.call81 (ops2 rfl rfl) (l_markTermS_c (a:=x23.given.terms) (k:=i64 ((i64 ((i64 (k_6 + 1)) + 1)) + 1)) s37 hx31) ?_
 rintro _ w40 ⟨rfl,hst⟩
 have hst:=k39 hst (co closed_term c0)
 refine aI rfl (nq ?_)
 have hst:=oStep_close (s:=({ kind:=x23.kind,a:=x23.a,b:=x23.b,given:=({ terms:=x31.2,bound:=x23.given.bound } : Con) } : Step)) hst
 have hst:=Star.unfocus (x':=({ kind:=x23.kind,a:=x23.a,b:=x23.b,given:=({ terms:=x31.2,bound:=x23.given.bound } : Con) } : Step)) (idx_some hx23).2.2 hst
 obtain ⟨x41,hx41,hB8⟩:=bind_some hB8
 refine W_region (mF sf0 rfl (mF sf5 rfl (mI rfl (L_ixO (R:=(oStep 112)) (tb:=0) 0 rfl Try.underlying30 Try.sizeOf93 rfl hv15 (by first | rfl | simp) rfl hx41 (fA (Int.toNat i_7 * 5 + 3) fa_93_3 rfl rfl (fA (Int.toNat i_7 * 5 + 4) fa_43_1 rfl rfl (L_stF (j:=4) (u:=I x31.1) (z:={ x41 with given:={ x41.given with bound:=x31.1 } }) rfl Try.sizeOf3 rfl rfl rfl rfl hv15 hst hx41 fld_oStep_4 (fun w43 hst=>nn (W_region (mI rfl (L_add rfl rfl rfl (aI rfl (nn (W_region (mF sf5 rfl (L_add rfl rfl rfl (aI rfl (nn ?_))))))))))))))))))
 obtain rfl:=so hB8
 show ∃ m,m < _∧I8 m _ _
 refine ⟨n8,Nat.lt_succ_self _,?_⟩
 exact ij hI8 ⟨(((((a_5.set (Int.toNat i_7) ({ x10 with kind:=k_6 })).set (Int.toNat i_7) ({ x17 with a:=i64 (k_6 + 1) })).set (Int.toNat i_7) ({ x20 with b:=i64 ((i64 (k_6 + 1)) + 1) })).set (Int.toNat i_7) ({ kind:=x23.kind,a:=x23.a,b:=x23.b,given:=({ terms:=x31.2,bound:=x23.given.bound } : Con) } : Step)).set (Int.toNat i_7) ({ x41 with given:={ x41.given with bound:=x31.1 } })),i64 (x31.1 + 1),i64 (i_7 + 1),hL8,sf0,rfl,rfl,hst⟩
 have hB8:=(ite_f hc9).symm.trans hB8
 refine W_exit ?_
 obtain rfl:=so hB8
 obtain rfl:=so hL8
 exact rj hR8 ⟨a_5,k_6,i_7,rfl,sf1,hst⟩
 intro f w_ hR
 obtain ⟨a_5,k_6,i_7,rfl,sf1,hst⟩:=rk hR8 hR
 refine sq (mF sf1 rfl (aI rfl (nn (W_ret (retG1 (v1:=I k_6) Try.results37 rfl ?_)))))
 obtain rfl:=so hF
 exact ⟨rfl,hst⟩
theorem l_heldBoolS_c {a : List Bool} {k : Int} {v0 : Value} {H : FH} {w : World} (hst : Star H w []) (h0 : (rS 4 RP.bool).rel H [v0] a) {r : Int} (hF : l_heldBoolS a k = some r) :
 C Try.prog 38 #[v0,I k] w fun v w'=>v = I r∧Star H w' []:=by
 unfold l_heldBoolS at hF
 refine C_enter Try.func38 rfl Try.ntmps38 rfl (sq (aI rfl (nq (sq (aI rfl (nn ?_))))))
 have hlen3 : List.length a≤9223372036854775807:=len_le (slice_len h0)
 obtain ⟨j3,hL3,hF⟩:=bind_some hF
 obtain ⟨R3,hR3⟩:=exR fun f w_=>∃ k_2 : Int,j3 = .nx k_2∧f 1 = I k_2∧Star H w_ ([])
 refine W_join R3 ?_ ?_
 refine W_block ?_
 obtain ⟨I3,hI3⟩:=exI fun n f w_=>∃ i_1 : Nat,∃ suf3 : List Bool,∃ k_2 : Int,n = suf3.length∧List.drop i_1 a = suf3∧i_1 + suf3.length = a.length∧rangeL l_heldBoolS_b1 suf3 i_1 k_2 = some j3∧f 0 = v0∧f 1 = I k_2∧f 5 = I i_1∧Star H w_ ([])
 refine W_loop I3 (n:=a.length) ?_ ?_
 exact ij hI3 ⟨0,a,k,rfl,rfl,Nat.zero_add _,hL3,rfl,rfl,rfl,hst⟩
 intro n3 f w_ hI
 obtain ⟨i_1,suf3,k_2,rfl,hd3,hl3,hL3,sf0,sf1,sf5,hst⟩:=ik hI3 hI
 refine W_seq (sq (mF sf5 rfl (mF sf0 rfl (L_len rfl Try.underlying24 rfl (slice_len h0) (L_lss rfl rfl rfl (nn (W_cond (b:=decide ((i_1 : Int) < (a.length : Int))) rfl (fun hc4=>?_) (fun hc4=>?_))))))))
 have hlt3:=of_decide_eq_true hc4
 rcases suf3 with _ | ⟨x_3,rest3⟩
 exact absurd hlt3 (by simp at hl3; omega)
 obtain ⟨o3,hB3,hL3⟩:=range_cons hL3
 rw [l_heldBoolS_b1] at hB3
 have hix3:=drop_idx hd3
 refine W_skip (W_seq (W_block (W_seq (sq (mF sf0 rfl (mF sf5 rfl (L_ix (r:=RP.bool) rfl Try.underlying24 Try.sizeOf4 rfl h0 rfl hix3 (fun g9 o10 cs_g9 hrk_hat11 hat11=>?_))))))))
 obtain rfl : _ = [_]:=hrk_hat11
 refine L_ld rfl Try.isAgg4 rfl (At.cell (AtH.at hat11 hst.sub) (j:=0) rfl) (mF sf1 rfl (L_rem (m:=k_2) (n:=3) rfl rfl rfl (by decide) (L_eql rfl rfl rfl (L_bneq (b:=x_3) (c:=((Int.tmod k_2 3) == 0)) rfl Try.underlying4 rfl rfl (nn (W_cond (b:=(x_3 != ((Int.tmod k_2 3) == 0))) rfl (fun hc13=>?_) (fun hc13=>?_)))))))
 have hB3:=(ite_t hc13).symm.trans hB3
 refine sq (aI rfl (nn (W_ret (retG1 (v1:=I (-1)) Try.results38 rfl ?_))))
 obtain rfl:=so hB3
 obtain rfl:=so hL3
 obtain rfl:=so hF
 exact ⟨rfl,hst⟩
 have hB3:=(ite_f hc13).symm.trans hB3
 refine W_skip (W_region (mF sf1 rfl (L_add rfl rfl rfl (aI rfl (nn (W_region (mF sf5 rfl (L_add rfl rfl rfl (aI rfl (nn ?_))))))))))
 obtain rfl:=so hB3
 show ∃ m,m < _∧I3 m _ _
 refine ⟨rest3.length,by simp,?_⟩
 exact ij hI3 ⟨i_1 + 1,rest3,i64 (k_2 + 1),rfl,drop_next hd3,by simp at hl3; omega,hL3,sf0,rfl,(Eq.trans rfl (congrArg (Value.int .i64) (i64_succ (n:=a.length) (by simp at hl3; omega) hlen3))),hst⟩
 rcases suf3 with _ | ⟨_,_⟩
 obtain rfl:=range_nil hL3
 refine W_exit (rj hR3 ⟨k_2,rfl,sf1,hst⟩)
 exact absurd (of_decide_eq_false hc4) (by simp at hl3; omega)
 intro f w_ hR
 obtain ⟨k_2,rfl,sf1,hst⟩:=rk hR3 hR
 refine sq (mF sf1 rfl (aI rfl (nn (W_ret (retG1 (v1:=I k_2) Try.results38 rfl ?_)))))
 obtain rfl:=so hF
 exact ⟨rfl,hst⟩
theorem l_heldTermS_c {a : List Term} {k : Int} {v0 : Value} {H : FH} {w : World} (hst : Star H w []) (h0 : (rS 112 rTerm).rel H [v0] a) {r : Int} (hF : l_heldTermS a k = some r) :
 C Try.prog 82 #[v0,I k] w fun v w'=>v = I r∧Star H w' []:=by
 unfold l_heldTermS at hF
 refine C_enter Try.func82 rfl Try.ntmps82 rfl (sq (aI rfl (nq (sq (aI rfl (nn ?_))))))
 have hlen3 : List.length a≤9223372036854775807:=len_le (slice_len h0)
 obtain ⟨j3,hL3,hF⟩:=bind_some hF
 obtain ⟨R3,hR3⟩:=exR fun f w_=>∃ k_2 : Int,j3 = .nx k_2∧f 1 = I k_2∧Star H w_ ([])
 refine W_join R3 ?_ ?_
 refine W_block ?_
 obtain ⟨I3,hI3⟩:=exI fun n f w_=>∃ i_1 : Nat,∃ suf3 : List Term,∃ k_2 : Int,n = suf3.length∧List.drop i_1 a = suf3∧i_1 + suf3.length = a.length∧rangeL l_heldTermS_b1 suf3 i_1 k_2 = some j3∧f 0 = v0∧f 1 = I k_2∧f 5 = I i_1∧Star H w_ ([])
 refine W_loop I3 (n:=a.length) ?_ ?_
 exact ij hI3 ⟨0,a,k,rfl,rfl,Nat.zero_add _,hL3,rfl,rfl,rfl,hst⟩
 intro n3 f w_ hI
 obtain ⟨i_1,suf3,k_2,rfl,hd3,hl3,hL3,sf0,sf1,sf5,hst⟩:=ik hI3 hI
 refine W_seq (sq (mF sf5 rfl (mF sf0 rfl (L_len rfl Try.underlying41 rfl (slice_len h0) (L_lss rfl rfl rfl (nn (W_cond (b:=decide ((i_1 : Int) < (a.length : Int))) rfl (fun hc4=>?_) (fun hc4=>?_))))))))
 have hlt3:=of_decide_eq_true hc4
 rcases suf3 with _ | ⟨x_3,rest3⟩
 exact absurd hlt3 (by simp at hl3; omega)
 obtain ⟨o3,hB3,hL3⟩:=range_cons hL3
 rw [l_heldTermS_b1] at hB3
 have hix3:=drop_idx hd3
 refine W_skip (W_seq (W_block (W_seq (sq (mF sf0 rfl (mF sf5 rfl (L_ix (r:=rTerm) rfl Try.underlying41 Try.sizeOf112 rfl h0 rfl hix3 (fun g9 o10 cs_g9 hrk_hat11 hat11=>?_))))))))
 obtain rfl:=rTerm_iff.1 hrk_hat11
 refine fA o10 fa_112_0 rfl rfl (L_ld rfl Try.isAgg3 rfl (At.cell (AtH.at hat11 hst.sub) (j:=0) rfl) (mF sf1 rfl (L_neq rfl rfl rfl (nn (W_cond (b:=(x_3.coef != k_2)) rfl (fun hc13=>?_) (fun hc13=>?_))))))
 have hB3:=(ite_t hc13).symm.trans hB3
 refine sq (aI rfl (nn (W_ret (retG1 (v1:=I (-1)) Try.results82 rfl ?_))))
 obtain rfl:=so hB3
 obtain rfl:=so hL3
 obtain rfl:=so hF
 exact ⟨rfl,hst⟩
 have hB3:=(ite_f hc13).symm.trans hB3
 refine W_skip (sq (mF sf1 rfl (L_add rfl rfl rfl (aI rfl (nq (sq (mF sf0 rfl (mF sf5 rfl (L_ix (r:=rTerm) rfl Try.underlying41 Try.sizeOf112 rfl h0 rfl hix3 (fun g18 o19 cs_g18 hrk_hat20 hat20=>?_))))))))))
 obtain rfl:=rTerm_iff.1 hrk_hat20
 refine fA (o19 + 1) fa_112_1 rfl rfl (L_ld rfl Try.isAgg3 rfl (At.cell (AtH.at hat20 hst.sub) (j:=1) rfl) (mI rfl (L_neq rfl rfl rfl (nn (W_cond (b:=(x_3.lit != (i64 (k_2 + 1)))) rfl (fun hc22=>?_) (fun hc22=>?_))))))
 have hB3:=(ite_t hc22).symm.trans hB3
 refine sq (aI rfl (nn (W_ret (retG1 (v1:=I (-1)) Try.results82 rfl ?_))))
 obtain rfl:=so hB3
 obtain rfl:=so hL3
 obtain rfl:=so hF
 exact ⟨rfl,hst⟩
 have hB3:=(ite_f hc22).symm.trans hB3
 refine W_skip (W_region (mI rfl (L_add rfl rfl rfl (aI rfl (nn (W_region (mF sf5 rfl (L_add rfl rfl rfl (aI rfl (nn ?_))))))))))
 obtain rfl:=so hB3
 show ∃ m,m < _∧I3 m _ _
 refine ⟨rest3.length,by simp,?_⟩
 exact ij hI3 ⟨i_1 + 1,rest3,i64 ((i64 (k_2 + 1)) + 1),rfl,drop_next hd3,by simp at hl3; omega,hL3,sf0,rfl,(Eq.trans rfl (congrArg (Value.int .i64) (i64_succ (n:=a.length) (by simp at hl3; omega) hlen3))),hst⟩
 rcases suf3 with _ | ⟨_,_⟩
 obtain rfl:=range_nil hL3
 refine W_exit (rj hR3 ⟨k_2,rfl,sf1,hst⟩)
 exact absurd (of_decide_eq_false hc4) (by simp at hl3; omega)
 intro f w_ hR
 obtain ⟨k_2,rfl,sf1,hst⟩:=rk hR3 hR
 refine sq (mF sf1 rfl (aI rfl (nn (W_ret (retG1 (v1:=I k_2) Try.results82 rfl ?_)))))
 obtain rfl:=so hF
 exact ⟨rfl,hst⟩
theorem l_heldStepS_c {a : List Step} {k : Int} {v0 : Value} {H : FH} {w : World} (hst : Star H w []) (h0 : (rS 93 (rStep 112)).rel H [v0] a) {r : Int} (hF : l_heldStepS a k = some r) :
 C Try.prog 39 #[v0,I k] w fun v w'=>v = I r∧Star H w' []:=by
 unfold l_heldStepS at hF
 refine C_enter Try.func39 rfl Try.ntmps39 rfl (sq (aI rfl (nq (sq (aI rfl (nn ?_))))))
 have hlen3 : List.length a≤9223372036854775807:=len_le (slice_len h0)
 obtain ⟨j3,hL3,hF⟩:=bind_some hF
 obtain ⟨R3,hR3⟩:=exR fun f w_=>∃ k_2 : Int,j3 = .nx k_2∧f 1 = I k_2∧Star H w_ ([])
 refine W_join R3 ?_ ?_
 refine W_block ?_
 obtain ⟨I3,hI3⟩:=exI fun n f w_=>∃ i_1 : Nat,∃ suf3 : List Step,∃ k_2 : Int,n = suf3.length∧List.drop i_1 a = suf3∧i_1 + suf3.length = a.length∧rangeL (l_heldStepS_b1 a) suf3 i_1 k_2 = some j3∧f 0 = v0∧f 1 = I k_2∧f 5 = I i_1∧Star H w_ ([])
 refine W_loop I3 (n:=a.length) ?_ ?_
 exact ij hI3 ⟨0,a,k,rfl,rfl,Nat.zero_add _,hL3,rfl,rfl,rfl,hst⟩
 intro n3 f w_ hI
 obtain ⟨i_1,suf3,k_2,rfl,hd3,hl3,hL3,sf0,sf1,sf5,hst⟩:=ik hI3 hI
 refine W_seq (sq (mF sf5 rfl (mF sf0 rfl (L_len rfl Try.underlying30 rfl (slice_len h0) (L_lss rfl rfl rfl (nn (W_cond (b:=decide ((i_1 : Int) < (a.length : Int))) rfl (fun hc4=>?_) (fun hc4=>?_))))))))
 have hlt3:=of_decide_eq_true hc4
 rcases suf3 with _ | ⟨x_3,rest3⟩
 exact absurd hlt3 (by simp at hl3; omega)
 obtain ⟨o3,hB3,hL3⟩:=range_cons hL3
 rw [l_heldStepS_b1] at hB3
 have hix3:=drop_idx hd3
 refine W_skip (W_seq (W_block (W_seq (sq (mF sf0 rfl (mF sf5 rfl (L_ix (r:=(rStep 112)) rfl Try.underlying30 Try.sizeOf93 rfl h0 rfl hix3 (fun g9 o10 cs_g9 hrk_hat11 hat11=>?_))))))))
 obtain ⟨u12_0,rfl,hu12_0⟩:=rStep_iff.1 hrk_hat11
 refine fA o10 fa_93_0 rfl rfl (L_ld rfl Try.isAgg3 rfl (At.cell (AtH.at hat11 hst.sub) (j:=0) rfl) (mF sf1 rfl (L_neq rfl rfl rfl (nn (W_cond (b:=(x_3.kind != k_2)) rfl (fun hc13=>?_) (fun hc13=>?_))))))
 have hB3:=(ite_t hc13).symm.trans hB3
 refine sq (aI rfl (nn (W_ret (retG1 (v1:=I (-1)) Try.results39 rfl ?_))))
 obtain rfl:=so hB3
 obtain rfl:=so hL3
 obtain rfl:=so hF
 exact ⟨rfl,hst⟩
 have hB3:=(ite_f hc13).symm.trans hB3
 refine W_skip (sq (mF sf1 rfl (L_add rfl rfl rfl (aI rfl (nq (sq (mF sf0 rfl (mF sf5 rfl (L_ix (r:=(rStep 112)) rfl Try.underlying30 Try.sizeOf93 rfl h0 rfl hix3 (fun g18 o19 cs_g18 hrk_hat20 hat20=>?_))))))))))
 obtain ⟨u21_0,rfl,hu21_0⟩:=rStep_iff.1 hrk_hat20
 refine fA (o19 + 1) fa_93_1 rfl rfl (L_ld rfl Try.isAgg3 rfl (At.cell (AtH.at hat20 hst.sub) (j:=1) rfl) (mI rfl (L_neq rfl rfl rfl (nn (W_cond (b:=(x_3.a != (i64 (k_2 + 1)))) rfl (fun hc22=>?_) (fun hc22=>?_))))))
 have hB3:=(ite_t hc22).symm.trans hB3
 refine sq (aI rfl (nn (W_ret (retG1 (v1:=I (-1)) Try.results39 rfl ?_))))
 obtain rfl:=so hB3
 obtain rfl:=so hL3
 obtain rfl:=so hF
 exact ⟨rfl,hst⟩
 have hB3:=(ite_f hc22).symm.trans hB3
 refine W_skip (sq (mI rfl (L_add rfl rfl rfl (aI rfl (nq (sq (mF sf0 rfl (mF sf5 rfl (L_ix (r:=(rStep 112)) rfl Try.underlying30 Try.sizeOf93 rfl h0 rfl hix3 (fun g27 o28 cs_g27 hrk_hat29 hat29=>?_))))))))))
 obtain ⟨u30_0,rfl,hu30_0⟩:=rStep_iff.1 hrk_hat29
 refine fA (o28 + 2) fa_93_2 rfl rfl (L_ld rfl Try.isAgg3 rfl (At.cell (AtH.at hat29 hst.sub) (j:=2) rfl) (mI rfl (L_neq rfl rfl rfl (nn (W_cond (b:=(x_3.b != (i64 ((i64 (k_2 + 1)) + 1)))) rfl (fun hc31=>?_) (fun hc31=>?_))))))
 have hB3:=(ite_t hc31).symm.trans hB3
 refine sq (aI rfl (nn (W_ret (retG1 (v1:=I (-1)) Try.results39 rfl ?_))))
 obtain rfl:=so hB3
 obtain rfl:=so hL3
 obtain rfl:=so hF
 exact ⟨rfl,hst⟩
 have hB3:=(ite_f hc31).symm.trans hB3
 refine W_skip (sq (mI rfl (L_add rfl rfl rfl (aI rfl (nq ?_)))))
 obtain ⟨x41,hx41,hB3⟩:=bind_some hB3
 refine W_region (mF sf0 rfl (mF sf5 rfl (L_ix (r:=(rStep 112)) rfl Try.underlying30 Try.sizeOf93 rfl h0 rfl hix3 (fun g43 o44 cs_g43 hrk_hat45 hat45=>?_))))
 obtain ⟨u46_0,rfl,hu46_0⟩:=rStep_iff.1 hrk_hat45
 refine fA (o44 + 3) fa_93_3 rfl rfl (fA (o44 + 3) fa_43_0 rfl rfl (L_ld rfl Try.isAgg41 rfl (At.cell (AtH.at hat45 hst.sub) (j:=3) rfl) (mI rfl ?_)))
 obtain ⟨H47b,l48,s49,z50,k51⟩:=hst.borrow
 refine L_call rfl Try.call82 (ops2 rfl rfl) (l_heldTermS_c (a:=x_3.given.terms) (k:=i64 ((i64 ((i64 (k_2 + 1)) + 1)) + 1)) s49 (RP.mono _ hu46_0 l48) hx41) ?_
 rintro _ w52 ⟨rfl,hst⟩
 have hst:=k51 hst c0
 refine aI rfl (nq (sq (mI rfl (L_lss rfl rfl rfl (nn (W_cond (b:=decide (x41 < 0)) rfl (fun hc53=>?_) (fun hc53=>?_)))))))
 have hB3:=(ite_t hc53).symm.trans hB3
 refine sq (aI rfl (nn (W_ret (retG1 (v1:=I (-1)) Try.results39 rfl ?_))))
 obtain rfl:=so hB3
 obtain rfl:=so hL3
 obtain rfl:=so hF
 exact ⟨rfl,hst⟩
 have hB3:=(ite_f hc53).symm.trans hB3
 refine W_skip (W_seq (sq (mF sf0 rfl (mF sf5 rfl (L_ix (r:=(rStep 112)) rfl Try.underlying30 Try.sizeOf93 rfl h0 rfl hix3 (fun g58 o59 cs_g58 hrk_hat60 hat60=>?_))))))
 obtain ⟨u61_0,rfl,hu61_0⟩:=rStep_iff.1 hrk_hat60
 refine fA (o59 + 3) fa_93_3 rfl rfl (fA (o59 + 4) fa_43_1 rfl rfl (L_ld rfl Try.isAgg3 rfl (At.cell (AtH.at hat60 hst.sub) (j:=4) rfl) (mI rfl (L_neq rfl rfl rfl (nn (W_cond (b:=(x_3.given.bound != x41)) rfl (fun hc62=>?_) (fun hc62=>?_)))))))
 have hB3:=(ite_t hc62).symm.trans hB3
 refine sq (aI rfl (nn (W_ret (retG1 (v1:=I (-1)) Try.results39 rfl ?_))))
 obtain rfl:=so hB3
 obtain rfl:=so hL3
 obtain rfl:=so hF
 exact ⟨rfl,hst⟩
 have hB3:=(ite_f hc62).symm.trans hB3
 refine W_skip (W_region (mI rfl (L_add rfl rfl rfl (aI rfl (nn (W_region (mF sf5 rfl (L_add rfl rfl rfl (aI rfl (nn ?_))))))))))
 obtain rfl:=so hB3
 show ∃ m,m < _∧I3 m _ _
 refine ⟨rest3.length,by simp,?_⟩
 exact ij hI3 ⟨i_1 + 1,rest3,i64 (x41 + 1),rfl,drop_next hd3,by simp at hl3; omega,hL3,sf0,rfl,(Eq.trans rfl (congrArg (Value.int .i64) (i64_succ (n:=a.length) (by simp at hl3; omega) hlen3))),hst⟩
 rcases suf3 with _ | ⟨_,_⟩
 obtain rfl:=range_nil hL3
 refine W_exit (rj hR3 ⟨k_2,rfl,sf1,hst⟩)
 exact absurd (of_decide_eq_false hc4) (by simp at hl3; omega)
 intro f w_ hR
 obtain ⟨k_2,rfl,sf1,hst⟩:=rk hR3 hR
 refine sq (mF sf1 rfl (aI rfl (nn (W_ret (retG1 (v1:=I k_2) Try.results39 rfl ?_)))))
 obtain rfl:=so hF
 exact ⟨rfl,hst⟩
theorem l_markConstraint_c {fu : Nat} {a : Con} {k : Int} {v0_0 : Value} {H : FH} {w : World} (hst : Star H w [oF 112 rTerm v0_0 a.terms]) {r : Int × Con} (hF : l_markConstraint fu a k = some r) :
 C Try.prog 44 #[.agg #[v0_0,I a.bound],I k] w fun v w'=>v = I r.1∧Star H w' [oF 112 rTerm v0_0 r.2.terms]:=by
 unfold l_markConstraint at hF
 refine C_enter Try.func44 rfl Try.ntmps44 rfl (sq (L_box (v:=.agg #[v0_0,I a.bound]) (cs:=#[v0_0,I a.bound]) rfl rfl rfl hst (fun g3 w4 hst=>aI rfl (nq ?_))))
 obtain ⟨x10,hx10,hF⟩:=bind_some hF
 refine W_region (fA 0 fa_43_0 rfl rfl (ldB 0 hst Try.isAgg41 rfl rfl rfl (mI rfl ?_)))
 have hst:=hst.get 1 rfl
 obtain ⟨H12b,l13,s14,z15,k16⟩:=hst.lend [_]
 refine L_call rfl Try.call81 (ops2 rfl rfl) (l_markTermS_c (a:=a.terms) (k:=k) s14 hx10) ?_
 rintro _ w17 ⟨rfl,hst⟩
 have hst:=k16 hst (co closed_term c0)
 refine aI rfl (ns (mI rfl (aI rfl (nn (W_ret (retG1 (v1:=I x10.1) Try.results44 rfl ?_))))))
 obtain rfl:=so hF
 exact ⟨rfl,(Star.keepN 1 hst)⟩
end Go.Proofs.Yteeilbddjlpiaaa

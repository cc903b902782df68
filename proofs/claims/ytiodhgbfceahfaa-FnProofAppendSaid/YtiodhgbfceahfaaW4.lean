/- Part of a proof by program: W4. -/
import Derived.Test.YtiodhgbfceahfaaD1
import Derived.Test.YtiodhgbfceahfaaW3
namespace Go.Proofs.Ytiodhgbfceahfaa
open Go Go.E Go.L Go.RowKit
set_option linter.unusedVariables false
set_option linter.unusedSimpArgs false
set_option maxRecDepth 100000
theorem l_FnProofAppend_c {fu : Nat} {code : List UInt8} {more : List UInt8} {v0 : Value} {v1 : Value} {H : FH} {w : World} (hst : Star H w []) (h0 : (rS 5 RP.u8).rel H [v0] code) (h1 : (rS 5 RP.u8).rel H [v1] more) {r : Bool} (hF : l_FnProofAppend fu code more = some r) :
 C Try.prog 10 #[v0,v1] w fun v w'=>v = Bo r∧Star H w' []:=by
 unfold l_FnProofAppend at hF
 refine C_enter Try.func10 rfl Try.ntmps10 rfl (sq (aB rfl (nq (W_seq ?_))))
 obtain ⟨R1,hR1⟩:=exR fun f w_=>f 0 = v0∧f 1 = v1∧f 24 = Bo ((decide ((code.length : Int) > 1048576)) || (decide ((more.length : Int) > 1048576)))∧Star H w_ ([])
 refine W_join R1 ?_ ?_
 refine W_region (mV v0 rfl (L_len rfl Try.underlying45 rfl (slice_len h0) (L_gtr rfl rfl rfl (mB rfl (L_split (d:=20) (b:=decide ((code.length : Int) > 1048576)) rfl (fun hc2=>?_) (fun hc2=>?_))))))
 refine ps rfl (ps rfl (ps rfl (L_pick (v:=Bo ((decide ((code.length : Int) > 1048576)) || (decide ((more.length : Int) > 1048576)))) rfl rfl (or_t hc2) (nn (rj hR1 ⟨rfl,rfl,rfl,hst⟩)))))
 refine mV v1 rfl (L_len rfl Try.underlying45 rfl (slice_len h1) (L_gtr rfl rfl rfl (L_pick (v:=Bo ((decide ((code.length : Int) > 1048576)) || (decide ((more.length : Int) > 1048576)))) rfl rfl (or_f hc2 rfl) (nn (rj hR1 ⟨rfl,rfl,rfl,hst⟩)))))
 intro f w_ hR
 obtain ⟨sf0,sf1,sf24,hst⟩:=rk hR1 hR
 refine W_cond (b:=((decide ((code.length : Int) > 1048576)) || (decide ((more.length : Int) > 1048576)))) sf24 (fun hc3=>?_) (fun hc3=>?_)
 have hF:=(ite_t hc3).symm.trans hF
 refine sq (aB rfl (nn (W_ret (retG1 (v1:=Bo true) Try.results10 rfl ?_))))
 obtain rfl:=so hF
 exact ⟨rfl,hst⟩
 have hF:=(ite_f hc3).symm.trans hF
 refine W_skip (W_seq ?_)
 obtain ⟨x4,hx4,hF⟩:=bind_some hF
 refine W_region (mF sf0 rfl (L_call rfl Try.call33 (ops1 rfl) (s_DrawRunProof_c (code:=code) hst h0 hx4) ?_))
 rintro _ w7 ⟨H7,l7,r7_0,r7_1,rfl,hr7_0,hst⟩
 refine mV (.tuple #[r7_0,r7_1]) rfl (L_ex (v:=r7_0) rfl rfl rfl (L_ex (v:=r7_1) rfl rfl rfl (aV r7_0 rfl (aV r7_1 rfl (nq ?_)))))
 obtain ⟨x15,hx15,hF⟩:=bind_some hF
 refine W_region (mV r7_0 rfl (mV r7_1 rfl ?_))
 obtain ⟨H18b,l19,s20,z21,k22⟩:=hst.borrow
 have hb23 : (rS 63 (rStep 117)).rel H18b [r7_1] x4.2:=fz_own 0 z21 rfl
 refine L_call rfl Try.call34 (ops2 rfl rfl) (i_RunProof_c (list:=x4.1) (steps:=x4.2) s20 (RP.mono _ hr7_0 l19) hb23 hx15) ?_
 rintro _ w24 ⟨r24_0,rfl,hst⟩
 have hst:=k22 hst (co closed_oCon c0)
 refine mV (.tuple #[r24_0,I x15.2]) rfl (L_ex (v:=r24_0) rfl rfl rfl (L_ex (v:=I x15.2) rfl rfl rfl (aV r24_0 rfl (aI rfl (nq ?_)))))
 obtain ⟨x32,hx32,hF⟩:=bind_some hF
 refine W_region (mV r7_0 rfl (mV r7_1 rfl ?_))
 obtain ⟨H35b,l36,s37,z38,k39⟩:=hst.borrow
 have hb40 : (rS 63 (rStep 117)).rel H35b [r7_1] x4.2:=fz_own 1 z38 rfl
 refine L_call rfl Try.call35 (ops2 rfl rfl) (s_RunProof_c (list:=x4.1) (steps:=x4.2) s37 (RP.mono _ hr7_0 l36) hb40 hx32) ?_
 rintro _ w41 ⟨r41_0,rfl,hst⟩
 have hst:=k39 hst (co closed_oCon c0)
 refine mV (.tuple #[r41_0,I x32.2]) rfl (L_ex (v:=r41_0) rfl rfl rfl (L_ex (v:=I x32.2) rfl rfl rfl (aV r41_0 rfl (aI rfl (nq (W_seq ?_))))))
 obtain ⟨b52,hb52,hF⟩:=bind_some hF
 obtain ⟨R53,hR53⟩:=exR fun f w_=>f 1 = v1∧f 5 = r7_0∧f 6 = r7_1∧f 7 = r24_0∧f 8 = I x15.2∧f 9 = r41_0∧f 10 = I x32.2∧f 54 = Bo (b52 || (decide (x15.2 ≥ 0)))∧Star H7 w_ ([oF 63 (rStep 117) r7_1 x4.2,oS 41 (oCon 117) r24_0 x15.1,oS 41 (oCon 117) r41_0 x32.1])
 refine W_join R53 ?_ ?_
 refine W_region (mI rfl (mI rfl (L_neq rfl rfl rfl (mB rfl (L_split (d:=45) (b:=(x15.2 != x32.2)) rfl (fun hc54=>?_) (fun hc54=>?_))))))
 rw [ite_t hc54] at hb52
 refine ps rfl (ps rfl (ps rfl (ps rfl (L_pick (v:=Bo b52) rfl rfl (congrArg Value.bool (so hb52)) (mB rfl (L_split (d:=51) (b:=b52) rfl (fun hc55=>?_) (fun hc55=>?_)))))))
 refine ps rfl (ps rfl (L_pick (v:=Bo (b52 || (decide (x15.2 ≥ 0)))) rfl rfl (or_t hc55) (nn ?_)))
 have hst:=hst.gets [1,2] rfl
 exact rj hR53 ⟨sf1,rfl,rfl,rfl,rfl,rfl,rfl,rfl,hst⟩
 refine mI rfl (L_geq rfl rfl rfl (L_pick (v:=Bo (b52 || (decide (x15.2 ≥ 0)))) rfl rfl (or_f hc55 rfl) (nn ?_)))
 have hst:=hst.gets [1,2] rfl
 exact rj hR53 ⟨sf1,rfl,rfl,rfl,rfl,rfl,rfl,rfl,hst⟩
 rw [ite_f hc54] at hb52
 obtain ⟨x50,hx50,hb52⟩:=bind_some hb52
 refine mV r24_0 rfl (mV r41_0 rfl ?_)
 obtain ⟨H56b,l57,s58,z59,k60⟩:=hst.borrow
 have hb61 : (rS 41 (rCon 117)).rel H56b [r24_0] x15.1:=fz_own 1 z59 rfl
 have hb62 : (rS 41 (rCon 117)).rel H56b [r41_0] x32.1:=fz_own 0 z59 rfl
 refine L_call rfl Try.call36 (ops2 rfl rfl) (l_cpProblem_c (a:=x15.1) (b:=x32.1) s58 hb61 hb62 hx50) ?_
 rintro _ w63 ⟨rfl,hst⟩
 have hst:=k60 hst c0
 refine L_not_ rfl rfl (L_pick (v:=Bo b52) rfl rfl (congrArg Value.bool (so hb52)) (mB rfl (L_split (d:=51) (b:=b52) rfl (fun hc64=>?_) (fun hc64=>?_))))
 refine ps rfl (ps rfl (L_pick (v:=Bo (b52 || (decide (x15.2 ≥ 0)))) rfl rfl (or_t hc64) (nn ?_)))
 have hst:=hst.gets [1,2] rfl
 exact rj hR53 ⟨sf1,rfl,rfl,rfl,rfl,rfl,rfl,rfl,hst⟩
 refine mI rfl (L_geq rfl rfl rfl (L_pick (v:=Bo (b52 || (decide (x15.2 ≥ 0)))) rfl rfl (or_f hc64 rfl) (nn ?_)))
 have hst:=hst.gets [1,2] rfl
 exact rj hR53 ⟨sf1,rfl,rfl,rfl,rfl,rfl,rfl,rfl,hst⟩
 intro f w_ hR
 obtain ⟨sf1,sf5,sf6,sf7,sf8,sf9,sf10,sf54,hst⟩:=rk hR53 hR
 refine W_cond (b:=(b52 || (decide (x15.2 ≥ 0)))) sf54 (fun hc65=>?_) (fun hc65=>?_)
 have hF:=(ite_t hc65).symm.trans hF
 refine W_seq ?_
 obtain ⟨b75,hb75,hF⟩:=bind_some hF
 obtain ⟨R76,hR76⟩:=exR fun f w_=>f 4 = Bo b75∧Star H7 w_ ([])
 refine W_join R76 ?_ ?_
 refine W_region (mF sf8 rfl (mF sf10 rfl (L_eql rfl rfl rfl (mB rfl (L_split (d:=58) (b:=(x15.2 == x32.2)) rfl (fun hc77=>?_) (fun hc77=>?_))))))
 rw [ite_t hc77] at hb75
 obtain ⟨x73,hx73,hb75⟩:=bind_some hb75
 refine mF sf7 rfl (mF sf9 rfl ?_)
 obtain ⟨H78b,l79,s80,z81,k82⟩:=hst.borrow
 have hb83 : (rS 41 (rCon 117)).rel H78b [r24_0] x15.1:=fz_own 1 z81 rfl
 have hb84 : (rS 41 (rCon 117)).rel H78b [r41_0] x32.1:=fz_own 2 z81 rfl
 refine L_call rfl Try.call36 (ops2 rfl rfl) (l_cpProblem_c (a:=x15.1) (b:=x32.1) s80 hb83 hb84 hx73) ?_
 rintro _ w85 ⟨rfl,hst⟩
 have hst:=k82 hst c0
 refine L_pick (v:=Bo b75) rfl rfl (congrArg Value.bool (so hb75)) (aB rfl (nn (rj hR76 ⟨rfl,(Star.keepN 0 hst)⟩)))
 rw [ite_f hc77] at hb75
 refine ps rfl (ps rfl (ps rfl (L_pick (v:=Bo b75) rfl rfl (congrArg Value.bool (so hb75)) (aB rfl (nn (rj hR76 ⟨rfl,(Star.keepN 0 hst)⟩))))))
 intro f w_ hR
 obtain ⟨sf4,hst⟩:=rk hR76 hR
 refine W_ret (retG1 (v1:=Bo b75) Try.results10 sf4 ?_)
 obtain rfl:=so hF
 exact ⟨rfl,(Star.down hst l7 c0)⟩
 have hF:=(ite_f hc65).symm.trans hF
 refine W_skip (W_seq (sq (aI rfl (nn ?_))))
 have hlen87 : List.length x4.2≤9223372036854775807:=len_le (Star.len 0 hst rfl)
 obtain ⟨j87,hL87,hF⟩:=bind_some hF
 obtain ⟨R87,hR87⟩:=exR fun f w_=>j87 = .nx ()∧f 1 = v1∧f 5 = r7_0∧f 6 = r7_1∧f 7 = r24_0∧Star H7 w_ ([oF 63 (rStep 117) r7_1 x4.2,oS 41 (oCon 117) r24_0 x15.1])
 refine W_join R87 ?_ ?_
 refine W_block ?_
 obtain ⟨I87,hI87⟩:=exI fun n f w_=>∃ i_86 : Nat,∃ suf87 : List Step,n = suf87.length∧List.drop i_86 x4.2 = suf87∧i_86 + suf87.length = x4.2.length∧rangeL l_FnProofAppend_b1 suf87 i_86 () = some j87∧f 1 = v1∧f 5 = r7_0∧f 6 = r7_1∧f 7 = r24_0∧f 11 = I i_86∧Star H7 w_ ([oF 63 (rStep 117) r7_1 x4.2,oS 41 (oCon 117) r24_0 x15.1])
 refine W_loop I87 (n:=x4.2.length) ?_ ?_
 exact ij hI87 ⟨0,x4.2,rfl,rfl,Nat.zero_add _,hL87,sf1,sf5,sf6,sf7,rfl,(Star.keepN 2 hst)⟩
 intro n87 f w_ hI
 obtain ⟨i_86,suf87,rfl,hd87,hl87,hL87,sf1,sf5,sf6,sf7,sf11,hst⟩:=ik hI87 hI
 refine W_seq (sq (mF sf11 rfl (mF sf6 rfl (L_len rfl Try.underlying29 rfl (Star.len 0 hst rfl) (L_lss rfl rfl rfl (nn (W_cond (b:=decide ((i_86 : Int) < (x4.2.length : Int))) rfl (fun hc88=>?_) (fun hc88=>?_))))))))
 have hlt87:=of_decide_eq_true hc88
 rcases suf87 with _ | ⟨x_87,rest87⟩
 exact absurd hlt87 (by simp at hl87; omega)
 obtain ⟨o87,hB87,hL87⟩:=range_cons hL87
 rw [l_FnProofAppend_b1] at hB87
 have hix87:=drop_idx hd87
 refine W_skip (W_seq (W_block (sq (mF sf6 rfl (mF sf11 rfl ?_)))))
 obtain ⟨g93,cap_g93,hv94,_,_⟩:=Star.row 0 hst rfl hix87
 refine L_ixO (R:=(OR.frz (rStep 117))) (tb:=0) 0 rfl Try.underlying29 Try.sizeOf63 rfl hv94 (by first | rfl | simp) rfl hix87 (fA (Int.toNat (i_86 : Int) * 5 + 0) fa_63_0 rfl rfl ?_)
 obtain ⟨cs95,hr95,hat95⟩:=Star.eltF 0 hst rfl hv94 hix87
 obtain ⟨u96_0,rfl,hu96_0⟩:=rStep_iff.1 hr95
 refine L_ld rfl Try.isAgg3 rfl (At.cell hat95 (j:=0) rfl) (L_eql rfl rfl rfl (nn (W_cond (b:=(x_87.kind == 8)) rfl (fun hc97=>?_) (fun hc97=>?_))))
 have hB87:=(ite_t hc97).symm.trans hB87
 refine sq (aB rfl (nn (W_ret (retG1 (v1:=Bo true) Try.results10 rfl ?_))))
 obtain rfl:=so hB87
 obtain rfl:=so hL87
 obtain rfl:=so hF
 exact ⟨rfl,(Star.down (Star.keepN 0 hst) l7 c0)⟩
 have hB87:=(ite_f hc97).symm.trans hB87
 refine W_skip (W_region (mF sf11 rfl (L_add rfl rfl rfl (aI rfl (nn ?_)))))
 obtain rfl:=so hB87
 show ∃ m,m < _∧I87 m _ _
 refine ⟨rest87.length,by simp,?_⟩
 exact ij hI87 ⟨i_86 + 1,rest87,rfl,drop_next hd87,by simp at hl87; omega,hL87,sf1,sf5,sf6,sf7,(Eq.trans rfl (congrArg (Value.int .i64) (i64_succ (n:=x4.2.length) (by simp at hl87; omega) hlen87))),hst⟩
 rcases suf87 with _ | ⟨_,_⟩
 obtain rfl:=range_nil hL87
 refine W_exit (rj hR87 ⟨rfl,sf1,sf5,sf6,sf7,hst⟩)
 exact absurd (of_decide_eq_false hc88) (by simp at hl87; omega)
 intro f w_ hR
 obtain ⟨rfl,sf1,sf5,sf6,sf7,hst⟩:=rk hR87 hR
 refine W_seq ?_
 obtain ⟨q98,hq98,hF⟩:=bind_some hF
 refine W_region (mF sf1 rfl (L_len rfl Try.underlying45 rfl (slice_len (RP.mono _ h1 l7)) (mF sf6 rfl (L_len rfl Try.underlying29 rfl (Star.len 0 hst rfl) (L_add rfl rfl rfl (L_rem (m:=(more.length : Int)) (n:=i64 ((x4.2.length : Int) + 1)) rfl rfl rfl (fun he=>by rw [if_pos he] at hq98; cases hq98) (aI rfl (nq ?_))))))))
 obtain ⟨x99,hx99,hF⟩:=bind_some hF
 obtain ⟨x110,hx110,hF⟩:=bind_some hF
 refine W_region (mF sf5 rfl (mF sf6 rfl (mI rfl ?_)))
 obtain ⟨H114,l115,hst,hz116⟩:=Star.freeze hst
 have hz116 : (rS 63 (rStep 117)).rel H114 [r7_1] x4.2:=hz116
 refine L_sl (a:=0) (b:=Int.tmod (more.length : Int) (i64 ((x4.2.length : Int) + 1))) rfl et_29 rfl hz116 rfl rfl hx99 (fun v113 hs117=>?_)
 obtain ⟨H118b,l119,s120,z121,k122⟩:=hst.borrow
 refine L_call rfl Try.call34 (ops2 rfl rfl) (i_RunProof_c (list:=x4.1) (steps:=x99) s120 (RP.mono _ hr7_0 (Le.trans l115 l119)) (RP.mono _ hs117 l119) hx110) ?_
 rintro _ w123 ⟨r123_0,rfl,hst⟩
 have hst:=k122 hst (co closed_oCon c0)
 refine mV (.tuple #[r123_0,I x110.2]) rfl (L_ex (v:=r123_0) rfl rfl rfl (L_ex (v:=I x110.2) rfl rfl rfl (aV r123_0 rfl (aI rfl (nq ?_)))))
 obtain ⟨x125,hx125,hF⟩:=bind_some hF
 obtain ⟨x134,hx134,hF⟩:=bind_some hF
 refine W_region (mV r123_0 rfl (mF sf6 rfl (mI rfl (L_sl (a:=Int.tmod (more.length : Int) (i64 ((x4.2.length : Int) + 1))) (b:=(x4.2.length : Int)) rfl et_29 rfl hz116 rfl rfl hx125 (fun v137 hs138=>?_)))))
 obtain ⟨H139b,l140,s141,z142,k143⟩:=hst.borrow
 have hb144 : (rS 41 (rCon 117)).rel H139b [r123_0] x110.1:=fz_own 0 z142 rfl
 refine L_call rfl Try.call34 (ops2 rfl rfl) (i_RunProof_c (list:=x110.1) (steps:=x125) s141 hb144 (RP.mono _ hs138 l140) hx134) ?_
 rintro _ w145 ⟨r145_0,rfl,hst⟩
 have hst:=k143 hst (co closed_oCon c0)
 refine mV (.tuple #[r145_0,I x134.2]) rfl (L_ex (v:=r145_0) rfl rfl rfl (L_ex (v:=I x134.2) rfl rfl rfl (aV r145_0 rfl (aI rfl (nq ?_)))))
 obtain ⟨b156,hb156,hF⟩:=bind_some hF
 obtain ⟨R157,hR157⟩:=exR fun f w_=>f 4 = Bo b156∧Star H114 w_ ([])
 refine W_join R157 ?_ ?_
 refine W_region (mI rfl (L_eql rfl rfl rfl (mB rfl (L_split (d:=99) (b:=(x110.2 == (-1))) rfl (fun hc158=>?_) (fun hc158=>?_)))))
 refine mI rfl (L_eql rfl rfl rfl (L_pick (v:=Bo ((x110.2 == (-1)) && (x134.2 == (-1)))) rfl rfl (and_t hc158 rfl) (mB rfl (L_split (d:=103) (b:=((x110.2 == (-1)) && (x134.2 == (-1)))) rfl (fun hc159=>?_) (fun hc159=>?_)))))
 rw [ite_t hc159] at hb156
 obtain ⟨x154,hx154,hb156⟩:=bind_some hb156
 refine mV r145_0 rfl (mF sf7 rfl ?_)
 obtain ⟨H160b,l161,s162,z163,k164⟩:=hst.borrow
 have hb165 : (rS 41 (rCon 117)).rel H160b [r145_0] x134.1:=fz_own 0 z163 rfl
 have hb166 : (rS 41 (rCon 117)).rel H160b [r24_0] x15.1:=fz_own 2 z163 rfl
 refine L_call rfl Try.call36 (ops2 rfl rfl) (l_cpProblem_c (a:=x134.1) (b:=x15.1) s162 hb165 hb166 hx154) ?_
 rintro _ w167 ⟨rfl,hst⟩
 have hst:=k164 hst c0
 refine L_pick (v:=Bo b156) rfl rfl (congrArg Value.bool (so hb156)) (aB rfl (nn (rj hR157 ⟨rfl,(Star.keepN 0 hst)⟩)))
 rw [ite_f hc159] at hb156
 refine ps rfl (ps rfl (ps rfl (L_pick (v:=Bo b156) rfl rfl (congrArg Value.bool (so hb156)) (aB rfl (nn (rj hR157 ⟨rfl,(Star.keepN 0 hst)⟩))))))
 refine ps rfl (ps rfl (L_pick (v:=Bo ((x110.2 == (-1)) && (x134.2 == (-1)))) rfl rfl (and_f hc158) (mB rfl (L_split (d:=103) (b:=((x110.2 == (-1)) && (x134.2 == (-1)))) rfl (fun hc168=>?_) (fun hc168=>?_)))))
 rw [ite_t hc168] at hb156
 obtain ⟨x154,hx154,hb156⟩:=bind_some hb156
 refine mV r145_0 rfl (mF sf7 rfl ?_)
 obtain ⟨H169b,l170,s171,z172,k173⟩:=hst.borrow
 have hb174 : (rS 41 (rCon 117)).rel H169b [r145_0] x134.1:=fz_own 0 z172 rfl
 have hb175 : (rS 41 (rCon 117)).rel H169b [r24_0] x15.1:=fz_own 2 z172 rfl
 refine L_call rfl Try.call36 (ops2 rfl rfl) (l_cpProblem_c (a:=x134.1) (b:=x15.1) s171 hb174 hb175 hx154) ?_
 rintro _ w176 ⟨rfl,hst⟩
 have hst:=k173 hst c0
 refine L_pick (v:=Bo b156) rfl rfl (congrArg Value.bool (so hb156)) (aB rfl (nn (rj hR157 ⟨rfl,(Star.keepN 0 hst)⟩)))
 rw [ite_f hc168] at hb156
 refine ps rfl (ps rfl (ps rfl (L_pick (v:=Bo b156) rfl rfl (congrArg Value.bool (so hb156)) (aB rfl (nn (rj hR157 ⟨rfl,(Star.keepN 0 hst)⟩))))))
 intro f w_ hR
 obtain ⟨sf4,hst⟩:=rk hR157 hR
 refine W_ret (retG1 (v1:=Bo b156) Try.results10 sf4 ?_)
 obtain rfl:=so hF
 exact ⟨rfl,(Star.down hst (Le.trans l7 l115) c0)⟩
end Go.Proofs.Ytiodhgbfceahfaa

/- Part of a proof by program: W2. -/
import Derived.Test.YtbjllamkfmejlaaGreatD1
import Derived.Test.YtbjllamkfmejlaaGreatW1
namespace Go.Proofs.YtbjllamkfmejlaaGreat
open Go Go.E Go.L Go.RowKit
set_option linter.unusedVariables false
set_option linter.unusedSimpArgs false
set_option maxRecDepth 100000
theorem i_ClauseOf_c {fu : Nat} {lits : List Int} {v0 : Value} {H : FH} {w : World} (Z : Star H w []) (h0 : (rS 3 RP.int).rel H [v0] lits) {r : Con × Bool} (hF : i_ClauseOf fu lits = some r) :
 C Tryz.prog 48 #[v0] w fun v w'=>∃ (u1 : Value),v = .tuple #[.agg #[u1,I r.1.bound],Bo r.2]∧Star H w' [oF 122 rTerm u1 r.1.terms]:=by
 unfold i_ClauseOf at hF
 refine C_enter Tryz.func48 rfl Tryz.ntmps48 rfl (sq (L_al (cs:=#[S0,I 0]) rfl Tryz.zeroValue73 rfl Z (fun g3 w4 Z=>aB rfl (nq (sq (mV v0 rfl (L_len rfl Tryz.underlying23 rfl (slice_len h0) (L_gtr rfl rfl rfl (nn (W_cond (b:=decide ((lits.length : Int) > 40)) rfl (fun hc5=>?_) (fun hc5=>?_)))))))))))
 have hF:=(ite_t hc5).symm.trans hF
 refine sq (L_bld rfl (parts0 ) (bld_73_  ) (L_staB (vs:=#[S0,I 0]) (cs2:=#[S0,I 0]) 0 rfl Tryz.sizeOf73 rfl rfl rfl (ones_cons rfl (ones_cons rfl ones_nil)) Z rfl (by show 0 + 2≤2; decide) rfl (fun w7 Z=>aB rfl (nn (W_ret (retG2 (v1:=.agg #[S0,I 0]) (v2:=Bo false) Tryz.results48 (resV_agg Tryz.isAgg73 Tryz.sizeOf73 rfl (Star.blkAt 0 Z rfl) rfl) rfl ?_))))))
 obtain rfl:=so hF
 have Z:=Star.addNil (R:=(OR.frz rTerm)) (e:=122) Z
 exact ⟨S0,rfl,(Star.keepN 1 Z)⟩
 have hF:=(ite_f hc5).symm.trans hF
 refine W_skip (W_seq (sq (mV v0 rfl (L_len rfl Tryz.underlying23 rfl (slice_len h0) (mI rfl (nn ?_))))))
 have hlen10 : List.length lits≤9223372036854775807:=len_le (slice_len h0)
 obtain ⟨j10,hL10,hF⟩:=bind_some hF
 obtain ⟨R10,hR10⟩:=exR fun f w_=>j10 = .nx ()∧f 0 = v0∧f 2 = Pt g3∧Star H w_ ([box g3 73 #[S0,I 0]])
 refine W_join R10 ?_ ?_
 refine W_block ?_
 obtain ⟨I10,hI10⟩:=exI fun n f w_=>∃ i_9 : Nat,∃ suf10 : List Int,n = suf10.length∧List.drop i_9 lits = suf10∧i_9 + suf10.length = lits.length∧rangeL (i_ClauseOf_b1 lits) suf10 i_9 () = some j10∧f 0 = v0∧f 2 = Pt g3∧f 14 = v0∧f 15 = I (lits.length : Int)∧f 16 = I i_9∧Star H w_ ([box g3 73 #[S0,I 0]])
 refine W_loop I10 (n:=lits.length) ?_ ?_
 exact ij hI10 ⟨0,lits,rfl,rfl,Nat.zero_add _,hL10,rfl,rfl,rfl,rfl,rfl,Z⟩
 intro n10 f w_ hI
 obtain ⟨i_9,suf10,rfl,hd10,hl10,hL10,sf0,sf2,sf14,sf15,sf16,Z⟩:=ik hI10 hI
 refine sq (L_lss rfl sf16 sf15 (nq (W_cond (b:=decide ((i_9 : Int) < (lits.length : Int))) rfl (fun hc11=>?_) (fun hc11=>?_))))
 have hlt10:=of_decide_eq_true hc11
 rcases suf10 with _ | ⟨x_10,rest10⟩
 exact absurd hlt10 (by simp at hl10; omega)
 obtain ⟨o10,hB10,hL10⟩:=range_cons hL10
 rw [i_ClauseOf_b1] at hB10
 have hix10:=drop_idx hd10
 refine W_skip (W_seq (W_block (sq (L_ix (r:=RP.int) rfl Tryz.underlying23 Tryz.sizeOf3 sf14 h0 sf16 hix10 (fun g16 o17 cs_g16 hrk_hat18 hat18=>?_)))))
 obtain rfl : _ = [_]:=hrk_hat18
 refine L_ld rfl Tryz.isAgg3 rfl (At.cell (AtH.at hat18 Z.sub) (j:=0) rfl) (aI rfl (nq ?_))
 obtain ⟨x25,hx25,hB10⟩:=bind_some hB10
 obtain ⟨b34,hb34,hB10⟩:=bind_some hB10
 obtain ⟨R35,hR35⟩:=exR fun f w_=>f 0 = v0∧f 2 = Pt g3∧f 14 = v0∧f 15 = I (lits.length : Int)∧f 16 = I i_9∧f 28 = Bo b34∧Star H w_ ([box g3 73 #[S0,I 0]])
 refine W_join R35 ?_ ?_
 refine W_region (mI rfl ?_)
 obtain ⟨H36b,l37,s38,z39,k40⟩:=Z.borrow
 refine L_call rfl Tryz.call96 (ops1 rfl) (i_isLiteral_c (l:=x_10) s38 hx25) ?_
 rintro _ w41 ⟨rfl,Z⟩
 have Z:=k40 Z c0
 refine L_not_ rfl rfl (mB rfl (L_split (d:=23) (b:=(!x25)) rfl (fun hc42=>?_) (fun hc42=>?_)))
 rw [ite_t hc42] at hb34
 refine ps rfl (ps rfl (ps rfl (ps rfl (L_pick (v:=Bo b34) rfl rfl (congrArg Value.bool (so hb34)) (nn (rj hR35 ⟨sf0,sf2,sf14,sf15,sf16,rfl,Z⟩))))))
 rw [ite_f hc42] at hb34
 obtain ⟨x32,hx32,hb34⟩:=bind_some hb34
 refine mF sf0 rfl (mI rfl (L_neg rfl rfl ?_))
 obtain ⟨H43b,l44,s45,z46,k47⟩:=Z.borrow
 refine L_call rfl Tryz.call97 (ops2 rfl rfl) (slices_Contains_int_c (s:=lits) (v_:=i64 (-x_10)) s45 (RP.mono _ h0 l44) hx32) ?_
 rintro _ w48 ⟨rfl,Z⟩
 have Z:=k47 Z c0
 refine L_pick (v:=Bo b34) rfl rfl (congrArg Value.bool (so hb34)) (nn (rj hR35 ⟨sf0,sf2,sf14,sf15,sf16,rfl,Z⟩))
 intro f w_ hR
 obtain ⟨sf0,sf2,sf14,sf15,sf16,sf28,Z⟩:=rk hR35 hR
 refine W_cond (b:=b34) sf28 (fun hc49=>?_) (fun hc49=>?_)
 have hB10:=(ite_t hc49).symm.trans hB10
 refine sq (L_bld rfl (parts0 ) (bld_73_  ) (L_staB (vs:=#[S0,I 0]) (cs2:=#[S0,I 0]) 0 rfl Tryz.sizeOf73 sf2 rfl rfl (ones_cons rfl (ones_cons rfl ones_nil)) Z rfl (by show 0 + 2≤2; decide) rfl (fun w51 Z=>aB rfl (nn (W_ret (retG2 (v1:=.agg #[S0,I 0]) (v2:=Bo false) Tryz.results48 (resV_agg Tryz.isAgg73 Tryz.sizeOf73 sf2 (Star.blkAt 0 Z rfl) rfl) rfl ?_))))))
 obtain rfl:=so hB10
 obtain rfl:=so hL10
 obtain rfl:=so hF
 have Z:=Star.addNil (R:=(OR.frz rTerm)) (e:=122) Z
 exact ⟨S0,rfl,(Star.keepN 1 Z)⟩
 have hB10:=(ite_f hc49).symm.trans hB10
 refine W_skip (W_region (L_add rfl sf16 rfl (mI rfl (nn ?_))))
 obtain rfl:=so hB10
 show ∃ m,m < _∧I10 m _ _
 refine ⟨rest10.length,by simp,?_⟩
 exact ij hI10 ⟨i_9 + 1,rest10,rfl,drop_next hd10,by simp at hl10; omega,hL10,sf0,sf2,sf14,sf15,(Eq.trans rfl (congrArg (Value.int .i64) (i64_succ (n:=lits.length) (by simp at hl10; omega) hlen10))),Z⟩
 rcases suf10 with _ | ⟨_,_⟩
 obtain rfl:=range_nil hL10
 refine W_exit (rj hR10 ⟨rfl,sf0,sf2,Z⟩)
 exact absurd (of_decide_eq_false hc11) (by simp at hl10; omega)
 intro f w_ hR
 obtain ⟨rfl,sf0,sf2,Z⟩:=rk hR10 hR
 refine W_seq ?_
 obtain ⟨x58,hx58,hF⟩:=bind_some hF
 refine W_region (mF sf0 rfl ?_)
 obtain ⟨H61b,l62,s63,z64,k65⟩:=Z.borrow
 refine L_call rfl Tryz.call62 (ops1 rfl) (slices_Clone_int_c (s:=lits) s63 (RP.mono _ h0 l62) hx58) ?_
 rintro r66_0 w66 ⟨_,rfl,Z⟩
 have Z:=k65 Z (co closed_int c0)
 refine aV r66_0 rfl (nq ?_)
 obtain ⟨x73,hx73,hF⟩:=bind_some hF
 refine W_region (mV r66_0 rfl ?_)
 obtain ⟨H75b,l76,s77,z78,k79⟩:=Z.lend [_]
 have hf80 : Fun2 Tryz.prog RP.int RP.int false (Value.int .i64) i_ClauseOf_1 (.func (.func 99) #[] #[]) H75b:=by
   refine ⟨_,_,rfl,Tryz.call99,fun H_ w_ hE_ hs_ cs1_ cs2_ x1_ x2_ y_ args_ hr1_ hr2_ hy_ ha_=>?_⟩
   obtain rfl : cs1_ = [_]:=hr1_
   obtain rfl : cs2_ = [_]:=hr2_
   obtain rfl:=args_of (b:=#[I x1_,I x2_]) ha_
   exact i_ClauseOf_1_c (a:=x1_) (b:=x2_) hs_  hy_
 refine L_call rfl Tryz.call98 (ops2 rfl rfl) (slices_SortFunc_int_c (x:=x58) (cmp:=i_ClauseOf_1) s77 hf80 hx73) ?_
 rintro _ w81 ⟨rfl,Z⟩
 have Z:=k79 Z (co closed_int c0)
 refine ns (L_bld rfl (parts1 rfl) (bld_73_1 (I 1) rfl) (L_al (cs:=#[S0,I 0]) rfl Tryz.zeroValue73 rfl Z (fun g85 w86 Z=>L_staB (vs:=#[S0,I 1]) (cs2:=#[S0,I 1]) 0 rfl Tryz.sizeOf73 rfl rfl rfl (ones_cons rfl (ones_cons rfl ones_nil)) Z rfl (by show 0 + 2≤2; decide) rfl (fun w87 Z=>nq (W_seq ?_)))))
 obtain ⟨x91,hx91,hF⟩:=bind_some hF
 refine W_region (mV r66_0 rfl ?_)
 have Z:=Z.get 1 rfl
 obtain ⟨H93,l94,Z,hz95⟩:=Star.freeze Z
 have hz95 : (rS 3 RP.int).rel H93 [r66_0] x73:=hz95
 refine L_call rfl Tryz.call101 (ops1 rfl) (slices_Compact_int_c (s:=x73) Z hz95 hx91) ?_
 rintro r96_0 w96 ⟨H96,l96,_,rfl,hr96_0,Z⟩
 refine L_len rfl Tryz.underlying23 rfl (slice_len hr96_0) (mI rfl (nn ?_))
 have hlen100 : List.length x91≤9223372036854775807:=len_le (slice_len hr96_0)
 obtain ⟨j100,hL100,hF⟩:=bind_some hF
 obtain ⟨R100,hR100⟩:=exR fun f w_=>∃ g85_0_98 : List Term,∃ v98_g85_0 : Value,j100 = .nx g85_0_98∧f 2 = Pt g3∧f 7 = Pt g85∧Star H96 w_ ([oF 122 rTerm v98_g85_0 g85_0_98,box g85 73 #[v98_g85_0,I 1],box g3 73 #[S0,I 0]])
 refine W_join R100 ?_ ?_
 refine W_block ?_
 obtain ⟨I100,hI100⟩:=exI fun n f w_=>∃ i_97 : Nat,∃ suf100 : List Int,∃ g85_0_98 : List Term,∃ v98_g85_0 : Value,n = suf100.length∧List.drop i_97 x91 = suf100∧i_97 + suf100.length = x91.length∧rangeL i_ClauseOf_b2 suf100 i_97 g85_0_98 = some j100∧f 2 = Pt g3∧f 7 = Pt g85∧f 37 = r96_0∧f 38 = I (x91.length : Int)∧f 39 = I i_97∧Star H96 w_ ([oF 122 rTerm v98_g85_0 g85_0_98,box g85 73 #[v98_g85_0,I 1],box g3 73 #[S0,I 0]])
 have Z:=Star.addNil (R:=(OR.frz rTerm)) (e:=122) Z
 refine W_loop I100 (n:=x91.length) ?_ ?_
 exact ij hI100 ⟨0,x91,[],S0,rfl,rfl,Nat.zero_add _,hL100,sf2,rfl,rfl,rfl,rfl,Z⟩
 intro n100 f w_ hI
 obtain ⟨i_97,suf100,g85_0_98,v98_g85_0,rfl,hd100,hl100,hL100,sf2,sf7,sf37,sf38,sf39,Z⟩:=ik hI100 hI
 refine sq (L_lss rfl sf39 sf38 (nq (W_cond (b:=decide ((i_97 : Int) < (x91.length : Int))) rfl (fun hc102=>?_) (fun hc102=>?_))))
 have hlt100:=of_decide_eq_true hc102
 rcases suf100 with _ | ⟨x_100,rest100⟩
 exact absurd hlt100 (by simp at hl100; omega)
 obtain ⟨o100,hB100,hL100⟩:=range_cons hL100
 rw [i_ClauseOf_b2] at hB100
 have hix100:=drop_idx hd100
 refine W_skip (W_seq (W_block (sq (L_ix (r:=RP.int) rfl Tryz.underlying23 Tryz.sizeOf3 sf37 hr96_0 sf39 hix100 (fun g107 o108 cs_g107 hrk_hat109 hat109=>?_)))))
 obtain rfl : _ = [_]:=hrk_hat109
 refine L_ld rfl Tryz.isAgg3 rfl (At.cell (AtH.at hat109 Z.sub) (j:=0) rfl) (aI rfl (nn ?_))
 obtain ⟨x114,hx114,hB100⟩:=bind_some hB100
 refine W_region (fA 0 fa_73_0 sf7 rfl (ldB 1 Z Tryz.isAgg71 rfl rfl rfl (mI rfl (L_bld rfl (parts2 rfl rfl) (bld_122_0_1 (I 1) (I x_100) rfl rfl) (L_bs rfl (parts1 rfl) (bs_71_1_2 (I 1) (I x_100) ) Z (fun g119 w120 Z=>?_))))))
 have Z:=Star.addF (r:=rTerm) (cs:=[I 1,I x_100]) (x:=({ coef:=1,lit:=x_100 } : Term)) Z (rTerm_iff.2 rfl)
 have Z:=Star.mkRow (R:=(OR.frz rTerm)) [([I 1,I x_100],({ coef:=1,lit:=x_100 } : Term))] [({ coef:=1,lit:=x_100 } : Term)] 1 Z rfl rfl rfl (by decide)
 have Z:=Z.get 1 rfl
 refine L_appM (v:=v98_g85_0) (u:=(Sl g119 1 1)) rfl et_71 rfl rfl Z hx114 (fun v122 w123 Z=>fA 0 fa_73_0 sf7 rfl (L_stB (v:=v122) (cs2:=#[v122,I 1]) 1 rfl Tryz.sizeOf71 rfl rfl (one_len (Star.len 0 Z rfl)) Z rfl rfl rfl (fun w125 Z=>nn (W_region (L_add rfl sf39 rfl (mI rfl (nn ?_)))))))
 obtain rfl:=so hB100
 have Z:=Z.gets [2,1,2] rfl
 show ∃ m,m < _∧I100 m _ _
 refine ⟨rest100.length,by simp,?_⟩
 exact ij hI100 ⟨i_97 + 1,rest100,x114,v122,rfl,drop_next hd100,by simp at hl100; omega,hL100,sf2,sf7,sf37,sf38,(Eq.trans rfl (congrArg (Value.int .i64) (i64_succ (n:=x91.length) (by simp at hl100; omega) hlen100))),Z⟩
 rcases suf100 with _ | ⟨_,_⟩
 obtain rfl:=range_nil hL100
 refine W_exit (rj hR100 ⟨g85_0_98,v98_g85_0,rfl,sf2,sf7,Z⟩)
 exact absurd (of_decide_eq_false hc102) (by simp at hl100; omega)
 intro f w_ hR
 obtain ⟨g85_0_98,v98_g85_0,rfl,sf2,sf7,Z⟩:=rk hR100 hR
 refine sq (L_lda (cs:=[v98_g85_0,I 1]) rfl Tryz.isAgg73 Tryz.sizeOf73 sf7 (At.sub0 (Blk.at (Star.blkAt 1 Z rfl)) 0 2) rfl (L_staB (vs:=#[v98_g85_0,I 1]) (cs2:=#[v98_g85_0,I 1]) 2 rfl Tryz.sizeOf73 sf2 rfl rfl (ones_cons (one_len (Star.len 0 Z rfl)) (ones_cons rfl ones_nil)) Z rfl (by show 0 + 2≤2; decide) rfl (fun w127 Z=>aB rfl (nn (W_ret (retG2 (v1:=.agg #[v98_g85_0,I 1]) (v2:=Bo true) Tryz.results48 (resV_agg Tryz.isAgg73 Tryz.sizeOf73 sf2 (Star.blkAt 0 Z rfl) rfl) rfl ?_))))))
 obtain rfl:=so hF
 have Z:=Z.get 1 rfl
 exact ⟨v98_g85_0,rfl,(Star.down (Star.keepN 1 Z) (Le.trans l94 l96) (co closed_term c0))⟩
theorem i_atMostOne_c {vars : List Int} {v0 : Value} {H : FH} {w : World} (Z : Star H w []) (h0 : (rS 3 RP.int).rel H [v0] vars) {r : Con} (hF : i_atMostOne vars = some r) :
 C Tryz.prog 49 #[v0] w fun v w'=>∃ (u1 : Value),v = .agg #[u1,I r.bound]∧Star H w' [oF 122 rTerm u1 r.terms]:=by
 unfold i_atMostOne at hF
 refine C_enter Tryz.func49 rfl Tryz.ntmps49 rfl (sq (L_al (cs:=#[S0,I 0]) rfl Tryz.zeroValue73 rfl Z (fun g3 w4 Z=>ns (mV v0 rfl (L_len rfl Tryz.underlying23 rfl (slice_len h0) (L_sub rfl rfl rfl (L_bld rfl (parts1 rfl) (bld_73_1 (I (i64 ((vars.length : Int) - 1))) rfl) (L_al (cs:=#[S0,I 0]) rfl Tryz.zeroValue73 rfl Z (fun g8 w9 Z=>L_staB (vs:=#[S0,I (i64 ((vars.length : Int) - 1))]) (cs2:=#[S0,I (i64 ((vars.length : Int) - 1))]) 0 rfl Tryz.sizeOf73 rfl rfl rfl (ones_cons rfl (ones_cons rfl ones_nil)) Z rfl (by show 0 + 2≤2; decide) rfl (fun w10 Z=>nq (sq (mV v0 rfl (L_len rfl Tryz.underlying23 rfl (slice_len h0) (mI rfl (nn ?_)))))))))))))))
 have hlen14 : List.length vars≤9223372036854775807:=len_le (slice_len h0)
 obtain ⟨j14,hL14,hF⟩:=bind_some hF
 obtain ⟨R14,hR14⟩:=exR fun f w_=>∃ g8_0_12 : List Term,∃ v12_g8_0 : Value,j14 = .nx g8_0_12∧f 2 = Pt g3∧f 3 = Pt g8∧Star H w_ ([oF 122 rTerm v12_g8_0 g8_0_12,box g8 73 #[v12_g8_0,I (i64 ((vars.length : Int) - 1))],box g3 73 #[S0,I 0]])
 refine W_join R14 ?_ ?_
 refine W_block ?_
 obtain ⟨I14,hI14⟩:=exI fun n f w_=>∃ i_11 : Nat,∃ suf14 : List Int,∃ g8_0_12 : List Term,∃ v12_g8_0 : Value,n = suf14.length∧List.drop i_11 vars = suf14∧i_11 + suf14.length = vars.length∧rangeL i_atMostOne_b1 suf14 i_11 g8_0_12 = some j14∧f 2 = Pt g3∧f 3 = Pt g8∧f 10 = v0∧f 11 = I (vars.length : Int)∧f 12 = I i_11∧Star H w_ ([oF 122 rTerm v12_g8_0 g8_0_12,box g8 73 #[v12_g8_0,I (i64 ((vars.length : Int) - 1))],box g3 73 #[S0,I 0]])
 have Z:=Star.addNil (R:=(OR.frz rTerm)) (e:=122) Z
 refine W_loop I14 (n:=vars.length) ?_ ?_
 exact ij hI14 ⟨0,vars,[],S0,rfl,rfl,Nat.zero_add _,hL14,rfl,rfl,rfl,rfl,rfl,Z⟩
 intro n14 f w_ hI
 obtain ⟨i_11,suf14,g8_0_12,v12_g8_0,rfl,hd14,hl14,hL14,sf2,sf3,sf10,sf11,sf12,Z⟩:=ik hI14 hI
 refine sq (L_lss rfl sf12 sf11 (nq (W_cond (b:=decide ((i_11 : Int) < (vars.length : Int))) rfl (fun hc16=>?_) (fun hc16=>?_))))
 have hlt14:=of_decide_eq_true hc16
 rcases suf14 with _ | ⟨x_14,rest14⟩
 exact absurd hlt14 (by simp at hl14; omega)
 obtain ⟨o14,hB14,hL14⟩:=range_cons hL14
 rw [i_atMostOne_b1] at hB14
 have hix14:=drop_idx hd14
 refine W_skip (W_seq (W_block (sq (L_ix (r:=RP.int) rfl Tryz.underlying23 Tryz.sizeOf3 sf10 h0 sf12 hix14 (fun g21 o22 cs_g21 hrk_hat23 hat23=>?_)))))
 obtain rfl : _ = [_]:=hrk_hat23
 refine L_ld rfl Tryz.isAgg3 rfl (At.cell (AtH.at hat23 Z.sub) (j:=0) rfl) (aI rfl (nn ?_))
 obtain ⟨x28,hx28,hB14⟩:=bind_some hB14
 refine W_region (fA 0 fa_73_0 sf3 rfl (ldB 1 Z Tryz.isAgg71 rfl rfl rfl (mI rfl (L_neg rfl rfl (L_bld rfl (parts2 rfl rfl) (bld_122_0_1 (I 1) (I (i64 (-x_14))) rfl rfl) (L_bs rfl (parts1 rfl) (bs_71_1_2 (I 1) (I (i64 (-x_14))) ) Z (fun g33 w34 Z=>?_)))))))
 have Z:=Star.addF (r:=rTerm) (cs:=[I 1,I (i64 (-x_14))]) (x:=({ coef:=1,lit:=i64 (-x_14) } : Term)) Z (rTerm_iff.2 rfl)
 have Z:=Star.mkRow (R:=(OR.frz rTerm)) [([I 1,I (i64 (-x_14))],({ coef:=1,lit:=i64 (-x_14) } : Term))] [({ coef:=1,lit:=i64 (-x_14) } : Term)] 1 Z rfl rfl rfl (by decide)
 have Z:=Z.get 1 rfl
 refine L_appM (v:=v12_g8_0) (u:=(Sl g33 1 1)) rfl et_71 rfl rfl Z hx28 (fun v36 w37 Z=>fA 0 fa_73_0 sf3 rfl (L_stB (v:=v36) (cs2:=#[v36,I (i64 ((vars.length : Int) - 1))]) 1 rfl Tryz.sizeOf71 rfl rfl (one_len (Star.len 0 Z rfl)) Z rfl rfl rfl (fun w39 Z=>nn (W_region (L_add rfl sf12 rfl (mI rfl (nn ?_)))))))
 obtain rfl:=so hB14
 have Z:=Z.gets [2,1,2] rfl
 show ∃ m,m < _∧I14 m _ _
 refine ⟨rest14.length,by simp,?_⟩
 exact ij hI14 ⟨i_11 + 1,rest14,x28,v36,rfl,drop_next hd14,by simp at hl14; omega,hL14,sf2,sf3,sf10,sf11,(Eq.trans rfl (congrArg (Value.int .i64) (i64_succ (n:=vars.length) (by simp at hl14; omega) hlen14))),Z⟩
 rcases suf14 with _ | ⟨_,_⟩
 obtain rfl:=range_nil hL14
 refine W_exit (rj hR14 ⟨g8_0_12,v12_g8_0,rfl,sf2,sf3,Z⟩)
 exact absurd (of_decide_eq_false hc16) (by simp at hl14; omega)
 intro f w_ hR
 obtain ⟨g8_0_12,v12_g8_0,rfl,sf2,sf3,Z⟩:=rk hR14 hR
 refine sq (L_lda (cs:=[v12_g8_0,I (i64 ((vars.length : Int) - 1))]) rfl Tryz.isAgg73 Tryz.sizeOf73 sf3 (At.sub0 (Blk.at (Star.blkAt 1 Z rfl)) 0 2) rfl (L_staB (vs:=#[v12_g8_0,I (i64 ((vars.length : Int) - 1))]) (cs2:=#[v12_g8_0,I (i64 ((vars.length : Int) - 1))]) 2 rfl Tryz.sizeOf73 sf2 rfl rfl (ones_cons (one_len (Star.len 0 Z rfl)) (ones_cons rfl ones_nil)) Z rfl (by show 0 + 2≤2; decide) rfl (fun w41 Z=>nn (W_ret (retG1 (v1:=.agg #[v12_g8_0,I (i64 ((vars.length : Int) - 1))]) Tryz.results49 (resV_agg Tryz.isAgg73 Tryz.sizeOf73 sf2 (Star.blkAt 0 Z rfl) rfl) ?_)))))
 obtain rfl:=so hF
 have Z:=Z.get 1 rfl
 exact ⟨v12_g8_0,rfl,(Star.keepN 1 Z)⟩
theorem i_each_c {fu : Nat} {sizes : List Int} {from_ : List Int} {told : ((List Int)→Option Bool)} {v0 : Value} {v1 : Value} {v2 : Value} {H : FH} {w : World} (Z : Star H w []) (h0 : (rS 3 RP.int).rel H [v0] sizes) (h1 : (rS 3 RP.int).rel H [v1] from_) (h2 : Fun1 Tryz.prog (rS 3 RP.int) false Value.bool told v2 H) {r : Unit} (hF : i_each fu sizes from_ told = some r) :
 C Tryz.prog 57 #[v0,v1,v2] w fun v w'=>v = .tuple #[]∧Star H w' []:=by
 unfold i_each at hF
 obtain ⟨fid_2,caps_2,rfl,hcall_2,hc_2⟩:=h2
 refine C_enter Tryz.func57 rfl Tryz.ntmps57 rfl (W_seq ?_)
 obtain ⟨x6,hx6,hF⟩:=bind_some hF
 refine W_region (mV v1 rfl ?_)
 obtain ⟨H9b,l10,s11,z12,k13⟩:=Z.borrow
 refine L_call rfl Tryz.call62 (ops1 rfl) (slices_Clone_int_c (s:=from_) s11 (RP.mono _ h1 l10) hx6) ?_
 rintro r14_0 w14 ⟨_,rfl,Z⟩
 have Z:=k13 Z (co closed_int c0)
 refine aV r14_0 rfl (nn ?_)
 obtain ⟨j20,hL20,hF⟩:=bind_some hF
 obtain ⟨R20,hR20⟩:=exR fun f w_=>∃ cells_17 : List Int,∃ H18 : FH,j20 = .nx cells_17∧Le H H18∧Star H18 w_ ([])
 refine W_join R20 ?_ ?_
 refine W_block ?_
 obtain ⟨I20,hI20⟩:=exI fun n f w_=>∃ cells_17 : List Int,∃ H18 : FH,whileL (i_each_b1 fu sizes told) n cells_17 = some j20∧Le H H18∧f 0 = v0∧f 2 = .func (.func fid_2) #[] caps_2∧f 6 = r14_0∧Star H18 w_ ([oF 3 RP.int r14_0 cells_17])
 refine W_loop I20 (n:=fu) ?_ ?_
 exact ij hI20 ⟨x6,H,hL20,(Le.refl _),rfl,rfl,rfl,Z⟩
 intro n20 f w_ hI
 obtain ⟨cells_17,H18,hL20,l19,sf0,sf2,sf6,Z⟩:=ik hI20 hI
 rcases n20 with _ | n20
 exact (while_zero hL20).elim
 obtain ⟨o20,hB20,hL20⟩:=while_succ hL20
 rw [i_each_b1] at hB20
 refine W_seq (W_seq ?_)
 obtain ⟨x21,hx21,hB20⟩:=bind_some hB20
 refine W_region (mF sf2 rfl (mF sf6 rfl ?_))
 obtain ⟨H28b,l29,s30,z31,k32⟩:=Z.borrow
 have hb33 : (rS 3 RP.int).rel H28b [r14_0] cells_17:=fz_own 0 z31 rfl
 refine L_callv (args:=#[r14_0]) rfl hcall_2 rfl (ops1 rfl) (hc_2 _ _ (Le.trans l19 l29) s30 [r14_0] _ _ _ hb33 hx21 (args_app rfl)) ?_
 rintro _ w34 ⟨rfl,Z⟩
 have Z:=k32 Z c0
 refine nn (W_cond (b:=x21) rfl (fun hc35=>?_) (fun hc35=>?_))
 have hB20:=(ite_t hc35).symm.trans hB20
 refine W_skip (W_block (sq (mF sf6 rfl (L_len rfl Tryz.underlying23 rfl (Star.len 0 Z rfl) (L_sub rfl rfl rfl (aI rfl (nq ?_)))))))
 obtain ⟨j41,hL41,hB20⟩:=bind_some hB20
 obtain ⟨R41,hR41⟩:=exR fun f w_=>∃ cells_37 : List Int,∃ i_38 : Int,∃ H39 : FH,j41 = .nx (cells_37,i_38)∧Le H18 H39∧f 0 = v0∧f 2 = .func (.func fid_2) #[] caps_2∧f 6 = r14_0∧f 7 = I i_38∧Star H39 w_ ([oF 3 RP.int r14_0 cells_37])
 refine W_join R41 ?_ ?_
 refine W_block ?_
 obtain ⟨I41,hI41⟩:=exI fun n f w_=>∃ cells_37 : List Int,∃ i_38 : Int,∃ H39 : FH,whileL (i_each_b2 sizes) n (cells_37,i_38) = some j41∧Le H18 H39∧f 0 = v0∧f 2 = .func (.func fid_2) #[] caps_2∧f 6 = r14_0∧f 7 = I i_38∧Star H39 w_ ([oF 3 RP.int r14_0 cells_37])
 refine W_loop I41 (n:=fu) ?_ ?_
 exact ij hI41 ⟨cells_17,i64 ((cells_17.length : Int) - 1),H18,hL41,(Le.refl _),sf0,sf2,sf6,rfl,Z⟩
 intro n41 f w_ hI
 obtain ⟨cells_37,i_38,H39,hL41,l40,sf0,sf2,sf6,sf7,Z⟩:=ik hI41 hI
 rcases n41 with _ | n41
 exact (while_zero hL41).elim
 obtain ⟨o41,hB41,hL41⟩:=while_succ hL41
 rw [i_each_b2] at hB41
 refine W_seq (W_seq ?_)
 obtain ⟨b52,hb52,hB41⟩:=bind_some hB41
 obtain ⟨R56,hR56⟩:=exR fun f w_=>∃ H54 : FH,Le H39 H54∧f 0 = v0∧f 2 = .func (.func fid_2) #[] caps_2∧f 6 = r14_0∧f 7 = I i_38∧f 28 = Bo b52∧Star H54 w_ ([oF 3 RP.int r14_0 cells_37])
 refine W_join R56 ?_ ?_
 rcases Bool.eq_false_or_eq_true (decide (i_38 ≥ 0)) with hc57 | hc57
 rw [ite_t hc57] at hb52
 obtain ⟨x42,hx42,hb52⟩:=bind_some hb52
 obtain ⟨x47,hx47,hb52⟩:=bind_some hb52
 obtain ⟨g58,cap_g58,hv59,_,_⟩:=Star.row 0 Z rfl hx42
 refine W_drawS 11 [isV (I i_38),isV (Bo (decide (i_38 ≥ 0))),isV (Bo (decide (i_38 ≥ 0))),isV (r14_0),isV (I i_38),isV (.pointer (some ⟨g58,Int.toNat i_38 * 1,none⟩)),isV (I x42),isV (v0),isV (I i_38),isEl RP.int x47 0,isV (I x47)] [oF 3 RP.int r14_0 cells_37] [] ([]) [([],[]),([],[]),([],[]),([],[]),([],[]),([],[]),([],[]),([],[]),([],[]),([],[]),([],[])] (S:=[]) Tryz_mix (by kernel_rfl) rfl (by kernel_rfl) (amF_cons (mono_V _) (amF_cons (mono_V _) (amF_cons (mono_V _) (amF_cons (mono_V _) (amF_cons (mono_V _) (amF_cons (mono_V _) (amF_cons (mono_V _) (amF_cons (mono_V _) (amF_cons (mono_V _) (amF_cons (mono_el _ _ _) (amF_cons (mono_V _) amF_nil))))))))))) Z ?_ (fun f w_ H53 hS53 hE53 hT53 Z=>?_)
 refine opsS_cons (fun f w_ _ _ s _ _ Z=>mF ((s 7 rfl).trans sf7) rfl (nO rfl rfl Z)) (opsS_cons (fun f w_ _ _ _ _ p Z=>L_geq rfl (p 0 16 rfl rfl) rfl (nO rfl rfl Z)) (opsS_cons (fun f w_ _ _ _ _ p Z=>mF (p 1 17 rfl rfl) rfl (nO rfl rfl Z)) (opsS_cons (fun f w_ _ _ s _ p Z=>L_mv (v:=r14_0) (g_yes rfl (Eq.trans (p 2 18 rfl rfl) (congrArg Value.bool hc57)) rfl) ((s 6 rfl).trans sf6) (nO rfl rfl Z)) (opsS_cons (fun f w_ _ _ s _ p Z=>L_mv (v:=I i_38) (g_yes rfl (Eq.trans (p 2 18 rfl rfl) (congrArg Value.bool hc57)) rfl) ((s 7 rfl).trans sf7) (nO rfl rfl Z)) (opsS_cons (fun f w_ _ _ _ _ p Z=>L_ixO (R:=(OR.frz RP.int)) (tb:=0) 0 (g_yes rfl (Eq.trans (p 2 18 rfl rfl) (congrArg Value.bool hc57)) rfl) Tryz.underlying23 Tryz.sizeOf3 (p 3 19 rfl rfl) hv59 (by first | rfl | simp) (p 4 20 rfl rfl) hx42 (nO rfl rfl Z)) (opsS_cons ?_ ?_))))))
 intro f w_ H53 X53 hS53 hE53 hP53 Z
 obtain ⟨cs66,hr66,hat66⟩:=Star.eltF 0 Z rfl hv59 hx42
 obtain rfl : _ = [_]:=hr66
 refine L_ld (v:=I x42) (g_yes rfl (Eq.trans (hP53 2 18 rfl rfl) (congrArg Value.bool hc57)) rfl) Tryz.isAgg3 (hP53 5 21 rfl rfl) (At.cell hat66 (j:=0) rfl) (L_nil ⟨rfl,_,_,rfl,Le.refl _,fun _ _=>rfl,Z⟩)
 refine opsS_cons (fun f w_ _ _ s _ p Z=>L_mv (v:=v0) (g_yes rfl (Eq.trans (p 2 18 rfl rfl) (congrArg Value.bool hc57)) rfl) ((s 0 rfl).trans sf0) (nO rfl rfl Z)) (opsS_cons (fun f w_ _ _ s _ p Z=>L_mv (v:=I i_38) (g_yes rfl (Eq.trans (p 2 18 rfl rfl) (congrArg Value.bool hc57)) rfl) ((s 7 rfl).trans sf7) (nO rfl rfl Z)) (opsS_cons ?_ ?_))
 intro f w_ H53 X53 hS53 hE53 hP53 Z
 refine L_ix (r:=RP.int) (g_yes rfl (Eq.trans (hP53 2 18 rfl rfl) (congrArg Value.bool hc57)) rfl) Tryz.underlying23 Tryz.sizeOf3 (hP53 7 23 rfl rfl) (RP.mono _ h0 (Le.trans (Le.trans l19 l40) hE53)) (hP53 8 24 rfl rfl) hx47 (fun g68 o69 cs_g68 hrk_hat70 hat70=>?_)
 obtain rfl : _ = [_]:=hrk_hat70
 exact L_nil ⟨rfl,_,_,rfl,Le.refl _,fun _ _=>⟨_,_,_,rfl,rfl,hat70⟩,Z⟩
 refine opsS_cons ?_ ?_
 intro f w_ H53 X53 hS53 hE53 hP53 Z
 obtain ⟨g72,o72,cs72,hv72,hrk_hat72,hat72⟩:=(hP53 9 25 rfl rfl)
 obtain rfl : _ = [_]:=hrk_hat72
 refine L_ld (v:=I x47) (g_yes rfl (Eq.trans (hP53 2 18 rfl rfl) (congrArg Value.bool hc57)) rfl) Tryz.isAgg3 hv72 (At.cell (AtH.at hat72 Z.sub) (j:=0) rfl) (L_nil ⟨rfl,_,_,rfl,Le.refl _,fun _ _=>rfl,Z⟩)
 exact opsS_nil
 refine L_eql (g_yes rfl (Eq.trans (hT53 2 18 rfl rfl) (congrArg Value.bool hc57)) rfl) (hT53 6 22 rfl rfl) (hT53 10 26 rfl rfl) (L_pick (v:=Bo b52) rfl (Eq.trans (hT53 2 18 rfl rfl) (congrArg Value.bool hc57)) (congrArg Value.bool (so hb52)) (nn (rj hR56 ⟨H53,hE53,((hS53 0 rfl).trans sf0),((hS53 2 rfl).trans sf2),((hS53 6 rfl).trans sf6),((hS53 7 rfl).trans sf7),rfl,Z⟩)))
 rw [ite_f hc57] at hb52
 refine W_drawS 11 [isV (I i_38),isV (Bo (decide (i_38 ≥ 0))),isV (Bo (decide (i_38 ≥ 0))),isV (undef),isV (undef),isV (undef),isV (undef),isV (undef),isV (undef),isV (undef),isV (undef)] [oF 3 RP.int r14_0 cells_37] [] ([]) [([],[]),([],[]),([],[]),([],[]),([],[]),([],[]),([],[]),([],[]),([],[]),([],[]),([],[])] (S:=[]) Tryz_mix (by kernel_rfl) rfl (by kernel_rfl) (amF_cons (mono_V _) (amF_cons (mono_V _) (amF_cons (mono_V _) (amF_cons (mono_V _) (amF_cons (mono_V _) (amF_cons (mono_V _) (amF_cons (mono_V _) (amF_cons (mono_V _) (amF_cons (mono_V _) (amF_cons (mono_V _) (amF_cons (mono_V _) amF_nil))))))))))) Z ?_ (fun f w_ H53 hS53 hE53 hT53 Z=>?_)
 refine opsS_cons (fun f w_ _ _ s _ _ Z=>mF ((s 7 rfl).trans sf7) rfl (nO rfl rfl Z)) (opsS_cons (fun f w_ _ _ _ _ p Z=>L_geq rfl (p 0 16 rfl rfl) rfl (nO rfl rfl Z)) (opsS_cons (fun f w_ _ _ _ _ p Z=>mF (p 1 17 rfl rfl) rfl (nO rfl rfl Z)) (oP (fun _ _ p=>gN (p 2 18 rfl rfl) hc57 rfl) (fun _=>rfl) (oP (fun _ _ p=>gN (p 2 18 rfl rfl) hc57 rfl) (fun _=>rfl) (oP (fun _ _ p=>gN (p 2 18 rfl rfl) hc57 rfl) (fun _=>rfl) (oP (fun _ _ p=>gN (p 2 18 rfl rfl) hc57 rfl) (fun _=>rfl) (oP (fun _ _ p=>gN (p 2 18 rfl rfl) hc57 rfl) (fun _=>rfl) (oP (fun _ _ p=>gN (p 2 18 rfl rfl) hc57 rfl) (fun _=>rfl) (oP (fun _ _ p=>gN (p 2 18 rfl rfl) hc57 rfl) (fun _=>rfl) (oP (fun _ _ p=>gN (p 2 18 rfl rfl) hc57 rfl) (fun _=>rfl) (opsS_nil)))))))))))
 refine ps (g_no rfl (Eq.trans (hT53 2 18 rfl rfl) (congrArg Value.bool hc57)) rfl rfl) (L_pick (v:=Bo b52) rfl (Eq.trans (hT53 2 18 rfl rfl) (congrArg Value.bool hc57)) (congrArg Value.bool (so hb52)) (nn (rj hR56 ⟨H53,hE53,((hS53 0 rfl).trans sf0),((hS53 2 rfl).trans sf2),((hS53 6 rfl).trans sf6),((hS53 7 rfl).trans sf7),rfl,Z⟩)))
 intro f w_ hR
 obtain ⟨H54,l55,sf0,sf2,sf6,sf7,sf28,Z⟩:=rk hR56 hR
 refine W_cond (b:=b52) sf28 (fun hc74=>?_) (fun hc74=>?_)
 have hB41:=(ite_t hc74).symm.trans hB41
 refine W_skip (W_block (W_seq ?_))
 obtain ⟨x75,hx75,hB41⟩:=bind_some hB41
 refine W_region (mF sf6 rfl (mF sf7 rfl ?_))
 obtain ⟨g79,cap_g79,hv80,_,_⟩:=Star.row 0 Z rfl hx75
 refine L_ixO (R:=(OR.frz RP.int)) (tb:=0) 0 rfl Tryz.underlying23 Tryz.sizeOf3 rfl hv80 (by first | rfl | simp) rfl hx75 ?_
 have Z:=Star.addF (r:=RP.int) (cs:=[I 0]) (x:=0) Z rfl
 refine L_stE1 (u:=I 0) rfl Tryz.sizeOf3 rfl rfl rfl hv80 Z hx75 (fun w81 Z=>?_)
 refine nn (W_region (mF sf7 rfl (L_sub rfl rfl rfl (aI rfl (nn ?_)))))
 obtain rfl:=so hB41
 show ∃ m,m < _∧I41 m _ _
 refine ⟨n41,Nat.lt_succ_self _,?_⟩
 exact ij hI41 ⟨(cells_37.set (Int.toNat i_38) 0),i64 (i_38 - 1),H54,hL41,(Le.trans l40 l55),sf0,sf2,sf6,rfl,Z⟩
 have hB41:=(ite_f hc74).symm.trans hB41
 refine W_exit ?_
 obtain rfl:=so hB41
 obtain rfl:=so hL41
 exact rj hR41 ⟨cells_37,i_38,H54,rfl,(Le.trans l40 l55),sf0,sf2,sf6,sf7,Z⟩
 intro f w_ hR
 obtain ⟨cells_37,i_38,H39,rfl,l40,sf0,sf2,sf6,sf7,Z⟩:=rk hR41 hR
 refine W_seq (sq (mF sf7 rfl (L_lss rfl rfl rfl (nn (W_cond (b:=decide (i_38 < 0)) rfl (fun hc82=>?_) (fun hc82=>?_))))))
 have hB20:=(ite_t hc82).symm.trans hB20
 refine W_ret (ret0 Tryz.results57 ?_)
 obtain rfl:=so hB20
 obtain rfl:=so hL20
 obtain rfl:=so hF
 exact ⟨rfl,(Star.down (Star.keepN 0 Z) (Le.trans l19 l40) c0)⟩
 have hB20:=(ite_f hc82).symm.trans hB20
 refine W_skip ?_
 obtain ⟨x83,hx83,hB20⟩:=bind_some hB20
 refine W_region (mF sf6 rfl (mF sf7 rfl ?_))
 obtain ⟨g89,cap_g89,hv90,_,_⟩:=Star.row 0 Z rfl hx83
 refine L_ixO (R:=(OR.frz RP.int)) (tb:=0) 0 rfl Tryz.underlying23 Tryz.sizeOf3 rfl hv90 (by first | rfl | simp) rfl hx83 ?_
 obtain ⟨cs91,hr91,hat91⟩:=Star.eltF 0 Z rfl hv90 hx83
 obtain rfl : _ = [_]:=hr91
 refine L_ld rfl Tryz.isAgg3 rfl (At.cell hat91 (j:=0) rfl) (L_add rfl rfl rfl (L_ixO (R:=(OR.frz RP.int)) (tb:=0) 0 rfl Tryz.underlying23 Tryz.sizeOf3 rfl hv90 (by first | rfl | simp) rfl hx83 ?_))
 have Z:=Star.addF (r:=RP.int) (cs:=[I (i64 (x83 + 1))]) (x:=(i64 (x83 + 1))) Z rfl
 refine L_stE1 (u:=I (i64 (x83 + 1))) rfl Tryz.sizeOf3 rfl rfl rfl hv90 Z hx83 (fun w93 Z=>?_)
 refine nn ?_
 obtain rfl:=so hB20
 show ∃ m,m < _∧I20 m _ _
 refine ⟨n20,Nat.lt_succ_self _,?_⟩
 exact ij hI20 ⟨(cells_37.set (Int.toNat i_38) (i64 (x83 + 1))),H39,hL20,(Le.trans l19 l40),sf0,sf2,sf6,Z⟩
 have hB20:=(ite_f hc35).symm.trans hB20
 refine W_exit ?_
 obtain rfl:=so hB20
 obtain rfl:=so hL20
 exact rj hR20 ⟨cells_17,H18,rfl,l19,(Star.keepN 0 Z)⟩
 intro f w_ hR
 obtain ⟨cells_17,H18,rfl,l19,Z⟩:=rk hR20 hR
 refine ret0 Tryz.results57 ?_
 obtain rfl:=so hF
 exact ⟨rfl,(Star.down Z l19 c0)⟩
theorem i_ConstraintValid_c {c : Con} {v0_0 : Value} {H : FH} {w : World} (Z : Star H w []) (h0_0 : (rS 122 rTerm).rel H [v0_0] c.terms) {r : Bool} (hF : i_ConstraintValid c = some r) :
 C Tryz.prog 130 #[.agg #[v0_0,I c.bound]] w fun v w'=>v = Bo r∧Star H w' []:=by
 unfold i_ConstraintValid at hF
 refine C_enter Tryz.func130 rfl Tryz.ntmps130 rfl (sq (L_box (v:=.agg #[v0_0,I c.bound]) (cs:=#[v0_0,I c.bound]) rfl rfl rfl Z (fun g3 w4 Z=>aB rfl (ns (aI rfl (nq (sq (fA 0 fa_73_0 rfl rfl (ldB 0 Z Tryz.isAgg71 rfl rfl rfl (L_len rfl Tryz.underlying71 rfl (slice_len h0_0) (mI rfl (nn ?_))))))))))))
 have hlen7 : List.length c.terms≤9223372036854775807:=len_le (slice_len h0_0)
 obtain ⟨j7,hL7,hF⟩:=bind_some hF
 obtain ⟨R7,hR7⟩:=exR fun f w_=>∃ before_6 : Int,j7 = .nx before_6∧f 1 = Pt g3∧Star H w_ ([box g3 73 #[v0_0,I c.bound]])
 refine W_join R7 ?_ ?_
 refine W_block ?_
 obtain ⟨I7,hI7⟩:=exI fun n f w_=>∃ i_5 : Nat,∃ suf7 : List Term,∃ before_6 : Int,n = suf7.length∧List.drop i_5 c.terms = suf7∧i_5 + suf7.length = c.terms.length∧rangeL i_ConstraintValid_b1 suf7 i_5 before_6 = some j7∧f 1 = Pt g3∧f 3 = I before_6∧f 7 = v0_0∧f 8 = I (c.terms.length : Int)∧f 9 = I i_5∧Star H w_ ([box g3 73 #[v0_0,I c.bound]])
 refine W_loop I7 (n:=c.terms.length) ?_ ?_
 exact ij hI7 ⟨0,c.terms,0,rfl,rfl,Nat.zero_add _,hL7,rfl,rfl,rfl,rfl,rfl,Z⟩
 intro n7 f w_ hI
 obtain ⟨i_5,suf7,before_6,rfl,hd7,hl7,hL7,sf1,sf3,sf7,sf8,sf9,Z⟩:=ik hI7 hI
 refine sq (L_lss rfl sf9 sf8 (nq (W_cond (b:=decide ((i_5 : Int) < (c.terms.length : Int))) rfl (fun hc8=>?_) (fun hc8=>?_))))
 have hlt7:=of_decide_eq_true hc8
 rcases suf7 with _ | ⟨x_7,rest7⟩
 exact absurd hlt7 (by simp at hl7; omega)
 obtain ⟨o7,hB7,hL7⟩:=range_cons hL7
 rw [i_ConstraintValid_b1] at hB7
 have hix7:=drop_idx hd7
 refine W_skip (W_seq (W_block (sq (L_ix (r:=rTerm) rfl Tryz.underlying71 Tryz.sizeOf122 sf7 h0_0 sf9 hix7 (fun g16 o17 cs_g16 hrk_hat18 hat18=>?_)))))
 obtain rfl:=rTerm_iff.1 hrk_hat18
 refine L_lda (cs:=[I x_7.coef,I x_7.lit]) rfl Tryz.isAgg122 Tryz.sizeOf122 rfl (At.sub (AtH.at hat18 Z.sub) 0 2) rfl (L_al (cs:=#[I 0,I 0]) rfl Tryz.zeroValue122 rfl Z (fun g20 w21 Z=>L_staB (vs:=#[I x_7.coef,I x_7.lit]) (cs2:=#[I x_7.coef,I x_7.lit]) 0 rfl Tryz.sizeOf122 rfl rfl rfl (ones_cons rfl (ones_cons rfl ones_nil)) Z rfl (by show 0 + 2≤2; decide) rfl (fun w22 Z=>nq (W_seq ?_))))
 obtain ⟨x28,hx28,hB7⟩:=bind_some hB7
 obtain ⟨b37,hb37,hB7⟩:=bind_some hB7
 obtain ⟨b45,hb45,hB7⟩:=bind_some hB7
 obtain ⟨R46,hR46⟩:=exR fun f w_=>f 1 = Pt g3∧f 5 = Pt g20∧f 7 = v0_0∧f 8 = I (c.terms.length : Int)∧f 9 = I i_5∧f 29 = Bo b45∧Star H w_ ([box g20 122 #[I x_7.coef,I x_7.lit],box g3 73 #[v0_0,I c.bound]])
 refine W_join R46 ?_ ?_
 refine W_region (fA 1 fa_122_1 rfl rfl (ldB 0 Z Tryz.isAgg3 rfl rfl rfl ?_))
 obtain ⟨H47b,l48,s49,z50,k51⟩:=Z.borrow
 refine L_call rfl Tryz.call96 (ops1 rfl) (i_isLiteral_c (l:=x_7.lit) s49 hx28) ?_
 rintro _ w52 ⟨rfl,Z⟩
 have Z:=k51 Z c0
 refine L_not_ rfl rfl (mB rfl (L_split (d:=17) (b:=(!x28)) rfl (fun hc53=>?_) (fun hc53=>?_)))
 rw [ite_t hc53] at hb37
 refine ps rfl (ps rfl (ps rfl (ps rfl (ps rfl (L_pick (v:=Bo b37) rfl rfl (congrArg Value.bool (so hb37)) (mB rfl (L_split (d:=24) (b:=b37) rfl (fun hc54=>?_) (fun hc54=>?_))))))))
 rw [ite_t hc54] at hb45
 refine ps rfl (ps rfl (ps rfl (ps rfl (L_pick (v:=Bo b45) rfl rfl (congrArg Value.bool (so hb45)) (nn (rj hR46 ⟨sf1,rfl,sf7,sf8,sf9,rfl,Z⟩))))))
 rw [ite_f hc54] at hb45
 obtain ⟨x43,hx43,hb45⟩:=bind_some hb45
 refine fA 0 fa_122_0 rfl rfl (ldB 0 Z Tryz.isAgg3 rfl rfl rfl ?_)
 obtain ⟨H55b,l56,s57,z58,k59⟩:=Z.borrow
 refine L_call rfl Tryz.call92 (ops3 rfl rfl rfl) (i_within_c (n_:=x_7.coef) (low:=1) (high:=1000) s57 hx43) ?_
 rintro _ w60 ⟨rfl,Z⟩
 have Z:=k59 Z c0
 refine L_not_ rfl rfl (L_pick (v:=Bo b45) rfl rfl (congrArg Value.bool (so hb45)) (nn (rj hR46 ⟨sf1,rfl,sf7,sf8,sf9,rfl,Z⟩)))
 rw [ite_f hc53] at hb37
 obtain ⟨x35,hx35,hb37⟩:=bind_some hb37
 refine fA 1 fa_122_1 rfl rfl (ldB 0 Z Tryz.isAgg3 rfl rfl rfl ?_)
 obtain ⟨H61b,l62,s63,z64,k65⟩:=Z.borrow
 refine L_call rfl Tryz.call100 (ops1 rfl) (i_variableOf_c (l:=x_7.lit) s63 hx35) ?_
 rintro _ w66 ⟨rfl,Z⟩
 have Z:=k65 Z c0
 refine mF sf3 rfl (L_leq rfl rfl rfl (L_pick (v:=Bo b37) rfl rfl (congrArg Value.bool (so hb37)) (mB rfl (L_split (d:=24) (b:=b37) rfl (fun hc67=>?_) (fun hc67=>?_)))))
 rw [ite_t hc67] at hb45
 refine ps rfl (ps rfl (ps rfl (ps rfl (L_pick (v:=Bo b45) rfl rfl (congrArg Value.bool (so hb45)) (nn (rj hR46 ⟨sf1,rfl,sf7,sf8,sf9,rfl,Z⟩))))))
 rw [ite_f hc67] at hb45
 obtain ⟨x43,hx43,hb45⟩:=bind_some hb45
 refine fA 0 fa_122_0 rfl rfl (ldB 0 Z Tryz.isAgg3 rfl rfl rfl ?_)
 obtain ⟨H68b,l69,s70,z71,k72⟩:=Z.borrow
 refine L_call rfl Tryz.call92 (ops3 rfl rfl rfl) (i_within_c (n_:=x_7.coef) (low:=1) (high:=1000) s70 hx43) ?_
 rintro _ w73 ⟨rfl,Z⟩
 have Z:=k72 Z c0
 refine L_not_ rfl rfl (L_pick (v:=Bo b45) rfl rfl (congrArg Value.bool (so hb45)) (nn (rj hR46 ⟨sf1,rfl,sf7,sf8,sf9,rfl,Z⟩)))
 intro f w_ hR
 obtain ⟨sf1,sf5,sf7,sf8,sf9,sf29,Z⟩:=rk hR46 hR
 refine W_cond (b:=b45) sf29 (fun hc74=>?_) (fun hc74=>?_)
 have hB7:=(ite_t hc74).symm.trans hB7
 refine sq (aB rfl (nn (W_ret (retG1 (v1:=Bo false) Tryz.results130 rfl ?_))))
 obtain rfl:=so hB7
 obtain rfl:=so hL7
 obtain rfl:=so hF
 exact ⟨rfl,(Star.keepN 0 Z)⟩
 have hB7:=(ite_f hc74).symm.trans hB7
 refine W_skip ?_
 obtain ⟨x80,hx80,hB7⟩:=bind_some hB7
 refine W_region (fA 1 fa_122_1 sf5 rfl (ldB 0 Z Tryz.isAgg3 rfl rfl rfl ?_))
 obtain ⟨H82b,l83,s84,z85,k86⟩:=Z.borrow
 refine L_call rfl Tryz.call100 (ops1 rfl) (i_variableOf_c (l:=x_7.lit) s84 hx80) ?_
 rintro _ w87 ⟨rfl,Z⟩
 have Z:=k86 Z c0
 refine aI rfl (nn (W_region (L_add rfl sf9 rfl (mI rfl (nn ?_)))))
 obtain rfl:=so hB7
 have Z:=Z.get 1 rfl
 show ∃ m,m < _∧I7 m _ _
 refine ⟨rest7.length,by simp,?_⟩
 exact ij hI7 ⟨i_5 + 1,rest7,x80,rfl,drop_next hd7,by simp at hl7; omega,hL7,sf1,rfl,sf7,sf8,(Eq.trans rfl (congrArg (Value.int .i64) (i64_succ (n:=c.terms.length) (by simp at hl7; omega) hlen7))),(Star.keepN 1 Z)⟩
 rcases suf7 with _ | ⟨_,_⟩
 obtain rfl:=range_nil hL7
 refine W_exit (rj hR7 ⟨before_6,rfl,sf1,Z⟩)
 exact absurd (of_decide_eq_false hc8) (by simp at hl7; omega)
 intro f w_ hR
 obtain ⟨before_6,rfl,sf1,Z⟩:=rk hR7 hR
 refine W_seq ?_
 obtain ⟨x93,hx93,hF⟩:=bind_some hF
 refine W_region (fA 1 fa_73_1 sf1 rfl (ldB 0 Z Tryz.isAgg3 rfl rfl rfl ?_))
 obtain ⟨H95b,l96,s97,z98,k99⟩:=Z.borrow
 refine L_call rfl Tryz.call92 (ops3 rfl rfl rfl) (i_within_c (n_:=c.bound) (low:=0) (high:=20000) s97 hx93) ?_
 rintro _ w100 ⟨rfl,Z⟩
 have Z:=k99 Z c0
 refine aB rfl (nn (W_ret (retG1 (v1:=Bo x93) Tryz.results130 rfl ?_)))
 obtain rfl:=so hF
 exact ⟨rfl,(Star.keepN 0 Z)⟩
theorem i_Constraint_valid_c {c : Con} {v0_0 : Value} {H : FH} {w : World} {R : List Ass} (Z : Star H w R) (h0_0 : (rS 122 rTerm).rel H [v0_0] c.terms) {r : Con × Bool} (hF : i_Constraint_valid c = some r) :
 C Tryz.prog 144 #[.agg #[v0_0,I c.bound]] w fun v w'=>∃ H' : FH,Le H H'∧∃ (u1 : Value),v = .tuple #[.agg #[u1,I r.1.bound],Bo r.2]∧(rS 122 rTerm).rel H' [u1] r.1.terms∧Star H' w' (R):=by
 unfold i_Constraint_valid at hF
 refine C_enter Tryz.func144 rfl Tryz.ntmps144 rfl (sq (L_box (v:=.agg #[v0_0,I c.bound]) (cs:=#[v0_0,I c.bound]) rfl rfl rfl Z (fun g5 w6 Z=>L_al (cs:=#[S0,I 0]) rfl Tryz.zeroValue73 rfl Z (fun g7 w8 Z=>aB rfl (nq (W_seq ?_))))))
 obtain ⟨x14,hx14,hF⟩:=bind_some hF
 refine W_region (L_lda (cs:=[v0_0,I c.bound]) rfl Tryz.isAgg73 Tryz.sizeOf73 rfl (At.sub0 (Blk.at (Star.blkAt 1 Z rfl)) 0 2) rfl ?_)
 obtain ⟨H16b,l17,s18,z19,k20⟩:=Z.borrow
 refine L_call rfl Tryz.call130 (ops1 rfl) (i_ConstraintValid_c (c:=c) s18 (RP.mono _ h0_0 l17) hx14) ?_
 rintro _ w21 ⟨rfl,Z⟩
 have Z:=k20 Z c0
 refine L_not_ rfl rfl (nn (W_cond (b:=(!x14)) rfl (fun hc22=>?_) (fun hc22=>?_)))
 have hF:=(ite_t hc22).symm.trans hF
 refine sq (L_bld rfl (parts0 ) (bld_73_  ) (L_staB (vs:=#[S0,I 0]) (cs2:=#[S0,I 0]) 0 rfl Tryz.sizeOf73 rfl rfl rfl (ones_cons rfl (ones_cons rfl ones_nil)) Z rfl (by show 0 + 2≤2; decide) rfl (fun w24 Z=>aB rfl (nn (W_ret (retG2 (v1:=.agg #[S0,I 0]) (v2:=Bo false) Tryz.results144 (resV_agg Tryz.isAgg73 Tryz.sizeOf73 rfl (Star.blkAt 0 Z rfl) rfl) rfl ?_))))))
 obtain rfl:=so hF
 have Z:=Star.drop 0 Z rfl
 have Z:=Star.drop 0 Z rfl
 exact ⟨H,(Le.refl _),S0,rfl,(rel_nil _ _ _),Z⟩
 have hF:=(ite_f hc22).symm.trans hF
 refine W_skip (sq (L_lda (cs:=[v0_0,I c.bound]) rfl Tryz.isAgg73 Tryz.sizeOf73 rfl (At.sub0 (Blk.at (Star.blkAt 1 Z rfl)) 0 2) rfl (L_staB (vs:=#[v0_0,I c.bound]) (cs2:=#[v0_0,I c.bound]) 0 rfl Tryz.sizeOf73 rfl rfl rfl (ones_cons (one_len (slice_len h0_0)) (ones_cons rfl ones_nil)) Z rfl (by show 0 + 2≤2; decide) rfl (fun w26 Z=>aB rfl (nn (W_ret (retG2 (v1:=.agg #[v0_0,I c.bound]) (v2:=Bo true) Tryz.results144 (resV_agg Tryz.isAgg73 Tryz.sizeOf73 rfl (Star.blkAt 0 Z rfl) rfl) rfl ?_)))))))
 obtain rfl:=so hF
 have Z:=Star.drop 0 Z rfl
 have Z:=Star.drop 0 Z rfl
 exact ⟨H,(Le.refl _),v0_0,rfl,h0_0,Z⟩
theorem i_normal_c {terms : List Term} {bound : Int} {v0 : Value} {H : FH} {w : World} {R : List Ass} (Z : Star H w R) (h0 : (rS 122 rTerm).rel H [v0] terms) {r : Con × Bool} (hF : i_normal terms bound = some r) :
 C Tryz.prog 102 #[v0,I bound] w fun v w'=>∃ H' : FH,Le H H'∧∃ (u1 : Value),v = .tuple #[.agg #[u1,I r.1.bound],Bo r.2]∧(rS 122 rTerm).rel H' [u1] r.1.terms∧Star H' w' (R):=by
 unfold i_normal at hF
 refine C_enter Tryz.func102 rfl Tryz.ntmps102 rfl (sq (L_al (cs:=#[S0,I 0]) rfl Tryz.zeroValue73 rfl Z (fun g3 w4 Z=>aB rfl (ns (L_al (cs:=arrC (List.replicate 13 (0 : Int))) rfl Tryz.zeroValue149 rfl Z (fun g11 w12 Z=>?_))))))
 have Z:=Star.toArr (List.replicate 13 (0 : Int)) 13 rfl rfl Z
 refine nq (sq (mV v0 rfl (L_len rfl Tryz.underlying71 rfl (slice_len h0) (mI rfl (nn ?_)))))
 have hlen18 : List.length terms≤9223372036854775807:=len_le (slice_len h0)
 obtain ⟨j18,hL18,hF⟩:=bind_some hF
 obtain ⟨R18,hR18⟩:=exR fun f w_=>∃ bound_14 : Int,∃ ag11_15 : List Int,∃ H16 : FH,j18 = .nx (bound_14,ag11_15)∧Le H H16∧f 1 = I bound_14∧f 4 = Pt g3∧f 6 = Pt g11∧Star H16 w_ (arr g11 149 13 ag11_15 :: box g3 73 #[S0,I 0] :: R)
 refine W_join R18 ?_ ?_
 refine W_block ?_
 obtain ⟨I18,hI18⟩:=exI fun n f w_=>∃ i_13 : Nat,∃ suf18 : List Term,∃ bound_14 : Int,∃ ag11_15 : List Int,∃ H16 : FH,n = suf18.length∧List.drop i_13 terms = suf18∧i_13 + suf18.length = terms.length∧rangeL i_normal_b1 suf18 i_13 (bound_14,ag11_15) = some j18∧Le H H16∧f 1 = I bound_14∧f 4 = Pt g3∧f 6 = Pt g11∧f 12 = v0∧f 13 = I (terms.length : Int)∧f 14 = I i_13∧Star H16 w_ (arr g11 149 13 ag11_15 :: box g3 73 #[S0,I 0] :: R)
 refine W_loop I18 (n:=terms.length) ?_ ?_
 exact ij hI18 ⟨0,terms,bound,(List.replicate 13 (0 : Int)),H,rfl,rfl,Nat.zero_add _,hL18,(Le.refl _),rfl,rfl,rfl,rfl,rfl,rfl,Z⟩
 intro n18 f w_ hI
 obtain ⟨i_13,suf18,bound_14,ag11_15,H16,rfl,hd18,hl18,hL18,l17,sf1,sf4,sf6,sf12,sf13,sf14,Z⟩:=ik hI18 hI
 refine sq (L_lss rfl sf14 sf13 (nq (W_cond (b:=decide ((i_13 : Int) < (terms.length : Int))) rfl (fun hc19=>?_) (fun hc19=>?_))))
 have hlt18:=of_decide_eq_true hc19
 rcases suf18 with _ | ⟨x_18,rest18⟩
 exact absurd hlt18 (by simp at hl18; omega)
 obtain ⟨o18,hB18,hL18⟩:=range_cons hL18
 rw [i_normal_b1] at hB18
 have hix18:=drop_idx hd18
 refine W_skip (W_seq (W_block (sq (L_ix (r:=rTerm) rfl Tryz.underlying71 Tryz.sizeOf122 sf12 (RP.mono _ h0 l17) sf14 hix18 (fun g27 o28 cs_g27 hrk_hat29 hat29=>?_)))))
 obtain rfl:=rTerm_iff.1 hrk_hat29
 refine L_lda (cs:=[I x_18.coef,I x_18.lit]) rfl Tryz.isAgg122 Tryz.sizeOf122 rfl (At.sub (AtH.at hat29 Z.sub) 0 2) rfl (L_al (cs:=#[I 0,I 0]) rfl Tryz.zeroValue122 rfl Z (fun g31 w32 Z=>L_staB (vs:=#[I x_18.coef,I x_18.lit]) (cs2:=#[I x_18.coef,I x_18.lit]) 0 rfl Tryz.sizeOf122 rfl rfl rfl (ones_cons rfl (ones_cons rfl ones_nil)) Z rfl (by show 0 + 2≤2; decide) rfl (fun w33 Z=>ns (fA 1 fa_122_1 rfl rfl (ldB 0 Z Tryz.isAgg3 rfl rfl rfl (L_lss rfl rfl rfl (nn ?_)))))))
 obtain ⟨⟨bound_34,ag11_35⟩,hA38,hB18⟩:=bind_some hB18
 obtain ⟨R38,hR38⟩:=exR fun f w_=>∃ H36 : FH,Le H16 H36∧f 1 = I bound_34∧f 4 = Pt g3∧f 6 = Pt g11∧f 12 = v0∧f 13 = I (terms.length : Int)∧f 14 = I i_13∧Star H36 w_ (arr g11 149 13 ag11_35 :: box g3 73 #[S0,I 0] :: R)
 refine W_join R38 ?_ ?_
 refine W_cond (b:=decide (x_18.lit < 0)) rfl (fun hc39=>?_) (fun hc39=>?_)
 have hA38:=(ite_t hc39).symm.trans hA38
 refine sq (mF sf1 rfl (fA 0 fa_122_0 rfl rfl (ldB 0 Z Tryz.isAgg3 rfl rfl rfl (L_sub rfl rfl rfl (aI rfl (nn ?_))))))
 obtain ⟨x40,hx40,hA38⟩:=bind_some hA38
 refine W_drawS 7 [isV (Pq g31 1),isV (I x_18.lit),isV (I (i64 (-x_18.lit))),isV (.pointer (some ⟨g11,Int.toNat (i64 (-x_18.lit)) * 1,none⟩)),isV (I x40),isV (Pt g31),isV (I x_18.coef)] [box g31 122 #[I x_18.coef,I x_18.lit],arr g11 149 13 ag11_15,box g3 73 #[S0,I 0]] [] (R) [([],[]),([],[]),([],[]),([],[]),([],[]),([],[]),([],[])] (S:=[]) Tryz_mix (by kernel_rfl) rfl (by kernel_rfl) (amF_cons (mono_V _) (amF_cons (mono_V _) (amF_cons (mono_V _) (amF_cons (mono_V _) (amF_cons (mono_V _) (amF_cons (mono_V _) (amF_cons (mono_V _) amF_nil))))))) Z ?_ (fun f w_ H42 hS42 hE42 hT42 Z=>?_)
 refine opsS_cons (fun f w_ _ _ s _ _ Z=>fA 1 fa_122_1 ((s 8 rfl).trans rfl) rfl (nO rfl rfl Z)) (opsS_cons (fun f w_ _ _ _ _ p Z=>ldB 0 Z Tryz.isAgg3 (p 0 25 rfl rfl) rfl rfl (nO rfl rfl Z)) (opsS_cons (fun f w_ _ _ _ _ p Z=>L_neg rfl (p 1 26 rfl rfl) (nO rfl rfl Z)) (opsS_cons (fun f w_ _ _ s _ p Z=>L_ixA 1 rfl Tryz.underlying149 Tryz.sizeOf3 ((s 6 rfl).trans sf6) (p 2 27 rfl rfl) Z rfl hx40 (nO rfl rfl Z)) (opsS_cons (fun f w_ _ _ _ _ p Z=>L_ldA 1 rfl Tryz.isAgg3 (p 3 28 rfl rfl) Z rfl hx40 (nO rfl rfl Z)) (opsS_cons (fun f w_ _ _ s _ _ Z=>fA 0 fa_122_0 ((s 8 rfl).trans rfl) rfl (nO rfl rfl Z)) (opsS_cons (fun f w_ _ _ _ _ p Z=>ldB 0 Z Tryz.isAgg3 (p 5 30 rfl rfl) rfl rfl (nO rfl rfl Z)) (opsS_nil)))))))
 refine L_sub rfl (hT42 4 29 rfl rfl) (hT42 6 31 rfl rfl) (L_ixA 1 rfl Tryz.underlying149 Tryz.sizeOf3 ((hS42 6 rfl).trans sf6) (hT42 2 27 rfl rfl) Z rfl hx40 ?_)
 have Z:=Z.get 1 rfl
 refine L_stA rfl Tryz.sizeOf3 rfl rfl Z hx40 (fun w43 Z=>nn ?_)
 obtain ⟨rfl,rfl⟩:=so2 hA38
 have Z:=Z.gets [2,1] rfl
 have Z:=Star.drop 2 Z rfl
 exact rj hR38 ⟨H42,hE42,((hS42 1 rfl).trans rfl),((hS42 4 rfl).trans sf4),((hS42 6 rfl).trans sf6),((hS42 12 rfl).trans sf12),((hS42 13 rfl).trans sf13),((hS42 14 rfl).trans sf14),Z⟩
 have hA38:=(ite_f hc39).symm.trans hA38
 obtain ⟨x44,hx44,hA38⟩:=bind_some hA38
 refine W_drawS 6 [isV (Pq g31 1),isV (I x_18.lit),isV (.pointer (some ⟨g11,Int.toNat x_18.lit * 1,none⟩)),isV (I x44),isV (Pt g31),isV (I x_18.coef)] [box g31 122 #[I x_18.coef,I x_18.lit],arr g11 149 13 ag11_15,box g3 73 #[S0,I 0]] [] (R) [([],[]),([],[]),([],[]),([],[]),([],[]),([],[])] (S:=[]) Tryz_mix (by kernel_rfl) rfl (by kernel_rfl) (amF_cons (mono_V _) (amF_cons (mono_V _) (amF_cons (mono_V _) (amF_cons (mono_V _) (amF_cons (mono_V _) (amF_cons (mono_V _) amF_nil)))))) Z ?_ (fun f w_ H46 hS46 hE46 hT46 Z=>?_)
 refine opsS_cons (fun f w_ _ _ s _ _ Z=>fA 1 fa_122_1 ((s 8 rfl).trans rfl) rfl (nO rfl rfl Z)) (opsS_cons (fun f w_ _ _ _ _ p Z=>ldB 0 Z Tryz.isAgg3 (p 0 34 rfl rfl) rfl rfl (nO rfl rfl Z)) (opsS_cons (fun f w_ _ _ s _ p Z=>L_ixA 1 rfl Tryz.underlying149 Tryz.sizeOf3 ((s 6 rfl).trans sf6) (p 1 35 rfl rfl) Z rfl hx44 (nO rfl rfl Z)) (opsS_cons (fun f w_ _ _ _ _ p Z=>L_ldA 1 rfl Tryz.isAgg3 (p 2 36 rfl rfl) Z rfl hx44 (nO rfl rfl Z)) (opsS_cons (fun f w_ _ _ s _ _ Z=>fA 0 fa_122_0 ((s 8 rfl).trans rfl) rfl (nO rfl rfl Z)) (opsS_cons (fun f w_ _ _ _ _ p Z=>ldB 0 Z Tryz.isAgg3 (p 4 38 rfl rfl) rfl rfl (nO rfl rfl Z)) (opsS_nil))))))
 refine L_add rfl (hT46 3 37 rfl rfl) (hT46 5 39 rfl rfl) (L_ixA 1 rfl Tryz.underlying149 Tryz.sizeOf3 ((hS46 6 rfl).trans sf6) (hT46 1 35 rfl rfl) Z rfl hx44 ?_)
 have Z:=Z.get 1 rfl
 refine L_stA rfl Tryz.sizeOf3 rfl rfl Z hx44 (fun w47 Z=>nn ?_)
 obtain ⟨rfl,rfl⟩:=so2 hA38
 have Z:=Z.gets [2,1] rfl
 have Z:=Star.drop 2 Z rfl
 exact rj hR38 ⟨H46,hE46,((hS46 1 rfl).trans sf1),((hS46 4 rfl).trans sf4),((hS46 6 rfl).trans sf6),((hS46 12 rfl).trans sf12),((hS46 13 rfl).trans sf13),((hS46 14 rfl).trans sf14),Z⟩
 intro f w_ hR
 obtain ⟨H36,l37,sf1,sf4,sf6,sf12,sf13,sf14,Z⟩:=rk hR38 hR
 refine W_region (L_add rfl sf14 rfl (mI rfl (nn ?_)))
 obtain rfl:=so hB18
 show ∃ m,m < _∧I18 m _ _
 refine ⟨rest18.length,by simp,?_⟩
 exact ij hI18 ⟨i_13 + 1,rest18,bound_34,ag11_35,H36,rfl,drop_next hd18,by simp at hl18; omega,hL18,(Le.trans l17 l37),sf1,sf4,sf6,sf12,sf13,(Eq.trans rfl (congrArg (Value.int .i64) (i64_succ (n:=terms.length) (by simp at hl18; omega) hlen18))),Z⟩
 rcases suf18 with _ | ⟨_,_⟩
 obtain rfl:=range_nil hL18
 refine W_exit (rj hR18 ⟨bound_14,ag11_15,H16,rfl,l17,sf1,sf4,sf6,Z⟩)
 exact absurd (of_decide_eq_false hc19) (by simp at hl18; omega)
 intro f w_ hR
 obtain ⟨bound_14,ag11_15,H16,rfl,l17,sf1,sf4,sf6,Z⟩:=rk hR18 hR
 refine sq (L_bld rfl (parts0 ) (bld_73_  ) (L_al (cs:=#[S0,I 0]) rfl Tryz.zeroValue73 rfl Z (fun g51 w52 Z=>L_staB (vs:=#[S0,I 0]) (cs2:=#[S0,I 0]) 0 rfl Tryz.sizeOf73 rfl rfl rfl (ones_cons rfl (ones_cons rfl ones_nil)) Z rfl (by show 0 + 2≤2; decide) rfl (fun w53 Z=>nq (sq ?_)))))
 have hla55:=(Star.arrAt 1 Z rfl).2
 refine L_ldAA 1 rfl Tryz.isAgg149 Tryz.sizeOf149 sf6 Z rfl (mI rfl (nn ?_))
 obtain ⟨k61,hk61,hF⟩:=bind_some hF
 obtain ⟨j60,hL60,hF⟩:=bind_some hF
 obtain ⟨R60,hR60⟩:=exR fun f w_=>∃ bound_57 : Int,∃ g51_0_58 : List Term,∃ v58_g51_0 : Value,j60 = .nx (bound_57,g51_0_58)∧f 1 = I bound_57∧f 4 = Pt g3∧f 9 = Pt g51∧Star H16 w_ (oF 122 rTerm v58_g51_0 g51_0_58 :: box g51 73 #[v58_g51_0,I 0] :: box g3 73 #[S0,I 0] :: R)
 refine W_join R60 ?_ ?_
 refine W_block ?_
 obtain ⟨I60,hI60⟩:=exI fun n f w_=>∃ i_56 : Nat,∃ suf60 : Nat,∃ bound_57 : Int,∃ g51_0_58 : List Term,∃ v58_g51_0 : Value,suf60 = n∧0≤i_56∧i_56 + suf60 = 0 + k61∧countL (i_normal_b2 ag11_15) suf60 i_56 (bound_57,g51_0_58) = some j60∧f 1 = I bound_57∧f 4 = Pt g3∧f 9 = Pt g51∧f 44 = (.agg (arrC ag11_15))∧f 45 = I i_56∧Star H16 w_ (oF 122 rTerm v58_g51_0 g51_0_58 :: box g51 73 #[v58_g51_0,I 0] :: box g3 73 #[S0,I 0] :: R)
 have Z:=Star.addNil (R:=(OR.frz rTerm)) (e:=122) Z
 have Z:=Z.gets [3,2,2] rfl
 have Z:=Star.drop 3 Z rfl
 refine W_loop I60 (n:=k61) ?_ ?_
 exact ij hI60 ⟨0,k61,bound_14,[],S0,rfl,Nat.le_refl _,rfl,hL60,sf1,sf4,rfl,rfl,rfl,Z⟩
 intro n60 f w_ hI
 obtain ⟨i_56,suf60,bound_57,g51_0_58,v58_g51_0,rfl,hs60,hl60,hL60,sf1,sf4,sf9,sf44,sf45,Z⟩:=ik hI60 hI
 refine sq (L_lss rfl sf45 rfl (nq (W_cond (b:=decide ((i_56 : Int) < 13)) rfl (fun hc63=>?_) (fun hc63=>?_))))
 have hlt60:=of_decide_eq_true hc63
 rcases suf60 with _ | rest60
 exact absurd hlt60 (cntF_no hl60 hk61)
 obtain ⟨o60,hB60,hL60⟩:=count_succ hL60
 rw [i_normal_b2] at hB60
 refine W_skip (W_seq (W_block (W_seq ?_)))
 obtain ⟨x64,hx64,hB60⟩:=bind_some hB60
 refine W_region (mF sf45 rfl (L_ixV rfl Tryz.underlying149 Tryz.sizeOf3 Tryz.isAgg3 sf44 sf45 hla55 hx64 (aI rfl (aI rfl (nn (W_block (sq (mI rfl (L_gtr rfl rfl rfl (aB rfl (nn ?_)))))))))))
 obtain ⟨⟨bound_65,g51_0_66⟩,hA68,hB60⟩:=bind_some hB60
 obtain ⟨R68,hR68⟩:=exR fun f w_=>∃ v66_g51_0 : Value,f 1 = I bound_65∧f 4 = Pt g3∧f 9 = Pt g51∧f 44 = (.agg (arrC ag11_15))∧f 45 = I i_56∧Star H16 w_ (oF 122 rTerm v66_g51_0 g51_0_66 :: box g51 73 #[v66_g51_0,I 0] :: box g3 73 #[S0,I 0] :: R)
 refine W_join R68 ?_ ?_
 refine W_cond (b:=decide (x64 > 0)) rfl (fun hc69=>?_) (fun hc69=>?_)
 have hA68:=(ite_t hc69).symm.trans hA68
 obtain ⟨x73,hx73,hA68⟩:=bind_some hA68
 refine W_region (fA 0 fa_73_0 sf9 rfl (ldB 1 Z Tryz.isAgg71 rfl rfl rfl (mI rfl (mI rfl (L_bld rfl (parts2 rfl rfl) (bld_122_0_1 (I x64) (I i_56) rfl rfl) (L_bs rfl (parts1 rfl) (bs_71_1_2 (I x64) (I i_56) ) Z (fun g78 w79 Z=>?_)))))))
 have Z:=Star.addF (r:=rTerm) (cs:=[I x64,I i_56]) (x:=({ coef:=x64,lit:=(i_56 : Int) } : Term)) Z (rTerm_iff.2 rfl)
 have Z:=Star.mkRow (R:=(OR.frz rTerm)) [([I x64,I i_56],({ coef:=x64,lit:=(i_56 : Int) } : Term))] [({ coef:=x64,lit:=(i_56 : Int) } : Term)] 1 Z rfl rfl rfl (by decide)
 have Z:=Z.get 1 rfl
 refine L_appM (v:=v58_g51_0) (u:=(Sl g78 1 1)) rfl et_71 rfl rfl Z hx73 (fun v81 w82 Z=>fA 0 fa_73_0 sf9 rfl (L_stB (v:=v81) (cs2:=#[v81,I 0]) 1 rfl Tryz.sizeOf71 rfl rfl (one_len (Star.len 0 Z rfl)) Z rfl rfl rfl (fun w84 Z=>nn ?_)))
 obtain ⟨rfl,rfl⟩:=so2 hA68
 have Z:=Z.gets [2,1,2] rfl
 exact rj hR68 ⟨v81,sf1,sf4,sf9,sf44,sf45,Z⟩
 have hA68:=(ite_f hc69).symm.trans hA68
 refine sq (mI rfl (L_lss rfl rfl rfl (aB rfl (nn ?_))))
 obtain ⟨⟨bound_85,g51_0_86⟩,hA88,hA68⟩:=bind_some hA68
 obtain ⟨R88,hR88⟩:=exR fun f w_=>∃ v86_g51_0 : Value,f 1 = I bound_85∧f 4 = Pt g3∧f 9 = Pt g51∧f 44 = (.agg (arrC ag11_15))∧f 45 = I i_56∧Star H16 w_ (oF 122 rTerm v86_g51_0 g51_0_86 :: box g51 73 #[v86_g51_0,I 0] :: box g3 73 #[S0,I 0] :: R)
 refine W_join R88 ?_ ?_
 refine W_cond (b:=decide (x64 < 0)) rfl (fun hc89=>?_) (fun hc89=>?_)
 have hA88:=(ite_t hc89).symm.trans hA88
 refine W_seq ?_
 obtain ⟨x93,hx93,hA88⟩:=bind_some hA88
 refine W_region (fA 0 fa_73_0 sf9 rfl (ldB 1 Z Tryz.isAgg71 rfl rfl rfl (mI rfl (L_neg rfl rfl (mI rfl (L_neg rfl rfl (L_bld rfl (parts2 rfl rfl) (bld_122_0_1 (I (i64 (-x64))) (I (i64 (-(i_56 : Int)))) rfl rfl) (L_bs rfl (parts1 rfl) (bs_71_1_2 (I (i64 (-x64))) (I (i64 (-(i_56 : Int)))) ) Z (fun g98 w99 Z=>?_)))))))))
 have Z:=Star.addF (r:=rTerm) (cs:=[I (i64 (-x64)),I (i64 (-(i_56 : Int)))]) (x:=({ coef:=i64 (-x64),lit:=i64 (-(i_56 : Int)) } : Term)) Z (rTerm_iff.2 rfl)
 have Z:=Star.mkRow (R:=(OR.frz rTerm)) [([I (i64 (-x64)),I (i64 (-(i_56 : Int)))],({ coef:=i64 (-x64),lit:=i64 (-(i_56 : Int)) } : Term))] [({ coef:=i64 (-x64),lit:=i64 (-(i_56 : Int)) } : Term)] 1 Z rfl rfl rfl (by decide)
 have Z:=Z.get 1 rfl
 refine L_appM (v:=v58_g51_0) (u:=(Sl g98 1 1)) rfl et_71 rfl rfl Z hx93 (fun v101 w102 Z=>fA 0 fa_73_0 sf9 rfl (L_stB (v:=v101) (cs2:=#[v101,I 0]) 1 rfl Tryz.sizeOf71 rfl rfl (one_len (Star.len 0 Z rfl)) Z rfl rfl rfl (fun w104 Z=>nn (W_region (mF sf1 rfl (mI rfl (L_sub rfl rfl rfl (aI rfl (nn ?_)))))))))
 obtain ⟨rfl,rfl⟩:=so2 hA88
 have Z:=Z.gets [2,1,2] rfl
 exact rj hR88 ⟨v101,rfl,sf4,sf9,sf44,sf45,Z⟩
 have hA88:=(ite_f hc89).symm.trans hA88
 refine W_skip ?_
 obtain ⟨rfl,rfl⟩:=so2 hA88
 exact rj hR88 ⟨v58_g51_0,sf1,sf4,sf9,sf44,sf45,Z⟩
 intro f w_ hR
 obtain ⟨v86_g51_0,sf1,sf4,sf9,sf44,sf45,Z⟩:=rk hR88 hR
 obtain ⟨rfl,rfl⟩:=so2 hA68
 exact rj hR68 ⟨v86_g51_0,sf1,sf4,sf9,sf44,sf45,Z⟩
 intro f w_ hR
 obtain ⟨v66_g51_0,sf1,sf4,sf9,sf44,sf45,Z⟩:=rk hR68 hR
 refine W_region (L_add rfl sf45 rfl (mI rfl (nn ?_)))
 obtain rfl:=so hB60
 show ∃ m,m < _∧I60 m _ _
 refine ⟨rest60,Nat.lt_succ_self _,?_⟩
 exact ij hI60 ⟨i_56 + 1,rest60,bound_65,g51_0_66,v66_g51_0,rfl,by omega,by omega,hL60,sf1,sf4,sf9,sf44,(Eq.trans rfl (congrArg (Value.int .i64) (i64_succ (n:=0 + k61) (by omega) (cntF_le hk61)))),Z⟩
 rcases suf60 with _ | _
 obtain rfl:=count_zero hL60
 refine W_exit (rj hR60 ⟨bound_57,g51_0_58,v58_g51_0,rfl,sf1,sf4,sf9,Z⟩)
 exact absurd (cntF_yes hs60 hl60 hk61) (of_decide_eq_false hc63)
 intro f w_ hR
 obtain ⟨bound_57,g51_0_58,v58_g51_0,rfl,sf1,sf4,sf9,Z⟩:=rk hR60 hR
 refine sq (mF sf1 rfl (L_max rfl rfl rfl (fA 1 fa_73_1 sf9 rfl (L_stB (v:=I (max 0 bound_57)) (cs2:=#[v58_g51_0,I (max 0 bound_57)]) 1 rfl Tryz.sizeOf3 rfl rfl rfl Z rfl rfl rfl (fun w106 Z=>nq ?_)))))
 obtain ⟨x110,hx110,hF⟩:=bind_some hF
 refine W_region (L_lda (cs:=[v58_g51_0,I (max 0 bound_57)]) rfl Tryz.isAgg73 Tryz.sizeOf73 sf9 (At.sub0 (Blk.at (Star.blkAt 0 Z rfl)) 0 2) rfl ?_)
 have Z:=Z.get 1 rfl
 obtain ⟨H113,l114,Z,hz115⟩:=Star.freeze Z
 have hz115 : (rS 122 rTerm).rel H113 [v58_g51_0] g51_0_58:=hz115
 refine L_call rfl Tryz.call144 (ops1 rfl) (i_Constraint_valid_c (c:=({ terms:=g51_0_58,bound:=max 0 bound_57 } : Con)) Z hz115 hx110) ?_
 rintro _ w116 ⟨H116,l116,r116_0,rfl,hr116_0,Z⟩
 refine L_ex (v:=.agg #[r116_0,I x110.1.bound]) rfl rfl rfl (L_ex (v:=Bo x110.2) rfl rfl rfl (L_staB (vs:=#[r116_0,I x110.1.bound]) (cs2:=#[r116_0,I x110.1.bound]) 1 rfl Tryz.sizeOf73 sf4 rfl rfl (ones_cons (one_len (slice_len hr116_0)) (ones_cons rfl ones_nil)) Z rfl (by show 0 + 2≤2; decide) rfl (fun w117 Z=>aB rfl (nn (W_ret (retG2 (v1:=.agg #[r116_0,I x110.1.bound]) (v2:=Bo x110.2) Tryz.results102 (resV_agg Tryz.isAgg73 Tryz.sizeOf73 sf4 (Star.blkAt 0 Z rfl) rfl) rfl ?_))))))
 obtain rfl:=so hF
 have Z:=Star.drop 0 Z rfl
 have Z:=Star.drop 0 Z rfl
 exact ⟨H116,(Le.trans (Le.trans l17 l114) l116),r116_0,rfl,hr116_0,Z⟩
theorem cmp_isNaN_int_c {x : Int} {H : FH} {w : World} (Z : Star H w []) {r : Bool} (hF : cmp_isNaN_int x = some r) :
 C Tryz.prog 211 #[I x] w fun v w'=>v = Bo r∧Star H w' []:=by
 unfold cmp_isNaN_int at hF
 refine C_enter Tryz.func211 rfl Tryz.ntmps211 rfl (sq (aB rfl (ns (mI rfl (mI rfl (L_neq rfl rfl rfl (aB rfl (nn (W_ret (retG1 (v1:=Bo (x != x)) Tryz.results211 rfl ?_))))))))))
 obtain rfl:=so hF
 exact ⟨rfl,Z⟩
theorem cmp_Less_int_c {x : Int} {y : Int} {H : FH} {w : World} (Z : Star H w []) {r : Bool} (hF : cmp_Less_int x y = some r) :
 C Tryz.prog 186 #[I x,I y] w fun v w'=>v = Bo r∧Star H w' []:=by
 unfold cmp_Less_int at hF
 refine C_enter Tryz.func186 rfl Tryz.ntmps186 rfl (sq (aB rfl (nq ?_)))
 obtain ⟨x6,hx6,hF⟩:=bind_some hF
 obtain ⟨b15,hb15,hF⟩:=bind_some hF
 obtain ⟨R16,hR16⟩:=exR fun f w_=>f 4 = Bo (b15 || (decide (x < y)))∧Star H w_ ([])
 refine W_join R16 ?_ ?_
 refine W_region (mI rfl ?_)
 obtain ⟨H17b,l18,s19,z20,k21⟩:=Z.borrow
 refine L_call rfl Tryz.call211 (ops1 rfl) (cmp_isNaN_int_c (x:=x) s19 hx6) ?_
 rintro _ w22 ⟨rfl,Z⟩
 have Z:=k21 Z c0
 refine mB rfl (L_split (d:=7) (b:=x6) rfl (fun hc23=>?_) (fun hc23=>?_))
 rw [ite_t hc23] at hb15
 obtain ⟨x13,hx13,hb15⟩:=bind_some hb15
 refine mI rfl ?_
 obtain ⟨H24b,l25,s26,z27,k28⟩:=Z.borrow
 refine L_call rfl Tryz.call211 (ops1 rfl) (cmp_isNaN_int_c (x:=y) s26 hx13) ?_
 rintro _ w29 ⟨rfl,Z⟩
 have Z:=k28 Z c0
 refine L_not_ rfl rfl (L_pick (v:=Bo b15) rfl rfl (congrArg Value.bool (so hb15)) (mB rfl (L_split (d:=12) (b:=b15) rfl (fun hc30=>?_) (fun hc30=>?_))))
 refine ps rfl (ps rfl (ps rfl (L_pick (v:=Bo (b15 || (decide (x < y)))) rfl rfl (or_t hc30) (aB rfl (nn (rj hR16 ⟨rfl,Z⟩))))))
 refine mI rfl (mI rfl (L_lss rfl rfl rfl (L_pick (v:=Bo (b15 || (decide (x < y)))) rfl rfl (or_f hc30 rfl) (aB rfl (nn (rj hR16 ⟨rfl,Z⟩))))))
 rw [ite_f hc23] at hb15
 refine ps rfl (ps rfl (ps rfl (L_pick (v:=Bo b15) rfl rfl (congrArg Value.bool (so hb15)) (mB rfl (L_split (d:=12) (b:=b15) rfl (fun hc31=>?_) (fun hc31=>?_))))))
 refine ps rfl (ps rfl (ps rfl (L_pick (v:=Bo (b15 || (decide (x < y)))) rfl rfl (or_t hc31) (aB rfl (nn (rj hR16 ⟨rfl,Z⟩))))))
 refine mI rfl (mI rfl (L_lss rfl rfl rfl (L_pick (v:=Bo (b15 || (decide (x < y)))) rfl rfl (or_f hc31 rfl) (aB rfl (nn (rj hR16 ⟨rfl,Z⟩))))))
 intro f w_ hR
 obtain ⟨sf4,Z⟩:=rk hR16 hR
 refine W_ret (retG1 (v1:=Bo (b15 || (decide (x < y)))) Tryz.results186 sf4 ?_)
 obtain rfl:=so hF
 exact ⟨rfl,Z⟩
theorem slices_insertionSortOrdered_int_c {fu : Nat} {data : List Int} {a : Int} {b : Int} {v0 : Value} {H : FH} {w : World} (Z : Star H w [oF 3 RP.int v0 data]) {r : List Int} (hF : slices_insertionSortOrdered_int fu data a b = some r) :
 C Tryz.prog 180 #[v0,I a,I b] w fun v w'=>v = .tuple #[]∧Star H w' [oF 3 RP.int v0 r]:=by
 unfold slices_insertionSortOrdered_int at hF
 refine C_enter Tryz.func180 rfl Tryz.ntmps180 rfl (sq (mI rfl (L_add rfl rfl rfl (aI rfl (nn ?_)))))
 obtain ⟨j6,hL6,hF⟩:=bind_some hF
 obtain ⟨R6,hR6⟩:=exR fun f w_=>∃ data_2 : List Int,∃ i_3 : Int,∃ H4 : FH,j6 = .nx (data_2,i_3)∧Le H H4∧Star H4 w_ ([oF 3 RP.int v0 data_2])
 refine W_join R6 ?_ ?_
 refine W_block ?_
 obtain ⟨I6,hI6⟩:=exI fun n f w_=>∃ data_2 : List Int,∃ i_3 : Int,∃ H4 : FH,whileL (slices_insertionSortOrdered_int_b1 fu a b) n (data_2,i_3) = some j6∧Le H H4∧f 0 = v0∧f 1 = I a∧f 2 = I b∧f 6 = I i_3∧Star H4 w_ ([oF 3 RP.int v0 data_2])
 refine W_loop I6 (n:=fu) ?_ ?_
 exact ij hI6 ⟨data,i64 (a + 1),H,hL6,(Le.refl _),rfl,rfl,rfl,rfl,Z⟩
 intro n6 f w_ hI
 obtain ⟨data_2,i_3,H4,hL6,l5,sf0,sf1,sf2,sf6,Z⟩:=ik hI6 hI
 rcases n6 with _ | n6
 exact (while_zero hL6).elim
 obtain ⟨o6,hB6,hL6⟩:=while_succ hL6
 rw [slices_insertionSortOrdered_int_b1] at hB6
 refine W_seq (sq (mF sf6 rfl (mF sf2 rfl (L_lss rfl rfl rfl (nn (W_cond (b:=decide (i_3 < b)) rfl (fun hc7=>?_) (fun hc7=>?_)))))))
 have hB6:=(ite_t hc7).symm.trans hB6
 refine W_skip (W_seq (W_block (sq (mF sf6 rfl (aI rfl (nn ?_))))))
 obtain ⟨j13,hL13,hB6⟩:=bind_some hB6
 obtain ⟨R13,hR13⟩:=exR fun f w_=>∃ data_9 : List Int,∃ j_10 : Int,∃ H11 : FH,j13 = .nx (data_9,j_10)∧Le H4 H11∧f 0 = v0∧f 1 = I a∧f 2 = I b∧f 6 = I i_3∧Star H11 w_ ([oF 3 RP.int v0 data_9])
 refine W_join R13 ?_ ?_
 refine W_block ?_
 obtain ⟨I13,hI13⟩:=exI fun n f w_=>∃ data_9 : List Int,∃ j_10 : Int,∃ H11 : FH,whileL (slices_insertionSortOrdered_int_b2 a) n (data_9,j_10) = some j13∧Le H4 H11∧f 0 = v0∧f 1 = I a∧f 2 = I b∧f 6 = I i_3∧f 7 = I j_10∧Star H11 w_ ([oF 3 RP.int v0 data_9])
 refine W_loop I13 (n:=fu) ?_ ?_
 exact ij hI13 ⟨data_2,i_3,H4,hL13,(Le.refl _),sf0,sf1,sf2,sf6,rfl,Z⟩
 intro n13 f w_ hI
 obtain ⟨data_9,j_10,H11,hL13,l12,sf0,sf1,sf2,sf6,sf7,Z⟩:=ik hI13 hI
 rcases n13 with _ | n13
 exact (while_zero hL13).elim
 obtain ⟨o13,hB13,hL13⟩:=while_succ hL13
 rw [slices_insertionSortOrdered_int_b2] at hB13
 refine W_seq (W_seq ?_)
 obtain ⟨b29,hb29,hB13⟩:=bind_some hB13
 obtain ⟨R33,hR33⟩:=exR fun f w_=>∃ H31 : FH,Le H11 H31∧f 0 = v0∧f 1 = I a∧f 2 = I b∧f 6 = I i_3∧f 7 = I j_10∧f 30 = Bo b29∧Star H31 w_ ([oF 3 RP.int v0 data_9])
 refine W_join R33 ?_ ?_
 rcases Bool.eq_false_or_eq_true (decide (j_10 > a)) with hc34 | hc34
 rw [ite_t hc34] at hb29
 obtain ⟨x14,hx14,hb29⟩:=bind_some hb29
 obtain ⟨x19,hx19,hb29⟩:=bind_some hb29
 obtain ⟨x27,hx27,hb29⟩:=bind_some hb29
 obtain ⟨g35,cap_g35,hv36,_,_⟩:=Star.row 0 Z rfl hx14
 refine W_drawS 13 [isV (I j_10),isV (I a),isV (Bo (decide (j_10 > a))),isV (Bo (decide (j_10 > a))),isV (v0),isV (I j_10),isV (.pointer (some ⟨g35,Int.toNat j_10 * 1,none⟩)),isV (I x14),isV (v0),isV (I j_10),isV (I (i64 (j_10 - 1))),isV (.pointer (some ⟨g35,Int.toNat (i64 (j_10 - 1)) * 1,none⟩)),isV (I x19)] [oF 3 RP.int v0 data_9] [] ([]) [([],[]),([],[]),([],[]),([],[]),([],[]),([],[]),([],[]),([],[]),([],[]),([],[]),([],[]),([],[]),([],[])] (S:=[]) Tryz_mix (by kernel_rfl) rfl (by kernel_rfl) (amF_cons (mono_V _) (amF_cons (mono_V _) (amF_cons (mono_V _) (amF_cons (mono_V _) (amF_cons (mono_V _) (amF_cons (mono_V _) (amF_cons (mono_V _) (amF_cons (mono_V _) (amF_cons (mono_V _) (amF_cons (mono_V _) (amF_cons (mono_V _) (amF_cons (mono_V _) (amF_cons (mono_V _) amF_nil))))))))))))) Z ?_ (fun f w_ H30 hS30 hE30 hT30 Z=>?_)
 refine opsS_cons (fun f w_ _ _ s _ _ Z=>mF ((s 7 rfl).trans sf7) rfl (nO rfl rfl Z)) (opsS_cons (fun f w_ _ _ s _ _ Z=>mF ((s 1 rfl).trans sf1) rfl (nO rfl rfl Z)) (opsS_cons (fun f w_ _ _ _ _ p Z=>L_gtr rfl (p 0 16 rfl rfl) (p 1 17 rfl rfl) (nO rfl rfl Z)) (opsS_cons (fun f w_ _ _ _ _ p Z=>mF (p 2 18 rfl rfl) rfl (nO rfl rfl Z)) (opsS_cons (fun f w_ _ _ s _ p Z=>L_mv (v:=v0) (g_yes rfl (Eq.trans (p 3 19 rfl rfl) (congrArg Value.bool hc34)) rfl) ((s 0 rfl).trans sf0) (nO rfl rfl Z)) (opsS_cons (fun f w_ _ _ s _ p Z=>L_mv (v:=I j_10) (g_yes rfl (Eq.trans (p 3 19 rfl rfl) (congrArg Value.bool hc34)) rfl) ((s 7 rfl).trans sf7) (nO rfl rfl Z)) (opsS_cons (fun f w_ _ _ _ _ p Z=>L_ixO (R:=(OR.frz RP.int)) (tb:=0) 0 (g_yes rfl (Eq.trans (p 3 19 rfl rfl) (congrArg Value.bool hc34)) rfl) Tryz.underlying23 Tryz.sizeOf3 (p 4 20 rfl rfl) hv36 (by first | rfl | simp) (p 5 21 rfl rfl) hx14 (nO rfl rfl Z)) (opsS_cons ?_ ?_)))))))
 intro f w_ H30 X30 hS30 hE30 hP30 Z
 obtain ⟨cs41,hr41,hat41⟩:=Star.eltF 0 Z rfl hv36 hx14
 obtain rfl : _ = [_]:=hr41
 refine L_ld (v:=I x14) (g_yes rfl (Eq.trans (hP30 3 19 rfl rfl) (congrArg Value.bool hc34)) rfl) Tryz.isAgg3 (hP30 6 22 rfl rfl) (At.cell hat41 (j:=0) rfl) (L_nil ⟨rfl,_,_,rfl,Le.refl _,fun _ _=>rfl,Z⟩)
 refine opsS_cons (fun f w_ _ _ s _ p Z=>L_mv (v:=v0) (g_yes rfl (Eq.trans (p 3 19 rfl rfl) (congrArg Value.bool hc34)) rfl) ((s 0 rfl).trans sf0) (nO rfl rfl Z)) (opsS_cons (fun f w_ _ _ s _ p Z=>L_mv (v:=I j_10) (g_yes rfl (Eq.trans (p 3 19 rfl rfl) (congrArg Value.bool hc34)) rfl) ((s 7 rfl).trans sf7) (nO rfl rfl Z)) (opsS_cons (fun f w_ _ _ _ _ p Z=>L_sub (g_yes rfl (Eq.trans (p 3 19 rfl rfl) (congrArg Value.bool hc34)) rfl) (p 9 25 rfl rfl) rfl (nO rfl rfl Z)) (opsS_cons (fun f w_ _ _ _ _ p Z=>L_ixO (R:=(OR.frz RP.int)) (tb:=0) 0 (g_yes rfl (Eq.trans (p 3 19 rfl rfl) (congrArg Value.bool hc34)) rfl) Tryz.underlying23 Tryz.sizeOf3 (p 8 24 rfl rfl) hv36 (by first | rfl | simp) (p 10 26 rfl rfl) hx19 (nO rfl rfl Z)) (opsS_cons ?_ ?_))))
 intro f w_ H30 X30 hS30 hE30 hP30 Z
 obtain ⟨cs43,hr43,hat43⟩:=Star.eltF 0 Z rfl hv36 hx19
 obtain rfl : _ = [_]:=hr43
 refine L_ld (v:=I x19) (g_yes rfl (Eq.trans (hP30 3 19 rfl rfl) (congrArg Value.bool hc34)) rfl) Tryz.isAgg3 (hP30 11 27 rfl rfl) (At.cell hat43 (j:=0) rfl) (L_nil ⟨rfl,_,_,rfl,Le.refl _,fun _ _=>rfl,Z⟩)
 exact opsS_nil
 obtain ⟨H45b,l46,s47,z48,k49⟩:=Z.borrow
 refine L_call (g_yes rfl (Eq.trans (hT30 3 19 rfl rfl) (congrArg Value.bool hc34)) rfl) Tryz.call186 (ops2 (hT30 7 23 rfl rfl) (hT30 12 28 rfl rfl)) (cmp_Less_int_c (x:=x14) (y:=x19) s47 hx27) ?_
 rintro _ w50 ⟨rfl,Z⟩
 have Z:=k49 Z c0
 refine L_pick (v:=Bo b29) rfl (Eq.trans (hT30 3 19 rfl rfl) (congrArg Value.bool hc34)) (congrArg Value.bool (so hb29)) (nn (rj hR33 ⟨H30,hE30,((hS30 0 rfl).trans sf0),((hS30 1 rfl).trans sf1),((hS30 2 rfl).trans sf2),((hS30 6 rfl).trans sf6),((hS30 7 rfl).trans sf7),rfl,Z⟩))
 rw [ite_f hc34] at hb29
 refine W_drawS 13 [isV (I j_10),isV (I a),isV (Bo (decide (j_10 > a))),isV (Bo (decide (j_10 > a))),isV (undef),isV (undef),isV (undef),isV (undef),isV (undef),isV (undef),isV (undef),isV (undef),isV (undef)] [oF 3 RP.int v0 data_9] [] ([]) [([],[]),([],[]),([],[]),([],[]),([],[]),([],[]),([],[]),([],[]),([],[]),([],[]),([],[]),([],[]),([],[])] (S:=[]) Tryz_mix (by kernel_rfl) rfl (by kernel_rfl) (amF_cons (mono_V _) (amF_cons (mono_V _) (amF_cons (mono_V _) (amF_cons (mono_V _) (amF_cons (mono_V _) (amF_cons (mono_V _) (amF_cons (mono_V _) (amF_cons (mono_V _) (amF_cons (mono_V _) (amF_cons (mono_V _) (amF_cons (mono_V _) (amF_cons (mono_V _) (amF_cons (mono_V _) amF_nil))))))))))))) Z ?_ (fun f w_ H30 hS30 hE30 hT30 Z=>?_)
 refine opsS_cons (fun f w_ _ _ s _ _ Z=>mF ((s 7 rfl).trans sf7) rfl (nO rfl rfl Z)) (opsS_cons (fun f w_ _ _ s _ _ Z=>mF ((s 1 rfl).trans sf1) rfl (nO rfl rfl Z)) (opsS_cons (fun f w_ _ _ _ _ p Z=>L_gtr rfl (p 0 16 rfl rfl) (p 1 17 rfl rfl) (nO rfl rfl Z)) (opsS_cons (fun f w_ _ _ _ _ p Z=>mF (p 2 18 rfl rfl) rfl (nO rfl rfl Z)) (oP (fun _ _ p=>gN (p 3 19 rfl rfl) hc34 rfl) (fun _=>rfl) (oP (fun _ _ p=>gN (p 3 19 rfl rfl) hc34 rfl) (fun _=>rfl) (oP (fun _ _ p=>gN (p 3 19 rfl rfl) hc34 rfl) (fun _=>rfl) (oP (fun _ _ p=>gN (p 3 19 rfl rfl) hc34 rfl) (fun _=>rfl) (oP (fun _ _ p=>gN (p 3 19 rfl rfl) hc34 rfl) (fun _=>rfl) (oP (fun _ _ p=>gN (p 3 19 rfl rfl) hc34 rfl) (fun _=>rfl) (oP (fun _ _ p=>gN (p 3 19 rfl rfl) hc34 rfl) (fun _=>rfl) (oP (fun _ _ p=>gN (p 3 19 rfl rfl) hc34 rfl) (fun _=>rfl) (oP (fun _ _ p=>gN (p 3 19 rfl rfl) hc34 rfl) (fun _=>rfl) (opsS_nil)))))))))))))
 refine ps (g_no rfl (Eq.trans (hT30 3 19 rfl rfl) (congrArg Value.bool hc34)) rfl rfl) (L_pick (v:=Bo b29) rfl (Eq.trans (hT30 3 19 rfl rfl) (congrArg Value.bool hc34)) (congrArg Value.bool (so hb29)) (nn (rj hR33 ⟨H30,hE30,((hS30 0 rfl).trans sf0),((hS30 1 rfl).trans sf1),((hS30 2 rfl).trans sf2),((hS30 6 rfl).trans sf6),((hS30 7 rfl).trans sf7),rfl,Z⟩)))
 intro f w_ hR
 obtain ⟨H31,l32,sf0,sf1,sf2,sf6,sf7,sf30,Z⟩:=rk hR33 hR
 refine W_cond (b:=b29) sf30 (fun hc51=>?_) (fun hc51=>?_)
 have hB13:=(ite_t hc51).symm.trans hB13
 refine W_skip (W_seq (W_block ?_))
 obtain ⟨x52,hx52,hB13⟩:=bind_some hB13
 obtain ⟨x57,hx57,hB13⟩:=bind_some hB13
 obtain ⟨x61,hx61,hB13⟩:=bind_some hB13
 obtain ⟨g64,cap_g64,hv65,_,_⟩:=Star.row 0 Z rfl hx52
 refine W_drawS 16 [isV (v0),isV (I j_10),isV (v0),isV (I j_10),isV (I (i64 (j_10 - 1))),isV (v0),isV (I j_10),isV (I (i64 (j_10 - 1))),isV (.pointer (some ⟨g64,Int.toNat (i64 (j_10 - 1)) * 1,none⟩)),isV (I x52),isV (v0),isV (I j_10),isV (.pointer (some ⟨g64,Int.toNat j_10 * 1,none⟩)),isV (I x57),isV (.pointer (some ⟨g64,Int.toNat j_10 * 1,none⟩)),anyF] [] [.base (oF 3 RP.int v0 data_9) (some 15),.madeN 15 [] (fun vs_=>oF 3 RP.int v0 (data_9.set (Int.toNat j_10) x52)) none] ([]) [([],[]),([],[]),([],[]),([],[]),([],[]),([],[]),([],[]),([],[]),([0],[0]),([0],[0]),([],[]),([],[]),([0],[0]),([0],[0]),([0],[0]),([0],[1])] (S:=[(none,[],some 15),(some 15,[],none)]) Tryz_mix (by kernel_rfl) rfl (by kernel_rfl) (amF_cons (mono_V _) (amF_cons (mono_V _) (amF_cons (mono_V _) (amF_cons (mono_V _) (amF_cons (mono_V _) (amF_cons (mono_V _) (amF_cons (mono_V _) (amF_cons (mono_V _) (amF_cons (mono_V _) (amF_cons (mono_V _) (amF_cons (mono_V _) (amF_cons (mono_V _) (amF_cons (mono_V _) (amF_cons (mono_V _) (amF_cons (mono_V _) (amF_cons (mono_any) amF_nil)))))))))))))))) Z ?_ (fun f w_ H63 hS63 hE63 hT63 Z=>?_)
 refine opsS_cons (fun f w_ _ _ s _ _ Z=>mF ((s 0 rfl).trans sf0) rfl (nO rfl rfl Z)) (opsS_cons (fun f w_ _ _ s _ _ Z=>mF ((s 7 rfl).trans sf7) rfl (nO rfl rfl Z)) (opsS_cons (fun f w_ _ _ s _ _ Z=>mF ((s 0 rfl).trans sf0) rfl (nO rfl rfl Z)) (opsS_cons (fun f w_ _ _ s _ _ Z=>mF ((s 7 rfl).trans sf7) rfl (nO rfl rfl Z)) (opsS_cons (fun f w_ _ _ _ _ p Z=>L_sub rfl (p 3 36 rfl rfl) rfl (nO rfl rfl Z)) (opsS_cons (fun f w_ _ _ s _ _ Z=>mF ((s 0 rfl).trans sf0) rfl (nO rfl rfl Z)) (opsS_cons (fun f w_ _ _ s _ _ Z=>mF ((s 7 rfl).trans sf7) rfl (nO rfl rfl Z)) (opsS_cons (fun f w_ _ _ _ _ p Z=>L_sub rfl (p 6 39 rfl rfl) rfl (nO rfl rfl Z)) (opsS_cons ?_ ?_))))))))
 intro f w_ H63 X63 hS63 hE63 hP63 Z
 have Z : Star H63 w_ (oF 3 RP.int v0 data_9 :: X63):=Z
 refine L_ixO (R:=(OR.frz RP.int)) (tb:=0) 0 rfl Tryz.underlying23 Tryz.sizeOf3 (hP63 5 38 rfl rfl) hv65 (by first | rfl | simp) (hP63 7 40 rfl rfl) hx52 (L_nil ⟨rfl,_,_,rfl,Le.refl _,fun _ _=>rfl,Z⟩)
 refine opsS_cons ?_ ?_
 intro f w_ H63 X63 hS63 hE63 hP63 Z
 have Z : Star H63 w_ (oF 3 RP.int v0 data_9 :: X63):=Z
 obtain ⟨cs71,hr71,hat71⟩:=Star.eltF 0 Z rfl hv65 hx52
 obtain rfl : _ = [_]:=hr71
 refine L_ld rfl Tryz.isAgg3 (hP63 8 41 rfl rfl) (At.cell hat71 (j:=0) rfl) (L_nil ⟨rfl,_,_,rfl,Le.refl _,fun _ _=>rfl,Z⟩)
 refine opsS_cons (fun f w_ _ _ s _ _ Z=>mF ((s 0 rfl).trans sf0) rfl (nO rfl rfl Z)) (opsS_cons (fun f w_ _ _ s _ _ Z=>mF ((s 7 rfl).trans sf7) rfl (nO rfl rfl Z)) (opsS_cons ?_ ?_))
 intro f w_ H63 X63 hS63 hE63 hP63 Z
 have Z : Star H63 w_ (oF 3 RP.int v0 data_9 :: X63):=Z
 refine L_ixO (R:=(OR.frz RP.int)) (tb:=0) 0 rfl Tryz.underlying23 Tryz.sizeOf3 (hP63 10 43 rfl rfl) hv65 (by first | rfl | simp) (hP63 11 44 rfl rfl) hx57 (L_nil ⟨rfl,_,_,rfl,Le.refl _,fun _ _=>rfl,Z⟩)
 refine opsS_cons ?_ ?_
 intro f w_ H63 X63 hS63 hE63 hP63 Z
 have Z : Star H63 w_ (oF 3 RP.int v0 data_9 :: X63):=Z
 obtain ⟨cs73,hr73,hat73⟩:=Star.eltF 0 Z rfl hv65 hx57
 obtain rfl : _ = [_]:=hr73
 refine L_ld rfl Tryz.isAgg3 (hP63 12 45 rfl rfl) (At.cell hat73 (j:=0) rfl) (L_nil ⟨rfl,_,_,rfl,Le.refl _,fun _ _=>rfl,Z⟩)
 refine opsS_cons ?_ ?_
 intro f w_ H63 X63 hS63 hE63 hP63 Z
 have Z : Star H63 w_ (oF 3 RP.int v0 data_9 :: X63):=Z
 refine L_ixO (R:=(OR.frz RP.int)) (tb:=0) 0 rfl Tryz.underlying23 Tryz.sizeOf3 (hP63 0 33 rfl rfl) hv65 (by first | rfl | simp) (hP63 1 34 rfl rfl) hx57 (L_nil ⟨rfl,_,_,rfl,Le.refl _,fun _ _=>rfl,Z⟩)
 refine opsS_cons ?_ ?_
 intro f w_ H63 X63 hS63 hE63 hP63 Z
 have Z : Star H63 w_ (oF 3 RP.int v0 data_9 :: X63):=Z
 have Z:=Star.addF (r:=RP.int) (cs:=[I x52]) (x:=x52) Z rfl
 refine L_stE1 (u:=I x52) rfl Tryz.sizeOf3 rfl (hP63 14 47 rfl rfl) (hP63 9 42 rfl rfl) hv65 Z hx57 (fun w75 Z=>?_)
 exact L_nil ⟨rfl,Bo false,_,rfl,Le.refl _,(fun _ h=>nomatch h),Z⟩
 exact opsS_nil
 have Z : Star H63 w_ ([oF 3 RP.int v0 (data_9.set (Int.toNat j_10) x52)]):=Z
 refine L_ixO (R:=(OR.frz RP.int)) (tb:=0) 0 rfl Tryz.underlying23 Tryz.sizeOf3 (hT63 2 35 rfl rfl) hv65 (by first | rfl | simp) (hT63 4 37 rfl rfl) hx61 ?_
 have Z:=Star.addF (r:=RP.int) (cs:=[I x57]) (x:=x57) Z rfl
 refine L_stE1 (u:=I x57) rfl Tryz.sizeOf3 rfl rfl (hT63 13 46 rfl rfl) hv65 Z hx61 (fun w76 Z=>?_)
 refine nn (W_region (mF ((hS63 7 rfl).trans sf7) rfl (L_sub rfl rfl rfl (aI rfl (nn ?_)))))
 obtain rfl:=so hB13
 show ∃ m,m < _∧I13 m _ _
 refine ⟨n13,Nat.lt_succ_self _,?_⟩
 exact ij hI13 ⟨((data_9.set (Int.toNat j_10) x52).set (Int.toNat (i64 (j_10 - 1))) x57),i64 (j_10 - 1),H63,hL13,(Le.trans (Le.trans l12 l32) hE63),((hS63 0 rfl).trans sf0),((hS63 1 rfl).trans sf1),((hS63 2 rfl).trans sf2),((hS63 6 rfl).trans sf6),rfl,Z⟩
 have hB13:=(ite_f hc51).symm.trans hB13
 refine W_exit ?_
 obtain rfl:=so hB13
 obtain rfl:=so hL13
 exact rj hR13 ⟨data_9,j_10,H31,rfl,(Le.trans l12 l32),sf0,sf1,sf2,sf6,Z⟩
 intro f w_ hR
 obtain ⟨data_9,j_10,H11,rfl,l12,sf0,sf1,sf2,sf6,Z⟩:=rk hR13 hR
 refine W_region (mF sf6 rfl (L_add rfl rfl rfl (aI rfl (nn ?_))))
 obtain rfl:=so hB6
 show ∃ m,m < _∧I6 m _ _
 refine ⟨n6,Nat.lt_succ_self _,?_⟩
 exact ij hI6 ⟨data_9,i64 (i_3 + 1),H11,hL6,(Le.trans l5 l12),sf0,sf1,sf2,rfl,Z⟩
 have hB6:=(ite_f hc7).symm.trans hB6
 refine W_exit ?_
 obtain rfl:=so hB6
 obtain rfl:=so hL6
 exact rj hR6 ⟨data_2,i_3,H4,rfl,l5,Z⟩
 intro f w_ hR
 obtain ⟨data_2,i_3,H4,rfl,l5,Z⟩:=rk hR6 hR
 refine ret0 Tryz.results180 ?_
 obtain rfl:=so hF
 exact ⟨rfl,(Star.down Z l5 (co closed_int c0))⟩
theorem slices_pdqsortOrdered_int_c {fu : Nat} {data : List Int} {a : Int} {b : Int} {limit : Int} {v0 : Value} {H : FH} {w : World} (Z : Star H w [oF 3 RP.int v0 data]) {r : List Int} (hF : slices_pdqsortOrdered_int fu data a b limit = some r) :
 C Tryz.prog 145 #[v0,I a,I b,I limit] w fun v w'=>v = .tuple #[]∧Star H w' [oF 3 RP.int v0 r]:=by
 unfold slices_pdqsortOrdered_int at hF
 refine C_enter Tryz.func145 rfl Tryz.ntmps145 rfl (sq (aB rfl (ns (aB rfl (nn ?_)))))
 obtain ⟨j2,hL2,hF⟩:=bind_some hF
 obtain ⟨R2,hR2⟩:=exR fun f w_=>j2 = .nx ()∧Star H w_ ([oF 3 RP.int v0 data])
 refine W_join R2 ?_ ?_
 refine W_block ?_
 obtain ⟨I2,hI2⟩:=exI fun n f w_=>whileL (slices_pdqsortOrdered_int_b1 fu data a b) n () = some j2∧f 0 = v0∧f 1 = I a∧f 2 = I b∧Star H w_ ([oF 3 RP.int v0 data])
 refine W_loop I2 (n:=fu) ?_ ?_
 exact ij hI2 ⟨hL2,rfl,rfl,rfl,Z⟩
 intro n2 f w_ hI
 obtain ⟨hL2,sf0,sf1,sf2,Z⟩:=ik hI2 hI
 rcases n2 with _ | n2
 exact (while_zero hL2).elim
 obtain ⟨o2,hB2,hL2⟩:=while_succ hL2
 rw [slices_pdqsortOrdered_int_b1] at hB2
 refine W_block (sq (mF sf2 rfl (mF sf1 rfl (L_sub rfl rfl rfl (aI rfl (nq (sq (mI rfl (L_leq rfl rfl rfl (nn (W_cond (b:=decide ((i64 (b - a))≤12)) rfl (fun hc3=>?_) (fun hc3=>?_))))))))))))
 have hB2:=(ite_t hc3).symm.trans hB2
 refine W_seq ?_
 obtain ⟨x9,hx9,hB2⟩:=bind_some hB2
 refine W_region (mF sf0 rfl (mF sf1 rfl (mF sf2 rfl ?_)))
 obtain ⟨H11b,l12,s13,z14,k15⟩:=Z.lend [_]
 refine L_call rfl Tryz.call180 (ops3 rfl rfl rfl) (slices_insertionSortOrdered_int_c (data:=data) (a:=a) (b:=b) s13 hx9) ?_
 rintro _ w16 ⟨rfl,Z⟩
 have Z:=k15 Z (co closed_int c0)
 refine nn (W_ret (ret0 Tryz.results145 ?_))
 obtain rfl:=so hB2
 obtain rfl:=so hL2
 obtain rfl:=so hF
 exact ⟨rfl,Z⟩
 have hB2:=(ite_f hc3).symm.trans hB2
 refine W_skip ?_
 cases hB2
 intro f w_ hR
 obtain ⟨rfl,Z⟩:=rk hR2 hR
 refine ret0 Tryz.results145 ?_
 obtain rfl:=so hF
 exact ⟨rfl,Z⟩
theorem slices_Sort_int_c {fu : Nat} {x : List Int} {v0 : Value} {H : FH} {w : World} (Z : Star H w [oF 3 RP.int v0 x]) {r : List Int} (hF : slices_Sort_int fu x = some r) :
 C Tryz.prog 103 #[v0] w fun v w'=>v = .tuple #[]∧Star H w' [oF 3 RP.int v0 r]:=by
 unfold slices_Sort_int at hF
 refine C_enter Tryz.func103 rfl Tryz.ntmps103 rfl (sq (mV v0 rfl (L_len rfl Tryz.underlying23 rfl (Star.len 0 Z rfl) (aI rfl (nn ?_)))))
 obtain ⟨x6,hx6,hF⟩:=bind_some hF
 obtain ⟨x13,hx13,hF⟩:=bind_some hF
 refine W_region (mV v0 rfl (mI rfl (mI rfl (L_cv (n:=(x.length : Int)) rfl rfl ⟨_,Tryz.underlying3⟩ Tryz.underlying148 ?_))))
 obtain ⟨H15b,l16,s17,z18,k19⟩:=Z.borrow
 refine L_call rfl Tryz.call143 (ops1 rfl) (bits_Len_c (x_:=IntKind.u64.wrap (x.length : Int)) s17 hx6) ?_
 rintro _ w20 ⟨rfl,Z⟩
 have Z:=k19 Z c0
 obtain ⟨H21b,l22,s23,z24,k25⟩:=Z.lend [_]
 refine L_call rfl Tryz.call145 (ops4 rfl rfl rfl rfl) (slices_pdqsortOrdered_int_c (data:=x) (a:=0) (b:=(x.length : Int)) (limit:=x6) s23 hx13) ?_
 rintro _ w26 ⟨rfl,Z⟩
 have Z:=k25 Z (co closed_int c0)
 refine nn (ret0 Tryz.results103 ?_)
 obtain rfl:=so hF
 exact ⟨rfl,Z⟩
theorem slices_Equal_int_c {s1 : List Int} {s2 : List Int} {v0 : Value} {v1 : Value} {H : FH} {w : World} (Z : Star H w []) (h0 : (rS 3 RP.int).rel H [v0] s1) (h1 : (rS 3 RP.int).rel H [v1] s2) {r : Bool} (hF : slices_Equal_int s1 s2 = some r) :
 C Tryz.prog 147 #[v0,v1] w fun v w'=>v = Bo r∧Star H w' []:=by
 unfold slices_Equal_int at hF
 refine C_enter Tryz.func147 rfl Tryz.ntmps147 rfl (sq (aB rfl (nq (sq (mV v0 rfl (L_len rfl Tryz.underlying23 rfl (slice_len h0) (mV v1 rfl (L_len rfl Tryz.underlying23 rfl (slice_len h1) (L_neq rfl rfl rfl (nn (W_cond (b:=((s1.length : Int) != (s2.length : Int))) rfl (fun hc1=>?_) (fun hc1=>?_))))))))))))
 have hF:=(ite_t hc1).symm.trans hF
 refine sq (aB rfl (nn (W_ret (retG1 (v1:=Bo false) Tryz.results147 rfl ?_))))
 obtain rfl:=so hF
 exact ⟨rfl,Z⟩
 have hF:=(ite_f hc1).symm.trans hF
 refine W_skip (W_seq (sq (mV v0 rfl (L_len rfl Tryz.underlying23 rfl (slice_len h0) (mI rfl (nn ?_))))))
 have hlen5 : List.length s1≤9223372036854775807:=len_le (slice_len h0)
 obtain ⟨j5,hL5,hF⟩:=bind_some hF
 obtain ⟨R5,hR5⟩:=exR fun f w_=>∃ H3 : FH,j5 = .nx ()∧Le H H3∧Star H3 w_ ([])
 refine W_join R5 ?_ ?_
 refine W_block ?_
 obtain ⟨I5,hI5⟩:=exI fun n f w_=>∃ i_2 : Nat,∃ suf5 : List Int,∃ H3 : FH,n = suf5.length∧List.drop i_2 s1 = suf5∧i_2 + suf5.length = s1.length∧rangeL (slices_Equal_int_b1 s2) suf5 i_2 () = some j5∧Le H H3∧f 0 = v0∧f 1 = v1∧f 12 = I (s1.length : Int)∧f 13 = I i_2∧Star H3 w_ ([])
 refine W_loop I5 (n:=s1.length) ?_ ?_
 exact ij hI5 ⟨0,s1,H,rfl,rfl,Nat.zero_add _,hL5,(Le.refl _),rfl,rfl,rfl,rfl,Z⟩
 intro n5 f w_ hI
 obtain ⟨i_2,suf5,H3,rfl,hd5,hl5,hL5,l4,sf0,sf1,sf12,sf13,Z⟩:=ik hI5 hI
 refine sq (L_lss rfl sf13 sf12 (nq (W_cond (b:=decide ((i_2 : Int) < (s1.length : Int))) rfl (fun hc6=>?_) (fun hc6=>?_))))
 have hlt5:=of_decide_eq_true hc6
 rcases suf5 with _ | ⟨x_5,rest5⟩
 exact absurd hlt5 (by simp at hl5; omega)
 obtain ⟨o5,hB5,hL5⟩:=range_cons hL5
 rw [slices_Equal_int_b1] at hB5
 have hix5:=drop_idx hd5
 refine W_skip (W_seq (W_block (sq (mF sf13 rfl (aI rfl (nq ?_))))))
 obtain ⟨x11,hx11,hB5⟩:=bind_some hB5
 refine W_drawS 8 [isV (v0),isV (I i_2),isEl RP.int x_5 0,isV (I x_5),isV (v1),isV (I i_2),isEl RP.int x11 0,isV (I x11)] [] [] ([]) [([],[]),([],[]),([],[]),([],[]),([],[]),([],[]),([],[]),([],[])] (S:=[]) Tryz_mix (by kernel_rfl) rfl (by kernel_rfl) (amF_cons (mono_V _) (amF_cons (mono_V _) (amF_cons (mono_el _ _ _) (amF_cons (mono_V _) (amF_cons (mono_V _) (amF_cons (mono_V _) (amF_cons (mono_el _ _ _) (amF_cons (mono_V _) amF_nil)))))))) Z ?_ (fun f w_ H16 hS16 hE16 hT16 Z=>?_)
 refine opsS_cons (fun f w_ _ _ s _ _ Z=>mF ((s 0 rfl).trans sf0) rfl (nO rfl rfl Z)) (opsS_cons (fun f w_ _ _ s _ _ Z=>mF ((s 5 rfl).trans rfl) rfl (nO rfl rfl Z)) (opsS_cons ?_ ?_))
 intro f w_ H16 X16 hS16 hE16 hP16 Z
 refine L_ix (r:=RP.int) rfl Tryz.underlying23 Tryz.sizeOf3 (hP16 0 16 rfl rfl) (RP.mono _ h0 (Le.trans l4 hE16)) (hP16 1 17 rfl rfl) hix5 (fun g25 o26 cs_g25 hrk_hat27 hat27=>?_)
 obtain rfl : _ = [_]:=hrk_hat27
 exact L_nil ⟨rfl,_,_,rfl,Le.refl _,fun _ _=>⟨_,_,_,rfl,rfl,hat27⟩,Z⟩
 refine opsS_cons ?_ ?_
 intro f w_ H16 X16 hS16 hE16 hP16 Z
 obtain ⟨g29,o29,cs29,hv29,hrk_hat29,hat29⟩:=(hP16 2 18 rfl rfl)
 obtain rfl : _ = [_]:=hrk_hat29
 refine L_ld rfl Tryz.isAgg3 hv29 (At.cell (AtH.at hat29 Z.sub) (j:=0) rfl) (L_nil ⟨rfl,_,_,rfl,Le.refl _,fun _ _=>rfl,Z⟩)
 refine opsS_cons (fun f w_ _ _ s _ _ Z=>mF ((s 1 rfl).trans sf1) rfl (nO rfl rfl Z)) (opsS_cons (fun f w_ _ _ s _ _ Z=>mF ((s 5 rfl).trans rfl) rfl (nO rfl rfl Z)) (opsS_cons ?_ ?_))
 intro f w_ H16 X16 hS16 hE16 hP16 Z
 refine L_ix (r:=RP.int) rfl Tryz.underlying23 Tryz.sizeOf3 (hP16 4 20 rfl rfl) (RP.mono _ h1 (Le.trans l4 hE16)) (hP16 5 21 rfl rfl) hx11 (fun g31 o32 cs_g31 hrk_hat33 hat33=>?_)
 obtain rfl : _ = [_]:=hrk_hat33
 exact L_nil ⟨rfl,_,_,rfl,Le.refl _,fun _ _=>⟨_,_,_,rfl,rfl,hat33⟩,Z⟩
 refine opsS_cons ?_ ?_
 intro f w_ H16 X16 hS16 hE16 hP16 Z
 obtain ⟨g35,o35,cs35,hv35,hrk_hat35,hat35⟩:=(hP16 6 22 rfl rfl)
 obtain rfl : _ = [_]:=hrk_hat35
 refine L_ld rfl Tryz.isAgg3 hv35 (At.cell (AtH.at hat35 Z.sub) (j:=0) rfl) (L_nil ⟨rfl,_,_,rfl,Le.refl _,fun _ _=>rfl,Z⟩)
 exact opsS_nil
 refine L_neq rfl (hT16 3 19 rfl rfl) (hT16 7 23 rfl rfl) (nn (W_cond (b:=(x_5 != x11)) rfl (fun hc37=>?_) (fun hc37=>?_)))
 have hB5:=(ite_t hc37).symm.trans hB5
 refine sq (aB rfl (nn (W_ret (retG1 (v1:=Bo false) Tryz.results147 rfl ?_))))
 obtain rfl:=so hB5
 obtain rfl:=so hL5
 obtain rfl:=so hF
 exact ⟨rfl,(Star.down Z (Le.trans l4 hE16) c0)⟩
 have hB5:=(ite_f hc37).symm.trans hB5
 refine W_skip (W_region (L_add rfl ((hS16 13 rfl).trans sf13) rfl (mI rfl (nn ?_))))
 obtain rfl:=so hB5
 show ∃ m,m < _∧I5 m _ _
 refine ⟨rest5.length,by simp,?_⟩
 exact ij hI5 ⟨i_2 + 1,rest5,H16,rfl,drop_next hd5,by simp at hl5; omega,hL5,(Le.trans l4 hE16),((hS16 0 rfl).trans sf0),((hS16 1 rfl).trans sf1),((hS16 12 rfl).trans sf12),(Eq.trans rfl (congrArg (Value.int .i64) (i64_succ (n:=s1.length) (by simp at hl5; omega) hlen5))),Z⟩
 rcases suf5 with _ | ⟨_,_⟩
 obtain rfl:=range_nil hL5
 refine W_exit (rj hR5 ⟨H3,rfl,l4,Z⟩)
 exact absurd (of_decide_eq_false hc6) (by simp at hl5; omega)
 intro f w_ hR
 obtain ⟨H3,rfl,l4,Z⟩:=rk hR5 hR
 refine sq (aB rfl (nn (W_ret (retG1 (v1:=Bo true) Tryz.results147 rfl ?_))))
 obtain rfl:=so hF
 exact ⟨rfl,(Star.down Z l4 c0)⟩
theorem i_Rule_holds_1_c {c1 : List Int} {row : List Int} {v0 : Value} {g_c1 : Nat} {v1_0 : Value} {H : FH} {w : World} (Z : Star H w []) (h0 : (rS 3 RP.int).rel H [v0] row) (hat_g_c1 : AtH H g_c1 0 [v1_0]) (h1_0 : (rS 3 RP.int).rel H [v1_0] c1) {r : Bool} (hF : i_Rule_holds_1 c1 row = some r) :
 C Tryz.prog 146 #[v0,Pt g_c1] w fun v w'=>v = Bo r∧Star H w' []:=by
 unfold i_Rule_holds_1 at hF
 refine C_enter Tryz.func146 rfl Tryz.ntmps146 rfl (sq (aB rfl (nq ?_)))
 obtain ⟨x6,hx6,hF⟩:=bind_some hF
 refine W_region (mV v0 rfl (L_ld rfl Tryz.isAgg23 rfl (At.cell0 (AtH.at hat_g_c1 Z.sub) (j:=0) rfl) ?_))
 obtain ⟨H8b,l9,s10,z11,k12⟩:=Z.borrow
 refine L_call rfl Tryz.call147 (ops2 rfl rfl) (slices_Equal_int_c (s1:=row) (s2:=c1) s10 (RP.mono _ h0 l9) (RP.mono _ h1_0 l9) hx6) ?_
 rintro _ w13 ⟨rfl,Z⟩
 have Z:=k12 Z c0
 refine aB rfl (nn (W_ret (retG1 (v1:=Bo x6) Tryz.results146 rfl ?_)))
 obtain rfl:=so hF
 exact ⟨rfl,Z⟩
theorem i_Rule_holds_c {r_ : Rule} {vals : List Int} {v0_1 : Value} {v0_2 : Value} {v0_4 : Value} {v1 : Value} {H : FH} {w : World} (Z : Star H w []) (h0_1 : (rS 3 RP.int).rel H [v0_1] r_.vars) (h0_2 : (rS 3 RP.int).rel H [v0_2] r_.coefs) (h0_4 : (rS 23 (rS 3 RP.int)).rel H [v0_4] r_.rows) (h1 : (rS 3 RP.int).rel H [v1] vals) {r : Bool} (hF : i_Rule_holds r_ vals = some r) :
 C Tryz.prog 105 #[.agg #[I r_.kind,v0_1,v0_2,I r_.bound,v0_4],v1] w fun v w'=>v = Bo r∧Star H w' []:=by
 unfold i_Rule_holds at hF
 refine C_enter Tryz.func105 rfl Tryz.ntmps105 rfl (sq (L_box (v:=.agg #[I r_.kind,v0_1,v0_2,I r_.bound,v0_4]) (cs:=#[I r_.kind,v0_1,v0_2,I r_.bound,v0_4]) rfl rfl rfl Z (fun g5 w6 Z=>L_box (v:=v1) (cs:=#[v1]) rfl rfl (cells_one (one_len (slice_len h1))) Z (fun g7 w8 Z=>aB rfl (nq (sq (fA 0 fa_79_0 rfl rfl (ldB 1 Z Tryz.isAgg3 rfl rfl rfl (nn (W_block (sq (L_eql rfl rfl rfl (aB rfl (nn (W_cond (b:=(r_.kind == 1)) rfl (fun hc9=>?_) (fun hc9=>?_))))))))))))))))
 have hF:=(ite_t hc9).symm.trans hF
 refine sq (aI rfl (nq (sq (ldB 0 Z Tryz.isAgg23 rfl rfl rfl (L_len rfl Tryz.underlying23 rfl (slice_len h1) (mI rfl (nn ?_)))))))
 have hlen12 : List.length vals≤9223372036854775807:=len_le (slice_len h1)
 obtain ⟨j12,hL12,hF⟩:=bind_some hF
 obtain ⟨R12,hR12⟩:=exR fun f w_=>∃ sum_11 : Int,j12 = .nx sum_11∧f 2 = Pt g5∧f 5 = I sum_11∧Star H w_ ([box g5 79 #[I r_.kind,v0_1,v0_2,I r_.bound,v0_4]])
 refine W_join R12 ?_ ?_
 refine W_block ?_
 obtain ⟨I12,hI12⟩:=exI fun n f w_=>∃ i_10 : Nat,∃ suf12 : List Int,∃ sum_11 : Int,n = suf12.length∧List.drop i_10 vals = suf12∧i_10 + suf12.length = vals.length∧rangeL (i_Rule_holds_b1 r_) suf12 i_10 sum_11 = some j12∧f 2 = Pt g5∧f 5 = I sum_11∧f 14 = v1∧f 15 = I (vals.length : Int)∧f 16 = I i_10∧Star H w_ ([box g5 79 #[I r_.kind,v0_1,v0_2,I r_.bound,v0_4]])
 have Z:=Z.get 1 rfl
 refine W_loop I12 (n:=vals.length) ?_ ?_
 exact ij hI12 ⟨0,vals,0,rfl,rfl,Nat.zero_add _,hL12,rfl,rfl,rfl,rfl,rfl,(Star.keepN 1 Z)⟩
 intro n12 f w_ hI
 obtain ⟨i_10,suf12,sum_11,rfl,hd12,hl12,hL12,sf2,sf5,sf14,sf15,sf16,Z⟩:=ik hI12 hI
 refine sq (L_lss rfl sf16 sf15 (nq (W_cond (b:=decide ((i_10 : Int) < (vals.length : Int))) rfl (fun hc13=>?_) (fun hc13=>?_))))
 have hlt12:=of_decide_eq_true hc13
 rcases suf12 with _ | ⟨x_12,rest12⟩
 exact absurd hlt12 (by simp at hl12; omega)
 obtain ⟨o12,hB12,hL12⟩:=range_cons hL12
 rw [i_Rule_holds_b1] at hB12
 have hix12:=drop_idx hd12
 refine W_skip (W_seq (W_block (sq (mF sf16 rfl (L_ix (r:=RP.int) rfl Tryz.underlying23 Tryz.sizeOf3 sf14 h1 sf16 hix12 (fun g18 o19 cs_g18 hrk_hat20 hat20=>?_))))))
 obtain rfl : _ = [_]:=hrk_hat20
 refine L_ld rfl Tryz.isAgg3 rfl (At.cell (AtH.at hat20 Z.sub) (j:=0) rfl) (aI rfl (aI rfl (nn ?_)))
 obtain ⟨x22,hx22,hB12⟩:=bind_some hB12
 refine W_region (mF sf5 rfl (fA 2 fa_79_2 sf2 rfl (ldB 0 Z Tryz.isAgg23 rfl rfl rfl (mI rfl (L_ix (r:=RP.int) rfl Tryz.underlying23 Tryz.sizeOf3 rfl h0_2 rfl hx22 (fun g27 o28 cs_g27 hrk_hat29 hat29=>?_))))))
 obtain rfl : _ = [_]:=hrk_hat29
 refine L_ld rfl Tryz.isAgg3 rfl (At.cell (AtH.at hat29 Z.sub) (j:=0) rfl) (mI rfl (L_mul rfl rfl rfl (L_add rfl rfl rfl (aI rfl (nn (W_region (L_add rfl sf16 rfl (mI rfl (nn ?_)))))))))
 obtain rfl:=so hB12
 show ∃ m,m < _∧I12 m _ _
 refine ⟨rest12.length,by simp,?_⟩
 exact ij hI12 ⟨i_10 + 1,rest12,i64 (sum_11 + (i64 (x22 * x_12))),rfl,drop_next hd12,by simp at hl12; omega,hL12,sf2,rfl,sf14,sf15,(Eq.trans rfl (congrArg (Value.int .i64) (i64_succ (n:=vals.length) (by simp at hl12; omega) hlen12))),Z⟩
 rcases suf12 with _ | ⟨_,_⟩
 obtain rfl:=range_nil hL12
 refine W_exit (rj hR12 ⟨sum_11,rfl,sf2,sf5,Z⟩)
 exact absurd (of_decide_eq_false hc13) (by simp at hl12; omega)
 intro f w_ hR
 obtain ⟨sum_11,rfl,sf2,sf5,Z⟩:=rk hR12 hR
 refine sq (mF sf5 rfl (fA 3 fa_79_3 sf2 rfl (ldB 0 Z Tryz.isAgg3 rfl rfl rfl (L_geq rfl rfl rfl (aB rfl (nn (W_ret (retG1 (v1:=Bo (decide (sum_11 ≥ r_.bound))) Tryz.results105 rfl ?_))))))))
 obtain rfl:=so hF
 exact ⟨rfl,(Star.keepN 0 Z)⟩
 have hF:=(ite_f hc9).symm.trans hF
 refine sq (L_eql rfl rfl rfl (aB rfl (nn (W_cond (b:=(r_.kind == 2)) rfl (fun hc31=>?_) (fun hc31=>?_)))))
 have hF:=(ite_t hc31).symm.trans hF
 refine W_seq (sq (ldB 0 Z Tryz.isAgg23 rfl rfl rfl (L_len rfl Tryz.underlying23 rfl (slice_len h1) (mI rfl (nn ?_)))))
 have hlen33 : List.length vals≤9223372036854775807:=len_le (slice_len h1)
 obtain ⟨j33,hL33,hF⟩:=bind_some hF
 obtain ⟨R33,hR33⟩:=exR fun f w_=>j33 = .nx ()∧Star H w_ ([])
 refine W_join R33 ?_ ?_
 refine W_block ?_
 obtain ⟨I33,hI33⟩:=exI fun n f w_=>∃ i_32 : Nat,∃ suf33 : List Int,n = suf33.length∧List.drop i_32 vals = suf33∧i_32 + suf33.length = vals.length∧rangeL (i_Rule_holds_b2 vals) suf33 i_32 () = some j33∧f 3 = Pt g7∧f 37 = v1∧f 38 = I (vals.length : Int)∧f 39 = I i_32∧Star H w_ ([box g7 23 #[v1]])
 refine W_loop I33 (n:=vals.length) ?_ ?_
 exact ij hI33 ⟨0,vals,rfl,rfl,Nat.zero_add _,hL33,rfl,rfl,rfl,rfl,(Star.keepN 1 Z)⟩
 intro n33 f w_ hI
 obtain ⟨i_32,suf33,rfl,hd33,hl33,hL33,sf3,sf37,sf38,sf39,Z⟩:=ik hI33 hI
 refine sq (L_lss rfl sf39 sf38 (nq (W_cond (b:=decide ((i_32 : Int) < (vals.length : Int))) rfl (fun hc34=>?_) (fun hc34=>?_))))
 have hlt33:=of_decide_eq_true hc34
 rcases suf33 with _ | ⟨x_33,rest33⟩
 exact absurd hlt33 (by simp at hl33; omega)
 obtain ⟨o33,hB33,hL33⟩:=range_cons hL33
 rw [i_Rule_holds_b2] at hB33
 have hix33:=drop_idx hd33
 refine W_skip (W_seq (W_block (sq (mF sf39 rfl (L_ix (r:=RP.int) rfl Tryz.underlying23 Tryz.sizeOf3 sf37 h1 sf39 hix33 (fun g39 o40 cs_g39 hrk_hat41 hat41=>?_))))))
 obtain rfl : _ = [_]:=hrk_hat41
 refine L_ld rfl Tryz.isAgg3 rfl (At.cell (AtH.at hat41 Z.sub) (j:=0) rfl) (aI rfl (aI rfl (nq ?_)))
 obtain ⟨x43,hx43,hB33⟩:=bind_some hB33
 obtain ⟨x51,hx51,hB33⟩:=bind_some hB33
 refine W_region (ldB 0 Z Tryz.isAgg23 sf3 rfl rfl (mI rfl (L_sl (a:=0) (b:=(i_32 : Int)) rfl et_23 rfl h1 rfl rfl hx43 (fun v53 hs54=>mI rfl ?_))))
 obtain ⟨H55b,l56,s57,z58,k59⟩:=Z.borrow
 refine L_call rfl Tryz.call97 (ops2 rfl rfl) (slices_Contains_int_c (s:=x43) (v_:=x_33) s57 (RP.mono _ hs54 l56) hx51) ?_
 rintro _ w60 ⟨rfl,Z⟩
 have Z:=k59 Z c0
 refine nn (W_cond (b:=x51) rfl (fun hc61=>?_) (fun hc61=>?_))
 have hB33:=(ite_t hc61).symm.trans hB33
 refine sq (aB rfl (nn (W_ret (retG1 (v1:=Bo false) Tryz.results105 rfl ?_))))
 obtain rfl:=so hB33
 obtain rfl:=so hL33
 obtain rfl:=so hF
 exact ⟨rfl,(Star.keepN 0 Z)⟩
 have hB33:=(ite_f hc61).symm.trans hB33
 refine W_skip (W_region (L_add rfl sf39 rfl (mI rfl (nn ?_))))
 obtain rfl:=so hB33
 show ∃ m,m < _∧I33 m _ _
 refine ⟨rest33.length,by simp,?_⟩
 exact ij hI33 ⟨i_32 + 1,rest33,rfl,drop_next hd33,by simp at hl33; omega,hL33,sf3,sf37,sf38,(Eq.trans rfl (congrArg (Value.int .i64) (i64_succ (n:=vals.length) (by simp at hl33; omega) hlen33))),Z⟩
 rcases suf33 with _ | ⟨_,_⟩
 obtain rfl:=range_nil hL33
 refine W_exit (rj hR33 ⟨rfl,(Star.keepN 0 Z)⟩)
 exact absurd (of_decide_eq_false hc34) (by simp at hl33; omega)
 intro f w_ hR
 obtain ⟨rfl,Z⟩:=rk hR33 hR
 refine sq (aB rfl (nn (W_ret (retG1 (v1:=Bo true) Tryz.results105 rfl ?_))))
 obtain rfl:=so hF
 exact ⟨rfl,Z⟩
 have hF:=(ite_f hc31).symm.trans hF
 refine sq (L_eql rfl rfl rfl (aB rfl (nn (W_cond (b:=(r_.kind == 3)) rfl (fun hc62=>?_) (fun hc62=>?_)))))
 have hF:=(ite_t hc62).symm.trans hF
 refine W_seq ?_
 obtain ⟨x68,hx68,hF⟩:=bind_some hF
 refine W_region (fA 4 fa_79_4 rfl rfl (ldB 1 Z Tryz.isAgg77 rfl rfl rfl (L_mf rfl (ops1 rfl) ?_)))
 obtain ⟨H70b,l71,s72,z73,k74⟩:=Z.borrow
 have hf75 : Fun1 Tryz.prog (rS 3 RP.int) false Value.bool (i_Rule_holds_1 vals) (.func (.func 146) #[] #[Pt g7]) H70b:=by
   refine ⟨_,_,rfl,Tryz.call146,fun H_ w_ hE_ hs_ cs_ x_ y_ args_ hr_ hy_ ha_=>?_⟩
   obtain ⟨p_0,rfl,hp_0⟩:=slice1 hr_
   obtain rfl:=args_of (b:=#[p_0,Pt g7]) ha_
   exact i_Rule_holds_1_c (c1:=vals) (row:=x_) hs_ hp_0 (AtH.le (AtH.of (fz_box 0 z73 rfl)) hE_) (RP.mono _ (RP.mono _ h1 l71) hE_) hy_
 refine L_call rfl Tryz.call138 (ops2 rfl rfl) (slices_ContainsFunc_Sint_c (s:=r_.rows) (f_:=(i_Rule_holds_1 vals)) s72 (RP.mono _ h0_4 l71) hf75 hx68) ?_
 rintro _ w76 ⟨rfl,Z⟩
 have Z:=k74 Z c0
 refine aB rfl (nn (W_ret (retG1 (v1:=Bo x68) Tryz.results105 rfl ?_)))
 obtain rfl:=so hF
 exact ⟨rfl,(Star.keepN 0 Z)⟩
 have hF:=(ite_f hc62).symm.trans hF
 refine W_skip (W_seq ?_)
 obtain ⟨x77,hx77,hF⟩:=bind_some hF
 obtain ⟨x82,hx82,hF⟩:=bind_some hF
 have Z:=Star.drop 1 Z rfl
 refine W_drawS 6 [isV (v1),isEl RP.int x77 0,isV (I x77),isV (v1),isEl RP.int x82 0,isV (I x82)] [box g7 23 #[v1]] [] ([]) [([],[]),([],[]),([],[]),([],[]),([],[]),([],[])] (S:=[]) Tryz_mix (by kernel_rfl) rfl (by kernel_rfl) (amF_cons (mono_V _) (amF_cons (mono_el _ _ _) (amF_cons (mono_V _) (amF_cons (mono_V _) (amF_cons (mono_el _ _ _) (amF_cons (mono_V _) amF_nil)))))) Z ?_ (fun f w_ H87 hS87 hE87 hT87 Z=>?_)
 refine opsS_cons (fun f w_ _ _ s _ _ Z=>ldB 0 Z Tryz.isAgg23 ((s 3 rfl).trans rfl) rfl rfl (nO rfl rfl Z)) (opsS_cons ?_ ?_)
 intro f w_ H87 X87 hS87 hE87 hP87 Z
 refine L_ix (r:=RP.int) rfl Tryz.underlying23 Tryz.sizeOf3 (hP87 0 56 rfl rfl) (RP.mono _ h1 hE87) rfl hx77 (fun g96 o97 cs_g96 hrk_hat98 hat98=>?_)
 obtain rfl : _ = [_]:=hrk_hat98
 exact L_nil ⟨rfl,_,_,rfl,Le.refl _,fun _ _=>⟨_,_,_,rfl,rfl,hat98⟩,Z⟩
 refine opsS_cons ?_ ?_
 intro f w_ H87 X87 hS87 hE87 hP87 Z
 obtain ⟨g100,o100,cs100,hv100,hrk_hat100,hat100⟩:=(hP87 1 57 rfl rfl)
 obtain rfl : _ = [_]:=hrk_hat100
 refine L_ld rfl Tryz.isAgg3 hv100 (At.cell (AtH.at hat100 Z.sub) (j:=0) rfl) (L_nil ⟨rfl,_,_,rfl,Le.refl _,fun _ _=>rfl,Z⟩)
 refine opsS_cons (fun f w_ _ _ s _ _ Z=>ldB 0 Z Tryz.isAgg23 ((s 3 rfl).trans rfl) rfl rfl (nO rfl rfl Z)) (opsS_cons ?_ ?_)
 intro f w_ H87 X87 hS87 hE87 hP87 Z
 refine L_ix (r:=RP.int) rfl Tryz.underlying23 Tryz.sizeOf3 (hP87 3 59 rfl rfl) (RP.mono _ h1 hE87) rfl hx82 (fun g102 o103 cs_g102 hrk_hat104 hat104=>?_)
 obtain rfl : _ = [_]:=hrk_hat104
 exact L_nil ⟨rfl,_,_,rfl,Le.refl _,fun _ _=>⟨_,_,_,rfl,rfl,hat104⟩,Z⟩
 refine opsS_cons ?_ ?_
 intro f w_ H87 X87 hS87 hE87 hP87 Z
 obtain ⟨g106,o106,cs106,hv106,hrk_hat106,hat106⟩:=(hP87 4 60 rfl rfl)
 obtain rfl : _ = [_]:=hrk_hat106
 refine L_ld rfl Tryz.isAgg3 hv106 (At.cell (AtH.at hat106 Z.sub) (j:=0) rfl) (L_nil ⟨rfl,_,_,rfl,Le.refl _,fun _ _=>rfl,Z⟩)
 exact opsS_nil
 refine L_lss rfl (hT87 2 58 rfl rfl) (hT87 5 61 rfl rfl) (aB rfl (nn (W_ret (retG1 (v1:=Bo (decide (x77 < x82))) Tryz.results105 rfl ?_))))
 obtain rfl:=so hF
 exact ⟨rfl,(Star.down (Star.keepN 0 Z) hE87 c0)⟩
theorem i_Model_encodeRule_c {fu : Nat} {m : Model} {r_ : Rule} {v0_0 : Value} {v0_1 : Value} {v1_1 : Value} {v1_2 : Value} {v1_4 : Value} {H : FH} {w : World} {R : List Ass} (Z : Star H w R) (h0_0 : (rS 3 RP.int).rel H [v0_0] m.sizes) (h0_1 : (rS 79 (rRule 3 23)).rel H [v0_1] m.rules) (h1_1 : (rS 3 RP.int).rel H [v1_1] r_.vars) (h1_2 : (rS 3 RP.int).rel H [v1_2] r_.coefs) (h1_4 : (rS 23 (rS 3 RP.int)).rel H [v1_4] r_.rows) {r : List Con} (hF : i_Model_encodeRule fu m r_ = some r) :
 C Tryz.prog 50 #[.agg #[v0_0,v0_1],.agg #[I r_.kind,v1_1,v1_2,I r_.bound,v1_4]] w fun v w'=>∃ H' : FH,Le H H'∧∃ (u1 : Value),v = u1∧Star H' w' (oF 73 (rCon 122) u1 r :: R):=by
 unfold i_Model_encodeRule at hF
 refine C_enter Tryz.func50 rfl Tryz.ntmps50 rfl (sq (L_box (v:=.agg #[v0_0,v0_1]) (cs:=#[v0_0,v0_1]) rfl rfl rfl Z (fun g5 w6 Z=>L_box (v:=.agg #[I r_.kind,v1_1,v1_2,I r_.bound,v1_4]) (cs:=#[I r_.kind,v1_1,v1_2,I r_.bound,v1_4]) rfl rfl rfl Z (fun g7 w8 Z=>aV S0 rfl (ns (L_al (cs:=#[S0]) rfl Tryz.zeroValue28 rfl Z (fun g11 w12 Z=>nq (sq (fA 0 fa_79_0 rfl rfl (ldB 1 Z Tryz.isAgg3 rfl rfl rfl (nn (W_block (sq (L_eql rfl rfl rfl (aB rfl (nn (W_cond (b:=(r_.kind == 1)) rfl (fun hc13=>?_) (fun hc13=>?_))))))))))))))))))
 have hF:=(ite_t hc13).symm.trans hF
 refine sq (aV S0 rfl (nq (sq (fA 1 fa_79_1 rfl rfl (ldB 1 Z Tryz.isAgg23 rfl rfl rfl (L_len rfl Tryz.underlying23 rfl (slice_len h1_1) (mI rfl (nn ?_))))))))
 have hlen19 : List.length r_.vars≤9223372036854775807:=len_le (slice_len h1_1)
 obtain ⟨j19,hL19,hF⟩:=bind_some hF
 obtain ⟨R19,hR19⟩:=exR fun f w_=>∃ terms_15 : List Term,∃ H17 : FH,∃ v15_terms : Value,j19 = .nx terms_15∧Le H H17∧f 3 = Pt g7∧f 6 = v15_terms∧Star H17 w_ (oF 122 rTerm v15_terms terms_15 :: box g7 79 #[I r_.kind,v1_1,v1_2,I r_.bound,v1_4] :: R)
 refine W_join R19 ?_ ?_
 refine W_block ?_
 obtain ⟨I19,hI19⟩:=exI fun n f w_=>∃ i_14 : Nat,∃ suf19 : List Int,∃ terms_15 : List Term,∃ H17 : FH,∃ v15_terms : Value,n = suf19.length∧List.drop i_14 r_.vars = suf19∧i_14 + suf19.length = r_.vars.length∧rangeL (i_Model_encodeRule_b1 m r_) suf19 i_14 terms_15 = some j19∧Le H H17∧f 2 = Pt g5∧f 3 = Pt g7∧f 6 = v15_terms∧f 24 = v1_1∧f 25 = I (r_.vars.length : Int)∧f 26 = I i_14∧Star H17 w_ (oF 122 rTerm v15_terms terms_15 :: box g7 79 #[I r_.kind,v1_1,v1_2,I r_.bound,v1_4] :: box g5 26 #[v0_0,v0_1] :: R)
 have Z:=Star.addNil (R:=(OR.frz rTerm)) (e:=122) Z
 have Z:=Z.gets [3,3,2] rfl
 have Z:=Star.drop 3 Z rfl
 refine W_loop I19 (n:=r_.vars.length) ?_ ?_
 exact ij hI19 ⟨0,r_.vars,[],H,S0,rfl,rfl,Nat.zero_add _,hL19,(Le.refl _),rfl,rfl,rfl,rfl,rfl,rfl,Z⟩
 intro n19 f w_ hI
 obtain ⟨i_14,suf19,terms_15,H17,v15_terms,rfl,hd19,hl19,hL19,l18,sf2,sf3,sf6,sf24,sf25,sf26,Z⟩:=ik hI19 hI
 refine sq (L_lss rfl sf26 sf25 (nq (W_cond (b:=decide ((i_14 : Int) < (r_.vars.length : Int))) rfl (fun hc21=>?_) (fun hc21=>?_))))
 have hlt19:=of_decide_eq_true hc21
 rcases suf19 with _ | ⟨x_19,rest19⟩
 exact absurd hlt19 (by simp at hl19; omega)
 obtain ⟨o19,hB19,hL19⟩:=range_cons hL19
 rw [i_Model_encodeRule_b1] at hB19
 have hix19:=drop_idx hd19
 refine W_skip (W_seq (W_block (sq (mF sf26 rfl (L_ix (r:=RP.int) rfl Tryz.underlying23 Tryz.sizeOf3 sf24 (RP.mono _ h1_1 l18) sf26 hix19 (fun g26 o27 cs_g26 hrk_hat28 hat28=>?_))))))
 obtain rfl : _ = [_]:=hrk_hat28
 refine L_ld rfl Tryz.isAgg3 rfl (At.cell (AtH.at hat28 Z.sub) (j:=0) rfl) (aI rfl (aI rfl (nq ?_)))
 obtain ⟨x30,hx30,hB19⟩:=bind_some hB19
 refine W_region (fA 0 fa_26_0 sf2 rfl (ldB 2 Z Tryz.isAgg23 rfl rfl rfl (mI rfl (L_ix (r:=RP.int) rfl Tryz.underlying23 Tryz.sizeOf3 rfl (RP.mono _ h0_0 l18) rfl hx30 (fun g35 o36 cs_g35 hrk_hat37 hat37=>?_)))))
 obtain rfl : _ = [_]:=hrk_hat37
 refine L_ld rfl Tryz.isAgg3 rfl (At.cell (AtH.at hat37 Z.sub) (j:=0) rfl) (L_add rfl rfl rfl (mI rfl (nn ?_)))
 obtain ⟨k45,hk45,hB19⟩:=bind_some hB19
 obtain ⟨j44,hL44,hB19⟩:=bind_some hB19
 obtain ⟨R44,hR44⟩:=exR fun f w_=>∃ terms_40 : List Term,∃ H42 : FH,∃ v40_terms : Value,j44 = .nx terms_40∧Le H17 H42∧f 2 = Pt g5∧f 3 = Pt g7∧f 6 = v40_terms∧f 24 = v1_1∧f 25 = I (r_.vars.length : Int)∧f 26 = I i_14∧Star H42 w_ (oF 122 rTerm v40_terms terms_40 :: box g7 79 #[I r_.kind,v1_1,v1_2,I r_.bound,v1_4] :: box g5 26 #[v0_0,v0_1] :: R)
 refine W_join R44 ?_ ?_
 refine W_block ?_
 obtain ⟨I44,hI44⟩:=exI fun n f w_=>∃ i_39 : Nat,∃ suf44 : Nat,∃ terms_40 : List Term,∃ H42 : FH,∃ v40_terms : Value,suf44 = n∧0≤i_39∧i_39 + suf44 = 0 + k45∧countL (i_Model_encodeRule_b2 m r_ i_14 x_19) suf44 i_39 terms_40 = some j44∧Le H17 H42∧f 2 = Pt g5∧f 3 = Pt g7∧f 6 = v40_terms∧f 7 = I i_14∧f 8 = I x_19∧f 24 = v1_1∧f 25 = I (r_.vars.length : Int)∧f 26 = I i_14∧f 36 = I (i64 (x30 + 1))∧f 37 = I i_39∧Star H42 w_ (oF 122 rTerm v40_terms terms_40 :: box g7 79 #[I r_.kind,v1_1,v1_2,I r_.bound,v1_4] :: box g5 26 #[v0_0,v0_1] :: R)
 refine W_loop I44 (n:=k45) ?_ ?_
 exact ij hI44 ⟨0,k45,terms_15,H17,v15_terms,rfl,Nat.le_refl _,rfl,hL44,(Le.refl _),sf2,sf3,sf6,rfl,rfl,sf24,sf25,sf26,rfl,rfl,Z⟩
 intro n44 f w_ hI
 obtain ⟨i_39,suf44,terms_40,H42,v40_terms,rfl,hs44,hl44,hL44,l43,sf2,sf3,sf6,sf7,sf8,sf24,sf25,sf26,sf36,sf37,Z⟩:=ik hI44 hI
 refine sq (L_lss rfl sf37 sf36 (nq (W_cond (b:=decide ((i_39 : Int) < (i64 (x30 + 1)))) rfl (fun hc46=>?_) (fun hc46=>?_))))
 have hlt44:=of_decide_eq_true hc46
 rcases suf44 with _ | rest44
 exact absurd hlt44 (cntF_no hl44 hk45)
 obtain ⟨o44,hB44,hL44⟩:=count_succ hL44
 rw [i_Model_encodeRule_b2] at hB44
 refine W_skip (W_seq (W_block (sq (mF sf37 rfl (aI rfl (nn ?_))))))
 obtain ⟨x47,hx47,hB44⟩:=bind_some hB44
 obtain ⟨x57,hx57,hB44⟩:=bind_some hB44
 obtain ⟨x62,hx62,hB44⟩:=bind_some hB44
 refine W_drawS 14 [isV (v40_terms),isV (Pq g7 2),isV (v1_2),isV (I i_14),isEl RP.int x47 0,isV (I x47),isV (I i_39),isV (I (i64 (x47 * (i_39 : Int)))),isV (.agg #[v0_0,v0_1]),isV (I x_19),isV (I i_39),isV (I x57),isV (.agg #[I (i64 (x47 * (i_39 : Int))),I x57]),anyF] [oF 122 rTerm v40_terms terms_40,box g7 79 #[I r_.kind,v1_1,v1_2,I r_.bound,v1_4],box g5 26 #[v0_0,v0_1]] [.made 13 53 (fun v_=>oF 122 rTerm v_ ([({ coef:=i64 (x47 * (i_39 : Int)),lit:=x57 } : Term)])) none] (R) [([],[]),([],[]),([],[]),([],[]),([],[]),([],[]),([],[]),([],[]),([],[]),([],[]),([],[]),([],[]),([],[]),([],[0])] (S:=[(some 13,[53],none)]) Tryz_mix (by kernel_rfl) rfl (by kernel_rfl) (amF_cons (mono_V _) (amF_cons (mono_V _) (amF_cons (mono_V _) (amF_cons (mono_V _) (amF_cons (mono_el _ _ _) (amF_cons (mono_V _) (amF_cons (mono_V _) (amF_cons (mono_V _) (amF_cons (mono_V _) (amF_cons (mono_V _) (amF_cons (mono_V _) (amF_cons (mono_V _) (amF_cons (mono_V _) (amF_cons (mono_any) amF_nil)))))))))))))) Z ?_ (fun f w_ H66 hS66 hE66 hT66 Z=>?_)
 refine opsS_cons (fun f w_ _ _ s _ _ Z=>mF ((s 6 rfl).trans sf6) rfl (nO rfl rfl Z)) (opsS_cons (fun f w_ _ _ s _ _ Z=>fA 2 fa_79_2 ((s 3 rfl).trans sf3) rfl (nO rfl rfl Z)) (opsS_cons (fun f w_ _ _ _ _ p Z=>ldB 1 Z Tryz.isAgg23 (p 1 41 rfl rfl) rfl rfl (nO rfl rfl Z)) (opsS_cons (fun f w_ _ _ s _ _ Z=>mF ((s 7 rfl).trans sf7) rfl (nO rfl rfl Z)) (opsS_cons ?_ ?_))))
 intro f w_ H66 X66 hS66 hE66 hP66 Z
 refine L_ix (r:=RP.int) rfl Tryz.underlying23 Tryz.sizeOf3 (hP66 2 42 rfl rfl) (RP.mono _ h1_2 (Le.trans (Le.trans l18 l43) hE66)) (hP66 3 43 rfl rfl) hx47 (fun g80 o81 cs_g80 hrk_hat82 hat82=>?_)
 obtain rfl : _ = [_]:=hrk_hat82
 exact L_nil ⟨rfl,_,_,rfl,Le.refl _,fun _ _=>⟨_,_,_,rfl,rfl,hat82⟩,Z⟩
 refine opsS_cons ?_ ?_
 intro f w_ H66 X66 hS66 hE66 hP66 Z
 obtain ⟨g84,o84,cs84,hv84,hrk_hat84,hat84⟩:=(hP66 4 44 rfl rfl)
 obtain rfl : _ = [_]:=hrk_hat84
 refine L_ld rfl Tryz.isAgg3 hv84 (At.cell (AtH.at hat84 Z.sub) (j:=0) rfl) (L_nil ⟨rfl,_,_,rfl,Le.refl _,fun _ _=>rfl,Z⟩)
 refine opsS_cons (fun f w_ _ _ s _ _ Z=>mF ((s 9 rfl).trans rfl) rfl (nO rfl rfl Z)) (opsS_cons (fun f w_ _ _ _ _ p Z=>L_mul rfl (p 5 45 rfl rfl) (p 6 46 rfl rfl) (nO rfl rfl Z)) (opsS_cons (fun f w_ _ _ s _ _ Z=>L_lda (cs:=[v0_0,v0_1]) rfl Tryz.isAgg26 Tryz.sizeOf26 ((s 2 rfl).trans sf2) (At.sub0 (Blk.at (Star.blkAt 2 Z rfl)) 0 2) rfl (nO rfl rfl Z)) (opsS_cons (fun f w_ _ _ s _ _ Z=>mF ((s 8 rfl).trans sf8) rfl (nO rfl rfl Z)) (opsS_cons (fun f w_ _ _ s _ _ Z=>mF ((s 9 rfl).trans rfl) rfl (nO rfl rfl Z)) (opsS_cons ?_ ?_)))))
 intro f w_ H66 X66 hS66 hE66 hP66 Z
 obtain ⟨H86b,l87,s88,z89,k90⟩:=Z.borrow
 refine L_call rfl Tryz.call63 (ops3 (hP66 8 48 rfl rfl) (hP66 9 49 rfl rfl) (hP66 10 50 rfl rfl)) (i_Model_boolVar_c (m:=m) (cell:=x_19) (value:=(i_39 : Int)) s88 (RP.mono _ h0_0 (Le.trans (Le.trans (Le.trans l18 l43) hE66) l87)) (RP.mono _ h0_1 (Le.trans (Le.trans (Le.trans l18 l43) hE66) l87)) hx57) ?_
 rintro _ w91 ⟨rfl,Z⟩
 have Z:=k90 Z c0
 exact L_nil ⟨rfl,_,_,rfl,Le.refl _,fun _ _=>rfl,Z⟩
 refine opsS_cons (fun f w_ _ _ _ _ p Z=>L_bld rfl (parts2 (p 7 47 rfl rfl) (p 11 51 rfl rfl)) (bld_122_0_1 (I (i64 (x47 * (i_39 : Int)))) (I x57) rfl rfl) (nO rfl rfl Z)) (opsS_cons ?_ ?_)
 intro f w_ H66 X66 hS66 hE66 hP66 Z
 refine L_bs rfl (parts1 (hP66 12 52 rfl rfl)) (bs_71_1_2 (I (i64 (x47 * (i_39 : Int)))) (I x57) ) Z (fun g92 w93 Z=>?_)
 have Z:=Star.addF (r:=rTerm) (cs:=[I (i64 (x47 * (i_39 : Int))),I x57]) (x:=({ coef:=i64 (x47 * (i_39 : Int)),lit:=x57 } : Term)) Z (rTerm_iff.2 rfl)
 have Z:=Star.mkRow (R:=(OR.frz rTerm)) [([I (i64 (x47 * (i_39 : Int))),I x57],({ coef:=i64 (x47 * (i_39 : Int)),lit:=x57 } : Term))] [({ coef:=i64 (x47 * (i_39 : Int)),lit:=x57 } : Term)] 1 Z rfl rfl rfl (by decide)
 have Z:=Z.gets [3,3,3] rfl
 exact L_nil ⟨rfl,_,_,rfl,Le.refl _,fun _ _=>trivial,Z⟩
 exact opsS_nil
 have Z : Star H66 w_ (oF 122 rTerm v40_terms terms_40 :: box g7 79 #[I r_.kind,v1_1,v1_2,I r_.bound,v1_4] :: box g5 26 #[v0_0,v0_1] :: oF 122 rTerm (f 53) ([({ coef:=i64 (x47 * (i_39 : Int)),lit:=x57 } : Term)]) :: R):=Z
 have Z:=Z.gets [3,1] rfl
 refine L_appM (v:=v40_terms) (u:=(f 53)) rfl et_71 (hT66 0 40 rfl rfl) rfl Z hx62 (fun v96 w97 Z=>aV v96 rfl (nn (W_region (L_add rfl ((hS66 37 rfl).trans sf37) rfl (mI rfl (nn ?_))))))
 obtain rfl:=so hB44
 show ∃ m,m < _∧I44 m _ _
 refine ⟨rest44,Nat.lt_succ_self _,?_⟩
 exact ij hI44 ⟨i_39 + 1,rest44,x62,H66,v96,rfl,by omega,by omega,hL44,(Le.trans l43 hE66),((hS66 2 rfl).trans sf2),((hS66 3 rfl).trans sf3),rfl,((hS66 7 rfl).trans sf7),((hS66 8 rfl).trans sf8),((hS66 24 rfl).trans sf24),((hS66 25 rfl).trans sf25),((hS66 26 rfl).trans sf26),((hS66 36 rfl).trans sf36),(Eq.trans rfl (congrArg (Value.int .i64) (i64_succ (n:=0 + k45) (by omega) (cntF_le hk45)))),Z⟩
 rcases suf44 with _ | _
 obtain rfl:=count_zero hL44
 refine W_exit (rj hR44 ⟨terms_40,H42,v40_terms,rfl,l43,sf2,sf3,sf6,sf24,sf25,sf26,Z⟩)
 exact absurd (cntF_yes hs44 hl44 hk45) (of_decide_eq_false hc46)
 intro f w_ hR
 obtain ⟨terms_40,H42,v40_terms,rfl,l43,sf2,sf3,sf6,sf24,sf25,sf26,Z⟩:=rk hR44 hR
 refine W_region (L_add rfl sf26 rfl (mI rfl (nn ?_)))
 obtain rfl:=so hB19
 show ∃ m,m < _∧I19 m _ _
 refine ⟨rest19.length,by simp,?_⟩
 exact ij hI19 ⟨i_14 + 1,rest19,terms_40,H42,v40_terms,rfl,drop_next hd19,by simp at hl19; omega,hL19,(Le.trans l18 l43),sf2,sf3,sf6,sf24,sf25,(Eq.trans rfl (congrArg (Value.int .i64) (i64_succ (n:=r_.vars.length) (by simp at hl19; omega) hlen19))),Z⟩
 rcases suf19 with _ | ⟨_,_⟩
 obtain rfl:=range_nil hL19
 refine W_exit ?_
 have Z:=Star.drop 2 Z rfl
 exact rj hR19 ⟨terms_15,H17,v15_terms,rfl,l18,sf3,sf6,Z⟩
 exact absurd (of_decide_eq_false hc21) (by simp at hl19; omega)
 intro f w_ hR
 obtain ⟨terms_15,H17,v15_terms,rfl,l18,sf3,sf6,Z⟩:=rk hR19 hR
 refine W_seq ?_
 obtain ⟨x102,hx102,hF⟩:=bind_some hF
 refine W_region (mF sf6 rfl (fA 3 fa_79_3 sf3 rfl (ldB 1 Z Tryz.isAgg3 rfl rfl rfl ?_)))
 obtain ⟨H107,l108,Z,hz109⟩:=Star.freeze Z
 have hz109 : (rS 122 rTerm).rel H107 [v15_terms] terms_15:=hz109
 refine L_call rfl Tryz.call102 (ops2 rfl rfl) (i_normal_c (terms:=terms_15) (bound:=r_.bound) Z hz109 hx102) ?_
 rintro _ w110 ⟨H110,l110,r110_0,rfl,hr110_0,Z⟩
 refine mV (.tuple #[.agg #[r110_0,I x102.1.bound],Bo x102.2]) rfl (L_ex (v:=.agg #[r110_0,I x102.1.bound]) rfl rfl rfl (L_ex (v:=Bo x102.2) rfl rfl rfl (L_al (cs:=#[S0,I 0]) rfl Tryz.zeroValue73 rfl Z (fun g111 w112 Z=>L_staB (vs:=#[r110_0,I x102.1.bound]) (cs2:=#[r110_0,I x102.1.bound]) 0 rfl Tryz.sizeOf73 rfl rfl rfl (ones_cons (one_len (slice_len hr110_0)) (ones_cons rfl ones_nil)) Z rfl (by show 0 + 2≤2; decide) rfl (fun w113 Z=>aB rfl (L_nil (sq (L_lda (cs:=[r110_0,I x102.1.bound]) rfl Tryz.isAgg73 Tryz.sizeOf73 rfl (At.sub0 (Blk.at (Star.blkAt 0 Z rfl)) 0 2) rfl (L_bs rfl (parts1 rfl) (bs_28_1_2 (r110_0) (I x102.1.bound) ) Z (fun g117 w118 Z=>?_))))))))))
 have Z:=Star.addF (r:=(rCon 122)) (cs:=[r110_0,I x102.1.bound]) (x:=x102.1) Z (rCon_iff.2 ⟨_,rfl,hr110_0⟩)
 have Z:=Star.mkRow (R:=(OR.frz (rCon 122))) [([r110_0,I x102.1.bound],x102.1)] [x102.1] 1 Z rfl rfl rfl (by decide)
 refine aV (Sl g117 1 1) rfl (nn (W_ret (retG1 (v1:=(Sl g117 1 1)) Tryz.results50 rfl ?_)))
 obtain rfl:=so hF
 have Z:=Star.drop 1 Z rfl
 have Z:=Star.drop 1 Z rfl
 exact ⟨H110,(Le.trans (Le.trans l18 l108) l110),(Sl g117 1 1),rfl,Z⟩
 have hF:=(ite_f hc13).symm.trans hF
 refine sq (L_eql rfl rfl rfl (aB rfl (nn (W_cond (b:=(r_.kind == 2)) rfl (fun hc120=>?_) (fun hc120=>?_)))))
 have hF:=(ite_t hc120).symm.trans hF
 refine W_seq (sq (mI rfl (nn ?_)))
 obtain ⟨k127,hk127,hF⟩:=bind_some hF
 obtain ⟨j126,hL126,hF⟩:=bind_some hF
 obtain ⟨R126,hR126⟩:=exR fun f w_=>∃ g11_0_122 : List Con,∃ H124 : FH,∃ v122_g11_0 : Value,j126 = .nx g11_0_122∧Le H H124∧f 5 = Pt g11∧Star H124 w_ (oS 73 (oCon 122) v122_g11_0 g11_0_122 :: box g11 28 #[v122_g11_0] :: R)
 refine W_join R126 ?_ ?_
 refine W_block ?_
 obtain ⟨I126,hI126⟩:=exI fun n f w_=>∃ i_121 : Nat,∃ suf126 : Nat,∃ g11_0_122 : List Con,∃ H124 : FH,∃ v122_g11_0 : Value,suf126 = n∧0≤i_121∧i_121 + suf126 = 0 + k127∧countL (i_Model_encodeRule_b3 fu m r_) suf126 i_121 g11_0_122 = some j126∧Le H H124∧f 2 = Pt g5∧f 3 = Pt g7∧f 5 = Pt g11∧f 68 = I i_121∧Star H124 w_ (oS 73 (oCon 122) v122_g11_0 g11_0_122 :: box g11 28 #[v122_g11_0] :: box g7 79 #[I r_.kind,v1_1,v1_2,I r_.bound,v1_4] :: box g5 26 #[v0_0,v0_1] :: R)
 have Z:=Star.addNil (R:=(oCon 122)) (e:=73) Z
 refine W_loop I126 (n:=k127) ?_ ?_
 exact ij hI126 ⟨0,k127,[],H,S0,rfl,Nat.le_refl _,rfl,hL126,(Le.refl _),rfl,rfl,rfl,rfl,Z⟩
 intro n126 f w_ hI
 obtain ⟨i_121,suf126,g11_0_122,H124,v122_g11_0,rfl,hs126,hl126,hL126,l125,sf2,sf3,sf5,sf68,Z⟩:=ik hI126 hI
 refine sq (L_lss rfl sf68 rfl (nq (W_cond (b:=decide ((i_121 : Int) < 4)) rfl (fun hc129=>?_) (fun hc129=>?_))))
 have hlt126:=of_decide_eq_true hc129
 rcases suf126 with _ | rest126
 exact absurd hlt126 (cntF_no hl126 hk127)
 obtain ⟨o126,hB126,hL126⟩:=count_succ hL126
 rw [i_Model_encodeRule_b3] at hB126
 refine W_skip (W_seq (W_block (sq (mF sf68 rfl (aI rfl (ns (aV S0 rfl (nq (sq (fA 1 fa_79_1 sf3 rfl (ldB 2 Z Tryz.isAgg23 rfl rfl rfl (L_len rfl Tryz.underlying23 rfl (slice_len (RP.mono _ h1_1 l125)) (mI rfl (nn ?_))))))))))))))
 have hlen133 : List.length r_.vars≤9223372036854775807:=len_le (slice_len (RP.mono _ h1_1 l125))
 obtain ⟨j133,hL133,hB126⟩:=bind_some hB126
 obtain ⟨R133,hR133⟩:=exR fun f w_=>∃ vars_131 : List Int,∃ v131_vars : Value,j133 = .nx vars_131∧f 2 = Pt g5∧f 3 = Pt g7∧f 5 = Pt g11∧f 13 = v131_vars∧f 68 = I i_121∧Star H124 w_ (oF 3 RP.int v131_vars vars_131 :: oS 73 (oCon 122) v122_g11_0 g11_0_122 :: box g11 28 #[v122_g11_0] :: box g7 79 #[I r_.kind,v1_1,v1_2,I r_.bound,v1_4] :: box g5 26 #[v0_0,v0_1] :: R)
 refine W_join R133 ?_ ?_
 refine W_block ?_
 obtain ⟨I133,hI133⟩:=exI fun n f w_=>∃ i_130 : Nat,∃ suf133 : List Int,∃ vars_131 : List Int,∃ v131_vars : Value,n = suf133.length∧List.drop i_130 r_.vars = suf133∧i_130 + suf133.length = r_.vars.length∧rangeL (i_Model_encodeRule_b4 m i_121) suf133 i_130 vars_131 = some j133∧f 2 = Pt g5∧f 3 = Pt g7∧f 5 = Pt g11∧f 12 = I i_121∧f 13 = v131_vars∧f 68 = I i_121∧f 72 = v1_1∧f 73 = I (r_.vars.length : Int)∧f 74 = I i_130∧Star H124 w_ (oF 3 RP.int v131_vars vars_131 :: oS 73 (oCon 122) v122_g11_0 g11_0_122 :: box g11 28 #[v122_g11_0] :: box g7 79 #[I r_.kind,v1_1,v1_2,I r_.bound,v1_4] :: box g5 26 #[v0_0,v0_1] :: R)
 have Z:=Star.addNil (R:=(OR.frz RP.int)) (e:=3) Z
 refine W_loop I133 (n:=r_.vars.length) ?_ ?_
 exact ij hI133 ⟨0,r_.vars,[],S0,rfl,rfl,Nat.zero_add _,hL133,sf2,sf3,sf5,rfl,rfl,sf68,rfl,rfl,rfl,Z⟩
 intro n133 f w_ hI
 obtain ⟨i_130,suf133,vars_131,v131_vars,rfl,hd133,hl133,hL133,sf2,sf3,sf5,sf12,sf13,sf68,sf72,sf73,sf74,Z⟩:=ik hI133 hI
 refine sq (L_lss rfl sf74 sf73 (nq (W_cond (b:=decide ((i_130 : Int) < (r_.vars.length : Int))) rfl (fun hc135=>?_) (fun hc135=>?_))))
 have hlt133:=of_decide_eq_true hc135
 rcases suf133 with _ | ⟨x_133,rest133⟩
 exact absurd hlt133 (by simp at hl133; omega)
 obtain ⟨o133,hB133,hL133⟩:=range_cons hL133
 rw [i_Model_encodeRule_b4] at hB133
 have hix133:=drop_idx hd133
 refine W_skip (W_seq (W_block (sq (L_ix (r:=RP.int) rfl Tryz.underlying23 Tryz.sizeOf3 sf72 (RP.mono _ h1_1 l125) sf74 hix133 (fun g140 o141 cs_g140 hrk_hat142 hat142=>?_)))))
 obtain rfl : _ = [_]:=hrk_hat142
 refine L_ld rfl Tryz.isAgg3 rfl (At.cell (AtH.at hat142 Z.sub) (j:=0) rfl) (aI rfl (nq ?_))
 obtain ⟨x144,hx144,hB133⟩:=bind_some hB133
 refine W_region (mF sf12 rfl (fA 0 fa_26_0 sf2 rfl (ldB 4 Z Tryz.isAgg23 rfl rfl rfl (mI rfl (L_ix (r:=RP.int) rfl Tryz.underlying23 Tryz.sizeOf3 rfl (RP.mono _ h0_0 l125) rfl hx144 (fun g149 o150 cs_g149 hrk_hat151 hat151=>?_))))))
 obtain rfl : _ = [_]:=hrk_hat151
 refine L_ld rfl Tryz.isAgg3 rfl (At.cell (AtH.at hat151 Z.sub) (j:=0) rfl) (L_leq rfl rfl rfl (nn ?_))
 obtain ⟨vars_153,hA155,hB133⟩:=bind_some hB133
 obtain ⟨R155,hR155⟩:=exR fun f w_=>∃ v153_vars : Value,f 2 = Pt g5∧f 3 = Pt g7∧f 5 = Pt g11∧f 12 = I i_121∧f 13 = v153_vars∧f 68 = I i_121∧f 72 = v1_1∧f 73 = I (r_.vars.length : Int)∧f 74 = I i_130∧Star H124 w_ (oF 3 RP.int v153_vars vars_153 :: oS 73 (oCon 122) v122_g11_0 g11_0_122 :: box g11 28 #[v122_g11_0] :: box g7 79 #[I r_.kind,v1_1,v1_2,I r_.bound,v1_4] :: box g5 26 #[v0_0,v0_1] :: R)
 refine W_join R155 ?_ ?_
 refine W_cond (b:=decide ((i_121 : Int)≤x144)) rfl (fun hc156=>?_) (fun hc156=>?_)
 have hA155:=(ite_t hc156).symm.trans hA155
 obtain ⟨x162,hx162,hA155⟩:=bind_some hA155
 obtain ⟨x167,hx167,hA155⟩:=bind_some hA155
 refine W_region (mF sf13 rfl (L_lda (cs:=[v0_0,v0_1]) rfl Tryz.isAgg26 Tryz.sizeOf26 sf2 (At.sub0 (Blk.at (Star.blkAt 4 Z rfl)) 0 2) rfl (mI rfl (mF sf12 rfl ?_))))
 obtain ⟨H171b,l172,s173,z174,k175⟩:=Z.borrow
 refine L_call rfl Tryz.call63 (ops3 rfl rfl rfl) (i_Model_boolVar_c (m:=m) (cell:=x_133) (value:=(i_121 : Int)) s173 (RP.mono _ h0_0 (Le.trans l125 l172)) (RP.mono _ h0_1 (Le.trans l125 l172)) hx162) ?_
 rintro _ w176 ⟨rfl,Z⟩
 have Z:=k175 Z c0
 refine L_bs rfl (parts1 rfl) (bs_23_1_0 (I x162) rfl) Z (fun g177 w178 Z=>?_)
 have Z:=Star.addF (r:=RP.int) (cs:=[I x162]) (x:=x162) Z rfl
 have Z:=Star.mkRow (R:=(OR.frz RP.int)) [([I x162],x162)] [x162] 1 Z rfl rfl rfl (by decide)
 have Z:=Z.get 1 rfl
 refine L_appM (v:=v131_vars) (u:=(Sl g177 1 1)) rfl et_23 rfl rfl Z hx167 (fun v180 w181 Z=>aV v180 rfl (nn ?_))
 obtain rfl:=so hA155
 exact rj hR155 ⟨v180,sf2,sf3,sf5,sf12,rfl,sf68,sf72,sf73,sf74,Z⟩
 have hA155:=(ite_f hc156).symm.trans hA155
 refine W_skip ?_
 obtain rfl:=so hA155
 exact rj hR155 ⟨v131_vars,sf2,sf3,sf5,sf12,sf13,sf68,sf72,sf73,sf74,Z⟩
 intro f w_ hR
 obtain ⟨v153_vars,sf2,sf3,sf5,sf12,sf13,sf68,sf72,sf73,sf74,Z⟩:=rk hR155 hR
 refine W_region (L_add rfl sf74 rfl (mI rfl (nn ?_)))
 obtain rfl:=so hB133
 show ∃ m,m < _∧I133 m _ _
 refine ⟨rest133.length,by simp,?_⟩
 exact ij hI133 ⟨i_130 + 1,rest133,vars_153,v153_vars,rfl,drop_next hd133,by simp at hl133; omega,hL133,sf2,sf3,sf5,sf12,sf13,sf68,sf72,sf73,(Eq.trans rfl (congrArg (Value.int .i64) (i64_succ (n:=r_.vars.length) (by simp at hl133; omega) hlen133))),Z⟩
 rcases suf133 with _ | ⟨_,_⟩
 obtain rfl:=range_nil hL133
 refine W_exit (rj hR133 ⟨vars_131,v131_vars,rfl,sf2,sf3,sf5,sf13,sf68,Z⟩)
 exact absurd (of_decide_eq_false hc135) (by simp at hl133; omega)
 intro f w_ hR
 obtain ⟨vars_131,v131_vars,rfl,sf2,sf3,sf5,sf13,sf68,Z⟩:=rk hR133 hR
 refine sq (mF sf13 rfl (L_len rfl Tryz.underlying23 rfl (Star.len 0 Z rfl) (L_gtr rfl rfl rfl (nn ?_))))
 obtain ⟨g11_0_183,hA187,hB126⟩:=bind_some hB126
 obtain ⟨R187,hR187⟩:=exR fun f w_=>∃ H185 : FH,∃ v183_g11_0 : Value,Le H124 H185∧f 2 = Pt g5∧f 3 = Pt g7∧f 5 = Pt g11∧f 68 = I i_121∧Star H185 w_ (oS 73 (oCon 122) v183_g11_0 g11_0_183 :: box g11 28 #[v183_g11_0] :: box g7 79 #[I r_.kind,v1_1,v1_2,I r_.bound,v1_4] :: box g5 26 #[v0_0,v0_1] :: R)
 refine W_join R187 ?_ ?_
 refine W_cond (b:=decide ((vars_131.length : Int) > 1)) rfl (fun hc188=>?_) (fun hc188=>?_)
 have hA187:=(ite_t hc188).symm.trans hA187
 refine W_seq ?_
 obtain ⟨x194,hx194,hA187⟩:=bind_some hA187
 refine W_region (mF sf13 rfl ?_)
 obtain ⟨H196b,l197,s198,z199,k200⟩:=Z.lend [_]
 refine L_call rfl Tryz.call103 (ops1 rfl) (slices_Sort_int_c (x:=vars_131) s198 hx194) ?_
 rintro _ w201 ⟨rfl,Z⟩
 have Z:=k200 Z (co closed_int c0)
 refine nn ?_
 obtain ⟨x208,hx208,hA187⟩:=bind_some hA187
 obtain ⟨x214,hx214,hA187⟩:=bind_some hA187
 refine W_drawS 4 [isV (v122_g11_0),isV (v131_vars),exA fun u_0=>isV (.agg #[u_0,I x208.bound]),anyF] [oF 3 RP.int v131_vars x194,oS 73 (oCon 122) v122_g11_0 g11_0_122,box g11 28 #[v122_g11_0],box g7 79 #[I r_.kind,v1_1,v1_2,I r_.bound,v1_4],box g5 26 #[v0_0,v0_1]] [.made 2 100 (fun v_=>oF 122 rTerm (aggC v_ 0) x208.terms) (some 3),.made 3 101 (fun v_=>oS 73 (oCon 122) v_ ([x208])) none] (R) [([],[]),([],[]),([],[0]),([0],[1])] (S:=[(some 2,[100],some 3),(some 3,[101],none)]) Tryz_mix (by kernel_rfl) rfl (by kernel_rfl) (amF_cons (mono_V _) (amF_cons (mono_V _) (amF_cons (mono_exA fun _=>mono_V _) (amF_cons (mono_any) amF_nil)))) Z ?_ (fun f w_ H219 hS219 hE219 hT219 Z=>?_)
 refine opsS_cons (fun f w_ _ _ s _ _ Z=>ldB 2 Z Tryz.isAgg28 ((s 5 rfl).trans sf5) rfl rfl (nO rfl rfl Z)) (opsS_cons (fun f w_ _ _ s _ _ Z=>mF ((s 13 rfl).trans sf13) rfl (nO rfl rfl Z)) (opsS_cons ?_ ?_))
 intro f w_ H219 X219 hS219 hE219 hP219 Z
 obtain ⟨H231b,l232,s233,z234,k235⟩:=Z.borrow
 have hb236 : (rS 3 RP.int).rel H231b [v131_vars] x194:=fz_own 0 z234 rfl
 refine L_call rfl Tryz.call49 (ops1 (hP219 1 99 rfl rfl)) (i_atMostOne_c (vars:=x194) s233 hb236 hx208) ?_
 rintro _ w237 ⟨r237_0,rfl,Z⟩
 have Z:=k235 Z (co closed_term c0)
 have Z:=Z.gets [5,5,5,5,5] rfl
 exact L_nil ⟨rfl,_,_,rfl,Le.refl _,fun _ _=>⟨_,rfl⟩,Z⟩
 refine opsS_cons ?_ ?_
 intro f w_ H219 X219 hS219 hE219 hP219 Z
 have Z : Star H219 w_ (oF 3 RP.int v131_vars x194 :: oS 73 (oCon 122) v122_g11_0 g11_0_122 :: box g11 28 #[v122_g11_0] :: box g7 79 #[I r_.kind,v1_1,v1_2,I r_.bound,v1_4] :: box g5 26 #[v0_0,v0_1] :: own (OR.ownS 122 (OR.frz rTerm)) [(aggC (f 100) 0)] x208.terms :: X219):=Z
 obtain ⟨u239_0,hv239⟩:=(hP219 2 100 rfl rfl)
 have hren : Star H219 w_ (oF 3 RP.int v131_vars x194 :: oS 73 (oCon 122) v122_g11_0 g11_0_122 :: box g11 28 #[v122_g11_0] :: box g7 79 #[I r_.kind,v1_1,v1_2,I r_.bound,v1_4] :: box g5 26 #[v0_0,v0_1] :: own (OR.ownS 122 (OR.frz rTerm)) [(aggC (f 100) 0)] x208.terms :: X219):=Z
 rw [hv239] at hren
 have Z : Star H219 w_ (oF 3 RP.int v131_vars x194 :: oS 73 (oCon 122) v122_g11_0 g11_0_122 :: box g11 28 #[v122_g11_0] :: box g7 79 #[I r_.kind,v1_1,v1_2,I r_.bound,v1_4] :: box g5 26 #[v0_0,v0_1] :: oF 122 rTerm u239_0 x208.terms :: X219):=hren
 refine L_bs rfl (parts1 hv239) (bs_28_1_2 (u239_0) (I x208.bound) ) Z (fun g240 w241 Z=>?_)
 have Z:=Z.get 6 rfl
 have Z:=oCon_close (c:=x208) Z
 have Z:=Star.mkRow (R:=(oCon 122)) [([u239_0,I x208.bound],x208)] [x208] 1 Z rfl rfl rfl (by decide)
 have Z:=Z.gets [5,5,5,5,5] rfl
 exact L_nil ⟨rfl,_,_,rfl,Le.refl _,fun _ _=>trivial,Z⟩
 exact opsS_nil
 have Z : Star H219 w_ (oF 3 RP.int v131_vars x194 :: oS 73 (oCon 122) v122_g11_0 g11_0_122 :: box g11 28 #[v122_g11_0] :: box g7 79 #[I r_.kind,v1_1,v1_2,I r_.bound,v1_4] :: box g5 26 #[v0_0,v0_1] :: oS 73 (oCon 122) (f 101) ([x208]) :: R):=Z
 have Z:=Z.gets [5,2] rfl
 refine L_appM (v:=v122_g11_0) (u:=(f 101)) rfl et_28 (hT219 0 98 rfl rfl) rfl Z hx214 (fun v244 w245 Z=>L_stB (v:=v244) (cs2:=#[v244]) 2 rfl Tryz.sizeOf28 ((hS219 5 rfl).trans sf5) rfl (one_len (Star.len 0 Z rfl)) Z rfl rfl rfl (fun w247 Z=>nn ?_))
 obtain rfl:=so hA187
 have Z:=Z.gets [4,4,2,3] rfl
 have Z:=Star.drop 4 Z rfl
 exact rj hR187 ⟨H219,v244,hE219,((hS219 2 rfl).trans sf2),((hS219 3 rfl).trans sf3),((hS219 5 rfl).trans sf5),((hS219 68 rfl).trans sf68),Z⟩
 have hA187:=(ite_f hc188).symm.trans hA187
 refine W_skip ?_
 obtain rfl:=so hA187
 have Z:=Z.gets [4,4,4,4] rfl
 have Z:=Star.drop 4 Z rfl
 exact rj hR187 ⟨H124,v122_g11_0,(Le.refl _),sf2,sf3,sf5,sf68,Z⟩
 intro f w_ hR
 obtain ⟨H185,v183_g11_0,l186,sf2,sf3,sf5,sf68,Z⟩:=rk hR187 hR
 refine W_region (L_add rfl sf68 rfl (mI rfl (nn ?_)))
 obtain rfl:=so hB126
 show ∃ m,m < _∧I126 m _ _
 refine ⟨rest126,Nat.lt_succ_self _,?_⟩
 exact ij hI126 ⟨i_121 + 1,rest126,g11_0_183,H185,v183_g11_0,rfl,by omega,by omega,hL126,(Le.trans l125 l186),sf2,sf3,sf5,(Eq.trans rfl (congrArg (Value.int .i64) (i64_succ (n:=0 + k127) (by omega) (cntF_le hk127)))),Z⟩
 rcases suf126 with _ | _
 obtain rfl:=count_zero hL126
 refine W_exit ?_
 have Z:=Star.drop 2 Z rfl
 have Z:=Star.drop 2 Z rfl
 exact rj hR126 ⟨g11_0_122,H124,v122_g11_0,rfl,l125,sf5,Z⟩
 exact absurd (cntF_yes hs126 hl126 hk127) (of_decide_eq_false hc129)
 intro f w_ hR
 obtain ⟨g11_0_122,H124,v122_g11_0,rfl,l125,sf5,Z⟩:=rk hR126 hR
 refine sq (ldB 1 Z Tryz.isAgg28 sf5 rfl rfl (aV v122_g11_0 rfl (nn (W_ret (retG1 (v1:=v122_g11_0) Tryz.results50 rfl ?_)))))
 obtain rfl:=so hF
 obtain ⟨H248,l249,Z⟩:=Star.shallow Z
 have Z : Star H248 w_ (oF 73 (rCon 122) v122_g11_0 g11_0_122 :: _):=Z
 have Z:=Star.drop 1 Z rfl
 exact ⟨H248,(Le.trans l125 l249),v122_g11_0,rfl,Z⟩
 have hF:=(ite_f hc120).symm.trans hF
 refine W_skip (sq (aV S0 rfl (L_nil (W_seq (sq (fA 1 fa_79_1 rfl rfl (ldB 1 Z Tryz.isAgg23 rfl rfl rfl (L_len rfl Tryz.underlying23 rfl (slice_len h1_1) (mI rfl (nn ?_))))))))))
 have hlen253 : List.length r_.vars≤9223372036854775807:=len_le (slice_len h1_1)
 obtain ⟨j253,hL253,hF⟩:=bind_some hF
 obtain ⟨R253,hR253⟩:=exR fun f w_=>∃ sizes_251 : List Int,∃ v251_sizes : Value,j253 = .nx sizes_251∧f 2 = Pt g5∧f 3 = Pt g7∧f 5 = Pt g11∧f 16 = v251_sizes∧Star H w_ (oF 3 RP.int v251_sizes sizes_251 :: box g11 28 #[S0] :: box g7 79 #[I r_.kind,v1_1,v1_2,I r_.bound,v1_4] :: box g5 26 #[v0_0,v0_1] :: R)
 refine W_join R253 ?_ ?_
 refine W_block ?_
 obtain ⟨I253,hI253⟩:=exI fun n f w_=>∃ i_250 : Nat,∃ suf253 : List Int,∃ sizes_251 : List Int,∃ v251_sizes : Value,n = suf253.length∧List.drop i_250 r_.vars = suf253∧i_250 + suf253.length = r_.vars.length∧rangeL (i_Model_encodeRule_b5 m) suf253 i_250 sizes_251 = some j253∧f 2 = Pt g5∧f 3 = Pt g7∧f 5 = Pt g11∧f 16 = v251_sizes∧f 106 = v1_1∧f 107 = I (r_.vars.length : Int)∧f 108 = I i_250∧Star H w_ (oF 3 RP.int v251_sizes sizes_251 :: box g11 28 #[S0] :: box g7 79 #[I r_.kind,v1_1,v1_2,I r_.bound,v1_4] :: box g5 26 #[v0_0,v0_1] :: R)
 have Z:=Star.addNil (R:=(OR.frz RP.int)) (e:=3) Z
 refine W_loop I253 (n:=r_.vars.length) ?_ ?_
 exact ij hI253 ⟨0,r_.vars,[],S0,rfl,rfl,Nat.zero_add _,hL253,rfl,rfl,rfl,rfl,rfl,rfl,rfl,Z⟩
 intro n253 f w_ hI
 obtain ⟨i_250,suf253,sizes_251,v251_sizes,rfl,hd253,hl253,hL253,sf2,sf3,sf5,sf16,sf106,sf107,sf108,Z⟩:=ik hI253 hI
 refine sq (L_lss rfl sf108 sf107 (nq (W_cond (b:=decide ((i_250 : Int) < (r_.vars.length : Int))) rfl (fun hc255=>?_) (fun hc255=>?_))))
 have hlt253:=of_decide_eq_true hc255
 rcases suf253 with _ | ⟨x_253,rest253⟩
 exact absurd hlt253 (by simp at hl253; omega)
 obtain ⟨o253,hB253,hL253⟩:=range_cons hL253
 rw [i_Model_encodeRule_b5] at hB253
 have hix253:=drop_idx hd253
 refine W_skip (W_seq (W_block (sq (L_ix (r:=RP.int) rfl Tryz.underlying23 Tryz.sizeOf3 sf106 h1_1 sf108 hix253 (fun g260 o261 cs_g260 hrk_hat262 hat262=>?_)))))
 obtain rfl : _ = [_]:=hrk_hat262
 refine L_ld rfl Tryz.isAgg3 rfl (At.cell (AtH.at hat262 Z.sub) (j:=0) rfl) (aI rfl (nn ?_))
 obtain ⟨x264,hx264,hB253⟩:=bind_some hB253
 obtain ⟨x272,hx272,hB253⟩:=bind_some hB253
 refine W_region (mF sf16 rfl (fA 0 fa_26_0 sf2 rfl (ldB 3 Z Tryz.isAgg23 rfl rfl rfl (mI rfl (L_ix (r:=RP.int) rfl Tryz.underlying23 Tryz.sizeOf3 rfl h0_0 rfl hx264 (fun g276 o277 cs_g276 hrk_hat278 hat278=>?_))))))
 obtain rfl : _ = [_]:=hrk_hat278
 refine L_ld rfl Tryz.isAgg3 rfl (At.cell (AtH.at hat278 Z.sub) (j:=0) rfl) (L_bs rfl (parts1 rfl) (bs_23_1_0 (I x264) rfl) Z (fun g280 w281 Z=>?_))
 have Z:=Star.addF (r:=RP.int) (cs:=[I x264]) (x:=x264) Z rfl
 have Z:=Star.mkRow (R:=(OR.frz RP.int)) [([I x264],x264)] [x264] 1 Z rfl rfl rfl (by decide)
 have Z:=Z.get 1 rfl
 refine L_appM (v:=v251_sizes) (u:=(Sl g280 1 1)) rfl et_23 rfl rfl Z hx272 (fun v283 w284 Z=>aV v283 rfl (nn (W_region (L_add rfl sf108 rfl (mI rfl (nn ?_))))))
 obtain rfl:=so hB253
 show ∃ m,m < _∧I253 m _ _
 refine ⟨rest253.length,by simp,?_⟩
 exact ij hI253 ⟨i_250 + 1,rest253,x272,v283,rfl,drop_next hd253,by simp at hl253; omega,hL253,sf2,sf3,sf5,rfl,sf106,sf107,(Eq.trans rfl (congrArg (Value.int .i64) (i64_succ (n:=r_.vars.length) (by simp at hl253; omega) hlen253))),Z⟩
 rcases suf253 with _ | ⟨_,_⟩
 obtain rfl:=range_nil hL253
 refine W_exit (rj hR253 ⟨sizes_251,v251_sizes,rfl,sf2,sf3,sf5,sf16,Z⟩)
 exact absurd (of_decide_eq_false hc255) (by simp at hl253; omega)
 intro f w_ hR
 obtain ⟨sizes_251,v251_sizes,rfl,sf2,sf3,sf5,sf16,Z⟩:=rk hR253 hR
 refine W_seq ?_
 obtain ⟨x286,hx286,hF⟩:=bind_some hF
 obtain ⟨g11_0_290,hI294,hF⟩:=bind_some hF
 refine W_region (mF sf16 rfl (mF sf16 rfl (L_len rfl Tryz.underlying23 rfl (Star.len 0 Z rfl) (L_mk (R:=(OR.frz RP.int)) (z0:=0) (zc:=[I 0]) rfl et_23 (by kernel_rfl) (fun _ _=>⟨rfl,rfl⟩) rfl rfl hx286 Z (fun v295 w296 Z=>L_mf rfl (ops3 sf3 sf2 sf5) ?_)))))
 obtain ⟨R302,hR302⟩ : ∃ RV_ : Value→World→Prop,RV_ = fun v w_=>∃ H300 : FH,∃ v298_g11_0 : Value,v = .tuple #[]∧Le H H300∧Star H300 w_ (oS 73 (oCon 122) v298_g11_0 g11_0_290 :: box g11 28 #[v298_g11_0] :: R):=⟨_,rfl⟩
 refine L_call (args:=#[v251_sizes,v295,.func (.func 104) #[] #[Pt g7,Pt g5,Pt g11]]) (R:=R302) rfl Tryz.call57 (ops3 rfl rfl rfl) ?_ ?_
 refine C_enter Tryz.func57 rfl Tryz.ntmps57 rfl ?_
 have hA302:=hI294
 unfold i_Model_encodeRule_i6 at hA302
 refine W_seq ?_
 obtain ⟨x309,hx309,hA302⟩:=bind_some hA302
 refine W_region (mV v295 rfl ?_)
 obtain ⟨H312b,l313,s314,z315,k316⟩:=Z.borrow
 have hb317 : (rS 3 RP.int).rel H312b [v295] x286:=fz_own 0 z315 rfl
 refine L_call rfl Tryz.call62 (ops1 rfl) (slices_Clone_int_c (s:=x286) s314 hb317 hx309) ?_
 rintro r318_0 w318 ⟨_,rfl,Z⟩
 have Z:=k316 Z (co closed_int c0)
 refine aV r318_0 rfl (nn ?_)
 obtain ⟨j326,hL326,hA302⟩:=bind_some hA302
 obtain ⟨R326,hR326⟩:=exR fun f w_=>∃ cells_321 : List Int,∃ g11_0_322 : List Con,∃ H324 : FH,∃ v322_g11_0 : Value,j326 = .nx (cells_321,g11_0_322)∧Le H H324∧Star H324 w_ (oS 73 (oCon 122) v322_g11_0 g11_0_322 :: box g11 28 #[v322_g11_0] :: R)
 refine W_join R326 ?_ ?_
 refine W_block ?_
 obtain ⟨I326,hI326⟩:=exI fun n f w_=>∃ cells_321 : List Int,∃ g11_0_322 : List Con,∃ H324 : FH,∃ v322_g11_0 : Value,whileL (i_Model_encodeRule_b7 fu m r_ sizes_251) n (cells_321,g11_0_322) = some j326∧Le H H324∧f 0 = v251_sizes∧f 2 = .func (.func 104) #[] #[Pt g7,Pt g5,Pt g11]∧f 6 = r318_0∧Star H324 w_ (oF 3 RP.int v251_sizes sizes_251 :: oF 3 RP.int r318_0 cells_321 :: oS 73 (oCon 122) v322_g11_0 g11_0_322 :: box g11 28 #[v322_g11_0] :: box g5 26 #[v0_0,v0_1] :: box g7 79 #[I r_.kind,v1_1,v1_2,I r_.bound,v1_4] :: R)
 have Z:=Star.addNil (R:=(oCon 122)) (e:=73) Z
 have Z:=Z.gets [5,6,6,3,4,6] rfl
 have Z:=Star.drop 6 Z rfl
 refine W_loop I326 (n:=fu) ?_ ?_
 exact ij hI326 ⟨x309,[],H,S0,hL326,(Le.refl _),rfl,rfl,rfl,Z⟩
 intro n326 f w_ hI
 obtain ⟨cells_321,g11_0_322,H324,v322_g11_0,hL326,l325,sf0,sf2,sf6,Z⟩:=ik hI326 hI
 rcases n326 with _ | n326
 exact (while_zero hL326).elim
 obtain ⟨o326,hB326,hL326⟩:=while_succ hL326
 rw [i_Model_encodeRule_b7] at hB326
 refine W_seq (W_seq ?_)
 obtain ⟨⟨ret0_328,g11_0_329⟩,hI333,hB326⟩:=bind_some hB326
 refine W_region (mF sf2 rfl (mF sf6 rfl ?_))
 obtain ⟨R339,hR339⟩ : ∃ RV_ : Value→World→Prop,RV_ = fun v w_=>∃ H337 : FH,∃ v335_g11_0 : Value,v = Bo ret0_328∧Le H324 H337∧Star H337 w_ (oF 3 RP.int v251_sizes sizes_251 :: oF 3 RP.int r318_0 cells_321 :: oS 73 (oCon 122) v335_g11_0 g11_0_329 :: box g11 28 #[v335_g11_0] :: box g5 26 #[v0_0,v0_1] :: box g7 79 #[I r_.kind,v1_1,v1_2,I r_.bound,v1_4] :: R):=⟨_,rfl⟩
 refine L_callv (args:=#[r318_0]) (R:=R339) rfl Tryz.call104 rfl (ops1 rfl) ?_ ?_
 show C _ _ #[r318_0,Pt g7,Pt g5,Pt g11] _ _
 refine C_enter Tryz.func104 rfl Tryz.ntmps104 rfl ?_
 have hA339:=hI333
 unfold i_Model_encodeRule_i8 at hA339
 refine sq (aB rfl (nq (W_seq ?_)))
 obtain ⟨x346,hx346,hA339⟩:=bind_some hA339
 refine W_region (L_lda (cs:=[I r_.kind,v1_1,v1_2,I r_.bound,v1_4]) rfl Tryz.isAgg79 Tryz.sizeOf79 rfl (At.sub0 (Blk.at (Star.blkAt 5 Z rfl)) 0 5) rfl (mV r318_0 rfl ?_))
 obtain ⟨H348b,l349,s350,z351,k352⟩:=Z.borrow
 have hb353 : (rS 3 RP.int).rel H348b [r318_0] cells_321:=fz_own 1 z351 rfl
 refine L_call rfl Tryz.call105 (ops2 rfl rfl) (i_Rule_holds_c (r_:=r_) (vals:=cells_321) s350 (RP.mono _ h1_1 (Le.trans l325 l349)) (RP.mono _ h1_2 (Le.trans l325 l349)) (RP.mono _ h1_4 (Le.trans l325 l349)) hb353 hx346) ?_
 rintro _ w354 ⟨rfl,Z⟩
 have Z:=k352 Z c0
 refine L_not_ rfl rfl (nn ?_)
 obtain ⟨g11_0_355,hA359,hA339⟩:=bind_some hA339
 obtain ⟨R359,hR359⟩:=exR fun f w_=>∃ H357 : FH,∃ v355_g11_0 : Value,Le H324 H357∧Star H357 w_ (oF 3 RP.int v251_sizes sizes_251 :: oF 3 RP.int r318_0 cells_321 :: oS 73 (oCon 122) v355_g11_0 g11_0_355 :: box g11 28 #[v355_g11_0] :: box g5 26 #[v0_0,v0_1] :: box g7 79 #[I r_.kind,v1_1,v1_2,I r_.bound,v1_4] :: R)
 refine W_join R359 ?_ ?_
 refine W_cond (b:=(!x346)) rfl (fun hc360=>?_) (fun hc360=>?_)
 have hA359:=(ite_t hc360).symm.trans hA359
 refine sq (aV S0 rfl (nq (sq (fA 1 fa_79_1 rfl rfl (ldB 5 Z Tryz.isAgg23 rfl rfl rfl (L_len rfl Tryz.underlying23 rfl (slice_len (RP.mono _ h1_1 l325)) (mI rfl (nn ?_))))))))
 have hlen366 : List.length r_.vars≤9223372036854775807:=len_le (slice_len (RP.mono _ h1_1 l325))
 obtain ⟨j366,hL366,hA359⟩:=bind_some hA359
 obtain ⟨R366,hR366⟩:=exR fun f w_=>∃ lits_362 : List Int,∃ H364 : FH,∃ v362_lits : Value,j366 = .nx lits_362∧Le H324 H364∧f 3 = Pt g11∧f 6 = v362_lits∧Star H364 w_ (oF 3 RP.int r318_0 cells_321 :: oF 3 RP.int v362_lits lits_362 :: oF 3 RP.int v251_sizes sizes_251 :: oS 73 (oCon 122) v322_g11_0 g11_0_322 :: box g11 28 #[v322_g11_0] :: box g5 26 #[v0_0,v0_1] :: box g7 79 #[I r_.kind,v1_1,v1_2,I r_.bound,v1_4] :: R)
 refine W_join R366 ?_ ?_
 refine W_block ?_
 obtain ⟨I366,hI366⟩:=exI fun n f w_=>∃ i_361 : Nat,∃ suf366 : List Int,∃ lits_362 : List Int,∃ H364 : FH,∃ v362_lits : Value,n = suf366.length∧List.drop i_361 r_.vars = suf366∧i_361 + suf366.length = r_.vars.length∧rangeL (i_Model_encodeRule_b9 m cells_321) suf366 i_361 lits_362 = some j366∧Le H324 H364∧f 0 = r318_0∧f 2 = Pt g5∧f 3 = Pt g11∧f 6 = v362_lits∧f 16 = v1_1∧f 17 = I (r_.vars.length : Int)∧f 18 = I i_361∧Star H364 w_ (oF 3 RP.int r318_0 cells_321 :: oF 3 RP.int v362_lits lits_362 :: oF 3 RP.int v251_sizes sizes_251 :: oS 73 (oCon 122) v322_g11_0 g11_0_322 :: box g11 28 #[v322_g11_0] :: box g5 26 #[v0_0,v0_1] :: box g7 79 #[I r_.kind,v1_1,v1_2,I r_.bound,v1_4] :: R)
 have Z:=Star.addNil (R:=(OR.frz RP.int)) (e:=3) Z
 have Z:=Z.gets [6,6,6,6,5,5,6] rfl
 refine W_loop I366 (n:=r_.vars.length) ?_ ?_
 exact ij hI366 ⟨0,r_.vars,[],H324,S0,rfl,rfl,Nat.zero_add _,hL366,(Le.refl _),rfl,rfl,rfl,rfl,rfl,rfl,rfl,Z⟩
 intro n366 f w_ hI
 obtain ⟨i_361,suf366,lits_362,H364,v362_lits,rfl,hd366,hl366,hL366,l365,sf0,sf2,sf3,sf6,sf16,sf17,sf18,Z⟩:=ik hI366 hI
 refine sq (L_lss rfl sf18 sf17 (nq (W_cond (b:=decide ((i_361 : Int) < (r_.vars.length : Int))) rfl (fun hc368=>?_) (fun hc368=>?_))))
 have hlt366:=of_decide_eq_true hc368
 rcases suf366 with _ | ⟨x_366,rest366⟩
 exact absurd hlt366 (by simp at hl366; omega)
 obtain ⟨o366,hB366,hL366⟩:=range_cons hL366
 rw [i_Model_encodeRule_b9] at hB366
 have hix366:=drop_idx hd366
 refine W_skip (W_seq (W_block (sq (mF sf18 rfl (L_ix (r:=RP.int) rfl Tryz.underlying23 Tryz.sizeOf3 sf16 (RP.mono _ h1_1 (Le.trans l325 l365)) sf18 hix366 (fun g373 o374 cs_g373 hrk_hat375 hat375=>?_))))))
 obtain rfl : _ = [_]:=hrk_hat375
 refine L_ld rfl Tryz.isAgg3 rfl (At.cell (AtH.at hat375 Z.sub) (j:=0) rfl) (aI rfl (aI rfl (nn ?_)))
 obtain ⟨x377,hx377,hB366⟩:=bind_some hB366
 obtain ⟨x387,hx387,hB366⟩:=bind_some hB366
 obtain ⟨x392,hx392,hB366⟩:=bind_some hB366
 obtain ⟨g397,cap_g397,hv398,_,_⟩:=Star.row 0 Z rfl hx377
 refine W_drawS 10 [isV (v362_lits),isV (.agg #[v0_0,v0_1]),isV (I x_366),isV (r318_0),isV (I i_361),isV (.pointer (some ⟨g397,Int.toNat (i_361 : Int) * 1,none⟩)),isV (I x377),isV (I x387),isV (I (i64 (-x387))),anyF] [oF 3 RP.int r318_0 cells_321,oF 3 RP.int v362_lits lits_362,oF 3 RP.int v251_sizes sizes_251,oS 73 (oCon 122) v322_g11_0 g11_0_322,box g11 28 #[v322_g11_0],box g5 26 #[v0_0,v0_1],box g7 79 #[I r_.kind,v1_1,v1_2,I r_.bound,v1_4]] [.made 9 32 (fun v_=>oF 3 RP.int v_ ([i64 (-x387)])) none] (R) [([],[]),([],[]),([],[]),([],[]),([],[]),([],[]),([],[]),([],[]),([],[]),([],[0])] (S:=[(some 9,[32],none)]) Tryz_mix (by kernel_rfl) rfl (by kernel_rfl) (amF_cons (mono_V _) (amF_cons (mono_V _) (amF_cons (mono_V _) (amF_cons (mono_V _) (amF_cons (mono_V _) (amF_cons (mono_V _) (amF_cons (mono_V _) (amF_cons (mono_V _) (amF_cons (mono_V _) (amF_cons (mono_any) amF_nil)))))))))) Z ?_ (fun f w_ H396 hS396 hE396 hT396 Z=>?_)
 refine opsS_cons (fun f w_ _ _ s _ _ Z=>mF ((s 6 rfl).trans sf6) rfl (nO rfl rfl Z)) (opsS_cons (fun f w_ _ _ s _ _ Z=>L_lda (cs:=[v0_0,v0_1]) rfl Tryz.isAgg26 Tryz.sizeOf26 ((s 2 rfl).trans sf2) (At.sub0 (Blk.at (Star.blkAt 5 Z rfl)) 0 2) rfl (nO rfl rfl Z)) (opsS_cons (fun f w_ _ _ s _ _ Z=>mF ((s 8 rfl).trans rfl) rfl (nO rfl rfl Z)) (opsS_cons (fun f w_ _ _ s _ _ Z=>mF ((s 0 rfl).trans sf0) rfl (nO rfl rfl Z)) (opsS_cons (fun f w_ _ _ s _ _ Z=>mF ((s 7 rfl).trans rfl) rfl (nO rfl rfl Z)) (opsS_cons (fun f w_ _ _ _ _ p Z=>L_ixO (R:=(OR.frz RP.int)) (tb:=0) 0 rfl Tryz.underlying23 Tryz.sizeOf3 (p 3 26 rfl rfl) hv398 (by first | rfl | simp) (p 4 27 rfl rfl) hx377 (nO rfl rfl Z)) (opsS_cons ?_ ?_))))))
 intro f w_ H396 X396 hS396 hE396 hP396 Z
 obtain ⟨cs410,hr410,hat410⟩:=Star.eltF 0 Z rfl hv398 hx377
 obtain rfl : _ = [_]:=hr410
 refine L_ld rfl Tryz.isAgg3 (hP396 5 28 rfl rfl) (At.cell hat410 (j:=0) rfl) (L_nil ⟨rfl,_,_,rfl,Le.refl _,fun _ _=>rfl,Z⟩)
 refine opsS_cons ?_ ?_
 intro f w_ H396 X396 hS396 hE396 hP396 Z
 obtain ⟨H412b,l413,s414,z415,k416⟩:=Z.borrow
 refine L_call rfl Tryz.call63 (ops3 (hP396 1 24 rfl rfl) (hP396 2 25 rfl rfl) (hP396 6 29 rfl rfl)) (i_Model_boolVar_c (m:=m) (cell:=x_366) (value:=x377) s414 (RP.mono _ h0_0 (Le.trans (Le.trans (Le.trans l325 l365) hE396) l413)) (RP.mono _ h0_1 (Le.trans (Le.trans (Le.trans l325 l365) hE396) l413)) hx387) ?_
 rintro _ w417 ⟨rfl,Z⟩
 have Z:=k416 Z c0
 exact L_nil ⟨rfl,_,_,rfl,Le.refl _,fun _ _=>rfl,Z⟩
 refine opsS_cons (fun f w_ _ _ _ _ p Z=>L_neg rfl (p 7 30 rfl rfl) (nO rfl rfl Z)) (opsS_cons ?_ ?_)
 intro f w_ H396 X396 hS396 hE396 hP396 Z
 refine L_bs rfl (parts1 (hP396 8 31 rfl rfl)) (bs_23_1_0 (I (i64 (-x387))) rfl) Z (fun g418 w419 Z=>?_)
 have Z:=Star.addF (r:=RP.int) (cs:=[I (i64 (-x387))]) (x:=(i64 (-x387))) Z rfl
 have Z:=Star.mkRow (R:=(OR.frz RP.int)) [([I (i64 (-x387))],i64 (-x387))] [i64 (-x387)] 1 Z rfl rfl rfl (by decide)
 have Z:=Z.gets [7,7,7,7,7,7,7] rfl
 exact L_nil ⟨rfl,_,_,rfl,Le.refl _,fun _ _=>trivial,Z⟩
 exact opsS_nil
 have Z : Star H396 w_ (oF 3 RP.int r318_0 cells_321 :: oF 3 RP.int v362_lits lits_362 :: oF 3 RP.int v251_sizes sizes_251 :: oS 73 (oCon 122) v322_g11_0 g11_0_322 :: box g11 28 #[v322_g11_0] :: box g5 26 #[v0_0,v0_1] :: box g7 79 #[I r_.kind,v1_1,v1_2,I r_.bound,v1_4] :: oF 3 RP.int (f 32) ([i64 (-x387)]) :: R):=Z
 have Z:=Z.gets [7,2] rfl
 refine L_appM (v:=v362_lits) (u:=(f 32)) rfl et_23 (hT396 0 23 rfl rfl) rfl Z hx392 (fun v422 w423 Z=>aV v422 rfl (nn (W_region (L_add rfl ((hS396 18 rfl).trans sf18) rfl (mI rfl (nn ?_))))))
 obtain rfl:=so hB366
 have Z:=Z.gets [6,6,6,6,6,5,6] rfl
 show ∃ m,m < _∧I366 m _ _
 refine ⟨rest366.length,by simp,?_⟩
 exact ij hI366 ⟨i_361 + 1,rest366,x392,H396,v422,rfl,drop_next hd366,by simp at hl366; omega,hL366,(Le.trans l365 hE396),((hS396 0 rfl).trans sf0),((hS396 2 rfl).trans sf2),((hS396 3 rfl).trans sf3),rfl,((hS396 16 rfl).trans sf16),((hS396 17 rfl).trans sf17),(Eq.trans rfl (congrArg (Value.int .i64) (i64_succ (n:=r_.vars.length) (by simp at hl366; omega) hlen366))),Z⟩
 rcases suf366 with _ | ⟨_,_⟩
 obtain rfl:=range_nil hL366
 refine W_exit (rj hR366 ⟨lits_362,H364,v362_lits,rfl,l365,sf3,sf6,Z⟩)
 exact absurd (of_decide_eq_false hc368) (by simp at hl366; omega)
 intro f w_ hR
 obtain ⟨lits_362,H364,v362_lits,rfl,l365,sf3,sf6,Z⟩:=rk hR366 hR
 refine W_seq ?_
 obtain ⟨x431,hx431,hA359⟩:=bind_some hA359
 refine W_region (mF sf6 rfl ?_)
 obtain ⟨H437b,l438,s439,z440,k441⟩:=Z.borrow
 have hb442 : (rS 3 RP.int).rel H437b [v362_lits] lits_362:=fz_own 1 z440 rfl
 refine L_call rfl Tryz.call48 (ops1 rfl) (i_ClauseOf_c (lits:=lits_362) s439 hb442 hx431) ?_
 rintro _ w443 ⟨r443_0,rfl,Z⟩
 have Z:=k441 Z (co closed_term c0)
 refine mV (.tuple #[.agg #[r443_0,I x431.1.bound],Bo x431.2]) rfl (L_ex (v:=.agg #[r443_0,I x431.1.bound]) rfl rfl rfl (L_ex (v:=Bo x431.2) rfl rfl rfl (L_al (cs:=#[S0,I 0]) rfl Tryz.zeroValue73 rfl Z (fun g445 w446 Z=>L_staB (vs:=#[r443_0,I x431.1.bound]) (cs2:=#[r443_0,I x431.1.bound]) 0 rfl Tryz.sizeOf73 rfl rfl rfl (ones_cons (one_len (Star.len 1 Z rfl)) (ones_cons rfl ones_nil)) Z rfl (by show 0 + 2≤2; decide) rfl (fun w447 Z=>aB rfl (nn ?_))))))
 obtain ⟨x451,hx451,hA359⟩:=bind_some hA359
 refine W_region (ldB 6 Z Tryz.isAgg28 sf3 rfl rfl (L_lda (cs:=[r443_0,I x431.1.bound]) rfl Tryz.isAgg73 Tryz.sizeOf73 rfl (At.sub0 (Blk.at (Star.blkAt 0 Z rfl)) 0 2) rfl (L_bs rfl (parts1 rfl) (bs_28_1_2 (r443_0) (I x431.1.bound) ) Z (fun g456 w457 Z=>?_))))
 have Z:=Z.get 2 rfl
 have Z:=oCon_close (c:=x431.1) Z
 have Z:=Star.mkRow (R:=(oCon 122)) [([r443_0,I x431.1.bound],x431.1)] [x431.1] 1 Z rfl rfl rfl (by decide)
 have Z:=Z.get 5 rfl
 refine L_appM (v:=v322_g11_0) (u:=(Sl g456 1 1)) rfl et_28 rfl rfl Z hx451 (fun v459 w460 Z=>L_stB (v:=v459) (cs2:=#[v459]) 5 rfl Tryz.sizeOf28 sf3 rfl (one_len (Star.len 0 Z rfl)) Z rfl rfl rfl (fun w462 Z=>nn ?_))
 obtain rfl:=so hA359
 have Z:=Z.gets [7,7,2,3,5,7] rfl
 have Z:=Star.drop 6 Z rfl
 have Z:=Star.drop 6 Z rfl
 exact rj hR359 ⟨H364,v459,l365,Z⟩
 have hA359:=(ite_f hc360).symm.trans hA359
 refine W_skip ?_
 obtain rfl:=so hA359
 exact rj hR359 ⟨H324,v322_g11_0,(Le.refl _),Z⟩
 intro f w_ hR
 obtain ⟨H357,v355_g11_0,l358,Z⟩:=rk hR359 hR
 refine sq (aB rfl (nn (W_ret (retG1 (v1:=Bo true) Tryz.results104 rfl ?_))))
 obtain ⟨rfl,rfl⟩:=so2 hA339
 show R339 _ _
 rw [hR339]
 exact ⟨H357,v355_g11_0,rfl,l358,Z⟩
 intro v_339 w_ hR
 rw [hR339] at hR
 obtain ⟨H337,v335_g11_0,hvr339,l338,Z⟩:=hR
 obtain rfl:=hvr339.symm
 clear hR339
 refine nn (W_cond (b:=ret0_328) rfl (fun hc463=>?_) (fun hc463=>?_))
 have hB326:=(ite_t hc463).symm.trans hB326
 refine W_skip (W_block (sq (mF sf6 rfl (L_len rfl Tryz.underlying23 rfl (Star.len 1 Z rfl) (L_sub rfl rfl rfl (aI rfl (L_nil (W_seq ?_))))))))
 obtain ⟨j469,hL469,hB326⟩:=bind_some hB326
 obtain ⟨R469,hR469⟩:=exR fun f w_=>∃ cells_465 : List Int,∃ i_466 : Int,∃ H467 : FH,j469 = .nx (cells_465,i_466)∧Le H337 H467∧f 0 = v251_sizes∧f 2 = .func (.func 104) #[] #[Pt g7,Pt g5,Pt g11]∧f 6 = r318_0∧f 7 = I i_466∧Star H467 w_ (oF 3 RP.int v251_sizes sizes_251 :: oF 3 RP.int r318_0 cells_465 :: oS 73 (oCon 122) v335_g11_0 g11_0_329 :: box g11 28 #[v335_g11_0] :: box g5 26 #[v0_0,v0_1] :: box g7 79 #[I r_.kind,v1_1,v1_2,I r_.bound,v1_4] :: R)
 refine W_join R469 ?_ ?_
 refine W_block ?_
 obtain ⟨I469,hI469⟩:=exI fun n f w_=>∃ cells_465 : List Int,∃ i_466 : Int,∃ H467 : FH,whileL (i_Model_encodeRule_b10 sizes_251) n (cells_465,i_466) = some j469∧Le H337 H467∧f 0 = v251_sizes∧f 2 = .func (.func 104) #[] #[Pt g7,Pt g5,Pt g11]∧f 6 = r318_0∧f 7 = I i_466∧Star H467 w_ (oF 3 RP.int v251_sizes sizes_251 :: oF 3 RP.int r318_0 cells_465 :: oS 73 (oCon 122) v335_g11_0 g11_0_329 :: box g11 28 #[v335_g11_0] :: box g5 26 #[v0_0,v0_1] :: box g7 79 #[I r_.kind,v1_1,v1_2,I r_.bound,v1_4] :: R)
 refine W_loop I469 (n:=fu) ?_ ?_
 exact ij hI469 ⟨cells_321,i64 ((cells_321.length : Int) - 1),H337,hL469,(Le.refl _),sf0,sf2,sf6,rfl,Z⟩
 intro n469 f w_ hI
 obtain ⟨cells_465,i_466,H467,hL469,l468,sf0,sf2,sf6,sf7,Z⟩:=ik hI469 hI
 rcases n469 with _ | n469
 exact (while_zero hL469).elim
 obtain ⟨o469,hB469,hL469⟩:=while_succ hL469
 rw [i_Model_encodeRule_b10] at hB469
 refine W_seq (W_seq ?_)
 obtain ⟨b480,hb480,hB469⟩:=bind_some hB469
 obtain ⟨R484,hR484⟩:=exR fun f w_=>∃ H482 : FH,Le H467 H482∧f 0 = v251_sizes∧f 2 = .func (.func 104) #[] #[Pt g7,Pt g5,Pt g11]∧f 6 = r318_0∧f 7 = I i_466∧f 28 = Bo b480∧Star H482 w_ (oF 3 RP.int v251_sizes sizes_251 :: oF 3 RP.int r318_0 cells_465 :: oS 73 (oCon 122) v335_g11_0 g11_0_329 :: box g11 28 #[v335_g11_0] :: box g5 26 #[v0_0,v0_1] :: box g7 79 #[I r_.kind,v1_1,v1_2,I r_.bound,v1_4] :: R)
 refine W_join R484 ?_ ?_
 rcases Bool.eq_false_or_eq_true (decide (i_466 ≥ 0)) with hc485 | hc485
 rw [ite_t hc485] at hb480
 obtain ⟨x470,hx470,hb480⟩:=bind_some hb480
 obtain ⟨x475,hx475,hb480⟩:=bind_some hb480
 obtain ⟨g486,cap_g486,hv487,_,_⟩:=Star.row 1 Z rfl hx470
 obtain ⟨g490,cap_g490,hv491,_,_⟩:=Star.row 0 Z rfl hx475
 refine W_drawS 11 [isV (I i_466),isV (Bo (decide (i_466 ≥ 0))),isV (Bo (decide (i_466 ≥ 0))),isV (r318_0),isV (I i_466),isV (.pointer (some ⟨g486,Int.toNat i_466 * 1,none⟩)),isV (I x470),isV (v251_sizes),isV (I i_466),isV (.pointer (some ⟨g490,Int.toNat i_466 * 1,none⟩)),isV (I x475)] [oF 3 RP.int v251_sizes sizes_251,oF 3 RP.int r318_0 cells_465,oS 73 (oCon 122) v335_g11_0 g11_0_329,box g11 28 #[v335_g11_0],box g5 26 #[v0_0,v0_1],box g7 79 #[I r_.kind,v1_1,v1_2,I r_.bound,v1_4]] [] (R) [([],[]),([],[]),([],[]),([],[]),([],[]),([],[]),([],[]),([],[]),([],[]),([],[]),([],[])] (S:=[]) Tryz_mix (by kernel_rfl) rfl (by kernel_rfl) (amF_cons (mono_V _) (amF_cons (mono_V _) (amF_cons (mono_V _) (amF_cons (mono_V _) (amF_cons (mono_V _) (amF_cons (mono_V _) (amF_cons (mono_V _) (amF_cons (mono_V _) (amF_cons (mono_V _) (amF_cons (mono_V _) (amF_cons (mono_V _) amF_nil))))))))))) Z ?_ (fun f w_ H481 hS481 hE481 hT481 Z=>?_)
 refine opsS_cons (fun f w_ _ _ s _ _ Z=>mF ((s 7 rfl).trans sf7) rfl (nO rfl rfl Z)) (opsS_cons (fun f w_ _ _ _ _ p Z=>L_geq rfl (p 0 16 rfl rfl) rfl (nO rfl rfl Z)) (opsS_cons (fun f w_ _ _ _ _ p Z=>mF (p 1 17 rfl rfl) rfl (nO rfl rfl Z)) (opsS_cons (fun f w_ _ _ s _ p Z=>L_mv (v:=r318_0) (g_yes rfl (Eq.trans (p 2 18 rfl rfl) (congrArg Value.bool hc485)) rfl) ((s 6 rfl).trans sf6) (nO rfl rfl Z)) (opsS_cons (fun f w_ _ _ s _ p Z=>L_mv (v:=I i_466) (g_yes rfl (Eq.trans (p 2 18 rfl rfl) (congrArg Value.bool hc485)) rfl) ((s 7 rfl).trans sf7) (nO rfl rfl Z)) (opsS_cons (fun f w_ _ _ _ _ p Z=>L_ixO (R:=(OR.frz RP.int)) (tb:=0) 0 (g_yes rfl (Eq.trans (p 2 18 rfl rfl) (congrArg Value.bool hc485)) rfl) Tryz.underlying23 Tryz.sizeOf3 (p 3 19 rfl rfl) hv487 (by first | rfl | simp) (p 4 20 rfl rfl) hx470 (nO rfl rfl Z)) (opsS_cons ?_ ?_))))))
 intro f w_ H481 X481 hS481 hE481 hP481 Z
 obtain ⟨cs494,hr494,hat494⟩:=Star.eltF 1 Z rfl hv487 hx470
 obtain rfl : _ = [_]:=hr494
 refine L_ld (v:=I x470) (g_yes rfl (Eq.trans (hP481 2 18 rfl rfl) (congrArg Value.bool hc485)) rfl) Tryz.isAgg3 (hP481 5 21 rfl rfl) (At.cell hat494 (j:=0) rfl) (L_nil ⟨rfl,_,_,rfl,Le.refl _,fun _ _=>rfl,Z⟩)
 refine opsS_cons (fun f w_ _ _ s _ p Z=>L_mv (v:=v251_sizes) (g_yes rfl (Eq.trans (p 2 18 rfl rfl) (congrArg Value.bool hc485)) rfl) ((s 0 rfl).trans sf0) (nO rfl rfl Z)) (opsS_cons (fun f w_ _ _ s _ p Z=>L_mv (v:=I i_466) (g_yes rfl (Eq.trans (p 2 18 rfl rfl) (congrArg Value.bool hc485)) rfl) ((s 7 rfl).trans sf7) (nO rfl rfl Z)) (opsS_cons (fun f w_ _ _ _ _ p Z=>L_ixO (R:=(OR.frz RP.int)) (tb:=0) 0 (g_yes rfl (Eq.trans (p 2 18 rfl rfl) (congrArg Value.bool hc485)) rfl) Tryz.underlying23 Tryz.sizeOf3 (p 7 23 rfl rfl) hv491 (by first | rfl | simp) (p 8 24 rfl rfl) hx475 (nO rfl rfl Z)) (opsS_cons ?_ ?_)))
 intro f w_ H481 X481 hS481 hE481 hP481 Z
 obtain ⟨cs496,hr496,hat496⟩:=Star.eltF 0 Z rfl hv491 hx475
 obtain rfl : _ = [_]:=hr496
 refine L_ld (v:=I x475) (g_yes rfl (Eq.trans (hP481 2 18 rfl rfl) (congrArg Value.bool hc485)) rfl) Tryz.isAgg3 (hP481 9 25 rfl rfl) (At.cell hat496 (j:=0) rfl) (L_nil ⟨rfl,_,_,rfl,Le.refl _,fun _ _=>rfl,Z⟩)
 exact opsS_nil
 refine L_eql (g_yes rfl (Eq.trans (hT481 2 18 rfl rfl) (congrArg Value.bool hc485)) rfl) (hT481 6 22 rfl rfl) (hT481 10 26 rfl rfl) (L_pick (v:=Bo b480) rfl (Eq.trans (hT481 2 18 rfl rfl) (congrArg Value.bool hc485)) (congrArg Value.bool (so hb480)) (nn (rj hR484 ⟨H481,hE481,((hS481 0 rfl).trans sf0),((hS481 2 rfl).trans sf2),((hS481 6 rfl).trans sf6),((hS481 7 rfl).trans sf7),rfl,Z⟩)))
 rw [ite_f hc485] at hb480
 refine W_drawS 11 [isV (I i_466),isV (Bo (decide (i_466 ≥ 0))),isV (Bo (decide (i_466 ≥ 0))),isV (undef),isV (undef),isV (undef),isV (undef),isV (undef),isV (undef),isV (undef),isV (undef)] [oF 3 RP.int v251_sizes sizes_251,oF 3 RP.int r318_0 cells_465,oS 73 (oCon 122) v335_g11_0 g11_0_329,box g11 28 #[v335_g11_0],box g5 26 #[v0_0,v0_1],box g7 79 #[I r_.kind,v1_1,v1_2,I r_.bound,v1_4]] [] (R) [([],[]),([],[]),([],[]),([],[]),([],[]),([],[]),([],[]),([],[]),([],[]),([],[]),([],[])] (S:=[]) Tryz_mix (by kernel_rfl) rfl (by kernel_rfl) (amF_cons (mono_V _) (amF_cons (mono_V _) (amF_cons (mono_V _) (amF_cons (mono_V _) (amF_cons (mono_V _) (amF_cons (mono_V _) (amF_cons (mono_V _) (amF_cons (mono_V _) (amF_cons (mono_V _) (amF_cons (mono_V _) (amF_cons (mono_V _) amF_nil))))))))))) Z ?_ (fun f w_ H481 hS481 hE481 hT481 Z=>?_)
 refine opsS_cons (fun f w_ _ _ s _ _ Z=>mF ((s 7 rfl).trans sf7) rfl (nO rfl rfl Z)) (opsS_cons (fun f w_ _ _ _ _ p Z=>L_geq rfl (p 0 16 rfl rfl) rfl (nO rfl rfl Z)) (opsS_cons (fun f w_ _ _ _ _ p Z=>mF (p 1 17 rfl rfl) rfl (nO rfl rfl Z)) (oP (fun _ _ p=>gN (p 2 18 rfl rfl) hc485 rfl) (fun _=>rfl) (oP (fun _ _ p=>gN (p 2 18 rfl rfl) hc485 rfl) (fun _=>rfl) (oP (fun _ _ p=>gN (p 2 18 rfl rfl) hc485 rfl) (fun _=>rfl) (oP (fun _ _ p=>gN (p 2 18 rfl rfl) hc485 rfl) (fun _=>rfl) (oP (fun _ _ p=>gN (p 2 18 rfl rfl) hc485 rfl) (fun _=>rfl) (oP (fun _ _ p=>gN (p 2 18 rfl rfl) hc485 rfl) (fun _=>rfl) (oP (fun _ _ p=>gN (p 2 18 rfl rfl) hc485 rfl) (fun _=>rfl) (oP (fun _ _ p=>gN (p 2 18 rfl rfl) hc485 rfl) (fun _=>rfl) (opsS_nil)))))))))))
 refine ps (g_no rfl (Eq.trans (hT481 2 18 rfl rfl) (congrArg Value.bool hc485)) rfl rfl) (L_pick (v:=Bo b480) rfl (Eq.trans (hT481 2 18 rfl rfl) (congrArg Value.bool hc485)) (congrArg Value.bool (so hb480)) (nn (rj hR484 ⟨H481,hE481,((hS481 0 rfl).trans sf0),((hS481 2 rfl).trans sf2),((hS481 6 rfl).trans sf6),((hS481 7 rfl).trans sf7),rfl,Z⟩)))
 intro f w_ hR
 obtain ⟨H482,l483,sf0,sf2,sf6,sf7,sf28,Z⟩:=rk hR484 hR
 refine W_cond (b:=b480) sf28 (fun hc498=>?_) (fun hc498=>?_)
 have hB469:=(ite_t hc498).symm.trans hB469
 refine W_skip (W_block (W_seq ?_))
 obtain ⟨x499,hx499,hB469⟩:=bind_some hB469
 refine W_region (mF sf6 rfl (mF sf7 rfl ?_))
 obtain ⟨g503,cap_g503,hv504,_,_⟩:=Star.row 1 Z rfl hx499
 refine L_ixO (R:=(OR.frz RP.int)) (tb:=0) 0 rfl Tryz.underlying23 Tryz.sizeOf3 rfl hv504 (by first | rfl | simp) rfl hx499 ?_
 have Z:=Star.addF (r:=RP.int) (cs:=[I 0]) (x:=0) Z rfl
 have Z:=Z.gets [2,1] rfl
 refine L_stE1 (u:=I 0) rfl Tryz.sizeOf3 rfl rfl rfl hv504 Z hx499 (fun w505 Z=>?_)
 refine nn (W_region (mF sf7 rfl (L_sub rfl rfl rfl (aI rfl (nn ?_)))))
 obtain rfl:=so hB469
 have Z:=Z.gets [5,5,5,5,4,5] rfl
 show ∃ m,m < _∧I469 m _ _
 refine ⟨n469,Nat.lt_succ_self _,?_⟩
 exact ij hI469 ⟨(cells_465.set (Int.toNat i_466) 0),i64 (i_466 - 1),H482,hL469,(Le.trans l468 l483),sf0,sf2,sf6,rfl,Z⟩
 have hB469:=(ite_f hc498).symm.trans hB469
 refine W_exit ?_
 obtain rfl:=so hB469
 obtain rfl:=so hL469
 exact rj hR469 ⟨cells_465,i_466,H482,rfl,(Le.trans l468 l483),sf0,sf2,sf6,sf7,Z⟩
 intro f w_ hR
 obtain ⟨cells_465,i_466,H467,rfl,l468,sf0,sf2,sf6,sf7,Z⟩:=rk hR469 hR
 refine W_seq (sq (mF sf7 rfl (L_lss rfl rfl rfl (nn (W_cond (b:=decide (i_466 < 0)) rfl (fun hc506=>?_) (fun hc506=>?_))))))
 have hB326:=(ite_t hc506).symm.trans hB326
 refine W_ret (ret0 Tryz.results57 ?_)
 obtain rfl:=so hB326
 obtain rfl:=so hL326
 obtain rfl:=so hA302
 have Z:=Z.gets [3,3] rfl
 have Z:=Star.drop 2 Z rfl
 have Z:=Star.drop 2 Z rfl
 have Z:=Star.drop 2 Z rfl
 have Z:=Star.drop 2 Z rfl
 show R302 _ _
 rw [hR302]
 exact ⟨H467,v335_g11_0,rfl,(Le.trans (Le.trans l325 l338) l468),Z⟩
 have hB326:=(ite_f hc506).symm.trans hB326
 refine W_skip ?_
 obtain ⟨x507,hx507,hB326⟩:=bind_some hB326
 refine W_region (mF sf6 rfl (mF sf7 rfl ?_))
 obtain ⟨g513,cap_g513,hv514,_,_⟩:=Star.row 1 Z rfl hx507
 refine L_ixO (R:=(OR.frz RP.int)) (tb:=0) 0 rfl Tryz.underlying23 Tryz.sizeOf3 rfl hv514 (by first | rfl | simp) rfl hx507 ?_
 obtain ⟨cs515,hr515,hat515⟩:=Star.eltF 1 Z rfl hv514 hx507
 obtain rfl : _ = [_]:=hr515
 refine L_ld rfl Tryz.isAgg3 rfl (At.cell hat515 (j:=0) rfl) (L_add rfl rfl rfl (L_ixO (R:=(OR.frz RP.int)) (tb:=0) 0 rfl Tryz.underlying23 Tryz.sizeOf3 rfl hv514 (by first | rfl | simp) rfl hx507 ?_))
 have Z:=Star.addF (r:=RP.int) (cs:=[I (i64 (x507 + 1))]) (x:=(i64 (x507 + 1))) Z rfl
 have Z:=Z.gets [2,1] rfl
 refine L_stE1 (u:=I (i64 (x507 + 1))) rfl Tryz.sizeOf3 rfl rfl rfl hv514 Z hx507 (fun w517 Z=>?_)
 refine nn ?_
 obtain rfl:=so hB326
 have Z:=Z.gets [5,5,5,5,4,5] rfl
 show ∃ m,m < _∧I326 m _ _
 refine ⟨n326,Nat.lt_succ_self _,?_⟩
 exact ij hI326 ⟨(cells_465.set (Int.toNat i_466) (i64 (x507 + 1))),g11_0_329,H467,v335_g11_0,hL326,(Le.trans (Le.trans l325 l338) l468),sf0,sf2,sf6,Z⟩
 have hB326:=(ite_f hc463).symm.trans hB326
 refine W_exit ?_
 obtain rfl:=so hB326
 obtain rfl:=so hL326
 have Z:=Z.gets [3,3] rfl
 have Z:=Star.drop 2 Z rfl
 have Z:=Star.drop 2 Z rfl
 have Z:=Star.drop 2 Z rfl
 have Z:=Star.drop 2 Z rfl
 exact rj hR326 ⟨cells_321,g11_0_329,H337,v335_g11_0,rfl,(Le.trans l325 l338),Z⟩
 intro f w_ hR
 obtain ⟨cells_321,g11_0_322,H324,v322_g11_0,rfl,l325,Z⟩:=rk hR326 hR
 obtain rfl:=so hA302
 refine end0 Tryz.results57 ?_
 show R302 _ _
 rw [hR302]
 exact ⟨H324,v322_g11_0,rfl,l325,Z⟩
 intro v_302 w_ hR
 rw [hR302] at hR
 obtain ⟨H300,v298_g11_0,hvr302,l301,Z⟩:=hR
 obtain rfl:=hvr302.symm
 clear hR302
 refine L_nil (sq (ldB 1 Z Tryz.isAgg28 sf5 rfl rfl (aV v298_g11_0 rfl (nn (W_ret (retG1 (v1:=v298_g11_0) Tryz.results50 rfl ?_))))))
 obtain rfl:=so hF
 obtain ⟨H518,l519,Z⟩:=Star.shallow Z
 have Z : Star H518 w_ (oF 73 (rCon 122) v298_g11_0 g11_0_290 :: _):=Z
 have Z:=Star.drop 1 Z rfl
 exact ⟨H518,(Le.trans l301 l519),v298_g11_0,rfl,Z⟩
theorem i_EncodeModel_c {fu : Nat} {m : Model} {v0_0 : Value} {v0_1 : Value} {H : FH} {w : World} {R : List Ass} (Z : Star H w R) (h0_0 : (rS 3 RP.int).rel H [v0_0] m.sizes) (h0_1 : (rS 79 (rRule 3 23)).rel H [v0_1] m.rules) {r : (List Con) × Bool} (hF : i_EncodeModel fu m = some r) :
 C Tryz.prog 13 #[.agg #[v0_0,v0_1]] w fun v w'=>∃ H' : FH,Le H H'∧∃ (u1 : Value),v = .tuple #[u1,Bo r.2]∧Star H' w' (oF 73 (rCon 122) u1 r.1 :: R):=by
 unfold i_EncodeModel at hF
 refine C_enter Tryz.func13 rfl Tryz.ntmps13 rfl (sq (L_box (v:=.agg #[v0_0,v0_1]) (cs:=#[v0_0,v0_1]) rfl rfl rfl Z (fun g3 w4 Z=>aV S0 rfl (aB rfl (nq (W_seq ?_))))))
 obtain ⟨x10,hx10,hF⟩:=bind_some hF
 refine W_region (L_lda (cs:=[v0_0,v0_1]) rfl Tryz.isAgg26 Tryz.sizeOf26 rfl (At.sub0 (Blk.at (Star.blkAt 0 Z rfl)) 0 2) rfl ?_)
 obtain ⟨H12b,l13,s14,z15,k16⟩:=Z.borrow
 refine L_call rfl Tryz.call46 (ops1 rfl) (i_ModelValid_c (m:=m) s14 (RP.mono _ h0_0 l13) (RP.mono _ h0_1 l13) hx10) ?_
 rintro _ w17 ⟨rfl,Z⟩
 have Z:=k16 Z c0
 refine L_not_ rfl rfl (nn (W_cond (b:=(!x10)) rfl (fun hc18=>?_) (fun hc18=>?_)))
 have hF:=(ite_t hc18).symm.trans hF
 refine sq (aV S0 rfl (aB rfl (nn (W_ret (retG2 (v1:=S0) (v2:=Bo false) Tryz.results13 rfl rfl ?_)))))
 obtain rfl:=so hF
 have Z:=Star.addNil (R:=(OR.frz (rCon 122))) (e:=73) Z
 have Z:=Star.drop 1 Z rfl
 exact ⟨H,(Le.refl _),S0,rfl,Z⟩
 have hF:=(ite_f hc18).symm.trans hF
 refine W_skip (sq (aV S0 rfl (nq (sq (fA 0 fa_26_0 rfl rfl (ldB 0 Z Tryz.isAgg23 rfl rfl rfl (L_len rfl Tryz.underlying23 rfl (slice_len h0_0) (mI rfl (nn ?_)))))))))
 have hlen25 : List.length m.sizes≤9223372036854775807:=len_le (slice_len h0_0)
 obtain ⟨j25,hL25,hF⟩:=bind_some hF
 obtain ⟨R25,hR25⟩:=exR fun f w_=>∃ out_21 : List Con,∃ H23 : FH,∃ v21_out : Value,j25 = .nx out_21∧Le H H23∧f 1 = Pt g3∧f 4 = v21_out∧Star H23 w_ (oS 73 (oCon 122) v21_out out_21 :: box g3 26 #[v0_0,v0_1] :: R)
 refine W_join R25 ?_ ?_
 refine W_block ?_
 obtain ⟨I25,hI25⟩:=exI fun n f w_=>∃ i_20 : Nat,∃ suf25 : List Int,∃ out_21 : List Con,∃ H23 : FH,∃ v21_out : Value,n = suf25.length∧List.drop i_20 m.sizes = suf25∧i_20 + suf25.length = m.sizes.length∧rangeL (i_EncodeModel_b1 fu m) suf25 i_20 out_21 = some j25∧Le H H23∧f 1 = Pt g3∧f 4 = v21_out∧f 16 = I (m.sizes.length : Int)∧f 17 = I i_20∧Star H23 w_ (oS 73 (oCon 122) v21_out out_21 :: box g3 26 #[v0_0,v0_1] :: R)
 have Z:=Star.addNil (R:=(oCon 122)) (e:=73) Z
 refine W_loop I25 (n:=m.sizes.length) ?_ ?_
 exact ij hI25 ⟨0,m.sizes,[],H,S0,rfl,rfl,Nat.zero_add _,hL25,(Le.refl _),rfl,rfl,rfl,rfl,Z⟩
 intro n25 f w_ hI
 obtain ⟨i_20,suf25,out_21,H23,v21_out,rfl,hd25,hl25,hL25,l24,sf1,sf4,sf16,sf17,Z⟩:=ik hI25 hI
 refine sq (L_lss rfl sf17 sf16 (nq (W_cond (b:=decide ((i_20 : Int) < (m.sizes.length : Int))) rfl (fun hc27=>?_) (fun hc27=>?_))))
 have hlt25:=of_decide_eq_true hc27
 rcases suf25 with _ | ⟨x_25,rest25⟩
 exact absurd hlt25 (by simp at hl25; omega)
 obtain ⟨o25,hB25,hL25⟩:=range_cons hL25
 rw [i_EncodeModel_b1] at hB25
 have hix25:=drop_idx hd25
 refine W_skip (W_seq (W_block (sq (mF sf17 rfl (aI rfl (nq ?_))))))
 obtain ⟨x33,hx33,hB25⟩:=bind_some hB25
 refine W_region (L_lda (cs:=[v0_0,v0_1]) rfl Tryz.isAgg26 Tryz.sizeOf26 sf1 (At.sub0 (Blk.at (Star.blkAt 1 Z rfl)) 0 2) rfl (mI rfl ?_))
 obtain ⟨H36b,l37,s38,z39,k40⟩:=Z.borrow
 refine L_call rfl Tryz.call47 (ops2 rfl rfl) (i_Model_varsOf_c (m:=m) (cell:=(i_20 : Int)) s38 (RP.mono _ h0_0 (Le.trans l24 l37)) (RP.mono _ h0_1 (Le.trans l24 l37)) hx33) ?_
 rintro r41_0 w41 ⟨_,rfl,Z⟩
 have Z:=k40 Z (co closed_int c0)
 refine aV r41_0 rfl (nq ?_)
 obtain ⟨x49,hx49,hB25⟩:=bind_some hB25
 refine W_region (mV r41_0 rfl ?_)
 obtain ⟨H55b,l56,s57,z58,k59⟩:=Z.borrow
 have hb60 : (rS 3 RP.int).rel H55b [r41_0] x33:=fz_own 0 z58 rfl
 refine L_call rfl Tryz.call48 (ops1 rfl) (i_ClauseOf_c (lits:=x33) s57 hb60 hx49) ?_
 rintro _ w61 ⟨r61_0,rfl,Z⟩
 have Z:=k59 Z (co closed_term c0)
 refine mV (.tuple #[.agg #[r61_0,I x49.1.bound],Bo x49.2]) rfl (L_ex (v:=.agg #[r61_0,I x49.1.bound]) rfl rfl rfl (L_ex (v:=Bo x49.2) rfl rfl rfl (L_al (cs:=#[S0,I 0]) rfl Tryz.zeroValue73 rfl Z (fun g63 w64 Z=>L_staB (vs:=#[r61_0,I x49.1.bound]) (cs2:=#[r61_0,I x49.1.bound]) 0 rfl Tryz.sizeOf73 rfl rfl rfl (ones_cons (one_len (Star.len 1 Z rfl)) (ones_cons rfl ones_nil)) Z rfl (by show 0 + 2≤2; decide) rfl (fun w65 Z=>aB rfl (nn ?_))))))
 obtain ⟨x72,hx72,hB25⟩:=bind_some hB25
 obtain ⟨x78,hx78,hB25⟩:=bind_some hB25
 have Z:=Z.gets [1,4,4,4,4] rfl
 refine W_drawS 5 [isV (v21_out),isV (.agg #[r61_0,I x49.1.bound]),isV (r41_0),exA fun u_0=>isV (.agg #[u_0,I x72.bound]),anyF] [box g63 73 #[r61_0,I x49.1.bound],oF 3 RP.int r41_0 x33,oS 73 (oCon 122) v21_out out_21,box g3 26 #[v0_0,v0_1]] [.base (oF 122 rTerm r61_0 x49.1.terms) (some 4),.made 3 31 (fun v_=>oF 122 rTerm (aggC v_ 0) x72.terms) (some 4),.made 4 32 (fun v_=>oS 73 (oCon 122) v_ ([x49.1,x72])) none] (R) [([],[]),([],[]),([],[]),([],[1]),([0,1],[2])] (S:=[(none,[],some 4),(some 3,[31],some 4),(some 4,[32],none)]) Tryz_mix (by kernel_rfl) rfl (by kernel_rfl) (amF_cons (mono_V _) (amF_cons (mono_V _) (amF_cons (mono_V _) (amF_cons (mono_exA fun _=>mono_V _) (amF_cons (mono_any) amF_nil))))) Z ?_ (fun f w_ H82 hS82 hE82 hT82 Z=>?_)
 refine opsS_cons (fun f w_ _ _ s _ _ Z=>mF ((s 4 rfl).trans sf4) rfl (nO rfl rfl Z)) (opsS_cons (fun f w_ _ _ s _ _ Z=>L_lda (cs:=[r61_0,I x49.1.bound]) rfl Tryz.isAgg73 Tryz.sizeOf73 ((s 7 rfl).trans rfl) (At.sub0 (Blk.at (Star.blkAt 0 Z rfl)) 0 2) rfl (nO rfl rfl Z)) (opsS_cons (fun f w_ _ _ s _ _ Z=>mF ((s 6 rfl).trans rfl) rfl (nO rfl rfl Z)) (opsS_cons ?_ ?_)))
 intro f w_ H82 X82 hS82 hE82 hP82 Z
 obtain ⟨H94b,l95,s96,z97,k98⟩:=Z.borrow
 have hb99 : (rS 3 RP.int).rel H94b [r41_0] x33:=fz_own 1 z97 rfl
 refine L_call rfl Tryz.call49 (ops1 (hP82 2 30 rfl rfl)) (i_atMostOne_c (vars:=x33) s96 hb99 hx72) ?_
 rintro _ w100 ⟨r100_0,rfl,Z⟩
 have Z:=k98 Z (co closed_term c0)
 have Z:=Z.gets [4,4,4,4] rfl
 exact L_nil ⟨rfl,_,_,rfl,Le.refl _,fun _ _=>⟨_,rfl⟩,Z⟩
 refine opsS_cons ?_ ?_
 intro f w_ H82 X82 hS82 hE82 hP82 Z
 have Z : Star H82 w_ (box g63 73 #[r61_0,I x49.1.bound] :: oF 3 RP.int r41_0 x33 :: oS 73 (oCon 122) v21_out out_21 :: box g3 26 #[v0_0,v0_1] :: oF 122 rTerm r61_0 x49.1.terms :: own (OR.ownS 122 (OR.frz rTerm)) [(aggC (f 31) 0)] x72.terms :: X82):=Z
 obtain ⟨u102_0,hv102⟩:=(hP82 3 31 rfl rfl)
 have hren : Star H82 w_ (box g63 73 #[r61_0,I x49.1.bound] :: oF 3 RP.int r41_0 x33 :: oS 73 (oCon 122) v21_out out_21 :: box g3 26 #[v0_0,v0_1] :: oF 122 rTerm r61_0 x49.1.terms :: own (OR.ownS 122 (OR.frz rTerm)) [(aggC (f 31) 0)] x72.terms :: X82):=Z
 rw [hv102] at hren
 have Z : Star H82 w_ (box g63 73 #[r61_0,I x49.1.bound] :: oF 3 RP.int r41_0 x33 :: oS 73 (oCon 122) v21_out out_21 :: box g3 26 #[v0_0,v0_1] :: oF 122 rTerm r61_0 x49.1.terms :: oF 122 rTerm u102_0 x72.terms :: X82):=hren
 refine L_bs rfl (parts2 (hP82 1 29 rfl rfl) hv102) (bs_28_2_2_2 (r61_0) (I x49.1.bound) (u102_0) (I x72.bound) ) Z (fun g103 w104 Z=>?_)
 have Z:=Z.get 6 rfl
 have Z:=oCon_close (c:=x72) Z
 have Z:=Z.get 6 rfl
 have Z:=oCon_close (c:=x49.1) Z
 have Z:=Star.mkRow (R:=(oCon 122)) [([r61_0,I x49.1.bound],x49.1),([u102_0,I x72.bound],x72)] [x49.1,x72] 2 Z rfl rfl rfl (by decide)
 have Z:=Z.gets [4,4,4,4] rfl
 exact L_nil ⟨rfl,_,_,rfl,Le.refl _,fun _ _=>trivial,Z⟩
 exact opsS_nil
 have Z : Star H82 w_ (box g63 73 #[r61_0,I x49.1.bound] :: oF 3 RP.int r41_0 x33 :: oS 73 (oCon 122) v21_out out_21 :: box g3 26 #[v0_0,v0_1] :: oS 73 (oCon 122) (f 32) ([x49.1,x72]) :: R):=Z
 have Z:=Z.gets [4,3] rfl
 refine L_appM (v:=v21_out) (u:=(f 32)) rfl et_28 (hT82 0 28 rfl rfl) rfl Z hx78 (fun v107 w108 Z=>aV v107 rfl (nn (W_region (L_add rfl ((hS82 17 rfl).trans sf17) rfl (mI rfl (nn ?_))))))
 obtain rfl:=so hB25
 have Z:=Z.gets [3,1] rfl
 have Z:=Star.drop 2 Z rfl
 have Z:=Star.drop 2 Z rfl
 show ∃ m,m < _∧I25 m _ _
 refine ⟨rest25.length,by simp,?_⟩
 exact ij hI25 ⟨i_20 + 1,rest25,x78,H82,v107,rfl,drop_next hd25,by simp at hl25; omega,hL25,(Le.trans l24 hE82),((hS82 1 rfl).trans sf1),rfl,((hS82 16 rfl).trans sf16),(Eq.trans rfl (congrArg (Value.int .i64) (i64_succ (n:=m.sizes.length) (by simp at hl25; omega) hlen25))),Z⟩
 rcases suf25 with _ | ⟨_,_⟩
 obtain rfl:=range_nil hL25
 refine W_exit (rj hR25 ⟨out_21,H23,v21_out,rfl,l24,sf1,sf4,Z⟩)
 exact absurd (of_decide_eq_false hc27) (by simp at hl25; omega)
 intro f w_ hR
 obtain ⟨out_21,H23,v21_out,rfl,l24,sf1,sf4,Z⟩:=rk hR25 hR
 refine W_seq (sq (fA 1 fa_26_1 sf1 rfl (ldB 1 Z Tryz.isAgg24 rfl rfl rfl (L_len rfl Tryz.underlying24 rfl (slice_len (RP.mono _ h0_1 l24)) (mI rfl (nn ?_))))))
 have hlen115 : List.length m.rules≤9223372036854775807:=len_le (slice_len (RP.mono _ h0_1 l24))
 obtain ⟨j115,hL115,hF⟩:=bind_some hF
 obtain ⟨R115,hR115⟩:=exR fun f w_=>∃ out_111 : List Con,∃ H113 : FH,∃ v111_out : Value,j115 = .nx out_111∧Le H23 H113∧f 4 = v111_out∧Star H113 w_ (oF 73 (rCon 122) v111_out out_111 :: R)
 refine W_join R115 ?_ ?_
 refine W_block ?_
 obtain ⟨I115,hI115⟩:=exI fun n f w_=>∃ i_110 : Nat,∃ suf115 : List Rule,∃ out_111 : List Con,∃ H113 : FH,∃ v111_out : Value,n = suf115.length∧List.drop i_110 m.rules = suf115∧i_110 + suf115.length = m.rules.length∧rangeL (i_EncodeModel_b2 fu m) suf115 i_110 out_111 = some j115∧Le H23 H113∧f 1 = Pt g3∧f 4 = v111_out∧f 36 = v0_1∧f 37 = I (m.rules.length : Int)∧f 38 = I i_110∧Star H113 w_ (oF 73 (rCon 122) v111_out out_111 :: box g3 26 #[v0_0,v0_1] :: R)
 obtain ⟨H116,l117,Z⟩:=Star.shallow Z
 have Z : Star H116 w_ (oF 73 (rCon 122) v21_out out_21 :: _):=Z
 refine W_loop I115 (n:=m.rules.length) ?_ ?_
 exact ij hI115 ⟨0,m.rules,out_21,H116,v21_out,rfl,rfl,Nat.zero_add _,hL115,l117,sf1,sf4,rfl,rfl,rfl,Z⟩
 intro n115 f w_ hI
 obtain ⟨i_110,suf115,out_111,H113,v111_out,rfl,hd115,hl115,hL115,l114,sf1,sf4,sf36,sf37,sf38,Z⟩:=ik hI115 hI
 refine sq (L_lss rfl sf38 sf37 (L_nil (W_seq (W_cond (b:=decide ((i_110 : Int) < (m.rules.length : Int))) rfl (fun hc118=>?_) (fun hc118=>?_)))))
 have hlt115:=of_decide_eq_true hc118
 rcases suf115 with _ | ⟨x_115,rest115⟩
 exact absurd hlt115 (by simp at hl115; omega)
 obtain ⟨o115,hB115,hL115⟩:=range_cons hL115
 rw [i_EncodeModel_b2] at hB115
 have hix115:=drop_idx hd115
 refine W_skip (W_seq (W_block (sq (L_ix (r:=(rRule 3 23)) rfl Tryz.underlying24 Tryz.sizeOf79 sf36 (RP.mono _ h0_1 (Le.trans l24 l114)) sf38 hix115 (fun g126 o127 cs_g126 hrk_hat128 hat128=>?_)))))
 obtain ⟨u129_0,u129_1,u129_2,rfl,hu129_0,hu129_1,hu129_2⟩:=rRule_iff.1 hrk_hat128
 refine L_lda (cs:=[I x_115.kind,u129_0,u129_1,I x_115.bound,u129_2]) rfl Tryz.isAgg79 Tryz.sizeOf79 rfl (At.sub (AtH.at hat128 Z.sub) 0 5) rfl (L_al (cs:=#[I 0,S0,S0,I 0,S0]) rfl Tryz.zeroValue79 rfl Z (fun g130 w131 Z=>L_staB (vs:=#[I x_115.kind,u129_0,u129_1,I x_115.bound,u129_2]) (cs2:=#[I x_115.kind,u129_0,u129_1,I x_115.bound,u129_2]) 0 rfl Tryz.sizeOf79 rfl rfl rfl (ones_cons rfl (ones_cons (one_len (slice_len hu129_0)) (ones_cons (one_len (slice_len hu129_1)) (ones_cons rfl (ones_cons (one_len (slice_len hu129_2)) ones_nil))))) Z rfl (by show 0 + 5≤5; decide) rfl (fun w132 Z=>nn ?_)))
 obtain ⟨x133,hx133,hB115⟩:=bind_some hB115
 obtain ⟨x136,hx136,hB115⟩:=bind_some hB115
 refine W_region (mF sf4 rfl (L_lda (cs:=[v0_0,v0_1]) rfl Tryz.isAgg26 Tryz.sizeOf26 sf1 (At.sub0 (Blk.at (Star.blkAt 2 Z rfl)) 0 2) rfl (L_lda (cs:=[I x_115.kind,u129_0,u129_1,I x_115.bound,u129_2]) rfl Tryz.isAgg79 Tryz.sizeOf79 rfl (At.sub0 (Blk.at (Star.blkAt 0 Z rfl)) 0 5) rfl (L_call rfl Tryz.call50 (ops2 rfl rfl) (i_Model_encodeRule_c (m:=m) (r_:=x_115) Z (RP.mono _ h0_0 (Le.trans l24 l114)) (RP.mono _ h0_1 (Le.trans l24 l114)) hu129_0 hu129_1 hu129_2 hx133) ?_))))
 rintro r140_0 w140 ⟨H140,l140,_,rfl,Z⟩
 have Z:=Z.get 2 rfl
 refine L_appM (v:=v111_out) (u:=r140_0) rfl et_28 rfl rfl Z hx136 (fun v142 w143 Z=>aV v142 rfl (nn (W_region (L_add rfl sf38 rfl (mI rfl (nn ?_))))))
 obtain rfl:=so hB115
 have Z:=Z.gets [2,1] rfl
 have Z:=Star.drop 2 Z rfl
 show ∃ m,m < _∧I115 m _ _
 refine ⟨rest115.length,by simp,?_⟩
 exact ij hI115 ⟨i_110 + 1,rest115,x136,H140,v142,rfl,drop_next hd115,by simp at hl115; omega,hL115,(Le.trans l114 l140),sf1,rfl,sf36,sf37,(Eq.trans rfl (congrArg (Value.int .i64) (i64_succ (n:=m.rules.length) (by simp at hl115; omega) hlen115))),Z⟩
 rcases suf115 with _ | ⟨_,_⟩
 obtain rfl:=range_nil hL115
 refine W_exit ?_
 have Z:=Star.drop 1 Z rfl
 exact rj hR115 ⟨out_111,H113,v111_out,rfl,l114,sf4,Z⟩
 exact absurd (of_decide_eq_false hc118) (by simp at hl115; omega)
 intro f w_ hR
 obtain ⟨out_111,H113,v111_out,rfl,l114,sf4,Z⟩:=rk hR115 hR
 refine W_seq (sq (mF sf4 rfl (L_len rfl Tryz.underlying28 rfl (Star.len 0 Z rfl) (L_gtr rfl rfl rfl (nn (W_cond (b:=decide ((out_111.length : Int) > 400)) rfl (fun hc145=>?_) (fun hc145=>?_)))))))
 have hF:=(ite_t hc145).symm.trans hF
 refine sq (aV S0 rfl (aB rfl (nn (W_ret (retG2 (v1:=S0) (v2:=Bo false) Tryz.results13 rfl rfl ?_)))))
 obtain rfl:=so hF
 have Z:=Star.addNil (R:=(OR.frz (rCon 122))) (e:=73) Z
 have Z:=Star.drop 1 Z rfl
 exact ⟨H113,(Le.trans l24 l114),S0,rfl,Z⟩
 have hF:=(ite_f hc145).symm.trans hF
 refine W_skip (sq (mF sf4 rfl (aV v111_out rfl (aB rfl (nn (W_ret (retG2 (v1:=v111_out) (v2:=Bo true) Tryz.results13 rfl rfl ?_)))))))
 obtain rfl:=so hF
 exact ⟨H113,(Le.trans l24 l114),v111_out,rfl,Z⟩
theorem s_l6Vars_c {m : Model} {list : List Int} {v0_0 : Value} {v0_1 : Value} {v1 : Value} {H : FH} {w : World} (Z : Star H w []) (h0_0 : (rS 3 RP.int).rel H [v0_0] m.sizes) (h0_1 : (rS 79 (rRule 3 23)).rel H [v0_1] m.rules) (h1 : (rS 3 RP.int).rel H [v1] list) {r : Bool} (hF : s_l6Vars m list = some r) :
 C Tryz.prog 148 #[.agg #[v0_0,v0_1],v1] w fun v w'=>v = Bo r∧Star H w' []:=by
 unfold s_l6Vars at hF
 refine C_enter Tryz.func148 rfl Tryz.ntmps148 rfl (sq (L_box (v:=.agg #[v0_0,v0_1]) (cs:=#[v0_0,v0_1]) rfl rfl rfl Z (fun g3 w4 Z=>aB rfl (nq (sq (aI rfl (nn ?_)))))))
 have hlen8 : List.length list≤9223372036854775807:=len_le (slice_len h1)
 obtain ⟨j8,hL8,hF⟩:=bind_some hF
 obtain ⟨R8,hR8⟩:=exR fun f w_=>∃ H6 : FH,j8 = .nx ()∧Le H H6∧f 1 = v1∧Star H6 w_ ([])
 refine W_join R8 ?_ ?_
 refine W_block ?_
 obtain ⟨I8,hI8⟩:=exI fun n f w_=>∃ i_5 : Nat,∃ suf8 : List Int,∃ H6 : FH,n = suf8.length∧List.drop i_5 list = suf8∧i_5 + suf8.length = list.length∧rangeL (s_l6Vars_b1 m list) suf8 i_5 () = some j8∧Le H H6∧f 1 = v1∧f 2 = Pt g3∧f 5 = I i_5∧Star H6 w_ ([box g3 26 #[v0_0,v0_1]])
 refine W_loop I8 (n:=list.length) ?_ ?_
 exact ij hI8 ⟨0,list,H,rfl,rfl,Nat.zero_add _,hL8,(Le.refl _),rfl,rfl,rfl,Z⟩
 intro n8 f w_ hI
 obtain ⟨i_5,suf8,H6,rfl,hd8,hl8,hL8,l7,sf1,sf2,sf5,Z⟩:=ik hI8 hI
 refine W_seq (sq (mF sf5 rfl (mF sf1 rfl (L_len rfl Tryz.underlying23 rfl (slice_len (RP.mono _ h1 l7)) (L_lss rfl rfl rfl (nn (W_cond (b:=decide ((i_5 : Int) < (list.length : Int))) rfl (fun hc9=>?_) (fun hc9=>?_))))))))
 have hlt8:=of_decide_eq_true hc9
 rcases suf8 with _ | ⟨x_8,rest8⟩
 exact absurd hlt8 (by simp at hl8; omega)
 obtain ⟨o8,hB8,hL8⟩:=range_cons hL8
 rw [s_l6Vars_b1] at hB8
 have hix8:=drop_idx hd8
 refine W_skip (W_seq (W_block (W_seq (W_seq ?_))))
 obtain ⟨R21,hR21⟩:=exR fun f w_=>∃ H19 : FH,Le H6 H19∧f 1 = v1∧f 2 = Pt g3∧f 5 = I i_5∧f 27 = Bo ((decide (x_8 < 0)) || (decide (x_8 ≥ (m.sizes.length : Int))))∧Star H19 w_ ([box g3 26 #[v0_0,v0_1]])
 refine W_join R21 ?_ ?_
 rcases Bool.eq_false_or_eq_true (decide (x_8 < 0)) with hc22 | hc22
 refine W_drawS 13 [isV (v1),isV (I i_5),isEl RP.int x_8 0,isV (I x_8),isV (Bo (decide (x_8 < 0))),isV (Bo (decide (x_8 < 0))),isV (undef),isV (undef),isV (undef),isV (undef),isV (undef),isV (undef),isV (undef)] [box g3 26 #[v0_0,v0_1]] [] ([]) [([],[]),([],[]),([],[]),([],[]),([],[]),([],[]),([],[]),([],[]),([],[]),([],[]),([],[]),([],[]),([],[])] (S:=[]) Tryz_mix (by kernel_rfl) rfl (by kernel_rfl) (amF_cons (mono_V _) (amF_cons (mono_V _) (amF_cons (mono_el _ _ _) (amF_cons (mono_V _) (amF_cons (mono_V _) (amF_cons (mono_V _) (amF_cons (mono_V _) (amF_cons (mono_V _) (amF_cons (mono_V _) (amF_cons (mono_V _) (amF_cons (mono_V _) (amF_cons (mono_V _) (amF_cons (mono_V _) amF_nil))))))))))))) Z ?_ (fun f w_ H18 hS18 hE18 hT18 Z=>?_)
 refine opsS_cons (fun f w_ _ _ s _ _ Z=>mF ((s 1 rfl).trans sf1) rfl (nO rfl rfl Z)) (opsS_cons (fun f w_ _ _ s _ _ Z=>mF ((s 5 rfl).trans sf5) rfl (nO rfl rfl Z)) (opsS_cons ?_ ?_))
 intro f w_ H18 X18 hS18 hE18 hP18 Z
 refine L_ix (r:=RP.int) rfl Tryz.underlying23 Tryz.sizeOf3 (hP18 0 13 rfl rfl) (RP.mono _ h1 (Le.trans l7 hE18)) (hP18 1 14 rfl rfl) hix8 (fun g27 o28 cs_g27 hrk_hat29 hat29=>?_)
 obtain rfl : _ = [_]:=hrk_hat29
 exact L_nil ⟨rfl,_,_,rfl,Le.refl _,fun _ _=>⟨_,_,_,rfl,rfl,hat29⟩,Z⟩
 refine opsS_cons ?_ ?_
 intro f w_ H18 X18 hS18 hE18 hP18 Z
 obtain ⟨g31,o31,cs31,hv31,hrk_hat31,hat31⟩:=(hP18 2 15 rfl rfl)
 obtain rfl : _ = [_]:=hrk_hat31
 refine L_ld rfl Tryz.isAgg3 hv31 (At.cell (AtH.at hat31 Z.sub) (j:=0) rfl) (L_nil ⟨rfl,_,_,rfl,Le.refl _,fun _ _=>rfl,Z⟩)
 refine opsS_cons (fun f w_ _ _ _ _ p Z=>L_lss rfl (p 3 16 rfl rfl) rfl (nO rfl rfl Z)) (opsS_cons (fun f w_ _ _ _ _ p Z=>mF (p 4 17 rfl rfl) rfl (nO rfl rfl Z)) (oP (fun _ _ p=>gN (p 5 18 rfl rfl) hc22 rfl) (fun _=>rfl) (oP (fun _ _ p=>gN (p 5 18 rfl rfl) hc22 rfl) (fun _=>rfl) (oP (fun _ _ p=>gN (p 5 18 rfl rfl) hc22 rfl) (fun _=>rfl) (oP (fun _ _ p=>gN (p 5 18 rfl rfl) hc22 rfl) (fun _=>rfl) (oP (fun _ _ p=>gN (p 5 18 rfl rfl) hc22 rfl) (fun _=>rfl) (oP (fun _ _ p=>gN (p 5 18 rfl rfl) hc22 rfl) (fun _=>rfl) (oP (fun _ _ p=>gN (p 5 18 rfl rfl) hc22 rfl) (fun _=>rfl) (opsS_nil)))))))))
 refine ps (g_no rfl (Eq.trans (hT18 5 18 rfl rfl) (congrArg Value.bool hc22)) rfl rfl) (L_pick (v:=Bo ((decide (x_8 < 0)) || (decide (x_8 ≥ (m.sizes.length : Int))))) rfl (Eq.trans (hT18 5 18 rfl rfl) (congrArg Value.bool hc22)) (or_t hc22) (nn (rj hR21 ⟨H18,hE18,((hS18 1 rfl).trans sf1),((hS18 2 rfl).trans sf2),((hS18 5 rfl).trans sf5),rfl,Z⟩)))
 refine W_drawS 13 [isV (v1),isV (I i_5),isEl RP.int x_8 0,isV (I x_8),isV (Bo (decide (x_8 < 0))),isV (Bo (decide (x_8 < 0))),isV (v1),isV (I i_5),isEl RP.int x_8 0,isV (I x_8),isV (Pt g3),isV (v0_0),isV (I (m.sizes.length : Int))] [box g3 26 #[v0_0,v0_1]] [] ([]) [([],[]),([],[]),([],[]),([],[]),([],[]),([],[]),([],[]),([],[]),([],[]),([],[]),([],[]),([],[]),([],[])] (S:=[]) Tryz_mix (by kernel_rfl) rfl (by kernel_rfl) (amF_cons (mono_V _) (amF_cons (mono_V _) (amF_cons (mono_el _ _ _) (amF_cons (mono_V _) (amF_cons (mono_V _) (amF_cons (mono_V _) (amF_cons (mono_V _) (amF_cons (mono_V _) (amF_cons (mono_el _ _ _) (amF_cons (mono_V _) (amF_cons (mono_V _) (amF_cons (mono_V _) (amF_cons (mono_V _) amF_nil))))))))))))) Z ?_ (fun f w_ H18 hS18 hE18 hT18 Z=>?_)
 refine opsS_cons (fun f w_ _ _ s _ _ Z=>mF ((s 1 rfl).trans sf1) rfl (nO rfl rfl Z)) (opsS_cons (fun f w_ _ _ s _ _ Z=>mF ((s 5 rfl).trans sf5) rfl (nO rfl rfl Z)) (opsS_cons ?_ ?_))
 intro f w_ H18 X18 hS18 hE18 hP18 Z
 refine L_ix (r:=RP.int) rfl Tryz.underlying23 Tryz.sizeOf3 (hP18 0 13 rfl rfl) (RP.mono _ h1 (Le.trans l7 hE18)) (hP18 1 14 rfl rfl) hix8 (fun g41 o42 cs_g41 hrk_hat43 hat43=>?_)
 obtain rfl : _ = [_]:=hrk_hat43
 exact L_nil ⟨rfl,_,_,rfl,Le.refl _,fun _ _=>⟨_,_,_,rfl,rfl,hat43⟩,Z⟩
 refine opsS_cons ?_ ?_
 intro f w_ H18 X18 hS18 hE18 hP18 Z
 obtain ⟨g45,o45,cs45,hv45,hrk_hat45,hat45⟩:=(hP18 2 15 rfl rfl)
 obtain rfl : _ = [_]:=hrk_hat45
 refine L_ld rfl Tryz.isAgg3 hv45 (At.cell (AtH.at hat45 Z.sub) (j:=0) rfl) (L_nil ⟨rfl,_,_,rfl,Le.refl _,fun _ _=>rfl,Z⟩)
 refine opsS_cons (fun f w_ _ _ _ _ p Z=>L_lss rfl (p 3 16 rfl rfl) rfl (nO rfl rfl Z)) (opsS_cons (fun f w_ _ _ _ _ p Z=>mF (p 4 17 rfl rfl) rfl (nO rfl rfl Z)) (opsS_cons (fun f w_ _ _ s _ p Z=>L_mv (v:=v1) (g_yes rfl (Eq.trans (p 5 18 rfl rfl) (congrArg Value.bool hc22)) rfl) ((s 1 rfl).trans sf1) (nO rfl rfl Z)) (opsS_cons (fun f w_ _ _ s _ p Z=>L_mv (v:=I i_5) (g_yes rfl (Eq.trans (p 5 18 rfl rfl) (congrArg Value.bool hc22)) rfl) ((s 5 rfl).trans sf5) (nO rfl rfl Z)) (opsS_cons ?_ ?_))))
 intro f w_ H18 X18 hS18 hE18 hP18 Z
 refine L_ix (r:=RP.int) (g_yes rfl (Eq.trans (hP18 5 18 rfl rfl) (congrArg Value.bool hc22)) rfl) Tryz.underlying23 Tryz.sizeOf3 (hP18 6 19 rfl rfl) (RP.mono _ h1 (Le.trans l7 hE18)) (hP18 7 20 rfl rfl) hix8 (fun g47 o48 cs_g47 hrk_hat49 hat49=>?_)
 obtain rfl : _ = [_]:=hrk_hat49
 exact L_nil ⟨rfl,_,_,rfl,Le.refl _,fun _ _=>⟨_,_,_,rfl,rfl,hat49⟩,Z⟩
 refine opsS_cons ?_ ?_
 intro f w_ H18 X18 hS18 hE18 hP18 Z
 obtain ⟨g51,o51,cs51,hv51,hrk_hat51,hat51⟩:=(hP18 8 21 rfl rfl)
 obtain rfl : _ = [_]:=hrk_hat51
 refine L_ld (v:=I x_8) (g_yes rfl (Eq.trans (hP18 5 18 rfl rfl) (congrArg Value.bool hc22)) rfl) Tryz.isAgg3 hv51 (At.cell (AtH.at hat51 Z.sub) (j:=0) rfl) (L_nil ⟨rfl,_,_,rfl,Le.refl _,fun _ _=>rfl,Z⟩)
 refine opsS_cons (fun f w_ _ _ s _ p Z=>L_fa (o':=0) (g_yes rfl (Eq.trans (p 5 18 rfl rfl) (congrArg Value.bool hc22)) rfl) fa_26_0 ((s 2 rfl).trans sf2) rfl (nO rfl rfl Z)) (opsS_cons (fun f w_ _ _ _ _ p Z=>L_ld (v:=v0_0) (g_yes rfl (Eq.trans (p 5 18 rfl rfl) (congrArg Value.bool hc22)) rfl) Tryz.isAgg23 (p 10 23 rfl rfl) (At.cell0 (Blk.at (Star.blkAt 0 Z rfl)) (j:=0) rfl) (nO rfl rfl Z)) (opsS_cons (fun f w_ _ _ _ hE18 p Z=>L_len (g_yes rfl (Eq.trans (p 5 18 rfl rfl) (congrArg Value.bool hc22)) rfl) Tryz.underlying23 (p 11 24 rfl rfl) (slice_len (RP.mono _ h0_0 (Le.trans l7 hE18))) (nO rfl rfl Z)) (opsS_nil)))
 refine L_geq (g_yes rfl (Eq.trans (hT18 5 18 rfl rfl) (congrArg Value.bool hc22)) rfl) (hT18 9 22 rfl rfl) (hT18 12 25 rfl rfl) (L_pick (v:=Bo ((decide (x_8 < 0)) || (decide (x_8 ≥ (m.sizes.length : Int))))) rfl (Eq.trans (hT18 5 18 rfl rfl) (congrArg Value.bool hc22)) (or_f hc22 rfl) (nn (rj hR21 ⟨H18,hE18,((hS18 1 rfl).trans sf1),((hS18 2 rfl).trans sf2),((hS18 5 rfl).trans sf5),rfl,Z⟩)))
 intro f w_ hR
 obtain ⟨H19,l20,sf1,sf2,sf5,sf27,Z⟩:=rk hR21 hR
 refine W_cond (b:=((decide (x_8 < 0)) || (decide (x_8 ≥ (m.sizes.length : Int))))) sf27 (fun hc53=>?_) (fun hc53=>?_)
 have hB8:=(ite_t hc53).symm.trans hB8
 refine sq (aB rfl (nn (W_ret (retG1 (v1:=Bo false) Tryz.results148 rfl ?_))))
 obtain rfl:=so hB8
 obtain rfl:=so hL8
 obtain rfl:=so hF
 exact ⟨rfl,(Star.down (Star.keepN 0 Z) (Le.trans l7 l20) c0)⟩
 have hB8:=(ite_f hc53).symm.trans hB8
 refine W_skip (sq (aI rfl (nn ?_)))
 obtain ⟨k58,hk58,hB8⟩:=bind_some hB8
 obtain ⟨j57,hL57,hB8⟩:=bind_some hB8
 obtain ⟨R57,hR57⟩:=exR fun f w_=>∃ H55 : FH,j57 = .nx ()∧Le H19 H55∧f 1 = v1∧f 2 = Pt g3∧f 5 = I i_5∧Star H55 w_ ([box g3 26 #[v0_0,v0_1]])
 refine W_join R57 ?_ ?_
 refine W_block ?_
 obtain ⟨I57,hI57⟩:=exI fun n f w_=>∃ i_54 : Nat,∃ suf57 : Nat,∃ H55 : FH,suf57 = n∧0≤i_54∧i_54 + suf57 = 0 + k58∧countL (s_l6Vars_b2 list x_8) suf57 i_54 () = some j57∧Le H19 H55∧f 1 = v1∧f 2 = Pt g3∧f 5 = I i_5∧f 6 = I i_54∧Star H55 w_ ([box g3 26 #[v0_0,v0_1]])
 refine W_loop I57 (n:=k58) ?_ ?_
 exact ij hI57 ⟨0,k58,H19,rfl,Nat.le_refl _,rfl,hL57,(Le.refl _),sf1,sf2,sf5,rfl,Z⟩
 intro n57 f w_ hI
 obtain ⟨i_54,suf57,H55,rfl,hs57,hl57,hL57,l56,sf1,sf2,sf5,sf6,Z⟩:=ik hI57 hI
 refine W_seq (sq (mF sf6 rfl (mF sf5 rfl (L_lss rfl rfl rfl (nn (W_cond (b:=decide ((i_54 : Int) < (i_5 : Int))) rfl (fun hc59=>?_) (fun hc59=>?_)))))))
 have hlt57:=of_decide_eq_true hc59
 rcases suf57 with _ | rest57
 exact absurd hlt57 (cntF_no hl57 hk58)
 obtain ⟨o57,hB57,hL57⟩:=count_succ hL57
 rw [s_l6Vars_b2] at hB57
 refine W_skip (W_seq (W_block (W_seq ?_)))
 obtain ⟨x60,hx60,hB57⟩:=bind_some hB57
 refine W_drawS 8 [isV (v1),isV (I i_54),isEl RP.int x60 0,isV (I x60),isV (v1),isV (I i_5),isEl RP.int x_8 0,isV (I x_8)] [box g3 26 #[v0_0,v0_1]] [] ([]) [([],[]),([],[]),([],[]),([],[]),([],[]),([],[]),([],[]),([],[])] (S:=[]) Tryz_mix (by kernel_rfl) rfl (by kernel_rfl) (amF_cons (mono_V _) (amF_cons (mono_V _) (amF_cons (mono_el _ _ _) (amF_cons (mono_V _) (amF_cons (mono_V _) (amF_cons (mono_V _) (amF_cons (mono_el _ _ _) (amF_cons (mono_V _) amF_nil)))))))) Z ?_ (fun f w_ H69 hS69 hE69 hT69 Z=>?_)
 refine opsS_cons (fun f w_ _ _ s _ _ Z=>mF ((s 1 rfl).trans sf1) rfl (nO rfl rfl Z)) (opsS_cons (fun f w_ _ _ s _ _ Z=>mF ((s 6 rfl).trans sf6) rfl (nO rfl rfl Z)) (opsS_cons ?_ ?_))
 intro f w_ H69 X69 hS69 hE69 hP69 Z
 refine L_ix (r:=RP.int) rfl Tryz.underlying23 Tryz.sizeOf3 (hP69 0 33 rfl rfl) (RP.mono _ h1 (Le.trans (Le.trans (Le.trans l7 l20) l56) hE69)) (hP69 1 34 rfl rfl) hx60 (fun g78 o79 cs_g78 hrk_hat80 hat80=>?_)
 obtain rfl : _ = [_]:=hrk_hat80
 exact L_nil ⟨rfl,_,_,rfl,Le.refl _,fun _ _=>⟨_,_,_,rfl,rfl,hat80⟩,Z⟩
 refine opsS_cons ?_ ?_
 intro f w_ H69 X69 hS69 hE69 hP69 Z
 obtain ⟨g82,o82,cs82,hv82,hrk_hat82,hat82⟩:=(hP69 2 35 rfl rfl)
 obtain rfl : _ = [_]:=hrk_hat82
 refine L_ld rfl Tryz.isAgg3 hv82 (At.cell (AtH.at hat82 Z.sub) (j:=0) rfl) (L_nil ⟨rfl,_,_,rfl,Le.refl _,fun _ _=>rfl,Z⟩)
 refine opsS_cons (fun f w_ _ _ s _ _ Z=>mF ((s 1 rfl).trans sf1) rfl (nO rfl rfl Z)) (opsS_cons (fun f w_ _ _ s _ _ Z=>mF ((s 5 rfl).trans sf5) rfl (nO rfl rfl Z)) (opsS_cons ?_ ?_))
 intro f w_ H69 X69 hS69 hE69 hP69 Z
 refine L_ix (r:=RP.int) rfl Tryz.underlying23 Tryz.sizeOf3 (hP69 4 37 rfl rfl) (RP.mono _ h1 (Le.trans (Le.trans (Le.trans l7 l20) l56) hE69)) (hP69 5 38 rfl rfl) hix8 (fun g84 o85 cs_g84 hrk_hat86 hat86=>?_)
 obtain rfl : _ = [_]:=hrk_hat86
 exact L_nil ⟨rfl,_,_,rfl,Le.refl _,fun _ _=>⟨_,_,_,rfl,rfl,hat86⟩,Z⟩
 refine opsS_cons ?_ ?_
 intro f w_ H69 X69 hS69 hE69 hP69 Z
 obtain ⟨g88,o88,cs88,hv88,hrk_hat88,hat88⟩:=(hP69 6 39 rfl rfl)
 obtain rfl : _ = [_]:=hrk_hat88
 refine L_ld rfl Tryz.isAgg3 hv88 (At.cell (AtH.at hat88 Z.sub) (j:=0) rfl) (L_nil ⟨rfl,_,_,rfl,Le.refl _,fun _ _=>rfl,Z⟩)
 exact opsS_nil
 refine L_eql rfl (hT69 3 36 rfl rfl) (hT69 7 40 rfl rfl) (nn (W_cond (b:=(x60 == x_8)) rfl (fun hc90=>?_) (fun hc90=>?_)))
 have hB57:=(ite_t hc90).symm.trans hB57
 refine sq (aB rfl (nn (W_ret (retG1 (v1:=Bo false) Tryz.results148 rfl ?_))))
 obtain rfl:=so hB57
 obtain rfl:=so hL57
 obtain rfl:=so hB8
 obtain rfl:=so hL8
 obtain rfl:=so hF
 exact ⟨rfl,(Star.down (Star.keepN 0 Z) (Le.trans (Le.trans (Le.trans l7 l20) l56) hE69) c0)⟩
 have hB57:=(ite_f hc90).symm.trans hB57
 refine W_skip (W_region (mF ((hS69 6 rfl).trans sf6) rfl (L_add rfl rfl rfl (aI rfl (nn ?_)))))
 obtain rfl:=so hB57
 show ∃ m,m < _∧I57 m _ _
 refine ⟨rest57,Nat.lt_succ_self _,?_⟩
 exact ij hI57 ⟨i_54 + 1,rest57,H69,rfl,by omega,by omega,hL57,(Le.trans l56 hE69),((hS69 1 rfl).trans sf1),((hS69 2 rfl).trans sf2),((hS69 5 rfl).trans sf5),(Eq.trans rfl (congrArg (Value.int .i64) (i64_succ (n:=0 + k58) (by omega) (cntF_le hk58)))),Z⟩
 rcases suf57 with _ | _
 obtain rfl:=count_zero hL57
 refine W_exit (rj hR57 ⟨H55,rfl,l56,sf1,sf2,sf5,Z⟩)
 exact absurd (cntF_yes hs57 hl57 hk58) (of_decide_eq_false hc59)
 intro f w_ hR
 obtain ⟨H55,rfl,l56,sf1,sf2,sf5,Z⟩:=rk hR57 hR
 refine W_region (mF sf5 rfl (L_add rfl rfl rfl (aI rfl (nn ?_))))
 obtain rfl:=so hB8
 show ∃ m,m < _∧I8 m _ _
 refine ⟨rest8.length,by simp,?_⟩
 exact ij hI8 ⟨i_5 + 1,rest8,H55,rfl,drop_next hd8,by simp at hl8; omega,hL8,(Le.trans (Le.trans l7 l20) l56),sf1,sf2,(Eq.trans rfl (congrArg (Value.int .i64) (i64_succ (n:=list.length) (by simp at hl8; omega) hlen8))),Z⟩
 rcases suf8 with _ | ⟨_,_⟩
 obtain rfl:=range_nil hL8
 refine W_exit (rj hR8 ⟨H6,rfl,l7,sf1,(Star.keepN 0 Z)⟩)
 exact absurd (of_decide_eq_false hc9) (by simp at hl8; omega)
 intro f w_ hR
 obtain ⟨H6,rfl,l7,sf1,Z⟩:=rk hR8 hR
 refine sq (mF sf1 rfl (L_len rfl Tryz.underlying23 rfl (slice_len (RP.mono _ h1 l7)) (L_geq rfl rfl rfl (aB rfl (nn (W_ret (retG1 (v1:=Bo (decide ((list.length : Int) ≥ 1))) Tryz.results148 rfl ?_)))))))
 obtain rfl:=so hF
 exact ⟨rfl,(Star.down Z l7 c0)⟩
theorem s_l6Linear_c {r_ : Rule} {v0_1 : Value} {v0_2 : Value} {v0_4 : Value} {H : FH} {w : World} (Z : Star H w []) (h0_1 : (rS 3 RP.int).rel H [v0_1] r_.vars) (h0_2 : (rS 3 RP.int).rel H [v0_2] r_.coefs) (h0_4 : (rS 23 (rS 3 RP.int)).rel H [v0_4] r_.rows) {r : Bool} (hF : s_l6Linear r_ = some r) :
 C Tryz.prog 149 #[.agg #[I r_.kind,v0_1,v0_2,I r_.bound,v0_4]] w fun v w'=>v = Bo r∧Star H w' []:=by
 unfold s_l6Linear at hF
 refine C_enter Tryz.func149 rfl Tryz.ntmps149 rfl (sq (L_box (v:=.agg #[I r_.kind,v0_1,v0_2,I r_.bound,v0_4]) (cs:=#[I r_.kind,v0_1,v0_2,I r_.bound,v0_4]) rfl rfl rfl Z (fun g3 w4 Z=>aB rfl (nq (sq (aI rfl (nn ?_)))))))
 have hlen6 : List.length r_.coefs≤9223372036854775807:=len_le (slice_len h0_2)
 obtain ⟨j6,hL6,hF⟩:=bind_some hF
 obtain ⟨R6,hR6⟩:=exR fun f w_=>j6 = .nx ()∧f 1 = Pt g3∧Star H w_ ([box g3 79 #[I r_.kind,v0_1,v0_2,I r_.bound,v0_4]])
 refine W_join R6 ?_ ?_
 refine W_block ?_
 obtain ⟨I6,hI6⟩:=exI fun n f w_=>∃ i_5 : Nat,∃ suf6 : List Int,n = suf6.length∧List.drop i_5 r_.coefs = suf6∧i_5 + suf6.length = r_.coefs.length∧rangeL s_l6Linear_b1 suf6 i_5 () = some j6∧f 1 = Pt g3∧f 3 = I i_5∧Star H w_ ([box g3 79 #[I r_.kind,v0_1,v0_2,I r_.bound,v0_4]])
 refine W_loop I6 (n:=r_.coefs.length) ?_ ?_
 exact ij hI6 ⟨0,r_.coefs,rfl,rfl,Nat.zero_add _,hL6,rfl,rfl,Z⟩
 intro n6 f w_ hI
 obtain ⟨i_5,suf6,rfl,hd6,hl6,hL6,sf1,sf3,Z⟩:=ik hI6 hI
 refine W_seq (sq (mF sf3 rfl (fA 2 fa_79_2 sf1 rfl (ldB 0 Z Tryz.isAgg23 rfl rfl rfl (L_len rfl Tryz.underlying23 rfl (slice_len h0_2) (L_lss rfl rfl rfl (nn (W_cond (b:=decide ((i_5 : Int) < (r_.coefs.length : Int))) rfl (fun hc7=>?_) (fun hc7=>?_)))))))))
 have hlt6:=of_decide_eq_true hc7
 rcases suf6 with _ | ⟨x_6,rest6⟩
 exact absurd hlt6 (by simp at hl6; omega)
 obtain ⟨o6,hB6,hL6⟩:=range_cons hL6
 rw [s_l6Linear_b1] at hB6
 have hix6:=drop_idx hd6
 refine W_skip (W_seq (W_block (W_seq ?_)))
 obtain ⟨R20,hR20⟩:=exR fun f w_=>f 1 = Pt g3∧f 3 = I i_5∧f 32 = Bo (((decide (x_6 < (-9))) || (decide (x_6 > 9))) || (x_6 == 0))∧Star H w_ ([box g3 79 #[I r_.kind,v0_1,v0_2,I r_.bound,v0_4]])
 refine W_join R20 ?_ ?_
 refine W_region (fA 2 fa_79_2 sf1 rfl (ldB 0 Z Tryz.isAgg23 rfl rfl rfl (mF sf3 rfl (L_ix (r:=RP.int) rfl Tryz.underlying23 Tryz.sizeOf3 rfl h0_2 rfl hix6 (fun g21 o22 cs_g21 hrk_hat23 hat23=>?_)))))
 obtain rfl : _ = [_]:=hrk_hat23
 refine L_ld rfl Tryz.isAgg3 rfl (At.cell (AtH.at hat23 Z.sub) (j:=0) rfl) (L_lss rfl rfl rfl (mB rfl (L_split (d:=17) (b:=decide (x_6 < (-9))) rfl (fun hc25=>?_) (fun hc25=>?_))))
 refine ps rfl (ps rfl (ps rfl (ps rfl (ps rfl (ps rfl (L_pick (v:=Bo ((decide (x_6 < (-9))) || (decide (x_6 > 9)))) rfl rfl (or_t hc25) (mB rfl (L_split (d:=25) (b:=((decide (x_6 < (-9))) || (decide (x_6 > 9)))) rfl (fun hc26=>?_) (fun hc26=>?_)))))))))
 refine ps rfl (ps rfl (ps rfl (ps rfl (ps rfl (ps rfl (L_pick (v:=Bo (((decide (x_6 < (-9))) || (decide (x_6 > 9))) || (x_6 == 0))) rfl rfl (or_t hc26) (nn (rj hR20 ⟨sf1,sf3,rfl,Z⟩))))))))
 refine fA 2 fa_79_2 sf1 rfl (ldB 0 Z Tryz.isAgg23 rfl rfl rfl (mF sf3 rfl (L_ix (r:=RP.int) rfl Tryz.underlying23 Tryz.sizeOf3 rfl h0_2 rfl hix6 (fun g27 o28 cs_g27 hrk_hat29 hat29=>?_))))
 obtain rfl : _ = [_]:=hrk_hat29
 refine L_ld rfl Tryz.isAgg3 rfl (At.cell (AtH.at hat29 Z.sub) (j:=0) rfl) (L_eql rfl rfl rfl (L_pick (v:=Bo (((decide (x_6 < (-9))) || (decide (x_6 > 9))) || (x_6 == 0))) rfl rfl (or_f hc26 rfl) (nn (rj hR20 ⟨sf1,sf3,rfl,Z⟩))))
 refine fA 2 fa_79_2 sf1 rfl (ldB 0 Z Tryz.isAgg23 rfl rfl rfl (mF sf3 rfl (L_ix (r:=RP.int) rfl Tryz.underlying23 Tryz.sizeOf3 rfl h0_2 rfl hix6 (fun g31 o32 cs_g31 hrk_hat33 hat33=>?_))))
 obtain rfl : _ = [_]:=hrk_hat33
 refine L_ld rfl Tryz.isAgg3 rfl (At.cell (AtH.at hat33 Z.sub) (j:=0) rfl) (L_gtr rfl rfl rfl (L_pick (v:=Bo ((decide (x_6 < (-9))) || (decide (x_6 > 9)))) rfl rfl (or_f hc25 rfl) (mB rfl (L_split (d:=25) (b:=((decide (x_6 < (-9))) || (decide (x_6 > 9)))) rfl (fun hc35=>?_) (fun hc35=>?_)))))
 refine ps rfl (ps rfl (ps rfl (ps rfl (ps rfl (ps rfl (L_pick (v:=Bo (((decide (x_6 < (-9))) || (decide (x_6 > 9))) || (x_6 == 0))) rfl rfl (or_t hc35) (nn (rj hR20 ⟨sf1,sf3,rfl,Z⟩))))))))
 refine fA 2 fa_79_2 sf1 rfl (ldB 0 Z Tryz.isAgg23 rfl rfl rfl (mF sf3 rfl (L_ix (r:=RP.int) rfl Tryz.underlying23 Tryz.sizeOf3 rfl h0_2 rfl hix6 (fun g36 o37 cs_g36 hrk_hat38 hat38=>?_))))
 obtain rfl : _ = [_]:=hrk_hat38
 refine L_ld rfl Tryz.isAgg3 rfl (At.cell (AtH.at hat38 Z.sub) (j:=0) rfl) (L_eql rfl rfl rfl (L_pick (v:=Bo (((decide (x_6 < (-9))) || (decide (x_6 > 9))) || (x_6 == 0))) rfl rfl (or_f hc35 rfl) (nn (rj hR20 ⟨sf1,sf3,rfl,Z⟩))))
 intro f w_ hR
 obtain ⟨sf1,sf3,sf32,Z⟩:=rk hR20 hR
 refine W_cond (b:=(((decide (x_6 < (-9))) || (decide (x_6 > 9))) || (x_6 == 0))) sf32 (fun hc40=>?_) (fun hc40=>?_)
 have hB6:=(ite_t hc40).symm.trans hB6
 refine sq (aB rfl (nn (W_ret (retG1 (v1:=Bo false) Tryz.results149 rfl ?_))))
 obtain rfl:=so hB6
 obtain rfl:=so hL6
 obtain rfl:=so hF
 exact ⟨rfl,(Star.keepN 0 Z)⟩
 have hB6:=(ite_f hc40).symm.trans hB6
 refine W_skip (W_region (mF sf3 rfl (L_add rfl rfl rfl (aI rfl (nn ?_)))))
 obtain rfl:=so hB6
 show ∃ m,m < _∧I6 m _ _
 refine ⟨rest6.length,by simp,?_⟩
 exact ij hI6 ⟨i_5 + 1,rest6,rfl,drop_next hd6,by simp at hl6; omega,hL6,sf1,(Eq.trans rfl (congrArg (Value.int .i64) (i64_succ (n:=r_.coefs.length) (by simp at hl6; omega) hlen6))),Z⟩
 rcases suf6 with _ | ⟨_,_⟩
 obtain rfl:=range_nil hL6
 refine W_exit (rj hR6 ⟨rfl,sf1,Z⟩)
 exact absurd (of_decide_eq_false hc7) (by simp at hl6; omega)
 intro f w_ hR
 obtain ⟨rfl,sf1,Z⟩:=rk hR6 hR
 refine W_seq ?_
 obtain ⟨R41,hR41⟩:=exR fun f w_=>f 2 = Bo ((((r_.coefs.length : Int) == (r_.vars.length : Int)) && (decide (r_.bound ≥ (-1000)))) && (decide (r_.bound≤1000)))∧Star H w_ ([])
 refine W_join R41 ?_ ?_
 refine W_region (fA 2 fa_79_2 sf1 rfl (ldB 0 Z Tryz.isAgg23 rfl rfl rfl (L_len rfl Tryz.underlying23 rfl (slice_len h0_2) (fA 1 fa_79_1 sf1 rfl (ldB 0 Z Tryz.isAgg23 rfl rfl rfl (L_len rfl Tryz.underlying23 rfl (slice_len h0_1) (L_eql rfl rfl rfl (mB rfl (L_split (d:=40) (b:=((r_.coefs.length : Int) == (r_.vars.length : Int))) rfl (fun hc42=>?_) (fun hc42=>?_))))))))))
 refine fA 3 fa_79_3 sf1 rfl (ldB 0 Z Tryz.isAgg3 rfl rfl rfl (L_geq rfl rfl rfl (L_pick (v:=Bo (((r_.coefs.length : Int) == (r_.vars.length : Int)) && (decide (r_.bound ≥ (-1000))))) rfl rfl (and_t hc42 rfl) (mB rfl (L_split (d:=45) (b:=(((r_.coefs.length : Int) == (r_.vars.length : Int)) && (decide (r_.bound ≥ (-1000))))) rfl (fun hc43=>?_) (fun hc43=>?_))))))
 refine fA 3 fa_79_3 sf1 rfl (ldB 0 Z Tryz.isAgg3 rfl rfl rfl (L_leq rfl rfl rfl (L_pick (v:=Bo ((((r_.coefs.length : Int) == (r_.vars.length : Int)) && (decide (r_.bound ≥ (-1000)))) && (decide (r_.bound≤1000)))) rfl rfl (and_t hc43 rfl) (aB rfl (nn (rj hR41 ⟨rfl,(Star.keepN 0 Z)⟩))))))
 refine ps rfl (ps rfl (ps rfl (L_pick (v:=Bo ((((r_.coefs.length : Int) == (r_.vars.length : Int)) && (decide (r_.bound ≥ (-1000)))) && (decide (r_.bound≤1000)))) rfl rfl (and_f hc43) (aB rfl (nn (rj hR41 ⟨rfl,(Star.keepN 0 Z)⟩))))))
 refine ps rfl (ps rfl (ps rfl (L_pick (v:=Bo (((r_.coefs.length : Int) == (r_.vars.length : Int)) && (decide (r_.bound ≥ (-1000))))) rfl rfl (and_f hc42) (mB rfl (L_split (d:=45) (b:=(((r_.coefs.length : Int) == (r_.vars.length : Int)) && (decide (r_.bound ≥ (-1000))))) rfl (fun hc44=>?_) (fun hc44=>?_))))))
 refine fA 3 fa_79_3 sf1 rfl (ldB 0 Z Tryz.isAgg3 rfl rfl rfl (L_leq rfl rfl rfl (L_pick (v:=Bo ((((r_.coefs.length : Int) == (r_.vars.length : Int)) && (decide (r_.bound ≥ (-1000)))) && (decide (r_.bound≤1000)))) rfl rfl (and_t hc44 rfl) (aB rfl (nn (rj hR41 ⟨rfl,(Star.keepN 0 Z)⟩))))))
 refine ps rfl (ps rfl (ps rfl (L_pick (v:=Bo ((((r_.coefs.length : Int) == (r_.vars.length : Int)) && (decide (r_.bound ≥ (-1000)))) && (decide (r_.bound≤1000)))) rfl rfl (and_f hc44) (aB rfl (nn (rj hR41 ⟨rfl,(Star.keepN 0 Z)⟩))))))
 intro f w_ hR
 obtain ⟨sf2,Z⟩:=rk hR41 hR
 refine W_ret (retG1 (v1:=Bo ((((r_.coefs.length : Int) == (r_.vars.length : Int)) && (decide (r_.bound ≥ (-1000)))) && (decide (r_.bound≤1000)))) Tryz.results149 sf2 ?_)
 obtain rfl:=so hF
 exact ⟨rfl,Z⟩
theorem s_l6Table_c {r_ : Rule} {v0_1 : Value} {v0_2 : Value} {v0_4 : Value} {H : FH} {w : World} (Z : Star H w []) (h0_1 : (rS 3 RP.int).rel H [v0_1] r_.vars) (h0_2 : (rS 3 RP.int).rel H [v0_2] r_.coefs) (h0_4 : (rS 23 (rS 3 RP.int)).rel H [v0_4] r_.rows) {r : Bool} (hF : s_l6Table r_ = some r) :
 C Tryz.prog 150 #[.agg #[I r_.kind,v0_1,v0_2,I r_.bound,v0_4]] w fun v w'=>v = Bo r∧Star H w' []:=by
 unfold s_l6Table at hF
 refine C_enter Tryz.func150 rfl Tryz.ntmps150 rfl (sq (L_box (v:=.agg #[I r_.kind,v0_1,v0_2,I r_.bound,v0_4]) (cs:=#[I r_.kind,v0_1,v0_2,I r_.bound,v0_4]) rfl rfl rfl Z (fun g3 w4 Z=>aB rfl (nq (sq (aI rfl (nn ?_)))))))
 have hlen8 : List.length r_.rows≤9223372036854775807:=len_le (slice_len h0_4)
 obtain ⟨j8,hL8,hF⟩:=bind_some hF
 obtain ⟨R8,hR8⟩:=exR fun f w_=>∃ H6 : FH,j8 = .nx ()∧Le H H6∧f 1 = Pt g3∧Star H6 w_ ([box g3 79 #[I r_.kind,v0_1,v0_2,I r_.bound,v0_4]])
 refine W_join R8 ?_ ?_
 refine W_block ?_
 obtain ⟨I8,hI8⟩:=exI fun n f w_=>∃ i_5 : Nat,∃ suf8 : List (List Int),∃ H6 : FH,n = suf8.length∧List.drop i_5 r_.rows = suf8∧i_5 + suf8.length = r_.rows.length∧rangeL (s_l6Table_b1 r_) suf8 i_5 () = some j8∧Le H H6∧f 1 = Pt g3∧f 3 = I i_5∧Star H6 w_ ([box g3 79 #[I r_.kind,v0_1,v0_2,I r_.bound,v0_4]])
 refine W_loop I8 (n:=r_.rows.length) ?_ ?_
 exact ij hI8 ⟨0,r_.rows,H,rfl,rfl,Nat.zero_add _,hL8,(Le.refl _),rfl,rfl,Z⟩
 intro n8 f w_ hI
 obtain ⟨i_5,suf8,H6,rfl,hd8,hl8,hL8,l7,sf1,sf3,Z⟩:=ik hI8 hI
 refine W_seq (sq (mF sf3 rfl (fA 4 fa_79_4 sf1 rfl (ldB 0 Z Tryz.isAgg77 rfl rfl rfl (L_len rfl Tryz.underlying77 rfl (slice_len (RP.mono _ h0_4 l7)) (L_lss rfl rfl rfl (nn (W_cond (b:=decide ((i_5 : Int) < (r_.rows.length : Int))) rfl (fun hc9=>?_) (fun hc9=>?_)))))))))
 have hlt8:=of_decide_eq_true hc9
 rcases suf8 with _ | ⟨x_8,rest8⟩
 exact absurd hlt8 (by simp at hl8; omega)
 obtain ⟨o8,hB8,hL8⟩:=range_cons hL8
 rw [s_l6Table_b1] at hB8
 have hix8:=drop_idx hd8
 refine W_skip (W_seq (W_block (W_seq (W_seq (W_drawS 9 [isV (Pq g3 4),isV (v0_4),isV (I i_5),isEl (rS 3 RP.int) x_8 0,isData (rS 3 RP.int) x_8,isV (I (x_8.length : Int)),isV (Pq g3 1),isV (v0_1),isV (I (r_.vars.length : Int))] [box g3 79 #[I r_.kind,v0_1,v0_2,I r_.bound,v0_4]] [] ([]) [([],[]),([],[]),([],[]),([],[]),([],[]),([],[]),([],[]),([],[]),([],[])] (S:=[]) Tryz_mix (by kernel_rfl) rfl (by kernel_rfl) (amF_cons (mono_V _) (amF_cons (mono_V _) (amF_cons (mono_V _) (amF_cons (mono_el _ _ _) (amF_cons (mono_data _ _) (amF_cons (mono_V _) (amF_cons (mono_V _) (amF_cons (mono_V _) (amF_cons (mono_V _) amF_nil))))))))) Z ?_ (fun f w_ H14 hS14 hE14 hT14 Z=>?_))))))
 refine opsS_cons (fun f w_ _ _ s _ _ Z=>fA 4 fa_79_4 ((s 1 rfl).trans sf1) rfl (nO rfl rfl Z)) (opsS_cons (fun f w_ _ _ _ _ p Z=>ldB 0 Z Tryz.isAgg77 (p 0 12 rfl rfl) rfl rfl (nO rfl rfl Z)) (opsS_cons (fun f w_ _ _ s _ _ Z=>mF ((s 3 rfl).trans sf3) rfl (nO rfl rfl Z)) (opsS_cons ?_ ?_)))
 intro f w_ H14 X14 hS14 hE14 hP14 Z
 refine L_ix (r:=(rS 3 RP.int)) rfl Tryz.underlying77 Tryz.sizeOf23 (hP14 1 13 rfl rfl) (RP.mono _ h0_4 (Le.trans l7 hE14)) (hP14 2 14 rfl rfl) hix8 (fun g19 o20 cs_g19 hrk_hat21 hat21=>?_)
 obtain ⟨u22,rfl,hu22⟩:=slice1 hrk_hat21
 exact L_nil ⟨rfl,_,_,rfl,Le.refl _,fun _ _=>⟨_,_,_,rfl,hrk_hat21,hat21⟩,Z⟩
 refine opsS_cons ?_ ?_
 intro f w_ H14 X14 hS14 hE14 hP14 Z
 obtain ⟨g23,o23,cs23,hv23,hrk_hat23,hat23⟩:=(hP14 3 15 rfl rfl)
 obtain ⟨u24,rfl,hu24⟩:=slice1 hrk_hat23
 refine L_ld rfl Tryz.isAgg23 hv23 (At.cell (AtH.at hat23 Z.sub) (j:=0) rfl) (L_nil ⟨rfl,_,_,rfl,Le.refl _,fun _ _=>hu24,Z⟩)
 refine opsS_cons ?_ ?_
 intro f w_ H14 X14 hS14 hE14 hP14 Z
 have hd25 : (rS 3 RP.int).rel H14 [f 16] x_8:=(hP14 4 16 rfl rfl)
 refine L_len rfl Tryz.underlying23 rfl (slice_len hd25) (L_nil ⟨rfl,_,_,rfl,Le.refl _,fun _ _=>rfl,Z⟩)
 refine opsS_cons (fun f w_ _ _ s _ _ Z=>fA 1 fa_79_1 ((s 1 rfl).trans sf1) rfl (nO rfl rfl Z)) (opsS_cons (fun f w_ _ _ _ _ p Z=>ldB 0 Z Tryz.isAgg23 (p 6 18 rfl rfl) rfl rfl (nO rfl rfl Z)) (opsS_cons (fun f w_ _ _ _ hE14 p Z=>L_len rfl Tryz.underlying23 (p 7 19 rfl rfl) (slice_len (RP.mono _ h0_1 (Le.trans l7 hE14))) (nO rfl rfl Z)) (opsS_nil)))
 refine L_neq rfl (hT14 5 17 rfl rfl) (hT14 8 20 rfl rfl) (nn (W_cond (b:=((x_8.length : Int) != (r_.vars.length : Int))) rfl (fun hc26=>?_) (fun hc26=>?_)))
 have hB8:=(ite_t hc26).symm.trans hB8
 refine sq (aB rfl (nn (W_ret (retG1 (v1:=Bo false) Tryz.results150 rfl ?_))))
 obtain rfl:=so hB8
 obtain rfl:=so hL8
 obtain rfl:=so hF
 exact ⟨rfl,(Star.down (Star.keepN 0 Z) (Le.trans l7 hE14) c0)⟩
 have hB8:=(ite_f hc26).symm.trans hB8
 refine W_skip (sq (aI rfl (nn ?_)))
 obtain ⟨k29,hk29,hB8⟩:=bind_some hB8
 obtain ⟨j28,hL28,hB8⟩:=bind_some hB8
 obtain ⟨R28,hR28⟩:=exR fun f w_=>j28 = .nx ()∧f 1 = Pt g3∧f 3 = I i_5∧Star H14 w_ ([box g3 79 #[I r_.kind,v0_1,v0_2,I r_.bound,v0_4]])
 refine W_join R28 ?_ ?_
 refine W_block ?_
 obtain ⟨I28,hI28⟩:=exI fun n f w_=>∃ i_27 : Nat,∃ suf28 : Nat,suf28 = n∧0≤i_27∧i_27 + suf28 = 0 + k29∧countL (s_l6Table_b2 x_8) suf28 i_27 () = some j28∧f 1 = Pt g3∧f 3 = I i_5∧f 4 = I i_27∧Star H14 w_ ([box g3 79 #[I r_.kind,v0_1,v0_2,I r_.bound,v0_4]])
 refine W_loop I28 (n:=k29) ?_ ?_
 exact ij hI28 ⟨0,k29,rfl,Nat.le_refl _,rfl,hL28,((hS14 1 rfl).trans sf1),((hS14 3 rfl).trans sf3),rfl,Z⟩
 intro n28 f w_ hI
 obtain ⟨i_27,suf28,rfl,hs28,hl28,hL28,sf1,sf3,sf4,Z⟩:=ik hI28 hI
 refine W_seq (sq (mF sf4 rfl (fA 4 fa_79_4 sf1 rfl (ldB 0 Z Tryz.isAgg77 rfl rfl rfl (mF sf3 rfl (L_ix (r:=(rS 3 RP.int)) rfl Tryz.underlying77 Tryz.sizeOf23 rfl (RP.mono _ h0_4 (Le.trans l7 hE14)) rfl hix8 (fun g34 o35 cs_g34 hrk_hat36 hat36=>?_)))))))
 obtain ⟨u37,rfl,hu37⟩:=slice1 hrk_hat36
 refine L_ld rfl Tryz.isAgg23 rfl (At.cell (AtH.at hat36 Z.sub) (j:=0) rfl) (L_len rfl Tryz.underlying23 rfl (slice_len hu37) (L_lss rfl rfl rfl (nn (W_cond (b:=decide ((i_27 : Int) < (x_8.length : Int))) rfl (fun hc38=>?_) (fun hc38=>?_)))))
 have hlt28:=of_decide_eq_true hc38
 rcases suf28 with _ | rest28
 exact absurd hlt28 (cntF_no hl28 hk29)
 obtain ⟨o28,hB28,hL28⟩:=count_succ hL28
 rw [s_l6Table_b2] at hB28
 refine W_skip (W_seq (W_block (W_seq ?_)))
 obtain ⟨x43,hx43,hB28⟩:=bind_some hB28
 obtain ⟨R56,hR56⟩:=exR fun f w_=>f 1 = Pt g3∧f 3 = I i_5∧f 4 = I i_27∧f 51 = Bo ((decide (x43 < 0)) || (decide (x43 > 3)))∧Star H14 w_ ([box g3 79 #[I r_.kind,v0_1,v0_2,I r_.bound,v0_4]])
 refine W_join R56 ?_ ?_
 refine W_region (fA 4 fa_79_4 sf1 rfl (ldB 0 Z Tryz.isAgg77 rfl rfl rfl (mF sf3 rfl (L_ix (r:=(rS 3 RP.int)) rfl Tryz.underlying77 Tryz.sizeOf23 rfl (RP.mono _ h0_4 (Le.trans l7 hE14)) rfl hix8 (fun g57 o58 cs_g57 hrk_hat59 hat59=>?_)))))
 obtain ⟨u60,rfl,hu60⟩:=slice1 hrk_hat59
 refine L_ld rfl Tryz.isAgg23 rfl (At.cell (AtH.at hat59 Z.sub) (j:=0) rfl) (mF sf4 rfl (L_ix (r:=RP.int) rfl Tryz.underlying23 Tryz.sizeOf3 rfl hu60 rfl hx43 (fun g61 o62 cs_g61 hrk_hat63 hat63=>?_)))
 obtain rfl : _ = [_]:=hrk_hat63
 refine L_ld rfl Tryz.isAgg3 rfl (At.cell (AtH.at hat63 Z.sub) (j:=0) rfl) (L_lss rfl rfl rfl (mB rfl (L_split (d:=41) (b:=decide (x43 < 0)) rfl (fun hc65=>?_) (fun hc65=>?_))))
 refine ps rfl (ps rfl (ps rfl (ps rfl (ps rfl (ps rfl (ps rfl (ps rfl (ps rfl (L_pick (v:=Bo ((decide (x43 < 0)) || (decide (x43 > 3)))) rfl rfl (or_t hc65) (nn (rj hR56 ⟨sf1,sf3,sf4,rfl,Z⟩)))))))))))
 refine fA 4 fa_79_4 sf1 rfl (ldB 0 Z Tryz.isAgg77 rfl rfl rfl (mF sf3 rfl (L_ix (r:=(rS 3 RP.int)) rfl Tryz.underlying77 Tryz.sizeOf23 rfl (RP.mono _ h0_4 (Le.trans l7 hE14)) rfl hix8 (fun g66 o67 cs_g66 hrk_hat68 hat68=>?_))))
 obtain ⟨u69,rfl,hu69⟩:=slice1 hrk_hat68
 refine L_ld rfl Tryz.isAgg23 rfl (At.cell (AtH.at hat68 Z.sub) (j:=0) rfl) (mF sf4 rfl (L_ix (r:=RP.int) rfl Tryz.underlying23 Tryz.sizeOf3 rfl hu69 rfl hx43 (fun g70 o71 cs_g70 hrk_hat72 hat72=>?_)))
 obtain rfl : _ = [_]:=hrk_hat72
 refine L_ld rfl Tryz.isAgg3 rfl (At.cell (AtH.at hat72 Z.sub) (j:=0) rfl) (L_gtr rfl rfl rfl (L_pick (v:=Bo ((decide (x43 < 0)) || (decide (x43 > 3)))) rfl rfl (or_f hc65 rfl) (nn (rj hR56 ⟨sf1,sf3,sf4,rfl,Z⟩))))
 intro f w_ hR
 obtain ⟨sf1,sf3,sf4,sf51,Z⟩:=rk hR56 hR
 refine W_cond (b:=((decide (x43 < 0)) || (decide (x43 > 3)))) sf51 (fun hc74=>?_) (fun hc74=>?_)
 have hB28:=(ite_t hc74).symm.trans hB28
 refine sq (aB rfl (nn (W_ret (retG1 (v1:=Bo false) Tryz.results150 rfl ?_))))
 obtain rfl:=so hB28
 obtain rfl:=so hL28
 obtain rfl:=so hB8
 obtain rfl:=so hL8
 obtain rfl:=so hF
 exact ⟨rfl,(Star.down (Star.keepN 0 Z) (Le.trans l7 hE14) c0)⟩
 have hB28:=(ite_f hc74).symm.trans hB28
 refine W_skip (W_region (mF sf4 rfl (L_add rfl rfl rfl (aI rfl (nn ?_)))))
 obtain rfl:=so hB28
 show ∃ m,m < _∧I28 m _ _
 refine ⟨rest28,Nat.lt_succ_self _,?_⟩
 exact ij hI28 ⟨i_27 + 1,rest28,rfl,by omega,by omega,hL28,sf1,sf3,(Eq.trans rfl (congrArg (Value.int .i64) (i64_succ (n:=0 + k29) (by omega) (cntF_le hk29)))),Z⟩
 rcases suf28 with _ | _
 obtain rfl:=count_zero hL28
 refine W_exit (rj hR28 ⟨rfl,sf1,sf3,Z⟩)
 exact absurd (cntF_yes hs28 hl28 hk29) (of_decide_eq_false hc38)
 intro f w_ hR
 obtain ⟨rfl,sf1,sf3,Z⟩:=rk hR28 hR
 refine W_region (mF sf3 rfl (L_add rfl rfl rfl (aI rfl (nn ?_))))
 obtain rfl:=so hB8
 show ∃ m,m < _∧I8 m _ _
 refine ⟨rest8.length,by simp,?_⟩
 exact ij hI8 ⟨i_5 + 1,rest8,H14,rfl,drop_next hd8,by simp at hl8; omega,hL8,(Le.trans l7 hE14),sf1,(Eq.trans rfl (congrArg (Value.int .i64) (i64_succ (n:=r_.rows.length) (by simp at hl8; omega) hlen8))),Z⟩
 rcases suf8 with _ | ⟨_,_⟩
 obtain rfl:=range_nil hL8
 refine W_exit (rj hR8 ⟨H6,rfl,l7,sf1,Z⟩)
 exact absurd (of_decide_eq_false hc9) (by simp at hl8; omega)
 intro f w_ hR
 obtain ⟨H6,rfl,l7,sf1,Z⟩:=rk hR8 hR
 refine sq (fA 4 fa_79_4 sf1 rfl (ldB 0 Z Tryz.isAgg77 rfl rfl rfl (L_len rfl Tryz.underlying77 rfl (slice_len (RP.mono _ h0_4 l7)) (L_leq rfl rfl rfl (aB rfl (nn (W_ret (retG1 (v1:=Bo (decide ((r_.rows.length : Int)≤8))) Tryz.results150 rfl ?_))))))))
 obtain rfl:=so hF
 exact ⟨rfl,(Star.down (Star.keepN 0 Z) l7 c0)⟩
theorem s_l6Rule_c {m : Model} {r_ : Rule} {v0_0 : Value} {v0_1 : Value} {v1_1 : Value} {v1_2 : Value} {v1_4 : Value} {H : FH} {w : World} (Z : Star H w []) (h0_0 : (rS 3 RP.int).rel H [v0_0] m.sizes) (h0_1 : (rS 79 (rRule 3 23)).rel H [v0_1] m.rules) (h1_1 : (rS 3 RP.int).rel H [v1_1] r_.vars) (h1_2 : (rS 3 RP.int).rel H [v1_2] r_.coefs) (h1_4 : (rS 23 (rS 3 RP.int)).rel H [v1_4] r_.rows) {r : Bool} (hF : s_l6Rule m r_ = some r) :
 C Tryz.prog 106 #[.agg #[v0_0,v0_1],.agg #[I r_.kind,v1_1,v1_2,I r_.bound,v1_4]] w fun v w'=>v = Bo r∧Star H w' []:=by
 unfold s_l6Rule at hF
 refine C_enter Tryz.func106 rfl Tryz.ntmps106 rfl (sq (L_box (v:=.agg #[v0_0,v0_1]) (cs:=#[v0_0,v0_1]) rfl rfl rfl Z (fun g5 w6 Z=>L_box (v:=.agg #[I r_.kind,v1_1,v1_2,I r_.bound,v1_4]) (cs:=#[I r_.kind,v1_1,v1_2,I r_.bound,v1_4]) rfl rfl rfl Z (fun g7 w8 Z=>aB rfl (nq (W_seq ?_))))))
 obtain ⟨x14,hx14,hF⟩:=bind_some hF
 obtain ⟨R16,hR16⟩:=exR fun f w_=>f 3 = Pt g7∧f 36 = Bo (((!x14) || ((r_.kind != 1) && (((r_.coefs.length : Int) != 0) || (r_.bound != 0)))) || ((r_.kind != 3) && ((r_.rows.length : Int) != 0)))∧Star H w_ ([box g7 79 #[I r_.kind,v1_1,v1_2,I r_.bound,v1_4]])
 refine W_join R16 ?_ ?_
 refine W_region (L_lda (cs:=[v0_0,v0_1]) rfl Tryz.isAgg26 Tryz.sizeOf26 rfl (At.sub0 (Blk.at (Star.blkAt 1 Z rfl)) 0 2) rfl (fA 1 fa_79_1 rfl rfl (ldB 0 Z Tryz.isAgg23 rfl rfl rfl ?_)))
 obtain ⟨H17b,l18,s19,z20,k21⟩:=Z.borrow
 refine L_call rfl Tryz.call148 (ops2 rfl rfl) (s_l6Vars_c (m:=m) (list:=r_.vars) s19 (RP.mono _ h0_0 l18) (RP.mono _ h0_1 l18) (RP.mono _ h1_1 l18) hx14) ?_
 rintro _ w22 ⟨rfl,Z⟩
 have Z:=k21 Z c0
 refine L_not_ rfl rfl (mB rfl (L_split (d:=10) (b:=(!x14)) rfl (fun hc23=>?_) (fun hc23=>?_)))
 refine ps rfl (ps rfl (ps rfl (ps rfl (ps rfl (ps rfl (ps rfl (ps rfl (ps rfl (ps rfl (ps rfl (ps rfl (ps rfl (ps rfl (L_pick (v:=Bo ((!x14) || ((r_.kind != 1) && (((r_.coefs.length : Int) != 0) || (r_.bound != 0))))) rfl rfl (or_t hc23) (mB rfl (L_split (d:=26) (b:=((!x14) || ((r_.kind != 1) && (((r_.coefs.length : Int) != 0) || (r_.bound != 0))))) rfl (fun hc24=>?_) (fun hc24=>?_)))))))))))))))))
 refine ps rfl (ps rfl (ps rfl (ps rfl (ps rfl (ps rfl (ps rfl (ps rfl (ps rfl (L_pick (v:=Bo (((!x14) || ((r_.kind != 1) && (((r_.coefs.length : Int) != 0) || (r_.bound != 0)))) || ((r_.kind != 3) && ((r_.rows.length : Int) != 0)))) rfl rfl (or_t hc24) (nn (rj hR16 ⟨rfl,rfl,(Star.keepN 1 Z)⟩)))))))))))
 refine fA 0 fa_79_0 rfl rfl (ldB 0 Z Tryz.isAgg3 rfl rfl rfl (L_neq rfl rfl rfl (mB rfl (L_split (d:=30) (b:=(r_.kind != 3)) rfl (fun hc25=>?_) (fun hc25=>?_)))))
 refine fA 4 fa_79_4 rfl rfl (ldB 0 Z Tryz.isAgg77 rfl rfl rfl (L_len rfl Tryz.underlying77 rfl (slice_len h1_4) (L_neq rfl rfl rfl (L_pick (v:=Bo ((r_.kind != 3) && ((r_.rows.length : Int) != 0))) rfl rfl (and_t hc25 rfl) (L_pick (v:=Bo (((!x14) || ((r_.kind != 1) && (((r_.coefs.length : Int) != 0) || (r_.bound != 0)))) || ((r_.kind != 3) && ((r_.rows.length : Int) != 0)))) rfl rfl (or_f hc24 rfl) (nn (rj hR16 ⟨rfl,rfl,(Star.keepN 1 Z)⟩)))))))
 refine ps rfl (ps rfl (ps rfl (ps rfl (L_pick (v:=Bo ((r_.kind != 3) && ((r_.rows.length : Int) != 0))) rfl rfl (and_f hc25) (L_pick (v:=Bo (((!x14) || ((r_.kind != 1) && (((r_.coefs.length : Int) != 0) || (r_.bound != 0)))) || ((r_.kind != 3) && ((r_.rows.length : Int) != 0)))) rfl rfl (or_f hc24 rfl) (nn (rj hR16 ⟨rfl,rfl,(Star.keepN 1 Z)⟩)))))))
 refine fA 0 fa_79_0 rfl rfl (ldB 0 Z Tryz.isAgg3 rfl rfl rfl (L_neq rfl rfl rfl (mB rfl (L_split (d:=14) (b:=(r_.kind != 1)) rfl (fun hc26=>?_) (fun hc26=>?_)))))
 refine fA 2 fa_79_2 rfl rfl (ldB 0 Z Tryz.isAgg23 rfl rfl rfl (L_len rfl Tryz.underlying23 rfl (slice_len h1_2) (L_neq rfl rfl rfl (mB rfl (L_split (d:=19) (b:=((r_.coefs.length : Int) != 0)) rfl (fun hc27=>?_) (fun hc27=>?_))))))
 refine ps rfl (ps rfl (ps rfl (L_pick (v:=Bo (((r_.coefs.length : Int) != 0) || (r_.bound != 0))) rfl rfl (or_t hc27) (L_pick (v:=Bo ((r_.kind != 1) && (((r_.coefs.length : Int) != 0) || (r_.bound != 0)))) rfl rfl (and_t hc26 rfl) (L_pick (v:=Bo ((!x14) || ((r_.kind != 1) && (((r_.coefs.length : Int) != 0) || (r_.bound != 0))))) rfl rfl (or_f hc23 rfl) (mB rfl (L_split (d:=26) (b:=((!x14) || ((r_.kind != 1) && (((r_.coefs.length : Int) != 0) || (r_.bound != 0))))) rfl (fun hc28=>?_) (fun hc28=>?_))))))))
 refine ps rfl (ps rfl (ps rfl (ps rfl (ps rfl (ps rfl (ps rfl (ps rfl (ps rfl (L_pick (v:=Bo (((!x14) || ((r_.kind != 1) && (((r_.coefs.length : Int) != 0) || (r_.bound != 0)))) || ((r_.kind != 3) && ((r_.rows.length : Int) != 0)))) rfl rfl (or_t hc28) (nn (rj hR16 ⟨rfl,rfl,(Star.keepN 1 Z)⟩)))))))))))
 refine fA 0 fa_79_0 rfl rfl (ldB 0 Z Tryz.isAgg3 rfl rfl rfl (L_neq rfl rfl rfl (mB rfl (L_split (d:=30) (b:=(r_.kind != 3)) rfl (fun hc29=>?_) (fun hc29=>?_)))))
 refine fA 4 fa_79_4 rfl rfl (ldB 0 Z Tryz.isAgg77 rfl rfl rfl (L_len rfl Tryz.underlying77 rfl (slice_len h1_4) (L_neq rfl rfl rfl (L_pick (v:=Bo ((r_.kind != 3) && ((r_.rows.length : Int) != 0))) rfl rfl (and_t hc29 rfl) (L_pick (v:=Bo (((!x14) || ((r_.kind != 1) && (((r_.coefs.length : Int) != 0) || (r_.bound != 0)))) || ((r_.kind != 3) && ((r_.rows.length : Int) != 0)))) rfl rfl (or_f hc28 rfl) (nn (rj hR16 ⟨rfl,rfl,(Star.keepN 1 Z)⟩)))))))
 refine ps rfl (ps rfl (ps rfl (ps rfl (L_pick (v:=Bo ((r_.kind != 3) && ((r_.rows.length : Int) != 0))) rfl rfl (and_f hc29) (L_pick (v:=Bo (((!x14) || ((r_.kind != 1) && (((r_.coefs.length : Int) != 0) || (r_.bound != 0)))) || ((r_.kind != 3) && ((r_.rows.length : Int) != 0)))) rfl rfl (or_f hc28 rfl) (nn (rj hR16 ⟨rfl,rfl,(Star.keepN 1 Z)⟩)))))))
 refine fA 3 fa_79_3 rfl rfl (ldB 0 Z Tryz.isAgg3 rfl rfl rfl (L_neq rfl rfl rfl (L_pick (v:=Bo (((r_.coefs.length : Int) != 0) || (r_.bound != 0))) rfl rfl (or_f hc27 rfl) (L_pick (v:=Bo ((r_.kind != 1) && (((r_.coefs.length : Int) != 0) || (r_.bound != 0)))) rfl rfl (and_t hc26 rfl) (L_pick (v:=Bo ((!x14) || ((r_.kind != 1) && (((r_.coefs.length : Int) != 0) || (r_.bound != 0))))) rfl rfl (or_f hc23 rfl) (mB rfl (L_split (d:=26) (b:=((!x14) || ((r_.kind != 1) && (((r_.coefs.length : Int) != 0) || (r_.bound != 0))))) rfl (fun hc30=>?_) (fun hc30=>?_))))))))
 refine ps rfl (ps rfl (ps rfl (ps rfl (ps rfl (ps rfl (ps rfl (ps rfl (ps rfl (L_pick (v:=Bo (((!x14) || ((r_.kind != 1) && (((r_.coefs.length : Int) != 0) || (r_.bound != 0)))) || ((r_.kind != 3) && ((r_.rows.length : Int) != 0)))) rfl rfl (or_t hc30) (nn (rj hR16 ⟨rfl,rfl,(Star.keepN 1 Z)⟩)))))))))))
 refine fA 0 fa_79_0 rfl rfl (ldB 0 Z Tryz.isAgg3 rfl rfl rfl (L_neq rfl rfl rfl (mB rfl (L_split (d:=30) (b:=(r_.kind != 3)) rfl (fun hc31=>?_) (fun hc31=>?_)))))
 refine fA 4 fa_79_4 rfl rfl (ldB 0 Z Tryz.isAgg77 rfl rfl rfl (L_len rfl Tryz.underlying77 rfl (slice_len h1_4) (L_neq rfl rfl rfl (L_pick (v:=Bo ((r_.kind != 3) && ((r_.rows.length : Int) != 0))) rfl rfl (and_t hc31 rfl) (L_pick (v:=Bo (((!x14) || ((r_.kind != 1) && (((r_.coefs.length : Int) != 0) || (r_.bound != 0)))) || ((r_.kind != 3) && ((r_.rows.length : Int) != 0)))) rfl rfl (or_f hc30 rfl) (nn (rj hR16 ⟨rfl,rfl,(Star.keepN 1 Z)⟩)))))))
 refine ps rfl (ps rfl (ps rfl (ps rfl (L_pick (v:=Bo ((r_.kind != 3) && ((r_.rows.length : Int) != 0))) rfl rfl (and_f hc31) (L_pick (v:=Bo (((!x14) || ((r_.kind != 1) && (((r_.coefs.length : Int) != 0) || (r_.bound != 0)))) || ((r_.kind != 3) && ((r_.rows.length : Int) != 0)))) rfl rfl (or_f hc30 rfl) (nn (rj hR16 ⟨rfl,rfl,(Star.keepN 1 Z)⟩)))))))
 refine ps rfl (ps rfl (ps rfl (ps rfl (ps rfl (ps rfl (ps rfl (ps rfl (ps rfl (L_pick (v:=Bo ((r_.kind != 1) && (((r_.coefs.length : Int) != 0) || (r_.bound != 0)))) rfl rfl (and_f hc26) (L_pick (v:=Bo ((!x14) || ((r_.kind != 1) && (((r_.coefs.length : Int) != 0) || (r_.bound != 0))))) rfl rfl (or_f hc23 rfl) (mB rfl (L_split (d:=26) (b:=((!x14) || ((r_.kind != 1) && (((r_.coefs.length : Int) != 0) || (r_.bound != 0))))) rfl (fun hc32=>?_) (fun hc32=>?_)))))))))))))
 refine ps rfl (ps rfl (ps rfl (ps rfl (ps rfl (ps rfl (ps rfl (ps rfl (ps rfl (L_pick (v:=Bo (((!x14) || ((r_.kind != 1) && (((r_.coefs.length : Int) != 0) || (r_.bound != 0)))) || ((r_.kind != 3) && ((r_.rows.length : Int) != 0)))) rfl rfl (or_t hc32) (nn (rj hR16 ⟨rfl,rfl,(Star.keepN 1 Z)⟩)))))))))))
 refine fA 0 fa_79_0 rfl rfl (ldB 0 Z Tryz.isAgg3 rfl rfl rfl (L_neq rfl rfl rfl (mB rfl (L_split (d:=30) (b:=(r_.kind != 3)) rfl (fun hc33=>?_) (fun hc33=>?_)))))
 refine fA 4 fa_79_4 rfl rfl (ldB 0 Z Tryz.isAgg77 rfl rfl rfl (L_len rfl Tryz.underlying77 rfl (slice_len h1_4) (L_neq rfl rfl rfl (L_pick (v:=Bo ((r_.kind != 3) && ((r_.rows.length : Int) != 0))) rfl rfl (and_t hc33 rfl) (L_pick (v:=Bo (((!x14) || ((r_.kind != 1) && (((r_.coefs.length : Int) != 0) || (r_.bound != 0)))) || ((r_.kind != 3) && ((r_.rows.length : Int) != 0)))) rfl rfl (or_f hc32 rfl) (nn (rj hR16 ⟨rfl,rfl,(Star.keepN 1 Z)⟩)))))))
 refine ps rfl (ps rfl (ps rfl (ps rfl (L_pick (v:=Bo ((r_.kind != 3) && ((r_.rows.length : Int) != 0))) rfl rfl (and_f hc33) (L_pick (v:=Bo (((!x14) || ((r_.kind != 1) && (((r_.coefs.length : Int) != 0) || (r_.bound != 0)))) || ((r_.kind != 3) && ((r_.rows.length : Int) != 0)))) rfl rfl (or_f hc32 rfl) (nn (rj hR16 ⟨rfl,rfl,(Star.keepN 1 Z)⟩)))))))
 intro f w_ hR
 obtain ⟨sf3,sf36,Z⟩:=rk hR16 hR
 refine W_cond (b:=(((!x14) || ((r_.kind != 1) && (((r_.coefs.length : Int) != 0) || (r_.bound != 0)))) || ((r_.kind != 3) && ((r_.rows.length : Int) != 0)))) sf36 (fun hc34=>?_) (fun hc34=>?_)
 have hF:=(ite_t hc34).symm.trans hF
 refine sq (aB rfl (nn (W_ret (retG1 (v1:=Bo false) Tryz.results106 rfl ?_))))
 obtain rfl:=so hF
 exact ⟨rfl,(Star.keepN 0 Z)⟩
 have hF:=(ite_f hc34).symm.trans hF
 refine W_skip (W_seq (sq (fA 0 fa_79_0 sf3 rfl (ldB 0 Z Tryz.isAgg3 rfl rfl rfl (nn (W_block (sq (L_eql rfl rfl rfl (aB rfl (nn (W_cond (b:=(r_.kind == 1)) rfl (fun hc35=>?_) (fun hc35=>?_))))))))))))
 have hF:=(ite_t hc35).symm.trans hF
 refine W_seq ?_
 obtain ⟨x41,hx41,hF⟩:=bind_some hF
 refine W_region (L_lda (cs:=[I r_.kind,v1_1,v1_2,I r_.bound,v1_4]) rfl Tryz.isAgg79 Tryz.sizeOf79 sf3 (At.sub0 (Blk.at (Star.blkAt 0 Z rfl)) 0 5) rfl ?_)
 obtain ⟨H43b,l44,s45,z46,k47⟩:=Z.borrow
 refine L_call rfl Tryz.call149 (ops1 rfl) (s_l6Linear_c (r_:=r_) s45 (RP.mono _ h1_1 l44) (RP.mono _ h1_2 l44) (RP.mono _ h1_4 l44) hx41) ?_
 rintro _ w48 ⟨rfl,Z⟩
 have Z:=k47 Z c0
 refine aB rfl (nn (W_ret (retG1 (v1:=Bo x41) Tryz.results106 rfl ?_)))
 obtain rfl:=so hF
 exact ⟨rfl,(Star.keepN 0 Z)⟩
 have hF:=(ite_f hc35).symm.trans hF
 refine sq (L_eql rfl rfl rfl (aB rfl (nn (W_cond (b:=(r_.kind == 2)) rfl (fun hc49=>?_) (fun hc49=>?_)))))
 have hF:=(ite_t hc49).symm.trans hF
 refine sq (aB rfl (nn (W_ret (retG1 (v1:=Bo true) Tryz.results106 rfl ?_))))
 obtain rfl:=so hF
 exact ⟨rfl,(Star.keepN 0 Z)⟩
 have hF:=(ite_f hc49).symm.trans hF
 refine sq (L_eql rfl rfl rfl (aB rfl (nn (W_cond (b:=(r_.kind == 3)) rfl (fun hc50=>?_) (fun hc50=>?_)))))
 have hF:=(ite_t hc50).symm.trans hF
 refine W_seq ?_
 obtain ⟨x56,hx56,hF⟩:=bind_some hF
 refine W_region (L_lda (cs:=[I r_.kind,v1_1,v1_2,I r_.bound,v1_4]) rfl Tryz.isAgg79 Tryz.sizeOf79 sf3 (At.sub0 (Blk.at (Star.blkAt 0 Z rfl)) 0 5) rfl ?_)
 obtain ⟨H58b,l59,s60,z61,k62⟩:=Z.borrow
 refine L_call rfl Tryz.call150 (ops1 rfl) (s_l6Table_c (r_:=r_) s60 (RP.mono _ h1_1 l59) (RP.mono _ h1_2 l59) (RP.mono _ h1_4 l59) hx56) ?_
 rintro _ w63 ⟨rfl,Z⟩
 have Z:=k62 Z c0
 refine aB rfl (nn (W_ret (retG1 (v1:=Bo x56) Tryz.results106 rfl ?_)))
 obtain rfl:=so hF
 exact ⟨rfl,(Star.keepN 0 Z)⟩
 have hF:=(ite_f hc50).symm.trans hF
 refine sq (L_eql rfl rfl rfl (aB rfl (nn (W_cond (b:=(r_.kind == 4)) rfl (fun hc64=>?_) (fun hc64=>?_)))))
 have hF:=(ite_t hc64).symm.trans hF
 refine sq (fA 1 fa_79_1 sf3 rfl (ldB 0 Z Tryz.isAgg23 rfl rfl rfl (L_len rfl Tryz.underlying23 rfl (slice_len h1_1) (L_eql rfl rfl rfl (aB rfl (nn (W_ret (retG1 (v1:=Bo ((r_.vars.length : Int) == 2)) Tryz.results106 rfl ?_))))))))
 obtain rfl:=so hF
 exact ⟨rfl,(Star.keepN 0 Z)⟩
 have hF:=(ite_f hc64).symm.trans hF
 refine W_skip (sq (aB rfl (nn (W_ret (retG1 (v1:=Bo false) Tryz.results106 rfl ?_)))))
 obtain rfl:=so hF
 exact ⟨rfl,(Star.keepN 0 Z)⟩
theorem s_ModelValid_c {fu : Nat} {m : Model} {v0_0 : Value} {v0_1 : Value} {H : FH} {w : World} (Z : Star H w []) (h0_0 : (rS 3 RP.int).rel H [v0_0] m.sizes) (h0_1 : (rS 79 (rRule 3 23)).rel H [v0_1] m.rules) {r : Bool} (hF : s_ModelValid fu m = some r) :
 C Tryz.prog 51 #[.agg #[v0_0,v0_1]] w fun v w'=>v = Bo r∧Star H w' []:=by
 unfold s_ModelValid at hF
 refine C_enter Tryz.func51 rfl Tryz.ntmps51 rfl (sq (L_box (v:=.agg #[v0_0,v0_1]) (cs:=#[v0_0,v0_1]) rfl rfl rfl Z (fun g3 w4 Z=>aB rfl (ns (aI rfl (nq (sq (aI rfl (nn ?_)))))))))
 obtain ⟨j10,hL10,hF⟩:=bind_some hF
 obtain ⟨R10,hR10⟩:=exR fun f w_=>∃ n_8 : Int,∃ i_9 : Int,j10 = .nx (n_8,i_9)∧f 1 = Pt g3∧f 3 = I n_8∧Star H w_ ([box g3 26 #[v0_0,v0_1]])
 refine W_join R10 ?_ ?_
 refine W_block ?_
 obtain ⟨I10,hI10⟩:=exI fun n f w_=>∃ n_8 : Int,∃ i_9 : Int,whileL (s_ModelValid_b1 m) n (n_8,i_9) = some j10∧f 1 = Pt g3∧f 3 = I n_8∧f 4 = I i_9∧Star H w_ ([box g3 26 #[v0_0,v0_1]])
 refine W_loop I10 (n:=fu) ?_ ?_
 exact ij hI10 ⟨0,0,hL10,rfl,rfl,rfl,Z⟩
 intro n10 f w_ hI
 obtain ⟨n_8,i_9,hL10,sf1,sf3,sf4,Z⟩:=ik hI10 hI
 rcases n10 with _ | n10
 exact (while_zero hL10).elim
 obtain ⟨o10,hB10,hL10⟩:=while_succ hL10
 rw [s_ModelValid_b1] at hB10
 refine W_seq (W_seq ?_)
 obtain ⟨R11,hR11⟩:=exR fun f w_=>f 1 = Pt g3∧f 3 = I n_8∧f 4 = I i_9∧f 14 = Bo ((decide (i_9 < (m.sizes.length : Int))) && (decide (i_9 < 5)))∧Star H w_ ([box g3 26 #[v0_0,v0_1]])
 refine W_join R11 ?_ ?_
 refine W_region (mF sf4 rfl (fA 0 fa_26_0 sf1 rfl (ldB 0 Z Tryz.isAgg23 rfl rfl rfl (L_len rfl Tryz.underlying23 rfl (slice_len h0_0) (L_lss rfl rfl rfl (mB rfl (L_split (d:=11) (b:=decide (i_9 < (m.sizes.length : Int))) rfl (fun hc12=>?_) (fun hc12=>?_))))))))
 refine mF sf4 rfl (L_lss rfl rfl rfl (L_pick (v:=Bo ((decide (i_9 < (m.sizes.length : Int))) && (decide (i_9 < 5)))) rfl rfl (and_t hc12 rfl) (nn (rj hR11 ⟨sf1,sf3,sf4,rfl,Z⟩))))
 refine ps rfl (ps rfl (L_pick (v:=Bo ((decide (i_9 < (m.sizes.length : Int))) && (decide (i_9 < 5)))) rfl rfl (and_f hc12) (nn (rj hR11 ⟨sf1,sf3,sf4,rfl,Z⟩))))
 intro f w_ hR
 obtain ⟨sf1,sf3,sf4,sf14,Z⟩:=rk hR11 hR
 refine W_cond (b:=((decide (i_9 < (m.sizes.length : Int))) && (decide (i_9 < 5)))) sf14 (fun hc13=>?_) (fun hc13=>?_)
 have hB10:=(ite_t hc13).symm.trans hB10
 refine W_skip (W_seq (W_block (W_seq (W_seq ?_))))
 obtain ⟨x14,hx14,hB10⟩:=bind_some hB10
 obtain ⟨R23,hR23⟩:=exR fun f w_=>f 1 = Pt g3∧f 3 = I n_8∧f 4 = I i_9∧f 30 = Bo ((decide (x14 < 0)) || (decide (x14 > 3)))∧Star H w_ ([box g3 26 #[v0_0,v0_1]])
 refine W_join R23 ?_ ?_
 refine W_region (fA 0 fa_26_0 sf1 rfl (ldB 0 Z Tryz.isAgg23 rfl rfl rfl (mF sf4 rfl (L_ix (r:=RP.int) rfl Tryz.underlying23 Tryz.sizeOf3 rfl h0_0 rfl hx14 (fun g24 o25 cs_g24 hrk_hat26 hat26=>?_)))))
 obtain rfl : _ = [_]:=hrk_hat26
 refine L_ld rfl Tryz.isAgg3 rfl (At.cell (AtH.at hat26 Z.sub) (j:=0) rfl) (L_lss rfl rfl rfl (mB rfl (L_split (d:=23) (b:=decide (x14 < 0)) rfl (fun hc28=>?_) (fun hc28=>?_))))
 refine ps rfl (ps rfl (ps rfl (ps rfl (ps rfl (ps rfl (L_pick (v:=Bo ((decide (x14 < 0)) || (decide (x14 > 3)))) rfl rfl (or_t hc28) (nn (rj hR23 ⟨sf1,sf3,sf4,rfl,Z⟩))))))))
 refine fA 0 fa_26_0 sf1 rfl (ldB 0 Z Tryz.isAgg23 rfl rfl rfl (mF sf4 rfl (L_ix (r:=RP.int) rfl Tryz.underlying23 Tryz.sizeOf3 rfl h0_0 rfl hx14 (fun g29 o30 cs_g29 hrk_hat31 hat31=>?_))))
 obtain rfl : _ = [_]:=hrk_hat31
 refine L_ld rfl Tryz.isAgg3 rfl (At.cell (AtH.at hat31 Z.sub) (j:=0) rfl) (L_gtr rfl rfl rfl (L_pick (v:=Bo ((decide (x14 < 0)) || (decide (x14 > 3)))) rfl rfl (or_f hc28 rfl) (nn (rj hR23 ⟨sf1,sf3,sf4,rfl,Z⟩))))
 intro f w_ hR
 obtain ⟨sf1,sf3,sf4,sf30,Z⟩:=rk hR23 hR
 refine W_cond (b:=((decide (x14 < 0)) || (decide (x14 > 3)))) sf30 (fun hc33=>?_) (fun hc33=>?_)
 have hB10:=(ite_t hc33).symm.trans hB10
 refine sq (aB rfl (nn (W_ret (retG1 (v1:=Bo false) Tryz.results51 rfl ?_))))
 obtain rfl:=so hB10
 obtain rfl:=so hL10
 obtain rfl:=so hF
 exact ⟨rfl,(Star.keepN 0 Z)⟩
 have hB10:=(ite_f hc33).symm.trans hB10
 refine W_skip (W_region (mF sf3 rfl (fA 0 fa_26_0 sf1 rfl (ldB 0 Z Tryz.isAgg23 rfl rfl rfl (mF sf4 rfl (L_ix (r:=RP.int) rfl Tryz.underlying23 Tryz.sizeOf3 rfl h0_0 rfl hx14 (fun g38 o39 cs_g38 hrk_hat40 hat40=>?_)))))))
 obtain rfl : _ = [_]:=hrk_hat40
 refine L_ld rfl Tryz.isAgg3 rfl (At.cell (AtH.at hat40 Z.sub) (j:=0) rfl) (L_add rfl rfl rfl (L_add rfl rfl rfl (aI rfl (nn (W_region (mF sf4 rfl (L_add rfl rfl rfl (aI rfl (nn ?_)))))))))
 obtain rfl:=so hB10
 show ∃ m,m < _∧I10 m _ _
 refine ⟨n10,Nat.lt_succ_self _,?_⟩
 exact ij hI10 ⟨i64 ((i64 (n_8 + x14)) + 1),i64 (i_9 + 1),hL10,sf1,rfl,rfl,Z⟩
 have hB10:=(ite_f hc13).symm.trans hB10
 refine W_exit ?_
 obtain rfl:=so hB10
 obtain rfl:=so hL10
 exact rj hR10 ⟨n_8,i_9,rfl,sf1,sf3,Z⟩
 intro f w_ hR
 obtain ⟨n_8,i_9,rfl,sf1,sf3,Z⟩:=rk hR10 hR
 refine W_seq (W_seq ?_)
 obtain ⟨R42,hR42⟩:=exR fun f w_=>f 1 = Pt g3∧f 58 = Bo ((((decide ((m.sizes.length : Int) < 1)) || (decide ((m.sizes.length : Int) > 5))) || (decide (n_8 > 12))) || (decide ((m.rules.length : Int) > 8)))∧Star H w_ ([box g3 26 #[v0_0,v0_1]])
 refine W_join R42 ?_ ?_
 refine W_region (fA 0 fa_26_0 sf1 rfl (ldB 0 Z Tryz.isAgg23 rfl rfl rfl (L_len rfl Tryz.underlying23 rfl (slice_len h0_0) (L_lss rfl rfl rfl (mB rfl (L_split (d:=43) (b:=decide ((m.sizes.length : Int) < 1)) rfl (fun hc43=>?_) (fun hc43=>?_)))))))
 refine ps rfl (ps rfl (ps rfl (ps rfl (L_pick (v:=Bo ((decide ((m.sizes.length : Int) < 1)) || (decide ((m.sizes.length : Int) > 5)))) rfl rfl (or_t hc43) (mB rfl (L_split (d:=49) (b:=((decide ((m.sizes.length : Int) < 1)) || (decide ((m.sizes.length : Int) > 5)))) rfl (fun hc44=>?_) (fun hc44=>?_)))))))
 refine ps rfl (ps rfl (L_pick (v:=Bo (((decide ((m.sizes.length : Int) < 1)) || (decide ((m.sizes.length : Int) > 5))) || (decide (n_8 > 12)))) rfl rfl (or_t hc44) (mB rfl (L_split (d:=53) (b:=(((decide ((m.sizes.length : Int) < 1)) || (decide ((m.sizes.length : Int) > 5))) || (decide (n_8 > 12)))) rfl (fun hc45=>?_) (fun hc45=>?_)))))
 refine ps rfl (ps rfl (ps rfl (ps rfl (L_pick (v:=Bo ((((decide ((m.sizes.length : Int) < 1)) || (decide ((m.sizes.length : Int) > 5))) || (decide (n_8 > 12))) || (decide ((m.rules.length : Int) > 8)))) rfl rfl (or_t hc45) (nn (rj hR42 ⟨sf1,rfl,Z⟩))))))
 refine fA 1 fa_26_1 sf1 rfl (ldB 0 Z Tryz.isAgg24 rfl rfl rfl (L_len rfl Tryz.underlying24 rfl (slice_len h0_1) (L_gtr rfl rfl rfl (L_pick (v:=Bo ((((decide ((m.sizes.length : Int) < 1)) || (decide ((m.sizes.length : Int) > 5))) || (decide (n_8 > 12))) || (decide ((m.rules.length : Int) > 8)))) rfl rfl (or_f hc45 rfl) (nn (rj hR42 ⟨sf1,rfl,Z⟩))))))
 refine mF sf3 rfl (L_gtr rfl rfl rfl (L_pick (v:=Bo (((decide ((m.sizes.length : Int) < 1)) || (decide ((m.sizes.length : Int) > 5))) || (decide (n_8 > 12)))) rfl rfl (or_f hc44 rfl) (mB rfl (L_split (d:=53) (b:=(((decide ((m.sizes.length : Int) < 1)) || (decide ((m.sizes.length : Int) > 5))) || (decide (n_8 > 12)))) rfl (fun hc46=>?_) (fun hc46=>?_)))))
 refine ps rfl (ps rfl (ps rfl (ps rfl (L_pick (v:=Bo ((((decide ((m.sizes.length : Int) < 1)) || (decide ((m.sizes.length : Int) > 5))) || (decide (n_8 > 12))) || (decide ((m.rules.length : Int) > 8)))) rfl rfl (or_t hc46) (nn (rj hR42 ⟨sf1,rfl,Z⟩))))))
 refine fA 1 fa_26_1 sf1 rfl (ldB 0 Z Tryz.isAgg24 rfl rfl rfl (L_len rfl Tryz.underlying24 rfl (slice_len h0_1) (L_gtr rfl rfl rfl (L_pick (v:=Bo ((((decide ((m.sizes.length : Int) < 1)) || (decide ((m.sizes.length : Int) > 5))) || (decide (n_8 > 12))) || (decide ((m.rules.length : Int) > 8)))) rfl rfl (or_f hc46 rfl) (nn (rj hR42 ⟨sf1,rfl,Z⟩))))))
 refine fA 0 fa_26_0 sf1 rfl (ldB 0 Z Tryz.isAgg23 rfl rfl rfl (L_len rfl Tryz.underlying23 rfl (slice_len h0_0) (L_gtr rfl rfl rfl (L_pick (v:=Bo ((decide ((m.sizes.length : Int) < 1)) || (decide ((m.sizes.length : Int) > 5)))) rfl rfl (or_f hc43 rfl) (mB rfl (L_split (d:=49) (b:=((decide ((m.sizes.length : Int) < 1)) || (decide ((m.sizes.length : Int) > 5)))) rfl (fun hc47=>?_) (fun hc47=>?_)))))))
 refine ps rfl (ps rfl (L_pick (v:=Bo (((decide ((m.sizes.length : Int) < 1)) || (decide ((m.sizes.length : Int) > 5))) || (decide (n_8 > 12)))) rfl rfl (or_t hc47) (mB rfl (L_split (d:=53) (b:=(((decide ((m.sizes.length : Int) < 1)) || (decide ((m.sizes.length : Int) > 5))) || (decide (n_8 > 12)))) rfl (fun hc48=>?_) (fun hc48=>?_)))))
 refine ps rfl (ps rfl (ps rfl (ps rfl (L_pick (v:=Bo ((((decide ((m.sizes.length : Int) < 1)) || (decide ((m.sizes.length : Int) > 5))) || (decide (n_8 > 12))) || (decide ((m.rules.length : Int) > 8)))) rfl rfl (or_t hc48) (nn (rj hR42 ⟨sf1,rfl,Z⟩))))))
 refine fA 1 fa_26_1 sf1 rfl (ldB 0 Z Tryz.isAgg24 rfl rfl rfl (L_len rfl Tryz.underlying24 rfl (slice_len h0_1) (L_gtr rfl rfl rfl (L_pick (v:=Bo ((((decide ((m.sizes.length : Int) < 1)) || (decide ((m.sizes.length : Int) > 5))) || (decide (n_8 > 12))) || (decide ((m.rules.length : Int) > 8)))) rfl rfl (or_f hc48 rfl) (nn (rj hR42 ⟨sf1,rfl,Z⟩))))))
 refine mF sf3 rfl (L_gtr rfl rfl rfl (L_pick (v:=Bo (((decide ((m.sizes.length : Int) < 1)) || (decide ((m.sizes.length : Int) > 5))) || (decide (n_8 > 12)))) rfl rfl (or_f hc47 rfl) (mB rfl (L_split (d:=53) (b:=(((decide ((m.sizes.length : Int) < 1)) || (decide ((m.sizes.length : Int) > 5))) || (decide (n_8 > 12)))) rfl (fun hc49=>?_) (fun hc49=>?_)))))
 refine ps rfl (ps rfl (ps rfl (ps rfl (L_pick (v:=Bo ((((decide ((m.sizes.length : Int) < 1)) || (decide ((m.sizes.length : Int) > 5))) || (decide (n_8 > 12))) || (decide ((m.rules.length : Int) > 8)))) rfl rfl (or_t hc49) (nn (rj hR42 ⟨sf1,rfl,Z⟩))))))
 refine fA 1 fa_26_1 sf1 rfl (ldB 0 Z Tryz.isAgg24 rfl rfl rfl (L_len rfl Tryz.underlying24 rfl (slice_len h0_1) (L_gtr rfl rfl rfl (L_pick (v:=Bo ((((decide ((m.sizes.length : Int) < 1)) || (decide ((m.sizes.length : Int) > 5))) || (decide (n_8 > 12))) || (decide ((m.rules.length : Int) > 8)))) rfl rfl (or_f hc49 rfl) (nn (rj hR42 ⟨sf1,rfl,Z⟩))))))
 intro f w_ hR
 obtain ⟨sf1,sf58,Z⟩:=rk hR42 hR
 refine W_cond (b:=((((decide ((m.sizes.length : Int) < 1)) || (decide ((m.sizes.length : Int) > 5))) || (decide (n_8 > 12))) || (decide ((m.rules.length : Int) > 8)))) sf58 (fun hc50=>?_) (fun hc50=>?_)
 have hF:=(ite_t hc50).symm.trans hF
 refine sq (aB rfl (nn (W_ret (retG1 (v1:=Bo false) Tryz.results51 rfl ?_))))
 obtain rfl:=so hF
 exact ⟨rfl,(Star.keepN 0 Z)⟩
 have hF:=(ite_f hc50).symm.trans hF
 refine W_skip (W_seq (sq (aI rfl (nn ?_))))
 have hlen54 : List.length m.rules≤9223372036854775807:=len_le (slice_len h0_1)
 obtain ⟨j54,hL54,hF⟩:=bind_some hF
 obtain ⟨R54,hR54⟩:=exR fun f w_=>∃ H52 : FH,j54 = .nx ()∧Le H H52∧Star H52 w_ ([])
 refine W_join R54 ?_ ?_
 refine W_block ?_
 obtain ⟨I54,hI54⟩:=exI fun n f w_=>∃ i_51 : Nat,∃ suf54 : List Rule,∃ H52 : FH,n = suf54.length∧List.drop i_51 m.rules = suf54∧i_51 + suf54.length = m.rules.length∧rangeL (s_ModelValid_b2 m) suf54 i_51 () = some j54∧Le H H52∧f 1 = Pt g3∧f 5 = I i_51∧Star H52 w_ ([box g3 26 #[v0_0,v0_1]])
 refine W_loop I54 (n:=m.rules.length) ?_ ?_
 exact ij hI54 ⟨0,m.rules,H,rfl,rfl,Nat.zero_add _,hL54,(Le.refl _),sf1,rfl,Z⟩
 intro n54 f w_ hI
 obtain ⟨i_51,suf54,H52,rfl,hd54,hl54,hL54,l53,sf1,sf5,Z⟩:=ik hI54 hI
 refine W_seq (sq (mF sf5 rfl (fA 1 fa_26_1 sf1 rfl (ldB 0 Z Tryz.isAgg24 rfl rfl rfl (L_len rfl Tryz.underlying24 rfl (slice_len (RP.mono _ h0_1 l53)) (L_lss rfl rfl rfl (nn (W_cond (b:=decide ((i_51 : Int) < (m.rules.length : Int))) rfl (fun hc55=>?_) (fun hc55=>?_)))))))))
 have hlt54:=of_decide_eq_true hc55
 rcases suf54 with _ | ⟨x_54,rest54⟩
 exact absurd hlt54 (by simp at hl54; omega)
 obtain ⟨o54,hB54,hL54⟩:=range_cons hL54
 rw [s_ModelValid_b2] at hB54
 have hix54:=drop_idx hd54
 refine W_skip (W_seq (W_block (W_seq ?_)))
 obtain ⟨x65,hx65,hB54⟩:=bind_some hB54
 refine W_drawS 6 [isV (.agg #[v0_0,v0_1]),isV (Pq g3 1),isV (v0_1),isV (I i_51),isEl (rRule 3 23) x_54 0,exD (isData (rS 3 RP.int) x_54.vars) fun u_1=>exD (isData (rS 3 RP.int) x_54.coefs) fun u_2=>exD (isData (rS 23 (rS 3 RP.int)) x_54.rows) fun u_4=>isV (.agg #[I x_54.kind,u_1,u_2,I x_54.bound,u_4])] [box g3 26 #[v0_0,v0_1]] [] ([]) [([],[]),([],[]),([],[]),([],[]),([],[]),([],[])] (S:=[]) Tryz_mix (by kernel_rfl) rfl (by kernel_rfl) (amF_cons (mono_V _) (amF_cons (mono_V _) (amF_cons (mono_V _) (amF_cons (mono_V _) (amF_cons (mono_el _ _ _) (amF_cons (mono_exD (mono_data _ _) fun _=>mono_exD (mono_data _ _) fun _=>mono_exD (mono_data _ _) fun _=>mono_V _) amF_nil)))))) Z ?_ (fun f w_ H67 hS67 hE67 hT67 Z=>?_)
 refine opsS_cons (fun f w_ _ _ s _ _ Z=>L_lda (cs:=[v0_0,v0_1]) rfl Tryz.isAgg26 Tryz.sizeOf26 ((s 1 rfl).trans sf1) (At.sub0 (Blk.at (Star.blkAt 0 Z rfl)) 0 2) rfl (nO rfl rfl Z)) (opsS_cons (fun f w_ _ _ s _ _ Z=>fA 1 fa_26_1 ((s 1 rfl).trans sf1) rfl (nO rfl rfl Z)) (opsS_cons (fun f w_ _ _ _ _ p Z=>ldB 0 Z Tryz.isAgg24 (p 1 67 rfl rfl) rfl rfl (nO rfl rfl Z)) (opsS_cons (fun f w_ _ _ s _ _ Z=>mF ((s 5 rfl).trans sf5) rfl (nO rfl rfl Z)) (opsS_cons ?_ ?_))))
 intro f w_ H67 X67 hS67 hE67 hP67 Z
 refine L_ix (r:=(rRule 3 23)) rfl Tryz.underlying24 Tryz.sizeOf79 (hP67 2 68 rfl rfl) (RP.mono _ h0_1 (Le.trans l53 hE67)) (hP67 3 69 rfl rfl) hix54 (fun g72 o73 cs_g72 hrk_hat74 hat74=>?_)
 obtain ⟨u75_0,u75_1,u75_2,rfl,hu75_0,hu75_1,hu75_2⟩:=rRule_iff.1 hrk_hat74
 exact L_nil ⟨rfl,_,_,rfl,Le.refl _,fun _ _=>⟨_,_,_,rfl,hrk_hat74,hat74⟩,Z⟩
 refine opsS_cons ?_ ?_
 intro f w_ H67 X67 hS67 hE67 hP67 Z
 obtain ⟨g76,o76,cs76,hv76,hrk_hat76,hat76⟩:=(hP67 4 70 rfl rfl)
 obtain ⟨u77_0,u77_1,u77_2,rfl,hu77_0,hu77_1,hu77_2⟩:=rRule_iff.1 hrk_hat76
 refine L_lda (cs:=[I x_54.kind,u77_0,u77_1,I x_54.bound,u77_2]) rfl Tryz.isAgg79 Tryz.sizeOf79 hv76 (At.sub (AtH.at hat76 Z.sub) 0 5) rfl (L_nil ⟨rfl,_,_,rfl,Le.refl _,fun _ _=>⟨_,hu77_0,_,hu77_1,_,hu77_2,rfl⟩,Z⟩)
 exact opsS_nil
 obtain ⟨u78_1,hu78_1,u78_2,hu78_2,u78_4,hu78_4,hv78⟩:=(hT67 5 71 rfl rfl)
 obtain ⟨H79b,l80,s81,z82,k83⟩:=Z.borrow
 refine L_call rfl Tryz.call106 (ops2 (hT67 0 66 rfl rfl) hv78) (s_l6Rule_c (m:=m) (r_:=x_54) s81 (RP.mono _ h0_0 (Le.trans (Le.trans l53 hE67) l80)) (RP.mono _ h0_1 (Le.trans (Le.trans l53 hE67) l80)) (RP.mono _ hu78_1 l80) (RP.mono _ hu78_2 l80) (RP.mono _ hu78_4 l80) hx65) ?_
 rintro _ w84 ⟨rfl,Z⟩
 have Z:=k83 Z c0
 refine L_not_ rfl rfl (nn (W_cond (b:=(!x65)) rfl (fun hc85=>?_) (fun hc85=>?_)))
 have hB54:=(ite_t hc85).symm.trans hB54
 refine sq (aB rfl (nn (W_ret (retG1 (v1:=Bo false) Tryz.results51 rfl ?_))))
 obtain rfl:=so hB54
 obtain rfl:=so hL54
 obtain rfl:=so hF
 exact ⟨rfl,(Star.down (Star.keepN 0 Z) (Le.trans l53 hE67) c0)⟩
 have hB54:=(ite_f hc85).symm.trans hB54
 refine W_skip (W_region (mF ((hS67 5 rfl).trans sf5) rfl (L_add rfl rfl rfl (aI rfl (nn ?_)))))
 obtain rfl:=so hB54
 show ∃ m,m < _∧I54 m _ _
 refine ⟨rest54.length,by simp,?_⟩
 exact ij hI54 ⟨i_51 + 1,rest54,H67,rfl,drop_next hd54,by simp at hl54; omega,hL54,(Le.trans l53 hE67),((hS67 1 rfl).trans sf1),(Eq.trans rfl (congrArg (Value.int .i64) (i64_succ (n:=m.rules.length) (by simp at hl54; omega) hlen54))),Z⟩
 rcases suf54 with _ | ⟨_,_⟩
 obtain rfl:=range_nil hL54
 refine W_exit (rj hR54 ⟨H52,rfl,l53,(Star.keepN 0 Z)⟩)
 exact absurd (of_decide_eq_false hc55) (by simp at hl54; omega)
 intro f w_ hR
 obtain ⟨H52,rfl,l53,Z⟩:=rk hR54 hR
 refine sq (aB rfl (nn (W_ret (retG1 (v1:=Bo true) Tryz.results51 rfl ?_))))
 obtain rfl:=so hF
 exact ⟨rfl,(Star.down Z l53 c0)⟩
theorem s_l7Var_c {m : Model} {cell : Int} {value : Int} {v0_0 : Value} {v0_1 : Value} {H : FH} {w : World} (Z : Star H w []) (h0_0 : (rS 3 RP.int).rel H [v0_0] m.sizes) (h0_1 : (rS 79 (rRule 3 23)).rel H [v0_1] m.rules) {r : Int} (hF : s_l7Var m cell value = some r) :
 C Tryz.prog 70 #[.agg #[v0_0,v0_1],I cell,I value] w fun v w'=>v = I r∧Star H w' []:=by
 unfold s_l7Var at hF
 refine C_enter Tryz.func70 rfl Tryz.ntmps70 rfl (sq (L_box (v:=.agg #[v0_0,v0_1]) (cs:=#[v0_0,v0_1]) rfl rfl rfl Z (fun g3 w4 Z=>aI rfl (ns (mI rfl (L_add rfl rfl rfl (aI rfl (nq (sq (aI rfl (nn ?_)))))))))))
 obtain ⟨k8,hk8,hF⟩:=bind_some hF
 obtain ⟨j7,hL7,hF⟩:=bind_some hF
 obtain ⟨R7,hR7⟩:=exR fun f w_=>∃ n_6 : Int,j7 = .nx n_6∧f 7 = I n_6∧Star H w_ ([])
 refine W_join R7 ?_ ?_
 refine W_block ?_
 obtain ⟨I7,hI7⟩:=exI fun n f w_=>∃ i_5 : Nat,∃ suf7 : Nat,∃ n_6 : Int,suf7 = n∧0≤i_5∧i_5 + suf7 = 0 + k8∧countL (s_l7Var_b1 m) suf7 i_5 n_6 = some j7∧f 1 = I cell∧f 3 = Pt g3∧f 7 = I n_6∧f 8 = I i_5∧Star H w_ ([box g3 26 #[v0_0,v0_1]])
 refine W_loop I7 (n:=k8) ?_ ?_
 exact ij hI7 ⟨0,k8,i64 (1 + value),rfl,Nat.le_refl _,rfl,hL7,rfl,rfl,rfl,rfl,Z⟩
 intro n7 f w_ hI
 obtain ⟨i_5,suf7,n_6,rfl,hs7,hl7,hL7,sf1,sf3,sf7,sf8,Z⟩:=ik hI7 hI
 refine W_seq (sq (mF sf8 rfl (mF sf1 rfl (L_lss rfl rfl rfl (nn (W_cond (b:=decide ((i_5 : Int) < cell)) rfl (fun hc9=>?_) (fun hc9=>?_)))))))
 have hlt7:=of_decide_eq_true hc9
 rcases suf7 with _ | rest7
 exact absurd hlt7 (cntF_no hl7 hk8)
 obtain ⟨o7,hB7,hL7⟩:=count_succ hL7
 rw [s_l7Var_b1] at hB7
 refine W_skip (W_seq (W_block ?_))
 obtain ⟨x10,hx10,hB7⟩:=bind_some hB7
 refine W_region (mF sf7 rfl (fA 0 fa_26_0 sf3 rfl (ldB 0 Z Tryz.isAgg23 rfl rfl rfl (mF sf8 rfl (L_ix (r:=RP.int) rfl Tryz.underlying23 Tryz.sizeOf3 rfl h0_0 rfl hx10 (fun g15 o16 cs_g15 hrk_hat17 hat17=>?_))))))
 obtain rfl : _ = [_]:=hrk_hat17
 refine L_ld rfl Tryz.isAgg3 rfl (At.cell (AtH.at hat17 Z.sub) (j:=0) rfl) (L_add rfl rfl rfl (L_add rfl rfl rfl (aI rfl (nn (W_region (mF sf8 rfl (L_add rfl rfl rfl (aI rfl (nn ?_)))))))))
 obtain rfl:=so hB7
 show ∃ m,m < _∧I7 m _ _
 refine ⟨rest7,Nat.lt_succ_self _,?_⟩
 exact ij hI7 ⟨i_5 + 1,rest7,i64 ((i64 (n_6 + x10)) + 1),rfl,by omega,by omega,hL7,sf1,sf3,rfl,(Eq.trans rfl (congrArg (Value.int .i64) (i64_succ (n:=0 + k8) (by omega) (cntF_le hk8)))),Z⟩
 rcases suf7 with _ | _
 obtain rfl:=count_zero hL7
 refine W_exit (rj hR7 ⟨n_6,rfl,sf7,(Star.keepN 0 Z)⟩)
 exact absurd (cntF_yes hs7 hl7 hk8) (of_decide_eq_false hc9)
 intro f w_ hR
 obtain ⟨n_6,rfl,sf7,Z⟩:=rk hR7 hR
 refine sq (mF sf7 rfl (aI rfl (nn (W_ret (retG1 (v1:=I n_6) Tryz.results70 rfl ?_)))))
 obtain rfl:=so hF
 exact ⟨rfl,Z⟩
theorem s_l1Lit_c {n_ : Int} {H : FH} {w : World} (Z : Star H w []) {r : Bool} (hF : s_l1Lit n_ = some r) :
 C Tryz.prog 151 #[I n_] w fun v w'=>v = Bo r∧Star H w' []:=by
 unfold s_l1Lit at hF
 refine C_enter Tryz.func151 rfl Tryz.ntmps151 rfl (sq (aB rfl (nq ?_)))
 obtain ⟨R1,hR1⟩:=exR fun f w_=>f 2 = Bo (((n_ != 0) && (decide (n_ ≥ (-12)))) && (decide (n_≤12)))∧Star H w_ ([])
 refine W_join R1 ?_ ?_
 refine W_region (mI rfl (L_neq rfl rfl rfl (mB rfl (L_split (d:=5) (b:=(n_ != 0)) rfl (fun hc2=>?_) (fun hc2=>?_)))))
 refine mI rfl (L_geq rfl rfl rfl (L_pick (v:=Bo ((n_ != 0) && (decide (n_ ≥ (-12))))) rfl rfl (and_t hc2 rfl) (mB rfl (L_split (d:=9) (b:=((n_ != 0) && (decide (n_ ≥ (-12))))) rfl (fun hc3=>?_) (fun hc3=>?_)))))
 refine mI rfl (L_leq rfl rfl rfl (L_pick (v:=Bo (((n_ != 0) && (decide (n_ ≥ (-12)))) && (decide (n_≤12)))) rfl rfl (and_t hc3 rfl) (aB rfl (nn (rj hR1 ⟨rfl,Z⟩)))))
 refine ps rfl (ps rfl (L_pick (v:=Bo (((n_ != 0) && (decide (n_ ≥ (-12)))) && (decide (n_≤12)))) rfl rfl (and_f hc3) (aB rfl (nn (rj hR1 ⟨rfl,Z⟩)))))
 refine ps rfl (ps rfl (L_pick (v:=Bo ((n_ != 0) && (decide (n_ ≥ (-12))))) rfl rfl (and_f hc2) (mB rfl (L_split (d:=9) (b:=((n_ != 0) && (decide (n_ ≥ (-12))))) rfl (fun hc4=>?_) (fun hc4=>?_)))))
 refine mI rfl (L_leq rfl rfl rfl (L_pick (v:=Bo (((n_ != 0) && (decide (n_ ≥ (-12)))) && (decide (n_≤12)))) rfl rfl (and_t hc4 rfl) (aB rfl (nn (rj hR1 ⟨rfl,Z⟩)))))
 refine ps rfl (ps rfl (L_pick (v:=Bo (((n_ != 0) && (decide (n_ ≥ (-12)))) && (decide (n_≤12)))) rfl rfl (and_f hc4) (aB rfl (nn (rj hR1 ⟨rfl,Z⟩)))))
 intro f w_ hR
 obtain ⟨sf2,Z⟩:=rk hR1 hR
 refine W_ret (retG1 (v1:=Bo (((n_ != 0) && (decide (n_ ≥ (-12)))) && (decide (n_≤12)))) Tryz.results151 sf2 ?_)
 obtain rfl:=so hF
 exact ⟨rfl,Z⟩
theorem s_l1Abs_c {n_ : Int} {H : FH} {w : World} (Z : Star H w []) {r : Int} (hF : s_l1Abs n_ = some r) :
 C Tryz.prog 152 #[I n_] w fun v w'=>v = I r∧Star H w' []:=by
 unfold s_l1Abs at hF
 refine C_enter Tryz.func152 rfl Tryz.ntmps152 rfl (sq (aI rfl (nq (sq (mI rfl (L_lss rfl rfl rfl (nn (W_cond (b:=decide (n_ < 0)) rfl (fun hc1=>?_) (fun hc1=>?_)))))))))
 have hF:=(ite_t hc1).symm.trans hF
 refine sq (mI rfl (L_neg rfl rfl (aI rfl (nn (W_ret (retG1 (v1:=I (i64 (-n_))) Tryz.results152 rfl ?_))))))
 obtain rfl:=so hF
 exact ⟨rfl,Z⟩
 have hF:=(ite_f hc1).symm.trans hF
 refine W_skip (sq (mI rfl (aI rfl (nn (W_ret (retG1 (v1:=I n_) Tryz.results152 rfl ?_))))))
 obtain rfl:=so hF
 exact ⟨rfl,Z⟩
end Go.Proofs.YtbjllamkfmejlaaGreat

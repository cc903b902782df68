/- Part of a proof by program: W3. -/
import Derived.Test.YtbjllamkfmejlaaGreatD1
import Derived.Test.YtbjllamkfmejlaaGreatW2
namespace Go.Proofs.YtbjllamkfmejlaaGreat
open Go Go.E Go.L Go.RowKit
set_option linter.unusedVariables false
set_option linter.unusedSimpArgs false
set_option maxRecDepth 100000
theorem i_Model_solves_c {m : Model} {cells : List Int} {v0_0 : Value} {v0_1 : Value} {v1 : Value} {H : FH} {w : World} (hst : Star H w []) (h0_0 : (rS 3 RP.int).rel H [v0_0] m.sizes) (h0_1 : (rS 79 (rRule 3 23)).rel H [v0_1] m.rules) (h1 : (rS 3 RP.int).rel H [v1] cells) {r : Bool} (hF : i_Model_solves m cells = some r) :
 C Tryz.prog 59 #[.agg #[v0_0,v0_1],v1] w fun v w'=>v = Bo r∧Star H w' []:=by
 unfold i_Model_solves at hF
 refine C_enter Tryz.func59 rfl Tryz.ntmps59 rfl (sq (L_box (v:=.agg #[v0_0,v0_1]) (cs:=#[v0_0,v0_1]) rfl rfl rfl hst (fun g5 w6 hst=>L_box (v:=v1) (cs:=#[v1]) rfl rfl (cells_one (one_len (slice_len h1))) hst (fun g7 w8 hst=>aB rfl (nq ?_)))))
 obtain ⟨x14,hx14,hF⟩:=bind_some hF
 refine W_region (fA 1 fa_26_1 rfl rfl (ldB 1 hst Tryz.isAgg24 rfl rfl rfl (L_mf rfl (ops1 rfl) ?_)))
 obtain ⟨H16b,l17,s18,z19,k20⟩:=hst.borrow
 have hf21 : Fun1 Tryz.prog (rRule 3 23) true Value.bool (i_Model_solves_1 cells) (.func (.func 117) #[] #[Pt g7]) H16b:=by
   refine ⟨_,_,rfl,Tryz.call117,fun H_ w_ hE_ hs_ cs_ x_ y_ args_ hr_ hy_ ha_=>?_⟩
   obtain ⟨p_0,p_1,p_2,rfl,hp_0,hp_1,hp_2⟩:=rRule_iff.1 hr_
   obtain rfl:=args_of (b:=#[.agg #[I x_.kind,p_0,p_1,I x_.bound,p_2],Pt g7]) ha_
   exact i_Model_solves_1_c (c1:=cells) (r_:=x_) hs_ hp_0 hp_1 hp_2 (AtH.le (AtH.of (fz_box 0 z19 rfl)) hE_) (RP.mono _ (RP.mono _ h1 l17) hE_) hy_
 refine L_call rfl Tryz.call93 (ops2 rfl rfl) (slices_ContainsFunc_implRule_c (s:=m.rules) (f_:=(i_Model_solves_1 cells)) s18 (RP.mono _ h0_1 l17) hf21 hx14) ?_
 rintro _ w22 ⟨rfl,hst⟩
 have hst:=k20 hst c0
 refine L_not_ rfl rfl (aB rfl (nn (W_ret (retG1 (v1:=Bo (!x14)) Tryz.results59 rfl ?_))))
 obtain rfl:=so hF
 exact ⟨rfl,(Star.keepN 0 hst)⟩
theorem i_CellsValid_c {m : Model} {cells : List Int} {v0_0 : Value} {v0_1 : Value} {v1 : Value} {H : FH} {w : World} (hst : Star H w []) (h0_0 : (rS 3 RP.int).rel H [v0_0] m.sizes) (h0_1 : (rS 79 (rRule 3 23)).rel H [v0_1] m.rules) (h1 : (rS 3 RP.int).rel H [v1] cells) {r : Bool} (hF : i_CellsValid m cells = some r) :
 C Tryz.prog 60 #[.agg #[v0_0,v0_1],v1] w fun v w'=>v = Bo r∧Star H w' []:=by
 unfold i_CellsValid at hF
 refine C_enter Tryz.func60 rfl Tryz.ntmps60 rfl (sq (L_box (v:=.agg #[v0_0,v0_1]) (cs:=#[v0_0,v0_1]) rfl rfl rfl hst (fun g3 w4 hst=>aB rfl (nq (W_seq ?_)))))
 obtain ⟨x10,hx10,hF⟩:=bind_some hF
 obtain ⟨R12,hR12⟩:=exR fun f w_=>f 1 = v1∧f 2 = Pt g3∧f 17 = Bo ((!x10) || ((cells.length : Int) != (m.sizes.length : Int)))∧Star H w_ ([box g3 26 #[v0_0,v0_1]])
 refine W_join R12 ?_ ?_
 refine W_region (L_lda (cs:=[v0_0,v0_1]) rfl Tryz.isAgg26 Tryz.sizeOf26 rfl (At.sub0 (Blk.at (Star.blkAt 0 hst rfl)) 0 2) rfl ?_)
 obtain ⟨H13b,l14,s15,z16,k17⟩:=hst.borrow
 refine L_call rfl Tryz.call46 (ops1 rfl) (i_ModelValid_c (m:=m) s15 (RP.mono _ h0_0 l14) (RP.mono _ h0_1 l14) hx10) ?_
 rintro _ w18 ⟨rfl,hst⟩
 have hst:=k17 hst c0
 refine L_not_ rfl rfl (mB rfl (L_split (d:=10) (b:=(!x10)) rfl (fun hc19=>?_) (fun hc19=>?_)))
 refine ps rfl (ps rfl (ps rfl (ps rfl (ps rfl (ps rfl (L_pick (v:=Bo ((!x10) || ((cells.length : Int) != (m.sizes.length : Int)))) rfl rfl (or_t hc19) (nn (rj hR12 ⟨rfl,rfl,rfl,hst⟩))))))))
 refine mV v1 rfl (L_len rfl Tryz.underlying23 rfl (slice_len h1) (fA 0 fa_26_0 rfl rfl (ldB 0 hst Tryz.isAgg23 rfl rfl rfl (L_len rfl Tryz.underlying23 rfl (slice_len h0_0) (L_neq rfl rfl rfl (L_pick (v:=Bo ((!x10) || ((cells.length : Int) != (m.sizes.length : Int)))) rfl rfl (or_f hc19 rfl) (nn (rj hR12 ⟨rfl,rfl,rfl,hst⟩))))))))
 intro f w_ hR
 obtain ⟨sf1,sf2,sf17,hst⟩:=rk hR12 hR
 refine W_cond (b:=((!x10) || ((cells.length : Int) != (m.sizes.length : Int)))) sf17 (fun hc20=>?_) (fun hc20=>?_)
 have hF:=(ite_t hc20).symm.trans hF
 refine sq (aB rfl (nn (W_ret (retG1 (v1:=Bo false) Tryz.results60 rfl ?_))))
 obtain rfl:=so hF
 exact ⟨rfl,(Star.keepN 0 hst)⟩
 have hF:=(ite_f hc20).symm.trans hF
 refine W_skip (W_seq (sq (mF sf1 rfl (L_len rfl Tryz.underlying23 rfl (slice_len h1) (mI rfl (nn ?_))))))
 have hlen22 : List.length cells≤9223372036854775807:=len_le (slice_len h1)
 obtain ⟨j22,hL22,hF⟩:=bind_some hF
 obtain ⟨R22,hR22⟩:=exR fun f w_=>j22 = .nx ()∧Star H w_ ([])
 refine W_join R22 ?_ ?_
 refine W_block ?_
 obtain ⟨I22,hI22⟩:=exI fun n f w_=>∃ i_21 : Nat,∃ suf22 : List Int,n = suf22.length∧List.drop i_21 cells = suf22∧i_21 + suf22.length = cells.length∧rangeL (i_CellsValid_b1 m) suf22 i_21 () = some j22∧f 2 = Pt g3∧f 18 = v1∧f 19 = I (cells.length : Int)∧f 20 = I i_21∧Star H w_ ([box g3 26 #[v0_0,v0_1]])
 refine W_loop I22 (n:=cells.length) ?_ ?_
 exact ij hI22 ⟨0,cells,rfl,rfl,Nat.zero_add _,hL22,sf2,rfl,rfl,rfl,hst⟩
 intro n22 f w_ hI
 obtain ⟨i_21,suf22,rfl,hd22,hl22,hL22,sf2,sf18,sf19,sf20,hst⟩:=ik hI22 hI
 refine sq (L_lss rfl sf20 sf19 (nq (W_cond (b:=decide ((i_21 : Int) < (cells.length : Int))) rfl (fun hc23=>?_) (fun hc23=>?_))))
 have hlt22:=of_decide_eq_true hc23
 rcases suf22 with _ | ⟨x_22,rest22⟩
 exact absurd hlt22 (by simp at hl22; omega)
 obtain ⟨o22,hB22,hL22⟩:=range_cons hL22
 rw [i_CellsValid_b1] at hB22
 have hix22:=drop_idx hd22
 refine W_skip (W_seq (W_block (sq (mF sf20 rfl (L_ix (r:=RP.int) rfl Tryz.underlying23 Tryz.sizeOf3 sf18 h1 sf20 hix22 (fun g28 o29 cs_g28 hrk_hat30 hat30=>?_))))))
 obtain rfl : _ = [_]:=hrk_hat30
 refine L_ld rfl Tryz.isAgg3 rfl (At.cell (AtH.at hat30 hst.sub) (j:=0) rfl) (aI rfl (aI rfl (nq ?_)))
 obtain ⟨x32,hx32,hB22⟩:=bind_some hB22
 obtain ⟨x42,hx42,hB22⟩:=bind_some hB22
 refine W_region (mI rfl (fA 0 fa_26_0 sf2 rfl (ldB 0 hst Tryz.isAgg23 rfl rfl rfl (mI rfl (L_ix (r:=RP.int) rfl Tryz.underlying23 Tryz.sizeOf3 rfl h0_0 rfl hx32 (fun g44 o45 cs_g44 hrk_hat46 hat46=>?_))))))
 obtain rfl : _ = [_]:=hrk_hat46
 refine L_ld rfl Tryz.isAgg3 rfl (At.cell (AtH.at hat46 hst.sub) (j:=0) rfl) ?_
 obtain ⟨H48b,l49,s50,z51,k52⟩:=hst.borrow
 refine L_call rfl Tryz.call92 (ops3 rfl rfl rfl) (i_within_c (n_:=x_22) (low:=0) (high:=x32) s50 hx42) ?_
 rintro _ w53 ⟨rfl,hst⟩
 have hst:=k52 hst c0
 refine L_not_ rfl rfl (nn (W_cond (b:=(!x42)) rfl (fun hc54=>?_) (fun hc54=>?_)))
 have hB22:=(ite_t hc54).symm.trans hB22
 refine sq (aB rfl (nn (W_ret (retG1 (v1:=Bo false) Tryz.results60 rfl ?_))))
 obtain rfl:=so hB22
 obtain rfl:=so hL22
 obtain rfl:=so hF
 exact ⟨rfl,(Star.keepN 0 hst)⟩
 have hB22:=(ite_f hc54).symm.trans hB22
 refine W_skip (W_region (L_add rfl sf20 rfl (mI rfl (nn ?_))))
 obtain rfl:=so hB22
 show ∃ m,m < _∧I22 m _ _
 refine ⟨rest22.length,by simp,?_⟩
 exact ij hI22 ⟨i_21 + 1,rest22,rfl,drop_next hd22,by simp at hl22; omega,hL22,sf2,sf18,sf19,(Eq.trans rfl (congrArg (Value.int .i64) (i64_succ (n:=cells.length) (by simp at hl22; omega) hlen22))),hst⟩
 rcases suf22 with _ | ⟨_,_⟩
 obtain rfl:=range_nil hL22
 refine W_exit (rj hR22 ⟨rfl,(Star.keepN 0 hst)⟩)
 exact absurd (of_decide_eq_false hc23) (by simp at hl22; omega)
 intro f w_ hR
 obtain ⟨rfl,hst⟩:=rk hR22 hR
 refine sq (aB rfl (nn (W_ret (retG1 (v1:=Bo true) Tryz.results60 rfl ?_))))
 obtain rfl:=so hF
 exact ⟨rfl,hst⟩
theorem i_EncodeCells_c {m : Model} {cells : List Int} {v0_0 : Value} {v0_1 : Value} {v1 : Value} {H : FH} {w : World} (hst : Star H w []) (h0_0 : (rS 3 RP.int).rel H [v0_0] m.sizes) (h0_1 : (rS 79 (rRule 3 23)).rel H [v0_1] m.rules) (h1 : (rS 3 RP.int).rel H [v1] cells) {r : (List Bool) × Bool} (hF : i_EncodeCells m cells = some r) :
 C Tryz.prog 19 #[.agg #[v0_0,v0_1],v1] w fun v w'=>∃ (u1 : Value),v = .tuple #[u1,Bo r.2]∧Star H w' [oF 4 RP.bool u1 r.1]:=by
 unfold i_EncodeCells at hF
 refine C_enter Tryz.func19 rfl Tryz.ntmps19 rfl (sq (L_box (v:=.agg #[v0_0,v0_1]) (cs:=#[v0_0,v0_1]) rfl rfl rfl hst (fun g3 w4 hst=>aV S0 rfl (aB rfl (nq (W_seq ?_))))))
 obtain ⟨x10,hx10,hF⟩:=bind_some hF
 refine W_region (L_lda (cs:=[v0_0,v0_1]) rfl Tryz.isAgg26 Tryz.sizeOf26 rfl (At.sub0 (Blk.at (Star.blkAt 0 hst rfl)) 0 2) rfl (mV v1 rfl ?_))
 obtain ⟨H12b,l13,s14,z15,k16⟩:=hst.borrow
 refine L_call rfl Tryz.call60 (ops2 rfl rfl) (i_CellsValid_c (m:=m) (cells:=cells) s14 (RP.mono _ h0_0 l13) (RP.mono _ h0_1 l13) (RP.mono _ h1 l13) hx10) ?_
 rintro _ w17 ⟨rfl,hst⟩
 have hst:=k16 hst c0
 refine L_not_ rfl rfl (nn (W_cond (b:=(!x10)) rfl (fun hc18=>?_) (fun hc18=>?_)))
 have hF:=(ite_t hc18).symm.trans hF
 refine sq (aV S0 rfl (aB rfl (nn (W_ret (retG2 (v1:=S0) (v2:=Bo false) Tryz.results19 rfl rfl ?_)))))
 obtain rfl:=so hF
 have hst:=Star.addNil (R:=(OR.frz RP.bool)) (e:=4) hst
 exact ⟨S0,rfl,(Star.keepN 1 hst)⟩
 have hF:=(ite_f hc18).symm.trans hF
 refine W_skip (W_seq ?_)
 obtain ⟨x20,hx20,hF⟩:=bind_some hF
 refine W_region (L_mk (R:=(OR.frz RP.bool)) (z0:=false) (zc:=[Bo false]) rfl et_37 (by kernel_rfl) (fun _ _=>⟨rfl,rfl⟩) rfl rfl hx20 hst (fun v24 w25 hst=>aV v24 rfl (nq (sq (mV v1 rfl (L_len rfl Tryz.underlying23 rfl (slice_len h1) (mI rfl (nn ?_))))))))
 have hlen29 : List.length cells≤9223372036854775807:=len_le (slice_len h1)
 obtain ⟨j29,hL29,hF⟩:=bind_some hF
 obtain ⟨R29,hR29⟩:=exR fun f w_=>∃ out_28 : List Bool,j29 = .nx out_28∧f 6 = v24∧Star H w_ ([oF 4 RP.bool v24 out_28])
 refine W_join R29 ?_ ?_
 refine W_block ?_
 obtain ⟨I29,hI29⟩:=exI fun n f w_=>∃ i_27 : Nat,∃ suf29 : List Int,∃ out_28 : List Bool,n = suf29.length∧List.drop i_27 cells = suf29∧i_27 + suf29.length = cells.length∧rangeL (i_EncodeCells_b1 m) suf29 i_27 out_28 = some j29∧f 2 = Pt g3∧f 6 = v24∧f 14 = v1∧f 15 = I (cells.length : Int)∧f 16 = I i_27∧Star H w_ ([oF 4 RP.bool v24 out_28,box g3 26 #[v0_0,v0_1]])
 refine W_loop I29 (n:=cells.length) ?_ ?_
 exact ij hI29 ⟨0,cells,x20,rfl,rfl,Nat.zero_add _,hL29,rfl,rfl,rfl,rfl,rfl,hst⟩
 intro n29 f w_ hI
 obtain ⟨i_27,suf29,out_28,rfl,hd29,hl29,hL29,sf2,sf6,sf14,sf15,sf16,hst⟩:=ik hI29 hI
 refine sq (L_lss rfl sf16 sf15 (nq (W_cond (b:=decide ((i_27 : Int) < (cells.length : Int))) rfl (fun hc30=>?_) (fun hc30=>?_))))
 have hlt29:=of_decide_eq_true hc30
 rcases suf29 with _ | ⟨x_29,rest29⟩
 exact absurd hlt29 (by simp at hl29; omega)
 obtain ⟨o29,hB29,hL29⟩:=range_cons hL29
 rw [i_EncodeCells_b1] at hB29
 have hix29:=drop_idx hd29
 refine W_skip (W_seq (W_block (sq (mF sf16 rfl (L_ix (r:=RP.int) rfl Tryz.underlying23 Tryz.sizeOf3 sf14 h1 sf16 hix29 (fun g35 o36 cs_g35 hrk_hat37 hat37=>?_))))))
 obtain rfl : _ = [_]:=hrk_hat37
 refine L_ld rfl Tryz.isAgg3 rfl (At.cell (AtH.at hat37 hst.sub) (j:=0) rfl) (aI rfl (aI rfl (nn ?_)))
 obtain ⟨x44,hx44,hB29⟩:=bind_some hB29
 obtain ⟨x46,hx46,hB29⟩:=bind_some hB29
 refine W_region (mF sf6 rfl (L_lda (cs:=[v0_0,v0_1]) rfl Tryz.isAgg26 Tryz.sizeOf26 sf2 (At.sub0 (Blk.at (Star.blkAt 1 hst rfl)) 0 2) rfl (mI rfl (mI rfl ?_))))
 obtain ⟨H50b,l51,s52,z53,k54⟩:=hst.borrow
 refine L_call rfl Tryz.call63 (ops3 rfl rfl rfl) (i_Model_boolVar_c (m:=m) (cell:=(i_27 : Int)) (value:=x_29) s52 (RP.mono _ h0_0 l51) (RP.mono _ h0_1 l51) hx44) ?_
 rintro _ w55 ⟨rfl,hst⟩
 have hst:=k54 hst c0
 refine L_sub rfl rfl rfl ?_
 obtain ⟨g56,cap_g56,hv57,_,_⟩:=Star.row 0 hst rfl hx46
 refine L_ixO (R:=(OR.frz RP.bool)) (tb:=0) 0 rfl Tryz.underlying37 Tryz.sizeOf4 rfl hv57 (by first | rfl | simp) rfl hx46 ?_
 have hst:=Star.addF (r:=RP.bool) (cs:=[Bo true]) (x:=true) hst rfl
 refine L_stE1 (u:=Bo true) rfl Tryz.sizeOf4 rfl rfl rfl hv57 hst hx46 (fun w58 hst=>?_)
 refine nn (W_region (L_add rfl sf16 rfl (mI rfl (nn ?_))))
 obtain rfl:=so hB29
 show ∃ m,m < _∧I29 m _ _
 refine ⟨rest29.length,by simp,?_⟩
 exact ij hI29 ⟨i_27 + 1,rest29,(out_28.set (Int.toNat (i64 (x44 - 1))) true),rfl,drop_next hd29,by simp at hl29; omega,hL29,sf2,sf6,sf14,sf15,(Eq.trans rfl (congrArg (Value.int .i64) (i64_succ (n:=cells.length) (by simp at hl29; omega) hlen29))),hst⟩
 rcases suf29 with _ | ⟨_,_⟩
 obtain rfl:=range_nil hL29
 refine W_exit (rj hR29 ⟨out_28,rfl,sf6,(Star.keepN 1 hst)⟩)
 exact absurd (of_decide_eq_false hc30) (by simp at hl29; omega)
 intro f w_ hR
 obtain ⟨out_28,rfl,sf6,hst⟩:=rk hR29 hR
 refine sq (mF sf6 rfl (aV v24 rfl (aB rfl (nn (W_ret (retG2 (v1:=v24) (v2:=Bo true) Tryz.results19 rfl rfl ?_))))))
 obtain rfl:=so hF
 exact ⟨v24,rfl,hst⟩
theorem i_SolvesModel_c {m : Model} {cells : List Int} {v0_0 : Value} {v0_1 : Value} {v1 : Value} {H : FH} {w : World} (hst : Star H w []) (h0_0 : (rS 3 RP.int).rel H [v0_0] m.sizes) (h0_1 : (rS 79 (rRule 3 23)).rel H [v0_1] m.rules) (h1 : (rS 3 RP.int).rel H [v1] cells) {r : Bool} (hF : i_SolvesModel m cells = some r) :
 C Tryz.prog 23 #[.agg #[v0_0,v0_1],v1] w fun v w'=>v = Bo r∧Star H w' []:=by
 unfold i_SolvesModel at hF
 refine C_enter Tryz.func23 rfl Tryz.ntmps23 rfl (sq (L_box (v:=.agg #[v0_0,v0_1]) (cs:=#[v0_0,v0_1]) rfl rfl rfl hst (fun g3 w4 hst=>aB rfl (nq ?_))))
 obtain ⟨x10,hx10,hF⟩:=bind_some hF
 obtain ⟨b19,hb19,hF⟩:=bind_some hF
 obtain ⟨R20,hR20⟩:=exR fun f w_=>f 4 = Bo b19∧Star H w_ ([])
 refine W_join R20 ?_ ?_
 refine W_region (L_lda (cs:=[v0_0,v0_1]) rfl Tryz.isAgg26 Tryz.sizeOf26 rfl (At.sub0 (Blk.at (Star.blkAt 0 hst rfl)) 0 2) rfl (mV v1 rfl ?_))
 obtain ⟨H21b,l22,s23,z24,k25⟩:=hst.borrow
 refine L_call rfl Tryz.call60 (ops2 rfl rfl) (i_CellsValid_c (m:=m) (cells:=cells) s23 (RP.mono _ h0_0 l22) (RP.mono _ h0_1 l22) (RP.mono _ h1 l22) hx10) ?_
 rintro _ w26 ⟨rfl,hst⟩
 have hst:=k25 hst c0
 refine mB rfl (L_split (d:=8) (b:=x10) rfl (fun hc27=>?_) (fun hc27=>?_))
 rw [ite_t hc27] at hb19
 obtain ⟨x17,hx17,hb19⟩:=bind_some hb19
 refine L_lda (cs:=[v0_0,v0_1]) rfl Tryz.isAgg26 Tryz.sizeOf26 rfl (At.sub0 (Blk.at (Star.blkAt 0 hst rfl)) 0 2) rfl (mV v1 rfl ?_)
 obtain ⟨H28b,l29,s30,z31,k32⟩:=hst.borrow
 refine L_call rfl Tryz.call59 (ops2 rfl rfl) (i_Model_solves_c (m:=m) (cells:=cells) s30 (RP.mono _ h0_0 l29) (RP.mono _ h0_1 l29) (RP.mono _ h1 l29) hx17) ?_
 rintro _ w33 ⟨rfl,hst⟩
 have hst:=k32 hst c0
 refine L_pick (v:=Bo b19) rfl rfl (congrArg Value.bool (so hb19)) (aB rfl (nn (rj hR20 ⟨rfl,(Star.keepN 0 hst)⟩)))
 rw [ite_f hc27] at hb19
 refine ps rfl (ps rfl (ps rfl (L_pick (v:=Bo b19) rfl rfl (congrArg Value.bool (so hb19)) (aB rfl (nn (rj hR20 ⟨rfl,(Star.keepN 0 hst)⟩))))))
 intro f w_ hR
 obtain ⟨sf4,hst⟩:=rk hR20 hR
 refine W_ret (retG1 (v1:=Bo b19) Tryz.results23 sf4 ?_)
 obtain rfl:=so hF
 exact ⟨rfl,hst⟩
theorem s_l6DrawCells_c {r_ : Rd} {m : Model} {g_0 : Nat} {v0_0 : Value} {v1_0 : Value} {v1_1 : Value} {H : FH} {w : World} (hst : Star H w [box g_0 136 #[v0_0,I r_.p]]) (h0_0 : (rS 5 RP.u8).rel H [v0_0] r_.b) (h1_0 : (rS 3 RP.int).rel H [v1_0] m.sizes) (h1_1 : (rS 79 (rRule 3 23)).rel H [v1_1] m.rules) {r : (List Int) × Int} (hF : s_l6DrawCells r_ m = some r) :
 C Tryz.prog 76 #[Pt g_0,.agg #[v1_0,v1_1]] w fun v w'=>∃ (u1 : Value),v = u1∧Star H w' [oF 3 RP.int u1 r.1,box g_0 136 #[v0_0,I r.2]]:=by
 unfold s_l6DrawCells at hF
 refine C_enter Tryz.func76 rfl Tryz.ntmps76 rfl (sq (L_box (v:=.agg #[v1_0,v1_1]) (cs:=#[v1_0,v1_1]) rfl rfl rfl hst (fun g3 w4 hst=>aV S0 rfl (ns (L_bs rfl parts0 (bs_23_0  ) hst (fun g8 w9 hst=>?_))))))
 have hst:=Star.mkRow (R:=(OR.frz RP.int)) [] [] 0 hst rfl rfl rfl (by decide)
 refine aV (Sl g8 0 0) rfl (nq (sq (aI rfl (nn ?_))))
 have hlen15 : List.length m.sizes≤9223372036854775807:=len_le (slice_len h1_0)
 obtain ⟨j15,hL15,hF⟩:=bind_some hF
 obtain ⟨R15,hR15⟩:=exR fun f w_=>∃ out_12 : List Int,∃ g_0_1_14 : Int,∃ v12_out : Value,j15 = .nx (out_12,g_0_1_14)∧f 0 = Pt g_0∧f 5 = v12_out∧Star H w_ ([oF 3 RP.int v12_out out_12,box g_0 136 #[v0_0,I g_0_1_14]])
 refine W_join R15 ?_ ?_
 refine W_block ?_
 obtain ⟨I15,hI15⟩:=exI fun n f w_=>∃ i_11 : Nat,∃ suf15 : List Int,∃ out_12 : List Int,∃ g_0_1_14 : Int,∃ v12_out : Value,n = suf15.length∧List.drop i_11 m.sizes = suf15∧i_11 + suf15.length = m.sizes.length∧rangeL (s_l6DrawCells_b1 r_) suf15 i_11 (out_12,g_0_1_14) = some j15∧f 0 = Pt g_0∧f 3 = Pt g3∧f 5 = v12_out∧f 6 = I i_11∧Star H w_ ([oF 3 RP.int v12_out out_12,box g_0 136 #[v0_0,I g_0_1_14],box g3 26 #[v1_0,v1_1]])
 have hst:=hst.gets [1,2,2] rfl
 refine W_loop I15 (n:=m.sizes.length) ?_ ?_
 exact ij hI15 ⟨0,m.sizes,[],r_.p,(Sl g8 0 0),rfl,rfl,Nat.zero_add _,hL15,rfl,rfl,rfl,rfl,hst⟩
 intro n15 f w_ hI
 obtain ⟨i_11,suf15,out_12,g_0_1_14,v12_out,rfl,hd15,hl15,hL15,sf0,sf3,sf5,sf6,hst⟩:=ik hI15 hI
 refine W_seq (sq (mF sf6 rfl (fA 0 fa_26_0 sf3 rfl (ldB 2 hst Tryz.isAgg23 rfl rfl rfl (L_len rfl Tryz.underlying23 rfl (slice_len h1_0) (L_lss rfl rfl rfl (nn (W_cond (b:=decide ((i_11 : Int) < (m.sizes.length : Int))) rfl (fun hc16=>?_) (fun hc16=>?_)))))))))
 have hlt15:=of_decide_eq_true hc16
 rcases suf15 with _ | ⟨x_15,rest15⟩
 exact absurd hlt15 (by simp at hl15; omega)
 obtain ⟨o15,hB15,hL15⟩:=range_cons hL15
 rw [s_l6DrawCells_b1] at hB15
 have hix15:=drop_idx hd15
 refine W_skip (W_seq (W_block (sq (fA 0 fa_26_0 sf3 rfl (ldB 2 hst Tryz.isAgg23 rfl rfl rfl (mF sf6 rfl (L_ix (r:=RP.int) rfl Tryz.underlying23 Tryz.sizeOf3 rfl h1_0 rfl hix15 (fun g21 o22 cs_g21 hrk_hat23 hat23=>?_))))))))
 obtain rfl : _ = [_]:=hrk_hat23
 refine L_ld rfl Tryz.isAgg3 rfl (At.cell (AtH.at hat23 hst.sub) (j:=0) rfl) (L_add rfl rfl rfl (aI rfl (nq (W_seq ?_))))
 obtain ⟨R25,hR25⟩:=exR fun f w_=>f 0 = Pt g_0∧f 3 = Pt g3∧f 5 = v12_out∧f 6 = I i_11∧f 7 = I (i64 (x_15 + 1))∧f 27 = Bo ((decide ((i64 (x_15 + 1)) < 1)) || (decide ((i64 (x_15 + 1)) > 4)))∧Star H w_ ([oF 3 RP.int v12_out out_12,box g_0 136 #[v0_0,I g_0_1_14],box g3 26 #[v1_0,v1_1]])
 refine W_join R25 ?_ ?_
 refine W_region (mI rfl (L_lss rfl rfl rfl (mB rfl (L_split (d:=24) (b:=decide ((i64 (x_15 + 1)) < 1)) rfl (fun hc26=>?_) (fun hc26=>?_)))))
 refine ps rfl (ps rfl (L_pick (v:=Bo ((decide ((i64 (x_15 + 1)) < 1)) || (decide ((i64 (x_15 + 1)) > 4)))) rfl rfl (or_t hc26) (nn (rj hR25 ⟨sf0,sf3,sf5,sf6,rfl,rfl,hst⟩))))
 refine mI rfl (L_gtr rfl rfl rfl (L_pick (v:=Bo ((decide ((i64 (x_15 + 1)) < 1)) || (decide ((i64 (x_15 + 1)) > 4)))) rfl rfl (or_f hc26 rfl) (nn (rj hR25 ⟨sf0,sf3,sf5,sf6,rfl,rfl,hst⟩))))
 intro f w_ hR
 obtain ⟨sf0,sf3,sf5,sf6,sf7,sf27,hst⟩:=rk hR25 hR
 obtain ⟨n_27,hA28,hB15⟩:=bind_some hB15
 obtain ⟨R28,hR28⟩:=exR fun f w_=>f 0 = Pt g_0∧f 3 = Pt g3∧f 5 = v12_out∧f 6 = I i_11∧f 7 = I n_27∧Star H w_ ([oF 3 RP.int v12_out out_12,box g_0 136 #[v0_0,I g_0_1_14],box g3 26 #[v1_0,v1_1]])
 refine W_join R28 ?_ ?_
 refine W_cond (b:=((decide ((i64 (x_15 + 1)) < 1)) || (decide ((i64 (x_15 + 1)) > 4)))) sf27 (fun hc29=>?_) (fun hc29=>?_)
 have hA28:=(ite_t hc29).symm.trans hA28
 refine W_region (aI rfl (nn ?_))
 obtain rfl:=so hA28
 exact rj hR28 ⟨sf0,sf3,sf5,sf6,rfl,hst⟩
 have hA28:=(ite_f hc29).symm.trans hA28
 refine W_skip ?_
 obtain rfl:=so hA28
 exact rj hR28 ⟨sf0,sf3,sf5,sf6,sf7,hst⟩
 intro f w_ hR
 obtain ⟨sf0,sf3,sf5,sf6,sf7,hst⟩:=rk hR28 hR
 obtain ⟨x35,hx35,hB15⟩:=bind_some hB15
 obtain ⟨x40,hx40,hB15⟩:=bind_some hB15
 refine W_region (mF sf5 rfl (mF sf0 rfl (mF sf7 rfl ?_)))
 have hst:=hst.get 1 rfl
 obtain ⟨H44b,l45,s46,z47,k48⟩:=hst.lend [_]
 refine L_call rfl Tryz.call127 (ops2 rfl rfl) (s_l17Rd_pick_c (r_:=({ b:=r_.b,p:=g_0_1_14 } : Rd)) (n_:=n_27) s46 (RP.mono _ h0_0 l45) hx35) ?_
 rintro _ w49 ⟨rfl,hst⟩
 have hst:=k48 hst (cb c0)
 refine L_bs rfl (parts1 rfl) (bs_23_1_0 (I x35.1) rfl) hst (fun g50 w51 hst=>?_)
 have hst:=Star.addF (r:=RP.int) (cs:=[I x35.1]) (x:=x35.1) hst rfl
 have hst:=Star.mkRow (R:=(OR.frz RP.int)) [([I x35.1],x35.1)] [x35.1] 1 hst rfl rfl rfl (by decide)
 have hst:=hst.get 2 rfl
 refine L_appM (v:=v12_out) (u:=(Sl g50 1 1)) rfl et_23 rfl rfl hst hx40 (fun v53 w54 hst=>aV v53 rfl (nn (W_region (mF sf6 rfl (L_add rfl rfl rfl (aI rfl (nn ?_)))))))
 obtain rfl:=so hB15
 show ∃ m,m < _∧I15 m _ _
 refine ⟨rest15.length,by simp,?_⟩
 exact ij hI15 ⟨i_11 + 1,rest15,x40,x35.2,v53,rfl,drop_next hd15,by simp at hl15; omega,hL15,sf0,sf3,rfl,(Eq.trans rfl (congrArg (Value.int .i64) (i64_succ (n:=m.sizes.length) (by simp at hl15; omega) hlen15))),hst⟩
 rcases suf15 with _ | ⟨_,_⟩
 obtain rfl:=range_nil hL15
 refine W_exit (rj hR15 ⟨out_12,g_0_1_14,v12_out,rfl,sf0,sf5,(Star.keepN 2 hst)⟩)
 exact absurd (of_decide_eq_false hc16) (by simp at hl15; omega)
 intro f w_ hR
 obtain ⟨out_12,g_0_1_14,v12_out,rfl,sf0,sf5,hst⟩:=rk hR15 hR
 refine W_seq (W_seq ?_)
 obtain ⟨x61,hx61,hF⟩:=bind_some hF
 refine W_region (mF sf0 rfl ?_)
 have hst:=hst.get 1 rfl
 obtain ⟨H63b,l64,s65,z66,k67⟩:=hst.lend [_]
 refine L_call rfl Tryz.call127 (ops2 rfl rfl) (s_l17Rd_pick_c (r_:=({ b:=r_.b,p:=g_0_1_14 } : Rd)) (n_:=40) s65 (RP.mono _ h0_0 l64) hx61) ?_
 rintro _ w68 ⟨rfl,hst⟩
 have hst:=k67 hst (cb c0)
 refine nn (W_block (sq (L_eql rfl rfl rfl (aB rfl (nn ?_)))))
 obtain ⟨⟨out_69,g_0_1_71⟩,hA72,hF⟩:=bind_some hF
 obtain ⟨R72,hR72⟩:=exR fun f w_=>∃ v69_out : Value,f 5 = v69_out∧Star H w_ ([oF 3 RP.int v69_out out_69,box g_0 136 #[v0_0,I g_0_1_71]])
 refine W_join R72 ?_ ?_
 refine W_cond (b:=(x61.1 == 0)) rfl (fun hc73=>?_) (fun hc73=>?_)
 have hA72:=(ite_t hc73).symm.trans hA72
 obtain ⟨x77,hx77,hA72⟩:=bind_some hA72
 refine W_region (mF sf5 rfl (L_bs rfl (parts1 rfl) (bs_23_1_0 (I 0) rfl) hst (fun g81 w82 hst=>?_)))
 have hst:=litInts [0] 1 hst rfl rfl (by decide)
 have hst:=hst.get 2 rfl
 refine L_appM (v:=v12_out) (u:=(Sl g81 1 1)) rfl et_23 rfl rfl hst hx77 (fun v84 w85 hst=>aV v84 rfl (nn ?_))
 obtain ⟨rfl,rfl⟩:=so2 hA72
 exact rj hR72 ⟨v84,rfl,hst⟩
 have hA72:=(ite_f hc73).symm.trans hA72
 refine sq (L_eql rfl rfl rfl (aB rfl (nn ?_)))
 obtain ⟨⟨out_87,g_0_1_88⟩,hA89,hA72⟩:=bind_some hA72
 obtain ⟨R89,hR89⟩:=exR fun f w_=>f 5 = v12_out∧Star H w_ ([oF 3 RP.int v12_out out_87,box g_0 136 #[v0_0,I g_0_1_88]])
 refine W_join R89 ?_ ?_
 refine W_cond (b:=(x61.1 == 1)) rfl (fun hc90=>?_) (fun hc90=>?_)
 have hA89:=(ite_t hc90).symm.trans hA89
 refine sq (mF sf5 rfl (L_len rfl Tryz.underlying23 rfl (Star.len 1 hst rfl) (L_gtr rfl rfl rfl (nn ?_))))
 obtain ⟨⟨out_91,g_0_1_92⟩,hA93,hA89⟩:=bind_some hA89
 obtain ⟨R93,hR93⟩:=exR fun f w_=>f 5 = v12_out∧Star H w_ ([oF 3 RP.int v12_out out_91,box g_0 136 #[v0_0,I g_0_1_92]])
 refine W_join R93 ?_ ?_
 refine W_cond (b:=decide ((out_12.length : Int) > 0)) rfl (fun hc94=>?_) (fun hc94=>?_)
 have hA93:=(ite_t hc94).symm.trans hA93
 obtain ⟨x104,hx104,hA93⟩:=bind_some hA93
 obtain ⟨x106,hx106,hA93⟩:=bind_some hA93
 refine W_region (mF sf5 rfl (mF sf0 rfl (L_bs rfl (parts3 rfl rfl rfl) (bs_23_3_0_0_0 (I (-1)) (I 4) (I 9223372036854775807) rfl rfl rfl) hst (fun g110 w111 hst=>?_))))
 have hst:=litInts [(-1),4,9223372036854775807] 3 hst rfl rfl (by decide)
 have hst:=hst.get 1 rfl
 obtain ⟨H113b,l114,s115,z116,k117⟩:=hst.lend [_]
 have hb118 : (rS 3 RP.int).rel H113b [(Sl g110 3 3)] ([(-1),4,9223372036854775807]):=fz_own 0 z116 rfl
 refine L_call rfl Tryz.call75 (ops2 rfl rfl) (s_l17Rd_num_c (r_:=({ b:=r_.b,p:=x61.2 } : Rd)) (list:=[(-1),4,9223372036854775807]) s115 (RP.mono _ h0_0 l114) hb118 hx104) ?_
 rintro _ w119 ⟨rfl,hst⟩
 have hst:=k117 hst (cb c0)
 obtain ⟨g120,cap_g120,hv121,_,_⟩:=Star.row 2 hst rfl hx106
 refine L_ixO (R:=(OR.frz RP.int)) (tb:=0) 0 rfl Tryz.underlying23 Tryz.sizeOf3 rfl hv121 (by first | rfl | simp) rfl hx106 ?_
 have hst:=Star.addF (r:=RP.int) (cs:=[I x104.1]) (x:=x104.1) hst rfl
 have hst:=hst.gets [3,1] rfl
 refine L_stE1 (u:=I x104.1) rfl Tryz.sizeOf3 rfl rfl rfl hv121 hst hx106 (fun w122 hst=>?_)
 refine nn ?_
 obtain ⟨rfl,rfl⟩:=so2 hA93
 exact rj hR93 ⟨sf5,(Star.keepN 2 hst)⟩
 have hA93:=(ite_f hc94).symm.trans hA93
 refine W_skip ?_
 obtain ⟨rfl,rfl⟩:=so2 hA93
 have hst:=hst.get 1 rfl
 exact rj hR93 ⟨sf5,hst⟩
 intro f w_ hR
 obtain ⟨sf5,hst⟩:=rk hR93 hR
 obtain ⟨rfl,rfl⟩:=so2 hA89
 exact rj hR89 ⟨sf5,hst⟩
 have hA89:=(ite_f hc90).symm.trans hA89
 refine W_skip ?_
 obtain ⟨rfl,rfl⟩:=so2 hA89
 have hst:=hst.get 1 rfl
 exact rj hR89 ⟨sf5,hst⟩
 intro f w_ hR
 obtain ⟨sf5,hst⟩:=rk hR89 hR
 obtain ⟨rfl,rfl⟩:=so2 hA72
 exact rj hR72 ⟨v12_out,sf5,hst⟩
 intro f w_ hR
 obtain ⟨v69_out,sf5,hst⟩:=rk hR72 hR
 refine sq (mF sf5 rfl (aV v69_out rfl (nn (W_ret (retG1 (v1:=v69_out) Tryz.results76 rfl ?_)))))
 obtain rfl:=so hF
 exact ⟨v69_out,rfl,hst⟩
theorem s_DrawCellsValid_c {fu : Nat} {code : List UInt8} {v0 : Value} {H : FH} {w : World} {R : List Ass} (hst : Star H w R) (h0 : (rS 5 RP.u8).rel H [v0] code) {r : Unit} (hF : s_DrawCellsValid fu code = some r) :
 C Tryz.prog 68 #[v0] w fun v w'=>∃ o : Model × (List Int),(sModel o.1∧sOut o.2)∧∃ H' : FH,Le H H'∧∃ (u1 : Value) (u2 : Value) (u3 : Value),v = .tuple #[.agg #[u1,u2],u3]∧(rS 3 RP.int).rel H' [u1] o.1.sizes∧(rS 79 (rRule 3 23)).rel H' [u2] o.1.rules∧(rS 3 RP.int).rel H' [u3] o.2∧Star H' w' (R):=by
 unfold s_DrawCellsValid at hF
 refine C_enter Tryz.func68 rfl Tryz.ntmps68 rfl (sq (L_al (cs:=#[S0,S0]) rfl Tryz.zeroValue26 rfl hst (fun g3 w4 hst=>aV S0 rfl (nq ?_))))
 obtain ⟨x5,hx5,hF⟩:=bind_some hF
 refine W_region (mV v0 rfl (L_call rfl Tryz.call72 (ops1 rfl) (s_l17Open_c (code:=code) hst h0 hx5) ?_))
 rintro _ w7 ⟨H7,l7,r7_0,r7_1,rfl,hr7_1,hst⟩
 refine aV (Pt r7_0) rfl (nq ?_)
 obtain ⟨x8,hx8,hF⟩:=bind_some hF
 obtain ⟨hx14,hF⟩:=anyB_some hF
 refine W_region (mV (Pt r7_0) rfl (mV (Pt r7_0) rfl (L_call rfl Tryz.call74 (ops1 rfl) (s_l6Model_c (r_:=x5) hst hr7_1 hx8) ?_)))
 rintro _ w19 ⟨H19,l19,r19_0,r19_1,rfl,hr19_0,hst⟩
 obtain ⟨H21,l22,hst,hz23⟩:=Star.freeze hst
 have hz23 : (rS 79 (rRule 3 23)).rel H21 [r19_1] x8.1.rules:=hz23
 refine L_call rfl Tryz.call73 (ops2 rfl rfl) (s_l6Mutate_c (r_:=({ b:=x5.b,p:=x8.2 } : Rd)) (m:=x8.1) hst (RP.mono _ hr7_1 (Le.trans l19 l22)) (RP.mono _ hr19_0 l22) hz23 hx14) ?_
 rintro _ w24 ⟨x14,gd24,H24,l24,r24_0,r24_1,rfl,hr24_0,hr24_1,hst⟩
 have hF:=hF x14 gd24
 refine L_al (cs:=#[S0,S0]) rfl Tryz.zeroValue26 rfl hst (fun g25 w26 hst=>L_staB (vs:=#[r24_0,r24_1]) (cs2:=#[r24_0,r24_1]) 0 rfl Tryz.sizeOf26 rfl rfl rfl (ones_cons (one_len (slice_len hr24_0)) (ones_cons (one_len (slice_len hr24_1)) ones_nil)) hst rfl (by show 0 + 2≤2; decide) rfl (fun w27 hst=>nq ?_))
 obtain ⟨x33,hx33,hF⟩:=bind_some hF
 have hst:=hst.gets [1,2,2] rfl
 refine W_drawS 4 [isV (.agg #[r24_0,r24_1]),isV (Pt r7_0),isV (.agg #[r24_0,r24_1]),anyF] [box g25 26 #[r24_0,r24_1],box g3 26 #[S0,S0]] [.base (box r7_0 136 #[r7_1,I x14.2]) (some 3),.made 3 15 (fun v_=>oF 3 RP.int v_ x33.1) none,.made 3 15 (fun v_=>box r7_0 136 #[r7_1,I x33.2]) none] (R) [([],[]),([],[]),([],[]),([0],[1,2])] (S:=[(none,[],some 3),(some 3,[15],none),(some 3,[15],none)]) Tryz_mix (by kernel_rfl) rfl (by kernel_rfl) (amF_cons (mono_V _) (amF_cons (mono_V _) (amF_cons (mono_V _) (amF_cons (mono_any) amF_nil)))) hst ?_ (fun f w_ H37 hS37 hE37 hT37 hst=>?_)
 refine opsS_cons (fun f w_ _ _ s _ _ hst=>L_lda (cs:=[r24_0,r24_1]) rfl Tryz.isAgg26 Tryz.sizeOf26 ((s 5 rfl).trans rfl) (At.sub0 (Blk.at (Star.blkAt 0 hst rfl)) 0 2) rfl (nO rfl rfl hst)) (opsS_cons (fun f w_ _ _ s _ _ hst=>mF ((s 4 rfl).trans rfl) rfl (nO rfl rfl hst)) (opsS_cons (fun f w_ _ _ s _ _ hst=>L_lda (cs:=[r24_0,r24_1]) rfl Tryz.isAgg26 Tryz.sizeOf26 ((s 5 rfl).trans rfl) (At.sub0 (Blk.at (Star.blkAt 0 hst rfl)) 0 2) rfl (nO rfl rfl hst)) (opsS_cons ?_ ?_)))
 intro f w_ H37 X37 hS37 hE37 hP37 hst
 have hst : Star H37 w_ (box g25 26 #[r24_0,r24_1] :: box g3 26 #[S0,S0] :: box r7_0 136 #[r7_1,I x14.2] :: X37):=hst
 have hst:=hst.get 2 rfl
 obtain ⟨H45b,l46,s47,z48,k49⟩:=hst.lend [_]
 refine L_call rfl Tryz.call76 (ops2 (hP37 1 13 rfl rfl) (hP37 2 14 rfl rfl)) (s_l6DrawCells_c (r_:=({ b:=x5.b,p:=x14.2 } : Rd)) (m:=x14.1) s47 (RP.mono _ hr7_1 (Le.trans (Le.trans (Le.trans (Le.trans l19 l22) l24) hE37) l46)) (RP.mono _ hr24_0 (Le.trans hE37 l46)) (RP.mono _ hr24_1 (Le.trans hE37 l46)) hx33) ?_
 rintro r50_0 w50 ⟨_,rfl,hst⟩
 have hst:=k49 hst (co closed_int (cb c0))
 have hst:=hst.gets [1,1,3,3] rfl
 exact L_nil ⟨rfl,_,_,rfl,Le.refl _,fun _ _=>trivial,hst⟩
 exact opsS_nil
 have hst : Star H37 w_ (box g25 26 #[r24_0,r24_1] :: box g3 26 #[S0,S0] :: oF 3 RP.int (f 15) x33.1 :: box r7_0 136 #[r7_1,I x33.2] :: R):=hst
 refine L_staB (vs:=#[r24_0,r24_1]) (cs2:=#[r24_0,r24_1]) 1 rfl Tryz.sizeOf26 ((hS37 2 rfl).trans rfl) (hT37 0 12 rfl rfl) rfl (ones_cons (one_len (slice_len (RP.mono _ hr24_0 hE37))) (ones_cons (one_len (slice_len (RP.mono _ hr24_1 hE37))) ones_nil)) hst rfl (by show 0 + 2≤2; decide) rfl (fun w53 hst=>aV (f 15) rfl (nn (W_ret (retG2 (v1:=.agg #[r24_0,r24_1]) (v2:=(f 15)) Tryz.results68 (resV_agg Tryz.isAgg26 Tryz.sizeOf26 ((hS37 2 rfl).trans rfl) (Star.blkAt 0 hst rfl) rfl) rfl ?_))))
 have hG:=assertM_some hF
 have hst:=hst.get 2 rfl
 obtain ⟨H54,l55,hst,hz56⟩:=Star.freeze hst
 have hz56 : (rS 3 RP.int).rel H54 [(f 15)] x33.1:=hz56
 have hst:=Star.drop 0 hst rfl
 have hst:=Star.drop 0 hst rfl
 have hst:=Star.drop 0 hst rfl
 exact ⟨(x14.1,x33.1),hG,H54,(Le.trans (Le.trans (Le.trans (Le.trans (Le.trans l7 l19) l22) l24) hE37) l55),r24_0,r24_1,(f 15),rfl,(RP.mono _ hr24_0 (Le.trans hE37 l55)),(RP.mono _ hr24_1 (Le.trans hE37 l55)),hz56,hst⟩
theorem s_DrawEncodeCells_c {fu : Nat} {code : List UInt8} {v0 : Value} {H : FH} {w : World} {R : List Ass} (hst : Star H w R) (h0 : (rS 5 RP.u8).rel H [v0] code) {r : Unit} (hF : s_DrawEncodeCells fu code = some r) :
 C Tryz.prog 25 #[v0] w fun v w'=>∃ o : Model × (List Int),(sModel o.1∧sOut o.2)∧∃ H' : FH,Le H H'∧∃ (u1 : Value) (u2 : Value) (u3 : Value),v = .tuple #[.agg #[u1,u2],u3]∧(rS 3 RP.int).rel H' [u1] o.1.sizes∧(rS 79 (rRule 3 23)).rel H' [u2] o.1.rules∧(rS 3 RP.int).rel H' [u3] o.2∧Star H' w' (R):=by
 unfold s_DrawEncodeCells at hF
 refine C_enter Tryz.func25 rfl Tryz.ntmps25 rfl (sq (L_al (cs:=#[S0,S0]) rfl Tryz.zeroValue26 rfl hst (fun g3 w4 hst=>aV S0 rfl (nq ?_))))
 obtain ⟨hx5,hF⟩:=anyB_some hF
 refine W_region (mV v0 rfl (L_call rfl Tryz.call68 (ops1 rfl) (s_DrawCellsValid_c (code:=code) hst h0 hx5) ?_))
 rintro _ w8 ⟨x5,gd8,H8,l8,r8_0,r8_1,r8_2,rfl,hr8_0,hr8_1,hr8_2,hst⟩
 have hF:=hF x5 gd8
 refine L_ex (v:=.agg #[r8_0,r8_1]) rfl rfl rfl (L_ex (v:=r8_2) rfl rfl rfl (L_staB (vs:=#[r8_0,r8_1]) (cs2:=#[r8_0,r8_1]) 0 rfl Tryz.sizeOf26 rfl rfl rfl (ones_cons (one_len (slice_len hr8_0)) (ones_cons (one_len (slice_len hr8_1)) ones_nil)) hst rfl (by show 0 + 2≤2; decide) rfl (fun w9 hst=>aV r8_2 rfl (nn (W_ret (retG2 (v1:=.agg #[r8_0,r8_1]) (v2:=r8_2) Tryz.results25 (resV_agg Tryz.isAgg26 Tryz.sizeOf26 rfl (Star.blkAt 0 hst rfl) rfl) rfl ?_))))))
 have hG:=assertM_some hF
 have hst:=Star.drop 0 hst rfl
 exact ⟨(x5.1,x5.2),hG,H8,l8,r8_0,r8_1,r8_2,rfl,hr8_0,hr8_1,hr8_2,hst⟩
theorem s_l6Cells_c {m : Model} {cells : List Int} {v0_0 : Value} {v0_1 : Value} {v1 : Value} {H : FH} {w : World} (hst : Star H w []) (h0_0 : (rS 3 RP.int).rel H [v0_0] m.sizes) (h0_1 : (rS 79 (rRule 3 23)).rel H [v0_1] m.rules) (h1 : (rS 3 RP.int).rel H [v1] cells) {r : Bool} (hF : s_l6Cells m cells = some r) :
 C Tryz.prog 122 #[.agg #[v0_0,v0_1],v1] w fun v w'=>v = Bo r∧Star H w' []:=by
 unfold s_l6Cells at hF
 refine C_enter Tryz.func122 rfl Tryz.ntmps122 rfl (sq (L_box (v:=.agg #[v0_0,v0_1]) (cs:=#[v0_0,v0_1]) rfl rfl rfl hst (fun g3 w4 hst=>aB rfl (nq (sq (mV v1 rfl (L_len rfl Tryz.underlying23 rfl (slice_len h1) (fA 0 fa_26_0 rfl rfl (ldB 0 hst Tryz.isAgg23 rfl rfl rfl (L_len rfl Tryz.underlying23 rfl (slice_len h0_0) (L_neq rfl rfl rfl (nn (W_cond (b:=((cells.length : Int) != (m.sizes.length : Int))) rfl (fun hc5=>?_) (fun hc5=>?_))))))))))))))
 have hF:=(ite_t hc5).symm.trans hF
 refine sq (aB rfl (nn (W_ret (retG1 (v1:=Bo false) Tryz.results122 rfl ?_))))
 obtain rfl:=so hF
 exact ⟨rfl,(Star.keepN 0 hst)⟩
 have hF:=(ite_f hc5).symm.trans hF
 refine W_skip (W_seq (sq (aI rfl (nn ?_))))
 have hlen9 : List.length cells≤9223372036854775807:=len_le (slice_len h1)
 obtain ⟨j9,hL9,hF⟩:=bind_some hF
 obtain ⟨R9,hR9⟩:=exR fun f w_=>∃ H7 : FH,j9 = .nx ()∧Le H H7∧Star H7 w_ ([])
 refine W_join R9 ?_ ?_
 refine W_block ?_
 obtain ⟨I9,hI9⟩:=exI fun n f w_=>∃ i_6 : Nat,∃ suf9 : List Int,∃ H7 : FH,n = suf9.length∧List.drop i_6 cells = suf9∧i_6 + suf9.length = cells.length∧rangeL (s_l6Cells_b1 m) suf9 i_6 () = some j9∧Le H H7∧f 1 = v1∧f 2 = Pt g3∧f 5 = I i_6∧Star H7 w_ ([box g3 26 #[v0_0,v0_1]])
 refine W_loop I9 (n:=cells.length) ?_ ?_
 exact ij hI9 ⟨0,cells,H,rfl,rfl,Nat.zero_add _,hL9,(Le.refl _),rfl,rfl,rfl,hst⟩
 intro n9 f w_ hI
 obtain ⟨i_6,suf9,H7,rfl,hd9,hl9,hL9,l8,sf1,sf2,sf5,hst⟩:=ik hI9 hI
 refine W_seq (sq (mF sf5 rfl (mF sf1 rfl (L_len rfl Tryz.underlying23 rfl (slice_len (RP.mono _ h1 l8)) (L_lss rfl rfl rfl (nn (W_cond (b:=decide ((i_6 : Int) < (cells.length : Int))) rfl (fun hc10=>?_) (fun hc10=>?_))))))))
 have hlt9:=of_decide_eq_true hc10
 rcases suf9 with _ | ⟨x_9,rest9⟩
 exact absurd hlt9 (by simp at hl9; omega)
 obtain ⟨o9,hB9,hL9⟩:=range_cons hL9
 rw [s_l6Cells_b1] at hB9
 have hix9:=drop_idx hd9
 refine W_skip (W_seq (W_block (W_seq ?_)))
 obtain ⟨b24,hb24,hB9⟩:=bind_some hB9
 obtain ⟨R28,hR28⟩:=exR fun f w_=>∃ H26 : FH,Le H7 H26∧f 1 = v1∧f 2 = Pt g3∧f 5 = I i_6∧f 34 = Bo b24∧Star H26 w_ ([box g3 26 #[v0_0,v0_1]])
 refine W_join R28 ?_ ?_
 rcases Bool.eq_false_or_eq_true (decide (x_9 < 0)) with hc29 | hc29
 rw [ite_t hc29] at hb24
 refine W_drawS 15 [isV (v1),isV (I i_6),isEl RP.int x_9 0,isV (I x_9),isV (Bo (decide (x_9 < 0))),isV (Bo (decide (x_9 < 0))),isV (undef),isV (undef),isV (undef),isV (undef),isV (undef),isV (undef),isV (undef),isV (undef),isV (undef)] [box g3 26 #[v0_0,v0_1]] [] ([]) [([],[]),([],[]),([],[]),([],[]),([],[]),([],[]),([],[]),([],[]),([],[]),([],[]),([],[]),([],[]),([],[]),([],[]),([],[])] (S:=[]) Tryz_mix (by kernel_rfl) rfl (by kernel_rfl) (amF_cons (mono_V _) (amF_cons (mono_V _) (amF_cons (mono_el _ _ _) (amF_cons (mono_V _) (amF_cons (mono_V _) (amF_cons (mono_V _) (amF_cons (mono_V _) (amF_cons (mono_V _) (amF_cons (mono_V _) (amF_cons (mono_V _) (amF_cons (mono_V _) (amF_cons (mono_V _) (amF_cons (mono_V _) (amF_cons (mono_V _) (amF_cons (mono_V _) amF_nil))))))))))))))) hst ?_ (fun f w_ H25 hS25 hE25 hT25 hst=>?_)
 refine opsS_cons (fun f w_ _ _ s _ _ hst=>mF ((s 1 rfl).trans sf1) rfl (nO rfl rfl hst)) (opsS_cons (fun f w_ _ _ s _ _ hst=>mF ((s 5 rfl).trans sf5) rfl (nO rfl rfl hst)) (opsS_cons ?_ ?_))
 intro f w_ H25 X25 hS25 hE25 hP25 hst
 refine L_ix (r:=RP.int) rfl Tryz.underlying23 Tryz.sizeOf3 (hP25 0 18 rfl rfl) (RP.mono _ h1 (Le.trans l8 hE25)) (hP25 1 19 rfl rfl) hix9 (fun g34 o35 cs_g34 hrk_hat36 hat36=>?_)
 obtain rfl : _ = [_]:=hrk_hat36
 exact L_nil ⟨rfl,_,_,rfl,Le.refl _,fun _ _=>⟨_,_,_,rfl,rfl,hat36⟩,hst⟩
 refine opsS_cons ?_ ?_
 intro f w_ H25 X25 hS25 hE25 hP25 hst
 obtain ⟨g38,o38,cs38,hv38,hrk_hat38,hat38⟩:=(hP25 2 20 rfl rfl)
 obtain rfl : _ = [_]:=hrk_hat38
 refine L_ld rfl Tryz.isAgg3 hv38 (At.cell (AtH.at hat38 hst.sub) (j:=0) rfl) (L_nil ⟨rfl,_,_,rfl,Le.refl _,fun _ _=>rfl,hst⟩)
 refine opsS_cons (fun f w_ _ _ _ _ p hst=>L_lss rfl (p 3 21 rfl rfl) rfl (nO rfl rfl hst)) (opsS_cons (fun f w_ _ _ _ _ p hst=>mF (p 4 22 rfl rfl) rfl (nO rfl rfl hst)) (oP (fun _ _ p=>gN (p 5 23 rfl rfl) hc29 rfl) (fun _=>rfl) (oP (fun _ _ p=>gN (p 5 23 rfl rfl) hc29 rfl) (fun _=>rfl) (oP (fun _ _ p=>gN (p 5 23 rfl rfl) hc29 rfl) (fun _=>rfl) (oP (fun _ _ p=>gN (p 5 23 rfl rfl) hc29 rfl) (fun _=>rfl) (oP (fun _ _ p=>gN (p 5 23 rfl rfl) hc29 rfl) (fun _=>rfl) (oP (fun _ _ p=>gN (p 5 23 rfl rfl) hc29 rfl) (fun _=>rfl) (oP (fun _ _ p=>gN (p 5 23 rfl rfl) hc29 rfl) (fun _=>rfl) (oP (fun _ _ p=>gN (p 5 23 rfl rfl) hc29 rfl) (fun _=>rfl) (oP (fun _ _ p=>gN (p 5 23 rfl rfl) hc29 rfl) (fun _=>rfl) (opsS_nil)))))))))))
 refine ps (g_no rfl (Eq.trans (hT25 5 23 rfl rfl) (congrArg Value.bool hc29)) rfl rfl) (L_pick (v:=Bo b24) rfl (Eq.trans (hT25 5 23 rfl rfl) (congrArg Value.bool hc29)) (congrArg Value.bool (so hb24)) (nn (rj hR28 ⟨H25,hE25,((hS25 1 rfl).trans sf1),((hS25 2 rfl).trans sf2),((hS25 5 rfl).trans sf5),rfl,hst⟩)))
 rw [ite_f hc29] at hb24
 obtain ⟨x19,hx19,hb24⟩:=bind_some hb24
 refine W_drawS 15 [isV (v1),isV (I i_6),isEl RP.int x_9 0,isV (I x_9),isV (Bo (decide (x_9 < 0))),isV (Bo (decide (x_9 < 0))),isV (v1),isV (I i_6),isEl RP.int x_9 0,isV (I x_9),isV (Pt g3),isV (v0_0),isV (I i_6),isEl RP.int x19 0,isV (I x19)] [box g3 26 #[v0_0,v0_1]] [] ([]) [([],[]),([],[]),([],[]),([],[]),([],[]),([],[]),([],[]),([],[]),([],[]),([],[]),([],[]),([],[]),([],[]),([],[]),([],[])] (S:=[]) Tryz_mix (by kernel_rfl) rfl (by kernel_rfl) (amF_cons (mono_V _) (amF_cons (mono_V _) (amF_cons (mono_el _ _ _) (amF_cons (mono_V _) (amF_cons (mono_V _) (amF_cons (mono_V _) (amF_cons (mono_V _) (amF_cons (mono_V _) (amF_cons (mono_el _ _ _) (amF_cons (mono_V _) (amF_cons (mono_V _) (amF_cons (mono_V _) (amF_cons (mono_V _) (amF_cons (mono_el _ _ _) (amF_cons (mono_V _) amF_nil))))))))))))))) hst ?_ (fun f w_ H25 hS25 hE25 hT25 hst=>?_)
 refine opsS_cons (fun f w_ _ _ s _ _ hst=>mF ((s 1 rfl).trans sf1) rfl (nO rfl rfl hst)) (opsS_cons (fun f w_ _ _ s _ _ hst=>mF ((s 5 rfl).trans sf5) rfl (nO rfl rfl hst)) (opsS_cons ?_ ?_))
 intro f w_ H25 X25 hS25 hE25 hP25 hst
 refine L_ix (r:=RP.int) rfl Tryz.underlying23 Tryz.sizeOf3 (hP25 0 18 rfl rfl) (RP.mono _ h1 (Le.trans l8 hE25)) (hP25 1 19 rfl rfl) hix9 (fun g52 o53 cs_g52 hrk_hat54 hat54=>?_)
 obtain rfl : _ = [_]:=hrk_hat54
 exact L_nil ⟨rfl,_,_,rfl,Le.refl _,fun _ _=>⟨_,_,_,rfl,rfl,hat54⟩,hst⟩
 refine opsS_cons ?_ ?_
 intro f w_ H25 X25 hS25 hE25 hP25 hst
 obtain ⟨g56,o56,cs56,hv56,hrk_hat56,hat56⟩:=(hP25 2 20 rfl rfl)
 obtain rfl : _ = [_]:=hrk_hat56
 refine L_ld rfl Tryz.isAgg3 hv56 (At.cell (AtH.at hat56 hst.sub) (j:=0) rfl) (L_nil ⟨rfl,_,_,rfl,Le.refl _,fun _ _=>rfl,hst⟩)
 refine opsS_cons (fun f w_ _ _ _ _ p hst=>L_lss rfl (p 3 21 rfl rfl) rfl (nO rfl rfl hst)) (opsS_cons (fun f w_ _ _ _ _ p hst=>mF (p 4 22 rfl rfl) rfl (nO rfl rfl hst)) (opsS_cons (fun f w_ _ _ s _ p hst=>L_mv (v:=v1) (g_yes rfl (Eq.trans (p 5 23 rfl rfl) (congrArg Value.bool hc29)) rfl) ((s 1 rfl).trans sf1) (nO rfl rfl hst)) (opsS_cons (fun f w_ _ _ s _ p hst=>L_mv (v:=I i_6) (g_yes rfl (Eq.trans (p 5 23 rfl rfl) (congrArg Value.bool hc29)) rfl) ((s 5 rfl).trans sf5) (nO rfl rfl hst)) (opsS_cons ?_ ?_))))
 intro f w_ H25 X25 hS25 hE25 hP25 hst
 refine L_ix (r:=RP.int) (g_yes rfl (Eq.trans (hP25 5 23 rfl rfl) (congrArg Value.bool hc29)) rfl) Tryz.underlying23 Tryz.sizeOf3 (hP25 6 24 rfl rfl) (RP.mono _ h1 (Le.trans l8 hE25)) (hP25 7 25 rfl rfl) hix9 (fun g58 o59 cs_g58 hrk_hat60 hat60=>?_)
 obtain rfl : _ = [_]:=hrk_hat60
 exact L_nil ⟨rfl,_,_,rfl,Le.refl _,fun _ _=>⟨_,_,_,rfl,rfl,hat60⟩,hst⟩
 refine opsS_cons ?_ ?_
 intro f w_ H25 X25 hS25 hE25 hP25 hst
 obtain ⟨g62,o62,cs62,hv62,hrk_hat62,hat62⟩:=(hP25 8 26 rfl rfl)
 obtain rfl : _ = [_]:=hrk_hat62
 refine L_ld (v:=I x_9) (g_yes rfl (Eq.trans (hP25 5 23 rfl rfl) (congrArg Value.bool hc29)) rfl) Tryz.isAgg3 hv62 (At.cell (AtH.at hat62 hst.sub) (j:=0) rfl) (L_nil ⟨rfl,_,_,rfl,Le.refl _,fun _ _=>rfl,hst⟩)
 refine opsS_cons (fun f w_ _ _ s _ p hst=>L_fa (o':=0) (g_yes rfl (Eq.trans (p 5 23 rfl rfl) (congrArg Value.bool hc29)) rfl) fa_26_0 ((s 2 rfl).trans sf2) rfl (nO rfl rfl hst)) (opsS_cons (fun f w_ _ _ _ _ p hst=>L_ld (v:=v0_0) (g_yes rfl (Eq.trans (p 5 23 rfl rfl) (congrArg Value.bool hc29)) rfl) Tryz.isAgg23 (p 10 28 rfl rfl) (At.cell0 (Blk.at (Star.blkAt 0 hst rfl)) (j:=0) rfl) (nO rfl rfl hst)) (opsS_cons (fun f w_ _ _ s _ p hst=>L_mv (v:=I i_6) (g_yes rfl (Eq.trans (p 5 23 rfl rfl) (congrArg Value.bool hc29)) rfl) ((s 5 rfl).trans sf5) (nO rfl rfl hst)) (opsS_cons ?_ ?_)))
 intro f w_ H25 X25 hS25 hE25 hP25 hst
 refine L_ix (r:=RP.int) (g_yes rfl (Eq.trans (hP25 5 23 rfl rfl) (congrArg Value.bool hc29)) rfl) Tryz.underlying23 Tryz.sizeOf3 (hP25 11 29 rfl rfl) (RP.mono _ h0_0 (Le.trans l8 hE25)) (hP25 12 30 rfl rfl) hx19 (fun g64 o65 cs_g64 hrk_hat66 hat66=>?_)
 obtain rfl : _ = [_]:=hrk_hat66
 exact L_nil ⟨rfl,_,_,rfl,Le.refl _,fun _ _=>⟨_,_,_,rfl,rfl,hat66⟩,hst⟩
 refine opsS_cons ?_ ?_
 intro f w_ H25 X25 hS25 hE25 hP25 hst
 obtain ⟨g68,o68,cs68,hv68,hrk_hat68,hat68⟩:=(hP25 13 31 rfl rfl)
 obtain rfl : _ = [_]:=hrk_hat68
 refine L_ld (v:=I x19) (g_yes rfl (Eq.trans (hP25 5 23 rfl rfl) (congrArg Value.bool hc29)) rfl) Tryz.isAgg3 hv68 (At.cell (AtH.at hat68 hst.sub) (j:=0) rfl) (L_nil ⟨rfl,_,_,rfl,Le.refl _,fun _ _=>rfl,hst⟩)
 exact opsS_nil
 refine L_gtr (g_yes rfl (Eq.trans (hT25 5 23 rfl rfl) (congrArg Value.bool hc29)) rfl) (hT25 9 27 rfl rfl) (hT25 14 32 rfl rfl) (L_pick (v:=Bo b24) rfl (Eq.trans (hT25 5 23 rfl rfl) (congrArg Value.bool hc29)) (congrArg Value.bool (so hb24)) (nn (rj hR28 ⟨H25,hE25,((hS25 1 rfl).trans sf1),((hS25 2 rfl).trans sf2),((hS25 5 rfl).trans sf5),rfl,hst⟩)))
 intro f w_ hR
 obtain ⟨H26,l27,sf1,sf2,sf5,sf34,hst⟩:=rk hR28 hR
 refine W_cond (b:=b24) sf34 (fun hc70=>?_) (fun hc70=>?_)
 have hB9:=(ite_t hc70).symm.trans hB9
 refine sq (aB rfl (nn (W_ret (retG1 (v1:=Bo false) Tryz.results122 rfl ?_))))
 obtain rfl:=so hB9
 obtain rfl:=so hL9
 obtain rfl:=so hF
 exact ⟨rfl,(Star.down (Star.keepN 0 hst) (Le.trans l8 l27) c0)⟩
 have hB9:=(ite_f hc70).symm.trans hB9
 refine W_skip (W_region (mF sf5 rfl (L_add rfl rfl rfl (aI rfl (nn ?_)))))
 obtain rfl:=so hB9
 show ∃ m,m < _∧I9 m _ _
 refine ⟨rest9.length,by simp,?_⟩
 exact ij hI9 ⟨i_6 + 1,rest9,H26,rfl,drop_next hd9,by simp at hl9; omega,hL9,(Le.trans l8 l27),sf1,sf2,(Eq.trans rfl (congrArg (Value.int .i64) (i64_succ (n:=cells.length) (by simp at hl9; omega) hlen9))),hst⟩
 rcases suf9 with _ | ⟨_,_⟩
 obtain rfl:=range_nil hL9
 refine W_exit (rj hR9 ⟨H7,rfl,l8,(Star.keepN 0 hst)⟩)
 exact absurd (of_decide_eq_false hc10) (by simp at hl9; omega)
 intro f w_ hR
 obtain ⟨H7,rfl,l8,hst⟩:=rk hR9 hR
 refine sq (aB rfl (nn (W_ret (retG1 (v1:=Bo true) Tryz.results122 rfl ?_))))
 obtain rfl:=so hF
 exact ⟨rfl,(Star.down hst l8 c0)⟩
theorem s_CellsValid_c {fu : Nat} {m : Model} {cells : List Int} {v0_0 : Value} {v0_1 : Value} {v1 : Value} {H : FH} {w : World} (hst : Star H w []) (h0_0 : (rS 3 RP.int).rel H [v0_0] m.sizes) (h0_1 : (rS 79 (rRule 3 23)).rel H [v0_1] m.rules) (h1 : (rS 3 RP.int).rel H [v1] cells) {r : Bool} (hF : s_CellsValid fu m cells = some r) :
 C Tryz.prog 69 #[.agg #[v0_0,v0_1],v1] w fun v w'=>v = Bo r∧Star H w' []:=by
 unfold s_CellsValid at hF
 refine C_enter Tryz.func69 rfl Tryz.ntmps69 rfl (sq (L_box (v:=.agg #[v0_0,v0_1]) (cs:=#[v0_0,v0_1]) rfl rfl rfl hst (fun g3 w4 hst=>aB rfl (nq ?_))))
 obtain ⟨x10,hx10,hF⟩:=bind_some hF
 obtain ⟨b19,hb19,hF⟩:=bind_some hF
 obtain ⟨R20,hR20⟩:=exR fun f w_=>f 4 = Bo b19∧Star H w_ ([])
 refine W_join R20 ?_ ?_
 refine W_region (L_lda (cs:=[v0_0,v0_1]) rfl Tryz.isAgg26 Tryz.sizeOf26 rfl (At.sub0 (Blk.at (Star.blkAt 0 hst rfl)) 0 2) rfl ?_)
 obtain ⟨H21b,l22,s23,z24,k25⟩:=hst.borrow
 refine L_call rfl Tryz.call51 (ops1 rfl) (s_ModelValid_c (m:=m) s23 (RP.mono _ h0_0 l22) (RP.mono _ h0_1 l22) hx10) ?_
 rintro _ w26 ⟨rfl,hst⟩
 have hst:=k25 hst c0
 refine mB rfl (L_split (d:=7) (b:=x10) rfl (fun hc27=>?_) (fun hc27=>?_))
 rw [ite_t hc27] at hb19
 obtain ⟨x17,hx17,hb19⟩:=bind_some hb19
 refine L_lda (cs:=[v0_0,v0_1]) rfl Tryz.isAgg26 Tryz.sizeOf26 rfl (At.sub0 (Blk.at (Star.blkAt 0 hst rfl)) 0 2) rfl (mV v1 rfl ?_)
 obtain ⟨H28b,l29,s30,z31,k32⟩:=hst.borrow
 refine L_call rfl Tryz.call122 (ops2 rfl rfl) (s_l6Cells_c (m:=m) (cells:=cells) s30 (RP.mono _ h0_0 l29) (RP.mono _ h0_1 l29) (RP.mono _ h1 l29) hx17) ?_
 rintro _ w33 ⟨rfl,hst⟩
 have hst:=k32 hst c0
 refine L_pick (v:=Bo b19) rfl rfl (congrArg Value.bool (so hb19)) (aB rfl (nn (rj hR20 ⟨rfl,(Star.keepN 0 hst)⟩)))
 rw [ite_f hc27] at hb19
 refine ps rfl (ps rfl (ps rfl (L_pick (v:=Bo b19) rfl rfl (congrArg Value.bool (so hb19)) (aB rfl (nn (rj hR20 ⟨rfl,(Star.keepN 0 hst)⟩))))))
 intro f w_ hR
 obtain ⟨sf4,hst⟩:=rk hR20 hR
 refine W_ret (retG1 (v1:=Bo b19) Tryz.results69 sf4 ?_)
 obtain rfl:=so hF
 exact ⟨rfl,hst⟩
theorem s_EncodeCells_c {fu : Nat} {m : Model} {cells : List Int} {v0_0 : Value} {v0_1 : Value} {v1 : Value} {H : FH} {w : World} (hst : Star H w []) (h0_0 : (rS 3 RP.int).rel H [v0_0] m.sizes) (h0_1 : (rS 79 (rRule 3 23)).rel H [v0_1] m.rules) (h1 : (rS 3 RP.int).rel H [v1] cells) {r : (List Bool) × Bool} (hF : s_EncodeCells fu m cells = some r) :
 C Tryz.prog 26 #[.agg #[v0_0,v0_1],v1] w fun v w'=>∃ (u1 : Value),v = .tuple #[u1,Bo r.2]∧Star H w' [oF 4 RP.bool u1 r.1]:=by
 unfold s_EncodeCells at hF
 refine C_enter Tryz.func26 rfl Tryz.ntmps26 rfl (sq (L_box (v:=.agg #[v0_0,v0_1]) (cs:=#[v0_0,v0_1]) rfl rfl rfl hst (fun g3 w4 hst=>aV S0 rfl (aB rfl (nq (W_seq ?_))))))
 obtain ⟨x10,hx10,hF⟩:=bind_some hF
 refine W_region (L_lda (cs:=[v0_0,v0_1]) rfl Tryz.isAgg26 Tryz.sizeOf26 rfl (At.sub0 (Blk.at (Star.blkAt 0 hst rfl)) 0 2) rfl (mV v1 rfl ?_))
 obtain ⟨H12b,l13,s14,z15,k16⟩:=hst.borrow
 refine L_call rfl Tryz.call69 (ops2 rfl rfl) (s_CellsValid_c (m:=m) (cells:=cells) s14 (RP.mono _ h0_0 l13) (RP.mono _ h0_1 l13) (RP.mono _ h1 l13) hx10) ?_
 rintro _ w17 ⟨rfl,hst⟩
 have hst:=k16 hst c0
 refine L_not_ rfl rfl (nn (W_cond (b:=(!x10)) rfl (fun hc18=>?_) (fun hc18=>?_)))
 have hF:=(ite_t hc18).symm.trans hF
 refine sq (L_bs rfl parts0 (bs_37_0  ) hst (fun g22 w23 hst=>?_))
 have hst:=Star.mkRow (R:=(OR.frz RP.bool)) [] [] 0 hst rfl rfl rfl (by decide)
 refine aV (Sl g22 0 0) rfl (aB rfl (nn (W_ret (retG2 (v1:=(Sl g22 0 0)) (v2:=Bo false) Tryz.results26 rfl rfl ?_))))
 obtain rfl:=so hF
 exact ⟨(Sl g22 0 0),rfl,(Star.keepN 1 hst)⟩
 have hF:=(ite_f hc18).symm.trans hF
 refine W_skip (W_seq ?_)
 obtain ⟨x25,hx25,hF⟩:=bind_some hF
 refine W_region (L_mk (R:=(OR.frz RP.bool)) (z0:=false) (zc:=[Bo false]) rfl et_37 (by kernel_rfl) (fun _ _=>⟨rfl,rfl⟩) rfl rfl hx25 hst (fun v29 w30 hst=>aV v29 rfl (nq (sq (aI rfl (nn ?_))))))
 have hlen36 : List.length cells≤9223372036854775807:=len_le (slice_len h1)
 obtain ⟨j36,hL36,hF⟩:=bind_some hF
 obtain ⟨R36,hR36⟩:=exR fun f w_=>∃ out_33 : List Bool,∃ H34 : FH,j36 = .nx out_33∧Le H H34∧f 6 = v29∧Star H34 w_ ([oF 4 RP.bool v29 out_33])
 refine W_join R36 ?_ ?_
 refine W_block ?_
 obtain ⟨I36,hI36⟩:=exI fun n f w_=>∃ i_32 : Nat,∃ suf36 : List Int,∃ out_33 : List Bool,∃ H34 : FH,n = suf36.length∧List.drop i_32 cells = suf36∧i_32 + suf36.length = cells.length∧rangeL (s_EncodeCells_b1 m) suf36 i_32 out_33 = some j36∧Le H H34∧f 1 = v1∧f 2 = Pt g3∧f 6 = v29∧f 7 = I i_32∧Star H34 w_ ([oF 4 RP.bool v29 out_33,box g3 26 #[v0_0,v0_1]])
 refine W_loop I36 (n:=cells.length) ?_ ?_
 exact ij hI36 ⟨0,cells,x25,H,rfl,rfl,Nat.zero_add _,hL36,(Le.refl _),rfl,rfl,rfl,rfl,hst⟩
 intro n36 f w_ hI
 obtain ⟨i_32,suf36,out_33,H34,rfl,hd36,hl36,hL36,l35,sf1,sf2,sf6,sf7,hst⟩:=ik hI36 hI
 refine W_seq (sq (mF sf7 rfl (mF sf1 rfl (L_len rfl Tryz.underlying23 rfl (slice_len (RP.mono _ h1 l35)) (L_lss rfl rfl rfl (nn (W_cond (b:=decide ((i_32 : Int) < (cells.length : Int))) rfl (fun hc37=>?_) (fun hc37=>?_))))))))
 have hlt36:=of_decide_eq_true hc37
 rcases suf36 with _ | ⟨x_36,rest36⟩
 exact absurd hlt36 (by simp at hl36; omega)
 obtain ⟨o36,hB36,hL36⟩:=range_cons hL36
 rw [s_EncodeCells_b1] at hB36
 have hix36:=drop_idx hd36
 refine W_skip (W_seq (W_block ?_))
 obtain ⟨x47,hx47,hB36⟩:=bind_some hB36
 obtain ⟨x49,hx49,hB36⟩:=bind_some hB36
 refine W_drawS 9 [isV (v29),isV (.agg #[v0_0,v0_1]),isV (I i_32),isV (v1),isV (I i_32),isEl RP.int x_36 0,isV (I x_36),isV (I x47),isV (I (i64 (x47 - 1)))] [oF 4 RP.bool v29 out_33,box g3 26 #[v0_0,v0_1]] [] ([]) [([],[]),([],[]),([],[]),([],[]),([],[]),([],[]),([],[]),([],[]),([],[])] (S:=[]) Tryz_mix (by kernel_rfl) rfl (by kernel_rfl) (amF_cons (mono_V _) (amF_cons (mono_V _) (amF_cons (mono_V _) (amF_cons (mono_V _) (amF_cons (mono_V _) (amF_cons (mono_el _ _ _) (amF_cons (mono_V _) (amF_cons (mono_V _) (amF_cons (mono_V _) amF_nil))))))))) hst ?_ (fun f w_ H53 hS53 hE53 hT53 hst=>?_)
 refine opsS_cons (fun f w_ _ _ s _ _ hst=>mF ((s 6 rfl).trans sf6) rfl (nO rfl rfl hst)) (opsS_cons (fun f w_ _ _ s _ _ hst=>L_lda (cs:=[v0_0,v0_1]) rfl Tryz.isAgg26 Tryz.sizeOf26 ((s 2 rfl).trans sf2) (At.sub0 (Blk.at (Star.blkAt 1 hst rfl)) 0 2) rfl (nO rfl rfl hst)) (opsS_cons (fun f w_ _ _ s _ _ hst=>mF ((s 7 rfl).trans sf7) rfl (nO rfl rfl hst)) (opsS_cons (fun f w_ _ _ s _ _ hst=>mF ((s 1 rfl).trans sf1) rfl (nO rfl rfl hst)) (opsS_cons (fun f w_ _ _ s _ _ hst=>mF ((s 7 rfl).trans sf7) rfl (nO rfl rfl hst)) (opsS_cons ?_ ?_)))))
 intro f w_ H53 X53 hS53 hE53 hP53 hst
 refine L_ix (r:=RP.int) rfl Tryz.underlying23 Tryz.sizeOf3 (hP53 3 23 rfl rfl) (RP.mono _ h1 (Le.trans l35 hE53)) (hP53 4 24 rfl rfl) hix36 (fun g64 o65 cs_g64 hrk_hat66 hat66=>?_)
 obtain rfl : _ = [_]:=hrk_hat66
 exact L_nil ⟨rfl,_,_,rfl,Le.refl _,fun _ _=>⟨_,_,_,rfl,rfl,hat66⟩,hst⟩
 refine opsS_cons ?_ ?_
 intro f w_ H53 X53 hS53 hE53 hP53 hst
 obtain ⟨g68,o68,cs68,hv68,hrk_hat68,hat68⟩:=(hP53 5 25 rfl rfl)
 obtain rfl : _ = [_]:=hrk_hat68
 refine L_ld rfl Tryz.isAgg3 hv68 (At.cell (AtH.at hat68 hst.sub) (j:=0) rfl) (L_nil ⟨rfl,_,_,rfl,Le.refl _,fun _ _=>rfl,hst⟩)
 refine opsS_cons ?_ ?_
 intro f w_ H53 X53 hS53 hE53 hP53 hst
 obtain ⟨H70b,l71,s72,z73,k74⟩:=hst.borrow
 refine L_call rfl Tryz.call70 (ops3 (hP53 1 21 rfl rfl) (hP53 2 22 rfl rfl) (hP53 6 26 rfl rfl)) (s_l7Var_c (m:=m) (cell:=(i_32 : Int)) (value:=x_36) s72 (RP.mono _ h0_0 (Le.trans (Le.trans l35 hE53) l71)) (RP.mono _ h0_1 (Le.trans (Le.trans l35 hE53) l71)) hx47) ?_
 rintro _ w75 ⟨rfl,hst⟩
 have hst:=k74 hst c0
 exact L_nil ⟨rfl,_,_,rfl,Le.refl _,fun _ _=>rfl,hst⟩
 refine opsS_cons (fun f w_ _ _ _ _ p hst=>L_sub rfl (p 7 27 rfl rfl) rfl (nO rfl rfl hst)) (opsS_nil)
 obtain ⟨g76,cap_g76,hv77,_,_⟩:=Star.row 0 hst rfl hx49
 refine L_ixO (R:=(OR.frz RP.bool)) (tb:=0) 0 rfl Tryz.underlying37 Tryz.sizeOf4 (hT53 0 20 rfl rfl) hv77 (by first | rfl | simp) (hT53 8 28 rfl rfl) hx49 ?_
 have hst:=Star.addF (r:=RP.bool) (cs:=[Bo true]) (x:=true) hst rfl
 refine L_stE1 (u:=Bo true) rfl Tryz.sizeOf4 rfl rfl rfl hv77 hst hx49 (fun w78 hst=>?_)
 refine nn (W_region (mF ((hS53 7 rfl).trans sf7) rfl (L_add rfl rfl rfl (aI rfl (nn ?_)))))
 obtain rfl:=so hB36
 show ∃ m,m < _∧I36 m _ _
 refine ⟨rest36.length,by simp,?_⟩
 exact ij hI36 ⟨i_32 + 1,rest36,(out_33.set (Int.toNat (i64 (x47 - 1))) true),H53,rfl,drop_next hd36,by simp at hl36; omega,hL36,(Le.trans l35 hE53),((hS53 1 rfl).trans sf1),((hS53 2 rfl).trans sf2),((hS53 6 rfl).trans sf6),(Eq.trans rfl (congrArg (Value.int .i64) (i64_succ (n:=cells.length) (by simp at hl36; omega) hlen36))),hst⟩
 rcases suf36 with _ | ⟨_,_⟩
 obtain rfl:=range_nil hL36
 refine W_exit (rj hR36 ⟨out_33,H34,rfl,l35,sf6,(Star.keepN 1 hst)⟩)
 exact absurd (of_decide_eq_false hc37) (by simp at hl36; omega)
 intro f w_ hR
 obtain ⟨out_33,H34,rfl,l35,sf6,hst⟩:=rk hR36 hR
 refine sq (mF sf6 rfl (aV v29 rfl (aB rfl (nn (W_ret (retG2 (v1:=v29) (v2:=Bo true) Tryz.results26 rfl rfl ?_))))))
 obtain rfl:=so hF
 exact ⟨v29,rfl,(Star.down hst l35 (co closed_bool c0))⟩
theorem l_cpBools_c {a : List Bool} {b : List Bool} {v0 : Value} {v1 : Value} {H : FH} {w : World} (hst : Star H w []) (h0 : (rS 4 RP.bool).rel H [v0] a) (h1 : (rS 4 RP.bool).rel H [v1] b) {r : Bool} (hF : l_cpBools a b = some r) :
 C Tryz.prog 27 #[v0,v1] w fun v w'=>v = Bo r∧Star H w' []:=by
 unfold l_cpBools at hF
 refine C_enter Tryz.func27 rfl Tryz.ntmps27 rfl (sq (aB rfl (nq (sq (mV v0 rfl (L_len rfl Tryz.underlying37 rfl (slice_len h0) (mV v1 rfl (L_len rfl Tryz.underlying37 rfl (slice_len h1) (L_neq rfl rfl rfl (nn (W_cond (b:=((a.length : Int) != (b.length : Int))) rfl (fun hc1=>?_) (fun hc1=>?_))))))))))))
 have hF:=(ite_t hc1).symm.trans hF
 refine sq (aB rfl (nn (W_ret (retG1 (v1:=Bo false) Tryz.results27 rfl ?_))))
 obtain rfl:=so hF
 exact ⟨rfl,hst⟩
 have hF:=(ite_f hc1).symm.trans hF
 refine W_skip (W_seq (sq (aI rfl (nn ?_))))
 have hlen5 : List.length a≤9223372036854775807:=len_le (slice_len h0)
 obtain ⟨j5,hL5,hF⟩:=bind_some hF
 obtain ⟨R5,hR5⟩:=exR fun f w_=>∃ H3 : FH,j5 = .nx ()∧Le H H3∧Star H3 w_ ([])
 refine W_join R5 ?_ ?_
 refine W_block ?_
 obtain ⟨I5,hI5⟩:=exI fun n f w_=>∃ i_2 : Nat,∃ suf5 : List Bool,∃ H3 : FH,n = suf5.length∧List.drop i_2 a = suf5∧i_2 + suf5.length = a.length∧rangeL (l_cpBools_b1 b) suf5 i_2 () = some j5∧Le H H3∧f 0 = v0∧f 1 = v1∧f 5 = I i_2∧Star H3 w_ ([])
 refine W_loop I5 (n:=a.length) ?_ ?_
 exact ij hI5 ⟨0,a,H,rfl,rfl,Nat.zero_add _,hL5,(Le.refl _),rfl,rfl,rfl,hst⟩
 intro n5 f w_ hI
 obtain ⟨i_2,suf5,H3,rfl,hd5,hl5,hL5,l4,sf0,sf1,sf5,hst⟩:=ik hI5 hI
 refine W_seq (sq (mF sf5 rfl (mF sf0 rfl (L_len rfl Tryz.underlying37 rfl (slice_len (RP.mono _ h0 l4)) (L_lss rfl rfl rfl (nn (W_cond (b:=decide ((i_2 : Int) < (a.length : Int))) rfl (fun hc6=>?_) (fun hc6=>?_))))))))
 have hlt5:=of_decide_eq_true hc6
 rcases suf5 with _ | ⟨x_5,rest5⟩
 exact absurd hlt5 (by simp at hl5; omega)
 obtain ⟨o5,hB5,hL5⟩:=range_cons hL5
 rw [l_cpBools_b1] at hB5
 have hix5:=drop_idx hd5
 refine W_skip (W_seq (W_block (W_seq ?_)))
 obtain ⟨x11,hx11,hB5⟩:=bind_some hB5
 refine W_drawS 8 [isV (v0),isV (I i_2),isEl RP.bool x_5 0,isV (Bo x_5),isV (v1),isV (I i_2),isEl RP.bool x11 0,isV (Bo x11)] [] [] ([]) [([],[]),([],[]),([],[]),([],[]),([],[]),([],[]),([],[]),([],[])] (S:=[]) Tryz_mix (by kernel_rfl) rfl (by kernel_rfl) (amF_cons (mono_V _) (amF_cons (mono_V _) (amF_cons (mono_el _ _ _) (amF_cons (mono_V _) (amF_cons (mono_V _) (amF_cons (mono_V _) (amF_cons (mono_el _ _ _) (amF_cons (mono_V _) amF_nil)))))))) hst ?_ (fun f w_ H16 hS16 hE16 hT16 hst=>?_)
 refine opsS_cons (fun f w_ _ _ s _ _ hst=>mF ((s 0 rfl).trans sf0) rfl (nO rfl rfl hst)) (opsS_cons (fun f w_ _ _ s _ _ hst=>mF ((s 5 rfl).trans sf5) rfl (nO rfl rfl hst)) (opsS_cons ?_ ?_))
 intro f w_ H16 X16 hS16 hE16 hP16 hst
 refine L_ix (r:=RP.bool) rfl Tryz.underlying37 Tryz.sizeOf4 (hP16 0 17 rfl rfl) (RP.mono _ h0 (Le.trans l4 hE16)) (hP16 1 18 rfl rfl) hix5 (fun g25 o26 cs_g25 hrk_hat27 hat27=>?_)
 obtain rfl : _ = [_]:=hrk_hat27
 exact L_nil ⟨rfl,_,_,rfl,Le.refl _,fun _ _=>⟨_,_,_,rfl,rfl,hat27⟩,hst⟩
 refine opsS_cons ?_ ?_
 intro f w_ H16 X16 hS16 hE16 hP16 hst
 obtain ⟨g29,o29,cs29,hv29,hrk_hat29,hat29⟩:=(hP16 2 19 rfl rfl)
 obtain rfl : _ = [_]:=hrk_hat29
 refine L_ld rfl Tryz.isAgg4 hv29 (At.cell (AtH.at hat29 hst.sub) (j:=0) rfl) (L_nil ⟨rfl,_,_,rfl,Le.refl _,fun _ _=>rfl,hst⟩)
 refine opsS_cons (fun f w_ _ _ s _ _ hst=>mF ((s 1 rfl).trans sf1) rfl (nO rfl rfl hst)) (opsS_cons (fun f w_ _ _ s _ _ hst=>mF ((s 5 rfl).trans sf5) rfl (nO rfl rfl hst)) (opsS_cons ?_ ?_))
 intro f w_ H16 X16 hS16 hE16 hP16 hst
 refine L_ix (r:=RP.bool) rfl Tryz.underlying37 Tryz.sizeOf4 (hP16 4 21 rfl rfl) (RP.mono _ h1 (Le.trans l4 hE16)) (hP16 5 22 rfl rfl) hx11 (fun g31 o32 cs_g31 hrk_hat33 hat33=>?_)
 obtain rfl : _ = [_]:=hrk_hat33
 exact L_nil ⟨rfl,_,_,rfl,Le.refl _,fun _ _=>⟨_,_,_,rfl,rfl,hat33⟩,hst⟩
 refine opsS_cons ?_ ?_
 intro f w_ H16 X16 hS16 hE16 hP16 hst
 obtain ⟨g35,o35,cs35,hv35,hrk_hat35,hat35⟩:=(hP16 6 23 rfl rfl)
 obtain rfl : _ = [_]:=hrk_hat35
 refine L_ld rfl Tryz.isAgg4 hv35 (At.cell (AtH.at hat35 hst.sub) (j:=0) rfl) (L_nil ⟨rfl,_,_,rfl,Le.refl _,fun _ _=>rfl,hst⟩)
 exact opsS_nil
 refine L_bneq (b:=x_5) (c:=x11) rfl Tryz.underlying4 (hT16 3 20 rfl rfl) (hT16 7 24 rfl rfl) (nn (W_cond (b:=(x_5 != x11)) rfl (fun hc37=>?_) (fun hc37=>?_)))
 have hB5:=(ite_t hc37).symm.trans hB5
 refine sq (aB rfl (nn (W_ret (retG1 (v1:=Bo false) Tryz.results27 rfl ?_))))
 obtain rfl:=so hB5
 obtain rfl:=so hL5
 obtain rfl:=so hF
 exact ⟨rfl,(Star.down hst (Le.trans l4 hE16) c0)⟩
 have hB5:=(ite_f hc37).symm.trans hB5
 refine W_skip (W_region (mF ((hS16 5 rfl).trans sf5) rfl (L_add rfl rfl rfl (aI rfl (nn ?_)))))
 obtain rfl:=so hB5
 show ∃ m,m < _∧I5 m _ _
 refine ⟨rest5.length,by simp,?_⟩
 exact ij hI5 ⟨i_2 + 1,rest5,H16,rfl,drop_next hd5,by simp at hl5; omega,hL5,(Le.trans l4 hE16),((hS16 0 rfl).trans sf0),((hS16 1 rfl).trans sf1),(Eq.trans rfl (congrArg (Value.int .i64) (i64_succ (n:=a.length) (by simp at hl5; omega) hlen5))),hst⟩
 rcases suf5 with _ | ⟨_,_⟩
 obtain rfl:=range_nil hL5
 refine W_exit (rj hR5 ⟨H3,rfl,l4,hst⟩)
 exact absurd (of_decide_eq_false hc6) (by simp at hl5; omega)
 intro f w_ hR
 obtain ⟨H3,rfl,l4,hst⟩:=rk hR5 hR
 refine sq (aB rfl (nn (W_ret (retG1 (v1:=Bo true) Tryz.results27 rfl ?_))))
 obtain rfl:=so hF
 exact ⟨rfl,(Star.down hst l4 c0)⟩
theorem i_holds_c {l : Int} {values : List Bool} {v1 : Value} {H : FH} {w : World} (hst : Star H w []) (h1 : (rS 4 RP.bool).rel H [v1] values) {r : Bool} (hF : i_holds l values = some r) :
 C Tryz.prog 163 #[I l,v1] w fun v w'=>v = Bo r∧Star H w' []:=by
 unfold i_holds at hF
 refine C_enter Tryz.func163 rfl Tryz.ntmps163 rfl (sq (aB rfl (nq ?_)))
 obtain ⟨x6,hx6,hF⟩:=bind_some hF
 obtain ⟨x8,hx8,hF⟩:=bind_some hF
 refine W_region (mV v1 rfl (mI rfl ?_))
 obtain ⟨H13b,l14,s15,z16,k17⟩:=hst.borrow
 refine L_call rfl Tryz.call100 (ops1 rfl) (i_variableOf_c (l:=l) s15 hx6) ?_
 rintro _ w18 ⟨rfl,hst⟩
 have hst:=k17 hst c0
 refine L_sub rfl rfl rfl (L_ix (r:=RP.bool) rfl Tryz.underlying37 Tryz.sizeOf4 rfl h1 rfl hx8 (fun g19 o20 cs_g19 hrk_hat21 hat21=>?_))
 obtain rfl : _ = [_]:=hrk_hat21
 refine L_ld rfl Tryz.isAgg4 rfl (At.cell (AtH.at hat21 hst.sub) (j:=0) rfl) (mI rfl (L_gtr rfl rfl rfl (L_beql (b:=x8) (c:=decide (l > 0)) rfl Tryz.underlying4 rfl rfl (aB rfl (nn (W_ret (retG1 (v1:=Bo (x8 == (decide (l > 0)))) Tryz.results163 rfl ?_)))))))
 obtain rfl:=so hF
 exact ⟨rfl,hst⟩
theorem i_Constraint_holds_c {c : Con} {values : List Bool} {v0_0 : Value} {v1 : Value} {H : FH} {w : World} (hst : Star H w []) (h0_0 : (rS 122 rTerm).rel H [v0_0] c.terms) (h1 : (rS 4 RP.bool).rel H [v1] values) {r : Bool} (hF : i_Constraint_holds c values = some r) :
 C Tryz.prog 125 #[.agg #[v0_0,I c.bound],v1] w fun v w'=>v = Bo r∧Star H w' []:=by
 unfold i_Constraint_holds at hF
 refine C_enter Tryz.func125 rfl Tryz.ntmps125 rfl (sq (L_box (v:=.agg #[v0_0,I c.bound]) (cs:=#[v0_0,I c.bound]) rfl rfl rfl hst (fun g3 w4 hst=>aB rfl (ns (aI rfl (nq (sq (fA 0 fa_73_0 rfl rfl (ldB 0 hst Tryz.isAgg71 rfl rfl rfl (L_len rfl Tryz.underlying71 rfl (slice_len h0_0) (mI rfl (nn ?_))))))))))))
 have hlen7 : List.length c.terms≤9223372036854775807:=len_le (slice_len h0_0)
 obtain ⟨j7,hL7,hF⟩:=bind_some hF
 obtain ⟨R7,hR7⟩:=exR fun f w_=>∃ sum_6 : Int,j7 = .nx sum_6∧f 2 = Pt g3∧f 5 = I sum_6∧Star H w_ ([box g3 73 #[v0_0,I c.bound]])
 refine W_join R7 ?_ ?_
 refine W_block ?_
 obtain ⟨I7,hI7⟩:=exI fun n f w_=>∃ i_5 : Nat,∃ suf7 : List Term,∃ sum_6 : Int,n = suf7.length∧List.drop i_5 c.terms = suf7∧i_5 + suf7.length = c.terms.length∧rangeL (i_Constraint_holds_b1 values) suf7 i_5 sum_6 = some j7∧f 1 = v1∧f 2 = Pt g3∧f 5 = I sum_6∧f 9 = v0_0∧f 10 = I (c.terms.length : Int)∧f 11 = I i_5∧Star H w_ ([box g3 73 #[v0_0,I c.bound]])
 refine W_loop I7 (n:=c.terms.length) ?_ ?_
 exact ij hI7 ⟨0,c.terms,0,rfl,rfl,Nat.zero_add _,hL7,rfl,rfl,rfl,rfl,rfl,rfl,hst⟩
 intro n7 f w_ hI
 obtain ⟨i_5,suf7,sum_6,rfl,hd7,hl7,hL7,sf1,sf2,sf5,sf9,sf10,sf11,hst⟩:=ik hI7 hI
 refine sq (L_lss rfl sf11 sf10 (nq (W_cond (b:=decide ((i_5 : Int) < (c.terms.length : Int))) rfl (fun hc8=>?_) (fun hc8=>?_))))
 have hlt7:=of_decide_eq_true hc8
 rcases suf7 with _ | ⟨x_7,rest7⟩
 exact absurd hlt7 (by simp at hl7; omega)
 obtain ⟨o7,hB7,hL7⟩:=range_cons hL7
 rw [i_Constraint_holds_b1] at hB7
 have hix7:=drop_idx hd7
 refine W_skip (W_seq (W_block (sq (L_ix (r:=rTerm) rfl Tryz.underlying71 Tryz.sizeOf122 sf9 h0_0 sf11 hix7 (fun g16 o17 cs_g16 hrk_hat18 hat18=>?_)))))
 obtain rfl:=rTerm_iff.1 hrk_hat18
 refine L_lda (cs:=[I x_7.coef,I x_7.lit]) rfl Tryz.isAgg122 Tryz.sizeOf122 rfl (At.sub (AtH.at hat18 hst.sub) 0 2) rfl (L_al (cs:=#[I 0,I 0]) rfl Tryz.zeroValue122 rfl hst (fun g20 w21 hst=>L_staB (vs:=#[I x_7.coef,I x_7.lit]) (cs2:=#[I x_7.coef,I x_7.lit]) 0 rfl Tryz.sizeOf122 rfl rfl rfl (ones_cons rfl (ones_cons rfl ones_nil)) hst rfl (by show 0 + 2≤2; decide) rfl (fun w22 hst=>nq ?_)))
 obtain ⟨x28,hx28,hB7⟩:=bind_some hB7
 refine W_region (fA 1 fa_122_1 rfl rfl (ldB 0 hst Tryz.isAgg3 rfl rfl rfl (mF sf1 rfl ?_)))
 obtain ⟨H30b,l31,s32,z33,k34⟩:=hst.borrow
 refine L_call rfl Tryz.call163 (ops2 rfl rfl) (i_holds_c (l:=x_7.lit) (values:=values) s32 (RP.mono _ h1 l31) hx28) ?_
 rintro _ w35 ⟨rfl,hst⟩
 have hst:=k34 hst c0
 refine nn ?_
 obtain ⟨sum_36,hA37,hB7⟩:=bind_some hB7
 obtain ⟨R37,hR37⟩:=exR fun f w_=>f 1 = v1∧f 2 = Pt g3∧f 5 = I sum_36∧f 9 = v0_0∧f 10 = I (c.terms.length : Int)∧f 11 = I i_5∧Star H w_ ([box g3 73 #[v0_0,I c.bound]])
 refine W_join R37 ?_ ?_
 refine W_cond (b:=x28) rfl (fun hc38=>?_) (fun hc38=>?_)
 have hA37:=(ite_t hc38).symm.trans hA37
 refine W_region (mF sf5 rfl (fA 0 fa_122_0 rfl rfl (ldB 0 hst Tryz.isAgg3 rfl rfl rfl (L_add rfl rfl rfl (aI rfl (nn ?_))))))
 obtain rfl:=so hA37
 have hst:=hst.get 1 rfl
 exact rj hR37 ⟨sf1,sf2,rfl,sf9,sf10,sf11,(Star.keepN 1 hst)⟩
 have hA37:=(ite_f hc38).symm.trans hA37
 refine W_skip ?_
 obtain rfl:=so hA37
 have hst:=hst.get 1 rfl
 exact rj hR37 ⟨sf1,sf2,sf5,sf9,sf10,sf11,(Star.keepN 1 hst)⟩
 intro f w_ hR
 obtain ⟨sf1,sf2,sf5,sf9,sf10,sf11,hst⟩:=rk hR37 hR
 refine W_region (L_add rfl sf11 rfl (mI rfl (nn ?_)))
 obtain rfl:=so hB7
 show ∃ m,m < _∧I7 m _ _
 refine ⟨rest7.length,by simp,?_⟩
 exact ij hI7 ⟨i_5 + 1,rest7,sum_36,rfl,drop_next hd7,by simp at hl7; omega,hL7,sf1,sf2,sf5,sf9,sf10,(Eq.trans rfl (congrArg (Value.int .i64) (i64_succ (n:=c.terms.length) (by simp at hl7; omega) hlen7))),hst⟩
 rcases suf7 with _ | ⟨_,_⟩
 obtain rfl:=range_nil hL7
 refine W_exit (rj hR7 ⟨sum_6,rfl,sf2,sf5,hst⟩)
 exact absurd (of_decide_eq_false hc8) (by simp at hl7; omega)
 intro f w_ hR
 obtain ⟨sum_6,rfl,sf2,sf5,hst⟩:=rk hR7 hR
 refine sq (mF sf5 rfl (fA 1 fa_73_1 sf2 rfl (ldB 0 hst Tryz.isAgg3 rfl rfl rfl (L_geq rfl rfl rfl (aB rfl (nn (W_ret (retG1 (v1:=Bo (decide (sum_6 ≥ c.bound))) Tryz.results125 rfl ?_))))))))
 obtain rfl:=so hF
 exact ⟨rfl,(Star.keepN 0 hst)⟩
theorem i_satisfies_1_c {c1 : List Bool} {c : Con} {v0_0 : Value} {g_c1 : Nat} {v1_0 : Value} {H : FH} {w : World} (hst : Star H w []) (h0_0 : (rS 122 rTerm).rel H [v0_0] c.terms) (hat_g_c1 : AtH H g_c1 0 [v1_0]) (h1_0 : (rS 4 RP.bool).rel H [v1_0] c1) {r : Bool} (hF : i_satisfies_1 c1 c = some r) :
 C Tryz.prog 124 #[.agg #[v0_0,I c.bound],Pt g_c1] w fun v w'=>v = Bo r∧Star H w' []:=by
 unfold i_satisfies_1 at hF
 refine C_enter Tryz.func124 rfl Tryz.ntmps124 rfl (sq (L_box (v:=.agg #[v0_0,I c.bound]) (cs:=#[v0_0,I c.bound]) rfl rfl rfl hst (fun g3 w4 hst=>aB rfl (nq ?_))))
 obtain ⟨x10,hx10,hF⟩:=bind_some hF
 refine W_region (L_lda (cs:=[v0_0,I c.bound]) rfl Tryz.isAgg73 Tryz.sizeOf73 rfl (At.sub0 (Blk.at (Star.blkAt 0 hst rfl)) 0 2) rfl (L_ld rfl Tryz.isAgg37 rfl (At.cell0 (AtH.at hat_g_c1 hst.sub) (j:=0) rfl) ?_))
 obtain ⟨H12b,l13,s14,z15,k16⟩:=hst.borrow
 refine L_call rfl Tryz.call125 (ops2 rfl rfl) (i_Constraint_holds_c (c:=c) (values:=c1) s14 (RP.mono _ h0_0 l13) (RP.mono _ h1_0 l13) hx10) ?_
 rintro _ w17 ⟨rfl,hst⟩
 have hst:=k16 hst c0
 refine L_not_ rfl rfl (aB rfl (nn (W_ret (retG1 (v1:=Bo (!x10)) Tryz.results124 rfl ?_))))
 obtain rfl:=so hF
 exact ⟨rfl,(Star.keepN 0 hst)⟩
theorem i_satisfies_c {list : List Con} {values : List Bool} {v0 : Value} {v1 : Value} {H : FH} {w : World} (hst : Star H w []) (h0 : (rS 73 (rCon 122)).rel H [v0] list) (h1 : (rS 4 RP.bool).rel H [v1] values) {r : Bool} (hF : i_satisfies list values = some r) :
 C Tryz.prog 71 #[v0,v1] w fun v w'=>v = Bo r∧Star H w' []:=by
 unfold i_satisfies at hF
 refine C_enter Tryz.func71 rfl Tryz.ntmps71 rfl (sq (L_box (v:=v1) (cs:=#[v1]) rfl rfl (cells_one (one_len (slice_len h1))) hst (fun g3 w4 hst=>aB rfl (nq ?_))))
 obtain ⟨x10,hx10,hF⟩:=bind_some hF
 refine W_region (mV v0 rfl (L_mf rfl (ops1 rfl) ?_))
 obtain ⟨H12b,l13,s14,z15,k16⟩:=hst.borrow
 have hf17 : Fun1 Tryz.prog (rCon 122) true Value.bool (i_satisfies_1 values) (.func (.func 124) #[] #[Pt g3]) H12b:=by
   refine ⟨_,_,rfl,Tryz.call124,fun H_ w_ hE_ hs_ cs_ x_ y_ args_ hr_ hy_ ha_=>?_⟩
   obtain ⟨p_0,rfl,hp_0⟩:=rCon_iff.1 hr_
   obtain rfl:=args_of (b:=#[.agg #[p_0,I x_.bound],Pt g3]) ha_
   exact i_satisfies_1_c (c1:=values) (c:=x_) hs_ hp_0 (AtH.le (AtH.of (fz_box 0 z15 rfl)) hE_) (RP.mono _ (RP.mono _ h1 l13) hE_) hy_
 refine L_call rfl Tryz.call123 (ops2 rfl rfl) (slices_ContainsFunc_implConstraint_c (s:=list) (f_:=(i_satisfies_1 values)) s14 (RP.mono _ h0 l13) hf17 hx10) ?_
 rintro _ w18 ⟨rfl,hst⟩
 have hst:=k16 hst c0
 refine L_not_ rfl rfl (aB rfl (nn (W_ret (retG1 (v1:=Bo (!x10)) Tryz.results71 rfl ?_))))
 obtain rfl:=so hF
 exact ⟨rfl,(Star.keepN 0 hst)⟩
theorem i_SatisfiesAll_c {list : List Con} {values : List Bool} {v0 : Value} {v1 : Value} {H : FH} {w : World} (hst : Star H w []) (h0 : (rS 73 (rCon 122)).rel H [v0] list) (h1 : (rS 4 RP.bool).rel H [v1] values) {r : Bool} (hF : i_SatisfiesAll list values = some r) :
 C Tryz.prog 28 #[v0,v1] w fun v w'=>v = Bo r∧Star H w' []:=by
 unfold i_SatisfiesAll at hF
 refine C_enter Tryz.func28 rfl Tryz.ntmps28 rfl (sq (aB rfl (nq ?_)))
 obtain ⟨x6,hx6,hF⟩:=bind_some hF
 obtain ⟨b15,hb15,hF⟩:=bind_some hF
 obtain ⟨R16,hR16⟩:=exR fun f w_=>f 4 = Bo b15∧Star H w_ ([])
 refine W_join R16 ?_ ?_
 refine W_region (mV v0 rfl ?_)
 obtain ⟨H17b,l18,s19,z20,k21⟩:=hst.borrow
 refine L_call rfl Tryz.call37 (ops1 rfl) (i_ProblemValid_c (list:=list) s19 (RP.mono _ h0 l18) hx6) ?_
 rintro _ w22 ⟨rfl,hst⟩
 have hst:=k21 hst c0
 refine mB rfl (L_split (d:=7) (b:=x6) rfl (fun hc23=>?_) (fun hc23=>?_))
 refine mV v1 rfl (L_len rfl Tryz.underlying37 rfl (slice_len h1) (L_eql rfl rfl rfl (L_pick (v:=Bo (x6 && ((values.length : Int) == 12))) rfl rfl (and_t hc23 rfl) (mB rfl (L_split (d:=12) (b:=(x6 && ((values.length : Int) == 12))) rfl (fun hc24=>?_) (fun hc24=>?_))))))
 rw [ite_t hc24] at hb15
 obtain ⟨x13,hx13,hb15⟩:=bind_some hb15
 refine mV v0 rfl (mV v1 rfl ?_)
 obtain ⟨H25b,l26,s27,z28,k29⟩:=hst.borrow
 refine L_call rfl Tryz.call71 (ops2 rfl rfl) (i_satisfies_c (list:=list) (values:=values) s27 (RP.mono _ h0 l26) (RP.mono _ h1 l26) hx13) ?_
 rintro _ w30 ⟨rfl,hst⟩
 have hst:=k29 hst c0
 refine L_pick (v:=Bo b15) rfl rfl (congrArg Value.bool (so hb15)) (aB rfl (nn (rj hR16 ⟨rfl,hst⟩)))
 rw [ite_f hc24] at hb15
 refine ps rfl (ps rfl (ps rfl (L_pick (v:=Bo b15) rfl rfl (congrArg Value.bool (so hb15)) (aB rfl (nn (rj hR16 ⟨rfl,hst⟩))))))
 refine ps rfl (ps rfl (ps rfl (L_pick (v:=Bo (x6 && ((values.length : Int) == 12))) rfl rfl (and_f hc23) (mB rfl (L_split (d:=12) (b:=(x6 && ((values.length : Int) == 12))) rfl (fun hc31=>?_) (fun hc31=>?_))))))
 rw [ite_t hc31] at hb15
 obtain ⟨x13,hx13,hb15⟩:=bind_some hb15
 refine mV v0 rfl (mV v1 rfl ?_)
 obtain ⟨H32b,l33,s34,z35,k36⟩:=hst.borrow
 refine L_call rfl Tryz.call71 (ops2 rfl rfl) (i_satisfies_c (list:=list) (values:=values) s34 (RP.mono _ h0 l33) (RP.mono _ h1 l33) hx13) ?_
 rintro _ w37 ⟨rfl,hst⟩
 have hst:=k36 hst c0
 refine L_pick (v:=Bo b15) rfl rfl (congrArg Value.bool (so hb15)) (aB rfl (nn (rj hR16 ⟨rfl,hst⟩)))
 rw [ite_f hc31] at hb15
 refine ps rfl (ps rfl (ps rfl (L_pick (v:=Bo b15) rfl rfl (congrArg Value.bool (so hb15)) (aB rfl (nn (rj hR16 ⟨rfl,hst⟩))))))
 intro f w_ hR
 obtain ⟨sf4,hst⟩:=rk hR16 hR
 refine W_ret (retG1 (v1:=Bo b15) Tryz.results28 sf4 ?_)
 obtain rfl:=so hF
 exact ⟨rfl,hst⟩
theorem l_FnEncodeSolves_c {fu : Nat} {code : List UInt8} {v0 : Value} {H : FH} {w : World} (hst : Star H w []) (h0 : (rS 5 RP.u8).rel H [v0] code) {r : Bool} (hF : l_FnEncodeSolves fu code = some r) :
 C Tryz.prog 5 #[v0] w fun v w'=>v = Bo r∧Star H w' []:=by
 unfold l_FnEncodeSolves at hF
 refine C_enter Tryz.func5 rfl Tryz.ntmps5 rfl (sq (aB rfl (nq (sq (mV v0 rfl (L_len rfl Tryz.underlying22 rfl (slice_len h0) (L_gtr rfl rfl rfl (nn (W_cond (b:=decide ((code.length : Int) > 1048576)) rfl (fun hc1=>?_) (fun hc1=>?_))))))))))
 have hF:=(ite_t hc1).symm.trans hF
 refine sq (aB rfl (nn (W_ret (retG1 (v1:=Bo true) Tryz.results5 rfl ?_))))
 obtain rfl:=so hF
 exact ⟨rfl,hst⟩
 have hF:=(ite_f hc1).symm.trans hF
 refine W_skip (W_seq ?_)
 obtain ⟨hx2,hF⟩:=anyB_some hF
 refine W_region (mV v0 rfl (L_call rfl Tryz.call25 (ops1 rfl) (s_DrawEncodeCells_c (code:=code) hst h0 hx2) ?_))
 rintro _ w7 ⟨x2,gd7,H7,l7,r7_0,r7_1,r7_2,rfl,hr7_0,hr7_1,hr7_2,hst⟩
 have hF:=hF x2 gd7
 refine mV (.tuple #[.agg #[r7_0,r7_1],r7_2]) rfl (L_ex (v:=.agg #[r7_0,r7_1]) rfl rfl rfl (L_ex (v:=r7_2) rfl rfl rfl (L_al (cs:=#[S0,S0]) rfl Tryz.zeroValue26 rfl hst (fun g8 w9 hst=>L_staB (vs:=#[r7_0,r7_1]) (cs2:=#[r7_0,r7_1]) 0 rfl Tryz.sizeOf26 rfl rfl rfl (ones_cons (one_len (slice_len hr7_0)) (ones_cons (one_len (slice_len hr7_1)) ones_nil)) hst rfl (by show 0 + 2≤2; decide) rfl (fun w10 hst=>aV r7_2 rfl (nq ?_))))))
 obtain ⟨x16,hx16,hF⟩:=bind_some hF
 refine W_region (L_lda (cs:=[r7_0,r7_1]) rfl Tryz.isAgg26 Tryz.sizeOf26 rfl (At.sub0 (Blk.at (Star.blkAt 0 hst rfl)) 0 2) rfl (mV r7_2 rfl ?_))
 obtain ⟨H19b,l20,s21,z22,k23⟩:=hst.borrow
 refine L_call rfl Tryz.call19 (ops2 rfl rfl) (i_EncodeCells_c (m:=x2.1) (cells:=x2.2) s21 (RP.mono _ hr7_0 l20) (RP.mono _ hr7_1 l20) (RP.mono _ hr7_2 l20) hx16) ?_
 rintro _ w24 ⟨r24_0,rfl,hst⟩
 have hst:=k23 hst (co closed_bool c0)
 refine mV (.tuple #[r24_0,Bo x16.2]) rfl (L_ex (v:=r24_0) rfl rfl rfl (L_ex (v:=Bo x16.2) rfl rfl rfl (aV r24_0 rfl (aB rfl (nq ?_)))))
 obtain ⟨x31,hx31,hF⟩:=bind_some hF
 refine W_region (L_lda (cs:=[r7_0,r7_1]) rfl Tryz.isAgg26 Tryz.sizeOf26 rfl (At.sub0 (Blk.at (Star.blkAt 1 hst rfl)) 0 2) rfl (mV r7_2 rfl ?_))
 obtain ⟨H34b,l35,s36,z37,k38⟩:=hst.borrow
 refine L_call rfl Tryz.call26 (ops2 rfl rfl) (s_EncodeCells_c (m:=x2.1) (cells:=x2.2) s36 (RP.mono _ hr7_0 l35) (RP.mono _ hr7_1 l35) (RP.mono _ hr7_2 l35) hx31) ?_
 rintro _ w39 ⟨r39_0,rfl,hst⟩
 have hst:=k38 hst (co closed_bool c0)
 refine mV (.tuple #[r39_0,Bo x31.2]) rfl (L_ex (v:=r39_0) rfl rfl rfl (L_ex (v:=Bo x31.2) rfl rfl rfl (aV r39_0 rfl (aB rfl (nq ?_)))))
 obtain ⟨x41,hx41,hF⟩:=bind_some hF
 refine W_region (L_lda (cs:=[r7_0,r7_1]) rfl Tryz.isAgg26 Tryz.sizeOf26 rfl (At.sub0 (Blk.at (Star.blkAt 2 hst rfl)) 0 2) rfl (L_call rfl Tryz.call13 (ops1 rfl) (i_EncodeModel_c (m:=x2.1) hst hr7_0 hr7_1 hx41) ?_))
 rintro _ w44 ⟨H44,l44,r44_0,rfl,hst⟩
 refine mV (.tuple #[r44_0,Bo x41.2]) rfl (L_ex (v:=r44_0) rfl rfl rfl (L_ex (v:=Bo x41.2) rfl rfl rfl (aV r44_0 rfl (aB rfl (nq (W_seq ?_))))))
 obtain ⟨b55,hb55,hF⟩:=bind_some hF
 obtain ⟨R56,hR56⟩:=exR fun f w_=>f 3 = Pt g8∧f 4 = r7_2∧f 5 = r24_0∧f 6 = Bo x16.2∧f 7 = r39_0∧f 8 = Bo x31.2∧f 9 = r44_0∧f 52 = Bo ((b55 || (!x16.2)) || (!x41.2))∧Star H44 w_ ([oF 4 RP.bool r24_0 x16.1,oF 4 RP.bool r39_0 x31.1,oF 73 (rCon 122) r44_0 x41.1,box g8 26 #[r7_0,r7_1]])
 refine W_join R56 ?_ ?_
 refine W_region (mB rfl (mB rfl (L_bneq (b:=x16.2) (c:=x31.2) rfl Tryz.underlying4 rfl rfl (mB rfl (L_split (d:=39) (b:=(x16.2 != x31.2)) rfl (fun hc57=>?_) (fun hc57=>?_))))))
 rw [ite_t hc57] at hb55
 refine ps rfl (ps rfl (ps rfl (ps rfl (L_pick (v:=Bo b55) rfl rfl (congrArg Value.bool (so hb55)) (mB rfl (L_split (d:=45) (b:=b55) rfl (fun hc58=>?_) (fun hc58=>?_)))))))
 refine ps rfl (ps rfl (L_pick (v:=Bo (b55 || (!x16.2))) rfl rfl (or_t hc58) (mB rfl (L_split (d:=49) (b:=(b55 || (!x16.2))) rfl (fun hc59=>?_) (fun hc59=>?_)))))
 refine ps rfl (ps rfl (L_pick (v:=Bo ((b55 || (!x16.2)) || (!x41.2))) rfl rfl (or_t hc59) (nn ?_)))
 have hst:=hst.gets [3,1,2,3] rfl
 exact rj hR56 ⟨rfl,rfl,rfl,rfl,rfl,rfl,rfl,rfl,hst⟩
 refine mB rfl (L_not_ rfl rfl (L_pick (v:=Bo ((b55 || (!x16.2)) || (!x41.2))) rfl rfl (or_f hc59 rfl) (nn ?_)))
 have hst:=hst.gets [3,1,2,3] rfl
 exact rj hR56 ⟨rfl,rfl,rfl,rfl,rfl,rfl,rfl,rfl,hst⟩
 refine mB rfl (L_not_ rfl rfl (L_pick (v:=Bo (b55 || (!x16.2))) rfl rfl (or_f hc58 rfl) (mB rfl (L_split (d:=49) (b:=(b55 || (!x16.2))) rfl (fun hc60=>?_) (fun hc60=>?_)))))
 refine ps rfl (ps rfl (L_pick (v:=Bo ((b55 || (!x16.2)) || (!x41.2))) rfl rfl (or_t hc60) (nn ?_)))
 have hst:=hst.gets [3,1,2,3] rfl
 exact rj hR56 ⟨rfl,rfl,rfl,rfl,rfl,rfl,rfl,rfl,hst⟩
 refine mB rfl (L_not_ rfl rfl (L_pick (v:=Bo ((b55 || (!x16.2)) || (!x41.2))) rfl rfl (or_f hc60 rfl) (nn ?_)))
 have hst:=hst.gets [3,1,2,3] rfl
 exact rj hR56 ⟨rfl,rfl,rfl,rfl,rfl,rfl,rfl,rfl,hst⟩
 rw [ite_f hc57] at hb55
 obtain ⟨x53,hx53,hb55⟩:=bind_some hb55
 refine mV r24_0 rfl (mV r39_0 rfl ?_)
 obtain ⟨H61b,l62,s63,z64,k65⟩:=hst.borrow
 have hb66 : (rS 4 RP.bool).rel H61b [r24_0] x16.1:=fz_own 2 z64 rfl
 have hb67 : (rS 4 RP.bool).rel H61b [r39_0] x31.1:=fz_own 1 z64 rfl
 refine L_call rfl Tryz.call27 (ops2 rfl rfl) (l_cpBools_c (a:=x16.1) (b:=x31.1) s63 hb66 hb67 hx53) ?_
 rintro _ w68 ⟨rfl,hst⟩
 have hst:=k65 hst c0
 refine L_not_ rfl rfl (L_pick (v:=Bo b55) rfl rfl (congrArg Value.bool (so hb55)) (mB rfl (L_split (d:=45) (b:=b55) rfl (fun hc69=>?_) (fun hc69=>?_))))
 refine ps rfl (ps rfl (L_pick (v:=Bo (b55 || (!x16.2))) rfl rfl (or_t hc69) (mB rfl (L_split (d:=49) (b:=(b55 || (!x16.2))) rfl (fun hc70=>?_) (fun hc70=>?_)))))
 refine ps rfl (ps rfl (L_pick (v:=Bo ((b55 || (!x16.2)) || (!x41.2))) rfl rfl (or_t hc70) (nn ?_)))
 have hst:=hst.gets [3,1,2,3] rfl
 exact rj hR56 ⟨rfl,rfl,rfl,rfl,rfl,rfl,rfl,rfl,hst⟩
 refine mB rfl (L_not_ rfl rfl (L_pick (v:=Bo ((b55 || (!x16.2)) || (!x41.2))) rfl rfl (or_f hc70 rfl) (nn ?_)))
 have hst:=hst.gets [3,1,2,3] rfl
 exact rj hR56 ⟨rfl,rfl,rfl,rfl,rfl,rfl,rfl,rfl,hst⟩
 refine mB rfl (L_not_ rfl rfl (L_pick (v:=Bo (b55 || (!x16.2))) rfl rfl (or_f hc69 rfl) (mB rfl (L_split (d:=49) (b:=(b55 || (!x16.2))) rfl (fun hc71=>?_) (fun hc71=>?_)))))
 refine ps rfl (ps rfl (L_pick (v:=Bo ((b55 || (!x16.2)) || (!x41.2))) rfl rfl (or_t hc71) (nn ?_)))
 have hst:=hst.gets [3,1,2,3] rfl
 exact rj hR56 ⟨rfl,rfl,rfl,rfl,rfl,rfl,rfl,rfl,hst⟩
 refine mB rfl (L_not_ rfl rfl (L_pick (v:=Bo ((b55 || (!x16.2)) || (!x41.2))) rfl rfl (or_f hc71 rfl) (nn ?_)))
 have hst:=hst.gets [3,1,2,3] rfl
 exact rj hR56 ⟨rfl,rfl,rfl,rfl,rfl,rfl,rfl,rfl,hst⟩
 intro f w_ hR
 obtain ⟨sf3,sf4,sf5,sf6,sf7,sf8,sf9,sf52,hst⟩:=rk hR56 hR
 refine W_cond (b:=((b55 || (!x16.2)) || (!x41.2))) sf52 (fun hc72=>?_) (fun hc72=>?_)
 have hF:=(ite_t hc72).symm.trans hF
 refine W_seq ?_
 obtain ⟨b82,hb82,hF⟩:=bind_some hF
 obtain ⟨R83,hR83⟩:=exR fun f w_=>f 2 = Bo b82∧Star H44 w_ ([])
 refine W_join R83 ?_ ?_
 refine W_region (mF sf6 rfl (mF sf8 rfl (L_beql (b:=x16.2) (c:=x31.2) rfl Tryz.underlying4 rfl rfl (mB rfl (L_split (d:=56) (b:=(x16.2 == x31.2)) rfl (fun hc84=>?_) (fun hc84=>?_))))))
 rw [ite_t hc84] at hb82
 obtain ⟨x80,hx80,hb82⟩:=bind_some hb82
 refine mF sf5 rfl (mF sf7 rfl ?_)
 obtain ⟨H85b,l86,s87,z88,k89⟩:=hst.borrow
 have hb90 : (rS 4 RP.bool).rel H85b [r24_0] x16.1:=fz_own 0 z88 rfl
 have hb91 : (rS 4 RP.bool).rel H85b [r39_0] x31.1:=fz_own 1 z88 rfl
 refine L_call rfl Tryz.call27 (ops2 rfl rfl) (l_cpBools_c (a:=x16.1) (b:=x31.1) s87 hb90 hb91 hx80) ?_
 rintro _ w92 ⟨rfl,hst⟩
 have hst:=k89 hst c0
 refine L_pick (v:=Bo b82) rfl rfl (congrArg Value.bool (so hb82)) (aB rfl (nn (rj hR83 ⟨rfl,(Star.keepN 0 hst)⟩)))
 rw [ite_f hc84] at hb82
 refine ps rfl (ps rfl (ps rfl (L_pick (v:=Bo b82) rfl rfl (congrArg Value.bool (so hb82)) (aB rfl (nn (rj hR83 ⟨rfl,(Star.keepN 0 hst)⟩))))))
 intro f w_ hR
 obtain ⟨sf2,hst⟩:=rk hR83 hR
 refine W_ret (retG1 (v1:=Bo b82) Tryz.results5 sf2 ?_)
 obtain rfl:=so hF
 exact ⟨rfl,(Star.down hst (Le.trans l7 l44) c0)⟩
 have hF:=(ite_f hc72).symm.trans hF
 refine W_skip (W_seq ?_)
 obtain ⟨x100,hx100,hF⟩:=bind_some hF
 obtain ⟨x107,hx107,hF⟩:=bind_some hF
 have hst:=Star.drop 1 hst rfl
 refine W_drawS 5 [isV (r44_0),isV (r24_0),isV (Bo x100),isV (.agg #[r7_0,r7_1]),isV (r7_2)] [oF 4 RP.bool r24_0 x16.1,oF 73 (rCon 122) r44_0 x41.1,box g8 26 #[r7_0,r7_1]] [] ([]) [([],[]),([],[]),([],[]),([],[]),([],[])] (S:=[]) Tryz_mix (by kernel_rfl) rfl (by kernel_rfl) (amF_cons (mono_V _) (amF_cons (mono_V _) (amF_cons (mono_V _) (amF_cons (mono_V _) (amF_cons (mono_V _) amF_nil))))) hst ?_ (fun f w_ H109 hS109 hE109 hT109 hst=>?_)
 refine opsS_cons (fun f w_ _ _ s _ _ hst=>mF ((s 9 rfl).trans sf9) rfl (nO rfl rfl hst)) (opsS_cons (fun f w_ _ _ s _ _ hst=>mF ((s 5 rfl).trans sf5) rfl (nO rfl rfl hst)) (opsS_cons ?_ ?_))
 intro f w_ H109 X109 hS109 hE109 hP109 hst
 obtain ⟨H118b,l119,s120,z121,k122⟩:=hst.borrow
 have hb123 : (rS 73 (rCon 122)).rel H118b [r44_0] x41.1:=fz_own 1 z121 rfl
 have hb124 : (rS 4 RP.bool).rel H118b [r24_0] x16.1:=fz_own 0 z121 rfl
 refine L_call rfl Tryz.call28 (ops2 (hP109 0 61 rfl rfl) (hP109 1 62 rfl rfl)) (i_SatisfiesAll_c (list:=x41.1) (values:=x16.1) s120 hb123 hb124 hx100) ?_
 rintro _ w125 ⟨rfl,hst⟩
 have hst:=k122 hst c0
 exact L_nil ⟨rfl,_,_,rfl,Le.refl _,fun _ _=>rfl,hst⟩
 refine opsS_cons (fun f w_ _ _ s _ _ hst=>L_lda (cs:=[r7_0,r7_1]) rfl Tryz.isAgg26 Tryz.sizeOf26 ((s 3 rfl).trans sf3) (At.sub0 (Blk.at (Star.blkAt 2 hst rfl)) 0 2) rfl (nO rfl rfl hst)) (opsS_cons (fun f w_ _ _ s _ _ hst=>mF ((s 4 rfl).trans sf4) rfl (nO rfl rfl hst)) (opsS_nil))
 obtain ⟨H126b,l127,s128,z129,k130⟩:=hst.borrow
 refine L_call rfl Tryz.call23 (ops2 (hT109 3 64 rfl rfl) (hT109 4 65 rfl rfl)) (i_SolvesModel_c (m:=x2.1) (cells:=x2.2) s128 (RP.mono _ hr7_0 (Le.trans (Le.trans l44 hE109) l127)) (RP.mono _ hr7_1 (Le.trans (Le.trans l44 hE109) l127)) (RP.mono _ hr7_2 (Le.trans (Le.trans l44 hE109) l127)) hx107) ?_
 rintro _ w131 ⟨rfl,hst⟩
 have hst:=k130 hst c0
 refine L_beql (b:=x100) (c:=x107) rfl Tryz.underlying4 (hT109 2 63 rfl rfl) rfl (aB rfl (nn (W_ret (retG1 (v1:=Bo (x100 == x107)) Tryz.results5 rfl ?_))))
 obtain rfl:=so hF
 exact ⟨rfl,(Star.down (Star.keepN 0 hst) (Le.trans (Le.trans l7 l44) hE109) c0)⟩
end Go.Proofs.YtbjllamkfmejlaaGreat

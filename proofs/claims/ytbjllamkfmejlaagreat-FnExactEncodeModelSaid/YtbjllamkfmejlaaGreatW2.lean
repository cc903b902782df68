/- Part of a proof by program: W2. -/
import Derived.Test.YtbjllamkfmejlaaGreatD1
import Derived.Test.YtbjllamkfmejlaaGreatW1
namespace Go.Proofs.YtbjllamkfmejlaaGreat
open Go Go.E Go.L Go.RowKit
set_option linter.unusedVariables false
set_option linter.unusedSimpArgs false
set_option maxRecDepth 100000
theorem i_EncodeModel_c {fu : Nat} {m : Model} {v0_0 : Value} {v0_1 : Value} {H : FH} {w : World} (Z : Star H w []) (h0_0 : (rS 3 RP.int).rel H [v0_0] m.sizes) (h0_1 : (rS 79 (rRule 3 23)).rel H [v0_1] m.rules) {r : (List Con) × Bool} (hF : i_EncodeModel fu m = some r) :
 C Tryz.prog 13 #[.agg #[v0_0,v0_1]] w fun v w'=>∃ (u1 : Value),v = .tuple #[u1,Bo r.2]∧Star H w' [oS 73 (oCon 122) u1 r.1]:=by
 unfold i_EncodeModel at hF
 refine C_enter Tryz.func13 rfl Tryz.ntmps13 rfl (sq (L_box (v:=.agg #[v0_0,v0_1]) (cs:=#[v0_0,v0_1]) rfl rfl rfl Z (fun g3 w4 Z=>aV S0 rfl (aB rfl (nq (W_seq ?_))))))
 obtain ⟨x10,hx10,hF⟩:=bind_some hF
 refine W_region (L_lda (cs:=[v0_0,v0_1]) rfl Tryz.isAgg26 Tryz.sizeOf26 rfl (At.sub0 (Blk.at (Star.blkAt 0 Z rfl)) 0 2) rfl ?_)
 obtain ⟨H12b,l13,s14,z15,k16⟩:=Z.borrow
 refine L_call rfl Tryz.call46 (ops1 rfl) (i_ModelValid_c (m:=m) s14 (RP.mono _ h0_0 l13) (RP.mono _ h0_1 l13) hx10) ?_
 rintro _ w17 ⟨rfl,Z⟩
 have Z:=k16 Z c0
 refine L_not_ rfl rfl (nn (W_cond (b:=(!x10)) rfl (fun hc18=>?_) (fun hc18=>?_)))
 have hF:=(ite_t hc18).symm.trans hF
 refine sq (aV S0 rfl (aB rfl (nn (W_ret (retG2 (v1:=S0) (v2:=Bo false) Tryz.results13 rfl rfl ?_)))))
 obtain rfl:=so hF
 have Z:=Star.addNil (R:=(oCon 122)) (e:=73) Z
 exact ⟨S0,rfl,(Star.keepN 1 Z)⟩
 have hF:=(ite_f hc18).symm.trans hF
 refine W_skip (sq (aV S0 rfl (nq (sq (fA 0 fa_26_0 rfl rfl (ldB 0 Z Tryz.isAgg23 rfl rfl rfl (L_len rfl Tryz.underlying23 rfl (slice_len h0_0) (mI rfl (nn ?_)))))))))
 have hlen25 : List.length m.sizes≤9223372036854775807:=len_le (slice_len h0_0)
 obtain ⟨j25,hL25,hF⟩:=bind_some hF
 obtain ⟨R25,hR25⟩:=exR fun f w_=>∃ out_21 : List Con,∃ H23 : FH,∃ v21_out : Value,j25 = .nx out_21∧Le H H23∧f 1 = Pt g3∧f 4 = v21_out∧Star H23 w_ ([oS 73 (oCon 122) v21_out out_21,box g3 26 #[v0_0,v0_1]])
 refine W_join R25 ?_ ?_
 refine W_block ?_
 obtain ⟨I25,hI25⟩:=exI fun n f w_=>∃ i_20 : Nat,∃ suf25 : List Int,∃ out_21 : List Con,∃ H23 : FH,∃ v21_out : Value,n = suf25.length∧List.drop i_20 m.sizes = suf25∧i_20 + suf25.length = m.sizes.length∧rangeL (i_EncodeModel_b1 fu m) suf25 i_20 out_21 = some j25∧Le H H23∧f 1 = Pt g3∧f 4 = v21_out∧f 16 = I (m.sizes.length : Int)∧f 17 = I i_20∧Star H23 w_ ([oS 73 (oCon 122) v21_out out_21,box g3 26 #[v0_0,v0_1]])
 have Z:=Star.addNil (R:=(oCon 122)) (e:=73) Z
 refine W_loop I25 (n:=m.sizes.length) ?_ ?_
 exact ij hI25 ⟨0,m.sizes,[],H,S0,rfl,rfl,Nat.zero_add _,hL25,(Le.refl _),rfl,rfl,rfl,rfl,Z⟩
 intro n25 f w_ hI
 obtain ⟨i_20,suf25,out_21,H23,v21_out,rfl,hd25,hl25,hL25,l24,sf1,sf4,sf16,sf17,Z⟩:=ik hI25 hI
 refine sq (L_lss rfl sf17 sf16 (nq (W_cond (b:=decide ((i_20 : Int) < (m.sizes.length : Int))) rfl (fun hc27=>?_) (fun hc27=>?_))))
 have hlt25:=of_decide_eq_true hc27
 rcases suf25 with _ | ⟨x_25,rest25⟩
 exact absurd hlt25 (by simp at hl25; omega)
 obtain ⟨o25,hB25,hL25⟩:=range_cons hL25
 rw [i_EncodeModel_b1] at hB25
 have hix25:=drop_idx hd25
 refine W_skip (W_seq (W_block (sq (mF sf17 rfl (aI rfl (nq ?_))))))
 obtain ⟨x33,hx33,hB25⟩:=bind_some hB25
 refine W_region (L_lda (cs:=[v0_0,v0_1]) rfl Tryz.isAgg26 Tryz.sizeOf26 sf1 (At.sub0 (Blk.at (Star.blkAt 1 Z rfl)) 0 2) rfl (mI rfl ?_))
 obtain ⟨H36b,l37,s38,z39,k40⟩:=Z.borrow
 refine L_call rfl Tryz.call47 (ops2 rfl rfl) (i_Model_varsOf_c (m:=m) (cell:=(i_20 : Int)) s38 (RP.mono _ h0_0 (Le.trans l24 l37)) (RP.mono _ h0_1 (Le.trans l24 l37)) hx33) ?_
 rintro r41_0 w41 ⟨_,rfl,Z⟩
 have Z:=k40 Z (co closed_int c0)
 refine aV r41_0 rfl (nq ?_)
 obtain ⟨x49,hx49,hB25⟩:=bind_some hB25
 refine W_region (mV r41_0 rfl ?_)
 obtain ⟨H55b,l56,s57,z58,k59⟩:=Z.borrow
 have hb60 : (rS 3 RP.int).rel H55b [r41_0] x33:=fz_own 0 z58 rfl
 refine L_call rfl Tryz.call48 (ops1 rfl) (i_ClauseOf_c (lits:=x33) s57 hb60 hx49) ?_
 rintro _ w61 ⟨r61_0,rfl,Z⟩
 have Z:=k59 Z (co closed_term c0)
 refine mV (.tuple #[.agg #[r61_0,I x49.1.bound],Bo x49.2]) rfl (L_ex (v:=.agg #[r61_0,I x49.1.bound]) rfl rfl rfl (L_ex (v:=Bo x49.2) rfl rfl rfl (L_al (cs:=#[S0,I 0]) rfl Tryz.zeroValue73 rfl Z (fun g63 w64 Z=>L_staB (vs:=#[r61_0,I x49.1.bound]) (cs2:=#[r61_0,I x49.1.bound]) 0 rfl Tryz.sizeOf73 rfl rfl rfl (ones_cons (one_len (Star.len 1 Z rfl)) (ones_cons rfl ones_nil)) Z rfl (by show 0 + 2≤2; decide) rfl (fun w65 Z=>aB rfl (nn ?_))))))
 obtain ⟨x72,hx72,hB25⟩:=bind_some hB25
 obtain ⟨x78,hx78,hB25⟩:=bind_some hB25
 have Z:=Z.gets [1,4,4,4,4] rfl
 refine W_drawS 5 [isV (v21_out),isV (.agg #[r61_0,I x49.1.bound]),isV (r41_0),exA fun u_0=>isV (.agg #[u_0,I x72.bound]),anyF] [box g63 73 #[r61_0,I x49.1.bound],oF 3 RP.int r41_0 x33,oS 73 (oCon 122) v21_out out_21,box g3 26 #[v0_0,v0_1]] [.base (oF 122 rTerm r61_0 x49.1.terms) (some 4),.made 3 31 (fun v_=>oF 122 rTerm (aggC v_ 0) x72.terms) (some 4),.made 4 32 (fun v_=>oS 73 (oCon 122) v_ ([x49.1,x72])) none] ([]) [([],[]),([],[]),([],[]),([],[1]),([0,1],[2])] (S:=[(none,[],some 4),(some 3,[31],some 4),(some 4,[32],none)]) Tryz_mix (by kernel_rfl) rfl (by kernel_rfl) (amF_cons (mono_V _) (amF_cons (mono_V _) (amF_cons (mono_V _) (amF_cons (mono_exA fun _=>mono_V _) (amF_cons (mono_any) amF_nil))))) Z ?_ (fun f w_ H82 hS82 hE82 hT82 Z=>?_)
 refine opsS_cons (fun f w_ _ _ s _ _ Z=>mF ((s 4 rfl).trans sf4) rfl (nO rfl rfl Z)) (opsS_cons (fun f w_ _ _ s _ _ Z=>L_lda (cs:=[r61_0,I x49.1.bound]) rfl Tryz.isAgg73 Tryz.sizeOf73 ((s 7 rfl).trans rfl) (At.sub0 (Blk.at (Star.blkAt 0 Z rfl)) 0 2) rfl (nO rfl rfl Z)) (opsS_cons (fun f w_ _ _ s _ _ Z=>mF ((s 6 rfl).trans rfl) rfl (nO rfl rfl Z)) (opsS_cons ?_ ?_)))
 intro f w_ H82 X82 hS82 hE82 hP82 Z
 obtain ⟨H94b,l95,s96,z97,k98⟩:=Z.borrow
 have hb99 : (rS 3 RP.int).rel H94b [r41_0] x33:=fz_own 1 z97 rfl
 refine L_call rfl Tryz.call49 (ops1 (hP82 2 30 rfl rfl)) (i_atMostOne_c (vars:=x33) s96 hb99 hx72) ?_
 rintro _ w100 ⟨r100_0,rfl,Z⟩
 have Z:=k98 Z (co closed_term c0)
 have Z:=Z.gets [4,4,4,4] rfl
 exact L_nil ⟨rfl,_,_,rfl,Le.refl _,fun _ _=>⟨_,rfl⟩,Z⟩
 refine opsS_cons ?_ ?_
 intro f w_ H82 X82 hS82 hE82 hP82 Z
 have Z : Star H82 w_ (box g63 73 #[r61_0,I x49.1.bound] :: oF 3 RP.int r41_0 x33 :: oS 73 (oCon 122) v21_out out_21 :: box g3 26 #[v0_0,v0_1] :: oF 122 rTerm r61_0 x49.1.terms :: own (OR.ownS 122 (OR.frz rTerm)) [(aggC (f 31) 0)] x72.terms :: X82):=Z
 obtain ⟨u102_0,hv102⟩:=(hP82 3 31 rfl rfl)
 have hren : Star H82 w_ (box g63 73 #[r61_0,I x49.1.bound] :: oF 3 RP.int r41_0 x33 :: oS 73 (oCon 122) v21_out out_21 :: box g3 26 #[v0_0,v0_1] :: oF 122 rTerm r61_0 x49.1.terms :: own (OR.ownS 122 (OR.frz rTerm)) [(aggC (f 31) 0)] x72.terms :: X82):=Z
 rw [hv102] at hren
 have Z : Star H82 w_ (box g63 73 #[r61_0,I x49.1.bound] :: oF 3 RP.int r41_0 x33 :: oS 73 (oCon 122) v21_out out_21 :: box g3 26 #[v0_0,v0_1] :: oF 122 rTerm r61_0 x49.1.terms :: oF 122 rTerm u102_0 x72.terms :: X82):=hren
 refine L_bs rfl (parts2 (hP82 1 29 rfl rfl) hv102) (bs_28_2_2_2 (r61_0) (I x49.1.bound) (u102_0) (I x72.bound) ) Z (fun g103 w104 Z=>?_)
 have Z:=Z.get 6 rfl
 have Z:=oCon_close (c:=x72) Z
 have Z:=Z.get 6 rfl
 have Z:=oCon_close (c:=x49.1) Z
 have Z:=Star.mkRow (R:=(oCon 122)) [([r61_0,I x49.1.bound],x49.1),([u102_0,I x72.bound],x72)] [x49.1,x72] 2 Z rfl rfl rfl (by decide)
 have Z:=Z.gets [4,4,4,4] rfl
 exact L_nil ⟨rfl,_,_,rfl,Le.refl _,fun _ _=>trivial,Z⟩
 exact opsS_nil
 have Z : Star H82 w_ ([box g63 73 #[r61_0,I x49.1.bound],oF 3 RP.int r41_0 x33,oS 73 (oCon 122) v21_out out_21,box g3 26 #[v0_0,v0_1],oS 73 (oCon 122) (f 32) ([x49.1,x72])]):=Z
 have Z:=Z.gets [4,3] rfl
 refine L_appM (v:=v21_out) (u:=(f 32)) rfl et_28 (hT82 0 28 rfl rfl) rfl Z hx78 (fun v107 w108 Z=>aV v107 rfl (nn (W_region (L_add rfl ((hS82 17 rfl).trans sf17) rfl (mI rfl (nn ?_))))))
 obtain rfl:=so hB25
 have Z:=Z.gets [3,1] rfl
 show ∃ m,m < _∧I25 m _ _
 refine ⟨rest25.length,by simp,?_⟩
 exact ij hI25 ⟨i_20 + 1,rest25,x78,H82,v107,rfl,drop_next hd25,by simp at hl25; omega,hL25,(Le.trans l24 hE82),((hS82 1 rfl).trans sf1),rfl,((hS82 16 rfl).trans sf16),(Eq.trans rfl (congrArg (Value.int .i64) (i64_succ (n:=m.sizes.length) (by simp at hl25; omega) hlen25))),(Star.keepN 2 Z)⟩
 rcases suf25 with _ | ⟨_,_⟩
 obtain rfl:=range_nil hL25
 refine W_exit (rj hR25 ⟨out_21,H23,v21_out,rfl,l24,sf1,sf4,Z⟩)
 exact absurd (of_decide_eq_false hc27) (by simp at hl25; omega)
 intro f w_ hR
 obtain ⟨out_21,H23,v21_out,rfl,l24,sf1,sf4,Z⟩:=rk hR25 hR
 refine W_seq (sq (fA 1 fa_26_1 sf1 rfl (ldB 1 Z Tryz.isAgg24 rfl rfl rfl (L_len rfl Tryz.underlying24 rfl (slice_len (RP.mono _ h0_1 l24)) (mI rfl (nn ?_))))))
 have hlen113 : List.length m.rules≤9223372036854775807:=len_le (slice_len (RP.mono _ h0_1 l24))
 obtain ⟨j113,hL113,hF⟩:=bind_some hF
 obtain ⟨R113,hR113⟩:=exR fun f w_=>∃ out_111 : List Con,∃ v111_out : Value,j113 = .nx out_111∧f 4 = v111_out∧Star H23 w_ ([oS 73 (oCon 122) v111_out out_111])
 refine W_join R113 ?_ ?_
 refine W_block ?_
 obtain ⟨I113,hI113⟩:=exI fun n f w_=>∃ i_110 : Nat,∃ suf113 : List Rule,∃ out_111 : List Con,∃ v111_out : Value,n = suf113.length∧List.drop i_110 m.rules = suf113∧i_110 + suf113.length = m.rules.length∧rangeL (i_EncodeModel_b2 fu m) suf113 i_110 out_111 = some j113∧f 1 = Pt g3∧f 4 = v111_out∧f 36 = v0_1∧f 37 = I (m.rules.length : Int)∧f 38 = I i_110∧Star H23 w_ ([oS 73 (oCon 122) v111_out out_111,box g3 26 #[v0_0,v0_1]])
 refine W_loop I113 (n:=m.rules.length) ?_ ?_
 exact ij hI113 ⟨0,m.rules,out_21,v21_out,rfl,rfl,Nat.zero_add _,hL113,sf1,sf4,rfl,rfl,rfl,Z⟩
 intro n113 f w_ hI
 obtain ⟨i_110,suf113,out_111,v111_out,rfl,hd113,hl113,hL113,sf1,sf4,sf36,sf37,sf38,Z⟩:=ik hI113 hI
 refine sq (L_lss rfl sf38 sf37 (L_nil (W_seq (W_cond (b:=decide ((i_110 : Int) < (m.rules.length : Int))) rfl (fun hc114=>?_) (fun hc114=>?_)))))
 have hlt113:=of_decide_eq_true hc114
 rcases suf113 with _ | ⟨x_113,rest113⟩
 exact absurd hlt113 (by simp at hl113; omega)
 obtain ⟨o113,hB113,hL113⟩:=range_cons hL113
 rw [i_EncodeModel_b2] at hB113
 have hix113:=drop_idx hd113
 refine W_skip (W_seq (W_block (sq (L_ix (r:=(rRule 3 23)) rfl Tryz.underlying24 Tryz.sizeOf79 sf36 (RP.mono _ h0_1 l24) sf38 hix113 (fun g122 o123 cs_g122 hrk_hat124 hat124=>?_)))))
 obtain ⟨u125_0,u125_1,u125_2,rfl,hu125_0,hu125_1,hu125_2⟩:=rRule_iff.1 hrk_hat124
 refine L_lda (cs:=[I x_113.kind,u125_0,u125_1,I x_113.bound,u125_2]) rfl Tryz.isAgg79 Tryz.sizeOf79 rfl (At.sub (AtH.at hat124 Z.sub) 0 5) rfl (L_al (cs:=#[I 0,S0,S0,I 0,S0]) rfl Tryz.zeroValue79 rfl Z (fun g126 w127 Z=>L_staB (vs:=#[I x_113.kind,u125_0,u125_1,I x_113.bound,u125_2]) (cs2:=#[I x_113.kind,u125_0,u125_1,I x_113.bound,u125_2]) 0 rfl Tryz.sizeOf79 rfl rfl rfl (ones_cons rfl (ones_cons (one_len (slice_len hu125_0)) (ones_cons (one_len (slice_len hu125_1)) (ones_cons rfl (ones_cons (one_len (slice_len hu125_2)) ones_nil))))) Z rfl (by show 0 + 5≤5; decide) rfl (fun w128 Z=>nn ?_)))
 obtain ⟨x134,hx134,hB113⟩:=bind_some hB113
 obtain ⟨x137,hx137,hB113⟩:=bind_some hB113
 refine W_region (mF sf4 rfl (L_lda (cs:=[v0_0,v0_1]) rfl Tryz.isAgg26 Tryz.sizeOf26 sf1 (At.sub0 (Blk.at (Star.blkAt 2 Z rfl)) 0 2) rfl (L_lda (cs:=[I x_113.kind,u125_0,u125_1,I x_113.bound,u125_2]) rfl Tryz.isAgg79 Tryz.sizeOf79 rfl (At.sub0 (Blk.at (Star.blkAt 0 Z rfl)) 0 5) rfl ?_)))
 obtain ⟨H141b,l142,s143,z144,k145⟩:=Z.borrow
 refine L_call rfl Tryz.call50 (ops2 rfl rfl) (i_Model_encodeRule_c (m:=m) (r_:=x_113) s143 (RP.mono _ h0_0 (Le.trans l24 l142)) (RP.mono _ h0_1 (Le.trans l24 l142)) (RP.mono _ hu125_0 l142) (RP.mono _ hu125_1 l142) (RP.mono _ hu125_2 l142) hx134) ?_
 rintro r146_0 w146 ⟨_,rfl,Z⟩
 have Z:=k145 Z (co closed_oCon c0)
 have Z:=Z.get 2 rfl
 refine L_appM (v:=v111_out) (u:=r146_0) rfl et_28 rfl rfl Z hx137 (fun v148 w149 Z=>aV v148 rfl (nn (W_region (L_add rfl sf38 rfl (mI rfl (nn ?_))))))
 obtain rfl:=so hB113
 have Z:=Z.gets [2,1] rfl
 show ∃ m,m < _∧I113 m _ _
 refine ⟨rest113.length,by simp,?_⟩
 exact ij hI113 ⟨i_110 + 1,rest113,x137,v148,rfl,drop_next hd113,by simp at hl113; omega,hL113,sf1,rfl,sf36,sf37,(Eq.trans rfl (congrArg (Value.int .i64) (i64_succ (n:=m.rules.length) (by simp at hl113; omega) hlen113))),(Star.keepN 2 Z)⟩
 rcases suf113 with _ | ⟨_,_⟩
 obtain rfl:=range_nil hL113
 refine W_exit (rj hR113 ⟨out_111,v111_out,rfl,sf4,(Star.keepN 1 Z)⟩)
 exact absurd (of_decide_eq_false hc114) (by simp at hl113; omega)
 intro f w_ hR
 obtain ⟨out_111,v111_out,rfl,sf4,Z⟩:=rk hR113 hR
 refine W_seq (sq (mF sf4 rfl (L_len rfl Tryz.underlying28 rfl (Star.len 0 Z rfl) (L_gtr rfl rfl rfl (nn (W_cond (b:=decide ((out_111.length : Int) > 400)) rfl (fun hc151=>?_) (fun hc151=>?_)))))))
 have hF:=(ite_t hc151).symm.trans hF
 refine sq (aV S0 rfl (aB rfl (nn (W_ret (retG2 (v1:=S0) (v2:=Bo false) Tryz.results13 rfl rfl ?_)))))
 obtain rfl:=so hF
 have Z:=Star.addNil (R:=(oCon 122)) (e:=73) Z
 exact ⟨S0,rfl,(Star.down (Star.keepN 1 Z) l24 (co closed_oCon c0))⟩
 have hF:=(ite_f hc151).symm.trans hF
 refine W_skip (sq (mF sf4 rfl (aV v111_out rfl (aB rfl (nn (W_ret (retG2 (v1:=v111_out) (v2:=Bo true) Tryz.results13 rfl rfl ?_)))))))
 obtain rfl:=so hF
 exact ⟨v111_out,rfl,(Star.down Z l24 (co closed_oCon c0))⟩
theorem s_l6Vars_c {m : Model} {list : List Int} {v0_0 : Value} {v0_1 : Value} {v1 : Value} {H : FH} {w : World} (Z : Star H w []) (h0_0 : (rS 3 RP.int).rel H [v0_0] m.sizes) (h0_1 : (rS 79 (rRule 3 23)).rel H [v0_1] m.rules) (h1 : (rS 3 RP.int).rel H [v1] list) {r : Bool} (hF : s_l6Vars m list = some r) :
 C Tryz.prog 148 #[.agg #[v0_0,v0_1],v1] w fun v w'=>v = Bo r∧Star H w' []:=by
 unfold s_l6Vars at hF
 refine C_enter Tryz.func148 rfl Tryz.ntmps148 rfl (sq (L_box (v:=.agg #[v0_0,v0_1]) (cs:=#[v0_0,v0_1]) rfl rfl rfl Z (fun g3 w4 Z=>aB rfl (nq (sq (aI rfl (nn ?_)))))))
 have hlen8 : List.length list≤9223372036854775807:=len_le (slice_len h1)
 obtain ⟨j8,hL8,hF⟩:=bind_some hF
 obtain ⟨R8,hR8⟩:=exR fun f w_=>∃ H6 : FH,j8 = .nx ()∧Le H H6∧f 1 = v1∧Star H6 w_ ([])
 refine W_join R8 ?_ ?_
 refine W_block ?_
 obtain ⟨I8,hI8⟩:=exI fun n f w_=>∃ i_5 : Nat,∃ suf8 : List Int,∃ H6 : FH,n = suf8.length∧List.drop i_5 list = suf8∧i_5 + suf8.length = list.length∧rangeL (s_l6Vars_b1 m list) suf8 i_5 () = some j8∧Le H H6∧f 1 = v1∧f 2 = Pt g3∧f 5 = I i_5∧Star H6 w_ ([box g3 26 #[v0_0,v0_1]])
 refine W_loop I8 (n:=list.length) ?_ ?_
 exact ij hI8 ⟨0,list,H,rfl,rfl,Nat.zero_add _,hL8,(Le.refl _),rfl,rfl,rfl,Z⟩
 intro n8 f w_ hI
 obtain ⟨i_5,suf8,H6,rfl,hd8,hl8,hL8,l7,sf1,sf2,sf5,Z⟩:=ik hI8 hI
 refine W_seq (sq (mF sf5 rfl (mF sf1 rfl (L_len rfl Tryz.underlying23 rfl (slice_len (RP.mono _ h1 l7)) (L_lss rfl rfl rfl (nn (W_cond (b:=decide ((i_5 : Int) < (list.length : Int))) rfl (fun hc9=>?_) (fun hc9=>?_))))))))
 have hlt8:=of_decide_eq_true hc9
 rcases suf8 with _ | ⟨x_8,rest8⟩
 exact absurd hlt8 (by simp at hl8; omega)
 obtain ⟨o8,hB8,hL8⟩:=range_cons hL8
 rw [s_l6Vars_b1] at hB8
 have hix8:=drop_idx hd8
 refine W_skip (W_seq (W_block (W_seq (W_seq ?_))))
 obtain ⟨R21,hR21⟩:=exR fun f w_=>∃ H19 : FH,Le H6 H19∧f 1 = v1∧f 2 = Pt g3∧f 5 = I i_5∧f 27 = Bo ((decide (x_8 < 0)) || (decide (x_8 ≥ (m.sizes.length : Int))))∧Star H19 w_ ([box g3 26 #[v0_0,v0_1]])
 refine W_join R21 ?_ ?_
 rcases Bool.eq_false_or_eq_true (decide (x_8 < 0)) with hc22 | hc22
 refine W_drawS 13 [isV (v1),isV (I i_5),isEl RP.int x_8 0,isV (I x_8),isV (Bo (decide (x_8 < 0))),isV (Bo (decide (x_8 < 0))),isV (undef),isV (undef),isV (undef),isV (undef),isV (undef),isV (undef),isV (undef)] [box g3 26 #[v0_0,v0_1]] [] ([]) [([],[]),([],[]),([],[]),([],[]),([],[]),([],[]),([],[]),([],[]),([],[]),([],[]),([],[]),([],[]),([],[])] (S:=[]) Tryz_mix (by kernel_rfl) rfl (by kernel_rfl) (amF_cons (mono_V _) (amF_cons (mono_V _) (amF_cons (mono_el _ _ _) (amF_cons (mono_V _) (amF_cons (mono_V _) (amF_cons (mono_V _) (amF_cons (mono_V _) (amF_cons (mono_V _) (amF_cons (mono_V _) (amF_cons (mono_V _) (amF_cons (mono_V _) (amF_cons (mono_V _) (amF_cons (mono_V _) amF_nil))))))))))))) Z ?_ (fun f w_ H18 hS18 hE18 hT18 Z=>?_)
 refine opsS_cons (fun f w_ _ _ s _ _ Z=>mF ((s 1 rfl).trans sf1) rfl (nO rfl rfl Z)) (opsS_cons (fun f w_ _ _ s _ _ Z=>mF ((s 5 rfl).trans sf5) rfl (nO rfl rfl Z)) (opsS_cons ?_ ?_))
 intro f w_ H18 X18 hS18 hE18 hP18 Z
 refine L_ix (r:=RP.int) rfl Tryz.underlying23 Tryz.sizeOf3 (hP18 0 13 rfl rfl) (RP.mono _ h1 (Le.trans l7 hE18)) (hP18 1 14 rfl rfl) hix8 (fun g27 o28 cs_g27 hrk_hat29 hat29=>?_)
 obtain rfl : _ = [_]:=hrk_hat29
 exact L_nil ⟨rfl,_,_,rfl,Le.refl _,fun _ _=>⟨_,_,_,rfl,rfl,hat29⟩,Z⟩
 refine opsS_cons ?_ ?_
 intro f w_ H18 X18 hS18 hE18 hP18 Z
 obtain ⟨g31,o31,cs31,hv31,hrk_hat31,hat31⟩:=(hP18 2 15 rfl rfl)
 obtain rfl : _ = [_]:=hrk_hat31
 refine L_ld rfl Tryz.isAgg3 hv31 (At.cell (AtH.at hat31 Z.sub) (j:=0) rfl) (L_nil ⟨rfl,_,_,rfl,Le.refl _,fun _ _=>rfl,Z⟩)
 refine opsS_cons (fun f w_ _ _ _ _ p Z=>L_lss rfl (p 3 16 rfl rfl) rfl (nO rfl rfl Z)) (opsS_cons (fun f w_ _ _ _ _ p Z=>mF (p 4 17 rfl rfl) rfl (nO rfl rfl Z)) (oP (fun _ _ p=>gN (p 5 18 rfl rfl) hc22 rfl) (fun _=>rfl) (oP (fun _ _ p=>gN (p 5 18 rfl rfl) hc22 rfl) (fun _=>rfl) (oP (fun _ _ p=>gN (p 5 18 rfl rfl) hc22 rfl) (fun _=>rfl) (oP (fun _ _ p=>gN (p 5 18 rfl rfl) hc22 rfl) (fun _=>rfl) (oP (fun _ _ p=>gN (p 5 18 rfl rfl) hc22 rfl) (fun _=>rfl) (oP (fun _ _ p=>gN (p 5 18 rfl rfl) hc22 rfl) (fun _=>rfl) (oP (fun _ _ p=>gN (p 5 18 rfl rfl) hc22 rfl) (fun _=>rfl) (opsS_nil)))))))))
 refine ps (g_no rfl (Eq.trans (hT18 5 18 rfl rfl) (congrArg Value.bool hc22)) rfl rfl) (L_pick (v:=Bo ((decide (x_8 < 0)) || (decide (x_8 ≥ (m.sizes.length : Int))))) rfl (Eq.trans (hT18 5 18 rfl rfl) (congrArg Value.bool hc22)) (or_t hc22) (nn (rj hR21 ⟨H18,hE18,((hS18 1 rfl).trans sf1),((hS18 2 rfl).trans sf2),((hS18 5 rfl).trans sf5),rfl,Z⟩)))
 refine W_drawS 13 [isV (v1),isV (I i_5),isEl RP.int x_8 0,isV (I x_8),isV (Bo (decide (x_8 < 0))),isV (Bo (decide (x_8 < 0))),isV (v1),isV (I i_5),isEl RP.int x_8 0,isV (I x_8),isV (Pt g3),isV (v0_0),isV (I (m.sizes.length : Int))] [box g3 26 #[v0_0,v0_1]] [] ([]) [([],[]),([],[]),([],[]),([],[]),([],[]),([],[]),([],[]),([],[]),([],[]),([],[]),([],[]),([],[]),([],[])] (S:=[]) Tryz_mix (by kernel_rfl) rfl (by kernel_rfl) (amF_cons (mono_V _) (amF_cons (mono_V _) (amF_cons (mono_el _ _ _) (amF_cons (mono_V _) (amF_cons (mono_V _) (amF_cons (mono_V _) (amF_cons (mono_V _) (amF_cons (mono_V _) (amF_cons (mono_el _ _ _) (amF_cons (mono_V _) (amF_cons (mono_V _) (amF_cons (mono_V _) (amF_cons (mono_V _) amF_nil))))))))))))) Z ?_ (fun f w_ H18 hS18 hE18 hT18 Z=>?_)
 refine opsS_cons (fun f w_ _ _ s _ _ Z=>mF ((s 1 rfl).trans sf1) rfl (nO rfl rfl Z)) (opsS_cons (fun f w_ _ _ s _ _ Z=>mF ((s 5 rfl).trans sf5) rfl (nO rfl rfl Z)) (opsS_cons ?_ ?_))
 intro f w_ H18 X18 hS18 hE18 hP18 Z
 refine L_ix (r:=RP.int) rfl Tryz.underlying23 Tryz.sizeOf3 (hP18 0 13 rfl rfl) (RP.mono _ h1 (Le.trans l7 hE18)) (hP18 1 14 rfl rfl) hix8 (fun g41 o42 cs_g41 hrk_hat43 hat43=>?_)
 obtain rfl : _ = [_]:=hrk_hat43
 exact L_nil ⟨rfl,_,_,rfl,Le.refl _,fun _ _=>⟨_,_,_,rfl,rfl,hat43⟩,Z⟩
 refine opsS_cons ?_ ?_
 intro f w_ H18 X18 hS18 hE18 hP18 Z
 obtain ⟨g45,o45,cs45,hv45,hrk_hat45,hat45⟩:=(hP18 2 15 rfl rfl)
 obtain rfl : _ = [_]:=hrk_hat45
 refine L_ld rfl Tryz.isAgg3 hv45 (At.cell (AtH.at hat45 Z.sub) (j:=0) rfl) (L_nil ⟨rfl,_,_,rfl,Le.refl _,fun _ _=>rfl,Z⟩)
 refine opsS_cons (fun f w_ _ _ _ _ p Z=>L_lss rfl (p 3 16 rfl rfl) rfl (nO rfl rfl Z)) (opsS_cons (fun f w_ _ _ _ _ p Z=>mF (p 4 17 rfl rfl) rfl (nO rfl rfl Z)) (opsS_cons (fun f w_ _ _ s _ p Z=>L_mv (v:=v1) (g_yes rfl (Eq.trans (p 5 18 rfl rfl) (congrArg Value.bool hc22)) rfl) ((s 1 rfl).trans sf1) (nO rfl rfl Z)) (opsS_cons (fun f w_ _ _ s _ p Z=>L_mv (v:=I i_5) (g_yes rfl (Eq.trans (p 5 18 rfl rfl) (congrArg Value.bool hc22)) rfl) ((s 5 rfl).trans sf5) (nO rfl rfl Z)) (opsS_cons ?_ ?_))))
 intro f w_ H18 X18 hS18 hE18 hP18 Z
 refine L_ix (r:=RP.int) (g_yes rfl (Eq.trans (hP18 5 18 rfl rfl) (congrArg Value.bool hc22)) rfl) Tryz.underlying23 Tryz.sizeOf3 (hP18 6 19 rfl rfl) (RP.mono _ h1 (Le.trans l7 hE18)) (hP18 7 20 rfl rfl) hix8 (fun g47 o48 cs_g47 hrk_hat49 hat49=>?_)
 obtain rfl : _ = [_]:=hrk_hat49
 exact L_nil ⟨rfl,_,_,rfl,Le.refl _,fun _ _=>⟨_,_,_,rfl,rfl,hat49⟩,Z⟩
 refine opsS_cons ?_ ?_
 intro f w_ H18 X18 hS18 hE18 hP18 Z
 obtain ⟨g51,o51,cs51,hv51,hrk_hat51,hat51⟩:=(hP18 8 21 rfl rfl)
 obtain rfl : _ = [_]:=hrk_hat51
 refine L_ld (v:=I x_8) (g_yes rfl (Eq.trans (hP18 5 18 rfl rfl) (congrArg Value.bool hc22)) rfl) Tryz.isAgg3 hv51 (At.cell (AtH.at hat51 Z.sub) (j:=0) rfl) (L_nil ⟨rfl,_,_,rfl,Le.refl _,fun _ _=>rfl,Z⟩)
 refine opsS_cons (fun f w_ _ _ s _ p Z=>L_fa (o':=0) (g_yes rfl (Eq.trans (p 5 18 rfl rfl) (congrArg Value.bool hc22)) rfl) fa_26_0 ((s 2 rfl).trans sf2) rfl (nO rfl rfl Z)) (opsS_cons (fun f w_ _ _ _ _ p Z=>L_ld (v:=v0_0) (g_yes rfl (Eq.trans (p 5 18 rfl rfl) (congrArg Value.bool hc22)) rfl) Tryz.isAgg23 (p 10 23 rfl rfl) (At.cell0 (Blk.at (Star.blkAt 0 Z rfl)) (j:=0) rfl) (nO rfl rfl Z)) (opsS_cons (fun f w_ _ _ _ hE18 p Z=>L_len (g_yes rfl (Eq.trans (p 5 18 rfl rfl) (congrArg Value.bool hc22)) rfl) Tryz.underlying23 (p 11 24 rfl rfl) (slice_len (RP.mono _ h0_0 (Le.trans l7 hE18))) (nO rfl rfl Z)) (opsS_nil)))
 refine L_geq (g_yes rfl (Eq.trans (hT18 5 18 rfl rfl) (congrArg Value.bool hc22)) rfl) (hT18 9 22 rfl rfl) (hT18 12 25 rfl rfl) (L_pick (v:=Bo ((decide (x_8 < 0)) || (decide (x_8 ≥ (m.sizes.length : Int))))) rfl (Eq.trans (hT18 5 18 rfl rfl) (congrArg Value.bool hc22)) (or_f hc22 rfl) (nn (rj hR21 ⟨H18,hE18,((hS18 1 rfl).trans sf1),((hS18 2 rfl).trans sf2),((hS18 5 rfl).trans sf5),rfl,Z⟩)))
 intro f w_ hR
 obtain ⟨H19,l20,sf1,sf2,sf5,sf27,Z⟩:=rk hR21 hR
 refine W_cond (b:=((decide (x_8 < 0)) || (decide (x_8 ≥ (m.sizes.length : Int))))) sf27 (fun hc53=>?_) (fun hc53=>?_)
 have hB8:=(ite_t hc53).symm.trans hB8
 refine sq (aB rfl (nn (W_ret (retG1 (v1:=Bo false) Tryz.results148 rfl ?_))))
 obtain rfl:=so hB8
 obtain rfl:=so hL8
 obtain rfl:=so hF
 exact ⟨rfl,(Star.down (Star.keepN 0 Z) (Le.trans l7 l20) c0)⟩
 have hB8:=(ite_f hc53).symm.trans hB8
 refine W_skip (sq (aI rfl (nn ?_)))
 obtain ⟨k58,hk58,hB8⟩:=bind_some hB8
 obtain ⟨j57,hL57,hB8⟩:=bind_some hB8
 obtain ⟨R57,hR57⟩:=exR fun f w_=>∃ H55 : FH,j57 = .nx ()∧Le H19 H55∧f 1 = v1∧f 2 = Pt g3∧f 5 = I i_5∧Star H55 w_ ([box g3 26 #[v0_0,v0_1]])
 refine W_join R57 ?_ ?_
 refine W_block ?_
 obtain ⟨I57,hI57⟩:=exI fun n f w_=>∃ i_54 : Nat,∃ suf57 : Nat,∃ H55 : FH,suf57 = n∧0≤i_54∧i_54 + suf57 = 0 + k58∧countL (s_l6Vars_b2 list x_8) suf57 i_54 () = some j57∧Le H19 H55∧f 1 = v1∧f 2 = Pt g3∧f 5 = I i_5∧f 6 = I i_54∧Star H55 w_ ([box g3 26 #[v0_0,v0_1]])
 refine W_loop I57 (n:=k58) ?_ ?_
 exact ij hI57 ⟨0,k58,H19,rfl,Nat.le_refl _,rfl,hL57,(Le.refl _),sf1,sf2,sf5,rfl,Z⟩
 intro n57 f w_ hI
 obtain ⟨i_54,suf57,H55,rfl,hs57,hl57,hL57,l56,sf1,sf2,sf5,sf6,Z⟩:=ik hI57 hI
 refine W_seq (sq (mF sf6 rfl (mF sf5 rfl (L_lss rfl rfl rfl (nn (W_cond (b:=decide ((i_54 : Int) < (i_5 : Int))) rfl (fun hc59=>?_) (fun hc59=>?_)))))))
 have hlt57:=of_decide_eq_true hc59
 rcases suf57 with _ | rest57
 exact absurd hlt57 (cntF_no hl57 hk58)
 obtain ⟨o57,hB57,hL57⟩:=count_succ hL57
 rw [s_l6Vars_b2] at hB57
 refine W_skip (W_seq (W_block (W_seq ?_)))
 obtain ⟨x60,hx60,hB57⟩:=bind_some hB57
 refine W_drawS 8 [isV (v1),isV (I i_54),isEl RP.int x60 0,isV (I x60),isV (v1),isV (I i_5),isEl RP.int x_8 0,isV (I x_8)] [box g3 26 #[v0_0,v0_1]] [] ([]) [([],[]),([],[]),([],[]),([],[]),([],[]),([],[]),([],[]),([],[])] (S:=[]) Tryz_mix (by kernel_rfl) rfl (by kernel_rfl) (amF_cons (mono_V _) (amF_cons (mono_V _) (amF_cons (mono_el _ _ _) (amF_cons (mono_V _) (amF_cons (mono_V _) (amF_cons (mono_V _) (amF_cons (mono_el _ _ _) (amF_cons (mono_V _) amF_nil)))))))) Z ?_ (fun f w_ H69 hS69 hE69 hT69 Z=>?_)
 refine opsS_cons (fun f w_ _ _ s _ _ Z=>mF ((s 1 rfl).trans sf1) rfl (nO rfl rfl Z)) (opsS_cons (fun f w_ _ _ s _ _ Z=>mF ((s 6 rfl).trans sf6) rfl (nO rfl rfl Z)) (opsS_cons ?_ ?_))
 intro f w_ H69 X69 hS69 hE69 hP69 Z
 refine L_ix (r:=RP.int) rfl Tryz.underlying23 Tryz.sizeOf3 (hP69 0 33 rfl rfl) (RP.mono _ h1 (Le.trans (Le.trans (Le.trans l7 l20) l56) hE69)) (hP69 1 34 rfl rfl) hx60 (fun g78 o79 cs_g78 hrk_hat80 hat80=>?_)
 obtain rfl : _ = [_]:=hrk_hat80
 exact L_nil ⟨rfl,_,_,rfl,Le.refl _,fun _ _=>⟨_,_,_,rfl,rfl,hat80⟩,Z⟩
 refine opsS_cons ?_ ?_
 intro f w_ H69 X69 hS69 hE69 hP69 Z
 obtain ⟨g82,o82,cs82,hv82,hrk_hat82,hat82⟩:=(hP69 2 35 rfl rfl)
 obtain rfl : _ = [_]:=hrk_hat82
 refine L_ld rfl Tryz.isAgg3 hv82 (At.cell (AtH.at hat82 Z.sub) (j:=0) rfl) (L_nil ⟨rfl,_,_,rfl,Le.refl _,fun _ _=>rfl,Z⟩)
 refine opsS_cons (fun f w_ _ _ s _ _ Z=>mF ((s 1 rfl).trans sf1) rfl (nO rfl rfl Z)) (opsS_cons (fun f w_ _ _ s _ _ Z=>mF ((s 5 rfl).trans sf5) rfl (nO rfl rfl Z)) (opsS_cons ?_ ?_))
 intro f w_ H69 X69 hS69 hE69 hP69 Z
 refine L_ix (r:=RP.int) rfl Tryz.underlying23 Tryz.sizeOf3 (hP69 4 37 rfl rfl) (RP.mono _ h1 (Le.trans (Le.trans (Le.trans l7 l20) l56) hE69)) (hP69 5 38 rfl rfl) hix8 (fun g84 o85 cs_g84 hrk_hat86 hat86=>?_)
 obtain rfl : _ = [_]:=hrk_hat86
 exact L_nil ⟨rfl,_,_,rfl,Le.refl _,fun _ _=>⟨_,_,_,rfl,rfl,hat86⟩,Z⟩
 refine opsS_cons ?_ ?_
 intro f w_ H69 X69 hS69 hE69 hP69 Z
 obtain ⟨g88,o88,cs88,hv88,hrk_hat88,hat88⟩:=(hP69 6 39 rfl rfl)
 obtain rfl : _ = [_]:=hrk_hat88
 refine L_ld rfl Tryz.isAgg3 hv88 (At.cell (AtH.at hat88 Z.sub) (j:=0) rfl) (L_nil ⟨rfl,_,_,rfl,Le.refl _,fun _ _=>rfl,Z⟩)
 exact opsS_nil
 refine L_eql rfl (hT69 3 36 rfl rfl) (hT69 7 40 rfl rfl) (nn (W_cond (b:=(x60 == x_8)) rfl (fun hc90=>?_) (fun hc90=>?_)))
 have hB57:=(ite_t hc90).symm.trans hB57
 refine sq (aB rfl (nn (W_ret (retG1 (v1:=Bo false) Tryz.results148 rfl ?_))))
 obtain rfl:=so hB57
 obtain rfl:=so hL57
 obtain rfl:=so hB8
 obtain rfl:=so hL8
 obtain rfl:=so hF
 exact ⟨rfl,(Star.down (Star.keepN 0 Z) (Le.trans (Le.trans (Le.trans l7 l20) l56) hE69) c0)⟩
 have hB57:=(ite_f hc90).symm.trans hB57
 refine W_skip (W_region (mF ((hS69 6 rfl).trans sf6) rfl (L_add rfl rfl rfl (aI rfl (nn ?_)))))
 obtain rfl:=so hB57
 show ∃ m,m < _∧I57 m _ _
 refine ⟨rest57,Nat.lt_succ_self _,?_⟩
 exact ij hI57 ⟨i_54 + 1,rest57,H69,rfl,by omega,by omega,hL57,(Le.trans l56 hE69),((hS69 1 rfl).trans sf1),((hS69 2 rfl).trans sf2),((hS69 5 rfl).trans sf5),(Eq.trans rfl (congrArg (Value.int .i64) (i64_succ (n:=0 + k58) (by omega) (cntF_le hk58)))),Z⟩
 rcases suf57 with _ | _
 obtain rfl:=count_zero hL57
 refine W_exit (rj hR57 ⟨H55,rfl,l56,sf1,sf2,sf5,Z⟩)
 exact absurd (cntF_yes hs57 hl57 hk58) (of_decide_eq_false hc59)
 intro f w_ hR
 obtain ⟨H55,rfl,l56,sf1,sf2,sf5,Z⟩:=rk hR57 hR
 refine W_region (mF sf5 rfl (L_add rfl rfl rfl (aI rfl (nn ?_))))
 obtain rfl:=so hB8
 show ∃ m,m < _∧I8 m _ _
 refine ⟨rest8.length,by simp,?_⟩
 exact ij hI8 ⟨i_5 + 1,rest8,H55,rfl,drop_next hd8,by simp at hl8; omega,hL8,(Le.trans (Le.trans l7 l20) l56),sf1,sf2,(Eq.trans rfl (congrArg (Value.int .i64) (i64_succ (n:=list.length) (by simp at hl8; omega) hlen8))),Z⟩
 rcases suf8 with _ | ⟨_,_⟩
 obtain rfl:=range_nil hL8
 refine W_exit (rj hR8 ⟨H6,rfl,l7,sf1,(Star.keepN 0 Z)⟩)
 exact absurd (of_decide_eq_false hc9) (by simp at hl8; omega)
 intro f w_ hR
 obtain ⟨H6,rfl,l7,sf1,Z⟩:=rk hR8 hR
 refine sq (mF sf1 rfl (L_len rfl Tryz.underlying23 rfl (slice_len (RP.mono _ h1 l7)) (L_geq rfl rfl rfl (aB rfl (nn (W_ret (retG1 (v1:=Bo (decide ((list.length : Int) ≥ 1))) Tryz.results148 rfl ?_)))))))
 obtain rfl:=so hF
 exact ⟨rfl,(Star.down Z l7 c0)⟩
theorem s_l6Linear_c {r_ : Rule} {v0_1 : Value} {v0_2 : Value} {v0_4 : Value} {H : FH} {w : World} (Z : Star H w []) (h0_1 : (rS 3 RP.int).rel H [v0_1] r_.vars) (h0_2 : (rS 3 RP.int).rel H [v0_2] r_.coefs) (h0_4 : (rS 23 (rS 3 RP.int)).rel H [v0_4] r_.rows) {r : Bool} (hF : s_l6Linear r_ = some r) :
 C Tryz.prog 149 #[.agg #[I r_.kind,v0_1,v0_2,I r_.bound,v0_4]] w fun v w'=>v = Bo r∧Star H w' []:=by
 unfold s_l6Linear at hF
 refine C_enter Tryz.func149 rfl Tryz.ntmps149 rfl (sq (L_box (v:=.agg #[I r_.kind,v0_1,v0_2,I r_.bound,v0_4]) (cs:=#[I r_.kind,v0_1,v0_2,I r_.bound,v0_4]) rfl rfl rfl Z (fun g3 w4 Z=>aB rfl (nq (sq (aI rfl (nn ?_)))))))
 have hlen6 : List.length r_.coefs≤9223372036854775807:=len_le (slice_len h0_2)
 obtain ⟨j6,hL6,hF⟩:=bind_some hF
 obtain ⟨R6,hR6⟩:=exR fun f w_=>j6 = .nx ()∧f 1 = Pt g3∧Star H w_ ([box g3 79 #[I r_.kind,v0_1,v0_2,I r_.bound,v0_4]])
 refine W_join R6 ?_ ?_
 refine W_block ?_
 obtain ⟨I6,hI6⟩:=exI fun n f w_=>∃ i_5 : Nat,∃ suf6 : List Int,n = suf6.length∧List.drop i_5 r_.coefs = suf6∧i_5 + suf6.length = r_.coefs.length∧rangeL s_l6Linear_b1 suf6 i_5 () = some j6∧f 1 = Pt g3∧f 3 = I i_5∧Star H w_ ([box g3 79 #[I r_.kind,v0_1,v0_2,I r_.bound,v0_4]])
 refine W_loop I6 (n:=r_.coefs.length) ?_ ?_
 exact ij hI6 ⟨0,r_.coefs,rfl,rfl,Nat.zero_add _,hL6,rfl,rfl,Z⟩
 intro n6 f w_ hI
 obtain ⟨i_5,suf6,rfl,hd6,hl6,hL6,sf1,sf3,Z⟩:=ik hI6 hI
 refine W_seq (sq (mF sf3 rfl (fA 2 fa_79_2 sf1 rfl (ldB 0 Z Tryz.isAgg23 rfl rfl rfl (L_len rfl Tryz.underlying23 rfl (slice_len h0_2) (L_lss rfl rfl rfl (nn (W_cond (b:=decide ((i_5 : Int) < (r_.coefs.length : Int))) rfl (fun hc7=>?_) (fun hc7=>?_)))))))))
 have hlt6:=of_decide_eq_true hc7
 rcases suf6 with _ | ⟨x_6,rest6⟩
 exact absurd hlt6 (by simp at hl6; omega)
 obtain ⟨o6,hB6,hL6⟩:=range_cons hL6
 rw [s_l6Linear_b1] at hB6
 have hix6:=drop_idx hd6
 refine W_skip (W_seq (W_block (W_seq ?_)))
 obtain ⟨R20,hR20⟩:=exR fun f w_=>f 1 = Pt g3∧f 3 = I i_5∧f 32 = Bo (((decide (x_6 < (-9))) || (decide (x_6 > 9))) || (x_6 == 0))∧Star H w_ ([box g3 79 #[I r_.kind,v0_1,v0_2,I r_.bound,v0_4]])
 refine W_join R20 ?_ ?_
 refine W_region (fA 2 fa_79_2 sf1 rfl (ldB 0 Z Tryz.isAgg23 rfl rfl rfl (mF sf3 rfl (L_ix (r:=RP.int) rfl Tryz.underlying23 Tryz.sizeOf3 rfl h0_2 rfl hix6 (fun g21 o22 cs_g21 hrk_hat23 hat23=>?_)))))
 obtain rfl : _ = [_]:=hrk_hat23
 refine L_ld rfl Tryz.isAgg3 rfl (At.cell (AtH.at hat23 Z.sub) (j:=0) rfl) (L_lss rfl rfl rfl (mB rfl (L_split (d:=17) (b:=decide (x_6 < (-9))) rfl (fun hc25=>?_) (fun hc25=>?_))))
 refine ps rfl (ps rfl (ps rfl (ps rfl (ps rfl (ps rfl (L_pick (v:=Bo ((decide (x_6 < (-9))) || (decide (x_6 > 9)))) rfl rfl (or_t hc25) (mB rfl (L_split (d:=25) (b:=((decide (x_6 < (-9))) || (decide (x_6 > 9)))) rfl (fun hc26=>?_) (fun hc26=>?_)))))))))
 refine ps rfl (ps rfl (ps rfl (ps rfl (ps rfl (ps rfl (L_pick (v:=Bo (((decide (x_6 < (-9))) || (decide (x_6 > 9))) || (x_6 == 0))) rfl rfl (or_t hc26) (nn (rj hR20 ⟨sf1,sf3,rfl,Z⟩))))))))
 refine fA 2 fa_79_2 sf1 rfl (ldB 0 Z Tryz.isAgg23 rfl rfl rfl (mF sf3 rfl (L_ix (r:=RP.int) rfl Tryz.underlying23 Tryz.sizeOf3 rfl h0_2 rfl hix6 (fun g27 o28 cs_g27 hrk_hat29 hat29=>?_))))
 obtain rfl : _ = [_]:=hrk_hat29
 refine L_ld rfl Tryz.isAgg3 rfl (At.cell (AtH.at hat29 Z.sub) (j:=0) rfl) (L_eql rfl rfl rfl (L_pick (v:=Bo (((decide (x_6 < (-9))) || (decide (x_6 > 9))) || (x_6 == 0))) rfl rfl (or_f hc26 rfl) (nn (rj hR20 ⟨sf1,sf3,rfl,Z⟩))))
 refine fA 2 fa_79_2 sf1 rfl (ldB 0 Z Tryz.isAgg23 rfl rfl rfl (mF sf3 rfl (L_ix (r:=RP.int) rfl Tryz.underlying23 Tryz.sizeOf3 rfl h0_2 rfl hix6 (fun g31 o32 cs_g31 hrk_hat33 hat33=>?_))))
 obtain rfl : _ = [_]:=hrk_hat33
 refine L_ld rfl Tryz.isAgg3 rfl (At.cell (AtH.at hat33 Z.sub) (j:=0) rfl) (L_gtr rfl rfl rfl (L_pick (v:=Bo ((decide (x_6 < (-9))) || (decide (x_6 > 9)))) rfl rfl (or_f hc25 rfl) (mB rfl (L_split (d:=25) (b:=((decide (x_6 < (-9))) || (decide (x_6 > 9)))) rfl (fun hc35=>?_) (fun hc35=>?_)))))
 refine ps rfl (ps rfl (ps rfl (ps rfl (ps rfl (ps rfl (L_pick (v:=Bo (((decide (x_6 < (-9))) || (decide (x_6 > 9))) || (x_6 == 0))) rfl rfl (or_t hc35) (nn (rj hR20 ⟨sf1,sf3,rfl,Z⟩))))))))
 refine fA 2 fa_79_2 sf1 rfl (ldB 0 Z Tryz.isAgg23 rfl rfl rfl (mF sf3 rfl (L_ix (r:=RP.int) rfl Tryz.underlying23 Tryz.sizeOf3 rfl h0_2 rfl hix6 (fun g36 o37 cs_g36 hrk_hat38 hat38=>?_))))
 obtain rfl : _ = [_]:=hrk_hat38
 refine L_ld rfl Tryz.isAgg3 rfl (At.cell (AtH.at hat38 Z.sub) (j:=0) rfl) (L_eql rfl rfl rfl (L_pick (v:=Bo (((decide (x_6 < (-9))) || (decide (x_6 > 9))) || (x_6 == 0))) rfl rfl (or_f hc35 rfl) (nn (rj hR20 ⟨sf1,sf3,rfl,Z⟩))))
 intro f w_ hR
 obtain ⟨sf1,sf3,sf32,Z⟩:=rk hR20 hR
 refine W_cond (b:=(((decide (x_6 < (-9))) || (decide (x_6 > 9))) || (x_6 == 0))) sf32 (fun hc40=>?_) (fun hc40=>?_)
 have hB6:=(ite_t hc40).symm.trans hB6
 refine sq (aB rfl (nn (W_ret (retG1 (v1:=Bo false) Tryz.results149 rfl ?_))))
 obtain rfl:=so hB6
 obtain rfl:=so hL6
 obtain rfl:=so hF
 exact ⟨rfl,(Star.keepN 0 Z)⟩
 have hB6:=(ite_f hc40).symm.trans hB6
 refine W_skip (W_region (mF sf3 rfl (L_add rfl rfl rfl (aI rfl (nn ?_)))))
 obtain rfl:=so hB6
 show ∃ m,m < _∧I6 m _ _
 refine ⟨rest6.length,by simp,?_⟩
 exact ij hI6 ⟨i_5 + 1,rest6,rfl,drop_next hd6,by simp at hl6; omega,hL6,sf1,(Eq.trans rfl (congrArg (Value.int .i64) (i64_succ (n:=r_.coefs.length) (by simp at hl6; omega) hlen6))),Z⟩
 rcases suf6 with _ | ⟨_,_⟩
 obtain rfl:=range_nil hL6
 refine W_exit (rj hR6 ⟨rfl,sf1,Z⟩)
 exact absurd (of_decide_eq_false hc7) (by simp at hl6; omega)
 intro f w_ hR
 obtain ⟨rfl,sf1,Z⟩:=rk hR6 hR
 refine W_seq ?_
 obtain ⟨R41,hR41⟩:=exR fun f w_=>f 2 = Bo ((((r_.coefs.length : Int) == (r_.vars.length : Int)) && (decide (r_.bound ≥ (-1000)))) && (decide (r_.bound≤1000)))∧Star H w_ ([])
 refine W_join R41 ?_ ?_
 refine W_region (fA 2 fa_79_2 sf1 rfl (ldB 0 Z Tryz.isAgg23 rfl rfl rfl (L_len rfl Tryz.underlying23 rfl (slice_len h0_2) (fA 1 fa_79_1 sf1 rfl (ldB 0 Z Tryz.isAgg23 rfl rfl rfl (L_len rfl Tryz.underlying23 rfl (slice_len h0_1) (L_eql rfl rfl rfl (mB rfl (L_split (d:=40) (b:=((r_.coefs.length : Int) == (r_.vars.length : Int))) rfl (fun hc42=>?_) (fun hc42=>?_))))))))))
 refine fA 3 fa_79_3 sf1 rfl (ldB 0 Z Tryz.isAgg3 rfl rfl rfl (L_geq rfl rfl rfl (L_pick (v:=Bo (((r_.coefs.length : Int) == (r_.vars.length : Int)) && (decide (r_.bound ≥ (-1000))))) rfl rfl (and_t hc42 rfl) (mB rfl (L_split (d:=45) (b:=(((r_.coefs.length : Int) == (r_.vars.length : Int)) && (decide (r_.bound ≥ (-1000))))) rfl (fun hc43=>?_) (fun hc43=>?_))))))
 refine fA 3 fa_79_3 sf1 rfl (ldB 0 Z Tryz.isAgg3 rfl rfl rfl (L_leq rfl rfl rfl (L_pick (v:=Bo ((((r_.coefs.length : Int) == (r_.vars.length : Int)) && (decide (r_.bound ≥ (-1000)))) && (decide (r_.bound≤1000)))) rfl rfl (and_t hc43 rfl) (aB rfl (nn (rj hR41 ⟨rfl,(Star.keepN 0 Z)⟩))))))
 refine ps rfl (ps rfl (ps rfl (L_pick (v:=Bo ((((r_.coefs.length : Int) == (r_.vars.length : Int)) && (decide (r_.bound ≥ (-1000)))) && (decide (r_.bound≤1000)))) rfl rfl (and_f hc43) (aB rfl (nn (rj hR41 ⟨rfl,(Star.keepN 0 Z)⟩))))))
 refine ps rfl (ps rfl (ps rfl (L_pick (v:=Bo (((r_.coefs.length : Int) == (r_.vars.length : Int)) && (decide (r_.bound ≥ (-1000))))) rfl rfl (and_f hc42) (mB rfl (L_split (d:=45) (b:=(((r_.coefs.length : Int) == (r_.vars.length : Int)) && (decide (r_.bound ≥ (-1000))))) rfl (fun hc44=>?_) (fun hc44=>?_))))))
 refine fA 3 fa_79_3 sf1 rfl (ldB 0 Z Tryz.isAgg3 rfl rfl rfl (L_leq rfl rfl rfl (L_pick (v:=Bo ((((r_.coefs.length : Int) == (r_.vars.length : Int)) && (decide (r_.bound ≥ (-1000)))) && (decide (r_.bound≤1000)))) rfl rfl (and_t hc44 rfl) (aB rfl (nn (rj hR41 ⟨rfl,(Star.keepN 0 Z)⟩))))))
 refine ps rfl (ps rfl (ps rfl (L_pick (v:=Bo ((((r_.coefs.length : Int) == (r_.vars.length : Int)) && (decide (r_.bound ≥ (-1000)))) && (decide (r_.bound≤1000)))) rfl rfl (and_f hc44) (aB rfl (nn (rj hR41 ⟨rfl,(Star.keepN 0 Z)⟩))))))
 intro f w_ hR
 obtain ⟨sf2,Z⟩:=rk hR41 hR
 refine W_ret (retG1 (v1:=Bo ((((r_.coefs.length : Int) == (r_.vars.length : Int)) && (decide (r_.bound ≥ (-1000)))) && (decide (r_.bound≤1000)))) Tryz.results149 sf2 ?_)
 obtain rfl:=so hF
 exact ⟨rfl,Z⟩
theorem s_l6Table_c {r_ : Rule} {v0_1 : Value} {v0_2 : Value} {v0_4 : Value} {H : FH} {w : World} (Z : Star H w []) (h0_1 : (rS 3 RP.int).rel H [v0_1] r_.vars) (h0_2 : (rS 3 RP.int).rel H [v0_2] r_.coefs) (h0_4 : (rS 23 (rS 3 RP.int)).rel H [v0_4] r_.rows) {r : Bool} (hF : s_l6Table r_ = some r) :
 C Tryz.prog 150 #[.agg #[I r_.kind,v0_1,v0_2,I r_.bound,v0_4]] w fun v w'=>v = Bo r∧Star H w' []:=by
 unfold s_l6Table at hF
 refine C_enter Tryz.func150 rfl Tryz.ntmps150 rfl (sq (L_box (v:=.agg #[I r_.kind,v0_1,v0_2,I r_.bound,v0_4]) (cs:=#[I r_.kind,v0_1,v0_2,I r_.bound,v0_4]) rfl rfl rfl Z (fun g3 w4 Z=>aB rfl (nq (sq (aI rfl (nn ?_)))))))
 have hlen8 : List.length r_.rows≤9223372036854775807:=len_le (slice_len h0_4)
 obtain ⟨j8,hL8,hF⟩:=bind_some hF
 obtain ⟨R8,hR8⟩:=exR fun f w_=>∃ H6 : FH,j8 = .nx ()∧Le H H6∧f 1 = Pt g3∧Star H6 w_ ([box g3 79 #[I r_.kind,v0_1,v0_2,I r_.bound,v0_4]])
 refine W_join R8 ?_ ?_
 refine W_block ?_
 obtain ⟨I8,hI8⟩:=exI fun n f w_=>∃ i_5 : Nat,∃ suf8 : List (List Int),∃ H6 : FH,n = suf8.length∧List.drop i_5 r_.rows = suf8∧i_5 + suf8.length = r_.rows.length∧rangeL (s_l6Table_b1 r_) suf8 i_5 () = some j8∧Le H H6∧f 1 = Pt g3∧f 3 = I i_5∧Star H6 w_ ([box g3 79 #[I r_.kind,v0_1,v0_2,I r_.bound,v0_4]])
 refine W_loop I8 (n:=r_.rows.length) ?_ ?_
 exact ij hI8 ⟨0,r_.rows,H,rfl,rfl,Nat.zero_add _,hL8,(Le.refl _),rfl,rfl,Z⟩
 intro n8 f w_ hI
 obtain ⟨i_5,suf8,H6,rfl,hd8,hl8,hL8,l7,sf1,sf3,Z⟩:=ik hI8 hI
 refine W_seq (sq (mF sf3 rfl (fA 4 fa_79_4 sf1 rfl (ldB 0 Z Tryz.isAgg77 rfl rfl rfl (L_len rfl Tryz.underlying77 rfl (slice_len (RP.mono _ h0_4 l7)) (L_lss rfl rfl rfl (nn (W_cond (b:=decide ((i_5 : Int) < (r_.rows.length : Int))) rfl (fun hc9=>?_) (fun hc9=>?_)))))))))
 have hlt8:=of_decide_eq_true hc9
 rcases suf8 with _ | ⟨x_8,rest8⟩
 exact absurd hlt8 (by simp at hl8; omega)
 obtain ⟨o8,hB8,hL8⟩:=range_cons hL8
 rw [s_l6Table_b1] at hB8
 have hix8:=drop_idx hd8
 refine W_skip (W_seq (W_block (W_seq (W_seq (W_drawS 9 [isV (Pq g3 4),isV (v0_4),isV (I i_5),isEl (rS 3 RP.int) x_8 0,isData (rS 3 RP.int) x_8,isV (I (x_8.length : Int)),isV (Pq g3 1),isV (v0_1),isV (I (r_.vars.length : Int))] [box g3 79 #[I r_.kind,v0_1,v0_2,I r_.bound,v0_4]] [] ([]) [([],[]),([],[]),([],[]),([],[]),([],[]),([],[]),([],[]),([],[]),([],[])] (S:=[]) Tryz_mix (by kernel_rfl) rfl (by kernel_rfl) (amF_cons (mono_V _) (amF_cons (mono_V _) (amF_cons (mono_V _) (amF_cons (mono_el _ _ _) (amF_cons (mono_data _ _) (amF_cons (mono_V _) (amF_cons (mono_V _) (amF_cons (mono_V _) (amF_cons (mono_V _) amF_nil))))))))) Z ?_ (fun f w_ H14 hS14 hE14 hT14 Z=>?_))))))
 refine opsS_cons (fun f w_ _ _ s _ _ Z=>fA 4 fa_79_4 ((s 1 rfl).trans sf1) rfl (nO rfl rfl Z)) (opsS_cons (fun f w_ _ _ _ _ p Z=>ldB 0 Z Tryz.isAgg77 (p 0 12 rfl rfl) rfl rfl (nO rfl rfl Z)) (opsS_cons (fun f w_ _ _ s _ _ Z=>mF ((s 3 rfl).trans sf3) rfl (nO rfl rfl Z)) (opsS_cons ?_ ?_)))
 intro f w_ H14 X14 hS14 hE14 hP14 Z
 refine L_ix (r:=(rS 3 RP.int)) rfl Tryz.underlying77 Tryz.sizeOf23 (hP14 1 13 rfl rfl) (RP.mono _ h0_4 (Le.trans l7 hE14)) (hP14 2 14 rfl rfl) hix8 (fun g19 o20 cs_g19 hrk_hat21 hat21=>?_)
 obtain ⟨u22,rfl,hu22⟩:=slice1 hrk_hat21
 exact L_nil ⟨rfl,_,_,rfl,Le.refl _,fun _ _=>⟨_,_,_,rfl,hrk_hat21,hat21⟩,Z⟩
 refine opsS_cons ?_ ?_
 intro f w_ H14 X14 hS14 hE14 hP14 Z
 obtain ⟨g23,o23,cs23,hv23,hrk_hat23,hat23⟩:=(hP14 3 15 rfl rfl)
 obtain ⟨u24,rfl,hu24⟩:=slice1 hrk_hat23
 refine L_ld rfl Tryz.isAgg23 hv23 (At.cell (AtH.at hat23 Z.sub) (j:=0) rfl) (L_nil ⟨rfl,_,_,rfl,Le.refl _,fun _ _=>hu24,Z⟩)
 refine opsS_cons ?_ ?_
 intro f w_ H14 X14 hS14 hE14 hP14 Z
 have hd25 : (rS 3 RP.int).rel H14 [f 16] x_8:=(hP14 4 16 rfl rfl)
 refine L_len rfl Tryz.underlying23 rfl (slice_len hd25) (L_nil ⟨rfl,_,_,rfl,Le.refl _,fun _ _=>rfl,Z⟩)
 refine opsS_cons (fun f w_ _ _ s _ _ Z=>fA 1 fa_79_1 ((s 1 rfl).trans sf1) rfl (nO rfl rfl Z)) (opsS_cons (fun f w_ _ _ _ _ p Z=>ldB 0 Z Tryz.isAgg23 (p 6 18 rfl rfl) rfl rfl (nO rfl rfl Z)) (opsS_cons (fun f w_ _ _ _ hE14 p Z=>L_len rfl Tryz.underlying23 (p 7 19 rfl rfl) (slice_len (RP.mono _ h0_1 (Le.trans l7 hE14))) (nO rfl rfl Z)) (opsS_nil)))
 refine L_neq rfl (hT14 5 17 rfl rfl) (hT14 8 20 rfl rfl) (nn (W_cond (b:=((x_8.length : Int) != (r_.vars.length : Int))) rfl (fun hc26=>?_) (fun hc26=>?_)))
 have hB8:=(ite_t hc26).symm.trans hB8
 refine sq (aB rfl (nn (W_ret (retG1 (v1:=Bo false) Tryz.results150 rfl ?_))))
 obtain rfl:=so hB8
 obtain rfl:=so hL8
 obtain rfl:=so hF
 exact ⟨rfl,(Star.down (Star.keepN 0 Z) (Le.trans l7 hE14) c0)⟩
 have hB8:=(ite_f hc26).symm.trans hB8
 refine W_skip (sq (aI rfl (nn ?_)))
 obtain ⟨k29,hk29,hB8⟩:=bind_some hB8
 obtain ⟨j28,hL28,hB8⟩:=bind_some hB8
 obtain ⟨R28,hR28⟩:=exR fun f w_=>j28 = .nx ()∧f 1 = Pt g3∧f 3 = I i_5∧Star H14 w_ ([box g3 79 #[I r_.kind,v0_1,v0_2,I r_.bound,v0_4]])
 refine W_join R28 ?_ ?_
 refine W_block ?_
 obtain ⟨I28,hI28⟩:=exI fun n f w_=>∃ i_27 : Nat,∃ suf28 : Nat,suf28 = n∧0≤i_27∧i_27 + suf28 = 0 + k29∧countL (s_l6Table_b2 x_8) suf28 i_27 () = some j28∧f 1 = Pt g3∧f 3 = I i_5∧f 4 = I i_27∧Star H14 w_ ([box g3 79 #[I r_.kind,v0_1,v0_2,I r_.bound,v0_4]])
 refine W_loop I28 (n:=k29) ?_ ?_
 exact ij hI28 ⟨0,k29,rfl,Nat.le_refl _,rfl,hL28,((hS14 1 rfl).trans sf1),((hS14 3 rfl).trans sf3),rfl,Z⟩
 intro n28 f w_ hI
 obtain ⟨i_27,suf28,rfl,hs28,hl28,hL28,sf1,sf3,sf4,Z⟩:=ik hI28 hI
 refine W_seq (sq (mF sf4 rfl (fA 4 fa_79_4 sf1 rfl (ldB 0 Z Tryz.isAgg77 rfl rfl rfl (mF sf3 rfl (L_ix (r:=(rS 3 RP.int)) rfl Tryz.underlying77 Tryz.sizeOf23 rfl (RP.mono _ h0_4 (Le.trans l7 hE14)) rfl hix8 (fun g34 o35 cs_g34 hrk_hat36 hat36=>?_)))))))
 obtain ⟨u37,rfl,hu37⟩:=slice1 hrk_hat36
 refine L_ld rfl Tryz.isAgg23 rfl (At.cell (AtH.at hat36 Z.sub) (j:=0) rfl) (L_len rfl Tryz.underlying23 rfl (slice_len hu37) (L_lss rfl rfl rfl (nn (W_cond (b:=decide ((i_27 : Int) < (x_8.length : Int))) rfl (fun hc38=>?_) (fun hc38=>?_)))))
 have hlt28:=of_decide_eq_true hc38
 rcases suf28 with _ | rest28
 exact absurd hlt28 (cntF_no hl28 hk29)
 obtain ⟨o28,hB28,hL28⟩:=count_succ hL28
 rw [s_l6Table_b2] at hB28
 refine W_skip (W_seq (W_block (W_seq ?_)))
 obtain ⟨x43,hx43,hB28⟩:=bind_some hB28
 obtain ⟨R56,hR56⟩:=exR fun f w_=>f 1 = Pt g3∧f 3 = I i_5∧f 4 = I i_27∧f 51 = Bo ((decide (x43 < 0)) || (decide (x43 > 3)))∧Star H14 w_ ([box g3 79 #[I r_.kind,v0_1,v0_2,I r_.bound,v0_4]])
 refine W_join R56 ?_ ?_
 refine W_region (fA 4 fa_79_4 sf1 rfl (ldB 0 Z Tryz.isAgg77 rfl rfl rfl (mF sf3 rfl (L_ix (r:=(rS 3 RP.int)) rfl Tryz.underlying77 Tryz.sizeOf23 rfl (RP.mono _ h0_4 (Le.trans l7 hE14)) rfl hix8 (fun g57 o58 cs_g57 hrk_hat59 hat59=>?_)))))
 obtain ⟨u60,rfl,hu60⟩:=slice1 hrk_hat59
 refine L_ld rfl Tryz.isAgg23 rfl (At.cell (AtH.at hat59 Z.sub) (j:=0) rfl) (mF sf4 rfl (L_ix (r:=RP.int) rfl Tryz.underlying23 Tryz.sizeOf3 rfl hu60 rfl hx43 (fun g61 o62 cs_g61 hrk_hat63 hat63=>?_)))
 obtain rfl : _ = [_]:=hrk_hat63
 refine L_ld rfl Tryz.isAgg3 rfl (At.cell (AtH.at hat63 Z.sub) (j:=0) rfl) (L_lss rfl rfl rfl (mB rfl (L_split (d:=41) (b:=decide (x43 < 0)) rfl (fun hc65=>?_) (fun hc65=>?_))))
 refine ps rfl (ps rfl (ps rfl (ps rfl (ps rfl (ps rfl (ps rfl (ps rfl (ps rfl (L_pick (v:=Bo ((decide (x43 < 0)) || (decide (x43 > 3)))) rfl rfl (or_t hc65) (nn (rj hR56 ⟨sf1,sf3,sf4,rfl,Z⟩)))))))))))
 refine fA 4 fa_79_4 sf1 rfl (ldB 0 Z Tryz.isAgg77 rfl rfl rfl (mF sf3 rfl (L_ix (r:=(rS 3 RP.int)) rfl Tryz.underlying77 Tryz.sizeOf23 rfl (RP.mono _ h0_4 (Le.trans l7 hE14)) rfl hix8 (fun g66 o67 cs_g66 hrk_hat68 hat68=>?_))))
 obtain ⟨u69,rfl,hu69⟩:=slice1 hrk_hat68
 refine L_ld rfl Tryz.isAgg23 rfl (At.cell (AtH.at hat68 Z.sub) (j:=0) rfl) (mF sf4 rfl (L_ix (r:=RP.int) rfl Tryz.underlying23 Tryz.sizeOf3 rfl hu69 rfl hx43 (fun g70 o71 cs_g70 hrk_hat72 hat72=>?_)))
 obtain rfl : _ = [_]:=hrk_hat72
 refine L_ld rfl Tryz.isAgg3 rfl (At.cell (AtH.at hat72 Z.sub) (j:=0) rfl) (L_gtr rfl rfl rfl (L_pick (v:=Bo ((decide (x43 < 0)) || (decide (x43 > 3)))) rfl rfl (or_f hc65 rfl) (nn (rj hR56 ⟨sf1,sf3,sf4,rfl,Z⟩))))
 intro f w_ hR
 obtain ⟨sf1,sf3,sf4,sf51,Z⟩:=rk hR56 hR
 refine W_cond (b:=((decide (x43 < 0)) || (decide (x43 > 3)))) sf51 (fun hc74=>?_) (fun hc74=>?_)
 have hB28:=(ite_t hc74).symm.trans hB28
 refine sq (aB rfl (nn (W_ret (retG1 (v1:=Bo false) Tryz.results150 rfl ?_))))
 obtain rfl:=so hB28
 obtain rfl:=so hL28
 obtain rfl:=so hB8
 obtain rfl:=so hL8
 obtain rfl:=so hF
 exact ⟨rfl,(Star.down (Star.keepN 0 Z) (Le.trans l7 hE14) c0)⟩
 have hB28:=(ite_f hc74).symm.trans hB28
 refine W_skip (W_region (mF sf4 rfl (L_add rfl rfl rfl (aI rfl (nn ?_)))))
 obtain rfl:=so hB28
 show ∃ m,m < _∧I28 m _ _
 refine ⟨rest28,Nat.lt_succ_self _,?_⟩
 exact ij hI28 ⟨i_27 + 1,rest28,rfl,by omega,by omega,hL28,sf1,sf3,(Eq.trans rfl (congrArg (Value.int .i64) (i64_succ (n:=0 + k29) (by omega) (cntF_le hk29)))),Z⟩
 rcases suf28 with _ | _
 obtain rfl:=count_zero hL28
 refine W_exit (rj hR28 ⟨rfl,sf1,sf3,Z⟩)
 exact absurd (cntF_yes hs28 hl28 hk29) (of_decide_eq_false hc38)
 intro f w_ hR
 obtain ⟨rfl,sf1,sf3,Z⟩:=rk hR28 hR
 refine W_region (mF sf3 rfl (L_add rfl rfl rfl (aI rfl (nn ?_))))
 obtain rfl:=so hB8
 show ∃ m,m < _∧I8 m _ _
 refine ⟨rest8.length,by simp,?_⟩
 exact ij hI8 ⟨i_5 + 1,rest8,H14,rfl,drop_next hd8,by simp at hl8; omega,hL8,(Le.trans l7 hE14),sf1,(Eq.trans rfl (congrArg (Value.int .i64) (i64_succ (n:=r_.rows.length) (by simp at hl8; omega) hlen8))),Z⟩
 rcases suf8 with _ | ⟨_,_⟩
 obtain rfl:=range_nil hL8
 refine W_exit (rj hR8 ⟨H6,rfl,l7,sf1,Z⟩)
 exact absurd (of_decide_eq_false hc9) (by simp at hl8; omega)
 intro f w_ hR
 obtain ⟨H6,rfl,l7,sf1,Z⟩:=rk hR8 hR
 refine sq (fA 4 fa_79_4 sf1 rfl (ldB 0 Z Tryz.isAgg77 rfl rfl rfl (L_len rfl Tryz.underlying77 rfl (slice_len (RP.mono _ h0_4 l7)) (L_leq rfl rfl rfl (aB rfl (nn (W_ret (retG1 (v1:=Bo (decide ((r_.rows.length : Int)≤8))) Tryz.results150 rfl ?_))))))))
 obtain rfl:=so hF
 exact ⟨rfl,(Star.down (Star.keepN 0 Z) l7 c0)⟩
theorem s_l6Rule_c {m : Model} {r_ : Rule} {v0_0 : Value} {v0_1 : Value} {v1_1 : Value} {v1_2 : Value} {v1_4 : Value} {H : FH} {w : World} (Z : Star H w []) (h0_0 : (rS 3 RP.int).rel H [v0_0] m.sizes) (h0_1 : (rS 79 (rRule 3 23)).rel H [v0_1] m.rules) (h1_1 : (rS 3 RP.int).rel H [v1_1] r_.vars) (h1_2 : (rS 3 RP.int).rel H [v1_2] r_.coefs) (h1_4 : (rS 23 (rS 3 RP.int)).rel H [v1_4] r_.rows) {r : Bool} (hF : s_l6Rule m r_ = some r) :
 C Tryz.prog 106 #[.agg #[v0_0,v0_1],.agg #[I r_.kind,v1_1,v1_2,I r_.bound,v1_4]] w fun v w'=>v = Bo r∧Star H w' []:=by
 unfold s_l6Rule at hF
 refine C_enter Tryz.func106 rfl Tryz.ntmps106 rfl (sq (L_box (v:=.agg #[v0_0,v0_1]) (cs:=#[v0_0,v0_1]) rfl rfl rfl Z (fun g5 w6 Z=>L_box (v:=.agg #[I r_.kind,v1_1,v1_2,I r_.bound,v1_4]) (cs:=#[I r_.kind,v1_1,v1_2,I r_.bound,v1_4]) rfl rfl rfl Z (fun g7 w8 Z=>aB rfl (nq (W_seq ?_))))))
 obtain ⟨x14,hx14,hF⟩:=bind_some hF
 obtain ⟨R16,hR16⟩:=exR fun f w_=>f 3 = Pt g7∧f 36 = Bo (((!x14) || ((r_.kind != 1) && (((r_.coefs.length : Int) != 0) || (r_.bound != 0)))) || ((r_.kind != 3) && ((r_.rows.length : Int) != 0)))∧Star H w_ ([box g7 79 #[I r_.kind,v1_1,v1_2,I r_.bound,v1_4]])
 refine W_join R16 ?_ ?_
 refine W_region (L_lda (cs:=[v0_0,v0_1]) rfl Tryz.isAgg26 Tryz.sizeOf26 rfl (At.sub0 (Blk.at (Star.blkAt 1 Z rfl)) 0 2) rfl (fA 1 fa_79_1 rfl rfl (ldB 0 Z Tryz.isAgg23 rfl rfl rfl ?_)))
 obtain ⟨H17b,l18,s19,z20,k21⟩:=Z.borrow
 refine L_call rfl Tryz.call148 (ops2 rfl rfl) (s_l6Vars_c (m:=m) (list:=r_.vars) s19 (RP.mono _ h0_0 l18) (RP.mono _ h0_1 l18) (RP.mono _ h1_1 l18) hx14) ?_
 rintro _ w22 ⟨rfl,Z⟩
 have Z:=k21 Z c0
 refine L_not_ rfl rfl (mB rfl (L_split (d:=10) (b:=(!x14)) rfl (fun hc23=>?_) (fun hc23=>?_)))
 refine ps rfl (ps rfl (ps rfl (ps rfl (ps rfl (ps rfl (ps rfl (ps rfl (ps rfl (ps rfl (ps rfl (ps rfl (ps rfl (ps rfl (L_pick (v:=Bo ((!x14) || ((r_.kind != 1) && (((r_.coefs.length : Int) != 0) || (r_.bound != 0))))) rfl rfl (or_t hc23) (mB rfl (L_split (d:=26) (b:=((!x14) || ((r_.kind != 1) && (((r_.coefs.length : Int) != 0) || (r_.bound != 0))))) rfl (fun hc24=>?_) (fun hc24=>?_)))))))))))))))))
 refine ps rfl (ps rfl (ps rfl (ps rfl (ps rfl (ps rfl (ps rfl (ps rfl (ps rfl (L_pick (v:=Bo (((!x14) || ((r_.kind != 1) && (((r_.coefs.length : Int) != 0) || (r_.bound != 0)))) || ((r_.kind != 3) && ((r_.rows.length : Int) != 0)))) rfl rfl (or_t hc24) (nn (rj hR16 ⟨rfl,rfl,(Star.keepN 1 Z)⟩)))))))))))
 refine fA 0 fa_79_0 rfl rfl (ldB 0 Z Tryz.isAgg3 rfl rfl rfl (L_neq rfl rfl rfl (mB rfl (L_split (d:=30) (b:=(r_.kind != 3)) rfl (fun hc25=>?_) (fun hc25=>?_)))))
 refine fA 4 fa_79_4 rfl rfl (ldB 0 Z Tryz.isAgg77 rfl rfl rfl (L_len rfl Tryz.underlying77 rfl (slice_len h1_4) (L_neq rfl rfl rfl (L_pick (v:=Bo ((r_.kind != 3) && ((r_.rows.length : Int) != 0))) rfl rfl (and_t hc25 rfl) (L_pick (v:=Bo (((!x14) || ((r_.kind != 1) && (((r_.coefs.length : Int) != 0) || (r_.bound != 0)))) || ((r_.kind != 3) && ((r_.rows.length : Int) != 0)))) rfl rfl (or_f hc24 rfl) (nn (rj hR16 ⟨rfl,rfl,(Star.keepN 1 Z)⟩)))))))
 refine ps rfl (ps rfl (ps rfl (ps rfl (L_pick (v:=Bo ((r_.kind != 3) && ((r_.rows.length : Int) != 0))) rfl rfl (and_f hc25) (L_pick (v:=Bo (((!x14) || ((r_.kind != 1) && (((r_.coefs.length : Int) != 0) || (r_.bound != 0)))) || ((r_.kind != 3) && ((r_.rows.length : Int) != 0)))) rfl rfl (or_f hc24 rfl) (nn (rj hR16 ⟨rfl,rfl,(Star.keepN 1 Z)⟩)))))))
 refine fA 0 fa_79_0 rfl rfl (ldB 0 Z Tryz.isAgg3 rfl rfl rfl (L_neq rfl rfl rfl (mB rfl (L_split (d:=14) (b:=(r_.kind != 1)) rfl (fun hc26=>?_) (fun hc26=>?_)))))
 refine fA 2 fa_79_2 rfl rfl (ldB 0 Z Tryz.isAgg23 rfl rfl rfl (L_len rfl Tryz.underlying23 rfl (slice_len h1_2) (L_neq rfl rfl rfl (mB rfl (L_split (d:=19) (b:=((r_.coefs.length : Int) != 0)) rfl (fun hc27=>?_) (fun hc27=>?_))))))
 refine ps rfl (ps rfl (ps rfl (L_pick (v:=Bo (((r_.coefs.length : Int) != 0) || (r_.bound != 0))) rfl rfl (or_t hc27) (L_pick (v:=Bo ((r_.kind != 1) && (((r_.coefs.length : Int) != 0) || (r_.bound != 0)))) rfl rfl (and_t hc26 rfl) (L_pick (v:=Bo ((!x14) || ((r_.kind != 1) && (((r_.coefs.length : Int) != 0) || (r_.bound != 0))))) rfl rfl (or_f hc23 rfl) (mB rfl (L_split (d:=26) (b:=((!x14) || ((r_.kind != 1) && (((r_.coefs.length : Int) != 0) || (r_.bound != 0))))) rfl (fun hc28=>?_) (fun hc28=>?_))))))))
 refine ps rfl (ps rfl (ps rfl (ps rfl (ps rfl (ps rfl (ps rfl (ps rfl (ps rfl (L_pick (v:=Bo (((!x14) || ((r_.kind != 1) && (((r_.coefs.length : Int) != 0) || (r_.bound != 0)))) || ((r_.kind != 3) && ((r_.rows.length : Int) != 0)))) rfl rfl (or_t hc28) (nn (rj hR16 ⟨rfl,rfl,(Star.keepN 1 Z)⟩)))))))))))
 refine fA 0 fa_79_0 rfl rfl (ldB 0 Z Tryz.isAgg3 rfl rfl rfl (L_neq rfl rfl rfl (mB rfl (L_split (d:=30) (b:=(r_.kind != 3)) rfl (fun hc29=>?_) (fun hc29=>?_)))))
 refine fA 4 fa_79_4 rfl rfl (ldB 0 Z Tryz.isAgg77 rfl rfl rfl (L_len rfl Tryz.underlying77 rfl (slice_len h1_4) (L_neq rfl rfl rfl (L_pick (v:=Bo ((r_.kind != 3) && ((r_.rows.length : Int) != 0))) rfl rfl (and_t hc29 rfl) (L_pick (v:=Bo (((!x14) || ((r_.kind != 1) && (((r_.coefs.length : Int) != 0) || (r_.bound != 0)))) || ((r_.kind != 3) && ((r_.rows.length : Int) != 0)))) rfl rfl (or_f hc28 rfl) (nn (rj hR16 ⟨rfl,rfl,(Star.keepN 1 Z)⟩)))))))
 refine ps rfl (ps rfl (ps rfl (ps rfl (L_pick (v:=Bo ((r_.kind != 3) && ((r_.rows.length : Int) != 0))) rfl rfl (and_f hc29) (L_pick (v:=Bo (((!x14) || ((r_.kind != 1) && (((r_.coefs.length : Int) != 0) || (r_.bound != 0)))) || ((r_.kind != 3) && ((r_.rows.length : Int) != 0)))) rfl rfl (or_f hc28 rfl) (nn (rj hR16 ⟨rfl,rfl,(Star.keepN 1 Z)⟩)))))))
 refine fA 3 fa_79_3 rfl rfl (ldB 0 Z Tryz.isAgg3 rfl rfl rfl (L_neq rfl rfl rfl (L_pick (v:=Bo (((r_.coefs.length : Int) != 0) || (r_.bound != 0))) rfl rfl (or_f hc27 rfl) (L_pick (v:=Bo ((r_.kind != 1) && (((r_.coefs.length : Int) != 0) || (r_.bound != 0)))) rfl rfl (and_t hc26 rfl) (L_pick (v:=Bo ((!x14) || ((r_.kind != 1) && (((r_.coefs.length : Int) != 0) || (r_.bound != 0))))) rfl rfl (or_f hc23 rfl) (mB rfl (L_split (d:=26) (b:=((!x14) || ((r_.kind != 1) && (((r_.coefs.length : Int) != 0) || (r_.bound != 0))))) rfl (fun hc30=>?_) (fun hc30=>?_))))))))
 refine ps rfl (ps rfl (ps rfl (ps rfl (ps rfl (ps rfl (ps rfl (ps rfl (ps rfl (L_pick (v:=Bo (((!x14) || ((r_.kind != 1) && (((r_.coefs.length : Int) != 0) || (r_.bound != 0)))) || ((r_.kind != 3) && ((r_.rows.length : Int) != 0)))) rfl rfl (or_t hc30) (nn (rj hR16 ⟨rfl,rfl,(Star.keepN 1 Z)⟩)))))))))))
 refine fA 0 fa_79_0 rfl rfl (ldB 0 Z Tryz.isAgg3 rfl rfl rfl (L_neq rfl rfl rfl (mB rfl (L_split (d:=30) (b:=(r_.kind != 3)) rfl (fun hc31=>?_) (fun hc31=>?_)))))
 refine fA 4 fa_79_4 rfl rfl (ldB 0 Z Tryz.isAgg77 rfl rfl rfl (L_len rfl Tryz.underlying77 rfl (slice_len h1_4) (L_neq rfl rfl rfl (L_pick (v:=Bo ((r_.kind != 3) && ((r_.rows.length : Int) != 0))) rfl rfl (and_t hc31 rfl) (L_pick (v:=Bo (((!x14) || ((r_.kind != 1) && (((r_.coefs.length : Int) != 0) || (r_.bound != 0)))) || ((r_.kind != 3) && ((r_.rows.length : Int) != 0)))) rfl rfl (or_f hc30 rfl) (nn (rj hR16 ⟨rfl,rfl,(Star.keepN 1 Z)⟩)))))))
 refine ps rfl (ps rfl (ps rfl (ps rfl (L_pick (v:=Bo ((r_.kind != 3) && ((r_.rows.length : Int) != 0))) rfl rfl (and_f hc31) (L_pick (v:=Bo (((!x14) || ((r_.kind != 1) && (((r_.coefs.length : Int) != 0) || (r_.bound != 0)))) || ((r_.kind != 3) && ((r_.rows.length : Int) != 0)))) rfl rfl (or_f hc30 rfl) (nn (rj hR16 ⟨rfl,rfl,(Star.keepN 1 Z)⟩)))))))
 refine ps rfl (ps rfl (ps rfl (ps rfl (ps rfl (ps rfl (ps rfl (ps rfl (ps rfl (L_pick (v:=Bo ((r_.kind != 1) && (((r_.coefs.length : Int) != 0) || (r_.bound != 0)))) rfl rfl (and_f hc26) (L_pick (v:=Bo ((!x14) || ((r_.kind != 1) && (((r_.coefs.length : Int) != 0) || (r_.bound != 0))))) rfl rfl (or_f hc23 rfl) (mB rfl (L_split (d:=26) (b:=((!x14) || ((r_.kind != 1) && (((r_.coefs.length : Int) != 0) || (r_.bound != 0))))) rfl (fun hc32=>?_) (fun hc32=>?_)))))))))))))
 refine ps rfl (ps rfl (ps rfl (ps rfl (ps rfl (ps rfl (ps rfl (ps rfl (ps rfl (L_pick (v:=Bo (((!x14) || ((r_.kind != 1) && (((r_.coefs.length : Int) != 0) || (r_.bound != 0)))) || ((r_.kind != 3) && ((r_.rows.length : Int) != 0)))) rfl rfl (or_t hc32) (nn (rj hR16 ⟨rfl,rfl,(Star.keepN 1 Z)⟩)))))))))))
 refine fA 0 fa_79_0 rfl rfl (ldB 0 Z Tryz.isAgg3 rfl rfl rfl (L_neq rfl rfl rfl (mB rfl (L_split (d:=30) (b:=(r_.kind != 3)) rfl (fun hc33=>?_) (fun hc33=>?_)))))
 refine fA 4 fa_79_4 rfl rfl (ldB 0 Z Tryz.isAgg77 rfl rfl rfl (L_len rfl Tryz.underlying77 rfl (slice_len h1_4) (L_neq rfl rfl rfl (L_pick (v:=Bo ((r_.kind != 3) && ((r_.rows.length : Int) != 0))) rfl rfl (and_t hc33 rfl) (L_pick (v:=Bo (((!x14) || ((r_.kind != 1) && (((r_.coefs.length : Int) != 0) || (r_.bound != 0)))) || ((r_.kind != 3) && ((r_.rows.length : Int) != 0)))) rfl rfl (or_f hc32 rfl) (nn (rj hR16 ⟨rfl,rfl,(Star.keepN 1 Z)⟩)))))))
 refine ps rfl (ps rfl (ps rfl (ps rfl (L_pick (v:=Bo ((r_.kind != 3) && ((r_.rows.length : Int) != 0))) rfl rfl (and_f hc33) (L_pick (v:=Bo (((!x14) || ((r_.kind != 1) && (((r_.coefs.length : Int) != 0) || (r_.bound != 0)))) || ((r_.kind != 3) && ((r_.rows.length : Int) != 0)))) rfl rfl (or_f hc32 rfl) (nn (rj hR16 ⟨rfl,rfl,(Star.keepN 1 Z)⟩)))))))
 intro f w_ hR
 obtain ⟨sf3,sf36,Z⟩:=rk hR16 hR
 refine W_cond (b:=(((!x14) || ((r_.kind != 1) && (((r_.coefs.length : Int) != 0) || (r_.bound != 0)))) || ((r_.kind != 3) && ((r_.rows.length : Int) != 0)))) sf36 (fun hc34=>?_) (fun hc34=>?_)
 have hF:=(ite_t hc34).symm.trans hF
 refine sq (aB rfl (nn (W_ret (retG1 (v1:=Bo false) Tryz.results106 rfl ?_))))
 obtain rfl:=so hF
 exact ⟨rfl,(Star.keepN 0 Z)⟩
 have hF:=(ite_f hc34).symm.trans hF
 refine W_skip (W_seq (sq (fA 0 fa_79_0 sf3 rfl (ldB 0 Z Tryz.isAgg3 rfl rfl rfl (nn (W_block (sq (L_eql rfl rfl rfl (aB rfl (nn (W_cond (b:=(r_.kind == 1)) rfl (fun hc35=>?_) (fun hc35=>?_))))))))))))
 have hF:=(ite_t hc35).symm.trans hF
 refine W_seq ?_
 obtain ⟨x41,hx41,hF⟩:=bind_some hF
 refine W_region (L_lda (cs:=[I r_.kind,v1_1,v1_2,I r_.bound,v1_4]) rfl Tryz.isAgg79 Tryz.sizeOf79 sf3 (At.sub0 (Blk.at (Star.blkAt 0 Z rfl)) 0 5) rfl ?_)
 obtain ⟨H43b,l44,s45,z46,k47⟩:=Z.borrow
 refine L_call rfl Tryz.call149 (ops1 rfl) (s_l6Linear_c (r_:=r_) s45 (RP.mono _ h1_1 l44) (RP.mono _ h1_2 l44) (RP.mono _ h1_4 l44) hx41) ?_
 rintro _ w48 ⟨rfl,Z⟩
 have Z:=k47 Z c0
 refine aB rfl (nn (W_ret (retG1 (v1:=Bo x41) Tryz.results106 rfl ?_)))
 obtain rfl:=so hF
 exact ⟨rfl,(Star.keepN 0 Z)⟩
 have hF:=(ite_f hc35).symm.trans hF
 refine sq (L_eql rfl rfl rfl (aB rfl (nn (W_cond (b:=(r_.kind == 2)) rfl (fun hc49=>?_) (fun hc49=>?_)))))
 have hF:=(ite_t hc49).symm.trans hF
 refine sq (aB rfl (nn (W_ret (retG1 (v1:=Bo true) Tryz.results106 rfl ?_))))
 obtain rfl:=so hF
 exact ⟨rfl,(Star.keepN 0 Z)⟩
 have hF:=(ite_f hc49).symm.trans hF
 refine sq (L_eql rfl rfl rfl (aB rfl (nn (W_cond (b:=(r_.kind == 3)) rfl (fun hc50=>?_) (fun hc50=>?_)))))
 have hF:=(ite_t hc50).symm.trans hF
 refine W_seq ?_
 obtain ⟨x56,hx56,hF⟩:=bind_some hF
 refine W_region (L_lda (cs:=[I r_.kind,v1_1,v1_2,I r_.bound,v1_4]) rfl Tryz.isAgg79 Tryz.sizeOf79 sf3 (At.sub0 (Blk.at (Star.blkAt 0 Z rfl)) 0 5) rfl ?_)
 obtain ⟨H58b,l59,s60,z61,k62⟩:=Z.borrow
 refine L_call rfl Tryz.call150 (ops1 rfl) (s_l6Table_c (r_:=r_) s60 (RP.mono _ h1_1 l59) (RP.mono _ h1_2 l59) (RP.mono _ h1_4 l59) hx56) ?_
 rintro _ w63 ⟨rfl,Z⟩
 have Z:=k62 Z c0
 refine aB rfl (nn (W_ret (retG1 (v1:=Bo x56) Tryz.results106 rfl ?_)))
 obtain rfl:=so hF
 exact ⟨rfl,(Star.keepN 0 Z)⟩
 have hF:=(ite_f hc50).symm.trans hF
 refine sq (L_eql rfl rfl rfl (aB rfl (nn (W_cond (b:=(r_.kind == 4)) rfl (fun hc64=>?_) (fun hc64=>?_)))))
 have hF:=(ite_t hc64).symm.trans hF
 refine sq (fA 1 fa_79_1 sf3 rfl (ldB 0 Z Tryz.isAgg23 rfl rfl rfl (L_len rfl Tryz.underlying23 rfl (slice_len h1_1) (L_eql rfl rfl rfl (aB rfl (nn (W_ret (retG1 (v1:=Bo ((r_.vars.length : Int) == 2)) Tryz.results106 rfl ?_))))))))
 obtain rfl:=so hF
 exact ⟨rfl,(Star.keepN 0 Z)⟩
 have hF:=(ite_f hc64).symm.trans hF
 refine W_skip (sq (aB rfl (nn (W_ret (retG1 (v1:=Bo false) Tryz.results106 rfl ?_)))))
 obtain rfl:=so hF
 exact ⟨rfl,(Star.keepN 0 Z)⟩
theorem s_ModelValid_c {fu : Nat} {m : Model} {v0_0 : Value} {v0_1 : Value} {H : FH} {w : World} (Z : Star H w []) (h0_0 : (rS 3 RP.int).rel H [v0_0] m.sizes) (h0_1 : (rS 79 (rRule 3 23)).rel H [v0_1] m.rules) {r : Bool} (hF : s_ModelValid fu m = some r) :
 C Tryz.prog 51 #[.agg #[v0_0,v0_1]] w fun v w'=>v = Bo r∧Star H w' []:=by
 unfold s_ModelValid at hF
 refine C_enter Tryz.func51 rfl Tryz.ntmps51 rfl (sq (L_box (v:=.agg #[v0_0,v0_1]) (cs:=#[v0_0,v0_1]) rfl rfl rfl Z (fun g3 w4 Z=>aB rfl (ns (aI rfl (nq (sq (aI rfl (nn ?_)))))))))
 obtain ⟨j10,hL10,hF⟩:=bind_some hF
 obtain ⟨R10,hR10⟩:=exR fun f w_=>∃ n_8 : Int,∃ i_9 : Int,j10 = .nx (n_8,i_9)∧f 1 = Pt g3∧f 3 = I n_8∧Star H w_ ([box g3 26 #[v0_0,v0_1]])
 refine W_join R10 ?_ ?_
 refine W_block ?_
 obtain ⟨I10,hI10⟩:=exI fun n f w_=>∃ n_8 : Int,∃ i_9 : Int,whileL (s_ModelValid_b1 m) n (n_8,i_9) = some j10∧f 1 = Pt g3∧f 3 = I n_8∧f 4 = I i_9∧Star H w_ ([box g3 26 #[v0_0,v0_1]])
 refine W_loop I10 (n:=fu) ?_ ?_
 exact ij hI10 ⟨0,0,hL10,rfl,rfl,rfl,Z⟩
 intro n10 f w_ hI
 obtain ⟨n_8,i_9,hL10,sf1,sf3,sf4,Z⟩:=ik hI10 hI
 rcases n10 with _ | n10
 exact (while_zero hL10).elim
 obtain ⟨o10,hB10,hL10⟩:=while_succ hL10
 rw [s_ModelValid_b1] at hB10
 refine W_seq (W_seq ?_)
 obtain ⟨R11,hR11⟩:=exR fun f w_=>f 1 = Pt g3∧f 3 = I n_8∧f 4 = I i_9∧f 14 = Bo ((decide (i_9 < (m.sizes.length : Int))) && (decide (i_9 < 5)))∧Star H w_ ([box g3 26 #[v0_0,v0_1]])
 refine W_join R11 ?_ ?_
 refine W_region (mF sf4 rfl (fA 0 fa_26_0 sf1 rfl (ldB 0 Z Tryz.isAgg23 rfl rfl rfl (L_len rfl Tryz.underlying23 rfl (slice_len h0_0) (L_lss rfl rfl rfl (mB rfl (L_split (d:=11) (b:=decide (i_9 < (m.sizes.length : Int))) rfl (fun hc12=>?_) (fun hc12=>?_))))))))
 refine mF sf4 rfl (L_lss rfl rfl rfl (L_pick (v:=Bo ((decide (i_9 < (m.sizes.length : Int))) && (decide (i_9 < 5)))) rfl rfl (and_t hc12 rfl) (nn (rj hR11 ⟨sf1,sf3,sf4,rfl,Z⟩))))
 refine ps rfl (ps rfl (L_pick (v:=Bo ((decide (i_9 < (m.sizes.length : Int))) && (decide (i_9 < 5)))) rfl rfl (and_f hc12) (nn (rj hR11 ⟨sf1,sf3,sf4,rfl,Z⟩))))
 intro f w_ hR
 obtain ⟨sf1,sf3,sf4,sf14,Z⟩:=rk hR11 hR
 refine W_cond (b:=((decide (i_9 < (m.sizes.length : Int))) && (decide (i_9 < 5)))) sf14 (fun hc13=>?_) (fun hc13=>?_)
 have hB10:=(ite_t hc13).symm.trans hB10
 refine W_skip (W_seq (W_block (W_seq (W_seq ?_))))
 obtain ⟨x14,hx14,hB10⟩:=bind_some hB10
 obtain ⟨R23,hR23⟩:=exR fun f w_=>f 1 = Pt g3∧f 3 = I n_8∧f 4 = I i_9∧f 30 = Bo ((decide (x14 < 0)) || (decide (x14 > 3)))∧Star H w_ ([box g3 26 #[v0_0,v0_1]])
 refine W_join R23 ?_ ?_
 refine W_region (fA 0 fa_26_0 sf1 rfl (ldB 0 Z Tryz.isAgg23 rfl rfl rfl (mF sf4 rfl (L_ix (r:=RP.int) rfl Tryz.underlying23 Tryz.sizeOf3 rfl h0_0 rfl hx14 (fun g24 o25 cs_g24 hrk_hat26 hat26=>?_)))))
 obtain rfl : _ = [_]:=hrk_hat26
 refine L_ld rfl Tryz.isAgg3 rfl (At.cell (AtH.at hat26 Z.sub) (j:=0) rfl) (L_lss rfl rfl rfl (mB rfl (L_split (d:=23) (b:=decide (x14 < 0)) rfl (fun hc28=>?_) (fun hc28=>?_))))
 refine ps rfl (ps rfl (ps rfl (ps rfl (ps rfl (ps rfl (L_pick (v:=Bo ((decide (x14 < 0)) || (decide (x14 > 3)))) rfl rfl (or_t hc28) (nn (rj hR23 ⟨sf1,sf3,sf4,rfl,Z⟩))))))))
 refine fA 0 fa_26_0 sf1 rfl (ldB 0 Z Tryz.isAgg23 rfl rfl rfl (mF sf4 rfl (L_ix (r:=RP.int) rfl Tryz.underlying23 Tryz.sizeOf3 rfl h0_0 rfl hx14 (fun g29 o30 cs_g29 hrk_hat31 hat31=>?_))))
 obtain rfl : _ = [_]:=hrk_hat31
 refine L_ld rfl Tryz.isAgg3 rfl (At.cell (AtH.at hat31 Z.sub) (j:=0) rfl) (L_gtr rfl rfl rfl (L_pick (v:=Bo ((decide (x14 < 0)) || (decide (x14 > 3)))) rfl rfl (or_f hc28 rfl) (nn (rj hR23 ⟨sf1,sf3,sf4,rfl,Z⟩))))
 intro f w_ hR
 obtain ⟨sf1,sf3,sf4,sf30,Z⟩:=rk hR23 hR
 refine W_cond (b:=((decide (x14 < 0)) || (decide (x14 > 3)))) sf30 (fun hc33=>?_) (fun hc33=>?_)
 have hB10:=(ite_t hc33).symm.trans hB10
 refine sq (aB rfl (nn (W_ret (retG1 (v1:=Bo false) Tryz.results51 rfl ?_))))
 obtain rfl:=so hB10
 obtain rfl:=so hL10
 obtain rfl:=so hF
 exact ⟨rfl,(Star.keepN 0 Z)⟩
 have hB10:=(ite_f hc33).symm.trans hB10
 refine W_skip (W_region (mF sf3 rfl (fA 0 fa_26_0 sf1 rfl (ldB 0 Z Tryz.isAgg23 rfl rfl rfl (mF sf4 rfl (L_ix (r:=RP.int) rfl Tryz.underlying23 Tryz.sizeOf3 rfl h0_0 rfl hx14 (fun g38 o39 cs_g38 hrk_hat40 hat40=>?_)))))))
 obtain rfl : _ = [_]:=hrk_hat40
 refine L_ld rfl Tryz.isAgg3 rfl (At.cell (AtH.at hat40 Z.sub) (j:=0) rfl) (L_add rfl rfl rfl (L_add rfl rfl rfl (aI rfl (nn (W_region (mF sf4 rfl (L_add rfl rfl rfl (aI rfl (nn ?_)))))))))
 obtain rfl:=so hB10
 show ∃ m,m < _∧I10 m _ _
 refine ⟨n10,Nat.lt_succ_self _,?_⟩
 exact ij hI10 ⟨i64 ((i64 (n_8 + x14)) + 1),i64 (i_9 + 1),hL10,sf1,rfl,rfl,Z⟩
 have hB10:=(ite_f hc13).symm.trans hB10
 refine W_exit ?_
 obtain rfl:=so hB10
 obtain rfl:=so hL10
 exact rj hR10 ⟨n_8,i_9,rfl,sf1,sf3,Z⟩
 intro f w_ hR
 obtain ⟨n_8,i_9,rfl,sf1,sf3,Z⟩:=rk hR10 hR
 refine W_seq (W_seq ?_)
 obtain ⟨R42,hR42⟩:=exR fun f w_=>f 1 = Pt g3∧f 58 = Bo ((((decide ((m.sizes.length : Int) < 1)) || (decide ((m.sizes.length : Int) > 5))) || (decide (n_8 > 12))) || (decide ((m.rules.length : Int) > 8)))∧Star H w_ ([box g3 26 #[v0_0,v0_1]])
 refine W_join R42 ?_ ?_
 refine W_region (fA 0 fa_26_0 sf1 rfl (ldB 0 Z Tryz.isAgg23 rfl rfl rfl (L_len rfl Tryz.underlying23 rfl (slice_len h0_0) (L_lss rfl rfl rfl (mB rfl (L_split (d:=43) (b:=decide ((m.sizes.length : Int) < 1)) rfl (fun hc43=>?_) (fun hc43=>?_)))))))
 refine ps rfl (ps rfl (ps rfl (ps rfl (L_pick (v:=Bo ((decide ((m.sizes.length : Int) < 1)) || (decide ((m.sizes.length : Int) > 5)))) rfl rfl (or_t hc43) (mB rfl (L_split (d:=49) (b:=((decide ((m.sizes.length : Int) < 1)) || (decide ((m.sizes.length : Int) > 5)))) rfl (fun hc44=>?_) (fun hc44=>?_)))))))
 refine ps rfl (ps rfl (L_pick (v:=Bo (((decide ((m.sizes.length : Int) < 1)) || (decide ((m.sizes.length : Int) > 5))) || (decide (n_8 > 12)))) rfl rfl (or_t hc44) (mB rfl (L_split (d:=53) (b:=(((decide ((m.sizes.length : Int) < 1)) || (decide ((m.sizes.length : Int) > 5))) || (decide (n_8 > 12)))) rfl (fun hc45=>?_) (fun hc45=>?_)))))
 refine ps rfl (ps rfl (ps rfl (ps rfl (L_pick (v:=Bo ((((decide ((m.sizes.length : Int) < 1)) || (decide ((m.sizes.length : Int) > 5))) || (decide (n_8 > 12))) || (decide ((m.rules.length : Int) > 8)))) rfl rfl (or_t hc45) (nn (rj hR42 ⟨sf1,rfl,Z⟩))))))
 refine fA 1 fa_26_1 sf1 rfl (ldB 0 Z Tryz.isAgg24 rfl rfl rfl (L_len rfl Tryz.underlying24 rfl (slice_len h0_1) (L_gtr rfl rfl rfl (L_pick (v:=Bo ((((decide ((m.sizes.length : Int) < 1)) || (decide ((m.sizes.length : Int) > 5))) || (decide (n_8 > 12))) || (decide ((m.rules.length : Int) > 8)))) rfl rfl (or_f hc45 rfl) (nn (rj hR42 ⟨sf1,rfl,Z⟩))))))
 refine mF sf3 rfl (L_gtr rfl rfl rfl (L_pick (v:=Bo (((decide ((m.sizes.length : Int) < 1)) || (decide ((m.sizes.length : Int) > 5))) || (decide (n_8 > 12)))) rfl rfl (or_f hc44 rfl) (mB rfl (L_split (d:=53) (b:=(((decide ((m.sizes.length : Int) < 1)) || (decide ((m.sizes.length : Int) > 5))) || (decide (n_8 > 12)))) rfl (fun hc46=>?_) (fun hc46=>?_)))))
 refine ps rfl (ps rfl (ps rfl (ps rfl (L_pick (v:=Bo ((((decide ((m.sizes.length : Int) < 1)) || (decide ((m.sizes.length : Int) > 5))) || (decide (n_8 > 12))) || (decide ((m.rules.length : Int) > 8)))) rfl rfl (or_t hc46) (nn (rj hR42 ⟨sf1,rfl,Z⟩))))))
 refine fA 1 fa_26_1 sf1 rfl (ldB 0 Z Tryz.isAgg24 rfl rfl rfl (L_len rfl Tryz.underlying24 rfl (slice_len h0_1) (L_gtr rfl rfl rfl (L_pick (v:=Bo ((((decide ((m.sizes.length : Int) < 1)) || (decide ((m.sizes.length : Int) > 5))) || (decide (n_8 > 12))) || (decide ((m.rules.length : Int) > 8)))) rfl rfl (or_f hc46 rfl) (nn (rj hR42 ⟨sf1,rfl,Z⟩))))))
 refine fA 0 fa_26_0 sf1 rfl (ldB 0 Z Tryz.isAgg23 rfl rfl rfl (L_len rfl Tryz.underlying23 rfl (slice_len h0_0) (L_gtr rfl rfl rfl (L_pick (v:=Bo ((decide ((m.sizes.length : Int) < 1)) || (decide ((m.sizes.length : Int) > 5)))) rfl rfl (or_f hc43 rfl) (mB rfl (L_split (d:=49) (b:=((decide ((m.sizes.length : Int) < 1)) || (decide ((m.sizes.length : Int) > 5)))) rfl (fun hc47=>?_) (fun hc47=>?_)))))))
 refine ps rfl (ps rfl (L_pick (v:=Bo (((decide ((m.sizes.length : Int) < 1)) || (decide ((m.sizes.length : Int) > 5))) || (decide (n_8 > 12)))) rfl rfl (or_t hc47) (mB rfl (L_split (d:=53) (b:=(((decide ((m.sizes.length : Int) < 1)) || (decide ((m.sizes.length : Int) > 5))) || (decide (n_8 > 12)))) rfl (fun hc48=>?_) (fun hc48=>?_)))))
 refine ps rfl (ps rfl (ps rfl (ps rfl (L_pick (v:=Bo ((((decide ((m.sizes.length : Int) < 1)) || (decide ((m.sizes.length : Int) > 5))) || (decide (n_8 > 12))) || (decide ((m.rules.length : Int) > 8)))) rfl rfl (or_t hc48) (nn (rj hR42 ⟨sf1,rfl,Z⟩))))))
 refine fA 1 fa_26_1 sf1 rfl (ldB 0 Z Tryz.isAgg24 rfl rfl rfl (L_len rfl Tryz.underlying24 rfl (slice_len h0_1) (L_gtr rfl rfl rfl (L_pick (v:=Bo ((((decide ((m.sizes.length : Int) < 1)) || (decide ((m.sizes.length : Int) > 5))) || (decide (n_8 > 12))) || (decide ((m.rules.length : Int) > 8)))) rfl rfl (or_f hc48 rfl) (nn (rj hR42 ⟨sf1,rfl,Z⟩))))))
 refine mF sf3 rfl (L_gtr rfl rfl rfl (L_pick (v:=Bo (((decide ((m.sizes.length : Int) < 1)) || (decide ((m.sizes.length : Int) > 5))) || (decide (n_8 > 12)))) rfl rfl (or_f hc47 rfl) (mB rfl (L_split (d:=53) (b:=(((decide ((m.sizes.length : Int) < 1)) || (decide ((m.sizes.length : Int) > 5))) || (decide (n_8 > 12)))) rfl (fun hc49=>?_) (fun hc49=>?_)))))
 refine ps rfl (ps rfl (ps rfl (ps rfl (L_pick (v:=Bo ((((decide ((m.sizes.length : Int) < 1)) || (decide ((m.sizes.length : Int) > 5))) || (decide (n_8 > 12))) || (decide ((m.rules.length : Int) > 8)))) rfl rfl (or_t hc49) (nn (rj hR42 ⟨sf1,rfl,Z⟩))))))
 refine fA 1 fa_26_1 sf1 rfl (ldB 0 Z Tryz.isAgg24 rfl rfl rfl (L_len rfl Tryz.underlying24 rfl (slice_len h0_1) (L_gtr rfl rfl rfl (L_pick (v:=Bo ((((decide ((m.sizes.length : Int) < 1)) || (decide ((m.sizes.length : Int) > 5))) || (decide (n_8 > 12))) || (decide ((m.rules.length : Int) > 8)))) rfl rfl (or_f hc49 rfl) (nn (rj hR42 ⟨sf1,rfl,Z⟩))))))
 intro f w_ hR
 obtain ⟨sf1,sf58,Z⟩:=rk hR42 hR
 refine W_cond (b:=((((decide ((m.sizes.length : Int) < 1)) || (decide ((m.sizes.length : Int) > 5))) || (decide (n_8 > 12))) || (decide ((m.rules.length : Int) > 8)))) sf58 (fun hc50=>?_) (fun hc50=>?_)
 have hF:=(ite_t hc50).symm.trans hF
 refine sq (aB rfl (nn (W_ret (retG1 (v1:=Bo false) Tryz.results51 rfl ?_))))
 obtain rfl:=so hF
 exact ⟨rfl,(Star.keepN 0 Z)⟩
 have hF:=(ite_f hc50).symm.trans hF
 refine W_skip (W_seq (sq (aI rfl (nn ?_))))
 have hlen54 : List.length m.rules≤9223372036854775807:=len_le (slice_len h0_1)
 obtain ⟨j54,hL54,hF⟩:=bind_some hF
 obtain ⟨R54,hR54⟩:=exR fun f w_=>∃ H52 : FH,j54 = .nx ()∧Le H H52∧Star H52 w_ ([])
 refine W_join R54 ?_ ?_
 refine W_block ?_
 obtain ⟨I54,hI54⟩:=exI fun n f w_=>∃ i_51 : Nat,∃ suf54 : List Rule,∃ H52 : FH,n = suf54.length∧List.drop i_51 m.rules = suf54∧i_51 + suf54.length = m.rules.length∧rangeL (s_ModelValid_b2 m) suf54 i_51 () = some j54∧Le H H52∧f 1 = Pt g3∧f 5 = I i_51∧Star H52 w_ ([box g3 26 #[v0_0,v0_1]])
 refine W_loop I54 (n:=m.rules.length) ?_ ?_
 exact ij hI54 ⟨0,m.rules,H,rfl,rfl,Nat.zero_add _,hL54,(Le.refl _),sf1,rfl,Z⟩
 intro n54 f w_ hI
 obtain ⟨i_51,suf54,H52,rfl,hd54,hl54,hL54,l53,sf1,sf5,Z⟩:=ik hI54 hI
 refine W_seq (sq (mF sf5 rfl (fA 1 fa_26_1 sf1 rfl (ldB 0 Z Tryz.isAgg24 rfl rfl rfl (L_len rfl Tryz.underlying24 rfl (slice_len (RP.mono _ h0_1 l53)) (L_lss rfl rfl rfl (nn (W_cond (b:=decide ((i_51 : Int) < (m.rules.length : Int))) rfl (fun hc55=>?_) (fun hc55=>?_)))))))))
 have hlt54:=of_decide_eq_true hc55
 rcases suf54 with _ | ⟨x_54,rest54⟩
 exact absurd hlt54 (by simp at hl54; omega)
 obtain ⟨o54,hB54,hL54⟩:=range_cons hL54
 rw [s_ModelValid_b2] at hB54
 have hix54:=drop_idx hd54
 refine W_skip (W_seq (W_block (W_seq ?_)))
 obtain ⟨x65,hx65,hB54⟩:=bind_some hB54
 refine W_drawS 6 [isV (.agg #[v0_0,v0_1]),isV (Pq g3 1),isV (v0_1),isV (I i_51),isEl (rRule 3 23) x_54 0,exD (isData (rS 3 RP.int) x_54.vars) fun u_1=>exD (isData (rS 3 RP.int) x_54.coefs) fun u_2=>exD (isData (rS 23 (rS 3 RP.int)) x_54.rows) fun u_4=>isV (.agg #[I x_54.kind,u_1,u_2,I x_54.bound,u_4])] [box g3 26 #[v0_0,v0_1]] [] ([]) [([],[]),([],[]),([],[]),([],[]),([],[]),([],[])] (S:=[]) Tryz_mix (by kernel_rfl) rfl (by kernel_rfl) (amF_cons (mono_V _) (amF_cons (mono_V _) (amF_cons (mono_V _) (amF_cons (mono_V _) (amF_cons (mono_el _ _ _) (amF_cons (mono_exD (mono_data _ _) fun _=>mono_exD (mono_data _ _) fun _=>mono_exD (mono_data _ _) fun _=>mono_V _) amF_nil)))))) Z ?_ (fun f w_ H67 hS67 hE67 hT67 Z=>?_)
 refine opsS_cons (fun f w_ _ _ s _ _ Z=>L_lda (cs:=[v0_0,v0_1]) rfl Tryz.isAgg26 Tryz.sizeOf26 ((s 1 rfl).trans sf1) (At.sub0 (Blk.at (Star.blkAt 0 Z rfl)) 0 2) rfl (nO rfl rfl Z)) (opsS_cons (fun f w_ _ _ s _ _ Z=>fA 1 fa_26_1 ((s 1 rfl).trans sf1) rfl (nO rfl rfl Z)) (opsS_cons (fun f w_ _ _ _ _ p Z=>ldB 0 Z Tryz.isAgg24 (p 1 67 rfl rfl) rfl rfl (nO rfl rfl Z)) (opsS_cons (fun f w_ _ _ s _ _ Z=>mF ((s 5 rfl).trans sf5) rfl (nO rfl rfl Z)) (opsS_cons ?_ ?_))))
 intro f w_ H67 X67 hS67 hE67 hP67 Z
 refine L_ix (r:=(rRule 3 23)) rfl Tryz.underlying24 Tryz.sizeOf79 (hP67 2 68 rfl rfl) (RP.mono _ h0_1 (Le.trans l53 hE67)) (hP67 3 69 rfl rfl) hix54 (fun g72 o73 cs_g72 hrk_hat74 hat74=>?_)
 obtain ⟨u75_0,u75_1,u75_2,rfl,hu75_0,hu75_1,hu75_2⟩:=rRule_iff.1 hrk_hat74
 exact L_nil ⟨rfl,_,_,rfl,Le.refl _,fun _ _=>⟨_,_,_,rfl,hrk_hat74,hat74⟩,Z⟩
 refine opsS_cons ?_ ?_
 intro f w_ H67 X67 hS67 hE67 hP67 Z
 obtain ⟨g76,o76,cs76,hv76,hrk_hat76,hat76⟩:=(hP67 4 70 rfl rfl)
 obtain ⟨u77_0,u77_1,u77_2,rfl,hu77_0,hu77_1,hu77_2⟩:=rRule_iff.1 hrk_hat76
 refine L_lda (cs:=[I x_54.kind,u77_0,u77_1,I x_54.bound,u77_2]) rfl Tryz.isAgg79 Tryz.sizeOf79 hv76 (At.sub (AtH.at hat76 Z.sub) 0 5) rfl (L_nil ⟨rfl,_,_,rfl,Le.refl _,fun _ _=>⟨_,hu77_0,_,hu77_1,_,hu77_2,rfl⟩,Z⟩)
 exact opsS_nil
 obtain ⟨u78_1,hu78_1,u78_2,hu78_2,u78_4,hu78_4,hv78⟩:=(hT67 5 71 rfl rfl)
 obtain ⟨H79b,l80,s81,z82,k83⟩:=Z.borrow
 refine L_call rfl Tryz.call106 (ops2 (hT67 0 66 rfl rfl) hv78) (s_l6Rule_c (m:=m) (r_:=x_54) s81 (RP.mono _ h0_0 (Le.trans (Le.trans l53 hE67) l80)) (RP.mono _ h0_1 (Le.trans (Le.trans l53 hE67) l80)) (RP.mono _ hu78_1 l80) (RP.mono _ hu78_2 l80) (RP.mono _ hu78_4 l80) hx65) ?_
 rintro _ w84 ⟨rfl,Z⟩
 have Z:=k83 Z c0
 refine L_not_ rfl rfl (nn (W_cond (b:=(!x65)) rfl (fun hc85=>?_) (fun hc85=>?_)))
 have hB54:=(ite_t hc85).symm.trans hB54
 refine sq (aB rfl (nn (W_ret (retG1 (v1:=Bo false) Tryz.results51 rfl ?_))))
 obtain rfl:=so hB54
 obtain rfl:=so hL54
 obtain rfl:=so hF
 exact ⟨rfl,(Star.down (Star.keepN 0 Z) (Le.trans l53 hE67) c0)⟩
 have hB54:=(ite_f hc85).symm.trans hB54
 refine W_skip (W_region (mF ((hS67 5 rfl).trans sf5) rfl (L_add rfl rfl rfl (aI rfl (nn ?_)))))
 obtain rfl:=so hB54
 show ∃ m,m < _∧I54 m _ _
 refine ⟨rest54.length,by simp,?_⟩
 exact ij hI54 ⟨i_51 + 1,rest54,H67,rfl,drop_next hd54,by simp at hl54; omega,hL54,(Le.trans l53 hE67),((hS67 1 rfl).trans sf1),(Eq.trans rfl (congrArg (Value.int .i64) (i64_succ (n:=m.rules.length) (by simp at hl54; omega) hlen54))),Z⟩
 rcases suf54 with _ | ⟨_,_⟩
 obtain rfl:=range_nil hL54
 refine W_exit (rj hR54 ⟨H52,rfl,l53,(Star.keepN 0 Z)⟩)
 exact absurd (of_decide_eq_false hc55) (by simp at hl54; omega)
 intro f w_ hR
 obtain ⟨H52,rfl,l53,Z⟩:=rk hR54 hR
 refine sq (aB rfl (nn (W_ret (retG1 (v1:=Bo true) Tryz.results51 rfl ?_))))
 obtain rfl:=so hF
 exact ⟨rfl,(Star.down Z l53 c0)⟩
theorem s_l7Var_c {m : Model} {cell : Int} {value : Int} {v0_0 : Value} {v0_1 : Value} {H : FH} {w : World} (Z : Star H w []) (h0_0 : (rS 3 RP.int).rel H [v0_0] m.sizes) (h0_1 : (rS 79 (rRule 3 23)).rel H [v0_1] m.rules) {r : Int} (hF : s_l7Var m cell value = some r) :
 C Tryz.prog 70 #[.agg #[v0_0,v0_1],I cell,I value] w fun v w'=>v = I r∧Star H w' []:=by
 unfold s_l7Var at hF
 refine C_enter Tryz.func70 rfl Tryz.ntmps70 rfl (sq (L_box (v:=.agg #[v0_0,v0_1]) (cs:=#[v0_0,v0_1]) rfl rfl rfl Z (fun g3 w4 Z=>aI rfl (ns (mI rfl (L_add rfl rfl rfl (aI rfl (nq (sq (aI rfl (nn ?_)))))))))))
 obtain ⟨k8,hk8,hF⟩:=bind_some hF
 obtain ⟨j7,hL7,hF⟩:=bind_some hF
 obtain ⟨R7,hR7⟩:=exR fun f w_=>∃ n_6 : Int,j7 = .nx n_6∧f 7 = I n_6∧Star H w_ ([])
 refine W_join R7 ?_ ?_
 refine W_block ?_
 obtain ⟨I7,hI7⟩:=exI fun n f w_=>∃ i_5 : Nat,∃ suf7 : Nat,∃ n_6 : Int,suf7 = n∧0≤i_5∧i_5 + suf7 = 0 + k8∧countL (s_l7Var_b1 m) suf7 i_5 n_6 = some j7∧f 1 = I cell∧f 3 = Pt g3∧f 7 = I n_6∧f 8 = I i_5∧Star H w_ ([box g3 26 #[v0_0,v0_1]])
 refine W_loop I7 (n:=k8) ?_ ?_
 exact ij hI7 ⟨0,k8,i64 (1 + value),rfl,Nat.le_refl _,rfl,hL7,rfl,rfl,rfl,rfl,Z⟩
 intro n7 f w_ hI
 obtain ⟨i_5,suf7,n_6,rfl,hs7,hl7,hL7,sf1,sf3,sf7,sf8,Z⟩:=ik hI7 hI
 refine W_seq (sq (mF sf8 rfl (mF sf1 rfl (L_lss rfl rfl rfl (nn (W_cond (b:=decide ((i_5 : Int) < cell)) rfl (fun hc9=>?_) (fun hc9=>?_)))))))
 have hlt7:=of_decide_eq_true hc9
 rcases suf7 with _ | rest7
 exact absurd hlt7 (cntF_no hl7 hk8)
 obtain ⟨o7,hB7,hL7⟩:=count_succ hL7
 rw [s_l7Var_b1] at hB7
 refine W_skip (W_seq (W_block ?_))
 obtain ⟨x10,hx10,hB7⟩:=bind_some hB7
 refine W_region (mF sf7 rfl (fA 0 fa_26_0 sf3 rfl (ldB 0 Z Tryz.isAgg23 rfl rfl rfl (mF sf8 rfl (L_ix (r:=RP.int) rfl Tryz.underlying23 Tryz.sizeOf3 rfl h0_0 rfl hx10 (fun g15 o16 cs_g15 hrk_hat17 hat17=>?_))))))
 obtain rfl : _ = [_]:=hrk_hat17
 refine L_ld rfl Tryz.isAgg3 rfl (At.cell (AtH.at hat17 Z.sub) (j:=0) rfl) (L_add rfl rfl rfl (L_add rfl rfl rfl (aI rfl (nn (W_region (mF sf8 rfl (L_add rfl rfl rfl (aI rfl (nn ?_)))))))))
 obtain rfl:=so hB7
 show ∃ m,m < _∧I7 m _ _
 refine ⟨rest7,Nat.lt_succ_self _,?_⟩
 exact ij hI7 ⟨i_5 + 1,rest7,i64 ((i64 (n_6 + x10)) + 1),rfl,by omega,by omega,hL7,sf1,sf3,rfl,(Eq.trans rfl (congrArg (Value.int .i64) (i64_succ (n:=0 + k8) (by omega) (cntF_le hk8)))),Z⟩
 rcases suf7 with _ | _
 obtain rfl:=count_zero hL7
 refine W_exit (rj hR7 ⟨n_6,rfl,sf7,(Star.keepN 0 Z)⟩)
 exact absurd (cntF_yes hs7 hl7 hk8) (of_decide_eq_false hc9)
 intro f w_ hR
 obtain ⟨n_6,rfl,sf7,Z⟩:=rk hR7 hR
 refine sq (mF sf7 rfl (aI rfl (nn (W_ret (retG1 (v1:=I n_6) Tryz.results70 rfl ?_)))))
 obtain rfl:=so hF
 exact ⟨rfl,Z⟩
theorem s_l1Lit_c {n_ : Int} {H : FH} {w : World} (Z : Star H w []) {r : Bool} (hF : s_l1Lit n_ = some r) :
 C Tryz.prog 151 #[I n_] w fun v w'=>v = Bo r∧Star H w' []:=by
 unfold s_l1Lit at hF
 refine C_enter Tryz.func151 rfl Tryz.ntmps151 rfl (sq (aB rfl (nq ?_)))
 obtain ⟨R1,hR1⟩:=exR fun f w_=>f 2 = Bo (((n_ != 0) && (decide (n_ ≥ (-12)))) && (decide (n_≤12)))∧Star H w_ ([])
 refine W_join R1 ?_ ?_
 refine W_region (mI rfl (L_neq rfl rfl rfl (mB rfl (L_split (d:=5) (b:=(n_ != 0)) rfl (fun hc2=>?_) (fun hc2=>?_)))))
 refine mI rfl (L_geq rfl rfl rfl (L_pick (v:=Bo ((n_ != 0) && (decide (n_ ≥ (-12))))) rfl rfl (and_t hc2 rfl) (mB rfl (L_split (d:=9) (b:=((n_ != 0) && (decide (n_ ≥ (-12))))) rfl (fun hc3=>?_) (fun hc3=>?_)))))
 refine mI rfl (L_leq rfl rfl rfl (L_pick (v:=Bo (((n_ != 0) && (decide (n_ ≥ (-12)))) && (decide (n_≤12)))) rfl rfl (and_t hc3 rfl) (aB rfl (nn (rj hR1 ⟨rfl,Z⟩)))))
 refine ps rfl (ps rfl (L_pick (v:=Bo (((n_ != 0) && (decide (n_ ≥ (-12)))) && (decide (n_≤12)))) rfl rfl (and_f hc3) (aB rfl (nn (rj hR1 ⟨rfl,Z⟩)))))
 refine ps rfl (ps rfl (L_pick (v:=Bo ((n_ != 0) && (decide (n_ ≥ (-12))))) rfl rfl (and_f hc2) (mB rfl (L_split (d:=9) (b:=((n_ != 0) && (decide (n_ ≥ (-12))))) rfl (fun hc4=>?_) (fun hc4=>?_)))))
 refine mI rfl (L_leq rfl rfl rfl (L_pick (v:=Bo (((n_ != 0) && (decide (n_ ≥ (-12)))) && (decide (n_≤12)))) rfl rfl (and_t hc4 rfl) (aB rfl (nn (rj hR1 ⟨rfl,Z⟩)))))
 refine ps rfl (ps rfl (L_pick (v:=Bo (((n_ != 0) && (decide (n_ ≥ (-12)))) && (decide (n_≤12)))) rfl rfl (and_f hc4) (aB rfl (nn (rj hR1 ⟨rfl,Z⟩)))))
 intro f w_ hR
 obtain ⟨sf2,Z⟩:=rk hR1 hR
 refine W_ret (retG1 (v1:=Bo (((n_ != 0) && (decide (n_ ≥ (-12)))) && (decide (n_≤12)))) Tryz.results151 sf2 ?_)
 obtain rfl:=so hF
 exact ⟨rfl,Z⟩
theorem s_l1Abs_c {n_ : Int} {H : FH} {w : World} (Z : Star H w []) {r : Int} (hF : s_l1Abs n_ = some r) :
 C Tryz.prog 152 #[I n_] w fun v w'=>v = I r∧Star H w' []:=by
 unfold s_l1Abs at hF
 refine C_enter Tryz.func152 rfl Tryz.ntmps152 rfl (sq (aI rfl (nq (sq (mI rfl (L_lss rfl rfl rfl (nn (W_cond (b:=decide (n_ < 0)) rfl (fun hc1=>?_) (fun hc1=>?_)))))))))
 have hF:=(ite_t hc1).symm.trans hF
 refine sq (mI rfl (L_neg rfl rfl (aI rfl (nn (W_ret (retG1 (v1:=I (i64 (-n_))) Tryz.results152 rfl ?_))))))
 obtain rfl:=so hF
 exact ⟨rfl,Z⟩
 have hF:=(ite_f hc1).symm.trans hF
 refine W_skip (sq (mI rfl (aI rfl (nn (W_ret (retG1 (v1:=I n_) Tryz.results152 rfl ?_))))))
 obtain rfl:=so hF
 exact ⟨rfl,Z⟩
theorem s_ClauseOf_c {lits : List Int} {v0 : Value} {H : FH} {w : World} (Z : Star H w []) (h0 : (rS 3 RP.int).rel H [v0] lits) {r : Con × Bool} (hF : s_ClauseOf lits = some r) :
 C Tryz.prog 107 #[v0] w fun v w'=>∃ (u1 : Value),v = .tuple #[.agg #[u1,I r.1.bound],Bo r.2]∧Star H w' [oF 122 rTerm u1 r.1.terms]:=by
 unfold s_ClauseOf at hF
 refine C_enter Tryz.func107 rfl Tryz.ntmps107 rfl (sq (L_al (cs:=#[S0,I 0]) rfl Tryz.zeroValue73 rfl Z (fun g3 w4 Z=>aB rfl (nq ?_))))
 obtain ⟨x5,hx5,hF⟩:=bind_some hF
 refine W_region (L_mk (R:=(OR.frz RP.int)) (z0:=0) (zc:=[I 0]) rfl et_23 (by kernel_rfl) (fun _ _=>⟨rfl,rfl⟩) rfl rfl hx5 Z (fun v9 w10 Z=>aV v9 rfl (nq (sq (mV v0 rfl (L_len rfl Tryz.underlying23 rfl (slice_len h0) (L_gtr rfl rfl rfl (nn (W_cond (b:=decide ((lits.length : Int) > 40)) rfl (fun hc12=>?_) (fun hc12=>?_))))))))))
 have hF:=(ite_t hc12).symm.trans hF
 refine sq (L_bld rfl (parts0 ) (bld_73_  ) (L_staB (vs:=#[S0,I 0]) (cs2:=#[S0,I 0]) 1 rfl Tryz.sizeOf73 rfl rfl rfl (ones_cons rfl (ones_cons rfl ones_nil)) Z rfl (by show 0 + 2≤2; decide) rfl (fun w14 Z=>aB rfl (nn (W_ret (retG2 (v1:=.agg #[S0,I 0]) (v2:=Bo false) Tryz.results107 (resV_agg Tryz.isAgg73 Tryz.sizeOf73 rfl (Star.blkAt 0 Z rfl) rfl) rfl ?_))))))
 obtain rfl:=so hF
 have Z:=Star.addNil (R:=(OR.frz rTerm)) (e:=122) Z
 exact ⟨S0,rfl,(Star.keepN 1 Z)⟩
 have hF:=(ite_f hc12).symm.trans hF
 refine W_skip (W_seq (sq (aI rfl (nn ?_))))
 have hlen20 : List.length lits≤9223372036854775807:=len_le (slice_len h0)
 obtain ⟨j20,hL20,hF⟩:=bind_some hF
 obtain ⟨R20,hR20⟩:=exR fun f w_=>∃ seen_17 : List Int,∃ H18 : FH,j20 = .nx seen_17∧Le H H18∧f 2 = Pt g3∧f 4 = v9∧Star H18 w_ ([oF 3 RP.int v9 seen_17,box g3 73 #[S0,I 0]])
 refine W_join R20 ?_ ?_
 refine W_block ?_
 obtain ⟨I20,hI20⟩:=exI fun n f w_=>∃ i_16 : Nat,∃ suf20 : List Int,∃ seen_17 : List Int,∃ H18 : FH,n = suf20.length∧List.drop i_16 lits = suf20∧i_16 + suf20.length = lits.length∧rangeL s_ClauseOf_b1 suf20 i_16 seen_17 = some j20∧Le H H18∧f 0 = v0∧f 2 = Pt g3∧f 4 = v9∧f 5 = I i_16∧Star H18 w_ ([oF 3 RP.int v9 seen_17,box g3 73 #[S0,I 0]])
 refine W_loop I20 (n:=lits.length) ?_ ?_
 exact ij hI20 ⟨0,lits,x5,H,rfl,rfl,Nat.zero_add _,hL20,(Le.refl _),rfl,rfl,rfl,rfl,Z⟩
 intro n20 f w_ hI
 obtain ⟨i_16,suf20,seen_17,H18,rfl,hd20,hl20,hL20,l19,sf0,sf2,sf4,sf5,Z⟩:=ik hI20 hI
 refine W_seq (sq (mF sf5 rfl (mF sf0 rfl (L_len rfl Tryz.underlying23 rfl (slice_len (RP.mono _ h0 l19)) (L_lss rfl rfl rfl (nn (W_cond (b:=decide ((i_16 : Int) < (lits.length : Int))) rfl (fun hc21=>?_) (fun hc21=>?_))))))))
 have hlt20:=of_decide_eq_true hc21
 rcases suf20 with _ | ⟨x_20,rest20⟩
 exact absurd hlt20 (by simp at hl20; omega)
 obtain ⟨o20,hB20,hL20⟩:=range_cons hL20
 rw [s_ClauseOf_b1] at hB20
 have hix20:=drop_idx hd20
 refine W_skip (W_seq (W_block (W_seq (W_seq ?_))))
 obtain ⟨x31,hx31,hB20⟩:=bind_some hB20
 refine W_region (mF sf0 rfl (mF sf5 rfl (L_ix (r:=RP.int) rfl Tryz.underlying23 Tryz.sizeOf3 rfl (RP.mono _ h0 l19) rfl hix20 (fun g33 o34 cs_g33 hrk_hat35 hat35=>?_))))
 obtain rfl : _ = [_]:=hrk_hat35
 refine L_ld rfl Tryz.isAgg3 rfl (At.cell (AtH.at hat35 Z.sub) (j:=0) rfl) ?_
 obtain ⟨H37b,l38,s39,z40,k41⟩:=Z.borrow
 refine L_call rfl Tryz.call151 (ops1 rfl) (s_l1Lit_c (n_:=x_20) s39 hx31) ?_
 rintro _ w42 ⟨rfl,Z⟩
 have Z:=k41 Z c0
 refine L_not_ rfl rfl (nn (W_cond (b:=(!x31)) rfl (fun hc43=>?_) (fun hc43=>?_)))
 have hB20:=(ite_t hc43).symm.trans hB20
 refine sq (L_bld rfl (parts0 ) (bld_73_  ) (L_staB (vs:=#[S0,I 0]) (cs2:=#[S0,I 0]) 1 rfl Tryz.sizeOf73 sf2 rfl rfl (ones_cons rfl (ones_cons rfl ones_nil)) Z rfl (by show 0 + 2≤2; decide) rfl (fun w45 Z=>aB rfl (nn (W_ret (retG2 (v1:=.agg #[S0,I 0]) (v2:=Bo false) Tryz.results107 (resV_agg Tryz.isAgg73 Tryz.sizeOf73 sf2 (Star.blkAt 0 Z rfl) rfl) rfl ?_))))))
 obtain rfl:=so hB20
 obtain rfl:=so hL20
 obtain rfl:=so hF
 have Z:=Star.addNil (R:=(OR.frz rTerm)) (e:=122) Z
 exact ⟨S0,rfl,(Star.down (Star.keepN 1 Z) l19 (co closed_term c0))⟩
 have hB20:=(ite_f hc43).symm.trans hB20
 refine W_skip (W_seq ?_)
 obtain ⟨x56,hx56,hB20⟩:=bind_some hB20
 refine W_region (mF sf0 rfl (mF sf5 rfl (L_ix (r:=RP.int) rfl Tryz.underlying23 Tryz.sizeOf3 rfl (RP.mono _ h0 l19) rfl hix20 (fun g58 o59 cs_g58 hrk_hat60 hat60=>?_))))
 obtain rfl : _ = [_]:=hrk_hat60
 refine L_ld rfl Tryz.isAgg3 rfl (At.cell (AtH.at hat60 Z.sub) (j:=0) rfl) ?_
 obtain ⟨H62b,l63,s64,z65,k66⟩:=Z.borrow
 refine L_call rfl Tryz.call152 (ops1 rfl) (s_l1Abs_c (n_:=x_20) s64 hx56) ?_
 rintro _ w67 ⟨rfl,Z⟩
 have Z:=k66 Z c0
 refine aI rfl (nq (W_seq ?_))
 obtain ⟨x68,hx68,hB20⟩:=bind_some hB20
 obtain ⟨g78,cap_g78,hv79,_,_⟩:=Star.row 0 Z rfl hx68
 refine W_drawS 9 [isV (v9),isV (I x56),isV (.pointer (some ⟨g78,Int.toNat x56 * 1,none⟩)),isV (I x68),isV (v0),isV (I i_16),isEl RP.int x_20 0,isV (I x_20),isV (I (i64 (-x_20)))] [oF 3 RP.int v9 seen_17,box g3 73 #[S0,I 0]] [] ([]) [([],[]),([],[]),([],[]),([],[]),([],[]),([],[]),([],[]),([],[]),([],[])] (S:=[]) Tryz_mix (by kernel_rfl) rfl (by kernel_rfl) (amF_cons (mono_V _) (amF_cons (mono_V _) (amF_cons (mono_V _) (amF_cons (mono_V _) (amF_cons (mono_V _) (amF_cons (mono_V _) (amF_cons (mono_el _ _ _) (amF_cons (mono_V _) (amF_cons (mono_V _) amF_nil))))))))) Z ?_ (fun f w_ H77 hS77 hE77 hT77 Z=>?_)
 refine opsS_cons (fun f w_ _ _ s _ _ Z=>mF ((s 4 rfl).trans sf4) rfl (nO rfl rfl Z)) (opsS_cons (fun f w_ _ _ s _ _ Z=>mF ((s 6 rfl).trans rfl) rfl (nO rfl rfl Z)) (opsS_cons (fun f w_ _ _ _ _ p Z=>L_ixO (R:=(OR.frz RP.int)) (tb:=0) 0 rfl Tryz.underlying23 Tryz.sizeOf3 (p 0 32 rfl rfl) hv79 (by first | rfl | simp) (p 1 33 rfl rfl) hx68 (nO rfl rfl Z)) (opsS_cons ?_ ?_)))
 intro f w_ H77 X77 hS77 hE77 hP77 Z
 obtain ⟨cs86,hr86,hat86⟩:=Star.eltF 0 Z rfl hv79 hx68
 obtain rfl : _ = [_]:=hr86
 refine L_ld rfl Tryz.isAgg3 (hP77 2 34 rfl rfl) (At.cell hat86 (j:=0) rfl) (L_nil ⟨rfl,_,_,rfl,Le.refl _,fun _ _=>rfl,Z⟩)
 refine opsS_cons (fun f w_ _ _ s _ _ Z=>mF ((s 0 rfl).trans sf0) rfl (nO rfl rfl Z)) (opsS_cons (fun f w_ _ _ s _ _ Z=>mF ((s 5 rfl).trans sf5) rfl (nO rfl rfl Z)) (opsS_cons ?_ ?_))
 intro f w_ H77 X77 hS77 hE77 hP77 Z
 refine L_ix (r:=RP.int) rfl Tryz.underlying23 Tryz.sizeOf3 (hP77 4 36 rfl rfl) (RP.mono _ h0 (Le.trans l19 hE77)) (hP77 5 37 rfl rfl) hix20 (fun g88 o89 cs_g88 hrk_hat90 hat90=>?_)
 obtain rfl : _ = [_]:=hrk_hat90
 exact L_nil ⟨rfl,_,_,rfl,Le.refl _,fun _ _=>⟨_,_,_,rfl,rfl,hat90⟩,Z⟩
 refine opsS_cons ?_ ?_
 intro f w_ H77 X77 hS77 hE77 hP77 Z
 obtain ⟨g92,o92,cs92,hv92,hrk_hat92,hat92⟩:=(hP77 6 38 rfl rfl)
 obtain rfl : _ = [_]:=hrk_hat92
 refine L_ld rfl Tryz.isAgg3 hv92 (At.cell (AtH.at hat92 Z.sub) (j:=0) rfl) (L_nil ⟨rfl,_,_,rfl,Le.refl _,fun _ _=>rfl,Z⟩)
 refine opsS_cons (fun f w_ _ _ _ _ p Z=>L_neg rfl (p 7 39 rfl rfl) (nO rfl rfl Z)) (opsS_nil)
 refine L_eql rfl (hT77 3 35 rfl rfl) (hT77 8 40 rfl rfl) (nn (W_cond (b:=(x68 == (i64 (-x_20)))) rfl (fun hc94=>?_) (fun hc94=>?_)))
 have hB20:=(ite_t hc94).symm.trans hB20
 refine sq (L_bld rfl (parts0 ) (bld_73_  ) (L_staB (vs:=#[S0,I 0]) (cs2:=#[S0,I 0]) 1 rfl Tryz.sizeOf73 ((hS77 2 rfl).trans sf2) rfl rfl (ones_cons rfl (ones_cons rfl ones_nil)) Z rfl (by show 0 + 2≤2; decide) rfl (fun w96 Z=>aB rfl (nn (W_ret (retG2 (v1:=.agg #[S0,I 0]) (v2:=Bo false) Tryz.results107 (resV_agg Tryz.isAgg73 Tryz.sizeOf73 ((hS77 2 rfl).trans sf2) (Star.blkAt 0 Z rfl) rfl) rfl ?_))))))
 obtain rfl:=so hB20
 obtain rfl:=so hL20
 obtain rfl:=so hF
 have Z:=Star.addNil (R:=(OR.frz rTerm)) (e:=122) Z
 exact ⟨S0,rfl,(Star.down (Star.keepN 1 Z) (Le.trans l19 hE77) (co closed_term c0))⟩
 have hB20:=(ite_f hc94).symm.trans hB20
 refine W_skip (W_region (mF ((hS77 4 rfl).trans sf4) rfl (mF ((hS77 6 rfl).trans rfl) rfl (mF ((hS77 0 rfl).trans sf0) rfl (mF ((hS77 5 rfl).trans sf5) rfl (L_ix (r:=RP.int) rfl Tryz.underlying23 Tryz.sizeOf3 rfl (RP.mono _ h0 (Le.trans l19 hE77)) rfl hix20 (fun g103 o104 cs_g103 hrk_hat105 hat105=>?_)))))))
 obtain rfl : _ = [_]:=hrk_hat105
 refine L_ld rfl Tryz.isAgg3 rfl (At.cell (AtH.at hat105 Z.sub) (j:=0) rfl) (L_ixO (R:=(OR.frz RP.int)) (tb:=0) 0 rfl Tryz.underlying23 Tryz.sizeOf3 rfl hv79 (by first | rfl | simp) rfl hx68 ?_)
 have Z:=Star.addF (r:=RP.int) (cs:=[I x_20]) (x:=x_20) Z rfl
 refine L_stE1 (u:=I x_20) rfl Tryz.sizeOf3 rfl rfl rfl hv79 Z hx68 (fun w107 Z=>?_)
 refine nn (W_region (mF ((hS77 5 rfl).trans sf5) rfl (L_add rfl rfl rfl (aI rfl (nn ?_)))))
 obtain rfl:=so hB20
 show ∃ m,m < _∧I20 m _ _
 refine ⟨rest20.length,by simp,?_⟩
 exact ij hI20 ⟨i_16 + 1,rest20,(seen_17.set (Int.toNat x56) x_20),H77,rfl,drop_next hd20,by simp at hl20; omega,hL20,(Le.trans l19 hE77),((hS77 0 rfl).trans sf0),((hS77 2 rfl).trans sf2),((hS77 4 rfl).trans sf4),(Eq.trans rfl (congrArg (Value.int .i64) (i64_succ (n:=lits.length) (by simp at hl20; omega) hlen20))),Z⟩
 rcases suf20 with _ | ⟨_,_⟩
 obtain rfl:=range_nil hL20
 refine W_exit (rj hR20 ⟨seen_17,H18,rfl,l19,sf2,sf4,Z⟩)
 exact absurd (of_decide_eq_false hc21) (by simp at hl20; omega)
 intro f w_ hR
 obtain ⟨seen_17,H18,rfl,l19,sf2,sf4,Z⟩:=rk hR20 hR
 refine sq (L_bld rfl (parts1 rfl) (bld_73_1 (I 1) rfl) (L_al (cs:=#[S0,I 0]) rfl Tryz.zeroValue73 rfl Z (fun g111 w112 Z=>L_staB (vs:=#[S0,I 1]) (cs2:=#[S0,I 1]) 0 rfl Tryz.sizeOf73 rfl rfl rfl (ones_cons rfl (ones_cons rfl ones_nil)) Z rfl (by show 0 + 2≤2; decide) rfl (fun w113 Z=>nq (sq (aI rfl (nn ?_)))))))
 obtain ⟨k120,hk120,hF⟩:=bind_some hF
 obtain ⟨j119,hL119,hF⟩:=bind_some hF
 obtain ⟨R119,hR119⟩:=exR fun f w_=>∃ g111_0_115 : List Term,∃ H117 : FH,∃ v115_g111_0 : Value,j119 = .nx g111_0_115∧Le H18 H117∧f 2 = Pt g3∧f 7 = Pt g111∧Star H117 w_ ([oF 122 rTerm v115_g111_0 g111_0_115,box g111 73 #[v115_g111_0,I 1],box g3 73 #[S0,I 0]])
 refine W_join R119 ?_ ?_
 refine W_block ?_
 obtain ⟨I119,hI119⟩:=exI fun n f w_=>∃ i_114 : Nat,∃ suf119 : Nat,∃ g111_0_115 : List Term,∃ H117 : FH,∃ v115_g111_0 : Value,suf119 = n∧1≤i_114∧i_114 + suf119 = 1 + k120∧countL (s_ClauseOf_b2 seen_17) suf119 i_114 g111_0_115 = some j119∧Le H18 H117∧f 2 = Pt g3∧f 4 = v9∧f 7 = Pt g111∧f 8 = I i_114∧Star H117 w_ ([oF 3 RP.int v9 seen_17,oF 122 rTerm v115_g111_0 g111_0_115,box g111 73 #[v115_g111_0,I 1],box g3 73 #[S0,I 0]])
 have Z:=Star.addNil (R:=(OR.frz rTerm)) (e:=122) Z
 have Z:=Z.gets [3,2,2,3] rfl
 refine W_loop I119 (n:=k120) ?_ ?_
 exact ij hI119 ⟨1,k120,[],H18,S0,rfl,Nat.le_refl _,rfl,hL119,(Le.refl _),sf2,sf4,rfl,rfl,Z⟩
 intro n119 f w_ hI
 obtain ⟨i_114,suf119,g111_0_115,H117,v115_g111_0,rfl,hs119,hl119,hL119,l118,sf2,sf4,sf7,sf8,Z⟩:=ik hI119 hI
 refine W_seq (sq (mF sf8 rfl (L_leq rfl rfl rfl (nn (W_cond (b:=decide ((i_114 : Int)≤12)) rfl (fun hc122=>?_) (fun hc122=>?_))))))
 have hlt119:=of_decide_eq_true hc122
 rcases suf119 with _ | rest119
 exact absurd hlt119 (cntF_noL hl119 hk120)
 obtain ⟨o119,hB119,hL119⟩:=count_succ hL119
 rw [s_ClauseOf_b2] at hB119
 refine W_skip (W_seq (W_block (W_seq ?_)))
 obtain ⟨x123,hx123,hB119⟩:=bind_some hB119
 refine W_region (mF sf4 rfl (mF sf8 rfl ?_))
 obtain ⟨g128,cap_g128,hv129,_,_⟩:=Star.row 0 Z rfl hx123
 refine L_ixO (R:=(OR.frz RP.int)) (tb:=0) 0 rfl Tryz.underlying23 Tryz.sizeOf3 rfl hv129 (by first | rfl | simp) rfl hx123 ?_
 obtain ⟨cs130,hr130,hat130⟩:=Star.eltF 0 Z rfl hv129 hx123
 obtain rfl : _ = [_]:=hr130
 refine L_ld rfl Tryz.isAgg3 rfl (At.cell hat130 (j:=0) rfl) (L_neq rfl rfl rfl (nn ?_))
 obtain ⟨g111_0_132,hA136,hB119⟩:=bind_some hB119
 obtain ⟨R136,hR136⟩:=exR fun f w_=>∃ H134 : FH,∃ v132_g111_0 : Value,Le H117 H134∧f 2 = Pt g3∧f 4 = v9∧f 7 = Pt g111∧f 8 = I i_114∧Star H134 w_ ([oF 3 RP.int v9 seen_17,oF 122 rTerm v132_g111_0 g111_0_132,box g111 73 #[v132_g111_0,I 1],box g3 73 #[S0,I 0]])
 refine W_join R136 ?_ ?_
 refine W_cond (b:=(x123 != 0)) rfl (fun hc137=>?_) (fun hc137=>?_)
 have hA136:=(ite_t hc137).symm.trans hA136
 obtain ⟨x143,hx143,hA136⟩:=bind_some hA136
 refine W_drawS 8 [isV (Pt g111),isV (v115_g111_0),isV (v9),isV (I i_114),isV (.pointer (some ⟨g128,Int.toNat (i_114 : Int) * 1,none⟩)),isV (I x123),isV (.agg #[I 1,I x123]),anyF] [oF 3 RP.int v9 seen_17,oF 122 rTerm v115_g111_0 g111_0_115,box g111 73 #[v115_g111_0,I 1],box g3 73 #[S0,I 0]] [.made 7 67 (fun v_=>oF 122 rTerm v_ ([({ coef:=1,lit:=x123 } : Term)])) none] ([]) [([],[]),([],[]),([],[]),([],[]),([],[]),([],[]),([],[]),([],[0])] (S:=[(some 7,[67],none)]) Tryz_mix (by kernel_rfl) rfl (by kernel_rfl) (amF_cons (mono_V _) (amF_cons (mono_V _) (amF_cons (mono_V _) (amF_cons (mono_V _) (amF_cons (mono_V _) (amF_cons (mono_V _) (amF_cons (mono_V _) (amF_cons (mono_any) amF_nil)))))))) Z ?_ (fun f w_ H148 hS148 hE148 hT148 Z=>?_)
 refine opsS_cons (fun f w_ _ _ s _ _ Z=>fA 0 fa_73_0 ((s 7 rfl).trans sf7) rfl (nO rfl rfl Z)) (opsS_cons (fun f w_ _ _ _ _ p Z=>ldB 2 Z Tryz.isAgg71 (p 0 60 rfl rfl) rfl rfl (nO rfl rfl Z)) (opsS_cons (fun f w_ _ _ s _ _ Z=>mF ((s 4 rfl).trans sf4) rfl (nO rfl rfl Z)) (opsS_cons (fun f w_ _ _ s _ _ Z=>mF ((s 8 rfl).trans sf8) rfl (nO rfl rfl Z)) (opsS_cons (fun f w_ _ _ _ _ p Z=>L_ixO (R:=(OR.frz RP.int)) (tb:=0) 0 rfl Tryz.underlying23 Tryz.sizeOf3 (p 2 62 rfl rfl) hv129 (by first | rfl | simp) (p 3 63 rfl rfl) hx123 (nO rfl rfl Z)) (opsS_cons ?_ ?_)))))
 intro f w_ H148 X148 hS148 hE148 hP148 Z
 obtain ⟨cs154,hr154,hat154⟩:=Star.eltF 0 Z rfl hv129 hx123
 obtain rfl : _ = [_]:=hr154
 refine L_ld rfl Tryz.isAgg3 (hP148 4 64 rfl rfl) (At.cell hat154 (j:=0) rfl) (L_nil ⟨rfl,_,_,rfl,Le.refl _,fun _ _=>rfl,Z⟩)
 refine opsS_cons (fun f w_ _ _ _ _ p Z=>L_bld rfl (parts2 rfl (p 5 65 rfl rfl)) (bld_122_0_1 (I 1) (I x123) rfl rfl) (nO rfl rfl Z)) (opsS_cons ?_ ?_)
 intro f w_ H148 X148 hS148 hE148 hP148 Z
 refine L_bs rfl (parts1 (hP148 6 66 rfl rfl)) (bs_71_1_2 (I 1) (I x123) ) Z (fun g156 w157 Z=>?_)
 have Z:=Star.addF (r:=rTerm) (cs:=[I 1,I x123]) (x:=({ coef:=1,lit:=x123 } : Term)) Z (rTerm_iff.2 rfl)
 have Z:=Star.mkRow (R:=(OR.frz rTerm)) [([I 1,I x123],({ coef:=1,lit:=x123 } : Term))] [({ coef:=1,lit:=x123 } : Term)] 1 Z rfl rfl rfl (by decide)
 have Z:=Z.gets [4,4,4,4] rfl
 exact L_nil ⟨rfl,_,_,rfl,Le.refl _,fun _ _=>trivial,Z⟩
 exact opsS_nil
 have Z : Star H148 w_ ([oF 3 RP.int v9 seen_17,oF 122 rTerm v115_g111_0 g111_0_115,box g111 73 #[v115_g111_0,I 1],box g3 73 #[S0,I 0],oF 122 rTerm (f 67) ([({ coef:=1,lit:=x123 } : Term)])]):=Z
 have Z:=Z.gets [4,2] rfl
 refine L_appM (v:=v115_g111_0) (u:=(f 67)) rfl et_71 (hT148 1 61 rfl rfl) rfl Z hx143 (fun v160 w161 Z=>fA 0 fa_73_0 ((hS148 7 rfl).trans sf7) rfl (L_stB (v:=v160) (cs2:=#[v160,I 1]) 2 rfl Tryz.sizeOf71 rfl rfl (one_len (Star.len 0 Z rfl)) Z rfl rfl rfl (fun w163 Z=>nn ?_)))
 obtain rfl:=so hA136
 have Z:=Z.gets [3,1,2,3] rfl
 exact rj hR136 ⟨H148,v160,hE148,((hS148 2 rfl).trans sf2),((hS148 4 rfl).trans sf4),((hS148 7 rfl).trans sf7),((hS148 8 rfl).trans sf8),Z⟩
 have hA136:=(ite_f hc137).symm.trans hA136
 refine W_skip ?_
 obtain rfl:=so hA136
 exact rj hR136 ⟨H117,v115_g111_0,(Le.refl _),sf2,sf4,sf7,sf8,Z⟩
 intro f w_ hR
 obtain ⟨H134,v132_g111_0,l135,sf2,sf4,sf7,sf8,Z⟩:=rk hR136 hR
 refine W_region (mF sf8 rfl (L_add rfl rfl rfl (aI rfl (nn ?_))))
 obtain rfl:=so hB119
 show ∃ m,m < _∧I119 m _ _
 refine ⟨rest119,Nat.lt_succ_self _,?_⟩
 exact ij hI119 ⟨i_114 + 1,rest119,g111_0_132,H134,v132_g111_0,rfl,by omega,by omega,hL119,(Le.trans l118 l135),sf2,sf4,sf7,(Eq.trans rfl (congrArg (Value.int .i64) (i64_succ (n:=1 + k120) (by omega) (cntF_le hk120)))),Z⟩
 rcases suf119 with _ | _
 obtain rfl:=count_zero hL119
 refine W_exit ?_
 have Z:=Z.gets [3,3,3] rfl
 exact rj hR119 ⟨g111_0_115,H117,v115_g111_0,rfl,l118,sf2,sf7,(Star.keepN 3 Z)⟩
 exact absurd (cntF_yesL hs119 hl119 hk120) (of_decide_eq_false hc122)
 intro f w_ hR
 obtain ⟨g111_0_115,H117,v115_g111_0,rfl,l118,sf2,sf7,Z⟩:=rk hR119 hR
 refine sq (L_lda (cs:=[v115_g111_0,I 1]) rfl Tryz.isAgg73 Tryz.sizeOf73 sf7 (At.sub0 (Blk.at (Star.blkAt 1 Z rfl)) 0 2) rfl (L_staB (vs:=#[v115_g111_0,I 1]) (cs2:=#[v115_g111_0,I 1]) 2 rfl Tryz.sizeOf73 sf2 rfl rfl (ones_cons (one_len (Star.len 0 Z rfl)) (ones_cons rfl ones_nil)) Z rfl (by show 0 + 2≤2; decide) rfl (fun w165 Z=>aB rfl (nn (W_ret (retG2 (v1:=.agg #[v115_g111_0,I 1]) (v2:=Bo true) Tryz.results107 (resV_agg Tryz.isAgg73 Tryz.sizeOf73 sf2 (Star.blkAt 0 Z rfl) rfl) rfl ?_))))))
 obtain rfl:=so hF
 have Z:=Z.get 1 rfl
 exact ⟨v115_g111_0,rfl,(Star.down (Star.keepN 1 Z) (Le.trans l19 l118) (co closed_term c0))⟩
theorem s_l7Most_c {vars : List Int} {v0 : Value} {H : FH} {w : World} (Z : Star H w []) (h0 : (rS 3 RP.int).rel H [v0] vars) {r : Con} (hF : s_l7Most vars = some r) :
 C Tryz.prog 108 #[v0] w fun v w'=>∃ (u1 : Value),v = .agg #[u1,I r.bound]∧Star H w' [oF 122 rTerm u1 r.terms]:=by
 unfold s_l7Most at hF
 refine C_enter Tryz.func108 rfl Tryz.ntmps108 rfl (sq (L_al (cs:=#[S0,I 0]) rfl Tryz.zeroValue73 rfl Z (fun g3 w4 Z=>ns (mV v0 rfl (L_len rfl Tryz.underlying23 rfl (slice_len h0) (L_sub rfl rfl rfl (L_bld rfl (parts1 rfl) (bld_73_1 (I (i64 ((vars.length : Int) - 1))) rfl) (L_al (cs:=#[S0,I 0]) rfl Tryz.zeroValue73 rfl Z (fun g8 w9 Z=>L_staB (vs:=#[S0,I (i64 ((vars.length : Int) - 1))]) (cs2:=#[S0,I (i64 ((vars.length : Int) - 1))]) 0 rfl Tryz.sizeOf73 rfl rfl rfl (ones_cons rfl (ones_cons rfl ones_nil)) Z rfl (by show 0 + 2≤2; decide) rfl (fun w10 Z=>nq (sq (aI rfl (nn ?_)))))))))))))
 have hlen16 : List.length vars≤9223372036854775807:=len_le (slice_len h0)
 obtain ⟨j16,hL16,hF⟩:=bind_some hF
 obtain ⟨R16,hR16⟩:=exR fun f w_=>∃ g8_0_12 : List Term,∃ H14 : FH,∃ v12_g8_0 : Value,j16 = .nx g8_0_12∧Le H H14∧f 2 = Pt g3∧f 3 = Pt g8∧Star H14 w_ ([oF 122 rTerm v12_g8_0 g8_0_12,box g8 73 #[v12_g8_0,I (i64 ((vars.length : Int) - 1))],box g3 73 #[S0,I 0]])
 refine W_join R16 ?_ ?_
 refine W_block ?_
 obtain ⟨I16,hI16⟩:=exI fun n f w_=>∃ i_11 : Nat,∃ suf16 : List Int,∃ g8_0_12 : List Term,∃ H14 : FH,∃ v12_g8_0 : Value,n = suf16.length∧List.drop i_11 vars = suf16∧i_11 + suf16.length = vars.length∧rangeL s_l7Most_b1 suf16 i_11 g8_0_12 = some j16∧Le H H14∧f 0 = v0∧f 2 = Pt g3∧f 3 = Pt g8∧f 4 = I i_11∧Star H14 w_ ([oF 122 rTerm v12_g8_0 g8_0_12,box g8 73 #[v12_g8_0,I (i64 ((vars.length : Int) - 1))],box g3 73 #[S0,I 0]])
 have Z:=Star.addNil (R:=(OR.frz rTerm)) (e:=122) Z
 refine W_loop I16 (n:=vars.length) ?_ ?_
 exact ij hI16 ⟨0,vars,[],H,S0,rfl,rfl,Nat.zero_add _,hL16,(Le.refl _),rfl,rfl,rfl,rfl,Z⟩
 intro n16 f w_ hI
 obtain ⟨i_11,suf16,g8_0_12,H14,v12_g8_0,rfl,hd16,hl16,hL16,l15,sf0,sf2,sf3,sf4,Z⟩:=ik hI16 hI
 refine W_seq (sq (mF sf4 rfl (mF sf0 rfl (L_len rfl Tryz.underlying23 rfl (slice_len (RP.mono _ h0 l15)) (L_lss rfl rfl rfl (nn (W_cond (b:=decide ((i_11 : Int) < (vars.length : Int))) rfl (fun hc18=>?_) (fun hc18=>?_))))))))
 have hlt16:=of_decide_eq_true hc18
 rcases suf16 with _ | ⟨x_16,rest16⟩
 exact absurd hlt16 (by simp at hl16; omega)
 obtain ⟨o16,hB16,hL16⟩:=range_cons hL16
 rw [s_l7Most_b1] at hB16
 have hix16:=drop_idx hd16
 refine W_skip (W_seq (W_block ?_))
 obtain ⟨x26,hx26,hB16⟩:=bind_some hB16
 refine W_drawS 9 [isV (Pt g8),isV (v12_g8_0),isV (v0),isV (I i_11),isEl RP.int x_16 0,isV (I x_16),isV (I (i64 (-x_16))),isV (.agg #[I 1,I (i64 (-x_16))]),anyF] [oF 122 rTerm v12_g8_0 g8_0_12,box g8 73 #[v12_g8_0,I (i64 ((vars.length : Int) - 1))],box g3 73 #[S0,I 0]] [.made 8 23 (fun v_=>oF 122 rTerm v_ ([({ coef:=1,lit:=i64 (-x_16) } : Term)])) none] ([]) [([],[]),([],[]),([],[]),([],[]),([],[]),([],[]),([],[]),([],[]),([],[0])] (S:=[(some 8,[23],none)]) Tryz_mix (by kernel_rfl) rfl (by kernel_rfl) (amF_cons (mono_V _) (amF_cons (mono_V _) (amF_cons (mono_V _) (amF_cons (mono_V _) (amF_cons (mono_el _ _ _) (amF_cons (mono_V _) (amF_cons (mono_V _) (amF_cons (mono_V _) (amF_cons (mono_any) amF_nil))))))))) Z ?_ (fun f w_ H31 hS31 hE31 hT31 Z=>?_)
 refine opsS_cons (fun f w_ _ _ s _ _ Z=>fA 0 fa_73_0 ((s 3 rfl).trans sf3) rfl (nO rfl rfl Z)) (opsS_cons (fun f w_ _ _ _ _ p Z=>ldB 1 Z Tryz.isAgg71 (p 0 15 rfl rfl) rfl rfl (nO rfl rfl Z)) (opsS_cons (fun f w_ _ _ s _ _ Z=>mF ((s 0 rfl).trans sf0) rfl (nO rfl rfl Z)) (opsS_cons (fun f w_ _ _ s _ _ Z=>mF ((s 4 rfl).trans sf4) rfl (nO rfl rfl Z)) (opsS_cons ?_ ?_))))
 intro f w_ H31 X31 hS31 hE31 hP31 Z
 refine L_ix (r:=RP.int) rfl Tryz.underlying23 Tryz.sizeOf3 (hP31 2 17 rfl rfl) (RP.mono _ h0 (Le.trans l15 hE31)) (hP31 3 18 rfl rfl) hix16 (fun g39 o40 cs_g39 hrk_hat41 hat41=>?_)
 obtain rfl : _ = [_]:=hrk_hat41
 exact L_nil ⟨rfl,_,_,rfl,Le.refl _,fun _ _=>⟨_,_,_,rfl,rfl,hat41⟩,Z⟩
 refine opsS_cons ?_ ?_
 intro f w_ H31 X31 hS31 hE31 hP31 Z
 obtain ⟨g43,o43,cs43,hv43,hrk_hat43,hat43⟩:=(hP31 4 19 rfl rfl)
 obtain rfl : _ = [_]:=hrk_hat43
 refine L_ld rfl Tryz.isAgg3 hv43 (At.cell (AtH.at hat43 Z.sub) (j:=0) rfl) (L_nil ⟨rfl,_,_,rfl,Le.refl _,fun _ _=>rfl,Z⟩)
 refine opsS_cons (fun f w_ _ _ _ _ p Z=>L_neg rfl (p 5 20 rfl rfl) (nO rfl rfl Z)) (opsS_cons (fun f w_ _ _ _ _ p Z=>L_bld rfl (parts2 rfl (p 6 21 rfl rfl)) (bld_122_0_1 (I 1) (I (i64 (-x_16))) rfl rfl) (nO rfl rfl Z)) (opsS_cons ?_ ?_))
 intro f w_ H31 X31 hS31 hE31 hP31 Z
 refine L_bs rfl (parts1 (hP31 7 22 rfl rfl)) (bs_71_1_2 (I 1) (I (i64 (-x_16))) ) Z (fun g45 w46 Z=>?_)
 have Z:=Star.addF (r:=rTerm) (cs:=[I 1,I (i64 (-x_16))]) (x:=({ coef:=1,lit:=i64 (-x_16) } : Term)) Z (rTerm_iff.2 rfl)
 have Z:=Star.mkRow (R:=(OR.frz rTerm)) [([I 1,I (i64 (-x_16))],({ coef:=1,lit:=i64 (-x_16) } : Term))] [({ coef:=1,lit:=i64 (-x_16) } : Term)] 1 Z rfl rfl rfl (by decide)
 have Z:=Z.gets [3,3,3] rfl
 exact L_nil ⟨rfl,_,_,rfl,Le.refl _,fun _ _=>trivial,Z⟩
 exact opsS_nil
 have Z : Star H31 w_ ([oF 122 rTerm v12_g8_0 g8_0_12,box g8 73 #[v12_g8_0,I (i64 ((vars.length : Int) - 1))],box g3 73 #[S0,I 0],oF 122 rTerm (f 23) ([({ coef:=1,lit:=i64 (-x_16) } : Term)])]):=Z
 have Z:=Z.gets [3,1] rfl
 refine L_appM (v:=v12_g8_0) (u:=(f 23)) rfl et_71 (hT31 1 16 rfl rfl) rfl Z hx26 (fun v49 w50 Z=>fA 0 fa_73_0 ((hS31 3 rfl).trans sf3) rfl (L_stB (v:=v49) (cs2:=#[v49,I (i64 ((vars.length : Int) - 1))]) 1 rfl Tryz.sizeOf71 rfl rfl (one_len (Star.len 0 Z rfl)) Z rfl rfl rfl (fun w52 Z=>nn (W_region (mF ((hS31 4 rfl).trans sf4) rfl (L_add rfl rfl rfl (aI rfl (nn ?_))))))))
 obtain rfl:=so hB16
 have Z:=Z.gets [2,1,2] rfl
 show ∃ m,m < _∧I16 m _ _
 refine ⟨rest16.length,by simp,?_⟩
 exact ij hI16 ⟨i_11 + 1,rest16,x26,H31,v49,rfl,drop_next hd16,by simp at hl16; omega,hL16,(Le.trans l15 hE31),((hS31 0 rfl).trans sf0),((hS31 2 rfl).trans sf2),((hS31 3 rfl).trans sf3),(Eq.trans rfl (congrArg (Value.int .i64) (i64_succ (n:=vars.length) (by simp at hl16; omega) hlen16))),Z⟩
 rcases suf16 with _ | ⟨_,_⟩
 obtain rfl:=range_nil hL16
 refine W_exit (rj hR16 ⟨g8_0_12,H14,v12_g8_0,rfl,l15,sf2,sf3,Z⟩)
 exact absurd (of_decide_eq_false hc18) (by simp at hl16; omega)
 intro f w_ hR
 obtain ⟨g8_0_12,H14,v12_g8_0,rfl,l15,sf2,sf3,Z⟩:=rk hR16 hR
 refine sq (L_lda (cs:=[v12_g8_0,I (i64 ((vars.length : Int) - 1))]) rfl Tryz.isAgg73 Tryz.sizeOf73 sf3 (At.sub0 (Blk.at (Star.blkAt 1 Z rfl)) 0 2) rfl (L_staB (vs:=#[v12_g8_0,I (i64 ((vars.length : Int) - 1))]) (cs2:=#[v12_g8_0,I (i64 ((vars.length : Int) - 1))]) 2 rfl Tryz.sizeOf73 sf2 rfl rfl (ones_cons (one_len (Star.len 0 Z rfl)) (ones_cons rfl ones_nil)) Z rfl (by show 0 + 2≤2; decide) rfl (fun w54 Z=>nn (W_ret (retG1 (v1:=.agg #[v12_g8_0,I (i64 ((vars.length : Int) - 1))]) Tryz.results108 (resV_agg Tryz.isAgg73 Tryz.sizeOf73 sf2 (Star.blkAt 0 Z rfl) rfl) ?_)))))
 obtain rfl:=so hF
 have Z:=Z.get 1 rfl
 exact ⟨v12_g8_0,rfl,(Star.down (Star.keepN 1 Z) l15 (co closed_term c0))⟩
theorem s_l7Cell_c {m : Model} {cell : Int} {v0_0 : Value} {v0_1 : Value} {H : FH} {w : World} (Z : Star H w []) (h0_0 : (rS 3 RP.int).rel H [v0_0] m.sizes) (h0_1 : (rS 79 (rRule 3 23)).rel H [v0_1] m.rules) {r : List Con} (hF : s_l7Cell m cell = some r) :
 C Tryz.prog 52 #[.agg #[v0_0,v0_1],I cell] w fun v w'=>∃ (u1 : Value),v = u1∧Star H w' [oS 73 (oCon 122) u1 r]:=by
 unfold s_l7Cell at hF
 refine C_enter Tryz.func52 rfl Tryz.ntmps52 rfl (sq (L_box (v:=.agg #[v0_0,v0_1]) (cs:=#[v0_0,v0_1]) rfl rfl rfl Z (fun g3 w4 Z=>aV S0 rfl (ns (L_bs rfl parts0 (bs_23_0  ) Z (fun g8 w9 Z=>?_))))))
 have Z:=Star.mkRow (R:=(OR.frz RP.int)) [] [] 0 Z rfl rfl rfl (by decide)
 refine aV (Sl g8 0 0) rfl (nq (sq (aI rfl (nn ?_))))
 obtain ⟨x13,hx13,hF⟩:=bind_some hF
 obtain ⟨k18,hk18,hF⟩:=bind_some hF
 obtain ⟨j17,hL17,hF⟩:=bind_some hF
 obtain ⟨R17,hR17⟩:=exR fun f w_=>∃ vars_15 : List Int,∃ v15_vars : Value,j17 = .nx vars_15∧f 5 = v15_vars∧Star H w_ ([oF 3 RP.int v15_vars vars_15])
 refine W_join R17 ?_ ?_
 refine W_block ?_
 obtain ⟨I17,hI17⟩:=exI fun n f w_=>∃ i_14 : Nat,∃ suf17 : Nat,∃ vars_15 : List Int,∃ v15_vars : Value,suf17 = n∧0≤i_14∧i_14 + suf17 = 0 + k18∧countL (s_l7Cell_b1 m cell) suf17 i_14 vars_15 = some j17∧f 1 = I cell∧f 2 = Pt g3∧f 5 = v15_vars∧f 6 = I i_14∧Star H w_ ([oF 3 RP.int v15_vars vars_15,box g3 26 #[v0_0,v0_1]])
 refine W_loop I17 (n:=k18) ?_ ?_
 exact ij hI17 ⟨0,k18,[],(Sl g8 0 0),rfl,Nat.le_refl _,rfl,hL17,rfl,rfl,rfl,rfl,Z⟩
 intro n17 f w_ hI
 obtain ⟨i_14,suf17,vars_15,v15_vars,rfl,hs17,hl17,hL17,sf1,sf2,sf5,sf6,Z⟩:=ik hI17 hI
 refine W_seq (sq (mF sf6 rfl (fA 0 fa_26_0 sf2 rfl (ldB 1 Z Tryz.isAgg23 rfl rfl rfl (mF sf1 rfl (L_ix (r:=RP.int) rfl Tryz.underlying23 Tryz.sizeOf3 rfl h0_0 rfl hx13 (fun g23 o24 cs_g23 hrk_hat25 hat25=>?_)))))))
 obtain rfl : _ = [_]:=hrk_hat25
 refine L_ld rfl Tryz.isAgg3 rfl (At.cell (AtH.at hat25 Z.sub) (j:=0) rfl) (L_leq rfl rfl rfl (nn (W_cond (b:=decide ((i_14 : Int)≤x13)) rfl (fun hc27=>?_) (fun hc27=>?_))))
 have hlt17:=of_decide_eq_true hc27
 rcases suf17 with _ | rest17
 exact absurd hlt17 (cntF_noL hl17 hk18)
 obtain ⟨o17,hB17,hL17⟩:=count_succ hL17
 rw [s_l7Cell_b1] at hB17
 refine W_skip (W_seq (W_block ?_))
 obtain ⟨x33,hx33,hB17⟩:=bind_some hB17
 obtain ⟨x38,hx38,hB17⟩:=bind_some hB17
 refine W_region (mF sf5 rfl (L_lda (cs:=[v0_0,v0_1]) rfl Tryz.isAgg26 Tryz.sizeOf26 sf2 (At.sub0 (Blk.at (Star.blkAt 1 Z rfl)) 0 2) rfl (mF sf1 rfl (mF sf6 rfl ?_))))
 obtain ⟨H42b,l43,s44,z45,k46⟩:=Z.borrow
 refine L_call rfl Tryz.call70 (ops3 rfl rfl rfl) (s_l7Var_c (m:=m) (cell:=cell) (value:=(i_14 : Int)) s44 (RP.mono _ h0_0 l43) (RP.mono _ h0_1 l43) hx33) ?_
 rintro _ w47 ⟨rfl,Z⟩
 have Z:=k46 Z c0
 refine L_bs rfl (parts1 rfl) (bs_23_1_0 (I x33) rfl) Z (fun g48 w49 Z=>?_)
 have Z:=Star.addF (r:=RP.int) (cs:=[I x33]) (x:=x33) Z rfl
 have Z:=Star.mkRow (R:=(OR.frz RP.int)) [([I x33],x33)] [x33] 1 Z rfl rfl rfl (by decide)
 have Z:=Z.get 1 rfl
 refine L_appM (v:=v15_vars) (u:=(Sl g48 1 1)) rfl et_23 rfl rfl Z hx38 (fun v51 w52 Z=>aV v51 rfl (nn (W_region (mF sf6 rfl (L_add rfl rfl rfl (aI rfl (nn ?_)))))))
 obtain rfl:=so hB17
 show ∃ m,m < _∧I17 m _ _
 refine ⟨rest17,Nat.lt_succ_self _,?_⟩
 exact ij hI17 ⟨i_14 + 1,rest17,x38,v51,rfl,by omega,by omega,hL17,sf1,sf2,rfl,(Eq.trans rfl (congrArg (Value.int .i64) (i64_succ (n:=0 + k18) (by omega) (cntF_le hk18)))),Z⟩
 rcases suf17 with _ | _
 obtain rfl:=count_zero hL17
 refine W_exit (rj hR17 ⟨vars_15,v15_vars,rfl,sf5,(Star.keepN 1 Z)⟩)
 exact absurd (cntF_yesL hs17 hl17 hk18) (of_decide_eq_false hc27)
 intro f w_ hR
 obtain ⟨vars_15,v15_vars,rfl,sf5,Z⟩:=rk hR17 hR
 refine W_seq ?_
 obtain ⟨x60,hx60,hF⟩:=bind_some hF
 refine W_region (mF sf5 rfl ?_)
 obtain ⟨H66b,l67,s68,z69,k70⟩:=Z.borrow
 have hb71 : (rS 3 RP.int).rel H66b [v15_vars] vars_15:=fz_own 0 z69 rfl
 refine L_call rfl Tryz.call107 (ops1 rfl) (s_ClauseOf_c (lits:=vars_15) s68 hb71 hx60) ?_
 rintro _ w72 ⟨r72_0,rfl,Z⟩
 have Z:=k70 Z (co closed_term c0)
 refine mV (.tuple #[.agg #[r72_0,I x60.1.bound],Bo x60.2]) rfl (L_ex (v:=.agg #[r72_0,I x60.1.bound]) rfl rfl rfl (L_ex (v:=Bo x60.2) rfl rfl rfl (L_al (cs:=#[S0,I 0]) rfl Tryz.zeroValue73 rfl Z (fun g74 w75 Z=>L_staB (vs:=#[r72_0,I x60.1.bound]) (cs2:=#[r72_0,I x60.1.bound]) 0 rfl Tryz.sizeOf73 rfl rfl rfl (ones_cons (one_len (Star.len 1 Z rfl)) (ones_cons rfl ones_nil)) Z rfl (by show 0 + 2≤2; decide) rfl (fun w76 Z=>aB rfl (nq ?_))))))
 obtain ⟨x83,hx83,hF⟩:=bind_some hF
 refine W_drawS 3 [isV (.agg #[r72_0,I x60.1.bound]),isV (v15_vars),exA fun u_0=>isV (.agg #[u_0,I x83.bound])] [box g74 73 #[r72_0,I x60.1.bound],oF 122 rTerm r72_0 x60.1.terms,oF 3 RP.int v15_vars vars_15] [.made 2 33 (fun v_=>oF 122 rTerm (aggC v_ 0) x83.terms) none] ([]) [([],[]),([],[]),([],[0])] (S:=[(some 2,[33],none)]) Tryz_mix (by kernel_rfl) rfl (by kernel_rfl) (amF_cons (mono_V _) (amF_cons (mono_V _) (amF_cons (mono_exA fun _=>mono_V _) amF_nil))) Z ?_ (fun f w_ H89 hS89 hE89 hT89 Z=>?_)
 refine opsS_cons (fun f w_ _ _ s _ _ Z=>L_lda (cs:=[r72_0,I x60.1.bound]) rfl Tryz.isAgg73 Tryz.sizeOf73 ((s 7 rfl).trans rfl) (At.sub0 (Blk.at (Star.blkAt 0 Z rfl)) 0 2) rfl (nO rfl rfl Z)) (opsS_cons (fun f w_ _ _ s _ _ Z=>mF ((s 5 rfl).trans sf5) rfl (nO rfl rfl Z)) (opsS_cons ?_ ?_))
 intro f w_ H89 X89 hS89 hE89 hP89 Z
 obtain ⟨H98b,l99,s100,z101,k102⟩:=Z.borrow
 have hb103 : (rS 3 RP.int).rel H98b [v15_vars] vars_15:=fz_own 2 z101 rfl
 refine L_call rfl Tryz.call108 (ops1 (hP89 1 32 rfl rfl)) (s_l7Most_c (vars:=vars_15) s100 hb103 hx83) ?_
 rintro _ w104 ⟨r104_0,rfl,Z⟩
 have Z:=k102 Z (co closed_term c0)
 have Z:=Z.gets [3,3,3] rfl
 exact L_nil ⟨rfl,_,_,rfl,Le.refl _,fun _ _=>⟨_,rfl⟩,Z⟩
 exact opsS_nil
 have Z : Star H89 w_ ([box g74 73 #[r72_0,I x60.1.bound],oF 122 rTerm r72_0 x60.1.terms,oF 3 RP.int v15_vars vars_15,own (OR.ownS 122 (OR.frz rTerm)) [(aggC (f 33) 0)] x83.terms]):=Z
 obtain ⟨u106_0,hv106⟩:=(hT89 2 33 rfl rfl)
 have hren : Star H89 w_ ([box g74 73 #[r72_0,I x60.1.bound],oF 122 rTerm r72_0 x60.1.terms,oF 3 RP.int v15_vars vars_15,own (OR.ownS 122 (OR.frz rTerm)) [(aggC (f 33) 0)] x83.terms]):=Z
 rw [hv106] at hren
 have Z : Star H89 w_ ([box g74 73 #[r72_0,I x60.1.bound],oF 122 rTerm r72_0 x60.1.terms,oF 3 RP.int v15_vars vars_15,oF 122 rTerm u106_0 x83.terms]):=hren
 refine L_bs rfl (parts2 (hT89 0 31 rfl rfl) hv106) (bs_28_2_2_2 (r72_0) (I x60.1.bound) (u106_0) (I x83.bound) ) Z (fun g107 w108 Z=>?_)
 have Z:=Z.get 4 rfl
 have Z:=oCon_close (c:=x83) Z
 have Z:=Z.get 3 rfl
 have Z:=oCon_close (c:=x60.1) Z
 have Z:=Star.mkRow (R:=(oCon 122)) [([r72_0,I x60.1.bound],x60.1),([u106_0,I x83.bound],x83)] [x60.1,x83] 2 Z rfl rfl rfl (by decide)
 refine aV (Sl g107 2 2) rfl (nn (W_ret (retG1 (v1:=(Sl g107 2 2)) Tryz.results52 rfl ?_)))
 obtain rfl:=so hF
 exact ⟨(Sl g107 2 2),rfl,(Star.down (Star.keepN 1 Z) hE89 (co closed_oCon c0))⟩
theorem s_ConstraintValid_c {c : Con} {v0_0 : Value} {H : FH} {w : World} (Z : Star H w []) (h0_0 : (rS 122 rTerm).rel H [v0_0] c.terms) {r : Bool} (hF : s_ConstraintValid c = some r) :
 C Tryz.prog 189 #[.agg #[v0_0,I c.bound]] w fun v w'=>v = Bo r∧Star H w' []:=by
 unfold s_ConstraintValid at hF
 refine C_enter Tryz.func189 rfl Tryz.ntmps189 rfl (sq (L_box (v:=.agg #[v0_0,I c.bound]) (cs:=#[v0_0,I c.bound]) rfl rfl rfl Z (fun g3 w4 Z=>aB rfl (nq (sq (aI rfl (nn ?_)))))))
 have hlen8 : List.length c.terms≤9223372036854775807:=len_le (slice_len h0_0)
 obtain ⟨j8,hL8,hF⟩:=bind_some hF
 obtain ⟨R8,hR8⟩:=exR fun f w_=>∃ H6 : FH,j8 = .nx ()∧Le H H6∧f 1 = Pt g3∧Star H6 w_ ([box g3 73 #[v0_0,I c.bound]])
 refine W_join R8 ?_ ?_
 refine W_block ?_
 obtain ⟨I8,hI8⟩:=exI fun n f w_=>∃ i_5 : Nat,∃ suf8 : List Term,∃ H6 : FH,n = suf8.length∧List.drop i_5 c.terms = suf8∧i_5 + suf8.length = c.terms.length∧rangeL (s_ConstraintValid_b1 c) suf8 i_5 () = some j8∧Le H H6∧f 1 = Pt g3∧f 3 = I i_5∧Star H6 w_ ([box g3 73 #[v0_0,I c.bound]])
 refine W_loop I8 (n:=c.terms.length) ?_ ?_
 exact ij hI8 ⟨0,c.terms,H,rfl,rfl,Nat.zero_add _,hL8,(Le.refl _),rfl,rfl,Z⟩
 intro n8 f w_ hI
 obtain ⟨i_5,suf8,H6,rfl,hd8,hl8,hL8,l7,sf1,sf3,Z⟩:=ik hI8 hI
 refine W_seq (sq (mF sf3 rfl (fA 0 fa_73_0 sf1 rfl (ldB 0 Z Tryz.isAgg71 rfl rfl rfl (L_len rfl Tryz.underlying71 rfl (slice_len (RP.mono _ h0_0 l7)) (L_lss rfl rfl rfl (nn (W_cond (b:=decide ((i_5 : Int) < (c.terms.length : Int))) rfl (fun hc9=>?_) (fun hc9=>?_)))))))))
 have hlt8:=of_decide_eq_true hc9
 rcases suf8 with _ | ⟨x_8,rest8⟩
 exact absurd hlt8 (by simp at hl8; omega)
 obtain ⟨o8,hB8,hL8⟩:=range_cons hL8
 rw [s_ConstraintValid_b1] at hB8
 have hix8:=drop_idx hd8
 refine W_skip (W_seq (W_block (sq (fA 0 fa_73_0 sf1 rfl (ldB 0 Z Tryz.isAgg71 rfl rfl rfl (mF sf3 rfl (L_ix (r:=rTerm) rfl Tryz.underlying71 Tryz.sizeOf122 rfl (RP.mono _ h0_0 l7) rfl hix8 (fun g17 o18 cs_g17 hrk_hat19 hat19=>?_))))))))
 obtain rfl:=rTerm_iff.1 hrk_hat19
 refine L_lda (cs:=[I x_8.coef,I x_8.lit]) rfl Tryz.isAgg122 Tryz.sizeOf122 rfl (At.sub (AtH.at hat19 Z.sub) 0 2) rfl (L_al (cs:=#[I 0,I 0]) rfl Tryz.zeroValue122 rfl Z (fun g21 w22 Z=>L_staB (vs:=#[I x_8.coef,I x_8.lit]) (cs2:=#[I x_8.coef,I x_8.lit]) 0 rfl Tryz.sizeOf122 rfl rfl rfl (ones_cons rfl (ones_cons rfl ones_nil)) Z rfl (by show 0 + 2≤2; decide) rfl (fun w23 Z=>nq ?_)))
 obtain ⟨x29,hx29,hB8⟩:=bind_some hB8
 obtain ⟨b51,hb51,hB8⟩:=bind_some hB8
 obtain ⟨R55,hR55⟩:=exR fun f w_=>∃ H53 : FH,Le H6 H53∧f 1 = Pt g3∧f 3 = I i_5∧f 48 = Bo b51∧Star H53 w_ ([box g3 73 #[v0_0,I c.bound]])
 refine W_join R55 ?_ ?_
 rcases Bool.eq_false_or_eq_true (!x29) with hc56 | hc56
 rcases Bool.eq_false_or_eq_true ((!x29) || (decide (x_8.coef < 1))) with hc57 | hc57
 rcases Bool.eq_false_or_eq_true (((!x29) || (decide (x_8.coef < 1))) || (decide (x_8.coef > 1000))) with hc58 | hc58
 rw [ite_t hc58] at hb51
 refine W_drawS 28 [isV (Pq g21 1),isV (I x_8.lit),isV (Bo x29),isV (Bo (!x29)),isV (Bo (!x29)),isV (undef),isV (undef),isV (undef),isV (Bo ((!x29) || (decide (x_8.coef < 1)))),isV (Bo ((!x29) || (decide (x_8.coef < 1)))),isV (undef),isV (undef),isV (undef),isV (Bo (((!x29) || (decide (x_8.coef < 1))) || (decide (x_8.coef > 1000)))),isV (Bo (((!x29) || (decide (x_8.coef < 1))) || (decide (x_8.coef > 1000)))),isV (undef),isV (undef),isV (undef),isV (undef),isV (undef),isV (undef),isV (undef),isV (undef),isV (undef),isV (undef),isV (undef),isV (undef),isV (undef)] [box g21 122 #[I x_8.coef,I x_8.lit],box g3 73 #[v0_0,I c.bound]] [] ([]) [([],[]),([],[]),([],[]),([],[]),([],[]),([],[]),([],[]),([],[]),([],[]),([],[]),([],[]),([],[]),([],[]),([],[]),([],[]),([],[]),([],[]),([],[]),([],[]),([],[]),([],[]),([],[]),([],[]),([],[]),([],[]),([],[]),([],[]),([],[])] (S:=[]) Tryz_mix (by kernel_rfl) rfl (by kernel_rfl) (amF_cons (mono_V _) (amF_cons (mono_V _) (amF_cons (mono_V _) (amF_cons (mono_V _) (amF_cons (mono_V _) (amF_cons (mono_V _) (amF_cons (mono_V _) (amF_cons (mono_V _) (amF_cons (mono_V _) (amF_cons (mono_V _) (amF_cons (mono_V _) (amF_cons (mono_V _) (amF_cons (mono_V _) (amF_cons (mono_V _) (amF_cons (mono_V _) (amF_cons (mono_V _) (amF_cons (mono_V _) (amF_cons (mono_V _) (amF_cons (mono_V _) (amF_cons (mono_V _) (amF_cons (mono_V _) (amF_cons (mono_V _) (amF_cons (mono_V _) (amF_cons (mono_V _) (amF_cons (mono_V _) (amF_cons (mono_V _) (amF_cons (mono_V _) (amF_cons (mono_V _) amF_nil)))))))))))))))))))))))))))) Z ?_ (fun f w_ H52 hS52 hE52 hT52 Z=>?_)
 refine opsS_cons (fun f w_ _ _ s _ _ Z=>fA 1 fa_122_1 ((s 4 rfl).trans rfl) rfl (nO rfl rfl Z)) (opsS_cons (fun f w_ _ _ _ _ p Z=>ldB 0 Z Tryz.isAgg3 (p 0 17 rfl rfl) rfl rfl (nO rfl rfl Z)) (opsS_cons ?_ ?_))
 intro f w_ H52 X52 hS52 hE52 hP52 Z
 obtain ⟨H65b,l66,s67,z68,k69⟩:=Z.borrow
 refine L_call rfl Tryz.call151 (ops1 (hP52 1 18 rfl rfl)) (s_l1Lit_c (n_:=x_8.lit) s67 hx29) ?_
 rintro _ w70 ⟨rfl,Z⟩
 have Z:=k69 Z c0
 exact L_nil ⟨rfl,_,_,rfl,Le.refl _,fun _ _=>rfl,Z⟩
 refine opsS_cons (fun f w_ _ _ _ _ p Z=>L_not_ rfl (p 2 19 rfl rfl) (nO rfl rfl Z)) (opsS_cons (fun f w_ _ _ _ _ p Z=>mF (p 3 20 rfl rfl) rfl (nO rfl rfl Z)) (oP (fun _ _ p=>gN (p 4 21 rfl rfl) hc56 rfl) (fun _=>rfl) (oP (fun _ _ p=>gN (p 4 21 rfl rfl) hc56 rfl) (fun _=>rfl) (oP (fun _ _ p=>gN (p 4 21 rfl rfl) hc56 rfl) (fun _=>rfl) (opsS_cons (fun f w_ _ _ _ _ p Z=>pkT (v:=Bo ((!x29) || (decide (x_8.coef < 1)))) (p 4 21 rfl rfl) hc56 rfl (or_t hc56) (nO rfl rfl Z)) (opsS_cons (fun f w_ _ _ _ _ p Z=>mF (p 8 25 rfl rfl) rfl (nO rfl rfl Z)) (oP (fun _ _ p=>gN (p 9 26 rfl rfl) hc57 rfl) (fun _=>rfl) (oP (fun _ _ p=>gN (p 9 26 rfl rfl) hc57 rfl) (fun _=>rfl) (oP (fun _ _ p=>gN (p 9 26 rfl rfl) hc57 rfl) (fun _=>rfl) (opsS_cons (fun f w_ _ _ _ _ p Z=>pkT (v:=Bo (((!x29) || (decide (x_8.coef < 1))) || (decide (x_8.coef > 1000)))) (p 9 26 rfl rfl) hc57 rfl (or_t hc57) (nO rfl rfl Z)) (opsS_cons (fun f w_ _ _ _ _ p Z=>mF (p 13 30 rfl rfl) rfl (nO rfl rfl Z)) (oP (fun _ _ p=>gN (p 14 31 rfl rfl) hc58 rfl) (fun _=>rfl) (oP (fun _ _ p=>gN (p 14 31 rfl rfl) hc58 rfl) (fun _=>rfl) (oP (fun _ _ p=>gN (p 14 31 rfl rfl) hc58 rfl) (fun _=>rfl) (oP (fun _ _ p=>g_undef rfl (p 17 34 rfl rfl) rfl) (fun _=>rfl) (oP (fun _ _ p=>g_undef rfl (p 17 34 rfl rfl) rfl) (fun _=>rfl) (oP (fun _ _ p=>g_undef rfl (p 17 34 rfl rfl) rfl) (fun _=>rfl) (oP (fun _ _ p=>g_undef rfl (p 17 34 rfl rfl) rfl) (fun _=>rfl) (oP (fun _ _ p=>g_undef rfl (p 17 34 rfl rfl) rfl) (fun _=>rfl) (oP (fun _ _ p=>g_undef rfl (p 17 34 rfl rfl) rfl) (fun _=>rfl) (oP (fun _ _ p=>g_undef rfl (p 17 34 rfl rfl) rfl) (fun _=>rfl) (oP (fun _ _ p=>g_undef rfl (p 17 34 rfl rfl) rfl) (fun _=>rfl) (oP (fun _ _ p=>g_undef rfl (p 17 34 rfl rfl) rfl) (fun _=>rfl) (oP (fun _ _ p=>g_undef rfl (p 17 34 rfl rfl) rfl) (fun _=>rfl) (opsS_nil)))))))))))))))))))))))))
 refine ps (g_undef rfl (hT52 17 34 rfl rfl) rfl) (ps (g_undef rfl (hT52 17 34 rfl rfl) rfl) (ps (g_no rfl (Eq.trans (hT52 14 31 rfl rfl) (congrArg Value.bool hc58)) rfl rfl) (L_pick (v:=Bo b51) rfl (Eq.trans (hT52 14 31 rfl rfl) (congrArg Value.bool hc58)) (congrArg Value.bool (so hb51)) (nn ?_))))
 have Z:=Z.get 1 rfl
 exact rj hR55 ⟨H52,hE52,((hS52 1 rfl).trans sf1),((hS52 3 rfl).trans sf3),rfl,(Star.keepN 1 Z)⟩
 rw [ite_f hc58] at hb51
 obtain ⟨b50,hb50,hb51⟩:=bind_some hb51
 rcases Bool.eq_false_or_eq_true (decide ((i_5 : Int) > 0)) with hc71 | hc71
 rw [ite_t hc71] at hb50
 obtain ⟨x31,hx31,hb50⟩:=bind_some hb50
 obtain ⟨x41,hx41,hb50⟩:=bind_some hb50
 obtain ⟨x48,hx48,hb50⟩:=bind_some hb50
 refine W_drawS 28 [isV (Pq g21 1),isV (I x_8.lit),isV (Bo x29),isV (Bo (!x29)),isV (Bo (!x29)),isV (undef),isV (undef),isV (undef),isV (Bo ((!x29) || (decide (x_8.coef < 1)))),isV (Bo ((!x29) || (decide (x_8.coef < 1)))),isV (undef),isV (undef),isV (undef),isV (Bo (((!x29) || (decide (x_8.coef < 1))) || (decide (x_8.coef > 1000)))),isV (Bo (((!x29) || (decide (x_8.coef < 1))) || (decide (x_8.coef > 1000)))),isV (I i_5),isV (Bo (decide ((i_5 : Int) > 0))),isV (Bo (decide ((i_5 : Int) > 0))),isV (Pt g3),isV (v0_0),isV (I i_5),isV (I (i64 ((i_5 : Int) - 1))),isEl rTerm x31 0,isEl rTerm x31 1,isV (I x31.lit),isV (I x41),isV (Pq g21 1),isV (I x_8.lit)] [box g21 122 #[I x_8.coef,I x_8.lit],box g3 73 #[v0_0,I c.bound]] [] ([]) [([],[]),([],[]),([],[]),([],[]),([],[]),([],[]),([],[]),([],[]),([],[]),([],[]),([],[]),([],[]),([],[]),([],[]),([],[]),([],[]),([],[]),([],[]),([],[]),([],[]),([],[]),([],[]),([],[]),([],[]),([],[]),([],[]),([],[]),([],[])] (S:=[]) Tryz_mix (by kernel_rfl) rfl (by kernel_rfl) (amF_cons (mono_V _) (amF_cons (mono_V _) (amF_cons (mono_V _) (amF_cons (mono_V _) (amF_cons (mono_V _) (amF_cons (mono_V _) (amF_cons (mono_V _) (amF_cons (mono_V _) (amF_cons (mono_V _) (amF_cons (mono_V _) (amF_cons (mono_V _) (amF_cons (mono_V _) (amF_cons (mono_V _) (amF_cons (mono_V _) (amF_cons (mono_V _) (amF_cons (mono_V _) (amF_cons (mono_V _) (amF_cons (mono_V _) (amF_cons (mono_V _) (amF_cons (mono_V _) (amF_cons (mono_V _) (amF_cons (mono_V _) (amF_cons (mono_el _ _ _) (amF_cons (mono_el _ _ _) (amF_cons (mono_V _) (amF_cons (mono_V _) (amF_cons (mono_V _) (amF_cons (mono_V _) amF_nil)))))))))))))))))))))))))))) Z ?_ (fun f w_ H52 hS52 hE52 hT52 Z=>?_)
 refine opsS_cons (fun f w_ _ _ s _ _ Z=>fA 1 fa_122_1 ((s 4 rfl).trans rfl) rfl (nO rfl rfl Z)) (opsS_cons (fun f w_ _ _ _ _ p Z=>ldB 0 Z Tryz.isAgg3 (p 0 17 rfl rfl) rfl rfl (nO rfl rfl Z)) (opsS_cons ?_ ?_))
 intro f w_ H52 X52 hS52 hE52 hP52 Z
 obtain ⟨H88b,l89,s90,z91,k92⟩:=Z.borrow
 refine L_call rfl Tryz.call151 (ops1 (hP52 1 18 rfl rfl)) (s_l1Lit_c (n_:=x_8.lit) s90 hx29) ?_
 rintro _ w93 ⟨rfl,Z⟩
 have Z:=k92 Z c0
 exact L_nil ⟨rfl,_,_,rfl,Le.refl _,fun _ _=>rfl,Z⟩
 refine opsS_cons (fun f w_ _ _ _ _ p Z=>L_not_ rfl (p 2 19 rfl rfl) (nO rfl rfl Z)) (opsS_cons (fun f w_ _ _ _ _ p Z=>mF (p 3 20 rfl rfl) rfl (nO rfl rfl Z)) (oP (fun _ _ p=>gN (p 4 21 rfl rfl) hc56 rfl) (fun _=>rfl) (oP (fun _ _ p=>gN (p 4 21 rfl rfl) hc56 rfl) (fun _=>rfl) (oP (fun _ _ p=>gN (p 4 21 rfl rfl) hc56 rfl) (fun _=>rfl) (opsS_cons (fun f w_ _ _ _ _ p Z=>pkT (v:=Bo ((!x29) || (decide (x_8.coef < 1)))) (p 4 21 rfl rfl) hc56 rfl (or_t hc56) (nO rfl rfl Z)) (opsS_cons (fun f w_ _ _ _ _ p Z=>mF (p 8 25 rfl rfl) rfl (nO rfl rfl Z)) (oP (fun _ _ p=>gN (p 9 26 rfl rfl) hc57 rfl) (fun _=>rfl) (oP (fun _ _ p=>gN (p 9 26 rfl rfl) hc57 rfl) (fun _=>rfl) (oP (fun _ _ p=>gN (p 9 26 rfl rfl) hc57 rfl) (fun _=>rfl) (opsS_cons (fun f w_ _ _ _ _ p Z=>pkT (v:=Bo (((!x29) || (decide (x_8.coef < 1))) || (decide (x_8.coef > 1000)))) (p 9 26 rfl rfl) hc57 rfl (or_t hc57) (nO rfl rfl Z)) (opsS_cons (fun f w_ _ _ _ _ p Z=>mF (p 13 30 rfl rfl) rfl (nO rfl rfl Z)) (opsS_cons (fun f w_ _ _ s _ p Z=>L_mv (v:=I i_5) (g_yes rfl (Eq.trans (p 14 31 rfl rfl) (congrArg Value.bool hc58)) rfl) ((s 3 rfl).trans sf3) (nO rfl rfl Z)) (opsS_cons (fun f w_ _ _ _ _ p Z=>L_gtr (g_yes rfl (Eq.trans (p 14 31 rfl rfl) (congrArg Value.bool hc58)) rfl) (p 15 32 rfl rfl) rfl (nO rfl rfl Z)) (opsS_cons (fun f w_ _ _ _ _ p Z=>L_mv (v:=Bo (decide ((i_5 : Int) > 0))) (g_yes rfl (Eq.trans (p 14 31 rfl rfl) (congrArg Value.bool hc58)) rfl) (p 16 33 rfl rfl) (nO rfl rfl Z)) (opsS_cons (fun f w_ _ _ s _ p Z=>L_fa (o':=0) (g_yes rfl (Eq.trans (p 17 34 rfl rfl) (congrArg Value.bool hc71)) rfl) fa_73_0 ((s 1 rfl).trans sf1) rfl (nO rfl rfl Z)) (opsS_cons (fun f w_ _ _ _ _ p Z=>L_ld (v:=v0_0) (g_yes rfl (Eq.trans (p 17 34 rfl rfl) (congrArg Value.bool hc71)) rfl) Tryz.isAgg71 (p 18 35 rfl rfl) (At.cell0 (Blk.at (Star.blkAt 1 Z rfl)) (j:=0) rfl) (nO rfl rfl Z)) (opsS_cons (fun f w_ _ _ s _ p Z=>L_mv (v:=I i_5) (g_yes rfl (Eq.trans (p 17 34 rfl rfl) (congrArg Value.bool hc71)) rfl) ((s 3 rfl).trans sf3) (nO rfl rfl Z)) (opsS_cons (fun f w_ _ _ _ _ p Z=>L_sub (g_yes rfl (Eq.trans (p 17 34 rfl rfl) (congrArg Value.bool hc71)) rfl) (p 20 37 rfl rfl) rfl (nO rfl rfl Z)) (opsS_cons ?_ ?_)))))))))))))))))))
 intro f w_ H52 X52 hS52 hE52 hP52 Z
 refine L_ix (r:=rTerm) (g_yes rfl (Eq.trans (hP52 17 34 rfl rfl) (congrArg Value.bool hc71)) rfl) Tryz.underlying71 Tryz.sizeOf122 (hP52 19 36 rfl rfl) (RP.mono _ h0_0 (Le.trans l7 hE52)) (hP52 21 38 rfl rfl) hx31 (fun g94 o95 cs_g94 hrk_hat96 hat96=>?_)
 obtain rfl:=rTerm_iff.1 hrk_hat96
 exact L_nil ⟨rfl,_,_,rfl,Le.refl _,fun _ _=>⟨_,_,_,rfl,hrk_hat96,hat96⟩,Z⟩
 refine opsS_cons ?_ ?_
 intro f w_ H52 X52 hS52 hE52 hP52 Z
 obtain ⟨g98,o98,cs98,hv98,hrk_hat98,hat98⟩:=(hP52 22 39 rfl rfl)
 obtain rfl:=rTerm_iff.1 hrk_hat98
 refine L_fa (o':=o98 + 1) (g_yes rfl (Eq.trans (hP52 17 34 rfl rfl) (congrArg Value.bool hc71)) rfl) fa_122_1 hv98 rfl (L_nil ⟨rfl,_,_,rfl,Le.refl _,fun _ _=>⟨_,_,_,rfl,hrk_hat98,hat98⟩,Z⟩)
 refine opsS_cons ?_ ?_
 intro f w_ H52 X52 hS52 hE52 hP52 Z
 obtain ⟨g100,o100,cs100,hv100,hrk_hat100,hat100⟩:=(hP52 23 40 rfl rfl)
 obtain rfl:=rTerm_iff.1 hrk_hat100
 refine L_ld (v:=I x31.lit) (g_yes rfl (Eq.trans (hP52 17 34 rfl rfl) (congrArg Value.bool hc71)) rfl) Tryz.isAgg3 hv100 (At.cell (AtH.at hat100 Z.sub) (j:=1) rfl) (L_nil ⟨rfl,_,_,rfl,Le.refl _,fun _ _=>rfl,Z⟩)
 refine opsS_cons ?_ ?_
 intro f w_ H52 X52 hS52 hE52 hP52 Z
 obtain ⟨H102b,l103,s104,z105,k106⟩:=Z.borrow
 refine L_call (g_yes rfl (Eq.trans (hP52 17 34 rfl rfl) (congrArg Value.bool hc71)) rfl) Tryz.call152 (ops1 (hP52 24 41 rfl rfl)) (s_l1Abs_c (n_:=x31.lit) s104 hx41) ?_
 rintro _ w107 ⟨rfl,Z⟩
 have Z:=k106 Z c0
 exact L_nil ⟨rfl,_,_,rfl,Le.refl _,fun _ _=>rfl,Z⟩
 refine opsS_cons (fun f w_ _ _ s _ p Z=>L_fa (o':=1) (g_yes rfl (Eq.trans (p 17 34 rfl rfl) (congrArg Value.bool hc71)) rfl) fa_122_1 ((s 4 rfl).trans rfl) rfl (nO rfl rfl Z)) (opsS_cons (fun f w_ _ _ _ _ p Z=>L_ld (v:=I x_8.lit) (g_yes rfl (Eq.trans (p 17 34 rfl rfl) (congrArg Value.bool hc71)) rfl) Tryz.isAgg3 (p 26 43 rfl rfl) (At.cell0 (Blk.at (Star.blkAt 0 Z rfl)) (j:=1) rfl) (nO rfl rfl Z)) (opsS_nil))
 obtain ⟨H108b,l109,s110,z111,k112⟩:=Z.borrow
 refine L_call (g_yes rfl (Eq.trans (hT52 17 34 rfl rfl) (congrArg Value.bool hc71)) rfl) Tryz.call152 (ops1 (hT52 27 44 rfl rfl)) (s_l1Abs_c (n_:=x_8.lit) s110 hx48) ?_
 rintro _ w113 ⟨rfl,Z⟩
 have Z:=k112 Z c0
 refine L_geq (g_yes rfl (Eq.trans (hT52 17 34 rfl rfl) (congrArg Value.bool hc71)) rfl) (hT52 25 42 rfl rfl) rfl (L_pick (v:=Bo b50) (g_yes rfl (Eq.trans (hT52 14 31 rfl rfl) (congrArg Value.bool hc58)) rfl) (Eq.trans (hT52 17 34 rfl rfl) (congrArg Value.bool hc71)) (congrArg Value.bool (so hb50)) (L_pick (v:=Bo b51) rfl (Eq.trans (hT52 14 31 rfl rfl) (congrArg Value.bool hc58)) (congrArg Value.bool (so hb51)) (nn ?_)))
 have Z:=Z.get 1 rfl
 exact rj hR55 ⟨H52,hE52,((hS52 1 rfl).trans sf1),((hS52 3 rfl).trans sf3),rfl,(Star.keepN 1 Z)⟩
 rw [ite_f hc71] at hb50
 refine W_drawS 28 [isV (Pq g21 1),isV (I x_8.lit),isV (Bo x29),isV (Bo (!x29)),isV (Bo (!x29)),isV (undef),isV (undef),isV (undef),isV (Bo ((!x29) || (decide (x_8.coef < 1)))),isV (Bo ((!x29) || (decide (x_8.coef < 1)))),isV (undef),isV (undef),isV (undef),isV (Bo (((!x29) || (decide (x_8.coef < 1))) || (decide (x_8.coef > 1000)))),isV (Bo (((!x29) || (decide (x_8.coef < 1))) || (decide (x_8.coef > 1000)))),isV (I i_5),isV (Bo (decide ((i_5 : Int) > 0))),isV (Bo (decide ((i_5 : Int) > 0))),isV (undef),isV (undef),isV (undef),isV (undef),isV (undef),isV (undef),isV (undef),isV (undef),isV (undef),isV (undef)] [box g21 122 #[I x_8.coef,I x_8.lit],box g3 73 #[v0_0,I c.bound]] [] ([]) [([],[]),([],[]),([],[]),([],[]),([],[]),([],[]),([],[]),([],[]),([],[]),([],[]),([],[]),([],[]),([],[]),([],[]),([],[]),([],[]),([],[]),([],[]),([],[]),([],[]),([],[]),([],[]),([],[]),([],[]),([],[]),([],[]),([],[]),([],[])] (S:=[]) Tryz_mix (by kernel_rfl) rfl (by kernel_rfl) (amF_cons (mono_V _) (amF_cons (mono_V _) (amF_cons (mono_V _) (amF_cons (mono_V _) (amF_cons (mono_V _) (amF_cons (mono_V _) (amF_cons (mono_V _) (amF_cons (mono_V _) (amF_cons (mono_V _) (amF_cons (mono_V _) (amF_cons (mono_V _) (amF_cons (mono_V _) (amF_cons (mono_V _) (amF_cons (mono_V _) (amF_cons (mono_V _) (amF_cons (mono_V _) (amF_cons (mono_V _) (amF_cons (mono_V _) (amF_cons (mono_V _) (amF_cons (mono_V _) (amF_cons (mono_V _) (amF_cons (mono_V _) (amF_cons (mono_V _) (amF_cons (mono_V _) (amF_cons (mono_V _) (amF_cons (mono_V _) (amF_cons (mono_V _) (amF_cons (mono_V _) amF_nil)))))))))))))))))))))))))))) Z ?_ (fun f w_ H52 hS52 hE52 hT52 Z=>?_)
 refine opsS_cons (fun f w_ _ _ s _ _ Z=>fA 1 fa_122_1 ((s 4 rfl).trans rfl) rfl (nO rfl rfl Z)) (opsS_cons (fun f w_ _ _ _ _ p Z=>ldB 0 Z Tryz.isAgg3 (p 0 17 rfl rfl) rfl rfl (nO rfl rfl Z)) (opsS_cons ?_ ?_))
 intro f w_ H52 X52 hS52 hE52 hP52 Z
 obtain ⟨H120b,l121,s122,z123,k124⟩:=Z.borrow
 refine L_call rfl Tryz.call151 (ops1 (hP52 1 18 rfl rfl)) (s_l1Lit_c (n_:=x_8.lit) s122 hx29) ?_
 rintro _ w125 ⟨rfl,Z⟩
 have Z:=k124 Z c0
 exact L_nil ⟨rfl,_,_,rfl,Le.refl _,fun _ _=>rfl,Z⟩
 refine opsS_cons (fun f w_ _ _ _ _ p Z=>L_not_ rfl (p 2 19 rfl rfl) (nO rfl rfl Z)) (opsS_cons (fun f w_ _ _ _ _ p Z=>mF (p 3 20 rfl rfl) rfl (nO rfl rfl Z)) (oP (fun _ _ p=>gN (p 4 21 rfl rfl) hc56 rfl) (fun _=>rfl) (oP (fun _ _ p=>gN (p 4 21 rfl rfl) hc56 rfl) (fun _=>rfl) (oP (fun _ _ p=>gN (p 4 21 rfl rfl) hc56 rfl) (fun _=>rfl) (opsS_cons (fun f w_ _ _ _ _ p Z=>pkT (v:=Bo ((!x29) || (decide (x_8.coef < 1)))) (p 4 21 rfl rfl) hc56 rfl (or_t hc56) (nO rfl rfl Z)) (opsS_cons (fun f w_ _ _ _ _ p Z=>mF (p 8 25 rfl rfl) rfl (nO rfl rfl Z)) (oP (fun _ _ p=>gN (p 9 26 rfl rfl) hc57 rfl) (fun _=>rfl) (oP (fun _ _ p=>gN (p 9 26 rfl rfl) hc57 rfl) (fun _=>rfl) (oP (fun _ _ p=>gN (p 9 26 rfl rfl) hc57 rfl) (fun _=>rfl) (opsS_cons (fun f w_ _ _ _ _ p Z=>pkT (v:=Bo (((!x29) || (decide (x_8.coef < 1))) || (decide (x_8.coef > 1000)))) (p 9 26 rfl rfl) hc57 rfl (or_t hc57) (nO rfl rfl Z)) (opsS_cons (fun f w_ _ _ _ _ p Z=>mF (p 13 30 rfl rfl) rfl (nO rfl rfl Z)) (opsS_cons (fun f w_ _ _ s _ p Z=>L_mv (v:=I i_5) (g_yes rfl (Eq.trans (p 14 31 rfl rfl) (congrArg Value.bool hc58)) rfl) ((s 3 rfl).trans sf3) (nO rfl rfl Z)) (opsS_cons (fun f w_ _ _ _ _ p Z=>L_gtr (g_yes rfl (Eq.trans (p 14 31 rfl rfl) (congrArg Value.bool hc58)) rfl) (p 15 32 rfl rfl) rfl (nO rfl rfl Z)) (opsS_cons (fun f w_ _ _ _ _ p Z=>L_mv (v:=Bo (decide ((i_5 : Int) > 0))) (g_yes rfl (Eq.trans (p 14 31 rfl rfl) (congrArg Value.bool hc58)) rfl) (p 16 33 rfl rfl) (nO rfl rfl Z)) (oP (fun _ _ p=>gN (p 17 34 rfl rfl) hc71 rfl) (fun _=>rfl) (oP (fun _ _ p=>gN (p 17 34 rfl rfl) hc71 rfl) (fun _=>rfl) (oP (fun _ _ p=>gN (p 17 34 rfl rfl) hc71 rfl) (fun _=>rfl) (oP (fun _ _ p=>gN (p 17 34 rfl rfl) hc71 rfl) (fun _=>rfl) (oP (fun _ _ p=>gN (p 17 34 rfl rfl) hc71 rfl) (fun _=>rfl) (oP (fun _ _ p=>gN (p 17 34 rfl rfl) hc71 rfl) (fun _=>rfl) (oP (fun _ _ p=>gN (p 17 34 rfl rfl) hc71 rfl) (fun _=>rfl) (oP (fun _ _ p=>gN (p 17 34 rfl rfl) hc71 rfl) (fun _=>rfl) (oP (fun _ _ p=>gN (p 17 34 rfl rfl) hc71 rfl) (fun _=>rfl) (oP (fun _ _ p=>gN (p 17 34 rfl rfl) hc71 rfl) (fun _=>rfl) (opsS_nil)))))))))))))))))))))))))
 refine ps (g_no rfl (Eq.trans (hT52 17 34 rfl rfl) (congrArg Value.bool hc71)) rfl rfl) (ps (g_no rfl (Eq.trans (hT52 17 34 rfl rfl) (congrArg Value.bool hc71)) rfl rfl) (L_pick (v:=Bo b50) (g_yes rfl (Eq.trans (hT52 14 31 rfl rfl) (congrArg Value.bool hc58)) rfl) (Eq.trans (hT52 17 34 rfl rfl) (congrArg Value.bool hc71)) (congrArg Value.bool (so hb50)) (L_pick (v:=Bo b51) rfl (Eq.trans (hT52 14 31 rfl rfl) (congrArg Value.bool hc58)) (congrArg Value.bool (so hb51)) (nn ?_))))
 have Z:=Z.get 1 rfl
 exact rj hR55 ⟨H52,hE52,((hS52 1 rfl).trans sf1),((hS52 3 rfl).trans sf3),rfl,(Star.keepN 1 Z)⟩
 rcases Bool.eq_false_or_eq_true (((!x29) || (decide (x_8.coef < 1))) || (decide (x_8.coef > 1000))) with hc126 | hc126
 rw [ite_t hc126] at hb51
 refine W_drawS 28 [isV (Pq g21 1),isV (I x_8.lit),isV (Bo x29),isV (Bo (!x29)),isV (Bo (!x29)),isV (undef),isV (undef),isV (undef),isV (Bo ((!x29) || (decide (x_8.coef < 1)))),isV (Bo ((!x29) || (decide (x_8.coef < 1)))),isV (Pt g21),isV (I x_8.coef),isV (Bo (decide (x_8.coef > 1000))),isV (Bo (((!x29) || (decide (x_8.coef < 1))) || (decide (x_8.coef > 1000)))),isV (Bo (((!x29) || (decide (x_8.coef < 1))) || (decide (x_8.coef > 1000)))),isV (undef),isV (undef),isV (undef),isV (undef),isV (undef),isV (undef),isV (undef),isV (undef),isV (undef),isV (undef),isV (undef),isV (undef),isV (undef)] [box g21 122 #[I x_8.coef,I x_8.lit],box g3 73 #[v0_0,I c.bound]] [] ([]) [([],[]),([],[]),([],[]),([],[]),([],[]),([],[]),([],[]),([],[]),([],[]),([],[]),([],[]),([],[]),([],[]),([],[]),([],[]),([],[]),([],[]),([],[]),([],[]),([],[]),([],[]),([],[]),([],[]),([],[]),([],[]),([],[]),([],[]),([],[])] (S:=[]) Tryz_mix (by kernel_rfl) rfl (by kernel_rfl) (amF_cons (mono_V _) (amF_cons (mono_V _) (amF_cons (mono_V _) (amF_cons (mono_V _) (amF_cons (mono_V _) (amF_cons (mono_V _) (amF_cons (mono_V _) (amF_cons (mono_V _) (amF_cons (mono_V _) (amF_cons (mono_V _) (amF_cons (mono_V _) (amF_cons (mono_V _) (amF_cons (mono_V _) (amF_cons (mono_V _) (amF_cons (mono_V _) (amF_cons (mono_V _) (amF_cons (mono_V _) (amF_cons (mono_V _) (amF_cons (mono_V _) (amF_cons (mono_V _) (amF_cons (mono_V _) (amF_cons (mono_V _) (amF_cons (mono_V _) (amF_cons (mono_V _) (amF_cons (mono_V _) (amF_cons (mono_V _) (amF_cons (mono_V _) (amF_cons (mono_V _) amF_nil)))))))))))))))))))))))))))) Z ?_ (fun f w_ H52 hS52 hE52 hT52 Z=>?_)
 refine opsS_cons (fun f w_ _ _ s _ _ Z=>fA 1 fa_122_1 ((s 4 rfl).trans rfl) rfl (nO rfl rfl Z)) (opsS_cons (fun f w_ _ _ _ _ p Z=>ldB 0 Z Tryz.isAgg3 (p 0 17 rfl rfl) rfl rfl (nO rfl rfl Z)) (opsS_cons ?_ ?_))
 intro f w_ H52 X52 hS52 hE52 hP52 Z
 obtain ⟨H133b,l134,s135,z136,k137⟩:=Z.borrow
 refine L_call rfl Tryz.call151 (ops1 (hP52 1 18 rfl rfl)) (s_l1Lit_c (n_:=x_8.lit) s135 hx29) ?_
 rintro _ w138 ⟨rfl,Z⟩
 have Z:=k137 Z c0
 exact L_nil ⟨rfl,_,_,rfl,Le.refl _,fun _ _=>rfl,Z⟩
 refine opsS_cons (fun f w_ _ _ _ _ p Z=>L_not_ rfl (p 2 19 rfl rfl) (nO rfl rfl Z)) (opsS_cons (fun f w_ _ _ _ _ p Z=>mF (p 3 20 rfl rfl) rfl (nO rfl rfl Z)) (oP (fun _ _ p=>gN (p 4 21 rfl rfl) hc56 rfl) (fun _=>rfl) (oP (fun _ _ p=>gN (p 4 21 rfl rfl) hc56 rfl) (fun _=>rfl) (oP (fun _ _ p=>gN (p 4 21 rfl rfl) hc56 rfl) (fun _=>rfl) (opsS_cons (fun f w_ _ _ _ _ p Z=>pkT (v:=Bo ((!x29) || (decide (x_8.coef < 1)))) (p 4 21 rfl rfl) hc56 rfl (or_t hc56) (nO rfl rfl Z)) (opsS_cons (fun f w_ _ _ _ _ p Z=>mF (p 8 25 rfl rfl) rfl (nO rfl rfl Z)) (opsS_cons (fun f w_ _ _ s _ p Z=>L_fa (o':=0) (g_yes rfl (Eq.trans (p 9 26 rfl rfl) (congrArg Value.bool hc57)) rfl) fa_122_0 ((s 4 rfl).trans rfl) rfl (nO rfl rfl Z)) (opsS_cons (fun f w_ _ _ _ _ p Z=>L_ld (v:=I x_8.coef) (g_yes rfl (Eq.trans (p 9 26 rfl rfl) (congrArg Value.bool hc57)) rfl) Tryz.isAgg3 (p 10 27 rfl rfl) (At.cell0 (Blk.at (Star.blkAt 0 Z rfl)) (j:=0) rfl) (nO rfl rfl Z)) (opsS_cons (fun f w_ _ _ _ _ p Z=>L_gtr (g_yes rfl (Eq.trans (p 9 26 rfl rfl) (congrArg Value.bool hc57)) rfl) (p 11 28 rfl rfl) rfl (nO rfl rfl Z)) (opsS_cons (fun f w_ _ _ _ _ p Z=>pkT (v:=Bo (((!x29) || (decide (x_8.coef < 1))) || (decide (x_8.coef > 1000)))) (p 9 26 rfl rfl) hc57 rfl (or_f hc57 (p 12 29 rfl rfl)) (nO rfl rfl Z)) (opsS_cons (fun f w_ _ _ _ _ p Z=>mF (p 13 30 rfl rfl) rfl (nO rfl rfl Z)) (oP (fun _ _ p=>gN (p 14 31 rfl rfl) hc126 rfl) (fun _=>rfl) (oP (fun _ _ p=>gN (p 14 31 rfl rfl) hc126 rfl) (fun _=>rfl) (oP (fun _ _ p=>gN (p 14 31 rfl rfl) hc126 rfl) (fun _=>rfl) (oP (fun _ _ p=>g_undef rfl (p 17 34 rfl rfl) rfl) (fun _=>rfl) (oP (fun _ _ p=>g_undef rfl (p 17 34 rfl rfl) rfl) (fun _=>rfl) (oP (fun _ _ p=>g_undef rfl (p 17 34 rfl rfl) rfl) (fun _=>rfl) (oP (fun _ _ p=>g_undef rfl (p 17 34 rfl rfl) rfl) (fun _=>rfl) (oP (fun _ _ p=>g_undef rfl (p 17 34 rfl rfl) rfl) (fun _=>rfl) (oP (fun _ _ p=>g_undef rfl (p 17 34 rfl rfl) rfl) (fun _=>rfl) (oP (fun _ _ p=>g_undef rfl (p 17 34 rfl rfl) rfl) (fun _=>rfl) (oP (fun _ _ p=>g_undef rfl (p 17 34 rfl rfl) rfl) (fun _=>rfl) (oP (fun _ _ p=>g_undef rfl (p 17 34 rfl rfl) rfl) (fun _=>rfl) (oP (fun _ _ p=>g_undef rfl (p 17 34 rfl rfl) rfl) (fun _=>rfl) (opsS_nil)))))))))))))))))))))))))
 refine ps (g_undef rfl (hT52 17 34 rfl rfl) rfl) (ps (g_undef rfl (hT52 17 34 rfl rfl) rfl) (ps (g_no rfl (Eq.trans (hT52 14 31 rfl rfl) (congrArg Value.bool hc126)) rfl rfl) (L_pick (v:=Bo b51) rfl (Eq.trans (hT52 14 31 rfl rfl) (congrArg Value.bool hc126)) (congrArg Value.bool (so hb51)) (nn ?_))))
 have Z:=Z.get 1 rfl
 exact rj hR55 ⟨H52,hE52,((hS52 1 rfl).trans sf1),((hS52 3 rfl).trans sf3),rfl,(Star.keepN 1 Z)⟩
 rw [ite_f hc126] at hb51
 obtain ⟨b50,hb50,hb51⟩:=bind_some hb51
 rcases Bool.eq_false_or_eq_true (decide ((i_5 : Int) > 0)) with hc139 | hc139
 rw [ite_t hc139] at hb50
 obtain ⟨x31,hx31,hb50⟩:=bind_some hb50
 obtain ⟨x41,hx41,hb50⟩:=bind_some hb50
 obtain ⟨x48,hx48,hb50⟩:=bind_some hb50
 refine W_drawS 28 [isV (Pq g21 1),isV (I x_8.lit),isV (Bo x29),isV (Bo (!x29)),isV (Bo (!x29)),isV (undef),isV (undef),isV (undef),isV (Bo ((!x29) || (decide (x_8.coef < 1)))),isV (Bo ((!x29) || (decide (x_8.coef < 1)))),isV (Pt g21),isV (I x_8.coef),isV (Bo (decide (x_8.coef > 1000))),isV (Bo (((!x29) || (decide (x_8.coef < 1))) || (decide (x_8.coef > 1000)))),isV (Bo (((!x29) || (decide (x_8.coef < 1))) || (decide (x_8.coef > 1000)))),isV (I i_5),isV (Bo (decide ((i_5 : Int) > 0))),isV (Bo (decide ((i_5 : Int) > 0))),isV (Pt g3),isV (v0_0),isV (I i_5),isV (I (i64 ((i_5 : Int) - 1))),isEl rTerm x31 0,isEl rTerm x31 1,isV (I x31.lit),isV (I x41),isV (Pq g21 1),isV (I x_8.lit)] [box g21 122 #[I x_8.coef,I x_8.lit],box g3 73 #[v0_0,I c.bound]] [] ([]) [([],[]),([],[]),([],[]),([],[]),([],[]),([],[]),([],[]),([],[]),([],[]),([],[]),([],[]),([],[]),([],[]),([],[]),([],[]),([],[]),([],[]),([],[]),([],[]),([],[]),([],[]),([],[]),([],[]),([],[]),([],[]),([],[]),([],[]),([],[])] (S:=[]) Tryz_mix (by kernel_rfl) rfl (by kernel_rfl) (amF_cons (mono_V _) (amF_cons (mono_V _) (amF_cons (mono_V _) (amF_cons (mono_V _) (amF_cons (mono_V _) (amF_cons (mono_V _) (amF_cons (mono_V _) (amF_cons (mono_V _) (amF_cons (mono_V _) (amF_cons (mono_V _) (amF_cons (mono_V _) (amF_cons (mono_V _) (amF_cons (mono_V _) (amF_cons (mono_V _) (amF_cons (mono_V _) (amF_cons (mono_V _) (amF_cons (mono_V _) (amF_cons (mono_V _) (amF_cons (mono_V _) (amF_cons (mono_V _) (amF_cons (mono_V _) (amF_cons (mono_V _) (amF_cons (mono_el _ _ _) (amF_cons (mono_el _ _ _) (amF_cons (mono_V _) (amF_cons (mono_V _) (amF_cons (mono_V _) (amF_cons (mono_V _) amF_nil)))))))))))))))))))))))))))) Z ?_ (fun f w_ H52 hS52 hE52 hT52 Z=>?_)
 refine opsS_cons (fun f w_ _ _ s _ _ Z=>fA 1 fa_122_1 ((s 4 rfl).trans rfl) rfl (nO rfl rfl Z)) (opsS_cons (fun f w_ _ _ _ _ p Z=>ldB 0 Z Tryz.isAgg3 (p 0 17 rfl rfl) rfl rfl (nO rfl rfl Z)) (opsS_cons ?_ ?_))
 intro f w_ H52 X52 hS52 hE52 hP52 Z
 obtain ⟨H156b,l157,s158,z159,k160⟩:=Z.borrow
 refine L_call rfl Tryz.call151 (ops1 (hP52 1 18 rfl rfl)) (s_l1Lit_c (n_:=x_8.lit) s158 hx29) ?_
 rintro _ w161 ⟨rfl,Z⟩
 have Z:=k160 Z c0
 exact L_nil ⟨rfl,_,_,rfl,Le.refl _,fun _ _=>rfl,Z⟩
 refine opsS_cons (fun f w_ _ _ _ _ p Z=>L_not_ rfl (p 2 19 rfl rfl) (nO rfl rfl Z)) (opsS_cons (fun f w_ _ _ _ _ p Z=>mF (p 3 20 rfl rfl) rfl (nO rfl rfl Z)) (oP (fun _ _ p=>gN (p 4 21 rfl rfl) hc56 rfl) (fun _=>rfl) (oP (fun _ _ p=>gN (p 4 21 rfl rfl) hc56 rfl) (fun _=>rfl) (oP (fun _ _ p=>gN (p 4 21 rfl rfl) hc56 rfl) (fun _=>rfl) (opsS_cons (fun f w_ _ _ _ _ p Z=>pkT (v:=Bo ((!x29) || (decide (x_8.coef < 1)))) (p 4 21 rfl rfl) hc56 rfl (or_t hc56) (nO rfl rfl Z)) (opsS_cons (fun f w_ _ _ _ _ p Z=>mF (p 8 25 rfl rfl) rfl (nO rfl rfl Z)) (opsS_cons (fun f w_ _ _ s _ p Z=>L_fa (o':=0) (g_yes rfl (Eq.trans (p 9 26 rfl rfl) (congrArg Value.bool hc57)) rfl) fa_122_0 ((s 4 rfl).trans rfl) rfl (nO rfl rfl Z)) (opsS_cons (fun f w_ _ _ _ _ p Z=>L_ld (v:=I x_8.coef) (g_yes rfl (Eq.trans (p 9 26 rfl rfl) (congrArg Value.bool hc57)) rfl) Tryz.isAgg3 (p 10 27 rfl rfl) (At.cell0 (Blk.at (Star.blkAt 0 Z rfl)) (j:=0) rfl) (nO rfl rfl Z)) (opsS_cons (fun f w_ _ _ _ _ p Z=>L_gtr (g_yes rfl (Eq.trans (p 9 26 rfl rfl) (congrArg Value.bool hc57)) rfl) (p 11 28 rfl rfl) rfl (nO rfl rfl Z)) (opsS_cons (fun f w_ _ _ _ _ p Z=>pkT (v:=Bo (((!x29) || (decide (x_8.coef < 1))) || (decide (x_8.coef > 1000)))) (p 9 26 rfl rfl) hc57 rfl (or_f hc57 (p 12 29 rfl rfl)) (nO rfl rfl Z)) (opsS_cons (fun f w_ _ _ _ _ p Z=>mF (p 13 30 rfl rfl) rfl (nO rfl rfl Z)) (opsS_cons (fun f w_ _ _ s _ p Z=>L_mv (v:=I i_5) (g_yes rfl (Eq.trans (p 14 31 rfl rfl) (congrArg Value.bool hc126)) rfl) ((s 3 rfl).trans sf3) (nO rfl rfl Z)) (opsS_cons (fun f w_ _ _ _ _ p Z=>L_gtr (g_yes rfl (Eq.trans (p 14 31 rfl rfl) (congrArg Value.bool hc126)) rfl) (p 15 32 rfl rfl) rfl (nO rfl rfl Z)) (opsS_cons (fun f w_ _ _ _ _ p Z=>L_mv (v:=Bo (decide ((i_5 : Int) > 0))) (g_yes rfl (Eq.trans (p 14 31 rfl rfl) (congrArg Value.bool hc126)) rfl) (p 16 33 rfl rfl) (nO rfl rfl Z)) (opsS_cons (fun f w_ _ _ s _ p Z=>L_fa (o':=0) (g_yes rfl (Eq.trans (p 17 34 rfl rfl) (congrArg Value.bool hc139)) rfl) fa_73_0 ((s 1 rfl).trans sf1) rfl (nO rfl rfl Z)) (opsS_cons (fun f w_ _ _ _ _ p Z=>L_ld (v:=v0_0) (g_yes rfl (Eq.trans (p 17 34 rfl rfl) (congrArg Value.bool hc139)) rfl) Tryz.isAgg71 (p 18 35 rfl rfl) (At.cell0 (Blk.at (Star.blkAt 1 Z rfl)) (j:=0) rfl) (nO rfl rfl Z)) (opsS_cons (fun f w_ _ _ s _ p Z=>L_mv (v:=I i_5) (g_yes rfl (Eq.trans (p 17 34 rfl rfl) (congrArg Value.bool hc139)) rfl) ((s 3 rfl).trans sf3) (nO rfl rfl Z)) (opsS_cons (fun f w_ _ _ _ _ p Z=>L_sub (g_yes rfl (Eq.trans (p 17 34 rfl rfl) (congrArg Value.bool hc139)) rfl) (p 20 37 rfl rfl) rfl (nO rfl rfl Z)) (opsS_cons ?_ ?_)))))))))))))))))))
 intro f w_ H52 X52 hS52 hE52 hP52 Z
 refine L_ix (r:=rTerm) (g_yes rfl (Eq.trans (hP52 17 34 rfl rfl) (congrArg Value.bool hc139)) rfl) Tryz.underlying71 Tryz.sizeOf122 (hP52 19 36 rfl rfl) (RP.mono _ h0_0 (Le.trans l7 hE52)) (hP52 21 38 rfl rfl) hx31 (fun g162 o163 cs_g162 hrk_hat164 hat164=>?_)
 obtain rfl:=rTerm_iff.1 hrk_hat164
 exact L_nil ⟨rfl,_,_,rfl,Le.refl _,fun _ _=>⟨_,_,_,rfl,hrk_hat164,hat164⟩,Z⟩
 refine opsS_cons ?_ ?_
 intro f w_ H52 X52 hS52 hE52 hP52 Z
 obtain ⟨g166,o166,cs166,hv166,hrk_hat166,hat166⟩:=(hP52 22 39 rfl rfl)
 obtain rfl:=rTerm_iff.1 hrk_hat166
 refine L_fa (o':=o166 + 1) (g_yes rfl (Eq.trans (hP52 17 34 rfl rfl) (congrArg Value.bool hc139)) rfl) fa_122_1 hv166 rfl (L_nil ⟨rfl,_,_,rfl,Le.refl _,fun _ _=>⟨_,_,_,rfl,hrk_hat166,hat166⟩,Z⟩)
 refine opsS_cons ?_ ?_
 intro f w_ H52 X52 hS52 hE52 hP52 Z
 obtain ⟨g168,o168,cs168,hv168,hrk_hat168,hat168⟩:=(hP52 23 40 rfl rfl)
 obtain rfl:=rTerm_iff.1 hrk_hat168
 refine L_ld (v:=I x31.lit) (g_yes rfl (Eq.trans (hP52 17 34 rfl rfl) (congrArg Value.bool hc139)) rfl) Tryz.isAgg3 hv168 (At.cell (AtH.at hat168 Z.sub) (j:=1) rfl) (L_nil ⟨rfl,_,_,rfl,Le.refl _,fun _ _=>rfl,Z⟩)
 refine opsS_cons ?_ ?_
 intro f w_ H52 X52 hS52 hE52 hP52 Z
 obtain ⟨H170b,l171,s172,z173,k174⟩:=Z.borrow
 refine L_call (g_yes rfl (Eq.trans (hP52 17 34 rfl rfl) (congrArg Value.bool hc139)) rfl) Tryz.call152 (ops1 (hP52 24 41 rfl rfl)) (s_l1Abs_c (n_:=x31.lit) s172 hx41) ?_
 rintro _ w175 ⟨rfl,Z⟩
 have Z:=k174 Z c0
 exact L_nil ⟨rfl,_,_,rfl,Le.refl _,fun _ _=>rfl,Z⟩
 refine opsS_cons (fun f w_ _ _ s _ p Z=>L_fa (o':=1) (g_yes rfl (Eq.trans (p 17 34 rfl rfl) (congrArg Value.bool hc139)) rfl) fa_122_1 ((s 4 rfl).trans rfl) rfl (nO rfl rfl Z)) (opsS_cons (fun f w_ _ _ _ _ p Z=>L_ld (v:=I x_8.lit) (g_yes rfl (Eq.trans (p 17 34 rfl rfl) (congrArg Value.bool hc139)) rfl) Tryz.isAgg3 (p 26 43 rfl rfl) (At.cell0 (Blk.at (Star.blkAt 0 Z rfl)) (j:=1) rfl) (nO rfl rfl Z)) (opsS_nil))
 obtain ⟨H176b,l177,s178,z179,k180⟩:=Z.borrow
 refine L_call (g_yes rfl (Eq.trans (hT52 17 34 rfl rfl) (congrArg Value.bool hc139)) rfl) Tryz.call152 (ops1 (hT52 27 44 rfl rfl)) (s_l1Abs_c (n_:=x_8.lit) s178 hx48) ?_
 rintro _ w181 ⟨rfl,Z⟩
 have Z:=k180 Z c0
 refine L_geq (g_yes rfl (Eq.trans (hT52 17 34 rfl rfl) (congrArg Value.bool hc139)) rfl) (hT52 25 42 rfl rfl) rfl (L_pick (v:=Bo b50) (g_yes rfl (Eq.trans (hT52 14 31 rfl rfl) (congrArg Value.bool hc126)) rfl) (Eq.trans (hT52 17 34 rfl rfl) (congrArg Value.bool hc139)) (congrArg Value.bool (so hb50)) (L_pick (v:=Bo b51) rfl (Eq.trans (hT52 14 31 rfl rfl) (congrArg Value.bool hc126)) (congrArg Value.bool (so hb51)) (nn ?_)))
 have Z:=Z.get 1 rfl
 exact rj hR55 ⟨H52,hE52,((hS52 1 rfl).trans sf1),((hS52 3 rfl).trans sf3),rfl,(Star.keepN 1 Z)⟩
 rw [ite_f hc139] at hb50
 refine W_drawS 28 [isV (Pq g21 1),isV (I x_8.lit),isV (Bo x29),isV (Bo (!x29)),isV (Bo (!x29)),isV (undef),isV (undef),isV (undef),isV (Bo ((!x29) || (decide (x_8.coef < 1)))),isV (Bo ((!x29) || (decide (x_8.coef < 1)))),isV (Pt g21),isV (I x_8.coef),isV (Bo (decide (x_8.coef > 1000))),isV (Bo (((!x29) || (decide (x_8.coef < 1))) || (decide (x_8.coef > 1000)))),isV (Bo (((!x29) || (decide (x_8.coef < 1))) || (decide (x_8.coef > 1000)))),isV (I i_5),isV (Bo (decide ((i_5 : Int) > 0))),isV (Bo (decide ((i_5 : Int) > 0))),isV (undef),isV (undef),isV (undef),isV (undef),isV (undef),isV (undef),isV (undef),isV (undef),isV (undef),isV (undef)] [box g21 122 #[I x_8.coef,I x_8.lit],box g3 73 #[v0_0,I c.bound]] [] ([]) [([],[]),([],[]),([],[]),([],[]),([],[]),([],[]),([],[]),([],[]),([],[]),([],[]),([],[]),([],[]),([],[]),([],[]),([],[]),([],[]),([],[]),([],[]),([],[]),([],[]),([],[]),([],[]),([],[]),([],[]),([],[]),([],[]),([],[]),([],[])] (S:=[]) Tryz_mix (by kernel_rfl) rfl (by kernel_rfl) (amF_cons (mono_V _) (amF_cons (mono_V _) (amF_cons (mono_V _) (amF_cons (mono_V _) (amF_cons (mono_V _) (amF_cons (mono_V _) (amF_cons (mono_V _) (amF_cons (mono_V _) (amF_cons (mono_V _) (amF_cons (mono_V _) (amF_cons (mono_V _) (amF_cons (mono_V _) (amF_cons (mono_V _) (amF_cons (mono_V _) (amF_cons (mono_V _) (amF_cons (mono_V _) (amF_cons (mono_V _) (amF_cons (mono_V _) (amF_cons (mono_V _) (amF_cons (mono_V _) (amF_cons (mono_V _) (amF_cons (mono_V _) (amF_cons (mono_V _) (amF_cons (mono_V _) (amF_cons (mono_V _) (amF_cons (mono_V _) (amF_cons (mono_V _) (amF_cons (mono_V _) amF_nil)))))))))))))))))))))))))))) Z ?_ (fun f w_ H52 hS52 hE52 hT52 Z=>?_)
 refine opsS_cons (fun f w_ _ _ s _ _ Z=>fA 1 fa_122_1 ((s 4 rfl).trans rfl) rfl (nO rfl rfl Z)) (opsS_cons (fun f w_ _ _ _ _ p Z=>ldB 0 Z Tryz.isAgg3 (p 0 17 rfl rfl) rfl rfl (nO rfl rfl Z)) (opsS_cons ?_ ?_))
 intro f w_ H52 X52 hS52 hE52 hP52 Z
 obtain ⟨H188b,l189,s190,z191,k192⟩:=Z.borrow
 refine L_call rfl Tryz.call151 (ops1 (hP52 1 18 rfl rfl)) (s_l1Lit_c (n_:=x_8.lit) s190 hx29) ?_
 rintro _ w193 ⟨rfl,Z⟩
 have Z:=k192 Z c0
 exact L_nil ⟨rfl,_,_,rfl,Le.refl _,fun _ _=>rfl,Z⟩
 refine opsS_cons (fun f w_ _ _ _ _ p Z=>L_not_ rfl (p 2 19 rfl rfl) (nO rfl rfl Z)) (opsS_cons (fun f w_ _ _ _ _ p Z=>mF (p 3 20 rfl rfl) rfl (nO rfl rfl Z)) (oP (fun _ _ p=>gN (p 4 21 rfl rfl) hc56 rfl) (fun _=>rfl) (oP (fun _ _ p=>gN (p 4 21 rfl rfl) hc56 rfl) (fun _=>rfl) (oP (fun _ _ p=>gN (p 4 21 rfl rfl) hc56 rfl) (fun _=>rfl) (opsS_cons (fun f w_ _ _ _ _ p Z=>pkT (v:=Bo ((!x29) || (decide (x_8.coef < 1)))) (p 4 21 rfl rfl) hc56 rfl (or_t hc56) (nO rfl rfl Z)) (opsS_cons (fun f w_ _ _ _ _ p Z=>mF (p 8 25 rfl rfl) rfl (nO rfl rfl Z)) (opsS_cons (fun f w_ _ _ s _ p Z=>L_fa (o':=0) (g_yes rfl (Eq.trans (p 9 26 rfl rfl) (congrArg Value.bool hc57)) rfl) fa_122_0 ((s 4 rfl).trans rfl) rfl (nO rfl rfl Z)) (opsS_cons (fun f w_ _ _ _ _ p Z=>L_ld (v:=I x_8.coef) (g_yes rfl (Eq.trans (p 9 26 rfl rfl) (congrArg Value.bool hc57)) rfl) Tryz.isAgg3 (p 10 27 rfl rfl) (At.cell0 (Blk.at (Star.blkAt 0 Z rfl)) (j:=0) rfl) (nO rfl rfl Z)) (opsS_cons (fun f w_ _ _ _ _ p Z=>L_gtr (g_yes rfl (Eq.trans (p 9 26 rfl rfl) (congrArg Value.bool hc57)) rfl) (p 11 28 rfl rfl) rfl (nO rfl rfl Z)) (opsS_cons (fun f w_ _ _ _ _ p Z=>pkT (v:=Bo (((!x29) || (decide (x_8.coef < 1))) || (decide (x_8.coef > 1000)))) (p 9 26 rfl rfl) hc57 rfl (or_f hc57 (p 12 29 rfl rfl)) (nO rfl rfl Z)) (opsS_cons (fun f w_ _ _ _ _ p Z=>mF (p 13 30 rfl rfl) rfl (nO rfl rfl Z)) (opsS_cons (fun f w_ _ _ s _ p Z=>L_mv (v:=I i_5) (g_yes rfl (Eq.trans (p 14 31 rfl rfl) (congrArg Value.bool hc126)) rfl) ((s 3 rfl).trans sf3) (nO rfl rfl Z)) (opsS_cons (fun f w_ _ _ _ _ p Z=>L_gtr (g_yes rfl (Eq.trans (p 14 31 rfl rfl) (congrArg Value.bool hc126)) rfl) (p 15 32 rfl rfl) rfl (nO rfl rfl Z)) (opsS_cons (fun f w_ _ _ _ _ p Z=>L_mv (v:=Bo (decide ((i_5 : Int) > 0))) (g_yes rfl (Eq.trans (p 14 31 rfl rfl) (congrArg Value.bool hc126)) rfl) (p 16 33 rfl rfl) (nO rfl rfl Z)) (oP (fun _ _ p=>gN (p 17 34 rfl rfl) hc139 rfl) (fun _=>rfl) (oP (fun _ _ p=>gN (p 17 34 rfl rfl) hc139 rfl) (fun _=>rfl) (oP (fun _ _ p=>gN (p 17 34 rfl rfl) hc139 rfl) (fun _=>rfl) (oP (fun _ _ p=>gN (p 17 34 rfl rfl) hc139 rfl) (fun _=>rfl) (oP (fun _ _ p=>gN (p 17 34 rfl rfl) hc139 rfl) (fun _=>rfl) (oP (fun _ _ p=>gN (p 17 34 rfl rfl) hc139 rfl) (fun _=>rfl) (oP (fun _ _ p=>gN (p 17 34 rfl rfl) hc139 rfl) (fun _=>rfl) (oP (fun _ _ p=>gN (p 17 34 rfl rfl) hc139 rfl) (fun _=>rfl) (oP (fun _ _ p=>gN (p 17 34 rfl rfl) hc139 rfl) (fun _=>rfl) (oP (fun _ _ p=>gN (p 17 34 rfl rfl) hc139 rfl) (fun _=>rfl) (opsS_nil)))))))))))))))))))))))))
 refine ps (g_no rfl (Eq.trans (hT52 17 34 rfl rfl) (congrArg Value.bool hc139)) rfl rfl) (ps (g_no rfl (Eq.trans (hT52 17 34 rfl rfl) (congrArg Value.bool hc139)) rfl rfl) (L_pick (v:=Bo b50) (g_yes rfl (Eq.trans (hT52 14 31 rfl rfl) (congrArg Value.bool hc126)) rfl) (Eq.trans (hT52 17 34 rfl rfl) (congrArg Value.bool hc139)) (congrArg Value.bool (so hb50)) (L_pick (v:=Bo b51) rfl (Eq.trans (hT52 14 31 rfl rfl) (congrArg Value.bool hc126)) (congrArg Value.bool (so hb51)) (nn ?_))))
 have Z:=Z.get 1 rfl
 exact rj hR55 ⟨H52,hE52,((hS52 1 rfl).trans sf1),((hS52 3 rfl).trans sf3),rfl,(Star.keepN 1 Z)⟩
 rcases Bool.eq_false_or_eq_true ((!x29) || (decide (x_8.coef < 1))) with hc194 | hc194
 rcases Bool.eq_false_or_eq_true (((!x29) || (decide (x_8.coef < 1))) || (decide (x_8.coef > 1000))) with hc195 | hc195
 rw [ite_t hc195] at hb51
 refine W_drawS 28 [isV (Pq g21 1),isV (I x_8.lit),isV (Bo x29),isV (Bo (!x29)),isV (Bo (!x29)),isV (Pt g21),isV (I x_8.coef),isV (Bo (decide (x_8.coef < 1))),isV (Bo ((!x29) || (decide (x_8.coef < 1)))),isV (Bo ((!x29) || (decide (x_8.coef < 1)))),isV (undef),isV (undef),isV (undef),isV (Bo (((!x29) || (decide (x_8.coef < 1))) || (decide (x_8.coef > 1000)))),isV (Bo (((!x29) || (decide (x_8.coef < 1))) || (decide (x_8.coef > 1000)))),isV (undef),isV (undef),isV (undef),isV (undef),isV (undef),isV (undef),isV (undef),isV (undef),isV (undef),isV (undef),isV (undef),isV (undef),isV (undef)] [box g21 122 #[I x_8.coef,I x_8.lit],box g3 73 #[v0_0,I c.bound]] [] ([]) [([],[]),([],[]),([],[]),([],[]),([],[]),([],[]),([],[]),([],[]),([],[]),([],[]),([],[]),([],[]),([],[]),([],[]),([],[]),([],[]),([],[]),([],[]),([],[]),([],[]),([],[]),([],[]),([],[]),([],[]),([],[]),([],[]),([],[]),([],[])] (S:=[]) Tryz_mix (by kernel_rfl) rfl (by kernel_rfl) (amF_cons (mono_V _) (amF_cons (mono_V _) (amF_cons (mono_V _) (amF_cons (mono_V _) (amF_cons (mono_V _) (amF_cons (mono_V _) (amF_cons (mono_V _) (amF_cons (mono_V _) (amF_cons (mono_V _) (amF_cons (mono_V _) (amF_cons (mono_V _) (amF_cons (mono_V _) (amF_cons (mono_V _) (amF_cons (mono_V _) (amF_cons (mono_V _) (amF_cons (mono_V _) (amF_cons (mono_V _) (amF_cons (mono_V _) (amF_cons (mono_V _) (amF_cons (mono_V _) (amF_cons (mono_V _) (amF_cons (mono_V _) (amF_cons (mono_V _) (amF_cons (mono_V _) (amF_cons (mono_V _) (amF_cons (mono_V _) (amF_cons (mono_V _) (amF_cons (mono_V _) amF_nil)))))))))))))))))))))))))))) Z ?_ (fun f w_ H52 hS52 hE52 hT52 Z=>?_)
 refine opsS_cons (fun f w_ _ _ s _ _ Z=>fA 1 fa_122_1 ((s 4 rfl).trans rfl) rfl (nO rfl rfl Z)) (opsS_cons (fun f w_ _ _ _ _ p Z=>ldB 0 Z Tryz.isAgg3 (p 0 17 rfl rfl) rfl rfl (nO rfl rfl Z)) (opsS_cons ?_ ?_))
 intro f w_ H52 X52 hS52 hE52 hP52 Z
 obtain ⟨H202b,l203,s204,z205,k206⟩:=Z.borrow
 refine L_call rfl Tryz.call151 (ops1 (hP52 1 18 rfl rfl)) (s_l1Lit_c (n_:=x_8.lit) s204 hx29) ?_
 rintro _ w207 ⟨rfl,Z⟩
 have Z:=k206 Z c0
 exact L_nil ⟨rfl,_,_,rfl,Le.refl _,fun _ _=>rfl,Z⟩
 refine opsS_cons (fun f w_ _ _ _ _ p Z=>L_not_ rfl (p 2 19 rfl rfl) (nO rfl rfl Z)) (opsS_cons (fun f w_ _ _ _ _ p Z=>mF (p 3 20 rfl rfl) rfl (nO rfl rfl Z)) (opsS_cons (fun f w_ _ _ s _ p Z=>L_fa (o':=0) (g_yes rfl (Eq.trans (p 4 21 rfl rfl) (congrArg Value.bool hc56)) rfl) fa_122_0 ((s 4 rfl).trans rfl) rfl (nO rfl rfl Z)) (opsS_cons (fun f w_ _ _ _ _ p Z=>L_ld (v:=I x_8.coef) (g_yes rfl (Eq.trans (p 4 21 rfl rfl) (congrArg Value.bool hc56)) rfl) Tryz.isAgg3 (p 5 22 rfl rfl) (At.cell0 (Blk.at (Star.blkAt 0 Z rfl)) (j:=0) rfl) (nO rfl rfl Z)) (opsS_cons (fun f w_ _ _ _ _ p Z=>L_lss (g_yes rfl (Eq.trans (p 4 21 rfl rfl) (congrArg Value.bool hc56)) rfl) (p 6 23 rfl rfl) rfl (nO rfl rfl Z)) (opsS_cons (fun f w_ _ _ _ _ p Z=>pkT (v:=Bo ((!x29) || (decide (x_8.coef < 1)))) (p 4 21 rfl rfl) hc56 rfl (or_f hc56 (p 7 24 rfl rfl)) (nO rfl rfl Z)) (opsS_cons (fun f w_ _ _ _ _ p Z=>mF (p 8 25 rfl rfl) rfl (nO rfl rfl Z)) (oP (fun _ _ p=>gN (p 9 26 rfl rfl) hc194 rfl) (fun _=>rfl) (oP (fun _ _ p=>gN (p 9 26 rfl rfl) hc194 rfl) (fun _=>rfl) (oP (fun _ _ p=>gN (p 9 26 rfl rfl) hc194 rfl) (fun _=>rfl) (opsS_cons (fun f w_ _ _ _ _ p Z=>pkT (v:=Bo (((!x29) || (decide (x_8.coef < 1))) || (decide (x_8.coef > 1000)))) (p 9 26 rfl rfl) hc194 rfl (or_t hc194) (nO rfl rfl Z)) (opsS_cons (fun f w_ _ _ _ _ p Z=>mF (p 13 30 rfl rfl) rfl (nO rfl rfl Z)) (oP (fun _ _ p=>gN (p 14 31 rfl rfl) hc195 rfl) (fun _=>rfl) (oP (fun _ _ p=>gN (p 14 31 rfl rfl) hc195 rfl) (fun _=>rfl) (oP (fun _ _ p=>gN (p 14 31 rfl rfl) hc195 rfl) (fun _=>rfl) (oP (fun _ _ p=>g_undef rfl (p 17 34 rfl rfl) rfl) (fun _=>rfl) (oP (fun _ _ p=>g_undef rfl (p 17 34 rfl rfl) rfl) (fun _=>rfl) (oP (fun _ _ p=>g_undef rfl (p 17 34 rfl rfl) rfl) (fun _=>rfl) (oP (fun _ _ p=>g_undef rfl (p 17 34 rfl rfl) rfl) (fun _=>rfl) (oP (fun _ _ p=>g_undef rfl (p 17 34 rfl rfl) rfl) (fun _=>rfl) (oP (fun _ _ p=>g_undef rfl (p 17 34 rfl rfl) rfl) (fun _=>rfl) (oP (fun _ _ p=>g_undef rfl (p 17 34 rfl rfl) rfl) (fun _=>rfl) (oP (fun _ _ p=>g_undef rfl (p 17 34 rfl rfl) rfl) (fun _=>rfl) (oP (fun _ _ p=>g_undef rfl (p 17 34 rfl rfl) rfl) (fun _=>rfl) (oP (fun _ _ p=>g_undef rfl (p 17 34 rfl rfl) rfl) (fun _=>rfl) (opsS_nil)))))))))))))))))))))))))
 refine ps (g_undef rfl (hT52 17 34 rfl rfl) rfl) (ps (g_undef rfl (hT52 17 34 rfl rfl) rfl) (ps (g_no rfl (Eq.trans (hT52 14 31 rfl rfl) (congrArg Value.bool hc195)) rfl rfl) (L_pick (v:=Bo b51) rfl (Eq.trans (hT52 14 31 rfl rfl) (congrArg Value.bool hc195)) (congrArg Value.bool (so hb51)) (nn ?_))))
 have Z:=Z.get 1 rfl
 exact rj hR55 ⟨H52,hE52,((hS52 1 rfl).trans sf1),((hS52 3 rfl).trans sf3),rfl,(Star.keepN 1 Z)⟩
 rw [ite_f hc195] at hb51
 obtain ⟨b50,hb50,hb51⟩:=bind_some hb51
 rcases Bool.eq_false_or_eq_true (decide ((i_5 : Int) > 0)) with hc208 | hc208
 rw [ite_t hc208] at hb50
 obtain ⟨x31,hx31,hb50⟩:=bind_some hb50
 obtain ⟨x41,hx41,hb50⟩:=bind_some hb50
 obtain ⟨x48,hx48,hb50⟩:=bind_some hb50
 refine W_drawS 28 [isV (Pq g21 1),isV (I x_8.lit),isV (Bo x29),isV (Bo (!x29)),isV (Bo (!x29)),isV (Pt g21),isV (I x_8.coef),isV (Bo (decide (x_8.coef < 1))),isV (Bo ((!x29) || (decide (x_8.coef < 1)))),isV (Bo ((!x29) || (decide (x_8.coef < 1)))),isV (undef),isV (undef),isV (undef),isV (Bo (((!x29) || (decide (x_8.coef < 1))) || (decide (x_8.coef > 1000)))),isV (Bo (((!x29) || (decide (x_8.coef < 1))) || (decide (x_8.coef > 1000)))),isV (I i_5),isV (Bo (decide ((i_5 : Int) > 0))),isV (Bo (decide ((i_5 : Int) > 0))),isV (Pt g3),isV (v0_0),isV (I i_5),isV (I (i64 ((i_5 : Int) - 1))),isEl rTerm x31 0,isEl rTerm x31 1,isV (I x31.lit),isV (I x41),isV (Pq g21 1),isV (I x_8.lit)] [box g21 122 #[I x_8.coef,I x_8.lit],box g3 73 #[v0_0,I c.bound]] [] ([]) [([],[]),([],[]),([],[]),([],[]),([],[]),([],[]),([],[]),([],[]),([],[]),([],[]),([],[]),([],[]),([],[]),([],[]),([],[]),([],[]),([],[]),([],[]),([],[]),([],[]),([],[]),([],[]),([],[]),([],[]),([],[]),([],[]),([],[]),([],[])] (S:=[]) Tryz_mix (by kernel_rfl) rfl (by kernel_rfl) (amF_cons (mono_V _) (amF_cons (mono_V _) (amF_cons (mono_V _) (amF_cons (mono_V _) (amF_cons (mono_V _) (amF_cons (mono_V _) (amF_cons (mono_V _) (amF_cons (mono_V _) (amF_cons (mono_V _) (amF_cons (mono_V _) (amF_cons (mono_V _) (amF_cons (mono_V _) (amF_cons (mono_V _) (amF_cons (mono_V _) (amF_cons (mono_V _) (amF_cons (mono_V _) (amF_cons (mono_V _) (amF_cons (mono_V _) (amF_cons (mono_V _) (amF_cons (mono_V _) (amF_cons (mono_V _) (amF_cons (mono_V _) (amF_cons (mono_el _ _ _) (amF_cons (mono_el _ _ _) (amF_cons (mono_V _) (amF_cons (mono_V _) (amF_cons (mono_V _) (amF_cons (mono_V _) amF_nil)))))))))))))))))))))))))))) Z ?_ (fun f w_ H52 hS52 hE52 hT52 Z=>?_)
 refine opsS_cons (fun f w_ _ _ s _ _ Z=>fA 1 fa_122_1 ((s 4 rfl).trans rfl) rfl (nO rfl rfl Z)) (opsS_cons (fun f w_ _ _ _ _ p Z=>ldB 0 Z Tryz.isAgg3 (p 0 17 rfl rfl) rfl rfl (nO rfl rfl Z)) (opsS_cons ?_ ?_))
 intro f w_ H52 X52 hS52 hE52 hP52 Z
 obtain ⟨H225b,l226,s227,z228,k229⟩:=Z.borrow
 refine L_call rfl Tryz.call151 (ops1 (hP52 1 18 rfl rfl)) (s_l1Lit_c (n_:=x_8.lit) s227 hx29) ?_
 rintro _ w230 ⟨rfl,Z⟩
 have Z:=k229 Z c0
 exact L_nil ⟨rfl,_,_,rfl,Le.refl _,fun _ _=>rfl,Z⟩
 refine opsS_cons (fun f w_ _ _ _ _ p Z=>L_not_ rfl (p 2 19 rfl rfl) (nO rfl rfl Z)) (opsS_cons (fun f w_ _ _ _ _ p Z=>mF (p 3 20 rfl rfl) rfl (nO rfl rfl Z)) (opsS_cons (fun f w_ _ _ s _ p Z=>L_fa (o':=0) (g_yes rfl (Eq.trans (p 4 21 rfl rfl) (congrArg Value.bool hc56)) rfl) fa_122_0 ((s 4 rfl).trans rfl) rfl (nO rfl rfl Z)) (opsS_cons (fun f w_ _ _ _ _ p Z=>L_ld (v:=I x_8.coef) (g_yes rfl (Eq.trans (p 4 21 rfl rfl) (congrArg Value.bool hc56)) rfl) Tryz.isAgg3 (p 5 22 rfl rfl) (At.cell0 (Blk.at (Star.blkAt 0 Z rfl)) (j:=0) rfl) (nO rfl rfl Z)) (opsS_cons (fun f w_ _ _ _ _ p Z=>L_lss (g_yes rfl (Eq.trans (p 4 21 rfl rfl) (congrArg Value.bool hc56)) rfl) (p 6 23 rfl rfl) rfl (nO rfl rfl Z)) (opsS_cons (fun f w_ _ _ _ _ p Z=>pkT (v:=Bo ((!x29) || (decide (x_8.coef < 1)))) (p 4 21 rfl rfl) hc56 rfl (or_f hc56 (p 7 24 rfl rfl)) (nO rfl rfl Z)) (opsS_cons (fun f w_ _ _ _ _ p Z=>mF (p 8 25 rfl rfl) rfl (nO rfl rfl Z)) (oP (fun _ _ p=>gN (p 9 26 rfl rfl) hc194 rfl) (fun _=>rfl) (oP (fun _ _ p=>gN (p 9 26 rfl rfl) hc194 rfl) (fun _=>rfl) (oP (fun _ _ p=>gN (p 9 26 rfl rfl) hc194 rfl) (fun _=>rfl) (opsS_cons (fun f w_ _ _ _ _ p Z=>pkT (v:=Bo (((!x29) || (decide (x_8.coef < 1))) || (decide (x_8.coef > 1000)))) (p 9 26 rfl rfl) hc194 rfl (or_t hc194) (nO rfl rfl Z)) (opsS_cons (fun f w_ _ _ _ _ p Z=>mF (p 13 30 rfl rfl) rfl (nO rfl rfl Z)) (opsS_cons (fun f w_ _ _ s _ p Z=>L_mv (v:=I i_5) (g_yes rfl (Eq.trans (p 14 31 rfl rfl) (congrArg Value.bool hc195)) rfl) ((s 3 rfl).trans sf3) (nO rfl rfl Z)) (opsS_cons (fun f w_ _ _ _ _ p Z=>L_gtr (g_yes rfl (Eq.trans (p 14 31 rfl rfl) (congrArg Value.bool hc195)) rfl) (p 15 32 rfl rfl) rfl (nO rfl rfl Z)) (opsS_cons (fun f w_ _ _ _ _ p Z=>L_mv (v:=Bo (decide ((i_5 : Int) > 0))) (g_yes rfl (Eq.trans (p 14 31 rfl rfl) (congrArg Value.bool hc195)) rfl) (p 16 33 rfl rfl) (nO rfl rfl Z)) (opsS_cons (fun f w_ _ _ s _ p Z=>L_fa (o':=0) (g_yes rfl (Eq.trans (p 17 34 rfl rfl) (congrArg Value.bool hc208)) rfl) fa_73_0 ((s 1 rfl).trans sf1) rfl (nO rfl rfl Z)) (opsS_cons (fun f w_ _ _ _ _ p Z=>L_ld (v:=v0_0) (g_yes rfl (Eq.trans (p 17 34 rfl rfl) (congrArg Value.bool hc208)) rfl) Tryz.isAgg71 (p 18 35 rfl rfl) (At.cell0 (Blk.at (Star.blkAt 1 Z rfl)) (j:=0) rfl) (nO rfl rfl Z)) (opsS_cons (fun f w_ _ _ s _ p Z=>L_mv (v:=I i_5) (g_yes rfl (Eq.trans (p 17 34 rfl rfl) (congrArg Value.bool hc208)) rfl) ((s 3 rfl).trans sf3) (nO rfl rfl Z)) (opsS_cons (fun f w_ _ _ _ _ p Z=>L_sub (g_yes rfl (Eq.trans (p 17 34 rfl rfl) (congrArg Value.bool hc208)) rfl) (p 20 37 rfl rfl) rfl (nO rfl rfl Z)) (opsS_cons ?_ ?_)))))))))))))))))))
 intro f w_ H52 X52 hS52 hE52 hP52 Z
 refine L_ix (r:=rTerm) (g_yes rfl (Eq.trans (hP52 17 34 rfl rfl) (congrArg Value.bool hc208)) rfl) Tryz.underlying71 Tryz.sizeOf122 (hP52 19 36 rfl rfl) (RP.mono _ h0_0 (Le.trans l7 hE52)) (hP52 21 38 rfl rfl) hx31 (fun g231 o232 cs_g231 hrk_hat233 hat233=>?_)
 obtain rfl:=rTerm_iff.1 hrk_hat233
 exact L_nil ⟨rfl,_,_,rfl,Le.refl _,fun _ _=>⟨_,_,_,rfl,hrk_hat233,hat233⟩,Z⟩
 refine opsS_cons ?_ ?_
 intro f w_ H52 X52 hS52 hE52 hP52 Z
 obtain ⟨g235,o235,cs235,hv235,hrk_hat235,hat235⟩:=(hP52 22 39 rfl rfl)
 obtain rfl:=rTerm_iff.1 hrk_hat235
 refine L_fa (o':=o235 + 1) (g_yes rfl (Eq.trans (hP52 17 34 rfl rfl) (congrArg Value.bool hc208)) rfl) fa_122_1 hv235 rfl (L_nil ⟨rfl,_,_,rfl,Le.refl _,fun _ _=>⟨_,_,_,rfl,hrk_hat235,hat235⟩,Z⟩)
 refine opsS_cons ?_ ?_
 intro f w_ H52 X52 hS52 hE52 hP52 Z
 obtain ⟨g237,o237,cs237,hv237,hrk_hat237,hat237⟩:=(hP52 23 40 rfl rfl)
 obtain rfl:=rTerm_iff.1 hrk_hat237
 refine L_ld (v:=I x31.lit) (g_yes rfl (Eq.trans (hP52 17 34 rfl rfl) (congrArg Value.bool hc208)) rfl) Tryz.isAgg3 hv237 (At.cell (AtH.at hat237 Z.sub) (j:=1) rfl) (L_nil ⟨rfl,_,_,rfl,Le.refl _,fun _ _=>rfl,Z⟩)
 refine opsS_cons ?_ ?_
 intro f w_ H52 X52 hS52 hE52 hP52 Z
 obtain ⟨H239b,l240,s241,z242,k243⟩:=Z.borrow
 refine L_call (g_yes rfl (Eq.trans (hP52 17 34 rfl rfl) (congrArg Value.bool hc208)) rfl) Tryz.call152 (ops1 (hP52 24 41 rfl rfl)) (s_l1Abs_c (n_:=x31.lit) s241 hx41) ?_
 rintro _ w244 ⟨rfl,Z⟩
 have Z:=k243 Z c0
 exact L_nil ⟨rfl,_,_,rfl,Le.refl _,fun _ _=>rfl,Z⟩
 refine opsS_cons (fun f w_ _ _ s _ p Z=>L_fa (o':=1) (g_yes rfl (Eq.trans (p 17 34 rfl rfl) (congrArg Value.bool hc208)) rfl) fa_122_1 ((s 4 rfl).trans rfl) rfl (nO rfl rfl Z)) (opsS_cons (fun f w_ _ _ _ _ p Z=>L_ld (v:=I x_8.lit) (g_yes rfl (Eq.trans (p 17 34 rfl rfl) (congrArg Value.bool hc208)) rfl) Tryz.isAgg3 (p 26 43 rfl rfl) (At.cell0 (Blk.at (Star.blkAt 0 Z rfl)) (j:=1) rfl) (nO rfl rfl Z)) (opsS_nil))
 obtain ⟨H245b,l246,s247,z248,k249⟩:=Z.borrow
 refine L_call (g_yes rfl (Eq.trans (hT52 17 34 rfl rfl) (congrArg Value.bool hc208)) rfl) Tryz.call152 (ops1 (hT52 27 44 rfl rfl)) (s_l1Abs_c (n_:=x_8.lit) s247 hx48) ?_
 rintro _ w250 ⟨rfl,Z⟩
 have Z:=k249 Z c0
 refine L_geq (g_yes rfl (Eq.trans (hT52 17 34 rfl rfl) (congrArg Value.bool hc208)) rfl) (hT52 25 42 rfl rfl) rfl (L_pick (v:=Bo b50) (g_yes rfl (Eq.trans (hT52 14 31 rfl rfl) (congrArg Value.bool hc195)) rfl) (Eq.trans (hT52 17 34 rfl rfl) (congrArg Value.bool hc208)) (congrArg Value.bool (so hb50)) (L_pick (v:=Bo b51) rfl (Eq.trans (hT52 14 31 rfl rfl) (congrArg Value.bool hc195)) (congrArg Value.bool (so hb51)) (nn ?_)))
 have Z:=Z.get 1 rfl
 exact rj hR55 ⟨H52,hE52,((hS52 1 rfl).trans sf1),((hS52 3 rfl).trans sf3),rfl,(Star.keepN 1 Z)⟩
 rw [ite_f hc208] at hb50
 refine W_drawS 28 [isV (Pq g21 1),isV (I x_8.lit),isV (Bo x29),isV (Bo (!x29)),isV (Bo (!x29)),isV (Pt g21),isV (I x_8.coef),isV (Bo (decide (x_8.coef < 1))),isV (Bo ((!x29) || (decide (x_8.coef < 1)))),isV (Bo ((!x29) || (decide (x_8.coef < 1)))),isV (undef),isV (undef),isV (undef),isV (Bo (((!x29) || (decide (x_8.coef < 1))) || (decide (x_8.coef > 1000)))),isV (Bo (((!x29) || (decide (x_8.coef < 1))) || (decide (x_8.coef > 1000)))),isV (I i_5),isV (Bo (decide ((i_5 : Int) > 0))),isV (Bo (decide ((i_5 : Int) > 0))),isV (undef),isV (undef),isV (undef),isV (undef),isV (undef),isV (undef),isV (undef),isV (undef),isV (undef),isV (undef)] [box g21 122 #[I x_8.coef,I x_8.lit],box g3 73 #[v0_0,I c.bound]] [] ([]) [([],[]),([],[]),([],[]),([],[]),([],[]),([],[]),([],[]),([],[]),([],[]),([],[]),([],[]),([],[]),([],[]),([],[]),([],[]),([],[]),([],[]),([],[]),([],[]),([],[]),([],[]),([],[]),([],[]),([],[]),([],[]),([],[]),([],[]),([],[])] (S:=[]) Tryz_mix (by kernel_rfl) rfl (by kernel_rfl) (amF_cons (mono_V _) (amF_cons (mono_V _) (amF_cons (mono_V _) (amF_cons (mono_V _) (amF_cons (mono_V _) (amF_cons (mono_V _) (amF_cons (mono_V _) (amF_cons (mono_V _) (amF_cons (mono_V _) (amF_cons (mono_V _) (amF_cons (mono_V _) (amF_cons (mono_V _) (amF_cons (mono_V _) (amF_cons (mono_V _) (amF_cons (mono_V _) (amF_cons (mono_V _) (amF_cons (mono_V _) (amF_cons (mono_V _) (amF_cons (mono_V _) (amF_cons (mono_V _) (amF_cons (mono_V _) (amF_cons (mono_V _) (amF_cons (mono_V _) (amF_cons (mono_V _) (amF_cons (mono_V _) (amF_cons (mono_V _) (amF_cons (mono_V _) (amF_cons (mono_V _) amF_nil)))))))))))))))))))))))))))) Z ?_ (fun f w_ H52 hS52 hE52 hT52 Z=>?_)
 refine opsS_cons (fun f w_ _ _ s _ _ Z=>fA 1 fa_122_1 ((s 4 rfl).trans rfl) rfl (nO rfl rfl Z)) (opsS_cons (fun f w_ _ _ _ _ p Z=>ldB 0 Z Tryz.isAgg3 (p 0 17 rfl rfl) rfl rfl (nO rfl rfl Z)) (opsS_cons ?_ ?_))
 intro f w_ H52 X52 hS52 hE52 hP52 Z
 obtain ⟨H257b,l258,s259,z260,k261⟩:=Z.borrow
 refine L_call rfl Tryz.call151 (ops1 (hP52 1 18 rfl rfl)) (s_l1Lit_c (n_:=x_8.lit) s259 hx29) ?_
 rintro _ w262 ⟨rfl,Z⟩
 have Z:=k261 Z c0
 exact L_nil ⟨rfl,_,_,rfl,Le.refl _,fun _ _=>rfl,Z⟩
 refine opsS_cons (fun f w_ _ _ _ _ p Z=>L_not_ rfl (p 2 19 rfl rfl) (nO rfl rfl Z)) (opsS_cons (fun f w_ _ _ _ _ p Z=>mF (p 3 20 rfl rfl) rfl (nO rfl rfl Z)) (opsS_cons (fun f w_ _ _ s _ p Z=>L_fa (o':=0) (g_yes rfl (Eq.trans (p 4 21 rfl rfl) (congrArg Value.bool hc56)) rfl) fa_122_0 ((s 4 rfl).trans rfl) rfl (nO rfl rfl Z)) (opsS_cons (fun f w_ _ _ _ _ p Z=>L_ld (v:=I x_8.coef) (g_yes rfl (Eq.trans (p 4 21 rfl rfl) (congrArg Value.bool hc56)) rfl) Tryz.isAgg3 (p 5 22 rfl rfl) (At.cell0 (Blk.at (Star.blkAt 0 Z rfl)) (j:=0) rfl) (nO rfl rfl Z)) (opsS_cons (fun f w_ _ _ _ _ p Z=>L_lss (g_yes rfl (Eq.trans (p 4 21 rfl rfl) (congrArg Value.bool hc56)) rfl) (p 6 23 rfl rfl) rfl (nO rfl rfl Z)) (opsS_cons (fun f w_ _ _ _ _ p Z=>pkT (v:=Bo ((!x29) || (decide (x_8.coef < 1)))) (p 4 21 rfl rfl) hc56 rfl (or_f hc56 (p 7 24 rfl rfl)) (nO rfl rfl Z)) (opsS_cons (fun f w_ _ _ _ _ p Z=>mF (p 8 25 rfl rfl) rfl (nO rfl rfl Z)) (oP (fun _ _ p=>gN (p 9 26 rfl rfl) hc194 rfl) (fun _=>rfl) (oP (fun _ _ p=>gN (p 9 26 rfl rfl) hc194 rfl) (fun _=>rfl) (oP (fun _ _ p=>gN (p 9 26 rfl rfl) hc194 rfl) (fun _=>rfl) (opsS_cons (fun f w_ _ _ _ _ p Z=>pkT (v:=Bo (((!x29) || (decide (x_8.coef < 1))) || (decide (x_8.coef > 1000)))) (p 9 26 rfl rfl) hc194 rfl (or_t hc194) (nO rfl rfl Z)) (opsS_cons (fun f w_ _ _ _ _ p Z=>mF (p 13 30 rfl rfl) rfl (nO rfl rfl Z)) (opsS_cons (fun f w_ _ _ s _ p Z=>L_mv (v:=I i_5) (g_yes rfl (Eq.trans (p 14 31 rfl rfl) (congrArg Value.bool hc195)) rfl) ((s 3 rfl).trans sf3) (nO rfl rfl Z)) (opsS_cons (fun f w_ _ _ _ _ p Z=>L_gtr (g_yes rfl (Eq.trans (p 14 31 rfl rfl) (congrArg Value.bool hc195)) rfl) (p 15 32 rfl rfl) rfl (nO rfl rfl Z)) (opsS_cons (fun f w_ _ _ _ _ p Z=>L_mv (v:=Bo (decide ((i_5 : Int) > 0))) (g_yes rfl (Eq.trans (p 14 31 rfl rfl) (congrArg Value.bool hc195)) rfl) (p 16 33 rfl rfl) (nO rfl rfl Z)) (oP (fun _ _ p=>gN (p 17 34 rfl rfl) hc208 rfl) (fun _=>rfl) (oP (fun _ _ p=>gN (p 17 34 rfl rfl) hc208 rfl) (fun _=>rfl) (oP (fun _ _ p=>gN (p 17 34 rfl rfl) hc208 rfl) (fun _=>rfl) (oP (fun _ _ p=>gN (p 17 34 rfl rfl) hc208 rfl) (fun _=>rfl) (oP (fun _ _ p=>gN (p 17 34 rfl rfl) hc208 rfl) (fun _=>rfl) (oP (fun _ _ p=>gN (p 17 34 rfl rfl) hc208 rfl) (fun _=>rfl) (oP (fun _ _ p=>gN (p 17 34 rfl rfl) hc208 rfl) (fun _=>rfl) (oP (fun _ _ p=>gN (p 17 34 rfl rfl) hc208 rfl) (fun _=>rfl) (oP (fun _ _ p=>gN (p 17 34 rfl rfl) hc208 rfl) (fun _=>rfl) (oP (fun _ _ p=>gN (p 17 34 rfl rfl) hc208 rfl) (fun _=>rfl) (opsS_nil)))))))))))))))))))))))))
 refine ps (g_no rfl (Eq.trans (hT52 17 34 rfl rfl) (congrArg Value.bool hc208)) rfl rfl) (ps (g_no rfl (Eq.trans (hT52 17 34 rfl rfl) (congrArg Value.bool hc208)) rfl rfl) (L_pick (v:=Bo b50) (g_yes rfl (Eq.trans (hT52 14 31 rfl rfl) (congrArg Value.bool hc195)) rfl) (Eq.trans (hT52 17 34 rfl rfl) (congrArg Value.bool hc208)) (congrArg Value.bool (so hb50)) (L_pick (v:=Bo b51) rfl (Eq.trans (hT52 14 31 rfl rfl) (congrArg Value.bool hc195)) (congrArg Value.bool (so hb51)) (nn ?_))))
 have Z:=Z.get 1 rfl
 exact rj hR55 ⟨H52,hE52,((hS52 1 rfl).trans sf1),((hS52 3 rfl).trans sf3),rfl,(Star.keepN 1 Z)⟩
 rcases Bool.eq_false_or_eq_true (((!x29) || (decide (x_8.coef < 1))) || (decide (x_8.coef > 1000))) with hc263 | hc263
 rw [ite_t hc263] at hb51
 refine W_drawS 28 [isV (Pq g21 1),isV (I x_8.lit),isV (Bo x29),isV (Bo (!x29)),isV (Bo (!x29)),isV (Pt g21),isV (I x_8.coef),isV (Bo (decide (x_8.coef < 1))),isV (Bo ((!x29) || (decide (x_8.coef < 1)))),isV (Bo ((!x29) || (decide (x_8.coef < 1)))),isV (Pt g21),isV (I x_8.coef),isV (Bo (decide (x_8.coef > 1000))),isV (Bo (((!x29) || (decide (x_8.coef < 1))) || (decide (x_8.coef > 1000)))),isV (Bo (((!x29) || (decide (x_8.coef < 1))) || (decide (x_8.coef > 1000)))),isV (undef),isV (undef),isV (undef),isV (undef),isV (undef),isV (undef),isV (undef),isV (undef),isV (undef),isV (undef),isV (undef),isV (undef),isV (undef)] [box g21 122 #[I x_8.coef,I x_8.lit],box g3 73 #[v0_0,I c.bound]] [] ([]) [([],[]),([],[]),([],[]),([],[]),([],[]),([],[]),([],[]),([],[]),([],[]),([],[]),([],[]),([],[]),([],[]),([],[]),([],[]),([],[]),([],[]),([],[]),([],[]),([],[]),([],[]),([],[]),([],[]),([],[]),([],[]),([],[]),([],[]),([],[])] (S:=[]) Tryz_mix (by kernel_rfl) rfl (by kernel_rfl) (amF_cons (mono_V _) (amF_cons (mono_V _) (amF_cons (mono_V _) (amF_cons (mono_V _) (amF_cons (mono_V _) (amF_cons (mono_V _) (amF_cons (mono_V _) (amF_cons (mono_V _) (amF_cons (mono_V _) (amF_cons (mono_V _) (amF_cons (mono_V _) (amF_cons (mono_V _) (amF_cons (mono_V _) (amF_cons (mono_V _) (amF_cons (mono_V _) (amF_cons (mono_V _) (amF_cons (mono_V _) (amF_cons (mono_V _) (amF_cons (mono_V _) (amF_cons (mono_V _) (amF_cons (mono_V _) (amF_cons (mono_V _) (amF_cons (mono_V _) (amF_cons (mono_V _) (amF_cons (mono_V _) (amF_cons (mono_V _) (amF_cons (mono_V _) (amF_cons (mono_V _) amF_nil)))))))))))))))))))))))))))) Z ?_ (fun f w_ H52 hS52 hE52 hT52 Z=>?_)
 refine opsS_cons (fun f w_ _ _ s _ _ Z=>fA 1 fa_122_1 ((s 4 rfl).trans rfl) rfl (nO rfl rfl Z)) (opsS_cons (fun f w_ _ _ _ _ p Z=>ldB 0 Z Tryz.isAgg3 (p 0 17 rfl rfl) rfl rfl (nO rfl rfl Z)) (opsS_cons ?_ ?_))
 intro f w_ H52 X52 hS52 hE52 hP52 Z
 obtain ⟨H270b,l271,s272,z273,k274⟩:=Z.borrow
 refine L_call rfl Tryz.call151 (ops1 (hP52 1 18 rfl rfl)) (s_l1Lit_c (n_:=x_8.lit) s272 hx29) ?_
 rintro _ w275 ⟨rfl,Z⟩
 have Z:=k274 Z c0
 exact L_nil ⟨rfl,_,_,rfl,Le.refl _,fun _ _=>rfl,Z⟩
 refine opsS_cons (fun f w_ _ _ _ _ p Z=>L_not_ rfl (p 2 19 rfl rfl) (nO rfl rfl Z)) (opsS_cons (fun f w_ _ _ _ _ p Z=>mF (p 3 20 rfl rfl) rfl (nO rfl rfl Z)) (opsS_cons (fun f w_ _ _ s _ p Z=>L_fa (o':=0) (g_yes rfl (Eq.trans (p 4 21 rfl rfl) (congrArg Value.bool hc56)) rfl) fa_122_0 ((s 4 rfl).trans rfl) rfl (nO rfl rfl Z)) (opsS_cons (fun f w_ _ _ _ _ p Z=>L_ld (v:=I x_8.coef) (g_yes rfl (Eq.trans (p 4 21 rfl rfl) (congrArg Value.bool hc56)) rfl) Tryz.isAgg3 (p 5 22 rfl rfl) (At.cell0 (Blk.at (Star.blkAt 0 Z rfl)) (j:=0) rfl) (nO rfl rfl Z)) (opsS_cons (fun f w_ _ _ _ _ p Z=>L_lss (g_yes rfl (Eq.trans (p 4 21 rfl rfl) (congrArg Value.bool hc56)) rfl) (p 6 23 rfl rfl) rfl (nO rfl rfl Z)) (opsS_cons (fun f w_ _ _ _ _ p Z=>pkT (v:=Bo ((!x29) || (decide (x_8.coef < 1)))) (p 4 21 rfl rfl) hc56 rfl (or_f hc56 (p 7 24 rfl rfl)) (nO rfl rfl Z)) (opsS_cons (fun f w_ _ _ _ _ p Z=>mF (p 8 25 rfl rfl) rfl (nO rfl rfl Z)) (opsS_cons (fun f w_ _ _ s _ p Z=>L_fa (o':=0) (g_yes rfl (Eq.trans (p 9 26 rfl rfl) (congrArg Value.bool hc194)) rfl) fa_122_0 ((s 4 rfl).trans rfl) rfl (nO rfl rfl Z)) (opsS_cons (fun f w_ _ _ _ _ p Z=>L_ld (v:=I x_8.coef) (g_yes rfl (Eq.trans (p 9 26 rfl rfl) (congrArg Value.bool hc194)) rfl) Tryz.isAgg3 (p 10 27 rfl rfl) (At.cell0 (Blk.at (Star.blkAt 0 Z rfl)) (j:=0) rfl) (nO rfl rfl Z)) (opsS_cons (fun f w_ _ _ _ _ p Z=>L_gtr (g_yes rfl (Eq.trans (p 9 26 rfl rfl) (congrArg Value.bool hc194)) rfl) (p 11 28 rfl rfl) rfl (nO rfl rfl Z)) (opsS_cons (fun f w_ _ _ _ _ p Z=>pkT (v:=Bo (((!x29) || (decide (x_8.coef < 1))) || (decide (x_8.coef > 1000)))) (p 9 26 rfl rfl) hc194 rfl (or_f hc194 (p 12 29 rfl rfl)) (nO rfl rfl Z)) (opsS_cons (fun f w_ _ _ _ _ p Z=>mF (p 13 30 rfl rfl) rfl (nO rfl rfl Z)) (oP (fun _ _ p=>gN (p 14 31 rfl rfl) hc263 rfl) (fun _=>rfl) (oP (fun _ _ p=>gN (p 14 31 rfl rfl) hc263 rfl) (fun _=>rfl) (oP (fun _ _ p=>gN (p 14 31 rfl rfl) hc263 rfl) (fun _=>rfl) (oP (fun _ _ p=>g_undef rfl (p 17 34 rfl rfl) rfl) (fun _=>rfl) (oP (fun _ _ p=>g_undef rfl (p 17 34 rfl rfl) rfl) (fun _=>rfl) (oP (fun _ _ p=>g_undef rfl (p 17 34 rfl rfl) rfl) (fun _=>rfl) (oP (fun _ _ p=>g_undef rfl (p 17 34 rfl rfl) rfl) (fun _=>rfl) (oP (fun _ _ p=>g_undef rfl (p 17 34 rfl rfl) rfl) (fun _=>rfl) (oP (fun _ _ p=>g_undef rfl (p 17 34 rfl rfl) rfl) (fun _=>rfl) (oP (fun _ _ p=>g_undef rfl (p 17 34 rfl rfl) rfl) (fun _=>rfl) (oP (fun _ _ p=>g_undef rfl (p 17 34 rfl rfl) rfl) (fun _=>rfl) (oP (fun _ _ p=>g_undef rfl (p 17 34 rfl rfl) rfl) (fun _=>rfl) (oP (fun _ _ p=>g_undef rfl (p 17 34 rfl rfl) rfl) (fun _=>rfl) (opsS_nil)))))))))))))))))))))))))
 refine ps (g_undef rfl (hT52 17 34 rfl rfl) rfl) (ps (g_undef rfl (hT52 17 34 rfl rfl) rfl) (ps (g_no rfl (Eq.trans (hT52 14 31 rfl rfl) (congrArg Value.bool hc263)) rfl rfl) (L_pick (v:=Bo b51) rfl (Eq.trans (hT52 14 31 rfl rfl) (congrArg Value.bool hc263)) (congrArg Value.bool (so hb51)) (nn ?_))))
 have Z:=Z.get 1 rfl
 exact rj hR55 ⟨H52,hE52,((hS52 1 rfl).trans sf1),((hS52 3 rfl).trans sf3),rfl,(Star.keepN 1 Z)⟩
 rw [ite_f hc263] at hb51
 obtain ⟨b50,hb50,hb51⟩:=bind_some hb51
 rcases Bool.eq_false_or_eq_true (decide ((i_5 : Int) > 0)) with hc276 | hc276
 rw [ite_t hc276] at hb50
 obtain ⟨x31,hx31,hb50⟩:=bind_some hb50
 obtain ⟨x41,hx41,hb50⟩:=bind_some hb50
 obtain ⟨x48,hx48,hb50⟩:=bind_some hb50
 refine W_drawS 28 [isV (Pq g21 1),isV (I x_8.lit),isV (Bo x29),isV (Bo (!x29)),isV (Bo (!x29)),isV (Pt g21),isV (I x_8.coef),isV (Bo (decide (x_8.coef < 1))),isV (Bo ((!x29) || (decide (x_8.coef < 1)))),isV (Bo ((!x29) || (decide (x_8.coef < 1)))),isV (Pt g21),isV (I x_8.coef),isV (Bo (decide (x_8.coef > 1000))),isV (Bo (((!x29) || (decide (x_8.coef < 1))) || (decide (x_8.coef > 1000)))),isV (Bo (((!x29) || (decide (x_8.coef < 1))) || (decide (x_8.coef > 1000)))),isV (I i_5),isV (Bo (decide ((i_5 : Int) > 0))),isV (Bo (decide ((i_5 : Int) > 0))),isV (Pt g3),isV (v0_0),isV (I i_5),isV (I (i64 ((i_5 : Int) - 1))),isEl rTerm x31 0,isEl rTerm x31 1,isV (I x31.lit),isV (I x41),isV (Pq g21 1),isV (I x_8.lit)] [box g21 122 #[I x_8.coef,I x_8.lit],box g3 73 #[v0_0,I c.bound]] [] ([]) [([],[]),([],[]),([],[]),([],[]),([],[]),([],[]),([],[]),([],[]),([],[]),([],[]),([],[]),([],[]),([],[]),([],[]),([],[]),([],[]),([],[]),([],[]),([],[]),([],[]),([],[]),([],[]),([],[]),([],[]),([],[]),([],[]),([],[]),([],[])] (S:=[]) Tryz_mix (by kernel_rfl) rfl (by kernel_rfl) (amF_cons (mono_V _) (amF_cons (mono_V _) (amF_cons (mono_V _) (amF_cons (mono_V _) (amF_cons (mono_V _) (amF_cons (mono_V _) (amF_cons (mono_V _) (amF_cons (mono_V _) (amF_cons (mono_V _) (amF_cons (mono_V _) (amF_cons (mono_V _) (amF_cons (mono_V _) (amF_cons (mono_V _) (amF_cons (mono_V _) (amF_cons (mono_V _) (amF_cons (mono_V _) (amF_cons (mono_V _) (amF_cons (mono_V _) (amF_cons (mono_V _) (amF_cons (mono_V _) (amF_cons (mono_V _) (amF_cons (mono_V _) (amF_cons (mono_el _ _ _) (amF_cons (mono_el _ _ _) (amF_cons (mono_V _) (amF_cons (mono_V _) (amF_cons (mono_V _) (amF_cons (mono_V _) amF_nil)))))))))))))))))))))))))))) Z ?_ (fun f w_ H52 hS52 hE52 hT52 Z=>?_)
 refine opsS_cons (fun f w_ _ _ s _ _ Z=>fA 1 fa_122_1 ((s 4 rfl).trans rfl) rfl (nO rfl rfl Z)) (opsS_cons (fun f w_ _ _ _ _ p Z=>ldB 0 Z Tryz.isAgg3 (p 0 17 rfl rfl) rfl rfl (nO rfl rfl Z)) (opsS_cons ?_ ?_))
 intro f w_ H52 X52 hS52 hE52 hP52 Z
 obtain ⟨H293b,l294,s295,z296,k297⟩:=Z.borrow
 refine L_call rfl Tryz.call151 (ops1 (hP52 1 18 rfl rfl)) (s_l1Lit_c (n_:=x_8.lit) s295 hx29) ?_
 rintro _ w298 ⟨rfl,Z⟩
 have Z:=k297 Z c0
 exact L_nil ⟨rfl,_,_,rfl,Le.refl _,fun _ _=>rfl,Z⟩
 refine opsS_cons (fun f w_ _ _ _ _ p Z=>L_not_ rfl (p 2 19 rfl rfl) (nO rfl rfl Z)) (opsS_cons (fun f w_ _ _ _ _ p Z=>mF (p 3 20 rfl rfl) rfl (nO rfl rfl Z)) (opsS_cons (fun f w_ _ _ s _ p Z=>L_fa (o':=0) (g_yes rfl (Eq.trans (p 4 21 rfl rfl) (congrArg Value.bool hc56)) rfl) fa_122_0 ((s 4 rfl).trans rfl) rfl (nO rfl rfl Z)) (opsS_cons (fun f w_ _ _ _ _ p Z=>L_ld (v:=I x_8.coef) (g_yes rfl (Eq.trans (p 4 21 rfl rfl) (congrArg Value.bool hc56)) rfl) Tryz.isAgg3 (p 5 22 rfl rfl) (At.cell0 (Blk.at (Star.blkAt 0 Z rfl)) (j:=0) rfl) (nO rfl rfl Z)) (opsS_cons (fun f w_ _ _ _ _ p Z=>L_lss (g_yes rfl (Eq.trans (p 4 21 rfl rfl) (congrArg Value.bool hc56)) rfl) (p 6 23 rfl rfl) rfl (nO rfl rfl Z)) (opsS_cons (fun f w_ _ _ _ _ p Z=>pkT (v:=Bo ((!x29) || (decide (x_8.coef < 1)))) (p 4 21 rfl rfl) hc56 rfl (or_f hc56 (p 7 24 rfl rfl)) (nO rfl rfl Z)) (opsS_cons (fun f w_ _ _ _ _ p Z=>mF (p 8 25 rfl rfl) rfl (nO rfl rfl Z)) (opsS_cons (fun f w_ _ _ s _ p Z=>L_fa (o':=0) (g_yes rfl (Eq.trans (p 9 26 rfl rfl) (congrArg Value.bool hc194)) rfl) fa_122_0 ((s 4 rfl).trans rfl) rfl (nO rfl rfl Z)) (opsS_cons (fun f w_ _ _ _ _ p Z=>L_ld (v:=I x_8.coef) (g_yes rfl (Eq.trans (p 9 26 rfl rfl) (congrArg Value.bool hc194)) rfl) Tryz.isAgg3 (p 10 27 rfl rfl) (At.cell0 (Blk.at (Star.blkAt 0 Z rfl)) (j:=0) rfl) (nO rfl rfl Z)) (opsS_cons (fun f w_ _ _ _ _ p Z=>L_gtr (g_yes rfl (Eq.trans (p 9 26 rfl rfl) (congrArg Value.bool hc194)) rfl) (p 11 28 rfl rfl) rfl (nO rfl rfl Z)) (opsS_cons (fun f w_ _ _ _ _ p Z=>pkT (v:=Bo (((!x29) || (decide (x_8.coef < 1))) || (decide (x_8.coef > 1000)))) (p 9 26 rfl rfl) hc194 rfl (or_f hc194 (p 12 29 rfl rfl)) (nO rfl rfl Z)) (opsS_cons (fun f w_ _ _ _ _ p Z=>mF (p 13 30 rfl rfl) rfl (nO rfl rfl Z)) (opsS_cons (fun f w_ _ _ s _ p Z=>L_mv (v:=I i_5) (g_yes rfl (Eq.trans (p 14 31 rfl rfl) (congrArg Value.bool hc263)) rfl) ((s 3 rfl).trans sf3) (nO rfl rfl Z)) (opsS_cons (fun f w_ _ _ _ _ p Z=>L_gtr (g_yes rfl (Eq.trans (p 14 31 rfl rfl) (congrArg Value.bool hc263)) rfl) (p 15 32 rfl rfl) rfl (nO rfl rfl Z)) (opsS_cons (fun f w_ _ _ _ _ p Z=>L_mv (v:=Bo (decide ((i_5 : Int) > 0))) (g_yes rfl (Eq.trans (p 14 31 rfl rfl) (congrArg Value.bool hc263)) rfl) (p 16 33 rfl rfl) (nO rfl rfl Z)) (opsS_cons (fun f w_ _ _ s _ p Z=>L_fa (o':=0) (g_yes rfl (Eq.trans (p 17 34 rfl rfl) (congrArg Value.bool hc276)) rfl) fa_73_0 ((s 1 rfl).trans sf1) rfl (nO rfl rfl Z)) (opsS_cons (fun f w_ _ _ _ _ p Z=>L_ld (v:=v0_0) (g_yes rfl (Eq.trans (p 17 34 rfl rfl) (congrArg Value.bool hc276)) rfl) Tryz.isAgg71 (p 18 35 rfl rfl) (At.cell0 (Blk.at (Star.blkAt 1 Z rfl)) (j:=0) rfl) (nO rfl rfl Z)) (opsS_cons (fun f w_ _ _ s _ p Z=>L_mv (v:=I i_5) (g_yes rfl (Eq.trans (p 17 34 rfl rfl) (congrArg Value.bool hc276)) rfl) ((s 3 rfl).trans sf3) (nO rfl rfl Z)) (opsS_cons (fun f w_ _ _ _ _ p Z=>L_sub (g_yes rfl (Eq.trans (p 17 34 rfl rfl) (congrArg Value.bool hc276)) rfl) (p 20 37 rfl rfl) rfl (nO rfl rfl Z)) (opsS_cons ?_ ?_)))))))))))))))))))
 intro f w_ H52 X52 hS52 hE52 hP52 Z
 refine L_ix (r:=rTerm) (g_yes rfl (Eq.trans (hP52 17 34 rfl rfl) (congrArg Value.bool hc276)) rfl) Tryz.underlying71 Tryz.sizeOf122 (hP52 19 36 rfl rfl) (RP.mono _ h0_0 (Le.trans l7 hE52)) (hP52 21 38 rfl rfl) hx31 (fun g299 o300 cs_g299 hrk_hat301 hat301=>?_)
 obtain rfl:=rTerm_iff.1 hrk_hat301
 exact L_nil ⟨rfl,_,_,rfl,Le.refl _,fun _ _=>⟨_,_,_,rfl,hrk_hat301,hat301⟩,Z⟩
 refine opsS_cons ?_ ?_
 intro f w_ H52 X52 hS52 hE52 hP52 Z
 obtain ⟨g303,o303,cs303,hv303,hrk_hat303,hat303⟩:=(hP52 22 39 rfl rfl)
 obtain rfl:=rTerm_iff.1 hrk_hat303
 refine L_fa (o':=o303 + 1) (g_yes rfl (Eq.trans (hP52 17 34 rfl rfl) (congrArg Value.bool hc276)) rfl) fa_122_1 hv303 rfl (L_nil ⟨rfl,_,_,rfl,Le.refl _,fun _ _=>⟨_,_,_,rfl,hrk_hat303,hat303⟩,Z⟩)
 refine opsS_cons ?_ ?_
 intro f w_ H52 X52 hS52 hE52 hP52 Z
 obtain ⟨g305,o305,cs305,hv305,hrk_hat305,hat305⟩:=(hP52 23 40 rfl rfl)
 obtain rfl:=rTerm_iff.1 hrk_hat305
 refine L_ld (v:=I x31.lit) (g_yes rfl (Eq.trans (hP52 17 34 rfl rfl) (congrArg Value.bool hc276)) rfl) Tryz.isAgg3 hv305 (At.cell (AtH.at hat305 Z.sub) (j:=1) rfl) (L_nil ⟨rfl,_,_,rfl,Le.refl _,fun _ _=>rfl,Z⟩)
 refine opsS_cons ?_ ?_
 intro f w_ H52 X52 hS52 hE52 hP52 Z
 obtain ⟨H307b,l308,s309,z310,k311⟩:=Z.borrow
 refine L_call (g_yes rfl (Eq.trans (hP52 17 34 rfl rfl) (congrArg Value.bool hc276)) rfl) Tryz.call152 (ops1 (hP52 24 41 rfl rfl)) (s_l1Abs_c (n_:=x31.lit) s309 hx41) ?_
 rintro _ w312 ⟨rfl,Z⟩
 have Z:=k311 Z c0
 exact L_nil ⟨rfl,_,_,rfl,Le.refl _,fun _ _=>rfl,Z⟩
 refine opsS_cons (fun f w_ _ _ s _ p Z=>L_fa (o':=1) (g_yes rfl (Eq.trans (p 17 34 rfl rfl) (congrArg Value.bool hc276)) rfl) fa_122_1 ((s 4 rfl).trans rfl) rfl (nO rfl rfl Z)) (opsS_cons (fun f w_ _ _ _ _ p Z=>L_ld (v:=I x_8.lit) (g_yes rfl (Eq.trans (p 17 34 rfl rfl) (congrArg Value.bool hc276)) rfl) Tryz.isAgg3 (p 26 43 rfl rfl) (At.cell0 (Blk.at (Star.blkAt 0 Z rfl)) (j:=1) rfl) (nO rfl rfl Z)) (opsS_nil))
 obtain ⟨H313b,l314,s315,z316,k317⟩:=Z.borrow
 refine L_call (g_yes rfl (Eq.trans (hT52 17 34 rfl rfl) (congrArg Value.bool hc276)) rfl) Tryz.call152 (ops1 (hT52 27 44 rfl rfl)) (s_l1Abs_c (n_:=x_8.lit) s315 hx48) ?_
 rintro _ w318 ⟨rfl,Z⟩
 have Z:=k317 Z c0
 refine L_geq (g_yes rfl (Eq.trans (hT52 17 34 rfl rfl) (congrArg Value.bool hc276)) rfl) (hT52 25 42 rfl rfl) rfl (L_pick (v:=Bo b50) (g_yes rfl (Eq.trans (hT52 14 31 rfl rfl) (congrArg Value.bool hc263)) rfl) (Eq.trans (hT52 17 34 rfl rfl) (congrArg Value.bool hc276)) (congrArg Value.bool (so hb50)) (L_pick (v:=Bo b51) rfl (Eq.trans (hT52 14 31 rfl rfl) (congrArg Value.bool hc263)) (congrArg Value.bool (so hb51)) (nn ?_)))
 have Z:=Z.get 1 rfl
 exact rj hR55 ⟨H52,hE52,((hS52 1 rfl).trans sf1),((hS52 3 rfl).trans sf3),rfl,(Star.keepN 1 Z)⟩
 rw [ite_f hc276] at hb50
 refine W_drawS 28 [isV (Pq g21 1),isV (I x_8.lit),isV (Bo x29),isV (Bo (!x29)),isV (Bo (!x29)),isV (Pt g21),isV (I x_8.coef),isV (Bo (decide (x_8.coef < 1))),isV (Bo ((!x29) || (decide (x_8.coef < 1)))),isV (Bo ((!x29) || (decide (x_8.coef < 1)))),isV (Pt g21),isV (I x_8.coef),isV (Bo (decide (x_8.coef > 1000))),isV (Bo (((!x29) || (decide (x_8.coef < 1))) || (decide (x_8.coef > 1000)))),isV (Bo (((!x29) || (decide (x_8.coef < 1))) || (decide (x_8.coef > 1000)))),isV (I i_5),isV (Bo (decide ((i_5 : Int) > 0))),isV (Bo (decide ((i_5 : Int) > 0))),isV (undef),isV (undef),isV (undef),isV (undef),isV (undef),isV (undef),isV (undef),isV (undef),isV (undef),isV (undef)] [box g21 122 #[I x_8.coef,I x_8.lit],box g3 73 #[v0_0,I c.bound]] [] ([]) [([],[]),([],[]),([],[]),([],[]),([],[]),([],[]),([],[]),([],[]),([],[]),([],[]),([],[]),([],[]),([],[]),([],[]),([],[]),([],[]),([],[]),([],[]),([],[]),([],[]),([],[]),([],[]),([],[]),([],[]),([],[]),([],[]),([],[]),([],[])] (S:=[]) Tryz_mix (by kernel_rfl) rfl (by kernel_rfl) (amF_cons (mono_V _) (amF_cons (mono_V _) (amF_cons (mono_V _) (amF_cons (mono_V _) (amF_cons (mono_V _) (amF_cons (mono_V _) (amF_cons (mono_V _) (amF_cons (mono_V _) (amF_cons (mono_V _) (amF_cons (mono_V _) (amF_cons (mono_V _) (amF_cons (mono_V _) (amF_cons (mono_V _) (amF_cons (mono_V _) (amF_cons (mono_V _) (amF_cons (mono_V _) (amF_cons (mono_V _) (amF_cons (mono_V _) (amF_cons (mono_V _) (amF_cons (mono_V _) (amF_cons (mono_V _) (amF_cons (mono_V _) (amF_cons (mono_V _) (amF_cons (mono_V _) (amF_cons (mono_V _) (amF_cons (mono_V _) (amF_cons (mono_V _) (amF_cons (mono_V _) amF_nil)))))))))))))))))))))))))))) Z ?_ (fun f w_ H52 hS52 hE52 hT52 Z=>?_)
 refine opsS_cons (fun f w_ _ _ s _ _ Z=>fA 1 fa_122_1 ((s 4 rfl).trans rfl) rfl (nO rfl rfl Z)) (opsS_cons (fun f w_ _ _ _ _ p Z=>ldB 0 Z Tryz.isAgg3 (p 0 17 rfl rfl) rfl rfl (nO rfl rfl Z)) (opsS_cons ?_ ?_))
 intro f w_ H52 X52 hS52 hE52 hP52 Z
 obtain ⟨H325b,l326,s327,z328,k329⟩:=Z.borrow
 refine L_call rfl Tryz.call151 (ops1 (hP52 1 18 rfl rfl)) (s_l1Lit_c (n_:=x_8.lit) s327 hx29) ?_
 rintro _ w330 ⟨rfl,Z⟩
 have Z:=k329 Z c0
 exact L_nil ⟨rfl,_,_,rfl,Le.refl _,fun _ _=>rfl,Z⟩
 refine opsS_cons (fun f w_ _ _ _ _ p Z=>L_not_ rfl (p 2 19 rfl rfl) (nO rfl rfl Z)) (opsS_cons (fun f w_ _ _ _ _ p Z=>mF (p 3 20 rfl rfl) rfl (nO rfl rfl Z)) (opsS_cons (fun f w_ _ _ s _ p Z=>L_fa (o':=0) (g_yes rfl (Eq.trans (p 4 21 rfl rfl) (congrArg Value.bool hc56)) rfl) fa_122_0 ((s 4 rfl).trans rfl) rfl (nO rfl rfl Z)) (opsS_cons (fun f w_ _ _ _ _ p Z=>L_ld (v:=I x_8.coef) (g_yes rfl (Eq.trans (p 4 21 rfl rfl) (congrArg Value.bool hc56)) rfl) Tryz.isAgg3 (p 5 22 rfl rfl) (At.cell0 (Blk.at (Star.blkAt 0 Z rfl)) (j:=0) rfl) (nO rfl rfl Z)) (opsS_cons (fun f w_ _ _ _ _ p Z=>L_lss (g_yes rfl (Eq.trans (p 4 21 rfl rfl) (congrArg Value.bool hc56)) rfl) (p 6 23 rfl rfl) rfl (nO rfl rfl Z)) (opsS_cons (fun f w_ _ _ _ _ p Z=>pkT (v:=Bo ((!x29) || (decide (x_8.coef < 1)))) (p 4 21 rfl rfl) hc56 rfl (or_f hc56 (p 7 24 rfl rfl)) (nO rfl rfl Z)) (opsS_cons (fun f w_ _ _ _ _ p Z=>mF (p 8 25 rfl rfl) rfl (nO rfl rfl Z)) (opsS_cons (fun f w_ _ _ s _ p Z=>L_fa (o':=0) (g_yes rfl (Eq.trans (p 9 26 rfl rfl) (congrArg Value.bool hc194)) rfl) fa_122_0 ((s 4 rfl).trans rfl) rfl (nO rfl rfl Z)) (opsS_cons (fun f w_ _ _ _ _ p Z=>L_ld (v:=I x_8.coef) (g_yes rfl (Eq.trans (p 9 26 rfl rfl) (congrArg Value.bool hc194)) rfl) Tryz.isAgg3 (p 10 27 rfl rfl) (At.cell0 (Blk.at (Star.blkAt 0 Z rfl)) (j:=0) rfl) (nO rfl rfl Z)) (opsS_cons (fun f w_ _ _ _ _ p Z=>L_gtr (g_yes rfl (Eq.trans (p 9 26 rfl rfl) (congrArg Value.bool hc194)) rfl) (p 11 28 rfl rfl) rfl (nO rfl rfl Z)) (opsS_cons (fun f w_ _ _ _ _ p Z=>pkT (v:=Bo (((!x29) || (decide (x_8.coef < 1))) || (decide (x_8.coef > 1000)))) (p 9 26 rfl rfl) hc194 rfl (or_f hc194 (p 12 29 rfl rfl)) (nO rfl rfl Z)) (opsS_cons (fun f w_ _ _ _ _ p Z=>mF (p 13 30 rfl rfl) rfl (nO rfl rfl Z)) (opsS_cons (fun f w_ _ _ s _ p Z=>L_mv (v:=I i_5) (g_yes rfl (Eq.trans (p 14 31 rfl rfl) (congrArg Value.bool hc263)) rfl) ((s 3 rfl).trans sf3) (nO rfl rfl Z)) (opsS_cons (fun f w_ _ _ _ _ p Z=>L_gtr (g_yes rfl (Eq.trans (p 14 31 rfl rfl) (congrArg Value.bool hc263)) rfl) (p 15 32 rfl rfl) rfl (nO rfl rfl Z)) (opsS_cons (fun f w_ _ _ _ _ p Z=>L_mv (v:=Bo (decide ((i_5 : Int) > 0))) (g_yes rfl (Eq.trans (p 14 31 rfl rfl) (congrArg Value.bool hc263)) rfl) (p 16 33 rfl rfl) (nO rfl rfl Z)) (oP (fun _ _ p=>gN (p 17 34 rfl rfl) hc276 rfl) (fun _=>rfl) (oP (fun _ _ p=>gN (p 17 34 rfl rfl) hc276 rfl) (fun _=>rfl) (oP (fun _ _ p=>gN (p 17 34 rfl rfl) hc276 rfl) (fun _=>rfl) (oP (fun _ _ p=>gN (p 17 34 rfl rfl) hc276 rfl) (fun _=>rfl) (oP (fun _ _ p=>gN (p 17 34 rfl rfl) hc276 rfl) (fun _=>rfl) (oP (fun _ _ p=>gN (p 17 34 rfl rfl) hc276 rfl) (fun _=>rfl) (oP (fun _ _ p=>gN (p 17 34 rfl rfl) hc276 rfl) (fun _=>rfl) (oP (fun _ _ p=>gN (p 17 34 rfl rfl) hc276 rfl) (fun _=>rfl) (oP (fun _ _ p=>gN (p 17 34 rfl rfl) hc276 rfl) (fun _=>rfl) (oP (fun _ _ p=>gN (p 17 34 rfl rfl) hc276 rfl) (fun _=>rfl) (opsS_nil)))))))))))))))))))))))))
 refine ps (g_no rfl (Eq.trans (hT52 17 34 rfl rfl) (congrArg Value.bool hc276)) rfl rfl) (ps (g_no rfl (Eq.trans (hT52 17 34 rfl rfl) (congrArg Value.bool hc276)) rfl rfl) (L_pick (v:=Bo b50) (g_yes rfl (Eq.trans (hT52 14 31 rfl rfl) (congrArg Value.bool hc263)) rfl) (Eq.trans (hT52 17 34 rfl rfl) (congrArg Value.bool hc276)) (congrArg Value.bool (so hb50)) (L_pick (v:=Bo b51) rfl (Eq.trans (hT52 14 31 rfl rfl) (congrArg Value.bool hc263)) (congrArg Value.bool (so hb51)) (nn ?_))))
 have Z:=Z.get 1 rfl
 exact rj hR55 ⟨H52,hE52,((hS52 1 rfl).trans sf1),((hS52 3 rfl).trans sf3),rfl,(Star.keepN 1 Z)⟩
 intro f w_ hR
 obtain ⟨H53,l54,sf1,sf3,sf48,Z⟩:=rk hR55 hR
 refine W_cond (b:=b51) sf48 (fun hc331=>?_) (fun hc331=>?_)
 have hB8:=(ite_t hc331).symm.trans hB8
 refine sq (aB rfl (nn (W_ret (retG1 (v1:=Bo false) Tryz.results189 rfl ?_))))
 obtain rfl:=so hB8
 obtain rfl:=so hL8
 obtain rfl:=so hF
 exact ⟨rfl,(Star.down (Star.keepN 0 Z) (Le.trans l7 l54) c0)⟩
 have hB8:=(ite_f hc331).symm.trans hB8
 refine W_skip (W_region (mF sf3 rfl (L_add rfl rfl rfl (aI rfl (nn ?_)))))
 obtain rfl:=so hB8
 show ∃ m,m < _∧I8 m _ _
 refine ⟨rest8.length,by simp,?_⟩
 exact ij hI8 ⟨i_5 + 1,rest8,H53,rfl,drop_next hd8,by simp at hl8; omega,hL8,(Le.trans l7 l54),sf1,(Eq.trans rfl (congrArg (Value.int .i64) (i64_succ (n:=c.terms.length) (by simp at hl8; omega) hlen8))),Z⟩
 rcases suf8 with _ | ⟨_,_⟩
 obtain rfl:=range_nil hL8
 refine W_exit (rj hR8 ⟨H6,rfl,l7,sf1,Z⟩)
 exact absurd (of_decide_eq_false hc9) (by simp at hl8; omega)
 intro f w_ hR
 obtain ⟨H6,rfl,l7,sf1,Z⟩:=rk hR8 hR
 refine W_seq ?_
 obtain ⟨R332,hR332⟩:=exR fun f w_=>f 2 = Bo ((decide (c.bound ≥ 0)) && (decide (c.bound≤20000)))∧Star H6 w_ ([])
 refine W_join R332 ?_ ?_
 refine W_region (fA 1 fa_73_1 sf1 rfl (ldB 0 Z Tryz.isAgg3 rfl rfl rfl (L_geq rfl rfl rfl (mB rfl (L_split (d:=52) (b:=decide (c.bound ≥ 0)) rfl (fun hc333=>?_) (fun hc333=>?_))))))
 refine fA 1 fa_73_1 sf1 rfl (ldB 0 Z Tryz.isAgg3 rfl rfl rfl (L_leq rfl rfl rfl (L_pick (v:=Bo ((decide (c.bound ≥ 0)) && (decide (c.bound≤20000)))) rfl rfl (and_t hc333 rfl) (aB rfl (nn (rj hR332 ⟨rfl,(Star.keepN 0 Z)⟩))))))
 refine ps rfl (ps rfl (ps rfl (L_pick (v:=Bo ((decide (c.bound ≥ 0)) && (decide (c.bound≤20000)))) rfl rfl (and_f hc333) (aB rfl (nn (rj hR332 ⟨rfl,(Star.keepN 0 Z)⟩))))))
 intro f w_ hR
 obtain ⟨sf2,Z⟩:=rk hR332 hR
 refine W_ret (retG1 (v1:=Bo ((decide (c.bound ≥ 0)) && (decide (c.bound≤20000)))) Tryz.results189 sf2 ?_)
 obtain rfl:=so hF
 exact ⟨rfl,(Star.down Z l7 c0)⟩
theorem s_l1Normal_c {net : List Int} {bound : Int} {v0 : Value} {H : FH} {w : World} (Z : Star H w []) (h0 : (rS 3 RP.int).rel H [v0] net) {r : Con × Bool} (hF : s_l1Normal net bound = some r) :
 C Tryz.prog 153 #[v0,I bound] w fun v w'=>∃ (u1 : Value),v = .tuple #[.agg #[u1,I r.1.bound],Bo r.2]∧Star H w' [oF 122 rTerm u1 r.1.terms]:=by
 unfold s_l1Normal at hF
 refine C_enter Tryz.func153 rfl Tryz.ntmps153 rfl (sq (L_al (cs:=#[S0,I 0]) rfl Tryz.zeroValue73 rfl Z (fun g3 w4 Z=>aB rfl (ns (L_bld rfl (parts0 ) (bld_73_  ) (L_al (cs:=#[S0,I 0]) rfl Tryz.zeroValue73 rfl Z (fun g8 w9 Z=>L_staB (vs:=#[S0,I 0]) (cs2:=#[S0,I 0]) 0 rfl Tryz.sizeOf73 rfl rfl rfl (ones_cons rfl (ones_cons rfl ones_nil)) Z rfl (by show 0 + 2≤2; decide) rfl (fun w10 Z=>nq (sq (aI rfl (nn ?_)))))))))))
 obtain ⟨k18,hk18,hF⟩:=bind_some hF
 obtain ⟨j17,hL17,hF⟩:=bind_some hF
 obtain ⟨R17,hR17⟩:=exR fun f w_=>∃ bound_12 : Int,∃ g8_0_13 : List Term,∃ H15 : FH,∃ v13_g8_0 : Value,j17 = .nx (bound_12,g8_0_13)∧Le H H15∧f 1 = I bound_12∧f 4 = Pt g3∧f 6 = Pt g8∧Star H15 w_ ([oF 122 rTerm v13_g8_0 g8_0_13,box g8 73 #[v13_g8_0,I 0],box g3 73 #[S0,I 0]])
 refine W_join R17 ?_ ?_
 refine W_block ?_
 obtain ⟨I17,hI17⟩:=exI fun n f w_=>∃ i_11 : Nat,∃ suf17 : Nat,∃ bound_12 : Int,∃ g8_0_13 : List Term,∃ H15 : FH,∃ v13_g8_0 : Value,suf17 = n∧1≤i_11∧i_11 + suf17 = 1 + k18∧countL (s_l1Normal_b1 net) suf17 i_11 (bound_12,g8_0_13) = some j17∧Le H H15∧f 0 = v0∧f 1 = I bound_12∧f 4 = Pt g3∧f 6 = Pt g8∧f 7 = I i_11∧Star H15 w_ ([oF 122 rTerm v13_g8_0 g8_0_13,box g8 73 #[v13_g8_0,I 0],box g3 73 #[S0,I 0]])
 have Z:=Star.addNil (R:=(OR.frz rTerm)) (e:=122) Z
 refine W_loop I17 (n:=k18) ?_ ?_
 exact ij hI17 ⟨1,k18,bound,[],H,S0,rfl,Nat.le_refl _,rfl,hL17,(Le.refl _),rfl,rfl,rfl,rfl,rfl,Z⟩
 intro n17 f w_ hI
 obtain ⟨i_11,suf17,bound_12,g8_0_13,H15,v13_g8_0,rfl,hs17,hl17,hL17,l16,sf0,sf1,sf4,sf6,sf7,Z⟩:=ik hI17 hI
 refine W_seq (sq (mF sf7 rfl (L_leq rfl rfl rfl (nn (W_cond (b:=decide ((i_11 : Int)≤12)) rfl (fun hc20=>?_) (fun hc20=>?_))))))
 have hlt17:=of_decide_eq_true hc20
 rcases suf17 with _ | rest17
 exact absurd hlt17 (cntF_noL hl17 hk18)
 obtain ⟨o17,hB17,hL17⟩:=count_succ hL17
 rw [s_l1Normal_b1] at hB17
 refine W_skip (W_seq (W_block (W_seq (W_seq ?_))))
 obtain ⟨x21,hx21,hB17⟩:=bind_some hB17
 refine W_region (mF sf0 rfl (mF sf7 rfl (L_ix (r:=RP.int) rfl Tryz.underlying23 Tryz.sizeOf3 rfl (RP.mono _ h0 l16) rfl hx21 (fun g26 o27 cs_g26 hrk_hat28 hat28=>?_))))
 obtain rfl : _ = [_]:=hrk_hat28
 refine L_ld rfl Tryz.isAgg3 rfl (At.cell (AtH.at hat28 Z.sub) (j:=0) rfl) (L_gtr rfl rfl rfl (nn ?_))
 obtain ⟨g8_0_30,hA34,hB17⟩:=bind_some hB17
 obtain ⟨R34,hR34⟩:=exR fun f w_=>∃ H32 : FH,∃ v30_g8_0 : Value,Le H15 H32∧f 0 = v0∧f 1 = I bound_12∧f 4 = Pt g3∧f 6 = Pt g8∧f 7 = I i_11∧Star H32 w_ ([oF 122 rTerm v30_g8_0 g8_0_30,box g8 73 #[v30_g8_0,I 0],box g3 73 #[S0,I 0]])
 refine W_join R34 ?_ ?_
 refine W_cond (b:=decide (x21 > 0)) rfl (fun hc35=>?_) (fun hc35=>?_)
 have hA34:=(ite_t hc35).symm.trans hA34
 obtain ⟨x43,hx43,hA34⟩:=bind_some hA34
 refine W_drawS 9 [isV (Pt g8),isV (v13_g8_0),isV (v0),isV (I i_11),isEl RP.int x21 0,isV (I x21),isV (I i_11),isV (.agg #[I x21,I i_11]),anyF] [oF 122 rTerm v13_g8_0 g8_0_13,box g8 73 #[v13_g8_0,I 0],box g3 73 #[S0,I 0]] [.made 8 26 (fun v_=>oF 122 rTerm v_ ([({ coef:=x21,lit:=(i_11 : Int) } : Term)])) none] ([]) [([],[]),([],[]),([],[]),([],[]),([],[]),([],[]),([],[]),([],[]),([],[0])] (S:=[(some 8,[26],none)]) Tryz_mix (by kernel_rfl) rfl (by kernel_rfl) (amF_cons (mono_V _) (amF_cons (mono_V _) (amF_cons (mono_V _) (amF_cons (mono_V _) (amF_cons (mono_el _ _ _) (amF_cons (mono_V _) (amF_cons (mono_V _) (amF_cons (mono_V _) (amF_cons (mono_any) amF_nil))))))))) Z ?_ (fun f w_ H48 hS48 hE48 hT48 Z=>?_)
 refine opsS_cons (fun f w_ _ _ s _ _ Z=>fA 0 fa_73_0 ((s 6 rfl).trans sf6) rfl (nO rfl rfl Z)) (opsS_cons (fun f w_ _ _ _ _ p Z=>ldB 1 Z Tryz.isAgg71 (p 0 18 rfl rfl) rfl rfl (nO rfl rfl Z)) (opsS_cons (fun f w_ _ _ s _ _ Z=>mF ((s 0 rfl).trans sf0) rfl (nO rfl rfl Z)) (opsS_cons (fun f w_ _ _ s _ _ Z=>mF ((s 7 rfl).trans sf7) rfl (nO rfl rfl Z)) (opsS_cons ?_ ?_))))
 intro f w_ H48 X48 hS48 hE48 hP48 Z
 refine L_ix (r:=RP.int) rfl Tryz.underlying23 Tryz.sizeOf3 (hP48 2 20 rfl rfl) (RP.mono _ h0 (Le.trans l16 hE48)) (hP48 3 21 rfl rfl) hx21 (fun g56 o57 cs_g56 hrk_hat58 hat58=>?_)
 obtain rfl : _ = [_]:=hrk_hat58
 exact L_nil ⟨rfl,_,_,rfl,Le.refl _,fun _ _=>⟨_,_,_,rfl,rfl,hat58⟩,Z⟩
 refine opsS_cons ?_ ?_
 intro f w_ H48 X48 hS48 hE48 hP48 Z
 obtain ⟨g60,o60,cs60,hv60,hrk_hat60,hat60⟩:=(hP48 4 22 rfl rfl)
 obtain rfl : _ = [_]:=hrk_hat60
 refine L_ld rfl Tryz.isAgg3 hv60 (At.cell (AtH.at hat60 Z.sub) (j:=0) rfl) (L_nil ⟨rfl,_,_,rfl,Le.refl _,fun _ _=>rfl,Z⟩)
 refine opsS_cons (fun f w_ _ _ s _ _ Z=>mF ((s 7 rfl).trans sf7) rfl (nO rfl rfl Z)) (opsS_cons (fun f w_ _ _ _ _ p Z=>L_bld rfl (parts2 (p 5 23 rfl rfl) (p 6 24 rfl rfl)) (bld_122_0_1 (I x21) (I i_11) rfl rfl) (nO rfl rfl Z)) (opsS_cons ?_ ?_))
 intro f w_ H48 X48 hS48 hE48 hP48 Z
 refine L_bs rfl (parts1 (hP48 7 25 rfl rfl)) (bs_71_1_2 (I x21) (I i_11) ) Z (fun g62 w63 Z=>?_)
 have Z:=Star.addF (r:=rTerm) (cs:=[I x21,I i_11]) (x:=({ coef:=x21,lit:=(i_11 : Int) } : Term)) Z (rTerm_iff.2 rfl)
 have Z:=Star.mkRow (R:=(OR.frz rTerm)) [([I x21,I i_11],({ coef:=x21,lit:=(i_11 : Int) } : Term))] [({ coef:=x21,lit:=(i_11 : Int) } : Term)] 1 Z rfl rfl rfl (by decide)
 have Z:=Z.gets [3,3,3] rfl
 exact L_nil ⟨rfl,_,_,rfl,Le.refl _,fun _ _=>trivial,Z⟩
 exact opsS_nil
 have Z : Star H48 w_ ([oF 122 rTerm v13_g8_0 g8_0_13,box g8 73 #[v13_g8_0,I 0],box g3 73 #[S0,I 0],oF 122 rTerm (f 26) ([({ coef:=x21,lit:=(i_11 : Int) } : Term)])]):=Z
 have Z:=Z.gets [3,1] rfl
 refine L_appM (v:=v13_g8_0) (u:=(f 26)) rfl et_71 (hT48 1 19 rfl rfl) rfl Z hx43 (fun v66 w67 Z=>fA 0 fa_73_0 ((hS48 6 rfl).trans sf6) rfl (L_stB (v:=v66) (cs2:=#[v66,I 0]) 1 rfl Tryz.sizeOf71 rfl rfl (one_len (Star.len 0 Z rfl)) Z rfl rfl rfl (fun w69 Z=>nn ?_)))
 obtain rfl:=so hA34
 have Z:=Z.gets [2,1,2] rfl
 exact rj hR34 ⟨H48,v66,hE48,((hS48 0 rfl).trans sf0),((hS48 1 rfl).trans sf1),((hS48 4 rfl).trans sf4),((hS48 6 rfl).trans sf6),((hS48 7 rfl).trans sf7),Z⟩
 have hA34:=(ite_f hc35).symm.trans hA34
 refine W_skip ?_
 obtain rfl:=so hA34
 exact rj hR34 ⟨H15,v13_g8_0,(Le.refl _),sf0,sf1,sf4,sf6,sf7,Z⟩
 intro f w_ hR
 obtain ⟨H32,v30_g8_0,l33,sf0,sf1,sf4,sf6,sf7,Z⟩:=rk hR34 hR
 refine sq (mF sf0 rfl (mF sf7 rfl (L_ix (r:=RP.int) rfl Tryz.underlying23 Tryz.sizeOf3 rfl (RP.mono _ h0 (Le.trans l16 l33)) rfl hx21 (fun g74 o75 cs_g74 hrk_hat76 hat76=>?_))))
 obtain rfl : _ = [_]:=hrk_hat76
 refine L_ld rfl Tryz.isAgg3 rfl (At.cell (AtH.at hat76 Z.sub) (j:=0) rfl) (L_lss rfl rfl rfl (nn ?_))
 obtain ⟨⟨bound_78,g8_0_79⟩,hA83,hB17⟩:=bind_some hB17
 obtain ⟨R83,hR83⟩:=exR fun f w_=>∃ H81 : FH,∃ v79_g8_0 : Value,Le H32 H81∧f 0 = v0∧f 1 = I bound_78∧f 4 = Pt g3∧f 6 = Pt g8∧f 7 = I i_11∧Star H81 w_ ([oF 122 rTerm v79_g8_0 g8_0_79,box g8 73 #[v79_g8_0,I 0],box g3 73 #[S0,I 0]])
 refine W_join R83 ?_ ?_
 refine W_cond (b:=decide (x21 < 0)) rfl (fun hc84=>?_) (fun hc84=>?_)
 have hA83:=(ite_t hc84).symm.trans hA83
 refine W_seq ?_
 obtain ⟨x92,hx92,hA83⟩:=bind_some hA83
 refine W_drawS 11 [isV (Pt g8),isV (v30_g8_0),isV (v0),isV (I i_11),isEl RP.int x21 0,isV (I x21),isV (I (i64 (-x21))),isV (I i_11),isV (I (i64 (-(i_11 : Int)))),isV (.agg #[I (i64 (-x21)),I (i64 (-(i_11 : Int)))]),anyF] [oF 122 rTerm v30_g8_0 g8_0_30,box g8 73 #[v30_g8_0,I 0],box g3 73 #[S0,I 0]] [.made 10 44 (fun v_=>oF 122 rTerm v_ ([({ coef:=i64 (-x21),lit:=i64 (-(i_11 : Int)) } : Term)])) none] ([]) [([],[]),([],[]),([],[]),([],[]),([],[]),([],[]),([],[]),([],[]),([],[]),([],[]),([],[0])] (S:=[(some 10,[44],none)]) Tryz_mix (by kernel_rfl) rfl (by kernel_rfl) (amF_cons (mono_V _) (amF_cons (mono_V _) (amF_cons (mono_V _) (amF_cons (mono_V _) (amF_cons (mono_el _ _ _) (amF_cons (mono_V _) (amF_cons (mono_V _) (amF_cons (mono_V _) (amF_cons (mono_V _) (amF_cons (mono_V _) (amF_cons (mono_any) amF_nil))))))))))) Z ?_ (fun f w_ H97 hS97 hE97 hT97 Z=>?_)
 refine opsS_cons (fun f w_ _ _ s _ _ Z=>fA 0 fa_73_0 ((s 6 rfl).trans sf6) rfl (nO rfl rfl Z)) (opsS_cons (fun f w_ _ _ _ _ p Z=>ldB 1 Z Tryz.isAgg71 (p 0 34 rfl rfl) rfl rfl (nO rfl rfl Z)) (opsS_cons (fun f w_ _ _ s _ _ Z=>mF ((s 0 rfl).trans sf0) rfl (nO rfl rfl Z)) (opsS_cons (fun f w_ _ _ s _ _ Z=>mF ((s 7 rfl).trans sf7) rfl (nO rfl rfl Z)) (opsS_cons ?_ ?_))))
 intro f w_ H97 X97 hS97 hE97 hP97 Z
 refine L_ix (r:=RP.int) rfl Tryz.underlying23 Tryz.sizeOf3 (hP97 2 36 rfl rfl) (RP.mono _ h0 (Le.trans (Le.trans l16 l33) hE97)) (hP97 3 37 rfl rfl) hx21 (fun g105 o106 cs_g105 hrk_hat107 hat107=>?_)
 obtain rfl : _ = [_]:=hrk_hat107
 exact L_nil ⟨rfl,_,_,rfl,Le.refl _,fun _ _=>⟨_,_,_,rfl,rfl,hat107⟩,Z⟩
 refine opsS_cons ?_ ?_
 intro f w_ H97 X97 hS97 hE97 hP97 Z
 obtain ⟨g109,o109,cs109,hv109,hrk_hat109,hat109⟩:=(hP97 4 38 rfl rfl)
 obtain rfl : _ = [_]:=hrk_hat109
 refine L_ld rfl Tryz.isAgg3 hv109 (At.cell (AtH.at hat109 Z.sub) (j:=0) rfl) (L_nil ⟨rfl,_,_,rfl,Le.refl _,fun _ _=>rfl,Z⟩)
 refine opsS_cons (fun f w_ _ _ _ _ p Z=>L_neg rfl (p 5 39 rfl rfl) (nO rfl rfl Z)) (opsS_cons (fun f w_ _ _ s _ _ Z=>mF ((s 7 rfl).trans sf7) rfl (nO rfl rfl Z)) (opsS_cons (fun f w_ _ _ _ _ p Z=>L_neg rfl (p 7 41 rfl rfl) (nO rfl rfl Z)) (opsS_cons (fun f w_ _ _ _ _ p Z=>L_bld rfl (parts2 (p 6 40 rfl rfl) (p 8 42 rfl rfl)) (bld_122_0_1 (I (i64 (-x21))) (I (i64 (-(i_11 : Int)))) rfl rfl) (nO rfl rfl Z)) (opsS_cons ?_ ?_))))
 intro f w_ H97 X97 hS97 hE97 hP97 Z
 refine L_bs rfl (parts1 (hP97 9 43 rfl rfl)) (bs_71_1_2 (I (i64 (-x21))) (I (i64 (-(i_11 : Int)))) ) Z (fun g111 w112 Z=>?_)
 have Z:=Star.addF (r:=rTerm) (cs:=[I (i64 (-x21)),I (i64 (-(i_11 : Int)))]) (x:=({ coef:=i64 (-x21),lit:=i64 (-(i_11 : Int)) } : Term)) Z (rTerm_iff.2 rfl)
 have Z:=Star.mkRow (R:=(OR.frz rTerm)) [([I (i64 (-x21)),I (i64 (-(i_11 : Int)))],({ coef:=i64 (-x21),lit:=i64 (-(i_11 : Int)) } : Term))] [({ coef:=i64 (-x21),lit:=i64 (-(i_11 : Int)) } : Term)] 1 Z rfl rfl rfl (by decide)
 have Z:=Z.gets [3,3,3] rfl
 exact L_nil ⟨rfl,_,_,rfl,Le.refl _,fun _ _=>trivial,Z⟩
 exact opsS_nil
 have Z : Star H97 w_ ([oF 122 rTerm v30_g8_0 g8_0_30,box g8 73 #[v30_g8_0,I 0],box g3 73 #[S0,I 0],oF 122 rTerm (f 44) ([({ coef:=i64 (-x21),lit:=i64 (-(i_11 : Int)) } : Term)])]):=Z
 have Z:=Z.gets [3,1] rfl
 refine L_appM (v:=v30_g8_0) (u:=(f 44)) rfl et_71 (hT97 1 35 rfl rfl) rfl Z hx92 (fun v115 w116 Z=>fA 0 fa_73_0 ((hS97 6 rfl).trans sf6) rfl (L_stB (v:=v115) (cs2:=#[v115,I 0]) 1 rfl Tryz.sizeOf71 rfl rfl (one_len (Star.len 0 Z rfl)) Z rfl rfl rfl (fun w118 Z=>nn (W_region (mF ((hS97 1 rfl).trans sf1) rfl (mF ((hS97 0 rfl).trans sf0) rfl (mF ((hS97 7 rfl).trans sf7) rfl (L_ix (r:=RP.int) rfl Tryz.underlying23 Tryz.sizeOf3 rfl (RP.mono _ h0 (Le.trans (Le.trans l16 l33) hE97)) rfl hx21 (fun g123 o124 cs_g123 hrk_hat125 hat125=>?_)))))))))
 obtain rfl : _ = [_]:=hrk_hat125
 refine L_ld rfl Tryz.isAgg3 rfl (At.cell (AtH.at hat125 Z.sub) (j:=0) rfl) (L_sub rfl rfl rfl (aI rfl (nn ?_)))
 obtain ⟨rfl,rfl⟩:=so2 hA83
 have Z:=Z.gets [2,1,2] rfl
 exact rj hR83 ⟨H97,v115,hE97,((hS97 0 rfl).trans sf0),rfl,((hS97 4 rfl).trans sf4),((hS97 6 rfl).trans sf6),((hS97 7 rfl).trans sf7),Z⟩
 have hA83:=(ite_f hc84).symm.trans hA83
 refine W_skip ?_
 obtain ⟨rfl,rfl⟩:=so2 hA83
 exact rj hR83 ⟨H32,v30_g8_0,(Le.refl _),sf0,sf1,sf4,sf6,sf7,Z⟩
 intro f w_ hR
 obtain ⟨H81,v79_g8_0,l82,sf0,sf1,sf4,sf6,sf7,Z⟩:=rk hR83 hR
 refine W_region (mF sf7 rfl (L_add rfl rfl rfl (aI rfl (nn ?_))))
 obtain rfl:=so hB17
 show ∃ m,m < _∧I17 m _ _
 refine ⟨rest17,Nat.lt_succ_self _,?_⟩
 exact ij hI17 ⟨i_11 + 1,rest17,bound_78,g8_0_79,H81,v79_g8_0,rfl,by omega,by omega,hL17,(Le.trans (Le.trans l16 l33) l82),sf0,sf1,sf4,sf6,(Eq.trans rfl (congrArg (Value.int .i64) (i64_succ (n:=1 + k18) (by omega) (cntF_le hk18)))),Z⟩
 rcases suf17 with _ | _
 obtain rfl:=count_zero hL17
 refine W_exit (rj hR17 ⟨bound_12,g8_0_13,H15,v13_g8_0,rfl,l16,sf1,sf4,sf6,Z⟩)
 exact absurd (cntF_yesL hs17 hl17 hk18) (of_decide_eq_false hc20)
 intro f w_ hR
 obtain ⟨bound_12,g8_0_13,H15,v13_g8_0,rfl,l16,sf1,sf4,sf6,Z⟩:=rk hR17 hR
 refine W_seq (sq (mF sf1 rfl (L_lss rfl rfl rfl (nn ?_))))
 obtain ⟨bound_127,hA128,hF⟩:=bind_some hF
 obtain ⟨R128,hR128⟩:=exR fun f w_=>f 1 = I bound_127∧f 4 = Pt g3∧f 6 = Pt g8∧Star H15 w_ ([oF 122 rTerm v13_g8_0 g8_0_13,box g8 73 #[v13_g8_0,I 0],box g3 73 #[S0,I 0]])
 refine W_join R128 ?_ ?_
 refine W_cond (b:=decide (bound_12 < 0)) rfl (fun hc129=>?_) (fun hc129=>?_)
 have hA128:=(ite_t hc129).symm.trans hA128
 refine W_region (aI rfl (nn ?_))
 obtain rfl:=so hA128
 exact rj hR128 ⟨rfl,sf4,sf6,Z⟩
 have hA128:=(ite_f hc129).symm.trans hA128
 refine W_skip ?_
 obtain rfl:=so hA128
 exact rj hR128 ⟨sf1,sf4,sf6,Z⟩
 intro f w_ hR
 obtain ⟨sf1,sf4,sf6,Z⟩:=rk hR128 hR
 refine sq (mF sf1 rfl (fA 1 fa_73_1 sf6 rfl (L_stB (v:=I bound_127) (cs2:=#[v13_g8_0,I bound_127]) 1 rfl Tryz.sizeOf3 rfl rfl rfl Z rfl rfl rfl (fun w131 Z=>L_nil (W_seq (W_seq ?_))))))
 obtain ⟨x138,hx138,hF⟩:=bind_some hF
 refine W_region (L_lda (cs:=[v13_g8_0,I bound_127]) rfl Tryz.isAgg73 Tryz.sizeOf73 sf6 (At.sub0 (Blk.at (Star.blkAt 0 Z rfl)) 0 2) rfl ?_)
 obtain ⟨H140b,l141,s142,z143,k144⟩:=Z.borrow
 have hb145 : (rS 122 rTerm).rel H140b [v13_g8_0] g8_0_13:=fz_own 1 z143 rfl
 refine L_call rfl Tryz.call189 (ops1 rfl) (s_ConstraintValid_c (c:=({ terms:=g8_0_13,bound:=bound_127 } : Con)) s142 hb145 hx138) ?_
 rintro _ w146 ⟨rfl,Z⟩
 have Z:=k144 Z c0
 refine L_not_ rfl rfl (nn (W_cond (b:=(!x138)) rfl (fun hc147=>?_) (fun hc147=>?_)))
 have hF:=(ite_t hc147).symm.trans hF
 refine sq (L_bld rfl (parts0 ) (bld_73_  ) (L_staB (vs:=#[S0,I 0]) (cs2:=#[S0,I 0]) 2 rfl Tryz.sizeOf73 sf4 rfl rfl (ones_cons rfl (ones_cons rfl ones_nil)) Z rfl (by show 0 + 2≤2; decide) rfl (fun w149 Z=>aB rfl (nn (W_ret (retG2 (v1:=.agg #[S0,I 0]) (v2:=Bo false) Tryz.results153 (resV_agg Tryz.isAgg73 Tryz.sizeOf73 sf4 (Star.blkAt 0 Z rfl) rfl) rfl ?_))))))
 obtain rfl:=so hF
 have Z:=Star.addNil (R:=(OR.frz rTerm)) (e:=122) Z
 exact ⟨S0,rfl,(Star.down (Star.keepN 1 Z) l16 (co closed_term c0))⟩
 have hF:=(ite_f hc147).symm.trans hF
 refine W_skip (sq (L_lda (cs:=[v13_g8_0,I bound_127]) rfl Tryz.isAgg73 Tryz.sizeOf73 sf6 (At.sub0 (Blk.at (Star.blkAt 0 Z rfl)) 0 2) rfl (L_staB (vs:=#[v13_g8_0,I bound_127]) (cs2:=#[v13_g8_0,I bound_127]) 2 rfl Tryz.sizeOf73 sf4 rfl rfl (ones_cons (one_len (Star.len 1 Z rfl)) (ones_cons rfl ones_nil)) Z rfl (by show 0 + 2≤2; decide) rfl (fun w152 Z=>aB rfl (nn (W_ret (retG2 (v1:=.agg #[v13_g8_0,I bound_127]) (v2:=Bo true) Tryz.results153 (resV_agg Tryz.isAgg73 Tryz.sizeOf73 sf4 (Star.blkAt 0 Z rfl) rfl) rfl ?_)))))))
 obtain rfl:=so hF
 have Z:=Z.get 2 rfl
 exact ⟨v13_g8_0,rfl,(Star.down (Star.keepN 1 Z) l16 (co closed_term c0))⟩
theorem s_l7Linear_c {fu : Nat} {m : Model} {r_ : Rule} {v0_0 : Value} {v0_1 : Value} {v1_1 : Value} {v1_2 : Value} {v1_4 : Value} {H : FH} {w : World} (Z : Star H w []) (h0_0 : (rS 3 RP.int).rel H [v0_0] m.sizes) (h0_1 : (rS 79 (rRule 3 23)).rel H [v0_1] m.rules) (h1_1 : (rS 3 RP.int).rel H [v1_1] r_.vars) (h1_2 : (rS 3 RP.int).rel H [v1_2] r_.coefs) (h1_4 : (rS 23 (rS 3 RP.int)).rel H [v1_4] r_.rows) {r : List Con} (hF : s_l7Linear fu m r_ = some r) :
 C Tryz.prog 109 #[.agg #[v0_0,v0_1],.agg #[I r_.kind,v1_1,v1_2,I r_.bound,v1_4]] w fun v w'=>∃ (u1 : Value),v = u1∧Star H w' [oS 73 (oCon 122) u1 r]:=by
 unfold s_l7Linear at hF
 refine C_enter Tryz.func109 rfl Tryz.ntmps109 rfl (sq (L_box (v:=.agg #[v0_0,v0_1]) (cs:=#[v0_0,v0_1]) rfl rfl rfl Z (fun g5 w6 Z=>L_box (v:=.agg #[I r_.kind,v1_1,v1_2,I r_.bound,v1_4]) (cs:=#[I r_.kind,v1_1,v1_2,I r_.bound,v1_4]) rfl rfl rfl Z (fun g7 w8 Z=>aV S0 rfl (nq ?_)))))
 obtain ⟨x9,hx9,hF⟩:=bind_some hF
 refine W_region (L_mk (R:=(OR.frz RP.int)) (z0:=0) (zc:=[I 0]) rfl et_23 (by kernel_rfl) (fun _ _=>⟨rfl,rfl⟩) rfl rfl hx9 Z (fun v13 w14 Z=>aV v13 rfl (nq (sq (aI rfl (nn ?_))))))
 have hlen20 : List.length r_.vars≤9223372036854775807:=len_le (slice_len h1_1)
 obtain ⟨j20,hL20,hF⟩:=bind_some hF
 obtain ⟨R20,hR20⟩:=exR fun f w_=>∃ net_17 : List Int,∃ H18 : FH,j20 = .nx net_17∧Le H H18∧f 3 = Pt g7∧f 5 = v13∧Star H18 w_ ([oF 3 RP.int v13 net_17,box g7 79 #[I r_.kind,v1_1,v1_2,I r_.bound,v1_4]])
 refine W_join R20 ?_ ?_
 refine W_block ?_
 obtain ⟨I20,hI20⟩:=exI fun n f w_=>∃ i_16 : Nat,∃ suf20 : List Int,∃ net_17 : List Int,∃ H18 : FH,n = suf20.length∧List.drop i_16 r_.vars = suf20∧i_16 + suf20.length = r_.vars.length∧rangeL (s_l7Linear_b1 fu m r_) suf20 i_16 net_17 = some j20∧Le H H18∧f 2 = Pt g5∧f 3 = Pt g7∧f 5 = v13∧f 6 = I i_16∧Star H18 w_ ([oF 3 RP.int v13 net_17,box g7 79 #[I r_.kind,v1_1,v1_2,I r_.bound,v1_4],box g5 26 #[v0_0,v0_1]])
 refine W_loop I20 (n:=r_.vars.length) ?_ ?_
 exact ij hI20 ⟨0,r_.vars,x9,H,rfl,rfl,Nat.zero_add _,hL20,(Le.refl _),rfl,rfl,rfl,rfl,Z⟩
 intro n20 f w_ hI
 obtain ⟨i_16,suf20,net_17,H18,rfl,hd20,hl20,hL20,l19,sf2,sf3,sf5,sf6,Z⟩:=ik hI20 hI
 refine W_seq (sq (mF sf6 rfl (fA 1 fa_79_1 sf3 rfl (ldB 1 Z Tryz.isAgg23 rfl rfl rfl (L_len rfl Tryz.underlying23 rfl (slice_len (RP.mono _ h1_1 l19)) (L_lss rfl rfl rfl (nn (W_cond (b:=decide ((i_16 : Int) < (r_.vars.length : Int))) rfl (fun hc21=>?_) (fun hc21=>?_)))))))))
 have hlt20:=of_decide_eq_true hc21
 rcases suf20 with _ | ⟨x_20,rest20⟩
 exact absurd hlt20 (by simp at hl20; omega)
 obtain ⟨o20,hB20,hL20⟩:=range_cons hL20
 rw [s_l7Linear_b1] at hB20
 have hix20:=drop_idx hd20
 refine W_skip (W_seq (W_block (sq (aI rfl (nn ?_)))))
 obtain ⟨j27,hL27,hB20⟩:=bind_some hB20
 obtain ⟨R27,hR27⟩:=exR fun f w_=>∃ net_23 : List Int,∃ k_24 : Int,∃ H25 : FH,j27 = .nx (net_23,k_24)∧Le H18 H25∧f 2 = Pt g5∧f 3 = Pt g7∧f 5 = v13∧f 6 = I i_16∧Star H25 w_ ([oF 3 RP.int v13 net_23,box g7 79 #[I r_.kind,v1_1,v1_2,I r_.bound,v1_4],box g5 26 #[v0_0,v0_1]])
 refine W_join R27 ?_ ?_
 refine W_block ?_
 obtain ⟨I27,hI27⟩:=exI fun n f w_=>∃ net_23 : List Int,∃ k_24 : Int,∃ H25 : FH,whileL (s_l7Linear_b2 m r_ i_16 x_20) n (net_23,k_24) = some j27∧Le H18 H25∧f 2 = Pt g5∧f 3 = Pt g7∧f 5 = v13∧f 6 = I i_16∧f 7 = I k_24∧Star H25 w_ ([oF 3 RP.int v13 net_23,box g7 79 #[I r_.kind,v1_1,v1_2,I r_.bound,v1_4],box g5 26 #[v0_0,v0_1]])
 refine W_loop I27 (n:=fu) ?_ ?_
 exact ij hI27 ⟨net_17,0,H18,hL27,(Le.refl _),sf2,sf3,sf5,sf6,rfl,Z⟩
 intro n27 f w_ hI
 obtain ⟨net_23,k_24,H25,hL27,l26,sf2,sf3,sf5,sf6,sf7,Z⟩:=ik hI27 hI
 rcases n27 with _ | n27
 exact (while_zero hL27).elim
 obtain ⟨o27,hB27,hL27⟩:=while_succ hL27
 rw [s_l7Linear_b2] at hB27
 refine W_seq (W_seq ?_)
 obtain ⟨x32,hx32,hB27⟩:=bind_some hB27
 refine W_drawS 10 [isV (I k_24),isV (Pt g5),isV (v0_0),isV (Pq g7 1),isV (v1_1),isV (I i_16),isEl RP.int x_20 0,isV (I x_20),isEl RP.int x32 0,isV (I x32)] [oF 3 RP.int v13 net_23,box g7 79 #[I r_.kind,v1_1,v1_2,I r_.bound,v1_4],box g5 26 #[v0_0,v0_1]] [] ([]) [([],[]),([],[]),([],[]),([],[]),([],[]),([],[]),([],[]),([],[]),([],[]),([],[])] (S:=[]) Tryz_mix (by kernel_rfl) rfl (by kernel_rfl) (amF_cons (mono_V _) (amF_cons (mono_V _) (amF_cons (mono_V _) (amF_cons (mono_V _) (amF_cons (mono_V _) (amF_cons (mono_V _) (amF_cons (mono_el _ _ _) (amF_cons (mono_V _) (amF_cons (mono_el _ _ _) (amF_cons (mono_V _) amF_nil)))))))))) Z ?_ (fun f w_ H37 hS37 hE37 hT37 Z=>?_)
 refine opsS_cons (fun f w_ _ _ s _ _ Z=>mF ((s 7 rfl).trans sf7) rfl (nO rfl rfl Z)) (opsS_cons (fun f w_ _ _ s _ _ Z=>fA 0 fa_26_0 ((s 2 rfl).trans sf2) rfl (nO rfl rfl Z)) (opsS_cons (fun f w_ _ _ _ _ p Z=>ldB 2 Z Tryz.isAgg23 (p 1 19 rfl rfl) rfl rfl (nO rfl rfl Z)) (opsS_cons (fun f w_ _ _ s _ _ Z=>fA 1 fa_79_1 ((s 3 rfl).trans sf3) rfl (nO rfl rfl Z)) (opsS_cons (fun f w_ _ _ _ _ p Z=>ldB 1 Z Tryz.isAgg23 (p 3 21 rfl rfl) rfl rfl (nO rfl rfl Z)) (opsS_cons (fun f w_ _ _ s _ _ Z=>mF ((s 6 rfl).trans sf6) rfl (nO rfl rfl Z)) (opsS_cons ?_ ?_))))))
 intro f w_ H37 X37 hS37 hE37 hP37 Z
 refine L_ix (r:=RP.int) rfl Tryz.underlying23 Tryz.sizeOf3 (hP37 4 22 rfl rfl) (RP.mono _ h1_1 (Le.trans (Le.trans l19 l26) hE37)) (hP37 5 23 rfl rfl) hix20 (fun g46 o47 cs_g46 hrk_hat48 hat48=>?_)
 obtain rfl : _ = [_]:=hrk_hat48
 exact L_nil ⟨rfl,_,_,rfl,Le.refl _,fun _ _=>⟨_,_,_,rfl,rfl,hat48⟩,Z⟩
 refine opsS_cons ?_ ?_
 intro f w_ H37 X37 hS37 hE37 hP37 Z
 obtain ⟨g50,o50,cs50,hv50,hrk_hat50,hat50⟩:=(hP37 6 24 rfl rfl)
 obtain rfl : _ = [_]:=hrk_hat50
 refine L_ld rfl Tryz.isAgg3 hv50 (At.cell (AtH.at hat50 Z.sub) (j:=0) rfl) (L_nil ⟨rfl,_,_,rfl,Le.refl _,fun _ _=>rfl,Z⟩)
 refine opsS_cons ?_ ?_
 intro f w_ H37 X37 hS37 hE37 hP37 Z
 refine L_ix (r:=RP.int) rfl Tryz.underlying23 Tryz.sizeOf3 (hP37 2 20 rfl rfl) (RP.mono _ h0_0 (Le.trans (Le.trans l19 l26) hE37)) (hP37 7 25 rfl rfl) hx32 (fun g52 o53 cs_g52 hrk_hat54 hat54=>?_)
 obtain rfl : _ = [_]:=hrk_hat54
 exact L_nil ⟨rfl,_,_,rfl,Le.refl _,fun _ _=>⟨_,_,_,rfl,rfl,hat54⟩,Z⟩
 refine opsS_cons ?_ ?_
 intro f w_ H37 X37 hS37 hE37 hP37 Z
 obtain ⟨g56,o56,cs56,hv56,hrk_hat56,hat56⟩:=(hP37 8 26 rfl rfl)
 obtain rfl : _ = [_]:=hrk_hat56
 refine L_ld rfl Tryz.isAgg3 hv56 (At.cell (AtH.at hat56 Z.sub) (j:=0) rfl) (L_nil ⟨rfl,_,_,rfl,Le.refl _,fun _ _=>rfl,Z⟩)
 exact opsS_nil
 refine L_leq rfl (hT37 0 18 rfl rfl) (hT37 9 27 rfl rfl) (nn (W_cond (b:=decide (k_24≤x32)) rfl (fun hc58=>?_) (fun hc58=>?_)))
 have hB27:=(ite_t hc58).symm.trans hB27
 refine W_skip (W_seq (W_block ?_))
 obtain ⟨x68,hx68,hB27⟩:=bind_some hB27
 obtain ⟨x70,hx70,hB27⟩:=bind_some hB27
 obtain ⟨x75,hx75,hB27⟩:=bind_some hB27
 refine W_drawS 16 [isV (v13),isV (.agg #[v0_0,v0_1]),isV (Pq g7 1),isV (v1_1),isV (I i_16),isEl RP.int x_20 0,isV (I x_20),isV (I k_24),isV (I x68),isV (Pq g7 2),isV (v1_2),isV (I i_16),isEl RP.int x70 0,isV (I x70),isV (I k_24),isV (I (i64 (x70 * k_24)))] [oF 3 RP.int v13 net_23,box g7 79 #[I r_.kind,v1_1,v1_2,I r_.bound,v1_4],box g5 26 #[v0_0,v0_1]] [] ([]) [([],[]),([],[]),([],[]),([],[]),([],[]),([],[]),([],[]),([],[]),([],[]),([],[]),([],[]),([],[]),([],[]),([],[]),([],[]),([],[])] (S:=[]) Tryz_mix (by kernel_rfl) rfl (by kernel_rfl) (amF_cons (mono_V _) (amF_cons (mono_V _) (amF_cons (mono_V _) (amF_cons (mono_V _) (amF_cons (mono_V _) (amF_cons (mono_el _ _ _) (amF_cons (mono_V _) (amF_cons (mono_V _) (amF_cons (mono_V _) (amF_cons (mono_V _) (amF_cons (mono_V _) (amF_cons (mono_V _) (amF_cons (mono_el _ _ _) (amF_cons (mono_V _) (amF_cons (mono_V _) (amF_cons (mono_V _) amF_nil)))))))))))))))) Z ?_ (fun f w_ H79 hS79 hE79 hT79 Z=>?_)
 refine opsS_cons (fun f w_ _ _ s _ _ Z=>mF ((s 5 rfl).trans ((hS37 5 rfl).trans sf5)) rfl (nO rfl rfl Z)) (opsS_cons (fun f w_ _ _ s _ _ Z=>L_lda (cs:=[v0_0,v0_1]) rfl Tryz.isAgg26 Tryz.sizeOf26 ((s 2 rfl).trans ((hS37 2 rfl).trans sf2)) (At.sub0 (Blk.at (Star.blkAt 2 Z rfl)) 0 2) rfl (nO rfl rfl Z)) (opsS_cons (fun f w_ _ _ s _ _ Z=>fA 1 fa_79_1 ((s 3 rfl).trans ((hS37 3 rfl).trans sf3)) rfl (nO rfl rfl Z)) (opsS_cons (fun f w_ _ _ _ _ p Z=>ldB 1 Z Tryz.isAgg23 (p 2 33 rfl rfl) rfl rfl (nO rfl rfl Z)) (opsS_cons (fun f w_ _ _ s _ _ Z=>mF ((s 6 rfl).trans ((hS37 6 rfl).trans sf6)) rfl (nO rfl rfl Z)) (opsS_cons ?_ ?_)))))
 intro f w_ H79 X79 hS79 hE79 hP79 Z
 refine L_ix (r:=RP.int) rfl Tryz.underlying23 Tryz.sizeOf3 (hP79 3 34 rfl rfl) (RP.mono _ h1_1 (Le.trans (Le.trans (Le.trans l19 l26) hE37) hE79)) (hP79 4 35 rfl rfl) hix20 (fun g94 o95 cs_g94 hrk_hat96 hat96=>?_)
 obtain rfl : _ = [_]:=hrk_hat96
 exact L_nil ⟨rfl,_,_,rfl,Le.refl _,fun _ _=>⟨_,_,_,rfl,rfl,hat96⟩,Z⟩
 refine opsS_cons ?_ ?_
 intro f w_ H79 X79 hS79 hE79 hP79 Z
 obtain ⟨g98,o98,cs98,hv98,hrk_hat98,hat98⟩:=(hP79 5 36 rfl rfl)
 obtain rfl : _ = [_]:=hrk_hat98
 refine L_ld rfl Tryz.isAgg3 hv98 (At.cell (AtH.at hat98 Z.sub) (j:=0) rfl) (L_nil ⟨rfl,_,_,rfl,Le.refl _,fun _ _=>rfl,Z⟩)
 refine opsS_cons (fun f w_ _ _ s _ _ Z=>mF ((s 7 rfl).trans ((hS37 7 rfl).trans sf7)) rfl (nO rfl rfl Z)) (opsS_cons ?_ ?_)
 intro f w_ H79 X79 hS79 hE79 hP79 Z
 obtain ⟨H100b,l101,s102,z103,k104⟩:=Z.borrow
 refine L_call rfl Tryz.call70 (ops3 (hP79 1 32 rfl rfl) (hP79 6 37 rfl rfl) (hP79 7 38 rfl rfl)) (s_l7Var_c (m:=m) (cell:=x_20) (value:=k_24) s102 (RP.mono _ h0_0 (Le.trans (Le.trans (Le.trans (Le.trans l19 l26) hE37) hE79) l101)) (RP.mono _ h0_1 (Le.trans (Le.trans (Le.trans (Le.trans l19 l26) hE37) hE79) l101)) hx68) ?_
 rintro _ w105 ⟨rfl,Z⟩
 have Z:=k104 Z c0
 exact L_nil ⟨rfl,_,_,rfl,Le.refl _,fun _ _=>rfl,Z⟩
 refine opsS_cons (fun f w_ _ _ s _ _ Z=>fA 2 fa_79_2 ((s 3 rfl).trans ((hS37 3 rfl).trans sf3)) rfl (nO rfl rfl Z)) (opsS_cons (fun f w_ _ _ _ _ p Z=>ldB 1 Z Tryz.isAgg23 (p 9 40 rfl rfl) rfl rfl (nO rfl rfl Z)) (opsS_cons (fun f w_ _ _ s _ _ Z=>mF ((s 6 rfl).trans ((hS37 6 rfl).trans sf6)) rfl (nO rfl rfl Z)) (opsS_cons ?_ ?_)))
 intro f w_ H79 X79 hS79 hE79 hP79 Z
 refine L_ix (r:=RP.int) rfl Tryz.underlying23 Tryz.sizeOf3 (hP79 10 41 rfl rfl) (RP.mono _ h1_2 (Le.trans (Le.trans (Le.trans l19 l26) hE37) hE79)) (hP79 11 42 rfl rfl) hx70 (fun g106 o107 cs_g106 hrk_hat108 hat108=>?_)
 obtain rfl : _ = [_]:=hrk_hat108
 exact L_nil ⟨rfl,_,_,rfl,Le.refl _,fun _ _=>⟨_,_,_,rfl,rfl,hat108⟩,Z⟩
 refine opsS_cons ?_ ?_
 intro f w_ H79 X79 hS79 hE79 hP79 Z
 obtain ⟨g110,o110,cs110,hv110,hrk_hat110,hat110⟩:=(hP79 12 43 rfl rfl)
 obtain rfl : _ = [_]:=hrk_hat110
 refine L_ld rfl Tryz.isAgg3 hv110 (At.cell (AtH.at hat110 Z.sub) (j:=0) rfl) (L_nil ⟨rfl,_,_,rfl,Le.refl _,fun _ _=>rfl,Z⟩)
 refine opsS_cons (fun f w_ _ _ s _ _ Z=>mF ((s 7 rfl).trans ((hS37 7 rfl).trans sf7)) rfl (nO rfl rfl Z)) (opsS_cons (fun f w_ _ _ _ _ p Z=>L_mul rfl (p 13 44 rfl rfl) (p 14 45 rfl rfl) (nO rfl rfl Z)) (opsS_nil))
 obtain ⟨g112,cap_g112,hv113,_,_⟩:=Star.row 0 Z rfl hx75
 refine L_ixO (R:=(OR.frz RP.int)) (tb:=0) 0 rfl Tryz.underlying23 Tryz.sizeOf3 (hT79 0 31 rfl rfl) hv113 (by first | rfl | simp) (hT79 8 39 rfl rfl) hx75 ?_
 have Z:=Star.addF (r:=RP.int) (cs:=[I (i64 (x70 * k_24))]) (x:=(i64 (x70 * k_24))) Z rfl
 refine L_stE1 (u:=I (i64 (x70 * k_24))) rfl Tryz.sizeOf3 rfl rfl (hT79 15 46 rfl rfl) hv113 Z hx75 (fun w114 Z=>?_)
 refine nn (W_region (mF ((hS79 7 rfl).trans ((hS37 7 rfl).trans sf7)) rfl (L_add rfl rfl rfl (aI rfl (nn ?_)))))
 obtain rfl:=so hB27
 show ∃ m,m < _∧I27 m _ _
 refine ⟨n27,Nat.lt_succ_self _,?_⟩
 exact ij hI27 ⟨(net_23.set (Int.toNat x68) (i64 (x70 * k_24))),i64 (k_24 + 1),H79,hL27,(Le.trans (Le.trans l26 hE37) hE79),((hS79 2 rfl).trans ((hS37 2 rfl).trans sf2)),((hS79 3 rfl).trans ((hS37 3 rfl).trans sf3)),((hS79 5 rfl).trans ((hS37 5 rfl).trans sf5)),((hS79 6 rfl).trans ((hS37 6 rfl).trans sf6)),rfl,Z⟩
 have hB27:=(ite_f hc58).symm.trans hB27
 refine W_exit ?_
 obtain rfl:=so hB27
 obtain rfl:=so hL27
 exact rj hR27 ⟨net_23,k_24,H37,rfl,(Le.trans l26 hE37),((hS37 2 rfl).trans sf2),((hS37 3 rfl).trans sf3),((hS37 5 rfl).trans sf5),((hS37 6 rfl).trans sf6),Z⟩
 intro f w_ hR
 obtain ⟨net_23,k_24,H25,rfl,l26,sf2,sf3,sf5,sf6,Z⟩:=rk hR27 hR
 refine W_region (mF sf6 rfl (L_add rfl rfl rfl (aI rfl (nn ?_))))
 obtain rfl:=so hB20
 show ∃ m,m < _∧I20 m _ _
 refine ⟨rest20.length,by simp,?_⟩
 exact ij hI20 ⟨i_16 + 1,rest20,net_23,H25,rfl,drop_next hd20,by simp at hl20; omega,hL20,(Le.trans l19 l26),sf2,sf3,sf5,(Eq.trans rfl (congrArg (Value.int .i64) (i64_succ (n:=r_.vars.length) (by simp at hl20; omega) hlen20))),Z⟩
 rcases suf20 with _ | ⟨_,_⟩
 obtain rfl:=range_nil hL20
 refine W_exit (rj hR20 ⟨net_17,H18,rfl,l19,sf3,sf5,(Star.keepN 2 Z)⟩)
 exact absurd (of_decide_eq_false hc21) (by simp at hl20; omega)
 intro f w_ hR
 obtain ⟨net_17,H18,rfl,l19,sf3,sf5,Z⟩:=rk hR20 hR
 refine W_seq ?_
 obtain ⟨x121,hx121,hF⟩:=bind_some hF
 refine W_region (mF sf5 rfl (fA 3 fa_79_3 sf3 rfl (ldB 1 Z Tryz.isAgg3 rfl rfl rfl ?_)))
 obtain ⟨H127b,l128,s129,z130,k131⟩:=Z.borrow
 have hb132 : (rS 3 RP.int).rel H127b [v13] net_17:=fz_own 0 z130 rfl
 refine L_call rfl Tryz.call153 (ops2 rfl rfl) (s_l1Normal_c (net:=net_17) (bound:=r_.bound) s129 hb132 hx121) ?_
 rintro _ w133 ⟨r133_0,rfl,Z⟩
 have Z:=k131 Z (co closed_term c0)
 refine mV (.tuple #[.agg #[r133_0,I x121.1.bound],Bo x121.2]) rfl (L_ex (v:=.agg #[r133_0,I x121.1.bound]) rfl rfl rfl (L_ex (v:=Bo x121.2) rfl rfl rfl (L_al (cs:=#[S0,I 0]) rfl Tryz.zeroValue73 rfl Z (fun g135 w136 Z=>L_staB (vs:=#[r133_0,I x121.1.bound]) (cs2:=#[r133_0,I x121.1.bound]) 0 rfl Tryz.sizeOf73 rfl rfl rfl (ones_cons (one_len (Star.len 1 Z rfl)) (ones_cons rfl ones_nil)) Z rfl (by show 0 + 2≤2; decide) rfl (fun w137 Z=>aB rfl (L_nil (sq (L_lda (cs:=[r133_0,I x121.1.bound]) rfl Tryz.isAgg73 Tryz.sizeOf73 rfl (At.sub0 (Blk.at (Star.blkAt 0 Z rfl)) 0 2) rfl (L_bs rfl (parts1 rfl) (bs_28_1_2 (r133_0) (I x121.1.bound) ) Z (fun g141 w142 Z=>?_))))))))))
 have Z:=Z.get 2 rfl
 have Z:=oCon_close (c:=x121.1) Z
 have Z:=Star.mkRow (R:=(oCon 122)) [([r133_0,I x121.1.bound],x121.1)] [x121.1] 1 Z rfl rfl rfl (by decide)
 refine aV (Sl g141 1 1) rfl (nn (W_ret (retG1 (v1:=(Sl g141 1 1)) Tryz.results109 rfl ?_)))
 obtain rfl:=so hF
 exact ⟨(Sl g141 1 1),rfl,(Star.down (Star.keepN 1 Z) l19 (co closed_oCon c0))⟩
theorem s_l7Sorted_c {fu : Nat} {list : List Int} {v0 : Value} {H : FH} {w : World} (Z : Star H w []) (h0 : (rS 3 RP.int).rel H [v0] list) {r : List Int} (hF : s_l7Sorted fu list = some r) :
 C Tryz.prog 154 #[v0] w fun v w'=>∃ (u1 : Value),v = u1∧Star H w' [oF 3 RP.int u1 r]:=by
 unfold s_l7Sorted at hF
 refine C_enter Tryz.func154 rfl Tryz.ntmps154 rfl (sq (aV S0 rfl (nq ?_)))
 obtain ⟨x4,hx4,hF⟩:=bind_some hF
 refine W_region (L_bs rfl parts0 (bs_23_0  ) Z (fun g8 w9 Z=>?_))
 have Z:=Star.mkRow (R:=(OR.frz RP.int)) [] [] 0 Z rfl rfl rfl (by decide)
 refine mV v0 rfl (L_app (v:=(Sl g8 0 0)) (u:=v0) rfl et_23 rfl rfl Z h0 hx4 (fun v11 w12 Z=>aV v11 rfl (nq (sq (aI rfl (nn ?_))))))
 obtain ⟨j23,hL23,hF⟩:=bind_some hF
 obtain ⟨R23,hR23⟩:=exR fun f w_=>∃ out_19 : List Int,∃ i_20 : Int,∃ H21 : FH,j23 = .nx (out_19,i_20)∧Le H H21∧f 3 = v11∧Star H21 w_ ([oF 3 RP.int v11 out_19])
 refine W_join R23 ?_ ?_
 refine W_block ?_
 obtain ⟨I23,hI23⟩:=exI fun n f w_=>∃ out_19 : List Int,∃ i_20 : Int,∃ H21 : FH,whileL (s_l7Sorted_b1 fu) n (out_19,i_20) = some j23∧Le H H21∧f 3 = v11∧f 4 = I i_20∧Star H21 w_ ([oF 3 RP.int v11 out_19])
 refine W_loop I23 (n:=fu) ?_ ?_
 exact ij hI23 ⟨x4,0,H,hL23,(Le.refl _),rfl,rfl,Z⟩
 intro n23 f w_ hI
 obtain ⟨out_19,i_20,H21,hL23,l22,sf3,sf4,Z⟩:=ik hI23 hI
 rcases n23 with _ | n23
 exact (while_zero hL23).elim
 obtain ⟨o23,hB23,hL23⟩:=while_succ hL23
 rw [s_l7Sorted_b1] at hB23
 refine W_seq (sq (mF sf4 rfl (mF sf3 rfl (L_len rfl Tryz.underlying23 rfl (Star.len 0 Z rfl) (L_lss rfl rfl rfl (nn (W_cond (b:=decide (i_20 < (out_19.length : Int))) rfl (fun hc24=>?_) (fun hc24=>?_))))))))
 have hB23:=(ite_t hc24).symm.trans hB23
 refine W_skip (W_seq (W_block (sq (mF sf4 rfl (aI rfl (nn ?_))))))
 obtain ⟨j30,hL30,hB23⟩:=bind_some hB23
 obtain ⟨R30,hR30⟩:=exR fun f w_=>∃ out_26 : List Int,∃ k_27 : Int,∃ H28 : FH,j30 = .nx (out_26,k_27)∧Le H21 H28∧f 3 = v11∧f 4 = I i_20∧Star H28 w_ ([oF 3 RP.int v11 out_26])
 refine W_join R30 ?_ ?_
 refine W_block ?_
 obtain ⟨I30,hI30⟩:=exI fun n f w_=>∃ out_26 : List Int,∃ k_27 : Int,∃ H28 : FH,whileL s_l7Sorted_b2 n (out_26,k_27) = some j30∧Le H21 H28∧f 3 = v11∧f 4 = I i_20∧f 5 = I k_27∧Star H28 w_ ([oF 3 RP.int v11 out_26])
 refine W_loop I30 (n:=fu) ?_ ?_
 exact ij hI30 ⟨out_19,i_20,H21,hL30,(Le.refl _),sf3,sf4,rfl,Z⟩
 intro n30 f w_ hI
 obtain ⟨out_26,k_27,H28,hL30,l29,sf3,sf4,sf5,Z⟩:=ik hI30 hI
 rcases n30 with _ | n30
 exact (while_zero hL30).elim
 obtain ⟨o30,hB30,hL30⟩:=while_succ hL30
 rw [s_l7Sorted_b2] at hB30
 refine W_seq (W_seq ?_)
 obtain ⟨b39,hb39,hB30⟩:=bind_some hB30
 obtain ⟨R43,hR43⟩:=exR fun f w_=>∃ H41 : FH,Le H28 H41∧f 3 = v11∧f 4 = I i_20∧f 5 = I k_27∧f 30 = Bo b39∧Star H41 w_ ([oF 3 RP.int v11 out_26])
 refine W_join R43 ?_ ?_
 rcases Bool.eq_false_or_eq_true (decide (k_27 > 0)) with hc44 | hc44
 rw [ite_t hc44] at hb39
 obtain ⟨x31,hx31,hb39⟩:=bind_some hb39
 obtain ⟨x36,hx36,hb39⟩:=bind_some hb39
 obtain ⟨g45,cap_g45,hv46,_,_⟩:=Star.row 0 Z rfl hx31
 refine W_drawS 12 [isV (I k_27),isV (Bo (decide (k_27 > 0))),isV (Bo (decide (k_27 > 0))),isV (v11),isV (I k_27),isV (.pointer (some ⟨g45,Int.toNat k_27 * 1,none⟩)),isV (I x31),isV (v11),isV (I k_27),isV (I (i64 (k_27 - 1))),isV (.pointer (some ⟨g45,Int.toNat (i64 (k_27 - 1)) * 1,none⟩)),isV (I x36)] [oF 3 RP.int v11 out_26] [] ([]) [([],[]),([],[]),([],[]),([],[]),([],[]),([],[]),([],[]),([],[]),([],[]),([],[]),([],[]),([],[])] (S:=[]) Tryz_mix (by kernel_rfl) rfl (by kernel_rfl) (amF_cons (mono_V _) (amF_cons (mono_V _) (amF_cons (mono_V _) (amF_cons (mono_V _) (amF_cons (mono_V _) (amF_cons (mono_V _) (amF_cons (mono_V _) (amF_cons (mono_V _) (amF_cons (mono_V _) (amF_cons (mono_V _) (amF_cons (mono_V _) (amF_cons (mono_V _) amF_nil)))))))))))) Z ?_ (fun f w_ H40 hS40 hE40 hT40 Z=>?_)
 refine opsS_cons (fun f w_ _ _ s _ _ Z=>mF ((s 5 rfl).trans sf5) rfl (nO rfl rfl Z)) (opsS_cons (fun f w_ _ _ _ _ p Z=>L_gtr rfl (p 0 17 rfl rfl) rfl (nO rfl rfl Z)) (opsS_cons (fun f w_ _ _ _ _ p Z=>mF (p 1 18 rfl rfl) rfl (nO rfl rfl Z)) (opsS_cons (fun f w_ _ _ s _ p Z=>L_mv (v:=v11) (g_yes rfl (Eq.trans (p 2 19 rfl rfl) (congrArg Value.bool hc44)) rfl) ((s 3 rfl).trans sf3) (nO rfl rfl Z)) (opsS_cons (fun f w_ _ _ s _ p Z=>L_mv (v:=I k_27) (g_yes rfl (Eq.trans (p 2 19 rfl rfl) (congrArg Value.bool hc44)) rfl) ((s 5 rfl).trans sf5) (nO rfl rfl Z)) (opsS_cons (fun f w_ _ _ _ _ p Z=>L_ixO (R:=(OR.frz RP.int)) (tb:=0) 0 (g_yes rfl (Eq.trans (p 2 19 rfl rfl) (congrArg Value.bool hc44)) rfl) Tryz.underlying23 Tryz.sizeOf3 (p 3 20 rfl rfl) hv46 (by first | rfl | simp) (p 4 21 rfl rfl) hx31 (nO rfl rfl Z)) (opsS_cons ?_ ?_))))))
 intro f w_ H40 X40 hS40 hE40 hP40 Z
 obtain ⟨cs51,hr51,hat51⟩:=Star.eltF 0 Z rfl hv46 hx31
 obtain rfl : _ = [_]:=hr51
 refine L_ld (v:=I x31) (g_yes rfl (Eq.trans (hP40 2 19 rfl rfl) (congrArg Value.bool hc44)) rfl) Tryz.isAgg3 (hP40 5 22 rfl rfl) (At.cell hat51 (j:=0) rfl) (L_nil ⟨rfl,_,_,rfl,Le.refl _,fun _ _=>rfl,Z⟩)
 refine opsS_cons (fun f w_ _ _ s _ p Z=>L_mv (v:=v11) (g_yes rfl (Eq.trans (p 2 19 rfl rfl) (congrArg Value.bool hc44)) rfl) ((s 3 rfl).trans sf3) (nO rfl rfl Z)) (opsS_cons (fun f w_ _ _ s _ p Z=>L_mv (v:=I k_27) (g_yes rfl (Eq.trans (p 2 19 rfl rfl) (congrArg Value.bool hc44)) rfl) ((s 5 rfl).trans sf5) (nO rfl rfl Z)) (opsS_cons (fun f w_ _ _ _ _ p Z=>L_sub (g_yes rfl (Eq.trans (p 2 19 rfl rfl) (congrArg Value.bool hc44)) rfl) (p 8 25 rfl rfl) rfl (nO rfl rfl Z)) (opsS_cons (fun f w_ _ _ _ _ p Z=>L_ixO (R:=(OR.frz RP.int)) (tb:=0) 0 (g_yes rfl (Eq.trans (p 2 19 rfl rfl) (congrArg Value.bool hc44)) rfl) Tryz.underlying23 Tryz.sizeOf3 (p 7 24 rfl rfl) hv46 (by first | rfl | simp) (p 9 26 rfl rfl) hx36 (nO rfl rfl Z)) (opsS_cons ?_ ?_))))
 intro f w_ H40 X40 hS40 hE40 hP40 Z
 obtain ⟨cs53,hr53,hat53⟩:=Star.eltF 0 Z rfl hv46 hx36
 obtain rfl : _ = [_]:=hr53
 refine L_ld (v:=I x36) (g_yes rfl (Eq.trans (hP40 2 19 rfl rfl) (congrArg Value.bool hc44)) rfl) Tryz.isAgg3 (hP40 10 27 rfl rfl) (At.cell hat53 (j:=0) rfl) (L_nil ⟨rfl,_,_,rfl,Le.refl _,fun _ _=>rfl,Z⟩)
 exact opsS_nil
 refine L_lss (g_yes rfl (Eq.trans (hT40 2 19 rfl rfl) (congrArg Value.bool hc44)) rfl) (hT40 6 23 rfl rfl) (hT40 11 28 rfl rfl) (L_pick (v:=Bo b39) rfl (Eq.trans (hT40 2 19 rfl rfl) (congrArg Value.bool hc44)) (congrArg Value.bool (so hb39)) (nn (rj hR43 ⟨H40,hE40,((hS40 3 rfl).trans sf3),((hS40 4 rfl).trans sf4),((hS40 5 rfl).trans sf5),rfl,Z⟩)))
 rw [ite_f hc44] at hb39
 refine W_drawS 12 [isV (I k_27),isV (Bo (decide (k_27 > 0))),isV (Bo (decide (k_27 > 0))),isV (undef),isV (undef),isV (undef),isV (undef),isV (undef),isV (undef),isV (undef),isV (undef),isV (undef)] [oF 3 RP.int v11 out_26] [] ([]) [([],[]),([],[]),([],[]),([],[]),([],[]),([],[]),([],[]),([],[]),([],[]),([],[]),([],[]),([],[])] (S:=[]) Tryz_mix (by kernel_rfl) rfl (by kernel_rfl) (amF_cons (mono_V _) (amF_cons (mono_V _) (amF_cons (mono_V _) (amF_cons (mono_V _) (amF_cons (mono_V _) (amF_cons (mono_V _) (amF_cons (mono_V _) (amF_cons (mono_V _) (amF_cons (mono_V _) (amF_cons (mono_V _) (amF_cons (mono_V _) (amF_cons (mono_V _) amF_nil)))))))))))) Z ?_ (fun f w_ H40 hS40 hE40 hT40 Z=>?_)
 refine opsS_cons (fun f w_ _ _ s _ _ Z=>mF ((s 5 rfl).trans sf5) rfl (nO rfl rfl Z)) (opsS_cons (fun f w_ _ _ _ _ p Z=>L_gtr rfl (p 0 17 rfl rfl) rfl (nO rfl rfl Z)) (opsS_cons (fun f w_ _ _ _ _ p Z=>mF (p 1 18 rfl rfl) rfl (nO rfl rfl Z)) (oP (fun _ _ p=>gN (p 2 19 rfl rfl) hc44 rfl) (fun _=>rfl) (oP (fun _ _ p=>gN (p 2 19 rfl rfl) hc44 rfl) (fun _=>rfl) (oP (fun _ _ p=>gN (p 2 19 rfl rfl) hc44 rfl) (fun _=>rfl) (oP (fun _ _ p=>gN (p 2 19 rfl rfl) hc44 rfl) (fun _=>rfl) (oP (fun _ _ p=>gN (p 2 19 rfl rfl) hc44 rfl) (fun _=>rfl) (oP (fun _ _ p=>gN (p 2 19 rfl rfl) hc44 rfl) (fun _=>rfl) (oP (fun _ _ p=>gN (p 2 19 rfl rfl) hc44 rfl) (fun _=>rfl) (oP (fun _ _ p=>gN (p 2 19 rfl rfl) hc44 rfl) (fun _=>rfl) (oP (fun _ _ p=>gN (p 2 19 rfl rfl) hc44 rfl) (fun _=>rfl) (opsS_nil))))))))))))
 refine ps (g_no rfl (Eq.trans (hT40 2 19 rfl rfl) (congrArg Value.bool hc44)) rfl rfl) (L_pick (v:=Bo b39) rfl (Eq.trans (hT40 2 19 rfl rfl) (congrArg Value.bool hc44)) (congrArg Value.bool (so hb39)) (nn (rj hR43 ⟨H40,hE40,((hS40 3 rfl).trans sf3),((hS40 4 rfl).trans sf4),((hS40 5 rfl).trans sf5),rfl,Z⟩)))
 intro f w_ hR
 obtain ⟨H41,l42,sf3,sf4,sf5,sf30,Z⟩:=rk hR43 hR
 refine W_cond (b:=b39) sf30 (fun hc55=>?_) (fun hc55=>?_)
 have hB30:=(ite_t hc55).symm.trans hB30
 refine W_skip (W_seq (W_block (W_seq ?_)))
 obtain ⟨x56,hx56,hB30⟩:=bind_some hB30
 refine W_region (mF sf3 rfl (mF sf5 rfl ?_))
 obtain ⟨g61,cap_g61,hv62,_,_⟩:=Star.row 0 Z rfl hx56
 refine L_ixO (R:=(OR.frz RP.int)) (tb:=0) 0 rfl Tryz.underlying23 Tryz.sizeOf3 rfl hv62 (by first | rfl | simp) rfl hx56 ?_
 obtain ⟨cs63,hr63,hat63⟩:=Star.eltF 0 Z rfl hv62 hx56
 obtain rfl : _ = [_]:=hr63
 refine L_ld rfl Tryz.isAgg3 rfl (At.cell hat63 (j:=0) rfl) (aI rfl (L_nil (W_seq ?_)))
 obtain ⟨x65,hx65,hB30⟩:=bind_some hB30
 refine W_region (mF sf3 rfl (mF sf5 rfl (mF sf3 rfl (mF sf5 rfl (L_sub rfl rfl rfl (L_ixO (R:=(OR.frz RP.int)) (tb:=0) 0 rfl Tryz.underlying23 Tryz.sizeOf3 rfl hv62 (by first | rfl | simp) rfl hx65 ?_))))))
 obtain ⟨cs69,hr69,hat69⟩:=Star.eltF 0 Z rfl hv62 hx65
 obtain rfl : _ = [_]:=hr69
 refine L_ld rfl Tryz.isAgg3 rfl (At.cell hat69 (j:=0) rfl) (L_ixO (R:=(OR.frz RP.int)) (tb:=0) 0 rfl Tryz.underlying23 Tryz.sizeOf3 rfl hv62 (by first | rfl | simp) rfl hx56 ?_)
 have Z:=Star.addF (r:=RP.int) (cs:=[I x65]) (x:=x65) Z rfl
 refine L_stE1 (u:=I x65) rfl Tryz.sizeOf3 rfl rfl rfl hv62 Z hx56 (fun w71 Z=>?_)
 refine nn ?_
 obtain ⟨x72,hx72,hB30⟩:=bind_some hB30
 refine W_region (mF sf3 rfl (mF sf5 rfl (L_sub rfl rfl rfl (mI rfl (L_ixO (R:=(OR.frz RP.int)) (tb:=0) 0 rfl Tryz.underlying23 Tryz.sizeOf3 rfl hv62 (by first | rfl | simp) rfl hx72 ?_)))))
 have Z:=Star.addF (r:=RP.int) (cs:=[I x56]) (x:=x56) Z rfl
 refine L_stE1 (u:=I x56) rfl Tryz.sizeOf3 rfl rfl rfl hv62 Z hx72 (fun w74 Z=>?_)
 refine nn (W_region (mF sf5 rfl (L_sub rfl rfl rfl (aI rfl (nn ?_)))))
 obtain rfl:=so hB30
 show ∃ m,m < _∧I30 m _ _
 refine ⟨n30,Nat.lt_succ_self _,?_⟩
 exact ij hI30 ⟨((out_26.set (Int.toNat k_27) x65).set (Int.toNat (i64 (k_27 - 1))) x56),i64 (k_27 - 1),H41,hL30,(Le.trans l29 l42),sf3,sf4,rfl,Z⟩
 have hB30:=(ite_f hc55).symm.trans hB30
 refine W_exit ?_
 obtain rfl:=so hB30
 obtain rfl:=so hL30
 exact rj hR30 ⟨out_26,k_27,H41,rfl,(Le.trans l29 l42),sf3,sf4,Z⟩
 intro f w_ hR
 obtain ⟨out_26,k_27,H28,rfl,l29,sf3,sf4,Z⟩:=rk hR30 hR
 refine W_region (mF sf4 rfl (L_add rfl rfl rfl (aI rfl (nn ?_))))
 obtain rfl:=so hB23
 show ∃ m,m < _∧I23 m _ _
 refine ⟨n23,Nat.lt_succ_self _,?_⟩
 exact ij hI23 ⟨out_26,i64 (i_20 + 1),H28,hL23,(Le.trans l22 l29),sf3,rfl,Z⟩
 have hB23:=(ite_f hc24).symm.trans hB23
 refine W_exit ?_
 obtain rfl:=so hB23
 obtain rfl:=so hL23
 exact rj hR23 ⟨out_19,i_20,H21,rfl,l22,sf3,Z⟩
 intro f w_ hR
 obtain ⟨out_19,i_20,H21,rfl,l22,sf3,Z⟩:=rk hR23 hR
 refine sq (mF sf3 rfl (aV v11 rfl (nn (W_ret (retG1 (v1:=v11) Tryz.results154 rfl ?_)))))
 obtain rfl:=so hF
 exact ⟨v11,rfl,(Star.down Z l22 (co closed_int c0))⟩
end Go.Proofs.YtbjllamkfmejlaaGreat

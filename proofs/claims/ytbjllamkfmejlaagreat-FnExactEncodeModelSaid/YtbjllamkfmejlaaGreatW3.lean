/- Part of a proof by program: W3. -/
import Derived.Test.YtbjllamkfmejlaaGreatD1
import Derived.Test.YtbjllamkfmejlaaGreatW2
namespace Go.Proofs.YtbjllamkfmejlaaGreat
open Go Go.E Go.L Go.RowKit
set_option linter.unusedVariables false
set_option linter.unusedSimpArgs false
set_option maxRecDepth 100000
theorem s_l7Different_c {fu : Nat} {m : Model} {r_ : Rule} {v0_0 : Value} {v0_1 : Value} {v1_1 : Value} {v1_2 : Value} {v1_4 : Value} {H : FH} {w : World} (Z : Star H w []) (h0_0 : (rS 3 RP.int).rel H [v0_0] m.sizes) (h0_1 : (rS 79 (rRule 3 23)).rel H [v0_1] m.rules) (h1_1 : (rS 3 RP.int).rel H [v1_1] r_.vars) (h1_2 : (rS 3 RP.int).rel H [v1_2] r_.coefs) (h1_4 : (rS 23 (rS 3 RP.int)).rel H [v1_4] r_.rows) {r : List Con} (hF : s_l7Different fu m r_ = some r) :
 C Tryz.prog 110 #[.agg #[v0_0,v0_1],.agg #[I r_.kind,v1_1,v1_2,I r_.bound,v1_4]] w fun v w'=>∃ (u1 : Value),v = u1∧Star H w' [oS 73 (oCon 122) u1 r]:=by
 unfold s_l7Different at hF
 refine C_enter Tryz.func110 rfl Tryz.ntmps110 rfl (sq (L_box (v:=.agg #[v0_0,v0_1]) (cs:=#[v0_0,v0_1]) rfl rfl rfl Z (fun g5 w6 Z=>L_box (v:=.agg #[I r_.kind,v1_1,v1_2,I r_.bound,v1_4]) (cs:=#[I r_.kind,v1_1,v1_2,I r_.bound,v1_4]) rfl rfl rfl Z (fun g7 w8 Z=>aV S0 rfl (ns (L_bs rfl parts0 (bs_28_0  ) Z (fun g12 w13 Z=>?_)))))))
 have Z:=Star.mkRow (R:=(OR.frz (rCon 122))) [] [] 0 Z rfl rfl rfl (by decide)
 refine aV (Sl g12 0 0) rfl (nq (sq (aI rfl (nn ?_))))
 obtain ⟨k21,hk21,hF⟩:=bind_some hF
 obtain ⟨j20,hL20,hF⟩:=bind_some hF
 obtain ⟨R20,hR20⟩:=exR fun f w_=>∃ out_16 : List Con,∃ H18 : FH,∃ v16_out : Value,j20 = .nx out_16∧Le H H18∧f 5 = v16_out∧Star H18 w_ ([oS 73 (oCon 122) v16_out out_16])
 refine W_join R20 ?_ ?_
 refine W_block ?_
 obtain ⟨I20,hI20⟩:=exI fun n f w_=>∃ i_15 : Nat,∃ suf20 : Nat,∃ out_16 : List Con,∃ H18 : FH,∃ v16_out : Value,suf20 = n∧0≤i_15∧i_15 + suf20 = 0 + k21∧countL (s_l7Different_b1 fu m r_) suf20 i_15 out_16 = some j20∧Le H H18∧f 2 = Pt g5∧f 3 = Pt g7∧f 5 = v16_out∧f 6 = I i_15∧Star H18 w_ ([oS 73 (oCon 122) v16_out out_16,box g7 79 #[I r_.kind,v1_1,v1_2,I r_.bound,v1_4],box g5 26 #[v0_0,v0_1]])
 have Z:=Star.recast (R:=(OR.frz (rCon 122))) (R':=(oCon 122)) rfl Z
 refine W_loop I20 (n:=k21) ?_ ?_
 exact ij hI20 ⟨0,k21,[],H,(Sl g12 0 0),rfl,Nat.le_refl _,rfl,hL20,(Le.refl _),rfl,rfl,rfl,rfl,Z⟩
 intro n20 f w_ hI
 obtain ⟨i_15,suf20,out_16,H18,v16_out,rfl,hs20,hl20,hL20,l19,sf2,sf3,sf5,sf6,Z⟩:=ik hI20 hI
 refine W_seq (sq (mF sf6 rfl (L_leq rfl rfl rfl (nn (W_cond (b:=decide ((i_15 : Int)≤3)) rfl (fun hc22=>?_) (fun hc22=>?_))))))
 have hlt20:=of_decide_eq_true hc22
 rcases suf20 with _ | rest20
 exact absurd hlt20 (cntF_noL hl20 hk21)
 obtain ⟨o20,hB20,hL20⟩:=count_succ hL20
 rw [s_l7Different_b1] at hB20
 refine W_skip (W_seq (W_block (sq (L_bs rfl parts0 (bs_23_0  ) Z (fun g26 w27 Z=>?_)))))
 have Z:=Star.mkRow (R:=(OR.frz RP.int)) [] [] 0 Z rfl rfl rfl (by decide)
 refine aV (Sl g26 0 0) rfl (nq (sq (aI rfl (nn ?_))))
 have hlen34 : List.length r_.vars≤9223372036854775807:=len_le (slice_len (RP.mono _ h1_1 l19))
 obtain ⟨j34,hL34,hB20⟩:=bind_some hB20
 obtain ⟨R34,hR34⟩:=exR fun f w_=>∃ vars_30 : List Int,∃ H32 : FH,∃ v30_vars : Value,j34 = .nx vars_30∧Le H18 H32∧f 2 = Pt g5∧f 3 = Pt g7∧f 5 = v16_out∧f 6 = I i_15∧f 7 = v30_vars∧Star H32 w_ ([oS 73 (oCon 122) v16_out out_16,oF 3 RP.int v30_vars vars_30,box g7 79 #[I r_.kind,v1_1,v1_2,I r_.bound,v1_4],box g5 26 #[v0_0,v0_1]])
 refine W_join R34 ?_ ?_
 refine W_block ?_
 obtain ⟨I34,hI34⟩:=exI fun n f w_=>∃ i_29 : Nat,∃ suf34 : List Int,∃ vars_30 : List Int,∃ H32 : FH,∃ v30_vars : Value,n = suf34.length∧List.drop i_29 r_.vars = suf34∧i_29 + suf34.length = r_.vars.length∧rangeL (s_l7Different_b2 m i_15) suf34 i_29 vars_30 = some j34∧Le H18 H32∧f 2 = Pt g5∧f 3 = Pt g7∧f 5 = v16_out∧f 6 = I i_15∧f 7 = v30_vars∧f 8 = I i_29∧Star H32 w_ ([oS 73 (oCon 122) v16_out out_16,oF 3 RP.int v30_vars vars_30,box g7 79 #[I r_.kind,v1_1,v1_2,I r_.bound,v1_4],box g5 26 #[v0_0,v0_1]])
 have Z:=Z.gets [3,3,2,3] rfl
 refine W_loop I34 (n:=r_.vars.length) ?_ ?_
 exact ij hI34 ⟨0,r_.vars,[],H18,(Sl g26 0 0),rfl,rfl,Nat.zero_add _,hL34,(Le.refl _),sf2,sf3,sf5,sf6,rfl,rfl,Z⟩
 intro n34 f w_ hI
 obtain ⟨i_29,suf34,vars_30,H32,v30_vars,rfl,hd34,hl34,hL34,l33,sf2,sf3,sf5,sf6,sf7,sf8,Z⟩:=ik hI34 hI
 refine W_seq (sq (mF sf8 rfl (fA 1 fa_79_1 sf3 rfl (ldB 2 Z Tryz.isAgg23 rfl rfl rfl (L_len rfl Tryz.underlying23 rfl (slice_len (RP.mono _ h1_1 (Le.trans l19 l33))) (L_lss rfl rfl rfl (nn (W_cond (b:=decide ((i_29 : Int) < (r_.vars.length : Int))) rfl (fun hc35=>?_) (fun hc35=>?_)))))))))
 have hlt34:=of_decide_eq_true hc35
 rcases suf34 with _ | ⟨x_34,rest34⟩
 exact absurd hlt34 (by simp at hl34; omega)
 obtain ⟨o34,hB34,hL34⟩:=range_cons hL34
 rw [s_l7Different_b2] at hB34
 have hix34:=drop_idx hd34
 refine W_skip (W_seq (W_block (W_seq ?_)))
 obtain ⟨x40,hx40,hB34⟩:=bind_some hB34
 refine W_drawS 10 [isV (I i_15),isV (Pt g5),isV (v0_0),isV (Pq g7 1),isV (v1_1),isV (I i_29),isEl RP.int x_34 0,isV (I x_34),isEl RP.int x40 0,isV (I x40)] [oS 73 (oCon 122) v16_out out_16,oF 3 RP.int v30_vars vars_30,box g7 79 #[I r_.kind,v1_1,v1_2,I r_.bound,v1_4],box g5 26 #[v0_0,v0_1]] [] ([]) [([],[]),([],[]),([],[]),([],[]),([],[]),([],[]),([],[]),([],[]),([],[]),([],[])] (S:=[]) Tryz_mix (by kernel_rfl) rfl (by kernel_rfl) (amF_cons (mono_V _) (amF_cons (mono_V _) (amF_cons (mono_V _) (amF_cons (mono_V _) (amF_cons (mono_V _) (amF_cons (mono_V _) (amF_cons (mono_el _ _ _) (amF_cons (mono_V _) (amF_cons (mono_el _ _ _) (amF_cons (mono_V _) amF_nil)))))))))) Z ?_ (fun f w_ H45 hS45 hE45 hT45 Z=>?_)
 refine opsS_cons (fun f w_ _ _ s _ _ Z=>mF ((s 6 rfl).trans sf6) rfl (nO rfl rfl Z)) (opsS_cons (fun f w_ _ _ s _ _ Z=>fA 0 fa_26_0 ((s 2 rfl).trans sf2) rfl (nO rfl rfl Z)) (opsS_cons (fun f w_ _ _ _ _ p Z=>ldB 3 Z Tryz.isAgg23 (p 1 23 rfl rfl) rfl rfl (nO rfl rfl Z)) (opsS_cons (fun f w_ _ _ s _ _ Z=>fA 1 fa_79_1 ((s 3 rfl).trans sf3) rfl (nO rfl rfl Z)) (opsS_cons (fun f w_ _ _ _ _ p Z=>ldB 2 Z Tryz.isAgg23 (p 3 25 rfl rfl) rfl rfl (nO rfl rfl Z)) (opsS_cons (fun f w_ _ _ s _ _ Z=>mF ((s 8 rfl).trans sf8) rfl (nO rfl rfl Z)) (opsS_cons ?_ ?_))))))
 intro f w_ H45 X45 hS45 hE45 hP45 Z
 refine L_ix (r:=RP.int) rfl Tryz.underlying23 Tryz.sizeOf3 (hP45 4 26 rfl rfl) (RP.mono _ h1_1 (Le.trans (Le.trans l19 l33) hE45)) (hP45 5 27 rfl rfl) hix34 (fun g54 o55 cs_g54 hrk_hat56 hat56=>?_)
 obtain rfl : _ = [_]:=hrk_hat56
 exact L_nil ⟨rfl,_,_,rfl,Le.refl _,fun _ _=>⟨_,_,_,rfl,rfl,hat56⟩,Z⟩
 refine opsS_cons ?_ ?_
 intro f w_ H45 X45 hS45 hE45 hP45 Z
 obtain ⟨g58,o58,cs58,hv58,hrk_hat58,hat58⟩:=(hP45 6 28 rfl rfl)
 obtain rfl : _ = [_]:=hrk_hat58
 refine L_ld rfl Tryz.isAgg3 hv58 (At.cell (AtH.at hat58 Z.sub) (j:=0) rfl) (L_nil ⟨rfl,_,_,rfl,Le.refl _,fun _ _=>rfl,Z⟩)
 refine opsS_cons ?_ ?_
 intro f w_ H45 X45 hS45 hE45 hP45 Z
 refine L_ix (r:=RP.int) rfl Tryz.underlying23 Tryz.sizeOf3 (hP45 2 24 rfl rfl) (RP.mono _ h0_0 (Le.trans (Le.trans l19 l33) hE45)) (hP45 7 29 rfl rfl) hx40 (fun g60 o61 cs_g60 hrk_hat62 hat62=>?_)
 obtain rfl : _ = [_]:=hrk_hat62
 exact L_nil ⟨rfl,_,_,rfl,Le.refl _,fun _ _=>⟨_,_,_,rfl,rfl,hat62⟩,Z⟩
 refine opsS_cons ?_ ?_
 intro f w_ H45 X45 hS45 hE45 hP45 Z
 obtain ⟨g64,o64,cs64,hv64,hrk_hat64,hat64⟩:=(hP45 8 30 rfl rfl)
 obtain rfl : _ = [_]:=hrk_hat64
 refine L_ld rfl Tryz.isAgg3 hv64 (At.cell (AtH.at hat64 Z.sub) (j:=0) rfl) (L_nil ⟨rfl,_,_,rfl,Le.refl _,fun _ _=>rfl,Z⟩)
 exact opsS_nil
 refine L_leq rfl (hT45 0 22 rfl rfl) (hT45 9 31 rfl rfl) (nn ?_)
 obtain ⟨vars_66,hA70,hB34⟩:=bind_some hB34
 obtain ⟨R70,hR70⟩:=exR fun f w_=>∃ H68 : FH,∃ v66_vars : Value,Le H45 H68∧f 2 = Pt g5∧f 3 = Pt g7∧f 5 = v16_out∧f 6 = I i_15∧f 7 = v66_vars∧f 8 = I i_29∧Star H68 w_ ([oS 73 (oCon 122) v16_out out_16,oF 3 RP.int v66_vars vars_66,box g7 79 #[I r_.kind,v1_1,v1_2,I r_.bound,v1_4],box g5 26 #[v0_0,v0_1]])
 refine W_join R70 ?_ ?_
 refine W_cond (b:=decide ((i_15 : Int)≤x40)) rfl (fun hc71=>?_) (fun hc71=>?_)
 have hA70:=(ite_t hc71).symm.trans hA70
 obtain ⟨x81,hx81,hA70⟩:=bind_some hA70
 obtain ⟨x86,hx86,hA70⟩:=bind_some hA70
 refine W_drawS 10 [isV (v30_vars),isV (.agg #[v0_0,v0_1]),isV (Pq g7 1),isV (v1_1),isV (I i_29),isEl RP.int x_34 0,isV (I x_34),isV (I i_15),isV (I x81),anyF] [oS 73 (oCon 122) v16_out out_16,oF 3 RP.int v30_vars vars_30,box g7 79 #[I r_.kind,v1_1,v1_2,I r_.bound,v1_4],box g5 26 #[v0_0,v0_1]] [.made 9 42 (fun v_=>oF 3 RP.int v_ ([x81])) none] ([]) [([],[]),([],[]),([],[]),([],[]),([],[]),([],[]),([],[]),([],[]),([],[]),([],[0])] (S:=[(some 9,[42],none)]) Tryz_mix (by kernel_rfl) rfl (by kernel_rfl) (amF_cons (mono_V _) (amF_cons (mono_V _) (amF_cons (mono_V _) (amF_cons (mono_V _) (amF_cons (mono_V _) (amF_cons (mono_el _ _ _) (amF_cons (mono_V _) (amF_cons (mono_V _) (amF_cons (mono_V _) (amF_cons (mono_any) amF_nil)))))))))) Z ?_ (fun f w_ H90 hS90 hE90 hT90 Z=>?_)
 refine opsS_cons (fun f w_ _ _ s _ _ Z=>mF ((s 7 rfl).trans ((hS45 7 rfl).trans sf7)) rfl (nO rfl rfl Z)) (opsS_cons (fun f w_ _ _ s _ _ Z=>L_lda (cs:=[v0_0,v0_1]) rfl Tryz.isAgg26 Tryz.sizeOf26 ((s 2 rfl).trans ((hS45 2 rfl).trans sf2)) (At.sub0 (Blk.at (Star.blkAt 3 Z rfl)) 0 2) rfl (nO rfl rfl Z)) (opsS_cons (fun f w_ _ _ s _ _ Z=>fA 1 fa_79_1 ((s 3 rfl).trans ((hS45 3 rfl).trans sf3)) rfl (nO rfl rfl Z)) (opsS_cons (fun f w_ _ _ _ _ p Z=>ldB 2 Z Tryz.isAgg23 (p 2 35 rfl rfl) rfl rfl (nO rfl rfl Z)) (opsS_cons (fun f w_ _ _ s _ _ Z=>mF ((s 8 rfl).trans ((hS45 8 rfl).trans sf8)) rfl (nO rfl rfl Z)) (opsS_cons ?_ ?_)))))
 intro f w_ H90 X90 hS90 hE90 hP90 Z
 refine L_ix (r:=RP.int) rfl Tryz.underlying23 Tryz.sizeOf3 (hP90 3 36 rfl rfl) (RP.mono _ h1_1 (Le.trans (Le.trans (Le.trans l19 l33) hE45) hE90)) (hP90 4 37 rfl rfl) hix34 (fun g104 o105 cs_g104 hrk_hat106 hat106=>?_)
 obtain rfl : _ = [_]:=hrk_hat106
 exact L_nil ⟨rfl,_,_,rfl,Le.refl _,fun _ _=>⟨_,_,_,rfl,rfl,hat106⟩,Z⟩
 refine opsS_cons ?_ ?_
 intro f w_ H90 X90 hS90 hE90 hP90 Z
 obtain ⟨g108,o108,cs108,hv108,hrk_hat108,hat108⟩:=(hP90 5 38 rfl rfl)
 obtain rfl : _ = [_]:=hrk_hat108
 refine L_ld rfl Tryz.isAgg3 hv108 (At.cell (AtH.at hat108 Z.sub) (j:=0) rfl) (L_nil ⟨rfl,_,_,rfl,Le.refl _,fun _ _=>rfl,Z⟩)
 refine opsS_cons (fun f w_ _ _ s _ _ Z=>mF ((s 6 rfl).trans ((hS45 6 rfl).trans sf6)) rfl (nO rfl rfl Z)) (opsS_cons ?_ ?_)
 intro f w_ H90 X90 hS90 hE90 hP90 Z
 obtain ⟨H110b,l111,s112,z113,k114⟩:=Z.borrow
 refine L_call rfl Tryz.call70 (ops3 (hP90 1 34 rfl rfl) (hP90 6 39 rfl rfl) (hP90 7 40 rfl rfl)) (s_l7Var_c (m:=m) (cell:=x_34) (value:=(i_15 : Int)) s112 (RP.mono _ h0_0 (Le.trans (Le.trans (Le.trans (Le.trans l19 l33) hE45) hE90) l111)) (RP.mono _ h0_1 (Le.trans (Le.trans (Le.trans (Le.trans l19 l33) hE45) hE90) l111)) hx81) ?_
 rintro _ w115 ⟨rfl,Z⟩
 have Z:=k114 Z c0
 exact L_nil ⟨rfl,_,_,rfl,Le.refl _,fun _ _=>rfl,Z⟩
 refine opsS_cons ?_ ?_
 intro f w_ H90 X90 hS90 hE90 hP90 Z
 refine L_bs rfl (parts1 (hP90 8 41 rfl rfl)) (bs_23_1_0 (I x81) rfl) Z (fun g116 w117 Z=>?_)
 have Z:=Star.addF (r:=RP.int) (cs:=[I x81]) (x:=x81) Z rfl
 have Z:=Star.mkRow (R:=(OR.frz RP.int)) [([I x81],x81)] [x81] 1 Z rfl rfl rfl (by decide)
 have Z:=Z.gets [4,4,4,4] rfl
 exact L_nil ⟨rfl,_,_,rfl,Le.refl _,fun _ _=>trivial,Z⟩
 exact opsS_nil
 have Z : Star H90 w_ ([oS 73 (oCon 122) v16_out out_16,oF 3 RP.int v30_vars vars_30,box g7 79 #[I r_.kind,v1_1,v1_2,I r_.bound,v1_4],box g5 26 #[v0_0,v0_1],oF 3 RP.int (f 42) ([x81])]):=Z
 have Z:=Z.gets [4,2] rfl
 refine L_appM (v:=v30_vars) (u:=(f 42)) rfl et_23 (hT90 0 33 rfl rfl) rfl Z hx86 (fun v120 w121 Z=>aV v120 rfl (nn ?_))
 obtain rfl:=so hA70
 have Z:=Z.gets [3,3,2,3] rfl
 exact rj hR70 ⟨H90,v120,hE90,((hS90 2 rfl).trans ((hS45 2 rfl).trans sf2)),((hS90 3 rfl).trans ((hS45 3 rfl).trans sf3)),((hS90 5 rfl).trans ((hS45 5 rfl).trans sf5)),((hS90 6 rfl).trans ((hS45 6 rfl).trans sf6)),rfl,((hS90 8 rfl).trans ((hS45 8 rfl).trans sf8)),Z⟩
 have hA70:=(ite_f hc71).symm.trans hA70
 refine W_skip ?_
 obtain rfl:=so hA70
 exact rj hR70 ⟨H45,v30_vars,(Le.refl _),((hS45 2 rfl).trans sf2),((hS45 3 rfl).trans sf3),((hS45 5 rfl).trans sf5),((hS45 6 rfl).trans sf6),((hS45 7 rfl).trans sf7),((hS45 8 rfl).trans sf8),Z⟩
 intro f w_ hR
 obtain ⟨H68,v66_vars,l69,sf2,sf3,sf5,sf6,sf7,sf8,Z⟩:=rk hR70 hR
 refine W_region (mF sf8 rfl (L_add rfl rfl rfl (aI rfl (nn ?_))))
 obtain rfl:=so hB34
 show ∃ m,m < _∧I34 m _ _
 refine ⟨rest34.length,by simp,?_⟩
 exact ij hI34 ⟨i_29 + 1,rest34,vars_66,H68,v66_vars,rfl,drop_next hd34,by simp at hl34; omega,hL34,(Le.trans (Le.trans l33 hE45) l69),sf2,sf3,sf5,sf6,sf7,(Eq.trans rfl (congrArg (Value.int .i64) (i64_succ (n:=r_.vars.length) (by simp at hl34; omega) hlen34))),Z⟩
 rcases suf34 with _ | ⟨_,_⟩
 obtain rfl:=range_nil hL34
 refine W_exit (rj hR34 ⟨vars_30,H32,v30_vars,rfl,l33,sf2,sf3,sf5,sf6,sf7,Z⟩)
 exact absurd (of_decide_eq_false hc35) (by simp at hl34; omega)
 intro f w_ hR
 obtain ⟨vars_30,H32,v30_vars,rfl,l33,sf2,sf3,sf5,sf6,sf7,Z⟩:=rk hR34 hR
 refine sq (mF sf7 rfl (L_len rfl Tryz.underlying23 rfl (Star.len 1 Z rfl) (L_gtr rfl rfl rfl (nn ?_))))
 obtain ⟨out_123,hA125,hB20⟩:=bind_some hB20
 obtain ⟨R125,hR125⟩:=exR fun f w_=>∃ v123_out : Value,f 2 = Pt g5∧f 3 = Pt g7∧f 5 = v123_out∧f 6 = I i_15∧Star H32 w_ ([oS 73 (oCon 122) v123_out out_123,box g7 79 #[I r_.kind,v1_1,v1_2,I r_.bound,v1_4],box g5 26 #[v0_0,v0_1]])
 refine W_join R125 ?_ ?_
 refine W_cond (b:=decide ((vars_30.length : Int) > 1)) rfl (fun hc126=>?_) (fun hc126=>?_)
 have hA125:=(ite_t hc126).symm.trans hA125
 obtain ⟨x133,hx133,hA125⟩:=bind_some hA125
 obtain ⟨x142,hx142,hA125⟩:=bind_some hA125
 obtain ⟨x148,hx148,hA125⟩:=bind_some hA125
 refine W_region (mF sf5 rfl (mF sf7 rfl ?_))
 obtain ⟨H152b,l153,s154,z155,k156⟩:=Z.borrow
 have hb157 : (rS 3 RP.int).rel H152b [v30_vars] vars_30:=fz_own 1 z155 rfl
 refine L_call rfl Tryz.call154 (ops1 rfl) (s_l7Sorted_c (list:=vars_30) s154 hb157 hx133) ?_
 rintro r158_0 w158 ⟨_,rfl,Z⟩
 have Z:=k156 Z (co closed_int c0)
 obtain ⟨H160b,l161,s162,z163,k164⟩:=Z.borrow
 have hb165 : (rS 3 RP.int).rel H160b [r158_0] x133:=fz_own 0 z163 rfl
 refine L_call rfl Tryz.call108 (ops1 rfl) (s_l7Most_c (vars:=x133) s162 hb165 hx142) ?_
 rintro _ w166 ⟨r166_0,rfl,Z⟩
 have Z:=k164 Z (co closed_term c0)
 refine L_bs rfl (parts1 rfl) (bs_28_1_2 (r166_0) (I x142.bound) ) Z (fun g168 w169 Z=>?_)
 have Z:=Z.get 1 rfl
 have Z:=oCon_close (c:=x142) Z
 have Z:=Star.mkRow (R:=(oCon 122)) [([r166_0,I x142.bound],x142)] [x142] 1 Z rfl rfl rfl (by decide)
 have Z:=Z.get 2 rfl
 refine L_appM (v:=v16_out) (u:=(Sl g168 1 1)) rfl et_28 rfl rfl Z hx148 (fun v171 w172 Z=>aV v171 rfl (nn ?_))
 obtain rfl:=so hA125
 have Z:=Z.gets [4,4,2] rfl
 exact rj hR125 ⟨v171,sf2,sf3,rfl,sf6,(Star.keepN 3 Z)⟩
 have hA125:=(ite_f hc126).symm.trans hA125
 refine W_skip ?_
 obtain rfl:=so hA125
 have Z:=Z.gets [3,3,2] rfl
 exact rj hR125 ⟨v16_out,sf2,sf3,sf5,sf6,(Star.keepN 3 Z)⟩
 intro f w_ hR
 obtain ⟨v123_out,sf2,sf3,sf5,sf6,Z⟩:=rk hR125 hR
 refine W_region (mF sf6 rfl (L_add rfl rfl rfl (aI rfl (nn ?_))))
 obtain rfl:=so hB20
 show ∃ m,m < _∧I20 m _ _
 refine ⟨rest20,Nat.lt_succ_self _,?_⟩
 exact ij hI20 ⟨i_15 + 1,rest20,out_123,H32,v123_out,rfl,by omega,by omega,hL20,(Le.trans l19 l33),sf2,sf3,sf5,(Eq.trans rfl (congrArg (Value.int .i64) (i64_succ (n:=0 + k21) (by omega) (cntF_le hk21)))),Z⟩
 rcases suf20 with _ | _
 obtain rfl:=count_zero hL20
 refine W_exit (rj hR20 ⟨out_16,H18,v16_out,rfl,l19,sf5,(Star.keepN 1 Z)⟩)
 exact absurd (cntF_yesL hs20 hl20 hk21) (of_decide_eq_false hc22)
 intro f w_ hR
 obtain ⟨out_16,H18,v16_out,rfl,l19,sf5,Z⟩:=rk hR20 hR
 refine sq (mF sf5 rfl (aV v16_out rfl (nn (W_ret (retG1 (v1:=v16_out) Tryz.results110 rfl ?_)))))
 obtain rfl:=so hF
 exact ⟨v16_out,rfl,(Star.down Z l19 (co closed_oCon c0))⟩
theorem s_l6Ints_c {a : List Int} {b : List Int} {v0 : Value} {v1 : Value} {H : FH} {w : World} (Z : Star H w []) (h0 : (rS 3 RP.int).rel H [v0] a) (h1 : (rS 3 RP.int).rel H [v1] b) {r : Bool} (hF : s_l6Ints a b = some r) :
 C Tryz.prog 190 #[v0,v1] w fun v w'=>v = Bo r∧Star H w' []:=by
 unfold s_l6Ints at hF
 refine C_enter Tryz.func190 rfl Tryz.ntmps190 rfl (sq (aB rfl (nq (sq (mV v0 rfl (L_len rfl Tryz.underlying23 rfl (slice_len h0) (mV v1 rfl (L_len rfl Tryz.underlying23 rfl (slice_len h1) (L_neq rfl rfl rfl (nn (W_cond (b:=((a.length : Int) != (b.length : Int))) rfl (fun hc1=>?_) (fun hc1=>?_))))))))))))
 have hF:=(ite_t hc1).symm.trans hF
 refine sq (aB rfl (nn (W_ret (retG1 (v1:=Bo false) Tryz.results190 rfl ?_))))
 obtain rfl:=so hF
 exact ⟨rfl,Z⟩
 have hF:=(ite_f hc1).symm.trans hF
 refine W_skip (W_seq (sq (aI rfl (nn ?_))))
 have hlen5 : List.length a≤9223372036854775807:=len_le (slice_len h0)
 obtain ⟨j5,hL5,hF⟩:=bind_some hF
 obtain ⟨R5,hR5⟩:=exR fun f w_=>∃ H3 : FH,j5 = .nx ()∧Le H H3∧Star H3 w_ ([])
 refine W_join R5 ?_ ?_
 refine W_block ?_
 obtain ⟨I5,hI5⟩:=exI fun n f w_=>∃ i_2 : Nat,∃ suf5 : List Int,∃ H3 : FH,n = suf5.length∧List.drop i_2 a = suf5∧i_2 + suf5.length = a.length∧rangeL (s_l6Ints_b1 b) suf5 i_2 () = some j5∧Le H H3∧f 0 = v0∧f 1 = v1∧f 5 = I i_2∧Star H3 w_ ([])
 refine W_loop I5 (n:=a.length) ?_ ?_
 exact ij hI5 ⟨0,a,H,rfl,rfl,Nat.zero_add _,hL5,(Le.refl _),rfl,rfl,rfl,Z⟩
 intro n5 f w_ hI
 obtain ⟨i_2,suf5,H3,rfl,hd5,hl5,hL5,l4,sf0,sf1,sf5,Z⟩:=ik hI5 hI
 refine W_seq (sq (mF sf5 rfl (mF sf0 rfl (L_len rfl Tryz.underlying23 rfl (slice_len (RP.mono _ h0 l4)) (L_lss rfl rfl rfl (nn (W_cond (b:=decide ((i_2 : Int) < (a.length : Int))) rfl (fun hc6=>?_) (fun hc6=>?_))))))))
 have hlt5:=of_decide_eq_true hc6
 rcases suf5 with _ | ⟨x_5,rest5⟩
 exact absurd hlt5 (by simp at hl5; omega)
 obtain ⟨o5,hB5,hL5⟩:=range_cons hL5
 rw [s_l6Ints_b1] at hB5
 have hix5:=drop_idx hd5
 refine W_skip (W_seq (W_block (W_seq ?_)))
 obtain ⟨x11,hx11,hB5⟩:=bind_some hB5
 refine W_drawS 8 [isV (v0),isV (I i_2),isEl RP.int x_5 0,isV (I x_5),isV (v1),isV (I i_2),isEl RP.int x11 0,isV (I x11)] [] [] ([]) [([],[]),([],[]),([],[]),([],[]),([],[]),([],[]),([],[]),([],[])] (S:=[]) Tryz_mix (by kernel_rfl) rfl (by kernel_rfl) (amF_cons (mono_V _) (amF_cons (mono_V _) (amF_cons (mono_el _ _ _) (amF_cons (mono_V _) (amF_cons (mono_V _) (amF_cons (mono_V _) (amF_cons (mono_el _ _ _) (amF_cons (mono_V _) amF_nil)))))))) Z ?_ (fun f w_ H16 hS16 hE16 hT16 Z=>?_)
 refine opsS_cons (fun f w_ _ _ s _ _ Z=>mF ((s 0 rfl).trans sf0) rfl (nO rfl rfl Z)) (opsS_cons (fun f w_ _ _ s _ _ Z=>mF ((s 5 rfl).trans sf5) rfl (nO rfl rfl Z)) (opsS_cons ?_ ?_))
 intro f w_ H16 X16 hS16 hE16 hP16 Z
 refine L_ix (r:=RP.int) rfl Tryz.underlying23 Tryz.sizeOf3 (hP16 0 17 rfl rfl) (RP.mono _ h0 (Le.trans l4 hE16)) (hP16 1 18 rfl rfl) hix5 (fun g25 o26 cs_g25 hrk_hat27 hat27=>?_)
 obtain rfl : _ = [_]:=hrk_hat27
 exact L_nil ⟨rfl,_,_,rfl,Le.refl _,fun _ _=>⟨_,_,_,rfl,rfl,hat27⟩,Z⟩
 refine opsS_cons ?_ ?_
 intro f w_ H16 X16 hS16 hE16 hP16 Z
 obtain ⟨g29,o29,cs29,hv29,hrk_hat29,hat29⟩:=(hP16 2 19 rfl rfl)
 obtain rfl : _ = [_]:=hrk_hat29
 refine L_ld rfl Tryz.isAgg3 hv29 (At.cell (AtH.at hat29 Z.sub) (j:=0) rfl) (L_nil ⟨rfl,_,_,rfl,Le.refl _,fun _ _=>rfl,Z⟩)
 refine opsS_cons (fun f w_ _ _ s _ _ Z=>mF ((s 1 rfl).trans sf1) rfl (nO rfl rfl Z)) (opsS_cons (fun f w_ _ _ s _ _ Z=>mF ((s 5 rfl).trans sf5) rfl (nO rfl rfl Z)) (opsS_cons ?_ ?_))
 intro f w_ H16 X16 hS16 hE16 hP16 Z
 refine L_ix (r:=RP.int) rfl Tryz.underlying23 Tryz.sizeOf3 (hP16 4 21 rfl rfl) (RP.mono _ h1 (Le.trans l4 hE16)) (hP16 5 22 rfl rfl) hx11 (fun g31 o32 cs_g31 hrk_hat33 hat33=>?_)
 obtain rfl : _ = [_]:=hrk_hat33
 exact L_nil ⟨rfl,_,_,rfl,Le.refl _,fun _ _=>⟨_,_,_,rfl,rfl,hat33⟩,Z⟩
 refine opsS_cons ?_ ?_
 intro f w_ H16 X16 hS16 hE16 hP16 Z
 obtain ⟨g35,o35,cs35,hv35,hrk_hat35,hat35⟩:=(hP16 6 23 rfl rfl)
 obtain rfl : _ = [_]:=hrk_hat35
 refine L_ld rfl Tryz.isAgg3 hv35 (At.cell (AtH.at hat35 Z.sub) (j:=0) rfl) (L_nil ⟨rfl,_,_,rfl,Le.refl _,fun _ _=>rfl,Z⟩)
 exact opsS_nil
 refine L_neq rfl (hT16 3 20 rfl rfl) (hT16 7 24 rfl rfl) (nn (W_cond (b:=(x_5 != x11)) rfl (fun hc37=>?_) (fun hc37=>?_)))
 have hB5:=(ite_t hc37).symm.trans hB5
 refine sq (aB rfl (nn (W_ret (retG1 (v1:=Bo false) Tryz.results190 rfl ?_))))
 obtain rfl:=so hB5
 obtain rfl:=so hL5
 obtain rfl:=so hF
 exact ⟨rfl,(Star.down Z (Le.trans l4 hE16) c0)⟩
 have hB5:=(ite_f hc37).symm.trans hB5
 refine W_skip (W_region (mF ((hS16 5 rfl).trans sf5) rfl (L_add rfl rfl rfl (aI rfl (nn ?_)))))
 obtain rfl:=so hB5
 show ∃ m,m < _∧I5 m _ _
 refine ⟨rest5.length,by simp,?_⟩
 exact ij hI5 ⟨i_2 + 1,rest5,H16,rfl,drop_next hd5,by simp at hl5; omega,hL5,(Le.trans l4 hE16),((hS16 0 rfl).trans sf0),((hS16 1 rfl).trans sf1),(Eq.trans rfl (congrArg (Value.int .i64) (i64_succ (n:=a.length) (by simp at hl5; omega) hlen5))),Z⟩
 rcases suf5 with _ | ⟨_,_⟩
 obtain rfl:=range_nil hL5
 refine W_exit (rj hR5 ⟨H3,rfl,l4,Z⟩)
 exact absurd (of_decide_eq_false hc6) (by simp at hl5; omega)
 intro f w_ hR
 obtain ⟨H3,rfl,l4,Z⟩:=rk hR5 hR
 refine sq (aB rfl (nn (W_ret (retG1 (v1:=Bo true) Tryz.results190 rfl ?_))))
 obtain rfl:=so hF
 exact ⟨rfl,(Star.down Z l4 c0)⟩
theorem s_l6Holds_c {r_ : Rule} {cells : List Int} {v0_1 : Value} {v0_2 : Value} {v0_4 : Value} {v1 : Value} {H : FH} {w : World} (Z : Star H w []) (h0_1 : (rS 3 RP.int).rel H [v0_1] r_.vars) (h0_2 : (rS 3 RP.int).rel H [v0_2] r_.coefs) (h0_4 : (rS 23 (rS 3 RP.int)).rel H [v0_4] r_.rows) (h1 : (rS 3 RP.int).rel H [v1] cells) {r : Bool} (hF : s_l6Holds r_ cells = some r) :
 C Tryz.prog 155 #[.agg #[I r_.kind,v0_1,v0_2,I r_.bound,v0_4],v1] w fun v w'=>v = Bo r∧Star H w' []:=by
 unfold s_l6Holds at hF
 refine C_enter Tryz.func155 rfl Tryz.ntmps155 rfl (sq (L_box (v:=.agg #[I r_.kind,v0_1,v0_2,I r_.bound,v0_4]) (cs:=#[I r_.kind,v0_1,v0_2,I r_.bound,v0_4]) rfl rfl rfl Z (fun g3 w4 Z=>aB rfl (ns (L_bs rfl parts0 (bs_23_0  ) Z (fun g8 w9 Z=>?_))))))
 have Z:=Star.mkRow (R:=(OR.frz RP.int)) [] [] 0 Z rfl rfl rfl (by decide)
 refine aV (Sl g8 0 0) rfl (nq (sq (aI rfl (nn ?_))))
 have hlen14 : List.length r_.vars≤9223372036854775807:=len_le (slice_len h0_1)
 obtain ⟨j14,hL14,hF⟩:=bind_some hF
 obtain ⟨R14,hR14⟩:=exR fun f w_=>∃ list_12 : List Int,∃ v12_list : Value,j14 = .nx list_12∧f 2 = Pt g3∧f 5 = v12_list∧Star H w_ ([oF 3 RP.int v12_list list_12,box g3 79 #[I r_.kind,v0_1,v0_2,I r_.bound,v0_4]])
 refine W_join R14 ?_ ?_
 refine W_block ?_
 obtain ⟨I14,hI14⟩:=exI fun n f w_=>∃ i_11 : Nat,∃ suf14 : List Int,∃ list_12 : List Int,∃ v12_list : Value,n = suf14.length∧List.drop i_11 r_.vars = suf14∧i_11 + suf14.length = r_.vars.length∧rangeL (s_l6Holds_b1 cells) suf14 i_11 list_12 = some j14∧f 1 = v1∧f 2 = Pt g3∧f 5 = v12_list∧f 6 = I i_11∧Star H w_ ([oF 3 RP.int v12_list list_12,box g3 79 #[I r_.kind,v0_1,v0_2,I r_.bound,v0_4]])
 refine W_loop I14 (n:=r_.vars.length) ?_ ?_
 exact ij hI14 ⟨0,r_.vars,[],(Sl g8 0 0),rfl,rfl,Nat.zero_add _,hL14,rfl,rfl,rfl,rfl,Z⟩
 intro n14 f w_ hI
 obtain ⟨i_11,suf14,list_12,v12_list,rfl,hd14,hl14,hL14,sf1,sf2,sf5,sf6,Z⟩:=ik hI14 hI
 refine W_seq (sq (mF sf6 rfl (fA 1 fa_79_1 sf2 rfl (ldB 1 Z Tryz.isAgg23 rfl rfl rfl (L_len rfl Tryz.underlying23 rfl (slice_len h0_1) (L_lss rfl rfl rfl (nn (W_cond (b:=decide ((i_11 : Int) < (r_.vars.length : Int))) rfl (fun hc15=>?_) (fun hc15=>?_)))))))))
 have hlt14:=of_decide_eq_true hc15
 rcases suf14 with _ | ⟨x_14,rest14⟩
 exact absurd hlt14 (by simp at hl14; omega)
 obtain ⟨o14,hB14,hL14⟩:=range_cons hL14
 rw [s_l6Holds_b1] at hB14
 have hix14:=drop_idx hd14
 refine W_skip (W_seq (W_block ?_))
 obtain ⟨x20,hx20,hB14⟩:=bind_some hB14
 obtain ⟨x28,hx28,hB14⟩:=bind_some hB14
 refine W_region (mF sf5 rfl (mF sf1 rfl (fA 1 fa_79_1 sf2 rfl (ldB 1 Z Tryz.isAgg23 rfl rfl rfl (mF sf6 rfl (L_ix (r:=RP.int) rfl Tryz.underlying23 Tryz.sizeOf3 rfl h0_1 rfl hix14 (fun g32 o33 cs_g32 hrk_hat34 hat34=>?_)))))))
 obtain rfl : _ = [_]:=hrk_hat34
 refine L_ld rfl Tryz.isAgg3 rfl (At.cell (AtH.at hat34 Z.sub) (j:=0) rfl) (L_ix (r:=RP.int) rfl Tryz.underlying23 Tryz.sizeOf3 rfl h1 rfl hx20 (fun g36 o37 cs_g36 hrk_hat38 hat38=>?_))
 obtain rfl : _ = [_]:=hrk_hat38
 refine L_ld rfl Tryz.isAgg3 rfl (At.cell (AtH.at hat38 Z.sub) (j:=0) rfl) (L_bs rfl (parts1 rfl) (bs_23_1_0 (I x20) rfl) Z (fun g40 w41 Z=>?_))
 have Z:=Star.addF (r:=RP.int) (cs:=[I x20]) (x:=x20) Z rfl
 have Z:=Star.mkRow (R:=(OR.frz RP.int)) [([I x20],x20)] [x20] 1 Z rfl rfl rfl (by decide)
 have Z:=Z.get 1 rfl
 refine L_appM (v:=v12_list) (u:=(Sl g40 1 1)) rfl et_23 rfl rfl Z hx28 (fun v43 w44 Z=>aV v43 rfl (nn (W_region (mF sf6 rfl (L_add rfl rfl rfl (aI rfl (nn ?_)))))))
 obtain rfl:=so hB14
 show ∃ m,m < _∧I14 m _ _
 refine ⟨rest14.length,by simp,?_⟩
 exact ij hI14 ⟨i_11 + 1,rest14,x28,v43,rfl,drop_next hd14,by simp at hl14; omega,hL14,sf1,sf2,rfl,(Eq.trans rfl (congrArg (Value.int .i64) (i64_succ (n:=r_.vars.length) (by simp at hl14; omega) hlen14))),Z⟩
 rcases suf14 with _ | ⟨_,_⟩
 obtain rfl:=range_nil hL14
 refine W_exit (rj hR14 ⟨list_12,v12_list,rfl,sf2,sf5,Z⟩)
 exact absurd (of_decide_eq_false hc15) (by simp at hl14; omega)
 intro f w_ hR
 obtain ⟨list_12,v12_list,rfl,sf2,sf5,Z⟩:=rk hR14 hR
 refine W_seq (sq (fA 0 fa_79_0 sf2 rfl (ldB 1 Z Tryz.isAgg3 rfl rfl rfl (nn (W_block (sq (L_eql rfl rfl rfl (aB rfl (nn (W_cond (b:=(r_.kind == 1)) rfl (fun hc46=>?_) (fun hc46=>?_)))))))))))
 have hF:=(ite_t hc46).symm.trans hF
 refine sq (aI rfl (nq (sq (aI rfl (nn ?_)))))
 have hlen51 : List.length list_12≤9223372036854775807:=len_le (Star.len 0 Z rfl)
 obtain ⟨j51,hL51,hF⟩:=bind_some hF
 obtain ⟨R51,hR51⟩:=exR fun f w_=>∃ n_48 : Int,∃ H49 : FH,j51 = .nx n_48∧Le H H49∧f 2 = Pt g3∧f 7 = I n_48∧Star H49 w_ ([box g3 79 #[I r_.kind,v0_1,v0_2,I r_.bound,v0_4]])
 refine W_join R51 ?_ ?_
 refine W_block ?_
 obtain ⟨I51,hI51⟩:=exI fun n f w_=>∃ i_47 : Nat,∃ suf51 : List Int,∃ n_48 : Int,∃ H49 : FH,n = suf51.length∧List.drop i_47 list_12 = suf51∧i_47 + suf51.length = list_12.length∧rangeL (s_l6Holds_b2 r_) suf51 i_47 n_48 = some j51∧Le H H49∧f 2 = Pt g3∧f 5 = v12_list∧f 7 = I n_48∧f 8 = I i_47∧Star H49 w_ ([oF 3 RP.int v12_list list_12,box g3 79 #[I r_.kind,v0_1,v0_2,I r_.bound,v0_4]])
 refine W_loop I51 (n:=list_12.length) ?_ ?_
 exact ij hI51 ⟨0,list_12,0,H,rfl,rfl,Nat.zero_add _,hL51,(Le.refl _),sf2,sf5,rfl,rfl,Z⟩
 intro n51 f w_ hI
 obtain ⟨i_47,suf51,n_48,H49,rfl,hd51,hl51,hL51,l50,sf2,sf5,sf7,sf8,Z⟩:=ik hI51 hI
 refine W_seq (sq (mF sf8 rfl (mF sf5 rfl (L_len rfl Tryz.underlying23 rfl (Star.len 0 Z rfl) (L_lss rfl rfl rfl (nn (W_cond (b:=decide ((i_47 : Int) < (list_12.length : Int))) rfl (fun hc52=>?_) (fun hc52=>?_))))))))
 have hlt51:=of_decide_eq_true hc52
 rcases suf51 with _ | ⟨x_51,rest51⟩
 exact absurd hlt51 (by simp at hl51; omega)
 obtain ⟨o51,hB51,hL51⟩:=range_cons hL51
 rw [s_l6Holds_b2] at hB51
 have hix51:=drop_idx hd51
 refine W_skip (W_seq (W_block ?_))
 obtain ⟨x53,hx53,hB51⟩:=bind_some hB51
 obtain ⟨g67,cap_g67,hv68,_,_⟩:=Star.row 0 Z rfl hix51
 refine W_drawS 11 [isV (I n_48),isV (Pq g3 2),isV (v0_2),isV (I i_47),isEl RP.int x53 0,isV (I x53),isV (v12_list),isV (I i_47),isV (.pointer (some ⟨g67,Int.toNat (i_47 : Int) * 1,none⟩)),isV (I x_51),isV (I (i64 (x53 * x_51)))] [oF 3 RP.int v12_list list_12,box g3 79 #[I r_.kind,v0_1,v0_2,I r_.bound,v0_4]] [] ([]) [([],[]),([],[]),([],[]),([],[]),([],[]),([],[]),([],[]),([],[]),([],[]),([],[]),([],[])] (S:=[]) Tryz_mix (by kernel_rfl) rfl (by kernel_rfl) (amF_cons (mono_V _) (amF_cons (mono_V _) (amF_cons (mono_V _) (amF_cons (mono_V _) (amF_cons (mono_el _ _ _) (amF_cons (mono_V _) (amF_cons (mono_V _) (amF_cons (mono_V _) (amF_cons (mono_V _) (amF_cons (mono_V _) (amF_cons (mono_V _) amF_nil))))))))))) Z ?_ (fun f w_ H62 hS62 hE62 hT62 Z=>?_)
 refine opsS_cons (fun f w_ _ _ s _ _ Z=>mF ((s 7 rfl).trans sf7) rfl (nO rfl rfl Z)) (opsS_cons (fun f w_ _ _ s _ _ Z=>fA 2 fa_79_2 ((s 2 rfl).trans sf2) rfl (nO rfl rfl Z)) (opsS_cons (fun f w_ _ _ _ _ p Z=>ldB 1 Z Tryz.isAgg23 (p 1 42 rfl rfl) rfl rfl (nO rfl rfl Z)) (opsS_cons (fun f w_ _ _ s _ _ Z=>mF ((s 8 rfl).trans sf8) rfl (nO rfl rfl Z)) (opsS_cons ?_ ?_))))
 intro f w_ H62 X62 hS62 hE62 hP62 Z
 refine L_ix (r:=RP.int) rfl Tryz.underlying23 Tryz.sizeOf3 (hP62 2 43 rfl rfl) (RP.mono _ h0_2 (Le.trans l50 hE62)) (hP62 3 44 rfl rfl) hx53 (fun g71 o72 cs_g71 hrk_hat73 hat73=>?_)
 obtain rfl : _ = [_]:=hrk_hat73
 exact L_nil ⟨rfl,_,_,rfl,Le.refl _,fun _ _=>⟨_,_,_,rfl,rfl,hat73⟩,Z⟩
 refine opsS_cons ?_ ?_
 intro f w_ H62 X62 hS62 hE62 hP62 Z
 obtain ⟨g75,o75,cs75,hv75,hrk_hat75,hat75⟩:=(hP62 4 45 rfl rfl)
 obtain rfl : _ = [_]:=hrk_hat75
 refine L_ld rfl Tryz.isAgg3 hv75 (At.cell (AtH.at hat75 Z.sub) (j:=0) rfl) (L_nil ⟨rfl,_,_,rfl,Le.refl _,fun _ _=>rfl,Z⟩)
 refine opsS_cons (fun f w_ _ _ s _ _ Z=>mF ((s 5 rfl).trans sf5) rfl (nO rfl rfl Z)) (opsS_cons (fun f w_ _ _ s _ _ Z=>mF ((s 8 rfl).trans sf8) rfl (nO rfl rfl Z)) (opsS_cons (fun f w_ _ _ _ _ p Z=>L_ixO (R:=(OR.frz RP.int)) (tb:=0) 0 rfl Tryz.underlying23 Tryz.sizeOf3 (p 6 47 rfl rfl) hv68 (by first | rfl | simp) (p 7 48 rfl rfl) hix51 (nO rfl rfl Z)) (opsS_cons ?_ ?_)))
 intro f w_ H62 X62 hS62 hE62 hP62 Z
 obtain ⟨cs77,hr77,hat77⟩:=Star.eltF 0 Z rfl hv68 hix51
 obtain rfl : _ = [_]:=hr77
 refine L_ld rfl Tryz.isAgg3 (hP62 8 49 rfl rfl) (At.cell hat77 (j:=0) rfl) (L_nil ⟨rfl,_,_,rfl,Le.refl _,fun _ _=>rfl,Z⟩)
 refine opsS_cons (fun f w_ _ _ _ _ p Z=>L_mul rfl (p 5 46 rfl rfl) (p 9 50 rfl rfl) (nO rfl rfl Z)) (opsS_nil)
 refine L_add rfl (hT62 0 41 rfl rfl) (hT62 10 51 rfl rfl) (aI rfl (nn (W_region (mF ((hS62 8 rfl).trans sf8) rfl (L_add rfl rfl rfl (aI rfl (nn ?_)))))))
 obtain rfl:=so hB51
 show ∃ m,m < _∧I51 m _ _
 refine ⟨rest51.length,by simp,?_⟩
 exact ij hI51 ⟨i_47 + 1,rest51,i64 (n_48 + (i64 (x53 * x_51))),H62,rfl,drop_next hd51,by simp at hl51; omega,hL51,(Le.trans l50 hE62),((hS62 2 rfl).trans sf2),((hS62 5 rfl).trans sf5),rfl,(Eq.trans rfl (congrArg (Value.int .i64) (i64_succ (n:=list_12.length) (by simp at hl51; omega) hlen51))),Z⟩
 rcases suf51 with _ | ⟨_,_⟩
 obtain rfl:=range_nil hL51
 refine W_exit ?_
 have Z:=Z.get 1 rfl
 exact rj hR51 ⟨n_48,H49,rfl,l50,sf2,sf7,(Star.keepN 1 Z)⟩
 exact absurd (of_decide_eq_false hc52) (by simp at hl51; omega)
 intro f w_ hR
 obtain ⟨n_48,H49,rfl,l50,sf2,sf7,Z⟩:=rk hR51 hR
 refine sq (mF sf7 rfl (fA 3 fa_79_3 sf2 rfl (ldB 0 Z Tryz.isAgg3 rfl rfl rfl (L_geq rfl rfl rfl (aB rfl (nn (W_ret (retG1 (v1:=Bo (decide (n_48 ≥ r_.bound))) Tryz.results155 rfl ?_))))))))
 obtain rfl:=so hF
 exact ⟨rfl,(Star.down (Star.keepN 0 Z) l50 c0)⟩
 have hF:=(ite_f hc46).symm.trans hF
 refine sq (L_eql rfl rfl rfl (aB rfl (nn (W_cond (b:=(r_.kind == 2)) rfl (fun hc79=>?_) (fun hc79=>?_)))))
 have hF:=(ite_t hc79).symm.trans hF
 refine W_seq (sq (aI rfl (nn ?_)))
 have hlen83 : List.length list_12≤9223372036854775807:=len_le (Star.len 0 Z rfl)
 obtain ⟨j83,hL83,hF⟩:=bind_some hF
 obtain ⟨R83,hR83⟩:=exR fun f w_=>∃ H81 : FH,j83 = .nx ()∧Le H H81∧Star H81 w_ ([])
 refine W_join R83 ?_ ?_
 refine W_block ?_
 obtain ⟨I83,hI83⟩:=exI fun n f w_=>∃ i_80 : Nat,∃ suf83 : List Int,∃ H81 : FH,n = suf83.length∧List.drop i_80 list_12 = suf83∧i_80 + suf83.length = list_12.length∧rangeL (s_l6Holds_b3 list_12) suf83 i_80 () = some j83∧Le H H81∧f 5 = v12_list∧f 9 = I i_80∧Star H81 w_ ([oF 3 RP.int v12_list list_12])
 refine W_loop I83 (n:=list_12.length) ?_ ?_
 exact ij hI83 ⟨0,list_12,H,rfl,rfl,Nat.zero_add _,hL83,(Le.refl _),sf5,rfl,(Star.keepN 1 Z)⟩
 intro n83 f w_ hI
 obtain ⟨i_80,suf83,H81,rfl,hd83,hl83,hL83,l82,sf5,sf9,Z⟩:=ik hI83 hI
 refine W_seq (sq (mF sf9 rfl (mF sf5 rfl (L_len rfl Tryz.underlying23 rfl (Star.len 0 Z rfl) (L_lss rfl rfl rfl (nn (W_cond (b:=decide ((i_80 : Int) < (list_12.length : Int))) rfl (fun hc84=>?_) (fun hc84=>?_))))))))
 have hlt83:=of_decide_eq_true hc84
 rcases suf83 with _ | ⟨x_83,rest83⟩
 exact absurd hlt83 (by simp at hl83; omega)
 obtain ⟨o83,hB83,hL83⟩:=range_cons hL83
 rw [s_l6Holds_b3] at hB83
 have hix83:=drop_idx hd83
 refine W_skip (W_seq (W_block (sq (aI rfl (nn ?_)))))
 obtain ⟨k89,hk89,hB83⟩:=bind_some hB83
 obtain ⟨j88,hL88,hB83⟩:=bind_some hB83
 obtain ⟨R88,hR88⟩:=exR fun f w_=>∃ H86 : FH,j88 = .nx ()∧Le H81 H86∧f 5 = v12_list∧f 9 = I i_80∧Star H86 w_ ([oF 3 RP.int v12_list list_12])
 refine W_join R88 ?_ ?_
 refine W_block ?_
 obtain ⟨I88,hI88⟩:=exI fun n f w_=>∃ i_85 : Nat,∃ suf88 : Nat,∃ H86 : FH,suf88 = n∧0≤i_85∧i_85 + suf88 = 0 + k89∧countL (s_l6Holds_b4 list_12 x_83) suf88 i_85 () = some j88∧Le H81 H86∧f 5 = v12_list∧f 9 = I i_80∧f 10 = I i_85∧Star H86 w_ ([oF 3 RP.int v12_list list_12])
 refine W_loop I88 (n:=k89) ?_ ?_
 exact ij hI88 ⟨0,k89,H81,rfl,Nat.le_refl _,rfl,hL88,(Le.refl _),sf5,sf9,rfl,Z⟩
 intro n88 f w_ hI
 obtain ⟨i_85,suf88,H86,rfl,hs88,hl88,hL88,l87,sf5,sf9,sf10,Z⟩:=ik hI88 hI
 refine W_seq (sq (mF sf10 rfl (mF sf9 rfl (L_lss rfl rfl rfl (nn (W_cond (b:=decide ((i_85 : Int) < (i_80 : Int))) rfl (fun hc90=>?_) (fun hc90=>?_)))))))
 have hlt88:=of_decide_eq_true hc90
 rcases suf88 with _ | rest88
 exact absurd hlt88 (cntF_no hl88 hk89)
 obtain ⟨o88,hB88,hL88⟩:=count_succ hL88
 rw [s_l6Holds_b4] at hB88
 refine W_skip (W_seq (W_block (W_seq ?_)))
 obtain ⟨x91,hx91,hB88⟩:=bind_some hB88
 obtain ⟨g99,cap_g99,hv100,_,_⟩:=Star.row 0 Z rfl hx91
 refine W_drawS 8 [isV (v12_list),isV (I i_85),isV (.pointer (some ⟨g99,Int.toNat (i_85 : Int) * 1,none⟩)),isV (I x91),isV (v12_list),isV (I i_80),isV (.pointer (some ⟨g99,Int.toNat (i_80 : Int) * 1,none⟩)),isV (I x_83)] [oF 3 RP.int v12_list list_12] [] ([]) [([],[]),([],[]),([],[]),([],[]),([],[]),([],[]),([],[]),([],[])] (S:=[]) Tryz_mix (by kernel_rfl) rfl (by kernel_rfl) (amF_cons (mono_V _) (amF_cons (mono_V _) (amF_cons (mono_V _) (amF_cons (mono_V _) (amF_cons (mono_V _) (amF_cons (mono_V _) (amF_cons (mono_V _) (amF_cons (mono_V _) amF_nil)))))))) Z ?_ (fun f w_ H98 hS98 hE98 hT98 Z=>?_)
 refine opsS_cons (fun f w_ _ _ s _ _ Z=>mF ((s 5 rfl).trans sf5) rfl (nO rfl rfl Z)) (opsS_cons (fun f w_ _ _ s _ _ Z=>mF ((s 10 rfl).trans sf10) rfl (nO rfl rfl Z)) (opsS_cons (fun f w_ _ _ _ _ p Z=>L_ixO (R:=(OR.frz RP.int)) (tb:=0) 0 rfl Tryz.underlying23 Tryz.sizeOf3 (p 0 70 rfl rfl) hv100 (by first | rfl | simp) (p 1 71 rfl rfl) hx91 (nO rfl rfl Z)) (opsS_cons ?_ ?_)))
 intro f w_ H98 X98 hS98 hE98 hP98 Z
 obtain ⟨cs105,hr105,hat105⟩:=Star.eltF 0 Z rfl hv100 hx91
 obtain rfl : _ = [_]:=hr105
 refine L_ld rfl Tryz.isAgg3 (hP98 2 72 rfl rfl) (At.cell hat105 (j:=0) rfl) (L_nil ⟨rfl,_,_,rfl,Le.refl _,fun _ _=>rfl,Z⟩)
 refine opsS_cons (fun f w_ _ _ s _ _ Z=>mF ((s 5 rfl).trans sf5) rfl (nO rfl rfl Z)) (opsS_cons (fun f w_ _ _ s _ _ Z=>mF ((s 9 rfl).trans sf9) rfl (nO rfl rfl Z)) (opsS_cons (fun f w_ _ _ _ _ p Z=>L_ixO (R:=(OR.frz RP.int)) (tb:=0) 0 rfl Tryz.underlying23 Tryz.sizeOf3 (p 4 74 rfl rfl) hv100 (by first | rfl | simp) (p 5 75 rfl rfl) hix83 (nO rfl rfl Z)) (opsS_cons ?_ ?_)))
 intro f w_ H98 X98 hS98 hE98 hP98 Z
 obtain ⟨cs107,hr107,hat107⟩:=Star.eltF 0 Z rfl hv100 hix83
 obtain rfl : _ = [_]:=hr107
 refine L_ld rfl Tryz.isAgg3 (hP98 6 76 rfl rfl) (At.cell hat107 (j:=0) rfl) (L_nil ⟨rfl,_,_,rfl,Le.refl _,fun _ _=>rfl,Z⟩)
 exact opsS_nil
 refine L_eql rfl (hT98 3 73 rfl rfl) (hT98 7 77 rfl rfl) (nn (W_cond (b:=(x91 == x_83)) rfl (fun hc109=>?_) (fun hc109=>?_)))
 have hB88:=(ite_t hc109).symm.trans hB88
 refine sq (aB rfl (nn (W_ret (retG1 (v1:=Bo false) Tryz.results155 rfl ?_))))
 obtain rfl:=so hB88
 obtain rfl:=so hL88
 obtain rfl:=so hB83
 obtain rfl:=so hL83
 obtain rfl:=so hF
 exact ⟨rfl,(Star.down (Star.keepN 0 Z) (Le.trans (Le.trans l82 l87) hE98) c0)⟩
 have hB88:=(ite_f hc109).symm.trans hB88
 refine W_skip (W_region (mF ((hS98 10 rfl).trans sf10) rfl (L_add rfl rfl rfl (aI rfl (nn ?_)))))
 obtain rfl:=so hB88
 show ∃ m,m < _∧I88 m _ _
 refine ⟨rest88,Nat.lt_succ_self _,?_⟩
 exact ij hI88 ⟨i_85 + 1,rest88,H98,rfl,by omega,by omega,hL88,(Le.trans l87 hE98),((hS98 5 rfl).trans sf5),((hS98 9 rfl).trans sf9),(Eq.trans rfl (congrArg (Value.int .i64) (i64_succ (n:=0 + k89) (by omega) (cntF_le hk89)))),Z⟩
 rcases suf88 with _ | _
 obtain rfl:=count_zero hL88
 refine W_exit (rj hR88 ⟨H86,rfl,l87,sf5,sf9,Z⟩)
 exact absurd (cntF_yes hs88 hl88 hk89) (of_decide_eq_false hc90)
 intro f w_ hR
 obtain ⟨H86,rfl,l87,sf5,sf9,Z⟩:=rk hR88 hR
 refine W_region (mF sf9 rfl (L_add rfl rfl rfl (aI rfl (nn ?_))))
 obtain rfl:=so hB83
 show ∃ m,m < _∧I83 m _ _
 refine ⟨rest83.length,by simp,?_⟩
 exact ij hI83 ⟨i_80 + 1,rest83,H86,rfl,drop_next hd83,by simp at hl83; omega,hL83,(Le.trans l82 l87),sf5,(Eq.trans rfl (congrArg (Value.int .i64) (i64_succ (n:=list_12.length) (by simp at hl83; omega) hlen83))),Z⟩
 rcases suf83 with _ | ⟨_,_⟩
 obtain rfl:=range_nil hL83
 refine W_exit (rj hR83 ⟨H81,rfl,l82,(Star.keepN 0 Z)⟩)
 exact absurd (of_decide_eq_false hc84) (by simp at hl83; omega)
 intro f w_ hR
 obtain ⟨H81,rfl,l82,Z⟩:=rk hR83 hR
 refine sq (aB rfl (nn (W_ret (retG1 (v1:=Bo true) Tryz.results155 rfl ?_))))
 obtain rfl:=so hF
 exact ⟨rfl,(Star.down Z l82 c0)⟩
 have hF:=(ite_f hc79).symm.trans hF
 refine sq (L_eql rfl rfl rfl (aB rfl (nn (W_cond (b:=(r_.kind == 4)) rfl (fun hc110=>?_) (fun hc110=>?_)))))
 have hF:=(ite_t hc110).symm.trans hF
 refine W_seq ?_
 obtain ⟨x111,hx111,hF⟩:=bind_some hF
 obtain ⟨x116,hx116,hF⟩:=bind_some hF
 have Z:=Star.drop 1 Z rfl
 obtain ⟨g120,cap_g120,hv121,_,_⟩:=Star.row 0 Z rfl hx111
 refine W_drawS 6 [isV (v12_list),isV (.pointer (some ⟨g120,Int.toNat 0 * 1,none⟩)),isV (I x111),isV (v12_list),isV (.pointer (some ⟨g120,Int.toNat 1 * 1,none⟩)),isV (I x116)] [oF 3 RP.int v12_list list_12] [] ([]) [([],[]),([],[]),([],[]),([],[]),([],[]),([],[])] (S:=[]) Tryz_mix (by kernel_rfl) rfl (by kernel_rfl) (amF_cons (mono_V _) (amF_cons (mono_V _) (amF_cons (mono_V _) (amF_cons (mono_V _) (amF_cons (mono_V _) (amF_cons (mono_V _) amF_nil)))))) Z ?_ (fun f w_ H119 hS119 hE119 hT119 Z=>?_)
 refine opsS_cons (fun f w_ _ _ s _ _ Z=>mF ((s 5 rfl).trans sf5) rfl (nO rfl rfl Z)) (opsS_cons (fun f w_ _ _ _ _ p Z=>L_ixO (R:=(OR.frz RP.int)) (tb:=0) 0 rfl Tryz.underlying23 Tryz.sizeOf3 (p 0 81 rfl rfl) hv121 (by first | rfl | simp) rfl hx111 (nO rfl rfl Z)) (opsS_cons ?_ ?_))
 intro f w_ H119 X119 hS119 hE119 hP119 Z
 obtain ⟨cs126,hr126,hat126⟩:=Star.eltF 0 Z rfl hv121 hx111
 obtain rfl : _ = [_]:=hr126
 refine L_ld rfl Tryz.isAgg3 (hP119 1 82 rfl rfl) (At.cell hat126 (j:=0) rfl) (L_nil ⟨rfl,_,_,rfl,Le.refl _,fun _ _=>rfl,Z⟩)
 refine opsS_cons (fun f w_ _ _ s _ _ Z=>mF ((s 5 rfl).trans sf5) rfl (nO rfl rfl Z)) (opsS_cons (fun f w_ _ _ _ _ p Z=>L_ixO (R:=(OR.frz RP.int)) (tb:=0) 0 rfl Tryz.underlying23 Tryz.sizeOf3 (p 3 84 rfl rfl) hv121 (by first | rfl | simp) rfl hx116 (nO rfl rfl Z)) (opsS_cons ?_ ?_))
 intro f w_ H119 X119 hS119 hE119 hP119 Z
 obtain ⟨cs128,hr128,hat128⟩:=Star.eltF 0 Z rfl hv121 hx116
 obtain rfl : _ = [_]:=hr128
 refine L_ld rfl Tryz.isAgg3 (hP119 4 85 rfl rfl) (At.cell hat128 (j:=0) rfl) (L_nil ⟨rfl,_,_,rfl,Le.refl _,fun _ _=>rfl,Z⟩)
 exact opsS_nil
 refine L_lss rfl (hT119 2 83 rfl rfl) (hT119 5 86 rfl rfl) (aB rfl (nn (W_ret (retG1 (v1:=Bo (decide (x111 < x116))) Tryz.results155 rfl ?_))))
 obtain rfl:=so hF
 exact ⟨rfl,(Star.down (Star.keepN 0 Z) hE119 c0)⟩
 have hF:=(ite_f hc110).symm.trans hF
 refine W_skip (W_seq (sq (aI rfl (nn ?_))))
 have hlen131 : List.length r_.rows≤9223372036854775807:=len_le (slice_len h0_4)
 obtain ⟨j131,hL131,hF⟩:=bind_some hF
 obtain ⟨R131,hR131⟩:=exR fun f w_=>j131 = .nx ()∧Star H w_ ([])
 refine W_join R131 ?_ ?_
 refine W_block ?_
 obtain ⟨I131,hI131⟩:=exI fun n f w_=>∃ i_130 : Nat,∃ suf131 : List (List Int),n = suf131.length∧List.drop i_130 r_.rows = suf131∧i_130 + suf131.length = r_.rows.length∧rangeL (s_l6Holds_b5 list_12) suf131 i_130 () = some j131∧f 2 = Pt g3∧f 5 = v12_list∧f 11 = I i_130∧Star H w_ ([oF 3 RP.int v12_list list_12,box g3 79 #[I r_.kind,v0_1,v0_2,I r_.bound,v0_4]])
 refine W_loop I131 (n:=r_.rows.length) ?_ ?_
 exact ij hI131 ⟨0,r_.rows,rfl,rfl,Nat.zero_add _,hL131,sf2,sf5,rfl,Z⟩
 intro n131 f w_ hI
 obtain ⟨i_130,suf131,rfl,hd131,hl131,hL131,sf2,sf5,sf11,Z⟩:=ik hI131 hI
 refine W_seq (sq (mF sf11 rfl (fA 4 fa_79_4 sf2 rfl (ldB 1 Z Tryz.isAgg77 rfl rfl rfl (L_len rfl Tryz.underlying77 rfl (slice_len h0_4) (L_lss rfl rfl rfl (nn (W_cond (b:=decide ((i_130 : Int) < (r_.rows.length : Int))) rfl (fun hc132=>?_) (fun hc132=>?_)))))))))
 have hlt131:=of_decide_eq_true hc132
 rcases suf131 with _ | ⟨x_131,rest131⟩
 exact absurd hlt131 (by simp at hl131; omega)
 obtain ⟨o131,hB131,hL131⟩:=range_cons hL131
 rw [s_l6Holds_b5] at hB131
 have hix131:=drop_idx hd131
 refine W_skip (W_seq (W_block (W_seq ?_)))
 obtain ⟨x143,hx143,hB131⟩:=bind_some hB131
 refine W_region (fA 4 fa_79_4 sf2 rfl (ldB 1 Z Tryz.isAgg77 rfl rfl rfl (mF sf11 rfl (L_ix (r:=(rS 3 RP.int)) rfl Tryz.underlying77 Tryz.sizeOf23 rfl h0_4 rfl hix131 (fun g145 o146 cs_g145 hrk_hat147 hat147=>?_)))))
 obtain ⟨u148,rfl,hu148⟩:=slice1 hrk_hat147
 refine L_ld rfl Tryz.isAgg23 rfl (At.cell (AtH.at hat147 Z.sub) (j:=0) rfl) (mF sf5 rfl ?_)
 obtain ⟨H149b,l150,s151,z152,k153⟩:=Z.borrow
 have hb154 : (rS 3 RP.int).rel H149b [v12_list] list_12:=fz_own 0 z152 rfl
 refine L_call rfl Tryz.call190 (ops2 rfl rfl) (s_l6Ints_c (a:=x_131) (b:=list_12) s151 (RP.mono _ hu148 l150) hb154 hx143) ?_
 rintro _ w155 ⟨rfl,Z⟩
 have Z:=k153 Z c0
 refine nn (W_cond (b:=x143) rfl (fun hc156=>?_) (fun hc156=>?_))
 have hB131:=(ite_t hc156).symm.trans hB131
 refine sq (aB rfl (nn (W_ret (retG1 (v1:=Bo true) Tryz.results155 rfl ?_))))
 obtain rfl:=so hB131
 obtain rfl:=so hL131
 obtain rfl:=so hF
 exact ⟨rfl,(Star.keepN 0 Z)⟩
 have hB131:=(ite_f hc156).symm.trans hB131
 refine W_skip (W_region (mF sf11 rfl (L_add rfl rfl rfl (aI rfl (nn ?_)))))
 obtain rfl:=so hB131
 show ∃ m,m < _∧I131 m _ _
 refine ⟨rest131.length,by simp,?_⟩
 exact ij hI131 ⟨i_130 + 1,rest131,rfl,drop_next hd131,by simp at hl131; omega,hL131,sf2,sf5,(Eq.trans rfl (congrArg (Value.int .i64) (i64_succ (n:=r_.rows.length) (by simp at hl131; omega) hlen131))),Z⟩
 rcases suf131 with _ | ⟨_,_⟩
 obtain rfl:=range_nil hL131
 refine W_exit (rj hR131 ⟨rfl,(Star.keepN 0 Z)⟩)
 exact absurd (of_decide_eq_false hc132) (by simp at hl131; omega)
 intro f w_ hR
 obtain ⟨rfl,Z⟩:=rk hR131 hR
 refine sq (aB rfl (nn (W_ret (retG1 (v1:=Bo false) Tryz.results155 rfl ?_))))
 obtain rfl:=so hF
 exact ⟨rfl,Z⟩
theorem s_l6Next_c {fu : Nat} {m : Model} {cells : List Int} {v0_0 : Value} {v0_1 : Value} {v1 : Value} {H : FH} {w : World} (Z : Star H w []) (h0_0 : (rS 3 RP.int).rel H [v0_0] m.sizes) (h0_1 : (rS 79 (rRule 3 23)).rel H [v0_1] m.rules) (h1 : (rS 3 RP.int).rel H [v1] cells) {r : (List Int) × Bool} (hF : s_l6Next fu m cells = some r) :
 C Tryz.prog 156 #[.agg #[v0_0,v0_1],v1] w fun v w'=>∃ (u1 : Value),v = .tuple #[u1,Bo r.2]∧Star H w' [oF 3 RP.int u1 r.1]:=by
 unfold s_l6Next at hF
 refine C_enter Tryz.func156 rfl Tryz.ntmps156 rfl (sq (L_box (v:=.agg #[v0_0,v0_1]) (cs:=#[v0_0,v0_1]) rfl rfl rfl Z (fun g3 w4 Z=>aV S0 rfl (aB rfl (nq ?_)))))
 obtain ⟨x8,hx8,hF⟩:=bind_some hF
 refine W_region (L_bs rfl parts0 (bs_23_0  ) Z (fun g12 w13 Z=>?_))
 have Z:=Star.mkRow (R:=(OR.frz RP.int)) [] [] 0 Z rfl rfl rfl (by decide)
 refine mV v1 rfl (L_app (v:=(Sl g12 0 0)) (u:=v1) rfl et_23 rfl rfl Z h1 hx8 (fun v15 w16 Z=>aV v15 rfl (nq (sq (mV v15 rfl (L_len rfl Tryz.underlying23 rfl (Star.len 0 Z rfl) (L_sub rfl rfl rfl (aI rfl (nn ?_)))))))))
 obtain ⟨j23,hL23,hF⟩:=bind_some hF
 obtain ⟨R23,hR23⟩:=exR fun f w_=>∃ out_19 : List Int,∃ i_20 : Int,∃ H21 : FH,j23 = .nx (out_19,i_20)∧Le H H21∧f 6 = v15∧Star H21 w_ ([oF 3 RP.int v15 out_19])
 refine W_join R23 ?_ ?_
 refine W_block ?_
 obtain ⟨I23,hI23⟩:=exI fun n f w_=>∃ out_19 : List Int,∃ i_20 : Int,∃ H21 : FH,whileL (s_l6Next_b1 m) n (out_19,i_20) = some j23∧Le H H21∧f 2 = Pt g3∧f 6 = v15∧f 7 = I i_20∧Star H21 w_ ([oF 3 RP.int v15 out_19,box g3 26 #[v0_0,v0_1]])
 refine W_loop I23 (n:=fu) ?_ ?_
 exact ij hI23 ⟨x8,i64 ((x8.length : Int) - 1),H,hL23,(Le.refl _),rfl,rfl,rfl,Z⟩
 intro n23 f w_ hI
 obtain ⟨out_19,i_20,H21,hL23,l22,sf2,sf6,sf7,Z⟩:=ik hI23 hI
 rcases n23 with _ | n23
 exact (while_zero hL23).elim
 obtain ⟨o23,hB23,hL23⟩:=while_succ hL23
 rw [s_l6Next_b1] at hB23
 refine W_seq (sq (mF sf7 rfl (L_geq rfl rfl rfl (nn (W_cond (b:=decide (i_20 ≥ 0)) rfl (fun hc24=>?_) (fun hc24=>?_))))))
 have hB23:=(ite_t hc24).symm.trans hB23
 refine W_skip (W_seq (W_block (W_seq (W_seq ?_))))
 obtain ⟨x25,hx25,hB23⟩:=bind_some hB23
 obtain ⟨x30,hx30,hB23⟩:=bind_some hB23
 obtain ⟨g36,cap_g36,hv37,_,_⟩:=Star.row 0 Z rfl hx25
 refine W_drawS 9 [isV (v15),isV (I i_20),isV (.pointer (some ⟨g36,Int.toNat i_20 * 1,none⟩)),isV (I x25),isV (Pt g3),isV (v0_0),isV (I i_20),isEl RP.int x30 0,isV (I x30)] [oF 3 RP.int v15 out_19,box g3 26 #[v0_0,v0_1]] [] ([]) [([],[]),([],[]),([],[]),([],[]),([],[]),([],[]),([],[]),([],[]),([],[])] (S:=[]) Tryz_mix (by kernel_rfl) rfl (by kernel_rfl) (amF_cons (mono_V _) (amF_cons (mono_V _) (amF_cons (mono_V _) (amF_cons (mono_V _) (amF_cons (mono_V _) (amF_cons (mono_V _) (amF_cons (mono_V _) (amF_cons (mono_el _ _ _) (amF_cons (mono_V _) amF_nil))))))))) Z ?_ (fun f w_ H35 hS35 hE35 hT35 Z=>?_)
 refine opsS_cons (fun f w_ _ _ s _ _ Z=>mF ((s 6 rfl).trans sf6) rfl (nO rfl rfl Z)) (opsS_cons (fun f w_ _ _ s _ _ Z=>mF ((s 7 rfl).trans sf7) rfl (nO rfl rfl Z)) (opsS_cons (fun f w_ _ _ _ _ p Z=>L_ixO (R:=(OR.frz RP.int)) (tb:=0) 0 rfl Tryz.underlying23 Tryz.sizeOf3 (p 0 18 rfl rfl) hv37 (by first | rfl | simp) (p 1 19 rfl rfl) hx25 (nO rfl rfl Z)) (opsS_cons ?_ ?_)))
 intro f w_ H35 X35 hS35 hE35 hP35 Z
 obtain ⟨cs44,hr44,hat44⟩:=Star.eltF 0 Z rfl hv37 hx25
 obtain rfl : _ = [_]:=hr44
 refine L_ld rfl Tryz.isAgg3 (hP35 2 20 rfl rfl) (At.cell hat44 (j:=0) rfl) (L_nil ⟨rfl,_,_,rfl,Le.refl _,fun _ _=>rfl,Z⟩)
 refine opsS_cons (fun f w_ _ _ s _ _ Z=>fA 0 fa_26_0 ((s 2 rfl).trans sf2) rfl (nO rfl rfl Z)) (opsS_cons (fun f w_ _ _ _ _ p Z=>ldB 1 Z Tryz.isAgg23 (p 4 22 rfl rfl) rfl rfl (nO rfl rfl Z)) (opsS_cons (fun f w_ _ _ s _ _ Z=>mF ((s 7 rfl).trans sf7) rfl (nO rfl rfl Z)) (opsS_cons ?_ ?_)))
 intro f w_ H35 X35 hS35 hE35 hP35 Z
 refine L_ix (r:=RP.int) rfl Tryz.underlying23 Tryz.sizeOf3 (hP35 5 23 rfl rfl) (RP.mono _ h0_0 (Le.trans l22 hE35)) (hP35 6 24 rfl rfl) hx30 (fun g46 o47 cs_g46 hrk_hat48 hat48=>?_)
 obtain rfl : _ = [_]:=hrk_hat48
 exact L_nil ⟨rfl,_,_,rfl,Le.refl _,fun _ _=>⟨_,_,_,rfl,rfl,hat48⟩,Z⟩
 refine opsS_cons ?_ ?_
 intro f w_ H35 X35 hS35 hE35 hP35 Z
 obtain ⟨g50,o50,cs50,hv50,hrk_hat50,hat50⟩:=(hP35 7 25 rfl rfl)
 obtain rfl : _ = [_]:=hrk_hat50
 refine L_ld rfl Tryz.isAgg3 hv50 (At.cell (AtH.at hat50 Z.sub) (j:=0) rfl) (L_nil ⟨rfl,_,_,rfl,Le.refl _,fun _ _=>rfl,Z⟩)
 exact opsS_nil
 refine L_lss rfl (hT35 3 21 rfl rfl) (hT35 8 26 rfl rfl) (nn (W_cond (b:=decide (x25 < x30)) rfl (fun hc52=>?_) (fun hc52=>?_)))
 have hB23:=(ite_t hc52).symm.trans hB23
 refine sq (mF ((hS35 6 rfl).trans sf6) rfl (mF ((hS35 7 rfl).trans sf7) rfl (mF ((hS35 6 rfl).trans sf6) rfl (mF ((hS35 7 rfl).trans sf7) rfl (L_ixO (R:=(OR.frz RP.int)) (tb:=0) 0 rfl Tryz.underlying23 Tryz.sizeOf3 rfl hv37 (by first | rfl | simp) rfl hx25 ?_)))))
 obtain ⟨cs56,hr56,hat56⟩:=Star.eltF 0 Z rfl hv37 hx25
 obtain rfl : _ = [_]:=hr56
 refine L_ld rfl Tryz.isAgg3 rfl (At.cell hat56 (j:=0) rfl) (L_add rfl rfl rfl (L_ixO (R:=(OR.frz RP.int)) (tb:=0) 0 rfl Tryz.underlying23 Tryz.sizeOf3 rfl hv37 (by first | rfl | simp) rfl hx25 ?_))
 have Z:=Star.addF (r:=RP.int) (cs:=[I (i64 (x25 + 1))]) (x:=(i64 (x25 + 1))) Z rfl
 refine L_stE1 (u:=I (i64 (x25 + 1))) rfl Tryz.sizeOf3 rfl rfl rfl hv37 Z hx25 (fun w58 Z=>?_)
 refine L_nil (sq (mF ((hS35 6 rfl).trans sf6) rfl (aV v15 rfl (aB rfl (nn (W_ret (retG2 (v1:=v15) (v2:=Bo true) Tryz.results156 rfl rfl ?_)))))))
 obtain rfl:=so hB23
 obtain rfl:=so hL23
 obtain rfl:=so hF
 exact ⟨v15,rfl,(Star.down (Star.keepN 1 Z) (Le.trans l22 hE35) (co closed_int c0))⟩
 have hB23:=(ite_f hc52).symm.trans hB23
 refine W_skip (W_region (mF ((hS35 6 rfl).trans sf6) rfl (mF ((hS35 7 rfl).trans sf7) rfl (L_ixO (R:=(OR.frz RP.int)) (tb:=0) 0 rfl Tryz.underlying23 Tryz.sizeOf3 rfl hv37 (by first | rfl | simp) rfl hx25 ?_))))
 have Z:=Star.addF (r:=RP.int) (cs:=[I 0]) (x:=0) Z rfl
 refine L_stE1 (u:=I 0) rfl Tryz.sizeOf3 rfl rfl rfl hv37 Z hx25 (fun w60 Z=>?_)
 refine nn (W_region (mF ((hS35 7 rfl).trans sf7) rfl (L_sub rfl rfl rfl (aI rfl (nn ?_)))))
 obtain rfl:=so hB23
 show ∃ m,m < _∧I23 m _ _
 refine ⟨n23,Nat.lt_succ_self _,?_⟩
 exact ij hI23 ⟨(out_19.set (Int.toNat i_20) 0),i64 (i_20 - 1),H35,hL23,(Le.trans l22 hE35),((hS35 2 rfl).trans sf2),((hS35 6 rfl).trans sf6),rfl,Z⟩
 have hB23:=(ite_f hc24).symm.trans hB23
 refine W_exit ?_
 obtain rfl:=so hB23
 obtain rfl:=so hL23
 exact rj hR23 ⟨out_19,i_20,H21,rfl,l22,sf6,(Star.keepN 1 Z)⟩
 intro f w_ hR
 obtain ⟨out_19,i_20,H21,rfl,l22,sf6,Z⟩:=rk hR23 hR
 refine sq (mF sf6 rfl (aV v15 rfl (aB rfl (nn (W_ret (retG2 (v1:=v15) (v2:=Bo false) Tryz.results156 rfl rfl ?_))))))
 obtain rfl:=so hF
 exact ⟨v15,rfl,(Star.down Z l22 (co closed_int c0))⟩
theorem s_l7Forbid_c {fu : Nat} {m : Model} {r_ : Rule} {v0_0 : Value} {v0_1 : Value} {v1_1 : Value} {v1_2 : Value} {v1_4 : Value} {H : FH} {w : World} (Z : Star H w []) (h0_0 : (rS 3 RP.int).rel H [v0_0] m.sizes) (h0_1 : (rS 79 (rRule 3 23)).rel H [v0_1] m.rules) (h1_1 : (rS 3 RP.int).rel H [v1_1] r_.vars) (h1_2 : (rS 3 RP.int).rel H [v1_2] r_.coefs) (h1_4 : (rS 23 (rS 3 RP.int)).rel H [v1_4] r_.rows) {r : List Con} (hF : s_l7Forbid fu m r_ = some r) :
 C Tryz.prog 111 #[.agg #[v0_0,v0_1],.agg #[I r_.kind,v1_1,v1_2,I r_.bound,v1_4]] w fun v w'=>∃ (u1 : Value),v = u1∧Star H w' [oS 73 (oCon 122) u1 r]:=by
 unfold s_l7Forbid at hF
 refine C_enter Tryz.func111 rfl Tryz.ntmps111 rfl (sq (L_box (v:=.agg #[v0_0,v0_1]) (cs:=#[v0_0,v0_1]) rfl rfl rfl Z (fun g5 w6 Z=>L_box (v:=.agg #[I r_.kind,v1_1,v1_2,I r_.bound,v1_4]) (cs:=#[I r_.kind,v1_1,v1_2,I r_.bound,v1_4]) rfl rfl rfl Z (fun g7 w8 Z=>aV S0 rfl (ns (L_bld rfl (parts0 ) (bld_26_  ) (L_al (cs:=#[S0,S0]) rfl Tryz.zeroValue26 rfl Z (fun g12 w13 Z=>L_staB (vs:=#[S0,S0]) (cs2:=#[S0,S0]) 0 rfl Tryz.sizeOf26 rfl rfl rfl (ones_cons rfl (ones_cons rfl ones_nil)) Z rfl (by show 0 + 2≤2; decide) rfl (fun w14 Z=>nq (sq (aI rfl (nn ?_))))))))))))
 have hlen20 : List.length r_.vars≤9223372036854775807:=len_le (slice_len h1_1)
 obtain ⟨j20,hL20,hF⟩:=bind_some hF
 obtain ⟨R20,hR20⟩:=exR fun f w_=>∃ g12_0_16 : List Int,∃ H18 : FH,∃ v16_g12_0 : Value,j20 = .nx g12_0_16∧Le H H18∧f 2 = Pt g5∧f 3 = Pt g7∧f 5 = Pt g12∧Star H18 w_ ([oF 3 RP.int v16_g12_0 g12_0_16,box g12 26 #[v16_g12_0,S0],box g7 79 #[I r_.kind,v1_1,v1_2,I r_.bound,v1_4],box g5 26 #[v0_0,v0_1]])
 refine W_join R20 ?_ ?_
 refine W_block ?_
 obtain ⟨I20,hI20⟩:=exI fun n f w_=>∃ i_15 : Nat,∃ suf20 : List Int,∃ g12_0_16 : List Int,∃ H18 : FH,∃ v16_g12_0 : Value,n = suf20.length∧List.drop i_15 r_.vars = suf20∧i_15 + suf20.length = r_.vars.length∧rangeL (s_l7Forbid_b1 m) suf20 i_15 g12_0_16 = some j20∧Le H H18∧f 2 = Pt g5∧f 3 = Pt g7∧f 5 = Pt g12∧f 6 = I i_15∧Star H18 w_ ([oF 3 RP.int v16_g12_0 g12_0_16,box g12 26 #[v16_g12_0,S0],box g7 79 #[I r_.kind,v1_1,v1_2,I r_.bound,v1_4],box g5 26 #[v0_0,v0_1]])
 have Z:=Star.addNil (R:=(OR.frz RP.int)) (e:=3) Z
 refine W_loop I20 (n:=r_.vars.length) ?_ ?_
 exact ij hI20 ⟨0,r_.vars,[],H,S0,rfl,rfl,Nat.zero_add _,hL20,(Le.refl _),rfl,rfl,rfl,rfl,Z⟩
 intro n20 f w_ hI
 obtain ⟨i_15,suf20,g12_0_16,H18,v16_g12_0,rfl,hd20,hl20,hL20,l19,sf2,sf3,sf5,sf6,Z⟩:=ik hI20 hI
 refine W_seq (sq (mF sf6 rfl (fA 1 fa_79_1 sf3 rfl (ldB 2 Z Tryz.isAgg23 rfl rfl rfl (L_len rfl Tryz.underlying23 rfl (slice_len (RP.mono _ h1_1 l19)) (L_lss rfl rfl rfl (nn (W_cond (b:=decide ((i_15 : Int) < (r_.vars.length : Int))) rfl (fun hc22=>?_) (fun hc22=>?_)))))))))
 have hlt20:=of_decide_eq_true hc22
 rcases suf20 with _ | ⟨x_20,rest20⟩
 exact absurd hlt20 (by simp at hl20; omega)
 obtain ⟨o20,hB20,hL20⟩:=range_cons hL20
 rw [s_l7Forbid_b1] at hB20
 have hix20:=drop_idx hd20
 refine W_skip (W_seq (W_block ?_))
 obtain ⟨x27,hx27,hB20⟩:=bind_some hB20
 obtain ⟨x35,hx35,hB20⟩:=bind_some hB20
 refine W_drawS 12 [isV (Pt g12),isV (v16_g12_0),isV (Pt g5),isV (v0_0),isV (Pq g7 1),isV (v1_1),isV (I i_15),isEl RP.int x_20 0,isV (I x_20),isEl RP.int x27 0,isV (I x27),anyF] [oF 3 RP.int v16_g12_0 g12_0_16,box g12 26 #[v16_g12_0,S0],box g7 79 #[I r_.kind,v1_1,v1_2,I r_.bound,v1_4],box g5 26 #[v0_0,v0_1]] [.made 11 34 (fun v_=>oF 3 RP.int v_ ([x27])) none] ([]) [([],[]),([],[]),([],[]),([],[]),([],[]),([],[]),([],[]),([],[]),([],[]),([],[]),([],[]),([],[0])] (S:=[(some 11,[34],none)]) Tryz_mix (by kernel_rfl) rfl (by kernel_rfl) (amF_cons (mono_V _) (amF_cons (mono_V _) (amF_cons (mono_V _) (amF_cons (mono_V _) (amF_cons (mono_V _) (amF_cons (mono_V _) (amF_cons (mono_V _) (amF_cons (mono_el _ _ _) (amF_cons (mono_V _) (amF_cons (mono_el _ _ _) (amF_cons (mono_V _) (amF_cons (mono_any) amF_nil)))))))))))) Z ?_ (fun f w_ H40 hS40 hE40 hT40 Z=>?_)
 refine opsS_cons (fun f w_ _ _ s _ _ Z=>fA 0 fa_26_0 ((s 5 rfl).trans sf5) rfl (nO rfl rfl Z)) (opsS_cons (fun f w_ _ _ _ _ p Z=>ldB 1 Z Tryz.isAgg23 (p 0 23 rfl rfl) rfl rfl (nO rfl rfl Z)) (opsS_cons (fun f w_ _ _ s _ _ Z=>fA 0 fa_26_0 ((s 2 rfl).trans sf2) rfl (nO rfl rfl Z)) (opsS_cons (fun f w_ _ _ _ _ p Z=>ldB 3 Z Tryz.isAgg23 (p 2 25 rfl rfl) rfl rfl (nO rfl rfl Z)) (opsS_cons (fun f w_ _ _ s _ _ Z=>fA 1 fa_79_1 ((s 3 rfl).trans sf3) rfl (nO rfl rfl Z)) (opsS_cons (fun f w_ _ _ _ _ p Z=>ldB 2 Z Tryz.isAgg23 (p 4 27 rfl rfl) rfl rfl (nO rfl rfl Z)) (opsS_cons (fun f w_ _ _ s _ _ Z=>mF ((s 6 rfl).trans sf6) rfl (nO rfl rfl Z)) (opsS_cons ?_ ?_)))))))
 intro f w_ H40 X40 hS40 hE40 hP40 Z
 refine L_ix (r:=RP.int) rfl Tryz.underlying23 Tryz.sizeOf3 (hP40 5 28 rfl rfl) (RP.mono _ h1_1 (Le.trans l19 hE40)) (hP40 6 29 rfl rfl) hix20 (fun g52 o53 cs_g52 hrk_hat54 hat54=>?_)
 obtain rfl : _ = [_]:=hrk_hat54
 exact L_nil ⟨rfl,_,_,rfl,Le.refl _,fun _ _=>⟨_,_,_,rfl,rfl,hat54⟩,Z⟩
 refine opsS_cons ?_ ?_
 intro f w_ H40 X40 hS40 hE40 hP40 Z
 obtain ⟨g56,o56,cs56,hv56,hrk_hat56,hat56⟩:=(hP40 7 30 rfl rfl)
 obtain rfl : _ = [_]:=hrk_hat56
 refine L_ld rfl Tryz.isAgg3 hv56 (At.cell (AtH.at hat56 Z.sub) (j:=0) rfl) (L_nil ⟨rfl,_,_,rfl,Le.refl _,fun _ _=>rfl,Z⟩)
 refine opsS_cons ?_ ?_
 intro f w_ H40 X40 hS40 hE40 hP40 Z
 refine L_ix (r:=RP.int) rfl Tryz.underlying23 Tryz.sizeOf3 (hP40 3 26 rfl rfl) (RP.mono _ h0_0 (Le.trans l19 hE40)) (hP40 8 31 rfl rfl) hx27 (fun g58 o59 cs_g58 hrk_hat60 hat60=>?_)
 obtain rfl : _ = [_]:=hrk_hat60
 exact L_nil ⟨rfl,_,_,rfl,Le.refl _,fun _ _=>⟨_,_,_,rfl,rfl,hat60⟩,Z⟩
 refine opsS_cons ?_ ?_
 intro f w_ H40 X40 hS40 hE40 hP40 Z
 obtain ⟨g62,o62,cs62,hv62,hrk_hat62,hat62⟩:=(hP40 9 32 rfl rfl)
 obtain rfl : _ = [_]:=hrk_hat62
 refine L_ld rfl Tryz.isAgg3 hv62 (At.cell (AtH.at hat62 Z.sub) (j:=0) rfl) (L_nil ⟨rfl,_,_,rfl,Le.refl _,fun _ _=>rfl,Z⟩)
 refine opsS_cons ?_ ?_
 intro f w_ H40 X40 hS40 hE40 hP40 Z
 refine L_bs rfl (parts1 (hP40 10 33 rfl rfl)) (bs_23_1_0 (I x27) rfl) Z (fun g64 w65 Z=>?_)
 have Z:=Star.addF (r:=RP.int) (cs:=[I x27]) (x:=x27) Z rfl
 have Z:=Star.mkRow (R:=(OR.frz RP.int)) [([I x27],x27)] [x27] 1 Z rfl rfl rfl (by decide)
 have Z:=Z.gets [4,4,4,4] rfl
 exact L_nil ⟨rfl,_,_,rfl,Le.refl _,fun _ _=>trivial,Z⟩
 exact opsS_nil
 have Z : Star H40 w_ ([oF 3 RP.int v16_g12_0 g12_0_16,box g12 26 #[v16_g12_0,S0],box g7 79 #[I r_.kind,v1_1,v1_2,I r_.bound,v1_4],box g5 26 #[v0_0,v0_1],oF 3 RP.int (f 34) ([x27])]):=Z
 have Z:=Z.gets [4,1] rfl
 refine L_appM (v:=v16_g12_0) (u:=(f 34)) rfl et_23 (hT40 1 24 rfl rfl) rfl Z hx35 (fun v68 w69 Z=>fA 0 fa_26_0 ((hS40 5 rfl).trans sf5) rfl (L_stB (v:=v68) (cs2:=#[v68,S0]) 1 rfl Tryz.sizeOf23 rfl rfl (one_len (Star.len 0 Z rfl)) Z rfl rfl rfl (fun w71 Z=>nn (W_region (mF ((hS40 6 rfl).trans sf6) rfl (L_add rfl rfl rfl (aI rfl (nn ?_))))))))
 obtain rfl:=so hB20
 have Z:=Z.gets [3,3,2,3] rfl
 show ∃ m,m < _∧I20 m _ _
 refine ⟨rest20.length,by simp,?_⟩
 exact ij hI20 ⟨i_15 + 1,rest20,x35,H40,v68,rfl,drop_next hd20,by simp at hl20; omega,hL20,(Le.trans l19 hE40),((hS40 2 rfl).trans sf2),((hS40 3 rfl).trans sf3),((hS40 5 rfl).trans sf5),(Eq.trans rfl (congrArg (Value.int .i64) (i64_succ (n:=r_.vars.length) (by simp at hl20; omega) hlen20))),Z⟩
 rcases suf20 with _ | ⟨_,_⟩
 obtain rfl:=range_nil hL20
 refine W_exit (rj hR20 ⟨g12_0_16,H18,v16_g12_0,rfl,l19,sf2,sf3,sf5,Z⟩)
 exact absurd (of_decide_eq_false hc22) (by simp at hl20; omega)
 intro f w_ hR
 obtain ⟨g12_0_16,H18,v16_g12_0,rfl,l19,sf2,sf3,sf5,Z⟩:=rk hR20 hR
 refine sq (L_bs rfl parts0 (bs_28_0  ) Z (fun g75 w76 Z=>?_))
 have Z:=Star.mkRow (R:=(OR.frz (rCon 122))) [] [] 0 Z rfl rfl rfl (by decide)
 refine aV (Sl g75 0 0) rfl (L_nil (W_seq ?_))
 obtain ⟨x78,hx78,hF⟩:=bind_some hF
 refine W_region (fA 1 fa_79_1 sf3 rfl (ldB 3 Z Tryz.isAgg23 rfl rfl rfl (L_len rfl Tryz.underlying23 rfl (slice_len (RP.mono _ h1_1 l19)) (L_mk (R:=(OR.frz RP.int)) (z0:=0) (zc:=[I 0]) rfl et_23 (by kernel_rfl) (fun _ _=>⟨rfl,rfl⟩) rfl rfl hx78 Z (fun v82 w83 Z=>aV v82 rfl (nq (sq (aB rfl (nn ?_)))))))))
 obtain ⟨j93,hL93,hF⟩:=bind_some hF
 obtain ⟨R93,hR93⟩:=exR fun f w_=>∃ out_86 : List Con,∃ row_88 : List Int,∃ more_90 : Bool,∃ H91 : FH,∃ v86_out : Value,j93 = .nx (out_86,row_88,more_90)∧Le H18 H91∧f 7 = v86_out∧Star H91 w_ ([oS 73 (oCon 122) v86_out out_86])
 refine W_join R93 ?_ ?_
 refine W_block ?_
 obtain ⟨I93,hI93⟩:=exI fun n f w_=>∃ out_86 : List Con,∃ row_88 : List Int,∃ more_90 : Bool,∃ H91 : FH,∃ v86_out v88_row : Value,whileL (s_l7Forbid_b2 fu m r_ g12_0_16) n (out_86,row_88,more_90) = some j93∧Le H18 H91∧f 2 = Pt g5∧f 3 = Pt g7∧f 5 = Pt g12∧f 7 = v86_out∧f 8 = v88_row∧f 9 = Bo more_90∧Star H91 w_ ([oS 73 (oCon 122) v86_out out_86,oF 3 RP.int v88_row row_88,oF 3 RP.int v16_g12_0 g12_0_16,box g12 26 #[v16_g12_0,S0],box g7 79 #[I r_.kind,v1_1,v1_2,I r_.bound,v1_4],box g5 26 #[v0_0,v0_1]])
 have Z:=Z.get 1 rfl
 have Z:=Star.recast (R:=(OR.frz (rCon 122))) (R':=(oCon 122)) rfl Z
 refine W_loop I93 (n:=fu) ?_ ?_
 exact ij hI93 ⟨[],x78,true,H18,(Sl g75 0 0),v82,hL93,(Le.refl _),sf2,sf3,sf5,rfl,rfl,rfl,Z⟩
 intro n93 f w_ hI
 obtain ⟨out_86,row_88,more_90,H91,v86_out,v88_row,hL93,l92,sf2,sf3,sf5,sf7,sf8,sf9,Z⟩:=ik hI93 hI
 rcases n93 with _ | n93
 exact (while_zero hL93).elim
 obtain ⟨o93,hB93,hL93⟩:=while_succ hL93
 rw [s_l7Forbid_b2] at hB93
 refine W_seq (sq (mF sf9 rfl (nn (W_cond (b:=more_90) rfl (fun hc94=>?_) (fun hc94=>?_)))))
 have hB93:=(ite_t hc94).symm.trans hB93
 refine W_skip (W_block (W_seq ?_))
 obtain ⟨x95,hx95,hB93⟩:=bind_some hB93
 refine W_region (fA 0 fa_26_0 sf2 rfl (ldB 5 Z Tryz.isAgg23 rfl rfl rfl (L_len rfl Tryz.underlying23 rfl (slice_len (RP.mono _ h0_0 (Le.trans l19 l92))) (L_mk (R:=(OR.frz RP.int)) (z0:=0) (zc:=[I 0]) rfl et_23 (by kernel_rfl) (fun _ _=>⟨rfl,rfl⟩) rfl rfl hx95 Z (fun v99 w100 Z=>aV v99 rfl (ns (L_bs rfl parts0 (bs_23_0  ) Z (fun g105 w106 Z=>?_))))))))
 have Z:=Star.mkRow (R:=(OR.frz RP.int)) [] [] 0 Z rfl rfl rfl (by decide)
 refine aV (Sl g105 0 0) rfl (nq (sq (aI rfl (nn ?_))))
 have hlen114 : List.length row_88≤9223372036854775807:=len_le (Star.len 3 Z rfl)
 obtain ⟨j114,hL114,hB93⟩:=bind_some hB93
 obtain ⟨R114,hR114⟩:=exR fun f w_=>∃ cells_109 : List Int,∃ lits_110 : List Int,∃ H112 : FH,∃ v110_lits : Value,j114 = .nx (cells_109,lits_110)∧Le H91 H112∧f 2 = Pt g5∧f 3 = Pt g7∧f 5 = Pt g12∧f 7 = v86_out∧f 8 = v88_row∧f 10 = v99∧f 11 = v110_lits∧Star H112 w_ ([oS 73 (oCon 122) v86_out out_86,oF 3 RP.int v88_row row_88,oF 3 RP.int v99 cells_109,oF 3 RP.int v110_lits lits_110,oF 3 RP.int v16_g12_0 g12_0_16,box g12 26 #[v16_g12_0,S0],box g7 79 #[I r_.kind,v1_1,v1_2,I r_.bound,v1_4],box g5 26 #[v0_0,v0_1]])
 refine W_join R114 ?_ ?_
 refine W_block ?_
 obtain ⟨I114,hI114⟩:=exI fun n f w_=>∃ i_108 : Nat,∃ suf114 : List Int,∃ cells_109 : List Int,∃ lits_110 : List Int,∃ H112 : FH,∃ v110_lits : Value,n = suf114.length∧List.drop i_108 row_88 = suf114∧i_108 + suf114.length = row_88.length∧rangeL (s_l7Forbid_b3 m r_) suf114 i_108 (cells_109,lits_110) = some j114∧Le H91 H112∧f 2 = Pt g5∧f 3 = Pt g7∧f 5 = Pt g12∧f 7 = v86_out∧f 8 = v88_row∧f 10 = v99∧f 11 = v110_lits∧f 12 = I i_108∧Star H112 w_ ([oS 73 (oCon 122) v86_out out_86,oF 3 RP.int v88_row row_88,oF 3 RP.int v99 cells_109,oF 3 RP.int v110_lits lits_110,oF 3 RP.int v16_g12_0 g12_0_16,box g12 26 #[v16_g12_0,S0],box g7 79 #[I r_.kind,v1_1,v1_2,I r_.bound,v1_4],box g5 26 #[v0_0,v0_1]])
 have Z:=Z.gets [7,7,7,7,4,5,7,7] rfl
 refine W_loop I114 (n:=row_88.length) ?_ ?_
 exact ij hI114 ⟨0,row_88,x95,[],H91,(Sl g105 0 0),rfl,rfl,Nat.zero_add _,hL114,(Le.refl _),sf2,sf3,sf5,sf7,sf8,rfl,rfl,rfl,Z⟩
 intro n114 f w_ hI
 obtain ⟨i_108,suf114,cells_109,lits_110,H112,v110_lits,rfl,hd114,hl114,hL114,l113,sf2,sf3,sf5,sf7,sf8,sf10,sf11,sf12,Z⟩:=ik hI114 hI
 refine W_seq (sq (mF sf12 rfl (mF sf8 rfl (L_len rfl Tryz.underlying23 rfl (Star.len 1 Z rfl) (L_lss rfl rfl rfl (nn (W_cond (b:=decide ((i_108 : Int) < (row_88.length : Int))) rfl (fun hc115=>?_) (fun hc115=>?_))))))))
 have hlt114:=of_decide_eq_true hc115
 rcases suf114 with _ | ⟨x_114,rest114⟩
 exact absurd hlt114 (by simp at hl114; omega)
 obtain ⟨o114,hB114,hL114⟩:=range_cons hL114
 rw [s_l7Forbid_b3] at hB114
 have hix114:=drop_idx hd114
 refine W_skip (W_seq (W_block (W_seq ?_)))
 obtain ⟨x116,hx116,hB114⟩:=bind_some hB114
 obtain ⟨x125,hx125,hB114⟩:=bind_some hB114
 obtain ⟨g134,cap_g134,hv135,_,_⟩:=Star.row 1 Z rfl hix114
 refine W_drawS 10 [isV (v99),isV (Pq g7 1),isV (v1_1),isV (I i_108),isEl RP.int x116 0,isV (I x116),isV (v88_row),isV (I i_108),isV (.pointer (some ⟨g134,Int.toNat (i_108 : Int) * 1,none⟩)),isV (I x_114)] [oS 73 (oCon 122) v86_out out_86,oF 3 RP.int v88_row row_88,oF 3 RP.int v99 cells_109,oF 3 RP.int v110_lits lits_110,oF 3 RP.int v16_g12_0 g12_0_16,box g12 26 #[v16_g12_0,S0],box g7 79 #[I r_.kind,v1_1,v1_2,I r_.bound,v1_4],box g5 26 #[v0_0,v0_1]] [] ([]) [([],[]),([],[]),([],[]),([],[]),([],[]),([],[]),([],[]),([],[]),([],[]),([],[])] (S:=[]) Tryz_mix (by kernel_rfl) rfl (by kernel_rfl) (amF_cons (mono_V _) (amF_cons (mono_V _) (amF_cons (mono_V _) (amF_cons (mono_V _) (amF_cons (mono_el _ _ _) (amF_cons (mono_V _) (amF_cons (mono_V _) (amF_cons (mono_V _) (amF_cons (mono_V _) (amF_cons (mono_V _) amF_nil)))))))))) Z ?_ (fun f w_ H129 hS129 hE129 hT129 Z=>?_)
 refine opsS_cons (fun f w_ _ _ s _ _ Z=>mF ((s 10 rfl).trans sf10) rfl (nO rfl rfl Z)) (opsS_cons (fun f w_ _ _ s _ _ Z=>fA 1 fa_79_1 ((s 3 rfl).trans sf3) rfl (nO rfl rfl Z)) (opsS_cons (fun f w_ _ _ _ _ p Z=>ldB 6 Z Tryz.isAgg23 (p 1 55 rfl rfl) rfl rfl (nO rfl rfl Z)) (opsS_cons (fun f w_ _ _ s _ _ Z=>mF ((s 12 rfl).trans sf12) rfl (nO rfl rfl Z)) (opsS_cons ?_ ?_))))
 intro f w_ H129 X129 hS129 hE129 hP129 Z
 refine L_ix (r:=RP.int) rfl Tryz.underlying23 Tryz.sizeOf3 (hP129 2 56 rfl rfl) (RP.mono _ h1_1 (Le.trans (Le.trans (Le.trans l19 l92) l113) hE129)) (hP129 3 57 rfl rfl) hx116 (fun g138 o139 cs_g138 hrk_hat140 hat140=>?_)
 obtain rfl : _ = [_]:=hrk_hat140
 exact L_nil ⟨rfl,_,_,rfl,Le.refl _,fun _ _=>⟨_,_,_,rfl,rfl,hat140⟩,Z⟩
 refine opsS_cons ?_ ?_
 intro f w_ H129 X129 hS129 hE129 hP129 Z
 obtain ⟨g142,o142,cs142,hv142,hrk_hat142,hat142⟩:=(hP129 4 58 rfl rfl)
 obtain rfl : _ = [_]:=hrk_hat142
 refine L_ld rfl Tryz.isAgg3 hv142 (At.cell (AtH.at hat142 Z.sub) (j:=0) rfl) (L_nil ⟨rfl,_,_,rfl,Le.refl _,fun _ _=>rfl,Z⟩)
 refine opsS_cons (fun f w_ _ _ s _ _ Z=>mF ((s 8 rfl).trans sf8) rfl (nO rfl rfl Z)) (opsS_cons (fun f w_ _ _ s _ _ Z=>mF ((s 12 rfl).trans sf12) rfl (nO rfl rfl Z)) (opsS_cons (fun f w_ _ _ _ _ p Z=>L_ixO (R:=(OR.frz RP.int)) (tb:=0) 0 rfl Tryz.underlying23 Tryz.sizeOf3 (p 6 60 rfl rfl) hv135 (by first | rfl | simp) (p 7 61 rfl rfl) hix114 (nO rfl rfl Z)) (opsS_cons ?_ ?_)))
 intro f w_ H129 X129 hS129 hE129 hP129 Z
 obtain ⟨cs144,hr144,hat144⟩:=Star.eltF 1 Z rfl hv135 hix114
 obtain rfl : _ = [_]:=hr144
 refine L_ld rfl Tryz.isAgg3 (hP129 8 62 rfl rfl) (At.cell hat144 (j:=0) rfl) (L_nil ⟨rfl,_,_,rfl,Le.refl _,fun _ _=>rfl,Z⟩)
 exact opsS_nil
 obtain ⟨g146,cap_g146,hv147,_,_⟩:=Star.row 2 Z rfl hx125
 refine L_ixO (R:=(OR.frz RP.int)) (tb:=0) 0 rfl Tryz.underlying23 Tryz.sizeOf3 (hT129 0 54 rfl rfl) hv147 (by first | rfl | simp) (hT129 5 59 rfl rfl) hx125 ?_
 have Z:=Star.addF (r:=RP.int) (cs:=[I x_114]) (x:=x_114) Z rfl
 have Z:=Z.gets [3,1] rfl
 refine L_stE1 (u:=I x_114) rfl Tryz.sizeOf3 rfl rfl (hT129 9 63 rfl rfl) hv147 Z hx125 (fun w148 Z=>?_)
 refine nn ?_
 obtain ⟨x160,hx160,hB114⟩:=bind_some hB114
 obtain ⟨x165,hx165,hB114⟩:=bind_some hB114
 refine W_drawS 14 [isV (v110_lits),isV (.agg #[v0_0,v0_1]),isV (Pq g7 1),isV (v1_1),isV (I i_108),isEl RP.int x116 0,isV (I x116),isV (v88_row),isV (I i_108),isV (.pointer (some ⟨g134,Int.toNat (i_108 : Int) * 1,none⟩)),isV (I x_114),isV (I x160),isV (I (i64 (-x160))),anyF] [oF 3 RP.int v99 (cells_109.set (Int.toNat x116) x_114),oS 73 (oCon 122) v86_out out_86,oF 3 RP.int v88_row row_88,oF 3 RP.int v110_lits lits_110,oF 3 RP.int v16_g12_0 g12_0_16,box g12 26 #[v16_g12_0,S0],box g7 79 #[I r_.kind,v1_1,v1_2,I r_.bound,v1_4],box g5 26 #[v0_0,v0_1]] [.made 13 78 (fun v_=>oF 3 RP.int v_ ([i64 (-x160)])) none] ([]) [([],[]),([],[]),([],[]),([],[]),([],[]),([],[]),([],[]),([],[]),([],[]),([],[]),([],[]),([],[]),([],[]),([],[0])] (S:=[(some 13,[78],none)]) Tryz_mix (by kernel_rfl) rfl (by kernel_rfl) (amF_cons (mono_V _) (amF_cons (mono_V _) (amF_cons (mono_V _) (amF_cons (mono_V _) (amF_cons (mono_V _) (amF_cons (mono_el _ _ _) (amF_cons (mono_V _) (amF_cons (mono_V _) (amF_cons (mono_V _) (amF_cons (mono_V _) (amF_cons (mono_V _) (amF_cons (mono_V _) (amF_cons (mono_V _) (amF_cons (mono_any) amF_nil)))))))))))))) Z ?_ (fun f w_ H169 hS169 hE169 hT169 Z=>?_)
 refine opsS_cons (fun f w_ _ _ s _ _ Z=>mF ((s 11 rfl).trans ((hS129 11 rfl).trans sf11)) rfl (nO rfl rfl Z)) (opsS_cons (fun f w_ _ _ s _ _ Z=>L_lda (cs:=[v0_0,v0_1]) rfl Tryz.isAgg26 Tryz.sizeOf26 ((s 2 rfl).trans ((hS129 2 rfl).trans sf2)) (At.sub0 (Blk.at (Star.blkAt 7 Z rfl)) 0 2) rfl (nO rfl rfl Z)) (opsS_cons (fun f w_ _ _ s _ _ Z=>fA 1 fa_79_1 ((s 3 rfl).trans ((hS129 3 rfl).trans sf3)) rfl (nO rfl rfl Z)) (opsS_cons (fun f w_ _ _ _ _ p Z=>ldB 6 Z Tryz.isAgg23 (p 2 67 rfl rfl) rfl rfl (nO rfl rfl Z)) (opsS_cons (fun f w_ _ _ s _ _ Z=>mF ((s 12 rfl).trans ((hS129 12 rfl).trans sf12)) rfl (nO rfl rfl Z)) (opsS_cons ?_ ?_)))))
 intro f w_ H169 X169 hS169 hE169 hP169 Z
 refine L_ix (r:=RP.int) rfl Tryz.underlying23 Tryz.sizeOf3 (hP169 3 68 rfl rfl) (RP.mono _ h1_1 (Le.trans (Le.trans (Le.trans (Le.trans l19 l92) l113) hE129) hE169)) (hP169 4 69 rfl rfl) hx116 (fun g185 o186 cs_g185 hrk_hat187 hat187=>?_)
 obtain rfl : _ = [_]:=hrk_hat187
 exact L_nil ⟨rfl,_,_,rfl,Le.refl _,fun _ _=>⟨_,_,_,rfl,rfl,hat187⟩,Z⟩
 refine opsS_cons ?_ ?_
 intro f w_ H169 X169 hS169 hE169 hP169 Z
 obtain ⟨g189,o189,cs189,hv189,hrk_hat189,hat189⟩:=(hP169 5 70 rfl rfl)
 obtain rfl : _ = [_]:=hrk_hat189
 refine L_ld rfl Tryz.isAgg3 hv189 (At.cell (AtH.at hat189 Z.sub) (j:=0) rfl) (L_nil ⟨rfl,_,_,rfl,Le.refl _,fun _ _=>rfl,Z⟩)
 refine opsS_cons (fun f w_ _ _ s _ _ Z=>mF ((s 8 rfl).trans ((hS129 8 rfl).trans sf8)) rfl (nO rfl rfl Z)) (opsS_cons (fun f w_ _ _ s _ _ Z=>mF ((s 12 rfl).trans ((hS129 12 rfl).trans sf12)) rfl (nO rfl rfl Z)) (opsS_cons (fun f w_ _ _ _ _ p Z=>L_ixO (R:=(OR.frz RP.int)) (tb:=0) 0 rfl Tryz.underlying23 Tryz.sizeOf3 (p 7 72 rfl rfl) hv135 (by first | rfl | simp) (p 8 73 rfl rfl) hix114 (nO rfl rfl Z)) (opsS_cons ?_ ?_)))
 intro f w_ H169 X169 hS169 hE169 hP169 Z
 obtain ⟨cs191,hr191,hat191⟩:=Star.eltF 2 Z rfl hv135 hix114
 obtain rfl : _ = [_]:=hr191
 refine L_ld rfl Tryz.isAgg3 (hP169 9 74 rfl rfl) (At.cell hat191 (j:=0) rfl) (L_nil ⟨rfl,_,_,rfl,Le.refl _,fun _ _=>rfl,Z⟩)
 refine opsS_cons ?_ ?_
 intro f w_ H169 X169 hS169 hE169 hP169 Z
 obtain ⟨H193b,l194,s195,z196,k197⟩:=Z.borrow
 refine L_call rfl Tryz.call70 (ops3 (hP169 1 66 rfl rfl) (hP169 6 71 rfl rfl) (hP169 10 75 rfl rfl)) (s_l7Var_c (m:=m) (cell:=x116) (value:=x_114) s195 (RP.mono _ h0_0 (Le.trans (Le.trans (Le.trans (Le.trans (Le.trans l19 l92) l113) hE129) hE169) l194)) (RP.mono _ h0_1 (Le.trans (Le.trans (Le.trans (Le.trans (Le.trans l19 l92) l113) hE129) hE169) l194)) hx160) ?_
 rintro _ w198 ⟨rfl,Z⟩
 have Z:=k197 Z c0
 exact L_nil ⟨rfl,_,_,rfl,Le.refl _,fun _ _=>rfl,Z⟩
 refine opsS_cons (fun f w_ _ _ _ _ p Z=>L_neg rfl (p 11 76 rfl rfl) (nO rfl rfl Z)) (opsS_cons ?_ ?_)
 intro f w_ H169 X169 hS169 hE169 hP169 Z
 refine L_bs rfl (parts1 (hP169 12 77 rfl rfl)) (bs_23_1_0 (I (i64 (-x160))) rfl) Z (fun g199 w200 Z=>?_)
 have Z:=Star.addF (r:=RP.int) (cs:=[I (i64 (-x160))]) (x:=(i64 (-x160))) Z rfl
 have Z:=Star.mkRow (R:=(OR.frz RP.int)) [([I (i64 (-x160))],i64 (-x160))] [i64 (-x160)] 1 Z rfl rfl rfl (by decide)
 have Z:=Z.gets [8,8,8,8,8,8,8,8] rfl
 exact L_nil ⟨rfl,_,_,rfl,Le.refl _,fun _ _=>trivial,Z⟩
 exact opsS_nil
 have Z : Star H169 w_ ([oF 3 RP.int v99 (cells_109.set (Int.toNat x116) x_114),oS 73 (oCon 122) v86_out out_86,oF 3 RP.int v88_row row_88,oF 3 RP.int v110_lits lits_110,oF 3 RP.int v16_g12_0 g12_0_16,box g12 26 #[v16_g12_0,S0],box g7 79 #[I r_.kind,v1_1,v1_2,I r_.bound,v1_4],box g5 26 #[v0_0,v0_1],oF 3 RP.int (f 78) ([i64 (-x160)])]):=Z
 have Z:=Z.gets [8,4] rfl
 refine L_appM (v:=v110_lits) (u:=(f 78)) rfl et_23 (hT169 0 65 rfl rfl) rfl Z hx165 (fun v203 w204 Z=>aV v203 rfl (nn (W_region (mF ((hS169 12 rfl).trans ((hS129 12 rfl).trans sf12)) rfl (L_add rfl rfl rfl (aI rfl (nn ?_)))))))
 obtain rfl:=so hB114
 have Z:=Z.gets [7,7,7,7,4,5,7,7] rfl
 show ∃ m,m < _∧I114 m _ _
 refine ⟨rest114.length,by simp,?_⟩
 exact ij hI114 ⟨i_108 + 1,rest114,(cells_109.set (Int.toNat x116) x_114),x165,H169,v203,rfl,drop_next hd114,by simp at hl114; omega,hL114,(Le.trans (Le.trans l113 hE129) hE169),((hS169 2 rfl).trans ((hS129 2 rfl).trans sf2)),((hS169 3 rfl).trans ((hS129 3 rfl).trans sf3)),((hS169 5 rfl).trans ((hS129 5 rfl).trans sf5)),((hS169 7 rfl).trans ((hS129 7 rfl).trans sf7)),((hS169 8 rfl).trans ((hS129 8 rfl).trans sf8)),((hS169 10 rfl).trans ((hS129 10 rfl).trans sf10)),rfl,(Eq.trans rfl (congrArg (Value.int .i64) (i64_succ (n:=row_88.length) (by simp at hl114; omega) hlen114))),Z⟩
 rcases suf114 with _ | ⟨_,_⟩
 obtain rfl:=range_nil hL114
 refine W_exit (rj hR114 ⟨cells_109,lits_110,H112,v110_lits,rfl,l113,sf2,sf3,sf5,sf7,sf8,sf10,sf11,Z⟩)
 exact absurd (of_decide_eq_false hc115) (by simp at hl114; omega)
 intro f w_ hR
 obtain ⟨cells_109,lits_110,H112,v110_lits,rfl,l113,sf2,sf3,sf5,sf7,sf8,sf10,sf11,Z⟩:=rk hR114 hR
 refine W_seq (W_seq ?_)
 obtain ⟨x212,hx212,hB93⟩:=bind_some hB93
 refine W_region (L_lda (cs:=[I r_.kind,v1_1,v1_2,I r_.bound,v1_4]) rfl Tryz.isAgg79 Tryz.sizeOf79 sf3 (At.sub0 (Blk.at (Star.blkAt 6 Z rfl)) 0 5) rfl (mF sf10 rfl ?_))
 obtain ⟨H214b,l215,s216,z217,k218⟩:=Z.borrow
 have hb219 : (rS 3 RP.int).rel H214b [v99] cells_109:=fz_own 2 z217 rfl
 refine L_call rfl Tryz.call155 (ops2 rfl rfl) (s_l6Holds_c (r_:=r_) (cells:=cells_109) s216 (RP.mono _ h1_1 (Le.trans (Le.trans (Le.trans l19 l92) l113) l215)) (RP.mono _ h1_2 (Le.trans (Le.trans (Le.trans l19 l92) l113) l215)) (RP.mono _ h1_4 (Le.trans (Le.trans (Le.trans l19 l92) l113) l215)) hb219 hx212) ?_
 rintro _ w220 ⟨rfl,Z⟩
 have Z:=k218 Z c0
 refine L_not_ rfl rfl (nn ?_)
 obtain ⟨out_221,hA223,hB93⟩:=bind_some hB93
 obtain ⟨R223,hR223⟩:=exR fun f w_=>∃ v221_out : Value,f 2 = Pt g5∧f 3 = Pt g7∧f 5 = Pt g12∧f 7 = v221_out∧f 8 = v88_row∧Star H112 w_ ([oS 73 (oCon 122) v221_out out_221,oF 3 RP.int v88_row row_88,oF 3 RP.int v16_g12_0 g12_0_16,box g12 26 #[v16_g12_0,S0],box g7 79 #[I r_.kind,v1_1,v1_2,I r_.bound,v1_4],box g5 26 #[v0_0,v0_1]])
 refine W_join R223 ?_ ?_
 refine W_cond (b:=(!x212)) rfl (fun hc224=>?_) (fun hc224=>?_)
 have hA223:=(ite_t hc224).symm.trans hA223
 refine W_seq ?_
 obtain ⟨x231,hx231,hA223⟩:=bind_some hA223
 refine W_region (mF sf11 rfl ?_)
 obtain ⟨H237b,l238,s239,z240,k241⟩:=Z.borrow
 have hb242 : (rS 3 RP.int).rel H237b [v110_lits] lits_110:=fz_own 3 z240 rfl
 refine L_call rfl Tryz.call107 (ops1 rfl) (s_ClauseOf_c (lits:=lits_110) s239 hb242 hx231) ?_
 rintro _ w243 ⟨r243_0,rfl,Z⟩
 have Z:=k241 Z (co closed_term c0)
 refine mV (.tuple #[.agg #[r243_0,I x231.1.bound],Bo x231.2]) rfl (L_ex (v:=.agg #[r243_0,I x231.1.bound]) rfl rfl rfl (L_ex (v:=Bo x231.2) rfl rfl rfl (L_al (cs:=#[S0,I 0]) rfl Tryz.zeroValue73 rfl Z (fun g245 w246 Z=>L_staB (vs:=#[r243_0,I x231.1.bound]) (cs2:=#[r243_0,I x231.1.bound]) 0 rfl Tryz.sizeOf73 rfl rfl rfl (ones_cons (one_len (Star.len 1 Z rfl)) (ones_cons rfl ones_nil)) Z rfl (by show 0 + 2≤2; decide) rfl (fun w247 Z=>aB rfl (nn ?_))))))
 obtain ⟨x251,hx251,hA223⟩:=bind_some hA223
 refine W_region (mF sf7 rfl (L_lda (cs:=[r243_0,I x231.1.bound]) rfl Tryz.isAgg73 Tryz.sizeOf73 rfl (At.sub0 (Blk.at (Star.blkAt 0 Z rfl)) 0 2) rfl (L_bs rfl (parts1 rfl) (bs_28_1_2 (r243_0) (I x231.1.bound) ) Z (fun g255 w256 Z=>?_))))
 have Z:=Z.get 2 rfl
 have Z:=oCon_close (c:=x231.1) Z
 have Z:=Star.mkRow (R:=(oCon 122)) [([r243_0,I x231.1.bound],x231.1)] [x231.1] 1 Z rfl rfl rfl (by decide)
 have Z:=Z.get 2 rfl
 refine L_appM (v:=v86_out) (u:=(Sl g255 1 1)) rfl et_28 rfl rfl Z hx251 (fun v258 w259 Z=>aV v258 rfl (nn ?_))
 obtain rfl:=so hA223
 have Z:=Z.gets [8,8,8,8,6,5] rfl
 exact rj hR223 ⟨v258,sf2,sf3,sf5,rfl,sf8,(Star.keepN 6 Z)⟩
 have hA223:=(ite_f hc224).symm.trans hA223
 refine W_skip ?_
 obtain rfl:=so hA223
 have Z:=Z.gets [7,7,7,7,5,5] rfl
 exact rj hR223 ⟨v86_out,sf2,sf3,sf5,sf7,sf8,(Star.keepN 6 Z)⟩
 intro f w_ hR
 obtain ⟨v221_out,sf2,sf3,sf5,sf7,sf8,Z⟩:=rk hR223 hR
 obtain ⟨x268,hx268,hB93⟩:=bind_some hB93
 refine W_region (L_lda (cs:=[v16_g12_0,S0]) rfl Tryz.isAgg26 Tryz.sizeOf26 sf5 (At.sub0 (Blk.at (Star.blkAt 3 Z rfl)) 0 2) rfl (mF sf8 rfl ?_))
 obtain ⟨H271b,l272,s273,z274,k275⟩:=Z.borrow
 have hb276 : (rS 3 RP.int).rel H271b [v16_g12_0] g12_0_16:=fz_own 2 z274 rfl
 have hb277 : (rS 3 RP.int).rel H271b [v88_row] row_88:=fz_own 1 z274 rfl
 refine L_call rfl Tryz.call156 (ops2 rfl rfl) (s_l6Next_c (m:=({ sizes:=g12_0_16,rules:=[] } : Model)) (cells:=row_88) s273 hb276 (rel_nil _ _ _) hb277 hx268) ?_
 rintro _ w278 ⟨r278_0,rfl,Z⟩
 have Z:=k275 Z (co closed_int c0)
 refine mV (.tuple #[r278_0,Bo x268.2]) rfl (L_ex (v:=r278_0) rfl rfl rfl (L_ex (v:=Bo x268.2) rfl rfl rfl (aV r278_0 rfl (aB rfl (nn ?_)))))
 obtain rfl:=so hB93
 have Z:=Z.gets [6,6,6,6,4,5] rfl
 show ∃ m,m < _∧I93 m _ _
 refine ⟨n93,Nat.lt_succ_self _,?_⟩
 exact ij hI93 ⟨out_221,x268.1,x268.2,H112,v221_out,r278_0,hL93,(Le.trans l92 l113),sf2,sf3,sf5,sf7,rfl,rfl,(Star.keepN 6 Z)⟩
 have hB93:=(ite_f hc94).symm.trans hB93
 refine W_exit ?_
 obtain rfl:=so hB93
 obtain rfl:=so hL93
 exact rj hR93 ⟨out_86,row_88,more_90,H91,v86_out,rfl,l92,sf7,(Star.keepN 1 Z)⟩
 intro f w_ hR
 obtain ⟨out_86,row_88,more_90,H91,v86_out,rfl,l92,sf7,Z⟩:=rk hR93 hR
 refine sq (mF sf7 rfl (aV v86_out rfl (nn (W_ret (retG1 (v1:=v86_out) Tryz.results111 rfl ?_)))))
 obtain rfl:=so hF
 exact ⟨v86_out,rfl,(Star.down Z (Le.trans l19 l92) (co closed_oCon c0))⟩
theorem s_l7Rule_c {fu : Nat} {m : Model} {r_ : Rule} {v0_0 : Value} {v0_1 : Value} {v1_1 : Value} {v1_2 : Value} {v1_4 : Value} {H : FH} {w : World} (Z : Star H w []) (h0_0 : (rS 3 RP.int).rel H [v0_0] m.sizes) (h0_1 : (rS 79 (rRule 3 23)).rel H [v0_1] m.rules) (h1_1 : (rS 3 RP.int).rel H [v1_1] r_.vars) (h1_2 : (rS 3 RP.int).rel H [v1_2] r_.coefs) (h1_4 : (rS 23 (rS 3 RP.int)).rel H [v1_4] r_.rows) {r : List Con} (hF : s_l7Rule fu m r_ = some r) :
 C Tryz.prog 53 #[.agg #[v0_0,v0_1],.agg #[I r_.kind,v1_1,v1_2,I r_.bound,v1_4]] w fun v w'=>∃ (u1 : Value),v = u1∧Star H w' [oS 73 (oCon 122) u1 r]:=by
 unfold s_l7Rule at hF
 refine C_enter Tryz.func53 rfl Tryz.ntmps53 rfl (sq (L_box (v:=.agg #[v0_0,v0_1]) (cs:=#[v0_0,v0_1]) rfl rfl rfl Z (fun g5 w6 Z=>L_box (v:=.agg #[I r_.kind,v1_1,v1_2,I r_.bound,v1_4]) (cs:=#[I r_.kind,v1_1,v1_2,I r_.bound,v1_4]) rfl rfl rfl Z (fun g7 w8 Z=>aV S0 rfl (nq (sq (fA 0 fa_79_0 rfl rfl (ldB 0 Z Tryz.isAgg3 rfl rfl rfl (nn (W_block (sq (L_eql rfl rfl rfl (aB rfl (nn (W_cond (b:=(r_.kind == 1)) rfl (fun hc9=>?_) (fun hc9=>?_))))))))))))))))
 have hF:=(ite_t hc9).symm.trans hF
 refine W_seq ?_
 obtain ⟨x15,hx15,hF⟩:=bind_some hF
 refine W_region (L_lda (cs:=[v0_0,v0_1]) rfl Tryz.isAgg26 Tryz.sizeOf26 rfl (At.sub0 (Blk.at (Star.blkAt 1 Z rfl)) 0 2) rfl (L_lda (cs:=[I r_.kind,v1_1,v1_2,I r_.bound,v1_4]) rfl Tryz.isAgg79 Tryz.sizeOf79 rfl (At.sub0 (Blk.at (Star.blkAt 0 Z rfl)) 0 5) rfl ?_))
 obtain ⟨H18b,l19,s20,z21,k22⟩:=Z.borrow
 refine L_call rfl Tryz.call109 (ops2 rfl rfl) (s_l7Linear_c (m:=m) (r_:=r_) s20 (RP.mono _ h0_0 l19) (RP.mono _ h0_1 l19) (RP.mono _ h1_1 l19) (RP.mono _ h1_2 l19) (RP.mono _ h1_4 l19) hx15) ?_
 rintro r23_0 w23 ⟨_,rfl,Z⟩
 have Z:=k22 Z (co closed_oCon c0)
 refine aV r23_0 rfl (nn (W_ret (retG1 (v1:=r23_0) Tryz.results53 rfl ?_)))
 obtain rfl:=so hF
 exact ⟨r23_0,rfl,(Star.keepN 1 Z)⟩
 have hF:=(ite_f hc9).symm.trans hF
 refine sq (L_eql rfl rfl rfl (aB rfl (nn (W_cond (b:=(r_.kind == 2)) rfl (fun hc25=>?_) (fun hc25=>?_)))))
 have hF:=(ite_t hc25).symm.trans hF
 refine W_seq ?_
 obtain ⟨x31,hx31,hF⟩:=bind_some hF
 refine W_region (L_lda (cs:=[v0_0,v0_1]) rfl Tryz.isAgg26 Tryz.sizeOf26 rfl (At.sub0 (Blk.at (Star.blkAt 1 Z rfl)) 0 2) rfl (L_lda (cs:=[I r_.kind,v1_1,v1_2,I r_.bound,v1_4]) rfl Tryz.isAgg79 Tryz.sizeOf79 rfl (At.sub0 (Blk.at (Star.blkAt 0 Z rfl)) 0 5) rfl ?_))
 obtain ⟨H34b,l35,s36,z37,k38⟩:=Z.borrow
 refine L_call rfl Tryz.call110 (ops2 rfl rfl) (s_l7Different_c (m:=m) (r_:=r_) s36 (RP.mono _ h0_0 l35) (RP.mono _ h0_1 l35) (RP.mono _ h1_1 l35) (RP.mono _ h1_2 l35) (RP.mono _ h1_4 l35) hx31) ?_
 rintro r39_0 w39 ⟨_,rfl,Z⟩
 have Z:=k38 Z (co closed_oCon c0)
 refine aV r39_0 rfl (nn (W_ret (retG1 (v1:=r39_0) Tryz.results53 rfl ?_)))
 obtain rfl:=so hF
 exact ⟨r39_0,rfl,(Star.keepN 1 Z)⟩
 have hF:=(ite_f hc25).symm.trans hF
 refine W_skip (W_seq ?_)
 obtain ⟨x46,hx46,hF⟩:=bind_some hF
 refine W_region (L_lda (cs:=[v0_0,v0_1]) rfl Tryz.isAgg26 Tryz.sizeOf26 rfl (At.sub0 (Blk.at (Star.blkAt 1 Z rfl)) 0 2) rfl (L_lda (cs:=[I r_.kind,v1_1,v1_2,I r_.bound,v1_4]) rfl Tryz.isAgg79 Tryz.sizeOf79 rfl (At.sub0 (Blk.at (Star.blkAt 0 Z rfl)) 0 5) rfl ?_))
 obtain ⟨H49b,l50,s51,z52,k53⟩:=Z.borrow
 refine L_call rfl Tryz.call111 (ops2 rfl rfl) (s_l7Forbid_c (m:=m) (r_:=r_) s51 (RP.mono _ h0_0 l50) (RP.mono _ h0_1 l50) (RP.mono _ h1_1 l50) (RP.mono _ h1_2 l50) (RP.mono _ h1_4 l50) hx46) ?_
 rintro r54_0 w54 ⟨_,rfl,Z⟩
 have Z:=k53 Z (co closed_oCon c0)
 refine aV r54_0 rfl (nn (W_ret (retG1 (v1:=r54_0) Tryz.results53 rfl ?_)))
 obtain rfl:=so hF
 exact ⟨r54_0,rfl,(Star.keepN 1 Z)⟩
theorem s_EncodeModel_c {fu : Nat} {m : Model} {v0_0 : Value} {v0_1 : Value} {H : FH} {w : World} (Z : Star H w []) (h0_0 : (rS 3 RP.int).rel H [v0_0] m.sizes) (h0_1 : (rS 79 (rRule 3 23)).rel H [v0_1] m.rules) {r : (List Con) × Bool} (hF : s_EncodeModel fu m = some r) :
 C Tryz.prog 14 #[.agg #[v0_0,v0_1]] w fun v w'=>∃ (u1 : Value),v = .tuple #[u1,Bo r.2]∧Star H w' [oS 73 (oCon 122) u1 r.1]:=by
 unfold s_EncodeModel at hF
 refine C_enter Tryz.func14 rfl Tryz.ntmps14 rfl (sq (L_box (v:=.agg #[v0_0,v0_1]) (cs:=#[v0_0,v0_1]) rfl rfl rfl Z (fun g3 w4 Z=>aV S0 rfl (aB rfl (nq (W_seq ?_))))))
 obtain ⟨x10,hx10,hF⟩:=bind_some hF
 refine W_region (L_lda (cs:=[v0_0,v0_1]) rfl Tryz.isAgg26 Tryz.sizeOf26 rfl (At.sub0 (Blk.at (Star.blkAt 0 Z rfl)) 0 2) rfl ?_)
 obtain ⟨H12b,l13,s14,z15,k16⟩:=Z.borrow
 refine L_call rfl Tryz.call51 (ops1 rfl) (s_ModelValid_c (m:=m) s14 (RP.mono _ h0_0 l13) (RP.mono _ h0_1 l13) hx10) ?_
 rintro _ w17 ⟨rfl,Z⟩
 have Z:=k16 Z c0
 refine L_not_ rfl rfl (nn (W_cond (b:=(!x10)) rfl (fun hc18=>?_) (fun hc18=>?_)))
 have hF:=(ite_t hc18).symm.trans hF
 refine sq (L_bs rfl parts0 (bs_28_0  ) Z (fun g22 w23 Z=>?_))
 have Z:=Star.mkRow (R:=(OR.frz (rCon 122))) [] [] 0 Z rfl rfl rfl (by decide)
 refine aV (Sl g22 0 0) rfl (aB rfl (nn (W_ret (retG2 (v1:=(Sl g22 0 0)) (v2:=Bo false) Tryz.results14 rfl rfl ?_))))
 obtain rfl:=so hF
 have Z:=Star.recast (R:=(OR.frz (rCon 122))) (R':=(oCon 122)) rfl Z
 exact ⟨(Sl g22 0 0),rfl,(Star.keepN 1 Z)⟩
 have hF:=(ite_f hc18).symm.trans hF
 refine W_skip (sq (L_bs rfl parts0 (bs_28_0  ) Z (fun g28 w29 Z=>?_)))
 have Z:=Star.mkRow (R:=(OR.frz (rCon 122))) [] [] 0 Z rfl rfl rfl (by decide)
 refine aV (Sl g28 0 0) rfl (nq (sq (aI rfl (nn ?_))))
 have hlen34 : List.length m.sizes≤9223372036854775807:=len_le (slice_len h0_0)
 obtain ⟨j34,hL34,hF⟩:=bind_some hF
 obtain ⟨R34,hR34⟩:=exR fun f w_=>∃ out_32 : List Con,∃ v32_out : Value,j34 = .nx out_32∧f 1 = Pt g3∧f 4 = v32_out∧Star H w_ ([oS 73 (oCon 122) v32_out out_32,box g3 26 #[v0_0,v0_1]])
 refine W_join R34 ?_ ?_
 refine W_block ?_
 obtain ⟨I34,hI34⟩:=exI fun n f w_=>∃ i_31 : Nat,∃ suf34 : List Int,∃ out_32 : List Con,∃ v32_out : Value,n = suf34.length∧List.drop i_31 m.sizes = suf34∧i_31 + suf34.length = m.sizes.length∧rangeL (s_EncodeModel_b1 m) suf34 i_31 out_32 = some j34∧f 1 = Pt g3∧f 4 = v32_out∧f 5 = I i_31∧Star H w_ ([oS 73 (oCon 122) v32_out out_32,box g3 26 #[v0_0,v0_1]])
 have Z:=Star.recast (R:=(OR.frz (rCon 122))) (R':=(oCon 122)) rfl Z
 refine W_loop I34 (n:=m.sizes.length) ?_ ?_
 exact ij hI34 ⟨0,m.sizes,[],(Sl g28 0 0),rfl,rfl,Nat.zero_add _,hL34,rfl,rfl,rfl,Z⟩
 intro n34 f w_ hI
 obtain ⟨i_31,suf34,out_32,v32_out,rfl,hd34,hl34,hL34,sf1,sf4,sf5,Z⟩:=ik hI34 hI
 refine W_seq (sq (mF sf5 rfl (fA 0 fa_26_0 sf1 rfl (ldB 1 Z Tryz.isAgg23 rfl rfl rfl (L_len rfl Tryz.underlying23 rfl (slice_len h0_0) (L_lss rfl rfl rfl (nn (W_cond (b:=decide ((i_31 : Int) < (m.sizes.length : Int))) rfl (fun hc35=>?_) (fun hc35=>?_)))))))))
 have hlt34:=of_decide_eq_true hc35
 rcases suf34 with _ | ⟨x_34,rest34⟩
 exact absurd hlt34 (by simp at hl34; omega)
 obtain ⟨o34,hB34,hL34⟩:=range_cons hL34
 rw [s_EncodeModel_b1] at hB34
 have hix34:=drop_idx hd34
 refine W_skip (W_seq (W_block ?_))
 obtain ⟨x41,hx41,hB34⟩:=bind_some hB34
 obtain ⟨x44,hx44,hB34⟩:=bind_some hB34
 refine W_region (mF sf4 rfl (L_lda (cs:=[v0_0,v0_1]) rfl Tryz.isAgg26 Tryz.sizeOf26 sf1 (At.sub0 (Blk.at (Star.blkAt 1 Z rfl)) 0 2) rfl (mF sf5 rfl ?_)))
 obtain ⟨H48b,l49,s50,z51,k52⟩:=Z.borrow
 refine L_call rfl Tryz.call52 (ops2 rfl rfl) (s_l7Cell_c (m:=m) (cell:=(i_31 : Int)) s50 (RP.mono _ h0_0 l49) (RP.mono _ h0_1 l49) hx41) ?_
 rintro r53_0 w53 ⟨_,rfl,Z⟩
 have Z:=k52 Z (co closed_oCon c0)
 have Z:=Z.get 1 rfl
 refine L_appM (v:=v32_out) (u:=r53_0) rfl et_28 rfl rfl Z hx44 (fun v55 w56 Z=>aV v55 rfl (nn (W_region (mF sf5 rfl (L_add rfl rfl rfl (aI rfl (nn ?_)))))))
 obtain rfl:=so hB34
 show ∃ m,m < _∧I34 m _ _
 refine ⟨rest34.length,by simp,?_⟩
 exact ij hI34 ⟨i_31 + 1,rest34,x44,v55,rfl,drop_next hd34,by simp at hl34; omega,hL34,sf1,rfl,(Eq.trans rfl (congrArg (Value.int .i64) (i64_succ (n:=m.sizes.length) (by simp at hl34; omega) hlen34))),Z⟩
 rcases suf34 with _ | ⟨_,_⟩
 obtain rfl:=range_nil hL34
 refine W_exit (rj hR34 ⟨out_32,v32_out,rfl,sf1,sf4,Z⟩)
 exact absurd (of_decide_eq_false hc35) (by simp at hl34; omega)
 intro f w_ hR
 obtain ⟨out_32,v32_out,rfl,sf1,sf4,Z⟩:=rk hR34 hR
 refine W_seq (sq (aI rfl (nn ?_)))
 have hlen63 : List.length m.rules≤9223372036854775807:=len_le (slice_len h0_1)
 obtain ⟨j63,hL63,hF⟩:=bind_some hF
 obtain ⟨R63,hR63⟩:=exR fun f w_=>∃ out_59 : List Con,∃ H61 : FH,∃ v59_out : Value,j63 = .nx out_59∧Le H H61∧f 4 = v59_out∧Star H61 w_ ([oS 73 (oCon 122) v59_out out_59])
 refine W_join R63 ?_ ?_
 refine W_block ?_
 obtain ⟨I63,hI63⟩:=exI fun n f w_=>∃ i_58 : Nat,∃ suf63 : List Rule,∃ out_59 : List Con,∃ H61 : FH,∃ v59_out : Value,n = suf63.length∧List.drop i_58 m.rules = suf63∧i_58 + suf63.length = m.rules.length∧rangeL (s_EncodeModel_b2 fu m) suf63 i_58 out_59 = some j63∧Le H H61∧f 1 = Pt g3∧f 4 = v59_out∧f 6 = I i_58∧Star H61 w_ ([oS 73 (oCon 122) v59_out out_59,box g3 26 #[v0_0,v0_1]])
 refine W_loop I63 (n:=m.rules.length) ?_ ?_
 exact ij hI63 ⟨0,m.rules,out_32,H,v32_out,rfl,rfl,Nat.zero_add _,hL63,(Le.refl _),sf1,sf4,rfl,Z⟩
 intro n63 f w_ hI
 obtain ⟨i_58,suf63,out_59,H61,v59_out,rfl,hd63,hl63,hL63,l62,sf1,sf4,sf6,Z⟩:=ik hI63 hI
 refine W_seq (sq (mF sf6 rfl (fA 1 fa_26_1 sf1 rfl (ldB 1 Z Tryz.isAgg24 rfl rfl rfl (L_len rfl Tryz.underlying24 rfl (slice_len (RP.mono _ h0_1 l62)) (L_lss rfl rfl rfl (nn (W_cond (b:=decide ((i_58 : Int) < (m.rules.length : Int))) rfl (fun hc64=>?_) (fun hc64=>?_)))))))))
 have hlt63:=of_decide_eq_true hc64
 rcases suf63 with _ | ⟨x_63,rest63⟩
 exact absurd hlt63 (by simp at hl63; omega)
 obtain ⟨o63,hB63,hL63⟩:=range_cons hL63
 rw [s_EncodeModel_b2] at hB63
 have hix63:=drop_idx hd63
 refine W_skip (W_seq (W_block ?_))
 obtain ⟨x74,hx74,hB63⟩:=bind_some hB63
 obtain ⟨x77,hx77,hB63⟩:=bind_some hB63
 refine W_drawS 8 [isV (v59_out),isV (.agg #[v0_0,v0_1]),isV (Pq g3 1),isV (v0_1),isV (I i_58),isEl (rRule 3 23) x_63 0,exD (isData (rS 3 RP.int) x_63.vars) fun u_1=>exD (isData (rS 3 RP.int) x_63.coefs) fun u_2=>exD (isData (rS 23 (rS 3 RP.int)) x_63.rows) fun u_4=>isV (.agg #[I x_63.kind,u_1,u_2,I x_63.bound,u_4]),anyF] [oS 73 (oCon 122) v59_out out_59,box g3 26 #[v0_0,v0_1]] [.made 7 38 (fun v_=>oS 73 (oCon 122) v_ x74) none] ([]) [([],[]),([],[]),([],[]),([],[]),([],[]),([],[]),([],[]),([],[0])] (S:=[(some 7,[38],none)]) Tryz_mix (by kernel_rfl) rfl (by kernel_rfl) (amF_cons (mono_V _) (amF_cons (mono_V _) (amF_cons (mono_V _) (amF_cons (mono_V _) (amF_cons (mono_V _) (amF_cons (mono_el _ _ _) (amF_cons (mono_exD (mono_data _ _) fun _=>mono_exD (mono_data _ _) fun _=>mono_exD (mono_data _ _) fun _=>mono_V _) (amF_cons (mono_any) amF_nil)))))))) Z ?_ (fun f w_ H81 hS81 hE81 hT81 Z=>?_)
 refine opsS_cons (fun f w_ _ _ s _ _ Z=>mF ((s 4 rfl).trans sf4) rfl (nO rfl rfl Z)) (opsS_cons (fun f w_ _ _ s _ _ Z=>L_lda (cs:=[v0_0,v0_1]) rfl Tryz.isAgg26 Tryz.sizeOf26 ((s 1 rfl).trans sf1) (At.sub0 (Blk.at (Star.blkAt 1 Z rfl)) 0 2) rfl (nO rfl rfl Z)) (opsS_cons (fun f w_ _ _ s _ _ Z=>fA 1 fa_26_1 ((s 1 rfl).trans sf1) rfl (nO rfl rfl Z)) (opsS_cons (fun f w_ _ _ _ _ p Z=>ldB 1 Z Tryz.isAgg24 (p 2 33 rfl rfl) rfl rfl (nO rfl rfl Z)) (opsS_cons (fun f w_ _ _ s _ _ Z=>mF ((s 6 rfl).trans sf6) rfl (nO rfl rfl Z)) (opsS_cons ?_ ?_)))))
 intro f w_ H81 X81 hS81 hE81 hP81 Z
 refine L_ix (r:=(rRule 3 23)) rfl Tryz.underlying24 Tryz.sizeOf79 (hP81 3 34 rfl rfl) (RP.mono _ h0_1 (Le.trans l62 hE81)) (hP81 4 35 rfl rfl) hix63 (fun g93 o94 cs_g93 hrk_hat95 hat95=>?_)
 obtain ⟨u96_0,u96_1,u96_2,rfl,hu96_0,hu96_1,hu96_2⟩:=rRule_iff.1 hrk_hat95
 exact L_nil ⟨rfl,_,_,rfl,Le.refl _,fun _ _=>⟨_,_,_,rfl,hrk_hat95,hat95⟩,Z⟩
 refine opsS_cons ?_ ?_
 intro f w_ H81 X81 hS81 hE81 hP81 Z
 obtain ⟨g97,o97,cs97,hv97,hrk_hat97,hat97⟩:=(hP81 5 36 rfl rfl)
 obtain ⟨u98_0,u98_1,u98_2,rfl,hu98_0,hu98_1,hu98_2⟩:=rRule_iff.1 hrk_hat97
 refine L_lda (cs:=[I x_63.kind,u98_0,u98_1,I x_63.bound,u98_2]) rfl Tryz.isAgg79 Tryz.sizeOf79 hv97 (At.sub (AtH.at hat97 Z.sub) 0 5) rfl (L_nil ⟨rfl,_,_,rfl,Le.refl _,fun _ _=>⟨_,hu98_0,_,hu98_1,_,hu98_2,rfl⟩,Z⟩)
 refine opsS_cons ?_ ?_
 intro f w_ H81 X81 hS81 hE81 hP81 Z
 obtain ⟨u99_1,hu99_1,u99_2,hu99_2,u99_4,hu99_4,hv99⟩:=(hP81 6 37 rfl rfl)
 obtain ⟨H100b,l101,s102,z103,k104⟩:=Z.borrow
 refine L_call rfl Tryz.call53 (ops2 (hP81 1 32 rfl rfl) hv99) (s_l7Rule_c (m:=m) (r_:=x_63) s102 (RP.mono _ h0_0 (Le.trans (Le.trans l62 hE81) l101)) (RP.mono _ h0_1 (Le.trans (Le.trans l62 hE81) l101)) (RP.mono _ hu99_1 l101) (RP.mono _ hu99_2 l101) (RP.mono _ hu99_4 l101) hx74) ?_
 rintro r105_0 w105 ⟨_,rfl,Z⟩
 have Z:=k104 Z (co closed_oCon c0)
 have Z:=Z.gets [2,2] rfl
 exact L_nil ⟨rfl,_,_,rfl,Le.refl _,fun _ _=>trivial,Z⟩
 exact opsS_nil
 have Z : Star H81 w_ ([oS 73 (oCon 122) v59_out out_59,box g3 26 #[v0_0,v0_1],oS 73 (oCon 122) (f 38) x74]):=Z
 have Z:=Z.gets [2,1] rfl
 refine L_appM (v:=v59_out) (u:=(f 38)) rfl et_28 (hT81 0 31 rfl rfl) rfl Z hx77 (fun v108 w109 Z=>aV v108 rfl (nn (W_region (mF ((hS81 6 rfl).trans sf6) rfl (L_add rfl rfl rfl (aI rfl (nn ?_)))))))
 obtain rfl:=so hB63
 show ∃ m,m < _∧I63 m _ _
 refine ⟨rest63.length,by simp,?_⟩
 exact ij hI63 ⟨i_58 + 1,rest63,x77,H81,v108,rfl,drop_next hd63,by simp at hl63; omega,hL63,(Le.trans l62 hE81),((hS81 1 rfl).trans sf1),rfl,(Eq.trans rfl (congrArg (Value.int .i64) (i64_succ (n:=m.rules.length) (by simp at hl63; omega) hlen63))),Z⟩
 rcases suf63 with _ | ⟨_,_⟩
 obtain rfl:=range_nil hL63
 refine W_exit (rj hR63 ⟨out_59,H61,v59_out,rfl,l62,sf4,(Star.keepN 1 Z)⟩)
 exact absurd (of_decide_eq_false hc64) (by simp at hl63; omega)
 intro f w_ hR
 obtain ⟨out_59,H61,v59_out,rfl,l62,sf4,Z⟩:=rk hR63 hR
 refine W_seq (sq (mF sf4 rfl (L_len rfl Tryz.underlying28 rfl (Star.len 0 Z rfl) (L_gtr rfl rfl rfl (nn (W_cond (b:=decide ((out_59.length : Int) > 400)) rfl (fun hc111=>?_) (fun hc111=>?_)))))))
 have hF:=(ite_t hc111).symm.trans hF
 refine sq (L_bs rfl parts0 (bs_28_0  ) Z (fun g115 w116 Z=>?_))
 have Z:=Star.mkRow (R:=(OR.frz (rCon 122))) [] [] 0 Z rfl rfl rfl (by decide)
 refine aV (Sl g115 0 0) rfl (aB rfl (nn (W_ret (retG2 (v1:=(Sl g115 0 0)) (v2:=Bo false) Tryz.results14 rfl rfl ?_))))
 obtain rfl:=so hF
 have Z:=Star.recast (R:=(OR.frz (rCon 122))) (R':=(oCon 122)) rfl Z
 exact ⟨(Sl g115 0 0),rfl,(Star.down (Star.keepN 1 Z) l62 (co closed_oCon c0))⟩
 have hF:=(ite_f hc111).symm.trans hF
 refine W_skip (sq (mF sf4 rfl (aV v59_out rfl (aB rfl (nn (W_ret (retG2 (v1:=v59_out) (v2:=Bo true) Tryz.results14 rfl rfl ?_)))))))
 obtain rfl:=so hF
 exact ⟨v59_out,rfl,(Star.down Z l62 (co closed_oCon c0))⟩
theorem l_szIntS_c {a : List Int} {left : Int} {v0 : Value} {H : FH} {w : World} (Z : Star H w []) (h0 : (rS 3 RP.int).rel H [v0] a) {r : Int} (hF : l_szIntS a left = some r) :
 C Tryz.prog 81 #[v0,I left] w fun v w'=>v = I r∧Star H w' []:=by
 unfold l_szIntS at hF
 refine C_enter Tryz.func81 rfl Tryz.ntmps81 rfl (sq (aI rfl (ns (mI rfl (mV v0 rfl (L_len rfl Tryz.underlying23 rfl (slice_len h0) (L_sub rfl rfl rfl (aI rfl (nq (sq (mI rfl (L_lss rfl rfl rfl (nn (W_cond (b:=decide ((i64 (left - (a.length : Int))) < 0)) rfl (fun hc1=>?_) (fun hc1=>?_)))))))))))))))
 have hF:=(ite_t hc1).symm.trans hF
 refine sq (aI rfl (nn (W_ret (retG1 (v1:=I (-1)) Tryz.results81 rfl ?_))))
 obtain rfl:=so hF
 exact ⟨rfl,Z⟩
 have hF:=(ite_f hc1).symm.trans hF
 refine W_skip (sq (mI rfl (aI rfl (nn (W_ret (retG1 (v1:=I (i64 (left - (a.length : Int)))) Tryz.results81 rfl ?_))))))
 obtain rfl:=so hF
 exact ⟨rfl,Z⟩
theorem l_szIntSS_c {a : List (List Int)} {left : Int} {v0 : Value} {H : FH} {w : World} (Z : Star H w []) (h0 : (rS 23 (rS 3 RP.int)).rel H [v0] a) {r : Int} (hF : l_szIntSS a left = some r) :
 C Tryz.prog 165 #[v0,I left] w fun v w'=>v = I r∧Star H w' []:=by
 unfold l_szIntSS at hF
 refine C_enter Tryz.func165 rfl Tryz.ntmps165 rfl (sq (aI rfl (ns (mI rfl (mV v0 rfl (L_len rfl Tryz.underlying77 rfl (slice_len h0) (L_sub rfl rfl rfl (aI rfl (nq (sq (mI rfl (L_lss rfl rfl rfl (nn (W_cond (b:=decide ((i64 (left - (a.length : Int))) < 0)) rfl (fun hc1=>?_) (fun hc1=>?_)))))))))))))))
 have hF:=(ite_t hc1).symm.trans hF
 refine sq (aI rfl (nn (W_ret (retG1 (v1:=I (-1)) Tryz.results165 rfl ?_))))
 obtain rfl:=so hF
 exact ⟨rfl,Z⟩
 have hF:=(ite_f hc1).symm.trans hF
 refine W_skip (W_seq (sq (aI rfl (nn ?_))))
 have hlen4 : List.length a≤9223372036854775807:=len_le (slice_len h0)
 obtain ⟨j4,hL4,hF⟩:=bind_some hF
 obtain ⟨R4,hR4⟩:=exR fun f w_=>∃ left_3 : Int,j4 = .nx left_3∧f 1 = I left_3∧Star H w_ ([])
 refine W_join R4 ?_ ?_
 refine W_block ?_
 obtain ⟨I4,hI4⟩:=exI fun n f w_=>∃ i_2 : Nat,∃ suf4 : List (List Int),∃ left_3 : Int,n = suf4.length∧List.drop i_2 a = suf4∧i_2 + suf4.length = a.length∧rangeL l_szIntSS_b1 suf4 i_2 left_3 = some j4∧f 0 = v0∧f 1 = I left_3∧f 5 = I i_2∧Star H w_ ([])
 refine W_loop I4 (n:=a.length) ?_ ?_
 exact ij hI4 ⟨0,a,i64 (left - (a.length : Int)),rfl,rfl,Nat.zero_add _,hL4,rfl,rfl,rfl,Z⟩
 intro n4 f w_ hI
 obtain ⟨i_2,suf4,left_3,rfl,hd4,hl4,hL4,sf0,sf1,sf5,Z⟩:=ik hI4 hI
 refine W_seq (sq (mF sf5 rfl (mF sf0 rfl (L_len rfl Tryz.underlying77 rfl (slice_len h0) (L_lss rfl rfl rfl (nn (W_cond (b:=decide ((i_2 : Int) < (a.length : Int))) rfl (fun hc5=>?_) (fun hc5=>?_))))))))
 have hlt4:=of_decide_eq_true hc5
 rcases suf4 with _ | ⟨x_4,rest4⟩
 exact absurd hlt4 (by simp at hl4; omega)
 obtain ⟨o4,hB4,hL4⟩:=range_cons hL4
 rw [l_szIntSS_b1] at hB4
 have hix4:=drop_idx hd4
 refine W_skip (W_seq (W_block (W_seq ?_)))
 obtain ⟨x15,hx15,hB4⟩:=bind_some hB4
 refine W_region (mF sf0 rfl (mF sf5 rfl (L_ix (r:=(rS 3 RP.int)) rfl Tryz.underlying77 Tryz.sizeOf23 rfl h0 rfl hix4 (fun g17 o18 cs_g17 hrk_hat19 hat19=>?_))))
 obtain ⟨u20,rfl,hu20⟩:=slice1 hrk_hat19
 refine L_ld rfl Tryz.isAgg23 rfl (At.cell (AtH.at hat19 Z.sub) (j:=0) rfl) (mF sf1 rfl ?_)
 obtain ⟨H21b,l22,s23,z24,k25⟩:=Z.borrow
 refine L_call rfl Tryz.call81 (ops2 rfl rfl) (l_szIntS_c (a:=x_4) (left:=left_3) s23 (RP.mono _ hu20 l22) hx15) ?_
 rintro _ w26 ⟨rfl,Z⟩
 have Z:=k25 Z c0
 refine aI rfl (ns (mI rfl (L_lss rfl rfl rfl (nn (W_cond (b:=decide (x15 < 0)) rfl (fun hc27=>?_) (fun hc27=>?_))))))
 have hB4:=(ite_t hc27).symm.trans hB4
 refine sq (aI rfl (nn (W_ret (retG1 (v1:=I (-1)) Tryz.results165 rfl ?_))))
 obtain rfl:=so hB4
 obtain rfl:=so hL4
 obtain rfl:=so hF
 exact ⟨rfl,Z⟩
 have hB4:=(ite_f hc27).symm.trans hB4
 refine W_skip (W_region (mF sf5 rfl (L_add rfl rfl rfl (aI rfl (nn ?_)))))
 obtain rfl:=so hB4
 show ∃ m,m < _∧I4 m _ _
 refine ⟨rest4.length,by simp,?_⟩
 exact ij hI4 ⟨i_2 + 1,rest4,x15,rfl,drop_next hd4,by simp at hl4; omega,hL4,sf0,rfl,(Eq.trans rfl (congrArg (Value.int .i64) (i64_succ (n:=a.length) (by simp at hl4; omega) hlen4))),Z⟩
 rcases suf4 with _ | ⟨_,_⟩
 obtain rfl:=range_nil hL4
 refine W_exit (rj hR4 ⟨left_3,rfl,sf1,Z⟩)
 exact absurd (of_decide_eq_false hc5) (by simp at hl4; omega)
 intro f w_ hR
 obtain ⟨left_3,rfl,sf1,Z⟩:=rk hR4 hR
 refine sq (mF sf1 rfl (aI rfl (nn (W_ret (retG1 (v1:=I left_3) Tryz.results165 rfl ?_)))))
 obtain rfl:=so hF
 exact ⟨rfl,Z⟩
theorem l_szRule_c {a : Rule} {left : Int} {v0_1 : Value} {v0_2 : Value} {v0_4 : Value} {H : FH} {w : World} (Z : Star H w []) (h0_1 : (rS 3 RP.int).rel H [v0_1] a.vars) (h0_2 : (rS 3 RP.int).rel H [v0_2] a.coefs) (h0_4 : (rS 23 (rS 3 RP.int)).rel H [v0_4] a.rows) {r : Int} (hF : l_szRule a left = some r) :
 C Tryz.prog 131 #[.agg #[I a.kind,v0_1,v0_2,I a.bound,v0_4],I left] w fun v w'=>v = I r∧Star H w' []:=by
 unfold l_szRule at hF
 refine C_enter Tryz.func131 rfl Tryz.ntmps131 rfl (sq (L_box (v:=.agg #[I a.kind,v0_1,v0_2,I a.bound,v0_4]) (cs:=#[I a.kind,v0_1,v0_2,I a.bound,v0_4]) rfl rfl rfl Z (fun g3 w4 Z=>aI rfl (nq ?_))))
 obtain ⟨x10,hx10,hF⟩:=bind_some hF
 refine W_region (fA 1 fa_140_1 rfl rfl (ldB 0 Z Tryz.isAgg23 rfl rfl rfl (mI rfl ?_)))
 obtain ⟨H12b,l13,s14,z15,k16⟩:=Z.borrow
 refine L_call rfl Tryz.call81 (ops2 rfl rfl) (l_szIntS_c (a:=a.vars) (left:=left) s14 (RP.mono _ h0_1 l13) hx10) ?_
 rintro _ w17 ⟨rfl,Z⟩
 have Z:=k16 Z c0
 refine aI rfl (nq (sq (mI rfl (L_lss rfl rfl rfl (nn (W_cond (b:=decide (x10 < 0)) rfl (fun hc18=>?_) (fun hc18=>?_)))))))
 have hF:=(ite_t hc18).symm.trans hF
 refine sq (aI rfl (nn (W_ret (retG1 (v1:=I (-1)) Tryz.results131 rfl ?_))))
 obtain rfl:=so hF
 exact ⟨rfl,(Star.keepN 0 Z)⟩
 have hF:=(ite_f hc18).symm.trans hF
 refine W_skip (W_seq ?_)
 obtain ⟨x24,hx24,hF⟩:=bind_some hF
 refine W_region (fA 2 fa_140_2 rfl rfl (ldB 0 Z Tryz.isAgg23 rfl rfl rfl (mI rfl ?_)))
 obtain ⟨H26b,l27,s28,z29,k30⟩:=Z.borrow
 refine L_call rfl Tryz.call81 (ops2 rfl rfl) (l_szIntS_c (a:=a.coefs) (left:=x10) s28 (RP.mono _ h0_2 l27) hx24) ?_
 rintro _ w31 ⟨rfl,Z⟩
 have Z:=k30 Z c0
 refine aI rfl (nq (sq (mI rfl (L_lss rfl rfl rfl (nn (W_cond (b:=decide (x24 < 0)) rfl (fun hc32=>?_) (fun hc32=>?_)))))))
 have hF:=(ite_t hc32).symm.trans hF
 refine sq (aI rfl (nn (W_ret (retG1 (v1:=I (-1)) Tryz.results131 rfl ?_))))
 obtain rfl:=so hF
 exact ⟨rfl,(Star.keepN 0 Z)⟩
 have hF:=(ite_f hc32).symm.trans hF
 refine W_skip (W_seq ?_)
 obtain ⟨x38,hx38,hF⟩:=bind_some hF
 refine W_region (fA 4 fa_140_4 rfl rfl (ldB 0 Z Tryz.isAgg77 rfl rfl rfl (mI rfl ?_)))
 obtain ⟨H40b,l41,s42,z43,k44⟩:=Z.borrow
 refine L_call rfl Tryz.call165 (ops2 rfl rfl) (l_szIntSS_c (a:=a.rows) (left:=x24) s42 (RP.mono _ h0_4 l41) hx38) ?_
 rintro _ w45 ⟨rfl,Z⟩
 have Z:=k44 Z c0
 refine aI rfl (nq (sq (mI rfl (L_lss rfl rfl rfl (nn (W_cond (b:=decide (x38 < 0)) rfl (fun hc46=>?_) (fun hc46=>?_)))))))
 have hF:=(ite_t hc46).symm.trans hF
 refine sq (aI rfl (nn (W_ret (retG1 (v1:=I (-1)) Tryz.results131 rfl ?_))))
 obtain rfl:=so hF
 exact ⟨rfl,(Star.keepN 0 Z)⟩
 have hF:=(ite_f hc46).symm.trans hF
 refine W_skip (sq (mI rfl (aI rfl (nn (W_ret (retG1 (v1:=I x38) Tryz.results131 rfl ?_))))))
 obtain rfl:=so hF
 exact ⟨rfl,(Star.keepN 0 Z)⟩
theorem l_szRuleS_c {a : List Rule} {left : Int} {v0 : Value} {H : FH} {w : World} (Z : Star H w []) (h0 : (rS 140 (rRule 3 23)).rel H [v0] a) {r : Int} (hF : l_szRuleS a left = some r) :
 C Tryz.prog 82 #[v0,I left] w fun v w'=>v = I r∧Star H w' []:=by
 unfold l_szRuleS at hF
 refine C_enter Tryz.func82 rfl Tryz.ntmps82 rfl (sq (aI rfl (ns (mI rfl (mV v0 rfl (L_len rfl Tryz.underlying59 rfl (slice_len h0) (L_sub rfl rfl rfl (aI rfl (nq (sq (mI rfl (L_lss rfl rfl rfl (nn (W_cond (b:=decide ((i64 (left - (a.length : Int))) < 0)) rfl (fun hc1=>?_) (fun hc1=>?_)))))))))))))))
 have hF:=(ite_t hc1).symm.trans hF
 refine sq (aI rfl (nn (W_ret (retG1 (v1:=I (-1)) Tryz.results82 rfl ?_))))
 obtain rfl:=so hF
 exact ⟨rfl,Z⟩
 have hF:=(ite_f hc1).symm.trans hF
 refine W_skip (W_seq (sq (aI rfl (nn ?_))))
 have hlen4 : List.length a≤9223372036854775807:=len_le (slice_len h0)
 obtain ⟨j4,hL4,hF⟩:=bind_some hF
 obtain ⟨R4,hR4⟩:=exR fun f w_=>∃ left_3 : Int,j4 = .nx left_3∧f 1 = I left_3∧Star H w_ ([])
 refine W_join R4 ?_ ?_
 refine W_block ?_
 obtain ⟨I4,hI4⟩:=exI fun n f w_=>∃ i_2 : Nat,∃ suf4 : List Rule,∃ left_3 : Int,n = suf4.length∧List.drop i_2 a = suf4∧i_2 + suf4.length = a.length∧rangeL l_szRuleS_b1 suf4 i_2 left_3 = some j4∧f 0 = v0∧f 1 = I left_3∧f 5 = I i_2∧Star H w_ ([])
 refine W_loop I4 (n:=a.length) ?_ ?_
 exact ij hI4 ⟨0,a,i64 (left - (a.length : Int)),rfl,rfl,Nat.zero_add _,hL4,rfl,rfl,rfl,Z⟩
 intro n4 f w_ hI
 obtain ⟨i_2,suf4,left_3,rfl,hd4,hl4,hL4,sf0,sf1,sf5,Z⟩:=ik hI4 hI
 refine W_seq (sq (mF sf5 rfl (mF sf0 rfl (L_len rfl Tryz.underlying59 rfl (slice_len h0) (L_lss rfl rfl rfl (nn (W_cond (b:=decide ((i_2 : Int) < (a.length : Int))) rfl (fun hc5=>?_) (fun hc5=>?_))))))))
 have hlt4:=of_decide_eq_true hc5
 rcases suf4 with _ | ⟨x_4,rest4⟩
 exact absurd hlt4 (by simp at hl4; omega)
 obtain ⟨o4,hB4,hL4⟩:=range_cons hL4
 rw [l_szRuleS_b1] at hB4
 have hix4:=drop_idx hd4
 refine W_skip (W_seq (W_block (W_seq ?_)))
 obtain ⟨x15,hx15,hB4⟩:=bind_some hB4
 refine W_region (mF sf0 rfl (mF sf5 rfl (L_ix (r:=(rRule 3 23)) rfl Tryz.underlying59 Tryz.sizeOf140 rfl h0 rfl hix4 (fun g17 o18 cs_g17 hrk_hat19 hat19=>?_))))
 obtain ⟨u20_0,u20_1,u20_2,rfl,hu20_0,hu20_1,hu20_2⟩:=rRule_iff.1 hrk_hat19
 refine L_lda (cs:=[I x_4.kind,u20_0,u20_1,I x_4.bound,u20_2]) rfl Tryz.isAgg140 Tryz.sizeOf140 rfl (At.sub (AtH.at hat19 Z.sub) 0 5) rfl (mF sf1 rfl ?_)
 obtain ⟨H21b,l22,s23,z24,k25⟩:=Z.borrow
 refine L_call rfl Tryz.call131 (ops2 rfl rfl) (l_szRule_c (a:=x_4) (left:=left_3) s23 (RP.mono _ hu20_0 l22) (RP.mono _ hu20_1 l22) (RP.mono _ hu20_2 l22) hx15) ?_
 rintro _ w26 ⟨rfl,Z⟩
 have Z:=k25 Z c0
 refine aI rfl (ns (mI rfl (L_lss rfl rfl rfl (nn (W_cond (b:=decide (x15 < 0)) rfl (fun hc27=>?_) (fun hc27=>?_))))))
 have hB4:=(ite_t hc27).symm.trans hB4
 refine sq (aI rfl (nn (W_ret (retG1 (v1:=I (-1)) Tryz.results82 rfl ?_))))
 obtain rfl:=so hB4
 obtain rfl:=so hL4
 obtain rfl:=so hF
 exact ⟨rfl,Z⟩
 have hB4:=(ite_f hc27).symm.trans hB4
 refine W_skip (W_region (mF sf5 rfl (L_add rfl rfl rfl (aI rfl (nn ?_)))))
 obtain rfl:=so hB4
 show ∃ m,m < _∧I4 m _ _
 refine ⟨rest4.length,by simp,?_⟩
 exact ij hI4 ⟨i_2 + 1,rest4,x15,rfl,drop_next hd4,by simp at hl4; omega,hL4,sf0,rfl,(Eq.trans rfl (congrArg (Value.int .i64) (i64_succ (n:=a.length) (by simp at hl4; omega) hlen4))),Z⟩
 rcases suf4 with _ | ⟨_,_⟩
 obtain rfl:=range_nil hL4
 refine W_exit (rj hR4 ⟨left_3,rfl,sf1,Z⟩)
 exact absurd (of_decide_eq_false hc5) (by simp at hl4; omega)
 intro f w_ hR
 obtain ⟨left_3,rfl,sf1,Z⟩:=rk hR4 hR
 refine sq (mF sf1 rfl (aI rfl (nn (W_ret (retG1 (v1:=I left_3) Tryz.results82 rfl ?_)))))
 obtain rfl:=so hF
 exact ⟨rfl,Z⟩
theorem l_szModel_c {a : Model} {left : Int} {v0_0 : Value} {v0_1 : Value} {H : FH} {w : World} (Z : Star H w []) (h0_0 : (rS 3 RP.int).rel H [v0_0] a.sizes) (h0_1 : (rS 140 (rRule 3 23)).rel H [v0_1] a.rules) {r : Int} (hF : l_szModel a left = some r) :
 C Tryz.prog 38 #[.agg #[v0_0,v0_1],I left] w fun v w'=>v = I r∧Star H w' []:=by
 unfold l_szModel at hF
 refine C_enter Tryz.func38 rfl Tryz.ntmps38 rfl (sq (L_box (v:=.agg #[v0_0,v0_1]) (cs:=#[v0_0,v0_1]) rfl rfl rfl Z (fun g3 w4 Z=>aI rfl (nq ?_))))
 obtain ⟨x10,hx10,hF⟩:=bind_some hF
 refine W_region (fA 0 fa_61_0 rfl rfl (ldB 0 Z Tryz.isAgg23 rfl rfl rfl (mI rfl ?_)))
 obtain ⟨H12b,l13,s14,z15,k16⟩:=Z.borrow
 refine L_call rfl Tryz.call81 (ops2 rfl rfl) (l_szIntS_c (a:=a.sizes) (left:=left) s14 (RP.mono _ h0_0 l13) hx10) ?_
 rintro _ w17 ⟨rfl,Z⟩
 have Z:=k16 Z c0
 refine aI rfl (nq (sq (mI rfl (L_lss rfl rfl rfl (nn (W_cond (b:=decide (x10 < 0)) rfl (fun hc18=>?_) (fun hc18=>?_)))))))
 have hF:=(ite_t hc18).symm.trans hF
 refine sq (aI rfl (nn (W_ret (retG1 (v1:=I (-1)) Tryz.results38 rfl ?_))))
 obtain rfl:=so hF
 exact ⟨rfl,(Star.keepN 0 Z)⟩
 have hF:=(ite_f hc18).symm.trans hF
 refine W_skip (W_seq ?_)
 obtain ⟨x24,hx24,hF⟩:=bind_some hF
 refine W_region (fA 1 fa_61_1 rfl rfl (ldB 0 Z Tryz.isAgg59 rfl rfl rfl (mI rfl ?_)))
 obtain ⟨H26b,l27,s28,z29,k30⟩:=Z.borrow
 refine L_call rfl Tryz.call82 (ops2 rfl rfl) (l_szRuleS_c (a:=a.rules) (left:=x10) s28 (RP.mono _ h0_1 l27) hx24) ?_
 rintro _ w31 ⟨rfl,Z⟩
 have Z:=k30 Z c0
 refine aI rfl (nq (sq (mI rfl (L_lss rfl rfl rfl (nn (W_cond (b:=decide (x24 < 0)) rfl (fun hc32=>?_) (fun hc32=>?_)))))))
 have hF:=(ite_t hc32).symm.trans hF
 refine sq (aI rfl (nn (W_ret (retG1 (v1:=I (-1)) Tryz.results38 rfl ?_))))
 obtain rfl:=so hF
 exact ⟨rfl,(Star.keepN 0 Z)⟩
 have hF:=(ite_f hc32).symm.trans hF
 refine W_skip (sq (mI rfl (aI rfl (nn (W_ret (retG1 (v1:=I x24) Tryz.results38 rfl ?_))))))
 obtain rfl:=so hF
 exact ⟨rfl,(Star.keepN 0 Z)⟩
theorem l_toIntS_c {a : List Int} {v0 : Value} {H : FH} {w : World} (Z : Star H w []) (h0 : (rS 3 RP.int).rel H [v0] a) {r : List Int} (hF : l_toIntS a = some r) :
 C Tryz.prog 83 #[v0] w fun v w'=>∃ (u1 : Value),v = u1∧Star H w' [oF 3 RP.int u1 r]:=by
 unfold l_toIntS at hF
 refine C_enter Tryz.func83 rfl Tryz.ntmps83 rfl (sq (aV S0 rfl (nq ?_)))
 obtain ⟨x1,hx1,hF⟩:=bind_some hF
 refine W_region (mV v0 rfl (L_len rfl Tryz.underlying23 rfl (slice_len h0) (L_mk (R:=(OR.frz RP.int)) (z0:=0) (zc:=[I 0]) rfl et_23 (by kernel_rfl) (fun _ _=>⟨rfl,rfl⟩) rfl rfl hx1 Z (fun v5 w6 Z=>aV v5 rfl (nq (sq (aI rfl (nn ?_))))))))
 have hlen10 : List.length a≤9223372036854775807:=len_le (slice_len h0)
 obtain ⟨j10,hL10,hF⟩:=bind_some hF
 obtain ⟨R10,hR10⟩:=exR fun f w_=>∃ out_9 : List Int,j10 = .nx out_9∧f 3 = v5∧Star H w_ ([oF 3 RP.int v5 out_9])
 refine W_join R10 ?_ ?_
 refine W_block ?_
 obtain ⟨I10,hI10⟩:=exI fun n f w_=>∃ i_8 : Nat,∃ suf10 : List Int,∃ out_9 : List Int,n = suf10.length∧List.drop i_8 a = suf10∧i_8 + suf10.length = a.length∧rangeL l_toIntS_b1 suf10 i_8 out_9 = some j10∧f 0 = v0∧f 3 = v5∧f 4 = I i_8∧Star H w_ ([oF 3 RP.int v5 out_9])
 refine W_loop I10 (n:=a.length) ?_ ?_
 exact ij hI10 ⟨0,a,x1,rfl,rfl,Nat.zero_add _,hL10,rfl,rfl,rfl,Z⟩
 intro n10 f w_ hI
 obtain ⟨i_8,suf10,out_9,rfl,hd10,hl10,hL10,sf0,sf3,sf4,Z⟩:=ik hI10 hI
 refine W_seq (sq (mF sf4 rfl (mF sf0 rfl (L_len rfl Tryz.underlying23 rfl (slice_len h0) (L_lss rfl rfl rfl (nn (W_cond (b:=decide ((i_8 : Int) < (a.length : Int))) rfl (fun hc11=>?_) (fun hc11=>?_))))))))
 have hlt10:=of_decide_eq_true hc11
 rcases suf10 with _ | ⟨x_10,rest10⟩
 exact absurd hlt10 (by simp at hl10; omega)
 obtain ⟨o10,hB10,hL10⟩:=range_cons hL10
 rw [l_toIntS_b1] at hB10
 have hix10:=drop_idx hd10
 refine W_skip (W_seq (W_block ?_))
 obtain ⟨x16,hx16,hB10⟩:=bind_some hB10
 refine W_region (mF sf3 rfl (mF sf4 rfl (mF sf0 rfl (mF sf4 rfl (L_ix (r:=RP.int) rfl Tryz.underlying23 Tryz.sizeOf3 rfl h0 rfl hix10 (fun g20 o21 cs_g20 hrk_hat22 hat22=>?_))))))
 obtain rfl : _ = [_]:=hrk_hat22
 refine L_ld rfl Tryz.isAgg3 rfl (At.cell (AtH.at hat22 Z.sub) (j:=0) rfl) ?_
 obtain ⟨g24,cap_g24,hv25,_,_⟩:=Star.row 0 Z rfl hx16
 refine L_ixO (R:=(OR.frz RP.int)) (tb:=0) 0 rfl Tryz.underlying23 Tryz.sizeOf3 rfl hv25 (by first | rfl | simp) rfl hx16 ?_
 have Z:=Star.addF (r:=RP.int) (cs:=[I x_10]) (x:=x_10) Z rfl
 refine L_stE1 (u:=I x_10) rfl Tryz.sizeOf3 rfl rfl rfl hv25 Z hx16 (fun w26 Z=>?_)
 refine nn (W_region (mF sf4 rfl (L_add rfl rfl rfl (aI rfl (nn ?_)))))
 obtain rfl:=so hB10
 show ∃ m,m < _∧I10 m _ _
 refine ⟨rest10.length,by simp,?_⟩
 exact ij hI10 ⟨i_8 + 1,rest10,(out_9.set (Int.toNat (i_8 : Int)) x_10),rfl,drop_next hd10,by simp at hl10; omega,hL10,sf0,sf3,(Eq.trans rfl (congrArg (Value.int .i64) (i64_succ (n:=a.length) (by simp at hl10; omega) hlen10))),Z⟩
 rcases suf10 with _ | ⟨_,_⟩
 obtain rfl:=range_nil hL10
 refine W_exit (rj hR10 ⟨out_9,rfl,sf3,Z⟩)
 exact absurd (of_decide_eq_false hc11) (by simp at hl10; omega)
 intro f w_ hR
 obtain ⟨out_9,rfl,sf3,Z⟩:=rk hR10 hR
 refine sq (mF sf3 rfl (aV v5 rfl (nn (W_ret (retG1 (v1:=v5) Tryz.results83 rfl ?_)))))
 obtain rfl:=so hF
 exact ⟨v5,rfl,Z⟩
theorem l_toIntSS_c {a : List (List Int)} {v0 : Value} {H : FH} {w : World} (Z : Star H w []) (h0 : (rS 23 (rS 3 RP.int)).rel H [v0] a) {r : List (List Int)} (hF : l_toIntSS a = some r) :
 C Tryz.prog 166 #[v0] w fun v w'=>∃ (u1 : Value),v = u1∧Star H w' [own (OR.ownS 23 (OR.ownS 3 (OR.frz RP.int))) [u1] r]:=by
 unfold l_toIntSS at hF
 refine C_enter Tryz.func166 rfl Tryz.ntmps166 rfl (sq (aV S0 rfl (nq ?_)))
 obtain ⟨x1,hx1,hF⟩:=bind_some hF
 refine W_region (mV v0 rfl (L_len rfl Tryz.underlying77 rfl (slice_len h0) (L_mk (R:=(OR.ownS 3 (OR.frz RP.int))) (z0:=[]) (zc:=[S0]) rfl et_77 (by kernel_rfl) (fun _ _=>.inl ⟨rfl,rfl,rfl⟩) rfl rfl hx1 Z (fun v5 w6 Z=>aV v5 rfl (nq (sq (aI rfl (nn ?_))))))))
 have hlen10 : List.length a≤9223372036854775807:=len_le (slice_len h0)
 obtain ⟨j10,hL10,hF⟩:=bind_some hF
 obtain ⟨R10,hR10⟩:=exR fun f w_=>∃ out_9 : List (List Int),j10 = .nx out_9∧f 3 = v5∧Star H w_ ([own (OR.ownS 23 (OR.ownS 3 (OR.frz RP.int))) [v5] out_9])
 refine W_join R10 ?_ ?_
 refine W_block ?_
 obtain ⟨I10,hI10⟩:=exI fun n f w_=>∃ i_8 : Nat,∃ suf10 : List (List Int),∃ out_9 : List (List Int),n = suf10.length∧List.drop i_8 a = suf10∧i_8 + suf10.length = a.length∧rangeL l_toIntSS_b1 suf10 i_8 out_9 = some j10∧f 0 = v0∧f 3 = v5∧f 4 = I i_8∧Star H w_ ([own (OR.ownS 23 (OR.ownS 3 (OR.frz RP.int))) [v5] out_9])
 refine W_loop I10 (n:=a.length) ?_ ?_
 exact ij hI10 ⟨0,a,x1,rfl,rfl,Nat.zero_add _,hL10,rfl,rfl,rfl,Z⟩
 intro n10 f w_ hI
 obtain ⟨i_8,suf10,out_9,rfl,hd10,hl10,hL10,sf0,sf3,sf4,Z⟩:=ik hI10 hI
 refine W_seq (sq (mF sf4 rfl (mF sf0 rfl (L_len rfl Tryz.underlying77 rfl (slice_len h0) (L_lss rfl rfl rfl (nn (W_cond (b:=decide ((i_8 : Int) < (a.length : Int))) rfl (fun hc11=>?_) (fun hc11=>?_))))))))
 have hlt10:=of_decide_eq_true hc11
 rcases suf10 with _ | ⟨x_10,rest10⟩
 exact absurd hlt10 (by simp at hl10; omega)
 obtain ⟨o10,hB10,hL10⟩:=range_cons hL10
 rw [l_toIntSS_b1] at hB10
 have hix10:=drop_idx hd10
 refine W_skip (W_seq (W_block ?_))
 obtain ⟨x21,hx21,hB10⟩:=bind_some hB10
 obtain ⟨x24,hx24,hB10⟩:=bind_some hB10
 refine W_region (mF sf3 rfl (mF sf4 rfl (mF sf0 rfl (mF sf4 rfl (L_ix (r:=(rS 3 RP.int)) rfl Tryz.underlying77 Tryz.sizeOf23 rfl h0 rfl hix10 (fun g28 o29 cs_g28 hrk_hat30 hat30=>?_))))))
 obtain ⟨u31,rfl,hu31⟩:=slice1 hrk_hat30
 refine L_ld rfl Tryz.isAgg23 rfl (At.cell (AtH.at hat30 Z.sub) (j:=0) rfl) ?_
 obtain ⟨H32b,l33,s34,z35,k36⟩:=Z.borrow
 refine L_call rfl Tryz.call83 (ops1 rfl) (l_toIntS_c (a:=x_10) s34 (RP.mono _ hu31 l33) hx21) ?_
 rintro r37_0 w37 ⟨_,rfl,Z⟩
 have Z:=k36 Z (co closed_int c0)
 obtain ⟨g39,cap_g39,hv40,_,_⟩:=Star.row 1 Z rfl hx24
 refine L_ixO (R:=(OR.ownS 3 (OR.frz RP.int))) (tb:=0) 0 rfl Tryz.underlying77 Tryz.sizeOf23 rfl hv40 (by first | rfl | simp) rfl hx24 (L_stE1 (u:=r37_0) rfl Tryz.sizeOf23 rfl rfl rfl hv40 Z hx24 (fun w41 Z=>?_))
 refine nn (W_region (mF sf4 rfl (L_add rfl rfl rfl (aI rfl (nn ?_)))))
 obtain rfl:=so hB10
 show ∃ m,m < _∧I10 m _ _
 refine ⟨rest10.length,by simp,?_⟩
 exact ij hI10 ⟨i_8 + 1,rest10,(out_9.set (Int.toNat (i_8 : Int)) x21),rfl,drop_next hd10,by simp at hl10; omega,hL10,sf0,sf3,(Eq.trans rfl (congrArg (Value.int .i64) (i64_succ (n:=a.length) (by simp at hl10; omega) hlen10))),Z⟩
 rcases suf10 with _ | ⟨_,_⟩
 obtain rfl:=range_nil hL10
 refine W_exit (rj hR10 ⟨out_9,rfl,sf3,Z⟩)
 exact absurd (of_decide_eq_false hc11) (by simp at hl10; omega)
 intro f w_ hR
 obtain ⟨out_9,rfl,sf3,Z⟩:=rk hR10 hR
 refine sq (mF sf3 rfl (aV v5 rfl (nn (W_ret (retG1 (v1:=v5) Tryz.results166 rfl ?_)))))
 obtain rfl:=so hF
 exact ⟨v5,rfl,Z⟩
theorem l_toRule_c {a : Rule} {v0_1 : Value} {v0_2 : Value} {v0_4 : Value} {H : FH} {w : World} (Z : Star H w []) (h0_1 : (rS 3 RP.int).rel H [v0_1] a.vars) (h0_2 : (rS 3 RP.int).rel H [v0_2] a.coefs) (h0_4 : (rS 23 (rS 3 RP.int)).rel H [v0_4] a.rows) {r : Rule} (hF : l_toRule a = some r) :
 C Tryz.prog 132 #[.agg #[I a.kind,v0_1,v0_2,I a.bound,v0_4]] w fun v w'=>∃ (u1 : Value) (u2 : Value) (u3 : Value),v = .agg #[I r.kind,u1,u2,I r.bound,u3]∧Star H w' [oF 3 RP.int u1 r.vars,oF 3 RP.int u2 r.coefs,own (OR.ownS 23 (OR.ownS 3 (OR.frz RP.int))) [u3] r.rows]:=by
 unfold l_toRule at hF
 refine C_enter Tryz.func132 rfl Tryz.ntmps132 rfl (sq (L_box (v:=.agg #[I a.kind,v0_1,v0_2,I a.bound,v0_4]) (cs:=#[I a.kind,v0_1,v0_2,I a.bound,v0_4]) rfl rfl rfl Z (fun g5 w6 Z=>L_al (cs:=#[I 0,S0,S0,I 0,S0]) rfl Tryz.zeroValue79 rfl Z (fun g7 w8 Z=>ns (L_al (cs:=#[I 0,S0,S0,I 0,S0]) rfl Tryz.zeroValue79 rfl Z (fun g11 w12 Z=>ns (fA 0 fa_140_0 rfl rfl (ldB 2 Z Tryz.isAgg3 rfl rfl rfl (fA 0 fa_79_0 rfl rfl (L_stB (v:=I a.kind) (cs2:=#[I a.kind,S0,S0,I 0,S0]) 0 rfl Tryz.sizeOf3 rfl rfl rfl Z rfl rfl rfl (fun w14 Z=>nq ?_)))))))))))
 obtain ⟨x20,hx20,hF⟩:=bind_some hF
 refine W_region (fA 1 fa_140_1 rfl rfl (ldB 2 Z Tryz.isAgg23 rfl rfl rfl ?_))
 obtain ⟨H24b,l25,s26,z27,k28⟩:=Z.borrow
 refine L_call rfl Tryz.call83 (ops1 rfl) (l_toIntS_c (a:=a.vars) s26 (RP.mono _ h0_1 l25) hx20) ?_
 rintro r29_0 w29 ⟨_,rfl,Z⟩
 have Z:=k28 Z (co closed_int c0)
 refine fA 1 fa_79_1 rfl rfl (L_stB (v:=r29_0) (cs2:=#[I a.kind,r29_0,S0,I 0,S0]) 1 rfl Tryz.sizeOf23 rfl rfl (one_len (Star.len 0 Z rfl)) Z rfl rfl rfl (fun w31 Z=>nq ?_))
 obtain ⟨x37,hx37,hF⟩:=bind_some hF
 refine W_region (fA 2 fa_140_2 rfl rfl (ldB 3 Z Tryz.isAgg23 rfl rfl rfl ?_))
 obtain ⟨H41b,l42,s43,z44,k45⟩:=Z.borrow
 refine L_call rfl Tryz.call83 (ops1 rfl) (l_toIntS_c (a:=a.coefs) s43 (RP.mono _ h0_2 l42) hx37) ?_
 rintro r46_0 w46 ⟨_,rfl,Z⟩
 have Z:=k45 Z (co closed_int c0)
 refine fA 2 fa_79_2 rfl rfl (L_stB (v:=r46_0) (cs2:=#[I a.kind,r29_0,r46_0,I 0,S0]) 1 rfl Tryz.sizeOf23 rfl rfl (one_len (Star.len 0 Z rfl)) Z rfl rfl rfl (fun w48 Z=>ns (fA 3 fa_140_3 rfl rfl (ldB 4 Z Tryz.isAgg3 rfl rfl rfl (fA 3 fa_79_3 rfl rfl (L_stB (v:=I a.bound) (cs2:=#[I a.kind,r29_0,r46_0,I a.bound,S0]) 0 rfl Tryz.sizeOf3 rfl rfl rfl Z rfl rfl rfl (fun w50 Z=>nq ?_)))))))
 obtain ⟨x56,hx56,hF⟩:=bind_some hF
 refine W_region (fA 4 fa_140_4 rfl rfl (ldB 4 Z Tryz.isAgg77 rfl rfl rfl ?_))
 obtain ⟨H60b,l61,s62,z63,k64⟩:=Z.borrow
 refine L_call rfl Tryz.call166 (ops1 rfl) (l_toIntSS_c (a:=a.rows) s62 (RP.mono _ h0_4 l61) hx56) ?_
 rintro r65_0 w65 ⟨_,rfl,Z⟩
 have Z:=k64 Z (cc (closed_own (OR.closed_ownS (OR.closed_ownS closed_int)) _ _) c0)
 refine fA 4 fa_79_4 rfl rfl (L_stB (v:=r65_0) (cs2:=#[I a.kind,r29_0,r46_0,I a.bound,r65_0]) 1 rfl Tryz.sizeOf77 rfl rfl (one_len (Star.len 0 Z rfl)) Z rfl rfl rfl (fun w67 Z=>ns (L_lda (cs:=[I a.kind,r29_0,r46_0,I a.bound,r65_0]) rfl Tryz.isAgg79 Tryz.sizeOf79 rfl (At.sub0 (Blk.at (Star.blkAt 0 Z rfl)) 0 5) rfl (L_staB (vs:=#[I a.kind,r29_0,r46_0,I a.bound,r65_0]) (cs2:=#[I a.kind,r29_0,r46_0,I a.bound,r65_0]) 4 rfl Tryz.sizeOf79 rfl rfl rfl (ones_cons rfl (ones_cons (one_len (Star.len 3 Z rfl)) (ones_cons (one_len (Star.len 2 Z rfl)) (ones_cons rfl (ones_cons (one_len (Star.len 1 Z rfl)) ones_nil))))) Z rfl (by show 0 + 5≤5; decide) rfl (fun w69 Z=>nn (W_ret (retG1 (v1:=.agg #[I a.kind,r29_0,r46_0,I a.bound,r65_0]) Tryz.results132 (resV_agg Tryz.isAgg79 Tryz.sizeOf79 rfl (Star.blkAt 0 Z rfl) rfl) ?_)))))))
 obtain rfl:=so hF
 have Z:=Z.gets [2,3,4] rfl
 exact ⟨r29_0,r46_0,r65_0,rfl,(Star.keepN 3 Z)⟩
theorem l_toRuleS_c {a : List Rule} {v0 : Value} {H : FH} {w : World} (Z : Star H w []) (h0 : (rS 140 (rRule 3 23)).rel H [v0] a) {r : List Rule} (hF : l_toRuleS a = some r) :
 C Tryz.prog 84 #[v0] w fun v w'=>∃ (u1 : Value),v = u1∧Star H w' [oS 79 (oRule 3 23) u1 r]:=by
 unfold l_toRuleS at hF
 refine C_enter Tryz.func84 rfl Tryz.ntmps84 rfl (sq (aV S0 rfl (nq ?_)))
 obtain ⟨x1,hx1,hF⟩:=bind_some hF
 refine W_region (mV v0 rfl (L_len rfl Tryz.underlying59 rfl (slice_len h0) (L_mk (R:=(oRule 3 23)) (z0:=({ kind:=0,vars:=[],coefs:=[],bound:=0,rows:=[] } : Rule)) (zc:=[I 0,S0,S0,I 0,S0]) rfl et_24 (by kernel_rfl) (fun _ _=>oRule_zero) rfl rfl hx1 Z (fun v5 w6 Z=>aV v5 rfl (nq (sq (aI rfl (nn ?_))))))))
 have hlen10 : List.length a≤9223372036854775807:=len_le (slice_len h0)
 obtain ⟨j10,hL10,hF⟩:=bind_some hF
 obtain ⟨R10,hR10⟩:=exR fun f w_=>∃ out_9 : List Rule,j10 = .nx out_9∧f 3 = v5∧Star H w_ ([oS 79 (oRule 3 23) v5 out_9])
 refine W_join R10 ?_ ?_
 refine W_block ?_
 obtain ⟨I10,hI10⟩:=exI fun n f w_=>∃ i_8 : Nat,∃ suf10 : List Rule,∃ out_9 : List Rule,n = suf10.length∧List.drop i_8 a = suf10∧i_8 + suf10.length = a.length∧rangeL l_toRuleS_b1 suf10 i_8 out_9 = some j10∧f 0 = v0∧f 3 = v5∧f 4 = I i_8∧Star H w_ ([oS 79 (oRule 3 23) v5 out_9])
 refine W_loop I10 (n:=a.length) ?_ ?_
 exact ij hI10 ⟨0,a,x1,rfl,rfl,Nat.zero_add _,hL10,rfl,rfl,rfl,Z⟩
 intro n10 f w_ hI
 obtain ⟨i_8,suf10,out_9,rfl,hd10,hl10,hL10,sf0,sf3,sf4,Z⟩:=ik hI10 hI
 refine W_seq (sq (mF sf4 rfl (mF sf0 rfl (L_len rfl Tryz.underlying59 rfl (slice_len h0) (L_lss rfl rfl rfl (nn (W_cond (b:=decide ((i_8 : Int) < (a.length : Int))) rfl (fun hc11=>?_) (fun hc11=>?_))))))))
 have hlt10:=of_decide_eq_true hc11
 rcases suf10 with _ | ⟨x_10,rest10⟩
 exact absurd hlt10 (by simp at hl10; omega)
 obtain ⟨o10,hB10,hL10⟩:=range_cons hL10
 rw [l_toRuleS_b1] at hB10
 have hix10:=drop_idx hd10
 refine W_skip (W_seq (W_block ?_))
 obtain ⟨x21,hx21,hB10⟩:=bind_some hB10
 obtain ⟨x26,hx26,hB10⟩:=bind_some hB10
 refine W_region (mF sf3 rfl (mF sf4 rfl (mF sf0 rfl (mF sf4 rfl (L_ix (r:=(rRule 3 23)) rfl Tryz.underlying59 Tryz.sizeOf140 rfl h0 rfl hix10 (fun g30 o31 cs_g30 hrk_hat32 hat32=>?_))))))
 obtain ⟨u33_0,u33_1,u33_2,rfl,hu33_0,hu33_1,hu33_2⟩:=rRule_iff.1 hrk_hat32
 refine L_lda (cs:=[I x_10.kind,u33_0,u33_1,I x_10.bound,u33_2]) rfl Tryz.isAgg140 Tryz.sizeOf140 rfl (At.sub (AtH.at hat32 Z.sub) 0 5) rfl ?_
 obtain ⟨H34b,l35,s36,z37,k38⟩:=Z.borrow
 refine L_call rfl Tryz.call132 (ops1 rfl) (l_toRule_c (a:=x_10) s36 (RP.mono _ hu33_0 l35) (RP.mono _ hu33_1 l35) (RP.mono _ hu33_2 l35) hx21) ?_
 rintro _ w39 ⟨r39_0,r39_1,r39_2,rfl,Z⟩
 have Z:=k38 Z (co closed_int (co closed_int (cc (closed_own (OR.closed_ownS (OR.closed_ownS closed_int)) _ _) c0)))
 obtain ⟨g43,cap_g43,hv44,_,_⟩:=Star.row 3 Z rfl hx26
 refine L_ixO (R:=(oRule 3 23)) (tb:=0) 0 rfl Tryz.underlying24 Tryz.sizeOf79 rfl hv44 (by first | rfl | simp) rfl hx26 ?_
 have Z:=oRule_close (r:=x21) Z
 refine L_stE (vs:=#[I x21.kind,r39_0,r39_1,I x21.bound,r39_2]) rfl Tryz.sizeOf79 rfl rfl rfl hv44 Z hx26 (fun w45 Z=>nn (W_region (mF sf4 rfl (L_add rfl rfl rfl (aI rfl (nn ?_))))))
 obtain rfl:=so hB10
 show ∃ m,m < _∧I10 m _ _
 refine ⟨rest10.length,by simp,?_⟩
 exact ij hI10 ⟨i_8 + 1,rest10,(out_9.set (Int.toNat (i_8 : Int)) x21),rfl,drop_next hd10,by simp at hl10; omega,hL10,sf0,sf3,(Eq.trans rfl (congrArg (Value.int .i64) (i64_succ (n:=a.length) (by simp at hl10; omega) hlen10))),Z⟩
 rcases suf10 with _ | ⟨_,_⟩
 obtain rfl:=range_nil hL10
 refine W_exit (rj hR10 ⟨out_9,rfl,sf3,Z⟩)
 exact absurd (of_decide_eq_false hc11) (by simp at hl10; omega)
 intro f w_ hR
 obtain ⟨out_9,rfl,sf3,Z⟩:=rk hR10 hR
 refine sq (mF sf3 rfl (aV v5 rfl (nn (W_ret (retG1 (v1:=v5) Tryz.results84 rfl ?_)))))
 obtain rfl:=so hF
 exact ⟨v5,rfl,Z⟩
theorem l_toModel_c {a : Model} {v0_0 : Value} {v0_1 : Value} {H : FH} {w : World} (Z : Star H w []) (h0_0 : (rS 3 RP.int).rel H [v0_0] a.sizes) (h0_1 : (rS 140 (rRule 3 23)).rel H [v0_1] a.rules) {r : Model} (hF : l_toModel a = some r) :
 C Tryz.prog 39 #[.agg #[v0_0,v0_1]] w fun v w'=>∃ (u1 : Value) (u2 : Value),v = .agg #[u1,u2]∧Star H w' [oF 3 RP.int u1 r.sizes,oS 79 (oRule 3 23) u2 r.rules]:=by
 unfold l_toModel at hF
 refine C_enter Tryz.func39 rfl Tryz.ntmps39 rfl (sq (L_box (v:=.agg #[v0_0,v0_1]) (cs:=#[v0_0,v0_1]) rfl rfl rfl Z (fun g5 w6 Z=>L_al (cs:=#[S0,S0]) rfl Tryz.zeroValue26 rfl Z (fun g7 w8 Z=>ns (L_al (cs:=#[S0,S0]) rfl Tryz.zeroValue26 rfl Z (fun g11 w12 Z=>nq ?_))))))
 obtain ⟨x18,hx18,hF⟩:=bind_some hF
 refine W_region (fA 0 fa_61_0 rfl rfl (ldB 2 Z Tryz.isAgg23 rfl rfl rfl ?_))
 obtain ⟨H22b,l23,s24,z25,k26⟩:=Z.borrow
 refine L_call rfl Tryz.call83 (ops1 rfl) (l_toIntS_c (a:=a.sizes) s24 (RP.mono _ h0_0 l23) hx18) ?_
 rintro r27_0 w27 ⟨_,rfl,Z⟩
 have Z:=k26 Z (co closed_int c0)
 refine fA 0 fa_26_0 rfl rfl (L_stB (v:=r27_0) (cs2:=#[r27_0,S0]) 1 rfl Tryz.sizeOf23 rfl rfl (one_len (Star.len 0 Z rfl)) Z rfl rfl rfl (fun w29 Z=>nq ?_))
 obtain ⟨x35,hx35,hF⟩:=bind_some hF
 refine W_region (fA 1 fa_61_1 rfl rfl (ldB 3 Z Tryz.isAgg59 rfl rfl rfl ?_))
 obtain ⟨H39b,l40,s41,z42,k43⟩:=Z.borrow
 refine L_call rfl Tryz.call84 (ops1 rfl) (l_toRuleS_c (a:=a.rules) s41 (RP.mono _ h0_1 l40) hx35) ?_
 rintro r44_0 w44 ⟨_,rfl,Z⟩
 have Z:=k43 Z (co closed_oRule c0)
 refine fA 1 fa_26_1 rfl rfl (L_stB (v:=r44_0) (cs2:=#[r27_0,r44_0]) 1 rfl Tryz.sizeOf24 rfl rfl (one_len (Star.len 0 Z rfl)) Z rfl rfl rfl (fun w46 Z=>ns (L_lda (cs:=[r27_0,r44_0]) rfl Tryz.isAgg26 Tryz.sizeOf26 rfl (At.sub0 (Blk.at (Star.blkAt 0 Z rfl)) 0 2) rfl (L_staB (vs:=#[r27_0,r44_0]) (cs2:=#[r27_0,r44_0]) 3 rfl Tryz.sizeOf26 rfl rfl rfl (ones_cons (one_len (Star.len 2 Z rfl)) (ones_cons (one_len (Star.len 1 Z rfl)) ones_nil)) Z rfl (by show 0 + 2≤2; decide) rfl (fun w48 Z=>nn (W_ret (retG1 (v1:=.agg #[r27_0,r44_0]) Tryz.results39 (resV_agg Tryz.isAgg26 Tryz.sizeOf26 rfl (Star.blkAt 0 Z rfl) rfl) ?_)))))))
 obtain rfl:=so hF
 have Z:=Z.gets [2,3] rfl
 exact ⟨r27_0,r44_0,rfl,(Star.keepN 2 Z)⟩
theorem l_eqTerm_c {a : Term} {b : Term} {H : FH} {w : World} (Z : Star H w []) {r : Bool} (hF : l_eqTerm a b = some r) :
 C Tryz.prog 167 #[.agg #[I a.coef,I a.lit],.agg #[I b.coef,I b.lit]] w fun v w'=>v = Bo r∧Star H w' []:=by
 unfold l_eqTerm at hF
 refine C_enter Tryz.func167 rfl Tryz.ntmps167 rfl (sq (L_box (v:=.agg #[I a.coef,I a.lit]) (cs:=#[I a.coef,I a.lit]) rfl rfl rfl Z (fun g5 w6 Z=>L_box (v:=.agg #[I b.coef,I b.lit]) (cs:=#[I b.coef,I b.lit]) rfl rfl rfl Z (fun g7 w8 Z=>aB rfl (nq (sq (fA 0 fa_122_0 rfl rfl (ldB 1 Z Tryz.isAgg3 rfl rfl rfl (fA 0 fa_122_0 rfl rfl (ldB 0 Z Tryz.isAgg3 rfl rfl rfl (L_neq rfl rfl rfl (nn (W_cond (b:=(a.coef != b.coef)) rfl (fun hc9=>?_) (fun hc9=>?_))))))))))))))
 have hF:=(ite_t hc9).symm.trans hF
 refine sq (aB rfl (nn (W_ret (retG1 (v1:=Bo false) Tryz.results167 rfl ?_))))
 obtain rfl:=so hF
 exact ⟨rfl,(Star.keepN 0 Z)⟩
 have hF:=(ite_f hc9).symm.trans hF
 refine W_skip (W_seq (sq (fA 1 fa_122_1 rfl rfl (ldB 1 Z Tryz.isAgg3 rfl rfl rfl (fA 1 fa_122_1 rfl rfl (ldB 0 Z Tryz.isAgg3 rfl rfl rfl (L_neq rfl rfl rfl (nn (W_cond (b:=(a.lit != b.lit)) rfl (fun hc10=>?_) (fun hc10=>?_))))))))))
 have hF:=(ite_t hc10).symm.trans hF
 refine sq (aB rfl (nn (W_ret (retG1 (v1:=Bo false) Tryz.results167 rfl ?_))))
 obtain rfl:=so hF
 exact ⟨rfl,(Star.keepN 0 Z)⟩
 have hF:=(ite_f hc10).symm.trans hF
 refine W_skip (sq (aB rfl (nn (W_ret (retG1 (v1:=Bo true) Tryz.results167 rfl ?_)))))
 obtain rfl:=so hF
 exact ⟨rfl,(Star.keepN 0 Z)⟩
theorem l_eqTermS_c {a : List Term} {b : List Term} {v0 : Value} {v1 : Value} {H : FH} {w : World} (Z : Star H w []) (h0 : (rS 122 rTerm).rel H [v0] a) (h1 : (rS 122 rTerm).rel H [v1] b) {r : Bool} (hF : l_eqTermS a b = some r) :
 C Tryz.prog 133 #[v0,v1] w fun v w'=>v = Bo r∧Star H w' []:=by
 unfold l_eqTermS at hF
 refine C_enter Tryz.func133 rfl Tryz.ntmps133 rfl (sq (aB rfl (nq (sq (mV v0 rfl (L_len rfl Tryz.underlying71 rfl (slice_len h0) (mV v1 rfl (L_len rfl Tryz.underlying71 rfl (slice_len h1) (L_neq rfl rfl rfl (nn (W_cond (b:=((a.length : Int) != (b.length : Int))) rfl (fun hc1=>?_) (fun hc1=>?_))))))))))))
 have hF:=(ite_t hc1).symm.trans hF
 refine sq (aB rfl (nn (W_ret (retG1 (v1:=Bo false) Tryz.results133 rfl ?_))))
 obtain rfl:=so hF
 exact ⟨rfl,Z⟩
 have hF:=(ite_f hc1).symm.trans hF
 refine W_skip (W_seq (sq (aI rfl (nn ?_))))
 have hlen5 : List.length a≤9223372036854775807:=len_le (slice_len h0)
 obtain ⟨j5,hL5,hF⟩:=bind_some hF
 obtain ⟨R5,hR5⟩:=exR fun f w_=>∃ H3 : FH,j5 = .nx ()∧Le H H3∧Star H3 w_ ([])
 refine W_join R5 ?_ ?_
 refine W_block ?_
 obtain ⟨I5,hI5⟩:=exI fun n f w_=>∃ i_2 : Nat,∃ suf5 : List Term,∃ H3 : FH,n = suf5.length∧List.drop i_2 a = suf5∧i_2 + suf5.length = a.length∧rangeL (l_eqTermS_b1 b) suf5 i_2 () = some j5∧Le H H3∧f 0 = v0∧f 1 = v1∧f 5 = I i_2∧Star H3 w_ ([])
 refine W_loop I5 (n:=a.length) ?_ ?_
 exact ij hI5 ⟨0,a,H,rfl,rfl,Nat.zero_add _,hL5,(Le.refl _),rfl,rfl,rfl,Z⟩
 intro n5 f w_ hI
 obtain ⟨i_2,suf5,H3,rfl,hd5,hl5,hL5,l4,sf0,sf1,sf5,Z⟩:=ik hI5 hI
 refine W_seq (sq (mF sf5 rfl (mF sf0 rfl (L_len rfl Tryz.underlying71 rfl (slice_len (RP.mono _ h0 l4)) (L_lss rfl rfl rfl (nn (W_cond (b:=decide ((i_2 : Int) < (a.length : Int))) rfl (fun hc6=>?_) (fun hc6=>?_))))))))
 have hlt5:=of_decide_eq_true hc6
 rcases suf5 with _ | ⟨x_5,rest5⟩
 exact absurd hlt5 (by simp at hl5; omega)
 obtain ⟨o5,hB5,hL5⟩:=range_cons hL5
 rw [l_eqTermS_b1] at hB5
 have hix5:=drop_idx hd5
 refine W_skip (W_seq (W_block (W_seq ?_)))
 obtain ⟨x11,hx11,hB5⟩:=bind_some hB5
 obtain ⟨x21,hx21,hB5⟩:=bind_some hB5
 refine W_drawS 8 [isV (v0),isV (I i_2),isEl rTerm x_5 0,isV (.agg #[I x_5.coef,I x_5.lit]),isV (v1),isV (I i_2),isEl rTerm x11 0,isV (.agg #[I x11.coef,I x11.lit])] [] [] ([]) [([],[]),([],[]),([],[]),([],[]),([],[]),([],[]),([],[]),([],[])] (S:=[]) Tryz_mix (by kernel_rfl) rfl (by kernel_rfl) (amF_cons (mono_V _) (amF_cons (mono_V _) (amF_cons (mono_el _ _ _) (amF_cons (mono_V _) (amF_cons (mono_V _) (amF_cons (mono_V _) (amF_cons (mono_el _ _ _) (amF_cons (mono_V _) amF_nil)))))))) Z ?_ (fun f w_ H23 hS23 hE23 hT23 Z=>?_)
 refine opsS_cons (fun f w_ _ _ s _ _ Z=>mF ((s 0 rfl).trans sf0) rfl (nO rfl rfl Z)) (opsS_cons (fun f w_ _ _ s _ _ Z=>mF ((s 5 rfl).trans sf5) rfl (nO rfl rfl Z)) (opsS_cons ?_ ?_))
 intro f w_ H23 X23 hS23 hE23 hP23 Z
 refine L_ix (r:=rTerm) rfl Tryz.underlying71 Tryz.sizeOf122 (hP23 0 17 rfl rfl) (RP.mono _ h0 (Le.trans l4 hE23)) (hP23 1 18 rfl rfl) hix5 (fun g32 o33 cs_g32 hrk_hat34 hat34=>?_)
 obtain rfl:=rTerm_iff.1 hrk_hat34
 exact L_nil ⟨rfl,_,_,rfl,Le.refl _,fun _ _=>⟨_,_,_,rfl,hrk_hat34,hat34⟩,Z⟩
 refine opsS_cons ?_ ?_
 intro f w_ H23 X23 hS23 hE23 hP23 Z
 obtain ⟨g36,o36,cs36,hv36,hrk_hat36,hat36⟩:=(hP23 2 19 rfl rfl)
 obtain rfl:=rTerm_iff.1 hrk_hat36
 refine L_lda (cs:=[I x_5.coef,I x_5.lit]) rfl Tryz.isAgg122 Tryz.sizeOf122 hv36 (At.sub (AtH.at hat36 Z.sub) 0 2) rfl (L_nil ⟨rfl,_,_,rfl,Le.refl _,fun _ _=>rfl,Z⟩)
 refine opsS_cons (fun f w_ _ _ s _ _ Z=>mF ((s 1 rfl).trans sf1) rfl (nO rfl rfl Z)) (opsS_cons (fun f w_ _ _ s _ _ Z=>mF ((s 5 rfl).trans sf5) rfl (nO rfl rfl Z)) (opsS_cons ?_ ?_))
 intro f w_ H23 X23 hS23 hE23 hP23 Z
 refine L_ix (r:=rTerm) rfl Tryz.underlying71 Tryz.sizeOf122 (hP23 4 21 rfl rfl) (RP.mono _ h1 (Le.trans l4 hE23)) (hP23 5 22 rfl rfl) hx11 (fun g38 o39 cs_g38 hrk_hat40 hat40=>?_)
 obtain rfl:=rTerm_iff.1 hrk_hat40
 exact L_nil ⟨rfl,_,_,rfl,Le.refl _,fun _ _=>⟨_,_,_,rfl,hrk_hat40,hat40⟩,Z⟩
 refine opsS_cons ?_ ?_
 intro f w_ H23 X23 hS23 hE23 hP23 Z
 obtain ⟨g42,o42,cs42,hv42,hrk_hat42,hat42⟩:=(hP23 6 23 rfl rfl)
 obtain rfl:=rTerm_iff.1 hrk_hat42
 refine L_lda (cs:=[I x11.coef,I x11.lit]) rfl Tryz.isAgg122 Tryz.sizeOf122 hv42 (At.sub (AtH.at hat42 Z.sub) 0 2) rfl (L_nil ⟨rfl,_,_,rfl,Le.refl _,fun _ _=>rfl,Z⟩)
 exact opsS_nil
 obtain ⟨H44b,l45,s46,z47,k48⟩:=Z.borrow
 refine L_call rfl Tryz.call167 (ops2 (hT23 3 20 rfl rfl) (hT23 7 24 rfl rfl)) (l_eqTerm_c (a:=x_5) (b:=x11) s46 hx21) ?_
 rintro _ w49 ⟨rfl,Z⟩
 have Z:=k48 Z c0
 refine L_not_ rfl rfl (nn (W_cond (b:=(!x21)) rfl (fun hc50=>?_) (fun hc50=>?_)))
 have hB5:=(ite_t hc50).symm.trans hB5
 refine sq (aB rfl (nn (W_ret (retG1 (v1:=Bo false) Tryz.results133 rfl ?_))))
 obtain rfl:=so hB5
 obtain rfl:=so hL5
 obtain rfl:=so hF
 exact ⟨rfl,(Star.down Z (Le.trans l4 hE23) c0)⟩
 have hB5:=(ite_f hc50).symm.trans hB5
 refine W_skip (W_region (mF ((hS23 5 rfl).trans sf5) rfl (L_add rfl rfl rfl (aI rfl (nn ?_)))))
 obtain rfl:=so hB5
 show ∃ m,m < _∧I5 m _ _
 refine ⟨rest5.length,by simp,?_⟩
 exact ij hI5 ⟨i_2 + 1,rest5,H23,rfl,drop_next hd5,by simp at hl5; omega,hL5,(Le.trans l4 hE23),((hS23 0 rfl).trans sf0),((hS23 1 rfl).trans sf1),(Eq.trans rfl (congrArg (Value.int .i64) (i64_succ (n:=a.length) (by simp at hl5; omega) hlen5))),Z⟩
 rcases suf5 with _ | ⟨_,_⟩
 obtain rfl:=range_nil hL5
 refine W_exit (rj hR5 ⟨H3,rfl,l4,Z⟩)
 exact absurd (of_decide_eq_false hc6) (by simp at hl5; omega)
 intro f w_ hR
 obtain ⟨H3,rfl,l4,Z⟩:=rk hR5 hR
 refine sq (aB rfl (nn (W_ret (retG1 (v1:=Bo true) Tryz.results133 rfl ?_))))
 obtain rfl:=so hF
 exact ⟨rfl,(Star.down Z l4 c0)⟩
theorem l_eqConstraint_c {a : Con} {b : Con} {v0_0 : Value} {v1_0 : Value} {H : FH} {w : World} (Z : Star H w []) (h0_0 : (rS 122 rTerm).rel H [v0_0] a.terms) (h1_0 : (rS 122 rTerm).rel H [v1_0] b.terms) {r : Bool} (hF : l_eqConstraint a b = some r) :
 C Tryz.prog 85 #[.agg #[v0_0,I a.bound],.agg #[v1_0,I b.bound]] w fun v w'=>v = Bo r∧Star H w' []:=by
 unfold l_eqConstraint at hF
 refine C_enter Tryz.func85 rfl Tryz.ntmps85 rfl (sq (L_box (v:=.agg #[v0_0,I a.bound]) (cs:=#[v0_0,I a.bound]) rfl rfl rfl Z (fun g5 w6 Z=>L_box (v:=.agg #[v1_0,I b.bound]) (cs:=#[v1_0,I b.bound]) rfl rfl rfl Z (fun g7 w8 Z=>aB rfl (nq (W_seq ?_))))))
 obtain ⟨x14,hx14,hF⟩:=bind_some hF
 refine W_region (fA 0 fa_73_0 rfl rfl (ldB 1 Z Tryz.isAgg71 rfl rfl rfl (fA 0 fa_73_0 rfl rfl (ldB 0 Z Tryz.isAgg71 rfl rfl rfl ?_))))
 obtain ⟨H16b,l17,s18,z19,k20⟩:=Z.borrow
 refine L_call rfl Tryz.call133 (ops2 rfl rfl) (l_eqTermS_c (a:=a.terms) (b:=b.terms) s18 (RP.mono _ h0_0 l17) (RP.mono _ h1_0 l17) hx14) ?_
 rintro _ w21 ⟨rfl,Z⟩
 have Z:=k20 Z c0
 refine L_not_ rfl rfl (nn (W_cond (b:=(!x14)) rfl (fun hc22=>?_) (fun hc22=>?_)))
 have hF:=(ite_t hc22).symm.trans hF
 refine sq (aB rfl (nn (W_ret (retG1 (v1:=Bo false) Tryz.results85 rfl ?_))))
 obtain rfl:=so hF
 exact ⟨rfl,(Star.keepN 0 Z)⟩
 have hF:=(ite_f hc22).symm.trans hF
 refine W_skip (W_seq (sq (fA 1 fa_73_1 rfl rfl (ldB 1 Z Tryz.isAgg3 rfl rfl rfl (fA 1 fa_73_1 rfl rfl (ldB 0 Z Tryz.isAgg3 rfl rfl rfl (L_neq rfl rfl rfl (nn (W_cond (b:=(a.bound != b.bound)) rfl (fun hc23=>?_) (fun hc23=>?_))))))))))
 have hF:=(ite_t hc23).symm.trans hF
 refine sq (aB rfl (nn (W_ret (retG1 (v1:=Bo false) Tryz.results85 rfl ?_))))
 obtain rfl:=so hF
 exact ⟨rfl,(Star.keepN 0 Z)⟩
 have hF:=(ite_f hc23).symm.trans hF
 refine W_skip (sq (aB rfl (nn (W_ret (retG1 (v1:=Bo true) Tryz.results85 rfl ?_)))))
 obtain rfl:=so hF
 exact ⟨rfl,(Star.keepN 0 Z)⟩
theorem l_eqConstraintS_c {a : List Con} {b : List Con} {v0 : Value} {v1 : Value} {H : FH} {w : World} (Z : Star H w []) (h0 : (rS 73 (rCon 122)).rel H [v0] a) (h1 : (rS 73 (rCon 122)).rel H [v1] b) {r : Bool} (hF : l_eqConstraintS a b = some r) :
 C Tryz.prog 40 #[v0,v1] w fun v w'=>v = Bo r∧Star H w' []:=by
 unfold l_eqConstraintS at hF
 refine C_enter Tryz.func40 rfl Tryz.ntmps40 rfl (sq (aB rfl (nq (sq (mV v0 rfl (L_len rfl Tryz.underlying28 rfl (slice_len h0) (mV v1 rfl (L_len rfl Tryz.underlying28 rfl (slice_len h1) (L_neq rfl rfl rfl (nn (W_cond (b:=((a.length : Int) != (b.length : Int))) rfl (fun hc1=>?_) (fun hc1=>?_))))))))))))
 have hF:=(ite_t hc1).symm.trans hF
 refine sq (aB rfl (nn (W_ret (retG1 (v1:=Bo false) Tryz.results40 rfl ?_))))
 obtain rfl:=so hF
 exact ⟨rfl,Z⟩
 have hF:=(ite_f hc1).symm.trans hF
 refine W_skip (W_seq (sq (aI rfl (nn ?_))))
 have hlen5 : List.length a≤9223372036854775807:=len_le (slice_len h0)
 obtain ⟨j5,hL5,hF⟩:=bind_some hF
 obtain ⟨R5,hR5⟩:=exR fun f w_=>∃ H3 : FH,j5 = .nx ()∧Le H H3∧Star H3 w_ ([])
 refine W_join R5 ?_ ?_
 refine W_block ?_
 obtain ⟨I5,hI5⟩:=exI fun n f w_=>∃ i_2 : Nat,∃ suf5 : List Con,∃ H3 : FH,n = suf5.length∧List.drop i_2 a = suf5∧i_2 + suf5.length = a.length∧rangeL (l_eqConstraintS_b1 b) suf5 i_2 () = some j5∧Le H H3∧f 0 = v0∧f 1 = v1∧f 5 = I i_2∧Star H3 w_ ([])
 refine W_loop I5 (n:=a.length) ?_ ?_
 exact ij hI5 ⟨0,a,H,rfl,rfl,Nat.zero_add _,hL5,(Le.refl _),rfl,rfl,rfl,Z⟩
 intro n5 f w_ hI
 obtain ⟨i_2,suf5,H3,rfl,hd5,hl5,hL5,l4,sf0,sf1,sf5,Z⟩:=ik hI5 hI
 refine W_seq (sq (mF sf5 rfl (mF sf0 rfl (L_len rfl Tryz.underlying28 rfl (slice_len (RP.mono _ h0 l4)) (L_lss rfl rfl rfl (nn (W_cond (b:=decide ((i_2 : Int) < (a.length : Int))) rfl (fun hc6=>?_) (fun hc6=>?_))))))))
 have hlt5:=of_decide_eq_true hc6
 rcases suf5 with _ | ⟨x_5,rest5⟩
 exact absurd hlt5 (by simp at hl5; omega)
 obtain ⟨o5,hB5,hL5⟩:=range_cons hL5
 rw [l_eqConstraintS_b1] at hB5
 have hix5:=drop_idx hd5
 refine W_skip (W_seq (W_block (W_seq ?_)))
 obtain ⟨x11,hx11,hB5⟩:=bind_some hB5
 obtain ⟨x21,hx21,hB5⟩:=bind_some hB5
 refine W_drawS 8 [isV (v0),isV (I i_2),isEl (rCon 122) x_5 0,exD (isData (rS 122 rTerm) x_5.terms) fun u_0=>isV (.agg #[u_0,I x_5.bound]),isV (v1),isV (I i_2),isEl (rCon 122) x11 0,exD (isData (rS 122 rTerm) x11.terms) fun u_0=>isV (.agg #[u_0,I x11.bound])] [] [] ([]) [([],[]),([],[]),([],[]),([],[]),([],[]),([],[]),([],[]),([],[])] (S:=[]) Tryz_mix (by kernel_rfl) rfl (by kernel_rfl) (amF_cons (mono_V _) (amF_cons (mono_V _) (amF_cons (mono_el _ _ _) (amF_cons (mono_exD (mono_data _ _) fun _=>mono_V _) (amF_cons (mono_V _) (amF_cons (mono_V _) (amF_cons (mono_el _ _ _) (amF_cons (mono_exD (mono_data _ _) fun _=>mono_V _) amF_nil)))))))) Z ?_ (fun f w_ H23 hS23 hE23 hT23 Z=>?_)
 refine opsS_cons (fun f w_ _ _ s _ _ Z=>mF ((s 0 rfl).trans sf0) rfl (nO rfl rfl Z)) (opsS_cons (fun f w_ _ _ s _ _ Z=>mF ((s 5 rfl).trans sf5) rfl (nO rfl rfl Z)) (opsS_cons ?_ ?_))
 intro f w_ H23 X23 hS23 hE23 hP23 Z
 refine L_ix (r:=(rCon 122)) rfl Tryz.underlying28 Tryz.sizeOf73 (hP23 0 17 rfl rfl) (RP.mono _ h0 (Le.trans l4 hE23)) (hP23 1 18 rfl rfl) hix5 (fun g32 o33 cs_g32 hrk_hat34 hat34=>?_)
 obtain ⟨u35_0,rfl,hu35_0⟩:=rCon_iff.1 hrk_hat34
 exact L_nil ⟨rfl,_,_,rfl,Le.refl _,fun _ _=>⟨_,_,_,rfl,hrk_hat34,hat34⟩,Z⟩
 refine opsS_cons ?_ ?_
 intro f w_ H23 X23 hS23 hE23 hP23 Z
 obtain ⟨g36,o36,cs36,hv36,hrk_hat36,hat36⟩:=(hP23 2 19 rfl rfl)
 obtain ⟨u37_0,rfl,hu37_0⟩:=rCon_iff.1 hrk_hat36
 refine L_lda (cs:=[u37_0,I x_5.bound]) rfl Tryz.isAgg73 Tryz.sizeOf73 hv36 (At.sub (AtH.at hat36 Z.sub) 0 2) rfl (L_nil ⟨rfl,_,_,rfl,Le.refl _,fun _ _=>⟨_,hu37_0,rfl⟩,Z⟩)
 refine opsS_cons (fun f w_ _ _ s _ _ Z=>mF ((s 1 rfl).trans sf1) rfl (nO rfl rfl Z)) (opsS_cons (fun f w_ _ _ s _ _ Z=>mF ((s 5 rfl).trans sf5) rfl (nO rfl rfl Z)) (opsS_cons ?_ ?_))
 intro f w_ H23 X23 hS23 hE23 hP23 Z
 refine L_ix (r:=(rCon 122)) rfl Tryz.underlying28 Tryz.sizeOf73 (hP23 4 21 rfl rfl) (RP.mono _ h1 (Le.trans l4 hE23)) (hP23 5 22 rfl rfl) hx11 (fun g38 o39 cs_g38 hrk_hat40 hat40=>?_)
 obtain ⟨u41_0,rfl,hu41_0⟩:=rCon_iff.1 hrk_hat40
 exact L_nil ⟨rfl,_,_,rfl,Le.refl _,fun _ _=>⟨_,_,_,rfl,hrk_hat40,hat40⟩,Z⟩
 refine opsS_cons ?_ ?_
 intro f w_ H23 X23 hS23 hE23 hP23 Z
 obtain ⟨g42,o42,cs42,hv42,hrk_hat42,hat42⟩:=(hP23 6 23 rfl rfl)
 obtain ⟨u43_0,rfl,hu43_0⟩:=rCon_iff.1 hrk_hat42
 refine L_lda (cs:=[u43_0,I x11.bound]) rfl Tryz.isAgg73 Tryz.sizeOf73 hv42 (At.sub (AtH.at hat42 Z.sub) 0 2) rfl (L_nil ⟨rfl,_,_,rfl,Le.refl _,fun _ _=>⟨_,hu43_0,rfl⟩,Z⟩)
 exact opsS_nil
 obtain ⟨u44_0,hu44_0,hv44⟩:=(hT23 3 20 rfl rfl)
 obtain ⟨u45_0,hu45_0,hv45⟩:=(hT23 7 24 rfl rfl)
 obtain ⟨H46b,l47,s48,z49,k50⟩:=Z.borrow
 refine L_call rfl Tryz.call85 (ops2 hv44 hv45) (l_eqConstraint_c (a:=x_5) (b:=x11) s48 (RP.mono _ hu44_0 l47) (RP.mono _ hu45_0 l47) hx21) ?_
 rintro _ w51 ⟨rfl,Z⟩
 have Z:=k50 Z c0
 refine L_not_ rfl rfl (nn (W_cond (b:=(!x21)) rfl (fun hc52=>?_) (fun hc52=>?_)))
 have hB5:=(ite_t hc52).symm.trans hB5
 refine sq (aB rfl (nn (W_ret (retG1 (v1:=Bo false) Tryz.results40 rfl ?_))))
 obtain rfl:=so hB5
 obtain rfl:=so hL5
 obtain rfl:=so hF
 exact ⟨rfl,(Star.down Z (Le.trans l4 hE23) c0)⟩
 have hB5:=(ite_f hc52).symm.trans hB5
 refine W_skip (W_region (mF ((hS23 5 rfl).trans sf5) rfl (L_add rfl rfl rfl (aI rfl (nn ?_)))))
 obtain rfl:=so hB5
 show ∃ m,m < _∧I5 m _ _
 refine ⟨rest5.length,by simp,?_⟩
 exact ij hI5 ⟨i_2 + 1,rest5,H23,rfl,drop_next hd5,by simp at hl5; omega,hL5,(Le.trans l4 hE23),((hS23 0 rfl).trans sf0),((hS23 1 rfl).trans sf1),(Eq.trans rfl (congrArg (Value.int .i64) (i64_succ (n:=a.length) (by simp at hl5; omega) hlen5))),Z⟩
 rcases suf5 with _ | ⟨_,_⟩
 obtain rfl:=range_nil hL5
 refine W_exit (rj hR5 ⟨H3,rfl,l4,Z⟩)
 exact absurd (of_decide_eq_false hc6) (by simp at hl5; omega)
 intro f w_ hR
 obtain ⟨H3,rfl,l4,Z⟩:=rk hR5 hR
 refine sq (aB rfl (nn (W_ret (retG1 (v1:=Bo true) Tryz.results40 rfl ?_))))
 obtain rfl:=so hF
 exact ⟨rfl,(Star.down Z l4 c0)⟩
theorem l_eqIntS_c {a : List Int} {b : List Int} {v0 : Value} {v1 : Value} {H : FH} {w : World} (Z : Star H w []) (h0 : (rS 3 RP.int).rel H [v0] a) (h1 : (rS 3 RP.int).rel H [v1] b) {r : Bool} (hF : l_eqIntS a b = some r) :
 C Tryz.prog 86 #[v0,v1] w fun v w'=>v = Bo r∧Star H w' []:=by
 unfold l_eqIntS at hF
 refine C_enter Tryz.func86 rfl Tryz.ntmps86 rfl (sq (aB rfl (nq (sq (mV v0 rfl (L_len rfl Tryz.underlying23 rfl (slice_len h0) (mV v1 rfl (L_len rfl Tryz.underlying23 rfl (slice_len h1) (L_neq rfl rfl rfl (nn (W_cond (b:=((a.length : Int) != (b.length : Int))) rfl (fun hc1=>?_) (fun hc1=>?_))))))))))))
 have hF:=(ite_t hc1).symm.trans hF
 refine sq (aB rfl (nn (W_ret (retG1 (v1:=Bo false) Tryz.results86 rfl ?_))))
 obtain rfl:=so hF
 exact ⟨rfl,Z⟩
 have hF:=(ite_f hc1).symm.trans hF
 refine W_skip (W_seq (sq (aI rfl (nn ?_))))
 have hlen5 : List.length a≤9223372036854775807:=len_le (slice_len h0)
 obtain ⟨j5,hL5,hF⟩:=bind_some hF
 obtain ⟨R5,hR5⟩:=exR fun f w_=>∃ H3 : FH,j5 = .nx ()∧Le H H3∧Star H3 w_ ([])
 refine W_join R5 ?_ ?_
 refine W_block ?_
 obtain ⟨I5,hI5⟩:=exI fun n f w_=>∃ i_2 : Nat,∃ suf5 : List Int,∃ H3 : FH,n = suf5.length∧List.drop i_2 a = suf5∧i_2 + suf5.length = a.length∧rangeL (l_eqIntS_b1 b) suf5 i_2 () = some j5∧Le H H3∧f 0 = v0∧f 1 = v1∧f 5 = I i_2∧Star H3 w_ ([])
 refine W_loop I5 (n:=a.length) ?_ ?_
 exact ij hI5 ⟨0,a,H,rfl,rfl,Nat.zero_add _,hL5,(Le.refl _),rfl,rfl,rfl,Z⟩
 intro n5 f w_ hI
 obtain ⟨i_2,suf5,H3,rfl,hd5,hl5,hL5,l4,sf0,sf1,sf5,Z⟩:=ik hI5 hI
 refine W_seq (sq (mF sf5 rfl (mF sf0 rfl (L_len rfl Tryz.underlying23 rfl (slice_len (RP.mono _ h0 l4)) (L_lss rfl rfl rfl (nn (W_cond (b:=decide ((i_2 : Int) < (a.length : Int))) rfl (fun hc6=>?_) (fun hc6=>?_))))))))
 have hlt5:=of_decide_eq_true hc6
 rcases suf5 with _ | ⟨x_5,rest5⟩
 exact absurd hlt5 (by simp at hl5; omega)
 obtain ⟨o5,hB5,hL5⟩:=range_cons hL5
 rw [l_eqIntS_b1] at hB5
 have hix5:=drop_idx hd5
 refine W_skip (W_seq (W_block (W_seq ?_)))
 obtain ⟨x11,hx11,hB5⟩:=bind_some hB5
 refine W_drawS 8 [isV (v0),isV (I i_2),isEl RP.int x_5 0,isV (I x_5),isV (v1),isV (I i_2),isEl RP.int x11 0,isV (I x11)] [] [] ([]) [([],[]),([],[]),([],[]),([],[]),([],[]),([],[]),([],[]),([],[])] (S:=[]) Tryz_mix (by kernel_rfl) rfl (by kernel_rfl) (amF_cons (mono_V _) (amF_cons (mono_V _) (amF_cons (mono_el _ _ _) (amF_cons (mono_V _) (amF_cons (mono_V _) (amF_cons (mono_V _) (amF_cons (mono_el _ _ _) (amF_cons (mono_V _) amF_nil)))))))) Z ?_ (fun f w_ H16 hS16 hE16 hT16 Z=>?_)
 refine opsS_cons (fun f w_ _ _ s _ _ Z=>mF ((s 0 rfl).trans sf0) rfl (nO rfl rfl Z)) (opsS_cons (fun f w_ _ _ s _ _ Z=>mF ((s 5 rfl).trans sf5) rfl (nO rfl rfl Z)) (opsS_cons ?_ ?_))
 intro f w_ H16 X16 hS16 hE16 hP16 Z
 refine L_ix (r:=RP.int) rfl Tryz.underlying23 Tryz.sizeOf3 (hP16 0 17 rfl rfl) (RP.mono _ h0 (Le.trans l4 hE16)) (hP16 1 18 rfl rfl) hix5 (fun g25 o26 cs_g25 hrk_hat27 hat27=>?_)
 obtain rfl : _ = [_]:=hrk_hat27
 exact L_nil ⟨rfl,_,_,rfl,Le.refl _,fun _ _=>⟨_,_,_,rfl,rfl,hat27⟩,Z⟩
 refine opsS_cons ?_ ?_
 intro f w_ H16 X16 hS16 hE16 hP16 Z
 obtain ⟨g29,o29,cs29,hv29,hrk_hat29,hat29⟩:=(hP16 2 19 rfl rfl)
 obtain rfl : _ = [_]:=hrk_hat29
 refine L_ld rfl Tryz.isAgg3 hv29 (At.cell (AtH.at hat29 Z.sub) (j:=0) rfl) (L_nil ⟨rfl,_,_,rfl,Le.refl _,fun _ _=>rfl,Z⟩)
 refine opsS_cons (fun f w_ _ _ s _ _ Z=>mF ((s 1 rfl).trans sf1) rfl (nO rfl rfl Z)) (opsS_cons (fun f w_ _ _ s _ _ Z=>mF ((s 5 rfl).trans sf5) rfl (nO rfl rfl Z)) (opsS_cons ?_ ?_))
 intro f w_ H16 X16 hS16 hE16 hP16 Z
 refine L_ix (r:=RP.int) rfl Tryz.underlying23 Tryz.sizeOf3 (hP16 4 21 rfl rfl) (RP.mono _ h1 (Le.trans l4 hE16)) (hP16 5 22 rfl rfl) hx11 (fun g31 o32 cs_g31 hrk_hat33 hat33=>?_)
 obtain rfl : _ = [_]:=hrk_hat33
 exact L_nil ⟨rfl,_,_,rfl,Le.refl _,fun _ _=>⟨_,_,_,rfl,rfl,hat33⟩,Z⟩
 refine opsS_cons ?_ ?_
 intro f w_ H16 X16 hS16 hE16 hP16 Z
 obtain ⟨g35,o35,cs35,hv35,hrk_hat35,hat35⟩:=(hP16 6 23 rfl rfl)
 obtain rfl : _ = [_]:=hrk_hat35
 refine L_ld rfl Tryz.isAgg3 hv35 (At.cell (AtH.at hat35 Z.sub) (j:=0) rfl) (L_nil ⟨rfl,_,_,rfl,Le.refl _,fun _ _=>rfl,Z⟩)
 exact opsS_nil
 refine L_neq rfl (hT16 3 20 rfl rfl) (hT16 7 24 rfl rfl) (nn (W_cond (b:=(x_5 != x11)) rfl (fun hc37=>?_) (fun hc37=>?_)))
 have hB5:=(ite_t hc37).symm.trans hB5
 refine sq (aB rfl (nn (W_ret (retG1 (v1:=Bo false) Tryz.results86 rfl ?_))))
 obtain rfl:=so hB5
 obtain rfl:=so hL5
 obtain rfl:=so hF
 exact ⟨rfl,(Star.down Z (Le.trans l4 hE16) c0)⟩
 have hB5:=(ite_f hc37).symm.trans hB5
 refine W_skip (W_region (mF ((hS16 5 rfl).trans sf5) rfl (L_add rfl rfl rfl (aI rfl (nn ?_)))))
 obtain rfl:=so hB5
 show ∃ m,m < _∧I5 m _ _
 refine ⟨rest5.length,by simp,?_⟩
 exact ij hI5 ⟨i_2 + 1,rest5,H16,rfl,drop_next hd5,by simp at hl5; omega,hL5,(Le.trans l4 hE16),((hS16 0 rfl).trans sf0),((hS16 1 rfl).trans sf1),(Eq.trans rfl (congrArg (Value.int .i64) (i64_succ (n:=a.length) (by simp at hl5; omega) hlen5))),Z⟩
 rcases suf5 with _ | ⟨_,_⟩
 obtain rfl:=range_nil hL5
 refine W_exit (rj hR5 ⟨H3,rfl,l4,Z⟩)
 exact absurd (of_decide_eq_false hc6) (by simp at hl5; omega)
 intro f w_ hR
 obtain ⟨H3,rfl,l4,Z⟩:=rk hR5 hR
 refine sq (aB rfl (nn (W_ret (retG1 (v1:=Bo true) Tryz.results86 rfl ?_))))
 obtain rfl:=so hF
 exact ⟨rfl,(Star.down Z l4 c0)⟩
theorem l_eqIntSS_c {a : List (List Int)} {b : List (List Int)} {v0 : Value} {v1 : Value} {H : FH} {w : World} (Z : Star H w []) (h0 : (rS 23 (rS 3 RP.int)).rel H [v0] a) (h1 : (rS 23 (rS 3 RP.int)).rel H [v1] b) {r : Bool} (hF : l_eqIntSS a b = some r) :
 C Tryz.prog 168 #[v0,v1] w fun v w'=>v = Bo r∧Star H w' []:=by
 unfold l_eqIntSS at hF
 refine C_enter Tryz.func168 rfl Tryz.ntmps168 rfl (sq (aB rfl (nq (sq (mV v0 rfl (L_len rfl Tryz.underlying77 rfl (slice_len h0) (mV v1 rfl (L_len rfl Tryz.underlying77 rfl (slice_len h1) (L_neq rfl rfl rfl (nn (W_cond (b:=((a.length : Int) != (b.length : Int))) rfl (fun hc1=>?_) (fun hc1=>?_))))))))))))
 have hF:=(ite_t hc1).symm.trans hF
 refine sq (aB rfl (nn (W_ret (retG1 (v1:=Bo false) Tryz.results168 rfl ?_))))
 obtain rfl:=so hF
 exact ⟨rfl,Z⟩
 have hF:=(ite_f hc1).symm.trans hF
 refine W_skip (W_seq (sq (aI rfl (nn ?_))))
 have hlen5 : List.length a≤9223372036854775807:=len_le (slice_len h0)
 obtain ⟨j5,hL5,hF⟩:=bind_some hF
 obtain ⟨R5,hR5⟩:=exR fun f w_=>∃ H3 : FH,j5 = .nx ()∧Le H H3∧Star H3 w_ ([])
 refine W_join R5 ?_ ?_
 refine W_block ?_
 obtain ⟨I5,hI5⟩:=exI fun n f w_=>∃ i_2 : Nat,∃ suf5 : List (List Int),∃ H3 : FH,n = suf5.length∧List.drop i_2 a = suf5∧i_2 + suf5.length = a.length∧rangeL (l_eqIntSS_b1 b) suf5 i_2 () = some j5∧Le H H3∧f 0 = v0∧f 1 = v1∧f 5 = I i_2∧Star H3 w_ ([])
 refine W_loop I5 (n:=a.length) ?_ ?_
 exact ij hI5 ⟨0,a,H,rfl,rfl,Nat.zero_add _,hL5,(Le.refl _),rfl,rfl,rfl,Z⟩
 intro n5 f w_ hI
 obtain ⟨i_2,suf5,H3,rfl,hd5,hl5,hL5,l4,sf0,sf1,sf5,Z⟩:=ik hI5 hI
 refine W_seq (sq (mF sf5 rfl (mF sf0 rfl (L_len rfl Tryz.underlying77 rfl (slice_len (RP.mono _ h0 l4)) (L_lss rfl rfl rfl (nn (W_cond (b:=decide ((i_2 : Int) < (a.length : Int))) rfl (fun hc6=>?_) (fun hc6=>?_))))))))
 have hlt5:=of_decide_eq_true hc6
 rcases suf5 with _ | ⟨x_5,rest5⟩
 exact absurd hlt5 (by simp at hl5; omega)
 obtain ⟨o5,hB5,hL5⟩:=range_cons hL5
 rw [l_eqIntSS_b1] at hB5
 have hix5:=drop_idx hd5
 refine W_skip (W_seq (W_block (W_seq ?_)))
 obtain ⟨x11,hx11,hB5⟩:=bind_some hB5
 obtain ⟨x21,hx21,hB5⟩:=bind_some hB5
 refine W_drawS 8 [isV (v0),isV (I i_2),isEl (rS 3 RP.int) x_5 0,isData (rS 3 RP.int) x_5,isV (v1),isV (I i_2),isEl (rS 3 RP.int) x11 0,isData (rS 3 RP.int) x11] [] [] ([]) [([],[]),([],[]),([],[]),([],[]),([],[]),([],[]),([],[]),([],[])] (S:=[]) Tryz_mix (by kernel_rfl) rfl (by kernel_rfl) (amF_cons (mono_V _) (amF_cons (mono_V _) (amF_cons (mono_el _ _ _) (amF_cons (mono_data _ _) (amF_cons (mono_V _) (amF_cons (mono_V _) (amF_cons (mono_el _ _ _) (amF_cons (mono_data _ _) amF_nil)))))))) Z ?_ (fun f w_ H23 hS23 hE23 hT23 Z=>?_)
 refine opsS_cons (fun f w_ _ _ s _ _ Z=>mF ((s 0 rfl).trans sf0) rfl (nO rfl rfl Z)) (opsS_cons (fun f w_ _ _ s _ _ Z=>mF ((s 5 rfl).trans sf5) rfl (nO rfl rfl Z)) (opsS_cons ?_ ?_))
 intro f w_ H23 X23 hS23 hE23 hP23 Z
 refine L_ix (r:=(rS 3 RP.int)) rfl Tryz.underlying77 Tryz.sizeOf23 (hP23 0 17 rfl rfl) (RP.mono _ h0 (Le.trans l4 hE23)) (hP23 1 18 rfl rfl) hix5 (fun g32 o33 cs_g32 hrk_hat34 hat34=>?_)
 obtain ⟨u35,rfl,hu35⟩:=slice1 hrk_hat34
 exact L_nil ⟨rfl,_,_,rfl,Le.refl _,fun _ _=>⟨_,_,_,rfl,hrk_hat34,hat34⟩,Z⟩
 refine opsS_cons ?_ ?_
 intro f w_ H23 X23 hS23 hE23 hP23 Z
 obtain ⟨g36,o36,cs36,hv36,hrk_hat36,hat36⟩:=(hP23 2 19 rfl rfl)
 obtain ⟨u37,rfl,hu37⟩:=slice1 hrk_hat36
 refine L_ld rfl Tryz.isAgg23 hv36 (At.cell (AtH.at hat36 Z.sub) (j:=0) rfl) (L_nil ⟨rfl,_,_,rfl,Le.refl _,fun _ _=>hu37,Z⟩)
 refine opsS_cons (fun f w_ _ _ s _ _ Z=>mF ((s 1 rfl).trans sf1) rfl (nO rfl rfl Z)) (opsS_cons (fun f w_ _ _ s _ _ Z=>mF ((s 5 rfl).trans sf5) rfl (nO rfl rfl Z)) (opsS_cons ?_ ?_))
 intro f w_ H23 X23 hS23 hE23 hP23 Z
 refine L_ix (r:=(rS 3 RP.int)) rfl Tryz.underlying77 Tryz.sizeOf23 (hP23 4 21 rfl rfl) (RP.mono _ h1 (Le.trans l4 hE23)) (hP23 5 22 rfl rfl) hx11 (fun g38 o39 cs_g38 hrk_hat40 hat40=>?_)
 obtain ⟨u41,rfl,hu41⟩:=slice1 hrk_hat40
 exact L_nil ⟨rfl,_,_,rfl,Le.refl _,fun _ _=>⟨_,_,_,rfl,hrk_hat40,hat40⟩,Z⟩
 refine opsS_cons ?_ ?_
 intro f w_ H23 X23 hS23 hE23 hP23 Z
 obtain ⟨g42,o42,cs42,hv42,hrk_hat42,hat42⟩:=(hP23 6 23 rfl rfl)
 obtain ⟨u43,rfl,hu43⟩:=slice1 hrk_hat42
 refine L_ld rfl Tryz.isAgg23 hv42 (At.cell (AtH.at hat42 Z.sub) (j:=0) rfl) (L_nil ⟨rfl,_,_,rfl,Le.refl _,fun _ _=>hu43,Z⟩)
 exact opsS_nil
 have hd44 : (rS 3 RP.int).rel H23 [f 20] x_5:=(hT23 3 20 rfl rfl)
 have hd45 : (rS 3 RP.int).rel H23 [f 24] x11:=(hT23 7 24 rfl rfl)
 obtain ⟨H46b,l47,s48,z49,k50⟩:=Z.borrow
 refine L_call rfl Tryz.call86 (ops2 rfl rfl) (l_eqIntS_c (a:=x_5) (b:=x11) s48 (RP.mono _ hd44 l47) (RP.mono _ hd45 l47) hx21) ?_
 rintro _ w51 ⟨rfl,Z⟩
 have Z:=k50 Z c0
 refine L_not_ rfl rfl (nn (W_cond (b:=(!x21)) rfl (fun hc52=>?_) (fun hc52=>?_)))
 have hB5:=(ite_t hc52).symm.trans hB5
 refine sq (aB rfl (nn (W_ret (retG1 (v1:=Bo false) Tryz.results168 rfl ?_))))
 obtain rfl:=so hB5
 obtain rfl:=so hL5
 obtain rfl:=so hF
 exact ⟨rfl,(Star.down Z (Le.trans l4 hE23) c0)⟩
 have hB5:=(ite_f hc52).symm.trans hB5
 refine W_skip (W_region (mF ((hS23 5 rfl).trans sf5) rfl (L_add rfl rfl rfl (aI rfl (nn ?_)))))
 obtain rfl:=so hB5
 show ∃ m,m < _∧I5 m _ _
 refine ⟨rest5.length,by simp,?_⟩
 exact ij hI5 ⟨i_2 + 1,rest5,H23,rfl,drop_next hd5,by simp at hl5; omega,hL5,(Le.trans l4 hE23),((hS23 0 rfl).trans sf0),((hS23 1 rfl).trans sf1),(Eq.trans rfl (congrArg (Value.int .i64) (i64_succ (n:=a.length) (by simp at hl5; omega) hlen5))),Z⟩
 rcases suf5 with _ | ⟨_,_⟩
 obtain rfl:=range_nil hL5
 refine W_exit (rj hR5 ⟨H3,rfl,l4,Z⟩)
 exact absurd (of_decide_eq_false hc6) (by simp at hl5; omega)
 intro f w_ hR
 obtain ⟨H3,rfl,l4,Z⟩:=rk hR5 hR
 refine sq (aB rfl (nn (W_ret (retG1 (v1:=Bo true) Tryz.results168 rfl ?_))))
 obtain rfl:=so hF
 exact ⟨rfl,(Star.down Z l4 c0)⟩
theorem l_eqRule_c {a : Rule} {b : Rule} {v0_1 : Value} {v0_2 : Value} {v0_4 : Value} {v1_1 : Value} {v1_2 : Value} {v1_4 : Value} {H : FH} {w : World} (Z : Star H w []) (h0_1 : (rS 3 RP.int).rel H [v0_1] a.vars) (h0_2 : (rS 3 RP.int).rel H [v0_2] a.coefs) (h0_4 : (rS 23 (rS 3 RP.int)).rel H [v0_4] a.rows) (h1_1 : (rS 3 RP.int).rel H [v1_1] b.vars) (h1_2 : (rS 3 RP.int).rel H [v1_2] b.coefs) (h1_4 : (rS 23 (rS 3 RP.int)).rel H [v1_4] b.rows) {r : Bool} (hF : l_eqRule a b = some r) :
 C Tryz.prog 134 #[.agg #[I a.kind,v0_1,v0_2,I a.bound,v0_4],.agg #[I b.kind,v1_1,v1_2,I b.bound,v1_4]] w fun v w'=>v = Bo r∧Star H w' []:=by
 unfold l_eqRule at hF
 refine C_enter Tryz.func134 rfl Tryz.ntmps134 rfl (sq (L_box (v:=.agg #[I a.kind,v0_1,v0_2,I a.bound,v0_4]) (cs:=#[I a.kind,v0_1,v0_2,I a.bound,v0_4]) rfl rfl rfl Z (fun g5 w6 Z=>L_box (v:=.agg #[I b.kind,v1_1,v1_2,I b.bound,v1_4]) (cs:=#[I b.kind,v1_1,v1_2,I b.bound,v1_4]) rfl rfl rfl Z (fun g7 w8 Z=>aB rfl (nq (sq (fA 0 fa_79_0 rfl rfl (ldB 1 Z Tryz.isAgg3 rfl rfl rfl (fA 0 fa_79_0 rfl rfl (ldB 0 Z Tryz.isAgg3 rfl rfl rfl (L_neq rfl rfl rfl (nn (W_cond (b:=(a.kind != b.kind)) rfl (fun hc9=>?_) (fun hc9=>?_))))))))))))))
 have hF:=(ite_t hc9).symm.trans hF
 refine sq (aB rfl (nn (W_ret (retG1 (v1:=Bo false) Tryz.results134 rfl ?_))))
 obtain rfl:=so hF
 exact ⟨rfl,(Star.keepN 0 Z)⟩
 have hF:=(ite_f hc9).symm.trans hF
 refine W_skip (W_seq (W_seq ?_))
 obtain ⟨x15,hx15,hF⟩:=bind_some hF
 refine W_region (fA 1 fa_79_1 rfl rfl (ldB 1 Z Tryz.isAgg23 rfl rfl rfl (fA 1 fa_79_1 rfl rfl (ldB 0 Z Tryz.isAgg23 rfl rfl rfl ?_))))
 obtain ⟨H17b,l18,s19,z20,k21⟩:=Z.borrow
 refine L_call rfl Tryz.call86 (ops2 rfl rfl) (l_eqIntS_c (a:=a.vars) (b:=b.vars) s19 (RP.mono _ h0_1 l18) (RP.mono _ h1_1 l18) hx15) ?_
 rintro _ w22 ⟨rfl,Z⟩
 have Z:=k21 Z c0
 refine L_not_ rfl rfl (nn (W_cond (b:=(!x15)) rfl (fun hc23=>?_) (fun hc23=>?_)))
 have hF:=(ite_t hc23).symm.trans hF
 refine sq (aB rfl (nn (W_ret (retG1 (v1:=Bo false) Tryz.results134 rfl ?_))))
 obtain rfl:=so hF
 exact ⟨rfl,(Star.keepN 0 Z)⟩
 have hF:=(ite_f hc23).symm.trans hF
 refine W_skip (W_seq (W_seq ?_))
 obtain ⟨x29,hx29,hF⟩:=bind_some hF
 refine W_region (fA 2 fa_79_2 rfl rfl (ldB 1 Z Tryz.isAgg23 rfl rfl rfl (fA 2 fa_79_2 rfl rfl (ldB 0 Z Tryz.isAgg23 rfl rfl rfl ?_))))
 obtain ⟨H31b,l32,s33,z34,k35⟩:=Z.borrow
 refine L_call rfl Tryz.call86 (ops2 rfl rfl) (l_eqIntS_c (a:=a.coefs) (b:=b.coefs) s33 (RP.mono _ h0_2 l32) (RP.mono _ h1_2 l32) hx29) ?_
 rintro _ w36 ⟨rfl,Z⟩
 have Z:=k35 Z c0
 refine L_not_ rfl rfl (nn (W_cond (b:=(!x29)) rfl (fun hc37=>?_) (fun hc37=>?_)))
 have hF:=(ite_t hc37).symm.trans hF
 refine sq (aB rfl (nn (W_ret (retG1 (v1:=Bo false) Tryz.results134 rfl ?_))))
 obtain rfl:=so hF
 exact ⟨rfl,(Star.keepN 0 Z)⟩
 have hF:=(ite_f hc37).symm.trans hF
 refine W_skip (W_seq (sq (fA 3 fa_79_3 rfl rfl (ldB 1 Z Tryz.isAgg3 rfl rfl rfl (fA 3 fa_79_3 rfl rfl (ldB 0 Z Tryz.isAgg3 rfl rfl rfl (L_neq rfl rfl rfl (nn (W_cond (b:=(a.bound != b.bound)) rfl (fun hc38=>?_) (fun hc38=>?_))))))))))
 have hF:=(ite_t hc38).symm.trans hF
 refine sq (aB rfl (nn (W_ret (retG1 (v1:=Bo false) Tryz.results134 rfl ?_))))
 obtain rfl:=so hF
 exact ⟨rfl,(Star.keepN 0 Z)⟩
 have hF:=(ite_f hc38).symm.trans hF
 refine W_skip (W_seq (W_seq ?_))
 obtain ⟨x44,hx44,hF⟩:=bind_some hF
 refine W_region (fA 4 fa_79_4 rfl rfl (ldB 1 Z Tryz.isAgg77 rfl rfl rfl (fA 4 fa_79_4 rfl rfl (ldB 0 Z Tryz.isAgg77 rfl rfl rfl ?_))))
 obtain ⟨H46b,l47,s48,z49,k50⟩:=Z.borrow
 refine L_call rfl Tryz.call168 (ops2 rfl rfl) (l_eqIntSS_c (a:=a.rows) (b:=b.rows) s48 (RP.mono _ h0_4 l47) (RP.mono _ h1_4 l47) hx44) ?_
 rintro _ w51 ⟨rfl,Z⟩
 have Z:=k50 Z c0
 refine L_not_ rfl rfl (nn (W_cond (b:=(!x44)) rfl (fun hc52=>?_) (fun hc52=>?_)))
 have hF:=(ite_t hc52).symm.trans hF
 refine sq (aB rfl (nn (W_ret (retG1 (v1:=Bo false) Tryz.results134 rfl ?_))))
 obtain rfl:=so hF
 exact ⟨rfl,(Star.keepN 0 Z)⟩
 have hF:=(ite_f hc52).symm.trans hF
 refine W_skip (sq (aB rfl (nn (W_ret (retG1 (v1:=Bo true) Tryz.results134 rfl ?_)))))
 obtain rfl:=so hF
 exact ⟨rfl,(Star.keepN 0 Z)⟩
theorem l_eqRuleS_c {a : List Rule} {b : List Rule} {v0 : Value} {v1 : Value} {H : FH} {w : World} (Z : Star H w []) (h0 : (rS 79 (rRule 3 23)).rel H [v0] a) (h1 : (rS 79 (rRule 3 23)).rel H [v1] b) {r : Bool} (hF : l_eqRuleS a b = some r) :
 C Tryz.prog 87 #[v0,v1] w fun v w'=>v = Bo r∧Star H w' []:=by
 unfold l_eqRuleS at hF
 refine C_enter Tryz.func87 rfl Tryz.ntmps87 rfl (sq (aB rfl (nq (sq (mV v0 rfl (L_len rfl Tryz.underlying24 rfl (slice_len h0) (mV v1 rfl (L_len rfl Tryz.underlying24 rfl (slice_len h1) (L_neq rfl rfl rfl (nn (W_cond (b:=((a.length : Int) != (b.length : Int))) rfl (fun hc1=>?_) (fun hc1=>?_))))))))))))
 have hF:=(ite_t hc1).symm.trans hF
 refine sq (aB rfl (nn (W_ret (retG1 (v1:=Bo false) Tryz.results87 rfl ?_))))
 obtain rfl:=so hF
 exact ⟨rfl,Z⟩
 have hF:=(ite_f hc1).symm.trans hF
 refine W_skip (W_seq (sq (aI rfl (nn ?_))))
 have hlen5 : List.length a≤9223372036854775807:=len_le (slice_len h0)
 obtain ⟨j5,hL5,hF⟩:=bind_some hF
 obtain ⟨R5,hR5⟩:=exR fun f w_=>∃ H3 : FH,j5 = .nx ()∧Le H H3∧Star H3 w_ ([])
 refine W_join R5 ?_ ?_
 refine W_block ?_
 obtain ⟨I5,hI5⟩:=exI fun n f w_=>∃ i_2 : Nat,∃ suf5 : List Rule,∃ H3 : FH,n = suf5.length∧List.drop i_2 a = suf5∧i_2 + suf5.length = a.length∧rangeL (l_eqRuleS_b1 b) suf5 i_2 () = some j5∧Le H H3∧f 0 = v0∧f 1 = v1∧f 5 = I i_2∧Star H3 w_ ([])
 refine W_loop I5 (n:=a.length) ?_ ?_
 exact ij hI5 ⟨0,a,H,rfl,rfl,Nat.zero_add _,hL5,(Le.refl _),rfl,rfl,rfl,Z⟩
 intro n5 f w_ hI
 obtain ⟨i_2,suf5,H3,rfl,hd5,hl5,hL5,l4,sf0,sf1,sf5,Z⟩:=ik hI5 hI
 refine W_seq (sq (mF sf5 rfl (mF sf0 rfl (L_len rfl Tryz.underlying24 rfl (slice_len (RP.mono _ h0 l4)) (L_lss rfl rfl rfl (nn (W_cond (b:=decide ((i_2 : Int) < (a.length : Int))) rfl (fun hc6=>?_) (fun hc6=>?_))))))))
 have hlt5:=of_decide_eq_true hc6
 rcases suf5 with _ | ⟨x_5,rest5⟩
 exact absurd hlt5 (by simp at hl5; omega)
 obtain ⟨o5,hB5,hL5⟩:=range_cons hL5
 rw [l_eqRuleS_b1] at hB5
 have hix5:=drop_idx hd5
 refine W_skip (W_seq (W_block (W_seq ?_)))
 obtain ⟨x11,hx11,hB5⟩:=bind_some hB5
 obtain ⟨x21,hx21,hB5⟩:=bind_some hB5
 refine W_drawS 8 [isV (v0),isV (I i_2),isEl (rRule 3 23) x_5 0,exD (isData (rS 3 RP.int) x_5.vars) fun u_1=>exD (isData (rS 3 RP.int) x_5.coefs) fun u_2=>exD (isData (rS 23 (rS 3 RP.int)) x_5.rows) fun u_4=>isV (.agg #[I x_5.kind,u_1,u_2,I x_5.bound,u_4]),isV (v1),isV (I i_2),isEl (rRule 3 23) x11 0,exD (isData (rS 3 RP.int) x11.vars) fun u_1=>exD (isData (rS 3 RP.int) x11.coefs) fun u_2=>exD (isData (rS 23 (rS 3 RP.int)) x11.rows) fun u_4=>isV (.agg #[I x11.kind,u_1,u_2,I x11.bound,u_4])] [] [] ([]) [([],[]),([],[]),([],[]),([],[]),([],[]),([],[]),([],[]),([],[])] (S:=[]) Tryz_mix (by kernel_rfl) rfl (by kernel_rfl) (amF_cons (mono_V _) (amF_cons (mono_V _) (amF_cons (mono_el _ _ _) (amF_cons (mono_exD (mono_data _ _) fun _=>mono_exD (mono_data _ _) fun _=>mono_exD (mono_data _ _) fun _=>mono_V _) (amF_cons (mono_V _) (amF_cons (mono_V _) (amF_cons (mono_el _ _ _) (amF_cons (mono_exD (mono_data _ _) fun _=>mono_exD (mono_data _ _) fun _=>mono_exD (mono_data _ _) fun _=>mono_V _) amF_nil)))))))) Z ?_ (fun f w_ H23 hS23 hE23 hT23 Z=>?_)
 refine opsS_cons (fun f w_ _ _ s _ _ Z=>mF ((s 0 rfl).trans sf0) rfl (nO rfl rfl Z)) (opsS_cons (fun f w_ _ _ s _ _ Z=>mF ((s 5 rfl).trans sf5) rfl (nO rfl rfl Z)) (opsS_cons ?_ ?_))
 intro f w_ H23 X23 hS23 hE23 hP23 Z
 refine L_ix (r:=(rRule 3 23)) rfl Tryz.underlying24 Tryz.sizeOf79 (hP23 0 17 rfl rfl) (RP.mono _ h0 (Le.trans l4 hE23)) (hP23 1 18 rfl rfl) hix5 (fun g32 o33 cs_g32 hrk_hat34 hat34=>?_)
 obtain ⟨u35_0,u35_1,u35_2,rfl,hu35_0,hu35_1,hu35_2⟩:=rRule_iff.1 hrk_hat34
 exact L_nil ⟨rfl,_,_,rfl,Le.refl _,fun _ _=>⟨_,_,_,rfl,hrk_hat34,hat34⟩,Z⟩
 refine opsS_cons ?_ ?_
 intro f w_ H23 X23 hS23 hE23 hP23 Z
 obtain ⟨g36,o36,cs36,hv36,hrk_hat36,hat36⟩:=(hP23 2 19 rfl rfl)
 obtain ⟨u37_0,u37_1,u37_2,rfl,hu37_0,hu37_1,hu37_2⟩:=rRule_iff.1 hrk_hat36
 refine L_lda (cs:=[I x_5.kind,u37_0,u37_1,I x_5.bound,u37_2]) rfl Tryz.isAgg79 Tryz.sizeOf79 hv36 (At.sub (AtH.at hat36 Z.sub) 0 5) rfl (L_nil ⟨rfl,_,_,rfl,Le.refl _,fun _ _=>⟨_,hu37_0,_,hu37_1,_,hu37_2,rfl⟩,Z⟩)
 refine opsS_cons (fun f w_ _ _ s _ _ Z=>mF ((s 1 rfl).trans sf1) rfl (nO rfl rfl Z)) (opsS_cons (fun f w_ _ _ s _ _ Z=>mF ((s 5 rfl).trans sf5) rfl (nO rfl rfl Z)) (opsS_cons ?_ ?_))
 intro f w_ H23 X23 hS23 hE23 hP23 Z
 refine L_ix (r:=(rRule 3 23)) rfl Tryz.underlying24 Tryz.sizeOf79 (hP23 4 21 rfl rfl) (RP.mono _ h1 (Le.trans l4 hE23)) (hP23 5 22 rfl rfl) hx11 (fun g38 o39 cs_g38 hrk_hat40 hat40=>?_)
 obtain ⟨u41_0,u41_1,u41_2,rfl,hu41_0,hu41_1,hu41_2⟩:=rRule_iff.1 hrk_hat40
 exact L_nil ⟨rfl,_,_,rfl,Le.refl _,fun _ _=>⟨_,_,_,rfl,hrk_hat40,hat40⟩,Z⟩
 refine opsS_cons ?_ ?_
 intro f w_ H23 X23 hS23 hE23 hP23 Z
 obtain ⟨g42,o42,cs42,hv42,hrk_hat42,hat42⟩:=(hP23 6 23 rfl rfl)
 obtain ⟨u43_0,u43_1,u43_2,rfl,hu43_0,hu43_1,hu43_2⟩:=rRule_iff.1 hrk_hat42
 refine L_lda (cs:=[I x11.kind,u43_0,u43_1,I x11.bound,u43_2]) rfl Tryz.isAgg79 Tryz.sizeOf79 hv42 (At.sub (AtH.at hat42 Z.sub) 0 5) rfl (L_nil ⟨rfl,_,_,rfl,Le.refl _,fun _ _=>⟨_,hu43_0,_,hu43_1,_,hu43_2,rfl⟩,Z⟩)
 exact opsS_nil
 obtain ⟨u44_1,hu44_1,u44_2,hu44_2,u44_4,hu44_4,hv44⟩:=(hT23 3 20 rfl rfl)
 obtain ⟨u45_1,hu45_1,u45_2,hu45_2,u45_4,hu45_4,hv45⟩:=(hT23 7 24 rfl rfl)
 obtain ⟨H46b,l47,s48,z49,k50⟩:=Z.borrow
 refine L_call rfl Tryz.call134 (ops2 hv44 hv45) (l_eqRule_c (a:=x_5) (b:=x11) s48 (RP.mono _ hu44_1 l47) (RP.mono _ hu44_2 l47) (RP.mono _ hu44_4 l47) (RP.mono _ hu45_1 l47) (RP.mono _ hu45_2 l47) (RP.mono _ hu45_4 l47) hx21) ?_
 rintro _ w51 ⟨rfl,Z⟩
 have Z:=k50 Z c0
 refine L_not_ rfl rfl (nn (W_cond (b:=(!x21)) rfl (fun hc52=>?_) (fun hc52=>?_)))
 have hB5:=(ite_t hc52).symm.trans hB5
 refine sq (aB rfl (nn (W_ret (retG1 (v1:=Bo false) Tryz.results87 rfl ?_))))
 obtain rfl:=so hB5
 obtain rfl:=so hL5
 obtain rfl:=so hF
 exact ⟨rfl,(Star.down Z (Le.trans l4 hE23) c0)⟩
 have hB5:=(ite_f hc52).symm.trans hB5
 refine W_skip (W_region (mF ((hS23 5 rfl).trans sf5) rfl (L_add rfl rfl rfl (aI rfl (nn ?_)))))
 obtain rfl:=so hB5
 show ∃ m,m < _∧I5 m _ _
 refine ⟨rest5.length,by simp,?_⟩
 exact ij hI5 ⟨i_2 + 1,rest5,H23,rfl,drop_next hd5,by simp at hl5; omega,hL5,(Le.trans l4 hE23),((hS23 0 rfl).trans sf0),((hS23 1 rfl).trans sf1),(Eq.trans rfl (congrArg (Value.int .i64) (i64_succ (n:=a.length) (by simp at hl5; omega) hlen5))),Z⟩
 rcases suf5 with _ | ⟨_,_⟩
 obtain rfl:=range_nil hL5
 refine W_exit (rj hR5 ⟨H3,rfl,l4,Z⟩)
 exact absurd (of_decide_eq_false hc6) (by simp at hl5; omega)
 intro f w_ hR
 obtain ⟨H3,rfl,l4,Z⟩:=rk hR5 hR
 refine sq (aB rfl (nn (W_ret (retG1 (v1:=Bo true) Tryz.results87 rfl ?_))))
 obtain rfl:=so hF
 exact ⟨rfl,(Star.down Z l4 c0)⟩
theorem l_eqModel_c {a : Model} {b : Model} {v0_0 : Value} {v0_1 : Value} {v1_0 : Value} {v1_1 : Value} {H : FH} {w : World} (Z : Star H w []) (h0_0 : (rS 3 RP.int).rel H [v0_0] a.sizes) (h0_1 : (rS 79 (rRule 3 23)).rel H [v0_1] a.rules) (h1_0 : (rS 3 RP.int).rel H [v1_0] b.sizes) (h1_1 : (rS 79 (rRule 3 23)).rel H [v1_1] b.rules) {r : Bool} (hF : l_eqModel a b = some r) :
 C Tryz.prog 41 #[.agg #[v0_0,v0_1],.agg #[v1_0,v1_1]] w fun v w'=>v = Bo r∧Star H w' []:=by
 unfold l_eqModel at hF
 refine C_enter Tryz.func41 rfl Tryz.ntmps41 rfl (sq (L_box (v:=.agg #[v0_0,v0_1]) (cs:=#[v0_0,v0_1]) rfl rfl rfl Z (fun g5 w6 Z=>L_box (v:=.agg #[v1_0,v1_1]) (cs:=#[v1_0,v1_1]) rfl rfl rfl Z (fun g7 w8 Z=>aB rfl (nq (W_seq ?_))))))
 obtain ⟨x14,hx14,hF⟩:=bind_some hF
 refine W_region (fA 0 fa_26_0 rfl rfl (ldB 1 Z Tryz.isAgg23 rfl rfl rfl (fA 0 fa_26_0 rfl rfl (ldB 0 Z Tryz.isAgg23 rfl rfl rfl ?_))))
 obtain ⟨H16b,l17,s18,z19,k20⟩:=Z.borrow
 refine L_call rfl Tryz.call86 (ops2 rfl rfl) (l_eqIntS_c (a:=a.sizes) (b:=b.sizes) s18 (RP.mono _ h0_0 l17) (RP.mono _ h1_0 l17) hx14) ?_
 rintro _ w21 ⟨rfl,Z⟩
 have Z:=k20 Z c0
 refine L_not_ rfl rfl (nn (W_cond (b:=(!x14)) rfl (fun hc22=>?_) (fun hc22=>?_)))
 have hF:=(ite_t hc22).symm.trans hF
 refine sq (aB rfl (nn (W_ret (retG1 (v1:=Bo false) Tryz.results41 rfl ?_))))
 obtain rfl:=so hF
 exact ⟨rfl,(Star.keepN 0 Z)⟩
 have hF:=(ite_f hc22).symm.trans hF
 refine W_skip (W_seq (W_seq ?_))
 obtain ⟨x28,hx28,hF⟩:=bind_some hF
 refine W_region (fA 1 fa_26_1 rfl rfl (ldB 1 Z Tryz.isAgg24 rfl rfl rfl (fA 1 fa_26_1 rfl rfl (ldB 0 Z Tryz.isAgg24 rfl rfl rfl ?_))))
 obtain ⟨H30b,l31,s32,z33,k34⟩:=Z.borrow
 refine L_call rfl Tryz.call87 (ops2 rfl rfl) (l_eqRuleS_c (a:=a.rules) (b:=b.rules) s32 (RP.mono _ h0_1 l31) (RP.mono _ h1_1 l31) hx28) ?_
 rintro _ w35 ⟨rfl,Z⟩
 have Z:=k34 Z c0
 refine L_not_ rfl rfl (nn (W_cond (b:=(!x28)) rfl (fun hc36=>?_) (fun hc36=>?_)))
 have hF:=(ite_t hc36).symm.trans hF
 refine sq (aB rfl (nn (W_ret (retG1 (v1:=Bo false) Tryz.results41 rfl ?_))))
 obtain rfl:=so hF
 exact ⟨rfl,(Star.keepN 0 Z)⟩
 have hF:=(ite_f hc36).symm.trans hF
 refine W_skip (sq (aB rfl (nn (W_ret (retG1 (v1:=Bo true) Tryz.results41 rfl ?_)))))
 obtain rfl:=so hF
 exact ⟨rfl,(Star.keepN 0 Z)⟩
theorem l_markIntS_c {fu : Nat} {a : List Int} {k : Int} {v0 : Value} {H : FH} {w : World} (Z : Star H w [oF 3 RP.int v0 a]) {r : Int × (List Int)} (hF : l_markIntS fu a k = some r) :
 C Tryz.prog 88 #[v0,I k] w fun v w'=>v = I r.1∧Star H w' [oF 3 RP.int v0 r.2]:=by
 unfold l_markIntS at hF
 refine C_enter Tryz.func88 rfl Tryz.ntmps88 rfl (sq (aI rfl (nq (sq (aI rfl (nn ?_))))))
 obtain ⟨j8,hL8,hF⟩:=bind_some hF
 obtain ⟨R8,hR8⟩:=exR fun f w_=>∃ a_5 : List Int,∃ k_6 : Int,∃ i_7 : Int,j8 = .nx (a_5,k_6,i_7)∧f 1 = I k_6∧Star H w_ ([oF 3 RP.int v0 a_5])
 refine W_join R8 ?_ ?_
 refine W_block ?_
 obtain ⟨I8,hI8⟩:=exI fun n f w_=>∃ a_5 : List Int,∃ k_6 : Int,∃ i_7 : Int,whileL l_markIntS_b1 n (a_5,k_6,i_7) = some j8∧f 0 = v0∧f 1 = I k_6∧f 5 = I i_7∧Star H w_ ([oF 3 RP.int v0 a_5])
 refine W_loop I8 (n:=fu) ?_ ?_
 exact ij hI8 ⟨a,k,0,hL8,rfl,rfl,rfl,Z⟩
 intro n8 f w_ hI
 obtain ⟨a_5,k_6,i_7,hL8,sf0,sf1,sf5,Z⟩:=ik hI8 hI
 rcases n8 with _ | n8
 exact (while_zero hL8).elim
 obtain ⟨o8,hB8,hL8⟩:=while_succ hL8
 rw [l_markIntS_b1] at hB8
 refine W_seq (sq (mF sf5 rfl (mF sf0 rfl (L_len rfl Tryz.underlying23 rfl (Star.len 0 Z rfl) (L_lss rfl rfl rfl (nn (W_cond (b:=decide (i_7 < (a_5.length : Int))) rfl (fun hc9=>?_) (fun hc9=>?_))))))))
 have hB8:=(ite_t hc9).symm.trans hB8
 refine W_skip (W_seq (W_block (W_seq ?_)))
 obtain ⟨x10,hx10,hB8⟩:=bind_some hB8
 refine W_region (mF sf0 rfl (mF sf5 rfl (mF sf1 rfl ?_)))
 obtain ⟨g14,cap_g14,hv15,_,_⟩:=Star.row 0 Z rfl hx10
 refine L_ixO (R:=(OR.frz RP.int)) (tb:=0) 0 rfl Tryz.underlying23 Tryz.sizeOf3 rfl hv15 (by first | rfl | simp) rfl hx10 ?_
 have Z:=Star.addF (r:=RP.int) (cs:=[I k_6]) (x:=k_6) Z rfl
 refine L_stE1 (u:=I k_6) rfl Tryz.sizeOf3 rfl rfl rfl hv15 Z hx10 (fun w16 Z=>?_)
 refine nn (W_region (mF sf1 rfl (L_add rfl rfl rfl (aI rfl (nn (W_region (mF sf5 rfl (L_add rfl rfl rfl (aI rfl (nn ?_))))))))))
 obtain rfl:=so hB8
 show ∃ m,m < _∧I8 m _ _
 refine ⟨n8,Nat.lt_succ_self _,?_⟩
 exact ij hI8 ⟨(a_5.set (Int.toNat i_7) k_6),i64 (k_6 + 1),i64 (i_7 + 1),hL8,sf0,rfl,rfl,Z⟩
 have hB8:=(ite_f hc9).symm.trans hB8
 refine W_exit ?_
 obtain rfl:=so hB8
 obtain rfl:=so hL8
 exact rj hR8 ⟨a_5,k_6,i_7,rfl,sf1,Z⟩
 intro f w_ hR
 obtain ⟨a_5,k_6,i_7,rfl,sf1,Z⟩:=rk hR8 hR
 refine sq (mF sf1 rfl (aI rfl (nn (W_ret (retG1 (v1:=I k_6) Tryz.results88 rfl ?_)))))
 obtain rfl:=so hF
 exact ⟨rfl,Z⟩
theorem l_markIntSS_c {fu : Nat} {a : List (List Int)} {k : Int} {v0 : Value} {H : FH} {w : World} (Z : Star H w [own (OR.ownS 23 (OR.ownS 3 (OR.frz RP.int))) [v0] a]) {r : Int × (List (List Int))} (hF : l_markIntSS fu a k = some r) :
 C Tryz.prog 135 #[v0,I k] w fun v w'=>v = I r.1∧Star H w' [own (OR.ownS 23 (OR.ownS 3 (OR.frz RP.int))) [v0] r.2]:=by
 unfold l_markIntSS at hF
 refine C_enter Tryz.func135 rfl Tryz.ntmps135 rfl (sq (aI rfl (nq (sq (aI rfl (nn ?_))))))
 obtain ⟨j8,hL8,hF⟩:=bind_some hF
 obtain ⟨R8,hR8⟩:=exR fun f w_=>∃ a_5 : List (List Int),∃ k_6 : Int,∃ i_7 : Int,j8 = .nx (a_5,k_6,i_7)∧f 1 = I k_6∧Star H w_ ([own (OR.ownS 23 (OR.ownS 3 (OR.frz RP.int))) [v0] a_5])
 refine W_join R8 ?_ ?_
 refine W_block ?_
 obtain ⟨I8,hI8⟩:=exI fun n f w_=>∃ a_5 : List (List Int),∃ k_6 : Int,∃ i_7 : Int,whileL (l_markIntSS_b1 fu) n (a_5,k_6,i_7) = some j8∧f 0 = v0∧f 1 = I k_6∧f 5 = I i_7∧Star H w_ ([own (OR.ownS 23 (OR.ownS 3 (OR.frz RP.int))) [v0] a_5])
 refine W_loop I8 (n:=fu) ?_ ?_
 exact ij hI8 ⟨a,k,0,hL8,rfl,rfl,rfl,Z⟩
 intro n8 f w_ hI
 obtain ⟨a_5,k_6,i_7,hL8,sf0,sf1,sf5,Z⟩:=ik hI8 hI
 rcases n8 with _ | n8
 exact (while_zero hL8).elim
 obtain ⟨o8,hB8,hL8⟩:=while_succ hL8
 rw [l_markIntSS_b1] at hB8
 refine W_seq (sq (mF sf5 rfl (mF sf0 rfl (L_len rfl Tryz.underlying77 rfl (Star.len 0 Z rfl) (L_lss rfl rfl rfl (nn (W_cond (b:=decide (i_7 < (a_5.length : Int))) rfl (fun hc9=>?_) (fun hc9=>?_))))))))
 have hB8:=(ite_t hc9).symm.trans hB8
 refine W_skip (W_seq (W_block ?_))
 obtain ⟨x10,hx10,hB8⟩:=bind_some hB8
 obtain ⟨x20,hx20,hB8⟩:=bind_some hB8
 refine W_region (mF sf0 rfl (mF sf5 rfl ?_))
 obtain ⟨g22,cap_g22,hv23,_,_⟩:=Star.row 0 Z rfl hx10
 refine L_ixO (R:=(OR.ownS 3 (OR.frz RP.int))) (tb:=0) 0 rfl Tryz.underlying77 Tryz.sizeOf23 rfl hv23 (by first | rfl | simp) rfl hx10 ?_
 obtain ⟨cs24,Z,hat24⟩:=Star.focus Z hx10
 have hat24:=hat24 _ _ _ hv23
 obtain ⟨u24_0,rfl⟩:=own1 rfl Z
 refine L_ld rfl Tryz.isAgg23 rfl (At.cell hat24 (j:=0) rfl) (mF sf1 rfl ?_)
 obtain ⟨H26b,l27,s28,z29,k30⟩:=Z.lend [_]
 refine L_call rfl Tryz.call88 (ops2 rfl rfl) (l_markIntS_c (a:=x10) (k:=k_6) s28 hx20) ?_
 rintro _ w31 ⟨rfl,Z⟩
 have Z:=k30 Z (co closed_int c0)
 refine aI rfl (nn ?_)
 have Z:=Star.unfocus (x':=x20.2) (idx_some hx10).2.2 Z
 refine W_region (mF sf5 rfl (L_add rfl rfl rfl (aI rfl (nn ?_))))
 obtain rfl:=so hB8
 show ∃ m,m < _∧I8 m _ _
 refine ⟨n8,Nat.lt_succ_self _,?_⟩
 exact ij hI8 ⟨(a_5.set (Int.toNat i_7) x20.2),x20.1,i64 (i_7 + 1),hL8,sf0,rfl,rfl,Z⟩
 have hB8:=(ite_f hc9).symm.trans hB8
 refine W_exit ?_
 obtain rfl:=so hB8
 obtain rfl:=so hL8
 exact rj hR8 ⟨a_5,k_6,i_7,rfl,sf1,Z⟩
 intro f w_ hR
 obtain ⟨a_5,k_6,i_7,rfl,sf1,Z⟩:=rk hR8 hR
 refine sq (mF sf1 rfl (aI rfl (nn (W_ret (retG1 (v1:=I k_6) Tryz.results135 rfl ?_)))))
 obtain rfl:=so hF
 exact ⟨rfl,Z⟩
theorem l_markRuleS_c {fu : Nat} {a : List Rule} {k : Int} {v0 : Value} {H : FH} {w : World} (Z : Star H w [oS 79 (oRule 3 23) v0 a]) {r : Int × (List Rule)} (hF : l_markRuleS fu a k = some r) :
 C Tryz.prog 89 #[v0,I k] w fun v w'=>v = I r.1∧Star H w' [oS 79 (oRule 3 23) v0 r.2]:=by
 unfold l_markRuleS at hF
 refine C_enter Tryz.func89 rfl Tryz.ntmps89 rfl (sq (aI rfl (nq (sq (aI rfl (nn ?_))))))
 obtain ⟨j8,hL8,hF⟩:=bind_some hF
 obtain ⟨R8,hR8⟩:=exR fun f w_=>∃ a_5 : List Rule,∃ k_6 : Int,∃ i_7 : Int,j8 = .nx (a_5,k_6,i_7)∧f 1 = I k_6∧Star H w_ ([oS 79 (oRule 3 23) v0 a_5])
 refine W_join R8 ?_ ?_
 refine W_block ?_
 obtain ⟨I8,hI8⟩:=exI fun n f w_=>∃ a_5 : List Rule,∃ k_6 : Int,∃ i_7 : Int,whileL (l_markRuleS_b1 fu) n (a_5,k_6,i_7) = some j8∧f 0 = v0∧f 1 = I k_6∧f 5 = I i_7∧Star H w_ ([oS 79 (oRule 3 23) v0 a_5])
 refine W_loop I8 (n:=fu) ?_ ?_
 exact ij hI8 ⟨a,k,0,hL8,rfl,rfl,rfl,Z⟩
 intro n8 f w_ hI
 obtain ⟨a_5,k_6,i_7,hL8,sf0,sf1,sf5,Z⟩:=ik hI8 hI
 rcases n8 with _ | n8
 exact (while_zero hL8).elim
 obtain ⟨o8,hB8,hL8⟩:=while_succ hL8
 rw [l_markRuleS_b1] at hB8
 refine W_seq (sq (mF sf5 rfl (mF sf0 rfl (L_len rfl Tryz.underlying24 rfl (Star.len 0 Z rfl) (L_lss rfl rfl rfl (nn (W_cond (b:=decide (i_7 < (a_5.length : Int))) rfl (fun hc9=>?_) (fun hc9=>?_))))))))
 have hB8:=(ite_t hc9).symm.trans hB8
 refine W_skip (W_seq (W_block (W_seq ?_)))
 obtain ⟨x10,hx10,hB8⟩:=bind_some hB8
 refine W_region (mF sf0 rfl (mF sf5 rfl (mF sf1 rfl ?_)))
 obtain ⟨g14,cap_g14,hv15,_,_⟩:=Star.row 0 Z rfl hx10
 refine L_ixO (R:=(oRule 3 23)) (tb:=0) 0 rfl Tryz.underlying24 Tryz.sizeOf79 rfl hv15 (by first | rfl | simp) rfl hx10 (fA (Int.toNat i_7 * 5 + 0) fa_79_0 rfl rfl (L_stF (j:=0) (u:=I k_6) (z:={ x10 with kind:=k_6 }) rfl Tryz.sizeOf3 rfl rfl rfl rfl hv15 Z hx10 fld_oRule_0 (fun w16 Z=>ns (mF sf1 rfl (L_add rfl rfl rfl (aI rfl (nq ?_)))))))
 obtain ⟨x17,hx17,hB8⟩:=bind_some hB8
 obtain ⟨x27,hx27,hB8⟩:=bind_some hB8
 refine W_region (mF sf0 rfl (mF sf5 rfl (L_ixO (R:=(oRule 3 23)) (tb:=0) 0 rfl Tryz.underlying24 Tryz.sizeOf79 rfl hv15 (by first | rfl | simp) rfl hx17 (fA (Int.toNat i_7 * 5 + 1) fa_79_1 rfl rfl ?_))))
 obtain ⟨cs29,Z,hat29⟩:=Star.focus Z hx17
 have hat29:=hat29 _ _ _ hv15
 obtain ⟨u29_0,u29_1,u29_2,rfl,Z⟩:=oRule_open Z
 refine L_ld rfl Tryz.isAgg23 rfl (At.cell hat29 (j:=1) rfl) (mI rfl ?_)
 obtain ⟨H33b,l34,s35,z36,k37⟩:=Z.lend [_]
 refine L_call rfl Tryz.call88 (ops2 rfl rfl) (l_markIntS_c (a:=x17.vars) (k:=i64 (k_6 + 1)) s35 hx27) ?_
 rintro _ w38 ⟨rfl,Z⟩
 have Z:=k37 Z (co closed_int c0)
 refine aI rfl (nq ?_)
 have Z:=oRule_close (r:=({ kind:=x17.kind,vars:=x27.2,coefs:=x17.coefs,bound:=x17.bound,rows:=x17.rows } : Rule)) Z
 have Z:=Star.unfocus (x':=({ kind:=x17.kind,vars:=x27.2,coefs:=x17.coefs,bound:=x17.bound,rows:=x17.rows } : Rule)) (idx_some hx17).2.2 Z
 obtain ⟨x39,hx39,hB8⟩:=bind_some hB8
 obtain ⟨x49,hx49,hB8⟩:=bind_some hB8
 refine W_region (mF sf0 rfl (mF sf5 rfl (L_ixO (R:=(oRule 3 23)) (tb:=0) 0 rfl Tryz.underlying24 Tryz.sizeOf79 rfl hv15 (by first | rfl | simp) rfl hx39 (fA (Int.toNat i_7 * 5 + 2) fa_79_2 rfl rfl ?_))))
 obtain ⟨cs51,Z,hat51⟩:=Star.focus Z hx39
 have hat51:=hat51 _ _ _ hv15
 obtain ⟨u51_0,u51_1,u51_2,rfl,Z⟩:=oRule_open Z
 refine L_ld rfl Tryz.isAgg23 rfl (At.cell hat51 (j:=2) rfl) (mI rfl ?_)
 have Z:=Z.get 1 rfl
 obtain ⟨H55b,l56,s57,z58,k59⟩:=Z.lend [_]
 refine L_call rfl Tryz.call88 (ops2 rfl rfl) (l_markIntS_c (a:=x39.coefs) (k:=x27.1) s57 hx49) ?_
 rintro _ w60 ⟨rfl,Z⟩
 have Z:=k59 Z (co closed_int c0)
 refine aI rfl (nq ?_)
 have Z:=Z.gets [3,3,2,3] rfl
 have Z:=oRule_close (r:=({ kind:=x39.kind,vars:=x39.vars,coefs:=x49.2,bound:=x39.bound,rows:=x39.rows } : Rule)) Z
 have Z:=Star.unfocus (x':=({ kind:=x39.kind,vars:=x39.vars,coefs:=x49.2,bound:=x39.bound,rows:=x39.rows } : Rule)) (idx_some hx39).2.2 Z
 obtain ⟨x61,hx61,hB8⟩:=bind_some hB8
 refine W_region (mF sf0 rfl (mF sf5 rfl (mI rfl (L_ixO (R:=(oRule 3 23)) (tb:=0) 0 rfl Tryz.underlying24 Tryz.sizeOf79 rfl hv15 (by first | rfl | simp) rfl hx61 (fA (Int.toNat i_7 * 5 + 3) fa_79_3 rfl rfl (L_stF (j:=3) (u:=I x49.1) (z:={ x61 with bound:=x49.1 }) rfl Tryz.sizeOf3 rfl rfl rfl rfl hv15 Z hx61 fld_oRule_3 (fun w63 Z=>ns (mI rfl (L_add rfl rfl rfl (aI rfl (nn ?_)))))))))))
 obtain ⟨x64,hx64,hB8⟩:=bind_some hB8
 obtain ⟨x74,hx74,hB8⟩:=bind_some hB8
 refine W_region (mF sf0 rfl (mF sf5 rfl (L_ixO (R:=(oRule 3 23)) (tb:=0) 0 rfl Tryz.underlying24 Tryz.sizeOf79 rfl hv15 (by first | rfl | simp) rfl hx64 (fA (Int.toNat i_7 * 5 + 4) fa_79_4 rfl rfl ?_))))
 obtain ⟨cs76,Z,hat76⟩:=Star.focus Z hx64
 have hat76:=hat76 _ _ _ hv15
 obtain ⟨u76_0,u76_1,u76_2,rfl,Z⟩:=oRule_open Z
 refine L_ld rfl Tryz.isAgg77 rfl (At.cell hat76 (j:=4) rfl) (mI rfl ?_)
 have Z:=Z.get 2 rfl
 obtain ⟨H80b,l81,s82,z83,k84⟩:=Z.lend [_]
 refine L_call rfl Tryz.call135 (ops2 rfl rfl) (l_markIntSS_c (a:=x64.rows) (k:=i64 (x49.1 + 1)) s82 hx74) ?_
 rintro _ w85 ⟨rfl,Z⟩
 have Z:=k84 Z (cc (closed_own (OR.closed_ownS (OR.closed_ownS closed_int)) _ _) c0)
 refine aI rfl (nn ?_)
 have Z:=Z.gets [3,1,3,3] rfl
 have Z:=oRule_close (r:=({ kind:=x64.kind,vars:=x64.vars,coefs:=x64.coefs,bound:=x64.bound,rows:=x74.2 } : Rule)) Z
 have Z:=Star.unfocus (x':=({ kind:=x64.kind,vars:=x64.vars,coefs:=x64.coefs,bound:=x64.bound,rows:=x74.2 } : Rule)) (idx_some hx64).2.2 Z
 refine W_region (mF sf5 rfl (L_add rfl rfl rfl (aI rfl (nn ?_))))
 obtain rfl:=so hB8
 show ∃ m,m < _∧I8 m _ _
 refine ⟨n8,Nat.lt_succ_self _,?_⟩
 exact ij hI8 ⟨(((((a_5.set (Int.toNat i_7) ({ x10 with kind:=k_6 })).set (Int.toNat i_7) ({ kind:=x17.kind,vars:=x27.2,coefs:=x17.coefs,bound:=x17.bound,rows:=x17.rows } : Rule)).set (Int.toNat i_7) ({ kind:=x39.kind,vars:=x39.vars,coefs:=x49.2,bound:=x39.bound,rows:=x39.rows } : Rule)).set (Int.toNat i_7) ({ x61 with bound:=x49.1 })).set (Int.toNat i_7) ({ kind:=x64.kind,vars:=x64.vars,coefs:=x64.coefs,bound:=x64.bound,rows:=x74.2 } : Rule)),x74.1,i64 (i_7 + 1),hL8,sf0,rfl,rfl,Z⟩
 have hB8:=(ite_f hc9).symm.trans hB8
 refine W_exit ?_
 obtain rfl:=so hB8
 obtain rfl:=so hL8
 exact rj hR8 ⟨a_5,k_6,i_7,rfl,sf1,Z⟩
 intro f w_ hR
 obtain ⟨a_5,k_6,i_7,rfl,sf1,Z⟩:=rk hR8 hR
 refine sq (mF sf1 rfl (aI rfl (nn (W_ret (retG1 (v1:=I k_6) Tryz.results89 rfl ?_)))))
 obtain rfl:=so hF
 exact ⟨rfl,Z⟩
theorem l_markModel_c {fu : Nat} {a : Model} {k : Int} {v0_0 : Value} {v0_1 : Value} {H : FH} {w : World} (Z : Star H w [oF 3 RP.int v0_0 a.sizes,oS 79 (oRule 3 23) v0_1 a.rules]) {r : Int × Model} (hF : l_markModel fu a k = some r) :
 C Tryz.prog 42 #[.agg #[v0_0,v0_1],I k] w fun v w'=>v = I r.1∧Star H w' [oF 3 RP.int v0_0 r.2.sizes,oS 79 (oRule 3 23) v0_1 r.2.rules]:=by
 unfold l_markModel at hF
 refine C_enter Tryz.func42 rfl Tryz.ntmps42 rfl (sq (L_box (v:=.agg #[v0_0,v0_1]) (cs:=#[v0_0,v0_1]) rfl rfl rfl Z (fun g3 w4 Z=>aI rfl (nq ?_))))
 obtain ⟨x10,hx10,hF⟩:=bind_some hF
 refine W_region (fA 0 fa_26_0 rfl rfl (ldB 0 Z Tryz.isAgg23 rfl rfl rfl (mI rfl ?_)))
 have Z:=Z.get 1 rfl
 obtain ⟨H12b,l13,s14,z15,k16⟩:=Z.lend [_]
 refine L_call rfl Tryz.call88 (ops2 rfl rfl) (l_markIntS_c (a:=a.sizes) (k:=k) s14 hx10) ?_
 rintro _ w17 ⟨rfl,Z⟩
 have Z:=k16 Z (co closed_int c0)
 refine aI rfl (nq ?_)
 obtain ⟨x23,hx23,hF⟩:=bind_some hF
 refine W_region (fA 1 fa_26_1 rfl rfl (ldB 1 Z Tryz.isAgg24 rfl rfl rfl (mI rfl ?_)))
 have Z:=Z.get 2 rfl
 obtain ⟨H25b,l26,s27,z28,k29⟩:=Z.lend [_]
 refine L_call rfl Tryz.call89 (ops2 rfl rfl) (l_markRuleS_c (a:=a.rules) (k:=x10.1) s27 hx23) ?_
 rintro _ w30 ⟨rfl,Z⟩
 have Z:=k29 Z (co closed_oRule c0)
 refine aI rfl (ns (mI rfl (aI rfl (nn (W_ret (retG1 (v1:=I x23.1) Tryz.results42 rfl ?_))))))
 obtain rfl:=so hF
 have Z:=Z.get 1 rfl
 exact ⟨rfl,(Star.keepN 2 Z)⟩
theorem l_markTermS_c {fu : Nat} {a : List Term} {k : Int} {v0 : Value} {H : FH} {w : World} (Z : Star H w [oF 122 rTerm v0 a]) {r : Int × (List Term)} (hF : l_markTermS fu a k = some r) :
 C Tryz.prog 90 #[v0,I k] w fun v w'=>v = I r.1∧Star H w' [oF 122 rTerm v0 r.2]:=by
 unfold l_markTermS at hF
 refine C_enter Tryz.func90 rfl Tryz.ntmps90 rfl (sq (aI rfl (nq (sq (aI rfl (nn ?_))))))
 obtain ⟨j8,hL8,hF⟩:=bind_some hF
 obtain ⟨R8,hR8⟩:=exR fun f w_=>∃ a_5 : List Term,∃ k_6 : Int,∃ i_7 : Int,j8 = .nx (a_5,k_6,i_7)∧f 1 = I k_6∧Star H w_ ([oF 122 rTerm v0 a_5])
 refine W_join R8 ?_ ?_
 refine W_block ?_
 obtain ⟨I8,hI8⟩:=exI fun n f w_=>∃ a_5 : List Term,∃ k_6 : Int,∃ i_7 : Int,whileL l_markTermS_b1 n (a_5,k_6,i_7) = some j8∧f 0 = v0∧f 1 = I k_6∧f 5 = I i_7∧Star H w_ ([oF 122 rTerm v0 a_5])
 refine W_loop I8 (n:=fu) ?_ ?_
 exact ij hI8 ⟨a,k,0,hL8,rfl,rfl,rfl,Z⟩
 intro n8 f w_ hI
 obtain ⟨a_5,k_6,i_7,hL8,sf0,sf1,sf5,Z⟩:=ik hI8 hI
 rcases n8 with _ | n8
 exact (while_zero hL8).elim
 obtain ⟨o8,hB8,hL8⟩:=while_succ hL8
 rw [l_markTermS_b1] at hB8
 refine W_seq (sq (mF sf5 rfl (mF sf0 rfl (L_len rfl Tryz.underlying71 rfl (Star.len 0 Z rfl) (L_lss rfl rfl rfl (nn (W_cond (b:=decide (i_7 < (a_5.length : Int))) rfl (fun hc9=>?_) (fun hc9=>?_))))))))
 have hB8:=(ite_t hc9).symm.trans hB8
 refine W_skip (W_seq (W_block (W_seq ?_)))
 obtain ⟨x10,hx10,hB8⟩:=bind_some hB8
 refine W_region (mF sf0 rfl (mF sf5 rfl (mF sf1 rfl ?_)))
 obtain ⟨g14,cap_g14,hv15,_,_⟩:=Star.row 0 Z rfl hx10
 refine L_ixO (R:=(OR.frz rTerm)) (tb:=0) 0 rfl Tryz.underlying71 Tryz.sizeOf122 rfl hv15 (by first | rfl | simp) rfl hx10 (fA (Int.toNat i_7 * 2 + 0) fa_122_0 rfl rfl (L_stF (j:=0) (u:=I k_6) (z:={ x10 with coef:=k_6 }) rfl Tryz.sizeOf3 rfl rfl rfl rfl hv15 Z hx10 fldF_rTerm_0 (fun w16 Z=>ns (mF sf1 rfl (L_add rfl rfl rfl (aI rfl (nq ?_)))))))
 obtain ⟨x17,hx17,hB8⟩:=bind_some hB8
 refine W_region (mF sf0 rfl (mF sf5 rfl (mI rfl (L_ixO (R:=(OR.frz rTerm)) (tb:=0) 0 rfl Tryz.underlying71 Tryz.sizeOf122 rfl hv15 (by first | rfl | simp) rfl hx17 (fA (Int.toNat i_7 * 2 + 1) fa_122_1 rfl rfl (L_stF (j:=1) (u:=I (i64 (k_6 + 1))) (z:={ x17 with lit:=i64 (k_6 + 1) }) rfl Tryz.sizeOf3 rfl rfl rfl rfl hv15 Z hx17 fldF_rTerm_1 (fun w19 Z=>nn (W_region (mI rfl (L_add rfl rfl rfl (aI rfl (nn (W_region (mF sf5 rfl (L_add rfl rfl rfl (aI rfl (nn ?_)))))))))))))))))
 obtain rfl:=so hB8
 show ∃ m,m < _∧I8 m _ _
 refine ⟨n8,Nat.lt_succ_self _,?_⟩
 exact ij hI8 ⟨((a_5.set (Int.toNat i_7) ({ x10 with coef:=k_6 })).set (Int.toNat i_7) ({ x17 with lit:=i64 (k_6 + 1) })),i64 ((i64 (k_6 + 1)) + 1),i64 (i_7 + 1),hL8,sf0,rfl,rfl,Z⟩
 have hB8:=(ite_f hc9).symm.trans hB8
 refine W_exit ?_
 obtain rfl:=so hB8
 obtain rfl:=so hL8
 exact rj hR8 ⟨a_5,k_6,i_7,rfl,sf1,Z⟩
 intro f w_ hR
 obtain ⟨a_5,k_6,i_7,rfl,sf1,Z⟩:=rk hR8 hR
 refine sq (mF sf1 rfl (aI rfl (nn (W_ret (retG1 (v1:=I k_6) Tryz.results90 rfl ?_)))))
 obtain rfl:=so hF
 exact ⟨rfl,Z⟩
theorem l_markConstraintS_c {fu : Nat} {a : List Con} {k : Int} {v0 : Value} {H : FH} {w : World} (Z : Star H w [oS 73 (oCon 122) v0 a]) {r : Int × (List Con)} (hF : l_markConstraintS fu a k = some r) :
 C Tryz.prog 43 #[v0,I k] w fun v w'=>v = I r.1∧Star H w' [oS 73 (oCon 122) v0 r.2]:=by
 unfold l_markConstraintS at hF
 refine C_enter Tryz.func43 rfl Tryz.ntmps43 rfl (sq (aI rfl (nq (sq (aI rfl (nn ?_))))))
 obtain ⟨j8,hL8,hF⟩:=bind_some hF
 obtain ⟨R8,hR8⟩:=exR fun f w_=>∃ a_5 : List Con,∃ k_6 : Int,∃ i_7 : Int,j8 = .nx (a_5,k_6,i_7)∧f 1 = I k_6∧Star H w_ ([oS 73 (oCon 122) v0 a_5])
 refine W_join R8 ?_ ?_
 refine W_block ?_
 obtain ⟨I8,hI8⟩:=exI fun n f w_=>∃ a_5 : List Con,∃ k_6 : Int,∃ i_7 : Int,whileL (l_markConstraintS_b1 fu) n (a_5,k_6,i_7) = some j8∧f 0 = v0∧f 1 = I k_6∧f 5 = I i_7∧Star H w_ ([oS 73 (oCon 122) v0 a_5])
 refine W_loop I8 (n:=fu) ?_ ?_
 exact ij hI8 ⟨a,k,0,hL8,rfl,rfl,rfl,Z⟩
 intro n8 f w_ hI
 obtain ⟨a_5,k_6,i_7,hL8,sf0,sf1,sf5,Z⟩:=ik hI8 hI
 rcases n8 with _ | n8
 exact (while_zero hL8).elim
 obtain ⟨o8,hB8,hL8⟩:=while_succ hL8
 rw [l_markConstraintS_b1] at hB8
 refine W_seq (sq (mF sf5 rfl (mF sf0 rfl (L_len rfl Tryz.underlying28 rfl (Star.len 0 Z rfl) (L_lss rfl rfl rfl (nn (W_cond (b:=decide (i_7 < (a_5.length : Int))) rfl (fun hc9=>?_) (fun hc9=>?_))))))))
 have hB8:=(ite_t hc9).symm.trans hB8
 refine W_skip (W_seq (W_block (W_seq ?_)))
 obtain ⟨x10,hx10,hB8⟩:=bind_some hB8
 obtain ⟨x20,hx20,hB8⟩:=bind_some hB8
 refine W_region (mF sf0 rfl (mF sf5 rfl ?_))
 obtain ⟨g22,cap_g22,hv23,_,_⟩:=Star.row 0 Z rfl hx10
 refine L_ixO (R:=(oCon 122)) (tb:=0) 0 rfl Tryz.underlying28 Tryz.sizeOf73 rfl hv23 (by first | rfl | simp) rfl hx10 (fA (Int.toNat i_7 * 2 + 0) fa_73_0 rfl rfl ?_)
 obtain ⟨cs24,Z,hat24⟩:=Star.focus Z hx10
 have hat24:=hat24 _ _ _ hv23
 obtain ⟨u24_0,rfl,Z⟩:=oCon_open Z
 refine L_ld rfl Tryz.isAgg71 rfl (At.cell hat24 (j:=0) rfl) (mF sf1 rfl ?_)
 obtain ⟨H26b,l27,s28,z29,k30⟩:=Z.lend [_]
 refine L_call rfl Tryz.call90 (ops2 rfl rfl) (l_markTermS_c (a:=x10.terms) (k:=k_6) s28 hx20) ?_
 rintro _ w31 ⟨rfl,Z⟩
 have Z:=k30 Z (co closed_term c0)
 refine aI rfl (nq ?_)
 have Z:=oCon_close (c:=({ terms:=x20.2,bound:=x10.bound } : Con)) Z
 have Z:=Star.unfocus (x':=({ terms:=x20.2,bound:=x10.bound } : Con)) (idx_some hx10).2.2 Z
 obtain ⟨x32,hx32,hB8⟩:=bind_some hB8
 refine W_region (mF sf0 rfl (mF sf5 rfl (mI rfl (L_ixO (R:=(oCon 122)) (tb:=0) 0 rfl Tryz.underlying28 Tryz.sizeOf73 rfl hv23 (by first | rfl | simp) rfl hx32 (fA (Int.toNat i_7 * 2 + 1) fa_73_1 rfl rfl (L_stF (j:=1) (u:=I x20.1) (z:={ x32 with bound:=x20.1 }) rfl Tryz.sizeOf3 rfl rfl rfl rfl hv23 Z hx32 fld_oCon_1 (fun w34 Z=>nn (W_region (mI rfl (L_add rfl rfl rfl (aI rfl (nn (W_region (mF sf5 rfl (L_add rfl rfl rfl (aI rfl (nn ?_)))))))))))))))))
 obtain rfl:=so hB8
 show ∃ m,m < _∧I8 m _ _
 refine ⟨n8,Nat.lt_succ_self _,?_⟩
 exact ij hI8 ⟨((a_5.set (Int.toNat i_7) ({ terms:=x20.2,bound:=x10.bound } : Con)).set (Int.toNat i_7) ({ x32 with bound:=x20.1 })),i64 (x20.1 + 1),i64 (i_7 + 1),hL8,sf0,rfl,rfl,Z⟩
 have hB8:=(ite_f hc9).symm.trans hB8
 refine W_exit ?_
 obtain rfl:=so hB8
 obtain rfl:=so hL8
 exact rj hR8 ⟨a_5,k_6,i_7,rfl,sf1,Z⟩
 intro f w_ hR
 obtain ⟨a_5,k_6,i_7,rfl,sf1,Z⟩:=rk hR8 hR
 refine sq (mF sf1 rfl (aI rfl (nn (W_ret (retG1 (v1:=I k_6) Tryz.results43 rfl ?_)))))
 obtain rfl:=so hF
 exact ⟨rfl,Z⟩
theorem l_heldTermS_c {a : List Term} {k : Int} {v0 : Value} {H : FH} {w : World} (Z : Star H w []) (h0 : (rS 122 rTerm).rel H [v0] a) {r : Int} (hF : l_heldTermS a k = some r) :
 C Tryz.prog 91 #[v0,I k] w fun v w'=>v = I r∧Star H w' []:=by
 unfold l_heldTermS at hF
 refine C_enter Tryz.func91 rfl Tryz.ntmps91 rfl (sq (aI rfl (nq (sq (aI rfl (nn ?_))))))
 have hlen3 : List.length a≤9223372036854775807:=len_le (slice_len h0)
 obtain ⟨j3,hL3,hF⟩:=bind_some hF
 obtain ⟨R3,hR3⟩:=exR fun f w_=>∃ k_2 : Int,j3 = .nx k_2∧f 1 = I k_2∧Star H w_ ([])
 refine W_join R3 ?_ ?_
 refine W_block ?_
 obtain ⟨I3,hI3⟩:=exI fun n f w_=>∃ i_1 : Nat,∃ suf3 : List Term,∃ k_2 : Int,n = suf3.length∧List.drop i_1 a = suf3∧i_1 + suf3.length = a.length∧rangeL l_heldTermS_b1 suf3 i_1 k_2 = some j3∧f 0 = v0∧f 1 = I k_2∧f 5 = I i_1∧Star H w_ ([])
 refine W_loop I3 (n:=a.length) ?_ ?_
 exact ij hI3 ⟨0,a,k,rfl,rfl,Nat.zero_add _,hL3,rfl,rfl,rfl,Z⟩
 intro n3 f w_ hI
 obtain ⟨i_1,suf3,k_2,rfl,hd3,hl3,hL3,sf0,sf1,sf5,Z⟩:=ik hI3 hI
 refine W_seq (sq (mF sf5 rfl (mF sf0 rfl (L_len rfl Tryz.underlying71 rfl (slice_len h0) (L_lss rfl rfl rfl (nn (W_cond (b:=decide ((i_1 : Int) < (a.length : Int))) rfl (fun hc4=>?_) (fun hc4=>?_))))))))
 have hlt3:=of_decide_eq_true hc4
 rcases suf3 with _ | ⟨x_3,rest3⟩
 exact absurd hlt3 (by simp at hl3; omega)
 obtain ⟨o3,hB3,hL3⟩:=range_cons hL3
 rw [l_heldTermS_b1] at hB3
 have hix3:=drop_idx hd3
 refine W_skip (W_seq (W_block (W_seq (sq (mF sf0 rfl (mF sf5 rfl (L_ix (r:=rTerm) rfl Tryz.underlying71 Tryz.sizeOf122 rfl h0 rfl hix3 (fun g9 o10 cs_g9 hrk_hat11 hat11=>?_))))))))
 obtain rfl:=rTerm_iff.1 hrk_hat11
 refine fA o10 fa_122_0 rfl rfl (L_ld rfl Tryz.isAgg3 rfl (At.cell (AtH.at hat11 Z.sub) (j:=0) rfl) (mF sf1 rfl (L_neq rfl rfl rfl (nn (W_cond (b:=(x_3.coef != k_2)) rfl (fun hc13=>?_) (fun hc13=>?_))))))
 have hB3:=(ite_t hc13).symm.trans hB3
 refine sq (aI rfl (nn (W_ret (retG1 (v1:=I (-1)) Tryz.results91 rfl ?_))))
 obtain rfl:=so hB3
 obtain rfl:=so hL3
 obtain rfl:=so hF
 exact ⟨rfl,Z⟩
 have hB3:=(ite_f hc13).symm.trans hB3
 refine W_skip (sq (mF sf1 rfl (L_add rfl rfl rfl (aI rfl (nq (sq (mF sf0 rfl (mF sf5 rfl (L_ix (r:=rTerm) rfl Tryz.underlying71 Tryz.sizeOf122 rfl h0 rfl hix3 (fun g18 o19 cs_g18 hrk_hat20 hat20=>?_))))))))))
 obtain rfl:=rTerm_iff.1 hrk_hat20
 refine fA (o19 + 1) fa_122_1 rfl rfl (L_ld rfl Tryz.isAgg3 rfl (At.cell (AtH.at hat20 Z.sub) (j:=1) rfl) (mI rfl (L_neq rfl rfl rfl (nn (W_cond (b:=(x_3.lit != (i64 (k_2 + 1)))) rfl (fun hc22=>?_) (fun hc22=>?_))))))
 have hB3:=(ite_t hc22).symm.trans hB3
 refine sq (aI rfl (nn (W_ret (retG1 (v1:=I (-1)) Tryz.results91 rfl ?_))))
 obtain rfl:=so hB3
 obtain rfl:=so hL3
 obtain rfl:=so hF
 exact ⟨rfl,Z⟩
 have hB3:=(ite_f hc22).symm.trans hB3
 refine W_skip (W_region (mI rfl (L_add rfl rfl rfl (aI rfl (nn (W_region (mF sf5 rfl (L_add rfl rfl rfl (aI rfl (nn ?_))))))))))
 obtain rfl:=so hB3
 show ∃ m,m < _∧I3 m _ _
 refine ⟨rest3.length,by simp,?_⟩
 exact ij hI3 ⟨i_1 + 1,rest3,i64 ((i64 (k_2 + 1)) + 1),rfl,drop_next hd3,by simp at hl3; omega,hL3,sf0,rfl,(Eq.trans rfl (congrArg (Value.int .i64) (i64_succ (n:=a.length) (by simp at hl3; omega) hlen3))),Z⟩
 rcases suf3 with _ | ⟨_,_⟩
 obtain rfl:=range_nil hL3
 refine W_exit (rj hR3 ⟨k_2,rfl,sf1,Z⟩)
 exact absurd (of_decide_eq_false hc4) (by simp at hl3; omega)
 intro f w_ hR
 obtain ⟨k_2,rfl,sf1,Z⟩:=rk hR3 hR
 refine sq (mF sf1 rfl (aI rfl (nn (W_ret (retG1 (v1:=I k_2) Tryz.results91 rfl ?_)))))
 obtain rfl:=so hF
 exact ⟨rfl,Z⟩
theorem l_heldConstraintS_c {a : List Con} {k : Int} {v0 : Value} {H : FH} {w : World} (Z : Star H w []) (h0 : (rS 73 (rCon 122)).rel H [v0] a) {r : Int} (hF : l_heldConstraintS a k = some r) :
 C Tryz.prog 44 #[v0,I k] w fun v w'=>v = I r∧Star H w' []:=by
 unfold l_heldConstraintS at hF
 refine C_enter Tryz.func44 rfl Tryz.ntmps44 rfl (sq (aI rfl (nq (sq (aI rfl (nn ?_))))))
 have hlen3 : List.length a≤9223372036854775807:=len_le (slice_len h0)
 obtain ⟨j3,hL3,hF⟩:=bind_some hF
 obtain ⟨R3,hR3⟩:=exR fun f w_=>∃ k_2 : Int,j3 = .nx k_2∧f 1 = I k_2∧Star H w_ ([])
 refine W_join R3 ?_ ?_
 refine W_block ?_
 obtain ⟨I3,hI3⟩:=exI fun n f w_=>∃ i_1 : Nat,∃ suf3 : List Con,∃ k_2 : Int,n = suf3.length∧List.drop i_1 a = suf3∧i_1 + suf3.length = a.length∧rangeL l_heldConstraintS_b1 suf3 i_1 k_2 = some j3∧f 0 = v0∧f 1 = I k_2∧f 5 = I i_1∧Star H w_ ([])
 refine W_loop I3 (n:=a.length) ?_ ?_
 exact ij hI3 ⟨0,a,k,rfl,rfl,Nat.zero_add _,hL3,rfl,rfl,rfl,Z⟩
 intro n3 f w_ hI
 obtain ⟨i_1,suf3,k_2,rfl,hd3,hl3,hL3,sf0,sf1,sf5,Z⟩:=ik hI3 hI
 refine W_seq (sq (mF sf5 rfl (mF sf0 rfl (L_len rfl Tryz.underlying28 rfl (slice_len h0) (L_lss rfl rfl rfl (nn (W_cond (b:=decide ((i_1 : Int) < (a.length : Int))) rfl (fun hc4=>?_) (fun hc4=>?_))))))))
 have hlt3:=of_decide_eq_true hc4
 rcases suf3 with _ | ⟨x_3,rest3⟩
 exact absurd hlt3 (by simp at hl3; omega)
 obtain ⟨o3,hB3,hL3⟩:=range_cons hL3
 rw [l_heldConstraintS_b1] at hB3
 have hix3:=drop_idx hd3
 refine W_skip (W_seq (W_block (W_seq ?_)))
 obtain ⟨x14,hx14,hB3⟩:=bind_some hB3
 refine W_region (mF sf0 rfl (mF sf5 rfl (L_ix (r:=(rCon 122)) rfl Tryz.underlying28 Tryz.sizeOf73 rfl h0 rfl hix3 (fun g16 o17 cs_g16 hrk_hat18 hat18=>?_))))
 obtain ⟨u19_0,rfl,hu19_0⟩:=rCon_iff.1 hrk_hat18
 refine fA o17 fa_73_0 rfl rfl (L_ld rfl Tryz.isAgg71 rfl (At.cell (AtH.at hat18 Z.sub) (j:=0) rfl) (mF sf1 rfl ?_))
 obtain ⟨H20b,l21,s22,z23,k24⟩:=Z.borrow
 refine L_call rfl Tryz.call91 (ops2 rfl rfl) (l_heldTermS_c (a:=x_3.terms) (k:=k_2) s22 (RP.mono _ hu19_0 l21) hx14) ?_
 rintro _ w25 ⟨rfl,Z⟩
 have Z:=k24 Z c0
 refine aI rfl (nq (sq (mI rfl (L_lss rfl rfl rfl (nn (W_cond (b:=decide (x14 < 0)) rfl (fun hc26=>?_) (fun hc26=>?_)))))))
 have hB3:=(ite_t hc26).symm.trans hB3
 refine sq (aI rfl (nn (W_ret (retG1 (v1:=I (-1)) Tryz.results44 rfl ?_))))
 obtain rfl:=so hB3
 obtain rfl:=so hL3
 obtain rfl:=so hF
 exact ⟨rfl,Z⟩
 have hB3:=(ite_f hc26).symm.trans hB3
 refine W_skip (W_seq (sq (mF sf0 rfl (mF sf5 rfl (L_ix (r:=(rCon 122)) rfl Tryz.underlying28 Tryz.sizeOf73 rfl h0 rfl hix3 (fun g31 o32 cs_g31 hrk_hat33 hat33=>?_))))))
 obtain ⟨u34_0,rfl,hu34_0⟩:=rCon_iff.1 hrk_hat33
 refine fA (o32 + 1) fa_73_1 rfl rfl (L_ld rfl Tryz.isAgg3 rfl (At.cell (AtH.at hat33 Z.sub) (j:=1) rfl) (mI rfl (L_neq rfl rfl rfl (nn (W_cond (b:=(x_3.bound != x14)) rfl (fun hc35=>?_) (fun hc35=>?_))))))
 have hB3:=(ite_t hc35).symm.trans hB3
 refine sq (aI rfl (nn (W_ret (retG1 (v1:=I (-1)) Tryz.results44 rfl ?_))))
 obtain rfl:=so hB3
 obtain rfl:=so hL3
 obtain rfl:=so hF
 exact ⟨rfl,Z⟩
 have hB3:=(ite_f hc35).symm.trans hB3
 refine W_skip (W_region (mI rfl (L_add rfl rfl rfl (aI rfl (nn (W_region (mF sf5 rfl (L_add rfl rfl rfl (aI rfl (nn ?_))))))))))
 obtain rfl:=so hB3
 show ∃ m,m < _∧I3 m _ _
 refine ⟨rest3.length,by simp,?_⟩
 exact ij hI3 ⟨i_1 + 1,rest3,i64 (x14 + 1),rfl,drop_next hd3,by simp at hl3; omega,hL3,sf0,rfl,(Eq.trans rfl (congrArg (Value.int .i64) (i64_succ (n:=a.length) (by simp at hl3; omega) hlen3))),Z⟩
 rcases suf3 with _ | ⟨_,_⟩
 obtain rfl:=range_nil hL3
 refine W_exit (rj hR3 ⟨k_2,rfl,sf1,Z⟩)
 exact absurd (of_decide_eq_false hc4) (by simp at hl3; omega)
 intro f w_ hR
 obtain ⟨k_2,rfl,sf1,Z⟩:=rk hR3 hR
 refine sq (mF sf1 rfl (aI rfl (nn (W_ret (retG1 (v1:=I k_2) Tryz.results44 rfl ?_)))))
 obtain rfl:=so hF
 exact ⟨rfl,Z⟩
theorem l_FnExactEncodeModel_c {fu : Nat} {aM : Model} {v0_0 : Value} {v0_1 : Value} {H : FH} {w : World} (Z : Star H w []) (h0_0 : (rS 3 RP.int).rel H [v0_0] aM.sizes) (h0_1 : (rS 140 (rRule 3 23)).rel H [v0_1] aM.rules) {r : Bool} (hF : l_FnExactEncodeModel fu aM = some r) :
 C Tryz.prog 11 #[.agg #[v0_0,v0_1]] w fun v w'=>v = Bo r∧Star H w' []:=by
 unfold l_FnExactEncodeModel at hF
 refine C_enter Tryz.func11 rfl Tryz.ntmps11 rfl (sq (L_box (v:=.agg #[v0_0,v0_1]) (cs:=#[v0_0,v0_1]) rfl rfl rfl Z (fun g3 w4 Z=>aB rfl (ns (aI rfl (nq ?_))))))
 obtain ⟨x10,hx10,hF⟩:=bind_some hF
 refine W_region (L_lda (cs:=[v0_0,v0_1]) rfl Tryz.isAgg61 Tryz.sizeOf61 rfl (At.sub0 (Blk.at (Star.blkAt 0 Z rfl)) 0 2) rfl (mI rfl ?_))
 obtain ⟨H12b,l13,s14,z15,k16⟩:=Z.borrow
 refine L_call rfl Tryz.call38 (ops2 rfl rfl) (l_szModel_c (a:=aM) (left:=1048576) s14 (RP.mono _ h0_0 l13) (RP.mono _ h0_1 l13) hx10) ?_
 rintro _ w17 ⟨rfl,Z⟩
 have Z:=k16 Z c0
 refine aI rfl (nq (sq (mI rfl (L_lss rfl rfl rfl (nn (W_cond (b:=decide (x10 < 0)) rfl (fun hc18=>?_) (fun hc18=>?_)))))))
 have hF:=(ite_t hc18).symm.trans hF
 refine sq (aB rfl (nn (W_ret (retG1 (v1:=Bo true) Tryz.results11 rfl ?_))))
 obtain rfl:=so hF
 exact ⟨rfl,(Star.keepN 0 Z)⟩
 have hF:=(ite_f hc18).symm.trans hF
 refine W_skip (W_seq ?_)
 obtain ⟨x24,hx24,hF⟩:=bind_some hF
 obtain ⟨x35,hx35,hF⟩:=bind_some hF
 refine W_region (L_lda (cs:=[v0_0,v0_1]) rfl Tryz.isAgg61 Tryz.sizeOf61 rfl (At.sub0 (Blk.at (Star.blkAt 0 Z rfl)) 0 2) rfl ?_)
 obtain ⟨H38b,l39,s40,z41,k42⟩:=Z.borrow
 refine L_call rfl Tryz.call39 (ops1 rfl) (l_toModel_c (a:=aM) s40 (RP.mono _ h0_0 l39) (RP.mono _ h0_1 l39) hx24) ?_
 rintro _ w43 ⟨r43_0,r43_1,rfl,Z⟩
 have Z:=k42 Z (co closed_int (co closed_oRule c0))
 obtain ⟨H46b,l47,s48,z49,k50⟩:=Z.borrow
 have hb51 : (rS 3 RP.int).rel H46b [r43_0] x24.sizes:=fz_own 0 z49 rfl
 have hb52 : (rS 79 (rRule 3 23)).rel H46b [r43_1] x24.rules:=fz_own 1 z49 rfl
 refine L_call rfl Tryz.call14 (ops1 rfl) (s_EncodeModel_c (m:=x24) s48 hb51 hb52 hx35) ?_
 rintro _ w53 ⟨r53_0,rfl,Z⟩
 have Z:=k50 Z (co closed_oCon c0)
 refine mV (.tuple #[r53_0,Bo x35.2]) rfl (L_ex (v:=r53_0) rfl rfl rfl (L_ex (v:=Bo x35.2) rfl rfl rfl (aV r53_0 rfl (aB rfl (nq ?_)))))
 obtain ⟨x60,hx60,hF⟩:=bind_some hF
 refine W_region (L_lda (cs:=[v0_0,v0_1]) rfl Tryz.isAgg61 Tryz.sizeOf61 rfl (At.sub0 (Blk.at (Star.blkAt 3 Z rfl)) 0 2) rfl ?_)
 obtain ⟨H67b,l68,s69,z70,k71⟩:=Z.borrow
 refine L_call rfl Tryz.call39 (ops1 rfl) (l_toModel_c (a:=aM) s69 (RP.mono _ h0_0 l68) (RP.mono _ h0_1 l68) hx60) ?_
 rintro _ w72 ⟨r72_0,r72_1,rfl,Z⟩
 have Z:=k71 Z (co closed_int (co closed_oRule c0))
 refine L_al (cs:=#[S0,S0]) rfl Tryz.zeroValue26 rfl Z (fun g75 w76 Z=>L_staB (vs:=#[r72_0,r72_1]) (cs2:=#[r72_0,r72_1]) 0 rfl Tryz.sizeOf26 rfl rfl rfl (ones_cons (one_len (Star.len 1 Z rfl)) (ones_cons (one_len (Star.len 2 Z rfl)) ones_nil)) Z rfl (by show 0 + 2≤2; decide) rfl (fun w77 Z=>nq ?_))
 obtain ⟨x85,hx85,hF⟩:=bind_some hF
 refine W_region (L_lda (cs:=[r72_0,r72_1]) rfl Tryz.isAgg26 Tryz.sizeOf26 rfl (At.sub0 (Blk.at (Star.blkAt 0 Z rfl)) 0 2) rfl ?_)
 obtain ⟨H88b,l89,s90,z91,k92⟩:=Z.borrow
 have hb93 : (rS 3 RP.int).rel H88b [r72_0] x60.sizes:=fz_own 1 z91 rfl
 have hb94 : (rS 79 (rRule 3 23)).rel H88b [r72_1] x60.rules:=fz_own 2 z91 rfl
 refine L_call rfl Tryz.call13 (ops1 rfl) (i_EncodeModel_c (m:=x60) s90 hb93 hb94 hx85) ?_
 rintro _ w95 ⟨r95_0,rfl,Z⟩
 have Z:=k92 Z (co closed_oCon c0)
 refine mV (.tuple #[r95_0,Bo x85.2]) rfl (L_ex (v:=r95_0) rfl rfl rfl (L_ex (v:=Bo x85.2) rfl rfl rfl (aV r95_0 rfl (aB rfl (nq (W_seq ?_))))))
 obtain ⟨x104,hx104,hF⟩:=bind_some hF
 obtain ⟨R106,hR106⟩:=exR fun f w_=>f 1 = Pt g3∧f 4 = r53_0∧f 5 = Bo x35.2∧f 6 = Pt g75∧f 7 = r95_0∧f 8 = Bo x85.2∧f 40 = Bo ((!x104) || (x85.2 != x35.2))∧Star H w_ ([oS 73 (oCon 122) r53_0 x35.1,oS 73 (oCon 122) r95_0 x85.1,oF 3 RP.int r72_0 x60.sizes,oS 79 (oRule 3 23) r72_1 x60.rules,box g75 26 #[r72_0,r72_1],box g3 61 #[v0_0,v0_1]])
 refine W_join R106 ?_ ?_
 refine W_region (mV r95_0 rfl (mV r53_0 rfl ?_))
 obtain ⟨H107b,l108,s109,z110,k111⟩:=Z.borrow
 have hb112 : (rS 73 (rCon 122)).rel H107b [r95_0] x85.1:=fz_own 0 z110 rfl
 have hb113 : (rS 73 (rCon 122)).rel H107b [r53_0] x35.1:=fz_own 4 z110 rfl
 refine L_call rfl Tryz.call40 (ops2 rfl rfl) (l_eqConstraintS_c (a:=x85.1) (b:=x35.1) s109 hb112 hb113 hx104) ?_
 rintro _ w114 ⟨rfl,Z⟩
 have Z:=k111 Z c0
 refine L_not_ rfl rfl (mB rfl (L_split (d:=36) (b:=(!x104)) rfl (fun hc115=>?_) (fun hc115=>?_)))
 refine ps rfl (ps rfl (ps rfl (L_pick (v:=Bo ((!x104) || (x85.2 != x35.2))) rfl rfl (or_t hc115) (nn ?_))))
 have Z:=Z.gets [7,2,4,4,4,5] rfl
 exact rj hR106 ⟨rfl,rfl,rfl,rfl,rfl,rfl,rfl,(Star.keepN 6 Z)⟩
 refine mB rfl (mB rfl (L_bneq (b:=x85.2) (c:=x35.2) rfl Tryz.underlying4 rfl rfl (L_pick (v:=Bo ((!x104) || (x85.2 != x35.2))) rfl rfl (or_f hc115 rfl) (nn ?_))))
 have Z:=Z.gets [7,2,4,4,4,5] rfl
 exact rj hR106 ⟨rfl,rfl,rfl,rfl,rfl,rfl,rfl,(Star.keepN 6 Z)⟩
 intro f w_ hR
 obtain ⟨sf1,sf4,sf5,sf6,sf7,sf8,sf40,Z⟩:=rk hR106 hR
 refine W_cond (b:=((!x104) || (x85.2 != x35.2))) sf40 (fun hc116=>?_) (fun hc116=>?_)
 have hF:=(ite_t hc116).symm.trans hF
 refine sq (aB rfl (nn (W_ret (retG1 (v1:=Bo false) Tryz.results11 rfl ?_))))
 obtain rfl:=so hF
 exact ⟨rfl,(Star.keepN 0 Z)⟩
 have hF:=(ite_f hc116).symm.trans hF
 refine W_skip (W_seq (W_seq ?_))
 obtain ⟨x122,hx122,hF⟩:=bind_some hF
 obtain ⟨x135,hx135,hF⟩:=bind_some hF
 refine W_drawS 3 [isV (.agg #[r72_0,r72_1]),isV (.agg #[v0_0,v0_1]),exA fun u_0=>exA fun u_1=>isV (.agg #[u_0,u_1])] [oS 73 (oCon 122) r53_0 x35.1,oS 73 (oCon 122) r95_0 x85.1,oF 3 RP.int r72_0 x60.sizes,oS 79 (oRule 3 23) r72_1 x60.rules,box g75 26 #[r72_0,r72_1],box g3 61 #[v0_0,v0_1]] [.made 2 43 (fun v_=>oF 3 RP.int (aggC v_ 0) x122.sizes) none,.made 2 43 (fun v_=>oS 79 (oRule 3 23) (aggC v_ 1) x122.rules) none] ([]) [([],[]),([],[]),([],[0,1])] (S:=[(some 2,[43],none),(some 2,[43],none)]) Tryz_mix (by kernel_rfl) rfl (by kernel_rfl) (amF_cons (mono_V _) (amF_cons (mono_V _) (amF_cons (mono_exA fun _=>mono_exA fun _=>mono_V _) amF_nil))) Z ?_ (fun f w_ H137 hS137 hE137 hT137 Z=>?_)
 refine opsS_cons (fun f w_ _ _ s _ _ Z=>L_lda (cs:=[r72_0,r72_1]) rfl Tryz.isAgg26 Tryz.sizeOf26 ((s 6 rfl).trans sf6) (At.sub0 (Blk.at (Star.blkAt 4 Z rfl)) 0 2) rfl (nO rfl rfl Z)) (opsS_cons (fun f w_ _ _ s _ _ Z=>L_lda (cs:=[v0_0,v0_1]) rfl Tryz.isAgg61 Tryz.sizeOf61 ((s 1 rfl).trans sf1) (At.sub0 (Blk.at (Star.blkAt 5 Z rfl)) 0 2) rfl (nO rfl rfl Z)) (opsS_cons ?_ ?_))
 intro f w_ H137 X137 hS137 hE137 hP137 Z
 obtain ⟨H146b,l147,s148,z149,k150⟩:=Z.borrow
 refine L_call rfl Tryz.call39 (ops1 (hP137 1 42 rfl rfl)) (l_toModel_c (a:=aM) s148 (RP.mono _ h0_0 (Le.trans hE137 l147)) (RP.mono _ h0_1 (Le.trans hE137 l147)) hx122) ?_
 rintro _ w151 ⟨r151_0,r151_1,rfl,Z⟩
 have Z:=k150 Z (co closed_int (co closed_oRule c0))
 have Z:=Z.gets [1,1,7,7,7,7,7,7] rfl
 exact L_nil ⟨rfl,_,_,rfl,Le.refl _,fun _ _=>⟨_,_,rfl⟩,Z⟩
 exact opsS_nil
 have Z : Star H137 w_ ([oS 73 (oCon 122) r53_0 x35.1,oS 73 (oCon 122) r95_0 x85.1,oF 3 RP.int r72_0 x60.sizes,oS 79 (oRule 3 23) r72_1 x60.rules,box g75 26 #[r72_0,r72_1],box g3 61 #[v0_0,v0_1],own (OR.ownS 3 (OR.frz RP.int)) [(aggC (f 43) 0)] x122.sizes,own (OR.ownS 79 (oRule 3 23)) [(aggC (f 43) 1)] x122.rules]):=Z
 obtain ⟨u154_0,u154_1,hv154⟩:=(hT137 2 43 rfl rfl)
 have hren : Star H137 w_ ([oS 73 (oCon 122) r53_0 x35.1,oS 73 (oCon 122) r95_0 x85.1,oF 3 RP.int r72_0 x60.sizes,oS 79 (oRule 3 23) r72_1 x60.rules,box g75 26 #[r72_0,r72_1],box g3 61 #[v0_0,v0_1],own (OR.ownS 3 (OR.frz RP.int)) [(aggC (f 43) 0)] x122.sizes,own (OR.ownS 79 (oRule 3 23)) [(aggC (f 43) 1)] x122.rules]):=Z
 rw [hv154] at hren
 have Z : Star H137 w_ ([oS 73 (oCon 122) r53_0 x35.1,oS 73 (oCon 122) r95_0 x85.1,oF 3 RP.int r72_0 x60.sizes,oS 79 (oRule 3 23) r72_1 x60.rules,box g75 26 #[r72_0,r72_1],box g3 61 #[v0_0,v0_1],oF 3 RP.int u154_0 x122.sizes,oS 79 (oRule 3 23) u154_1 x122.rules]):=hren
 obtain ⟨H155b,l156,s157,z158,k159⟩:=Z.borrow
 have hb160 : (rS 3 RP.int).rel H155b [r72_0] x60.sizes:=fz_own 2 z158 rfl
 have hb161 : (rS 79 (rRule 3 23)).rel H155b [r72_1] x60.rules:=fz_own 3 z158 rfl
 have hb162 : (rS 3 RP.int).rel H155b [u154_0] x122.sizes:=fz_own 6 z158 rfl
 have hb163 : (rS 79 (rRule 3 23)).rel H155b [u154_1] x122.rules:=fz_own 7 z158 rfl
 refine L_call rfl Tryz.call41 (ops2 (hT137 0 41 rfl rfl) hv154) (l_eqModel_c (a:=x60) (b:=x122) s157 hb160 hb161 hb162 hb163 hx135) ?_
 rintro _ w164 ⟨rfl,Z⟩
 have Z:=k159 Z c0
 refine L_not_ rfl rfl (nn (W_cond (b:=(!x135)) rfl (fun hc165=>?_) (fun hc165=>?_)))
 have hF:=(ite_t hc165).symm.trans hF
 refine sq (aB rfl (nn (W_ret (retG1 (v1:=Bo false) Tryz.results11 rfl ?_))))
 obtain rfl:=so hF
 exact ⟨rfl,(Star.down (Star.keepN 0 Z) hE137 c0)⟩
 have hF:=(ite_f hc165).symm.trans hF
 refine W_skip (sq (aI rfl (L_nil (W_seq ?_))))
 obtain ⟨x171,hx171,hF⟩:=bind_some hF
 refine W_region (L_lda (cs:=[r72_0,r72_1]) rfl Tryz.isAgg26 Tryz.sizeOf26 ((hS137 6 rfl).trans sf6) (At.sub0 (Blk.at (Star.blkAt 4 Z rfl)) 0 2) rfl (mI rfl ?_))
 have Z:=Z.gets [3,3] rfl
 obtain ⟨H173b,l174,s175,z176,k177⟩:=Z.lend [_,_]
 refine L_call rfl Tryz.call42 (ops2 rfl rfl) (l_markModel_c (a:=x60) (k:=1) s175 hx171) ?_
 rintro _ w178 ⟨rfl,Z⟩
 have Z:=k177 Z (co closed_int (co closed_oRule c0))
 refine aI rfl (nq (W_seq ?_))
 obtain ⟨b188,hb188,hF⟩:=bind_some hF
 obtain ⟨R189,hR189⟩:=exR fun f w_=>f 1 = Pt g3∧f 4 = r53_0∧f 5 = Bo x35.2∧f 7 = r95_0∧f 61 = Bo (b188 || (x85.2 != x35.2))∧Star H137 w_ ([oS 73 (oCon 122) r53_0 x35.1,oS 73 (oCon 122) r95_0 x85.1,box g3 61 #[v0_0,v0_1]])
 refine W_join R189 ?_ ?_
 refine W_region (mI rfl (L_lss rfl rfl rfl (mB rfl (L_split (d:=51) (b:=decide (x171.1 < 0)) rfl (fun hc190=>?_) (fun hc190=>?_)))))
 rw [ite_t hc190] at hb188
 refine ps rfl (ps rfl (ps rfl (ps rfl (L_pick (v:=Bo b188) rfl rfl (congrArg Value.bool (so hb188)) (mB rfl (L_split (d:=57) (b:=b188) rfl (fun hc191=>?_) (fun hc191=>?_)))))))
 refine ps rfl (ps rfl (ps rfl (L_pick (v:=Bo (b188 || (x85.2 != x35.2))) rfl rfl (or_t hc191) (nn ?_))))
 have Z:=Z.gets [5,4,4] rfl
 exact rj hR189 ⟨((hS137 1 rfl).trans sf1),((hS137 4 rfl).trans sf4),((hS137 5 rfl).trans sf5),((hS137 7 rfl).trans sf7),rfl,(Star.keepN 3 Z)⟩
 refine mF ((hS137 8 rfl).trans sf8) rfl (mF ((hS137 5 rfl).trans sf5) rfl (L_bneq (b:=x85.2) (c:=x35.2) rfl Tryz.underlying4 rfl rfl (L_pick (v:=Bo (b188 || (x85.2 != x35.2))) rfl rfl (or_f hc191 rfl) (nn ?_))))
 have Z:=Z.gets [5,4,4] rfl
 exact rj hR189 ⟨((hS137 1 rfl).trans sf1),((hS137 4 rfl).trans sf4),((hS137 5 rfl).trans sf5),((hS137 7 rfl).trans sf7),rfl,(Star.keepN 3 Z)⟩
 rw [ite_f hc190] at hb188
 obtain ⟨x186,hx186,hb188⟩:=bind_some hb188
 refine mF ((hS137 7 rfl).trans sf7) rfl (mF ((hS137 4 rfl).trans sf4) rfl ?_)
 obtain ⟨H192b,l193,s194,z195,k196⟩:=Z.borrow
 have hb197 : (rS 73 (rCon 122)).rel H192b [r95_0] x85.1:=fz_own 3 z195 rfl
 have hb198 : (rS 73 (rCon 122)).rel H192b [r53_0] x35.1:=fz_own 2 z195 rfl
 refine L_call rfl Tryz.call40 (ops2 rfl rfl) (l_eqConstraintS_c (a:=x85.1) (b:=x35.1) s194 hb197 hb198 hx186) ?_
 rintro _ w199 ⟨rfl,Z⟩
 have Z:=k196 Z c0
 refine L_not_ rfl rfl (L_pick (v:=Bo b188) rfl rfl (congrArg Value.bool (so hb188)) (mB rfl (L_split (d:=57) (b:=b188) rfl (fun hc200=>?_) (fun hc200=>?_))))
 refine ps rfl (ps rfl (ps rfl (L_pick (v:=Bo (b188 || (x85.2 != x35.2))) rfl rfl (or_t hc200) (nn ?_))))
 have Z:=Z.gets [5,4,4] rfl
 exact rj hR189 ⟨((hS137 1 rfl).trans sf1),((hS137 4 rfl).trans sf4),((hS137 5 rfl).trans sf5),((hS137 7 rfl).trans sf7),rfl,(Star.keepN 3 Z)⟩
 refine mF ((hS137 8 rfl).trans sf8) rfl (mF ((hS137 5 rfl).trans sf5) rfl (L_bneq (b:=x85.2) (c:=x35.2) rfl Tryz.underlying4 rfl rfl (L_pick (v:=Bo (b188 || (x85.2 != x35.2))) rfl rfl (or_f hc200 rfl) (nn ?_))))
 have Z:=Z.gets [5,4,4] rfl
 exact rj hR189 ⟨((hS137 1 rfl).trans sf1),((hS137 4 rfl).trans sf4),((hS137 5 rfl).trans sf5),((hS137 7 rfl).trans sf7),rfl,(Star.keepN 3 Z)⟩
 intro f w_ hR
 obtain ⟨sf1,sf4,sf5,sf7,sf61,Z⟩:=rk hR189 hR
 refine W_cond (b:=(b188 || (x85.2 != x35.2))) sf61 (fun hc201=>?_) (fun hc201=>?_)
 have hF:=(ite_t hc201).symm.trans hF
 refine sq (aB rfl (nn (W_ret (retG1 (v1:=Bo false) Tryz.results11 rfl ?_))))
 obtain rfl:=so hF
 exact ⟨rfl,(Star.down (Star.keepN 0 Z) hE137 c0)⟩
 have hF:=(ite_f hc201).symm.trans hF
 refine W_skip (sq (aI rfl (nq ?_)))
 obtain ⟨x207,hx207,hF⟩:=bind_some hF
 refine W_region (mF sf7 rfl (mI rfl ?_))
 have Z:=Z.get 1 rfl
 obtain ⟨H209b,l210,s211,z212,k213⟩:=Z.lend [_]
 refine L_call rfl Tryz.call43 (ops2 rfl rfl) (l_markConstraintS_c (a:=x85.1) (k:=1) s211 hx207) ?_
 rintro _ w214 ⟨rfl,Z⟩
 have Z:=k213 Z (co closed_oCon c0)
 refine aI rfl (ns (aI rfl (nq ?_)))
 obtain ⟨x221,hx221,hF⟩:=bind_some hF
 refine W_region (mF sf7 rfl (mI rfl ?_))
 obtain ⟨H223b,l224,s225,z226,k227⟩:=Z.borrow
 have hb228 : (rS 73 (rCon 122)).rel H223b [r95_0] x207.2:=fz_own 0 z226 rfl
 refine L_call rfl Tryz.call44 (ops2 rfl rfl) (l_heldConstraintS_c (a:=x207.2) (k:=1) s225 hb228 hx221) ?_
 rintro _ w229 ⟨rfl,Z⟩
 have Z:=k227 Z c0
 refine aI rfl (nq (sq (mI rfl (L_lss rfl rfl rfl (nn (W_cond (b:=decide (x221 < 0)) rfl (fun hc230=>?_) (fun hc230=>?_)))))))
 have hF:=(ite_t hc230).symm.trans hF
 refine sq (aB rfl (nn (W_ret (retG1 (v1:=Bo false) Tryz.results11 rfl ?_))))
 obtain rfl:=so hF
 exact ⟨rfl,(Star.down (Star.keepN 0 Z) hE137 c0)⟩
 have hF:=(ite_f hc230).symm.trans hF
 refine W_skip (W_seq (sq (mI rfl (mI rfl (L_neq rfl rfl rfl (nn (W_cond (b:=(x221 != x207.1)) rfl (fun hc231=>?_) (fun hc231=>?_))))))))
 have hF:=(ite_t hc231).symm.trans hF
 refine sq (aB rfl (nn (W_ret (retG1 (v1:=Bo false) Tryz.results11 rfl ?_))))
 obtain rfl:=so hF
 exact ⟨rfl,(Star.down (Star.keepN 0 Z) hE137 c0)⟩
 have hF:=(ite_f hc231).symm.trans hF
 refine W_skip (W_seq ?_)
 obtain ⟨x237,hx237,hF⟩:=bind_some hF
 obtain ⟨x248,hx248,hF⟩:=bind_some hF
 refine W_region (L_lda (cs:=[v0_0,v0_1]) rfl Tryz.isAgg61 Tryz.sizeOf61 sf1 (At.sub0 (Blk.at (Star.blkAt 2 Z rfl)) 0 2) rfl ?_)
 obtain ⟨H251b,l252,s253,z254,k255⟩:=Z.borrow
 refine L_call rfl Tryz.call39 (ops1 rfl) (l_toModel_c (a:=aM) s253 (RP.mono _ h0_0 (Le.trans hE137 l252)) (RP.mono _ h0_1 (Le.trans hE137 l252)) hx237) ?_
 rintro _ w256 ⟨r256_0,r256_1,rfl,Z⟩
 have Z:=k255 Z (co closed_int (co closed_oRule c0))
 obtain ⟨H259b,l260,s261,z262,k263⟩:=Z.borrow
 have hb264 : (rS 3 RP.int).rel H259b [r256_0] x237.sizes:=fz_own 0 z262 rfl
 have hb265 : (rS 79 (rRule 3 23)).rel H259b [r256_1] x237.rules:=fz_own 1 z262 rfl
 refine L_call rfl Tryz.call13 (ops1 rfl) (i_EncodeModel_c (m:=x237) s261 hb264 hb265 hx248) ?_
 rintro _ w266 ⟨r266_0,rfl,Z⟩
 have Z:=k263 Z (co closed_oCon c0)
 refine mV (.tuple #[r266_0,Bo x248.2]) rfl (L_ex (v:=r266_0) rfl rfl rfl (L_ex (v:=Bo x248.2) rfl rfl rfl (aV r266_0 rfl (aB rfl (nq (W_seq ?_))))))
 obtain ⟨x275,hx275,hF⟩:=bind_some hF
 obtain ⟨R277,hR277⟩:=exR fun f w_=>f 7 = r95_0∧f 10 = I x207.1∧f 87 = Bo ((!x275) || (x248.2 != x35.2))∧Star H137 w_ ([oS 73 (oCon 122) r95_0 x207.2])
 refine W_join R277 ?_ ?_
 refine W_region (mV r266_0 rfl (mF sf4 rfl ?_))
 obtain ⟨H278b,l279,s280,z281,k282⟩:=Z.borrow
 have hb283 : (rS 73 (rCon 122)).rel H278b [r266_0] x248.1:=fz_own 0 z281 rfl
 have hb284 : (rS 73 (rCon 122)).rel H278b [r53_0] x35.1:=fz_own 4 z281 rfl
 refine L_call rfl Tryz.call40 (ops2 rfl rfl) (l_eqConstraintS_c (a:=x248.1) (b:=x35.1) s280 hb283 hb284 hx275) ?_
 rintro _ w285 ⟨rfl,Z⟩
 have Z:=k282 Z c0
 refine L_not_ rfl rfl (mB rfl (L_split (d:=83) (b:=(!x275)) rfl (fun hc286=>?_) (fun hc286=>?_)))
 refine ps rfl (ps rfl (ps rfl (L_pick (v:=Bo ((!x275) || (x248.2 != x35.2))) rfl rfl (or_t hc286) (nn ?_))))
 have Z:=Z.get 3 rfl
 exact rj hR277 ⟨sf7,rfl,rfl,(Star.keepN 1 Z)⟩
 refine mB rfl (mF sf5 rfl (L_bneq (b:=x248.2) (c:=x35.2) rfl Tryz.underlying4 rfl rfl (L_pick (v:=Bo ((!x275) || (x248.2 != x35.2))) rfl rfl (or_f hc286 rfl) (nn ?_))))
 have Z:=Z.get 3 rfl
 exact rj hR277 ⟨sf7,rfl,rfl,(Star.keepN 1 Z)⟩
 intro f w_ hR
 obtain ⟨sf7,sf10,sf87,Z⟩:=rk hR277 hR
 refine W_cond (b:=((!x275) || (x248.2 != x35.2))) sf87 (fun hc287=>?_) (fun hc287=>?_)
 have hF:=(ite_t hc287).symm.trans hF
 refine sq (aB rfl (nn (W_ret (retG1 (v1:=Bo false) Tryz.results11 rfl ?_))))
 obtain rfl:=so hF
 exact ⟨rfl,(Star.down (Star.keepN 0 Z) hE137 c0)⟩
 have hF:=(ite_f hc287).symm.trans hF
 refine W_skip (sq (aI rfl (nq ?_)))
 obtain ⟨x294,hx294,hF⟩:=bind_some hF
 refine W_region (mF sf7 rfl (mI rfl ?_))
 obtain ⟨H296b,l297,s298,z299,k300⟩:=Z.borrow
 have hb301 : (rS 73 (rCon 122)).rel H296b [r95_0] x207.2:=fz_own 0 z299 rfl
 refine L_call rfl Tryz.call44 (ops2 rfl rfl) (l_heldConstraintS_c (a:=x207.2) (k:=1) s298 hb301 hx294) ?_
 rintro _ w302 ⟨rfl,Z⟩
 have Z:=k300 Z c0
 refine aI rfl (nq (sq (mI rfl (L_lss rfl rfl rfl (nn (W_cond (b:=decide (x294 < 0)) rfl (fun hc303=>?_) (fun hc303=>?_)))))))
 have hF:=(ite_t hc303).symm.trans hF
 refine sq (aB rfl (nn (W_ret (retG1 (v1:=Bo false) Tryz.results11 rfl ?_))))
 obtain rfl:=so hF
 exact ⟨rfl,(Star.down (Star.keepN 0 Z) hE137 c0)⟩
 have hF:=(ite_f hc303).symm.trans hF
 refine W_skip (W_seq (sq (mI rfl (mF sf10 rfl (L_neq rfl rfl rfl (nn (W_cond (b:=(x294 != x207.1)) rfl (fun hc304=>?_) (fun hc304=>?_))))))))
 have hF:=(ite_t hc304).symm.trans hF
 refine sq (aB rfl (nn (W_ret (retG1 (v1:=Bo false) Tryz.results11 rfl ?_))))
 obtain rfl:=so hF
 exact ⟨rfl,(Star.down (Star.keepN 0 Z) hE137 c0)⟩
 have hF:=(ite_f hc304).symm.trans hF
 refine W_skip (sq (aB rfl (nn (W_ret (retG1 (v1:=Bo true) Tryz.results11 rfl ?_)))))
 obtain rfl:=so hF
 exact ⟨rfl,(Star.down (Star.keepN 0 Z) hE137 c0)⟩
end Go.Proofs.YtbjllamkfmejlaaGreat

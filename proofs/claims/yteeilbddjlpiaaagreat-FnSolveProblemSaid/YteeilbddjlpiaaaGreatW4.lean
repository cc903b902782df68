/- Part of a proof by program: W4. -/
import Derived.Test.YteeilbddjlpiaaaGreatD1
import Derived.Test.YteeilbddjlpiaaaGreatW3
namespace Go.Proofs.YteeilbddjlpiaaaGreat
open Go Go.E Go.L Go.RowKit
set_option linter.unusedVariables false
set_option linter.unusedSimpArgs false
set_option maxRecDepth 100000
theorem i_ConstraintFalse_c {c : Con} {v0_0 : Value} {H : FH} {w : World} (hst : Star H w []) (h0_0 : (rS 85 rTerm).rel H [v0_0] c.terms) {r : Bool} (hF : i_ConstraintFalse c = some r) :
 C Tryz.prog 50 #[.agg #[v0_0,I c.bound]] w fun v w'=>v = Bo r∧Star H w' []:=by
 unfold i_ConstraintFalse at hF
 refine C_enter Tryz.func50 rfl Tryz.ntmps50 rfl (sq (L_box (v:=.agg #[v0_0,I c.bound]) (cs:=#[v0_0,I c.bound]) rfl rfl rfl hst (fun g3 w4 hst=>aB rfl (nq ?_))))
 obtain ⟨x10,hx10,hF⟩:=bind_some hF
 obtain ⟨b19,hb19,hF⟩:=bind_some hF
 obtain ⟨R23,hR23⟩:=exR fun f w_=>∃ H21 : FH,Le H H21∧f 2 = Bo b19∧Star H21 w_ ([])
 refine W_join R23 ?_ ?_
 rcases Bool.eq_false_or_eq_true x10 with hc24 | hc24
 rw [ite_t hc24] at hb19
 obtain ⟨x17,hx17,hb19⟩:=bind_some hb19
 refine W_drawS 7 [isV (.agg #[v0_0,I c.bound]),isV (Bo x10),isV (Bo x10),isV (Pq g3 1),isV (I c.bound),isV (.agg #[v0_0,I c.bound]),isV (I x17)] [box g3 46 #[v0_0,I c.bound]] [] ([]) [([],[]),([],[]),([],[]),([],[]),([],[]),([],[]),([],[])] (S:=[]) Tryz_mix (by kernel_rfl) rfl (by kernel_rfl) (amF_cons (mono_V _) (amF_cons (mono_V _) (amF_cons (mono_V _) (amF_cons (mono_V _) (amF_cons (mono_V _) (amF_cons (mono_V _) (amF_cons (mono_V _) amF_nil))))))) hst ?_ (fun f w_ H20 hS20 hE20 hT20 hst=>?_)
 refine opsS_cons (fun f w_ _ _ s _ _ hst=>L_lda (cs:=[v0_0,I c.bound]) rfl Tryz.isAgg46 Tryz.sizeOf46 ((s 1 rfl).trans rfl) (At.sub0 (Blk.at (Star.blkAt 0 hst rfl)) 0 2) rfl (nO rfl rfl hst)) (opsS_cons ?_ ?_)
 intro f w_ H20 X20 hS20 hE20 hP20 hst
 obtain ⟨H37b,l38,s39,z40,k41⟩:=hst.borrow
 refine L_call rfl Tryz.call52 (ops1 (hP20 0 3 rfl rfl)) (i_ConstraintValid_c (c:=c) s39 (RP.mono _ h0_0 (Le.trans hE20 l38)) hx10) ?_
 rintro _ w42 ⟨rfl,hst⟩
 have hst:=k41 hst c0
 exact L_nil ⟨rfl,_,_,rfl,Le.refl _,fun _ _=>rfl,hst⟩
 refine opsS_cons (fun f w_ _ _ _ _ p hst=>mF (p 1 4 rfl rfl) rfl (nO rfl rfl hst)) (opsS_cons (fun f w_ _ _ s _ p hst=>L_fa (o':=1) (g_yes rfl (Eq.trans (p 2 5 rfl rfl) (congrArg Value.bool hc24)) rfl) fa_46_1 ((s 1 rfl).trans rfl) rfl (nO rfl rfl hst)) (opsS_cons (fun f w_ _ _ _ _ p hst=>L_ld (v:=I c.bound) (g_yes rfl (Eq.trans (p 2 5 rfl rfl) (congrArg Value.bool hc24)) rfl) Tryz.isAgg3 (p 3 6 rfl rfl) (At.cell0 (Blk.at (Star.blkAt 0 hst rfl)) (j:=1) rfl) (nO rfl rfl hst)) (opsS_cons (fun f w_ _ _ s _ p hst=>L_lda (cs:=[v0_0,I c.bound]) (g_yes rfl (Eq.trans (p 2 5 rfl rfl) (congrArg Value.bool hc24)) rfl) Tryz.isAgg46 Tryz.sizeOf46 ((s 1 rfl).trans rfl) (At.sub0 (Blk.at (Star.blkAt 0 hst rfl)) 0 2) rfl (nO rfl rfl hst)) (opsS_cons ?_ ?_))))
 intro f w_ H20 X20 hS20 hE20 hP20 hst
 obtain ⟨H43b,l44,s45,z46,k47⟩:=hst.borrow
 refine L_call (g_yes rfl (Eq.trans (hP20 2 5 rfl rfl) (congrArg Value.bool hc24)) rfl) Tryz.call65 (ops1 (hP20 5 8 rfl rfl)) (i_Constraint_total_c (c:=c) s45 (RP.mono _ h0_0 (Le.trans hE20 l44)) hx17) ?_
 rintro _ w48 ⟨rfl,hst⟩
 have hst:=k47 hst c0
 exact L_nil ⟨rfl,_,_,rfl,Le.refl _,fun _ _=>rfl,hst⟩
 exact opsS_nil
 refine L_gtr (g_yes rfl (Eq.trans (hT20 2 5 rfl rfl) (congrArg Value.bool hc24)) rfl) (hT20 4 7 rfl rfl) (hT20 6 9 rfl rfl) (L_pick (v:=Bo b19) rfl (Eq.trans (hT20 2 5 rfl rfl) (congrArg Value.bool hc24)) (congrArg Value.bool (so hb19)) (aB rfl (nn (rj hR23 ⟨H20,hE20,rfl,(Star.keepN 0 hst)⟩))))
 rw [ite_f hc24] at hb19
 refine W_drawS 7 [isV (.agg #[v0_0,I c.bound]),isV (Bo x10),isV (Bo x10),isV (undef),isV (undef),isV (undef),isV (undef)] [box g3 46 #[v0_0,I c.bound]] [] ([]) [([],[]),([],[]),([],[]),([],[]),([],[]),([],[]),([],[])] (S:=[]) Tryz_mix (by kernel_rfl) rfl (by kernel_rfl) (amF_cons (mono_V _) (amF_cons (mono_V _) (amF_cons (mono_V _) (amF_cons (mono_V _) (amF_cons (mono_V _) (amF_cons (mono_V _) (amF_cons (mono_V _) amF_nil))))))) hst ?_ (fun f w_ H20 hS20 hE20 hT20 hst=>?_)
 refine opsS_cons (fun f w_ _ _ s _ _ hst=>L_lda (cs:=[v0_0,I c.bound]) rfl Tryz.isAgg46 Tryz.sizeOf46 ((s 1 rfl).trans rfl) (At.sub0 (Blk.at (Star.blkAt 0 hst rfl)) 0 2) rfl (nO rfl rfl hst)) (opsS_cons ?_ ?_)
 intro f w_ H20 X20 hS20 hE20 hP20 hst
 obtain ⟨H55b,l56,s57,z58,k59⟩:=hst.borrow
 refine L_call rfl Tryz.call52 (ops1 (hP20 0 3 rfl rfl)) (i_ConstraintValid_c (c:=c) s57 (RP.mono _ h0_0 (Le.trans hE20 l56)) hx10) ?_
 rintro _ w60 ⟨rfl,hst⟩
 have hst:=k59 hst c0
 exact L_nil ⟨rfl,_,_,rfl,Le.refl _,fun _ _=>rfl,hst⟩
 refine opsS_cons (fun f w_ _ _ _ _ p hst=>mF (p 1 4 rfl rfl) rfl (nO rfl rfl hst)) (oP (fun _ _ p=>gN (p 2 5 rfl rfl) hc24 rfl) (fun _=>rfl) (oP (fun _ _ p=>gN (p 2 5 rfl rfl) hc24 rfl) (fun _=>rfl) (oP (fun _ _ p=>gN (p 2 5 rfl rfl) hc24 rfl) (fun _=>rfl) (oP (fun _ _ p=>gN (p 2 5 rfl rfl) hc24 rfl) (fun _=>rfl) (opsS_nil)))))
 refine ps (g_no rfl (Eq.trans (hT20 2 5 rfl rfl) (congrArg Value.bool hc24)) rfl rfl) (L_pick (v:=Bo b19) rfl (Eq.trans (hT20 2 5 rfl rfl) (congrArg Value.bool hc24)) (congrArg Value.bool (so hb19)) (aB rfl (nn (rj hR23 ⟨H20,hE20,rfl,(Star.keepN 0 hst)⟩))))
 intro f w_ hR
 obtain ⟨H21,l22,sf2,hst⟩:=rk hR23 hR
 refine W_ret (retG1 (v1:=Bo b19) Tryz.results50 sf2 ?_)
 obtain rfl:=so hF
 exact ⟨rfl,(Star.down hst l22 c0)⟩
theorem i_refuting_c {fu : Nat} {list : List Con} {steps : List Step} {v0 : Value} {v1 : Value} {H : FH} {w : World} {R : List Ass} (hst : Star H w R) (h0 : (rS 46 (rCon 85)).rel H [v0] list) (h1 : (rS 56 (rStep 85)).rel H [v1] steps) {r : (Option Db) × Int} (hF : i_refuting fu list steps = some r) :
 C Tryz.prog 26 #[v0,v1] w fun v w'=>∃ H' : FH,Le H H'∧∃ (u1 : Value),v = .tuple #[u1,I r.2]∧Star H' w' (optA u1 r.1 (fun (d_ : Db) (g_ : Nat) (u_ : Value × Value)=>[box g_ 89 #[u_.1,u_.2],oF 46 (rCon 85) u_.1 d_.list,oF 4 RP.bool u_.2 d_.gone]) :: R):=by
 unfold i_refuting at hF
 refine C_enter Tryz.func26 rfl Tryz.ntmps26 rfl (sq (aV (.pointer none) rfl (aI rfl (nq ?_))))
 obtain ⟨x1,hx1,hF⟩:=bind_some hF
 refine W_region (mV v0 rfl (mV v1 rfl (L_call rfl Tryz.call49 (ops2 rfl rfl) (i_run_c (list:=list) (steps:=steps) hst h0 h1 hx1) ?_)))
 rintro _ w4 ⟨H4,l4,r4_0,rfl,hst⟩
 refine mV (.tuple #[r4_0,I x1.2]) rfl (L_ex (v:=r4_0) rfl rfl rfl (L_ex (v:=I x1.2) rfl rfl rfl (aV r4_0 rfl (aI rfl (nq (sq (mI rfl (L_geq rfl rfl rfl (nn (W_cond (b:=decide (x1.2 ≥ 0)) rfl (fun hc6=>?_) (fun hc6=>?_)))))))))))
 have hF:=(ite_t hc6).symm.trans hF
 refine sq (aV (.pointer none) rfl (aI rfl (nn (W_ret (retG2 (v1:=.pointer none) (v2:=I (-1)) Tryz.results26 rfl rfl ?_)))))
 obtain rfl:=so hF
 have hst:=Star.optNone (fun (d_ : Db) (g_ : Nat) (u_ : Value × Value)=>[box g_ 89 #[u_.1,u_.2],oF 46 (rCon 85) u_.1 d_.list,oF 4 RP.bool u_.2 d_.gone]) hst
 have hst:=Star.drop 1 hst rfl
 exact ⟨H4,l4,.pointer none,rfl,hst⟩
 have hF:=(ite_f hc6).symm.trans hF
 refine W_skip (W_seq (W_seq ?_))
 obtain ⟨x9,hx9,hF⟩:=bind_some hF
 refine W_region (mV r4_0 rfl ?_)
 obtain ⟨go12,⟨uo12_0,uo12_1⟩,hvo12,hst⟩:=Star.unopt hx9 hst
 have hst : Star H4 w4 (box go12 89 #[uo12_0,uo12_1] :: oF 46 (rCon 85) uo12_0 x9.list :: oF 4 RP.bool uo12_1 x9.gone :: R):=hst
 refine L_nc rfl hvo12 (fA 0 fa_89_0 rfl rfl (ldB 0 hst Tryz.isAgg23 rfl rfl rfl (L_len rfl Tryz.underlying23 rfl (Star.len 1 hst rfl) (mI rfl (nn ?_)))))
 have hlen16 : List.length x9.list≤9223372036854775807:=len_le (Star.len 1 hst rfl)
 obtain ⟨j16,hL16,hF⟩:=bind_some hF
 obtain ⟨R16,hR16⟩:=exR fun f w_=>j16 = .nx ()∧f 6 = Pt go12∧Star H4 w_ (oF 46 (rCon 85) uo12_0 x9.list :: oF 4 RP.bool uo12_1 x9.gone :: box go12 89 #[uo12_0,uo12_1] :: R)
 refine W_join R16 ?_ ?_
 refine W_block ?_
 obtain ⟨I16,hI16⟩:=exI fun n f w_=>∃ i_15 : Nat,∃ suf16 : List Con,n = suf16.length∧List.drop i_15 x9.list = suf16∧i_15 + suf16.length = x9.list.length∧rangeL (i_refuting_b1 x9) suf16 i_15 () = some j16∧f 6 = Pt go12∧f 21 = uo12_0∧f 22 = I (x9.list.length : Int)∧f 23 = I i_15∧Star H4 w_ (oF 46 (rCon 85) uo12_0 x9.list :: oF 4 RP.bool uo12_1 x9.gone :: box go12 89 #[uo12_0,uo12_1] :: R)
 have hst:=hst.gets [2,2] rfl
 refine W_loop I16 (n:=x9.list.length) ?_ ?_
 exact ij hI16 ⟨0,x9.list,rfl,rfl,Nat.zero_add _,hL16,hvo12,rfl,rfl,rfl,hst⟩
 intro n16 f w_ hI
 obtain ⟨i_15,suf16,rfl,hd16,hl16,hL16,sf6,sf21,sf22,sf23,hst⟩:=ik hI16 hI
 refine sq (L_lss rfl sf23 sf22 (nq (W_cond (b:=decide ((i_15 : Int) < (x9.list.length : Int))) rfl (fun hc17=>?_) (fun hc17=>?_))))
 have hlt16:=of_decide_eq_true hc17
 rcases suf16 with _ | ⟨x_16,rest16⟩
 exact absurd hlt16 (by simp at hl16; omega)
 obtain ⟨o16,hB16,hL16⟩:=range_cons hL16
 rw [i_refuting_b1] at hB16
 have hix16:=drop_idx hd16
 refine W_skip (W_seq (W_block (sq (mF sf23 rfl ?_))))
 obtain ⟨g25,cap_g25,hv26,_,_⟩:=Star.row 0 hst rfl hix16
 refine L_ixO (R:=(OR.frz (rCon 85))) (tb:=0) 0 rfl Tryz.underlying23 Tryz.sizeOf46 sf21 hv26 (by first | rfl | simp) sf23 hix16 ?_
 obtain ⟨cs27,hr27,hat27⟩:=Star.eltF 0 hst rfl hv26 hix16
 obtain ⟨u28_0,rfl,hu28_0⟩:=rCon_iff.1 hr27
 refine L_lda (cs:=[u28_0,I x_16.bound]) rfl Tryz.isAgg46 Tryz.sizeOf46 rfl (At.sub hat27 0 2) rfl (L_al (cs:=#[S0,I 0]) rfl Tryz.zeroValue46 rfl hst (fun g29 w30 hst=>aI rfl (L_staB (vs:=#[u28_0,I x_16.bound]) (cs2:=#[u28_0,I x_16.bound]) 0 rfl Tryz.sizeOf46 rfl rfl rfl (ones_cons (one_len (slice_len hu28_0)) (ones_cons rfl ones_nil)) hst rfl (by show 0 + 2≤2; decide) rfl (fun w31 hst=>nq ?_))))
 obtain ⟨x32,hx32,hB16⟩:=bind_some hB16
 obtain ⟨b44,hb44,hB16⟩:=bind_some hB16
 obtain ⟨R45,hR45⟩:=exR fun f w_=>f 6 = Pt go12∧f 8 = I i_15∧f 21 = uo12_0∧f 22 = I (x9.list.length : Int)∧f 23 = I i_15∧f 39 = Bo b44∧Star H4 w_ (oF 46 (rCon 85) uo12_0 x9.list :: oF 4 RP.bool uo12_1 x9.gone :: box go12 89 #[uo12_0,uo12_1] :: R)
 refine W_join R45 ?_ ?_
 refine W_region (mF sf6 rfl (L_nc rfl rfl (fA 1 fa_89_1 rfl rfl (ldB 3 hst Tryz.isAgg26 rfl rfl rfl (mI rfl ?_)))))
 obtain ⟨g46,cap_g46,hv47,_,_⟩:=Star.row 2 hst rfl hx32
 refine L_ixO (R:=(OR.frz RP.bool)) (tb:=0) 0 rfl Tryz.underlying26 Tryz.sizeOf4 rfl hv47 (by first | rfl | simp) rfl hx32 ?_
 obtain ⟨cs48,hr48,hat48⟩:=Star.eltF 2 hst rfl hv47 hx32
 obtain rfl : _ = [_]:=hr48
 refine L_ld rfl Tryz.isAgg4 rfl (At.cell hat48 (j:=0) rfl) (L_not_ rfl rfl (mB rfl (L_split (d:=36) (b:=(!x32)) rfl (fun hc50=>?_) (fun hc50=>?_))))
 rw [ite_t hc50] at hb44
 obtain ⟨x42,hx42,hb44⟩:=bind_some hb44
 refine L_lda (cs:=[u28_0,I x_16.bound]) rfl Tryz.isAgg46 Tryz.sizeOf46 rfl (At.sub0 (Blk.at (Star.blkAt 0 hst rfl)) 0 2) rfl ?_
 obtain ⟨H51b,l52,s53,z54,k55⟩:=hst.borrow
 refine L_call rfl Tryz.call50 (ops1 rfl) (i_ConstraintFalse_c (c:=x_16) s53 (RP.mono _ hu28_0 l52) hx42) ?_
 rintro _ w56 ⟨rfl,hst⟩
 have hst:=k55 hst c0
 refine L_pick (v:=Bo b44) rfl rfl (congrArg Value.bool (so hb44)) (nn ?_)
 have hst:=hst.gets [3,3,3] rfl
 have hst:=Star.drop 3 hst rfl
 exact rj hR45 ⟨sf6,rfl,sf21,sf22,sf23,rfl,hst⟩
 rw [ite_f hc50] at hb44
 refine ps rfl (ps rfl (L_pick (v:=Bo b44) rfl rfl (congrArg Value.bool (so hb44)) (nn ?_)))
 have hst:=hst.gets [3,3,3] rfl
 have hst:=Star.drop 3 hst rfl
 exact rj hR45 ⟨sf6,rfl,sf21,sf22,sf23,rfl,hst⟩
 intro f w_ hR
 obtain ⟨sf6,sf8,sf21,sf22,sf23,sf39,hst⟩:=rk hR45 hR
 refine W_cond (b:=b44) sf39 (fun hc57=>?_) (fun hc57=>?_)
 have hB16:=(ite_t hc57).symm.trans hB16
 refine sq (mF sf6 rfl (mF sf8 rfl (aV (Pt go12) rfl (aI rfl (nn (W_ret (retG2 (v1:=Pt go12) (v2:=I i_15) Tryz.results26 rfl rfl ?_)))))))
 obtain rfl:=so hB16
 obtain rfl:=so hL16
 obtain rfl:=so hF
 have hst:=hst.gets [1,1,2] rfl
 have hst:=Star.optSome (fun (d_ : Db) (g_ : Nat) (u_ : Value × Value)=>[box g_ 89 #[u_.1,u_.2],oF 46 (rCon 85) u_.1 d_.list,oF 4 RP.bool u_.2 d_.gone]) x9 go12 (uo12_0,uo12_1) hst
 exact ⟨H4,l4,Pt go12,rfl,hst⟩
 have hB16:=(ite_f hc57).symm.trans hB16
 refine W_skip (W_region (L_add rfl sf23 rfl (mI rfl (nn ?_))))
 obtain rfl:=so hB16
 show ∃ m,m < _∧I16 m _ _
 refine ⟨rest16.length,by simp,?_⟩
 exact ij hI16 ⟨i_15 + 1,rest16,rfl,drop_next hd16,by simp at hl16; omega,hL16,sf6,sf21,sf22,(Eq.trans rfl (congrArg (Value.int .i64) (i64_succ (n:=x9.list.length) (by simp at hl16; omega) hlen16))),hst⟩
 rcases suf16 with _ | ⟨_,_⟩
 obtain rfl:=range_nil hL16
 refine W_exit (rj hR16 ⟨rfl,sf6,hst⟩)
 exact absurd (of_decide_eq_false hc17) (by simp at hl16; omega)
 intro f w_ hR
 obtain ⟨rfl,sf6,hst⟩:=rk hR16 hR
 refine sq (mF sf6 rfl (aV (Pt go12) rfl (aI rfl (nn (W_ret (retG2 (v1:=Pt go12) (v2:=I (-1)) Tryz.results26 rfl rfl ?_))))))
 obtain rfl:=so hF
 have hst:=hst.gets [1,1,2] rfl
 have hst:=Star.optSome (fun (d_ : Db) (g_ : Nat) (u_ : Value × Value)=>[box g_ 89 #[u_.1,u_.2],oF 46 (rCon 85) u_.1 d_.list,oF 4 RP.bool u_.2 d_.gone]) x9 go12 (uo12_0,uo12_1) hst
 exact ⟨H4,l4,Pt go12,rfl,hst⟩
theorem i_CheckRefutation_c {fu : Nat} {list : List Con} {steps : List Step} {v0 : Value} {v1 : Value} {H : FH} {w : World} (hst : Star H w []) (h0 : (rS 46 (rCon 85)).rel H [v0] list) (h1 : (rS 56 (rStep 85)).rel H [v1] steps) {r : Bool} (hF : i_CheckRefutation fu list steps = some r) :
 C Tryz.prog 10 #[v0,v1] w fun v w'=>v = Bo r∧Star H w' []:=by
 unfold i_CheckRefutation at hF
 refine C_enter Tryz.func10 rfl Tryz.ntmps10 rfl (sq (aB rfl (nq ?_)))
 obtain ⟨x1,hx1,hF⟩:=bind_some hF
 refine W_region (mV v0 rfl (mV v1 rfl (L_call rfl Tryz.call26 (ops2 rfl rfl) (i_refuting_c (list:=list) (steps:=steps) hst h0 h1 hx1) ?_)))
 rintro _ w4 ⟨H4,l4,r4_0,rfl,hst⟩
 refine mV (.tuple #[r4_0,I x1.2]) rfl (L_ex (v:=r4_0) rfl rfl rfl (L_ex (v:=I x1.2) rfl rfl rfl (aV r4_0 rfl (aI rfl (ns (mI rfl (L_geq rfl rfl rfl (aB rfl (nn (W_ret (retG1 (v1:=Bo (decide (x1.2 ≥ 0))) Tryz.results10 rfl ?_)))))))))))
 obtain rfl:=so hF
 exact ⟨rfl,(Star.down (Star.keepN 0 hst) l4 c0)⟩
theorem l_FnSolveProblem_c {fu : Nat} {code : List UInt8} {v0 : Value} {H : FH} {w : World} (hst : Star H w []) (h0 : (rS 5 RP.u8).rel H [v0] code) {r : Bool} (hF : l_FnSolveProblem fu code = some r) :
 C Tryz.prog 3 #[v0] w fun v w'=>v = Bo r∧Star H w' []:=by
 unfold l_FnSolveProblem at hF
 refine C_enter Tryz.func3 rfl Tryz.ntmps3 rfl (sq (aB rfl (nq (sq (mV v0 rfl (L_len rfl Tryz.underlying22 rfl (slice_len h0) (L_gtr rfl rfl rfl (nn (W_cond (b:=decide ((code.length : Int) > 1048576)) rfl (fun hc1=>?_) (fun hc1=>?_))))))))))
 have hF:=(ite_t hc1).symm.trans hF
 refine sq (aB rfl (nn (W_ret (retG1 (v1:=Bo true) Tryz.results3 rfl ?_))))
 obtain rfl:=so hF
 exact ⟨rfl,hst⟩
 have hF:=(ite_f hc1).symm.trans hF
 refine W_skip (W_seq ?_)
 obtain ⟨x2,hx2,hF⟩:=bind_some hF
 refine W_region (mV v0 rfl (L_call rfl Tryz.call4 (ops1 rfl) (s_DrawSolveProblem_c (code:=code) hst h0 hx2) ?_))
 rintro _ w5 ⟨H5,l5,r5_0,rfl,hst⟩
 refine mV (.tuple #[r5_0,I x2.2]) rfl (L_ex (v:=r5_0) rfl rfl rfl (L_ex (v:=I x2.2) rfl rfl rfl (aV r5_0 rfl (aI rfl (nq ?_)))))
 obtain ⟨x13,hx13,hF⟩:=bind_some hF
 refine W_region (mV r5_0 rfl (mI rfl ?_))
 obtain ⟨H17b,l18,s19,z20,k21⟩:=hst.borrow
 have hb22 : (rS 46 (rCon 85)).rel H17b [r5_0] x2.1:=fz_own 0 z20 rfl
 refine L_call rfl Tryz.call5 (ops2 rfl rfl) (i_SolveProblem_c (list:=x2.1) (fuel:=x2.2) s19 hb22 hx13) ?_
 rintro _ w23 ⟨r23_0,r23_1,rfl,hst⟩
 have hst:=k21 hst (co closed_bool (co closed_oStep c0))
 refine mV (.tuple #[I x13.1,r23_0,r23_1]) rfl (L_ex (v:=I x13.1) rfl rfl rfl (L_ex (v:=r23_0) rfl rfl rfl (L_ex (v:=r23_1) rfl rfl rfl (aI rfl (aV r23_0 rfl (aV r23_1 rfl (nq ?_)))))))
 obtain ⟨x32,hx32,hF⟩:=bind_some hF
 refine W_region (mV r5_0 rfl (mI rfl ?_))
 obtain ⟨H36b,l37,s38,z39,k40⟩:=hst.borrow
 have hb41 : (rS 46 (rCon 85)).rel H36b [r5_0] x2.1:=fz_own 2 z39 rfl
 refine L_call rfl Tryz.call6 (ops2 rfl rfl) (s_SolveProblem_c (list:=x2.1) (fuel:=x2.2) s38 hb41 hx32) ?_
 rintro _ w42 ⟨r42_0,r42_1,rfl,hst⟩
 have hst:=k40 hst (co closed_bool (co closed_oStep c0))
 refine mV (.tuple #[I x32.1,r42_0,r42_1]) rfl (L_ex (v:=I x32.1) rfl rfl rfl (L_ex (v:=r42_0) rfl rfl rfl (L_ex (v:=r42_1) rfl rfl rfl (aI rfl (aV r42_0 rfl (aV r42_1 rfl (nq (W_seq ?_))))))))
 obtain ⟨b54,hb54,hF⟩:=bind_some hF
 obtain ⟨b64,hb64,hF⟩:=bind_some hF
 obtain ⟨R65,hR65⟩:=exR fun f w_=>f 3 = r5_0∧f 5 = I x13.1∧f 6 = r23_0∧f 7 = r23_1∧f 47 = Bo b64∧Star H5 w_ ([oF 46 (rCon 85) r5_0 x2.1,oF 4 RP.bool r23_0 x13.2.1,oS 56 (oStep 85) r23_1 x13.2.2])
 refine W_join R65 ?_ ?_
 refine W_region (mI rfl (mI rfl (L_neq rfl rfl rfl (mB rfl (L_split (d:=36) (b:=(x13.1 != x32.1)) rfl (fun hc66=>?_) (fun hc66=>?_))))))
 rw [ite_t hc66] at hb54
 refine ps rfl (ps rfl (ps rfl (ps rfl (L_pick (v:=Bo b54) rfl rfl (congrArg Value.bool (so hb54)) (mB rfl (L_split (d:=42) (b:=b54) rfl (fun hc67=>?_) (fun hc67=>?_)))))))
 rw [ite_t hc67] at hb64
 refine ps rfl (ps rfl (ps rfl (ps rfl (L_pick (v:=Bo b64) rfl rfl (congrArg Value.bool (so hb64)) (nn ?_)))))
 have hst:=hst.gets [3,3,4] rfl
 exact rj hR65 ⟨rfl,rfl,rfl,rfl,rfl,(Star.keepN 3 hst)⟩
 rw [ite_f hc67] at hb64
 obtain ⟨x62,hx62,hb64⟩:=bind_some hb64
 refine mV r23_1 rfl (mV r42_1 rfl ?_)
 obtain ⟨H68b,l69,s70,z71,k72⟩:=hst.borrow
 have hb73 : (rS 56 (rStep 85)).rel H68b [r23_1] x13.2.2:=fz_own 3 z71 rfl
 have hb74 : (rS 56 (rStep 85)).rel H68b [r42_1] x32.2.2:=fz_own 1 z71 rfl
 refine L_call rfl Tryz.call8 (ops2 rfl rfl) (i_ProofSame_c (a:=x13.2.2) (b:=x32.2.2) s70 hb73 hb74 hx62) ?_
 rintro _ w75 ⟨rfl,hst⟩
 have hst:=k72 hst c0
 refine L_not_ rfl rfl (L_pick (v:=Bo b64) rfl rfl (congrArg Value.bool (so hb64)) (nn ?_))
 have hst:=hst.gets [3,3,4] rfl
 exact rj hR65 ⟨rfl,rfl,rfl,rfl,rfl,(Star.keepN 3 hst)⟩
 rw [ite_f hc66] at hb54
 obtain ⟨x52,hx52,hb54⟩:=bind_some hb54
 refine mV r23_0 rfl (mV r42_0 rfl ?_)
 obtain ⟨H76b,l77,s78,z79,k80⟩:=hst.borrow
 have hb81 : (rS 4 RP.bool).rel H76b [r23_0] x13.2.1:=fz_own 2 z79 rfl
 have hb82 : (rS 4 RP.bool).rel H76b [r42_0] x32.2.1:=fz_own 0 z79 rfl
 refine L_call rfl Tryz.call7 (ops2 rfl rfl) (l_cpBools_c (a:=x13.2.1) (b:=x32.2.1) s78 hb81 hb82 hx52) ?_
 rintro _ w83 ⟨rfl,hst⟩
 have hst:=k80 hst c0
 refine L_not_ rfl rfl (L_pick (v:=Bo b54) rfl rfl (congrArg Value.bool (so hb54)) (mB rfl (L_split (d:=42) (b:=b54) rfl (fun hc84=>?_) (fun hc84=>?_))))
 rw [ite_t hc84] at hb64
 refine ps rfl (ps rfl (ps rfl (ps rfl (L_pick (v:=Bo b64) rfl rfl (congrArg Value.bool (so hb64)) (nn ?_)))))
 have hst:=hst.gets [3,3,4] rfl
 exact rj hR65 ⟨rfl,rfl,rfl,rfl,rfl,(Star.keepN 3 hst)⟩
 rw [ite_f hc84] at hb64
 obtain ⟨x62,hx62,hb64⟩:=bind_some hb64
 refine mV r23_1 rfl (mV r42_1 rfl ?_)
 obtain ⟨H85b,l86,s87,z88,k89⟩:=hst.borrow
 have hb90 : (rS 56 (rStep 85)).rel H85b [r23_1] x13.2.2:=fz_own 3 z88 rfl
 have hb91 : (rS 56 (rStep 85)).rel H85b [r42_1] x32.2.2:=fz_own 1 z88 rfl
 refine L_call rfl Tryz.call8 (ops2 rfl rfl) (i_ProofSame_c (a:=x13.2.2) (b:=x32.2.2) s87 hb90 hb91 hx62) ?_
 rintro _ w92 ⟨rfl,hst⟩
 have hst:=k89 hst c0
 refine L_not_ rfl rfl (L_pick (v:=Bo b64) rfl rfl (congrArg Value.bool (so hb64)) (nn ?_))
 have hst:=hst.gets [3,3,4] rfl
 exact rj hR65 ⟨rfl,rfl,rfl,rfl,rfl,(Star.keepN 3 hst)⟩
 intro f w_ hR
 obtain ⟨sf3,sf5,sf6,sf7,sf47,hst⟩:=rk hR65 hR
 refine W_cond (b:=b64) sf47 (fun hc93=>?_) (fun hc93=>?_)
 have hF:=(ite_t hc93).symm.trans hF
 refine sq (aB rfl (nn (W_ret (retG1 (v1:=Bo false) Tryz.results3 rfl ?_))))
 obtain rfl:=so hF
 exact ⟨rfl,(Star.down (Star.keepN 0 hst) l5 c0)⟩
 have hF:=(ite_f hc93).symm.trans hF
 refine W_skip (W_seq (sq (mF sf5 rfl (nn (W_block (sq (L_eql rfl rfl rfl (aB rfl (nn (W_cond (b:=(x13.1 == 1)) rfl (fun hc94=>?_) (fun hc94=>?_)))))))))))
 have hF:=(ite_t hc94).symm.trans hF
 refine W_seq ?_
 obtain ⟨x102,hx102,hF⟩:=bind_some hF
 obtain ⟨R104,hR104⟩:=exR fun f w_=>f 2 = Bo (x102 && ((x13.2.2.length : Int) == 0))∧Star H5 w_ ([])
 refine W_join R104 ?_ ?_
 refine W_region (mF sf3 rfl (mF sf6 rfl ?_))
 obtain ⟨H105b,l106,s107,z108,k109⟩:=hst.borrow
 have hb110 : (rS 46 (rCon 85)).rel H105b [r5_0] x2.1:=fz_own 0 z108 rfl
 have hb111 : (rS 4 RP.bool).rel H105b [r23_0] x13.2.1:=fz_own 1 z108 rfl
 refine L_call rfl Tryz.call9 (ops2 rfl rfl) (i_SatisfiesAll_c (list:=x2.1) (values:=x13.2.1) s107 hb110 hb111 hx102) ?_
 rintro _ w112 ⟨rfl,hst⟩
 have hst:=k109 hst c0
 refine mB rfl (L_split (d:=54) (b:=x102) rfl (fun hc113=>?_) (fun hc113=>?_))
 refine mF sf7 rfl (L_len rfl Tryz.underlying27 rfl (Star.len 2 hst rfl) (L_eql rfl rfl rfl (L_pick (v:=Bo (x102 && ((x13.2.2.length : Int) == 0))) rfl rfl (and_t hc113 rfl) (aB rfl (nn (rj hR104 ⟨rfl,(Star.keepN 0 hst)⟩))))))
 refine ps rfl (ps rfl (ps rfl (L_pick (v:=Bo (x102 && ((x13.2.2.length : Int) == 0))) rfl rfl (and_f hc113) (aB rfl (nn (rj hR104 ⟨rfl,(Star.keepN 0 hst)⟩))))))
 intro f w_ hR
 obtain ⟨sf2,hst⟩:=rk hR104 hR
 refine W_ret (retG1 (v1:=Bo (x102 && ((x13.2.2.length : Int) == 0))) Tryz.results3 sf2 ?_)
 obtain rfl:=so hF
 exact ⟨rfl,(Star.down hst l5 c0)⟩
 have hF:=(ite_f hc94).symm.trans hF
 refine sq (L_eql rfl rfl rfl (aB rfl (nn (W_cond (b:=(x13.1 == 2)) rfl (fun hc114=>?_) (fun hc114=>?_)))))
 have hF:=(ite_t hc114).symm.trans hF
 refine W_seq ?_
 obtain ⟨x122,hx122,hF⟩:=bind_some hF
 obtain ⟨R124,hR124⟩:=exR fun f w_=>f 2 = Bo (x122 && ((x13.2.1.length : Int) == 0))∧Star H5 w_ ([])
 refine W_join R124 ?_ ?_
 refine W_region (mF sf3 rfl (mF sf7 rfl ?_))
 obtain ⟨H125b,l126,s127,z128,k129⟩:=hst.borrow
 have hb130 : (rS 46 (rCon 85)).rel H125b [r5_0] x2.1:=fz_own 0 z128 rfl
 have hb131 : (rS 56 (rStep 85)).rel H125b [r23_1] x13.2.2:=fz_own 2 z128 rfl
 refine L_call rfl Tryz.call10 (ops2 rfl rfl) (i_CheckRefutation_c (list:=x2.1) (steps:=x13.2.2) s127 hb130 hb131 hx122) ?_
 rintro _ w132 ⟨rfl,hst⟩
 have hst:=k129 hst c0
 refine mB rfl (L_split (d:=64) (b:=x122) rfl (fun hc133=>?_) (fun hc133=>?_))
 refine mF sf6 rfl (L_len rfl Tryz.underlying26 rfl (Star.len 1 hst rfl) (L_eql rfl rfl rfl (L_pick (v:=Bo (x122 && ((x13.2.1.length : Int) == 0))) rfl rfl (and_t hc133 rfl) (aB rfl (nn (rj hR124 ⟨rfl,(Star.keepN 0 hst)⟩))))))
 refine ps rfl (ps rfl (ps rfl (L_pick (v:=Bo (x122 && ((x13.2.1.length : Int) == 0))) rfl rfl (and_f hc133) (aB rfl (nn (rj hR124 ⟨rfl,(Star.keepN 0 hst)⟩))))))
 intro f w_ hR
 obtain ⟨sf2,hst⟩:=rk hR124 hR
 refine W_ret (retG1 (v1:=Bo (x122 && ((x13.2.1.length : Int) == 0))) Tryz.results3 sf2 ?_)
 obtain rfl:=so hF
 exact ⟨rfl,(Star.down hst l5 c0)⟩
 have hF:=(ite_f hc114).symm.trans hF
 refine W_skip (W_seq ?_)
 obtain ⟨R134,hR134⟩:=exR fun f w_=>f 2 = Bo (((x13.2.1.length : Int) == 0) && ((x13.2.2.length : Int) == 0))∧Star H5 w_ ([])
 refine W_join R134 ?_ ?_
 refine W_region (mF sf6 rfl (L_len rfl Tryz.underlying26 rfl (Star.len 1 hst rfl) (L_eql rfl rfl rfl (mB rfl (L_split (d:=72) (b:=((x13.2.1.length : Int) == 0)) rfl (fun hc135=>?_) (fun hc135=>?_))))))
 refine mF sf7 rfl (L_len rfl Tryz.underlying27 rfl (Star.len 2 hst rfl) (L_eql rfl rfl rfl (L_pick (v:=Bo (((x13.2.1.length : Int) == 0) && ((x13.2.2.length : Int) == 0))) rfl rfl (and_t hc135 rfl) (aB rfl (nn (rj hR134 ⟨rfl,(Star.keepN 0 hst)⟩))))))
 refine ps rfl (ps rfl (ps rfl (L_pick (v:=Bo (((x13.2.1.length : Int) == 0) && ((x13.2.2.length : Int) == 0))) rfl rfl (and_f hc135) (aB rfl (nn (rj hR134 ⟨rfl,(Star.keepN 0 hst)⟩))))))
 intro f w_ hR
 obtain ⟨sf2,hst⟩:=rk hR134 hR
 refine W_ret (retG1 (v1:=Bo (((x13.2.1.length : Int) == 0) && ((x13.2.2.length : Int) == 0))) Tryz.results3 sf2 ?_)
 obtain rfl:=so hF
 exact ⟨rfl,(Star.down hst l5 c0)⟩
end Go.Proofs.YteeilbddjlpiaaaGreat

/- Part of a proof by program: W3. -/
import Derived.Test.YtiodhgbfceahfaaD1
import Derived.Test.YtiodhgbfceahfaaW2
namespace Go.Proofs.Ytiodhgbfceahfaa
open Go Go.E Go.L Go.RowKit
set_option linter.unusedVariables false
set_option linter.unusedSimpArgs false
set_option maxRecDepth 100000
theorem i_normal_c {terms : List Term} {bound : Int} {v0 : Value} {H : FH} {w : World} {R : List Ass} (hst : Star H w R) (h0 : (rS 117 rTerm).rel H [v0] terms) {r : Con × Bool} (hF : i_normal terms bound = some r) :
 C Try.prog 147 #[v0,I bound] w fun v w'=>∃ H' : FH,Le H H'∧∃ (u1 : Value),v = .tuple #[.agg #[u1,I r.1.bound],Bo r.2]∧(rS 117 rTerm).rel H' [u1] r.1.terms∧Star H' w' (R):=by
 unfold i_normal at hF
 refine C_enter Try.func147 rfl Try.ntmps147 rfl (sq (L_al (cs:=#[S0,I 0]) rfl Try.zeroValue41 rfl hst (fun g3 w4 hst=>aB rfl (ns (L_al (cs:=arrC (List.replicate 13 (0 : Int))) rfl Try.zeroValue153 rfl hst (fun g11 w12 hst=>?_))))))
 have hst:=Star.toArr (List.replicate 13 (0 : Int)) 13 rfl rfl hst
 refine nq (sq (mV v0 rfl (L_len rfl Try.underlying39 rfl (slice_len h0) (mI rfl (nn ?_)))))
 have hlen18 : List.length terms≤9223372036854775807:=len_le (slice_len h0)
 obtain ⟨j18,hL18,hF⟩:=bind_some hF
 obtain ⟨R18,hR18⟩:=exR fun f w_=>∃ bound_14 : Int,∃ ag11_15 : List Int,∃ H16 : FH,j18 = .nx (bound_14,ag11_15)∧Le H H16∧f 1 = I bound_14∧f 4 = Pt g3∧f 6 = Pt g11∧Star H16 w_ (arr g11 153 13 ag11_15 :: box g3 41 #[S0,I 0] :: R)
 refine W_join R18 ?_ ?_
 refine W_block ?_
 obtain ⟨I18,hI18⟩:=exI fun n f w_=>∃ i_13 : Nat,∃ suf18 : List Term,∃ bound_14 : Int,∃ ag11_15 : List Int,∃ H16 : FH,n = suf18.length∧List.drop i_13 terms = suf18∧i_13 + suf18.length = terms.length∧rangeL i_normal_b1 suf18 i_13 (bound_14,ag11_15) = some j18∧Le H H16∧f 1 = I bound_14∧f 4 = Pt g3∧f 6 = Pt g11∧f 12 = v0∧f 13 = I (terms.length : Int)∧f 14 = I i_13∧Star H16 w_ (arr g11 153 13 ag11_15 :: box g3 41 #[S0,I 0] :: R)
 refine W_loop I18 (n:=terms.length) ?_ ?_
 exact ij hI18 ⟨0,terms,bound,(List.replicate 13 (0 : Int)),H,rfl,rfl,Nat.zero_add _,hL18,(Le.refl _),rfl,rfl,rfl,rfl,rfl,rfl,hst⟩
 intro n18 f w_ hI
 obtain ⟨i_13,suf18,bound_14,ag11_15,H16,rfl,hd18,hl18,hL18,l17,sf1,sf4,sf6,sf12,sf13,sf14,hst⟩:=ik hI18 hI
 refine sq (L_lss rfl sf14 sf13 (nq (W_cond (b:=decide ((i_13 : Int) < (terms.length : Int))) rfl (fun hc19=>?_) (fun hc19=>?_))))
 have hlt18:=of_decide_eq_true hc19
 rcases suf18 with _ | ⟨x_18,rest18⟩
 exact absurd hlt18 (by simp at hl18; omega)
 obtain ⟨o18,hB18,hL18⟩:=range_cons hL18
 rw [i_normal_b1] at hB18
 have hix18:=drop_idx hd18
 refine W_skip (W_seq (W_block (sq (L_ix (r:=rTerm) rfl Try.underlying39 Try.sizeOf117 sf12 (RP.mono _ h0 l17) sf14 hix18 (fun g27 o28 cs_g27 hrk_hat29 hat29=>?_)))))
 obtain rfl:=rTerm_iff.1 hrk_hat29
 refine L_lda (cs:=[I x_18.coef,I x_18.lit]) rfl Try.isAgg117 Try.sizeOf117 rfl (At.sub (AtH.at hat29 hst.sub) 0 2) rfl (L_al (cs:=#[I 0,I 0]) rfl Try.zeroValue117 rfl hst (fun g31 w32 hst=>L_staB (vs:=#[I x_18.coef,I x_18.lit]) (cs2:=#[I x_18.coef,I x_18.lit]) 0 rfl Try.sizeOf117 rfl rfl rfl (ones_cons rfl (ones_cons rfl ones_nil)) hst rfl (by show 0 + 2≤2; decide) rfl (fun w33 hst=>ns (fA 1 fa_117_1 rfl rfl (ldB 0 hst Try.isAgg3 rfl rfl rfl (L_lss rfl rfl rfl (nn ?_)))))))
 obtain ⟨⟨bound_34,ag11_35⟩,hA38,hB18⟩:=bind_some hB18
 obtain ⟨R38,hR38⟩:=exR fun f w_=>∃ H36 : FH,Le H16 H36∧f 1 = I bound_34∧f 4 = Pt g3∧f 6 = Pt g11∧f 12 = v0∧f 13 = I (terms.length : Int)∧f 14 = I i_13∧Star H36 w_ (arr g11 153 13 ag11_35 :: box g3 41 #[S0,I 0] :: R)
 refine W_join R38 ?_ ?_
 refine W_cond (b:=decide (x_18.lit < 0)) rfl (fun hc39=>?_) (fun hc39=>?_)
 have hA38:=(ite_t hc39).symm.trans hA38
 refine sq (mF sf1 rfl (fA 0 fa_117_0 rfl rfl (ldB 0 hst Try.isAgg3 rfl rfl rfl (L_sub rfl rfl rfl (aI rfl (nn ?_))))))
 obtain ⟨x40,hx40,hA38⟩:=bind_some hA38
 refine W_drawS 7 [isV (Pq g31 1),isV (I x_18.lit),isV (I (i64 (-x_18.lit))),isV (.pointer (some ⟨g11,Int.toNat (i64 (-x_18.lit)) * 1,none⟩)),isV (I x40),isV (Pt g31),isV (I x_18.coef)] [box g31 117 #[I x_18.coef,I x_18.lit],arr g11 153 13 ag11_15,box g3 41 #[S0,I 0]] [] (R) [([],[]),([],[]),([],[]),([],[]),([],[]),([],[]),([],[])] (S:=[]) Try_mix (by kernel_rfl) rfl (by kernel_rfl) (amF_cons (mono_V _) (amF_cons (mono_V _) (amF_cons (mono_V _) (amF_cons (mono_V _) (amF_cons (mono_V _) (amF_cons (mono_V _) (amF_cons (mono_V _) amF_nil))))))) hst ?_ (fun f w_ H42 hS42 hE42 hT42 hst=>?_)
 refine opsS_cons (fun f w_ _ _ s _ _ hst=>fA 1 fa_117_1 ((s 8 rfl).trans rfl) rfl (nO rfl rfl hst)) (opsS_cons (fun f w_ _ _ _ _ p hst=>ldB 0 hst Try.isAgg3 (p 0 25 rfl rfl) rfl rfl (nO rfl rfl hst)) (opsS_cons (fun f w_ _ _ _ _ p hst=>L_neg rfl (p 1 26 rfl rfl) (nO rfl rfl hst)) (opsS_cons (fun f w_ _ _ s _ p hst=>L_ixA 1 rfl Try.underlying153 Try.sizeOf3 ((s 6 rfl).trans sf6) (p 2 27 rfl rfl) hst rfl hx40 (nO rfl rfl hst)) (opsS_cons (fun f w_ _ _ _ _ p hst=>L_ldA 1 rfl Try.isAgg3 (p 3 28 rfl rfl) hst rfl hx40 (nO rfl rfl hst)) (opsS_cons (fun f w_ _ _ s _ _ hst=>fA 0 fa_117_0 ((s 8 rfl).trans rfl) rfl (nO rfl rfl hst)) (opsS_cons (fun f w_ _ _ _ _ p hst=>ldB 0 hst Try.isAgg3 (p 5 30 rfl rfl) rfl rfl (nO rfl rfl hst)) (opsS_nil)))))))
 refine L_sub rfl (hT42 4 29 rfl rfl) (hT42 6 31 rfl rfl) (L_ixA 1 rfl Try.underlying153 Try.sizeOf3 ((hS42 6 rfl).trans sf6) (hT42 2 27 rfl rfl) hst rfl hx40 ?_)
 have hst:=hst.get 1 rfl
 refine L_stA rfl Try.sizeOf3 rfl rfl hst hx40 (fun w43 hst=>nn ?_)
 obtain ⟨rfl,rfl⟩:=so2 hA38
 have hst:=hst.gets [2,1] rfl
 have hst:=Star.drop 2 hst rfl
 exact rj hR38 ⟨H42,hE42,((hS42 1 rfl).trans rfl),((hS42 4 rfl).trans sf4),((hS42 6 rfl).trans sf6),((hS42 12 rfl).trans sf12),((hS42 13 rfl).trans sf13),((hS42 14 rfl).trans sf14),hst⟩
 have hA38:=(ite_f hc39).symm.trans hA38
 obtain ⟨x44,hx44,hA38⟩:=bind_some hA38
 refine W_drawS 6 [isV (Pq g31 1),isV (I x_18.lit),isV (.pointer (some ⟨g11,Int.toNat x_18.lit * 1,none⟩)),isV (I x44),isV (Pt g31),isV (I x_18.coef)] [box g31 117 #[I x_18.coef,I x_18.lit],arr g11 153 13 ag11_15,box g3 41 #[S0,I 0]] [] (R) [([],[]),([],[]),([],[]),([],[]),([],[]),([],[])] (S:=[]) Try_mix (by kernel_rfl) rfl (by kernel_rfl) (amF_cons (mono_V _) (amF_cons (mono_V _) (amF_cons (mono_V _) (amF_cons (mono_V _) (amF_cons (mono_V _) (amF_cons (mono_V _) amF_nil)))))) hst ?_ (fun f w_ H46 hS46 hE46 hT46 hst=>?_)
 refine opsS_cons (fun f w_ _ _ s _ _ hst=>fA 1 fa_117_1 ((s 8 rfl).trans rfl) rfl (nO rfl rfl hst)) (opsS_cons (fun f w_ _ _ _ _ p hst=>ldB 0 hst Try.isAgg3 (p 0 34 rfl rfl) rfl rfl (nO rfl rfl hst)) (opsS_cons (fun f w_ _ _ s _ p hst=>L_ixA 1 rfl Try.underlying153 Try.sizeOf3 ((s 6 rfl).trans sf6) (p 1 35 rfl rfl) hst rfl hx44 (nO rfl rfl hst)) (opsS_cons (fun f w_ _ _ _ _ p hst=>L_ldA 1 rfl Try.isAgg3 (p 2 36 rfl rfl) hst rfl hx44 (nO rfl rfl hst)) (opsS_cons (fun f w_ _ _ s _ _ hst=>fA 0 fa_117_0 ((s 8 rfl).trans rfl) rfl (nO rfl rfl hst)) (opsS_cons (fun f w_ _ _ _ _ p hst=>ldB 0 hst Try.isAgg3 (p 4 38 rfl rfl) rfl rfl (nO rfl rfl hst)) (opsS_nil))))))
 refine L_add rfl (hT46 3 37 rfl rfl) (hT46 5 39 rfl rfl) (L_ixA 1 rfl Try.underlying153 Try.sizeOf3 ((hS46 6 rfl).trans sf6) (hT46 1 35 rfl rfl) hst rfl hx44 ?_)
 have hst:=hst.get 1 rfl
 refine L_stA rfl Try.sizeOf3 rfl rfl hst hx44 (fun w47 hst=>nn ?_)
 obtain ⟨rfl,rfl⟩:=so2 hA38
 have hst:=hst.gets [2,1] rfl
 have hst:=Star.drop 2 hst rfl
 exact rj hR38 ⟨H46,hE46,((hS46 1 rfl).trans sf1),((hS46 4 rfl).trans sf4),((hS46 6 rfl).trans sf6),((hS46 12 rfl).trans sf12),((hS46 13 rfl).trans sf13),((hS46 14 rfl).trans sf14),hst⟩
 intro f w_ hR
 obtain ⟨H36,l37,sf1,sf4,sf6,sf12,sf13,sf14,hst⟩:=rk hR38 hR
 refine W_region (L_add rfl sf14 rfl (mI rfl (nn ?_)))
 obtain rfl:=so hB18
 show ∃ m,m < _∧I18 m _ _
 refine ⟨rest18.length,by simp,?_⟩
 exact ij hI18 ⟨i_13 + 1,rest18,bound_34,ag11_35,H36,rfl,drop_next hd18,by simp at hl18; omega,hL18,(Le.trans l17 l37),sf1,sf4,sf6,sf12,sf13,(Eq.trans rfl (congrArg (Value.int .i64) (i64_succ (n:=terms.length) (by simp at hl18; omega) hlen18))),hst⟩
 rcases suf18 with _ | ⟨_,_⟩
 obtain rfl:=range_nil hL18
 refine W_exit (rj hR18 ⟨bound_14,ag11_15,H16,rfl,l17,sf1,sf4,sf6,hst⟩)
 exact absurd (of_decide_eq_false hc19) (by simp at hl18; omega)
 intro f w_ hR
 obtain ⟨bound_14,ag11_15,H16,rfl,l17,sf1,sf4,sf6,hst⟩:=rk hR18 hR
 refine sq (L_bld rfl (parts0 ) (bld_41_  ) (L_al (cs:=#[S0,I 0]) rfl Try.zeroValue41 rfl hst (fun g51 w52 hst=>L_staB (vs:=#[S0,I 0]) (cs2:=#[S0,I 0]) 0 rfl Try.sizeOf41 rfl rfl rfl (ones_cons rfl (ones_cons rfl ones_nil)) hst rfl (by show 0 + 2≤2; decide) rfl (fun w53 hst=>nq (sq ?_)))))
 have hla55:=(Star.arrAt 1 hst rfl).2
 refine L_ldAA 1 rfl Try.isAgg153 Try.sizeOf153 sf6 hst rfl (mI rfl (nn ?_))
 obtain ⟨k61,hk61,hF⟩:=bind_some hF
 obtain ⟨j60,hL60,hF⟩:=bind_some hF
 obtain ⟨R60,hR60⟩:=exR fun f w_=>∃ bound_57 : Int,∃ g51_0_58 : List Term,∃ v58_g51_0 : Value,j60 = .nx (bound_57,g51_0_58)∧f 1 = I bound_57∧f 4 = Pt g3∧f 9 = Pt g51∧Star H16 w_ (oF 117 rTerm v58_g51_0 g51_0_58 :: box g51 41 #[v58_g51_0,I 0] :: box g3 41 #[S0,I 0] :: R)
 refine W_join R60 ?_ ?_
 refine W_block ?_
 obtain ⟨I60,hI60⟩:=exI fun n f w_=>∃ i_56 : Nat,∃ suf60 : Nat,∃ bound_57 : Int,∃ g51_0_58 : List Term,∃ v58_g51_0 : Value,suf60 = n∧0≤i_56∧i_56 + suf60 = 0 + k61∧countL (i_normal_b2 ag11_15) suf60 i_56 (bound_57,g51_0_58) = some j60∧f 1 = I bound_57∧f 4 = Pt g3∧f 9 = Pt g51∧f 44 = (.agg (arrC ag11_15))∧f 45 = I i_56∧Star H16 w_ (oF 117 rTerm v58_g51_0 g51_0_58 :: box g51 41 #[v58_g51_0,I 0] :: box g3 41 #[S0,I 0] :: R)
 have hst:=Star.addNil (R:=(OR.frz rTerm)) (e:=117) hst
 have hst:=hst.gets [3,2,2] rfl
 have hst:=Star.drop 3 hst rfl
 refine W_loop I60 (n:=k61) ?_ ?_
 exact ij hI60 ⟨0,k61,bound_14,[],S0,rfl,Nat.le_refl _,rfl,hL60,sf1,sf4,rfl,rfl,rfl,hst⟩
 intro n60 f w_ hI
 obtain ⟨i_56,suf60,bound_57,g51_0_58,v58_g51_0,rfl,hs60,hl60,hL60,sf1,sf4,sf9,sf44,sf45,hst⟩:=ik hI60 hI
 refine sq (L_lss rfl sf45 rfl (nq (W_cond (b:=decide ((i_56 : Int) < 13)) rfl (fun hc63=>?_) (fun hc63=>?_))))
 have hlt60:=of_decide_eq_true hc63
 rcases suf60 with _ | rest60
 exact absurd hlt60 (cntF_no hl60 hk61)
 obtain ⟨o60,hB60,hL60⟩:=count_succ hL60
 rw [i_normal_b2] at hB60
 refine W_skip (W_seq (W_block (W_seq ?_)))
 obtain ⟨x64,hx64,hB60⟩:=bind_some hB60
 refine W_region (mF sf45 rfl (L_ixV rfl Try.underlying153 Try.sizeOf3 Try.isAgg3 sf44 sf45 hla55 hx64 (aI rfl (aI rfl (nn (W_block (sq (mI rfl (L_gtr rfl rfl rfl (aB rfl (nn ?_)))))))))))
 obtain ⟨⟨bound_65,g51_0_66⟩,hA68,hB60⟩:=bind_some hB60
 obtain ⟨R68,hR68⟩:=exR fun f w_=>∃ v66_g51_0 : Value,f 1 = I bound_65∧f 4 = Pt g3∧f 9 = Pt g51∧f 44 = (.agg (arrC ag11_15))∧f 45 = I i_56∧Star H16 w_ (oF 117 rTerm v66_g51_0 g51_0_66 :: box g51 41 #[v66_g51_0,I 0] :: box g3 41 #[S0,I 0] :: R)
 refine W_join R68 ?_ ?_
 refine W_cond (b:=decide (x64 > 0)) rfl (fun hc69=>?_) (fun hc69=>?_)
 have hA68:=(ite_t hc69).symm.trans hA68
 obtain ⟨x73,hx73,hA68⟩:=bind_some hA68
 refine W_region (fA 0 fa_41_0 sf9 rfl (ldB 1 hst Try.isAgg39 rfl rfl rfl (mI rfl (mI rfl (L_bld rfl (parts2 rfl rfl) (bld_117_0_1 (I x64) (I i_56) rfl rfl) (L_bs rfl (parts1 rfl) (bs_39_1_2 (I x64) (I i_56) ) hst (fun g78 w79 hst=>?_)))))))
 have hst:=Star.addF (r:=rTerm) (cs:=[I x64,I i_56]) (x:=({ coef:=x64,lit:=(i_56 : Int) } : Term)) hst (rTerm_iff.2 rfl)
 have hst:=Star.mkRow (R:=(OR.frz rTerm)) [([I x64,I i_56],({ coef:=x64,lit:=(i_56 : Int) } : Term))] [({ coef:=x64,lit:=(i_56 : Int) } : Term)] 1 hst rfl rfl rfl (by decide)
 have hst:=hst.get 1 rfl
 refine L_appM (v:=v58_g51_0) (u:=(Sl g78 1 1)) rfl et_39 rfl rfl hst hx73 (fun v81 w82 hst=>fA 0 fa_41_0 sf9 rfl (L_stB (v:=v81) (cs2:=#[v81,I 0]) 1 rfl Try.sizeOf39 rfl rfl (one_len (Star.len 0 hst rfl)) hst rfl rfl rfl (fun w84 hst=>nn ?_)))
 obtain ⟨rfl,rfl⟩:=so2 hA68
 have hst:=hst.gets [2,1,2] rfl
 exact rj hR68 ⟨v81,sf1,sf4,sf9,sf44,sf45,hst⟩
 have hA68:=(ite_f hc69).symm.trans hA68
 refine sq (mI rfl (L_lss rfl rfl rfl (aB rfl (nn ?_))))
 obtain ⟨⟨bound_85,g51_0_86⟩,hA88,hA68⟩:=bind_some hA68
 obtain ⟨R88,hR88⟩:=exR fun f w_=>∃ v86_g51_0 : Value,f 1 = I bound_85∧f 4 = Pt g3∧f 9 = Pt g51∧f 44 = (.agg (arrC ag11_15))∧f 45 = I i_56∧Star H16 w_ (oF 117 rTerm v86_g51_0 g51_0_86 :: box g51 41 #[v86_g51_0,I 0] :: box g3 41 #[S0,I 0] :: R)
 refine W_join R88 ?_ ?_
 refine W_cond (b:=decide (x64 < 0)) rfl (fun hc89=>?_) (fun hc89=>?_)
 have hA88:=(ite_t hc89).symm.trans hA88
 refine W_seq ?_
 obtain ⟨x93,hx93,hA88⟩:=bind_some hA88
 refine W_region (fA 0 fa_41_0 sf9 rfl (ldB 1 hst Try.isAgg39 rfl rfl rfl (mI rfl (L_neg rfl rfl (mI rfl (L_neg rfl rfl (L_bld rfl (parts2 rfl rfl) (bld_117_0_1 (I (i64 (-x64))) (I (i64 (-(i_56 : Int)))) rfl rfl) (L_bs rfl (parts1 rfl) (bs_39_1_2 (I (i64 (-x64))) (I (i64 (-(i_56 : Int)))) ) hst (fun g98 w99 hst=>?_)))))))))
 have hst:=Star.addF (r:=rTerm) (cs:=[I (i64 (-x64)),I (i64 (-(i_56 : Int)))]) (x:=({ coef:=i64 (-x64),lit:=i64 (-(i_56 : Int)) } : Term)) hst (rTerm_iff.2 rfl)
 have hst:=Star.mkRow (R:=(OR.frz rTerm)) [([I (i64 (-x64)),I (i64 (-(i_56 : Int)))],({ coef:=i64 (-x64),lit:=i64 (-(i_56 : Int)) } : Term))] [({ coef:=i64 (-x64),lit:=i64 (-(i_56 : Int)) } : Term)] 1 hst rfl rfl rfl (by decide)
 have hst:=hst.get 1 rfl
 refine L_appM (v:=v58_g51_0) (u:=(Sl g98 1 1)) rfl et_39 rfl rfl hst hx93 (fun v101 w102 hst=>fA 0 fa_41_0 sf9 rfl (L_stB (v:=v101) (cs2:=#[v101,I 0]) 1 rfl Try.sizeOf39 rfl rfl (one_len (Star.len 0 hst rfl)) hst rfl rfl rfl (fun w104 hst=>nn (W_region (mF sf1 rfl (mI rfl (L_sub rfl rfl rfl (aI rfl (nn ?_)))))))))
 obtain ⟨rfl,rfl⟩:=so2 hA88
 have hst:=hst.gets [2,1,2] rfl
 exact rj hR88 ⟨v101,rfl,sf4,sf9,sf44,sf45,hst⟩
 have hA88:=(ite_f hc89).symm.trans hA88
 refine W_skip ?_
 obtain ⟨rfl,rfl⟩:=so2 hA88
 exact rj hR88 ⟨v58_g51_0,sf1,sf4,sf9,sf44,sf45,hst⟩
 intro f w_ hR
 obtain ⟨v86_g51_0,sf1,sf4,sf9,sf44,sf45,hst⟩:=rk hR88 hR
 obtain ⟨rfl,rfl⟩:=so2 hA68
 exact rj hR68 ⟨v86_g51_0,sf1,sf4,sf9,sf44,sf45,hst⟩
 intro f w_ hR
 obtain ⟨v66_g51_0,sf1,sf4,sf9,sf44,sf45,hst⟩:=rk hR68 hR
 refine W_region (L_add rfl sf45 rfl (mI rfl (nn ?_)))
 obtain rfl:=so hB60
 show ∃ m,m < _∧I60 m _ _
 refine ⟨rest60,Nat.lt_succ_self _,?_⟩
 exact ij hI60 ⟨i_56 + 1,rest60,bound_65,g51_0_66,v66_g51_0,rfl,by omega,by omega,hL60,sf1,sf4,sf9,sf44,(Eq.trans rfl (congrArg (Value.int .i64) (i64_succ (n:=0 + k61) (by omega) (cntF_le hk61)))),hst⟩
 rcases suf60 with _ | _
 obtain rfl:=count_zero hL60
 refine W_exit (rj hR60 ⟨bound_57,g51_0_58,v58_g51_0,rfl,sf1,sf4,sf9,hst⟩)
 exact absurd (cntF_yes hs60 hl60 hk61) (of_decide_eq_false hc63)
 intro f w_ hR
 obtain ⟨bound_57,g51_0_58,v58_g51_0,rfl,sf1,sf4,sf9,hst⟩:=rk hR60 hR
 refine sq (mF sf1 rfl (L_max rfl rfl rfl (fA 1 fa_41_1 sf9 rfl (L_stB (v:=I (max 0 bound_57)) (cs2:=#[v58_g51_0,I (max 0 bound_57)]) 1 rfl Try.sizeOf3 rfl rfl rfl hst rfl rfl rfl (fun w106 hst=>nq ?_)))))
 obtain ⟨x110,hx110,hF⟩:=bind_some hF
 refine W_region (L_lda (cs:=[v58_g51_0,I (max 0 bound_57)]) rfl Try.isAgg41 Try.sizeOf41 sf9 (At.sub0 (Blk.at (Star.blkAt 0 hst rfl)) 0 2) rfl ?_)
 have hst:=hst.get 1 rfl
 obtain ⟨H113,l114,hst,hz115⟩:=Star.freeze hst
 have hz115 : (rS 117 rTerm).rel H113 [v58_g51_0] g51_0_58:=hz115
 refine L_call rfl Try.call154 (ops1 rfl) (i_Constraint_valid_c (c:=({ terms:=g51_0_58,bound:=max 0 bound_57 } : Con)) hst hz115 hx110) ?_
 rintro _ w116 ⟨H116,l116,r116_0,rfl,hr116_0,hst⟩
 refine L_ex (v:=.agg #[r116_0,I x110.1.bound]) rfl rfl rfl (L_ex (v:=Bo x110.2) rfl rfl rfl (L_staB (vs:=#[r116_0,I x110.1.bound]) (cs2:=#[r116_0,I x110.1.bound]) 1 rfl Try.sizeOf41 sf4 rfl rfl (ones_cons (one_len (slice_len hr116_0)) (ones_cons rfl ones_nil)) hst rfl (by show 0 + 2≤2; decide) rfl (fun w117 hst=>aB rfl (nn (W_ret (retG2 (v1:=.agg #[r116_0,I x110.1.bound]) (v2:=Bo x110.2) Try.results147 (resV_agg Try.isAgg41 Try.sizeOf41 sf4 (Star.blkAt 0 hst rfl) rfl) rfl ?_))))))
 obtain rfl:=so hF
 have hst:=Star.drop 0 hst rfl
 have hst:=Star.drop 0 hst rfl
 exact ⟨H116,(Le.trans (Le.trans l17 l114) l116),r116_0,rfl,hr116_0,hst⟩
theorem slices_Concat_implTerm_c {slices : List (List Term)} {v0 : Value} {H : FH} {w : World} (hst : Star H w []) (h0 : (rS 39 (rS 117 rTerm)).rel H [v0] slices) {r : List Term} (hF : slices_Concat_implTerm slices = some r) :
 C Try.prog 148 #[v0] w fun v w'=>∃ (u1 : Value),v = u1∧Star H w' [oF 117 rTerm u1 r]:=by
 unfold slices_Concat_implTerm at hF
 refine C_enter Try.func148 rfl Try.ntmps148 rfl (sq (aV S0 rfl (ns (aI rfl (nq (sq (mV v0 rfl (L_len rfl Try.underlying155 rfl (slice_len h0) (mI rfl (nn ?_))))))))))
 have hlen3 : List.length slices≤9223372036854775807:=len_le (slice_len h0)
 obtain ⟨j3,hL3,hF⟩:=bind_some hF
 obtain ⟨R3,hR3⟩:=exR fun f w_=>∃ size_2 : Int,j3 = .nx size_2∧f 0 = v0∧f 3 = I size_2∧Star H w_ ([])
 refine W_join R3 ?_ ?_
 refine W_block ?_
 obtain ⟨I3,hI3⟩:=exI fun n f w_=>∃ i_1 : Nat,∃ suf3 : List (List Term),∃ size_2 : Int,n = suf3.length∧List.drop i_1 slices = suf3∧i_1 + suf3.length = slices.length∧rangeL slices_Concat_implTerm_b1 suf3 i_1 size_2 = some j3∧f 0 = v0∧f 3 = I size_2∧f 9 = v0∧f 10 = I (slices.length : Int)∧f 11 = I i_1∧Star H w_ ([])
 refine W_loop I3 (n:=slices.length) ?_ ?_
 exact ij hI3 ⟨0,slices,0,rfl,rfl,Nat.zero_add _,hL3,rfl,rfl,rfl,rfl,rfl,hst⟩
 intro n3 f w_ hI
 obtain ⟨i_1,suf3,size_2,rfl,hd3,hl3,hL3,sf0,sf3,sf9,sf10,sf11,hst⟩:=ik hI3 hI
 refine sq (L_lss rfl sf11 sf10 (nq (W_cond (b:=decide ((i_1 : Int) < (slices.length : Int))) rfl (fun hc4=>?_) (fun hc4=>?_))))
 have hlt3:=of_decide_eq_true hc4
 rcases suf3 with _ | ⟨x_3,rest3⟩
 exact absurd hlt3 (by simp at hl3; omega)
 obtain ⟨o3,hB3,hL3⟩:=range_cons hL3
 rw [slices_Concat_implTerm_b1] at hB3
 have hix3:=drop_idx hd3
 refine W_skip (W_seq (W_block (sq (L_ix (r:=(rS 117 rTerm)) rfl Try.underlying155 Try.sizeOf39 sf9 h0 sf11 hix3 (fun g9 o10 cs_g9 hrk_hat11 hat11=>?_)))))
 obtain ⟨u12,rfl,hu12⟩:=slice1 hrk_hat11
 refine L_ld rfl Try.isAgg39 rfl (At.cell (AtH.at hat11 hst.sub) (j:=0) rfl) (aV u12 rfl (ns (mF sf3 rfl (mV u12 rfl (L_len rfl Try.underlying39 rfl (slice_len hu12) (L_add rfl rfl rfl (aI rfl (ns (mI rfl (L_lss rfl rfl rfl (nn ?_)))))))))))
 obtain ⟨_,hA13,hB3⟩:=bind_some hB3
 obtain ⟨R13,hR13⟩:=exR fun f w_=>f 0 = v0∧f 3 = I (i64 (size_2 + (x_3.length : Int)))∧f 9 = v0∧f 10 = I (slices.length : Int)∧f 11 = I i_1∧Star H w_ ([])
 refine W_join R13 ?_ ?_
 refine W_cond (b:=decide ((i64 (size_2 + (x_3.length : Int))) < 0)) rfl (fun hc14=>?_) (fun hc14=>?_)
 have hA13:=(ite_t hc14).symm.trans hA13
 cases hA13
 have hA13:=(ite_f hc14).symm.trans hA13
 refine W_skip (rj hR13 ⟨sf0,rfl,sf9,sf10,sf11,hst⟩)
 intro f w_ hR
 obtain ⟨sf0,sf3,sf9,sf10,sf11,hst⟩:=rk hR13 hR
 refine W_region (L_add rfl sf11 rfl (mI rfl (nn ?_)))
 obtain rfl:=so hB3
 show ∃ m,m < _∧I3 m _ _
 refine ⟨rest3.length,by simp,?_⟩
 exact ij hI3 ⟨i_1 + 1,rest3,i64 (size_2 + (x_3.length : Int)),rfl,drop_next hd3,by simp at hl3; omega,hL3,sf0,sf3,sf9,sf10,(Eq.trans rfl (congrArg (Value.int .i64) (i64_succ (n:=slices.length) (by simp at hl3; omega) hlen3))),hst⟩
 rcases suf3 with _ | ⟨_,_⟩
 obtain rfl:=range_nil hL3
 refine W_exit (rj hR3 ⟨size_2,rfl,sf0,sf3,hst⟩)
 exact absurd (of_decide_eq_false hc4) (by simp at hl3; omega)
 intro f w_ hR
 obtain ⟨size_2,rfl,sf0,sf3,hst⟩:=rk hR3 hR
 refine W_seq ?_
 obtain ⟨ret0_15,hI17,hF⟩:=bind_some hF
 refine W_region (mF sf3 rfl ?_)
 obtain ⟨R20,hR20⟩ : ∃ R : Value→World→Prop,R = fun v w_=>∃ v18_ret0 : Value,v = v18_ret0∧Star H w_ ([oF 117 rTerm v18_ret0 ret0_15]):=⟨_,rfl⟩
 refine L_call (args:=#[S0,I size_2]) (R:=R20) rfl Try.call155 (ops2 rfl rfl) ?_ ?_
 refine C_enter Try.func155 rfl Try.ntmps155 rfl ?_
 have hA20:=hI17
 unfold slices_Concat_implTerm_i2 at hA20
 refine sq (aV S0 rfl (nq (sq (mI rfl (L_lss rfl rfl rfl (nn ?_))))))
 obtain ⟨_,hA21,hA20⟩:=bind_some hA20
 obtain ⟨R21,hR21⟩:=exR fun f w_=>f 0 = S0∧f 1 = I size_2∧Star H w_ ([])
 refine W_join R21 ?_ ?_
 refine W_cond (b:=decide (size_2 < 0)) rfl (fun hc22=>?_) (fun hc22=>?_)
 have hA21:=(ite_t hc22).symm.trans hA21
 cases hA21
 have hA21:=(ite_f hc22).symm.trans hA21
 refine W_skip (rj hR21 ⟨rfl,rfl,hst⟩)
 intro f w_ hR
 obtain ⟨sf0,sf1,hst⟩:=rk hR21 hR
 refine W_seq (sq (mF sf1 rfl (mF sf0 rfl (L_capN rfl Try.underlying39 rfl (mF sf0 rfl (L_len rfl Try.underlying39 rfl (slice_len (r:=RP.int) (t:=0) (rel_nil _ _ H)) (L_sub rfl rfl rfl (L_sub rfl rfl rfl (aI rfl (ns (mI rfl (L_gtr rfl rfl rfl (nn ?_)))))))))))))
 obtain ⟨s_23,hA25,hA20⟩:=bind_some hA20
 obtain ⟨R25,hR25⟩:=exR fun f w_=>∃ v23_s : Value,f 0 = v23_s∧Star H w_ ([oF 117 rTerm v23_s s_23])
 refine W_join R25 ?_ ?_
 refine W_cond (b:=decide ((i64 (size_2 - (i64 (0 - 0)))) > 0)) rfl (fun hc26=>?_) (fun hc26=>?_)
 have hA25:=(ite_t hc26).symm.trans hA25
 obtain ⟨x27,hx27,hA25⟩:=bind_some hA25
 obtain ⟨x31,hx31,hA25⟩:=bind_some hA25
 refine W_region (mF sf0 rfl (mF sf0 rfl (L_capN rfl Try.underlying39 rfl (L_slN rfl et_39 rfl rfl (mI rfl (L_appZ (R:=(OR.frz rTerm)) (z0:=({ coef:=0,lit:=0 } : Term)) (zc:=[I 0,I 0]) rfl et_39 Try.underlying3 (by kernel_rfl) (fun _ _=>⟨rfl,rTerm_iff.2 rfl⟩) rfl rfl hx27 hst (fun v34 w35 hst=>mF sf0 rfl (L_len rfl Try.underlying39 rfl (slice_len (r:=RP.int) (t:=0) (rel_nil _ _ H)) (L_slO (R:=(OR.frz rTerm)) (b:=0) rfl et_39 rfl hst trivial rfl hx31 (fun v37 hst=>aV v37 rfl (nn ?_)))))))))))
 obtain rfl:=so hA25
 exact rj hR25 ⟨v37,rfl,hst⟩
 have hA25:=(ite_f hc26).symm.trans hA25
 refine W_skip ?_
 obtain rfl:=so hA25
 have hst:=Star.addNil (R:=(OR.frz rTerm)) (e:=117) hst
 exact rj hR25 ⟨S0,sf0,hst⟩
 intro f w_ hR
 obtain ⟨v23_s,sf0,hst⟩:=rk hR25 hR
 refine sq (mF sf0 rfl (aV v23_s rfl (nn (W_ret (retG1 (v1:=v23_s) Try.results155 rfl ?_)))))
 obtain rfl:=so hA20
 show R20 _ _
 rw [hR20]
 exact ⟨v23_s,rfl,hst⟩
 intro v_20 w_ hR
 rw [hR20] at hR
 obtain ⟨v18_ret0,hvr20,hst⟩:=hR
 obtain rfl:=hvr20.symm
 clear hR20
 refine aV v18_ret0 rfl (nq (sq (mF sf0 rfl (L_len rfl Try.underlying155 rfl (slice_len h0) (mI rfl (nn ?_))))))
 have hlen43 : List.length slices≤9223372036854775807:=len_le (slice_len h0)
 obtain ⟨j43,hL43,hF⟩:=bind_some hF
 obtain ⟨R43,hR43⟩:=exR fun f w_=>∃ newslice_41 : List Term,∃ v41_newslice : Value,j43 = .nx newslice_41∧f 6 = v41_newslice∧Star H w_ ([oF 117 rTerm v41_newslice newslice_41])
 refine W_join R43 ?_ ?_
 refine W_block ?_
 obtain ⟨I43,hI43⟩:=exI fun n f w_=>∃ i_40 : Nat,∃ suf43 : List (List Term),∃ newslice_41 : List Term,∃ v41_newslice : Value,n = suf43.length∧List.drop i_40 slices = suf43∧i_40 + suf43.length = slices.length∧rangeL slices_Concat_implTerm_b3 suf43 i_40 newslice_41 = some j43∧f 6 = v41_newslice∧f 25 = v0∧f 26 = I (slices.length : Int)∧f 27 = I i_40∧Star H w_ ([oF 117 rTerm v41_newslice newslice_41])
 refine W_loop I43 (n:=slices.length) ?_ ?_
 exact ij hI43 ⟨0,slices,ret0_15,v18_ret0,rfl,rfl,Nat.zero_add _,hL43,rfl,rfl,rfl,rfl,hst⟩
 intro n43 f w_ hI
 obtain ⟨i_40,suf43,newslice_41,v41_newslice,rfl,hd43,hl43,hL43,sf6,sf25,sf26,sf27,hst⟩:=ik hI43 hI
 refine sq (L_lss rfl sf27 sf26 (nq (W_cond (b:=decide ((i_40 : Int) < (slices.length : Int))) rfl (fun hc44=>?_) (fun hc44=>?_))))
 have hlt43:=of_decide_eq_true hc44
 rcases suf43 with _ | ⟨x_43,rest43⟩
 exact absurd hlt43 (by simp at hl43; omega)
 obtain ⟨o43,hB43,hL43⟩:=range_cons hL43
 rw [slices_Concat_implTerm_b3] at hB43
 have hix43:=drop_idx hd43
 refine W_skip (W_seq (W_block (sq (L_ix (r:=(rS 117 rTerm)) rfl Try.underlying155 Try.sizeOf39 sf25 h0 sf27 hix43 (fun g49 o50 cs_g49 hrk_hat51 hat51=>?_)))))
 obtain ⟨u52,rfl,hu52⟩:=slice1 hrk_hat51
 refine L_ld rfl Try.isAgg39 rfl (At.cell (AtH.at hat51 hst.sub) (j:=0) rfl) (aV u52 rfl (nn ?_))
 obtain ⟨x53,hx53,hB43⟩:=bind_some hB43
 refine W_region (mF sf6 rfl (mV u52 rfl (L_app (v:=v41_newslice) (u:=u52) rfl et_39 rfl rfl hst hu52 hx53 (fun v57 w58 hst=>aV v57 rfl (nn (W_region (L_add rfl sf27 rfl (mI rfl (nn ?_)))))))))
 obtain rfl:=so hB43
 show ∃ m,m < _∧I43 m _ _
 refine ⟨rest43.length,by simp,?_⟩
 exact ij hI43 ⟨i_40 + 1,rest43,x53,v57,rfl,drop_next hd43,by simp at hl43; omega,hL43,rfl,sf25,sf26,(Eq.trans rfl (congrArg (Value.int .i64) (i64_succ (n:=slices.length) (by simp at hl43; omega) hlen43))),hst⟩
 rcases suf43 with _ | ⟨_,_⟩
 obtain rfl:=range_nil hL43
 refine W_exit (rj hR43 ⟨newslice_41,v41_newslice,rfl,sf6,hst⟩)
 exact absurd (of_decide_eq_false hc44) (by simp at hl43; omega)
 intro f w_ hR
 obtain ⟨newslice_41,v41_newslice,rfl,sf6,hst⟩:=rk hR43 hR
 refine sq (mF sf6 rfl (aV v41_newslice rfl (nn (W_ret (retG1 (v1:=v41_newslice) Try.results148 rfl ?_)))))
 obtain rfl:=so hF
 exact ⟨v41_newslice,rfl,hst⟩
theorem i_AddConstraints_c {a : Con} {b : Con} {v0_0 : Value} {v1_0 : Value} {H : FH} {w : World} {R : List Ass} (hst : Star H w R) (h0_0 : (rS 117 rTerm).rel H [v0_0] a.terms) (h1_0 : (rS 117 rTerm).rel H [v1_0] b.terms) {r : Con × Bool} (hF : i_AddConstraints a b = some r) :
 C Try.prog 130 #[.agg #[v0_0,I a.bound],.agg #[v1_0,I b.bound]] w fun v w'=>∃ H' : FH,Le H H'∧∃ (u1 : Value),v = .tuple #[.agg #[u1,I r.1.bound],Bo r.2]∧(rS 117 rTerm).rel H' [u1] r.1.terms∧Star H' w' (R):=by
 unfold i_AddConstraints at hF
 refine C_enter Try.func130 rfl Try.ntmps130 rfl (sq (L_box (v:=.agg #[v0_0,I a.bound]) (cs:=#[v0_0,I a.bound]) rfl rfl rfl hst (fun g7 w8 hst=>L_box (v:=.agg #[v1_0,I b.bound]) (cs:=#[v1_0,I b.bound]) rfl rfl rfl hst (fun g9 w10 hst=>L_al (cs:=#[S0,I 0]) rfl Try.zeroValue41 rfl hst (fun g11 w12 hst=>aB rfl (nq (W_seq ?_)))))))
 obtain ⟨x18,hx18,hF⟩:=bind_some hF
 obtain ⟨b27,hb27,hF⟩:=bind_some hF
 obtain ⟨R28,hR28⟩:=exR fun f w_=>f 2 = Pt g7∧f 3 = Pt g9∧f 4 = Pt g11∧f 13 = Bo b27∧Star H w_ (box g11 41 #[S0,I 0] :: box g9 41 #[v1_0,I b.bound] :: box g7 41 #[v0_0,I a.bound] :: R)
 refine W_join R28 ?_ ?_
 refine W_region (L_lda (cs:=[v0_0,I a.bound]) rfl Try.isAgg41 Try.sizeOf41 rfl (At.sub0 (Blk.at (Star.blkAt 2 hst rfl)) 0 2) rfl ?_)
 obtain ⟨H29b,l30,s31,z32,k33⟩:=hst.borrow
 refine L_call rfl Try.call61 (ops1 rfl) (i_ConstraintValid_c (c:=a) s31 (RP.mono _ h0_0 l30) hx18) ?_
 rintro _ w34 ⟨rfl,hst⟩
 have hst:=k33 hst c0
 refine L_not_ rfl rfl (mB rfl (L_split (d:=9) (b:=(!x18)) rfl (fun hc35=>?_) (fun hc35=>?_)))
 rw [ite_t hc35] at hb27
 refine ps rfl (ps rfl (ps rfl (L_pick (v:=Bo b27) rfl rfl (congrArg Value.bool (so hb27)) (nn (rj hR28 ⟨rfl,rfl,rfl,rfl,hst⟩)))))
 rw [ite_f hc35] at hb27
 obtain ⟨x25,hx25,hb27⟩:=bind_some hb27
 refine L_lda (cs:=[v1_0,I b.bound]) rfl Try.isAgg41 Try.sizeOf41 rfl (At.sub0 (Blk.at (Star.blkAt 1 hst rfl)) 0 2) rfl ?_
 obtain ⟨H36b,l37,s38,z39,k40⟩:=hst.borrow
 refine L_call rfl Try.call61 (ops1 rfl) (i_ConstraintValid_c (c:=b) s38 (RP.mono _ h1_0 l37) hx25) ?_
 rintro _ w41 ⟨rfl,hst⟩
 have hst:=k40 hst c0
 refine L_not_ rfl rfl (L_pick (v:=Bo b27) rfl rfl (congrArg Value.bool (so hb27)) (nn (rj hR28 ⟨rfl,rfl,rfl,rfl,hst⟩)))
 intro f w_ hR
 obtain ⟨sf2,sf3,sf4,sf13,hst⟩:=rk hR28 hR
 refine W_cond (b:=b27) sf13 (fun hc42=>?_) (fun hc42=>?_)
 have hF:=(ite_t hc42).symm.trans hF
 refine sq (L_bld rfl (parts0 ) (bld_41_  ) (L_staB (vs:=#[S0,I 0]) (cs2:=#[S0,I 0]) 0 rfl Try.sizeOf41 sf4 rfl rfl (ones_cons rfl (ones_cons rfl ones_nil)) hst rfl (by show 0 + 2≤2; decide) rfl (fun w44 hst=>aB rfl (nn (W_ret (retG2 (v1:=.agg #[S0,I 0]) (v2:=Bo false) Try.results130 (resV_agg Try.isAgg41 Try.sizeOf41 sf4 (Star.blkAt 0 hst rfl) rfl) rfl ?_))))))
 obtain rfl:=so hF
 have hst:=Star.drop 0 hst rfl
 have hst:=Star.drop 0 hst rfl
 have hst:=Star.drop 0 hst rfl
 exact ⟨H,(Le.refl _),S0,rfl,(rel_nil _ _ _),hst⟩
 have hF:=(ite_f hc42).symm.trans hF
 refine W_skip (W_seq ?_)
 obtain ⟨x54,hx54,hF⟩:=bind_some hF
 obtain ⟨x60,hx60,hF⟩:=bind_some hF
 refine W_drawS 14 [isV (Pt g7),isV (v0_0),isV (Pt g9),isV (v1_0),anyF,anyF,isV (Pq g7 1),isV (I a.bound),isV (Pq g9 1),isV (I b.bound),isV (I (i64 (a.bound + b.bound))),tup2 (exD (isData (rS 117 rTerm) x60.1.terms) fun u_0=>isV (.agg #[u_0,I x60.1.bound])) (isV (Bo x60.2)),exD (isData (rS 117 rTerm) x60.1.terms) fun u_0=>isV (.agg #[u_0,I x60.1.bound]),isV (Bo x60.2)] [box g11 41 #[S0,I 0],box g9 41 #[v1_0,I b.bound],box g7 41 #[v0_0,I a.bound]] [.made 4 19 (fun v_=>oF 39 (rS 117 rTerm) v_ ([a.terms,b.terms])) none,.made 5 20 (fun v_=>oF 117 rTerm v_ x54) (some 11)] (R) [([],[]),([],[]),([],[]),([],[]),([],[0]),([0],[0,1]),([],[]),([],[]),([],[]),([],[]),([],[]),([1],[]),([],[]),([],[])] (S:=[(some 4,[19],none),(some 5,[20],some 11)]) Try_mix (by kernel_rfl) rfl (by kernel_rfl) (amF_cons (mono_V _) (amF_cons (mono_V _) (amF_cons (mono_V _) (amF_cons (mono_V _) (amF_cons (mono_any) (amF_cons (mono_any) (amF_cons (mono_V _) (amF_cons (mono_V _) (amF_cons (mono_V _) (amF_cons (mono_V _) (amF_cons (mono_V _) (amF_cons (mono_tup2 (mono_exD (mono_data _ _) fun _=>mono_V _) (mono_V _)) (amF_cons (mono_exD (mono_data _ _) fun _=>mono_V _) (amF_cons (mono_V _) amF_nil)))))))))))))) hst ?_ (fun f w_ H63 hS63 hE63 hT63 hst=>?_)
 refine opsS_cons (fun f w_ _ _ s _ _ hst=>fA 0 fa_41_0 ((s 2 rfl).trans sf2) rfl (nO rfl rfl hst)) (opsS_cons (fun f w_ _ _ _ _ p hst=>ldB 2 hst Try.isAgg39 (p 0 15 rfl rfl) rfl rfl (nO rfl rfl hst)) (opsS_cons (fun f w_ _ _ s _ _ hst=>fA 0 fa_41_0 ((s 3 rfl).trans sf3) rfl (nO rfl rfl hst)) (opsS_cons (fun f w_ _ _ _ _ p hst=>ldB 1 hst Try.isAgg39 (p 2 17 rfl rfl) rfl rfl (nO rfl rfl hst)) (opsS_cons ?_ ?_))))
 intro f w_ H63 X63 hS63 hE63 hP63 hst
 refine L_bs rfl (parts2 (hP63 1 16 rfl rfl) (hP63 3 18 rfl rfl)) (bs_155_2_0_0 (v0_0) (v1_0) (one_len (slice_len (RP.mono _ h0_0 hE63))) (one_len (slice_len (RP.mono _ h1_0 hE63)))) hst (fun g79 w80 hst=>?_)
 have hst:=Star.addF (r:=(rS 117 rTerm)) (cs:=[v1_0]) (x:=b.terms) hst (RP.mono _ h1_0 hE63)
 have hst:=Star.addF (r:=(rS 117 rTerm)) (cs:=[v0_0]) (x:=a.terms) hst (RP.mono _ h0_0 hE63)
 have hst:=Star.mkRow (R:=(OR.frz (rS 117 rTerm))) [([v0_0],a.terms),([v1_0],b.terms)] [a.terms,b.terms] 2 hst rfl rfl rfl (by decide)
 have hst:=hst.gets [3,3,3] rfl
 exact L_nil ⟨rfl,_,_,rfl,Le.refl _,fun _ _=>trivial,hst⟩
 refine opsS_cons ?_ ?_
 intro f w_ H63 X63 hS63 hE63 hP63 hst
 have hst : Star H63 w_ (box g11 41 #[S0,I 0] :: box g9 41 #[v1_0,I b.bound] :: box g7 41 #[v0_0,I a.bound] :: oF 39 (rS 117 rTerm) (f 19) ([a.terms,b.terms]) :: X63):=hst
 obtain ⟨H83b,l84,s85,z86,k87⟩:=hst.borrow
 have hb88 : (rS 39 (rS 117 rTerm)).rel H83b [(f 19)] ([a.terms,b.terms]):=fz_own 3 z86 rfl
 refine L_call rfl Try.call148 (ops1 rfl) (slices_Concat_implTerm_c (slices:=[a.terms,b.terms]) s85 hb88 hx54) ?_
 rintro r89_0 w89 ⟨_,rfl,hst⟩
 have hst:=k87 hst (co closed_term c0)
 have hst:=hst.gets [4,4,4,4] rfl
 exact L_nil ⟨rfl,_,_,rfl,Le.refl _,fun _ _=>trivial,hst⟩
 refine opsS_cons (fun f w_ _ _ s _ _ hst=>fA 1 fa_41_1 ((s 2 rfl).trans sf2) rfl (nO rfl rfl hst)) (opsS_cons (fun f w_ _ _ _ _ p hst=>ldB 2 hst Try.isAgg3 (p 6 21 rfl rfl) rfl rfl (nO rfl rfl hst)) (opsS_cons (fun f w_ _ _ s _ _ hst=>fA 1 fa_41_1 ((s 3 rfl).trans sf3) rfl (nO rfl rfl hst)) (opsS_cons (fun f w_ _ _ _ _ p hst=>ldB 1 hst Try.isAgg3 (p 8 23 rfl rfl) rfl rfl (nO rfl rfl hst)) (opsS_cons (fun f w_ _ _ _ _ p hst=>L_add rfl (p 7 22 rfl rfl) (p 9 24 rfl rfl) (nO rfl rfl hst)) (opsS_cons ?_ ?_)))))
 intro f w_ H63 X63 hS63 hE63 hP63 hst
 have hst : Star H63 w_ (box g11 41 #[S0,I 0] :: box g9 41 #[v1_0,I b.bound] :: box g7 41 #[v0_0,I a.bound] :: oF 117 rTerm (f 20) x54 :: X63):=hst
 have hst:=hst.get 3 rfl
 obtain ⟨H92,l93,hst,hz94⟩:=Star.freeze hst
 have hz94 : (rS 117 rTerm).rel H92 [(f 20)] x54:=hz94
 refine L_call rfl Try.call147 (ops2 rfl (hP63 10 25 rfl rfl)) (i_normal_c (terms:=x54) (bound:=i64 (a.bound + b.bound)) hst hz94 hx60) ?_
 rintro _ w95 ⟨H95,l95,r95_0,rfl,hr95_0,hst⟩
 exact L_nil ⟨rfl,_,_,rfl,(Le.trans l93 l95),fun _ _=>⟨_,_,rfl,⟨_,hr95_0,rfl⟩,rfl⟩,hst⟩
 refine opsS_cons ?_ ?_
 intro f w_ H63 X63 hS63 hE63 hP63 hst
 obtain ⟨a96_0,a96_1,hv96,ht96_0,ht96_1⟩:=(hP63 11 26 rfl rfl)
 obtain ⟨u97_0,hu97_0,rfl⟩:=ht96_0
 obtain rfl:=ht96_1
 refine L_ex (v:=.agg #[u97_0,I x60.1.bound]) rfl hv96 rfl (L_nil ⟨rfl,_,_,rfl,Le.refl _,fun _ _=>⟨_,hu97_0,rfl⟩,hst⟩)
 refine opsS_cons ?_ ?_
 intro f w_ H63 X63 hS63 hE63 hP63 hst
 obtain ⟨a98_0,a98_1,hv98,ht98_0,ht98_1⟩:=(hP63 11 26 rfl rfl)
 obtain ⟨u99_0,hu99_0,rfl⟩:=ht98_0
 obtain rfl:=ht98_1
 refine L_ex (v:=Bo x60.2) rfl hv98 rfl (L_nil ⟨rfl,_,_,rfl,Le.refl _,fun _ _=>rfl,hst⟩)
 exact opsS_nil
 have hst : Star H63 w_ (box g11 41 #[S0,I 0] :: box g9 41 #[v1_0,I b.bound] :: box g7 41 #[v0_0,I a.bound] :: oF 39 (rS 117 rTerm) (f 19) ([a.terms,b.terms]) :: R):=hst
 obtain ⟨u100_0,hu100_0,hv100⟩:=(hT63 12 27 rfl rfl)
 refine L_staB (vs:=#[u100_0,I x60.1.bound]) (cs2:=#[u100_0,I x60.1.bound]) 0 rfl Try.sizeOf41 ((hS63 4 rfl).trans sf4) hv100 rfl (ones_cons (one_len (slice_len hu100_0)) (ones_cons rfl ones_nil)) hst rfl (by show 0 + 2≤2; decide) rfl (fun w101 hst=>aF (hT63 13 28 rfl rfl) rfl (nn (W_ret (retG2 (v1:=.agg #[u100_0,I x60.1.bound]) (v2:=Bo x60.2) Try.results130 (resV_agg Try.isAgg41 Try.sizeOf41 ((hS63 4 rfl).trans sf4) (Star.blkAt 0 hst rfl) rfl) rfl ?_))))
 obtain rfl:=so hF
 have hst:=Star.drop 0 hst rfl
 have hst:=Star.drop 0 hst rfl
 have hst:=Star.drop 0 hst rfl
 have hst:=Star.drop 0 hst rfl
 exact ⟨H63,hE63,u100_0,rfl,hu100_0,hst⟩
theorem slices_Clone_implTerm_c {s : List Term} {v0 : Value} {H : FH} {w : World} (hst : Star H w []) (h0 : (rS 117 rTerm).rel H [v0] s) {r : List Term} (hF : slices_Clone_implTerm s = some r) :
 C Try.prog 121 #[v0] w fun v w'=>∃ (u1 : Value),v = u1∧Star H w' [oF 117 rTerm u1 r]:=by
 unfold slices_Clone_implTerm at hF
 refine C_enter Try.func121 rfl Try.ntmps121 rfl (sq (aV S0 rfl (nq (sq (mV v0 rfl ?_)))))
 obtain ⟨a1,cap1,hsl1,_,_⟩:=(slice_len h0)
 refine L_nileq (a:=a1) rfl Try.underlying39 (Eq.trans rfl hsl1) rfl ?_
 rw [← hsl1]
 refine nn ?_
 rcases Bool.eq_false_or_eq_true (isNilS v0) with hn2 | hn2
 refine W_cond (b:=true) (Eq.trans rfl (congrArg Value.bool hn2)) (fun _=>?_) (fun h=>nomatch h)
 obtain rfl:=nil_of h0 hn2
 refine sq (aV S0 rfl (nn (W_ret (retG1 (v1:=S0) Try.results121 rfl ?_))))
 simp [app] at hF
 subst hF
 have hst:=Star.addNil (R:=(OR.frz rTerm)) (e:=117) hst
 exact ⟨S0,rfl,hst⟩
 refine W_cond (b:=false) (Eq.trans rfl (congrArg Value.bool hn2)) (fun h=>nomatch h) (fun _=>?_)
 refine W_skip (W_seq ?_)
 obtain ⟨x7,hx7,hF⟩:=bind_some hF
 refine W_region (L_bs rfl parts0 (bs_39_0  ) hst (fun g11 w12 hst=>?_))
 have hst:=Star.mkRow (R:=(OR.frz rTerm)) [] [] 0 hst rfl rfl rfl (by decide)
 refine mV v0 rfl (L_app (v:=(Sl g11 0 0)) (u:=v0) rfl et_39 rfl rfl hst h0 hx7 (fun v14 w15 hst=>aV v14 rfl (nn (W_ret (retG1 (v1:=v14) Try.results121 rfl ?_)))))
 obtain rfl:=so hF
 exact ⟨v14,rfl,hst⟩
theorem i_Constraint_own_c {c : Con} {v0_0 : Value} {H : FH} {w : World} (hst : Star H w []) (h0_0 : (rS 117 rTerm).rel H [v0_0] c.terms) {r : Con} (hF : i_Constraint_own c = some r) :
 C Try.prog 89 #[.agg #[v0_0,I c.bound]] w fun v w'=>∃ (u1 : Value),v = .agg #[u1,I r.bound]∧Star H w' [oF 117 rTerm u1 r.terms]:=by
 unfold i_Constraint_own at hF
 refine C_enter Try.func89 rfl Try.ntmps89 rfl (sq (L_box (v:=.agg #[v0_0,I c.bound]) (cs:=#[v0_0,I c.bound]) rfl rfl rfl hst (fun g5 w6 hst=>L_al (cs:=#[S0,I 0]) rfl Try.zeroValue41 rfl hst (fun g7 w8 hst=>nq ?_))))
 obtain ⟨x14,hx14,hF⟩:=bind_some hF
 refine W_region (fA 0 fa_41_0 rfl rfl (ldB 1 hst Try.isAgg39 rfl rfl rfl ?_))
 obtain ⟨H18b,l19,s20,z21,k22⟩:=hst.borrow
 refine L_call rfl Try.call121 (ops1 rfl) (slices_Clone_implTerm_c (s:=c.terms) s20 (RP.mono _ h0_0 l19) hx14) ?_
 rintro r23_0 w23 ⟨_,rfl,hst⟩
 have hst:=k22 hst (co closed_term c0)
 refine fA 0 fa_41_0 rfl rfl (L_stB (v:=r23_0) (cs2:=#[r23_0,I c.bound]) 2 rfl Try.sizeOf39 rfl rfl (one_len (Star.len 0 hst rfl)) hst rfl rfl rfl (fun w25 hst=>ns (L_lda (cs:=[r23_0,I c.bound]) rfl Try.isAgg41 Try.sizeOf41 rfl (At.sub0 (Blk.at (Star.blkAt 0 hst rfl)) 0 2) rfl (L_staB (vs:=#[r23_0,I c.bound]) (cs2:=#[r23_0,I c.bound]) 2 rfl Try.sizeOf41 rfl rfl rfl (ones_cons (one_len (Star.len 1 hst rfl)) (ones_cons rfl ones_nil)) hst rfl (by show 0 + 2≤2; decide) rfl (fun w27 hst=>nn (W_ret (retG1 (v1:=.agg #[r23_0,I c.bound]) Try.results89 (resV_agg Try.isAgg41 Try.sizeOf41 rfl (Star.blkAt 0 hst rfl) rfl) ?_)))))))
 obtain rfl:=so hF
 have hst:=hst.get 2 rfl
 exact ⟨r23_0,rfl,(Star.keepN 1 hst)⟩
theorem i_Constraint_changed_c {c : Con} {change : (Int→Option Int)} {v0_0 : Value} {v1 : Value} {H : FH} {w : World} {R : List Ass} (hst : Star H w R) (h0_0 : (rS 117 rTerm).rel H [v0_0] c.terms) (h1 : Fun1 Try.prog RP.int false (Value.int .i64) change v1 H) {r : Con × Bool} (hF : i_Constraint_changed c change = some r) :
 C Try.prog 149 #[.agg #[v0_0,I c.bound],v1] w fun v w'=>∃ H' : FH,Le H H'∧∃ (u1 : Value),v = .tuple #[.agg #[u1,I r.1.bound],Bo r.2]∧(rS 117 rTerm).rel H' [u1] r.1.terms∧Star H' w' (R):=by
 unfold i_Constraint_changed at hF
 obtain ⟨fid_1,caps_1,rfl,hcall_1,hc_1⟩:=h1
 refine C_enter Try.func149 rfl Try.ntmps149 rfl (sq (L_box (v:=.agg #[v0_0,I c.bound]) (cs:=#[v0_0,I c.bound]) rfl rfl rfl hst (fun g5 w6 hst=>L_al (cs:=#[S0,I 0]) rfl Try.zeroValue41 rfl hst (fun g7 w8 hst=>aB rfl (nq ?_)))))
 obtain ⟨x14,hx14,hF⟩:=bind_some hF
 refine W_region (L_lda (cs:=[v0_0,I c.bound]) rfl Try.isAgg41 Try.sizeOf41 rfl (At.sub0 (Blk.at (Star.blkAt 1 hst rfl)) 0 2) rfl ?_)
 obtain ⟨H20b,l21,s22,z23,k24⟩:=hst.borrow
 refine L_call rfl Try.call89 (ops1 rfl) (i_Constraint_own_c (c:=c) s22 (RP.mono _ h0_0 l21) hx14) ?_
 rintro _ w25 ⟨r25_0,rfl,hst⟩
 have hst:=k24 hst (co closed_term c0)
 refine L_al (cs:=#[S0,I 0]) rfl Try.zeroValue41 rfl hst (fun g27 w28 hst=>L_staB (vs:=#[r25_0,I x14.bound]) (cs2:=#[r25_0,I x14.bound]) 0 rfl Try.sizeOf41 rfl rfl rfl (ones_cons (one_len (Star.len 1 hst rfl)) (ones_cons rfl ones_nil)) hst rfl (by show 0 + 2≤2; decide) rfl (fun w29 hst=>nq ?_))
 obtain ⟨x30,hx30,hF⟩:=bind_some hF
 refine W_region (mV (.func (.func fid_1) #[] caps_1) rfl (fA 1 fa_41_1 rfl rfl (ldB 3 hst Try.isAgg3 rfl rfl rfl ?_)))
 obtain ⟨H38b,l39,s40,z41,k42⟩:=hst.borrow
 refine L_callv (args:=#[I c.bound]) rfl hcall_1 rfl (ops1 rfl) (hc_1 _ _ l39 s40 [I c.bound] _ _ _ rfl hx30 (args_app rfl)) ?_
 rintro _ w43 ⟨rfl,hst⟩
 have hst:=k42 hst c0
 refine fA 1 fa_41_1 rfl rfl (L_stB (v:=I x30) (cs2:=#[r25_0,I x30]) 0 rfl Try.sizeOf3 rfl rfl rfl hst rfl rfl rfl (fun w44 hst=>nq (sq (fA 0 fa_41_0 rfl rfl (ldB 0 hst Try.isAgg39 rfl rfl rfl (L_len rfl Try.underlying39 rfl (Star.len 1 hst rfl) (mI rfl (nn ?_))))))))
 have hlen49 : List.length x14.terms≤9223372036854775807:=len_le (Star.len 1 hst rfl)
 obtain ⟨j49,hL49,hF⟩:=bind_some hF
 obtain ⟨R49,hR49⟩:=exR fun f w_=>∃ g27_0_46 : List Term,∃ H47 : FH,j49 = .nx g27_0_46∧Le H H47∧f 4 = Pt g7∧f 6 = Pt g27∧Star H47 w_ (oF 117 rTerm r25_0 g27_0_46 :: box g27 41 #[r25_0,I x30] :: box g7 41 #[S0,I 0] :: R)
 refine W_join R49 ?_ ?_
 refine W_block ?_
 obtain ⟨I49,hI49⟩:=exI fun n f w_=>∃ i_45 : Nat,∃ suf49 : List Term,∃ g27_0_46 : List Term,∃ H47 : FH,n = suf49.length∧List.drop i_45 x14.terms = suf49∧i_45 + suf49.length = x14.terms.length∧rangeL (i_Constraint_changed_b1 change) suf49 i_45 g27_0_46 = some j49∧Le H H47∧f 1 = .func (.func fid_1) #[] caps_1∧f 4 = Pt g7∧f 6 = Pt g27∧f 17 = I (x14.terms.length : Int)∧f 18 = I i_45∧Star H47 w_ (oF 117 rTerm r25_0 g27_0_46 :: box g27 41 #[r25_0,I x30] :: box g7 41 #[S0,I 0] :: R)
 have hst:=hst.gets [2,1,2] rfl
 have hst:=Star.drop 3 hst rfl
 refine W_loop I49 (n:=x14.terms.length) ?_ ?_
 exact ij hI49 ⟨0,x14.terms,x14.terms,H,rfl,rfl,Nat.zero_add _,hL49,(Le.refl _),rfl,rfl,rfl,rfl,rfl,hst⟩
 intro n49 f w_ hI
 obtain ⟨i_45,suf49,g27_0_46,H47,rfl,hd49,hl49,hL49,l48,sf1,sf4,sf6,sf17,sf18,hst⟩:=ik hI49 hI
 refine sq (L_lss rfl sf18 sf17 (nq (W_cond (b:=decide ((i_45 : Int) < (x14.terms.length : Int))) rfl (fun hc50=>?_) (fun hc50=>?_))))
 have hlt49:=of_decide_eq_true hc50
 rcases suf49 with _ | ⟨x_49,rest49⟩
 exact absurd hlt49 (by simp at hl49; omega)
 obtain ⟨o49,hB49,hL49⟩:=range_cons hL49
 rw [i_Constraint_changed_b1] at hB49
 have hix49:=drop_idx hd49
 refine W_skip (W_seq (W_block (sq (mF sf18 rfl (aI rfl (nn ?_))))))
 obtain ⟨x51,hx51,hB49⟩:=bind_some hB49
 obtain ⟨x56,hx56,hB49⟩:=bind_some hB49
 obtain ⟨g65,cap_g65,hv66,_,_⟩:=Star.row 0 hst rfl hx51
 refine W_drawS 11 [isV (Pt g27),isV (r25_0),isV (I i_45),isV (.func (.func fid_1) #[] caps_1),isV (Pt g27),isV (r25_0),isV (I i_45),isV (.pointer (some ⟨g65,Int.toNat (i_45 : Int) * 2,none⟩)),isV (.pointer (some ⟨g65,Int.toNat (i_45 : Int) * 2 + 0,none⟩)),isV (I x51.coef),isV (I x56)] [oF 117 rTerm r25_0 g27_0_46,box g27 41 #[r25_0,I x30],box g7 41 #[S0,I 0]] [] (R) [([],[]),([],[]),([],[]),([],[]),([],[]),([],[]),([],[]),([],[]),([],[]),([],[]),([],[])] (S:=[]) Try_mix (by kernel_rfl) rfl (by kernel_rfl) (amF_cons (mono_V _) (amF_cons (mono_V _) (amF_cons (mono_V _) (amF_cons (mono_V _) (amF_cons (mono_V _) (amF_cons (mono_V _) (amF_cons (mono_V _) (amF_cons (mono_V _) (amF_cons (mono_V _) (amF_cons (mono_V _) (amF_cons (mono_V _) amF_nil))))))))))) hst ?_ (fun f w_ H64 hS64 hE64 hT64 hst=>?_)
 refine opsS_cons (fun f w_ _ _ s _ _ hst=>fA 0 fa_41_0 ((s 6 rfl).trans sf6) rfl (nO rfl rfl hst)) (opsS_cons (fun f w_ _ _ _ _ p hst=>ldB 1 hst Try.isAgg39 (p 0 21 rfl rfl) rfl rfl (nO rfl rfl hst)) (opsS_cons (fun f w_ _ _ s _ _ hst=>mF ((s 7 rfl).trans rfl) rfl (nO rfl rfl hst)) (opsS_cons (fun f w_ _ _ s _ _ hst=>mF ((s 1 rfl).trans sf1) rfl (nO rfl rfl hst)) (opsS_cons (fun f w_ _ _ s _ _ hst=>fA 0 fa_41_0 ((s 6 rfl).trans sf6) rfl (nO rfl rfl hst)) (opsS_cons (fun f w_ _ _ _ _ p hst=>ldB 1 hst Try.isAgg39 (p 4 25 rfl rfl) rfl rfl (nO rfl rfl hst)) (opsS_cons (fun f w_ _ _ s _ _ hst=>mF ((s 7 rfl).trans rfl) rfl (nO rfl rfl hst)) (opsS_cons (fun f w_ _ _ _ _ p hst=>L_ixO (R:=(OR.frz rTerm)) (tb:=0) 0 rfl Try.underlying39 Try.sizeOf117 (p 5 26 rfl rfl) hv66 (by first | rfl | simp) (p 6 27 rfl rfl) hx51 (nO rfl rfl hst)) (opsS_cons (fun f w_ _ _ _ _ p hst=>fA (Int.toNat (i_45 : Int) * 2 + 0) fa_117_0 (p 7 28 rfl rfl) rfl (nO rfl rfl hst)) (opsS_cons ?_ ?_)))))))))
 intro f w_ H64 X64 hS64 hE64 hP64 hst
 obtain ⟨cs75,hr75,hat75⟩:=Star.eltF 0 hst rfl hv66 hx51
 obtain rfl:=rTerm_iff.1 hr75
 refine L_ld rfl Try.isAgg3 (hP64 8 29 rfl rfl) (At.cell hat75 (j:=0) rfl) (L_nil ⟨rfl,_,_,rfl,Le.refl _,fun _ _=>rfl,hst⟩)
 refine opsS_cons ?_ ?_
 intro f w_ H64 X64 hS64 hE64 hP64 hst
 obtain ⟨H77b,l78,s79,z80,k81⟩:=hst.borrow
 refine L_callv (args:=#[I x51.coef]) rfl hcall_1 (hP64 3 24 rfl rfl) (ops1 (hP64 9 30 rfl rfl)) (hc_1 _ _ (Le.trans (Le.trans l48 hE64) l78) s79 [I x51.coef] _ _ _ rfl hx56 (args_app rfl)) ?_
 rintro _ w82 ⟨rfl,hst⟩
 have hst:=k81 hst c0
 exact L_nil ⟨rfl,_,_,rfl,Le.refl _,fun _ _=>rfl,hst⟩
 exact opsS_nil
 refine L_ixO (R:=(OR.frz rTerm)) (tb:=0) 0 rfl Try.underlying39 Try.sizeOf117 (hT64 1 22 rfl rfl) hv66 (by first | rfl | simp) (hT64 2 23 rfl rfl) hx51 (fA (Int.toNat (i_45 : Int) * 2 + 0) fa_117_0 rfl rfl (L_stF (j:=0) (u:=I x56) (z:={ x51 with coef:=x56 }) rfl Try.sizeOf3 rfl rfl (hT64 10 31 rfl rfl) rfl hv66 hst hx51 fldF_rTerm_0 (fun w83 hst=>nn (W_region (L_add rfl ((hS64 18 rfl).trans sf18) rfl (mI rfl (nn ?_)))))))
 obtain rfl:=so hB49
 show ∃ m,m < _∧I49 m _ _
 refine ⟨rest49.length,by simp,?_⟩
 exact ij hI49 ⟨i_45 + 1,rest49,(g27_0_46.set (Int.toNat (i_45 : Int)) ({ x51 with coef:=x56 })),H64,rfl,drop_next hd49,by simp at hl49; omega,hL49,(Le.trans l48 hE64),((hS64 1 rfl).trans sf1),((hS64 4 rfl).trans sf4),((hS64 6 rfl).trans sf6),((hS64 17 rfl).trans sf17),(Eq.trans rfl (congrArg (Value.int .i64) (i64_succ (n:=x14.terms.length) (by simp at hl49; omega) hlen49))),hst⟩
 rcases suf49 with _ | ⟨_,_⟩
 obtain rfl:=range_nil hL49
 refine W_exit (rj hR49 ⟨g27_0_46,H47,rfl,l48,sf4,sf6,hst⟩)
 exact absurd (of_decide_eq_false hc50) (by simp at hl49; omega)
 intro f w_ hR
 obtain ⟨g27_0_46,H47,rfl,l48,sf4,sf6,hst⟩:=rk hR49 hR
 refine W_seq ?_
 obtain ⟨x87,hx87,hF⟩:=bind_some hF
 refine W_region (L_lda (cs:=[r25_0,I x30]) rfl Try.isAgg41 Try.sizeOf41 sf6 (At.sub0 (Blk.at (Star.blkAt 1 hst rfl)) 0 2) rfl ?_)
 obtain ⟨H90,l91,hst,hz92⟩:=Star.freeze hst
 have hz92 : (rS 117 rTerm).rel H90 [r25_0] g27_0_46:=hz92
 refine L_call rfl Try.call154 (ops1 rfl) (i_Constraint_valid_c (c:=({ terms:=g27_0_46,bound:=x30 } : Con)) hst hz92 hx87) ?_
 rintro _ w93 ⟨H93,l93,r93_0,rfl,hr93_0,hst⟩
 refine L_ex (v:=.agg #[r93_0,I x87.1.bound]) rfl rfl rfl (L_ex (v:=Bo x87.2) rfl rfl rfl (L_staB (vs:=#[r93_0,I x87.1.bound]) (cs2:=#[r93_0,I x87.1.bound]) 1 rfl Try.sizeOf41 sf4 rfl rfl (ones_cons (one_len (slice_len hr93_0)) (ones_cons rfl ones_nil)) hst rfl (by show 0 + 2≤2; decide) rfl (fun w94 hst=>aB rfl (nn (W_ret (retG2 (v1:=.agg #[r93_0,I x87.1.bound]) (v2:=Bo x87.2) Try.results149 (resV_agg Try.isAgg41 Try.sizeOf41 sf4 (Star.blkAt 0 hst rfl) rfl) rfl ?_))))))
 obtain rfl:=so hF
 have hst:=Star.drop 0 hst rfl
 have hst:=Star.drop 0 hst rfl
 exact ⟨H93,(Le.trans (Le.trans l48 l91) l93),r93_0,rfl,hr93_0,hst⟩
theorem i_MultiplyConstraint_1_c {c1 : Int} {n_ : Int} {g_c1 : Nat} {H : FH} {w : World} (hst : Star H w []) (hat_g_c1 : AtH H g_c1 0 [I c1]) {r : Int} (hF : i_MultiplyConstraint_1 c1 n_ = some r) :
 C Try.prog 150 #[I n_,Pt g_c1] w fun v w'=>v = I r∧Star H w' []:=by
 unfold i_MultiplyConstraint_1 at hF
 refine C_enter Try.func150 rfl Try.ntmps150 rfl (sq (aI rfl (ns (mI rfl (L_ld rfl Try.isAgg3 rfl (At.cell0 (AtH.at hat_g_c1 hst.sub) (j:=0) rfl) (L_mul rfl rfl rfl (aI rfl (nn (W_ret (retG1 (v1:=I (i64 (n_ * c1))) Try.results150 rfl ?_))))))))))
 obtain rfl:=so hF
 exact ⟨rfl,hst⟩
theorem i_MultiplyConstraint_c {c : Con} {k : Int} {v0_0 : Value} {H : FH} {w : World} {R : List Ass} (hst : Star H w R) (h0_0 : (rS 117 rTerm).rel H [v0_0] c.terms) {r : Con × Bool} (hF : i_MultiplyConstraint c k = some r) :
 C Try.prog 131 #[.agg #[v0_0,I c.bound],I k] w fun v w'=>∃ H' : FH,Le H H'∧∃ (u1 : Value),v = .tuple #[.agg #[u1,I r.1.bound],Bo r.2]∧(rS 117 rTerm).rel H' [u1] r.1.terms∧Star H' w' (R):=by
 unfold i_MultiplyConstraint at hF
 refine C_enter Try.func131 rfl Try.ntmps131 rfl (sq (L_box (v:=.agg #[v0_0,I c.bound]) (cs:=#[v0_0,I c.bound]) rfl rfl rfl hst (fun g7 w8 hst=>L_box (v:=I k) (cs:=#[I k]) rfl rfl rfl hst (fun g9 w10 hst=>L_al (cs:=#[S0,I 0]) rfl Try.zeroValue41 rfl hst (fun g11 w12 hst=>aB rfl (nq (W_seq ?_)))))))
 obtain ⟨x18,hx18,hF⟩:=bind_some hF
 obtain ⟨b27,hb27,hF⟩:=bind_some hF
 obtain ⟨R28,hR28⟩:=exR fun f w_=>f 2 = Pt g7∧f 3 = Pt g9∧f 4 = Pt g11∧f 13 = Bo b27∧Star H w_ (box g11 41 #[S0,I 0] :: box g9 3 #[I k] :: box g7 41 #[v0_0,I c.bound] :: R)
 refine W_join R28 ?_ ?_
 refine W_region (L_lda (cs:=[v0_0,I c.bound]) rfl Try.isAgg41 Try.sizeOf41 rfl (At.sub0 (Blk.at (Star.blkAt 2 hst rfl)) 0 2) rfl ?_)
 obtain ⟨H29b,l30,s31,z32,k33⟩:=hst.borrow
 refine L_call rfl Try.call61 (ops1 rfl) (i_ConstraintValid_c (c:=c) s31 (RP.mono _ h0_0 l30) hx18) ?_
 rintro _ w34 ⟨rfl,hst⟩
 have hst:=k33 hst c0
 refine L_not_ rfl rfl (mB rfl (L_split (d:=9) (b:=(!x18)) rfl (fun hc35=>?_) (fun hc35=>?_)))
 rw [ite_t hc35] at hb27
 refine ps rfl (ps rfl (ps rfl (L_pick (v:=Bo b27) rfl rfl (congrArg Value.bool (so hb27)) (nn (rj hR28 ⟨rfl,rfl,rfl,rfl,hst⟩)))))
 rw [ite_f hc35] at hb27
 obtain ⟨x25,hx25,hb27⟩:=bind_some hb27
 refine ldB 1 hst Try.isAgg3 rfl rfl rfl ?_
 obtain ⟨H36b,l37,s38,z39,k40⟩:=hst.borrow
 refine L_call rfl Try.call106 (ops3 rfl rfl rfl) (i_within_c (n_:=k) (low:=1) (high:=1000) s38 hx25) ?_
 rintro _ w41 ⟨rfl,hst⟩
 have hst:=k40 hst c0
 refine L_not_ rfl rfl (L_pick (v:=Bo b27) rfl rfl (congrArg Value.bool (so hb27)) (nn (rj hR28 ⟨rfl,rfl,rfl,rfl,hst⟩)))
 intro f w_ hR
 obtain ⟨sf2,sf3,sf4,sf13,hst⟩:=rk hR28 hR
 refine W_cond (b:=b27) sf13 (fun hc42=>?_) (fun hc42=>?_)
 have hF:=(ite_t hc42).symm.trans hF
 refine sq (L_bld rfl (parts0 ) (bld_41_  ) (L_staB (vs:=#[S0,I 0]) (cs2:=#[S0,I 0]) 0 rfl Try.sizeOf41 sf4 rfl rfl (ones_cons rfl (ones_cons rfl ones_nil)) hst rfl (by show 0 + 2≤2; decide) rfl (fun w44 hst=>aB rfl (nn (W_ret (retG2 (v1:=.agg #[S0,I 0]) (v2:=Bo false) Try.results131 (resV_agg Try.isAgg41 Try.sizeOf41 sf4 (Star.blkAt 0 hst rfl) rfl) rfl ?_))))))
 obtain rfl:=so hF
 have hst:=Star.drop 0 hst rfl
 have hst:=Star.drop 0 hst rfl
 have hst:=Star.drop 0 hst rfl
 exact ⟨H,(Le.refl _),S0,rfl,(rel_nil _ _ _),hst⟩
 have hF:=(ite_f hc42).symm.trans hF
 refine W_skip (W_seq ?_)
 obtain ⟨x48,hx48,hF⟩:=bind_some hF
 refine W_region (L_lda (cs:=[v0_0,I c.bound]) rfl Try.isAgg41 Try.sizeOf41 sf2 (At.sub0 (Blk.at (Star.blkAt 2 hst rfl)) 0 2) rfl (L_mf rfl (ops1 sf3) ?_))
 have hst:=hst.get 1 rfl
 obtain ⟨H51,l52,hst,hz_hat53⟩:=Star.freeze hst
 have hat53 : AtH H51 g9 0 [I k]:=AtH.of hz_hat53
 have hf54 : Fun1 Try.prog RP.int false (Value.int .i64) (i_MultiplyConstraint_1 k) (.func (.func 150) #[] #[Pt g9]) H51:=by
   refine ⟨_,_,rfl,Try.call150,fun H_ w_ hE_ hs_ cs_ x_ y_ args_ hr_ hy_ ha_=>?_⟩
   obtain rfl : cs_ = [_]:=hr_
   obtain rfl:=args_of (b:=#[I x_,Pt g9]) ha_
   exact i_MultiplyConstraint_1_c (c1:=k) (n_:=x_) hs_ (AtH.le (AtH.le hat53 (Le.refl _)) hE_) hy_
 refine L_call rfl Try.call149 (ops2 rfl rfl) (i_Constraint_changed_c (c:=c) (change:=(i_MultiplyConstraint_1 k)) hst (RP.mono _ h0_0 l52) hf54 hx48) ?_
 rintro _ w55 ⟨H55,l55,r55_0,rfl,hr55_0,hst⟩
 refine L_ex (v:=.agg #[r55_0,I x48.1.bound]) rfl rfl rfl (L_ex (v:=Bo x48.2) rfl rfl rfl (L_staB (vs:=#[r55_0,I x48.1.bound]) (cs2:=#[r55_0,I x48.1.bound]) 0 rfl Try.sizeOf41 sf4 rfl rfl (ones_cons (one_len (slice_len hr55_0)) (ones_cons rfl ones_nil)) hst rfl (by show 0 + 2≤2; decide) rfl (fun w56 hst=>aB rfl (nn (W_ret (retG2 (v1:=.agg #[r55_0,I x48.1.bound]) (v2:=Bo x48.2) Try.results131 (resV_agg Try.isAgg41 Try.sizeOf41 sf4 (Star.blkAt 0 hst rfl) rfl) rfl ?_))))))
 obtain rfl:=so hF
 have hst:=Star.drop 0 hst rfl
 have hst:=Star.drop 0 hst rfl
 exact ⟨H55,(Le.trans l52 l55),r55_0,rfl,hr55_0,hst⟩
theorem i_DivideConstraint_1_c {c1 : Int} {n_ : Int} {g_c1 : Nat} {H : FH} {w : World} (hst : Star H w []) (hat_g_c1 : AtH H g_c1 0 [I c1]) {r : Int} (hF : i_DivideConstraint_1 c1 n_ = some r) :
 C Try.prog 151 #[I n_,Pt g_c1] w fun v w'=>v = I r∧Star H w' []:=by
 unfold i_DivideConstraint_1 at hF
 refine C_enter Try.func151 rfl Try.ntmps151 rfl (sq (aI rfl (nq ?_)))
 obtain ⟨q1,hq1,hF⟩:=bind_some hF
 refine W_region (mI rfl (L_ld rfl Try.isAgg3 rfl (At.cell0 (AtH.at hat_g_c1 hst.sub) (j:=0) rfl) (L_add rfl rfl rfl (L_sub rfl rfl rfl (L_ld rfl Try.isAgg3 rfl (At.cell0 (AtH.at hat_g_c1 hst.sub) (j:=0) rfl) (L_quo (m:=i64 ((i64 (n_ + c1)) - 1)) (n:=c1) rfl rfl rfl (fun he=>by rw [if_pos he] at hq1; cases hq1) (aI rfl (nn (W_ret (retG1 (v1:=I (i64 (Int.tdiv (i64 ((i64 (n_ + c1)) - 1)) c1))) Try.results151 rfl ?_))))))))))
 obtain rfl:=so hF
 exact ⟨rfl,hst⟩
theorem i_DivideConstraint_c {c : Con} {k : Int} {v0_0 : Value} {H : FH} {w : World} {R : List Ass} (hst : Star H w R) (h0_0 : (rS 117 rTerm).rel H [v0_0] c.terms) {r : Con × Bool} (hF : i_DivideConstraint c k = some r) :
 C Try.prog 132 #[.agg #[v0_0,I c.bound],I k] w fun v w'=>∃ H' : FH,Le H H'∧∃ (u1 : Value),v = .tuple #[.agg #[u1,I r.1.bound],Bo r.2]∧(rS 117 rTerm).rel H' [u1] r.1.terms∧Star H' w' (R):=by
 unfold i_DivideConstraint at hF
 refine C_enter Try.func132 rfl Try.ntmps132 rfl (sq (L_box (v:=.agg #[v0_0,I c.bound]) (cs:=#[v0_0,I c.bound]) rfl rfl rfl hst (fun g7 w8 hst=>L_box (v:=I k) (cs:=#[I k]) rfl rfl rfl hst (fun g9 w10 hst=>L_al (cs:=#[S0,I 0]) rfl Try.zeroValue41 rfl hst (fun g11 w12 hst=>aB rfl (nq (W_seq ?_)))))))
 obtain ⟨x18,hx18,hF⟩:=bind_some hF
 obtain ⟨b27,hb27,hF⟩:=bind_some hF
 obtain ⟨R28,hR28⟩:=exR fun f w_=>f 2 = Pt g7∧f 3 = Pt g9∧f 4 = Pt g11∧f 13 = Bo b27∧Star H w_ (box g11 41 #[S0,I 0] :: box g9 3 #[I k] :: box g7 41 #[v0_0,I c.bound] :: R)
 refine W_join R28 ?_ ?_
 refine W_region (L_lda (cs:=[v0_0,I c.bound]) rfl Try.isAgg41 Try.sizeOf41 rfl (At.sub0 (Blk.at (Star.blkAt 2 hst rfl)) 0 2) rfl ?_)
 obtain ⟨H29b,l30,s31,z32,k33⟩:=hst.borrow
 refine L_call rfl Try.call61 (ops1 rfl) (i_ConstraintValid_c (c:=c) s31 (RP.mono _ h0_0 l30) hx18) ?_
 rintro _ w34 ⟨rfl,hst⟩
 have hst:=k33 hst c0
 refine L_not_ rfl rfl (mB rfl (L_split (d:=9) (b:=(!x18)) rfl (fun hc35=>?_) (fun hc35=>?_)))
 rw [ite_t hc35] at hb27
 refine ps rfl (ps rfl (ps rfl (L_pick (v:=Bo b27) rfl rfl (congrArg Value.bool (so hb27)) (nn (rj hR28 ⟨rfl,rfl,rfl,rfl,hst⟩)))))
 rw [ite_f hc35] at hb27
 obtain ⟨x25,hx25,hb27⟩:=bind_some hb27
 refine ldB 1 hst Try.isAgg3 rfl rfl rfl ?_
 obtain ⟨H36b,l37,s38,z39,k40⟩:=hst.borrow
 refine L_call rfl Try.call106 (ops3 rfl rfl rfl) (i_within_c (n_:=k) (low:=1) (high:=1000) s38 hx25) ?_
 rintro _ w41 ⟨rfl,hst⟩
 have hst:=k40 hst c0
 refine L_not_ rfl rfl (L_pick (v:=Bo b27) rfl rfl (congrArg Value.bool (so hb27)) (nn (rj hR28 ⟨rfl,rfl,rfl,rfl,hst⟩)))
 intro f w_ hR
 obtain ⟨sf2,sf3,sf4,sf13,hst⟩:=rk hR28 hR
 refine W_cond (b:=b27) sf13 (fun hc42=>?_) (fun hc42=>?_)
 have hF:=(ite_t hc42).symm.trans hF
 refine sq (L_bld rfl (parts0 ) (bld_41_  ) (L_staB (vs:=#[S0,I 0]) (cs2:=#[S0,I 0]) 0 rfl Try.sizeOf41 sf4 rfl rfl (ones_cons rfl (ones_cons rfl ones_nil)) hst rfl (by show 0 + 2≤2; decide) rfl (fun w44 hst=>aB rfl (nn (W_ret (retG2 (v1:=.agg #[S0,I 0]) (v2:=Bo false) Try.results132 (resV_agg Try.isAgg41 Try.sizeOf41 sf4 (Star.blkAt 0 hst rfl) rfl) rfl ?_))))))
 obtain rfl:=so hF
 have hst:=Star.drop 0 hst rfl
 have hst:=Star.drop 0 hst rfl
 have hst:=Star.drop 0 hst rfl
 exact ⟨H,(Le.refl _),S0,rfl,(rel_nil _ _ _),hst⟩
 have hF:=(ite_f hc42).symm.trans hF
 refine W_skip (W_seq ?_)
 obtain ⟨x48,hx48,hF⟩:=bind_some hF
 refine W_region (L_lda (cs:=[v0_0,I c.bound]) rfl Try.isAgg41 Try.sizeOf41 sf2 (At.sub0 (Blk.at (Star.blkAt 2 hst rfl)) 0 2) rfl (L_mf rfl (ops1 sf3) ?_))
 have hst:=hst.get 1 rfl
 obtain ⟨H51,l52,hst,hz_hat53⟩:=Star.freeze hst
 have hat53 : AtH H51 g9 0 [I k]:=AtH.of hz_hat53
 have hf54 : Fun1 Try.prog RP.int false (Value.int .i64) (i_DivideConstraint_1 k) (.func (.func 151) #[] #[Pt g9]) H51:=by
   refine ⟨_,_,rfl,Try.call151,fun H_ w_ hE_ hs_ cs_ x_ y_ args_ hr_ hy_ ha_=>?_⟩
   obtain rfl : cs_ = [_]:=hr_
   obtain rfl:=args_of (b:=#[I x_,Pt g9]) ha_
   exact i_DivideConstraint_1_c (c1:=k) (n_:=x_) hs_ (AtH.le (AtH.le hat53 (Le.refl _)) hE_) hy_
 refine L_call rfl Try.call149 (ops2 rfl rfl) (i_Constraint_changed_c (c:=c) (change:=(i_DivideConstraint_1 k)) hst (RP.mono _ h0_0 l52) hf54 hx48) ?_
 rintro _ w55 ⟨H55,l55,r55_0,rfl,hr55_0,hst⟩
 refine L_ex (v:=.agg #[r55_0,I x48.1.bound]) rfl rfl rfl (L_ex (v:=Bo x48.2) rfl rfl rfl (L_staB (vs:=#[r55_0,I x48.1.bound]) (cs2:=#[r55_0,I x48.1.bound]) 0 rfl Try.sizeOf41 sf4 rfl rfl (ones_cons (one_len (slice_len hr55_0)) (ones_cons rfl ones_nil)) hst rfl (by show 0 + 2≤2; decide) rfl (fun w56 hst=>aB rfl (nn (W_ret (retG2 (v1:=.agg #[r55_0,I x48.1.bound]) (v2:=Bo x48.2) Try.results132 (resV_agg Try.isAgg41 Try.sizeOf41 sf4 (Star.blkAt 0 hst rfl) rfl) rfl ?_))))))
 obtain rfl:=so hF
 have hst:=Star.drop 0 hst rfl
 have hst:=Star.drop 0 hst rfl
 exact ⟨H55,(Le.trans l52 l55),r55_0,rfl,hr55_0,hst⟩
theorem i_SaturateConstraint_c {c : Con} {v0_0 : Value} {H : FH} {w : World} (hst : Star H w []) (h0_0 : (rS 117 rTerm).rel H [v0_0] c.terms) {r : Con × Bool} (hF : i_SaturateConstraint c = some r) :
 C Try.prog 133 #[.agg #[v0_0,I c.bound]] w fun v w'=>∃ (u1 : Value),v = .tuple #[.agg #[u1,I r.1.bound],Bo r.2]∧Star H w' [oF 117 rTerm u1 r.1.terms]:=by
 unfold i_SaturateConstraint at hF
 refine C_enter Try.func133 rfl Try.ntmps133 rfl (sq (L_box (v:=.agg #[v0_0,I c.bound]) (cs:=#[v0_0,I c.bound]) rfl rfl rfl hst (fun g5 w6 hst=>L_al (cs:=#[S0,I 0]) rfl Try.zeroValue41 rfl hst (fun g7 w8 hst=>aB rfl (nq (W_seq ?_))))))
 obtain ⟨x14,hx14,hF⟩:=bind_some hF
 refine W_region (L_lda (cs:=[v0_0,I c.bound]) rfl Try.isAgg41 Try.sizeOf41 rfl (At.sub0 (Blk.at (Star.blkAt 1 hst rfl)) 0 2) rfl ?_)
 obtain ⟨H16b,l17,s18,z19,k20⟩:=hst.borrow
 refine L_call rfl Try.call61 (ops1 rfl) (i_ConstraintValid_c (c:=c) s18 (RP.mono _ h0_0 l17) hx14) ?_
 rintro _ w21 ⟨rfl,hst⟩
 have hst:=k20 hst c0
 refine L_not_ rfl rfl (nn (W_cond (b:=(!x14)) rfl (fun hc22=>?_) (fun hc22=>?_)))
 have hF:=(ite_t hc22).symm.trans hF
 refine sq (L_bld rfl (parts0 ) (bld_41_  ) (L_staB (vs:=#[S0,I 0]) (cs2:=#[S0,I 0]) 0 rfl Try.sizeOf41 rfl rfl rfl (ones_cons rfl (ones_cons rfl ones_nil)) hst rfl (by show 0 + 2≤2; decide) rfl (fun w24 hst=>aB rfl (nn (W_ret (retG2 (v1:=.agg #[S0,I 0]) (v2:=Bo false) Try.results133 (resV_agg Try.isAgg41 Try.sizeOf41 rfl (Star.blkAt 0 hst rfl) rfl) rfl ?_))))))
 obtain rfl:=so hF
 have hst:=Star.addNil (R:=(OR.frz rTerm)) (e:=117) hst
 exact ⟨S0,rfl,(Star.keepN 1 hst)⟩
 have hF:=(ite_f hc22).symm.trans hF
 refine W_skip (sq (fA 1 fa_41_1 rfl rfl (ldB 1 hst Try.isAgg3 rfl rfl rfl (L_bld rfl (parts1 rfl) (bld_41_1 (I c.bound) rfl) (L_al (cs:=#[S0,I 0]) rfl Try.zeroValue41 rfl hst (fun g29 w30 hst=>L_staB (vs:=#[S0,I c.bound]) (cs2:=#[S0,I c.bound]) 0 rfl Try.sizeOf41 rfl rfl rfl (ones_cons rfl (ones_cons rfl ones_nil)) hst rfl (by show 0 + 2≤2; decide) rfl (fun w31 hst=>nq (sq (fA 1 fa_41_1 rfl rfl (ldB 2 hst Try.isAgg3 rfl rfl rfl (L_gtr rfl rfl rfl (nn ?_))))))))))))
 obtain ⟨g29_0_32,hA34,hF⟩:=bind_some hF
 obtain ⟨R34,hR34⟩:=exR fun f w_=>∃ v32_g29_0 : Value,f 2 = Pt g7∧f 4 = Pt g29∧Star H w_ ([oF 117 rTerm v32_g29_0 g29_0_32,box g29 41 #[v32_g29_0,I c.bound],box g7 41 #[S0,I 0]])
 refine W_join R34 ?_ ?_
 refine W_cond (b:=decide (c.bound > 0)) rfl (fun hc35=>?_) (fun hc35=>?_)
 have hA34:=(ite_t hc35).symm.trans hA34
 refine sq (fA 0 fa_41_0 rfl rfl (ldB 2 hst Try.isAgg39 rfl rfl rfl (L_len rfl Try.underlying39 rfl (slice_len h0_0) (mI rfl (nn ?_)))))
 have hlen39 : List.length c.terms≤9223372036854775807:=len_le (slice_len h0_0)
 obtain ⟨j39,hL39,hA34⟩:=bind_some hA34
 obtain ⟨R39,hR39⟩:=exR fun f w_=>∃ g29_0_37 : List Term,∃ v37_g29_0 : Value,j39 = .nx g29_0_37∧f 2 = Pt g7∧f 4 = Pt g29∧Star H w_ ([oF 117 rTerm v37_g29_0 g29_0_37,box g29 41 #[v37_g29_0,I c.bound],box g7 41 #[S0,I 0]])
 refine W_join R39 ?_ ?_
 refine W_block ?_
 obtain ⟨I39,hI39⟩:=exI fun n f w_=>∃ i_36 : Nat,∃ suf39 : List Term,∃ g29_0_37 : List Term,∃ v37_g29_0 : Value,n = suf39.length∧List.drop i_36 c.terms = suf39∧i_36 + suf39.length = c.terms.length∧rangeL (i_SaturateConstraint_b1 c) suf39 i_36 g29_0_37 = some j39∧f 1 = Pt g5∧f 2 = Pt g7∧f 4 = Pt g29∧f 18 = v0_0∧f 19 = I (c.terms.length : Int)∧f 20 = I i_36∧Star H w_ ([oF 117 rTerm v37_g29_0 g29_0_37,box g29 41 #[v37_g29_0,I c.bound],box g7 41 #[S0,I 0],box g5 41 #[v0_0,I c.bound]])
 have hst:=Star.addNil (R:=(OR.frz rTerm)) (e:=117) hst
 refine W_loop I39 (n:=c.terms.length) ?_ ?_
 exact ij hI39 ⟨0,c.terms,[],S0,rfl,rfl,Nat.zero_add _,hL39,rfl,rfl,rfl,rfl,rfl,rfl,hst⟩
 intro n39 f w_ hI
 obtain ⟨i_36,suf39,g29_0_37,v37_g29_0,rfl,hd39,hl39,hL39,sf1,sf2,sf4,sf18,sf19,sf20,hst⟩:=ik hI39 hI
 refine sq (L_lss rfl sf20 sf19 (nq (W_cond (b:=decide ((i_36 : Int) < (c.terms.length : Int))) rfl (fun hc41=>?_) (fun hc41=>?_))))
 have hlt39:=of_decide_eq_true hc41
 rcases suf39 with _ | ⟨x_39,rest39⟩
 exact absurd hlt39 (by simp at hl39; omega)
 obtain ⟨o39,hB39,hL39⟩:=range_cons hL39
 rw [i_SaturateConstraint_b1] at hB39
 have hix39:=drop_idx hd39
 refine W_skip (W_seq (W_block (sq (L_ix (r:=rTerm) rfl Try.underlying39 Try.sizeOf117 sf18 h0_0 sf20 hix39 (fun g49 o50 cs_g49 hrk_hat51 hat51=>?_)))))
 obtain rfl:=rTerm_iff.1 hrk_hat51
 refine L_lda (cs:=[I x_39.coef,I x_39.lit]) rfl Try.isAgg117 Try.sizeOf117 rfl (At.sub (AtH.at hat51 hst.sub) 0 2) rfl (L_al (cs:=#[I 0,I 0]) rfl Try.zeroValue117 rfl hst (fun g53 w54 hst=>L_staB (vs:=#[I x_39.coef,I x_39.lit]) (cs2:=#[I x_39.coef,I x_39.lit]) 0 rfl Try.sizeOf117 rfl rfl rfl (ones_cons rfl (ones_cons rfl ones_nil)) hst rfl (by show 0 + 2≤2; decide) rfl (fun w55 hst=>nn ?_)))
 obtain ⟨x59,hx59,hB39⟩:=bind_some hB39
 refine W_region (fA 0 fa_41_0 sf4 rfl (ldB 2 hst Try.isAgg39 rfl rfl rfl (fA 0 fa_117_0 rfl rfl (ldB 0 hst Try.isAgg3 rfl rfl rfl (fA 1 fa_41_1 sf1 rfl (ldB 4 hst Try.isAgg3 rfl rfl rfl (L_min rfl rfl rfl (fA 1 fa_117_1 rfl rfl (ldB 0 hst Try.isAgg3 rfl rfl rfl (L_bld rfl (parts2 rfl rfl) (bld_117_0_1 (I (min x_39.coef c.bound)) (I x_39.lit) rfl rfl) (L_bs rfl (parts1 rfl) (bs_39_1_2 (I (min x_39.coef c.bound)) (I x_39.lit) ) hst (fun g64 w65 hst=>?_))))))))))))
 have hst:=Star.addF (r:=rTerm) (cs:=[I (min x_39.coef c.bound),I x_39.lit]) (x:=({ coef:=min x_39.coef c.bound,lit:=x_39.lit } : Term)) hst (rTerm_iff.2 rfl)
 have hst:=Star.mkRow (R:=(OR.frz rTerm)) [([I (min x_39.coef c.bound),I x_39.lit],({ coef:=min x_39.coef c.bound,lit:=x_39.lit } : Term))] [({ coef:=min x_39.coef c.bound,lit:=x_39.lit } : Term)] 1 hst rfl rfl rfl (by decide)
 have hst:=hst.get 2 rfl
 refine L_appM (v:=v37_g29_0) (u:=(Sl g64 1 1)) rfl et_39 rfl rfl hst hx59 (fun v67 w68 hst=>fA 0 fa_41_0 sf4 rfl (L_stB (v:=v67) (cs2:=#[v67,I c.bound]) 2 rfl Try.sizeOf39 rfl rfl (one_len (Star.len 0 hst rfl)) hst rfl rfl rfl (fun w70 hst=>nn (W_region (L_add rfl sf20 rfl (mI rfl (nn ?_)))))))
 obtain rfl:=so hB39
 have hst:=hst.gets [4,4,2,3] rfl
 show ∃ m,m < _∧I39 m _ _
 refine ⟨rest39.length,by simp,?_⟩
 exact ij hI39 ⟨i_36 + 1,rest39,x59,v67,rfl,drop_next hd39,by simp at hl39; omega,hL39,sf1,sf2,sf4,sf18,sf19,(Eq.trans rfl (congrArg (Value.int .i64) (i64_succ (n:=c.terms.length) (by simp at hl39; omega) hlen39))),(Star.keepN 4 hst)⟩
 rcases suf39 with _ | ⟨_,_⟩
 obtain rfl:=range_nil hL39
 refine W_exit (rj hR39 ⟨g29_0_37,v37_g29_0,rfl,sf2,sf4,(Star.keepN 3 hst)⟩)
 exact absurd (of_decide_eq_false hc41) (by simp at hl39; omega)
 intro f w_ hR
 obtain ⟨g29_0_37,v37_g29_0,rfl,sf2,sf4,hst⟩:=rk hR39 hR
 obtain rfl:=so hA34
 exact rj hR34 ⟨v37_g29_0,sf2,sf4,hst⟩
 have hA34:=(ite_f hc35).symm.trans hA34
 refine W_skip ?_
 obtain rfl:=so hA34
 have hst:=Star.addNil (R:=(OR.frz rTerm)) (e:=117) hst
 exact rj hR34 ⟨S0,rfl,rfl,(Star.keepN 3 hst)⟩
 intro f w_ hR
 obtain ⟨v32_g29_0,sf2,sf4,hst⟩:=rk hR34 hR
 refine sq (L_lda (cs:=[v32_g29_0,I c.bound]) rfl Try.isAgg41 Try.sizeOf41 sf4 (At.sub0 (Blk.at (Star.blkAt 1 hst rfl)) 0 2) rfl (L_staB (vs:=#[v32_g29_0,I c.bound]) (cs2:=#[v32_g29_0,I c.bound]) 2 rfl Try.sizeOf41 sf2 rfl rfl (ones_cons (one_len (Star.len 0 hst rfl)) (ones_cons rfl ones_nil)) hst rfl (by show 0 + 2≤2; decide) rfl (fun w73 hst=>aB rfl (nn (W_ret (retG2 (v1:=.agg #[v32_g29_0,I c.bound]) (v2:=Bo true) Try.results133 (resV_agg Try.isAgg41 Try.sizeOf41 sf2 (Star.blkAt 0 hst rfl) rfl) rfl ?_))))))
 obtain rfl:=so hF
 have hst:=hst.get 1 rfl
 exact ⟨v32_g29_0,rfl,(Star.keepN 1 hst)⟩
theorem i_WeakenConstraint_c {c : Con} {variable_ : Int} {v0_0 : Value} {H : FH} {w : World} (hst : Star H w []) (h0_0 : (rS 117 rTerm).rel H [v0_0] c.terms) {r : Con × Bool} (hF : i_WeakenConstraint c variable_ = some r) :
 C Try.prog 134 #[.agg #[v0_0,I c.bound],I variable_] w fun v w'=>∃ (u1 : Value),v = .tuple #[.agg #[u1,I r.1.bound],Bo r.2]∧Star H w' [oF 117 rTerm u1 r.1.terms]:=by
 unfold i_WeakenConstraint at hF
 refine C_enter Try.func134 rfl Try.ntmps134 rfl (sq (L_box (v:=.agg #[v0_0,I c.bound]) (cs:=#[v0_0,I c.bound]) rfl rfl rfl hst (fun g5 w6 hst=>L_al (cs:=#[S0,I 0]) rfl Try.zeroValue41 rfl hst (fun g7 w8 hst=>aB rfl (nq (W_seq ?_))))))
 obtain ⟨x14,hx14,hF⟩:=bind_some hF
 obtain ⟨b23,hb23,hF⟩:=bind_some hF
 obtain ⟨R24,hR24⟩:=exR fun f w_=>f 1 = I variable_∧f 2 = Pt g5∧f 4 = Pt g7∧f 16 = Bo b23∧Star H w_ ([box g7 41 #[S0,I 0],box g5 41 #[v0_0,I c.bound]])
 refine W_join R24 ?_ ?_
 refine W_region (L_lda (cs:=[v0_0,I c.bound]) rfl Try.isAgg41 Try.sizeOf41 rfl (At.sub0 (Blk.at (Star.blkAt 1 hst rfl)) 0 2) rfl ?_)
 obtain ⟨H25b,l26,s27,z28,k29⟩:=hst.borrow
 refine L_call rfl Try.call61 (ops1 rfl) (i_ConstraintValid_c (c:=c) s27 (RP.mono _ h0_0 l26) hx14) ?_
 rintro _ w30 ⟨rfl,hst⟩
 have hst:=k29 hst c0
 refine L_not_ rfl rfl (mB rfl (L_split (d:=12) (b:=(!x14)) rfl (fun hc31=>?_) (fun hc31=>?_)))
 rw [ite_t hc31] at hb23
 refine ps rfl (ps rfl (ps rfl (L_pick (v:=Bo b23) rfl rfl (congrArg Value.bool (so hb23)) (nn (rj hR24 ⟨rfl,rfl,rfl,rfl,hst⟩)))))
 rw [ite_f hc31] at hb23
 obtain ⟨x21,hx21,hb23⟩:=bind_some hb23
 refine mI rfl ?_
 obtain ⟨H32b,l33,s34,z35,k36⟩:=hst.borrow
 refine L_call rfl Try.call106 (ops3 rfl rfl rfl) (i_within_c (n_:=variable_) (low:=1) (high:=12) s34 hx21) ?_
 rintro _ w37 ⟨rfl,hst⟩
 have hst:=k36 hst c0
 refine L_not_ rfl rfl (L_pick (v:=Bo b23) rfl rfl (congrArg Value.bool (so hb23)) (nn (rj hR24 ⟨rfl,rfl,rfl,rfl,hst⟩)))
 intro f w_ hR
 obtain ⟨sf1,sf2,sf4,sf16,hst⟩:=rk hR24 hR
 refine W_cond (b:=b23) sf16 (fun hc38=>?_) (fun hc38=>?_)
 have hF:=(ite_t hc38).symm.trans hF
 refine sq (L_bld rfl (parts0 ) (bld_41_  ) (L_staB (vs:=#[S0,I 0]) (cs2:=#[S0,I 0]) 0 rfl Try.sizeOf41 sf4 rfl rfl (ones_cons rfl (ones_cons rfl ones_nil)) hst rfl (by show 0 + 2≤2; decide) rfl (fun w40 hst=>aB rfl (nn (W_ret (retG2 (v1:=.agg #[S0,I 0]) (v2:=Bo false) Try.results134 (resV_agg Try.isAgg41 Try.sizeOf41 sf4 (Star.blkAt 0 hst rfl) rfl) rfl ?_))))))
 obtain rfl:=so hF
 have hst:=Star.addNil (R:=(OR.frz rTerm)) (e:=117) hst
 exact ⟨S0,rfl,(Star.keepN 1 hst)⟩
 have hF:=(ite_f hc38).symm.trans hF
 refine W_skip (sq (fA 1 fa_41_1 sf2 rfl (ldB 1 hst Try.isAgg3 rfl rfl rfl (L_bld rfl (parts1 rfl) (bld_41_1 (I c.bound) rfl) (L_al (cs:=#[S0,I 0]) rfl Try.zeroValue41 rfl hst (fun g45 w46 hst=>L_staB (vs:=#[S0,I c.bound]) (cs2:=#[S0,I c.bound]) 0 rfl Try.sizeOf41 rfl rfl rfl (ones_cons rfl (ones_cons rfl ones_nil)) hst rfl (by show 0 + 2≤2; decide) rfl (fun w47 hst=>nq (sq (fA 0 fa_41_0 sf2 rfl (ldB 2 hst Try.isAgg39 rfl rfl rfl (L_len rfl Try.underlying39 rfl (slice_len h0_0) (mI rfl (nn ?_)))))))))))))
 have hlen52 : List.length c.terms≤9223372036854775807:=len_le (slice_len h0_0)
 obtain ⟨j52,hL52,hF⟩:=bind_some hF
 obtain ⟨R52,hR52⟩:=exR fun f w_=>∃ g45_0_49 : List Term,∃ g45_1_51 : Int,∃ v49_g45_0 : Value,j52 = .nx (g45_0_49,g45_1_51)∧f 4 = Pt g7∧f 6 = Pt g45∧Star H w_ ([oF 117 rTerm v49_g45_0 g45_0_49,box g45 41 #[v49_g45_0,I g45_1_51],box g7 41 #[S0,I 0]])
 refine W_join R52 ?_ ?_
 refine W_block ?_
 obtain ⟨I52,hI52⟩:=exI fun n f w_=>∃ i_48 : Nat,∃ suf52 : List Term,∃ g45_0_49 : List Term,∃ g45_1_51 : Int,∃ v49_g45_0 : Value,n = suf52.length∧List.drop i_48 c.terms = suf52∧i_48 + suf52.length = c.terms.length∧rangeL (i_WeakenConstraint_b1 c variable_) suf52 i_48 (g45_0_49,g45_1_51) = some j52∧f 1 = I variable_∧f 2 = Pt g5∧f 4 = Pt g7∧f 6 = Pt g45∧f 22 = v0_0∧f 23 = I (c.terms.length : Int)∧f 24 = I i_48∧Star H w_ ([oF 117 rTerm v49_g45_0 g45_0_49,box g45 41 #[v49_g45_0,I g45_1_51],box g7 41 #[S0,I 0],box g5 41 #[v0_0,I c.bound]])
 have hst:=Star.addNil (R:=(OR.frz rTerm)) (e:=117) hst
 refine W_loop I52 (n:=c.terms.length) ?_ ?_
 exact ij hI52 ⟨0,c.terms,[],c.bound,S0,rfl,rfl,Nat.zero_add _,hL52,sf1,sf2,sf4,rfl,rfl,rfl,rfl,hst⟩
 intro n52 f w_ hI
 obtain ⟨i_48,suf52,g45_0_49,g45_1_51,v49_g45_0,rfl,hd52,hl52,hL52,sf1,sf2,sf4,sf6,sf22,sf23,sf24,hst⟩:=ik hI52 hI
 refine sq (L_lss rfl sf24 sf23 (nq (W_cond (b:=decide ((i_48 : Int) < (c.terms.length : Int))) rfl (fun hc54=>?_) (fun hc54=>?_))))
 have hlt52:=of_decide_eq_true hc54
 rcases suf52 with _ | ⟨x_52,rest52⟩
 exact absurd hlt52 (by simp at hl52; omega)
 obtain ⟨o52,hB52,hL52⟩:=range_cons hL52
 rw [i_WeakenConstraint_b1] at hB52
 have hix52:=drop_idx hd52
 refine W_skip (W_seq (W_block (sq (L_ix (r:=rTerm) rfl Try.underlying39 Try.sizeOf117 sf22 h0_0 sf24 hix52 (fun g62 o63 cs_g62 hrk_hat64 hat64=>?_)))))
 obtain rfl:=rTerm_iff.1 hrk_hat64
 refine L_lda (cs:=[I x_52.coef,I x_52.lit]) rfl Try.isAgg117 Try.sizeOf117 rfl (At.sub (AtH.at hat64 hst.sub) 0 2) rfl (L_al (cs:=#[I 0,I 0]) rfl Try.zeroValue117 rfl hst (fun g66 w67 hst=>L_staB (vs:=#[I x_52.coef,I x_52.lit]) (cs2:=#[I x_52.coef,I x_52.lit]) 0 rfl Try.sizeOf117 rfl rfl rfl (ones_cons rfl (ones_cons rfl ones_nil)) hst rfl (by show 0 + 2≤2; decide) rfl (fun w68 hst=>nq ?_)))
 obtain ⟨x74,hx74,hB52⟩:=bind_some hB52
 refine W_region (fA 1 fa_117_1 rfl rfl (ldB 0 hst Try.isAgg3 rfl rfl rfl ?_))
 obtain ⟨H76b,l77,s78,z79,k80⟩:=hst.borrow
 refine L_call rfl Try.call105 (ops1 rfl) (i_variableOf_c (l:=x_52.lit) s78 hx74) ?_
 rintro _ w81 ⟨rfl,hst⟩
 have hst:=k80 hst c0
 refine mF sf1 rfl (L_eql rfl rfl rfl (nn ?_))
 obtain ⟨⟨g45_0_82,g45_1_84⟩,hA85,hB52⟩:=bind_some hB52
 obtain ⟨R85,hR85⟩:=exR fun f w_=>∃ v82_g45_0 : Value,f 1 = I variable_∧f 2 = Pt g5∧f 4 = Pt g7∧f 6 = Pt g45∧f 22 = v0_0∧f 23 = I (c.terms.length : Int)∧f 24 = I i_48∧Star H w_ ([oF 117 rTerm v82_g45_0 g45_0_82,box g45 41 #[v82_g45_0,I g45_1_84],box g7 41 #[S0,I 0],box g5 41 #[v0_0,I c.bound]])
 refine W_join R85 ?_ ?_
 refine W_cond (b:=(x74 == variable_)) rfl (fun hc86=>?_) (fun hc86=>?_)
 have hA85:=(ite_t hc86).symm.trans hA85
 refine W_region (fA 1 fa_41_1 sf2 rfl (ldB 4 hst Try.isAgg3 rfl rfl rfl (fA 0 fa_117_0 rfl rfl (ldB 0 hst Try.isAgg3 rfl rfl rfl (L_sub rfl rfl rfl (L_max rfl rfl rfl (fA 1 fa_41_1 sf6 rfl (L_stB (v:=I (max 0 (i64 (c.bound - x_52.coef)))) (cs2:=#[v49_g45_0,I (max 0 (i64 (c.bound - x_52.coef)))]) 2 rfl Try.sizeOf3 rfl rfl rfl hst rfl rfl rfl (fun w88 hst=>nn ?_)))))))))
 obtain ⟨rfl,rfl⟩:=so2 hA85
 have hst:=hst.gets [4,4,2,4] rfl
 exact rj hR85 ⟨v49_g45_0,sf1,sf2,sf4,sf6,sf22,sf23,sf24,(Star.keepN 4 hst)⟩
 have hA85:=(ite_f hc86).symm.trans hA85
 obtain ⟨x92,hx92,hA85⟩:=bind_some hA85
 refine W_region (fA 0 fa_41_0 sf6 rfl (ldB 2 hst Try.isAgg39 rfl rfl rfl (L_lda (cs:=[I x_52.coef,I x_52.lit]) rfl Try.isAgg117 Try.sizeOf117 rfl (At.sub0 (Blk.at (Star.blkAt 0 hst rfl)) 0 2) rfl (L_bs rfl (parts1 rfl) (bs_39_1_2 (I x_52.coef) (I x_52.lit) ) hst (fun g97 w98 hst=>?_)))))
 have hst:=Star.addF (r:=rTerm) (cs:=[I x_52.coef,I x_52.lit]) (x:=x_52) hst (rTerm_iff.2 rfl)
 have hst:=Star.mkRow (R:=(OR.frz rTerm)) [([I x_52.coef,I x_52.lit],x_52)] [x_52] 1 hst rfl rfl rfl (by decide)
 have hst:=hst.get 2 rfl
 refine L_appM (v:=v49_g45_0) (u:=(Sl g97 1 1)) rfl et_39 rfl rfl hst hx92 (fun v100 w101 hst=>fA 0 fa_41_0 sf6 rfl (L_stB (v:=v100) (cs2:=#[v100,I g45_1_51]) 2 rfl Try.sizeOf39 rfl rfl (one_len (Star.len 0 hst rfl)) hst rfl rfl rfl (fun w103 hst=>nn ?_)))
 obtain ⟨rfl,rfl⟩:=so2 hA85
 have hst:=hst.gets [4,4,2,3] rfl
 exact rj hR85 ⟨v100,sf1,sf2,sf4,sf6,sf22,sf23,sf24,(Star.keepN 4 hst)⟩
 intro f w_ hR
 obtain ⟨v82_g45_0,sf1,sf2,sf4,sf6,sf22,sf23,sf24,hst⟩:=rk hR85 hR
 refine W_region (L_add rfl sf24 rfl (mI rfl (nn ?_)))
 obtain rfl:=so hB52
 show ∃ m,m < _∧I52 m _ _
 refine ⟨rest52.length,by simp,?_⟩
 exact ij hI52 ⟨i_48 + 1,rest52,g45_0_82,g45_1_84,v82_g45_0,rfl,drop_next hd52,by simp at hl52; omega,hL52,sf1,sf2,sf4,sf6,sf22,sf23,(Eq.trans rfl (congrArg (Value.int .i64) (i64_succ (n:=c.terms.length) (by simp at hl52; omega) hlen52))),hst⟩
 rcases suf52 with _ | ⟨_,_⟩
 obtain rfl:=range_nil hL52
 refine W_exit (rj hR52 ⟨g45_0_49,g45_1_51,v49_g45_0,rfl,sf4,sf6,(Star.keepN 3 hst)⟩)
 exact absurd (of_decide_eq_false hc54) (by simp at hl52; omega)
 intro f w_ hR
 obtain ⟨g45_0_49,g45_1_51,v49_g45_0,rfl,sf4,sf6,hst⟩:=rk hR52 hR
 refine sq (L_lda (cs:=[v49_g45_0,I g45_1_51]) rfl Try.isAgg41 Try.sizeOf41 sf6 (At.sub0 (Blk.at (Star.blkAt 1 hst rfl)) 0 2) rfl (L_staB (vs:=#[v49_g45_0,I g45_1_51]) (cs2:=#[v49_g45_0,I g45_1_51]) 2 rfl Try.sizeOf41 sf4 rfl rfl (ones_cons (one_len (Star.len 0 hst rfl)) (ones_cons rfl ones_nil)) hst rfl (by show 0 + 2≤2; decide) rfl (fun w105 hst=>aB rfl (nn (W_ret (retG2 (v1:=.agg #[v49_g45_0,I g45_1_51]) (v2:=Bo true) Try.results134 (resV_agg Try.isAgg41 Try.sizeOf41 sf4 (Star.blkAt 0 hst rfl) rfl) rfl ?_))))))
 obtain rfl:=so hF
 have hst:=hst.get 1 rfl
 exact ⟨v49_g45_0,rfl,(Star.keepN 1 hst)⟩
theorem i_LiteralAxiom_c {lit : Int} {H : FH} {w : World} (hst : Star H w []) {r : Con × Bool} (hF : i_LiteralAxiom lit = some r) :
 C Try.prog 135 #[I lit] w fun v w'=>∃ (u1 : Value),v = .tuple #[.agg #[u1,I r.1.bound],Bo r.2]∧Star H w' [oF 117 rTerm u1 r.1.terms]:=by
 unfold i_LiteralAxiom at hF
 refine C_enter Try.func135 rfl Try.ntmps135 rfl (sq (L_al (cs:=#[S0,I 0]) rfl Try.zeroValue41 rfl hst (fun g3 w4 hst=>aB rfl (nq (W_seq ?_)))))
 obtain ⟨x10,hx10,hF⟩:=bind_some hF
 refine W_region (mI rfl ?_)
 obtain ⟨H12b,l13,s14,z15,k16⟩:=hst.borrow
 refine L_call rfl Try.call104 (ops1 rfl) (i_isLiteral_c (l:=lit) s14 hx10) ?_
 rintro _ w17 ⟨rfl,hst⟩
 have hst:=k16 hst c0
 refine L_not_ rfl rfl (nn (W_cond (b:=(!x10)) rfl (fun hc18=>?_) (fun hc18=>?_)))
 have hF:=(ite_t hc18).symm.trans hF
 refine sq (L_bld rfl (parts0 ) (bld_41_  ) (L_staB (vs:=#[S0,I 0]) (cs2:=#[S0,I 0]) 0 rfl Try.sizeOf41 rfl rfl rfl (ones_cons rfl (ones_cons rfl ones_nil)) hst rfl (by show 0 + 2≤2; decide) rfl (fun w20 hst=>aB rfl (nn (W_ret (retG2 (v1:=.agg #[S0,I 0]) (v2:=Bo false) Try.results135 (resV_agg Try.isAgg41 Try.sizeOf41 rfl (Star.blkAt 0 hst rfl) rfl) rfl ?_))))))
 obtain rfl:=so hF
 have hst:=Star.addNil (R:=(OR.frz rTerm)) (e:=117) hst
 exact ⟨S0,rfl,(Star.keepN 1 hst)⟩
 have hF:=(ite_f hc18).symm.trans hF
 refine W_skip (sq (mI rfl (L_bld rfl (parts2 rfl rfl) (bld_117_0_1 (I 1) (I lit) rfl rfl) (L_bs rfl (parts1 rfl) (bs_39_1_2 (I 1) (I lit) ) hst (fun g26 w27 hst=>?_)))))
 have hst:=Star.addF (r:=rTerm) (cs:=[I 1,I lit]) (x:=({ coef:=1,lit:=lit } : Term)) hst (rTerm_iff.2 rfl)
 have hst:=Star.mkRow (R:=(OR.frz rTerm)) [([I 1,I lit],({ coef:=1,lit:=lit } : Term))] [({ coef:=1,lit:=lit } : Term)] 1 hst rfl rfl rfl (by decide)
 refine L_bld rfl (parts1 rfl) (bld_41_0 ((Sl g26 1 1)) (one_len (Star.len 0 hst rfl))) (L_staB (vs:=#[(Sl g26 1 1),I 0]) (cs2:=#[(Sl g26 1 1),I 0]) 1 rfl Try.sizeOf41 rfl rfl rfl (ones_cons (one_len (Star.len 0 hst rfl)) (ones_cons rfl ones_nil)) hst rfl (by show 0 + 2≤2; decide) rfl (fun w29 hst=>aB rfl (nn (W_ret (retG2 (v1:=.agg #[(Sl g26 1 1),I 0]) (v2:=Bo true) Try.results135 (resV_agg Try.isAgg41 Try.sizeOf41 rfl (Star.blkAt 0 hst rfl) rfl) rfl ?_)))))
 obtain rfl:=so hF
 have hst:=hst.get 1 rfl
 exact ⟨(Sl g26 1 1),rfl,(Star.keepN 1 hst)⟩
theorem i_running_step_c {fu : Nat} {r_ : Db} {s : Step} {g_0 : Nat} {v0_0 : Value} {v0_1 : Value} {v1_3 : Value} {H : FH} {w : World} {R : List Ass} (hst : Star H w (box g_0 115 #[v0_0,v0_1] :: oF 41 (rCon 117) v0_0 r_.list :: oF 4 RP.bool v0_1 r_.gone :: R)) (h1_3 : (rS 117 rTerm).rel H [v1_3] s.given.terms) {r : Bool × (List Con) × (List Bool)} (hF : i_running_step fu r_ s = some r) :
 C Try.prog 103 #[Pt g_0,.agg #[I s.kind,I s.a,I s.b,v1_3,I s.given.bound]] w fun v w'=>∃ H' : FH,Le H H'∧∃ (u1 : Value) (u2 : Value),v = Bo r.1∧Star H' w' (box g_0 115 #[u1,u2] :: oF 41 (rCon 117) u1 r.2.1 :: oF 4 RP.bool u2 r.2.2 :: R):=by
 unfold i_running_step at hF
 refine C_enter Try.func103 rfl Try.ntmps103 rfl (sq (L_box (v:=.agg #[I s.kind,I s.a,I s.b,v1_3,I s.given.bound]) (cs:=#[I s.kind,I s.a,I s.b,v1_3,I s.given.bound]) rfl rfl rfl hst (fun g3 w4 hst=>aB rfl (nq ?_))))
 obtain ⟨x10,hx10,hF⟩:=bind_some hF
 refine W_region (fA 0 fa_63_0 rfl rfl (ldB 0 hst Try.isAgg3 rfl rfl rfl ?_))
 obtain ⟨H12b,l13,s14,z15,k16⟩:=hst.borrow
 refine L_call rfl Try.call88 (ops1 rfl) (i_refers_c (kind:=s.kind) s14 hx10) ?_
 rintro _ w17 ⟨rfl,hst⟩
 have hst:=k16 hst c0
 refine mV (.tuple #[I x10.1,Bo x10.2]) rfl (L_ex (v:=I x10.1) rfl rfl rfl (L_ex (v:=Bo x10.2) rfl rfl rfl (aI rfl (aB rfl (nq (W_seq ?_))))))
 obtain ⟨x23,hx23,hF⟩:=bind_some hF
 obtain ⟨b28,hb28,hF⟩:=bind_some hF
 obtain ⟨b32,hb32,hF⟩:=bind_some hF
 obtain ⟨R35,hR35⟩:=exR fun f w_=>∃ H33 : FH,Le H H33∧f 0 = Pt g_0∧f 3 = Pt g3∧f 39 = Bo b32∧Star H33 w_ (oF 41 (rCon 117) v0_0 r_.list :: oF 4 RP.bool v0_1 r_.gone :: box g_0 115 #[v0_0,v0_1] :: box g3 63 #[I s.kind,I s.a,I s.b,v1_3,I s.given.bound] :: R)
 refine W_join R35 ?_ ?_
 refine W_region (L_lda (cs:=[I s.kind,I s.a,I s.b,v1_3,I s.given.bound]) rfl Try.isAgg63 Try.sizeOf63 rfl (At.sub0 (Blk.at (Star.blkAt 0 hst rfl)) 0 5) rfl ?_)
 obtain ⟨H36b,l37,s38,z39,k40⟩:=hst.borrow
 refine L_call rfl Try.call128 (ops1 rfl) (i_Step_shaped_c (s:=s) s38 (RP.mono _ h1_3 l37) hx23) ?_
 rintro _ w41 ⟨rfl,hst⟩
 have hst:=k40 hst c0
 refine L_not_ rfl rfl (mB rfl (L_split (d:=18) (b:=(!x23)) rfl (fun hc42=>?_) (fun hc42=>?_)))
 rw [ite_t hc42] at hb28
 refine ps rfl (ps rfl (ps rfl (ps rfl (ps rfl (ps rfl (ps rfl (ps rfl (ps rfl (L_pick (v:=Bo b28) rfl rfl (congrArg Value.bool (so hb28)) (mB rfl (L_split (d:=29) (b:=b28) rfl (fun hc43=>?_) (fun hc43=>?_))))))))))))
 rw [ite_t hc43] at hb32
 refine ps rfl (ps rfl (ps rfl (ps rfl (ps rfl (ps rfl (ps rfl (ps rfl (ps rfl (L_pick (v:=Bo b32) rfl rfl (congrArg Value.bool (so hb32)) (nn ?_))))))))))
 have hst:=hst.gets [1,3,3] rfl
 exact rj hR35 ⟨H,(Le.refl _),rfl,rfl,rfl,hst⟩
 rw [ite_f hc43] at hb32
 obtain ⟨b31,hb31,hb32⟩:=bind_some hb32
 refine mI rfl (L_gtr rfl rfl rfl (mB rfl (L_split (d:=32) (b:=decide (x10.1 > 1)) rfl (fun hc44=>?_) (fun hc44=>?_))))
 rw [ite_t hc44] at hb31
 obtain ⟨x29,hx29,hb31⟩:=bind_some hb31
 refine mV (Pt g_0) rfl (fA 2 fa_63_2 rfl rfl (ldB 0 hst Try.isAgg3 rfl rfl rfl ?_))
 have hst:=hst.gets [3,3,3] rfl
 refine L_call rfl Try.call129 (ops2 rfl rfl) (i_running_has_c (r_:=r_) (i:=s.b) hst hx29) ?_
 rintro _ w45 ⟨H45,l45,rfl,hst⟩
 refine L_not_ rfl rfl (L_pick (v:=Bo b31) rfl rfl (congrArg Value.bool (so hb31)) (L_pick (v:=Bo b32) rfl rfl (congrArg Value.bool (so hb32)) (nn ?_)))
 have hst:=hst.gets [3,1,3,3] rfl
 exact rj hR35 ⟨H45,l45,rfl,rfl,rfl,hst⟩
 rw [ite_f hc44] at hb31
 refine ps rfl (ps rfl (ps rfl (ps rfl (ps rfl (L_pick (v:=Bo b31) rfl rfl (congrArg Value.bool (so hb31)) (L_pick (v:=Bo b32) rfl rfl (congrArg Value.bool (so hb32)) (nn ?_)))))))
 have hst:=hst.gets [1,3,3] rfl
 exact rj hR35 ⟨H,(Le.refl _),rfl,rfl,rfl,hst⟩
 rw [ite_f hc42] at hb28
 obtain ⟨b27,hb27,hb28⟩:=bind_some hb28
 refine mI rfl (L_gtr rfl rfl rfl (mB rfl (L_split (d:=21) (b:=decide (x10.1 > 0)) rfl (fun hc46=>?_) (fun hc46=>?_))))
 rw [ite_t hc46] at hb27
 obtain ⟨x25,hx25,hb27⟩:=bind_some hb27
 refine mV (Pt g_0) rfl (fA 1 fa_63_1 rfl rfl (ldB 0 hst Try.isAgg3 rfl rfl rfl ?_))
 have hst:=hst.gets [3,3,3] rfl
 refine L_call rfl Try.call129 (ops2 rfl rfl) (i_running_has_c (r_:=r_) (i:=s.a) hst hx25) ?_
 rintro _ w47 ⟨H47,l47,rfl,hst⟩
 refine L_not_ rfl rfl (L_pick (v:=Bo b27) rfl rfl (congrArg Value.bool (so hb27)) (L_pick (v:=Bo b28) rfl rfl (congrArg Value.bool (so hb28)) (mB rfl (L_split (d:=29) (b:=b28) rfl (fun hc48=>?_) (fun hc48=>?_)))))
 rw [ite_t hc48] at hb32
 refine ps rfl (ps rfl (ps rfl (ps rfl (ps rfl (ps rfl (ps rfl (ps rfl (ps rfl (L_pick (v:=Bo b32) rfl rfl (congrArg Value.bool (so hb32)) (nn ?_))))))))))
 have hst:=hst.gets [3,1,3,3] rfl
 exact rj hR35 ⟨H47,l47,rfl,rfl,rfl,hst⟩
 rw [ite_f hc48] at hb32
 obtain ⟨b31,hb31,hb32⟩:=bind_some hb32
 refine mI rfl (L_gtr rfl rfl rfl (mB rfl (L_split (d:=32) (b:=decide (x10.1 > 1)) rfl (fun hc49=>?_) (fun hc49=>?_))))
 rw [ite_t hc49] at hb31
 obtain ⟨x29,hx29,hb31⟩:=bind_some hb31
 refine mV (Pt g_0) rfl (fA 2 fa_63_2 rfl rfl (ldB 3 hst Try.isAgg3 rfl rfl rfl (L_call rfl Try.call129 (ops2 rfl rfl) (i_running_has_c (r_:=r_) (i:=s.b) hst hx29) ?_)))
 rintro _ w50 ⟨H50,l50,rfl,hst⟩
 refine L_not_ rfl rfl (L_pick (v:=Bo b31) rfl rfl (congrArg Value.bool (so hb31)) (L_pick (v:=Bo b32) rfl rfl (congrArg Value.bool (so hb32)) (nn ?_)))
 have hst:=hst.gets [3,1,3,3] rfl
 exact rj hR35 ⟨H50,(Le.trans l47 l50),rfl,rfl,rfl,hst⟩
 rw [ite_f hc49] at hb31
 refine ps rfl (ps rfl (ps rfl (ps rfl (ps rfl (L_pick (v:=Bo b31) rfl rfl (congrArg Value.bool (so hb31)) (L_pick (v:=Bo b32) rfl rfl (congrArg Value.bool (so hb32)) (nn ?_)))))))
 have hst:=hst.gets [3,1,3,3] rfl
 exact rj hR35 ⟨H47,l47,rfl,rfl,rfl,hst⟩
 rw [ite_f hc46] at hb27
 refine ps rfl (ps rfl (ps rfl (ps rfl (ps rfl (L_pick (v:=Bo b27) rfl rfl (congrArg Value.bool (so hb27)) (L_pick (v:=Bo b28) rfl rfl (congrArg Value.bool (so hb28)) (mB rfl (L_split (d:=29) (b:=b28) rfl (fun hc51=>?_) (fun hc51=>?_)))))))))
 rw [ite_t hc51] at hb32
 refine ps rfl (ps rfl (ps rfl (ps rfl (ps rfl (ps rfl (ps rfl (ps rfl (ps rfl (L_pick (v:=Bo b32) rfl rfl (congrArg Value.bool (so hb32)) (nn ?_))))))))))
 have hst:=hst.gets [1,3,3] rfl
 exact rj hR35 ⟨H,(Le.refl _),rfl,rfl,rfl,hst⟩
 rw [ite_f hc51] at hb32
 obtain ⟨b31,hb31,hb32⟩:=bind_some hb32
 refine mI rfl (L_gtr rfl rfl rfl (mB rfl (L_split (d:=32) (b:=decide (x10.1 > 1)) rfl (fun hc52=>?_) (fun hc52=>?_))))
 rw [ite_t hc52] at hb31
 obtain ⟨x29,hx29,hb31⟩:=bind_some hb31
 refine mV (Pt g_0) rfl (fA 2 fa_63_2 rfl rfl (ldB 0 hst Try.isAgg3 rfl rfl rfl ?_))
 have hst:=hst.gets [3,3,3] rfl
 refine L_call rfl Try.call129 (ops2 rfl rfl) (i_running_has_c (r_:=r_) (i:=s.b) hst hx29) ?_
 rintro _ w53 ⟨H53,l53,rfl,hst⟩
 refine L_not_ rfl rfl (L_pick (v:=Bo b31) rfl rfl (congrArg Value.bool (so hb31)) (L_pick (v:=Bo b32) rfl rfl (congrArg Value.bool (so hb32)) (nn ?_)))
 have hst:=hst.gets [3,1,3,3] rfl
 exact rj hR35 ⟨H53,l53,rfl,rfl,rfl,hst⟩
 rw [ite_f hc52] at hb31
 refine ps rfl (ps rfl (ps rfl (ps rfl (ps rfl (L_pick (v:=Bo b31) rfl rfl (congrArg Value.bool (so hb31)) (L_pick (v:=Bo b32) rfl rfl (congrArg Value.bool (so hb32)) (nn ?_)))))))
 have hst:=hst.gets [1,3,3] rfl
 exact rj hR35 ⟨H,(Le.refl _),rfl,rfl,rfl,hst⟩
 intro f w_ hR
 obtain ⟨H33,l34,sf0,sf3,sf39,hst⟩:=rk hR35 hR
 refine W_cond (b:=b32) sf39 (fun hc54=>?_) (fun hc54=>?_)
 have hF:=(ite_t hc54).symm.trans hF
 refine sq (aB rfl (nn (W_ret (retG1 (v1:=Bo false) Try.results103 rfl ?_))))
 obtain rfl:=so hF
 have hst:=hst.gets [1,1,2] rfl
 have hst:=Star.drop 3 hst rfl
 exact ⟨H33,l34,v0_0,v0_1,rfl,hst⟩
 have hF:=(ite_f hc54).symm.trans hF
 refine W_skip (sq (L_al (cs:=#[S0,I 0]) rfl Try.zeroValue41 rfl hst (fun g57 w58 hst=>ns (aB rfl (nq (sq (fA 0 fa_63_0 sf3 rfl (ldB 4 hst Try.isAgg3 rfl rfl rfl (nn (W_block (sq (L_eql rfl rfl rfl (aB rfl (nn (W_cond (b:=(s.kind == 8)) rfl (fun hc59=>?_) (fun hc59=>?_))))))))))))))))
 have hF:=(ite_t hc59).symm.trans hF
 refine W_seq ?_
 obtain ⟨x60,hx60,hF⟩:=bind_some hF
 have hst:=Star.drop 0 hst rfl
 refine W_drawS 6 [isV (Pt g_0),isV (Pt g_0),isV (Pq g_0 1),isV (v0_1),isV (Pq g3 1),isV (I s.a)] [oF 41 (rCon 117) v0_0 r_.list,oF 4 RP.bool v0_1 r_.gone,box g_0 115 #[v0_0,v0_1],box g3 63 #[I s.kind,I s.a,I s.b,v1_3,I s.given.bound]] [] (R) [([],[]),([],[]),([],[]),([],[]),([],[]),([],[])] (S:=[]) Try_mix (by kernel_rfl) rfl (by kernel_rfl) (amF_cons (mono_V _) (amF_cons (mono_V _) (amF_cons (mono_V _) (amF_cons (mono_V _) (amF_cons (mono_V _) (amF_cons (mono_V _) amF_nil)))))) hst ?_ (fun f w_ H64 hS64 hE64 hT64 hst=>?_)
 refine opsS_cons (fun f w_ _ _ s _ _ hst=>mF ((s 0 rfl).trans sf0) rfl (nO rfl rfl hst)) (opsS_cons (fun f w_ _ _ _ _ p hst=>L_nc rfl (p 0 44 rfl rfl) (nO rfl rfl hst)) (opsS_cons (fun f w_ _ _ _ _ p hst=>fA 1 fa_115_1 (p 1 45 rfl rfl) rfl (nO rfl rfl hst)) (opsS_cons (fun f w_ _ _ _ _ p hst=>ldB 2 hst Try.isAgg49 (p 2 46 rfl rfl) rfl rfl (nO rfl rfl hst)) (opsS_cons (fun f w_ _ _ s _ _ hst=>fA 1 fa_63_1 ((s 3 rfl).trans sf3) rfl (nO rfl rfl hst)) (opsS_cons (fun f w_ _ _ _ _ p hst=>ldB 3 hst Try.isAgg3 (p 4 48 rfl rfl) rfl rfl (nO rfl rfl hst)) (opsS_nil))))))
 obtain ⟨g65,cap_g65,hv66,_,_⟩:=Star.row 1 hst rfl hx60
 refine L_ixO (R:=(OR.frz RP.bool)) (tb:=0) 0 rfl Try.underlying49 Try.sizeOf4 (hT64 3 47 rfl rfl) hv66 (by first | rfl | simp) (hT64 5 49 rfl rfl) hx60 ?_
 have hst:=Star.addF (r:=RP.bool) (cs:=[Bo true]) (x:=true) hst rfl
 have hst:=hst.gets [2,1] rfl
 refine L_stE1 (u:=Bo true) rfl Try.sizeOf4 rfl rfl rfl hv66 hst hx60 (fun w67 hst=>ns (aB rfl (nn (W_ret (retG1 (v1:=Bo true) Try.results103 rfl ?_)))))
 obtain rfl:=so hF
 have hst:=hst.gets [1,2] rfl
 have hst:=Star.drop 3 hst rfl
 exact ⟨H64,(Le.trans l34 hE64),v0_0,v0_1,rfl,hst⟩
 have hF:=(ite_f hc59).symm.trans hF
 refine sq (L_eql rfl rfl rfl (aB rfl (nn ?_)))
 obtain ⟨⟨ok_68,g57_0_69,g57_1_71⟩,hA74,hF⟩:=bind_some hF
 obtain ⟨R74,hR74⟩:=exR fun f w_=>∃ H72 : FH,∃ v69_g57_0 : Value,Le H33 H72∧f 0 = Pt g_0∧f 7 = Pt g57∧f 8 = Bo ok_68∧(rS 117 rTerm).rel H72 [v69_g57_0] g57_0_69∧Star H72 w_ (oF 41 (rCon 117) v0_0 r_.list :: oF 4 RP.bool v0_1 r_.gone :: box g_0 115 #[v0_0,v0_1] :: box g57 41 #[v69_g57_0,I g57_1_71] :: R)
 refine W_join R74 ?_ ?_
 refine W_cond (b:=(s.kind == 1)) rfl (fun hc75=>?_) (fun hc75=>?_)
 have hA74:=(ite_t hc75).symm.trans hA74
 obtain ⟨x76,hx76,hA74⟩:=bind_some hA74
 obtain ⟨x81,hx81,hA74⟩:=bind_some hA74
 obtain ⟨x84,hx84,hA74⟩:=bind_some hA74
 obtain ⟨g88,cap_g88,hv89,_,_⟩:=Star.row 1 hst rfl hx76
 have hst:=hst.gets [4,4,4,4] rfl
 refine W_drawS 21 [isV (Pt g_0),isV (Pt g_0),isV (Pt g_0),isV (v0_0),isV (Pq g3 1),isV (I s.a),isV (.pointer (some ⟨g88,Int.toNat s.a * 2,none⟩)),exD (isData (rS 117 rTerm) x76.terms) fun u_0=>isV (.agg #[u_0,I x76.bound]),isV (Pt g_0),isV (Pt g_0),isV (Pt g_0),isV (v0_0),isV (Pq g3 2),isV (I s.b),isV (.pointer (some ⟨g88,Int.toNat s.b * 2,none⟩)),exD (isData (rS 117 rTerm) x81.terms) fun u_0=>isV (.agg #[u_0,I x81.bound]),tup2 (exD (isData (rS 117 rTerm) x84.1.terms) fun u_0=>isV (.agg #[u_0,I x84.1.bound])) (isV (Bo x84.2)),tup2 (exD (isData (rS 117 rTerm) x84.1.terms) fun u_0=>isV (.agg #[u_0,I x84.1.bound])) (isV (Bo x84.2)),exD (isData (rS 117 rTerm) x84.1.terms) fun u_0=>isV (.agg #[u_0,I x84.1.bound]),isV (Bo x84.2),anyF] [oF 41 (rCon 117) v0_0 r_.list,oF 4 RP.bool v0_1 r_.gone,box g_0 115 #[v0_0,v0_1],box g3 63 #[I s.kind,I s.a,I s.b,v1_3,I s.given.bound]] [.base (box g57 41 #[S0,I 0]) (some 20),.madeN 20 [71] (fun vs_=>box g57 41 #[(aggC (vs_.getD 0 undef) 0),I x84.1.bound]) none] (R) [([],[]),([],[]),([],[]),([],[]),([],[]),([],[]),([],[]),([],[]),([],[]),([],[]),([],[]),([],[]),([],[]),([],[]),([],[]),([],[]),([],[]),([],[]),([],[]),([],[]),([0],[1])] (S:=[(none,[],some 20),(some 20,[71],none)]) Try_mix (by kernel_rfl) rfl (by kernel_rfl) (amF_cons (mono_V _) (amF_cons (mono_V _) (amF_cons (mono_V _) (amF_cons (mono_V _) (amF_cons (mono_V _) (amF_cons (mono_V _) (amF_cons (mono_V _) (amF_cons (mono_exD (mono_data _ _) fun _=>mono_V _) (amF_cons (mono_V _) (amF_cons (mono_V _) (amF_cons (mono_V _) (amF_cons (mono_V _) (amF_cons (mono_V _) (amF_cons (mono_V _) (amF_cons (mono_V _) (amF_cons (mono_exD (mono_data _ _) fun _=>mono_V _) (amF_cons (mono_tup2 (mono_exD (mono_data _ _) fun _=>mono_V _) (mono_V _)) (amF_cons (mono_tup2 (mono_exD (mono_data _ _) fun _=>mono_V _) (mono_V _)) (amF_cons (mono_exD (mono_data _ _) fun _=>mono_V _) (amF_cons (mono_V _) (amF_cons (mono_any) amF_nil))))))))))))))))))))) hst ?_ (fun f w_ H87 hS87 hE87 hT87 hst=>?_)
 refine opsS_cons (fun f w_ _ _ s _ _ hst=>mF ((s 0 rfl).trans sf0) rfl (nO rfl rfl hst)) (opsS_cons (fun f w_ _ _ _ _ p hst=>L_nc rfl (p 0 54 rfl rfl) (nO rfl rfl hst)) (opsS_cons (fun f w_ _ _ _ _ p hst=>fA 0 fa_115_0 (p 1 55 rfl rfl) rfl (nO rfl rfl hst)) (opsS_cons (fun f w_ _ _ _ _ p hst=>ldB 2 hst Try.isAgg27 (p 2 56 rfl rfl) rfl rfl (nO rfl rfl hst)) (opsS_cons (fun f w_ _ _ s _ _ hst=>fA 1 fa_63_1 ((s 3 rfl).trans sf3) rfl (nO rfl rfl hst)) (opsS_cons (fun f w_ _ _ _ _ p hst=>ldB 3 hst Try.isAgg3 (p 4 58 rfl rfl) rfl rfl (nO rfl rfl hst)) (opsS_cons (fun f w_ _ _ _ _ p hst=>L_ixO (R:=(OR.frz (rCon 117))) (tb:=0) 0 rfl Try.underlying27 Try.sizeOf41 (p 3 57 rfl rfl) hv89 (by first | rfl | simp) (p 5 59 rfl rfl) hx76 (nO rfl rfl hst)) (opsS_cons ?_ ?_)))))))
 intro f w_ H87 X87 hS87 hE87 hP87 hst
 obtain ⟨cs96,hr96,hat96⟩:=Star.eltF 0 hst rfl hv89 hx76
 obtain ⟨u97_0,rfl,hu97_0⟩:=rCon_iff.1 hr96
 refine L_lda (cs:=[u97_0,I x76.bound]) rfl Try.isAgg41 Try.sizeOf41 (hP87 6 60 rfl rfl) (At.sub hat96 0 2) rfl (L_nil ⟨rfl,_,_,rfl,Le.refl _,fun _ _=>⟨_,hu97_0,rfl⟩,hst⟩)
 refine opsS_cons (fun f w_ _ _ s _ _ hst=>mF ((s 0 rfl).trans sf0) rfl (nO rfl rfl hst)) (opsS_cons (fun f w_ _ _ _ _ p hst=>L_nc rfl (p 8 62 rfl rfl) (nO rfl rfl hst)) (opsS_cons (fun f w_ _ _ _ _ p hst=>fA 0 fa_115_0 (p 9 63 rfl rfl) rfl (nO rfl rfl hst)) (opsS_cons (fun f w_ _ _ _ _ p hst=>ldB 2 hst Try.isAgg27 (p 10 64 rfl rfl) rfl rfl (nO rfl rfl hst)) (opsS_cons (fun f w_ _ _ s _ _ hst=>fA 2 fa_63_2 ((s 3 rfl).trans sf3) rfl (nO rfl rfl hst)) (opsS_cons (fun f w_ _ _ _ _ p hst=>ldB 3 hst Try.isAgg3 (p 12 66 rfl rfl) rfl rfl (nO rfl rfl hst)) (opsS_cons (fun f w_ _ _ _ _ p hst=>L_ixO (R:=(OR.frz (rCon 117))) (tb:=0) 0 rfl Try.underlying27 Try.sizeOf41 (p 11 65 rfl rfl) hv89 (by first | rfl | simp) (p 13 67 rfl rfl) hx81 (nO rfl rfl hst)) (opsS_cons ?_ ?_)))))))
 intro f w_ H87 X87 hS87 hE87 hP87 hst
 obtain ⟨cs98,hr98,hat98⟩:=Star.eltF 0 hst rfl hv89 hx81
 obtain ⟨u99_0,rfl,hu99_0⟩:=rCon_iff.1 hr98
 refine L_lda (cs:=[u99_0,I x81.bound]) rfl Try.isAgg41 Try.sizeOf41 (hP87 14 68 rfl rfl) (At.sub hat98 0 2) rfl (L_nil ⟨rfl,_,_,rfl,Le.refl _,fun _ _=>⟨_,hu99_0,rfl⟩,hst⟩)
 refine opsS_cons ?_ ?_
 intro f w_ H87 X87 hS87 hE87 hP87 hst
 obtain ⟨u100_0,hu100_0,hv100⟩:=(hP87 7 61 rfl rfl)
 obtain ⟨u101_0,hu101_0,hv101⟩:=(hP87 15 69 rfl rfl)
 refine L_call rfl Try.call130 (ops2 hv100 hv101) (i_AddConstraints_c (a:=x76) (b:=x81) hst hu100_0 hu101_0 hx84) ?_
 rintro _ w102 ⟨H102,l102,r102_0,rfl,hr102_0,hst⟩
 exact L_nil ⟨rfl,_,_,rfl,l102,fun _ _=>⟨_,_,rfl,⟨_,hr102_0,rfl⟩,rfl⟩,hst⟩
 refine opsS_cons ?_ ?_
 intro f w_ H87 X87 hS87 hE87 hP87 hst
 obtain ⟨a103_0,a103_1,hv103,ht103_0,ht103_1⟩:=(hP87 16 70 rfl rfl)
 obtain ⟨u104_0,hu104_0,rfl⟩:=ht103_0
 obtain rfl:=ht103_1
 refine mF hv103 rfl (L_nil ⟨rfl,_,_,rfl,Le.refl _,fun _ _=>⟨_,_,rfl,⟨_,hu104_0,rfl⟩,rfl⟩,hst⟩)
 refine opsS_cons ?_ ?_
 intro f w_ H87 X87 hS87 hE87 hP87 hst
 obtain ⟨a105_0,a105_1,hv105,ht105_0,ht105_1⟩:=(hP87 17 53 rfl rfl)
 obtain ⟨u106_0,hu106_0,rfl⟩:=ht105_0
 obtain rfl:=ht105_1
 refine L_ex (v:=.agg #[u106_0,I x84.1.bound]) rfl hv105 rfl (L_nil ⟨rfl,_,_,rfl,Le.refl _,fun _ _=>⟨_,hu106_0,rfl⟩,hst⟩)
 refine opsS_cons ?_ ?_
 intro f w_ H87 X87 hS87 hE87 hP87 hst
 obtain ⟨a107_0,a107_1,hv107,ht107_0,ht107_1⟩:=(hP87 17 53 rfl rfl)
 obtain ⟨u108_0,hu108_0,rfl⟩:=ht107_0
 obtain rfl:=ht107_1
 refine L_ex (v:=Bo x84.2) rfl hv107 rfl (L_nil ⟨rfl,_,_,rfl,Le.refl _,fun _ _=>rfl,hst⟩)
 refine opsS_cons ?_ ?_
 intro f w_ H87 X87 hS87 hE87 hP87 hst
 have hst : Star H87 w_ (oF 41 (rCon 117) v0_0 r_.list :: oF 4 RP.bool v0_1 r_.gone :: box g_0 115 #[v0_0,v0_1] :: box g3 63 #[I s.kind,I s.a,I s.b,v1_3,I s.given.bound] :: box g57 41 #[S0,I 0] :: X87):=hst
 obtain ⟨u109_0,hu109_0,hv109⟩:=(hP87 18 71 rfl rfl)
 refine L_staB (vs:=#[u109_0,I x84.1.bound]) (cs2:=#[u109_0,I x84.1.bound]) 4 rfl Try.sizeOf41 ((hS87 7 rfl).trans rfl) hv109 rfl (ones_cons (one_len (slice_len hu109_0)) (ones_cons rfl ones_nil)) hst rfl (by show 0 + 2≤2; decide) rfl (fun w110 hst=>?_)
 have hst:=hst.gets [4,4,4,4] rfl
 have hst : Star H87 w110 (oF 41 (rCon 117) v0_0 r_.list :: oF 4 RP.bool v0_1 r_.gone :: box g_0 115 #[v0_0,v0_1] :: box g3 63 #[I s.kind,I s.a,I s.b,v1_3,I s.given.bound] :: box g57 41 #[(aggC (f 71) 0),I x84.1.bound] :: X87):=by rw [hv109]; exact hst
 exact L_nil ⟨rfl,Bo false,_,rfl,Le.refl _,(fun _ h=>nomatch h),hst⟩
 exact opsS_nil
 have hst : Star H87 w_ (oF 41 (rCon 117) v0_0 r_.list :: oF 4 RP.bool v0_1 r_.gone :: box g_0 115 #[v0_0,v0_1] :: box g3 63 #[I s.kind,I s.a,I s.b,v1_3,I s.given.bound] :: box g57 41 #[(aggC (f 71) 0),I x84.1.bound] :: R):=hst
 obtain ⟨u111_0,hu111_0,hv111⟩:=(hT87 18 71 rfl rfl)
 have hren : Star H87 w_ (oF 41 (rCon 117) v0_0 r_.list :: oF 4 RP.bool v0_1 r_.gone :: box g_0 115 #[v0_0,v0_1] :: box g3 63 #[I s.kind,I s.a,I s.b,v1_3,I s.given.bound] :: box g57 41 #[(aggC (f 71) 0),I x84.1.bound] :: R):=hst
 rw [hv111] at hren
 have hst : Star H87 w_ (oF 41 (rCon 117) v0_0 r_.list :: oF 4 RP.bool v0_1 r_.gone :: box g_0 115 #[v0_0,v0_1] :: box g3 63 #[I s.kind,I s.a,I s.b,v1_3,I s.given.bound] :: box g57 41 #[u111_0,I x84.1.bound] :: R):=hren
 refine aF (hT87 19 72 rfl rfl) rfl (nn ?_)
 obtain ⟨rfl,rfl,rfl⟩:=so3 hA74
 have hst:=hst.gets [4,3,3,3] rfl
 have hst:=Star.drop 4 hst rfl
 exact rj hR74 ⟨H87,u111_0,hE87,((hS87 0 rfl).trans sf0),((hS87 7 rfl).trans rfl),rfl,hu111_0,hst⟩
 have hA74:=(ite_f hc75).symm.trans hA74
 refine sq (L_eql rfl rfl rfl (aB rfl (nn ?_)))
 obtain ⟨⟨ok_112,g57_0_113,g57_1_115⟩,hA118,hA74⟩:=bind_some hA74
 obtain ⟨R118,hR118⟩:=exR fun f w_=>∃ H116 : FH,∃ v113_g57_0 : Value,Le H33 H116∧f 0 = Pt g_0∧f 7 = Pt g57∧f 8 = Bo ok_112∧(rS 117 rTerm).rel H116 [v113_g57_0] g57_0_113∧Star H116 w_ (oF 41 (rCon 117) v0_0 r_.list :: oF 4 RP.bool v0_1 r_.gone :: box g_0 115 #[v0_0,v0_1] :: box g57 41 #[v113_g57_0,I g57_1_115] :: R)
 refine W_join R118 ?_ ?_
 refine W_cond (b:=(s.kind == 2)) rfl (fun hc119=>?_) (fun hc119=>?_)
 have hA118:=(ite_t hc119).symm.trans hA118
 obtain ⟨x120,hx120,hA118⟩:=bind_some hA118
 obtain ⟨x125,hx125,hA118⟩:=bind_some hA118
 obtain ⟨g129,cap_g129,hv130,_,_⟩:=Star.row 1 hst rfl hx120
 have hst:=hst.gets [4,4,4,4] rfl
 refine W_drawS 15 [isV (Pt g_0),isV (Pt g_0),isV (Pt g_0),isV (v0_0),isV (Pq g3 1),isV (I s.a),isV (.pointer (some ⟨g129,Int.toNat s.a * 2,none⟩)),exD (isData (rS 117 rTerm) x120.terms) fun u_0=>isV (.agg #[u_0,I x120.bound]),isV (Pq g3 2),isV (I s.b),tup2 (exD (isData (rS 117 rTerm) x125.1.terms) fun u_0=>isV (.agg #[u_0,I x125.1.bound])) (isV (Bo x125.2)),tup2 (exD (isData (rS 117 rTerm) x125.1.terms) fun u_0=>isV (.agg #[u_0,I x125.1.bound])) (isV (Bo x125.2)),exD (isData (rS 117 rTerm) x125.1.terms) fun u_0=>isV (.agg #[u_0,I x125.1.bound]),isV (Bo x125.2),anyF] [oF 41 (rCon 117) v0_0 r_.list,oF 4 RP.bool v0_1 r_.gone,box g_0 115 #[v0_0,v0_1],box g3 63 #[I s.kind,I s.a,I s.b,v1_3,I s.given.bound]] [.base (box g57 41 #[S0,I 0]) (some 14),.madeN 14 [87] (fun vs_=>box g57 41 #[(aggC (vs_.getD 0 undef) 0),I x125.1.bound]) none] (R) [([],[]),([],[]),([],[]),([],[]),([],[]),([],[]),([],[]),([],[]),([],[]),([],[]),([],[]),([],[]),([],[]),([],[]),([0],[1])] (S:=[(none,[],some 14),(some 14,[87],none)]) Try_mix (by kernel_rfl) rfl (by kernel_rfl) (amF_cons (mono_V _) (amF_cons (mono_V _) (amF_cons (mono_V _) (amF_cons (mono_V _) (amF_cons (mono_V _) (amF_cons (mono_V _) (amF_cons (mono_V _) (amF_cons (mono_exD (mono_data _ _) fun _=>mono_V _) (amF_cons (mono_V _) (amF_cons (mono_V _) (amF_cons (mono_tup2 (mono_exD (mono_data _ _) fun _=>mono_V _) (mono_V _)) (amF_cons (mono_tup2 (mono_exD (mono_data _ _) fun _=>mono_V _) (mono_V _)) (amF_cons (mono_exD (mono_data _ _) fun _=>mono_V _) (amF_cons (mono_V _) (amF_cons (mono_any) amF_nil))))))))))))))) hst ?_ (fun f w_ H128 hS128 hE128 hT128 hst=>?_)
 refine opsS_cons (fun f w_ _ _ s _ _ hst=>mF ((s 0 rfl).trans sf0) rfl (nO rfl rfl hst)) (opsS_cons (fun f w_ _ _ _ _ p hst=>L_nc rfl (p 0 76 rfl rfl) (nO rfl rfl hst)) (opsS_cons (fun f w_ _ _ _ _ p hst=>fA 0 fa_115_0 (p 1 77 rfl rfl) rfl (nO rfl rfl hst)) (opsS_cons (fun f w_ _ _ _ _ p hst=>ldB 2 hst Try.isAgg27 (p 2 78 rfl rfl) rfl rfl (nO rfl rfl hst)) (opsS_cons (fun f w_ _ _ s _ _ hst=>fA 1 fa_63_1 ((s 3 rfl).trans sf3) rfl (nO rfl rfl hst)) (opsS_cons (fun f w_ _ _ _ _ p hst=>ldB 3 hst Try.isAgg3 (p 4 80 rfl rfl) rfl rfl (nO rfl rfl hst)) (opsS_cons (fun f w_ _ _ _ _ p hst=>L_ixO (R:=(OR.frz (rCon 117))) (tb:=0) 0 rfl Try.underlying27 Try.sizeOf41 (p 3 79 rfl rfl) hv130 (by first | rfl | simp) (p 5 81 rfl rfl) hx120 (nO rfl rfl hst)) (opsS_cons ?_ ?_)))))))
 intro f w_ H128 X128 hS128 hE128 hP128 hst
 obtain ⟨cs135,hr135,hat135⟩:=Star.eltF 0 hst rfl hv130 hx120
 obtain ⟨u136_0,rfl,hu136_0⟩:=rCon_iff.1 hr135
 refine L_lda (cs:=[u136_0,I x120.bound]) rfl Try.isAgg41 Try.sizeOf41 (hP128 6 82 rfl rfl) (At.sub hat135 0 2) rfl (L_nil ⟨rfl,_,_,rfl,Le.refl _,fun _ _=>⟨_,hu136_0,rfl⟩,hst⟩)
 refine opsS_cons (fun f w_ _ _ s _ _ hst=>fA 2 fa_63_2 ((s 3 rfl).trans sf3) rfl (nO rfl rfl hst)) (opsS_cons (fun f w_ _ _ _ _ p hst=>ldB 3 hst Try.isAgg3 (p 8 84 rfl rfl) rfl rfl (nO rfl rfl hst)) (opsS_cons ?_ ?_))
 intro f w_ H128 X128 hS128 hE128 hP128 hst
 obtain ⟨u137_0,hu137_0,hv137⟩:=(hP128 7 83 rfl rfl)
 refine L_call rfl Try.call131 (ops2 hv137 (hP128 9 85 rfl rfl)) (i_MultiplyConstraint_c (c:=x120) (k:=s.b) hst hu137_0 hx125) ?_
 rintro _ w138 ⟨H138,l138,r138_0,rfl,hr138_0,hst⟩
 exact L_nil ⟨rfl,_,_,rfl,l138,fun _ _=>⟨_,_,rfl,⟨_,hr138_0,rfl⟩,rfl⟩,hst⟩
 refine opsS_cons ?_ ?_
 intro f w_ H128 X128 hS128 hE128 hP128 hst
 obtain ⟨a139_0,a139_1,hv139,ht139_0,ht139_1⟩:=(hP128 10 86 rfl rfl)
 obtain ⟨u140_0,hu140_0,rfl⟩:=ht139_0
 obtain rfl:=ht139_1
 refine mF hv139 rfl (L_nil ⟨rfl,_,_,rfl,Le.refl _,fun _ _=>⟨_,_,rfl,⟨_,hu140_0,rfl⟩,rfl⟩,hst⟩)
 refine opsS_cons ?_ ?_
 intro f w_ H128 X128 hS128 hE128 hP128 hst
 obtain ⟨a141_0,a141_1,hv141,ht141_0,ht141_1⟩:=(hP128 11 75 rfl rfl)
 obtain ⟨u142_0,hu142_0,rfl⟩:=ht141_0
 obtain rfl:=ht141_1
 refine L_ex (v:=.agg #[u142_0,I x125.1.bound]) rfl hv141 rfl (L_nil ⟨rfl,_,_,rfl,Le.refl _,fun _ _=>⟨_,hu142_0,rfl⟩,hst⟩)
 refine opsS_cons ?_ ?_
 intro f w_ H128 X128 hS128 hE128 hP128 hst
 obtain ⟨a143_0,a143_1,hv143,ht143_0,ht143_1⟩:=(hP128 11 75 rfl rfl)
 obtain ⟨u144_0,hu144_0,rfl⟩:=ht143_0
 obtain rfl:=ht143_1
 refine L_ex (v:=Bo x125.2) rfl hv143 rfl (L_nil ⟨rfl,_,_,rfl,Le.refl _,fun _ _=>rfl,hst⟩)
 refine opsS_cons ?_ ?_
 intro f w_ H128 X128 hS128 hE128 hP128 hst
 have hst : Star H128 w_ (oF 41 (rCon 117) v0_0 r_.list :: oF 4 RP.bool v0_1 r_.gone :: box g_0 115 #[v0_0,v0_1] :: box g3 63 #[I s.kind,I s.a,I s.b,v1_3,I s.given.bound] :: box g57 41 #[S0,I 0] :: X128):=hst
 obtain ⟨u145_0,hu145_0,hv145⟩:=(hP128 12 87 rfl rfl)
 refine L_staB (vs:=#[u145_0,I x125.1.bound]) (cs2:=#[u145_0,I x125.1.bound]) 4 rfl Try.sizeOf41 ((hS128 7 rfl).trans rfl) hv145 rfl (ones_cons (one_len (slice_len hu145_0)) (ones_cons rfl ones_nil)) hst rfl (by show 0 + 2≤2; decide) rfl (fun w146 hst=>?_)
 have hst:=hst.gets [4,4,4,4] rfl
 have hst : Star H128 w146 (oF 41 (rCon 117) v0_0 r_.list :: oF 4 RP.bool v0_1 r_.gone :: box g_0 115 #[v0_0,v0_1] :: box g3 63 #[I s.kind,I s.a,I s.b,v1_3,I s.given.bound] :: box g57 41 #[(aggC (f 87) 0),I x125.1.bound] :: X128):=by rw [hv145]; exact hst
 exact L_nil ⟨rfl,Bo false,_,rfl,Le.refl _,(fun _ h=>nomatch h),hst⟩
 exact opsS_nil
 have hst : Star H128 w_ (oF 41 (rCon 117) v0_0 r_.list :: oF 4 RP.bool v0_1 r_.gone :: box g_0 115 #[v0_0,v0_1] :: box g3 63 #[I s.kind,I s.a,I s.b,v1_3,I s.given.bound] :: box g57 41 #[(aggC (f 87) 0),I x125.1.bound] :: R):=hst
 obtain ⟨u147_0,hu147_0,hv147⟩:=(hT128 12 87 rfl rfl)
 have hren : Star H128 w_ (oF 41 (rCon 117) v0_0 r_.list :: oF 4 RP.bool v0_1 r_.gone :: box g_0 115 #[v0_0,v0_1] :: box g3 63 #[I s.kind,I s.a,I s.b,v1_3,I s.given.bound] :: box g57 41 #[(aggC (f 87) 0),I x125.1.bound] :: R):=hst
 rw [hv147] at hren
 have hst : Star H128 w_ (oF 41 (rCon 117) v0_0 r_.list :: oF 4 RP.bool v0_1 r_.gone :: box g_0 115 #[v0_0,v0_1] :: box g3 63 #[I s.kind,I s.a,I s.b,v1_3,I s.given.bound] :: box g57 41 #[u147_0,I x125.1.bound] :: R):=hren
 refine aF (hT128 13 88 rfl rfl) rfl (nn ?_)
 obtain ⟨rfl,rfl,rfl⟩:=so3 hA118
 have hst:=hst.gets [4,3,3,3] rfl
 have hst:=Star.drop 4 hst rfl
 exact rj hR118 ⟨H128,u147_0,hE128,((hS128 0 rfl).trans sf0),((hS128 7 rfl).trans rfl),rfl,hu147_0,hst⟩
 have hA118:=(ite_f hc119).symm.trans hA118
 refine sq (L_eql rfl rfl rfl (aB rfl (nn ?_)))
 obtain ⟨⟨ok_148,g57_0_149,g57_1_151⟩,hA154,hA118⟩:=bind_some hA118
 obtain ⟨R154,hR154⟩:=exR fun f w_=>∃ H152 : FH,∃ v149_g57_0 : Value,Le H33 H152∧f 0 = Pt g_0∧f 7 = Pt g57∧f 8 = Bo ok_148∧(rS 117 rTerm).rel H152 [v149_g57_0] g57_0_149∧Star H152 w_ (oF 41 (rCon 117) v0_0 r_.list :: oF 4 RP.bool v0_1 r_.gone :: box g_0 115 #[v0_0,v0_1] :: box g57 41 #[v149_g57_0,I g57_1_151] :: R)
 refine W_join R154 ?_ ?_
 refine W_cond (b:=(s.kind == 3)) rfl (fun hc155=>?_) (fun hc155=>?_)
 have hA154:=(ite_t hc155).symm.trans hA154
 obtain ⟨x156,hx156,hA154⟩:=bind_some hA154
 obtain ⟨x161,hx161,hA154⟩:=bind_some hA154
 obtain ⟨g165,cap_g165,hv166,_,_⟩:=Star.row 1 hst rfl hx156
 have hst:=hst.gets [4,4,4,4] rfl
 refine W_drawS 15 [isV (Pt g_0),isV (Pt g_0),isV (Pt g_0),isV (v0_0),isV (Pq g3 1),isV (I s.a),isV (.pointer (some ⟨g165,Int.toNat s.a * 2,none⟩)),exD (isData (rS 117 rTerm) x156.terms) fun u_0=>isV (.agg #[u_0,I x156.bound]),isV (Pq g3 2),isV (I s.b),tup2 (exD (isData (rS 117 rTerm) x161.1.terms) fun u_0=>isV (.agg #[u_0,I x161.1.bound])) (isV (Bo x161.2)),tup2 (exD (isData (rS 117 rTerm) x161.1.terms) fun u_0=>isV (.agg #[u_0,I x161.1.bound])) (isV (Bo x161.2)),exD (isData (rS 117 rTerm) x161.1.terms) fun u_0=>isV (.agg #[u_0,I x161.1.bound]),isV (Bo x161.2),anyF] [oF 41 (rCon 117) v0_0 r_.list,oF 4 RP.bool v0_1 r_.gone,box g_0 115 #[v0_0,v0_1],box g3 63 #[I s.kind,I s.a,I s.b,v1_3,I s.given.bound]] [.base (box g57 41 #[S0,I 0]) (some 14),.madeN 14 [103] (fun vs_=>box g57 41 #[(aggC (vs_.getD 0 undef) 0),I x161.1.bound]) none] (R) [([],[]),([],[]),([],[]),([],[]),([],[]),([],[]),([],[]),([],[]),([],[]),([],[]),([],[]),([],[]),([],[]),([],[]),([0],[1])] (S:=[(none,[],some 14),(some 14,[103],none)]) Try_mix (by kernel_rfl) rfl (by kernel_rfl) (amF_cons (mono_V _) (amF_cons (mono_V _) (amF_cons (mono_V _) (amF_cons (mono_V _) (amF_cons (mono_V _) (amF_cons (mono_V _) (amF_cons (mono_V _) (amF_cons (mono_exD (mono_data _ _) fun _=>mono_V _) (amF_cons (mono_V _) (amF_cons (mono_V _) (amF_cons (mono_tup2 (mono_exD (mono_data _ _) fun _=>mono_V _) (mono_V _)) (amF_cons (mono_tup2 (mono_exD (mono_data _ _) fun _=>mono_V _) (mono_V _)) (amF_cons (mono_exD (mono_data _ _) fun _=>mono_V _) (amF_cons (mono_V _) (amF_cons (mono_any) amF_nil))))))))))))))) hst ?_ (fun f w_ H164 hS164 hE164 hT164 hst=>?_)
 refine opsS_cons (fun f w_ _ _ s _ _ hst=>mF ((s 0 rfl).trans sf0) rfl (nO rfl rfl hst)) (opsS_cons (fun f w_ _ _ _ _ p hst=>L_nc rfl (p 0 92 rfl rfl) (nO rfl rfl hst)) (opsS_cons (fun f w_ _ _ _ _ p hst=>fA 0 fa_115_0 (p 1 93 rfl rfl) rfl (nO rfl rfl hst)) (opsS_cons (fun f w_ _ _ _ _ p hst=>ldB 2 hst Try.isAgg27 (p 2 94 rfl rfl) rfl rfl (nO rfl rfl hst)) (opsS_cons (fun f w_ _ _ s _ _ hst=>fA 1 fa_63_1 ((s 3 rfl).trans sf3) rfl (nO rfl rfl hst)) (opsS_cons (fun f w_ _ _ _ _ p hst=>ldB 3 hst Try.isAgg3 (p 4 96 rfl rfl) rfl rfl (nO rfl rfl hst)) (opsS_cons (fun f w_ _ _ _ _ p hst=>L_ixO (R:=(OR.frz (rCon 117))) (tb:=0) 0 rfl Try.underlying27 Try.sizeOf41 (p 3 95 rfl rfl) hv166 (by first | rfl | simp) (p 5 97 rfl rfl) hx156 (nO rfl rfl hst)) (opsS_cons ?_ ?_)))))))
 intro f w_ H164 X164 hS164 hE164 hP164 hst
 obtain ⟨cs171,hr171,hat171⟩:=Star.eltF 0 hst rfl hv166 hx156
 obtain ⟨u172_0,rfl,hu172_0⟩:=rCon_iff.1 hr171
 refine L_lda (cs:=[u172_0,I x156.bound]) rfl Try.isAgg41 Try.sizeOf41 (hP164 6 98 rfl rfl) (At.sub hat171 0 2) rfl (L_nil ⟨rfl,_,_,rfl,Le.refl _,fun _ _=>⟨_,hu172_0,rfl⟩,hst⟩)
 refine opsS_cons (fun f w_ _ _ s _ _ hst=>fA 2 fa_63_2 ((s 3 rfl).trans sf3) rfl (nO rfl rfl hst)) (opsS_cons (fun f w_ _ _ _ _ p hst=>ldB 3 hst Try.isAgg3 (p 8 100 rfl rfl) rfl rfl (nO rfl rfl hst)) (opsS_cons ?_ ?_))
 intro f w_ H164 X164 hS164 hE164 hP164 hst
 obtain ⟨u173_0,hu173_0,hv173⟩:=(hP164 7 99 rfl rfl)
 refine L_call rfl Try.call132 (ops2 hv173 (hP164 9 101 rfl rfl)) (i_DivideConstraint_c (c:=x156) (k:=s.b) hst hu173_0 hx161) ?_
 rintro _ w174 ⟨H174,l174,r174_0,rfl,hr174_0,hst⟩
 exact L_nil ⟨rfl,_,_,rfl,l174,fun _ _=>⟨_,_,rfl,⟨_,hr174_0,rfl⟩,rfl⟩,hst⟩
 refine opsS_cons ?_ ?_
 intro f w_ H164 X164 hS164 hE164 hP164 hst
 obtain ⟨a175_0,a175_1,hv175,ht175_0,ht175_1⟩:=(hP164 10 102 rfl rfl)
 obtain ⟨u176_0,hu176_0,rfl⟩:=ht175_0
 obtain rfl:=ht175_1
 refine mF hv175 rfl (L_nil ⟨rfl,_,_,rfl,Le.refl _,fun _ _=>⟨_,_,rfl,⟨_,hu176_0,rfl⟩,rfl⟩,hst⟩)
 refine opsS_cons ?_ ?_
 intro f w_ H164 X164 hS164 hE164 hP164 hst
 obtain ⟨a177_0,a177_1,hv177,ht177_0,ht177_1⟩:=(hP164 11 91 rfl rfl)
 obtain ⟨u178_0,hu178_0,rfl⟩:=ht177_0
 obtain rfl:=ht177_1
 refine L_ex (v:=.agg #[u178_0,I x161.1.bound]) rfl hv177 rfl (L_nil ⟨rfl,_,_,rfl,Le.refl _,fun _ _=>⟨_,hu178_0,rfl⟩,hst⟩)
 refine opsS_cons ?_ ?_
 intro f w_ H164 X164 hS164 hE164 hP164 hst
 obtain ⟨a179_0,a179_1,hv179,ht179_0,ht179_1⟩:=(hP164 11 91 rfl rfl)
 obtain ⟨u180_0,hu180_0,rfl⟩:=ht179_0
 obtain rfl:=ht179_1
 refine L_ex (v:=Bo x161.2) rfl hv179 rfl (L_nil ⟨rfl,_,_,rfl,Le.refl _,fun _ _=>rfl,hst⟩)
 refine opsS_cons ?_ ?_
 intro f w_ H164 X164 hS164 hE164 hP164 hst
 have hst : Star H164 w_ (oF 41 (rCon 117) v0_0 r_.list :: oF 4 RP.bool v0_1 r_.gone :: box g_0 115 #[v0_0,v0_1] :: box g3 63 #[I s.kind,I s.a,I s.b,v1_3,I s.given.bound] :: box g57 41 #[S0,I 0] :: X164):=hst
 obtain ⟨u181_0,hu181_0,hv181⟩:=(hP164 12 103 rfl rfl)
 refine L_staB (vs:=#[u181_0,I x161.1.bound]) (cs2:=#[u181_0,I x161.1.bound]) 4 rfl Try.sizeOf41 ((hS164 7 rfl).trans rfl) hv181 rfl (ones_cons (one_len (slice_len hu181_0)) (ones_cons rfl ones_nil)) hst rfl (by show 0 + 2≤2; decide) rfl (fun w182 hst=>?_)
 have hst:=hst.gets [4,4,4,4] rfl
 have hst : Star H164 w182 (oF 41 (rCon 117) v0_0 r_.list :: oF 4 RP.bool v0_1 r_.gone :: box g_0 115 #[v0_0,v0_1] :: box g3 63 #[I s.kind,I s.a,I s.b,v1_3,I s.given.bound] :: box g57 41 #[(aggC (f 103) 0),I x161.1.bound] :: X164):=by rw [hv181]; exact hst
 exact L_nil ⟨rfl,Bo false,_,rfl,Le.refl _,(fun _ h=>nomatch h),hst⟩
 exact opsS_nil
 have hst : Star H164 w_ (oF 41 (rCon 117) v0_0 r_.list :: oF 4 RP.bool v0_1 r_.gone :: box g_0 115 #[v0_0,v0_1] :: box g3 63 #[I s.kind,I s.a,I s.b,v1_3,I s.given.bound] :: box g57 41 #[(aggC (f 103) 0),I x161.1.bound] :: R):=hst
 obtain ⟨u183_0,hu183_0,hv183⟩:=(hT164 12 103 rfl rfl)
 have hren : Star H164 w_ (oF 41 (rCon 117) v0_0 r_.list :: oF 4 RP.bool v0_1 r_.gone :: box g_0 115 #[v0_0,v0_1] :: box g3 63 #[I s.kind,I s.a,I s.b,v1_3,I s.given.bound] :: box g57 41 #[(aggC (f 103) 0),I x161.1.bound] :: R):=hst
 rw [hv183] at hren
 have hst : Star H164 w_ (oF 41 (rCon 117) v0_0 r_.list :: oF 4 RP.bool v0_1 r_.gone :: box g_0 115 #[v0_0,v0_1] :: box g3 63 #[I s.kind,I s.a,I s.b,v1_3,I s.given.bound] :: box g57 41 #[u183_0,I x161.1.bound] :: R):=hren
 refine aF (hT164 13 104 rfl rfl) rfl (nn ?_)
 obtain ⟨rfl,rfl,rfl⟩:=so3 hA154
 have hst:=hst.gets [4,3,3,3] rfl
 have hst:=Star.drop 4 hst rfl
 exact rj hR154 ⟨H164,u183_0,hE164,((hS164 0 rfl).trans sf0),((hS164 7 rfl).trans rfl),rfl,hu183_0,hst⟩
 have hA154:=(ite_f hc155).symm.trans hA154
 refine sq (L_eql rfl rfl rfl (aB rfl (nn ?_)))
 obtain ⟨⟨ok_184,g57_0_185,g57_1_187⟩,hA190,hA154⟩:=bind_some hA154
 obtain ⟨R190,hR190⟩:=exR fun f w_=>∃ H188 : FH,∃ v185_g57_0 : Value,Le H33 H188∧f 0 = Pt g_0∧f 7 = Pt g57∧f 8 = Bo ok_184∧(rS 117 rTerm).rel H188 [v185_g57_0] g57_0_185∧Star H188 w_ (oF 41 (rCon 117) v0_0 r_.list :: oF 4 RP.bool v0_1 r_.gone :: box g_0 115 #[v0_0,v0_1] :: box g57 41 #[v185_g57_0,I g57_1_187] :: R)
 refine W_join R190 ?_ ?_
 refine W_cond (b:=(s.kind == 4)) rfl (fun hc191=>?_) (fun hc191=>?_)
 have hA190:=(ite_t hc191).symm.trans hA190
 obtain ⟨x192,hx192,hA190⟩:=bind_some hA190
 obtain ⟨x202,hx202,hA190⟩:=bind_some hA190
 obtain ⟨g207,cap_g207,hv208,_,_⟩:=Star.row 1 hst rfl hx192
 have hst:=hst.gets [4,4,4,4] rfl
 refine W_drawS 13 [isV (Pt g_0),isV (Pt g_0),isV (Pt g_0),isV (v0_0),isV (Pq g3 1),isV (I s.a),isV (.pointer (some ⟨g207,Int.toNat s.a * 2,none⟩)),exD (isData (rS 117 rTerm) x192.terms) fun u_0=>isV (.agg #[u_0,I x192.bound]),tup2 (exA fun u_0=>isV (.agg #[u_0,I x202.1.bound])) (isV (Bo x202.2)),tup2 (exA fun u_0=>isV (.agg #[u_0,I x202.1.bound])) (isV (Bo x202.2)),exA fun u_0=>isV (.agg #[u_0,I x202.1.bound]),isV (Bo x202.2),anyF] [oF 41 (rCon 117) v0_0 r_.list,oF 4 RP.bool v0_1 r_.gone,box g_0 115 #[v0_0,v0_1],box g3 63 #[I s.kind,I s.a,I s.b,v1_3,I s.given.bound]] [.base (box g57 41 #[S0,I 0]) (some 12),.made 8 116 (fun v_=>own (OR.ownS 117 (OR.frz rTerm)) [(aggC (tupC v_ 0) 0)] x202.1.terms) (some 9),.made 9 107 (fun v_=>own (OR.ownS 117 (OR.frz rTerm)) [(aggC (tupC v_ 0) 0)] x202.1.terms) (some 10),.made 10 117 (fun v_=>oF 117 rTerm (aggC v_ 0) x202.1.terms) none,.madeN 12 [117] (fun vs_=>box g57 41 #[(aggC (vs_.getD 0 undef) 0),I x202.1.bound]) none] (R) [([],[]),([],[]),([],[]),([],[]),([],[]),([],[]),([],[]),([],[]),([],[1]),([1],[2]),([2],[3]),([],[]),([0,3],[3,4])] (S:=[(none,[],some 12),(some 8,[116],some 9),(some 9,[107],some 10),(some 10,[117],none),(some 12,[117],none)]) Try_mix (by kernel_rfl) rfl (by kernel_rfl) (amF_cons (mono_V _) (amF_cons (mono_V _) (amF_cons (mono_V _) (amF_cons (mono_V _) (amF_cons (mono_V _) (amF_cons (mono_V _) (amF_cons (mono_V _) (amF_cons (mono_exD (mono_data _ _) fun _=>mono_V _) (amF_cons (mono_tup2 (mono_exA fun _=>mono_V _) (mono_V _)) (amF_cons (mono_tup2 (mono_exA fun _=>mono_V _) (mono_V _)) (amF_cons (mono_exA fun _=>mono_V _) (amF_cons (mono_V _) (amF_cons (mono_any) amF_nil))))))))))))) hst ?_ (fun f w_ H206 hS206 hE206 hT206 hst=>?_)
 refine opsS_cons (fun f w_ _ _ s _ _ hst=>mF ((s 0 rfl).trans sf0) rfl (nO rfl rfl hst)) (opsS_cons (fun f w_ _ _ _ _ p hst=>L_nc rfl (p 0 108 rfl rfl) (nO rfl rfl hst)) (opsS_cons (fun f w_ _ _ _ _ p hst=>fA 0 fa_115_0 (p 1 109 rfl rfl) rfl (nO rfl rfl hst)) (opsS_cons (fun f w_ _ _ _ _ p hst=>ldB 2 hst Try.isAgg27 (p 2 110 rfl rfl) rfl rfl (nO rfl rfl hst)) (opsS_cons (fun f w_ _ _ s _ _ hst=>fA 1 fa_63_1 ((s 3 rfl).trans sf3) rfl (nO rfl rfl hst)) (opsS_cons (fun f w_ _ _ _ _ p hst=>ldB 3 hst Try.isAgg3 (p 4 112 rfl rfl) rfl rfl (nO rfl rfl hst)) (opsS_cons (fun f w_ _ _ _ _ p hst=>L_ixO (R:=(OR.frz (rCon 117))) (tb:=0) 0 rfl Try.underlying27 Try.sizeOf41 (p 3 111 rfl rfl) hv208 (by first | rfl | simp) (p 5 113 rfl rfl) hx192 (nO rfl rfl hst)) (opsS_cons ?_ ?_)))))))
 intro f w_ H206 X206 hS206 hE206 hP206 hst
 obtain ⟨cs219,hr219,hat219⟩:=Star.eltF 0 hst rfl hv208 hx192
 obtain ⟨u220_0,rfl,hu220_0⟩:=rCon_iff.1 hr219
 refine L_lda (cs:=[u220_0,I x192.bound]) rfl Try.isAgg41 Try.sizeOf41 (hP206 6 114 rfl rfl) (At.sub hat219 0 2) rfl (L_nil ⟨rfl,_,_,rfl,Le.refl _,fun _ _=>⟨_,hu220_0,rfl⟩,hst⟩)
 refine opsS_cons ?_ ?_
 intro f w_ H206 X206 hS206 hE206 hP206 hst
 obtain ⟨u221_0,hu221_0,hv221⟩:=(hP206 7 115 rfl rfl)
 obtain ⟨H222b,l223,s224,z225,k226⟩:=hst.borrow
 refine L_call rfl Try.call133 (ops1 hv221) (i_SaturateConstraint_c (c:=x192) s224 (RP.mono _ hu221_0 l223) hx202) ?_
 rintro _ w227 ⟨r227_0,rfl,hst⟩
 have hst:=k226 hst (co closed_term c0)
 have hst:=hst.gets [4,4,4,4] rfl
 exact L_nil ⟨rfl,_,_,rfl,Le.refl _,fun _ _=>⟨_,_,rfl,⟨_,rfl⟩,rfl⟩,hst⟩
 refine opsS_cons ?_ ?_
 intro f w_ H206 X206 hS206 hE206 hP206 hst
 have hst : Star H206 w_ (oF 41 (rCon 117) v0_0 r_.list :: oF 4 RP.bool v0_1 r_.gone :: box g_0 115 #[v0_0,v0_1] :: box g3 63 #[I s.kind,I s.a,I s.b,v1_3,I s.given.bound] :: own (OR.ownS 117 (OR.frz rTerm)) [(aggC (tupC (f 116) 0) 0)] x202.1.terms :: X206):=hst
 obtain ⟨a229_0,a229_1,hv229,ht229_0,ht229_1⟩:=(hP206 8 116 rfl rfl)
 obtain ⟨u230_0,rfl⟩:=ht229_0
 obtain rfl:=ht229_1
 have hren : Star H206 w_ (oF 41 (rCon 117) v0_0 r_.list :: oF 4 RP.bool v0_1 r_.gone :: box g_0 115 #[v0_0,v0_1] :: box g3 63 #[I s.kind,I s.a,I s.b,v1_3,I s.given.bound] :: own (OR.ownS 117 (OR.frz rTerm)) [(aggC (tupC (f 116) 0) 0)] x202.1.terms :: X206):=hst
 rw [hv229] at hren
 have hst : Star H206 w_ (oF 41 (rCon 117) v0_0 r_.list :: oF 4 RP.bool v0_1 r_.gone :: box g_0 115 #[v0_0,v0_1] :: box g3 63 #[I s.kind,I s.a,I s.b,v1_3,I s.given.bound] :: oF 117 rTerm u230_0 x202.1.terms :: X206):=hren
 refine mF hv229 rfl (L_nil ⟨rfl,_,_,rfl,Le.refl _,fun _ _=>⟨_,_,rfl,⟨_,rfl⟩,rfl⟩,hst⟩)
 refine opsS_cons ?_ ?_
 intro f w_ H206 X206 hS206 hE206 hP206 hst
 have hst : Star H206 w_ (oF 41 (rCon 117) v0_0 r_.list :: oF 4 RP.bool v0_1 r_.gone :: box g_0 115 #[v0_0,v0_1] :: box g3 63 #[I s.kind,I s.a,I s.b,v1_3,I s.given.bound] :: own (OR.ownS 117 (OR.frz rTerm)) [(aggC (tupC (f 107) 0) 0)] x202.1.terms :: X206):=hst
 obtain ⟨a231_0,a231_1,hv231,ht231_0,ht231_1⟩:=(hP206 9 107 rfl rfl)
 obtain ⟨u232_0,rfl⟩:=ht231_0
 obtain rfl:=ht231_1
 have hren : Star H206 w_ (oF 41 (rCon 117) v0_0 r_.list :: oF 4 RP.bool v0_1 r_.gone :: box g_0 115 #[v0_0,v0_1] :: box g3 63 #[I s.kind,I s.a,I s.b,v1_3,I s.given.bound] :: own (OR.ownS 117 (OR.frz rTerm)) [(aggC (tupC (f 107) 0) 0)] x202.1.terms :: X206):=hst
 rw [hv231] at hren
 have hst : Star H206 w_ (oF 41 (rCon 117) v0_0 r_.list :: oF 4 RP.bool v0_1 r_.gone :: box g_0 115 #[v0_0,v0_1] :: box g3 63 #[I s.kind,I s.a,I s.b,v1_3,I s.given.bound] :: oF 117 rTerm u232_0 x202.1.terms :: X206):=hren
 refine L_ex (v:=.agg #[u232_0,I x202.1.bound]) rfl hv231 rfl (L_nil ⟨rfl,_,_,rfl,Le.refl _,fun _ _=>⟨_,rfl⟩,hst⟩)
 refine opsS_cons ?_ ?_
 intro f w_ H206 X206 hS206 hE206 hP206 hst
 obtain ⟨a233_0,a233_1,hv233,ht233_0,ht233_1⟩:=(hP206 9 107 rfl rfl)
 obtain ⟨u234_0,rfl⟩:=ht233_0
 obtain rfl:=ht233_1
 refine L_ex (v:=Bo x202.2) rfl hv233 rfl (L_nil ⟨rfl,_,_,rfl,Le.refl _,fun _ _=>rfl,hst⟩)
 refine opsS_cons ?_ ?_
 intro f w_ H206 X206 hS206 hE206 hP206 hst
 have hst : Star H206 w_ (oF 41 (rCon 117) v0_0 r_.list :: oF 4 RP.bool v0_1 r_.gone :: box g_0 115 #[v0_0,v0_1] :: box g3 63 #[I s.kind,I s.a,I s.b,v1_3,I s.given.bound] :: box g57 41 #[S0,I 0] :: own (OR.ownS 117 (OR.frz rTerm)) [(aggC (f 117) 0)] x202.1.terms :: X206):=hst
 obtain ⟨u235_0,hv235⟩:=(hP206 10 117 rfl rfl)
 have hren : Star H206 w_ (oF 41 (rCon 117) v0_0 r_.list :: oF 4 RP.bool v0_1 r_.gone :: box g_0 115 #[v0_0,v0_1] :: box g3 63 #[I s.kind,I s.a,I s.b,v1_3,I s.given.bound] :: box g57 41 #[S0,I 0] :: own (OR.ownS 117 (OR.frz rTerm)) [(aggC (f 117) 0)] x202.1.terms :: X206):=hst
 rw [hv235] at hren
 have hst : Star H206 w_ (oF 41 (rCon 117) v0_0 r_.list :: oF 4 RP.bool v0_1 r_.gone :: box g_0 115 #[v0_0,v0_1] :: box g3 63 #[I s.kind,I s.a,I s.b,v1_3,I s.given.bound] :: box g57 41 #[S0,I 0] :: oF 117 rTerm u235_0 x202.1.terms :: X206):=hren
 refine L_staB (vs:=#[u235_0,I x202.1.bound]) (cs2:=#[u235_0,I x202.1.bound]) 4 rfl Try.sizeOf41 ((hS206 7 rfl).trans rfl) hv235 rfl (ones_cons (one_len (Star.len 5 hst rfl)) (ones_cons rfl ones_nil)) hst rfl (by show 0 + 2≤2; decide) rfl (fun w236 hst=>?_)
 have hst:=hst.gets [5,5,5,5,5] rfl
 have hst : Star H206 w236 (oF 41 (rCon 117) v0_0 r_.list :: oF 4 RP.bool v0_1 r_.gone :: box g_0 115 #[v0_0,v0_1] :: box g3 63 #[I s.kind,I s.a,I s.b,v1_3,I s.given.bound] :: own (OR.ownS 117 (OR.frz rTerm)) [(aggC (f 117) 0)] x202.1.terms :: box g57 41 #[(aggC (f 117) 0),I x202.1.bound] :: X206):=by rw [hv235]; exact hst
 exact L_nil ⟨rfl,Bo false,_,rfl,Le.refl _,(fun _ h=>nomatch h),hst⟩
 exact opsS_nil
 have hst : Star H206 w_ (oF 41 (rCon 117) v0_0 r_.list :: oF 4 RP.bool v0_1 r_.gone :: box g_0 115 #[v0_0,v0_1] :: box g3 63 #[I s.kind,I s.a,I s.b,v1_3,I s.given.bound] :: own (OR.ownS 117 (OR.frz rTerm)) [(aggC (f 117) 0)] x202.1.terms :: box g57 41 #[(aggC (f 117) 0),I x202.1.bound] :: R):=hst
 refine aF (hT206 11 118 rfl rfl) rfl (nn ?_)
 obtain ⟨rfl,rfl,rfl⟩:=so3 hA190
 have hst:=hst.get 4 rfl
 obtain ⟨H237,l238,hst,hz239⟩:=Star.freeze hst
 have hz239 : (rS 117 rTerm).rel H237 [(aggC (f 117) 0)] x202.1.terms:=hz239
 have hst:=hst.gets [4,3,3,3] rfl
 have hst:=Star.drop 4 hst rfl
 exact rj hR190 ⟨H237,(aggC (f 117) 0),(Le.trans hE206 l238),((hS206 0 rfl).trans sf0),((hS206 7 rfl).trans rfl),rfl,hz239,hst⟩
 have hA190:=(ite_f hc191).symm.trans hA190
 refine sq (L_eql rfl rfl rfl (aB rfl (nn ?_)))
 obtain ⟨⟨ok_240,g57_0_241,g57_1_243⟩,hA246,hA190⟩:=bind_some hA190
 obtain ⟨R246,hR246⟩:=exR fun f w_=>∃ H244 : FH,∃ v241_g57_0 : Value,Le H33 H244∧f 0 = Pt g_0∧f 7 = Pt g57∧f 8 = Bo ok_240∧(rS 117 rTerm).rel H244 [v241_g57_0] g57_0_241∧Star H244 w_ (oF 41 (rCon 117) v0_0 r_.list :: oF 4 RP.bool v0_1 r_.gone :: box g_0 115 #[v0_0,v0_1] :: box g57 41 #[v241_g57_0,I g57_1_243] :: R)
 refine W_join R246 ?_ ?_
 refine W_cond (b:=(s.kind == 5)) rfl (fun hc247=>?_) (fun hc247=>?_)
 have hA246:=(ite_t hc247).symm.trans hA246
 obtain ⟨x248,hx248,hA246⟩:=bind_some hA246
 obtain ⟨x258,hx258,hA246⟩:=bind_some hA246
 obtain ⟨g263,cap_g263,hv264,_,_⟩:=Star.row 1 hst rfl hx248
 have hst:=hst.gets [4,4,4,4] rfl
 refine W_drawS 15 [isV (Pt g_0),isV (Pt g_0),isV (Pt g_0),isV (v0_0),isV (Pq g3 1),isV (I s.a),isV (.pointer (some ⟨g263,Int.toNat s.a * 2,none⟩)),exD (isData (rS 117 rTerm) x248.terms) fun u_0=>isV (.agg #[u_0,I x248.bound]),isV (Pq g3 2),isV (I s.b),tup2 (exA fun u_0=>isV (.agg #[u_0,I x258.1.bound])) (isV (Bo x258.2)),tup2 (exA fun u_0=>isV (.agg #[u_0,I x258.1.bound])) (isV (Bo x258.2)),exA fun u_0=>isV (.agg #[u_0,I x258.1.bound]),isV (Bo x258.2),anyF] [oF 41 (rCon 117) v0_0 r_.list,oF 4 RP.bool v0_1 r_.gone,box g_0 115 #[v0_0,v0_1],box g3 63 #[I s.kind,I s.a,I s.b,v1_3,I s.given.bound]] [.base (box g57 41 #[S0,I 0]) (some 14),.made 10 132 (fun v_=>own (OR.ownS 117 (OR.frz rTerm)) [(aggC (tupC v_ 0) 0)] x258.1.terms) (some 11),.made 11 121 (fun v_=>own (OR.ownS 117 (OR.frz rTerm)) [(aggC (tupC v_ 0) 0)] x258.1.terms) (some 12),.made 12 133 (fun v_=>oF 117 rTerm (aggC v_ 0) x258.1.terms) none,.madeN 14 [133] (fun vs_=>box g57 41 #[(aggC (vs_.getD 0 undef) 0),I x258.1.bound]) none] (R) [([],[]),([],[]),([],[]),([],[]),([],[]),([],[]),([],[]),([],[]),([],[]),([],[]),([],[1]),([1],[2]),([2],[3]),([],[]),([0,3],[3,4])] (S:=[(none,[],some 14),(some 10,[132],some 11),(some 11,[121],some 12),(some 12,[133],none),(some 14,[133],none)]) Try_mix (by kernel_rfl) rfl (by kernel_rfl) (amF_cons (mono_V _) (amF_cons (mono_V _) (amF_cons (mono_V _) (amF_cons (mono_V _) (amF_cons (mono_V _) (amF_cons (mono_V _) (amF_cons (mono_V _) (amF_cons (mono_exD (mono_data _ _) fun _=>mono_V _) (amF_cons (mono_V _) (amF_cons (mono_V _) (amF_cons (mono_tup2 (mono_exA fun _=>mono_V _) (mono_V _)) (amF_cons (mono_tup2 (mono_exA fun _=>mono_V _) (mono_V _)) (amF_cons (mono_exA fun _=>mono_V _) (amF_cons (mono_V _) (amF_cons (mono_any) amF_nil))))))))))))))) hst ?_ (fun f w_ H262 hS262 hE262 hT262 hst=>?_)
 refine opsS_cons (fun f w_ _ _ s _ _ hst=>mF ((s 0 rfl).trans sf0) rfl (nO rfl rfl hst)) (opsS_cons (fun f w_ _ _ _ _ p hst=>L_nc rfl (p 0 122 rfl rfl) (nO rfl rfl hst)) (opsS_cons (fun f w_ _ _ _ _ p hst=>fA 0 fa_115_0 (p 1 123 rfl rfl) rfl (nO rfl rfl hst)) (opsS_cons (fun f w_ _ _ _ _ p hst=>ldB 2 hst Try.isAgg27 (p 2 124 rfl rfl) rfl rfl (nO rfl rfl hst)) (opsS_cons (fun f w_ _ _ s _ _ hst=>fA 1 fa_63_1 ((s 3 rfl).trans sf3) rfl (nO rfl rfl hst)) (opsS_cons (fun f w_ _ _ _ _ p hst=>ldB 3 hst Try.isAgg3 (p 4 126 rfl rfl) rfl rfl (nO rfl rfl hst)) (opsS_cons (fun f w_ _ _ _ _ p hst=>L_ixO (R:=(OR.frz (rCon 117))) (tb:=0) 0 rfl Try.underlying27 Try.sizeOf41 (p 3 125 rfl rfl) hv264 (by first | rfl | simp) (p 5 127 rfl rfl) hx248 (nO rfl rfl hst)) (opsS_cons ?_ ?_)))))))
 intro f w_ H262 X262 hS262 hE262 hP262 hst
 obtain ⟨cs275,hr275,hat275⟩:=Star.eltF 0 hst rfl hv264 hx248
 obtain ⟨u276_0,rfl,hu276_0⟩:=rCon_iff.1 hr275
 refine L_lda (cs:=[u276_0,I x248.bound]) rfl Try.isAgg41 Try.sizeOf41 (hP262 6 128 rfl rfl) (At.sub hat275 0 2) rfl (L_nil ⟨rfl,_,_,rfl,Le.refl _,fun _ _=>⟨_,hu276_0,rfl⟩,hst⟩)
 refine opsS_cons (fun f w_ _ _ s _ _ hst=>fA 2 fa_63_2 ((s 3 rfl).trans sf3) rfl (nO rfl rfl hst)) (opsS_cons (fun f w_ _ _ _ _ p hst=>ldB 3 hst Try.isAgg3 (p 8 130 rfl rfl) rfl rfl (nO rfl rfl hst)) (opsS_cons ?_ ?_))
 intro f w_ H262 X262 hS262 hE262 hP262 hst
 obtain ⟨u277_0,hu277_0,hv277⟩:=(hP262 7 129 rfl rfl)
 obtain ⟨H278b,l279,s280,z281,k282⟩:=hst.borrow
 refine L_call rfl Try.call134 (ops2 hv277 (hP262 9 131 rfl rfl)) (i_WeakenConstraint_c (c:=x248) (variable_:=s.b) s280 (RP.mono _ hu277_0 l279) hx258) ?_
 rintro _ w283 ⟨r283_0,rfl,hst⟩
 have hst:=k282 hst (co closed_term c0)
 have hst:=hst.gets [4,4,4,4] rfl
 exact L_nil ⟨rfl,_,_,rfl,Le.refl _,fun _ _=>⟨_,_,rfl,⟨_,rfl⟩,rfl⟩,hst⟩
 refine opsS_cons ?_ ?_
 intro f w_ H262 X262 hS262 hE262 hP262 hst
 have hst : Star H262 w_ (oF 41 (rCon 117) v0_0 r_.list :: oF 4 RP.bool v0_1 r_.gone :: box g_0 115 #[v0_0,v0_1] :: box g3 63 #[I s.kind,I s.a,I s.b,v1_3,I s.given.bound] :: own (OR.ownS 117 (OR.frz rTerm)) [(aggC (tupC (f 132) 0) 0)] x258.1.terms :: X262):=hst
 obtain ⟨a285_0,a285_1,hv285,ht285_0,ht285_1⟩:=(hP262 10 132 rfl rfl)
 obtain ⟨u286_0,rfl⟩:=ht285_0
 obtain rfl:=ht285_1
 have hren : Star H262 w_ (oF 41 (rCon 117) v0_0 r_.list :: oF 4 RP.bool v0_1 r_.gone :: box g_0 115 #[v0_0,v0_1] :: box g3 63 #[I s.kind,I s.a,I s.b,v1_3,I s.given.bound] :: own (OR.ownS 117 (OR.frz rTerm)) [(aggC (tupC (f 132) 0) 0)] x258.1.terms :: X262):=hst
 rw [hv285] at hren
 have hst : Star H262 w_ (oF 41 (rCon 117) v0_0 r_.list :: oF 4 RP.bool v0_1 r_.gone :: box g_0 115 #[v0_0,v0_1] :: box g3 63 #[I s.kind,I s.a,I s.b,v1_3,I s.given.bound] :: oF 117 rTerm u286_0 x258.1.terms :: X262):=hren
 refine mF hv285 rfl (L_nil ⟨rfl,_,_,rfl,Le.refl _,fun _ _=>⟨_,_,rfl,⟨_,rfl⟩,rfl⟩,hst⟩)
 refine opsS_cons ?_ ?_
 intro f w_ H262 X262 hS262 hE262 hP262 hst
 have hst : Star H262 w_ (oF 41 (rCon 117) v0_0 r_.list :: oF 4 RP.bool v0_1 r_.gone :: box g_0 115 #[v0_0,v0_1] :: box g3 63 #[I s.kind,I s.a,I s.b,v1_3,I s.given.bound] :: own (OR.ownS 117 (OR.frz rTerm)) [(aggC (tupC (f 121) 0) 0)] x258.1.terms :: X262):=hst
 obtain ⟨a287_0,a287_1,hv287,ht287_0,ht287_1⟩:=(hP262 11 121 rfl rfl)
 obtain ⟨u288_0,rfl⟩:=ht287_0
 obtain rfl:=ht287_1
 have hren : Star H262 w_ (oF 41 (rCon 117) v0_0 r_.list :: oF 4 RP.bool v0_1 r_.gone :: box g_0 115 #[v0_0,v0_1] :: box g3 63 #[I s.kind,I s.a,I s.b,v1_3,I s.given.bound] :: own (OR.ownS 117 (OR.frz rTerm)) [(aggC (tupC (f 121) 0) 0)] x258.1.terms :: X262):=hst
 rw [hv287] at hren
 have hst : Star H262 w_ (oF 41 (rCon 117) v0_0 r_.list :: oF 4 RP.bool v0_1 r_.gone :: box g_0 115 #[v0_0,v0_1] :: box g3 63 #[I s.kind,I s.a,I s.b,v1_3,I s.given.bound] :: oF 117 rTerm u288_0 x258.1.terms :: X262):=hren
 refine L_ex (v:=.agg #[u288_0,I x258.1.bound]) rfl hv287 rfl (L_nil ⟨rfl,_,_,rfl,Le.refl _,fun _ _=>⟨_,rfl⟩,hst⟩)
 refine opsS_cons ?_ ?_
 intro f w_ H262 X262 hS262 hE262 hP262 hst
 obtain ⟨a289_0,a289_1,hv289,ht289_0,ht289_1⟩:=(hP262 11 121 rfl rfl)
 obtain ⟨u290_0,rfl⟩:=ht289_0
 obtain rfl:=ht289_1
 refine L_ex (v:=Bo x258.2) rfl hv289 rfl (L_nil ⟨rfl,_,_,rfl,Le.refl _,fun _ _=>rfl,hst⟩)
 refine opsS_cons ?_ ?_
 intro f w_ H262 X262 hS262 hE262 hP262 hst
 have hst : Star H262 w_ (oF 41 (rCon 117) v0_0 r_.list :: oF 4 RP.bool v0_1 r_.gone :: box g_0 115 #[v0_0,v0_1] :: box g3 63 #[I s.kind,I s.a,I s.b,v1_3,I s.given.bound] :: box g57 41 #[S0,I 0] :: own (OR.ownS 117 (OR.frz rTerm)) [(aggC (f 133) 0)] x258.1.terms :: X262):=hst
 obtain ⟨u291_0,hv291⟩:=(hP262 12 133 rfl rfl)
 have hren : Star H262 w_ (oF 41 (rCon 117) v0_0 r_.list :: oF 4 RP.bool v0_1 r_.gone :: box g_0 115 #[v0_0,v0_1] :: box g3 63 #[I s.kind,I s.a,I s.b,v1_3,I s.given.bound] :: box g57 41 #[S0,I 0] :: own (OR.ownS 117 (OR.frz rTerm)) [(aggC (f 133) 0)] x258.1.terms :: X262):=hst
 rw [hv291] at hren
 have hst : Star H262 w_ (oF 41 (rCon 117) v0_0 r_.list :: oF 4 RP.bool v0_1 r_.gone :: box g_0 115 #[v0_0,v0_1] :: box g3 63 #[I s.kind,I s.a,I s.b,v1_3,I s.given.bound] :: box g57 41 #[S0,I 0] :: oF 117 rTerm u291_0 x258.1.terms :: X262):=hren
 refine L_staB (vs:=#[u291_0,I x258.1.bound]) (cs2:=#[u291_0,I x258.1.bound]) 4 rfl Try.sizeOf41 ((hS262 7 rfl).trans rfl) hv291 rfl (ones_cons (one_len (Star.len 5 hst rfl)) (ones_cons rfl ones_nil)) hst rfl (by show 0 + 2≤2; decide) rfl (fun w292 hst=>?_)
 have hst:=hst.gets [5,5,5,5,5] rfl
 have hst : Star H262 w292 (oF 41 (rCon 117) v0_0 r_.list :: oF 4 RP.bool v0_1 r_.gone :: box g_0 115 #[v0_0,v0_1] :: box g3 63 #[I s.kind,I s.a,I s.b,v1_3,I s.given.bound] :: own (OR.ownS 117 (OR.frz rTerm)) [(aggC (f 133) 0)] x258.1.terms :: box g57 41 #[(aggC (f 133) 0),I x258.1.bound] :: X262):=by rw [hv291]; exact hst
 exact L_nil ⟨rfl,Bo false,_,rfl,Le.refl _,(fun _ h=>nomatch h),hst⟩
 exact opsS_nil
 have hst : Star H262 w_ (oF 41 (rCon 117) v0_0 r_.list :: oF 4 RP.bool v0_1 r_.gone :: box g_0 115 #[v0_0,v0_1] :: box g3 63 #[I s.kind,I s.a,I s.b,v1_3,I s.given.bound] :: own (OR.ownS 117 (OR.frz rTerm)) [(aggC (f 133) 0)] x258.1.terms :: box g57 41 #[(aggC (f 133) 0),I x258.1.bound] :: R):=hst
 refine aF (hT262 13 134 rfl rfl) rfl (nn ?_)
 obtain ⟨rfl,rfl,rfl⟩:=so3 hA246
 have hst:=hst.get 4 rfl
 obtain ⟨H293,l294,hst,hz295⟩:=Star.freeze hst
 have hz295 : (rS 117 rTerm).rel H293 [(aggC (f 133) 0)] x258.1.terms:=hz295
 have hst:=hst.gets [4,3,3,3] rfl
 have hst:=Star.drop 4 hst rfl
 exact rj hR246 ⟨H293,(aggC (f 133) 0),(Le.trans hE262 l294),((hS262 0 rfl).trans sf0),((hS262 7 rfl).trans rfl),rfl,hz295,hst⟩
 have hA246:=(ite_f hc247).symm.trans hA246
 refine sq (L_eql rfl rfl rfl (aB rfl (nn ?_)))
 obtain ⟨⟨ok_296,g57_0_297,g57_1_299⟩,hA302,hA246⟩:=bind_some hA246
 obtain ⟨R302,hR302⟩:=exR fun f w_=>∃ H300 : FH,∃ v297_g57_0 : Value,Le H33 H300∧f 0 = Pt g_0∧f 7 = Pt g57∧f 8 = Bo ok_296∧(rS 117 rTerm).rel H300 [v297_g57_0] g57_0_297∧Star H300 w_ (oF 41 (rCon 117) v0_0 r_.list :: oF 4 RP.bool v0_1 r_.gone :: box g_0 115 #[v0_0,v0_1] :: box g57 41 #[v297_g57_0,I g57_1_299] :: R)
 refine W_join R302 ?_ ?_
 refine W_cond (b:=(s.kind == 6)) rfl (fun hc303=>?_) (fun hc303=>?_)
 have hA302:=(ite_t hc303).symm.trans hA302
 obtain ⟨x309,hx309,hA302⟩:=bind_some hA302
 refine W_region (fA 1 fa_63_1 sf3 rfl (ldB 4 hst Try.isAgg3 rfl rfl rfl ?_))
 obtain ⟨H313b,l314,s315,z316,k317⟩:=hst.borrow
 refine L_call rfl Try.call135 (ops1 rfl) (i_LiteralAxiom_c (lit:=s.a) s315 hx309) ?_
 rintro _ w318 ⟨r318_0,rfl,hst⟩
 have hst:=k317 hst (co closed_term c0)
 refine mV (.tuple #[.agg #[r318_0,I x309.1.bound],Bo x309.2]) rfl (L_ex (v:=.agg #[r318_0,I x309.1.bound]) rfl rfl rfl (L_ex (v:=Bo x309.2) rfl rfl rfl (L_staB (vs:=#[r318_0,I x309.1.bound]) (cs2:=#[r318_0,I x309.1.bound]) 1 rfl Try.sizeOf41 rfl rfl rfl (ones_cons (one_len (Star.len 0 hst rfl)) (ones_cons rfl ones_nil)) hst rfl (by show 0 + 2≤2; decide) rfl (fun w320 hst=>aB rfl (nn ?_)))))
 obtain ⟨rfl,rfl,rfl⟩:=so3 hA302
 have hst:=hst.get 1 rfl
 obtain ⟨H321,l322,hst,hz323⟩:=Star.freeze hst
 have hz323 : (rS 117 rTerm).rel H321 [r318_0] x309.1.terms:=hz323
 have hst:=hst.gets [3,3,3] rfl
 have hst:=Star.drop 4 hst rfl
 exact rj hR302 ⟨H321,r318_0,l322,sf0,rfl,rfl,hz323,hst⟩
 have hA302:=(ite_f hc303).symm.trans hA302
 refine sq (L_eql rfl rfl rfl (aB rfl (nn ?_)))
 obtain ⟨⟨ok_324,g57_0_325,g57_1_327⟩,hA330,hA302⟩:=bind_some hA302
 obtain ⟨R330,hR330⟩:=exR fun f w_=>∃ H328 : FH,∃ v325_g57_0 : Value,Le H33 H328∧f 0 = Pt g_0∧f 7 = Pt g57∧f 8 = Bo ok_324∧(rS 117 rTerm).rel H328 [v325_g57_0] g57_0_325∧Star H328 w_ (oF 41 (rCon 117) v0_0 r_.list :: oF 4 RP.bool v0_1 r_.gone :: box g_0 115 #[v0_0,v0_1] :: box g57 41 #[v325_g57_0,I g57_1_327] :: R)
 refine W_join R330 ?_ ?_
 refine W_cond (b:=(s.kind == 7)) rfl (fun hc331=>?_) (fun hc331=>?_)
 have hA330:=(ite_t hc331).symm.trans hA330
 obtain ⟨x337,hx337,hA330⟩:=bind_some hA330
 obtain ⟨b350,hb350,hA330⟩:=bind_some hA330
 obtain ⟨R357,hR357⟩:=exR fun f w_=>∃ H355 : FH,∃ v353_g57_0 : Value,Le H33 H355∧f 0 = Pt g_0∧f 7 = Pt g57∧f 8 = Bo b350∧(rS 117 rTerm).rel H355 [v353_g57_0] s.given.terms∧Star H355 w_ (oF 41 (rCon 117) v0_0 r_.list :: oF 4 RP.bool v0_1 r_.gone :: box g_0 115 #[v0_0,v0_1] :: box g57 41 #[v353_g57_0,I s.given.bound] :: R)
 refine W_join R357 ?_ ?_
 rcases Bool.eq_false_or_eq_true x337 with hc358 | hc358
 rw [ite_t hc358] at hb350
 obtain ⟨x339,hx339,hb350⟩:=bind_some hb350
 obtain ⟨x348,hx348,hb350⟩:=bind_some hb350
 have hst:=hst.gets [4,4,4,4] rfl
 refine W_drawS 13 [isV (Pq g3 3),isV (.agg #[v1_3,I s.given.bound]),isV (Pq g3 3),isV (.agg #[v1_3,I s.given.bound]),isV (Bo x337),isV (Bo x337),isV (Pt g_0),anyF,isV (Pq g3 3),isV (.agg #[v1_3,I s.given.bound]),isV (Bo x348),isV (Bo b350),anyF] [oF 41 (rCon 117) v0_0 r_.list,oF 4 RP.bool v0_1 r_.gone,box g_0 115 #[v0_0,v0_1],box g3 63 #[I s.kind,I s.a,I s.b,v1_3,I s.given.bound]] [.base (box g57 41 #[S0,I 0]) (some 12),.made 7 152 (fun v_=>oF 41 (rCon 117) v_ x339) none,.madeN 12 [] (fun vs_=>box g57 41 #[v1_3,I s.given.bound]) none] (R) [([],[]),([],[]),([],[]),([],[]),([],[]),([],[]),([],[]),([],[1]),([],[]),([],[]),([1],[1]),([],[]),([0],[2])] (S:=[(none,[],some 12),(some 7,[152],none),(some 12,[],none)]) Try_mix (by kernel_rfl) rfl (by kernel_rfl) (amF_cons (mono_V _) (amF_cons (mono_V _) (amF_cons (mono_V _) (amF_cons (mono_V _) (amF_cons (mono_V _) (amF_cons (mono_V _) (amF_cons (mono_V _) (amF_cons (mono_any) (amF_cons (mono_V _) (amF_cons (mono_V _) (amF_cons (mono_V _) (amF_cons (mono_V _) (amF_cons (mono_any) amF_nil))))))))))))) hst ?_ (fun f w_ H352 hS352 hE352 hT352 hst=>?_)
 refine opsS_cons (fun f w_ _ _ s _ _ hst=>fA 3 fa_63_3 ((s 3 rfl).trans sf3) rfl (nO rfl rfl hst)) (opsS_cons (fun f w_ _ _ _ _ p hst=>L_lda (cs:=[v1_3,I s.given.bound]) rfl Try.isAgg41 Try.sizeOf41 (p 0 145 rfl rfl) (At.sub0 (Blk.at (Star.blkAt 3 hst rfl)) 3 2) rfl (nO rfl rfl hst)) (opsS_cons (fun f w_ _ _ s _ _ hst=>fA 3 fa_63_3 ((s 3 rfl).trans sf3) rfl (nO rfl rfl hst)) (opsS_cons (fun f w_ _ _ _ _ p hst=>L_lda (cs:=[v1_3,I s.given.bound]) rfl Try.isAgg41 Try.sizeOf41 (p 2 147 rfl rfl) (At.sub0 (Blk.at (Star.blkAt 3 hst rfl)) 3 2) rfl (nO rfl rfl hst)) (opsS_cons ?_ ?_))))
 intro f w_ H352 X352 hS352 hE352 hP352 hst
 obtain ⟨H375b,l376,s377,z378,k379⟩:=hst.borrow
 refine L_call rfl Try.call61 (ops1 (hP352 3 148 rfl rfl)) (i_ConstraintValid_c (c:=s.given) s377 (RP.mono _ h1_3 (Le.trans (Le.trans l34 hE352) l376)) hx337) ?_
 rintro _ w380 ⟨rfl,hst⟩
 have hst:=k379 hst c0
 exact L_nil ⟨rfl,_,_,rfl,Le.refl _,fun _ _=>rfl,hst⟩
 refine opsS_cons (fun f w_ _ _ _ _ p hst=>mF (p 4 149 rfl rfl) rfl (nO rfl rfl hst)) (opsS_cons (fun f w_ _ _ s _ p hst=>L_mv (v:=Pt g_0) (g_yes rfl (Eq.trans (p 5 150 rfl rfl) (congrArg Value.bool hc358)) rfl) ((s 0 rfl).trans sf0) (nO rfl rfl hst)) (opsS_cons ?_ ?_))
 intro f w_ H352 X352 hS352 hE352 hP352 hst
 have hst:=hst.gets [1,1,2] rfl
 refine L_call (g_yes rfl (Eq.trans (hP352 5 150 rfl rfl) (congrArg Value.bool hc358)) rfl) Try.call63 (ops1 (hP352 6 151 rfl rfl)) (i_running_left_c (r_:=r_) hst hx339) ?_
 rintro r381_0 w381 ⟨H381,l381,_,rfl,hst⟩
 have hst:=hst.gets [4,2,4,4] rfl
 exact L_nil ⟨rfl,_,_,rfl,l381,fun _ _=>trivial,hst⟩
 refine opsS_cons (fun f w_ _ _ s _ p hst=>L_fa (o':=3) (g_yes rfl (Eq.trans (p 5 150 rfl rfl) (congrArg Value.bool hc358)) rfl) fa_63_3 ((s 3 rfl).trans sf3) rfl (nO rfl rfl hst)) (opsS_cons (fun f w_ _ _ _ _ p hst=>L_lda (cs:=[v1_3,I s.given.bound]) (g_yes rfl (Eq.trans (p 5 150 rfl rfl) (congrArg Value.bool hc358)) rfl) Try.isAgg41 Try.sizeOf41 (p 8 153 rfl rfl) (At.sub0 (Blk.at (Star.blkAt 3 hst rfl)) 3 2) rfl (nO rfl rfl hst)) (opsS_cons ?_ ?_))
 intro f w_ H352 X352 hS352 hE352 hP352 hst
 have hst : Star H352 w_ (oF 41 (rCon 117) v0_0 r_.list :: oF 4 RP.bool v0_1 r_.gone :: box g_0 115 #[v0_0,v0_1] :: box g3 63 #[I s.kind,I s.a,I s.b,v1_3,I s.given.bound] :: oF 41 (rCon 117) (f 152) x339 :: X352):=hst
 obtain ⟨H384b,l385,s386,z387,k388⟩:=hst.borrow
 have hb389 : (rS 41 (rCon 117)).rel H384b [(f 152)] x339:=fz_own 4 z387 rfl
 refine L_call (g_yes rfl (Eq.trans (hP352 5 150 rfl rfl) (congrArg Value.bool hc358)) rfl) Try.call74 (ops2 rfl (hP352 9 154 rfl rfl)) (i_rup_c (list:=x339) (c:=s.given) s386 hb389 (RP.mono _ h1_3 (Le.trans (Le.trans l34 hE352) l385)) hx348) ?_
 rintro _ w390 ⟨rfl,hst⟩
 have hst:=k388 hst c0
 exact L_nil ⟨rfl,_,_,rfl,Le.refl _,fun _ _=>rfl,hst⟩
 refine opsS_cons (fun f w_ _ _ _ _ p hst=>pkT (v:=Bo b350) (p 5 150 rfl rfl) hc358 rfl (Eq.trans (p 10 155 rfl rfl) (congrArg Value.bool (so hb350))) (nO rfl rfl hst)) (opsS_cons ?_ ?_)
 intro f w_ H352 X352 hS352 hE352 hP352 hst
 have hst : Star H352 w_ (oF 41 (rCon 117) v0_0 r_.list :: oF 4 RP.bool v0_1 r_.gone :: box g_0 115 #[v0_0,v0_1] :: box g3 63 #[I s.kind,I s.a,I s.b,v1_3,I s.given.bound] :: box g57 41 #[S0,I 0] :: X352):=hst
 refine L_staB (vs:=#[v1_3,I s.given.bound]) (cs2:=#[v1_3,I s.given.bound]) 4 rfl Try.sizeOf41 ((hS352 7 rfl).trans rfl) (hP352 1 146 rfl rfl) rfl (ones_cons (one_len (slice_len (RP.mono _ h1_3 (Le.trans l34 hE352)))) (ones_cons rfl ones_nil)) hst rfl (by show 0 + 2≤2; decide) rfl (fun w391 hst=>?_)
 have hst:=hst.gets [4,4,4,4] rfl
 exact L_nil ⟨rfl,Bo false,_,rfl,Le.refl _,(fun _ h=>nomatch h),hst⟩
 exact opsS_nil
 have hst : Star H352 w_ (oF 41 (rCon 117) v0_0 r_.list :: oF 4 RP.bool v0_1 r_.gone :: box g_0 115 #[v0_0,v0_1] :: box g3 63 #[I s.kind,I s.a,I s.b,v1_3,I s.given.bound] :: oF 41 (rCon 117) (f 152) x339 :: box g57 41 #[v1_3,I s.given.bound] :: R):=hst
 refine aF (hT352 11 156 rfl rfl) rfl (nn ?_)
 have hst:=hst.gets [5,3,3,3] rfl
 have hst:=Star.drop 4 hst rfl
 have hst:=Star.drop 4 hst rfl
 exact rj hR357 ⟨H352,v1_3,hE352,((hS352 0 rfl).trans sf0),((hS352 7 rfl).trans rfl),rfl,(RP.mono _ h1_3 (Le.trans l34 hE352)),hst⟩
 rw [ite_f hc358] at hb350
 have hst:=hst.gets [4,4,4,4] rfl
 refine W_drawS 13 [isV (Pq g3 3),isV (.agg #[v1_3,I s.given.bound]),isV (Pq g3 3),isV (.agg #[v1_3,I s.given.bound]),isV (Bo x337),isV (Bo x337),isV (undef),isV (undef),isV (undef),isV (undef),isV (undef),isV (Bo b350),anyF] [oF 41 (rCon 117) v0_0 r_.list,oF 4 RP.bool v0_1 r_.gone,box g_0 115 #[v0_0,v0_1],box g3 63 #[I s.kind,I s.a,I s.b,v1_3,I s.given.bound]] [.base (box g57 41 #[S0,I 0]) (some 12),.madeN 12 [] (fun vs_=>box g57 41 #[v1_3,I s.given.bound]) none] (R) [([],[]),([],[]),([],[]),([],[]),([],[]),([],[]),([],[]),([],[]),([],[]),([],[]),([],[]),([],[]),([0],[1])] (S:=[(none,[],some 12),(some 12,[],none)]) Try_mix (by kernel_rfl) rfl (by kernel_rfl) (amF_cons (mono_V _) (amF_cons (mono_V _) (amF_cons (mono_V _) (amF_cons (mono_V _) (amF_cons (mono_V _) (amF_cons (mono_V _) (amF_cons (mono_V _) (amF_cons (mono_V _) (amF_cons (mono_V _) (amF_cons (mono_V _) (amF_cons (mono_V _) (amF_cons (mono_V _) (amF_cons (mono_any) amF_nil))))))))))))) hst ?_ (fun f w_ H352 hS352 hE352 hT352 hst=>?_)
 refine opsS_cons (fun f w_ _ _ s _ _ hst=>fA 3 fa_63_3 ((s 3 rfl).trans sf3) rfl (nO rfl rfl hst)) (opsS_cons (fun f w_ _ _ _ _ p hst=>L_lda (cs:=[v1_3,I s.given.bound]) rfl Try.isAgg41 Try.sizeOf41 (p 0 145 rfl rfl) (At.sub0 (Blk.at (Star.blkAt 3 hst rfl)) 3 2) rfl (nO rfl rfl hst)) (opsS_cons (fun f w_ _ _ s _ _ hst=>fA 3 fa_63_3 ((s 3 rfl).trans sf3) rfl (nO rfl rfl hst)) (opsS_cons (fun f w_ _ _ _ _ p hst=>L_lda (cs:=[v1_3,I s.given.bound]) rfl Try.isAgg41 Try.sizeOf41 (p 2 147 rfl rfl) (At.sub0 (Blk.at (Star.blkAt 3 hst rfl)) 3 2) rfl (nO rfl rfl hst)) (opsS_cons ?_ ?_))))
 intro f w_ H352 X352 hS352 hE352 hP352 hst
 obtain ⟨H399b,l400,s401,z402,k403⟩:=hst.borrow
 refine L_call rfl Try.call61 (ops1 (hP352 3 148 rfl rfl)) (i_ConstraintValid_c (c:=s.given) s401 (RP.mono _ h1_3 (Le.trans (Le.trans l34 hE352) l400)) hx337) ?_
 rintro _ w404 ⟨rfl,hst⟩
 have hst:=k403 hst c0
 exact L_nil ⟨rfl,_,_,rfl,Le.refl _,fun _ _=>rfl,hst⟩
 refine opsS_cons (fun f w_ _ _ _ _ p hst=>mF (p 4 149 rfl rfl) rfl (nO rfl rfl hst)) (oP (fun _ _ p=>gN (p 5 150 rfl rfl) hc358 rfl) (fun _=>rfl) (oP (fun _ _ p=>gN (p 5 150 rfl rfl) hc358 rfl) (fun _=>rfl) (oP (fun _ _ p=>gN (p 5 150 rfl rfl) hc358 rfl) (fun _=>rfl) (oP (fun _ _ p=>gN (p 5 150 rfl rfl) hc358 rfl) (fun _=>rfl) (oP (fun _ _ p=>gN (p 5 150 rfl rfl) hc358 rfl) (fun _=>rfl) (opsS_cons (fun f w_ _ _ _ _ p hst=>pkT (v:=Bo b350) (p 5 150 rfl rfl) hc358 rfl (congrArg Value.bool (so hb350)) (nO rfl rfl hst)) (opsS_cons ?_ ?_)))))))
 intro f w_ H352 X352 hS352 hE352 hP352 hst
 have hst : Star H352 w_ (oF 41 (rCon 117) v0_0 r_.list :: oF 4 RP.bool v0_1 r_.gone :: box g_0 115 #[v0_0,v0_1] :: box g3 63 #[I s.kind,I s.a,I s.b,v1_3,I s.given.bound] :: box g57 41 #[S0,I 0] :: X352):=hst
 refine L_staB (vs:=#[v1_3,I s.given.bound]) (cs2:=#[v1_3,I s.given.bound]) 4 rfl Try.sizeOf41 ((hS352 7 rfl).trans rfl) (hP352 1 146 rfl rfl) rfl (ones_cons (one_len (slice_len (RP.mono _ h1_3 (Le.trans l34 hE352)))) (ones_cons rfl ones_nil)) hst rfl (by show 0 + 2≤2; decide) rfl (fun w405 hst=>?_)
 have hst:=hst.gets [4,4,4,4] rfl
 exact L_nil ⟨rfl,Bo false,_,rfl,Le.refl _,(fun _ h=>nomatch h),hst⟩
 exact opsS_nil
 have hst : Star H352 w_ (oF 41 (rCon 117) v0_0 r_.list :: oF 4 RP.bool v0_1 r_.gone :: box g_0 115 #[v0_0,v0_1] :: box g3 63 #[I s.kind,I s.a,I s.b,v1_3,I s.given.bound] :: box g57 41 #[v1_3,I s.given.bound] :: R):=hst
 refine aF (hT352 11 156 rfl rfl) rfl (nn ?_)
 have hst:=hst.gets [4,3,3,3] rfl
 have hst:=Star.drop 4 hst rfl
 exact rj hR357 ⟨H352,v1_3,hE352,((hS352 0 rfl).trans sf0),((hS352 7 rfl).trans rfl),rfl,(RP.mono _ h1_3 (Le.trans l34 hE352)),hst⟩
 intro f w_ hR
 obtain ⟨H355,v353_g57_0,l356,sf0,sf7,sf8,hv354_g57_0,hst⟩:=rk hR357 hR
 obtain ⟨rfl,rfl,rfl⟩:=so3 hA330
 exact rj hR330 ⟨H355,v353_g57_0,l356,sf0,sf7,sf8,hv354_g57_0,hst⟩
 have hA330:=(ite_f hc331).symm.trans hA330
 refine W_skip ?_
 obtain ⟨rfl,rfl,rfl⟩:=so3 hA330
 have hst:=hst.gets [3,3,3] rfl
 have hst:=Star.drop 4 hst rfl
 exact rj hR330 ⟨H33,S0,(Le.refl _),sf0,rfl,rfl,(rel_nil _ _ _),hst⟩
 intro f w_ hR
 obtain ⟨H328,v325_g57_0,l329,sf0,sf7,sf8,hv326_g57_0,hst⟩:=rk hR330 hR
 obtain ⟨rfl,rfl,rfl⟩:=so3 hA302
 exact rj hR302 ⟨H328,v325_g57_0,l329,sf0,sf7,sf8,hv326_g57_0,hst⟩
 intro f w_ hR
 obtain ⟨H300,v297_g57_0,l301,sf0,sf7,sf8,hv298_g57_0,hst⟩:=rk hR302 hR
 obtain ⟨rfl,rfl,rfl⟩:=so3 hA246
 exact rj hR246 ⟨H300,v297_g57_0,l301,sf0,sf7,sf8,hv298_g57_0,hst⟩
 intro f w_ hR
 obtain ⟨H244,v241_g57_0,l245,sf0,sf7,sf8,hv242_g57_0,hst⟩:=rk hR246 hR
 obtain ⟨rfl,rfl,rfl⟩:=so3 hA190
 exact rj hR190 ⟨H244,v241_g57_0,l245,sf0,sf7,sf8,hv242_g57_0,hst⟩
 intro f w_ hR
 obtain ⟨H188,v185_g57_0,l189,sf0,sf7,sf8,hv186_g57_0,hst⟩:=rk hR190 hR
 obtain ⟨rfl,rfl,rfl⟩:=so3 hA154
 exact rj hR154 ⟨H188,v185_g57_0,l189,sf0,sf7,sf8,hv186_g57_0,hst⟩
 intro f w_ hR
 obtain ⟨H152,v149_g57_0,l153,sf0,sf7,sf8,hv150_g57_0,hst⟩:=rk hR154 hR
 obtain ⟨rfl,rfl,rfl⟩:=so3 hA118
 exact rj hR118 ⟨H152,v149_g57_0,l153,sf0,sf7,sf8,hv150_g57_0,hst⟩
 intro f w_ hR
 obtain ⟨H116,v113_g57_0,l117,sf0,sf7,sf8,hv114_g57_0,hst⟩:=rk hR118 hR
 obtain ⟨rfl,rfl,rfl⟩:=so3 hA74
 exact rj hR74 ⟨H116,v113_g57_0,l117,sf0,sf7,sf8,hv114_g57_0,hst⟩
 intro f w_ hR
 obtain ⟨H72,v69_g57_0,l73,sf0,sf7,sf8,hv70_g57_0,hst⟩:=rk hR74 hR
 refine W_seq ?_
 obtain ⟨x409,hx409,hF⟩:=bind_some hF
 obtain ⟨x416,hx416,hF⟩:=bind_some hF
 have hst:=hst.gets [2,2,2,3] rfl
 refine W_drawS 18 [isV (Pt g_0),isV (Pt g_0),isV (Pt g_0),isV (Pt g_0),isV (Pt g_0),isV (v0_0),isV (.agg #[v69_g57_0,I g57_1_71]),anyF,anyF,isV (Pt g_0),isV (Pt g_0),isV (Pq g_0 1),isV (v0_1),anyF,anyF,isV (Pt g_0),isV (Pt g_0),anyF] [box g57 41 #[v69_g57_0,I g57_1_71]] [.base (oF 41 (rCon 117) v0_0 r_.list) (some 8),.base (oF 4 RP.bool v0_1 r_.gone) (some 14),.base (box g_0 115 #[v0_0,v0_1]) (some 17),.made 7 164 (fun v_=>oF 41 (rCon 117) v_ ([({ terms:=g57_0_69,bound:=g57_1_71 } : Con)])) (some 8),.made 8 165 (fun v_=>oF 41 (rCon 117) v_ x409) none,.made 13 170 (fun v_=>oF 4 RP.bool v_ ([false])) (some 14),.made 14 171 (fun v_=>oF 4 RP.bool v_ x416) none,.madeN 17 [165] (fun vs_=>box g_0 115 #[(vs_.getD 0 undef),v0_1]) none] (R) [([],[]),([],[]),([],[]),([],[]),([],[]),([2],[2]),([],[]),([],[3]),([0,3],[4]),([],[]),([],[]),([],[]),([2],[2]),([],[5]),([1,5],[6]),([],[]),([],[]),([2,4],[4,7])] (S:=[(none,[],some 8),(none,[],some 14),(none,[],some 17),(some 7,[164],some 8),(some 8,[165],none),(some 13,[170],some 14),(some 14,[171],none),(some 17,[165],none)]) Try_mix (by kernel_rfl) rfl (by kernel_rfl) (amF_cons (mono_V _) (amF_cons (mono_V _) (amF_cons (mono_V _) (amF_cons (mono_V _) (amF_cons (mono_V _) (amF_cons (mono_V _) (amF_cons (mono_V _) (amF_cons (mono_any) (amF_cons (mono_any) (amF_cons (mono_V _) (amF_cons (mono_V _) (amF_cons (mono_V _) (amF_cons (mono_V _) (amF_cons (mono_any) (amF_cons (mono_any) (amF_cons (mono_V _) (amF_cons (mono_V _) (amF_cons (mono_any) amF_nil)))))))))))))))))) hst ?_ (fun f w_ H422 hS422 hE422 hT422 hst=>?_)
 refine opsS_cons (fun f w_ _ _ s _ _ hst=>mF ((s 0 rfl).trans sf0) rfl (nO rfl rfl hst)) (opsS_cons (fun f w_ _ _ s _ _ hst=>mF ((s 0 rfl).trans sf0) rfl (nO rfl rfl hst)) (opsS_cons (fun f w_ _ _ s _ _ hst=>mF ((s 0 rfl).trans sf0) rfl (nO rfl rfl hst)) (opsS_cons (fun f w_ _ _ _ _ p hst=>L_nc rfl (p 2 159 rfl rfl) (nO rfl rfl hst)) (opsS_cons (fun f w_ _ _ _ _ p hst=>fA 0 fa_115_0 (p 3 160 rfl rfl) rfl (nO rfl rfl hst)) (opsS_cons ?_ ?_)))))
 intro f w_ H422 X422 hS422 hE422 hP422 hst
 have hst : Star H422 w_ (box g57 41 #[v69_g57_0,I g57_1_71] :: box g_0 115 #[v0_0,v0_1] :: X422):=hst
 refine ldB 1 hst Try.isAgg27 (hP422 4 161 rfl rfl) rfl rfl (L_nil ⟨rfl,_,_,rfl,Le.refl _,fun _ _=>rfl,hst⟩)
 refine opsS_cons (fun f w_ _ _ s _ _ hst=>L_lda (cs:=[v69_g57_0,I g57_1_71]) rfl Try.isAgg41 Try.sizeOf41 ((s 7 rfl).trans sf7) (At.sub0 (Blk.at (Star.blkAt 0 hst rfl)) 0 2) rfl (nO rfl rfl hst)) (opsS_cons ?_ ?_)
 intro f w_ H422 X422 hS422 hE422 hP422 hst
 refine L_bs rfl (parts1 (hP422 6 163 rfl rfl)) (bs_27_1_2 (v69_g57_0) (I g57_1_71) ) hst (fun g436 w437 hst=>?_)
 have hst:=Star.addF (r:=(rCon 117)) (cs:=[v69_g57_0,I g57_1_71]) (x:=({ terms:=g57_0_69,bound:=g57_1_71 } : Con)) hst (rCon_iff.2 ⟨_,rfl,(RP.mono _ hv70_g57_0 hE422)⟩)
 have hst:=Star.mkRow (R:=(OR.frz (rCon 117))) [([v69_g57_0,I g57_1_71],({ terms:=g57_0_69,bound:=g57_1_71 } : Con))] [({ terms:=g57_0_69,bound:=g57_1_71 } : Con)] 1 hst rfl rfl rfl (by decide)
 have hst:=hst.get 1 rfl
 exact L_nil ⟨rfl,_,_,rfl,Le.refl _,fun _ _=>trivial,hst⟩
 refine opsS_cons ?_ ?_
 intro f w_ H422 X422 hS422 hE422 hP422 hst
 have hst : Star H422 w_ (box g57 41 #[v69_g57_0,I g57_1_71] :: oF 41 (rCon 117) v0_0 r_.list :: oF 41 (rCon 117) (f 164) ([({ terms:=g57_0_69,bound:=g57_1_71 } : Con)]) :: X422):=hst
 have hst:=hst.gets [2,2] rfl
 refine L_appM (v:=v0_0) (u:=(f 164)) rfl et_27 (hP422 5 162 rfl rfl) rfl hst hx409 (fun v440 w441 hst=>?_)
 have hst:=hst.get 1 rfl
 exact L_nil ⟨rfl,_,_,rfl,Le.refl _,fun _ _=>trivial,hst⟩
 refine opsS_cons (fun f w_ _ _ s _ _ hst=>mF ((s 0 rfl).trans sf0) rfl (nO rfl rfl hst)) (opsS_cons (fun f w_ _ _ _ _ p hst=>L_nc rfl (p 9 166 rfl rfl) (nO rfl rfl hst)) (opsS_cons (fun f w_ _ _ _ _ p hst=>fA 1 fa_115_1 (p 10 167 rfl rfl) rfl (nO rfl rfl hst)) (opsS_cons ?_ ?_)))
 intro f w_ H422 X422 hS422 hE422 hP422 hst
 have hst : Star H422 w_ (box g57 41 #[v69_g57_0,I g57_1_71] :: box g_0 115 #[v0_0,v0_1] :: X422):=hst
 refine ldB 1 hst Try.isAgg49 (hP422 11 168 rfl rfl) rfl rfl (L_nil ⟨rfl,_,_,rfl,Le.refl _,fun _ _=>rfl,hst⟩)
 refine opsS_cons ?_ ?_
 intro f w_ H422 X422 hS422 hE422 hP422 hst
 refine L_bs rfl (parts1 rfl) (bs_49_1_0 (Bo false) rfl) hst (fun g443 w444 hst=>?_)
 have hst:=Star.addF (r:=RP.bool) (cs:=[Bo false]) (x:=false) hst rfl
 have hst:=Star.mkRow (R:=(OR.frz RP.bool)) [([Bo false],false)] [false] 1 hst rfl rfl rfl (by decide)
 have hst:=hst.get 1 rfl
 exact L_nil ⟨rfl,_,_,rfl,Le.refl _,fun _ _=>trivial,hst⟩
 refine opsS_cons ?_ ?_
 intro f w_ H422 X422 hS422 hE422 hP422 hst
 have hst : Star H422 w_ (box g57 41 #[v69_g57_0,I g57_1_71] :: oF 4 RP.bool v0_1 r_.gone :: oF 4 RP.bool (f 170) ([false]) :: X422):=hst
 have hst:=hst.gets [2,2] rfl
 refine L_appM (v:=v0_1) (u:=(f 170)) rfl et_49 (hP422 12 169 rfl rfl) rfl hst hx416 (fun v447 w448 hst=>?_)
 have hst:=hst.get 1 rfl
 exact L_nil ⟨rfl,_,_,rfl,Le.refl _,fun _ _=>trivial,hst⟩
 refine opsS_cons (fun f w_ _ _ _ _ p hst=>L_nc rfl (p 0 157 rfl rfl) (nO rfl rfl hst)) (opsS_cons (fun f w_ _ _ _ _ p hst=>fA 0 fa_115_0 (p 15 172 rfl rfl) rfl (nO rfl rfl hst)) (opsS_cons ?_ ?_))
 intro f w_ H422 X422 hS422 hE422 hP422 hst
 have hst : Star H422 w_ (box g57 41 #[v69_g57_0,I g57_1_71] :: box g_0 115 #[v0_0,v0_1] :: oF 41 (rCon 117) (f 165) x409 :: X422):=hst
 refine L_stB (v:=(f 165)) (cs2:=#[(f 165),v0_1]) 1 rfl Try.sizeOf27 (hP422 16 173 rfl rfl) rfl (one_len (Star.len 2 hst rfl)) hst rfl rfl rfl (fun w451 hst=>?_)
 have hst:=hst.gets [2,2] rfl
 exact L_nil ⟨rfl,Bo false,_,rfl,Le.refl _,(fun _ h=>nomatch h),hst⟩
 exact opsS_nil
 have hst : Star H422 w_ (box g57 41 #[v69_g57_0,I g57_1_71] :: oF 41 (rCon 117) (f 165) x409 :: oF 4 RP.bool (f 171) x416 :: box g_0 115 #[(f 165),v0_1] :: R):=hst
 refine L_nc rfl (hT422 1 158 rfl rfl) (fA 1 fa_115_1 rfl rfl (L_stB (v:=(f 171)) (cs2:=#[(f 165),(f 171)]) 3 rfl Try.sizeOf49 rfl rfl (one_len (Star.len 2 hst rfl)) hst rfl rfl rfl (fun w453 hst=>ns (mF ((hS422 8 rfl).trans sf8) rfl (aB rfl (nn (W_ret (retG1 (v1:=Bo ok_68) Try.results103 rfl ?_))))))))
 obtain rfl:=so hF
 have hst:=hst.gets [3,3,2] rfl
 have hst:=Star.drop 3 hst rfl
 exact ⟨H422,(Le.trans (Le.trans l34 l73) hE422),(f 165),(f 171),rfl,hst⟩
theorem i_run_c {fu : Nat} {list : List Con} {steps : List Step} {v0 : Value} {v1 : Value} {H : FH} {w : World} {R : List Ass} (hst : Star H w R) (h0 : (rS 41 (rCon 117)).rel H [v0] list) (h1 : (rS 63 (rStep 117)).rel H [v1] steps) {r : (Option Db) × Int} (hF : i_run fu list steps = some r) :
 C Try.prog 60 #[v0,v1] w fun v w'=>∃ H' : FH,Le H H'∧∃ (u1 : Value),v = .tuple #[u1,I r.2]∧Star H' w' (optA u1 r.1 (fun (d_ : Db) (g_ : Nat) (u_ : Value × Value)=>[box g_ 115 #[u_.1,u_.2],oF 41 (rCon 117) u_.1 d_.list,oF 4 RP.bool u_.2 d_.gone]) :: R):=by
 unfold i_run at hF
 refine C_enter Try.func60 rfl Try.ntmps60 rfl (sq (aV (.pointer none) rfl (aI rfl (nq (W_seq ?_)))))
 obtain ⟨x6,hx6,hF⟩:=bind_some hF
 obtain ⟨R8,hR8⟩:=exR fun f w_=>f 0 = v0∧f 1 = v1∧f 16 = Bo ((!x6) || (decide ((steps.length : Int) > 1000)))∧Star H w_ (R)
 refine W_join R8 ?_ ?_
 refine W_region (mV v0 rfl ?_)
 obtain ⟨H9b,l10,s11,z12,k13⟩:=hst.borrow
 refine L_call rfl Try.call39 (ops1 rfl) (i_ProblemValid_c (list:=list) s11 (RP.mono _ h0 l10) hx6) ?_
 rintro _ w14 ⟨rfl,hst⟩
 have hst:=k13 hst c0
 refine L_not_ rfl rfl (mB rfl (L_split (d:=12) (b:=(!x6)) rfl (fun hc15=>?_) (fun hc15=>?_)))
 refine ps rfl (ps rfl (ps rfl (L_pick (v:=Bo ((!x6) || (decide ((steps.length : Int) > 1000)))) rfl rfl (or_t hc15) (nn (rj hR8 ⟨rfl,rfl,rfl,hst⟩)))))
 refine mV v1 rfl (L_len rfl Try.underlying29 rfl (slice_len h1) (L_gtr rfl rfl rfl (L_pick (v:=Bo ((!x6) || (decide ((steps.length : Int) > 1000)))) rfl rfl (or_f hc15 rfl) (nn (rj hR8 ⟨rfl,rfl,rfl,hst⟩)))))
 intro f w_ hR
 obtain ⟨sf0,sf1,sf16,hst⟩:=rk hR8 hR
 refine W_cond (b:=((!x6) || (decide ((steps.length : Int) > 1000)))) sf16 (fun hc16=>?_) (fun hc16=>?_)
 have hF:=(ite_t hc16).symm.trans hF
 refine sq (aV (.pointer none) rfl (aI rfl (nn (W_ret (retG2 (v1:=.pointer none) (v2:=I 0) Try.results60 rfl rfl ?_)))))
 obtain rfl:=so hF
 have hst:=Star.optNone (fun (d_ : Db) (g_ : Nat) (u_ : Value × Value)=>[box g_ 115 #[u_.1,u_.2],oF 41 (rCon 117) u_.1 d_.list,oF 4 RP.bool u_.2 d_.gone]) hst
 exact ⟨H,(Le.refl _),.pointer none,rfl,hst⟩
 have hF:=(ite_f hc16).symm.trans hF
 refine W_skip (W_seq ?_)
 obtain ⟨x18,hx18,hF⟩:=bind_some hF
 obtain ⟨x21,hx21,hF⟩:=bind_some hF
 refine W_drawS 5 [isV (v0),anyF,isV (v0),isV (I (list.length : Int)),anyF] [] [.made 1 18 (fun v_=>oF 41 (rCon 117) v_ x18) none,.made 4 21 (fun v_=>oF 4 RP.bool v_ x21) none] (R) [([],[]),([],[0]),([],[]),([],[]),([],[1])] (S:=[(some 1,[18],none),(some 4,[21],none)]) Try_mix (by kernel_rfl) rfl (by kernel_rfl) (amF_cons (mono_V _) (amF_cons (mono_any) (amF_cons (mono_V _) (amF_cons (mono_V _) (amF_cons (mono_any) amF_nil))))) hst ?_ (fun f w_ H27 hS27 hE27 hT27 hst=>?_)
 refine opsS_cons (fun f w_ _ _ s _ _ hst=>mF ((s 0 rfl).trans sf0) rfl (nO rfl rfl hst)) (opsS_cons ?_ ?_)
 intro f w_ H27 X27 hS27 hE27 hP27 hst
 refine L_call rfl Try.call102 (ops1 (hP27 0 17 rfl rfl)) (slices_Clone_implConstraint_c (s:=list) hst (RP.mono _ h0 hE27) hx18) ?_
 rintro r33_0 w33 ⟨H33,l33,_,rfl,hst⟩
 exact L_nil ⟨rfl,_,_,rfl,l33,fun _ _=>trivial,hst⟩
 refine opsS_cons (fun f w_ _ _ s _ _ hst=>mF ((s 0 rfl).trans sf0) rfl (nO rfl rfl hst)) (opsS_cons (fun f w_ _ _ _ hE27 p hst=>L_len rfl Try.underlying27 (p 2 19 rfl rfl) (slice_len (RP.mono _ h0 hE27)) (nO rfl rfl hst)) (opsS_cons ?_ ?_))
 intro f w_ H27 X27 hS27 hE27 hP27 hst
 refine L_mk (R:=(OR.frz RP.bool)) (z0:=false) (zc:=[Bo false]) rfl et_49 (by kernel_rfl) (fun _ _=>⟨rfl,rfl⟩) (hP27 3 20 rfl rfl) (hP27 3 20 rfl rfl) hx21 hst (fun v35 w36 hst=>L_nil ⟨rfl,_,_,rfl,Le.refl _,fun _ _=>trivial,hst⟩)
 exact opsS_nil
 have hst : Star H27 w_ (oF 41 (rCon 117) (f 18) x18 :: oF 4 RP.bool (f 21) x21 :: R):=hst
 refine L_bld rfl (parts2 rfl rfl) (bld_115_0_1 ((f 18)) ((f 21)) (one_len (Star.len 0 hst rfl)) (one_len (Star.len 1 hst rfl))) (L_box (v:=.agg #[(f 18),(f 21)]) (cs:=#[(f 18),(f 21)]) rfl rfl rfl hst (fun g40 w41 hst=>aV (Pt g40) rfl (nq (sq (mF ((hS27 1 rfl).trans sf1) rfl (L_len rfl Try.underlying29 rfl (slice_len (RP.mono _ h1 hE27)) (mI rfl (nn ?_))))))))
 have hlen49 : List.length steps≤9223372036854775807:=len_le (slice_len (RP.mono _ h1 hE27))
 obtain ⟨j49,hL49,hF⟩:=bind_some hF
 obtain ⟨R49,hR49⟩:=exR fun f w_=>∃ g40_0_43 : List Con,∃ g40_1_45 : List Bool,∃ H47 : FH,∃ v43_g40_0 v45_g40_1 : Value,j49 = .nx (g40_0_43,g40_1_45)∧Le H27 H47∧f 6 = Pt g40∧Star H47 w_ (oF 41 (rCon 117) v43_g40_0 g40_0_43 :: oF 4 RP.bool v45_g40_1 g40_1_45 :: box g40 115 #[v43_g40_0,v45_g40_1] :: R)
 refine W_join R49 ?_ ?_
 refine W_block ?_
 obtain ⟨I49,hI49⟩:=exI fun n f w_=>∃ i_42 : Nat,∃ suf49 : List Step,∃ g40_0_43 : List Con,∃ g40_1_45 : List Bool,∃ H47 : FH,∃ v43_g40_0 v45_g40_1 : Value,n = suf49.length∧List.drop i_42 steps = suf49∧i_42 + suf49.length = steps.length∧rangeL (i_run_b1 fu list) suf49 i_42 (g40_0_43,g40_1_45) = some j49∧Le H27 H47∧f 6 = Pt g40∧f 24 = v1∧f 25 = I (steps.length : Int)∧f 26 = I i_42∧Star H47 w_ (oF 41 (rCon 117) v43_g40_0 g40_0_43 :: oF 4 RP.bool v45_g40_1 g40_1_45 :: box g40 115 #[v43_g40_0,v45_g40_1] :: R)
 have hst:=hst.gets [2,2] rfl
 refine W_loop I49 (n:=steps.length) ?_ ?_
 exact ij hI49 ⟨0,steps,x18,x21,H27,(f 18),(f 21),rfl,rfl,Nat.zero_add _,hL49,(Le.refl _),rfl,rfl,rfl,rfl,hst⟩
 intro n49 f w_ hI
 obtain ⟨i_42,suf49,g40_0_43,g40_1_45,H47,v43_g40_0,v45_g40_1,rfl,hd49,hl49,hL49,l48,sf6,sf24,sf25,sf26,hst⟩:=ik hI49 hI
 refine sq (L_lss rfl sf26 sf25 (nq (W_cond (b:=decide ((i_42 : Int) < (steps.length : Int))) rfl (fun hc50=>?_) (fun hc50=>?_))))
 have hlt49:=of_decide_eq_true hc50
 rcases suf49 with _ | ⟨x_49,rest49⟩
 exact absurd hlt49 (by simp at hl49; omega)
 obtain ⟨o49,hB49,hL49⟩:=range_cons hL49
 rw [i_run_b1] at hB49
 have hix49:=drop_idx hd49
 refine W_skip (W_seq (W_block (sq (mF sf26 rfl (L_ix (r:=(rStep 117)) rfl Try.underlying29 Try.sizeOf63 sf24 (RP.mono _ h1 (Le.trans hE27 l48)) sf26 hix49 (fun g58 o59 cs_g58 hrk_hat60 hat60=>?_))))))
 obtain ⟨u61_0,rfl,hu61_0⟩:=rStep_iff.1 hrk_hat60
 refine L_lda (cs:=[I x_49.kind,I x_49.a,I x_49.b,u61_0,I x_49.given.bound]) rfl Try.isAgg63 Try.sizeOf63 rfl (At.sub (AtH.at hat60 hst.sub) 0 5) rfl (L_al (cs:=#[I 0,I 0,I 0,S0,I 0]) rfl Try.zeroValue63 rfl hst (fun g62 w63 hst=>aI rfl (L_staB (vs:=#[I x_49.kind,I x_49.a,I x_49.b,u61_0,I x_49.given.bound]) (cs2:=#[I x_49.kind,I x_49.a,I x_49.b,u61_0,I x_49.given.bound]) 0 rfl Try.sizeOf63 rfl rfl rfl (ones_cons rfl (ones_cons rfl (ones_cons rfl (ones_cons (one_len (slice_len hu61_0)) (ones_cons rfl ones_nil))))) hst rfl (by show 0 + 5≤5; decide) rfl (fun w64 hst=>nq ?_))))
 obtain ⟨x65,hx65,hB49⟩:=bind_some hB49
 refine W_region (mF sf6 rfl (L_lda (cs:=[I x_49.kind,I x_49.a,I x_49.b,u61_0,I x_49.given.bound]) rfl Try.isAgg63 Try.sizeOf63 rfl (At.sub0 (Blk.at (Star.blkAt 0 hst rfl)) 0 5) rfl ?_))
 have hst:=hst.gets [2,2,3] rfl
 refine L_call rfl Try.call103 (ops2 rfl rfl) (i_running_step_c (r_:=({ list:=g40_0_43,gone:=g40_1_45 } : Db)) (s:=x_49) hst hu61_0 hx65) ?_
 rintro _ w69 ⟨H69,l69,r69_0,r69_1,rfl,hst⟩
 refine L_not_ rfl rfl (nn (W_cond (b:=(!x65.1)) rfl (fun hc72=>?_) (fun hc72=>?_)))
 have hB49:=(ite_t hc72).symm.trans hB49
 refine sq (mI rfl (aV (.pointer none) rfl (aI rfl (nn (W_ret (retG2 (v1:=.pointer none) (v2:=I i_42) Try.results60 rfl rfl ?_))))))
 obtain rfl:=so hB49
 obtain rfl:=so hL49
 obtain rfl:=so hF
 have hst:=Star.optNone (fun (d_ : Db) (g_ : Nat) (u_ : Value × Value)=>[box g_ 115 #[u_.1,u_.2],oF 41 (rCon 117) u_.1 d_.list,oF 4 RP.bool u_.2 d_.gone]) hst
 have hst:=Star.drop 1 hst rfl
 have hst:=Star.drop 1 hst rfl
 have hst:=Star.drop 1 hst rfl
 have hst:=Star.drop 1 hst rfl
 exact ⟨H69,(Le.trans (Le.trans hE27 l48) l69),.pointer none,rfl,hst⟩
 have hB49:=(ite_f hc72).symm.trans hB49
 refine W_skip (W_region (L_add rfl sf26 rfl (mI rfl (nn ?_))))
 obtain rfl:=so hB49
 have hst:=hst.gets [2,2] rfl
 have hst:=Star.drop 3 hst rfl
 show ∃ m,m < _∧I49 m _ _
 refine ⟨rest49.length,by simp,?_⟩
 exact ij hI49 ⟨i_42 + 1,rest49,x65.2.1,x65.2.2,H69,r69_0,r69_1,rfl,drop_next hd49,by simp at hl49; omega,hL49,(Le.trans l48 l69),sf6,sf24,sf25,(Eq.trans rfl (congrArg (Value.int .i64) (i64_succ (n:=steps.length) (by simp at hl49; omega) hlen49))),hst⟩
 rcases suf49 with _ | ⟨_,_⟩
 obtain rfl:=range_nil hL49
 refine W_exit (rj hR49 ⟨g40_0_43,g40_1_45,H47,v43_g40_0,v45_g40_1,rfl,l48,sf6,hst⟩)
 exact absurd (of_decide_eq_false hc50) (by simp at hl49; omega)
 intro f w_ hR
 obtain ⟨g40_0_43,g40_1_45,H47,v43_g40_0,v45_g40_1,rfl,l48,sf6,hst⟩:=rk hR49 hR
 refine sq (mF sf6 rfl (aV (Pt g40) rfl (aI rfl (nn (W_ret (retG2 (v1:=Pt g40) (v2:=I (-1)) Try.results60 rfl rfl ?_))))))
 obtain rfl:=so hF
 have hst:=hst.gets [1,1,2] rfl
 have hst:=Star.optSome (fun (d_ : Db) (g_ : Nat) (u_ : Value × Value)=>[box g_ 115 #[u_.1,u_.2],oF 41 (rCon 117) u_.1 d_.list,oF 4 RP.bool u_.2 d_.gone]) ({ list:=g40_0_43,gone:=g40_1_45 } : Db) g40 (v43_g40_0,v45_g40_1) hst
 exact ⟨H47,(Le.trans hE27 l48),Pt g40,rfl,hst⟩
theorem l_eqTerm_c {a : Term} {b : Term} {H : FH} {w : World} (hst : Star H w []) {r : Bool} (hF : l_eqTerm a b = some r) :
 C Try.prog 109 #[.agg #[I a.coef,I a.lit],.agg #[I b.coef,I b.lit]] w fun v w'=>v = Bo r∧Star H w' []:=by
 unfold l_eqTerm at hF
 refine C_enter Try.func109 rfl Try.ntmps109 rfl (sq (L_box (v:=.agg #[I a.coef,I a.lit]) (cs:=#[I a.coef,I a.lit]) rfl rfl rfl hst (fun g5 w6 hst=>L_box (v:=.agg #[I b.coef,I b.lit]) (cs:=#[I b.coef,I b.lit]) rfl rfl rfl hst (fun g7 w8 hst=>aB rfl (nq (sq (fA 0 fa_117_0 rfl rfl (ldB 1 hst Try.isAgg3 rfl rfl rfl (fA 0 fa_117_0 rfl rfl (ldB 0 hst Try.isAgg3 rfl rfl rfl (L_neq rfl rfl rfl (nn (W_cond (b:=(a.coef != b.coef)) rfl (fun hc9=>?_) (fun hc9=>?_))))))))))))))
 have hF:=(ite_t hc9).symm.trans hF
 refine sq (aB rfl (nn (W_ret (retG1 (v1:=Bo false) Try.results109 rfl ?_))))
 obtain rfl:=so hF
 exact ⟨rfl,(Star.keepN 0 hst)⟩
 have hF:=(ite_f hc9).symm.trans hF
 refine W_skip (W_seq (sq (fA 1 fa_117_1 rfl rfl (ldB 1 hst Try.isAgg3 rfl rfl rfl (fA 1 fa_117_1 rfl rfl (ldB 0 hst Try.isAgg3 rfl rfl rfl (L_neq rfl rfl rfl (nn (W_cond (b:=(a.lit != b.lit)) rfl (fun hc10=>?_) (fun hc10=>?_))))))))))
 have hF:=(ite_t hc10).symm.trans hF
 refine sq (aB rfl (nn (W_ret (retG1 (v1:=Bo false) Try.results109 rfl ?_))))
 obtain rfl:=so hF
 exact ⟨rfl,(Star.keepN 0 hst)⟩
 have hF:=(ite_f hc10).symm.trans hF
 refine W_skip (sq (aB rfl (nn (W_ret (retG1 (v1:=Bo true) Try.results109 rfl ?_)))))
 obtain rfl:=so hF
 exact ⟨rfl,(Star.keepN 0 hst)⟩
theorem l_eqTermS_c {a : List Term} {b : List Term} {v0 : Value} {v1 : Value} {H : FH} {w : World} (hst : Star H w []) (h0 : (rS 117 rTerm).rel H [v0] a) (h1 : (rS 117 rTerm).rel H [v1] b) {r : Bool} (hF : l_eqTermS a b = some r) :
 C Try.prog 66 #[v0,v1] w fun v w'=>v = Bo r∧Star H w' []:=by
 unfold l_eqTermS at hF
 refine C_enter Try.func66 rfl Try.ntmps66 rfl (sq (aB rfl (nq (sq (mV v0 rfl (L_len rfl Try.underlying39 rfl (slice_len h0) (mV v1 rfl (L_len rfl Try.underlying39 rfl (slice_len h1) (L_neq rfl rfl rfl (nn (W_cond (b:=((a.length : Int) != (b.length : Int))) rfl (fun hc1=>?_) (fun hc1=>?_))))))))))))
 have hF:=(ite_t hc1).symm.trans hF
 refine sq (aB rfl (nn (W_ret (retG1 (v1:=Bo false) Try.results66 rfl ?_))))
 obtain rfl:=so hF
 exact ⟨rfl,hst⟩
 have hF:=(ite_f hc1).symm.trans hF
 refine W_skip (W_seq (sq (aI rfl (nn ?_))))
 have hlen5 : List.length a≤9223372036854775807:=len_le (slice_len h0)
 obtain ⟨j5,hL5,hF⟩:=bind_some hF
 obtain ⟨R5,hR5⟩:=exR fun f w_=>∃ H3 : FH,j5 = .nx ()∧Le H H3∧Star H3 w_ ([])
 refine W_join R5 ?_ ?_
 refine W_block ?_
 obtain ⟨I5,hI5⟩:=exI fun n f w_=>∃ i_2 : Nat,∃ suf5 : List Term,∃ H3 : FH,n = suf5.length∧List.drop i_2 a = suf5∧i_2 + suf5.length = a.length∧rangeL (l_eqTermS_b1 b) suf5 i_2 () = some j5∧Le H H3∧f 0 = v0∧f 1 = v1∧f 5 = I i_2∧Star H3 w_ ([])
 refine W_loop I5 (n:=a.length) ?_ ?_
 exact ij hI5 ⟨0,a,H,rfl,rfl,Nat.zero_add _,hL5,(Le.refl _),rfl,rfl,rfl,hst⟩
 intro n5 f w_ hI
 obtain ⟨i_2,suf5,H3,rfl,hd5,hl5,hL5,l4,sf0,sf1,sf5,hst⟩:=ik hI5 hI
 refine W_seq (sq (mF sf5 rfl (mF sf0 rfl (L_len rfl Try.underlying39 rfl (slice_len (RP.mono _ h0 l4)) (L_lss rfl rfl rfl (nn (W_cond (b:=decide ((i_2 : Int) < (a.length : Int))) rfl (fun hc6=>?_) (fun hc6=>?_))))))))
 have hlt5:=of_decide_eq_true hc6
 rcases suf5 with _ | ⟨x_5,rest5⟩
 exact absurd hlt5 (by simp at hl5; omega)
 obtain ⟨o5,hB5,hL5⟩:=range_cons hL5
 rw [l_eqTermS_b1] at hB5
 have hix5:=drop_idx hd5
 refine W_skip (W_seq (W_block (W_seq ?_)))
 obtain ⟨x11,hx11,hB5⟩:=bind_some hB5
 obtain ⟨x21,hx21,hB5⟩:=bind_some hB5
 refine W_drawS 8 [isV (v0),isV (I i_2),isEl rTerm x_5 0,isV (.agg #[I x_5.coef,I x_5.lit]),isV (v1),isV (I i_2),isEl rTerm x11 0,isV (.agg #[I x11.coef,I x11.lit])] [] [] ([]) [([],[]),([],[]),([],[]),([],[]),([],[]),([],[]),([],[]),([],[])] (S:=[]) Try_mix (by kernel_rfl) rfl (by kernel_rfl) (amF_cons (mono_V _) (amF_cons (mono_V _) (amF_cons (mono_el _ _ _) (amF_cons (mono_V _) (amF_cons (mono_V _) (amF_cons (mono_V _) (amF_cons (mono_el _ _ _) (amF_cons (mono_V _) amF_nil)))))))) hst ?_ (fun f w_ H23 hS23 hE23 hT23 hst=>?_)
 refine opsS_cons (fun f w_ _ _ s _ _ hst=>mF ((s 0 rfl).trans sf0) rfl (nO rfl rfl hst)) (opsS_cons (fun f w_ _ _ s _ _ hst=>mF ((s 5 rfl).trans sf5) rfl (nO rfl rfl hst)) (opsS_cons ?_ ?_))
 intro f w_ H23 X23 hS23 hE23 hP23 hst
 refine L_ix (r:=rTerm) rfl Try.underlying39 Try.sizeOf117 (hP23 0 17 rfl rfl) (RP.mono _ h0 (Le.trans l4 hE23)) (hP23 1 18 rfl rfl) hix5 (fun g32 o33 cs_g32 hrk_hat34 hat34=>?_)
 obtain rfl:=rTerm_iff.1 hrk_hat34
 exact L_nil ⟨rfl,_,_,rfl,Le.refl _,fun _ _=>⟨_,_,_,rfl,hrk_hat34,hat34⟩,hst⟩
 refine opsS_cons ?_ ?_
 intro f w_ H23 X23 hS23 hE23 hP23 hst
 obtain ⟨g36,o36,cs36,hv36,hrk_hat36,hat36⟩:=(hP23 2 19 rfl rfl)
 obtain rfl:=rTerm_iff.1 hrk_hat36
 refine L_lda (cs:=[I x_5.coef,I x_5.lit]) rfl Try.isAgg117 Try.sizeOf117 hv36 (At.sub (AtH.at hat36 hst.sub) 0 2) rfl (L_nil ⟨rfl,_,_,rfl,Le.refl _,fun _ _=>rfl,hst⟩)
 refine opsS_cons (fun f w_ _ _ s _ _ hst=>mF ((s 1 rfl).trans sf1) rfl (nO rfl rfl hst)) (opsS_cons (fun f w_ _ _ s _ _ hst=>mF ((s 5 rfl).trans sf5) rfl (nO rfl rfl hst)) (opsS_cons ?_ ?_))
 intro f w_ H23 X23 hS23 hE23 hP23 hst
 refine L_ix (r:=rTerm) rfl Try.underlying39 Try.sizeOf117 (hP23 4 21 rfl rfl) (RP.mono _ h1 (Le.trans l4 hE23)) (hP23 5 22 rfl rfl) hx11 (fun g38 o39 cs_g38 hrk_hat40 hat40=>?_)
 obtain rfl:=rTerm_iff.1 hrk_hat40
 exact L_nil ⟨rfl,_,_,rfl,Le.refl _,fun _ _=>⟨_,_,_,rfl,hrk_hat40,hat40⟩,hst⟩
 refine opsS_cons ?_ ?_
 intro f w_ H23 X23 hS23 hE23 hP23 hst
 obtain ⟨g42,o42,cs42,hv42,hrk_hat42,hat42⟩:=(hP23 6 23 rfl rfl)
 obtain rfl:=rTerm_iff.1 hrk_hat42
 refine L_lda (cs:=[I x11.coef,I x11.lit]) rfl Try.isAgg117 Try.sizeOf117 hv42 (At.sub (AtH.at hat42 hst.sub) 0 2) rfl (L_nil ⟨rfl,_,_,rfl,Le.refl _,fun _ _=>rfl,hst⟩)
 exact opsS_nil
 obtain ⟨H44b,l45,s46,z47,k48⟩:=hst.borrow
 refine L_call rfl Try.call109 (ops2 (hT23 3 20 rfl rfl) (hT23 7 24 rfl rfl)) (l_eqTerm_c (a:=x_5) (b:=x11) s46 hx21) ?_
 rintro _ w49 ⟨rfl,hst⟩
 have hst:=k48 hst c0
 refine L_not_ rfl rfl (nn (W_cond (b:=(!x21)) rfl (fun hc50=>?_) (fun hc50=>?_)))
 have hB5:=(ite_t hc50).symm.trans hB5
 refine sq (aB rfl (nn (W_ret (retG1 (v1:=Bo false) Try.results66 rfl ?_))))
 obtain rfl:=so hB5
 obtain rfl:=so hL5
 obtain rfl:=so hF
 exact ⟨rfl,(Star.down hst (Le.trans l4 hE23) c0)⟩
 have hB5:=(ite_f hc50).symm.trans hB5
 refine W_skip (W_region (mF ((hS23 5 rfl).trans sf5) rfl (L_add rfl rfl rfl (aI rfl (nn ?_)))))
 obtain rfl:=so hB5
 show ∃ m,m < _∧I5 m _ _
 refine ⟨rest5.length,by simp,?_⟩
 exact ij hI5 ⟨i_2 + 1,rest5,H23,rfl,drop_next hd5,by simp at hl5; omega,hL5,(Le.trans l4 hE23),((hS23 0 rfl).trans sf0),((hS23 1 rfl).trans sf1),(Eq.trans rfl (congrArg (Value.int .i64) (i64_succ (n:=a.length) (by simp at hl5; omega) hlen5))),hst⟩
 rcases suf5 with _ | ⟨_,_⟩
 obtain rfl:=range_nil hL5
 refine W_exit (rj hR5 ⟨H3,rfl,l4,hst⟩)
 exact absurd (of_decide_eq_false hc6) (by simp at hl5; omega)
 intro f w_ hR
 obtain ⟨H3,rfl,l4,hst⟩:=rk hR5 hR
 refine sq (aB rfl (nn (W_ret (retG1 (v1:=Bo true) Try.results66 rfl ?_))))
 obtain rfl:=so hF
 exact ⟨rfl,(Star.down hst l4 c0)⟩
theorem l_eqConstraint_c {a : Con} {b : Con} {v0_0 : Value} {v1_0 : Value} {H : FH} {w : World} (hst : Star H w []) (h0_0 : (rS 117 rTerm).rel H [v0_0] a.terms) (h1_0 : (rS 117 rTerm).rel H [v1_0] b.terms) {r : Bool} (hF : l_eqConstraint a b = some r) :
 C Try.prog 26 #[.agg #[v0_0,I a.bound],.agg #[v1_0,I b.bound]] w fun v w'=>v = Bo r∧Star H w' []:=by
 unfold l_eqConstraint at hF
 refine C_enter Try.func26 rfl Try.ntmps26 rfl (sq (L_box (v:=.agg #[v0_0,I a.bound]) (cs:=#[v0_0,I a.bound]) rfl rfl rfl hst (fun g5 w6 hst=>L_box (v:=.agg #[v1_0,I b.bound]) (cs:=#[v1_0,I b.bound]) rfl rfl rfl hst (fun g7 w8 hst=>aB rfl (nq (W_seq ?_))))))
 obtain ⟨x14,hx14,hF⟩:=bind_some hF
 refine W_region (fA 0 fa_41_0 rfl rfl (ldB 1 hst Try.isAgg39 rfl rfl rfl (fA 0 fa_41_0 rfl rfl (ldB 0 hst Try.isAgg39 rfl rfl rfl ?_))))
 obtain ⟨H16b,l17,s18,z19,k20⟩:=hst.borrow
 refine L_call rfl Try.call66 (ops2 rfl rfl) (l_eqTermS_c (a:=a.terms) (b:=b.terms) s18 (RP.mono _ h0_0 l17) (RP.mono _ h1_0 l17) hx14) ?_
 rintro _ w21 ⟨rfl,hst⟩
 have hst:=k20 hst c0
 refine L_not_ rfl rfl (nn (W_cond (b:=(!x14)) rfl (fun hc22=>?_) (fun hc22=>?_)))
 have hF:=(ite_t hc22).symm.trans hF
 refine sq (aB rfl (nn (W_ret (retG1 (v1:=Bo false) Try.results26 rfl ?_))))
 obtain rfl:=so hF
 exact ⟨rfl,(Star.keepN 0 hst)⟩
 have hF:=(ite_f hc22).symm.trans hF
 refine W_skip (W_seq (sq (fA 1 fa_41_1 rfl rfl (ldB 1 hst Try.isAgg3 rfl rfl rfl (fA 1 fa_41_1 rfl rfl (ldB 0 hst Try.isAgg3 rfl rfl rfl (L_neq rfl rfl rfl (nn (W_cond (b:=(a.bound != b.bound)) rfl (fun hc23=>?_) (fun hc23=>?_))))))))))
 have hF:=(ite_t hc23).symm.trans hF
 refine sq (aB rfl (nn (W_ret (retG1 (v1:=Bo false) Try.results26 rfl ?_))))
 obtain rfl:=so hF
 exact ⟨rfl,(Star.keepN 0 hst)⟩
 have hF:=(ite_f hc23).symm.trans hF
 refine W_skip (sq (aB rfl (nn (W_ret (retG1 (v1:=Bo true) Try.results26 rfl ?_)))))
 obtain rfl:=so hF
 exact ⟨rfl,(Star.keepN 0 hst)⟩
theorem l_eqConstraintS_c {a : List Con} {b : List Con} {v0 : Value} {v1 : Value} {H : FH} {w : World} (hst : Star H w []) (h0 : (rS 41 (rCon 117)).rel H [v0] a) (h1 : (rS 41 (rCon 117)).rel H [v1] b) {r : Bool} (hF : l_eqConstraintS a b = some r) :
 C Try.prog 20 #[v0,v1] w fun v w'=>v = Bo r∧Star H w' []:=by
 unfold l_eqConstraintS at hF
 refine C_enter Try.func20 rfl Try.ntmps20 rfl (sq (aB rfl (nq (sq (mV v0 rfl (L_len rfl Try.underlying27 rfl (slice_len h0) (mV v1 rfl (L_len rfl Try.underlying27 rfl (slice_len h1) (L_neq rfl rfl rfl (nn (W_cond (b:=((a.length : Int) != (b.length : Int))) rfl (fun hc1=>?_) (fun hc1=>?_))))))))))))
 have hF:=(ite_t hc1).symm.trans hF
 refine sq (aB rfl (nn (W_ret (retG1 (v1:=Bo false) Try.results20 rfl ?_))))
 obtain rfl:=so hF
 exact ⟨rfl,hst⟩
 have hF:=(ite_f hc1).symm.trans hF
 refine W_skip (W_seq (sq (aI rfl (nn ?_))))
 have hlen5 : List.length a≤9223372036854775807:=len_le (slice_len h0)
 obtain ⟨j5,hL5,hF⟩:=bind_some hF
 obtain ⟨R5,hR5⟩:=exR fun f w_=>∃ H3 : FH,j5 = .nx ()∧Le H H3∧Star H3 w_ ([])
 refine W_join R5 ?_ ?_
 refine W_block ?_
 obtain ⟨I5,hI5⟩:=exI fun n f w_=>∃ i_2 : Nat,∃ suf5 : List Con,∃ H3 : FH,n = suf5.length∧List.drop i_2 a = suf5∧i_2 + suf5.length = a.length∧rangeL (l_eqConstraintS_b1 b) suf5 i_2 () = some j5∧Le H H3∧f 0 = v0∧f 1 = v1∧f 5 = I i_2∧Star H3 w_ ([])
 refine W_loop I5 (n:=a.length) ?_ ?_
 exact ij hI5 ⟨0,a,H,rfl,rfl,Nat.zero_add _,hL5,(Le.refl _),rfl,rfl,rfl,hst⟩
 intro n5 f w_ hI
 obtain ⟨i_2,suf5,H3,rfl,hd5,hl5,hL5,l4,sf0,sf1,sf5,hst⟩:=ik hI5 hI
 refine W_seq (sq (mF sf5 rfl (mF sf0 rfl (L_len rfl Try.underlying27 rfl (slice_len (RP.mono _ h0 l4)) (L_lss rfl rfl rfl (nn (W_cond (b:=decide ((i_2 : Int) < (a.length : Int))) rfl (fun hc6=>?_) (fun hc6=>?_))))))))
 have hlt5:=of_decide_eq_true hc6
 rcases suf5 with _ | ⟨x_5,rest5⟩
 exact absurd hlt5 (by simp at hl5; omega)
 obtain ⟨o5,hB5,hL5⟩:=range_cons hL5
 rw [l_eqConstraintS_b1] at hB5
 have hix5:=drop_idx hd5
 refine W_skip (W_seq (W_block (W_seq ?_)))
 obtain ⟨x11,hx11,hB5⟩:=bind_some hB5
 obtain ⟨x21,hx21,hB5⟩:=bind_some hB5
 refine W_drawS 8 [isV (v0),isV (I i_2),isEl (rCon 117) x_5 0,exD (isData (rS 117 rTerm) x_5.terms) fun u_0=>isV (.agg #[u_0,I x_5.bound]),isV (v1),isV (I i_2),isEl (rCon 117) x11 0,exD (isData (rS 117 rTerm) x11.terms) fun u_0=>isV (.agg #[u_0,I x11.bound])] [] [] ([]) [([],[]),([],[]),([],[]),([],[]),([],[]),([],[]),([],[]),([],[])] (S:=[]) Try_mix (by kernel_rfl) rfl (by kernel_rfl) (amF_cons (mono_V _) (amF_cons (mono_V _) (amF_cons (mono_el _ _ _) (amF_cons (mono_exD (mono_data _ _) fun _=>mono_V _) (amF_cons (mono_V _) (amF_cons (mono_V _) (amF_cons (mono_el _ _ _) (amF_cons (mono_exD (mono_data _ _) fun _=>mono_V _) amF_nil)))))))) hst ?_ (fun f w_ H23 hS23 hE23 hT23 hst=>?_)
 refine opsS_cons (fun f w_ _ _ s _ _ hst=>mF ((s 0 rfl).trans sf0) rfl (nO rfl rfl hst)) (opsS_cons (fun f w_ _ _ s _ _ hst=>mF ((s 5 rfl).trans sf5) rfl (nO rfl rfl hst)) (opsS_cons ?_ ?_))
 intro f w_ H23 X23 hS23 hE23 hP23 hst
 refine L_ix (r:=(rCon 117)) rfl Try.underlying27 Try.sizeOf41 (hP23 0 17 rfl rfl) (RP.mono _ h0 (Le.trans l4 hE23)) (hP23 1 18 rfl rfl) hix5 (fun g32 o33 cs_g32 hrk_hat34 hat34=>?_)
 obtain ⟨u35_0,rfl,hu35_0⟩:=rCon_iff.1 hrk_hat34
 exact L_nil ⟨rfl,_,_,rfl,Le.refl _,fun _ _=>⟨_,_,_,rfl,hrk_hat34,hat34⟩,hst⟩
 refine opsS_cons ?_ ?_
 intro f w_ H23 X23 hS23 hE23 hP23 hst
 obtain ⟨g36,o36,cs36,hv36,hrk_hat36,hat36⟩:=(hP23 2 19 rfl rfl)
 obtain ⟨u37_0,rfl,hu37_0⟩:=rCon_iff.1 hrk_hat36
 refine L_lda (cs:=[u37_0,I x_5.bound]) rfl Try.isAgg41 Try.sizeOf41 hv36 (At.sub (AtH.at hat36 hst.sub) 0 2) rfl (L_nil ⟨rfl,_,_,rfl,Le.refl _,fun _ _=>⟨_,hu37_0,rfl⟩,hst⟩)
 refine opsS_cons (fun f w_ _ _ s _ _ hst=>mF ((s 1 rfl).trans sf1) rfl (nO rfl rfl hst)) (opsS_cons (fun f w_ _ _ s _ _ hst=>mF ((s 5 rfl).trans sf5) rfl (nO rfl rfl hst)) (opsS_cons ?_ ?_))
 intro f w_ H23 X23 hS23 hE23 hP23 hst
 refine L_ix (r:=(rCon 117)) rfl Try.underlying27 Try.sizeOf41 (hP23 4 21 rfl rfl) (RP.mono _ h1 (Le.trans l4 hE23)) (hP23 5 22 rfl rfl) hx11 (fun g38 o39 cs_g38 hrk_hat40 hat40=>?_)
 obtain ⟨u41_0,rfl,hu41_0⟩:=rCon_iff.1 hrk_hat40
 exact L_nil ⟨rfl,_,_,rfl,Le.refl _,fun _ _=>⟨_,_,_,rfl,hrk_hat40,hat40⟩,hst⟩
 refine opsS_cons ?_ ?_
 intro f w_ H23 X23 hS23 hE23 hP23 hst
 obtain ⟨g42,o42,cs42,hv42,hrk_hat42,hat42⟩:=(hP23 6 23 rfl rfl)
 obtain ⟨u43_0,rfl,hu43_0⟩:=rCon_iff.1 hrk_hat42
 refine L_lda (cs:=[u43_0,I x11.bound]) rfl Try.isAgg41 Try.sizeOf41 hv42 (At.sub (AtH.at hat42 hst.sub) 0 2) rfl (L_nil ⟨rfl,_,_,rfl,Le.refl _,fun _ _=>⟨_,hu43_0,rfl⟩,hst⟩)
 exact opsS_nil
 obtain ⟨u44_0,hu44_0,hv44⟩:=(hT23 3 20 rfl rfl)
 obtain ⟨u45_0,hu45_0,hv45⟩:=(hT23 7 24 rfl rfl)
 obtain ⟨H46b,l47,s48,z49,k50⟩:=hst.borrow
 refine L_call rfl Try.call26 (ops2 hv44 hv45) (l_eqConstraint_c (a:=x_5) (b:=x11) s48 (RP.mono _ hu44_0 l47) (RP.mono _ hu45_0 l47) hx21) ?_
 rintro _ w51 ⟨rfl,hst⟩
 have hst:=k50 hst c0
 refine L_not_ rfl rfl (nn (W_cond (b:=(!x21)) rfl (fun hc52=>?_) (fun hc52=>?_)))
 have hB5:=(ite_t hc52).symm.trans hB5
 refine sq (aB rfl (nn (W_ret (retG1 (v1:=Bo false) Try.results20 rfl ?_))))
 obtain rfl:=so hB5
 obtain rfl:=so hL5
 obtain rfl:=so hF
 exact ⟨rfl,(Star.down hst (Le.trans l4 hE23) c0)⟩
 have hB5:=(ite_f hc52).symm.trans hB5
 refine W_skip (W_region (mF ((hS23 5 rfl).trans sf5) rfl (L_add rfl rfl rfl (aI rfl (nn ?_)))))
 obtain rfl:=so hB5
 show ∃ m,m < _∧I5 m _ _
 refine ⟨rest5.length,by simp,?_⟩
 exact ij hI5 ⟨i_2 + 1,rest5,H23,rfl,drop_next hd5,by simp at hl5; omega,hL5,(Le.trans l4 hE23),((hS23 0 rfl).trans sf0),((hS23 1 rfl).trans sf1),(Eq.trans rfl (congrArg (Value.int .i64) (i64_succ (n:=a.length) (by simp at hl5; omega) hlen5))),hst⟩
 rcases suf5 with _ | ⟨_,_⟩
 obtain rfl:=range_nil hL5
 refine W_exit (rj hR5 ⟨H3,rfl,l4,hst⟩)
 exact absurd (of_decide_eq_false hc6) (by simp at hl5; omega)
 intro f w_ hR
 obtain ⟨H3,rfl,l4,hst⟩:=rk hR5 hR
 refine sq (aB rfl (nn (W_ret (retG1 (v1:=Bo true) Try.results20 rfl ?_))))
 obtain rfl:=so hF
 exact ⟨rfl,(Star.down hst l4 c0)⟩
theorem l_eqStep_c {a : Step} {b : Step} {v0_3 : Value} {v1_3 : Value} {H : FH} {w : World} (hst : Star H w []) (h0_3 : (rS 117 rTerm).rel H [v0_3] a.given.terms) (h1_3 : (rS 117 rTerm).rel H [v1_3] b.given.terms) {r : Bool} (hF : l_eqStep a b = some r) :
 C Try.prog 54 #[.agg #[I a.kind,I a.a,I a.b,v0_3,I a.given.bound],.agg #[I b.kind,I b.a,I b.b,v1_3,I b.given.bound]] w fun v w'=>v = Bo r∧Star H w' []:=by
 unfold l_eqStep at hF
 refine C_enter Try.func54 rfl Try.ntmps54 rfl (sq (L_box (v:=.agg #[I a.kind,I a.a,I a.b,v0_3,I a.given.bound]) (cs:=#[I a.kind,I a.a,I a.b,v0_3,I a.given.bound]) rfl rfl rfl hst (fun g5 w6 hst=>L_box (v:=.agg #[I b.kind,I b.a,I b.b,v1_3,I b.given.bound]) (cs:=#[I b.kind,I b.a,I b.b,v1_3,I b.given.bound]) rfl rfl rfl hst (fun g7 w8 hst=>aB rfl (nq (sq (fA 0 fa_63_0 rfl rfl (ldB 1 hst Try.isAgg3 rfl rfl rfl (fA 0 fa_63_0 rfl rfl (ldB 0 hst Try.isAgg3 rfl rfl rfl (L_neq rfl rfl rfl (nn (W_cond (b:=(a.kind != b.kind)) rfl (fun hc9=>?_) (fun hc9=>?_))))))))))))))
 have hF:=(ite_t hc9).symm.trans hF
 refine sq (aB rfl (nn (W_ret (retG1 (v1:=Bo false) Try.results54 rfl ?_))))
 obtain rfl:=so hF
 exact ⟨rfl,(Star.keepN 0 hst)⟩
 have hF:=(ite_f hc9).symm.trans hF
 refine W_skip (W_seq (sq (fA 1 fa_63_1 rfl rfl (ldB 1 hst Try.isAgg3 rfl rfl rfl (fA 1 fa_63_1 rfl rfl (ldB 0 hst Try.isAgg3 rfl rfl rfl (L_neq rfl rfl rfl (nn (W_cond (b:=(a.a != b.a)) rfl (fun hc10=>?_) (fun hc10=>?_))))))))))
 have hF:=(ite_t hc10).symm.trans hF
 refine sq (aB rfl (nn (W_ret (retG1 (v1:=Bo false) Try.results54 rfl ?_))))
 obtain rfl:=so hF
 exact ⟨rfl,(Star.keepN 0 hst)⟩
 have hF:=(ite_f hc10).symm.trans hF
 refine W_skip (W_seq (sq (fA 2 fa_63_2 rfl rfl (ldB 1 hst Try.isAgg3 rfl rfl rfl (fA 2 fa_63_2 rfl rfl (ldB 0 hst Try.isAgg3 rfl rfl rfl (L_neq rfl rfl rfl (nn (W_cond (b:=(a.b != b.b)) rfl (fun hc11=>?_) (fun hc11=>?_))))))))))
 have hF:=(ite_t hc11).symm.trans hF
 refine sq (aB rfl (nn (W_ret (retG1 (v1:=Bo false) Try.results54 rfl ?_))))
 obtain rfl:=so hF
 exact ⟨rfl,(Star.keepN 0 hst)⟩
 have hF:=(ite_f hc11).symm.trans hF
 refine W_skip (W_seq (W_seq ?_))
 obtain ⟨x17,hx17,hF⟩:=bind_some hF
 refine W_region (fA 3 fa_63_3 rfl rfl (L_lda (cs:=[v0_3,I a.given.bound]) rfl Try.isAgg41 Try.sizeOf41 rfl (At.sub0 (Blk.at (Star.blkAt 1 hst rfl)) 3 2) rfl (fA 3 fa_63_3 rfl rfl (L_lda (cs:=[v1_3,I b.given.bound]) rfl Try.isAgg41 Try.sizeOf41 rfl (At.sub0 (Blk.at (Star.blkAt 0 hst rfl)) 3 2) rfl ?_))))
 obtain ⟨H19b,l20,s21,z22,k23⟩:=hst.borrow
 refine L_call rfl Try.call26 (ops2 rfl rfl) (l_eqConstraint_c (a:=a.given) (b:=b.given) s21 (RP.mono _ h0_3 l20) (RP.mono _ h1_3 l20) hx17) ?_
 rintro _ w24 ⟨rfl,hst⟩
 have hst:=k23 hst c0
 refine L_not_ rfl rfl (nn (W_cond (b:=(!x17)) rfl (fun hc25=>?_) (fun hc25=>?_)))
 have hF:=(ite_t hc25).symm.trans hF
 refine sq (aB rfl (nn (W_ret (retG1 (v1:=Bo false) Try.results54 rfl ?_))))
 obtain rfl:=so hF
 exact ⟨rfl,(Star.keepN 0 hst)⟩
 have hF:=(ite_f hc25).symm.trans hF
 refine W_skip (sq (aB rfl (nn (W_ret (retG1 (v1:=Bo true) Try.results54 rfl ?_)))))
 obtain rfl:=so hF
 exact ⟨rfl,(Star.keepN 0 hst)⟩
theorem l_eqStepS_c {a : List Step} {b : List Step} {v0 : Value} {v1 : Value} {H : FH} {w : World} (hst : Star H w []) (h0 : (rS 63 (rStep 117)).rel H [v0] a) (h1 : (rS 63 (rStep 117)).rel H [v1] b) {r : Bool} (hF : l_eqStepS a b = some r) :
 C Try.prog 21 #[v0,v1] w fun v w'=>v = Bo r∧Star H w' []:=by
 unfold l_eqStepS at hF
 refine C_enter Try.func21 rfl Try.ntmps21 rfl (sq (aB rfl (nq (sq (mV v0 rfl (L_len rfl Try.underlying29 rfl (slice_len h0) (mV v1 rfl (L_len rfl Try.underlying29 rfl (slice_len h1) (L_neq rfl rfl rfl (nn (W_cond (b:=((a.length : Int) != (b.length : Int))) rfl (fun hc1=>?_) (fun hc1=>?_))))))))))))
 have hF:=(ite_t hc1).symm.trans hF
 refine sq (aB rfl (nn (W_ret (retG1 (v1:=Bo false) Try.results21 rfl ?_))))
 obtain rfl:=so hF
 exact ⟨rfl,hst⟩
 have hF:=(ite_f hc1).symm.trans hF
 refine W_skip (W_seq (sq (aI rfl (nn ?_))))
 have hlen5 : List.length a≤9223372036854775807:=len_le (slice_len h0)
 obtain ⟨j5,hL5,hF⟩:=bind_some hF
 obtain ⟨R5,hR5⟩:=exR fun f w_=>∃ H3 : FH,j5 = .nx ()∧Le H H3∧Star H3 w_ ([])
 refine W_join R5 ?_ ?_
 refine W_block ?_
 obtain ⟨I5,hI5⟩:=exI fun n f w_=>∃ i_2 : Nat,∃ suf5 : List Step,∃ H3 : FH,n = suf5.length∧List.drop i_2 a = suf5∧i_2 + suf5.length = a.length∧rangeL (l_eqStepS_b1 b) suf5 i_2 () = some j5∧Le H H3∧f 0 = v0∧f 1 = v1∧f 5 = I i_2∧Star H3 w_ ([])
 refine W_loop I5 (n:=a.length) ?_ ?_
 exact ij hI5 ⟨0,a,H,rfl,rfl,Nat.zero_add _,hL5,(Le.refl _),rfl,rfl,rfl,hst⟩
 intro n5 f w_ hI
 obtain ⟨i_2,suf5,H3,rfl,hd5,hl5,hL5,l4,sf0,sf1,sf5,hst⟩:=ik hI5 hI
 refine W_seq (sq (mF sf5 rfl (mF sf0 rfl (L_len rfl Try.underlying29 rfl (slice_len (RP.mono _ h0 l4)) (L_lss rfl rfl rfl (nn (W_cond (b:=decide ((i_2 : Int) < (a.length : Int))) rfl (fun hc6=>?_) (fun hc6=>?_))))))))
 have hlt5:=of_decide_eq_true hc6
 rcases suf5 with _ | ⟨x_5,rest5⟩
 exact absurd hlt5 (by simp at hl5; omega)
 obtain ⟨o5,hB5,hL5⟩:=range_cons hL5
 rw [l_eqStepS_b1] at hB5
 have hix5:=drop_idx hd5
 refine W_skip (W_seq (W_block (W_seq ?_)))
 obtain ⟨x11,hx11,hB5⟩:=bind_some hB5
 obtain ⟨x21,hx21,hB5⟩:=bind_some hB5
 refine W_drawS 8 [isV (v0),isV (I i_2),isEl (rStep 117) x_5 0,exD (isData (rS 117 rTerm) x_5.given.terms) fun u_3=>isV (.agg #[I x_5.kind,I x_5.a,I x_5.b,u_3,I x_5.given.bound]),isV (v1),isV (I i_2),isEl (rStep 117) x11 0,exD (isData (rS 117 rTerm) x11.given.terms) fun u_3=>isV (.agg #[I x11.kind,I x11.a,I x11.b,u_3,I x11.given.bound])] [] [] ([]) [([],[]),([],[]),([],[]),([],[]),([],[]),([],[]),([],[]),([],[])] (S:=[]) Try_mix (by kernel_rfl) rfl (by kernel_rfl) (amF_cons (mono_V _) (amF_cons (mono_V _) (amF_cons (mono_el _ _ _) (amF_cons (mono_exD (mono_data _ _) fun _=>mono_V _) (amF_cons (mono_V _) (amF_cons (mono_V _) (amF_cons (mono_el _ _ _) (amF_cons (mono_exD (mono_data _ _) fun _=>mono_V _) amF_nil)))))))) hst ?_ (fun f w_ H23 hS23 hE23 hT23 hst=>?_)
 refine opsS_cons (fun f w_ _ _ s _ _ hst=>mF ((s 0 rfl).trans sf0) rfl (nO rfl rfl hst)) (opsS_cons (fun f w_ _ _ s _ _ hst=>mF ((s 5 rfl).trans sf5) rfl (nO rfl rfl hst)) (opsS_cons ?_ ?_))
 intro f w_ H23 X23 hS23 hE23 hP23 hst
 refine L_ix (r:=(rStep 117)) rfl Try.underlying29 Try.sizeOf63 (hP23 0 17 rfl rfl) (RP.mono _ h0 (Le.trans l4 hE23)) (hP23 1 18 rfl rfl) hix5 (fun g32 o33 cs_g32 hrk_hat34 hat34=>?_)
 obtain ⟨u35_0,rfl,hu35_0⟩:=rStep_iff.1 hrk_hat34
 exact L_nil ⟨rfl,_,_,rfl,Le.refl _,fun _ _=>⟨_,_,_,rfl,hrk_hat34,hat34⟩,hst⟩
 refine opsS_cons ?_ ?_
 intro f w_ H23 X23 hS23 hE23 hP23 hst
 obtain ⟨g36,o36,cs36,hv36,hrk_hat36,hat36⟩:=(hP23 2 19 rfl rfl)
 obtain ⟨u37_0,rfl,hu37_0⟩:=rStep_iff.1 hrk_hat36
 refine L_lda (cs:=[I x_5.kind,I x_5.a,I x_5.b,u37_0,I x_5.given.bound]) rfl Try.isAgg63 Try.sizeOf63 hv36 (At.sub (AtH.at hat36 hst.sub) 0 5) rfl (L_nil ⟨rfl,_,_,rfl,Le.refl _,fun _ _=>⟨_,hu37_0,rfl⟩,hst⟩)
 refine opsS_cons (fun f w_ _ _ s _ _ hst=>mF ((s 1 rfl).trans sf1) rfl (nO rfl rfl hst)) (opsS_cons (fun f w_ _ _ s _ _ hst=>mF ((s 5 rfl).trans sf5) rfl (nO rfl rfl hst)) (opsS_cons ?_ ?_))
 intro f w_ H23 X23 hS23 hE23 hP23 hst
 refine L_ix (r:=(rStep 117)) rfl Try.underlying29 Try.sizeOf63 (hP23 4 21 rfl rfl) (RP.mono _ h1 (Le.trans l4 hE23)) (hP23 5 22 rfl rfl) hx11 (fun g38 o39 cs_g38 hrk_hat40 hat40=>?_)
 obtain ⟨u41_0,rfl,hu41_0⟩:=rStep_iff.1 hrk_hat40
 exact L_nil ⟨rfl,_,_,rfl,Le.refl _,fun _ _=>⟨_,_,_,rfl,hrk_hat40,hat40⟩,hst⟩
 refine opsS_cons ?_ ?_
 intro f w_ H23 X23 hS23 hE23 hP23 hst
 obtain ⟨g42,o42,cs42,hv42,hrk_hat42,hat42⟩:=(hP23 6 23 rfl rfl)
 obtain ⟨u43_0,rfl,hu43_0⟩:=rStep_iff.1 hrk_hat42
 refine L_lda (cs:=[I x11.kind,I x11.a,I x11.b,u43_0,I x11.given.bound]) rfl Try.isAgg63 Try.sizeOf63 hv42 (At.sub (AtH.at hat42 hst.sub) 0 5) rfl (L_nil ⟨rfl,_,_,rfl,Le.refl _,fun _ _=>⟨_,hu43_0,rfl⟩,hst⟩)
 exact opsS_nil
 obtain ⟨u44_3,hu44_3,hv44⟩:=(hT23 3 20 rfl rfl)
 obtain ⟨u45_3,hu45_3,hv45⟩:=(hT23 7 24 rfl rfl)
 obtain ⟨H46b,l47,s48,z49,k50⟩:=hst.borrow
 refine L_call rfl Try.call54 (ops2 hv44 hv45) (l_eqStep_c (a:=x_5) (b:=x11) s48 (RP.mono _ hu44_3 l47) (RP.mono _ hu45_3 l47) hx21) ?_
 rintro _ w51 ⟨rfl,hst⟩
 have hst:=k50 hst c0
 refine L_not_ rfl rfl (nn (W_cond (b:=(!x21)) rfl (fun hc52=>?_) (fun hc52=>?_)))
 have hB5:=(ite_t hc52).symm.trans hB5
 refine sq (aB rfl (nn (W_ret (retG1 (v1:=Bo false) Try.results21 rfl ?_))))
 obtain rfl:=so hB5
 obtain rfl:=so hL5
 obtain rfl:=so hF
 exact ⟨rfl,(Star.down hst (Le.trans l4 hE23) c0)⟩
 have hB5:=(ite_f hc52).symm.trans hB5
 refine W_skip (W_region (mF ((hS23 5 rfl).trans sf5) rfl (L_add rfl rfl rfl (aI rfl (nn ?_)))))
 obtain rfl:=so hB5
 show ∃ m,m < _∧I5 m _ _
 refine ⟨rest5.length,by simp,?_⟩
 exact ij hI5 ⟨i_2 + 1,rest5,H23,rfl,drop_next hd5,by simp at hl5; omega,hL5,(Le.trans l4 hE23),((hS23 0 rfl).trans sf0),((hS23 1 rfl).trans sf1),(Eq.trans rfl (congrArg (Value.int .i64) (i64_succ (n:=a.length) (by simp at hl5; omega) hlen5))),hst⟩
 rcases suf5 with _ | ⟨_,_⟩
 obtain rfl:=range_nil hL5
 refine W_exit (rj hR5 ⟨H3,rfl,l4,hst⟩)
 exact absurd (of_decide_eq_false hc6) (by simp at hl5; omega)
 intro f w_ hR
 obtain ⟨H3,rfl,l4,hst⟩:=rk hR5 hR
 refine sq (aB rfl (nn (W_ret (retG1 (v1:=Bo true) Try.results21 rfl ?_))))
 obtain rfl:=so hF
 exact ⟨rfl,(Star.down hst l4 c0)⟩
theorem s_l2Coef_c {c : Con} {lit : Int} {v0_0 : Value} {H : FH} {w : World} (hst : Star H w []) (h0_0 : (rS 117 rTerm).rel H [v0_0] c.terms) {r : Int} (hF : s_l2Coef c lit = some r) :
 C Try.prog 100 #[.agg #[v0_0,I c.bound],I lit] w fun v w'=>v = I r∧Star H w' []:=by
 unfold s_l2Coef at hF
 refine C_enter Try.func100 rfl Try.ntmps100 rfl (sq (L_box (v:=.agg #[v0_0,I c.bound]) (cs:=#[v0_0,I c.bound]) rfl rfl rfl hst (fun g3 w4 hst=>aI rfl (nq (sq (aI rfl (nn ?_)))))))
 have hlen6 : List.length c.terms≤9223372036854775807:=len_le (slice_len h0_0)
 obtain ⟨j6,hL6,hF⟩:=bind_some hF
 obtain ⟨R6,hR6⟩:=exR fun f w_=>j6 = .nx ()∧Star H w_ ([])
 refine W_join R6 ?_ ?_
 refine W_block ?_
 obtain ⟨I6,hI6⟩:=exI fun n f w_=>∃ i_5 : Nat,∃ suf6 : List Term,n = suf6.length∧List.drop i_5 c.terms = suf6∧i_5 + suf6.length = c.terms.length∧rangeL (s_l2Coef_b1 lit) suf6 i_5 () = some j6∧f 1 = I lit∧f 2 = Pt g3∧f 5 = I i_5∧Star H w_ ([box g3 41 #[v0_0,I c.bound]])
 refine W_loop I6 (n:=c.terms.length) ?_ ?_
 exact ij hI6 ⟨0,c.terms,rfl,rfl,Nat.zero_add _,hL6,rfl,rfl,rfl,hst⟩
 intro n6 f w_ hI
 obtain ⟨i_5,suf6,rfl,hd6,hl6,hL6,sf1,sf2,sf5,hst⟩:=ik hI6 hI
 refine W_seq (sq (mF sf5 rfl (fA 0 fa_41_0 sf2 rfl (ldB 0 hst Try.isAgg39 rfl rfl rfl (L_len rfl Try.underlying39 rfl (slice_len h0_0) (L_lss rfl rfl rfl (nn (W_cond (b:=decide ((i_5 : Int) < (c.terms.length : Int))) rfl (fun hc7=>?_) (fun hc7=>?_)))))))))
 have hlt6:=of_decide_eq_true hc7
 rcases suf6 with _ | ⟨x_6,rest6⟩
 exact absurd hlt6 (by simp at hl6; omega)
 obtain ⟨o6,hB6,hL6⟩:=range_cons hL6
 rw [s_l2Coef_b1] at hB6
 have hix6:=drop_idx hd6
 refine W_skip (W_seq (W_block (sq (fA 0 fa_41_0 sf2 rfl (ldB 0 hst Try.isAgg39 rfl rfl rfl (mF sf5 rfl (L_ix (r:=rTerm) rfl Try.underlying39 Try.sizeOf117 rfl h0_0 rfl hix6 (fun g12 o13 cs_g12 hrk_hat14 hat14=>?_))))))))
 obtain rfl:=rTerm_iff.1 hrk_hat14
 refine fA (o13 + 1) fa_117_1 rfl rfl (L_ld rfl Try.isAgg3 rfl (At.cell (AtH.at hat14 hst.sub) (j:=1) rfl) (mF sf1 rfl (L_eql rfl rfl rfl (nn (W_cond (b:=(x_6.lit == lit)) rfl (fun hc16=>?_) (fun hc16=>?_))))))
 have hB6:=(ite_t hc16).symm.trans hB6
 refine sq (fA 0 fa_41_0 sf2 rfl (ldB 0 hst Try.isAgg39 rfl rfl rfl (mF sf5 rfl (L_ix (r:=rTerm) rfl Try.underlying39 Try.sizeOf117 rfl h0_0 rfl hix6 (fun g21 o22 cs_g21 hrk_hat23 hat23=>?_)))))
 obtain rfl:=rTerm_iff.1 hrk_hat23
 refine fA o22 fa_117_0 rfl rfl (L_ld rfl Try.isAgg3 rfl (At.cell (AtH.at hat23 hst.sub) (j:=0) rfl) (aI rfl (nn (W_ret (retG1 (v1:=I x_6.coef) Try.results100 rfl ?_)))))
 obtain rfl:=so hB6
 obtain rfl:=so hL6
 obtain rfl:=so hF
 exact ⟨rfl,(Star.keepN 0 hst)⟩
 have hB6:=(ite_f hc16).symm.trans hB6
 refine W_skip (W_region (mF sf5 rfl (L_add rfl rfl rfl (aI rfl (nn ?_)))))
 obtain rfl:=so hB6
 show ∃ m,m < _∧I6 m _ _
 refine ⟨rest6.length,by simp,?_⟩
 exact ij hI6 ⟨i_5 + 1,rest6,rfl,drop_next hd6,by simp at hl6; omega,hL6,sf1,sf2,(Eq.trans rfl (congrArg (Value.int .i64) (i64_succ (n:=c.terms.length) (by simp at hl6; omega) hlen6))),hst⟩
 rcases suf6 with _ | ⟨_,_⟩
 obtain rfl:=range_nil hL6
 refine W_exit (rj hR6 ⟨rfl,(Star.keepN 0 hst)⟩)
 exact absurd (of_decide_eq_false hc7) (by simp at hl6; omega)
 intro f w_ hR
 obtain ⟨rfl,hst⟩:=rk hR6 hR
 refine sq (aI rfl (nn (W_ret (retG1 (v1:=I 0) Try.results100 rfl ?_))))
 obtain rfl:=so hF
 exact ⟨rfl,hst⟩
theorem s_l2Covers_c {a : Con} {b : Con} {v0_0 : Value} {v1_0 : Value} {H : FH} {w : World} (hst : Star H w []) (h0_0 : (rS 117 rTerm).rel H [v0_0] a.terms) (h1_0 : (rS 117 rTerm).rel H [v1_0] b.terms) {r : Bool} (hF : s_l2Covers a b = some r) :
 C Try.prog 58 #[.agg #[v0_0,I a.bound],.agg #[v1_0,I b.bound]] w fun v w'=>v = Bo r∧Star H w' []:=by
 unfold s_l2Covers at hF
 refine C_enter Try.func58 rfl Try.ntmps58 rfl (sq (L_box (v:=.agg #[v0_0,I a.bound]) (cs:=#[v0_0,I a.bound]) rfl rfl rfl hst (fun g5 w6 hst=>L_box (v:=.agg #[v1_0,I b.bound]) (cs:=#[v1_0,I b.bound]) rfl rfl rfl hst (fun g7 w8 hst=>aB rfl (ns (aI rfl (nq (sq (aI rfl (nn ?_))))))))))
 have hlen13 : List.length a.terms≤9223372036854775807:=len_le (slice_len h0_0)
 obtain ⟨j13,hL13,hF⟩:=bind_some hF
 obtain ⟨R13,hR13⟩:=exR fun f w_=>∃ loss_10 : Int,∃ H11 : FH,j13 = .nx loss_10∧Le H H11∧f 2 = Pt g5∧f 3 = Pt g7∧f 5 = I loss_10∧Star H11 w_ ([box g7 41 #[v1_0,I b.bound],box g5 41 #[v0_0,I a.bound]])
 refine W_join R13 ?_ ?_
 refine W_block ?_
 obtain ⟨I13,hI13⟩:=exI fun n f w_=>∃ i_9 : Nat,∃ suf13 : List Term,∃ loss_10 : Int,∃ H11 : FH,n = suf13.length∧List.drop i_9 a.terms = suf13∧i_9 + suf13.length = a.terms.length∧rangeL (s_l2Covers_b1 b) suf13 i_9 loss_10 = some j13∧Le H H11∧f 2 = Pt g5∧f 3 = Pt g7∧f 5 = I loss_10∧f 6 = I i_9∧Star H11 w_ ([box g7 41 #[v1_0,I b.bound],box g5 41 #[v0_0,I a.bound]])
 refine W_loop I13 (n:=a.terms.length) ?_ ?_
 exact ij hI13 ⟨0,a.terms,0,H,rfl,rfl,Nat.zero_add _,hL13,(Le.refl _),rfl,rfl,rfl,rfl,hst⟩
 intro n13 f w_ hI
 obtain ⟨i_9,suf13,loss_10,H11,rfl,hd13,hl13,hL13,l12,sf2,sf3,sf5,sf6,hst⟩:=ik hI13 hI
 refine W_seq (sq (mF sf6 rfl (fA 0 fa_41_0 sf2 rfl (ldB 1 hst Try.isAgg39 rfl rfl rfl (L_len rfl Try.underlying39 rfl (slice_len (RP.mono _ h0_0 l12)) (L_lss rfl rfl rfl (nn (W_cond (b:=decide ((i_9 : Int) < (a.terms.length : Int))) rfl (fun hc14=>?_) (fun hc14=>?_)))))))))
 have hlt13:=of_decide_eq_true hc14
 rcases suf13 with _ | ⟨x_13,rest13⟩
 exact absurd hlt13 (by simp at hl13; omega)
 obtain ⟨o13,hB13,hL13⟩:=range_cons hL13
 rw [s_l2Covers_b1] at hB13
 have hix13:=drop_idx hd13
 refine W_skip (W_seq (W_block (W_seq ?_)))
 obtain ⟨x28,hx28,hB13⟩:=bind_some hB13
 refine W_drawS 14 [isV (Pt g5),isV (v0_0),isV (I i_9),isEl rTerm x_13 0,isEl rTerm x_13 0,isV (I x_13.coef),isV (.agg #[v1_0,I b.bound]),isV (Pt g5),isV (v0_0),isV (I i_9),isEl rTerm x_13 0,isEl rTerm x_13 1,isV (I x_13.lit),isV (I x28)] [box g7 41 #[v1_0,I b.bound],box g5 41 #[v0_0,I a.bound]] [] ([]) [([],[]),([],[]),([],[]),([],[]),([],[]),([],[]),([],[]),([],[]),([],[]),([],[]),([],[]),([],[]),([],[]),([],[])] (S:=[]) Try_mix (by kernel_rfl) rfl (by kernel_rfl) (amF_cons (mono_V _) (amF_cons (mono_V _) (amF_cons (mono_V _) (amF_cons (mono_el _ _ _) (amF_cons (mono_el _ _ _) (amF_cons (mono_V _) (amF_cons (mono_V _) (amF_cons (mono_V _) (amF_cons (mono_V _) (amF_cons (mono_V _) (amF_cons (mono_el _ _ _) (amF_cons (mono_el _ _ _) (amF_cons (mono_V _) (amF_cons (mono_V _) amF_nil)))))))))))))) hst ?_ (fun f w_ H30 hS30 hE30 hT30 hst=>?_)
 refine opsS_cons (fun f w_ _ _ s _ _ hst=>fA 0 fa_41_0 ((s 2 rfl).trans sf2) rfl (nO rfl rfl hst)) (opsS_cons (fun f w_ _ _ _ _ p hst=>ldB 1 hst Try.isAgg39 (p 0 15 rfl rfl) rfl rfl (nO rfl rfl hst)) (opsS_cons (fun f w_ _ _ s _ _ hst=>mF ((s 6 rfl).trans sf6) rfl (nO rfl rfl hst)) (opsS_cons ?_ ?_)))
 intro f w_ H30 X30 hS30 hE30 hP30 hst
 refine L_ix (r:=rTerm) rfl Try.underlying39 Try.sizeOf117 (hP30 1 16 rfl rfl) (RP.mono _ h0_0 (Le.trans l12 hE30)) (hP30 2 17 rfl rfl) hix13 (fun g45 o46 cs_g45 hrk_hat47 hat47=>?_)
 obtain rfl:=rTerm_iff.1 hrk_hat47
 exact L_nil ⟨rfl,_,_,rfl,Le.refl _,fun _ _=>⟨_,_,_,rfl,hrk_hat47,hat47⟩,hst⟩
 refine opsS_cons ?_ ?_
 intro f w_ H30 X30 hS30 hE30 hP30 hst
 obtain ⟨g49,o49,cs49,hv49,hrk_hat49,hat49⟩:=(hP30 3 18 rfl rfl)
 obtain rfl:=rTerm_iff.1 hrk_hat49
 refine fA o49 fa_117_0 hv49 rfl (L_nil ⟨rfl,_,_,rfl,Le.refl _,fun _ _=>⟨_,_,_,rfl,hrk_hat49,hat49⟩,hst⟩)
 refine opsS_cons ?_ ?_
 intro f w_ H30 X30 hS30 hE30 hP30 hst
 obtain ⟨g51,o51,cs51,hv51,hrk_hat51,hat51⟩:=(hP30 4 19 rfl rfl)
 obtain rfl:=rTerm_iff.1 hrk_hat51
 refine L_ld rfl Try.isAgg3 hv51 (At.cell (AtH.at hat51 hst.sub) (j:=0) rfl) (L_nil ⟨rfl,_,_,rfl,Le.refl _,fun _ _=>rfl,hst⟩)
 refine opsS_cons (fun f w_ _ _ s _ _ hst=>L_lda (cs:=[v1_0,I b.bound]) rfl Try.isAgg41 Try.sizeOf41 ((s 3 rfl).trans sf3) (At.sub0 (Blk.at (Star.blkAt 0 hst rfl)) 0 2) rfl (nO rfl rfl hst)) (opsS_cons (fun f w_ _ _ s _ _ hst=>fA 0 fa_41_0 ((s 2 rfl).trans sf2) rfl (nO rfl rfl hst)) (opsS_cons (fun f w_ _ _ _ _ p hst=>ldB 1 hst Try.isAgg39 (p 7 22 rfl rfl) rfl rfl (nO rfl rfl hst)) (opsS_cons (fun f w_ _ _ s _ _ hst=>mF ((s 6 rfl).trans sf6) rfl (nO rfl rfl hst)) (opsS_cons ?_ ?_))))
 intro f w_ H30 X30 hS30 hE30 hP30 hst
 refine L_ix (r:=rTerm) rfl Try.underlying39 Try.sizeOf117 (hP30 8 23 rfl rfl) (RP.mono _ h0_0 (Le.trans l12 hE30)) (hP30 9 24 rfl rfl) hix13 (fun g53 o54 cs_g53 hrk_hat55 hat55=>?_)
 obtain rfl:=rTerm_iff.1 hrk_hat55
 exact L_nil ⟨rfl,_,_,rfl,Le.refl _,fun _ _=>⟨_,_,_,rfl,hrk_hat55,hat55⟩,hst⟩
 refine opsS_cons ?_ ?_
 intro f w_ H30 X30 hS30 hE30 hP30 hst
 obtain ⟨g57,o57,cs57,hv57,hrk_hat57,hat57⟩:=(hP30 10 25 rfl rfl)
 obtain rfl:=rTerm_iff.1 hrk_hat57
 refine fA (o57 + 1) fa_117_1 hv57 rfl (L_nil ⟨rfl,_,_,rfl,Le.refl _,fun _ _=>⟨_,_,_,rfl,hrk_hat57,hat57⟩,hst⟩)
 refine opsS_cons ?_ ?_
 intro f w_ H30 X30 hS30 hE30 hP30 hst
 obtain ⟨g59,o59,cs59,hv59,hrk_hat59,hat59⟩:=(hP30 11 26 rfl rfl)
 obtain rfl:=rTerm_iff.1 hrk_hat59
 refine L_ld rfl Try.isAgg3 hv59 (At.cell (AtH.at hat59 hst.sub) (j:=1) rfl) (L_nil ⟨rfl,_,_,rfl,Le.refl _,fun _ _=>rfl,hst⟩)
 refine opsS_cons ?_ ?_
 intro f w_ H30 X30 hS30 hE30 hP30 hst
 obtain ⟨H61b,l62,s63,z64,k65⟩:=hst.borrow
 refine L_call rfl Try.call100 (ops2 (hP30 6 21 rfl rfl) (hP30 12 27 rfl rfl)) (s_l2Coef_c (c:=b) (lit:=x_13.lit) s63 (RP.mono _ h1_0 (Le.trans (Le.trans l12 hE30) l62)) hx28) ?_
 rintro _ w66 ⟨rfl,hst⟩
 have hst:=k65 hst c0
 exact L_nil ⟨rfl,_,_,rfl,Le.refl _,fun _ _=>rfl,hst⟩
 exact opsS_nil
 refine L_sub rfl (hT30 5 20 rfl rfl) (hT30 13 28 rfl rfl) (aI rfl (ns (mI rfl (L_gtr rfl rfl rfl (nn ?_)))))
 obtain ⟨loss_67,hA68,hB13⟩:=bind_some hB13
 obtain ⟨R68,hR68⟩:=exR fun f w_=>f 2 = Pt g5∧f 3 = Pt g7∧f 5 = I loss_67∧f 6 = I i_9∧Star H30 w_ ([box g7 41 #[v1_0,I b.bound],box g5 41 #[v0_0,I a.bound]])
 refine W_join R68 ?_ ?_
 refine W_cond (b:=decide ((i64 (x_13.coef - x28)) > 0)) rfl (fun hc69=>?_) (fun hc69=>?_)
 have hA68:=(ite_t hc69).symm.trans hA68
 refine W_region (mF ((hS30 5 rfl).trans sf5) rfl (mI rfl (L_add rfl rfl rfl (aI rfl (nn ?_)))))
 obtain rfl:=so hA68
 exact rj hR68 ⟨((hS30 2 rfl).trans sf2),((hS30 3 rfl).trans sf3),rfl,((hS30 6 rfl).trans sf6),hst⟩
 have hA68:=(ite_f hc69).symm.trans hA68
 refine W_skip ?_
 obtain rfl:=so hA68
 exact rj hR68 ⟨((hS30 2 rfl).trans sf2),((hS30 3 rfl).trans sf3),((hS30 5 rfl).trans sf5),((hS30 6 rfl).trans sf6),hst⟩
 intro f w_ hR
 obtain ⟨sf2,sf3,sf5,sf6,hst⟩:=rk hR68 hR
 refine W_region (mF sf6 rfl (L_add rfl rfl rfl (aI rfl (nn ?_))))
 obtain rfl:=so hB13
 show ∃ m,m < _∧I13 m _ _
 refine ⟨rest13.length,by simp,?_⟩
 exact ij hI13 ⟨i_9 + 1,rest13,loss_67,H30,rfl,drop_next hd13,by simp at hl13; omega,hL13,(Le.trans l12 hE30),sf2,sf3,sf5,(Eq.trans rfl (congrArg (Value.int .i64) (i64_succ (n:=a.terms.length) (by simp at hl13; omega) hlen13))),hst⟩
 rcases suf13 with _ | ⟨_,_⟩
 obtain rfl:=range_nil hL13
 refine W_exit (rj hR13 ⟨loss_10,H11,rfl,l12,sf2,sf3,sf5,hst⟩)
 exact absurd (of_decide_eq_false hc14) (by simp at hl13; omega)
 intro f w_ hR
 obtain ⟨loss_10,H11,rfl,l12,sf2,sf3,sf5,hst⟩:=rk hR13 hR
 refine sq (fA 1 fa_41_1 sf2 rfl (ldB 1 hst Try.isAgg3 rfl rfl rfl (mF sf5 rfl (L_sub rfl rfl rfl (fA 1 fa_41_1 sf3 rfl (ldB 0 hst Try.isAgg3 rfl rfl rfl (L_geq rfl rfl rfl (aB rfl (nn (W_ret (retG1 (v1:=Bo (decide ((i64 (a.bound - loss_10)) ≥ b.bound))) Try.results58 rfl ?_)))))))))))
 obtain rfl:=so hF
 exact ⟨rfl,(Star.down (Star.keepN 0 hst) l12 c0)⟩
theorem s_CheckDerivation_c {fu : Nat} {list : List Con} {steps : List Step} {c : Con} {v0 : Value} {v1 : Value} {v2_0 : Value} {H : FH} {w : World} (hst : Star H w []) (h0 : (rS 41 (rCon 117)).rel H [v0] list) (h1 : (rS 63 (rStep 117)).rel H [v1] steps) (h2_0 : (rS 117 rTerm).rel H [v2_0] c.terms) {r : Bool} (hF : s_CheckDerivation fu list steps c = some r) :
 C Try.prog 23 #[v0,v1,.agg #[v2_0,I c.bound]] w fun v w'=>v = Bo r∧Star H w' []:=by
 unfold s_CheckDerivation at hF
 refine C_enter Try.func23 rfl Try.ntmps23 rfl (sq (L_box (v:=.agg #[v2_0,I c.bound]) (cs:=#[v2_0,I c.bound]) rfl rfl rfl hst (fun g3 w4 hst=>aB rfl (nq (W_seq ?_)))))
 obtain ⟨x10,hx10,hF⟩:=bind_some hF
 obtain ⟨b19,hb19,hF⟩:=bind_some hF
 obtain ⟨R20,hR20⟩:=exR fun f w_=>f 0 = v0∧f 1 = v1∧f 5 = Pt g3∧f 19 = Bo b19∧Star H w_ ([box g3 41 #[v2_0,I c.bound]])
 refine W_join R20 ?_ ?_
 refine W_region (mV v0 rfl (mV v1 rfl ?_))
 obtain ⟨H21b,l22,s23,z24,k25⟩:=hst.borrow
 refine L_call rfl Try.call49 (ops2 rfl rfl) (s_l4Fits_c (list:=list) (steps:=steps) s23 (RP.mono _ h0 l22) (RP.mono _ h1 l22) hx10) ?_
 rintro _ w26 ⟨rfl,hst⟩
 have hst:=k25 hst c0
 refine L_not_ rfl rfl (mB rfl (L_split (d:=15) (b:=(!x10)) rfl (fun hc27=>?_) (fun hc27=>?_)))
 rw [ite_t hc27] at hb19
 refine ps rfl (ps rfl (ps rfl (L_pick (v:=Bo b19) rfl rfl (congrArg Value.bool (so hb19)) (nn (rj hR20 ⟨rfl,rfl,rfl,rfl,hst⟩)))))
 rw [ite_f hc27] at hb19
 obtain ⟨x17,hx17,hb19⟩:=bind_some hb19
 refine L_lda (cs:=[v2_0,I c.bound]) rfl Try.isAgg41 Try.sizeOf41 rfl (At.sub0 (Blk.at (Star.blkAt 0 hst rfl)) 0 2) rfl ?_
 obtain ⟨H28b,l29,s30,z31,k32⟩:=hst.borrow
 refine L_call rfl Try.call56 (ops1 rfl) (s_ConstraintValid_c (c:=c) s30 (RP.mono _ h2_0 l29) hx17) ?_
 rintro _ w33 ⟨rfl,hst⟩
 have hst:=k32 hst c0
 refine L_not_ rfl rfl (L_pick (v:=Bo b19) rfl rfl (congrArg Value.bool (so hb19)) (nn (rj hR20 ⟨rfl,rfl,rfl,rfl,hst⟩)))
 intro f w_ hR
 obtain ⟨sf0,sf1,sf5,sf19,hst⟩:=rk hR20 hR
 refine W_cond (b:=b19) sf19 (fun hc34=>?_) (fun hc34=>?_)
 have hF:=(ite_t hc34).symm.trans hF
 refine sq (aB rfl (nn (W_ret (retG1 (v1:=Bo false) Try.results23 rfl ?_))))
 obtain rfl:=so hF
 exact ⟨rfl,(Star.keepN 0 hst)⟩
 have hF:=(ite_f hc34).symm.trans hF
 refine W_skip (W_seq ?_)
 obtain ⟨x35,hx35,hF⟩:=bind_some hF
 refine W_region (mF sf0 rfl (mF sf1 rfl (L_call rfl Try.call50 (ops2 rfl rfl) (s_l4Run_c (list:=list) (steps:=steps) hst h0 h1 hx35) ?_)))
 rintro _ w42 ⟨H42,l42,r42_0,r42_1,rfl,hst⟩
 refine mV (.tuple #[.agg #[r42_0,r42_1],I x35.2]) rfl (L_ex (v:=.agg #[r42_0,r42_1]) rfl rfl rfl (L_ex (v:=I x35.2) rfl rfl rfl (L_al (cs:=#[S0,S0]) rfl Try.zeroValue73 rfl hst (fun g45 w46 hst=>L_staB (vs:=#[r42_0,r42_1]) (cs2:=#[r42_0,r42_1]) 0 rfl Try.sizeOf73 rfl rfl rfl (ones_cons (one_len (Star.len 1 hst rfl)) (ones_cons (one_len (Star.len 2 hst rfl)) ones_nil)) hst rfl (by show 0 + 2≤2; decide) rfl (fun w47 hst=>aI rfl (nq ?_))))))
 obtain ⟨x54,hx54,hF⟩:=bind_some hF
 refine W_region (L_lda (cs:=[r42_0,r42_1]) rfl Try.isAgg73 Try.sizeOf73 rfl (At.sub0 (Blk.at (Star.blkAt 0 hst rfl)) 0 2) rfl ?_)
 have hst:=hst.get 1 rfl
 obtain ⟨H57,l58,hst,hz59⟩:=Star.freeze hst
 have hz59 : (rS 41 (rCon 117)).rel H57 [r42_0] x35.1.list:=hz59
 have hst:=hst.get 1 rfl
 obtain ⟨H60,l61,hst,hz62⟩:=Star.freeze hst
 have hz62 : (rS 4 RP.bool).rel H60 [r42_1] x35.1.gone:=hz62
 refine L_call rfl Try.call57 (ops1 rfl) (s_l4Kept_c (d:=x35.1) hst (RP.mono _ hz59 l61) hz62 hx54) ?_
 rintro r63_0 w63 ⟨H63,l63,_,rfl,hst⟩
 refine aV r63_0 rfl (nq (sq (aI rfl (nn ?_))))
 obtain ⟨j70,hL70,hF⟩:=bind_some hF
 obtain ⟨R70,hR70⟩:=exR fun f w_=>∃ i_67 : Int,∃ H68 : FH,j70 = .nx i_67∧Le H63 H68∧Star H68 w_ ([])
 refine W_join R70 ?_ ?_
 refine W_block ?_
 obtain ⟨I70,hI70⟩:=exI fun n f w_=>∃ i_67 : Int,∃ H68 : FH,whileL (s_CheckDerivation_b1 c x35 x54) n i_67 = some j70∧Le H63 H68∧f 5 = Pt g3∧f 8 = I x35.2∧f 9 = r63_0∧f 10 = I i_67∧Star H68 w_ ([oF 41 (rCon 117) r63_0 x54,box g3 41 #[v2_0,I c.bound]])
 have hst:=hst.gets [2,1] rfl
 refine W_loop I70 (n:=fu) ?_ ?_
 exact ij hI70 ⟨0,H63,hL70,(Le.refl _),sf5,rfl,rfl,rfl,(Star.keepN 2 hst)⟩
 intro n70 f w_ hI
 obtain ⟨i_67,H68,hL70,l69,sf5,sf8,sf9,sf10,hst⟩:=ik hI70 hI
 rcases n70 with _ | n70
 exact (while_zero hL70).elim
 obtain ⟨o70,hB70,hL70⟩:=while_succ hL70
 rw [s_CheckDerivation_b1] at hB70
 refine W_seq (W_seq ?_)
 obtain ⟨R71,hR71⟩:=exR fun f w_=>f 5 = Pt g3∧f 8 = I x35.2∧f 9 = r63_0∧f 10 = I i_67∧f 35 = Bo ((decide (i_67 < (x54.length : Int))) && (decide (x35.2 < 0)))∧Star H68 w_ ([oF 41 (rCon 117) r63_0 x54,box g3 41 #[v2_0,I c.bound]])
 refine W_join R71 ?_ ?_
 refine W_region (mF sf10 rfl (mF sf9 rfl (L_len rfl Try.underlying27 rfl (Star.len 0 hst rfl) (L_lss rfl rfl rfl (mB rfl (L_split (d:=32) (b:=decide (i_67 < (x54.length : Int))) rfl (fun hc72=>?_) (fun hc72=>?_)))))))
 refine mF sf8 rfl (L_lss rfl rfl rfl (L_pick (v:=Bo ((decide (i_67 < (x54.length : Int))) && (decide (x35.2 < 0)))) rfl rfl (and_t hc72 rfl) (nn (rj hR71 ⟨sf5,sf8,sf9,sf10,rfl,hst⟩))))
 refine ps rfl (ps rfl (L_pick (v:=Bo ((decide (i_67 < (x54.length : Int))) && (decide (x35.2 < 0)))) rfl rfl (and_f hc72) (nn (rj hR71 ⟨sf5,sf8,sf9,sf10,rfl,hst⟩))))
 intro f w_ hR
 obtain ⟨sf5,sf8,sf9,sf10,sf35,hst⟩:=rk hR71 hR
 refine W_cond (b:=((decide (i_67 < (x54.length : Int))) && (decide (x35.2 < 0)))) sf35 (fun hc73=>?_) (fun hc73=>?_)
 have hB70:=(ite_t hc73).symm.trans hB70
 refine W_skip (W_seq (W_block (W_seq ?_)))
 obtain ⟨x74,hx74,hB70⟩:=bind_some hB70
 obtain ⟨x84,hx84,hB70⟩:=bind_some hB70
 obtain ⟨g87,cap_g87,hv88,_,_⟩:=Star.row 0 hst rfl hx74
 refine W_drawS 5 [isV (r63_0),isV (I i_67),isV (.pointer (some ⟨g87,Int.toNat i_67 * 2,none⟩)),exD (isData (rS 117 rTerm) x74.terms) fun u_0=>isV (.agg #[u_0,I x74.bound]),isV (.agg #[v2_0,I c.bound])] [oF 41 (rCon 117) r63_0 x54,box g3 41 #[v2_0,I c.bound]] [] ([]) [([],[]),([],[]),([],[]),([],[]),([],[])] (S:=[]) Try_mix (by kernel_rfl) rfl (by kernel_rfl) (amF_cons (mono_V _) (amF_cons (mono_V _) (amF_cons (mono_V _) (amF_cons (mono_exD (mono_data _ _) fun _=>mono_V _) (amF_cons (mono_V _) amF_nil))))) hst ?_ (fun f w_ H86 hS86 hE86 hT86 hst=>?_)
 refine opsS_cons (fun f w_ _ _ s _ _ hst=>mF ((s 9 rfl).trans sf9) rfl (nO rfl rfl hst)) (opsS_cons (fun f w_ _ _ s _ _ hst=>mF ((s 10 rfl).trans sf10) rfl (nO rfl rfl hst)) (opsS_cons (fun f w_ _ _ _ _ p hst=>L_ixO (R:=(OR.frz (rCon 117))) (tb:=0) 0 rfl Try.underlying27 Try.sizeOf41 (p 0 38 rfl rfl) hv88 (by first | rfl | simp) (p 1 39 rfl rfl) hx74 (nO rfl rfl hst)) (opsS_cons ?_ ?_)))
 intro f w_ H86 X86 hS86 hE86 hP86 hst
 obtain ⟨cs91,hr91,hat91⟩:=Star.eltF 0 hst rfl hv88 hx74
 obtain ⟨u92_0,rfl,hu92_0⟩:=rCon_iff.1 hr91
 refine L_lda (cs:=[u92_0,I x74.bound]) rfl Try.isAgg41 Try.sizeOf41 (hP86 2 40 rfl rfl) (At.sub hat91 0 2) rfl (L_nil ⟨rfl,_,_,rfl,Le.refl _,fun _ _=>⟨_,hu92_0,rfl⟩,hst⟩)
 refine opsS_cons (fun f w_ _ _ s _ _ hst=>L_lda (cs:=[v2_0,I c.bound]) rfl Try.isAgg41 Try.sizeOf41 ((s 5 rfl).trans sf5) (At.sub0 (Blk.at (Star.blkAt 1 hst rfl)) 0 2) rfl (nO rfl rfl hst)) (opsS_nil)
 obtain ⟨u93_0,hu93_0,hv93⟩:=(hT86 3 41 rfl rfl)
 obtain ⟨H94b,l95,s96,z97,k98⟩:=hst.borrow
 refine L_call rfl Try.call58 (ops2 hv93 (hT86 4 42 rfl rfl)) (s_l2Covers_c (a:=x74) (b:=c) s96 (RP.mono _ hu93_0 l95) (RP.mono _ h2_0 (Le.trans (Le.trans (Le.trans (Le.trans (Le.trans (Le.trans l42 l58) l61) l63) l69) hE86) l95)) hx84) ?_
 rintro _ w99 ⟨rfl,hst⟩
 have hst:=k98 hst c0
 refine nn (W_cond (b:=x84) rfl (fun hc100=>?_) (fun hc100=>?_))
 have hB70:=(ite_t hc100).symm.trans hB70
 refine sq (aB rfl (nn (W_ret (retG1 (v1:=Bo true) Try.results23 rfl ?_))))
 obtain rfl:=so hB70
 obtain rfl:=so hL70
 obtain rfl:=so hF
 exact ⟨rfl,(Star.down (Star.keepN 0 hst) (Le.trans (Le.trans (Le.trans (Le.trans (Le.trans l42 l58) l61) l63) l69) hE86) c0)⟩
 have hB70:=(ite_f hc100).symm.trans hB70
 refine W_skip (W_region (mF ((hS86 10 rfl).trans sf10) rfl (L_add rfl rfl rfl (aI rfl (nn ?_)))))
 obtain rfl:=so hB70
 show ∃ m,m < _∧I70 m _ _
 refine ⟨n70,Nat.lt_succ_self _,?_⟩
 exact ij hI70 ⟨i64 (i_67 + 1),H86,hL70,(Le.trans l69 hE86),((hS86 5 rfl).trans sf5),((hS86 8 rfl).trans sf8),((hS86 9 rfl).trans sf9),rfl,hst⟩
 have hB70:=(ite_f hc73).symm.trans hB70
 refine W_exit ?_
 obtain rfl:=so hB70
 obtain rfl:=so hL70
 exact rj hR70 ⟨i_67,H68,rfl,l69,(Star.keepN 0 hst)⟩
 intro f w_ hR
 obtain ⟨i_67,H68,rfl,l69,hst⟩:=rk hR70 hR
 refine sq (aB rfl (nn (W_ret (retG1 (v1:=Bo false) Try.results23 rfl ?_))))
 obtain rfl:=so hF
 exact ⟨rfl,(Star.down hst (Le.trans (Le.trans (Le.trans (Le.trans l42 l58) l61) l63) l69) c0)⟩
theorem i_Constraint_coef_c {c : Con} {lit : Int} {v0_0 : Value} {H : FH} {w : World} (hst : Star H w []) (h0_0 : (rS 117 rTerm).rel H [v0_0] c.terms) {r : Int} (hF : i_Constraint_coef c lit = some r) :
 C Try.prog 108 #[.agg #[v0_0,I c.bound],I lit] w fun v w'=>v = I r∧Star H w' []:=by
 unfold i_Constraint_coef at hF
 refine C_enter Try.func108 rfl Try.ntmps108 rfl (sq (L_box (v:=.agg #[v0_0,I c.bound]) (cs:=#[v0_0,I c.bound]) rfl rfl rfl hst (fun g3 w4 hst=>aI rfl (nq (sq (fA 0 fa_41_0 rfl rfl (ldB 0 hst Try.isAgg39 rfl rfl rfl (L_len rfl Try.underlying39 rfl (slice_len h0_0) (mI rfl (nn ?_))))))))))
 have hlen6 : List.length c.terms≤9223372036854775807:=len_le (slice_len h0_0)
 obtain ⟨j6,hL6,hF⟩:=bind_some hF
 obtain ⟨R6,hR6⟩:=exR fun f w_=>j6 = .nx ()∧Star H w_ ([])
 refine W_join R6 ?_ ?_
 refine W_block ?_
 obtain ⟨I6,hI6⟩:=exI fun n f w_=>∃ i_5 : Nat,∃ suf6 : List Term,n = suf6.length∧List.drop i_5 c.terms = suf6∧i_5 + suf6.length = c.terms.length∧rangeL (i_Constraint_coef_b1 lit) suf6 i_5 () = some j6∧f 1 = I lit∧f 8 = v0_0∧f 9 = I (c.terms.length : Int)∧f 10 = I i_5∧Star H w_ ([])
 refine W_loop I6 (n:=c.terms.length) ?_ ?_
 exact ij hI6 ⟨0,c.terms,rfl,rfl,Nat.zero_add _,hL6,rfl,rfl,rfl,rfl,(Star.keepN 0 hst)⟩
 intro n6 f w_ hI
 obtain ⟨i_5,suf6,rfl,hd6,hl6,hL6,sf1,sf8,sf9,sf10,hst⟩:=ik hI6 hI
 refine sq (L_lss rfl sf10 sf9 (nq (W_cond (b:=decide ((i_5 : Int) < (c.terms.length : Int))) rfl (fun hc7=>?_) (fun hc7=>?_))))
 have hlt6:=of_decide_eq_true hc7
 rcases suf6 with _ | ⟨x_6,rest6⟩
 exact absurd hlt6 (by simp at hl6; omega)
 obtain ⟨o6,hB6,hL6⟩:=range_cons hL6
 rw [i_Constraint_coef_b1] at hB6
 have hix6:=drop_idx hd6
 refine W_skip (W_seq (W_block (sq (L_ix (r:=rTerm) rfl Try.underlying39 Try.sizeOf117 sf8 h0_0 sf10 hix6 (fun g15 o16 cs_g15 hrk_hat17 hat17=>?_)))))
 obtain rfl:=rTerm_iff.1 hrk_hat17
 refine L_lda (cs:=[I x_6.coef,I x_6.lit]) rfl Try.isAgg117 Try.sizeOf117 rfl (At.sub (AtH.at hat17 hst.sub) 0 2) rfl (L_al (cs:=#[I 0,I 0]) rfl Try.zeroValue117 rfl hst (fun g19 w20 hst=>L_staB (vs:=#[I x_6.coef,I x_6.lit]) (cs2:=#[I x_6.coef,I x_6.lit]) 0 rfl Try.sizeOf117 rfl rfl rfl (ones_cons rfl (ones_cons rfl ones_nil)) hst rfl (by show 0 + 2≤2; decide) rfl (fun w21 hst=>ns (fA 1 fa_117_1 rfl rfl (ldB 0 hst Try.isAgg3 rfl rfl rfl (mF sf1 rfl (L_eql rfl rfl rfl (nn (W_cond (b:=(x_6.lit == lit)) rfl (fun hc22=>?_) (fun hc22=>?_))))))))))
 have hB6:=(ite_t hc22).symm.trans hB6
 refine sq (fA 0 fa_117_0 rfl rfl (ldB 0 hst Try.isAgg3 rfl rfl rfl (aI rfl (nn (W_ret (retG1 (v1:=I x_6.coef) Try.results108 rfl ?_))))))
 obtain rfl:=so hB6
 obtain rfl:=so hL6
 obtain rfl:=so hF
 exact ⟨rfl,(Star.keepN 0 hst)⟩
 have hB6:=(ite_f hc22).symm.trans hB6
 refine W_skip (W_region (L_add rfl sf10 rfl (mI rfl (nn ?_))))
 obtain rfl:=so hB6
 show ∃ m,m < _∧I6 m _ _
 refine ⟨rest6.length,by simp,?_⟩
 exact ij hI6 ⟨i_5 + 1,rest6,rfl,drop_next hd6,by simp at hl6; omega,hL6,sf1,sf8,sf9,(Eq.trans rfl (congrArg (Value.int .i64) (i64_succ (n:=c.terms.length) (by simp at hl6; omega) hlen6))),(Star.keepN 0 hst)⟩
 rcases suf6 with _ | ⟨_,_⟩
 obtain rfl:=range_nil hL6
 refine W_exit (rj hR6 ⟨rfl,hst⟩)
 exact absurd (of_decide_eq_false hc7) (by simp at hl6; omega)
 intro f w_ hR
 obtain ⟨rfl,hst⟩:=rk hR6 hR
 refine sq (aI rfl (nn (W_ret (retG1 (v1:=I 0) Try.results108 rfl ?_))))
 obtain rfl:=so hF
 exact ⟨rfl,hst⟩
theorem i_CoversConstraint_c {a : Con} {b : Con} {v0_0 : Value} {v1_0 : Value} {H : FH} {w : World} (hst : Star H w []) (h0_0 : (rS 117 rTerm).rel H [v0_0] a.terms) (h1_0 : (rS 117 rTerm).rel H [v1_0] b.terms) {r : Bool} (hF : i_CoversConstraint a b = some r) :
 C Try.prog 65 #[.agg #[v0_0,I a.bound],.agg #[v1_0,I b.bound]] w fun v w'=>v = Bo r∧Star H w' []:=by
 unfold i_CoversConstraint at hF
 refine C_enter Try.func65 rfl Try.ntmps65 rfl (sq (L_box (v:=.agg #[v0_0,I a.bound]) (cs:=#[v0_0,I a.bound]) rfl rfl rfl hst (fun g5 w6 hst=>L_box (v:=.agg #[v1_0,I b.bound]) (cs:=#[v1_0,I b.bound]) rfl rfl rfl hst (fun g7 w8 hst=>aB rfl (nq (W_seq ?_))))))
 obtain ⟨x14,hx14,hF⟩:=bind_some hF
 obtain ⟨b23,hb23,hF⟩:=bind_some hF
 obtain ⟨R24,hR24⟩:=exR fun f w_=>f 2 = Pt g5∧f 3 = Pt g7∧f 15 = Bo b23∧Star H w_ ([box g7 41 #[v1_0,I b.bound],box g5 41 #[v0_0,I a.bound]])
 refine W_join R24 ?_ ?_
 refine W_region (L_lda (cs:=[v0_0,I a.bound]) rfl Try.isAgg41 Try.sizeOf41 rfl (At.sub0 (Blk.at (Star.blkAt 1 hst rfl)) 0 2) rfl ?_)
 obtain ⟨H25b,l26,s27,z28,k29⟩:=hst.borrow
 refine L_call rfl Try.call61 (ops1 rfl) (i_ConstraintValid_c (c:=a) s27 (RP.mono _ h0_0 l26) hx14) ?_
 rintro _ w30 ⟨rfl,hst⟩
 have hst:=k29 hst c0
 refine L_not_ rfl rfl (mB rfl (L_split (d:=11) (b:=(!x14)) rfl (fun hc31=>?_) (fun hc31=>?_)))
 rw [ite_t hc31] at hb23
 refine ps rfl (ps rfl (ps rfl (L_pick (v:=Bo b23) rfl rfl (congrArg Value.bool (so hb23)) (nn (rj hR24 ⟨rfl,rfl,rfl,hst⟩)))))
 rw [ite_f hc31] at hb23
 obtain ⟨x21,hx21,hb23⟩:=bind_some hb23
 refine L_lda (cs:=[v1_0,I b.bound]) rfl Try.isAgg41 Try.sizeOf41 rfl (At.sub0 (Blk.at (Star.blkAt 0 hst rfl)) 0 2) rfl ?_
 obtain ⟨H32b,l33,s34,z35,k36⟩:=hst.borrow
 refine L_call rfl Try.call61 (ops1 rfl) (i_ConstraintValid_c (c:=b) s34 (RP.mono _ h1_0 l33) hx21) ?_
 rintro _ w37 ⟨rfl,hst⟩
 have hst:=k36 hst c0
 refine L_not_ rfl rfl (L_pick (v:=Bo b23) rfl rfl (congrArg Value.bool (so hb23)) (nn (rj hR24 ⟨rfl,rfl,rfl,hst⟩)))
 intro f w_ hR
 obtain ⟨sf2,sf3,sf15,hst⟩:=rk hR24 hR
 refine W_cond (b:=b23) sf15 (fun hc38=>?_) (fun hc38=>?_)
 have hF:=(ite_t hc38).symm.trans hF
 refine sq (aB rfl (nn (W_ret (retG1 (v1:=Bo false) Try.results65 rfl ?_))))
 obtain rfl:=so hF
 exact ⟨rfl,(Star.keepN 0 hst)⟩
 have hF:=(ite_f hc38).symm.trans hF
 refine W_skip (sq (aI rfl (nq (sq (fA 0 fa_41_0 sf2 rfl (ldB 1 hst Try.isAgg39 rfl rfl rfl (L_len rfl Try.underlying39 rfl (slice_len h0_0) (mI rfl (nn ?_)))))))))
 have hlen43 : List.length a.terms≤9223372036854775807:=len_le (slice_len h0_0)
 obtain ⟨j43,hL43,hF⟩:=bind_some hF
 obtain ⟨R43,hR43⟩:=exR fun f w_=>∃ loss_40 : Int,∃ H41 : FH,j43 = .nx loss_40∧Le H H41∧f 2 = Pt g5∧f 3 = Pt g7∧f 5 = I loss_40∧Star H41 w_ ([box g7 41 #[v1_0,I b.bound],box g5 41 #[v0_0,I a.bound]])
 refine W_join R43 ?_ ?_
 refine W_block ?_
 obtain ⟨I43,hI43⟩:=exI fun n f w_=>∃ i_39 : Nat,∃ suf43 : List Term,∃ loss_40 : Int,∃ H41 : FH,n = suf43.length∧List.drop i_39 a.terms = suf43∧i_39 + suf43.length = a.terms.length∧rangeL (i_CoversConstraint_b1 b) suf43 i_39 loss_40 = some j43∧Le H H41∧f 2 = Pt g5∧f 3 = Pt g7∧f 5 = I loss_40∧f 17 = v0_0∧f 18 = I (a.terms.length : Int)∧f 19 = I i_39∧Star H41 w_ ([box g7 41 #[v1_0,I b.bound],box g5 41 #[v0_0,I a.bound]])
 refine W_loop I43 (n:=a.terms.length) ?_ ?_
 exact ij hI43 ⟨0,a.terms,0,H,rfl,rfl,Nat.zero_add _,hL43,(Le.refl _),sf2,sf3,rfl,rfl,rfl,rfl,hst⟩
 intro n43 f w_ hI
 obtain ⟨i_39,suf43,loss_40,H41,rfl,hd43,hl43,hL43,l42,sf2,sf3,sf5,sf17,sf18,sf19,hst⟩:=ik hI43 hI
 refine sq (L_lss rfl sf19 sf18 (nq (W_cond (b:=decide ((i_39 : Int) < (a.terms.length : Int))) rfl (fun hc44=>?_) (fun hc44=>?_))))
 have hlt43:=of_decide_eq_true hc44
 rcases suf43 with _ | ⟨x_43,rest43⟩
 exact absurd hlt43 (by simp at hl43; omega)
 obtain ⟨o43,hB43,hL43⟩:=range_cons hL43
 rw [i_CoversConstraint_b1] at hB43
 have hix43:=drop_idx hd43
 refine W_skip (W_seq (W_block (sq (L_ix (r:=rTerm) rfl Try.underlying39 Try.sizeOf117 sf17 (RP.mono _ h0_0 l42) sf19 hix43 (fun g52 o53 cs_g52 hrk_hat54 hat54=>?_)))))
 obtain rfl:=rTerm_iff.1 hrk_hat54
 refine L_lda (cs:=[I x_43.coef,I x_43.lit]) rfl Try.isAgg117 Try.sizeOf117 rfl (At.sub (AtH.at hat54 hst.sub) 0 2) rfl (L_al (cs:=#[I 0,I 0]) rfl Try.zeroValue117 rfl hst (fun g56 w57 hst=>L_staB (vs:=#[I x_43.coef,I x_43.lit]) (cs2:=#[I x_43.coef,I x_43.lit]) 0 rfl Try.sizeOf117 rfl rfl rfl (ones_cons rfl (ones_cons rfl ones_nil)) hst rfl (by show 0 + 2≤2; decide) rfl (fun w58 hst=>nn ?_)))
 obtain ⟨x64,hx64,hB43⟩:=bind_some hB43
 refine W_drawS 9 [isV (I loss_40),isV (Pt g56),isV (I x_43.coef),isV (.agg #[v1_0,I b.bound]),isV (Pq g56 1),isV (I x_43.lit),isV (I x64),isV (I (i64 (x_43.coef - x64))),isV (I (max 0 (i64 (x_43.coef - x64))))] [box g56 117 #[I x_43.coef,I x_43.lit],box g7 41 #[v1_0,I b.bound],box g5 41 #[v0_0,I a.bound]] [] ([]) [([],[]),([],[]),([],[]),([],[]),([],[]),([],[]),([],[]),([],[]),([],[])] (S:=[]) Try_mix (by kernel_rfl) rfl (by kernel_rfl) (amF_cons (mono_V _) (amF_cons (mono_V _) (amF_cons (mono_V _) (amF_cons (mono_V _) (amF_cons (mono_V _) (amF_cons (mono_V _) (amF_cons (mono_V _) (amF_cons (mono_V _) (amF_cons (mono_V _) amF_nil))))))))) hst ?_ (fun f w_ H66 hS66 hE66 hT66 hst=>?_)
 refine opsS_cons (fun f w_ _ _ s _ _ hst=>mF ((s 5 rfl).trans sf5) rfl (nO rfl rfl hst)) (opsS_cons (fun f w_ _ _ s _ _ hst=>fA 0 fa_117_0 ((s 7 rfl).trans rfl) rfl (nO rfl rfl hst)) (opsS_cons (fun f w_ _ _ _ _ p hst=>ldB 0 hst Try.isAgg3 (p 1 24 rfl rfl) rfl rfl (nO rfl rfl hst)) (opsS_cons (fun f w_ _ _ s _ _ hst=>L_lda (cs:=[v1_0,I b.bound]) rfl Try.isAgg41 Try.sizeOf41 ((s 3 rfl).trans sf3) (At.sub0 (Blk.at (Star.blkAt 1 hst rfl)) 0 2) rfl (nO rfl rfl hst)) (opsS_cons (fun f w_ _ _ s _ _ hst=>fA 1 fa_117_1 ((s 7 rfl).trans rfl) rfl (nO rfl rfl hst)) (opsS_cons (fun f w_ _ _ _ _ p hst=>ldB 0 hst Try.isAgg3 (p 4 27 rfl rfl) rfl rfl (nO rfl rfl hst)) (opsS_cons ?_ ?_))))))
 intro f w_ H66 X66 hS66 hE66 hP66 hst
 obtain ⟨H73b,l74,s75,z76,k77⟩:=hst.borrow
 refine L_call rfl Try.call108 (ops2 (hP66 3 26 rfl rfl) (hP66 5 28 rfl rfl)) (i_Constraint_coef_c (c:=b) (lit:=x_43.lit) s75 (RP.mono _ h1_0 (Le.trans (Le.trans l42 hE66) l74)) hx64) ?_
 rintro _ w78 ⟨rfl,hst⟩
 have hst:=k77 hst c0
 exact L_nil ⟨rfl,_,_,rfl,Le.refl _,fun _ _=>rfl,hst⟩
 refine opsS_cons (fun f w_ _ _ _ _ p hst=>L_sub rfl (p 2 25 rfl rfl) (p 6 29 rfl rfl) (nO rfl rfl hst)) (opsS_cons (fun f w_ _ _ _ _ p hst=>L_max rfl rfl (p 7 30 rfl rfl) (nO rfl rfl hst)) (opsS_nil))
 refine L_add rfl (hT66 0 23 rfl rfl) (hT66 8 31 rfl rfl) (aI rfl (nn (W_region (L_add rfl ((hS66 19 rfl).trans sf19) rfl (mI rfl (nn ?_))))))
 obtain rfl:=so hB43
 have hst:=hst.gets [2,2] rfl
 show ∃ m,m < _∧I43 m _ _
 refine ⟨rest43.length,by simp,?_⟩
 exact ij hI43 ⟨i_39 + 1,rest43,i64 (loss_40 + (max 0 (i64 (x_43.coef - x64)))),H66,rfl,drop_next hd43,by simp at hl43; omega,hL43,(Le.trans l42 hE66),((hS66 2 rfl).trans sf2),((hS66 3 rfl).trans sf3),rfl,((hS66 17 rfl).trans sf17),((hS66 18 rfl).trans sf18),(Eq.trans rfl (congrArg (Value.int .i64) (i64_succ (n:=a.terms.length) (by simp at hl43; omega) hlen43))),(Star.keepN 2 hst)⟩
 rcases suf43 with _ | ⟨_,_⟩
 obtain rfl:=range_nil hL43
 refine W_exit (rj hR43 ⟨loss_40,H41,rfl,l42,sf2,sf3,sf5,hst⟩)
 exact absurd (of_decide_eq_false hc44) (by simp at hl43; omega)
 intro f w_ hR
 obtain ⟨loss_40,H41,rfl,l42,sf2,sf3,sf5,hst⟩:=rk hR43 hR
 refine sq (fA 1 fa_41_1 sf2 rfl (ldB 1 hst Try.isAgg3 rfl rfl rfl (mF sf5 rfl (L_sub rfl rfl rfl (fA 1 fa_41_1 sf3 rfl (ldB 0 hst Try.isAgg3 rfl rfl rfl (L_geq rfl rfl rfl (aB rfl (nn (W_ret (retG1 (v1:=Bo (decide ((i64 (a.bound - loss_40)) ≥ b.bound))) Try.results65 rfl ?_)))))))))))
 obtain rfl:=so hF
 exact ⟨rfl,(Star.down (Star.keepN 0 hst) l42 c0)⟩
theorem i_CheckDerivation_1_c {c1 : Con} {d : Con} {v0_0 : Value} {g_c1 : Nat} {v1_0 : Value} {H : FH} {w : World} (hst : Star H w []) (h0_0 : (rS 117 rTerm).rel H [v0_0] d.terms) (hat_g_c1 : AtH H g_c1 0 [v1_0,I c1.bound]) (h1_0 : (rS 117 rTerm).rel H [v1_0] c1.terms) {r : Bool} (hF : i_CheckDerivation_1 c1 d = some r) :
 C Try.prog 64 #[.agg #[v0_0,I d.bound],Pt g_c1] w fun v w'=>v = Bo r∧Star H w' []:=by
 unfold i_CheckDerivation_1 at hF
 refine C_enter Try.func64 rfl Try.ntmps64 rfl (sq (L_box (v:=.agg #[v0_0,I d.bound]) (cs:=#[v0_0,I d.bound]) rfl rfl rfl hst (fun g3 w4 hst=>aB rfl (nq ?_))))
 obtain ⟨x10,hx10,hF⟩:=bind_some hF
 refine W_region (L_lda (cs:=[v0_0,I d.bound]) rfl Try.isAgg41 Try.sizeOf41 rfl (At.sub0 (Blk.at (Star.blkAt 0 hst rfl)) 0 2) rfl (L_lda (cs:=[v1_0,I c1.bound]) rfl Try.isAgg41 Try.sizeOf41 rfl (At.sub0 (AtH.at hat_g_c1 hst.sub) 0 2) rfl ?_))
 obtain ⟨H12b,l13,s14,z15,k16⟩:=hst.borrow
 refine L_call rfl Try.call65 (ops2 rfl rfl) (i_CoversConstraint_c (a:=d) (b:=c1) s14 (RP.mono _ h0_0 l13) (RP.mono _ h1_0 l13) hx10) ?_
 rintro _ w17 ⟨rfl,hst⟩
 have hst:=k16 hst c0
 refine aB rfl (nn (W_ret (retG1 (v1:=Bo x10) Try.results64 rfl ?_)))
 obtain rfl:=so hF
 exact ⟨rfl,(Star.keepN 0 hst)⟩
theorem i_CheckDerivation_c {fu : Nat} {list : List Con} {steps : List Step} {c : Con} {v0 : Value} {v1 : Value} {v2_0 : Value} {H : FH} {w : World} (hst : Star H w []) (h0 : (rS 41 (rCon 117)).rel H [v0] list) (h1 : (rS 63 (rStep 117)).rel H [v1] steps) (h2_0 : (rS 117 rTerm).rel H [v2_0] c.terms) {r : Bool} (hF : i_CheckDerivation fu list steps c = some r) :
 C Try.prog 25 #[v0,v1,.agg #[v2_0,I c.bound]] w fun v w'=>v = Bo r∧Star H w' []:=by
 unfold i_CheckDerivation at hF
 refine C_enter Try.func25 rfl Try.ntmps25 rfl (sq (L_box (v:=.agg #[v2_0,I c.bound]) (cs:=#[v2_0,I c.bound]) rfl rfl rfl hst (fun g3 w4 hst=>aB rfl (nq ?_))))
 obtain ⟨x5,hx5,hF⟩:=bind_some hF
 refine W_region (mV v0 rfl (mV v1 rfl (L_call rfl Try.call60 (ops2 rfl rfl) (i_run_c (list:=list) (steps:=steps) hst h0 h1 hx5) ?_)))
 rintro _ w8 ⟨H8,l8,r8_0,rfl,hst⟩
 refine mV (.tuple #[r8_0,I x5.2]) rfl (L_ex (v:=r8_0) rfl rfl rfl (L_ex (v:=I x5.2) rfl rfl rfl (aV r8_0 rfl (aI rfl (nq ?_)))))
 obtain ⟨b17,hb17,hF⟩:=bind_some hF
 obtain ⟨b33,hb33,hF⟩:=bind_some hF
 obtain ⟨R36,hR36⟩:=exR fun f w_=>∃ H34 : FH,Le H8 H34∧f 6 = Bo b33∧Star H34 w_ ([])
 refine W_join R36 ?_ ?_
 refine W_region (mI rfl (L_lss rfl rfl rfl (mB rfl (L_split (d:=17) (b:=decide (x5.2 < 0)) rfl (fun hc37=>?_) (fun hc37=>?_)))))
 rw [ite_t hc37] at hb17
 obtain ⟨x15,hx15,hb17⟩:=bind_some hb17
 refine L_lda (cs:=[v2_0,I c.bound]) rfl Try.isAgg41 Try.sizeOf41 rfl (At.sub0 (Blk.at (Star.blkAt 1 hst rfl)) 0 2) rfl ?_
 obtain ⟨H38b,l39,s40,z41,k42⟩:=hst.borrow
 refine L_call rfl Try.call61 (ops1 rfl) (i_ConstraintValid_c (c:=c) s40 (RP.mono _ h2_0 (Le.trans l8 l39)) hx15) ?_
 rintro _ w43 ⟨rfl,hst⟩
 have hst:=k42 hst c0
 refine L_pick (v:=Bo b17) rfl rfl (congrArg Value.bool (so hb17)) (mB rfl (L_split (d:=21) (b:=b17) rfl (fun hc44=>?_) (fun hc44=>?_)))
 rw [ite_t hc44] at hb33
 obtain ⟨x19,hx19,hb33⟩:=bind_some hb33
 obtain ⟨x22,hx22,hb33⟩:=bind_some hb33
 obtain ⟨x31,hx31,hb33⟩:=bind_some hb33
 refine mV r8_0 rfl ?_
 obtain ⟨go45,⟨uo45_0,uo45_1⟩,hvo45,hst⟩:=Star.unopt hx19 hst
 have hst : Star H8 w43 ([box go45 115 #[uo45_0,uo45_1],oF 41 (rCon 117) uo45_0 x19.list,oF 4 RP.bool uo45_1 x19.gone,box g3 41 #[v2_0,I c.bound]]):=hst
 refine L_call rfl Try.call63 (ops1 hvo45) (i_running_left_c (r_:=x19) hst hx22) ?_
 rintro r48_0 w48 ⟨H48,l48,_,rfl,hst⟩
 refine L_mf rfl (ops1 rfl) ?_
 obtain ⟨H50b,l51,s52,z53,k54⟩:=hst.borrow
 have hb55 : (rS 41 (rCon 117)).rel H50b [r48_0] x22:=fz_own 0 z53 rfl
 have hf56 : Fun1 Try.prog (rCon 117) true Value.bool (i_CheckDerivation_1 c) (.func (.func 64) #[] #[Pt g3]) H50b:=by
   refine ⟨_,_,rfl,Try.call64,fun H_ w_ hE_ hs_ cs_ x_ y_ args_ hr_ hy_ ha_=>?_⟩
   obtain ⟨p_0,rfl,hp_0⟩:=rCon_iff.1 hr_
   obtain rfl:=args_of (b:=#[.agg #[p_0,I x_.bound],Pt g3]) ha_
   exact i_CheckDerivation_1_c (c1:=c) (d:=x_) hs_ hp_0 (AtH.le (AtH.of (fz_box 4 z53 rfl)) hE_) (RP.mono _ (RP.mono _ h2_0 (Le.trans (Le.trans l8 l48) l51)) hE_) hy_
 refine L_call rfl Try.call62 (ops2 rfl rfl) (slices_ContainsFunc_implConstraint_c (s:=x22) (f_:=(i_CheckDerivation_1 c)) s52 hb55 hf56 hx31) ?_
 rintro _ w57 ⟨rfl,hst⟩
 have hst:=k54 hst c0
 refine L_pick (v:=Bo b33) rfl rfl (congrArg Value.bool (so hb33)) (aB rfl (nn (rj hR36 ⟨H48,l48,rfl,(Star.keepN 0 hst)⟩)))
 rw [ite_f hc44] at hb33
 refine ps rfl (ps rfl (ps rfl (ps rfl (L_pick (v:=Bo b33) rfl rfl (congrArg Value.bool (so hb33)) (aB rfl (nn (rj hR36 ⟨H8,(Le.refl _),rfl,(Star.keepN 0 hst)⟩)))))))
 rw [ite_f hc37] at hb17
 refine ps rfl (ps rfl (L_pick (v:=Bo b17) rfl rfl (congrArg Value.bool (so hb17)) (mB rfl (L_split (d:=21) (b:=b17) rfl (fun hc58=>?_) (fun hc58=>?_)))))
 rw [ite_t hc58] at hb33
 obtain ⟨x19,hx19,hb33⟩:=bind_some hb33
 obtain ⟨x22,hx22,hb33⟩:=bind_some hb33
 obtain ⟨x31,hx31,hb33⟩:=bind_some hb33
 refine mV r8_0 rfl ?_
 obtain ⟨go59,⟨uo59_0,uo59_1⟩,hvo59,hst⟩:=Star.unopt hx19 hst
 have hst : Star H8 w8 ([box go59 115 #[uo59_0,uo59_1],oF 41 (rCon 117) uo59_0 x19.list,oF 4 RP.bool uo59_1 x19.gone,box g3 41 #[v2_0,I c.bound]]):=hst
 refine L_call rfl Try.call63 (ops1 hvo59) (i_running_left_c (r_:=x19) hst hx22) ?_
 rintro r62_0 w62 ⟨H62,l62,_,rfl,hst⟩
 refine L_mf rfl (ops1 rfl) ?_
 obtain ⟨H64b,l65,s66,z67,k68⟩:=hst.borrow
 have hb69 : (rS 41 (rCon 117)).rel H64b [r62_0] x22:=fz_own 0 z67 rfl
 have hf70 : Fun1 Try.prog (rCon 117) true Value.bool (i_CheckDerivation_1 c) (.func (.func 64) #[] #[Pt g3]) H64b:=by
   refine ⟨_,_,rfl,Try.call64,fun H_ w_ hE_ hs_ cs_ x_ y_ args_ hr_ hy_ ha_=>?_⟩
   obtain ⟨p_0,rfl,hp_0⟩:=rCon_iff.1 hr_
   obtain rfl:=args_of (b:=#[.agg #[p_0,I x_.bound],Pt g3]) ha_
   exact i_CheckDerivation_1_c (c1:=c) (d:=x_) hs_ hp_0 (AtH.le (AtH.of (fz_box 4 z67 rfl)) hE_) (RP.mono _ (RP.mono _ h2_0 (Le.trans (Le.trans l8 l62) l65)) hE_) hy_
 refine L_call rfl Try.call62 (ops2 rfl rfl) (slices_ContainsFunc_implConstraint_c (s:=x22) (f_:=(i_CheckDerivation_1 c)) s66 hb69 hf70 hx31) ?_
 rintro _ w71 ⟨rfl,hst⟩
 have hst:=k68 hst c0
 refine L_pick (v:=Bo b33) rfl rfl (congrArg Value.bool (so hb33)) (aB rfl (nn (rj hR36 ⟨H62,l62,rfl,(Star.keepN 0 hst)⟩)))
 rw [ite_f hc58] at hb33
 refine ps rfl (ps rfl (ps rfl (ps rfl (L_pick (v:=Bo b33) rfl rfl (congrArg Value.bool (so hb33)) (aB rfl (nn (rj hR36 ⟨H8,(Le.refl _),rfl,(Star.keepN 0 hst)⟩)))))))
 intro f w_ hR
 obtain ⟨H34,l35,sf6,hst⟩:=rk hR36 hR
 refine W_ret (retG1 (v1:=Bo b33) Try.results25 sf6 ?_)
 obtain rfl:=so hF
 exact ⟨rfl,(Star.down hst (Le.trans l8 l35) c0)⟩
theorem l_FnExactCheckDerivation_c {fu : Nat} {aList : List Con} {aSteps : List Step} {aC : Con} {v0 : Value} {v1 : Value} {v2_0 : Value} {H : FH} {w : World} (hst : Star H w []) (h0 : (rS 36 (rCon 121)).rel H [v0] aList) (h1 : (rS 71 (rStep 121)).rel H [v1] aSteps) (h2_0 : (rS 121 rTerm).rel H [v2_0] aC.terms) {r : Bool} (hF : l_FnExactCheckDerivation fu aList aSteps aC = some r) :
 C Try.prog 4 #[v0,v1,.agg #[v2_0,I aC.bound]] w fun v w'=>v = Bo r∧Star H w' []:=by
 unfold l_FnExactCheckDerivation at hF
 refine C_enter Try.func4 rfl Try.ntmps4 rfl (sq (L_box (v:=.agg #[v2_0,I aC.bound]) (cs:=#[v2_0,I aC.bound]) rfl rfl rfl hst (fun g3 w4 hst=>aB rfl (ns (aI rfl (nq ?_))))))
 obtain ⟨x10,hx10,hF⟩:=bind_some hF
 refine W_region (mV v0 rfl (mI rfl ?_))
 obtain ⟨H12b,l13,s14,z15,k16⟩:=hst.borrow
 refine L_call rfl Try.call14 (ops2 rfl rfl) (l_szConstraintS_c (a:=aList) (left:=1048576) s14 (RP.mono _ h0 l13) hx10) ?_
 rintro _ w17 ⟨rfl,hst⟩
 have hst:=k16 hst c0
 refine aI rfl (nq (sq (mI rfl (L_lss rfl rfl rfl (nn (W_cond (b:=decide (x10 < 0)) rfl (fun hc18=>?_) (fun hc18=>?_)))))))
 have hF:=(ite_t hc18).symm.trans hF
 refine sq (aB rfl (nn (W_ret (retG1 (v1:=Bo true) Try.results4 rfl ?_))))
 obtain rfl:=so hF
 exact ⟨rfl,(Star.keepN 0 hst)⟩
 have hF:=(ite_f hc18).symm.trans hF
 refine W_skip (W_seq ?_)
 obtain ⟨x24,hx24,hF⟩:=bind_some hF
 refine W_region (mV v1 rfl (mI rfl ?_))
 obtain ⟨H26b,l27,s28,z29,k30⟩:=hst.borrow
 refine L_call rfl Try.call15 (ops2 rfl rfl) (l_szStepS_c (a:=aSteps) (left:=x10) s28 (RP.mono _ h1 l27) hx24) ?_
 rintro _ w31 ⟨rfl,hst⟩
 have hst:=k30 hst c0
 refine aI rfl (nq (sq (mI rfl (L_lss rfl rfl rfl (nn (W_cond (b:=decide (x24 < 0)) rfl (fun hc32=>?_) (fun hc32=>?_)))))))
 have hF:=(ite_t hc32).symm.trans hF
 refine sq (aB rfl (nn (W_ret (retG1 (v1:=Bo true) Try.results4 rfl ?_))))
 obtain rfl:=so hF
 exact ⟨rfl,(Star.keepN 0 hst)⟩
 have hF:=(ite_f hc32).symm.trans hF
 refine W_skip (W_seq ?_)
 obtain ⟨x38,hx38,hF⟩:=bind_some hF
 refine W_region (L_lda (cs:=[v2_0,I aC.bound]) rfl Try.isAgg36 Try.sizeOf36 rfl (At.sub0 (Blk.at (Star.blkAt 0 hst rfl)) 0 2) rfl (mI rfl ?_))
 obtain ⟨H40b,l41,s42,z43,k44⟩:=hst.borrow
 refine L_call rfl Try.call22 (ops2 rfl rfl) (l_szConstraint_c (a:=aC) (left:=x24) s42 (RP.mono _ h2_0 l41) hx38) ?_
 rintro _ w45 ⟨rfl,hst⟩
 have hst:=k44 hst c0
 refine aI rfl (nq (sq (mI rfl (L_lss rfl rfl rfl (nn (W_cond (b:=decide (x38 < 0)) rfl (fun hc46=>?_) (fun hc46=>?_)))))))
 have hF:=(ite_t hc46).symm.trans hF
 refine sq (aB rfl (nn (W_ret (retG1 (v1:=Bo true) Try.results4 rfl ?_))))
 obtain rfl:=so hF
 exact ⟨rfl,(Star.keepN 0 hst)⟩
 have hF:=(ite_f hc46).symm.trans hF
 refine W_skip (W_seq ?_)
 obtain ⟨x52,hx52,hF⟩:=bind_some hF
 obtain ⟨x60,hx60,hF⟩:=bind_some hF
 obtain ⟨x68,hx68,hF⟩:=bind_some hF
 obtain ⟨x79,hx79,hF⟩:=bind_some hF
 refine W_drawS 5 [isV (v0),anyF,isV (v1),anyF,isV (.agg #[v2_0,I aC.bound])] [box g3 36 #[v2_0,I aC.bound]] [.made 1 29 (fun v_=>oS 41 (oCon 117) v_ x52) none,.made 3 31 (fun v_=>oS 63 (oStep 117) v_ x60) none] ([]) [([],[]),([],[0]),([],[]),([],[1]),([],[])] (S:=[(some 1,[29],none),(some 3,[31],none)]) Try_mix (by kernel_rfl) rfl (by kernel_rfl) (amF_cons (mono_V _) (amF_cons (mono_any) (amF_cons (mono_V _) (amF_cons (mono_any) (amF_cons (mono_V _) amF_nil))))) hst ?_ (fun f w_ H81 hS81 hE81 hT81 hst=>?_)
 refine opsS_cons (fun f w_ _ _ s _ _ hst=>mF ((s 0 rfl).trans rfl) rfl (nO rfl rfl hst)) (opsS_cons ?_ ?_)
 intro f w_ H81 X81 hS81 hE81 hP81 hst
 obtain ⟨H96b,l97,s98,z99,k100⟩:=hst.borrow
 refine L_call rfl Try.call17 (ops1 (hP81 0 28 rfl rfl)) (l_toConstraintS_c (a:=aList) s98 (RP.mono _ h0 (Le.trans hE81 l97)) hx52) ?_
 rintro r101_0 w101 ⟨_,rfl,hst⟩
 have hst:=k100 hst (co closed_oCon c0)
 have hst:=hst.get 1 rfl
 exact L_nil ⟨rfl,_,_,rfl,Le.refl _,fun _ _=>trivial,hst⟩
 refine opsS_cons (fun f w_ _ _ s _ _ hst=>mF ((s 1 rfl).trans rfl) rfl (nO rfl rfl hst)) (opsS_cons ?_ ?_)
 intro f w_ H81 X81 hS81 hE81 hP81 hst
 obtain ⟨H103b,l104,s105,z106,k107⟩:=hst.borrow
 refine L_call rfl Try.call18 (ops1 (hP81 2 30 rfl rfl)) (l_toStepS_c (a:=aSteps) s105 (RP.mono _ h1 (Le.trans hE81 l104)) hx60) ?_
 rintro r108_0 w108 ⟨_,rfl,hst⟩
 have hst:=k107 hst (co closed_oStep c0)
 have hst:=hst.get 1 rfl
 exact L_nil ⟨rfl,_,_,rfl,Le.refl _,fun _ _=>trivial,hst⟩
 refine opsS_cons (fun f w_ _ _ s _ _ hst=>L_lda (cs:=[v2_0,I aC.bound]) rfl Try.isAgg36 Try.sizeOf36 ((s 5 rfl).trans rfl) (At.sub0 (Blk.at (Star.blkAt 0 hst rfl)) 0 2) rfl (nO rfl rfl hst)) (opsS_nil)
 have hst : Star H81 w_ ([box g3 36 #[v2_0,I aC.bound],oS 41 (oCon 117) (f 29) x52,oS 63 (oStep 117) (f 31) x60]):=hst
 obtain ⟨H112b,l113,s114,z115,k116⟩:=hst.borrow
 refine L_call rfl Try.call24 (ops1 (hT81 4 32 rfl rfl)) (l_toConstraint_c (a:=aC) s114 (RP.mono _ h2_0 (Le.trans hE81 l113)) hx68) ?_
 rintro _ w117 ⟨r117_0,rfl,hst⟩
 have hst:=k116 hst (co closed_term c0)
 obtain ⟨H119b,l120,s121,z122,k123⟩:=hst.borrow
 have hb124 : (rS 41 (rCon 117)).rel H119b [(f 29)] x52:=fz_own 2 z122 rfl
 have hb125 : (rS 63 (rStep 117)).rel H119b [(f 31)] x60:=fz_own 3 z122 rfl
 have hb126 : (rS 117 rTerm).rel H119b [r117_0] x68.terms:=fz_own 0 z122 rfl
 refine L_call rfl Try.call23 (ops3 rfl rfl rfl) (s_CheckDerivation_c (list:=x52) (steps:=x60) (c:=x68) s121 hb124 hb125 hb126 hx79) ?_
 rintro _ w127 ⟨rfl,hst⟩
 have hst:=k123 hst c0
 refine aB rfl (nq ?_)
 obtain ⟨x133,hx133,hF⟩:=bind_some hF
 refine W_region (mF ((hS81 0 rfl).trans rfl) rfl ?_)
 obtain ⟨H136b,l137,s138,z139,k140⟩:=hst.borrow
 refine L_call rfl Try.call17 (ops1 rfl) (l_toConstraintS_c (a:=aList) s138 (RP.mono _ h0 (Le.trans hE81 l137)) hx133) ?_
 rintro r141_0 w141 ⟨_,rfl,hst⟩
 have hst:=k140 hst (co closed_oCon c0)
 refine aV r141_0 rfl (nq ?_)
 obtain ⟨x148,hx148,hF⟩:=bind_some hF
 refine W_region (mF ((hS81 1 rfl).trans rfl) rfl ?_)
 obtain ⟨H151b,l152,s153,z154,k155⟩:=hst.borrow
 refine L_call rfl Try.call18 (ops1 rfl) (l_toStepS_c (a:=aSteps) s153 (RP.mono _ h1 (Le.trans hE81 l152)) hx148) ?_
 rintro r156_0 w156 ⟨_,rfl,hst⟩
 have hst:=k155 hst (co closed_oStep c0)
 refine aV r156_0 rfl (nq ?_)
 obtain ⟨x163,hx163,hF⟩:=bind_some hF
 refine W_region (L_lda (cs:=[v2_0,I aC.bound]) rfl Try.isAgg36 Try.sizeOf36 ((hS81 5 rfl).trans rfl) (At.sub0 (Blk.at (Star.blkAt 3 hst rfl)) 0 2) rfl ?_)
 obtain ⟨H169b,l170,s171,z172,k173⟩:=hst.borrow
 refine L_call rfl Try.call24 (ops1 rfl) (l_toConstraint_c (a:=aC) s171 (RP.mono _ h2_0 (Le.trans hE81 l170)) hx163) ?_
 rintro _ w174 ⟨r174_0,rfl,hst⟩
 have hst:=k173 hst (co closed_term c0)
 refine L_al (cs:=#[S0,I 0]) rfl Try.zeroValue41 rfl hst (fun g176 w177 hst=>L_staB (vs:=#[r174_0,I x163.bound]) (cs2:=#[r174_0,I x163.bound]) 0 rfl Try.sizeOf41 rfl rfl rfl (ones_cons (one_len (Star.len 1 hst rfl)) (ones_cons rfl ones_nil)) hst rfl (by show 0 + 2≤2; decide) rfl (fun w178 hst=>nq ?_))
 obtain ⟨x187,hx187,hF⟩:=bind_some hF
 refine W_region (mV r141_0 rfl (mV r156_0 rfl (L_lda (cs:=[r174_0,I x163.bound]) rfl Try.isAgg41 Try.sizeOf41 rfl (At.sub0 (Blk.at (Star.blkAt 0 hst rfl)) 0 2) rfl ?_)))
 obtain ⟨H189b,l190,s191,z192,k193⟩:=hst.borrow
 have hb194 : (rS 41 (rCon 117)).rel H189b [r141_0] x133:=fz_own 3 z192 rfl
 have hb195 : (rS 63 (rStep 117)).rel H189b [r156_0] x148:=fz_own 2 z192 rfl
 have hb196 : (rS 117 rTerm).rel H189b [r174_0] x163.terms:=fz_own 1 z192 rfl
 refine L_call rfl Try.call25 (ops3 rfl rfl rfl) (i_CheckDerivation_c (list:=x133) (steps:=x148) (c:=x163) s191 hb194 hb195 hb196 hx187) ?_
 rintro _ w197 ⟨rfl,hst⟩
 have hst:=k193 hst c0
 refine aB rfl (nq (sq (mB rfl (mB rfl (L_bneq (b:=x187) (c:=x79) rfl Try.underlying4 rfl rfl (nn (W_cond (b:=(x187 != x79)) rfl (fun hc198=>?_) (fun hc198=>?_))))))))
 have hF:=(ite_t hc198).symm.trans hF
 refine sq (aB rfl (nn (W_ret (retG1 (v1:=Bo false) Try.results4 rfl ?_))))
 obtain rfl:=so hF
 exact ⟨rfl,(Star.down (Star.keepN 0 hst) hE81 c0)⟩
 have hF:=(ite_f hc198).symm.trans hF
 refine W_skip (W_seq (W_seq ?_))
 obtain ⟨x204,hx204,hF⟩:=bind_some hF
 obtain ⟨x214,hx214,hF⟩:=bind_some hF
 refine W_region (mV r141_0 rfl (mF ((hS81 0 rfl).trans rfl) rfl ?_))
 obtain ⟨H216b,l217,s218,z219,k220⟩:=hst.borrow
 refine L_call rfl Try.call17 (ops1 rfl) (l_toConstraintS_c (a:=aList) s218 (RP.mono _ h0 (Le.trans hE81 l217)) hx204) ?_
 rintro r221_0 w221 ⟨_,rfl,hst⟩
 have hst:=k220 hst (co closed_oCon c0)
 obtain ⟨H223b,l224,s225,z226,k227⟩:=hst.borrow
 have hb228 : (rS 41 (rCon 117)).rel H223b [r141_0] x133:=fz_own 4 z226 rfl
 have hb229 : (rS 41 (rCon 117)).rel H223b [r221_0] x204:=fz_own 0 z226 rfl
 refine L_call rfl Try.call20 (ops2 rfl rfl) (l_eqConstraintS_c (a:=x133) (b:=x204) s225 hb228 hb229 hx214) ?_
 rintro _ w230 ⟨rfl,hst⟩
 have hst:=k227 hst c0
 refine L_not_ rfl rfl (nn (W_cond (b:=(!x214)) rfl (fun hc231=>?_) (fun hc231=>?_)))
 have hF:=(ite_t hc231).symm.trans hF
 refine sq (aB rfl (nn (W_ret (retG1 (v1:=Bo false) Try.results4 rfl ?_))))
 obtain rfl:=so hF
 exact ⟨rfl,(Star.down (Star.keepN 0 hst) hE81 c0)⟩
 have hF:=(ite_f hc231).symm.trans hF
 refine W_skip (W_seq (W_seq ?_))
 obtain ⟨x237,hx237,hF⟩:=bind_some hF
 obtain ⟨x247,hx247,hF⟩:=bind_some hF
 refine W_region (mV r156_0 rfl (mF ((hS81 1 rfl).trans rfl) rfl ?_))
 obtain ⟨H249b,l250,s251,z252,k253⟩:=hst.borrow
 refine L_call rfl Try.call18 (ops1 rfl) (l_toStepS_c (a:=aSteps) s251 (RP.mono _ h1 (Le.trans hE81 l250)) hx237) ?_
 rintro r254_0 w254 ⟨_,rfl,hst⟩
 have hst:=k253 hst (co closed_oStep c0)
 obtain ⟨H256b,l257,s258,z259,k260⟩:=hst.borrow
 have hb261 : (rS 63 (rStep 117)).rel H256b [r156_0] x148:=fz_own 4 z259 rfl
 have hb262 : (rS 63 (rStep 117)).rel H256b [r254_0] x237:=fz_own 0 z259 rfl
 refine L_call rfl Try.call21 (ops2 rfl rfl) (l_eqStepS_c (a:=x148) (b:=x237) s258 hb261 hb262 hx247) ?_
 rintro _ w263 ⟨rfl,hst⟩
 have hst:=k260 hst c0
 refine L_not_ rfl rfl (nn (W_cond (b:=(!x247)) rfl (fun hc264=>?_) (fun hc264=>?_)))
 have hF:=(ite_t hc264).symm.trans hF
 refine sq (aB rfl (nn (W_ret (retG1 (v1:=Bo false) Try.results4 rfl ?_))))
 obtain rfl:=so hF
 exact ⟨rfl,(Star.down (Star.keepN 0 hst) hE81 c0)⟩
 have hF:=(ite_f hc264).symm.trans hF
 refine W_skip (W_seq (W_seq ?_))
 obtain ⟨x270,hx270,hF⟩:=bind_some hF
 obtain ⟨x280,hx280,hF⟩:=bind_some hF
 have hst:=Star.drop 0 hst rfl
 have hst:=Star.drop 0 hst rfl
 have hst:=Star.drop 2 hst rfl
 have hst:=Star.drop 2 hst rfl
 have hst:=Star.drop 2 hst rfl
 have hst:=Star.drop 3 hst rfl
 have hst:=Star.drop 3 hst rfl
 refine W_drawS 3 [isV (.agg #[r174_0,I x163.bound]),isV (.agg #[v2_0,I aC.bound]),exA fun u_0=>isV (.agg #[u_0,I x270.bound])] [box g176 41 #[r174_0,I x163.bound],oF 117 rTerm r174_0 x163.terms,box g3 36 #[v2_0,I aC.bound]] [.made 2 60 (fun v_=>oF 117 rTerm (aggC v_ 0) x270.terms) none] ([]) [([],[]),([],[]),([],[0])] (S:=[(some 2,[60],none)]) Try_mix (by kernel_rfl) rfl (by kernel_rfl) (amF_cons (mono_V _) (amF_cons (mono_V _) (amF_cons (mono_exA fun _=>mono_V _) amF_nil))) hst ?_ (fun f w_ H282 hS282 hE282 hT282 hst=>?_)
 refine opsS_cons (fun f w_ _ _ s _ _ hst=>L_lda (cs:=[r174_0,I x163.bound]) rfl Try.isAgg41 Try.sizeOf41 ((s 11 rfl).trans rfl) (At.sub0 (Blk.at (Star.blkAt 0 hst rfl)) 0 2) rfl (nO rfl rfl hst)) (opsS_cons (fun f w_ _ _ s _ _ hst=>L_lda (cs:=[v2_0,I aC.bound]) rfl Try.isAgg36 Try.sizeOf36 ((s 5 rfl).trans ((hS81 5 rfl).trans rfl)) (At.sub0 (Blk.at (Star.blkAt 2 hst rfl)) 0 2) rfl (nO rfl rfl hst)) (opsS_cons ?_ ?_))
 intro f w_ H282 X282 hS282 hE282 hP282 hst
 obtain ⟨H290b,l291,s292,z293,k294⟩:=hst.borrow
 refine L_call rfl Try.call24 (ops1 (hP282 1 59 rfl rfl)) (l_toConstraint_c (a:=aC) s292 (RP.mono _ h2_0 (Le.trans (Le.trans hE81 hE282) l291)) hx270) ?_
 rintro _ w295 ⟨r295_0,rfl,hst⟩
 have hst:=k294 hst (co closed_term c0)
 have hst:=hst.gets [3,3,3] rfl
 exact L_nil ⟨rfl,_,_,rfl,Le.refl _,fun _ _=>⟨_,rfl⟩,hst⟩
 exact opsS_nil
 have hst : Star H282 w_ ([box g176 41 #[r174_0,I x163.bound],oF 117 rTerm r174_0 x163.terms,box g3 36 #[v2_0,I aC.bound],own (OR.ownS 117 (OR.frz rTerm)) [(aggC (f 60) 0)] x270.terms]):=hst
 obtain ⟨u297_0,hv297⟩:=(hT282 2 60 rfl rfl)
 have hren : Star H282 w_ ([box g176 41 #[r174_0,I x163.bound],oF 117 rTerm r174_0 x163.terms,box g3 36 #[v2_0,I aC.bound],own (OR.ownS 117 (OR.frz rTerm)) [(aggC (f 60) 0)] x270.terms]):=hst
 rw [hv297] at hren
 have hst : Star H282 w_ ([box g176 41 #[r174_0,I x163.bound],oF 117 rTerm r174_0 x163.terms,box g3 36 #[v2_0,I aC.bound],oF 117 rTerm u297_0 x270.terms]):=hren
 obtain ⟨H298b,l299,s300,z301,k302⟩:=hst.borrow
 have hb303 : (rS 117 rTerm).rel H298b [r174_0] x163.terms:=fz_own 1 z301 rfl
 have hb304 : (rS 117 rTerm).rel H298b [u297_0] x270.terms:=fz_own 3 z301 rfl
 refine L_call rfl Try.call26 (ops2 (hT282 0 58 rfl rfl) hv297) (l_eqConstraint_c (a:=x163) (b:=x270) s300 hb303 hb304 hx280) ?_
 rintro _ w305 ⟨rfl,hst⟩
 have hst:=k302 hst c0
 refine L_not_ rfl rfl (nn (W_cond (b:=(!x280)) rfl (fun hc306=>?_) (fun hc306=>?_)))
 have hF:=(ite_t hc306).symm.trans hF
 refine sq (aB rfl (nn (W_ret (retG1 (v1:=Bo false) Try.results4 rfl ?_))))
 obtain rfl:=so hF
 exact ⟨rfl,(Star.down (Star.keepN 0 hst) (Le.trans hE81 hE282) c0)⟩
 have hF:=(ite_f hc306).symm.trans hF
 refine W_skip (sq (aB rfl (nn (W_ret (retG1 (v1:=Bo true) Try.results4 rfl ?_)))))
 obtain rfl:=so hF
 exact ⟨rfl,(Star.down (Star.keepN 0 hst) (Le.trans hE81 hE282) c0)⟩
end Go.Proofs.Ytiodhgbfceahfaa

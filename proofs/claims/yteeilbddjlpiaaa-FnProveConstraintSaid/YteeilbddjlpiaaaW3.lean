/- Part of a proof by program: W3. -/
import Derived.Test.YteeilbddjlpiaaaD1
import Derived.Test.YteeilbddjlpiaaaW2
namespace Go.Proofs.Yteeilbddjlpiaaa
open Go Go.E Go.L Go.RowKit
set_option linter.unusedVariables false
set_option linter.unusedSimpArgs false
set_option maxRecDepth 100000
theorem s_DrawProveConstraint_c {fu : Nat} {code : List UInt8} {v0 : Value} {H : FH} {w : World} {R : List Ass} (hst : Star H w R) (h0 : (rS 5 RP.u8).rel H [v0] code) {r : (List Con) × Con × Int} (hF : s_DrawProveConstraint fu code = some r) :
 C Try.prog 26 #[v0] w fun v w'=>∃ H' : FH,Le H H'∧∃ (u1 : Value) (u2 : Value),v = .tuple #[u1,.agg #[u2,I r.2.1.bound],I r.2.2]∧Star H' w' (oF 43 (rCon 112) u1 r.1 :: oF 112 rTerm u2 r.2.1.terms :: R):=by
 unfold s_DrawProveConstraint at hF
 refine C_enter Try.func26 rfl Try.ntmps26 rfl (sq (aV S0 rfl (L_al (cs:=#[S0,I 0]) rfl Try.zeroValue43 rfl hst (fun g3 w4 hst=>aI rfl (nq ?_)))))
 obtain ⟨x5,hx5,hF⟩:=bind_some hF
 refine W_region (mV v0 rfl (L_call rfl Try.call53 (ops1 rfl) (s_l17Open_c (code:=code) hst h0 hx5) ?_))
 rintro _ w7 ⟨H7,l7,r7_0,r7_1,rfl,hr7_1,hst⟩
 refine aV (Pt r7_0) rfl (nq ?_)
 obtain ⟨x13,hx13,hF⟩:=bind_some hF
 obtain ⟨x19,hx19,hF⟩:=bind_some hF
 refine W_region (mV (Pt r7_0) rfl (mV (Pt r7_0) rfl ?_))
 obtain ⟨H22b,l23,s24,z25,k26⟩:=hst.lend [_]
 refine L_call rfl Try.call73 (ops1 rfl) (s_l3Problem_c (r_:=x5) s24 (RP.mono _ hr7_1 l23) hx13) ?_
 rintro r27_0 w27 ⟨_,rfl,hst⟩
 have hst:=k26 hst (co closed_oCon (cb c0))
 obtain ⟨H29,l30,hst,hz31⟩:=Star.freeze hst
 have hz31 : (rS 43 (rCon 112)).rel H29 [r27_0] x13.1:=hz31
 refine L_call rfl Try.call54 (ops2 rfl rfl) (s_l3Mutate_c (r_:=({ b:=x5.b,p:=x13.2 } : Rd)) (list:=x13.1) hst (RP.mono _ hr7_1 l30) hz31 hx19) ?_
 rintro r32_0 w32 ⟨H32,l32,_,rfl,hst⟩
 refine aV r32_0 rfl (nq ?_)
 obtain ⟨x39,hx39,hF⟩:=bind_some hF
 obtain ⟨x48,hx48,hF⟩:=bind_some hF
 refine W_region (mV (Pt r7_0) rfl (mV (Pt r7_0) rfl ?_))
 have hst:=hst.get 1 rfl
 obtain ⟨H54b,l55,s56,z57,k58⟩:=hst.lend [_]
 refine L_call rfl Try.call75 (ops2 rfl rfl) (s_l1Draw_c (r_:=({ b:=x5.b,p:=x19.2 } : Rd)) (most:=4) s56 (RP.mono _ hr7_1 (Le.trans (Le.trans l30 l32) l55)) hx39) ?_
 rintro _ w59 ⟨r59_0,rfl,hst⟩
 have hst:=k58 hst (co closed_term (cb c0))
 have hst:=hst.get 1 rfl
 obtain ⟨H61b,l62,s63,z64,k65⟩:=hst.lend [_]
 have hb66 : (rS 112 rTerm).rel H61b [r59_0] x39.1.terms:=fz_own 0 z64 rfl
 refine L_call rfl Try.call74 (ops2 rfl rfl) (s_l1Mutate_c (r_:=({ b:=x5.b,p:=x39.2 } : Rd)) (c:=x39.1) s63 (RP.mono _ hr7_1 (Le.trans (Le.trans l30 l32) l62)) hb66 hx48) ?_
 rintro _ w67 ⟨r67_0,rfl,hst⟩
 have hst:=k65 hst (co closed_term (cb c0))
 refine L_al (cs:=#[S0,I 0]) rfl Try.zeroValue43 rfl hst (fun g69 w70 hst=>L_staB (vs:=#[r67_0,I x48.1.bound]) (cs2:=#[r67_0,I x48.1.bound]) 0 rfl Try.sizeOf43 rfl rfl rfl (ones_cons (one_len (Star.len 1 hst rfl)) (ones_cons rfl ones_nil)) hst rfl (by show 0 + 2≤2; decide) rfl (fun w71 hst=>nq (W_seq ?_)))
 obtain ⟨b79,hb79,hF⟩:=bind_some hF
 obtain ⟨R80,hR80⟩:=exR fun f w_=>f 3 = Pt g3∧f 5 = Pt r7_0∧f 6 = r32_0∧f 7 = Pt g69∧f 25 = Bo b79.1∧Star H32 w_ (oF 43 (rCon 112) r32_0 x19.1 :: oF 112 rTerm r67_0 x48.1.terms :: box g69 43 #[r67_0,I x48.1.bound] :: box r7_0 119 #[r7_1,I b79.2] :: box g3 43 #[S0,I 0] :: R)
 refine W_join R80 ?_ ?_
 refine W_region (mV r32_0 rfl (L_len rfl Try.underlying23 rfl (Star.len 4 hst rfl) (L_gtr rfl rfl rfl (mB rfl (L_split (d:=21) (b:=decide ((x19.1.length : Int) > 1)) rfl (fun hc81=>?_) (fun hc81=>?_))))))
 rw [ite_t hc81] at hb79
 obtain ⟨x77,hx77,hb79⟩:=bind_some hb79
 refine mV (Pt r7_0) rfl ?_
 have hst:=hst.get 2 rfl
 obtain ⟨H82b,l83,s84,z85,k86⟩:=hst.lend [_]
 refine L_call rfl Try.call57 (ops2 rfl rfl) (s_l17Rd_pick_c (r_:=({ b:=x5.b,p:=x48.2 } : Rd)) (n_:=2) s84 (RP.mono _ hr7_1 (Le.trans (Le.trans l30 l32) l83)) hx77) ?_
 rintro _ w87 ⟨rfl,hst⟩
 have hst:=k86 hst (cb c0)
 refine L_eql rfl rfl rfl (L_pick (v:=Bo b79.1) rfl rfl (congrArg (fun z : Bool × Int=>Value.bool z.1) (so hb79)) ?_)
 have hst : Star H32 w87 (box r7_0 119 #[r7_1,I b79.2] :: box g69 43 #[r67_0,I x48.1.bound] :: oF 112 rTerm r67_0 x48.1.terms :: oF 112 rTerm r59_0 x39.1.terms :: oF 43 (rCon 112) r32_0 x19.1 :: box g3 43 #[S0,I 0] :: R):=by rw [← so hb79]; exact hst
 refine nn ?_
 have hst:=hst.gets [5,1,2,3,5] rfl
 have hst:=Star.drop 5 hst rfl
 exact rj hR80 ⟨rfl,rfl,rfl,rfl,rfl,hst⟩
 rw [ite_f hc81] at hb79
 refine ps rfl (ps rfl (ps rfl (L_pick (v:=Bo b79.1) rfl rfl (congrArg (fun z : Bool × Int=>Value.bool z.1) (so hb79)) ?_)))
 have hst:=hst.get 2 rfl
 have hst : Star H32 w71 (box r7_0 119 #[r7_1,I b79.2] :: box g69 43 #[r67_0,I x48.1.bound] :: oF 112 rTerm r67_0 x48.1.terms :: oF 112 rTerm r59_0 x39.1.terms :: oF 43 (rCon 112) r32_0 x19.1 :: box g3 43 #[S0,I 0] :: R):=by rw [← so hb79]; exact hst
 refine nn ?_
 have hst:=hst.gets [5,1,2,3,5] rfl
 have hst:=Star.drop 5 hst rfl
 exact rj hR80 ⟨rfl,rfl,rfl,rfl,rfl,hst⟩
 intro f w_ hR
 obtain ⟨sf3,sf5,sf6,sf7,sf25,hst⟩:=rk hR80 hR
 obtain ⟨⟨g69_0_88,g69_1_90⟩,hA93,hF⟩:=bind_some hF
 obtain ⟨R93,hR93⟩:=exR fun f w_=>∃ H91 : FH,∃ v88_g69_0 : Value,Le H32 H91∧f 3 = Pt g3∧f 5 = Pt r7_0∧f 6 = r32_0∧f 7 = Pt g69∧Star H91 w_ (oF 43 (rCon 112) r32_0 x19.1 :: oF 112 rTerm v88_g69_0 g69_0_88 :: box g69 43 #[v88_g69_0,I g69_1_90] :: box r7_0 119 #[r7_1,I b79.2] :: box g3 43 #[S0,I 0] :: R)
 refine W_join R93 ?_ ?_
 refine W_cond (b:=b79.1) sf25 (fun hc94=>?_) (fun hc94=>?_)
 have hA93:=(ite_t hc94).symm.trans hA93
 obtain ⟨x95,hx95,hA93⟩:=bind_some hA93
 obtain ⟨x100,hx100,hA93⟩:=bind_some hA93
 obtain ⟨x108,hx108,hA93⟩:=bind_some hA93
 obtain ⟨g113,cap_g113,hv114,_,_⟩:=Star.row 0 hst rfl hx95
 have hst:=hst.gets [2,4,4,4,4] rfl
 refine W_drawS 11 [isV (r32_0),isV (.pointer (some ⟨g113,Int.toNat 0 * 2,none⟩)),exD (isData (rS 112 rTerm) x95.terms) fun u_0=>isV (.agg #[u_0,I x95.bound]),isV (r32_0),isV (.pointer (some ⟨g113,Int.toNat 1 * 2,none⟩)),exD (isData (rS 112 rTerm) x100.terms) fun u_0=>isV (.agg #[u_0,I x100.bound]),tup2 (exA fun u_0=>isV (.agg #[u_0,I x108.1.bound])) (isV (Bo x108.2)),tup2 (exA fun u_0=>isV (.agg #[u_0,I x108.1.bound])) (isV (Bo x108.2)),exA fun u_0=>isV (.agg #[u_0,I x108.1.bound]),isV (Bo x108.2),anyF] [oF 43 (rCon 112) r32_0 x19.1,oF 112 rTerm r67_0 x48.1.terms,box r7_0 119 #[r7_1,I b79.2],box g3 43 #[S0,I 0]] [.base (box g69 43 #[r67_0,I x48.1.bound]) (some 10),.made 6 33 (fun v_=>own (OR.ownS 112 (OR.frz rTerm)) [(aggC (tupC v_ 0) 0)] x108.1.terms) (some 7),.made 7 26 (fun v_=>own (OR.ownS 112 (OR.frz rTerm)) [(aggC (tupC v_ 0) 0)] x108.1.terms) (some 8),.made 8 34 (fun v_=>oF 112 rTerm (aggC v_ 0) x108.1.terms) none,.madeN 10 [34] (fun vs_=>box g69 43 #[(aggC (vs_.getD 0 undef) 0),I x108.1.bound]) none] (R) [([],[]),([],[]),([],[]),([],[]),([],[]),([],[]),([],[1]),([1],[2]),([2],[3]),([],[]),([0,3],[3,4])] (S:=[(none,[],some 10),(some 6,[33],some 7),(some 7,[26],some 8),(some 8,[34],none),(some 10,[34],none)]) Try_mix (by kernel_rfl) rfl (by kernel_rfl) (amF_cons (mono_V _) (amF_cons (mono_V _) (amF_cons (mono_exD (mono_data _ _) fun _=>mono_V _) (amF_cons (mono_V _) (amF_cons (mono_V _) (amF_cons (mono_exD (mono_data _ _) fun _=>mono_V _) (amF_cons (mono_tup2 (mono_exA fun _=>mono_V _) (mono_V _)) (amF_cons (mono_tup2 (mono_exA fun _=>mono_V _) (mono_V _)) (amF_cons (mono_exA fun _=>mono_V _) (amF_cons (mono_V _) (amF_cons (mono_any) amF_nil))))))))))) hst ?_ (fun f w_ H112 hS112 hE112 hT112 hst=>?_)
 refine opsS_cons (fun f w_ _ _ s _ _ hst=>mF ((s 6 rfl).trans sf6) rfl (nO rfl rfl hst)) (opsS_cons (fun f w_ _ _ _ _ p hst=>L_ixO (R:=(OR.frz (rCon 112))) (tb:=0) 0 rfl Try.underlying23 Try.sizeOf43 (p 0 27 rfl rfl) hv114 (by first | rfl | simp) rfl hx95 (nO rfl rfl hst)) (opsS_cons ?_ ?_))
 intro f w_ H112 X112 hS112 hE112 hP112 hst
 obtain ⟨cs127,hr127,hat127⟩:=Star.eltF 0 hst rfl hv114 hx95
 obtain ⟨u128_0,rfl,hu128_0⟩:=rCon_iff.1 hr127
 refine L_lda (cs:=[u128_0,I x95.bound]) rfl Try.isAgg43 Try.sizeOf43 (hP112 1 28 rfl rfl) (At.sub hat127 0 2) rfl (L_nil ⟨rfl,_,_,rfl,Le.refl _,fun _ _=>⟨_,hu128_0,rfl⟩,hst⟩)
 refine opsS_cons (fun f w_ _ _ s _ _ hst=>mF ((s 6 rfl).trans sf6) rfl (nO rfl rfl hst)) (opsS_cons (fun f w_ _ _ _ _ p hst=>L_ixO (R:=(OR.frz (rCon 112))) (tb:=0) 0 rfl Try.underlying23 Try.sizeOf43 (p 3 30 rfl rfl) hv114 (by first | rfl | simp) rfl hx100 (nO rfl rfl hst)) (opsS_cons ?_ ?_))
 intro f w_ H112 X112 hS112 hE112 hP112 hst
 obtain ⟨cs129,hr129,hat129⟩:=Star.eltF 0 hst rfl hv114 hx100
 obtain ⟨u130_0,rfl,hu130_0⟩:=rCon_iff.1 hr129
 refine L_lda (cs:=[u130_0,I x100.bound]) rfl Try.isAgg43 Try.sizeOf43 (hP112 4 31 rfl rfl) (At.sub hat129 0 2) rfl (L_nil ⟨rfl,_,_,rfl,Le.refl _,fun _ _=>⟨_,hu130_0,rfl⟩,hst⟩)
 refine opsS_cons ?_ ?_
 intro f w_ H112 X112 hS112 hE112 hP112 hst
 obtain ⟨u131_0,hu131_0,hv131⟩:=(hP112 2 29 rfl rfl)
 obtain ⟨u132_0,hu132_0,hv132⟩:=(hP112 5 32 rfl rfl)
 obtain ⟨H133b,l134,s135,z136,k137⟩:=hst.borrow
 refine L_call rfl Try.call76 (ops2 hv131 hv132) (s_AddConstraints_c (a:=x95) (b:=x100) s135 (RP.mono _ hu131_0 l134) (RP.mono _ hu132_0 l134) hx108) ?_
 rintro _ w138 ⟨r138_0,rfl,hst⟩
 have hst:=k137 hst (co closed_term c0)
 have hst:=hst.gets [4,4,4,4] rfl
 exact L_nil ⟨rfl,_,_,rfl,Le.refl _,fun _ _=>⟨_,_,rfl,⟨_,rfl⟩,rfl⟩,hst⟩
 refine opsS_cons ?_ ?_
 intro f w_ H112 X112 hS112 hE112 hP112 hst
 have hst : Star H112 w_ (oF 43 (rCon 112) r32_0 x19.1 :: oF 112 rTerm r67_0 x48.1.terms :: box r7_0 119 #[r7_1,I b79.2] :: box g3 43 #[S0,I 0] :: own (OR.ownS 112 (OR.frz rTerm)) [(aggC (tupC (f 33) 0) 0)] x108.1.terms :: X112):=hst
 obtain ⟨a140_0,a140_1,hv140,ht140_0,ht140_1⟩:=(hP112 6 33 rfl rfl)
 obtain ⟨u141_0,rfl⟩:=ht140_0
 obtain rfl:=ht140_1
 have hren : Star H112 w_ (oF 43 (rCon 112) r32_0 x19.1 :: oF 112 rTerm r67_0 x48.1.terms :: box r7_0 119 #[r7_1,I b79.2] :: box g3 43 #[S0,I 0] :: own (OR.ownS 112 (OR.frz rTerm)) [(aggC (tupC (f 33) 0) 0)] x108.1.terms :: X112):=hst
 rw [hv140] at hren
 have hst : Star H112 w_ (oF 43 (rCon 112) r32_0 x19.1 :: oF 112 rTerm r67_0 x48.1.terms :: box r7_0 119 #[r7_1,I b79.2] :: box g3 43 #[S0,I 0] :: oF 112 rTerm u141_0 x108.1.terms :: X112):=hren
 refine mF hv140 rfl (L_nil ⟨rfl,_,_,rfl,Le.refl _,fun _ _=>⟨_,_,rfl,⟨_,rfl⟩,rfl⟩,hst⟩)
 refine opsS_cons ?_ ?_
 intro f w_ H112 X112 hS112 hE112 hP112 hst
 have hst : Star H112 w_ (oF 43 (rCon 112) r32_0 x19.1 :: oF 112 rTerm r67_0 x48.1.terms :: box r7_0 119 #[r7_1,I b79.2] :: box g3 43 #[S0,I 0] :: own (OR.ownS 112 (OR.frz rTerm)) [(aggC (tupC (f 26) 0) 0)] x108.1.terms :: X112):=hst
 obtain ⟨a142_0,a142_1,hv142,ht142_0,ht142_1⟩:=(hP112 7 26 rfl rfl)
 obtain ⟨u143_0,rfl⟩:=ht142_0
 obtain rfl:=ht142_1
 have hren : Star H112 w_ (oF 43 (rCon 112) r32_0 x19.1 :: oF 112 rTerm r67_0 x48.1.terms :: box r7_0 119 #[r7_1,I b79.2] :: box g3 43 #[S0,I 0] :: own (OR.ownS 112 (OR.frz rTerm)) [(aggC (tupC (f 26) 0) 0)] x108.1.terms :: X112):=hst
 rw [hv142] at hren
 have hst : Star H112 w_ (oF 43 (rCon 112) r32_0 x19.1 :: oF 112 rTerm r67_0 x48.1.terms :: box r7_0 119 #[r7_1,I b79.2] :: box g3 43 #[S0,I 0] :: oF 112 rTerm u143_0 x108.1.terms :: X112):=hren
 refine L_ex (v:=.agg #[u143_0,I x108.1.bound]) rfl hv142 rfl (L_nil ⟨rfl,_,_,rfl,Le.refl _,fun _ _=>⟨_,rfl⟩,hst⟩)
 refine opsS_cons ?_ ?_
 intro f w_ H112 X112 hS112 hE112 hP112 hst
 obtain ⟨a144_0,a144_1,hv144,ht144_0,ht144_1⟩:=(hP112 7 26 rfl rfl)
 obtain ⟨u145_0,rfl⟩:=ht144_0
 obtain rfl:=ht144_1
 refine L_ex (v:=Bo x108.2) rfl hv144 rfl (L_nil ⟨rfl,_,_,rfl,Le.refl _,fun _ _=>rfl,hst⟩)
 refine opsS_cons ?_ ?_
 intro f w_ H112 X112 hS112 hE112 hP112 hst
 have hst : Star H112 w_ (oF 43 (rCon 112) r32_0 x19.1 :: oF 112 rTerm r67_0 x48.1.terms :: box r7_0 119 #[r7_1,I b79.2] :: box g3 43 #[S0,I 0] :: box g69 43 #[r67_0,I x48.1.bound] :: own (OR.ownS 112 (OR.frz rTerm)) [(aggC (f 34) 0)] x108.1.terms :: X112):=hst
 obtain ⟨u146_0,hv146⟩:=(hP112 8 34 rfl rfl)
 have hren : Star H112 w_ (oF 43 (rCon 112) r32_0 x19.1 :: oF 112 rTerm r67_0 x48.1.terms :: box r7_0 119 #[r7_1,I b79.2] :: box g3 43 #[S0,I 0] :: box g69 43 #[r67_0,I x48.1.bound] :: own (OR.ownS 112 (OR.frz rTerm)) [(aggC (f 34) 0)] x108.1.terms :: X112):=hst
 rw [hv146] at hren
 have hst : Star H112 w_ (oF 43 (rCon 112) r32_0 x19.1 :: oF 112 rTerm r67_0 x48.1.terms :: box r7_0 119 #[r7_1,I b79.2] :: box g3 43 #[S0,I 0] :: box g69 43 #[r67_0,I x48.1.bound] :: oF 112 rTerm u146_0 x108.1.terms :: X112):=hren
 refine L_staB (vs:=#[u146_0,I x108.1.bound]) (cs2:=#[u146_0,I x108.1.bound]) 4 rfl Try.sizeOf43 ((hS112 7 rfl).trans sf7) hv146 rfl (ones_cons (one_len (Star.len 5 hst rfl)) (ones_cons rfl ones_nil)) hst rfl (by show 0 + 2≤2; decide) rfl (fun w147 hst=>?_)
 have hst:=hst.gets [5,5,5,5,5] rfl
 have hst : Star H112 w147 (oF 43 (rCon 112) r32_0 x19.1 :: oF 112 rTerm r67_0 x48.1.terms :: box r7_0 119 #[r7_1,I b79.2] :: box g3 43 #[S0,I 0] :: own (OR.ownS 112 (OR.frz rTerm)) [(aggC (f 34) 0)] x108.1.terms :: box g69 43 #[(aggC (f 34) 0),I x108.1.bound] :: X112):=by rw [hv146]; exact hst
 exact L_nil ⟨rfl,Bo false,_,rfl,Le.refl _,(fun _ h=>nomatch h),hst⟩
 exact opsS_nil
 have hst : Star H112 w_ (oF 43 (rCon 112) r32_0 x19.1 :: oF 112 rTerm r67_0 x48.1.terms :: box r7_0 119 #[r7_1,I b79.2] :: box g3 43 #[S0,I 0] :: own (OR.ownS 112 (OR.frz rTerm)) [(aggC (f 34) 0)] x108.1.terms :: box g69 43 #[(aggC (f 34) 0),I x108.1.bound] :: R):=hst
 refine nn ?_
 obtain ⟨rfl,rfl⟩:=so2 hA93
 have hst:=hst.gets [3,3,5,5,4] rfl
 have hst:=Star.drop 5 hst rfl
 exact rj hR93 ⟨H112,(aggC (f 34) 0),hE112,((hS112 3 rfl).trans sf3),((hS112 5 rfl).trans sf5),((hS112 6 rfl).trans sf6),((hS112 7 rfl).trans sf7),hst⟩
 have hA93:=(ite_f hc94).symm.trans hA93
 refine W_skip ?_
 obtain ⟨rfl,rfl⟩:=so2 hA93
 exact rj hR93 ⟨H32,r67_0,(Le.refl _),sf3,sf5,sf6,sf7,hst⟩
 intro f w_ hR
 obtain ⟨H91,v88_g69_0,l92,sf3,sf5,sf6,sf7,hst⟩:=rk hR93 hR
 refine W_seq ?_
 obtain ⟨x153,hx153,hF⟩:=bind_some hF
 have hst:=hst.gets [3,4,4,4,4] rfl
 refine W_drawS 5 [isV (r32_0),isV (.agg #[v88_g69_0,I g69_1_90]),isV (Pt r7_0),isV (I x153.1),isV (r32_0)] [oF 43 (rCon 112) r32_0 x19.1,oF 112 rTerm v88_g69_0 g69_0_88,box g69 43 #[v88_g69_0,I g69_1_90],box g3 43 #[S0,I 0]] [.base (box r7_0 119 #[r7_1,I b79.2]) (some 3),.made 3 39 (fun v_=>box r7_0 119 #[r7_1,I x153.2]) none] (R) [([],[]),([],[]),([],[]),([0],[1]),([],[])] (S:=[(none,[],some 3),(some 3,[39],none)]) Try_mix (by kernel_rfl) rfl (by kernel_rfl) (amF_cons (mono_V _) (amF_cons (mono_V _) (amF_cons (mono_V _) (amF_cons (mono_V _) (amF_cons (mono_V _) amF_nil))))) hst ?_ (fun f w_ H156 hS156 hE156 hT156 hst=>?_)
 refine opsS_cons (fun f w_ _ _ s _ _ hst=>mF ((s 6 rfl).trans sf6) rfl (nO rfl rfl hst)) (opsS_cons (fun f w_ _ _ s _ _ hst=>L_lda (cs:=[v88_g69_0,I g69_1_90]) rfl Try.isAgg43 Try.sizeOf43 ((s 7 rfl).trans sf7) (At.sub0 (Blk.at (Star.blkAt 2 hst rfl)) 0 2) rfl (nO rfl rfl hst)) (opsS_cons (fun f w_ _ _ s _ _ hst=>mF ((s 5 rfl).trans sf5) rfl (nO rfl rfl hst)) (opsS_cons ?_ ?_)))
 intro f w_ H156 X156 hS156 hE156 hP156 hst
 have hst : Star H156 w_ (oF 43 (rCon 112) r32_0 x19.1 :: oF 112 rTerm v88_g69_0 g69_0_88 :: box g69 43 #[v88_g69_0,I g69_1_90] :: box g3 43 #[S0,I 0] :: box r7_0 119 #[r7_1,I b79.2] :: X156):=hst
 have hst:=hst.get 4 rfl
 obtain ⟨H163b,l164,s165,z166,k167⟩:=hst.lend [_]
 refine L_call rfl Try.call68 (ops1 (hP156 2 38 rfl rfl)) (s_l5Fuel_c (r_:=({ b:=x5.b,p:=b79.2 } : Rd)) s165 (RP.mono _ hr7_1 (Le.trans (Le.trans (Le.trans (Le.trans l30 l32) l92) hE156) l164)) hx153) ?_
 rintro _ w168 ⟨rfl,hst⟩
 have hst:=k167 hst (cb c0)
 have hst:=hst.gets [4,4,4,4] rfl
 exact L_nil ⟨rfl,_,_,rfl,Le.refl _,fun _ _=>rfl,hst⟩
 refine opsS_cons (fun f w_ _ _ _ _ p hst=>aF (p 0 36 rfl rfl) rfl (nO rfl rfl hst)) (opsS_nil)
 have hst : Star H156 w_ (oF 43 (rCon 112) r32_0 x19.1 :: oF 112 rTerm v88_g69_0 g69_0_88 :: box g69 43 #[v88_g69_0,I g69_1_90] :: box g3 43 #[S0,I 0] :: box r7_0 119 #[r7_1,I x153.2] :: R):=hst
 refine L_staB (vs:=#[v88_g69_0,I g69_1_90]) (cs2:=#[v88_g69_0,I g69_1_90]) 3 rfl Try.sizeOf43 ((hS156 3 rfl).trans sf3) (hT156 1 37 rfl rfl) rfl (ones_cons (one_len (Star.len 1 hst rfl)) (ones_cons rfl ones_nil)) hst rfl (by show 0 + 2≤2; decide) rfl (fun w169 hst=>aF (hT156 3 39 rfl rfl) rfl (nn (W_ret (retG3 (v1:=r32_0) (v2:=.agg #[v88_g69_0,I g69_1_90]) (v3:=I x153.1) Try.results26 (hT156 4 2 rfl rfl) (resV_agg Try.isAgg43 Try.sizeOf43 ((hS156 3 rfl).trans sf3) (Star.blkAt 0 hst rfl) rfl) rfl ?_))))
 obtain rfl:=so hF
 have hst:=hst.gets [2,2] rfl
 have hst:=Star.drop 2 hst rfl
 have hst:=Star.drop 2 hst rfl
 have hst:=Star.drop 2 hst rfl
 exact ⟨H156,(Le.trans (Le.trans (Le.trans (Le.trans l7 l30) l32) l92) hE156),r32_0,v88_g69_0,rfl,hst⟩
theorem i_Constraint_total_c {c : Con} {v0_0 : Value} {H : FH} {w : World} (hst : Star H w []) (h0_0 : (rS 112 rTerm).rel H [v0_0] c.terms) {r : Int} (hF : i_Constraint_total c = some r) :
 C Try.prog 118 #[.agg #[v0_0,I c.bound]] w fun v w'=>v = I r∧Star H w' []:=by
 unfold i_Constraint_total at hF
 refine C_enter Try.func118 rfl Try.ntmps118 rfl (sq (L_box (v:=.agg #[v0_0,I c.bound]) (cs:=#[v0_0,I c.bound]) rfl rfl rfl hst (fun g3 w4 hst=>aI rfl (ns (aI rfl (nq (sq (fA 0 fa_43_0 rfl rfl (ldB 0 hst Try.isAgg41 rfl rfl rfl (L_len rfl Try.underlying41 rfl (slice_len h0_0) (mI rfl (nn ?_))))))))))))
 have hlen7 : List.length c.terms≤9223372036854775807:=len_le (slice_len h0_0)
 obtain ⟨j7,hL7,hF⟩:=bind_some hF
 obtain ⟨R7,hR7⟩:=exR fun f w_=>∃ sum_6 : Int,j7 = .nx sum_6∧f 3 = I sum_6∧Star H w_ ([])
 refine W_join R7 ?_ ?_
 refine W_block ?_
 obtain ⟨I7,hI7⟩:=exI fun n f w_=>∃ i_5 : Nat,∃ suf7 : List Term,∃ sum_6 : Int,n = suf7.length∧List.drop i_5 c.terms = suf7∧i_5 + suf7.length = c.terms.length∧rangeL i_Constraint_total_b1 suf7 i_5 sum_6 = some j7∧f 3 = I sum_6∧f 7 = v0_0∧f 8 = I (c.terms.length : Int)∧f 9 = I i_5∧Star H w_ ([])
 refine W_loop I7 (n:=c.terms.length) ?_ ?_
 exact ij hI7 ⟨0,c.terms,0,rfl,rfl,Nat.zero_add _,hL7,rfl,rfl,rfl,rfl,(Star.keepN 0 hst)⟩
 intro n7 f w_ hI
 obtain ⟨i_5,suf7,sum_6,rfl,hd7,hl7,hL7,sf3,sf7,sf8,sf9,hst⟩:=ik hI7 hI
 refine sq (L_lss rfl sf9 sf8 (nq (W_cond (b:=decide ((i_5 : Int) < (c.terms.length : Int))) rfl (fun hc8=>?_) (fun hc8=>?_))))
 have hlt7:=of_decide_eq_true hc8
 rcases suf7 with _ | ⟨x_7,rest7⟩
 exact absurd hlt7 (by simp at hl7; omega)
 obtain ⟨o7,hB7,hL7⟩:=range_cons hL7
 rw [i_Constraint_total_b1] at hB7
 have hix7:=drop_idx hd7
 refine W_skip (W_seq (W_block (sq (L_ix (r:=rTerm) rfl Try.underlying41 Try.sizeOf112 sf7 h0_0 sf9 hix7 (fun g16 o17 cs_g16 hrk_hat18 hat18=>?_)))))
 obtain rfl:=rTerm_iff.1 hrk_hat18
 refine L_lda (cs:=[I x_7.coef,I x_7.lit]) rfl Try.isAgg112 Try.sizeOf112 rfl (At.sub (AtH.at hat18 hst.sub) 0 2) rfl (L_al (cs:=#[I 0,I 0]) rfl Try.zeroValue112 rfl hst (fun g20 w21 hst=>L_staB (vs:=#[I x_7.coef,I x_7.lit]) (cs2:=#[I x_7.coef,I x_7.lit]) 0 rfl Try.sizeOf112 rfl rfl rfl (ones_cons rfl (ones_cons rfl ones_nil)) hst rfl (by show 0 + 2≤2; decide) rfl (fun w22 hst=>nn (W_region (mF sf3 rfl (fA 0 fa_112_0 rfl rfl (ldB 0 hst Try.isAgg3 rfl rfl rfl (L_add rfl rfl rfl (aI rfl (nn (W_region (L_add rfl sf9 rfl (mI rfl (nn ?_))))))))))))))
 obtain rfl:=so hB7
 show ∃ m,m < _∧I7 m _ _
 refine ⟨rest7.length,by simp,?_⟩
 exact ij hI7 ⟨i_5 + 1,rest7,i64 (sum_6 + x_7.coef),rfl,drop_next hd7,by simp at hl7; omega,hL7,rfl,sf7,sf8,(Eq.trans rfl (congrArg (Value.int .i64) (i64_succ (n:=c.terms.length) (by simp at hl7; omega) hlen7))),(Star.keepN 0 hst)⟩
 rcases suf7 with _ | ⟨_,_⟩
 obtain rfl:=range_nil hL7
 refine W_exit (rj hR7 ⟨sum_6,rfl,sf3,hst⟩)
 exact absurd (of_decide_eq_false hc8) (by simp at hl7; omega)
 intro f w_ hR
 obtain ⟨sum_6,rfl,sf3,hst⟩:=rk hR7 hR
 refine sq (mF sf3 rfl (aI rfl (nn (W_ret (retG1 (v1:=I sum_6) Try.results118 rfl ?_)))))
 obtain rfl:=so hF
 exact ⟨rfl,hst⟩
theorem i_Constraint_negation_c {c : Con} {v0_0 : Value} {H : FH} {w : World} (hst : Star H w []) (h0_0 : (rS 112 rTerm).rel H [v0_0] c.terms) {r : Con} (hF : i_Constraint_negation c = some r) :
 C Try.prog 78 #[.agg #[v0_0,I c.bound]] w fun v w'=>∃ (u1 : Value),v = .agg #[u1,I r.bound]∧Star H w' [oF 112 rTerm u1 r.terms]:=by
 unfold i_Constraint_negation at hF
 refine C_enter Try.func78 rfl Try.ntmps78 rfl (sq (L_box (v:=.agg #[v0_0,I c.bound]) (cs:=#[v0_0,I c.bound]) rfl rfl rfl hst (fun g5 w6 hst=>L_al (cs:=#[S0,I 0]) rfl Try.zeroValue43 rfl hst (fun g7 w8 hst=>nq ?_))))
 obtain ⟨x14,hx14,hF⟩:=bind_some hF
 refine W_drawS 9 [isV (.agg #[v0_0,I c.bound]),isV (I x14),isV (Pq g5 1),isV (I c.bound),isV (I (i64 (x14 - c.bound))),isV (I (i64 ((i64 (x14 - c.bound)) + 1))),isV (I (max 0 (i64 ((i64 (x14 - c.bound)) + 1)))),isV (.agg #[S0,I (max 0 (i64 ((i64 (x14 - c.bound)) + 1)))]),anyF] [box g7 43 #[S0,I 0],box g5 43 #[v0_0,I c.bound]] [.made 8 3 (fun v_=>boxV v_ 43 #[S0,I 0]) none] ([]) [([],[]),([],[]),([],[]),([],[]),([],[]),([],[]),([],[]),([],[]),([],[0])] (S:=[(some 8,[3],none)]) Try_mix (by kernel_rfl) rfl (by kernel_rfl) (amF_cons (mono_V _) (amF_cons (mono_V _) (amF_cons (mono_V _) (amF_cons (mono_V _) (amF_cons (mono_V _) (amF_cons (mono_V _) (amF_cons (mono_V _) (amF_cons (mono_V _) (amF_cons (mono_any) amF_nil))))))))) hst ?_ (fun f w_ H19 hS19 hE19 hT19 hst=>?_)
 refine opsS_cons (fun f w_ _ _ s _ _ hst=>L_lda (cs:=[v0_0,I c.bound]) rfl Try.isAgg43 Try.sizeOf43 ((s 1 rfl).trans rfl) (At.sub0 (Blk.at (Star.blkAt 1 hst rfl)) 0 2) rfl (nO rfl rfl hst)) (opsS_cons ?_ ?_)
 intro f w_ H19 X19 hS19 hE19 hP19 hst
 obtain ⟨H28b,l29,s30,z31,k32⟩:=hst.borrow
 refine L_call rfl Try.call118 (ops1 (hP19 0 6 rfl rfl)) (i_Constraint_total_c (c:=c) s30 (RP.mono _ h0_0 (Le.trans hE19 l29)) hx14) ?_
 rintro _ w33 ⟨rfl,hst⟩
 have hst:=k32 hst c0
 exact L_nil ⟨rfl,_,_,rfl,Le.refl _,fun _ _=>rfl,hst⟩
 refine opsS_cons (fun f w_ _ _ s _ _ hst=>fA 1 fa_43_1 ((s 1 rfl).trans rfl) rfl (nO rfl rfl hst)) (opsS_cons (fun f w_ _ _ _ _ p hst=>ldB 1 hst Try.isAgg3 (p 2 8 rfl rfl) rfl rfl (nO rfl rfl hst)) (opsS_cons (fun f w_ _ _ _ _ p hst=>L_sub rfl (p 1 7 rfl rfl) (p 3 9 rfl rfl) (nO rfl rfl hst)) (opsS_cons (fun f w_ _ _ _ _ p hst=>L_add rfl (p 4 10 rfl rfl) rfl (nO rfl rfl hst)) (opsS_cons (fun f w_ _ _ _ _ p hst=>L_max rfl rfl (p 5 11 rfl rfl) (nO rfl rfl hst)) (opsS_cons (fun f w_ _ _ _ _ p hst=>L_bld rfl (parts1 (p 6 12 rfl rfl)) (bld_43_1 (I (max 0 (i64 ((i64 (x14 - c.bound)) + 1)))) rfl) (nO rfl rfl hst)) (opsS_cons ?_ ?_))))))
 intro f w_ H19 X19 hS19 hE19 hP19 hst
 refine L_al (cs:=#[S0,I 0]) rfl Try.zeroValue43 rfl hst (fun g34 w35 hst=>?_)
 have hst:=hst.gets [2,2,2] rfl
 have hst:=Star.boxV (v:=Pt g34) rfl hst
 have hst:=hst.gets [2,2] rfl
 exact L_nil ⟨rfl,_,_,rfl,Le.refl _,fun _ _=>trivial,hst⟩
 exact opsS_nil
 have hst : Star H19 w_ ([box g7 43 #[S0,I 0],box g5 43 #[v0_0,I c.bound],boxV (f 3) 43 #[S0,I 0]]):=hst
 obtain ⟨g36,hv36,hst⟩:=Star.unboxV (Star.get 2 hst rfl)
 refine L_staB (vs:=#[S0,I (max 0 (i64 ((i64 (x14 - c.bound)) + 1)))]) (cs2:=#[S0,I (max 0 (i64 ((i64 (x14 - c.bound)) + 1)))]) 0 rfl Try.sizeOf43 hv36 (hT19 7 13 rfl rfl) rfl (ones_cons rfl (ones_cons rfl ones_nil)) hst rfl (by show 0 + 2≤2; decide) rfl (fun w37 hst=>nq (sq (fA 0 fa_43_0 ((hS19 1 rfl).trans rfl) rfl (ldB 2 hst Try.isAgg41 rfl rfl rfl (L_len rfl Try.underlying41 rfl (slice_len (RP.mono _ h0_0 hE19)) (mI rfl (nn ?_)))))))
 have hlen41 : List.length c.terms≤9223372036854775807:=len_le (slice_len (RP.mono _ h0_0 hE19))
 obtain ⟨j41,hL41,hF⟩:=bind_some hF
 obtain ⟨R41,hR41⟩:=exR fun f w_=>∃ g36_0_39 : List Term,∃ v39_g36_0 : Value,j41 = .nx g36_0_39∧f 2 = Pt g7∧f 3 = Pt g36∧Star H19 w_ ([oF 112 rTerm v39_g36_0 g36_0_39,box g36 43 #[v39_g36_0,I (max 0 (i64 ((i64 (x14 - c.bound)) + 1)))],box g7 43 #[S0,I 0]])
 refine W_join R41 ?_ ?_
 refine W_block ?_
 obtain ⟨I41,hI41⟩:=exI fun n f w_=>∃ i_38 : Nat,∃ suf41 : List Term,∃ g36_0_39 : List Term,∃ v39_g36_0 : Value,n = suf41.length∧List.drop i_38 c.terms = suf41∧i_38 + suf41.length = c.terms.length∧rangeL i_Constraint_negation_b1 suf41 i_38 g36_0_39 = some j41∧f 2 = Pt g7∧f 3 = Pt g36∧f 15 = v0_0∧f 16 = I (c.terms.length : Int)∧f 17 = I i_38∧Star H19 w_ ([oF 112 rTerm v39_g36_0 g36_0_39,box g36 43 #[v39_g36_0,I (max 0 (i64 ((i64 (x14 - c.bound)) + 1)))],box g7 43 #[S0,I 0]])
 have hst:=Star.addNil (R:=(OR.frz rTerm)) (e:=112) hst
 refine W_loop I41 (n:=c.terms.length) ?_ ?_
 exact ij hI41 ⟨0,c.terms,[],S0,rfl,rfl,Nat.zero_add _,hL41,((hS19 2 rfl).trans rfl),hv36,rfl,rfl,rfl,(Star.keepN 3 hst)⟩
 intro n41 f w_ hI
 obtain ⟨i_38,suf41,g36_0_39,v39_g36_0,rfl,hd41,hl41,hL41,sf2,sf3,sf15,sf16,sf17,hst⟩:=ik hI41 hI
 refine sq (L_lss rfl sf17 sf16 (nq (W_cond (b:=decide ((i_38 : Int) < (c.terms.length : Int))) rfl (fun hc43=>?_) (fun hc43=>?_))))
 have hlt41:=of_decide_eq_true hc43
 rcases suf41 with _ | ⟨x_41,rest41⟩
 exact absurd hlt41 (by simp at hl41; omega)
 obtain ⟨o41,hB41,hL41⟩:=range_cons hL41
 rw [i_Constraint_negation_b1] at hB41
 have hix41:=drop_idx hd41
 refine W_skip (W_seq (W_block (sq (L_ix (r:=rTerm) rfl Try.underlying41 Try.sizeOf112 sf15 (RP.mono _ h0_0 hE19) sf17 hix41 (fun g51 o52 cs_g51 hrk_hat53 hat53=>?_)))))
 obtain rfl:=rTerm_iff.1 hrk_hat53
 refine L_lda (cs:=[I x_41.coef,I x_41.lit]) rfl Try.isAgg112 Try.sizeOf112 rfl (At.sub (AtH.at hat53 hst.sub) 0 2) rfl (L_al (cs:=#[I 0,I 0]) rfl Try.zeroValue112 rfl hst (fun g55 w56 hst=>L_staB (vs:=#[I x_41.coef,I x_41.lit]) (cs2:=#[I x_41.coef,I x_41.lit]) 0 rfl Try.sizeOf112 rfl rfl rfl (ones_cons rfl (ones_cons rfl ones_nil)) hst rfl (by show 0 + 2≤2; decide) rfl (fun w57 hst=>nn ?_)))
 obtain ⟨x61,hx61,hB41⟩:=bind_some hB41
 refine W_region (fA 0 fa_43_0 sf3 rfl (ldB 2 hst Try.isAgg41 rfl rfl rfl (fA 0 fa_112_0 rfl rfl (ldB 0 hst Try.isAgg3 rfl rfl rfl (fA 1 fa_112_1 rfl rfl (ldB 0 hst Try.isAgg3 rfl rfl rfl (L_neg rfl rfl (L_bld rfl (parts2 rfl rfl) (bld_112_0_1 (I x_41.coef) (I (i64 (-x_41.lit))) rfl rfl) (L_bs rfl (parts1 rfl) (bs_41_1_2 (I x_41.coef) (I (i64 (-x_41.lit))) ) hst (fun g66 w67 hst=>?_))))))))))
 have hst:=Star.addF (r:=rTerm) (cs:=[I x_41.coef,I (i64 (-x_41.lit))]) (x:=({ coef:=x_41.coef,lit:=i64 (-x_41.lit) } : Term)) hst (rTerm_iff.2 rfl)
 have hst:=Star.mkRow (R:=(OR.frz rTerm)) [([I x_41.coef,I (i64 (-x_41.lit))],({ coef:=x_41.coef,lit:=i64 (-x_41.lit) } : Term))] [({ coef:=x_41.coef,lit:=i64 (-x_41.lit) } : Term)] 1 hst rfl rfl rfl (by decide)
 have hst:=hst.get 2 rfl
 refine L_appM (v:=v39_g36_0) (u:=(Sl g66 1 1)) rfl et_41 rfl rfl hst hx61 (fun v69 w70 hst=>fA 0 fa_43_0 sf3 rfl (L_stB (v:=v69) (cs2:=#[v69,I (max 0 (i64 ((i64 (x14 - c.bound)) + 1)))]) 2 rfl Try.sizeOf41 rfl rfl (one_len (Star.len 0 hst rfl)) hst rfl rfl rfl (fun w72 hst=>nn (W_region (L_add rfl sf17 rfl (mI rfl (nn ?_)))))))
 obtain rfl:=so hB41
 have hst:=hst.gets [3,1,2] rfl
 show ∃ m,m < _∧I41 m _ _
 refine ⟨rest41.length,by simp,?_⟩
 exact ij hI41 ⟨i_38 + 1,rest41,x61,v69,rfl,drop_next hd41,by simp at hl41; omega,hL41,sf2,sf3,sf15,sf16,(Eq.trans rfl (congrArg (Value.int .i64) (i64_succ (n:=c.terms.length) (by simp at hl41; omega) hlen41))),(Star.keepN 3 hst)⟩
 rcases suf41 with _ | ⟨_,_⟩
 obtain rfl:=range_nil hL41
 refine W_exit (rj hR41 ⟨g36_0_39,v39_g36_0,rfl,sf2,sf3,hst⟩)
 exact absurd (of_decide_eq_false hc43) (by simp at hl41; omega)
 intro f w_ hR
 obtain ⟨g36_0_39,v39_g36_0,rfl,sf2,sf3,hst⟩:=rk hR41 hR
 refine sq (L_lda (cs:=[v39_g36_0,I (max 0 (i64 ((i64 (x14 - c.bound)) + 1)))]) rfl Try.isAgg43 Try.sizeOf43 sf3 (At.sub0 (Blk.at (Star.blkAt 1 hst rfl)) 0 2) rfl (L_staB (vs:=#[v39_g36_0,I (max 0 (i64 ((i64 (x14 - c.bound)) + 1)))]) (cs2:=#[v39_g36_0,I (max 0 (i64 ((i64 (x14 - c.bound)) + 1)))]) 2 rfl Try.sizeOf43 sf2 rfl rfl (ones_cons (one_len (Star.len 0 hst rfl)) (ones_cons rfl ones_nil)) hst rfl (by show 0 + 2≤2; decide) rfl (fun w74 hst=>nn (W_ret (retG1 (v1:=.agg #[v39_g36_0,I (max 0 (i64 ((i64 (x14 - c.bound)) + 1)))]) Try.results78 (resV_agg Try.isAgg43 Try.sizeOf43 sf2 (Star.blkAt 0 hst rfl) rfl) ?_)))))
 obtain rfl:=so hF
 have hst:=hst.get 1 rfl
 exact ⟨v39_g36_0,rfl,(Star.down (Star.keepN 1 hst) hE19 (co closed_term c0))⟩
theorem i_ProveConstraint_c {fu : Nat} {list : List Con} {c : Con} {fuel : Int} {v0 : Value} {v1_0 : Value} {H : FH} {w : World} (hst : Star H w []) (h0 : (rS 43 (rCon 112)).rel H [v0] list) (h1_0 : (rS 112 rTerm).rel H [v1_0] c.terms) {r : Int × (List Bool) × (List Step)} (hF : i_ProveConstraint fu list c fuel = some r) :
 C Try.prog 28 #[v0,.agg #[v1_0,I c.bound],I fuel] w fun v w'=>∃ (u1 : Value) (u2 : Value),v = .tuple #[I r.1,u1,u2]∧Star H w' [oF 4 RP.bool u1 r.2.1,oS 93 (oStep 112) u2 r.2.2]:=by
 unfold i_ProveConstraint at hF
 refine C_enter Try.func28 rfl Try.ntmps28 rfl (sq (L_box (v:=.agg #[v1_0,I c.bound]) (cs:=#[v1_0,I c.bound]) rfl rfl rfl hst (fun g3 w4 hst=>aI rfl (aV S0 rfl (aV S0 rfl (nq (W_seq ?_)))))))
 obtain ⟨x10,hx10,hF⟩:=bind_some hF
 obtain ⟨R12,hR12⟩:=exR fun f w_=>f 0 = v0∧f 2 = I fuel∧f 4 = Pt g3∧f 16 = Bo ((!x10) || (decide ((list.length : Int) ≥ 400)))∧Star H w_ ([box g3 43 #[v1_0,I c.bound]])
 refine W_join R12 ?_ ?_
 refine W_region (L_lda (cs:=[v1_0,I c.bound]) rfl Try.isAgg43 Try.sizeOf43 rfl (At.sub0 (Blk.at (Star.blkAt 0 hst rfl)) 0 2) rfl ?_)
 obtain ⟨H13b,l14,s15,z16,k17⟩:=hst.borrow
 refine L_call rfl Try.call52 (ops1 rfl) (i_ConstraintValid_c (c:=c) s15 (RP.mono _ h1_0 l14) hx10) ?_
 rintro _ w18 ⟨rfl,hst⟩
 have hst:=k17 hst c0
 refine L_not_ rfl rfl (mB rfl (L_split (d:=12) (b:=(!x10)) rfl (fun hc19=>?_) (fun hc19=>?_)))
 refine ps rfl (ps rfl (ps rfl (L_pick (v:=Bo ((!x10) || (decide ((list.length : Int) ≥ 400)))) rfl rfl (or_t hc19) (nn (rj hR12 ⟨rfl,rfl,rfl,rfl,hst⟩)))))
 refine mV v0 rfl (L_len rfl Try.underlying23 rfl (slice_len h0) (L_geq rfl rfl rfl (L_pick (v:=Bo ((!x10) || (decide ((list.length : Int) ≥ 400)))) rfl rfl (or_f hc19 rfl) (nn (rj hR12 ⟨rfl,rfl,rfl,rfl,hst⟩)))))
 intro f w_ hR
 obtain ⟨sf0,sf2,sf4,sf16,hst⟩:=rk hR12 hR
 refine W_cond (b:=((!x10) || (decide ((list.length : Int) ≥ 400)))) sf16 (fun hc20=>?_) (fun hc20=>?_)
 have hF:=(ite_t hc20).symm.trans hF
 refine sq (aI rfl (aV S0 rfl (aV S0 rfl (nn (W_ret (retG3 (v1:=I 3) (v2:=S0) (v3:=S0) Try.results28 rfl rfl rfl ?_))))))
 obtain rfl:=so hF
 have hst:=Star.addNil (R:=(OR.frz RP.bool)) (e:=4) hst
 have hst:=Star.addNil (R:=(oStep 112)) (e:=93) hst
 have hst:=hst.get 1 rfl
 exact ⟨S0,S0,rfl,(Star.keepN 2 hst)⟩
 have hF:=(ite_f hc20).symm.trans hF
 refine W_skip (W_seq ?_)
 obtain ⟨x23,hx23,hF⟩:=bind_some hF
 obtain ⟨x31,hx31,hF⟩:=bind_some hF
 obtain ⟨x37,hx37,hF⟩:=bind_some hF
 obtain ⟨x49,hx49,hF⟩:=bind_some hF
 refine W_drawS 11 [isV (v0),anyF,isV (.agg #[v1_0,I c.bound]),exA fun u_0=>isV (.agg #[u_0,I x31.bound]),anyF,anyF,isV (I fuel),tup3 (isV (I x49.1)) (anyF) (anyF),isV (I x49.1),anyF,anyF] [box g3 43 #[v1_0,I c.bound]] [.made 1 18 (fun v_=>oF 43 (rCon 112) v_ x23) (some 5),.made 3 20 (fun v_=>oF 112 rTerm (aggC v_ 0) x31.terms) (some 4),.made 4 21 (fun v_=>oS 43 (oCon 112) v_ ([x31])) (some 5),.made 5 22 (fun v_=>oF 43 (rCon 112) v_ x37) none,.made 7 24 (fun v_=>oF 4 RP.bool (tupC v_ 1) x49.2.1) (some 9),.made 7 24 (fun v_=>oS 93 (oStep 112) (tupC v_ 2) x49.2.2) (some 10),.made 9 26 (fun v_=>oF 4 RP.bool v_ x49.2.1) none,.made 10 27 (fun v_=>oS 93 (oStep 112) v_ x49.2.2) none] ([]) [([],[]),([],[0]),([],[]),([],[1]),([1],[2]),([0,2],[3]),([],[]),([3],[3,4,5]),([],[]),([4],[6]),([5],[7])] (S:=[(some 1,[18],some 5),(some 3,[20],some 4),(some 4,[21],some 5),(some 5,[22],none),(some 7,[24],some 9),(some 7,[24],some 10),(some 9,[26],none),(some 10,[27],none)]) Try_mix (by kernel_rfl) rfl (by kernel_rfl) (amF_cons (mono_V _) (amF_cons (mono_any) (amF_cons (mono_V _) (amF_cons (mono_exA fun _=>mono_V _) (amF_cons (mono_any) (amF_cons (mono_any) (amF_cons (mono_V _) (amF_cons (mono_tup3 (mono_V _) (mono_any) (mono_any)) (amF_cons (mono_V _) (amF_cons (mono_any) (amF_cons (mono_any) amF_nil))))))))))) hst ?_ (fun f w_ H53 hS53 hE53 hT53 hst=>?_)
 refine opsS_cons (fun f w_ _ _ s _ _ hst=>mF ((s 0 rfl).trans sf0) rfl (nO rfl rfl hst)) (opsS_cons ?_ ?_)
 intro f w_ H53 X53 hS53 hE53 hP53 hst
 refine L_call rfl Try.call66 (ops1 (hP53 0 17 rfl rfl)) (slices_Clone_implConstraint_c (s:=list) hst (RP.mono _ h0 hE53) hx23) ?_
 rintro r80_0 w80 ⟨H80,l80,_,rfl,hst⟩
 have hst:=hst.get 1 rfl
 exact L_nil ⟨rfl,_,_,rfl,l80,fun _ _=>trivial,hst⟩
 refine opsS_cons (fun f w_ _ _ s _ _ hst=>L_lda (cs:=[v1_0,I c.bound]) rfl Try.isAgg43 Try.sizeOf43 ((s 4 rfl).trans sf4) (At.sub0 (Blk.at (Star.blkAt 0 hst rfl)) 0 2) rfl (nO rfl rfl hst)) (opsS_cons ?_ ?_)
 intro f w_ H53 X53 hS53 hE53 hP53 hst
 obtain ⟨H82b,l83,s84,z85,k86⟩:=hst.borrow
 refine L_call rfl Try.call78 (ops1 (hP53 2 19 rfl rfl)) (i_Constraint_negation_c (c:=c) s84 (RP.mono _ h1_0 (Le.trans hE53 l83)) hx31) ?_
 rintro _ w87 ⟨r87_0,rfl,hst⟩
 have hst:=k86 hst (co closed_term c0)
 have hst:=hst.get 1 rfl
 exact L_nil ⟨rfl,_,_,rfl,Le.refl _,fun _ _=>⟨_,rfl⟩,hst⟩
 refine opsS_cons ?_ ?_
 intro f w_ H53 X53 hS53 hE53 hP53 hst
 have hst : Star H53 w_ (box g3 43 #[v1_0,I c.bound] :: own (OR.ownS 112 (OR.frz rTerm)) [(aggC (f 20) 0)] x31.terms :: X53):=hst
 obtain ⟨u89_0,hv89⟩:=(hP53 3 20 rfl rfl)
 have hren : Star H53 w_ (box g3 43 #[v1_0,I c.bound] :: own (OR.ownS 112 (OR.frz rTerm)) [(aggC (f 20) 0)] x31.terms :: X53):=hst
 rw [hv89] at hren
 have hst : Star H53 w_ (box g3 43 #[v1_0,I c.bound] :: oF 112 rTerm u89_0 x31.terms :: X53):=hren
 refine L_bs rfl (parts1 hv89) (bs_23_1_2 (u89_0) (I x31.bound) ) hst (fun g90 w91 hst=>?_)
 have hst:=hst.get 2 rfl
 have hst:=oCon_close (c:=x31) hst
 have hst:=Star.mkRow (R:=(oCon 112)) [([u89_0,I x31.bound],x31)] [x31] 1 hst rfl rfl rfl (by decide)
 have hst:=hst.get 1 rfl
 exact L_nil ⟨rfl,_,_,rfl,Le.refl _,fun _ _=>trivial,hst⟩
 refine opsS_cons ?_ ?_
 intro f w_ H53 X53 hS53 hE53 hP53 hst
 have hst : Star H53 w_ (box g3 43 #[v1_0,I c.bound] :: oF 43 (rCon 112) (f 18) x23 :: oS 43 (oCon 112) (f 21) ([x31]) :: X53):=hst
 have hst:=hst.get 2 rfl
 obtain ⟨H95,l96,hst⟩:=Star.shallow hst
 have hst : Star H95 w_ (oF 43 (rCon 112) (f 21) ([x31]) :: _):=hst
 have hst:=hst.get 2 rfl
 refine L_appM (v:=(f 18)) (u:=(f 21)) rfl et_23 rfl rfl hst hx37 (fun v97 w98 hst=>?_)
 have hst:=hst.get 1 rfl
 exact L_nil ⟨rfl,_,_,rfl,l96,fun _ _=>trivial,hst⟩
 refine opsS_cons (fun f w_ _ _ s _ _ hst=>mF ((s 2 rfl).trans sf2) rfl (nO rfl rfl hst)) (opsS_cons ?_ ?_)
 intro f w_ H53 X53 hS53 hE53 hP53 hst
 have hst : Star H53 w_ (box g3 43 #[v1_0,I c.bound] :: oF 43 (rCon 112) (f 22) x37 :: X53):=hst
 obtain ⟨H101b,l102,s103,z104,k105⟩:=hst.borrow
 have hb106 : (rS 43 (rCon 112)).rel H101b [(f 22)] x37:=fz_own 1 z104 rfl
 refine L_call rfl Try.call17 (ops2 rfl (hP53 6 23 rfl rfl)) (i_SolveProblem_c (list:=x37) (fuel:=fuel) s103 hb106 hx49) ?_
 rintro _ w107 ⟨r107_0,r107_1,rfl,hst⟩
 have hst:=k105 hst (co closed_bool (co closed_oStep c0))
 have hst:=hst.gets [1,1,3,3] rfl
 exact L_nil ⟨rfl,_,_,rfl,Le.refl _,fun _ _=>⟨_,_,_,rfl,rfl,trivial,trivial⟩,hst⟩
 refine opsS_cons ?_ ?_
 intro f w_ H53 X53 hS53 hE53 hP53 hst
 obtain ⟨a110_0,a110_1,a110_2,hv110,ht110_0,ht110_1,ht110_2⟩:=(hP53 7 24 rfl rfl)
 obtain rfl:=ht110_0
 refine L_ex (v:=I x49.1) rfl hv110 rfl (L_nil ⟨rfl,_,_,rfl,Le.refl _,fun _ _=>rfl,hst⟩)
 refine opsS_cons ?_ ?_
 intro f w_ H53 X53 hS53 hE53 hP53 hst
 have hst : Star H53 w_ (box g3 43 #[v1_0,I c.bound] :: own (OR.ownS 4 (OR.frz RP.bool)) [(tupC (f 24) 1)] x49.2.1 :: X53):=hst
 obtain ⟨a111_0,a111_1,a111_2,hv111,ht111_0,ht111_1,ht111_2⟩:=(hP53 7 24 rfl rfl)
 obtain rfl:=ht111_0
 have hren : Star H53 w_ (box g3 43 #[v1_0,I c.bound] :: own (OR.ownS 4 (OR.frz RP.bool)) [(tupC (f 24) 1)] x49.2.1 :: X53):=hst
 rw [hv111] at hren
 have hst : Star H53 w_ (box g3 43 #[v1_0,I c.bound] :: oF 4 RP.bool a111_1 x49.2.1 :: X53):=hren
 refine L_ex (v:=a111_1) rfl hv111 rfl (L_nil ⟨rfl,_,_,rfl,Le.refl _,fun _ _=>trivial,hst⟩)
 refine opsS_cons ?_ ?_
 intro f w_ H53 X53 hS53 hE53 hP53 hst
 have hst : Star H53 w_ (box g3 43 #[v1_0,I c.bound] :: own (OR.ownS 93 (oStep 112)) [(tupC (f 24) 2)] x49.2.2 :: X53):=hst
 obtain ⟨a112_0,a112_1,a112_2,hv112,ht112_0,ht112_1,ht112_2⟩:=(hP53 7 24 rfl rfl)
 obtain rfl:=ht112_0
 have hren : Star H53 w_ (box g3 43 #[v1_0,I c.bound] :: own (OR.ownS 93 (oStep 112)) [(tupC (f 24) 2)] x49.2.2 :: X53):=hst
 rw [hv112] at hren
 have hst : Star H53 w_ (box g3 43 #[v1_0,I c.bound] :: oS 93 (oStep 112) a112_2 x49.2.2 :: X53):=hren
 refine L_ex (v:=a112_2) rfl hv112 rfl (L_nil ⟨rfl,_,_,rfl,Le.refl _,fun _ _=>trivial,hst⟩)
 exact opsS_nil
 have hst : Star H53 w_ ([box g3 43 #[v1_0,I c.bound],oF 43 (rCon 112) (f 22) x37,oF 4 RP.bool (f 26) x49.2.1,oS 93 (oStep 112) (f 27) x49.2.2]):=hst
 refine aF (hT53 8 25 rfl rfl) rfl (aV (f 26) rfl (aV (f 27) rfl (nn (W_ret (retG3 (v1:=I x49.1) (v2:=(f 26)) (v3:=(f 27)) Try.results28 rfl rfl rfl ?_)))))
 obtain rfl:=so hF
 have hst:=hst.gets [3,3] rfl
 exact ⟨(f 26),(f 27),rfl,(Star.down (Star.keepN 2 hst) hE53 (co closed_bool (co closed_oStep c0)))⟩
theorem s_NegateConstraint_c {c : Con} {v0_0 : Value} {H : FH} {w : World} (hst : Star H w []) (h0_0 : (rS 112 rTerm).rel H [v0_0] c.terms) {r : Con × Bool} (hF : s_NegateConstraint c = some r) :
 C Try.prog 79 #[.agg #[v0_0,I c.bound]] w fun v w'=>∃ (u1 : Value),v = .tuple #[.agg #[u1,I r.1.bound],Bo r.2]∧Star H w' [oF 112 rTerm u1 r.1.terms]:=by
 unfold s_NegateConstraint at hF
 refine C_enter Try.func79 rfl Try.ntmps79 rfl (sq (L_box (v:=.agg #[v0_0,I c.bound]) (cs:=#[v0_0,I c.bound]) rfl rfl rfl hst (fun g5 w6 hst=>L_al (cs:=#[S0,I 0]) rfl Try.zeroValue43 rfl hst (fun g7 w8 hst=>aB rfl (nq (W_seq ?_))))))
 obtain ⟨x14,hx14,hF⟩:=bind_some hF
 refine W_region (L_lda (cs:=[v0_0,I c.bound]) rfl Try.isAgg43 Try.sizeOf43 rfl (At.sub0 (Blk.at (Star.blkAt 1 hst rfl)) 0 2) rfl ?_)
 obtain ⟨H16b,l17,s18,z19,k20⟩:=hst.borrow
 refine L_call rfl Try.call77 (ops1 rfl) (s_ConstraintValid_c (c:=c) s18 (RP.mono _ h0_0 l17) hx14) ?_
 rintro _ w21 ⟨rfl,hst⟩
 have hst:=k20 hst c0
 refine L_not_ rfl rfl (nn (W_cond (b:=(!x14)) rfl (fun hc22=>?_) (fun hc22=>?_)))
 have hF:=(ite_t hc22).symm.trans hF
 refine sq (L_bld rfl (parts0 ) (bld_43_  ) (L_staB (vs:=#[S0,I 0]) (cs2:=#[S0,I 0]) 0 rfl Try.sizeOf43 rfl rfl rfl (ones_cons rfl (ones_cons rfl ones_nil)) hst rfl (by show 0 + 2≤2; decide) rfl (fun w24 hst=>aB rfl (nn (W_ret (retG2 (v1:=.agg #[S0,I 0]) (v2:=Bo false) Try.results79 (resV_agg Try.isAgg43 Try.sizeOf43 rfl (Star.blkAt 0 hst rfl) rfl) rfl ?_))))))
 obtain rfl:=so hF
 have hst:=Star.addNil (R:=(OR.frz rTerm)) (e:=112) hst
 exact ⟨S0,rfl,(Star.keepN 1 hst)⟩
 have hF:=(ite_f hc22).symm.trans hF
 refine W_skip (W_seq ?_)
 obtain ⟨x31,hx31,hF⟩:=bind_some hF
 refine W_drawS 8 [isV (.agg #[v0_0,I c.bound]),isV (I x31),isV (Pq g5 1),isV (I c.bound),isV (I (i64 (x31 - c.bound))),isV (I (i64 ((i64 (x31 - c.bound)) + 1))),isV (.agg #[S0,I (i64 ((i64 (x31 - c.bound)) + 1))]),anyF] [box g7 43 #[S0,I 0],box g5 43 #[v0_0,I c.bound]] [.made 7 4 (fun v_=>boxV v_ 43 #[S0,I 0]) none] ([]) [([],[]),([],[]),([],[]),([],[]),([],[]),([],[]),([],[]),([],[0])] (S:=[(some 7,[4],none)]) Try_mix (by kernel_rfl) rfl (by kernel_rfl) (amF_cons (mono_V _) (amF_cons (mono_V _) (amF_cons (mono_V _) (amF_cons (mono_V _) (amF_cons (mono_V _) (amF_cons (mono_V _) (amF_cons (mono_V _) (amF_cons (mono_any) amF_nil)))))))) hst ?_ (fun f w_ H36 hS36 hE36 hT36 hst=>?_)
 refine opsS_cons (fun f w_ _ _ s _ _ hst=>L_lda (cs:=[v0_0,I c.bound]) rfl Try.isAgg43 Try.sizeOf43 ((s 1 rfl).trans rfl) (At.sub0 (Blk.at (Star.blkAt 1 hst rfl)) 0 2) rfl (nO rfl rfl hst)) (opsS_cons ?_ ?_)
 intro f w_ H36 X36 hS36 hE36 hP36 hst
 obtain ⟨H45b,l46,s47,z48,k49⟩:=hst.borrow
 refine L_call rfl Try.call104 (ops1 (hP36 0 10 rfl rfl)) (s_l1Total_c (c:=c) s47 (RP.mono _ h0_0 (Le.trans hE36 l46)) hx31) ?_
 rintro _ w50 ⟨rfl,hst⟩
 have hst:=k49 hst c0
 exact L_nil ⟨rfl,_,_,rfl,Le.refl _,fun _ _=>rfl,hst⟩
 refine opsS_cons (fun f w_ _ _ s _ _ hst=>fA 1 fa_43_1 ((s 1 rfl).trans rfl) rfl (nO rfl rfl hst)) (opsS_cons (fun f w_ _ _ _ _ p hst=>ldB 1 hst Try.isAgg3 (p 2 12 rfl rfl) rfl rfl (nO rfl rfl hst)) (opsS_cons (fun f w_ _ _ _ _ p hst=>L_sub rfl (p 1 11 rfl rfl) (p 3 13 rfl rfl) (nO rfl rfl hst)) (opsS_cons (fun f w_ _ _ _ _ p hst=>L_add rfl (p 4 14 rfl rfl) rfl (nO rfl rfl hst)) (opsS_cons (fun f w_ _ _ _ _ p hst=>L_bld rfl (parts1 (p 5 15 rfl rfl)) (bld_43_1 (I (i64 ((i64 (x31 - c.bound)) + 1))) rfl) (nO rfl rfl hst)) (opsS_cons ?_ ?_)))))
 intro f w_ H36 X36 hS36 hE36 hP36 hst
 refine L_al (cs:=#[S0,I 0]) rfl Try.zeroValue43 rfl hst (fun g51 w52 hst=>?_)
 have hst:=hst.gets [2,2,2] rfl
 have hst:=Star.boxV (v:=Pt g51) rfl hst
 have hst:=hst.gets [2,2] rfl
 exact L_nil ⟨rfl,_,_,rfl,Le.refl _,fun _ _=>trivial,hst⟩
 exact opsS_nil
 have hst : Star H36 w_ ([box g7 43 #[S0,I 0],box g5 43 #[v0_0,I c.bound],boxV (f 4) 43 #[S0,I 0]]):=hst
 obtain ⟨g53,hv53,hst⟩:=Star.unboxV (Star.get 2 hst rfl)
 refine L_staB (vs:=#[S0,I (i64 ((i64 (x31 - c.bound)) + 1))]) (cs2:=#[S0,I (i64 ((i64 (x31 - c.bound)) + 1))]) 0 rfl Try.sizeOf43 hv53 (hT36 6 16 rfl rfl) rfl (ones_cons rfl (ones_cons rfl ones_nil)) hst rfl (by show 0 + 2≤2; decide) rfl (fun w54 hst=>nq (sq (aI rfl (nn ?_))))
 have hlen60 : List.length c.terms≤9223372036854775807:=len_le (slice_len (RP.mono _ h0_0 hE36))
 obtain ⟨j60,hL60,hF⟩:=bind_some hF
 obtain ⟨R60,hR60⟩:=exR fun f w_=>∃ g53_0_56 : List Term,∃ H58 : FH,∃ v56_g53_0 : Value,j60 = .nx g53_0_56∧Le H36 H58∧f 2 = Pt g7∧f 4 = Pt g53∧Star H58 w_ ([oF 112 rTerm v56_g53_0 g53_0_56,box g53 43 #[v56_g53_0,I (i64 ((i64 (x31 - c.bound)) + 1))],box g7 43 #[S0,I 0]])
 refine W_join R60 ?_ ?_
 refine W_block ?_
 obtain ⟨I60,hI60⟩:=exI fun n f w_=>∃ i_55 : Nat,∃ suf60 : List Term,∃ g53_0_56 : List Term,∃ H58 : FH,∃ v56_g53_0 : Value,n = suf60.length∧List.drop i_55 c.terms = suf60∧i_55 + suf60.length = c.terms.length∧rangeL s_NegateConstraint_b1 suf60 i_55 g53_0_56 = some j60∧Le H36 H58∧f 1 = Pt g5∧f 2 = Pt g7∧f 4 = Pt g53∧f 5 = I i_55∧Star H58 w_ ([oF 112 rTerm v56_g53_0 g53_0_56,box g53 43 #[v56_g53_0,I (i64 ((i64 (x31 - c.bound)) + 1))],box g7 43 #[S0,I 0],box g5 43 #[v0_0,I c.bound]])
 have hst:=Star.addNil (R:=(OR.frz rTerm)) (e:=112) hst
 refine W_loop I60 (n:=c.terms.length) ?_ ?_
 exact ij hI60 ⟨0,c.terms,[],H36,S0,rfl,rfl,Nat.zero_add _,hL60,(Le.refl _),((hS36 1 rfl).trans rfl),((hS36 2 rfl).trans rfl),hv53,rfl,hst⟩
 intro n60 f w_ hI
 obtain ⟨i_55,suf60,g53_0_56,H58,v56_g53_0,rfl,hd60,hl60,hL60,l59,sf1,sf2,sf4,sf5,hst⟩:=ik hI60 hI
 refine W_seq (sq (mF sf5 rfl (fA 0 fa_43_0 sf1 rfl (ldB 3 hst Try.isAgg41 rfl rfl rfl (L_len rfl Try.underlying41 rfl (slice_len (RP.mono _ h0_0 (Le.trans hE36 l59))) (L_lss rfl rfl rfl (nn (W_cond (b:=decide ((i_55 : Int) < (c.terms.length : Int))) rfl (fun hc62=>?_) (fun hc62=>?_)))))))))
 have hlt60:=of_decide_eq_true hc62
 rcases suf60 with _ | ⟨x_60,rest60⟩
 exact absurd hlt60 (by simp at hl60; omega)
 obtain ⟨o60,hB60,hL60⟩:=range_cons hL60
 rw [s_NegateConstraint_b1] at hB60
 have hix60:=drop_idx hd60
 refine W_skip (W_seq (W_block ?_))
 obtain ⟨x74,hx74,hB60⟩:=bind_some hB60
 refine W_drawS 17 [isV (Pt g53),isV (v56_g53_0),isV (Pt g5),isV (v0_0),isV (I i_55),isEl rTerm x_60 0,isEl rTerm x_60 0,isV (I x_60.coef),isV (Pt g5),isV (v0_0),isV (I i_55),isEl rTerm x_60 0,isEl rTerm x_60 1,isV (I x_60.lit),isV (I (i64 (-x_60.lit))),isV (.agg #[I x_60.coef,I (i64 (-x_60.lit))]),anyF] [oF 112 rTerm v56_g53_0 g53_0_56,box g53 43 #[v56_g53_0,I (i64 ((i64 (x31 - c.bound)) + 1))],box g7 43 #[S0,I 0],box g5 43 #[v0_0,I c.bound]] [.made 16 40 (fun v_=>oF 112 rTerm v_ ([({ coef:=x_60.coef,lit:=i64 (-x_60.lit) } : Term)])) none] ([]) [([],[]),([],[]),([],[]),([],[]),([],[]),([],[]),([],[]),([],[]),([],[]),([],[]),([],[]),([],[]),([],[]),([],[]),([],[]),([],[]),([],[0])] (S:=[(some 16,[40],none)]) Try_mix (by kernel_rfl) rfl (by kernel_rfl) (amF_cons (mono_V _) (amF_cons (mono_V _) (amF_cons (mono_V _) (amF_cons (mono_V _) (amF_cons (mono_V _) (amF_cons (mono_el _ _ _) (amF_cons (mono_el _ _ _) (amF_cons (mono_V _) (amF_cons (mono_V _) (amF_cons (mono_V _) (amF_cons (mono_V _) (amF_cons (mono_el _ _ _) (amF_cons (mono_el _ _ _) (amF_cons (mono_V _) (amF_cons (mono_V _) (amF_cons (mono_V _) (amF_cons (mono_any) amF_nil))))))))))))))))) hst ?_ (fun f w_ H79 hS79 hE79 hT79 hst=>?_)
 refine opsS_cons (fun f w_ _ _ s _ _ hst=>fA 0 fa_43_0 ((s 4 rfl).trans sf4) rfl (nO rfl rfl hst)) (opsS_cons (fun f w_ _ _ _ _ p hst=>ldB 1 hst Try.isAgg41 (p 0 24 rfl rfl) rfl rfl (nO rfl rfl hst)) (opsS_cons (fun f w_ _ _ s _ _ hst=>fA 0 fa_43_0 ((s 1 rfl).trans sf1) rfl (nO rfl rfl hst)) (opsS_cons (fun f w_ _ _ _ _ p hst=>ldB 3 hst Try.isAgg41 (p 2 26 rfl rfl) rfl rfl (nO rfl rfl hst)) (opsS_cons (fun f w_ _ _ s _ _ hst=>mF ((s 5 rfl).trans sf5) rfl (nO rfl rfl hst)) (opsS_cons ?_ ?_)))))
 intro f w_ H79 X79 hS79 hE79 hP79 hst
 refine L_ix (r:=rTerm) rfl Try.underlying41 Try.sizeOf112 (hP79 3 27 rfl rfl) (RP.mono _ h0_0 (Le.trans (Le.trans hE36 l59) hE79)) (hP79 4 28 rfl rfl) hix60 (fun g91 o92 cs_g91 hrk_hat93 hat93=>?_)
 obtain rfl:=rTerm_iff.1 hrk_hat93
 exact L_nil ⟨rfl,_,_,rfl,Le.refl _,fun _ _=>⟨_,_,_,rfl,hrk_hat93,hat93⟩,hst⟩
 refine opsS_cons ?_ ?_
 intro f w_ H79 X79 hS79 hE79 hP79 hst
 obtain ⟨g95,o95,cs95,hv95,hrk_hat95,hat95⟩:=(hP79 5 29 rfl rfl)
 obtain rfl:=rTerm_iff.1 hrk_hat95
 refine fA o95 fa_112_0 hv95 rfl (L_nil ⟨rfl,_,_,rfl,Le.refl _,fun _ _=>⟨_,_,_,rfl,hrk_hat95,hat95⟩,hst⟩)
 refine opsS_cons ?_ ?_
 intro f w_ H79 X79 hS79 hE79 hP79 hst
 obtain ⟨g97,o97,cs97,hv97,hrk_hat97,hat97⟩:=(hP79 6 30 rfl rfl)
 obtain rfl:=rTerm_iff.1 hrk_hat97
 refine L_ld rfl Try.isAgg3 hv97 (At.cell (AtH.at hat97 hst.sub) (j:=0) rfl) (L_nil ⟨rfl,_,_,rfl,Le.refl _,fun _ _=>rfl,hst⟩)
 refine opsS_cons (fun f w_ _ _ s _ _ hst=>fA 0 fa_43_0 ((s 1 rfl).trans sf1) rfl (nO rfl rfl hst)) (opsS_cons (fun f w_ _ _ _ _ p hst=>ldB 3 hst Try.isAgg41 (p 8 32 rfl rfl) rfl rfl (nO rfl rfl hst)) (opsS_cons (fun f w_ _ _ s _ _ hst=>mF ((s 5 rfl).trans sf5) rfl (nO rfl rfl hst)) (opsS_cons ?_ ?_)))
 intro f w_ H79 X79 hS79 hE79 hP79 hst
 refine L_ix (r:=rTerm) rfl Try.underlying41 Try.sizeOf112 (hP79 9 33 rfl rfl) (RP.mono _ h0_0 (Le.trans (Le.trans hE36 l59) hE79)) (hP79 10 34 rfl rfl) hix60 (fun g99 o100 cs_g99 hrk_hat101 hat101=>?_)
 obtain rfl:=rTerm_iff.1 hrk_hat101
 exact L_nil ⟨rfl,_,_,rfl,Le.refl _,fun _ _=>⟨_,_,_,rfl,hrk_hat101,hat101⟩,hst⟩
 refine opsS_cons ?_ ?_
 intro f w_ H79 X79 hS79 hE79 hP79 hst
 obtain ⟨g103,o103,cs103,hv103,hrk_hat103,hat103⟩:=(hP79 11 35 rfl rfl)
 obtain rfl:=rTerm_iff.1 hrk_hat103
 refine fA (o103 + 1) fa_112_1 hv103 rfl (L_nil ⟨rfl,_,_,rfl,Le.refl _,fun _ _=>⟨_,_,_,rfl,hrk_hat103,hat103⟩,hst⟩)
 refine opsS_cons ?_ ?_
 intro f w_ H79 X79 hS79 hE79 hP79 hst
 obtain ⟨g105,o105,cs105,hv105,hrk_hat105,hat105⟩:=(hP79 12 36 rfl rfl)
 obtain rfl:=rTerm_iff.1 hrk_hat105
 refine L_ld rfl Try.isAgg3 hv105 (At.cell (AtH.at hat105 hst.sub) (j:=1) rfl) (L_nil ⟨rfl,_,_,rfl,Le.refl _,fun _ _=>rfl,hst⟩)
 refine opsS_cons (fun f w_ _ _ _ _ p hst=>L_neg rfl (p 13 37 rfl rfl) (nO rfl rfl hst)) (opsS_cons (fun f w_ _ _ _ _ p hst=>L_bld rfl (parts2 (p 7 31 rfl rfl) (p 14 38 rfl rfl)) (bld_112_0_1 (I x_60.coef) (I (i64 (-x_60.lit))) rfl rfl) (nO rfl rfl hst)) (opsS_cons ?_ ?_))
 intro f w_ H79 X79 hS79 hE79 hP79 hst
 refine L_bs rfl (parts1 (hP79 15 39 rfl rfl)) (bs_41_1_2 (I x_60.coef) (I (i64 (-x_60.lit))) ) hst (fun g107 w108 hst=>?_)
 have hst:=Star.addF (r:=rTerm) (cs:=[I x_60.coef,I (i64 (-x_60.lit))]) (x:=({ coef:=x_60.coef,lit:=i64 (-x_60.lit) } : Term)) hst (rTerm_iff.2 rfl)
 have hst:=Star.mkRow (R:=(OR.frz rTerm)) [([I x_60.coef,I (i64 (-x_60.lit))],({ coef:=x_60.coef,lit:=i64 (-x_60.lit) } : Term))] [({ coef:=x_60.coef,lit:=i64 (-x_60.lit) } : Term)] 1 hst rfl rfl rfl (by decide)
 have hst:=hst.gets [4,4,4,4] rfl
 exact L_nil ⟨rfl,_,_,rfl,Le.refl _,fun _ _=>trivial,hst⟩
 exact opsS_nil
 have hst : Star H79 w_ ([oF 112 rTerm v56_g53_0 g53_0_56,box g53 43 #[v56_g53_0,I (i64 ((i64 (x31 - c.bound)) + 1))],box g7 43 #[S0,I 0],box g5 43 #[v0_0,I c.bound],oF 112 rTerm (f 40) ([({ coef:=x_60.coef,lit:=i64 (-x_60.lit) } : Term)])]):=hst
 have hst:=hst.gets [4,1] rfl
 refine L_appM (v:=v56_g53_0) (u:=(f 40)) rfl et_41 (hT79 1 25 rfl rfl) rfl hst hx74 (fun v111 w112 hst=>fA 0 fa_43_0 ((hS79 4 rfl).trans sf4) rfl (L_stB (v:=v111) (cs2:=#[v111,I (i64 ((i64 (x31 - c.bound)) + 1))]) 1 rfl Try.sizeOf41 rfl rfl (one_len (Star.len 0 hst rfl)) hst rfl rfl rfl (fun w114 hst=>nn (W_region (mF ((hS79 5 rfl).trans sf5) rfl (L_add rfl rfl rfl (aI rfl (nn ?_))))))))
 obtain rfl:=so hB60
 have hst:=hst.gets [3,3,2,3] rfl
 show ∃ m,m < _∧I60 m _ _
 refine ⟨rest60.length,by simp,?_⟩
 exact ij hI60 ⟨i_55 + 1,rest60,x74,H79,v111,rfl,drop_next hd60,by simp at hl60; omega,hL60,(Le.trans l59 hE79),((hS79 1 rfl).trans sf1),((hS79 2 rfl).trans sf2),((hS79 4 rfl).trans sf4),(Eq.trans rfl (congrArg (Value.int .i64) (i64_succ (n:=c.terms.length) (by simp at hl60; omega) hlen60))),hst⟩
 rcases suf60 with _ | ⟨_,_⟩
 obtain rfl:=range_nil hL60
 refine W_exit (rj hR60 ⟨g53_0_56,H58,v56_g53_0,rfl,l59,sf2,sf4,(Star.keepN 3 hst)⟩)
 exact absurd (of_decide_eq_false hc62) (by simp at hl60; omega)
 intro f w_ hR
 obtain ⟨g53_0_56,H58,v56_g53_0,rfl,l59,sf2,sf4,hst⟩:=rk hR60 hR
 refine W_seq (sq (fA 1 fa_43_1 sf4 rfl (ldB 1 hst Try.isAgg3 rfl rfl rfl (L_lss rfl rfl rfl (nn ?_)))))
 obtain ⟨g53_1_115,hA116,hF⟩:=bind_some hF
 obtain ⟨R116,hR116⟩:=exR fun f w_=>f 2 = Pt g7∧f 4 = Pt g53∧Star H58 w_ ([oF 112 rTerm v56_g53_0 g53_0_56,box g53 43 #[v56_g53_0,I g53_1_115],box g7 43 #[S0,I 0]])
 refine W_join R116 ?_ ?_
 refine W_cond (b:=decide ((i64 ((i64 (x31 - c.bound)) + 1)) < 0)) rfl (fun hc117=>?_) (fun hc117=>?_)
 have hA116:=(ite_t hc117).symm.trans hA116
 refine W_region (fA 1 fa_43_1 sf4 rfl (L_stB (v:=I 0) (cs2:=#[v56_g53_0,I 0]) 1 rfl Try.sizeOf3 rfl rfl rfl hst rfl rfl rfl (fun w119 hst=>nn ?_)))
 obtain rfl:=so hA116
 have hst:=hst.gets [2,1,2] rfl
 exact rj hR116 ⟨sf2,sf4,hst⟩
 have hA116:=(ite_f hc117).symm.trans hA116
 refine W_skip ?_
 obtain rfl:=so hA116
 exact rj hR116 ⟨sf2,sf4,hst⟩
 intro f w_ hR
 obtain ⟨sf2,sf4,hst⟩:=rk hR116 hR
 refine sq (L_lda (cs:=[v56_g53_0,I g53_1_115]) rfl Try.isAgg43 Try.sizeOf43 sf4 (At.sub0 (Blk.at (Star.blkAt 1 hst rfl)) 0 2) rfl (L_staB (vs:=#[v56_g53_0,I g53_1_115]) (cs2:=#[v56_g53_0,I g53_1_115]) 2 rfl Try.sizeOf43 sf2 rfl rfl (ones_cons (one_len (Star.len 0 hst rfl)) (ones_cons rfl ones_nil)) hst rfl (by show 0 + 2≤2; decide) rfl (fun w121 hst=>aB rfl (nn (W_ret (retG2 (v1:=.agg #[v56_g53_0,I g53_1_115]) (v2:=Bo true) Try.results79 (resV_agg Try.isAgg43 Try.sizeOf43 sf2 (Star.blkAt 0 hst rfl) rfl) rfl ?_))))))
 obtain rfl:=so hF
 have hst:=hst.get 1 rfl
 exact ⟨v56_g53_0,rfl,(Star.down (Star.keepN 1 hst) (Le.trans hE36 l59) (co closed_term c0))⟩
theorem s_ProveConstraint_c {fu : Nat} {list : List Con} {c : Con} {fuel : Int} {v0 : Value} {v1_0 : Value} {H : FH} {w : World} (hst : Star H w []) (h0 : (rS 43 (rCon 112)).rel H [v0] list) (h1_0 : (rS 112 rTerm).rel H [v1_0] c.terms) {r : Int × (List Bool) × (List Step)} (hF : s_ProveConstraint fu list c fuel = some r) :
 C Try.prog 29 #[v0,.agg #[v1_0,I c.bound],I fuel] w fun v w'=>∃ (u1 : Value) (u2 : Value),v = .tuple #[I r.1,u1,u2]∧Star H w' [oF 4 RP.bool u1 r.2.1,oS 93 (oStep 112) u2 r.2.2]:=by
 unfold s_ProveConstraint at hF
 refine C_enter Try.func29 rfl Try.ntmps29 rfl (sq (L_box (v:=.agg #[v1_0,I c.bound]) (cs:=#[v1_0,I c.bound]) rfl rfl rfl hst (fun g3 w4 hst=>aI rfl (aV S0 rfl (aV S0 rfl (nq ?_))))))
 obtain ⟨x10,hx10,hF⟩:=bind_some hF
 refine W_region (L_lda (cs:=[v1_0,I c.bound]) rfl Try.isAgg43 Try.sizeOf43 rfl (At.sub0 (Blk.at (Star.blkAt 0 hst rfl)) 0 2) rfl ?_)
 obtain ⟨H16b,l17,s18,z19,k20⟩:=hst.borrow
 refine L_call rfl Try.call79 (ops1 rfl) (s_NegateConstraint_c (c:=c) s18 (RP.mono _ h1_0 l17) hx10) ?_
 rintro _ w21 ⟨r21_0,rfl,hst⟩
 have hst:=k20 hst (co closed_term c0)
 refine mV (.tuple #[.agg #[r21_0,I x10.1.bound],Bo x10.2]) rfl (L_ex (v:=.agg #[r21_0,I x10.1.bound]) rfl rfl rfl (L_ex (v:=Bo x10.2) rfl rfl rfl (L_al (cs:=#[S0,I 0]) rfl Try.zeroValue43 rfl hst (fun g23 w24 hst=>L_staB (vs:=#[r21_0,I x10.1.bound]) (cs2:=#[r21_0,I x10.1.bound]) 0 rfl Try.sizeOf43 rfl rfl rfl (ones_cons (one_len (Star.len 1 hst rfl)) (ones_cons rfl ones_nil)) hst rfl (by show 0 + 2≤2; decide) rfl (fun w25 hst=>aB rfl (nq (W_seq ?_)))))))
 obtain ⟨R26,hR26⟩:=exR fun f w_=>f 0 = v0∧f 2 = I fuel∧f 9 = Pt g23∧f 22 = Bo ((!x10.2) || (decide ((list.length : Int) ≥ 400)))∧Star H w_ ([oF 112 rTerm r21_0 x10.1.terms,box g23 43 #[r21_0,I x10.1.bound]])
 refine W_join R26 ?_ ?_
 refine W_region (mB rfl (L_not_ rfl rfl (mB rfl (L_split (d:=18) (b:=(!x10.2)) rfl (fun hc27=>?_) (fun hc27=>?_)))))
 refine ps rfl (ps rfl (ps rfl (L_pick (v:=Bo ((!x10.2) || (decide ((list.length : Int) ≥ 400)))) rfl rfl (or_t hc27) (nn ?_))))
 have hst:=hst.get 1 rfl
 exact rj hR26 ⟨rfl,rfl,rfl,rfl,(Star.keepN 2 hst)⟩
 refine mV v0 rfl (L_len rfl Try.underlying23 rfl (slice_len h0) (L_geq rfl rfl rfl (L_pick (v:=Bo ((!x10.2) || (decide ((list.length : Int) ≥ 400)))) rfl rfl (or_f hc27 rfl) (nn ?_))))
 have hst:=hst.get 1 rfl
 exact rj hR26 ⟨rfl,rfl,rfl,rfl,(Star.keepN 2 hst)⟩
 intro f w_ hR
 obtain ⟨sf0,sf2,sf9,sf22,hst⟩:=rk hR26 hR
 refine W_cond (b:=((!x10.2) || (decide ((list.length : Int) ≥ 400)))) sf22 (fun hc28=>?_) (fun hc28=>?_)
 have hF:=(ite_t hc28).symm.trans hF
 refine sq (L_bs rfl parts0 (bs_24_0  ) hst (fun g35 w36 hst=>?_))
 have hst:=Star.mkRow (R:=(OR.frz RP.bool)) [] [] 0 hst rfl rfl rfl (by decide)
 refine L_bs rfl parts0 (bs_30_0  ) hst (fun g38 w39 hst=>?_)
 have hst:=Star.mkRow (R:=(OR.frz (rStep 112))) [] [] 0 hst rfl rfl rfl (by decide)
 refine aI rfl (aV (Sl g35 0 0) rfl (aV (Sl g38 0 0) rfl (nn (W_ret (retG3 (v1:=I 3) (v2:=(Sl g35 0 0)) (v3:=(Sl g38 0 0)) Try.results29 rfl rfl rfl ?_)))))
 obtain rfl:=so hF
 have hst:=Star.recast (R:=(OR.frz (rStep 112))) (R':=(oStep 112)) rfl hst
 have hst:=hst.get 1 rfl
 exact ⟨(Sl g35 0 0),(Sl g38 0 0),rfl,(Star.keepN 2 hst)⟩
 have hF:=(ite_f hc28).symm.trans hF
 refine W_skip (W_seq ?_)
 obtain ⟨x44,hx44,hF⟩:=bind_some hF
 obtain ⟨x51,hx51,hF⟩:=bind_some hF
 obtain ⟨x63,hx63,hF⟩:=bind_some hF
 have hst:=hst.get 1 rfl
 refine W_drawS 11 [anyF,isV (v0),anyF,isV (.agg #[r21_0,I x10.1.bound]),anyF,anyF,isV (I fuel),tup3 (isV (I x63.1)) (anyF) (anyF),isV (I x63.1),anyF,anyF] [box g23 43 #[r21_0,I x10.1.bound]] [.base (oF 112 rTerm r21_0 x10.1.terms) (some 4),.made 0 25 (fun v_=>oF 43 (rCon 112) v_ ([])) (some 2),.made 2 27 (fun v_=>oF 43 (rCon 112) v_ x44) (some 5),.made 4 29 (fun v_=>oS 43 (oCon 112) v_ ([x10.1])) (some 5),.made 5 30 (fun v_=>oF 43 (rCon 112) v_ x51) none,.made 7 32 (fun v_=>oF 4 RP.bool (tupC v_ 1) x63.2.1) (some 9),.made 7 32 (fun v_=>oS 93 (oStep 112) (tupC v_ 2) x63.2.2) (some 10),.made 9 34 (fun v_=>oF 4 RP.bool v_ x63.2.1) none,.made 10 35 (fun v_=>oS 93 (oStep 112) v_ x63.2.2) none] ([]) [([],[1]),([],[]),([1],[2]),([],[]),([0],[3]),([2,3],[4]),([],[]),([4],[4,5,6]),([],[]),([5],[7]),([6],[8])] (S:=[(none,[],some 4),(some 0,[25],some 2),(some 2,[27],some 5),(some 4,[29],some 5),(some 5,[30],none),(some 7,[32],some 9),(some 7,[32],some 10),(some 9,[34],none),(some 10,[35],none)]) Try_mix (by kernel_rfl) rfl (by kernel_rfl) (amF_cons (mono_any) (amF_cons (mono_V _) (amF_cons (mono_any) (amF_cons (mono_V _) (amF_cons (mono_any) (amF_cons (mono_any) (amF_cons (mono_V _) (amF_cons (mono_tup3 (mono_V _) (mono_any) (mono_any)) (amF_cons (mono_V _) (amF_cons (mono_any) (amF_cons (mono_any) amF_nil))))))))))) hst ?_ (fun f w_ H67 hS67 hE67 hT67 hst=>?_)
 refine opsS_cons ?_ ?_
 intro f w_ H67 X67 hS67 hE67 hP67 hst
 refine L_bs rfl parts0 (bs_23_0  ) hst (fun g91 w92 hst=>?_)
 have hst:=Star.mkRow (R:=(OR.frz (rCon 112))) [] [] 0 hst rfl rfl rfl (by decide)
 have hst:=hst.get 1 rfl
 exact L_nil ⟨rfl,_,_,rfl,Le.refl _,fun _ _=>trivial,hst⟩
 refine opsS_cons (fun f w_ _ _ s _ _ hst=>mF ((s 0 rfl).trans sf0) rfl (nO rfl rfl hst)) (opsS_cons ?_ ?_)
 intro f w_ H67 X67 hS67 hE67 hP67 hst
 have hst : Star H67 w_ (box g23 43 #[r21_0,I x10.1.bound] :: oF 43 (rCon 112) (f 25) ([]) :: X67):=hst
 have hst:=hst.get 1 rfl
 refine L_app (v:=(f 25)) (u:=v0) rfl et_23 rfl (hP67 1 26 rfl rfl) hst (RP.mono _ h0 hE67) hx44 (fun v95 w96 hst=>?_)
 have hst:=hst.get 1 rfl
 exact L_nil ⟨rfl,_,_,rfl,Le.refl _,fun _ _=>trivial,hst⟩
 refine opsS_cons (fun f w_ _ _ s _ _ hst=>L_lda (cs:=[r21_0,I x10.1.bound]) rfl Try.isAgg43 Try.sizeOf43 ((s 9 rfl).trans sf9) (At.sub0 (Blk.at (Star.blkAt 0 hst rfl)) 0 2) rfl (nO rfl rfl hst)) (opsS_cons ?_ ?_)
 intro f w_ H67 X67 hS67 hE67 hP67 hst
 have hst : Star H67 w_ (box g23 43 #[r21_0,I x10.1.bound] :: oF 112 rTerm r21_0 x10.1.terms :: X67):=hst
 refine L_bs rfl (parts1 (hP67 3 28 rfl rfl)) (bs_23_1_2 (r21_0) (I x10.1.bound) ) hst (fun g98 w99 hst=>?_)
 have hst:=hst.get 2 rfl
 have hst:=oCon_close (c:=x10.1) hst
 have hst:=Star.mkRow (R:=(oCon 112)) [([r21_0,I x10.1.bound],x10.1)] [x10.1] 1 hst rfl rfl rfl (by decide)
 have hst:=hst.get 1 rfl
 exact L_nil ⟨rfl,_,_,rfl,Le.refl _,fun _ _=>trivial,hst⟩
 refine opsS_cons ?_ ?_
 intro f w_ H67 X67 hS67 hE67 hP67 hst
 have hst : Star H67 w_ (box g23 43 #[r21_0,I x10.1.bound] :: oF 43 (rCon 112) (f 27) x44 :: oS 43 (oCon 112) (f 29) ([x10.1]) :: X67):=hst
 have hst:=hst.get 2 rfl
 obtain ⟨H103,l104,hst⟩:=Star.shallow hst
 have hst : Star H103 w_ (oF 43 (rCon 112) (f 29) ([x10.1]) :: _):=hst
 have hst:=hst.get 2 rfl
 refine L_appM (v:=(f 27)) (u:=(f 29)) rfl et_23 rfl rfl hst hx51 (fun v105 w106 hst=>?_)
 have hst:=hst.get 1 rfl
 exact L_nil ⟨rfl,_,_,rfl,l104,fun _ _=>trivial,hst⟩
 refine opsS_cons (fun f w_ _ _ s _ _ hst=>mF ((s 2 rfl).trans sf2) rfl (nO rfl rfl hst)) (opsS_cons ?_ ?_)
 intro f w_ H67 X67 hS67 hE67 hP67 hst
 have hst : Star H67 w_ (box g23 43 #[r21_0,I x10.1.bound] :: oF 43 (rCon 112) (f 30) x51 :: X67):=hst
 obtain ⟨H109b,l110,s111,z112,k113⟩:=hst.borrow
 have hb114 : (rS 43 (rCon 112)).rel H109b [(f 30)] x51:=fz_own 1 z112 rfl
 refine L_call rfl Try.call20 (ops2 rfl (hP67 6 31 rfl rfl)) (s_SolveProblem_c (list:=x51) (fuel:=fuel) s111 hb114 hx63) ?_
 rintro _ w115 ⟨r115_0,r115_1,rfl,hst⟩
 have hst:=k113 hst (co closed_bool (co closed_oStep c0))
 have hst:=hst.gets [1,1,3,3] rfl
 exact L_nil ⟨rfl,_,_,rfl,Le.refl _,fun _ _=>⟨_,_,_,rfl,rfl,trivial,trivial⟩,hst⟩
 refine opsS_cons ?_ ?_
 intro f w_ H67 X67 hS67 hE67 hP67 hst
 obtain ⟨a118_0,a118_1,a118_2,hv118,ht118_0,ht118_1,ht118_2⟩:=(hP67 7 32 rfl rfl)
 obtain rfl:=ht118_0
 refine L_ex (v:=I x63.1) rfl hv118 rfl (L_nil ⟨rfl,_,_,rfl,Le.refl _,fun _ _=>rfl,hst⟩)
 refine opsS_cons ?_ ?_
 intro f w_ H67 X67 hS67 hE67 hP67 hst
 have hst : Star H67 w_ (box g23 43 #[r21_0,I x10.1.bound] :: own (OR.ownS 4 (OR.frz RP.bool)) [(tupC (f 32) 1)] x63.2.1 :: X67):=hst
 obtain ⟨a119_0,a119_1,a119_2,hv119,ht119_0,ht119_1,ht119_2⟩:=(hP67 7 32 rfl rfl)
 obtain rfl:=ht119_0
 have hren : Star H67 w_ (box g23 43 #[r21_0,I x10.1.bound] :: own (OR.ownS 4 (OR.frz RP.bool)) [(tupC (f 32) 1)] x63.2.1 :: X67):=hst
 rw [hv119] at hren
 have hst : Star H67 w_ (box g23 43 #[r21_0,I x10.1.bound] :: oF 4 RP.bool a119_1 x63.2.1 :: X67):=hren
 refine L_ex (v:=a119_1) rfl hv119 rfl (L_nil ⟨rfl,_,_,rfl,Le.refl _,fun _ _=>trivial,hst⟩)
 refine opsS_cons ?_ ?_
 intro f w_ H67 X67 hS67 hE67 hP67 hst
 have hst : Star H67 w_ (box g23 43 #[r21_0,I x10.1.bound] :: own (OR.ownS 93 (oStep 112)) [(tupC (f 32) 2)] x63.2.2 :: X67):=hst
 obtain ⟨a120_0,a120_1,a120_2,hv120,ht120_0,ht120_1,ht120_2⟩:=(hP67 7 32 rfl rfl)
 obtain rfl:=ht120_0
 have hren : Star H67 w_ (box g23 43 #[r21_0,I x10.1.bound] :: own (OR.ownS 93 (oStep 112)) [(tupC (f 32) 2)] x63.2.2 :: X67):=hst
 rw [hv120] at hren
 have hst : Star H67 w_ (box g23 43 #[r21_0,I x10.1.bound] :: oS 93 (oStep 112) a120_2 x63.2.2 :: X67):=hren
 refine L_ex (v:=a120_2) rfl hv120 rfl (L_nil ⟨rfl,_,_,rfl,Le.refl _,fun _ _=>trivial,hst⟩)
 exact opsS_nil
 have hst : Star H67 w_ ([box g23 43 #[r21_0,I x10.1.bound],oF 43 (rCon 112) (f 30) x51,oF 4 RP.bool (f 34) x63.2.1,oS 93 (oStep 112) (f 35) x63.2.2]):=hst
 refine aF (hT67 8 33 rfl rfl) rfl (aV (f 34) rfl (aV (f 35) rfl (nn (W_ret (retG3 (v1:=I x63.1) (v2:=(f 34)) (v3:=(f 35)) Try.results29 rfl rfl rfl ?_)))))
 obtain rfl:=so hF
 have hst:=hst.gets [3,3] rfl
 exact ⟨(f 34),(f 35),rfl,(Star.down (Star.keepN 2 hst) hE67 (co closed_bool (co closed_oStep c0)))⟩
theorem i_EvalConstraint_c {c : Con} {values : List Bool} {v0_0 : Value} {v1 : Value} {H : FH} {w : World} (hst : Star H w []) (h0_0 : (rS 112 rTerm).rel H [v0_0] c.terms) (h1 : (rS 4 RP.bool).rel H [v1] values) {r : Bool} (hF : i_EvalConstraint c values = some r) :
 C Try.prog 40 #[.agg #[v0_0,I c.bound],v1] w fun v w'=>v = Bo r∧Star H w' []:=by
 unfold i_EvalConstraint at hF
 refine C_enter Try.func40 rfl Try.ntmps40 rfl (sq (L_box (v:=.agg #[v0_0,I c.bound]) (cs:=#[v0_0,I c.bound]) rfl rfl rfl hst (fun g3 w4 hst=>aB rfl (nq ?_))))
 obtain ⟨x10,hx10,hF⟩:=bind_some hF
 obtain ⟨b19,hb19,hF⟩:=bind_some hF
 obtain ⟨R20,hR20⟩:=exR fun f w_=>f 4 = Bo b19∧Star H w_ ([])
 refine W_join R20 ?_ ?_
 refine W_region (L_lda (cs:=[v0_0,I c.bound]) rfl Try.isAgg43 Try.sizeOf43 rfl (At.sub0 (Blk.at (Star.blkAt 0 hst rfl)) 0 2) rfl ?_)
 obtain ⟨H21b,l22,s23,z24,k25⟩:=hst.borrow
 refine L_call rfl Try.call52 (ops1 rfl) (i_ConstraintValid_c (c:=c) s23 (RP.mono _ h0_0 l22) hx10) ?_
 rintro _ w26 ⟨rfl,hst⟩
 have hst:=k25 hst c0
 refine mB rfl (L_split (d:=7) (b:=x10) rfl (fun hc27=>?_) (fun hc27=>?_))
 refine mV v1 rfl (L_len rfl Try.underlying24 rfl (slice_len h1) (L_eql rfl rfl rfl (L_pick (v:=Bo (x10 && ((values.length : Int) == 12))) rfl rfl (and_t hc27 rfl) (mB rfl (L_split (d:=12) (b:=(x10 && ((values.length : Int) == 12))) rfl (fun hc28=>?_) (fun hc28=>?_))))))
 rw [ite_t hc28] at hb19
 obtain ⟨x17,hx17,hb19⟩:=bind_some hb19
 refine L_lda (cs:=[v0_0,I c.bound]) rfl Try.isAgg43 Try.sizeOf43 rfl (At.sub0 (Blk.at (Star.blkAt 0 hst rfl)) 0 2) rfl (mV v1 rfl ?_)
 obtain ⟨H29b,l30,s31,z32,k33⟩:=hst.borrow
 refine L_call rfl Try.call83 (ops2 rfl rfl) (i_Constraint_holds_c (c:=c) (values:=values) s31 (RP.mono _ h0_0 l30) (RP.mono _ h1 l30) hx17) ?_
 rintro _ w34 ⟨rfl,hst⟩
 have hst:=k33 hst c0
 refine L_pick (v:=Bo b19) rfl rfl (congrArg Value.bool (so hb19)) (aB rfl (nn (rj hR20 ⟨rfl,(Star.keepN 0 hst)⟩)))
 rw [ite_f hc28] at hb19
 refine ps rfl (ps rfl (ps rfl (L_pick (v:=Bo b19) rfl rfl (congrArg Value.bool (so hb19)) (aB rfl (nn (rj hR20 ⟨rfl,(Star.keepN 0 hst)⟩))))))
 refine ps rfl (ps rfl (ps rfl (L_pick (v:=Bo (x10 && ((values.length : Int) == 12))) rfl rfl (and_f hc27) (mB rfl (L_split (d:=12) (b:=(x10 && ((values.length : Int) == 12))) rfl (fun hc35=>?_) (fun hc35=>?_))))))
 rw [ite_t hc35] at hb19
 obtain ⟨x17,hx17,hb19⟩:=bind_some hb19
 refine L_lda (cs:=[v0_0,I c.bound]) rfl Try.isAgg43 Try.sizeOf43 rfl (At.sub0 (Blk.at (Star.blkAt 0 hst rfl)) 0 2) rfl (mV v1 rfl ?_)
 obtain ⟨H36b,l37,s38,z39,k40⟩:=hst.borrow
 refine L_call rfl Try.call83 (ops2 rfl rfl) (i_Constraint_holds_c (c:=c) (values:=values) s38 (RP.mono _ h0_0 l37) (RP.mono _ h1 l37) hx17) ?_
 rintro _ w41 ⟨rfl,hst⟩
 have hst:=k40 hst c0
 refine L_pick (v:=Bo b19) rfl rfl (congrArg Value.bool (so hb19)) (aB rfl (nn (rj hR20 ⟨rfl,(Star.keepN 0 hst)⟩)))
 rw [ite_f hc35] at hb19
 refine ps rfl (ps rfl (ps rfl (L_pick (v:=Bo b19) rfl rfl (congrArg Value.bool (so hb19)) (aB rfl (nn (rj hR20 ⟨rfl,(Star.keepN 0 hst)⟩))))))
 intro f w_ hR
 obtain ⟨sf4,hst⟩:=rk hR20 hR
 refine W_ret (retG1 (v1:=Bo b19) Try.results40 sf4 ?_)
 obtain rfl:=so hF
 exact ⟨rfl,hst⟩
theorem l_FnProveConstraint_c {fu : Nat} {code : List UInt8} {v0 : Value} {H : FH} {w : World} (hst : Star H w []) (h0 : (rS 5 RP.u8).rel H [v0] code) {r : Bool} (hF : l_FnProveConstraint fu code = some r) :
 C Try.prog 9 #[v0] w fun v w'=>v = Bo r∧Star H w' []:=by
 unfold l_FnProveConstraint at hF
 refine C_enter Try.func9 rfl Try.ntmps9 rfl (sq (aB rfl (nq (sq (mV v0 rfl (L_len rfl Try.underlying22 rfl (slice_len h0) (L_gtr rfl rfl rfl (nn (W_cond (b:=decide ((code.length : Int) > 1048576)) rfl (fun hc1=>?_) (fun hc1=>?_))))))))))
 have hF:=(ite_t hc1).symm.trans hF
 refine sq (aB rfl (nn (W_ret (retG1 (v1:=Bo true) Try.results9 rfl ?_))))
 obtain rfl:=so hF
 exact ⟨rfl,hst⟩
 have hF:=(ite_f hc1).symm.trans hF
 refine W_skip (W_seq ?_)
 obtain ⟨x2,hx2,hF⟩:=bind_some hF
 refine W_region (mV v0 rfl (L_call rfl Try.call26 (ops1 rfl) (s_DrawProveConstraint_c (code:=code) hst h0 hx2) ?_))
 rintro _ w9 ⟨H9,l9,r9_0,r9_1,rfl,hst⟩
 refine mV (.tuple #[r9_0,.agg #[r9_1,I x2.2.1.bound],I x2.2.2]) rfl (L_ex (v:=r9_0) rfl rfl rfl (L_ex (v:=.agg #[r9_1,I x2.2.1.bound]) rfl rfl rfl (L_ex (v:=I x2.2.2) rfl rfl rfl (L_al (cs:=#[S0,I 0]) rfl Try.zeroValue43 rfl hst (fun g12 w13 hst=>aV r9_0 rfl (L_staB (vs:=#[r9_1,I x2.2.1.bound]) (cs2:=#[r9_1,I x2.2.1.bound]) 0 rfl Try.sizeOf43 rfl rfl rfl (ones_cons (one_len (Star.len 2 hst rfl)) (ones_cons rfl ones_nil)) hst rfl (by show 0 + 2≤2; decide) rfl (fun w14 hst=>aI rfl (nq ?_))))))))
 obtain ⟨x22,hx22,hF⟩:=bind_some hF
 refine W_region (mV r9_0 rfl (L_lda (cs:=[r9_1,I x2.2.1.bound]) rfl Try.isAgg43 Try.sizeOf43 rfl (At.sub0 (Blk.at (Star.blkAt 0 hst rfl)) 0 2) rfl (mI rfl ?_)))
 obtain ⟨H26b,l27,s28,z29,k30⟩:=hst.borrow
 have hb31 : (rS 43 (rCon 112)).rel H26b [r9_0] x2.1:=fz_own 1 z29 rfl
 have hb32 : (rS 112 rTerm).rel H26b [r9_1] x2.2.1.terms:=fz_own 2 z29 rfl
 refine L_call rfl Try.call28 (ops3 rfl rfl rfl) (i_ProveConstraint_c (list:=x2.1) (c:=x2.2.1) (fuel:=x2.2.2) s28 hb31 hb32 hx22) ?_
 rintro _ w33 ⟨r33_0,r33_1,rfl,hst⟩
 have hst:=k30 hst (co closed_bool (co closed_oStep c0))
 refine mV (.tuple #[I x22.1,r33_0,r33_1]) rfl (L_ex (v:=I x22.1) rfl rfl rfl (L_ex (v:=r33_0) rfl rfl rfl (L_ex (v:=r33_1) rfl rfl rfl (aI rfl (aV r33_0 rfl (aV r33_1 rfl (nq ?_)))))))
 obtain ⟨x43,hx43,hF⟩:=bind_some hF
 refine W_region (mV r9_0 rfl (L_lda (cs:=[r9_1,I x2.2.1.bound]) rfl Try.isAgg43 Try.sizeOf43 rfl (At.sub0 (Blk.at (Star.blkAt 2 hst rfl)) 0 2) rfl (mI rfl ?_)))
 obtain ⟨H47b,l48,s49,z50,k51⟩:=hst.borrow
 have hb52 : (rS 43 (rCon 112)).rel H47b [r9_0] x2.1:=fz_own 3 z50 rfl
 have hb53 : (rS 112 rTerm).rel H47b [r9_1] x2.2.1.terms:=fz_own 4 z50 rfl
 refine L_call rfl Try.call29 (ops3 rfl rfl rfl) (s_ProveConstraint_c (list:=x2.1) (c:=x2.2.1) (fuel:=x2.2.2) s49 hb52 hb53 hx43) ?_
 rintro _ w54 ⟨r54_0,r54_1,rfl,hst⟩
 have hst:=k51 hst (co closed_bool (co closed_oStep c0))
 refine mV (.tuple #[I x43.1,r54_0,r54_1]) rfl (L_ex (v:=I x43.1) rfl rfl rfl (L_ex (v:=r54_0) rfl rfl rfl (L_ex (v:=r54_1) rfl rfl rfl (aI rfl (aV r54_0 rfl (aV r54_1 rfl (nq (W_seq ?_))))))))
 obtain ⟨b66,hb66,hF⟩:=bind_some hF
 obtain ⟨b76,hb76,hF⟩:=bind_some hF
 obtain ⟨R77,hR77⟩:=exR fun f w_=>f 3 = r9_0∧f 4 = Pt g12∧f 6 = I x22.1∧f 7 = r33_0∧f 53 = Bo b76∧Star H9 w_ ([oF 43 (rCon 112) r9_0 x2.1,oF 4 RP.bool r33_0 x22.2.1,oF 112 rTerm r9_1 x2.2.1.terms,box g12 43 #[r9_1,I x2.2.1.bound]])
 refine W_join R77 ?_ ?_
 refine W_region (mI rfl (mI rfl (L_neq rfl rfl rfl (mB rfl (L_split (d:=42) (b:=(x22.1 != x43.1)) rfl (fun hc78=>?_) (fun hc78=>?_))))))
 rw [ite_t hc78] at hb66
 refine ps rfl (ps rfl (ps rfl (ps rfl (L_pick (v:=Bo b66) rfl rfl (congrArg Value.bool (so hb66)) (mB rfl (L_split (d:=48) (b:=b66) rfl (fun hc79=>?_) (fun hc79=>?_)))))))
 rw [ite_t hc79] at hb76
 refine ps rfl (ps rfl (ps rfl (ps rfl (L_pick (v:=Bo b76) rfl rfl (congrArg Value.bool (so hb76)) (nn ?_)))))
 have hst:=hst.gets [4,6,4,6] rfl
 exact rj hR77 ⟨rfl,rfl,rfl,rfl,rfl,(Star.keepN 4 hst)⟩
 rw [ite_f hc79] at hb76
 obtain ⟨x74,hx74,hb76⟩:=bind_some hb76
 refine mV r33_1 rfl (mV r54_1 rfl ?_)
 obtain ⟨H80b,l81,s82,z83,k84⟩:=hst.borrow
 have hb85 : (rS 93 (rStep 112)).rel H80b [r33_1] x22.2.2:=fz_own 3 z83 rfl
 have hb86 : (rS 93 (rStep 112)).rel H80b [r54_1] x43.2.2:=fz_own 1 z83 rfl
 refine L_call rfl Try.call21 (ops2 rfl rfl) (i_ProofSame_c (a:=x22.2.2) (b:=x43.2.2) s82 hb85 hb86 hx74) ?_
 rintro _ w87 ⟨rfl,hst⟩
 have hst:=k84 hst c0
 refine L_not_ rfl rfl (L_pick (v:=Bo b76) rfl rfl (congrArg Value.bool (so hb76)) (nn ?_))
 have hst:=hst.gets [4,6,4,6] rfl
 exact rj hR77 ⟨rfl,rfl,rfl,rfl,rfl,(Star.keepN 4 hst)⟩
 rw [ite_f hc78] at hb66
 obtain ⟨x64,hx64,hb66⟩:=bind_some hb66
 refine mV r33_0 rfl (mV r54_0 rfl ?_)
 obtain ⟨H88b,l89,s90,z91,k92⟩:=hst.borrow
 have hb93 : (rS 4 RP.bool).rel H88b [r33_0] x22.2.1:=fz_own 2 z91 rfl
 have hb94 : (rS 4 RP.bool).rel H88b [r54_0] x43.2.1:=fz_own 0 z91 rfl
 refine L_call rfl Try.call16 (ops2 rfl rfl) (l_cpBools_c (a:=x22.2.1) (b:=x43.2.1) s90 hb93 hb94 hx64) ?_
 rintro _ w95 ⟨rfl,hst⟩
 have hst:=k92 hst c0
 refine L_not_ rfl rfl (L_pick (v:=Bo b66) rfl rfl (congrArg Value.bool (so hb66)) (mB rfl (L_split (d:=48) (b:=b66) rfl (fun hc96=>?_) (fun hc96=>?_))))
 rw [ite_t hc96] at hb76
 refine ps rfl (ps rfl (ps rfl (ps rfl (L_pick (v:=Bo b76) rfl rfl (congrArg Value.bool (so hb76)) (nn ?_)))))
 have hst:=hst.gets [4,6,4,6] rfl
 exact rj hR77 ⟨rfl,rfl,rfl,rfl,rfl,(Star.keepN 4 hst)⟩
 rw [ite_f hc96] at hb76
 obtain ⟨x74,hx74,hb76⟩:=bind_some hb76
 refine mV r33_1 rfl (mV r54_1 rfl ?_)
 obtain ⟨H97b,l98,s99,z100,k101⟩:=hst.borrow
 have hb102 : (rS 93 (rStep 112)).rel H97b [r33_1] x22.2.2:=fz_own 3 z100 rfl
 have hb103 : (rS 93 (rStep 112)).rel H97b [r54_1] x43.2.2:=fz_own 1 z100 rfl
 refine L_call rfl Try.call21 (ops2 rfl rfl) (i_ProofSame_c (a:=x22.2.2) (b:=x43.2.2) s99 hb102 hb103 hx74) ?_
 rintro _ w104 ⟨rfl,hst⟩
 have hst:=k101 hst c0
 refine L_not_ rfl rfl (L_pick (v:=Bo b76) rfl rfl (congrArg Value.bool (so hb76)) (nn ?_))
 have hst:=hst.gets [4,6,4,6] rfl
 exact rj hR77 ⟨rfl,rfl,rfl,rfl,rfl,(Star.keepN 4 hst)⟩
 intro f w_ hR
 obtain ⟨sf3,sf4,sf6,sf7,sf53,hst⟩:=rk hR77 hR
 refine W_cond (b:=b76) sf53 (fun hc105=>?_) (fun hc105=>?_)
 have hF:=(ite_t hc105).symm.trans hF
 refine sq (aB rfl (nn (W_ret (retG1 (v1:=Bo false) Try.results9 rfl ?_))))
 obtain rfl:=so hF
 exact ⟨rfl,(Star.down (Star.keepN 0 hst) l9 c0)⟩
 have hF:=(ite_f hc105).symm.trans hF
 refine W_skip (W_seq (sq (mF sf6 rfl (L_eql rfl rfl rfl (nn (W_cond (b:=(x22.1 == 1)) rfl (fun hc106=>?_) (fun hc106=>?_)))))))
 have hF:=(ite_t hc106).symm.trans hF
 refine W_seq ?_
 obtain ⟨x114,hx114,hF⟩:=bind_some hF
 obtain ⟨b125,hb125,hF⟩:=bind_some hF
 obtain ⟨R126,hR126⟩:=exR fun f w_=>f 2 = Bo b125∧Star H9 w_ ([])
 refine W_join R126 ?_ ?_
 refine W_region (mF sf3 rfl (mF sf7 rfl ?_))
 obtain ⟨H127b,l128,s129,z130,k131⟩:=hst.borrow
 have hb132 : (rS 43 (rCon 112)).rel H127b [r9_0] x2.1:=fz_own 0 z130 rfl
 have hb133 : (rS 4 RP.bool).rel H127b [r33_0] x22.2.1:=fz_own 1 z130 rfl
 refine L_call rfl Try.call23 (ops2 rfl rfl) (i_SatisfiesAll_c (list:=x2.1) (values:=x22.2.1) s129 hb132 hb133 hx114) ?_
 rintro _ w134 ⟨rfl,hst⟩
 have hst:=k131 hst c0
 refine mB rfl (L_split (d:=59) (b:=x114) rfl (fun hc135=>?_) (fun hc135=>?_))
 rw [ite_t hc135] at hb125
 obtain ⟨x123,hx123,hb125⟩:=bind_some hb125
 refine L_lda (cs:=[r9_1,I x2.2.1.bound]) rfl Try.isAgg43 Try.sizeOf43 sf4 (At.sub0 (Blk.at (Star.blkAt 3 hst rfl)) 0 2) rfl (mF sf7 rfl ?_)
 obtain ⟨H136b,l137,s138,z139,k140⟩:=hst.borrow
 have hb141 : (rS 112 rTerm).rel H136b [r9_1] x2.2.1.terms:=fz_own 2 z139 rfl
 have hb142 : (rS 4 RP.bool).rel H136b [r33_0] x22.2.1:=fz_own 1 z139 rfl
 refine L_call rfl Try.call40 (ops2 rfl rfl) (i_EvalConstraint_c (c:=x2.2.1) (values:=x22.2.1) s138 hb141 hb142 hx123) ?_
 rintro _ w143 ⟨rfl,hst⟩
 have hst:=k140 hst c0
 refine L_not_ rfl rfl (L_pick (v:=Bo b125) rfl rfl (congrArg Value.bool (so hb125)) (aB rfl (nn (rj hR126 ⟨rfl,(Star.keepN 0 hst)⟩))))
 rw [ite_f hc135] at hb125
 refine ps rfl (ps rfl (ps rfl (ps rfl (L_pick (v:=Bo b125) rfl rfl (congrArg Value.bool (so hb125)) (aB rfl (nn (rj hR126 ⟨rfl,(Star.keepN 0 hst)⟩)))))))
 intro f w_ hR
 obtain ⟨sf2,hst⟩:=rk hR126 hR
 refine W_ret (retG1 (v1:=Bo b125) Try.results9 sf2 ?_)
 obtain rfl:=so hF
 exact ⟨rfl,(Star.down hst l9 c0)⟩
 have hF:=(ite_f hc106).symm.trans hF
 refine W_skip (W_seq (sq (aI rfl (nn ?_))))
 obtain ⟨j147,hL147,hF⟩:=bind_some hF
 obtain ⟨R147,hR147⟩:=exR fun f w_=>∃ n_146 : Int,j147 = .nx n_146∧Star H9 w_ ([])
 refine W_join R147 ?_ ?_
 refine W_block ?_
 obtain ⟨I147,hI147⟩:=exI fun n f w_=>∃ n_146 : Int,whileL (l_FnProveConstraint_b1 x2 x22) n n_146 = some j147∧f 3 = r9_0∧f 4 = Pt g12∧f 6 = I x22.1∧f 12 = I n_146∧Star H9 w_ ([oF 43 (rCon 112) r9_0 x2.1,oF 112 rTerm r9_1 x2.2.1.terms,box g12 43 #[r9_1,I x2.2.1.bound]])
 have hst:=hst.gets [3,3,2] rfl
 refine W_loop I147 (n:=fu) ?_ ?_
 exact ij hI147 ⟨0,hL147,sf3,sf4,sf6,rfl,(Star.keepN 3 hst)⟩
 intro n147 f w_ hI
 obtain ⟨n_146,hL147,sf3,sf4,sf6,sf12,hst⟩:=ik hI147 hI
 rcases n147 with _ | n147
 exact (while_zero hL147).elim
 obtain ⟨o147,hB147,hL147⟩:=while_succ hL147
 rw [l_FnProveConstraint_b1] at hB147
 refine W_seq (W_seq ?_)
 obtain ⟨R148,hR148⟩:=exR fun f w_=>f 3 = r9_0∧f 4 = Pt g12∧f 6 = I x22.1∧f 12 = I n_146∧f 70 = Bo ((decide (n_146 < 4096)) && (x22.1 == 2))∧Star H9 w_ ([oF 43 (rCon 112) r9_0 x2.1,oF 112 rTerm r9_1 x2.2.1.terms,box g12 43 #[r9_1,I x2.2.1.bound]])
 refine W_join R148 ?_ ?_
 refine W_region (mF sf12 rfl (L_lss rfl rfl rfl (mB rfl (L_split (d:=67) (b:=decide (n_146 < 4096)) rfl (fun hc149=>?_) (fun hc149=>?_)))))
 refine mF sf6 rfl (L_eql rfl rfl rfl (L_pick (v:=Bo ((decide (n_146 < 4096)) && (x22.1 == 2))) rfl rfl (and_t hc149 rfl) (nn (rj hR148 ⟨sf3,sf4,sf6,sf12,rfl,hst⟩))))
 refine ps rfl (ps rfl (L_pick (v:=Bo ((decide (n_146 < 4096)) && (x22.1 == 2))) rfl rfl (and_f hc149) (nn (rj hR148 ⟨sf3,sf4,sf6,sf12,rfl,hst⟩))))
 intro f w_ hR
 obtain ⟨sf3,sf4,sf6,sf12,sf70,hst⟩:=rk hR148 hR
 refine W_cond (b:=((decide (n_146 < 4096)) && (x22.1 == 2))) sf70 (fun hc150=>?_) (fun hc150=>?_)
 have hB147:=(ite_t hc150).symm.trans hB147
 refine W_skip (W_seq (W_block (W_seq ?_)))
 obtain ⟨x156,hx156,hB147⟩:=bind_some hB147
 refine W_region (mF sf12 rfl ?_)
 obtain ⟨H159b,l160,s161,z162,k163⟩:=hst.borrow
 refine L_call rfl Try.call22 (ops1 rfl) (l_cpValues_c (n_:=n_146) s161 hx156) ?_
 rintro r164_0 w164 ⟨_,rfl,hst⟩
 have hst:=k163 hst (co closed_bool c0)
 refine aV r164_0 rfl (nq ?_)
 obtain ⟨x173,hx173,hB147⟩:=bind_some hB147
 obtain ⟨b184,hb184,hB147⟩:=bind_some hB147
 obtain ⟨R185,hR185⟩:=exR fun f w_=>f 3 = r9_0∧f 4 = Pt g12∧f 6 = I x22.1∧f 12 = I n_146∧f 83 = Bo b184∧Star H9 w_ ([oF 43 (rCon 112) r9_0 x2.1,oF 112 rTerm r9_1 x2.2.1.terms,box g12 43 #[r9_1,I x2.2.1.bound]])
 refine W_join R185 ?_ ?_
 refine W_region (mF sf3 rfl (mV r164_0 rfl ?_))
 obtain ⟨H186b,l187,s188,z189,k190⟩:=hst.borrow
 have hb191 : (rS 43 (rCon 112)).rel H186b [r9_0] x2.1:=fz_own 1 z189 rfl
 have hb192 : (rS 4 RP.bool).rel H186b [r164_0] x156:=fz_own 0 z189 rfl
 refine L_call rfl Try.call23 (ops2 rfl rfl) (i_SatisfiesAll_c (list:=x2.1) (values:=x156) s188 hb191 hb192 hx173) ?_
 rintro _ w193 ⟨rfl,hst⟩
 have hst:=k190 hst c0
 refine mB rfl (L_split (d:=78) (b:=x173) rfl (fun hc194=>?_) (fun hc194=>?_))
 rw [ite_t hc194] at hb184
 obtain ⟨x182,hx182,hb184⟩:=bind_some hb184
 refine L_lda (cs:=[r9_1,I x2.2.1.bound]) rfl Try.isAgg43 Try.sizeOf43 sf4 (At.sub0 (Blk.at (Star.blkAt 3 hst rfl)) 0 2) rfl (mV r164_0 rfl ?_)
 obtain ⟨H195b,l196,s197,z198,k199⟩:=hst.borrow
 have hb200 : (rS 112 rTerm).rel H195b [r9_1] x2.2.1.terms:=fz_own 2 z198 rfl
 have hb201 : (rS 4 RP.bool).rel H195b [r164_0] x156:=fz_own 0 z198 rfl
 refine L_call rfl Try.call40 (ops2 rfl rfl) (i_EvalConstraint_c (c:=x2.2.1) (values:=x156) s197 hb200 hb201 hx182) ?_
 rintro _ w202 ⟨rfl,hst⟩
 have hst:=k199 hst c0
 refine L_not_ rfl rfl (L_pick (v:=Bo b184) rfl rfl (congrArg Value.bool (so hb184)) (nn ?_))
 have hst:=hst.gets [3,3,3] rfl
 exact rj hR185 ⟨sf3,sf4,sf6,sf12,rfl,(Star.keepN 3 hst)⟩
 rw [ite_f hc194] at hb184
 refine ps rfl (ps rfl (ps rfl (ps rfl (L_pick (v:=Bo b184) rfl rfl (congrArg Value.bool (so hb184)) (nn ?_)))))
 have hst:=hst.gets [3,3,3] rfl
 exact rj hR185 ⟨sf3,sf4,sf6,sf12,rfl,(Star.keepN 3 hst)⟩
 intro f w_ hR
 obtain ⟨sf3,sf4,sf6,sf12,sf83,hst⟩:=rk hR185 hR
 refine W_cond (b:=b184) sf83 (fun hc203=>?_) (fun hc203=>?_)
 have hB147:=(ite_t hc203).symm.trans hB147
 refine sq (aB rfl (nn (W_ret (retG1 (v1:=Bo false) Try.results9 rfl ?_))))
 obtain rfl:=so hB147
 obtain rfl:=so hL147
 obtain rfl:=so hF
 exact ⟨rfl,(Star.down (Star.keepN 0 hst) l9 c0)⟩
 have hB147:=(ite_f hc203).symm.trans hB147
 refine W_skip (W_region (mF sf12 rfl (L_add rfl rfl rfl (aI rfl (nn ?_)))))
 obtain rfl:=so hB147
 show ∃ m,m < _∧I147 m _ _
 refine ⟨n147,Nat.lt_succ_self _,?_⟩
 exact ij hI147 ⟨i64 (n_146 + 1),hL147,sf3,sf4,sf6,rfl,hst⟩
 have hB147:=(ite_f hc150).symm.trans hB147
 refine W_exit ?_
 obtain rfl:=so hB147
 obtain rfl:=so hL147
 exact rj hR147 ⟨n_146,rfl,(Star.keepN 0 hst)⟩
 intro f w_ hR
 obtain ⟨n_146,rfl,hst⟩:=rk hR147 hR
 refine sq (aB rfl (nn (W_ret (retG1 (v1:=Bo true) Try.results9 rfl ?_))))
 obtain rfl:=so hF
 exact ⟨rfl,(Star.down hst l9 c0)⟩
end Go.Proofs.Yteeilbddjlpiaaa

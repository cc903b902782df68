/- Part of a proof by program: W3. -/
import Derived.Test.YtohpkefnmkdaeaaGreatDoorD1
import Derived.Test.YtohpkefnmkdaeaaGreatDoorW2
namespace Go.Proofs.YtohpkefnmkdaeaaGreatDoor
open Go Go.E Go.L Go.RowKit
set_option linter.unusedVariables false
set_option linter.unusedSimpArgs false
set_option maxRecDepth 100000
theorem s_l4Derive_c {fu : Nat} {d : Db} {s : Step} {v0_0 : Value} {v0_1 : Value} {v1_3 : Value} {H : FH} {w : World} (Z : Star H w []) (h0_0 : (rS 74 (rCon 126)).rel H [v0_0] d.list) (h0_1 : (rS 4 RP.bool).rel H [v0_1] d.gone) (h1_3 : (rS 126 rTerm).rel H [v1_3] s.given.terms) {r : Con × Bool} (hF : s_l4Derive fu d s = some r) :
 C Tryz.prog 177 #[.agg #[v0_0,v0_1],.agg #[I s.kind,I s.a,I s.b,v1_3,I s.given.bound]] w fun v w'=>∃ (u1 : Value),v = .tuple #[.agg #[u1,I r.1.bound],Bo r.2]∧Star H w' [oF 126 rTerm u1 r.1.terms]:=by
 unfold s_l4Derive at hF
 refine C_enter Tryz.func177 rfl Tryz.ntmps177 rfl (sq (L_box (v:=.agg #[v0_0,v0_1]) (cs:=#[v0_0,v0_1]) rfl rfl rfl Z (fun g7 w8 Z=>L_box (v:=.agg #[I s.kind,I s.a,I s.b,v1_3,I s.given.bound]) (cs:=#[I s.kind,I s.a,I s.b,v1_3,I s.given.bound]) rfl rfl rfl Z (fun g9 w10 Z=>L_al (cs:=#[S0,I 0]) rfl Tryz.zeroValue74 rfl Z (fun g11 w12 Z=>aB rfl (nq (sq (fA 0 fa_76_0 rfl rfl (ldB 1 Z Tryz.isAgg3 rfl rfl rfl (L_eql rfl rfl rfl (nn (W_cond (b:=(s.kind == 6)) rfl (fun hc13=>?_) (fun hc13=>?_)))))))))))))
 have hF:=(ite_t hc13).symm.trans hF
 refine W_seq ?_
 obtain ⟨x19,hx19,hF⟩:=bind_some hF
 refine W_region (fA 1 fa_76_1 rfl rfl (ldB 1 Z Tryz.isAgg3 rfl rfl rfl ?_))
 obtain ⟨H23b,l24,s25,z26,k27⟩:=Z.borrow
 refine L_call rfl Tryz.call188 (ops1 rfl) (s_LiteralAxiom_c (lit:=s.a) s25 hx19) ?_
 rintro _ w28 ⟨r28_0,rfl,Z⟩
 have Z:=k27 Z (co closed_term c0)
 refine L_ex (v:=.agg #[r28_0,I x19.1.bound]) rfl rfl rfl (L_ex (v:=Bo x19.2) rfl rfl rfl (L_staB (vs:=#[r28_0,I x19.1.bound]) (cs2:=#[r28_0,I x19.1.bound]) 1 rfl Tryz.sizeOf74 rfl rfl rfl (ones_cons (one_len (Star.len 0 Z rfl)) (ones_cons rfl ones_nil)) Z rfl (by show 0 + 2≤2; decide) rfl (fun w30 Z=>aB rfl (nn (W_ret (retG2 (v1:=.agg #[r28_0,I x19.1.bound]) (v2:=Bo x19.2) Tryz.results177 (resV_agg Tryz.isAgg74 Tryz.sizeOf74 rfl (Star.blkAt 0 Z rfl) rfl) rfl ?_))))))
 obtain rfl:=so hF
 have Z:=Z.get 1 rfl
 exact ⟨r28_0,rfl,(Star.keepN 1 Z)⟩
 have hF:=(ite_f hc13).symm.trans hF
 refine W_skip (W_seq (sq (fA 0 fa_76_0 rfl rfl (ldB 1 Z Tryz.isAgg3 rfl rfl rfl (L_eql rfl rfl rfl (nn (W_cond (b:=(s.kind == 7)) rfl (fun hc31=>?_) (fun hc31=>?_))))))))
 have hF:=(ite_t hc31).symm.trans hF
 refine W_seq ?_
 obtain ⟨x37,hx37,hF⟩:=bind_some hF
 obtain ⟨x45,hx45,hF⟩:=bind_some hF
 obtain ⟨b58,hb58,hF⟩:=bind_some hF
 obtain ⟨R65,hR65⟩:=exR fun f w_=>∃ H63 : FH,∃ v61_g11_0 : Value,Le H H63∧f 4 = Pt g11∧f 5 = Bo b58∧Star H63 w_ ([oF 126 rTerm v61_g11_0 x37.terms,box g11 74 #[v61_g11_0,I x37.bound]])
 refine W_join R65 ?_ ?_
 rcases Bool.eq_false_or_eq_true x45 with hc66 | hc66
 rw [ite_t hc66] at hb58
 obtain ⟨x47,hx47,hb58⟩:=bind_some hb58
 obtain ⟨x56,hx56,hb58⟩:=bind_some hb58
 have Z:=Z.gets [2,2] rfl
 refine W_drawS 14 [isV (Pq g9 3),isV (.agg #[v1_3,I s.given.bound]),exA fun u_0=>isV (.agg #[u_0,I x37.bound]),isV (Pq g9 3),isV (.agg #[v1_3,I s.given.bound]),isV (Bo x45),isV (Bo x45),isV (.agg #[v0_0,v0_1]),anyF,isV (Pq g9 3),isV (.agg #[v1_3,I s.given.bound]),isV (Bo x56),isV (Bo b58),anyF] [box g9 76 #[I s.kind,I s.a,I s.b,v1_3,I s.given.bound],box g7 158 #[v0_0,v0_1]] [.base (box g11 74 #[S0,I 0]) (some 13),.made 2 20 (fun v_=>oF 126 rTerm (aggC v_ 0) x37.terms) none,.made 8 26 (fun v_=>oF 74 (rCon 126) v_ x47) none,.madeN 13 [20] (fun vs_=>box g11 74 #[(aggC (vs_.getD 0 undef) 0),I x37.bound]) none] ([]) [([],[]),([],[]),([],[1]),([],[]),([],[]),([],[]),([],[]),([],[]),([],[2]),([],[]),([],[]),([2],[2]),([],[]),([0,1],[1,3])] (S:=[(none,[],some 13),(some 2,[20],none),(some 8,[26],none),(some 13,[20],none)]) Tryz_mix (by kernel_rfl) rfl (by kernel_rfl) (amF_cons (mono_V _) (amF_cons (mono_V _) (amF_cons (mono_exA fun _=>mono_V _) (amF_cons (mono_V _) (amF_cons (mono_V _) (amF_cons (mono_V _) (amF_cons (mono_V _) (amF_cons (mono_V _) (amF_cons (mono_any) (amF_cons (mono_V _) (amF_cons (mono_V _) (amF_cons (mono_V _) (amF_cons (mono_V _) (amF_cons (mono_any) amF_nil)))))))))))))) Z ?_ (fun f w_ H60 hS60 hE60 hT60 Z=>?_)
 refine opsS_cons (fun f w_ _ _ s _ _ Z=>fA 3 fa_76_3 ((s 3 rfl).trans rfl) rfl (nO rfl rfl Z)) (opsS_cons (fun f w_ _ _ _ _ p Z=>L_lda (cs:=[v1_3,I s.given.bound]) rfl Tryz.isAgg74 Tryz.sizeOf74 (p 0 18 rfl rfl) (At.sub0 (Blk.at (Star.blkAt 0 Z rfl)) 3 2) rfl (nO rfl rfl Z)) (opsS_cons ?_ ?_))
 intro f w_ H60 X60 hS60 hE60 hP60 Z
 obtain ⟨H90b,l91,s92,z93,k94⟩:=Z.borrow
 refine L_call rfl Tryz.call160 (ops1 (hP60 1 19 rfl rfl)) (s_l1Copy_c (c:=s.given) s92 (RP.mono _ h1_3 (Le.trans hE60 l91)) hx37) ?_
 rintro _ w95 ⟨r95_0,rfl,Z⟩
 have Z:=k94 Z (co closed_term c0)
 have Z:=Z.gets [2,2] rfl
 exact L_nil ⟨rfl,_,_,rfl,Le.refl _,fun _ _=>⟨_,rfl⟩,Z⟩
 refine opsS_cons (fun f w_ _ _ s _ _ Z=>fA 3 fa_76_3 ((s 3 rfl).trans rfl) rfl (nO rfl rfl Z)) (opsS_cons (fun f w_ _ _ _ _ p Z=>L_lda (cs:=[v1_3,I s.given.bound]) rfl Tryz.isAgg74 Tryz.sizeOf74 (p 3 21 rfl rfl) (At.sub0 (Blk.at (Star.blkAt 0 Z rfl)) 3 2) rfl (nO rfl rfl Z)) (opsS_cons ?_ ?_))
 intro f w_ H60 X60 hS60 hE60 hP60 Z
 obtain ⟨H97b,l98,s99,z100,k101⟩:=Z.borrow
 refine L_call rfl Tryz.call123 (ops1 (hP60 4 22 rfl rfl)) (s_ConstraintValid_c (c:=s.given) s99 (RP.mono _ h1_3 (Le.trans hE60 l98)) hx45) ?_
 rintro _ w102 ⟨rfl,Z⟩
 have Z:=k101 Z c0
 exact L_nil ⟨rfl,_,_,rfl,Le.refl _,fun _ _=>rfl,Z⟩
 refine opsS_cons (fun f w_ _ _ _ _ p Z=>mF (p 5 23 rfl rfl) rfl (nO rfl rfl Z)) (opsS_cons (fun f w_ _ _ s _ p Z=>L_lda (cs:=[v0_0,v0_1]) (g_yes rfl (Eq.trans (p 6 24 rfl rfl) (congrArg Value.bool hc66)) rfl) Tryz.isAgg158 Tryz.sizeOf158 ((s 2 rfl).trans rfl) (At.sub0 (Blk.at (Star.blkAt 1 Z rfl)) 0 2) rfl (nO rfl rfl Z)) (opsS_cons ?_ ?_))
 intro f w_ H60 X60 hS60 hE60 hP60 Z
 refine L_call (g_yes rfl (Eq.trans (hP60 6 24 rfl rfl) (congrArg Value.bool hc66)) rfl) Tryz.call159 (ops1 (hP60 7 25 rfl rfl)) (s_l4Kept_c (d:=d) Z (RP.mono _ h0_0 hE60) (RP.mono _ h0_1 hE60) hx47) ?_
 rintro r103_0 w103 ⟨H103,l103,_,rfl,Z⟩
 have Z:=Z.gets [2,2] rfl
 exact L_nil ⟨rfl,_,_,rfl,l103,fun _ _=>trivial,Z⟩
 refine opsS_cons (fun f w_ _ _ s _ p Z=>L_fa (o':=3) (g_yes rfl (Eq.trans (p 6 24 rfl rfl) (congrArg Value.bool hc66)) rfl) fa_76_3 ((s 3 rfl).trans rfl) rfl (nO rfl rfl Z)) (opsS_cons (fun f w_ _ _ _ _ p Z=>L_lda (cs:=[v1_3,I s.given.bound]) (g_yes rfl (Eq.trans (p 6 24 rfl rfl) (congrArg Value.bool hc66)) rfl) Tryz.isAgg74 Tryz.sizeOf74 (p 9 27 rfl rfl) (At.sub0 (Blk.at (Star.blkAt 0 Z rfl)) 3 2) rfl (nO rfl rfl Z)) (opsS_cons ?_ ?_))
 intro f w_ H60 X60 hS60 hE60 hP60 Z
 have Z : Star H60 w_ (box g9 76 #[I s.kind,I s.a,I s.b,v1_3,I s.given.bound] :: box g7 158 #[v0_0,v0_1] :: oF 74 (rCon 126) (f 26) x47 :: X60):=Z
 obtain ⟨H106b,l107,s108,z109,k110⟩:=Z.borrow
 have hb111 : (rS 74 (rCon 126)).rel H106b [(f 26)] x47:=fz_own 2 z109 rfl
 refine L_call (g_yes rfl (Eq.trans (hP60 6 24 rfl rfl) (congrArg Value.bool hc66)) rfl) Tryz.call189 (ops2 rfl (hP60 10 28 rfl rfl)) (s_l3Rup_c (list:=x47) (c:=s.given) s108 hb111 (RP.mono _ h1_3 (Le.trans hE60 l107)) hx56) ?_
 rintro _ w112 ⟨rfl,Z⟩
 have Z:=k110 Z c0
 exact L_nil ⟨rfl,_,_,rfl,Le.refl _,fun _ _=>rfl,Z⟩
 refine opsS_cons (fun f w_ _ _ _ _ p Z=>pkT (v:=Bo b58) (p 6 24 rfl rfl) hc66 rfl (Eq.trans (p 11 29 rfl rfl) (congrArg Value.bool (so hb58))) (nO rfl rfl Z)) (opsS_cons ?_ ?_)
 intro f w_ H60 X60 hS60 hE60 hP60 Z
 have Z : Star H60 w_ (box g9 76 #[I s.kind,I s.a,I s.b,v1_3,I s.given.bound] :: box g7 158 #[v0_0,v0_1] :: box g11 74 #[S0,I 0] :: own (OR.ownS 126 (OR.frz rTerm)) [(aggC (f 20) 0)] x37.terms :: X60):=Z
 obtain ⟨u113_0,hv113⟩:=(hP60 2 20 rfl rfl)
 have hren : Star H60 w_ (box g9 76 #[I s.kind,I s.a,I s.b,v1_3,I s.given.bound] :: box g7 158 #[v0_0,v0_1] :: box g11 74 #[S0,I 0] :: own (OR.ownS 126 (OR.frz rTerm)) [(aggC (f 20) 0)] x37.terms :: X60):=Z
 rw [hv113] at hren
 have Z : Star H60 w_ (box g9 76 #[I s.kind,I s.a,I s.b,v1_3,I s.given.bound] :: box g7 158 #[v0_0,v0_1] :: box g11 74 #[S0,I 0] :: oF 126 rTerm u113_0 x37.terms :: X60):=hren
 refine L_staB (vs:=#[u113_0,I x37.bound]) (cs2:=#[u113_0,I x37.bound]) 2 rfl Tryz.sizeOf74 ((hS60 4 rfl).trans rfl) hv113 rfl (ones_cons (one_len (Star.len 3 Z rfl)) (ones_cons rfl ones_nil)) Z rfl (by show 0 + 2≤2; decide) rfl (fun w114 Z=>?_)
 have Z:=Z.gets [3,3,3] rfl
 have Z : Star H60 w114 (box g9 76 #[I s.kind,I s.a,I s.b,v1_3,I s.given.bound] :: box g7 158 #[v0_0,v0_1] :: own (OR.ownS 126 (OR.frz rTerm)) [(aggC (f 20) 0)] x37.terms :: box g11 74 #[(aggC (f 20) 0),I x37.bound] :: X60):=by rw [hv113]; exact Z
 exact L_nil ⟨rfl,Bo false,_,rfl,Le.refl _,(fun _ h=>nomatch h),Z⟩
 exact opsS_nil
 have Z : Star H60 w_ ([box g9 76 #[I s.kind,I s.a,I s.b,v1_3,I s.given.bound],box g7 158 #[v0_0,v0_1],own (OR.ownS 126 (OR.frz rTerm)) [(aggC (f 20) 0)] x37.terms,oF 74 (rCon 126) (f 26) x47,box g11 74 #[(aggC (f 20) 0),I x37.bound]]):=Z
 refine aF (hT60 12 30 rfl rfl) rfl (nn ?_)
 have Z:=Z.gets [4,3] rfl
 exact rj hR65 ⟨H60,(aggC (f 20) 0),hE60,((hS60 4 rfl).trans rfl),rfl,(Star.keepN 2 Z)⟩
 rw [ite_f hc66] at hb58
 have Z:=Z.gets [2,2] rfl
 refine W_drawS 14 [isV (Pq g9 3),isV (.agg #[v1_3,I s.given.bound]),exA fun u_0=>isV (.agg #[u_0,I x37.bound]),isV (Pq g9 3),isV (.agg #[v1_3,I s.given.bound]),isV (Bo x45),isV (Bo x45),isV (undef),isV (undef),isV (undef),isV (undef),isV (undef),isV (Bo b58),anyF] [box g9 76 #[I s.kind,I s.a,I s.b,v1_3,I s.given.bound],box g7 158 #[v0_0,v0_1]] [.base (box g11 74 #[S0,I 0]) (some 13),.made 2 20 (fun v_=>oF 126 rTerm (aggC v_ 0) x37.terms) none,.madeN 13 [20] (fun vs_=>box g11 74 #[(aggC (vs_.getD 0 undef) 0),I x37.bound]) none] ([]) [([],[]),([],[]),([],[1]),([],[]),([],[]),([],[]),([],[]),([],[]),([],[]),([],[]),([],[]),([],[]),([],[]),([0,1],[1,2])] (S:=[(none,[],some 13),(some 2,[20],none),(some 13,[20],none)]) Tryz_mix (by kernel_rfl) rfl (by kernel_rfl) (amF_cons (mono_V _) (amF_cons (mono_V _) (amF_cons (mono_exA fun _=>mono_V _) (amF_cons (mono_V _) (amF_cons (mono_V _) (amF_cons (mono_V _) (amF_cons (mono_V _) (amF_cons (mono_V _) (amF_cons (mono_V _) (amF_cons (mono_V _) (amF_cons (mono_V _) (amF_cons (mono_V _) (amF_cons (mono_V _) (amF_cons (mono_any) amF_nil)))))))))))))) Z ?_ (fun f w_ H60 hS60 hE60 hT60 Z=>?_)
 refine opsS_cons (fun f w_ _ _ s _ _ Z=>fA 3 fa_76_3 ((s 3 rfl).trans rfl) rfl (nO rfl rfl Z)) (opsS_cons (fun f w_ _ _ _ _ p Z=>L_lda (cs:=[v1_3,I s.given.bound]) rfl Tryz.isAgg74 Tryz.sizeOf74 (p 0 18 rfl rfl) (At.sub0 (Blk.at (Star.blkAt 0 Z rfl)) 3 2) rfl (nO rfl rfl Z)) (opsS_cons ?_ ?_))
 intro f w_ H60 X60 hS60 hE60 hP60 Z
 obtain ⟨H129b,l130,s131,z132,k133⟩:=Z.borrow
 refine L_call rfl Tryz.call160 (ops1 (hP60 1 19 rfl rfl)) (s_l1Copy_c (c:=s.given) s131 (RP.mono _ h1_3 (Le.trans hE60 l130)) hx37) ?_
 rintro _ w134 ⟨r134_0,rfl,Z⟩
 have Z:=k133 Z (co closed_term c0)
 have Z:=Z.gets [2,2] rfl
 exact L_nil ⟨rfl,_,_,rfl,Le.refl _,fun _ _=>⟨_,rfl⟩,Z⟩
 refine opsS_cons (fun f w_ _ _ s _ _ Z=>fA 3 fa_76_3 ((s 3 rfl).trans rfl) rfl (nO rfl rfl Z)) (opsS_cons (fun f w_ _ _ _ _ p Z=>L_lda (cs:=[v1_3,I s.given.bound]) rfl Tryz.isAgg74 Tryz.sizeOf74 (p 3 21 rfl rfl) (At.sub0 (Blk.at (Star.blkAt 0 Z rfl)) 3 2) rfl (nO rfl rfl Z)) (opsS_cons ?_ ?_))
 intro f w_ H60 X60 hS60 hE60 hP60 Z
 obtain ⟨H136b,l137,s138,z139,k140⟩:=Z.borrow
 refine L_call rfl Tryz.call123 (ops1 (hP60 4 22 rfl rfl)) (s_ConstraintValid_c (c:=s.given) s138 (RP.mono _ h1_3 (Le.trans hE60 l137)) hx45) ?_
 rintro _ w141 ⟨rfl,Z⟩
 have Z:=k140 Z c0
 exact L_nil ⟨rfl,_,_,rfl,Le.refl _,fun _ _=>rfl,Z⟩
 refine opsS_cons (fun f w_ _ _ _ _ p Z=>mF (p 5 23 rfl rfl) rfl (nO rfl rfl Z)) (oP (fun _ _ p=>gN (p 6 24 rfl rfl) hc66 rfl) (fun _=>rfl) (oP (fun _ _ p=>gN (p 6 24 rfl rfl) hc66 rfl) (fun _=>rfl) (oP (fun _ _ p=>gN (p 6 24 rfl rfl) hc66 rfl) (fun _=>rfl) (oP (fun _ _ p=>gN (p 6 24 rfl rfl) hc66 rfl) (fun _=>rfl) (oP (fun _ _ p=>gN (p 6 24 rfl rfl) hc66 rfl) (fun _=>rfl) (opsS_cons (fun f w_ _ _ _ _ p Z=>pkT (v:=Bo b58) (p 6 24 rfl rfl) hc66 rfl (congrArg Value.bool (so hb58)) (nO rfl rfl Z)) (opsS_cons ?_ ?_)))))))
 intro f w_ H60 X60 hS60 hE60 hP60 Z
 have Z : Star H60 w_ (box g9 76 #[I s.kind,I s.a,I s.b,v1_3,I s.given.bound] :: box g7 158 #[v0_0,v0_1] :: box g11 74 #[S0,I 0] :: own (OR.ownS 126 (OR.frz rTerm)) [(aggC (f 20) 0)] x37.terms :: X60):=Z
 obtain ⟨u142_0,hv142⟩:=(hP60 2 20 rfl rfl)
 have hren : Star H60 w_ (box g9 76 #[I s.kind,I s.a,I s.b,v1_3,I s.given.bound] :: box g7 158 #[v0_0,v0_1] :: box g11 74 #[S0,I 0] :: own (OR.ownS 126 (OR.frz rTerm)) [(aggC (f 20) 0)] x37.terms :: X60):=Z
 rw [hv142] at hren
 have Z : Star H60 w_ (box g9 76 #[I s.kind,I s.a,I s.b,v1_3,I s.given.bound] :: box g7 158 #[v0_0,v0_1] :: box g11 74 #[S0,I 0] :: oF 126 rTerm u142_0 x37.terms :: X60):=hren
 refine L_staB (vs:=#[u142_0,I x37.bound]) (cs2:=#[u142_0,I x37.bound]) 2 rfl Tryz.sizeOf74 ((hS60 4 rfl).trans rfl) hv142 rfl (ones_cons (one_len (Star.len 3 Z rfl)) (ones_cons rfl ones_nil)) Z rfl (by show 0 + 2≤2; decide) rfl (fun w143 Z=>?_)
 have Z:=Z.gets [3,3,3] rfl
 have Z : Star H60 w143 (box g9 76 #[I s.kind,I s.a,I s.b,v1_3,I s.given.bound] :: box g7 158 #[v0_0,v0_1] :: own (OR.ownS 126 (OR.frz rTerm)) [(aggC (f 20) 0)] x37.terms :: box g11 74 #[(aggC (f 20) 0),I x37.bound] :: X60):=by rw [hv142]; exact Z
 exact L_nil ⟨rfl,Bo false,_,rfl,Le.refl _,(fun _ h=>nomatch h),Z⟩
 exact opsS_nil
 have Z : Star H60 w_ ([box g9 76 #[I s.kind,I s.a,I s.b,v1_3,I s.given.bound],box g7 158 #[v0_0,v0_1],own (OR.ownS 126 (OR.frz rTerm)) [(aggC (f 20) 0)] x37.terms,box g11 74 #[(aggC (f 20) 0),I x37.bound]]):=Z
 refine aF (hT60 12 30 rfl rfl) rfl (nn ?_)
 have Z:=Z.gets [3,3] rfl
 exact rj hR65 ⟨H60,(aggC (f 20) 0),hE60,((hS60 4 rfl).trans rfl),rfl,(Star.keepN 2 Z)⟩
 intro f w_ hR
 obtain ⟨H63,v61_g11_0,l64,sf4,sf5,Z⟩:=rk hR65 hR
 refine W_ret (retG2 (v1:=.agg #[v61_g11_0,I x37.bound]) (v2:=Bo b58) Tryz.results177 (resV_agg Tryz.isAgg74 Tryz.sizeOf74 sf4 (Star.blkAt 1 Z rfl) rfl) sf5 ?_)
 obtain rfl:=so hF
 exact ⟨v61_g11_0,rfl,(Star.down (Star.keepN 1 Z) l64 (co closed_term c0))⟩
 have hF:=(ite_f hc31).symm.trans hF
 refine W_skip (W_seq (W_seq ?_))
 obtain ⟨x149,hx149,hF⟩:=bind_some hF
 refine W_region (L_lda (cs:=[v0_0,v0_1]) rfl Tryz.isAgg158 Tryz.sizeOf158 rfl (At.sub0 (Blk.at (Star.blkAt 2 Z rfl)) 0 2) rfl (fA 1 fa_76_1 rfl rfl (ldB 1 Z Tryz.isAgg3 rfl rfl rfl ?_)))
 obtain ⟨H151b,l152,s153,z154,k155⟩:=Z.borrow
 refine L_call rfl Tryz.call176 (ops2 rfl rfl) (s_l4Live_c (d:=d) (k:=s.a) s153 (RP.mono _ h0_0 l152) (RP.mono _ h0_1 l152) hx149) ?_
 rintro _ w156 ⟨rfl,Z⟩
 have Z:=k155 Z c0
 refine L_not_ rfl rfl (nn (W_cond (b:=(!x149)) rfl (fun hc157=>?_) (fun hc157=>?_)))
 have hF:=(ite_t hc157).symm.trans hF
 refine sq (L_bld rfl (parts0 ) (bld_74_  ) (L_staB (vs:=#[S0,I 0]) (cs2:=#[S0,I 0]) 0 rfl Tryz.sizeOf74 rfl rfl rfl (ones_cons rfl (ones_cons rfl ones_nil)) Z rfl (by show 0 + 2≤2; decide) rfl (fun w159 Z=>aB rfl (nn (W_ret (retG2 (v1:=.agg #[S0,I 0]) (v2:=Bo false) Tryz.results177 (resV_agg Tryz.isAgg74 Tryz.sizeOf74 rfl (Star.blkAt 0 Z rfl) rfl) rfl ?_))))))
 obtain rfl:=so hF
 have Z:=Star.addNil (R:=(OR.frz rTerm)) (e:=126) Z
 exact ⟨S0,rfl,(Star.keepN 1 Z)⟩
 have hF:=(ite_f hc157).symm.trans hF
 refine W_skip (W_seq ?_)
 obtain ⟨x161,hx161,hF⟩:=bind_some hF
 refine W_region (fA 0 fa_158_0 rfl rfl (ldB 2 Z Tryz.isAgg82 rfl rfl rfl (fA 1 fa_76_1 rfl rfl (ldB 1 Z Tryz.isAgg3 rfl rfl rfl (L_ix (r:=(rCon 126)) rfl Tryz.underlying82 Tryz.sizeOf74 rfl h0_0 rfl hx161 (fun g169 o170 cs_g169 hrk_hat171 hat171=>?_))))))
 obtain ⟨u172_0,rfl,hu172_0⟩:=rCon_iff.1 hrk_hat171
 refine L_lda (cs:=[u172_0,I x161.bound]) rfl Tryz.isAgg74 Tryz.sizeOf74 rfl (At.sub (AtH.at hat171 Z.sub) 0 2) rfl (L_al (cs:=#[S0,I 0]) rfl Tryz.zeroValue74 rfl Z (fun g173 w174 Z=>L_staB (vs:=#[u172_0,I x161.bound]) (cs2:=#[u172_0,I x161.bound]) 0 rfl Tryz.sizeOf74 rfl rfl rfl (ones_cons (one_len (slice_len hu172_0)) (ones_cons rfl ones_nil)) Z rfl (by show 0 + 2≤2; decide) rfl (fun w175 Z=>L_nil (W_seq (sq (fA 0 fa_76_0 rfl rfl (ldB 2 Z Tryz.isAgg3 rfl rfl rfl (nn (W_block (sq (L_eql rfl rfl rfl (aB rfl (nn (W_cond (b:=(s.kind == 1)) rfl (fun hc176=>?_) (fun hc176=>?_)))))))))))))))
 have hF:=(ite_t hc176).symm.trans hF
 refine W_seq (W_seq ?_)
 obtain ⟨x182,hx182,hF⟩:=bind_some hF
 refine W_region (L_lda (cs:=[v0_0,v0_1]) rfl Tryz.isAgg158 Tryz.sizeOf158 rfl (At.sub0 (Blk.at (Star.blkAt 3 Z rfl)) 0 2) rfl (fA 2 fa_76_2 rfl rfl (ldB 2 Z Tryz.isAgg3 rfl rfl rfl ?_)))
 obtain ⟨H184b,l185,s186,z187,k188⟩:=Z.borrow
 refine L_call rfl Tryz.call176 (ops2 rfl rfl) (s_l4Live_c (d:=d) (k:=s.b) s186 (RP.mono _ h0_0 l185) (RP.mono _ h0_1 l185) hx182) ?_
 rintro _ w189 ⟨rfl,Z⟩
 have Z:=k188 Z c0
 refine L_not_ rfl rfl (nn (W_cond (b:=(!x182)) rfl (fun hc190=>?_) (fun hc190=>?_)))
 have hF:=(ite_t hc190).symm.trans hF
 refine sq (L_bld rfl (parts0 ) (bld_74_  ) (L_staB (vs:=#[S0,I 0]) (cs2:=#[S0,I 0]) 1 rfl Tryz.sizeOf74 rfl rfl rfl (ones_cons rfl (ones_cons rfl ones_nil)) Z rfl (by show 0 + 2≤2; decide) rfl (fun w192 Z=>aB rfl (nn (W_ret (retG2 (v1:=.agg #[S0,I 0]) (v2:=Bo false) Tryz.results177 (resV_agg Tryz.isAgg74 Tryz.sizeOf74 rfl (Star.blkAt 0 Z rfl) rfl) rfl ?_))))))
 obtain rfl:=so hF
 have Z:=Star.addNil (R:=(OR.frz rTerm)) (e:=126) Z
 exact ⟨S0,rfl,(Star.keepN 1 Z)⟩
 have hF:=(ite_f hc190).symm.trans hF
 refine W_skip (W_seq ?_)
 obtain ⟨x194,hx194,hF⟩:=bind_some hF
 obtain ⟨x204,hx204,hF⟩:=bind_some hF
 refine W_drawS 10 [isV (.agg #[u172_0,I x161.bound]),isV (Pt g7),isV (v0_0),isV (Pq g9 2),isV (I s.b),isEl (rCon 126) x194 0,exD (isData (rS 126 rTerm) x194.terms) fun u_0=>isV (.agg #[u_0,I x194.bound]),tup2 (exA fun u_0=>isV (.agg #[u_0,I x204.1.bound])) (isV (Bo x204.2)),exA fun u_0=>isV (.agg #[u_0,I x204.1.bound]),isV (Bo x204.2)] [box g173 74 #[u172_0,I x161.bound],box g11 74 #[S0,I 0],box g9 76 #[I s.kind,I s.a,I s.b,v1_3,I s.given.bound],box g7 158 #[v0_0,v0_1]] [.made 7 60 (fun v_=>own (OR.ownS 126 (OR.frz rTerm)) [(aggC (tupC v_ 0) 0)] x204.1.terms) (some 8),.made 8 61 (fun v_=>oF 126 rTerm (aggC v_ 0) x204.1.terms) none] ([]) [([],[]),([],[]),([],[]),([],[]),([],[]),([],[]),([],[]),([],[0]),([0],[1]),([],[])] (S:=[(some 7,[60],some 8),(some 8,[61],none)]) Tryz_mix (by kernel_rfl) rfl (by kernel_rfl) (amF_cons (mono_V _) (amF_cons (mono_V _) (amF_cons (mono_V _) (amF_cons (mono_V _) (amF_cons (mono_V _) (amF_cons (mono_el _ _ _) (amF_cons (mono_exD (mono_data _ _) fun _=>mono_V _) (amF_cons (mono_tup2 (mono_exA fun _=>mono_V _) (mono_V _)) (amF_cons (mono_exA fun _=>mono_V _) (amF_cons (mono_V _) amF_nil)))))))))) Z ?_ (fun f w_ H208 hS208 hE208 hT208 Z=>?_)
 refine opsS_cons (fun f w_ _ _ s _ _ Z=>L_lda (cs:=[u172_0,I x161.bound]) rfl Tryz.isAgg74 Tryz.sizeOf74 ((s 6 rfl).trans rfl) (At.sub0 (Blk.at (Star.blkAt 0 Z rfl)) 0 2) rfl (nO rfl rfl Z)) (opsS_cons (fun f w_ _ _ s _ _ Z=>fA 0 fa_158_0 ((s 2 rfl).trans rfl) rfl (nO rfl rfl Z)) (opsS_cons (fun f w_ _ _ _ _ p Z=>ldB 3 Z Tryz.isAgg82 (p 1 54 rfl rfl) rfl rfl (nO rfl rfl Z)) (opsS_cons (fun f w_ _ _ s _ _ Z=>fA 2 fa_76_2 ((s 3 rfl).trans rfl) rfl (nO rfl rfl Z)) (opsS_cons (fun f w_ _ _ _ _ p Z=>ldB 2 Z Tryz.isAgg3 (p 3 56 rfl rfl) rfl rfl (nO rfl rfl Z)) (opsS_cons ?_ ?_)))))
 intro f w_ H208 X208 hS208 hE208 hP208 Z
 refine L_ix (r:=(rCon 126)) rfl Tryz.underlying82 Tryz.sizeOf74 (hP208 2 55 rfl rfl) (RP.mono _ h0_0 hE208) (hP208 4 57 rfl rfl) hx194 (fun g220 o221 cs_g220 hrk_hat222 hat222=>?_)
 obtain ⟨u223_0,rfl,hu223_0⟩:=rCon_iff.1 hrk_hat222
 exact L_nil ⟨rfl,_,_,rfl,Le.refl _,fun _ _=>⟨_,_,_,rfl,hrk_hat222,hat222⟩,Z⟩
 refine opsS_cons ?_ ?_
 intro f w_ H208 X208 hS208 hE208 hP208 Z
 obtain ⟨g224,o224,cs224,hv224,hrk_hat224,hat224⟩:=(hP208 5 58 rfl rfl)
 obtain ⟨u225_0,rfl,hu225_0⟩:=rCon_iff.1 hrk_hat224
 refine L_lda (cs:=[u225_0,I x194.bound]) rfl Tryz.isAgg74 Tryz.sizeOf74 hv224 (At.sub (AtH.at hat224 Z.sub) 0 2) rfl (L_nil ⟨rfl,_,_,rfl,Le.refl _,fun _ _=>⟨_,hu225_0,rfl⟩,Z⟩)
 refine opsS_cons ?_ ?_
 intro f w_ H208 X208 hS208 hE208 hP208 Z
 obtain ⟨u226_0,hu226_0,hv226⟩:=(hP208 6 59 rfl rfl)
 obtain ⟨H227b,l228,s229,z230,k231⟩:=Z.borrow
 refine L_call rfl Tryz.call190 (ops2 (hP208 0 53 rfl rfl) hv226) (s_AddConstraints_c (a:=x161) (b:=x194) s229 (RP.mono _ hu172_0 (Le.trans hE208 l228)) (RP.mono _ hu226_0 l228) hx204) ?_
 rintro _ w232 ⟨r232_0,rfl,Z⟩
 have Z:=k231 Z (co closed_term c0)
 have Z:=Z.gets [4,4,4,4] rfl
 exact L_nil ⟨rfl,_,_,rfl,Le.refl _,fun _ _=>⟨_,_,rfl,⟨_,rfl⟩,rfl⟩,Z⟩
 refine opsS_cons ?_ ?_
 intro f w_ H208 X208 hS208 hE208 hP208 Z
 have Z : Star H208 w_ (box g173 74 #[u172_0,I x161.bound] :: box g11 74 #[S0,I 0] :: box g9 76 #[I s.kind,I s.a,I s.b,v1_3,I s.given.bound] :: box g7 158 #[v0_0,v0_1] :: own (OR.ownS 126 (OR.frz rTerm)) [(aggC (tupC (f 60) 0) 0)] x204.1.terms :: X208):=Z
 obtain ⟨a234_0,a234_1,hv234,ht234_0,ht234_1⟩:=(hP208 7 60 rfl rfl)
 obtain ⟨u235_0,rfl⟩:=ht234_0
 obtain rfl:=ht234_1
 have hren : Star H208 w_ (box g173 74 #[u172_0,I x161.bound] :: box g11 74 #[S0,I 0] :: box g9 76 #[I s.kind,I s.a,I s.b,v1_3,I s.given.bound] :: box g7 158 #[v0_0,v0_1] :: own (OR.ownS 126 (OR.frz rTerm)) [(aggC (tupC (f 60) 0) 0)] x204.1.terms :: X208):=Z
 rw [hv234] at hren
 have Z : Star H208 w_ (box g173 74 #[u172_0,I x161.bound] :: box g11 74 #[S0,I 0] :: box g9 76 #[I s.kind,I s.a,I s.b,v1_3,I s.given.bound] :: box g7 158 #[v0_0,v0_1] :: oF 126 rTerm u235_0 x204.1.terms :: X208):=hren
 refine L_ex (v:=.agg #[u235_0,I x204.1.bound]) rfl hv234 rfl (L_nil ⟨rfl,_,_,rfl,Le.refl _,fun _ _=>⟨_,rfl⟩,Z⟩)
 refine opsS_cons ?_ ?_
 intro f w_ H208 X208 hS208 hE208 hP208 Z
 obtain ⟨a236_0,a236_1,hv236,ht236_0,ht236_1⟩:=(hP208 7 60 rfl rfl)
 obtain ⟨u237_0,rfl⟩:=ht236_0
 obtain rfl:=ht236_1
 refine L_ex (v:=Bo x204.2) rfl hv236 rfl (L_nil ⟨rfl,_,_,rfl,Le.refl _,fun _ _=>rfl,Z⟩)
 exact opsS_nil
 have Z : Star H208 w_ ([box g173 74 #[u172_0,I x161.bound],box g11 74 #[S0,I 0],box g9 76 #[I s.kind,I s.a,I s.b,v1_3,I s.given.bound],box g7 158 #[v0_0,v0_1],own (OR.ownS 126 (OR.frz rTerm)) [(aggC (f 61) 0)] x204.1.terms]):=Z
 obtain ⟨u238_0,hv238⟩:=(hT208 8 61 rfl rfl)
 have hren : Star H208 w_ ([box g173 74 #[u172_0,I x161.bound],box g11 74 #[S0,I 0],box g9 76 #[I s.kind,I s.a,I s.b,v1_3,I s.given.bound],box g7 158 #[v0_0,v0_1],own (OR.ownS 126 (OR.frz rTerm)) [(aggC (f 61) 0)] x204.1.terms]):=Z
 rw [hv238] at hren
 have Z : Star H208 w_ ([box g173 74 #[u172_0,I x161.bound],box g11 74 #[S0,I 0],box g9 76 #[I s.kind,I s.a,I s.b,v1_3,I s.given.bound],box g7 158 #[v0_0,v0_1],oF 126 rTerm u238_0 x204.1.terms]):=hren
 refine L_staB (vs:=#[u238_0,I x204.1.bound]) (cs2:=#[u238_0,I x204.1.bound]) 1 rfl Tryz.sizeOf74 ((hS208 4 rfl).trans rfl) hv238 rfl (ones_cons (one_len (Star.len 4 Z rfl)) (ones_cons rfl ones_nil)) Z rfl (by show 0 + 2≤2; decide) rfl (fun w239 Z=>aF (hT208 9 62 rfl rfl) rfl (nn (W_ret (retG2 (v1:=.agg #[u238_0,I x204.1.bound]) (v2:=Bo x204.2) Tryz.results177 (resV_agg Tryz.isAgg74 Tryz.sizeOf74 ((hS208 4 rfl).trans rfl) (Star.blkAt 0 Z rfl) rfl) rfl ?_))))
 obtain rfl:=so hF
 have Z:=Z.get 4 rfl
 exact ⟨u238_0,rfl,(Star.down (Star.keepN 1 Z) hE208 (co closed_term c0))⟩
 have hF:=(ite_f hc176).symm.trans hF
 refine sq (L_eql rfl rfl rfl (aB rfl (nn (W_cond (b:=(s.kind == 2)) rfl (fun hc240=>?_) (fun hc240=>?_)))))
 have hF:=(ite_t hc240).symm.trans hF
 refine W_seq ?_
 obtain ⟨x246,hx246,hF⟩:=bind_some hF
 refine W_region (L_lda (cs:=[u172_0,I x161.bound]) rfl Tryz.isAgg74 Tryz.sizeOf74 rfl (At.sub0 (Blk.at (Star.blkAt 0 Z rfl)) 0 2) rfl (fA 2 fa_76_2 rfl rfl (ldB 2 Z Tryz.isAgg3 rfl rfl rfl ?_)))
 obtain ⟨H250b,l251,s252,z253,k254⟩:=Z.borrow
 refine L_call rfl Tryz.call191 (ops2 rfl rfl) (s_MultiplyConstraint_c (c:=x161) (k:=s.b) s252 (RP.mono _ hu172_0 l251) hx246) ?_
 rintro _ w255 ⟨r255_0,rfl,Z⟩
 have Z:=k254 Z (co closed_term c0)
 refine L_ex (v:=.agg #[r255_0,I x246.1.bound]) rfl rfl rfl (L_ex (v:=Bo x246.2) rfl rfl rfl (L_staB (vs:=#[r255_0,I x246.1.bound]) (cs2:=#[r255_0,I x246.1.bound]) 2 rfl Tryz.sizeOf74 rfl rfl rfl (ones_cons (one_len (Star.len 0 Z rfl)) (ones_cons rfl ones_nil)) Z rfl (by show 0 + 2≤2; decide) rfl (fun w257 Z=>aB rfl (nn (W_ret (retG2 (v1:=.agg #[r255_0,I x246.1.bound]) (v2:=Bo x246.2) Tryz.results177 (resV_agg Tryz.isAgg74 Tryz.sizeOf74 rfl (Star.blkAt 0 Z rfl) rfl) rfl ?_))))))
 obtain rfl:=so hF
 have Z:=Z.get 1 rfl
 exact ⟨r255_0,rfl,(Star.keepN 1 Z)⟩
 have hF:=(ite_f hc240).symm.trans hF
 refine sq (L_eql rfl rfl rfl (aB rfl (nn (W_cond (b:=(s.kind == 3)) rfl (fun hc258=>?_) (fun hc258=>?_)))))
 have hF:=(ite_t hc258).symm.trans hF
 refine W_seq ?_
 obtain ⟨x264,hx264,hF⟩:=bind_some hF
 refine W_region (L_lda (cs:=[u172_0,I x161.bound]) rfl Tryz.isAgg74 Tryz.sizeOf74 rfl (At.sub0 (Blk.at (Star.blkAt 0 Z rfl)) 0 2) rfl (fA 2 fa_76_2 rfl rfl (ldB 2 Z Tryz.isAgg3 rfl rfl rfl ?_)))
 obtain ⟨H268b,l269,s270,z271,k272⟩:=Z.borrow
 refine L_call rfl Tryz.call192 (ops2 rfl rfl) (s_DivideConstraint_c (c:=x161) (k:=s.b) s270 (RP.mono _ hu172_0 l269) hx264) ?_
 rintro _ w273 ⟨r273_0,rfl,Z⟩
 have Z:=k272 Z (co closed_term c0)
 refine L_ex (v:=.agg #[r273_0,I x264.1.bound]) rfl rfl rfl (L_ex (v:=Bo x264.2) rfl rfl rfl (L_staB (vs:=#[r273_0,I x264.1.bound]) (cs2:=#[r273_0,I x264.1.bound]) 2 rfl Tryz.sizeOf74 rfl rfl rfl (ones_cons (one_len (Star.len 0 Z rfl)) (ones_cons rfl ones_nil)) Z rfl (by show 0 + 2≤2; decide) rfl (fun w275 Z=>aB rfl (nn (W_ret (retG2 (v1:=.agg #[r273_0,I x264.1.bound]) (v2:=Bo x264.2) Tryz.results177 (resV_agg Tryz.isAgg74 Tryz.sizeOf74 rfl (Star.blkAt 0 Z rfl) rfl) rfl ?_))))))
 obtain rfl:=so hF
 have Z:=Z.get 1 rfl
 exact ⟨r273_0,rfl,(Star.keepN 1 Z)⟩
 have hF:=(ite_f hc258).symm.trans hF
 refine sq (L_eql rfl rfl rfl (aB rfl (nn (W_cond (b:=(s.kind == 4)) rfl (fun hc276=>?_) (fun hc276=>?_)))))
 have hF:=(ite_t hc276).symm.trans hF
 refine W_seq ?_
 obtain ⟨x282,hx282,hF⟩:=bind_some hF
 refine W_region (L_lda (cs:=[u172_0,I x161.bound]) rfl Tryz.isAgg74 Tryz.sizeOf74 rfl (At.sub0 (Blk.at (Star.blkAt 0 Z rfl)) 0 2) rfl ?_)
 obtain ⟨H286b,l287,s288,z289,k290⟩:=Z.borrow
 refine L_call rfl Tryz.call193 (ops1 rfl) (s_SaturateConstraint_c (c:=x161) s288 (RP.mono _ hu172_0 l287) hx282) ?_
 rintro _ w291 ⟨r291_0,rfl,Z⟩
 have Z:=k290 Z (co closed_term c0)
 refine L_ex (v:=.agg #[r291_0,I x282.1.bound]) rfl rfl rfl (L_ex (v:=Bo x282.2) rfl rfl rfl (L_staB (vs:=#[r291_0,I x282.1.bound]) (cs2:=#[r291_0,I x282.1.bound]) 2 rfl Tryz.sizeOf74 rfl rfl rfl (ones_cons (one_len (Star.len 0 Z rfl)) (ones_cons rfl ones_nil)) Z rfl (by show 0 + 2≤2; decide) rfl (fun w293 Z=>aB rfl (nn (W_ret (retG2 (v1:=.agg #[r291_0,I x282.1.bound]) (v2:=Bo x282.2) Tryz.results177 (resV_agg Tryz.isAgg74 Tryz.sizeOf74 rfl (Star.blkAt 0 Z rfl) rfl) rfl ?_))))))
 obtain rfl:=so hF
 have Z:=Z.get 1 rfl
 exact ⟨r291_0,rfl,(Star.keepN 1 Z)⟩
 have hF:=(ite_f hc276).symm.trans hF
 refine W_skip (W_seq ?_)
 obtain ⟨x299,hx299,hF⟩:=bind_some hF
 refine W_region (L_lda (cs:=[u172_0,I x161.bound]) rfl Tryz.isAgg74 Tryz.sizeOf74 rfl (At.sub0 (Blk.at (Star.blkAt 0 Z rfl)) 0 2) rfl (fA 2 fa_76_2 rfl rfl (ldB 2 Z Tryz.isAgg3 rfl rfl rfl ?_)))
 obtain ⟨H303b,l304,s305,z306,k307⟩:=Z.borrow
 refine L_call rfl Tryz.call194 (ops2 rfl rfl) (s_WeakenConstraint_c (c:=x161) (variable_:=s.b) s305 (RP.mono _ hu172_0 l304) hx299) ?_
 rintro _ w308 ⟨r308_0,rfl,Z⟩
 have Z:=k307 Z (co closed_term c0)
 refine L_ex (v:=.agg #[r308_0,I x299.1.bound]) rfl rfl rfl (L_ex (v:=Bo x299.2) rfl rfl rfl (L_staB (vs:=#[r308_0,I x299.1.bound]) (cs2:=#[r308_0,I x299.1.bound]) 2 rfl Tryz.sizeOf74 rfl rfl rfl (ones_cons (one_len (Star.len 0 Z rfl)) (ones_cons rfl ones_nil)) Z rfl (by show 0 + 2≤2; decide) rfl (fun w310 Z=>aB rfl (nn (W_ret (retG2 (v1:=.agg #[r308_0,I x299.1.bound]) (v2:=Bo x299.2) Tryz.results177 (resV_agg Tryz.isAgg74 Tryz.sizeOf74 rfl (Star.blkAt 0 Z rfl) rfl) rfl ?_))))))
 obtain rfl:=so hF
 have Z:=Z.get 1 rfl
 exact ⟨r308_0,rfl,(Star.keepN 1 Z)⟩
theorem s_l4Run_c {fu : Nat} {list : List Con} {steps : List Step} {v0 : Value} {v1 : Value} {H : FH} {w : World} {R : List Ass} (Z : Star H w R) (h0 : (rS 74 (rCon 126)).rel H [v0] list) (h1 : (rS 76 (rStep 126)).rel H [v1] steps) {r : Db × Int} (hF : s_l4Run fu list steps = some r) :
 C Tryz.prog 158 #[v0,v1] w fun v w'=>∃ H' : FH,Le H H'∧∃ (u1 : Value) (u2 : Value),v = .tuple #[.agg #[u1,u2],I r.2]∧Star H' w' (oF 74 (rCon 126) u1 r.1.list :: oF 4 RP.bool u2 r.1.gone :: R):=by
 unfold s_l4Run at hF
 refine C_enter Tryz.func158 rfl Tryz.ntmps158 rfl (sq (L_al (cs:=#[S0,S0]) rfl Tryz.zeroValue158 rfl Z (fun g3 w4 Z=>aI rfl (nq ?_))))
 obtain ⟨x8,hx8,hF⟩:=bind_some hF
 obtain ⟨x12,hx12,hF⟩:=bind_some hF
 refine W_drawS 8 [anyF,isV (v0),anyF,isV (v0),isV (I (list.length : Int)),anyF,exA fun u_0=>exA fun u_1=>isV (.agg #[u_0,u_1]),anyF] [box g3 158 #[S0,S0]] [.made 0 11 (fun v_=>oF 74 (rCon 126) v_ ([])) (some 2),.made 2 13 (fun v_=>oF 74 (rCon 126) v_ x8) (some 6),.made 5 16 (fun v_=>oF 4 RP.bool v_ x12) (some 6),.made 6 17 (fun v_=>oF 74 (rCon 126) (aggC v_ 0) x8) none,.made 6 17 (fun v_=>oF 4 RP.bool (aggC v_ 1) x12) none,.made 7 6 (fun v_=>boxV v_ 158 #[S0,S0]) none] (R) [([],[0]),([],[]),([0],[1]),([],[]),([],[]),([],[2]),([1,2],[3,4]),([],[5])] (S:=[(some 0,[11],some 2),(some 2,[13],some 6),(some 5,[16],some 6),(some 6,[17],none),(some 6,[17],none),(some 7,[6],none)]) Tryz_mix (by kernel_rfl) rfl (by kernel_rfl) (amF_cons (mono_any) (amF_cons (mono_V _) (amF_cons (mono_any) (amF_cons (mono_V _) (amF_cons (mono_V _) (amF_cons (mono_any) (amF_cons (mono_exA fun _=>mono_exA fun _=>mono_V _) (amF_cons (mono_any) amF_nil)))))))) Z ?_ (fun f w_ H19 hS19 hE19 hT19 Z=>?_)
 refine opsS_cons ?_ ?_
 intro f w_ H19 X19 hS19 hE19 hP19 Z
 refine L_bs rfl parts0 (bs_82_0  ) Z (fun g31 w32 Z=>?_)
 have Z:=Star.mkRow (R:=(OR.frz (rCon 126))) [] [] 0 Z rfl rfl rfl (by decide)
 have Z:=Z.get 1 rfl
 exact L_nil ⟨rfl,_,_,rfl,Le.refl _,fun _ _=>trivial,Z⟩
 refine opsS_cons (fun f w_ _ _ s _ _ Z=>mF ((s 0 rfl).trans rfl) rfl (nO rfl rfl Z)) (opsS_cons ?_ ?_)
 intro f w_ H19 X19 hS19 hE19 hP19 Z
 have Z : Star H19 w_ (box g3 158 #[S0,S0] :: oF 74 (rCon 126) (f 11) ([]) :: X19):=Z
 have Z:=Z.get 1 rfl
 refine L_app (v:=(f 11)) (u:=v0) rfl et_82 rfl (hP19 1 12 rfl rfl) Z (RP.mono _ h0 hE19) hx8 (fun v35 w36 Z=>?_)
 have Z:=Z.get 1 rfl
 exact L_nil ⟨rfl,_,_,rfl,Le.refl _,fun _ _=>trivial,Z⟩
 refine opsS_cons (fun f w_ _ _ s _ _ Z=>mF ((s 0 rfl).trans rfl) rfl (nO rfl rfl Z)) (opsS_cons (fun f w_ _ _ _ hE19 p Z=>L_len rfl Tryz.underlying82 (p 3 14 rfl rfl) (slice_len (RP.mono _ h0 hE19)) (nO rfl rfl Z)) (opsS_cons ?_ ?_))
 intro f w_ H19 X19 hS19 hE19 hP19 Z
 refine L_mk (R:=(OR.frz RP.bool)) (z0:=false) (zc:=[Bo false]) rfl et_156 (by kernel_rfl) (fun _ _=>⟨rfl,rfl⟩) (hP19 4 15 rfl rfl) (hP19 4 15 rfl rfl) hx12 Z (fun v38 w39 Z=>?_)
 have Z:=Z.get 1 rfl
 exact L_nil ⟨rfl,_,_,rfl,Le.refl _,fun _ _=>trivial,Z⟩
 refine opsS_cons ?_ ?_
 intro f w_ H19 X19 hS19 hE19 hP19 Z
 have Z : Star H19 w_ (box g3 158 #[S0,S0] :: oF 74 (rCon 126) (f 13) x8 :: oF 4 RP.bool (f 16) x12 :: X19):=Z
 refine L_bld rfl (parts2 rfl rfl) (bld_158_0_1 ((f 13)) ((f 16)) (one_len (Star.len 1 Z rfl)) (one_len (Star.len 2 Z rfl))) (L_nil ⟨rfl,_,_,rfl,Le.refl _,fun _ _=>⟨_,_,rfl⟩,Z⟩)
 refine opsS_cons ?_ ?_
 intro f w_ H19 X19 hS19 hE19 hP19 Z
 refine L_al (cs:=#[S0,S0]) rfl Tryz.zeroValue158 rfl Z (fun g43 w44 Z=>?_)
 have Z:=Z.gets [1,1] rfl
 have Z:=Star.boxV (v:=Pt g43) rfl Z
 have Z:=Z.get 1 rfl
 exact L_nil ⟨rfl,_,_,rfl,Le.refl _,fun _ _=>trivial,Z⟩
 exact opsS_nil
 have Z : Star H19 w_ (box g3 158 #[S0,S0] :: own (OR.ownS 74 (OR.frz (rCon 126))) [(aggC (f 17) 0)] x8 :: own (OR.ownS 4 (OR.frz RP.bool)) [(aggC (f 17) 1)] x12 :: boxV (f 6) 158 #[S0,S0] :: R):=Z
 obtain ⟨u45_0,u45_1,hv45⟩:=(hT19 6 17 rfl rfl)
 have hren : Star H19 w_ (box g3 158 #[S0,S0] :: own (OR.ownS 74 (OR.frz (rCon 126))) [(aggC (f 17) 0)] x8 :: own (OR.ownS 4 (OR.frz RP.bool)) [(aggC (f 17) 1)] x12 :: boxV (f 6) 158 #[S0,S0] :: R):=Z
 rw [hv45] at hren
 have Z : Star H19 w_ (box g3 158 #[S0,S0] :: oF 74 (rCon 126) u45_0 x8 :: oF 4 RP.bool u45_1 x12 :: boxV (f 6) 158 #[S0,S0] :: R):=hren
 obtain ⟨g46,hv46,Z⟩:=Star.unboxV (Star.get 3 Z rfl)
 refine L_staB (vs:=#[u45_0,u45_1]) (cs2:=#[u45_0,u45_1]) 0 rfl Tryz.sizeOf158 hv46 hv45 rfl (ones_cons (one_len (Star.len 2 Z rfl)) (ones_cons (one_len (Star.len 3 Z rfl)) ones_nil)) Z rfl (by show 0 + 2≤2; decide) rfl (fun w47 Z=>L_nil (W_seq (sq (aI rfl (nn ?_)))))
 have hlen55 : List.length steps≤9223372036854775807:=len_le (slice_len (RP.mono _ h1 hE19))
 obtain ⟨j55,hL55,hF⟩:=bind_some hF
 obtain ⟨R55,hR55⟩:=exR fun f w_=>∃ g46_0_49 : List Con,∃ g46_1_51 : List Bool,∃ H53 : FH,∃ v49_g46_0 v51_g46_1 : Value,j55 = .nx (g46_0_49,g46_1_51)∧Le H19 H53∧f 4 = Pt g3∧f 6 = Pt g46∧Star H53 w_ (oF 74 (rCon 126) v49_g46_0 g46_0_49 :: oF 4 RP.bool v51_g46_1 g46_1_51 :: box g46 158 #[v49_g46_0,v51_g46_1] :: box g3 158 #[S0,S0] :: R)
 refine W_join R55 ?_ ?_
 refine W_block ?_
 obtain ⟨I55,hI55⟩:=exI fun n f w_=>∃ i_48 : Nat,∃ suf55 : List Step,∃ g46_0_49 : List Con,∃ g46_1_51 : List Bool,∃ H53 : FH,∃ v49_g46_0 v51_g46_1 : Value,n = suf55.length∧List.drop i_48 steps = suf55∧i_48 + suf55.length = steps.length∧rangeL (s_l4Run_b1 fu list) suf55 i_48 (g46_0_49,g46_1_51) = some j55∧Le H19 H53∧f 1 = v1∧f 4 = Pt g3∧f 6 = Pt g46∧f 7 = I i_48∧Star H53 w_ (oF 74 (rCon 126) v49_g46_0 g46_0_49 :: oF 4 RP.bool v51_g46_1 g46_1_51 :: box g46 158 #[v49_g46_0,v51_g46_1] :: box g3 158 #[S0,S0] :: R)
 have Z:=Z.gets [1,1,3,3] rfl
 refine W_loop I55 (n:=steps.length) ?_ ?_
 exact ij hI55 ⟨0,steps,x8,x12,H19,u45_0,u45_1,rfl,rfl,Nat.zero_add _,hL55,(Le.refl _),((hS19 1 rfl).trans rfl),((hS19 4 rfl).trans rfl),hv46,rfl,Z⟩
 intro n55 f w_ hI
 obtain ⟨i_48,suf55,g46_0_49,g46_1_51,H53,v49_g46_0,v51_g46_1,rfl,hd55,hl55,hL55,l54,sf1,sf4,sf6,sf7,Z⟩:=ik hI55 hI
 refine W_seq (sq (mF sf7 rfl (mF sf1 rfl (L_len rfl Tryz.underlying37 rfl (slice_len (RP.mono _ h1 (Le.trans hE19 l54))) (L_lss rfl rfl rfl (nn (W_cond (b:=decide ((i_48 : Int) < (steps.length : Int))) rfl (fun hc56=>?_) (fun hc56=>?_))))))))
 have hlt55:=of_decide_eq_true hc56
 rcases suf55 with _ | ⟨x_55,rest55⟩
 exact absurd hlt55 (by simp at hl55; omega)
 obtain ⟨o55,hB55,hL55⟩:=range_cons hL55
 rw [s_l4Run_b1] at hB55
 have hix55:=drop_idx hd55
 refine W_skip (W_seq ?_)
 obtain ⟨j63,hA63,hB55⟩:=bind_some hB55
 obtain ⟨R63,hR63⟩:=exR fun f w_=>∃ g46_0_57 : List Con,∃ g46_1_59 : List Bool,∃ H61 : FH,∃ v57_g46_0 v59_g46_1 : Value,j63 = .nx (g46_0_57,g46_1_59)∧Le H53 H61∧f 1 = v1∧f 4 = Pt g3∧f 6 = Pt g46∧f 7 = I i_48∧Star H61 w_ (oF 74 (rCon 126) v57_g46_0 g46_0_57 :: oF 4 RP.bool v59_g46_1 g46_1_59 :: box g46 158 #[v57_g46_0,v59_g46_1] :: box g3 158 #[S0,S0] :: R)
 refine W_join R63 ?_ ?_
 refine W_block (sq (mF sf1 rfl (mF sf7 rfl (L_ix (r:=(rStep 126)) rfl Tryz.underlying37 Tryz.sizeOf76 rfl (RP.mono _ h1 (Le.trans hE19 l54)) rfl hix55 (fun g71 o72 cs_g71 hrk_hat73 hat73=>?_)))))
 obtain ⟨u74_0,rfl,hu74_0⟩:=rStep_iff.1 hrk_hat73
 refine L_lda (cs:=[I x_55.kind,I x_55.a,I x_55.b,u74_0,I x_55.given.bound]) rfl Tryz.isAgg76 Tryz.sizeOf76 rfl (At.sub (AtH.at hat73 Z.sub) 0 5) rfl (L_al (cs:=#[I 0,I 0,I 0,S0,I 0]) rfl Tryz.zeroValue76 rfl Z (fun g75 w76 Z=>L_staB (vs:=#[I x_55.kind,I x_55.a,I x_55.b,u74_0,I x_55.given.bound]) (cs2:=#[I x_55.kind,I x_55.a,I x_55.b,u74_0,I x_55.given.bound]) 0 rfl Tryz.sizeOf76 rfl rfl rfl (ones_cons rfl (ones_cons rfl (ones_cons rfl (ones_cons (one_len (slice_len hu74_0)) (ones_cons rfl ones_nil))))) Z rfl (by show 0 + 5≤5; decide) rfl (fun w77 Z=>nq (W_seq ?_))))
 obtain ⟨x83,hx83,hA63⟩:=bind_some hA63
 refine W_region (L_lda (cs:=[I x_55.kind,I x_55.a,I x_55.b,u74_0,I x_55.given.bound]) rfl Tryz.isAgg76 Tryz.sizeOf76 rfl (At.sub0 (Blk.at (Star.blkAt 0 Z rfl)) 0 5) rfl ?_)
 obtain ⟨H85b,l86,s87,z88,k89⟩:=Z.borrow
 refine L_call rfl Tryz.call122 (ops1 rfl) (s_l4Parts_c (s:=x_55) s87 (RP.mono _ hu74_0 l86) hx83) ?_
 rintro _ w90 ⟨rfl,Z⟩
 have Z:=k89 Z c0
 refine L_not_ rfl rfl (nn (W_cond (b:=(!x83)) rfl (fun hc91=>?_) (fun hc91=>?_)))
 have hA63:=(ite_t hc91).symm.trans hA63
 refine sq (L_lda (cs:=[v49_g46_0,v51_g46_1]) rfl Tryz.isAgg158 Tryz.sizeOf158 sf6 (At.sub0 (Blk.at (Star.blkAt 3 Z rfl)) 0 2) rfl (mF sf7 rfl (L_staB (vs:=#[v49_g46_0,v51_g46_1]) (cs2:=#[v49_g46_0,v51_g46_1]) 4 rfl Tryz.sizeOf158 sf4 rfl rfl (ones_cons (one_len (Star.len 1 Z rfl)) (ones_cons (one_len (Star.len 2 Z rfl)) ones_nil)) Z rfl (by show 0 + 2≤2; decide) rfl (fun w93 Z=>aI rfl (nn (W_ret (retG2 (v1:=.agg #[v49_g46_0,v51_g46_1]) (v2:=I i_48) Tryz.results158 (resV_agg Tryz.isAgg158 Tryz.sizeOf158 sf4 (Star.blkAt 0 Z rfl) rfl) rfl ?_)))))))
 obtain rfl:=so hA63
 obtain rfl:=so hB55
 obtain rfl:=so hL55
 obtain rfl:=so hF
 have Z:=Z.gets [3,3] rfl
 have Z:=Star.drop 2 Z rfl
 have Z:=Star.drop 2 Z rfl
 have Z:=Star.drop 2 Z rfl
 exact ⟨H53,(Le.trans hE19 l54),v49_g46_0,v51_g46_1,rfl,Z⟩
 have hA63:=(ite_f hc91).symm.trans hA63
 refine W_skip (W_seq (sq (fA 0 fa_76_0 rfl rfl (ldB 0 Z Tryz.isAgg3 rfl rfl rfl (L_eql rfl rfl rfl (nn (W_cond (b:=(x_55.kind == 8)) rfl (fun hc94=>?_) (fun hc94=>?_))))))))
 have hA63:=(ite_t hc94).symm.trans hA63
 refine W_seq (W_seq ?_)
 obtain ⟨x102,hx102,hA63⟩:=bind_some hA63
 refine W_region (L_lda (cs:=[v49_g46_0,v51_g46_1]) rfl Tryz.isAgg158 Tryz.sizeOf158 sf6 (At.sub0 (Blk.at (Star.blkAt 3 Z rfl)) 0 2) rfl (fA 1 fa_76_1 rfl rfl (ldB 0 Z Tryz.isAgg3 rfl rfl rfl ?_)))
 obtain ⟨H104b,l105,s106,z107,k108⟩:=Z.borrow
 have hb109 : (rS 74 (rCon 126)).rel H104b [v49_g46_0] g46_0_49:=fz_own 1 z107 rfl
 have hb110 : (rS 4 RP.bool).rel H104b [v51_g46_1] g46_1_51:=fz_own 2 z107 rfl
 refine L_call rfl Tryz.call176 (ops2 rfl rfl) (s_l4Live_c (d:=({ list:=g46_0_49,gone:=g46_1_51 } : Db)) (k:=x_55.a) s106 hb109 hb110 hx102) ?_
 rintro _ w111 ⟨rfl,Z⟩
 have Z:=k108 Z c0
 refine L_not_ rfl rfl (nn (W_cond (b:=(!x102)) rfl (fun hc112=>?_) (fun hc112=>?_)))
 have hA63:=(ite_t hc112).symm.trans hA63
 refine sq (L_lda (cs:=[v49_g46_0,v51_g46_1]) rfl Tryz.isAgg158 Tryz.sizeOf158 sf6 (At.sub0 (Blk.at (Star.blkAt 3 Z rfl)) 0 2) rfl (mF sf7 rfl (L_staB (vs:=#[v49_g46_0,v51_g46_1]) (cs2:=#[v49_g46_0,v51_g46_1]) 4 rfl Tryz.sizeOf158 sf4 rfl rfl (ones_cons (one_len (Star.len 1 Z rfl)) (ones_cons (one_len (Star.len 2 Z rfl)) ones_nil)) Z rfl (by show 0 + 2≤2; decide) rfl (fun w114 Z=>aI rfl (nn (W_ret (retG2 (v1:=.agg #[v49_g46_0,v51_g46_1]) (v2:=I i_48) Tryz.results158 (resV_agg Tryz.isAgg158 Tryz.sizeOf158 sf4 (Star.blkAt 0 Z rfl) rfl) rfl ?_)))))))
 obtain rfl:=so hA63
 obtain rfl:=so hB55
 obtain rfl:=so hL55
 obtain rfl:=so hF
 have Z:=Z.gets [3,3] rfl
 have Z:=Star.drop 2 Z rfl
 have Z:=Star.drop 2 Z rfl
 have Z:=Star.drop 2 Z rfl
 exact ⟨H53,(Le.trans hE19 l54),v49_g46_0,v51_g46_1,rfl,Z⟩
 have hA63:=(ite_f hc112).symm.trans hA63
 refine W_skip (W_seq ?_)
 obtain ⟨x115,hx115,hA63⟩:=bind_some hA63
 refine W_region (fA 1 fa_158_1 sf6 rfl (ldB 3 Z Tryz.isAgg156 rfl rfl rfl (fA 1 fa_76_1 rfl rfl (ldB 0 Z Tryz.isAgg3 rfl rfl rfl ?_))))
 obtain ⟨g119,cap_g119,hv120,_,_⟩:=Star.row 2 Z rfl hx115
 refine L_ixO (R:=(OR.frz RP.bool)) (tb:=0) 0 rfl Tryz.underlying156 Tryz.sizeOf4 rfl hv120 (by first | rfl | simp) rfl hx115 ?_
 have Z:=Star.addF (r:=RP.bool) (cs:=[Bo true]) (x:=true) Z rfl
 have Z:=Z.gets [3,1] rfl
 refine L_stE1 (u:=Bo true) rfl Tryz.sizeOf4 rfl rfl rfl hv120 Z hx115 (fun w121 Z=>?_)
 refine nn (W_exit ?_)
 obtain rfl:=so hA63
 have Z:=Z.gets [4,4,2,4] rfl
 have Z:=Star.drop 4 Z rfl
 exact rj hR63 ⟨g46_0_49,(g46_1_51.set (Int.toNat x_55.a) true),H53,v49_g46_0,v51_g46_1,rfl,(Le.refl _),sf1,sf4,sf6,sf7,Z⟩
 have hA63:=(ite_f hc94).symm.trans hA63
 refine W_skip (W_seq ?_)
 obtain ⟨x129,hx129,hA63⟩:=bind_some hA63
 refine W_region (L_lda (cs:=[v49_g46_0,v51_g46_1]) rfl Tryz.isAgg158 Tryz.sizeOf158 sf6 (At.sub0 (Blk.at (Star.blkAt 3 Z rfl)) 0 2) rfl (L_lda (cs:=[I x_55.kind,I x_55.a,I x_55.b,u74_0,I x_55.given.bound]) rfl Tryz.isAgg76 Tryz.sizeOf76 rfl (At.sub0 (Blk.at (Star.blkAt 0 Z rfl)) 0 5) rfl ?_))
 obtain ⟨H135b,l136,s137,z138,k139⟩:=Z.borrow
 have hb140 : (rS 74 (rCon 126)).rel H135b [v49_g46_0] g46_0_49:=fz_own 1 z138 rfl
 have hb141 : (rS 4 RP.bool).rel H135b [v51_g46_1] g46_1_51:=fz_own 2 z138 rfl
 refine L_call rfl Tryz.call177 (ops2 rfl rfl) (s_l4Derive_c (d:=({ list:=g46_0_49,gone:=g46_1_51 } : Db)) (s:=x_55) s137 hb140 hb141 (RP.mono _ hu74_0 l136) hx129) ?_
 rintro _ w142 ⟨r142_0,rfl,Z⟩
 have Z:=k139 Z (co closed_term c0)
 refine mV (.tuple #[.agg #[r142_0,I x129.1.bound],Bo x129.2]) rfl (L_ex (v:=.agg #[r142_0,I x129.1.bound]) rfl rfl rfl (L_ex (v:=Bo x129.2) rfl rfl rfl (L_al (cs:=#[S0,I 0]) rfl Tryz.zeroValue74 rfl Z (fun g144 w145 Z=>L_staB (vs:=#[r142_0,I x129.1.bound]) (cs2:=#[r142_0,I x129.1.bound]) 0 rfl Tryz.sizeOf74 rfl rfl rfl (ones_cons (one_len (Star.len 1 Z rfl)) (ones_cons rfl ones_nil)) Z rfl (by show 0 + 2≤2; decide) rfl (fun w146 Z=>aB rfl (nq (sq (mB rfl (L_not_ rfl rfl (nn (W_cond (b:=(!x129.2)) rfl (fun hc147=>?_) (fun hc147=>?_))))))))))))
 have hA63:=(ite_t hc147).symm.trans hA63
 refine sq (L_lda (cs:=[v49_g46_0,v51_g46_1]) rfl Tryz.isAgg158 Tryz.sizeOf158 sf6 (At.sub0 (Blk.at (Star.blkAt 5 Z rfl)) 0 2) rfl (mF sf7 rfl (L_staB (vs:=#[v49_g46_0,v51_g46_1]) (cs2:=#[v49_g46_0,v51_g46_1]) 6 rfl Tryz.sizeOf158 sf4 rfl rfl (ones_cons (one_len (Star.len 3 Z rfl)) (ones_cons (one_len (Star.len 4 Z rfl)) ones_nil)) Z rfl (by show 0 + 2≤2; decide) rfl (fun w149 Z=>aI rfl (nn (W_ret (retG2 (v1:=.agg #[v49_g46_0,v51_g46_1]) (v2:=I i_48) Tryz.results158 (resV_agg Tryz.isAgg158 Tryz.sizeOf158 sf4 (Star.blkAt 0 Z rfl) rfl) rfl ?_)))))))
 obtain rfl:=so hA63
 obtain rfl:=so hB55
 obtain rfl:=so hL55
 obtain rfl:=so hF
 have Z:=Z.gets [5,5] rfl
 have Z:=Star.drop 2 Z rfl
 have Z:=Star.drop 2 Z rfl
 have Z:=Star.drop 2 Z rfl
 have Z:=Star.drop 2 Z rfl
 have Z:=Star.drop 2 Z rfl
 exact ⟨H53,(Le.trans hE19 l54),v49_g46_0,v51_g46_1,rfl,Z⟩
 have hA63:=(ite_f hc147).symm.trans hA63
 refine W_skip (W_seq ?_)
 obtain ⟨x153,hx153,hA63⟩:=bind_some hA63
 refine W_region (fA 0 fa_158_0 sf6 rfl (ldB 5 Z Tryz.isAgg82 rfl rfl rfl (L_lda (cs:=[r142_0,I x129.1.bound]) rfl Tryz.isAgg74 Tryz.sizeOf74 rfl (At.sub0 (Blk.at (Star.blkAt 0 Z rfl)) 0 2) rfl (L_bs rfl (parts1 rfl) (bs_82_1_2 (r142_0) (I x129.1.bound) ) Z (fun g160 w161 Z=>?_)))))
 have Z:=Z.get 2 rfl
 have Z:=oCon_close (c:=x129.1) Z
 have Z:=Star.mkRow (R:=(oCon 126)) [([r142_0,I x129.1.bound],x129.1)] [x129.1] 1 Z rfl rfl rfl (by decide)
 obtain ⟨H163,l164,Z⟩:=Star.shallow Z
 have Z : Star H163 w161 (oF 74 (rCon 126) (Sl g160 1 1) ([x129.1]) :: _):=Z
 have Z:=Z.get 3 rfl
 refine L_appM (v:=v49_g46_0) (u:=(Sl g160 1 1)) rfl et_82 rfl rfl Z hx153 (fun v165 w166 Z=>fA 0 fa_158_0 sf6 rfl (L_stB (v:=v165) (cs2:=#[v165,v51_g46_1]) 4 rfl Tryz.sizeOf82 rfl rfl (one_len (Star.len 0 Z rfl)) Z rfl rfl rfl (fun w168 Z=>nn ?_)))
 obtain ⟨x172,hx172,hA63⟩:=bind_some hA63
 refine W_region (fA 1 fa_158_1 sf6 rfl (ldB 0 Z Tryz.isAgg156 rfl rfl rfl (L_bs rfl (parts1 rfl) (bs_156_1_0 (Bo false) rfl) Z (fun g177 w178 Z=>?_))))
 have Z:=Star.addF (r:=RP.bool) (cs:=[Bo false]) (x:=false) Z rfl
 have Z:=Star.mkRow (R:=(OR.frz RP.bool)) [([Bo false],false)] [false] 1 Z rfl rfl rfl (by decide)
 have Z:=Z.get 5 rfl
 refine L_appM (v:=v51_g46_1) (u:=(Sl g177 1 1)) rfl et_156 rfl rfl Z hx172 (fun v180 w181 Z=>fA 1 fa_158_1 sf6 rfl (L_stB (v:=v180) (cs2:=#[v165,v180]) 1 rfl Tryz.sizeOf156 rfl rfl (one_len (Star.len 0 Z rfl)) Z rfl rfl rfl (fun w183 Z=>nn ?_)))
 obtain rfl:=so hA63
 have Z:=Z.gets [5,1,2,3] rfl
 have Z:=Star.drop 4 Z rfl
 have Z:=Star.drop 4 Z rfl
 exact rj hR63 ⟨x153,x172,H163,v165,v180,rfl,l164,sf1,sf4,sf6,sf7,Z⟩
 intro f w_ hR
 obtain ⟨g46_0_57,g46_1_59,H61,v57_g46_0,v59_g46_1,rfl,l62,sf1,sf4,sf6,sf7,Z⟩:=rk hR63 hR
 refine W_region (mF sf7 rfl (L_add rfl rfl rfl (aI rfl (nn ?_))))
 obtain rfl:=so hB55
 show ∃ m,m < _∧I55 m _ _
 refine ⟨rest55.length,by simp,?_⟩
 exact ij hI55 ⟨i_48 + 1,rest55,g46_0_57,g46_1_59,H61,v57_g46_0,v59_g46_1,rfl,drop_next hd55,by simp at hl55; omega,hL55,(Le.trans l54 l62),sf1,sf4,sf6,(Eq.trans rfl (congrArg (Value.int .i64) (i64_succ (n:=steps.length) (by simp at hl55; omega) hlen55))),Z⟩
 rcases suf55 with _ | ⟨_,_⟩
 obtain rfl:=range_nil hL55
 refine W_exit (rj hR55 ⟨g46_0_49,g46_1_51,H53,v49_g46_0,v51_g46_1,rfl,l54,sf4,sf6,Z⟩)
 exact absurd (of_decide_eq_false hc56) (by simp at hl55; omega)
 intro f w_ hR
 obtain ⟨g46_0_49,g46_1_51,H53,v49_g46_0,v51_g46_1,rfl,l54,sf4,sf6,Z⟩:=rk hR55 hR
 refine sq (L_lda (cs:=[v49_g46_0,v51_g46_1]) rfl Tryz.isAgg158 Tryz.sizeOf158 sf6 (At.sub0 (Blk.at (Star.blkAt 2 Z rfl)) 0 2) rfl (L_staB (vs:=#[v49_g46_0,v51_g46_1]) (cs2:=#[v49_g46_0,v51_g46_1]) 3 rfl Tryz.sizeOf158 sf4 rfl rfl (ones_cons (one_len (Star.len 0 Z rfl)) (ones_cons (one_len (Star.len 1 Z rfl)) ones_nil)) Z rfl (by show 0 + 2≤2; decide) rfl (fun w185 Z=>aI rfl (nn (W_ret (retG2 (v1:=.agg #[v49_g46_0,v51_g46_1]) (v2:=I (-1)) Tryz.results158 (resV_agg Tryz.isAgg158 Tryz.sizeOf158 sf4 (Star.blkAt 0 Z rfl) rfl) rfl ?_))))))
 obtain rfl:=so hF
 have Z:=Z.gets [2,2] rfl
 have Z:=Star.drop 2 Z rfl
 have Z:=Star.drop 2 Z rfl
 exact ⟨H53,(Le.trans hE19 l54),v49_g46_0,v51_g46_1,rfl,Z⟩
theorem s_RunProof_c {fu : Nat} {list : List Con} {steps : List Step} {v0 : Value} {v1 : Value} {H : FH} {w : World} (Z : Star H w []) (h0 : (rS 74 (rCon 126)).rel H [v0] list) (h1 : (rS 76 (rStep 126)).rel H [v1] steps) {r : (List Con) × Int} (hF : s_RunProof fu list steps = some r) :
 C Tryz.prog 141 #[v0,v1] w fun v w'=>∃ (u1 : Value),v = .tuple #[u1,I r.2]∧Star H w' [oS 74 (oCon 126) u1 r.1]:=by
 unfold s_RunProof at hF
 refine C_enter Tryz.func141 rfl Tryz.ntmps141 rfl (sq (aV S0 rfl (aI rfl (nq (W_seq ?_)))))
 obtain ⟨x6,hx6,hF⟩:=bind_some hF
 refine W_region (mV v0 rfl (mV v1 rfl ?_))
 obtain ⟨H8b,l9,s10,z11,k12⟩:=Z.borrow
 refine L_call rfl Tryz.call157 (ops2 rfl rfl) (s_l4Fits_c (list:=list) (steps:=steps) s10 (RP.mono _ h0 l9) (RP.mono _ h1 l9) hx6) ?_
 rintro _ w13 ⟨rfl,Z⟩
 have Z:=k12 Z c0
 refine L_not_ rfl rfl (nn (W_cond (b:=(!x6)) rfl (fun hc14=>?_) (fun hc14=>?_)))
 have hF:=(ite_t hc14).symm.trans hF
 refine sq (L_bs rfl parts0 (bs_82_0  ) Z (fun g18 w19 Z=>?_))
 have Z:=Star.mkRow (R:=(OR.frz (rCon 126))) [] [] 0 Z rfl rfl rfl (by decide)
 refine aV (Sl g18 0 0) rfl (aI rfl (nn (W_ret (retG2 (v1:=(Sl g18 0 0)) (v2:=I 0) Tryz.results141 rfl rfl ?_))))
 obtain rfl:=so hF
 have Z:=Star.recast (R:=(OR.frz (rCon 126))) (R':=(oCon 126)) rfl Z
 exact ⟨(Sl g18 0 0),rfl,Z⟩
 have hF:=(ite_f hc14).symm.trans hF
 refine W_skip (W_seq ?_)
 obtain ⟨x21,hx21,hF⟩:=bind_some hF
 refine W_region (mV v0 rfl (mV v1 rfl (L_call rfl Tryz.call158 (ops2 rfl rfl) (s_l4Run_c (list:=list) (steps:=steps) Z h0 h1 hx21) ?_)))
 rintro _ w28 ⟨H28,l28,r28_0,r28_1,rfl,Z⟩
 refine mV (.tuple #[.agg #[r28_0,r28_1],I x21.2]) rfl (L_ex (v:=.agg #[r28_0,r28_1]) rfl rfl rfl (L_ex (v:=I x21.2) rfl rfl rfl (L_al (cs:=#[S0,S0]) rfl Tryz.zeroValue158 rfl Z (fun g31 w32 Z=>L_staB (vs:=#[r28_0,r28_1]) (cs2:=#[r28_0,r28_1]) 0 rfl Tryz.sizeOf158 rfl rfl rfl (ones_cons (one_len (Star.len 1 Z rfl)) (ones_cons (one_len (Star.len 2 Z rfl)) ones_nil)) Z rfl (by show 0 + 2≤2; decide) rfl (fun w33 Z=>aI rfl (nq (sq (mI rfl (L_geq rfl rfl rfl (nn (W_cond (b:=decide (x21.2 ≥ 0)) rfl (fun hc34=>?_) (fun hc34=>?_))))))))))))
 have hF:=(ite_t hc34).symm.trans hF
 refine sq (L_bs rfl parts0 (bs_82_0  ) Z (fun g38 w39 Z=>?_))
 have Z:=Star.mkRow (R:=(OR.frz (rCon 126))) [] [] 0 Z rfl rfl rfl (by decide)
 refine mI rfl (aV (Sl g38 0 0) rfl (aI rfl (nn (W_ret (retG2 (v1:=(Sl g38 0 0)) (v2:=I x21.2) Tryz.results141 rfl rfl ?_)))))
 obtain rfl:=so hF
 have Z:=Star.recast (R:=(OR.frz (rCon 126))) (R':=(oCon 126)) rfl Z
 exact ⟨(Sl g38 0 0),rfl,(Star.down (Star.keepN 1 Z) l28 (co closed_oCon c0))⟩
 have hF:=(ite_f hc34).symm.trans hF
 refine W_skip (sq (L_bs rfl parts0 (bs_82_0  ) Z (fun g44 w45 Z=>?_)))
 have Z:=Star.mkRow (R:=(OR.frz (rCon 126))) [] [] 0 Z rfl rfl rfl (by decide)
 refine aV (Sl g44 0 0) rfl (nq ?_)
 obtain ⟨x53,hx53,hF⟩:=bind_some hF
 refine W_region (L_lda (cs:=[r28_0,r28_1]) rfl Tryz.isAgg158 Tryz.sizeOf158 rfl (At.sub0 (Blk.at (Star.blkAt 1 Z rfl)) 0 2) rfl ?_)
 have Z:=Z.get 2 rfl
 obtain ⟨H56,l57,Z,hz58⟩:=Star.freeze Z
 have hz58 : (rS 74 (rCon 126)).rel H56 [r28_0] x21.1.list:=hz58
 have Z:=Z.get 2 rfl
 obtain ⟨H59,l60,Z,hz61⟩:=Star.freeze Z
 have hz61 : (rS 4 RP.bool).rel H59 [r28_1] x21.1.gone:=hz61
 refine L_call rfl Tryz.call159 (ops1 rfl) (s_l4Kept_c (d:=x21.1) Z (RP.mono _ hz58 l60) hz61 hx53) ?_
 rintro r62_0 w62 ⟨H62,l62,_,rfl,Z⟩
 refine aV r62_0 rfl (nq (sq (aI rfl (nn ?_))))
 have hlen67 : List.length x53≤9223372036854775807:=len_le (Star.len 0 Z rfl)
 obtain ⟨j67,hL67,hF⟩:=bind_some hF
 obtain ⟨R67,hR67⟩:=exR fun f w_=>∃ out_65 : List Con,∃ v65_out : Value,j67 = .nx out_65∧f 8 = v65_out∧Star H62 w_ ([oS 74 (oCon 126) v65_out out_65])
 refine W_join R67 ?_ ?_
 refine W_block ?_
 obtain ⟨I67,hI67⟩:=exI fun n f w_=>∃ i_64 : Nat,∃ suf67 : List Con,∃ out_65 : List Con,∃ v65_out : Value,n = suf67.length∧List.drop i_64 x53 = suf67∧i_64 + suf67.length = x53.length∧rangeL s_RunProof_b1 suf67 i_64 out_65 = some j67∧f 8 = v65_out∧f 9 = r62_0∧f 10 = I i_64∧Star H62 w_ ([oS 74 (oCon 126) v65_out out_65,oF 74 (rCon 126) r62_0 x53])
 have Z:=Z.get 1 rfl
 have Z:=Star.recast (R:=(OR.frz (rCon 126))) (R':=(oCon 126)) rfl Z
 refine W_loop I67 (n:=x53.length) ?_ ?_
 exact ij hI67 ⟨0,x53,[],(Sl g44 0 0),rfl,rfl,Nat.zero_add _,hL67,rfl,rfl,rfl,(Star.keepN 2 Z)⟩
 intro n67 f w_ hI
 obtain ⟨i_64,suf67,out_65,v65_out,rfl,hd67,hl67,hL67,sf8,sf9,sf10,Z⟩:=ik hI67 hI
 refine W_seq (sq (mF sf10 rfl (mF sf9 rfl (L_len rfl Tryz.underlying82 rfl (Star.len 1 Z rfl) (L_lss rfl rfl rfl (nn (W_cond (b:=decide ((i_64 : Int) < (x53.length : Int))) rfl (fun hc68=>?_) (fun hc68=>?_))))))))
 have hlt67:=of_decide_eq_true hc68
 rcases suf67 with _ | ⟨x_67,rest67⟩
 exact absurd hlt67 (by simp at hl67; omega)
 obtain ⟨o67,hB67,hL67⟩:=range_cons hL67
 rw [s_RunProof_b1] at hB67
 have hix67:=drop_idx hd67
 refine W_skip (W_seq (W_block ?_))
 obtain ⟨x78,hx78,hB67⟩:=bind_some hB67
 obtain ⟨x84,hx84,hB67⟩:=bind_some hB67
 refine W_region (mF sf8 rfl (mF sf9 rfl (mF sf10 rfl ?_)))
 obtain ⟨g88,cap_g88,hv89,_,_⟩:=Star.row 1 Z rfl hix67
 refine L_ixO (R:=(OR.frz (rCon 126))) (tb:=0) 0 rfl Tryz.underlying82 Tryz.sizeOf74 rfl hv89 (by first | rfl | simp) rfl hix67 ?_
 obtain ⟨cs90,hr90,hat90⟩:=Star.eltF 1 Z rfl hv89 hix67
 obtain ⟨u91_0,rfl,hu91_0⟩:=rCon_iff.1 hr90
 refine L_lda (cs:=[u91_0,I x_67.bound]) rfl Tryz.isAgg74 Tryz.sizeOf74 rfl (At.sub hat90 0 2) rfl ?_
 obtain ⟨H92b,l93,s94,z95,k96⟩:=Z.borrow
 refine L_call rfl Tryz.call160 (ops1 rfl) (s_l1Copy_c (c:=x_67) s94 (RP.mono _ hu91_0 l93) hx78) ?_
 rintro _ w97 ⟨r97_0,rfl,Z⟩
 have Z:=k96 Z (co closed_term c0)
 refine L_bs rfl (parts1 rfl) (bs_82_1_2 (r97_0) (I x78.bound) ) Z (fun g99 w100 Z=>?_)
 have Z:=Z.get 1 rfl
 have Z:=oCon_close (c:=x78) Z
 have Z:=Star.mkRow (R:=(oCon 126)) [([r97_0,I x78.bound],x78)] [x78] 1 Z rfl rfl rfl (by decide)
 have Z:=Z.get 1 rfl
 refine L_appM (v:=v65_out) (u:=(Sl g99 1 1)) rfl et_82 rfl rfl Z hx84 (fun v102 w103 Z=>aV v102 rfl (nn (W_region (mF sf10 rfl (L_add rfl rfl rfl (aI rfl (nn ?_)))))))
 obtain rfl:=so hB67
 show ∃ m,m < _∧I67 m _ _
 refine ⟨rest67.length,by simp,?_⟩
 exact ij hI67 ⟨i_64 + 1,rest67,x84,v102,rfl,drop_next hd67,by simp at hl67; omega,hL67,rfl,sf9,(Eq.trans rfl (congrArg (Value.int .i64) (i64_succ (n:=x53.length) (by simp at hl67; omega) hlen67))),Z⟩
 rcases suf67 with _ | ⟨_,_⟩
 obtain rfl:=range_nil hL67
 refine W_exit (rj hR67 ⟨out_65,v65_out,rfl,sf8,(Star.keepN 1 Z)⟩)
 exact absurd (of_decide_eq_false hc68) (by simp at hl67; omega)
 intro f w_ hR
 obtain ⟨out_65,v65_out,rfl,sf8,Z⟩:=rk hR67 hR
 refine sq (mF sf8 rfl (aV v65_out rfl (aI rfl (nn (W_ret (retG2 (v1:=v65_out) (v2:=I (-1)) Tryz.results141 rfl rfl ?_))))))
 obtain rfl:=so hF
 exact ⟨v65_out,rfl,(Star.down Z (Le.trans (Le.trans (Le.trans l28 l57) l60) l62) (co closed_oCon c0))⟩
theorem s_l4Step_c {r_ : Rd} {n_ : Int} {g_0 : Nat} {v0_0 : Value} {H : FH} {w : World} (Z : Star H w [box g_0 117 #[v0_0,I r_.p]]) (h0_0 : (rS 5 RP.u8).rel H [v0_0] r_.b) {r : Step × Int} (hF : s_l4Step r_ n_ = some r) :
 C Tryz.prog 144 #[Pt g_0,I n_] w fun v w'=>∃ (u1 : Value),v = .agg #[I r.1.kind,I r.1.a,I r.1.b,u1,I r.1.given.bound]∧Star H w' [oF 126 rTerm u1 r.1.given.terms,box g_0 117 #[v0_0,I r.2]]:=by
 unfold s_l4Step at hF
 refine C_enter Tryz.func144 rfl Tryz.ntmps144 rfl (sq (L_al (cs:=#[I 0,I 0,I 0,S0,I 0]) rfl Tryz.zeroValue76 rfl Z (fun g3 w4 Z=>nq ?_)))
 obtain ⟨x14,hx14,hF⟩:=bind_some hF
 refine W_region (mV (Pt g_0) rfl (L_bs rfl (parts9 rfl rfl rfl rfl rfl rfl rfl rfl rfl) (bs_22_9_0_0_0_0_0_0_0_0_0 (I 1) (I 1) (I 5) (I 4) (I 3) (I 2) (I 6) (I 7) (I 8) rfl rfl rfl rfl rfl rfl rfl rfl rfl) Z (fun g19 w20 Z=>?_)))
 have Z:=litInts [1,1,5,4,3,2,6,7,8] 9 Z rfl rfl (by decide)
 have Z:=Z.get 2 rfl
 obtain ⟨H22b,l23,s24,z25,k26⟩:=Z.lend [_]
 have hb27 : (rS 3 RP.int).rel H22b [(Sl g19 9 9)] ([1,1,5,4,3,2,6,7,8]):=fz_own 0 z25 rfl
 refine L_call rfl Tryz.call64 (ops2 rfl rfl) (s_l17Rd_num_c (r_:=r_) (list:=[1,1,5,4,3,2,6,7,8]) s24 (RP.mono _ h0_0 l23) hb27 hx14) ?_
 rintro _ w28 ⟨rfl,Z⟩
 have Z:=k26 Z (cb c0)
 refine L_bld rfl (parts1 rfl) (bld_76_0 (I x14.1) rfl) (L_al (cs:=#[I 0,I 0,I 0,S0,I 0]) rfl Tryz.zeroValue76 rfl Z (fun g29 w30 Z=>L_staB (vs:=#[I x14.1,I 0,I 0,S0,I 0]) (cs2:=#[I x14.1,I 0,I 0,S0,I 0]) 0 rfl Tryz.sizeOf76 rfl rfl rfl (ones_cons rfl (ones_cons rfl (ones_cons rfl (ones_cons rfl (ones_cons rfl ones_nil))))) Z rfl (by show 0 + 5≤5; decide) rfl (fun w31 Z=>nq (sq (fA 0 fa_76_0 rfl rfl (ldB 0 Z Tryz.isAgg3 rfl rfl rfl (nn (W_block (sq (L_eql rfl rfl rfl (aB rfl (nn (W_cond (b:=(x14.1 == 6)) rfl (fun hc32=>?_) (fun hc32=>?_))))))))))))))
 have hF:=(ite_t hc32).symm.trans hF
 refine W_seq ?_
 obtain ⟨x42,hx42,hF⟩:=bind_some hF
 refine W_region (mV (Pt g_0) rfl (L_bs rfl (parts5 rfl rfl rfl rfl rfl) (bs_22_5_0_0_0_0_0 (I 1) (I (-1)) (I 2) (I (-3)) (I 4) rfl rfl rfl rfl rfl) Z (fun g45 w46 Z=>?_)))
 have Z:=litInts [1,(-1),2,(-3),4] 5 Z rfl rfl (by decide)
 have Z:=Z.get 2 rfl
 obtain ⟨H48b,l49,s50,z51,k52⟩:=Z.lend [_]
 have hb53 : (rS 3 RP.int).rel H48b [(Sl g45 5 5)] ([1,(-1),2,(-3),4]):=fz_own 0 z51 rfl
 refine L_call rfl Tryz.call64 (ops2 rfl rfl) (s_l17Rd_num_c (r_:=({ b:=r_.b,p:=x14.2 } : Rd)) (list:=[1,(-1),2,(-3),4]) s50 (RP.mono _ h0_0 l49) hb53 hx42) ?_
 rintro _ w54 ⟨rfl,Z⟩
 have Z:=k52 Z (cb c0)
 refine fA 1 fa_76_1 rfl rfl (L_stB (v:=I x42.1) (cs2:=#[I x14.1,I x42.1,I 0,S0,I 0]) 2 rfl Tryz.sizeOf3 rfl rfl rfl Z rfl rfl rfl (fun w55 Z=>ns (L_lda (cs:=[I x14.1,I x42.1,I 0,S0,I 0]) rfl Tryz.isAgg76 Tryz.sizeOf76 rfl (At.sub0 (Blk.at (Star.blkAt 0 Z rfl)) 0 5) rfl (L_staB (vs:=#[I x14.1,I x42.1,I 0,S0,I 0]) (cs2:=#[I x14.1,I x42.1,I 0,S0,I 0]) 4 rfl Tryz.sizeOf76 rfl rfl rfl (ones_cons rfl (ones_cons rfl (ones_cons rfl (ones_cons rfl (ones_cons rfl ones_nil))))) Z rfl (by show 0 + 5≤5; decide) rfl (fun w57 Z=>nn (W_ret (retG1 (v1:=.agg #[I x14.1,I x42.1,I 0,S0,I 0]) Tryz.results144 (resV_agg Tryz.isAgg76 Tryz.sizeOf76 rfl (Star.blkAt 0 Z rfl) rfl) ?_)))))))
 obtain rfl:=so hF
 have Z:=Star.addNil (R:=(OR.frz rTerm)) (e:=126) Z
 have Z:=Z.gets [3,1] rfl
 exact ⟨S0,rfl,(Star.keepN 2 Z)⟩
 have hF:=(ite_f hc32).symm.trans hF
 refine sq (L_eql rfl rfl rfl (aB rfl (nn (W_cond (b:=(x14.1 == 7)) rfl (fun hc59=>?_) (fun hc59=>?_)))))
 have hF:=(ite_t hc59).symm.trans hF
 refine W_seq ?_
 obtain ⟨x65,hx65,hF⟩:=bind_some hF
 refine W_region (mV (Pt g_0) rfl ?_)
 have Z:=Z.get 1 rfl
 obtain ⟨H69b,l70,s71,z72,k73⟩:=Z.lend [_]
 refine L_call rfl Tryz.call143 (ops2 rfl rfl) (s_l1Draw_c (r_:=({ b:=r_.b,p:=x14.2 } : Rd)) (most:=4) s71 (RP.mono _ h0_0 l70) hx65) ?_
 rintro _ w74 ⟨r74_0,rfl,Z⟩
 have Z:=k73 Z (co closed_term (cb c0))
 refine fA 3 fa_76_3 rfl rfl (L_staB (vs:=#[r74_0,I x65.1.bound]) (cs2:=#[I x14.1,I 0,I 0,r74_0,I x65.1.bound]) 2 rfl Tryz.sizeOf74 rfl rfl rfl (ones_cons (one_len (Star.len 0 Z rfl)) (ones_cons rfl ones_nil)) Z rfl (by show 3 + 2≤5; decide) rfl (fun w76 Z=>ns (L_lda (cs:=[I x14.1,I 0,I 0,r74_0,I x65.1.bound]) rfl Tryz.isAgg76 Tryz.sizeOf76 rfl (At.sub0 (Blk.at (Star.blkAt 0 Z rfl)) 0 5) rfl (L_staB (vs:=#[I x14.1,I 0,I 0,r74_0,I x65.1.bound]) (cs2:=#[I x14.1,I 0,I 0,r74_0,I x65.1.bound]) 4 rfl Tryz.sizeOf76 rfl rfl rfl (ones_cons rfl (ones_cons rfl (ones_cons rfl (ones_cons (one_len (Star.len 1 Z rfl)) (ones_cons rfl ones_nil))))) Z rfl (by show 0 + 5≤5; decide) rfl (fun w78 Z=>nn (W_ret (retG1 (v1:=.agg #[I x14.1,I 0,I 0,r74_0,I x65.1.bound]) Tryz.results144 (resV_agg Tryz.isAgg76 Tryz.sizeOf76 rfl (Star.blkAt 0 Z rfl) rfl) ?_)))))))
 obtain rfl:=so hF
 have Z:=Z.gets [3,3] rfl
 exact ⟨r74_0,rfl,(Star.keepN 2 Z)⟩
 have hF:=(ite_f hc59).symm.trans hF
 refine W_skip (W_seq ?_)
 obtain ⟨x84,hx84,hF⟩:=bind_some hF
 refine W_region (mV (Pt g_0) rfl (mI rfl (L_add rfl rfl rfl ?_)))
 have Z:=Z.get 1 rfl
 obtain ⟨H87b,l88,s89,z90,k91⟩:=Z.lend [_]
 refine L_call rfl Tryz.call63 (ops2 rfl rfl) (s_l17Rd_pick_c (r_:=({ b:=r_.b,p:=x14.2 } : Rd)) (n_:=i64 (n_ + 1)) s89 (RP.mono _ h0_0 l88) hx84) ?_
 rintro _ w92 ⟨rfl,Z⟩
 have Z:=k91 Z (cb c0)
 refine fA 1 fa_76_1 rfl rfl (L_stB (v:=I x84.1) (cs2:=#[I x14.1,I x84.1,I 0,S0,I 0]) 1 rfl Tryz.sizeOf3 rfl rfl rfl Z rfl rfl rfl (fun w93 Z=>nq (sq (fA 0 fa_76_0 rfl rfl (ldB 0 Z Tryz.isAgg3 rfl rfl rfl (nn (W_block (sq (L_eql rfl rfl rfl (aB rfl (nn ?_)))))))))))
 obtain ⟨⟨g_0_1_94,g29_2_95⟩,hA96,hF⟩:=bind_some hF
 obtain ⟨R96,hR96⟩:=exR fun f w_=>f 4 = Pt g3∧f 5 = Pt g29∧Star H w_ ([box g_0 117 #[v0_0,I g_0_1_94],box g29 76 #[I x14.1,I x84.1,I g29_2_95,S0,I 0],box g3 76 #[I 0,I 0,I 0,S0,I 0]])
 refine W_join R96 ?_ ?_
 refine W_cond (b:=(x14.1 == 1)) rfl (fun hc97=>?_) (fun hc97=>?_)
 have hA96:=(ite_t hc97).symm.trans hA96
 obtain ⟨x103,hx103,hA96⟩:=bind_some hA96
 refine W_region (mV (Pt g_0) rfl (mI rfl (L_add rfl rfl rfl ?_)))
 have Z:=Z.get 1 rfl
 obtain ⟨H106b,l107,s108,z109,k110⟩:=Z.lend [_]
 refine L_call rfl Tryz.call63 (ops2 rfl rfl) (s_l17Rd_pick_c (r_:=({ b:=r_.b,p:=x84.2 } : Rd)) (n_:=i64 (n_ + 1)) s108 (RP.mono _ h0_0 l107) hx103) ?_
 rintro _ w111 ⟨rfl,Z⟩
 have Z:=k110 Z (cb c0)
 refine fA 2 fa_76_2 rfl rfl (L_stB (v:=I x103.1) (cs2:=#[I x14.1,I x84.1,I x103.1,S0,I 0]) 1 rfl Tryz.sizeOf3 rfl rfl rfl Z rfl rfl rfl (fun w112 Z=>nn ?_))
 obtain ⟨rfl,rfl⟩:=so2 hA96
 have Z:=Z.gets [3,1,2] rfl
 exact rj hR96 ⟨rfl,rfl,(Star.keepN 3 Z)⟩
 have hA96:=(ite_f hc97).symm.trans hA96
 refine W_seq (sq (L_eql rfl rfl rfl (aB rfl (nn ?_))))
 obtain ⟨t39_113,hA114,hA96⟩:=bind_some hA96
 obtain ⟨R114,hR114⟩:=exR fun f w_=>f 0 = Pt g_0∧f 4 = Pt g3∧f 5 = Pt g29∧f 31 = I x14.1∧f 39 = Bo t39_113∧Star H w_ ([box g_0 117 #[v0_0,I x84.2],box g29 76 #[I x14.1,I x84.1,I 0,S0,I 0],box g3 76 #[I 0,I 0,I 0,S0,I 0]])
 refine W_join R114 ?_ ?_
 refine W_cond (b:=(x14.1 == 2)) rfl (fun hc115=>?_) (fun hc115=>?_)
 have hA114:=(ite_t hc115).symm.trans hA114
 refine W_skip ?_
 obtain rfl:=so hA114
 have Z:=Z.gets [3,1,2] rfl
 exact rj hR114 ⟨rfl,rfl,rfl,rfl,rfl,(Star.keepN 3 Z)⟩
 have hA114:=(ite_f hc115).symm.trans hA114
 refine W_region (L_eql rfl rfl rfl (aB rfl (nn ?_)))
 obtain rfl:=so hA114
 have Z:=Z.gets [3,1,2] rfl
 exact rj hR114 ⟨rfl,rfl,rfl,rfl,rfl,(Star.keepN 3 Z)⟩
 intro f w_ hR
 obtain ⟨sf0,sf4,sf5,sf31,sf39,Z⟩:=rk hR114 hR
 obtain ⟨⟨g_0_1_116,g29_2_117⟩,hA118,hA96⟩:=bind_some hA96
 obtain ⟨R118,hR118⟩:=exR fun f w_=>f 4 = Pt g3∧f 5 = Pt g29∧Star H w_ ([box g_0 117 #[v0_0,I g_0_1_116],box g29 76 #[I x14.1,I x84.1,I g29_2_117,S0,I 0],box g3 76 #[I 0,I 0,I 0,S0,I 0]])
 refine W_join R118 ?_ ?_
 refine W_cond (b:=t39_113) sf39 (fun hc119=>?_) (fun hc119=>?_)
 have hA118:=(ite_t hc119).symm.trans hA118
 obtain ⟨x129,hx129,hA118⟩:=bind_some hA118
 refine W_region (mF sf0 rfl (L_bs rfl (parts3 rfl rfl rfl) (bs_22_3_0_0_0 (I 2) (I 3) (I 1) rfl rfl rfl) Z (fun g132 w133 Z=>?_)))
 have Z:=litInts [2,3,1] 3 Z rfl rfl (by decide)
 have Z:=Z.get 1 rfl
 obtain ⟨H135b,l136,s137,z138,k139⟩:=Z.lend [_]
 have hb140 : (rS 3 RP.int).rel H135b [(Sl g132 3 3)] ([2,3,1]):=fz_own 0 z138 rfl
 refine L_call rfl Tryz.call64 (ops2 rfl rfl) (s_l17Rd_num_c (r_:=({ b:=r_.b,p:=x84.2 } : Rd)) (list:=[2,3,1]) s137 (RP.mono _ h0_0 l136) hb140 hx129) ?_
 rintro _ w141 ⟨rfl,Z⟩
 have Z:=k139 Z (cb c0)
 refine fA 2 fa_76_2 sf5 rfl (L_stB (v:=I x129.1) (cs2:=#[I x14.1,I x84.1,I x129.1,S0,I 0]) 2 rfl Tryz.sizeOf3 rfl rfl rfl Z rfl rfl rfl (fun w142 Z=>nn ?_))
 obtain ⟨rfl,rfl⟩:=so2 hA118
 have Z:=Z.gets [3,1,2] rfl
 exact rj hR118 ⟨sf4,sf5,(Star.keepN 3 Z)⟩
 have hA118:=(ite_f hc119).symm.trans hA118
 refine sq (L_eql rfl sf31 rfl (aB rfl (nn ?_)))
 obtain ⟨⟨g_0_1_143,g29_2_144⟩,hA145,hA118⟩:=bind_some hA118
 obtain ⟨R145,hR145⟩:=exR fun f w_=>f 4 = Pt g3∧f 5 = Pt g29∧Star H w_ ([box g_0 117 #[v0_0,I g_0_1_143],box g29 76 #[I x14.1,I x84.1,I g29_2_144,S0,I 0],box g3 76 #[I 0,I 0,I 0,S0,I 0]])
 refine W_join R145 ?_ ?_
 refine W_cond (b:=(x14.1 == 5)) rfl (fun hc146=>?_) (fun hc146=>?_)
 have hA145:=(ite_t hc146).symm.trans hA145
 obtain ⟨x152,hx152,hA145⟩:=bind_some hA145
 refine W_region (mF sf0 rfl ?_)
 obtain ⟨H155b,l156,s157,z158,k159⟩:=Z.lend [_]
 refine L_call rfl Tryz.call63 (ops2 rfl rfl) (s_l17Rd_pick_c (r_:=({ b:=r_.b,p:=x84.2 } : Rd)) (n_:=5) s157 (RP.mono _ h0_0 l156) hx152) ?_
 rintro _ w160 ⟨rfl,Z⟩
 have Z:=k159 Z (cb c0)
 refine L_add rfl rfl rfl (fA 2 fa_76_2 sf5 rfl (L_stB (v:=I (i64 (1 + x152.1))) (cs2:=#[I x14.1,I x84.1,I (i64 (1 + x152.1)),S0,I 0]) 1 rfl Tryz.sizeOf3 rfl rfl rfl Z rfl rfl rfl (fun w161 Z=>nn ?_)))
 obtain ⟨rfl,rfl⟩:=so2 hA145
 have Z:=Z.gets [2,1,2] rfl
 exact rj hR145 ⟨sf4,sf5,Z⟩
 have hA145:=(ite_f hc146).symm.trans hA145
 refine W_skip ?_
 obtain ⟨rfl,rfl⟩:=so2 hA145
 exact rj hR145 ⟨sf4,sf5,Z⟩
 intro f w_ hR
 obtain ⟨sf4,sf5,Z⟩:=rk hR145 hR
 obtain ⟨rfl,rfl⟩:=so2 hA118
 exact rj hR118 ⟨sf4,sf5,Z⟩
 intro f w_ hR
 obtain ⟨sf4,sf5,Z⟩:=rk hR118 hR
 obtain ⟨rfl,rfl⟩:=so2 hA96
 exact rj hR96 ⟨sf4,sf5,Z⟩
 intro f w_ hR
 obtain ⟨sf4,sf5,Z⟩:=rk hR96 hR
 refine sq (L_lda (cs:=[I x14.1,I x84.1,I g29_2_95,S0,I 0]) rfl Tryz.isAgg76 Tryz.sizeOf76 sf5 (At.sub0 (Blk.at (Star.blkAt 1 Z rfl)) 0 5) rfl (L_staB (vs:=#[I x14.1,I x84.1,I g29_2_95,S0,I 0]) (cs2:=#[I x14.1,I x84.1,I g29_2_95,S0,I 0]) 2 rfl Tryz.sizeOf76 sf4 rfl rfl (ones_cons rfl (ones_cons rfl (ones_cons rfl (ones_cons rfl (ones_cons rfl ones_nil))))) Z rfl (by show 0 + 5≤5; decide) rfl (fun w163 Z=>nn (W_ret (retG1 (v1:=.agg #[I x14.1,I x84.1,I g29_2_95,S0,I 0]) Tryz.results144 (resV_agg Tryz.isAgg76 Tryz.sizeOf76 sf4 (Star.blkAt 0 Z rfl) rfl) ?_)))))
 obtain rfl:=so hF
 have Z:=Star.addNil (R:=(OR.frz rTerm)) (e:=126) Z
 have Z:=Z.gets [2,1] rfl
 exact ⟨S0,rfl,(Star.keepN 2 Z)⟩
theorem s_l4Random_c {fu : Nat} {r_ : Rd} {list : List Con} {g_0 : Nat} {v0_0 : Value} {v1 : Value} {H : FH} {w : World} {R : List Ass} (Z : Star H w (box g_0 117 #[v0_0,I r_.p] :: R)) (h0_0 : (rS 5 RP.u8).rel H [v0_0] r_.b) (h1 : (rS 74 (rCon 126)).rel H [v1] list) {r : (List Step) × Int} (hF : s_l4Random fu r_ list = some r) :
 C Tryz.prog 113 #[Pt g_0,v1] w fun v w'=>∃ H' : FH,Le H H'∧∃ (u1 : Value),v = u1∧Star H' w' (oF 76 (rStep 126) u1 r.1 :: box g_0 117 #[v0_0,I r.2] :: R):=by
 unfold s_l4Random at hF
 refine C_enter Tryz.func113 rfl Tryz.ntmps113 rfl (sq (aV S0 rfl (ns (L_bs rfl parts0 (bs_37_0  ) Z (fun g4 w5 Z=>?_)))))
 have Z:=Star.mkRow (R:=(OR.frz (rStep 126))) [] [] 0 Z rfl rfl rfl (by decide)
 refine aV (Sl g4 0 0) rfl (nq (W_seq ?_))
 obtain ⟨x16,hx16,hF⟩:=bind_some hF
 refine W_region (mV (Pt g_0) rfl (L_bs rfl (parts6 rfl rfl rfl rfl rfl rfl) (bs_22_6_0_0_0_0_0_0 (I 4) (I 6) (I 3) (I 8) (I 1) (I 0) rfl rfl rfl rfl rfl rfl) Z (fun g18 w19 Z=>?_)))
 have Z:=litInts [4,6,3,8,1,0] 6 Z rfl rfl (by decide)
 have Z:=Z.get 2 rfl
 obtain ⟨H21b,l22,s23,z24,k25⟩:=Z.lend [_]
 have hb26 : (rS 3 RP.int).rel H21b [(Sl g18 6 6)] ([4,6,3,8,1,0]):=fz_own 0 z24 rfl
 refine L_call rfl Tryz.call64 (ops2 rfl rfl) (s_l17Rd_num_c (r_:=r_) (list:=[4,6,3,8,1,0]) s23 (RP.mono _ h0_0 l22) hb26 hx16) ?_
 rintro _ w27 ⟨rfl,Z⟩
 have Z:=k25 Z (cb c0)
 refine aI rfl (nn ?_)
 obtain ⟨j35,hL35,hF⟩:=bind_some hF
 obtain ⟨R35,hR35⟩:=exR fun f w_=>∃ out_29 : List Step,∃ i_31 : Int,∃ g_0_1_32 : Int,∃ H33 : FH,∃ v29_out : Value,j35 = .nx (out_29,i_31,g_0_1_32)∧Le H H33∧f 5 = v29_out∧Star H33 w_ (oF 76 (rStep 126) v29_out out_29 :: box g_0 117 #[v0_0,I g_0_1_32] :: R)
 refine W_join R35 ?_ ?_
 refine W_block ?_
 obtain ⟨I35,hI35⟩:=exI fun n f w_=>∃ out_29 : List Step,∃ i_31 : Int,∃ g_0_1_32 : Int,∃ H33 : FH,∃ v29_out : Value,whileL (s_l4Random_b1 fu r_ list) n (out_29,i_31,g_0_1_32) = some j35∧Le H H33∧f 0 = Pt g_0∧f 1 = v1∧f 5 = v29_out∧f 6 = I i_31∧Star H33 w_ (oF 76 (rStep 126) v29_out out_29 :: box g_0 117 #[v0_0,I g_0_1_32] :: R)
 have Z:=Z.get 2 rfl
 have Z:=Star.drop 2 Z rfl
 refine W_loop I35 (n:=fu) ?_ ?_
 exact ij hI35 ⟨[],x16.1,x16.2,H,(Sl g4 0 0),hL35,(Le.refl _),rfl,rfl,rfl,rfl,Z⟩
 intro n35 f w_ hI
 obtain ⟨out_29,i_31,g_0_1_32,H33,v29_out,hL35,l34,sf0,sf1,sf5,sf6,Z⟩:=ik hI35 hI
 rcases n35 with _ | n35
 exact (while_zero hL35).elim
 obtain ⟨o35,hB35,hL35⟩:=while_succ hL35
 rw [s_l4Random_b1] at hB35
 refine W_seq (sq (mF sf6 rfl (L_gtr rfl rfl rfl (nn (W_cond (b:=decide (i_31 > 0)) rfl (fun hc36=>?_) (fun hc36=>?_))))))
 have hB35:=(ite_t hc36).symm.trans hB35
 refine W_skip (W_seq (W_block (W_seq ?_)))
 obtain ⟨x40,hx40,hB35⟩:=bind_some hB35
 obtain ⟨x49,hx49,hB35⟩:=bind_some hB35
 obtain ⟨x55,hx55,hB35⟩:=bind_some hB35
 refine W_region (L_bs rfl parts0 (bs_37_0  ) Z (fun g61 w62 Z=>?_))
 have Z:=Star.mkRow (R:=(OR.frz (rStep 126))) [] [] 0 Z rfl rfl rfl (by decide)
 refine mF sf5 rfl (L_appC (v:=(Sl g61 0 0)) (u:=v29_out) rfl et_37 rfl rfl Z hx40 (fun v64 w65 Z=>mF sf0 rfl (mF sf1 rfl (L_len rfl Tryz.underlying82 rfl (slice_len (RP.mono _ h1 l34)) (mF sf5 rfl (L_len rfl Tryz.underlying37 rfl (Star.len 1 Z rfl) (L_add rfl rfl rfl ?_)))))))
 have Z:=Z.get 2 rfl
 obtain ⟨H67b,l68,s69,z70,k71⟩:=Z.lend [_]
 refine L_call rfl Tryz.call144 (ops2 rfl rfl) (s_l4Step_c (r_:=({ b:=r_.b,p:=g_0_1_32 } : Rd)) (n_:=i64 ((list.length : Int) + (out_29.length : Int))) s69 (RP.mono _ h0_0 (Le.trans l34 l68)) hx49) ?_
 rintro _ w72 ⟨r72_0,rfl,Z⟩
 have Z:=k71 Z (co closed_term (cb c0))
 refine L_bs rfl (parts1 rfl) (bs_37_1_5 (I x49.1.kind) (I x49.1.a) (I x49.1.b) (r72_0) (I x49.1.given.bound) ) Z (fun g74 w75 Z=>?_)
 have Z:=Z.get 1 rfl
 have Z:=oStep_close (s:=x49.1) Z
 have Z:=Star.mkRow (R:=(oStep 126)) [([I x49.1.kind,I x49.1.a,I x49.1.b,r72_0,I x49.1.given.bound],x49.1)] [x49.1] 1 Z rfl rfl rfl (by decide)
 obtain ⟨H77,l78,Z⟩:=Star.shallow Z
 have Z : Star H77 w75 (oF 76 (rStep 126) (Sl g74 1 1) ([x49.1]) :: _):=Z
 have Z:=Z.get 2 rfl
 refine L_appM (v:=v64) (u:=(Sl g74 1 1)) rfl et_37 rfl rfl Z hx55 (fun v79 w80 Z=>aV v79 rfl (nq ?_))
 obtain ⟨x88,hx88,hB35⟩:=bind_some hB35
 refine W_region (mF sf1 rfl (mV v79 rfl ?_))
 obtain ⟨H91b,l92,s93,z94,k95⟩:=Z.borrow
 have hb96 : (rS 76 (rStep 126)).rel H91b [v79] x55:=fz_own 0 z94 rfl
 refine L_call rfl Tryz.call141 (ops2 rfl rfl) (s_RunProof_c (list:=list) (steps:=x55) s93 (RP.mono _ h1 (Le.trans (Le.trans l34 l78) l92)) hb96 hx88) ?_
 rintro _ w97 ⟨r97_0,rfl,Z⟩
 have Z:=k95 Z (co closed_oCon c0)
 refine mV (.tuple #[r97_0,I x88.2]) rfl (L_ex (v:=r97_0) rfl rfl rfl (L_ex (v:=I x88.2) rfl rfl rfl (aV r97_0 rfl (aI rfl (nq ?_)))))
 obtain ⟨b106,hb106,hB35⟩:=bind_some hB35
 obtain ⟨R107,hR107⟩:=exR fun f w_=>f 0 = Pt g_0∧f 1 = v1∧f 5 = v29_out∧f 6 = I i_31∧f 7 = v79∧f 42 = Bo b106.1∧Star H77 w_ (oF 76 (rStep 126) v29_out out_29 :: oF 76 (rStep 126) v79 x55 :: box g_0 117 #[v0_0,I b106.2] :: R)
 refine W_join R107 ?_ ?_
 refine W_region (mI rfl (L_lss rfl rfl rfl (mB rfl (L_split (d:=38) (b:=decide (x88.2 < 0)) rfl (fun hc108=>?_) (fun hc108=>?_)))))
 rw [ite_t hc108] at hb106
 refine ps rfl (ps rfl (ps rfl (L_pick (v:=Bo b106.1) rfl rfl (congrArg (fun z : Bool × Int=>Value.bool z.1) (so hb106)) ?_)))
 have Z:=Z.get 2 rfl
 have Z : Star H77 w97 (box g_0 117 #[v0_0,I b106.2] :: oS 74 (oCon 126) r97_0 x88.1 :: oF 76 (rStep 126) v79 x55 :: oF 76 (rStep 126) v29_out out_29 :: R):=by rw [← so hb106]; exact Z
 refine nn ?_
 have Z:=Z.gets [2,3] rfl
 have Z:=Star.drop 3 Z rfl
 exact rj hR107 ⟨sf0,sf1,sf5,sf6,rfl,rfl,Z⟩
 rw [ite_f hc108] at hb106
 obtain ⟨x104,hx104,hb106⟩:=bind_some hb106
 refine mF sf0 rfl ?_
 have Z:=Z.get 2 rfl
 obtain ⟨H109b,l110,s111,z112,k113⟩:=Z.lend [_]
 refine L_call rfl Tryz.call63 (ops2 rfl rfl) (s_l17Rd_pick_c (r_:=({ b:=r_.b,p:=x49.2 } : Rd)) (n_:=30) s111 (RP.mono _ h0_0 (Le.trans (Le.trans l34 l78) l110)) hx104) ?_
 rintro _ w114 ⟨rfl,Z⟩
 have Z:=k113 Z (cb c0)
 refine L_eql rfl rfl rfl (L_pick (v:=Bo b106.1) rfl rfl (congrArg (fun z : Bool × Int=>Value.bool z.1) (so hb106)) ?_)
 have Z : Star H77 w114 (box g_0 117 #[v0_0,I b106.2] :: oS 74 (oCon 126) r97_0 x88.1 :: oF 76 (rStep 126) v79 x55 :: oF 76 (rStep 126) v29_out out_29 :: R):=by rw [← so hb106]; exact Z
 refine nn ?_
 have Z:=Z.gets [2,3] rfl
 have Z:=Star.drop 3 Z rfl
 exact rj hR107 ⟨sf0,sf1,sf5,sf6,rfl,rfl,Z⟩
 intro f w_ hR
 obtain ⟨sf0,sf1,sf5,sf6,sf7,sf42,Z⟩:=rk hR107 hR
 obtain ⟨out_115,hA117,hB35⟩:=bind_some hB35
 obtain ⟨R117,hR117⟩:=exR fun f w_=>∃ v115_out : Value,f 0 = Pt g_0∧f 1 = v1∧f 5 = v115_out∧f 6 = I i_31∧Star H77 w_ (oF 76 (rStep 126) v115_out out_115 :: box g_0 117 #[v0_0,I b106.2] :: R)
 refine W_join R117 ?_ ?_
 refine W_cond (b:=b106.1) sf42 (fun hc118=>?_) (fun hc118=>?_)
 have hA117:=(ite_t hc118).symm.trans hA117
 refine W_region (mF sf7 rfl (aV v79 rfl (nn ?_)))
 obtain rfl:=so hA117
 have Z:=Z.gets [2,2] rfl
 have Z:=Star.drop 2 Z rfl
 exact rj hR117 ⟨v79,sf0,sf1,rfl,sf6,Z⟩
 have hA117:=(ite_f hc118).symm.trans hA117
 refine W_skip ?_
 obtain rfl:=so hA117
 have Z:=Z.gets [2,1] rfl
 have Z:=Star.drop 2 Z rfl
 exact rj hR117 ⟨v29_out,sf0,sf1,sf5,sf6,Z⟩
 intro f w_ hR
 obtain ⟨v115_out,sf0,sf1,sf5,sf6,Z⟩:=rk hR117 hR
 refine W_region (mF sf6 rfl (L_sub rfl rfl rfl (aI rfl (nn ?_))))
 obtain rfl:=so hB35
 show ∃ m,m < _∧I35 m _ _
 refine ⟨n35,Nat.lt_succ_self _,?_⟩
 exact ij hI35 ⟨out_115,i64 (i_31 - 1),b106.2,H77,v115_out,hL35,(Le.trans l34 l78),sf0,sf1,sf5,rfl,Z⟩
 have hB35:=(ite_f hc36).symm.trans hB35
 refine W_exit ?_
 obtain rfl:=so hB35
 obtain rfl:=so hL35
 exact rj hR35 ⟨out_29,i_31,g_0_1_32,H33,v29_out,rfl,l34,sf5,Z⟩
 intro f w_ hR
 obtain ⟨out_29,i_31,g_0_1_32,H33,v29_out,rfl,l34,sf5,Z⟩:=rk hR35 hR
 refine sq (mF sf5 rfl (aV v29_out rfl (nn (W_ret (retG1 (v1:=v29_out) Tryz.results113 rfl ?_)))))
 obtain rfl:=so hF
 exact ⟨H33,l34,v29_out,rfl,Z⟩
theorem s_l4Refuted_c {fu : Nat} {r_ : Rd} {g_0 : Nat} {v0_0 : Value} {H : FH} {w : World} {R : List Ass} (Z : Star H w (box g_0 117 #[v0_0,I r_.p] :: R)) (h0_0 : (rS 5 RP.u8).rel H [v0_0] r_.b) {r : (List Con) × (List Step) × Int} (hF : s_l4Refuted fu r_ = some r) :
 C Tryz.prog 110 #[Pt g_0] w fun v w'=>∃ H' : FH,Le H H'∧∃ (u1 : Value) (u2 : Value),v = .tuple #[u1,u2]∧(rS 74 (rCon 126)).rel H' [u1] r.1∧Star H' w' (oF 76 (rStep 126) u2 r.2.1 :: box g_0 117 #[v0_0,I r.2.2] :: R):=by
 unfold s_l4Refuted at hF
 refine C_enter Tryz.func110 rfl Tryz.ntmps110 rfl (sq (aV S0 rfl (aV S0 rfl (nq ?_))))
 obtain ⟨x6,hx6,hF⟩:=bind_some hF
 refine W_region (mV (Pt g_0) rfl ?_)
 obtain ⟨H9b,l10,s11,z12,k13⟩:=Z.lend [_]
 refine L_call rfl Tryz.call112 (ops1 rfl) (s_l3Problem_c (r_:=r_) s11 (RP.mono _ h0_0 l10) hx6) ?_
 rintro r14_0 w14 ⟨_,rfl,Z⟩
 have Z:=k13 Z (co closed_oCon (cb c0))
 refine aV r14_0 rfl (nq ?_)
 obtain ⟨x21,hx21,hF⟩:=bind_some hF
 refine W_region (mV (Pt g_0) rfl ?_)
 have Z:=Z.get 1 rfl
 obtain ⟨H23b,l24,s25,z26,k27⟩:=Z.lend [_]
 refine L_call rfl Tryz.call63 (ops2 rfl rfl) (s_l17Rd_pick_c (r_:=({ b:=r_.b,p:=x6.2 } : Rd)) (n_:=3) s25 (RP.mono _ h0_0 l24) hx21) ?_
 rintro _ w28 ⟨rfl,Z⟩
 have Z:=k27 Z (cb c0)
 refine L_add rfl rfl rfl (aI rfl (nq ?_))
 obtain ⟨x35,hx35,hF⟩:=bind_some hF
 refine W_region (mV r14_0 rfl (mI rfl (L_bld rfl (parts2 rfl rfl) (bld_126_0_1 (I 1) (I (i64 (1 + x21.1))) rfl rfl) (L_bld rfl (parts2 rfl rfl) (bld_126_0_1 (I 1) (I 5) rfl rfl) (L_bs rfl (parts2 rfl rfl) (bs_72_2_2_2 (I 1) (I (i64 (1 + x21.1))) (I 1) (I 5) ) Z (fun g39 w40 Z=>?_))))))
 have Z:=Star.addF (r:=rTerm) (cs:=[I 1,I 5]) (x:=({ coef:=1,lit:=5 } : Term)) Z (rTerm_iff.2 rfl)
 have Z:=Star.addF (r:=rTerm) (cs:=[I 1,I (i64 (1 + x21.1))]) (x:=({ coef:=1,lit:=i64 (1 + x21.1) } : Term)) Z (rTerm_iff.2 rfl)
 have Z:=Star.mkRow (R:=(OR.frz rTerm)) [([I 1,I (i64 (1 + x21.1))],({ coef:=1,lit:=i64 (1 + x21.1) } : Term)),([I 1,I 5],({ coef:=1,lit:=5 } : Term))] [({ coef:=1,lit:=i64 (1 + x21.1) } : Term),({ coef:=1,lit:=5 } : Term)] 2 Z rfl rfl rfl (by decide)
 refine L_bld rfl (parts2 rfl rfl) (bld_74_0_1 ((Sl g39 2 2)) (I 2) (one_len (Star.len 0 Z rfl)) rfl) (L_bs rfl (parts1 rfl) (bs_82_1_2 ((Sl g39 2 2)) (I 2) ) Z (fun g42 w43 Z=>?_))
 have Z:=Z.get 1 rfl
 have Z:=oCon_close (c:=({ terms:=[({ coef:=1,lit:=i64 (1 + x21.1) } : Term),({ coef:=1,lit:=5 } : Term)],bound:=2 } : Con)) Z
 have Z:=Star.mkRow (R:=(oCon 126)) [([(Sl g39 2 2),I 2],({ terms:=[({ coef:=1,lit:=i64 (1 + x21.1) } : Term),({ coef:=1,lit:=5 } : Term)],bound:=2 } : Con))] [({ terms:=[({ coef:=1,lit:=i64 (1 + x21.1) } : Term),({ coef:=1,lit:=5 } : Term)],bound:=2 } : Con)] 1 Z rfl rfl rfl (by decide)
 have Z:=Z.get 2 rfl
 refine L_appM (v:=r14_0) (u:=(Sl g42 1 1)) rfl et_82 rfl rfl Z hx35 (fun v45 w46 Z=>aV v45 rfl (nq ?_))
 obtain ⟨x54,hx54,hF⟩:=bind_some hF
 refine W_region (mV v45 rfl (mI rfl (L_neg rfl rfl (L_bld rfl (parts2 rfl rfl) (bld_126_0_1 (I 1) (I (i64 (-(i64 (1 + x21.1))))) rfl rfl) (L_bld rfl (parts2 rfl rfl) (bld_126_0_1 (I 1) (I (-5)) rfl rfl) (L_bs rfl (parts2 rfl rfl) (bs_72_2_2_2 (I 1) (I (i64 (-(i64 (1 + x21.1))))) (I 1) (I (-5)) ) Z (fun g58 w59 Z=>?_)))))))
 have Z:=Star.addF (r:=rTerm) (cs:=[I 1,I (-5)]) (x:=({ coef:=1,lit:=(-5) } : Term)) Z (rTerm_iff.2 rfl)
 have Z:=Star.addF (r:=rTerm) (cs:=[I 1,I (i64 (-(i64 (1 + x21.1))))]) (x:=({ coef:=1,lit:=i64 (-(i64 (1 + x21.1))) } : Term)) Z (rTerm_iff.2 rfl)
 have Z:=Star.mkRow (R:=(OR.frz rTerm)) [([I 1,I (i64 (-(i64 (1 + x21.1))))],({ coef:=1,lit:=i64 (-(i64 (1 + x21.1))) } : Term)),([I 1,I (-5)],({ coef:=1,lit:=(-5) } : Term))] [({ coef:=1,lit:=i64 (-(i64 (1 + x21.1))) } : Term),({ coef:=1,lit:=(-5) } : Term)] 2 Z rfl rfl rfl (by decide)
 refine L_bld rfl (parts2 rfl rfl) (bld_74_0_1 ((Sl g58 2 2)) (I 1) (one_len (Star.len 0 Z rfl)) rfl) (L_bs rfl (parts1 rfl) (bs_82_1_2 ((Sl g58 2 2)) (I 1) ) Z (fun g61 w62 Z=>?_))
 have Z:=Z.get 1 rfl
 have Z:=oCon_close (c:=({ terms:=[({ coef:=1,lit:=i64 (-(i64 (1 + x21.1))) } : Term),({ coef:=1,lit:=(-5) } : Term)],bound:=1 } : Con)) Z
 have Z:=Star.mkRow (R:=(oCon 126)) [([(Sl g58 2 2),I 1],({ terms:=[({ coef:=1,lit:=i64 (-(i64 (1 + x21.1))) } : Term),({ coef:=1,lit:=(-5) } : Term)],bound:=1 } : Con))] [({ terms:=[({ coef:=1,lit:=i64 (-(i64 (1 + x21.1))) } : Term),({ coef:=1,lit:=(-5) } : Term)],bound:=1 } : Con)] 1 Z rfl rfl rfl (by decide)
 have Z:=Z.get 1 rfl
 refine L_appM (v:=v45) (u:=(Sl g61 1 1)) rfl et_82 rfl rfl Z hx54 (fun v64 w65 Z=>aV v64 rfl (ns (mV v64 rfl (L_len rfl Tryz.underlying82 rfl (Star.len 0 Z rfl) (aI rfl (nq ?_))))))
 obtain ⟨x67,hx67,hF⟩:=bind_some hF
 obtain ⟨x73,hx73,hF⟩:=bind_some hF
 refine W_region (mV (Pt g_0) rfl (mV v64 rfl (mI rfl (L_sub rfl rfl rfl ?_))))
 obtain ⟨H77,l78,Z,hz79⟩:=Star.freeze Z
 have hz79 : (rS 74 (rCon 126)).rel H77 [v64] x54:=hz79
 refine L_sl (a:=0) (b:=i64 ((x54.length : Int) - 2)) rfl et_82 rfl hz79 rfl rfl hx67 (fun v76 hs80=>L_call rfl Tryz.call113 (ops2 rfl rfl) (s_l4Random_c (r_:=({ b:=r_.b,p:=x21.2 } : Rd)) (list:=x67) Z (RP.mono _ h0_0 l78) hs80 hx73) ?_)
 rintro r81_0 w81 ⟨H81,l81,_,rfl,Z⟩
 refine aV r81_0 rfl (nq ?_)
 obtain ⟨x89,hx89,hF⟩:=bind_some hF
 refine W_region (mV v64 rfl (mV r81_0 rfl ?_))
 obtain ⟨H92b,l93,s94,z95,k96⟩:=Z.borrow
 have hb97 : (rS 76 (rStep 126)).rel H92b [r81_0] x73.1:=fz_own 0 z95 rfl
 refine L_call rfl Tryz.call141 (ops2 rfl rfl) (s_RunProof_c (list:=x54) (steps:=x73.1) s94 (RP.mono _ hz79 (Le.trans l81 l93)) hb97 hx89) ?_
 rintro _ w98 ⟨r98_0,rfl,Z⟩
 have Z:=k96 Z (co closed_oCon c0)
 refine mV (.tuple #[r98_0,I x89.2]) rfl (L_ex (v:=r98_0) rfl rfl rfl (L_ex (v:=I x89.2) rfl rfl rfl (aV r98_0 rfl (aI rfl (nq (W_seq ?_))))))
 obtain ⟨R100,hR100⟩:=exR fun f w_=>f 0 = Pt g_0∧f 4 = v64∧f 6 = I (x54.length : Int)∧f 7 = r81_0∧f 53 = Bo ((decide (x89.2 ≥ 0)) || ((x54.length : Int) != (x54.length : Int)))∧Star H81 w_ (oF 76 (rStep 126) r81_0 x73.1 :: box g_0 117 #[v0_0,I x73.2] :: R)
 refine W_join R100 ?_ ?_
 refine W_region (mI rfl (L_geq rfl rfl rfl (mB rfl (L_split (d:=48) (b:=decide (x89.2 ≥ 0)) rfl (fun hc101=>?_) (fun hc101=>?_)))))
 refine ps rfl (ps rfl (ps rfl (ps rfl (L_pick (v:=Bo ((decide (x89.2 ≥ 0)) || ((x54.length : Int) != (x54.length : Int)))) rfl rfl (or_t hc101) (nn ?_)))))
 have Z:=Z.gets [2,2] rfl
 have Z:=Star.drop 2 Z rfl
 exact rj hR100 ⟨rfl,rfl,rfl,rfl,rfl,Z⟩
 refine mV v64 rfl (L_len rfl Tryz.underlying82 rfl (slice_len (RP.mono _ hz79 l81)) (mI rfl (L_neq rfl rfl rfl (L_pick (v:=Bo ((decide (x89.2 ≥ 0)) || ((x54.length : Int) != (x54.length : Int)))) rfl rfl (or_f hc101 rfl) (nn ?_)))))
 have Z:=Z.gets [2,2] rfl
 have Z:=Star.drop 2 Z rfl
 exact rj hR100 ⟨rfl,rfl,rfl,rfl,rfl,Z⟩
 intro f w_ hR
 obtain ⟨sf0,sf4,sf6,sf7,sf53,Z⟩:=rk hR100 hR
 obtain ⟨steps_102,hA104,hF⟩:=bind_some hF
 obtain ⟨R104,hR104⟩:=exR fun f w_=>∃ v102_steps : Value,f 0 = Pt g_0∧f 4 = v64∧f 6 = I (x54.length : Int)∧f 7 = v102_steps∧Star H81 w_ (oF 76 (rStep 126) v102_steps steps_102 :: box g_0 117 #[v0_0,I x73.2] :: R)
 refine W_join R104 ?_ ?_
 refine W_cond (b:=((decide (x89.2 ≥ 0)) || ((x54.length : Int) != (x54.length : Int)))) sf53 (fun hc105=>?_) (fun hc105=>?_)
 have hA104:=(ite_t hc105).symm.trans hA104
 refine W_region (L_bs rfl parts0 (bs_37_0  ) Z (fun g109 w110 Z=>?_))
 have Z:=Star.mkRow (R:=(OR.frz (rStep 126))) [] [] 0 Z rfl rfl rfl (by decide)
 refine aV (Sl g109 0 0) rfl (nn ?_)
 obtain rfl:=so hA104
 have Z:=Z.gets [2,1] rfl
 have Z:=Star.drop 2 Z rfl
 exact rj hR104 ⟨(Sl g109 0 0),sf0,sf4,sf6,rfl,Z⟩
 have hA104:=(ite_f hc105).symm.trans hA104
 refine W_skip ?_
 obtain rfl:=so hA104
 exact rj hR104 ⟨r81_0,sf0,sf4,sf6,sf7,Z⟩
 intro f w_ hR
 obtain ⟨v102_steps,sf0,sf4,sf6,sf7,Z⟩:=rk hR104 hR
 refine W_seq (W_seq ?_)
 obtain ⟨x117,hx117,hF⟩:=bind_some hF
 refine W_region (mF sf0 rfl ?_)
 have Z:=Z.get 1 rfl
 obtain ⟨H119b,l120,s121,z122,k123⟩:=Z.lend [_]
 refine L_call rfl Tryz.call63 (ops2 rfl rfl) (s_l17Rd_pick_c (r_:=({ b:=r_.b,p:=x73.2 } : Rd)) (n_:=2) s121 (RP.mono _ h0_0 (Le.trans (Le.trans l78 l81) l120)) hx117) ?_
 rintro _ w124 ⟨rfl,Z⟩
 have Z:=k123 Z (cb c0)
 refine L_eql rfl rfl rfl (nn (W_cond (b:=(x117.1 == 0)) rfl (fun hc125=>?_) (fun hc125=>?_)))
 have hF:=(ite_t hc125).symm.trans hF
 refine W_seq ?_
 obtain ⟨x130,hx130,hF⟩:=bind_some hF
 refine W_region (mF sf4 rfl (mF sf7 rfl (L_bld rfl (parts1 rfl) (bld_74_1 (I 1) rfl) (L_bld rfl (parts2 rfl rfl) (bld_76_0_3x2 (I 7) (S0) (I 1) rfl) (L_bs rfl (parts1 rfl) (bs_37_1_5 (I 7) (I 0) (I 0) (S0) (I 1) ) Z (fun g136 w137 Z=>?_))))))
 have Z:=Star.addNil (R:=(OR.frz rTerm)) (e:=126) Z
 have Z:=oStep_close (s:=({ kind:=7,a:=0,b:=0,given:=({ terms:=[],bound:=1 } : Con) } : Step)) Z
 have Z:=Star.mkRow (R:=(oStep 126)) [([I 7,I 0,I 0,S0,I 1],({ kind:=7,a:=0,b:=0,given:=({ terms:=[],bound:=1 } : Con) } : Step))] [({ kind:=7,a:=0,b:=0,given:=({ terms:=[],bound:=1 } : Con) } : Step)] 1 Z rfl rfl rfl (by decide)
 obtain ⟨H140,l141,Z⟩:=Star.shallow Z
 have Z : Star H140 w137 (oF 76 (rStep 126) (Sl g136 1 1) ([({ kind:=7,a:=0,b:=0,given:=({ terms:=[],bound:=1 } : Con) } : Step)]) :: _):=Z
 have Z:=Z.get 2 rfl
 refine L_appM (v:=v102_steps) (u:=(Sl g136 1 1)) rfl et_37 rfl rfl Z hx130 (fun v142 w143 Z=>aV v64 rfl (aV v142 rfl (nn (W_ret (retG2 (v1:=v64) (v2:=v142) Tryz.results110 rfl rfl ?_)))))
 obtain rfl:=so hF
 exact ⟨H140,(Le.trans (Le.trans l78 l81) l141),v64,v142,rfl,(RP.mono _ hz79 (Le.trans l81 l141)),Z⟩
 have hF:=(ite_f hc125).symm.trans hF
 refine W_skip (W_seq ?_)
 obtain ⟨x149,hx149,hF⟩:=bind_some hF
 refine W_region (mF sf4 rfl (mF sf7 rfl (mF sf6 rfl (L_sub rfl rfl rfl (mF sf6 rfl (L_sub rfl rfl rfl (L_bld rfl (parts3 rfl rfl rfl) (bld_76_0_1_2 (I 1) (I (i64 ((x54.length : Int) - 2))) (I (i64 ((x54.length : Int) - 1))) rfl rfl rfl) (L_bs rfl (parts1 rfl) (bs_37_1_5 (I 1) (I (i64 ((x54.length : Int) - 2))) (I (i64 ((x54.length : Int) - 1))) (S0) (I 0) ) Z (fun g155 w156 Z=>?_)))))))))
 have Z:=Star.addNil (R:=(OR.frz rTerm)) (e:=126) Z
 have Z:=oStep_close (s:=({ kind:=1,a:=i64 ((x54.length : Int) - 2),b:=i64 ((x54.length : Int) - 1),given:=({ terms:=[],bound:=0 } : Con) } : Step)) Z
 have Z:=Star.mkRow (R:=(oStep 126)) [([I 1,I (i64 ((x54.length : Int) - 2)),I (i64 ((x54.length : Int) - 1)),S0,I 0],({ kind:=1,a:=i64 ((x54.length : Int) - 2),b:=i64 ((x54.length : Int) - 1),given:=({ terms:=[],bound:=0 } : Con) } : Step))] [({ kind:=1,a:=i64 ((x54.length : Int) - 2),b:=i64 ((x54.length : Int) - 1),given:=({ terms:=[],bound:=0 } : Con) } : Step)] 1 Z rfl rfl rfl (by decide)
 obtain ⟨H159,l160,Z⟩:=Star.shallow Z
 have Z : Star H159 w156 (oF 76 (rStep 126) (Sl g155 1 1) ([({ kind:=1,a:=i64 ((x54.length : Int) - 2),b:=i64 ((x54.length : Int) - 1),given:=({ terms:=[],bound:=0 } : Con) } : Step)]) :: _):=Z
 have Z:=Z.get 2 rfl
 refine L_appM (v:=v102_steps) (u:=(Sl g155 1 1)) rfl et_37 rfl rfl Z hx149 (fun v161 w162 Z=>aV v64 rfl (aV v161 rfl (nn (W_ret (retG2 (v1:=v64) (v2:=v161) Tryz.results110 rfl rfl ?_)))))
 obtain rfl:=so hF
 exact ⟨H159,(Le.trans (Le.trans l78 l81) l160),v64,v161,rfl,(RP.mono _ hz79 (Le.trans l81 l160)),Z⟩
theorem s_l1Mutate_c {r_ : Rd} {c : Con} {g_0 : Nat} {v0_0 : Value} {v1_0 : Value} {H : FH} {w : World} (Z : Star H w [box g_0 117 #[v0_0,I r_.p]]) (h0_0 : (rS 5 RP.u8).rel H [v0_0] r_.b) (h1_0 : (rS 126 rTerm).rel H [v1_0] c.terms) {r : Con × Int} (hF : s_l1Mutate r_ c = some r) :
 C Tryz.prog 142 #[Pt g_0,.agg #[v1_0,I c.bound]] w fun v w'=>∃ (u1 : Value),v = .agg #[u1,I r.1.bound]∧Star H w' [oF 126 rTerm u1 r.1.terms,box g_0 117 #[v0_0,I r.2]]:=by
 unfold s_l1Mutate at hF
 refine C_enter Tryz.func142 rfl Tryz.ntmps142 rfl (sq (L_box (v:=.agg #[v1_0,I c.bound]) (cs:=#[v1_0,I c.bound]) rfl rfl rfl Z (fun g5 w6 Z=>L_al (cs:=#[S0,I 0]) rfl Tryz.zeroValue74 rfl Z (fun g7 w8 Z=>nq ?_))))
 obtain ⟨x14,hx14,hF⟩:=bind_some hF
 refine W_region (L_lda (cs:=[v1_0,I c.bound]) rfl Tryz.isAgg74 Tryz.sizeOf74 rfl (At.sub0 (Blk.at (Star.blkAt 1 Z rfl)) 0 2) rfl ?_)
 obtain ⟨H20b,l21,s22,z23,k24⟩:=Z.borrow
 refine L_call rfl Tryz.call160 (ops1 rfl) (s_l1Copy_c (c:=c) s22 (RP.mono _ h1_0 l21) hx14) ?_
 rintro _ w25 ⟨r25_0,rfl,Z⟩
 have Z:=k24 Z (co closed_term c0)
 refine L_al (cs:=#[S0,I 0]) rfl Tryz.zeroValue74 rfl Z (fun g27 w28 Z=>L_staB (vs:=#[r25_0,I x14.bound]) (cs2:=#[r25_0,I x14.bound]) 0 rfl Tryz.sizeOf74 rfl rfl rfl (ones_cons (one_len (Star.len 1 Z rfl)) (ones_cons rfl ones_nil)) Z rfl (by show 0 + 2≤2; decide) rfl (fun w29 Z=>ns (fA 0 fa_74_0 rfl rfl (ldB 0 Z Tryz.isAgg72 rfl rfl rfl (L_len rfl Tryz.underlying72 rfl (Star.len 1 Z rfl) (aI rfl (nq (W_seq ?_))))))))
 obtain ⟨x35,hx35,hF⟩:=bind_some hF
 refine W_region (mV (Pt g_0) rfl ?_)
 have Z:=Z.get 4 rfl
 obtain ⟨H37b,l38,s39,z40,k41⟩:=Z.lend [_]
 refine L_call rfl Tryz.call63 (ops2 rfl rfl) (s_l17Rd_pick_c (r_:=r_) (n_:=40) s39 (RP.mono _ h0_0 l38) hx35) ?_
 rintro _ w42 ⟨rfl,Z⟩
 have Z:=k41 Z (cb c0)
 refine nn (W_block (sq (L_eql rfl rfl rfl (aB rfl (nn ?_)))))
 obtain ⟨⟨g_0_1_43,g27_0_44,g27_1_46⟩,hA49,hF⟩:=bind_some hF
 obtain ⟨R49,hR49⟩:=exR fun f w_=>∃ H47 : FH,∃ v44_g27_0 : Value,Le H H47∧f 4 = Pt g7∧f 5 = Pt g27∧Star H47 w_ ([box g_0 117 #[v0_0,I g_0_1_43],oF 126 rTerm v44_g27_0 g27_0_44,box g27 74 #[v44_g27_0,I g27_1_46],box g7 74 #[S0,I 0]])
 refine W_join R49 ?_ ?_
 refine W_cond (b:=(x35.1 == 0)) rfl (fun hc50=>?_) (fun hc50=>?_)
 have hA49:=(ite_t hc50).symm.trans hA49
 obtain ⟨x60,hx60,hA49⟩:=bind_some hA49
 refine W_region (mV (Pt g_0) rfl (L_bs rfl (parts3 rfl rfl rfl) (bs_22_3_0_0_0 (I (-1)) (I 20001) (I 9223372036854775807) rfl rfl rfl) Z (fun g63 w64 Z=>?_)))
 have Z:=litInts [(-1),20001,9223372036854775807] 3 Z rfl rfl (by decide)
 have Z:=Z.get 1 rfl
 obtain ⟨H66b,l67,s68,z69,k70⟩:=Z.lend [_]
 have hb71 : (rS 3 RP.int).rel H66b [(Sl g63 3 3)] ([(-1),20001,9223372036854775807]):=fz_own 0 z69 rfl
 refine L_call rfl Tryz.call64 (ops2 rfl rfl) (s_l17Rd_num_c (r_:=({ b:=r_.b,p:=x35.2 } : Rd)) (list:=[(-1),20001,9223372036854775807]) s68 (RP.mono _ h0_0 l67) hb71 hx60) ?_
 rintro _ w72 ⟨rfl,Z⟩
 have Z:=k70 Z (cb c0)
 refine fA 1 fa_74_1 rfl rfl (L_stB (v:=I x60.1) (cs2:=#[r25_0,I x60.1]) 2 rfl Tryz.sizeOf3 rfl rfl rfl Z rfl rfl rfl (fun w73 Z=>nn ?_))
 obtain ⟨rfl,rfl,rfl⟩:=so3 hA49
 have Z:=Z.gets [4,1,4,3] rfl
 exact rj hR49 ⟨H,r25_0,(Le.refl _),rfl,rfl,(Star.keepN 4 Z)⟩
 have hA49:=(ite_f hc50).symm.trans hA49
 refine sq (L_eql rfl rfl rfl (aB rfl (nn ?_)))
 obtain ⟨⟨g_0_1_74,g27_0_75⟩,hA79,hA49⟩:=bind_some hA49
 obtain ⟨R79,hR79⟩:=exR fun f w_=>∃ H77 : FH,∃ v75_g27_0 : Value,Le H H77∧f 4 = Pt g7∧f 5 = Pt g27∧Star H77 w_ ([box g_0 117 #[v0_0,I g_0_1_74],oF 126 rTerm v75_g27_0 g27_0_75,box g27 74 #[v75_g27_0,I x14.bound],box g7 74 #[S0,I 0]])
 refine W_join R79 ?_ ?_
 refine W_cond (b:=(x35.1 == 1)) rfl (fun hc80=>?_) (fun hc80=>?_)
 have hA79:=(ite_t hc80).symm.trans hA79
 refine sq (mI rfl (L_gtr rfl rfl rfl (nn ?_)))
 obtain ⟨⟨g_0_1_81,g27_0_82⟩,hA85,hA79⟩:=bind_some hA79
 obtain ⟨R85,hR85⟩:=exR fun f w_=>∃ H83 : FH,Le H H83∧f 4 = Pt g7∧f 5 = Pt g27∧Star H83 w_ ([box g_0 117 #[v0_0,I g_0_1_81],oF 126 rTerm r25_0 g27_0_82,box g27 74 #[r25_0,I x14.bound],box g7 74 #[S0,I 0]])
 refine W_join R85 ?_ ?_
 refine W_cond (b:=decide ((x14.terms.length : Int) > 0)) rfl (fun hc86=>?_) (fun hc86=>?_)
 have hA85:=(ite_t hc86).symm.trans hA85
 obtain ⟨x96,hx96,hA85⟩:=bind_some hA85
 obtain ⟨x98,hx98,hA85⟩:=bind_some hA85
 have Z:=Star.drop 4 Z rfl
 have Z:=Z.gets [3,3,3] rfl
 refine W_drawS 5 [isV (Pt g27),isV (r25_0),isV (Pt g_0),anyF,isV (I x96.1)] [box g27 74 #[r25_0,I x14.bound],oF 126 rTerm r25_0 x14.terms,box g7 74 #[S0,I 0]] [.base (box g_0 117 #[v0_0,I x35.2]) (some 4),.made 3 27 (fun v_=>oF 3 RP.int v_ ([0,(-1),1001])) none,.made 4 28 (fun v_=>box g_0 117 #[v0_0,I x96.2]) none] ([]) [([],[]),([],[]),([],[]),([],[1]),([0,1],[1,2])] (S:=[(none,[],some 4),(some 3,[27],none),(some 4,[28],none)]) Tryz_mix (by kernel_rfl) rfl (by kernel_rfl) (amF_cons (mono_V _) (amF_cons (mono_V _) (amF_cons (mono_V _) (amF_cons (mono_any) (amF_cons (mono_V _) amF_nil))))) Z ?_ (fun f w_ H102 hS102 hE102 hT102 Z=>?_)
 refine opsS_cons (fun f w_ _ _ s _ _ Z=>fA 0 fa_74_0 ((s 5 rfl).trans rfl) rfl (nO rfl rfl Z)) (opsS_cons (fun f w_ _ _ _ _ p Z=>ldB 0 Z Tryz.isAgg72 (p 0 24 rfl rfl) rfl rfl (nO rfl rfl Z)) (opsS_cons (fun f w_ _ _ s _ _ Z=>mF ((s 0 rfl).trans rfl) rfl (nO rfl rfl Z)) (opsS_cons ?_ ?_)))
 intro f w_ H102 X102 hS102 hE102 hP102 Z
 refine L_bs rfl (parts3 rfl rfl rfl) (bs_22_3_0_0_0 (I 0) (I (-1)) (I 1001) rfl rfl rfl) Z (fun g113 w114 Z=>?_)
 have Z:=litInts [0,(-1),1001] 3 Z rfl rfl (by decide)
 have Z:=Z.gets [3,3,3] rfl
 exact L_nil ⟨rfl,_,_,rfl,Le.refl _,fun _ _=>trivial,Z⟩
 refine opsS_cons ?_ ?_
 intro f w_ H102 X102 hS102 hE102 hP102 Z
 have Z : Star H102 w_ (box g27 74 #[r25_0,I x14.bound] :: oF 126 rTerm r25_0 x14.terms :: box g7 74 #[S0,I 0] :: box g_0 117 #[v0_0,I x35.2] :: oF 3 RP.int (f 27) ([0,(-1),1001]) :: X102):=Z
 have Z:=Z.get 3 rfl
 obtain ⟨H117b,l118,s119,z120,k121⟩:=Z.lend [_]
 have hb122 : (rS 3 RP.int).rel H117b [(f 27)] ([0,(-1),1001]):=fz_own 3 z120 rfl
 refine L_call rfl Tryz.call64 (ops2 (hP102 2 26 rfl rfl) rfl) (s_l17Rd_num_c (r_:=({ b:=r_.b,p:=x35.2 } : Rd)) (list:=[0,(-1),1001]) s119 (RP.mono _ h0_0 (Le.trans hE102 l118)) hb122 hx96) ?_
 rintro _ w123 ⟨rfl,Z⟩
 have Z:=k121 Z (cb c0)
 have Z:=Z.gets [4,4,4,4] rfl
 exact L_nil ⟨rfl,_,_,rfl,Le.refl _,fun _ _=>rfl,Z⟩
 exact opsS_nil
 have Z : Star H102 w_ ([box g27 74 #[r25_0,I x14.bound],oF 126 rTerm r25_0 x14.terms,box g7 74 #[S0,I 0],oF 3 RP.int (f 27) ([0,(-1),1001]),box g_0 117 #[v0_0,I x96.2]]):=Z
 obtain ⟨g124,cap_g124,hv125,_,_⟩:=Star.row 1 Z rfl hx98
 refine L_ixO (R:=(OR.frz rTerm)) (tb:=0) 0 rfl Tryz.underlying72 Tryz.sizeOf126 (hT102 1 25 rfl rfl) hv125 (by first | rfl | simp) rfl hx98 (fA (Int.toNat 0 * 2 + 0) fa_126_0 rfl rfl ?_)
 have Z:=Z.get 1 rfl
 refine L_stF (j:=0) (u:=I x96.1) (z:={ x98 with coef:=x96.1 }) rfl Tryz.sizeOf3 rfl rfl (hT102 4 28 rfl rfl) rfl hv125 Z hx98 fldF_rTerm_0 (fun w126 Z=>nn ?_)
 obtain ⟨rfl,rfl⟩:=so2 hA85
 have Z:=Z.gets [2,2,2,4] rfl
 exact rj hR85 ⟨H102,hE102,((hS102 4 rfl).trans rfl),((hS102 5 rfl).trans rfl),(Star.keepN 4 Z)⟩
 have hA85:=(ite_f hc86).symm.trans hA85
 refine W_skip ?_
 obtain ⟨rfl,rfl⟩:=so2 hA85
 have Z:=Z.gets [3,2,3,3] rfl
 exact rj hR85 ⟨H,(Le.refl _),rfl,rfl,(Star.keepN 4 Z)⟩
 intro f w_ hR
 obtain ⟨H83,l84,sf4,sf5,Z⟩:=rk hR85 hR
 obtain ⟨rfl,rfl⟩:=so2 hA79
 exact rj hR79 ⟨H83,r25_0,l84,sf4,sf5,Z⟩
 have hA79:=(ite_f hc80).symm.trans hA79
 refine sq (L_eql rfl rfl rfl (aB rfl (nn ?_)))
 obtain ⟨⟨g_0_1_127,g27_0_128⟩,hA132,hA79⟩:=bind_some hA79
 obtain ⟨R132,hR132⟩:=exR fun f w_=>∃ H130 : FH,∃ v128_g27_0 : Value,Le H H130∧f 4 = Pt g7∧f 5 = Pt g27∧Star H130 w_ ([box g_0 117 #[v0_0,I g_0_1_127],oF 126 rTerm v128_g27_0 g27_0_128,box g27 74 #[v128_g27_0,I x14.bound],box g7 74 #[S0,I 0]])
 refine W_join R132 ?_ ?_
 refine W_cond (b:=(x35.1 == 2)) rfl (fun hc133=>?_) (fun hc133=>?_)
 have hA132:=(ite_t hc133).symm.trans hA132
 refine sq (mI rfl (L_gtr rfl rfl rfl (nn ?_)))
 obtain ⟨⟨g_0_1_134,g27_0_135⟩,hA138,hA132⟩:=bind_some hA132
 obtain ⟨R138,hR138⟩:=exR fun f w_=>∃ H136 : FH,Le H H136∧f 4 = Pt g7∧f 5 = Pt g27∧Star H136 w_ ([box g_0 117 #[v0_0,I g_0_1_134],oF 126 rTerm r25_0 g27_0_135,box g27 74 #[r25_0,I x14.bound],box g7 74 #[S0,I 0]])
 refine W_join R138 ?_ ?_
 refine W_cond (b:=decide ((x14.terms.length : Int) > 0)) rfl (fun hc139=>?_) (fun hc139=>?_)
 have hA138:=(ite_t hc139).symm.trans hA138
 obtain ⟨x149,hx149,hA138⟩:=bind_some hA138
 obtain ⟨x151,hx151,hA138⟩:=bind_some hA138
 have Z:=Star.drop 4 Z rfl
 have Z:=Z.gets [3,3,3] rfl
 refine W_drawS 7 [isV (Pt g27),isV (r25_0),isV (I (x14.terms.length : Int)),isV (I (i64 ((x14.terms.length : Int) - 1))),isV (Pt g_0),anyF,isV (I x149.1)] [box g27 74 #[r25_0,I x14.bound],oF 126 rTerm r25_0 x14.terms,box g7 74 #[S0,I 0]] [.base (box g_0 117 #[v0_0,I x35.2]) (some 6),.made 5 40 (fun v_=>oF 3 RP.int v_ ([0,13,(-13),1,(-9223372036854775808)])) none,.made 6 41 (fun v_=>box g_0 117 #[v0_0,I x149.2]) none] ([]) [([],[]),([],[]),([],[]),([],[]),([],[]),([],[1]),([0,1],[1,2])] (S:=[(none,[],some 6),(some 5,[40],none),(some 6,[41],none)]) Tryz_mix (by kernel_rfl) rfl (by kernel_rfl) (amF_cons (mono_V _) (amF_cons (mono_V _) (amF_cons (mono_V _) (amF_cons (mono_V _) (amF_cons (mono_V _) (amF_cons (mono_any) (amF_cons (mono_V _) amF_nil))))))) Z ?_ (fun f w_ H155 hS155 hE155 hT155 Z=>?_)
 refine opsS_cons (fun f w_ _ _ s _ _ Z=>fA 0 fa_74_0 ((s 5 rfl).trans rfl) rfl (nO rfl rfl Z)) (opsS_cons (fun f w_ _ _ _ _ p Z=>ldB 0 Z Tryz.isAgg72 (p 0 35 rfl rfl) rfl rfl (nO rfl rfl Z)) (opsS_cons (fun f w_ _ _ s _ _ Z=>mF ((s 6 rfl).trans rfl) rfl (nO rfl rfl Z)) (opsS_cons (fun f w_ _ _ _ _ p Z=>L_sub rfl (p 2 37 rfl rfl) rfl (nO rfl rfl Z)) (opsS_cons (fun f w_ _ _ s _ _ Z=>mF ((s 0 rfl).trans rfl) rfl (nO rfl rfl Z)) (opsS_cons ?_ ?_)))))
 intro f w_ H155 X155 hS155 hE155 hP155 Z
 refine L_bs rfl (parts5 rfl rfl rfl rfl rfl) (bs_22_5_0_0_0_0_0 (I 0) (I 13) (I (-13)) (I 1) (I (-9223372036854775808)) rfl rfl rfl rfl rfl) Z (fun g166 w167 Z=>?_)
 have Z:=litInts [0,13,(-13),1,(-9223372036854775808)] 5 Z rfl rfl (by decide)
 have Z:=Z.gets [3,3,3] rfl
 exact L_nil ⟨rfl,_,_,rfl,Le.refl _,fun _ _=>trivial,Z⟩
 refine opsS_cons ?_ ?_
 intro f w_ H155 X155 hS155 hE155 hP155 Z
 have Z : Star H155 w_ (box g27 74 #[r25_0,I x14.bound] :: oF 126 rTerm r25_0 x14.terms :: box g7 74 #[S0,I 0] :: box g_0 117 #[v0_0,I x35.2] :: oF 3 RP.int (f 40) ([0,13,(-13),1,(-9223372036854775808)]) :: X155):=Z
 have Z:=Z.get 3 rfl
 obtain ⟨H170b,l171,s172,z173,k174⟩:=Z.lend [_]
 have hb175 : (rS 3 RP.int).rel H170b [(f 40)] ([0,13,(-13),1,(-9223372036854775808)]):=fz_own 3 z173 rfl
 refine L_call rfl Tryz.call64 (ops2 (hP155 4 39 rfl rfl) rfl) (s_l17Rd_num_c (r_:=({ b:=r_.b,p:=x35.2 } : Rd)) (list:=[0,13,(-13),1,(-9223372036854775808)]) s172 (RP.mono _ h0_0 (Le.trans hE155 l171)) hb175 hx149) ?_
 rintro _ w176 ⟨rfl,Z⟩
 have Z:=k174 Z (cb c0)
 have Z:=Z.gets [4,4,4,4] rfl
 exact L_nil ⟨rfl,_,_,rfl,Le.refl _,fun _ _=>rfl,Z⟩
 exact opsS_nil
 have Z : Star H155 w_ ([box g27 74 #[r25_0,I x14.bound],oF 126 rTerm r25_0 x14.terms,box g7 74 #[S0,I 0],oF 3 RP.int (f 40) ([0,13,(-13),1,(-9223372036854775808)]),box g_0 117 #[v0_0,I x149.2]]):=Z
 obtain ⟨g177,cap_g177,hv178,_,_⟩:=Star.row 1 Z rfl hx151
 refine L_ixO (R:=(OR.frz rTerm)) (tb:=0) 0 rfl Tryz.underlying72 Tryz.sizeOf126 (hT155 1 36 rfl rfl) hv178 (by first | rfl | simp) (hT155 3 38 rfl rfl) hx151 (fA (Int.toNat (i64 ((x14.terms.length : Int) - 1)) * 2 + 1) fa_126_1 rfl rfl ?_)
 have Z:=Z.get 1 rfl
 refine L_stF (j:=1) (u:=I x149.1) (z:={ x151 with lit:=x149.1 }) rfl Tryz.sizeOf3 rfl rfl (hT155 6 41 rfl rfl) rfl hv178 Z hx151 fldF_rTerm_1 (fun w179 Z=>nn ?_)
 obtain ⟨rfl,rfl⟩:=so2 hA138
 have Z:=Z.gets [2,2,2,4] rfl
 exact rj hR138 ⟨H155,hE155,((hS155 4 rfl).trans rfl),((hS155 5 rfl).trans rfl),(Star.keepN 4 Z)⟩
 have hA138:=(ite_f hc139).symm.trans hA138
 refine W_skip ?_
 obtain ⟨rfl,rfl⟩:=so2 hA138
 have Z:=Z.gets [3,2,3,3] rfl
 exact rj hR138 ⟨H,(Le.refl _),rfl,rfl,(Star.keepN 4 Z)⟩
 intro f w_ hR
 obtain ⟨H136,l137,sf4,sf5,Z⟩:=rk hR138 hR
 obtain ⟨rfl,rfl⟩:=so2 hA132
 exact rj hR132 ⟨H136,r25_0,l137,sf4,sf5,Z⟩
 have hA132:=(ite_f hc133).symm.trans hA132
 refine sq (L_eql rfl rfl rfl (aB rfl (nn ?_)))
 obtain ⟨g27_0_180,hA182,hA132⟩:=bind_some hA132
 obtain ⟨R182,hR182⟩:=exR fun f w_=>∃ v180_g27_0 : Value,f 4 = Pt g7∧f 5 = Pt g27∧Star H w_ ([box g_0 117 #[v0_0,I x35.2],oF 126 rTerm v180_g27_0 g27_0_180,box g27 74 #[v180_g27_0,I x14.bound],box g7 74 #[S0,I 0]])
 refine W_join R182 ?_ ?_
 refine W_cond (b:=(x35.1 == 3)) rfl (fun hc183=>?_) (fun hc183=>?_)
 have hA182:=(ite_t hc183).symm.trans hA182
 obtain ⟨x187,hx187,hA182⟩:=bind_some hA182
 refine W_region (fA 0 fa_74_0 rfl rfl (ldB 1 Z Tryz.isAgg72 rfl rfl rfl (L_bld rfl (parts2 rfl rfl) (bld_126_0_1 (I 1) (I 1) rfl rfl) (L_bs rfl (parts1 rfl) (bs_72_1_2 (I 1) (I 1) ) Z (fun g192 w193 Z=>?_)))))
 have Z:=Star.addF (r:=rTerm) (cs:=[I 1,I 1]) (x:=({ coef:=1,lit:=1 } : Term)) Z (rTerm_iff.2 rfl)
 have Z:=Star.mkRow (R:=(OR.frz rTerm)) [([I 1,I 1],({ coef:=1,lit:=1 } : Term))] [({ coef:=1,lit:=1 } : Term)] 1 Z rfl rfl rfl (by decide)
 have Z:=Z.get 3 rfl
 refine L_appM (v:=r25_0) (u:=(Sl g192 1 1)) rfl et_72 rfl rfl Z hx187 (fun v195 w196 Z=>fA 0 fa_74_0 rfl rfl (L_stB (v:=v195) (cs2:=#[v195,I x14.bound]) 2 rfl Tryz.sizeOf72 rfl rfl (one_len (Star.len 0 Z rfl)) Z rfl rfl rfl (fun w198 Z=>nn ?_)))
 obtain rfl:=so hA182
 have Z:=Z.gets [3,1,2,3] rfl
 exact rj hR182 ⟨v195,rfl,rfl,(Star.keepN 4 Z)⟩
 have hA182:=(ite_f hc183).symm.trans hA182
 refine W_skip ?_
 obtain rfl:=so hA182
 have Z:=Z.gets [3,2,3,3] rfl
 exact rj hR182 ⟨r25_0,rfl,rfl,(Star.keepN 4 Z)⟩
 intro f w_ hR
 obtain ⟨v180_g27_0,sf4,sf5,Z⟩:=rk hR182 hR
 obtain ⟨rfl,rfl⟩:=so2 hA132
 exact rj hR132 ⟨H,v180_g27_0,(Le.refl _),sf4,sf5,Z⟩
 intro f w_ hR
 obtain ⟨H130,v128_g27_0,l131,sf4,sf5,Z⟩:=rk hR132 hR
 obtain ⟨rfl,rfl⟩:=so2 hA79
 exact rj hR79 ⟨H130,v128_g27_0,l131,sf4,sf5,Z⟩
 intro f w_ hR
 obtain ⟨H77,v75_g27_0,l78,sf4,sf5,Z⟩:=rk hR79 hR
 obtain ⟨rfl,rfl,rfl⟩:=so3 hA49
 exact rj hR49 ⟨H77,v75_g27_0,l78,sf4,sf5,Z⟩
 intro f w_ hR
 obtain ⟨H47,v44_g27_0,l48,sf4,sf5,Z⟩:=rk hR49 hR
 refine sq (L_lda (cs:=[v44_g27_0,I g27_1_46]) rfl Tryz.isAgg74 Tryz.sizeOf74 sf5 (At.sub0 (Blk.at (Star.blkAt 2 Z rfl)) 0 2) rfl (L_staB (vs:=#[v44_g27_0,I g27_1_46]) (cs2:=#[v44_g27_0,I g27_1_46]) 3 rfl Tryz.sizeOf74 sf4 rfl rfl (ones_cons (one_len (Star.len 1 Z rfl)) (ones_cons rfl ones_nil)) Z rfl (by show 0 + 2≤2; decide) rfl (fun w200 Z=>nn (W_ret (retG1 (v1:=.agg #[v44_g27_0,I g27_1_46]) Tryz.results142 (resV_agg Tryz.isAgg74 Tryz.sizeOf74 sf4 (Star.blkAt 0 Z rfl) rfl) ?_)))))
 obtain rfl:=so hF
 have Z:=Z.gets [1,2] rfl
 exact ⟨v44_g27_0,rfl,(Star.down (Star.keepN 2 Z) l48 (co closed_term (cb c0)))⟩
theorem s_l3Mutate_c {r_ : Rd} {list : List Con} {g_0 : Nat} {v0_0 : Value} {v1 : Value} {H : FH} {w : World} {R : List Ass} (Z : Star H w (box g_0 117 #[v0_0,I r_.p] :: R)) (h0_0 : (rS 5 RP.u8).rel H [v0_0] r_.b) (h1 : (rS 74 (rCon 126)).rel H [v1] list) {r : (List Con) × Int} (hF : s_l3Mutate r_ list = some r) :
 C Tryz.prog 111 #[Pt g_0,v1] w fun v w'=>∃ H' : FH,Le H H'∧∃ (u1 : Value),v = u1∧Star H' w' (oF 74 (rCon 126) u1 r.1 :: box g_0 117 #[v0_0,I r.2] :: R):=by
 unfold s_l3Mutate at hF
 refine C_enter Tryz.func111 rfl Tryz.ntmps111 rfl (sq (aV S0 rfl (nq ?_)))
 obtain ⟨x4,hx4,hF⟩:=bind_some hF
 refine W_region (L_bs rfl parts0 (bs_82_0  ) Z (fun g8 w9 Z=>?_))
 have Z:=Star.mkRow (R:=(OR.frz (rCon 126))) [] [] 0 Z rfl rfl rfl (by decide)
 refine mV v1 rfl (L_app (v:=(Sl g8 0 0)) (u:=v1) rfl et_82 rfl rfl Z h1 hx4 (fun v11 w12 Z=>aV v11 rfl (nq (W_seq ?_))))
 obtain ⟨b21,hb21,hF⟩:=bind_some hF
 obtain ⟨R22,hR22⟩:=exR fun f w_=>f 0 = Pt g_0∧f 5 = v11∧f 17 = Bo b21.1∧Star H w_ (oF 74 (rCon 126) v11 x4 :: box g_0 117 #[v0_0,I b21.2] :: R)
 refine W_join R22 ?_ ?_
 refine W_region (mV v11 rfl (L_len rfl Tryz.underlying82 rfl (Star.len 0 Z rfl) (L_gtr rfl rfl rfl (mB rfl (L_split (d:=13) (b:=decide ((x4.length : Int) > 0)) rfl (fun hc23=>?_) (fun hc23=>?_))))))
 rw [ite_t hc23] at hb21
 obtain ⟨x19,hx19,hb21⟩:=bind_some hb21
 refine mV (Pt g_0) rfl ?_
 have Z:=Z.get 1 rfl
 obtain ⟨H24b,l25,s26,z27,k28⟩:=Z.lend [_]
 refine L_call rfl Tryz.call63 (ops2 rfl rfl) (s_l17Rd_pick_c (r_:=r_) (n_:=20) s26 (RP.mono _ h0_0 l25) hx19) ?_
 rintro _ w29 ⟨rfl,Z⟩
 have Z:=k28 Z (cb c0)
 refine L_eql rfl rfl rfl (L_pick (v:=Bo b21.1) rfl rfl (congrArg (fun z : Bool × Int=>Value.bool z.1) (so hb21)) ?_)
 have Z : Star H w29 (box g_0 117 #[v0_0,I b21.2] :: oF 74 (rCon 126) v11 x4 :: R):=by rw [← so hb21]; exact Z
 refine nn ?_
 have Z:=Z.get 1 rfl
 exact rj hR22 ⟨rfl,rfl,rfl,Z⟩
 rw [ite_f hc23] at hb21
 refine ps rfl (ps rfl (ps rfl (L_pick (v:=Bo b21.1) rfl rfl (congrArg (fun z : Bool × Int=>Value.bool z.1) (so hb21)) ?_)))
 have Z:=Z.get 1 rfl
 have Z : Star H w12 (box g_0 117 #[v0_0,I b21.2] :: oF 74 (rCon 126) v11 x4 :: R):=by rw [← so hb21]; exact Z
 refine nn ?_
 have Z:=Z.get 1 rfl
 exact rj hR22 ⟨rfl,rfl,rfl,Z⟩
 intro f w_ hR
 obtain ⟨sf0,sf5,sf17,Z⟩:=rk hR22 hR
 obtain ⟨⟨out_30,g_0_1_31⟩,hA34,hF⟩:=bind_some hF
 obtain ⟨R34,hR34⟩:=exR fun f w_=>∃ H32 : FH,Le H H32∧f 5 = v11∧Star H32 w_ (oF 74 (rCon 126) v11 out_30 :: box g_0 117 #[v0_0,I g_0_1_31] :: R)
 refine W_join R34 ?_ ?_
 refine W_cond (b:=b21.1) sf17 (fun hc35=>?_) (fun hc35=>?_)
 have hA34:=(ite_t hc35).symm.trans hA34
 refine W_seq ?_
 obtain ⟨x41,hx41,hA34⟩:=bind_some hA34
 refine W_region (mF sf0 rfl (mF sf5 rfl (L_len rfl Tryz.underlying82 rfl (Star.len 0 Z rfl) ?_)))
 have Z:=Z.get 1 rfl
 obtain ⟨H43b,l44,s45,z46,k47⟩:=Z.lend [_]
 refine L_call rfl Tryz.call63 (ops2 rfl rfl) (s_l17Rd_pick_c (r_:=({ b:=r_.b,p:=b21.2 } : Rd)) (n_:=(x4.length : Int)) s45 (RP.mono _ h0_0 l44) hx41) ?_
 rintro _ w48 ⟨rfl,Z⟩
 have Z:=k47 Z (cb c0)
 refine aI rfl (nn ?_)
 obtain ⟨x49,hx49,hA34⟩:=bind_some hA34
 obtain ⟨x59,hx59,hA34⟩:=bind_some hA34
 obtain ⟨x68,hx68,hA34⟩:=bind_some hA34
 obtain ⟨x77,hx77,hA34⟩:=bind_some hA34
 refine W_region (mF sf5 rfl (mI rfl (mF sf0 rfl (mF sf0 rfl (mF sf0 rfl (mF sf5 rfl (mI rfl ?_)))))))
 obtain ⟨g84,cap_g84,hv85,_,_⟩:=Star.row 1 Z rfl hx49
 refine L_ixO (R:=(OR.frz (rCon 126))) (tb:=0) 0 rfl Tryz.underlying82 Tryz.sizeOf74 rfl hv85 (by first | rfl | simp) rfl hx49 ?_
 obtain ⟨cs86,hr86,hat86⟩:=Star.eltF 1 Z rfl hv85 hx49
 obtain ⟨u87_0,rfl,hu87_0⟩:=rCon_iff.1 hr86
 refine L_lda (cs:=[u87_0,I x49.bound]) rfl Tryz.isAgg74 Tryz.sizeOf74 rfl (At.sub hat86 0 2) rfl ?_
 obtain ⟨H88b,l89,s90,z91,k92⟩:=Z.lend [_]
 refine L_call rfl Tryz.call142 (ops2 rfl rfl) (s_l1Mutate_c (r_:=({ b:=r_.b,p:=x41.2 } : Rd)) (c:=x49) s90 (RP.mono _ h0_0 l89) (RP.mono _ hu87_0 l89) hx59) ?_
 rintro _ w93 ⟨r93_0,rfl,Z⟩
 have Z:=k92 Z (co closed_term (cb c0))
 have Z:=Z.get 1 rfl
 obtain ⟨H95b,l96,s97,z98,k99⟩:=Z.lend [_]
 have hb100 : (rS 126 rTerm).rel H95b [r93_0] x59.1.terms:=fz_own 0 z98 rfl
 refine L_call rfl Tryz.call142 (ops2 rfl rfl) (s_l1Mutate_c (r_:=({ b:=r_.b,p:=x59.2 } : Rd)) (c:=x59.1) s97 (RP.mono _ h0_0 l96) hb100 hx68) ?_
 rintro _ w101 ⟨r101_0,rfl,Z⟩
 have Z:=k99 Z (co closed_term (cb c0))
 have Z:=Z.get 1 rfl
 obtain ⟨H103b,l104,s105,z106,k107⟩:=Z.lend [_]
 have hb108 : (rS 126 rTerm).rel H103b [r101_0] x68.1.terms:=fz_own 0 z106 rfl
 refine L_call rfl Tryz.call142 (ops2 rfl rfl) (s_l1Mutate_c (r_:=({ b:=r_.b,p:=x68.2 } : Rd)) (c:=x68.1) s105 (RP.mono _ h0_0 l104) hb108 hx77) ?_
 rintro _ w109 ⟨r109_0,rfl,Z⟩
 have Z:=k107 Z (co closed_term (cb c0))
 refine L_ixO (R:=(OR.frz (rCon 126))) (tb:=0) 0 rfl Tryz.underlying82 Tryz.sizeOf74 rfl hv85 (by first | rfl | simp) rfl hx49 ?_
 obtain ⟨H112,l113,Z,hz114⟩:=Star.freeze Z
 have hz114 : (rS 126 rTerm).rel H112 [r109_0] x77.1.terms:=hz114
 have Z:=Star.addF (r:=(rCon 126)) (cs:=[r109_0,I x77.1.bound]) (x:=x77.1) Z (rCon_iff.2 ⟨_,rfl,hz114⟩)
 have Z:=Z.gets [4,1] rfl
 refine L_stE (vs:=#[r109_0,I x77.1.bound]) rfl Tryz.sizeOf74 rfl rfl rfl hv85 Z hx49 (fun w111 Z=>nn ?_)
 obtain ⟨rfl,rfl⟩:=so2 hA34
 have Z:=Star.drop 2 Z rfl
 have Z:=Star.drop 2 Z rfl
 exact rj hR34 ⟨H112,l113,sf5,Z⟩
 have hA34:=(ite_f hc35).symm.trans hA34
 refine W_skip ?_
 obtain ⟨rfl,rfl⟩:=so2 hA34
 exact rj hR34 ⟨H,(Le.refl _),sf5,Z⟩
 intro f w_ hR
 obtain ⟨H32,l33,sf5,Z⟩:=rk hR34 hR
 refine sq (mF sf5 rfl (aV v11 rfl (nn (W_ret (retG1 (v1:=v11) Tryz.results111 rfl ?_)))))
 obtain rfl:=so hF
 exact ⟨H32,l33,v11,rfl,Z⟩
theorem s_l4Pair_c {fu : Nat} {r_ : Rd} {g_0 : Nat} {v0_0 : Value} {H : FH} {w : World} {R : List Ass} (Z : Star H w (box g_0 117 #[v0_0,I r_.p] :: R)) (h0_0 : (rS 5 RP.u8).rel H [v0_0] r_.b) {r : (List Con) × (List Step) × Int} (hF : s_l4Pair fu r_ = some r) :
 C Tryz.prog 62 #[Pt g_0] w fun v w'=>∃ H' : FH,Le H H'∧∃ (u1 : Value) (u2 : Value),v = .tuple #[u1,u2]∧(rS 74 (rCon 126)).rel H' [u1] r.1∧Star H' w' (oF 76 (rStep 126) u2 r.2.1 :: box g_0 117 #[v0_0,I r.2.2] :: R):=by
 unfold s_l4Pair at hF
 refine C_enter Tryz.func62 rfl Tryz.ntmps62 rfl (sq (aV S0 rfl (aV S0 rfl (nq (W_seq ?_)))))
 obtain ⟨x6,hx6,hF⟩:=bind_some hF
 refine W_region (mV (Pt g_0) rfl ?_)
 obtain ⟨H8b,l9,s10,z11,k12⟩:=Z.lend [_]
 refine L_call rfl Tryz.call63 (ops2 rfl rfl) (s_l17Rd_pick_c (r_:=r_) (n_:=2) s10 (RP.mono _ h0_0 l9) hx6) ?_
 rintro _ w13 ⟨rfl,Z⟩
 have Z:=k12 Z (cb c0)
 refine L_eql rfl rfl rfl (nn (W_cond (b:=(x6.1 == 0)) rfl (fun hc14=>?_) (fun hc14=>?_)))
 have hF:=(ite_t hc14).symm.trans hF
 refine W_seq ?_
 obtain ⟨x15,hx15,hF⟩:=bind_some hF
 refine W_region (mV (Pt g_0) rfl (L_call rfl Tryz.call110 (ops1 rfl) (s_l4Refuted_c (r_:=({ b:=r_.b,p:=x6.2 } : Rd)) Z h0_0 hx15) ?_))
 rintro _ w18 ⟨H18,l18,r18_0,r18_1,rfl,hr18_0,Z⟩
 refine L_ex (v:=r18_0) rfl rfl rfl (L_ex (v:=r18_1) rfl rfl rfl (aV r18_0 rfl (aV r18_1 rfl (nn (W_ret (retG2 (v1:=r18_0) (v2:=r18_1) Tryz.results62 rfl rfl ?_))))))
 obtain rfl:=so hF
 exact ⟨H18,l18,r18_0,r18_1,rfl,hr18_0,Z⟩
 have hF:=(ite_f hc14).symm.trans hF
 refine W_skip (W_seq ?_)
 obtain ⟨x25,hx25,hF⟩:=bind_some hF
 obtain ⟨x31,hx31,hF⟩:=bind_some hF
 refine W_region (mV (Pt g_0) rfl (mV (Pt g_0) rfl ?_))
 obtain ⟨H34b,l35,s36,z37,k38⟩:=Z.lend [_]
 refine L_call rfl Tryz.call112 (ops1 rfl) (s_l3Problem_c (r_:=({ b:=r_.b,p:=x6.2 } : Rd)) s36 (RP.mono _ h0_0 l35) hx25) ?_
 rintro r39_0 w39 ⟨_,rfl,Z⟩
 have Z:=k38 Z (co closed_oCon (cb c0))
 obtain ⟨H41,l42,Z,hz43⟩:=Star.freeze Z
 have hz43 : (rS 74 (rCon 126)).rel H41 [r39_0] x25.1:=hz43
 refine L_call rfl Tryz.call111 (ops2 rfl rfl) (s_l3Mutate_c (r_:=({ b:=r_.b,p:=x25.2 } : Rd)) (list:=x25.1) Z (RP.mono _ h0_0 l42) hz43 hx31) ?_
 rintro r44_0 w44 ⟨H44,l44,_,rfl,Z⟩
 refine aV r44_0 rfl (nq ?_)
 obtain ⟨x49,hx49,hF⟩:=bind_some hF
 refine W_region (mV r44_0 rfl (mV (Pt g_0) rfl (mV r44_0 rfl ?_)))
 obtain ⟨H52,l53,Z,hz54⟩:=Star.freeze Z
 have hz54 : (rS 74 (rCon 126)).rel H52 [r44_0] x31.1:=hz54
 refine L_call rfl Tryz.call113 (ops2 rfl rfl) (s_l4Random_c (r_:=({ b:=r_.b,p:=x31.2 } : Rd)) (list:=x31.1) Z (RP.mono _ h0_0 (Le.trans (Le.trans l42 l44) l53)) hz54 hx49) ?_
 rintro r55_0 w55 ⟨H55,l55,_,rfl,Z⟩
 refine aV r44_0 rfl (aV r55_0 rfl (nn (W_ret (retG2 (v1:=r44_0) (v2:=r55_0) Tryz.results62 rfl rfl ?_))))
 obtain rfl:=so hF
 exact ⟨H55,(Le.trans (Le.trans (Le.trans l42 l44) l53) l55),r44_0,r55_0,rfl,(RP.mono _ hz54 l55),Z⟩
theorem s_DrawFormatProof_c {fu : Nat} {code : List UInt8} {v0 : Value} {H : FH} {w : World} {R : List Ass} (Z : Star H w R) (h0 : (rS 5 RP.u8).rel H [v0] code) {r : List Step} (hF : s_DrawFormatProof fu code = some r) :
 C Tryz.prog 24 #[v0] w fun v w'=>∃ H' : FH,Le H H'∧∃ (u1 : Value),v = u1∧Star H' w' (oF 76 (rStep 126) u1 r :: R):=by
 unfold s_DrawFormatProof at hF
 refine C_enter Tryz.func24 rfl Tryz.ntmps24 rfl (sq (aV S0 rfl (nq ?_)))
 obtain ⟨x1,hx1,hF⟩:=bind_some hF
 refine W_region (mV v0 rfl (L_call rfl Tryz.call54 (ops1 rfl) (s_l17Open_c (code:=code) Z h0 hx1) ?_))
 rintro _ w3 ⟨H3,l3,r3_0,r3_1,rfl,hr3_1,Z⟩
 refine aV (Pt r3_0) rfl (nq ?_)
 obtain ⟨x4,hx4,hF⟩:=bind_some hF
 refine W_region (mV (Pt r3_0) rfl (L_call rfl Tryz.call62 (ops1 rfl) (s_l4Pair_c (r_:=x1) Z hr3_1 hx4) ?_))
 rintro _ w7 ⟨H7,l7,r7_0,r7_1,rfl,hr7_0,Z⟩
 refine mV (.tuple #[r7_0,r7_1]) rfl (L_ex (v:=r7_0) rfl rfl rfl (L_ex (v:=r7_1) rfl rfl rfl (aV r7_0 rfl (aV r7_1 rfl (nq (W_seq ?_))))))
 obtain ⟨b16,hb16,hF⟩:=bind_some hF
 obtain ⟨R17,hR17⟩:=exR fun f w_=>f 3 = Pt r3_0∧f 5 = r7_1∧f 20 = Bo b16.1∧Star H7 w_ (oF 76 (rStep 126) r7_1 x4.2.1 :: box r3_0 117 #[r3_1,I b16.2] :: R)
 refine W_join R17 ?_ ?_
 refine W_region (mV r7_1 rfl (L_len rfl Tryz.underlying37 rfl (Star.len 0 Z rfl) (L_gtr rfl rfl rfl (mB rfl (L_split (d:=16) (b:=decide ((x4.2.1.length : Int) > 0)) rfl (fun hc18=>?_) (fun hc18=>?_))))))
 rw [ite_t hc18] at hb16
 obtain ⟨x14,hx14,hb16⟩:=bind_some hb16
 refine mV (Pt r3_0) rfl ?_
 have Z:=Z.get 1 rfl
 obtain ⟨H19b,l20,s21,z22,k23⟩:=Z.lend [_]
 refine L_call rfl Tryz.call63 (ops2 rfl rfl) (s_l17Rd_pick_c (r_:=({ b:=x1.b,p:=x4.2.2 } : Rd)) (n_:=12) s21 (RP.mono _ hr3_1 (Le.trans l7 l20)) hx14) ?_
 rintro _ w24 ⟨rfl,Z⟩
 have Z:=k23 Z (cb c0)
 refine L_eql rfl rfl rfl (L_pick (v:=Bo b16.1) rfl rfl (congrArg (fun z : Bool × Int=>Value.bool z.1) (so hb16)) ?_)
 have Z : Star H7 w24 (box r3_0 117 #[r3_1,I b16.2] :: oF 76 (rStep 126) r7_1 x4.2.1 :: R):=by rw [← so hb16]; exact Z
 refine nn ?_
 have Z:=Z.get 1 rfl
 exact rj hR17 ⟨rfl,rfl,rfl,Z⟩
 rw [ite_f hc18] at hb16
 refine ps rfl (ps rfl (ps rfl (L_pick (v:=Bo b16.1) rfl rfl (congrArg (fun z : Bool × Int=>Value.bool z.1) (so hb16)) ?_)))
 have Z:=Z.get 1 rfl
 have Z : Star H7 w7 (box r3_0 117 #[r3_1,I b16.2] :: oF 76 (rStep 126) r7_1 x4.2.1 :: R):=by rw [← so hb16]; exact Z
 refine nn ?_
 have Z:=Z.get 1 rfl
 exact rj hR17 ⟨rfl,rfl,rfl,Z⟩
 intro f w_ hR
 obtain ⟨sf3,sf5,sf20,Z⟩:=rk hR17 hR
 obtain ⟨steps_25,hA26,hF⟩:=bind_some hF
 obtain ⟨R26,hR26⟩:=exR fun f w_=>f 5 = r7_1∧Star H7 w_ (oF 76 (rStep 126) r7_1 steps_25 :: R)
 refine W_join R26 ?_ ?_
 refine W_cond (b:=b16.1) sf20 (fun hc27=>?_) (fun hc27=>?_)
 have hA26:=(ite_t hc27).symm.trans hA26
 obtain ⟨x33,hx33,hA26⟩:=bind_some hA26
 obtain ⟨x44,hx44,hA26⟩:=bind_some hA26
 obtain ⟨x55,hx55,hA26⟩:=bind_some hA26
 obtain ⟨x57,hx57,hA26⟩:=bind_some hA26
 refine W_region (mF sf5 rfl (mF sf3 rfl ?_))
 have Z:=Z.get 1 rfl
 obtain ⟨H61b,l62,s63,z64,k65⟩:=Z.lend [_]
 refine L_call rfl Tryz.call63 (ops2 rfl rfl) (s_l17Rd_pick_c (r_:=({ b:=x1.b,p:=b16.2 } : Rd)) (n_:=10) s63 (RP.mono _ hr3_1 (Le.trans l7 l62)) hx33) ?_
 rintro _ w66 ⟨rfl,Z⟩
 have Z:=k65 Z (cb c0)
 refine mF sf3 rfl (L_bs rfl (parts4 rfl rfl rfl rfl) (bs_22_4_0_0_0_0 (I (-1)) (I 20001) (I 0) (I 3) rfl rfl rfl rfl) Z (fun g67 w68 Z=>?_))
 have Z:=litInts [(-1),20001,0,3] 4 Z rfl rfl (by decide)
 have Z:=Z.get 1 rfl
 obtain ⟨H70b,l71,s72,z73,k74⟩:=Z.lend [_]
 have hb75 : (rS 3 RP.int).rel H70b [(Sl g67 4 4)] ([(-1),20001,0,3]):=fz_own 0 z73 rfl
 refine L_call rfl Tryz.call64 (ops2 rfl rfl) (s_l17Rd_num_c (r_:=({ b:=x1.b,p:=x33.2 } : Rd)) (list:=[(-1),20001,0,3]) s72 (RP.mono _ hr3_1 (Le.trans l7 l71)) hb75 hx44) ?_
 rintro _ w76 ⟨rfl,Z⟩
 have Z:=k74 Z (cb c0)
 refine mF sf3 rfl (L_bs rfl (parts3 rfl rfl rfl) (bs_22_3_0_0_0 (I 0) (I 1) (I (-1)) rfl rfl rfl) Z (fun g77 w78 Z=>?_))
 have Z:=litInts [0,1,(-1)] 3 Z rfl rfl (by decide)
 have Z:=Z.get 1 rfl
 obtain ⟨H80b,l81,s82,z83,k84⟩:=Z.lend [_]
 have hb85 : (rS 3 RP.int).rel H80b [(Sl g77 3 3)] ([0,1,(-1)]):=fz_own 0 z83 rfl
 refine L_call rfl Tryz.call64 (ops2 rfl rfl) (s_l17Rd_num_c (r_:=({ b:=x1.b,p:=x44.2 } : Rd)) (list:=[0,1,(-1)]) s82 (RP.mono _ hr3_1 (Le.trans l7 l81)) hb85 hx55) ?_
 rintro _ w86 ⟨rfl,Z⟩
 have Z:=k84 Z (cb c0)
 refine L_bld rfl (parts3 rfl rfl rfl) (bld_76_0_1_2 (I x33.1) (I x44.1) (I x55.1) rfl rfl rfl) ?_
 obtain ⟨g87,cap_g87,hv88,_,_⟩:=Star.row 3 Z rfl hx57
 refine L_ixO (R:=(OR.frz (rStep 126))) (tb:=0) 0 rfl Tryz.underlying37 Tryz.sizeOf76 rfl hv88 (by first | rfl | simp) rfl hx57 ?_
 have Z:=Star.addF (r:=(rStep 126)) (cs:=[I x33.1,I x44.1,I x55.1,S0,I 0]) (x:=({ kind:=x33.1,a:=x44.1,b:=x55.1,given:=({ terms:=[],bound:=0 } : Con) } : Step)) Z (rStep_iff.2 ⟨_,rfl,(rel_nil _ _ _)⟩)
 have Z:=Z.gets [4,1] rfl
 refine L_stE (vs:=#[I x33.1,I x44.1,I x55.1,S0,I 0]) rfl Tryz.sizeOf76 rfl rfl rfl hv88 Z hx57 (fun w89 Z=>nn ?_)
 obtain rfl:=so hA26
 have Z:=Star.drop 1 Z rfl
 have Z:=Star.drop 1 Z rfl
 have Z:=Star.drop 1 Z rfl
 exact rj hR26 ⟨sf5,Z⟩
 have hA26:=(ite_f hc27).symm.trans hA26
 refine W_skip ?_
 obtain rfl:=so hA26
 have Z:=Star.drop 1 Z rfl
 exact rj hR26 ⟨sf5,Z⟩
 intro f w_ hR
 obtain ⟨sf5,Z⟩:=rk hR26 hR
 refine sq (mF sf5 rfl (aV r7_1 rfl (nn (W_ret (retG1 (v1:=r7_1) Tryz.results24 rfl ?_)))))
 obtain rfl:=so hF
 exact ⟨H7,(Le.trans l3 l7),r7_1,rfl,Z⟩
set_option maxRecDepth 100000 in
/-- a builder that has been written: its copy check turns nothing -/
theorem check_used (b : Nat) (w : World) (h0 : w.cell? ⟨b, 0, none⟩ = some (.pointer (some ⟨b, 0, none⟩))) :
    Calls Tryz.prog 117 #[.pointer (some ⟨b, 0, none⟩)] w fun e w' => e = .returned (.tuple #[]) ∧ w' = w := by
  obtain ⟨j, hj, _⟩ := Option.map_eq_some_iff.1 (show (Tryz.prog.info? 89).map (·.size) = some 2 by kernel_rfl)
  go_enter Tryz.func117, Tryz.ntmps117
  go_wp2
  rw [Lib.run_neq_ptr_same w _ Tryz.underlying87 hj]
  go_wp2
  go_end0
  exact ⟨rfl, rfl⟩
set_option maxHeartbeats 1000000 in
set_option maxRecDepth 100000 in
/-- a new builder: its copy check stores its own address -/
theorem check_new (b : Nat) (w : World) (h0 : w.cell? ⟨b, 0, none⟩ = some (.pointer none)) (hsh : w.shape? b = some (89, 2)) (hfz : w.frozen? ⟨b, 0, none⟩ = false) :
    Calls Tryz.prog 117 #[.pointer (some ⟨b, 0, none⟩)] w fun e w' => e = .returned (.tuple #[]) ∧ w' = w.setCell ⟨b, 0, none⟩ (.pointer (some ⟨b, 0, none⟩)) := by
  obtain ⟨j, hj, hjs⟩ := Option.map_eq_some_iff.1 (show (Tryz.prog.info? 89).map (·.size) = some 2 by kernel_rfl)
  have lies : liesAt Tryz.prog Tryz.prog.depth 89 (2 / Tryz.prog.cellsOf 89) 0 89 1 = true := by kernel_rfl
  go_enter Tryz.func117, Tryz.ntmps117
  go_wp2
  rw [Lib.run_to_unsafe w ⟨b, 0, none⟩ Tryz.underlying87 Tryz.underlying149 hj (by rw [hjs]; decide) hsh (Nat.zero_lt_succ 1)]
  simp only [Result.andThen]
  rw [Oper.upon_value]
  go_wp2
  rw [run_callFunc_extern Tryz.func146 (by kernel_rfl) (by kernel_rfl) (by kernel_rfl) (e := Extern.AbiNoEscape.same) (by kernel_rfl)]
  rw [Lib.run_noEscape]
  simp only [Result.andThen]
  rw [Oper.upon_value]
  go_wp2
  rw [Lib.run_from_unsafe w ⟨b, 0, none⟩ Tryz.underlying149 Tryz.underlying87 hj hsh lies]
  simp only [Result.andThen]
  rw [Oper.upon_value]
  go_wp2
  go_end0
  exact ⟨rfl, rfl⟩
theorem check_any (B b : Nat) (l : List Value) (w : World) (h : Lib.IsBuilderF 89 5 B b l w) :
    Calls Tryz.prog 117 #[.pointer (some ⟨b, 0, none⟩)] w fun e w' => e = .returned (.tuple #[]) ∧ (Lib.BuilderAtF 89 5 B b (.pointer (some ⟨b, 0, none⟩)) l w' ∧ Below B w w') := by
  rcases h with h | h
  · refine (check_new b w h.cell0 h.shape h.frozen0).mono ?_
    rintro e w' ⟨rfl, rfl⟩
    exact ⟨rfl, h.used _, (Below.refl B w).setCell (p := ⟨b, 0, none⟩) h.1 _⟩
  · refine (check_used b w h.cell0).mono ?_
    rintro e w' ⟨rfl, rfl⟩
    exact ⟨rfl, h, Below.refl B _⟩
set_option maxHeartbeats 2000000 in
set_option maxRecDepth 100000 in
/-- a text is put behind what a builder holds -/
theorem write_any (B b : Nat) (l : List Value) (s : ByteArray) (w : World) (h : Lib.IsBuilderF 89 5 B b l w) (hlen : l.length + s.size ≤ 140737488355328) (hBw : B ≤ w.heap.size) :
    Calls Tryz.prog 66 #[.pointer (some ⟨b, 0, none⟩), .string s] w fun e w' => e = .returned (.tuple #[.int .i64 s.size, .nilIface]) ∧ (Lib.BuilderAtF 89 5 B b (.pointer (some ⟨b, 0, none⟩)) (l ++ Lib.strCells s) w' ∧ Below B w w') := by
  obtain ⟨i0, hi, hz0, hz1, hz2⟩ := info_parts (show (Tryz.prog.info? 5).map (fun i => (i.zero, i.size, i.bytes)) = some (some (.int .u8 0), 1, 1) by kernel_rfl)
  go_enter Tryz.func66, Tryz.ntmps66
  go_wp2_with (go_at_call 117; refine (check_any B b l _ h).mono ?_)
  rintro e w1 ⟨rfl, ⟨hB, v, hbk, hown, hne⟩, hb1⟩
  have c0 : w1.cell? ⟨b, 0, none⟩ = some (.pointer (some ⟨b, 0, none⟩)) := by rw [Lib.cell_of_heap hbk]; rfl
  have c1 : w1.cell? ⟨b, 1, none⟩ = some v := by rw [Lib.cell_of_heap hbk]; rfl
  go_wp2_with (at_builtin; refine Lib.wpList_append_own_stringF _ rfl _ _ 31 9 rfl B 5 i0 Tryz.underlying31 Tryz.underlying9 hi hz0 hz1 hz2 _ _ _ rfl hown s rfl ?c3 ?c4 ?c5 ?_)
  case c3 => unfold maxLen; omega
  case c4 => omega
  case c5 => have := hb1.size; omega
  intro v' w2 hown' hgrow _
  have hlt : b < w1.heap.size := (Array.getElem?_eq_some_iff.1 hbk).1
  have hb2 : w2.heap[b]? = some (.cells #[.pointer (some ⟨b, 0, none⟩), v] 89 (0, 0)) := by
    rw [hgrow.block b hlt (fun e => hne e.symm)]
    exact hbk
  have d0 : w2.cell? ⟨b, 0, none⟩ = some (.pointer (some ⟨b, 0, none⟩)) := by rw [Lib.cell_of_heap hb2]; rfl
  have d1 : w2.cell? ⟨b, 1, none⟩ = some v := by rw [Lib.cell_of_heap hb2]; rfl
  have f1 : w2.frozen? ⟨b, 1, none⟩ = false := Lib.frozen_of_heap hb2 1
  obtain ⟨ao, n', cap, rfl⟩ : ∃ ao n' cap, v' = .slice ao n' cap := by
    rcases hown'.2 with ⟨hv, _⟩ | ⟨g, cap, cur, fz, hv, _⟩
    · exact ⟨_, _, _, hv⟩
    · exact ⟨_, _, _, hv⟩
  go_wp2
  go_ret2
  refine ⟨rfl, ?_, ?_⟩
  · exact Lib.BuilderAtF.put (T := 89) (e := 5) hB hb2 (bs' := l ++ Lib.strCells s) (by simpa [Lib.strCells_length] using hown') (by decide)
  · exact (hb1.grown hgrow (by have := hb1.size; omega) (fun k hk => (hown.lt k hk).1)).setCell (p := ⟨b, 1, none⟩) hB _
theorem strings_Builder_WriteString_c {B g : Nat} {e s : ByteArray} {H : FH} {w : World} (hB : ∀ k,B≤k→H.m k = none) (Z : Star H w [bld 89 5 B g e]) {r : ByteArray} (hF : catB e s = some r) :
 C Tryz.prog 66 #[Pt g,.string s] w fun v w'=>v = .tuple #[I (s.size : Int),.nilIface]∧Star H w' [bld 89 5 B g r]:=by
 obtain ⟨hl,rfl⟩:=bld_cat hF
 obtain ⟨hb,hB2⟩:=bld_is Z
 refine Calls.mono (write_any B g _ s w hb (by rw [Go.Lib.byteCells_length,Array.length_toList]; exact hl) hB2) ?_
 rintro e w' ⟨rfl,h1,h2⟩
 exact ⟨_,rfl,rfl,bld_star hB Z h2 (.inr (bld_app h1))⟩
theorem strings_Builder_String_c {B g : Nat} {e : ByteArray} {H : FH} {w : World} (hB : ∀ k,B≤k→H.m k = none) (Z : Star H w [bld 89 5 B g e]) :
 C Tryz.prog 68 #[Pt g] w fun v w'=>v = .string e∧Star H w' [bld 89 5 B g e]:=by
 obtain ⟨hb,hB2⟩:=bld_is Z
 refine Calls.mono (Tryz.Builder_String_any_f B g _ w hb hB2) ?_
 rintro e w' ⟨rfl,h1,h2⟩
 exact ⟨_,rfl,rfl,bld_star hB Z h2 h1⟩
theorem i_FormatProof_c {steps : List Step} {v0 : Value} {H : FH} {w : World} (Z : Star H w []) (h0 : (rS 76 (rStep 126)).rel H [v0] steps) {r : ByteArray} (hF : i_FormatProof steps = some r) :
 C Tryz.prog 25 #[v0] w fun v w'=>v = .string r∧Star H w' []:=by
 unfold i_FormatProof at hF
 refine C_enter Tryz.func25 rfl Tryz.ntmps25 rfl (sq (aV (.string (⟨#[]⟩ : ByteArray)) rfl (nq (sq (mV v0 rfl (L_len rfl Tryz.underlying37 rfl (slice_len h0) (L_gtr rfl rfl rfl (nn (W_cond (b:=decide ((steps.length : Int) > 1000)) rfl (fun hc1=>?_) (fun hc1=>?_))))))))))
 have hF:=(ite_t hc1).symm.trans hF
 refine sq (aV (.string (⟨#[]⟩ : ByteArray)) rfl (nn (W_ret (retG1 (v1:=.string (⟨#[]⟩ : ByteArray)) Tryz.results25 rfl ?_))))
 obtain rfl:=so hF
 exact ⟨rfl,Z⟩
 have hF:=(ite_f hc1).symm.trans hF
 refine W_skip (sq (L_alB (eb:=5) rfl Tryz.zeroValue89 rfl Z (fun g6 B8 w7 hB9 Z=>nq (sq (mV v0 rfl (L_len rfl Tryz.underlying37 rfl (slice_len h0) (mI rfl (nn ?_))))))))
 have hlen12 : List.length steps≤9223372036854775807:=len_le (slice_len h0)
 obtain ⟨j12,hL12,hF⟩:=bind_some hF
 obtain ⟨R12,hR12⟩:=exR fun f w_=>∃ ag6_11 : ByteArray,j12 = .nx ag6_11∧f 3 = Pt g6∧Star H w_ ([bld 89 5 B8 g6 ag6_11])
 refine W_join R12 ?_ ?_
 refine W_block ?_
 obtain ⟨I12,hI12⟩:=exI fun n f w_=>∃ i_10 : Nat,∃ suf12 : List Step,∃ ag6_11 : ByteArray,n = suf12.length∧List.drop i_10 steps = suf12∧i_10 + suf12.length = steps.length∧rangeL i_FormatProof_b1 suf12 i_10 ag6_11 = some j12∧f 3 = Pt g6∧f 9 = v0∧f 10 = I (steps.length : Int)∧f 11 = I i_10∧Star H w_ ([bld 89 5 B8 g6 ag6_11])
 refine W_loop I12 (n:=steps.length) ?_ ?_
 exact ij hI12 ⟨0,steps,ByteArray.empty,rfl,rfl,Nat.zero_add _,hL12,rfl,rfl,rfl,rfl,Z⟩
 intro n12 f w_ hI
 obtain ⟨i_10,suf12,ag6_11,rfl,hd12,hl12,hL12,sf3,sf9,sf10,sf11,Z⟩:=ik hI12 hI
 refine sq (L_lss rfl sf11 sf10 (nq (W_cond (b:=decide ((i_10 : Int) < (steps.length : Int))) rfl (fun hc13=>?_) (fun hc13=>?_))))
 have hlt12:=of_decide_eq_true hc13
 rcases suf12 with _ | ⟨x_12,rest12⟩
 exact absurd hlt12 (by simp at hl12; omega)
 obtain ⟨o12,hB12,hL12⟩:=range_cons hL12
 rw [i_FormatProof_b1] at hB12
 have hix12:=drop_idx hd12
 refine W_skip (W_seq (W_block (sq (L_ix (r:=(rStep 126)) rfl Tryz.underlying37 Tryz.sizeOf76 sf9 h0 sf11 hix12 (fun g21 o22 cs_g21 hrk_hat23 hat23=>?_)))))
 obtain ⟨u24_0,rfl,hu24_0⟩:=rStep_iff.1 hrk_hat23
 refine L_lda (cs:=[I x_12.kind,I x_12.a,I x_12.b,u24_0,I x_12.given.bound]) rfl Tryz.isAgg76 Tryz.sizeOf76 rfl (At.sub (AtH.at hat23 Z.sub) 0 5) rfl (L_al (cs:=#[I 0,I 0,I 0,S0,I 0]) rfl Tryz.zeroValue76 rfl Z (fun g25 w26 Z=>L_staB (vs:=#[I x_12.kind,I x_12.a,I x_12.b,u24_0,I x_12.given.bound]) (cs2:=#[I x_12.kind,I x_12.a,I x_12.b,u24_0,I x_12.given.bound]) 0 rfl Tryz.sizeOf76 rfl rfl rfl (ones_cons rfl (ones_cons rfl (ones_cons rfl (ones_cons (one_len (slice_len hu24_0)) (ones_cons rfl ones_nil))))) Z rfl (by show 0 + 5≤5; decide) rfl (fun w27 Z=>nq (W_seq ?_))))
 obtain ⟨x33,hx33,hB12⟩:=bind_some hB12
 refine W_region (L_lda (cs:=[I x_12.kind,I x_12.a,I x_12.b,u24_0,I x_12.given.bound]) rfl Tryz.isAgg76 Tryz.sizeOf76 rfl (At.sub0 (Blk.at (Star.blkAt 0 Z rfl)) 0 5) rfl ?_)
 obtain ⟨H35b,l36,s37,z38,k39⟩:=Z.borrow
 refine L_call rfl Tryz.call65 (ops1 rfl) (i_Step_writable_c (s:=x_12) s37 (RP.mono _ hu24_0 l36) hx33) ?_
 rintro _ w40 ⟨rfl,Z⟩
 have Z:=k39 Z c0
 refine L_not_ rfl rfl (nn (W_cond (b:=(!x33)) rfl (fun hc41=>?_) (fun hc41=>?_)))
 have hB12:=(ite_t hc41).symm.trans hB12
 refine sq (aV (.string (⟨#[]⟩ : ByteArray)) rfl (nn (W_ret (retG1 (v1:=.string (⟨#[]⟩ : ByteArray)) Tryz.results25 rfl ?_))))
 obtain rfl:=so hB12
 obtain rfl:=so hL12
 obtain rfl:=so hF
 exact ⟨rfl,(Star.keepN 0 Z)⟩
 have hB12:=(ite_f hc41).symm.trans hB12
 refine W_skip ?_
 obtain ⟨x47,hx47,hB12⟩:=bind_some hB12
 obtain ⟨x49,hx49,hB12⟩:=bind_some hB12
 obtain ⟨x51,hx51,hB12⟩:=bind_some hB12
 refine W_region (L_lda (cs:=[I x_12.kind,I x_12.a,I x_12.b,u24_0,I x_12.given.bound]) rfl Tryz.isAgg76 Tryz.sizeOf76 rfl (At.sub0 (Blk.at (Star.blkAt 0 Z rfl)) 0 5) rfl ?_)
 obtain ⟨H52b,l53,s54,z55,k56⟩:=Z.borrow
 refine L_call rfl Tryz.call67 (ops1 rfl) (i_Step_text_c (s:=x_12) s54 (RP.mono _ hu24_0 l53) hx47) ?_
 rintro _ w57 ⟨rfl,Z⟩
 have Z:=k56 Z c0
 obtain ⟨hx49_l,hx49_e⟩:=cat_some hx49
 refine L_sadd (s:=x47) (s':=(⟨#[10]⟩ : ByteArray)) rfl rfl rfl hx49_l ?_
 rw [← hx49_e]
 have Z:=Star.drop 0 Z rfl
 refine L_call rfl Tryz.call66 (ops2 sf3 rfl) (strings_Builder_WriteString_c hB9 Z hx51) ?_
 rintro _ w58 ⟨rfl,Z⟩
 refine nn (W_region (L_add rfl sf11 rfl (mI rfl (nn ?_))))
 obtain rfl:=so hB12
 show ∃ m,m < _∧I12 m _ _
 refine ⟨rest12.length,by simp,?_⟩
 exact ij hI12 ⟨i_10 + 1,rest12,x51,rfl,drop_next hd12,by simp at hl12; omega,hL12,sf3,sf9,sf10,(Eq.trans rfl (congrArg (Value.int .i64) (i64_succ (n:=steps.length) (by simp at hl12; omega) hlen12))),Z⟩
 rcases suf12 with _ | ⟨_,_⟩
 obtain rfl:=range_nil hL12
 refine W_exit (rj hR12 ⟨ag6_11,rfl,sf3,Z⟩)
 exact absurd (of_decide_eq_false hc13) (by simp at hl12; omega)
 intro f w_ hR
 obtain ⟨ag6_11,rfl,sf3,Z⟩:=rk hR12 hR
 refine sq (L_call rfl Tryz.call68 (ops1 sf3) (strings_Builder_String_c hB9 Z) ?_)
 rintro _ w60 ⟨rfl,Z⟩
 refine aV (.string ag6_11) rfl (nn (W_ret (retG1 (v1:=.string ag6_11) Tryz.results25 rfl ?_)))
 obtain rfl:=so hF
 exact ⟨rfl,(Star.keepN 0 Z)⟩
theorem slices_EqualFunc_implStep_c {s1 : List Step} {s2 : List Step} {eq : (Step→Step→Option Bool)} {v0 : Value} {v1 : Value} {v2 : Value} {H : FH} {w : World} (Z : Star H w []) (h0 : (rS 76 (rStep 126)).rel H [v0] s1) (h1 : (rS 76 (rStep 126)).rel H [v1] s2) (h2 : Fun2 Tryz.prog (rStep 126) (rStep 126) true Value.bool eq v2 H) {r : Bool} (hF : slices_EqualFunc_implStep s1 s2 eq = some r) :
 C Tryz.prog 70 #[v0,v1,v2] w fun v w'=>v = Bo r∧Star H w' []:=by
 unfold slices_EqualFunc_implStep at hF
 obtain ⟨fid_2,caps_2,rfl,hcall_2,hc_2⟩:=h2
 refine C_enter Tryz.func70 rfl Tryz.ntmps70 rfl (sq (aB rfl (nq (sq (mV v0 rfl (L_len rfl Tryz.underlying37 rfl (slice_len h0) (mV v1 rfl (L_len rfl Tryz.underlying37 rfl (slice_len h1) (L_neq rfl rfl rfl (nn (W_cond (b:=((s1.length : Int) != (s2.length : Int))) rfl (fun hc1=>?_) (fun hc1=>?_))))))))))))
 have hF:=(ite_t hc1).symm.trans hF
 refine sq (aB rfl (nn (W_ret (retG1 (v1:=Bo false) Tryz.results70 rfl ?_))))
 obtain rfl:=so hF
 exact ⟨rfl,Z⟩
 have hF:=(ite_f hc1).symm.trans hF
 refine W_skip (W_seq (sq (mV v0 rfl (L_len rfl Tryz.underlying37 rfl (slice_len h0) (mI rfl (nn ?_))))))
 have hlen3 : List.length s1≤9223372036854775807:=len_le (slice_len h0)
 obtain ⟨j3,hL3,hF⟩:=bind_some hF
 obtain ⟨R3,hR3⟩:=exR fun f w_=>j3 = .nx ()∧Star H w_ ([])
 refine W_join R3 ?_ ?_
 refine W_block ?_
 obtain ⟨I3,hI3⟩:=exI fun n f w_=>∃ i_2 : Nat,∃ suf3 : List Step,n = suf3.length∧List.drop i_2 s1 = suf3∧i_2 + suf3.length = s1.length∧rangeL (slices_EqualFunc_implStep_b1 s2 eq) suf3 i_2 () = some j3∧f 1 = v1∧f 2 = .func (.func fid_2) #[] caps_2∧f 15 = v0∧f 16 = I (s1.length : Int)∧f 17 = I i_2∧Star H w_ ([])
 refine W_loop I3 (n:=s1.length) ?_ ?_
 exact ij hI3 ⟨0,s1,rfl,rfl,Nat.zero_add _,hL3,rfl,rfl,rfl,rfl,rfl,Z⟩
 intro n3 f w_ hI
 obtain ⟨i_2,suf3,rfl,hd3,hl3,hL3,sf1,sf2,sf15,sf16,sf17,Z⟩:=ik hI3 hI
 refine sq (L_lss rfl sf17 sf16 (nq (W_cond (b:=decide ((i_2 : Int) < (s1.length : Int))) rfl (fun hc4=>?_) (fun hc4=>?_))))
 have hlt3:=of_decide_eq_true hc4
 rcases suf3 with _ | ⟨x_3,rest3⟩
 exact absurd hlt3 (by simp at hl3; omega)
 obtain ⟨o3,hB3,hL3⟩:=range_cons hL3
 rw [slices_EqualFunc_implStep_b1] at hB3
 have hix3:=drop_idx hd3
 refine W_skip (W_seq (W_block (sq (mF sf17 rfl (L_ix (r:=(rStep 126)) rfl Tryz.underlying37 Tryz.sizeOf76 sf15 h0 sf17 hix3 (fun g12 o13 cs_g12 hrk_hat14 hat14=>?_))))))
 obtain ⟨u15_0,rfl,hu15_0⟩:=rStep_iff.1 hrk_hat14
 refine L_lda (cs:=[I x_3.kind,I x_3.a,I x_3.b,u15_0,I x_3.given.bound]) rfl Tryz.isAgg76 Tryz.sizeOf76 rfl (At.sub (AtH.at hat14 Z.sub) 0 5) rfl (L_al (cs:=#[I 0,I 0,I 0,S0,I 0]) rfl Tryz.zeroValue76 rfl Z (fun g16 w17 Z=>aI rfl (L_staB (vs:=#[I x_3.kind,I x_3.a,I x_3.b,u15_0,I x_3.given.bound]) (cs2:=#[I x_3.kind,I x_3.a,I x_3.b,u15_0,I x_3.given.bound]) 0 rfl Tryz.sizeOf76 rfl rfl rfl (ones_cons rfl (ones_cons rfl (ones_cons rfl (ones_cons (one_len (slice_len hu15_0)) (ones_cons rfl ones_nil))))) Z rfl (by show 0 + 5≤5; decide) rfl (fun w18 Z=>nq ?_))))
 obtain ⟨x19,hx19,hB3⟩:=bind_some hB3
 refine W_region (mF sf1 rfl (mI rfl (L_ix (r:=(rStep 126)) rfl Tryz.underlying37 Tryz.sizeOf76 rfl h1 rfl hx19 (fun g27 o28 cs_g27 hrk_hat29 hat29=>?_))))
 obtain ⟨u30_0,rfl,hu30_0⟩:=rStep_iff.1 hrk_hat29
 refine L_lda (cs:=[I x19.kind,I x19.a,I x19.b,u30_0,I x19.given.bound]) rfl Tryz.isAgg76 Tryz.sizeOf76 rfl (At.sub (AtH.at hat29 Z.sub) 0 5) rfl (L_al (cs:=#[I 0,I 0,I 0,S0,I 0]) rfl Tryz.zeroValue76 rfl Z (fun g31 w32 Z=>L_staB (vs:=#[I x19.kind,I x19.a,I x19.b,u30_0,I x19.given.bound]) (cs2:=#[I x19.kind,I x19.a,I x19.b,u30_0,I x19.given.bound]) 0 rfl Tryz.sizeOf76 rfl rfl rfl (ones_cons rfl (ones_cons rfl (ones_cons rfl (ones_cons (one_len (slice_len hu30_0)) (ones_cons rfl ones_nil))))) Z rfl (by show 0 + 5≤5; decide) rfl (fun w33 Z=>nq ?_)))
 obtain ⟨x34,hx34,hB3⟩:=bind_some hB3
 refine W_region (mF sf2 rfl (L_lda (cs:=[I x_3.kind,I x_3.a,I x_3.b,u15_0,I x_3.given.bound]) rfl Tryz.isAgg76 Tryz.sizeOf76 rfl (At.sub0 (Blk.at (Star.blkAt 1 Z rfl)) 0 5) rfl (L_lda (cs:=[I x19.kind,I x19.a,I x19.b,u30_0,I x19.given.bound]) rfl Tryz.isAgg76 Tryz.sizeOf76 rfl (At.sub0 (Blk.at (Star.blkAt 0 Z rfl)) 0 5) rfl ?_)))
 obtain ⟨H41b,l42,s43,z44,k45⟩:=Z.borrow
 refine L_callv (args:=#[.agg #[I x_3.kind,I x_3.a,I x_3.b,u15_0,I x_3.given.bound],.agg #[I x19.kind,I x19.a,I x19.b,u30_0,I x19.given.bound]]) rfl hcall_2 rfl (ops2 rfl rfl) (hc_2 _ _ l42 s43 [I x_3.kind,I x_3.a,I x_3.b,u15_0,I x_3.given.bound] [I x19.kind,I x19.a,I x19.b,u30_0,I x19.given.bound] _ _ _ _ (rStep_iff.2 ⟨_,rfl,(RP.mono _ hu15_0 l42)⟩) (rStep_iff.2 ⟨_,rfl,(RP.mono _ hu30_0 l42)⟩) hx34 (args_app rfl)) ?_
 rintro _ w46 ⟨rfl,Z⟩
 have Z:=k45 Z c0
 refine L_not_ rfl rfl (nn (W_cond (b:=(!x34)) rfl (fun hc47=>?_) (fun hc47=>?_)))
 have hB3:=(ite_t hc47).symm.trans hB3
 refine sq (aB rfl (nn (W_ret (retG1 (v1:=Bo false) Tryz.results70 rfl ?_))))
 obtain rfl:=so hB3
 obtain rfl:=so hL3
 obtain rfl:=so hF
 exact ⟨rfl,(Star.keepN 0 Z)⟩
 have hB3:=(ite_f hc47).symm.trans hB3
 refine W_skip (W_region (L_add rfl sf17 rfl (mI rfl (nn ?_))))
 obtain rfl:=so hB3
 show ∃ m,m < _∧I3 m _ _
 refine ⟨rest3.length,by simp,?_⟩
 exact ij hI3 ⟨i_2 + 1,rest3,rfl,drop_next hd3,by simp at hl3; omega,hL3,sf1,sf2,sf15,sf16,(Eq.trans rfl (congrArg (Value.int .i64) (i64_succ (n:=s1.length) (by simp at hl3; omega) hlen3))),(Star.keepN 0 Z)⟩
 rcases suf3 with _ | ⟨_,_⟩
 obtain rfl:=range_nil hL3
 refine W_exit (rj hR3 ⟨rfl,Z⟩)
 exact absurd (of_decide_eq_false hc4) (by simp at hl3; omega)
 intro f w_ hR
 obtain ⟨rfl,Z⟩:=rk hR3 hR
 refine sq (aB rfl (nn (W_ret (retG1 (v1:=Bo true) Tryz.results70 rfl ?_))))
 obtain rfl:=so hF
 exact ⟨rfl,Z⟩
theorem i_ProofSame_1_c {s : Step} {t : Step} {v0_3 : Value} {v1_3 : Value} {H : FH} {w : World} (Z : Star H w []) (h0_3 : (rS 126 rTerm).rel H [v0_3] s.given.terms) (h1_3 : (rS 126 rTerm).rel H [v1_3] t.given.terms) {r : Bool} (hF : i_ProofSame_1 s t = some r) :
 C Tryz.prog 71 #[.agg #[I s.kind,I s.a,I s.b,v0_3,I s.given.bound],.agg #[I t.kind,I t.a,I t.b,v1_3,I t.given.bound]] w fun v w'=>v = Bo r∧Star H w' []:=by
 unfold i_ProofSame_1 at hF
 refine C_enter Tryz.func71 rfl Tryz.ntmps71 rfl (sq (L_box (v:=.agg #[I s.kind,I s.a,I s.b,v0_3,I s.given.bound]) (cs:=#[I s.kind,I s.a,I s.b,v0_3,I s.given.bound]) rfl rfl rfl Z (fun g5 w6 Z=>L_box (v:=.agg #[I t.kind,I t.a,I t.b,v1_3,I t.given.bound]) (cs:=#[I t.kind,I t.a,I t.b,v1_3,I t.given.bound]) rfl rfl rfl Z (fun g7 w8 Z=>aB rfl (nq ?_)))))
 obtain ⟨b16,hb16,hF⟩:=bind_some hF
 obtain ⟨R17,hR17⟩:=exR fun f w_=>f 4 = Bo b16∧Star H w_ ([])
 refine W_join R17 ?_ ?_
 refine W_region (fA 0 fa_76_0 rfl rfl (ldB 1 Z Tryz.isAgg3 rfl rfl rfl (fA 0 fa_76_0 rfl rfl (ldB 0 Z Tryz.isAgg3 rfl rfl rfl (L_eql rfl rfl rfl (mB rfl (L_split (d:=10) (b:=(s.kind == t.kind)) rfl (fun hc18=>?_) (fun hc18=>?_))))))))
 refine fA 1 fa_76_1 rfl rfl (ldB 1 Z Tryz.isAgg3 rfl rfl rfl (fA 1 fa_76_1 rfl rfl (ldB 0 Z Tryz.isAgg3 rfl rfl rfl (L_eql rfl rfl rfl (L_pick (v:=Bo ((s.kind == t.kind) && (s.a == t.a))) rfl rfl (and_t hc18 rfl) (mB rfl (L_split (d:=17) (b:=((s.kind == t.kind) && (s.a == t.a))) rfl (fun hc19=>?_) (fun hc19=>?_))))))))
 refine fA 2 fa_76_2 rfl rfl (ldB 1 Z Tryz.isAgg3 rfl rfl rfl (fA 2 fa_76_2 rfl rfl (ldB 0 Z Tryz.isAgg3 rfl rfl rfl (L_eql rfl rfl rfl (L_pick (v:=Bo (((s.kind == t.kind) && (s.a == t.a)) && (s.b == t.b))) rfl rfl (and_t hc19 rfl) (mB rfl (L_split (d:=24) (b:=(((s.kind == t.kind) && (s.a == t.a)) && (s.b == t.b))) rfl (fun hc20=>?_) (fun hc20=>?_))))))))
 rw [ite_t hc20] at hb16
 obtain ⟨x14,hx14,hb16⟩:=bind_some hb16
 refine fA 3 fa_76_3 rfl rfl (L_lda (cs:=[v0_3,I s.given.bound]) rfl Tryz.isAgg74 Tryz.sizeOf74 rfl (At.sub0 (Blk.at (Star.blkAt 1 Z rfl)) 3 2) rfl (fA 3 fa_76_3 rfl rfl (L_lda (cs:=[v1_3,I t.given.bound]) rfl Tryz.isAgg74 Tryz.sizeOf74 rfl (At.sub0 (Blk.at (Star.blkAt 0 Z rfl)) 3 2) rfl ?_)))
 obtain ⟨H21b,l22,s23,z24,k25⟩:=Z.borrow
 refine L_call rfl Tryz.call72 (ops2 rfl rfl) (i_ConstraintSame_c (a:=s.given) (b:=t.given) s23 (RP.mono _ h0_3 l22) (RP.mono _ h1_3 l22) hx14) ?_
 rintro _ w26 ⟨rfl,Z⟩
 have Z:=k25 Z c0
 refine L_pick (v:=Bo b16) rfl rfl (congrArg Value.bool (so hb16)) (aB rfl (nn (rj hR17 ⟨rfl,(Star.keepN 0 Z)⟩)))
 rw [ite_f hc20] at hb16
 refine ps rfl (ps rfl (ps rfl (ps rfl (ps rfl (L_pick (v:=Bo b16) rfl rfl (congrArg Value.bool (so hb16)) (aB rfl (nn (rj hR17 ⟨rfl,(Star.keepN 0 Z)⟩))))))))
 refine ps rfl (ps rfl (ps rfl (ps rfl (ps rfl (L_pick (v:=Bo (((s.kind == t.kind) && (s.a == t.a)) && (s.b == t.b))) rfl rfl (and_f hc19) (mB rfl (L_split (d:=24) (b:=(((s.kind == t.kind) && (s.a == t.a)) && (s.b == t.b))) rfl (fun hc27=>?_) (fun hc27=>?_))))))))
 exact boolNo hc27 (andF hc19)
 rw [ite_f hc27] at hb16
 refine ps rfl (ps rfl (ps rfl (ps rfl (ps rfl (L_pick (v:=Bo b16) rfl rfl (congrArg Value.bool (so hb16)) (aB rfl (nn (rj hR17 ⟨rfl,(Star.keepN 0 Z)⟩))))))))
 refine ps rfl (ps rfl (ps rfl (ps rfl (ps rfl (L_pick (v:=Bo ((s.kind == t.kind) && (s.a == t.a))) rfl rfl (and_f hc18) (mB rfl (L_split (d:=17) (b:=((s.kind == t.kind) && (s.a == t.a))) rfl (fun hc28=>?_) (fun hc28=>?_))))))))
 exact boolNo hc28 (andF hc18)
 refine ps rfl (ps rfl (ps rfl (ps rfl (ps rfl (L_pick (v:=Bo (((s.kind == t.kind) && (s.a == t.a)) && (s.b == t.b))) rfl rfl (and_f hc28) (mB rfl (L_split (d:=24) (b:=(((s.kind == t.kind) && (s.a == t.a)) && (s.b == t.b))) rfl (fun hc29=>?_) (fun hc29=>?_))))))))
 exact boolNo hc29 (andF hc28)
 rw [ite_f hc29] at hb16
 refine ps rfl (ps rfl (ps rfl (ps rfl (ps rfl (L_pick (v:=Bo b16) rfl rfl (congrArg Value.bool (so hb16)) (aB rfl (nn (rj hR17 ⟨rfl,(Star.keepN 0 Z)⟩))))))))
 intro f w_ hR
 obtain ⟨sf4,Z⟩:=rk hR17 hR
 refine W_ret (retG1 (v1:=Bo b16) Tryz.results71 sf4 ?_)
 obtain rfl:=so hF
 exact ⟨rfl,Z⟩
theorem i_ProofSame_c {a : List Step} {b : List Step} {v0 : Value} {v1 : Value} {H : FH} {w : World} (Z : Star H w []) (h0 : (rS 76 (rStep 126)).rel H [v0] a) (h1 : (rS 76 (rStep 126)).rel H [v1] b) {r : Bool} (hF : i_ProofSame a b = some r) :
 C Tryz.prog 27 #[v0,v1] w fun v w'=>v = Bo r∧Star H w' []:=by
 unfold i_ProofSame at hF
 refine C_enter Tryz.func27 rfl Tryz.ntmps27 rfl (sq (aB rfl (nq ?_)))
 obtain ⟨x6,hx6,hF⟩:=bind_some hF
 refine W_region (mV v0 rfl (mV v1 rfl ?_))
 obtain ⟨H8b,l9,s10,z11,k12⟩:=Z.borrow
 have hf13 : Fun2 Tryz.prog (rStep 126) (rStep 126) true Value.bool i_ProofSame_1 (.func (.func 71) #[] #[]) H8b:=by
   refine ⟨_,_,rfl,Tryz.call71,fun H_ w_ hE_ hs_ cs1_ cs2_ x1_ x2_ y_ args_ hr1_ hr2_ hy_ ha_=>?_⟩
   obtain ⟨p1_0,rfl,hp1_0⟩:=rStep_iff.1 hr1_
   obtain ⟨p2_0,rfl,hp2_0⟩:=rStep_iff.1 hr2_
   obtain rfl:=args_of (b:=#[.agg #[I x1_.kind,I x1_.a,I x1_.b,p1_0,I x1_.given.bound],.agg #[I x2_.kind,I x2_.a,I x2_.b,p2_0,I x2_.given.bound]]) ha_
   exact i_ProofSame_1_c (s:=x1_) (t:=x2_) hs_ hp1_0 hp2_0 hy_
 refine L_call rfl Tryz.call70 (ops3 rfl rfl rfl) (slices_EqualFunc_implStep_c (s1:=a) (s2:=b) (eq:=i_ProofSame_1) s10 (RP.mono _ h0 l9) (RP.mono _ h1 l9) hf13 hx6) ?_
 rintro _ w14 ⟨rfl,Z⟩
 have Z:=k12 Z c0
 refine aB rfl (nn (W_ret (retG1 (v1:=Bo x6) Tryz.results27 rfl ?_)))
 obtain rfl:=so hF
 exact ⟨rfl,Z⟩
theorem s_DrawParseProof_c {fu : Nat} {code : List UInt8} {v0 : Value} {H : FH} {w : World} (Z : Star H w []) (h0 : (rS 5 RP.u8).rel H [v0] code) {r : ByteArray} (hF : s_DrawParseProof fu code = some r) :
 C Tryz.prog 28 #[v0] w fun v w'=>v = .string r∧Star H w' []:=by
 unfold s_DrawParseProof at hF
 refine C_enter Tryz.func28 rfl Tryz.ntmps28 rfl (sq (aV (.string (⟨#[]⟩ : ByteArray)) rfl (nq ?_)))
 obtain ⟨x1,hx1,hF⟩:=bind_some hF
 refine W_region (mV v0 rfl (L_call rfl Tryz.call54 (ops1 rfl) (s_l17Open_c (code:=code) Z h0 hx1) ?_))
 rintro _ w3 ⟨H3,l3,r3_0,r3_1,rfl,hr3_1,Z⟩
 refine aV (Pt r3_0) rfl (nq ?_)
 obtain ⟨x4,hx4,hF⟩:=bind_some hF
 refine W_region (mV (Pt r3_0) rfl (L_call rfl Tryz.call62 (ops1 rfl) (s_l4Pair_c (r_:=x1) Z hr3_1 hx4) ?_))
 rintro _ w7 ⟨H7,l7,r7_0,r7_1,rfl,hr7_0,Z⟩
 refine mV (.tuple #[r7_0,r7_1]) rfl (L_ex (v:=r7_0) rfl rfl rfl (L_ex (v:=r7_1) rfl rfl rfl (aV r7_0 rfl (aV r7_1 rfl (nq ?_)))))
 obtain ⟨x15,hx15,hF⟩:=bind_some hF
 obtain ⟨x26,hx26,hF⟩:=bind_some hF
 refine W_region (mV (Pt r3_0) rfl (mV r7_1 rfl ?_))
 obtain ⟨H28b,l29,s30,z31,k32⟩:=Z.borrow
 have hb33 : (rS 76 (rStep 126)).rel H28b [r7_1] x4.2.1:=fz_own 0 z31 rfl
 refine L_call rfl Tryz.call26 (ops1 rfl) (s_FormatProof_c (steps:=x4.2.1) s30 hb33 hx15) ?_
 rintro _ w34 ⟨rfl,Z⟩
 have Z:=k32 Z c0
 refine L_bs rfl (parts6 rfl rfl rfl rfl rfl rfl) (bs_44_6_0_0_0_0_0_0 (.string (⟨#[]⟩ : ByteArray)) (.string (⟨#[32]⟩ : ByteArray)) (.string (⟨#[10]⟩ : ByteArray)) (.string (⟨#[49]⟩ : ByteArray)) (.string (⟨#[120]⟩ : ByteArray)) (.string (⟨#[114,117,112]⟩ : ByteArray)) rfl rfl rfl rfl rfl rfl) Z (fun g35 w36 Z=>?_)
 have Z:=Star.addF (r:=RP.str) (cs:=[.string (⟨#[114,117,112]⟩ : ByteArray)]) (x:=(⟨#[114,117,112]⟩ : ByteArray)) Z rfl
 have Z:=Star.addF (r:=RP.str) (cs:=[.string (⟨#[120]⟩ : ByteArray)]) (x:=(⟨#[120]⟩ : ByteArray)) Z rfl
 have Z:=Star.addF (r:=RP.str) (cs:=[.string (⟨#[49]⟩ : ByteArray)]) (x:=(⟨#[49]⟩ : ByteArray)) Z rfl
 have Z:=Star.addF (r:=RP.str) (cs:=[.string (⟨#[10]⟩ : ByteArray)]) (x:=(⟨#[10]⟩ : ByteArray)) Z rfl
 have Z:=Star.addF (r:=RP.str) (cs:=[.string (⟨#[32]⟩ : ByteArray)]) (x:=(⟨#[32]⟩ : ByteArray)) Z rfl
 have Z:=Star.addF (r:=RP.str) (cs:=[.string (⟨#[]⟩ : ByteArray)]) (x:=(⟨#[]⟩ : ByteArray)) Z rfl
 have Z:=Star.mkRow (R:=(OR.frz RP.str)) [([.string (⟨#[]⟩ : ByteArray)],(⟨#[]⟩ : ByteArray)),([.string (⟨#[32]⟩ : ByteArray)],(⟨#[32]⟩ : ByteArray)),([.string (⟨#[10]⟩ : ByteArray)],(⟨#[10]⟩ : ByteArray)),([.string (⟨#[49]⟩ : ByteArray)],(⟨#[49]⟩ : ByteArray)),([.string (⟨#[120]⟩ : ByteArray)],(⟨#[120]⟩ : ByteArray)),([.string (⟨#[114,117,112]⟩ : ByteArray)],(⟨#[114,117,112]⟩ : ByteArray))] [(⟨#[]⟩ : ByteArray),(⟨#[32]⟩ : ByteArray),(⟨#[10]⟩ : ByteArray),(⟨#[49]⟩ : ByteArray),(⟨#[120]⟩ : ByteArray),(⟨#[114,117,112]⟩ : ByteArray)] 6 Z rfl rfl rfl (by decide)
 have Z:=Z.get 2 rfl
 obtain ⟨H38b,l39,s40,z41,k42⟩:=Z.lend [_]
 have hb43 : (rS 9 RP.str).rel H38b [(Sl g35 6 6)] ([(⟨#[]⟩ : ByteArray),(⟨#[32]⟩ : ByteArray),(⟨#[10]⟩ : ByteArray),(⟨#[49]⟩ : ByteArray),(⟨#[120]⟩ : ByteArray),(⟨#[114,117,112]⟩ : ByteArray)]):=fz_own 0 z41 rfl
 refine L_call rfl Tryz.call55 (ops3 rfl rfl rfl) (s_l1Bend_c (r_:=({ b:=x1.b,p:=x4.2.2 } : Rd)) (s:=x15) (bits:=[(⟨#[]⟩ : ByteArray),(⟨#[32]⟩ : ByteArray),(⟨#[10]⟩ : ByteArray),(⟨#[49]⟩ : ByteArray),(⟨#[120]⟩ : ByteArray),(⟨#[114,117,112]⟩ : ByteArray)]) s40 (RP.mono _ hr3_1 (Le.trans l7 l39)) hb43 hx26) ?_
 rintro _ w44 ⟨rfl,Z⟩
 have Z:=k42 Z (cb c0)
 refine aV (.string x26.1) rfl (nn (W_ret (retG1 (v1:=.string x26.1) Tryz.results28 rfl ?_)))
 obtain rfl:=so hF
 exact ⟨rfl,(Star.down (Star.keepN 0 Z) (Le.trans l3 l7) c0)⟩
theorem l_FnProofText_c {fu : Nat} {code : List UInt8} {more : List UInt8} {v0 : Value} {v1 : Value} {H : FH} {w : World} (Z : Star H w []) (h0 : (rS 5 RP.u8).rel H [v0] code) (h1 : (rS 5 RP.u8).rel H [v1] more) {r : Bool} (hF : l_FnProofText fu code more = some r) :
 C Tryz.prog 6 #[v0,v1] w fun v w'=>v = Bo r∧Star H w' []:=by
 unfold l_FnProofText at hF
 refine C_enter Tryz.func6 rfl Tryz.ntmps6 rfl (sq (aB rfl (nq (W_seq ?_))))
 obtain ⟨R1,hR1⟩:=exR fun f w_=>f 0 = v0∧f 1 = v1∧f 21 = Bo ((decide ((code.length : Int) > 1048576)) || (decide ((more.length : Int) > 1048576)))∧Star H w_ ([])
 refine W_join R1 ?_ ?_
 refine W_region (mV v0 rfl (L_len rfl Tryz.underlying31 rfl (slice_len h0) (L_gtr rfl rfl rfl (mB rfl (L_split (d:=17) (b:=decide ((code.length : Int) > 1048576)) rfl (fun hc2=>?_) (fun hc2=>?_))))))
 refine ps rfl (ps rfl (ps rfl (L_pick (v:=Bo ((decide ((code.length : Int) > 1048576)) || (decide ((more.length : Int) > 1048576)))) rfl rfl (or_t hc2) (nn (rj hR1 ⟨rfl,rfl,rfl,Z⟩)))))
 refine mV v1 rfl (L_len rfl Tryz.underlying31 rfl (slice_len h1) (L_gtr rfl rfl rfl (L_pick (v:=Bo ((decide ((code.length : Int) > 1048576)) || (decide ((more.length : Int) > 1048576)))) rfl rfl (or_f hc2 rfl) (nn (rj hR1 ⟨rfl,rfl,rfl,Z⟩)))))
 intro f w_ hR
 obtain ⟨sf0,sf1,sf21,Z⟩:=rk hR1 hR
 refine W_cond (b:=((decide ((code.length : Int) > 1048576)) || (decide ((more.length : Int) > 1048576)))) sf21 (fun hc3=>?_) (fun hc3=>?_)
 have hF:=(ite_t hc3).symm.trans hF
 refine sq (aB rfl (nn (W_ret (retG1 (v1:=Bo true) Tryz.results6 rfl ?_))))
 obtain rfl:=so hF
 exact ⟨rfl,Z⟩
 have hF:=(ite_f hc3).symm.trans hF
 refine W_skip (W_seq ?_)
 obtain ⟨x4,hx4,hF⟩:=bind_some hF
 refine W_region (mF sf0 rfl (L_call rfl Tryz.call24 (ops1 rfl) (s_DrawFormatProof_c (code:=code) Z h0 hx4) ?_))
 rintro r7_0 w7 ⟨H7,l7,_,rfl,Z⟩
 refine aV r7_0 rfl (nq ?_)
 obtain ⟨x15,hx15,hF⟩:=bind_some hF
 refine W_region (mV r7_0 rfl ?_)
 obtain ⟨H17b,l18,s19,z20,k21⟩:=Z.borrow
 have hb22 : (rS 76 (rStep 126)).rel H17b [r7_0] x4:=fz_own 0 z20 rfl
 refine L_call rfl Tryz.call25 (ops1 rfl) (i_FormatProof_c (steps:=x4) s19 hb22 hx15) ?_
 rintro _ w23 ⟨rfl,Z⟩
 have Z:=k21 Z c0
 refine aV (.string x15) rfl (nq ?_)
 obtain ⟨x29,hx29,hF⟩:=bind_some hF
 refine W_region (mV (.string x15) rfl ?_)
 obtain ⟨H32b,l33,s34,z35,k36⟩:=Z.borrow
 refine L_call rfl Tryz.call20 (ops1 rfl) (i_ParseProof_c (text:=x15) s34 hx29) ?_
 rintro _ w37 ⟨r37_0,rfl,Z⟩
 have Z:=k36 Z (co closed_oStep c0)
 refine mV (.tuple #[r37_0,Bo x29.2]) rfl (L_ex (v:=r37_0) rfl rfl rfl (L_ex (v:=Bo x29.2) rfl rfl rfl (aV r37_0 rfl (aB rfl (nq (W_seq ?_))))))
 obtain ⟨x45,hx45,hF⟩:=bind_some hF
 obtain ⟨b57,hb57,hF⟩:=bind_some hF
 obtain ⟨R58,hR58⟩:=exR fun f w_=>f 1 = v1∧f 53 = Bo b57∧Star H7 w_ ([])
 refine W_join R58 ?_ ?_
 refine W_region (mV (.string x15) rfl (mV r7_0 rfl ?_))
 obtain ⟨H59b,l60,s61,z62,k63⟩:=Z.borrow
 have hb64 : (rS 76 (rStep 126)).rel H59b [r7_0] x4:=fz_own 1 z62 rfl
 refine L_call rfl Tryz.call26 (ops1 rfl) (s_FormatProof_c (steps:=x4) s61 hb64 hx45) ?_
 rintro _ w65 ⟨rfl,Z⟩
 have Z:=k63 Z c0
 refine L_sneq (s:=x15) (s':=x45) rfl rfl rfl (mB rfl (L_split (d:=35) (b:=(!(ByteArray.toList x15 == ByteArray.toList x45))) rfl (fun hc66=>?_) (fun hc66=>?_)))
 refine ps rfl (ps rfl (L_pick (v:=Bo ((!(ByteArray.toList x15 == ByteArray.toList x45)) || (!x29.2))) rfl rfl (or_t hc66) (mB rfl (L_split (d:=39) (b:=((!(ByteArray.toList x15 == ByteArray.toList x45)) || (!x29.2))) rfl (fun hc67=>?_) (fun hc67=>?_)))))
 rw [ite_t hc67] at hb57
 refine ps rfl (ps rfl (ps rfl (ps rfl (ps rfl (ps rfl (ps rfl (ps rfl (ps rfl (ps rfl (ps rfl (ps rfl (ps rfl (L_pick (v:=Bo b57) rfl rfl (congrArg Value.bool (so hb57)) (nn (rj hR58 ⟨sf1,rfl,(Star.keepN 0 Z)⟩)))))))))))))))
 exact boolNo (orT hc66) hc67
 refine mB rfl (L_not_ rfl rfl (L_pick (v:=Bo ((!(ByteArray.toList x15 == ByteArray.toList x45)) || (!x29.2))) rfl rfl (or_f hc66 rfl) (mB rfl (L_split (d:=39) (b:=((!(ByteArray.toList x15 == ByteArray.toList x45)) || (!x29.2))) rfl (fun hc68=>?_) (fun hc68=>?_)))))
 rw [ite_t hc68] at hb57
 refine ps rfl (ps rfl (ps rfl (ps rfl (ps rfl (ps rfl (ps rfl (ps rfl (ps rfl (ps rfl (ps rfl (ps rfl (ps rfl (L_pick (v:=Bo b57) rfl rfl (congrArg Value.bool (so hb57)) (nn (rj hR58 ⟨sf1,rfl,(Star.keepN 0 Z)⟩)))))))))))))))
 rw [ite_f hc68] at hb57
 obtain ⟨b56,hb56,hb57⟩:=bind_some hb57
 refine mV (.string x15) rfl (L_sneq (s:=x15) (s':=(⟨#[]⟩ : ByteArray)) rfl rfl rfl (mB rfl (L_split (d:=42) (b:=(!(ByteArray.toList x15 == ByteArray.toList (⟨#[]⟩ : ByteArray)))) rfl (fun hc69=>?_) (fun hc69=>?_))))
 refine ps rfl (ps rfl (ps rfl (L_pick (v:=Bo ((!(ByteArray.toList x15 == ByteArray.toList (⟨#[]⟩ : ByteArray))) || ((x4.length : Int) == 0))) rfl rfl (or_t hc69) (mB rfl (L_split (d:=47) (b:=((!(ByteArray.toList x15 == ByteArray.toList (⟨#[]⟩ : ByteArray))) || ((x4.length : Int) == 0))) rfl (fun hc70=>?_) (fun hc70=>?_))))))
 rw [ite_t hc70] at hb56
 obtain ⟨x54,hx54,hb56⟩:=bind_some hb56
 refine mV r37_0 rfl (mV r7_0 rfl ?_)
 obtain ⟨H71b,l72,s73,z74,k75⟩:=Z.borrow
 have hb76 : (rS 76 (rStep 126)).rel H71b [r37_0] x29.1:=fz_own 0 z74 rfl
 have hb77 : (rS 76 (rStep 126)).rel H71b [r7_0] x4:=fz_own 1 z74 rfl
 refine L_call rfl Tryz.call27 (ops2 rfl rfl) (i_ProofSame_c (a:=x29.1) (b:=x4) s73 hb76 hb77 hx54) ?_
 rintro _ w78 ⟨rfl,Z⟩
 have Z:=k75 Z c0
 refine L_not_ rfl rfl (L_pick (v:=Bo b56) rfl rfl (congrArg Value.bool (so hb56)) (L_pick (v:=Bo b57) rfl rfl (congrArg Value.bool (so hb57)) (nn (rj hR58 ⟨sf1,rfl,(Star.keepN 0 Z)⟩))))
 exact boolNo (orT hc69) hc70
 refine mV r7_0 rfl (L_len rfl Tryz.underlying37 rfl (Star.len 1 Z rfl) (L_eql rfl rfl rfl (L_pick (v:=Bo ((!(ByteArray.toList x15 == ByteArray.toList (⟨#[]⟩ : ByteArray))) || ((x4.length : Int) == 0))) rfl rfl (or_f hc69 rfl) (mB rfl (L_split (d:=47) (b:=((!(ByteArray.toList x15 == ByteArray.toList (⟨#[]⟩ : ByteArray))) || ((x4.length : Int) == 0))) rfl (fun hc79=>?_) (fun hc79=>?_))))))
 rw [ite_t hc79] at hb56
 obtain ⟨x54,hx54,hb56⟩:=bind_some hb56
 refine mV r37_0 rfl (mV r7_0 rfl ?_)
 obtain ⟨H80b,l81,s82,z83,k84⟩:=Z.borrow
 have hb85 : (rS 76 (rStep 126)).rel H80b [r37_0] x29.1:=fz_own 0 z83 rfl
 have hb86 : (rS 76 (rStep 126)).rel H80b [r7_0] x4:=fz_own 1 z83 rfl
 refine L_call rfl Tryz.call27 (ops2 rfl rfl) (i_ProofSame_c (a:=x29.1) (b:=x4) s82 hb85 hb86 hx54) ?_
 rintro _ w87 ⟨rfl,Z⟩
 have Z:=k84 Z c0
 refine L_not_ rfl rfl (L_pick (v:=Bo b56) rfl rfl (congrArg Value.bool (so hb56)) (L_pick (v:=Bo b57) rfl rfl (congrArg Value.bool (so hb57)) (nn (rj hR58 ⟨sf1,rfl,(Star.keepN 0 Z)⟩))))
 rw [ite_f hc79] at hb56
 refine ps rfl (ps rfl (ps rfl (ps rfl (L_pick (v:=Bo b56) rfl rfl (congrArg Value.bool (so hb56)) (L_pick (v:=Bo b57) rfl rfl (congrArg Value.bool (so hb57)) (nn (rj hR58 ⟨sf1,rfl,(Star.keepN 0 Z)⟩)))))))
 intro f w_ hR
 obtain ⟨sf1,sf53,Z⟩:=rk hR58 hR
 refine W_cond (b:=b57) sf53 (fun hc88=>?_) (fun hc88=>?_)
 have hF:=(ite_t hc88).symm.trans hF
 refine sq (aB rfl (nn (W_ret (retG1 (v1:=Bo false) Tryz.results6 rfl ?_))))
 obtain rfl:=so hF
 exact ⟨rfl,(Star.down Z l7 c0)⟩
 have hF:=(ite_f hc88).symm.trans hF
 refine W_skip (W_seq ?_)
 obtain ⟨x94,hx94,hF⟩:=bind_some hF
 refine W_region (mF sf1 rfl ?_)
 obtain ⟨H96b,l97,s98,z99,k100⟩:=Z.borrow
 refine L_call rfl Tryz.call28 (ops1 rfl) (s_DrawParseProof_c (code:=more) s98 (RP.mono _ h1 (Le.trans l7 l97)) hx94) ?_
 rintro _ w101 ⟨rfl,Z⟩
 have Z:=k100 Z c0
 refine aV (.string x94) rfl (nq ?_)
 obtain ⟨x107,hx107,hF⟩:=bind_some hF
 refine W_region (mV (.string x94) rfl ?_)
 obtain ⟨H110b,l111,s112,z113,k114⟩:=Z.borrow
 refine L_call rfl Tryz.call20 (ops1 rfl) (i_ParseProof_c (text:=x94) s112 hx107) ?_
 rintro _ w115 ⟨r115_0,rfl,Z⟩
 have Z:=k114 Z (co closed_oStep c0)
 refine mV (.tuple #[r115_0,Bo x107.2]) rfl (L_ex (v:=r115_0) rfl rfl rfl (L_ex (v:=Bo x107.2) rfl rfl rfl (aV r115_0 rfl (aB rfl (nq ?_)))))
 obtain ⟨x122,hx122,hF⟩:=bind_some hF
 refine W_region (mV (.string x94) rfl ?_)
 obtain ⟨H125b,l126,s127,z128,k129⟩:=Z.borrow
 refine L_call rfl Tryz.call19 (ops1 rfl) (s_ParseProof_c (text:=x94) s127 hx122) ?_
 rintro _ w130 ⟨r130_0,rfl,Z⟩
 have Z:=k129 Z (co closed_oStep c0)
 refine mV (.tuple #[r130_0,Bo x122.2]) rfl (L_ex (v:=r130_0) rfl rfl rfl (L_ex (v:=Bo x122.2) rfl rfl rfl (aV r130_0 rfl (aB rfl (nq ?_)))))
 obtain ⟨b141,hb141,hF⟩:=bind_some hF
 obtain ⟨b151,hb151,hF⟩:=bind_some hF
 obtain ⟨R152,hR152⟩:=exR fun f w_=>f 4 = Bo b151∧Star H7 w_ ([])
 refine W_join R152 ?_ ?_
 refine W_region (mB rfl (mB rfl (L_beql (b:=x107.2) (c:=x122.2) rfl Tryz.underlying4 rfl rfl (mB rfl (L_split (d:=69) (b:=(x107.2 == x122.2)) rfl (fun hc153=>?_) (fun hc153=>?_))))))
 rw [ite_t hc153] at hb141
 obtain ⟨x139,hx139,hb141⟩:=bind_some hb141
 refine mV r115_0 rfl (mV r130_0 rfl ?_)
 obtain ⟨H154b,l155,s156,z157,k158⟩:=Z.borrow
 have hb159 : (rS 76 (rStep 126)).rel H154b [r115_0] x107.1:=fz_own 1 z157 rfl
 have hb160 : (rS 76 (rStep 126)).rel H154b [r130_0] x122.1:=fz_own 0 z157 rfl
 refine L_call rfl Tryz.call27 (ops2 rfl rfl) (i_ProofSame_c (a:=x107.1) (b:=x122.1) s156 hb159 hb160 hx139) ?_
 rintro _ w161 ⟨rfl,Z⟩
 have Z:=k158 Z c0
 refine L_pick (v:=Bo b141) rfl rfl (congrArg Value.bool (so hb141)) (mB rfl (L_split (d:=74) (b:=b141) rfl (fun hc162=>?_) (fun hc162=>?_)))
 rw [ite_t hc162] at hb151
 obtain ⟨b150,hb150,hb151⟩:=bind_some hb151
 refine mB rfl (L_not_ rfl rfl (mB rfl (L_split (d:=77) (b:=(!x107.2)) rfl (fun hc163=>?_) (fun hc163=>?_))))
 rw [ite_t hc163] at hb150
 refine ps rfl (ps rfl (ps rfl (ps rfl (L_pick (v:=Bo b150) rfl rfl (congrArg Value.bool (so hb150)) (L_pick (v:=Bo b151) rfl rfl (congrArg Value.bool (so hb151)) (aB rfl (nn (rj hR152 ⟨rfl,(Star.keepN 0 Z)⟩))))))))
 rw [ite_f hc163] at hb150
 obtain ⟨x148,hx148,hb150⟩:=bind_some hb150
 refine mV r115_0 rfl ?_
 obtain ⟨H164b,l165,s166,z167,k168⟩:=Z.borrow
 have hb169 : (rS 76 (rStep 126)).rel H164b [r115_0] x107.1:=fz_own 1 z167 rfl
 refine L_call rfl Tryz.call25 (ops1 rfl) (i_FormatProof_c (steps:=x107.1) s166 hb169 hx148) ?_
 rintro _ w170 ⟨rfl,Z⟩
 have Z:=k168 Z c0
 refine mV (.string x94) rfl (L_seql (s:=x148) (s':=x94) rfl rfl rfl (L_pick (v:=Bo b150) rfl rfl (congrArg Value.bool (so hb150)) (L_pick (v:=Bo b151) rfl rfl (congrArg Value.bool (so hb151)) (aB rfl (nn (rj hR152 ⟨rfl,(Star.keepN 0 Z)⟩))))))
 rw [ite_f hc162] at hb151
 refine ps rfl (ps rfl (ps rfl (ps rfl (ps rfl (ps rfl (ps rfl (ps rfl (L_pick (v:=Bo b151) rfl rfl (congrArg Value.bool (so hb151)) (aB rfl (nn (rj hR152 ⟨rfl,(Star.keepN 0 Z)⟩)))))))))))
 rw [ite_f hc153] at hb141
 refine ps rfl (ps rfl (ps rfl (L_pick (v:=Bo b141) rfl rfl (congrArg Value.bool (so hb141)) (mB rfl (L_split (d:=74) (b:=b141) rfl (fun hc171=>?_) (fun hc171=>?_))))))
 rw [ite_t hc171] at hb151
 obtain ⟨b150,hb150,hb151⟩:=bind_some hb151
 refine mB rfl (L_not_ rfl rfl (mB rfl (L_split (d:=77) (b:=(!x107.2)) rfl (fun hc172=>?_) (fun hc172=>?_))))
 rw [ite_t hc172] at hb150
 refine ps rfl (ps rfl (ps rfl (ps rfl (L_pick (v:=Bo b150) rfl rfl (congrArg Value.bool (so hb150)) (L_pick (v:=Bo b151) rfl rfl (congrArg Value.bool (so hb151)) (aB rfl (nn (rj hR152 ⟨rfl,(Star.keepN 0 Z)⟩))))))))
 rw [ite_f hc172] at hb150
 obtain ⟨x148,hx148,hb150⟩:=bind_some hb150
 refine mV r115_0 rfl ?_
 obtain ⟨H173b,l174,s175,z176,k177⟩:=Z.borrow
 have hb178 : (rS 76 (rStep 126)).rel H173b [r115_0] x107.1:=fz_own 1 z176 rfl
 refine L_call rfl Tryz.call25 (ops1 rfl) (i_FormatProof_c (steps:=x107.1) s175 hb178 hx148) ?_
 rintro _ w179 ⟨rfl,Z⟩
 have Z:=k177 Z c0
 refine mV (.string x94) rfl (L_seql (s:=x148) (s':=x94) rfl rfl rfl (L_pick (v:=Bo b150) rfl rfl (congrArg Value.bool (so hb150)) (L_pick (v:=Bo b151) rfl rfl (congrArg Value.bool (so hb151)) (aB rfl (nn (rj hR152 ⟨rfl,(Star.keepN 0 Z)⟩))))))
 rw [ite_f hc171] at hb151
 refine ps rfl (ps rfl (ps rfl (ps rfl (ps rfl (ps rfl (ps rfl (ps rfl (L_pick (v:=Bo b151) rfl rfl (congrArg Value.bool (so hb151)) (aB rfl (nn (rj hR152 ⟨rfl,(Star.keepN 0 Z)⟩)))))))))))
 intro f w_ hR
 obtain ⟨sf4,Z⟩:=rk hR152 hR
 refine W_ret (retG1 (v1:=Bo b151) Tryz.results6 sf4 ?_)
 obtain rfl:=so hF
 exact ⟨rfl,(Star.down Z l7 c0)⟩
end Go.Proofs.YtohpkefnmkdaeaaGreatDoor

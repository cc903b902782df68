/- Part of a proof by program: W3. -/
import Derived.Test.YteeilbddjlpiaaaD1
import Derived.Test.YteeilbddjlpiaaaW2
namespace Go.Proofs.Yteeilbddjlpiaaa
open Go Go.E Go.L Go.RowKit
set_option linter.unusedVariables false
set_option linter.unusedSimpArgs false
set_option maxRecDepth 100000
theorem l_FnExactProveConstraint_c {fu : Nat} {aList : List Con} {aC : Con} {aFuel : Int} {v0 : Value} {v1_0 : Value} {H : FH} {w : World} (hst : Star H w []) (h0 : (rS 59 (rCon 135)).rel H [v0] aList) (h1_0 : (rS 135 rTerm).rel H [v1_0] aC.terms) {r : Bool} (hF : l_FnExactProveConstraint fu aList aC aFuel = some r) :
 C Try.prog 10 #[v0,.agg #[v1_0,I aC.bound],I aFuel] w fun v w'=>v = Bo r∧Star H w' []:=by
 unfold l_FnExactProveConstraint at hF
 refine C_enter Try.func10 rfl Try.ntmps10 rfl (sq (L_box (v:=.agg #[v1_0,I aC.bound]) (cs:=#[v1_0,I aC.bound]) rfl rfl rfl hst (fun g3 w4 hst=>aB rfl (ns (aI rfl (nq ?_))))))
 obtain ⟨x10,hx10,hF⟩:=bind_some hF
 refine W_region (mV v0 rfl (mI rfl ?_))
 obtain ⟨H12b,l13,s14,z15,k16⟩:=hst.borrow
 refine L_call rfl Try.call30 (ops2 rfl rfl) (l_szConstraintS_c (a:=aList) (left:=1048576) s14 (RP.mono _ h0 l13) hx10) ?_
 rintro _ w17 ⟨rfl,hst⟩
 have hst:=k16 hst c0
 refine aI rfl (nq (sq (mI rfl (L_lss rfl rfl rfl (nn (W_cond (b:=decide (x10 < 0)) rfl (fun hc18=>?_) (fun hc18=>?_)))))))
 have hF:=(ite_t hc18).symm.trans hF
 refine sq (aB rfl (nn (W_ret (retG1 (v1:=Bo true) Try.results10 rfl ?_))))
 obtain rfl:=so hF
 exact ⟨rfl,(Star.keepN 0 hst)⟩
 have hF:=(ite_f hc18).symm.trans hF
 refine W_skip (W_seq ?_)
 obtain ⟨x24,hx24,hF⟩:=bind_some hF
 refine W_region (L_lda (cs:=[v1_0,I aC.bound]) rfl Try.isAgg59 Try.sizeOf59 rfl (At.sub0 (Blk.at (Star.blkAt 0 hst rfl)) 0 2) rfl (mI rfl ?_))
 obtain ⟨H26b,l27,s28,z29,k30⟩:=hst.borrow
 refine L_call rfl Try.call41 (ops2 rfl rfl) (l_szConstraint_c (a:=aC) (left:=x10) s28 (RP.mono _ h1_0 l27) hx24) ?_
 rintro _ w31 ⟨rfl,hst⟩
 have hst:=k30 hst c0
 refine aI rfl (nq (sq (mI rfl (L_lss rfl rfl rfl (nn (W_cond (b:=decide (x24 < 0)) rfl (fun hc32=>?_) (fun hc32=>?_)))))))
 have hF:=(ite_t hc32).symm.trans hF
 refine sq (aB rfl (nn (W_ret (retG1 (v1:=Bo true) Try.results10 rfl ?_))))
 obtain rfl:=so hF
 exact ⟨rfl,(Star.keepN 0 hst)⟩
 have hF:=(ite_f hc32).symm.trans hF
 refine W_skip (W_seq ?_)
 obtain ⟨x38,hx38,hF⟩:=bind_some hF
 obtain ⟨x46,hx46,hF⟩:=bind_some hF
 obtain ⟨x56,hx56,hF⟩:=bind_some hF
 refine W_drawS 12 [isV (v0),anyF,isV (.agg #[v1_0,I aC.bound]),exA fun u_0=>isV (.agg #[u_0,I x46.bound]),isV (I aFuel),tup3 (isV (I x56.1)) (anyF) (anyF),tup3 (isV (I x56.1)) (anyF) (anyF),isV (I x56.1),anyF,anyF,isV (I x56.1),anyF] [box g3 59 #[v1_0,I aC.bound]] [.made 1 34 (fun v_=>oS 43 (oCon 112) v_ x38) none,.made 3 36 (fun v_=>oF 112 rTerm (aggC v_ 0) x46.terms) none,.made 5 38 (fun v_=>oF 4 RP.bool (tupC v_ 1) x56.2.1) (some 6),.made 5 38 (fun v_=>oS 93 (oStep 112) (tupC v_ 2) x56.2.2) (some 6),.made 6 32 (fun v_=>oF 4 RP.bool (tupC v_ 1) x56.2.1) (some 8),.made 6 32 (fun v_=>oS 93 (oStep 112) (tupC v_ 2) x56.2.2) (some 9),.made 8 40 (fun v_=>oF 4 RP.bool v_ x56.2.1) (some 11),.made 9 41 (fun v_=>oS 93 (oStep 112) v_ x56.2.2) none,.made 11 9 (fun v_=>oF 4 RP.bool v_ x56.2.1) none] ([]) [([],[]),([],[0]),([],[]),([],[1]),([],[]),([0,1],[0,1,2,3]),([2,3],[4,5]),([],[]),([4],[6]),([5],[7]),([],[]),([6],[8])] (S:=[(some 1,[34],none),(some 3,[36],none),(some 5,[38],some 6),(some 5,[38],some 6),(some 6,[32],some 8),(some 6,[32],some 9),(some 8,[40],some 11),(some 9,[41],none),(some 11,[9],none)]) Try_mix (by kernel_rfl) rfl (by kernel_rfl) (amF_cons (mono_V _) (amF_cons (mono_any) (amF_cons (mono_V _) (amF_cons (mono_exA fun _=>mono_V _) (amF_cons (mono_V _) (amF_cons (mono_tup3 (mono_V _) (mono_any) (mono_any)) (amF_cons (mono_tup3 (mono_V _) (mono_any) (mono_any)) (amF_cons (mono_V _) (amF_cons (mono_any) (amF_cons (mono_any) (amF_cons (mono_V _) (amF_cons (mono_any) amF_nil)))))))))))) hst ?_ (fun f w_ H60 hS60 hE60 hT60 hst=>?_)
 refine opsS_cons (fun f w_ _ _ s _ _ hst=>mF ((s 0 rfl).trans rfl) rfl (nO rfl rfl hst)) (opsS_cons ?_ ?_)
 intro f w_ H60 X60 hS60 hE60 hP60 hst
 obtain ⟨H85b,l86,s87,z88,k89⟩:=hst.borrow
 refine L_call rfl Try.call31 (ops1 (hP60 0 33 rfl rfl)) (l_toConstraintS_c (a:=aList) s87 (RP.mono _ h0 (Le.trans hE60 l86)) hx38) ?_
 rintro r90_0 w90 ⟨_,rfl,hst⟩
 have hst:=k89 hst (co closed_oCon c0)
 have hst:=hst.get 1 rfl
 exact L_nil ⟨rfl,_,_,rfl,Le.refl _,fun _ _=>trivial,hst⟩
 refine opsS_cons (fun f w_ _ _ s _ _ hst=>L_lda (cs:=[v1_0,I aC.bound]) rfl Try.isAgg59 Try.sizeOf59 ((s 4 rfl).trans rfl) (At.sub0 (Blk.at (Star.blkAt 0 hst rfl)) 0 2) rfl (nO rfl rfl hst)) (opsS_cons ?_ ?_)
 intro f w_ H60 X60 hS60 hE60 hP60 hst
 obtain ⟨H92b,l93,s94,z95,k96⟩:=hst.borrow
 refine L_call rfl Try.call42 (ops1 (hP60 2 35 rfl rfl)) (l_toConstraint_c (a:=aC) s94 (RP.mono _ h1_0 (Le.trans hE60 l93)) hx46) ?_
 rintro _ w97 ⟨r97_0,rfl,hst⟩
 have hst:=k96 hst (co closed_term c0)
 have hst:=hst.get 1 rfl
 exact L_nil ⟨rfl,_,_,rfl,Le.refl _,fun _ _=>⟨_,rfl⟩,hst⟩
 refine opsS_cons (fun f w_ _ _ s _ _ hst=>mF ((s 2 rfl).trans rfl) rfl (nO rfl rfl hst)) (opsS_cons ?_ ?_)
 intro f w_ H60 X60 hS60 hE60 hP60 hst
 have hst : Star H60 w_ (box g3 59 #[v1_0,I aC.bound] :: oS 43 (oCon 112) (f 34) x38 :: own (OR.ownS 112 (OR.frz rTerm)) [(aggC (f 36) 0)] x46.terms :: X60):=hst
 obtain ⟨u100_0,hv100⟩:=(hP60 3 36 rfl rfl)
 have hren : Star H60 w_ (box g3 59 #[v1_0,I aC.bound] :: oS 43 (oCon 112) (f 34) x38 :: own (OR.ownS 112 (OR.frz rTerm)) [(aggC (f 36) 0)] x46.terms :: X60):=hst
 rw [hv100] at hren
 have hst : Star H60 w_ (box g3 59 #[v1_0,I aC.bound] :: oS 43 (oCon 112) (f 34) x38 :: oF 112 rTerm u100_0 x46.terms :: X60):=hren
 obtain ⟨H101b,l102,s103,z104,k105⟩:=hst.borrow
 have hb106 : (rS 43 (rCon 112)).rel H101b [(f 34)] x38:=fz_own 1 z104 rfl
 have hb107 : (rS 112 rTerm).rel H101b [u100_0] x46.terms:=fz_own 2 z104 rfl
 refine L_call rfl Try.call29 (ops3 rfl hv100 (hP60 4 37 rfl rfl)) (s_ProveConstraint_c (list:=x38) (c:=x46) (fuel:=aFuel) s103 hb106 hb107 hx56) ?_
 rintro _ w108 ⟨r108_0,r108_1,rfl,hst⟩
 have hst:=k105 hst (co closed_bool (co closed_oStep c0))
 have hst:=hst.gets [1,1,4,4,4] rfl
 have hst : Star H60 w108 (box g3 59 #[v1_0,I aC.bound] :: oS 43 (oCon 112) (f 34) x38 :: own (OR.ownS 112 (OR.frz rTerm)) [(aggC (f 36) 0)] x46.terms :: oF 4 RP.bool r108_0 x56.2.1 :: oS 93 (oStep 112) r108_1 x56.2.2 :: X60):=by rw [hv100]; exact hst
 exact L_nil ⟨rfl,_,_,rfl,Le.refl _,fun _ _=>⟨_,_,_,rfl,rfl,trivial,trivial⟩,hst⟩
 refine opsS_cons ?_ ?_
 intro f w_ H60 X60 hS60 hE60 hP60 hst
 have hst : Star H60 w_ (box g3 59 #[v1_0,I aC.bound] :: own (OR.ownS 4 (OR.frz RP.bool)) [(tupC (f 38) 1)] x56.2.1 :: own (OR.ownS 93 (oStep 112)) [(tupC (f 38) 2)] x56.2.2 :: X60):=hst
 obtain ⟨a111_0,a111_1,a111_2,hv111,ht111_0,ht111_1,ht111_2⟩:=(hP60 5 38 rfl rfl)
 obtain rfl:=ht111_0
 have hren : Star H60 w_ (box g3 59 #[v1_0,I aC.bound] :: own (OR.ownS 4 (OR.frz RP.bool)) [(tupC (f 38) 1)] x56.2.1 :: own (OR.ownS 93 (oStep 112)) [(tupC (f 38) 2)] x56.2.2 :: X60):=hst
 rw [hv111] at hren
 have hst : Star H60 w_ (box g3 59 #[v1_0,I aC.bound] :: oF 4 RP.bool a111_1 x56.2.1 :: oS 93 (oStep 112) a111_2 x56.2.2 :: X60):=hren
 refine mF hv111 rfl (L_nil ⟨rfl,_,_,rfl,Le.refl _,fun _ _=>⟨_,_,_,rfl,rfl,trivial,trivial⟩,hst⟩)
 refine opsS_cons ?_ ?_
 intro f w_ H60 X60 hS60 hE60 hP60 hst
 obtain ⟨a112_0,a112_1,a112_2,hv112,ht112_0,ht112_1,ht112_2⟩:=(hP60 6 32 rfl rfl)
 obtain rfl:=ht112_0
 refine L_ex (v:=I x56.1) rfl hv112 rfl (L_nil ⟨rfl,_,_,rfl,Le.refl _,fun _ _=>rfl,hst⟩)
 refine opsS_cons ?_ ?_
 intro f w_ H60 X60 hS60 hE60 hP60 hst
 have hst : Star H60 w_ (box g3 59 #[v1_0,I aC.bound] :: own (OR.ownS 4 (OR.frz RP.bool)) [(tupC (f 32) 1)] x56.2.1 :: X60):=hst
 obtain ⟨a113_0,a113_1,a113_2,hv113,ht113_0,ht113_1,ht113_2⟩:=(hP60 6 32 rfl rfl)
 obtain rfl:=ht113_0
 have hren : Star H60 w_ (box g3 59 #[v1_0,I aC.bound] :: own (OR.ownS 4 (OR.frz RP.bool)) [(tupC (f 32) 1)] x56.2.1 :: X60):=hst
 rw [hv113] at hren
 have hst : Star H60 w_ (box g3 59 #[v1_0,I aC.bound] :: oF 4 RP.bool a113_1 x56.2.1 :: X60):=hren
 refine L_ex (v:=a113_1) rfl hv113 rfl (L_nil ⟨rfl,_,_,rfl,Le.refl _,fun _ _=>trivial,hst⟩)
 refine opsS_cons ?_ ?_
 intro f w_ H60 X60 hS60 hE60 hP60 hst
 have hst : Star H60 w_ (box g3 59 #[v1_0,I aC.bound] :: own (OR.ownS 93 (oStep 112)) [(tupC (f 32) 2)] x56.2.2 :: X60):=hst
 obtain ⟨a114_0,a114_1,a114_2,hv114,ht114_0,ht114_1,ht114_2⟩:=(hP60 6 32 rfl rfl)
 obtain rfl:=ht114_0
 have hren : Star H60 w_ (box g3 59 #[v1_0,I aC.bound] :: own (OR.ownS 93 (oStep 112)) [(tupC (f 32) 2)] x56.2.2 :: X60):=hst
 rw [hv114] at hren
 have hst : Star H60 w_ (box g3 59 #[v1_0,I aC.bound] :: oS 93 (oStep 112) a114_2 x56.2.2 :: X60):=hren
 refine L_ex (v:=a114_2) rfl hv114 rfl (L_nil ⟨rfl,_,_,rfl,Le.refl _,fun _ _=>trivial,hst⟩)
 refine opsS_cons (fun f w_ _ _ _ _ p hst=>aF (p 7 39 rfl rfl) rfl (nO rfl rfl hst)) (opsS_cons ?_ ?_)
 intro f w_ H60 X60 hS60 hE60 hP60 hst
 have hst : Star H60 w_ (box g3 59 #[v1_0,I aC.bound] :: oF 4 RP.bool (f 40) x56.2.1 :: X60):=hst
 refine aV (f 40) rfl (L_nil ⟨rfl,_,_,rfl,Le.refl _,fun _ _=>trivial,hst⟩)
 exact opsS_nil
 have hst : Star H60 w_ ([box g3 59 #[v1_0,I aC.bound],oS 43 (oCon 112) (f 34) x38,own (OR.ownS 112 (OR.frz rTerm)) [(aggC (f 36) 0)] x46.terms,oS 93 (oStep 112) (f 41) x56.2.2,oF 4 RP.bool (f 9) x56.2.1]):=hst
 refine aV (f 41) rfl (L_nil (W_seq ?_))
 obtain ⟨x123,hx123,hF⟩:=bind_some hF
 refine W_region (mF ((hS60 0 rfl).trans rfl) rfl ?_)
 obtain ⟨H126b,l127,s128,z129,k130⟩:=hst.borrow
 refine L_call rfl Try.call31 (ops1 rfl) (l_toConstraintS_c (a:=aList) s128 (RP.mono _ h0 (Le.trans hE60 l127)) hx123) ?_
 rintro r131_0 w131 ⟨_,rfl,hst⟩
 have hst:=k130 hst (co closed_oCon c0)
 refine aV r131_0 rfl (nq ?_)
 obtain ⟨x138,hx138,hF⟩:=bind_some hF
 refine W_region (L_lda (cs:=[v1_0,I aC.bound]) rfl Try.isAgg59 Try.sizeOf59 ((hS60 4 rfl).trans rfl) (At.sub0 (Blk.at (Star.blkAt 1 hst rfl)) 0 2) rfl ?_)
 obtain ⟨H144b,l145,s146,z147,k148⟩:=hst.borrow
 refine L_call rfl Try.call42 (ops1 rfl) (l_toConstraint_c (a:=aC) s146 (RP.mono _ h1_0 (Le.trans hE60 l145)) hx138) ?_
 rintro _ w149 ⟨r149_0,rfl,hst⟩
 have hst:=k148 hst (co closed_term c0)
 refine L_al (cs:=#[S0,I 0]) rfl Try.zeroValue43 rfl hst (fun g151 w152 hst=>L_staB (vs:=#[r149_0,I x138.bound]) (cs2:=#[r149_0,I x138.bound]) 0 rfl Try.sizeOf43 rfl rfl rfl (ones_cons (one_len (Star.len 1 hst rfl)) (ones_cons rfl ones_nil)) hst rfl (by show 0 + 2≤2; decide) rfl (fun w153 hst=>nq ?_))
 obtain ⟨x161,hx161,hF⟩:=bind_some hF
 refine W_region (mV r131_0 rfl (L_lda (cs:=[r149_0,I x138.bound]) rfl Try.isAgg43 Try.sizeOf43 rfl (At.sub0 (Blk.at (Star.blkAt 0 hst rfl)) 0 2) rfl (mF ((hS60 2 rfl).trans rfl) rfl ?_)))
 obtain ⟨H165b,l166,s167,z168,k169⟩:=hst.borrow
 have hb170 : (rS 43 (rCon 112)).rel H165b [r131_0] x123:=fz_own 2 z168 rfl
 have hb171 : (rS 112 rTerm).rel H165b [r149_0] x138.terms:=fz_own 1 z168 rfl
 refine L_call rfl Try.call28 (ops3 rfl rfl rfl) (i_ProveConstraint_c (list:=x123) (c:=x138) (fuel:=aFuel) s167 hb170 hb171 hx161) ?_
 rintro _ w172 ⟨r172_0,r172_1,rfl,hst⟩
 have hst:=k169 hst (co closed_bool (co closed_oStep c0))
 refine mV (.tuple #[I x161.1,r172_0,r172_1]) rfl (L_ex (v:=I x161.1) rfl rfl rfl (L_ex (v:=r172_0) rfl rfl rfl (L_ex (v:=r172_1) rfl rfl rfl (aI rfl (aV r172_0 rfl (aV r172_1 rfl (nq (W_seq ?_))))))))
 obtain ⟨b184,hb184,hF⟩:=bind_some hF
 obtain ⟨b194,hb194,hF⟩:=bind_some hF
 obtain ⟨R195,hR195⟩:=exR fun f w_=>f 0 = v0∧f 2 = I aFuel∧f 4 = Pt g3∧f 8 = I x56.1∧f 9 = (f 9)∧f 10 = (f 41)∧f 11 = r131_0∧f 12 = Pt g151∧f 13 = I x161.1∧f 14 = r172_0∧f 15 = r172_1∧f 68 = Bo b194∧Star H60 w_ ([oF 4 RP.bool (f 9) x56.2.1,oS 93 (oStep 112) (f 41) x56.2.2,oS 43 (oCon 112) r131_0 x123,oF 4 RP.bool r172_0 x161.2.1,oS 93 (oStep 112) r172_1 x161.2.2,oF 112 rTerm r149_0 x138.terms,box g151 43 #[r149_0,I x138.bound],box g3 59 #[v1_0,I aC.bound]])
 refine W_join R195 ?_ ?_
 refine W_region (mI rfl (mF (hT60 10 8 rfl rfl) rfl (L_neq rfl rfl rfl (mB rfl (L_split (d:=57) (b:=(x161.1 != x56.1)) rfl (fun hc196=>?_) (fun hc196=>?_))))))
 rw [ite_t hc196] at hb184
 refine ps rfl (ps rfl (ps rfl (ps rfl (L_pick (v:=Bo b184) rfl rfl (congrArg Value.bool (so hb184)) (mB rfl (L_split (d:=63) (b:=b184) rfl (fun hc197=>?_) (fun hc197=>?_)))))))
 rw [ite_t hc197] at hb194
 refine ps rfl (ps rfl (ps rfl (ps rfl (L_pick (v:=Bo b194) rfl rfl (congrArg Value.bool (so hb194)) (nn ?_)))))
 have hst:=hst.gets [5,3,4,4,4,5,8,9] rfl
 exact rj hR195 ⟨((hS60 0 rfl).trans rfl),((hS60 2 rfl).trans rfl),((hS60 4 rfl).trans rfl),(hT60 10 8 rfl rfl),rfl,rfl,rfl,rfl,rfl,rfl,rfl,rfl,(Star.keepN 8 hst)⟩
 rw [ite_f hc197] at hb194
 obtain ⟨x192,hx192,hb194⟩:=bind_some hb194
 refine mV r172_1 rfl (mV (f 41) rfl ?_)
 obtain ⟨H198b,l199,s200,z201,k202⟩:=hst.borrow
 have hb203 : (rS 93 (rStep 112)).rel H198b [r172_1] x161.2.2:=fz_own 1 z201 rfl
 have hb204 : (rS 93 (rStep 112)).rel H198b [(f 41)] x56.2.2:=fz_own 8 z201 rfl
 refine L_call rfl Try.call33 (ops2 rfl rfl) (l_eqStepS_c (a:=x161.2.2) (b:=x56.2.2) s200 hb203 hb204 hx192) ?_
 rintro _ w205 ⟨rfl,hst⟩
 have hst:=k202 hst c0
 refine L_not_ rfl rfl (L_pick (v:=Bo b194) rfl rfl (congrArg Value.bool (so hb194)) (nn ?_))
 have hst:=hst.gets [5,3,4,4,4,5,8,9] rfl
 exact rj hR195 ⟨((hS60 0 rfl).trans rfl),((hS60 2 rfl).trans rfl),((hS60 4 rfl).trans rfl),(hT60 10 8 rfl rfl),rfl,rfl,rfl,rfl,rfl,rfl,rfl,rfl,(Star.keepN 8 hst)⟩
 rw [ite_f hc196] at hb184
 obtain ⟨x182,hx182,hb184⟩:=bind_some hb184
 refine mV r172_0 rfl (mV (f 9) rfl ?_)
 obtain ⟨H206b,l207,s208,z209,k210⟩:=hst.borrow
 have hb211 : (rS 4 RP.bool).rel H206b [r172_0] x161.2.1:=fz_own 0 z209 rfl
 have hb212 : (rS 4 RP.bool).rel H206b [(f 9)] x56.2.1:=fz_own 9 z209 rfl
 refine L_call rfl Try.call32 (ops2 rfl rfl) (l_eqBoolS_c (a:=x161.2.1) (b:=x56.2.1) s208 hb211 hb212 hx182) ?_
 rintro _ w213 ⟨rfl,hst⟩
 have hst:=k210 hst c0
 refine L_not_ rfl rfl (L_pick (v:=Bo b184) rfl rfl (congrArg Value.bool (so hb184)) (mB rfl (L_split (d:=63) (b:=b184) rfl (fun hc214=>?_) (fun hc214=>?_))))
 rw [ite_t hc214] at hb194
 refine ps rfl (ps rfl (ps rfl (ps rfl (L_pick (v:=Bo b194) rfl rfl (congrArg Value.bool (so hb194)) (nn ?_)))))
 have hst:=hst.gets [5,3,4,4,4,5,8,9] rfl
 exact rj hR195 ⟨((hS60 0 rfl).trans rfl),((hS60 2 rfl).trans rfl),((hS60 4 rfl).trans rfl),(hT60 10 8 rfl rfl),rfl,rfl,rfl,rfl,rfl,rfl,rfl,rfl,(Star.keepN 8 hst)⟩
 rw [ite_f hc214] at hb194
 obtain ⟨x192,hx192,hb194⟩:=bind_some hb194
 refine mV r172_1 rfl (mV (f 41) rfl ?_)
 obtain ⟨H215b,l216,s217,z218,k219⟩:=hst.borrow
 have hb220 : (rS 93 (rStep 112)).rel H215b [r172_1] x161.2.2:=fz_own 1 z218 rfl
 have hb221 : (rS 93 (rStep 112)).rel H215b [(f 41)] x56.2.2:=fz_own 8 z218 rfl
 refine L_call rfl Try.call33 (ops2 rfl rfl) (l_eqStepS_c (a:=x161.2.2) (b:=x56.2.2) s217 hb220 hb221 hx192) ?_
 rintro _ w222 ⟨rfl,hst⟩
 have hst:=k219 hst c0
 refine L_not_ rfl rfl (L_pick (v:=Bo b194) rfl rfl (congrArg Value.bool (so hb194)) (nn ?_))
 have hst:=hst.gets [5,3,4,4,4,5,8,9] rfl
 exact rj hR195 ⟨((hS60 0 rfl).trans rfl),((hS60 2 rfl).trans rfl),((hS60 4 rfl).trans rfl),(hT60 10 8 rfl rfl),rfl,rfl,rfl,rfl,rfl,rfl,rfl,rfl,(Star.keepN 8 hst)⟩
 intro f w_ hR
 obtain ⟨sf0,sf2,sf4,sf8,sf9,sf10,sf11,sf12,sf13,sf14,sf15,sf68,hst⟩:=rk hR195 hR
 refine W_cond (b:=b194) sf68 (fun hc223=>?_) (fun hc223=>?_)
 have hF:=(ite_t hc223).symm.trans hF
 refine sq (aB rfl (nn (W_ret (retG1 (v1:=Bo false) Try.results10 rfl ?_))))
 obtain rfl:=so hF
 exact ⟨rfl,(Star.down (Star.keepN 0 hst) hE60 c0)⟩
 have hF:=(ite_f hc223).symm.trans hF
 refine W_skip (W_seq (W_seq ?_))
 obtain ⟨x229,hx229,hF⟩:=bind_some hF
 obtain ⟨x239,hx239,hF⟩:=bind_some hF
 refine W_region (mF sf11 rfl (mF sf0 rfl ?_))
 obtain ⟨H241b,l242,s243,z244,k245⟩:=hst.borrow
 refine L_call rfl Try.call31 (ops1 rfl) (l_toConstraintS_c (a:=aList) s243 (RP.mono _ h0 (Le.trans hE60 l242)) hx229) ?_
 rintro r246_0 w246 ⟨_,rfl,hst⟩
 have hst:=k245 hst (co closed_oCon c0)
 obtain ⟨H248b,l249,s250,z251,k252⟩:=hst.borrow
 have hb253 : (rS 43 (rCon 112)).rel H248b [r131_0] x123:=fz_own 3 z251 rfl
 have hb254 : (rS 43 (rCon 112)).rel H248b [r246_0] x229:=fz_own 0 z251 rfl
 refine L_call rfl Try.call34 (ops2 rfl rfl) (l_eqConstraintS_c (a:=x123) (b:=x229) s250 hb253 hb254 hx239) ?_
 rintro _ w255 ⟨rfl,hst⟩
 have hst:=k252 hst c0
 refine L_not_ rfl rfl (nn (W_cond (b:=(!x239)) rfl (fun hc256=>?_) (fun hc256=>?_)))
 have hF:=(ite_t hc256).symm.trans hF
 refine sq (aB rfl (nn (W_ret (retG1 (v1:=Bo false) Try.results10 rfl ?_))))
 obtain rfl:=so hF
 exact ⟨rfl,(Star.down (Star.keepN 0 hst) hE60 c0)⟩
 have hF:=(ite_f hc256).symm.trans hF
 refine W_skip (W_seq (W_seq ?_))
 obtain ⟨x262,hx262,hF⟩:=bind_some hF
 obtain ⟨x272,hx272,hF⟩:=bind_some hF
 rename Fr=>f_274
 have hst:=Star.drop 0 hst rfl
 refine W_drawS 3 [isV (.agg #[r149_0,I x138.bound]),isV (.agg #[v1_0,I aC.bound]),exA fun u_0=>isV (.agg #[u_0,I x262.bound])] [oF 4 RP.bool (f_274 9) x56.2.1,oS 93 (oStep 112) (f_274 41) x56.2.2,oS 43 (oCon 112) r131_0 x123,oF 4 RP.bool r172_0 x161.2.1,oS 93 (oStep 112) r172_1 x161.2.2,oF 112 rTerm r149_0 x138.terms,box g151 43 #[r149_0,I x138.bound],box g3 59 #[v1_0,I aC.bound]] [.made 2 76 (fun v_=>oF 112 rTerm (aggC v_ 0) x262.terms) none] ([]) [([],[]),([],[]),([],[0])] (S:=[(some 2,[76],none)]) Try_mix (by kernel_rfl) rfl (by kernel_rfl) (amF_cons (mono_V _) (amF_cons (mono_V _) (amF_cons (mono_exA fun _=>mono_V _) amF_nil))) hst ?_ (fun f w_ H274 hS274 hE274 hT274 hst=>?_)
 refine opsS_cons (fun f w_ _ _ s _ _ hst=>L_lda (cs:=[r149_0,I x138.bound]) rfl Try.isAgg43 Try.sizeOf43 ((s 12 rfl).trans sf12) (At.sub0 (Blk.at (Star.blkAt 6 hst rfl)) 0 2) rfl (nO rfl rfl hst)) (opsS_cons (fun f w_ _ _ s _ _ hst=>L_lda (cs:=[v1_0,I aC.bound]) rfl Try.isAgg59 Try.sizeOf59 ((s 4 rfl).trans sf4) (At.sub0 (Blk.at (Star.blkAt 7 hst rfl)) 0 2) rfl (nO rfl rfl hst)) (opsS_cons ?_ ?_))
 intro f w_ H274 X274 hS274 hE274 hP274 hst
 obtain ⟨H282b,l283,s284,z285,k286⟩:=hst.borrow
 refine L_call rfl Try.call42 (ops1 (hP274 1 75 rfl rfl)) (l_toConstraint_c (a:=aC) s284 (RP.mono _ h1_0 (Le.trans (Le.trans hE60 hE274) l283)) hx262) ?_
 rintro _ w287 ⟨r287_0,rfl,hst⟩
 have hst:=k286 hst (co closed_term c0)
 have hst:=hst.gets [8,8,8,8,8,8,8,8] rfl
 exact L_nil ⟨rfl,_,_,rfl,Le.refl _,fun _ _=>⟨_,rfl⟩,hst⟩
 exact opsS_nil
 have hst : Star H274 w_ ([oF 4 RP.bool (f_274 9) x56.2.1,oS 93 (oStep 112) (f_274 41) x56.2.2,oS 43 (oCon 112) r131_0 x123,oF 4 RP.bool r172_0 x161.2.1,oS 93 (oStep 112) r172_1 x161.2.2,oF 112 rTerm r149_0 x138.terms,box g151 43 #[r149_0,I x138.bound],box g3 59 #[v1_0,I aC.bound],own (OR.ownS 112 (OR.frz rTerm)) [(aggC (f 76) 0)] x262.terms]):=hst
 obtain ⟨u289_0,hv289⟩:=(hT274 2 76 rfl rfl)
 have hren : Star H274 w_ ([oF 4 RP.bool (f_274 9) x56.2.1,oS 93 (oStep 112) (f_274 41) x56.2.2,oS 43 (oCon 112) r131_0 x123,oF 4 RP.bool r172_0 x161.2.1,oS 93 (oStep 112) r172_1 x161.2.2,oF 112 rTerm r149_0 x138.terms,box g151 43 #[r149_0,I x138.bound],box g3 59 #[v1_0,I aC.bound],own (OR.ownS 112 (OR.frz rTerm)) [(aggC (f 76) 0)] x262.terms]):=hst
 rw [hv289] at hren
 have hst : Star H274 w_ ([oF 4 RP.bool (f_274 9) x56.2.1,oS 93 (oStep 112) (f_274 41) x56.2.2,oS 43 (oCon 112) r131_0 x123,oF 4 RP.bool r172_0 x161.2.1,oS 93 (oStep 112) r172_1 x161.2.2,oF 112 rTerm r149_0 x138.terms,box g151 43 #[r149_0,I x138.bound],box g3 59 #[v1_0,I aC.bound],oF 112 rTerm u289_0 x262.terms]):=hren
 obtain ⟨H290b,l291,s292,z293,k294⟩:=hst.borrow
 have hb295 : (rS 112 rTerm).rel H290b [r149_0] x138.terms:=fz_own 5 z293 rfl
 have hb296 : (rS 112 rTerm).rel H290b [u289_0] x262.terms:=fz_own 8 z293 rfl
 refine L_call rfl Try.call43 (ops2 (hT274 0 74 rfl rfl) hv289) (l_eqConstraint_c (a:=x138) (b:=x262) s292 hb295 hb296 hx272) ?_
 rintro _ w297 ⟨rfl,hst⟩
 have hst:=k294 hst c0
 refine L_not_ rfl rfl (nn (W_cond (b:=(!x272)) rfl (fun hc298=>?_) (fun hc298=>?_)))
 have hF:=(ite_t hc298).symm.trans hF
 refine sq (aB rfl (nn (W_ret (retG1 (v1:=Bo false) Try.results10 rfl ?_))))
 obtain rfl:=so hF
 exact ⟨rfl,(Star.down (Star.keepN 0 hst) (Le.trans hE60 hE274) c0)⟩
 have hF:=(ite_f hc298).symm.trans hF
 refine W_skip (sq (aI rfl (L_nil (W_seq ?_))))
 obtain ⟨x304,hx304,hF⟩:=bind_some hF
 refine W_region (mF ((hS274 11 rfl).trans sf11) rfl (mI rfl ?_))
 have hst:=hst.get 2 rfl
 obtain ⟨H306b,l307,s308,z309,k310⟩:=hst.lend [_]
 refine L_call rfl Try.call35 (ops2 rfl rfl) (l_markConstraintS_c (a:=x123) (k:=1) s308 hx304) ?_
 rintro _ w311 ⟨rfl,hst⟩
 have hst:=k310 hst (co closed_oCon c0)
 refine aI rfl (nq ?_)
 obtain ⟨x317,hx317,hF⟩:=bind_some hF
 refine W_region (L_lda (cs:=[r149_0,I x138.bound]) rfl Try.isAgg43 Try.sizeOf43 ((hS274 12 rfl).trans sf12) (At.sub0 (Blk.at (Star.blkAt 6 hst rfl)) 0 2) rfl (mI rfl ?_))
 have hst:=hst.get 5 rfl
 obtain ⟨H319b,l320,s321,z322,k323⟩:=hst.lend [_]
 refine L_call rfl Try.call44 (ops2 rfl rfl) (l_markConstraint_c (a:=x138) (k:=x304.1) s321 hx317) ?_
 rintro _ w324 ⟨rfl,hst⟩
 have hst:=k323 hst (co closed_term c0)
 refine aI rfl (nq (W_seq ?_))
 obtain ⟨b334,hb334,hF⟩:=bind_some hF
 obtain ⟨b344,hb344,hF⟩:=bind_some hF
 obtain ⟨R345,hR345⟩:=exR fun f w_=>f 0 = v0∧f 2 = I aFuel∧f 4 = Pt g3∧f 8 = I x56.1∧f 9 = (f_274 9)∧f 10 = (f_274 41)∧f 14 = r172_0∧f 15 = r172_1∧f 103 = Bo b344∧Star H274 w_ ([oF 4 RP.bool (f_274 9) x56.2.1,oS 93 (oStep 112) (f_274 41) x56.2.2,oF 4 RP.bool r172_0 x161.2.1,oS 93 (oStep 112) r172_1 x161.2.2,box g3 59 #[v1_0,I aC.bound]])
 refine W_join R345 ?_ ?_
 refine W_region (mI rfl (L_lss rfl rfl rfl (mB rfl (L_split (d:=87) (b:=decide (x317.1 < 0)) rfl (fun hc346=>?_) (fun hc346=>?_)))))
 refine ps rfl (ps rfl (ps rfl (L_pick (v:=Bo ((decide (x317.1 < 0)) || (x161.1 != x56.1))) rfl rfl (or_t hc346) (mB rfl (L_split (d:=92) (b:=((decide (x317.1 < 0)) || (x161.1 != x56.1))) rfl (fun hc347=>?_) (fun hc347=>?_))))))
 rw [ite_t hc347] at hb334
 refine ps rfl (ps rfl (ps rfl (ps rfl (L_pick (v:=Bo b334) rfl rfl (congrArg Value.bool (so hb334)) (mB rfl (L_split (d:=98) (b:=b334) rfl (fun hc348=>?_) (fun hc348=>?_)))))))
 rw [ite_t hc348] at hb344
 refine ps rfl (ps rfl (ps rfl (ps rfl (L_pick (v:=Bo b344) rfl rfl (congrArg Value.bool (so hb344)) (nn ?_)))))
 have hst:=hst.gets [7,6,6,6,6] rfl
 exact rj hR345 ⟨((hS274 0 rfl).trans sf0),((hS274 2 rfl).trans sf2),((hS274 4 rfl).trans sf4),((hS274 8 rfl).trans sf8),((hS274 9 rfl).trans sf9),((hS274 10 rfl).trans sf10),((hS274 14 rfl).trans sf14),((hS274 15 rfl).trans sf15),rfl,(Star.keepN 5 hst)⟩
 rw [ite_f hc348] at hb344
 obtain ⟨x342,hx342,hb344⟩:=bind_some hb344
 refine mF ((hS274 15 rfl).trans sf15) rfl (mF ((hS274 10 rfl).trans sf10) rfl ?_)
 obtain ⟨H349b,l350,s351,z352,k353⟩:=hst.borrow
 have hb354 : (rS 93 (rStep 112)).rel H349b [r172_1] x161.2.2:=fz_own 5 z352 rfl
 have hb355 : (rS 93 (rStep 112)).rel H349b [(f_274 41)] x56.2.2:=fz_own 3 z352 rfl
 refine L_call rfl Try.call33 (ops2 rfl rfl) (l_eqStepS_c (a:=x161.2.2) (b:=x56.2.2) s351 hb354 hb355 hx342) ?_
 rintro _ w356 ⟨rfl,hst⟩
 have hst:=k353 hst c0
 refine L_not_ rfl rfl (L_pick (v:=Bo b344) rfl rfl (congrArg Value.bool (so hb344)) (nn ?_))
 have hst:=hst.gets [7,6,6,6,6] rfl
 exact rj hR345 ⟨((hS274 0 rfl).trans sf0),((hS274 2 rfl).trans sf2),((hS274 4 rfl).trans sf4),((hS274 8 rfl).trans sf8),((hS274 9 rfl).trans sf9),((hS274 10 rfl).trans sf10),((hS274 14 rfl).trans sf14),((hS274 15 rfl).trans sf15),rfl,(Star.keepN 5 hst)⟩
 rw [ite_f hc347] at hb334
 obtain ⟨x332,hx332,hb334⟩:=bind_some hb334
 refine mF ((hS274 14 rfl).trans sf14) rfl (mF ((hS274 9 rfl).trans sf9) rfl ?_)
 obtain ⟨H357b,l358,s359,z360,k361⟩:=hst.borrow
 have hb362 : (rS 4 RP.bool).rel H357b [r172_0] x161.2.1:=fz_own 4 z360 rfl
 have hb363 : (rS 4 RP.bool).rel H357b [(f_274 9)] x56.2.1:=fz_own 2 z360 rfl
 refine L_call rfl Try.call32 (ops2 rfl rfl) (l_eqBoolS_c (a:=x161.2.1) (b:=x56.2.1) s359 hb362 hb363 hx332) ?_
 rintro _ w364 ⟨rfl,hst⟩
 have hst:=k361 hst c0
 refine L_not_ rfl rfl (L_pick (v:=Bo b334) rfl rfl (congrArg Value.bool (so hb334)) (mB rfl (L_split (d:=98) (b:=b334) rfl (fun hc365=>?_) (fun hc365=>?_))))
 rw [ite_t hc365] at hb344
 refine ps rfl (ps rfl (ps rfl (ps rfl (L_pick (v:=Bo b344) rfl rfl (congrArg Value.bool (so hb344)) (nn ?_)))))
 have hst:=hst.gets [7,6,6,6,6] rfl
 exact rj hR345 ⟨((hS274 0 rfl).trans sf0),((hS274 2 rfl).trans sf2),((hS274 4 rfl).trans sf4),((hS274 8 rfl).trans sf8),((hS274 9 rfl).trans sf9),((hS274 10 rfl).trans sf10),((hS274 14 rfl).trans sf14),((hS274 15 rfl).trans sf15),rfl,(Star.keepN 5 hst)⟩
 rw [ite_f hc365] at hb344
 obtain ⟨x342,hx342,hb344⟩:=bind_some hb344
 refine mF ((hS274 15 rfl).trans sf15) rfl (mF ((hS274 10 rfl).trans sf10) rfl ?_)
 obtain ⟨H366b,l367,s368,z369,k370⟩:=hst.borrow
 have hb371 : (rS 93 (rStep 112)).rel H366b [r172_1] x161.2.2:=fz_own 5 z369 rfl
 have hb372 : (rS 93 (rStep 112)).rel H366b [(f_274 41)] x56.2.2:=fz_own 3 z369 rfl
 refine L_call rfl Try.call33 (ops2 rfl rfl) (l_eqStepS_c (a:=x161.2.2) (b:=x56.2.2) s368 hb371 hb372 hx342) ?_
 rintro _ w373 ⟨rfl,hst⟩
 have hst:=k370 hst c0
 refine L_not_ rfl rfl (L_pick (v:=Bo b344) rfl rfl (congrArg Value.bool (so hb344)) (nn ?_))
 have hst:=hst.gets [7,6,6,6,6] rfl
 exact rj hR345 ⟨((hS274 0 rfl).trans sf0),((hS274 2 rfl).trans sf2),((hS274 4 rfl).trans sf4),((hS274 8 rfl).trans sf8),((hS274 9 rfl).trans sf9),((hS274 10 rfl).trans sf10),((hS274 14 rfl).trans sf14),((hS274 15 rfl).trans sf15),rfl,(Star.keepN 5 hst)⟩
 refine mF ((hS274 13 rfl).trans sf13) rfl (mF ((hS274 8 rfl).trans sf8) rfl (L_neq rfl rfl rfl (L_pick (v:=Bo ((decide (x317.1 < 0)) || (x161.1 != x56.1))) rfl rfl (or_f hc346 rfl) (mB rfl (L_split (d:=92) (b:=((decide (x317.1 < 0)) || (x161.1 != x56.1))) rfl (fun hc374=>?_) (fun hc374=>?_))))))
 rw [ite_t hc374] at hb334
 refine ps rfl (ps rfl (ps rfl (ps rfl (L_pick (v:=Bo b334) rfl rfl (congrArg Value.bool (so hb334)) (mB rfl (L_split (d:=98) (b:=b334) rfl (fun hc375=>?_) (fun hc375=>?_)))))))
 rw [ite_t hc375] at hb344
 refine ps rfl (ps rfl (ps rfl (ps rfl (L_pick (v:=Bo b344) rfl rfl (congrArg Value.bool (so hb344)) (nn ?_)))))
 have hst:=hst.gets [7,6,6,6,6] rfl
 exact rj hR345 ⟨((hS274 0 rfl).trans sf0),((hS274 2 rfl).trans sf2),((hS274 4 rfl).trans sf4),((hS274 8 rfl).trans sf8),((hS274 9 rfl).trans sf9),((hS274 10 rfl).trans sf10),((hS274 14 rfl).trans sf14),((hS274 15 rfl).trans sf15),rfl,(Star.keepN 5 hst)⟩
 rw [ite_f hc375] at hb344
 obtain ⟨x342,hx342,hb344⟩:=bind_some hb344
 refine mF ((hS274 15 rfl).trans sf15) rfl (mF ((hS274 10 rfl).trans sf10) rfl ?_)
 obtain ⟨H376b,l377,s378,z379,k380⟩:=hst.borrow
 have hb381 : (rS 93 (rStep 112)).rel H376b [r172_1] x161.2.2:=fz_own 5 z379 rfl
 have hb382 : (rS 93 (rStep 112)).rel H376b [(f_274 41)] x56.2.2:=fz_own 3 z379 rfl
 refine L_call rfl Try.call33 (ops2 rfl rfl) (l_eqStepS_c (a:=x161.2.2) (b:=x56.2.2) s378 hb381 hb382 hx342) ?_
 rintro _ w383 ⟨rfl,hst⟩
 have hst:=k380 hst c0
 refine L_not_ rfl rfl (L_pick (v:=Bo b344) rfl rfl (congrArg Value.bool (so hb344)) (nn ?_))
 have hst:=hst.gets [7,6,6,6,6] rfl
 exact rj hR345 ⟨((hS274 0 rfl).trans sf0),((hS274 2 rfl).trans sf2),((hS274 4 rfl).trans sf4),((hS274 8 rfl).trans sf8),((hS274 9 rfl).trans sf9),((hS274 10 rfl).trans sf10),((hS274 14 rfl).trans sf14),((hS274 15 rfl).trans sf15),rfl,(Star.keepN 5 hst)⟩
 rw [ite_f hc374] at hb334
 obtain ⟨x332,hx332,hb334⟩:=bind_some hb334
 refine mF ((hS274 14 rfl).trans sf14) rfl (mF ((hS274 9 rfl).trans sf9) rfl ?_)
 obtain ⟨H384b,l385,s386,z387,k388⟩:=hst.borrow
 have hb389 : (rS 4 RP.bool).rel H384b [r172_0] x161.2.1:=fz_own 4 z387 rfl
 have hb390 : (rS 4 RP.bool).rel H384b [(f_274 9)] x56.2.1:=fz_own 2 z387 rfl
 refine L_call rfl Try.call32 (ops2 rfl rfl) (l_eqBoolS_c (a:=x161.2.1) (b:=x56.2.1) s386 hb389 hb390 hx332) ?_
 rintro _ w391 ⟨rfl,hst⟩
 have hst:=k388 hst c0
 refine L_not_ rfl rfl (L_pick (v:=Bo b334) rfl rfl (congrArg Value.bool (so hb334)) (mB rfl (L_split (d:=98) (b:=b334) rfl (fun hc392=>?_) (fun hc392=>?_))))
 rw [ite_t hc392] at hb344
 refine ps rfl (ps rfl (ps rfl (ps rfl (L_pick (v:=Bo b344) rfl rfl (congrArg Value.bool (so hb344)) (nn ?_)))))
 have hst:=hst.gets [7,6,6,6,6] rfl
 exact rj hR345 ⟨((hS274 0 rfl).trans sf0),((hS274 2 rfl).trans sf2),((hS274 4 rfl).trans sf4),((hS274 8 rfl).trans sf8),((hS274 9 rfl).trans sf9),((hS274 10 rfl).trans sf10),((hS274 14 rfl).trans sf14),((hS274 15 rfl).trans sf15),rfl,(Star.keepN 5 hst)⟩
 rw [ite_f hc392] at hb344
 obtain ⟨x342,hx342,hb344⟩:=bind_some hb344
 refine mF ((hS274 15 rfl).trans sf15) rfl (mF ((hS274 10 rfl).trans sf10) rfl ?_)
 obtain ⟨H393b,l394,s395,z396,k397⟩:=hst.borrow
 have hb398 : (rS 93 (rStep 112)).rel H393b [r172_1] x161.2.2:=fz_own 5 z396 rfl
 have hb399 : (rS 93 (rStep 112)).rel H393b [(f_274 41)] x56.2.2:=fz_own 3 z396 rfl
 refine L_call rfl Try.call33 (ops2 rfl rfl) (l_eqStepS_c (a:=x161.2.2) (b:=x56.2.2) s395 hb398 hb399 hx342) ?_
 rintro _ w400 ⟨rfl,hst⟩
 have hst:=k397 hst c0
 refine L_not_ rfl rfl (L_pick (v:=Bo b344) rfl rfl (congrArg Value.bool (so hb344)) (nn ?_))
 have hst:=hst.gets [7,6,6,6,6] rfl
 exact rj hR345 ⟨((hS274 0 rfl).trans sf0),((hS274 2 rfl).trans sf2),((hS274 4 rfl).trans sf4),((hS274 8 rfl).trans sf8),((hS274 9 rfl).trans sf9),((hS274 10 rfl).trans sf10),((hS274 14 rfl).trans sf14),((hS274 15 rfl).trans sf15),rfl,(Star.keepN 5 hst)⟩
 intro f w_ hR
 obtain ⟨sf0,sf2,sf4,sf8,sf9,sf10,sf14,sf15,sf103,hst⟩:=rk hR345 hR
 refine W_cond (b:=b344) sf103 (fun hc401=>?_) (fun hc401=>?_)
 have hF:=(ite_t hc401).symm.trans hF
 refine sq (aB rfl (nn (W_ret (retG1 (v1:=Bo false) Try.results10 rfl ?_))))
 obtain rfl:=so hF
 exact ⟨rfl,(Star.down (Star.keepN 0 hst) (Le.trans hE60 hE274) c0)⟩
 have hF:=(ite_f hc401).symm.trans hF
 refine W_skip (sq (aI rfl (nq ?_)))
 obtain ⟨x407,hx407,hF⟩:=bind_some hF
 refine W_region (mF sf14 rfl (mI rfl ?_))
 have hst:=hst.get 2 rfl
 obtain ⟨H409b,l410,s411,z412,k413⟩:=hst.lend [_]
 refine L_call rfl Try.call36 (ops2 rfl rfl) (l_markBoolS_c (a:=x161.2.1) (k:=1) s411 hx407) ?_
 rintro _ w414 ⟨rfl,hst⟩
 have hst:=k413 hst (co closed_bool c0)
 refine aI rfl (nq ?_)
 obtain ⟨x420,hx420,hF⟩:=bind_some hF
 refine W_region (mF sf15 rfl (mI rfl ?_))
 have hst:=hst.get 3 rfl
 obtain ⟨H422b,l423,s424,z425,k426⟩:=hst.lend [_]
 refine L_call rfl Try.call37 (ops2 rfl rfl) (l_markStepS_c (a:=x161.2.2) (k:=x407.1) s424 hx420) ?_
 rintro _ w427 ⟨rfl,hst⟩
 have hst:=k426 hst (co closed_oStep c0)
 refine aI rfl (ns (aI rfl (nq ?_)))
 obtain ⟨x434,hx434,hF⟩:=bind_some hF
 refine W_region (mF sf14 rfl (mI rfl ?_))
 obtain ⟨H436b,l437,s438,z439,k440⟩:=hst.borrow
 have hb441 : (rS 4 RP.bool).rel H436b [r172_0] x407.2:=fz_own 1 z439 rfl
 refine L_call rfl Try.call38 (ops2 rfl rfl) (l_heldBoolS_c (a:=x407.2) (k:=1) s438 hb441 hx434) ?_
 rintro _ w442 ⟨rfl,hst⟩
 have hst:=k440 hst c0
 refine aI rfl (nq (sq (mI rfl (L_lss rfl rfl rfl (nn (W_cond (b:=decide (x434 < 0)) rfl (fun hc443=>?_) (fun hc443=>?_)))))))
 have hF:=(ite_t hc443).symm.trans hF
 refine sq (aB rfl (nn (W_ret (retG1 (v1:=Bo false) Try.results10 rfl ?_))))
 obtain rfl:=so hF
 exact ⟨rfl,(Star.down (Star.keepN 0 hst) (Le.trans hE60 hE274) c0)⟩
 have hF:=(ite_f hc443).symm.trans hF
 refine W_skip (W_seq ?_)
 obtain ⟨x450,hx450,hF⟩:=bind_some hF
 refine W_region (mF sf15 rfl (mI rfl ?_))
 obtain ⟨H452b,l453,s454,z455,k456⟩:=hst.borrow
 have hb457 : (rS 93 (rStep 112)).rel H452b [r172_1] x420.2:=fz_own 0 z455 rfl
 refine L_call rfl Try.call39 (ops2 rfl rfl) (l_heldStepS_c (a:=x420.2) (k:=x434) s454 hb457 hx450) ?_
 rintro _ w458 ⟨rfl,hst⟩
 have hst:=k456 hst c0
 refine aI rfl (nq (sq (mI rfl (L_lss rfl rfl rfl (nn (W_cond (b:=decide (x450 < 0)) rfl (fun hc459=>?_) (fun hc459=>?_)))))))
 have hF:=(ite_t hc459).symm.trans hF
 refine sq (aB rfl (nn (W_ret (retG1 (v1:=Bo false) Try.results10 rfl ?_))))
 obtain rfl:=so hF
 exact ⟨rfl,(Star.down (Star.keepN 0 hst) (Le.trans hE60 hE274) c0)⟩
 have hF:=(ite_f hc459).symm.trans hF
 refine W_skip (W_seq (sq (mI rfl (mI rfl (L_neq rfl rfl rfl (nn (W_cond (b:=(x450 != x420.1)) rfl (fun hc460=>?_) (fun hc460=>?_))))))))
 have hF:=(ite_t hc460).symm.trans hF
 refine sq (aB rfl (nn (W_ret (retG1 (v1:=Bo false) Try.results10 rfl ?_))))
 obtain rfl:=so hF
 exact ⟨rfl,(Star.down (Star.keepN 0 hst) (Le.trans hE60 hE274) c0)⟩
 have hF:=(ite_f hc460).symm.trans hF
 refine W_skip (W_seq ?_)
 obtain ⟨x466,hx466,hF⟩:=bind_some hF
 obtain ⟨x474,hx474,hF⟩:=bind_some hF
 obtain ⟨x484,hx484,hF⟩:=bind_some hF
 refine W_drawS 12 [isV (v0),anyF,isV (.agg #[v1_0,I aC.bound]),exA fun u_0=>isV (.agg #[u_0,I x474.bound]),isV (I aFuel),tup3 (isV (I x484.1)) (anyF) (anyF),tup3 (isV (I x484.1)) (anyF) (anyF),isV (I x484.1),anyF,anyF,isV (I x484.1),anyF] [oS 93 (oStep 112) r172_1 x420.2,oF 4 RP.bool r172_0 x407.2,oF 4 RP.bool (f_274 9) x56.2.1,oS 93 (oStep 112) (f_274 41) x56.2.2,box g3 59 #[v1_0,I aC.bound]] [.made 1 125 (fun v_=>oS 43 (oCon 112) v_ x466) none,.made 3 127 (fun v_=>oF 112 rTerm (aggC v_ 0) x474.terms) none,.made 5 129 (fun v_=>oF 4 RP.bool (tupC v_ 1) x484.2.1) (some 6),.made 5 129 (fun v_=>oS 93 (oStep 112) (tupC v_ 2) x484.2.2) (some 6),.made 6 123 (fun v_=>oF 4 RP.bool (tupC v_ 1) x484.2.1) (some 8),.made 6 123 (fun v_=>oS 93 (oStep 112) (tupC v_ 2) x484.2.2) (some 9),.made 8 131 (fun v_=>oF 4 RP.bool v_ x484.2.1) (some 11),.made 9 132 (fun v_=>oS 93 (oStep 112) v_ x484.2.2) none,.made 11 20 (fun v_=>oF 4 RP.bool v_ x484.2.1) none] ([]) [([],[]),([],[0]),([],[]),([],[1]),([],[]),([0,1],[0,1,2,3]),([2,3],[4,5]),([],[]),([4],[6]),([5],[7]),([],[]),([6],[8])] (S:=[(some 1,[125],none),(some 3,[127],none),(some 5,[129],some 6),(some 5,[129],some 6),(some 6,[123],some 8),(some 6,[123],some 9),(some 8,[131],some 11),(some 9,[132],none),(some 11,[20],none)]) Try_mix (by kernel_rfl) rfl (by kernel_rfl) (amF_cons (mono_V _) (amF_cons (mono_any) (amF_cons (mono_V _) (amF_cons (mono_exA fun _=>mono_V _) (amF_cons (mono_V _) (amF_cons (mono_tup3 (mono_V _) (mono_any) (mono_any)) (amF_cons (mono_tup3 (mono_V _) (mono_any) (mono_any)) (amF_cons (mono_V _) (amF_cons (mono_any) (amF_cons (mono_any) (amF_cons (mono_V _) (amF_cons (mono_any) amF_nil)))))))))))) hst ?_ (fun f w_ H488 hS488 hE488 hT488 hst=>?_)
 refine opsS_cons (fun f w_ _ _ s _ _ hst=>mF ((s 0 rfl).trans sf0) rfl (nO rfl rfl hst)) (opsS_cons ?_ ?_)
 intro f w_ H488 X488 hS488 hE488 hP488 hst
 obtain ⟨H513b,l514,s515,z516,k517⟩:=hst.borrow
 refine L_call rfl Try.call31 (ops1 (hP488 0 124 rfl rfl)) (l_toConstraintS_c (a:=aList) s515 (RP.mono _ h0 (Le.trans (Le.trans (Le.trans hE60 hE274) hE488) l514)) hx466) ?_
 rintro r518_0 w518 ⟨_,rfl,hst⟩
 have hst:=k517 hst (co closed_oCon c0)
 have hst:=hst.gets [5,5,5,5,5] rfl
 exact L_nil ⟨rfl,_,_,rfl,Le.refl _,fun _ _=>trivial,hst⟩
 refine opsS_cons (fun f w_ _ _ s _ _ hst=>L_lda (cs:=[v1_0,I aC.bound]) rfl Try.isAgg59 Try.sizeOf59 ((s 4 rfl).trans sf4) (At.sub0 (Blk.at (Star.blkAt 4 hst rfl)) 0 2) rfl (nO rfl rfl hst)) (opsS_cons ?_ ?_)
 intro f w_ H488 X488 hS488 hE488 hP488 hst
 obtain ⟨H520b,l521,s522,z523,k524⟩:=hst.borrow
 refine L_call rfl Try.call42 (ops1 (hP488 2 126 rfl rfl)) (l_toConstraint_c (a:=aC) s522 (RP.mono _ h1_0 (Le.trans (Le.trans (Le.trans hE60 hE274) hE488) l521)) hx474) ?_
 rintro _ w525 ⟨r525_0,rfl,hst⟩
 have hst:=k524 hst (co closed_term c0)
 have hst:=hst.gets [5,5,5,5,5] rfl
 exact L_nil ⟨rfl,_,_,rfl,Le.refl _,fun _ _=>⟨_,rfl⟩,hst⟩
 refine opsS_cons (fun f w_ _ _ s _ _ hst=>mF ((s 2 rfl).trans sf2) rfl (nO rfl rfl hst)) (opsS_cons ?_ ?_)
 intro f w_ H488 X488 hS488 hE488 hP488 hst
 have hst : Star H488 w_ (oS 93 (oStep 112) r172_1 x420.2 :: oF 4 RP.bool r172_0 x407.2 :: oF 4 RP.bool (f_274 9) x56.2.1 :: oS 93 (oStep 112) (f_274 41) x56.2.2 :: box g3 59 #[v1_0,I aC.bound] :: oS 43 (oCon 112) (f 125) x466 :: own (OR.ownS 112 (OR.frz rTerm)) [(aggC (f 127) 0)] x474.terms :: X488):=hst
 obtain ⟨u528_0,hv528⟩:=(hP488 3 127 rfl rfl)
 have hren : Star H488 w_ (oS 93 (oStep 112) r172_1 x420.2 :: oF 4 RP.bool r172_0 x407.2 :: oF 4 RP.bool (f_274 9) x56.2.1 :: oS 93 (oStep 112) (f_274 41) x56.2.2 :: box g3 59 #[v1_0,I aC.bound] :: oS 43 (oCon 112) (f 125) x466 :: own (OR.ownS 112 (OR.frz rTerm)) [(aggC (f 127) 0)] x474.terms :: X488):=hst
 rw [hv528] at hren
 have hst : Star H488 w_ (oS 93 (oStep 112) r172_1 x420.2 :: oF 4 RP.bool r172_0 x407.2 :: oF 4 RP.bool (f_274 9) x56.2.1 :: oS 93 (oStep 112) (f_274 41) x56.2.2 :: box g3 59 #[v1_0,I aC.bound] :: oS 43 (oCon 112) (f 125) x466 :: oF 112 rTerm u528_0 x474.terms :: X488):=hren
 obtain ⟨H529b,l530,s531,z532,k533⟩:=hst.borrow
 have hb534 : (rS 43 (rCon 112)).rel H529b [(f 125)] x466:=fz_own 5 z532 rfl
 have hb535 : (rS 112 rTerm).rel H529b [u528_0] x474.terms:=fz_own 6 z532 rfl
 refine L_call rfl Try.call28 (ops3 rfl hv528 (hP488 4 128 rfl rfl)) (i_ProveConstraint_c (list:=x466) (c:=x474) (fuel:=aFuel) s531 hb534 hb535 hx484) ?_
 rintro _ w536 ⟨r536_0,r536_1,rfl,hst⟩
 have hst:=k533 hst (co closed_bool (co closed_oStep c0))
 have hst:=hst.gets [1,1,8,8,8,8,8,8,8] rfl
 have hst : Star H488 w536 (oS 93 (oStep 112) r172_1 x420.2 :: oF 4 RP.bool r172_0 x407.2 :: oF 4 RP.bool (f_274 9) x56.2.1 :: oS 93 (oStep 112) (f_274 41) x56.2.2 :: box g3 59 #[v1_0,I aC.bound] :: oS 43 (oCon 112) (f 125) x466 :: own (OR.ownS 112 (OR.frz rTerm)) [(aggC (f 127) 0)] x474.terms :: oF 4 RP.bool r536_0 x484.2.1 :: oS 93 (oStep 112) r536_1 x484.2.2 :: X488):=by rw [hv528]; exact hst
 exact L_nil ⟨rfl,_,_,rfl,Le.refl _,fun _ _=>⟨_,_,_,rfl,rfl,trivial,trivial⟩,hst⟩
 refine opsS_cons ?_ ?_
 intro f w_ H488 X488 hS488 hE488 hP488 hst
 have hst : Star H488 w_ (oS 93 (oStep 112) r172_1 x420.2 :: oF 4 RP.bool r172_0 x407.2 :: oF 4 RP.bool (f_274 9) x56.2.1 :: oS 93 (oStep 112) (f_274 41) x56.2.2 :: box g3 59 #[v1_0,I aC.bound] :: own (OR.ownS 4 (OR.frz RP.bool)) [(tupC (f 129) 1)] x484.2.1 :: own (OR.ownS 93 (oStep 112)) [(tupC (f 129) 2)] x484.2.2 :: X488):=hst
 obtain ⟨a539_0,a539_1,a539_2,hv539,ht539_0,ht539_1,ht539_2⟩:=(hP488 5 129 rfl rfl)
 obtain rfl:=ht539_0
 have hren : Star H488 w_ (oS 93 (oStep 112) r172_1 x420.2 :: oF 4 RP.bool r172_0 x407.2 :: oF 4 RP.bool (f_274 9) x56.2.1 :: oS 93 (oStep 112) (f_274 41) x56.2.2 :: box g3 59 #[v1_0,I aC.bound] :: own (OR.ownS 4 (OR.frz RP.bool)) [(tupC (f 129) 1)] x484.2.1 :: own (OR.ownS 93 (oStep 112)) [(tupC (f 129) 2)] x484.2.2 :: X488):=hst
 rw [hv539] at hren
 have hst : Star H488 w_ (oS 93 (oStep 112) r172_1 x420.2 :: oF 4 RP.bool r172_0 x407.2 :: oF 4 RP.bool (f_274 9) x56.2.1 :: oS 93 (oStep 112) (f_274 41) x56.2.2 :: box g3 59 #[v1_0,I aC.bound] :: oF 4 RP.bool a539_1 x484.2.1 :: oS 93 (oStep 112) a539_2 x484.2.2 :: X488):=hren
 refine mF hv539 rfl (L_nil ⟨rfl,_,_,rfl,Le.refl _,fun _ _=>⟨_,_,_,rfl,rfl,trivial,trivial⟩,hst⟩)
 refine opsS_cons ?_ ?_
 intro f w_ H488 X488 hS488 hE488 hP488 hst
 obtain ⟨a540_0,a540_1,a540_2,hv540,ht540_0,ht540_1,ht540_2⟩:=(hP488 6 123 rfl rfl)
 obtain rfl:=ht540_0
 refine L_ex (v:=I x484.1) rfl hv540 rfl (L_nil ⟨rfl,_,_,rfl,Le.refl _,fun _ _=>rfl,hst⟩)
 refine opsS_cons ?_ ?_
 intro f w_ H488 X488 hS488 hE488 hP488 hst
 have hst : Star H488 w_ (oS 93 (oStep 112) r172_1 x420.2 :: oF 4 RP.bool r172_0 x407.2 :: oF 4 RP.bool (f_274 9) x56.2.1 :: oS 93 (oStep 112) (f_274 41) x56.2.2 :: box g3 59 #[v1_0,I aC.bound] :: own (OR.ownS 4 (OR.frz RP.bool)) [(tupC (f 123) 1)] x484.2.1 :: X488):=hst
 obtain ⟨a541_0,a541_1,a541_2,hv541,ht541_0,ht541_1,ht541_2⟩:=(hP488 6 123 rfl rfl)
 obtain rfl:=ht541_0
 have hren : Star H488 w_ (oS 93 (oStep 112) r172_1 x420.2 :: oF 4 RP.bool r172_0 x407.2 :: oF 4 RP.bool (f_274 9) x56.2.1 :: oS 93 (oStep 112) (f_274 41) x56.2.2 :: box g3 59 #[v1_0,I aC.bound] :: own (OR.ownS 4 (OR.frz RP.bool)) [(tupC (f 123) 1)] x484.2.1 :: X488):=hst
 rw [hv541] at hren
 have hst : Star H488 w_ (oS 93 (oStep 112) r172_1 x420.2 :: oF 4 RP.bool r172_0 x407.2 :: oF 4 RP.bool (f_274 9) x56.2.1 :: oS 93 (oStep 112) (f_274 41) x56.2.2 :: box g3 59 #[v1_0,I aC.bound] :: oF 4 RP.bool a541_1 x484.2.1 :: X488):=hren
 refine L_ex (v:=a541_1) rfl hv541 rfl (L_nil ⟨rfl,_,_,rfl,Le.refl _,fun _ _=>trivial,hst⟩)
 refine opsS_cons ?_ ?_
 intro f w_ H488 X488 hS488 hE488 hP488 hst
 have hst : Star H488 w_ (oS 93 (oStep 112) r172_1 x420.2 :: oF 4 RP.bool r172_0 x407.2 :: oF 4 RP.bool (f_274 9) x56.2.1 :: oS 93 (oStep 112) (f_274 41) x56.2.2 :: box g3 59 #[v1_0,I aC.bound] :: own (OR.ownS 93 (oStep 112)) [(tupC (f 123) 2)] x484.2.2 :: X488):=hst
 obtain ⟨a542_0,a542_1,a542_2,hv542,ht542_0,ht542_1,ht542_2⟩:=(hP488 6 123 rfl rfl)
 obtain rfl:=ht542_0
 have hren : Star H488 w_ (oS 93 (oStep 112) r172_1 x420.2 :: oF 4 RP.bool r172_0 x407.2 :: oF 4 RP.bool (f_274 9) x56.2.1 :: oS 93 (oStep 112) (f_274 41) x56.2.2 :: box g3 59 #[v1_0,I aC.bound] :: own (OR.ownS 93 (oStep 112)) [(tupC (f 123) 2)] x484.2.2 :: X488):=hst
 rw [hv542] at hren
 have hst : Star H488 w_ (oS 93 (oStep 112) r172_1 x420.2 :: oF 4 RP.bool r172_0 x407.2 :: oF 4 RP.bool (f_274 9) x56.2.1 :: oS 93 (oStep 112) (f_274 41) x56.2.2 :: box g3 59 #[v1_0,I aC.bound] :: oS 93 (oStep 112) a542_2 x484.2.2 :: X488):=hren
 refine L_ex (v:=a542_2) rfl hv542 rfl (L_nil ⟨rfl,_,_,rfl,Le.refl _,fun _ _=>trivial,hst⟩)
 refine opsS_cons (fun f w_ _ _ _ _ p hst=>aF (p 7 130 rfl rfl) rfl (nO rfl rfl hst)) (opsS_cons ?_ ?_)
 intro f w_ H488 X488 hS488 hE488 hP488 hst
 have hst : Star H488 w_ (oS 93 (oStep 112) r172_1 x420.2 :: oF 4 RP.bool r172_0 x407.2 :: oF 4 RP.bool (f_274 9) x56.2.1 :: oS 93 (oStep 112) (f_274 41) x56.2.2 :: box g3 59 #[v1_0,I aC.bound] :: oF 4 RP.bool (f 131) x484.2.1 :: X488):=hst
 refine aV (f 131) rfl (L_nil ⟨rfl,_,_,rfl,Le.refl _,fun _ _=>trivial,hst⟩)
 exact opsS_nil
 have hst : Star H488 w_ ([oS 93 (oStep 112) r172_1 x420.2,oF 4 RP.bool r172_0 x407.2,oF 4 RP.bool (f_274 9) x56.2.1,oS 93 (oStep 112) (f_274 41) x56.2.2,box g3 59 #[v1_0,I aC.bound],oS 43 (oCon 112) (f 125) x466,own (OR.ownS 112 (OR.frz rTerm)) [(aggC (f 127) 0)] x474.terms,oS 93 (oStep 112) (f 132) x484.2.2,oF 4 RP.bool (f 20) x484.2.1]):=hst
 refine aV (f 132) rfl (L_nil (W_seq (W_seq ?_)))
 obtain ⟨b555,hb555,hF⟩:=bind_some hF
 obtain ⟨b565,hb565,hF⟩:=bind_some hF
 obtain ⟨R566,hR566⟩:=exR fun f w_=>f 14 = r172_0∧f 15 = r172_1∧f 17 = I x420.1∧f 147 = Bo b565∧Star H488 w_ ([oF 4 RP.bool r172_0 x407.2,oS 93 (oStep 112) r172_1 x420.2])
 refine W_join R566 ?_ ?_
 refine W_region (mF (hT488 10 19 rfl rfl) rfl (mF ((hS488 8 rfl).trans sf8) rfl (L_neq rfl rfl rfl (mB rfl (L_split (d:=136) (b:=(x484.1 != x56.1)) rfl (fun hc567=>?_) (fun hc567=>?_))))))
 rw [ite_t hc567] at hb555
 refine ps rfl (ps rfl (ps rfl (ps rfl (L_pick (v:=Bo b555) rfl rfl (congrArg Value.bool (so hb555)) (mB rfl (L_split (d:=142) (b:=b555) rfl (fun hc568=>?_) (fun hc568=>?_)))))))
 rw [ite_t hc568] at hb565
 refine ps rfl (ps rfl (ps rfl (ps rfl (L_pick (v:=Bo b565) rfl rfl (congrArg Value.bool (so hb565)) (nn ?_)))))
 have hst:=hst.get 1 rfl
 exact rj hR566 ⟨((hS488 14 rfl).trans sf14),((hS488 15 rfl).trans sf15),((hS488 17 rfl).trans rfl),rfl,(Star.keepN 2 hst)⟩
 rw [ite_f hc568] at hb565
 obtain ⟨x563,hx563,hb565⟩:=bind_some hb565
 refine mV (f 132) rfl (mF ((hS488 10 rfl).trans sf10) rfl ?_)
 obtain ⟨H569b,l570,s571,z572,k573⟩:=hst.borrow
 have hb574 : (rS 93 (rStep 112)).rel H569b [(f 132)] x484.2.2:=fz_own 7 z572 rfl
 have hb575 : (rS 93 (rStep 112)).rel H569b [(f_274 41)] x56.2.2:=fz_own 3 z572 rfl
 refine L_call rfl Try.call33 (ops2 rfl rfl) (l_eqStepS_c (a:=x484.2.2) (b:=x56.2.2) s571 hb574 hb575 hx563) ?_
 rintro _ w576 ⟨rfl,hst⟩
 have hst:=k573 hst c0
 refine L_not_ rfl rfl (L_pick (v:=Bo b565) rfl rfl (congrArg Value.bool (so hb565)) (nn ?_))
 have hst:=hst.get 1 rfl
 exact rj hR566 ⟨((hS488 14 rfl).trans sf14),((hS488 15 rfl).trans sf15),((hS488 17 rfl).trans rfl),rfl,(Star.keepN 2 hst)⟩
 rw [ite_f hc567] at hb555
 obtain ⟨x553,hx553,hb555⟩:=bind_some hb555
 refine mV (f 20) rfl (mF ((hS488 9 rfl).trans sf9) rfl ?_)
 obtain ⟨H577b,l578,s579,z580,k581⟩:=hst.borrow
 have hb582 : (rS 4 RP.bool).rel H577b [(f 20)] x484.2.1:=fz_own 8 z580 rfl
 have hb583 : (rS 4 RP.bool).rel H577b [(f_274 9)] x56.2.1:=fz_own 2 z580 rfl
 refine L_call rfl Try.call32 (ops2 rfl rfl) (l_eqBoolS_c (a:=x484.2.1) (b:=x56.2.1) s579 hb582 hb583 hx553) ?_
 rintro _ w584 ⟨rfl,hst⟩
 have hst:=k581 hst c0
 refine L_not_ rfl rfl (L_pick (v:=Bo b555) rfl rfl (congrArg Value.bool (so hb555)) (mB rfl (L_split (d:=142) (b:=b555) rfl (fun hc585=>?_) (fun hc585=>?_))))
 rw [ite_t hc585] at hb565
 refine ps rfl (ps rfl (ps rfl (ps rfl (L_pick (v:=Bo b565) rfl rfl (congrArg Value.bool (so hb565)) (nn ?_)))))
 have hst:=hst.get 1 rfl
 exact rj hR566 ⟨((hS488 14 rfl).trans sf14),((hS488 15 rfl).trans sf15),((hS488 17 rfl).trans rfl),rfl,(Star.keepN 2 hst)⟩
 rw [ite_f hc585] at hb565
 obtain ⟨x563,hx563,hb565⟩:=bind_some hb565
 refine mV (f 132) rfl (mF ((hS488 10 rfl).trans sf10) rfl ?_)
 obtain ⟨H586b,l587,s588,z589,k590⟩:=hst.borrow
 have hb591 : (rS 93 (rStep 112)).rel H586b [(f 132)] x484.2.2:=fz_own 7 z589 rfl
 have hb592 : (rS 93 (rStep 112)).rel H586b [(f_274 41)] x56.2.2:=fz_own 3 z589 rfl
 refine L_call rfl Try.call33 (ops2 rfl rfl) (l_eqStepS_c (a:=x484.2.2) (b:=x56.2.2) s588 hb591 hb592 hx563) ?_
 rintro _ w593 ⟨rfl,hst⟩
 have hst:=k590 hst c0
 refine L_not_ rfl rfl (L_pick (v:=Bo b565) rfl rfl (congrArg Value.bool (so hb565)) (nn ?_))
 have hst:=hst.get 1 rfl
 exact rj hR566 ⟨((hS488 14 rfl).trans sf14),((hS488 15 rfl).trans sf15),((hS488 17 rfl).trans rfl),rfl,(Star.keepN 2 hst)⟩
 intro f w_ hR
 obtain ⟨sf14,sf15,sf17,sf147,hst⟩:=rk hR566 hR
 refine W_cond (b:=b565) sf147 (fun hc594=>?_) (fun hc594=>?_)
 have hF:=(ite_t hc594).symm.trans hF
 refine sq (aB rfl (nn (W_ret (retG1 (v1:=Bo false) Try.results10 rfl ?_))))
 obtain rfl:=so hF
 exact ⟨rfl,(Star.down (Star.keepN 0 hst) (Le.trans (Le.trans hE60 hE274) hE488) c0)⟩
 have hF:=(ite_f hc594).symm.trans hF
 refine W_skip (sq (aI rfl (nq ?_)))
 obtain ⟨x601,hx601,hF⟩:=bind_some hF
 refine W_region (mF sf14 rfl (mI rfl ?_))
 obtain ⟨H603b,l604,s605,z606,k607⟩:=hst.borrow
 have hb608 : (rS 4 RP.bool).rel H603b [r172_0] x407.2:=fz_own 0 z606 rfl
 refine L_call rfl Try.call38 (ops2 rfl rfl) (l_heldBoolS_c (a:=x407.2) (k:=1) s605 hb608 hx601) ?_
 rintro _ w609 ⟨rfl,hst⟩
 have hst:=k607 hst c0
 refine aI rfl (nq (sq (mI rfl (L_lss rfl rfl rfl (nn (W_cond (b:=decide (x601 < 0)) rfl (fun hc610=>?_) (fun hc610=>?_)))))))
 have hF:=(ite_t hc610).symm.trans hF
 refine sq (aB rfl (nn (W_ret (retG1 (v1:=Bo false) Try.results10 rfl ?_))))
 obtain rfl:=so hF
 exact ⟨rfl,(Star.down (Star.keepN 0 hst) (Le.trans (Le.trans hE60 hE274) hE488) c0)⟩
 have hF:=(ite_f hc610).symm.trans hF
 refine W_skip (W_seq ?_)
 obtain ⟨x617,hx617,hF⟩:=bind_some hF
 refine W_region (mF sf15 rfl (mI rfl ?_))
 obtain ⟨H619b,l620,s621,z622,k623⟩:=hst.borrow
 have hb624 : (rS 93 (rStep 112)).rel H619b [r172_1] x420.2:=fz_own 1 z622 rfl
 refine L_call rfl Try.call39 (ops2 rfl rfl) (l_heldStepS_c (a:=x420.2) (k:=x601) s621 hb624 hx617) ?_
 rintro _ w625 ⟨rfl,hst⟩
 have hst:=k623 hst c0
 refine aI rfl (nq (sq (mI rfl (L_lss rfl rfl rfl (nn (W_cond (b:=decide (x617 < 0)) rfl (fun hc626=>?_) (fun hc626=>?_)))))))
 have hF:=(ite_t hc626).symm.trans hF
 refine sq (aB rfl (nn (W_ret (retG1 (v1:=Bo false) Try.results10 rfl ?_))))
 obtain rfl:=so hF
 exact ⟨rfl,(Star.down (Star.keepN 0 hst) (Le.trans (Le.trans hE60 hE274) hE488) c0)⟩
 have hF:=(ite_f hc626).symm.trans hF
 refine W_skip (W_seq (sq (mI rfl (mF sf17 rfl (L_neq rfl rfl rfl (nn (W_cond (b:=(x617 != x420.1)) rfl (fun hc627=>?_) (fun hc627=>?_))))))))
 have hF:=(ite_t hc627).symm.trans hF
 refine sq (aB rfl (nn (W_ret (retG1 (v1:=Bo false) Try.results10 rfl ?_))))
 obtain rfl:=so hF
 exact ⟨rfl,(Star.down (Star.keepN 0 hst) (Le.trans (Le.trans hE60 hE274) hE488) c0)⟩
 have hF:=(ite_f hc627).symm.trans hF
 refine W_skip (sq (aB rfl (nn (W_ret (retG1 (v1:=Bo true) Try.results10 rfl ?_)))))
 obtain rfl:=so hF
 exact ⟨rfl,(Star.down (Star.keepN 0 hst) (Le.trans (Le.trans hE60 hE274) hE488) c0)⟩
end Go.Proofs.Yteeilbddjlpiaaa

/- Part of a proof by program: W3. -/
import Derived.Test.YtohpkefnmkdaeaaGreatDoorD1
import Derived.Test.YtohpkefnmkdaeaaGreatDoorW2
namespace Go.Proofs.YtohpkefnmkdaeaaGreatDoor
open Go Go.E Go.L Go.RowKit
set_option linter.unusedVariables false
set_option linter.unusedSimpArgs false
set_option maxRecDepth 100000
theorem s_DrawParseModel_c {fu : Nat} {code : List UInt8} {v0 : Value} {H : FH} {w : World} (Z : Star H w []) (h0 : (rS 5 RP.u8).rel H [v0] code) {r : ByteArray} (hF : s_DrawParseModel fu code = some r) :
 C Tryz.prog 18 #[v0] w fun v w'=>v = .string r∧Star H w' []:=by
 unfold s_DrawParseModel at hF
 refine C_enter Tryz.func18 rfl Tryz.ntmps18 rfl (sq (aV (.string (⟨#[]⟩ : ByteArray)) rfl (nq ?_)))
 obtain ⟨x1,hx1,hF⟩:=bind_some hF
 refine W_region (mV v0 rfl (L_call rfl Tryz.call54 (ops1 rfl) (s_l17Open_c (code:=code) Z h0 hx1) ?_))
 rintro _ w3 ⟨H3,l3,r3_0,r3_1,rfl,hr3_1,Z⟩
 refine aV (Pt r3_0) rfl (nq ?_)
 obtain ⟨x4,hx4,hF⟩:=bind_some hF
 obtain ⟨x13,hx13,hF⟩:=bind_some hF
 obtain ⟨x24,hx24,hF⟩:=bind_some hF
 refine W_region (mV (Pt r3_0) rfl (mV (Pt r3_0) rfl (L_call rfl Tryz.call56 (ops1 rfl) (s_l6Model_c (r_:=x1) Z hr3_1 hx4) ?_)))
 rintro _ w26 ⟨H26,l26,r26_0,r26_1,rfl,hr26_0,Z⟩
 obtain ⟨H28b,l29,s30,z31,k32⟩:=Z.borrow
 have hb33 : (rS 49 (rRule 3 22)).rel H28b [r26_1] x4.1.rules:=fz_own 0 z31 rfl
 refine L_call rfl Tryz.call14 (ops1 rfl) (s_FormatModel_c (m:=x4.1) s30 (RP.mono _ hr26_0 l29) hb33 hx13) ?_
 rintro _ w34 ⟨rfl,Z⟩
 have Z:=k32 Z c0
 refine L_bs rfl (parts7 rfl rfl rfl rfl rfl rfl rfl) (bs_44_7_0_0_0_0_0_0_0 (.string (⟨#[]⟩ : ByteArray)) (.string (⟨#[32]⟩ : ByteArray)) (.string (⟨#[10]⟩ : ByteArray)) (.string (⟨#[49]⟩ : ByteArray)) (.string (⟨#[45]⟩ : ByteArray)) (.string (⟨#[57]⟩ : ByteArray)) (.string (⟨#[120]⟩ : ByteArray)) rfl rfl rfl rfl rfl rfl rfl) Z (fun g35 w36 Z=>?_)
 have Z:=Star.addF (r:=RP.str) (cs:=[.string (⟨#[120]⟩ : ByteArray)]) (x:=(⟨#[120]⟩ : ByteArray)) Z rfl
 have Z:=Star.addF (r:=RP.str) (cs:=[.string (⟨#[57]⟩ : ByteArray)]) (x:=(⟨#[57]⟩ : ByteArray)) Z rfl
 have Z:=Star.addF (r:=RP.str) (cs:=[.string (⟨#[45]⟩ : ByteArray)]) (x:=(⟨#[45]⟩ : ByteArray)) Z rfl
 have Z:=Star.addF (r:=RP.str) (cs:=[.string (⟨#[49]⟩ : ByteArray)]) (x:=(⟨#[49]⟩ : ByteArray)) Z rfl
 have Z:=Star.addF (r:=RP.str) (cs:=[.string (⟨#[10]⟩ : ByteArray)]) (x:=(⟨#[10]⟩ : ByteArray)) Z rfl
 have Z:=Star.addF (r:=RP.str) (cs:=[.string (⟨#[32]⟩ : ByteArray)]) (x:=(⟨#[32]⟩ : ByteArray)) Z rfl
 have Z:=Star.addF (r:=RP.str) (cs:=[.string (⟨#[]⟩ : ByteArray)]) (x:=(⟨#[]⟩ : ByteArray)) Z rfl
 have Z:=Star.mkRow (R:=(OR.frz RP.str)) [([.string (⟨#[]⟩ : ByteArray)],(⟨#[]⟩ : ByteArray)),([.string (⟨#[32]⟩ : ByteArray)],(⟨#[32]⟩ : ByteArray)),([.string (⟨#[10]⟩ : ByteArray)],(⟨#[10]⟩ : ByteArray)),([.string (⟨#[49]⟩ : ByteArray)],(⟨#[49]⟩ : ByteArray)),([.string (⟨#[45]⟩ : ByteArray)],(⟨#[45]⟩ : ByteArray)),([.string (⟨#[57]⟩ : ByteArray)],(⟨#[57]⟩ : ByteArray)),([.string (⟨#[120]⟩ : ByteArray)],(⟨#[120]⟩ : ByteArray))] [(⟨#[]⟩ : ByteArray),(⟨#[32]⟩ : ByteArray),(⟨#[10]⟩ : ByteArray),(⟨#[49]⟩ : ByteArray),(⟨#[45]⟩ : ByteArray),(⟨#[57]⟩ : ByteArray),(⟨#[120]⟩ : ByteArray)] 7 Z rfl rfl rfl (by decide)
 have Z:=Z.get 2 rfl
 obtain ⟨H38b,l39,s40,z41,k42⟩:=Z.lend [_]
 have hb43 : (rS 9 RP.str).rel H38b [(Sl g35 7 7)] ([(⟨#[]⟩ : ByteArray),(⟨#[32]⟩ : ByteArray),(⟨#[10]⟩ : ByteArray),(⟨#[49]⟩ : ByteArray),(⟨#[45]⟩ : ByteArray),(⟨#[57]⟩ : ByteArray),(⟨#[120]⟩ : ByteArray)]):=fz_own 0 z41 rfl
 refine L_call rfl Tryz.call55 (ops3 rfl rfl rfl) (s_l1Bend_c (r_:=({ b:=x1.b,p:=x4.2 } : Rd)) (s:=x13) (bits:=[(⟨#[]⟩ : ByteArray),(⟨#[32]⟩ : ByteArray),(⟨#[10]⟩ : ByteArray),(⟨#[49]⟩ : ByteArray),(⟨#[45]⟩ : ByteArray),(⟨#[57]⟩ : ByteArray),(⟨#[120]⟩ : ByteArray)]) s40 (RP.mono _ hr3_1 (Le.trans l26 l39)) hb43 hx24) ?_
 rintro _ w44 ⟨rfl,Z⟩
 have Z:=k42 Z (cb c0)
 refine aV (.string x24.1) rfl (nn (W_ret (retG1 (v1:=.string x24.1) Tryz.results18 rfl ?_)))
 obtain rfl:=so hF
 exact ⟨rfl,(Star.down (Star.keepN 0 Z) (Le.trans l3 l26) c0)⟩
theorem l_FnModelText_c {fu : Nat} {code : List UInt8} {more : List UInt8} {v0 : Value} {v1 : Value} {H : FH} {w : World} (Z : Star H w []) (h0 : (rS 5 RP.u8).rel H [v0] code) (h1 : (rS 5 RP.u8).rel H [v1] more) {r : Bool} (hF : l_FnModelText fu code more = some r) :
 C Tryz.prog 4 #[v0,v1] w fun v w'=>v = Bo r∧Star H w' []:=by
 unfold l_FnModelText at hF
 refine C_enter Tryz.func4 rfl Tryz.ntmps4 rfl (sq (aB rfl (nq (W_seq ?_))))
 obtain ⟨R1,hR1⟩:=exR fun f w_=>f 0 = v0∧f 1 = v1∧f 21 = Bo ((decide ((code.length : Int) > 1048576)) || (decide ((more.length : Int) > 1048576)))∧Star H w_ ([])
 refine W_join R1 ?_ ?_
 refine W_region (mV v0 rfl (L_len rfl Tryz.underlying31 rfl (slice_len h0) (L_gtr rfl rfl rfl (mB rfl (L_split (d:=17) (b:=decide ((code.length : Int) > 1048576)) rfl (fun hc2=>?_) (fun hc2=>?_))))))
 refine ps rfl (ps rfl (ps rfl (L_pick (v:=Bo ((decide ((code.length : Int) > 1048576)) || (decide ((more.length : Int) > 1048576)))) rfl rfl (or_t hc2) (nn (rj hR1 ⟨rfl,rfl,rfl,Z⟩)))))
 refine mV v1 rfl (L_len rfl Tryz.underlying31 rfl (slice_len h1) (L_gtr rfl rfl rfl (L_pick (v:=Bo ((decide ((code.length : Int) > 1048576)) || (decide ((more.length : Int) > 1048576)))) rfl rfl (or_f hc2 rfl) (nn (rj hR1 ⟨rfl,rfl,rfl,Z⟩)))))
 intro f w_ hR
 obtain ⟨sf0,sf1,sf21,Z⟩:=rk hR1 hR
 refine W_cond (b:=((decide ((code.length : Int) > 1048576)) || (decide ((more.length : Int) > 1048576)))) sf21 (fun hc3=>?_) (fun hc3=>?_)
 have hF:=(ite_t hc3).symm.trans hF
 refine sq (aB rfl (nn (W_ret (retG1 (v1:=Bo true) Tryz.results4 rfl ?_))))
 obtain rfl:=so hF
 exact ⟨rfl,Z⟩
 have hF:=(ite_f hc3).symm.trans hF
 refine W_skip (W_seq ?_)
 obtain ⟨x9,hx9,hF⟩:=bind_some hF
 refine W_region (mF sf0 rfl ?_)
 obtain ⟨H16b,l17,s18,z19,k20⟩:=Z.borrow
 refine L_call rfl Tryz.call12 (ops1 rfl) (s_DrawFormatModel_c (code:=code) s18 (RP.mono _ h0 l17) hx9) ?_
 rintro _ w21 ⟨r21_0,r21_1,rfl,Z⟩
 have Z:=k20 Z (co closed_int (co closed_oRule c0))
 refine L_al (cs:=#[S0,S0]) rfl Tryz.zeroValue25 rfl Z (fun g24 w25 Z=>L_staB (vs:=#[r21_0,r21_1]) (cs2:=#[r21_0,r21_1]) 0 rfl Tryz.sizeOf25 rfl rfl rfl (ones_cons (one_len (Star.len 1 Z rfl)) (ones_cons (one_len (Star.len 2 Z rfl)) ones_nil)) Z rfl (by show 0 + 2≤2; decide) rfl (fun w26 Z=>nq ?_))
 obtain ⟨x34,hx34,hF⟩:=bind_some hF
 refine W_region (L_lda (cs:=[r21_0,r21_1]) rfl Tryz.isAgg25 Tryz.sizeOf25 rfl (At.sub0 (Blk.at (Star.blkAt 0 Z rfl)) 0 2) rfl ?_)
 obtain ⟨H36b,l37,s38,z39,k40⟩:=Z.borrow
 have hb41 : (rS 3 RP.int).rel H36b [r21_0] x9.sizes:=fz_own 1 z39 rfl
 have hb42 : (rS 49 (rRule 3 22)).rel H36b [r21_1] x9.rules:=fz_own 2 z39 rfl
 refine L_call rfl Tryz.call13 (ops1 rfl) (i_FormatModel_c (m:=x9) s38 hb41 hb42 hx34) ?_
 rintro _ w43 ⟨rfl,Z⟩
 have Z:=k40 Z c0
 refine aV (.string x34) rfl (nq ?_)
 obtain ⟨x49,hx49,hF⟩:=bind_some hF
 refine W_region (mV (.string x34) rfl ?_)
 obtain ⟨H56b,l57,s58,z59,k60⟩:=Z.borrow
 refine L_call rfl Tryz.call8 (ops1 rfl) (i_ParseModel_c (text:=x34) s58 hx49) ?_
 rintro _ w61 ⟨r61_0,r61_1,rfl,Z⟩
 have Z:=k60 Z (co closed_int (co closed_oRule c0))
 refine mV (.tuple #[.agg #[r61_0,r61_1],Bo x49.2]) rfl (L_ex (v:=.agg #[r61_0,r61_1]) rfl rfl rfl (L_ex (v:=Bo x49.2) rfl rfl rfl (L_al (cs:=#[S0,S0]) rfl Tryz.zeroValue25 rfl Z (fun g64 w65 Z=>L_staB (vs:=#[r61_0,r61_1]) (cs2:=#[r61_0,r61_1]) 0 rfl Tryz.sizeOf25 rfl rfl rfl (ones_cons (one_len (Star.len 1 Z rfl)) (ones_cons (one_len (Star.len 2 Z rfl)) ones_nil)) Z rfl (by show 0 + 2≤2; decide) rfl (fun w66 Z=>aB rfl (nq (W_seq ?_)))))))
 obtain ⟨x74,hx74,hF⟩:=bind_some hF
 obtain ⟨b94,hb94,hF⟩:=bind_some hF
 obtain ⟨b104,hb104,hF⟩:=bind_some hF
 obtain ⟨b117,hb117,hF⟩:=bind_some hF
 obtain ⟨R121,hR121⟩:=exR fun f w_=>∃ H119 : FH,Le H H119∧f 1 = v1∧f 56 = Bo b117∧Star H119 w_ ([])
 refine W_join R121 ?_ ?_
 rcases Bool.eq_false_or_eq_true (!(ByteArray.toList x34 == ByteArray.toList x74)) with hc122 | hc122
 rw [ite_t hc122] at hb94
 rcases Bool.eq_false_or_eq_true b94 with hc123 | hc123
 rw [ite_t hc123] at hb104
 rcases Bool.eq_false_or_eq_true b104 with hc124 | hc124
 rw [ite_t hc124] at hb117
 refine W_drawS 22 [isV (.string x34),isV (.agg #[r21_0,r21_1]),isV (.string x74),isV (Bo (!(ByteArray.toList x34 == ByteArray.toList x74))),isV (Bo (!(ByteArray.toList x34 == ByteArray.toList x74))),isV (undef),isV (undef),isV (undef),isV (undef),isV (undef),isV (Bo b94),isV (Bo b94),isV (undef),isV (undef),isV (undef),isV (undef),isV (Bo b104),isV (Bo b104),isV (undef),isV (undef),isV (undef),isV (undef)] [box g64 25 #[r61_0,r61_1],oF 3 RP.int r61_0 x49.1.sizes,oS 49 (oRule 3 22) r61_1 x49.1.rules,box g24 25 #[r21_0,r21_1],oF 3 RP.int r21_0 x9.sizes,oS 49 (oRule 3 22) r21_1 x9.rules] [] ([]) [([],[]),([],[]),([],[]),([],[]),([],[]),([],[]),([],[]),([],[]),([],[]),([],[]),([],[]),([],[]),([],[]),([],[]),([],[]),([],[]),([],[]),([],[]),([],[]),([],[]),([],[]),([],[])] (S:=[]) Tryz_mix (by kernel_rfl) rfl (by kernel_rfl) (amF_cons (mono_V _) (amF_cons (mono_V _) (amF_cons (mono_V _) (amF_cons (mono_V _) (amF_cons (mono_V _) (amF_cons (mono_V _) (amF_cons (mono_V _) (amF_cons (mono_V _) (amF_cons (mono_V _) (amF_cons (mono_V _) (amF_cons (mono_V _) (amF_cons (mono_V _) (amF_cons (mono_V _) (amF_cons (mono_V _) (amF_cons (mono_V _) (amF_cons (mono_V _) (amF_cons (mono_V _) (amF_cons (mono_V _) (amF_cons (mono_V _) (amF_cons (mono_V _) (amF_cons (mono_V _) (amF_cons (mono_V _) amF_nil)))))))))))))))))))))) Z ?_ (fun f w_ H118 hS118 hE118 hT118 Z=>?_)
 refine opsS_cons (fun f w_ _ _ s _ _ Z=>mF ((s 6 rfl).trans rfl) rfl (nO rfl rfl Z)) (opsS_cons (fun f w_ _ _ s _ _ Z=>L_lda (cs:=[r21_0,r21_1]) rfl Tryz.isAgg25 Tryz.sizeOf25 ((s 5 rfl).trans rfl) (At.sub0 (Blk.at (Star.blkAt 3 Z rfl)) 0 2) rfl (nO rfl rfl Z)) (opsS_cons ?_ ?_))
 intro f w_ H118 X118 hS118 hE118 hP118 Z
 obtain ⟨H133b,l134,s135,z136,k137⟩:=Z.borrow
 have hb138 : (rS 3 RP.int).rel H133b [r21_0] x9.sizes:=fz_own 4 z136 rfl
 have hb139 : (rS 49 (rRule 3 22)).rel H133b [r21_1] x9.rules:=fz_own 5 z136 rfl
 refine L_call rfl Tryz.call14 (ops1 (hP118 1 32 rfl rfl)) (s_FormatModel_c (m:=x9) s135 hb138 hb139 hx74) ?_
 rintro _ w140 ⟨rfl,Z⟩
 have Z:=k137 Z c0
 exact L_nil ⟨rfl,_,_,rfl,Le.refl _,fun _ _=>rfl,Z⟩
 refine opsS_cons (fun f w_ _ _ _ _ p Z=>L_sneq (s:=x34) (s':=x74) rfl (p 0 31 rfl rfl) (p 2 33 rfl rfl) (nO rfl rfl Z)) (opsS_cons (fun f w_ _ _ _ _ p Z=>mF (p 3 34 rfl rfl) rfl (nO rfl rfl Z)) (oP (fun _ _ p=>gN (p 4 35 rfl rfl) hc122 rfl) (fun _=>rfl) (oP (fun _ _ p=>gN (p 4 35 rfl rfl) hc122 rfl) (fun _=>rfl) (oP (fun _ _ p=>gN (p 4 35 rfl rfl) hc122 rfl) (fun _=>rfl) (oP (fun _ _ p=>gN (p 4 35 rfl rfl) hc122 rfl) (fun _=>rfl) (oP (fun _ _ p=>gN (p 4 35 rfl rfl) hc122 rfl) (fun _=>rfl) (opsS_cons (fun f w_ _ _ _ _ p Z=>pkT (v:=Bo b94) (p 4 35 rfl rfl) hc122 rfl (congrArg Value.bool (so hb94)) (nO rfl rfl Z)) (opsS_cons (fun f w_ _ _ _ _ p Z=>mF (p 10 41 rfl rfl) rfl (nO rfl rfl Z)) (oP (fun _ _ p=>gN (p 11 42 rfl rfl) hc123 rfl) (fun _=>rfl) (oP (fun _ _ p=>gN (p 11 42 rfl rfl) hc123 rfl) (fun _=>rfl) (oP (fun _ _ p=>gN (p 11 42 rfl rfl) hc123 rfl) (fun _=>rfl) (oP (fun _ _ p=>gN (p 11 42 rfl rfl) hc123 rfl) (fun _=>rfl) (opsS_cons (fun f w_ _ _ _ _ p Z=>pkT (v:=Bo b104) (p 11 42 rfl rfl) hc123 rfl (congrArg Value.bool (so hb104)) (nO rfl rfl Z)) (opsS_cons (fun f w_ _ _ _ _ p Z=>mF (p 16 47 rfl rfl) rfl (nO rfl rfl Z)) (oP (fun _ _ p=>gN (p 17 48 rfl rfl) hc124 rfl) (fun _=>rfl) (oP (fun _ _ p=>gN (p 17 48 rfl rfl) hc124 rfl) (fun _=>rfl) (oP (fun _ _ p=>g_undef rfl (p 19 50 rfl rfl) rfl) (fun _=>rfl) (oP (fun _ _ p=>g_undef rfl (p 19 50 rfl rfl) rfl) (fun _=>rfl) (opsS_nil)))))))))))))))))))
 refine ps (g_undef rfl (hT118 19 50 rfl rfl) rfl) (ps (g_undef rfl (hT118 19 50 rfl rfl) rfl) (ps (g_no rfl (Eq.trans (hT118 17 48 rfl rfl) (congrArg Value.bool hc124)) rfl rfl) (L_pick (v:=Bo b117) rfl (Eq.trans (hT118 17 48 rfl rfl) (congrArg Value.bool hc124)) (congrArg Value.bool (so hb117)) (nn (rj hR121 ⟨H118,hE118,((hS118 1 rfl).trans sf1),rfl,(Star.keepN 0 Z)⟩)))))
 rw [ite_f hc124] at hb117
 obtain ⟨b116,hb116,hb117⟩:=bind_some hb117
 rcases Bool.eq_false_or_eq_true x49.2 with hc141 | hc141
 rw [ite_t hc141] at hb116
 obtain ⟨x114,hx114,hb116⟩:=bind_some hb116
 refine W_drawS 22 [isV (.string x34),isV (.agg #[r21_0,r21_1]),isV (.string x74),isV (Bo (!(ByteArray.toList x34 == ByteArray.toList x74))),isV (Bo (!(ByteArray.toList x34 == ByteArray.toList x74))),isV (undef),isV (undef),isV (undef),isV (undef),isV (undef),isV (Bo b94),isV (Bo b94),isV (undef),isV (undef),isV (undef),isV (undef),isV (Bo b104),isV (Bo b104),isV (Bo x49.2),isV (Bo x49.2),isV (.agg #[r61_0,r61_1]),isV (.agg #[r21_0,r21_1])] [box g64 25 #[r61_0,r61_1],oF 3 RP.int r61_0 x49.1.sizes,oS 49 (oRule 3 22) r61_1 x49.1.rules,box g24 25 #[r21_0,r21_1],oF 3 RP.int r21_0 x9.sizes,oS 49 (oRule 3 22) r21_1 x9.rules] [] ([]) [([],[]),([],[]),([],[]),([],[]),([],[]),([],[]),([],[]),([],[]),([],[]),([],[]),([],[]),([],[]),([],[]),([],[]),([],[]),([],[]),([],[]),([],[]),([],[]),([],[]),([],[]),([],[])] (S:=[]) Tryz_mix (by kernel_rfl) rfl (by kernel_rfl) (amF_cons (mono_V _) (amF_cons (mono_V _) (amF_cons (mono_V _) (amF_cons (mono_V _) (amF_cons (mono_V _) (amF_cons (mono_V _) (amF_cons (mono_V _) (amF_cons (mono_V _) (amF_cons (mono_V _) (amF_cons (mono_V _) (amF_cons (mono_V _) (amF_cons (mono_V _) (amF_cons (mono_V _) (amF_cons (mono_V _) (amF_cons (mono_V _) (amF_cons (mono_V _) (amF_cons (mono_V _) (amF_cons (mono_V _) (amF_cons (mono_V _) (amF_cons (mono_V _) (amF_cons (mono_V _) (amF_cons (mono_V _) amF_nil)))))))))))))))))))))) Z ?_ (fun f w_ H118 hS118 hE118 hT118 Z=>?_)
 refine opsS_cons (fun f w_ _ _ s _ _ Z=>mF ((s 6 rfl).trans rfl) rfl (nO rfl rfl Z)) (opsS_cons (fun f w_ _ _ s _ _ Z=>L_lda (cs:=[r21_0,r21_1]) rfl Tryz.isAgg25 Tryz.sizeOf25 ((s 5 rfl).trans rfl) (At.sub0 (Blk.at (Star.blkAt 3 Z rfl)) 0 2) rfl (nO rfl rfl Z)) (opsS_cons ?_ ?_))
 intro f w_ H118 X118 hS118 hE118 hP118 Z
 obtain ⟨H150b,l151,s152,z153,k154⟩:=Z.borrow
 have hb155 : (rS 3 RP.int).rel H150b [r21_0] x9.sizes:=fz_own 4 z153 rfl
 have hb156 : (rS 49 (rRule 3 22)).rel H150b [r21_1] x9.rules:=fz_own 5 z153 rfl
 refine L_call rfl Tryz.call14 (ops1 (hP118 1 32 rfl rfl)) (s_FormatModel_c (m:=x9) s152 hb155 hb156 hx74) ?_
 rintro _ w157 ⟨rfl,Z⟩
 have Z:=k154 Z c0
 exact L_nil ⟨rfl,_,_,rfl,Le.refl _,fun _ _=>rfl,Z⟩
 refine opsS_cons (fun f w_ _ _ _ _ p Z=>L_sneq (s:=x34) (s':=x74) rfl (p 0 31 rfl rfl) (p 2 33 rfl rfl) (nO rfl rfl Z)) (opsS_cons (fun f w_ _ _ _ _ p Z=>mF (p 3 34 rfl rfl) rfl (nO rfl rfl Z)) (oP (fun _ _ p=>gN (p 4 35 rfl rfl) hc122 rfl) (fun _=>rfl) (oP (fun _ _ p=>gN (p 4 35 rfl rfl) hc122 rfl) (fun _=>rfl) (oP (fun _ _ p=>gN (p 4 35 rfl rfl) hc122 rfl) (fun _=>rfl) (oP (fun _ _ p=>gN (p 4 35 rfl rfl) hc122 rfl) (fun _=>rfl) (oP (fun _ _ p=>gN (p 4 35 rfl rfl) hc122 rfl) (fun _=>rfl) (opsS_cons (fun f w_ _ _ _ _ p Z=>pkT (v:=Bo b94) (p 4 35 rfl rfl) hc122 rfl (congrArg Value.bool (so hb94)) (nO rfl rfl Z)) (opsS_cons (fun f w_ _ _ _ _ p Z=>mF (p 10 41 rfl rfl) rfl (nO rfl rfl Z)) (oP (fun _ _ p=>gN (p 11 42 rfl rfl) hc123 rfl) (fun _=>rfl) (oP (fun _ _ p=>gN (p 11 42 rfl rfl) hc123 rfl) (fun _=>rfl) (oP (fun _ _ p=>gN (p 11 42 rfl rfl) hc123 rfl) (fun _=>rfl) (oP (fun _ _ p=>gN (p 11 42 rfl rfl) hc123 rfl) (fun _=>rfl) (opsS_cons (fun f w_ _ _ _ _ p Z=>pkT (v:=Bo b104) (p 11 42 rfl rfl) hc123 rfl (congrArg Value.bool (so hb104)) (nO rfl rfl Z)) (opsS_cons (fun f w_ _ _ _ _ p Z=>mF (p 16 47 rfl rfl) rfl (nO rfl rfl Z)) (opsS_cons (fun f w_ _ _ s _ p Z=>L_mv (v:=Bo x49.2) (g_yes rfl (Eq.trans (p 17 48 rfl rfl) (congrArg Value.bool hc124)) rfl) ((s 8 rfl).trans rfl) (nO rfl rfl Z)) (opsS_cons (fun f w_ _ _ _ _ p Z=>L_mv (v:=Bo x49.2) (g_yes rfl (Eq.trans (p 17 48 rfl rfl) (congrArg Value.bool hc124)) rfl) (p 18 49 rfl rfl) (nO rfl rfl Z)) (opsS_cons (fun f w_ _ _ s _ p Z=>L_lda (cs:=[r61_0,r61_1]) (g_yes rfl (Eq.trans (p 19 50 rfl rfl) (congrArg Value.bool hc141)) rfl) Tryz.isAgg25 Tryz.sizeOf25 ((s 7 rfl).trans rfl) (At.sub0 (Blk.at (Star.blkAt 0 Z rfl)) 0 2) rfl (nO rfl rfl Z)) (opsS_cons (fun f w_ _ _ s _ p Z=>L_lda (cs:=[r21_0,r21_1]) (g_yes rfl (Eq.trans (p 19 50 rfl rfl) (congrArg Value.bool hc141)) rfl) Tryz.isAgg25 Tryz.sizeOf25 ((s 5 rfl).trans rfl) (At.sub0 (Blk.at (Star.blkAt 3 Z rfl)) 0 2) rfl (nO rfl rfl Z)) (opsS_nil)))))))))))))))))))
 obtain ⟨H158b,l159,s160,z161,k162⟩:=Z.borrow
 have hb163 : (rS 3 RP.int).rel H158b [r61_0] x49.1.sizes:=fz_own 1 z161 rfl
 have hb164 : (rS 49 (rRule 3 22)).rel H158b [r61_1] x49.1.rules:=fz_own 2 z161 rfl
 have hb165 : (rS 3 RP.int).rel H158b [r21_0] x9.sizes:=fz_own 4 z161 rfl
 have hb166 : (rS 49 (rRule 3 22)).rel H158b [r21_1] x9.rules:=fz_own 5 z161 rfl
 refine L_call (g_yes rfl (Eq.trans (hT118 19 50 rfl rfl) (congrArg Value.bool hc141)) rfl) Tryz.call17 (ops2 (hT118 20 51 rfl rfl) (hT118 21 52 rfl rfl)) (i_ModelSame_c (a:=x49.1) (b:=x9) s160 hb163 hb164 hb165 hb166 hx114) ?_
 rintro _ w167 ⟨rfl,Z⟩
 have Z:=k162 Z c0
 refine L_not_ (g_yes rfl (Eq.trans (hT118 19 50 rfl rfl) (congrArg Value.bool hc141)) rfl) rfl (L_pick (v:=Bo b116) (g_yes rfl (Eq.trans (hT118 17 48 rfl rfl) (congrArg Value.bool hc124)) rfl) (Eq.trans (hT118 19 50 rfl rfl) (congrArg Value.bool hc141)) (congrArg Value.bool (so hb116)) (L_pick (v:=Bo b117) rfl (Eq.trans (hT118 17 48 rfl rfl) (congrArg Value.bool hc124)) (congrArg Value.bool (so hb117)) (nn (rj hR121 ⟨H118,hE118,((hS118 1 rfl).trans sf1),rfl,(Star.keepN 0 Z)⟩))))
 rw [ite_f hc141] at hb116
 refine W_drawS 22 [isV (.string x34),isV (.agg #[r21_0,r21_1]),isV (.string x74),isV (Bo (!(ByteArray.toList x34 == ByteArray.toList x74))),isV (Bo (!(ByteArray.toList x34 == ByteArray.toList x74))),isV (undef),isV (undef),isV (undef),isV (undef),isV (undef),isV (Bo b94),isV (Bo b94),isV (undef),isV (undef),isV (undef),isV (undef),isV (Bo b104),isV (Bo b104),isV (Bo x49.2),isV (Bo x49.2),isV (undef),isV (undef)] [box g64 25 #[r61_0,r61_1],oF 3 RP.int r61_0 x49.1.sizes,oS 49 (oRule 3 22) r61_1 x49.1.rules,box g24 25 #[r21_0,r21_1],oF 3 RP.int r21_0 x9.sizes,oS 49 (oRule 3 22) r21_1 x9.rules] [] ([]) [([],[]),([],[]),([],[]),([],[]),([],[]),([],[]),([],[]),([],[]),([],[]),([],[]),([],[]),([],[]),([],[]),([],[]),([],[]),([],[]),([],[]),([],[]),([],[]),([],[]),([],[]),([],[])] (S:=[]) Tryz_mix (by kernel_rfl) rfl (by kernel_rfl) (amF_cons (mono_V _) (amF_cons (mono_V _) (amF_cons (mono_V _) (amF_cons (mono_V _) (amF_cons (mono_V _) (amF_cons (mono_V _) (amF_cons (mono_V _) (amF_cons (mono_V _) (amF_cons (mono_V _) (amF_cons (mono_V _) (amF_cons (mono_V _) (amF_cons (mono_V _) (amF_cons (mono_V _) (amF_cons (mono_V _) (amF_cons (mono_V _) (amF_cons (mono_V _) (amF_cons (mono_V _) (amF_cons (mono_V _) (amF_cons (mono_V _) (amF_cons (mono_V _) (amF_cons (mono_V _) (amF_cons (mono_V _) amF_nil)))))))))))))))))))))) Z ?_ (fun f w_ H118 hS118 hE118 hT118 Z=>?_)
 refine opsS_cons (fun f w_ _ _ s _ _ Z=>mF ((s 6 rfl).trans rfl) rfl (nO rfl rfl Z)) (opsS_cons (fun f w_ _ _ s _ _ Z=>L_lda (cs:=[r21_0,r21_1]) rfl Tryz.isAgg25 Tryz.sizeOf25 ((s 5 rfl).trans rfl) (At.sub0 (Blk.at (Star.blkAt 3 Z rfl)) 0 2) rfl (nO rfl rfl Z)) (opsS_cons ?_ ?_))
 intro f w_ H118 X118 hS118 hE118 hP118 Z
 obtain ⟨H176b,l177,s178,z179,k180⟩:=Z.borrow
 have hb181 : (rS 3 RP.int).rel H176b [r21_0] x9.sizes:=fz_own 4 z179 rfl
 have hb182 : (rS 49 (rRule 3 22)).rel H176b [r21_1] x9.rules:=fz_own 5 z179 rfl
 refine L_call rfl Tryz.call14 (ops1 (hP118 1 32 rfl rfl)) (s_FormatModel_c (m:=x9) s178 hb181 hb182 hx74) ?_
 rintro _ w183 ⟨rfl,Z⟩
 have Z:=k180 Z c0
 exact L_nil ⟨rfl,_,_,rfl,Le.refl _,fun _ _=>rfl,Z⟩
 refine opsS_cons (fun f w_ _ _ _ _ p Z=>L_sneq (s:=x34) (s':=x74) rfl (p 0 31 rfl rfl) (p 2 33 rfl rfl) (nO rfl rfl Z)) (opsS_cons (fun f w_ _ _ _ _ p Z=>mF (p 3 34 rfl rfl) rfl (nO rfl rfl Z)) (oP (fun _ _ p=>gN (p 4 35 rfl rfl) hc122 rfl) (fun _=>rfl) (oP (fun _ _ p=>gN (p 4 35 rfl rfl) hc122 rfl) (fun _=>rfl) (oP (fun _ _ p=>gN (p 4 35 rfl rfl) hc122 rfl) (fun _=>rfl) (oP (fun _ _ p=>gN (p 4 35 rfl rfl) hc122 rfl) (fun _=>rfl) (oP (fun _ _ p=>gN (p 4 35 rfl rfl) hc122 rfl) (fun _=>rfl) (opsS_cons (fun f w_ _ _ _ _ p Z=>pkT (v:=Bo b94) (p 4 35 rfl rfl) hc122 rfl (congrArg Value.bool (so hb94)) (nO rfl rfl Z)) (opsS_cons (fun f w_ _ _ _ _ p Z=>mF (p 10 41 rfl rfl) rfl (nO rfl rfl Z)) (oP (fun _ _ p=>gN (p 11 42 rfl rfl) hc123 rfl) (fun _=>rfl) (oP (fun _ _ p=>gN (p 11 42 rfl rfl) hc123 rfl) (fun _=>rfl) (oP (fun _ _ p=>gN (p 11 42 rfl rfl) hc123 rfl) (fun _=>rfl) (oP (fun _ _ p=>gN (p 11 42 rfl rfl) hc123 rfl) (fun _=>rfl) (opsS_cons (fun f w_ _ _ _ _ p Z=>pkT (v:=Bo b104) (p 11 42 rfl rfl) hc123 rfl (congrArg Value.bool (so hb104)) (nO rfl rfl Z)) (opsS_cons (fun f w_ _ _ _ _ p Z=>mF (p 16 47 rfl rfl) rfl (nO rfl rfl Z)) (opsS_cons (fun f w_ _ _ s _ p Z=>L_mv (v:=Bo x49.2) (g_yes rfl (Eq.trans (p 17 48 rfl rfl) (congrArg Value.bool hc124)) rfl) ((s 8 rfl).trans rfl) (nO rfl rfl Z)) (opsS_cons (fun f w_ _ _ _ _ p Z=>L_mv (v:=Bo x49.2) (g_yes rfl (Eq.trans (p 17 48 rfl rfl) (congrArg Value.bool hc124)) rfl) (p 18 49 rfl rfl) (nO rfl rfl Z)) (oP (fun _ _ p=>gN (p 19 50 rfl rfl) hc141 rfl) (fun _=>rfl) (oP (fun _ _ p=>gN (p 19 50 rfl rfl) hc141 rfl) (fun _=>rfl) (opsS_nil)))))))))))))))))))
 refine ps (g_no rfl (Eq.trans (hT118 19 50 rfl rfl) (congrArg Value.bool hc141)) rfl rfl) (ps (g_no rfl (Eq.trans (hT118 19 50 rfl rfl) (congrArg Value.bool hc141)) rfl rfl) (L_pick (v:=Bo b116) (g_yes rfl (Eq.trans (hT118 17 48 rfl rfl) (congrArg Value.bool hc124)) rfl) (Eq.trans (hT118 19 50 rfl rfl) (congrArg Value.bool hc141)) (congrArg Value.bool (so hb116)) (L_pick (v:=Bo b117) rfl (Eq.trans (hT118 17 48 rfl rfl) (congrArg Value.bool hc124)) (congrArg Value.bool (so hb117)) (nn (rj hR121 ⟨H118,hE118,((hS118 1 rfl).trans sf1),rfl,(Star.keepN 0 Z)⟩)))))
 rw [ite_f hc123] at hb104
 obtain ⟨x102,hx102,hb104⟩:=bind_some hb104
 rcases Bool.eq_false_or_eq_true b104 with hc184 | hc184
 rw [ite_t hc184] at hb117
 refine W_drawS 22 [isV (.string x34),isV (.agg #[r21_0,r21_1]),isV (.string x74),isV (Bo (!(ByteArray.toList x34 == ByteArray.toList x74))),isV (Bo (!(ByteArray.toList x34 == ByteArray.toList x74))),isV (undef),isV (undef),isV (undef),isV (undef),isV (undef),isV (Bo b94),isV (Bo b94),isV (Bo x49.2),isV (.agg #[r21_0,r21_1]),isV (Bo x102),isV (Bo (x49.2 != x102)),isV (Bo b104),isV (Bo b104),isV (undef),isV (undef),isV (undef),isV (undef)] [box g64 25 #[r61_0,r61_1],oF 3 RP.int r61_0 x49.1.sizes,oS 49 (oRule 3 22) r61_1 x49.1.rules,box g24 25 #[r21_0,r21_1],oF 3 RP.int r21_0 x9.sizes,oS 49 (oRule 3 22) r21_1 x9.rules] [] ([]) [([],[]),([],[]),([],[]),([],[]),([],[]),([],[]),([],[]),([],[]),([],[]),([],[]),([],[]),([],[]),([],[]),([],[]),([],[]),([],[]),([],[]),([],[]),([],[]),([],[]),([],[]),([],[])] (S:=[]) Tryz_mix (by kernel_rfl) rfl (by kernel_rfl) (amF_cons (mono_V _) (amF_cons (mono_V _) (amF_cons (mono_V _) (amF_cons (mono_V _) (amF_cons (mono_V _) (amF_cons (mono_V _) (amF_cons (mono_V _) (amF_cons (mono_V _) (amF_cons (mono_V _) (amF_cons (mono_V _) (amF_cons (mono_V _) (amF_cons (mono_V _) (amF_cons (mono_V _) (amF_cons (mono_V _) (amF_cons (mono_V _) (amF_cons (mono_V _) (amF_cons (mono_V _) (amF_cons (mono_V _) (amF_cons (mono_V _) (amF_cons (mono_V _) (amF_cons (mono_V _) (amF_cons (mono_V _) amF_nil)))))))))))))))))))))) Z ?_ (fun f w_ H118 hS118 hE118 hT118 Z=>?_)
 refine opsS_cons (fun f w_ _ _ s _ _ Z=>mF ((s 6 rfl).trans rfl) rfl (nO rfl rfl Z)) (opsS_cons (fun f w_ _ _ s _ _ Z=>L_lda (cs:=[r21_0,r21_1]) rfl Tryz.isAgg25 Tryz.sizeOf25 ((s 5 rfl).trans rfl) (At.sub0 (Blk.at (Star.blkAt 3 Z rfl)) 0 2) rfl (nO rfl rfl Z)) (opsS_cons ?_ ?_))
 intro f w_ H118 X118 hS118 hE118 hP118 Z
 obtain ⟨H201b,l202,s203,z204,k205⟩:=Z.borrow
 have hb206 : (rS 3 RP.int).rel H201b [r21_0] x9.sizes:=fz_own 4 z204 rfl
 have hb207 : (rS 49 (rRule 3 22)).rel H201b [r21_1] x9.rules:=fz_own 5 z204 rfl
 refine L_call rfl Tryz.call14 (ops1 (hP118 1 32 rfl rfl)) (s_FormatModel_c (m:=x9) s203 hb206 hb207 hx74) ?_
 rintro _ w208 ⟨rfl,Z⟩
 have Z:=k205 Z c0
 exact L_nil ⟨rfl,_,_,rfl,Le.refl _,fun _ _=>rfl,Z⟩
 refine opsS_cons (fun f w_ _ _ _ _ p Z=>L_sneq (s:=x34) (s':=x74) rfl (p 0 31 rfl rfl) (p 2 33 rfl rfl) (nO rfl rfl Z)) (opsS_cons (fun f w_ _ _ _ _ p Z=>mF (p 3 34 rfl rfl) rfl (nO rfl rfl Z)) (oP (fun _ _ p=>gN (p 4 35 rfl rfl) hc122 rfl) (fun _=>rfl) (oP (fun _ _ p=>gN (p 4 35 rfl rfl) hc122 rfl) (fun _=>rfl) (oP (fun _ _ p=>gN (p 4 35 rfl rfl) hc122 rfl) (fun _=>rfl) (oP (fun _ _ p=>gN (p 4 35 rfl rfl) hc122 rfl) (fun _=>rfl) (oP (fun _ _ p=>gN (p 4 35 rfl rfl) hc122 rfl) (fun _=>rfl) (opsS_cons (fun f w_ _ _ _ _ p Z=>pkT (v:=Bo b94) (p 4 35 rfl rfl) hc122 rfl (congrArg Value.bool (so hb94)) (nO rfl rfl Z)) (opsS_cons (fun f w_ _ _ _ _ p Z=>mF (p 10 41 rfl rfl) rfl (nO rfl rfl Z)) (opsS_cons (fun f w_ _ _ s _ p Z=>L_mv (v:=Bo x49.2) (g_yes rfl (Eq.trans (p 11 42 rfl rfl) (congrArg Value.bool hc123)) rfl) ((s 8 rfl).trans rfl) (nO rfl rfl Z)) (opsS_cons (fun f w_ _ _ s _ p Z=>L_lda (cs:=[r21_0,r21_1]) (g_yes rfl (Eq.trans (p 11 42 rfl rfl) (congrArg Value.bool hc123)) rfl) Tryz.isAgg25 Tryz.sizeOf25 ((s 5 rfl).trans rfl) (At.sub0 (Blk.at (Star.blkAt 3 Z rfl)) 0 2) rfl (nO rfl rfl Z)) (opsS_cons ?_ ?_)))))))))))
 intro f w_ H118 X118 hS118 hE118 hP118 Z
 obtain ⟨H209b,l210,s211,z212,k213⟩:=Z.borrow
 have hb214 : (rS 3 RP.int).rel H209b [r21_0] x9.sizes:=fz_own 4 z212 rfl
 have hb215 : (rS 49 (rRule 3 22)).rel H209b [r21_1] x9.rules:=fz_own 5 z212 rfl
 refine L_call (g_yes rfl (Eq.trans (hP118 11 42 rfl rfl) (congrArg Value.bool hc123)) rfl) Tryz.call16 (ops1 (hP118 13 44 rfl rfl)) (s_ModelValid_c (m:=x9) s211 hb214 hb215 hx102) ?_
 rintro _ w216 ⟨rfl,Z⟩
 have Z:=k213 Z c0
 exact L_nil ⟨rfl,_,_,rfl,Le.refl _,fun _ _=>rfl,Z⟩
 refine opsS_cons (fun f w_ _ _ _ _ p Z=>L_bneq (b:=x49.2) (c:=x102) (g_yes rfl (Eq.trans (p 11 42 rfl rfl) (congrArg Value.bool hc123)) rfl) Tryz.underlying4 (p 12 43 rfl rfl) (p 14 45 rfl rfl) (nO rfl rfl Z)) (opsS_cons (fun f w_ _ _ _ _ p Z=>pkT (v:=Bo b104) (p 11 42 rfl rfl) hc123 rfl (Eq.trans (p 15 46 rfl rfl) (congrArg Value.bool (so hb104))) (nO rfl rfl Z)) (opsS_cons (fun f w_ _ _ _ _ p Z=>mF (p 16 47 rfl rfl) rfl (nO rfl rfl Z)) (oP (fun _ _ p=>gN (p 17 48 rfl rfl) hc184 rfl) (fun _=>rfl) (oP (fun _ _ p=>gN (p 17 48 rfl rfl) hc184 rfl) (fun _=>rfl) (oP (fun _ _ p=>g_undef rfl (p 19 50 rfl rfl) rfl) (fun _=>rfl) (oP (fun _ _ p=>g_undef rfl (p 19 50 rfl rfl) rfl) (fun _=>rfl) (opsS_nil)))))))
 refine ps (g_undef rfl (hT118 19 50 rfl rfl) rfl) (ps (g_undef rfl (hT118 19 50 rfl rfl) rfl) (ps (g_no rfl (Eq.trans (hT118 17 48 rfl rfl) (congrArg Value.bool hc184)) rfl rfl) (L_pick (v:=Bo b117) rfl (Eq.trans (hT118 17 48 rfl rfl) (congrArg Value.bool hc184)) (congrArg Value.bool (so hb117)) (nn (rj hR121 ⟨H118,hE118,((hS118 1 rfl).trans sf1),rfl,(Star.keepN 0 Z)⟩)))))
 rw [ite_f hc184] at hb117
 obtain ⟨b116,hb116,hb117⟩:=bind_some hb117
 rcases Bool.eq_false_or_eq_true x49.2 with hc217 | hc217
 rw [ite_t hc217] at hb116
 obtain ⟨x114,hx114,hb116⟩:=bind_some hb116
 refine W_drawS 22 [isV (.string x34),isV (.agg #[r21_0,r21_1]),isV (.string x74),isV (Bo (!(ByteArray.toList x34 == ByteArray.toList x74))),isV (Bo (!(ByteArray.toList x34 == ByteArray.toList x74))),isV (undef),isV (undef),isV (undef),isV (undef),isV (undef),isV (Bo b94),isV (Bo b94),isV (Bo x49.2),isV (.agg #[r21_0,r21_1]),isV (Bo x102),isV (Bo (x49.2 != x102)),isV (Bo b104),isV (Bo b104),isV (Bo x49.2),isV (Bo x49.2),isV (.agg #[r61_0,r61_1]),isV (.agg #[r21_0,r21_1])] [box g64 25 #[r61_0,r61_1],oF 3 RP.int r61_0 x49.1.sizes,oS 49 (oRule 3 22) r61_1 x49.1.rules,box g24 25 #[r21_0,r21_1],oF 3 RP.int r21_0 x9.sizes,oS 49 (oRule 3 22) r21_1 x9.rules] [] ([]) [([],[]),([],[]),([],[]),([],[]),([],[]),([],[]),([],[]),([],[]),([],[]),([],[]),([],[]),([],[]),([],[]),([],[]),([],[]),([],[]),([],[]),([],[]),([],[]),([],[]),([],[]),([],[])] (S:=[]) Tryz_mix (by kernel_rfl) rfl (by kernel_rfl) (amF_cons (mono_V _) (amF_cons (mono_V _) (amF_cons (mono_V _) (amF_cons (mono_V _) (amF_cons (mono_V _) (amF_cons (mono_V _) (amF_cons (mono_V _) (amF_cons (mono_V _) (amF_cons (mono_V _) (amF_cons (mono_V _) (amF_cons (mono_V _) (amF_cons (mono_V _) (amF_cons (mono_V _) (amF_cons (mono_V _) (amF_cons (mono_V _) (amF_cons (mono_V _) (amF_cons (mono_V _) (amF_cons (mono_V _) (amF_cons (mono_V _) (amF_cons (mono_V _) (amF_cons (mono_V _) (amF_cons (mono_V _) amF_nil)))))))))))))))))))))) Z ?_ (fun f w_ H118 hS118 hE118 hT118 Z=>?_)
 refine opsS_cons (fun f w_ _ _ s _ _ Z=>mF ((s 6 rfl).trans rfl) rfl (nO rfl rfl Z)) (opsS_cons (fun f w_ _ _ s _ _ Z=>L_lda (cs:=[r21_0,r21_1]) rfl Tryz.isAgg25 Tryz.sizeOf25 ((s 5 rfl).trans rfl) (At.sub0 (Blk.at (Star.blkAt 3 Z rfl)) 0 2) rfl (nO rfl rfl Z)) (opsS_cons ?_ ?_))
 intro f w_ H118 X118 hS118 hE118 hP118 Z
 obtain ⟨H234b,l235,s236,z237,k238⟩:=Z.borrow
 have hb239 : (rS 3 RP.int).rel H234b [r21_0] x9.sizes:=fz_own 4 z237 rfl
 have hb240 : (rS 49 (rRule 3 22)).rel H234b [r21_1] x9.rules:=fz_own 5 z237 rfl
 refine L_call rfl Tryz.call14 (ops1 (hP118 1 32 rfl rfl)) (s_FormatModel_c (m:=x9) s236 hb239 hb240 hx74) ?_
 rintro _ w241 ⟨rfl,Z⟩
 have Z:=k238 Z c0
 exact L_nil ⟨rfl,_,_,rfl,Le.refl _,fun _ _=>rfl,Z⟩
 refine opsS_cons (fun f w_ _ _ _ _ p Z=>L_sneq (s:=x34) (s':=x74) rfl (p 0 31 rfl rfl) (p 2 33 rfl rfl) (nO rfl rfl Z)) (opsS_cons (fun f w_ _ _ _ _ p Z=>mF (p 3 34 rfl rfl) rfl (nO rfl rfl Z)) (oP (fun _ _ p=>gN (p 4 35 rfl rfl) hc122 rfl) (fun _=>rfl) (oP (fun _ _ p=>gN (p 4 35 rfl rfl) hc122 rfl) (fun _=>rfl) (oP (fun _ _ p=>gN (p 4 35 rfl rfl) hc122 rfl) (fun _=>rfl) (oP (fun _ _ p=>gN (p 4 35 rfl rfl) hc122 rfl) (fun _=>rfl) (oP (fun _ _ p=>gN (p 4 35 rfl rfl) hc122 rfl) (fun _=>rfl) (opsS_cons (fun f w_ _ _ _ _ p Z=>pkT (v:=Bo b94) (p 4 35 rfl rfl) hc122 rfl (congrArg Value.bool (so hb94)) (nO rfl rfl Z)) (opsS_cons (fun f w_ _ _ _ _ p Z=>mF (p 10 41 rfl rfl) rfl (nO rfl rfl Z)) (opsS_cons (fun f w_ _ _ s _ p Z=>L_mv (v:=Bo x49.2) (g_yes rfl (Eq.trans (p 11 42 rfl rfl) (congrArg Value.bool hc123)) rfl) ((s 8 rfl).trans rfl) (nO rfl rfl Z)) (opsS_cons (fun f w_ _ _ s _ p Z=>L_lda (cs:=[r21_0,r21_1]) (g_yes rfl (Eq.trans (p 11 42 rfl rfl) (congrArg Value.bool hc123)) rfl) Tryz.isAgg25 Tryz.sizeOf25 ((s 5 rfl).trans rfl) (At.sub0 (Blk.at (Star.blkAt 3 Z rfl)) 0 2) rfl (nO rfl rfl Z)) (opsS_cons ?_ ?_)))))))))))
 intro f w_ H118 X118 hS118 hE118 hP118 Z
 obtain ⟨H242b,l243,s244,z245,k246⟩:=Z.borrow
 have hb247 : (rS 3 RP.int).rel H242b [r21_0] x9.sizes:=fz_own 4 z245 rfl
 have hb248 : (rS 49 (rRule 3 22)).rel H242b [r21_1] x9.rules:=fz_own 5 z245 rfl
 refine L_call (g_yes rfl (Eq.trans (hP118 11 42 rfl rfl) (congrArg Value.bool hc123)) rfl) Tryz.call16 (ops1 (hP118 13 44 rfl rfl)) (s_ModelValid_c (m:=x9) s244 hb247 hb248 hx102) ?_
 rintro _ w249 ⟨rfl,Z⟩
 have Z:=k246 Z c0
 exact L_nil ⟨rfl,_,_,rfl,Le.refl _,fun _ _=>rfl,Z⟩
 refine opsS_cons (fun f w_ _ _ _ _ p Z=>L_bneq (b:=x49.2) (c:=x102) (g_yes rfl (Eq.trans (p 11 42 rfl rfl) (congrArg Value.bool hc123)) rfl) Tryz.underlying4 (p 12 43 rfl rfl) (p 14 45 rfl rfl) (nO rfl rfl Z)) (opsS_cons (fun f w_ _ _ _ _ p Z=>pkT (v:=Bo b104) (p 11 42 rfl rfl) hc123 rfl (Eq.trans (p 15 46 rfl rfl) (congrArg Value.bool (so hb104))) (nO rfl rfl Z)) (opsS_cons (fun f w_ _ _ _ _ p Z=>mF (p 16 47 rfl rfl) rfl (nO rfl rfl Z)) (opsS_cons (fun f w_ _ _ s _ p Z=>L_mv (v:=Bo x49.2) (g_yes rfl (Eq.trans (p 17 48 rfl rfl) (congrArg Value.bool hc184)) rfl) ((s 8 rfl).trans rfl) (nO rfl rfl Z)) (opsS_cons (fun f w_ _ _ _ _ p Z=>L_mv (v:=Bo x49.2) (g_yes rfl (Eq.trans (p 17 48 rfl rfl) (congrArg Value.bool hc184)) rfl) (p 18 49 rfl rfl) (nO rfl rfl Z)) (opsS_cons (fun f w_ _ _ s _ p Z=>L_lda (cs:=[r61_0,r61_1]) (g_yes rfl (Eq.trans (p 19 50 rfl rfl) (congrArg Value.bool hc217)) rfl) Tryz.isAgg25 Tryz.sizeOf25 ((s 7 rfl).trans rfl) (At.sub0 (Blk.at (Star.blkAt 0 Z rfl)) 0 2) rfl (nO rfl rfl Z)) (opsS_cons (fun f w_ _ _ s _ p Z=>L_lda (cs:=[r21_0,r21_1]) (g_yes rfl (Eq.trans (p 19 50 rfl rfl) (congrArg Value.bool hc217)) rfl) Tryz.isAgg25 Tryz.sizeOf25 ((s 5 rfl).trans rfl) (At.sub0 (Blk.at (Star.blkAt 3 Z rfl)) 0 2) rfl (nO rfl rfl Z)) (opsS_nil)))))))
 obtain ⟨H250b,l251,s252,z253,k254⟩:=Z.borrow
 have hb255 : (rS 3 RP.int).rel H250b [r61_0] x49.1.sizes:=fz_own 1 z253 rfl
 have hb256 : (rS 49 (rRule 3 22)).rel H250b [r61_1] x49.1.rules:=fz_own 2 z253 rfl
 have hb257 : (rS 3 RP.int).rel H250b [r21_0] x9.sizes:=fz_own 4 z253 rfl
 have hb258 : (rS 49 (rRule 3 22)).rel H250b [r21_1] x9.rules:=fz_own 5 z253 rfl
 refine L_call (g_yes rfl (Eq.trans (hT118 19 50 rfl rfl) (congrArg Value.bool hc217)) rfl) Tryz.call17 (ops2 (hT118 20 51 rfl rfl) (hT118 21 52 rfl rfl)) (i_ModelSame_c (a:=x49.1) (b:=x9) s252 hb255 hb256 hb257 hb258 hx114) ?_
 rintro _ w259 ⟨rfl,Z⟩
 have Z:=k254 Z c0
 refine L_not_ (g_yes rfl (Eq.trans (hT118 19 50 rfl rfl) (congrArg Value.bool hc217)) rfl) rfl (L_pick (v:=Bo b116) (g_yes rfl (Eq.trans (hT118 17 48 rfl rfl) (congrArg Value.bool hc184)) rfl) (Eq.trans (hT118 19 50 rfl rfl) (congrArg Value.bool hc217)) (congrArg Value.bool (so hb116)) (L_pick (v:=Bo b117) rfl (Eq.trans (hT118 17 48 rfl rfl) (congrArg Value.bool hc184)) (congrArg Value.bool (so hb117)) (nn (rj hR121 ⟨H118,hE118,((hS118 1 rfl).trans sf1),rfl,(Star.keepN 0 Z)⟩))))
 rw [ite_f hc217] at hb116
 refine W_drawS 22 [isV (.string x34),isV (.agg #[r21_0,r21_1]),isV (.string x74),isV (Bo (!(ByteArray.toList x34 == ByteArray.toList x74))),isV (Bo (!(ByteArray.toList x34 == ByteArray.toList x74))),isV (undef),isV (undef),isV (undef),isV (undef),isV (undef),isV (Bo b94),isV (Bo b94),isV (Bo x49.2),isV (.agg #[r21_0,r21_1]),isV (Bo x102),isV (Bo (x49.2 != x102)),isV (Bo b104),isV (Bo b104),isV (Bo x49.2),isV (Bo x49.2),isV (undef),isV (undef)] [box g64 25 #[r61_0,r61_1],oF 3 RP.int r61_0 x49.1.sizes,oS 49 (oRule 3 22) r61_1 x49.1.rules,box g24 25 #[r21_0,r21_1],oF 3 RP.int r21_0 x9.sizes,oS 49 (oRule 3 22) r21_1 x9.rules] [] ([]) [([],[]),([],[]),([],[]),([],[]),([],[]),([],[]),([],[]),([],[]),([],[]),([],[]),([],[]),([],[]),([],[]),([],[]),([],[]),([],[]),([],[]),([],[]),([],[]),([],[]),([],[]),([],[])] (S:=[]) Tryz_mix (by kernel_rfl) rfl (by kernel_rfl) (amF_cons (mono_V _) (amF_cons (mono_V _) (amF_cons (mono_V _) (amF_cons (mono_V _) (amF_cons (mono_V _) (amF_cons (mono_V _) (amF_cons (mono_V _) (amF_cons (mono_V _) (amF_cons (mono_V _) (amF_cons (mono_V _) (amF_cons (mono_V _) (amF_cons (mono_V _) (amF_cons (mono_V _) (amF_cons (mono_V _) (amF_cons (mono_V _) (amF_cons (mono_V _) (amF_cons (mono_V _) (amF_cons (mono_V _) (amF_cons (mono_V _) (amF_cons (mono_V _) (amF_cons (mono_V _) (amF_cons (mono_V _) amF_nil)))))))))))))))))))))) Z ?_ (fun f w_ H118 hS118 hE118 hT118 Z=>?_)
 refine opsS_cons (fun f w_ _ _ s _ _ Z=>mF ((s 6 rfl).trans rfl) rfl (nO rfl rfl Z)) (opsS_cons (fun f w_ _ _ s _ _ Z=>L_lda (cs:=[r21_0,r21_1]) rfl Tryz.isAgg25 Tryz.sizeOf25 ((s 5 rfl).trans rfl) (At.sub0 (Blk.at (Star.blkAt 3 Z rfl)) 0 2) rfl (nO rfl rfl Z)) (opsS_cons ?_ ?_))
 intro f w_ H118 X118 hS118 hE118 hP118 Z
 obtain ⟨H276b,l277,s278,z279,k280⟩:=Z.borrow
 have hb281 : (rS 3 RP.int).rel H276b [r21_0] x9.sizes:=fz_own 4 z279 rfl
 have hb282 : (rS 49 (rRule 3 22)).rel H276b [r21_1] x9.rules:=fz_own 5 z279 rfl
 refine L_call rfl Tryz.call14 (ops1 (hP118 1 32 rfl rfl)) (s_FormatModel_c (m:=x9) s278 hb281 hb282 hx74) ?_
 rintro _ w283 ⟨rfl,Z⟩
 have Z:=k280 Z c0
 exact L_nil ⟨rfl,_,_,rfl,Le.refl _,fun _ _=>rfl,Z⟩
 refine opsS_cons (fun f w_ _ _ _ _ p Z=>L_sneq (s:=x34) (s':=x74) rfl (p 0 31 rfl rfl) (p 2 33 rfl rfl) (nO rfl rfl Z)) (opsS_cons (fun f w_ _ _ _ _ p Z=>mF (p 3 34 rfl rfl) rfl (nO rfl rfl Z)) (oP (fun _ _ p=>gN (p 4 35 rfl rfl) hc122 rfl) (fun _=>rfl) (oP (fun _ _ p=>gN (p 4 35 rfl rfl) hc122 rfl) (fun _=>rfl) (oP (fun _ _ p=>gN (p 4 35 rfl rfl) hc122 rfl) (fun _=>rfl) (oP (fun _ _ p=>gN (p 4 35 rfl rfl) hc122 rfl) (fun _=>rfl) (oP (fun _ _ p=>gN (p 4 35 rfl rfl) hc122 rfl) (fun _=>rfl) (opsS_cons (fun f w_ _ _ _ _ p Z=>pkT (v:=Bo b94) (p 4 35 rfl rfl) hc122 rfl (congrArg Value.bool (so hb94)) (nO rfl rfl Z)) (opsS_cons (fun f w_ _ _ _ _ p Z=>mF (p 10 41 rfl rfl) rfl (nO rfl rfl Z)) (opsS_cons (fun f w_ _ _ s _ p Z=>L_mv (v:=Bo x49.2) (g_yes rfl (Eq.trans (p 11 42 rfl rfl) (congrArg Value.bool hc123)) rfl) ((s 8 rfl).trans rfl) (nO rfl rfl Z)) (opsS_cons (fun f w_ _ _ s _ p Z=>L_lda (cs:=[r21_0,r21_1]) (g_yes rfl (Eq.trans (p 11 42 rfl rfl) (congrArg Value.bool hc123)) rfl) Tryz.isAgg25 Tryz.sizeOf25 ((s 5 rfl).trans rfl) (At.sub0 (Blk.at (Star.blkAt 3 Z rfl)) 0 2) rfl (nO rfl rfl Z)) (opsS_cons ?_ ?_)))))))))))
 intro f w_ H118 X118 hS118 hE118 hP118 Z
 obtain ⟨H284b,l285,s286,z287,k288⟩:=Z.borrow
 have hb289 : (rS 3 RP.int).rel H284b [r21_0] x9.sizes:=fz_own 4 z287 rfl
 have hb290 : (rS 49 (rRule 3 22)).rel H284b [r21_1] x9.rules:=fz_own 5 z287 rfl
 refine L_call (g_yes rfl (Eq.trans (hP118 11 42 rfl rfl) (congrArg Value.bool hc123)) rfl) Tryz.call16 (ops1 (hP118 13 44 rfl rfl)) (s_ModelValid_c (m:=x9) s286 hb289 hb290 hx102) ?_
 rintro _ w291 ⟨rfl,Z⟩
 have Z:=k288 Z c0
 exact L_nil ⟨rfl,_,_,rfl,Le.refl _,fun _ _=>rfl,Z⟩
 refine opsS_cons (fun f w_ _ _ _ _ p Z=>L_bneq (b:=x49.2) (c:=x102) (g_yes rfl (Eq.trans (p 11 42 rfl rfl) (congrArg Value.bool hc123)) rfl) Tryz.underlying4 (p 12 43 rfl rfl) (p 14 45 rfl rfl) (nO rfl rfl Z)) (opsS_cons (fun f w_ _ _ _ _ p Z=>pkT (v:=Bo b104) (p 11 42 rfl rfl) hc123 rfl (Eq.trans (p 15 46 rfl rfl) (congrArg Value.bool (so hb104))) (nO rfl rfl Z)) (opsS_cons (fun f w_ _ _ _ _ p Z=>mF (p 16 47 rfl rfl) rfl (nO rfl rfl Z)) (opsS_cons (fun f w_ _ _ s _ p Z=>L_mv (v:=Bo x49.2) (g_yes rfl (Eq.trans (p 17 48 rfl rfl) (congrArg Value.bool hc184)) rfl) ((s 8 rfl).trans rfl) (nO rfl rfl Z)) (opsS_cons (fun f w_ _ _ _ _ p Z=>L_mv (v:=Bo x49.2) (g_yes rfl (Eq.trans (p 17 48 rfl rfl) (congrArg Value.bool hc184)) rfl) (p 18 49 rfl rfl) (nO rfl rfl Z)) (oP (fun _ _ p=>gN (p 19 50 rfl rfl) hc217 rfl) (fun _=>rfl) (oP (fun _ _ p=>gN (p 19 50 rfl rfl) hc217 rfl) (fun _=>rfl) (opsS_nil)))))))
 refine ps (g_no rfl (Eq.trans (hT118 19 50 rfl rfl) (congrArg Value.bool hc217)) rfl rfl) (ps (g_no rfl (Eq.trans (hT118 19 50 rfl rfl) (congrArg Value.bool hc217)) rfl rfl) (L_pick (v:=Bo b116) (g_yes rfl (Eq.trans (hT118 17 48 rfl rfl) (congrArg Value.bool hc184)) rfl) (Eq.trans (hT118 19 50 rfl rfl) (congrArg Value.bool hc217)) (congrArg Value.bool (so hb116)) (L_pick (v:=Bo b117) rfl (Eq.trans (hT118 17 48 rfl rfl) (congrArg Value.bool hc184)) (congrArg Value.bool (so hb117)) (nn (rj hR121 ⟨H118,hE118,((hS118 1 rfl).trans sf1),rfl,(Star.keepN 0 Z)⟩)))))
 rw [ite_f hc122] at hb94
 obtain ⟨x83,hx83,hb94⟩:=bind_some hb94
 obtain ⟨x92,hx92,hb94⟩:=bind_some hb94
 rcases Bool.eq_false_or_eq_true b94 with hc292 | hc292
 rw [ite_t hc292] at hb104
 rcases Bool.eq_false_or_eq_true b104 with hc293 | hc293
 rw [ite_t hc293] at hb117
 refine W_drawS 22 [isV (.string x34),isV (.agg #[r21_0,r21_1]),isV (.string x74),isV (Bo (!(ByteArray.toList x34 == ByteArray.toList x74))),isV (Bo (!(ByteArray.toList x34 == ByteArray.toList x74))),isV (.agg #[r21_0,r21_1]),isV (Bo x83),isV (.agg #[r21_0,r21_1]),isV (Bo x92),isV (Bo (x83 != x92)),isV (Bo b94),isV (Bo b94),isV (undef),isV (undef),isV (undef),isV (undef),isV (Bo b104),isV (Bo b104),isV (undef),isV (undef),isV (undef),isV (undef)] [box g64 25 #[r61_0,r61_1],oF 3 RP.int r61_0 x49.1.sizes,oS 49 (oRule 3 22) r61_1 x49.1.rules,box g24 25 #[r21_0,r21_1],oF 3 RP.int r21_0 x9.sizes,oS 49 (oRule 3 22) r21_1 x9.rules] [] ([]) [([],[]),([],[]),([],[]),([],[]),([],[]),([],[]),([],[]),([],[]),([],[]),([],[]),([],[]),([],[]),([],[]),([],[]),([],[]),([],[]),([],[]),([],[]),([],[]),([],[]),([],[]),([],[])] (S:=[]) Tryz_mix (by kernel_rfl) rfl (by kernel_rfl) (amF_cons (mono_V _) (amF_cons (mono_V _) (amF_cons (mono_V _) (amF_cons (mono_V _) (amF_cons (mono_V _) (amF_cons (mono_V _) (amF_cons (mono_V _) (amF_cons (mono_V _) (amF_cons (mono_V _) (amF_cons (mono_V _) (amF_cons (mono_V _) (amF_cons (mono_V _) (amF_cons (mono_V _) (amF_cons (mono_V _) (amF_cons (mono_V _) (amF_cons (mono_V _) (amF_cons (mono_V _) (amF_cons (mono_V _) (amF_cons (mono_V _) (amF_cons (mono_V _) (amF_cons (mono_V _) (amF_cons (mono_V _) amF_nil)))))))))))))))))))))) Z ?_ (fun f w_ H118 hS118 hE118 hT118 Z=>?_)
 refine opsS_cons (fun f w_ _ _ s _ _ Z=>mF ((s 6 rfl).trans rfl) rfl (nO rfl rfl Z)) (opsS_cons (fun f w_ _ _ s _ _ Z=>L_lda (cs:=[r21_0,r21_1]) rfl Tryz.isAgg25 Tryz.sizeOf25 ((s 5 rfl).trans rfl) (At.sub0 (Blk.at (Star.blkAt 3 Z rfl)) 0 2) rfl (nO rfl rfl Z)) (opsS_cons ?_ ?_))
 intro f w_ H118 X118 hS118 hE118 hP118 Z
 obtain ⟨H318b,l319,s320,z321,k322⟩:=Z.borrow
 have hb323 : (rS 3 RP.int).rel H318b [r21_0] x9.sizes:=fz_own 4 z321 rfl
 have hb324 : (rS 49 (rRule 3 22)).rel H318b [r21_1] x9.rules:=fz_own 5 z321 rfl
 refine L_call rfl Tryz.call14 (ops1 (hP118 1 32 rfl rfl)) (s_FormatModel_c (m:=x9) s320 hb323 hb324 hx74) ?_
 rintro _ w325 ⟨rfl,Z⟩
 have Z:=k322 Z c0
 exact L_nil ⟨rfl,_,_,rfl,Le.refl _,fun _ _=>rfl,Z⟩
 refine opsS_cons (fun f w_ _ _ _ _ p Z=>L_sneq (s:=x34) (s':=x74) rfl (p 0 31 rfl rfl) (p 2 33 rfl rfl) (nO rfl rfl Z)) (opsS_cons (fun f w_ _ _ _ _ p Z=>mF (p 3 34 rfl rfl) rfl (nO rfl rfl Z)) (opsS_cons (fun f w_ _ _ s _ p Z=>L_lda (cs:=[r21_0,r21_1]) (g_yes rfl (Eq.trans (p 4 35 rfl rfl) (congrArg Value.bool hc122)) rfl) Tryz.isAgg25 Tryz.sizeOf25 ((s 5 rfl).trans rfl) (At.sub0 (Blk.at (Star.blkAt 3 Z rfl)) 0 2) rfl (nO rfl rfl Z)) (opsS_cons ?_ ?_)))
 intro f w_ H118 X118 hS118 hE118 hP118 Z
 obtain ⟨H326b,l327,s328,z329,k330⟩:=Z.borrow
 have hb331 : (rS 3 RP.int).rel H326b [r21_0] x9.sizes:=fz_own 4 z329 rfl
 have hb332 : (rS 49 (rRule 3 22)).rel H326b [r21_1] x9.rules:=fz_own 5 z329 rfl
 refine L_call (g_yes rfl (Eq.trans (hP118 4 35 rfl rfl) (congrArg Value.bool hc122)) rfl) Tryz.call15 (ops1 (hP118 5 36 rfl rfl)) (i_ModelValid_c (m:=x9) s328 hb331 hb332 hx83) ?_
 rintro _ w333 ⟨rfl,Z⟩
 have Z:=k330 Z c0
 exact L_nil ⟨rfl,_,_,rfl,Le.refl _,fun _ _=>rfl,Z⟩
 refine opsS_cons (fun f w_ _ _ s _ p Z=>L_lda (cs:=[r21_0,r21_1]) (g_yes rfl (Eq.trans (p 4 35 rfl rfl) (congrArg Value.bool hc122)) rfl) Tryz.isAgg25 Tryz.sizeOf25 ((s 5 rfl).trans rfl) (At.sub0 (Blk.at (Star.blkAt 3 Z rfl)) 0 2) rfl (nO rfl rfl Z)) (opsS_cons ?_ ?_)
 intro f w_ H118 X118 hS118 hE118 hP118 Z
 obtain ⟨H334b,l335,s336,z337,k338⟩:=Z.borrow
 have hb339 : (rS 3 RP.int).rel H334b [r21_0] x9.sizes:=fz_own 4 z337 rfl
 have hb340 : (rS 49 (rRule 3 22)).rel H334b [r21_1] x9.rules:=fz_own 5 z337 rfl
 refine L_call (g_yes rfl (Eq.trans (hP118 4 35 rfl rfl) (congrArg Value.bool hc122)) rfl) Tryz.call16 (ops1 (hP118 7 38 rfl rfl)) (s_ModelValid_c (m:=x9) s336 hb339 hb340 hx92) ?_
 rintro _ w341 ⟨rfl,Z⟩
 have Z:=k338 Z c0
 exact L_nil ⟨rfl,_,_,rfl,Le.refl _,fun _ _=>rfl,Z⟩
 refine opsS_cons (fun f w_ _ _ _ _ p Z=>L_bneq (b:=x83) (c:=x92) (g_yes rfl (Eq.trans (p 4 35 rfl rfl) (congrArg Value.bool hc122)) rfl) Tryz.underlying4 (p 6 37 rfl rfl) (p 8 39 rfl rfl) (nO rfl rfl Z)) (opsS_cons (fun f w_ _ _ _ _ p Z=>pkT (v:=Bo b94) (p 4 35 rfl rfl) hc122 rfl (Eq.trans (p 9 40 rfl rfl) (congrArg Value.bool (so hb94))) (nO rfl rfl Z)) (opsS_cons (fun f w_ _ _ _ _ p Z=>mF (p 10 41 rfl rfl) rfl (nO rfl rfl Z)) (oP (fun _ _ p=>gN (p 11 42 rfl rfl) hc292 rfl) (fun _=>rfl) (oP (fun _ _ p=>gN (p 11 42 rfl rfl) hc292 rfl) (fun _=>rfl) (oP (fun _ _ p=>gN (p 11 42 rfl rfl) hc292 rfl) (fun _=>rfl) (oP (fun _ _ p=>gN (p 11 42 rfl rfl) hc292 rfl) (fun _=>rfl) (opsS_cons (fun f w_ _ _ _ _ p Z=>pkT (v:=Bo b104) (p 11 42 rfl rfl) hc292 rfl (congrArg Value.bool (so hb104)) (nO rfl rfl Z)) (opsS_cons (fun f w_ _ _ _ _ p Z=>mF (p 16 47 rfl rfl) rfl (nO rfl rfl Z)) (oP (fun _ _ p=>gN (p 17 48 rfl rfl) hc293 rfl) (fun _=>rfl) (oP (fun _ _ p=>gN (p 17 48 rfl rfl) hc293 rfl) (fun _=>rfl) (oP (fun _ _ p=>g_undef rfl (p 19 50 rfl rfl) rfl) (fun _=>rfl) (oP (fun _ _ p=>g_undef rfl (p 19 50 rfl rfl) rfl) (fun _=>rfl) (opsS_nil)))))))))))))
 refine ps (g_undef rfl (hT118 19 50 rfl rfl) rfl) (ps (g_undef rfl (hT118 19 50 rfl rfl) rfl) (ps (g_no rfl (Eq.trans (hT118 17 48 rfl rfl) (congrArg Value.bool hc293)) rfl rfl) (L_pick (v:=Bo b117) rfl (Eq.trans (hT118 17 48 rfl rfl) (congrArg Value.bool hc293)) (congrArg Value.bool (so hb117)) (nn (rj hR121 ⟨H118,hE118,((hS118 1 rfl).trans sf1),rfl,(Star.keepN 0 Z)⟩)))))
 rw [ite_f hc293] at hb117
 obtain ⟨b116,hb116,hb117⟩:=bind_some hb117
 rcases Bool.eq_false_or_eq_true x49.2 with hc342 | hc342
 rw [ite_t hc342] at hb116
 obtain ⟨x114,hx114,hb116⟩:=bind_some hb116
 refine W_drawS 22 [isV (.string x34),isV (.agg #[r21_0,r21_1]),isV (.string x74),isV (Bo (!(ByteArray.toList x34 == ByteArray.toList x74))),isV (Bo (!(ByteArray.toList x34 == ByteArray.toList x74))),isV (.agg #[r21_0,r21_1]),isV (Bo x83),isV (.agg #[r21_0,r21_1]),isV (Bo x92),isV (Bo (x83 != x92)),isV (Bo b94),isV (Bo b94),isV (undef),isV (undef),isV (undef),isV (undef),isV (Bo b104),isV (Bo b104),isV (Bo x49.2),isV (Bo x49.2),isV (.agg #[r61_0,r61_1]),isV (.agg #[r21_0,r21_1])] [box g64 25 #[r61_0,r61_1],oF 3 RP.int r61_0 x49.1.sizes,oS 49 (oRule 3 22) r61_1 x49.1.rules,box g24 25 #[r21_0,r21_1],oF 3 RP.int r21_0 x9.sizes,oS 49 (oRule 3 22) r21_1 x9.rules] [] ([]) [([],[]),([],[]),([],[]),([],[]),([],[]),([],[]),([],[]),([],[]),([],[]),([],[]),([],[]),([],[]),([],[]),([],[]),([],[]),([],[]),([],[]),([],[]),([],[]),([],[]),([],[]),([],[])] (S:=[]) Tryz_mix (by kernel_rfl) rfl (by kernel_rfl) (amF_cons (mono_V _) (amF_cons (mono_V _) (amF_cons (mono_V _) (amF_cons (mono_V _) (amF_cons (mono_V _) (amF_cons (mono_V _) (amF_cons (mono_V _) (amF_cons (mono_V _) (amF_cons (mono_V _) (amF_cons (mono_V _) (amF_cons (mono_V _) (amF_cons (mono_V _) (amF_cons (mono_V _) (amF_cons (mono_V _) (amF_cons (mono_V _) (amF_cons (mono_V _) (amF_cons (mono_V _) (amF_cons (mono_V _) (amF_cons (mono_V _) (amF_cons (mono_V _) (amF_cons (mono_V _) (amF_cons (mono_V _) amF_nil)))))))))))))))))))))) Z ?_ (fun f w_ H118 hS118 hE118 hT118 Z=>?_)
 refine opsS_cons (fun f w_ _ _ s _ _ Z=>mF ((s 6 rfl).trans rfl) rfl (nO rfl rfl Z)) (opsS_cons (fun f w_ _ _ s _ _ Z=>L_lda (cs:=[r21_0,r21_1]) rfl Tryz.isAgg25 Tryz.sizeOf25 ((s 5 rfl).trans rfl) (At.sub0 (Blk.at (Star.blkAt 3 Z rfl)) 0 2) rfl (nO rfl rfl Z)) (opsS_cons ?_ ?_))
 intro f w_ H118 X118 hS118 hE118 hP118 Z
 obtain ⟨H367b,l368,s369,z370,k371⟩:=Z.borrow
 have hb372 : (rS 3 RP.int).rel H367b [r21_0] x9.sizes:=fz_own 4 z370 rfl
 have hb373 : (rS 49 (rRule 3 22)).rel H367b [r21_1] x9.rules:=fz_own 5 z370 rfl
 refine L_call rfl Tryz.call14 (ops1 (hP118 1 32 rfl rfl)) (s_FormatModel_c (m:=x9) s369 hb372 hb373 hx74) ?_
 rintro _ w374 ⟨rfl,Z⟩
 have Z:=k371 Z c0
 exact L_nil ⟨rfl,_,_,rfl,Le.refl _,fun _ _=>rfl,Z⟩
 refine opsS_cons (fun f w_ _ _ _ _ p Z=>L_sneq (s:=x34) (s':=x74) rfl (p 0 31 rfl rfl) (p 2 33 rfl rfl) (nO rfl rfl Z)) (opsS_cons (fun f w_ _ _ _ _ p Z=>mF (p 3 34 rfl rfl) rfl (nO rfl rfl Z)) (opsS_cons (fun f w_ _ _ s _ p Z=>L_lda (cs:=[r21_0,r21_1]) (g_yes rfl (Eq.trans (p 4 35 rfl rfl) (congrArg Value.bool hc122)) rfl) Tryz.isAgg25 Tryz.sizeOf25 ((s 5 rfl).trans rfl) (At.sub0 (Blk.at (Star.blkAt 3 Z rfl)) 0 2) rfl (nO rfl rfl Z)) (opsS_cons ?_ ?_)))
 intro f w_ H118 X118 hS118 hE118 hP118 Z
 obtain ⟨H375b,l376,s377,z378,k379⟩:=Z.borrow
 have hb380 : (rS 3 RP.int).rel H375b [r21_0] x9.sizes:=fz_own 4 z378 rfl
 have hb381 : (rS 49 (rRule 3 22)).rel H375b [r21_1] x9.rules:=fz_own 5 z378 rfl
 refine L_call (g_yes rfl (Eq.trans (hP118 4 35 rfl rfl) (congrArg Value.bool hc122)) rfl) Tryz.call15 (ops1 (hP118 5 36 rfl rfl)) (i_ModelValid_c (m:=x9) s377 hb380 hb381 hx83) ?_
 rintro _ w382 ⟨rfl,Z⟩
 have Z:=k379 Z c0
 exact L_nil ⟨rfl,_,_,rfl,Le.refl _,fun _ _=>rfl,Z⟩
 refine opsS_cons (fun f w_ _ _ s _ p Z=>L_lda (cs:=[r21_0,r21_1]) (g_yes rfl (Eq.trans (p 4 35 rfl rfl) (congrArg Value.bool hc122)) rfl) Tryz.isAgg25 Tryz.sizeOf25 ((s 5 rfl).trans rfl) (At.sub0 (Blk.at (Star.blkAt 3 Z rfl)) 0 2) rfl (nO rfl rfl Z)) (opsS_cons ?_ ?_)
 intro f w_ H118 X118 hS118 hE118 hP118 Z
 obtain ⟨H383b,l384,s385,z386,k387⟩:=Z.borrow
 have hb388 : (rS 3 RP.int).rel H383b [r21_0] x9.sizes:=fz_own 4 z386 rfl
 have hb389 : (rS 49 (rRule 3 22)).rel H383b [r21_1] x9.rules:=fz_own 5 z386 rfl
 refine L_call (g_yes rfl (Eq.trans (hP118 4 35 rfl rfl) (congrArg Value.bool hc122)) rfl) Tryz.call16 (ops1 (hP118 7 38 rfl rfl)) (s_ModelValid_c (m:=x9) s385 hb388 hb389 hx92) ?_
 rintro _ w390 ⟨rfl,Z⟩
 have Z:=k387 Z c0
 exact L_nil ⟨rfl,_,_,rfl,Le.refl _,fun _ _=>rfl,Z⟩
 refine opsS_cons (fun f w_ _ _ _ _ p Z=>L_bneq (b:=x83) (c:=x92) (g_yes rfl (Eq.trans (p 4 35 rfl rfl) (congrArg Value.bool hc122)) rfl) Tryz.underlying4 (p 6 37 rfl rfl) (p 8 39 rfl rfl) (nO rfl rfl Z)) (opsS_cons (fun f w_ _ _ _ _ p Z=>pkT (v:=Bo b94) (p 4 35 rfl rfl) hc122 rfl (Eq.trans (p 9 40 rfl rfl) (congrArg Value.bool (so hb94))) (nO rfl rfl Z)) (opsS_cons (fun f w_ _ _ _ _ p Z=>mF (p 10 41 rfl rfl) rfl (nO rfl rfl Z)) (oP (fun _ _ p=>gN (p 11 42 rfl rfl) hc292 rfl) (fun _=>rfl) (oP (fun _ _ p=>gN (p 11 42 rfl rfl) hc292 rfl) (fun _=>rfl) (oP (fun _ _ p=>gN (p 11 42 rfl rfl) hc292 rfl) (fun _=>rfl) (oP (fun _ _ p=>gN (p 11 42 rfl rfl) hc292 rfl) (fun _=>rfl) (opsS_cons (fun f w_ _ _ _ _ p Z=>pkT (v:=Bo b104) (p 11 42 rfl rfl) hc292 rfl (congrArg Value.bool (so hb104)) (nO rfl rfl Z)) (opsS_cons (fun f w_ _ _ _ _ p Z=>mF (p 16 47 rfl rfl) rfl (nO rfl rfl Z)) (opsS_cons (fun f w_ _ _ s _ p Z=>L_mv (v:=Bo x49.2) (g_yes rfl (Eq.trans (p 17 48 rfl rfl) (congrArg Value.bool hc293)) rfl) ((s 8 rfl).trans rfl) (nO rfl rfl Z)) (opsS_cons (fun f w_ _ _ _ _ p Z=>L_mv (v:=Bo x49.2) (g_yes rfl (Eq.trans (p 17 48 rfl rfl) (congrArg Value.bool hc293)) rfl) (p 18 49 rfl rfl) (nO rfl rfl Z)) (opsS_cons (fun f w_ _ _ s _ p Z=>L_lda (cs:=[r61_0,r61_1]) (g_yes rfl (Eq.trans (p 19 50 rfl rfl) (congrArg Value.bool hc342)) rfl) Tryz.isAgg25 Tryz.sizeOf25 ((s 7 rfl).trans rfl) (At.sub0 (Blk.at (Star.blkAt 0 Z rfl)) 0 2) rfl (nO rfl rfl Z)) (opsS_cons (fun f w_ _ _ s _ p Z=>L_lda (cs:=[r21_0,r21_1]) (g_yes rfl (Eq.trans (p 19 50 rfl rfl) (congrArg Value.bool hc342)) rfl) Tryz.isAgg25 Tryz.sizeOf25 ((s 5 rfl).trans rfl) (At.sub0 (Blk.at (Star.blkAt 3 Z rfl)) 0 2) rfl (nO rfl rfl Z)) (opsS_nil)))))))))))))
 obtain ⟨H391b,l392,s393,z394,k395⟩:=Z.borrow
 have hb396 : (rS 3 RP.int).rel H391b [r61_0] x49.1.sizes:=fz_own 1 z394 rfl
 have hb397 : (rS 49 (rRule 3 22)).rel H391b [r61_1] x49.1.rules:=fz_own 2 z394 rfl
 have hb398 : (rS 3 RP.int).rel H391b [r21_0] x9.sizes:=fz_own 4 z394 rfl
 have hb399 : (rS 49 (rRule 3 22)).rel H391b [r21_1] x9.rules:=fz_own 5 z394 rfl
 refine L_call (g_yes rfl (Eq.trans (hT118 19 50 rfl rfl) (congrArg Value.bool hc342)) rfl) Tryz.call17 (ops2 (hT118 20 51 rfl rfl) (hT118 21 52 rfl rfl)) (i_ModelSame_c (a:=x49.1) (b:=x9) s393 hb396 hb397 hb398 hb399 hx114) ?_
 rintro _ w400 ⟨rfl,Z⟩
 have Z:=k395 Z c0
 refine L_not_ (g_yes rfl (Eq.trans (hT118 19 50 rfl rfl) (congrArg Value.bool hc342)) rfl) rfl (L_pick (v:=Bo b116) (g_yes rfl (Eq.trans (hT118 17 48 rfl rfl) (congrArg Value.bool hc293)) rfl) (Eq.trans (hT118 19 50 rfl rfl) (congrArg Value.bool hc342)) (congrArg Value.bool (so hb116)) (L_pick (v:=Bo b117) rfl (Eq.trans (hT118 17 48 rfl rfl) (congrArg Value.bool hc293)) (congrArg Value.bool (so hb117)) (nn (rj hR121 ⟨H118,hE118,((hS118 1 rfl).trans sf1),rfl,(Star.keepN 0 Z)⟩))))
 rw [ite_f hc342] at hb116
 refine W_drawS 22 [isV (.string x34),isV (.agg #[r21_0,r21_1]),isV (.string x74),isV (Bo (!(ByteArray.toList x34 == ByteArray.toList x74))),isV (Bo (!(ByteArray.toList x34 == ByteArray.toList x74))),isV (.agg #[r21_0,r21_1]),isV (Bo x83),isV (.agg #[r21_0,r21_1]),isV (Bo x92),isV (Bo (x83 != x92)),isV (Bo b94),isV (Bo b94),isV (undef),isV (undef),isV (undef),isV (undef),isV (Bo b104),isV (Bo b104),isV (Bo x49.2),isV (Bo x49.2),isV (undef),isV (undef)] [box g64 25 #[r61_0,r61_1],oF 3 RP.int r61_0 x49.1.sizes,oS 49 (oRule 3 22) r61_1 x49.1.rules,box g24 25 #[r21_0,r21_1],oF 3 RP.int r21_0 x9.sizes,oS 49 (oRule 3 22) r21_1 x9.rules] [] ([]) [([],[]),([],[]),([],[]),([],[]),([],[]),([],[]),([],[]),([],[]),([],[]),([],[]),([],[]),([],[]),([],[]),([],[]),([],[]),([],[]),([],[]),([],[]),([],[]),([],[]),([],[]),([],[])] (S:=[]) Tryz_mix (by kernel_rfl) rfl (by kernel_rfl) (amF_cons (mono_V _) (amF_cons (mono_V _) (amF_cons (mono_V _) (amF_cons (mono_V _) (amF_cons (mono_V _) (amF_cons (mono_V _) (amF_cons (mono_V _) (amF_cons (mono_V _) (amF_cons (mono_V _) (amF_cons (mono_V _) (amF_cons (mono_V _) (amF_cons (mono_V _) (amF_cons (mono_V _) (amF_cons (mono_V _) (amF_cons (mono_V _) (amF_cons (mono_V _) (amF_cons (mono_V _) (amF_cons (mono_V _) (amF_cons (mono_V _) (amF_cons (mono_V _) (amF_cons (mono_V _) (amF_cons (mono_V _) amF_nil)))))))))))))))))))))) Z ?_ (fun f w_ H118 hS118 hE118 hT118 Z=>?_)
 refine opsS_cons (fun f w_ _ _ s _ _ Z=>mF ((s 6 rfl).trans rfl) rfl (nO rfl rfl Z)) (opsS_cons (fun f w_ _ _ s _ _ Z=>L_lda (cs:=[r21_0,r21_1]) rfl Tryz.isAgg25 Tryz.sizeOf25 ((s 5 rfl).trans rfl) (At.sub0 (Blk.at (Star.blkAt 3 Z rfl)) 0 2) rfl (nO rfl rfl Z)) (opsS_cons ?_ ?_))
 intro f w_ H118 X118 hS118 hE118 hP118 Z
 obtain ⟨H425b,l426,s427,z428,k429⟩:=Z.borrow
 have hb430 : (rS 3 RP.int).rel H425b [r21_0] x9.sizes:=fz_own 4 z428 rfl
 have hb431 : (rS 49 (rRule 3 22)).rel H425b [r21_1] x9.rules:=fz_own 5 z428 rfl
 refine L_call rfl Tryz.call14 (ops1 (hP118 1 32 rfl rfl)) (s_FormatModel_c (m:=x9) s427 hb430 hb431 hx74) ?_
 rintro _ w432 ⟨rfl,Z⟩
 have Z:=k429 Z c0
 exact L_nil ⟨rfl,_,_,rfl,Le.refl _,fun _ _=>rfl,Z⟩
 refine opsS_cons (fun f w_ _ _ _ _ p Z=>L_sneq (s:=x34) (s':=x74) rfl (p 0 31 rfl rfl) (p 2 33 rfl rfl) (nO rfl rfl Z)) (opsS_cons (fun f w_ _ _ _ _ p Z=>mF (p 3 34 rfl rfl) rfl (nO rfl rfl Z)) (opsS_cons (fun f w_ _ _ s _ p Z=>L_lda (cs:=[r21_0,r21_1]) (g_yes rfl (Eq.trans (p 4 35 rfl rfl) (congrArg Value.bool hc122)) rfl) Tryz.isAgg25 Tryz.sizeOf25 ((s 5 rfl).trans rfl) (At.sub0 (Blk.at (Star.blkAt 3 Z rfl)) 0 2) rfl (nO rfl rfl Z)) (opsS_cons ?_ ?_)))
 intro f w_ H118 X118 hS118 hE118 hP118 Z
 obtain ⟨H433b,l434,s435,z436,k437⟩:=Z.borrow
 have hb438 : (rS 3 RP.int).rel H433b [r21_0] x9.sizes:=fz_own 4 z436 rfl
 have hb439 : (rS 49 (rRule 3 22)).rel H433b [r21_1] x9.rules:=fz_own 5 z436 rfl
 refine L_call (g_yes rfl (Eq.trans (hP118 4 35 rfl rfl) (congrArg Value.bool hc122)) rfl) Tryz.call15 (ops1 (hP118 5 36 rfl rfl)) (i_ModelValid_c (m:=x9) s435 hb438 hb439 hx83) ?_
 rintro _ w440 ⟨rfl,Z⟩
 have Z:=k437 Z c0
 exact L_nil ⟨rfl,_,_,rfl,Le.refl _,fun _ _=>rfl,Z⟩
 refine opsS_cons (fun f w_ _ _ s _ p Z=>L_lda (cs:=[r21_0,r21_1]) (g_yes rfl (Eq.trans (p 4 35 rfl rfl) (congrArg Value.bool hc122)) rfl) Tryz.isAgg25 Tryz.sizeOf25 ((s 5 rfl).trans rfl) (At.sub0 (Blk.at (Star.blkAt 3 Z rfl)) 0 2) rfl (nO rfl rfl Z)) (opsS_cons ?_ ?_)
 intro f w_ H118 X118 hS118 hE118 hP118 Z
 obtain ⟨H441b,l442,s443,z444,k445⟩:=Z.borrow
 have hb446 : (rS 3 RP.int).rel H441b [r21_0] x9.sizes:=fz_own 4 z444 rfl
 have hb447 : (rS 49 (rRule 3 22)).rel H441b [r21_1] x9.rules:=fz_own 5 z444 rfl
 refine L_call (g_yes rfl (Eq.trans (hP118 4 35 rfl rfl) (congrArg Value.bool hc122)) rfl) Tryz.call16 (ops1 (hP118 7 38 rfl rfl)) (s_ModelValid_c (m:=x9) s443 hb446 hb447 hx92) ?_
 rintro _ w448 ⟨rfl,Z⟩
 have Z:=k445 Z c0
 exact L_nil ⟨rfl,_,_,rfl,Le.refl _,fun _ _=>rfl,Z⟩
 refine opsS_cons (fun f w_ _ _ _ _ p Z=>L_bneq (b:=x83) (c:=x92) (g_yes rfl (Eq.trans (p 4 35 rfl rfl) (congrArg Value.bool hc122)) rfl) Tryz.underlying4 (p 6 37 rfl rfl) (p 8 39 rfl rfl) (nO rfl rfl Z)) (opsS_cons (fun f w_ _ _ _ _ p Z=>pkT (v:=Bo b94) (p 4 35 rfl rfl) hc122 rfl (Eq.trans (p 9 40 rfl rfl) (congrArg Value.bool (so hb94))) (nO rfl rfl Z)) (opsS_cons (fun f w_ _ _ _ _ p Z=>mF (p 10 41 rfl rfl) rfl (nO rfl rfl Z)) (oP (fun _ _ p=>gN (p 11 42 rfl rfl) hc292 rfl) (fun _=>rfl) (oP (fun _ _ p=>gN (p 11 42 rfl rfl) hc292 rfl) (fun _=>rfl) (oP (fun _ _ p=>gN (p 11 42 rfl rfl) hc292 rfl) (fun _=>rfl) (oP (fun _ _ p=>gN (p 11 42 rfl rfl) hc292 rfl) (fun _=>rfl) (opsS_cons (fun f w_ _ _ _ _ p Z=>pkT (v:=Bo b104) (p 11 42 rfl rfl) hc292 rfl (congrArg Value.bool (so hb104)) (nO rfl rfl Z)) (opsS_cons (fun f w_ _ _ _ _ p Z=>mF (p 16 47 rfl rfl) rfl (nO rfl rfl Z)) (opsS_cons (fun f w_ _ _ s _ p Z=>L_mv (v:=Bo x49.2) (g_yes rfl (Eq.trans (p 17 48 rfl rfl) (congrArg Value.bool hc293)) rfl) ((s 8 rfl).trans rfl) (nO rfl rfl Z)) (opsS_cons (fun f w_ _ _ _ _ p Z=>L_mv (v:=Bo x49.2) (g_yes rfl (Eq.trans (p 17 48 rfl rfl) (congrArg Value.bool hc293)) rfl) (p 18 49 rfl rfl) (nO rfl rfl Z)) (oP (fun _ _ p=>gN (p 19 50 rfl rfl) hc342 rfl) (fun _=>rfl) (oP (fun _ _ p=>gN (p 19 50 rfl rfl) hc342 rfl) (fun _=>rfl) (opsS_nil)))))))))))))
 refine ps (g_no rfl (Eq.trans (hT118 19 50 rfl rfl) (congrArg Value.bool hc342)) rfl rfl) (ps (g_no rfl (Eq.trans (hT118 19 50 rfl rfl) (congrArg Value.bool hc342)) rfl rfl) (L_pick (v:=Bo b116) (g_yes rfl (Eq.trans (hT118 17 48 rfl rfl) (congrArg Value.bool hc293)) rfl) (Eq.trans (hT118 19 50 rfl rfl) (congrArg Value.bool hc342)) (congrArg Value.bool (so hb116)) (L_pick (v:=Bo b117) rfl (Eq.trans (hT118 17 48 rfl rfl) (congrArg Value.bool hc293)) (congrArg Value.bool (so hb117)) (nn (rj hR121 ⟨H118,hE118,((hS118 1 rfl).trans sf1),rfl,(Star.keepN 0 Z)⟩)))))
 rw [ite_f hc292] at hb104
 obtain ⟨x102,hx102,hb104⟩:=bind_some hb104
 rcases Bool.eq_false_or_eq_true b104 with hc449 | hc449
 rw [ite_t hc449] at hb117
 refine W_drawS 22 [isV (.string x34),isV (.agg #[r21_0,r21_1]),isV (.string x74),isV (Bo (!(ByteArray.toList x34 == ByteArray.toList x74))),isV (Bo (!(ByteArray.toList x34 == ByteArray.toList x74))),isV (.agg #[r21_0,r21_1]),isV (Bo x83),isV (.agg #[r21_0,r21_1]),isV (Bo x92),isV (Bo (x83 != x92)),isV (Bo b94),isV (Bo b94),isV (Bo x49.2),isV (.agg #[r21_0,r21_1]),isV (Bo x102),isV (Bo (x49.2 != x102)),isV (Bo b104),isV (Bo b104),isV (undef),isV (undef),isV (undef),isV (undef)] [box g64 25 #[r61_0,r61_1],oF 3 RP.int r61_0 x49.1.sizes,oS 49 (oRule 3 22) r61_1 x49.1.rules,box g24 25 #[r21_0,r21_1],oF 3 RP.int r21_0 x9.sizes,oS 49 (oRule 3 22) r21_1 x9.rules] [] ([]) [([],[]),([],[]),([],[]),([],[]),([],[]),([],[]),([],[]),([],[]),([],[]),([],[]),([],[]),([],[]),([],[]),([],[]),([],[]),([],[]),([],[]),([],[]),([],[]),([],[]),([],[]),([],[])] (S:=[]) Tryz_mix (by kernel_rfl) rfl (by kernel_rfl) (amF_cons (mono_V _) (amF_cons (mono_V _) (amF_cons (mono_V _) (amF_cons (mono_V _) (amF_cons (mono_V _) (amF_cons (mono_V _) (amF_cons (mono_V _) (amF_cons (mono_V _) (amF_cons (mono_V _) (amF_cons (mono_V _) (amF_cons (mono_V _) (amF_cons (mono_V _) (amF_cons (mono_V _) (amF_cons (mono_V _) (amF_cons (mono_V _) (amF_cons (mono_V _) (amF_cons (mono_V _) (amF_cons (mono_V _) (amF_cons (mono_V _) (amF_cons (mono_V _) (amF_cons (mono_V _) (amF_cons (mono_V _) amF_nil)))))))))))))))))))))) Z ?_ (fun f w_ H118 hS118 hE118 hT118 Z=>?_)
 refine opsS_cons (fun f w_ _ _ s _ _ Z=>mF ((s 6 rfl).trans rfl) rfl (nO rfl rfl Z)) (opsS_cons (fun f w_ _ _ s _ _ Z=>L_lda (cs:=[r21_0,r21_1]) rfl Tryz.isAgg25 Tryz.sizeOf25 ((s 5 rfl).trans rfl) (At.sub0 (Blk.at (Star.blkAt 3 Z rfl)) 0 2) rfl (nO rfl rfl Z)) (opsS_cons ?_ ?_))
 intro f w_ H118 X118 hS118 hE118 hP118 Z
 obtain ⟨H482b,l483,s484,z485,k486⟩:=Z.borrow
 have hb487 : (rS 3 RP.int).rel H482b [r21_0] x9.sizes:=fz_own 4 z485 rfl
 have hb488 : (rS 49 (rRule 3 22)).rel H482b [r21_1] x9.rules:=fz_own 5 z485 rfl
 refine L_call rfl Tryz.call14 (ops1 (hP118 1 32 rfl rfl)) (s_FormatModel_c (m:=x9) s484 hb487 hb488 hx74) ?_
 rintro _ w489 ⟨rfl,Z⟩
 have Z:=k486 Z c0
 exact L_nil ⟨rfl,_,_,rfl,Le.refl _,fun _ _=>rfl,Z⟩
 refine opsS_cons (fun f w_ _ _ _ _ p Z=>L_sneq (s:=x34) (s':=x74) rfl (p 0 31 rfl rfl) (p 2 33 rfl rfl) (nO rfl rfl Z)) (opsS_cons (fun f w_ _ _ _ _ p Z=>mF (p 3 34 rfl rfl) rfl (nO rfl rfl Z)) (opsS_cons (fun f w_ _ _ s _ p Z=>L_lda (cs:=[r21_0,r21_1]) (g_yes rfl (Eq.trans (p 4 35 rfl rfl) (congrArg Value.bool hc122)) rfl) Tryz.isAgg25 Tryz.sizeOf25 ((s 5 rfl).trans rfl) (At.sub0 (Blk.at (Star.blkAt 3 Z rfl)) 0 2) rfl (nO rfl rfl Z)) (opsS_cons ?_ ?_)))
 intro f w_ H118 X118 hS118 hE118 hP118 Z
 obtain ⟨H490b,l491,s492,z493,k494⟩:=Z.borrow
 have hb495 : (rS 3 RP.int).rel H490b [r21_0] x9.sizes:=fz_own 4 z493 rfl
 have hb496 : (rS 49 (rRule 3 22)).rel H490b [r21_1] x9.rules:=fz_own 5 z493 rfl
 refine L_call (g_yes rfl (Eq.trans (hP118 4 35 rfl rfl) (congrArg Value.bool hc122)) rfl) Tryz.call15 (ops1 (hP118 5 36 rfl rfl)) (i_ModelValid_c (m:=x9) s492 hb495 hb496 hx83) ?_
 rintro _ w497 ⟨rfl,Z⟩
 have Z:=k494 Z c0
 exact L_nil ⟨rfl,_,_,rfl,Le.refl _,fun _ _=>rfl,Z⟩
 refine opsS_cons (fun f w_ _ _ s _ p Z=>L_lda (cs:=[r21_0,r21_1]) (g_yes rfl (Eq.trans (p 4 35 rfl rfl) (congrArg Value.bool hc122)) rfl) Tryz.isAgg25 Tryz.sizeOf25 ((s 5 rfl).trans rfl) (At.sub0 (Blk.at (Star.blkAt 3 Z rfl)) 0 2) rfl (nO rfl rfl Z)) (opsS_cons ?_ ?_)
 intro f w_ H118 X118 hS118 hE118 hP118 Z
 obtain ⟨H498b,l499,s500,z501,k502⟩:=Z.borrow
 have hb503 : (rS 3 RP.int).rel H498b [r21_0] x9.sizes:=fz_own 4 z501 rfl
 have hb504 : (rS 49 (rRule 3 22)).rel H498b [r21_1] x9.rules:=fz_own 5 z501 rfl
 refine L_call (g_yes rfl (Eq.trans (hP118 4 35 rfl rfl) (congrArg Value.bool hc122)) rfl) Tryz.call16 (ops1 (hP118 7 38 rfl rfl)) (s_ModelValid_c (m:=x9) s500 hb503 hb504 hx92) ?_
 rintro _ w505 ⟨rfl,Z⟩
 have Z:=k502 Z c0
 exact L_nil ⟨rfl,_,_,rfl,Le.refl _,fun _ _=>rfl,Z⟩
 refine opsS_cons (fun f w_ _ _ _ _ p Z=>L_bneq (b:=x83) (c:=x92) (g_yes rfl (Eq.trans (p 4 35 rfl rfl) (congrArg Value.bool hc122)) rfl) Tryz.underlying4 (p 6 37 rfl rfl) (p 8 39 rfl rfl) (nO rfl rfl Z)) (opsS_cons (fun f w_ _ _ _ _ p Z=>pkT (v:=Bo b94) (p 4 35 rfl rfl) hc122 rfl (Eq.trans (p 9 40 rfl rfl) (congrArg Value.bool (so hb94))) (nO rfl rfl Z)) (opsS_cons (fun f w_ _ _ _ _ p Z=>mF (p 10 41 rfl rfl) rfl (nO rfl rfl Z)) (opsS_cons (fun f w_ _ _ s _ p Z=>L_mv (v:=Bo x49.2) (g_yes rfl (Eq.trans (p 11 42 rfl rfl) (congrArg Value.bool hc292)) rfl) ((s 8 rfl).trans rfl) (nO rfl rfl Z)) (opsS_cons (fun f w_ _ _ s _ p Z=>L_lda (cs:=[r21_0,r21_1]) (g_yes rfl (Eq.trans (p 11 42 rfl rfl) (congrArg Value.bool hc292)) rfl) Tryz.isAgg25 Tryz.sizeOf25 ((s 5 rfl).trans rfl) (At.sub0 (Blk.at (Star.blkAt 3 Z rfl)) 0 2) rfl (nO rfl rfl Z)) (opsS_cons ?_ ?_)))))
 intro f w_ H118 X118 hS118 hE118 hP118 Z
 obtain ⟨H506b,l507,s508,z509,k510⟩:=Z.borrow
 have hb511 : (rS 3 RP.int).rel H506b [r21_0] x9.sizes:=fz_own 4 z509 rfl
 have hb512 : (rS 49 (rRule 3 22)).rel H506b [r21_1] x9.rules:=fz_own 5 z509 rfl
 refine L_call (g_yes rfl (Eq.trans (hP118 11 42 rfl rfl) (congrArg Value.bool hc292)) rfl) Tryz.call16 (ops1 (hP118 13 44 rfl rfl)) (s_ModelValid_c (m:=x9) s508 hb511 hb512 hx102) ?_
 rintro _ w513 ⟨rfl,Z⟩
 have Z:=k510 Z c0
 exact L_nil ⟨rfl,_,_,rfl,Le.refl _,fun _ _=>rfl,Z⟩
 refine opsS_cons (fun f w_ _ _ _ _ p Z=>L_bneq (b:=x49.2) (c:=x102) (g_yes rfl (Eq.trans (p 11 42 rfl rfl) (congrArg Value.bool hc292)) rfl) Tryz.underlying4 (p 12 43 rfl rfl) (p 14 45 rfl rfl) (nO rfl rfl Z)) (opsS_cons (fun f w_ _ _ _ _ p Z=>pkT (v:=Bo b104) (p 11 42 rfl rfl) hc292 rfl (Eq.trans (p 15 46 rfl rfl) (congrArg Value.bool (so hb104))) (nO rfl rfl Z)) (opsS_cons (fun f w_ _ _ _ _ p Z=>mF (p 16 47 rfl rfl) rfl (nO rfl rfl Z)) (oP (fun _ _ p=>gN (p 17 48 rfl rfl) hc449 rfl) (fun _=>rfl) (oP (fun _ _ p=>gN (p 17 48 rfl rfl) hc449 rfl) (fun _=>rfl) (oP (fun _ _ p=>g_undef rfl (p 19 50 rfl rfl) rfl) (fun _=>rfl) (oP (fun _ _ p=>g_undef rfl (p 19 50 rfl rfl) rfl) (fun _=>rfl) (opsS_nil)))))))
 refine ps (g_undef rfl (hT118 19 50 rfl rfl) rfl) (ps (g_undef rfl (hT118 19 50 rfl rfl) rfl) (ps (g_no rfl (Eq.trans (hT118 17 48 rfl rfl) (congrArg Value.bool hc449)) rfl rfl) (L_pick (v:=Bo b117) rfl (Eq.trans (hT118 17 48 rfl rfl) (congrArg Value.bool hc449)) (congrArg Value.bool (so hb117)) (nn (rj hR121 ⟨H118,hE118,((hS118 1 rfl).trans sf1),rfl,(Star.keepN 0 Z)⟩)))))
 rw [ite_f hc449] at hb117
 obtain ⟨b116,hb116,hb117⟩:=bind_some hb117
 rcases Bool.eq_false_or_eq_true x49.2 with hc514 | hc514
 rw [ite_t hc514] at hb116
 obtain ⟨x114,hx114,hb116⟩:=bind_some hb116
 refine W_drawS 22 [isV (.string x34),isV (.agg #[r21_0,r21_1]),isV (.string x74),isV (Bo (!(ByteArray.toList x34 == ByteArray.toList x74))),isV (Bo (!(ByteArray.toList x34 == ByteArray.toList x74))),isV (.agg #[r21_0,r21_1]),isV (Bo x83),isV (.agg #[r21_0,r21_1]),isV (Bo x92),isV (Bo (x83 != x92)),isV (Bo b94),isV (Bo b94),isV (Bo x49.2),isV (.agg #[r21_0,r21_1]),isV (Bo x102),isV (Bo (x49.2 != x102)),isV (Bo b104),isV (Bo b104),isV (Bo x49.2),isV (Bo x49.2),isV (.agg #[r61_0,r61_1]),isV (.agg #[r21_0,r21_1])] [box g64 25 #[r61_0,r61_1],oF 3 RP.int r61_0 x49.1.sizes,oS 49 (oRule 3 22) r61_1 x49.1.rules,box g24 25 #[r21_0,r21_1],oF 3 RP.int r21_0 x9.sizes,oS 49 (oRule 3 22) r21_1 x9.rules] [] ([]) [([],[]),([],[]),([],[]),([],[]),([],[]),([],[]),([],[]),([],[]),([],[]),([],[]),([],[]),([],[]),([],[]),([],[]),([],[]),([],[]),([],[]),([],[]),([],[]),([],[]),([],[]),([],[])] (S:=[]) Tryz_mix (by kernel_rfl) rfl (by kernel_rfl) (amF_cons (mono_V _) (amF_cons (mono_V _) (amF_cons (mono_V _) (amF_cons (mono_V _) (amF_cons (mono_V _) (amF_cons (mono_V _) (amF_cons (mono_V _) (amF_cons (mono_V _) (amF_cons (mono_V _) (amF_cons (mono_V _) (amF_cons (mono_V _) (amF_cons (mono_V _) (amF_cons (mono_V _) (amF_cons (mono_V _) (amF_cons (mono_V _) (amF_cons (mono_V _) (amF_cons (mono_V _) (amF_cons (mono_V _) (amF_cons (mono_V _) (amF_cons (mono_V _) (amF_cons (mono_V _) (amF_cons (mono_V _) amF_nil)))))))))))))))))))))) Z ?_ (fun f w_ H118 hS118 hE118 hT118 Z=>?_)
 refine opsS_cons (fun f w_ _ _ s _ _ Z=>mF ((s 6 rfl).trans rfl) rfl (nO rfl rfl Z)) (opsS_cons (fun f w_ _ _ s _ _ Z=>L_lda (cs:=[r21_0,r21_1]) rfl Tryz.isAgg25 Tryz.sizeOf25 ((s 5 rfl).trans rfl) (At.sub0 (Blk.at (Star.blkAt 3 Z rfl)) 0 2) rfl (nO rfl rfl Z)) (opsS_cons ?_ ?_))
 intro f w_ H118 X118 hS118 hE118 hP118 Z
 obtain ⟨H547b,l548,s549,z550,k551⟩:=Z.borrow
 have hb552 : (rS 3 RP.int).rel H547b [r21_0] x9.sizes:=fz_own 4 z550 rfl
 have hb553 : (rS 49 (rRule 3 22)).rel H547b [r21_1] x9.rules:=fz_own 5 z550 rfl
 refine L_call rfl Tryz.call14 (ops1 (hP118 1 32 rfl rfl)) (s_FormatModel_c (m:=x9) s549 hb552 hb553 hx74) ?_
 rintro _ w554 ⟨rfl,Z⟩
 have Z:=k551 Z c0
 exact L_nil ⟨rfl,_,_,rfl,Le.refl _,fun _ _=>rfl,Z⟩
 refine opsS_cons (fun f w_ _ _ _ _ p Z=>L_sneq (s:=x34) (s':=x74) rfl (p 0 31 rfl rfl) (p 2 33 rfl rfl) (nO rfl rfl Z)) (opsS_cons (fun f w_ _ _ _ _ p Z=>mF (p 3 34 rfl rfl) rfl (nO rfl rfl Z)) (opsS_cons (fun f w_ _ _ s _ p Z=>L_lda (cs:=[r21_0,r21_1]) (g_yes rfl (Eq.trans (p 4 35 rfl rfl) (congrArg Value.bool hc122)) rfl) Tryz.isAgg25 Tryz.sizeOf25 ((s 5 rfl).trans rfl) (At.sub0 (Blk.at (Star.blkAt 3 Z rfl)) 0 2) rfl (nO rfl rfl Z)) (opsS_cons ?_ ?_)))
 intro f w_ H118 X118 hS118 hE118 hP118 Z
 obtain ⟨H555b,l556,s557,z558,k559⟩:=Z.borrow
 have hb560 : (rS 3 RP.int).rel H555b [r21_0] x9.sizes:=fz_own 4 z558 rfl
 have hb561 : (rS 49 (rRule 3 22)).rel H555b [r21_1] x9.rules:=fz_own 5 z558 rfl
 refine L_call (g_yes rfl (Eq.trans (hP118 4 35 rfl rfl) (congrArg Value.bool hc122)) rfl) Tryz.call15 (ops1 (hP118 5 36 rfl rfl)) (i_ModelValid_c (m:=x9) s557 hb560 hb561 hx83) ?_
 rintro _ w562 ⟨rfl,Z⟩
 have Z:=k559 Z c0
 exact L_nil ⟨rfl,_,_,rfl,Le.refl _,fun _ _=>rfl,Z⟩
 refine opsS_cons (fun f w_ _ _ s _ p Z=>L_lda (cs:=[r21_0,r21_1]) (g_yes rfl (Eq.trans (p 4 35 rfl rfl) (congrArg Value.bool hc122)) rfl) Tryz.isAgg25 Tryz.sizeOf25 ((s 5 rfl).trans rfl) (At.sub0 (Blk.at (Star.blkAt 3 Z rfl)) 0 2) rfl (nO rfl rfl Z)) (opsS_cons ?_ ?_)
 intro f w_ H118 X118 hS118 hE118 hP118 Z
 obtain ⟨H563b,l564,s565,z566,k567⟩:=Z.borrow
 have hb568 : (rS 3 RP.int).rel H563b [r21_0] x9.sizes:=fz_own 4 z566 rfl
 have hb569 : (rS 49 (rRule 3 22)).rel H563b [r21_1] x9.rules:=fz_own 5 z566 rfl
 refine L_call (g_yes rfl (Eq.trans (hP118 4 35 rfl rfl) (congrArg Value.bool hc122)) rfl) Tryz.call16 (ops1 (hP118 7 38 rfl rfl)) (s_ModelValid_c (m:=x9) s565 hb568 hb569 hx92) ?_
 rintro _ w570 ⟨rfl,Z⟩
 have Z:=k567 Z c0
 exact L_nil ⟨rfl,_,_,rfl,Le.refl _,fun _ _=>rfl,Z⟩
 refine opsS_cons (fun f w_ _ _ _ _ p Z=>L_bneq (b:=x83) (c:=x92) (g_yes rfl (Eq.trans (p 4 35 rfl rfl) (congrArg Value.bool hc122)) rfl) Tryz.underlying4 (p 6 37 rfl rfl) (p 8 39 rfl rfl) (nO rfl rfl Z)) (opsS_cons (fun f w_ _ _ _ _ p Z=>pkT (v:=Bo b94) (p 4 35 rfl rfl) hc122 rfl (Eq.trans (p 9 40 rfl rfl) (congrArg Value.bool (so hb94))) (nO rfl rfl Z)) (opsS_cons (fun f w_ _ _ _ _ p Z=>mF (p 10 41 rfl rfl) rfl (nO rfl rfl Z)) (opsS_cons (fun f w_ _ _ s _ p Z=>L_mv (v:=Bo x49.2) (g_yes rfl (Eq.trans (p 11 42 rfl rfl) (congrArg Value.bool hc292)) rfl) ((s 8 rfl).trans rfl) (nO rfl rfl Z)) (opsS_cons (fun f w_ _ _ s _ p Z=>L_lda (cs:=[r21_0,r21_1]) (g_yes rfl (Eq.trans (p 11 42 rfl rfl) (congrArg Value.bool hc292)) rfl) Tryz.isAgg25 Tryz.sizeOf25 ((s 5 rfl).trans rfl) (At.sub0 (Blk.at (Star.blkAt 3 Z rfl)) 0 2) rfl (nO rfl rfl Z)) (opsS_cons ?_ ?_)))))
 intro f w_ H118 X118 hS118 hE118 hP118 Z
 obtain ⟨H571b,l572,s573,z574,k575⟩:=Z.borrow
 have hb576 : (rS 3 RP.int).rel H571b [r21_0] x9.sizes:=fz_own 4 z574 rfl
 have hb577 : (rS 49 (rRule 3 22)).rel H571b [r21_1] x9.rules:=fz_own 5 z574 rfl
 refine L_call (g_yes rfl (Eq.trans (hP118 11 42 rfl rfl) (congrArg Value.bool hc292)) rfl) Tryz.call16 (ops1 (hP118 13 44 rfl rfl)) (s_ModelValid_c (m:=x9) s573 hb576 hb577 hx102) ?_
 rintro _ w578 ⟨rfl,Z⟩
 have Z:=k575 Z c0
 exact L_nil ⟨rfl,_,_,rfl,Le.refl _,fun _ _=>rfl,Z⟩
 refine opsS_cons (fun f w_ _ _ _ _ p Z=>L_bneq (b:=x49.2) (c:=x102) (g_yes rfl (Eq.trans (p 11 42 rfl rfl) (congrArg Value.bool hc292)) rfl) Tryz.underlying4 (p 12 43 rfl rfl) (p 14 45 rfl rfl) (nO rfl rfl Z)) (opsS_cons (fun f w_ _ _ _ _ p Z=>pkT (v:=Bo b104) (p 11 42 rfl rfl) hc292 rfl (Eq.trans (p 15 46 rfl rfl) (congrArg Value.bool (so hb104))) (nO rfl rfl Z)) (opsS_cons (fun f w_ _ _ _ _ p Z=>mF (p 16 47 rfl rfl) rfl (nO rfl rfl Z)) (opsS_cons (fun f w_ _ _ s _ p Z=>L_mv (v:=Bo x49.2) (g_yes rfl (Eq.trans (p 17 48 rfl rfl) (congrArg Value.bool hc449)) rfl) ((s 8 rfl).trans rfl) (nO rfl rfl Z)) (opsS_cons (fun f w_ _ _ _ _ p Z=>L_mv (v:=Bo x49.2) (g_yes rfl (Eq.trans (p 17 48 rfl rfl) (congrArg Value.bool hc449)) rfl) (p 18 49 rfl rfl) (nO rfl rfl Z)) (opsS_cons (fun f w_ _ _ s _ p Z=>L_lda (cs:=[r61_0,r61_1]) (g_yes rfl (Eq.trans (p 19 50 rfl rfl) (congrArg Value.bool hc514)) rfl) Tryz.isAgg25 Tryz.sizeOf25 ((s 7 rfl).trans rfl) (At.sub0 (Blk.at (Star.blkAt 0 Z rfl)) 0 2) rfl (nO rfl rfl Z)) (opsS_cons (fun f w_ _ _ s _ p Z=>L_lda (cs:=[r21_0,r21_1]) (g_yes rfl (Eq.trans (p 19 50 rfl rfl) (congrArg Value.bool hc514)) rfl) Tryz.isAgg25 Tryz.sizeOf25 ((s 5 rfl).trans rfl) (At.sub0 (Blk.at (Star.blkAt 3 Z rfl)) 0 2) rfl (nO rfl rfl Z)) (opsS_nil)))))))
 obtain ⟨H579b,l580,s581,z582,k583⟩:=Z.borrow
 have hb584 : (rS 3 RP.int).rel H579b [r61_0] x49.1.sizes:=fz_own 1 z582 rfl
 have hb585 : (rS 49 (rRule 3 22)).rel H579b [r61_1] x49.1.rules:=fz_own 2 z582 rfl
 have hb586 : (rS 3 RP.int).rel H579b [r21_0] x9.sizes:=fz_own 4 z582 rfl
 have hb587 : (rS 49 (rRule 3 22)).rel H579b [r21_1] x9.rules:=fz_own 5 z582 rfl
 refine L_call (g_yes rfl (Eq.trans (hT118 19 50 rfl rfl) (congrArg Value.bool hc514)) rfl) Tryz.call17 (ops2 (hT118 20 51 rfl rfl) (hT118 21 52 rfl rfl)) (i_ModelSame_c (a:=x49.1) (b:=x9) s581 hb584 hb585 hb586 hb587 hx114) ?_
 rintro _ w588 ⟨rfl,Z⟩
 have Z:=k583 Z c0
 refine L_not_ (g_yes rfl (Eq.trans (hT118 19 50 rfl rfl) (congrArg Value.bool hc514)) rfl) rfl (L_pick (v:=Bo b116) (g_yes rfl (Eq.trans (hT118 17 48 rfl rfl) (congrArg Value.bool hc449)) rfl) (Eq.trans (hT118 19 50 rfl rfl) (congrArg Value.bool hc514)) (congrArg Value.bool (so hb116)) (L_pick (v:=Bo b117) rfl (Eq.trans (hT118 17 48 rfl rfl) (congrArg Value.bool hc449)) (congrArg Value.bool (so hb117)) (nn (rj hR121 ⟨H118,hE118,((hS118 1 rfl).trans sf1),rfl,(Star.keepN 0 Z)⟩))))
 rw [ite_f hc514] at hb116
 refine W_drawS 22 [isV (.string x34),isV (.agg #[r21_0,r21_1]),isV (.string x74),isV (Bo (!(ByteArray.toList x34 == ByteArray.toList x74))),isV (Bo (!(ByteArray.toList x34 == ByteArray.toList x74))),isV (.agg #[r21_0,r21_1]),isV (Bo x83),isV (.agg #[r21_0,r21_1]),isV (Bo x92),isV (Bo (x83 != x92)),isV (Bo b94),isV (Bo b94),isV (Bo x49.2),isV (.agg #[r21_0,r21_1]),isV (Bo x102),isV (Bo (x49.2 != x102)),isV (Bo b104),isV (Bo b104),isV (Bo x49.2),isV (Bo x49.2),isV (undef),isV (undef)] [box g64 25 #[r61_0,r61_1],oF 3 RP.int r61_0 x49.1.sizes,oS 49 (oRule 3 22) r61_1 x49.1.rules,box g24 25 #[r21_0,r21_1],oF 3 RP.int r21_0 x9.sizes,oS 49 (oRule 3 22) r21_1 x9.rules] [] ([]) [([],[]),([],[]),([],[]),([],[]),([],[]),([],[]),([],[]),([],[]),([],[]),([],[]),([],[]),([],[]),([],[]),([],[]),([],[]),([],[]),([],[]),([],[]),([],[]),([],[]),([],[]),([],[])] (S:=[]) Tryz_mix (by kernel_rfl) rfl (by kernel_rfl) (amF_cons (mono_V _) (amF_cons (mono_V _) (amF_cons (mono_V _) (amF_cons (mono_V _) (amF_cons (mono_V _) (amF_cons (mono_V _) (amF_cons (mono_V _) (amF_cons (mono_V _) (amF_cons (mono_V _) (amF_cons (mono_V _) (amF_cons (mono_V _) (amF_cons (mono_V _) (amF_cons (mono_V _) (amF_cons (mono_V _) (amF_cons (mono_V _) (amF_cons (mono_V _) (amF_cons (mono_V _) (amF_cons (mono_V _) (amF_cons (mono_V _) (amF_cons (mono_V _) (amF_cons (mono_V _) (amF_cons (mono_V _) amF_nil)))))))))))))))))))))) Z ?_ (fun f w_ H118 hS118 hE118 hT118 Z=>?_)
 refine opsS_cons (fun f w_ _ _ s _ _ Z=>mF ((s 6 rfl).trans rfl) rfl (nO rfl rfl Z)) (opsS_cons (fun f w_ _ _ s _ _ Z=>L_lda (cs:=[r21_0,r21_1]) rfl Tryz.isAgg25 Tryz.sizeOf25 ((s 5 rfl).trans rfl) (At.sub0 (Blk.at (Star.blkAt 3 Z rfl)) 0 2) rfl (nO rfl rfl Z)) (opsS_cons ?_ ?_))
 intro f w_ H118 X118 hS118 hE118 hP118 Z
 obtain ⟨H621b,l622,s623,z624,k625⟩:=Z.borrow
 have hb626 : (rS 3 RP.int).rel H621b [r21_0] x9.sizes:=fz_own 4 z624 rfl
 have hb627 : (rS 49 (rRule 3 22)).rel H621b [r21_1] x9.rules:=fz_own 5 z624 rfl
 refine L_call rfl Tryz.call14 (ops1 (hP118 1 32 rfl rfl)) (s_FormatModel_c (m:=x9) s623 hb626 hb627 hx74) ?_
 rintro _ w628 ⟨rfl,Z⟩
 have Z:=k625 Z c0
 exact L_nil ⟨rfl,_,_,rfl,Le.refl _,fun _ _=>rfl,Z⟩
 refine opsS_cons (fun f w_ _ _ _ _ p Z=>L_sneq (s:=x34) (s':=x74) rfl (p 0 31 rfl rfl) (p 2 33 rfl rfl) (nO rfl rfl Z)) (opsS_cons (fun f w_ _ _ _ _ p Z=>mF (p 3 34 rfl rfl) rfl (nO rfl rfl Z)) (opsS_cons (fun f w_ _ _ s _ p Z=>L_lda (cs:=[r21_0,r21_1]) (g_yes rfl (Eq.trans (p 4 35 rfl rfl) (congrArg Value.bool hc122)) rfl) Tryz.isAgg25 Tryz.sizeOf25 ((s 5 rfl).trans rfl) (At.sub0 (Blk.at (Star.blkAt 3 Z rfl)) 0 2) rfl (nO rfl rfl Z)) (opsS_cons ?_ ?_)))
 intro f w_ H118 X118 hS118 hE118 hP118 Z
 obtain ⟨H629b,l630,s631,z632,k633⟩:=Z.borrow
 have hb634 : (rS 3 RP.int).rel H629b [r21_0] x9.sizes:=fz_own 4 z632 rfl
 have hb635 : (rS 49 (rRule 3 22)).rel H629b [r21_1] x9.rules:=fz_own 5 z632 rfl
 refine L_call (g_yes rfl (Eq.trans (hP118 4 35 rfl rfl) (congrArg Value.bool hc122)) rfl) Tryz.call15 (ops1 (hP118 5 36 rfl rfl)) (i_ModelValid_c (m:=x9) s631 hb634 hb635 hx83) ?_
 rintro _ w636 ⟨rfl,Z⟩
 have Z:=k633 Z c0
 exact L_nil ⟨rfl,_,_,rfl,Le.refl _,fun _ _=>rfl,Z⟩
 refine opsS_cons (fun f w_ _ _ s _ p Z=>L_lda (cs:=[r21_0,r21_1]) (g_yes rfl (Eq.trans (p 4 35 rfl rfl) (congrArg Value.bool hc122)) rfl) Tryz.isAgg25 Tryz.sizeOf25 ((s 5 rfl).trans rfl) (At.sub0 (Blk.at (Star.blkAt 3 Z rfl)) 0 2) rfl (nO rfl rfl Z)) (opsS_cons ?_ ?_)
 intro f w_ H118 X118 hS118 hE118 hP118 Z
 obtain ⟨H637b,l638,s639,z640,k641⟩:=Z.borrow
 have hb642 : (rS 3 RP.int).rel H637b [r21_0] x9.sizes:=fz_own 4 z640 rfl
 have hb643 : (rS 49 (rRule 3 22)).rel H637b [r21_1] x9.rules:=fz_own 5 z640 rfl
 refine L_call (g_yes rfl (Eq.trans (hP118 4 35 rfl rfl) (congrArg Value.bool hc122)) rfl) Tryz.call16 (ops1 (hP118 7 38 rfl rfl)) (s_ModelValid_c (m:=x9) s639 hb642 hb643 hx92) ?_
 rintro _ w644 ⟨rfl,Z⟩
 have Z:=k641 Z c0
 exact L_nil ⟨rfl,_,_,rfl,Le.refl _,fun _ _=>rfl,Z⟩
 refine opsS_cons (fun f w_ _ _ _ _ p Z=>L_bneq (b:=x83) (c:=x92) (g_yes rfl (Eq.trans (p 4 35 rfl rfl) (congrArg Value.bool hc122)) rfl) Tryz.underlying4 (p 6 37 rfl rfl) (p 8 39 rfl rfl) (nO rfl rfl Z)) (opsS_cons (fun f w_ _ _ _ _ p Z=>pkT (v:=Bo b94) (p 4 35 rfl rfl) hc122 rfl (Eq.trans (p 9 40 rfl rfl) (congrArg Value.bool (so hb94))) (nO rfl rfl Z)) (opsS_cons (fun f w_ _ _ _ _ p Z=>mF (p 10 41 rfl rfl) rfl (nO rfl rfl Z)) (opsS_cons (fun f w_ _ _ s _ p Z=>L_mv (v:=Bo x49.2) (g_yes rfl (Eq.trans (p 11 42 rfl rfl) (congrArg Value.bool hc292)) rfl) ((s 8 rfl).trans rfl) (nO rfl rfl Z)) (opsS_cons (fun f w_ _ _ s _ p Z=>L_lda (cs:=[r21_0,r21_1]) (g_yes rfl (Eq.trans (p 11 42 rfl rfl) (congrArg Value.bool hc292)) rfl) Tryz.isAgg25 Tryz.sizeOf25 ((s 5 rfl).trans rfl) (At.sub0 (Blk.at (Star.blkAt 3 Z rfl)) 0 2) rfl (nO rfl rfl Z)) (opsS_cons ?_ ?_)))))
 intro f w_ H118 X118 hS118 hE118 hP118 Z
 obtain ⟨H645b,l646,s647,z648,k649⟩:=Z.borrow
 have hb650 : (rS 3 RP.int).rel H645b [r21_0] x9.sizes:=fz_own 4 z648 rfl
 have hb651 : (rS 49 (rRule 3 22)).rel H645b [r21_1] x9.rules:=fz_own 5 z648 rfl
 refine L_call (g_yes rfl (Eq.trans (hP118 11 42 rfl rfl) (congrArg Value.bool hc292)) rfl) Tryz.call16 (ops1 (hP118 13 44 rfl rfl)) (s_ModelValid_c (m:=x9) s647 hb650 hb651 hx102) ?_
 rintro _ w652 ⟨rfl,Z⟩
 have Z:=k649 Z c0
 exact L_nil ⟨rfl,_,_,rfl,Le.refl _,fun _ _=>rfl,Z⟩
 refine opsS_cons (fun f w_ _ _ _ _ p Z=>L_bneq (b:=x49.2) (c:=x102) (g_yes rfl (Eq.trans (p 11 42 rfl rfl) (congrArg Value.bool hc292)) rfl) Tryz.underlying4 (p 12 43 rfl rfl) (p 14 45 rfl rfl) (nO rfl rfl Z)) (opsS_cons (fun f w_ _ _ _ _ p Z=>pkT (v:=Bo b104) (p 11 42 rfl rfl) hc292 rfl (Eq.trans (p 15 46 rfl rfl) (congrArg Value.bool (so hb104))) (nO rfl rfl Z)) (opsS_cons (fun f w_ _ _ _ _ p Z=>mF (p 16 47 rfl rfl) rfl (nO rfl rfl Z)) (opsS_cons (fun f w_ _ _ s _ p Z=>L_mv (v:=Bo x49.2) (g_yes rfl (Eq.trans (p 17 48 rfl rfl) (congrArg Value.bool hc449)) rfl) ((s 8 rfl).trans rfl) (nO rfl rfl Z)) (opsS_cons (fun f w_ _ _ _ _ p Z=>L_mv (v:=Bo x49.2) (g_yes rfl (Eq.trans (p 17 48 rfl rfl) (congrArg Value.bool hc449)) rfl) (p 18 49 rfl rfl) (nO rfl rfl Z)) (oP (fun _ _ p=>gN (p 19 50 rfl rfl) hc514 rfl) (fun _=>rfl) (oP (fun _ _ p=>gN (p 19 50 rfl rfl) hc514 rfl) (fun _=>rfl) (opsS_nil)))))))
 refine ps (g_no rfl (Eq.trans (hT118 19 50 rfl rfl) (congrArg Value.bool hc514)) rfl rfl) (ps (g_no rfl (Eq.trans (hT118 19 50 rfl rfl) (congrArg Value.bool hc514)) rfl rfl) (L_pick (v:=Bo b116) (g_yes rfl (Eq.trans (hT118 17 48 rfl rfl) (congrArg Value.bool hc449)) rfl) (Eq.trans (hT118 19 50 rfl rfl) (congrArg Value.bool hc514)) (congrArg Value.bool (so hb116)) (L_pick (v:=Bo b117) rfl (Eq.trans (hT118 17 48 rfl rfl) (congrArg Value.bool hc449)) (congrArg Value.bool (so hb117)) (nn (rj hR121 ⟨H118,hE118,((hS118 1 rfl).trans sf1),rfl,(Star.keepN 0 Z)⟩)))))
 intro f w_ hR
 obtain ⟨H119,l120,sf1,sf56,Z⟩:=rk hR121 hR
 refine W_cond (b:=b117) sf56 (fun hc653=>?_) (fun hc653=>?_)
 have hF:=(ite_t hc653).symm.trans hF
 refine sq (aB rfl (nn (W_ret (retG1 (v1:=Bo false) Tryz.results4 rfl ?_))))
 obtain rfl:=so hF
 exact ⟨rfl,(Star.down Z l120 c0)⟩
 have hF:=(ite_f hc653).symm.trans hF
 refine W_skip (W_seq ?_)
 obtain ⟨x659,hx659,hF⟩:=bind_some hF
 refine W_region (mF sf1 rfl ?_)
 obtain ⟨H661b,l662,s663,z664,k665⟩:=Z.borrow
 refine L_call rfl Tryz.call18 (ops1 rfl) (s_DrawParseModel_c (code:=more) s663 (RP.mono _ h1 (Le.trans l120 l662)) hx659) ?_
 rintro _ w666 ⟨rfl,Z⟩
 have Z:=k665 Z c0
 refine aV (.string x659) rfl (nq ?_)
 obtain ⟨x672,hx672,hF⟩:=bind_some hF
 refine W_region (mV (.string x659) rfl ?_)
 obtain ⟨H679b,l680,s681,z682,k683⟩:=Z.borrow
 refine L_call rfl Tryz.call8 (ops1 rfl) (i_ParseModel_c (text:=x659) s681 hx672) ?_
 rintro _ w684 ⟨r684_0,r684_1,rfl,Z⟩
 have Z:=k683 Z (co closed_int (co closed_oRule c0))
 refine mV (.tuple #[.agg #[r684_0,r684_1],Bo x672.2]) rfl (L_ex (v:=.agg #[r684_0,r684_1]) rfl rfl rfl (L_ex (v:=Bo x672.2) rfl rfl rfl (L_al (cs:=#[S0,S0]) rfl Tryz.zeroValue25 rfl Z (fun g687 w688 Z=>L_staB (vs:=#[r684_0,r684_1]) (cs2:=#[r684_0,r684_1]) 0 rfl Tryz.sizeOf25 rfl rfl rfl (ones_cons (one_len (Star.len 1 Z rfl)) (ones_cons (one_len (Star.len 2 Z rfl)) ones_nil)) Z rfl (by show 0 + 2≤2; decide) rfl (fun w689 Z=>aB rfl (nq ?_))))))
 obtain ⟨x695,hx695,hF⟩:=bind_some hF
 refine W_region (mV (.string x659) rfl ?_)
 obtain ⟨H702b,l703,s704,z705,k706⟩:=Z.borrow
 refine L_call rfl Tryz.call7 (ops1 rfl) (s_ParseModel_c (text:=x659) s704 hx695) ?_
 rintro _ w707 ⟨r707_0,r707_1,rfl,Z⟩
 have Z:=k706 Z (co closed_int (co closed_oRule c0))
 refine mV (.tuple #[.agg #[r707_0,r707_1],Bo x695.2]) rfl (L_ex (v:=.agg #[r707_0,r707_1]) rfl rfl rfl (L_ex (v:=Bo x695.2) rfl rfl rfl (L_al (cs:=#[S0,S0]) rfl Tryz.zeroValue25 rfl Z (fun g710 w711 Z=>L_staB (vs:=#[r707_0,r707_1]) (cs2:=#[r707_0,r707_1]) 0 rfl Tryz.sizeOf25 rfl rfl rfl (ones_cons (one_len (Star.len 1 Z rfl)) (ones_cons (one_len (Star.len 2 Z rfl)) ones_nil)) Z rfl (by show 0 + 2≤2; decide) rfl (fun w712 Z=>aB rfl (nq ?_))))))
 obtain ⟨b724,hb724,hF⟩:=bind_some hF
 obtain ⟨b735,hb735,hF⟩:=bind_some hF
 obtain ⟨R736,hR736⟩:=exR fun f w_=>f 4 = Bo b735∧Star H119 w_ ([])
 refine W_join R736 ?_ ?_
 refine W_region (mB rfl (mB rfl (L_beql (b:=x672.2) (c:=x695.2) rfl Tryz.underlying4 rfl rfl (mB rfl (L_split (d:=72) (b:=(x672.2 == x695.2)) rfl (fun hc737=>?_) (fun hc737=>?_))))))
 rw [ite_t hc737] at hb724
 obtain ⟨x722,hx722,hb724⟩:=bind_some hb724
 refine L_lda (cs:=[r684_0,r684_1]) rfl Tryz.isAgg25 Tryz.sizeOf25 rfl (At.sub0 (Blk.at (Star.blkAt 3 Z rfl)) 0 2) rfl (L_lda (cs:=[r707_0,r707_1]) rfl Tryz.isAgg25 Tryz.sizeOf25 rfl (At.sub0 (Blk.at (Star.blkAt 0 Z rfl)) 0 2) rfl ?_)
 obtain ⟨H738b,l739,s740,z741,k742⟩:=Z.borrow
 have hb743 : (rS 3 RP.int).rel H738b [r684_0] x672.1.sizes:=fz_own 4 z741 rfl
 have hb744 : (rS 49 (rRule 3 22)).rel H738b [r684_1] x672.1.rules:=fz_own 5 z741 rfl
 have hb745 : (rS 3 RP.int).rel H738b [r707_0] x695.1.sizes:=fz_own 1 z741 rfl
 have hb746 : (rS 49 (rRule 3 22)).rel H738b [r707_1] x695.1.rules:=fz_own 2 z741 rfl
 refine L_call rfl Tryz.call17 (ops2 rfl rfl) (i_ModelSame_c (a:=x672.1) (b:=x695.1) s740 hb743 hb744 hb745 hb746 hx722) ?_
 rintro _ w747 ⟨rfl,Z⟩
 have Z:=k742 Z c0
 refine L_pick (v:=Bo b724) rfl rfl (congrArg Value.bool (so hb724)) (mB rfl (L_split (d:=77) (b:=b724) rfl (fun hc748=>?_) (fun hc748=>?_)))
 rw [ite_t hc748] at hb735
 obtain ⟨b734,hb734,hb735⟩:=bind_some hb735
 refine mB rfl (L_not_ rfl rfl (mB rfl (L_split (d:=80) (b:=(!x672.2)) rfl (fun hc749=>?_) (fun hc749=>?_))))
 rw [ite_t hc749] at hb734
 refine ps rfl (ps rfl (ps rfl (ps rfl (L_pick (v:=Bo b734) rfl rfl (congrArg Value.bool (so hb734)) (L_pick (v:=Bo b735) rfl rfl (congrArg Value.bool (so hb735)) (aB rfl (nn (rj hR736 ⟨rfl,(Star.keepN 0 Z)⟩))))))))
 rw [ite_f hc749] at hb734
 obtain ⟨x732,hx732,hb734⟩:=bind_some hb734
 refine L_lda (cs:=[r684_0,r684_1]) rfl Tryz.isAgg25 Tryz.sizeOf25 rfl (At.sub0 (Blk.at (Star.blkAt 3 Z rfl)) 0 2) rfl ?_
 obtain ⟨H750b,l751,s752,z753,k754⟩:=Z.borrow
 have hb755 : (rS 3 RP.int).rel H750b [r684_0] x672.1.sizes:=fz_own 4 z753 rfl
 have hb756 : (rS 49 (rRule 3 22)).rel H750b [r684_1] x672.1.rules:=fz_own 5 z753 rfl
 refine L_call rfl Tryz.call13 (ops1 rfl) (i_FormatModel_c (m:=x672.1) s752 hb755 hb756 hx732) ?_
 rintro _ w757 ⟨rfl,Z⟩
 have Z:=k754 Z c0
 refine mV (.string x659) rfl (L_seql (s:=x732) (s':=x659) rfl rfl rfl (L_pick (v:=Bo b734) rfl rfl (congrArg Value.bool (so hb734)) (L_pick (v:=Bo b735) rfl rfl (congrArg Value.bool (so hb735)) (aB rfl (nn (rj hR736 ⟨rfl,(Star.keepN 0 Z)⟩))))))
 rw [ite_f hc748] at hb735
 refine ps rfl (ps rfl (ps rfl (ps rfl (ps rfl (ps rfl (ps rfl (ps rfl (L_pick (v:=Bo b735) rfl rfl (congrArg Value.bool (so hb735)) (aB rfl (nn (rj hR736 ⟨rfl,(Star.keepN 0 Z)⟩)))))))))))
 rw [ite_f hc737] at hb724
 refine ps rfl (ps rfl (ps rfl (L_pick (v:=Bo b724) rfl rfl (congrArg Value.bool (so hb724)) (mB rfl (L_split (d:=77) (b:=b724) rfl (fun hc758=>?_) (fun hc758=>?_))))))
 rw [ite_t hc758] at hb735
 obtain ⟨b734,hb734,hb735⟩:=bind_some hb735
 refine mB rfl (L_not_ rfl rfl (mB rfl (L_split (d:=80) (b:=(!x672.2)) rfl (fun hc759=>?_) (fun hc759=>?_))))
 rw [ite_t hc759] at hb734
 refine ps rfl (ps rfl (ps rfl (ps rfl (L_pick (v:=Bo b734) rfl rfl (congrArg Value.bool (so hb734)) (L_pick (v:=Bo b735) rfl rfl (congrArg Value.bool (so hb735)) (aB rfl (nn (rj hR736 ⟨rfl,(Star.keepN 0 Z)⟩))))))))
 rw [ite_f hc759] at hb734
 obtain ⟨x732,hx732,hb734⟩:=bind_some hb734
 refine L_lda (cs:=[r684_0,r684_1]) rfl Tryz.isAgg25 Tryz.sizeOf25 rfl (At.sub0 (Blk.at (Star.blkAt 3 Z rfl)) 0 2) rfl ?_
 obtain ⟨H760b,l761,s762,z763,k764⟩:=Z.borrow
 have hb765 : (rS 3 RP.int).rel H760b [r684_0] x672.1.sizes:=fz_own 4 z763 rfl
 have hb766 : (rS 49 (rRule 3 22)).rel H760b [r684_1] x672.1.rules:=fz_own 5 z763 rfl
 refine L_call rfl Tryz.call13 (ops1 rfl) (i_FormatModel_c (m:=x672.1) s762 hb765 hb766 hx732) ?_
 rintro _ w767 ⟨rfl,Z⟩
 have Z:=k764 Z c0
 refine mV (.string x659) rfl (L_seql (s:=x732) (s':=x659) rfl rfl rfl (L_pick (v:=Bo b734) rfl rfl (congrArg Value.bool (so hb734)) (L_pick (v:=Bo b735) rfl rfl (congrArg Value.bool (so hb735)) (aB rfl (nn (rj hR736 ⟨rfl,(Star.keepN 0 Z)⟩))))))
 rw [ite_f hc758] at hb735
 refine ps rfl (ps rfl (ps rfl (ps rfl (ps rfl (ps rfl (ps rfl (ps rfl (L_pick (v:=Bo b735) rfl rfl (congrArg Value.bool (so hb735)) (aB rfl (nn (rj hR736 ⟨rfl,(Star.keepN 0 Z)⟩)))))))))))
 intro f w_ hR
 obtain ⟨sf4,Z⟩:=rk hR736 hR
 refine W_ret (retG1 (v1:=Bo b735) Tryz.results4 sf4 ?_)
 obtain rfl:=so hF
 exact ⟨rfl,(Star.down Z l120 c0)⟩
end Go.Proofs.YtohpkefnmkdaeaaGreatDoor

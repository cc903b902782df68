/- Part of a proof by program: W2. -/
import Derived.Test.YtohpkefnmkdaeaaGreatDoorD1
import Derived.Test.YtohpkefnmkdaeaaGreatDoorW1
namespace Go.Proofs.YtohpkefnmkdaeaaGreatDoor
open Go Go.E Go.L Go.RowKit
set_option linter.unusedVariables false
set_option linter.unusedSimpArgs false
set_option maxRecDepth 100000
theorem i_ConstraintValid_c {c : Con} {v0_0 : Value} {H : FH} {w : World} (Z : Star H w []) (h0_0 : (rS 126 rTerm).rel H [v0_0] c.terms) {r : Bool} (hF : i_ConstraintValid c = some r) :
 C Tryz.prog 116 #[.agg #[v0_0,I c.bound]] w fun v w'=>v = Bo r∧Star H w' []:=by
 unfold i_ConstraintValid at hF
 refine C_enter Tryz.func116 rfl Tryz.ntmps116 rfl (sq (L_box (v:=.agg #[v0_0,I c.bound]) (cs:=#[v0_0,I c.bound]) rfl rfl rfl Z (fun g3 w4 Z=>aB rfl (ns (aI rfl (nq (sq (fA 0 fa_74_0 rfl rfl (ldB 0 Z Tryz.isAgg72 rfl rfl rfl (L_len rfl Tryz.underlying72 rfl (slice_len h0_0) (mI rfl (nn ?_))))))))))))
 have hlen7 : List.length c.terms≤9223372036854775807:=len_le (slice_len h0_0)
 obtain ⟨j7,hL7,hF⟩:=bind_some hF
 obtain ⟨R7,hR7⟩:=exR fun f w_=>∃ before_6 : Int,j7 = .nx before_6∧f 1 = Pt g3∧Star H w_ ([box g3 74 #[v0_0,I c.bound]])
 refine W_join R7 ?_ ?_
 refine W_block ?_
 obtain ⟨I7,hI7⟩:=exI fun n f w_=>∃ i_5 : Nat,∃ suf7 : List Term,∃ before_6 : Int,n = suf7.length∧List.drop i_5 c.terms = suf7∧i_5 + suf7.length = c.terms.length∧rangeL i_ConstraintValid_b1 suf7 i_5 before_6 = some j7∧f 1 = Pt g3∧f 3 = I before_6∧f 7 = v0_0∧f 8 = I (c.terms.length : Int)∧f 9 = I i_5∧Star H w_ ([box g3 74 #[v0_0,I c.bound]])
 refine W_loop I7 (n:=c.terms.length) ?_ ?_
 exact ij hI7 ⟨0,c.terms,0,rfl,rfl,Nat.zero_add _,hL7,rfl,rfl,rfl,rfl,rfl,Z⟩
 intro n7 f w_ hI
 obtain ⟨i_5,suf7,before_6,rfl,hd7,hl7,hL7,sf1,sf3,sf7,sf8,sf9,Z⟩:=ik hI7 hI
 refine sq (L_lss rfl sf9 sf8 (nq (W_cond (b:=decide ((i_5 : Int) < (c.terms.length : Int))) rfl (fun hc8=>?_) (fun hc8=>?_))))
 have hlt7:=of_decide_eq_true hc8
 rcases suf7 with _ | ⟨x_7,rest7⟩
 exact absurd hlt7 (by simp at hl7; omega)
 obtain ⟨o7,hB7,hL7⟩:=range_cons hL7
 rw [i_ConstraintValid_b1] at hB7
 have hix7:=drop_idx hd7
 refine W_skip (W_seq (W_block (sq (L_ix (r:=rTerm) rfl Tryz.underlying72 Tryz.sizeOf126 sf7 h0_0 sf9 hix7 (fun g16 o17 cs_g16 hrk_hat18 hat18=>?_)))))
 obtain rfl:=rTerm_iff.1 hrk_hat18
 refine L_lda (cs:=[I x_7.coef,I x_7.lit]) rfl Tryz.isAgg126 Tryz.sizeOf126 rfl (At.sub (AtH.at hat18 Z.sub) 0 2) rfl (L_al (cs:=#[I 0,I 0]) rfl Tryz.zeroValue126 rfl Z (fun g20 w21 Z=>L_staB (vs:=#[I x_7.coef,I x_7.lit]) (cs2:=#[I x_7.coef,I x_7.lit]) 0 rfl Tryz.sizeOf126 rfl rfl rfl (ones_cons rfl (ones_cons rfl ones_nil)) Z rfl (by show 0 + 2≤2; decide) rfl (fun w22 Z=>nq (W_seq ?_))))
 obtain ⟨x28,hx28,hB7⟩:=bind_some hB7
 obtain ⟨b37,hb37,hB7⟩:=bind_some hB7
 obtain ⟨b45,hb45,hB7⟩:=bind_some hB7
 obtain ⟨R46,hR46⟩:=exR fun f w_=>f 1 = Pt g3∧f 5 = Pt g20∧f 7 = v0_0∧f 8 = I (c.terms.length : Int)∧f 9 = I i_5∧f 29 = Bo b45∧Star H w_ ([box g20 126 #[I x_7.coef,I x_7.lit],box g3 74 #[v0_0,I c.bound]])
 refine W_join R46 ?_ ?_
 refine W_region (fA 1 fa_126_1 rfl rfl (ldB 0 Z Tryz.isAgg3 rfl rfl rfl ?_))
 obtain ⟨H47b,l48,s49,z50,k51⟩:=Z.borrow
 refine L_call rfl Tryz.call115 (ops1 rfl) (i_isLiteral_c (l:=x_7.lit) s49 hx28) ?_
 rintro _ w52 ⟨rfl,Z⟩
 have Z:=k51 Z c0
 refine L_not_ rfl rfl (mB rfl (L_split (d:=17) (b:=(!x28)) rfl (fun hc53=>?_) (fun hc53=>?_)))
 rw [ite_t hc53] at hb37
 refine ps rfl (ps rfl (ps rfl (ps rfl (ps rfl (L_pick (v:=Bo b37) rfl rfl (congrArg Value.bool (so hb37)) (mB rfl (L_split (d:=24) (b:=b37) rfl (fun hc54=>?_) (fun hc54=>?_))))))))
 rw [ite_t hc54] at hb45
 refine ps rfl (ps rfl (ps rfl (ps rfl (L_pick (v:=Bo b45) rfl rfl (congrArg Value.bool (so hb45)) (nn (rj hR46 ⟨sf1,rfl,sf7,sf8,sf9,rfl,Z⟩))))))
 rw [ite_f hc54] at hb45
 obtain ⟨x43,hx43,hb45⟩:=bind_some hb45
 refine fA 0 fa_126_0 rfl rfl (ldB 0 Z Tryz.isAgg3 rfl rfl rfl ?_)
 obtain ⟨H55b,l56,s57,z58,k59⟩:=Z.borrow
 refine L_call rfl Tryz.call46 (ops3 rfl rfl rfl) (i_within_c (n_:=x_7.coef) (low:=1) (high:=1000) s57 hx43) ?_
 rintro _ w60 ⟨rfl,Z⟩
 have Z:=k59 Z c0
 refine L_not_ rfl rfl (L_pick (v:=Bo b45) rfl rfl (congrArg Value.bool (so hb45)) (nn (rj hR46 ⟨sf1,rfl,sf7,sf8,sf9,rfl,Z⟩)))
 rw [ite_f hc53] at hb37
 obtain ⟨x35,hx35,hb37⟩:=bind_some hb37
 refine fA 1 fa_126_1 rfl rfl (ldB 0 Z Tryz.isAgg3 rfl rfl rfl ?_)
 obtain ⟨H61b,l62,s63,z64,k65⟩:=Z.borrow
 refine L_call rfl Tryz.call145 (ops1 rfl) (i_variableOf_c (l:=x_7.lit) s63 hx35) ?_
 rintro _ w66 ⟨rfl,Z⟩
 have Z:=k65 Z c0
 refine mF sf3 rfl (L_leq rfl rfl rfl (L_pick (v:=Bo b37) rfl rfl (congrArg Value.bool (so hb37)) (mB rfl (L_split (d:=24) (b:=b37) rfl (fun hc67=>?_) (fun hc67=>?_)))))
 rw [ite_t hc67] at hb45
 refine ps rfl (ps rfl (ps rfl (ps rfl (L_pick (v:=Bo b45) rfl rfl (congrArg Value.bool (so hb45)) (nn (rj hR46 ⟨sf1,rfl,sf7,sf8,sf9,rfl,Z⟩))))))
 rw [ite_f hc67] at hb45
 obtain ⟨x43,hx43,hb45⟩:=bind_some hb45
 refine fA 0 fa_126_0 rfl rfl (ldB 0 Z Tryz.isAgg3 rfl rfl rfl ?_)
 obtain ⟨H68b,l69,s70,z71,k72⟩:=Z.borrow
 refine L_call rfl Tryz.call46 (ops3 rfl rfl rfl) (i_within_c (n_:=x_7.coef) (low:=1) (high:=1000) s70 hx43) ?_
 rintro _ w73 ⟨rfl,Z⟩
 have Z:=k72 Z c0
 refine L_not_ rfl rfl (L_pick (v:=Bo b45) rfl rfl (congrArg Value.bool (so hb45)) (nn (rj hR46 ⟨sf1,rfl,sf7,sf8,sf9,rfl,Z⟩)))
 intro f w_ hR
 obtain ⟨sf1,sf5,sf7,sf8,sf9,sf29,Z⟩:=rk hR46 hR
 refine W_cond (b:=b45) sf29 (fun hc74=>?_) (fun hc74=>?_)
 have hB7:=(ite_t hc74).symm.trans hB7
 refine sq (aB rfl (nn (W_ret (retG1 (v1:=Bo false) Tryz.results116 rfl ?_))))
 obtain rfl:=so hB7
 obtain rfl:=so hL7
 obtain rfl:=so hF
 exact ⟨rfl,(Star.keepN 0 Z)⟩
 have hB7:=(ite_f hc74).symm.trans hB7
 refine W_skip ?_
 obtain ⟨x80,hx80,hB7⟩:=bind_some hB7
 refine W_region (fA 1 fa_126_1 sf5 rfl (ldB 0 Z Tryz.isAgg3 rfl rfl rfl ?_))
 obtain ⟨H82b,l83,s84,z85,k86⟩:=Z.borrow
 refine L_call rfl Tryz.call145 (ops1 rfl) (i_variableOf_c (l:=x_7.lit) s84 hx80) ?_
 rintro _ w87 ⟨rfl,Z⟩
 have Z:=k86 Z c0
 refine aI rfl (nn (W_region (L_add rfl sf9 rfl (mI rfl (nn ?_)))))
 obtain rfl:=so hB7
 have Z:=Z.get 1 rfl
 show ∃ m,m < _∧I7 m _ _
 refine ⟨rest7.length,by simp,?_⟩
 exact ij hI7 ⟨i_5 + 1,rest7,x80,rfl,drop_next hd7,by simp at hl7; omega,hL7,sf1,rfl,sf7,sf8,(Eq.trans rfl (congrArg (Value.int .i64) (i64_succ (n:=c.terms.length) (by simp at hl7; omega) hlen7))),(Star.keepN 1 Z)⟩
 rcases suf7 with _ | ⟨_,_⟩
 obtain rfl:=range_nil hL7
 refine W_exit (rj hR7 ⟨before_6,rfl,sf1,Z⟩)
 exact absurd (of_decide_eq_false hc8) (by simp at hl7; omega)
 intro f w_ hR
 obtain ⟨before_6,rfl,sf1,Z⟩:=rk hR7 hR
 refine W_seq ?_
 obtain ⟨x93,hx93,hF⟩:=bind_some hF
 refine W_region (fA 1 fa_74_1 sf1 rfl (ldB 0 Z Tryz.isAgg3 rfl rfl rfl ?_))
 obtain ⟨H95b,l96,s97,z98,k99⟩:=Z.borrow
 refine L_call rfl Tryz.call46 (ops3 rfl rfl rfl) (i_within_c (n_:=c.bound) (low:=0) (high:=20000) s97 hx93) ?_
 rintro _ w100 ⟨rfl,Z⟩
 have Z:=k99 Z c0
 refine aB rfl (nn (W_ret (retG1 (v1:=Bo x93) Tryz.results116 rfl ?_)))
 obtain rfl:=so hF
 exact ⟨rfl,(Star.keepN 0 Z)⟩
theorem i_Step_writable_c {s : Step} {v0_3 : Value} {H : FH} {w : World} (Z : Star H w []) (h0_3 : (rS 126 rTerm).rel H [v0_3] s.given.terms) {r : Bool} (hF : i_Step_writable s = some r) :
 C Tryz.prog 65 #[.agg #[I s.kind,I s.a,I s.b,v0_3,I s.given.bound]] w fun v w'=>v = Bo r∧Star H w' []:=by
 unfold i_Step_writable at hF
 refine C_enter Tryz.func65 rfl Tryz.ntmps65 rfl (sq (L_box (v:=.agg #[I s.kind,I s.a,I s.b,v0_3,I s.given.bound]) (cs:=#[I s.kind,I s.a,I s.b,v0_3,I s.given.bound]) rfl rfl rfl Z (fun g3 w4 Z=>aB rfl (nq (W_block (W_seq ?_))))))
 obtain ⟨x10,hx10,hF⟩:=bind_some hF
 refine W_region (L_lda (cs:=[I s.kind,I s.a,I s.b,v0_3,I s.given.bound]) rfl Tryz.isAgg76 Tryz.sizeOf76 rfl (At.sub0 (Blk.at (Star.blkAt 0 Z rfl)) 0 5) rfl ?_)
 obtain ⟨H12b,l13,s14,z15,k16⟩:=Z.borrow
 refine L_call rfl Tryz.call114 (ops1 rfl) (i_Step_shaped_c (s:=s) s14 (RP.mono _ h0_3 l13) hx10) ?_
 rintro _ w17 ⟨rfl,Z⟩
 have Z:=k16 Z c0
 refine L_not_ rfl rfl (aB rfl (nn (W_cond (b:=(!x10)) rfl (fun hc18=>?_) (fun hc18=>?_))))
 have hF:=(ite_t hc18).symm.trans hF
 refine sq (aB rfl (nn (W_ret (retG1 (v1:=Bo false) Tryz.results65 rfl ?_))))
 obtain rfl:=so hF
 exact ⟨rfl,(Star.keepN 0 Z)⟩
 have hF:=(ite_f hc18).symm.trans hF
 refine sq (fA 0 fa_76_0 rfl rfl (ldB 0 Z Tryz.isAgg3 rfl rfl rfl (L_eql rfl rfl rfl (aB rfl (nn (W_cond (b:=(s.kind == 6)) rfl (fun hc19=>?_) (fun hc19=>?_)))))))
 have hF:=(ite_t hc19).symm.trans hF
 refine W_seq ?_
 obtain ⟨x25,hx25,hF⟩:=bind_some hF
 refine W_region (fA 1 fa_76_1 rfl rfl (ldB 0 Z Tryz.isAgg3 rfl rfl rfl ?_))
 obtain ⟨H27b,l28,s29,z30,k31⟩:=Z.borrow
 refine L_call rfl Tryz.call115 (ops1 rfl) (i_isLiteral_c (l:=s.a) s29 hx25) ?_
 rintro _ w32 ⟨rfl,Z⟩
 have Z:=k31 Z c0
 refine aB rfl (nn (W_ret (retG1 (v1:=Bo x25) Tryz.results65 rfl ?_)))
 obtain rfl:=so hF
 exact ⟨rfl,(Star.keepN 0 Z)⟩
 have hF:=(ite_f hc19).symm.trans hF
 refine sq (fA 0 fa_76_0 rfl rfl (ldB 0 Z Tryz.isAgg3 rfl rfl rfl (L_eql rfl rfl rfl (aB rfl (nn (W_cond (b:=(s.kind == 7)) rfl (fun hc33=>?_) (fun hc33=>?_)))))))
 have hF:=(ite_t hc33).symm.trans hF
 refine W_seq ?_
 obtain ⟨x39,hx39,hF⟩:=bind_some hF
 refine W_region (fA 3 fa_76_3 rfl rfl (L_lda (cs:=[v0_3,I s.given.bound]) rfl Tryz.isAgg74 Tryz.sizeOf74 rfl (At.sub0 (Blk.at (Star.blkAt 0 Z rfl)) 3 2) rfl ?_))
 obtain ⟨H41b,l42,s43,z44,k45⟩:=Z.borrow
 refine L_call rfl Tryz.call116 (ops1 rfl) (i_ConstraintValid_c (c:=s.given) s43 (RP.mono _ h0_3 l42) hx39) ?_
 rintro _ w46 ⟨rfl,Z⟩
 have Z:=k45 Z c0
 refine aB rfl (nn (W_ret (retG1 (v1:=Bo x39) Tryz.results65 rfl ?_)))
 obtain rfl:=so hF
 exact ⟨rfl,(Star.keepN 0 Z)⟩
 have hF:=(ite_f hc33).symm.trans hF
 refine W_skip (W_seq ?_)
 obtain ⟨x52,hx52,hF⟩:=bind_some hF
 obtain ⟨b61,hb61,hF⟩:=bind_some hF
 obtain ⟨R62,hR62⟩:=exR fun f w_=>f 2 = Bo b61∧Star H w_ ([])
 refine W_join R62 ?_ ?_
 refine W_region (fA 1 fa_76_1 rfl rfl (ldB 0 Z Tryz.isAgg3 rfl rfl rfl ?_))
 obtain ⟨H63b,l64,s65,z66,k67⟩:=Z.borrow
 refine L_call rfl Tryz.call46 (ops3 rfl rfl rfl) (i_within_c (n_:=s.a) (low:=0) (high:=20000) s65 hx52) ?_
 rintro _ w68 ⟨rfl,Z⟩
 have Z:=k67 Z c0
 refine mB rfl (L_split (d:=24) (b:=x52) rfl (fun hc69=>?_) (fun hc69=>?_))
 rw [ite_t hc69] at hb61
 obtain ⟨x59,hx59,hb61⟩:=bind_some hb61
 refine fA 2 fa_76_2 rfl rfl (ldB 0 Z Tryz.isAgg3 rfl rfl rfl ?_)
 obtain ⟨H70b,l71,s72,z73,k74⟩:=Z.borrow
 refine L_call rfl Tryz.call46 (ops3 rfl rfl rfl) (i_within_c (n_:=s.b) (low:=0) (high:=20000) s72 hx59) ?_
 rintro _ w75 ⟨rfl,Z⟩
 have Z:=k74 Z c0
 refine L_pick (v:=Bo b61) rfl rfl (congrArg Value.bool (so hb61)) (aB rfl (nn (rj hR62 ⟨rfl,(Star.keepN 0 Z)⟩)))
 rw [ite_f hc69] at hb61
 refine ps rfl (ps rfl (ps rfl (L_pick (v:=Bo b61) rfl rfl (congrArg Value.bool (so hb61)) (aB rfl (nn (rj hR62 ⟨rfl,(Star.keepN 0 Z)⟩))))))
 intro f w_ hR
 obtain ⟨sf2,Z⟩:=rk hR62 hR
 refine W_ret (retG1 (v1:=Bo b61) Tryz.results65 sf2 ?_)
 obtain rfl:=so hF
 exact ⟨rfl,Z⟩
theorem i_stepWords_c {H : FH} {w : World} (Z : Star H w []) {r : List ByteArray} (hF : i_stepWords = some r) :
 C Tryz.prog 106 #[] w fun v w'=>∃ (u1 : Value),v = u1∧Star H w' [oF 9 RP.str u1 r]:=by
 unfold i_stepWords at hF
 refine C_enter Tryz.func106 rfl Tryz.ntmps106 rfl (sq (aV S0 rfl (ns (L_bs rfl (parts9 rfl rfl rfl rfl rfl rfl rfl rfl rfl) (bs_44_9_0_0_0_0_0_0_0_0_0 (.string (⟨#[]⟩ : ByteArray)) (.string (⟨#[97,100,100]⟩ : ByteArray)) (.string (⟨#[109,117,108,116,105,112,108,121]⟩ : ByteArray)) (.string (⟨#[100,105,118,105,100,101]⟩ : ByteArray)) (.string (⟨#[115,97,116,117,114,97,116,101]⟩ : ByteArray)) (.string (⟨#[119,101,97,107,101,110]⟩ : ByteArray)) (.string (⟨#[108,105,116,101,114,97,108]⟩ : ByteArray)) (.string (⟨#[114,117,112]⟩ : ByteArray)) (.string (⟨#[100,101,108,101,116,101]⟩ : ByteArray)) rfl rfl rfl rfl rfl rfl rfl rfl rfl) Z (fun g4 w5 Z=>?_)))))
 have Z:=Star.addF (r:=RP.str) (cs:=[.string (⟨#[100,101,108,101,116,101]⟩ : ByteArray)]) (x:=(⟨#[100,101,108,101,116,101]⟩ : ByteArray)) Z rfl
 have Z:=Star.addF (r:=RP.str) (cs:=[.string (⟨#[114,117,112]⟩ : ByteArray)]) (x:=(⟨#[114,117,112]⟩ : ByteArray)) Z rfl
 have Z:=Star.addF (r:=RP.str) (cs:=[.string (⟨#[108,105,116,101,114,97,108]⟩ : ByteArray)]) (x:=(⟨#[108,105,116,101,114,97,108]⟩ : ByteArray)) Z rfl
 have Z:=Star.addF (r:=RP.str) (cs:=[.string (⟨#[119,101,97,107,101,110]⟩ : ByteArray)]) (x:=(⟨#[119,101,97,107,101,110]⟩ : ByteArray)) Z rfl
 have Z:=Star.addF (r:=RP.str) (cs:=[.string (⟨#[115,97,116,117,114,97,116,101]⟩ : ByteArray)]) (x:=(⟨#[115,97,116,117,114,97,116,101]⟩ : ByteArray)) Z rfl
 have Z:=Star.addF (r:=RP.str) (cs:=[.string (⟨#[100,105,118,105,100,101]⟩ : ByteArray)]) (x:=(⟨#[100,105,118,105,100,101]⟩ : ByteArray)) Z rfl
 have Z:=Star.addF (r:=RP.str) (cs:=[.string (⟨#[109,117,108,116,105,112,108,121]⟩ : ByteArray)]) (x:=(⟨#[109,117,108,116,105,112,108,121]⟩ : ByteArray)) Z rfl
 have Z:=Star.addF (r:=RP.str) (cs:=[.string (⟨#[97,100,100]⟩ : ByteArray)]) (x:=(⟨#[97,100,100]⟩ : ByteArray)) Z rfl
 have Z:=Star.addF (r:=RP.str) (cs:=[.string (⟨#[]⟩ : ByteArray)]) (x:=(⟨#[]⟩ : ByteArray)) Z rfl
 have Z:=Star.mkRow (R:=(OR.frz RP.str)) [([.string (⟨#[]⟩ : ByteArray)],(⟨#[]⟩ : ByteArray)),([.string (⟨#[97,100,100]⟩ : ByteArray)],(⟨#[97,100,100]⟩ : ByteArray)),([.string (⟨#[109,117,108,116,105,112,108,121]⟩ : ByteArray)],(⟨#[109,117,108,116,105,112,108,121]⟩ : ByteArray)),([.string (⟨#[100,105,118,105,100,101]⟩ : ByteArray)],(⟨#[100,105,118,105,100,101]⟩ : ByteArray)),([.string (⟨#[115,97,116,117,114,97,116,101]⟩ : ByteArray)],(⟨#[115,97,116,117,114,97,116,101]⟩ : ByteArray)),([.string (⟨#[119,101,97,107,101,110]⟩ : ByteArray)],(⟨#[119,101,97,107,101,110]⟩ : ByteArray)),([.string (⟨#[108,105,116,101,114,97,108]⟩ : ByteArray)],(⟨#[108,105,116,101,114,97,108]⟩ : ByteArray)),([.string (⟨#[114,117,112]⟩ : ByteArray)],(⟨#[114,117,112]⟩ : ByteArray)),([.string (⟨#[100,101,108,101,116,101]⟩ : ByteArray)],(⟨#[100,101,108,101,116,101]⟩ : ByteArray))] [(⟨#[]⟩ : ByteArray),(⟨#[97,100,100]⟩ : ByteArray),(⟨#[109,117,108,116,105,112,108,121]⟩ : ByteArray),(⟨#[100,105,118,105,100,101]⟩ : ByteArray),(⟨#[115,97,116,117,114,97,116,101]⟩ : ByteArray),(⟨#[119,101,97,107,101,110]⟩ : ByteArray),(⟨#[108,105,116,101,114,97,108]⟩ : ByteArray),(⟨#[114,117,112]⟩ : ByteArray),(⟨#[100,101,108,101,116,101]⟩ : ByteArray)] 9 Z rfl rfl rfl (by decide)
 refine aV (Sl g4 9 9) rfl (nn (W_ret (retG1 (v1:=(Sl g4 9 9)) Tryz.results106 rfl ?_)))
 obtain rfl:=so hF
 exact ⟨(Sl g4 9 9),rfl,Z⟩
theorem i_literalText_c {l : Int} {H : FH} {w : World} (Z : Star H w []) {r : ByteArray} (hF : i_literalText l = some r) :
 C Tryz.prog 119 #[I l] w fun v w'=>v = .string r∧Star H w' []:=by
 unfold i_literalText at hF
 refine C_enter Tryz.func119 rfl Tryz.ntmps119 rfl (sq (aV (.string (⟨#[]⟩ : ByteArray)) rfl (nq (sq (mI rfl (L_lss rfl rfl rfl (nn (W_cond (b:=decide (l < 0)) rfl (fun hc1=>?_) (fun hc1=>?_)))))))))
 have hF:=(ite_t hc1).symm.trans hF
 refine W_seq ?_
 obtain ⟨x7,hx7,hF⟩:=bind_some hF
 obtain ⟨x9,hx9,hF⟩:=bind_some hF
 refine W_region (mI rfl (L_neg rfl rfl ?_))
 obtain ⟨H10b,l11,s12,z13,k14⟩:=Z.borrow
 refine L_call rfl Tryz.call121 (ops1 rfl) (strconv_Itoa_c (x_:=i64 (-l)) s12 hx7) ?_
 rintro _ w15 ⟨rfl,Z⟩
 have Z:=k14 Z c0
 obtain ⟨hx9_l,hx9_e⟩:=cat_some hx9
 refine L_sadd (s:=(⟨#[126,120]⟩ : ByteArray)) (s':=x7) rfl rfl rfl hx9_l ?_
 rw [← hx9_e]
 refine aV (.string x9) rfl (nn (W_ret (retG1 (v1:=.string x9) Tryz.results119 rfl ?_)))
 obtain rfl:=so hF
 exact ⟨rfl,Z⟩
 have hF:=(ite_f hc1).symm.trans hF
 refine W_skip (W_seq ?_)
 obtain ⟨x21,hx21,hF⟩:=bind_some hF
 obtain ⟨x23,hx23,hF⟩:=bind_some hF
 refine W_region (mI rfl ?_)
 obtain ⟨H24b,l25,s26,z27,k28⟩:=Z.borrow
 refine L_call rfl Tryz.call121 (ops1 rfl) (strconv_Itoa_c (x_:=l) s26 hx21) ?_
 rintro _ w29 ⟨rfl,Z⟩
 have Z:=k28 Z c0
 obtain ⟨hx23_l,hx23_e⟩:=cat_some hx23
 refine L_sadd (s:=(⟨#[120]⟩ : ByteArray)) (s':=x21) rfl rfl rfl hx23_l ?_
 rw [← hx23_e]
 refine aV (.string x23) rfl (nn (W_ret (retG1 (v1:=.string x23) Tryz.results119 rfl ?_)))
 obtain rfl:=so hF
 exact ⟨rfl,Z⟩
theorem i_Constraint_text_c {c : Con} {v0_0 : Value} {H : FH} {w : World} (Z : Star H w []) (h0_0 : (rS 126 rTerm).rel H [v0_0] c.terms) {r : ByteArray} (hF : i_Constraint_text c = some r) :
 C Tryz.prog 120 #[.agg #[v0_0,I c.bound]] w fun v w'=>v = .string r∧Star H w' []:=by
 unfold i_Constraint_text at hF
 refine C_enter Tryz.func120 rfl Tryz.ntmps120 rfl (sq (L_box (v:=.agg #[v0_0,I c.bound]) (cs:=#[v0_0,I c.bound]) rfl rfl rfl Z (fun g3 w4 Z=>aV (.string (⟨#[]⟩ : ByteArray)) rfl (ns (aV (.string (⟨#[]⟩ : ByteArray)) rfl (nq (sq (fA 0 fa_74_0 rfl rfl (ldB 0 Z Tryz.isAgg72 rfl rfl rfl (L_len rfl Tryz.underlying72 rfl (slice_len h0_0) (mI rfl (nn ?_))))))))))))
 have hlen9 : List.length c.terms≤9223372036854775807:=len_le (slice_len h0_0)
 obtain ⟨j9,hL9,hF⟩:=bind_some hF
 obtain ⟨R9,hR9⟩:=exR fun f w_=>∃ out_6 : ByteArray,∃ H7 : FH,j9 = .nx out_6∧Le H H7∧f 1 = Pt g3∧f 3 = .string out_6∧Star H7 w_ ([box g3 74 #[v0_0,I c.bound]])
 refine W_join R9 ?_ ?_
 refine W_block ?_
 obtain ⟨I9,hI9⟩:=exI fun n f w_=>∃ i_5 : Nat,∃ suf9 : List Term,∃ out_6 : ByteArray,∃ H7 : FH,n = suf9.length∧List.drop i_5 c.terms = suf9∧i_5 + suf9.length = c.terms.length∧rangeL i_Constraint_text_b1 suf9 i_5 out_6 = some j9∧Le H H7∧f 1 = Pt g3∧f 3 = .string out_6∧f 7 = v0_0∧f 8 = I (c.terms.length : Int)∧f 9 = I i_5∧Star H7 w_ ([box g3 74 #[v0_0,I c.bound]])
 refine W_loop I9 (n:=c.terms.length) ?_ ?_
 exact ij hI9 ⟨0,c.terms,(⟨#[]⟩ : ByteArray),H,rfl,rfl,Nat.zero_add _,hL9,(Le.refl _),rfl,rfl,rfl,rfl,rfl,Z⟩
 intro n9 f w_ hI
 obtain ⟨i_5,suf9,out_6,H7,rfl,hd9,hl9,hL9,l8,sf1,sf3,sf7,sf8,sf9,Z⟩:=ik hI9 hI
 refine sq (L_lss rfl sf9 sf8 (nq (W_cond (b:=decide ((i_5 : Int) < (c.terms.length : Int))) rfl (fun hc10=>?_) (fun hc10=>?_))))
 have hlt9:=of_decide_eq_true hc10
 rcases suf9 with _ | ⟨x_9,rest9⟩
 exact absurd hlt9 (by simp at hl9; omega)
 obtain ⟨o9,hB9,hL9⟩:=range_cons hL9
 rw [i_Constraint_text_b1] at hB9
 have hix9:=drop_idx hd9
 refine W_skip (W_seq (W_block (sq (L_ix (r:=rTerm) rfl Tryz.underlying72 Tryz.sizeOf126 sf7 (RP.mono _ h0_0 l8) sf9 hix9 (fun g18 o19 cs_g18 hrk_hat20 hat20=>?_)))))
 obtain rfl:=rTerm_iff.1 hrk_hat20
 refine L_lda (cs:=[I x_9.coef,I x_9.lit]) rfl Tryz.isAgg126 Tryz.sizeOf126 rfl (At.sub (AtH.at hat20 Z.sub) 0 2) rfl (L_al (cs:=#[I 0,I 0]) rfl Tryz.zeroValue126 rfl Z (fun g22 w23 Z=>L_staB (vs:=#[I x_9.coef,I x_9.lit]) (cs2:=#[I x_9.coef,I x_9.lit]) 0 rfl Tryz.sizeOf126 rfl rfl rfl (ones_cons rfl (ones_cons rfl ones_nil)) Z rfl (by show 0 + 2≤2; decide) rfl (fun w24 Z=>nn ?_)))
 obtain ⟨x30,hx30,hB9⟩:=bind_some hB9
 obtain ⟨x32,hx32,hB9⟩:=bind_some hB9
 obtain ⟨x38,hx38,hB9⟩:=bind_some hB9
 obtain ⟨x40,hx40,hB9⟩:=bind_some hB9
 obtain ⟨x41,hx41,hB9⟩:=bind_some hB9
 obtain ⟨x42,hx42,hB9⟩:=bind_some hB9
 refine W_drawS 10 [isV (.string out_6),isV (Pt g22),isV (I x_9.coef),isV (.string x30),isV (.string x32),isV (Pq g22 1),isV (I x_9.lit),isV (.string x38),isV (.string x40),isV (.string x41)] [box g22 126 #[I x_9.coef,I x_9.lit],box g3 74 #[v0_0,I c.bound]] [] ([]) [([],[]),([],[]),([],[]),([],[]),([],[]),([],[]),([],[]),([],[]),([],[]),([],[])] (S:=[]) Tryz_mix (by kernel_rfl) rfl (by kernel_rfl) (amF_cons (mono_V _) (amF_cons (mono_V _) (amF_cons (mono_V _) (amF_cons (mono_V _) (amF_cons (mono_V _) (amF_cons (mono_V _) (amF_cons (mono_V _) (amF_cons (mono_V _) (amF_cons (mono_V _) (amF_cons (mono_V _) amF_nil)))))))))) Z ?_ (fun f w_ H43 hS43 hE43 hT43 Z=>?_)
 refine opsS_cons (fun f w_ _ _ s _ _ Z=>mF ((s 3 rfl).trans sf3) rfl (nO rfl rfl Z)) (opsS_cons (fun f w_ _ _ s _ _ Z=>fA 0 fa_126_0 ((s 5 rfl).trans rfl) rfl (nO rfl rfl Z)) (opsS_cons (fun f w_ _ _ _ _ p Z=>ldB 0 Z Tryz.isAgg3 (p 1 14 rfl rfl) rfl rfl (nO rfl rfl Z)) (opsS_cons ?_ ?_)))
 intro f w_ H43 X43 hS43 hE43 hP43 Z
 obtain ⟨H56b,l57,s58,z59,k60⟩:=Z.borrow
 refine L_call rfl Tryz.call121 (ops1 (hP43 2 15 rfl rfl)) (strconv_Itoa_c (x_:=x_9.coef) s58 hx30) ?_
 rintro _ w61 ⟨rfl,Z⟩
 have Z:=k60 Z c0
 exact L_nil ⟨rfl,_,_,rfl,Le.refl _,fun _ _=>rfl,Z⟩
 refine opsS_cons ?_ ?_
 intro f w_ H43 X43 hS43 hE43 hP43 Z
 obtain ⟨hx32_l,hx32_e⟩:=cat_some hx32
 refine L_sadd (s:=x30) (s':=(⟨#[32]⟩ : ByteArray)) rfl (hP43 3 16 rfl rfl) rfl hx32_l ?_
 rw [← hx32_e]
 exact L_nil ⟨rfl,_,_,rfl,Le.refl _,fun _ _=>rfl,Z⟩
 refine opsS_cons (fun f w_ _ _ s _ _ Z=>fA 1 fa_126_1 ((s 5 rfl).trans rfl) rfl (nO rfl rfl Z)) (opsS_cons (fun f w_ _ _ _ _ p Z=>ldB 0 Z Tryz.isAgg3 (p 5 18 rfl rfl) rfl rfl (nO rfl rfl Z)) (opsS_cons ?_ ?_))
 intro f w_ H43 X43 hS43 hE43 hP43 Z
 obtain ⟨H62b,l63,s64,z65,k66⟩:=Z.borrow
 refine L_call rfl Tryz.call119 (ops1 (hP43 6 19 rfl rfl)) (i_literalText_c (l:=x_9.lit) s64 hx38) ?_
 rintro _ w67 ⟨rfl,Z⟩
 have Z:=k66 Z c0
 exact L_nil ⟨rfl,_,_,rfl,Le.refl _,fun _ _=>rfl,Z⟩
 refine opsS_cons ?_ ?_
 intro f w_ H43 X43 hS43 hE43 hP43 Z
 obtain ⟨hx40_l,hx40_e⟩:=cat_some hx40
 refine L_sadd (s:=x32) (s':=x38) rfl (hP43 4 17 rfl rfl) (hP43 7 20 rfl rfl) hx40_l ?_
 rw [← hx40_e]
 exact L_nil ⟨rfl,_,_,rfl,Le.refl _,fun _ _=>rfl,Z⟩
 refine opsS_cons ?_ ?_
 intro f w_ H43 X43 hS43 hE43 hP43 Z
 obtain ⟨hx41_l,hx41_e⟩:=cat_some hx41
 refine L_sadd (s:=x40) (s':=(⟨#[32]⟩ : ByteArray)) rfl (hP43 8 21 rfl rfl) rfl hx41_l ?_
 rw [← hx41_e]
 exact L_nil ⟨rfl,_,_,rfl,Le.refl _,fun _ _=>rfl,Z⟩
 exact opsS_nil
 obtain ⟨hx42_l,hx42_e⟩:=cat_some hx42
 refine L_sadd (s:=out_6) (s':=x41) rfl (hT43 0 13 rfl rfl) (hT43 9 22 rfl rfl) hx42_l ?_
 rw [← hx42_e]
 refine aV (.string x42) rfl (nn (W_region (L_add rfl ((hS43 9 rfl).trans sf9) rfl (mI rfl (nn ?_)))))
 obtain rfl:=so hB9
 have Z:=Z.get 1 rfl
 show ∃ m,m < _∧I9 m _ _
 refine ⟨rest9.length,by simp,?_⟩
 exact ij hI9 ⟨i_5 + 1,rest9,x42,H43,rfl,drop_next hd9,by simp at hl9; omega,hL9,(Le.trans l8 hE43),((hS43 1 rfl).trans sf1),rfl,((hS43 7 rfl).trans sf7),((hS43 8 rfl).trans sf8),(Eq.trans rfl (congrArg (Value.int .i64) (i64_succ (n:=c.terms.length) (by simp at hl9; omega) hlen9))),(Star.keepN 1 Z)⟩
 rcases suf9 with _ | ⟨_,_⟩
 obtain rfl:=range_nil hL9
 refine W_exit (rj hR9 ⟨out_6,H7,rfl,l8,sf1,sf3,Z⟩)
 exact absurd (of_decide_eq_false hc10) (by simp at hl9; omega)
 intro f w_ hR
 obtain ⟨out_6,H7,rfl,l8,sf1,sf3,Z⟩:=rk hR9 hR
 refine W_seq ?_
 obtain ⟨x68,hx68,hF⟩:=bind_some hF
 obtain ⟨x74,hx74,hF⟩:=bind_some hF
 obtain ⟨x76,hx76,hF⟩:=bind_some hF
 refine W_region (mF sf3 rfl ?_)
 obtain ⟨hx68_l,hx68_e⟩:=cat_some hx68
 refine L_sadd (s:=out_6) (s':=(⟨#[62,61,32]⟩ : ByteArray)) rfl rfl rfl hx68_l ?_
 rw [← hx68_e]
 refine fA 1 fa_74_1 sf1 rfl (ldB 0 Z Tryz.isAgg3 rfl rfl rfl ?_)
 obtain ⟨H77b,l78,s79,z80,k81⟩:=Z.borrow
 refine L_call rfl Tryz.call121 (ops1 rfl) (strconv_Itoa_c (x_:=c.bound) s79 hx74) ?_
 rintro _ w82 ⟨rfl,Z⟩
 have Z:=k81 Z c0
 obtain ⟨hx76_l,hx76_e⟩:=cat_some hx76
 refine L_sadd (s:=x68) (s':=x74) rfl rfl rfl hx76_l ?_
 rw [← hx76_e]
 refine aV (.string x76) rfl (nn (W_ret (retG1 (v1:=.string x76) Tryz.results120 rfl ?_)))
 obtain rfl:=so hF
 exact ⟨rfl,(Star.down (Star.keepN 0 Z) l8 c0)⟩
theorem i_Step_text_c {s : Step} {v0_3 : Value} {H : FH} {w : World} (Z : Star H w []) (h0_3 : (rS 126 rTerm).rel H [v0_3] s.given.terms) {r : ByteArray} (hF : i_Step_text s = some r) :
 C Tryz.prog 67 #[.agg #[I s.kind,I s.a,I s.b,v0_3,I s.given.bound]] w fun v w'=>v = .string r∧Star H w' []:=by
 unfold i_Step_text at hF
 refine C_enter Tryz.func67 rfl Tryz.ntmps67 rfl (sq (L_box (v:=.agg #[I s.kind,I s.a,I s.b,v0_3,I s.given.bound]) (cs:=#[I s.kind,I s.a,I s.b,v0_3,I s.given.bound]) rfl rfl rfl Z (fun g3 w4 Z=>aV (.string (⟨#[]⟩ : ByteArray)) rfl (nq ?_))))
 obtain ⟨x10,hx10,hF⟩:=bind_some hF
 obtain ⟨x13,hx13,hF⟩:=bind_some hF
 obtain ⟨x18,hx18,hF⟩:=bind_some hF
 refine W_drawS 3 [anyF,isV (Pt g3),isV (I s.kind)] [box g3 76 #[I s.kind,I s.a,I s.b,v0_3,I s.given.bound]] [.made 0 6 (fun v_=>oF 9 RP.str v_ x10) none] ([]) [([],[0]),([],[]),([],[])] (S:=[(some 0,[6],none)]) Tryz_mix (by kernel_rfl) rfl (by kernel_rfl) (amF_cons (mono_any) (amF_cons (mono_V _) (amF_cons (mono_V _) amF_nil))) Z ?_ (fun f w_ H19 hS19 hE19 hT19 Z=>?_)
 refine opsS_cons ?_ ?_
 intro f w_ H19 X19 hS19 hE19 hP19 Z
 obtain ⟨H27b,l28,s29,z30,k31⟩:=Z.borrow
 refine L_call rfl Tryz.call106 ops0 (i_stepWords_c s29 hx10) ?_
 rintro r32_0 w32 ⟨_,rfl,Z⟩
 have Z:=k31 Z (co closed_str c0)
 have Z:=Z.get 1 rfl
 exact L_nil ⟨rfl,_,_,rfl,Le.refl _,fun _ _=>trivial,Z⟩
 refine opsS_cons (fun f w_ _ _ s _ _ Z=>fA 0 fa_76_0 ((s 1 rfl).trans rfl) rfl (nO rfl rfl Z)) (opsS_cons (fun f w_ _ _ _ _ p Z=>ldB 0 Z Tryz.isAgg3 (p 1 7 rfl rfl) rfl rfl (nO rfl rfl Z)) (opsS_nil))
 have Z : Star H19 w_ ([box g3 76 #[I s.kind,I s.a,I s.b,v0_3,I s.given.bound],oF 9 RP.str (f 6) x10]):=Z
 obtain ⟨g35,cap_g35,hv36,_,_⟩:=Star.row 1 Z rfl hx13
 refine L_ixO (R:=(OR.frz RP.str)) (tb:=0) 0 rfl Tryz.underlying44 Tryz.sizeOf9 rfl hv36 (by first | rfl | simp) (hT19 2 8 rfl rfl) hx13 ?_
 obtain ⟨cs37,hr37,hat37⟩:=Star.eltF 1 Z rfl hv36 hx13
 obtain rfl : _ = [_]:=hr37
 refine L_ld rfl Tryz.isAgg9 rfl (At.cell hat37 (j:=0) rfl) ?_
 obtain ⟨hx18_l,hx18_e⟩:=cat_some hx18
 refine L_sadd (s:=x13) (s':=(⟨#[32]⟩ : ByteArray)) rfl rfl rfl hx18_l ?_
 rw [← hx18_e]
 refine aV (.string x18) rfl (nq ?_)
 obtain ⟨x44,hx44,hF⟩:=bind_some hF
 refine W_region (fA 0 fa_76_0 ((hS19 1 rfl).trans rfl) rfl (ldB 0 Z Tryz.isAgg3 rfl rfl rfl ?_))
 obtain ⟨H46b,l47,s48,z49,k50⟩:=Z.borrow
 refine L_call rfl Tryz.call118 (ops1 rfl) (i_refers_c (kind:=s.kind) s48 hx44) ?_
 rintro _ w51 ⟨rfl,Z⟩
 have Z:=k50 Z c0
 refine mV (.tuple #[I x44.1,Bo x44.2]) rfl (L_ex (v:=I x44.1) rfl rfl rfl (L_ex (v:=Bo x44.2) rfl rfl rfl (aI rfl (aB rfl (nq (W_block (sq (fA 0 fa_76_0 ((hS19 1 rfl).trans rfl) rfl (ldB 0 Z Tryz.isAgg3 rfl rfl rfl (L_eql rfl rfl rfl (aB rfl (nn (W_cond (b:=(s.kind == 6)) rfl (fun hc52=>?_) (fun hc52=>?_))))))))))))))
 have hF:=(ite_t hc52).symm.trans hF
 refine W_seq ?_
 obtain ⟨x58,hx58,hF⟩:=bind_some hF
 obtain ⟨x60,hx60,hF⟩:=bind_some hF
 refine W_region (mV (.string x18) rfl (fA 1 fa_76_1 ((hS19 1 rfl).trans rfl) rfl (ldB 0 Z Tryz.isAgg3 rfl rfl rfl ?_)))
 obtain ⟨H61b,l62,s63,z64,k65⟩:=Z.borrow
 refine L_call rfl Tryz.call119 (ops1 rfl) (i_literalText_c (l:=s.a) s63 hx58) ?_
 rintro _ w66 ⟨rfl,Z⟩
 have Z:=k65 Z c0
 obtain ⟨hx60_l,hx60_e⟩:=cat_some hx60
 refine L_sadd (s:=x18) (s':=x58) rfl rfl rfl hx60_l ?_
 rw [← hx60_e]
 refine aV (.string x60) rfl (nn (W_ret (retG1 (v1:=.string x60) Tryz.results67 rfl ?_)))
 obtain rfl:=so hF
 exact ⟨rfl,(Star.down (Star.keepN 0 Z) hE19 c0)⟩
 have hF:=(ite_f hc52).symm.trans hF
 refine sq (fA 0 fa_76_0 ((hS19 1 rfl).trans rfl) rfl (ldB 0 Z Tryz.isAgg3 rfl rfl rfl (L_eql rfl rfl rfl (aB rfl (nn (W_cond (b:=(s.kind == 7)) rfl (fun hc67=>?_) (fun hc67=>?_)))))))
 have hF:=(ite_t hc67).symm.trans hF
 refine W_seq ?_
 obtain ⟨x73,hx73,hF⟩:=bind_some hF
 obtain ⟨x75,hx75,hF⟩:=bind_some hF
 refine W_region (mV (.string x18) rfl (fA 3 fa_76_3 ((hS19 1 rfl).trans rfl) rfl (L_lda (cs:=[v0_3,I s.given.bound]) rfl Tryz.isAgg74 Tryz.sizeOf74 rfl (At.sub0 (Blk.at (Star.blkAt 0 Z rfl)) 3 2) rfl ?_)))
 obtain ⟨H76b,l77,s78,z79,k80⟩:=Z.borrow
 refine L_call rfl Tryz.call120 (ops1 rfl) (i_Constraint_text_c (c:=s.given) s78 (RP.mono _ h0_3 (Le.trans hE19 l77)) hx73) ?_
 rintro _ w81 ⟨rfl,Z⟩
 have Z:=k80 Z c0
 obtain ⟨hx75_l,hx75_e⟩:=cat_some hx75
 refine L_sadd (s:=x18) (s':=x73) rfl rfl rfl hx75_l ?_
 rw [← hx75_e]
 refine aV (.string x75) rfl (nn (W_ret (retG1 (v1:=.string x75) Tryz.results67 rfl ?_)))
 obtain rfl:=so hF
 exact ⟨rfl,(Star.down (Star.keepN 0 Z) hE19 c0)⟩
 have hF:=(ite_f hc67).symm.trans hF
 refine W_seq ?_
 obtain ⟨R82,hR82⟩:=exR fun f w_=>f 1 = Pt g3∧f 3 = .string x18∧f 36 = Bo ((decide (x44.1 > 1)) || x44.2)∧Star H19 w_ ([box g3 76 #[I s.kind,I s.a,I s.b,v0_3,I s.given.bound]])
 refine W_join R82 ?_ ?_
 refine W_region (mI rfl (L_gtr rfl rfl rfl (mB rfl (L_split (d:=39) (b:=decide (x44.1 > 1)) rfl (fun hc83=>?_) (fun hc83=>?_)))))
 refine ps rfl (L_pick (v:=Bo ((decide (x44.1 > 1)) || x44.2)) rfl rfl (or_t hc83) (aB rfl (nn (rj hR82 ⟨((hS19 1 rfl).trans rfl),rfl,rfl,(Star.keepN 1 Z)⟩))))
 refine mB rfl (L_pick (v:=Bo ((decide (x44.1 > 1)) || x44.2)) rfl rfl (or_f hc83 rfl) (aB rfl (nn (rj hR82 ⟨((hS19 1 rfl).trans rfl),rfl,rfl,(Star.keepN 1 Z)⟩))))
 intro f w_ hR
 obtain ⟨sf1,sf3,sf36,Z⟩:=rk hR82 hR
 refine W_cond (b:=((decide (x44.1 > 1)) || x44.2)) sf36 (fun hc84=>?_) (fun hc84=>?_)
 have hF:=(ite_t hc84).symm.trans hF
 refine W_seq ?_
 obtain ⟨x90,hx90,hF⟩:=bind_some hF
 obtain ⟨x92,hx92,hF⟩:=bind_some hF
 obtain ⟨x93,hx93,hF⟩:=bind_some hF
 obtain ⟨x99,hx99,hF⟩:=bind_some hF
 obtain ⟨x101,hx101,hF⟩:=bind_some hF
 refine W_drawS 9 [isV (.string x18),isV (Pq g3 1),isV (I s.a),isV (.string x90),isV (.string x92),isV (.string x93),isV (Pq g3 2),isV (I s.b),isV (.string x99)] [box g3 76 #[I s.kind,I s.a,I s.b,v0_3,I s.given.bound]] [] ([]) [([],[]),([],[]),([],[]),([],[]),([],[]),([],[]),([],[]),([],[]),([],[])] (S:=[]) Tryz_mix (by kernel_rfl) rfl (by kernel_rfl) (amF_cons (mono_V _) (amF_cons (mono_V _) (amF_cons (mono_V _) (amF_cons (mono_V _) (amF_cons (mono_V _) (amF_cons (mono_V _) (amF_cons (mono_V _) (amF_cons (mono_V _) (amF_cons (mono_V _) amF_nil))))))))) Z ?_ (fun f w_ H102 hS102 hE102 hT102 Z=>?_)
 refine opsS_cons (fun f w_ _ _ s _ _ Z=>mF ((s 3 rfl).trans sf3) rfl (nO rfl rfl Z)) (opsS_cons (fun f w_ _ _ s _ _ Z=>fA 1 fa_76_1 ((s 1 rfl).trans sf1) rfl (nO rfl rfl Z)) (opsS_cons (fun f w_ _ _ _ _ p Z=>ldB 0 Z Tryz.isAgg3 (p 1 43 rfl rfl) rfl rfl (nO rfl rfl Z)) (opsS_cons ?_ ?_)))
 intro f w_ H102 X102 hS102 hE102 hP102 Z
 obtain ⟨H115b,l116,s117,z118,k119⟩:=Z.borrow
 refine L_call rfl Tryz.call121 (ops1 (hP102 2 44 rfl rfl)) (strconv_Itoa_c (x_:=s.a) s117 hx90) ?_
 rintro _ w120 ⟨rfl,Z⟩
 have Z:=k119 Z c0
 exact L_nil ⟨rfl,_,_,rfl,Le.refl _,fun _ _=>rfl,Z⟩
 refine opsS_cons ?_ ?_
 intro f w_ H102 X102 hS102 hE102 hP102 Z
 obtain ⟨hx92_l,hx92_e⟩:=cat_some hx92
 refine L_sadd (s:=x18) (s':=x90) rfl (hP102 0 42 rfl rfl) (hP102 3 45 rfl rfl) hx92_l ?_
 rw [← hx92_e]
 exact L_nil ⟨rfl,_,_,rfl,Le.refl _,fun _ _=>rfl,Z⟩
 refine opsS_cons ?_ ?_
 intro f w_ H102 X102 hS102 hE102 hP102 Z
 obtain ⟨hx93_l,hx93_e⟩:=cat_some hx93
 refine L_sadd (s:=x92) (s':=(⟨#[32]⟩ : ByteArray)) rfl (hP102 4 46 rfl rfl) rfl hx93_l ?_
 rw [← hx93_e]
 exact L_nil ⟨rfl,_,_,rfl,Le.refl _,fun _ _=>rfl,Z⟩
 refine opsS_cons (fun f w_ _ _ s _ _ Z=>fA 2 fa_76_2 ((s 1 rfl).trans sf1) rfl (nO rfl rfl Z)) (opsS_cons (fun f w_ _ _ _ _ p Z=>ldB 0 Z Tryz.isAgg3 (p 6 48 rfl rfl) rfl rfl (nO rfl rfl Z)) (opsS_cons ?_ ?_))
 intro f w_ H102 X102 hS102 hE102 hP102 Z
 obtain ⟨H121b,l122,s123,z124,k125⟩:=Z.borrow
 refine L_call rfl Tryz.call121 (ops1 (hP102 7 49 rfl rfl)) (strconv_Itoa_c (x_:=s.b) s123 hx99) ?_
 rintro _ w126 ⟨rfl,Z⟩
 have Z:=k125 Z c0
 exact L_nil ⟨rfl,_,_,rfl,Le.refl _,fun _ _=>rfl,Z⟩
 exact opsS_nil
 obtain ⟨hx101_l,hx101_e⟩:=cat_some hx101
 refine L_sadd (s:=x93) (s':=x99) rfl (hT102 5 47 rfl rfl) (hT102 8 50 rfl rfl) hx101_l ?_
 rw [← hx101_e]
 refine aV (.string x101) rfl (nn (W_ret (retG1 (v1:=.string x101) Tryz.results67 rfl ?_)))
 obtain rfl:=so hF
 exact ⟨rfl,(Star.down (Star.keepN 0 Z) (Le.trans hE19 hE102) c0)⟩
 have hF:=(ite_f hc84).symm.trans hF
 refine W_skip (W_seq ?_)
 obtain ⟨x132,hx132,hF⟩:=bind_some hF
 obtain ⟨x134,hx134,hF⟩:=bind_some hF
 refine W_region (mF sf3 rfl (fA 1 fa_76_1 sf1 rfl (ldB 0 Z Tryz.isAgg3 rfl rfl rfl ?_)))
 obtain ⟨H135b,l136,s137,z138,k139⟩:=Z.borrow
 refine L_call rfl Tryz.call121 (ops1 rfl) (strconv_Itoa_c (x_:=s.a) s137 hx132) ?_
 rintro _ w140 ⟨rfl,Z⟩
 have Z:=k139 Z c0
 obtain ⟨hx134_l,hx134_e⟩:=cat_some hx134
 refine L_sadd (s:=x18) (s':=x132) rfl rfl rfl hx134_l ?_
 rw [← hx134_e]
 refine aV (.string x134) rfl (nn (W_ret (retG1 (v1:=.string x134) Tryz.results67 rfl ?_)))
 obtain rfl:=so hF
 exact ⟨rfl,(Star.down (Star.keepN 0 Z) hE19 c0)⟩
theorem strings_Cut_c {x_ : ByteArray} {y_ : ByteArray} {H : FH} {w : World} (Z : Star H w []) {r : ByteArray × ByteArray × Bool} (hF : strings_Cut x_ y_ = some r) :
 C Tryz.prog 105 #[.string x_,.string y_] w fun v w'=>v = .tuple #[.string r.1,.string r.2.1,Bo r.2.2]∧Star H w' []:=by
 obtain ⟨hs,rfl⟩:=strings_Cut_some hF
 obtain ⟨m,hm⟩:=H.glob.maxlen
 refine Calls.mono (Tryz.strings_Cut x_ y_ m w hs (Z.sub.cell hm)) ?_
 rintro e w' ⟨rfl,n,rfl⟩
 exact ⟨_,rfl,rfl,Star.ext Z (below_drewN w n)⟩
theorem strings_TrimPrefix_c {x_ : ByteArray} {y_ : ByteArray} {H : FH} {w : World} (Z : Star H w []) {r : ByteArray} (hF : strings_TrimPrefix x_ y_ = some r) :
 C Tryz.prog 139 #[.string x_,.string y_] w fun v w'=>v = .string r∧Star H w' []:=by
 cases hF
 refine Calls.mono (Tryz.strings_TrimPrefix x_ y_ w) ?_
 rintro e w' ⟨rfl,rfl⟩
 exact ⟨_,rfl,rfl,Z⟩
theorem i_readLiteral_c {s : ByteArray} {H : FH} {w : World} (Z : Star H w []) {r : Int} (hF : i_readLiteral s = some r) :
 C Tryz.prog 107 #[.string s] w fun v w'=>v = I r∧Star H w' []:=by
 unfold i_readLiteral at hF
 refine C_enter Tryz.func107 rfl Tryz.ntmps107 rfl (sq (aI rfl (nq ?_)))
 obtain ⟨x6,hx6,hF⟩:=bind_some hF
 refine W_region (mV (.string s) rfl ?_)
 obtain ⟨H8b,l9,s10,z11,k12⟩:=Z.borrow
 refine L_call rfl Tryz.call33 (ops2 rfl rfl) (strings_CutPrefix_c (x_:=s) (y_:=(⟨#[126]⟩ : ByteArray)) s10 hx6) ?_
 rintro _ w13 ⟨rfl,Z⟩
 have Z:=k12 Z c0
 refine mV (.tuple #[.string x6.1,Bo x6.2]) rfl (L_ex (v:=.string x6.1) rfl rfl rfl (L_ex (v:=Bo x6.2) rfl rfl rfl (aV (.string x6.1) rfl (aB rfl (nq ?_)))))
 obtain ⟨x19,hx19,hF⟩:=bind_some hF
 obtain ⟨x26,hx26,hF⟩:=bind_some hF
 refine W_region (mV (.string x6.1) rfl ?_)
 obtain ⟨H28b,l29,s30,z31,k32⟩:=Z.borrow
 refine L_call rfl Tryz.call139 (ops2 rfl rfl) (strings_TrimPrefix_c (x_:=x6.1) (y_:=(⟨#[120]⟩ : ByteArray)) s30 hx19) ?_
 rintro _ w33 ⟨rfl,Z⟩
 have Z:=k32 Z c0
 obtain ⟨H34b,l35,s36,z37,k38⟩:=Z.borrow
 refine L_call rfl Tryz.call79 (ops1 rfl) (i_number_c (s:=x19) s36 hx26) ?_
 rintro _ w39 ⟨rfl,Z⟩
 have Z:=k38 Z c0
 refine aI rfl (nq (sq (mB rfl (nn ?_))))
 obtain ⟨l_40,hA41,hF⟩:=bind_some hF
 obtain ⟨R41,hR41⟩:=exR fun f w_=>f 0 = .string s∧f 5 = I l_40∧Star H w_ ([])
 refine W_join R41 ?_ ?_
 refine W_cond (b:=x6.2) rfl (fun hc42=>?_) (fun hc42=>?_)
 have hA41:=(ite_t hc42).symm.trans hA41
 refine W_region (mI rfl (L_neg rfl rfl (aI rfl (nn ?_))))
 obtain rfl:=so hA41
 exact rj hR41 ⟨rfl,rfl,Z⟩
 have hA41:=(ite_f hc42).symm.trans hA41
 refine W_skip ?_
 obtain rfl:=so hA41
 exact rj hR41 ⟨rfl,rfl,Z⟩
 intro f w_ hR
 obtain ⟨sf0,sf5,Z⟩:=rk hR41 hR
 refine W_seq (W_seq ?_)
 obtain ⟨x48,hx48,hF⟩:=bind_some hF
 obtain ⟨b57,hb57,hF⟩:=bind_some hF
 obtain ⟨R58,hR58⟩:=exR fun f w_=>f 5 = I l_40∧f 25 = Bo b57∧Star H w_ ([])
 refine W_join R58 ?_ ?_
 refine W_region (mF sf5 rfl ?_)
 obtain ⟨H59b,l60,s61,z62,k63⟩:=Z.borrow
 refine L_call rfl Tryz.call115 (ops1 rfl) (i_isLiteral_c (l:=l_40) s61 hx48) ?_
 rintro _ w64 ⟨rfl,Z⟩
 have Z:=k63 Z c0
 refine L_not_ rfl rfl (mB rfl (L_split (d:=20) (b:=(!x48)) rfl (fun hc65=>?_) (fun hc65=>?_)))
 rw [ite_t hc65] at hb57
 refine ps rfl (ps rfl (ps rfl (ps rfl (L_pick (v:=Bo b57) rfl rfl (congrArg Value.bool (so hb57)) (nn (rj hR58 ⟨sf5,rfl,Z⟩))))))
 rw [ite_f hc65] at hb57
 obtain ⟨x55,hx55,hb57⟩:=bind_some hb57
 refine mF sf5 rfl ?_
 obtain ⟨H66b,l67,s68,z69,k70⟩:=Z.borrow
 refine L_call rfl Tryz.call119 (ops1 rfl) (i_literalText_c (l:=l_40) s68 hx55) ?_
 rintro _ w71 ⟨rfl,Z⟩
 have Z:=k70 Z c0
 refine mF sf0 rfl (L_sneq (s:=x55) (s':=s) rfl rfl rfl (L_pick (v:=Bo b57) rfl rfl (congrArg Value.bool (so hb57)) (nn (rj hR58 ⟨sf5,rfl,Z⟩))))
 intro f w_ hR
 obtain ⟨sf5,sf25,Z⟩:=rk hR58 hR
 refine W_cond (b:=b57) sf25 (fun hc72=>?_) (fun hc72=>?_)
 have hF:=(ite_t hc72).symm.trans hF
 refine sq (aI rfl (nn (W_ret (retG1 (v1:=I 0) Tryz.results107 rfl ?_))))
 obtain rfl:=so hF
 exact ⟨rfl,Z⟩
 have hF:=(ite_f hc72).symm.trans hF
 refine W_skip (sq (mF sf5 rfl (aI rfl (nn (W_ret (retG1 (v1:=I l_40) Tryz.results107 rfl ?_))))))
 obtain rfl:=so hF
 exact ⟨rfl,Z⟩
theorem i_ParseConstraint_c {fu : Nat} {text : ByteArray} {H : FH} {w : World} (Z : Star H w []) {r : Con × Bool} (hF : i_ParseConstraint fu text = some r) :
 C Tryz.prog 108 #[.string text] w fun v w'=>∃ (u1 : Value),v = .tuple #[.agg #[u1,I r.1.bound],Bo r.2]∧Star H w' [oF 126 rTerm u1 r.1.terms]:=by
 unfold i_ParseConstraint at hF
 refine C_enter Tryz.func108 rfl Tryz.ntmps108 rfl (sq (L_al (cs:=#[S0,I 0]) rfl Tryz.zeroValue74 rfl Z (fun g3 w4 Z=>aB rfl (nq ?_))))
 obtain ⟨x10,hx10,hF⟩:=bind_some hF
 refine W_region (mV (.string text) rfl ?_)
 obtain ⟨H13b,l14,s15,z16,k17⟩:=Z.borrow
 refine L_call rfl Tryz.call75 (ops2 rfl rfl) (strings_Split_c (x_:=text) (y_:=(⟨#[32]⟩ : ByteArray)) s15 hx10) ?_
 rintro r18_0 w18 ⟨_,rfl,Z⟩
 have Z:=k17 Z (co closed_str c0)
 refine aV r18_0 rfl (ns (mV r18_0 rfl (L_len rfl Tryz.underlying44 rfl (Star.len 0 Z rfl) (L_sub rfl rfl rfl (aI rfl (nq (W_seq ?_)))))))
 obtain ⟨R20,hR20⟩:=exR fun f w_=>f 0 = .string text∧f 2 = Pt g3∧f 4 = r18_0∧f 5 = I (i64 ((x10.length : Int) - 2))∧f 23 = Bo (((decide ((i64 ((x10.length : Int) - 2)) < 0)) || (decide ((i64 ((x10.length : Int) - 2)) > 24))) || ((Int.tmod (i64 ((x10.length : Int) - 2)) 2) != 0))∧Star H w_ ([oF 9 RP.str r18_0 x10,box g3 74 #[S0,I 0]])
 refine W_join R20 ?_ ?_
 refine W_region (mI rfl (L_lss rfl rfl rfl (mB rfl (L_split (d:=15) (b:=decide ((i64 ((x10.length : Int) - 2)) < 0)) rfl (fun hc21=>?_) (fun hc21=>?_)))))
 refine ps rfl (ps rfl (L_pick (v:=Bo ((decide ((i64 ((x10.length : Int) - 2)) < 0)) || (decide ((i64 ((x10.length : Int) - 2)) > 24)))) rfl rfl (or_t hc21) (mB rfl (L_split (d:=19) (b:=((decide ((i64 ((x10.length : Int) - 2)) < 0)) || (decide ((i64 ((x10.length : Int) - 2)) > 24)))) rfl (fun hc22=>?_) (fun hc22=>?_)))))
 refine ps rfl (ps rfl (ps rfl (L_pick (v:=Bo (((decide ((i64 ((x10.length : Int) - 2)) < 0)) || (decide ((i64 ((x10.length : Int) - 2)) > 24))) || ((Int.tmod (i64 ((x10.length : Int) - 2)) 2) != 0))) rfl rfl (or_t hc22) (nn (rj hR20 ⟨rfl,rfl,rfl,rfl,rfl,Z⟩)))))
 exact boolNo (orT hc21) hc22
 refine mI rfl (L_gtr rfl rfl rfl (L_pick (v:=Bo ((decide ((i64 ((x10.length : Int) - 2)) < 0)) || (decide ((i64 ((x10.length : Int) - 2)) > 24)))) rfl rfl (or_f hc21 rfl) (mB rfl (L_split (d:=19) (b:=((decide ((i64 ((x10.length : Int) - 2)) < 0)) || (decide ((i64 ((x10.length : Int) - 2)) > 24)))) rfl (fun hc23=>?_) (fun hc23=>?_)))))
 refine ps rfl (ps rfl (ps rfl (L_pick (v:=Bo (((decide ((i64 ((x10.length : Int) - 2)) < 0)) || (decide ((i64 ((x10.length : Int) - 2)) > 24))) || ((Int.tmod (i64 ((x10.length : Int) - 2)) 2) != 0))) rfl rfl (or_t hc23) (nn (rj hR20 ⟨rfl,rfl,rfl,rfl,rfl,Z⟩)))))
 refine mI rfl (L_rem (m:=i64 ((x10.length : Int) - 2)) (n:=2) rfl rfl rfl (by decide) (L_neq rfl rfl rfl (L_pick (v:=Bo (((decide ((i64 ((x10.length : Int) - 2)) < 0)) || (decide ((i64 ((x10.length : Int) - 2)) > 24))) || ((Int.tmod (i64 ((x10.length : Int) - 2)) 2) != 0))) rfl rfl (or_f hc23 rfl) (nn (rj hR20 ⟨rfl,rfl,rfl,rfl,rfl,Z⟩)))))
 intro f w_ hR
 obtain ⟨sf0,sf2,sf4,sf5,sf23,Z⟩:=rk hR20 hR
 refine W_cond (b:=(((decide ((i64 ((x10.length : Int) - 2)) < 0)) || (decide ((i64 ((x10.length : Int) - 2)) > 24))) || ((Int.tmod (i64 ((x10.length : Int) - 2)) 2) != 0))) sf23 (fun hc24=>?_) (fun hc24=>?_)
 have hF:=(ite_t hc24).symm.trans hF
 refine sq (L_bld rfl (parts0 ) (bld_74_  ) (L_staB (vs:=#[S0,I 0]) (cs2:=#[S0,I 0]) 1 rfl Tryz.sizeOf74 sf2 rfl rfl (ones_cons rfl (ones_cons rfl ones_nil)) Z rfl (by show 0 + 2≤2; decide) rfl (fun w26 Z=>aB rfl (nn (W_ret (retG2 (v1:=.agg #[S0,I 0]) (v2:=Bo false) Tryz.results108 (resV_agg Tryz.isAgg74 Tryz.sizeOf74 sf2 (Star.blkAt 0 Z rfl) rfl) rfl ?_))))))
 obtain rfl:=so hF
 have Z:=Star.addNil (R:=(OR.frz rTerm)) (e:=126) Z
 exact ⟨S0,rfl,(Star.keepN 1 Z)⟩
 have hF:=(ite_f hc24).symm.trans hF
 refine W_skip (W_seq ?_)
 obtain ⟨x28,hx28,hF⟩:=bind_some hF
 obtain ⟨x38,hx38,hF⟩:=bind_some hF
 refine W_region (mF sf4 rfl (mF sf5 rfl (L_add rfl rfl rfl ?_)))
 obtain ⟨g43,cap_g43,hv44,_,_⟩:=Star.row 0 Z rfl hx28
 refine L_ixO (R:=(OR.frz RP.str)) (tb:=0) 0 rfl Tryz.underlying44 Tryz.sizeOf9 rfl hv44 (by first | rfl | simp) rfl hx28 ?_
 obtain ⟨cs45,hr45,hat45⟩:=Star.eltF 0 Z rfl hv44 hx28
 obtain rfl : _ = [_]:=hr45
 refine L_ld rfl Tryz.isAgg9 rfl (At.cell hat45 (j:=0) rfl) ?_
 obtain ⟨H47b,l48,s49,z50,k51⟩:=Z.borrow
 refine L_call rfl Tryz.call79 (ops1 rfl) (i_number_c (s:=x28) s49 hx38) ?_
 rintro _ w52 ⟨rfl,Z⟩
 have Z:=k51 Z c0
 refine L_bld rfl (parts1 rfl) (bld_74_1 (I x38) rfl) (L_al (cs:=#[S0,I 0]) rfl Tryz.zeroValue74 rfl Z (fun g53 w54 Z=>L_staB (vs:=#[S0,I x38]) (cs2:=#[S0,I x38]) 0 rfl Tryz.sizeOf74 rfl rfl rfl (ones_cons rfl (ones_cons rfl ones_nil)) Z rfl (by show 0 + 2≤2; decide) rfl (fun w55 Z=>nq (sq (aI rfl (nn ?_))))))
 obtain ⟨j62,hL62,hF⟩:=bind_some hF
 obtain ⟨R62,hR62⟩:=exR fun f w_=>∃ i_57 : Int,∃ g53_0_58 : List Term,∃ H60 : FH,∃ v58_g53_0 : Value,j62 = .nx (i_57,g53_0_58)∧Le H H60∧f 0 = .string text∧f 2 = Pt g3∧f 6 = Pt g53∧Star H60 w_ ([oF 126 rTerm v58_g53_0 g53_0_58,box g53 74 #[v58_g53_0,I x38],box g3 74 #[S0,I 0]])
 refine W_join R62 ?_ ?_
 refine W_block ?_
 obtain ⟨I62,hI62⟩:=exI fun n f w_=>∃ i_57 : Int,∃ g53_0_58 : List Term,∃ H60 : FH,∃ v58_g53_0 : Value,whileL (i_ParseConstraint_b1 x10) n (i_57,g53_0_58) = some j62∧Le H H60∧f 0 = .string text∧f 2 = Pt g3∧f 4 = r18_0∧f 5 = I (i64 ((x10.length : Int) - 2))∧f 6 = Pt g53∧f 7 = I i_57∧Star H60 w_ ([oF 9 RP.str r18_0 x10,oF 126 rTerm v58_g53_0 g53_0_58,box g53 74 #[v58_g53_0,I x38],box g3 74 #[S0,I 0]])
 have Z:=Star.addNil (R:=(OR.frz rTerm)) (e:=126) Z
 have Z:=Z.gets [3,2,2,3] rfl
 refine W_loop I62 (n:=fu) ?_ ?_
 exact ij hI62 ⟨0,[],H,S0,hL62,(Le.refl _),sf0,sf2,sf4,sf5,rfl,rfl,Z⟩
 intro n62 f w_ hI
 obtain ⟨i_57,g53_0_58,H60,v58_g53_0,hL62,l61,sf0,sf2,sf4,sf5,sf6,sf7,Z⟩:=ik hI62 hI
 rcases n62 with _ | n62
 exact (while_zero hL62).elim
 obtain ⟨o62,hB62,hL62⟩:=while_succ hL62
 rw [i_ParseConstraint_b1] at hB62
 refine W_seq (sq (mF sf7 rfl (mF sf5 rfl (L_lss rfl rfl rfl (nn (W_cond (b:=decide (i_57 < (i64 ((x10.length : Int) - 2)))) rfl (fun hc64=>?_) (fun hc64=>?_)))))))
 have hB62:=(ite_t hc64).symm.trans hB62
 refine W_skip (W_seq (W_block ?_))
 obtain ⟨x65,hx65,hB62⟩:=bind_some hB62
 obtain ⟨x75,hx75,hB62⟩:=bind_some hB62
 obtain ⟨x77,hx77,hB62⟩:=bind_some hB62
 obtain ⟨x85,hx85,hB62⟩:=bind_some hB62
 obtain ⟨x90,hx90,hB62⟩:=bind_some hB62
 obtain ⟨g96,cap_g96,hv97,_,_⟩:=Star.row 0 Z rfl hx65
 refine W_drawS 15 [isV (Pt g53),isV (v58_g53_0),isV (r18_0),isV (I i_57),isV (.pointer (some ⟨g96,Int.toNat i_57 * 1,none⟩)),isV (.string x65),isV (I x75),isV (r18_0),isV (I i_57),isV (I (i64 (i_57 + 1))),isV (.pointer (some ⟨g96,Int.toNat (i64 (i_57 + 1)) * 1,none⟩)),isV (.string x77),isV (I x85),isV (.agg #[I x75,I x85]),anyF] [oF 9 RP.str r18_0 x10,oF 126 rTerm v58_g53_0 g53_0_58,box g53 74 #[v58_g53_0,I x38],box g3 74 #[S0,I 0]] [.made 14 51 (fun v_=>oF 126 rTerm v_ ([({ coef:=x75,lit:=x85 } : Term)])) none] ([]) [([],[]),([],[]),([],[]),([],[]),([],[]),([],[]),([],[]),([],[]),([],[]),([],[]),([],[]),([],[]),([],[]),([],[]),([],[0])] (S:=[(some 14,[51],none)]) Tryz_mix (by kernel_rfl) rfl (by kernel_rfl) (amF_cons (mono_V _) (amF_cons (mono_V _) (amF_cons (mono_V _) (amF_cons (mono_V _) (amF_cons (mono_V _) (amF_cons (mono_V _) (amF_cons (mono_V _) (amF_cons (mono_V _) (amF_cons (mono_V _) (amF_cons (mono_V _) (amF_cons (mono_V _) (amF_cons (mono_V _) (amF_cons (mono_V _) (amF_cons (mono_V _) (amF_cons (mono_any) amF_nil))))))))))))))) Z ?_ (fun f w_ H95 hS95 hE95 hT95 Z=>?_)
 refine opsS_cons (fun f w_ _ _ s _ _ Z=>fA 0 fa_74_0 ((s 6 rfl).trans sf6) rfl (nO rfl rfl Z)) (opsS_cons (fun f w_ _ _ _ _ p Z=>ldB 2 Z Tryz.isAgg72 (p 0 37 rfl rfl) rfl rfl (nO rfl rfl Z)) (opsS_cons (fun f w_ _ _ s _ _ Z=>mF ((s 4 rfl).trans sf4) rfl (nO rfl rfl Z)) (opsS_cons (fun f w_ _ _ s _ _ Z=>mF ((s 7 rfl).trans sf7) rfl (nO rfl rfl Z)) (opsS_cons (fun f w_ _ _ _ _ p Z=>L_ixO (R:=(OR.frz RP.str)) (tb:=0) 0 rfl Tryz.underlying44 Tryz.sizeOf9 (p 2 39 rfl rfl) hv97 (by first | rfl | simp) (p 3 40 rfl rfl) hx65 (nO rfl rfl Z)) (opsS_cons ?_ ?_)))))
 intro f w_ H95 X95 hS95 hE95 hP95 Z
 obtain ⟨cs117,hr117,hat117⟩:=Star.eltF 0 Z rfl hv97 hx65
 obtain rfl : _ = [_]:=hr117
 refine L_ld rfl Tryz.isAgg9 (hP95 4 41 rfl rfl) (At.cell hat117 (j:=0) rfl) (L_nil ⟨rfl,_,_,rfl,Le.refl _,fun _ _=>rfl,Z⟩)
 refine opsS_cons ?_ ?_
 intro f w_ H95 X95 hS95 hE95 hP95 Z
 obtain ⟨H119b,l120,s121,z122,k123⟩:=Z.borrow
 refine L_call rfl Tryz.call79 (ops1 (hP95 5 42 rfl rfl)) (i_number_c (s:=x65) s121 hx75) ?_
 rintro _ w124 ⟨rfl,Z⟩
 have Z:=k123 Z c0
 exact L_nil ⟨rfl,_,_,rfl,Le.refl _,fun _ _=>rfl,Z⟩
 refine opsS_cons (fun f w_ _ _ s _ _ Z=>mF ((s 4 rfl).trans sf4) rfl (nO rfl rfl Z)) (opsS_cons (fun f w_ _ _ s _ _ Z=>mF ((s 7 rfl).trans sf7) rfl (nO rfl rfl Z)) (opsS_cons (fun f w_ _ _ _ _ p Z=>L_add rfl (p 8 45 rfl rfl) rfl (nO rfl rfl Z)) (opsS_cons (fun f w_ _ _ _ _ p Z=>L_ixO (R:=(OR.frz RP.str)) (tb:=0) 0 rfl Tryz.underlying44 Tryz.sizeOf9 (p 7 44 rfl rfl) hv97 (by first | rfl | simp) (p 9 46 rfl rfl) hx77 (nO rfl rfl Z)) (opsS_cons ?_ ?_))))
 intro f w_ H95 X95 hS95 hE95 hP95 Z
 obtain ⟨cs125,hr125,hat125⟩:=Star.eltF 0 Z rfl hv97 hx77
 obtain rfl : _ = [_]:=hr125
 refine L_ld rfl Tryz.isAgg9 (hP95 10 47 rfl rfl) (At.cell hat125 (j:=0) rfl) (L_nil ⟨rfl,_,_,rfl,Le.refl _,fun _ _=>rfl,Z⟩)
 refine opsS_cons ?_ ?_
 intro f w_ H95 X95 hS95 hE95 hP95 Z
 obtain ⟨H127b,l128,s129,z130,k131⟩:=Z.borrow
 refine L_call rfl Tryz.call107 (ops1 (hP95 11 48 rfl rfl)) (i_readLiteral_c (s:=x77) s129 hx85) ?_
 rintro _ w132 ⟨rfl,Z⟩
 have Z:=k131 Z c0
 exact L_nil ⟨rfl,_,_,rfl,Le.refl _,fun _ _=>rfl,Z⟩
 refine opsS_cons (fun f w_ _ _ _ _ p Z=>L_bld rfl (parts2 (p 6 43 rfl rfl) (p 12 49 rfl rfl)) (bld_126_0_1 (I x75) (I x85) rfl rfl) (nO rfl rfl Z)) (opsS_cons ?_ ?_)
 intro f w_ H95 X95 hS95 hE95 hP95 Z
 refine L_bs rfl (parts1 (hP95 13 50 rfl rfl)) (bs_72_1_2 (I x75) (I x85) ) Z (fun g133 w134 Z=>?_)
 have Z:=Star.addF (r:=rTerm) (cs:=[I x75,I x85]) (x:=({ coef:=x75,lit:=x85 } : Term)) Z (rTerm_iff.2 rfl)
 have Z:=Star.mkRow (R:=(OR.frz rTerm)) [([I x75,I x85],({ coef:=x75,lit:=x85 } : Term))] [({ coef:=x75,lit:=x85 } : Term)] 1 Z rfl rfl rfl (by decide)
 have Z:=Z.gets [4,4,4,4] rfl
 exact L_nil ⟨rfl,_,_,rfl,Le.refl _,fun _ _=>trivial,Z⟩
 exact opsS_nil
 have Z : Star H95 w_ ([oF 9 RP.str r18_0 x10,oF 126 rTerm v58_g53_0 g53_0_58,box g53 74 #[v58_g53_0,I x38],box g3 74 #[S0,I 0],oF 126 rTerm (f 51) ([({ coef:=x75,lit:=x85 } : Term)])]):=Z
 have Z:=Z.gets [4,2] rfl
 refine L_appM (v:=v58_g53_0) (u:=(f 51)) rfl et_72 (hT95 1 38 rfl rfl) rfl Z hx90 (fun v137 w138 Z=>fA 0 fa_74_0 ((hS95 6 rfl).trans sf6) rfl (L_stB (v:=v137) (cs2:=#[v137,I x38]) 2 rfl Tryz.sizeOf72 rfl rfl (one_len (Star.len 0 Z rfl)) Z rfl rfl rfl (fun w140 Z=>nn (W_region (mF ((hS95 7 rfl).trans sf7) rfl (L_add rfl rfl rfl (aI rfl (nn ?_))))))))
 obtain rfl:=so hB62
 have Z:=Z.gets [3,1,2,3] rfl
 show ∃ m,m < _∧I62 m _ _
 refine ⟨n62,Nat.lt_succ_self _,?_⟩
 exact ij hI62 ⟨i64 (i_57 + 2),x90,H95,v137,hL62,(Le.trans l61 hE95),((hS95 0 rfl).trans sf0),((hS95 2 rfl).trans sf2),((hS95 4 rfl).trans sf4),((hS95 5 rfl).trans sf5),((hS95 6 rfl).trans sf6),rfl,Z⟩
 have hB62:=(ite_f hc64).symm.trans hB62
 refine W_exit ?_
 obtain rfl:=so hB62
 obtain rfl:=so hL62
 have Z:=Z.gets [3,3,3] rfl
 exact rj hR62 ⟨i_57,g53_0_58,H60,v58_g53_0,rfl,l61,sf0,sf2,sf6,(Star.keepN 3 Z)⟩
 intro f w_ hR
 obtain ⟨i_57,g53_0_58,H60,v58_g53_0,rfl,l61,sf0,sf2,sf6,Z⟩:=rk hR62 hR
 refine W_seq (W_seq ?_)
 obtain ⟨x147,hx147,hF⟩:=bind_some hF
 obtain ⟨b157,hb157,hF⟩:=bind_some hF
 obtain ⟨R158,hR158⟩:=exR fun f w_=>f 2 = Pt g3∧f 6 = Pt g53∧f 62 = Bo b157∧Star H60 w_ ([oF 126 rTerm v58_g53_0 g53_0_58,box g53 74 #[v58_g53_0,I x38],box g3 74 #[S0,I 0]])
 refine W_join R158 ?_ ?_
 refine W_region (L_lda (cs:=[v58_g53_0,I x38]) rfl Tryz.isAgg74 Tryz.sizeOf74 sf6 (At.sub0 (Blk.at (Star.blkAt 1 Z rfl)) 0 2) rfl ?_)
 obtain ⟨H159b,l160,s161,z162,k163⟩:=Z.borrow
 have hb164 : (rS 126 rTerm).rel H159b [v58_g53_0] g53_0_58:=fz_own 0 z162 rfl
 refine L_call rfl Tryz.call116 (ops1 rfl) (i_ConstraintValid_c (c:=({ terms:=g53_0_58,bound:=x38 } : Con)) s161 hb164 hx147) ?_
 rintro _ w165 ⟨rfl,Z⟩
 have Z:=k163 Z c0
 refine L_not_ rfl rfl (mB rfl (L_split (d:=57) (b:=(!x147)) rfl (fun hc166=>?_) (fun hc166=>?_)))
 rw [ite_t hc166] at hb157
 refine ps rfl (ps rfl (ps rfl (ps rfl (L_pick (v:=Bo b157) rfl rfl (congrArg Value.bool (so hb157)) (nn (rj hR158 ⟨sf2,sf6,rfl,Z⟩))))))
 rw [ite_f hc166] at hb157
 obtain ⟨x155,hx155,hb157⟩:=bind_some hb157
 refine L_lda (cs:=[v58_g53_0,I x38]) rfl Tryz.isAgg74 Tryz.sizeOf74 sf6 (At.sub0 (Blk.at (Star.blkAt 1 Z rfl)) 0 2) rfl ?_
 obtain ⟨H167b,l168,s169,z170,k171⟩:=Z.borrow
 have hb172 : (rS 126 rTerm).rel H167b [v58_g53_0] g53_0_58:=fz_own 0 z170 rfl
 refine L_call rfl Tryz.call120 (ops1 rfl) (i_Constraint_text_c (c:=({ terms:=g53_0_58,bound:=x38 } : Con)) s169 hb172 hx155) ?_
 rintro _ w173 ⟨rfl,Z⟩
 have Z:=k171 Z c0
 refine mF sf0 rfl (L_sneq (s:=x155) (s':=text) rfl rfl rfl (L_pick (v:=Bo b157) rfl rfl (congrArg Value.bool (so hb157)) (nn (rj hR158 ⟨sf2,sf6,rfl,Z⟩))))
 intro f w_ hR
 obtain ⟨sf2,sf6,sf62,Z⟩:=rk hR158 hR
 refine W_cond (b:=b157) sf62 (fun hc174=>?_) (fun hc174=>?_)
 have hF:=(ite_t hc174).symm.trans hF
 refine sq (L_bld rfl (parts0 ) (bld_74_  ) (L_staB (vs:=#[S0,I 0]) (cs2:=#[S0,I 0]) 2 rfl Tryz.sizeOf74 sf2 rfl rfl (ones_cons rfl (ones_cons rfl ones_nil)) Z rfl (by show 0 + 2≤2; decide) rfl (fun w176 Z=>aB rfl (nn (W_ret (retG2 (v1:=.agg #[S0,I 0]) (v2:=Bo false) Tryz.results108 (resV_agg Tryz.isAgg74 Tryz.sizeOf74 sf2 (Star.blkAt 0 Z rfl) rfl) rfl ?_))))))
 obtain rfl:=so hF
 have Z:=Star.addNil (R:=(OR.frz rTerm)) (e:=126) Z
 exact ⟨S0,rfl,(Star.down (Star.keepN 1 Z) l61 (co closed_term c0))⟩
 have hF:=(ite_f hc174).symm.trans hF
 refine W_skip (sq (L_lda (cs:=[v58_g53_0,I x38]) rfl Tryz.isAgg74 Tryz.sizeOf74 sf6 (At.sub0 (Blk.at (Star.blkAt 1 Z rfl)) 0 2) rfl (L_staB (vs:=#[v58_g53_0,I x38]) (cs2:=#[v58_g53_0,I x38]) 2 rfl Tryz.sizeOf74 sf2 rfl rfl (ones_cons (one_len (Star.len 0 Z rfl)) (ones_cons rfl ones_nil)) Z rfl (by show 0 + 2≤2; decide) rfl (fun w179 Z=>aB rfl (nn (W_ret (retG2 (v1:=.agg #[v58_g53_0,I x38]) (v2:=Bo true) Tryz.results108 (resV_agg Tryz.isAgg74 Tryz.sizeOf74 sf2 (Star.blkAt 0 Z rfl) rfl) rfl ?_)))))))
 obtain rfl:=so hF
 have Z:=Z.get 1 rfl
 exact ⟨v58_g53_0,rfl,(Star.down (Star.keepN 1 Z) l61 (co closed_term c0))⟩
theorem i_readStep_c {fu : Nat} {line : ByteArray} {H : FH} {w : World} (Z : Star H w []) {r : Step × Bool} (hF : i_readStep fu line = some r) :
 C Tryz.prog 58 #[.string line] w fun v w'=>∃ (u1 : Value),v = .tuple #[.agg #[I r.1.kind,I r.1.a,I r.1.b,u1,I r.1.given.bound],Bo r.2]∧Star H w' [oF 126 rTerm u1 r.1.given.terms]:=by
 unfold i_readStep at hF
 refine C_enter Tryz.func58 rfl Tryz.ntmps58 rfl (sq (L_al (cs:=#[I 0,I 0,I 0,S0,I 0]) rfl Tryz.zeroValue76 rfl Z (fun g3 w4 Z=>aB rfl (nq ?_))))
 obtain ⟨x10,hx10,hF⟩:=bind_some hF
 refine W_region (mV (.string line) rfl ?_)
 obtain ⟨H12b,l13,s14,z15,k16⟩:=Z.borrow
 refine L_call rfl Tryz.call105 (ops2 rfl rfl) (strings_Cut_c (x_:=line) (y_:=(⟨#[32]⟩ : ByteArray)) s14 hx10) ?_
 rintro _ w17 ⟨rfl,Z⟩
 have Z:=k16 Z c0
 refine mV (.tuple #[.string x10.1,.string x10.2.1,Bo x10.2.2]) rfl (L_ex (v:=.string x10.1) rfl rfl rfl (L_ex (v:=.string x10.2.1) rfl rfl rfl (L_ex (v:=Bo x10.2.2) rfl rfl rfl (aV (.string x10.1) rfl (aV (.string x10.2.1) rfl (aB rfl (nq ?_)))))))
 obtain ⟨x23,hx23,hF⟩:=bind_some hF
 obtain ⟨x32,hx32,hF⟩:=bind_some hF
 refine W_region ?_
 obtain ⟨H37b,l38,s39,z40,k41⟩:=Z.borrow
 refine L_call rfl Tryz.call106 ops0 (i_stepWords_c s39 hx23) ?_
 rintro r42_0 w42 ⟨_,rfl,Z⟩
 have Z:=k41 Z (co closed_str c0)
 refine mV (.string x10.1) rfl ?_
 obtain ⟨H44b,l45,s46,z47,k48⟩:=Z.borrow
 have hb49 : (rS 9 RP.str).rel H44b [r42_0] x23:=fz_own 0 z47 rfl
 refine L_call rfl Tryz.call77 (ops2 rfl rfl) (slices_Index_string_c (s:=x23) (v_:=x10.1) s46 hb49 hx32) ?_
 rintro _ w50 ⟨rfl,Z⟩
 have Z:=k48 Z c0
 refine L_max rfl rfl rfl (L_bld rfl (parts1 rfl) (bld_76_0 (I (max 0 x32)) rfl) (L_al (cs:=#[I 0,I 0,I 0,S0,I 0]) rfl Tryz.zeroValue76 rfl Z (fun g51 w52 Z=>L_staB (vs:=#[I (max 0 x32),I 0,I 0,S0,I 0]) (cs2:=#[I (max 0 x32),I 0,I 0,S0,I 0]) 0 rfl Tryz.sizeOf76 rfl rfl rfl (ones_cons rfl (ones_cons rfl (ones_cons rfl (ones_cons rfl (ones_cons rfl ones_nil))))) Z rfl (by show 0 + 5≤5; decide) rfl (fun w53 Z=>nq (sq (fA 0 fa_76_0 rfl rfl (ldB 0 Z Tryz.isAgg3 rfl rfl rfl (nn (W_block (sq (L_eql rfl rfl rfl (aB rfl (nn ?_)))))))))))))
 obtain ⟨⟨g51_1_54,g51_2_55,g51_3_56,g51_4_58⟩,hA59,hF⟩:=bind_some hF
 obtain ⟨R59,hR59⟩:=exR fun f w_=>∃ v56_g51_3 : Value,f 0 = .string line∧f 2 = Pt g3∧f 7 = Pt g51∧Star H w_ ([oF 126 rTerm v56_g51_3 g51_3_56,box g51 76 #[I (max 0 x32),I g51_1_54,I g51_2_55,v56_g51_3,I g51_4_58],box g3 76 #[I 0,I 0,I 0,S0,I 0]])
 refine W_join R59 ?_ ?_
 refine W_cond (b:=((max 0 x32) == 6)) rfl (fun hc60=>?_) (fun hc60=>?_)
 have hA59:=(ite_t hc60).symm.trans hA59
 obtain ⟨x66,hx66,hA59⟩:=bind_some hA59
 refine W_region (mV (.string x10.2.1) rfl ?_)
 obtain ⟨H69b,l70,s71,z72,k73⟩:=Z.borrow
 refine L_call rfl Tryz.call107 (ops1 rfl) (i_readLiteral_c (s:=x10.2.1) s71 hx66) ?_
 rintro _ w74 ⟨rfl,Z⟩
 have Z:=k73 Z c0
 refine fA 1 fa_76_1 rfl rfl (L_stB (v:=I x66) (cs2:=#[I (max 0 x32),I x66,I 0,S0,I 0]) 0 rfl Tryz.sizeOf3 rfl rfl rfl Z rfl rfl rfl (fun w75 Z=>nn ?_))
 obtain ⟨rfl,rfl,rfl,rfl⟩:=so4 hA59
 have Z:=Star.addNil (R:=(OR.frz rTerm)) (e:=126) Z
 have Z:=Z.gets [3,2,2] rfl
 exact rj hR59 ⟨S0,rfl,rfl,rfl,(Star.keepN 3 Z)⟩
 have hA59:=(ite_f hc60).symm.trans hA59
 refine sq (L_eql rfl rfl rfl (aB rfl (nn ?_)))
 obtain ⟨⟨g51_1_77,g51_2_78,g51_3_79,g51_4_81⟩,hA82,hA59⟩:=bind_some hA59
 obtain ⟨R82,hR82⟩:=exR fun f w_=>∃ v79_g51_3 : Value,f 0 = .string line∧f 2 = Pt g3∧f 7 = Pt g51∧Star H w_ ([oF 126 rTerm v79_g51_3 g51_3_79,box g51 76 #[I (max 0 x32),I g51_1_77,I g51_2_78,v79_g51_3,I g51_4_81],box g3 76 #[I 0,I 0,I 0,S0,I 0]])
 refine W_join R82 ?_ ?_
 refine W_cond (b:=((max 0 x32) == 7)) rfl (fun hc83=>?_) (fun hc83=>?_)
 have hA82:=(ite_t hc83).symm.trans hA82
 obtain ⟨x89,hx89,hA82⟩:=bind_some hA82
 refine W_region (mV (.string x10.2.1) rfl ?_)
 obtain ⟨H93b,l94,s95,z96,k97⟩:=Z.borrow
 refine L_call rfl Tryz.call108 (ops1 rfl) (i_ParseConstraint_c (text:=x10.2.1) s95 hx89) ?_
 rintro _ w98 ⟨r98_0,rfl,Z⟩
 have Z:=k97 Z (co closed_term c0)
 refine mV (.tuple #[.agg #[r98_0,I x89.1.bound],Bo x89.2]) rfl (L_ex (v:=.agg #[r98_0,I x89.1.bound]) rfl rfl rfl (L_ex (v:=Bo x89.2) rfl rfl rfl (fA 3 fa_76_3 rfl rfl (L_staB (vs:=#[r98_0,I x89.1.bound]) (cs2:=#[I (max 0 x32),I 0,I 0,r98_0,I x89.1.bound]) 1 rfl Tryz.sizeOf74 rfl rfl rfl (ones_cons (one_len (Star.len 0 Z rfl)) (ones_cons rfl ones_nil)) Z rfl (by show 3 + 2≤5; decide) rfl (fun w100 Z=>nn ?_)))))
 obtain ⟨rfl,rfl,rfl,rfl⟩:=so4 hA82
 have Z:=Z.gets [3,1,2] rfl
 exact rj hR82 ⟨r98_0,rfl,rfl,rfl,(Star.keepN 3 Z)⟩
 have hA82:=(ite_f hc83).symm.trans hA82
 refine W_seq ?_
 obtain ⟨x106,hx106,hA82⟩:=bind_some hA82
 refine W_region (mV (.string x10.2.1) rfl ?_)
 obtain ⟨H108b,l109,s110,z111,k112⟩:=Z.borrow
 refine L_call rfl Tryz.call105 (ops2 rfl rfl) (strings_Cut_c (x_:=x10.2.1) (y_:=(⟨#[32]⟩ : ByteArray)) s110 hx106) ?_
 rintro _ w113 ⟨rfl,Z⟩
 have Z:=k112 Z c0
 refine mV (.tuple #[.string x106.1,.string x106.2.1,Bo x106.2.2]) rfl (L_ex (v:=.string x106.1) rfl rfl rfl (L_ex (v:=.string x106.2.1) rfl rfl rfl (L_ex (v:=Bo x106.2.2) rfl rfl rfl (aV (.string x106.1) rfl (aV (.string x106.2.1) rfl (aB rfl (nq ?_)))))))
 obtain ⟨x119,hx119,hA82⟩:=bind_some hA82
 refine W_region (mV (.string x106.1) rfl ?_)
 obtain ⟨H122b,l123,s124,z125,k126⟩:=Z.borrow
 refine L_call rfl Tryz.call79 (ops1 rfl) (i_number_c (s:=x106.1) s124 hx119) ?_
 rintro _ w127 ⟨rfl,Z⟩
 have Z:=k126 Z c0
 refine fA 1 fa_76_1 rfl rfl (L_stB (v:=I x119) (cs2:=#[I (max 0 x32),I x119,I 0,S0,I 0]) 0 rfl Tryz.sizeOf3 rfl rfl rfl Z rfl rfl rfl (fun w128 Z=>ns (mB rfl (nn ?_))))
 obtain ⟨g51_2_129,hA130,hA82⟩:=bind_some hA82
 obtain ⟨R130,hR130⟩:=exR fun f w_=>f 0 = .string line∧f 2 = Pt g3∧f 7 = Pt g51∧Star H w_ ([box g51 76 #[I (max 0 x32),I x119,I g51_2_129,S0,I 0],box g3 76 #[I 0,I 0,I 0,S0,I 0]])
 refine W_join R130 ?_ ?_
 refine W_cond (b:=x106.2.2) rfl (fun hc131=>?_) (fun hc131=>?_)
 have hA130:=(ite_t hc131).symm.trans hA130
 obtain ⟨x137,hx137,hA130⟩:=bind_some hA130
 refine W_region (mV (.string x106.2.1) rfl ?_)
 obtain ⟨H140b,l141,s142,z143,k144⟩:=Z.borrow
 refine L_call rfl Tryz.call79 (ops1 rfl) (i_number_c (s:=x106.2.1) s142 hx137) ?_
 rintro _ w145 ⟨rfl,Z⟩
 have Z:=k144 Z c0
 refine fA 2 fa_76_2 rfl rfl (L_stB (v:=I x137) (cs2:=#[I (max 0 x32),I x119,I x137,S0,I 0]) 0 rfl Tryz.sizeOf3 rfl rfl rfl Z rfl rfl rfl (fun w146 Z=>nn ?_))
 obtain rfl:=so hA130
 have Z:=Z.gets [2,1] rfl
 exact rj hR130 ⟨rfl,rfl,rfl,(Star.keepN 2 Z)⟩
 have hA130:=(ite_f hc131).symm.trans hA130
 refine W_skip ?_
 obtain rfl:=so hA130
 have Z:=Z.gets [2,1] rfl
 exact rj hR130 ⟨rfl,rfl,rfl,(Star.keepN 2 Z)⟩
 intro f w_ hR
 obtain ⟨sf0,sf2,sf7,Z⟩:=rk hR130 hR
 obtain ⟨rfl,rfl,rfl,rfl⟩:=so4 hA82
 have Z:=Star.addNil (R:=(OR.frz rTerm)) (e:=126) Z
 exact rj hR82 ⟨S0,sf0,sf2,sf7,Z⟩
 intro f w_ hR
 obtain ⟨v79_g51_3,sf0,sf2,sf7,Z⟩:=rk hR82 hR
 obtain ⟨rfl,rfl,rfl,rfl⟩:=so4 hA59
 exact rj hR59 ⟨v79_g51_3,sf0,sf2,sf7,Z⟩
 intro f w_ hR
 obtain ⟨v56_g51_3,sf0,sf2,sf7,Z⟩:=rk hR59 hR
 refine W_seq ?_
 obtain ⟨x154,hx154,hF⟩:=bind_some hF
 obtain ⟨b164,hb164,hF⟩:=bind_some hF
 obtain ⟨R171,hR171⟩:=exR fun f w_=>∃ H169 : FH,∃ v167_g3_3 : Value,Le H H169∧f 2 = Pt g3∧f 3 = Bo b164∧Star H169 w_ ([oF 126 rTerm v167_g3_3 g51_3_56,box g3 76 #[I (max 0 x32),I g51_1_54,I g51_2_55,v167_g3_3,I g51_4_58]])
 refine W_join R171 ?_ ?_
 rcases Bool.eq_false_or_eq_true x154 with hc172 | hc172
 rw [ite_t hc172] at hb164
 obtain ⟨x162,hx162,hb164⟩:=bind_some hb164
 refine W_drawS 10 [isV (.agg #[I (max 0 x32),I g51_1_54,I g51_2_55,v56_g51_3,I g51_4_58]),isV (.agg #[I (max 0 x32),I g51_1_54,I g51_2_55,v56_g51_3,I g51_4_58]),isV (Bo x154),isV (Bo x154),isV (.agg #[I (max 0 x32),I g51_1_54,I g51_2_55,v56_g51_3,I g51_4_58]),isV (.string x162),isV (.string line),isV (Bo (ByteArray.toList x162 == ByteArray.toList line)),isV (Bo b164),anyF] [oF 126 rTerm v56_g51_3 g51_3_56,box g51 76 #[I (max 0 x32),I g51_1_54,I g51_2_55,v56_g51_3,I g51_4_58]] [.base (box g3 76 #[I 0,I 0,I 0,S0,I 0]) (some 9),.madeN 9 [] (fun vs_=>box g3 76 #[I (max 0 x32),I g51_1_54,I g51_2_55,v56_g51_3,I g51_4_58]) none] ([]) [([],[]),([],[]),([],[]),([],[]),([],[]),([],[]),([],[]),([],[]),([],[]),([0],[1])] (S:=[(none,[],some 9),(some 9,[],none)]) Tryz_mix (by kernel_rfl) rfl (by kernel_rfl) (amF_cons (mono_V _) (amF_cons (mono_V _) (amF_cons (mono_V _) (amF_cons (mono_V _) (amF_cons (mono_V _) (amF_cons (mono_V _) (amF_cons (mono_V _) (amF_cons (mono_V _) (amF_cons (mono_V _) (amF_cons (mono_any) amF_nil)))))))))) Z ?_ (fun f w_ H166 hS166 hE166 hT166 Z=>?_)
 refine opsS_cons (fun f w_ _ _ s _ _ Z=>L_lda (cs:=[I (max 0 x32),I g51_1_54,I g51_2_55,v56_g51_3,I g51_4_58]) rfl Tryz.isAgg76 Tryz.sizeOf76 ((s 7 rfl).trans sf7) (At.sub0 (Blk.at (Star.blkAt 1 Z rfl)) 0 5) rfl (nO rfl rfl Z)) (opsS_cons (fun f w_ _ _ s _ _ Z=>L_lda (cs:=[I (max 0 x32),I g51_1_54,I g51_2_55,v56_g51_3,I g51_4_58]) rfl Tryz.isAgg76 Tryz.sizeOf76 ((s 7 rfl).trans sf7) (At.sub0 (Blk.at (Star.blkAt 1 Z rfl)) 0 5) rfl (nO rfl rfl Z)) (opsS_cons ?_ ?_))
 intro f w_ H166 X166 hS166 hE166 hP166 Z
 obtain ⟨H188b,l189,s190,z191,k192⟩:=Z.borrow
 have hb193 : (rS 126 rTerm).rel H188b [v56_g51_3] g51_3_56:=fz_own 0 z191 rfl
 refine L_call rfl Tryz.call65 (ops1 (hP166 1 51 rfl rfl)) (i_Step_writable_c (s:=({ kind:=max 0 x32,a:=g51_1_54,b:=g51_2_55,given:=({ terms:=g51_3_56,bound:=g51_4_58 } : Con) } : Step)) s190 hb193 hx154) ?_
 rintro _ w194 ⟨rfl,Z⟩
 have Z:=k192 Z c0
 exact L_nil ⟨rfl,_,_,rfl,Le.refl _,fun _ _=>rfl,Z⟩
 refine opsS_cons (fun f w_ _ _ _ _ p Z=>mF (p 2 52 rfl rfl) rfl (nO rfl rfl Z)) (opsS_cons (fun f w_ _ _ s _ p Z=>L_lda (cs:=[I (max 0 x32),I g51_1_54,I g51_2_55,v56_g51_3,I g51_4_58]) (g_yes rfl (Eq.trans (p 3 53 rfl rfl) (congrArg Value.bool hc172)) rfl) Tryz.isAgg76 Tryz.sizeOf76 ((s 7 rfl).trans sf7) (At.sub0 (Blk.at (Star.blkAt 1 Z rfl)) 0 5) rfl (nO rfl rfl Z)) (opsS_cons ?_ ?_))
 intro f w_ H166 X166 hS166 hE166 hP166 Z
 obtain ⟨H195b,l196,s197,z198,k199⟩:=Z.borrow
 have hb200 : (rS 126 rTerm).rel H195b [v56_g51_3] g51_3_56:=fz_own 0 z198 rfl
 refine L_call (g_yes rfl (Eq.trans (hP166 3 53 rfl rfl) (congrArg Value.bool hc172)) rfl) Tryz.call67 (ops1 (hP166 4 54 rfl rfl)) (i_Step_text_c (s:=({ kind:=max 0 x32,a:=g51_1_54,b:=g51_2_55,given:=({ terms:=g51_3_56,bound:=g51_4_58 } : Con) } : Step)) s197 hb200 hx162) ?_
 rintro _ w201 ⟨rfl,Z⟩
 have Z:=k199 Z c0
 exact L_nil ⟨rfl,_,_,rfl,Le.refl _,fun _ _=>rfl,Z⟩
 refine opsS_cons (fun f w_ _ _ s _ p Z=>L_mv (v:=.string line) (g_yes rfl (Eq.trans (p 3 53 rfl rfl) (congrArg Value.bool hc172)) rfl) ((s 0 rfl).trans sf0) (nO rfl rfl Z)) (opsS_cons (fun f w_ _ _ _ _ p Z=>L_seql (s:=x162) (s':=line) (g_yes rfl (Eq.trans (p 3 53 rfl rfl) (congrArg Value.bool hc172)) rfl) (p 5 55 rfl rfl) (p 6 56 rfl rfl) (nO rfl rfl Z)) (opsS_cons (fun f w_ _ _ _ _ p Z=>pkT (v:=Bo b164) (p 3 53 rfl rfl) hc172 rfl (Eq.trans (p 7 57 rfl rfl) (congrArg Value.bool (so hb164))) (nO rfl rfl Z)) (opsS_cons ?_ ?_)))
 intro f w_ H166 X166 hS166 hE166 hP166 Z
 have Z : Star H166 w_ (oF 126 rTerm v56_g51_3 g51_3_56 :: box g51 76 #[I (max 0 x32),I g51_1_54,I g51_2_55,v56_g51_3,I g51_4_58] :: box g3 76 #[I 0,I 0,I 0,S0,I 0] :: X166):=Z
 refine L_staB (vs:=#[I (max 0 x32),I g51_1_54,I g51_2_55,v56_g51_3,I g51_4_58]) (cs2:=#[I (max 0 x32),I g51_1_54,I g51_2_55,v56_g51_3,I g51_4_58]) 2 rfl Tryz.sizeOf76 ((hS166 2 rfl).trans sf2) (hP166 0 50 rfl rfl) rfl (ones_cons rfl (ones_cons rfl (ones_cons rfl (ones_cons (one_len (Star.len 0 Z rfl)) (ones_cons rfl ones_nil))))) Z rfl (by show 0 + 5≤5; decide) rfl (fun w202 Z=>?_)
 have Z:=Z.gets [2,2] rfl
 exact L_nil ⟨rfl,Bo false,_,rfl,Le.refl _,(fun _ h=>nomatch h),Z⟩
 exact opsS_nil
 have Z : Star H166 w_ ([oF 126 rTerm v56_g51_3 g51_3_56,box g51 76 #[I (max 0 x32),I g51_1_54,I g51_2_55,v56_g51_3,I g51_4_58],box g3 76 #[I (max 0 x32),I g51_1_54,I g51_2_55,v56_g51_3,I g51_4_58]]):=Z
 refine aF (hT166 8 58 rfl rfl) rfl (nn ?_)
 have Z:=Z.gets [2,1] rfl
 exact rj hR171 ⟨H166,v56_g51_3,hE166,((hS166 2 rfl).trans sf2),rfl,(Star.keepN 2 Z)⟩
 rw [ite_f hc172] at hb164
 refine W_drawS 10 [isV (.agg #[I (max 0 x32),I g51_1_54,I g51_2_55,v56_g51_3,I g51_4_58]),isV (.agg #[I (max 0 x32),I g51_1_54,I g51_2_55,v56_g51_3,I g51_4_58]),isV (Bo x154),isV (Bo x154),isV (undef),isV (undef),isV (undef),isV (undef),isV (Bo b164),anyF] [oF 126 rTerm v56_g51_3 g51_3_56,box g51 76 #[I (max 0 x32),I g51_1_54,I g51_2_55,v56_g51_3,I g51_4_58]] [.base (box g3 76 #[I 0,I 0,I 0,S0,I 0]) (some 9),.madeN 9 [] (fun vs_=>box g3 76 #[I (max 0 x32),I g51_1_54,I g51_2_55,v56_g51_3,I g51_4_58]) none] ([]) [([],[]),([],[]),([],[]),([],[]),([],[]),([],[]),([],[]),([],[]),([],[]),([0],[1])] (S:=[(none,[],some 9),(some 9,[],none)]) Tryz_mix (by kernel_rfl) rfl (by kernel_rfl) (amF_cons (mono_V _) (amF_cons (mono_V _) (amF_cons (mono_V _) (amF_cons (mono_V _) (amF_cons (mono_V _) (amF_cons (mono_V _) (amF_cons (mono_V _) (amF_cons (mono_V _) (amF_cons (mono_V _) (amF_cons (mono_any) amF_nil)))))))))) Z ?_ (fun f w_ H166 hS166 hE166 hT166 Z=>?_)
 refine opsS_cons (fun f w_ _ _ s _ _ Z=>L_lda (cs:=[I (max 0 x32),I g51_1_54,I g51_2_55,v56_g51_3,I g51_4_58]) rfl Tryz.isAgg76 Tryz.sizeOf76 ((s 7 rfl).trans sf7) (At.sub0 (Blk.at (Star.blkAt 1 Z rfl)) 0 5) rfl (nO rfl rfl Z)) (opsS_cons (fun f w_ _ _ s _ _ Z=>L_lda (cs:=[I (max 0 x32),I g51_1_54,I g51_2_55,v56_g51_3,I g51_4_58]) rfl Tryz.isAgg76 Tryz.sizeOf76 ((s 7 rfl).trans sf7) (At.sub0 (Blk.at (Star.blkAt 1 Z rfl)) 0 5) rfl (nO rfl rfl Z)) (opsS_cons ?_ ?_))
 intro f w_ H166 X166 hS166 hE166 hP166 Z
 obtain ⟨H211b,l212,s213,z214,k215⟩:=Z.borrow
 have hb216 : (rS 126 rTerm).rel H211b [v56_g51_3] g51_3_56:=fz_own 0 z214 rfl
 refine L_call rfl Tryz.call65 (ops1 (hP166 1 51 rfl rfl)) (i_Step_writable_c (s:=({ kind:=max 0 x32,a:=g51_1_54,b:=g51_2_55,given:=({ terms:=g51_3_56,bound:=g51_4_58 } : Con) } : Step)) s213 hb216 hx154) ?_
 rintro _ w217 ⟨rfl,Z⟩
 have Z:=k215 Z c0
 exact L_nil ⟨rfl,_,_,rfl,Le.refl _,fun _ _=>rfl,Z⟩
 refine opsS_cons (fun f w_ _ _ _ _ p Z=>mF (p 2 52 rfl rfl) rfl (nO rfl rfl Z)) (oP (fun _ _ p=>gN (p 3 53 rfl rfl) hc172 rfl) (fun _=>rfl) (oP (fun _ _ p=>gN (p 3 53 rfl rfl) hc172 rfl) (fun _=>rfl) (oP (fun _ _ p=>gN (p 3 53 rfl rfl) hc172 rfl) (fun _=>rfl) (oP (fun _ _ p=>gN (p 3 53 rfl rfl) hc172 rfl) (fun _=>rfl) (opsS_cons (fun f w_ _ _ _ _ p Z=>pkT (v:=Bo b164) (p 3 53 rfl rfl) hc172 rfl (congrArg Value.bool (so hb164)) (nO rfl rfl Z)) (opsS_cons ?_ ?_))))))
 intro f w_ H166 X166 hS166 hE166 hP166 Z
 have Z : Star H166 w_ (oF 126 rTerm v56_g51_3 g51_3_56 :: box g51 76 #[I (max 0 x32),I g51_1_54,I g51_2_55,v56_g51_3,I g51_4_58] :: box g3 76 #[I 0,I 0,I 0,S0,I 0] :: X166):=Z
 refine L_staB (vs:=#[I (max 0 x32),I g51_1_54,I g51_2_55,v56_g51_3,I g51_4_58]) (cs2:=#[I (max 0 x32),I g51_1_54,I g51_2_55,v56_g51_3,I g51_4_58]) 2 rfl Tryz.sizeOf76 ((hS166 2 rfl).trans sf2) (hP166 0 50 rfl rfl) rfl (ones_cons rfl (ones_cons rfl (ones_cons rfl (ones_cons (one_len (Star.len 0 Z rfl)) (ones_cons rfl ones_nil))))) Z rfl (by show 0 + 5≤5; decide) rfl (fun w218 Z=>?_)
 have Z:=Z.gets [2,2] rfl
 exact L_nil ⟨rfl,Bo false,_,rfl,Le.refl _,(fun _ h=>nomatch h),Z⟩
 exact opsS_nil
 have Z : Star H166 w_ ([oF 126 rTerm v56_g51_3 g51_3_56,box g51 76 #[I (max 0 x32),I g51_1_54,I g51_2_55,v56_g51_3,I g51_4_58],box g3 76 #[I (max 0 x32),I g51_1_54,I g51_2_55,v56_g51_3,I g51_4_58]]):=Z
 refine aF (hT166 8 58 rfl rfl) rfl (nn ?_)
 have Z:=Z.gets [2,1] rfl
 exact rj hR171 ⟨H166,v56_g51_3,hE166,((hS166 2 rfl).trans sf2),rfl,(Star.keepN 2 Z)⟩
 intro f w_ hR
 obtain ⟨H169,v167_g3_3,l170,sf2,sf3,Z⟩:=rk hR171 hR
 refine W_ret (retG2 (v1:=.agg #[I (max 0 x32),I g51_1_54,I g51_2_55,v167_g3_3,I g51_4_58]) (v2:=Bo b164) Tryz.results58 (resV_agg Tryz.isAgg76 Tryz.sizeOf76 sf2 (Star.blkAt 1 Z rfl) rfl) sf3 ?_)
 obtain rfl:=so hF
 exact ⟨v167_g3_3,rfl,(Star.down (Star.keepN 1 Z) l170 (co closed_term c0))⟩
theorem i_ParseProof_c {fu : Nat} {text : ByteArray} {H : FH} {w : World} (Z : Star H w []) {r : (List Step) × Bool} (hF : i_ParseProof fu text = some r) :
 C Tryz.prog 20 #[.string text] w fun v w'=>∃ (u1 : Value),v = .tuple #[u1,Bo r.2]∧Star H w' [oS 76 (oStep 126) u1 r.1]:=by
 unfold i_ParseProof at hF
 refine C_enter Tryz.func20 rfl Tryz.ntmps20 rfl (sq (aV S0 rfl (aB rfl (nq ?_))))
 obtain ⟨x1,hx1,hF⟩:=bind_some hF
 refine W_region (mV (.string text) rfl (L_call rfl Tryz.call32 (ops2 rfl rfl) (i_linesOf_c (text:=text) (most:=1000) Z hx1) ?_))
 rintro _ w3 ⟨H3,l3,r3_0,rfl,hr3_0,Z⟩
 refine mV (.tuple #[r3_0,Bo x1.2]) rfl (L_ex (v:=r3_0) rfl rfl rfl (L_ex (v:=Bo x1.2) rfl rfl rfl (aV r3_0 rfl (aB rfl (nq (sq (mB rfl (L_not_ rfl rfl (nn (W_cond (b:=(!x1.2)) rfl (fun hc4=>?_) (fun hc4=>?_)))))))))))
 have hF:=(ite_t hc4).symm.trans hF
 refine sq (aV S0 rfl (aB rfl (nn (W_ret (retG2 (v1:=S0) (v2:=Bo false) Tryz.results20 rfl rfl ?_)))))
 obtain rfl:=so hF
 have Z:=Star.addNil (R:=(oStep 126)) (e:=76) Z
 exact ⟨S0,rfl,(Star.down Z l3 (co closed_oStep c0))⟩
 have hF:=(ite_f hc4).symm.trans hF
 refine W_skip (sq (aV S0 rfl (nq (sq (mV r3_0 rfl (L_len rfl Tryz.underlying44 rfl (slice_len hr3_0) (mI rfl (nn ?_))))))))
 have hlen9 : List.length x1.1≤9223372036854775807:=len_le (slice_len hr3_0)
 obtain ⟨j9,hL9,hF⟩:=bind_some hF
 obtain ⟨R9,hR9⟩:=exR fun f w_=>∃ steps_7 : List Step,∃ v7_steps : Value,j9 = .nx steps_7∧f 6 = v7_steps∧Star H3 w_ ([oS 76 (oStep 126) v7_steps steps_7])
 refine W_join R9 ?_ ?_
 refine W_block ?_
 obtain ⟨I9,hI9⟩:=exI fun n f w_=>∃ i_6 : Nat,∃ suf9 : List ByteArray,∃ steps_7 : List Step,∃ v7_steps : Value,n = suf9.length∧List.drop i_6 x1.1 = suf9∧i_6 + suf9.length = x1.1.length∧rangeL (i_ParseProof_b1 fu) suf9 i_6 steps_7 = some j9∧f 6 = v7_steps∧f 18 = r3_0∧f 19 = I (x1.1.length : Int)∧f 20 = I i_6∧Star H3 w_ ([oS 76 (oStep 126) v7_steps steps_7])
 have Z:=Star.addNil (R:=(oStep 126)) (e:=76) Z
 refine W_loop I9 (n:=x1.1.length) ?_ ?_
 exact ij hI9 ⟨0,x1.1,[],S0,rfl,rfl,Nat.zero_add _,hL9,rfl,rfl,rfl,rfl,Z⟩
 intro n9 f w_ hI
 obtain ⟨i_6,suf9,steps_7,v7_steps,rfl,hd9,hl9,hL9,sf6,sf18,sf19,sf20,Z⟩:=ik hI9 hI
 refine sq (L_lss rfl sf20 sf19 (nq (W_cond (b:=decide ((i_6 : Int) < (x1.1.length : Int))) rfl (fun hc11=>?_) (fun hc11=>?_))))
 have hlt9:=of_decide_eq_true hc11
 rcases suf9 with _ | ⟨x_9,rest9⟩
 exact absurd hlt9 (by simp at hl9; omega)
 obtain ⟨o9,hB9,hL9⟩:=range_cons hL9
 rw [i_ParseProof_b1] at hB9
 have hix9:=drop_idx hd9
 refine W_skip (W_seq (W_block (sq (L_ix (r:=RP.str) rfl Tryz.underlying44 Tryz.sizeOf9 sf18 hr3_0 sf20 hix9 (fun g16 o17 cs_g16 hrk_hat18 hat18=>?_)))))
 obtain rfl : _ = [_]:=hrk_hat18
 refine L_ld rfl Tryz.isAgg9 rfl (At.cell (AtH.at hat18 Z.sub) (j:=0) rfl) (aV (.string x_9) rfl (nq ?_))
 obtain ⟨x25,hx25,hB9⟩:=bind_some hB9
 refine W_region (mV (.string x_9) rfl ?_)
 obtain ⟨H31b,l32,s33,z34,k35⟩:=Z.borrow
 refine L_call rfl Tryz.call58 (ops1 rfl) (i_readStep_c (line:=x_9) s33 hx25) ?_
 rintro _ w36 ⟨r36_0,rfl,Z⟩
 have Z:=k35 Z (co closed_term c0)
 refine mV (.tuple #[.agg #[I x25.1.kind,I x25.1.a,I x25.1.b,r36_0,I x25.1.given.bound],Bo x25.2]) rfl (L_ex (v:=.agg #[I x25.1.kind,I x25.1.a,I x25.1.b,r36_0,I x25.1.given.bound]) rfl rfl rfl (L_ex (v:=Bo x25.2) rfl rfl rfl (L_al (cs:=#[I 0,I 0,I 0,S0,I 0]) rfl Tryz.zeroValue76 rfl Z (fun g38 w39 Z=>L_staB (vs:=#[I x25.1.kind,I x25.1.a,I x25.1.b,r36_0,I x25.1.given.bound]) (cs2:=#[I x25.1.kind,I x25.1.a,I x25.1.b,r36_0,I x25.1.given.bound]) 0 rfl Tryz.sizeOf76 rfl rfl rfl (ones_cons rfl (ones_cons rfl (ones_cons rfl (ones_cons (one_len (Star.len 1 Z rfl)) (ones_cons rfl ones_nil))))) Z rfl (by show 0 + 5≤5; decide) rfl (fun w40 Z=>aB rfl (nq (sq (mB rfl (L_not_ rfl rfl (nn (W_cond (b:=(!x25.2)) rfl (fun hc41=>?_) (fun hc41=>?_))))))))))))
 have hB9:=(ite_t hc41).symm.trans hB9
 refine sq (aV S0 rfl (aB rfl (nn (W_ret (retG2 (v1:=S0) (v2:=Bo false) Tryz.results20 rfl rfl ?_)))))
 obtain rfl:=so hB9
 obtain rfl:=so hL9
 obtain rfl:=so hF
 have Z:=Star.addNil (R:=(oStep 126)) (e:=76) Z
 exact ⟨S0,rfl,(Star.down (Star.keepN 1 Z) l3 (co closed_oStep c0))⟩
 have hB9:=(ite_f hc41).symm.trans hB9
 refine W_skip ?_
 obtain ⟨x46,hx46,hB9⟩:=bind_some hB9
 refine W_region (mF sf6 rfl (L_lda (cs:=[I x25.1.kind,I x25.1.a,I x25.1.b,r36_0,I x25.1.given.bound]) rfl Tryz.isAgg76 Tryz.sizeOf76 rfl (At.sub0 (Blk.at (Star.blkAt 0 Z rfl)) 0 5) rfl (L_bs rfl (parts1 rfl) (bs_37_1_5 (I x25.1.kind) (I x25.1.a) (I x25.1.b) (r36_0) (I x25.1.given.bound) ) Z (fun g50 w51 Z=>?_))))
 have Z:=Z.get 2 rfl
 have Z:=oStep_close (s:=x25.1) Z
 have Z:=Star.mkRow (R:=(oStep 126)) [([I x25.1.kind,I x25.1.a,I x25.1.b,r36_0,I x25.1.given.bound],x25.1)] [x25.1] 1 Z rfl rfl rfl (by decide)
 have Z:=Z.get 2 rfl
 refine L_appM (v:=v7_steps) (u:=(Sl g50 1 1)) rfl et_37 rfl rfl Z hx46 (fun v53 w54 Z=>aV v53 rfl (nn (W_region (L_add rfl sf20 rfl (mI rfl (nn ?_))))))
 obtain rfl:=so hB9
 show ∃ m,m < _∧I9 m _ _
 refine ⟨rest9.length,by simp,?_⟩
 exact ij hI9 ⟨i_6 + 1,rest9,x46,v53,rfl,drop_next hd9,by simp at hl9; omega,hL9,rfl,sf18,sf19,(Eq.trans rfl (congrArg (Value.int .i64) (i64_succ (n:=x1.1.length) (by simp at hl9; omega) hlen9))),(Star.keepN 1 Z)⟩
 rcases suf9 with _ | ⟨_,_⟩
 obtain rfl:=range_nil hL9
 refine W_exit (rj hR9 ⟨steps_7,v7_steps,rfl,sf6,Z⟩)
 exact absurd (of_decide_eq_false hc11) (by simp at hl9; omega)
 intro f w_ hR
 obtain ⟨steps_7,v7_steps,rfl,sf6,Z⟩:=rk hR9 hR
 refine sq (mF sf6 rfl (aV v7_steps rfl (aB rfl (nn (W_ret (retG2 (v1:=v7_steps) (v2:=Bo true) Tryz.results20 rfl rfl ?_))))))
 obtain rfl:=so hF
 exact ⟨v7_steps,rfl,(Star.down Z l3 (co closed_oStep c0))⟩
theorem s_l1Total_c {c : Con} {v0_0 : Value} {H : FH} {w : World} (Z : Star H w []) (h0_0 : (rS 126 rTerm).rel H [v0_0] c.terms) {r : Int} (hF : s_l1Total c = some r) :
 C Tryz.prog 161 #[.agg #[v0_0,I c.bound]] w fun v w'=>v = I r∧Star H w' []:=by
 unfold s_l1Total at hF
 refine C_enter Tryz.func161 rfl Tryz.ntmps161 rfl (sq (L_box (v:=.agg #[v0_0,I c.bound]) (cs:=#[v0_0,I c.bound]) rfl rfl rfl Z (fun g3 w4 Z=>aI rfl (ns (aI rfl (nq (sq (aI rfl (nn ?_)))))))))
 have hlen7 : List.length c.terms≤9223372036854775807:=len_le (slice_len h0_0)
 obtain ⟨j7,hL7,hF⟩:=bind_some hF
 obtain ⟨R7,hR7⟩:=exR fun f w_=>∃ n_6 : Int,j7 = .nx n_6∧f 3 = I n_6∧Star H w_ ([])
 refine W_join R7 ?_ ?_
 refine W_block ?_
 obtain ⟨I7,hI7⟩:=exI fun n f w_=>∃ i_5 : Nat,∃ suf7 : List Term,∃ n_6 : Int,n = suf7.length∧List.drop i_5 c.terms = suf7∧i_5 + suf7.length = c.terms.length∧rangeL s_l1Total_b1 suf7 i_5 n_6 = some j7∧f 1 = Pt g3∧f 3 = I n_6∧f 4 = I i_5∧Star H w_ ([box g3 74 #[v0_0,I c.bound]])
 refine W_loop I7 (n:=c.terms.length) ?_ ?_
 exact ij hI7 ⟨0,c.terms,0,rfl,rfl,Nat.zero_add _,hL7,rfl,rfl,rfl,Z⟩
 intro n7 f w_ hI
 obtain ⟨i_5,suf7,n_6,rfl,hd7,hl7,hL7,sf1,sf3,sf4,Z⟩:=ik hI7 hI
 refine W_seq (sq (mF sf4 rfl (fA 0 fa_74_0 sf1 rfl (ldB 0 Z Tryz.isAgg72 rfl rfl rfl (L_len rfl Tryz.underlying72 rfl (slice_len h0_0) (L_lss rfl rfl rfl (nn (W_cond (b:=decide ((i_5 : Int) < (c.terms.length : Int))) rfl (fun hc8=>?_) (fun hc8=>?_)))))))))
 have hlt7:=of_decide_eq_true hc8
 rcases suf7 with _ | ⟨x_7,rest7⟩
 exact absurd hlt7 (by simp at hl7; omega)
 obtain ⟨o7,hB7,hL7⟩:=range_cons hL7
 rw [s_l1Total_b1] at hB7
 have hix7:=drop_idx hd7
 refine W_skip (W_seq (W_block (W_region (mF sf3 rfl (fA 0 fa_74_0 sf1 rfl (ldB 0 Z Tryz.isAgg72 rfl rfl rfl (mF sf4 rfl (L_ix (r:=rTerm) rfl Tryz.underlying72 Tryz.sizeOf126 rfl h0_0 rfl hix7 (fun g13 o14 cs_g13 hrk_hat15 hat15=>?_)))))))))
 obtain rfl:=rTerm_iff.1 hrk_hat15
 refine fA o14 fa_126_0 rfl rfl (L_ld rfl Tryz.isAgg3 rfl (At.cell (AtH.at hat15 Z.sub) (j:=0) rfl) (L_add rfl rfl rfl (aI rfl (nn (W_region (mF sf4 rfl (L_add rfl rfl rfl (aI rfl (nn ?_)))))))))
 obtain rfl:=so hB7
 show ∃ m,m < _∧I7 m _ _
 refine ⟨rest7.length,by simp,?_⟩
 exact ij hI7 ⟨i_5 + 1,rest7,i64 (n_6 + x_7.coef),rfl,drop_next hd7,by simp at hl7; omega,hL7,sf1,rfl,(Eq.trans rfl (congrArg (Value.int .i64) (i64_succ (n:=c.terms.length) (by simp at hl7; omega) hlen7))),Z⟩
 rcases suf7 with _ | ⟨_,_⟩
 obtain rfl:=range_nil hL7
 refine W_exit (rj hR7 ⟨n_6,rfl,sf3,(Star.keepN 0 Z)⟩)
 exact absurd (of_decide_eq_false hc8) (by simp at hl7; omega)
 intro f w_ hR
 obtain ⟨n_6,rfl,sf3,Z⟩:=rk hR7 hR
 refine sq (mF sf3 rfl (aI rfl (nn (W_ret (retG1 (v1:=I n_6) Tryz.results161 rfl ?_)))))
 obtain rfl:=so hF
 exact ⟨rfl,Z⟩
theorem s_l1Draw_c {r_ : Rd} {most : Int} {g_0 : Nat} {v0_0 : Value} {H : FH} {w : World} (Z : Star H w [box g_0 117 #[v0_0,I r_.p]]) (h0_0 : (rS 5 RP.u8).rel H [v0_0] r_.b) {r : Con × Int} (hF : s_l1Draw r_ most = some r) :
 C Tryz.prog 143 #[Pt g_0,I most] w fun v w'=>∃ (u1 : Value),v = .agg #[u1,I r.1.bound]∧Star H w' [oF 126 rTerm u1 r.1.terms,box g_0 117 #[v0_0,I r.2]]:=by
 unfold s_l1Draw at hF
 refine C_enter Tryz.func143 rfl Tryz.ntmps143 rfl (sq (L_al (cs:=#[S0,I 0]) rfl Tryz.zeroValue74 rfl Z (fun g3 w4 Z=>ns (L_bld rfl (parts0 ) (bld_74_  ) (L_al (cs:=#[S0,I 0]) rfl Tryz.zeroValue74 rfl Z (fun g8 w9 Z=>L_staB (vs:=#[S0,I 0]) (cs2:=#[S0,I 0]) 0 rfl Tryz.sizeOf74 rfl rfl rfl (ones_cons rfl (ones_cons rfl ones_nil)) Z rfl (by show 0 + 2≤2; decide) rfl (fun w10 Z=>nq (sq (aI rfl (nn ?_))))))))))
 obtain ⟨k16,hk16,hF⟩:=bind_some hF
 obtain ⟨j15,hL15,hF⟩:=bind_some hF
 obtain ⟨R15,hR15⟩:=exR fun f w_=>∃ g_0_1_12 : Int,∃ g8_0_13 : List Term,∃ v13_g8_0 : Value,j15 = .nx (g_0_1_12,g8_0_13)∧f 0 = Pt g_0∧f 4 = Pt g3∧f 5 = Pt g8∧Star H w_ ([box g_0 117 #[v0_0,I g_0_1_12],oF 126 rTerm v13_g8_0 g8_0_13,box g8 74 #[v13_g8_0,I 0],box g3 74 #[S0,I 0]])
 refine W_join R15 ?_ ?_
 refine W_block ?_
 obtain ⟨I15,hI15⟩:=exI fun n f w_=>∃ i_11 : Nat,∃ suf15 : Nat,∃ g_0_1_12 : Int,∃ g8_0_13 : List Term,∃ v13_g8_0 : Value,suf15 = n∧1≤i_11∧i_11 + suf15 = 1 + k16∧countL (s_l1Draw_b1 r_) suf15 i_11 (g_0_1_12,g8_0_13) = some j15∧f 0 = Pt g_0∧f 1 = I most∧f 4 = Pt g3∧f 5 = Pt g8∧f 6 = I i_11∧Star H w_ ([box g_0 117 #[v0_0,I g_0_1_12],oF 126 rTerm v13_g8_0 g8_0_13,box g8 74 #[v13_g8_0,I 0],box g3 74 #[S0,I 0]])
 have Z:=Star.addNil (R:=(OR.frz rTerm)) (e:=126) Z
 have Z:=Z.gets [2,2,2,3] rfl
 refine W_loop I15 (n:=k16) ?_ ?_
 exact ij hI15 ⟨1,k16,r_.p,[],S0,rfl,Nat.le_refl _,rfl,hL15,rfl,rfl,rfl,rfl,rfl,Z⟩
 intro n15 f w_ hI
 obtain ⟨i_11,suf15,g_0_1_12,g8_0_13,v13_g8_0,rfl,hs15,hl15,hL15,sf0,sf1,sf4,sf5,sf6,Z⟩:=ik hI15 hI
 refine W_seq (sq (mF sf6 rfl (mF sf1 rfl (L_leq rfl rfl rfl (nn (W_cond (b:=decide ((i_11 : Int)≤most)) rfl (fun hc18=>?_) (fun hc18=>?_)))))))
 have hlt15:=of_decide_eq_true hc18
 rcases suf15 with _ | rest15
 exact absurd hlt15 (cntF_noL hl15 hk16)
 obtain ⟨o15,hB15,hL15⟩:=count_succ hL15
 rw [s_l1Draw_b1] at hB15
 refine W_skip (W_seq (W_block (W_seq ?_)))
 obtain ⟨x24,hx24,hB15⟩:=bind_some hB15
 refine W_region (mF sf0 rfl ?_)
 obtain ⟨H26b,l27,s28,z29,k30⟩:=Z.lend [_]
 refine L_call rfl Tryz.call63 (ops2 rfl rfl) (s_l17Rd_pick_c (r_:=({ b:=r_.b,p:=g_0_1_12 } : Rd)) (n_:=2) s28 (RP.mono _ h0_0 l27) hx24) ?_
 rintro _ w31 ⟨rfl,Z⟩
 have Z:=k30 Z (cb c0)
 refine L_eql rfl rfl rfl (nn ?_)
 obtain ⟨⟨g_0_1_32,g8_0_33⟩,hA35,hB15⟩:=bind_some hB15
 obtain ⟨R35,hR35⟩:=exR fun f w_=>∃ v33_g8_0 : Value,f 0 = Pt g_0∧f 1 = I most∧f 4 = Pt g3∧f 5 = Pt g8∧f 6 = I i_11∧Star H w_ ([box g_0 117 #[v0_0,I g_0_1_32],oF 126 rTerm v33_g8_0 g8_0_33,box g8 74 #[v33_g8_0,I 0],box g3 74 #[S0,I 0]])
 refine W_join R35 ?_ ?_
 refine W_cond (b:=(x24.1 == 0)) rfl (fun hc36=>?_) (fun hc36=>?_)
 have hA35:=(ite_t hc36).symm.trans hA35
 refine W_seq ?_
 obtain ⟨x46,hx46,hA35⟩:=bind_some hA35
 refine W_region (mF sf0 rfl (L_bs rfl (parts7 rfl rfl rfl rfl rfl rfl rfl) (bs_22_7_0_0_0_0_0_0_0 (I 1) (I 1) (I 2) (I 3) (I 1) (I 5) (I 4) rfl rfl rfl rfl rfl rfl rfl) Z (fun g51 w52 Z=>?_)))
 have Z:=litInts [1,1,2,3,1,5,4] 7 Z rfl rfl (by decide)
 have Z:=Z.get 1 rfl
 obtain ⟨H54b,l55,s56,z57,k58⟩:=Z.lend [_]
 have hb59 : (rS 3 RP.int).rel H54b [(Sl g51 7 7)] ([1,1,2,3,1,5,4]):=fz_own 0 z57 rfl
 refine L_call rfl Tryz.call64 (ops2 rfl rfl) (s_l17Rd_num_c (r_:=({ b:=r_.b,p:=x24.2 } : Rd)) (list:=[1,1,2,3,1,5,4]) s56 (RP.mono _ h0_0 l55) hb59 hx46) ?_
 rintro _ w60 ⟨rfl,Z⟩
 have Z:=k58 Z (cb c0)
 refine mF sf6 rfl (L_bld rfl (parts2 rfl rfl) (bld_126_0_1 (I x46.1) (I i_11) rfl rfl) (L_al (cs:=#[I 0,I 0]) rfl Tryz.zeroValue126 rfl Z (fun g61 w62 Z=>L_staB (vs:=#[I x46.1,I i_11]) (cs2:=#[I x46.1,I i_11]) 0 rfl Tryz.sizeOf126 rfl rfl rfl (ones_cons rfl (ones_cons rfl ones_nil)) Z rfl (by show 0 + 2≤2; decide) rfl (fun w63 Z=>nq (W_seq ?_)))))
 obtain ⟨x69,hx69,hA35⟩:=bind_some hA35
 refine W_region (mF sf0 rfl ?_)
 have Z:=Z.get 1 rfl
 obtain ⟨H71b,l72,s73,z74,k75⟩:=Z.lend [_]
 refine L_call rfl Tryz.call63 (ops2 rfl rfl) (s_l17Rd_pick_c (r_:=({ b:=r_.b,p:=x46.2 } : Rd)) (n_:=2) s73 (RP.mono _ h0_0 l72) hx69) ?_
 rintro _ w76 ⟨rfl,Z⟩
 have Z:=k75 Z (cb c0)
 refine L_eql rfl rfl rfl (nn ?_)
 obtain ⟨g61_1_77,hA78,hA35⟩:=bind_some hA35
 obtain ⟨R78,hR78⟩:=exR fun f w_=>f 0 = Pt g_0∧f 1 = I most∧f 4 = Pt g3∧f 5 = Pt g8∧f 6 = I i_11∧f 7 = Pt g61∧Star H w_ ([box g_0 117 #[v0_0,I x69.2],box g61 126 #[I x46.1,I g61_1_77],oF 126 rTerm v13_g8_0 g8_0_13,box g8 74 #[v13_g8_0,I 0],box g3 74 #[S0,I 0]])
 refine W_join R78 ?_ ?_
 refine W_cond (b:=(x69.1 == 0)) rfl (fun hc79=>?_) (fun hc79=>?_)
 have hA78:=(ite_t hc79).symm.trans hA78
 refine W_region (mF sf6 rfl (L_neg rfl rfl (fA 1 fa_126_1 rfl rfl (L_stB (v:=I (i64 (-(i_11 : Int)))) (cs2:=#[I x46.1,I (i64 (-(i_11 : Int)))]) 1 rfl Tryz.sizeOf3 rfl rfl rfl Z rfl rfl rfl (fun w81 Z=>nn ?_)))))
 obtain rfl:=so hA78
 have Z:=Z.gets [5,5,5,3,4] rfl
 exact rj hR78 ⟨sf0,sf1,sf4,sf5,sf6,rfl,(Star.keepN 5 Z)⟩
 have hA78:=(ite_f hc79).symm.trans hA78
 refine W_skip ?_
 obtain rfl:=so hA78
 have Z:=Z.gets [5,5,5,4,4] rfl
 exact rj hR78 ⟨sf0,sf1,sf4,sf5,sf6,rfl,(Star.keepN 5 Z)⟩
 intro f w_ hR
 obtain ⟨sf0,sf1,sf4,sf5,sf6,sf7,Z⟩:=rk hR78 hR
 obtain ⟨x85,hx85,hA35⟩:=bind_some hA35
 refine W_region (fA 0 fa_74_0 sf5 rfl (ldB 3 Z Tryz.isAgg72 rfl rfl rfl (L_lda (cs:=[I x46.1,I g61_1_77]) rfl Tryz.isAgg126 Tryz.sizeOf126 sf7 (At.sub0 (Blk.at (Star.blkAt 1 Z rfl)) 0 2) rfl (L_bs rfl (parts1 rfl) (bs_72_1_2 (I x46.1) (I g61_1_77) ) Z (fun g90 w91 Z=>?_)))))
 have Z:=Star.addF (r:=rTerm) (cs:=[I x46.1,I g61_1_77]) (x:=({ coef:=x46.1,lit:=g61_1_77 } : Term)) Z (rTerm_iff.2 rfl)
 have Z:=Star.mkRow (R:=(OR.frz rTerm)) [([I x46.1,I g61_1_77],({ coef:=x46.1,lit:=g61_1_77 } : Term))] [({ coef:=x46.1,lit:=g61_1_77 } : Term)] 1 Z rfl rfl rfl (by decide)
 have Z:=Z.get 3 rfl
 refine L_appM (v:=v13_g8_0) (u:=(Sl g90 1 1)) rfl et_72 rfl rfl Z hx85 (fun v93 w94 Z=>fA 0 fa_74_0 sf5 rfl (L_stB (v:=v93) (cs2:=#[v93,I 0]) 3 rfl Tryz.sizeOf72 rfl rfl (one_len (Star.len 0 Z rfl)) Z rfl rfl rfl (fun w96 Z=>nn ?_)))
 obtain ⟨rfl,rfl⟩:=so2 hA35
 have Z:=Z.gets [4,1,2,3] rfl
 exact rj hR35 ⟨v93,sf0,sf1,sf4,sf5,sf6,(Star.keepN 4 Z)⟩
 have hA35:=(ite_f hc36).symm.trans hA35
 refine W_skip ?_
 obtain ⟨rfl,rfl⟩:=so2 hA35
 exact rj hR35 ⟨v13_g8_0,sf0,sf1,sf4,sf5,sf6,Z⟩
 intro f w_ hR
 obtain ⟨v33_g8_0,sf0,sf1,sf4,sf5,sf6,Z⟩:=rk hR35 hR
 refine W_region (mF sf6 rfl (L_add rfl rfl rfl (aI rfl (nn ?_))))
 obtain rfl:=so hB15
 show ∃ m,m < _∧I15 m _ _
 refine ⟨rest15,Nat.lt_succ_self _,?_⟩
 exact ij hI15 ⟨i_11 + 1,rest15,g_0_1_32,g8_0_33,v33_g8_0,rfl,by omega,by omega,hL15,sf0,sf1,sf4,sf5,(Eq.trans rfl (congrArg (Value.int .i64) (i64_succ (n:=1 + k16) (by omega) (cntF_le hk16)))),Z⟩
 rcases suf15 with _ | _
 obtain rfl:=count_zero hL15
 refine W_exit (rj hR15 ⟨g_0_1_12,g8_0_13,v13_g8_0,rfl,sf0,sf4,sf5,Z⟩)
 exact absurd (cntF_yesL hs15 hl15 hk16) (of_decide_eq_false hc18)
 intro f w_ hR
 obtain ⟨g_0_1_12,g8_0_13,v13_g8_0,rfl,sf0,sf4,sf5,Z⟩:=rk hR15 hR
 refine W_seq ?_
 obtain ⟨x103,hx103,hF⟩:=bind_some hF
 refine W_region (L_lda (cs:=[v13_g8_0,I 0]) rfl Tryz.isAgg74 Tryz.sizeOf74 sf5 (At.sub0 (Blk.at (Star.blkAt 2 Z rfl)) 0 2) rfl ?_)
 obtain ⟨H105b,l106,s107,z108,k109⟩:=Z.borrow
 have hb110 : (rS 126 rTerm).rel H105b [v13_g8_0] g8_0_13:=fz_own 1 z108 rfl
 refine L_call rfl Tryz.call161 (ops1 rfl) (s_l1Total_c (c:=({ terms:=g8_0_13,bound:=0 } : Con)) s107 hb110 hx103) ?_
 rintro _ w111 ⟨rfl,Z⟩
 have Z:=k109 Z c0
 refine aI rfl (nq ?_)
 obtain ⟨x121,hx121,hF⟩:=bind_some hF
 refine W_region (mF sf0 rfl (L_bs rfl (parts5 rfl rfl rfl rfl rfl) (bs_22_5_0_0_0_0_0 (I 1) (I 2) (I 1) (I 3) (I 0) rfl rfl rfl rfl rfl) Z (fun g124 w125 Z=>?_)))
 have Z:=litInts [1,2,1,3,0] 5 Z rfl rfl (by decide)
 have Z:=Z.get 1 rfl
 obtain ⟨H127b,l128,s129,z130,k131⟩:=Z.lend [_]
 have hb132 : (rS 3 RP.int).rel H127b [(Sl g124 5 5)] ([1,2,1,3,0]):=fz_own 0 z130 rfl
 refine L_call rfl Tryz.call64 (ops2 rfl rfl) (s_l17Rd_num_c (r_:=({ b:=r_.b,p:=g_0_1_12 } : Rd)) (list:=[1,2,1,3,0]) s129 (RP.mono _ h0_0 l128) hb132 hx121) ?_
 rintro _ w133 ⟨rfl,Z⟩
 have Z:=k131 Z (cb c0)
 refine fA 1 fa_74_1 sf5 rfl (L_stB (v:=I x121.1) (cs2:=#[v13_g8_0,I x121.1]) 3 rfl Tryz.sizeOf3 rfl rfl rfl Z rfl rfl rfl (fun w134 Z=>nq (W_seq ?_)))
 obtain ⟨x140,hx140,hF⟩:=bind_some hF
 refine W_region (mF sf0 rfl ?_)
 have Z:=Z.get 1 rfl
 obtain ⟨H142b,l143,s144,z145,k146⟩:=Z.lend [_]
 refine L_call rfl Tryz.call63 (ops2 rfl rfl) (s_l17Rd_pick_c (r_:=({ b:=r_.b,p:=x121.2 } : Rd)) (n_:=4) s144 (RP.mono _ h0_0 l143) hx140) ?_
 rintro _ w147 ⟨rfl,Z⟩
 have Z:=k146 Z (cb c0)
 refine L_eql rfl rfl rfl (nn ?_)
 obtain ⟨⟨g_0_1_148,g8_1_149⟩,hA150,hF⟩:=bind_some hF
 obtain ⟨R150,hR150⟩:=exR fun f w_=>f 4 = Pt g3∧f 5 = Pt g8∧Star H w_ ([box g_0 117 #[v0_0,I g_0_1_148],oF 126 rTerm v13_g8_0 g8_0_13,box g8 74 #[v13_g8_0,I g8_1_149],box g3 74 #[S0,I 0]])
 refine W_join R150 ?_ ?_
 refine W_cond (b:=(x140.1 == 0)) rfl (fun hc151=>?_) (fun hc151=>?_)
 have hA150:=(ite_t hc151).symm.trans hA150
 obtain ⟨x157,hx157,hA150⟩:=bind_some hA150
 refine W_region (mF sf0 rfl (mI rfl (L_add rfl rfl rfl ?_)))
 obtain ⟨H160b,l161,s162,z163,k164⟩:=Z.lend [_]
 refine L_call rfl Tryz.call63 (ops2 rfl rfl) (s_l17Rd_pick_c (r_:=({ b:=r_.b,p:=x140.2 } : Rd)) (n_:=i64 (x103 + 2)) s162 (RP.mono _ h0_0 l161) hx157) ?_
 rintro _ w165 ⟨rfl,Z⟩
 have Z:=k164 Z (cb c0)
 refine fA 1 fa_74_1 sf5 rfl (L_stB (v:=I x157.1) (cs2:=#[v13_g8_0,I x157.1]) 1 rfl Tryz.sizeOf3 rfl rfl rfl Z rfl rfl rfl (fun w166 Z=>nn ?_))
 obtain ⟨rfl,rfl⟩:=so2 hA150
 have Z:=Z.gets [4,1,4,3] rfl
 exact rj hR150 ⟨sf4,sf5,(Star.keepN 4 Z)⟩
 have hA150:=(ite_f hc151).symm.trans hA150
 refine W_skip ?_
 obtain ⟨rfl,rfl⟩:=so2 hA150
 have Z:=Z.gets [4,2,4,3] rfl
 exact rj hR150 ⟨sf4,sf5,(Star.keepN 4 Z)⟩
 intro f w_ hR
 obtain ⟨sf4,sf5,Z⟩:=rk hR150 hR
 refine sq (L_lda (cs:=[v13_g8_0,I g8_1_149]) rfl Tryz.isAgg74 Tryz.sizeOf74 sf5 (At.sub0 (Blk.at (Star.blkAt 2 Z rfl)) 0 2) rfl (L_staB (vs:=#[v13_g8_0,I g8_1_149]) (cs2:=#[v13_g8_0,I g8_1_149]) 3 rfl Tryz.sizeOf74 sf4 rfl rfl (ones_cons (one_len (Star.len 1 Z rfl)) (ones_cons rfl ones_nil)) Z rfl (by show 0 + 2≤2; decide) rfl (fun w168 Z=>nn (W_ret (retG1 (v1:=.agg #[v13_g8_0,I g8_1_149]) Tryz.results143 (resV_agg Tryz.isAgg74 Tryz.sizeOf74 sf4 (Star.blkAt 0 Z rfl) rfl) ?_)))))
 obtain rfl:=so hF
 have Z:=Z.gets [1,2] rfl
 exact ⟨v13_g8_0,rfl,(Star.keepN 2 Z)⟩
theorem s_l3Problem_c {fu : Nat} {r_ : Rd} {g_0 : Nat} {v0_0 : Value} {H : FH} {w : World} (Z : Star H w [box g_0 117 #[v0_0,I r_.p]]) (h0_0 : (rS 5 RP.u8).rel H [v0_0] r_.b) {r : (List Con) × Int} (hF : s_l3Problem fu r_ = some r) :
 C Tryz.prog 112 #[Pt g_0] w fun v w'=>∃ (u1 : Value),v = u1∧Star H w' [oS 74 (oCon 126) u1 r.1,box g_0 117 #[v0_0,I r.2]]:=by
 unfold s_l3Problem at hF
 refine C_enter Tryz.func112 rfl Tryz.ntmps112 rfl (sq (aV S0 rfl (ns (L_bs rfl parts0 (bs_82_0  ) Z (fun g4 w5 Z=>?_)))))
 have Z:=Star.mkRow (R:=(OR.frz (rCon 126))) [] [] 0 Z rfl rfl rfl (by decide)
 refine aV (Sl g4 0 0) rfl (nq ?_)
 obtain ⟨x16,hx16,hF⟩:=bind_some hF
 refine W_region (mV (Pt g_0) rfl (L_bs rfl (parts4 rfl rfl rfl rfl) (bs_22_4_0_0_0_0 (I 4) (I 5) (I 3) (I 6) rfl rfl rfl rfl) Z (fun g18 w19 Z=>?_)))
 have Z:=litInts [4,5,3,6] 4 Z rfl rfl (by decide)
 have Z:=Z.get 2 rfl
 obtain ⟨H21b,l22,s23,z24,k25⟩:=Z.lend [_]
 have hb26 : (rS 3 RP.int).rel H21b [(Sl g18 4 4)] ([4,5,3,6]):=fz_own 0 z24 rfl
 refine L_call rfl Tryz.call64 (ops2 rfl rfl) (s_l17Rd_num_c (r_:=r_) (list:=[4,5,3,6]) s23 (RP.mono _ h0_0 l22) hb26 hx16) ?_
 rintro _ w27 ⟨rfl,Z⟩
 have Z:=k25 Z (cb c0)
 refine aI rfl (nq (W_seq ?_))
 obtain ⟨x37,hx37,hF⟩:=bind_some hF
 refine W_region (mV (Pt g_0) rfl (L_bs rfl (parts7 rfl rfl rfl rfl rfl rfl rfl) (bs_22_7_0_0_0_0_0_0_0 (I 4) (I 6) (I 3) (I 8) (I 2) (I 1) (I 0) rfl rfl rfl rfl rfl rfl rfl) Z (fun g39 w40 Z=>?_)))
 have Z:=litInts [4,6,3,8,2,1,0] 7 Z rfl rfl (by decide)
 have Z:=Z.get 1 rfl
 obtain ⟨H42b,l43,s44,z45,k46⟩:=Z.lend [_]
 have hb47 : (rS 3 RP.int).rel H42b [(Sl g39 7 7)] ([4,6,3,8,2,1,0]):=fz_own 0 z45 rfl
 refine L_call rfl Tryz.call64 (ops2 rfl rfl) (s_l17Rd_num_c (r_:=({ b:=r_.b,p:=x16.2 } : Rd)) (list:=[4,6,3,8,2,1,0]) s44 (RP.mono _ h0_0 l43) hb47 hx37) ?_
 rintro _ w48 ⟨rfl,Z⟩
 have Z:=k46 Z (cb c0)
 refine aI rfl (nn ?_)
 obtain ⟨j54,hL54,hF⟩:=bind_some hF
 obtain ⟨R54,hR54⟩:=exR fun f w_=>∃ out_50 : List Con,∃ i_52 : Int,∃ g_0_1_53 : Int,∃ v50_out : Value,j54 = .nx (out_50,i_52,g_0_1_53)∧f 3 = v50_out∧Star H w_ ([oS 74 (oCon 126) v50_out out_50,box g_0 117 #[v0_0,I g_0_1_53]])
 refine W_join R54 ?_ ?_
 refine W_block ?_
 obtain ⟨I54,hI54⟩:=exI fun n f w_=>∃ out_50 : List Con,∃ i_52 : Int,∃ g_0_1_53 : Int,∃ v50_out : Value,whileL (s_l3Problem_b1 r_ x16) n (out_50,i_52,g_0_1_53) = some j54∧f 0 = Pt g_0∧f 3 = v50_out∧f 4 = I x16.1∧f 5 = I i_52∧Star H w_ ([oS 74 (oCon 126) v50_out out_50,box g_0 117 #[v0_0,I g_0_1_53]])
 have Z:=Z.get 3 rfl
 have Z:=Star.recast (R:=(OR.frz (rCon 126))) (R':=(oCon 126)) rfl Z
 refine W_loop I54 (n:=fu) ?_ ?_
 exact ij hI54 ⟨[],x37.1,x37.2,(Sl g4 0 0),hL54,rfl,rfl,rfl,rfl,(Star.keepN 2 Z)⟩
 intro n54 f w_ hI
 obtain ⟨out_50,i_52,g_0_1_53,v50_out,hL54,sf0,sf3,sf4,sf5,Z⟩:=ik hI54 hI
 rcases n54 with _ | n54
 exact (while_zero hL54).elim
 obtain ⟨o54,hB54,hL54⟩:=while_succ hL54
 rw [s_l3Problem_b1] at hB54
 refine W_seq (sq (mF sf5 rfl (L_gtr rfl rfl rfl (nn (W_cond (b:=decide (i_52 > 0)) rfl (fun hc55=>?_) (fun hc55=>?_))))))
 have hB54:=(ite_t hc55).symm.trans hB54
 refine W_skip (W_seq (W_block ?_))
 obtain ⟨x61,hx61,hB54⟩:=bind_some hB54
 obtain ⟨x67,hx67,hB54⟩:=bind_some hB54
 refine W_region (mF sf3 rfl (mF sf0 rfl (mF sf4 rfl ?_)))
 have Z:=Z.get 1 rfl
 obtain ⟨H71b,l72,s73,z74,k75⟩:=Z.lend [_]
 refine L_call rfl Tryz.call143 (ops2 rfl rfl) (s_l1Draw_c (r_:=({ b:=r_.b,p:=g_0_1_53 } : Rd)) (most:=x16.1) s73 (RP.mono _ h0_0 l72) hx61) ?_
 rintro _ w76 ⟨r76_0,rfl,Z⟩
 have Z:=k75 Z (co closed_term (cb c0))
 refine L_bs rfl (parts1 rfl) (bs_82_1_2 (r76_0) (I x61.1.bound) ) Z (fun g78 w79 Z=>?_)
 have Z:=Z.get 1 rfl
 have Z:=oCon_close (c:=x61.1) Z
 have Z:=Star.mkRow (R:=(oCon 126)) [([r76_0,I x61.1.bound],x61.1)] [x61.1] 1 Z rfl rfl rfl (by decide)
 have Z:=Z.get 2 rfl
 refine L_appM (v:=v50_out) (u:=(Sl g78 1 1)) rfl et_82 rfl rfl Z hx67 (fun v81 w82 Z=>aV v81 rfl (nn (W_region (mF sf5 rfl (L_sub rfl rfl rfl (aI rfl (nn ?_)))))))
 obtain rfl:=so hB54
 show ∃ m,m < _∧I54 m _ _
 refine ⟨n54,Nat.lt_succ_self _,?_⟩
 exact ij hI54 ⟨x67,i64 (i_52 - 1),x61.2,v81,hL54,sf0,rfl,sf4,rfl,Z⟩
 have hB54:=(ite_f hc55).symm.trans hB54
 refine W_exit ?_
 obtain rfl:=so hB54
 obtain rfl:=so hL54
 exact rj hR54 ⟨out_50,i_52,g_0_1_53,v50_out,rfl,sf3,Z⟩
 intro f w_ hR
 obtain ⟨out_50,i_52,g_0_1_53,v50_out,rfl,sf3,Z⟩:=rk hR54 hR
 refine sq (mF sf3 rfl (aV v50_out rfl (nn (W_ret (retG1 (v1:=v50_out) Tryz.results112 rfl ?_)))))
 obtain rfl:=so hF
 exact ⟨v50_out,rfl,Z⟩
theorem s_ProblemValid_c {list : List Con} {v0 : Value} {H : FH} {w : World} (Z : Star H w []) (h0 : (rS 74 (rCon 126)).rel H [v0] list) {r : Bool} (hF : s_ProblemValid list = some r) :
 C Tryz.prog 175 #[v0] w fun v w'=>v = Bo r∧Star H w' []:=by
 unfold s_ProblemValid at hF
 refine C_enter Tryz.func175 rfl Tryz.ntmps175 rfl (sq (aB rfl (nq (sq (aI rfl (nn ?_))))))
 have hlen2 : List.length list≤9223372036854775807:=len_le (slice_len h0)
 obtain ⟨j2,hL2,hF⟩:=bind_some hF
 obtain ⟨R2,hR2⟩:=exR fun f w_=>j2 = .nx ()∧f 0 = v0∧Star H w_ ([])
 refine W_join R2 ?_ ?_
 refine W_block ?_
 obtain ⟨I2,hI2⟩:=exI fun n f w_=>∃ i_1 : Nat,∃ suf2 : List Con,n = suf2.length∧List.drop i_1 list = suf2∧i_1 + suf2.length = list.length∧rangeL s_ProblemValid_b1 suf2 i_1 () = some j2∧f 0 = v0∧f 3 = I i_1∧Star H w_ ([])
 refine W_loop I2 (n:=list.length) ?_ ?_
 exact ij hI2 ⟨0,list,rfl,rfl,Nat.zero_add _,hL2,rfl,rfl,Z⟩
 intro n2 f w_ hI
 obtain ⟨i_1,suf2,rfl,hd2,hl2,hL2,sf0,sf3,Z⟩:=ik hI2 hI
 refine W_seq (sq (mF sf3 rfl (mF sf0 rfl (L_len rfl Tryz.underlying82 rfl (slice_len h0) (L_lss rfl rfl rfl (nn (W_cond (b:=decide ((i_1 : Int) < (list.length : Int))) rfl (fun hc3=>?_) (fun hc3=>?_))))))))
 have hlt2:=of_decide_eq_true hc3
 rcases suf2 with _ | ⟨x_2,rest2⟩
 exact absurd hlt2 (by simp at hl2; omega)
 obtain ⟨o2,hB2,hL2⟩:=range_cons hL2
 rw [s_ProblemValid_b1] at hB2
 have hix2:=drop_idx hd2
 refine W_skip (W_seq (W_block (W_seq ?_)))
 obtain ⟨x13,hx13,hB2⟩:=bind_some hB2
 refine W_region (mF sf0 rfl (mF sf3 rfl (L_ix (r:=(rCon 126)) rfl Tryz.underlying82 Tryz.sizeOf74 rfl h0 rfl hix2 (fun g15 o16 cs_g15 hrk_hat17 hat17=>?_))))
 obtain ⟨u18_0,rfl,hu18_0⟩:=rCon_iff.1 hrk_hat17
 refine L_lda (cs:=[u18_0,I x_2.bound]) rfl Tryz.isAgg74 Tryz.sizeOf74 rfl (At.sub (AtH.at hat17 Z.sub) 0 2) rfl ?_
 obtain ⟨H19b,l20,s21,z22,k23⟩:=Z.borrow
 refine L_call rfl Tryz.call123 (ops1 rfl) (s_ConstraintValid_c (c:=x_2) s21 (RP.mono _ hu18_0 l20) hx13) ?_
 rintro _ w24 ⟨rfl,Z⟩
 have Z:=k23 Z c0
 refine L_not_ rfl rfl (nn (W_cond (b:=(!x13)) rfl (fun hc25=>?_) (fun hc25=>?_)))
 have hB2:=(ite_t hc25).symm.trans hB2
 refine sq (aB rfl (nn (W_ret (retG1 (v1:=Bo false) Tryz.results175 rfl ?_))))
 obtain rfl:=so hB2
 obtain rfl:=so hL2
 obtain rfl:=so hF
 exact ⟨rfl,Z⟩
 have hB2:=(ite_f hc25).symm.trans hB2
 refine W_skip (W_region (mF sf3 rfl (L_add rfl rfl rfl (aI rfl (nn ?_)))))
 obtain rfl:=so hB2
 show ∃ m,m < _∧I2 m _ _
 refine ⟨rest2.length,by simp,?_⟩
 exact ij hI2 ⟨i_1 + 1,rest2,rfl,drop_next hd2,by simp at hl2; omega,hL2,sf0,(Eq.trans rfl (congrArg (Value.int .i64) (i64_succ (n:=list.length) (by simp at hl2; omega) hlen2))),Z⟩
 rcases suf2 with _ | ⟨_,_⟩
 obtain rfl:=range_nil hL2
 refine W_exit (rj hR2 ⟨rfl,sf0,Z⟩)
 exact absurd (of_decide_eq_false hc3) (by simp at hl2; omega)
 intro f w_ hR
 obtain ⟨rfl,sf0,Z⟩:=rk hR2 hR
 refine sq (mF sf0 rfl (L_len rfl Tryz.underlying82 rfl (slice_len h0) (L_leq rfl rfl rfl (aB rfl (nn (W_ret (retG1 (v1:=Bo (decide ((list.length : Int)≤400))) Tryz.results175 rfl ?_)))))))
 obtain rfl:=so hF
 exact ⟨rfl,Z⟩
theorem s_l4Fits_c {list : List Con} {steps : List Step} {v0 : Value} {v1 : Value} {H : FH} {w : World} (Z : Star H w []) (h0 : (rS 74 (rCon 126)).rel H [v0] list) (h1 : (rS 76 (rStep 126)).rel H [v1] steps) {r : Bool} (hF : s_l4Fits list steps = some r) :
 C Tryz.prog 157 #[v0,v1] w fun v w'=>v = Bo r∧Star H w' []:=by
 unfold s_l4Fits at hF
 refine C_enter Tryz.func157 rfl Tryz.ntmps157 rfl (sq (aB rfl (nq ?_)))
 obtain ⟨x6,hx6,hF⟩:=bind_some hF
 obtain ⟨R8,hR8⟩:=exR fun f w_=>f 4 = Bo (x6 && (decide ((steps.length : Int)≤1000)))∧Star H w_ ([])
 refine W_join R8 ?_ ?_
 refine W_region (mV v0 rfl ?_)
 obtain ⟨H9b,l10,s11,z12,k13⟩:=Z.borrow
 refine L_call rfl Tryz.call175 (ops1 rfl) (s_ProblemValid_c (list:=list) s11 (RP.mono _ h0 l10) hx6) ?_
 rintro _ w14 ⟨rfl,Z⟩
 have Z:=k13 Z c0
 refine mB rfl (L_split (d:=7) (b:=x6) rfl (fun hc15=>?_) (fun hc15=>?_))
 refine mV v1 rfl (L_len rfl Tryz.underlying37 rfl (slice_len h1) (L_leq rfl rfl rfl (L_pick (v:=Bo (x6 && (decide ((steps.length : Int)≤1000)))) rfl rfl (and_t hc15 rfl) (aB rfl (nn (rj hR8 ⟨rfl,Z⟩))))))
 refine ps rfl (ps rfl (ps rfl (L_pick (v:=Bo (x6 && (decide ((steps.length : Int)≤1000)))) rfl rfl (and_f hc15) (aB rfl (nn (rj hR8 ⟨rfl,Z⟩))))))
 intro f w_ hR
 obtain ⟨sf4,Z⟩:=rk hR8 hR
 refine W_ret (retG1 (v1:=Bo (x6 && (decide ((steps.length : Int)≤1000)))) Tryz.results157 sf4 ?_)
 obtain rfl:=so hF
 exact ⟨rfl,Z⟩
theorem s_l4Live_c {d : Db} {k : Int} {v0_0 : Value} {v0_1 : Value} {H : FH} {w : World} (Z : Star H w []) (h0_0 : (rS 74 (rCon 126)).rel H [v0_0] d.list) (h0_1 : (rS 4 RP.bool).rel H [v0_1] d.gone) {r : Bool} (hF : s_l4Live d k = some r) :
 C Tryz.prog 176 #[.agg #[v0_0,v0_1],I k] w fun v w'=>v = Bo r∧Star H w' []:=by
 unfold s_l4Live at hF
 refine C_enter Tryz.func176 rfl Tryz.ntmps176 rfl (sq (L_box (v:=.agg #[v0_0,v0_1]) (cs:=#[v0_0,v0_1]) rfl rfl rfl Z (fun g3 w4 Z=>aB rfl (nq ?_))))
 obtain ⟨b10,hb10,hF⟩:=bind_some hF
 obtain ⟨R11,hR11⟩:=exR fun f w_=>f 4 = Bo b10∧Star H w_ ([])
 refine W_join R11 ?_ ?_
 refine W_region (mI rfl (L_geq rfl rfl rfl (mB rfl (L_split (d:=7) (b:=decide (k ≥ 0)) rfl (fun hc12=>?_) (fun hc12=>?_)))))
 refine mI rfl (fA 0 fa_158_0 rfl rfl (ldB 0 Z Tryz.isAgg82 rfl rfl rfl (L_len rfl Tryz.underlying82 rfl (slice_len h0_0) (L_lss rfl rfl rfl (L_pick (v:=Bo ((decide (k ≥ 0)) && (decide (k < (d.list.length : Int))))) rfl rfl (and_t hc12 rfl) (mB rfl (L_split (d:=14) (b:=((decide (k ≥ 0)) && (decide (k < (d.list.length : Int))))) rfl (fun hc13=>?_) (fun hc13=>?_))))))))
 rw [ite_t hc13] at hb10
 obtain ⟨x5,hx5,hb10⟩:=bind_some hb10
 refine fA 1 fa_158_1 rfl rfl (ldB 0 Z Tryz.isAgg156 rfl rfl rfl (mI rfl (L_ix (r:=RP.bool) rfl Tryz.underlying156 Tryz.sizeOf4 rfl h0_1 rfl hx5 (fun g14 o15 cs_g14 hrk_hat16 hat16=>?_))))
 obtain rfl : _ = [_]:=hrk_hat16
 refine L_ld rfl Tryz.isAgg4 rfl (At.cell (AtH.at hat16 Z.sub) (j:=0) rfl) (L_not_ rfl rfl (L_pick (v:=Bo b10) rfl rfl (congrArg Value.bool (so hb10)) (aB rfl (nn (rj hR11 ⟨rfl,(Star.keepN 0 Z)⟩)))))
 rw [ite_f hc13] at hb10
 refine ps rfl (ps rfl (ps rfl (ps rfl (ps rfl (ps rfl (L_pick (v:=Bo b10) rfl rfl (congrArg Value.bool (so hb10)) (aB rfl (nn (rj hR11 ⟨rfl,(Star.keepN 0 Z)⟩)))))))))
 refine ps rfl (ps rfl (ps rfl (ps rfl (ps rfl (L_pick (v:=Bo ((decide (k ≥ 0)) && (decide (k < (d.list.length : Int))))) rfl rfl (and_f hc12) (mB rfl (L_split (d:=14) (b:=((decide (k ≥ 0)) && (decide (k < (d.list.length : Int))))) rfl (fun hc18=>?_) (fun hc18=>?_))))))))
 exact boolNo hc18 (andF hc12)
 rw [ite_f hc18] at hb10
 refine ps rfl (ps rfl (ps rfl (ps rfl (ps rfl (ps rfl (L_pick (v:=Bo b10) rfl rfl (congrArg Value.bool (so hb10)) (aB rfl (nn (rj hR11 ⟨rfl,(Star.keepN 0 Z)⟩)))))))))
 intro f w_ hR
 obtain ⟨sf4,Z⟩:=rk hR11 hR
 refine W_ret (retG1 (v1:=Bo b10) Tryz.results176 sf4 ?_)
 obtain rfl:=so hF
 exact ⟨rfl,Z⟩
theorem s_l4Kept_c {d : Db} {v0_0 : Value} {v0_1 : Value} {H : FH} {w : World} {R : List Ass} (Z : Star H w R) (h0_0 : (rS 74 (rCon 126)).rel H [v0_0] d.list) (h0_1 : (rS 4 RP.bool).rel H [v0_1] d.gone) {r : List Con} (hF : s_l4Kept d = some r) :
 C Tryz.prog 159 #[.agg #[v0_0,v0_1]] w fun v w'=>∃ H' : FH,Le H H'∧∃ (u1 : Value),v = u1∧Star H' w' (oF 74 (rCon 126) u1 r :: R):=by
 unfold s_l4Kept at hF
 refine C_enter Tryz.func159 rfl Tryz.ntmps159 rfl (sq (L_box (v:=.agg #[v0_0,v0_1]) (cs:=#[v0_0,v0_1]) rfl rfl rfl Z (fun g3 w4 Z=>aV S0 rfl (ns (L_bs rfl parts0 (bs_82_0  ) Z (fun g8 w9 Z=>?_))))))
 have Z:=Star.mkRow (R:=(OR.frz (rCon 126))) [] [] 0 Z rfl rfl rfl (by decide)
 refine aV (Sl g8 0 0) rfl (nq (sq (aI rfl (nn ?_))))
 have hlen14 : List.length d.list≤9223372036854775807:=len_le (slice_len h0_0)
 obtain ⟨j14,hL14,hF⟩:=bind_some hF
 obtain ⟨R14,hR14⟩:=exR fun f w_=>∃ out_12 : List Con,∃ v12_out : Value,j14 = .nx out_12∧f 3 = v12_out∧Star H w_ (oF 74 (rCon 126) v12_out out_12 :: R)
 refine W_join R14 ?_ ?_
 refine W_block ?_
 obtain ⟨I14,hI14⟩:=exI fun n f w_=>∃ i_11 : Nat,∃ suf14 : List Con,∃ out_12 : List Con,∃ v12_out : Value,n = suf14.length∧List.drop i_11 d.list = suf14∧i_11 + suf14.length = d.list.length∧rangeL (s_l4Kept_b1 d) suf14 i_11 out_12 = some j14∧f 1 = Pt g3∧f 3 = v12_out∧f 4 = I i_11∧Star H w_ (oF 74 (rCon 126) v12_out out_12 :: box g3 158 #[v0_0,v0_1] :: R)
 refine W_loop I14 (n:=d.list.length) ?_ ?_
 exact ij hI14 ⟨0,d.list,[],(Sl g8 0 0),rfl,rfl,Nat.zero_add _,hL14,rfl,rfl,rfl,Z⟩
 intro n14 f w_ hI
 obtain ⟨i_11,suf14,out_12,v12_out,rfl,hd14,hl14,hL14,sf1,sf3,sf4,Z⟩:=ik hI14 hI
 refine W_seq (sq (mF sf4 rfl (fA 0 fa_158_0 sf1 rfl (ldB 1 Z Tryz.isAgg82 rfl rfl rfl (L_len rfl Tryz.underlying82 rfl (slice_len h0_0) (L_lss rfl rfl rfl (nn (W_cond (b:=decide ((i_11 : Int) < (d.list.length : Int))) rfl (fun hc15=>?_) (fun hc15=>?_)))))))))
 have hlt14:=of_decide_eq_true hc15
 rcases suf14 with _ | ⟨x_14,rest14⟩
 exact absurd hlt14 (by simp at hl14; omega)
 obtain ⟨o14,hB14,hL14⟩:=range_cons hL14
 rw [s_l4Kept_b1] at hB14
 have hix14:=drop_idx hd14
 refine W_skip (W_seq (W_block (W_seq ?_)))
 obtain ⟨x16,hx16,hB14⟩:=bind_some hB14
 refine W_region (fA 1 fa_158_1 sf1 rfl (ldB 1 Z Tryz.isAgg156 rfl rfl rfl (mF sf4 rfl (L_ix (r:=RP.bool) rfl Tryz.underlying156 Tryz.sizeOf4 rfl h0_1 rfl hx16 (fun g21 o22 cs_g21 hrk_hat23 hat23=>?_)))))
 obtain rfl : _ = [_]:=hrk_hat23
 refine L_ld rfl Tryz.isAgg4 rfl (At.cell (AtH.at hat23 Z.sub) (j:=0) rfl) (L_not_ rfl rfl (nn ?_))
 obtain ⟨out_25,hA27,hB14⟩:=bind_some hB14
 obtain ⟨R27,hR27⟩:=exR fun f w_=>∃ v25_out : Value,f 1 = Pt g3∧f 3 = v25_out∧f 4 = I i_11∧Star H w_ (oF 74 (rCon 126) v25_out out_25 :: box g3 158 #[v0_0,v0_1] :: R)
 refine W_join R27 ?_ ?_
 refine W_cond (b:=(!x16)) rfl (fun hc28=>?_) (fun hc28=>?_)
 have hA27:=(ite_t hc28).symm.trans hA27
 obtain ⟨x36,hx36,hA27⟩:=bind_some hA27
 refine W_region (mF sf3 rfl (fA 0 fa_158_0 sf1 rfl (ldB 1 Z Tryz.isAgg82 rfl rfl rfl (mF sf4 rfl (L_ix (r:=(rCon 126)) rfl Tryz.underlying82 Tryz.sizeOf74 rfl h0_0 rfl hix14 (fun g40 o41 cs_g40 hrk_hat42 hat42=>?_))))))
 obtain ⟨u43_0,rfl,hu43_0⟩:=rCon_iff.1 hrk_hat42
 refine L_lda (cs:=[u43_0,I x_14.bound]) rfl Tryz.isAgg74 Tryz.sizeOf74 rfl (At.sub (AtH.at hat42 Z.sub) 0 2) rfl (L_bs rfl (parts1 rfl) (bs_82_1_2 (u43_0) (I x_14.bound) ) Z (fun g44 w45 Z=>?_))
 have Z:=Star.addF (r:=(rCon 126)) (cs:=[u43_0,I x_14.bound]) (x:=x_14) Z (rCon_iff.2 ⟨_,rfl,hu43_0⟩)
 have Z:=Star.mkRow (R:=(OR.frz (rCon 126))) [([u43_0,I x_14.bound],x_14)] [x_14] 1 Z rfl rfl rfl (by decide)
 have Z:=Z.get 1 rfl
 refine L_appM (v:=v12_out) (u:=(Sl g44 1 1)) rfl et_82 rfl rfl Z hx36 (fun v47 w48 Z=>aV v47 rfl (nn ?_))
 obtain rfl:=so hA27
 exact rj hR27 ⟨v47,sf1,rfl,sf4,Z⟩
 have hA27:=(ite_f hc28).symm.trans hA27
 refine W_skip ?_
 obtain rfl:=so hA27
 exact rj hR27 ⟨v12_out,sf1,sf3,sf4,Z⟩
 intro f w_ hR
 obtain ⟨v25_out,sf1,sf3,sf4,Z⟩:=rk hR27 hR
 refine W_region (mF sf4 rfl (L_add rfl rfl rfl (aI rfl (nn ?_))))
 obtain rfl:=so hB14
 show ∃ m,m < _∧I14 m _ _
 refine ⟨rest14.length,by simp,?_⟩
 exact ij hI14 ⟨i_11 + 1,rest14,out_25,v25_out,rfl,drop_next hd14,by simp at hl14; omega,hL14,sf1,sf3,(Eq.trans rfl (congrArg (Value.int .i64) (i64_succ (n:=d.list.length) (by simp at hl14; omega) hlen14))),Z⟩
 rcases suf14 with _ | ⟨_,_⟩
 obtain rfl:=range_nil hL14
 refine W_exit ?_
 have Z:=Star.drop 1 Z rfl
 exact rj hR14 ⟨out_12,v12_out,rfl,sf3,Z⟩
 exact absurd (of_decide_eq_false hc15) (by simp at hl14; omega)
 intro f w_ hR
 obtain ⟨out_12,v12_out,rfl,sf3,Z⟩:=rk hR14 hR
 refine sq (mF sf3 rfl (aV v12_out rfl (nn (W_ret (retG1 (v1:=v12_out) Tryz.results159 rfl ?_)))))
 obtain rfl:=so hF
 exact ⟨H,(Le.refl _),v12_out,rfl,Z⟩
theorem s_l1Copy_c {c : Con} {v0_0 : Value} {H : FH} {w : World} (Z : Star H w []) (h0_0 : (rS 126 rTerm).rel H [v0_0] c.terms) {r : Con} (hF : s_l1Copy c = some r) :
 C Tryz.prog 160 #[.agg #[v0_0,I c.bound]] w fun v w'=>∃ (u1 : Value),v = .agg #[u1,I r.bound]∧Star H w' [oF 126 rTerm u1 r.terms]:=by
 unfold s_l1Copy at hF
 refine C_enter Tryz.func160 rfl Tryz.ntmps160 rfl (sq (L_box (v:=.agg #[v0_0,I c.bound]) (cs:=#[v0_0,I c.bound]) rfl rfl rfl Z (fun g5 w6 Z=>L_al (cs:=#[S0,I 0]) rfl Tryz.zeroValue74 rfl Z (fun g7 w8 Z=>nq ?_))))
 obtain ⟨x12,hx12,hF⟩:=bind_some hF
 refine W_drawS 6 [anyF,isV (Pt g5),isV (v0_0),anyF,isV (Pq g5 1),isV (I c.bound)] [box g7 74 #[S0,I 0],box g5 74 #[v0_0,I c.bound]] [.made 0 3 (fun v_=>oF 126 rTerm v_ ([])) (some 3),.made 3 6 (fun v_=>oF 126 rTerm v_ x12) none] ([]) [([],[0]),([],[]),([],[]),([0],[1]),([],[]),([],[])] (S:=[(some 0,[3],some 3),(some 3,[6],none)]) Tryz_mix (by kernel_rfl) rfl (by kernel_rfl) (amF_cons (mono_any) (amF_cons (mono_V _) (amF_cons (mono_V _) (amF_cons (mono_any) (amF_cons (mono_V _) (amF_cons (mono_V _) amF_nil)))))) Z ?_ (fun f w_ H17 hS17 hE17 hT17 Z=>?_)
 refine opsS_cons ?_ ?_
 intro f w_ H17 X17 hS17 hE17 hP17 Z
 refine L_bs rfl parts0 (bs_72_0  ) Z (fun g24 w25 Z=>?_)
 have Z:=Star.mkRow (R:=(OR.frz rTerm)) [] [] 0 Z rfl rfl rfl (by decide)
 have Z:=Z.gets [2,2] rfl
 exact L_nil ⟨rfl,_,_,rfl,Le.refl _,fun _ _=>trivial,Z⟩
 refine opsS_cons (fun f w_ _ _ s _ _ Z=>fA 0 fa_74_0 ((s 1 rfl).trans rfl) rfl (nO rfl rfl Z)) (opsS_cons (fun f w_ _ _ _ _ p Z=>ldB 1 Z Tryz.isAgg72 (p 1 4 rfl rfl) rfl rfl (nO rfl rfl Z)) (opsS_cons ?_ ?_))
 intro f w_ H17 X17 hS17 hE17 hP17 Z
 have Z : Star H17 w_ (box g7 74 #[S0,I 0] :: box g5 74 #[v0_0,I c.bound] :: oF 126 rTerm (f 3) ([]) :: X17):=Z
 have Z:=Z.get 2 rfl
 refine L_app (v:=(f 3)) (u:=v0_0) rfl et_72 rfl (hP17 2 5 rfl rfl) Z (RP.mono _ h0_0 hE17) hx12 (fun v28 w29 Z=>?_)
 have Z:=Z.gets [2,2] rfl
 exact L_nil ⟨rfl,_,_,rfl,Le.refl _,fun _ _=>trivial,Z⟩
 refine opsS_cons (fun f w_ _ _ s _ _ Z=>fA 1 fa_74_1 ((s 1 rfl).trans rfl) rfl (nO rfl rfl Z)) (opsS_cons (fun f w_ _ _ _ _ p Z=>ldB 1 Z Tryz.isAgg3 (p 4 7 rfl rfl) rfl rfl (nO rfl rfl Z)) (opsS_nil))
 have Z : Star H17 w_ ([box g7 74 #[S0,I 0],box g5 74 #[v0_0,I c.bound],oF 126 rTerm (f 6) x12]):=Z
 refine L_bld rfl (parts2 rfl (hT17 5 8 rfl rfl)) (bld_74_0_1 ((f 6)) (I c.bound) (one_len (Star.len 2 Z rfl)) rfl) (L_staB (vs:=#[(f 6),I c.bound]) (cs2:=#[(f 6),I c.bound]) 0 rfl Tryz.sizeOf74 ((hS17 2 rfl).trans rfl) rfl rfl (ones_cons (one_len (Star.len 2 Z rfl)) (ones_cons rfl ones_nil)) Z rfl (by show 0 + 2≤2; decide) rfl (fun w32 Z=>nn (W_ret (retG1 (v1:=.agg #[(f 6),I c.bound]) Tryz.results160 (resV_agg Tryz.isAgg74 Tryz.sizeOf74 ((hS17 2 rfl).trans rfl) (Star.blkAt 0 Z rfl) rfl) ?_))))
 obtain rfl:=so hF
 have Z:=Z.get 2 rfl
 exact ⟨(f 6),rfl,(Star.down (Star.keepN 1 Z) hE17 (co closed_term c0))⟩
theorem s_LiteralAxiom_c {lit : Int} {H : FH} {w : World} (Z : Star H w []) {r : Con × Bool} (hF : s_LiteralAxiom lit = some r) :
 C Tryz.prog 188 #[I lit] w fun v w'=>∃ (u1 : Value),v = .tuple #[.agg #[u1,I r.1.bound],Bo r.2]∧Star H w' [oF 126 rTerm u1 r.1.terms]:=by
 unfold s_LiteralAxiom at hF
 refine C_enter Tryz.func188 rfl Tryz.ntmps188 rfl (sq (L_al (cs:=#[S0,I 0]) rfl Tryz.zeroValue74 rfl Z (fun g3 w4 Z=>aB rfl (nq (W_seq ?_)))))
 obtain ⟨x10,hx10,hF⟩:=bind_some hF
 refine W_region (mI rfl ?_)
 obtain ⟨H12b,l13,s14,z15,k16⟩:=Z.borrow
 refine L_call rfl Tryz.call125 (ops1 rfl) (s_l1Lit_c (n_:=lit) s14 hx10) ?_
 rintro _ w17 ⟨rfl,Z⟩
 have Z:=k16 Z c0
 refine L_not_ rfl rfl (nn (W_cond (b:=(!x10)) rfl (fun hc18=>?_) (fun hc18=>?_)))
 have hF:=(ite_t hc18).symm.trans hF
 refine sq (L_bld rfl (parts0 ) (bld_74_  ) (L_staB (vs:=#[S0,I 0]) (cs2:=#[S0,I 0]) 0 rfl Tryz.sizeOf74 rfl rfl rfl (ones_cons rfl (ones_cons rfl ones_nil)) Z rfl (by show 0 + 2≤2; decide) rfl (fun w20 Z=>aB rfl (nn (W_ret (retG2 (v1:=.agg #[S0,I 0]) (v2:=Bo false) Tryz.results188 (resV_agg Tryz.isAgg74 Tryz.sizeOf74 rfl (Star.blkAt 0 Z rfl) rfl) rfl ?_))))))
 obtain rfl:=so hF
 have Z:=Star.addNil (R:=(OR.frz rTerm)) (e:=126) Z
 exact ⟨S0,rfl,(Star.keepN 1 Z)⟩
 have hF:=(ite_f hc18).symm.trans hF
 refine W_skip (sq (mI rfl (L_bld rfl (parts2 rfl rfl) (bld_126_0_1 (I 1) (I lit) rfl rfl) (L_bs rfl (parts1 rfl) (bs_72_1_2 (I 1) (I lit) ) Z (fun g26 w27 Z=>?_)))))
 have Z:=Star.addF (r:=rTerm) (cs:=[I 1,I lit]) (x:=({ coef:=1,lit:=lit } : Term)) Z (rTerm_iff.2 rfl)
 have Z:=Star.mkRow (R:=(OR.frz rTerm)) [([I 1,I lit],({ coef:=1,lit:=lit } : Term))] [({ coef:=1,lit:=lit } : Term)] 1 Z rfl rfl rfl (by decide)
 refine L_bld rfl (parts1 rfl) (bld_74_0 ((Sl g26 1 1)) (one_len (Star.len 0 Z rfl))) (L_staB (vs:=#[(Sl g26 1 1),I 0]) (cs2:=#[(Sl g26 1 1),I 0]) 1 rfl Tryz.sizeOf74 rfl rfl rfl (ones_cons (one_len (Star.len 0 Z rfl)) (ones_cons rfl ones_nil)) Z rfl (by show 0 + 2≤2; decide) rfl (fun w29 Z=>aB rfl (nn (W_ret (retG2 (v1:=.agg #[(Sl g26 1 1),I 0]) (v2:=Bo true) Tryz.results188 (resV_agg Tryz.isAgg74 Tryz.sizeOf74 rfl (Star.blkAt 0 Z rfl) rfl) rfl ?_)))))
 obtain rfl:=so hF
 have Z:=Z.get 1 rfl
 exact ⟨(Sl g26 1 1),rfl,(Star.keepN 1 Z)⟩
theorem s_NegateConstraint_c {c : Con} {v0_0 : Value} {H : FH} {w : World} (Z : Star H w []) (h0_0 : (rS 126 rTerm).rel H [v0_0] c.terms) {r : Con × Bool} (hF : s_NegateConstraint c = some r) :
 C Tryz.prog 202 #[.agg #[v0_0,I c.bound]] w fun v w'=>∃ (u1 : Value),v = .tuple #[.agg #[u1,I r.1.bound],Bo r.2]∧Star H w' [oF 126 rTerm u1 r.1.terms]:=by
 unfold s_NegateConstraint at hF
 refine C_enter Tryz.func202 rfl Tryz.ntmps202 rfl (sq (L_box (v:=.agg #[v0_0,I c.bound]) (cs:=#[v0_0,I c.bound]) rfl rfl rfl Z (fun g5 w6 Z=>L_al (cs:=#[S0,I 0]) rfl Tryz.zeroValue74 rfl Z (fun g7 w8 Z=>aB rfl (nq (W_seq ?_))))))
 obtain ⟨x14,hx14,hF⟩:=bind_some hF
 refine W_region (L_lda (cs:=[v0_0,I c.bound]) rfl Tryz.isAgg74 Tryz.sizeOf74 rfl (At.sub0 (Blk.at (Star.blkAt 1 Z rfl)) 0 2) rfl ?_)
 obtain ⟨H16b,l17,s18,z19,k20⟩:=Z.borrow
 refine L_call rfl Tryz.call123 (ops1 rfl) (s_ConstraintValid_c (c:=c) s18 (RP.mono _ h0_0 l17) hx14) ?_
 rintro _ w21 ⟨rfl,Z⟩
 have Z:=k20 Z c0
 refine L_not_ rfl rfl (nn (W_cond (b:=(!x14)) rfl (fun hc22=>?_) (fun hc22=>?_)))
 have hF:=(ite_t hc22).symm.trans hF
 refine sq (L_bld rfl (parts0 ) (bld_74_  ) (L_staB (vs:=#[S0,I 0]) (cs2:=#[S0,I 0]) 0 rfl Tryz.sizeOf74 rfl rfl rfl (ones_cons rfl (ones_cons rfl ones_nil)) Z rfl (by show 0 + 2≤2; decide) rfl (fun w24 Z=>aB rfl (nn (W_ret (retG2 (v1:=.agg #[S0,I 0]) (v2:=Bo false) Tryz.results202 (resV_agg Tryz.isAgg74 Tryz.sizeOf74 rfl (Star.blkAt 0 Z rfl) rfl) rfl ?_))))))
 obtain rfl:=so hF
 have Z:=Star.addNil (R:=(OR.frz rTerm)) (e:=126) Z
 exact ⟨S0,rfl,(Star.keepN 1 Z)⟩
 have hF:=(ite_f hc22).symm.trans hF
 refine W_skip (W_seq ?_)
 obtain ⟨x31,hx31,hF⟩:=bind_some hF
 refine W_drawS 8 [isV (.agg #[v0_0,I c.bound]),isV (I x31),isV (Pq g5 1),isV (I c.bound),isV (I (i64 (x31 - c.bound))),isV (I (i64 ((i64 (x31 - c.bound)) + 1))),isV (.agg #[S0,I (i64 ((i64 (x31 - c.bound)) + 1))]),anyF] [box g7 74 #[S0,I 0],box g5 74 #[v0_0,I c.bound]] [.made 7 4 (fun v_=>boxV v_ 74 #[S0,I 0]) none] ([]) [([],[]),([],[]),([],[]),([],[]),([],[]),([],[]),([],[]),([],[0])] (S:=[(some 7,[4],none)]) Tryz_mix (by kernel_rfl) rfl (by kernel_rfl) (amF_cons (mono_V _) (amF_cons (mono_V _) (amF_cons (mono_V _) (amF_cons (mono_V _) (amF_cons (mono_V _) (amF_cons (mono_V _) (amF_cons (mono_V _) (amF_cons (mono_any) amF_nil)))))))) Z ?_ (fun f w_ H36 hS36 hE36 hT36 Z=>?_)
 refine opsS_cons (fun f w_ _ _ s _ _ Z=>L_lda (cs:=[v0_0,I c.bound]) rfl Tryz.isAgg74 Tryz.sizeOf74 ((s 1 rfl).trans rfl) (At.sub0 (Blk.at (Star.blkAt 1 Z rfl)) 0 2) rfl (nO rfl rfl Z)) (opsS_cons ?_ ?_)
 intro f w_ H36 X36 hS36 hE36 hP36 Z
 obtain ⟨H45b,l46,s47,z48,k49⟩:=Z.borrow
 refine L_call rfl Tryz.call161 (ops1 (hP36 0 10 rfl rfl)) (s_l1Total_c (c:=c) s47 (RP.mono _ h0_0 (Le.trans hE36 l46)) hx31) ?_
 rintro _ w50 ⟨rfl,Z⟩
 have Z:=k49 Z c0
 exact L_nil ⟨rfl,_,_,rfl,Le.refl _,fun _ _=>rfl,Z⟩
 refine opsS_cons (fun f w_ _ _ s _ _ Z=>fA 1 fa_74_1 ((s 1 rfl).trans rfl) rfl (nO rfl rfl Z)) (opsS_cons (fun f w_ _ _ _ _ p Z=>ldB 1 Z Tryz.isAgg3 (p 2 12 rfl rfl) rfl rfl (nO rfl rfl Z)) (opsS_cons (fun f w_ _ _ _ _ p Z=>L_sub rfl (p 1 11 rfl rfl) (p 3 13 rfl rfl) (nO rfl rfl Z)) (opsS_cons (fun f w_ _ _ _ _ p Z=>L_add rfl (p 4 14 rfl rfl) rfl (nO rfl rfl Z)) (opsS_cons (fun f w_ _ _ _ _ p Z=>L_bld rfl (parts1 (p 5 15 rfl rfl)) (bld_74_1 (I (i64 ((i64 (x31 - c.bound)) + 1))) rfl) (nO rfl rfl Z)) (opsS_cons ?_ ?_)))))
 intro f w_ H36 X36 hS36 hE36 hP36 Z
 refine L_al (cs:=#[S0,I 0]) rfl Tryz.zeroValue74 rfl Z (fun g51 w52 Z=>?_)
 have Z:=Z.gets [2,2,2] rfl
 have Z:=Star.boxV (v:=Pt g51) rfl Z
 have Z:=Z.gets [2,2] rfl
 exact L_nil ⟨rfl,_,_,rfl,Le.refl _,fun _ _=>trivial,Z⟩
 exact opsS_nil
 have Z : Star H36 w_ ([box g7 74 #[S0,I 0],box g5 74 #[v0_0,I c.bound],boxV (f 4) 74 #[S0,I 0]]):=Z
 obtain ⟨g53,hv53,Z⟩:=Star.unboxV (Star.get 2 Z rfl)
 refine L_staB (vs:=#[S0,I (i64 ((i64 (x31 - c.bound)) + 1))]) (cs2:=#[S0,I (i64 ((i64 (x31 - c.bound)) + 1))]) 0 rfl Tryz.sizeOf74 hv53 (hT36 6 16 rfl rfl) rfl (ones_cons rfl (ones_cons rfl ones_nil)) Z rfl (by show 0 + 2≤2; decide) rfl (fun w54 Z=>L_nil (W_seq (sq (aI rfl (nn ?_)))))
 have hlen60 : List.length c.terms≤9223372036854775807:=len_le (slice_len (RP.mono _ h0_0 hE36))
 obtain ⟨j60,hL60,hF⟩:=bind_some hF
 obtain ⟨R60,hR60⟩:=exR fun f w_=>∃ g53_0_56 : List Term,∃ H58 : FH,∃ v56_g53_0 : Value,j60 = .nx g53_0_56∧Le H36 H58∧f 2 = Pt g7∧f 4 = Pt g53∧Star H58 w_ ([oF 126 rTerm v56_g53_0 g53_0_56,box g53 74 #[v56_g53_0,I (i64 ((i64 (x31 - c.bound)) + 1))],box g7 74 #[S0,I 0]])
 refine W_join R60 ?_ ?_
 refine W_block ?_
 obtain ⟨I60,hI60⟩:=exI fun n f w_=>∃ i_55 : Nat,∃ suf60 : List Term,∃ g53_0_56 : List Term,∃ H58 : FH,∃ v56_g53_0 : Value,n = suf60.length∧List.drop i_55 c.terms = suf60∧i_55 + suf60.length = c.terms.length∧rangeL s_NegateConstraint_b1 suf60 i_55 g53_0_56 = some j60∧Le H36 H58∧f 1 = Pt g5∧f 2 = Pt g7∧f 4 = Pt g53∧f 5 = I i_55∧Star H58 w_ ([oF 126 rTerm v56_g53_0 g53_0_56,box g53 74 #[v56_g53_0,I (i64 ((i64 (x31 - c.bound)) + 1))],box g7 74 #[S0,I 0],box g5 74 #[v0_0,I c.bound]])
 have Z:=Star.addNil (R:=(OR.frz rTerm)) (e:=126) Z
 refine W_loop I60 (n:=c.terms.length) ?_ ?_
 exact ij hI60 ⟨0,c.terms,[],H36,S0,rfl,rfl,Nat.zero_add _,hL60,(Le.refl _),((hS36 1 rfl).trans rfl),((hS36 2 rfl).trans rfl),hv53,rfl,Z⟩
 intro n60 f w_ hI
 obtain ⟨i_55,suf60,g53_0_56,H58,v56_g53_0,rfl,hd60,hl60,hL60,l59,sf1,sf2,sf4,sf5,Z⟩:=ik hI60 hI
 refine W_seq (sq (mF sf5 rfl (fA 0 fa_74_0 sf1 rfl (ldB 3 Z Tryz.isAgg72 rfl rfl rfl (L_len rfl Tryz.underlying72 rfl (slice_len (RP.mono _ h0_0 (Le.trans hE36 l59))) (L_lss rfl rfl rfl (nn (W_cond (b:=decide ((i_55 : Int) < (c.terms.length : Int))) rfl (fun hc62=>?_) (fun hc62=>?_)))))))))
 have hlt60:=of_decide_eq_true hc62
 rcases suf60 with _ | ⟨x_60,rest60⟩
 exact absurd hlt60 (by simp at hl60; omega)
 obtain ⟨o60,hB60,hL60⟩:=range_cons hL60
 rw [s_NegateConstraint_b1] at hB60
 have hix60:=drop_idx hd60
 refine W_skip (W_seq (W_block ?_))
 obtain ⟨x74,hx74,hB60⟩:=bind_some hB60
 refine W_drawS 17 [isV (Pt g53),isV (v56_g53_0),isV (Pt g5),isV (v0_0),isV (I i_55),isEl rTerm x_60 0,isEl rTerm x_60 0,isV (I x_60.coef),isV (Pt g5),isV (v0_0),isV (I i_55),isEl rTerm x_60 0,isEl rTerm x_60 1,isV (I x_60.lit),isV (I (i64 (-x_60.lit))),isV (.agg #[I x_60.coef,I (i64 (-x_60.lit))]),anyF] [oF 126 rTerm v56_g53_0 g53_0_56,box g53 74 #[v56_g53_0,I (i64 ((i64 (x31 - c.bound)) + 1))],box g7 74 #[S0,I 0],box g5 74 #[v0_0,I c.bound]] [.made 16 40 (fun v_=>oF 126 rTerm v_ ([({ coef:=x_60.coef,lit:=i64 (-x_60.lit) } : Term)])) none] ([]) [([],[]),([],[]),([],[]),([],[]),([],[]),([],[]),([],[]),([],[]),([],[]),([],[]),([],[]),([],[]),([],[]),([],[]),([],[]),([],[]),([],[0])] (S:=[(some 16,[40],none)]) Tryz_mix (by kernel_rfl) rfl (by kernel_rfl) (amF_cons (mono_V _) (amF_cons (mono_V _) (amF_cons (mono_V _) (amF_cons (mono_V _) (amF_cons (mono_V _) (amF_cons (mono_el _ _ _) (amF_cons (mono_el _ _ _) (amF_cons (mono_V _) (amF_cons (mono_V _) (amF_cons (mono_V _) (amF_cons (mono_V _) (amF_cons (mono_el _ _ _) (amF_cons (mono_el _ _ _) (amF_cons (mono_V _) (amF_cons (mono_V _) (amF_cons (mono_V _) (amF_cons (mono_any) amF_nil))))))))))))))))) Z ?_ (fun f w_ H79 hS79 hE79 hT79 Z=>?_)
 refine opsS_cons (fun f w_ _ _ s _ _ Z=>fA 0 fa_74_0 ((s 4 rfl).trans sf4) rfl (nO rfl rfl Z)) (opsS_cons (fun f w_ _ _ _ _ p Z=>ldB 1 Z Tryz.isAgg72 (p 0 24 rfl rfl) rfl rfl (nO rfl rfl Z)) (opsS_cons (fun f w_ _ _ s _ _ Z=>fA 0 fa_74_0 ((s 1 rfl).trans sf1) rfl (nO rfl rfl Z)) (opsS_cons (fun f w_ _ _ _ _ p Z=>ldB 3 Z Tryz.isAgg72 (p 2 26 rfl rfl) rfl rfl (nO rfl rfl Z)) (opsS_cons (fun f w_ _ _ s _ _ Z=>mF ((s 5 rfl).trans sf5) rfl (nO rfl rfl Z)) (opsS_cons ?_ ?_)))))
 intro f w_ H79 X79 hS79 hE79 hP79 Z
 refine L_ix (r:=rTerm) rfl Tryz.underlying72 Tryz.sizeOf126 (hP79 3 27 rfl rfl) (RP.mono _ h0_0 (Le.trans (Le.trans hE36 l59) hE79)) (hP79 4 28 rfl rfl) hix60 (fun g91 o92 cs_g91 hrk_hat93 hat93=>?_)
 obtain rfl:=rTerm_iff.1 hrk_hat93
 exact L_nil ⟨rfl,_,_,rfl,Le.refl _,fun _ _=>⟨_,_,_,rfl,hrk_hat93,hat93⟩,Z⟩
 refine opsS_cons ?_ ?_
 intro f w_ H79 X79 hS79 hE79 hP79 Z
 obtain ⟨g95,o95,cs95,hv95,hrk_hat95,hat95⟩:=(hP79 5 29 rfl rfl)
 obtain rfl:=rTerm_iff.1 hrk_hat95
 refine fA o95 fa_126_0 hv95 rfl (L_nil ⟨rfl,_,_,rfl,Le.refl _,fun _ _=>⟨_,_,_,rfl,hrk_hat95,hat95⟩,Z⟩)
 refine opsS_cons ?_ ?_
 intro f w_ H79 X79 hS79 hE79 hP79 Z
 obtain ⟨g97,o97,cs97,hv97,hrk_hat97,hat97⟩:=(hP79 6 30 rfl rfl)
 obtain rfl:=rTerm_iff.1 hrk_hat97
 refine L_ld rfl Tryz.isAgg3 hv97 (At.cell (AtH.at hat97 Z.sub) (j:=0) rfl) (L_nil ⟨rfl,_,_,rfl,Le.refl _,fun _ _=>rfl,Z⟩)
 refine opsS_cons (fun f w_ _ _ s _ _ Z=>fA 0 fa_74_0 ((s 1 rfl).trans sf1) rfl (nO rfl rfl Z)) (opsS_cons (fun f w_ _ _ _ _ p Z=>ldB 3 Z Tryz.isAgg72 (p 8 32 rfl rfl) rfl rfl (nO rfl rfl Z)) (opsS_cons (fun f w_ _ _ s _ _ Z=>mF ((s 5 rfl).trans sf5) rfl (nO rfl rfl Z)) (opsS_cons ?_ ?_)))
 intro f w_ H79 X79 hS79 hE79 hP79 Z
 refine L_ix (r:=rTerm) rfl Tryz.underlying72 Tryz.sizeOf126 (hP79 9 33 rfl rfl) (RP.mono _ h0_0 (Le.trans (Le.trans hE36 l59) hE79)) (hP79 10 34 rfl rfl) hix60 (fun g99 o100 cs_g99 hrk_hat101 hat101=>?_)
 obtain rfl:=rTerm_iff.1 hrk_hat101
 exact L_nil ⟨rfl,_,_,rfl,Le.refl _,fun _ _=>⟨_,_,_,rfl,hrk_hat101,hat101⟩,Z⟩
 refine opsS_cons ?_ ?_
 intro f w_ H79 X79 hS79 hE79 hP79 Z
 obtain ⟨g103,o103,cs103,hv103,hrk_hat103,hat103⟩:=(hP79 11 35 rfl rfl)
 obtain rfl:=rTerm_iff.1 hrk_hat103
 refine fA (o103 + 1) fa_126_1 hv103 rfl (L_nil ⟨rfl,_,_,rfl,Le.refl _,fun _ _=>⟨_,_,_,rfl,hrk_hat103,hat103⟩,Z⟩)
 refine opsS_cons ?_ ?_
 intro f w_ H79 X79 hS79 hE79 hP79 Z
 obtain ⟨g105,o105,cs105,hv105,hrk_hat105,hat105⟩:=(hP79 12 36 rfl rfl)
 obtain rfl:=rTerm_iff.1 hrk_hat105
 refine L_ld rfl Tryz.isAgg3 hv105 (At.cell (AtH.at hat105 Z.sub) (j:=1) rfl) (L_nil ⟨rfl,_,_,rfl,Le.refl _,fun _ _=>rfl,Z⟩)
 refine opsS_cons (fun f w_ _ _ _ _ p Z=>L_neg rfl (p 13 37 rfl rfl) (nO rfl rfl Z)) (opsS_cons (fun f w_ _ _ _ _ p Z=>L_bld rfl (parts2 (p 7 31 rfl rfl) (p 14 38 rfl rfl)) (bld_126_0_1 (I x_60.coef) (I (i64 (-x_60.lit))) rfl rfl) (nO rfl rfl Z)) (opsS_cons ?_ ?_))
 intro f w_ H79 X79 hS79 hE79 hP79 Z
 refine L_bs rfl (parts1 (hP79 15 39 rfl rfl)) (bs_72_1_2 (I x_60.coef) (I (i64 (-x_60.lit))) ) Z (fun g107 w108 Z=>?_)
 have Z:=Star.addF (r:=rTerm) (cs:=[I x_60.coef,I (i64 (-x_60.lit))]) (x:=({ coef:=x_60.coef,lit:=i64 (-x_60.lit) } : Term)) Z (rTerm_iff.2 rfl)
 have Z:=Star.mkRow (R:=(OR.frz rTerm)) [([I x_60.coef,I (i64 (-x_60.lit))],({ coef:=x_60.coef,lit:=i64 (-x_60.lit) } : Term))] [({ coef:=x_60.coef,lit:=i64 (-x_60.lit) } : Term)] 1 Z rfl rfl rfl (by decide)
 have Z:=Z.gets [4,4,4,4] rfl
 exact L_nil ⟨rfl,_,_,rfl,Le.refl _,fun _ _=>trivial,Z⟩
 exact opsS_nil
 have Z : Star H79 w_ ([oF 126 rTerm v56_g53_0 g53_0_56,box g53 74 #[v56_g53_0,I (i64 ((i64 (x31 - c.bound)) + 1))],box g7 74 #[S0,I 0],box g5 74 #[v0_0,I c.bound],oF 126 rTerm (f 40) ([({ coef:=x_60.coef,lit:=i64 (-x_60.lit) } : Term)])]):=Z
 have Z:=Z.gets [4,1] rfl
 refine L_appM (v:=v56_g53_0) (u:=(f 40)) rfl et_72 (hT79 1 25 rfl rfl) rfl Z hx74 (fun v111 w112 Z=>fA 0 fa_74_0 ((hS79 4 rfl).trans sf4) rfl (L_stB (v:=v111) (cs2:=#[v111,I (i64 ((i64 (x31 - c.bound)) + 1))]) 1 rfl Tryz.sizeOf72 rfl rfl (one_len (Star.len 0 Z rfl)) Z rfl rfl rfl (fun w114 Z=>nn (W_region (mF ((hS79 5 rfl).trans sf5) rfl (L_add rfl rfl rfl (aI rfl (nn ?_))))))))
 obtain rfl:=so hB60
 have Z:=Z.gets [3,3,2,3] rfl
 show ∃ m,m < _∧I60 m _ _
 refine ⟨rest60.length,by simp,?_⟩
 exact ij hI60 ⟨i_55 + 1,rest60,x74,H79,v111,rfl,drop_next hd60,by simp at hl60; omega,hL60,(Le.trans l59 hE79),((hS79 1 rfl).trans sf1),((hS79 2 rfl).trans sf2),((hS79 4 rfl).trans sf4),(Eq.trans rfl (congrArg (Value.int .i64) (i64_succ (n:=c.terms.length) (by simp at hl60; omega) hlen60))),Z⟩
 rcases suf60 with _ | ⟨_,_⟩
 obtain rfl:=range_nil hL60
 refine W_exit (rj hR60 ⟨g53_0_56,H58,v56_g53_0,rfl,l59,sf2,sf4,(Star.keepN 3 Z)⟩)
 exact absurd (of_decide_eq_false hc62) (by simp at hl60; omega)
 intro f w_ hR
 obtain ⟨g53_0_56,H58,v56_g53_0,rfl,l59,sf2,sf4,Z⟩:=rk hR60 hR
 refine W_seq (sq (fA 1 fa_74_1 sf4 rfl (ldB 1 Z Tryz.isAgg3 rfl rfl rfl (L_lss rfl rfl rfl (nn ?_)))))
 obtain ⟨g53_1_115,hA116,hF⟩:=bind_some hF
 obtain ⟨R116,hR116⟩:=exR fun f w_=>f 2 = Pt g7∧f 4 = Pt g53∧Star H58 w_ ([oF 126 rTerm v56_g53_0 g53_0_56,box g53 74 #[v56_g53_0,I g53_1_115],box g7 74 #[S0,I 0]])
 refine W_join R116 ?_ ?_
 refine W_cond (b:=decide ((i64 ((i64 (x31 - c.bound)) + 1)) < 0)) rfl (fun hc117=>?_) (fun hc117=>?_)
 have hA116:=(ite_t hc117).symm.trans hA116
 refine W_region (fA 1 fa_74_1 sf4 rfl (L_stB (v:=I 0) (cs2:=#[v56_g53_0,I 0]) 1 rfl Tryz.sizeOf3 rfl rfl rfl Z rfl rfl rfl (fun w119 Z=>nn ?_)))
 obtain rfl:=so hA116
 have Z:=Z.gets [2,1,2] rfl
 exact rj hR116 ⟨sf2,sf4,Z⟩
 have hA116:=(ite_f hc117).symm.trans hA116
 refine W_skip ?_
 obtain rfl:=so hA116
 exact rj hR116 ⟨sf2,sf4,Z⟩
 intro f w_ hR
 obtain ⟨sf2,sf4,Z⟩:=rk hR116 hR
 refine sq (L_lda (cs:=[v56_g53_0,I g53_1_115]) rfl Tryz.isAgg74 Tryz.sizeOf74 sf4 (At.sub0 (Blk.at (Star.blkAt 1 Z rfl)) 0 2) rfl (L_staB (vs:=#[v56_g53_0,I g53_1_115]) (cs2:=#[v56_g53_0,I g53_1_115]) 2 rfl Tryz.sizeOf74 sf2 rfl rfl (ones_cons (one_len (Star.len 0 Z rfl)) (ones_cons rfl ones_nil)) Z rfl (by show 0 + 2≤2; decide) rfl (fun w121 Z=>aB rfl (nn (W_ret (retG2 (v1:=.agg #[v56_g53_0,I g53_1_115]) (v2:=Bo true) Tryz.results202 (resV_agg Tryz.isAgg74 Tryz.sizeOf74 sf2 (Star.blkAt 0 Z rfl) rfl) rfl ?_))))))
 obtain rfl:=so hF
 have Z:=Z.get 1 rfl
 exact ⟨v56_g53_0,rfl,(Star.down (Star.keepN 1 Z) (Le.trans hE36 l59) (co closed_term c0))⟩
theorem s_l3State_c {p : List Int} {lit : Int} {v0 : Value} {H : FH} {w : World} (Z : Star H w []) (h0 : (rS 3 RP.int).rel H [v0] p) {r : Int} (hF : s_l3State p lit = some r) :
 C Tryz.prog 213 #[v0,I lit] w fun v w'=>v = I r∧Star H w' []:=by
 unfold s_l3State at hF
 refine C_enter Tryz.func213 rfl Tryz.ntmps213 rfl (sq (aI rfl (nq (sq (mI rfl (L_gtr rfl rfl rfl (nn (W_cond (b:=decide (lit > 0)) rfl (fun hc1=>?_) (fun hc1=>?_)))))))))
 have hF:=(ite_t hc1).symm.trans hF
 refine W_seq ?_
 obtain ⟨x2,hx2,hF⟩:=bind_some hF
 refine W_region (mV v0 rfl (mI rfl (L_sub rfl rfl rfl (L_ix (r:=RP.int) rfl Tryz.underlying22 Tryz.sizeOf3 rfl h0 rfl hx2 (fun g7 o8 cs_g7 hrk_hat9 hat9=>?_)))))
 obtain rfl : _ = [_]:=hrk_hat9
 refine L_ld rfl Tryz.isAgg3 rfl (At.cell (AtH.at hat9 Z.sub) (j:=0) rfl) (aI rfl (nn (W_ret (retG1 (v1:=I x2) Tryz.results213 rfl ?_))))
 obtain rfl:=so hF
 exact ⟨rfl,Z⟩
 have hF:=(ite_f hc1).symm.trans hF
 refine W_skip (W_seq ?_)
 obtain ⟨x11,hx11,hF⟩:=bind_some hF
 refine W_region (mV v0 rfl (mI rfl (L_neg rfl rfl (L_sub rfl rfl rfl (L_ix (r:=RP.int) rfl Tryz.underlying22 Tryz.sizeOf3 rfl h0 rfl hx11 (fun g16 o17 cs_g16 hrk_hat18 hat18=>?_))))))
 obtain rfl : _ = [_]:=hrk_hat18
 refine L_ld rfl Tryz.isAgg3 rfl (At.cell (AtH.at hat18 Z.sub) (j:=0) rfl) (L_neg rfl rfl (aI rfl (nn (W_ret (retG1 (v1:=I (i64 (-x11))) Tryz.results213 rfl ?_)))))
 obtain rfl:=so hF
 exact ⟨rfl,Z⟩
theorem s_l3Slack_c {c : Con} {p : List Int} {v0_0 : Value} {v1 : Value} {H : FH} {w : World} (Z : Star H w []) (h0_0 : (rS 126 rTerm).rel H [v0_0] c.terms) (h1 : (rS 3 RP.int).rel H [v1] p) {r : Int} (hF : s_l3Slack c p = some r) :
 C Tryz.prog 210 #[.agg #[v0_0,I c.bound],v1] w fun v w'=>v = I r∧Star H w' []:=by
 unfold s_l3Slack at hF
 refine C_enter Tryz.func210 rfl Tryz.ntmps210 rfl (sq (L_box (v:=.agg #[v0_0,I c.bound]) (cs:=#[v0_0,I c.bound]) rfl rfl rfl Z (fun g3 w4 Z=>aI rfl (ns (fA 1 fa_74_1 rfl rfl (ldB 0 Z Tryz.isAgg3 rfl rfl rfl (L_neg rfl rfl (aI rfl (nq (sq (aI rfl (nn ?_))))))))))))
 have hlen7 : List.length c.terms≤9223372036854775807:=len_le (slice_len h0_0)
 obtain ⟨j7,hL7,hF⟩:=bind_some hF
 obtain ⟨R7,hR7⟩:=exR fun f w_=>∃ n_6 : Int,j7 = .nx n_6∧f 5 = I n_6∧Star H w_ ([])
 refine W_join R7 ?_ ?_
 refine W_block ?_
 obtain ⟨I7,hI7⟩:=exI fun n f w_=>∃ i_5 : Nat,∃ suf7 : List Term,∃ n_6 : Int,n = suf7.length∧List.drop i_5 c.terms = suf7∧i_5 + suf7.length = c.terms.length∧rangeL (s_l3Slack_b1 p) suf7 i_5 n_6 = some j7∧f 1 = v1∧f 2 = Pt g3∧f 5 = I n_6∧f 6 = I i_5∧Star H w_ ([box g3 74 #[v0_0,I c.bound]])
 refine W_loop I7 (n:=c.terms.length) ?_ ?_
 exact ij hI7 ⟨0,c.terms,i64 (-c.bound),rfl,rfl,Nat.zero_add _,hL7,rfl,rfl,rfl,rfl,Z⟩
 intro n7 f w_ hI
 obtain ⟨i_5,suf7,n_6,rfl,hd7,hl7,hL7,sf1,sf2,sf5,sf6,Z⟩:=ik hI7 hI
 refine W_seq (sq (mF sf6 rfl (fA 0 fa_74_0 sf2 rfl (ldB 0 Z Tryz.isAgg72 rfl rfl rfl (L_len rfl Tryz.underlying72 rfl (slice_len h0_0) (L_lss rfl rfl rfl (nn (W_cond (b:=decide ((i_5 : Int) < (c.terms.length : Int))) rfl (fun hc8=>?_) (fun hc8=>?_)))))))))
 have hlt7:=of_decide_eq_true hc8
 rcases suf7 with _ | ⟨x_7,rest7⟩
 exact absurd hlt7 (by simp at hl7; omega)
 obtain ⟨o7,hB7,hL7⟩:=range_cons hL7
 rw [s_l3Slack_b1] at hB7
 have hix7:=drop_idx hd7
 refine W_skip (W_seq (W_block (W_seq ?_)))
 obtain ⟨x18,hx18,hB7⟩:=bind_some hB7
 refine W_region (mF sf1 rfl (fA 0 fa_74_0 sf2 rfl (ldB 0 Z Tryz.isAgg72 rfl rfl rfl (mF sf6 rfl (L_ix (r:=rTerm) rfl Tryz.underlying72 Tryz.sizeOf126 rfl h0_0 rfl hix7 (fun g20 o21 cs_g20 hrk_hat22 hat22=>?_))))))
 obtain rfl:=rTerm_iff.1 hrk_hat22
 refine fA (o21 + 1) fa_126_1 rfl rfl (L_ld rfl Tryz.isAgg3 rfl (At.cell (AtH.at hat22 Z.sub) (j:=1) rfl) ?_)
 obtain ⟨H24b,l25,s26,z27,k28⟩:=Z.borrow
 refine L_call rfl Tryz.call213 (ops2 rfl rfl) (s_l3State_c (p:=p) (lit:=x_7.lit) s26 (RP.mono _ h1 l25) hx18) ?_
 rintro _ w29 ⟨rfl,Z⟩
 have Z:=k28 Z c0
 refine L_geq rfl rfl rfl (nn ?_)
 obtain ⟨n_30,hA31,hB7⟩:=bind_some hB7
 obtain ⟨R31,hR31⟩:=exR fun f w_=>f 1 = v1∧f 2 = Pt g3∧f 5 = I n_30∧f 6 = I i_5∧Star H w_ ([box g3 74 #[v0_0,I c.bound]])
 refine W_join R31 ?_ ?_
 refine W_cond (b:=decide (x18 ≥ 0)) rfl (fun hc32=>?_) (fun hc32=>?_)
 have hA31:=(ite_t hc32).symm.trans hA31
 refine W_region (mF sf5 rfl (fA 0 fa_74_0 sf2 rfl (ldB 0 Z Tryz.isAgg72 rfl rfl rfl (mF sf6 rfl (L_ix (r:=rTerm) rfl Tryz.underlying72 Tryz.sizeOf126 rfl h0_0 rfl hix7 (fun g37 o38 cs_g37 hrk_hat39 hat39=>?_))))))
 obtain rfl:=rTerm_iff.1 hrk_hat39
 refine fA o38 fa_126_0 rfl rfl (L_ld rfl Tryz.isAgg3 rfl (At.cell (AtH.at hat39 Z.sub) (j:=0) rfl) (L_add rfl rfl rfl (aI rfl (nn ?_))))
 obtain rfl:=so hA31
 exact rj hR31 ⟨sf1,sf2,rfl,sf6,Z⟩
 have hA31:=(ite_f hc32).symm.trans hA31
 refine W_skip ?_
 obtain rfl:=so hA31
 exact rj hR31 ⟨sf1,sf2,sf5,sf6,Z⟩
 intro f w_ hR
 obtain ⟨sf1,sf2,sf5,sf6,Z⟩:=rk hR31 hR
 refine W_region (mF sf6 rfl (L_add rfl rfl rfl (aI rfl (nn ?_))))
 obtain rfl:=so hB7
 show ∃ m,m < _∧I7 m _ _
 refine ⟨rest7.length,by simp,?_⟩
 exact ij hI7 ⟨i_5 + 1,rest7,n_30,rfl,drop_next hd7,by simp at hl7; omega,hL7,sf1,sf2,sf5,(Eq.trans rfl (congrArg (Value.int .i64) (i64_succ (n:=c.terms.length) (by simp at hl7; omega) hlen7))),Z⟩
 rcases suf7 with _ | ⟨_,_⟩
 obtain rfl:=range_nil hL7
 refine W_exit (rj hR7 ⟨n_6,rfl,sf5,(Star.keepN 0 Z)⟩)
 exact absurd (of_decide_eq_false hc8) (by simp at hl7; omega)
 intro f w_ hR
 obtain ⟨n_6,rfl,sf5,Z⟩:=rk hR7 hR
 refine sq (mF sf5 rfl (aI rfl (nn (W_ret (retG1 (v1:=I n_6) Tryz.results210 rfl ?_)))))
 obtain rfl:=so hF
 exact ⟨rfl,Z⟩
theorem s_l3Implied_c {fu : Nat} {c : Con} {p : List Int} {v0_0 : Value} {v1 : Value} {H : FH} {w : World} (Z : Star H w []) (h0_0 : (rS 126 rTerm).rel H [v0_0] c.terms) (h1 : (rS 3 RP.int).rel H [v1] p) {r : List Int} (hF : s_l3Implied fu c p = some r) :
 C Tryz.prog 211 #[.agg #[v0_0,I c.bound],v1] w fun v w'=>∃ (u1 : Value),v = u1∧Star H w' [oF 3 RP.int u1 r]:=by
 unfold s_l3Implied at hF
 refine C_enter Tryz.func211 rfl Tryz.ntmps211 rfl (sq (L_box (v:=.agg #[v0_0,I c.bound]) (cs:=#[v0_0,I c.bound]) rfl rfl rfl Z (fun g3 w4 Z=>aV S0 rfl (ns (L_bs rfl parts0 (bs_22_0  ) Z (fun g8 w9 Z=>?_))))))
 have Z:=Star.mkRow (R:=(OR.frz RP.int)) [] [] 0 Z rfl rfl rfl (by decide)
 refine aV (Sl g8 0 0) rfl (nq ?_)
 obtain ⟨x16,hx16,hF⟩:=bind_some hF
 refine W_region (L_lda (cs:=[v0_0,I c.bound]) rfl Tryz.isAgg74 Tryz.sizeOf74 rfl (At.sub0 (Blk.at (Star.blkAt 1 Z rfl)) 0 2) rfl (mV v1 rfl ?_))
 obtain ⟨H18b,l19,s20,z21,k22⟩:=Z.borrow
 refine L_call rfl Tryz.call210 (ops2 rfl rfl) (s_l3Slack_c (c:=c) (p:=p) s20 (RP.mono _ h0_0 l19) (RP.mono _ h1 l19) hx16) ?_
 rintro _ w23 ⟨rfl,Z⟩
 have Z:=k22 Z c0
 refine aI rfl (nq (sq (aI rfl (nn ?_))))
 obtain ⟨j30,hL30,hF⟩:=bind_some hF
 obtain ⟨R30,hR30⟩:=exR fun f w_=>∃ out_27 : List Int,∃ i_29 : Int,∃ v27_out : Value,j30 = .nx (out_27,i_29)∧f 5 = v27_out∧Star H w_ ([oF 3 RP.int v27_out out_27])
 refine W_join R30 ?_ ?_
 refine W_block ?_
 obtain ⟨I30,hI30⟩:=exI fun n f w_=>∃ out_27 : List Int,∃ i_29 : Int,∃ v27_out : Value,whileL (s_l3Implied_b1 c p x16) n (out_27,i_29) = some j30∧f 1 = v1∧f 2 = Pt g3∧f 5 = v27_out∧f 6 = I x16∧f 7 = I i_29∧Star H w_ ([oF 3 RP.int v27_out out_27,box g3 74 #[v0_0,I c.bound]])
 refine W_loop I30 (n:=fu) ?_ ?_
 exact ij hI30 ⟨[],0,(Sl g8 0 0),hL30,rfl,rfl,rfl,rfl,rfl,Z⟩
 intro n30 f w_ hI
 obtain ⟨out_27,i_29,v27_out,hL30,sf1,sf2,sf5,sf6,sf7,Z⟩:=ik hI30 hI
 rcases n30 with _ | n30
 exact (while_zero hL30).elim
 obtain ⟨o30,hB30,hL30⟩:=while_succ hL30
 rw [s_l3Implied_b1] at hB30
 refine W_seq (W_seq ?_)
 obtain ⟨R31,hR31⟩:=exR fun f w_=>f 1 = v1∧f 2 = Pt g3∧f 5 = v27_out∧f 6 = I x16∧f 7 = I i_29∧f 20 = Bo ((decide (i_29 < (c.terms.length : Int))) && (decide (x16 ≥ 0)))∧Star H w_ ([oF 3 RP.int v27_out out_27,box g3 74 #[v0_0,I c.bound]])
 refine W_join R31 ?_ ?_
 refine W_region (mF sf7 rfl (fA 0 fa_74_0 sf2 rfl (ldB 1 Z Tryz.isAgg72 rfl rfl rfl (L_len rfl Tryz.underlying72 rfl (slice_len h0_0) (L_lss rfl rfl rfl (mB rfl (L_split (d:=17) (b:=decide (i_29 < (c.terms.length : Int))) rfl (fun hc32=>?_) (fun hc32=>?_))))))))
 refine mF sf6 rfl (L_geq rfl rfl rfl (L_pick (v:=Bo ((decide (i_29 < (c.terms.length : Int))) && (decide (x16 ≥ 0)))) rfl rfl (and_t hc32 rfl) (nn (rj hR31 ⟨sf1,sf2,sf5,sf6,sf7,rfl,Z⟩))))
 refine ps rfl (ps rfl (L_pick (v:=Bo ((decide (i_29 < (c.terms.length : Int))) && (decide (x16 ≥ 0)))) rfl rfl (and_f hc32) (nn (rj hR31 ⟨sf1,sf2,sf5,sf6,sf7,rfl,Z⟩))))
 intro f w_ hR
 obtain ⟨sf1,sf2,sf5,sf6,sf7,sf20,Z⟩:=rk hR31 hR
 refine W_cond (b:=((decide (i_29 < (c.terms.length : Int))) && (decide (x16 ≥ 0)))) sf20 (fun hc33=>?_) (fun hc33=>?_)
 have hB30:=(ite_t hc33).symm.trans hB30
 refine W_skip (W_seq (W_block (W_seq ?_)))
 obtain ⟨x34,hx34,hB30⟩:=bind_some hB30
 obtain ⟨x44,hx44,hB30⟩:=bind_some hB30
 obtain ⟨R50,hR50⟩:=exR fun f w_=>f 1 = v1∧f 2 = Pt g3∧f 5 = v27_out∧f 6 = I x16∧f 7 = I i_29∧f 41 = Bo ((x44 == 0) && (decide (x34.coef > x16)))∧Star H w_ ([oF 3 RP.int v27_out out_27,box g3 74 #[v0_0,I c.bound]])
 refine W_join R50 ?_ ?_
 refine W_region (mF sf1 rfl (fA 0 fa_74_0 sf2 rfl (ldB 1 Z Tryz.isAgg72 rfl rfl rfl (mF sf7 rfl (L_ix (r:=rTerm) rfl Tryz.underlying72 Tryz.sizeOf126 rfl h0_0 rfl hx34 (fun g51 o52 cs_g51 hrk_hat53 hat53=>?_))))))
 obtain rfl:=rTerm_iff.1 hrk_hat53
 refine fA (o52 + 1) fa_126_1 rfl rfl (L_ld rfl Tryz.isAgg3 rfl (At.cell (AtH.at hat53 Z.sub) (j:=1) rfl) ?_)
 obtain ⟨H55b,l56,s57,z58,k59⟩:=Z.borrow
 refine L_call rfl Tryz.call213 (ops2 rfl rfl) (s_l3State_c (p:=p) (lit:=x34.lit) s57 (RP.mono _ h1 l56) hx44) ?_
 rintro _ w60 ⟨rfl,Z⟩
 have Z:=k59 Z c0
 refine L_eql rfl rfl rfl (mB rfl (L_split (d:=32) (b:=(x44 == 0)) rfl (fun hc61=>?_) (fun hc61=>?_)))
 refine fA 0 fa_74_0 sf2 rfl (ldB 1 Z Tryz.isAgg72 rfl rfl rfl (mF sf7 rfl (L_ix (r:=rTerm) rfl Tryz.underlying72 Tryz.sizeOf126 rfl h0_0 rfl hx34 (fun g62 o63 cs_g62 hrk_hat64 hat64=>?_))))
 obtain rfl:=rTerm_iff.1 hrk_hat64
 refine fA o63 fa_126_0 rfl rfl (L_ld rfl Tryz.isAgg3 rfl (At.cell (AtH.at hat64 Z.sub) (j:=0) rfl) (mF sf6 rfl (L_gtr rfl rfl rfl (L_pick (v:=Bo ((x44 == 0) && (decide (x34.coef > x16)))) rfl rfl (and_t hc61 rfl) (nn (rj hR50 ⟨sf1,sf2,sf5,sf6,sf7,rfl,Z⟩))))))
 refine ps rfl (ps rfl (ps rfl (ps rfl (ps rfl (ps rfl (ps rfl (ps rfl (L_pick (v:=Bo ((x44 == 0) && (decide (x34.coef > x16)))) rfl rfl (and_f hc61) (nn (rj hR50 ⟨sf1,sf2,sf5,sf6,sf7,rfl,Z⟩))))))))))
 intro f w_ hR
 obtain ⟨sf1,sf2,sf5,sf6,sf7,sf41,Z⟩:=rk hR50 hR
 obtain ⟨out_66,hA68,hB30⟩:=bind_some hB30
 obtain ⟨R68,hR68⟩:=exR fun f w_=>∃ v66_out : Value,f 1 = v1∧f 2 = Pt g3∧f 5 = v66_out∧f 6 = I x16∧f 7 = I i_29∧Star H w_ ([oF 3 RP.int v66_out out_66,box g3 74 #[v0_0,I c.bound]])
 refine W_join R68 ?_ ?_
 refine W_cond (b:=((x44 == 0) && (decide (x34.coef > x16)))) sf41 (fun hc69=>?_) (fun hc69=>?_)
 have hA68:=(ite_t hc69).symm.trans hA68
 obtain ⟨x77,hx77,hA68⟩:=bind_some hA68
 refine W_region (mF sf5 rfl (fA 0 fa_74_0 sf2 rfl (ldB 1 Z Tryz.isAgg72 rfl rfl rfl (mF sf7 rfl (L_ix (r:=rTerm) rfl Tryz.underlying72 Tryz.sizeOf126 rfl h0_0 rfl hx34 (fun g81 o82 cs_g81 hrk_hat83 hat83=>?_))))))
 obtain rfl:=rTerm_iff.1 hrk_hat83
 refine fA (o82 + 1) fa_126_1 rfl rfl (L_ld rfl Tryz.isAgg3 rfl (At.cell (AtH.at hat83 Z.sub) (j:=1) rfl) (L_bs rfl (parts1 rfl) (bs_22_1_0 (I x34.lit) rfl) Z (fun g85 w86 Z=>?_)))
 have Z:=Star.addF (r:=RP.int) (cs:=[I x34.lit]) (x:=x34.lit) Z rfl
 have Z:=Star.mkRow (R:=(OR.frz RP.int)) [([I x34.lit],x34.lit)] [x34.lit] 1 Z rfl rfl rfl (by decide)
 have Z:=Z.get 1 rfl
 refine L_appM (v:=v27_out) (u:=(Sl g85 1 1)) rfl et_22 rfl rfl Z hx77 (fun v88 w89 Z=>aV v88 rfl (nn ?_))
 obtain rfl:=so hA68
 exact rj hR68 ⟨v88,sf1,sf2,rfl,sf6,sf7,Z⟩
 have hA68:=(ite_f hc69).symm.trans hA68
 refine W_skip ?_
 obtain rfl:=so hA68
 exact rj hR68 ⟨v27_out,sf1,sf2,sf5,sf6,sf7,Z⟩
 intro f w_ hR
 obtain ⟨v66_out,sf1,sf2,sf5,sf6,sf7,Z⟩:=rk hR68 hR
 refine W_region (mF sf7 rfl (L_add rfl rfl rfl (aI rfl (nn ?_))))
 obtain rfl:=so hB30
 show ∃ m,m < _∧I30 m _ _
 refine ⟨n30,Nat.lt_succ_self _,?_⟩
 exact ij hI30 ⟨out_66,i64 (i_29 + 1),v66_out,hL30,sf1,sf2,sf5,sf6,rfl,Z⟩
 have hB30:=(ite_f hc33).symm.trans hB30
 refine W_exit ?_
 obtain rfl:=so hB30
 obtain rfl:=so hL30
 exact rj hR30 ⟨out_27,i_29,v27_out,rfl,sf5,(Star.keepN 1 Z)⟩
 intro f w_ hR
 obtain ⟨out_27,i_29,v27_out,rfl,sf5,Z⟩:=rk hR30 hR
 refine sq (mF sf5 rfl (aV v27_out rfl (nn (W_ret (retG1 (v1:=v27_out) Tryz.results211 rfl ?_)))))
 obtain rfl:=so hF
 exact ⟨v27_out,rfl,Z⟩
theorem s_l3Assign_c {p : List Int} {lit : Int} {v0 : Value} {H : FH} {w : World} (Z : Star H w [oF 3 RP.int v0 p]) {r : List Int} (hF : s_l3Assign p lit = some r) :
 C Tryz.prog 212 #[v0,I lit] w fun v w'=>v = .tuple #[]∧Star H w' [oF 3 RP.int v0 r]:=by
 unfold s_l3Assign at hF
 refine C_enter Tryz.func212 rfl Tryz.ntmps212 rfl (sq (mI rfl (L_gtr rfl rfl rfl (nn ?_))))
 obtain ⟨kp_1,hA2,hF⟩:=bind_some hF
 obtain ⟨R2,hR2⟩:=exR fun f w_=>Star H w_ ([oF 3 RP.int v0 kp_1])
 refine W_join R2 ?_ ?_
 refine W_cond (b:=decide (lit > 0)) rfl (fun hc3=>?_) (fun hc3=>?_)
 have hA2:=(ite_t hc3).symm.trans hA2
 obtain ⟨x4,hx4,hA2⟩:=bind_some hA2
 refine W_region (mV v0 rfl (mI rfl (L_sub rfl rfl rfl ?_)))
 obtain ⟨g8,cap_g8,hv9,_,_⟩:=Star.row 0 Z rfl hx4
 refine L_ixO (R:=(OR.frz RP.int)) (tb:=0) 0 rfl Tryz.underlying22 Tryz.sizeOf3 rfl hv9 (by first | rfl | simp) rfl hx4 ?_
 have Z:=Star.addF (r:=RP.int) (cs:=[I 1]) (x:=1) Z rfl
 refine L_stE1 (u:=I 1) rfl Tryz.sizeOf3 rfl rfl rfl hv9 Z hx4 (fun w10 Z=>?_)
 refine nn ?_
 obtain rfl:=so hA2
 exact rj hR2 Z
 have hA2:=(ite_f hc3).symm.trans hA2
 obtain ⟨x11,hx11,hA2⟩:=bind_some hA2
 refine W_region (mV v0 rfl (mI rfl (L_neg rfl rfl (L_sub rfl rfl rfl ?_))))
 obtain ⟨g15,cap_g15,hv16,_,_⟩:=Star.row 0 Z rfl hx11
 refine L_ixO (R:=(OR.frz RP.int)) (tb:=0) 0 rfl Tryz.underlying22 Tryz.sizeOf3 rfl hv16 (by first | rfl | simp) rfl hx11 ?_
 have Z:=Star.addF (r:=RP.int) (cs:=[I (-1)]) (x:=(-1)) Z rfl
 refine L_stE1 (u:=I (-1)) rfl Tryz.sizeOf3 rfl rfl rfl hv16 Z hx11 (fun w17 Z=>?_)
 refine nn ?_
 obtain rfl:=so hA2
 exact rj hR2 Z
 intro f w_ hR
 rw [hR2] at hR
 have Z:=hR
 clear hR2
 refine ret0 Tryz.results212 ?_
 obtain rfl:=so hF
 exact ⟨rfl,Z⟩
theorem s_l3Propagate_c {fu : Nat} {list : List Con} {p : List Int} {v0 : Value} {v1 : Value} {H : FH} {w : World} (Z : Star H w [oF 3 RP.int v1 p]) (h0 : (rS 74 (rCon 126)).rel H [v0] list) {r : Int × (List Int)} (hF : s_l3Propagate fu list p = some r) :
 C Tryz.prog 203 #[v0,v1] w fun v w'=>v = I r.1∧Star H w' [oF 3 RP.int v1 r.2]:=by
 unfold s_l3Propagate at hF
 refine C_enter Tryz.func203 rfl Tryz.ntmps203 rfl (sq (aI rfl (nq (sq (aB rfl (nn ?_))))))
 obtain ⟨j4,hL4,hF⟩:=bind_some hF
 obtain ⟨R4,hR4⟩:=exR fun f w_=>∃ p_2 : List Int,∃ changed_3 : Bool,j4 = .nx (p_2,changed_3)∧Star H w_ ([oF 3 RP.int v1 p_2])
 refine W_join R4 ?_ ?_
 refine W_block ?_
 obtain ⟨I4,hI4⟩:=exI fun n f w_=>∃ p_2 : List Int,∃ changed_3 : Bool,whileL (s_l3Propagate_b1 fu list) n (p_2,changed_3) = some j4∧f 0 = v0∧f 1 = v1∧f 5 = Bo changed_3∧Star H w_ ([oF 3 RP.int v1 p_2])
 refine W_loop I4 (n:=fu) ?_ ?_
 exact ij hI4 ⟨p,true,hL4,rfl,rfl,rfl,Z⟩
 intro n4 f w_ hI
 obtain ⟨p_2,changed_3,hL4,sf0,sf1,sf5,Z⟩:=ik hI4 hI
 rcases n4 with _ | n4
 exact (while_zero hL4).elim
 obtain ⟨o4,hB4,hL4⟩:=while_succ hL4
 rw [s_l3Propagate_b1] at hB4
 refine W_seq (sq (mF sf5 rfl (nn (W_cond (b:=changed_3) rfl (fun hc5=>?_) (fun hc5=>?_)))))
 have hB4:=(ite_t hc5).symm.trans hB4
 refine W_skip (W_block (sq (aB rfl (ns (aI rfl (nn ?_))))))
 have hlen9 : List.length list≤9223372036854775807:=len_le (slice_len h0)
 obtain ⟨j9,hL9,hB4⟩:=bind_some hB4
 obtain ⟨R9,hR9⟩:=exR fun f w_=>∃ p_7 : List Int,∃ changed_8 : Bool,j9 = .nx (p_7,changed_8)∧f 0 = v0∧f 1 = v1∧f 5 = Bo changed_8∧Star H w_ ([oF 3 RP.int v1 p_7])
 refine W_join R9 ?_ ?_
 refine W_block ?_
 obtain ⟨I9,hI9⟩:=exI fun n f w_=>∃ i_6 : Nat,∃ suf9 : List Con,∃ p_7 : List Int,∃ changed_8 : Bool,n = suf9.length∧List.drop i_6 list = suf9∧i_6 + suf9.length = list.length∧rangeL (s_l3Propagate_b2 fu) suf9 i_6 (p_7,changed_8) = some j9∧f 0 = v0∧f 1 = v1∧f 5 = Bo changed_8∧f 6 = I i_6∧Star H w_ ([oF 3 RP.int v1 p_7])
 refine W_loop I9 (n:=list.length) ?_ ?_
 exact ij hI9 ⟨0,list,p_2,false,rfl,rfl,Nat.zero_add _,hL9,sf0,sf1,rfl,rfl,Z⟩
 intro n9 f w_ hI
 obtain ⟨i_6,suf9,p_7,changed_8,rfl,hd9,hl9,hL9,sf0,sf1,sf5,sf6,Z⟩:=ik hI9 hI
 refine W_seq (sq (mF sf6 rfl (mF sf0 rfl (L_len rfl Tryz.underlying82 rfl (slice_len h0) (L_lss rfl rfl rfl (nn (W_cond (b:=decide ((i_6 : Int) < (list.length : Int))) rfl (fun hc10=>?_) (fun hc10=>?_))))))))
 have hlt9:=of_decide_eq_true hc10
 rcases suf9 with _ | ⟨x_9,rest9⟩
 exact absurd hlt9 (by simp at hl9; omega)
 obtain ⟨o9,hB9,hL9⟩:=range_cons hL9
 rw [s_l3Propagate_b2] at hB9
 have hix9:=drop_idx hd9
 refine W_skip (W_seq (W_block (W_seq (W_seq ?_))))
 obtain ⟨x21,hx21,hB9⟩:=bind_some hB9
 refine W_region (mF sf0 rfl (mF sf6 rfl (L_ix (r:=(rCon 126)) rfl Tryz.underlying82 Tryz.sizeOf74 rfl h0 rfl hix9 (fun g23 o24 cs_g23 hrk_hat25 hat25=>?_))))
 obtain ⟨u26_0,rfl,hu26_0⟩:=rCon_iff.1 hrk_hat25
 refine L_lda (cs:=[u26_0,I x_9.bound]) rfl Tryz.isAgg74 Tryz.sizeOf74 rfl (At.sub (AtH.at hat25 Z.sub) 0 2) rfl (mF sf1 rfl ?_)
 obtain ⟨H27b,l28,s29,z30,k31⟩:=Z.borrow
 have hb32 : (rS 3 RP.int).rel H27b [v1] p_7:=fz_own 0 z30 rfl
 refine L_call rfl Tryz.call210 (ops2 rfl rfl) (s_l3Slack_c (c:=x_9) (p:=p_7) s29 (RP.mono _ hu26_0 l28) hb32 hx21) ?_
 rintro _ w33 ⟨rfl,Z⟩
 have Z:=k31 Z c0
 refine L_lss rfl rfl rfl (nn (W_cond (b:=decide (x21 < 0)) rfl (fun hc34=>?_) (fun hc34=>?_)))
 have hB9:=(ite_t hc34).symm.trans hB9
 refine sq (mF sf6 rfl (aI rfl (nn (W_ret (retG1 (v1:=I i_6) Tryz.results203 rfl ?_)))))
 obtain rfl:=so hB9
 obtain rfl:=so hL9
 obtain rfl:=so hB4
 obtain rfl:=so hL4
 obtain rfl:=so hF
 exact ⟨rfl,Z⟩
 have hB9:=(ite_f hc34).symm.trans hB9
 refine W_skip (W_seq ?_)
 obtain ⟨x45,hx45,hB9⟩:=bind_some hB9
 refine W_region (mF sf0 rfl (mF sf6 rfl (L_ix (r:=(rCon 126)) rfl Tryz.underlying82 Tryz.sizeOf74 rfl h0 rfl hix9 (fun g48 o49 cs_g48 hrk_hat50 hat50=>?_))))
 obtain ⟨u51_0,rfl,hu51_0⟩:=rCon_iff.1 hrk_hat50
 refine L_lda (cs:=[u51_0,I x_9.bound]) rfl Tryz.isAgg74 Tryz.sizeOf74 rfl (At.sub (AtH.at hat50 Z.sub) 0 2) rfl (mF sf1 rfl ?_)
 obtain ⟨H52b,l53,s54,z55,k56⟩:=Z.borrow
 have hb57 : (rS 3 RP.int).rel H52b [v1] p_7:=fz_own 0 z55 rfl
 refine L_call rfl Tryz.call211 (ops2 rfl rfl) (s_l3Implied_c (c:=x_9) (p:=p_7) s54 (RP.mono _ hu51_0 l53) hb57 hx45) ?_
 rintro r58_0 w58 ⟨_,rfl,Z⟩
 have Z:=k56 Z (co closed_int c0)
 refine aV r58_0 rfl (ns (aI rfl (nn ?_)))
 have hlen63 : List.length x45≤9223372036854775807:=len_le (Star.len 0 Z rfl)
 obtain ⟨j63,hL63,hB9⟩:=bind_some hB9
 obtain ⟨R63,hR63⟩:=exR fun f w_=>∃ p_61 : List Int,∃ changed_62 : Bool,j63 = .nx (p_61,changed_62)∧f 0 = v0∧f 1 = v1∧f 5 = Bo changed_62∧f 6 = I i_6∧Star H w_ ([oF 3 RP.int v1 p_61])
 refine W_join R63 ?_ ?_
 refine W_block ?_
 obtain ⟨I63,hI63⟩:=exI fun n f w_=>∃ i_60 : Nat,∃ suf63 : List Int,∃ p_61 : List Int,∃ changed_62 : Bool,n = suf63.length∧List.drop i_60 x45 = suf63∧i_60 + suf63.length = x45.length∧rangeL s_l3Propagate_b3 suf63 i_60 (p_61,changed_62) = some j63∧f 0 = v0∧f 1 = v1∧f 5 = Bo changed_62∧f 6 = I i_6∧f 7 = r58_0∧f 8 = I i_60∧Star H w_ ([oF 3 RP.int v1 p_61,oF 3 RP.int r58_0 x45])
 have Z:=Z.get 1 rfl
 refine W_loop I63 (n:=x45.length) ?_ ?_
 exact ij hI63 ⟨0,x45,p_7,changed_8,rfl,rfl,Nat.zero_add _,hL63,sf0,sf1,sf5,sf6,rfl,rfl,Z⟩
 intro n63 f w_ hI
 obtain ⟨i_60,suf63,p_61,changed_62,rfl,hd63,hl63,hL63,sf0,sf1,sf5,sf6,sf7,sf8,Z⟩:=ik hI63 hI
 refine W_seq (sq (mF sf8 rfl (mF sf7 rfl (L_len rfl Tryz.underlying22 rfl (Star.len 1 Z rfl) (L_lss rfl rfl rfl (nn (W_cond (b:=decide ((i_60 : Int) < (x45.length : Int))) rfl (fun hc64=>?_) (fun hc64=>?_))))))))
 have hlt63:=of_decide_eq_true hc64
 rcases suf63 with _ | ⟨x_63,rest63⟩
 exact absurd hlt63 (by simp at hl63; omega)
 obtain ⟨o63,hB63,hL63⟩:=range_cons hL63
 rw [s_l3Propagate_b3] at hB63
 have hix63:=drop_idx hd63
 refine W_skip (W_seq (W_block (W_seq ?_)))
 obtain ⟨x74,hx74,hB63⟩:=bind_some hB63
 refine W_region (mF sf1 rfl (mF sf7 rfl (mF sf8 rfl ?_)))
 obtain ⟨g76,cap_g76,hv77,_,_⟩:=Star.row 1 Z rfl hix63
 refine L_ixO (R:=(OR.frz RP.int)) (tb:=0) 0 rfl Tryz.underlying22 Tryz.sizeOf3 rfl hv77 (by first | rfl | simp) rfl hix63 ?_
 obtain ⟨cs78,hr78,hat78⟩:=Star.eltF 1 Z rfl hv77 hix63
 obtain rfl : _ = [_]:=hr78
 refine L_ld rfl Tryz.isAgg3 rfl (At.cell hat78 (j:=0) rfl) ?_
 obtain ⟨H80b,l81,s82,z83,k84⟩:=Z.lend [_]
 refine L_call rfl Tryz.call212 (ops2 rfl rfl) (s_l3Assign_c (p:=p_61) (lit:=x_63) s82 hx74) ?_
 rintro _ w85 ⟨rfl,Z⟩
 have Z:=k84 Z (co closed_int c0)
 refine nn (W_region (aB rfl (nn (W_region (mF sf8 rfl (L_add rfl rfl rfl (aI rfl (nn ?_))))))))
 obtain rfl:=so hB63
 show ∃ m,m < _∧I63 m _ _
 refine ⟨rest63.length,by simp,?_⟩
 exact ij hI63 ⟨i_60 + 1,rest63,x74,true,rfl,drop_next hd63,by simp at hl63; omega,hL63,sf0,sf1,rfl,sf6,sf7,(Eq.trans rfl (congrArg (Value.int .i64) (i64_succ (n:=x45.length) (by simp at hl63; omega) hlen63))),Z⟩
 rcases suf63 with _ | ⟨_,_⟩
 obtain rfl:=range_nil hL63
 refine W_exit (rj hR63 ⟨p_61,changed_62,rfl,sf0,sf1,sf5,sf6,(Star.keepN 1 Z)⟩)
 exact absurd (of_decide_eq_false hc64) (by simp at hl63; omega)
 intro f w_ hR
 obtain ⟨p_61,changed_62,rfl,sf0,sf1,sf5,sf6,Z⟩:=rk hR63 hR
 refine W_region (mF sf6 rfl (L_add rfl rfl rfl (aI rfl (nn ?_))))
 obtain rfl:=so hB9
 show ∃ m,m < _∧I9 m _ _
 refine ⟨rest9.length,by simp,?_⟩
 exact ij hI9 ⟨i_6 + 1,rest9,p_61,changed_62,rfl,drop_next hd9,by simp at hl9; omega,hL9,sf0,sf1,sf5,(Eq.trans rfl (congrArg (Value.int .i64) (i64_succ (n:=list.length) (by simp at hl9; omega) hlen9))),Z⟩
 rcases suf9 with _ | ⟨_,_⟩
 obtain rfl:=range_nil hL9
 refine W_exit (rj hR9 ⟨p_7,changed_8,rfl,sf0,sf1,sf5,Z⟩)
 exact absurd (of_decide_eq_false hc10) (by simp at hl9; omega)
 intro f w_ hR
 obtain ⟨p_7,changed_8,rfl,sf0,sf1,sf5,Z⟩:=rk hR9 hR
 obtain rfl:=so hB4
 show ∃ m,m < _∧I4 m _ _
 refine ⟨n4,Nat.lt_succ_self _,?_⟩
 exact ij hI4 ⟨p_7,changed_8,hL4,sf0,sf1,sf5,Z⟩
 have hB4:=(ite_f hc5).symm.trans hB4
 refine W_exit ?_
 obtain rfl:=so hB4
 obtain rfl:=so hL4
 exact rj hR4 ⟨p_2,changed_3,rfl,Z⟩
 intro f w_ hR
 obtain ⟨p_2,changed_3,rfl,Z⟩:=rk hR4 hR
 refine sq (aI rfl (nn (W_ret (retG1 (v1:=I (-1)) Tryz.results203 rfl ?_))))
 obtain rfl:=so hF
 exact ⟨rfl,Z⟩
theorem s_l3Rup_c {fu : Nat} {list : List Con} {c : Con} {v0 : Value} {v1_0 : Value} {H : FH} {w : World} (Z : Star H w []) (h0 : (rS 74 (rCon 126)).rel H [v0] list) (h1_0 : (rS 126 rTerm).rel H [v1_0] c.terms) {r : Bool} (hF : s_l3Rup fu list c = some r) :
 C Tryz.prog 189 #[v0,.agg #[v1_0,I c.bound]] w fun v w'=>v = Bo r∧Star H w' []:=by
 unfold s_l3Rup at hF
 refine C_enter Tryz.func189 rfl Tryz.ntmps189 rfl (sq (L_box (v:=.agg #[v1_0,I c.bound]) (cs:=#[v1_0,I c.bound]) rfl rfl rfl Z (fun g3 w4 Z=>aB rfl (nq ?_))))
 obtain ⟨x10,hx10,hF⟩:=bind_some hF
 refine W_region (L_lda (cs:=[v1_0,I c.bound]) rfl Tryz.isAgg74 Tryz.sizeOf74 rfl (At.sub0 (Blk.at (Star.blkAt 0 Z rfl)) 0 2) rfl ?_)
 obtain ⟨H16b,l17,s18,z19,k20⟩:=Z.borrow
 refine L_call rfl Tryz.call202 (ops1 rfl) (s_NegateConstraint_c (c:=c) s18 (RP.mono _ h1_0 l17) hx10) ?_
 rintro _ w21 ⟨r21_0,rfl,Z⟩
 have Z:=k20 Z (co closed_term c0)
 refine mV (.tuple #[.agg #[r21_0,I x10.1.bound],Bo x10.2]) rfl (L_ex (v:=.agg #[r21_0,I x10.1.bound]) rfl rfl rfl (L_ex (v:=Bo x10.2) rfl rfl rfl (L_al (cs:=#[S0,I 0]) rfl Tryz.zeroValue74 rfl Z (fun g23 w24 Z=>L_staB (vs:=#[r21_0,I x10.1.bound]) (cs2:=#[r21_0,I x10.1.bound]) 0 rfl Tryz.sizeOf74 rfl rfl rfl (ones_cons (one_len (Star.len 1 Z rfl)) (ones_cons rfl ones_nil)) Z rfl (by show 0 + 2≤2; decide) rfl (fun w25 Z=>aB rfl (nq ?_))))))
 obtain ⟨x29,hx29,hF⟩:=bind_some hF
 obtain ⟨x36,hx36,hF⟩:=bind_some hF
 have Z:=Star.drop 2 Z rfl
 refine W_drawS 5 [anyF,isV (v0),anyF,isV (.agg #[r21_0,I x10.1.bound]),anyF] [box g23 74 #[r21_0,I x10.1.bound]] [.base (oF 126 rTerm r21_0 x10.1.terms) (some 4),.made 0 13 (fun v_=>oF 74 (rCon 126) v_ ([])) (some 2),.made 2 15 (fun v_=>oF 74 (rCon 126) v_ x29) none,.made 4 17 (fun v_=>oS 74 (oCon 126) v_ ([x10.1])) none] ([]) [([],[1]),([],[]),([1],[2]),([],[]),([0],[3])] (S:=[(none,[],some 4),(some 0,[13],some 2),(some 2,[15],none),(some 4,[17],none)]) Tryz_mix (by kernel_rfl) rfl (by kernel_rfl) (amF_cons (mono_any) (amF_cons (mono_V _) (amF_cons (mono_any) (amF_cons (mono_V _) (amF_cons (mono_any) amF_nil))))) Z ?_ (fun f w_ H42 hS42 hE42 hT42 Z=>?_)
 refine opsS_cons ?_ ?_
 intro f w_ H42 X42 hS42 hE42 hP42 Z
 refine L_bs rfl parts0 (bs_82_0  ) Z (fun g52 w53 Z=>?_)
 have Z:=Star.mkRow (R:=(OR.frz (rCon 126))) [] [] 0 Z rfl rfl rfl (by decide)
 have Z:=Z.get 1 rfl
 exact L_nil ⟨rfl,_,_,rfl,Le.refl _,fun _ _=>trivial,Z⟩
 refine opsS_cons (fun f w_ _ _ s _ _ Z=>mF ((s 0 rfl).trans rfl) rfl (nO rfl rfl Z)) (opsS_cons ?_ ?_)
 intro f w_ H42 X42 hS42 hE42 hP42 Z
 have Z : Star H42 w_ (box g23 74 #[r21_0,I x10.1.bound] :: oF 74 (rCon 126) (f 13) ([]) :: X42):=Z
 have Z:=Z.get 1 rfl
 refine L_app (v:=(f 13)) (u:=v0) rfl et_82 rfl (hP42 1 14 rfl rfl) Z (RP.mono _ h0 hE42) hx29 (fun v56 w57 Z=>?_)
 have Z:=Z.get 1 rfl
 exact L_nil ⟨rfl,_,_,rfl,Le.refl _,fun _ _=>trivial,Z⟩
 refine opsS_cons (fun f w_ _ _ s _ _ Z=>L_lda (cs:=[r21_0,I x10.1.bound]) rfl Tryz.isAgg74 Tryz.sizeOf74 ((s 5 rfl).trans rfl) (At.sub0 (Blk.at (Star.blkAt 0 Z rfl)) 0 2) rfl (nO rfl rfl Z)) (opsS_cons ?_ ?_)
 intro f w_ H42 X42 hS42 hE42 hP42 Z
 have Z : Star H42 w_ (box g23 74 #[r21_0,I x10.1.bound] :: oF 126 rTerm r21_0 x10.1.terms :: X42):=Z
 refine L_bs rfl (parts1 (hP42 3 16 rfl rfl)) (bs_82_1_2 (r21_0) (I x10.1.bound) ) Z (fun g59 w60 Z=>?_)
 have Z:=Z.get 2 rfl
 have Z:=oCon_close (c:=x10.1) Z
 have Z:=Star.mkRow (R:=(oCon 126)) [([r21_0,I x10.1.bound],x10.1)] [x10.1] 1 Z rfl rfl rfl (by decide)
 have Z:=Z.get 1 rfl
 exact L_nil ⟨rfl,_,_,rfl,Le.refl _,fun _ _=>trivial,Z⟩
 exact opsS_nil
 have Z : Star H42 w_ ([box g23 74 #[r21_0,I x10.1.bound],oF 74 (rCon 126) (f 15) x29,oS 74 (oCon 126) (f 17) ([x10.1])]):=Z
 have Z:=Z.get 2 rfl
 obtain ⟨H64,l65,Z⟩:=Star.shallow Z
 have Z : Star H64 w_ (oF 74 (rCon 126) (f 17) ([x10.1]) :: _):=Z
 have Z:=Z.get 2 rfl
 refine L_appM (v:=(f 15)) (u:=(f 17)) rfl et_82 rfl rfl Z hx36 (fun v66 w67 Z=>aV v66 rfl (L_nil (W_seq ?_)))
 obtain ⟨x69,hx69,hF⟩:=bind_some hF
 obtain ⟨x79,hx79,hF⟩:=bind_some hF
 refine W_region (mV v66 rfl (L_mk (R:=(OR.frz RP.int)) (z0:=0) (zc:=[I 0]) rfl et_22 (by kernel_rfl) (fun _ _=>⟨rfl,rfl⟩) rfl rfl hx69 Z (fun v81 w82 Z=>?_)))
 obtain ⟨H84b,l85,s86,z87,k88⟩:=Z.lend [_]
 have hb89 : (rS 74 (rCon 126)).rel H84b [v66] x36:=fz_own 0 z87 rfl
 refine L_call rfl Tryz.call203 (ops2 rfl rfl) (s_l3Propagate_c (list:=x36) (p:=x69) s86 hb89 hx79) ?_
 rintro _ w90 ⟨rfl,Z⟩
 have Z:=k88 Z (co closed_int c0)
 refine L_geq rfl rfl rfl (aB rfl (nn (W_ret (retG1 (v1:=Bo (decide (x79.1 ≥ 0))) Tryz.results189 rfl ?_))))
 obtain rfl:=so hF
 exact ⟨rfl,(Star.down (Star.keepN 0 Z) (Le.trans hE42 l65) c0)⟩
theorem s_l1Net_c {terms : List Term} {bound : Int} {v0 : Value} {H : FH} {w : World} (Z : Star H w []) (h0 : (rS 126 rTerm).rel H [v0] terms) {r : (List Int) × Int} (hF : s_l1Net terms bound = some r) :
 C Tryz.prog 204 #[v0,I bound] w fun v w'=>∃ (u1 : Value),v = .tuple #[u1,I r.2]∧Star H w' [oF 3 RP.int u1 r.1]:=by
 unfold s_l1Net at hF
 refine C_enter Tryz.func204 rfl Tryz.ntmps204 rfl (sq (aV S0 rfl (aI rfl (nq ?_))))
 obtain ⟨x1,hx1,hF⟩:=bind_some hF
 refine W_region (L_mk (R:=(OR.frz RP.int)) (z0:=0) (zc:=[I 0]) rfl et_22 (by kernel_rfl) (fun _ _=>⟨rfl,rfl⟩) rfl rfl hx1 Z (fun v5 w6 Z=>aV v5 rfl (nq (sq (aI rfl (nn ?_))))))
 have hlen13 : List.length terms≤9223372036854775807:=len_le (slice_len h0)
 obtain ⟨j13,hL13,hF⟩:=bind_some hF
 obtain ⟨R13,hR13⟩:=exR fun f w_=>∃ bound_9 : Int,∃ net_10 : List Int,∃ H11 : FH,j13 = .nx (bound_9,net_10)∧Le H H11∧f 1 = I bound_9∧f 6 = v5∧Star H11 w_ ([oF 3 RP.int v5 net_10])
 refine W_join R13 ?_ ?_
 refine W_block ?_
 obtain ⟨I13,hI13⟩:=exI fun n f w_=>∃ i_8 : Nat,∃ suf13 : List Term,∃ bound_9 : Int,∃ net_10 : List Int,∃ H11 : FH,n = suf13.length∧List.drop i_8 terms = suf13∧i_8 + suf13.length = terms.length∧rangeL s_l1Net_b1 suf13 i_8 (bound_9,net_10) = some j13∧Le H H11∧f 0 = v0∧f 1 = I bound_9∧f 6 = v5∧f 7 = I i_8∧Star H11 w_ ([oF 3 RP.int v5 net_10])
 refine W_loop I13 (n:=terms.length) ?_ ?_
 exact ij hI13 ⟨0,terms,bound,x1,H,rfl,rfl,Nat.zero_add _,hL13,(Le.refl _),rfl,rfl,rfl,rfl,Z⟩
 intro n13 f w_ hI
 obtain ⟨i_8,suf13,bound_9,net_10,H11,rfl,hd13,hl13,hL13,l12,sf0,sf1,sf6,sf7,Z⟩:=ik hI13 hI
 refine W_seq (sq (mF sf7 rfl (mF sf0 rfl (L_len rfl Tryz.underlying72 rfl (slice_len (RP.mono _ h0 l12)) (L_lss rfl rfl rfl (nn (W_cond (b:=decide ((i_8 : Int) < (terms.length : Int))) rfl (fun hc14=>?_) (fun hc14=>?_))))))))
 have hlt13:=of_decide_eq_true hc14
 rcases suf13 with _ | ⟨x_13,rest13⟩
 exact absurd hlt13 (by simp at hl13; omega)
 obtain ⟨o13,hB13,hL13⟩:=range_cons hL13
 rw [s_l1Net_b1] at hB13
 have hix13:=drop_idx hd13
 refine W_skip (W_seq (W_block (sq (mF sf0 rfl (mF sf7 rfl (L_ix (r:=rTerm) rfl Tryz.underlying72 Tryz.sizeOf126 rfl (RP.mono _ h0 l12) rfl hix13 (fun g22 o23 cs_g22 hrk_hat24 hat24=>?_)))))))
 obtain rfl:=rTerm_iff.1 hrk_hat24
 refine L_lda (cs:=[I x_13.coef,I x_13.lit]) rfl Tryz.isAgg126 Tryz.sizeOf126 rfl (At.sub (AtH.at hat24 Z.sub) 0 2) rfl (L_al (cs:=#[I 0,I 0]) rfl Tryz.zeroValue126 rfl Z (fun g26 w27 Z=>L_staB (vs:=#[I x_13.coef,I x_13.lit]) (cs2:=#[I x_13.coef,I x_13.lit]) 0 rfl Tryz.sizeOf126 rfl rfl rfl (ones_cons rfl (ones_cons rfl ones_nil)) Z rfl (by show 0 + 2≤2; decide) rfl (fun w28 Z=>ns (fA 1 fa_126_1 rfl rfl (ldB 0 Z Tryz.isAgg3 rfl rfl rfl (L_gtr rfl rfl rfl (nn ?_)))))))
 obtain ⟨⟨bound_29,net_30⟩,hA33,hB13⟩:=bind_some hB13
 obtain ⟨R33,hR33⟩:=exR fun f w_=>∃ H31 : FH,Le H11 H31∧f 0 = v0∧f 1 = I bound_29∧f 6 = v5∧f 7 = I i_8∧Star H31 w_ ([oF 3 RP.int v5 net_30])
 refine W_join R33 ?_ ?_
 refine W_cond (b:=decide (x_13.lit > 0)) rfl (fun hc34=>?_) (fun hc34=>?_)
 have hA33:=(ite_t hc34).symm.trans hA33
 obtain ⟨x35,hx35,hA33⟩:=bind_some hA33
 obtain ⟨g42,cap_g42,hv43,_,_⟩:=Star.row 1 Z rfl hx35
 refine W_drawS 11 [isV (v5),isV (Pq g26 1),isV (I x_13.lit),isV (v5),isV (Pq g26 1),isV (I x_13.lit),isV (.pointer (some ⟨g42,Int.toNat x_13.lit * 1,none⟩)),isV (I x35),isV (Pt g26),isV (I x_13.coef),isV (I (i64 (x35 + x_13.coef)))] [box g26 126 #[I x_13.coef,I x_13.lit],oF 3 RP.int v5 net_10] [] ([]) [([],[]),([],[]),([],[]),([],[]),([],[]),([],[]),([],[]),([],[]),([],[]),([],[]),([],[])] (S:=[]) Tryz_mix (by kernel_rfl) rfl (by kernel_rfl) (amF_cons (mono_V _) (amF_cons (mono_V _) (amF_cons (mono_V _) (amF_cons (mono_V _) (amF_cons (mono_V _) (amF_cons (mono_V _) (amF_cons (mono_V _) (amF_cons (mono_V _) (amF_cons (mono_V _) (amF_cons (mono_V _) (amF_cons (mono_V _) amF_nil))))))))))) Z ?_ (fun f w_ H41 hS41 hE41 hT41 Z=>?_)
 refine opsS_cons (fun f w_ _ _ s _ _ Z=>mF ((s 6 rfl).trans sf6) rfl (nO rfl rfl Z)) (opsS_cons (fun f w_ _ _ s _ _ Z=>fA 1 fa_126_1 ((s 8 rfl).trans rfl) rfl (nO rfl rfl Z)) (opsS_cons (fun f w_ _ _ _ _ p Z=>ldB 0 Z Tryz.isAgg3 (p 1 24 rfl rfl) rfl rfl (nO rfl rfl Z)) (opsS_cons (fun f w_ _ _ s _ _ Z=>mF ((s 6 rfl).trans sf6) rfl (nO rfl rfl Z)) (opsS_cons (fun f w_ _ _ s _ _ Z=>fA 1 fa_126_1 ((s 8 rfl).trans rfl) rfl (nO rfl rfl Z)) (opsS_cons (fun f w_ _ _ _ _ p Z=>ldB 0 Z Tryz.isAgg3 (p 4 27 rfl rfl) rfl rfl (nO rfl rfl Z)) (opsS_cons (fun f w_ _ _ _ _ p Z=>L_ixO (R:=(OR.frz RP.int)) (tb:=0) 0 rfl Tryz.underlying22 Tryz.sizeOf3 (p 3 26 rfl rfl) hv43 (by first | rfl | simp) (p 5 28 rfl rfl) hx35 (nO rfl rfl Z)) (opsS_cons ?_ ?_)))))))
 intro f w_ H41 X41 hS41 hE41 hP41 Z
 obtain ⟨cs46,hr46,hat46⟩:=Star.eltF 1 Z rfl hv43 hx35
 obtain rfl : _ = [_]:=hr46
 refine L_ld rfl Tryz.isAgg3 (hP41 6 29 rfl rfl) (At.cell hat46 (j:=0) rfl) (L_nil ⟨rfl,_,_,rfl,Le.refl _,fun _ _=>rfl,Z⟩)
 refine opsS_cons (fun f w_ _ _ s _ _ Z=>fA 0 fa_126_0 ((s 8 rfl).trans rfl) rfl (nO rfl rfl Z)) (opsS_cons (fun f w_ _ _ _ _ p Z=>ldB 0 Z Tryz.isAgg3 (p 8 31 rfl rfl) rfl rfl (nO rfl rfl Z)) (opsS_cons (fun f w_ _ _ _ _ p Z=>L_add rfl (p 7 30 rfl rfl) (p 9 32 rfl rfl) (nO rfl rfl Z)) (opsS_nil)))
 refine L_ixO (R:=(OR.frz RP.int)) (tb:=0) 0 rfl Tryz.underlying22 Tryz.sizeOf3 (hT41 0 23 rfl rfl) hv43 (by first | rfl | simp) (hT41 2 25 rfl rfl) hx35 ?_
 have Z:=Star.addF (r:=RP.int) (cs:=[I (i64 (x35 + x_13.coef))]) (x:=(i64 (x35 + x_13.coef))) Z rfl
 have Z:=Z.gets [2,1] rfl
 refine L_stE1 (u:=I (i64 (x35 + x_13.coef))) rfl Tryz.sizeOf3 rfl rfl (hT41 10 33 rfl rfl) hv43 Z hx35 (fun w48 Z=>?_)
 refine nn ?_
 obtain ⟨rfl,rfl⟩:=so2 hA33
 exact rj hR33 ⟨H41,hE41,((hS41 0 rfl).trans sf0),((hS41 1 rfl).trans sf1),((hS41 6 rfl).trans sf6),((hS41 7 rfl).trans sf7),(Star.keepN 1 Z)⟩
 have hA33:=(ite_f hc34).symm.trans hA33
 refine W_seq ?_
 obtain ⟨x49,hx49,hA33⟩:=bind_some hA33
 obtain ⟨g56,cap_g56,hv57,_,_⟩:=Star.row 1 Z rfl hx49
 refine W_drawS 13 [isV (v5),isV (Pq g26 1),isV (I x_13.lit),isV (I (i64 (-x_13.lit))),isV (v5),isV (Pq g26 1),isV (I x_13.lit),isV (I (i64 (-x_13.lit))),isV (.pointer (some ⟨g56,Int.toNat (i64 (-x_13.lit)) * 1,none⟩)),isV (I x49),isV (Pt g26),isV (I x_13.coef),isV (I (i64 (x49 - x_13.coef)))] [box g26 126 #[I x_13.coef,I x_13.lit],oF 3 RP.int v5 net_10] [] ([]) [([],[]),([],[]),([],[]),([],[]),([],[]),([],[]),([],[]),([],[]),([],[]),([],[]),([],[]),([],[]),([],[])] (S:=[]) Tryz_mix (by kernel_rfl) rfl (by kernel_rfl) (amF_cons (mono_V _) (amF_cons (mono_V _) (amF_cons (mono_V _) (amF_cons (mono_V _) (amF_cons (mono_V _) (amF_cons (mono_V _) (amF_cons (mono_V _) (amF_cons (mono_V _) (amF_cons (mono_V _) (amF_cons (mono_V _) (amF_cons (mono_V _) (amF_cons (mono_V _) (amF_cons (mono_V _) amF_nil))))))))))))) Z ?_ (fun f w_ H55 hS55 hE55 hT55 Z=>?_)
 refine opsS_cons (fun f w_ _ _ s _ _ Z=>mF ((s 6 rfl).trans sf6) rfl (nO rfl rfl Z)) (opsS_cons (fun f w_ _ _ s _ _ Z=>fA 1 fa_126_1 ((s 8 rfl).trans rfl) rfl (nO rfl rfl Z)) (opsS_cons (fun f w_ _ _ _ _ p Z=>ldB 0 Z Tryz.isAgg3 (p 1 36 rfl rfl) rfl rfl (nO rfl rfl Z)) (opsS_cons (fun f w_ _ _ _ _ p Z=>L_neg rfl (p 2 37 rfl rfl) (nO rfl rfl Z)) (opsS_cons (fun f w_ _ _ s _ _ Z=>mF ((s 6 rfl).trans sf6) rfl (nO rfl rfl Z)) (opsS_cons (fun f w_ _ _ s _ _ Z=>fA 1 fa_126_1 ((s 8 rfl).trans rfl) rfl (nO rfl rfl Z)) (opsS_cons (fun f w_ _ _ _ _ p Z=>ldB 0 Z Tryz.isAgg3 (p 5 40 rfl rfl) rfl rfl (nO rfl rfl Z)) (opsS_cons (fun f w_ _ _ _ _ p Z=>L_neg rfl (p 6 41 rfl rfl) (nO rfl rfl Z)) (opsS_cons (fun f w_ _ _ _ _ p Z=>L_ixO (R:=(OR.frz RP.int)) (tb:=0) 0 rfl Tryz.underlying22 Tryz.sizeOf3 (p 4 39 rfl rfl) hv57 (by first | rfl | simp) (p 7 42 rfl rfl) hx49 (nO rfl rfl Z)) (opsS_cons ?_ ?_)))))))))
 intro f w_ H55 X55 hS55 hE55 hP55 Z
 obtain ⟨cs60,hr60,hat60⟩:=Star.eltF 1 Z rfl hv57 hx49
 obtain rfl : _ = [_]:=hr60
 refine L_ld rfl Tryz.isAgg3 (hP55 8 43 rfl rfl) (At.cell hat60 (j:=0) rfl) (L_nil ⟨rfl,_,_,rfl,Le.refl _,fun _ _=>rfl,Z⟩)
 refine opsS_cons (fun f w_ _ _ s _ _ Z=>fA 0 fa_126_0 ((s 8 rfl).trans rfl) rfl (nO rfl rfl Z)) (opsS_cons (fun f w_ _ _ _ _ p Z=>ldB 0 Z Tryz.isAgg3 (p 10 45 rfl rfl) rfl rfl (nO rfl rfl Z)) (opsS_cons (fun f w_ _ _ _ _ p Z=>L_sub rfl (p 9 44 rfl rfl) (p 11 46 rfl rfl) (nO rfl rfl Z)) (opsS_nil)))
 refine L_ixO (R:=(OR.frz RP.int)) (tb:=0) 0 rfl Tryz.underlying22 Tryz.sizeOf3 (hT55 0 35 rfl rfl) hv57 (by first | rfl | simp) (hT55 3 38 rfl rfl) hx49 ?_
 have Z:=Star.addF (r:=RP.int) (cs:=[I (i64 (x49 - x_13.coef))]) (x:=(i64 (x49 - x_13.coef))) Z rfl
 have Z:=Z.gets [2,1] rfl
 refine L_stE1 (u:=I (i64 (x49 - x_13.coef))) rfl Tryz.sizeOf3 rfl rfl (hT55 12 47 rfl rfl) hv57 Z hx49 (fun w62 Z=>?_)
 refine nn (W_region (mF ((hS55 1 rfl).trans sf1) rfl (fA 0 fa_126_0 ((hS55 8 rfl).trans rfl) rfl (ldB 1 Z Tryz.isAgg3 rfl rfl rfl (L_sub rfl rfl rfl (aI rfl (nn ?_)))))))
 obtain ⟨rfl,rfl⟩:=so2 hA33
 exact rj hR33 ⟨H55,hE55,((hS55 0 rfl).trans sf0),rfl,((hS55 6 rfl).trans sf6),((hS55 7 rfl).trans sf7),(Star.keepN 1 Z)⟩
 intro f w_ hR
 obtain ⟨H31,l32,sf0,sf1,sf6,sf7,Z⟩:=rk hR33 hR
 refine W_region (mF sf7 rfl (L_add rfl rfl rfl (aI rfl (nn ?_))))
 obtain rfl:=so hB13
 show ∃ m,m < _∧I13 m _ _
 refine ⟨rest13.length,by simp,?_⟩
 exact ij hI13 ⟨i_8 + 1,rest13,bound_29,net_30,H31,rfl,drop_next hd13,by simp at hl13; omega,hL13,(Le.trans l12 l32),sf0,sf1,sf6,(Eq.trans rfl (congrArg (Value.int .i64) (i64_succ (n:=terms.length) (by simp at hl13; omega) hlen13))),Z⟩
 rcases suf13 with _ | ⟨_,_⟩
 obtain rfl:=range_nil hL13
 refine W_exit (rj hR13 ⟨bound_9,net_10,H11,rfl,l12,sf1,sf6,Z⟩)
 exact absurd (of_decide_eq_false hc14) (by simp at hl13; omega)
 intro f w_ hR
 obtain ⟨bound_9,net_10,H11,rfl,l12,sf1,sf6,Z⟩:=rk hR13 hR
 refine sq (mF sf6 rfl (mF sf1 rfl (aV v5 rfl (aI rfl (nn (W_ret (retG2 (v1:=v5) (v2:=I bound_9) Tryz.results204 rfl rfl ?_)))))))
 obtain rfl:=so hF
 exact ⟨v5,rfl,(Star.down Z l12 (co closed_int c0))⟩
theorem s_l1Normal_c {net : List Int} {bound : Int} {v0 : Value} {H : FH} {w : World} (Z : Star H w []) (h0 : (rS 3 RP.int).rel H [v0] net) {r : Con × Bool} (hF : s_l1Normal net bound = some r) :
 C Tryz.prog 205 #[v0,I bound] w fun v w'=>∃ (u1 : Value),v = .tuple #[.agg #[u1,I r.1.bound],Bo r.2]∧Star H w' [oF 126 rTerm u1 r.1.terms]:=by
 unfold s_l1Normal at hF
 refine C_enter Tryz.func205 rfl Tryz.ntmps205 rfl (sq (L_al (cs:=#[S0,I 0]) rfl Tryz.zeroValue74 rfl Z (fun g3 w4 Z=>aB rfl (ns (L_bld rfl (parts0 ) (bld_74_  ) (L_al (cs:=#[S0,I 0]) rfl Tryz.zeroValue74 rfl Z (fun g8 w9 Z=>L_staB (vs:=#[S0,I 0]) (cs2:=#[S0,I 0]) 0 rfl Tryz.sizeOf74 rfl rfl rfl (ones_cons rfl (ones_cons rfl ones_nil)) Z rfl (by show 0 + 2≤2; decide) rfl (fun w10 Z=>nq (sq (aI rfl (nn ?_)))))))))))
 obtain ⟨k18,hk18,hF⟩:=bind_some hF
 obtain ⟨j17,hL17,hF⟩:=bind_some hF
 obtain ⟨R17,hR17⟩:=exR fun f w_=>∃ bound_12 : Int,∃ g8_0_13 : List Term,∃ H15 : FH,∃ v13_g8_0 : Value,j17 = .nx (bound_12,g8_0_13)∧Le H H15∧f 1 = I bound_12∧f 4 = Pt g3∧f 6 = Pt g8∧Star H15 w_ ([oF 126 rTerm v13_g8_0 g8_0_13,box g8 74 #[v13_g8_0,I 0],box g3 74 #[S0,I 0]])
 refine W_join R17 ?_ ?_
 refine W_block ?_
 obtain ⟨I17,hI17⟩:=exI fun n f w_=>∃ i_11 : Nat,∃ suf17 : Nat,∃ bound_12 : Int,∃ g8_0_13 : List Term,∃ H15 : FH,∃ v13_g8_0 : Value,suf17 = n∧1≤i_11∧i_11 + suf17 = 1 + k18∧countL (s_l1Normal_b1 net) suf17 i_11 (bound_12,g8_0_13) = some j17∧Le H H15∧f 0 = v0∧f 1 = I bound_12∧f 4 = Pt g3∧f 6 = Pt g8∧f 7 = I i_11∧Star H15 w_ ([oF 126 rTerm v13_g8_0 g8_0_13,box g8 74 #[v13_g8_0,I 0],box g3 74 #[S0,I 0]])
 have Z:=Star.addNil (R:=(OR.frz rTerm)) (e:=126) Z
 refine W_loop I17 (n:=k18) ?_ ?_
 exact ij hI17 ⟨1,k18,bound,[],H,S0,rfl,Nat.le_refl _,rfl,hL17,(Le.refl _),rfl,rfl,rfl,rfl,rfl,Z⟩
 intro n17 f w_ hI
 obtain ⟨i_11,suf17,bound_12,g8_0_13,H15,v13_g8_0,rfl,hs17,hl17,hL17,l16,sf0,sf1,sf4,sf6,sf7,Z⟩:=ik hI17 hI
 refine W_seq (sq (mF sf7 rfl (L_leq rfl rfl rfl (nn (W_cond (b:=decide ((i_11 : Int)≤12)) rfl (fun hc20=>?_) (fun hc20=>?_))))))
 have hlt17:=of_decide_eq_true hc20
 rcases suf17 with _ | rest17
 exact absurd hlt17 (cntF_noL hl17 hk18)
 obtain ⟨o17,hB17,hL17⟩:=count_succ hL17
 rw [s_l1Normal_b1] at hB17
 refine W_skip (W_seq (W_block (W_seq (W_seq ?_))))
 obtain ⟨x21,hx21,hB17⟩:=bind_some hB17
 refine W_region (mF sf0 rfl (mF sf7 rfl (L_ix (r:=RP.int) rfl Tryz.underlying22 Tryz.sizeOf3 rfl (RP.mono _ h0 l16) rfl hx21 (fun g26 o27 cs_g26 hrk_hat28 hat28=>?_))))
 obtain rfl : _ = [_]:=hrk_hat28
 refine L_ld rfl Tryz.isAgg3 rfl (At.cell (AtH.at hat28 Z.sub) (j:=0) rfl) (L_gtr rfl rfl rfl (nn ?_))
 obtain ⟨g8_0_30,hA34,hB17⟩:=bind_some hB17
 obtain ⟨R34,hR34⟩:=exR fun f w_=>∃ H32 : FH,∃ v30_g8_0 : Value,Le H15 H32∧f 0 = v0∧f 1 = I bound_12∧f 4 = Pt g3∧f 6 = Pt g8∧f 7 = I i_11∧Star H32 w_ ([oF 126 rTerm v30_g8_0 g8_0_30,box g8 74 #[v30_g8_0,I 0],box g3 74 #[S0,I 0]])
 refine W_join R34 ?_ ?_
 refine W_cond (b:=decide (x21 > 0)) rfl (fun hc35=>?_) (fun hc35=>?_)
 have hA34:=(ite_t hc35).symm.trans hA34
 obtain ⟨x43,hx43,hA34⟩:=bind_some hA34
 refine W_drawS 9 [isV (Pt g8),isV (v13_g8_0),isV (v0),isV (I i_11),isEl RP.int x21 0,isV (I x21),isV (I i_11),isV (.agg #[I x21,I i_11]),anyF] [oF 126 rTerm v13_g8_0 g8_0_13,box g8 74 #[v13_g8_0,I 0],box g3 74 #[S0,I 0]] [.made 8 26 (fun v_=>oF 126 rTerm v_ ([({ coef:=x21,lit:=(i_11 : Int) } : Term)])) none] ([]) [([],[]),([],[]),([],[]),([],[]),([],[]),([],[]),([],[]),([],[]),([],[0])] (S:=[(some 8,[26],none)]) Tryz_mix (by kernel_rfl) rfl (by kernel_rfl) (amF_cons (mono_V _) (amF_cons (mono_V _) (amF_cons (mono_V _) (amF_cons (mono_V _) (amF_cons (mono_el _ _ _) (amF_cons (mono_V _) (amF_cons (mono_V _) (amF_cons (mono_V _) (amF_cons (mono_any) amF_nil))))))))) Z ?_ (fun f w_ H48 hS48 hE48 hT48 Z=>?_)
 refine opsS_cons (fun f w_ _ _ s _ _ Z=>fA 0 fa_74_0 ((s 6 rfl).trans sf6) rfl (nO rfl rfl Z)) (opsS_cons (fun f w_ _ _ _ _ p Z=>ldB 1 Z Tryz.isAgg72 (p 0 18 rfl rfl) rfl rfl (nO rfl rfl Z)) (opsS_cons (fun f w_ _ _ s _ _ Z=>mF ((s 0 rfl).trans sf0) rfl (nO rfl rfl Z)) (opsS_cons (fun f w_ _ _ s _ _ Z=>mF ((s 7 rfl).trans sf7) rfl (nO rfl rfl Z)) (opsS_cons ?_ ?_))))
 intro f w_ H48 X48 hS48 hE48 hP48 Z
 refine L_ix (r:=RP.int) rfl Tryz.underlying22 Tryz.sizeOf3 (hP48 2 20 rfl rfl) (RP.mono _ h0 (Le.trans l16 hE48)) (hP48 3 21 rfl rfl) hx21 (fun g56 o57 cs_g56 hrk_hat58 hat58=>?_)
 obtain rfl : _ = [_]:=hrk_hat58
 exact L_nil ⟨rfl,_,_,rfl,Le.refl _,fun _ _=>⟨_,_,_,rfl,rfl,hat58⟩,Z⟩
 refine opsS_cons ?_ ?_
 intro f w_ H48 X48 hS48 hE48 hP48 Z
 obtain ⟨g60,o60,cs60,hv60,hrk_hat60,hat60⟩:=(hP48 4 22 rfl rfl)
 obtain rfl : _ = [_]:=hrk_hat60
 refine L_ld rfl Tryz.isAgg3 hv60 (At.cell (AtH.at hat60 Z.sub) (j:=0) rfl) (L_nil ⟨rfl,_,_,rfl,Le.refl _,fun _ _=>rfl,Z⟩)
 refine opsS_cons (fun f w_ _ _ s _ _ Z=>mF ((s 7 rfl).trans sf7) rfl (nO rfl rfl Z)) (opsS_cons (fun f w_ _ _ _ _ p Z=>L_bld rfl (parts2 (p 5 23 rfl rfl) (p 6 24 rfl rfl)) (bld_126_0_1 (I x21) (I i_11) rfl rfl) (nO rfl rfl Z)) (opsS_cons ?_ ?_))
 intro f w_ H48 X48 hS48 hE48 hP48 Z
 refine L_bs rfl (parts1 (hP48 7 25 rfl rfl)) (bs_72_1_2 (I x21) (I i_11) ) Z (fun g62 w63 Z=>?_)
 have Z:=Star.addF (r:=rTerm) (cs:=[I x21,I i_11]) (x:=({ coef:=x21,lit:=(i_11 : Int) } : Term)) Z (rTerm_iff.2 rfl)
 have Z:=Star.mkRow (R:=(OR.frz rTerm)) [([I x21,I i_11],({ coef:=x21,lit:=(i_11 : Int) } : Term))] [({ coef:=x21,lit:=(i_11 : Int) } : Term)] 1 Z rfl rfl rfl (by decide)
 have Z:=Z.gets [3,3,3] rfl
 exact L_nil ⟨rfl,_,_,rfl,Le.refl _,fun _ _=>trivial,Z⟩
 exact opsS_nil
 have Z : Star H48 w_ ([oF 126 rTerm v13_g8_0 g8_0_13,box g8 74 #[v13_g8_0,I 0],box g3 74 #[S0,I 0],oF 126 rTerm (f 26) ([({ coef:=x21,lit:=(i_11 : Int) } : Term)])]):=Z
 have Z:=Z.gets [3,1] rfl
 refine L_appM (v:=v13_g8_0) (u:=(f 26)) rfl et_72 (hT48 1 19 rfl rfl) rfl Z hx43 (fun v66 w67 Z=>fA 0 fa_74_0 ((hS48 6 rfl).trans sf6) rfl (L_stB (v:=v66) (cs2:=#[v66,I 0]) 1 rfl Tryz.sizeOf72 rfl rfl (one_len (Star.len 0 Z rfl)) Z rfl rfl rfl (fun w69 Z=>nn ?_)))
 obtain rfl:=so hA34
 have Z:=Z.gets [2,1,2] rfl
 exact rj hR34 ⟨H48,v66,hE48,((hS48 0 rfl).trans sf0),((hS48 1 rfl).trans sf1),((hS48 4 rfl).trans sf4),((hS48 6 rfl).trans sf6),((hS48 7 rfl).trans sf7),Z⟩
 have hA34:=(ite_f hc35).symm.trans hA34
 refine W_skip ?_
 obtain rfl:=so hA34
 exact rj hR34 ⟨H15,v13_g8_0,(Le.refl _),sf0,sf1,sf4,sf6,sf7,Z⟩
 intro f w_ hR
 obtain ⟨H32,v30_g8_0,l33,sf0,sf1,sf4,sf6,sf7,Z⟩:=rk hR34 hR
 refine sq (mF sf0 rfl (mF sf7 rfl (L_ix (r:=RP.int) rfl Tryz.underlying22 Tryz.sizeOf3 rfl (RP.mono _ h0 (Le.trans l16 l33)) rfl hx21 (fun g74 o75 cs_g74 hrk_hat76 hat76=>?_))))
 obtain rfl : _ = [_]:=hrk_hat76
 refine L_ld rfl Tryz.isAgg3 rfl (At.cell (AtH.at hat76 Z.sub) (j:=0) rfl) (L_lss rfl rfl rfl (nn ?_))
 obtain ⟨⟨bound_78,g8_0_79⟩,hA83,hB17⟩:=bind_some hB17
 obtain ⟨R83,hR83⟩:=exR fun f w_=>∃ H81 : FH,∃ v79_g8_0 : Value,Le H32 H81∧f 0 = v0∧f 1 = I bound_78∧f 4 = Pt g3∧f 6 = Pt g8∧f 7 = I i_11∧Star H81 w_ ([oF 126 rTerm v79_g8_0 g8_0_79,box g8 74 #[v79_g8_0,I 0],box g3 74 #[S0,I 0]])
 refine W_join R83 ?_ ?_
 refine W_cond (b:=decide (x21 < 0)) rfl (fun hc84=>?_) (fun hc84=>?_)
 have hA83:=(ite_t hc84).symm.trans hA83
 refine W_seq ?_
 obtain ⟨x92,hx92,hA83⟩:=bind_some hA83
 refine W_drawS 11 [isV (Pt g8),isV (v30_g8_0),isV (v0),isV (I i_11),isEl RP.int x21 0,isV (I x21),isV (I (i64 (-x21))),isV (I i_11),isV (I (i64 (-(i_11 : Int)))),isV (.agg #[I (i64 (-x21)),I (i64 (-(i_11 : Int)))]),anyF] [oF 126 rTerm v30_g8_0 g8_0_30,box g8 74 #[v30_g8_0,I 0],box g3 74 #[S0,I 0]] [.made 10 44 (fun v_=>oF 126 rTerm v_ ([({ coef:=i64 (-x21),lit:=i64 (-(i_11 : Int)) } : Term)])) none] ([]) [([],[]),([],[]),([],[]),([],[]),([],[]),([],[]),([],[]),([],[]),([],[]),([],[]),([],[0])] (S:=[(some 10,[44],none)]) Tryz_mix (by kernel_rfl) rfl (by kernel_rfl) (amF_cons (mono_V _) (amF_cons (mono_V _) (amF_cons (mono_V _) (amF_cons (mono_V _) (amF_cons (mono_el _ _ _) (amF_cons (mono_V _) (amF_cons (mono_V _) (amF_cons (mono_V _) (amF_cons (mono_V _) (amF_cons (mono_V _) (amF_cons (mono_any) amF_nil))))))))))) Z ?_ (fun f w_ H97 hS97 hE97 hT97 Z=>?_)
 refine opsS_cons (fun f w_ _ _ s _ _ Z=>fA 0 fa_74_0 ((s 6 rfl).trans sf6) rfl (nO rfl rfl Z)) (opsS_cons (fun f w_ _ _ _ _ p Z=>ldB 1 Z Tryz.isAgg72 (p 0 34 rfl rfl) rfl rfl (nO rfl rfl Z)) (opsS_cons (fun f w_ _ _ s _ _ Z=>mF ((s 0 rfl).trans sf0) rfl (nO rfl rfl Z)) (opsS_cons (fun f w_ _ _ s _ _ Z=>mF ((s 7 rfl).trans sf7) rfl (nO rfl rfl Z)) (opsS_cons ?_ ?_))))
 intro f w_ H97 X97 hS97 hE97 hP97 Z
 refine L_ix (r:=RP.int) rfl Tryz.underlying22 Tryz.sizeOf3 (hP97 2 36 rfl rfl) (RP.mono _ h0 (Le.trans (Le.trans l16 l33) hE97)) (hP97 3 37 rfl rfl) hx21 (fun g105 o106 cs_g105 hrk_hat107 hat107=>?_)
 obtain rfl : _ = [_]:=hrk_hat107
 exact L_nil ⟨rfl,_,_,rfl,Le.refl _,fun _ _=>⟨_,_,_,rfl,rfl,hat107⟩,Z⟩
 refine opsS_cons ?_ ?_
 intro f w_ H97 X97 hS97 hE97 hP97 Z
 obtain ⟨g109,o109,cs109,hv109,hrk_hat109,hat109⟩:=(hP97 4 38 rfl rfl)
 obtain rfl : _ = [_]:=hrk_hat109
 refine L_ld rfl Tryz.isAgg3 hv109 (At.cell (AtH.at hat109 Z.sub) (j:=0) rfl) (L_nil ⟨rfl,_,_,rfl,Le.refl _,fun _ _=>rfl,Z⟩)
 refine opsS_cons (fun f w_ _ _ _ _ p Z=>L_neg rfl (p 5 39 rfl rfl) (nO rfl rfl Z)) (opsS_cons (fun f w_ _ _ s _ _ Z=>mF ((s 7 rfl).trans sf7) rfl (nO rfl rfl Z)) (opsS_cons (fun f w_ _ _ _ _ p Z=>L_neg rfl (p 7 41 rfl rfl) (nO rfl rfl Z)) (opsS_cons (fun f w_ _ _ _ _ p Z=>L_bld rfl (parts2 (p 6 40 rfl rfl) (p 8 42 rfl rfl)) (bld_126_0_1 (I (i64 (-x21))) (I (i64 (-(i_11 : Int)))) rfl rfl) (nO rfl rfl Z)) (opsS_cons ?_ ?_))))
 intro f w_ H97 X97 hS97 hE97 hP97 Z
 refine L_bs rfl (parts1 (hP97 9 43 rfl rfl)) (bs_72_1_2 (I (i64 (-x21))) (I (i64 (-(i_11 : Int)))) ) Z (fun g111 w112 Z=>?_)
 have Z:=Star.addF (r:=rTerm) (cs:=[I (i64 (-x21)),I (i64 (-(i_11 : Int)))]) (x:=({ coef:=i64 (-x21),lit:=i64 (-(i_11 : Int)) } : Term)) Z (rTerm_iff.2 rfl)
 have Z:=Star.mkRow (R:=(OR.frz rTerm)) [([I (i64 (-x21)),I (i64 (-(i_11 : Int)))],({ coef:=i64 (-x21),lit:=i64 (-(i_11 : Int)) } : Term))] [({ coef:=i64 (-x21),lit:=i64 (-(i_11 : Int)) } : Term)] 1 Z rfl rfl rfl (by decide)
 have Z:=Z.gets [3,3,3] rfl
 exact L_nil ⟨rfl,_,_,rfl,Le.refl _,fun _ _=>trivial,Z⟩
 exact opsS_nil
 have Z : Star H97 w_ ([oF 126 rTerm v30_g8_0 g8_0_30,box g8 74 #[v30_g8_0,I 0],box g3 74 #[S0,I 0],oF 126 rTerm (f 44) ([({ coef:=i64 (-x21),lit:=i64 (-(i_11 : Int)) } : Term)])]):=Z
 have Z:=Z.gets [3,1] rfl
 refine L_appM (v:=v30_g8_0) (u:=(f 44)) rfl et_72 (hT97 1 35 rfl rfl) rfl Z hx92 (fun v115 w116 Z=>fA 0 fa_74_0 ((hS97 6 rfl).trans sf6) rfl (L_stB (v:=v115) (cs2:=#[v115,I 0]) 1 rfl Tryz.sizeOf72 rfl rfl (one_len (Star.len 0 Z rfl)) Z rfl rfl rfl (fun w118 Z=>nn (W_region (mF ((hS97 1 rfl).trans sf1) rfl (mF ((hS97 0 rfl).trans sf0) rfl (mF ((hS97 7 rfl).trans sf7) rfl (L_ix (r:=RP.int) rfl Tryz.underlying22 Tryz.sizeOf3 rfl (RP.mono _ h0 (Le.trans (Le.trans l16 l33) hE97)) rfl hx21 (fun g123 o124 cs_g123 hrk_hat125 hat125=>?_)))))))))
 obtain rfl : _ = [_]:=hrk_hat125
 refine L_ld rfl Tryz.isAgg3 rfl (At.cell (AtH.at hat125 Z.sub) (j:=0) rfl) (L_sub rfl rfl rfl (aI rfl (nn ?_)))
 obtain ⟨rfl,rfl⟩:=so2 hA83
 have Z:=Z.gets [2,1,2] rfl
 exact rj hR83 ⟨H97,v115,hE97,((hS97 0 rfl).trans sf0),rfl,((hS97 4 rfl).trans sf4),((hS97 6 rfl).trans sf6),((hS97 7 rfl).trans sf7),Z⟩
 have hA83:=(ite_f hc84).symm.trans hA83
 refine W_skip ?_
 obtain ⟨rfl,rfl⟩:=so2 hA83
 exact rj hR83 ⟨H32,v30_g8_0,(Le.refl _),sf0,sf1,sf4,sf6,sf7,Z⟩
 intro f w_ hR
 obtain ⟨H81,v79_g8_0,l82,sf0,sf1,sf4,sf6,sf7,Z⟩:=rk hR83 hR
 refine W_region (mF sf7 rfl (L_add rfl rfl rfl (aI rfl (nn ?_))))
 obtain rfl:=so hB17
 show ∃ m,m < _∧I17 m _ _
 refine ⟨rest17,Nat.lt_succ_self _,?_⟩
 exact ij hI17 ⟨i_11 + 1,rest17,bound_78,g8_0_79,H81,v79_g8_0,rfl,by omega,by omega,hL17,(Le.trans (Le.trans l16 l33) l82),sf0,sf1,sf4,sf6,(Eq.trans rfl (congrArg (Value.int .i64) (i64_succ (n:=1 + k18) (by omega) (cntF_le hk18)))),Z⟩
 rcases suf17 with _ | _
 obtain rfl:=count_zero hL17
 refine W_exit (rj hR17 ⟨bound_12,g8_0_13,H15,v13_g8_0,rfl,l16,sf1,sf4,sf6,Z⟩)
 exact absurd (cntF_yesL hs17 hl17 hk18) (of_decide_eq_false hc20)
 intro f w_ hR
 obtain ⟨bound_12,g8_0_13,H15,v13_g8_0,rfl,l16,sf1,sf4,sf6,Z⟩:=rk hR17 hR
 refine W_seq (sq (mF sf1 rfl (L_lss rfl rfl rfl (nn ?_))))
 obtain ⟨bound_127,hA128,hF⟩:=bind_some hF
 obtain ⟨R128,hR128⟩:=exR fun f w_=>f 1 = I bound_127∧f 4 = Pt g3∧f 6 = Pt g8∧Star H15 w_ ([oF 126 rTerm v13_g8_0 g8_0_13,box g8 74 #[v13_g8_0,I 0],box g3 74 #[S0,I 0]])
 refine W_join R128 ?_ ?_
 refine W_cond (b:=decide (bound_12 < 0)) rfl (fun hc129=>?_) (fun hc129=>?_)
 have hA128:=(ite_t hc129).symm.trans hA128
 refine W_region (aI rfl (nn ?_))
 obtain rfl:=so hA128
 exact rj hR128 ⟨rfl,sf4,sf6,Z⟩
 have hA128:=(ite_f hc129).symm.trans hA128
 refine W_skip ?_
 obtain rfl:=so hA128
 exact rj hR128 ⟨sf1,sf4,sf6,Z⟩
 intro f w_ hR
 obtain ⟨sf1,sf4,sf6,Z⟩:=rk hR128 hR
 refine sq (mF sf1 rfl (fA 1 fa_74_1 sf6 rfl (L_stB (v:=I bound_127) (cs2:=#[v13_g8_0,I bound_127]) 1 rfl Tryz.sizeOf3 rfl rfl rfl Z rfl rfl rfl (fun w131 Z=>L_nil (W_seq (W_seq ?_))))))
 obtain ⟨x138,hx138,hF⟩:=bind_some hF
 refine W_region (L_lda (cs:=[v13_g8_0,I bound_127]) rfl Tryz.isAgg74 Tryz.sizeOf74 sf6 (At.sub0 (Blk.at (Star.blkAt 0 Z rfl)) 0 2) rfl ?_)
 obtain ⟨H140b,l141,s142,z143,k144⟩:=Z.borrow
 have hb145 : (rS 126 rTerm).rel H140b [v13_g8_0] g8_0_13:=fz_own 1 z143 rfl
 refine L_call rfl Tryz.call123 (ops1 rfl) (s_ConstraintValid_c (c:=({ terms:=g8_0_13,bound:=bound_127 } : Con)) s142 hb145 hx138) ?_
 rintro _ w146 ⟨rfl,Z⟩
 have Z:=k144 Z c0
 refine L_not_ rfl rfl (nn (W_cond (b:=(!x138)) rfl (fun hc147=>?_) (fun hc147=>?_)))
 have hF:=(ite_t hc147).symm.trans hF
 refine sq (L_bld rfl (parts0 ) (bld_74_  ) (L_staB (vs:=#[S0,I 0]) (cs2:=#[S0,I 0]) 2 rfl Tryz.sizeOf74 sf4 rfl rfl (ones_cons rfl (ones_cons rfl ones_nil)) Z rfl (by show 0 + 2≤2; decide) rfl (fun w149 Z=>aB rfl (nn (W_ret (retG2 (v1:=.agg #[S0,I 0]) (v2:=Bo false) Tryz.results205 (resV_agg Tryz.isAgg74 Tryz.sizeOf74 sf4 (Star.blkAt 0 Z rfl) rfl) rfl ?_))))))
 obtain rfl:=so hF
 have Z:=Star.addNil (R:=(OR.frz rTerm)) (e:=126) Z
 exact ⟨S0,rfl,(Star.down (Star.keepN 1 Z) l16 (co closed_term c0))⟩
 have hF:=(ite_f hc147).symm.trans hF
 refine W_skip (sq (L_lda (cs:=[v13_g8_0,I bound_127]) rfl Tryz.isAgg74 Tryz.sizeOf74 sf6 (At.sub0 (Blk.at (Star.blkAt 0 Z rfl)) 0 2) rfl (L_staB (vs:=#[v13_g8_0,I bound_127]) (cs2:=#[v13_g8_0,I bound_127]) 2 rfl Tryz.sizeOf74 sf4 rfl rfl (ones_cons (one_len (Star.len 1 Z rfl)) (ones_cons rfl ones_nil)) Z rfl (by show 0 + 2≤2; decide) rfl (fun w152 Z=>aB rfl (nn (W_ret (retG2 (v1:=.agg #[v13_g8_0,I bound_127]) (v2:=Bo true) Tryz.results205 (resV_agg Tryz.isAgg74 Tryz.sizeOf74 sf4 (Star.blkAt 0 Z rfl) rfl) rfl ?_)))))))
 obtain rfl:=so hF
 have Z:=Z.get 2 rfl
 exact ⟨v13_g8_0,rfl,(Star.down (Star.keepN 1 Z) l16 (co closed_term c0))⟩
theorem s_AddConstraints_c {a : Con} {b : Con} {v0_0 : Value} {v1_0 : Value} {H : FH} {w : World} (Z : Star H w []) (h0_0 : (rS 126 rTerm).rel H [v0_0] a.terms) (h1_0 : (rS 126 rTerm).rel H [v1_0] b.terms) {r : Con × Bool} (hF : s_AddConstraints a b = some r) :
 C Tryz.prog 190 #[.agg #[v0_0,I a.bound],.agg #[v1_0,I b.bound]] w fun v w'=>∃ (u1 : Value),v = .tuple #[.agg #[u1,I r.1.bound],Bo r.2]∧Star H w' [oF 126 rTerm u1 r.1.terms]:=by
 unfold s_AddConstraints at hF
 refine C_enter Tryz.func190 rfl Tryz.ntmps190 rfl (sq (L_box (v:=.agg #[v0_0,I a.bound]) (cs:=#[v0_0,I a.bound]) rfl rfl rfl Z (fun g7 w8 Z=>L_box (v:=.agg #[v1_0,I b.bound]) (cs:=#[v1_0,I b.bound]) rfl rfl rfl Z (fun g9 w10 Z=>L_al (cs:=#[S0,I 0]) rfl Tryz.zeroValue74 rfl Z (fun g11 w12 Z=>aB rfl (nq (W_seq ?_)))))))
 obtain ⟨x18,hx18,hF⟩:=bind_some hF
 obtain ⟨b27,hb27,hF⟩:=bind_some hF
 obtain ⟨R28,hR28⟩:=exR fun f w_=>f 2 = Pt g7∧f 3 = Pt g9∧f 4 = Pt g11∧f 15 = Bo b27∧Star H w_ ([box g11 74 #[S0,I 0],box g9 74 #[v1_0,I b.bound],box g7 74 #[v0_0,I a.bound]])
 refine W_join R28 ?_ ?_
 refine W_region (L_lda (cs:=[v0_0,I a.bound]) rfl Tryz.isAgg74 Tryz.sizeOf74 rfl (At.sub0 (Blk.at (Star.blkAt 2 Z rfl)) 0 2) rfl ?_)
 obtain ⟨H29b,l30,s31,z32,k33⟩:=Z.borrow
 refine L_call rfl Tryz.call123 (ops1 rfl) (s_ConstraintValid_c (c:=a) s31 (RP.mono _ h0_0 l30) hx18) ?_
 rintro _ w34 ⟨rfl,Z⟩
 have Z:=k33 Z c0
 refine L_not_ rfl rfl (mB rfl (L_split (d:=11) (b:=(!x18)) rfl (fun hc35=>?_) (fun hc35=>?_)))
 rw [ite_t hc35] at hb27
 refine ps rfl (ps rfl (ps rfl (L_pick (v:=Bo b27) rfl rfl (congrArg Value.bool (so hb27)) (nn (rj hR28 ⟨rfl,rfl,rfl,rfl,Z⟩)))))
 rw [ite_f hc35] at hb27
 obtain ⟨x25,hx25,hb27⟩:=bind_some hb27
 refine L_lda (cs:=[v1_0,I b.bound]) rfl Tryz.isAgg74 Tryz.sizeOf74 rfl (At.sub0 (Blk.at (Star.blkAt 1 Z rfl)) 0 2) rfl ?_
 obtain ⟨H36b,l37,s38,z39,k40⟩:=Z.borrow
 refine L_call rfl Tryz.call123 (ops1 rfl) (s_ConstraintValid_c (c:=b) s38 (RP.mono _ h1_0 l37) hx25) ?_
 rintro _ w41 ⟨rfl,Z⟩
 have Z:=k40 Z c0
 refine L_not_ rfl rfl (L_pick (v:=Bo b27) rfl rfl (congrArg Value.bool (so hb27)) (nn (rj hR28 ⟨rfl,rfl,rfl,rfl,Z⟩)))
 intro f w_ hR
 obtain ⟨sf2,sf3,sf4,sf15,Z⟩:=rk hR28 hR
 refine W_cond (b:=b27) sf15 (fun hc42=>?_) (fun hc42=>?_)
 have hF:=(ite_t hc42).symm.trans hF
 refine sq (L_bld rfl (parts0 ) (bld_74_  ) (L_staB (vs:=#[S0,I 0]) (cs2:=#[S0,I 0]) 0 rfl Tryz.sizeOf74 sf4 rfl rfl (ones_cons rfl (ones_cons rfl ones_nil)) Z rfl (by show 0 + 2≤2; decide) rfl (fun w44 Z=>aB rfl (nn (W_ret (retG2 (v1:=.agg #[S0,I 0]) (v2:=Bo false) Tryz.results190 (resV_agg Tryz.isAgg74 Tryz.sizeOf74 sf4 (Star.blkAt 0 Z rfl) rfl) rfl ?_))))))
 obtain rfl:=so hF
 have Z:=Star.addNil (R:=(OR.frz rTerm)) (e:=126) Z
 exact ⟨S0,rfl,(Star.keepN 1 Z)⟩
 have hF:=(ite_f hc42).symm.trans hF
 refine W_skip (W_seq ?_)
 obtain ⟨x49,hx49,hF⟩:=bind_some hF
 obtain ⟨x53,hx53,hF⟩:=bind_some hF
 obtain ⟨x63,hx63,hF⟩:=bind_some hF
 refine W_drawS 17 [anyF,isV (Pt g7),isV (v0_0),anyF,isV (Pt g9),isV (v1_0),anyF,isV (Pq g7 1),isV (I a.bound),isV (Pq g9 1),isV (I b.bound),isV (I (i64 (a.bound + b.bound))),tup2 (anyF) (isV (I x63.2)),tup2 (anyF) (isV (I x63.2)),anyF,isV (I x63.2),anyF] [box g11 74 #[S0,I 0],box g9 74 #[v1_0,I b.bound],box g7 74 #[v0_0,I a.bound]] [.made 0 18 (fun v_=>oF 126 rTerm v_ ([])) (some 3),.made 3 21 (fun v_=>oF 126 rTerm v_ x49) (some 6),.made 6 24 (fun v_=>oF 126 rTerm v_ x53) none,.made 12 30 (fun v_=>oF 3 RP.int (tupC v_ 0) x63.1) (some 13),.made 13 17 (fun v_=>oF 3 RP.int (tupC v_ 0) x63.1) (some 14),.made 14 31 (fun v_=>oF 3 RP.int v_ x63.1) (some 16),.made 16 6 (fun v_=>oF 3 RP.int v_ x63.1) none] ([]) [([],[0]),([],[]),([],[]),([0],[1]),([],[]),([],[]),([1],[2]),([],[]),([],[]),([],[]),([],[]),([],[]),([2],[2,3]),([3],[4]),([4],[5]),([],[]),([5],[6])] (S:=[(some 0,[18],some 3),(some 3,[21],some 6),(some 6,[24],none),(some 12,[30],some 13),(some 13,[17],some 14),(some 14,[31],some 16),(some 16,[6],none)]) Tryz_mix (by kernel_rfl) rfl (by kernel_rfl) (amF_cons (mono_any) (amF_cons (mono_V _) (amF_cons (mono_V _) (amF_cons (mono_any) (amF_cons (mono_V _) (amF_cons (mono_V _) (amF_cons (mono_any) (amF_cons (mono_V _) (amF_cons (mono_V _) (amF_cons (mono_V _) (amF_cons (mono_V _) (amF_cons (mono_V _) (amF_cons (mono_tup2 (mono_any) (mono_V _)) (amF_cons (mono_tup2 (mono_any) (mono_V _)) (amF_cons (mono_any) (amF_cons (mono_V _) (amF_cons (mono_any) amF_nil))))))))))))))))) Z ?_ (fun f w_ H66 hS66 hE66 hT66 Z=>?_)
 refine opsS_cons ?_ ?_
 intro f w_ H66 X66 hS66 hE66 hP66 Z
 refine L_bs rfl parts0 (bs_72_0  ) Z (fun g84 w85 Z=>?_)
 have Z:=Star.mkRow (R:=(OR.frz rTerm)) [] [] 0 Z rfl rfl rfl (by decide)
 have Z:=Z.gets [3,3,3] rfl
 exact L_nil ⟨rfl,_,_,rfl,Le.refl _,fun _ _=>trivial,Z⟩
 refine opsS_cons (fun f w_ _ _ s _ _ Z=>fA 0 fa_74_0 ((s 2 rfl).trans sf2) rfl (nO rfl rfl Z)) (opsS_cons (fun f w_ _ _ _ _ p Z=>ldB 2 Z Tryz.isAgg72 (p 1 19 rfl rfl) rfl rfl (nO rfl rfl Z)) (opsS_cons ?_ ?_))
 intro f w_ H66 X66 hS66 hE66 hP66 Z
 have Z : Star H66 w_ (box g11 74 #[S0,I 0] :: box g9 74 #[v1_0,I b.bound] :: box g7 74 #[v0_0,I a.bound] :: oF 126 rTerm (f 18) ([]) :: X66):=Z
 have Z:=Z.get 3 rfl
 refine L_app (v:=(f 18)) (u:=v0_0) rfl et_72 rfl (hP66 2 20 rfl rfl) Z (RP.mono _ h0_0 hE66) hx49 (fun v88 w89 Z=>?_)
 have Z:=Z.gets [3,3,3] rfl
 exact L_nil ⟨rfl,_,_,rfl,Le.refl _,fun _ _=>trivial,Z⟩
 refine opsS_cons (fun f w_ _ _ s _ _ Z=>fA 0 fa_74_0 ((s 3 rfl).trans sf3) rfl (nO rfl rfl Z)) (opsS_cons (fun f w_ _ _ _ _ p Z=>ldB 1 Z Tryz.isAgg72 (p 4 22 rfl rfl) rfl rfl (nO rfl rfl Z)) (opsS_cons ?_ ?_))
 intro f w_ H66 X66 hS66 hE66 hP66 Z
 have Z : Star H66 w_ (box g11 74 #[S0,I 0] :: box g9 74 #[v1_0,I b.bound] :: box g7 74 #[v0_0,I a.bound] :: oF 126 rTerm (f 21) x49 :: X66):=Z
 have Z:=Z.get 3 rfl
 refine L_app (v:=(f 21)) (u:=v1_0) rfl et_72 rfl (hP66 5 23 rfl rfl) Z (RP.mono _ h1_0 hE66) hx53 (fun v92 w93 Z=>?_)
 have Z:=Z.gets [3,3,3] rfl
 exact L_nil ⟨rfl,_,_,rfl,Le.refl _,fun _ _=>trivial,Z⟩
 refine opsS_cons (fun f w_ _ _ s _ _ Z=>fA 1 fa_74_1 ((s 2 rfl).trans sf2) rfl (nO rfl rfl Z)) (opsS_cons (fun f w_ _ _ _ _ p Z=>ldB 2 Z Tryz.isAgg3 (p 7 25 rfl rfl) rfl rfl (nO rfl rfl Z)) (opsS_cons (fun f w_ _ _ s _ _ Z=>fA 1 fa_74_1 ((s 3 rfl).trans sf3) rfl (nO rfl rfl Z)) (opsS_cons (fun f w_ _ _ _ _ p Z=>ldB 1 Z Tryz.isAgg3 (p 9 27 rfl rfl) rfl rfl (nO rfl rfl Z)) (opsS_cons (fun f w_ _ _ _ _ p Z=>L_add rfl (p 8 26 rfl rfl) (p 10 28 rfl rfl) (nO rfl rfl Z)) (opsS_cons ?_ ?_)))))
 intro f w_ H66 X66 hS66 hE66 hP66 Z
 have Z : Star H66 w_ (box g11 74 #[S0,I 0] :: box g9 74 #[v1_0,I b.bound] :: box g7 74 #[v0_0,I a.bound] :: oF 126 rTerm (f 24) x53 :: X66):=Z
 obtain ⟨H96b,l97,s98,z99,k100⟩:=Z.borrow
 have hb101 : (rS 126 rTerm).rel H96b [(f 24)] x53:=fz_own 3 z99 rfl
 refine L_call rfl Tryz.call204 (ops2 rfl (hP66 11 29 rfl rfl)) (s_l1Net_c (terms:=x53) (bound:=i64 (a.bound + b.bound)) s98 hb101 hx63) ?_
 rintro _ w102 ⟨r102_0,rfl,Z⟩
 have Z:=k100 Z (co closed_int c0)
 have Z:=Z.gets [4,4,4,4] rfl
 exact L_nil ⟨rfl,_,_,rfl,Le.refl _,fun _ _=>⟨_,_,rfl,trivial,rfl⟩,Z⟩
 refine opsS_cons ?_ ?_
 intro f w_ H66 X66 hS66 hE66 hP66 Z
 have Z : Star H66 w_ (box g11 74 #[S0,I 0] :: box g9 74 #[v1_0,I b.bound] :: box g7 74 #[v0_0,I a.bound] :: own (OR.ownS 3 (OR.frz RP.int)) [(tupC (f 30) 0)] x63.1 :: X66):=Z
 obtain ⟨a104_0,a104_1,hv104,ht104_0,ht104_1⟩:=(hP66 12 30 rfl rfl)
 obtain rfl:=ht104_1
 have hren : Star H66 w_ (box g11 74 #[S0,I 0] :: box g9 74 #[v1_0,I b.bound] :: box g7 74 #[v0_0,I a.bound] :: own (OR.ownS 3 (OR.frz RP.int)) [(tupC (f 30) 0)] x63.1 :: X66):=Z
 rw [hv104] at hren
 have Z : Star H66 w_ (box g11 74 #[S0,I 0] :: box g9 74 #[v1_0,I b.bound] :: box g7 74 #[v0_0,I a.bound] :: oF 3 RP.int a104_0 x63.1 :: X66):=hren
 refine mF hv104 rfl (L_nil ⟨rfl,_,_,rfl,Le.refl _,fun _ _=>⟨_,_,rfl,trivial,rfl⟩,Z⟩)
 refine opsS_cons ?_ ?_
 intro f w_ H66 X66 hS66 hE66 hP66 Z
 have Z : Star H66 w_ (box g11 74 #[S0,I 0] :: box g9 74 #[v1_0,I b.bound] :: box g7 74 #[v0_0,I a.bound] :: own (OR.ownS 3 (OR.frz RP.int)) [(tupC (f 17) 0)] x63.1 :: X66):=Z
 obtain ⟨a105_0,a105_1,hv105,ht105_0,ht105_1⟩:=(hP66 13 17 rfl rfl)
 obtain rfl:=ht105_1
 have hren : Star H66 w_ (box g11 74 #[S0,I 0] :: box g9 74 #[v1_0,I b.bound] :: box g7 74 #[v0_0,I a.bound] :: own (OR.ownS 3 (OR.frz RP.int)) [(tupC (f 17) 0)] x63.1 :: X66):=Z
 rw [hv105] at hren
 have Z : Star H66 w_ (box g11 74 #[S0,I 0] :: box g9 74 #[v1_0,I b.bound] :: box g7 74 #[v0_0,I a.bound] :: oF 3 RP.int a105_0 x63.1 :: X66):=hren
 refine L_ex (v:=a105_0) rfl hv105 rfl (L_nil ⟨rfl,_,_,rfl,Le.refl _,fun _ _=>trivial,Z⟩)
 refine opsS_cons ?_ ?_
 intro f w_ H66 X66 hS66 hE66 hP66 Z
 obtain ⟨a106_0,a106_1,hv106,ht106_0,ht106_1⟩:=(hP66 13 17 rfl rfl)
 obtain rfl:=ht106_1
 refine L_ex (v:=I x63.2) rfl hv106 rfl (L_nil ⟨rfl,_,_,rfl,Le.refl _,fun _ _=>rfl,Z⟩)
 refine opsS_cons ?_ ?_
 intro f w_ H66 X66 hS66 hE66 hP66 Z
 have Z : Star H66 w_ (box g11 74 #[S0,I 0] :: box g9 74 #[v1_0,I b.bound] :: box g7 74 #[v0_0,I a.bound] :: oF 3 RP.int (f 31) x63.1 :: X66):=Z
 refine aV (f 31) rfl (L_nil ⟨rfl,_,_,rfl,Le.refl _,fun _ _=>trivial,Z⟩)
 exact opsS_nil
 have Z : Star H66 w_ ([box g11 74 #[S0,I 0],box g9 74 #[v1_0,I b.bound],box g7 74 #[v0_0,I a.bound],oF 126 rTerm (f 24) x53,oF 3 RP.int (f 6) x63.1]):=Z
 refine aF (hT66 15 32 rfl rfl) rfl (L_nil (W_seq ?_))
 obtain ⟨x115,hx115,hF⟩:=bind_some hF
 refine W_region (mV (f 6) rfl (mI rfl ?_))
 obtain ⟨H119b,l120,s121,z122,k123⟩:=Z.borrow
 have hb124 : (rS 3 RP.int).rel H119b [(f 6)] x63.1:=fz_own 4 z122 rfl
 refine L_call rfl Tryz.call205 (ops2 rfl rfl) (s_l1Normal_c (net:=x63.1) (bound:=x63.2) s121 hb124 hx115) ?_
 rintro _ w125 ⟨r125_0,rfl,Z⟩
 have Z:=k123 Z (co closed_term c0)
 refine L_ex (v:=.agg #[r125_0,I x115.1.bound]) rfl rfl rfl (L_ex (v:=Bo x115.2) rfl rfl rfl (L_staB (vs:=#[r125_0,I x115.1.bound]) (cs2:=#[r125_0,I x115.1.bound]) 1 rfl Tryz.sizeOf74 ((hS66 4 rfl).trans sf4) rfl rfl (ones_cons (one_len (Star.len 0 Z rfl)) (ones_cons rfl ones_nil)) Z rfl (by show 0 + 2≤2; decide) rfl (fun w127 Z=>aB rfl (nn (W_ret (retG2 (v1:=.agg #[r125_0,I x115.1.bound]) (v2:=Bo x115.2) Tryz.results190 (resV_agg Tryz.isAgg74 Tryz.sizeOf74 ((hS66 4 rfl).trans sf4) (Star.blkAt 0 Z rfl) rfl) rfl ?_))))))
 obtain rfl:=so hF
 have Z:=Z.get 1 rfl
 exact ⟨r125_0,rfl,(Star.down (Star.keepN 1 Z) hE66 (co closed_term c0))⟩
theorem s_MultiplyConstraint_c {c : Con} {k : Int} {v0_0 : Value} {H : FH} {w : World} (Z : Star H w []) (h0_0 : (rS 126 rTerm).rel H [v0_0] c.terms) {r : Con × Bool} (hF : s_MultiplyConstraint c k = some r) :
 C Tryz.prog 191 #[.agg #[v0_0,I c.bound],I k] w fun v w'=>∃ (u1 : Value),v = .tuple #[.agg #[u1,I r.1.bound],Bo r.2]∧Star H w' [oF 126 rTerm u1 r.1.terms]:=by
 unfold s_MultiplyConstraint at hF
 refine C_enter Tryz.func191 rfl Tryz.ntmps191 rfl (sq (L_box (v:=.agg #[v0_0,I c.bound]) (cs:=#[v0_0,I c.bound]) rfl rfl rfl Z (fun g5 w6 Z=>L_al (cs:=#[S0,I 0]) rfl Tryz.zeroValue74 rfl Z (fun g7 w8 Z=>aB rfl (nq (W_seq ?_))))))
 obtain ⟨x14,hx14,hF⟩:=bind_some hF
 obtain ⟨R16,hR16⟩:=exR fun f w_=>f 1 = I k∧f 2 = Pt g5∧f 4 = Pt g7∧f 18 = Bo (((!x14) || (decide (k < 1))) || (decide (k > 1000)))∧Star H w_ ([box g7 74 #[S0,I 0],box g5 74 #[v0_0,I c.bound]])
 refine W_join R16 ?_ ?_
 refine W_region (L_lda (cs:=[v0_0,I c.bound]) rfl Tryz.isAgg74 Tryz.sizeOf74 rfl (At.sub0 (Blk.at (Star.blkAt 1 Z rfl)) 0 2) rfl ?_)
 obtain ⟨H17b,l18,s19,z20,k21⟩:=Z.borrow
 refine L_call rfl Tryz.call123 (ops1 rfl) (s_ConstraintValid_c (c:=c) s19 (RP.mono _ h0_0 l18) hx14) ?_
 rintro _ w22 ⟨rfl,Z⟩
 have Z:=k21 Z c0
 refine L_not_ rfl rfl (mB rfl (L_split (d:=11) (b:=(!x14)) rfl (fun hc23=>?_) (fun hc23=>?_)))
 refine ps rfl (ps rfl (L_pick (v:=Bo ((!x14) || (decide (k < 1)))) rfl rfl (or_t hc23) (mB rfl (L_split (d:=15) (b:=((!x14) || (decide (k < 1)))) rfl (fun hc24=>?_) (fun hc24=>?_)))))
 refine ps rfl (ps rfl (L_pick (v:=Bo (((!x14) || (decide (k < 1))) || (decide (k > 1000)))) rfl rfl (or_t hc24) (nn (rj hR16 ⟨rfl,rfl,rfl,rfl,Z⟩))))
 exact boolNo (orT hc23) hc24
 refine mI rfl (L_lss rfl rfl rfl (L_pick (v:=Bo ((!x14) || (decide (k < 1)))) rfl rfl (or_f hc23 rfl) (mB rfl (L_split (d:=15) (b:=((!x14) || (decide (k < 1)))) rfl (fun hc25=>?_) (fun hc25=>?_)))))
 refine ps rfl (ps rfl (L_pick (v:=Bo (((!x14) || (decide (k < 1))) || (decide (k > 1000)))) rfl rfl (or_t hc25) (nn (rj hR16 ⟨rfl,rfl,rfl,rfl,Z⟩))))
 refine mI rfl (L_gtr rfl rfl rfl (L_pick (v:=Bo (((!x14) || (decide (k < 1))) || (decide (k > 1000)))) rfl rfl (or_f hc25 rfl) (nn (rj hR16 ⟨rfl,rfl,rfl,rfl,Z⟩))))
 intro f w_ hR
 obtain ⟨sf1,sf2,sf4,sf18,Z⟩:=rk hR16 hR
 refine W_cond (b:=(((!x14) || (decide (k < 1))) || (decide (k > 1000)))) sf18 (fun hc26=>?_) (fun hc26=>?_)
 have hF:=(ite_t hc26).symm.trans hF
 refine sq (L_bld rfl (parts0 ) (bld_74_  ) (L_staB (vs:=#[S0,I 0]) (cs2:=#[S0,I 0]) 0 rfl Tryz.sizeOf74 sf4 rfl rfl (ones_cons rfl (ones_cons rfl ones_nil)) Z rfl (by show 0 + 2≤2; decide) rfl (fun w28 Z=>aB rfl (nn (W_ret (retG2 (v1:=.agg #[S0,I 0]) (v2:=Bo false) Tryz.results191 (resV_agg Tryz.isAgg74 Tryz.sizeOf74 sf4 (Star.blkAt 0 Z rfl) rfl) rfl ?_))))))
 obtain rfl:=so hF
 have Z:=Star.addNil (R:=(OR.frz rTerm)) (e:=126) Z
 exact ⟨S0,rfl,(Star.keepN 1 Z)⟩
 have hF:=(ite_f hc26).symm.trans hF
 refine W_skip (sq (fA 1 fa_74_1 sf2 rfl (ldB 1 Z Tryz.isAgg3 rfl rfl rfl (mF sf1 rfl (L_mul rfl rfl rfl (L_bld rfl (parts1 rfl) (bld_74_1 (I (i64 (c.bound * k))) rfl) (L_al (cs:=#[S0,I 0]) rfl Tryz.zeroValue74 rfl Z (fun g33 w34 Z=>L_staB (vs:=#[S0,I (i64 (c.bound * k))]) (cs2:=#[S0,I (i64 (c.bound * k))]) 0 rfl Tryz.sizeOf74 rfl rfl rfl (ones_cons rfl (ones_cons rfl ones_nil)) Z rfl (by show 0 + 2≤2; decide) rfl (fun w35 Z=>nq (sq (aI rfl (nn ?_))))))))))))
 have hlen41 : List.length c.terms≤9223372036854775807:=len_le (slice_len h0_0)
 obtain ⟨j41,hL41,hF⟩:=bind_some hF
 obtain ⟨R41,hR41⟩:=exR fun f w_=>∃ g33_0_37 : List Term,∃ H39 : FH,∃ v37_g33_0 : Value,j41 = .nx g33_0_37∧Le H H39∧f 4 = Pt g7∧f 6 = Pt g33∧Star H39 w_ ([oF 126 rTerm v37_g33_0 g33_0_37,box g33 74 #[v37_g33_0,I (i64 (c.bound * k))],box g7 74 #[S0,I 0]])
 refine W_join R41 ?_ ?_
 refine W_block ?_
 obtain ⟨I41,hI41⟩:=exI fun n f w_=>∃ i_36 : Nat,∃ suf41 : List Term,∃ g33_0_37 : List Term,∃ H39 : FH,∃ v37_g33_0 : Value,n = suf41.length∧List.drop i_36 c.terms = suf41∧i_36 + suf41.length = c.terms.length∧rangeL (s_MultiplyConstraint_b1 k) suf41 i_36 g33_0_37 = some j41∧Le H H39∧f 1 = I k∧f 2 = Pt g5∧f 4 = Pt g7∧f 6 = Pt g33∧f 7 = I i_36∧Star H39 w_ ([oF 126 rTerm v37_g33_0 g33_0_37,box g33 74 #[v37_g33_0,I (i64 (c.bound * k))],box g7 74 #[S0,I 0],box g5 74 #[v0_0,I c.bound]])
 have Z:=Star.addNil (R:=(OR.frz rTerm)) (e:=126) Z
 refine W_loop I41 (n:=c.terms.length) ?_ ?_
 exact ij hI41 ⟨0,c.terms,[],H,S0,rfl,rfl,Nat.zero_add _,hL41,(Le.refl _),sf1,sf2,sf4,rfl,rfl,Z⟩
 intro n41 f w_ hI
 obtain ⟨i_36,suf41,g33_0_37,H39,v37_g33_0,rfl,hd41,hl41,hL41,l40,sf1,sf2,sf4,sf6,sf7,Z⟩:=ik hI41 hI
 refine W_seq (sq (mF sf7 rfl (fA 0 fa_74_0 sf2 rfl (ldB 3 Z Tryz.isAgg72 rfl rfl rfl (L_len rfl Tryz.underlying72 rfl (slice_len (RP.mono _ h0_0 l40)) (L_lss rfl rfl rfl (nn (W_cond (b:=decide ((i_36 : Int) < (c.terms.length : Int))) rfl (fun hc43=>?_) (fun hc43=>?_)))))))))
 have hlt41:=of_decide_eq_true hc43
 rcases suf41 with _ | ⟨x_41,rest41⟩
 exact absurd hlt41 (by simp at hl41; omega)
 obtain ⟨o41,hB41,hL41⟩:=range_cons hL41
 rw [s_MultiplyConstraint_b1] at hB41
 have hix41:=drop_idx hd41
 refine W_skip (W_seq (W_block ?_))
 obtain ⟨x55,hx55,hB41⟩:=bind_some hB41
 refine W_drawS 18 [isV (Pt g33),isV (v37_g33_0),isV (Pt g5),isV (v0_0),isV (I i_36),isEl rTerm x_41 0,isEl rTerm x_41 0,isV (I x_41.coef),isV (I k),isV (I (i64 (x_41.coef * k))),isV (Pt g5),isV (v0_0),isV (I i_36),isEl rTerm x_41 0,isEl rTerm x_41 1,isV (I x_41.lit),isV (.agg #[I (i64 (x_41.coef * k)),I x_41.lit]),anyF] [oF 126 rTerm v37_g33_0 g33_0_37,box g33 74 #[v37_g33_0,I (i64 (c.bound * k))],box g7 74 #[S0,I 0],box g5 74 #[v0_0,I c.bound]] [.made 17 49 (fun v_=>oF 126 rTerm v_ ([({ coef:=i64 (x_41.coef * k),lit:=x_41.lit } : Term)])) none] ([]) [([],[]),([],[]),([],[]),([],[]),([],[]),([],[]),([],[]),([],[]),([],[]),([],[]),([],[]),([],[]),([],[]),([],[]),([],[]),([],[]),([],[]),([],[0])] (S:=[(some 17,[49],none)]) Tryz_mix (by kernel_rfl) rfl (by kernel_rfl) (amF_cons (mono_V _) (amF_cons (mono_V _) (amF_cons (mono_V _) (amF_cons (mono_V _) (amF_cons (mono_V _) (amF_cons (mono_el _ _ _) (amF_cons (mono_el _ _ _) (amF_cons (mono_V _) (amF_cons (mono_V _) (amF_cons (mono_V _) (amF_cons (mono_V _) (amF_cons (mono_V _) (amF_cons (mono_V _) (amF_cons (mono_el _ _ _) (amF_cons (mono_el _ _ _) (amF_cons (mono_V _) (amF_cons (mono_V _) (amF_cons (mono_any) amF_nil)))))))))))))))))) Z ?_ (fun f w_ H60 hS60 hE60 hT60 Z=>?_)
 refine opsS_cons (fun f w_ _ _ s _ _ Z=>fA 0 fa_74_0 ((s 6 rfl).trans sf6) rfl (nO rfl rfl Z)) (opsS_cons (fun f w_ _ _ _ _ p Z=>ldB 1 Z Tryz.isAgg72 (p 0 32 rfl rfl) rfl rfl (nO rfl rfl Z)) (opsS_cons (fun f w_ _ _ s _ _ Z=>fA 0 fa_74_0 ((s 2 rfl).trans sf2) rfl (nO rfl rfl Z)) (opsS_cons (fun f w_ _ _ _ _ p Z=>ldB 3 Z Tryz.isAgg72 (p 2 34 rfl rfl) rfl rfl (nO rfl rfl Z)) (opsS_cons (fun f w_ _ _ s _ _ Z=>mF ((s 7 rfl).trans sf7) rfl (nO rfl rfl Z)) (opsS_cons ?_ ?_)))))
 intro f w_ H60 X60 hS60 hE60 hP60 Z
 refine L_ix (r:=rTerm) rfl Tryz.underlying72 Tryz.sizeOf126 (hP60 3 35 rfl rfl) (RP.mono _ h0_0 (Le.trans l40 hE60)) (hP60 4 36 rfl rfl) hix41 (fun g72 o73 cs_g72 hrk_hat74 hat74=>?_)
 obtain rfl:=rTerm_iff.1 hrk_hat74
 exact L_nil ⟨rfl,_,_,rfl,Le.refl _,fun _ _=>⟨_,_,_,rfl,hrk_hat74,hat74⟩,Z⟩
 refine opsS_cons ?_ ?_
 intro f w_ H60 X60 hS60 hE60 hP60 Z
 obtain ⟨g76,o76,cs76,hv76,hrk_hat76,hat76⟩:=(hP60 5 37 rfl rfl)
 obtain rfl:=rTerm_iff.1 hrk_hat76
 refine fA o76 fa_126_0 hv76 rfl (L_nil ⟨rfl,_,_,rfl,Le.refl _,fun _ _=>⟨_,_,_,rfl,hrk_hat76,hat76⟩,Z⟩)
 refine opsS_cons ?_ ?_
 intro f w_ H60 X60 hS60 hE60 hP60 Z
 obtain ⟨g78,o78,cs78,hv78,hrk_hat78,hat78⟩:=(hP60 6 38 rfl rfl)
 obtain rfl:=rTerm_iff.1 hrk_hat78
 refine L_ld rfl Tryz.isAgg3 hv78 (At.cell (AtH.at hat78 Z.sub) (j:=0) rfl) (L_nil ⟨rfl,_,_,rfl,Le.refl _,fun _ _=>rfl,Z⟩)
 refine opsS_cons (fun f w_ _ _ s _ _ Z=>mF ((s 1 rfl).trans sf1) rfl (nO rfl rfl Z)) (opsS_cons (fun f w_ _ _ _ _ p Z=>L_mul rfl (p 7 39 rfl rfl) (p 8 40 rfl rfl) (nO rfl rfl Z)) (opsS_cons (fun f w_ _ _ s _ _ Z=>fA 0 fa_74_0 ((s 2 rfl).trans sf2) rfl (nO rfl rfl Z)) (opsS_cons (fun f w_ _ _ _ _ p Z=>ldB 3 Z Tryz.isAgg72 (p 10 42 rfl rfl) rfl rfl (nO rfl rfl Z)) (opsS_cons (fun f w_ _ _ s _ _ Z=>mF ((s 7 rfl).trans sf7) rfl (nO rfl rfl Z)) (opsS_cons ?_ ?_)))))
 intro f w_ H60 X60 hS60 hE60 hP60 Z
 refine L_ix (r:=rTerm) rfl Tryz.underlying72 Tryz.sizeOf126 (hP60 11 43 rfl rfl) (RP.mono _ h0_0 (Le.trans l40 hE60)) (hP60 12 44 rfl rfl) hix41 (fun g80 o81 cs_g80 hrk_hat82 hat82=>?_)
 obtain rfl:=rTerm_iff.1 hrk_hat82
 exact L_nil ⟨rfl,_,_,rfl,Le.refl _,fun _ _=>⟨_,_,_,rfl,hrk_hat82,hat82⟩,Z⟩
 refine opsS_cons ?_ ?_
 intro f w_ H60 X60 hS60 hE60 hP60 Z
 obtain ⟨g84,o84,cs84,hv84,hrk_hat84,hat84⟩:=(hP60 13 45 rfl rfl)
 obtain rfl:=rTerm_iff.1 hrk_hat84
 refine fA (o84 + 1) fa_126_1 hv84 rfl (L_nil ⟨rfl,_,_,rfl,Le.refl _,fun _ _=>⟨_,_,_,rfl,hrk_hat84,hat84⟩,Z⟩)
 refine opsS_cons ?_ ?_
 intro f w_ H60 X60 hS60 hE60 hP60 Z
 obtain ⟨g86,o86,cs86,hv86,hrk_hat86,hat86⟩:=(hP60 14 46 rfl rfl)
 obtain rfl:=rTerm_iff.1 hrk_hat86
 refine L_ld rfl Tryz.isAgg3 hv86 (At.cell (AtH.at hat86 Z.sub) (j:=1) rfl) (L_nil ⟨rfl,_,_,rfl,Le.refl _,fun _ _=>rfl,Z⟩)
 refine opsS_cons (fun f w_ _ _ _ _ p Z=>L_bld rfl (parts2 (p 9 41 rfl rfl) (p 15 47 rfl rfl)) (bld_126_0_1 (I (i64 (x_41.coef * k))) (I x_41.lit) rfl rfl) (nO rfl rfl Z)) (opsS_cons ?_ ?_)
 intro f w_ H60 X60 hS60 hE60 hP60 Z
 refine L_bs rfl (parts1 (hP60 16 48 rfl rfl)) (bs_72_1_2 (I (i64 (x_41.coef * k))) (I x_41.lit) ) Z (fun g88 w89 Z=>?_)
 have Z:=Star.addF (r:=rTerm) (cs:=[I (i64 (x_41.coef * k)),I x_41.lit]) (x:=({ coef:=i64 (x_41.coef * k),lit:=x_41.lit } : Term)) Z (rTerm_iff.2 rfl)
 have Z:=Star.mkRow (R:=(OR.frz rTerm)) [([I (i64 (x_41.coef * k)),I x_41.lit],({ coef:=i64 (x_41.coef * k),lit:=x_41.lit } : Term))] [({ coef:=i64 (x_41.coef * k),lit:=x_41.lit } : Term)] 1 Z rfl rfl rfl (by decide)
 have Z:=Z.gets [4,4,4,4] rfl
 exact L_nil ⟨rfl,_,_,rfl,Le.refl _,fun _ _=>trivial,Z⟩
 exact opsS_nil
 have Z : Star H60 w_ ([oF 126 rTerm v37_g33_0 g33_0_37,box g33 74 #[v37_g33_0,I (i64 (c.bound * k))],box g7 74 #[S0,I 0],box g5 74 #[v0_0,I c.bound],oF 126 rTerm (f 49) ([({ coef:=i64 (x_41.coef * k),lit:=x_41.lit } : Term)])]):=Z
 have Z:=Z.gets [4,1] rfl
 refine L_appM (v:=v37_g33_0) (u:=(f 49)) rfl et_72 (hT60 1 33 rfl rfl) rfl Z hx55 (fun v92 w93 Z=>fA 0 fa_74_0 ((hS60 6 rfl).trans sf6) rfl (L_stB (v:=v92) (cs2:=#[v92,I (i64 (c.bound * k))]) 1 rfl Tryz.sizeOf72 rfl rfl (one_len (Star.len 0 Z rfl)) Z rfl rfl rfl (fun w95 Z=>nn (W_region (mF ((hS60 7 rfl).trans sf7) rfl (L_add rfl rfl rfl (aI rfl (nn ?_))))))))
 obtain rfl:=so hB41
 have Z:=Z.gets [3,3,2,3] rfl
 show ∃ m,m < _∧I41 m _ _
 refine ⟨rest41.length,by simp,?_⟩
 exact ij hI41 ⟨i_36 + 1,rest41,x55,H60,v92,rfl,drop_next hd41,by simp at hl41; omega,hL41,(Le.trans l40 hE60),((hS60 1 rfl).trans sf1),((hS60 2 rfl).trans sf2),((hS60 4 rfl).trans sf4),((hS60 6 rfl).trans sf6),(Eq.trans rfl (congrArg (Value.int .i64) (i64_succ (n:=c.terms.length) (by simp at hl41; omega) hlen41))),Z⟩
 rcases suf41 with _ | ⟨_,_⟩
 obtain rfl:=range_nil hL41
 refine W_exit (rj hR41 ⟨g33_0_37,H39,v37_g33_0,rfl,l40,sf4,sf6,(Star.keepN 3 Z)⟩)
 exact absurd (of_decide_eq_false hc43) (by simp at hl41; omega)
 intro f w_ hR
 obtain ⟨g33_0_37,H39,v37_g33_0,rfl,l40,sf4,sf6,Z⟩:=rk hR41 hR
 refine W_seq (W_seq ?_)
 obtain ⟨x102,hx102,hF⟩:=bind_some hF
 refine W_region (L_lda (cs:=[v37_g33_0,I (i64 (c.bound * k))]) rfl Tryz.isAgg74 Tryz.sizeOf74 sf6 (At.sub0 (Blk.at (Star.blkAt 1 Z rfl)) 0 2) rfl ?_)
 obtain ⟨H104b,l105,s106,z107,k108⟩:=Z.borrow
 have hb109 : (rS 126 rTerm).rel H104b [v37_g33_0] g33_0_37:=fz_own 0 z107 rfl
 refine L_call rfl Tryz.call123 (ops1 rfl) (s_ConstraintValid_c (c:=({ terms:=g33_0_37,bound:=i64 (c.bound * k) } : Con)) s106 hb109 hx102) ?_
 rintro _ w110 ⟨rfl,Z⟩
 have Z:=k108 Z c0
 refine L_not_ rfl rfl (nn (W_cond (b:=(!x102)) rfl (fun hc111=>?_) (fun hc111=>?_)))
 have hF:=(ite_t hc111).symm.trans hF
 refine sq (L_bld rfl (parts0 ) (bld_74_  ) (L_staB (vs:=#[S0,I 0]) (cs2:=#[S0,I 0]) 2 rfl Tryz.sizeOf74 sf4 rfl rfl (ones_cons rfl (ones_cons rfl ones_nil)) Z rfl (by show 0 + 2≤2; decide) rfl (fun w113 Z=>aB rfl (nn (W_ret (retG2 (v1:=.agg #[S0,I 0]) (v2:=Bo false) Tryz.results191 (resV_agg Tryz.isAgg74 Tryz.sizeOf74 sf4 (Star.blkAt 0 Z rfl) rfl) rfl ?_))))))
 obtain rfl:=so hF
 have Z:=Star.addNil (R:=(OR.frz rTerm)) (e:=126) Z
 exact ⟨S0,rfl,(Star.down (Star.keepN 1 Z) l40 (co closed_term c0))⟩
 have hF:=(ite_f hc111).symm.trans hF
 refine W_skip (sq (L_lda (cs:=[v37_g33_0,I (i64 (c.bound * k))]) rfl Tryz.isAgg74 Tryz.sizeOf74 sf6 (At.sub0 (Blk.at (Star.blkAt 1 Z rfl)) 0 2) rfl (L_staB (vs:=#[v37_g33_0,I (i64 (c.bound * k))]) (cs2:=#[v37_g33_0,I (i64 (c.bound * k))]) 2 rfl Tryz.sizeOf74 sf4 rfl rfl (ones_cons (one_len (Star.len 0 Z rfl)) (ones_cons rfl ones_nil)) Z rfl (by show 0 + 2≤2; decide) rfl (fun w116 Z=>aB rfl (nn (W_ret (retG2 (v1:=.agg #[v37_g33_0,I (i64 (c.bound * k))]) (v2:=Bo true) Tryz.results191 (resV_agg Tryz.isAgg74 Tryz.sizeOf74 sf4 (Star.blkAt 0 Z rfl) rfl) rfl ?_)))))))
 obtain rfl:=so hF
 have Z:=Z.get 1 rfl
 exact ⟨v37_g33_0,rfl,(Star.down (Star.keepN 1 Z) l40 (co closed_term c0))⟩
theorem s_l2Up_c {n_ : Int} {k : Int} {H : FH} {w : World} (Z : Star H w []) {r : Int} (hF : s_l2Up n_ k = some r) :
 C Tryz.prog 206 #[I n_,I k] w fun v w'=>v = I r∧Star H w' []:=by
 unfold s_l2Up at hF
 refine C_enter Tryz.func206 rfl Tryz.ntmps206 rfl (sq (aI rfl (nq ?_)))
 obtain ⟨q1,hq1,hF⟩:=bind_some hF
 refine W_region (mI rfl (mI rfl (L_add rfl rfl rfl (L_sub rfl rfl rfl (mI rfl (L_quo (m:=i64 ((i64 (n_ + k)) - 1)) (n:=k) rfl rfl rfl (fun he=>by rw [if_pos he] at hq1; cases hq1) (aI rfl (nn (W_ret (retG1 (v1:=I (i64 (Int.tdiv (i64 ((i64 (n_ + k)) - 1)) k))) Tryz.results206 rfl ?_))))))))))
 obtain rfl:=so hF
 exact ⟨rfl,Z⟩
theorem s_DivideConstraint_c {c : Con} {k : Int} {v0_0 : Value} {H : FH} {w : World} (Z : Star H w []) (h0_0 : (rS 126 rTerm).rel H [v0_0] c.terms) {r : Con × Bool} (hF : s_DivideConstraint c k = some r) :
 C Tryz.prog 192 #[.agg #[v0_0,I c.bound],I k] w fun v w'=>∃ (u1 : Value),v = .tuple #[.agg #[u1,I r.1.bound],Bo r.2]∧Star H w' [oF 126 rTerm u1 r.1.terms]:=by
 unfold s_DivideConstraint at hF
 refine C_enter Tryz.func192 rfl Tryz.ntmps192 rfl (sq (L_box (v:=.agg #[v0_0,I c.bound]) (cs:=#[v0_0,I c.bound]) rfl rfl rfl Z (fun g5 w6 Z=>L_al (cs:=#[S0,I 0]) rfl Tryz.zeroValue74 rfl Z (fun g7 w8 Z=>aB rfl (nq (W_seq ?_))))))
 obtain ⟨x14,hx14,hF⟩:=bind_some hF
 obtain ⟨R16,hR16⟩:=exR fun f w_=>f 1 = I k∧f 2 = Pt g5∧f 4 = Pt g7∧f 18 = Bo (((!x14) || (decide (k < 1))) || (decide (k > 1000)))∧Star H w_ ([box g7 74 #[S0,I 0],box g5 74 #[v0_0,I c.bound]])
 refine W_join R16 ?_ ?_
 refine W_region (L_lda (cs:=[v0_0,I c.bound]) rfl Tryz.isAgg74 Tryz.sizeOf74 rfl (At.sub0 (Blk.at (Star.blkAt 1 Z rfl)) 0 2) rfl ?_)
 obtain ⟨H17b,l18,s19,z20,k21⟩:=Z.borrow
 refine L_call rfl Tryz.call123 (ops1 rfl) (s_ConstraintValid_c (c:=c) s19 (RP.mono _ h0_0 l18) hx14) ?_
 rintro _ w22 ⟨rfl,Z⟩
 have Z:=k21 Z c0
 refine L_not_ rfl rfl (mB rfl (L_split (d:=11) (b:=(!x14)) rfl (fun hc23=>?_) (fun hc23=>?_)))
 refine ps rfl (ps rfl (L_pick (v:=Bo ((!x14) || (decide (k < 1)))) rfl rfl (or_t hc23) (mB rfl (L_split (d:=15) (b:=((!x14) || (decide (k < 1)))) rfl (fun hc24=>?_) (fun hc24=>?_)))))
 refine ps rfl (ps rfl (L_pick (v:=Bo (((!x14) || (decide (k < 1))) || (decide (k > 1000)))) rfl rfl (or_t hc24) (nn (rj hR16 ⟨rfl,rfl,rfl,rfl,Z⟩))))
 exact boolNo (orT hc23) hc24
 refine mI rfl (L_lss rfl rfl rfl (L_pick (v:=Bo ((!x14) || (decide (k < 1)))) rfl rfl (or_f hc23 rfl) (mB rfl (L_split (d:=15) (b:=((!x14) || (decide (k < 1)))) rfl (fun hc25=>?_) (fun hc25=>?_)))))
 refine ps rfl (ps rfl (L_pick (v:=Bo (((!x14) || (decide (k < 1))) || (decide (k > 1000)))) rfl rfl (or_t hc25) (nn (rj hR16 ⟨rfl,rfl,rfl,rfl,Z⟩))))
 refine mI rfl (L_gtr rfl rfl rfl (L_pick (v:=Bo (((!x14) || (decide (k < 1))) || (decide (k > 1000)))) rfl rfl (or_f hc25 rfl) (nn (rj hR16 ⟨rfl,rfl,rfl,rfl,Z⟩))))
 intro f w_ hR
 obtain ⟨sf1,sf2,sf4,sf18,Z⟩:=rk hR16 hR
 refine W_cond (b:=(((!x14) || (decide (k < 1))) || (decide (k > 1000)))) sf18 (fun hc26=>?_) (fun hc26=>?_)
 have hF:=(ite_t hc26).symm.trans hF
 refine sq (L_bld rfl (parts0 ) (bld_74_  ) (L_staB (vs:=#[S0,I 0]) (cs2:=#[S0,I 0]) 0 rfl Tryz.sizeOf74 sf4 rfl rfl (ones_cons rfl (ones_cons rfl ones_nil)) Z rfl (by show 0 + 2≤2; decide) rfl (fun w28 Z=>aB rfl (nn (W_ret (retG2 (v1:=.agg #[S0,I 0]) (v2:=Bo false) Tryz.results192 (resV_agg Tryz.isAgg74 Tryz.sizeOf74 sf4 (Star.blkAt 0 Z rfl) rfl) rfl ?_))))))
 obtain rfl:=so hF
 have Z:=Star.addNil (R:=(OR.frz rTerm)) (e:=126) Z
 exact ⟨S0,rfl,(Star.keepN 1 Z)⟩
 have hF:=(ite_f hc26).symm.trans hF
 refine W_skip (W_seq ?_)
 obtain ⟨x35,hx35,hF⟩:=bind_some hF
 refine W_region (fA 1 fa_74_1 sf2 rfl (ldB 1 Z Tryz.isAgg3 rfl rfl rfl (mF sf1 rfl ?_)))
 obtain ⟨H40b,l41,s42,z43,k44⟩:=Z.borrow
 refine L_call rfl Tryz.call206 (ops2 rfl rfl) (s_l2Up_c (n_:=c.bound) (k:=k) s42 hx35) ?_
 rintro _ w45 ⟨rfl,Z⟩
 have Z:=k44 Z c0
 refine L_bld rfl (parts1 rfl) (bld_74_1 (I x35) rfl) (L_al (cs:=#[S0,I 0]) rfl Tryz.zeroValue74 rfl Z (fun g46 w47 Z=>L_staB (vs:=#[S0,I x35]) (cs2:=#[S0,I x35]) 0 rfl Tryz.sizeOf74 rfl rfl rfl (ones_cons rfl (ones_cons rfl ones_nil)) Z rfl (by show 0 + 2≤2; decide) rfl (fun w48 Z=>nq (sq (aI rfl (nn ?_))))))
 have hlen54 : List.length c.terms≤9223372036854775807:=len_le (slice_len h0_0)
 obtain ⟨j54,hL54,hF⟩:=bind_some hF
 obtain ⟨R54,hR54⟩:=exR fun f w_=>∃ g46_0_50 : List Term,∃ H52 : FH,∃ v50_g46_0 : Value,j54 = .nx g46_0_50∧Le H H52∧f 4 = Pt g7∧f 6 = Pt g46∧Star H52 w_ ([oF 126 rTerm v50_g46_0 g46_0_50,box g46 74 #[v50_g46_0,I x35],box g7 74 #[S0,I 0]])
 refine W_join R54 ?_ ?_
 refine W_block ?_
 obtain ⟨I54,hI54⟩:=exI fun n f w_=>∃ i_49 : Nat,∃ suf54 : List Term,∃ g46_0_50 : List Term,∃ H52 : FH,∃ v50_g46_0 : Value,n = suf54.length∧List.drop i_49 c.terms = suf54∧i_49 + suf54.length = c.terms.length∧rangeL (s_DivideConstraint_b1 k) suf54 i_49 g46_0_50 = some j54∧Le H H52∧f 1 = I k∧f 2 = Pt g5∧f 4 = Pt g7∧f 6 = Pt g46∧f 7 = I i_49∧Star H52 w_ ([oF 126 rTerm v50_g46_0 g46_0_50,box g46 74 #[v50_g46_0,I x35],box g7 74 #[S0,I 0],box g5 74 #[v0_0,I c.bound]])
 have Z:=Star.addNil (R:=(OR.frz rTerm)) (e:=126) Z
 refine W_loop I54 (n:=c.terms.length) ?_ ?_
 exact ij hI54 ⟨0,c.terms,[],H,S0,rfl,rfl,Nat.zero_add _,hL54,(Le.refl _),sf1,sf2,sf4,rfl,rfl,Z⟩
 intro n54 f w_ hI
 obtain ⟨i_49,suf54,g46_0_50,H52,v50_g46_0,rfl,hd54,hl54,hL54,l53,sf1,sf2,sf4,sf6,sf7,Z⟩:=ik hI54 hI
 refine W_seq (sq (mF sf7 rfl (fA 0 fa_74_0 sf2 rfl (ldB 3 Z Tryz.isAgg72 rfl rfl rfl (L_len rfl Tryz.underlying72 rfl (slice_len (RP.mono _ h0_0 l53)) (L_lss rfl rfl rfl (nn (W_cond (b:=decide ((i_49 : Int) < (c.terms.length : Int))) rfl (fun hc56=>?_) (fun hc56=>?_)))))))))
 have hlt54:=of_decide_eq_true hc56
 rcases suf54 with _ | ⟨x_54,rest54⟩
 exact absurd hlt54 (by simp at hl54; omega)
 obtain ⟨o54,hB54,hL54⟩:=range_cons hL54
 rw [s_DivideConstraint_b1] at hB54
 have hix54:=drop_idx hd54
 refine W_skip (W_seq (W_block ?_))
 obtain ⟨x66,hx66,hB54⟩:=bind_some hB54
 obtain ⟨x75,hx75,hB54⟩:=bind_some hB54
 refine W_drawS 18 [isV (Pt g46),isV (v50_g46_0),isV (Pt g5),isV (v0_0),isV (I i_49),isEl rTerm x_54 0,isEl rTerm x_54 0,isV (I x_54.coef),isV (I k),isV (I x66),isV (Pt g5),isV (v0_0),isV (I i_49),isEl rTerm x_54 0,isEl rTerm x_54 1,isV (I x_54.lit),isV (.agg #[I x66,I x_54.lit]),anyF] [oF 126 rTerm v50_g46_0 g46_0_50,box g46 74 #[v50_g46_0,I x35],box g7 74 #[S0,I 0],box g5 74 #[v0_0,I c.bound]] [.made 17 49 (fun v_=>oF 126 rTerm v_ ([({ coef:=x66,lit:=x_54.lit } : Term)])) none] ([]) [([],[]),([],[]),([],[]),([],[]),([],[]),([],[]),([],[]),([],[]),([],[]),([],[]),([],[]),([],[]),([],[]),([],[]),([],[]),([],[]),([],[]),([],[0])] (S:=[(some 17,[49],none)]) Tryz_mix (by kernel_rfl) rfl (by kernel_rfl) (amF_cons (mono_V _) (amF_cons (mono_V _) (amF_cons (mono_V _) (amF_cons (mono_V _) (amF_cons (mono_V _) (amF_cons (mono_el _ _ _) (amF_cons (mono_el _ _ _) (amF_cons (mono_V _) (amF_cons (mono_V _) (amF_cons (mono_V _) (amF_cons (mono_V _) (amF_cons (mono_V _) (amF_cons (mono_V _) (amF_cons (mono_el _ _ _) (amF_cons (mono_el _ _ _) (amF_cons (mono_V _) (amF_cons (mono_V _) (amF_cons (mono_any) amF_nil)))))))))))))))))) Z ?_ (fun f w_ H80 hS80 hE80 hT80 Z=>?_)
 refine opsS_cons (fun f w_ _ _ s _ _ Z=>fA 0 fa_74_0 ((s 6 rfl).trans sf6) rfl (nO rfl rfl Z)) (opsS_cons (fun f w_ _ _ _ _ p Z=>ldB 1 Z Tryz.isAgg72 (p 0 32 rfl rfl) rfl rfl (nO rfl rfl Z)) (opsS_cons (fun f w_ _ _ s _ _ Z=>fA 0 fa_74_0 ((s 2 rfl).trans sf2) rfl (nO rfl rfl Z)) (opsS_cons (fun f w_ _ _ _ _ p Z=>ldB 3 Z Tryz.isAgg72 (p 2 34 rfl rfl) rfl rfl (nO rfl rfl Z)) (opsS_cons (fun f w_ _ _ s _ _ Z=>mF ((s 7 rfl).trans sf7) rfl (nO rfl rfl Z)) (opsS_cons ?_ ?_)))))
 intro f w_ H80 X80 hS80 hE80 hP80 Z
 refine L_ix (r:=rTerm) rfl Tryz.underlying72 Tryz.sizeOf126 (hP80 3 35 rfl rfl) (RP.mono _ h0_0 (Le.trans l53 hE80)) (hP80 4 36 rfl rfl) hix54 (fun g98 o99 cs_g98 hrk_hat100 hat100=>?_)
 obtain rfl:=rTerm_iff.1 hrk_hat100
 exact L_nil ⟨rfl,_,_,rfl,Le.refl _,fun _ _=>⟨_,_,_,rfl,hrk_hat100,hat100⟩,Z⟩
 refine opsS_cons ?_ ?_
 intro f w_ H80 X80 hS80 hE80 hP80 Z
 obtain ⟨g102,o102,cs102,hv102,hrk_hat102,hat102⟩:=(hP80 5 37 rfl rfl)
 obtain rfl:=rTerm_iff.1 hrk_hat102
 refine fA o102 fa_126_0 hv102 rfl (L_nil ⟨rfl,_,_,rfl,Le.refl _,fun _ _=>⟨_,_,_,rfl,hrk_hat102,hat102⟩,Z⟩)
 refine opsS_cons ?_ ?_
 intro f w_ H80 X80 hS80 hE80 hP80 Z
 obtain ⟨g104,o104,cs104,hv104,hrk_hat104,hat104⟩:=(hP80 6 38 rfl rfl)
 obtain rfl:=rTerm_iff.1 hrk_hat104
 refine L_ld rfl Tryz.isAgg3 hv104 (At.cell (AtH.at hat104 Z.sub) (j:=0) rfl) (L_nil ⟨rfl,_,_,rfl,Le.refl _,fun _ _=>rfl,Z⟩)
 refine opsS_cons (fun f w_ _ _ s _ _ Z=>mF ((s 1 rfl).trans sf1) rfl (nO rfl rfl Z)) (opsS_cons ?_ ?_)
 intro f w_ H80 X80 hS80 hE80 hP80 Z
 obtain ⟨H106b,l107,s108,z109,k110⟩:=Z.borrow
 refine L_call rfl Tryz.call206 (ops2 (hP80 7 39 rfl rfl) (hP80 8 40 rfl rfl)) (s_l2Up_c (n_:=x_54.coef) (k:=k) s108 hx66) ?_
 rintro _ w111 ⟨rfl,Z⟩
 have Z:=k110 Z c0
 exact L_nil ⟨rfl,_,_,rfl,Le.refl _,fun _ _=>rfl,Z⟩
 refine opsS_cons (fun f w_ _ _ s _ _ Z=>fA 0 fa_74_0 ((s 2 rfl).trans sf2) rfl (nO rfl rfl Z)) (opsS_cons (fun f w_ _ _ _ _ p Z=>ldB 3 Z Tryz.isAgg72 (p 10 42 rfl rfl) rfl rfl (nO rfl rfl Z)) (opsS_cons (fun f w_ _ _ s _ _ Z=>mF ((s 7 rfl).trans sf7) rfl (nO rfl rfl Z)) (opsS_cons ?_ ?_)))
 intro f w_ H80 X80 hS80 hE80 hP80 Z
 refine L_ix (r:=rTerm) rfl Tryz.underlying72 Tryz.sizeOf126 (hP80 11 43 rfl rfl) (RP.mono _ h0_0 (Le.trans l53 hE80)) (hP80 12 44 rfl rfl) hix54 (fun g112 o113 cs_g112 hrk_hat114 hat114=>?_)
 obtain rfl:=rTerm_iff.1 hrk_hat114
 exact L_nil ⟨rfl,_,_,rfl,Le.refl _,fun _ _=>⟨_,_,_,rfl,hrk_hat114,hat114⟩,Z⟩
 refine opsS_cons ?_ ?_
 intro f w_ H80 X80 hS80 hE80 hP80 Z
 obtain ⟨g116,o116,cs116,hv116,hrk_hat116,hat116⟩:=(hP80 13 45 rfl rfl)
 obtain rfl:=rTerm_iff.1 hrk_hat116
 refine fA (o116 + 1) fa_126_1 hv116 rfl (L_nil ⟨rfl,_,_,rfl,Le.refl _,fun _ _=>⟨_,_,_,rfl,hrk_hat116,hat116⟩,Z⟩)
 refine opsS_cons ?_ ?_
 intro f w_ H80 X80 hS80 hE80 hP80 Z
 obtain ⟨g118,o118,cs118,hv118,hrk_hat118,hat118⟩:=(hP80 14 46 rfl rfl)
 obtain rfl:=rTerm_iff.1 hrk_hat118
 refine L_ld rfl Tryz.isAgg3 hv118 (At.cell (AtH.at hat118 Z.sub) (j:=1) rfl) (L_nil ⟨rfl,_,_,rfl,Le.refl _,fun _ _=>rfl,Z⟩)
 refine opsS_cons (fun f w_ _ _ _ _ p Z=>L_bld rfl (parts2 (p 9 41 rfl rfl) (p 15 47 rfl rfl)) (bld_126_0_1 (I x66) (I x_54.lit) rfl rfl) (nO rfl rfl Z)) (opsS_cons ?_ ?_)
 intro f w_ H80 X80 hS80 hE80 hP80 Z
 refine L_bs rfl (parts1 (hP80 16 48 rfl rfl)) (bs_72_1_2 (I x66) (I x_54.lit) ) Z (fun g120 w121 Z=>?_)
 have Z:=Star.addF (r:=rTerm) (cs:=[I x66,I x_54.lit]) (x:=({ coef:=x66,lit:=x_54.lit } : Term)) Z (rTerm_iff.2 rfl)
 have Z:=Star.mkRow (R:=(OR.frz rTerm)) [([I x66,I x_54.lit],({ coef:=x66,lit:=x_54.lit } : Term))] [({ coef:=x66,lit:=x_54.lit } : Term)] 1 Z rfl rfl rfl (by decide)
 have Z:=Z.gets [4,4,4,4] rfl
 exact L_nil ⟨rfl,_,_,rfl,Le.refl _,fun _ _=>trivial,Z⟩
 exact opsS_nil
 have Z : Star H80 w_ ([oF 126 rTerm v50_g46_0 g46_0_50,box g46 74 #[v50_g46_0,I x35],box g7 74 #[S0,I 0],box g5 74 #[v0_0,I c.bound],oF 126 rTerm (f 49) ([({ coef:=x66,lit:=x_54.lit } : Term)])]):=Z
 have Z:=Z.gets [4,1] rfl
 refine L_appM (v:=v50_g46_0) (u:=(f 49)) rfl et_72 (hT80 1 33 rfl rfl) rfl Z hx75 (fun v124 w125 Z=>fA 0 fa_74_0 ((hS80 6 rfl).trans sf6) rfl (L_stB (v:=v124) (cs2:=#[v124,I x35]) 1 rfl Tryz.sizeOf72 rfl rfl (one_len (Star.len 0 Z rfl)) Z rfl rfl rfl (fun w127 Z=>nn (W_region (mF ((hS80 7 rfl).trans sf7) rfl (L_add rfl rfl rfl (aI rfl (nn ?_))))))))
 obtain rfl:=so hB54
 have Z:=Z.gets [3,3,2,3] rfl
 show ∃ m,m < _∧I54 m _ _
 refine ⟨rest54.length,by simp,?_⟩
 exact ij hI54 ⟨i_49 + 1,rest54,x75,H80,v124,rfl,drop_next hd54,by simp at hl54; omega,hL54,(Le.trans l53 hE80),((hS80 1 rfl).trans sf1),((hS80 2 rfl).trans sf2),((hS80 4 rfl).trans sf4),((hS80 6 rfl).trans sf6),(Eq.trans rfl (congrArg (Value.int .i64) (i64_succ (n:=c.terms.length) (by simp at hl54; omega) hlen54))),Z⟩
 rcases suf54 with _ | ⟨_,_⟩
 obtain rfl:=range_nil hL54
 refine W_exit (rj hR54 ⟨g46_0_50,H52,v50_g46_0,rfl,l53,sf4,sf6,(Star.keepN 3 Z)⟩)
 exact absurd (of_decide_eq_false hc56) (by simp at hl54; omega)
 intro f w_ hR
 obtain ⟨g46_0_50,H52,v50_g46_0,rfl,l53,sf4,sf6,Z⟩:=rk hR54 hR
 refine sq (L_lda (cs:=[v50_g46_0,I x35]) rfl Tryz.isAgg74 Tryz.sizeOf74 sf6 (At.sub0 (Blk.at (Star.blkAt 1 Z rfl)) 0 2) rfl (L_staB (vs:=#[v50_g46_0,I x35]) (cs2:=#[v50_g46_0,I x35]) 2 rfl Tryz.sizeOf74 sf4 rfl rfl (ones_cons (one_len (Star.len 0 Z rfl)) (ones_cons rfl ones_nil)) Z rfl (by show 0 + 2≤2; decide) rfl (fun w129 Z=>aB rfl (nn (W_ret (retG2 (v1:=.agg #[v50_g46_0,I x35]) (v2:=Bo true) Tryz.results192 (resV_agg Tryz.isAgg74 Tryz.sizeOf74 sf4 (Star.blkAt 0 Z rfl) rfl) rfl ?_))))))
 obtain rfl:=so hF
 have Z:=Z.get 1 rfl
 exact ⟨v50_g46_0,rfl,(Star.down (Star.keepN 1 Z) l53 (co closed_term c0))⟩
theorem s_l2Saturate_c {fu : Nat} {c : Con} {v0_0 : Value} {H : FH} {w : World} (Z : Star H w []) (h0_0 : (rS 126 rTerm).rel H [v0_0] c.terms) {r : Con} (hF : s_l2Saturate fu c = some r) :
 C Tryz.prog 207 #[.agg #[v0_0,I c.bound]] w fun v w'=>∃ (u1 : Value),v = .agg #[u1,I r.bound]∧Star H w' [oF 126 rTerm u1 r.terms]:=by
 unfold s_l2Saturate at hF
 refine C_enter Tryz.func207 rfl Tryz.ntmps207 rfl (sq (L_box (v:=.agg #[v0_0,I c.bound]) (cs:=#[v0_0,I c.bound]) rfl rfl rfl Z (fun g5 w6 Z=>L_al (cs:=#[S0,I 0]) rfl Tryz.zeroValue74 rfl Z (fun g7 w8 Z=>ns (fA 1 fa_74_1 rfl rfl (ldB 1 Z Tryz.isAgg3 rfl rfl rfl (L_bld rfl (parts1 rfl) (bld_74_1 (I c.bound) rfl) (L_al (cs:=#[S0,I 0]) rfl Tryz.zeroValue74 rfl Z (fun g12 w13 Z=>L_staB (vs:=#[S0,I c.bound]) (cs2:=#[S0,I c.bound]) 0 rfl Tryz.sizeOf74 rfl rfl rfl (ones_cons rfl (ones_cons rfl ones_nil)) Z rfl (by show 0 + 2≤2; decide) rfl (fun w14 Z=>nq (sq (aI rfl (nn ?_)))))))))))))
 obtain ⟨j20,hL20,hF⟩:=bind_some hF
 obtain ⟨R20,hR20⟩:=exR fun f w_=>∃ i_17 : Int,∃ g12_0_18 : List Term,∃ v18_g12_0 : Value,j20 = .nx (i_17,g12_0_18)∧f 2 = Pt g7∧f 3 = Pt g12∧Star H w_ ([oF 126 rTerm v18_g12_0 g12_0_18,box g12 74 #[v18_g12_0,I c.bound],box g7 74 #[S0,I 0]])
 refine W_join R20 ?_ ?_
 refine W_block ?_
 obtain ⟨I20,hI20⟩:=exI fun n f w_=>∃ i_17 : Int,∃ g12_0_18 : List Term,∃ v18_g12_0 : Value,whileL (s_l2Saturate_b1 c) n (i_17,g12_0_18) = some j20∧f 1 = Pt g5∧f 2 = Pt g7∧f 3 = Pt g12∧f 4 = I i_17∧Star H w_ ([oF 126 rTerm v18_g12_0 g12_0_18,box g12 74 #[v18_g12_0,I c.bound],box g7 74 #[S0,I 0],box g5 74 #[v0_0,I c.bound]])
 have Z:=Star.addNil (R:=(OR.frz rTerm)) (e:=126) Z
 refine W_loop I20 (n:=fu) ?_ ?_
 exact ij hI20 ⟨0,[],S0,hL20,rfl,rfl,rfl,rfl,Z⟩
 intro n20 f w_ hI
 obtain ⟨i_17,g12_0_18,v18_g12_0,hL20,sf1,sf2,sf3,sf4,Z⟩:=ik hI20 hI
 rcases n20 with _ | n20
 exact (while_zero hL20).elim
 obtain ⟨o20,hB20,hL20⟩:=while_succ hL20
 rw [s_l2Saturate_b1] at hB20
 refine W_seq (W_seq ?_)
 obtain ⟨R22,hR22⟩:=exR fun f w_=>f 1 = Pt g5∧f 2 = Pt g7∧f 3 = Pt g12∧f 4 = I i_17∧f 18 = Bo ((decide (i_17 < (c.terms.length : Int))) && (decide (c.bound > 0)))∧Star H w_ ([oF 126 rTerm v18_g12_0 g12_0_18,box g12 74 #[v18_g12_0,I c.bound],box g7 74 #[S0,I 0],box g5 74 #[v0_0,I c.bound]])
 refine W_join R22 ?_ ?_
 refine W_region (mF sf4 rfl (fA 0 fa_74_0 sf1 rfl (ldB 3 Z Tryz.isAgg72 rfl rfl rfl (L_len rfl Tryz.underlying72 rfl (slice_len h0_0) (L_lss rfl rfl rfl (mB rfl (L_split (d:=14) (b:=decide (i_17 < (c.terms.length : Int))) rfl (fun hc23=>?_) (fun hc23=>?_))))))))
 refine fA 1 fa_74_1 sf1 rfl (ldB 3 Z Tryz.isAgg3 rfl rfl rfl (L_gtr rfl rfl rfl (L_pick (v:=Bo ((decide (i_17 < (c.terms.length : Int))) && (decide (c.bound > 0)))) rfl rfl (and_t hc23 rfl) (nn (rj hR22 ⟨sf1,sf2,sf3,sf4,rfl,Z⟩)))))
 refine ps rfl (ps rfl (ps rfl (L_pick (v:=Bo ((decide (i_17 < (c.terms.length : Int))) && (decide (c.bound > 0)))) rfl rfl (and_f hc23) (nn (rj hR22 ⟨sf1,sf2,sf3,sf4,rfl,Z⟩)))))
 intro f w_ hR
 obtain ⟨sf1,sf2,sf3,sf4,sf18,Z⟩:=rk hR22 hR
 refine W_cond (b:=((decide (i_17 < (c.terms.length : Int))) && (decide (c.bound > 0)))) sf18 (fun hc24=>?_) (fun hc24=>?_)
 have hB20:=(ite_t hc24).symm.trans hB20
 refine W_skip (W_seq (W_block (W_seq ?_)))
 obtain ⟨x25,hx25,hB20⟩:=bind_some hB20
 refine W_region (fA 0 fa_74_0 sf1 rfl (ldB 3 Z Tryz.isAgg72 rfl rfl rfl (mF sf4 rfl (L_ix (r:=rTerm) rfl Tryz.underlying72 Tryz.sizeOf126 rfl h0_0 rfl hx25 (fun g33 o34 cs_g33 hrk_hat35 hat35=>?_)))))
 obtain rfl:=rTerm_iff.1 hrk_hat35
 refine L_lda (cs:=[I x25.coef,I x25.lit]) rfl Tryz.isAgg126 Tryz.sizeOf126 rfl (At.sub (AtH.at hat35 Z.sub) 0 2) rfl (L_al (cs:=#[I 0,I 0]) rfl Tryz.zeroValue126 rfl Z (fun g37 w38 Z=>L_staB (vs:=#[I x25.coef,I x25.lit]) (cs2:=#[I x25.coef,I x25.lit]) 0 rfl Tryz.sizeOf126 rfl rfl rfl (ones_cons rfl (ones_cons rfl ones_nil)) Z rfl (by show 0 + 2≤2; decide) rfl (fun w39 Z=>nq (sq (fA 0 fa_126_0 rfl rfl (ldB 0 Z Tryz.isAgg3 rfl rfl rfl (fA 1 fa_74_1 sf1 rfl (ldB 4 Z Tryz.isAgg3 rfl rfl rfl (L_gtr rfl rfl rfl (nn ?_))))))))))
 obtain ⟨g37_0_40,hA41,hB20⟩:=bind_some hB20
 obtain ⟨R41,hR41⟩:=exR fun f w_=>f 1 = Pt g5∧f 2 = Pt g7∧f 3 = Pt g12∧f 4 = I i_17∧f 5 = Pt g37∧Star H w_ ([box g37 126 #[I g37_0_40,I x25.lit],oF 126 rTerm v18_g12_0 g12_0_18,box g12 74 #[v18_g12_0,I c.bound],box g7 74 #[S0,I 0],box g5 74 #[v0_0,I c.bound]])
 refine W_join R41 ?_ ?_
 refine W_cond (b:=decide (x25.coef > c.bound)) rfl (fun hc42=>?_) (fun hc42=>?_)
 have hA41:=(ite_t hc42).symm.trans hA41
 refine W_region (fA 1 fa_74_1 sf1 rfl (ldB 4 Z Tryz.isAgg3 rfl rfl rfl (fA 0 fa_126_0 rfl rfl (L_stB (v:=I c.bound) (cs2:=#[I c.bound,I x25.lit]) 0 rfl Tryz.sizeOf3 rfl rfl rfl Z rfl rfl rfl (fun w44 Z=>nn ?_)))))
 obtain rfl:=so hA41
 exact rj hR41 ⟨sf1,sf2,sf3,sf4,rfl,Z⟩
 have hA41:=(ite_f hc42).symm.trans hA41
 refine W_skip ?_
 obtain rfl:=so hA41
 exact rj hR41 ⟨sf1,sf2,sf3,sf4,rfl,Z⟩
 intro f w_ hR
 obtain ⟨sf1,sf2,sf3,sf4,sf5,Z⟩:=rk hR41 hR
 obtain ⟨x48,hx48,hB20⟩:=bind_some hB20
 refine W_region (fA 0 fa_74_0 sf3 rfl (ldB 2 Z Tryz.isAgg72 rfl rfl rfl (L_lda (cs:=[I g37_0_40,I x25.lit]) rfl Tryz.isAgg126 Tryz.sizeOf126 sf5 (At.sub0 (Blk.at (Star.blkAt 0 Z rfl)) 0 2) rfl (L_bs rfl (parts1 rfl) (bs_72_1_2 (I g37_0_40) (I x25.lit) ) Z (fun g53 w54 Z=>?_)))))
 have Z:=Star.addF (r:=rTerm) (cs:=[I g37_0_40,I x25.lit]) (x:=({ coef:=g37_0_40,lit:=x25.lit } : Term)) Z (rTerm_iff.2 rfl)
 have Z:=Star.mkRow (R:=(OR.frz rTerm)) [([I g37_0_40,I x25.lit],({ coef:=g37_0_40,lit:=x25.lit } : Term))] [({ coef:=g37_0_40,lit:=x25.lit } : Term)] 1 Z rfl rfl rfl (by decide)
 have Z:=Z.get 2 rfl
 refine L_appM (v:=v18_g12_0) (u:=(Sl g53 1 1)) rfl et_72 rfl rfl Z hx48 (fun v56 w57 Z=>fA 0 fa_74_0 sf3 rfl (L_stB (v:=v56) (cs2:=#[v56,I c.bound]) 2 rfl Tryz.sizeOf72 rfl rfl (one_len (Star.len 0 Z rfl)) Z rfl rfl rfl (fun w59 Z=>nn (W_region (mF sf4 rfl (L_add rfl rfl rfl (aI rfl (nn ?_))))))))
 obtain rfl:=so hB20
 have Z:=Z.gets [4,4,2,3] rfl
 show ∃ m,m < _∧I20 m _ _
 refine ⟨n20,Nat.lt_succ_self _,?_⟩
 exact ij hI20 ⟨i64 (i_17 + 1),x48,v56,hL20,sf1,sf2,sf3,rfl,(Star.keepN 4 Z)⟩
 have hB20:=(ite_f hc24).symm.trans hB20
 refine W_exit ?_
 obtain rfl:=so hB20
 obtain rfl:=so hL20
 exact rj hR20 ⟨i_17,g12_0_18,v18_g12_0,rfl,sf2,sf3,(Star.keepN 3 Z)⟩
 intro f w_ hR
 obtain ⟨i_17,g12_0_18,v18_g12_0,rfl,sf2,sf3,Z⟩:=rk hR20 hR
 refine sq (L_lda (cs:=[v18_g12_0,I c.bound]) rfl Tryz.isAgg74 Tryz.sizeOf74 sf3 (At.sub0 (Blk.at (Star.blkAt 1 Z rfl)) 0 2) rfl (L_staB (vs:=#[v18_g12_0,I c.bound]) (cs2:=#[v18_g12_0,I c.bound]) 2 rfl Tryz.sizeOf74 sf2 rfl rfl (ones_cons (one_len (Star.len 0 Z rfl)) (ones_cons rfl ones_nil)) Z rfl (by show 0 + 2≤2; decide) rfl (fun w61 Z=>nn (W_ret (retG1 (v1:=.agg #[v18_g12_0,I c.bound]) Tryz.results207 (resV_agg Tryz.isAgg74 Tryz.sizeOf74 sf2 (Star.blkAt 0 Z rfl) rfl) ?_)))))
 obtain rfl:=so hF
 have Z:=Z.get 1 rfl
 exact ⟨v18_g12_0,rfl,(Star.keepN 1 Z)⟩
theorem s_SaturateConstraint_c {fu : Nat} {c : Con} {v0_0 : Value} {H : FH} {w : World} (Z : Star H w []) (h0_0 : (rS 126 rTerm).rel H [v0_0] c.terms) {r : Con × Bool} (hF : s_SaturateConstraint fu c = some r) :
 C Tryz.prog 193 #[.agg #[v0_0,I c.bound]] w fun v w'=>∃ (u1 : Value),v = .tuple #[.agg #[u1,I r.1.bound],Bo r.2]∧Star H w' [oF 126 rTerm u1 r.1.terms]:=by
 unfold s_SaturateConstraint at hF
 refine C_enter Tryz.func193 rfl Tryz.ntmps193 rfl (sq (L_box (v:=.agg #[v0_0,I c.bound]) (cs:=#[v0_0,I c.bound]) rfl rfl rfl Z (fun g5 w6 Z=>L_al (cs:=#[S0,I 0]) rfl Tryz.zeroValue74 rfl Z (fun g7 w8 Z=>aB rfl (nq (W_seq ?_))))))
 obtain ⟨x14,hx14,hF⟩:=bind_some hF
 refine W_region (L_lda (cs:=[v0_0,I c.bound]) rfl Tryz.isAgg74 Tryz.sizeOf74 rfl (At.sub0 (Blk.at (Star.blkAt 1 Z rfl)) 0 2) rfl ?_)
 obtain ⟨H16b,l17,s18,z19,k20⟩:=Z.borrow
 refine L_call rfl Tryz.call123 (ops1 rfl) (s_ConstraintValid_c (c:=c) s18 (RP.mono _ h0_0 l17) hx14) ?_
 rintro _ w21 ⟨rfl,Z⟩
 have Z:=k20 Z c0
 refine L_not_ rfl rfl (nn (W_cond (b:=(!x14)) rfl (fun hc22=>?_) (fun hc22=>?_)))
 have hF:=(ite_t hc22).symm.trans hF
 refine sq (L_bld rfl (parts0 ) (bld_74_  ) (L_staB (vs:=#[S0,I 0]) (cs2:=#[S0,I 0]) 0 rfl Tryz.sizeOf74 rfl rfl rfl (ones_cons rfl (ones_cons rfl ones_nil)) Z rfl (by show 0 + 2≤2; decide) rfl (fun w24 Z=>aB rfl (nn (W_ret (retG2 (v1:=.agg #[S0,I 0]) (v2:=Bo false) Tryz.results193 (resV_agg Tryz.isAgg74 Tryz.sizeOf74 rfl (Star.blkAt 0 Z rfl) rfl) rfl ?_))))))
 obtain rfl:=so hF
 have Z:=Star.addNil (R:=(OR.frz rTerm)) (e:=126) Z
 exact ⟨S0,rfl,(Star.keepN 1 Z)⟩
 have hF:=(ite_f hc22).symm.trans hF
 refine W_skip (W_seq ?_)
 obtain ⟨x31,hx31,hF⟩:=bind_some hF
 refine W_region (L_lda (cs:=[v0_0,I c.bound]) rfl Tryz.isAgg74 Tryz.sizeOf74 rfl (At.sub0 (Blk.at (Star.blkAt 1 Z rfl)) 0 2) rfl ?_)
 obtain ⟨H35b,l36,s37,z38,k39⟩:=Z.borrow
 refine L_call rfl Tryz.call207 (ops1 rfl) (s_l2Saturate_c (c:=c) s37 (RP.mono _ h0_0 l36) hx31) ?_
 rintro _ w40 ⟨r40_0,rfl,Z⟩
 have Z:=k39 Z (co closed_term c0)
 refine L_staB (vs:=#[r40_0,I x31.bound]) (cs2:=#[r40_0,I x31.bound]) 1 rfl Tryz.sizeOf74 rfl rfl rfl (ones_cons (one_len (Star.len 0 Z rfl)) (ones_cons rfl ones_nil)) Z rfl (by show 0 + 2≤2; decide) rfl (fun w42 Z=>aB rfl (nn (W_ret (retG2 (v1:=.agg #[r40_0,I x31.bound]) (v2:=Bo true) Tryz.results193 (resV_agg Tryz.isAgg74 Tryz.sizeOf74 rfl (Star.blkAt 0 Z rfl) rfl) rfl ?_))))
 obtain rfl:=so hF
 have Z:=Z.get 1 rfl
 exact ⟨r40_0,rfl,(Star.keepN 1 Z)⟩
theorem s_WeakenConstraint_c {c : Con} {variable_ : Int} {v0_0 : Value} {H : FH} {w : World} (Z : Star H w []) (h0_0 : (rS 126 rTerm).rel H [v0_0] c.terms) {r : Con × Bool} (hF : s_WeakenConstraint c variable_ = some r) :
 C Tryz.prog 194 #[.agg #[v0_0,I c.bound],I variable_] w fun v w'=>∃ (u1 : Value),v = .tuple #[.agg #[u1,I r.1.bound],Bo r.2]∧Star H w' [oF 126 rTerm u1 r.1.terms]:=by
 unfold s_WeakenConstraint at hF
 refine C_enter Tryz.func194 rfl Tryz.ntmps194 rfl (sq (L_box (v:=.agg #[v0_0,I c.bound]) (cs:=#[v0_0,I c.bound]) rfl rfl rfl Z (fun g5 w6 Z=>L_al (cs:=#[S0,I 0]) rfl Tryz.zeroValue74 rfl Z (fun g7 w8 Z=>aB rfl (nq (W_seq ?_))))))
 obtain ⟨x14,hx14,hF⟩:=bind_some hF
 obtain ⟨R16,hR16⟩:=exR fun f w_=>f 1 = I variable_∧f 2 = Pt g5∧f 4 = Pt g7∧f 18 = Bo (((!x14) || (decide (variable_ < 1))) || (decide (variable_ > 12)))∧Star H w_ ([box g7 74 #[S0,I 0],box g5 74 #[v0_0,I c.bound]])
 refine W_join R16 ?_ ?_
 refine W_region (L_lda (cs:=[v0_0,I c.bound]) rfl Tryz.isAgg74 Tryz.sizeOf74 rfl (At.sub0 (Blk.at (Star.blkAt 1 Z rfl)) 0 2) rfl ?_)
 obtain ⟨H17b,l18,s19,z20,k21⟩:=Z.borrow
 refine L_call rfl Tryz.call123 (ops1 rfl) (s_ConstraintValid_c (c:=c) s19 (RP.mono _ h0_0 l18) hx14) ?_
 rintro _ w22 ⟨rfl,Z⟩
 have Z:=k21 Z c0
 refine L_not_ rfl rfl (mB rfl (L_split (d:=11) (b:=(!x14)) rfl (fun hc23=>?_) (fun hc23=>?_)))
 refine ps rfl (ps rfl (L_pick (v:=Bo ((!x14) || (decide (variable_ < 1)))) rfl rfl (or_t hc23) (mB rfl (L_split (d:=15) (b:=((!x14) || (decide (variable_ < 1)))) rfl (fun hc24=>?_) (fun hc24=>?_)))))
 refine ps rfl (ps rfl (L_pick (v:=Bo (((!x14) || (decide (variable_ < 1))) || (decide (variable_ > 12)))) rfl rfl (or_t hc24) (nn (rj hR16 ⟨rfl,rfl,rfl,rfl,Z⟩))))
 exact boolNo (orT hc23) hc24
 refine mI rfl (L_lss rfl rfl rfl (L_pick (v:=Bo ((!x14) || (decide (variable_ < 1)))) rfl rfl (or_f hc23 rfl) (mB rfl (L_split (d:=15) (b:=((!x14) || (decide (variable_ < 1)))) rfl (fun hc25=>?_) (fun hc25=>?_)))))
 refine ps rfl (ps rfl (L_pick (v:=Bo (((!x14) || (decide (variable_ < 1))) || (decide (variable_ > 12)))) rfl rfl (or_t hc25) (nn (rj hR16 ⟨rfl,rfl,rfl,rfl,Z⟩))))
 refine mI rfl (L_gtr rfl rfl rfl (L_pick (v:=Bo (((!x14) || (decide (variable_ < 1))) || (decide (variable_ > 12)))) rfl rfl (or_f hc25 rfl) (nn (rj hR16 ⟨rfl,rfl,rfl,rfl,Z⟩))))
 intro f w_ hR
 obtain ⟨sf1,sf2,sf4,sf18,Z⟩:=rk hR16 hR
 refine W_cond (b:=(((!x14) || (decide (variable_ < 1))) || (decide (variable_ > 12)))) sf18 (fun hc26=>?_) (fun hc26=>?_)
 have hF:=(ite_t hc26).symm.trans hF
 refine sq (L_bld rfl (parts0 ) (bld_74_  ) (L_staB (vs:=#[S0,I 0]) (cs2:=#[S0,I 0]) 0 rfl Tryz.sizeOf74 sf4 rfl rfl (ones_cons rfl (ones_cons rfl ones_nil)) Z rfl (by show 0 + 2≤2; decide) rfl (fun w28 Z=>aB rfl (nn (W_ret (retG2 (v1:=.agg #[S0,I 0]) (v2:=Bo false) Tryz.results194 (resV_agg Tryz.isAgg74 Tryz.sizeOf74 sf4 (Star.blkAt 0 Z rfl) rfl) rfl ?_))))))
 obtain rfl:=so hF
 have Z:=Star.addNil (R:=(OR.frz rTerm)) (e:=126) Z
 exact ⟨S0,rfl,(Star.keepN 1 Z)⟩
 have hF:=(ite_f hc26).symm.trans hF
 refine W_skip (sq (fA 1 fa_74_1 sf2 rfl (ldB 1 Z Tryz.isAgg3 rfl rfl rfl (L_bld rfl (parts1 rfl) (bld_74_1 (I c.bound) rfl) (L_al (cs:=#[S0,I 0]) rfl Tryz.zeroValue74 rfl Z (fun g33 w34 Z=>L_staB (vs:=#[S0,I c.bound]) (cs2:=#[S0,I c.bound]) 0 rfl Tryz.sizeOf74 rfl rfl rfl (ones_cons rfl (ones_cons rfl ones_nil)) Z rfl (by show 0 + 2≤2; decide) rfl (fun w35 Z=>nq (sq (aI rfl (nn ?_))))))))))
 have hlen42 : List.length c.terms≤9223372036854775807:=len_le (slice_len h0_0)
 obtain ⟨j42,hL42,hF⟩:=bind_some hF
 obtain ⟨R42,hR42⟩:=exR fun f w_=>∃ g33_0_37 : List Term,∃ g33_1_39 : Int,∃ H40 : FH,∃ v37_g33_0 : Value,j42 = .nx (g33_0_37,g33_1_39)∧Le H H40∧f 4 = Pt g7∧f 6 = Pt g33∧Star H40 w_ ([oF 126 rTerm v37_g33_0 g33_0_37,box g33 74 #[v37_g33_0,I g33_1_39],box g7 74 #[S0,I 0]])
 refine W_join R42 ?_ ?_
 refine W_block ?_
 obtain ⟨I42,hI42⟩:=exI fun n f w_=>∃ i_36 : Nat,∃ suf42 : List Term,∃ g33_0_37 : List Term,∃ g33_1_39 : Int,∃ H40 : FH,∃ v37_g33_0 : Value,n = suf42.length∧List.drop i_36 c.terms = suf42∧i_36 + suf42.length = c.terms.length∧rangeL (s_WeakenConstraint_b1 variable_) suf42 i_36 (g33_0_37,g33_1_39) = some j42∧Le H H40∧f 1 = I variable_∧f 2 = Pt g5∧f 4 = Pt g7∧f 6 = Pt g33∧f 7 = I i_36∧Star H40 w_ ([oF 126 rTerm v37_g33_0 g33_0_37,box g33 74 #[v37_g33_0,I g33_1_39],box g7 74 #[S0,I 0],box g5 74 #[v0_0,I c.bound]])
 have Z:=Star.addNil (R:=(OR.frz rTerm)) (e:=126) Z
 refine W_loop I42 (n:=c.terms.length) ?_ ?_
 exact ij hI42 ⟨0,c.terms,[],c.bound,H,S0,rfl,rfl,Nat.zero_add _,hL42,(Le.refl _),sf1,sf2,sf4,rfl,rfl,Z⟩
 intro n42 f w_ hI
 obtain ⟨i_36,suf42,g33_0_37,g33_1_39,H40,v37_g33_0,rfl,hd42,hl42,hL42,l41,sf1,sf2,sf4,sf6,sf7,Z⟩:=ik hI42 hI
 refine W_seq (sq (mF sf7 rfl (fA 0 fa_74_0 sf2 rfl (ldB 3 Z Tryz.isAgg72 rfl rfl rfl (L_len rfl Tryz.underlying72 rfl (slice_len (RP.mono _ h0_0 l41)) (L_lss rfl rfl rfl (nn (W_cond (b:=decide ((i_36 : Int) < (c.terms.length : Int))) rfl (fun hc44=>?_) (fun hc44=>?_)))))))))
 have hlt42:=of_decide_eq_true hc44
 rcases suf42 with _ | ⟨x_42,rest42⟩
 exact absurd hlt42 (by simp at hl42; omega)
 obtain ⟨o42,hB42,hL42⟩:=range_cons hL42
 rw [s_WeakenConstraint_b1] at hB42
 have hix42:=drop_idx hd42
 refine W_skip (W_seq (W_block (W_seq ?_)))
 obtain ⟨x54,hx54,hB42⟩:=bind_some hB42
 refine W_region (fA 0 fa_74_0 sf2 rfl (ldB 3 Z Tryz.isAgg72 rfl rfl rfl (mF sf7 rfl (L_ix (r:=rTerm) rfl Tryz.underlying72 Tryz.sizeOf126 rfl (RP.mono _ h0_0 l41) rfl hix42 (fun g56 o57 cs_g56 hrk_hat58 hat58=>?_)))))
 obtain rfl:=rTerm_iff.1 hrk_hat58
 refine fA (o57 + 1) fa_126_1 rfl rfl (L_ld rfl Tryz.isAgg3 rfl (At.cell (AtH.at hat58 Z.sub) (j:=1) rfl) ?_)
 obtain ⟨H60b,l61,s62,z63,k64⟩:=Z.borrow
 refine L_call rfl Tryz.call148 (ops1 rfl) (s_l1Abs_c (n_:=x_42.lit) s62 hx54) ?_
 rintro _ w65 ⟨rfl,Z⟩
 have Z:=k64 Z c0
 refine mF sf1 rfl (L_eql rfl rfl rfl (nn ?_))
 obtain ⟨⟨g33_0_66,g33_1_68⟩,hA71,hB42⟩:=bind_some hB42
 obtain ⟨R71,hR71⟩:=exR fun f w_=>∃ H69 : FH,∃ v66_g33_0 : Value,Le H40 H69∧f 1 = I variable_∧f 2 = Pt g5∧f 4 = Pt g7∧f 6 = Pt g33∧f 7 = I i_36∧Star H69 w_ ([oF 126 rTerm v66_g33_0 g33_0_66,box g33 74 #[v66_g33_0,I g33_1_68],box g7 74 #[S0,I 0],box g5 74 #[v0_0,I c.bound]])
 refine W_join R71 ?_ ?_
 refine W_cond (b:=(x54 == variable_)) rfl (fun hc72=>?_) (fun hc72=>?_)
 have hA71:=(ite_t hc72).symm.trans hA71
 refine W_drawS 8 [isV (Pq g33 1),isV (I g33_1_39),isV (Pt g5),isV (v0_0),isV (I i_36),isEl rTerm x_42 0,isEl rTerm x_42 0,isV (I x_42.coef)] [oF 126 rTerm v37_g33_0 g33_0_37,box g33 74 #[v37_g33_0,I g33_1_39],box g7 74 #[S0,I 0],box g5 74 #[v0_0,I c.bound]] [] ([]) [([],[]),([],[]),([],[]),([],[]),([],[]),([],[]),([],[]),([],[])] (S:=[]) Tryz_mix (by kernel_rfl) rfl (by kernel_rfl) (amF_cons (mono_V _) (amF_cons (mono_V _) (amF_cons (mono_V _) (amF_cons (mono_V _) (amF_cons (mono_V _) (amF_cons (mono_el _ _ _) (amF_cons (mono_el _ _ _) (amF_cons (mono_V _) amF_nil)))))))) Z ?_ (fun f w_ H78 hS78 hE78 hT78 Z=>?_)
 refine opsS_cons (fun f w_ _ _ s _ _ Z=>fA 1 fa_74_1 ((s 6 rfl).trans sf6) rfl (nO rfl rfl Z)) (opsS_cons (fun f w_ _ _ _ _ p Z=>ldB 1 Z Tryz.isAgg3 (p 0 39 rfl rfl) rfl rfl (nO rfl rfl Z)) (opsS_cons (fun f w_ _ _ s _ _ Z=>fA 0 fa_74_0 ((s 2 rfl).trans sf2) rfl (nO rfl rfl Z)) (opsS_cons (fun f w_ _ _ _ _ p Z=>ldB 3 Z Tryz.isAgg72 (p 2 41 rfl rfl) rfl rfl (nO rfl rfl Z)) (opsS_cons (fun f w_ _ _ s _ _ Z=>mF ((s 7 rfl).trans sf7) rfl (nO rfl rfl Z)) (opsS_cons ?_ ?_)))))
 intro f w_ H78 X78 hS78 hE78 hP78 Z
 refine L_ix (r:=rTerm) rfl Tryz.underlying72 Tryz.sizeOf126 (hP78 3 42 rfl rfl) (RP.mono _ h0_0 (Le.trans l41 hE78)) (hP78 4 43 rfl rfl) hix42 (fun g83 o84 cs_g83 hrk_hat85 hat85=>?_)
 obtain rfl:=rTerm_iff.1 hrk_hat85
 exact L_nil ⟨rfl,_,_,rfl,Le.refl _,fun _ _=>⟨_,_,_,rfl,hrk_hat85,hat85⟩,Z⟩
 refine opsS_cons ?_ ?_
 intro f w_ H78 X78 hS78 hE78 hP78 Z
 obtain ⟨g87,o87,cs87,hv87,hrk_hat87,hat87⟩:=(hP78 5 44 rfl rfl)
 obtain rfl:=rTerm_iff.1 hrk_hat87
 refine fA o87 fa_126_0 hv87 rfl (L_nil ⟨rfl,_,_,rfl,Le.refl _,fun _ _=>⟨_,_,_,rfl,hrk_hat87,hat87⟩,Z⟩)
 refine opsS_cons ?_ ?_
 intro f w_ H78 X78 hS78 hE78 hP78 Z
 obtain ⟨g89,o89,cs89,hv89,hrk_hat89,hat89⟩:=(hP78 6 45 rfl rfl)
 obtain rfl:=rTerm_iff.1 hrk_hat89
 refine L_ld rfl Tryz.isAgg3 hv89 (At.cell (AtH.at hat89 Z.sub) (j:=0) rfl) (L_nil ⟨rfl,_,_,rfl,Le.refl _,fun _ _=>rfl,Z⟩)
 exact opsS_nil
 refine L_sub rfl (hT78 1 40 rfl rfl) (hT78 7 46 rfl rfl) (fA 1 fa_74_1 ((hS78 6 rfl).trans sf6) rfl (L_stB (v:=I (i64 (g33_1_39 - x_42.coef))) (cs2:=#[v37_g33_0,I (i64 (g33_1_39 - x_42.coef))]) 1 rfl Tryz.sizeOf3 rfl rfl rfl Z rfl rfl rfl (fun w91 Z=>nn ?_)))
 obtain ⟨rfl,rfl⟩:=so2 hA71
 have Z:=Z.gets [3,3,2,3] rfl
 exact rj hR71 ⟨H78,v37_g33_0,hE78,((hS78 1 rfl).trans sf1),((hS78 2 rfl).trans sf2),((hS78 4 rfl).trans sf4),((hS78 6 rfl).trans sf6),((hS78 7 rfl).trans sf7),Z⟩
 have hA71:=(ite_f hc72).symm.trans hA71
 obtain ⟨x99,hx99,hA71⟩:=bind_some hA71
 refine W_drawS 8 [isV (Pt g33),isV (v37_g33_0),isV (Pt g5),isV (v0_0),isV (I i_36),isEl rTerm x_42 0,isV (.agg #[I x_42.coef,I x_42.lit]),anyF] [oF 126 rTerm v37_g33_0 g33_0_37,box g33 74 #[v37_g33_0,I g33_1_39],box g7 74 #[S0,I 0],box g5 74 #[v0_0,I c.bound]] [.made 7 56 (fun v_=>oF 126 rTerm v_ ([x_42])) none] ([]) [([],[]),([],[]),([],[]),([],[]),([],[]),([],[]),([],[]),([],[0])] (S:=[(some 7,[56],none)]) Tryz_mix (by kernel_rfl) rfl (by kernel_rfl) (amF_cons (mono_V _) (amF_cons (mono_V _) (amF_cons (mono_V _) (amF_cons (mono_V _) (amF_cons (mono_V _) (amF_cons (mono_el _ _ _) (amF_cons (mono_V _) (amF_cons (mono_any) amF_nil)))))))) Z ?_ (fun f w_ H104 hS104 hE104 hT104 Z=>?_)
 refine opsS_cons (fun f w_ _ _ s _ _ Z=>fA 0 fa_74_0 ((s 6 rfl).trans sf6) rfl (nO rfl rfl Z)) (opsS_cons (fun f w_ _ _ _ _ p Z=>ldB 1 Z Tryz.isAgg72 (p 0 49 rfl rfl) rfl rfl (nO rfl rfl Z)) (opsS_cons (fun f w_ _ _ s _ _ Z=>fA 0 fa_74_0 ((s 2 rfl).trans sf2) rfl (nO rfl rfl Z)) (opsS_cons (fun f w_ _ _ _ _ p Z=>ldB 3 Z Tryz.isAgg72 (p 2 51 rfl rfl) rfl rfl (nO rfl rfl Z)) (opsS_cons (fun f w_ _ _ s _ _ Z=>mF ((s 7 rfl).trans sf7) rfl (nO rfl rfl Z)) (opsS_cons ?_ ?_)))))
 intro f w_ H104 X104 hS104 hE104 hP104 Z
 refine L_ix (r:=rTerm) rfl Tryz.underlying72 Tryz.sizeOf126 (hP104 3 52 rfl rfl) (RP.mono _ h0_0 (Le.trans l41 hE104)) (hP104 4 53 rfl rfl) hix42 (fun g112 o113 cs_g112 hrk_hat114 hat114=>?_)
 obtain rfl:=rTerm_iff.1 hrk_hat114
 exact L_nil ⟨rfl,_,_,rfl,Le.refl _,fun _ _=>⟨_,_,_,rfl,hrk_hat114,hat114⟩,Z⟩
 refine opsS_cons ?_ ?_
 intro f w_ H104 X104 hS104 hE104 hP104 Z
 obtain ⟨g116,o116,cs116,hv116,hrk_hat116,hat116⟩:=(hP104 5 54 rfl rfl)
 obtain rfl:=rTerm_iff.1 hrk_hat116
 refine L_lda (cs:=[I x_42.coef,I x_42.lit]) rfl Tryz.isAgg126 Tryz.sizeOf126 hv116 (At.sub (AtH.at hat116 Z.sub) 0 2) rfl (L_nil ⟨rfl,_,_,rfl,Le.refl _,fun _ _=>rfl,Z⟩)
 refine opsS_cons ?_ ?_
 intro f w_ H104 X104 hS104 hE104 hP104 Z
 refine L_bs rfl (parts1 (hP104 6 55 rfl rfl)) (bs_72_1_2 (I x_42.coef) (I x_42.lit) ) Z (fun g118 w119 Z=>?_)
 have Z:=Star.addF (r:=rTerm) (cs:=[I x_42.coef,I x_42.lit]) (x:=x_42) Z (rTerm_iff.2 rfl)
 have Z:=Star.mkRow (R:=(OR.frz rTerm)) [([I x_42.coef,I x_42.lit],x_42)] [x_42] 1 Z rfl rfl rfl (by decide)
 have Z:=Z.gets [4,4,4,4] rfl
 exact L_nil ⟨rfl,_,_,rfl,Le.refl _,fun _ _=>trivial,Z⟩
 exact opsS_nil
 have Z : Star H104 w_ ([oF 126 rTerm v37_g33_0 g33_0_37,box g33 74 #[v37_g33_0,I g33_1_39],box g7 74 #[S0,I 0],box g5 74 #[v0_0,I c.bound],oF 126 rTerm (f 56) ([x_42])]):=Z
 have Z:=Z.gets [4,1] rfl
 refine L_appM (v:=v37_g33_0) (u:=(f 56)) rfl et_72 (hT104 1 50 rfl rfl) rfl Z hx99 (fun v122 w123 Z=>fA 0 fa_74_0 ((hS104 6 rfl).trans sf6) rfl (L_stB (v:=v122) (cs2:=#[v122,I g33_1_39]) 1 rfl Tryz.sizeOf72 rfl rfl (one_len (Star.len 0 Z rfl)) Z rfl rfl rfl (fun w125 Z=>nn ?_)))
 obtain ⟨rfl,rfl⟩:=so2 hA71
 have Z:=Z.gets [3,3,2,3] rfl
 exact rj hR71 ⟨H104,v122,hE104,((hS104 1 rfl).trans sf1),((hS104 2 rfl).trans sf2),((hS104 4 rfl).trans sf4),((hS104 6 rfl).trans sf6),((hS104 7 rfl).trans sf7),Z⟩
 intro f w_ hR
 obtain ⟨H69,v66_g33_0,l70,sf1,sf2,sf4,sf6,sf7,Z⟩:=rk hR71 hR
 refine W_region (mF sf7 rfl (L_add rfl rfl rfl (aI rfl (nn ?_))))
 obtain rfl:=so hB42
 show ∃ m,m < _∧I42 m _ _
 refine ⟨rest42.length,by simp,?_⟩
 exact ij hI42 ⟨i_36 + 1,rest42,g33_0_66,g33_1_68,H69,v66_g33_0,rfl,drop_next hd42,by simp at hl42; omega,hL42,(Le.trans l41 l70),sf1,sf2,sf4,sf6,(Eq.trans rfl (congrArg (Value.int .i64) (i64_succ (n:=c.terms.length) (by simp at hl42; omega) hlen42))),Z⟩
 rcases suf42 with _ | ⟨_,_⟩
 obtain rfl:=range_nil hL42
 refine W_exit (rj hR42 ⟨g33_0_37,g33_1_39,H40,v37_g33_0,rfl,l41,sf4,sf6,(Star.keepN 3 Z)⟩)
 exact absurd (of_decide_eq_false hc44) (by simp at hl42; omega)
 intro f w_ hR
 obtain ⟨g33_0_37,g33_1_39,H40,v37_g33_0,rfl,l41,sf4,sf6,Z⟩:=rk hR42 hR
 refine W_seq (sq (fA 1 fa_74_1 sf6 rfl (ldB 1 Z Tryz.isAgg3 rfl rfl rfl (L_lss rfl rfl rfl (nn ?_)))))
 obtain ⟨g33_1_126,hA127,hF⟩:=bind_some hF
 obtain ⟨R127,hR127⟩:=exR fun f w_=>f 4 = Pt g7∧f 6 = Pt g33∧Star H40 w_ ([oF 126 rTerm v37_g33_0 g33_0_37,box g33 74 #[v37_g33_0,I g33_1_126],box g7 74 #[S0,I 0]])
 refine W_join R127 ?_ ?_
 refine W_cond (b:=decide (g33_1_39 < 0)) rfl (fun hc128=>?_) (fun hc128=>?_)
 have hA127:=(ite_t hc128).symm.trans hA127
 refine W_region (fA 1 fa_74_1 sf6 rfl (L_stB (v:=I 0) (cs2:=#[v37_g33_0,I 0]) 1 rfl Tryz.sizeOf3 rfl rfl rfl Z rfl rfl rfl (fun w130 Z=>nn ?_)))
 obtain rfl:=so hA127
 have Z:=Z.gets [2,1,2] rfl
 exact rj hR127 ⟨sf4,sf6,Z⟩
 have hA127:=(ite_f hc128).symm.trans hA127
 refine W_skip ?_
 obtain rfl:=so hA127
 exact rj hR127 ⟨sf4,sf6,Z⟩
 intro f w_ hR
 obtain ⟨sf4,sf6,Z⟩:=rk hR127 hR
 refine sq (L_lda (cs:=[v37_g33_0,I g33_1_126]) rfl Tryz.isAgg74 Tryz.sizeOf74 sf6 (At.sub0 (Blk.at (Star.blkAt 1 Z rfl)) 0 2) rfl (L_staB (vs:=#[v37_g33_0,I g33_1_126]) (cs2:=#[v37_g33_0,I g33_1_126]) 2 rfl Tryz.sizeOf74 sf4 rfl rfl (ones_cons (one_len (Star.len 0 Z rfl)) (ones_cons rfl ones_nil)) Z rfl (by show 0 + 2≤2; decide) rfl (fun w132 Z=>aB rfl (nn (W_ret (retG2 (v1:=.agg #[v37_g33_0,I g33_1_126]) (v2:=Bo true) Tryz.results194 (resV_agg Tryz.isAgg74 Tryz.sizeOf74 sf4 (Star.blkAt 0 Z rfl) rfl) rfl ?_))))))
 obtain rfl:=so hF
 have Z:=Z.get 1 rfl
 exact ⟨v37_g33_0,rfl,(Star.down (Star.keepN 1 Z) l41 (co closed_term c0))⟩
end Go.Proofs.YtohpkefnmkdaeaaGreatDoor

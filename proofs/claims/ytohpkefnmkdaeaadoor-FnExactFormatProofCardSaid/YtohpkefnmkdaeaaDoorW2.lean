/- Part of a proof by program: W2. -/
import Derived.Test.YtohpkefnmkdaeaaDoorD1
import Derived.Test.YtohpkefnmkdaeaaDoorW1
namespace Go.Proofs.YtohpkefnmkdaeaaDoor
open Go Go.E Go.L Go.RowKit
set_option linter.unusedVariables false
set_option linter.unusedSimpArgs false
set_option maxRecDepth 100000
theorem i_literalText_c {l : Int} {H : FH} {w : World} (Z : Star H w []) {r : ByteArray} (hF : i_literalText l = some r) :
 C Tryd.prog 77 #[I l] w fun v w'=>v = .string r∧Star H w' []:=by
 unfold i_literalText at hF
 refine C_enter Tryd.func77 rfl Tryd.ntmps77 rfl (sq (aV (.string (⟨#[]⟩ : ByteArray)) rfl (nq (sq (mI rfl (L_lss rfl rfl rfl (nn (W_cond (b:=decide (l < 0)) rfl (fun hc1=>?_) (fun hc1=>?_)))))))))
 have hF:=(ite_t hc1).symm.trans hF
 refine W_seq ?_
 obtain ⟨x7,hx7,hF⟩:=bind_some hF
 obtain ⟨x9,hx9,hF⟩:=bind_some hF
 refine W_region (mI rfl (L_neg rfl rfl ?_))
 obtain ⟨H10b,l11,s12,z13,k14⟩:=Z.borrow
 refine L_call rfl Tryd.call79 (ops1 rfl) (strconv_Itoa_c (x_:=i64 (-l)) s12 hx7) ?_
 rintro _ w15 ⟨rfl,Z⟩
 have Z:=k14 Z c0
 obtain ⟨hx9_l,hx9_e⟩:=cat_some hx9
 refine L_sadd (s:=(⟨#[126,120]⟩ : ByteArray)) (s':=x7) rfl rfl rfl hx9_l ?_
 rw [← hx9_e]
 refine aV (.string x9) rfl (nn (W_ret (retG1 (v1:=.string x9) Tryd.results77 rfl ?_)))
 obtain rfl:=so hF
 exact ⟨rfl,Z⟩
 have hF:=(ite_f hc1).symm.trans hF
 refine W_skip (W_seq ?_)
 obtain ⟨x21,hx21,hF⟩:=bind_some hF
 obtain ⟨x23,hx23,hF⟩:=bind_some hF
 refine W_region (mI rfl ?_)
 obtain ⟨H24b,l25,s26,z27,k28⟩:=Z.borrow
 refine L_call rfl Tryd.call79 (ops1 rfl) (strconv_Itoa_c (x_:=l) s26 hx21) ?_
 rintro _ w29 ⟨rfl,Z⟩
 have Z:=k28 Z c0
 obtain ⟨hx23_l,hx23_e⟩:=cat_some hx23
 refine L_sadd (s:=(⟨#[120]⟩ : ByteArray)) (s':=x21) rfl rfl rfl hx23_l ?_
 rw [← hx23_e]
 refine aV (.string x23) rfl (nn (W_ret (retG1 (v1:=.string x23) Tryd.results77 rfl ?_)))
 obtain rfl:=so hF
 exact ⟨rfl,Z⟩
theorem i_Constraint_text_c {c : Con} {v0_0 : Value} {H : FH} {w : World} (Z : Star H w []) (h0_0 : (rS 126 rTerm).rel H [v0_0] c.terms) {r : ByteArray} (hF : i_Constraint_text c = some r) :
 C Tryd.prog 78 #[.agg #[v0_0,I c.bound]] w fun v w'=>v = .string r∧Star H w' []:=by
 unfold i_Constraint_text at hF
 refine C_enter Tryd.func78 rfl Tryd.ntmps78 rfl (sq (L_box (v:=.agg #[v0_0,I c.bound]) (cs:=#[v0_0,I c.bound]) rfl rfl rfl Z (fun g3 w4 Z=>aV (.string (⟨#[]⟩ : ByteArray)) rfl (ns (aV (.string (⟨#[]⟩ : ByteArray)) rfl (nq (sq (fA 0 fa_73_0 rfl rfl (ldB 0 Z Tryd.isAgg71 rfl rfl rfl (L_len rfl Tryd.underlying71 rfl (slice_len h0_0) (mI rfl (nn ?_))))))))))))
 have hlen9 : List.length c.terms≤9223372036854775807:=len_le (slice_len h0_0)
 obtain ⟨j9,hL9,hF⟩:=bind_some hF
 obtain ⟨R9,hR9⟩:=exR fun f w_=>∃ out_6 : ByteArray,∃ H7 : FH,j9 = .nx out_6∧Le H H7∧f 1 = Pt g3∧f 3 = .string out_6∧Star H7 w_ ([box g3 73 #[v0_0,I c.bound]])
 refine W_join R9 ?_ ?_
 refine W_block ?_
 obtain ⟨I9,hI9⟩:=exI fun n f w_=>∃ i_5 : Nat,∃ suf9 : List Term,∃ out_6 : ByteArray,∃ H7 : FH,n = suf9.length∧List.drop i_5 c.terms = suf9∧i_5 + suf9.length = c.terms.length∧rangeL i_Constraint_text_b1 suf9 i_5 out_6 = some j9∧Le H H7∧f 1 = Pt g3∧f 3 = .string out_6∧f 7 = v0_0∧f 8 = I (c.terms.length : Int)∧f 9 = I i_5∧Star H7 w_ ([box g3 73 #[v0_0,I c.bound]])
 refine W_loop I9 (n:=c.terms.length) ?_ ?_
 exact ij hI9 ⟨0,c.terms,(⟨#[]⟩ : ByteArray),H,rfl,rfl,Nat.zero_add _,hL9,(Le.refl _),rfl,rfl,rfl,rfl,rfl,Z⟩
 intro n9 f w_ hI
 obtain ⟨i_5,suf9,out_6,H7,rfl,hd9,hl9,hL9,l8,sf1,sf3,sf7,sf8,sf9,Z⟩:=ik hI9 hI
 refine sq (L_lss rfl sf9 sf8 (nq (W_cond (b:=decide ((i_5 : Int) < (c.terms.length : Int))) rfl (fun hc10=>?_) (fun hc10=>?_))))
 have hlt9:=of_decide_eq_true hc10
 rcases suf9 with _ | ⟨x_9,rest9⟩
 exact absurd hlt9 (by simp at hl9; omega)
 obtain ⟨o9,hB9,hL9⟩:=range_cons hL9
 rw [i_Constraint_text_b1] at hB9
 have hix9:=drop_idx hd9
 refine W_skip (W_seq (W_block (sq (L_ix (r:=rTerm) rfl Tryd.underlying71 Tryd.sizeOf126 sf7 (RP.mono _ h0_0 l8) sf9 hix9 (fun g18 o19 cs_g18 hrk_hat20 hat20=>?_)))))
 obtain rfl:=rTerm_iff.1 hrk_hat20
 refine L_lda (cs:=[I x_9.coef,I x_9.lit]) rfl Tryd.isAgg126 Tryd.sizeOf126 rfl (At.sub (AtH.at hat20 Z.sub) 0 2) rfl (L_al (cs:=#[I 0,I 0]) rfl Tryd.zeroValue126 rfl Z (fun g22 w23 Z=>L_staB (vs:=#[I x_9.coef,I x_9.lit]) (cs2:=#[I x_9.coef,I x_9.lit]) 0 rfl Tryd.sizeOf126 rfl rfl rfl (ones_cons rfl (ones_cons rfl ones_nil)) Z rfl (by show 0 + 2≤2; decide) rfl (fun w24 Z=>nn ?_)))
 obtain ⟨x30,hx30,hB9⟩:=bind_some hB9
 obtain ⟨x32,hx32,hB9⟩:=bind_some hB9
 obtain ⟨x38,hx38,hB9⟩:=bind_some hB9
 obtain ⟨x40,hx40,hB9⟩:=bind_some hB9
 obtain ⟨x41,hx41,hB9⟩:=bind_some hB9
 obtain ⟨x42,hx42,hB9⟩:=bind_some hB9
 refine W_drawS 10 [isV (.string out_6),isV (Pt g22),isV (I x_9.coef),isV (.string x30),isV (.string x32),isV (Pq g22 1),isV (I x_9.lit),isV (.string x38),isV (.string x40),isV (.string x41)] [box g22 126 #[I x_9.coef,I x_9.lit],box g3 73 #[v0_0,I c.bound]] [] ([]) [([],[]),([],[]),([],[]),([],[]),([],[]),([],[]),([],[]),([],[]),([],[]),([],[])] (S:=[]) Tryd_mix (by kernel_rfl) rfl (by kernel_rfl) (amF_cons (mono_V _) (amF_cons (mono_V _) (amF_cons (mono_V _) (amF_cons (mono_V _) (amF_cons (mono_V _) (amF_cons (mono_V _) (amF_cons (mono_V _) (amF_cons (mono_V _) (amF_cons (mono_V _) (amF_cons (mono_V _) amF_nil)))))))))) Z ?_ (fun f w_ H43 hS43 hE43 hT43 Z=>?_)
 refine opsS_cons (fun f w_ _ _ s _ _ Z=>mF ((s 3 rfl).trans sf3) rfl (nO rfl rfl Z)) (opsS_cons (fun f w_ _ _ s _ _ Z=>fA 0 fa_126_0 ((s 5 rfl).trans rfl) rfl (nO rfl rfl Z)) (opsS_cons (fun f w_ _ _ _ _ p Z=>ldB 0 Z Tryd.isAgg3 (p 1 14 rfl rfl) rfl rfl (nO rfl rfl Z)) (opsS_cons ?_ ?_)))
 intro f w_ H43 X43 hS43 hE43 hP43 Z
 obtain ⟨H56b,l57,s58,z59,k60⟩:=Z.borrow
 refine L_call rfl Tryd.call79 (ops1 (hP43 2 15 rfl rfl)) (strconv_Itoa_c (x_:=x_9.coef) s58 hx30) ?_
 rintro _ w61 ⟨rfl,Z⟩
 have Z:=k60 Z c0
 exact L_nil ⟨rfl,_,_,rfl,Le.refl _,fun _ _=>rfl,Z⟩
 refine opsS_cons ?_ ?_
 intro f w_ H43 X43 hS43 hE43 hP43 Z
 obtain ⟨hx32_l,hx32_e⟩:=cat_some hx32
 refine L_sadd (s:=x30) (s':=(⟨#[32]⟩ : ByteArray)) rfl (hP43 3 16 rfl rfl) rfl hx32_l ?_
 rw [← hx32_e]
 exact L_nil ⟨rfl,_,_,rfl,Le.refl _,fun _ _=>rfl,Z⟩
 refine opsS_cons (fun f w_ _ _ s _ _ Z=>fA 1 fa_126_1 ((s 5 rfl).trans rfl) rfl (nO rfl rfl Z)) (opsS_cons (fun f w_ _ _ _ _ p Z=>ldB 0 Z Tryd.isAgg3 (p 5 18 rfl rfl) rfl rfl (nO rfl rfl Z)) (opsS_cons ?_ ?_))
 intro f w_ H43 X43 hS43 hE43 hP43 Z
 obtain ⟨H62b,l63,s64,z65,k66⟩:=Z.borrow
 refine L_call rfl Tryd.call77 (ops1 (hP43 6 19 rfl rfl)) (i_literalText_c (l:=x_9.lit) s64 hx38) ?_
 rintro _ w67 ⟨rfl,Z⟩
 have Z:=k66 Z c0
 exact L_nil ⟨rfl,_,_,rfl,Le.refl _,fun _ _=>rfl,Z⟩
 refine opsS_cons ?_ ?_
 intro f w_ H43 X43 hS43 hE43 hP43 Z
 obtain ⟨hx40_l,hx40_e⟩:=cat_some hx40
 refine L_sadd (s:=x32) (s':=x38) rfl (hP43 4 17 rfl rfl) (hP43 7 20 rfl rfl) hx40_l ?_
 rw [← hx40_e]
 exact L_nil ⟨rfl,_,_,rfl,Le.refl _,fun _ _=>rfl,Z⟩
 refine opsS_cons ?_ ?_
 intro f w_ H43 X43 hS43 hE43 hP43 Z
 obtain ⟨hx41_l,hx41_e⟩:=cat_some hx41
 refine L_sadd (s:=x40) (s':=(⟨#[32]⟩ : ByteArray)) rfl (hP43 8 21 rfl rfl) rfl hx41_l ?_
 rw [← hx41_e]
 exact L_nil ⟨rfl,_,_,rfl,Le.refl _,fun _ _=>rfl,Z⟩
 exact opsS_nil
 obtain ⟨hx42_l,hx42_e⟩:=cat_some hx42
 refine L_sadd (s:=out_6) (s':=x41) rfl (hT43 0 13 rfl rfl) (hT43 9 22 rfl rfl) hx42_l ?_
 rw [← hx42_e]
 refine aV (.string x42) rfl (nn (W_region (L_add rfl ((hS43 9 rfl).trans sf9) rfl (mI rfl (nn ?_)))))
 obtain rfl:=so hB9
 have Z:=Z.get 1 rfl
 show ∃ m,m < _∧I9 m _ _
 refine ⟨rest9.length,by simp,?_⟩
 exact ij hI9 ⟨i_5 + 1,rest9,x42,H43,rfl,drop_next hd9,by simp at hl9; omega,hL9,(Le.trans l8 hE43),((hS43 1 rfl).trans sf1),rfl,((hS43 7 rfl).trans sf7),((hS43 8 rfl).trans sf8),(Eq.trans rfl (congrArg (Value.int .i64) (i64_succ (n:=c.terms.length) (by simp at hl9; omega) hlen9))),(Star.keepN 1 Z)⟩
 rcases suf9 with _ | ⟨_,_⟩
 obtain rfl:=range_nil hL9
 refine W_exit (rj hR9 ⟨out_6,H7,rfl,l8,sf1,sf3,Z⟩)
 exact absurd (of_decide_eq_false hc10) (by simp at hl9; omega)
 intro f w_ hR
 obtain ⟨out_6,H7,rfl,l8,sf1,sf3,Z⟩:=rk hR9 hR
 refine W_seq ?_
 obtain ⟨x68,hx68,hF⟩:=bind_some hF
 obtain ⟨x74,hx74,hF⟩:=bind_some hF
 obtain ⟨x76,hx76,hF⟩:=bind_some hF
 refine W_region (mF sf3 rfl ?_)
 obtain ⟨hx68_l,hx68_e⟩:=cat_some hx68
 refine L_sadd (s:=out_6) (s':=(⟨#[62,61,32]⟩ : ByteArray)) rfl rfl rfl hx68_l ?_
 rw [← hx68_e]
 refine fA 1 fa_73_1 sf1 rfl (ldB 0 Z Tryd.isAgg3 rfl rfl rfl ?_)
 obtain ⟨H77b,l78,s79,z80,k81⟩:=Z.borrow
 refine L_call rfl Tryd.call79 (ops1 rfl) (strconv_Itoa_c (x_:=c.bound) s79 hx74) ?_
 rintro _ w82 ⟨rfl,Z⟩
 have Z:=k81 Z c0
 obtain ⟨hx76_l,hx76_e⟩:=cat_some hx76
 refine L_sadd (s:=x68) (s':=x74) rfl rfl rfl hx76_l ?_
 rw [← hx76_e]
 refine aV (.string x76) rfl (nn (W_ret (retG1 (v1:=.string x76) Tryd.results78 rfl ?_)))
 obtain rfl:=so hF
 exact ⟨rfl,(Star.down (Star.keepN 0 Z) l8 c0)⟩
theorem i_Step_text_c {s : Step} {v0_3 : Value} {H : FH} {w : World} (Z : Star H w []) (h0_3 : (rS 126 rTerm).rel H [v0_3] s.given.terms) {r : ByteArray} (hF : i_Step_text s = some r) :
 C Tryd.prog 44 #[.agg #[I s.kind,I s.a,I s.b,v0_3,I s.given.bound]] w fun v w'=>v = .string r∧Star H w' []:=by
 unfold i_Step_text at hF
 refine C_enter Tryd.func44 rfl Tryd.ntmps44 rfl (sq (L_box (v:=.agg #[I s.kind,I s.a,I s.b,v0_3,I s.given.bound]) (cs:=#[I s.kind,I s.a,I s.b,v0_3,I s.given.bound]) rfl rfl rfl Z (fun g3 w4 Z=>aV (.string (⟨#[]⟩ : ByteArray)) rfl (nq ?_))))
 obtain ⟨x10,hx10,hF⟩:=bind_some hF
 obtain ⟨x13,hx13,hF⟩:=bind_some hF
 obtain ⟨x18,hx18,hF⟩:=bind_some hF
 refine W_drawS 3 [anyF,isV (Pt g3),isV (I s.kind)] [box g3 75 #[I s.kind,I s.a,I s.b,v0_3,I s.given.bound]] [.made 0 6 (fun v_=>oF 9 RP.str v_ x10) none] ([]) [([],[0]),([],[]),([],[])] (S:=[(some 0,[6],none)]) Tryd_mix (by kernel_rfl) rfl (by kernel_rfl) (amF_cons (mono_any) (amF_cons (mono_V _) (amF_cons (mono_V _) amF_nil))) Z ?_ (fun f w_ H19 hS19 hE19 hT19 Z=>?_)
 refine opsS_cons ?_ ?_
 intro f w_ H19 X19 hS19 hE19 hP19 Z
 obtain ⟨H27b,l28,s29,z30,k31⟩:=Z.borrow
 refine L_call rfl Tryd.call75 ops0 (i_stepWords_c s29 hx10) ?_
 rintro r32_0 w32 ⟨_,rfl,Z⟩
 have Z:=k31 Z (co closed_str c0)
 have Z:=Z.get 1 rfl
 exact L_nil ⟨rfl,_,_,rfl,Le.refl _,fun _ _=>trivial,Z⟩
 refine opsS_cons (fun f w_ _ _ s _ _ Z=>fA 0 fa_75_0 ((s 1 rfl).trans rfl) rfl (nO rfl rfl Z)) (opsS_cons (fun f w_ _ _ _ _ p Z=>ldB 0 Z Tryd.isAgg3 (p 1 7 rfl rfl) rfl rfl (nO rfl rfl Z)) (opsS_nil))
 have Z : Star H19 w_ ([box g3 75 #[I s.kind,I s.a,I s.b,v0_3,I s.given.bound],oF 9 RP.str (f 6) x10]):=Z
 obtain ⟨g35,cap_g35,hv36,_,_⟩:=Star.row 1 Z rfl hx13
 refine L_ixO (R:=(OR.frz RP.str)) (tb:=0) 0 rfl Tryd.underlying104 Tryd.sizeOf9 rfl hv36 (by first | rfl | simp) (hT19 2 8 rfl rfl) hx13 ?_
 obtain ⟨cs37,hr37,hat37⟩:=Star.eltF 1 Z rfl hv36 hx13
 obtain rfl : _ = [_]:=hr37
 refine L_ld rfl Tryd.isAgg9 rfl (At.cell hat37 (j:=0) rfl) ?_
 obtain ⟨hx18_l,hx18_e⟩:=cat_some hx18
 refine L_sadd (s:=x13) (s':=(⟨#[32]⟩ : ByteArray)) rfl rfl rfl hx18_l ?_
 rw [← hx18_e]
 refine aV (.string x18) rfl (nq ?_)
 obtain ⟨x44,hx44,hF⟩:=bind_some hF
 refine W_region (fA 0 fa_75_0 ((hS19 1 rfl).trans rfl) rfl (ldB 0 Z Tryd.isAgg3 rfl rfl rfl ?_))
 obtain ⟨H46b,l47,s48,z49,k50⟩:=Z.borrow
 refine L_call rfl Tryd.call76 (ops1 rfl) (i_refers_c (kind:=s.kind) s48 hx44) ?_
 rintro _ w51 ⟨rfl,Z⟩
 have Z:=k50 Z c0
 refine mV (.tuple #[I x44.1,Bo x44.2]) rfl (L_ex (v:=I x44.1) rfl rfl rfl (L_ex (v:=Bo x44.2) rfl rfl rfl (aI rfl (aB rfl (nq (W_block (sq (fA 0 fa_75_0 ((hS19 1 rfl).trans rfl) rfl (ldB 0 Z Tryd.isAgg3 rfl rfl rfl (L_eql rfl rfl rfl (aB rfl (nn (W_cond (b:=(s.kind == 6)) rfl (fun hc52=>?_) (fun hc52=>?_))))))))))))))
 have hF:=(ite_t hc52).symm.trans hF
 refine W_seq ?_
 obtain ⟨x58,hx58,hF⟩:=bind_some hF
 obtain ⟨x60,hx60,hF⟩:=bind_some hF
 refine W_region (mV (.string x18) rfl (fA 1 fa_75_1 ((hS19 1 rfl).trans rfl) rfl (ldB 0 Z Tryd.isAgg3 rfl rfl rfl ?_)))
 obtain ⟨H61b,l62,s63,z64,k65⟩:=Z.borrow
 refine L_call rfl Tryd.call77 (ops1 rfl) (i_literalText_c (l:=s.a) s63 hx58) ?_
 rintro _ w66 ⟨rfl,Z⟩
 have Z:=k65 Z c0
 obtain ⟨hx60_l,hx60_e⟩:=cat_some hx60
 refine L_sadd (s:=x18) (s':=x58) rfl rfl rfl hx60_l ?_
 rw [← hx60_e]
 refine aV (.string x60) rfl (nn (W_ret (retG1 (v1:=.string x60) Tryd.results44 rfl ?_)))
 obtain rfl:=so hF
 exact ⟨rfl,(Star.down (Star.keepN 0 Z) hE19 c0)⟩
 have hF:=(ite_f hc52).symm.trans hF
 refine sq (fA 0 fa_75_0 ((hS19 1 rfl).trans rfl) rfl (ldB 0 Z Tryd.isAgg3 rfl rfl rfl (L_eql rfl rfl rfl (aB rfl (nn (W_cond (b:=(s.kind == 7)) rfl (fun hc67=>?_) (fun hc67=>?_)))))))
 have hF:=(ite_t hc67).symm.trans hF
 refine W_seq ?_
 obtain ⟨x73,hx73,hF⟩:=bind_some hF
 obtain ⟨x75,hx75,hF⟩:=bind_some hF
 refine W_region (mV (.string x18) rfl (fA 3 fa_75_3 ((hS19 1 rfl).trans rfl) rfl (L_lda (cs:=[v0_3,I s.given.bound]) rfl Tryd.isAgg73 Tryd.sizeOf73 rfl (At.sub0 (Blk.at (Star.blkAt 0 Z rfl)) 3 2) rfl ?_)))
 obtain ⟨H76b,l77,s78,z79,k80⟩:=Z.borrow
 refine L_call rfl Tryd.call78 (ops1 rfl) (i_Constraint_text_c (c:=s.given) s78 (RP.mono _ h0_3 (Le.trans hE19 l77)) hx73) ?_
 rintro _ w81 ⟨rfl,Z⟩
 have Z:=k80 Z c0
 obtain ⟨hx75_l,hx75_e⟩:=cat_some hx75
 refine L_sadd (s:=x18) (s':=x73) rfl rfl rfl hx75_l ?_
 rw [← hx75_e]
 refine aV (.string x75) rfl (nn (W_ret (retG1 (v1:=.string x75) Tryd.results44 rfl ?_)))
 obtain rfl:=so hF
 exact ⟨rfl,(Star.down (Star.keepN 0 Z) hE19 c0)⟩
 have hF:=(ite_f hc67).symm.trans hF
 refine W_seq ?_
 obtain ⟨R82,hR82⟩:=exR fun f w_=>f 1 = Pt g3∧f 3 = .string x18∧f 36 = Bo ((decide (x44.1 > 1)) || x44.2)∧Star H19 w_ ([box g3 75 #[I s.kind,I s.a,I s.b,v0_3,I s.given.bound]])
 refine W_join R82 ?_ ?_
 refine W_region (mI rfl (L_gtr rfl rfl rfl (mB rfl (L_split (d:=39) (b:=decide (x44.1 > 1)) rfl (fun hc83=>?_) (fun hc83=>?_)))))
 refine ps rfl (L_pick (v:=Bo ((decide (x44.1 > 1)) || x44.2)) rfl rfl (or_t hc83) (aB rfl (nn (rj hR82 ⟨((hS19 1 rfl).trans rfl),rfl,rfl,(Star.keepN 1 Z)⟩))))
 refine mB rfl (L_pick (v:=Bo ((decide (x44.1 > 1)) || x44.2)) rfl rfl (or_f hc83 rfl) (aB rfl (nn (rj hR82 ⟨((hS19 1 rfl).trans rfl),rfl,rfl,(Star.keepN 1 Z)⟩))))
 intro f w_ hR
 obtain ⟨sf1,sf3,sf36,Z⟩:=rk hR82 hR
 refine W_cond (b:=((decide (x44.1 > 1)) || x44.2)) sf36 (fun hc84=>?_) (fun hc84=>?_)
 have hF:=(ite_t hc84).symm.trans hF
 refine W_seq ?_
 obtain ⟨x90,hx90,hF⟩:=bind_some hF
 obtain ⟨x92,hx92,hF⟩:=bind_some hF
 obtain ⟨x93,hx93,hF⟩:=bind_some hF
 obtain ⟨x99,hx99,hF⟩:=bind_some hF
 obtain ⟨x101,hx101,hF⟩:=bind_some hF
 refine W_drawS 9 [isV (.string x18),isV (Pq g3 1),isV (I s.a),isV (.string x90),isV (.string x92),isV (.string x93),isV (Pq g3 2),isV (I s.b),isV (.string x99)] [box g3 75 #[I s.kind,I s.a,I s.b,v0_3,I s.given.bound]] [] ([]) [([],[]),([],[]),([],[]),([],[]),([],[]),([],[]),([],[]),([],[]),([],[])] (S:=[]) Tryd_mix (by kernel_rfl) rfl (by kernel_rfl) (amF_cons (mono_V _) (amF_cons (mono_V _) (amF_cons (mono_V _) (amF_cons (mono_V _) (amF_cons (mono_V _) (amF_cons (mono_V _) (amF_cons (mono_V _) (amF_cons (mono_V _) (amF_cons (mono_V _) amF_nil))))))))) Z ?_ (fun f w_ H102 hS102 hE102 hT102 Z=>?_)
 refine opsS_cons (fun f w_ _ _ s _ _ Z=>mF ((s 3 rfl).trans sf3) rfl (nO rfl rfl Z)) (opsS_cons (fun f w_ _ _ s _ _ Z=>fA 1 fa_75_1 ((s 1 rfl).trans sf1) rfl (nO rfl rfl Z)) (opsS_cons (fun f w_ _ _ _ _ p Z=>ldB 0 Z Tryd.isAgg3 (p 1 43 rfl rfl) rfl rfl (nO rfl rfl Z)) (opsS_cons ?_ ?_)))
 intro f w_ H102 X102 hS102 hE102 hP102 Z
 obtain ⟨H115b,l116,s117,z118,k119⟩:=Z.borrow
 refine L_call rfl Tryd.call79 (ops1 (hP102 2 44 rfl rfl)) (strconv_Itoa_c (x_:=s.a) s117 hx90) ?_
 rintro _ w120 ⟨rfl,Z⟩
 have Z:=k119 Z c0
 exact L_nil ⟨rfl,_,_,rfl,Le.refl _,fun _ _=>rfl,Z⟩
 refine opsS_cons ?_ ?_
 intro f w_ H102 X102 hS102 hE102 hP102 Z
 obtain ⟨hx92_l,hx92_e⟩:=cat_some hx92
 refine L_sadd (s:=x18) (s':=x90) rfl (hP102 0 42 rfl rfl) (hP102 3 45 rfl rfl) hx92_l ?_
 rw [← hx92_e]
 exact L_nil ⟨rfl,_,_,rfl,Le.refl _,fun _ _=>rfl,Z⟩
 refine opsS_cons ?_ ?_
 intro f w_ H102 X102 hS102 hE102 hP102 Z
 obtain ⟨hx93_l,hx93_e⟩:=cat_some hx93
 refine L_sadd (s:=x92) (s':=(⟨#[32]⟩ : ByteArray)) rfl (hP102 4 46 rfl rfl) rfl hx93_l ?_
 rw [← hx93_e]
 exact L_nil ⟨rfl,_,_,rfl,Le.refl _,fun _ _=>rfl,Z⟩
 refine opsS_cons (fun f w_ _ _ s _ _ Z=>fA 2 fa_75_2 ((s 1 rfl).trans sf1) rfl (nO rfl rfl Z)) (opsS_cons (fun f w_ _ _ _ _ p Z=>ldB 0 Z Tryd.isAgg3 (p 6 48 rfl rfl) rfl rfl (nO rfl rfl Z)) (opsS_cons ?_ ?_))
 intro f w_ H102 X102 hS102 hE102 hP102 Z
 obtain ⟨H121b,l122,s123,z124,k125⟩:=Z.borrow
 refine L_call rfl Tryd.call79 (ops1 (hP102 7 49 rfl rfl)) (strconv_Itoa_c (x_:=s.b) s123 hx99) ?_
 rintro _ w126 ⟨rfl,Z⟩
 have Z:=k125 Z c0
 exact L_nil ⟨rfl,_,_,rfl,Le.refl _,fun _ _=>rfl,Z⟩
 exact opsS_nil
 obtain ⟨hx101_l,hx101_e⟩:=cat_some hx101
 refine L_sadd (s:=x93) (s':=x99) rfl (hT102 5 47 rfl rfl) (hT102 8 50 rfl rfl) hx101_l ?_
 rw [← hx101_e]
 refine aV (.string x101) rfl (nn (W_ret (retG1 (v1:=.string x101) Tryd.results44 rfl ?_)))
 obtain rfl:=so hF
 exact ⟨rfl,(Star.down (Star.keepN 0 Z) (Le.trans hE19 hE102) c0)⟩
 have hF:=(ite_f hc84).symm.trans hF
 refine W_skip (W_seq ?_)
 obtain ⟨x132,hx132,hF⟩:=bind_some hF
 obtain ⟨x134,hx134,hF⟩:=bind_some hF
 refine W_region (mF sf3 rfl (fA 1 fa_75_1 sf1 rfl (ldB 0 Z Tryd.isAgg3 rfl rfl rfl ?_)))
 obtain ⟨H135b,l136,s137,z138,k139⟩:=Z.borrow
 refine L_call rfl Tryd.call79 (ops1 rfl) (strconv_Itoa_c (x_:=s.a) s137 hx132) ?_
 rintro _ w140 ⟨rfl,Z⟩
 have Z:=k139 Z c0
 obtain ⟨hx134_l,hx134_e⟩:=cat_some hx134
 refine L_sadd (s:=x18) (s':=x132) rfl rfl rfl hx134_l ?_
 rw [← hx134_e]
 refine aV (.string x134) rfl (nn (W_ret (retG1 (v1:=.string x134) Tryd.results44 rfl ?_)))
 obtain rfl:=so hF
 exact ⟨rfl,(Star.down (Star.keepN 0 Z) hE19 c0)⟩
theorem strings_Builder_String_c {B g : Nat} {e : ByteArray} {H : FH} {w : World} (hB : ∀ k,B≤k→H.m k = none) (Z : Star H w [bld 79 5 B g e]) :
 C Tryd.prog 45 #[Pt g] w fun v w'=>v = .string e∧Star H w' [bld 79 5 B g e]:=by
 obtain ⟨hb,hB2⟩:=bld_is Z
 refine Calls.mono (Tryd.Builder_String_any_f B g _ w hb hB2) ?_
 rintro e w' ⟨rfl,h1,h2⟩
 exact ⟨_,rfl,rfl,bld_star hB Z h2 h1⟩
theorem i_FormatProof_c {steps : List Step} {v0 : Value} {H : FH} {w : World} (Z : Star H w []) (h0 : (rS 75 (rStep 126)).rel H [v0] steps) {r : ByteArray} (hF : i_FormatProof steps = some r) :
 C Tryd.prog 17 #[v0] w fun v w'=>v = .string r∧Star H w' []:=by
 unfold i_FormatProof at hF
 refine C_enter Tryd.func17 rfl Tryd.ntmps17 rfl (sq (aV (.string (⟨#[]⟩ : ByteArray)) rfl (nq (sq (mV v0 rfl (L_len rfl Tryd.underlying41 rfl (slice_len h0) (L_gtr rfl rfl rfl (nn (W_cond (b:=decide ((steps.length : Int) > 1000)) rfl (fun hc1=>?_) (fun hc1=>?_))))))))))
 have hF:=(ite_t hc1).symm.trans hF
 refine sq (aV (.string (⟨#[]⟩ : ByteArray)) rfl (nn (W_ret (retG1 (v1:=.string (⟨#[]⟩ : ByteArray)) Tryd.results17 rfl ?_))))
 obtain rfl:=so hF
 exact ⟨rfl,Z⟩
 have hF:=(ite_f hc1).symm.trans hF
 refine W_skip (sq (L_alB (eb:=5) rfl Tryd.zeroValue79 rfl Z (fun g6 B8 w7 hB9 Z=>nq (sq (mV v0 rfl (L_len rfl Tryd.underlying41 rfl (slice_len h0) (mI rfl (nn ?_))))))))
 have hlen12 : List.length steps≤9223372036854775807:=len_le (slice_len h0)
 obtain ⟨j12,hL12,hF⟩:=bind_some hF
 obtain ⟨R12,hR12⟩:=exR fun f w_=>∃ ag6_11 : ByteArray,j12 = .nx ag6_11∧f 3 = Pt g6∧Star H w_ ([bld 79 5 B8 g6 ag6_11])
 refine W_join R12 ?_ ?_
 refine W_block ?_
 obtain ⟨I12,hI12⟩:=exI fun n f w_=>∃ i_10 : Nat,∃ suf12 : List Step,∃ ag6_11 : ByteArray,n = suf12.length∧List.drop i_10 steps = suf12∧i_10 + suf12.length = steps.length∧rangeL i_FormatProof_b1 suf12 i_10 ag6_11 = some j12∧f 3 = Pt g6∧f 9 = v0∧f 10 = I (steps.length : Int)∧f 11 = I i_10∧Star H w_ ([bld 79 5 B8 g6 ag6_11])
 refine W_loop I12 (n:=steps.length) ?_ ?_
 exact ij hI12 ⟨0,steps,ByteArray.empty,rfl,rfl,Nat.zero_add _,hL12,rfl,rfl,rfl,rfl,Z⟩
 intro n12 f w_ hI
 obtain ⟨i_10,suf12,ag6_11,rfl,hd12,hl12,hL12,sf3,sf9,sf10,sf11,Z⟩:=ik hI12 hI
 refine sq (L_lss rfl sf11 sf10 (nq (W_cond (b:=decide ((i_10 : Int) < (steps.length : Int))) rfl (fun hc13=>?_) (fun hc13=>?_))))
 have hlt12:=of_decide_eq_true hc13
 rcases suf12 with _ | ⟨x_12,rest12⟩
 exact absurd hlt12 (by simp at hl12; omega)
 obtain ⟨o12,hB12,hL12⟩:=range_cons hL12
 rw [i_FormatProof_b1] at hB12
 have hix12:=drop_idx hd12
 refine W_skip (W_seq (W_block (sq (L_ix (r:=(rStep 126)) rfl Tryd.underlying41 Tryd.sizeOf75 sf9 h0 sf11 hix12 (fun g21 o22 cs_g21 hrk_hat23 hat23=>?_)))))
 obtain ⟨u24_0,rfl,hu24_0⟩:=rStep_iff.1 hrk_hat23
 refine L_lda (cs:=[I x_12.kind,I x_12.a,I x_12.b,u24_0,I x_12.given.bound]) rfl Tryd.isAgg75 Tryd.sizeOf75 rfl (At.sub (AtH.at hat23 Z.sub) 0 5) rfl (L_al (cs:=#[I 0,I 0,I 0,S0,I 0]) rfl Tryd.zeroValue75 rfl Z (fun g25 w26 Z=>L_staB (vs:=#[I x_12.kind,I x_12.a,I x_12.b,u24_0,I x_12.given.bound]) (cs2:=#[I x_12.kind,I x_12.a,I x_12.b,u24_0,I x_12.given.bound]) 0 rfl Tryd.sizeOf75 rfl rfl rfl (ones_cons rfl (ones_cons rfl (ones_cons rfl (ones_cons (one_len (slice_len hu24_0)) (ones_cons rfl ones_nil))))) Z rfl (by show 0 + 5≤5; decide) rfl (fun w27 Z=>nq (W_seq ?_))))
 obtain ⟨x33,hx33,hB12⟩:=bind_some hB12
 refine W_region (L_lda (cs:=[I x_12.kind,I x_12.a,I x_12.b,u24_0,I x_12.given.bound]) rfl Tryd.isAgg75 Tryd.sizeOf75 rfl (At.sub0 (Blk.at (Star.blkAt 0 Z rfl)) 0 5) rfl ?_)
 obtain ⟨H35b,l36,s37,z38,k39⟩:=Z.borrow
 refine L_call rfl Tryd.call42 (ops1 rfl) (i_Step_writable_c (s:=x_12) s37 (RP.mono _ hu24_0 l36) hx33) ?_
 rintro _ w40 ⟨rfl,Z⟩
 have Z:=k39 Z c0
 refine L_not_ rfl rfl (nn (W_cond (b:=(!x33)) rfl (fun hc41=>?_) (fun hc41=>?_)))
 have hB12:=(ite_t hc41).symm.trans hB12
 refine sq (aV (.string (⟨#[]⟩ : ByteArray)) rfl (nn (W_ret (retG1 (v1:=.string (⟨#[]⟩ : ByteArray)) Tryd.results17 rfl ?_))))
 obtain rfl:=so hB12
 obtain rfl:=so hL12
 obtain rfl:=so hF
 exact ⟨rfl,(Star.keepN 0 Z)⟩
 have hB12:=(ite_f hc41).symm.trans hB12
 refine W_skip ?_
 obtain ⟨x47,hx47,hB12⟩:=bind_some hB12
 obtain ⟨x49,hx49,hB12⟩:=bind_some hB12
 obtain ⟨x51,hx51,hB12⟩:=bind_some hB12
 refine W_region (L_lda (cs:=[I x_12.kind,I x_12.a,I x_12.b,u24_0,I x_12.given.bound]) rfl Tryd.isAgg75 Tryd.sizeOf75 rfl (At.sub0 (Blk.at (Star.blkAt 0 Z rfl)) 0 5) rfl ?_)
 obtain ⟨H52b,l53,s54,z55,k56⟩:=Z.borrow
 refine L_call rfl Tryd.call44 (ops1 rfl) (i_Step_text_c (s:=x_12) s54 (RP.mono _ hu24_0 l53) hx47) ?_
 rintro _ w57 ⟨rfl,Z⟩
 have Z:=k56 Z c0
 obtain ⟨hx49_l,hx49_e⟩:=cat_some hx49
 refine L_sadd (s:=x47) (s':=(⟨#[10]⟩ : ByteArray)) rfl rfl rfl hx49_l ?_
 rw [← hx49_e]
 have Z:=Star.drop 0 Z rfl
 refine L_call rfl Tryd.call43 (ops2 sf3 rfl) (strings_Builder_WriteString_c hB9 Z hx51) ?_
 rintro _ w58 ⟨rfl,Z⟩
 refine nn (W_region (L_add rfl sf11 rfl (mI rfl (nn ?_))))
 obtain rfl:=so hB12
 show ∃ m,m < _∧I12 m _ _
 refine ⟨rest12.length,by simp,?_⟩
 exact ij hI12 ⟨i_10 + 1,rest12,x51,rfl,drop_next hd12,by simp at hl12; omega,hL12,sf3,sf9,sf10,(Eq.trans rfl (congrArg (Value.int .i64) (i64_succ (n:=steps.length) (by simp at hl12; omega) hlen12))),Z⟩
 rcases suf12 with _ | ⟨_,_⟩
 obtain rfl:=range_nil hL12
 refine W_exit (rj hR12 ⟨ag6_11,rfl,sf3,Z⟩)
 exact absurd (of_decide_eq_false hc13) (by simp at hl12; omega)
 intro f w_ hR
 obtain ⟨ag6_11,rfl,sf3,Z⟩:=rk hR12 hR
 refine sq (L_call rfl Tryd.call45 (ops1 sf3) (strings_Builder_String_c hB9 Z) ?_)
 rintro _ w60 ⟨rfl,Z⟩
 refine aV (.string ag6_11) rfl (nn (W_ret (retG1 (v1:=.string ag6_11) Tryd.results17 rfl ?_)))
 obtain rfl:=so hF
 exact ⟨rfl,(Star.keepN 0 Z)⟩
theorem l_eqTerm_c {a : Term} {b : Term} {H : FH} {w : World} (Z : Star H w []) {r : Bool} (hF : l_eqTerm a b = some r) :
 C Tryd.prog 110 #[.agg #[I a.coef,I a.lit],.agg #[I b.coef,I b.lit]] w fun v w'=>v = Bo r∧Star H w' []:=by
 unfold l_eqTerm at hF
 refine C_enter Tryd.func110 rfl Tryd.ntmps110 rfl (sq (L_box (v:=.agg #[I a.coef,I a.lit]) (cs:=#[I a.coef,I a.lit]) rfl rfl rfl Z (fun g5 w6 Z=>L_box (v:=.agg #[I b.coef,I b.lit]) (cs:=#[I b.coef,I b.lit]) rfl rfl rfl Z (fun g7 w8 Z=>aB rfl (nq (sq (fA 0 fa_126_0 rfl rfl (ldB 1 Z Tryd.isAgg3 rfl rfl rfl (fA 0 fa_126_0 rfl rfl (ldB 0 Z Tryd.isAgg3 rfl rfl rfl (L_neq rfl rfl rfl (nn (W_cond (b:=(a.coef != b.coef)) rfl (fun hc9=>?_) (fun hc9=>?_))))))))))))))
 have hF:=(ite_t hc9).symm.trans hF
 refine sq (aB rfl (nn (W_ret (retG1 (v1:=Bo false) Tryd.results110 rfl ?_))))
 obtain rfl:=so hF
 exact ⟨rfl,(Star.keepN 0 Z)⟩
 have hF:=(ite_f hc9).symm.trans hF
 refine W_skip (W_seq (sq (fA 1 fa_126_1 rfl rfl (ldB 1 Z Tryd.isAgg3 rfl rfl rfl (fA 1 fa_126_1 rfl rfl (ldB 0 Z Tryd.isAgg3 rfl rfl rfl (L_neq rfl rfl rfl (nn (W_cond (b:=(a.lit != b.lit)) rfl (fun hc10=>?_) (fun hc10=>?_))))))))))
 have hF:=(ite_t hc10).symm.trans hF
 refine sq (aB rfl (nn (W_ret (retG1 (v1:=Bo false) Tryd.results110 rfl ?_))))
 obtain rfl:=so hF
 exact ⟨rfl,(Star.keepN 0 Z)⟩
 have hF:=(ite_f hc10).symm.trans hF
 refine W_skip (sq (aB rfl (nn (W_ret (retG1 (v1:=Bo true) Tryd.results110 rfl ?_)))))
 obtain rfl:=so hF
 exact ⟨rfl,(Star.keepN 0 Z)⟩
theorem l_eqTermS_c {a : List Term} {b : List Term} {v0 : Value} {v1 : Value} {H : FH} {w : World} (Z : Star H w []) (h0 : (rS 126 rTerm).rel H [v0] a) (h1 : (rS 126 rTerm).rel H [v1] b) {r : Bool} (hF : l_eqTermS a b = some r) :
 C Tryd.prog 103 #[v0,v1] w fun v w'=>v = Bo r∧Star H w' []:=by
 unfold l_eqTermS at hF
 refine C_enter Tryd.func103 rfl Tryd.ntmps103 rfl (sq (aB rfl (nq (sq (mV v0 rfl (L_len rfl Tryd.underlying71 rfl (slice_len h0) (mV v1 rfl (L_len rfl Tryd.underlying71 rfl (slice_len h1) (L_neq rfl rfl rfl (nn (W_cond (b:=((a.length : Int) != (b.length : Int))) rfl (fun hc1=>?_) (fun hc1=>?_))))))))))))
 have hF:=(ite_t hc1).symm.trans hF
 refine sq (aB rfl (nn (W_ret (retG1 (v1:=Bo false) Tryd.results103 rfl ?_))))
 obtain rfl:=so hF
 exact ⟨rfl,Z⟩
 have hF:=(ite_f hc1).symm.trans hF
 refine W_skip (W_seq (sq (aI rfl (nn ?_))))
 have hlen5 : List.length a≤9223372036854775807:=len_le (slice_len h0)
 obtain ⟨j5,hL5,hF⟩:=bind_some hF
 obtain ⟨R5,hR5⟩:=exR fun f w_=>∃ H3 : FH,j5 = .nx ()∧Le H H3∧Star H3 w_ ([])
 refine W_join R5 ?_ ?_
 refine W_block ?_
 obtain ⟨I5,hI5⟩:=exI fun n f w_=>∃ i_2 : Nat,∃ suf5 : List Term,∃ H3 : FH,n = suf5.length∧List.drop i_2 a = suf5∧i_2 + suf5.length = a.length∧rangeL (l_eqTermS_b1 b) suf5 i_2 () = some j5∧Le H H3∧f 0 = v0∧f 1 = v1∧f 5 = I i_2∧Star H3 w_ ([])
 refine W_loop I5 (n:=a.length) ?_ ?_
 exact ij hI5 ⟨0,a,H,rfl,rfl,Nat.zero_add _,hL5,(Le.refl _),rfl,rfl,rfl,Z⟩
 intro n5 f w_ hI
 obtain ⟨i_2,suf5,H3,rfl,hd5,hl5,hL5,l4,sf0,sf1,sf5,Z⟩:=ik hI5 hI
 refine W_seq (sq (mF sf5 rfl (mF sf0 rfl (L_len rfl Tryd.underlying71 rfl (slice_len (RP.mono _ h0 l4)) (L_lss rfl rfl rfl (nn (W_cond (b:=decide ((i_2 : Int) < (a.length : Int))) rfl (fun hc6=>?_) (fun hc6=>?_))))))))
 have hlt5:=of_decide_eq_true hc6
 rcases suf5 with _ | ⟨x_5,rest5⟩
 exact absurd hlt5 (by simp at hl5; omega)
 obtain ⟨o5,hB5,hL5⟩:=range_cons hL5
 rw [l_eqTermS_b1] at hB5
 have hix5:=drop_idx hd5
 refine W_skip (W_seq (W_block (W_seq ?_)))
 obtain ⟨x11,hx11,hB5⟩:=bind_some hB5
 obtain ⟨x21,hx21,hB5⟩:=bind_some hB5
 refine W_drawS 8 [isV (v0),isV (I i_2),isEl rTerm x_5 0,isV (.agg #[I x_5.coef,I x_5.lit]),isV (v1),isV (I i_2),isEl rTerm x11 0,isV (.agg #[I x11.coef,I x11.lit])] [] [] ([]) [([],[]),([],[]),([],[]),([],[]),([],[]),([],[]),([],[]),([],[])] (S:=[]) Tryd_mix (by kernel_rfl) rfl (by kernel_rfl) (amF_cons (mono_V _) (amF_cons (mono_V _) (amF_cons (mono_el _ _ _) (amF_cons (mono_V _) (amF_cons (mono_V _) (amF_cons (mono_V _) (amF_cons (mono_el _ _ _) (amF_cons (mono_V _) amF_nil)))))))) Z ?_ (fun f w_ H23 hS23 hE23 hT23 Z=>?_)
 refine opsS_cons (fun f w_ _ _ s _ _ Z=>mF ((s 0 rfl).trans sf0) rfl (nO rfl rfl Z)) (opsS_cons (fun f w_ _ _ s _ _ Z=>mF ((s 5 rfl).trans sf5) rfl (nO rfl rfl Z)) (opsS_cons ?_ ?_))
 intro f w_ H23 X23 hS23 hE23 hP23 Z
 refine L_ix (r:=rTerm) rfl Tryd.underlying71 Tryd.sizeOf126 (hP23 0 17 rfl rfl) (RP.mono _ h0 (Le.trans l4 hE23)) (hP23 1 18 rfl rfl) hix5 (fun g32 o33 cs_g32 hrk_hat34 hat34=>?_)
 obtain rfl:=rTerm_iff.1 hrk_hat34
 exact L_nil ⟨rfl,_,_,rfl,Le.refl _,fun _ _=>⟨_,_,_,rfl,hrk_hat34,hat34⟩,Z⟩
 refine opsS_cons ?_ ?_
 intro f w_ H23 X23 hS23 hE23 hP23 Z
 obtain ⟨g36,o36,cs36,hv36,hrk_hat36,hat36⟩:=(hP23 2 19 rfl rfl)
 obtain rfl:=rTerm_iff.1 hrk_hat36
 refine L_lda (cs:=[I x_5.coef,I x_5.lit]) rfl Tryd.isAgg126 Tryd.sizeOf126 hv36 (At.sub (AtH.at hat36 Z.sub) 0 2) rfl (L_nil ⟨rfl,_,_,rfl,Le.refl _,fun _ _=>rfl,Z⟩)
 refine opsS_cons (fun f w_ _ _ s _ _ Z=>mF ((s 1 rfl).trans sf1) rfl (nO rfl rfl Z)) (opsS_cons (fun f w_ _ _ s _ _ Z=>mF ((s 5 rfl).trans sf5) rfl (nO rfl rfl Z)) (opsS_cons ?_ ?_))
 intro f w_ H23 X23 hS23 hE23 hP23 Z
 refine L_ix (r:=rTerm) rfl Tryd.underlying71 Tryd.sizeOf126 (hP23 4 21 rfl rfl) (RP.mono _ h1 (Le.trans l4 hE23)) (hP23 5 22 rfl rfl) hx11 (fun g38 o39 cs_g38 hrk_hat40 hat40=>?_)
 obtain rfl:=rTerm_iff.1 hrk_hat40
 exact L_nil ⟨rfl,_,_,rfl,Le.refl _,fun _ _=>⟨_,_,_,rfl,hrk_hat40,hat40⟩,Z⟩
 refine opsS_cons ?_ ?_
 intro f w_ H23 X23 hS23 hE23 hP23 Z
 obtain ⟨g42,o42,cs42,hv42,hrk_hat42,hat42⟩:=(hP23 6 23 rfl rfl)
 obtain rfl:=rTerm_iff.1 hrk_hat42
 refine L_lda (cs:=[I x11.coef,I x11.lit]) rfl Tryd.isAgg126 Tryd.sizeOf126 hv42 (At.sub (AtH.at hat42 Z.sub) 0 2) rfl (L_nil ⟨rfl,_,_,rfl,Le.refl _,fun _ _=>rfl,Z⟩)
 exact opsS_nil
 obtain ⟨H44b,l45,s46,z47,k48⟩:=Z.borrow
 refine L_call rfl Tryd.call110 (ops2 (hT23 3 20 rfl rfl) (hT23 7 24 rfl rfl)) (l_eqTerm_c (a:=x_5) (b:=x11) s46 hx21) ?_
 rintro _ w49 ⟨rfl,Z⟩
 have Z:=k48 Z c0
 refine L_not_ rfl rfl (nn (W_cond (b:=(!x21)) rfl (fun hc50=>?_) (fun hc50=>?_)))
 have hB5:=(ite_t hc50).symm.trans hB5
 refine sq (aB rfl (nn (W_ret (retG1 (v1:=Bo false) Tryd.results103 rfl ?_))))
 obtain rfl:=so hB5
 obtain rfl:=so hL5
 obtain rfl:=so hF
 exact ⟨rfl,(Star.down Z (Le.trans l4 hE23) c0)⟩
 have hB5:=(ite_f hc50).symm.trans hB5
 refine W_skip (W_region (mF ((hS23 5 rfl).trans sf5) rfl (L_add rfl rfl rfl (aI rfl (nn ?_)))))
 obtain rfl:=so hB5
 show ∃ m,m < _∧I5 m _ _
 refine ⟨rest5.length,by simp,?_⟩
 exact ij hI5 ⟨i_2 + 1,rest5,H23,rfl,drop_next hd5,by simp at hl5; omega,hL5,(Le.trans l4 hE23),((hS23 0 rfl).trans sf0),((hS23 1 rfl).trans sf1),(Eq.trans rfl (congrArg (Value.int .i64) (i64_succ (n:=a.length) (by simp at hl5; omega) hlen5))),Z⟩
 rcases suf5 with _ | ⟨_,_⟩
 obtain rfl:=range_nil hL5
 refine W_exit (rj hR5 ⟨H3,rfl,l4,Z⟩)
 exact absurd (of_decide_eq_false hc6) (by simp at hl5; omega)
 intro f w_ hR
 obtain ⟨H3,rfl,l4,Z⟩:=rk hR5 hR
 refine sq (aB rfl (nn (W_ret (retG1 (v1:=Bo true) Tryd.results103 rfl ?_))))
 obtain rfl:=so hF
 exact ⟨rfl,(Star.down Z l4 c0)⟩
theorem l_eqConstraint_c {a : Con} {b : Con} {v0_0 : Value} {v1_0 : Value} {H : FH} {w : World} (Z : Star H w []) (h0_0 : (rS 126 rTerm).rel H [v0_0] a.terms) (h1_0 : (rS 126 rTerm).rel H [v1_0] b.terms) {r : Bool} (hF : l_eqConstraint a b = some r) :
 C Tryd.prog 80 #[.agg #[v0_0,I a.bound],.agg #[v1_0,I b.bound]] w fun v w'=>v = Bo r∧Star H w' []:=by
 unfold l_eqConstraint at hF
 refine C_enter Tryd.func80 rfl Tryd.ntmps80 rfl (sq (L_box (v:=.agg #[v0_0,I a.bound]) (cs:=#[v0_0,I a.bound]) rfl rfl rfl Z (fun g5 w6 Z=>L_box (v:=.agg #[v1_0,I b.bound]) (cs:=#[v1_0,I b.bound]) rfl rfl rfl Z (fun g7 w8 Z=>aB rfl (nq (W_seq ?_))))))
 obtain ⟨x14,hx14,hF⟩:=bind_some hF
 refine W_region (fA 0 fa_73_0 rfl rfl (ldB 1 Z Tryd.isAgg71 rfl rfl rfl (fA 0 fa_73_0 rfl rfl (ldB 0 Z Tryd.isAgg71 rfl rfl rfl ?_))))
 obtain ⟨H16b,l17,s18,z19,k20⟩:=Z.borrow
 refine L_call rfl Tryd.call103 (ops2 rfl rfl) (l_eqTermS_c (a:=a.terms) (b:=b.terms) s18 (RP.mono _ h0_0 l17) (RP.mono _ h1_0 l17) hx14) ?_
 rintro _ w21 ⟨rfl,Z⟩
 have Z:=k20 Z c0
 refine L_not_ rfl rfl (nn (W_cond (b:=(!x14)) rfl (fun hc22=>?_) (fun hc22=>?_)))
 have hF:=(ite_t hc22).symm.trans hF
 refine sq (aB rfl (nn (W_ret (retG1 (v1:=Bo false) Tryd.results80 rfl ?_))))
 obtain rfl:=so hF
 exact ⟨rfl,(Star.keepN 0 Z)⟩
 have hF:=(ite_f hc22).symm.trans hF
 refine W_skip (W_seq (sq (fA 1 fa_73_1 rfl rfl (ldB 1 Z Tryd.isAgg3 rfl rfl rfl (fA 1 fa_73_1 rfl rfl (ldB 0 Z Tryd.isAgg3 rfl rfl rfl (L_neq rfl rfl rfl (nn (W_cond (b:=(a.bound != b.bound)) rfl (fun hc23=>?_) (fun hc23=>?_))))))))))
 have hF:=(ite_t hc23).symm.trans hF
 refine sq (aB rfl (nn (W_ret (retG1 (v1:=Bo false) Tryd.results80 rfl ?_))))
 obtain rfl:=so hF
 exact ⟨rfl,(Star.keepN 0 Z)⟩
 have hF:=(ite_f hc23).symm.trans hF
 refine W_skip (sq (aB rfl (nn (W_ret (retG1 (v1:=Bo true) Tryd.results80 rfl ?_)))))
 obtain rfl:=so hF
 exact ⟨rfl,(Star.keepN 0 Z)⟩
theorem l_eqStep_c {a : Step} {b : Step} {v0_3 : Value} {v1_3 : Value} {H : FH} {w : World} (Z : Star H w []) (h0_3 : (rS 126 rTerm).rel H [v0_3] a.given.terms) (h1_3 : (rS 126 rTerm).rel H [v1_3] b.given.terms) {r : Bool} (hF : l_eqStep a b = some r) :
 C Tryd.prog 46 #[.agg #[I a.kind,I a.a,I a.b,v0_3,I a.given.bound],.agg #[I b.kind,I b.a,I b.b,v1_3,I b.given.bound]] w fun v w'=>v = Bo r∧Star H w' []:=by
 unfold l_eqStep at hF
 refine C_enter Tryd.func46 rfl Tryd.ntmps46 rfl (sq (L_box (v:=.agg #[I a.kind,I a.a,I a.b,v0_3,I a.given.bound]) (cs:=#[I a.kind,I a.a,I a.b,v0_3,I a.given.bound]) rfl rfl rfl Z (fun g5 w6 Z=>L_box (v:=.agg #[I b.kind,I b.a,I b.b,v1_3,I b.given.bound]) (cs:=#[I b.kind,I b.a,I b.b,v1_3,I b.given.bound]) rfl rfl rfl Z (fun g7 w8 Z=>aB rfl (nq (sq (fA 0 fa_75_0 rfl rfl (ldB 1 Z Tryd.isAgg3 rfl rfl rfl (fA 0 fa_75_0 rfl rfl (ldB 0 Z Tryd.isAgg3 rfl rfl rfl (L_neq rfl rfl rfl (nn (W_cond (b:=(a.kind != b.kind)) rfl (fun hc9=>?_) (fun hc9=>?_))))))))))))))
 have hF:=(ite_t hc9).symm.trans hF
 refine sq (aB rfl (nn (W_ret (retG1 (v1:=Bo false) Tryd.results46 rfl ?_))))
 obtain rfl:=so hF
 exact ⟨rfl,(Star.keepN 0 Z)⟩
 have hF:=(ite_f hc9).symm.trans hF
 refine W_skip (W_seq (sq (fA 1 fa_75_1 rfl rfl (ldB 1 Z Tryd.isAgg3 rfl rfl rfl (fA 1 fa_75_1 rfl rfl (ldB 0 Z Tryd.isAgg3 rfl rfl rfl (L_neq rfl rfl rfl (nn (W_cond (b:=(a.a != b.a)) rfl (fun hc10=>?_) (fun hc10=>?_))))))))))
 have hF:=(ite_t hc10).symm.trans hF
 refine sq (aB rfl (nn (W_ret (retG1 (v1:=Bo false) Tryd.results46 rfl ?_))))
 obtain rfl:=so hF
 exact ⟨rfl,(Star.keepN 0 Z)⟩
 have hF:=(ite_f hc10).symm.trans hF
 refine W_skip (W_seq (sq (fA 2 fa_75_2 rfl rfl (ldB 1 Z Tryd.isAgg3 rfl rfl rfl (fA 2 fa_75_2 rfl rfl (ldB 0 Z Tryd.isAgg3 rfl rfl rfl (L_neq rfl rfl rfl (nn (W_cond (b:=(a.b != b.b)) rfl (fun hc11=>?_) (fun hc11=>?_))))))))))
 have hF:=(ite_t hc11).symm.trans hF
 refine sq (aB rfl (nn (W_ret (retG1 (v1:=Bo false) Tryd.results46 rfl ?_))))
 obtain rfl:=so hF
 exact ⟨rfl,(Star.keepN 0 Z)⟩
 have hF:=(ite_f hc11).symm.trans hF
 refine W_skip (W_seq (W_seq ?_))
 obtain ⟨x17,hx17,hF⟩:=bind_some hF
 refine W_region (fA 3 fa_75_3 rfl rfl (L_lda (cs:=[v0_3,I a.given.bound]) rfl Tryd.isAgg73 Tryd.sizeOf73 rfl (At.sub0 (Blk.at (Star.blkAt 1 Z rfl)) 3 2) rfl (fA 3 fa_75_3 rfl rfl (L_lda (cs:=[v1_3,I b.given.bound]) rfl Tryd.isAgg73 Tryd.sizeOf73 rfl (At.sub0 (Blk.at (Star.blkAt 0 Z rfl)) 3 2) rfl ?_))))
 obtain ⟨H19b,l20,s21,z22,k23⟩:=Z.borrow
 refine L_call rfl Tryd.call80 (ops2 rfl rfl) (l_eqConstraint_c (a:=a.given) (b:=b.given) s21 (RP.mono _ h0_3 l20) (RP.mono _ h1_3 l20) hx17) ?_
 rintro _ w24 ⟨rfl,Z⟩
 have Z:=k23 Z c0
 refine L_not_ rfl rfl (nn (W_cond (b:=(!x17)) rfl (fun hc25=>?_) (fun hc25=>?_)))
 have hF:=(ite_t hc25).symm.trans hF
 refine sq (aB rfl (nn (W_ret (retG1 (v1:=Bo false) Tryd.results46 rfl ?_))))
 obtain rfl:=so hF
 exact ⟨rfl,(Star.keepN 0 Z)⟩
 have hF:=(ite_f hc25).symm.trans hF
 refine W_skip (sq (aB rfl (nn (W_ret (retG1 (v1:=Bo true) Tryd.results46 rfl ?_)))))
 obtain rfl:=so hF
 exact ⟨rfl,(Star.keepN 0 Z)⟩
theorem l_eqStepS_c {a : List Step} {b : List Step} {v0 : Value} {v1 : Value} {H : FH} {w : World} (Z : Star H w []) (h0 : (rS 75 (rStep 126)).rel H [v0] a) (h1 : (rS 75 (rStep 126)).rel H [v1] b) {r : Bool} (hF : l_eqStepS a b = some r) :
 C Tryd.prog 18 #[v0,v1] w fun v w'=>v = Bo r∧Star H w' []:=by
 unfold l_eqStepS at hF
 refine C_enter Tryd.func18 rfl Tryd.ntmps18 rfl (sq (aB rfl (nq (sq (mV v0 rfl (L_len rfl Tryd.underlying41 rfl (slice_len h0) (mV v1 rfl (L_len rfl Tryd.underlying41 rfl (slice_len h1) (L_neq rfl rfl rfl (nn (W_cond (b:=((a.length : Int) != (b.length : Int))) rfl (fun hc1=>?_) (fun hc1=>?_))))))))))))
 have hF:=(ite_t hc1).symm.trans hF
 refine sq (aB rfl (nn (W_ret (retG1 (v1:=Bo false) Tryd.results18 rfl ?_))))
 obtain rfl:=so hF
 exact ⟨rfl,Z⟩
 have hF:=(ite_f hc1).symm.trans hF
 refine W_skip (W_seq (sq (aI rfl (nn ?_))))
 have hlen5 : List.length a≤9223372036854775807:=len_le (slice_len h0)
 obtain ⟨j5,hL5,hF⟩:=bind_some hF
 obtain ⟨R5,hR5⟩:=exR fun f w_=>∃ H3 : FH,j5 = .nx ()∧Le H H3∧Star H3 w_ ([])
 refine W_join R5 ?_ ?_
 refine W_block ?_
 obtain ⟨I5,hI5⟩:=exI fun n f w_=>∃ i_2 : Nat,∃ suf5 : List Step,∃ H3 : FH,n = suf5.length∧List.drop i_2 a = suf5∧i_2 + suf5.length = a.length∧rangeL (l_eqStepS_b1 b) suf5 i_2 () = some j5∧Le H H3∧f 0 = v0∧f 1 = v1∧f 5 = I i_2∧Star H3 w_ ([])
 refine W_loop I5 (n:=a.length) ?_ ?_
 exact ij hI5 ⟨0,a,H,rfl,rfl,Nat.zero_add _,hL5,(Le.refl _),rfl,rfl,rfl,Z⟩
 intro n5 f w_ hI
 obtain ⟨i_2,suf5,H3,rfl,hd5,hl5,hL5,l4,sf0,sf1,sf5,Z⟩:=ik hI5 hI
 refine W_seq (sq (mF sf5 rfl (mF sf0 rfl (L_len rfl Tryd.underlying41 rfl (slice_len (RP.mono _ h0 l4)) (L_lss rfl rfl rfl (nn (W_cond (b:=decide ((i_2 : Int) < (a.length : Int))) rfl (fun hc6=>?_) (fun hc6=>?_))))))))
 have hlt5:=of_decide_eq_true hc6
 rcases suf5 with _ | ⟨x_5,rest5⟩
 exact absurd hlt5 (by simp at hl5; omega)
 obtain ⟨o5,hB5,hL5⟩:=range_cons hL5
 rw [l_eqStepS_b1] at hB5
 have hix5:=drop_idx hd5
 refine W_skip (W_seq (W_block (W_seq ?_)))
 obtain ⟨x11,hx11,hB5⟩:=bind_some hB5
 obtain ⟨x21,hx21,hB5⟩:=bind_some hB5
 refine W_drawS 8 [isV (v0),isV (I i_2),isEl (rStep 126) x_5 0,exD (isData (rS 126 rTerm) x_5.given.terms) fun u_3=>isV (.agg #[I x_5.kind,I x_5.a,I x_5.b,u_3,I x_5.given.bound]),isV (v1),isV (I i_2),isEl (rStep 126) x11 0,exD (isData (rS 126 rTerm) x11.given.terms) fun u_3=>isV (.agg #[I x11.kind,I x11.a,I x11.b,u_3,I x11.given.bound])] [] [] ([]) [([],[]),([],[]),([],[]),([],[]),([],[]),([],[]),([],[]),([],[])] (S:=[]) Tryd_mix (by kernel_rfl) rfl (by kernel_rfl) (amF_cons (mono_V _) (amF_cons (mono_V _) (amF_cons (mono_el _ _ _) (amF_cons (mono_exD (mono_data _ _) fun _=>mono_V _) (amF_cons (mono_V _) (amF_cons (mono_V _) (amF_cons (mono_el _ _ _) (amF_cons (mono_exD (mono_data _ _) fun _=>mono_V _) amF_nil)))))))) Z ?_ (fun f w_ H23 hS23 hE23 hT23 Z=>?_)
 refine opsS_cons (fun f w_ _ _ s _ _ Z=>mF ((s 0 rfl).trans sf0) rfl (nO rfl rfl Z)) (opsS_cons (fun f w_ _ _ s _ _ Z=>mF ((s 5 rfl).trans sf5) rfl (nO rfl rfl Z)) (opsS_cons ?_ ?_))
 intro f w_ H23 X23 hS23 hE23 hP23 Z
 refine L_ix (r:=(rStep 126)) rfl Tryd.underlying41 Tryd.sizeOf75 (hP23 0 17 rfl rfl) (RP.mono _ h0 (Le.trans l4 hE23)) (hP23 1 18 rfl rfl) hix5 (fun g32 o33 cs_g32 hrk_hat34 hat34=>?_)
 obtain ⟨u35_0,rfl,hu35_0⟩:=rStep_iff.1 hrk_hat34
 exact L_nil ⟨rfl,_,_,rfl,Le.refl _,fun _ _=>⟨_,_,_,rfl,hrk_hat34,hat34⟩,Z⟩
 refine opsS_cons ?_ ?_
 intro f w_ H23 X23 hS23 hE23 hP23 Z
 obtain ⟨g36,o36,cs36,hv36,hrk_hat36,hat36⟩:=(hP23 2 19 rfl rfl)
 obtain ⟨u37_0,rfl,hu37_0⟩:=rStep_iff.1 hrk_hat36
 refine L_lda (cs:=[I x_5.kind,I x_5.a,I x_5.b,u37_0,I x_5.given.bound]) rfl Tryd.isAgg75 Tryd.sizeOf75 hv36 (At.sub (AtH.at hat36 Z.sub) 0 5) rfl (L_nil ⟨rfl,_,_,rfl,Le.refl _,fun _ _=>⟨_,hu37_0,rfl⟩,Z⟩)
 refine opsS_cons (fun f w_ _ _ s _ _ Z=>mF ((s 1 rfl).trans sf1) rfl (nO rfl rfl Z)) (opsS_cons (fun f w_ _ _ s _ _ Z=>mF ((s 5 rfl).trans sf5) rfl (nO rfl rfl Z)) (opsS_cons ?_ ?_))
 intro f w_ H23 X23 hS23 hE23 hP23 Z
 refine L_ix (r:=(rStep 126)) rfl Tryd.underlying41 Tryd.sizeOf75 (hP23 4 21 rfl rfl) (RP.mono _ h1 (Le.trans l4 hE23)) (hP23 5 22 rfl rfl) hx11 (fun g38 o39 cs_g38 hrk_hat40 hat40=>?_)
 obtain ⟨u41_0,rfl,hu41_0⟩:=rStep_iff.1 hrk_hat40
 exact L_nil ⟨rfl,_,_,rfl,Le.refl _,fun _ _=>⟨_,_,_,rfl,hrk_hat40,hat40⟩,Z⟩
 refine opsS_cons ?_ ?_
 intro f w_ H23 X23 hS23 hE23 hP23 Z
 obtain ⟨g42,o42,cs42,hv42,hrk_hat42,hat42⟩:=(hP23 6 23 rfl rfl)
 obtain ⟨u43_0,rfl,hu43_0⟩:=rStep_iff.1 hrk_hat42
 refine L_lda (cs:=[I x11.kind,I x11.a,I x11.b,u43_0,I x11.given.bound]) rfl Tryd.isAgg75 Tryd.sizeOf75 hv42 (At.sub (AtH.at hat42 Z.sub) 0 5) rfl (L_nil ⟨rfl,_,_,rfl,Le.refl _,fun _ _=>⟨_,hu43_0,rfl⟩,Z⟩)
 exact opsS_nil
 obtain ⟨u44_3,hu44_3,hv44⟩:=(hT23 3 20 rfl rfl)
 obtain ⟨u45_3,hu45_3,hv45⟩:=(hT23 7 24 rfl rfl)
 obtain ⟨H46b,l47,s48,z49,k50⟩:=Z.borrow
 refine L_call rfl Tryd.call46 (ops2 hv44 hv45) (l_eqStep_c (a:=x_5) (b:=x11) s48 (RP.mono _ hu44_3 l47) (RP.mono _ hu45_3 l47) hx21) ?_
 rintro _ w51 ⟨rfl,Z⟩
 have Z:=k50 Z c0
 refine L_not_ rfl rfl (nn (W_cond (b:=(!x21)) rfl (fun hc52=>?_) (fun hc52=>?_)))
 have hB5:=(ite_t hc52).symm.trans hB5
 refine sq (aB rfl (nn (W_ret (retG1 (v1:=Bo false) Tryd.results18 rfl ?_))))
 obtain rfl:=so hB5
 obtain rfl:=so hL5
 obtain rfl:=so hF
 exact ⟨rfl,(Star.down Z (Le.trans l4 hE23) c0)⟩
 have hB5:=(ite_f hc52).symm.trans hB5
 refine W_skip (W_region (mF ((hS23 5 rfl).trans sf5) rfl (L_add rfl rfl rfl (aI rfl (nn ?_)))))
 obtain rfl:=so hB5
 show ∃ m,m < _∧I5 m _ _
 refine ⟨rest5.length,by simp,?_⟩
 exact ij hI5 ⟨i_2 + 1,rest5,H23,rfl,drop_next hd5,by simp at hl5; omega,hL5,(Le.trans l4 hE23),((hS23 0 rfl).trans sf0),((hS23 1 rfl).trans sf1),(Eq.trans rfl (congrArg (Value.int .i64) (i64_succ (n:=a.length) (by simp at hl5; omega) hlen5))),Z⟩
 rcases suf5 with _ | ⟨_,_⟩
 obtain rfl:=range_nil hL5
 refine W_exit (rj hR5 ⟨H3,rfl,l4,Z⟩)
 exact absurd (of_decide_eq_false hc6) (by simp at hl5; omega)
 intro f w_ hR
 obtain ⟨H3,rfl,l4,Z⟩:=rk hR5 hR
 refine sq (aB rfl (nn (W_ret (retG1 (v1:=Bo true) Tryd.results18 rfl ?_))))
 obtain rfl:=so hF
 exact ⟨rfl,(Star.down Z l4 c0)⟩
theorem l_FnExactFormatProof_c {fu : Nat} {aSteps : List Step} {v0 : Value} {H : FH} {w : World} (Z : Star H w []) (h0 : (rS 69 (rStep 134)).rel H [v0] aSteps) {r : Bool} (hF : l_FnExactFormatProof fu aSteps = some r) :
 C Tryd.prog 5 #[v0] w fun v w'=>v = Bo r∧Star H w' []:=by
 unfold l_FnExactFormatProof at hF
 refine C_enter Tryd.func5 rfl Tryd.ntmps5 rfl (sq (aB rfl (ns (aI rfl (nq ?_)))))
 obtain ⟨x6,hx6,hF⟩:=bind_some hF
 refine W_region (mV v0 rfl (mI rfl ?_))
 obtain ⟨H8b,l9,s10,z11,k12⟩:=Z.borrow
 refine L_call rfl Tryd.call14 (ops2 rfl rfl) (l_szStepS_c (a:=aSteps) (left:=1048576) s10 (RP.mono _ h0 l9) hx6) ?_
 rintro _ w13 ⟨rfl,Z⟩
 have Z:=k12 Z c0
 refine aI rfl (nq (sq (mI rfl (L_lss rfl rfl rfl (nn (W_cond (b:=decide (x6 < 0)) rfl (fun hc14=>?_) (fun hc14=>?_)))))))
 have hF:=(ite_t hc14).symm.trans hF
 refine sq (aB rfl (nn (W_ret (retG1 (v1:=Bo true) Tryd.results5 rfl ?_))))
 obtain rfl:=so hF
 exact ⟨rfl,Z⟩
 have hF:=(ite_f hc14).symm.trans hF
 refine W_skip (W_seq ?_)
 obtain ⟨x20,hx20,hF⟩:=bind_some hF
 obtain ⟨x29,hx29,hF⟩:=bind_some hF
 refine W_region (mV v0 rfl ?_)
 obtain ⟨H31b,l32,s33,z34,k35⟩:=Z.borrow
 refine L_call rfl Tryd.call16 (ops1 rfl) (l_toStepS_c (a:=aSteps) s33 (RP.mono _ h0 l32) hx20) ?_
 rintro r36_0 w36 ⟨_,rfl,Z⟩
 have Z:=k35 Z (co closed_oStep c0)
 obtain ⟨H38b,l39,s40,z41,k42⟩:=Z.borrow
 have hb43 : (rS 75 (rStep 126)).rel H38b [r36_0] x20:=fz_own 0 z41 rfl
 refine L_call rfl Tryd.call15 (ops1 rfl) (s_FormatProof_c (steps:=x20) s40 hb43 hx29) ?_
 rintro _ w44 ⟨rfl,Z⟩
 have Z:=k42 Z c0
 refine aV (.string x29) rfl (nq ?_)
 obtain ⟨x50,hx50,hF⟩:=bind_some hF
 refine W_region (mV v0 rfl ?_)
 obtain ⟨H53b,l54,s55,z56,k57⟩:=Z.borrow
 refine L_call rfl Tryd.call16 (ops1 rfl) (l_toStepS_c (a:=aSteps) s55 (RP.mono _ h0 l54) hx50) ?_
 rintro r58_0 w58 ⟨_,rfl,Z⟩
 have Z:=k57 Z (co closed_oStep c0)
 refine aV r58_0 rfl (nq ?_)
 obtain ⟨x66,hx66,hF⟩:=bind_some hF
 refine W_region (mV r58_0 rfl ?_)
 obtain ⟨H68b,l69,s70,z71,k72⟩:=Z.borrow
 have hb73 : (rS 75 (rStep 126)).rel H68b [r58_0] x50:=fz_own 0 z71 rfl
 refine L_call rfl Tryd.call17 (ops1 rfl) (i_FormatProof_c (steps:=x50) s70 hb73 hx66) ?_
 rintro _ w74 ⟨rfl,Z⟩
 have Z:=k72 Z c0
 refine aV (.string x66) rfl (nq (sq (mV (.string x66) rfl (mV (.string x29) rfl (L_sneq (s:=x66) (s':=x29) rfl rfl rfl (nn (W_cond (b:=(!(ByteArray.toList x66 == ByteArray.toList x29))) rfl (fun hc75=>?_) (fun hc75=>?_))))))))
 have hF:=(ite_t hc75).symm.trans hF
 refine sq (aB rfl (nn (W_ret (retG1 (v1:=Bo false) Tryd.results5 rfl ?_))))
 obtain rfl:=so hF
 exact ⟨rfl,(Star.keepN 0 Z)⟩
 have hF:=(ite_f hc75).symm.trans hF
 refine W_skip (W_seq (W_seq ?_))
 obtain ⟨x81,hx81,hF⟩:=bind_some hF
 obtain ⟨x91,hx91,hF⟩:=bind_some hF
 refine W_region (mV r58_0 rfl (mV v0 rfl ?_))
 obtain ⟨H93b,l94,s95,z96,k97⟩:=Z.borrow
 refine L_call rfl Tryd.call16 (ops1 rfl) (l_toStepS_c (a:=aSteps) s95 (RP.mono _ h0 l94) hx81) ?_
 rintro r98_0 w98 ⟨_,rfl,Z⟩
 have Z:=k97 Z (co closed_oStep c0)
 obtain ⟨H100b,l101,s102,z103,k104⟩:=Z.borrow
 have hb105 : (rS 75 (rStep 126)).rel H100b [r58_0] x50:=fz_own 1 z103 rfl
 have hb106 : (rS 75 (rStep 126)).rel H100b [r98_0] x81:=fz_own 0 z103 rfl
 refine L_call rfl Tryd.call18 (ops2 rfl rfl) (l_eqStepS_c (a:=x50) (b:=x81) s102 hb105 hb106 hx91) ?_
 rintro _ w107 ⟨rfl,Z⟩
 have Z:=k104 Z c0
 refine L_not_ rfl rfl (nn (W_cond (b:=(!x91)) rfl (fun hc108=>?_) (fun hc108=>?_)))
 have hF:=(ite_t hc108).symm.trans hF
 refine sq (aB rfl (nn (W_ret (retG1 (v1:=Bo false) Tryd.results5 rfl ?_))))
 obtain rfl:=so hF
 exact ⟨rfl,(Star.keepN 0 Z)⟩
 have hF:=(ite_f hc108).symm.trans hF
 refine W_skip (sq (aB rfl (nn (W_ret (retG1 (v1:=Bo true) Tryd.results5 rfl ?_)))))
 obtain rfl:=so hF
 exact ⟨rfl,(Star.keepN 0 Z)⟩
end Go.Proofs.YtohpkefnmkdaeaaDoor

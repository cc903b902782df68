/- Part of a proof by program: W1. -/
import Derived.Test.YtnjcihhfoocdcaaDoorD1
import Derived.Test.YtnjcihhfoocdcaaDoorProg
import Derived.Test.YtnjcihhfoocdcaaDoorShelf
import Derived.WalkKit
import Derived.Shelf.Strings.BuilderF
namespace Go.Proofs.YtnjcihhfoocdcaaDoor
open Go Go.E Go.L Go.RowKit
set_option linter.unusedVariables false
set_option linter.unusedSimpArgs false
set_option maxRecDepth 100000
theorem Tryd_mix : Tryd.prog.follows .mixedOrders = true := by kernel_rfl
theorem fa_24_0 : FA Tryd.prog 24 0 0 := fa_of Tryd.underlying24 rfl Tryd.sizeOf22 rfl
theorem fa_24_1 : FA Tryd.prog 24 1 1 := fa_of Tryd.underlying24 rfl Tryd.sizeOf3 rfl
theorem fa_29_0 : FA Tryd.prog 29 0 0 := fa_of Tryd.underlying29 rfl Tryd.sizeOf27 rfl
theorem fa_29_1 : FA Tryd.prog 29 1 1 := fa_of Tryd.underlying29 rfl Tryd.sizeOf3 rfl
theorem fa_62_0 : FA Tryd.prog 62 0 0 := fa_of Tryd.underlying62 rfl Tryd.sizeOf3 rfl
theorem fa_62_1 : FA Tryd.prog 62 1 1 := fa_of Tryd.underlying62 rfl Tryd.sizeOf3 rfl
theorem fa_84_0 : FA Tryd.prog 84 0 0 := fa_of Tryd.underlying84 rfl Tryd.sizeOf3 rfl
theorem fa_84_1 : FA Tryd.prog 84 1 1 := fa_of Tryd.underlying84 rfl Tryd.sizeOf3 rfl
theorem et_27 : ET Tryd.prog 27 62 2 := et_of Tryd.underlying27 (by decide) (by kernel_rfl)
theorem et_45 : ET Tryd.prog 45 29 2 := et_of Tryd.underlying45 (by decide) (by kernel_rfl)
theorem bs_37_1_0 (a0 : Value) (ha0 : a0.oneCell' = true) : ∀ w, (Instr.buildSlice 37 1 #[(0, a0)]).run Tryd.prog w = .ok (.slice (some ⟨w.heap.size, 0, none⟩) 1 1) (w.alloc (.cells #[a0] 5)) := by
  intro w
  simp [Instr.buildSlice, Instr.fill, newRow, Tryd.zeroValue5, Tryd.runUnderlying37, Tryd.sizeOf5, cells_one ha0, cells_agg, cells_int, cells_bool, cells_str, cells_sl, Array.range_succ, range0]
theorem l_szTermS_c {a : List Term} {left : Int} {v0 : Value} {H : FH} {w : World} (Z : Star H w []) (h0 : (rS 84 rTerm).rel H [v0] a) {r : Int} (hF : l_szTermS a left = some r) :
 C Tryd.prog 31 #[v0,I left] w fun v w'=>v = I r∧Star H w' []:=by
 unfold l_szTermS at hF
 refine C_enter Tryd.func31 rfl Tryd.ntmps31 rfl (sq (aI rfl (ns (mI rfl (mV v0 rfl (L_len rfl Tryd.underlying22 rfl (slice_len h0) (L_sub rfl rfl rfl (aI rfl (nq (sq (mI rfl (L_lss rfl rfl rfl (nn (W_cond (b:=decide ((i64 (left - (a.length : Int))) < 0)) rfl (fun hc1=>?_) (fun hc1=>?_)))))))))))))))
 have hF:=(ite_t hc1).symm.trans hF
 refine sq (aI rfl (nn (W_ret (retG1 (v1:=I (-1)) Tryd.results31 rfl ?_))))
 obtain rfl:=so hF
 exact ⟨rfl,Z⟩
 have hF:=(ite_f hc1).symm.trans hF
 refine W_skip (sq (mI rfl (aI rfl (nn (W_ret (retG1 (v1:=I (i64 (left - (a.length : Int)))) Tryd.results31 rfl ?_))))))
 obtain rfl:=so hF
 exact ⟨rfl,Z⟩
theorem l_szConstraint_c {a : Con} {left : Int} {v0_0 : Value} {H : FH} {w : World} (Z : Star H w []) (h0_0 : (rS 84 rTerm).rel H [v0_0] a.terms) {r : Int} (hF : l_szConstraint a left = some r) :
 C Tryd.prog 8 #[.agg #[v0_0,I a.bound],I left] w fun v w'=>v = I r∧Star H w' []:=by
 unfold l_szConstraint at hF
 refine C_enter Tryd.func8 rfl Tryd.ntmps8 rfl (sq (L_box (v:=.agg #[v0_0,I a.bound]) (cs:=#[v0_0,I a.bound]) rfl rfl rfl Z (fun g3 w4 Z=>aI rfl (nq ?_))))
 obtain ⟨x10,hx10,hF⟩:=bind_some hF
 refine W_region (fA 0 fa_24_0 rfl rfl (ldB 0 Z Tryd.isAgg22 rfl rfl rfl (mI rfl ?_)))
 obtain ⟨H12b,l13,s14,z15,k16⟩:=Z.borrow
 refine L_call rfl Tryd.call31 (ops2 rfl rfl) (l_szTermS_c (a:=a.terms) (left:=left) s14 (RP.mono _ h0_0 l13) hx10) ?_
 rintro _ w17 ⟨rfl,Z⟩
 have Z:=k16 Z c0
 refine aI rfl (nq (sq (mI rfl (L_lss rfl rfl rfl (nn (W_cond (b:=decide (x10 < 0)) rfl (fun hc18=>?_) (fun hc18=>?_)))))))
 have hF:=(ite_t hc18).symm.trans hF
 refine sq (aI rfl (nn (W_ret (retG1 (v1:=I (-1)) Tryd.results8 rfl ?_))))
 obtain rfl:=so hF
 exact ⟨rfl,(Star.keepN 0 Z)⟩
 have hF:=(ite_f hc18).symm.trans hF
 refine W_skip (sq (mI rfl (aI rfl (nn (W_ret (retG1 (v1:=I x10) Tryd.results8 rfl ?_))))))
 obtain rfl:=so hF
 exact ⟨rfl,(Star.keepN 0 Z)⟩
theorem s_l1Lit_c {n_ : Int} {H : FH} {w : World} (Z : Star H w []) {r : Bool} (hF : s_l1Lit n_ = some r) :
 C Tryd.prog 48 #[I n_] w fun v w'=>v = Bo r∧Star H w' []:=by
 unfold s_l1Lit at hF
 refine C_enter Tryd.func48 rfl Tryd.ntmps48 rfl (sq (aB rfl (nq ?_)))
 obtain ⟨R1,hR1⟩:=exR fun f w_=>f 2 = Bo (((n_ != 0) && (decide (n_ ≥ (-12)))) && (decide (n_≤12)))∧Star H w_ ([])
 refine W_join R1 ?_ ?_
 refine W_region (mI rfl (L_neq rfl rfl rfl (mB rfl (L_split (d:=5) (b:=(n_ != 0)) rfl (fun hc2=>?_) (fun hc2=>?_)))))
 refine mI rfl (L_geq rfl rfl rfl (L_pick (v:=Bo ((n_ != 0) && (decide (n_ ≥ (-12))))) rfl rfl (and_t hc2 rfl) (mB rfl (L_split (d:=9) (b:=((n_ != 0) && (decide (n_ ≥ (-12))))) rfl (fun hc3=>?_) (fun hc3=>?_)))))
 refine mI rfl (L_leq rfl rfl rfl (L_pick (v:=Bo (((n_ != 0) && (decide (n_ ≥ (-12)))) && (decide (n_≤12)))) rfl rfl (and_t hc3 rfl) (aB rfl (nn (rj hR1 ⟨rfl,Z⟩)))))
 refine ps rfl (ps rfl (L_pick (v:=Bo (((n_ != 0) && (decide (n_ ≥ (-12)))) && (decide (n_≤12)))) rfl rfl (and_f hc3) (aB rfl (nn (rj hR1 ⟨rfl,Z⟩)))))
 refine ps rfl (ps rfl (L_pick (v:=Bo ((n_ != 0) && (decide (n_ ≥ (-12))))) rfl rfl (and_f hc2) (mB rfl (L_split (d:=9) (b:=((n_ != 0) && (decide (n_ ≥ (-12))))) rfl (fun hc4=>?_) (fun hc4=>?_)))))
 refine mI rfl (L_leq rfl rfl rfl (L_pick (v:=Bo (((n_ != 0) && (decide (n_ ≥ (-12)))) && (decide (n_≤12)))) rfl rfl (and_t hc4 rfl) (aB rfl (nn (rj hR1 ⟨rfl,Z⟩)))))
 refine ps rfl (ps rfl (L_pick (v:=Bo (((n_ != 0) && (decide (n_ ≥ (-12)))) && (decide (n_≤12)))) rfl rfl (and_f hc4) (aB rfl (nn (rj hR1 ⟨rfl,Z⟩)))))
 intro f w_ hR
 obtain ⟨sf2,Z⟩:=rk hR1 hR
 refine W_ret (retG1 (v1:=Bo (((n_ != 0) && (decide (n_ ≥ (-12)))) && (decide (n_≤12)))) Tryd.results48 sf2 ?_)
 obtain rfl:=so hF
 exact ⟨rfl,Z⟩
theorem s_l1Abs_c {n_ : Int} {H : FH} {w : World} (Z : Star H w []) {r : Int} (hF : s_l1Abs n_ = some r) :
 C Tryd.prog 49 #[I n_] w fun v w'=>v = I r∧Star H w' []:=by
 unfold s_l1Abs at hF
 refine C_enter Tryd.func49 rfl Tryd.ntmps49 rfl (sq (aI rfl (nq (sq (mI rfl (L_lss rfl rfl rfl (nn (W_cond (b:=decide (n_ < 0)) rfl (fun hc1=>?_) (fun hc1=>?_)))))))))
 have hF:=(ite_t hc1).symm.trans hF
 refine sq (mI rfl (L_neg rfl rfl (aI rfl (nn (W_ret (retG1 (v1:=I (i64 (-n_))) Tryd.results49 rfl ?_))))))
 obtain rfl:=so hF
 exact ⟨rfl,Z⟩
 have hF:=(ite_f hc1).symm.trans hF
 refine W_skip (sq (mI rfl (aI rfl (nn (W_ret (retG1 (v1:=I n_) Tryd.results49 rfl ?_))))))
 obtain rfl:=so hF
 exact ⟨rfl,Z⟩
theorem s_ConstraintValid_c {c : Con} {v0_0 : Value} {H : FH} {w : World} (Z : Star H w []) (h0_0 : (rS 62 rTerm).rel H [v0_0] c.terms) {r : Bool} (hF : s_ConstraintValid c = some r) :
 C Tryd.prog 19 #[.agg #[v0_0,I c.bound]] w fun v w'=>v = Bo r∧Star H w' []:=by
 unfold s_ConstraintValid at hF
 refine C_enter Tryd.func19 rfl Tryd.ntmps19 rfl (sq (L_box (v:=.agg #[v0_0,I c.bound]) (cs:=#[v0_0,I c.bound]) rfl rfl rfl Z (fun g3 w4 Z=>aB rfl (nq (sq (aI rfl (nn ?_)))))))
 have hlen8 : List.length c.terms≤9223372036854775807:=len_le (slice_len h0_0)
 obtain ⟨j8,hL8,hF⟩:=bind_some hF
 obtain ⟨R8,hR8⟩:=exR fun f w_=>∃ H6 : FH,j8 = .nx ()∧Le H H6∧f 1 = Pt g3∧Star H6 w_ ([box g3 29 #[v0_0,I c.bound]])
 refine W_join R8 ?_ ?_
 refine W_block ?_
 obtain ⟨I8,hI8⟩:=exI fun n f w_=>∃ i_5 : Nat,∃ suf8 : List Term,∃ H6 : FH,n = suf8.length∧List.drop i_5 c.terms = suf8∧i_5 + suf8.length = c.terms.length∧rangeL (s_ConstraintValid_b1 c) suf8 i_5 () = some j8∧Le H H6∧f 1 = Pt g3∧f 3 = I i_5∧Star H6 w_ ([box g3 29 #[v0_0,I c.bound]])
 refine W_loop I8 (n:=c.terms.length) ?_ ?_
 exact ij hI8 ⟨0,c.terms,H,rfl,rfl,Nat.zero_add _,hL8,(Le.refl _),rfl,rfl,Z⟩
 intro n8 f w_ hI
 obtain ⟨i_5,suf8,H6,rfl,hd8,hl8,hL8,l7,sf1,sf3,Z⟩:=ik hI8 hI
 refine W_seq (sq (mF sf3 rfl (fA 0 fa_29_0 sf1 rfl (ldB 0 Z Tryd.isAgg27 rfl rfl rfl (L_len rfl Tryd.underlying27 rfl (slice_len (RP.mono _ h0_0 l7)) (L_lss rfl rfl rfl (nn (W_cond (b:=decide ((i_5 : Int) < (c.terms.length : Int))) rfl (fun hc9=>?_) (fun hc9=>?_)))))))))
 have hlt8:=of_decide_eq_true hc9
 rcases suf8 with _ | ⟨x_8,rest8⟩
 exact absurd hlt8 (by simp at hl8; omega)
 obtain ⟨o8,hB8,hL8⟩:=range_cons hL8
 rw [s_ConstraintValid_b1] at hB8
 have hix8:=drop_idx hd8
 refine W_skip (W_seq (W_block (sq (fA 0 fa_29_0 sf1 rfl (ldB 0 Z Tryd.isAgg27 rfl rfl rfl (mF sf3 rfl (L_ix (r:=rTerm) rfl Tryd.underlying27 Tryd.sizeOf62 rfl (RP.mono _ h0_0 l7) rfl hix8 (fun g17 o18 cs_g17 hrk_hat19 hat19=>?_))))))))
 obtain rfl:=rTerm_iff.1 hrk_hat19
 refine L_lda (cs:=[I x_8.coef,I x_8.lit]) rfl Tryd.isAgg62 Tryd.sizeOf62 rfl (At.sub (AtH.at hat19 Z.sub) 0 2) rfl (L_al (cs:=#[I 0,I 0]) rfl Tryd.zeroValue62 rfl Z (fun g21 w22 Z=>L_staB (vs:=#[I x_8.coef,I x_8.lit]) (cs2:=#[I x_8.coef,I x_8.lit]) 0 rfl Tryd.sizeOf62 rfl rfl rfl (ones_cons rfl (ones_cons rfl ones_nil)) Z rfl (by show 0 + 2≤2; decide) rfl (fun w23 Z=>nq ?_)))
 obtain ⟨x29,hx29,hB8⟩:=bind_some hB8
 obtain ⟨b51,hb51,hB8⟩:=bind_some hB8
 obtain ⟨R55,hR55⟩:=exR fun f w_=>∃ H53 : FH,Le H6 H53∧f 1 = Pt g3∧f 3 = I i_5∧f 48 = Bo b51∧Star H53 w_ ([box g3 29 #[v0_0,I c.bound]])
 refine W_join R55 ?_ ?_
 rcases Bool.eq_false_or_eq_true (!x29) with hc56 | hc56
 rcases Bool.eq_false_or_eq_true ((!x29) || (decide (x_8.coef < 1))) with hc57 | hc57
 rcases Bool.eq_false_or_eq_true (((!x29) || (decide (x_8.coef < 1))) || (decide (x_8.coef > 1000))) with hc58 | hc58
 rw [ite_t hc58] at hb51
 refine W_drawS 28 [isV (Pq g21 1),isV (I x_8.lit),isV (Bo x29),isV (Bo (!x29)),isV (Bo (!x29)),isV (undef),isV (undef),isV (undef),isV (Bo ((!x29) || (decide (x_8.coef < 1)))),isV (Bo ((!x29) || (decide (x_8.coef < 1)))),isV (undef),isV (undef),isV (undef),isV (Bo (((!x29) || (decide (x_8.coef < 1))) || (decide (x_8.coef > 1000)))),isV (Bo (((!x29) || (decide (x_8.coef < 1))) || (decide (x_8.coef > 1000)))),isV (undef),isV (undef),isV (undef),isV (undef),isV (undef),isV (undef),isV (undef),isV (undef),isV (undef),isV (undef),isV (undef),isV (undef),isV (undef)] [box g21 62 #[I x_8.coef,I x_8.lit],box g3 29 #[v0_0,I c.bound]] [] ([]) [([],[]),([],[]),([],[]),([],[]),([],[]),([],[]),([],[]),([],[]),([],[]),([],[]),([],[]),([],[]),([],[]),([],[]),([],[]),([],[]),([],[]),([],[]),([],[]),([],[]),([],[]),([],[]),([],[]),([],[]),([],[]),([],[]),([],[]),([],[])] (S:=[]) Tryd_mix (by kernel_rfl) rfl (by kernel_rfl) (amF_cons (mono_V _) (amF_cons (mono_V _) (amF_cons (mono_V _) (amF_cons (mono_V _) (amF_cons (mono_V _) (amF_cons (mono_V _) (amF_cons (mono_V _) (amF_cons (mono_V _) (amF_cons (mono_V _) (amF_cons (mono_V _) (amF_cons (mono_V _) (amF_cons (mono_V _) (amF_cons (mono_V _) (amF_cons (mono_V _) (amF_cons (mono_V _) (amF_cons (mono_V _) (amF_cons (mono_V _) (amF_cons (mono_V _) (amF_cons (mono_V _) (amF_cons (mono_V _) (amF_cons (mono_V _) (amF_cons (mono_V _) (amF_cons (mono_V _) (amF_cons (mono_V _) (amF_cons (mono_V _) (amF_cons (mono_V _) (amF_cons (mono_V _) (amF_cons (mono_V _) amF_nil)))))))))))))))))))))))))))) Z ?_ (fun f w_ H52 hS52 hE52 hT52 Z=>?_)
 refine opsS_cons (fun f w_ _ _ s _ _ Z=>fA 1 fa_62_1 ((s 4 rfl).trans rfl) rfl (nO rfl rfl Z)) (opsS_cons (fun f w_ _ _ _ _ p Z=>ldB 0 Z Tryd.isAgg3 (p 0 17 rfl rfl) rfl rfl (nO rfl rfl Z)) (opsS_cons ?_ ?_))
 intro f w_ H52 X52 hS52 hE52 hP52 Z
 obtain ⟨H65b,l66,s67,z68,k69⟩:=Z.borrow
 refine L_call rfl Tryd.call48 (ops1 (hP52 1 18 rfl rfl)) (s_l1Lit_c (n_:=x_8.lit) s67 hx29) ?_
 rintro _ w70 ⟨rfl,Z⟩
 have Z:=k69 Z c0
 exact L_nil ⟨rfl,_,_,rfl,Le.refl _,fun _ _=>rfl,Z⟩
 refine opsS_cons (fun f w_ _ _ _ _ p Z=>L_not_ rfl (p 2 19 rfl rfl) (nO rfl rfl Z)) (opsS_cons (fun f w_ _ _ _ _ p Z=>mF (p 3 20 rfl rfl) rfl (nO rfl rfl Z)) (oP (fun _ _ p=>gN (p 4 21 rfl rfl) hc56 rfl) (fun _=>rfl) (oP (fun _ _ p=>gN (p 4 21 rfl rfl) hc56 rfl) (fun _=>rfl) (oP (fun _ _ p=>gN (p 4 21 rfl rfl) hc56 rfl) (fun _=>rfl) (opsS_cons (fun f w_ _ _ _ _ p Z=>pkT (v:=Bo ((!x29) || (decide (x_8.coef < 1)))) (p 4 21 rfl rfl) hc56 rfl (or_t hc56) (nO rfl rfl Z)) (opsS_cons (fun f w_ _ _ _ _ p Z=>mF (p 8 25 rfl rfl) rfl (nO rfl rfl Z)) (oP (fun _ _ p=>gN (p 9 26 rfl rfl) hc57 rfl) (fun _=>rfl) (oP (fun _ _ p=>gN (p 9 26 rfl rfl) hc57 rfl) (fun _=>rfl) (oP (fun _ _ p=>gN (p 9 26 rfl rfl) hc57 rfl) (fun _=>rfl) (opsS_cons (fun f w_ _ _ _ _ p Z=>pkT (v:=Bo (((!x29) || (decide (x_8.coef < 1))) || (decide (x_8.coef > 1000)))) (p 9 26 rfl rfl) hc57 rfl (or_t hc57) (nO rfl rfl Z)) (opsS_cons (fun f w_ _ _ _ _ p Z=>mF (p 13 30 rfl rfl) rfl (nO rfl rfl Z)) (oP (fun _ _ p=>gN (p 14 31 rfl rfl) hc58 rfl) (fun _=>rfl) (oP (fun _ _ p=>gN (p 14 31 rfl rfl) hc58 rfl) (fun _=>rfl) (oP (fun _ _ p=>gN (p 14 31 rfl rfl) hc58 rfl) (fun _=>rfl) (oP (fun _ _ p=>g_undef rfl (p 17 34 rfl rfl) rfl) (fun _=>rfl) (oP (fun _ _ p=>g_undef rfl (p 17 34 rfl rfl) rfl) (fun _=>rfl) (oP (fun _ _ p=>g_undef rfl (p 17 34 rfl rfl) rfl) (fun _=>rfl) (oP (fun _ _ p=>g_undef rfl (p 17 34 rfl rfl) rfl) (fun _=>rfl) (oP (fun _ _ p=>g_undef rfl (p 17 34 rfl rfl) rfl) (fun _=>rfl) (oP (fun _ _ p=>g_undef rfl (p 17 34 rfl rfl) rfl) (fun _=>rfl) (oP (fun _ _ p=>g_undef rfl (p 17 34 rfl rfl) rfl) (fun _=>rfl) (oP (fun _ _ p=>g_undef rfl (p 17 34 rfl rfl) rfl) (fun _=>rfl) (oP (fun _ _ p=>g_undef rfl (p 17 34 rfl rfl) rfl) (fun _=>rfl) (oP (fun _ _ p=>g_undef rfl (p 17 34 rfl rfl) rfl) (fun _=>rfl) (opsS_nil)))))))))))))))))))))))))
 refine ps (g_undef rfl (hT52 17 34 rfl rfl) rfl) (ps (g_undef rfl (hT52 17 34 rfl rfl) rfl) (ps (g_no rfl (Eq.trans (hT52 14 31 rfl rfl) (congrArg Value.bool hc58)) rfl rfl) (L_pick (v:=Bo b51) rfl (Eq.trans (hT52 14 31 rfl rfl) (congrArg Value.bool hc58)) (congrArg Value.bool (so hb51)) (nn ?_))))
 have Z:=Z.get 1 rfl
 exact rj hR55 ⟨H52,hE52,((hS52 1 rfl).trans sf1),((hS52 3 rfl).trans sf3),rfl,(Star.keepN 1 Z)⟩
 rw [ite_f hc58] at hb51
 obtain ⟨b50,hb50,hb51⟩:=bind_some hb51
 rcases Bool.eq_false_or_eq_true (decide ((i_5 : Int) > 0)) with hc71 | hc71
 rw [ite_t hc71] at hb50
 obtain ⟨x31,hx31,hb50⟩:=bind_some hb50
 obtain ⟨x41,hx41,hb50⟩:=bind_some hb50
 obtain ⟨x48,hx48,hb50⟩:=bind_some hb50
 refine W_drawS 28 [isV (Pq g21 1),isV (I x_8.lit),isV (Bo x29),isV (Bo (!x29)),isV (Bo (!x29)),isV (undef),isV (undef),isV (undef),isV (Bo ((!x29) || (decide (x_8.coef < 1)))),isV (Bo ((!x29) || (decide (x_8.coef < 1)))),isV (undef),isV (undef),isV (undef),isV (Bo (((!x29) || (decide (x_8.coef < 1))) || (decide (x_8.coef > 1000)))),isV (Bo (((!x29) || (decide (x_8.coef < 1))) || (decide (x_8.coef > 1000)))),isV (I i_5),isV (Bo (decide ((i_5 : Int) > 0))),isV (Bo (decide ((i_5 : Int) > 0))),isV (Pt g3),isV (v0_0),isV (I i_5),isV (I (i64 ((i_5 : Int) - 1))),isEl rTerm x31 0,isEl rTerm x31 1,isV (I x31.lit),isV (I x41),isV (Pq g21 1),isV (I x_8.lit)] [box g21 62 #[I x_8.coef,I x_8.lit],box g3 29 #[v0_0,I c.bound]] [] ([]) [([],[]),([],[]),([],[]),([],[]),([],[]),([],[]),([],[]),([],[]),([],[]),([],[]),([],[]),([],[]),([],[]),([],[]),([],[]),([],[]),([],[]),([],[]),([],[]),([],[]),([],[]),([],[]),([],[]),([],[]),([],[]),([],[]),([],[]),([],[])] (S:=[]) Tryd_mix (by kernel_rfl) rfl (by kernel_rfl) (amF_cons (mono_V _) (amF_cons (mono_V _) (amF_cons (mono_V _) (amF_cons (mono_V _) (amF_cons (mono_V _) (amF_cons (mono_V _) (amF_cons (mono_V _) (amF_cons (mono_V _) (amF_cons (mono_V _) (amF_cons (mono_V _) (amF_cons (mono_V _) (amF_cons (mono_V _) (amF_cons (mono_V _) (amF_cons (mono_V _) (amF_cons (mono_V _) (amF_cons (mono_V _) (amF_cons (mono_V _) (amF_cons (mono_V _) (amF_cons (mono_V _) (amF_cons (mono_V _) (amF_cons (mono_V _) (amF_cons (mono_V _) (amF_cons (mono_el _ _ _) (amF_cons (mono_el _ _ _) (amF_cons (mono_V _) (amF_cons (mono_V _) (amF_cons (mono_V _) (amF_cons (mono_V _) amF_nil)))))))))))))))))))))))))))) Z ?_ (fun f w_ H52 hS52 hE52 hT52 Z=>?_)
 refine opsS_cons (fun f w_ _ _ s _ _ Z=>fA 1 fa_62_1 ((s 4 rfl).trans rfl) rfl (nO rfl rfl Z)) (opsS_cons (fun f w_ _ _ _ _ p Z=>ldB 0 Z Tryd.isAgg3 (p 0 17 rfl rfl) rfl rfl (nO rfl rfl Z)) (opsS_cons ?_ ?_))
 intro f w_ H52 X52 hS52 hE52 hP52 Z
 obtain ⟨H88b,l89,s90,z91,k92⟩:=Z.borrow
 refine L_call rfl Tryd.call48 (ops1 (hP52 1 18 rfl rfl)) (s_l1Lit_c (n_:=x_8.lit) s90 hx29) ?_
 rintro _ w93 ⟨rfl,Z⟩
 have Z:=k92 Z c0
 exact L_nil ⟨rfl,_,_,rfl,Le.refl _,fun _ _=>rfl,Z⟩
 refine opsS_cons (fun f w_ _ _ _ _ p Z=>L_not_ rfl (p 2 19 rfl rfl) (nO rfl rfl Z)) (opsS_cons (fun f w_ _ _ _ _ p Z=>mF (p 3 20 rfl rfl) rfl (nO rfl rfl Z)) (oP (fun _ _ p=>gN (p 4 21 rfl rfl) hc56 rfl) (fun _=>rfl) (oP (fun _ _ p=>gN (p 4 21 rfl rfl) hc56 rfl) (fun _=>rfl) (oP (fun _ _ p=>gN (p 4 21 rfl rfl) hc56 rfl) (fun _=>rfl) (opsS_cons (fun f w_ _ _ _ _ p Z=>pkT (v:=Bo ((!x29) || (decide (x_8.coef < 1)))) (p 4 21 rfl rfl) hc56 rfl (or_t hc56) (nO rfl rfl Z)) (opsS_cons (fun f w_ _ _ _ _ p Z=>mF (p 8 25 rfl rfl) rfl (nO rfl rfl Z)) (oP (fun _ _ p=>gN (p 9 26 rfl rfl) hc57 rfl) (fun _=>rfl) (oP (fun _ _ p=>gN (p 9 26 rfl rfl) hc57 rfl) (fun _=>rfl) (oP (fun _ _ p=>gN (p 9 26 rfl rfl) hc57 rfl) (fun _=>rfl) (opsS_cons (fun f w_ _ _ _ _ p Z=>pkT (v:=Bo (((!x29) || (decide (x_8.coef < 1))) || (decide (x_8.coef > 1000)))) (p 9 26 rfl rfl) hc57 rfl (or_t hc57) (nO rfl rfl Z)) (opsS_cons (fun f w_ _ _ _ _ p Z=>mF (p 13 30 rfl rfl) rfl (nO rfl rfl Z)) (opsS_cons (fun f w_ _ _ s _ p Z=>L_mv (v:=I i_5) (g_yes rfl (Eq.trans (p 14 31 rfl rfl) (congrArg Value.bool hc58)) rfl) ((s 3 rfl).trans sf3) (nO rfl rfl Z)) (opsS_cons (fun f w_ _ _ _ _ p Z=>L_gtr (g_yes rfl (Eq.trans (p 14 31 rfl rfl) (congrArg Value.bool hc58)) rfl) (p 15 32 rfl rfl) rfl (nO rfl rfl Z)) (opsS_cons (fun f w_ _ _ _ _ p Z=>L_mv (v:=Bo (decide ((i_5 : Int) > 0))) (g_yes rfl (Eq.trans (p 14 31 rfl rfl) (congrArg Value.bool hc58)) rfl) (p 16 33 rfl rfl) (nO rfl rfl Z)) (opsS_cons (fun f w_ _ _ s _ p Z=>L_fa (o':=0) (g_yes rfl (Eq.trans (p 17 34 rfl rfl) (congrArg Value.bool hc71)) rfl) fa_29_0 ((s 1 rfl).trans sf1) rfl (nO rfl rfl Z)) (opsS_cons (fun f w_ _ _ _ _ p Z=>L_ld (v:=v0_0) (g_yes rfl (Eq.trans (p 17 34 rfl rfl) (congrArg Value.bool hc71)) rfl) Tryd.isAgg27 (p 18 35 rfl rfl) (At.cell0 (Blk.at (Star.blkAt 1 Z rfl)) (j:=0) rfl) (nO rfl rfl Z)) (opsS_cons (fun f w_ _ _ s _ p Z=>L_mv (v:=I i_5) (g_yes rfl (Eq.trans (p 17 34 rfl rfl) (congrArg Value.bool hc71)) rfl) ((s 3 rfl).trans sf3) (nO rfl rfl Z)) (opsS_cons (fun f w_ _ _ _ _ p Z=>L_sub (g_yes rfl (Eq.trans (p 17 34 rfl rfl) (congrArg Value.bool hc71)) rfl) (p 20 37 rfl rfl) rfl (nO rfl rfl Z)) (opsS_cons ?_ ?_)))))))))))))))))))
 intro f w_ H52 X52 hS52 hE52 hP52 Z
 refine L_ix (r:=rTerm) (g_yes rfl (Eq.trans (hP52 17 34 rfl rfl) (congrArg Value.bool hc71)) rfl) Tryd.underlying27 Tryd.sizeOf62 (hP52 19 36 rfl rfl) (RP.mono _ h0_0 (Le.trans l7 hE52)) (hP52 21 38 rfl rfl) hx31 (fun g94 o95 cs_g94 hrk_hat96 hat96=>?_)
 obtain rfl:=rTerm_iff.1 hrk_hat96
 exact L_nil ⟨rfl,_,_,rfl,Le.refl _,fun _ _=>⟨_,_,_,rfl,hrk_hat96,hat96⟩,Z⟩
 refine opsS_cons ?_ ?_
 intro f w_ H52 X52 hS52 hE52 hP52 Z
 obtain ⟨g98,o98,cs98,hv98,hrk_hat98,hat98⟩:=(hP52 22 39 rfl rfl)
 obtain rfl:=rTerm_iff.1 hrk_hat98
 refine L_fa (o':=o98 + 1) (g_yes rfl (Eq.trans (hP52 17 34 rfl rfl) (congrArg Value.bool hc71)) rfl) fa_62_1 hv98 rfl (L_nil ⟨rfl,_,_,rfl,Le.refl _,fun _ _=>⟨_,_,_,rfl,hrk_hat98,hat98⟩,Z⟩)
 refine opsS_cons ?_ ?_
 intro f w_ H52 X52 hS52 hE52 hP52 Z
 obtain ⟨g100,o100,cs100,hv100,hrk_hat100,hat100⟩:=(hP52 23 40 rfl rfl)
 obtain rfl:=rTerm_iff.1 hrk_hat100
 refine L_ld (v:=I x31.lit) (g_yes rfl (Eq.trans (hP52 17 34 rfl rfl) (congrArg Value.bool hc71)) rfl) Tryd.isAgg3 hv100 (At.cell (AtH.at hat100 Z.sub) (j:=1) rfl) (L_nil ⟨rfl,_,_,rfl,Le.refl _,fun _ _=>rfl,Z⟩)
 refine opsS_cons ?_ ?_
 intro f w_ H52 X52 hS52 hE52 hP52 Z
 obtain ⟨H102b,l103,s104,z105,k106⟩:=Z.borrow
 refine L_call (g_yes rfl (Eq.trans (hP52 17 34 rfl rfl) (congrArg Value.bool hc71)) rfl) Tryd.call49 (ops1 (hP52 24 41 rfl rfl)) (s_l1Abs_c (n_:=x31.lit) s104 hx41) ?_
 rintro _ w107 ⟨rfl,Z⟩
 have Z:=k106 Z c0
 exact L_nil ⟨rfl,_,_,rfl,Le.refl _,fun _ _=>rfl,Z⟩
 refine opsS_cons (fun f w_ _ _ s _ p Z=>L_fa (o':=1) (g_yes rfl (Eq.trans (p 17 34 rfl rfl) (congrArg Value.bool hc71)) rfl) fa_62_1 ((s 4 rfl).trans rfl) rfl (nO rfl rfl Z)) (opsS_cons (fun f w_ _ _ _ _ p Z=>L_ld (v:=I x_8.lit) (g_yes rfl (Eq.trans (p 17 34 rfl rfl) (congrArg Value.bool hc71)) rfl) Tryd.isAgg3 (p 26 43 rfl rfl) (At.cell0 (Blk.at (Star.blkAt 0 Z rfl)) (j:=1) rfl) (nO rfl rfl Z)) (opsS_nil))
 obtain ⟨H108b,l109,s110,z111,k112⟩:=Z.borrow
 refine L_call (g_yes rfl (Eq.trans (hT52 17 34 rfl rfl) (congrArg Value.bool hc71)) rfl) Tryd.call49 (ops1 (hT52 27 44 rfl rfl)) (s_l1Abs_c (n_:=x_8.lit) s110 hx48) ?_
 rintro _ w113 ⟨rfl,Z⟩
 have Z:=k112 Z c0
 refine L_geq (g_yes rfl (Eq.trans (hT52 17 34 rfl rfl) (congrArg Value.bool hc71)) rfl) (hT52 25 42 rfl rfl) rfl (L_pick (v:=Bo b50) (g_yes rfl (Eq.trans (hT52 14 31 rfl rfl) (congrArg Value.bool hc58)) rfl) (Eq.trans (hT52 17 34 rfl rfl) (congrArg Value.bool hc71)) (congrArg Value.bool (so hb50)) (L_pick (v:=Bo b51) rfl (Eq.trans (hT52 14 31 rfl rfl) (congrArg Value.bool hc58)) (congrArg Value.bool (so hb51)) (nn ?_)))
 have Z:=Z.get 1 rfl
 exact rj hR55 ⟨H52,hE52,((hS52 1 rfl).trans sf1),((hS52 3 rfl).trans sf3),rfl,(Star.keepN 1 Z)⟩
 rw [ite_f hc71] at hb50
 refine W_drawS 28 [isV (Pq g21 1),isV (I x_8.lit),isV (Bo x29),isV (Bo (!x29)),isV (Bo (!x29)),isV (undef),isV (undef),isV (undef),isV (Bo ((!x29) || (decide (x_8.coef < 1)))),isV (Bo ((!x29) || (decide (x_8.coef < 1)))),isV (undef),isV (undef),isV (undef),isV (Bo (((!x29) || (decide (x_8.coef < 1))) || (decide (x_8.coef > 1000)))),isV (Bo (((!x29) || (decide (x_8.coef < 1))) || (decide (x_8.coef > 1000)))),isV (I i_5),isV (Bo (decide ((i_5 : Int) > 0))),isV (Bo (decide ((i_5 : Int) > 0))),isV (undef),isV (undef),isV (undef),isV (undef),isV (undef),isV (undef),isV (undef),isV (undef),isV (undef),isV (undef)] [box g21 62 #[I x_8.coef,I x_8.lit],box g3 29 #[v0_0,I c.bound]] [] ([]) [([],[]),([],[]),([],[]),([],[]),([],[]),([],[]),([],[]),([],[]),([],[]),([],[]),([],[]),([],[]),([],[]),([],[]),([],[]),([],[]),([],[]),([],[]),([],[]),([],[]),([],[]),([],[]),([],[]),([],[]),([],[]),([],[]),([],[]),([],[])] (S:=[]) Tryd_mix (by kernel_rfl) rfl (by kernel_rfl) (amF_cons (mono_V _) (amF_cons (mono_V _) (amF_cons (mono_V _) (amF_cons (mono_V _) (amF_cons (mono_V _) (amF_cons (mono_V _) (amF_cons (mono_V _) (amF_cons (mono_V _) (amF_cons (mono_V _) (amF_cons (mono_V _) (amF_cons (mono_V _) (amF_cons (mono_V _) (amF_cons (mono_V _) (amF_cons (mono_V _) (amF_cons (mono_V _) (amF_cons (mono_V _) (amF_cons (mono_V _) (amF_cons (mono_V _) (amF_cons (mono_V _) (amF_cons (mono_V _) (amF_cons (mono_V _) (amF_cons (mono_V _) (amF_cons (mono_V _) (amF_cons (mono_V _) (amF_cons (mono_V _) (amF_cons (mono_V _) (amF_cons (mono_V _) (amF_cons (mono_V _) amF_nil)))))))))))))))))))))))))))) Z ?_ (fun f w_ H52 hS52 hE52 hT52 Z=>?_)
 refine opsS_cons (fun f w_ _ _ s _ _ Z=>fA 1 fa_62_1 ((s 4 rfl).trans rfl) rfl (nO rfl rfl Z)) (opsS_cons (fun f w_ _ _ _ _ p Z=>ldB 0 Z Tryd.isAgg3 (p 0 17 rfl rfl) rfl rfl (nO rfl rfl Z)) (opsS_cons ?_ ?_))
 intro f w_ H52 X52 hS52 hE52 hP52 Z
 obtain ⟨H120b,l121,s122,z123,k124⟩:=Z.borrow
 refine L_call rfl Tryd.call48 (ops1 (hP52 1 18 rfl rfl)) (s_l1Lit_c (n_:=x_8.lit) s122 hx29) ?_
 rintro _ w125 ⟨rfl,Z⟩
 have Z:=k124 Z c0
 exact L_nil ⟨rfl,_,_,rfl,Le.refl _,fun _ _=>rfl,Z⟩
 refine opsS_cons (fun f w_ _ _ _ _ p Z=>L_not_ rfl (p 2 19 rfl rfl) (nO rfl rfl Z)) (opsS_cons (fun f w_ _ _ _ _ p Z=>mF (p 3 20 rfl rfl) rfl (nO rfl rfl Z)) (oP (fun _ _ p=>gN (p 4 21 rfl rfl) hc56 rfl) (fun _=>rfl) (oP (fun _ _ p=>gN (p 4 21 rfl rfl) hc56 rfl) (fun _=>rfl) (oP (fun _ _ p=>gN (p 4 21 rfl rfl) hc56 rfl) (fun _=>rfl) (opsS_cons (fun f w_ _ _ _ _ p Z=>pkT (v:=Bo ((!x29) || (decide (x_8.coef < 1)))) (p 4 21 rfl rfl) hc56 rfl (or_t hc56) (nO rfl rfl Z)) (opsS_cons (fun f w_ _ _ _ _ p Z=>mF (p 8 25 rfl rfl) rfl (nO rfl rfl Z)) (oP (fun _ _ p=>gN (p 9 26 rfl rfl) hc57 rfl) (fun _=>rfl) (oP (fun _ _ p=>gN (p 9 26 rfl rfl) hc57 rfl) (fun _=>rfl) (oP (fun _ _ p=>gN (p 9 26 rfl rfl) hc57 rfl) (fun _=>rfl) (opsS_cons (fun f w_ _ _ _ _ p Z=>pkT (v:=Bo (((!x29) || (decide (x_8.coef < 1))) || (decide (x_8.coef > 1000)))) (p 9 26 rfl rfl) hc57 rfl (or_t hc57) (nO rfl rfl Z)) (opsS_cons (fun f w_ _ _ _ _ p Z=>mF (p 13 30 rfl rfl) rfl (nO rfl rfl Z)) (opsS_cons (fun f w_ _ _ s _ p Z=>L_mv (v:=I i_5) (g_yes rfl (Eq.trans (p 14 31 rfl rfl) (congrArg Value.bool hc58)) rfl) ((s 3 rfl).trans sf3) (nO rfl rfl Z)) (opsS_cons (fun f w_ _ _ _ _ p Z=>L_gtr (g_yes rfl (Eq.trans (p 14 31 rfl rfl) (congrArg Value.bool hc58)) rfl) (p 15 32 rfl rfl) rfl (nO rfl rfl Z)) (opsS_cons (fun f w_ _ _ _ _ p Z=>L_mv (v:=Bo (decide ((i_5 : Int) > 0))) (g_yes rfl (Eq.trans (p 14 31 rfl rfl) (congrArg Value.bool hc58)) rfl) (p 16 33 rfl rfl) (nO rfl rfl Z)) (oP (fun _ _ p=>gN (p 17 34 rfl rfl) hc71 rfl) (fun _=>rfl) (oP (fun _ _ p=>gN (p 17 34 rfl rfl) hc71 rfl) (fun _=>rfl) (oP (fun _ _ p=>gN (p 17 34 rfl rfl) hc71 rfl) (fun _=>rfl) (oP (fun _ _ p=>gN (p 17 34 rfl rfl) hc71 rfl) (fun _=>rfl) (oP (fun _ _ p=>gN (p 17 34 rfl rfl) hc71 rfl) (fun _=>rfl) (oP (fun _ _ p=>gN (p 17 34 rfl rfl) hc71 rfl) (fun _=>rfl) (oP (fun _ _ p=>gN (p 17 34 rfl rfl) hc71 rfl) (fun _=>rfl) (oP (fun _ _ p=>gN (p 17 34 rfl rfl) hc71 rfl) (fun _=>rfl) (oP (fun _ _ p=>gN (p 17 34 rfl rfl) hc71 rfl) (fun _=>rfl) (oP (fun _ _ p=>gN (p 17 34 rfl rfl) hc71 rfl) (fun _=>rfl) (opsS_nil)))))))))))))))))))))))))
 refine ps (g_no rfl (Eq.trans (hT52 17 34 rfl rfl) (congrArg Value.bool hc71)) rfl rfl) (ps (g_no rfl (Eq.trans (hT52 17 34 rfl rfl) (congrArg Value.bool hc71)) rfl rfl) (L_pick (v:=Bo b50) (g_yes rfl (Eq.trans (hT52 14 31 rfl rfl) (congrArg Value.bool hc58)) rfl) (Eq.trans (hT52 17 34 rfl rfl) (congrArg Value.bool hc71)) (congrArg Value.bool (so hb50)) (L_pick (v:=Bo b51) rfl (Eq.trans (hT52 14 31 rfl rfl) (congrArg Value.bool hc58)) (congrArg Value.bool (so hb51)) (nn ?_))))
 have Z:=Z.get 1 rfl
 exact rj hR55 ⟨H52,hE52,((hS52 1 rfl).trans sf1),((hS52 3 rfl).trans sf3),rfl,(Star.keepN 1 Z)⟩
 rcases Bool.eq_false_or_eq_true (((!x29) || (decide (x_8.coef < 1))) || (decide (x_8.coef > 1000))) with hc126 | hc126
 rw [ite_t hc126] at hb51
 refine W_drawS 28 [isV (Pq g21 1),isV (I x_8.lit),isV (Bo x29),isV (Bo (!x29)),isV (Bo (!x29)),isV (undef),isV (undef),isV (undef),isV (Bo ((!x29) || (decide (x_8.coef < 1)))),isV (Bo ((!x29) || (decide (x_8.coef < 1)))),isV (Pt g21),isV (I x_8.coef),isV (Bo (decide (x_8.coef > 1000))),isV (Bo (((!x29) || (decide (x_8.coef < 1))) || (decide (x_8.coef > 1000)))),isV (Bo (((!x29) || (decide (x_8.coef < 1))) || (decide (x_8.coef > 1000)))),isV (undef),isV (undef),isV (undef),isV (undef),isV (undef),isV (undef),isV (undef),isV (undef),isV (undef),isV (undef),isV (undef),isV (undef),isV (undef)] [box g21 62 #[I x_8.coef,I x_8.lit],box g3 29 #[v0_0,I c.bound]] [] ([]) [([],[]),([],[]),([],[]),([],[]),([],[]),([],[]),([],[]),([],[]),([],[]),([],[]),([],[]),([],[]),([],[]),([],[]),([],[]),([],[]),([],[]),([],[]),([],[]),([],[]),([],[]),([],[]),([],[]),([],[]),([],[]),([],[]),([],[]),([],[])] (S:=[]) Tryd_mix (by kernel_rfl) rfl (by kernel_rfl) (amF_cons (mono_V _) (amF_cons (mono_V _) (amF_cons (mono_V _) (amF_cons (mono_V _) (amF_cons (mono_V _) (amF_cons (mono_V _) (amF_cons (mono_V _) (amF_cons (mono_V _) (amF_cons (mono_V _) (amF_cons (mono_V _) (amF_cons (mono_V _) (amF_cons (mono_V _) (amF_cons (mono_V _) (amF_cons (mono_V _) (amF_cons (mono_V _) (amF_cons (mono_V _) (amF_cons (mono_V _) (amF_cons (mono_V _) (amF_cons (mono_V _) (amF_cons (mono_V _) (amF_cons (mono_V _) (amF_cons (mono_V _) (amF_cons (mono_V _) (amF_cons (mono_V _) (amF_cons (mono_V _) (amF_cons (mono_V _) (amF_cons (mono_V _) (amF_cons (mono_V _) amF_nil)))))))))))))))))))))))))))) Z ?_ (fun f w_ H52 hS52 hE52 hT52 Z=>?_)
 refine opsS_cons (fun f w_ _ _ s _ _ Z=>fA 1 fa_62_1 ((s 4 rfl).trans rfl) rfl (nO rfl rfl Z)) (opsS_cons (fun f w_ _ _ _ _ p Z=>ldB 0 Z Tryd.isAgg3 (p 0 17 rfl rfl) rfl rfl (nO rfl rfl Z)) (opsS_cons ?_ ?_))
 intro f w_ H52 X52 hS52 hE52 hP52 Z
 obtain ⟨H133b,l134,s135,z136,k137⟩:=Z.borrow
 refine L_call rfl Tryd.call48 (ops1 (hP52 1 18 rfl rfl)) (s_l1Lit_c (n_:=x_8.lit) s135 hx29) ?_
 rintro _ w138 ⟨rfl,Z⟩
 have Z:=k137 Z c0
 exact L_nil ⟨rfl,_,_,rfl,Le.refl _,fun _ _=>rfl,Z⟩
 refine opsS_cons (fun f w_ _ _ _ _ p Z=>L_not_ rfl (p 2 19 rfl rfl) (nO rfl rfl Z)) (opsS_cons (fun f w_ _ _ _ _ p Z=>mF (p 3 20 rfl rfl) rfl (nO rfl rfl Z)) (oP (fun _ _ p=>gN (p 4 21 rfl rfl) hc56 rfl) (fun _=>rfl) (oP (fun _ _ p=>gN (p 4 21 rfl rfl) hc56 rfl) (fun _=>rfl) (oP (fun _ _ p=>gN (p 4 21 rfl rfl) hc56 rfl) (fun _=>rfl) (opsS_cons (fun f w_ _ _ _ _ p Z=>pkT (v:=Bo ((!x29) || (decide (x_8.coef < 1)))) (p 4 21 rfl rfl) hc56 rfl (or_t hc56) (nO rfl rfl Z)) (opsS_cons (fun f w_ _ _ _ _ p Z=>mF (p 8 25 rfl rfl) rfl (nO rfl rfl Z)) (opsS_cons (fun f w_ _ _ s _ p Z=>L_fa (o':=0) (g_yes rfl (Eq.trans (p 9 26 rfl rfl) (congrArg Value.bool hc57)) rfl) fa_62_0 ((s 4 rfl).trans rfl) rfl (nO rfl rfl Z)) (opsS_cons (fun f w_ _ _ _ _ p Z=>L_ld (v:=I x_8.coef) (g_yes rfl (Eq.trans (p 9 26 rfl rfl) (congrArg Value.bool hc57)) rfl) Tryd.isAgg3 (p 10 27 rfl rfl) (At.cell0 (Blk.at (Star.blkAt 0 Z rfl)) (j:=0) rfl) (nO rfl rfl Z)) (opsS_cons (fun f w_ _ _ _ _ p Z=>L_gtr (g_yes rfl (Eq.trans (p 9 26 rfl rfl) (congrArg Value.bool hc57)) rfl) (p 11 28 rfl rfl) rfl (nO rfl rfl Z)) (opsS_cons (fun f w_ _ _ _ _ p Z=>pkT (v:=Bo (((!x29) || (decide (x_8.coef < 1))) || (decide (x_8.coef > 1000)))) (p 9 26 rfl rfl) hc57 rfl (or_f hc57 (p 12 29 rfl rfl)) (nO rfl rfl Z)) (opsS_cons (fun f w_ _ _ _ _ p Z=>mF (p 13 30 rfl rfl) rfl (nO rfl rfl Z)) (oP (fun _ _ p=>gN (p 14 31 rfl rfl) hc126 rfl) (fun _=>rfl) (oP (fun _ _ p=>gN (p 14 31 rfl rfl) hc126 rfl) (fun _=>rfl) (oP (fun _ _ p=>gN (p 14 31 rfl rfl) hc126 rfl) (fun _=>rfl) (oP (fun _ _ p=>g_undef rfl (p 17 34 rfl rfl) rfl) (fun _=>rfl) (oP (fun _ _ p=>g_undef rfl (p 17 34 rfl rfl) rfl) (fun _=>rfl) (oP (fun _ _ p=>g_undef rfl (p 17 34 rfl rfl) rfl) (fun _=>rfl) (oP (fun _ _ p=>g_undef rfl (p 17 34 rfl rfl) rfl) (fun _=>rfl) (oP (fun _ _ p=>g_undef rfl (p 17 34 rfl rfl) rfl) (fun _=>rfl) (oP (fun _ _ p=>g_undef rfl (p 17 34 rfl rfl) rfl) (fun _=>rfl) (oP (fun _ _ p=>g_undef rfl (p 17 34 rfl rfl) rfl) (fun _=>rfl) (oP (fun _ _ p=>g_undef rfl (p 17 34 rfl rfl) rfl) (fun _=>rfl) (oP (fun _ _ p=>g_undef rfl (p 17 34 rfl rfl) rfl) (fun _=>rfl) (oP (fun _ _ p=>g_undef rfl (p 17 34 rfl rfl) rfl) (fun _=>rfl) (opsS_nil)))))))))))))))))))))))))
 refine ps (g_undef rfl (hT52 17 34 rfl rfl) rfl) (ps (g_undef rfl (hT52 17 34 rfl rfl) rfl) (ps (g_no rfl (Eq.trans (hT52 14 31 rfl rfl) (congrArg Value.bool hc126)) rfl rfl) (L_pick (v:=Bo b51) rfl (Eq.trans (hT52 14 31 rfl rfl) (congrArg Value.bool hc126)) (congrArg Value.bool (so hb51)) (nn ?_))))
 have Z:=Z.get 1 rfl
 exact rj hR55 ⟨H52,hE52,((hS52 1 rfl).trans sf1),((hS52 3 rfl).trans sf3),rfl,(Star.keepN 1 Z)⟩
 rw [ite_f hc126] at hb51
 obtain ⟨b50,hb50,hb51⟩:=bind_some hb51
 rcases Bool.eq_false_or_eq_true (decide ((i_5 : Int) > 0)) with hc139 | hc139
 rw [ite_t hc139] at hb50
 obtain ⟨x31,hx31,hb50⟩:=bind_some hb50
 obtain ⟨x41,hx41,hb50⟩:=bind_some hb50
 obtain ⟨x48,hx48,hb50⟩:=bind_some hb50
 refine W_drawS 28 [isV (Pq g21 1),isV (I x_8.lit),isV (Bo x29),isV (Bo (!x29)),isV (Bo (!x29)),isV (undef),isV (undef),isV (undef),isV (Bo ((!x29) || (decide (x_8.coef < 1)))),isV (Bo ((!x29) || (decide (x_8.coef < 1)))),isV (Pt g21),isV (I x_8.coef),isV (Bo (decide (x_8.coef > 1000))),isV (Bo (((!x29) || (decide (x_8.coef < 1))) || (decide (x_8.coef > 1000)))),isV (Bo (((!x29) || (decide (x_8.coef < 1))) || (decide (x_8.coef > 1000)))),isV (I i_5),isV (Bo (decide ((i_5 : Int) > 0))),isV (Bo (decide ((i_5 : Int) > 0))),isV (Pt g3),isV (v0_0),isV (I i_5),isV (I (i64 ((i_5 : Int) - 1))),isEl rTerm x31 0,isEl rTerm x31 1,isV (I x31.lit),isV (I x41),isV (Pq g21 1),isV (I x_8.lit)] [box g21 62 #[I x_8.coef,I x_8.lit],box g3 29 #[v0_0,I c.bound]] [] ([]) [([],[]),([],[]),([],[]),([],[]),([],[]),([],[]),([],[]),([],[]),([],[]),([],[]),([],[]),([],[]),([],[]),([],[]),([],[]),([],[]),([],[]),([],[]),([],[]),([],[]),([],[]),([],[]),([],[]),([],[]),([],[]),([],[]),([],[]),([],[])] (S:=[]) Tryd_mix (by kernel_rfl) rfl (by kernel_rfl) (amF_cons (mono_V _) (amF_cons (mono_V _) (amF_cons (mono_V _) (amF_cons (mono_V _) (amF_cons (mono_V _) (amF_cons (mono_V _) (amF_cons (mono_V _) (amF_cons (mono_V _) (amF_cons (mono_V _) (amF_cons (mono_V _) (amF_cons (mono_V _) (amF_cons (mono_V _) (amF_cons (mono_V _) (amF_cons (mono_V _) (amF_cons (mono_V _) (amF_cons (mono_V _) (amF_cons (mono_V _) (amF_cons (mono_V _) (amF_cons (mono_V _) (amF_cons (mono_V _) (amF_cons (mono_V _) (amF_cons (mono_V _) (amF_cons (mono_el _ _ _) (amF_cons (mono_el _ _ _) (amF_cons (mono_V _) (amF_cons (mono_V _) (amF_cons (mono_V _) (amF_cons (mono_V _) amF_nil)))))))))))))))))))))))))))) Z ?_ (fun f w_ H52 hS52 hE52 hT52 Z=>?_)
 refine opsS_cons (fun f w_ _ _ s _ _ Z=>fA 1 fa_62_1 ((s 4 rfl).trans rfl) rfl (nO rfl rfl Z)) (opsS_cons (fun f w_ _ _ _ _ p Z=>ldB 0 Z Tryd.isAgg3 (p 0 17 rfl rfl) rfl rfl (nO rfl rfl Z)) (opsS_cons ?_ ?_))
 intro f w_ H52 X52 hS52 hE52 hP52 Z
 obtain ⟨H156b,l157,s158,z159,k160⟩:=Z.borrow
 refine L_call rfl Tryd.call48 (ops1 (hP52 1 18 rfl rfl)) (s_l1Lit_c (n_:=x_8.lit) s158 hx29) ?_
 rintro _ w161 ⟨rfl,Z⟩
 have Z:=k160 Z c0
 exact L_nil ⟨rfl,_,_,rfl,Le.refl _,fun _ _=>rfl,Z⟩
 refine opsS_cons (fun f w_ _ _ _ _ p Z=>L_not_ rfl (p 2 19 rfl rfl) (nO rfl rfl Z)) (opsS_cons (fun f w_ _ _ _ _ p Z=>mF (p 3 20 rfl rfl) rfl (nO rfl rfl Z)) (oP (fun _ _ p=>gN (p 4 21 rfl rfl) hc56 rfl) (fun _=>rfl) (oP (fun _ _ p=>gN (p 4 21 rfl rfl) hc56 rfl) (fun _=>rfl) (oP (fun _ _ p=>gN (p 4 21 rfl rfl) hc56 rfl) (fun _=>rfl) (opsS_cons (fun f w_ _ _ _ _ p Z=>pkT (v:=Bo ((!x29) || (decide (x_8.coef < 1)))) (p 4 21 rfl rfl) hc56 rfl (or_t hc56) (nO rfl rfl Z)) (opsS_cons (fun f w_ _ _ _ _ p Z=>mF (p 8 25 rfl rfl) rfl (nO rfl rfl Z)) (opsS_cons (fun f w_ _ _ s _ p Z=>L_fa (o':=0) (g_yes rfl (Eq.trans (p 9 26 rfl rfl) (congrArg Value.bool hc57)) rfl) fa_62_0 ((s 4 rfl).trans rfl) rfl (nO rfl rfl Z)) (opsS_cons (fun f w_ _ _ _ _ p Z=>L_ld (v:=I x_8.coef) (g_yes rfl (Eq.trans (p 9 26 rfl rfl) (congrArg Value.bool hc57)) rfl) Tryd.isAgg3 (p 10 27 rfl rfl) (At.cell0 (Blk.at (Star.blkAt 0 Z rfl)) (j:=0) rfl) (nO rfl rfl Z)) (opsS_cons (fun f w_ _ _ _ _ p Z=>L_gtr (g_yes rfl (Eq.trans (p 9 26 rfl rfl) (congrArg Value.bool hc57)) rfl) (p 11 28 rfl rfl) rfl (nO rfl rfl Z)) (opsS_cons (fun f w_ _ _ _ _ p Z=>pkT (v:=Bo (((!x29) || (decide (x_8.coef < 1))) || (decide (x_8.coef > 1000)))) (p 9 26 rfl rfl) hc57 rfl (or_f hc57 (p 12 29 rfl rfl)) (nO rfl rfl Z)) (opsS_cons (fun f w_ _ _ _ _ p Z=>mF (p 13 30 rfl rfl) rfl (nO rfl rfl Z)) (opsS_cons (fun f w_ _ _ s _ p Z=>L_mv (v:=I i_5) (g_yes rfl (Eq.trans (p 14 31 rfl rfl) (congrArg Value.bool hc126)) rfl) ((s 3 rfl).trans sf3) (nO rfl rfl Z)) (opsS_cons (fun f w_ _ _ _ _ p Z=>L_gtr (g_yes rfl (Eq.trans (p 14 31 rfl rfl) (congrArg Value.bool hc126)) rfl) (p 15 32 rfl rfl) rfl (nO rfl rfl Z)) (opsS_cons (fun f w_ _ _ _ _ p Z=>L_mv (v:=Bo (decide ((i_5 : Int) > 0))) (g_yes rfl (Eq.trans (p 14 31 rfl rfl) (congrArg Value.bool hc126)) rfl) (p 16 33 rfl rfl) (nO rfl rfl Z)) (opsS_cons (fun f w_ _ _ s _ p Z=>L_fa (o':=0) (g_yes rfl (Eq.trans (p 17 34 rfl rfl) (congrArg Value.bool hc139)) rfl) fa_29_0 ((s 1 rfl).trans sf1) rfl (nO rfl rfl Z)) (opsS_cons (fun f w_ _ _ _ _ p Z=>L_ld (v:=v0_0) (g_yes rfl (Eq.trans (p 17 34 rfl rfl) (congrArg Value.bool hc139)) rfl) Tryd.isAgg27 (p 18 35 rfl rfl) (At.cell0 (Blk.at (Star.blkAt 1 Z rfl)) (j:=0) rfl) (nO rfl rfl Z)) (opsS_cons (fun f w_ _ _ s _ p Z=>L_mv (v:=I i_5) (g_yes rfl (Eq.trans (p 17 34 rfl rfl) (congrArg Value.bool hc139)) rfl) ((s 3 rfl).trans sf3) (nO rfl rfl Z)) (opsS_cons (fun f w_ _ _ _ _ p Z=>L_sub (g_yes rfl (Eq.trans (p 17 34 rfl rfl) (congrArg Value.bool hc139)) rfl) (p 20 37 rfl rfl) rfl (nO rfl rfl Z)) (opsS_cons ?_ ?_)))))))))))))))))))
 intro f w_ H52 X52 hS52 hE52 hP52 Z
 refine L_ix (r:=rTerm) (g_yes rfl (Eq.trans (hP52 17 34 rfl rfl) (congrArg Value.bool hc139)) rfl) Tryd.underlying27 Tryd.sizeOf62 (hP52 19 36 rfl rfl) (RP.mono _ h0_0 (Le.trans l7 hE52)) (hP52 21 38 rfl rfl) hx31 (fun g162 o163 cs_g162 hrk_hat164 hat164=>?_)
 obtain rfl:=rTerm_iff.1 hrk_hat164
 exact L_nil ⟨rfl,_,_,rfl,Le.refl _,fun _ _=>⟨_,_,_,rfl,hrk_hat164,hat164⟩,Z⟩
 refine opsS_cons ?_ ?_
 intro f w_ H52 X52 hS52 hE52 hP52 Z
 obtain ⟨g166,o166,cs166,hv166,hrk_hat166,hat166⟩:=(hP52 22 39 rfl rfl)
 obtain rfl:=rTerm_iff.1 hrk_hat166
 refine L_fa (o':=o166 + 1) (g_yes rfl (Eq.trans (hP52 17 34 rfl rfl) (congrArg Value.bool hc139)) rfl) fa_62_1 hv166 rfl (L_nil ⟨rfl,_,_,rfl,Le.refl _,fun _ _=>⟨_,_,_,rfl,hrk_hat166,hat166⟩,Z⟩)
 refine opsS_cons ?_ ?_
 intro f w_ H52 X52 hS52 hE52 hP52 Z
 obtain ⟨g168,o168,cs168,hv168,hrk_hat168,hat168⟩:=(hP52 23 40 rfl rfl)
 obtain rfl:=rTerm_iff.1 hrk_hat168
 refine L_ld (v:=I x31.lit) (g_yes rfl (Eq.trans (hP52 17 34 rfl rfl) (congrArg Value.bool hc139)) rfl) Tryd.isAgg3 hv168 (At.cell (AtH.at hat168 Z.sub) (j:=1) rfl) (L_nil ⟨rfl,_,_,rfl,Le.refl _,fun _ _=>rfl,Z⟩)
 refine opsS_cons ?_ ?_
 intro f w_ H52 X52 hS52 hE52 hP52 Z
 obtain ⟨H170b,l171,s172,z173,k174⟩:=Z.borrow
 refine L_call (g_yes rfl (Eq.trans (hP52 17 34 rfl rfl) (congrArg Value.bool hc139)) rfl) Tryd.call49 (ops1 (hP52 24 41 rfl rfl)) (s_l1Abs_c (n_:=x31.lit) s172 hx41) ?_
 rintro _ w175 ⟨rfl,Z⟩
 have Z:=k174 Z c0
 exact L_nil ⟨rfl,_,_,rfl,Le.refl _,fun _ _=>rfl,Z⟩
 refine opsS_cons (fun f w_ _ _ s _ p Z=>L_fa (o':=1) (g_yes rfl (Eq.trans (p 17 34 rfl rfl) (congrArg Value.bool hc139)) rfl) fa_62_1 ((s 4 rfl).trans rfl) rfl (nO rfl rfl Z)) (opsS_cons (fun f w_ _ _ _ _ p Z=>L_ld (v:=I x_8.lit) (g_yes rfl (Eq.trans (p 17 34 rfl rfl) (congrArg Value.bool hc139)) rfl) Tryd.isAgg3 (p 26 43 rfl rfl) (At.cell0 (Blk.at (Star.blkAt 0 Z rfl)) (j:=1) rfl) (nO rfl rfl Z)) (opsS_nil))
 obtain ⟨H176b,l177,s178,z179,k180⟩:=Z.borrow
 refine L_call (g_yes rfl (Eq.trans (hT52 17 34 rfl rfl) (congrArg Value.bool hc139)) rfl) Tryd.call49 (ops1 (hT52 27 44 rfl rfl)) (s_l1Abs_c (n_:=x_8.lit) s178 hx48) ?_
 rintro _ w181 ⟨rfl,Z⟩
 have Z:=k180 Z c0
 refine L_geq (g_yes rfl (Eq.trans (hT52 17 34 rfl rfl) (congrArg Value.bool hc139)) rfl) (hT52 25 42 rfl rfl) rfl (L_pick (v:=Bo b50) (g_yes rfl (Eq.trans (hT52 14 31 rfl rfl) (congrArg Value.bool hc126)) rfl) (Eq.trans (hT52 17 34 rfl rfl) (congrArg Value.bool hc139)) (congrArg Value.bool (so hb50)) (L_pick (v:=Bo b51) rfl (Eq.trans (hT52 14 31 rfl rfl) (congrArg Value.bool hc126)) (congrArg Value.bool (so hb51)) (nn ?_)))
 have Z:=Z.get 1 rfl
 exact rj hR55 ⟨H52,hE52,((hS52 1 rfl).trans sf1),((hS52 3 rfl).trans sf3),rfl,(Star.keepN 1 Z)⟩
 rw [ite_f hc139] at hb50
 refine W_drawS 28 [isV (Pq g21 1),isV (I x_8.lit),isV (Bo x29),isV (Bo (!x29)),isV (Bo (!x29)),isV (undef),isV (undef),isV (undef),isV (Bo ((!x29) || (decide (x_8.coef < 1)))),isV (Bo ((!x29) || (decide (x_8.coef < 1)))),isV (Pt g21),isV (I x_8.coef),isV (Bo (decide (x_8.coef > 1000))),isV (Bo (((!x29) || (decide (x_8.coef < 1))) || (decide (x_8.coef > 1000)))),isV (Bo (((!x29) || (decide (x_8.coef < 1))) || (decide (x_8.coef > 1000)))),isV (I i_5),isV (Bo (decide ((i_5 : Int) > 0))),isV (Bo (decide ((i_5 : Int) > 0))),isV (undef),isV (undef),isV (undef),isV (undef),isV (undef),isV (undef),isV (undef),isV (undef),isV (undef),isV (undef)] [box g21 62 #[I x_8.coef,I x_8.lit],box g3 29 #[v0_0,I c.bound]] [] ([]) [([],[]),([],[]),([],[]),([],[]),([],[]),([],[]),([],[]),([],[]),([],[]),([],[]),([],[]),([],[]),([],[]),([],[]),([],[]),([],[]),([],[]),([],[]),([],[]),([],[]),([],[]),([],[]),([],[]),([],[]),([],[]),([],[]),([],[]),([],[])] (S:=[]) Tryd_mix (by kernel_rfl) rfl (by kernel_rfl) (amF_cons (mono_V _) (amF_cons (mono_V _) (amF_cons (mono_V _) (amF_cons (mono_V _) (amF_cons (mono_V _) (amF_cons (mono_V _) (amF_cons (mono_V _) (amF_cons (mono_V _) (amF_cons (mono_V _) (amF_cons (mono_V _) (amF_cons (mono_V _) (amF_cons (mono_V _) (amF_cons (mono_V _) (amF_cons (mono_V _) (amF_cons (mono_V _) (amF_cons (mono_V _) (amF_cons (mono_V _) (amF_cons (mono_V _) (amF_cons (mono_V _) (amF_cons (mono_V _) (amF_cons (mono_V _) (amF_cons (mono_V _) (amF_cons (mono_V _) (amF_cons (mono_V _) (amF_cons (mono_V _) (amF_cons (mono_V _) (amF_cons (mono_V _) (amF_cons (mono_V _) amF_nil)))))))))))))))))))))))))))) Z ?_ (fun f w_ H52 hS52 hE52 hT52 Z=>?_)
 refine opsS_cons (fun f w_ _ _ s _ _ Z=>fA 1 fa_62_1 ((s 4 rfl).trans rfl) rfl (nO rfl rfl Z)) (opsS_cons (fun f w_ _ _ _ _ p Z=>ldB 0 Z Tryd.isAgg3 (p 0 17 rfl rfl) rfl rfl (nO rfl rfl Z)) (opsS_cons ?_ ?_))
 intro f w_ H52 X52 hS52 hE52 hP52 Z
 obtain ⟨H188b,l189,s190,z191,k192⟩:=Z.borrow
 refine L_call rfl Tryd.call48 (ops1 (hP52 1 18 rfl rfl)) (s_l1Lit_c (n_:=x_8.lit) s190 hx29) ?_
 rintro _ w193 ⟨rfl,Z⟩
 have Z:=k192 Z c0
 exact L_nil ⟨rfl,_,_,rfl,Le.refl _,fun _ _=>rfl,Z⟩
 refine opsS_cons (fun f w_ _ _ _ _ p Z=>L_not_ rfl (p 2 19 rfl rfl) (nO rfl rfl Z)) (opsS_cons (fun f w_ _ _ _ _ p Z=>mF (p 3 20 rfl rfl) rfl (nO rfl rfl Z)) (oP (fun _ _ p=>gN (p 4 21 rfl rfl) hc56 rfl) (fun _=>rfl) (oP (fun _ _ p=>gN (p 4 21 rfl rfl) hc56 rfl) (fun _=>rfl) (oP (fun _ _ p=>gN (p 4 21 rfl rfl) hc56 rfl) (fun _=>rfl) (opsS_cons (fun f w_ _ _ _ _ p Z=>pkT (v:=Bo ((!x29) || (decide (x_8.coef < 1)))) (p 4 21 rfl rfl) hc56 rfl (or_t hc56) (nO rfl rfl Z)) (opsS_cons (fun f w_ _ _ _ _ p Z=>mF (p 8 25 rfl rfl) rfl (nO rfl rfl Z)) (opsS_cons (fun f w_ _ _ s _ p Z=>L_fa (o':=0) (g_yes rfl (Eq.trans (p 9 26 rfl rfl) (congrArg Value.bool hc57)) rfl) fa_62_0 ((s 4 rfl).trans rfl) rfl (nO rfl rfl Z)) (opsS_cons (fun f w_ _ _ _ _ p Z=>L_ld (v:=I x_8.coef) (g_yes rfl (Eq.trans (p 9 26 rfl rfl) (congrArg Value.bool hc57)) rfl) Tryd.isAgg3 (p 10 27 rfl rfl) (At.cell0 (Blk.at (Star.blkAt 0 Z rfl)) (j:=0) rfl) (nO rfl rfl Z)) (opsS_cons (fun f w_ _ _ _ _ p Z=>L_gtr (g_yes rfl (Eq.trans (p 9 26 rfl rfl) (congrArg Value.bool hc57)) rfl) (p 11 28 rfl rfl) rfl (nO rfl rfl Z)) (opsS_cons (fun f w_ _ _ _ _ p Z=>pkT (v:=Bo (((!x29) || (decide (x_8.coef < 1))) || (decide (x_8.coef > 1000)))) (p 9 26 rfl rfl) hc57 rfl (or_f hc57 (p 12 29 rfl rfl)) (nO rfl rfl Z)) (opsS_cons (fun f w_ _ _ _ _ p Z=>mF (p 13 30 rfl rfl) rfl (nO rfl rfl Z)) (opsS_cons (fun f w_ _ _ s _ p Z=>L_mv (v:=I i_5) (g_yes rfl (Eq.trans (p 14 31 rfl rfl) (congrArg Value.bool hc126)) rfl) ((s 3 rfl).trans sf3) (nO rfl rfl Z)) (opsS_cons (fun f w_ _ _ _ _ p Z=>L_gtr (g_yes rfl (Eq.trans (p 14 31 rfl rfl) (congrArg Value.bool hc126)) rfl) (p 15 32 rfl rfl) rfl (nO rfl rfl Z)) (opsS_cons (fun f w_ _ _ _ _ p Z=>L_mv (v:=Bo (decide ((i_5 : Int) > 0))) (g_yes rfl (Eq.trans (p 14 31 rfl rfl) (congrArg Value.bool hc126)) rfl) (p 16 33 rfl rfl) (nO rfl rfl Z)) (oP (fun _ _ p=>gN (p 17 34 rfl rfl) hc139 rfl) (fun _=>rfl) (oP (fun _ _ p=>gN (p 17 34 rfl rfl) hc139 rfl) (fun _=>rfl) (oP (fun _ _ p=>gN (p 17 34 rfl rfl) hc139 rfl) (fun _=>rfl) (oP (fun _ _ p=>gN (p 17 34 rfl rfl) hc139 rfl) (fun _=>rfl) (oP (fun _ _ p=>gN (p 17 34 rfl rfl) hc139 rfl) (fun _=>rfl) (oP (fun _ _ p=>gN (p 17 34 rfl rfl) hc139 rfl) (fun _=>rfl) (oP (fun _ _ p=>gN (p 17 34 rfl rfl) hc139 rfl) (fun _=>rfl) (oP (fun _ _ p=>gN (p 17 34 rfl rfl) hc139 rfl) (fun _=>rfl) (oP (fun _ _ p=>gN (p 17 34 rfl rfl) hc139 rfl) (fun _=>rfl) (oP (fun _ _ p=>gN (p 17 34 rfl rfl) hc139 rfl) (fun _=>rfl) (opsS_nil)))))))))))))))))))))))))
 refine ps (g_no rfl (Eq.trans (hT52 17 34 rfl rfl) (congrArg Value.bool hc139)) rfl rfl) (ps (g_no rfl (Eq.trans (hT52 17 34 rfl rfl) (congrArg Value.bool hc139)) rfl rfl) (L_pick (v:=Bo b50) (g_yes rfl (Eq.trans (hT52 14 31 rfl rfl) (congrArg Value.bool hc126)) rfl) (Eq.trans (hT52 17 34 rfl rfl) (congrArg Value.bool hc139)) (congrArg Value.bool (so hb50)) (L_pick (v:=Bo b51) rfl (Eq.trans (hT52 14 31 rfl rfl) (congrArg Value.bool hc126)) (congrArg Value.bool (so hb51)) (nn ?_))))
 have Z:=Z.get 1 rfl
 exact rj hR55 ⟨H52,hE52,((hS52 1 rfl).trans sf1),((hS52 3 rfl).trans sf3),rfl,(Star.keepN 1 Z)⟩
 rcases Bool.eq_false_or_eq_true ((!x29) || (decide (x_8.coef < 1))) with hc194 | hc194
 rcases Bool.eq_false_or_eq_true (((!x29) || (decide (x_8.coef < 1))) || (decide (x_8.coef > 1000))) with hc195 | hc195
 rw [ite_t hc195] at hb51
 refine W_drawS 28 [isV (Pq g21 1),isV (I x_8.lit),isV (Bo x29),isV (Bo (!x29)),isV (Bo (!x29)),isV (Pt g21),isV (I x_8.coef),isV (Bo (decide (x_8.coef < 1))),isV (Bo ((!x29) || (decide (x_8.coef < 1)))),isV (Bo ((!x29) || (decide (x_8.coef < 1)))),isV (undef),isV (undef),isV (undef),isV (Bo (((!x29) || (decide (x_8.coef < 1))) || (decide (x_8.coef > 1000)))),isV (Bo (((!x29) || (decide (x_8.coef < 1))) || (decide (x_8.coef > 1000)))),isV (undef),isV (undef),isV (undef),isV (undef),isV (undef),isV (undef),isV (undef),isV (undef),isV (undef),isV (undef),isV (undef),isV (undef),isV (undef)] [box g21 62 #[I x_8.coef,I x_8.lit],box g3 29 #[v0_0,I c.bound]] [] ([]) [([],[]),([],[]),([],[]),([],[]),([],[]),([],[]),([],[]),([],[]),([],[]),([],[]),([],[]),([],[]),([],[]),([],[]),([],[]),([],[]),([],[]),([],[]),([],[]),([],[]),([],[]),([],[]),([],[]),([],[]),([],[]),([],[]),([],[]),([],[])] (S:=[]) Tryd_mix (by kernel_rfl) rfl (by kernel_rfl) (amF_cons (mono_V _) (amF_cons (mono_V _) (amF_cons (mono_V _) (amF_cons (mono_V _) (amF_cons (mono_V _) (amF_cons (mono_V _) (amF_cons (mono_V _) (amF_cons (mono_V _) (amF_cons (mono_V _) (amF_cons (mono_V _) (amF_cons (mono_V _) (amF_cons (mono_V _) (amF_cons (mono_V _) (amF_cons (mono_V _) (amF_cons (mono_V _) (amF_cons (mono_V _) (amF_cons (mono_V _) (amF_cons (mono_V _) (amF_cons (mono_V _) (amF_cons (mono_V _) (amF_cons (mono_V _) (amF_cons (mono_V _) (amF_cons (mono_V _) (amF_cons (mono_V _) (amF_cons (mono_V _) (amF_cons (mono_V _) (amF_cons (mono_V _) (amF_cons (mono_V _) amF_nil)))))))))))))))))))))))))))) Z ?_ (fun f w_ H52 hS52 hE52 hT52 Z=>?_)
 refine opsS_cons (fun f w_ _ _ s _ _ Z=>fA 1 fa_62_1 ((s 4 rfl).trans rfl) rfl (nO rfl rfl Z)) (opsS_cons (fun f w_ _ _ _ _ p Z=>ldB 0 Z Tryd.isAgg3 (p 0 17 rfl rfl) rfl rfl (nO rfl rfl Z)) (opsS_cons ?_ ?_))
 intro f w_ H52 X52 hS52 hE52 hP52 Z
 obtain ⟨H202b,l203,s204,z205,k206⟩:=Z.borrow
 refine L_call rfl Tryd.call48 (ops1 (hP52 1 18 rfl rfl)) (s_l1Lit_c (n_:=x_8.lit) s204 hx29) ?_
 rintro _ w207 ⟨rfl,Z⟩
 have Z:=k206 Z c0
 exact L_nil ⟨rfl,_,_,rfl,Le.refl _,fun _ _=>rfl,Z⟩
 refine opsS_cons (fun f w_ _ _ _ _ p Z=>L_not_ rfl (p 2 19 rfl rfl) (nO rfl rfl Z)) (opsS_cons (fun f w_ _ _ _ _ p Z=>mF (p 3 20 rfl rfl) rfl (nO rfl rfl Z)) (opsS_cons (fun f w_ _ _ s _ p Z=>L_fa (o':=0) (g_yes rfl (Eq.trans (p 4 21 rfl rfl) (congrArg Value.bool hc56)) rfl) fa_62_0 ((s 4 rfl).trans rfl) rfl (nO rfl rfl Z)) (opsS_cons (fun f w_ _ _ _ _ p Z=>L_ld (v:=I x_8.coef) (g_yes rfl (Eq.trans (p 4 21 rfl rfl) (congrArg Value.bool hc56)) rfl) Tryd.isAgg3 (p 5 22 rfl rfl) (At.cell0 (Blk.at (Star.blkAt 0 Z rfl)) (j:=0) rfl) (nO rfl rfl Z)) (opsS_cons (fun f w_ _ _ _ _ p Z=>L_lss (g_yes rfl (Eq.trans (p 4 21 rfl rfl) (congrArg Value.bool hc56)) rfl) (p 6 23 rfl rfl) rfl (nO rfl rfl Z)) (opsS_cons (fun f w_ _ _ _ _ p Z=>pkT (v:=Bo ((!x29) || (decide (x_8.coef < 1)))) (p 4 21 rfl rfl) hc56 rfl (or_f hc56 (p 7 24 rfl rfl)) (nO rfl rfl Z)) (opsS_cons (fun f w_ _ _ _ _ p Z=>mF (p 8 25 rfl rfl) rfl (nO rfl rfl Z)) (oP (fun _ _ p=>gN (p 9 26 rfl rfl) hc194 rfl) (fun _=>rfl) (oP (fun _ _ p=>gN (p 9 26 rfl rfl) hc194 rfl) (fun _=>rfl) (oP (fun _ _ p=>gN (p 9 26 rfl rfl) hc194 rfl) (fun _=>rfl) (opsS_cons (fun f w_ _ _ _ _ p Z=>pkT (v:=Bo (((!x29) || (decide (x_8.coef < 1))) || (decide (x_8.coef > 1000)))) (p 9 26 rfl rfl) hc194 rfl (or_t hc194) (nO rfl rfl Z)) (opsS_cons (fun f w_ _ _ _ _ p Z=>mF (p 13 30 rfl rfl) rfl (nO rfl rfl Z)) (oP (fun _ _ p=>gN (p 14 31 rfl rfl) hc195 rfl) (fun _=>rfl) (oP (fun _ _ p=>gN (p 14 31 rfl rfl) hc195 rfl) (fun _=>rfl) (oP (fun _ _ p=>gN (p 14 31 rfl rfl) hc195 rfl) (fun _=>rfl) (oP (fun _ _ p=>g_undef rfl (p 17 34 rfl rfl) rfl) (fun _=>rfl) (oP (fun _ _ p=>g_undef rfl (p 17 34 rfl rfl) rfl) (fun _=>rfl) (oP (fun _ _ p=>g_undef rfl (p 17 34 rfl rfl) rfl) (fun _=>rfl) (oP (fun _ _ p=>g_undef rfl (p 17 34 rfl rfl) rfl) (fun _=>rfl) (oP (fun _ _ p=>g_undef rfl (p 17 34 rfl rfl) rfl) (fun _=>rfl) (oP (fun _ _ p=>g_undef rfl (p 17 34 rfl rfl) rfl) (fun _=>rfl) (oP (fun _ _ p=>g_undef rfl (p 17 34 rfl rfl) rfl) (fun _=>rfl) (oP (fun _ _ p=>g_undef rfl (p 17 34 rfl rfl) rfl) (fun _=>rfl) (oP (fun _ _ p=>g_undef rfl (p 17 34 rfl rfl) rfl) (fun _=>rfl) (oP (fun _ _ p=>g_undef rfl (p 17 34 rfl rfl) rfl) (fun _=>rfl) (opsS_nil)))))))))))))))))))))))))
 refine ps (g_undef rfl (hT52 17 34 rfl rfl) rfl) (ps (g_undef rfl (hT52 17 34 rfl rfl) rfl) (ps (g_no rfl (Eq.trans (hT52 14 31 rfl rfl) (congrArg Value.bool hc195)) rfl rfl) (L_pick (v:=Bo b51) rfl (Eq.trans (hT52 14 31 rfl rfl) (congrArg Value.bool hc195)) (congrArg Value.bool (so hb51)) (nn ?_))))
 have Z:=Z.get 1 rfl
 exact rj hR55 ⟨H52,hE52,((hS52 1 rfl).trans sf1),((hS52 3 rfl).trans sf3),rfl,(Star.keepN 1 Z)⟩
 rw [ite_f hc195] at hb51
 obtain ⟨b50,hb50,hb51⟩:=bind_some hb51
 rcases Bool.eq_false_or_eq_true (decide ((i_5 : Int) > 0)) with hc208 | hc208
 rw [ite_t hc208] at hb50
 obtain ⟨x31,hx31,hb50⟩:=bind_some hb50
 obtain ⟨x41,hx41,hb50⟩:=bind_some hb50
 obtain ⟨x48,hx48,hb50⟩:=bind_some hb50
 refine W_drawS 28 [isV (Pq g21 1),isV (I x_8.lit),isV (Bo x29),isV (Bo (!x29)),isV (Bo (!x29)),isV (Pt g21),isV (I x_8.coef),isV (Bo (decide (x_8.coef < 1))),isV (Bo ((!x29) || (decide (x_8.coef < 1)))),isV (Bo ((!x29) || (decide (x_8.coef < 1)))),isV (undef),isV (undef),isV (undef),isV (Bo (((!x29) || (decide (x_8.coef < 1))) || (decide (x_8.coef > 1000)))),isV (Bo (((!x29) || (decide (x_8.coef < 1))) || (decide (x_8.coef > 1000)))),isV (I i_5),isV (Bo (decide ((i_5 : Int) > 0))),isV (Bo (decide ((i_5 : Int) > 0))),isV (Pt g3),isV (v0_0),isV (I i_5),isV (I (i64 ((i_5 : Int) - 1))),isEl rTerm x31 0,isEl rTerm x31 1,isV (I x31.lit),isV (I x41),isV (Pq g21 1),isV (I x_8.lit)] [box g21 62 #[I x_8.coef,I x_8.lit],box g3 29 #[v0_0,I c.bound]] [] ([]) [([],[]),([],[]),([],[]),([],[]),([],[]),([],[]),([],[]),([],[]),([],[]),([],[]),([],[]),([],[]),([],[]),([],[]),([],[]),([],[]),([],[]),([],[]),([],[]),([],[]),([],[]),([],[]),([],[]),([],[]),([],[]),([],[]),([],[]),([],[])] (S:=[]) Tryd_mix (by kernel_rfl) rfl (by kernel_rfl) (amF_cons (mono_V _) (amF_cons (mono_V _) (amF_cons (mono_V _) (amF_cons (mono_V _) (amF_cons (mono_V _) (amF_cons (mono_V _) (amF_cons (mono_V _) (amF_cons (mono_V _) (amF_cons (mono_V _) (amF_cons (mono_V _) (amF_cons (mono_V _) (amF_cons (mono_V _) (amF_cons (mono_V _) (amF_cons (mono_V _) (amF_cons (mono_V _) (amF_cons (mono_V _) (amF_cons (mono_V _) (amF_cons (mono_V _) (amF_cons (mono_V _) (amF_cons (mono_V _) (amF_cons (mono_V _) (amF_cons (mono_V _) (amF_cons (mono_el _ _ _) (amF_cons (mono_el _ _ _) (amF_cons (mono_V _) (amF_cons (mono_V _) (amF_cons (mono_V _) (amF_cons (mono_V _) amF_nil)))))))))))))))))))))))))))) Z ?_ (fun f w_ H52 hS52 hE52 hT52 Z=>?_)
 refine opsS_cons (fun f w_ _ _ s _ _ Z=>fA 1 fa_62_1 ((s 4 rfl).trans rfl) rfl (nO rfl rfl Z)) (opsS_cons (fun f w_ _ _ _ _ p Z=>ldB 0 Z Tryd.isAgg3 (p 0 17 rfl rfl) rfl rfl (nO rfl rfl Z)) (opsS_cons ?_ ?_))
 intro f w_ H52 X52 hS52 hE52 hP52 Z
 obtain ⟨H225b,l226,s227,z228,k229⟩:=Z.borrow
 refine L_call rfl Tryd.call48 (ops1 (hP52 1 18 rfl rfl)) (s_l1Lit_c (n_:=x_8.lit) s227 hx29) ?_
 rintro _ w230 ⟨rfl,Z⟩
 have Z:=k229 Z c0
 exact L_nil ⟨rfl,_,_,rfl,Le.refl _,fun _ _=>rfl,Z⟩
 refine opsS_cons (fun f w_ _ _ _ _ p Z=>L_not_ rfl (p 2 19 rfl rfl) (nO rfl rfl Z)) (opsS_cons (fun f w_ _ _ _ _ p Z=>mF (p 3 20 rfl rfl) rfl (nO rfl rfl Z)) (opsS_cons (fun f w_ _ _ s _ p Z=>L_fa (o':=0) (g_yes rfl (Eq.trans (p 4 21 rfl rfl) (congrArg Value.bool hc56)) rfl) fa_62_0 ((s 4 rfl).trans rfl) rfl (nO rfl rfl Z)) (opsS_cons (fun f w_ _ _ _ _ p Z=>L_ld (v:=I x_8.coef) (g_yes rfl (Eq.trans (p 4 21 rfl rfl) (congrArg Value.bool hc56)) rfl) Tryd.isAgg3 (p 5 22 rfl rfl) (At.cell0 (Blk.at (Star.blkAt 0 Z rfl)) (j:=0) rfl) (nO rfl rfl Z)) (opsS_cons (fun f w_ _ _ _ _ p Z=>L_lss (g_yes rfl (Eq.trans (p 4 21 rfl rfl) (congrArg Value.bool hc56)) rfl) (p 6 23 rfl rfl) rfl (nO rfl rfl Z)) (opsS_cons (fun f w_ _ _ _ _ p Z=>pkT (v:=Bo ((!x29) || (decide (x_8.coef < 1)))) (p 4 21 rfl rfl) hc56 rfl (or_f hc56 (p 7 24 rfl rfl)) (nO rfl rfl Z)) (opsS_cons (fun f w_ _ _ _ _ p Z=>mF (p 8 25 rfl rfl) rfl (nO rfl rfl Z)) (oP (fun _ _ p=>gN (p 9 26 rfl rfl) hc194 rfl) (fun _=>rfl) (oP (fun _ _ p=>gN (p 9 26 rfl rfl) hc194 rfl) (fun _=>rfl) (oP (fun _ _ p=>gN (p 9 26 rfl rfl) hc194 rfl) (fun _=>rfl) (opsS_cons (fun f w_ _ _ _ _ p Z=>pkT (v:=Bo (((!x29) || (decide (x_8.coef < 1))) || (decide (x_8.coef > 1000)))) (p 9 26 rfl rfl) hc194 rfl (or_t hc194) (nO rfl rfl Z)) (opsS_cons (fun f w_ _ _ _ _ p Z=>mF (p 13 30 rfl rfl) rfl (nO rfl rfl Z)) (opsS_cons (fun f w_ _ _ s _ p Z=>L_mv (v:=I i_5) (g_yes rfl (Eq.trans (p 14 31 rfl rfl) (congrArg Value.bool hc195)) rfl) ((s 3 rfl).trans sf3) (nO rfl rfl Z)) (opsS_cons (fun f w_ _ _ _ _ p Z=>L_gtr (g_yes rfl (Eq.trans (p 14 31 rfl rfl) (congrArg Value.bool hc195)) rfl) (p 15 32 rfl rfl) rfl (nO rfl rfl Z)) (opsS_cons (fun f w_ _ _ _ _ p Z=>L_mv (v:=Bo (decide ((i_5 : Int) > 0))) (g_yes rfl (Eq.trans (p 14 31 rfl rfl) (congrArg Value.bool hc195)) rfl) (p 16 33 rfl rfl) (nO rfl rfl Z)) (opsS_cons (fun f w_ _ _ s _ p Z=>L_fa (o':=0) (g_yes rfl (Eq.trans (p 17 34 rfl rfl) (congrArg Value.bool hc208)) rfl) fa_29_0 ((s 1 rfl).trans sf1) rfl (nO rfl rfl Z)) (opsS_cons (fun f w_ _ _ _ _ p Z=>L_ld (v:=v0_0) (g_yes rfl (Eq.trans (p 17 34 rfl rfl) (congrArg Value.bool hc208)) rfl) Tryd.isAgg27 (p 18 35 rfl rfl) (At.cell0 (Blk.at (Star.blkAt 1 Z rfl)) (j:=0) rfl) (nO rfl rfl Z)) (opsS_cons (fun f w_ _ _ s _ p Z=>L_mv (v:=I i_5) (g_yes rfl (Eq.trans (p 17 34 rfl rfl) (congrArg Value.bool hc208)) rfl) ((s 3 rfl).trans sf3) (nO rfl rfl Z)) (opsS_cons (fun f w_ _ _ _ _ p Z=>L_sub (g_yes rfl (Eq.trans (p 17 34 rfl rfl) (congrArg Value.bool hc208)) rfl) (p 20 37 rfl rfl) rfl (nO rfl rfl Z)) (opsS_cons ?_ ?_)))))))))))))))))))
 intro f w_ H52 X52 hS52 hE52 hP52 Z
 refine L_ix (r:=rTerm) (g_yes rfl (Eq.trans (hP52 17 34 rfl rfl) (congrArg Value.bool hc208)) rfl) Tryd.underlying27 Tryd.sizeOf62 (hP52 19 36 rfl rfl) (RP.mono _ h0_0 (Le.trans l7 hE52)) (hP52 21 38 rfl rfl) hx31 (fun g231 o232 cs_g231 hrk_hat233 hat233=>?_)
 obtain rfl:=rTerm_iff.1 hrk_hat233
 exact L_nil ⟨rfl,_,_,rfl,Le.refl _,fun _ _=>⟨_,_,_,rfl,hrk_hat233,hat233⟩,Z⟩
 refine opsS_cons ?_ ?_
 intro f w_ H52 X52 hS52 hE52 hP52 Z
 obtain ⟨g235,o235,cs235,hv235,hrk_hat235,hat235⟩:=(hP52 22 39 rfl rfl)
 obtain rfl:=rTerm_iff.1 hrk_hat235
 refine L_fa (o':=o235 + 1) (g_yes rfl (Eq.trans (hP52 17 34 rfl rfl) (congrArg Value.bool hc208)) rfl) fa_62_1 hv235 rfl (L_nil ⟨rfl,_,_,rfl,Le.refl _,fun _ _=>⟨_,_,_,rfl,hrk_hat235,hat235⟩,Z⟩)
 refine opsS_cons ?_ ?_
 intro f w_ H52 X52 hS52 hE52 hP52 Z
 obtain ⟨g237,o237,cs237,hv237,hrk_hat237,hat237⟩:=(hP52 23 40 rfl rfl)
 obtain rfl:=rTerm_iff.1 hrk_hat237
 refine L_ld (v:=I x31.lit) (g_yes rfl (Eq.trans (hP52 17 34 rfl rfl) (congrArg Value.bool hc208)) rfl) Tryd.isAgg3 hv237 (At.cell (AtH.at hat237 Z.sub) (j:=1) rfl) (L_nil ⟨rfl,_,_,rfl,Le.refl _,fun _ _=>rfl,Z⟩)
 refine opsS_cons ?_ ?_
 intro f w_ H52 X52 hS52 hE52 hP52 Z
 obtain ⟨H239b,l240,s241,z242,k243⟩:=Z.borrow
 refine L_call (g_yes rfl (Eq.trans (hP52 17 34 rfl rfl) (congrArg Value.bool hc208)) rfl) Tryd.call49 (ops1 (hP52 24 41 rfl rfl)) (s_l1Abs_c (n_:=x31.lit) s241 hx41) ?_
 rintro _ w244 ⟨rfl,Z⟩
 have Z:=k243 Z c0
 exact L_nil ⟨rfl,_,_,rfl,Le.refl _,fun _ _=>rfl,Z⟩
 refine opsS_cons (fun f w_ _ _ s _ p Z=>L_fa (o':=1) (g_yes rfl (Eq.trans (p 17 34 rfl rfl) (congrArg Value.bool hc208)) rfl) fa_62_1 ((s 4 rfl).trans rfl) rfl (nO rfl rfl Z)) (opsS_cons (fun f w_ _ _ _ _ p Z=>L_ld (v:=I x_8.lit) (g_yes rfl (Eq.trans (p 17 34 rfl rfl) (congrArg Value.bool hc208)) rfl) Tryd.isAgg3 (p 26 43 rfl rfl) (At.cell0 (Blk.at (Star.blkAt 0 Z rfl)) (j:=1) rfl) (nO rfl rfl Z)) (opsS_nil))
 obtain ⟨H245b,l246,s247,z248,k249⟩:=Z.borrow
 refine L_call (g_yes rfl (Eq.trans (hT52 17 34 rfl rfl) (congrArg Value.bool hc208)) rfl) Tryd.call49 (ops1 (hT52 27 44 rfl rfl)) (s_l1Abs_c (n_:=x_8.lit) s247 hx48) ?_
 rintro _ w250 ⟨rfl,Z⟩
 have Z:=k249 Z c0
 refine L_geq (g_yes rfl (Eq.trans (hT52 17 34 rfl rfl) (congrArg Value.bool hc208)) rfl) (hT52 25 42 rfl rfl) rfl (L_pick (v:=Bo b50) (g_yes rfl (Eq.trans (hT52 14 31 rfl rfl) (congrArg Value.bool hc195)) rfl) (Eq.trans (hT52 17 34 rfl rfl) (congrArg Value.bool hc208)) (congrArg Value.bool (so hb50)) (L_pick (v:=Bo b51) rfl (Eq.trans (hT52 14 31 rfl rfl) (congrArg Value.bool hc195)) (congrArg Value.bool (so hb51)) (nn ?_)))
 have Z:=Z.get 1 rfl
 exact rj hR55 ⟨H52,hE52,((hS52 1 rfl).trans sf1),((hS52 3 rfl).trans sf3),rfl,(Star.keepN 1 Z)⟩
 rw [ite_f hc208] at hb50
 refine W_drawS 28 [isV (Pq g21 1),isV (I x_8.lit),isV (Bo x29),isV (Bo (!x29)),isV (Bo (!x29)),isV (Pt g21),isV (I x_8.coef),isV (Bo (decide (x_8.coef < 1))),isV (Bo ((!x29) || (decide (x_8.coef < 1)))),isV (Bo ((!x29) || (decide (x_8.coef < 1)))),isV (undef),isV (undef),isV (undef),isV (Bo (((!x29) || (decide (x_8.coef < 1))) || (decide (x_8.coef > 1000)))),isV (Bo (((!x29) || (decide (x_8.coef < 1))) || (decide (x_8.coef > 1000)))),isV (I i_5),isV (Bo (decide ((i_5 : Int) > 0))),isV (Bo (decide ((i_5 : Int) > 0))),isV (undef),isV (undef),isV (undef),isV (undef),isV (undef),isV (undef),isV (undef),isV (undef),isV (undef),isV (undef)] [box g21 62 #[I x_8.coef,I x_8.lit],box g3 29 #[v0_0,I c.bound]] [] ([]) [([],[]),([],[]),([],[]),([],[]),([],[]),([],[]),([],[]),([],[]),([],[]),([],[]),([],[]),([],[]),([],[]),([],[]),([],[]),([],[]),([],[]),([],[]),([],[]),([],[]),([],[]),([],[]),([],[]),([],[]),([],[]),([],[]),([],[]),([],[])] (S:=[]) Tryd_mix (by kernel_rfl) rfl (by kernel_rfl) (amF_cons (mono_V _) (amF_cons (mono_V _) (amF_cons (mono_V _) (amF_cons (mono_V _) (amF_cons (mono_V _) (amF_cons (mono_V _) (amF_cons (mono_V _) (amF_cons (mono_V _) (amF_cons (mono_V _) (amF_cons (mono_V _) (amF_cons (mono_V _) (amF_cons (mono_V _) (amF_cons (mono_V _) (amF_cons (mono_V _) (amF_cons (mono_V _) (amF_cons (mono_V _) (amF_cons (mono_V _) (amF_cons (mono_V _) (amF_cons (mono_V _) (amF_cons (mono_V _) (amF_cons (mono_V _) (amF_cons (mono_V _) (amF_cons (mono_V _) (amF_cons (mono_V _) (amF_cons (mono_V _) (amF_cons (mono_V _) (amF_cons (mono_V _) (amF_cons (mono_V _) amF_nil)))))))))))))))))))))))))))) Z ?_ (fun f w_ H52 hS52 hE52 hT52 Z=>?_)
 refine opsS_cons (fun f w_ _ _ s _ _ Z=>fA 1 fa_62_1 ((s 4 rfl).trans rfl) rfl (nO rfl rfl Z)) (opsS_cons (fun f w_ _ _ _ _ p Z=>ldB 0 Z Tryd.isAgg3 (p 0 17 rfl rfl) rfl rfl (nO rfl rfl Z)) (opsS_cons ?_ ?_))
 intro f w_ H52 X52 hS52 hE52 hP52 Z
 obtain ⟨H257b,l258,s259,z260,k261⟩:=Z.borrow
 refine L_call rfl Tryd.call48 (ops1 (hP52 1 18 rfl rfl)) (s_l1Lit_c (n_:=x_8.lit) s259 hx29) ?_
 rintro _ w262 ⟨rfl,Z⟩
 have Z:=k261 Z c0
 exact L_nil ⟨rfl,_,_,rfl,Le.refl _,fun _ _=>rfl,Z⟩
 refine opsS_cons (fun f w_ _ _ _ _ p Z=>L_not_ rfl (p 2 19 rfl rfl) (nO rfl rfl Z)) (opsS_cons (fun f w_ _ _ _ _ p Z=>mF (p 3 20 rfl rfl) rfl (nO rfl rfl Z)) (opsS_cons (fun f w_ _ _ s _ p Z=>L_fa (o':=0) (g_yes rfl (Eq.trans (p 4 21 rfl rfl) (congrArg Value.bool hc56)) rfl) fa_62_0 ((s 4 rfl).trans rfl) rfl (nO rfl rfl Z)) (opsS_cons (fun f w_ _ _ _ _ p Z=>L_ld (v:=I x_8.coef) (g_yes rfl (Eq.trans (p 4 21 rfl rfl) (congrArg Value.bool hc56)) rfl) Tryd.isAgg3 (p 5 22 rfl rfl) (At.cell0 (Blk.at (Star.blkAt 0 Z rfl)) (j:=0) rfl) (nO rfl rfl Z)) (opsS_cons (fun f w_ _ _ _ _ p Z=>L_lss (g_yes rfl (Eq.trans (p 4 21 rfl rfl) (congrArg Value.bool hc56)) rfl) (p 6 23 rfl rfl) rfl (nO rfl rfl Z)) (opsS_cons (fun f w_ _ _ _ _ p Z=>pkT (v:=Bo ((!x29) || (decide (x_8.coef < 1)))) (p 4 21 rfl rfl) hc56 rfl (or_f hc56 (p 7 24 rfl rfl)) (nO rfl rfl Z)) (opsS_cons (fun f w_ _ _ _ _ p Z=>mF (p 8 25 rfl rfl) rfl (nO rfl rfl Z)) (oP (fun _ _ p=>gN (p 9 26 rfl rfl) hc194 rfl) (fun _=>rfl) (oP (fun _ _ p=>gN (p 9 26 rfl rfl) hc194 rfl) (fun _=>rfl) (oP (fun _ _ p=>gN (p 9 26 rfl rfl) hc194 rfl) (fun _=>rfl) (opsS_cons (fun f w_ _ _ _ _ p Z=>pkT (v:=Bo (((!x29) || (decide (x_8.coef < 1))) || (decide (x_8.coef > 1000)))) (p 9 26 rfl rfl) hc194 rfl (or_t hc194) (nO rfl rfl Z)) (opsS_cons (fun f w_ _ _ _ _ p Z=>mF (p 13 30 rfl rfl) rfl (nO rfl rfl Z)) (opsS_cons (fun f w_ _ _ s _ p Z=>L_mv (v:=I i_5) (g_yes rfl (Eq.trans (p 14 31 rfl rfl) (congrArg Value.bool hc195)) rfl) ((s 3 rfl).trans sf3) (nO rfl rfl Z)) (opsS_cons (fun f w_ _ _ _ _ p Z=>L_gtr (g_yes rfl (Eq.trans (p 14 31 rfl rfl) (congrArg Value.bool hc195)) rfl) (p 15 32 rfl rfl) rfl (nO rfl rfl Z)) (opsS_cons (fun f w_ _ _ _ _ p Z=>L_mv (v:=Bo (decide ((i_5 : Int) > 0))) (g_yes rfl (Eq.trans (p 14 31 rfl rfl) (congrArg Value.bool hc195)) rfl) (p 16 33 rfl rfl) (nO rfl rfl Z)) (oP (fun _ _ p=>gN (p 17 34 rfl rfl) hc208 rfl) (fun _=>rfl) (oP (fun _ _ p=>gN (p 17 34 rfl rfl) hc208 rfl) (fun _=>rfl) (oP (fun _ _ p=>gN (p 17 34 rfl rfl) hc208 rfl) (fun _=>rfl) (oP (fun _ _ p=>gN (p 17 34 rfl rfl) hc208 rfl) (fun _=>rfl) (oP (fun _ _ p=>gN (p 17 34 rfl rfl) hc208 rfl) (fun _=>rfl) (oP (fun _ _ p=>gN (p 17 34 rfl rfl) hc208 rfl) (fun _=>rfl) (oP (fun _ _ p=>gN (p 17 34 rfl rfl) hc208 rfl) (fun _=>rfl) (oP (fun _ _ p=>gN (p 17 34 rfl rfl) hc208 rfl) (fun _=>rfl) (oP (fun _ _ p=>gN (p 17 34 rfl rfl) hc208 rfl) (fun _=>rfl) (oP (fun _ _ p=>gN (p 17 34 rfl rfl) hc208 rfl) (fun _=>rfl) (opsS_nil)))))))))))))))))))))))))
 refine ps (g_no rfl (Eq.trans (hT52 17 34 rfl rfl) (congrArg Value.bool hc208)) rfl rfl) (ps (g_no rfl (Eq.trans (hT52 17 34 rfl rfl) (congrArg Value.bool hc208)) rfl rfl) (L_pick (v:=Bo b50) (g_yes rfl (Eq.trans (hT52 14 31 rfl rfl) (congrArg Value.bool hc195)) rfl) (Eq.trans (hT52 17 34 rfl rfl) (congrArg Value.bool hc208)) (congrArg Value.bool (so hb50)) (L_pick (v:=Bo b51) rfl (Eq.trans (hT52 14 31 rfl rfl) (congrArg Value.bool hc195)) (congrArg Value.bool (so hb51)) (nn ?_))))
 have Z:=Z.get 1 rfl
 exact rj hR55 ⟨H52,hE52,((hS52 1 rfl).trans sf1),((hS52 3 rfl).trans sf3),rfl,(Star.keepN 1 Z)⟩
 rcases Bool.eq_false_or_eq_true (((!x29) || (decide (x_8.coef < 1))) || (decide (x_8.coef > 1000))) with hc263 | hc263
 rw [ite_t hc263] at hb51
 refine W_drawS 28 [isV (Pq g21 1),isV (I x_8.lit),isV (Bo x29),isV (Bo (!x29)),isV (Bo (!x29)),isV (Pt g21),isV (I x_8.coef),isV (Bo (decide (x_8.coef < 1))),isV (Bo ((!x29) || (decide (x_8.coef < 1)))),isV (Bo ((!x29) || (decide (x_8.coef < 1)))),isV (Pt g21),isV (I x_8.coef),isV (Bo (decide (x_8.coef > 1000))),isV (Bo (((!x29) || (decide (x_8.coef < 1))) || (decide (x_8.coef > 1000)))),isV (Bo (((!x29) || (decide (x_8.coef < 1))) || (decide (x_8.coef > 1000)))),isV (undef),isV (undef),isV (undef),isV (undef),isV (undef),isV (undef),isV (undef),isV (undef),isV (undef),isV (undef),isV (undef),isV (undef),isV (undef)] [box g21 62 #[I x_8.coef,I x_8.lit],box g3 29 #[v0_0,I c.bound]] [] ([]) [([],[]),([],[]),([],[]),([],[]),([],[]),([],[]),([],[]),([],[]),([],[]),([],[]),([],[]),([],[]),([],[]),([],[]),([],[]),([],[]),([],[]),([],[]),([],[]),([],[]),([],[]),([],[]),([],[]),([],[]),([],[]),([],[]),([],[]),([],[])] (S:=[]) Tryd_mix (by kernel_rfl) rfl (by kernel_rfl) (amF_cons (mono_V _) (amF_cons (mono_V _) (amF_cons (mono_V _) (amF_cons (mono_V _) (amF_cons (mono_V _) (amF_cons (mono_V _) (amF_cons (mono_V _) (amF_cons (mono_V _) (amF_cons (mono_V _) (amF_cons (mono_V _) (amF_cons (mono_V _) (amF_cons (mono_V _) (amF_cons (mono_V _) (amF_cons (mono_V _) (amF_cons (mono_V _) (amF_cons (mono_V _) (amF_cons (mono_V _) (amF_cons (mono_V _) (amF_cons (mono_V _) (amF_cons (mono_V _) (amF_cons (mono_V _) (amF_cons (mono_V _) (amF_cons (mono_V _) (amF_cons (mono_V _) (amF_cons (mono_V _) (amF_cons (mono_V _) (amF_cons (mono_V _) (amF_cons (mono_V _) amF_nil)))))))))))))))))))))))))))) Z ?_ (fun f w_ H52 hS52 hE52 hT52 Z=>?_)
 refine opsS_cons (fun f w_ _ _ s _ _ Z=>fA 1 fa_62_1 ((s 4 rfl).trans rfl) rfl (nO rfl rfl Z)) (opsS_cons (fun f w_ _ _ _ _ p Z=>ldB 0 Z Tryd.isAgg3 (p 0 17 rfl rfl) rfl rfl (nO rfl rfl Z)) (opsS_cons ?_ ?_))
 intro f w_ H52 X52 hS52 hE52 hP52 Z
 obtain ⟨H270b,l271,s272,z273,k274⟩:=Z.borrow
 refine L_call rfl Tryd.call48 (ops1 (hP52 1 18 rfl rfl)) (s_l1Lit_c (n_:=x_8.lit) s272 hx29) ?_
 rintro _ w275 ⟨rfl,Z⟩
 have Z:=k274 Z c0
 exact L_nil ⟨rfl,_,_,rfl,Le.refl _,fun _ _=>rfl,Z⟩
 refine opsS_cons (fun f w_ _ _ _ _ p Z=>L_not_ rfl (p 2 19 rfl rfl) (nO rfl rfl Z)) (opsS_cons (fun f w_ _ _ _ _ p Z=>mF (p 3 20 rfl rfl) rfl (nO rfl rfl Z)) (opsS_cons (fun f w_ _ _ s _ p Z=>L_fa (o':=0) (g_yes rfl (Eq.trans (p 4 21 rfl rfl) (congrArg Value.bool hc56)) rfl) fa_62_0 ((s 4 rfl).trans rfl) rfl (nO rfl rfl Z)) (opsS_cons (fun f w_ _ _ _ _ p Z=>L_ld (v:=I x_8.coef) (g_yes rfl (Eq.trans (p 4 21 rfl rfl) (congrArg Value.bool hc56)) rfl) Tryd.isAgg3 (p 5 22 rfl rfl) (At.cell0 (Blk.at (Star.blkAt 0 Z rfl)) (j:=0) rfl) (nO rfl rfl Z)) (opsS_cons (fun f w_ _ _ _ _ p Z=>L_lss (g_yes rfl (Eq.trans (p 4 21 rfl rfl) (congrArg Value.bool hc56)) rfl) (p 6 23 rfl rfl) rfl (nO rfl rfl Z)) (opsS_cons (fun f w_ _ _ _ _ p Z=>pkT (v:=Bo ((!x29) || (decide (x_8.coef < 1)))) (p 4 21 rfl rfl) hc56 rfl (or_f hc56 (p 7 24 rfl rfl)) (nO rfl rfl Z)) (opsS_cons (fun f w_ _ _ _ _ p Z=>mF (p 8 25 rfl rfl) rfl (nO rfl rfl Z)) (opsS_cons (fun f w_ _ _ s _ p Z=>L_fa (o':=0) (g_yes rfl (Eq.trans (p 9 26 rfl rfl) (congrArg Value.bool hc194)) rfl) fa_62_0 ((s 4 rfl).trans rfl) rfl (nO rfl rfl Z)) (opsS_cons (fun f w_ _ _ _ _ p Z=>L_ld (v:=I x_8.coef) (g_yes rfl (Eq.trans (p 9 26 rfl rfl) (congrArg Value.bool hc194)) rfl) Tryd.isAgg3 (p 10 27 rfl rfl) (At.cell0 (Blk.at (Star.blkAt 0 Z rfl)) (j:=0) rfl) (nO rfl rfl Z)) (opsS_cons (fun f w_ _ _ _ _ p Z=>L_gtr (g_yes rfl (Eq.trans (p 9 26 rfl rfl) (congrArg Value.bool hc194)) rfl) (p 11 28 rfl rfl) rfl (nO rfl rfl Z)) (opsS_cons (fun f w_ _ _ _ _ p Z=>pkT (v:=Bo (((!x29) || (decide (x_8.coef < 1))) || (decide (x_8.coef > 1000)))) (p 9 26 rfl rfl) hc194 rfl (or_f hc194 (p 12 29 rfl rfl)) (nO rfl rfl Z)) (opsS_cons (fun f w_ _ _ _ _ p Z=>mF (p 13 30 rfl rfl) rfl (nO rfl rfl Z)) (oP (fun _ _ p=>gN (p 14 31 rfl rfl) hc263 rfl) (fun _=>rfl) (oP (fun _ _ p=>gN (p 14 31 rfl rfl) hc263 rfl) (fun _=>rfl) (oP (fun _ _ p=>gN (p 14 31 rfl rfl) hc263 rfl) (fun _=>rfl) (oP (fun _ _ p=>g_undef rfl (p 17 34 rfl rfl) rfl) (fun _=>rfl) (oP (fun _ _ p=>g_undef rfl (p 17 34 rfl rfl) rfl) (fun _=>rfl) (oP (fun _ _ p=>g_undef rfl (p 17 34 rfl rfl) rfl) (fun _=>rfl) (oP (fun _ _ p=>g_undef rfl (p 17 34 rfl rfl) rfl) (fun _=>rfl) (oP (fun _ _ p=>g_undef rfl (p 17 34 rfl rfl) rfl) (fun _=>rfl) (oP (fun _ _ p=>g_undef rfl (p 17 34 rfl rfl) rfl) (fun _=>rfl) (oP (fun _ _ p=>g_undef rfl (p 17 34 rfl rfl) rfl) (fun _=>rfl) (oP (fun _ _ p=>g_undef rfl (p 17 34 rfl rfl) rfl) (fun _=>rfl) (oP (fun _ _ p=>g_undef rfl (p 17 34 rfl rfl) rfl) (fun _=>rfl) (oP (fun _ _ p=>g_undef rfl (p 17 34 rfl rfl) rfl) (fun _=>rfl) (opsS_nil)))))))))))))))))))))))))
 refine ps (g_undef rfl (hT52 17 34 rfl rfl) rfl) (ps (g_undef rfl (hT52 17 34 rfl rfl) rfl) (ps (g_no rfl (Eq.trans (hT52 14 31 rfl rfl) (congrArg Value.bool hc263)) rfl rfl) (L_pick (v:=Bo b51) rfl (Eq.trans (hT52 14 31 rfl rfl) (congrArg Value.bool hc263)) (congrArg Value.bool (so hb51)) (nn ?_))))
 have Z:=Z.get 1 rfl
 exact rj hR55 ⟨H52,hE52,((hS52 1 rfl).trans sf1),((hS52 3 rfl).trans sf3),rfl,(Star.keepN 1 Z)⟩
 rw [ite_f hc263] at hb51
 obtain ⟨b50,hb50,hb51⟩:=bind_some hb51
 rcases Bool.eq_false_or_eq_true (decide ((i_5 : Int) > 0)) with hc276 | hc276
 rw [ite_t hc276] at hb50
 obtain ⟨x31,hx31,hb50⟩:=bind_some hb50
 obtain ⟨x41,hx41,hb50⟩:=bind_some hb50
 obtain ⟨x48,hx48,hb50⟩:=bind_some hb50
 refine W_drawS 28 [isV (Pq g21 1),isV (I x_8.lit),isV (Bo x29),isV (Bo (!x29)),isV (Bo (!x29)),isV (Pt g21),isV (I x_8.coef),isV (Bo (decide (x_8.coef < 1))),isV (Bo ((!x29) || (decide (x_8.coef < 1)))),isV (Bo ((!x29) || (decide (x_8.coef < 1)))),isV (Pt g21),isV (I x_8.coef),isV (Bo (decide (x_8.coef > 1000))),isV (Bo (((!x29) || (decide (x_8.coef < 1))) || (decide (x_8.coef > 1000)))),isV (Bo (((!x29) || (decide (x_8.coef < 1))) || (decide (x_8.coef > 1000)))),isV (I i_5),isV (Bo (decide ((i_5 : Int) > 0))),isV (Bo (decide ((i_5 : Int) > 0))),isV (Pt g3),isV (v0_0),isV (I i_5),isV (I (i64 ((i_5 : Int) - 1))),isEl rTerm x31 0,isEl rTerm x31 1,isV (I x31.lit),isV (I x41),isV (Pq g21 1),isV (I x_8.lit)] [box g21 62 #[I x_8.coef,I x_8.lit],box g3 29 #[v0_0,I c.bound]] [] ([]) [([],[]),([],[]),([],[]),([],[]),([],[]),([],[]),([],[]),([],[]),([],[]),([],[]),([],[]),([],[]),([],[]),([],[]),([],[]),([],[]),([],[]),([],[]),([],[]),([],[]),([],[]),([],[]),([],[]),([],[]),([],[]),([],[]),([],[]),([],[])] (S:=[]) Tryd_mix (by kernel_rfl) rfl (by kernel_rfl) (amF_cons (mono_V _) (amF_cons (mono_V _) (amF_cons (mono_V _) (amF_cons (mono_V _) (amF_cons (mono_V _) (amF_cons (mono_V _) (amF_cons (mono_V _) (amF_cons (mono_V _) (amF_cons (mono_V _) (amF_cons (mono_V _) (amF_cons (mono_V _) (amF_cons (mono_V _) (amF_cons (mono_V _) (amF_cons (mono_V _) (amF_cons (mono_V _) (amF_cons (mono_V _) (amF_cons (mono_V _) (amF_cons (mono_V _) (amF_cons (mono_V _) (amF_cons (mono_V _) (amF_cons (mono_V _) (amF_cons (mono_V _) (amF_cons (mono_el _ _ _) (amF_cons (mono_el _ _ _) (amF_cons (mono_V _) (amF_cons (mono_V _) (amF_cons (mono_V _) (amF_cons (mono_V _) amF_nil)))))))))))))))))))))))))))) Z ?_ (fun f w_ H52 hS52 hE52 hT52 Z=>?_)
 refine opsS_cons (fun f w_ _ _ s _ _ Z=>fA 1 fa_62_1 ((s 4 rfl).trans rfl) rfl (nO rfl rfl Z)) (opsS_cons (fun f w_ _ _ _ _ p Z=>ldB 0 Z Tryd.isAgg3 (p 0 17 rfl rfl) rfl rfl (nO rfl rfl Z)) (opsS_cons ?_ ?_))
 intro f w_ H52 X52 hS52 hE52 hP52 Z
 obtain ⟨H293b,l294,s295,z296,k297⟩:=Z.borrow
 refine L_call rfl Tryd.call48 (ops1 (hP52 1 18 rfl rfl)) (s_l1Lit_c (n_:=x_8.lit) s295 hx29) ?_
 rintro _ w298 ⟨rfl,Z⟩
 have Z:=k297 Z c0
 exact L_nil ⟨rfl,_,_,rfl,Le.refl _,fun _ _=>rfl,Z⟩
 refine opsS_cons (fun f w_ _ _ _ _ p Z=>L_not_ rfl (p 2 19 rfl rfl) (nO rfl rfl Z)) (opsS_cons (fun f w_ _ _ _ _ p Z=>mF (p 3 20 rfl rfl) rfl (nO rfl rfl Z)) (opsS_cons (fun f w_ _ _ s _ p Z=>L_fa (o':=0) (g_yes rfl (Eq.trans (p 4 21 rfl rfl) (congrArg Value.bool hc56)) rfl) fa_62_0 ((s 4 rfl).trans rfl) rfl (nO rfl rfl Z)) (opsS_cons (fun f w_ _ _ _ _ p Z=>L_ld (v:=I x_8.coef) (g_yes rfl (Eq.trans (p 4 21 rfl rfl) (congrArg Value.bool hc56)) rfl) Tryd.isAgg3 (p 5 22 rfl rfl) (At.cell0 (Blk.at (Star.blkAt 0 Z rfl)) (j:=0) rfl) (nO rfl rfl Z)) (opsS_cons (fun f w_ _ _ _ _ p Z=>L_lss (g_yes rfl (Eq.trans (p 4 21 rfl rfl) (congrArg Value.bool hc56)) rfl) (p 6 23 rfl rfl) rfl (nO rfl rfl Z)) (opsS_cons (fun f w_ _ _ _ _ p Z=>pkT (v:=Bo ((!x29) || (decide (x_8.coef < 1)))) (p 4 21 rfl rfl) hc56 rfl (or_f hc56 (p 7 24 rfl rfl)) (nO rfl rfl Z)) (opsS_cons (fun f w_ _ _ _ _ p Z=>mF (p 8 25 rfl rfl) rfl (nO rfl rfl Z)) (opsS_cons (fun f w_ _ _ s _ p Z=>L_fa (o':=0) (g_yes rfl (Eq.trans (p 9 26 rfl rfl) (congrArg Value.bool hc194)) rfl) fa_62_0 ((s 4 rfl).trans rfl) rfl (nO rfl rfl Z)) (opsS_cons (fun f w_ _ _ _ _ p Z=>L_ld (v:=I x_8.coef) (g_yes rfl (Eq.trans (p 9 26 rfl rfl) (congrArg Value.bool hc194)) rfl) Tryd.isAgg3 (p 10 27 rfl rfl) (At.cell0 (Blk.at (Star.blkAt 0 Z rfl)) (j:=0) rfl) (nO rfl rfl Z)) (opsS_cons (fun f w_ _ _ _ _ p Z=>L_gtr (g_yes rfl (Eq.trans (p 9 26 rfl rfl) (congrArg Value.bool hc194)) rfl) (p 11 28 rfl rfl) rfl (nO rfl rfl Z)) (opsS_cons (fun f w_ _ _ _ _ p Z=>pkT (v:=Bo (((!x29) || (decide (x_8.coef < 1))) || (decide (x_8.coef > 1000)))) (p 9 26 rfl rfl) hc194 rfl (or_f hc194 (p 12 29 rfl rfl)) (nO rfl rfl Z)) (opsS_cons (fun f w_ _ _ _ _ p Z=>mF (p 13 30 rfl rfl) rfl (nO rfl rfl Z)) (opsS_cons (fun f w_ _ _ s _ p Z=>L_mv (v:=I i_5) (g_yes rfl (Eq.trans (p 14 31 rfl rfl) (congrArg Value.bool hc263)) rfl) ((s 3 rfl).trans sf3) (nO rfl rfl Z)) (opsS_cons (fun f w_ _ _ _ _ p Z=>L_gtr (g_yes rfl (Eq.trans (p 14 31 rfl rfl) (congrArg Value.bool hc263)) rfl) (p 15 32 rfl rfl) rfl (nO rfl rfl Z)) (opsS_cons (fun f w_ _ _ _ _ p Z=>L_mv (v:=Bo (decide ((i_5 : Int) > 0))) (g_yes rfl (Eq.trans (p 14 31 rfl rfl) (congrArg Value.bool hc263)) rfl) (p 16 33 rfl rfl) (nO rfl rfl Z)) (opsS_cons (fun f w_ _ _ s _ p Z=>L_fa (o':=0) (g_yes rfl (Eq.trans (p 17 34 rfl rfl) (congrArg Value.bool hc276)) rfl) fa_29_0 ((s 1 rfl).trans sf1) rfl (nO rfl rfl Z)) (opsS_cons (fun f w_ _ _ _ _ p Z=>L_ld (v:=v0_0) (g_yes rfl (Eq.trans (p 17 34 rfl rfl) (congrArg Value.bool hc276)) rfl) Tryd.isAgg27 (p 18 35 rfl rfl) (At.cell0 (Blk.at (Star.blkAt 1 Z rfl)) (j:=0) rfl) (nO rfl rfl Z)) (opsS_cons (fun f w_ _ _ s _ p Z=>L_mv (v:=I i_5) (g_yes rfl (Eq.trans (p 17 34 rfl rfl) (congrArg Value.bool hc276)) rfl) ((s 3 rfl).trans sf3) (nO rfl rfl Z)) (opsS_cons (fun f w_ _ _ _ _ p Z=>L_sub (g_yes rfl (Eq.trans (p 17 34 rfl rfl) (congrArg Value.bool hc276)) rfl) (p 20 37 rfl rfl) rfl (nO rfl rfl Z)) (opsS_cons ?_ ?_)))))))))))))))))))
 intro f w_ H52 X52 hS52 hE52 hP52 Z
 refine L_ix (r:=rTerm) (g_yes rfl (Eq.trans (hP52 17 34 rfl rfl) (congrArg Value.bool hc276)) rfl) Tryd.underlying27 Tryd.sizeOf62 (hP52 19 36 rfl rfl) (RP.mono _ h0_0 (Le.trans l7 hE52)) (hP52 21 38 rfl rfl) hx31 (fun g299 o300 cs_g299 hrk_hat301 hat301=>?_)
 obtain rfl:=rTerm_iff.1 hrk_hat301
 exact L_nil ⟨rfl,_,_,rfl,Le.refl _,fun _ _=>⟨_,_,_,rfl,hrk_hat301,hat301⟩,Z⟩
 refine opsS_cons ?_ ?_
 intro f w_ H52 X52 hS52 hE52 hP52 Z
 obtain ⟨g303,o303,cs303,hv303,hrk_hat303,hat303⟩:=(hP52 22 39 rfl rfl)
 obtain rfl:=rTerm_iff.1 hrk_hat303
 refine L_fa (o':=o303 + 1) (g_yes rfl (Eq.trans (hP52 17 34 rfl rfl) (congrArg Value.bool hc276)) rfl) fa_62_1 hv303 rfl (L_nil ⟨rfl,_,_,rfl,Le.refl _,fun _ _=>⟨_,_,_,rfl,hrk_hat303,hat303⟩,Z⟩)
 refine opsS_cons ?_ ?_
 intro f w_ H52 X52 hS52 hE52 hP52 Z
 obtain ⟨g305,o305,cs305,hv305,hrk_hat305,hat305⟩:=(hP52 23 40 rfl rfl)
 obtain rfl:=rTerm_iff.1 hrk_hat305
 refine L_ld (v:=I x31.lit) (g_yes rfl (Eq.trans (hP52 17 34 rfl rfl) (congrArg Value.bool hc276)) rfl) Tryd.isAgg3 hv305 (At.cell (AtH.at hat305 Z.sub) (j:=1) rfl) (L_nil ⟨rfl,_,_,rfl,Le.refl _,fun _ _=>rfl,Z⟩)
 refine opsS_cons ?_ ?_
 intro f w_ H52 X52 hS52 hE52 hP52 Z
 obtain ⟨H307b,l308,s309,z310,k311⟩:=Z.borrow
 refine L_call (g_yes rfl (Eq.trans (hP52 17 34 rfl rfl) (congrArg Value.bool hc276)) rfl) Tryd.call49 (ops1 (hP52 24 41 rfl rfl)) (s_l1Abs_c (n_:=x31.lit) s309 hx41) ?_
 rintro _ w312 ⟨rfl,Z⟩
 have Z:=k311 Z c0
 exact L_nil ⟨rfl,_,_,rfl,Le.refl _,fun _ _=>rfl,Z⟩
 refine opsS_cons (fun f w_ _ _ s _ p Z=>L_fa (o':=1) (g_yes rfl (Eq.trans (p 17 34 rfl rfl) (congrArg Value.bool hc276)) rfl) fa_62_1 ((s 4 rfl).trans rfl) rfl (nO rfl rfl Z)) (opsS_cons (fun f w_ _ _ _ _ p Z=>L_ld (v:=I x_8.lit) (g_yes rfl (Eq.trans (p 17 34 rfl rfl) (congrArg Value.bool hc276)) rfl) Tryd.isAgg3 (p 26 43 rfl rfl) (At.cell0 (Blk.at (Star.blkAt 0 Z rfl)) (j:=1) rfl) (nO rfl rfl Z)) (opsS_nil))
 obtain ⟨H313b,l314,s315,z316,k317⟩:=Z.borrow
 refine L_call (g_yes rfl (Eq.trans (hT52 17 34 rfl rfl) (congrArg Value.bool hc276)) rfl) Tryd.call49 (ops1 (hT52 27 44 rfl rfl)) (s_l1Abs_c (n_:=x_8.lit) s315 hx48) ?_
 rintro _ w318 ⟨rfl,Z⟩
 have Z:=k317 Z c0
 refine L_geq (g_yes rfl (Eq.trans (hT52 17 34 rfl rfl) (congrArg Value.bool hc276)) rfl) (hT52 25 42 rfl rfl) rfl (L_pick (v:=Bo b50) (g_yes rfl (Eq.trans (hT52 14 31 rfl rfl) (congrArg Value.bool hc263)) rfl) (Eq.trans (hT52 17 34 rfl rfl) (congrArg Value.bool hc276)) (congrArg Value.bool (so hb50)) (L_pick (v:=Bo b51) rfl (Eq.trans (hT52 14 31 rfl rfl) (congrArg Value.bool hc263)) (congrArg Value.bool (so hb51)) (nn ?_)))
 have Z:=Z.get 1 rfl
 exact rj hR55 ⟨H52,hE52,((hS52 1 rfl).trans sf1),((hS52 3 rfl).trans sf3),rfl,(Star.keepN 1 Z)⟩
 rw [ite_f hc276] at hb50
 refine W_drawS 28 [isV (Pq g21 1),isV (I x_8.lit),isV (Bo x29),isV (Bo (!x29)),isV (Bo (!x29)),isV (Pt g21),isV (I x_8.coef),isV (Bo (decide (x_8.coef < 1))),isV (Bo ((!x29) || (decide (x_8.coef < 1)))),isV (Bo ((!x29) || (decide (x_8.coef < 1)))),isV (Pt g21),isV (I x_8.coef),isV (Bo (decide (x_8.coef > 1000))),isV (Bo (((!x29) || (decide (x_8.coef < 1))) || (decide (x_8.coef > 1000)))),isV (Bo (((!x29) || (decide (x_8.coef < 1))) || (decide (x_8.coef > 1000)))),isV (I i_5),isV (Bo (decide ((i_5 : Int) > 0))),isV (Bo (decide ((i_5 : Int) > 0))),isV (undef),isV (undef),isV (undef),isV (undef),isV (undef),isV (undef),isV (undef),isV (undef),isV (undef),isV (undef)] [box g21 62 #[I x_8.coef,I x_8.lit],box g3 29 #[v0_0,I c.bound]] [] ([]) [([],[]),([],[]),([],[]),([],[]),([],[]),([],[]),([],[]),([],[]),([],[]),([],[]),([],[]),([],[]),([],[]),([],[]),([],[]),([],[]),([],[]),([],[]),([],[]),([],[]),([],[]),([],[]),([],[]),([],[]),([],[]),([],[]),([],[]),([],[])] (S:=[]) Tryd_mix (by kernel_rfl) rfl (by kernel_rfl) (amF_cons (mono_V _) (amF_cons (mono_V _) (amF_cons (mono_V _) (amF_cons (mono_V _) (amF_cons (mono_V _) (amF_cons (mono_V _) (amF_cons (mono_V _) (amF_cons (mono_V _) (amF_cons (mono_V _) (amF_cons (mono_V _) (amF_cons (mono_V _) (amF_cons (mono_V _) (amF_cons (mono_V _) (amF_cons (mono_V _) (amF_cons (mono_V _) (amF_cons (mono_V _) (amF_cons (mono_V _) (amF_cons (mono_V _) (amF_cons (mono_V _) (amF_cons (mono_V _) (amF_cons (mono_V _) (amF_cons (mono_V _) (amF_cons (mono_V _) (amF_cons (mono_V _) (amF_cons (mono_V _) (amF_cons (mono_V _) (amF_cons (mono_V _) (amF_cons (mono_V _) amF_nil)))))))))))))))))))))))))))) Z ?_ (fun f w_ H52 hS52 hE52 hT52 Z=>?_)
 refine opsS_cons (fun f w_ _ _ s _ _ Z=>fA 1 fa_62_1 ((s 4 rfl).trans rfl) rfl (nO rfl rfl Z)) (opsS_cons (fun f w_ _ _ _ _ p Z=>ldB 0 Z Tryd.isAgg3 (p 0 17 rfl rfl) rfl rfl (nO rfl rfl Z)) (opsS_cons ?_ ?_))
 intro f w_ H52 X52 hS52 hE52 hP52 Z
 obtain ⟨H325b,l326,s327,z328,k329⟩:=Z.borrow
 refine L_call rfl Tryd.call48 (ops1 (hP52 1 18 rfl rfl)) (s_l1Lit_c (n_:=x_8.lit) s327 hx29) ?_
 rintro _ w330 ⟨rfl,Z⟩
 have Z:=k329 Z c0
 exact L_nil ⟨rfl,_,_,rfl,Le.refl _,fun _ _=>rfl,Z⟩
 refine opsS_cons (fun f w_ _ _ _ _ p Z=>L_not_ rfl (p 2 19 rfl rfl) (nO rfl rfl Z)) (opsS_cons (fun f w_ _ _ _ _ p Z=>mF (p 3 20 rfl rfl) rfl (nO rfl rfl Z)) (opsS_cons (fun f w_ _ _ s _ p Z=>L_fa (o':=0) (g_yes rfl (Eq.trans (p 4 21 rfl rfl) (congrArg Value.bool hc56)) rfl) fa_62_0 ((s 4 rfl).trans rfl) rfl (nO rfl rfl Z)) (opsS_cons (fun f w_ _ _ _ _ p Z=>L_ld (v:=I x_8.coef) (g_yes rfl (Eq.trans (p 4 21 rfl rfl) (congrArg Value.bool hc56)) rfl) Tryd.isAgg3 (p 5 22 rfl rfl) (At.cell0 (Blk.at (Star.blkAt 0 Z rfl)) (j:=0) rfl) (nO rfl rfl Z)) (opsS_cons (fun f w_ _ _ _ _ p Z=>L_lss (g_yes rfl (Eq.trans (p 4 21 rfl rfl) (congrArg Value.bool hc56)) rfl) (p 6 23 rfl rfl) rfl (nO rfl rfl Z)) (opsS_cons (fun f w_ _ _ _ _ p Z=>pkT (v:=Bo ((!x29) || (decide (x_8.coef < 1)))) (p 4 21 rfl rfl) hc56 rfl (or_f hc56 (p 7 24 rfl rfl)) (nO rfl rfl Z)) (opsS_cons (fun f w_ _ _ _ _ p Z=>mF (p 8 25 rfl rfl) rfl (nO rfl rfl Z)) (opsS_cons (fun f w_ _ _ s _ p Z=>L_fa (o':=0) (g_yes rfl (Eq.trans (p 9 26 rfl rfl) (congrArg Value.bool hc194)) rfl) fa_62_0 ((s 4 rfl).trans rfl) rfl (nO rfl rfl Z)) (opsS_cons (fun f w_ _ _ _ _ p Z=>L_ld (v:=I x_8.coef) (g_yes rfl (Eq.trans (p 9 26 rfl rfl) (congrArg Value.bool hc194)) rfl) Tryd.isAgg3 (p 10 27 rfl rfl) (At.cell0 (Blk.at (Star.blkAt 0 Z rfl)) (j:=0) rfl) (nO rfl rfl Z)) (opsS_cons (fun f w_ _ _ _ _ p Z=>L_gtr (g_yes rfl (Eq.trans (p 9 26 rfl rfl) (congrArg Value.bool hc194)) rfl) (p 11 28 rfl rfl) rfl (nO rfl rfl Z)) (opsS_cons (fun f w_ _ _ _ _ p Z=>pkT (v:=Bo (((!x29) || (decide (x_8.coef < 1))) || (decide (x_8.coef > 1000)))) (p 9 26 rfl rfl) hc194 rfl (or_f hc194 (p 12 29 rfl rfl)) (nO rfl rfl Z)) (opsS_cons (fun f w_ _ _ _ _ p Z=>mF (p 13 30 rfl rfl) rfl (nO rfl rfl Z)) (opsS_cons (fun f w_ _ _ s _ p Z=>L_mv (v:=I i_5) (g_yes rfl (Eq.trans (p 14 31 rfl rfl) (congrArg Value.bool hc263)) rfl) ((s 3 rfl).trans sf3) (nO rfl rfl Z)) (opsS_cons (fun f w_ _ _ _ _ p Z=>L_gtr (g_yes rfl (Eq.trans (p 14 31 rfl rfl) (congrArg Value.bool hc263)) rfl) (p 15 32 rfl rfl) rfl (nO rfl rfl Z)) (opsS_cons (fun f w_ _ _ _ _ p Z=>L_mv (v:=Bo (decide ((i_5 : Int) > 0))) (g_yes rfl (Eq.trans (p 14 31 rfl rfl) (congrArg Value.bool hc263)) rfl) (p 16 33 rfl rfl) (nO rfl rfl Z)) (oP (fun _ _ p=>gN (p 17 34 rfl rfl) hc276 rfl) (fun _=>rfl) (oP (fun _ _ p=>gN (p 17 34 rfl rfl) hc276 rfl) (fun _=>rfl) (oP (fun _ _ p=>gN (p 17 34 rfl rfl) hc276 rfl) (fun _=>rfl) (oP (fun _ _ p=>gN (p 17 34 rfl rfl) hc276 rfl) (fun _=>rfl) (oP (fun _ _ p=>gN (p 17 34 rfl rfl) hc276 rfl) (fun _=>rfl) (oP (fun _ _ p=>gN (p 17 34 rfl rfl) hc276 rfl) (fun _=>rfl) (oP (fun _ _ p=>gN (p 17 34 rfl rfl) hc276 rfl) (fun _=>rfl) (oP (fun _ _ p=>gN (p 17 34 rfl rfl) hc276 rfl) (fun _=>rfl) (oP (fun _ _ p=>gN (p 17 34 rfl rfl) hc276 rfl) (fun _=>rfl) (oP (fun _ _ p=>gN (p 17 34 rfl rfl) hc276 rfl) (fun _=>rfl) (opsS_nil)))))))))))))))))))))))))
 refine ps (g_no rfl (Eq.trans (hT52 17 34 rfl rfl) (congrArg Value.bool hc276)) rfl rfl) (ps (g_no rfl (Eq.trans (hT52 17 34 rfl rfl) (congrArg Value.bool hc276)) rfl rfl) (L_pick (v:=Bo b50) (g_yes rfl (Eq.trans (hT52 14 31 rfl rfl) (congrArg Value.bool hc263)) rfl) (Eq.trans (hT52 17 34 rfl rfl) (congrArg Value.bool hc276)) (congrArg Value.bool (so hb50)) (L_pick (v:=Bo b51) rfl (Eq.trans (hT52 14 31 rfl rfl) (congrArg Value.bool hc263)) (congrArg Value.bool (so hb51)) (nn ?_))))
 have Z:=Z.get 1 rfl
 exact rj hR55 ⟨H52,hE52,((hS52 1 rfl).trans sf1),((hS52 3 rfl).trans sf3),rfl,(Star.keepN 1 Z)⟩
 intro f w_ hR
 obtain ⟨H53,l54,sf1,sf3,sf48,Z⟩:=rk hR55 hR
 refine W_cond (b:=b51) sf48 (fun hc331=>?_) (fun hc331=>?_)
 have hB8:=(ite_t hc331).symm.trans hB8
 refine sq (aB rfl (nn (W_ret (retG1 (v1:=Bo false) Tryd.results19 rfl ?_))))
 obtain rfl:=so hB8
 obtain rfl:=so hL8
 obtain rfl:=so hF
 exact ⟨rfl,(Star.down (Star.keepN 0 Z) (Le.trans l7 l54) c0)⟩
 have hB8:=(ite_f hc331).symm.trans hB8
 refine W_skip (W_region (mF sf3 rfl (L_add rfl rfl rfl (aI rfl (nn ?_)))))
 obtain rfl:=so hB8
 show ∃ m,m < _∧I8 m _ _
 refine ⟨rest8.length,by simp,?_⟩
 exact ij hI8 ⟨i_5 + 1,rest8,H53,rfl,drop_next hd8,by simp at hl8; omega,hL8,(Le.trans l7 l54),sf1,(Eq.trans rfl (congrArg (Value.int .i64) (i64_succ (n:=c.terms.length) (by simp at hl8; omega) hlen8))),Z⟩
 rcases suf8 with _ | ⟨_,_⟩
 obtain rfl:=range_nil hL8
 refine W_exit (rj hR8 ⟨H6,rfl,l7,sf1,Z⟩)
 exact absurd (of_decide_eq_false hc9) (by simp at hl8; omega)
 intro f w_ hR
 obtain ⟨H6,rfl,l7,sf1,Z⟩:=rk hR8 hR
 refine W_seq ?_
 obtain ⟨R332,hR332⟩:=exR fun f w_=>f 2 = Bo ((decide (c.bound ≥ 0)) && (decide (c.bound≤20000)))∧Star H6 w_ ([])
 refine W_join R332 ?_ ?_
 refine W_region (fA 1 fa_29_1 sf1 rfl (ldB 0 Z Tryd.isAgg3 rfl rfl rfl (L_geq rfl rfl rfl (mB rfl (L_split (d:=52) (b:=decide (c.bound ≥ 0)) rfl (fun hc333=>?_) (fun hc333=>?_))))))
 refine fA 1 fa_29_1 sf1 rfl (ldB 0 Z Tryd.isAgg3 rfl rfl rfl (L_leq rfl rfl rfl (L_pick (v:=Bo ((decide (c.bound ≥ 0)) && (decide (c.bound≤20000)))) rfl rfl (and_t hc333 rfl) (aB rfl (nn (rj hR332 ⟨rfl,(Star.keepN 0 Z)⟩))))))
 refine ps rfl (ps rfl (ps rfl (L_pick (v:=Bo ((decide (c.bound ≥ 0)) && (decide (c.bound≤20000)))) rfl rfl (and_f hc333) (aB rfl (nn (rj hR332 ⟨rfl,(Star.keepN 0 Z)⟩))))))
 intro f w_ hR
 obtain ⟨sf2,Z⟩:=rk hR332 hR
 refine W_ret (retG1 (v1:=Bo ((decide (c.bound ≥ 0)) && (decide (c.bound≤20000)))) Tryd.results19 sf2 ?_)
 obtain rfl:=so hF
 exact ⟨rfl,(Star.down Z l7 c0)⟩
theorem s_l17Dec_F_c {fu : Nat} {rec_ : Int→Option ByteArray} (hrec : ∀ {n_ : Int} {H : FH} {w : World} (Z : Star H w []) {r : ByteArray} (hF : rec_ n_ = some r),C Tryd.prog 59 #[I n_] w fun v w'=>v = .string r∧Star H w' []) {n_ : Int} {H : FH} {w : World} (Z : Star H w []) {r : ByteArray} (hF : s_l17Dec_F fu rec_ n_ = some r) :
 C Tryd.prog 59 #[I n_] w fun v w'=>v = .string r∧Star H w' []:=by
 unfold s_l17Dec_F at hF
 refine C_enter Tryd.func59 rfl Tryd.ntmps59 rfl (sq (aV (.string (⟨#[]⟩ : ByteArray)) rfl (nq (sq (mI rfl (L_lss rfl rfl rfl (nn (W_cond (b:=decide (n_ < (-9223372036854775807))) rfl (fun hc1=>?_) (fun hc1=>?_)))))))))
 have hF:=(ite_t hc1).symm.trans hF
 refine sq (aV (.string (⟨#[45,57,50,50,51,51,55,50,48,51,54,56,53,52,55,55,53,56,48,56]⟩ : ByteArray)) rfl (nn (W_ret (retG1 (v1:=.string (⟨#[45,57,50,50,51,51,55,50,48,51,54,56,53,52,55,55,53,56,48,56]⟩ : ByteArray)) Tryd.results59 rfl ?_))))
 obtain rfl:=so hF
 exact ⟨rfl,Z⟩
 have hF:=(ite_f hc1).symm.trans hF
 refine W_skip (W_seq (sq (mI rfl (L_lss rfl rfl rfl (nn (W_cond (b:=decide (n_ < 0)) rfl (fun hc2=>?_) (fun hc2=>?_)))))))
 have hF:=(ite_t hc2).symm.trans hF
 refine W_seq ?_
 obtain ⟨x8,hx8,hF⟩:=bind_some hF
 obtain ⟨x10,hx10,hF⟩:=bind_some hF
 refine W_region (mI rfl (L_neg rfl rfl ?_))
 obtain ⟨H11b,l12,s13,z14,k15⟩:=Z.borrow
 refine L_call rfl Tryd.call59 (ops1 rfl) (hrec (n_:=i64 (-n_)) s13 hx8) ?_
 rintro _ w16 ⟨rfl,Z⟩
 have Z:=k15 Z c0
 obtain ⟨hx10_l,hx10_e⟩:=cat_some hx10
 refine L_sadd (s:=(⟨#[45]⟩ : ByteArray)) (s':=x8) rfl rfl rfl hx10_l ?_
 rw [← hx10_e]
 refine aV (.string x10) rfl (nn (W_ret (retG1 (v1:=.string x10) Tryd.results59 rfl ?_)))
 obtain rfl:=so hF
 exact ⟨rfl,Z⟩
 have hF:=(ite_f hc2).symm.trans hF
 refine W_skip (sq (aV (.string (⟨#[]⟩ : ByteArray)) rfl (nq ?_)))
 obtain ⟨j20,hL20,hF⟩:=bind_some hF
 obtain ⟨R20,hR20⟩:=exR fun f w_=>∃ n_18 : Int,∃ out_19 : ByteArray,j20 = .nx (n_18,out_19)∧f 0 = I n_18∧f 3 = .string out_19∧Star H w_ ([])
 refine W_join R20 ?_ ?_
 refine W_block ?_
 obtain ⟨I20,hI20⟩:=exI fun n f w_=>∃ n_18 : Int,∃ out_19 : ByteArray,whileL s_l17Dec_b1 n (n_18,out_19) = some j20∧f 0 = I n_18∧f 3 = .string out_19∧Star H w_ ([])
 refine W_loop I20 (n:=fu) ?_ ?_
 exact ij hI20 ⟨n_,(⟨#[]⟩ : ByteArray),hL20,rfl,rfl,Z⟩
 intro n20 f w_ hI
 obtain ⟨n_18,out_19,hL20,sf0,sf3,Z⟩:=ik hI20 hI
 rcases n20 with _ | n20
 exact (while_zero hL20).elim
 obtain ⟨o20,hB20,hL20⟩:=while_succ hL20
 rw [s_l17Dec_b1] at hB20
 refine W_seq (sq (mF sf0 rfl (L_gtr rfl rfl rfl (nn (W_cond (b:=decide (n_18 > 9)) rfl (fun hc21=>?_) (fun hc21=>?_))))))
 have hB20:=(ite_t hc21).symm.trans hB20
 refine W_skip (W_block (W_seq ?_))
 obtain ⟨x25,hx25,hB20⟩:=bind_some hB20
 refine W_region (mF sf0 rfl (L_rem (m:=n_18) (n:=10) rfl rfl rfl (by decide) (L_add rfl rfl rfl (L_cv8 (n:=i64 (48 + (Int.tmod n_18 10))) rfl rfl ⟨_,Tryd.underlying3⟩ Tryd.underlying5 (L_bs rfl (parts1 rfl) (bs_37_1_0 (.int .u8 ((u8w (i64 (48 + (Int.tmod n_18 10)))).toNat : Int)) rfl) Z (fun g26 w27 Z=>?_))))))
 have Z:=Star.addF (r:=RP.u8) (cs:=[.int .u8 ((u8w (i64 (48 + (Int.tmod n_18 10)))).toNat : Int)]) (x:=(u8w (i64 (48 + (Int.tmod n_18 10))))) Z rfl
 have Z:=Star.mkRow (R:=(OR.frz RP.u8)) [([.int .u8 ((u8w (i64 (48 + (Int.tmod n_18 10)))).toNat : Int)],(u8w (i64 (48 + (Int.tmod n_18 10)))))] [(u8w (i64 (48 + (Int.tmod n_18 10))))] 1 Z rfl rfl rfl (by decide)
 refine L_cvs (xs:=[(u8w (i64 (48 + (Int.tmod n_18 10))))]) 0 rfl Tryd.underlying37 Tryd.underlying5 Tryd.underlying9 rfl Z rfl (by simp) (mF sf3 rfl ?_)
 obtain ⟨hx25_l,hx25_e⟩:=cat_some hx25
 refine L_sadd (s:=(bs [(u8w (i64 (48 + (Int.tmod n_18 10))))])) (s':=out_19) rfl rfl rfl hx25_l ?_
 rw [← hx25_e]
 refine aV (.string x25) rfl (nn (W_region (mF sf0 rfl (L_quo (m:=n_18) (n:=10) rfl rfl rfl (by decide) (aI rfl (nn ?_))))))
 obtain rfl:=so hB20
 show ∃ m,m < _∧I20 m _ _
 refine ⟨n20,Nat.lt_succ_self _,?_⟩
 exact ij hI20 ⟨i64 (Int.tdiv n_18 10),x25,hL20,rfl,rfl,(Star.keepN 0 Z)⟩
 have hB20:=(ite_f hc21).symm.trans hB20
 refine W_exit ?_
 obtain rfl:=so hB20
 obtain rfl:=so hL20
 exact rj hR20 ⟨n_18,out_19,rfl,sf0,sf3,Z⟩
 intro f w_ hR
 obtain ⟨n_18,out_19,rfl,sf0,sf3,Z⟩:=rk hR20 hR
 refine W_seq ?_
 obtain ⟨x32,hx32,hF⟩:=bind_some hF
 refine W_region (mF sf0 rfl (L_add rfl rfl rfl (L_cv8 (n:=i64 (48 + n_18)) rfl rfl ⟨_,Tryd.underlying3⟩ Tryd.underlying5 (L_bs rfl (parts1 rfl) (bs_37_1_0 (.int .u8 ((u8w (i64 (48 + n_18))).toNat : Int)) rfl) Z (fun g33 w34 Z=>?_)))))
 have Z:=Star.addF (r:=RP.u8) (cs:=[.int .u8 ((u8w (i64 (48 + n_18))).toNat : Int)]) (x:=(u8w (i64 (48 + n_18)))) Z rfl
 have Z:=Star.mkRow (R:=(OR.frz RP.u8)) [([.int .u8 ((u8w (i64 (48 + n_18))).toNat : Int)],(u8w (i64 (48 + n_18))))] [(u8w (i64 (48 + n_18)))] 1 Z rfl rfl rfl (by decide)
 refine L_cvs (xs:=[(u8w (i64 (48 + n_18)))]) 0 rfl Tryd.underlying37 Tryd.underlying5 Tryd.underlying9 rfl Z rfl (by simp) (mF sf3 rfl ?_)
 obtain ⟨hx32_l,hx32_e⟩:=cat_some hx32
 refine L_sadd (s:=(bs [(u8w (i64 (48 + n_18)))])) (s':=out_19) rfl rfl rfl hx32_l ?_
 rw [← hx32_e]
 refine aV (.string x32) rfl (nn (W_ret (retG1 (v1:=.string x32) Tryd.results59 rfl ?_)))
 obtain rfl:=so hF
 exact ⟨rfl,(Star.keepN 0 Z)⟩
theorem s_l17Dec_R_c {fu : Nat} : ∀ (n : Nat) {n_ : Int} {H : FH} {w : World} (Z : Star H w []) {r : ByteArray} (hF : s_l17Dec_R fu n n_ = some r),C Tryd.prog 59 #[I n_] w fun v w'=>v = .string r∧Star H w' []:=by
 intro n
 induction n with
 | zero=>intros; rename_i hF; cases hF
 | succ n ih=>intros; rename_i Z _ hF; exact s_l17Dec_F_c ih Z hF
theorem s_l17Dec_c {fu : Nat} {n_ : Int} {H : FH} {w : World} (Z : Star H w []) {r : ByteArray} (hF : s_l17Dec fu n_ = some r) :
 C Tryd.prog 59 #[I n_] w fun v w'=>v = .string r∧Star H w' []:=s_l17Dec_R_c fu Z hF
theorem s_l1Name_c {fu : Nat} {lit : Int} {H : FH} {w : World} (Z : Star H w []) {r : ByteArray} (hF : s_l1Name fu lit = some r) :
 C Tryd.prog 60 #[I lit] w fun v w'=>v = .string r∧Star H w' []:=by
 unfold s_l1Name at hF
 refine C_enter Tryd.func60 rfl Tryd.ntmps60 rfl (sq (aV (.string (⟨#[]⟩ : ByteArray)) rfl (nq (sq (mI rfl (L_lss rfl rfl rfl (nn (W_cond (b:=decide (lit < 0)) rfl (fun hc1=>?_) (fun hc1=>?_)))))))))
 have hF:=(ite_t hc1).symm.trans hF
 refine W_seq ?_
 obtain ⟨x7,hx7,hF⟩:=bind_some hF
 obtain ⟨x9,hx9,hF⟩:=bind_some hF
 refine W_region (mI rfl (L_neg rfl rfl ?_))
 obtain ⟨H10b,l11,s12,z13,k14⟩:=Z.borrow
 refine L_call rfl Tryd.call59 (ops1 rfl) (s_l17Dec_c (n_:=i64 (-lit)) s12 hx7) ?_
 rintro _ w15 ⟨rfl,Z⟩
 have Z:=k14 Z c0
 obtain ⟨hx9_l,hx9_e⟩:=cat_some hx9
 refine L_sadd (s:=(⟨#[126,120]⟩ : ByteArray)) (s':=x7) rfl rfl rfl hx9_l ?_
 rw [← hx9_e]
 refine aV (.string x9) rfl (nn (W_ret (retG1 (v1:=.string x9) Tryd.results60 rfl ?_)))
 obtain rfl:=so hF
 exact ⟨rfl,Z⟩
 have hF:=(ite_f hc1).symm.trans hF
 refine W_skip (W_seq ?_)
 obtain ⟨x21,hx21,hF⟩:=bind_some hF
 obtain ⟨x23,hx23,hF⟩:=bind_some hF
 refine W_region (mI rfl ?_)
 obtain ⟨H24b,l25,s26,z27,k28⟩:=Z.borrow
 refine L_call rfl Tryd.call59 (ops1 rfl) (s_l17Dec_c (n_:=lit) s26 hx21) ?_
 rintro _ w29 ⟨rfl,Z⟩
 have Z:=k28 Z c0
 obtain ⟨hx23_l,hx23_e⟩:=cat_some hx23
 refine L_sadd (s:=(⟨#[120]⟩ : ByteArray)) (s':=x21) rfl rfl rfl hx23_l ?_
 rw [← hx23_e]
 refine aV (.string x23) rfl (nn (W_ret (retG1 (v1:=.string x23) Tryd.results60 rfl ?_)))
 obtain rfl:=so hF
 exact ⟨rfl,Z⟩
theorem s_l1Text_c {fu : Nat} {c : Con} {v0_0 : Value} {H : FH} {w : World} (Z : Star H w []) (h0_0 : (rS 62 rTerm).rel H [v0_0] c.terms) {r : ByteArray} (hF : s_l1Text fu c = some r) :
 C Tryd.prog 32 #[.agg #[v0_0,I c.bound]] w fun v w'=>v = .string r∧Star H w' []:=by
 unfold s_l1Text at hF
 refine C_enter Tryd.func32 rfl Tryd.ntmps32 rfl (sq (L_box (v:=.agg #[v0_0,I c.bound]) (cs:=#[v0_0,I c.bound]) rfl rfl rfl Z (fun g3 w4 Z=>aV (.string (⟨#[]⟩ : ByteArray)) rfl (ns (aV (.string (⟨#[]⟩ : ByteArray)) rfl (nq (sq (aI rfl (nn ?_)))))))))
 have hlen9 : List.length c.terms≤9223372036854775807:=len_le (slice_len h0_0)
 obtain ⟨j9,hL9,hF⟩:=bind_some hF
 obtain ⟨R9,hR9⟩:=exR fun f w_=>∃ out_6 : ByteArray,∃ H7 : FH,j9 = .nx out_6∧Le H H7∧f 1 = Pt g3∧f 3 = .string out_6∧Star H7 w_ ([box g3 29 #[v0_0,I c.bound]])
 refine W_join R9 ?_ ?_
 refine W_block ?_
 obtain ⟨I9,hI9⟩:=exI fun n f w_=>∃ i_5 : Nat,∃ suf9 : List Term,∃ out_6 : ByteArray,∃ H7 : FH,n = suf9.length∧List.drop i_5 c.terms = suf9∧i_5 + suf9.length = c.terms.length∧rangeL (s_l1Text_b1 fu) suf9 i_5 out_6 = some j9∧Le H H7∧f 1 = Pt g3∧f 3 = .string out_6∧f 4 = I i_5∧Star H7 w_ ([box g3 29 #[v0_0,I c.bound]])
 refine W_loop I9 (n:=c.terms.length) ?_ ?_
 exact ij hI9 ⟨0,c.terms,(⟨#[]⟩ : ByteArray),H,rfl,rfl,Nat.zero_add _,hL9,(Le.refl _),rfl,rfl,rfl,Z⟩
 intro n9 f w_ hI
 obtain ⟨i_5,suf9,out_6,H7,rfl,hd9,hl9,hL9,l8,sf1,sf3,sf4,Z⟩:=ik hI9 hI
 refine W_seq (sq (mF sf4 rfl (fA 0 fa_29_0 sf1 rfl (ldB 0 Z Tryd.isAgg27 rfl rfl rfl (L_len rfl Tryd.underlying27 rfl (slice_len (RP.mono _ h0_0 l8)) (L_lss rfl rfl rfl (nn (W_cond (b:=decide ((i_5 : Int) < (c.terms.length : Int))) rfl (fun hc10=>?_) (fun hc10=>?_)))))))))
 have hlt9:=of_decide_eq_true hc10
 rcases suf9 with _ | ⟨x_9,rest9⟩
 exact absurd hlt9 (by simp at hl9; omega)
 obtain ⟨o9,hB9,hL9⟩:=range_cons hL9
 rw [s_l1Text_b1] at hB9
 have hix9:=drop_idx hd9
 refine W_skip (W_seq (W_block ?_))
 obtain ⟨x20,hx20,hB9⟩:=bind_some hB9
 obtain ⟨x22,hx22,hB9⟩:=bind_some hB9
 obtain ⟨x23,hx23,hB9⟩:=bind_some hB9
 obtain ⟨x33,hx33,hB9⟩:=bind_some hB9
 obtain ⟨x35,hx35,hB9⟩:=bind_some hB9
 obtain ⟨x36,hx36,hB9⟩:=bind_some hB9
 refine W_drawS 17 [isV (.string out_6),isV (Pt g3),isV (v0_0),isV (I i_5),isEl rTerm x_9 0,isEl rTerm x_9 0,isV (I x_9.coef),isV (.string x20),isV (.string x22),isV (.string x23),isV (Pt g3),isV (v0_0),isV (I i_5),isEl rTerm x_9 0,isEl rTerm x_9 1,isV (I x_9.lit),isV (.string x33)] [box g3 29 #[v0_0,I c.bound]] [] ([]) [([],[]),([],[]),([],[]),([],[]),([],[]),([],[]),([],[]),([],[]),([],[]),([],[]),([],[]),([],[]),([],[]),([],[]),([],[]),([],[]),([],[])] (S:=[]) Tryd_mix (by kernel_rfl) rfl (by kernel_rfl) (amF_cons (mono_V _) (amF_cons (mono_V _) (amF_cons (mono_V _) (amF_cons (mono_V _) (amF_cons (mono_el _ _ _) (amF_cons (mono_el _ _ _) (amF_cons (mono_V _) (amF_cons (mono_V _) (amF_cons (mono_V _) (amF_cons (mono_V _) (amF_cons (mono_V _) (amF_cons (mono_V _) (amF_cons (mono_V _) (amF_cons (mono_el _ _ _) (amF_cons (mono_el _ _ _) (amF_cons (mono_V _) (amF_cons (mono_V _) amF_nil))))))))))))))))) Z ?_ (fun f w_ H37 hS37 hE37 hT37 Z=>?_)
 refine opsS_cons (fun f w_ _ _ s _ _ Z=>mF ((s 3 rfl).trans sf3) rfl (nO rfl rfl Z)) (opsS_cons (fun f w_ _ _ s _ _ Z=>fA 0 fa_29_0 ((s 1 rfl).trans sf1) rfl (nO rfl rfl Z)) (opsS_cons (fun f w_ _ _ _ _ p Z=>ldB 0 Z Tryd.isAgg27 (p 1 13 rfl rfl) rfl rfl (nO rfl rfl Z)) (opsS_cons (fun f w_ _ _ s _ _ Z=>mF ((s 4 rfl).trans sf4) rfl (nO rfl rfl Z)) (opsS_cons ?_ ?_))))
 intro f w_ H37 X37 hS37 hE37 hP37 Z
 refine L_ix (r:=rTerm) rfl Tryd.underlying27 Tryd.sizeOf62 (hP37 2 14 rfl rfl) (RP.mono _ h0_0 (Le.trans l8 hE37)) (hP37 3 15 rfl rfl) hix9 (fun g58 o59 cs_g58 hrk_hat60 hat60=>?_)
 obtain rfl:=rTerm_iff.1 hrk_hat60
 exact L_nil ⟨rfl,_,_,rfl,Le.refl _,fun _ _=>⟨_,_,_,rfl,hrk_hat60,hat60⟩,Z⟩
 refine opsS_cons ?_ ?_
 intro f w_ H37 X37 hS37 hE37 hP37 Z
 obtain ⟨g62,o62,cs62,hv62,hrk_hat62,hat62⟩:=(hP37 4 16 rfl rfl)
 obtain rfl:=rTerm_iff.1 hrk_hat62
 refine fA o62 fa_62_0 hv62 rfl (L_nil ⟨rfl,_,_,rfl,Le.refl _,fun _ _=>⟨_,_,_,rfl,hrk_hat62,hat62⟩,Z⟩)
 refine opsS_cons ?_ ?_
 intro f w_ H37 X37 hS37 hE37 hP37 Z
 obtain ⟨g64,o64,cs64,hv64,hrk_hat64,hat64⟩:=(hP37 5 17 rfl rfl)
 obtain rfl:=rTerm_iff.1 hrk_hat64
 refine L_ld rfl Tryd.isAgg3 hv64 (At.cell (AtH.at hat64 Z.sub) (j:=0) rfl) (L_nil ⟨rfl,_,_,rfl,Le.refl _,fun _ _=>rfl,Z⟩)
 refine opsS_cons ?_ ?_
 intro f w_ H37 X37 hS37 hE37 hP37 Z
 obtain ⟨H66b,l67,s68,z69,k70⟩:=Z.borrow
 refine L_call rfl Tryd.call59 (ops1 (hP37 6 18 rfl rfl)) (s_l17Dec_c (n_:=x_9.coef) s68 hx20) ?_
 rintro _ w71 ⟨rfl,Z⟩
 have Z:=k70 Z c0
 exact L_nil ⟨rfl,_,_,rfl,Le.refl _,fun _ _=>rfl,Z⟩
 refine opsS_cons ?_ ?_
 intro f w_ H37 X37 hS37 hE37 hP37 Z
 obtain ⟨hx22_l,hx22_e⟩:=cat_some hx22
 refine L_sadd (s:=out_6) (s':=x20) rfl (hP37 0 12 rfl rfl) (hP37 7 19 rfl rfl) hx22_l ?_
 rw [← hx22_e]
 exact L_nil ⟨rfl,_,_,rfl,Le.refl _,fun _ _=>rfl,Z⟩
 refine opsS_cons ?_ ?_
 intro f w_ H37 X37 hS37 hE37 hP37 Z
 obtain ⟨hx23_l,hx23_e⟩:=cat_some hx23
 refine L_sadd (s:=x22) (s':=(⟨#[32]⟩ : ByteArray)) rfl (hP37 8 20 rfl rfl) rfl hx23_l ?_
 rw [← hx23_e]
 exact L_nil ⟨rfl,_,_,rfl,Le.refl _,fun _ _=>rfl,Z⟩
 refine opsS_cons (fun f w_ _ _ s _ _ Z=>fA 0 fa_29_0 ((s 1 rfl).trans sf1) rfl (nO rfl rfl Z)) (opsS_cons (fun f w_ _ _ _ _ p Z=>ldB 0 Z Tryd.isAgg27 (p 10 22 rfl rfl) rfl rfl (nO rfl rfl Z)) (opsS_cons (fun f w_ _ _ s _ _ Z=>mF ((s 4 rfl).trans sf4) rfl (nO rfl rfl Z)) (opsS_cons ?_ ?_)))
 intro f w_ H37 X37 hS37 hE37 hP37 Z
 refine L_ix (r:=rTerm) rfl Tryd.underlying27 Tryd.sizeOf62 (hP37 11 23 rfl rfl) (RP.mono _ h0_0 (Le.trans l8 hE37)) (hP37 12 24 rfl rfl) hix9 (fun g72 o73 cs_g72 hrk_hat74 hat74=>?_)
 obtain rfl:=rTerm_iff.1 hrk_hat74
 exact L_nil ⟨rfl,_,_,rfl,Le.refl _,fun _ _=>⟨_,_,_,rfl,hrk_hat74,hat74⟩,Z⟩
 refine opsS_cons ?_ ?_
 intro f w_ H37 X37 hS37 hE37 hP37 Z
 obtain ⟨g76,o76,cs76,hv76,hrk_hat76,hat76⟩:=(hP37 13 25 rfl rfl)
 obtain rfl:=rTerm_iff.1 hrk_hat76
 refine fA (o76 + 1) fa_62_1 hv76 rfl (L_nil ⟨rfl,_,_,rfl,Le.refl _,fun _ _=>⟨_,_,_,rfl,hrk_hat76,hat76⟩,Z⟩)
 refine opsS_cons ?_ ?_
 intro f w_ H37 X37 hS37 hE37 hP37 Z
 obtain ⟨g78,o78,cs78,hv78,hrk_hat78,hat78⟩:=(hP37 14 26 rfl rfl)
 obtain rfl:=rTerm_iff.1 hrk_hat78
 refine L_ld rfl Tryd.isAgg3 hv78 (At.cell (AtH.at hat78 Z.sub) (j:=1) rfl) (L_nil ⟨rfl,_,_,rfl,Le.refl _,fun _ _=>rfl,Z⟩)
 refine opsS_cons ?_ ?_
 intro f w_ H37 X37 hS37 hE37 hP37 Z
 obtain ⟨H80b,l81,s82,z83,k84⟩:=Z.borrow
 refine L_call rfl Tryd.call60 (ops1 (hP37 15 27 rfl rfl)) (s_l1Name_c (lit:=x_9.lit) s82 hx33) ?_
 rintro _ w85 ⟨rfl,Z⟩
 have Z:=k84 Z c0
 exact L_nil ⟨rfl,_,_,rfl,Le.refl _,fun _ _=>rfl,Z⟩
 exact opsS_nil
 obtain ⟨hx35_l,hx35_e⟩:=cat_some hx35
 refine L_sadd (s:=x23) (s':=x33) rfl (hT37 9 21 rfl rfl) (hT37 16 28 rfl rfl) hx35_l ?_
 rw [← hx35_e]
 obtain ⟨hx36_l,hx36_e⟩:=cat_some hx36
 refine L_sadd (s:=x35) (s':=(⟨#[32]⟩ : ByteArray)) rfl rfl rfl hx36_l ?_
 rw [← hx36_e]
 refine aV (.string x36) rfl (nn (W_region (mF ((hS37 4 rfl).trans sf4) rfl (L_add rfl rfl rfl (aI rfl (nn ?_))))))
 obtain rfl:=so hB9
 show ∃ m,m < _∧I9 m _ _
 refine ⟨rest9.length,by simp,?_⟩
 exact ij hI9 ⟨i_5 + 1,rest9,x36,H37,rfl,drop_next hd9,by simp at hl9; omega,hL9,(Le.trans l8 hE37),((hS37 1 rfl).trans sf1),rfl,(Eq.trans rfl (congrArg (Value.int .i64) (i64_succ (n:=c.terms.length) (by simp at hl9; omega) hlen9))),Z⟩
 rcases suf9 with _ | ⟨_,_⟩
 obtain rfl:=range_nil hL9
 refine W_exit (rj hR9 ⟨out_6,H7,rfl,l8,sf1,sf3,Z⟩)
 exact absurd (of_decide_eq_false hc10) (by simp at hl9; omega)
 intro f w_ hR
 obtain ⟨out_6,H7,rfl,l8,sf1,sf3,Z⟩:=rk hR9 hR
 refine W_seq ?_
 obtain ⟨x86,hx86,hF⟩:=bind_some hF
 obtain ⟨x92,hx92,hF⟩:=bind_some hF
 obtain ⟨x94,hx94,hF⟩:=bind_some hF
 refine W_region (mF sf3 rfl ?_)
 obtain ⟨hx86_l,hx86_e⟩:=cat_some hx86
 refine L_sadd (s:=out_6) (s':=(⟨#[62,61,32]⟩ : ByteArray)) rfl rfl rfl hx86_l ?_
 rw [← hx86_e]
 refine fA 1 fa_29_1 sf1 rfl (ldB 0 Z Tryd.isAgg3 rfl rfl rfl ?_)
 obtain ⟨H95b,l96,s97,z98,k99⟩:=Z.borrow
 refine L_call rfl Tryd.call59 (ops1 rfl) (s_l17Dec_c (n_:=c.bound) s97 hx92) ?_
 rintro _ w100 ⟨rfl,Z⟩
 have Z:=k99 Z c0
 obtain ⟨hx94_l,hx94_e⟩:=cat_some hx94
 refine L_sadd (s:=x86) (s':=x92) rfl rfl rfl hx94_l ?_
 rw [← hx94_e]
 refine aV (.string x94) rfl (nn (W_ret (retG1 (v1:=.string x94) Tryd.results32 rfl ?_)))
 obtain rfl:=so hF
 exact ⟨rfl,(Star.down (Star.keepN 0 Z) l8 c0)⟩
theorem l_toTerm_c {a : Term} {H : FH} {w : World} (Z : Star H w []) {r : Term} (hF : l_toTerm a = some r) :
 C Tryd.prog 61 #[.agg #[I a.coef,I a.lit]] w fun v w'=>v = .agg #[I r.coef,I r.lit]∧Star H w' []:=by
 unfold l_toTerm at hF
 refine C_enter Tryd.func61 rfl Tryd.ntmps61 rfl (sq (L_box (v:=.agg #[I a.coef,I a.lit]) (cs:=#[I a.coef,I a.lit]) rfl rfl rfl Z (fun g5 w6 Z=>L_al (cs:=#[I 0,I 0]) rfl Tryd.zeroValue62 rfl Z (fun g7 w8 Z=>ns (L_al (cs:=#[I 0,I 0]) rfl Tryd.zeroValue62 rfl Z (fun g11 w12 Z=>ns (fA 0 fa_84_0 rfl rfl (ldB 2 Z Tryd.isAgg3 rfl rfl rfl (fA 0 fa_62_0 rfl rfl (L_stB (v:=I a.coef) (cs2:=#[I a.coef,I 0]) 0 rfl Tryd.sizeOf3 rfl rfl rfl Z rfl rfl rfl (fun w14 Z=>ns (fA 1 fa_84_1 rfl rfl (ldB 2 Z Tryd.isAgg3 rfl rfl rfl (fA 1 fa_62_1 rfl rfl (L_stB (v:=I a.lit) (cs2:=#[I a.coef,I a.lit]) 0 rfl Tryd.sizeOf3 rfl rfl rfl Z rfl rfl rfl (fun w16 Z=>ns (L_lda (cs:=[I a.coef,I a.lit]) rfl Tryd.isAgg62 Tryd.sizeOf62 rfl (At.sub0 (Blk.at (Star.blkAt 0 Z rfl)) 0 2) rfl (L_staB (vs:=#[I a.coef,I a.lit]) (cs2:=#[I a.coef,I a.lit]) 1 rfl Tryd.sizeOf62 rfl rfl rfl (ones_cons rfl (ones_cons rfl ones_nil)) Z rfl (by show 0 + 2≤2; decide) rfl (fun w18 Z=>nn (W_ret (retG1 (v1:=.agg #[I a.coef,I a.lit]) Tryd.results61 (resV_agg Tryd.isAgg62 Tryd.sizeOf62 rfl (Star.blkAt 0 Z rfl) rfl) ?_)))))))))))))))))))))
 obtain rfl:=so hF
 exact ⟨rfl,(Star.keepN 0 Z)⟩
theorem l_toTermS_c {a : List Term} {v0 : Value} {H : FH} {w : World} (Z : Star H w []) (h0 : (rS 84 rTerm).rel H [v0] a) {r : List Term} (hF : l_toTermS a = some r) :
 C Tryd.prog 33 #[v0] w fun v w'=>∃ (u1 : Value),v = u1∧Star H w' [oF 62 rTerm u1 r]:=by
 unfold l_toTermS at hF
 refine C_enter Tryd.func33 rfl Tryd.ntmps33 rfl (sq (aV S0 rfl (nq ?_)))
 obtain ⟨x1,hx1,hF⟩:=bind_some hF
 refine W_region (mV v0 rfl (L_len rfl Tryd.underlying22 rfl (slice_len h0) (L_mk (R:=(OR.frz rTerm)) (z0:=({ coef:=0,lit:=0 } : Term)) (zc:=[I 0,I 0]) rfl et_27 (by kernel_rfl) (fun _ _=>⟨rfl,rTerm_iff.2 rfl⟩) rfl rfl hx1 Z (fun v5 w6 Z=>aV v5 rfl (nq (sq (aI rfl (nn ?_))))))))
 have hlen10 : List.length a≤9223372036854775807:=len_le (slice_len h0)
 obtain ⟨j10,hL10,hF⟩:=bind_some hF
 obtain ⟨R10,hR10⟩:=exR fun f w_=>∃ out_9 : List Term,j10 = .nx out_9∧f 3 = v5∧Star H w_ ([oF 62 rTerm v5 out_9])
 refine W_join R10 ?_ ?_
 refine W_block ?_
 obtain ⟨I10,hI10⟩:=exI fun n f w_=>∃ i_8 : Nat,∃ suf10 : List Term,∃ out_9 : List Term,n = suf10.length∧List.drop i_8 a = suf10∧i_8 + suf10.length = a.length∧rangeL l_toTermS_b1 suf10 i_8 out_9 = some j10∧f 0 = v0∧f 3 = v5∧f 4 = I i_8∧Star H w_ ([oF 62 rTerm v5 out_9])
 refine W_loop I10 (n:=a.length) ?_ ?_
 exact ij hI10 ⟨0,a,x1,rfl,rfl,Nat.zero_add _,hL10,rfl,rfl,rfl,Z⟩
 intro n10 f w_ hI
 obtain ⟨i_8,suf10,out_9,rfl,hd10,hl10,hL10,sf0,sf3,sf4,Z⟩:=ik hI10 hI
 refine W_seq (sq (mF sf4 rfl (mF sf0 rfl (L_len rfl Tryd.underlying22 rfl (slice_len h0) (L_lss rfl rfl rfl (nn (W_cond (b:=decide ((i_8 : Int) < (a.length : Int))) rfl (fun hc11=>?_) (fun hc11=>?_))))))))
 have hlt10:=of_decide_eq_true hc11
 rcases suf10 with _ | ⟨x_10,rest10⟩
 exact absurd hlt10 (by simp at hl10; omega)
 obtain ⟨o10,hB10,hL10⟩:=range_cons hL10
 rw [l_toTermS_b1] at hB10
 have hix10:=drop_idx hd10
 refine W_skip (W_seq (W_block ?_))
 obtain ⟨x21,hx21,hB10⟩:=bind_some hB10
 obtain ⟨x23,hx23,hB10⟩:=bind_some hB10
 refine W_region (mF sf3 rfl (mF sf4 rfl (mF sf0 rfl (mF sf4 rfl (L_ix (r:=rTerm) rfl Tryd.underlying22 Tryd.sizeOf84 rfl h0 rfl hix10 (fun g27 o28 cs_g27 hrk_hat29 hat29=>?_))))))
 obtain rfl:=rTerm_iff.1 hrk_hat29
 refine L_lda (cs:=[I x_10.coef,I x_10.lit]) rfl Tryd.isAgg84 Tryd.sizeOf84 rfl (At.sub (AtH.at hat29 Z.sub) 0 2) rfl ?_
 obtain ⟨H31b,l32,s33,z34,k35⟩:=Z.borrow
 refine L_call rfl Tryd.call61 (ops1 rfl) (l_toTerm_c (a:=x_10) s33 hx21) ?_
 rintro _ w36 ⟨rfl,Z⟩
 have Z:=k35 Z c0
 obtain ⟨g37,cap_g37,hv38,_,_⟩:=Star.row 0 Z rfl hx23
 refine L_ixO (R:=(OR.frz rTerm)) (tb:=0) 0 rfl Tryd.underlying27 Tryd.sizeOf62 rfl hv38 (by first | rfl | simp) rfl hx23 ?_
 have Z:=Star.addF (r:=rTerm) (cs:=[I x21.coef,I x21.lit]) (x:=x21) Z (rTerm_iff.2 rfl)
 refine L_stE (vs:=#[I x21.coef,I x21.lit]) rfl Tryd.sizeOf62 rfl rfl rfl hv38 Z hx23 (fun w39 Z=>nn (W_region (mF sf4 rfl (L_add rfl rfl rfl (aI rfl (nn ?_))))))
 obtain rfl:=so hB10
 show ∃ m,m < _∧I10 m _ _
 refine ⟨rest10.length,by simp,?_⟩
 exact ij hI10 ⟨i_8 + 1,rest10,(out_9.set (Int.toNat (i_8 : Int)) x21),rfl,drop_next hd10,by simp at hl10; omega,hL10,sf0,sf3,(Eq.trans rfl (congrArg (Value.int .i64) (i64_succ (n:=a.length) (by simp at hl10; omega) hlen10))),Z⟩
 rcases suf10 with _ | ⟨_,_⟩
 obtain rfl:=range_nil hL10
 refine W_exit (rj hR10 ⟨out_9,rfl,sf3,Z⟩)
 exact absurd (of_decide_eq_false hc11) (by simp at hl10; omega)
 intro f w_ hR
 obtain ⟨out_9,rfl,sf3,Z⟩:=rk hR10 hR
 refine sq (mF sf3 rfl (aV v5 rfl (nn (W_ret (retG1 (v1:=v5) Tryd.results33 rfl ?_)))))
 obtain rfl:=so hF
 exact ⟨v5,rfl,Z⟩
theorem l_toConstraint_c {a : Con} {v0_0 : Value} {H : FH} {w : World} (Z : Star H w []) (h0_0 : (rS 84 rTerm).rel H [v0_0] a.terms) {r : Con} (hF : l_toConstraint a = some r) :
 C Tryd.prog 10 #[.agg #[v0_0,I a.bound]] w fun v w'=>∃ (u1 : Value),v = .agg #[u1,I r.bound]∧Star H w' [oF 62 rTerm u1 r.terms]:=by
 unfold l_toConstraint at hF
 refine C_enter Tryd.func10 rfl Tryd.ntmps10 rfl (sq (L_box (v:=.agg #[v0_0,I a.bound]) (cs:=#[v0_0,I a.bound]) rfl rfl rfl Z (fun g5 w6 Z=>L_al (cs:=#[S0,I 0]) rfl Tryd.zeroValue29 rfl Z (fun g7 w8 Z=>ns (L_al (cs:=#[S0,I 0]) rfl Tryd.zeroValue29 rfl Z (fun g11 w12 Z=>nq ?_))))))
 obtain ⟨x18,hx18,hF⟩:=bind_some hF
 refine W_region (fA 0 fa_24_0 rfl rfl (ldB 2 Z Tryd.isAgg22 rfl rfl rfl ?_))
 obtain ⟨H22b,l23,s24,z25,k26⟩:=Z.borrow
 refine L_call rfl Tryd.call33 (ops1 rfl) (l_toTermS_c (a:=a.terms) s24 (RP.mono _ h0_0 l23) hx18) ?_
 rintro r27_0 w27 ⟨_,rfl,Z⟩
 have Z:=k26 Z (co closed_term c0)
 refine fA 0 fa_29_0 rfl rfl (L_stB (v:=r27_0) (cs2:=#[r27_0,I 0]) 1 rfl Tryd.sizeOf27 rfl rfl (one_len (Star.len 0 Z rfl)) Z rfl rfl rfl (fun w29 Z=>ns (fA 1 fa_24_1 rfl rfl (ldB 3 Z Tryd.isAgg3 rfl rfl rfl (fA 1 fa_29_1 rfl rfl (L_stB (v:=I a.bound) (cs2:=#[r27_0,I a.bound]) 0 rfl Tryd.sizeOf3 rfl rfl rfl Z rfl rfl rfl (fun w31 Z=>ns (L_lda (cs:=[r27_0,I a.bound]) rfl Tryd.isAgg29 Tryd.sizeOf29 rfl (At.sub0 (Blk.at (Star.blkAt 0 Z rfl)) 0 2) rfl (L_staB (vs:=#[r27_0,I a.bound]) (cs2:=#[r27_0,I a.bound]) 2 rfl Tryd.sizeOf29 rfl rfl rfl (ones_cons (one_len (Star.len 1 Z rfl)) (ones_cons rfl ones_nil)) Z rfl (by show 0 + 2≤2; decide) rfl (fun w33 Z=>nn (W_ret (retG1 (v1:=.agg #[r27_0,I a.bound]) Tryd.results10 (resV_agg Tryd.isAgg29 Tryd.sizeOf29 rfl (Star.blkAt 0 Z rfl) rfl) ?_))))))))))))
 obtain rfl:=so hF
 have Z:=Z.get 2 rfl
 exact ⟨r27_0,rfl,(Star.keepN 1 Z)⟩
theorem i_within_c {n_ : Int} {low : Int} {high : Int} {H : FH} {w : World} (Z : Star H w []) {r : Bool} (hF : i_within n_ low high = some r) :
 C Tryd.prog 47 #[I n_,I low,I high] w fun v w'=>v = Bo r∧Star H w' []:=by
 unfold i_within at hF
 refine C_enter Tryd.func47 rfl Tryd.ntmps47 rfl (sq (aB rfl (nq ?_)))
 obtain ⟨R1,hR1⟩:=exR fun f w_=>f 6 = Bo ((decide (low≤n_)) && (decide (n_≤high)))∧Star H w_ ([])
 refine W_join R1 ?_ ?_
 refine W_region (mI rfl (mI rfl (L_leq rfl rfl rfl (mB rfl (L_split (d:=10) (b:=decide (low≤n_)) rfl (fun hc2=>?_) (fun hc2=>?_))))))
 refine mI rfl (mI rfl (L_leq rfl rfl rfl (L_pick (v:=Bo ((decide (low≤n_)) && (decide (n_≤high)))) rfl rfl (and_t hc2 rfl) (aB rfl (nn (rj hR1 ⟨rfl,Z⟩))))))
 refine ps rfl (ps rfl (ps rfl (L_pick (v:=Bo ((decide (low≤n_)) && (decide (n_≤high)))) rfl rfl (and_f hc2) (aB rfl (nn (rj hR1 ⟨rfl,Z⟩))))))
 intro f w_ hR
 obtain ⟨sf6,Z⟩:=rk hR1 hR
 refine W_ret (retG1 (v1:=Bo ((decide (low≤n_)) && (decide (n_≤high)))) Tryd.results47 sf6 ?_)
 obtain rfl:=so hF
 exact ⟨rfl,Z⟩
theorem i_isLiteral_c {l : Int} {H : FH} {w : World} (Z : Star H w []) {r : Bool} (hF : i_isLiteral l = some r) :
 C Tryd.prog 45 #[I l] w fun v w'=>v = Bo r∧Star H w' []:=by
 unfold i_isLiteral at hF
 refine C_enter Tryd.func45 rfl Tryd.ntmps45 rfl (sq (aB rfl (nq ?_)))
 obtain ⟨b8,hb8,hF⟩:=bind_some hF
 obtain ⟨R9,hR9⟩:=exR fun f w_=>f 2 = Bo b8∧Star H w_ ([])
 refine W_join R9 ?_ ?_
 refine W_region (mI rfl (L_neq rfl rfl rfl (mB rfl (L_split (d:=5) (b:=(l != 0)) rfl (fun hc10=>?_) (fun hc10=>?_)))))
 rw [ite_t hc10] at hb8
 obtain ⟨x6,hx6,hb8⟩:=bind_some hb8
 refine mI rfl ?_
 obtain ⟨H11b,l12,s13,z14,k15⟩:=Z.borrow
 refine L_call rfl Tryd.call47 (ops3 rfl rfl rfl) (i_within_c (n_:=l) (low:=(-12)) (high:=12) s13 hx6) ?_
 rintro _ w16 ⟨rfl,Z⟩
 have Z:=k15 Z c0
 refine L_pick (v:=Bo b8) rfl rfl (congrArg Value.bool (so hb8)) (aB rfl (nn (rj hR9 ⟨rfl,Z⟩)))
 rw [ite_f hc10] at hb8
 refine ps rfl (ps rfl (L_pick (v:=Bo b8) rfl rfl (congrArg Value.bool (so hb8)) (aB rfl (nn (rj hR9 ⟨rfl,Z⟩)))))
 intro f w_ hR
 obtain ⟨sf2,Z⟩:=rk hR9 hR
 refine W_ret (retG1 (v1:=Bo b8) Tryd.results45 sf2 ?_)
 obtain rfl:=so hF
 exact ⟨rfl,Z⟩
theorem i_variableOf_c {l : Int} {H : FH} {w : World} (Z : Star H w []) {r : Int} (hF : i_variableOf l = some r) :
 C Tryd.prog 46 #[I l] w fun v w'=>v = I r∧Star H w' []:=by
 unfold i_variableOf at hF
 refine C_enter Tryd.func46 rfl Tryd.ntmps46 rfl (sq (aI rfl (ns (mI rfl (mI rfl (L_neg rfl rfl (L_max rfl rfl rfl (aI rfl (nn (W_ret (retG1 (v1:=I (max l (i64 (-l)))) Tryd.results46 rfl ?_)))))))))))
 obtain rfl:=so hF
 exact ⟨rfl,Z⟩
theorem i_ConstraintValid_c {c : Con} {v0_0 : Value} {H : FH} {w : World} (Z : Star H w []) (h0_0 : (rS 62 rTerm).rel H [v0_0] c.terms) {r : Bool} (hF : i_ConstraintValid c = some r) :
 C Tryd.prog 18 #[.agg #[v0_0,I c.bound]] w fun v w'=>v = Bo r∧Star H w' []:=by
 unfold i_ConstraintValid at hF
 refine C_enter Tryd.func18 rfl Tryd.ntmps18 rfl (sq (L_box (v:=.agg #[v0_0,I c.bound]) (cs:=#[v0_0,I c.bound]) rfl rfl rfl Z (fun g3 w4 Z=>aB rfl (ns (aI rfl (nq (sq (fA 0 fa_29_0 rfl rfl (ldB 0 Z Tryd.isAgg27 rfl rfl rfl (L_len rfl Tryd.underlying27 rfl (slice_len h0_0) (mI rfl (nn ?_))))))))))))
 have hlen7 : List.length c.terms≤9223372036854775807:=len_le (slice_len h0_0)
 obtain ⟨j7,hL7,hF⟩:=bind_some hF
 obtain ⟨R7,hR7⟩:=exR fun f w_=>∃ before_6 : Int,j7 = .nx before_6∧f 1 = Pt g3∧Star H w_ ([box g3 29 #[v0_0,I c.bound]])
 refine W_join R7 ?_ ?_
 refine W_block ?_
 obtain ⟨I7,hI7⟩:=exI fun n f w_=>∃ i_5 : Nat,∃ suf7 : List Term,∃ before_6 : Int,n = suf7.length∧List.drop i_5 c.terms = suf7∧i_5 + suf7.length = c.terms.length∧rangeL i_ConstraintValid_b1 suf7 i_5 before_6 = some j7∧f 1 = Pt g3∧f 3 = I before_6∧f 7 = v0_0∧f 8 = I (c.terms.length : Int)∧f 9 = I i_5∧Star H w_ ([box g3 29 #[v0_0,I c.bound]])
 refine W_loop I7 (n:=c.terms.length) ?_ ?_
 exact ij hI7 ⟨0,c.terms,0,rfl,rfl,Nat.zero_add _,hL7,rfl,rfl,rfl,rfl,rfl,Z⟩
 intro n7 f w_ hI
 obtain ⟨i_5,suf7,before_6,rfl,hd7,hl7,hL7,sf1,sf3,sf7,sf8,sf9,Z⟩:=ik hI7 hI
 refine sq (L_lss rfl sf9 sf8 (nq (W_cond (b:=decide ((i_5 : Int) < (c.terms.length : Int))) rfl (fun hc8=>?_) (fun hc8=>?_))))
 have hlt7:=of_decide_eq_true hc8
 rcases suf7 with _ | ⟨x_7,rest7⟩
 exact absurd hlt7 (by simp at hl7; omega)
 obtain ⟨o7,hB7,hL7⟩:=range_cons hL7
 rw [i_ConstraintValid_b1] at hB7
 have hix7:=drop_idx hd7
 refine W_skip (W_seq (W_block (sq (L_ix (r:=rTerm) rfl Tryd.underlying27 Tryd.sizeOf62 sf7 h0_0 sf9 hix7 (fun g16 o17 cs_g16 hrk_hat18 hat18=>?_)))))
 obtain rfl:=rTerm_iff.1 hrk_hat18
 refine L_lda (cs:=[I x_7.coef,I x_7.lit]) rfl Tryd.isAgg62 Tryd.sizeOf62 rfl (At.sub (AtH.at hat18 Z.sub) 0 2) rfl (L_al (cs:=#[I 0,I 0]) rfl Tryd.zeroValue62 rfl Z (fun g20 w21 Z=>L_staB (vs:=#[I x_7.coef,I x_7.lit]) (cs2:=#[I x_7.coef,I x_7.lit]) 0 rfl Tryd.sizeOf62 rfl rfl rfl (ones_cons rfl (ones_cons rfl ones_nil)) Z rfl (by show 0 + 2≤2; decide) rfl (fun w22 Z=>nq (W_seq ?_))))
 obtain ⟨x28,hx28,hB7⟩:=bind_some hB7
 obtain ⟨b37,hb37,hB7⟩:=bind_some hB7
 obtain ⟨b45,hb45,hB7⟩:=bind_some hB7
 obtain ⟨R46,hR46⟩:=exR fun f w_=>f 1 = Pt g3∧f 5 = Pt g20∧f 7 = v0_0∧f 8 = I (c.terms.length : Int)∧f 9 = I i_5∧f 29 = Bo b45∧Star H w_ ([box g20 62 #[I x_7.coef,I x_7.lit],box g3 29 #[v0_0,I c.bound]])
 refine W_join R46 ?_ ?_
 refine W_region (fA 1 fa_62_1 rfl rfl (ldB 0 Z Tryd.isAgg3 rfl rfl rfl ?_))
 obtain ⟨H47b,l48,s49,z50,k51⟩:=Z.borrow
 refine L_call rfl Tryd.call45 (ops1 rfl) (i_isLiteral_c (l:=x_7.lit) s49 hx28) ?_
 rintro _ w52 ⟨rfl,Z⟩
 have Z:=k51 Z c0
 refine L_not_ rfl rfl (mB rfl (L_split (d:=17) (b:=(!x28)) rfl (fun hc53=>?_) (fun hc53=>?_)))
 rw [ite_t hc53] at hb37
 refine ps rfl (ps rfl (ps rfl (ps rfl (ps rfl (L_pick (v:=Bo b37) rfl rfl (congrArg Value.bool (so hb37)) (mB rfl (L_split (d:=24) (b:=b37) rfl (fun hc54=>?_) (fun hc54=>?_))))))))
 rw [ite_t hc54] at hb45
 refine ps rfl (ps rfl (ps rfl (ps rfl (L_pick (v:=Bo b45) rfl rfl (congrArg Value.bool (so hb45)) (nn (rj hR46 ⟨sf1,rfl,sf7,sf8,sf9,rfl,Z⟩))))))
 rw [ite_f hc54] at hb45
 obtain ⟨x43,hx43,hb45⟩:=bind_some hb45
 refine fA 0 fa_62_0 rfl rfl (ldB 0 Z Tryd.isAgg3 rfl rfl rfl ?_)
 obtain ⟨H55b,l56,s57,z58,k59⟩:=Z.borrow
 refine L_call rfl Tryd.call47 (ops3 rfl rfl rfl) (i_within_c (n_:=x_7.coef) (low:=1) (high:=1000) s57 hx43) ?_
 rintro _ w60 ⟨rfl,Z⟩
 have Z:=k59 Z c0
 refine L_not_ rfl rfl (L_pick (v:=Bo b45) rfl rfl (congrArg Value.bool (so hb45)) (nn (rj hR46 ⟨sf1,rfl,sf7,sf8,sf9,rfl,Z⟩)))
 rw [ite_f hc53] at hb37
 obtain ⟨x35,hx35,hb37⟩:=bind_some hb37
 refine fA 1 fa_62_1 rfl rfl (ldB 0 Z Tryd.isAgg3 rfl rfl rfl ?_)
 obtain ⟨H61b,l62,s63,z64,k65⟩:=Z.borrow
 refine L_call rfl Tryd.call46 (ops1 rfl) (i_variableOf_c (l:=x_7.lit) s63 hx35) ?_
 rintro _ w66 ⟨rfl,Z⟩
 have Z:=k65 Z c0
 refine mF sf3 rfl (L_leq rfl rfl rfl (L_pick (v:=Bo b37) rfl rfl (congrArg Value.bool (so hb37)) (mB rfl (L_split (d:=24) (b:=b37) rfl (fun hc67=>?_) (fun hc67=>?_)))))
 rw [ite_t hc67] at hb45
 refine ps rfl (ps rfl (ps rfl (ps rfl (L_pick (v:=Bo b45) rfl rfl (congrArg Value.bool (so hb45)) (nn (rj hR46 ⟨sf1,rfl,sf7,sf8,sf9,rfl,Z⟩))))))
 rw [ite_f hc67] at hb45
 obtain ⟨x43,hx43,hb45⟩:=bind_some hb45
 refine fA 0 fa_62_0 rfl rfl (ldB 0 Z Tryd.isAgg3 rfl rfl rfl ?_)
 obtain ⟨H68b,l69,s70,z71,k72⟩:=Z.borrow
 refine L_call rfl Tryd.call47 (ops3 rfl rfl rfl) (i_within_c (n_:=x_7.coef) (low:=1) (high:=1000) s70 hx43) ?_
 rintro _ w73 ⟨rfl,Z⟩
 have Z:=k72 Z c0
 refine L_not_ rfl rfl (L_pick (v:=Bo b45) rfl rfl (congrArg Value.bool (so hb45)) (nn (rj hR46 ⟨sf1,rfl,sf7,sf8,sf9,rfl,Z⟩)))
 intro f w_ hR
 obtain ⟨sf1,sf5,sf7,sf8,sf9,sf29,Z⟩:=rk hR46 hR
 refine W_cond (b:=b45) sf29 (fun hc74=>?_) (fun hc74=>?_)
 have hB7:=(ite_t hc74).symm.trans hB7
 refine sq (aB rfl (nn (W_ret (retG1 (v1:=Bo false) Tryd.results18 rfl ?_))))
 obtain rfl:=so hB7
 obtain rfl:=so hL7
 obtain rfl:=so hF
 exact ⟨rfl,(Star.keepN 0 Z)⟩
 have hB7:=(ite_f hc74).symm.trans hB7
 refine W_skip ?_
 obtain ⟨x80,hx80,hB7⟩:=bind_some hB7
 refine W_region (fA 1 fa_62_1 sf5 rfl (ldB 0 Z Tryd.isAgg3 rfl rfl rfl ?_))
 obtain ⟨H82b,l83,s84,z85,k86⟩:=Z.borrow
 refine L_call rfl Tryd.call46 (ops1 rfl) (i_variableOf_c (l:=x_7.lit) s84 hx80) ?_
 rintro _ w87 ⟨rfl,Z⟩
 have Z:=k86 Z c0
 refine aI rfl (nn (W_region (L_add rfl sf9 rfl (mI rfl (nn ?_)))))
 obtain rfl:=so hB7
 have Z:=Z.get 1 rfl
 show ∃ m,m < _∧I7 m _ _
 refine ⟨rest7.length,by simp,?_⟩
 exact ij hI7 ⟨i_5 + 1,rest7,x80,rfl,drop_next hd7,by simp at hl7; omega,hL7,sf1,rfl,sf7,sf8,(Eq.trans rfl (congrArg (Value.int .i64) (i64_succ (n:=c.terms.length) (by simp at hl7; omega) hlen7))),(Star.keepN 1 Z)⟩
 rcases suf7 with _ | ⟨_,_⟩
 obtain rfl:=range_nil hL7
 refine W_exit (rj hR7 ⟨before_6,rfl,sf1,Z⟩)
 exact absurd (of_decide_eq_false hc8) (by simp at hl7; omega)
 intro f w_ hR
 obtain ⟨before_6,rfl,sf1,Z⟩:=rk hR7 hR
 refine W_seq ?_
 obtain ⟨x93,hx93,hF⟩:=bind_some hF
 refine W_region (fA 1 fa_29_1 sf1 rfl (ldB 0 Z Tryd.isAgg3 rfl rfl rfl ?_))
 obtain ⟨H95b,l96,s97,z98,k99⟩:=Z.borrow
 refine L_call rfl Tryd.call47 (ops3 rfl rfl rfl) (i_within_c (n_:=c.bound) (low:=0) (high:=20000) s97 hx93) ?_
 rintro _ w100 ⟨rfl,Z⟩
 have Z:=k99 Z c0
 refine aB rfl (nn (W_ret (retG1 (v1:=Bo x93) Tryd.results18 rfl ?_)))
 obtain rfl:=so hF
 exact ⟨rfl,(Star.keepN 0 Z)⟩
theorem strconv_Itoa_c {x_ : Int} {H : FH} {w : World} (Z : Star H w []) {r : ByteArray} (hF : strconv_Itoa x_ = some r) :
 C Tryd.prog 62 #[I x_] w fun v w'=>v = .string r∧Star H w' []:=by
 obtain ⟨h0,h1,rfl⟩:=strconv_Itoa_some hF
 refine Calls.mono (Tryd.strconv_Itoa x_ h0 h1 w (Z.sub.var H.glob.tab)) ?_
 rintro e w' ⟨rfl,k,os,rfl⟩
 exact ⟨_,rfl,rfl,Star.ext Z (grown_drew w k os)⟩
theorem i_literalText_c {l : Int} {H : FH} {w : World} (Z : Star H w []) {r : ByteArray} (hF : i_literalText l = some r) :
 C Tryd.prog 63 #[I l] w fun v w'=>v = .string r∧Star H w' []:=by
 unfold i_literalText at hF
 refine C_enter Tryd.func63 rfl Tryd.ntmps63 rfl (sq (aV (.string (⟨#[]⟩ : ByteArray)) rfl (nq (sq (mI rfl (L_lss rfl rfl rfl (nn (W_cond (b:=decide (l < 0)) rfl (fun hc1=>?_) (fun hc1=>?_)))))))))
 have hF:=(ite_t hc1).symm.trans hF
 refine W_seq ?_
 obtain ⟨x7,hx7,hF⟩:=bind_some hF
 obtain ⟨x9,hx9,hF⟩:=bind_some hF
 refine W_region (mI rfl (L_neg rfl rfl ?_))
 obtain ⟨H10b,l11,s12,z13,k14⟩:=Z.borrow
 refine L_call rfl Tryd.call62 (ops1 rfl) (strconv_Itoa_c (x_:=i64 (-l)) s12 hx7) ?_
 rintro _ w15 ⟨rfl,Z⟩
 have Z:=k14 Z c0
 obtain ⟨hx9_l,hx9_e⟩:=cat_some hx9
 refine L_sadd (s:=(⟨#[126,120]⟩ : ByteArray)) (s':=x7) rfl rfl rfl hx9_l ?_
 rw [← hx9_e]
 refine aV (.string x9) rfl (nn (W_ret (retG1 (v1:=.string x9) Tryd.results63 rfl ?_)))
 obtain rfl:=so hF
 exact ⟨rfl,Z⟩
 have hF:=(ite_f hc1).symm.trans hF
 refine W_skip (W_seq ?_)
 obtain ⟨x21,hx21,hF⟩:=bind_some hF
 obtain ⟨x23,hx23,hF⟩:=bind_some hF
 refine W_region (mI rfl ?_)
 obtain ⟨H24b,l25,s26,z27,k28⟩:=Z.borrow
 refine L_call rfl Tryd.call62 (ops1 rfl) (strconv_Itoa_c (x_:=l) s26 hx21) ?_
 rintro _ w29 ⟨rfl,Z⟩
 have Z:=k28 Z c0
 obtain ⟨hx23_l,hx23_e⟩:=cat_some hx23
 refine L_sadd (s:=(⟨#[120]⟩ : ByteArray)) (s':=x21) rfl rfl rfl hx23_l ?_
 rw [← hx23_e]
 refine aV (.string x23) rfl (nn (W_ret (retG1 (v1:=.string x23) Tryd.results63 rfl ?_)))
 obtain rfl:=so hF
 exact ⟨rfl,Z⟩
theorem i_Constraint_text_c {c : Con} {v0_0 : Value} {H : FH} {w : World} (Z : Star H w []) (h0_0 : (rS 62 rTerm).rel H [v0_0] c.terms) {r : ByteArray} (hF : i_Constraint_text c = some r) :
 C Tryd.prog 34 #[.agg #[v0_0,I c.bound]] w fun v w'=>v = .string r∧Star H w' []:=by
 unfold i_Constraint_text at hF
 refine C_enter Tryd.func34 rfl Tryd.ntmps34 rfl (sq (L_box (v:=.agg #[v0_0,I c.bound]) (cs:=#[v0_0,I c.bound]) rfl rfl rfl Z (fun g3 w4 Z=>aV (.string (⟨#[]⟩ : ByteArray)) rfl (ns (aV (.string (⟨#[]⟩ : ByteArray)) rfl (nq (sq (fA 0 fa_29_0 rfl rfl (ldB 0 Z Tryd.isAgg27 rfl rfl rfl (L_len rfl Tryd.underlying27 rfl (slice_len h0_0) (mI rfl (nn ?_))))))))))))
 have hlen9 : List.length c.terms≤9223372036854775807:=len_le (slice_len h0_0)
 obtain ⟨j9,hL9,hF⟩:=bind_some hF
 obtain ⟨R9,hR9⟩:=exR fun f w_=>∃ out_6 : ByteArray,∃ H7 : FH,j9 = .nx out_6∧Le H H7∧f 1 = Pt g3∧f 3 = .string out_6∧Star H7 w_ ([box g3 29 #[v0_0,I c.bound]])
 refine W_join R9 ?_ ?_
 refine W_block ?_
 obtain ⟨I9,hI9⟩:=exI fun n f w_=>∃ i_5 : Nat,∃ suf9 : List Term,∃ out_6 : ByteArray,∃ H7 : FH,n = suf9.length∧List.drop i_5 c.terms = suf9∧i_5 + suf9.length = c.terms.length∧rangeL i_Constraint_text_b1 suf9 i_5 out_6 = some j9∧Le H H7∧f 1 = Pt g3∧f 3 = .string out_6∧f 7 = v0_0∧f 8 = I (c.terms.length : Int)∧f 9 = I i_5∧Star H7 w_ ([box g3 29 #[v0_0,I c.bound]])
 refine W_loop I9 (n:=c.terms.length) ?_ ?_
 exact ij hI9 ⟨0,c.terms,(⟨#[]⟩ : ByteArray),H,rfl,rfl,Nat.zero_add _,hL9,(Le.refl _),rfl,rfl,rfl,rfl,rfl,Z⟩
 intro n9 f w_ hI
 obtain ⟨i_5,suf9,out_6,H7,rfl,hd9,hl9,hL9,l8,sf1,sf3,sf7,sf8,sf9,Z⟩:=ik hI9 hI
 refine sq (L_lss rfl sf9 sf8 (nq (W_cond (b:=decide ((i_5 : Int) < (c.terms.length : Int))) rfl (fun hc10=>?_) (fun hc10=>?_))))
 have hlt9:=of_decide_eq_true hc10
 rcases suf9 with _ | ⟨x_9,rest9⟩
 exact absurd hlt9 (by simp at hl9; omega)
 obtain ⟨o9,hB9,hL9⟩:=range_cons hL9
 rw [i_Constraint_text_b1] at hB9
 have hix9:=drop_idx hd9
 refine W_skip (W_seq (W_block (sq (L_ix (r:=rTerm) rfl Tryd.underlying27 Tryd.sizeOf62 sf7 (RP.mono _ h0_0 l8) sf9 hix9 (fun g18 o19 cs_g18 hrk_hat20 hat20=>?_)))))
 obtain rfl:=rTerm_iff.1 hrk_hat20
 refine L_lda (cs:=[I x_9.coef,I x_9.lit]) rfl Tryd.isAgg62 Tryd.sizeOf62 rfl (At.sub (AtH.at hat20 Z.sub) 0 2) rfl (L_al (cs:=#[I 0,I 0]) rfl Tryd.zeroValue62 rfl Z (fun g22 w23 Z=>L_staB (vs:=#[I x_9.coef,I x_9.lit]) (cs2:=#[I x_9.coef,I x_9.lit]) 0 rfl Tryd.sizeOf62 rfl rfl rfl (ones_cons rfl (ones_cons rfl ones_nil)) Z rfl (by show 0 + 2≤2; decide) rfl (fun w24 Z=>nn ?_)))
 obtain ⟨x30,hx30,hB9⟩:=bind_some hB9
 obtain ⟨x32,hx32,hB9⟩:=bind_some hB9
 obtain ⟨x38,hx38,hB9⟩:=bind_some hB9
 obtain ⟨x40,hx40,hB9⟩:=bind_some hB9
 obtain ⟨x41,hx41,hB9⟩:=bind_some hB9
 obtain ⟨x42,hx42,hB9⟩:=bind_some hB9
 refine W_drawS 10 [isV (.string out_6),isV (Pt g22),isV (I x_9.coef),isV (.string x30),isV (.string x32),isV (Pq g22 1),isV (I x_9.lit),isV (.string x38),isV (.string x40),isV (.string x41)] [box g22 62 #[I x_9.coef,I x_9.lit],box g3 29 #[v0_0,I c.bound]] [] ([]) [([],[]),([],[]),([],[]),([],[]),([],[]),([],[]),([],[]),([],[]),([],[]),([],[])] (S:=[]) Tryd_mix (by kernel_rfl) rfl (by kernel_rfl) (amF_cons (mono_V _) (amF_cons (mono_V _) (amF_cons (mono_V _) (amF_cons (mono_V _) (amF_cons (mono_V _) (amF_cons (mono_V _) (amF_cons (mono_V _) (amF_cons (mono_V _) (amF_cons (mono_V _) (amF_cons (mono_V _) amF_nil)))))))))) Z ?_ (fun f w_ H43 hS43 hE43 hT43 Z=>?_)
 refine opsS_cons (fun f w_ _ _ s _ _ Z=>mF ((s 3 rfl).trans sf3) rfl (nO rfl rfl Z)) (opsS_cons (fun f w_ _ _ s _ _ Z=>fA 0 fa_62_0 ((s 5 rfl).trans rfl) rfl (nO rfl rfl Z)) (opsS_cons (fun f w_ _ _ _ _ p Z=>ldB 0 Z Tryd.isAgg3 (p 1 14 rfl rfl) rfl rfl (nO rfl rfl Z)) (opsS_cons ?_ ?_)))
 intro f w_ H43 X43 hS43 hE43 hP43 Z
 obtain ⟨H56b,l57,s58,z59,k60⟩:=Z.borrow
 refine L_call rfl Tryd.call62 (ops1 (hP43 2 15 rfl rfl)) (strconv_Itoa_c (x_:=x_9.coef) s58 hx30) ?_
 rintro _ w61 ⟨rfl,Z⟩
 have Z:=k60 Z c0
 exact L_nil ⟨rfl,_,_,rfl,Le.refl _,fun _ _=>rfl,Z⟩
 refine opsS_cons ?_ ?_
 intro f w_ H43 X43 hS43 hE43 hP43 Z
 obtain ⟨hx32_l,hx32_e⟩:=cat_some hx32
 refine L_sadd (s:=x30) (s':=(⟨#[32]⟩ : ByteArray)) rfl (hP43 3 16 rfl rfl) rfl hx32_l ?_
 rw [← hx32_e]
 exact L_nil ⟨rfl,_,_,rfl,Le.refl _,fun _ _=>rfl,Z⟩
 refine opsS_cons (fun f w_ _ _ s _ _ Z=>fA 1 fa_62_1 ((s 5 rfl).trans rfl) rfl (nO rfl rfl Z)) (opsS_cons (fun f w_ _ _ _ _ p Z=>ldB 0 Z Tryd.isAgg3 (p 5 18 rfl rfl) rfl rfl (nO rfl rfl Z)) (opsS_cons ?_ ?_))
 intro f w_ H43 X43 hS43 hE43 hP43 Z
 obtain ⟨H62b,l63,s64,z65,k66⟩:=Z.borrow
 refine L_call rfl Tryd.call63 (ops1 (hP43 6 19 rfl rfl)) (i_literalText_c (l:=x_9.lit) s64 hx38) ?_
 rintro _ w67 ⟨rfl,Z⟩
 have Z:=k66 Z c0
 exact L_nil ⟨rfl,_,_,rfl,Le.refl _,fun _ _=>rfl,Z⟩
 refine opsS_cons ?_ ?_
 intro f w_ H43 X43 hS43 hE43 hP43 Z
 obtain ⟨hx40_l,hx40_e⟩:=cat_some hx40
 refine L_sadd (s:=x32) (s':=x38) rfl (hP43 4 17 rfl rfl) (hP43 7 20 rfl rfl) hx40_l ?_
 rw [← hx40_e]
 exact L_nil ⟨rfl,_,_,rfl,Le.refl _,fun _ _=>rfl,Z⟩
 refine opsS_cons ?_ ?_
 intro f w_ H43 X43 hS43 hE43 hP43 Z
 obtain ⟨hx41_l,hx41_e⟩:=cat_some hx41
 refine L_sadd (s:=x40) (s':=(⟨#[32]⟩ : ByteArray)) rfl (hP43 8 21 rfl rfl) rfl hx41_l ?_
 rw [← hx41_e]
 exact L_nil ⟨rfl,_,_,rfl,Le.refl _,fun _ _=>rfl,Z⟩
 exact opsS_nil
 obtain ⟨hx42_l,hx42_e⟩:=cat_some hx42
 refine L_sadd (s:=out_6) (s':=x41) rfl (hT43 0 13 rfl rfl) (hT43 9 22 rfl rfl) hx42_l ?_
 rw [← hx42_e]
 refine aV (.string x42) rfl (nn (W_region (L_add rfl ((hS43 9 rfl).trans sf9) rfl (mI rfl (nn ?_)))))
 obtain rfl:=so hB9
 have Z:=Z.get 1 rfl
 show ∃ m,m < _∧I9 m _ _
 refine ⟨rest9.length,by simp,?_⟩
 exact ij hI9 ⟨i_5 + 1,rest9,x42,H43,rfl,drop_next hd9,by simp at hl9; omega,hL9,(Le.trans l8 hE43),((hS43 1 rfl).trans sf1),rfl,((hS43 7 rfl).trans sf7),((hS43 8 rfl).trans sf8),(Eq.trans rfl (congrArg (Value.int .i64) (i64_succ (n:=c.terms.length) (by simp at hl9; omega) hlen9))),(Star.keepN 1 Z)⟩
 rcases suf9 with _ | ⟨_,_⟩
 obtain rfl:=range_nil hL9
 refine W_exit (rj hR9 ⟨out_6,H7,rfl,l8,sf1,sf3,Z⟩)
 exact absurd (of_decide_eq_false hc10) (by simp at hl9; omega)
 intro f w_ hR
 obtain ⟨out_6,H7,rfl,l8,sf1,sf3,Z⟩:=rk hR9 hR
 refine W_seq ?_
 obtain ⟨x68,hx68,hF⟩:=bind_some hF
 obtain ⟨x74,hx74,hF⟩:=bind_some hF
 obtain ⟨x76,hx76,hF⟩:=bind_some hF
 refine W_region (mF sf3 rfl ?_)
 obtain ⟨hx68_l,hx68_e⟩:=cat_some hx68
 refine L_sadd (s:=out_6) (s':=(⟨#[62,61,32]⟩ : ByteArray)) rfl rfl rfl hx68_l ?_
 rw [← hx68_e]
 refine fA 1 fa_29_1 sf1 rfl (ldB 0 Z Tryd.isAgg3 rfl rfl rfl ?_)
 obtain ⟨H77b,l78,s79,z80,k81⟩:=Z.borrow
 refine L_call rfl Tryd.call62 (ops1 rfl) (strconv_Itoa_c (x_:=c.bound) s79 hx74) ?_
 rintro _ w82 ⟨rfl,Z⟩
 have Z:=k81 Z c0
 obtain ⟨hx76_l,hx76_e⟩:=cat_some hx76
 refine L_sadd (s:=x68) (s':=x74) rfl rfl rfl hx76_l ?_
 rw [← hx76_e]
 refine aV (.string x76) rfl (nn (W_ret (retG1 (v1:=.string x76) Tryd.results34 rfl ?_)))
 obtain rfl:=so hF
 exact ⟨rfl,(Star.down (Star.keepN 0 Z) l8 c0)⟩
theorem l_eqTerm_c {a : Term} {b : Term} {H : FH} {w : World} (Z : Star H w []) {r : Bool} (hF : l_eqTerm a b = some r) :
 C Tryd.prog 64 #[.agg #[I a.coef,I a.lit],.agg #[I b.coef,I b.lit]] w fun v w'=>v = Bo r∧Star H w' []:=by
 unfold l_eqTerm at hF
 refine C_enter Tryd.func64 rfl Tryd.ntmps64 rfl (sq (L_box (v:=.agg #[I a.coef,I a.lit]) (cs:=#[I a.coef,I a.lit]) rfl rfl rfl Z (fun g5 w6 Z=>L_box (v:=.agg #[I b.coef,I b.lit]) (cs:=#[I b.coef,I b.lit]) rfl rfl rfl Z (fun g7 w8 Z=>aB rfl (nq (sq (fA 0 fa_62_0 rfl rfl (ldB 1 Z Tryd.isAgg3 rfl rfl rfl (fA 0 fa_62_0 rfl rfl (ldB 0 Z Tryd.isAgg3 rfl rfl rfl (L_neq rfl rfl rfl (nn (W_cond (b:=(a.coef != b.coef)) rfl (fun hc9=>?_) (fun hc9=>?_))))))))))))))
 have hF:=(ite_t hc9).symm.trans hF
 refine sq (aB rfl (nn (W_ret (retG1 (v1:=Bo false) Tryd.results64 rfl ?_))))
 obtain rfl:=so hF
 exact ⟨rfl,(Star.keepN 0 Z)⟩
 have hF:=(ite_f hc9).symm.trans hF
 refine W_skip (W_seq (sq (fA 1 fa_62_1 rfl rfl (ldB 1 Z Tryd.isAgg3 rfl rfl rfl (fA 1 fa_62_1 rfl rfl (ldB 0 Z Tryd.isAgg3 rfl rfl rfl (L_neq rfl rfl rfl (nn (W_cond (b:=(a.lit != b.lit)) rfl (fun hc10=>?_) (fun hc10=>?_))))))))))
 have hF:=(ite_t hc10).symm.trans hF
 refine sq (aB rfl (nn (W_ret (retG1 (v1:=Bo false) Tryd.results64 rfl ?_))))
 obtain rfl:=so hF
 exact ⟨rfl,(Star.keepN 0 Z)⟩
 have hF:=(ite_f hc10).symm.trans hF
 refine W_skip (sq (aB rfl (nn (W_ret (retG1 (v1:=Bo true) Tryd.results64 rfl ?_)))))
 obtain rfl:=so hF
 exact ⟨rfl,(Star.keepN 0 Z)⟩
theorem l_eqTermS_c {a : List Term} {b : List Term} {v0 : Value} {v1 : Value} {H : FH} {w : World} (Z : Star H w []) (h0 : (rS 62 rTerm).rel H [v0] a) (h1 : (rS 62 rTerm).rel H [v1] b) {r : Bool} (hF : l_eqTermS a b = some r) :
 C Tryd.prog 35 #[v0,v1] w fun v w'=>v = Bo r∧Star H w' []:=by
 unfold l_eqTermS at hF
 refine C_enter Tryd.func35 rfl Tryd.ntmps35 rfl (sq (aB rfl (nq (sq (mV v0 rfl (L_len rfl Tryd.underlying27 rfl (slice_len h0) (mV v1 rfl (L_len rfl Tryd.underlying27 rfl (slice_len h1) (L_neq rfl rfl rfl (nn (W_cond (b:=((a.length : Int) != (b.length : Int))) rfl (fun hc1=>?_) (fun hc1=>?_))))))))))))
 have hF:=(ite_t hc1).symm.trans hF
 refine sq (aB rfl (nn (W_ret (retG1 (v1:=Bo false) Tryd.results35 rfl ?_))))
 obtain rfl:=so hF
 exact ⟨rfl,Z⟩
 have hF:=(ite_f hc1).symm.trans hF
 refine W_skip (W_seq (sq (aI rfl (nn ?_))))
 have hlen5 : List.length a≤9223372036854775807:=len_le (slice_len h0)
 obtain ⟨j5,hL5,hF⟩:=bind_some hF
 obtain ⟨R5,hR5⟩:=exR fun f w_=>∃ H3 : FH,j5 = .nx ()∧Le H H3∧Star H3 w_ ([])
 refine W_join R5 ?_ ?_
 refine W_block ?_
 obtain ⟨I5,hI5⟩:=exI fun n f w_=>∃ i_2 : Nat,∃ suf5 : List Term,∃ H3 : FH,n = suf5.length∧List.drop i_2 a = suf5∧i_2 + suf5.length = a.length∧rangeL (l_eqTermS_b1 b) suf5 i_2 () = some j5∧Le H H3∧f 0 = v0∧f 1 = v1∧f 5 = I i_2∧Star H3 w_ ([])
 refine W_loop I5 (n:=a.length) ?_ ?_
 exact ij hI5 ⟨0,a,H,rfl,rfl,Nat.zero_add _,hL5,(Le.refl _),rfl,rfl,rfl,Z⟩
 intro n5 f w_ hI
 obtain ⟨i_2,suf5,H3,rfl,hd5,hl5,hL5,l4,sf0,sf1,sf5,Z⟩:=ik hI5 hI
 refine W_seq (sq (mF sf5 rfl (mF sf0 rfl (L_len rfl Tryd.underlying27 rfl (slice_len (RP.mono _ h0 l4)) (L_lss rfl rfl rfl (nn (W_cond (b:=decide ((i_2 : Int) < (a.length : Int))) rfl (fun hc6=>?_) (fun hc6=>?_))))))))
 have hlt5:=of_decide_eq_true hc6
 rcases suf5 with _ | ⟨x_5,rest5⟩
 exact absurd hlt5 (by simp at hl5; omega)
 obtain ⟨o5,hB5,hL5⟩:=range_cons hL5
 rw [l_eqTermS_b1] at hB5
 have hix5:=drop_idx hd5
 refine W_skip (W_seq (W_block (W_seq ?_)))
 obtain ⟨x11,hx11,hB5⟩:=bind_some hB5
 obtain ⟨x21,hx21,hB5⟩:=bind_some hB5
 refine W_drawS 8 [isV (v0),isV (I i_2),isEl rTerm x_5 0,isV (.agg #[I x_5.coef,I x_5.lit]),isV (v1),isV (I i_2),isEl rTerm x11 0,isV (.agg #[I x11.coef,I x11.lit])] [] [] ([]) [([],[]),([],[]),([],[]),([],[]),([],[]),([],[]),([],[]),([],[])] (S:=[]) Tryd_mix (by kernel_rfl) rfl (by kernel_rfl) (amF_cons (mono_V _) (amF_cons (mono_V _) (amF_cons (mono_el _ _ _) (amF_cons (mono_V _) (amF_cons (mono_V _) (amF_cons (mono_V _) (amF_cons (mono_el _ _ _) (amF_cons (mono_V _) amF_nil)))))))) Z ?_ (fun f w_ H23 hS23 hE23 hT23 Z=>?_)
 refine opsS_cons (fun f w_ _ _ s _ _ Z=>mF ((s 0 rfl).trans sf0) rfl (nO rfl rfl Z)) (opsS_cons (fun f w_ _ _ s _ _ Z=>mF ((s 5 rfl).trans sf5) rfl (nO rfl rfl Z)) (opsS_cons ?_ ?_))
 intro f w_ H23 X23 hS23 hE23 hP23 Z
 refine L_ix (r:=rTerm) rfl Tryd.underlying27 Tryd.sizeOf62 (hP23 0 17 rfl rfl) (RP.mono _ h0 (Le.trans l4 hE23)) (hP23 1 18 rfl rfl) hix5 (fun g32 o33 cs_g32 hrk_hat34 hat34=>?_)
 obtain rfl:=rTerm_iff.1 hrk_hat34
 exact L_nil ⟨rfl,_,_,rfl,Le.refl _,fun _ _=>⟨_,_,_,rfl,hrk_hat34,hat34⟩,Z⟩
 refine opsS_cons ?_ ?_
 intro f w_ H23 X23 hS23 hE23 hP23 Z
 obtain ⟨g36,o36,cs36,hv36,hrk_hat36,hat36⟩:=(hP23 2 19 rfl rfl)
 obtain rfl:=rTerm_iff.1 hrk_hat36
 refine L_lda (cs:=[I x_5.coef,I x_5.lit]) rfl Tryd.isAgg62 Tryd.sizeOf62 hv36 (At.sub (AtH.at hat36 Z.sub) 0 2) rfl (L_nil ⟨rfl,_,_,rfl,Le.refl _,fun _ _=>rfl,Z⟩)
 refine opsS_cons (fun f w_ _ _ s _ _ Z=>mF ((s 1 rfl).trans sf1) rfl (nO rfl rfl Z)) (opsS_cons (fun f w_ _ _ s _ _ Z=>mF ((s 5 rfl).trans sf5) rfl (nO rfl rfl Z)) (opsS_cons ?_ ?_))
 intro f w_ H23 X23 hS23 hE23 hP23 Z
 refine L_ix (r:=rTerm) rfl Tryd.underlying27 Tryd.sizeOf62 (hP23 4 21 rfl rfl) (RP.mono _ h1 (Le.trans l4 hE23)) (hP23 5 22 rfl rfl) hx11 (fun g38 o39 cs_g38 hrk_hat40 hat40=>?_)
 obtain rfl:=rTerm_iff.1 hrk_hat40
 exact L_nil ⟨rfl,_,_,rfl,Le.refl _,fun _ _=>⟨_,_,_,rfl,hrk_hat40,hat40⟩,Z⟩
 refine opsS_cons ?_ ?_
 intro f w_ H23 X23 hS23 hE23 hP23 Z
 obtain ⟨g42,o42,cs42,hv42,hrk_hat42,hat42⟩:=(hP23 6 23 rfl rfl)
 obtain rfl:=rTerm_iff.1 hrk_hat42
 refine L_lda (cs:=[I x11.coef,I x11.lit]) rfl Tryd.isAgg62 Tryd.sizeOf62 hv42 (At.sub (AtH.at hat42 Z.sub) 0 2) rfl (L_nil ⟨rfl,_,_,rfl,Le.refl _,fun _ _=>rfl,Z⟩)
 exact opsS_nil
 obtain ⟨H44b,l45,s46,z47,k48⟩:=Z.borrow
 refine L_call rfl Tryd.call64 (ops2 (hT23 3 20 rfl rfl) (hT23 7 24 rfl rfl)) (l_eqTerm_c (a:=x_5) (b:=x11) s46 hx21) ?_
 rintro _ w49 ⟨rfl,Z⟩
 have Z:=k48 Z c0
 refine L_not_ rfl rfl (nn (W_cond (b:=(!x21)) rfl (fun hc50=>?_) (fun hc50=>?_)))
 have hB5:=(ite_t hc50).symm.trans hB5
 refine sq (aB rfl (nn (W_ret (retG1 (v1:=Bo false) Tryd.results35 rfl ?_))))
 obtain rfl:=so hB5
 obtain rfl:=so hL5
 obtain rfl:=so hF
 exact ⟨rfl,(Star.down Z (Le.trans l4 hE23) c0)⟩
 have hB5:=(ite_f hc50).symm.trans hB5
 refine W_skip (W_region (mF ((hS23 5 rfl).trans sf5) rfl (L_add rfl rfl rfl (aI rfl (nn ?_)))))
 obtain rfl:=so hB5
 show ∃ m,m < _∧I5 m _ _
 refine ⟨rest5.length,by simp,?_⟩
 exact ij hI5 ⟨i_2 + 1,rest5,H23,rfl,drop_next hd5,by simp at hl5; omega,hL5,(Le.trans l4 hE23),((hS23 0 rfl).trans sf0),((hS23 1 rfl).trans sf1),(Eq.trans rfl (congrArg (Value.int .i64) (i64_succ (n:=a.length) (by simp at hl5; omega) hlen5))),Z⟩
 rcases suf5 with _ | ⟨_,_⟩
 obtain rfl:=range_nil hL5
 refine W_exit (rj hR5 ⟨H3,rfl,l4,Z⟩)
 exact absurd (of_decide_eq_false hc6) (by simp at hl5; omega)
 intro f w_ hR
 obtain ⟨H3,rfl,l4,Z⟩:=rk hR5 hR
 refine sq (aB rfl (nn (W_ret (retG1 (v1:=Bo true) Tryd.results35 rfl ?_))))
 obtain rfl:=so hF
 exact ⟨rfl,(Star.down Z l4 c0)⟩
theorem l_eqConstraint_c {a : Con} {b : Con} {v0_0 : Value} {v1_0 : Value} {H : FH} {w : World} (Z : Star H w []) (h0_0 : (rS 62 rTerm).rel H [v0_0] a.terms) (h1_0 : (rS 62 rTerm).rel H [v1_0] b.terms) {r : Bool} (hF : l_eqConstraint a b = some r) :
 C Tryd.prog 12 #[.agg #[v0_0,I a.bound],.agg #[v1_0,I b.bound]] w fun v w'=>v = Bo r∧Star H w' []:=by
 unfold l_eqConstraint at hF
 refine C_enter Tryd.func12 rfl Tryd.ntmps12 rfl (sq (L_box (v:=.agg #[v0_0,I a.bound]) (cs:=#[v0_0,I a.bound]) rfl rfl rfl Z (fun g5 w6 Z=>L_box (v:=.agg #[v1_0,I b.bound]) (cs:=#[v1_0,I b.bound]) rfl rfl rfl Z (fun g7 w8 Z=>aB rfl (nq (W_seq ?_))))))
 obtain ⟨x14,hx14,hF⟩:=bind_some hF
 refine W_region (fA 0 fa_29_0 rfl rfl (ldB 1 Z Tryd.isAgg27 rfl rfl rfl (fA 0 fa_29_0 rfl rfl (ldB 0 Z Tryd.isAgg27 rfl rfl rfl ?_))))
 obtain ⟨H16b,l17,s18,z19,k20⟩:=Z.borrow
 refine L_call rfl Tryd.call35 (ops2 rfl rfl) (l_eqTermS_c (a:=a.terms) (b:=b.terms) s18 (RP.mono _ h0_0 l17) (RP.mono _ h1_0 l17) hx14) ?_
 rintro _ w21 ⟨rfl,Z⟩
 have Z:=k20 Z c0
 refine L_not_ rfl rfl (nn (W_cond (b:=(!x14)) rfl (fun hc22=>?_) (fun hc22=>?_)))
 have hF:=(ite_t hc22).symm.trans hF
 refine sq (aB rfl (nn (W_ret (retG1 (v1:=Bo false) Tryd.results12 rfl ?_))))
 obtain rfl:=so hF
 exact ⟨rfl,(Star.keepN 0 Z)⟩
 have hF:=(ite_f hc22).symm.trans hF
 refine W_skip (W_seq (sq (fA 1 fa_29_1 rfl rfl (ldB 1 Z Tryd.isAgg3 rfl rfl rfl (fA 1 fa_29_1 rfl rfl (ldB 0 Z Tryd.isAgg3 rfl rfl rfl (L_neq rfl rfl rfl (nn (W_cond (b:=(a.bound != b.bound)) rfl (fun hc23=>?_) (fun hc23=>?_))))))))))
 have hF:=(ite_t hc23).symm.trans hF
 refine sq (aB rfl (nn (W_ret (retG1 (v1:=Bo false) Tryd.results12 rfl ?_))))
 obtain rfl:=so hF
 exact ⟨rfl,(Star.keepN 0 Z)⟩
 have hF:=(ite_f hc23).symm.trans hF
 refine W_skip (sq (aB rfl (nn (W_ret (retG1 (v1:=Bo true) Tryd.results12 rfl ?_)))))
 obtain rfl:=so hF
 exact ⟨rfl,(Star.keepN 0 Z)⟩
theorem l_szConstraintS_c {a : List Con} {left : Int} {v0 : Value} {H : FH} {w : World} (Z : Star H w []) (h0 : (rS 24 (rCon 84)).rel H [v0] a) {r : Int} (hF : l_szConstraintS a left = some r) :
 C Tryd.prog 22 #[v0,I left] w fun v w'=>v = I r∧Star H w' []:=by
 unfold l_szConstraintS at hF
 refine C_enter Tryd.func22 rfl Tryd.ntmps22 rfl (sq (aI rfl (ns (mI rfl (mV v0 rfl (L_len rfl Tryd.underlying42 rfl (slice_len h0) (L_sub rfl rfl rfl (aI rfl (nq (sq (mI rfl (L_lss rfl rfl rfl (nn (W_cond (b:=decide ((i64 (left - (a.length : Int))) < 0)) rfl (fun hc1=>?_) (fun hc1=>?_)))))))))))))))
 have hF:=(ite_t hc1).symm.trans hF
 refine sq (aI rfl (nn (W_ret (retG1 (v1:=I (-1)) Tryd.results22 rfl ?_))))
 obtain rfl:=so hF
 exact ⟨rfl,Z⟩
 have hF:=(ite_f hc1).symm.trans hF
 refine W_skip (W_seq (sq (aI rfl (nn ?_))))
 have hlen4 : List.length a≤9223372036854775807:=len_le (slice_len h0)
 obtain ⟨j4,hL4,hF⟩:=bind_some hF
 obtain ⟨R4,hR4⟩:=exR fun f w_=>∃ left_3 : Int,j4 = .nx left_3∧f 1 = I left_3∧Star H w_ ([])
 refine W_join R4 ?_ ?_
 refine W_block ?_
 obtain ⟨I4,hI4⟩:=exI fun n f w_=>∃ i_2 : Nat,∃ suf4 : List Con,∃ left_3 : Int,n = suf4.length∧List.drop i_2 a = suf4∧i_2 + suf4.length = a.length∧rangeL l_szConstraintS_b1 suf4 i_2 left_3 = some j4∧f 0 = v0∧f 1 = I left_3∧f 5 = I i_2∧Star H w_ ([])
 refine W_loop I4 (n:=a.length) ?_ ?_
 exact ij hI4 ⟨0,a,i64 (left - (a.length : Int)),rfl,rfl,Nat.zero_add _,hL4,rfl,rfl,rfl,Z⟩
 intro n4 f w_ hI
 obtain ⟨i_2,suf4,left_3,rfl,hd4,hl4,hL4,sf0,sf1,sf5,Z⟩:=ik hI4 hI
 refine W_seq (sq (mF sf5 rfl (mF sf0 rfl (L_len rfl Tryd.underlying42 rfl (slice_len h0) (L_lss rfl rfl rfl (nn (W_cond (b:=decide ((i_2 : Int) < (a.length : Int))) rfl (fun hc5=>?_) (fun hc5=>?_))))))))
 have hlt4:=of_decide_eq_true hc5
 rcases suf4 with _ | ⟨x_4,rest4⟩
 exact absurd hlt4 (by simp at hl4; omega)
 obtain ⟨o4,hB4,hL4⟩:=range_cons hL4
 rw [l_szConstraintS_b1] at hB4
 have hix4:=drop_idx hd4
 refine W_skip (W_seq (W_block (W_seq ?_)))
 obtain ⟨x15,hx15,hB4⟩:=bind_some hB4
 refine W_region (mF sf0 rfl (mF sf5 rfl (L_ix (r:=(rCon 84)) rfl Tryd.underlying42 Tryd.sizeOf24 rfl h0 rfl hix4 (fun g17 o18 cs_g17 hrk_hat19 hat19=>?_))))
 obtain ⟨u20_0,rfl,hu20_0⟩:=rCon_iff.1 hrk_hat19
 refine L_lda (cs:=[u20_0,I x_4.bound]) rfl Tryd.isAgg24 Tryd.sizeOf24 rfl (At.sub (AtH.at hat19 Z.sub) 0 2) rfl (mF sf1 rfl ?_)
 obtain ⟨H21b,l22,s23,z24,k25⟩:=Z.borrow
 refine L_call rfl Tryd.call8 (ops2 rfl rfl) (l_szConstraint_c (a:=x_4) (left:=left_3) s23 (RP.mono _ hu20_0 l22) hx15) ?_
 rintro _ w26 ⟨rfl,Z⟩
 have Z:=k25 Z c0
 refine aI rfl (ns (mI rfl (L_lss rfl rfl rfl (nn (W_cond (b:=decide (x15 < 0)) rfl (fun hc27=>?_) (fun hc27=>?_))))))
 have hB4:=(ite_t hc27).symm.trans hB4
 refine sq (aI rfl (nn (W_ret (retG1 (v1:=I (-1)) Tryd.results22 rfl ?_))))
 obtain rfl:=so hB4
 obtain rfl:=so hL4
 obtain rfl:=so hF
 exact ⟨rfl,Z⟩
 have hB4:=(ite_f hc27).symm.trans hB4
 refine W_skip (W_region (mF sf5 rfl (L_add rfl rfl rfl (aI rfl (nn ?_)))))
 obtain rfl:=so hB4
 show ∃ m,m < _∧I4 m _ _
 refine ⟨rest4.length,by simp,?_⟩
 exact ij hI4 ⟨i_2 + 1,rest4,x15,rfl,drop_next hd4,by simp at hl4; omega,hL4,sf0,rfl,(Eq.trans rfl (congrArg (Value.int .i64) (i64_succ (n:=a.length) (by simp at hl4; omega) hlen4))),Z⟩
 rcases suf4 with _ | ⟨_,_⟩
 obtain rfl:=range_nil hL4
 refine W_exit (rj hR4 ⟨left_3,rfl,sf1,Z⟩)
 exact absurd (of_decide_eq_false hc5) (by simp at hl4; omega)
 intro f w_ hR
 obtain ⟨left_3,rfl,sf1,Z⟩:=rk hR4 hR
 refine sq (mF sf1 rfl (aI rfl (nn (W_ret (retG1 (v1:=I left_3) Tryd.results22 rfl ?_)))))
 obtain rfl:=so hF
 exact ⟨rfl,Z⟩
theorem s_ProblemValid_c {list : List Con} {v0 : Value} {H : FH} {w : World} (Z : Star H w []) (h0 : (rS 29 (rCon 62)).rel H [v0] list) {r : Bool} (hF : s_ProblemValid list = some r) :
 C Tryd.prog 54 #[v0] w fun v w'=>v = Bo r∧Star H w' []:=by
 unfold s_ProblemValid at hF
 refine C_enter Tryd.func54 rfl Tryd.ntmps54 rfl (sq (aB rfl (nq (sq (aI rfl (nn ?_))))))
 have hlen2 : List.length list≤9223372036854775807:=len_le (slice_len h0)
 obtain ⟨j2,hL2,hF⟩:=bind_some hF
 obtain ⟨R2,hR2⟩:=exR fun f w_=>j2 = .nx ()∧f 0 = v0∧Star H w_ ([])
 refine W_join R2 ?_ ?_
 refine W_block ?_
 obtain ⟨I2,hI2⟩:=exI fun n f w_=>∃ i_1 : Nat,∃ suf2 : List Con,n = suf2.length∧List.drop i_1 list = suf2∧i_1 + suf2.length = list.length∧rangeL s_ProblemValid_b1 suf2 i_1 () = some j2∧f 0 = v0∧f 3 = I i_1∧Star H w_ ([])
 refine W_loop I2 (n:=list.length) ?_ ?_
 exact ij hI2 ⟨0,list,rfl,rfl,Nat.zero_add _,hL2,rfl,rfl,Z⟩
 intro n2 f w_ hI
 obtain ⟨i_1,suf2,rfl,hd2,hl2,hL2,sf0,sf3,Z⟩:=ik hI2 hI
 refine W_seq (sq (mF sf3 rfl (mF sf0 rfl (L_len rfl Tryd.underlying45 rfl (slice_len h0) (L_lss rfl rfl rfl (nn (W_cond (b:=decide ((i_1 : Int) < (list.length : Int))) rfl (fun hc3=>?_) (fun hc3=>?_))))))))
 have hlt2:=of_decide_eq_true hc3
 rcases suf2 with _ | ⟨x_2,rest2⟩
 exact absurd hlt2 (by simp at hl2; omega)
 obtain ⟨o2,hB2,hL2⟩:=range_cons hL2
 rw [s_ProblemValid_b1] at hB2
 have hix2:=drop_idx hd2
 refine W_skip (W_seq (W_block (W_seq ?_)))
 obtain ⟨x13,hx13,hB2⟩:=bind_some hB2
 refine W_region (mF sf0 rfl (mF sf3 rfl (L_ix (r:=(rCon 62)) rfl Tryd.underlying45 Tryd.sizeOf29 rfl h0 rfl hix2 (fun g15 o16 cs_g15 hrk_hat17 hat17=>?_))))
 obtain ⟨u18_0,rfl,hu18_0⟩:=rCon_iff.1 hrk_hat17
 refine L_lda (cs:=[u18_0,I x_2.bound]) rfl Tryd.isAgg29 Tryd.sizeOf29 rfl (At.sub (AtH.at hat17 Z.sub) 0 2) rfl ?_
 obtain ⟨H19b,l20,s21,z22,k23⟩:=Z.borrow
 refine L_call rfl Tryd.call19 (ops1 rfl) (s_ConstraintValid_c (c:=x_2) s21 (RP.mono _ hu18_0 l20) hx13) ?_
 rintro _ w24 ⟨rfl,Z⟩
 have Z:=k23 Z c0
 refine L_not_ rfl rfl (nn (W_cond (b:=(!x13)) rfl (fun hc25=>?_) (fun hc25=>?_)))
 have hB2:=(ite_t hc25).symm.trans hB2
 refine sq (aB rfl (nn (W_ret (retG1 (v1:=Bo false) Tryd.results54 rfl ?_))))
 obtain rfl:=so hB2
 obtain rfl:=so hL2
 obtain rfl:=so hF
 exact ⟨rfl,Z⟩
 have hB2:=(ite_f hc25).symm.trans hB2
 refine W_skip (W_region (mF sf3 rfl (L_add rfl rfl rfl (aI rfl (nn ?_)))))
 obtain rfl:=so hB2
 show ∃ m,m < _∧I2 m _ _
 refine ⟨rest2.length,by simp,?_⟩
 exact ij hI2 ⟨i_1 + 1,rest2,rfl,drop_next hd2,by simp at hl2; omega,hL2,sf0,(Eq.trans rfl (congrArg (Value.int .i64) (i64_succ (n:=list.length) (by simp at hl2; omega) hlen2))),Z⟩
 rcases suf2 with _ | ⟨_,_⟩
 obtain rfl:=range_nil hL2
 refine W_exit (rj hR2 ⟨rfl,sf0,Z⟩)
 exact absurd (of_decide_eq_false hc3) (by simp at hl2; omega)
 intro f w_ hR
 obtain ⟨rfl,sf0,Z⟩:=rk hR2 hR
 refine sq (mF sf0 rfl (L_len rfl Tryd.underlying45 rfl (slice_len h0) (L_leq rfl rfl rfl (aB rfl (nn (W_ret (retG1 (v1:=Bo (decide ((list.length : Int)≤400))) Tryd.results54 rfl ?_)))))))
 obtain rfl:=so hF
 exact ⟨rfl,Z⟩
theorem s_FormatProblem_c {fu : Nat} {list : List Con} {v0 : Value} {H : FH} {w : World} (Z : Star H w []) (h0 : (rS 29 (rCon 62)).rel H [v0] list) {r : ByteArray} (hF : s_FormatProblem fu list = some r) :
 C Tryd.prog 23 #[v0] w fun v w'=>v = .string r∧Star H w' []:=by
 unfold s_FormatProblem at hF
 refine C_enter Tryd.func23 rfl Tryd.ntmps23 rfl (sq (aV (.string (⟨#[]⟩ : ByteArray)) rfl (nq (W_seq ?_))))
 obtain ⟨x6,hx6,hF⟩:=bind_some hF
 refine W_region (mV v0 rfl ?_)
 obtain ⟨H8b,l9,s10,z11,k12⟩:=Z.borrow
 refine L_call rfl Tryd.call54 (ops1 rfl) (s_ProblemValid_c (list:=list) s10 (RP.mono _ h0 l9) hx6) ?_
 rintro _ w13 ⟨rfl,Z⟩
 have Z:=k12 Z c0
 refine L_not_ rfl rfl (nn (W_cond (b:=(!x6)) rfl (fun hc14=>?_) (fun hc14=>?_)))
 have hF:=(ite_t hc14).symm.trans hF
 refine sq (aV (.string (⟨#[]⟩ : ByteArray)) rfl (nn (W_ret (retG1 (v1:=.string (⟨#[]⟩ : ByteArray)) Tryd.results23 rfl ?_))))
 obtain rfl:=so hF
 exact ⟨rfl,Z⟩
 have hF:=(ite_f hc14).symm.trans hF
 refine W_skip (sq (aV (.string (⟨#[]⟩ : ByteArray)) rfl (nq (sq (aI rfl (nn ?_))))))
 have hlen17 : List.length list≤9223372036854775807:=len_le (slice_len h0)
 obtain ⟨j17,hL17,hF⟩:=bind_some hF
 obtain ⟨R17,hR17⟩:=exR fun f w_=>∃ out_16 : ByteArray,j17 = .nx out_16∧f 3 = .string out_16∧Star H w_ ([])
 refine W_join R17 ?_ ?_
 refine W_block ?_
 obtain ⟨I17,hI17⟩:=exI fun n f w_=>∃ i_15 : Nat,∃ suf17 : List Con,∃ out_16 : ByteArray,n = suf17.length∧List.drop i_15 list = suf17∧i_15 + suf17.length = list.length∧rangeL (s_FormatProblem_b1 fu) suf17 i_15 out_16 = some j17∧f 0 = v0∧f 3 = .string out_16∧f 4 = I i_15∧Star H w_ ([])
 refine W_loop I17 (n:=list.length) ?_ ?_
 exact ij hI17 ⟨0,list,(⟨#[]⟩ : ByteArray),rfl,rfl,Nat.zero_add _,hL17,rfl,rfl,rfl,Z⟩
 intro n17 f w_ hI
 obtain ⟨i_15,suf17,out_16,rfl,hd17,hl17,hL17,sf0,sf3,sf4,Z⟩:=ik hI17 hI
 refine W_seq (sq (mF sf4 rfl (mF sf0 rfl (L_len rfl Tryd.underlying45 rfl (slice_len h0) (L_lss rfl rfl rfl (nn (W_cond (b:=decide ((i_15 : Int) < (list.length : Int))) rfl (fun hc18=>?_) (fun hc18=>?_))))))))
 have hlt17:=of_decide_eq_true hc18
 rcases suf17 with _ | ⟨x_17,rest17⟩
 exact absurd hlt17 (by simp at hl17; omega)
 obtain ⟨o17,hB17,hL17⟩:=range_cons hL17
 rw [s_FormatProblem_b1] at hB17
 have hix17:=drop_idx hd17
 refine W_skip (W_seq (W_block ?_))
 obtain ⟨x28,hx28,hB17⟩:=bind_some hB17
 obtain ⟨x30,hx30,hB17⟩:=bind_some hB17
 obtain ⟨x31,hx31,hB17⟩:=bind_some hB17
 refine W_region (mF sf3 rfl (mF sf0 rfl (mF sf4 rfl (L_ix (r:=(rCon 62)) rfl Tryd.underlying45 Tryd.sizeOf29 rfl h0 rfl hix17 (fun g32 o33 cs_g32 hrk_hat34 hat34=>?_)))))
 obtain ⟨u35_0,rfl,hu35_0⟩:=rCon_iff.1 hrk_hat34
 refine L_lda (cs:=[u35_0,I x_17.bound]) rfl Tryd.isAgg29 Tryd.sizeOf29 rfl (At.sub (AtH.at hat34 Z.sub) 0 2) rfl ?_
 obtain ⟨H36b,l37,s38,z39,k40⟩:=Z.borrow
 refine L_call rfl Tryd.call32 (ops1 rfl) (s_l1Text_c (c:=x_17) s38 (RP.mono _ hu35_0 l37) hx28) ?_
 rintro _ w41 ⟨rfl,Z⟩
 have Z:=k40 Z c0
 obtain ⟨hx30_l,hx30_e⟩:=cat_some hx30
 refine L_sadd (s:=out_16) (s':=x28) rfl rfl rfl hx30_l ?_
 rw [← hx30_e]
 obtain ⟨hx31_l,hx31_e⟩:=cat_some hx31
 refine L_sadd (s:=x30) (s':=(⟨#[10]⟩ : ByteArray)) rfl rfl rfl hx31_l ?_
 rw [← hx31_e]
 refine aV (.string x31) rfl (nn (W_region (mF sf4 rfl (L_add rfl rfl rfl (aI rfl (nn ?_))))))
 obtain rfl:=so hB17
 show ∃ m,m < _∧I17 m _ _
 refine ⟨rest17.length,by simp,?_⟩
 exact ij hI17 ⟨i_15 + 1,rest17,x31,rfl,drop_next hd17,by simp at hl17; omega,hL17,sf0,rfl,(Eq.trans rfl (congrArg (Value.int .i64) (i64_succ (n:=list.length) (by simp at hl17; omega) hlen17))),Z⟩
 rcases suf17 with _ | ⟨_,_⟩
 obtain rfl:=range_nil hL17
 refine W_exit (rj hR17 ⟨out_16,rfl,sf3,Z⟩)
 exact absurd (of_decide_eq_false hc18) (by simp at hl17; omega)
 intro f w_ hR
 obtain ⟨out_16,rfl,sf3,Z⟩:=rk hR17 hR
 refine sq (mF sf3 rfl (aV (.string out_16) rfl (nn (W_ret (retG1 (v1:=.string out_16) Tryd.results23 rfl ?_)))))
 obtain rfl:=so hF
 exact ⟨rfl,Z⟩
theorem l_toConstraintS_c {a : List Con} {v0 : Value} {H : FH} {w : World} (Z : Star H w []) (h0 : (rS 24 (rCon 84)).rel H [v0] a) {r : List Con} (hF : l_toConstraintS a = some r) :
 C Tryd.prog 24 #[v0] w fun v w'=>∃ (u1 : Value),v = u1∧Star H w' [oS 29 (oCon 62) u1 r]:=by
 unfold l_toConstraintS at hF
 refine C_enter Tryd.func24 rfl Tryd.ntmps24 rfl (sq (aV S0 rfl (nq ?_)))
 obtain ⟨x1,hx1,hF⟩:=bind_some hF
 refine W_region (mV v0 rfl (L_len rfl Tryd.underlying42 rfl (slice_len h0) (L_mk (R:=(oCon 62)) (z0:=({ terms:=[],bound:=0 } : Con)) (zc:=[S0,I 0]) rfl et_45 (by kernel_rfl) (fun _ _=>oCon_zero) rfl rfl hx1 Z (fun v5 w6 Z=>aV v5 rfl (nq (sq (aI rfl (nn ?_))))))))
 have hlen10 : List.length a≤9223372036854775807:=len_le (slice_len h0)
 obtain ⟨j10,hL10,hF⟩:=bind_some hF
 obtain ⟨R10,hR10⟩:=exR fun f w_=>∃ out_9 : List Con,j10 = .nx out_9∧f 3 = v5∧Star H w_ ([oS 29 (oCon 62) v5 out_9])
 refine W_join R10 ?_ ?_
 refine W_block ?_
 obtain ⟨I10,hI10⟩:=exI fun n f w_=>∃ i_8 : Nat,∃ suf10 : List Con,∃ out_9 : List Con,n = suf10.length∧List.drop i_8 a = suf10∧i_8 + suf10.length = a.length∧rangeL l_toConstraintS_b1 suf10 i_8 out_9 = some j10∧f 0 = v0∧f 3 = v5∧f 4 = I i_8∧Star H w_ ([oS 29 (oCon 62) v5 out_9])
 refine W_loop I10 (n:=a.length) ?_ ?_
 exact ij hI10 ⟨0,a,x1,rfl,rfl,Nat.zero_add _,hL10,rfl,rfl,rfl,Z⟩
 intro n10 f w_ hI
 obtain ⟨i_8,suf10,out_9,rfl,hd10,hl10,hL10,sf0,sf3,sf4,Z⟩:=ik hI10 hI
 refine W_seq (sq (mF sf4 rfl (mF sf0 rfl (L_len rfl Tryd.underlying42 rfl (slice_len h0) (L_lss rfl rfl rfl (nn (W_cond (b:=decide ((i_8 : Int) < (a.length : Int))) rfl (fun hc11=>?_) (fun hc11=>?_))))))))
 have hlt10:=of_decide_eq_true hc11
 rcases suf10 with _ | ⟨x_10,rest10⟩
 exact absurd hlt10 (by simp at hl10; omega)
 obtain ⟨o10,hB10,hL10⟩:=range_cons hL10
 rw [l_toConstraintS_b1] at hB10
 have hix10:=drop_idx hd10
 refine W_skip (W_seq (W_block ?_))
 obtain ⟨x21,hx21,hB10⟩:=bind_some hB10
 obtain ⟨x24,hx24,hB10⟩:=bind_some hB10
 refine W_region (mF sf3 rfl (mF sf4 rfl (mF sf0 rfl (mF sf4 rfl (L_ix (r:=(rCon 84)) rfl Tryd.underlying42 Tryd.sizeOf24 rfl h0 rfl hix10 (fun g28 o29 cs_g28 hrk_hat30 hat30=>?_))))))
 obtain ⟨u31_0,rfl,hu31_0⟩:=rCon_iff.1 hrk_hat30
 refine L_lda (cs:=[u31_0,I x_10.bound]) rfl Tryd.isAgg24 Tryd.sizeOf24 rfl (At.sub (AtH.at hat30 Z.sub) 0 2) rfl ?_
 obtain ⟨H32b,l33,s34,z35,k36⟩:=Z.borrow
 refine L_call rfl Tryd.call10 (ops1 rfl) (l_toConstraint_c (a:=x_10) s34 (RP.mono _ hu31_0 l33) hx21) ?_
 rintro _ w37 ⟨r37_0,rfl,Z⟩
 have Z:=k36 Z (co closed_term c0)
 obtain ⟨g39,cap_g39,hv40,_,_⟩:=Star.row 1 Z rfl hx24
 refine L_ixO (R:=(oCon 62)) (tb:=0) 0 rfl Tryd.underlying45 Tryd.sizeOf29 rfl hv40 (by first | rfl | simp) rfl hx24 ?_
 have Z:=oCon_close (c:=x21) Z
 refine L_stE (vs:=#[r37_0,I x21.bound]) rfl Tryd.sizeOf29 rfl rfl rfl hv40 Z hx24 (fun w41 Z=>nn (W_region (mF sf4 rfl (L_add rfl rfl rfl (aI rfl (nn ?_))))))
 obtain rfl:=so hB10
 show ∃ m,m < _∧I10 m _ _
 refine ⟨rest10.length,by simp,?_⟩
 exact ij hI10 ⟨i_8 + 1,rest10,(out_9.set (Int.toNat (i_8 : Int)) x21),rfl,drop_next hd10,by simp at hl10; omega,hL10,sf0,sf3,(Eq.trans rfl (congrArg (Value.int .i64) (i64_succ (n:=a.length) (by simp at hl10; omega) hlen10))),Z⟩
 rcases suf10 with _ | ⟨_,_⟩
 obtain rfl:=range_nil hL10
 refine W_exit (rj hR10 ⟨out_9,rfl,sf3,Z⟩)
 exact absurd (of_decide_eq_false hc11) (by simp at hl10; omega)
 intro f w_ hR
 obtain ⟨out_9,rfl,sf3,Z⟩:=rk hR10 hR
 refine sq (mF sf3 rfl (aV v5 rfl (nn (W_ret (retG1 (v1:=v5) Tryd.results24 rfl ?_)))))
 obtain rfl:=so hF
 exact ⟨v5,rfl,Z⟩
theorem slices_IndexFunc_implConstraint_c {s : List Con} {f_ : (Con→Option Bool)} {v0 : Value} {v1 : Value} {H : FH} {w : World} (Z : Star H w []) (h0 : (rS 29 (rCon 62)).rel H [v0] s) (h1 : Fun1 Tryd.prog (rCon 62) true Value.bool f_ v1 H) {r : Int} (hF : slices_IndexFunc_implConstraint s f_ = some r) :
 C Tryd.prog 100 #[v0,v1] w fun v w'=>v = I r∧Star H w' []:=by
 unfold slices_IndexFunc_implConstraint at hF
 obtain ⟨fid_1,caps_1,rfl,hcall_1,hc_1⟩:=h1
 refine C_enter Tryd.func100 rfl Tryd.ntmps100 rfl (sq (aI rfl (nq (sq (mV v0 rfl (L_len rfl Tryd.underlying45 rfl (slice_len h0) (mI rfl (nn ?_))))))))
 have hlen2 : List.length s≤9223372036854775807:=len_le (slice_len h0)
 obtain ⟨j2,hL2,hF⟩:=bind_some hF
 obtain ⟨R2,hR2⟩:=exR fun f w_=>j2 = .nx ()∧Star H w_ ([])
 refine W_join R2 ?_ ?_
 refine W_block ?_
 obtain ⟨I2,hI2⟩:=exI fun n f w_=>∃ i_1 : Nat,∃ suf2 : List Con,n = suf2.length∧List.drop i_1 s = suf2∧i_1 + suf2.length = s.length∧rangeL (slices_IndexFunc_implConstraint_b1 f_) suf2 i_1 () = some j2∧f 0 = v0∧f 1 = .func (.func fid_1) #[] caps_1∧f 7 = I (s.length : Int)∧f 8 = I i_1∧Star H w_ ([])
 refine W_loop I2 (n:=s.length) ?_ ?_
 exact ij hI2 ⟨0,s,rfl,rfl,Nat.zero_add _,hL2,rfl,rfl,rfl,rfl,Z⟩
 intro n2 f w_ hI
 obtain ⟨i_1,suf2,rfl,hd2,hl2,hL2,sf0,sf1,sf7,sf8,Z⟩:=ik hI2 hI
 refine sq (L_lss rfl sf8 sf7 (nq (W_cond (b:=decide ((i_1 : Int) < (s.length : Int))) rfl (fun hc3=>?_) (fun hc3=>?_))))
 have hlt2:=of_decide_eq_true hc3
 rcases suf2 with _ | ⟨x_2,rest2⟩
 exact absurd hlt2 (by simp at hl2; omega)
 obtain ⟨o2,hB2,hL2⟩:=range_cons hL2
 rw [slices_IndexFunc_implConstraint_b1] at hB2
 have hix2:=drop_idx hd2
 refine W_skip (W_seq (W_block (sq (mF sf8 rfl (aI rfl (nq ?_))))))
 obtain ⟨x8,hx8,hB2⟩:=bind_some hB2
 refine W_region (mF sf1 rfl (mF sf0 rfl (mI rfl (L_ix (r:=(rCon 62)) rfl Tryd.underlying45 Tryd.sizeOf29 rfl h0 rfl hix2 (fun g15 o16 cs_g15 hrk_hat17 hat17=>?_)))))
 obtain ⟨u18_0,rfl,hu18_0⟩:=rCon_iff.1 hrk_hat17
 refine L_lda (cs:=[u18_0,I x_2.bound]) rfl Tryd.isAgg29 Tryd.sizeOf29 rfl (At.sub (AtH.at hat17 Z.sub) 0 2) rfl ?_
 obtain ⟨H19b,l20,s21,z22,k23⟩:=Z.borrow
 refine L_callv (args:=#[.agg #[u18_0,I x_2.bound]]) rfl hcall_1 rfl (ops1 rfl) (hc_1 _ _ l20 s21 [u18_0,I x_2.bound] _ _ _ (rCon_iff.2 ⟨_,rfl,(RP.mono _ hu18_0 l20)⟩) hx8 (args_app rfl)) ?_
 rintro _ w24 ⟨rfl,Z⟩
 have Z:=k23 Z c0
 refine nn (W_cond (b:=x8) rfl (fun hc25=>?_) (fun hc25=>?_))
 have hB2:=(ite_t hc25).symm.trans hB2
 refine sq (mI rfl (aI rfl (nn (W_ret (retG1 (v1:=I i_1) Tryd.results100 rfl ?_)))))
 obtain rfl:=so hB2
 obtain rfl:=so hL2
 obtain rfl:=so hF
 exact ⟨rfl,Z⟩
 have hB2:=(ite_f hc25).symm.trans hB2
 refine W_skip (W_region (L_add rfl sf8 rfl (mI rfl (nn ?_))))
 obtain rfl:=so hB2
 show ∃ m,m < _∧I2 m _ _
 refine ⟨rest2.length,by simp,?_⟩
 exact ij hI2 ⟨i_1 + 1,rest2,rfl,drop_next hd2,by simp at hl2; omega,hL2,sf0,sf1,sf7,(Eq.trans rfl (congrArg (Value.int .i64) (i64_succ (n:=s.length) (by simp at hl2; omega) hlen2))),Z⟩
 rcases suf2 with _ | ⟨_,_⟩
 obtain rfl:=range_nil hL2
 refine W_exit (rj hR2 ⟨rfl,Z⟩)
 exact absurd (of_decide_eq_false hc3) (by simp at hl2; omega)
 intro f w_ hR
 obtain ⟨rfl,Z⟩:=rk hR2 hR
 refine sq (aI rfl (nn (W_ret (retG1 (v1:=I (-1)) Tryd.results100 rfl ?_))))
 obtain rfl:=so hF
 exact ⟨rfl,Z⟩
theorem slices_ContainsFunc_implConstraint_c {s : List Con} {f_ : (Con→Option Bool)} {v0 : Value} {v1 : Value} {H : FH} {w : World} (Z : Star H w []) (h0 : (rS 29 (rCon 62)).rel H [v0] s) (h1 : Fun1 Tryd.prog (rCon 62) true Value.bool f_ v1 H) {r : Bool} (hF : slices_ContainsFunc_implConstraint s f_ = some r) :
 C Tryd.prog 86 #[v0,v1] w fun v w'=>v = Bo r∧Star H w' []:=by
 unfold slices_ContainsFunc_implConstraint at hF
 obtain ⟨fid_1,caps_1,rfl,hcall_1,hc_1⟩:=h1
 refine C_enter Tryd.func86 rfl Tryd.ntmps86 rfl (sq (aB rfl (nq ?_)))
 obtain ⟨x6,hx6,hF⟩:=bind_some hF
 refine W_region (mV v0 rfl (mV (.func (.func fid_1) #[] caps_1) rfl ?_))
 obtain ⟨H8b,l9,s10,z11,k12⟩:=Z.borrow
 refine L_call rfl Tryd.call100 (ops2 rfl rfl) (slices_IndexFunc_implConstraint_c (s:=s) (f_:=f_) s10 (RP.mono _ h0 l9) (Fun1.le ⟨_,_,rfl,hcall_1,hc_1⟩ l9) hx6) ?_
 rintro _ w13 ⟨rfl,Z⟩
 have Z:=k12 Z c0
 refine L_geq rfl rfl rfl (aB rfl (nn (W_ret (retG1 (v1:=Bo (decide (x6 ≥ 0))) Tryd.results86 rfl ?_))))
 obtain rfl:=so hF
 exact ⟨rfl,Z⟩
theorem i_allValid_1_c {c : Con} {v0_0 : Value} {H : FH} {w : World} (Z : Star H w []) (h0_0 : (rS 62 rTerm).rel H [v0_0] c.terms) {r : Bool} (hF : i_allValid_1 c = some r) :
 C Tryd.prog 87 #[.agg #[v0_0,I c.bound]] w fun v w'=>v = Bo r∧Star H w' []:=by
 unfold i_allValid_1 at hF
 refine C_enter Tryd.func87 rfl Tryd.ntmps87 rfl (sq (L_box (v:=.agg #[v0_0,I c.bound]) (cs:=#[v0_0,I c.bound]) rfl rfl rfl Z (fun g3 w4 Z=>aB rfl (nq ?_))))
 obtain ⟨x10,hx10,hF⟩:=bind_some hF
 refine W_region (L_lda (cs:=[v0_0,I c.bound]) rfl Tryd.isAgg29 Tryd.sizeOf29 rfl (At.sub0 (Blk.at (Star.blkAt 0 Z rfl)) 0 2) rfl ?_)
 obtain ⟨H12b,l13,s14,z15,k16⟩:=Z.borrow
 refine L_call rfl Tryd.call18 (ops1 rfl) (i_ConstraintValid_c (c:=c) s14 (RP.mono _ h0_0 l13) hx10) ?_
 rintro _ w17 ⟨rfl,Z⟩
 have Z:=k16 Z c0
 refine L_not_ rfl rfl (aB rfl (nn (W_ret (retG1 (v1:=Bo (!x10)) Tryd.results87 rfl ?_))))
 obtain rfl:=so hF
 exact ⟨rfl,(Star.keepN 0 Z)⟩
theorem i_allValid_c {list : List Con} {v0 : Value} {H : FH} {w : World} (Z : Star H w []) (h0 : (rS 29 (rCon 62)).rel H [v0] list) {r : Bool} (hF : i_allValid list = some r) :
 C Tryd.prog 74 #[v0] w fun v w'=>v = Bo r∧Star H w' []:=by
 unfold i_allValid at hF
 refine C_enter Tryd.func74 rfl Tryd.ntmps74 rfl (sq (aB rfl (nq ?_)))
 obtain ⟨x6,hx6,hF⟩:=bind_some hF
 refine W_region (mV v0 rfl ?_)
 obtain ⟨H8b,l9,s10,z11,k12⟩:=Z.borrow
 have hf13 : Fun1 Tryd.prog (rCon 62) true Value.bool i_allValid_1 (.func (.func 87) #[] #[]) H8b:=by
   refine ⟨_,_,rfl,Tryd.call87,fun H_ w_ hE_ hs_ cs_ x_ y_ args_ hr_ hy_ ha_=>?_⟩
   obtain ⟨p_0,rfl,hp_0⟩:=rCon_iff.1 hr_
   obtain rfl:=args_of (b:=#[.agg #[p_0,I x_.bound]]) ha_
   exact i_allValid_1_c (c:=x_) hs_ hp_0 hy_
 refine L_call rfl Tryd.call86 (ops2 rfl rfl) (slices_ContainsFunc_implConstraint_c (s:=list) (f_:=i_allValid_1) s10 (RP.mono _ h0 l9) hf13 hx6) ?_
 rintro _ w14 ⟨rfl,Z⟩
 have Z:=k12 Z c0
 refine L_not_ rfl rfl (aB rfl (nn (W_ret (retG1 (v1:=Bo (!x6)) Tryd.results74 rfl ?_))))
 obtain rfl:=so hF
 exact ⟨rfl,Z⟩
theorem i_ProblemValid_c {list : List Con} {v0 : Value} {H : FH} {w : World} (Z : Star H w []) (h0 : (rS 29 (rCon 62)).rel H [v0] list) {r : Bool} (hF : i_ProblemValid list = some r) :
 C Tryd.prog 55 #[v0] w fun v w'=>v = Bo r∧Star H w' []:=by
 unfold i_ProblemValid at hF
 refine C_enter Tryd.func55 rfl Tryd.ntmps55 rfl (sq (aB rfl (nq ?_)))
 obtain ⟨b8,hb8,hF⟩:=bind_some hF
 obtain ⟨R9,hR9⟩:=exR fun f w_=>f 2 = Bo b8∧Star H w_ ([])
 refine W_join R9 ?_ ?_
 refine W_region (mV v0 rfl (L_len rfl Tryd.underlying45 rfl (slice_len h0) (L_leq rfl rfl rfl (mB rfl (L_split (d:=6) (b:=decide ((list.length : Int)≤400)) rfl (fun hc10=>?_) (fun hc10=>?_))))))
 rw [ite_t hc10] at hb8
 obtain ⟨x6,hx6,hb8⟩:=bind_some hb8
 refine mV v0 rfl ?_
 obtain ⟨H11b,l12,s13,z14,k15⟩:=Z.borrow
 refine L_call rfl Tryd.call74 (ops1 rfl) (i_allValid_c (list:=list) s13 (RP.mono _ h0 l12) hx6) ?_
 rintro _ w16 ⟨rfl,Z⟩
 have Z:=k15 Z c0
 refine L_pick (v:=Bo b8) rfl rfl (congrArg Value.bool (so hb8)) (aB rfl (nn (rj hR9 ⟨rfl,Z⟩)))
 rw [ite_f hc10] at hb8
 refine ps rfl (ps rfl (L_pick (v:=Bo b8) rfl rfl (congrArg Value.bool (so hb8)) (aB rfl (nn (rj hR9 ⟨rfl,Z⟩)))))
 intro f w_ hR
 obtain ⟨sf2,Z⟩:=rk hR9 hR
 refine W_ret (retG1 (v1:=Bo b8) Tryd.results55 sf2 ?_)
 obtain rfl:=so hF
 exact ⟨rfl,Z⟩
set_option maxRecDepth 100000 in
/-- a builder that has been written: its copy check turns nothing -/
theorem check_used (b : Nat) (w : World) (h0 : w.cell? ⟨b, 0, none⟩ = some (.pointer (some ⟨b, 0, none⟩))) :
    Calls Tryd.prog 75 #[.pointer (some ⟨b, 0, none⟩)] w fun e w' => e = .returned (.tuple #[]) ∧ w' = w := by
  obtain ⟨j, hj, _⟩ := Option.map_eq_some_iff.1 (show (Tryd.prog.info? 75).map (·.size) = some 2 by kernel_rfl)
  go_enter Tryd.func75, Tryd.ntmps75
  go_wp2
  rw [Lib.run_neq_ptr_same w _ Tryd.underlying73 hj]
  go_wp2
  go_end0
  exact ⟨rfl, rfl⟩
set_option maxHeartbeats 1000000 in
set_option maxRecDepth 100000 in
/-- a new builder: its copy check stores its own address -/
theorem check_new (b : Nat) (w : World) (h0 : w.cell? ⟨b, 0, none⟩ = some (.pointer none)) (hsh : w.shape? b = some (75, 2)) (hfz : w.frozen? ⟨b, 0, none⟩ = false) :
    Calls Tryd.prog 75 #[.pointer (some ⟨b, 0, none⟩)] w fun e w' => e = .returned (.tuple #[]) ∧ w' = w.setCell ⟨b, 0, none⟩ (.pointer (some ⟨b, 0, none⟩)) := by
  obtain ⟨j, hj, hjs⟩ := Option.map_eq_some_iff.1 (show (Tryd.prog.info? 75).map (·.size) = some 2 by kernel_rfl)
  have lies : liesAt Tryd.prog Tryd.prog.depth 75 (2 / Tryd.prog.cellsOf 75) 0 75 1 = true := by kernel_rfl
  go_enter Tryd.func75, Tryd.ntmps75
  go_wp2
  rw [Lib.run_to_unsafe w ⟨b, 0, none⟩ Tryd.underlying73 Tryd.underlying104 hj (by rw [hjs]; decide) hsh (Nat.zero_lt_succ 1)]
  simp only [Result.andThen]
  rw [Oper.upon_value]
  go_wp2
  rw [run_callFunc_extern Tryd.func88 (by kernel_rfl) (by kernel_rfl) (by kernel_rfl) (e := Extern.AbiNoEscape.same) (by kernel_rfl)]
  rw [Lib.run_noEscape]
  simp only [Result.andThen]
  rw [Oper.upon_value]
  go_wp2
  rw [Lib.run_from_unsafe w ⟨b, 0, none⟩ Tryd.underlying104 Tryd.underlying73 hj hsh lies]
  simp only [Result.andThen]
  rw [Oper.upon_value]
  go_wp2
  go_end0
  exact ⟨rfl, rfl⟩
theorem check_any (B b : Nat) (l : List Value) (w : World) (h : Lib.IsBuilderF 75 5 B b l w) :
    Calls Tryd.prog 75 #[.pointer (some ⟨b, 0, none⟩)] w fun e w' => e = .returned (.tuple #[]) ∧ (Lib.BuilderAtF 75 5 B b (.pointer (some ⟨b, 0, none⟩)) l w' ∧ Below B w w') := by
  rcases h with h | h
  · refine (check_new b w h.cell0 h.shape h.frozen0).mono ?_
    rintro e w' ⟨rfl, rfl⟩
    exact ⟨rfl, h.used _, (Below.refl B w).setCell (p := ⟨b, 0, none⟩) h.1 _⟩
  · refine (check_used b w h.cell0).mono ?_
    rintro e w' ⟨rfl, rfl⟩
    exact ⟨rfl, h, Below.refl B _⟩
set_option maxHeartbeats 2000000 in
set_option maxRecDepth 100000 in
/-- a text is put behind what a builder holds -/
theorem write_any (B b : Nat) (l : List Value) (s : ByteArray) (w : World) (h : Lib.IsBuilderF 75 5 B b l w) (hlen : l.length + s.size ≤ 140737488355328) (hBw : B ≤ w.heap.size) :
    Calls Tryd.prog 56 #[.pointer (some ⟨b, 0, none⟩), .string s] w fun e w' => e = .returned (.tuple #[.int .i64 s.size, .nilIface]) ∧ (Lib.BuilderAtF 75 5 B b (.pointer (some ⟨b, 0, none⟩)) (l ++ Lib.strCells s) w' ∧ Below B w w') := by
  obtain ⟨i0, hi, hz0, hz1, hz2⟩ := info_parts (show (Tryd.prog.info? 5).map (fun i => (i.zero, i.size, i.bytes)) = some (some (.int .u8 0), 1, 1) by kernel_rfl)
  go_enter Tryd.func56, Tryd.ntmps56
  go_wp2_with (go_at_call 75; refine (check_any B b l _ h).mono ?_)
  rintro e w1 ⟨rfl, ⟨hB, v, hbk, hown, hne⟩, hb1⟩
  have c0 : w1.cell? ⟨b, 0, none⟩ = some (.pointer (some ⟨b, 0, none⟩)) := by rw [Lib.cell_of_heap hbk]; rfl
  have c1 : w1.cell? ⟨b, 1, none⟩ = some v := by rw [Lib.cell_of_heap hbk]; rfl
  go_wp2_with (at_builtin; refine Lib.wpList_append_own_stringF _ rfl _ _ 37 9 rfl B 5 i0 Tryd.underlying37 Tryd.underlying9 hi hz0 hz1 hz2 _ _ _ rfl hown s rfl ?c3 ?c4 ?c5 ?_)
  case c3 => unfold maxLen; omega
  case c4 => omega
  case c5 => have := hb1.size; omega
  intro v' w2 hown' hgrow _
  have hlt : b < w1.heap.size := (Array.getElem?_eq_some_iff.1 hbk).1
  have hb2 : w2.heap[b]? = some (.cells #[.pointer (some ⟨b, 0, none⟩), v] 75 (0, 0)) := by
    rw [hgrow.block b hlt (fun e => hne e.symm)]
    exact hbk
  have d0 : w2.cell? ⟨b, 0, none⟩ = some (.pointer (some ⟨b, 0, none⟩)) := by rw [Lib.cell_of_heap hb2]; rfl
  have d1 : w2.cell? ⟨b, 1, none⟩ = some v := by rw [Lib.cell_of_heap hb2]; rfl
  have f1 : w2.frozen? ⟨b, 1, none⟩ = false := Lib.frozen_of_heap hb2 1
  obtain ⟨ao, n', cap, rfl⟩ : ∃ ao n' cap, v' = .slice ao n' cap := by
    rcases hown'.2 with ⟨hv, _⟩ | ⟨g, cap, cur, fz, hv, _⟩
    · exact ⟨_, _, _, hv⟩
    · exact ⟨_, _, _, hv⟩
  go_wp2
  go_ret2
  refine ⟨rfl, ?_, ?_⟩
  · exact Lib.BuilderAtF.put (T := 75) (e := 5) hB hb2 (bs' := l ++ Lib.strCells s) (by simpa [Lib.strCells_length] using hown') (by decide)
  · exact (hb1.grown hgrow (by have := hb1.size; omega) (fun k hk => (hown.lt k hk).1)).setCell (p := ⟨b, 1, none⟩) hB _
theorem strings_Builder_WriteString_c {B g : Nat} {e s : ByteArray} {H : FH} {w : World} (hB : ∀ k,B≤k→H.m k = none) (Z : Star H w [bld 75 5 B g e]) {r : ByteArray} (hF : catB e s = some r) :
 C Tryd.prog 56 #[Pt g,.string s] w fun v w'=>v = .tuple #[I (s.size : Int),.nilIface]∧Star H w' [bld 75 5 B g r]:=by
 obtain ⟨hl,rfl⟩:=bld_cat hF
 obtain ⟨hb,hB2⟩:=bld_is Z
 refine Calls.mono (write_any B g _ s w hb (by rw [Go.Lib.byteCells_length,Array.length_toList]; exact hl) hB2) ?_
 rintro e w' ⟨rfl,h1,h2⟩
 exact ⟨_,rfl,rfl,bld_star hB Z h2 (.inr (bld_app h1))⟩
theorem strings_Builder_String_c {B g : Nat} {e : ByteArray} {H : FH} {w : World} (hB : ∀ k,B≤k→H.m k = none) (Z : Star H w [bld 75 5 B g e]) :
 C Tryd.prog 57 #[Pt g] w fun v w'=>v = .string e∧Star H w' [bld 75 5 B g e]:=by
 obtain ⟨hb,hB2⟩:=bld_is Z
 refine Calls.mono (Tryd.Builder_String_any_f B g _ w hb hB2) ?_
 rintro e w' ⟨rfl,h1,h2⟩
 exact ⟨_,rfl,rfl,bld_star hB Z h2 h1⟩
theorem i_FormatProblem_c {list : List Con} {v0 : Value} {H : FH} {w : World} (Z : Star H w []) (h0 : (rS 29 (rCon 62)).rel H [v0] list) {r : ByteArray} (hF : i_FormatProblem list = some r) :
 C Tryd.prog 25 #[v0] w fun v w'=>v = .string r∧Star H w' []:=by
 unfold i_FormatProblem at hF
 refine C_enter Tryd.func25 rfl Tryd.ntmps25 rfl (sq (aV (.string (⟨#[]⟩ : ByteArray)) rfl (nq (W_seq ?_))))
 obtain ⟨x6,hx6,hF⟩:=bind_some hF
 refine W_region (mV v0 rfl ?_)
 obtain ⟨H8b,l9,s10,z11,k12⟩:=Z.borrow
 refine L_call rfl Tryd.call55 (ops1 rfl) (i_ProblemValid_c (list:=list) s10 (RP.mono _ h0 l9) hx6) ?_
 rintro _ w13 ⟨rfl,Z⟩
 have Z:=k12 Z c0
 refine L_not_ rfl rfl (nn (W_cond (b:=(!x6)) rfl (fun hc14=>?_) (fun hc14=>?_)))
 have hF:=(ite_t hc14).symm.trans hF
 refine sq (aV (.string (⟨#[]⟩ : ByteArray)) rfl (nn (W_ret (retG1 (v1:=.string (⟨#[]⟩ : ByteArray)) Tryd.results25 rfl ?_))))
 obtain rfl:=so hF
 exact ⟨rfl,Z⟩
 have hF:=(ite_f hc14).symm.trans hF
 refine W_skip (sq (L_alB (eb:=5) rfl Tryd.zeroValue75 rfl Z (fun g19 B21 w20 hB22 Z=>nq (sq (mV v0 rfl (L_len rfl Tryd.underlying45 rfl (slice_len h0) (mI rfl (nn ?_))))))))
 have hlen25 : List.length list≤9223372036854775807:=len_le (slice_len h0)
 obtain ⟨j25,hL25,hF⟩:=bind_some hF
 obtain ⟨R25,hR25⟩:=exR fun f w_=>∃ ag19_24 : ByteArray,j25 = .nx ag19_24∧f 3 = Pt g19∧Star H w_ ([bld 75 5 B21 g19 ag19_24])
 refine W_join R25 ?_ ?_
 refine W_block ?_
 obtain ⟨I25,hI25⟩:=exI fun n f w_=>∃ i_23 : Nat,∃ suf25 : List Con,∃ ag19_24 : ByteArray,n = suf25.length∧List.drop i_23 list = suf25∧i_23 + suf25.length = list.length∧rangeL i_FormatProblem_b1 suf25 i_23 ag19_24 = some j25∧f 3 = Pt g19∧f 9 = v0∧f 10 = I (list.length : Int)∧f 11 = I i_23∧Star H w_ ([bld 75 5 B21 g19 ag19_24])
 refine W_loop I25 (n:=list.length) ?_ ?_
 exact ij hI25 ⟨0,list,ByteArray.empty,rfl,rfl,Nat.zero_add _,hL25,rfl,rfl,rfl,rfl,Z⟩
 intro n25 f w_ hI
 obtain ⟨i_23,suf25,ag19_24,rfl,hd25,hl25,hL25,sf3,sf9,sf10,sf11,Z⟩:=ik hI25 hI
 refine sq (L_lss rfl sf11 sf10 (nq (W_cond (b:=decide ((i_23 : Int) < (list.length : Int))) rfl (fun hc26=>?_) (fun hc26=>?_))))
 have hlt25:=of_decide_eq_true hc26
 rcases suf25 with _ | ⟨x_25,rest25⟩
 exact absurd hlt25 (by simp at hl25; omega)
 obtain ⟨o25,hB25,hL25⟩:=range_cons hL25
 rw [i_FormatProblem_b1] at hB25
 have hix25:=drop_idx hd25
 refine W_skip (W_seq (W_block (sq (L_ix (r:=(rCon 62)) rfl Tryd.underlying45 Tryd.sizeOf29 sf9 h0 sf11 hix25 (fun g34 o35 cs_g34 hrk_hat36 hat36=>?_)))))
 obtain ⟨u37_0,rfl,hu37_0⟩:=rCon_iff.1 hrk_hat36
 refine L_lda (cs:=[u37_0,I x_25.bound]) rfl Tryd.isAgg29 Tryd.sizeOf29 rfl (At.sub (AtH.at hat36 Z.sub) 0 2) rfl (L_al (cs:=#[S0,I 0]) rfl Tryd.zeroValue29 rfl Z (fun g38 w39 Z=>L_staB (vs:=#[u37_0,I x_25.bound]) (cs2:=#[u37_0,I x_25.bound]) 0 rfl Tryd.sizeOf29 rfl rfl rfl (ones_cons (one_len (slice_len hu37_0)) (ones_cons rfl ones_nil)) Z rfl (by show 0 + 2≤2; decide) rfl (fun w40 Z=>nn ?_)))
 obtain ⟨x46,hx46,hB25⟩:=bind_some hB25
 obtain ⟨x48,hx48,hB25⟩:=bind_some hB25
 obtain ⟨x50,hx50,hB25⟩:=bind_some hB25
 refine W_region (L_lda (cs:=[u37_0,I x_25.bound]) rfl Tryd.isAgg29 Tryd.sizeOf29 rfl (At.sub0 (Blk.at (Star.blkAt 0 Z rfl)) 0 2) rfl ?_)
 obtain ⟨H51b,l52,s53,z54,k55⟩:=Z.borrow
 refine L_call rfl Tryd.call34 (ops1 rfl) (i_Constraint_text_c (c:=x_25) s53 (RP.mono _ hu37_0 l52) hx46) ?_
 rintro _ w56 ⟨rfl,Z⟩
 have Z:=k55 Z c0
 obtain ⟨hx48_l,hx48_e⟩:=cat_some hx48
 refine L_sadd (s:=x46) (s':=(⟨#[10]⟩ : ByteArray)) rfl rfl rfl hx48_l ?_
 rw [← hx48_e]
 have Z:=Star.drop 0 Z rfl
 refine L_call rfl Tryd.call56 (ops2 sf3 rfl) (strings_Builder_WriteString_c hB22 Z hx50) ?_
 rintro _ w57 ⟨rfl,Z⟩
 refine nn (W_region (L_add rfl sf11 rfl (mI rfl (nn ?_))))
 obtain rfl:=so hB25
 show ∃ m,m < _∧I25 m _ _
 refine ⟨rest25.length,by simp,?_⟩
 exact ij hI25 ⟨i_23 + 1,rest25,x50,rfl,drop_next hd25,by simp at hl25; omega,hL25,sf3,sf9,sf10,(Eq.trans rfl (congrArg (Value.int .i64) (i64_succ (n:=list.length) (by simp at hl25; omega) hlen25))),Z⟩
 rcases suf25 with _ | ⟨_,_⟩
 obtain rfl:=range_nil hL25
 refine W_exit (rj hR25 ⟨ag19_24,rfl,sf3,Z⟩)
 exact absurd (of_decide_eq_false hc26) (by simp at hl25; omega)
 intro f w_ hR
 obtain ⟨ag19_24,rfl,sf3,Z⟩:=rk hR25 hR
 refine sq (L_call rfl Tryd.call57 (ops1 sf3) (strings_Builder_String_c hB22 Z) ?_)
 rintro _ w59 ⟨rfl,Z⟩
 refine aV (.string ag19_24) rfl (nn (W_ret (retG1 (v1:=.string ag19_24) Tryd.results25 rfl ?_)))
 obtain rfl:=so hF
 exact ⟨rfl,(Star.keepN 0 Z)⟩
theorem l_eqConstraintS_c {a : List Con} {b : List Con} {v0 : Value} {v1 : Value} {H : FH} {w : World} (Z : Star H w []) (h0 : (rS 29 (rCon 62)).rel H [v0] a) (h1 : (rS 29 (rCon 62)).rel H [v1] b) {r : Bool} (hF : l_eqConstraintS a b = some r) :
 C Tryd.prog 26 #[v0,v1] w fun v w'=>v = Bo r∧Star H w' []:=by
 unfold l_eqConstraintS at hF
 refine C_enter Tryd.func26 rfl Tryd.ntmps26 rfl (sq (aB rfl (nq (sq (mV v0 rfl (L_len rfl Tryd.underlying45 rfl (slice_len h0) (mV v1 rfl (L_len rfl Tryd.underlying45 rfl (slice_len h1) (L_neq rfl rfl rfl (nn (W_cond (b:=((a.length : Int) != (b.length : Int))) rfl (fun hc1=>?_) (fun hc1=>?_))))))))))))
 have hF:=(ite_t hc1).symm.trans hF
 refine sq (aB rfl (nn (W_ret (retG1 (v1:=Bo false) Tryd.results26 rfl ?_))))
 obtain rfl:=so hF
 exact ⟨rfl,Z⟩
 have hF:=(ite_f hc1).symm.trans hF
 refine W_skip (W_seq (sq (aI rfl (nn ?_))))
 have hlen5 : List.length a≤9223372036854775807:=len_le (slice_len h0)
 obtain ⟨j5,hL5,hF⟩:=bind_some hF
 obtain ⟨R5,hR5⟩:=exR fun f w_=>∃ H3 : FH,j5 = .nx ()∧Le H H3∧Star H3 w_ ([])
 refine W_join R5 ?_ ?_
 refine W_block ?_
 obtain ⟨I5,hI5⟩:=exI fun n f w_=>∃ i_2 : Nat,∃ suf5 : List Con,∃ H3 : FH,n = suf5.length∧List.drop i_2 a = suf5∧i_2 + suf5.length = a.length∧rangeL (l_eqConstraintS_b1 b) suf5 i_2 () = some j5∧Le H H3∧f 0 = v0∧f 1 = v1∧f 5 = I i_2∧Star H3 w_ ([])
 refine W_loop I5 (n:=a.length) ?_ ?_
 exact ij hI5 ⟨0,a,H,rfl,rfl,Nat.zero_add _,hL5,(Le.refl _),rfl,rfl,rfl,Z⟩
 intro n5 f w_ hI
 obtain ⟨i_2,suf5,H3,rfl,hd5,hl5,hL5,l4,sf0,sf1,sf5,Z⟩:=ik hI5 hI
 refine W_seq (sq (mF sf5 rfl (mF sf0 rfl (L_len rfl Tryd.underlying45 rfl (slice_len (RP.mono _ h0 l4)) (L_lss rfl rfl rfl (nn (W_cond (b:=decide ((i_2 : Int) < (a.length : Int))) rfl (fun hc6=>?_) (fun hc6=>?_))))))))
 have hlt5:=of_decide_eq_true hc6
 rcases suf5 with _ | ⟨x_5,rest5⟩
 exact absurd hlt5 (by simp at hl5; omega)
 obtain ⟨o5,hB5,hL5⟩:=range_cons hL5
 rw [l_eqConstraintS_b1] at hB5
 have hix5:=drop_idx hd5
 refine W_skip (W_seq (W_block (W_seq ?_)))
 obtain ⟨x11,hx11,hB5⟩:=bind_some hB5
 obtain ⟨x21,hx21,hB5⟩:=bind_some hB5
 refine W_drawS 8 [isV (v0),isV (I i_2),isEl (rCon 62) x_5 0,exD (isData (rS 62 rTerm) x_5.terms) fun u_0=>isV (.agg #[u_0,I x_5.bound]),isV (v1),isV (I i_2),isEl (rCon 62) x11 0,exD (isData (rS 62 rTerm) x11.terms) fun u_0=>isV (.agg #[u_0,I x11.bound])] [] [] ([]) [([],[]),([],[]),([],[]),([],[]),([],[]),([],[]),([],[]),([],[])] (S:=[]) Tryd_mix (by kernel_rfl) rfl (by kernel_rfl) (amF_cons (mono_V _) (amF_cons (mono_V _) (amF_cons (mono_el _ _ _) (amF_cons (mono_exD (mono_data _ _) fun _=>mono_V _) (amF_cons (mono_V _) (amF_cons (mono_V _) (amF_cons (mono_el _ _ _) (amF_cons (mono_exD (mono_data _ _) fun _=>mono_V _) amF_nil)))))))) Z ?_ (fun f w_ H23 hS23 hE23 hT23 Z=>?_)
 refine opsS_cons (fun f w_ _ _ s _ _ Z=>mF ((s 0 rfl).trans sf0) rfl (nO rfl rfl Z)) (opsS_cons (fun f w_ _ _ s _ _ Z=>mF ((s 5 rfl).trans sf5) rfl (nO rfl rfl Z)) (opsS_cons ?_ ?_))
 intro f w_ H23 X23 hS23 hE23 hP23 Z
 refine L_ix (r:=(rCon 62)) rfl Tryd.underlying45 Tryd.sizeOf29 (hP23 0 17 rfl rfl) (RP.mono _ h0 (Le.trans l4 hE23)) (hP23 1 18 rfl rfl) hix5 (fun g32 o33 cs_g32 hrk_hat34 hat34=>?_)
 obtain ⟨u35_0,rfl,hu35_0⟩:=rCon_iff.1 hrk_hat34
 exact L_nil ⟨rfl,_,_,rfl,Le.refl _,fun _ _=>⟨_,_,_,rfl,hrk_hat34,hat34⟩,Z⟩
 refine opsS_cons ?_ ?_
 intro f w_ H23 X23 hS23 hE23 hP23 Z
 obtain ⟨g36,o36,cs36,hv36,hrk_hat36,hat36⟩:=(hP23 2 19 rfl rfl)
 obtain ⟨u37_0,rfl,hu37_0⟩:=rCon_iff.1 hrk_hat36
 refine L_lda (cs:=[u37_0,I x_5.bound]) rfl Tryd.isAgg29 Tryd.sizeOf29 hv36 (At.sub (AtH.at hat36 Z.sub) 0 2) rfl (L_nil ⟨rfl,_,_,rfl,Le.refl _,fun _ _=>⟨_,hu37_0,rfl⟩,Z⟩)
 refine opsS_cons (fun f w_ _ _ s _ _ Z=>mF ((s 1 rfl).trans sf1) rfl (nO rfl rfl Z)) (opsS_cons (fun f w_ _ _ s _ _ Z=>mF ((s 5 rfl).trans sf5) rfl (nO rfl rfl Z)) (opsS_cons ?_ ?_))
 intro f w_ H23 X23 hS23 hE23 hP23 Z
 refine L_ix (r:=(rCon 62)) rfl Tryd.underlying45 Tryd.sizeOf29 (hP23 4 21 rfl rfl) (RP.mono _ h1 (Le.trans l4 hE23)) (hP23 5 22 rfl rfl) hx11 (fun g38 o39 cs_g38 hrk_hat40 hat40=>?_)
 obtain ⟨u41_0,rfl,hu41_0⟩:=rCon_iff.1 hrk_hat40
 exact L_nil ⟨rfl,_,_,rfl,Le.refl _,fun _ _=>⟨_,_,_,rfl,hrk_hat40,hat40⟩,Z⟩
 refine opsS_cons ?_ ?_
 intro f w_ H23 X23 hS23 hE23 hP23 Z
 obtain ⟨g42,o42,cs42,hv42,hrk_hat42,hat42⟩:=(hP23 6 23 rfl rfl)
 obtain ⟨u43_0,rfl,hu43_0⟩:=rCon_iff.1 hrk_hat42
 refine L_lda (cs:=[u43_0,I x11.bound]) rfl Tryd.isAgg29 Tryd.sizeOf29 hv42 (At.sub (AtH.at hat42 Z.sub) 0 2) rfl (L_nil ⟨rfl,_,_,rfl,Le.refl _,fun _ _=>⟨_,hu43_0,rfl⟩,Z⟩)
 exact opsS_nil
 obtain ⟨u44_0,hu44_0,hv44⟩:=(hT23 3 20 rfl rfl)
 obtain ⟨u45_0,hu45_0,hv45⟩:=(hT23 7 24 rfl rfl)
 obtain ⟨H46b,l47,s48,z49,k50⟩:=Z.borrow
 refine L_call rfl Tryd.call12 (ops2 hv44 hv45) (l_eqConstraint_c (a:=x_5) (b:=x11) s48 (RP.mono _ hu44_0 l47) (RP.mono _ hu45_0 l47) hx21) ?_
 rintro _ w51 ⟨rfl,Z⟩
 have Z:=k50 Z c0
 refine L_not_ rfl rfl (nn (W_cond (b:=(!x21)) rfl (fun hc52=>?_) (fun hc52=>?_)))
 have hB5:=(ite_t hc52).symm.trans hB5
 refine sq (aB rfl (nn (W_ret (retG1 (v1:=Bo false) Tryd.results26 rfl ?_))))
 obtain rfl:=so hB5
 obtain rfl:=so hL5
 obtain rfl:=so hF
 exact ⟨rfl,(Star.down Z (Le.trans l4 hE23) c0)⟩
 have hB5:=(ite_f hc52).symm.trans hB5
 refine W_skip (W_region (mF ((hS23 5 rfl).trans sf5) rfl (L_add rfl rfl rfl (aI rfl (nn ?_)))))
 obtain rfl:=so hB5
 show ∃ m,m < _∧I5 m _ _
 refine ⟨rest5.length,by simp,?_⟩
 exact ij hI5 ⟨i_2 + 1,rest5,H23,rfl,drop_next hd5,by simp at hl5; omega,hL5,(Le.trans l4 hE23),((hS23 0 rfl).trans sf0),((hS23 1 rfl).trans sf1),(Eq.trans rfl (congrArg (Value.int .i64) (i64_succ (n:=a.length) (by simp at hl5; omega) hlen5))),Z⟩
 rcases suf5 with _ | ⟨_,_⟩
 obtain rfl:=range_nil hL5
 refine W_exit (rj hR5 ⟨H3,rfl,l4,Z⟩)
 exact absurd (of_decide_eq_false hc6) (by simp at hl5; omega)
 intro f w_ hR
 obtain ⟨H3,rfl,l4,Z⟩:=rk hR5 hR
 refine sq (aB rfl (nn (W_ret (retG1 (v1:=Bo true) Tryd.results26 rfl ?_))))
 obtain rfl:=so hF
 exact ⟨rfl,(Star.down Z l4 c0)⟩
theorem l_FnExactFormatProblem_c {fu : Nat} {aList : List Con} {v0 : Value} {H : FH} {w : World} (Z : Star H w []) (h0 : (rS 24 (rCon 84)).rel H [v0] aList) {r : Bool} (hF : l_FnExactFormatProblem fu aList = some r) :
 C Tryd.prog 6 #[v0] w fun v w'=>v = Bo r∧Star H w' []:=by
 unfold l_FnExactFormatProblem at hF
 refine C_enter Tryd.func6 rfl Tryd.ntmps6 rfl (sq (aB rfl (ns (aI rfl (nq ?_)))))
 obtain ⟨x6,hx6,hF⟩:=bind_some hF
 refine W_region (mV v0 rfl (mI rfl ?_))
 obtain ⟨H8b,l9,s10,z11,k12⟩:=Z.borrow
 refine L_call rfl Tryd.call22 (ops2 rfl rfl) (l_szConstraintS_c (a:=aList) (left:=1048576) s10 (RP.mono _ h0 l9) hx6) ?_
 rintro _ w13 ⟨rfl,Z⟩
 have Z:=k12 Z c0
 refine aI rfl (nq (sq (mI rfl (L_lss rfl rfl rfl (nn (W_cond (b:=decide (x6 < 0)) rfl (fun hc14=>?_) (fun hc14=>?_)))))))
 have hF:=(ite_t hc14).symm.trans hF
 refine sq (aB rfl (nn (W_ret (retG1 (v1:=Bo true) Tryd.results6 rfl ?_))))
 obtain rfl:=so hF
 exact ⟨rfl,Z⟩
 have hF:=(ite_f hc14).symm.trans hF
 refine W_skip (W_seq ?_)
 obtain ⟨x20,hx20,hF⟩:=bind_some hF
 obtain ⟨x29,hx29,hF⟩:=bind_some hF
 refine W_region (mV v0 rfl ?_)
 obtain ⟨H31b,l32,s33,z34,k35⟩:=Z.borrow
 refine L_call rfl Tryd.call24 (ops1 rfl) (l_toConstraintS_c (a:=aList) s33 (RP.mono _ h0 l32) hx20) ?_
 rintro r36_0 w36 ⟨_,rfl,Z⟩
 have Z:=k35 Z (co closed_oCon c0)
 obtain ⟨H38b,l39,s40,z41,k42⟩:=Z.borrow
 have hb43 : (rS 29 (rCon 62)).rel H38b [r36_0] x20:=fz_own 0 z41 rfl
 refine L_call rfl Tryd.call23 (ops1 rfl) (s_FormatProblem_c (list:=x20) s40 hb43 hx29) ?_
 rintro _ w44 ⟨rfl,Z⟩
 have Z:=k42 Z c0
 refine aV (.string x29) rfl (nq ?_)
 obtain ⟨x50,hx50,hF⟩:=bind_some hF
 refine W_region (mV v0 rfl ?_)
 obtain ⟨H53b,l54,s55,z56,k57⟩:=Z.borrow
 refine L_call rfl Tryd.call24 (ops1 rfl) (l_toConstraintS_c (a:=aList) s55 (RP.mono _ h0 l54) hx50) ?_
 rintro r58_0 w58 ⟨_,rfl,Z⟩
 have Z:=k57 Z (co closed_oCon c0)
 refine aV r58_0 rfl (nq ?_)
 obtain ⟨x66,hx66,hF⟩:=bind_some hF
 refine W_region (mV r58_0 rfl ?_)
 obtain ⟨H68b,l69,s70,z71,k72⟩:=Z.borrow
 have hb73 : (rS 29 (rCon 62)).rel H68b [r58_0] x50:=fz_own 0 z71 rfl
 refine L_call rfl Tryd.call25 (ops1 rfl) (i_FormatProblem_c (list:=x50) s70 hb73 hx66) ?_
 rintro _ w74 ⟨rfl,Z⟩
 have Z:=k72 Z c0
 refine aV (.string x66) rfl (nq (sq (mV (.string x66) rfl (mV (.string x29) rfl (L_sneq (s:=x66) (s':=x29) rfl rfl rfl (nn (W_cond (b:=(!(ByteArray.toList x66 == ByteArray.toList x29))) rfl (fun hc75=>?_) (fun hc75=>?_))))))))
 have hF:=(ite_t hc75).symm.trans hF
 refine sq (aB rfl (nn (W_ret (retG1 (v1:=Bo false) Tryd.results6 rfl ?_))))
 obtain rfl:=so hF
 exact ⟨rfl,(Star.keepN 0 Z)⟩
 have hF:=(ite_f hc75).symm.trans hF
 refine W_skip (W_seq (W_seq ?_))
 obtain ⟨x81,hx81,hF⟩:=bind_some hF
 obtain ⟨x91,hx91,hF⟩:=bind_some hF
 refine W_region (mV r58_0 rfl (mV v0 rfl ?_))
 obtain ⟨H93b,l94,s95,z96,k97⟩:=Z.borrow
 refine L_call rfl Tryd.call24 (ops1 rfl) (l_toConstraintS_c (a:=aList) s95 (RP.mono _ h0 l94) hx81) ?_
 rintro r98_0 w98 ⟨_,rfl,Z⟩
 have Z:=k97 Z (co closed_oCon c0)
 obtain ⟨H100b,l101,s102,z103,k104⟩:=Z.borrow
 have hb105 : (rS 29 (rCon 62)).rel H100b [r58_0] x50:=fz_own 1 z103 rfl
 have hb106 : (rS 29 (rCon 62)).rel H100b [r98_0] x81:=fz_own 0 z103 rfl
 refine L_call rfl Tryd.call26 (ops2 rfl rfl) (l_eqConstraintS_c (a:=x50) (b:=x81) s102 hb105 hb106 hx91) ?_
 rintro _ w107 ⟨rfl,Z⟩
 have Z:=k104 Z c0
 refine L_not_ rfl rfl (nn (W_cond (b:=(!x91)) rfl (fun hc108=>?_) (fun hc108=>?_)))
 have hF:=(ite_t hc108).symm.trans hF
 refine sq (aB rfl (nn (W_ret (retG1 (v1:=Bo false) Tryd.results6 rfl ?_))))
 obtain rfl:=so hF
 exact ⟨rfl,(Star.keepN 0 Z)⟩
 have hF:=(ite_f hc108).symm.trans hF
 refine W_skip (sq (aB rfl (nn (W_ret (retG1 (v1:=Bo true) Tryd.results6 rfl ?_)))))
 obtain rfl:=so hF
 exact ⟨rfl,(Star.keepN 0 Z)⟩
end Go.Proofs.YtnjcihhfoocdcaaDoor

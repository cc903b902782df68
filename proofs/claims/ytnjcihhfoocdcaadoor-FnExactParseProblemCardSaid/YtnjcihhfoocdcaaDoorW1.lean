/- Part of a proof by program: W1. -/
import Derived.Test.YtnjcihhfoocdcaaDoorD1
import Derived.Test.YtnjcihhfoocdcaaDoorProg
import Derived.Test.YtnjcihhfoocdcaaDoorShelf
import Derived.WalkKit
namespace Go.Proofs.YtnjcihhfoocdcaaDoor
open Go Go.E Go.L Go.RowKit
set_option linter.unusedVariables false
set_option linter.unusedSimpArgs false
set_option maxRecDepth 100000
theorem Tryd_mix : Tryd.prog.follows .mixedOrders = true := by kernel_rfl
theorem fa_29_0 : FA Tryd.prog 29 0 0 := fa_of Tryd.underlying29 rfl Tryd.sizeOf27 rfl
theorem fa_29_1 : FA Tryd.prog 29 1 1 := fa_of Tryd.underlying29 rfl Tryd.sizeOf3 rfl
theorem fa_62_0 : FA Tryd.prog 62 0 0 := fa_of Tryd.underlying62 rfl Tryd.sizeOf3 rfl
theorem fa_62_1 : FA Tryd.prog 62 1 1 := fa_of Tryd.underlying62 rfl Tryd.sizeOf3 rfl
theorem et_27 : ET Tryd.prog 27 62 2 := et_of Tryd.underlying27 (by decide) (by kernel_rfl)
theorem et_45 : ET Tryd.prog 45 29 2 := et_of Tryd.underlying45 (by decide) (by kernel_rfl)
theorem et_56 : ET Tryd.prog 56 9 1 := et_of Tryd.underlying56 (by decide) (by kernel_rfl)
theorem bld_29_  : ∀ w, (Instr.build 29 #[]).run Tryd.prog w = .ok (.agg #[.slice none 0 0, .int .i64 0]) w := by
  intro w
  simp [Instr.build, Instr.fill, Tryd.zeroValue29, Tryd.runUnderlying29, Tryd.sizeOf3, Tryd.sizeOf27, cells_agg]
theorem bld_29_1 (a0 : Value) (ha0 : a0.oneCell' = true) : ∀ w, (Instr.build 29 #[(1, a0)]).run Tryd.prog w = .ok (.agg #[.slice none 0 0, a0]) w := by
  intro w
  simp [Instr.build, Instr.fill, Tryd.zeroValue29, Tryd.runUnderlying29, Tryd.sizeOf3, Tryd.sizeOf27, cells_one ha0, cells_agg]
theorem bld_62_0_1 (a0 a1 : Value) (ha0 : a0.oneCell' = true) (ha1 : a1.oneCell' = true) : ∀ w, (Instr.build 62 #[(0, a0), (1, a1)]).run Tryd.prog w = .ok (.agg #[a0, a1]) w := by
  intro w
  simp [Instr.build, Instr.fill, Tryd.zeroValue62, Tryd.runUnderlying62, Tryd.sizeOf3, cells_one ha0, cells_one ha1, cells_agg]
theorem bs_27_1_2 (a0 a1 : Value)  : ∀ w, (Instr.buildSlice 27 1 #[(0, .agg #[a0, a1])]).run Tryd.prog w = .ok (.slice (some ⟨w.heap.size, 0, none⟩) 1 1) (w.alloc (.cells #[a0, a1] 62)) := by
  intro w
  simp [Instr.buildSlice, Instr.fill, newRow, Tryd.zeroValue62, Tryd.runUnderlying27, Tryd.sizeOf62, cells_agg, cells_int, cells_bool, cells_str, cells_sl, Array.range_succ, range0]
theorem bs_37_1_0 (a0 : Value) (ha0 : a0.oneCell' = true) : ∀ w, (Instr.buildSlice 37 1 #[(0, a0)]).run Tryd.prog w = .ok (.slice (some ⟨w.heap.size, 0, none⟩) 1 1) (w.alloc (.cells #[a0] 5)) := by
  intro w
  simp [Instr.buildSlice, Instr.fill, newRow, Tryd.zeroValue5, Tryd.runUnderlying37, Tryd.sizeOf5, cells_one ha0, cells_agg, cells_int, cells_bool, cells_str, cells_sl, Array.range_succ, range0]
theorem bs_45_0  : ∀ w, (Instr.buildSlice 45 0 #[]).run Tryd.prog w = .ok (.slice (some ⟨w.heap.size, 0, none⟩) 0 0) (w.alloc (.cells #[] 29)) := by
  intro w
  simp [Instr.buildSlice, Instr.fill, newRow, Tryd.runUnderlying45, Tryd.sizeOf29, cells_agg, cells_int, cells_bool, cells_str, cells_sl, Array.range_succ, range0]
theorem bs_45_1_2 (a0 a1 : Value)  : ∀ w, (Instr.buildSlice 45 1 #[(0, .agg #[a0, a1])]).run Tryd.prog w = .ok (.slice (some ⟨w.heap.size, 0, none⟩) 1 1) (w.alloc (.cells #[a0, a1] 29)) := by
  intro w
  simp [Instr.buildSlice, Instr.fill, newRow, Tryd.zeroValue29, Tryd.runUnderlying45, Tryd.sizeOf29, cells_agg, cells_int, cells_bool, cells_str, cells_sl, Array.range_succ, range0]
theorem bs_56_0  : ∀ w, (Instr.buildSlice 56 0 #[]).run Tryd.prog w = .ok (.slice (some ⟨w.heap.size, 0, none⟩) 0 0) (w.alloc (.cells #[] 9)) := by
  intro w
  simp [Instr.buildSlice, Instr.fill, newRow, Tryd.runUnderlying56, Tryd.sizeOf9, cells_agg, cells_int, cells_bool, cells_str, cells_sl, Array.range_succ, range0]
theorem bs_56_1_0 (a0 : Value) (ha0 : a0.oneCell' = true) : ∀ w, (Instr.buildSlice 56 1 #[(0, a0)]).run Tryd.prog w = .ok (.slice (some ⟨w.heap.size, 0, none⟩) 1 1) (w.alloc (.cells #[a0] 9)) := by
  intro w
  simp [Instr.buildSlice, Instr.fill, newRow, Tryd.zeroValue9, Tryd.runUnderlying56, Tryd.sizeOf9, cells_one ha0, cells_agg, cells_int, cells_bool, cells_str, cells_sl, Array.range_succ, range0]
theorem s_l1Lit_c {n_ : Int} {H : FH} {w : World} (Z : Star H w []) {r : Bool} (hF : s_l1Lit n_ = some r) :
 C Tryd.prog 48 #[I n_] w fun v w'=>v = Bo r∧Star H w' []:=by
 unfold s_l1Lit at hF
 refine C_enter Tryd.func48 rfl Tryd.ntmps48 rfl (sq (aB rfl (nq ?_)))
 obtain ⟨R1,hR1⟩:=exR fun f w_=>f 2 = Bo (((n_ != 0) && (decide (n_ ≥ (-12)))) && (decide (n_≤12)))∧Star H w_ ([])
 refine W_join R1 ?_ ?_
 refine W_region (mI rfl (L_neq rfl rfl rfl (mB rfl (L_split (d:=5) (b:=(n_ != 0)) rfl (fun hc2=>?_) (fun hc2=>?_)))))
 refine mI rfl (L_geq rfl rfl rfl (L_pick (v:=Bo ((n_ != 0) && (decide (n_ ≥ (-12))))) rfl rfl (and_t hc2 rfl) (mB rfl (L_split (d:=9) (b:=((n_ != 0) && (decide (n_ ≥ (-12))))) rfl (fun hc3=>?_) (fun hc3=>?_)))))
 refine mI rfl (L_leq rfl rfl rfl (L_pick (v:=Bo (((n_ != 0) && (decide (n_ ≥ (-12)))) && (decide (n_≤12)))) rfl rfl (and_t hc3 rfl) (aB rfl (nn (rj hR1 ⟨rfl,Z⟩)))))
 refine ps rfl (ps rfl (L_pick (v:=Bo (((n_ != 0) && (decide (n_ ≥ (-12)))) && (decide (n_≤12)))) rfl rfl (and_f hc3) (aB rfl (nn (rj hR1 ⟨rfl,Z⟩)))))
 refine ps rfl (ps rfl (L_pick (v:=Bo ((n_ != 0) && (decide (n_ ≥ (-12))))) rfl rfl (and_f hc2) (mB rfl (L_split (d:=9) (b:=((n_ != 0) && (decide (n_ ≥ (-12))))) rfl (fun hc4=>?_) (fun hc4=>?_)))))
 refine mI rfl (L_leq rfl rfl rfl (L_pick (v:=Bo (((n_ != 0) && (decide (n_ ≥ (-12)))) && (decide (n_≤12)))) rfl rfl (and_t hc4 rfl) (aB rfl (nn (rj hR1 ⟨rfl,Z⟩)))))
 refine ps rfl (ps rfl (L_pick (v:=Bo (((n_ != 0) && (decide (n_ ≥ (-12)))) && (decide (n_≤12)))) rfl rfl (and_f hc4) (aB rfl (nn (rj hR1 ⟨rfl,Z⟩)))))
 intro f w_ hR
 obtain ⟨sf2,Z⟩:=rk hR1 hR
 refine W_ret (retG1 (v1:=Bo (((n_ != 0) && (decide (n_ ≥ (-12)))) && (decide (n_≤12)))) Tryd.results48 sf2 ?_)
 obtain rfl:=so hF
 exact ⟨rfl,Z⟩
theorem s_l1Abs_c {n_ : Int} {H : FH} {w : World} (Z : Star H w []) {r : Int} (hF : s_l1Abs n_ = some r) :
 C Tryd.prog 49 #[I n_] w fun v w'=>v = I r∧Star H w' []:=by
 unfold s_l1Abs at hF
 refine C_enter Tryd.func49 rfl Tryd.ntmps49 rfl (sq (aI rfl (nq (sq (mI rfl (L_lss rfl rfl rfl (nn (W_cond (b:=decide (n_ < 0)) rfl (fun hc1=>?_) (fun hc1=>?_)))))))))
 have hF:=(ite_t hc1).symm.trans hF
 refine sq (mI rfl (L_neg rfl rfl (aI rfl (nn (W_ret (retG1 (v1:=I (i64 (-n_))) Tryd.results49 rfl ?_))))))
 obtain rfl:=so hF
 exact ⟨rfl,Z⟩
 have hF:=(ite_f hc1).symm.trans hF
 refine W_skip (sq (mI rfl (aI rfl (nn (W_ret (retG1 (v1:=I n_) Tryd.results49 rfl ?_))))))
 obtain rfl:=so hF
 exact ⟨rfl,Z⟩
theorem s_ConstraintValid_c {c : Con} {v0_0 : Value} {H : FH} {w : World} (Z : Star H w []) (h0_0 : (rS 62 rTerm).rel H [v0_0] c.terms) {r : Bool} (hF : s_ConstraintValid c = some r) :
 C Tryd.prog 19 #[.agg #[v0_0,I c.bound]] w fun v w'=>v = Bo r∧Star H w' []:=by
 unfold s_ConstraintValid at hF
 refine C_enter Tryd.func19 rfl Tryd.ntmps19 rfl (sq (L_box (v:=.agg #[v0_0,I c.bound]) (cs:=#[v0_0,I c.bound]) rfl rfl rfl Z (fun g3 w4 Z=>aB rfl (nq (sq (aI rfl (nn ?_)))))))
 have hlen8 : List.length c.terms≤9223372036854775807:=len_le (slice_len h0_0)
 obtain ⟨j8,hL8,hF⟩:=bind_some hF
 obtain ⟨R8,hR8⟩:=exR fun f w_=>∃ H6 : FH,j8 = .nx ()∧Le H H6∧f 1 = Pt g3∧Star H6 w_ ([box g3 29 #[v0_0,I c.bound]])
 refine W_join R8 ?_ ?_
 refine W_block ?_
 obtain ⟨I8,hI8⟩:=exI fun n f w_=>∃ i_5 : Nat,∃ suf8 : List Term,∃ H6 : FH,n = suf8.length∧List.drop i_5 c.terms = suf8∧i_5 + suf8.length = c.terms.length∧rangeL (s_ConstraintValid_b1 c) suf8 i_5 () = some j8∧Le H H6∧f 1 = Pt g3∧f 3 = I i_5∧Star H6 w_ ([box g3 29 #[v0_0,I c.bound]])
 refine W_loop I8 (n:=c.terms.length) ?_ ?_
 exact ij hI8 ⟨0,c.terms,H,rfl,rfl,Nat.zero_add _,hL8,(Le.refl _),rfl,rfl,Z⟩
 intro n8 f w_ hI
 obtain ⟨i_5,suf8,H6,rfl,hd8,hl8,hL8,l7,sf1,sf3,Z⟩:=ik hI8 hI
 refine W_seq (sq (mF sf3 rfl (fA 0 fa_29_0 sf1 rfl (ldB 0 Z Tryd.isAgg27 rfl rfl rfl (L_len rfl Tryd.underlying27 rfl (slice_len (RP.mono _ h0_0 l7)) (L_lss rfl rfl rfl (nn (W_cond (b:=decide ((i_5 : Int) < (c.terms.length : Int))) rfl (fun hc9=>?_) (fun hc9=>?_)))))))))
 have hlt8:=of_decide_eq_true hc9
 rcases suf8 with _ | ⟨x_8,rest8⟩
 exact absurd hlt8 (by simp at hl8; omega)
 obtain ⟨o8,hB8,hL8⟩:=range_cons hL8
 rw [s_ConstraintValid_b1] at hB8
 have hix8:=drop_idx hd8
 refine W_skip (W_seq (W_block (sq (fA 0 fa_29_0 sf1 rfl (ldB 0 Z Tryd.isAgg27 rfl rfl rfl (mF sf3 rfl (L_ix (r:=rTerm) rfl Tryd.underlying27 Tryd.sizeOf62 rfl (RP.mono _ h0_0 l7) rfl hix8 (fun g17 o18 cs_g17 hrk_hat19 hat19=>?_))))))))
 obtain rfl:=rTerm_iff.1 hrk_hat19
 refine L_lda (cs:=[I x_8.coef,I x_8.lit]) rfl Tryd.isAgg62 Tryd.sizeOf62 rfl (At.sub (AtH.at hat19 Z.sub) 0 2) rfl (L_al (cs:=#[I 0,I 0]) rfl Tryd.zeroValue62 rfl Z (fun g21 w22 Z=>L_staB (vs:=#[I x_8.coef,I x_8.lit]) (cs2:=#[I x_8.coef,I x_8.lit]) 0 rfl Tryd.sizeOf62 rfl rfl rfl (ones_cons rfl (ones_cons rfl ones_nil)) Z rfl (by show 0 + 2≤2; decide) rfl (fun w23 Z=>nq ?_)))
 obtain ⟨x29,hx29,hB8⟩:=bind_some hB8
 obtain ⟨b51,hb51,hB8⟩:=bind_some hB8
 obtain ⟨R55,hR55⟩:=exR fun f w_=>∃ H53 : FH,Le H6 H53∧f 1 = Pt g3∧f 3 = I i_5∧f 48 = Bo b51∧Star H53 w_ ([box g3 29 #[v0_0,I c.bound]])
 refine W_join R55 ?_ ?_
 rcases Bool.eq_false_or_eq_true (!x29) with hc56 | hc56
 rcases Bool.eq_false_or_eq_true ((!x29) || (decide (x_8.coef < 1))) with hc57 | hc57
 rcases Bool.eq_false_or_eq_true (((!x29) || (decide (x_8.coef < 1))) || (decide (x_8.coef > 1000))) with hc58 | hc58
 rw [ite_t hc58] at hb51
 refine W_drawS 28 [isV (Pq g21 1),isV (I x_8.lit),isV (Bo x29),isV (Bo (!x29)),isV (Bo (!x29)),isV (undef),isV (undef),isV (undef),isV (Bo ((!x29) || (decide (x_8.coef < 1)))),isV (Bo ((!x29) || (decide (x_8.coef < 1)))),isV (undef),isV (undef),isV (undef),isV (Bo (((!x29) || (decide (x_8.coef < 1))) || (decide (x_8.coef > 1000)))),isV (Bo (((!x29) || (decide (x_8.coef < 1))) || (decide (x_8.coef > 1000)))),isV (undef),isV (undef),isV (undef),isV (undef),isV (undef),isV (undef),isV (undef),isV (undef),isV (undef),isV (undef),isV (undef),isV (undef),isV (undef)] [box g21 62 #[I x_8.coef,I x_8.lit],box g3 29 #[v0_0,I c.bound]] [] ([]) [([],[]),([],[]),([],[]),([],[]),([],[]),([],[]),([],[]),([],[]),([],[]),([],[]),([],[]),([],[]),([],[]),([],[]),([],[]),([],[]),([],[]),([],[]),([],[]),([],[]),([],[]),([],[]),([],[]),([],[]),([],[]),([],[]),([],[]),([],[])] (S:=[]) Tryd_mix (by kernel_rfl) rfl (by kernel_rfl) (amF_cons (mono_V _) (amF_cons (mono_V _) (amF_cons (mono_V _) (amF_cons (mono_V _) (amF_cons (mono_V _) (amF_cons (mono_V _) (amF_cons (mono_V _) (amF_cons (mono_V _) (amF_cons (mono_V _) (amF_cons (mono_V _) (amF_cons (mono_V _) (amF_cons (mono_V _) (amF_cons (mono_V _) (amF_cons (mono_V _) (amF_cons (mono_V _) (amF_cons (mono_V _) (amF_cons (mono_V _) (amF_cons (mono_V _) (amF_cons (mono_V _) (amF_cons (mono_V _) (amF_cons (mono_V _) (amF_cons (mono_V _) (amF_cons (mono_V _) (amF_cons (mono_V _) (amF_cons (mono_V _) (amF_cons (mono_V _) (amF_cons (mono_V _) (amF_cons (mono_V _) amF_nil)))))))))))))))))))))))))))) Z ?_ (fun f w_ H52 hS52 hE52 hT52 Z=>?_)
 refine opsS_cons (fun f w_ _ _ s _ _ Z=>fA 1 fa_62_1 ((s 4 rfl).trans rfl) rfl (nO rfl rfl Z)) (opsS_cons (fun f w_ _ _ _ _ p Z=>ldB 0 Z Tryd.isAgg3 (p 0 17 rfl rfl) rfl rfl (nO rfl rfl Z)) (opsS_cons ?_ ?_))
 intro f w_ H52 X52 hS52 hE52 hP52 Z
 obtain ⟨H65b,l66,s67,z68,k69⟩:=Z.borrow
 refine L_call rfl Tryd.call48 (ops1 (hP52 1 18 rfl rfl)) (s_l1Lit_c (n_:=x_8.lit) s67 hx29) ?_
 rintro _ w70 ⟨rfl,Z⟩
 have Z:=k69 Z c0
 exact L_nil ⟨rfl,_,_,rfl,Le.refl _,fun _ _=>rfl,Z⟩
 refine opsS_cons (fun f w_ _ _ _ _ p Z=>L_not_ rfl (p 2 19 rfl rfl) (nO rfl rfl Z)) (opsS_cons (fun f w_ _ _ _ _ p Z=>mF (p 3 20 rfl rfl) rfl (nO rfl rfl Z)) (oP (fun _ _ p=>gN (p 4 21 rfl rfl) hc56 rfl) (fun _=>rfl) (oP (fun _ _ p=>gN (p 4 21 rfl rfl) hc56 rfl) (fun _=>rfl) (oP (fun _ _ p=>gN (p 4 21 rfl rfl) hc56 rfl) (fun _=>rfl) (opsS_cons (fun f w_ _ _ _ _ p Z=>pkT (v:=Bo ((!x29) || (decide (x_8.coef < 1)))) (p 4 21 rfl rfl) hc56 rfl (or_t hc56) (nO rfl rfl Z)) (opsS_cons (fun f w_ _ _ _ _ p Z=>mF (p 8 25 rfl rfl) rfl (nO rfl rfl Z)) (oP (fun _ _ p=>gN (p 9 26 rfl rfl) hc57 rfl) (fun _=>rfl) (oP (fun _ _ p=>gN (p 9 26 rfl rfl) hc57 rfl) (fun _=>rfl) (oP (fun _ _ p=>gN (p 9 26 rfl rfl) hc57 rfl) (fun _=>rfl) (opsS_cons (fun f w_ _ _ _ _ p Z=>pkT (v:=Bo (((!x29) || (decide (x_8.coef < 1))) || (decide (x_8.coef > 1000)))) (p 9 26 rfl rfl) hc57 rfl (or_t hc57) (nO rfl rfl Z)) (opsS_cons (fun f w_ _ _ _ _ p Z=>mF (p 13 30 rfl rfl) rfl (nO rfl rfl Z)) (oP (fun _ _ p=>gN (p 14 31 rfl rfl) hc58 rfl) (fun _=>rfl) (oP (fun _ _ p=>gN (p 14 31 rfl rfl) hc58 rfl) (fun _=>rfl) (oP (fun _ _ p=>gN (p 14 31 rfl rfl) hc58 rfl) (fun _=>rfl) (oP (fun _ _ p=>g_undef rfl (p 17 34 rfl rfl) rfl) (fun _=>rfl) (oP (fun _ _ p=>g_undef rfl (p 17 34 rfl rfl) rfl) (fun _=>rfl) (oP (fun _ _ p=>g_undef rfl (p 17 34 rfl rfl) rfl) (fun _=>rfl) (oP (fun _ _ p=>g_undef rfl (p 17 34 rfl rfl) rfl) (fun _=>rfl) (oP (fun _ _ p=>g_undef rfl (p 17 34 rfl rfl) rfl) (fun _=>rfl) (oP (fun _ _ p=>g_undef rfl (p 17 34 rfl rfl) rfl) (fun _=>rfl) (oP (fun _ _ p=>g_undef rfl (p 17 34 rfl rfl) rfl) (fun _=>rfl) (oP (fun _ _ p=>g_undef rfl (p 17 34 rfl rfl) rfl) (fun _=>rfl) (oP (fun _ _ p=>g_undef rfl (p 17 34 rfl rfl) rfl) (fun _=>rfl) (oP (fun _ _ p=>g_undef rfl (p 17 34 rfl rfl) rfl) (fun _=>rfl) (opsS_nil)))))))))))))))))))))))))
 refine ps (g_undef rfl (hT52 17 34 rfl rfl) rfl) (ps (g_undef rfl (hT52 17 34 rfl rfl) rfl) (ps (g_no rfl (Eq.trans (hT52 14 31 rfl rfl) (congrArg Value.bool hc58)) rfl rfl) (L_pick (v:=Bo b51) rfl (Eq.trans (hT52 14 31 rfl rfl) (congrArg Value.bool hc58)) (congrArg Value.bool (so hb51)) (nn ?_))))
 have Z:=Z.get 1 rfl
 exact rj hR55 ⟨H52,hE52,((hS52 1 rfl).trans sf1),((hS52 3 rfl).trans sf3),rfl,(Star.keepN 1 Z)⟩
 rw [ite_f hc58] at hb51
 obtain ⟨b50,hb50,hb51⟩:=bind_some hb51
 rcases Bool.eq_false_or_eq_true (decide ((i_5 : Int) > 0)) with hc71 | hc71
 rw [ite_t hc71] at hb50
 obtain ⟨x31,hx31,hb50⟩:=bind_some hb50
 obtain ⟨x41,hx41,hb50⟩:=bind_some hb50
 obtain ⟨x48,hx48,hb50⟩:=bind_some hb50
 refine W_drawS 28 [isV (Pq g21 1),isV (I x_8.lit),isV (Bo x29),isV (Bo (!x29)),isV (Bo (!x29)),isV (undef),isV (undef),isV (undef),isV (Bo ((!x29) || (decide (x_8.coef < 1)))),isV (Bo ((!x29) || (decide (x_8.coef < 1)))),isV (undef),isV (undef),isV (undef),isV (Bo (((!x29) || (decide (x_8.coef < 1))) || (decide (x_8.coef > 1000)))),isV (Bo (((!x29) || (decide (x_8.coef < 1))) || (decide (x_8.coef > 1000)))),isV (I i_5),isV (Bo (decide ((i_5 : Int) > 0))),isV (Bo (decide ((i_5 : Int) > 0))),isV (Pt g3),isV (v0_0),isV (I i_5),isV (I (i64 ((i_5 : Int) - 1))),isEl rTerm x31 0,isEl rTerm x31 1,isV (I x31.lit),isV (I x41),isV (Pq g21 1),isV (I x_8.lit)] [box g21 62 #[I x_8.coef,I x_8.lit],box g3 29 #[v0_0,I c.bound]] [] ([]) [([],[]),([],[]),([],[]),([],[]),([],[]),([],[]),([],[]),([],[]),([],[]),([],[]),([],[]),([],[]),([],[]),([],[]),([],[]),([],[]),([],[]),([],[]),([],[]),([],[]),([],[]),([],[]),([],[]),([],[]),([],[]),([],[]),([],[]),([],[])] (S:=[]) Tryd_mix (by kernel_rfl) rfl (by kernel_rfl) (amF_cons (mono_V _) (amF_cons (mono_V _) (amF_cons (mono_V _) (amF_cons (mono_V _) (amF_cons (mono_V _) (amF_cons (mono_V _) (amF_cons (mono_V _) (amF_cons (mono_V _) (amF_cons (mono_V _) (amF_cons (mono_V _) (amF_cons (mono_V _) (amF_cons (mono_V _) (amF_cons (mono_V _) (amF_cons (mono_V _) (amF_cons (mono_V _) (amF_cons (mono_V _) (amF_cons (mono_V _) (amF_cons (mono_V _) (amF_cons (mono_V _) (amF_cons (mono_V _) (amF_cons (mono_V _) (amF_cons (mono_V _) (amF_cons (mono_el _ _ _) (amF_cons (mono_el _ _ _) (amF_cons (mono_V _) (amF_cons (mono_V _) (amF_cons (mono_V _) (amF_cons (mono_V _) amF_nil)))))))))))))))))))))))))))) Z ?_ (fun f w_ H52 hS52 hE52 hT52 Z=>?_)
 refine opsS_cons (fun f w_ _ _ s _ _ Z=>fA 1 fa_62_1 ((s 4 rfl).trans rfl) rfl (nO rfl rfl Z)) (opsS_cons (fun f w_ _ _ _ _ p Z=>ldB 0 Z Tryd.isAgg3 (p 0 17 rfl rfl) rfl rfl (nO rfl rfl Z)) (opsS_cons ?_ ?_))
 intro f w_ H52 X52 hS52 hE52 hP52 Z
 obtain ⟨H88b,l89,s90,z91,k92⟩:=Z.borrow
 refine L_call rfl Tryd.call48 (ops1 (hP52 1 18 rfl rfl)) (s_l1Lit_c (n_:=x_8.lit) s90 hx29) ?_
 rintro _ w93 ⟨rfl,Z⟩
 have Z:=k92 Z c0
 exact L_nil ⟨rfl,_,_,rfl,Le.refl _,fun _ _=>rfl,Z⟩
 refine opsS_cons (fun f w_ _ _ _ _ p Z=>L_not_ rfl (p 2 19 rfl rfl) (nO rfl rfl Z)) (opsS_cons (fun f w_ _ _ _ _ p Z=>mF (p 3 20 rfl rfl) rfl (nO rfl rfl Z)) (oP (fun _ _ p=>gN (p 4 21 rfl rfl) hc56 rfl) (fun _=>rfl) (oP (fun _ _ p=>gN (p 4 21 rfl rfl) hc56 rfl) (fun _=>rfl) (oP (fun _ _ p=>gN (p 4 21 rfl rfl) hc56 rfl) (fun _=>rfl) (opsS_cons (fun f w_ _ _ _ _ p Z=>pkT (v:=Bo ((!x29) || (decide (x_8.coef < 1)))) (p 4 21 rfl rfl) hc56 rfl (or_t hc56) (nO rfl rfl Z)) (opsS_cons (fun f w_ _ _ _ _ p Z=>mF (p 8 25 rfl rfl) rfl (nO rfl rfl Z)) (oP (fun _ _ p=>gN (p 9 26 rfl rfl) hc57 rfl) (fun _=>rfl) (oP (fun _ _ p=>gN (p 9 26 rfl rfl) hc57 rfl) (fun _=>rfl) (oP (fun _ _ p=>gN (p 9 26 rfl rfl) hc57 rfl) (fun _=>rfl) (opsS_cons (fun f w_ _ _ _ _ p Z=>pkT (v:=Bo (((!x29) || (decide (x_8.coef < 1))) || (decide (x_8.coef > 1000)))) (p 9 26 rfl rfl) hc57 rfl (or_t hc57) (nO rfl rfl Z)) (opsS_cons (fun f w_ _ _ _ _ p Z=>mF (p 13 30 rfl rfl) rfl (nO rfl rfl Z)) (opsS_cons (fun f w_ _ _ s _ p Z=>L_mv (v:=I i_5) (g_yes rfl (Eq.trans (p 14 31 rfl rfl) (congrArg Value.bool hc58)) rfl) ((s 3 rfl).trans sf3) (nO rfl rfl Z)) (opsS_cons (fun f w_ _ _ _ _ p Z=>L_gtr (g_yes rfl (Eq.trans (p 14 31 rfl rfl) (congrArg Value.bool hc58)) rfl) (p 15 32 rfl rfl) rfl (nO rfl rfl Z)) (opsS_cons (fun f w_ _ _ _ _ p Z=>L_mv (v:=Bo (decide ((i_5 : Int) > 0))) (g_yes rfl (Eq.trans (p 14 31 rfl rfl) (congrArg Value.bool hc58)) rfl) (p 16 33 rfl rfl) (nO rfl rfl Z)) (opsS_cons (fun f w_ _ _ s _ p Z=>L_fa (o':=0) (g_yes rfl (Eq.trans (p 17 34 rfl rfl) (congrArg Value.bool hc71)) rfl) fa_29_0 ((s 1 rfl).trans sf1) rfl (nO rfl rfl Z)) (opsS_cons (fun f w_ _ _ _ _ p Z=>L_ld (v:=v0_0) (g_yes rfl (Eq.trans (p 17 34 rfl rfl) (congrArg Value.bool hc71)) rfl) Tryd.isAgg27 (p 18 35 rfl rfl) (At.cell0 (Blk.at (Star.blkAt 1 Z rfl)) (j:=0) rfl) (nO rfl rfl Z)) (opsS_cons (fun f w_ _ _ s _ p Z=>L_mv (v:=I i_5) (g_yes rfl (Eq.trans (p 17 34 rfl rfl) (congrArg Value.bool hc71)) rfl) ((s 3 rfl).trans sf3) (nO rfl rfl Z)) (opsS_cons (fun f w_ _ _ _ _ p Z=>L_sub (g_yes rfl (Eq.trans (p 17 34 rfl rfl) (congrArg Value.bool hc71)) rfl) (p 20 37 rfl rfl) rfl (nO rfl rfl Z)) (opsS_cons ?_ ?_)))))))))))))))))))
 intro f w_ H52 X52 hS52 hE52 hP52 Z
 refine L_ix (r:=rTerm) (g_yes rfl (Eq.trans (hP52 17 34 rfl rfl) (congrArg Value.bool hc71)) rfl) Tryd.underlying27 Tryd.sizeOf62 (hP52 19 36 rfl rfl) (RP.mono _ h0_0 (Le.trans l7 hE52)) (hP52 21 38 rfl rfl) hx31 (fun g94 o95 cs_g94 hrk_hat96 hat96=>?_)
 obtain rfl:=rTerm_iff.1 hrk_hat96
 exact L_nil ⟨rfl,_,_,rfl,Le.refl _,fun _ _=>⟨_,_,_,rfl,hrk_hat96,hat96⟩,Z⟩
 refine opsS_cons ?_ ?_
 intro f w_ H52 X52 hS52 hE52 hP52 Z
 obtain ⟨g98,o98,cs98,hv98,hrk_hat98,hat98⟩:=(hP52 22 39 rfl rfl)
 obtain rfl:=rTerm_iff.1 hrk_hat98
 refine L_fa (o':=o98 + 1) (g_yes rfl (Eq.trans (hP52 17 34 rfl rfl) (congrArg Value.bool hc71)) rfl) fa_62_1 hv98 rfl (L_nil ⟨rfl,_,_,rfl,Le.refl _,fun _ _=>⟨_,_,_,rfl,hrk_hat98,hat98⟩,Z⟩)
 refine opsS_cons ?_ ?_
 intro f w_ H52 X52 hS52 hE52 hP52 Z
 obtain ⟨g100,o100,cs100,hv100,hrk_hat100,hat100⟩:=(hP52 23 40 rfl rfl)
 obtain rfl:=rTerm_iff.1 hrk_hat100
 refine L_ld (v:=I x31.lit) (g_yes rfl (Eq.trans (hP52 17 34 rfl rfl) (congrArg Value.bool hc71)) rfl) Tryd.isAgg3 hv100 (At.cell (AtH.at hat100 Z.sub) (j:=1) rfl) (L_nil ⟨rfl,_,_,rfl,Le.refl _,fun _ _=>rfl,Z⟩)
 refine opsS_cons ?_ ?_
 intro f w_ H52 X52 hS52 hE52 hP52 Z
 obtain ⟨H102b,l103,s104,z105,k106⟩:=Z.borrow
 refine L_call (g_yes rfl (Eq.trans (hP52 17 34 rfl rfl) (congrArg Value.bool hc71)) rfl) Tryd.call49 (ops1 (hP52 24 41 rfl rfl)) (s_l1Abs_c (n_:=x31.lit) s104 hx41) ?_
 rintro _ w107 ⟨rfl,Z⟩
 have Z:=k106 Z c0
 exact L_nil ⟨rfl,_,_,rfl,Le.refl _,fun _ _=>rfl,Z⟩
 refine opsS_cons (fun f w_ _ _ s _ p Z=>L_fa (o':=1) (g_yes rfl (Eq.trans (p 17 34 rfl rfl) (congrArg Value.bool hc71)) rfl) fa_62_1 ((s 4 rfl).trans rfl) rfl (nO rfl rfl Z)) (opsS_cons (fun f w_ _ _ _ _ p Z=>L_ld (v:=I x_8.lit) (g_yes rfl (Eq.trans (p 17 34 rfl rfl) (congrArg Value.bool hc71)) rfl) Tryd.isAgg3 (p 26 43 rfl rfl) (At.cell0 (Blk.at (Star.blkAt 0 Z rfl)) (j:=1) rfl) (nO rfl rfl Z)) (opsS_nil))
 obtain ⟨H108b,l109,s110,z111,k112⟩:=Z.borrow
 refine L_call (g_yes rfl (Eq.trans (hT52 17 34 rfl rfl) (congrArg Value.bool hc71)) rfl) Tryd.call49 (ops1 (hT52 27 44 rfl rfl)) (s_l1Abs_c (n_:=x_8.lit) s110 hx48) ?_
 rintro _ w113 ⟨rfl,Z⟩
 have Z:=k112 Z c0
 refine L_geq (g_yes rfl (Eq.trans (hT52 17 34 rfl rfl) (congrArg Value.bool hc71)) rfl) (hT52 25 42 rfl rfl) rfl (L_pick (v:=Bo b50) (g_yes rfl (Eq.trans (hT52 14 31 rfl rfl) (congrArg Value.bool hc58)) rfl) (Eq.trans (hT52 17 34 rfl rfl) (congrArg Value.bool hc71)) (congrArg Value.bool (so hb50)) (L_pick (v:=Bo b51) rfl (Eq.trans (hT52 14 31 rfl rfl) (congrArg Value.bool hc58)) (congrArg Value.bool (so hb51)) (nn ?_)))
 have Z:=Z.get 1 rfl
 exact rj hR55 ⟨H52,hE52,((hS52 1 rfl).trans sf1),((hS52 3 rfl).trans sf3),rfl,(Star.keepN 1 Z)⟩
 rw [ite_f hc71] at hb50
 refine W_drawS 28 [isV (Pq g21 1),isV (I x_8.lit),isV (Bo x29),isV (Bo (!x29)),isV (Bo (!x29)),isV (undef),isV (undef),isV (undef),isV (Bo ((!x29) || (decide (x_8.coef < 1)))),isV (Bo ((!x29) || (decide (x_8.coef < 1)))),isV (undef),isV (undef),isV (undef),isV (Bo (((!x29) || (decide (x_8.coef < 1))) || (decide (x_8.coef > 1000)))),isV (Bo (((!x29) || (decide (x_8.coef < 1))) || (decide (x_8.coef > 1000)))),isV (I i_5),isV (Bo (decide ((i_5 : Int) > 0))),isV (Bo (decide ((i_5 : Int) > 0))),isV (undef),isV (undef),isV (undef),isV (undef),isV (undef),isV (undef),isV (undef),isV (undef),isV (undef),isV (undef)] [box g21 62 #[I x_8.coef,I x_8.lit],box g3 29 #[v0_0,I c.bound]] [] ([]) [([],[]),([],[]),([],[]),([],[]),([],[]),([],[]),([],[]),([],[]),([],[]),([],[]),([],[]),([],[]),([],[]),([],[]),([],[]),([],[]),([],[]),([],[]),([],[]),([],[]),([],[]),([],[]),([],[]),([],[]),([],[]),([],[]),([],[]),([],[])] (S:=[]) Tryd_mix (by kernel_rfl) rfl (by kernel_rfl) (amF_cons (mono_V _) (amF_cons (mono_V _) (amF_cons (mono_V _) (amF_cons (mono_V _) (amF_cons (mono_V _) (amF_cons (mono_V _) (amF_cons (mono_V _) (amF_cons (mono_V _) (amF_cons (mono_V _) (amF_cons (mono_V _) (amF_cons (mono_V _) (amF_cons (mono_V _) (amF_cons (mono_V _) (amF_cons (mono_V _) (amF_cons (mono_V _) (amF_cons (mono_V _) (amF_cons (mono_V _) (amF_cons (mono_V _) (amF_cons (mono_V _) (amF_cons (mono_V _) (amF_cons (mono_V _) (amF_cons (mono_V _) (amF_cons (mono_V _) (amF_cons (mono_V _) (amF_cons (mono_V _) (amF_cons (mono_V _) (amF_cons (mono_V _) (amF_cons (mono_V _) amF_nil)))))))))))))))))))))))))))) Z ?_ (fun f w_ H52 hS52 hE52 hT52 Z=>?_)
 refine opsS_cons (fun f w_ _ _ s _ _ Z=>fA 1 fa_62_1 ((s 4 rfl).trans rfl) rfl (nO rfl rfl Z)) (opsS_cons (fun f w_ _ _ _ _ p Z=>ldB 0 Z Tryd.isAgg3 (p 0 17 rfl rfl) rfl rfl (nO rfl rfl Z)) (opsS_cons ?_ ?_))
 intro f w_ H52 X52 hS52 hE52 hP52 Z
 obtain ⟨H120b,l121,s122,z123,k124⟩:=Z.borrow
 refine L_call rfl Tryd.call48 (ops1 (hP52 1 18 rfl rfl)) (s_l1Lit_c (n_:=x_8.lit) s122 hx29) ?_
 rintro _ w125 ⟨rfl,Z⟩
 have Z:=k124 Z c0
 exact L_nil ⟨rfl,_,_,rfl,Le.refl _,fun _ _=>rfl,Z⟩
 refine opsS_cons (fun f w_ _ _ _ _ p Z=>L_not_ rfl (p 2 19 rfl rfl) (nO rfl rfl Z)) (opsS_cons (fun f w_ _ _ _ _ p Z=>mF (p 3 20 rfl rfl) rfl (nO rfl rfl Z)) (oP (fun _ _ p=>gN (p 4 21 rfl rfl) hc56 rfl) (fun _=>rfl) (oP (fun _ _ p=>gN (p 4 21 rfl rfl) hc56 rfl) (fun _=>rfl) (oP (fun _ _ p=>gN (p 4 21 rfl rfl) hc56 rfl) (fun _=>rfl) (opsS_cons (fun f w_ _ _ _ _ p Z=>pkT (v:=Bo ((!x29) || (decide (x_8.coef < 1)))) (p 4 21 rfl rfl) hc56 rfl (or_t hc56) (nO rfl rfl Z)) (opsS_cons (fun f w_ _ _ _ _ p Z=>mF (p 8 25 rfl rfl) rfl (nO rfl rfl Z)) (oP (fun _ _ p=>gN (p 9 26 rfl rfl) hc57 rfl) (fun _=>rfl) (oP (fun _ _ p=>gN (p 9 26 rfl rfl) hc57 rfl) (fun _=>rfl) (oP (fun _ _ p=>gN (p 9 26 rfl rfl) hc57 rfl) (fun _=>rfl) (opsS_cons (fun f w_ _ _ _ _ p Z=>pkT (v:=Bo (((!x29) || (decide (x_8.coef < 1))) || (decide (x_8.coef > 1000)))) (p 9 26 rfl rfl) hc57 rfl (or_t hc57) (nO rfl rfl Z)) (opsS_cons (fun f w_ _ _ _ _ p Z=>mF (p 13 30 rfl rfl) rfl (nO rfl rfl Z)) (opsS_cons (fun f w_ _ _ s _ p Z=>L_mv (v:=I i_5) (g_yes rfl (Eq.trans (p 14 31 rfl rfl) (congrArg Value.bool hc58)) rfl) ((s 3 rfl).trans sf3) (nO rfl rfl Z)) (opsS_cons (fun f w_ _ _ _ _ p Z=>L_gtr (g_yes rfl (Eq.trans (p 14 31 rfl rfl) (congrArg Value.bool hc58)) rfl) (p 15 32 rfl rfl) rfl (nO rfl rfl Z)) (opsS_cons (fun f w_ _ _ _ _ p Z=>L_mv (v:=Bo (decide ((i_5 : Int) > 0))) (g_yes rfl (Eq.trans (p 14 31 rfl rfl) (congrArg Value.bool hc58)) rfl) (p 16 33 rfl rfl) (nO rfl rfl Z)) (oP (fun _ _ p=>gN (p 17 34 rfl rfl) hc71 rfl) (fun _=>rfl) (oP (fun _ _ p=>gN (p 17 34 rfl rfl) hc71 rfl) (fun _=>rfl) (oP (fun _ _ p=>gN (p 17 34 rfl rfl) hc71 rfl) (fun _=>rfl) (oP (fun _ _ p=>gN (p 17 34 rfl rfl) hc71 rfl) (fun _=>rfl) (oP (fun _ _ p=>gN (p 17 34 rfl rfl) hc71 rfl) (fun _=>rfl) (oP (fun _ _ p=>gN (p 17 34 rfl rfl) hc71 rfl) (fun _=>rfl) (oP (fun _ _ p=>gN (p 17 34 rfl rfl) hc71 rfl) (fun _=>rfl) (oP (fun _ _ p=>gN (p 17 34 rfl rfl) hc71 rfl) (fun _=>rfl) (oP (fun _ _ p=>gN (p 17 34 rfl rfl) hc71 rfl) (fun _=>rfl) (oP (fun _ _ p=>gN (p 17 34 rfl rfl) hc71 rfl) (fun _=>rfl) (opsS_nil)))))))))))))))))))))))))
 refine ps (g_no rfl (Eq.trans (hT52 17 34 rfl rfl) (congrArg Value.bool hc71)) rfl rfl) (ps (g_no rfl (Eq.trans (hT52 17 34 rfl rfl) (congrArg Value.bool hc71)) rfl rfl) (L_pick (v:=Bo b50) (g_yes rfl (Eq.trans (hT52 14 31 rfl rfl) (congrArg Value.bool hc58)) rfl) (Eq.trans (hT52 17 34 rfl rfl) (congrArg Value.bool hc71)) (congrArg Value.bool (so hb50)) (L_pick (v:=Bo b51) rfl (Eq.trans (hT52 14 31 rfl rfl) (congrArg Value.bool hc58)) (congrArg Value.bool (so hb51)) (nn ?_))))
 have Z:=Z.get 1 rfl
 exact rj hR55 ⟨H52,hE52,((hS52 1 rfl).trans sf1),((hS52 3 rfl).trans sf3),rfl,(Star.keepN 1 Z)⟩
 rcases Bool.eq_false_or_eq_true (((!x29) || (decide (x_8.coef < 1))) || (decide (x_8.coef > 1000))) with hc126 | hc126
 rw [ite_t hc126] at hb51
 refine W_drawS 28 [isV (Pq g21 1),isV (I x_8.lit),isV (Bo x29),isV (Bo (!x29)),isV (Bo (!x29)),isV (undef),isV (undef),isV (undef),isV (Bo ((!x29) || (decide (x_8.coef < 1)))),isV (Bo ((!x29) || (decide (x_8.coef < 1)))),isV (Pt g21),isV (I x_8.coef),isV (Bo (decide (x_8.coef > 1000))),isV (Bo (((!x29) || (decide (x_8.coef < 1))) || (decide (x_8.coef > 1000)))),isV (Bo (((!x29) || (decide (x_8.coef < 1))) || (decide (x_8.coef > 1000)))),isV (undef),isV (undef),isV (undef),isV (undef),isV (undef),isV (undef),isV (undef),isV (undef),isV (undef),isV (undef),isV (undef),isV (undef),isV (undef)] [box g21 62 #[I x_8.coef,I x_8.lit],box g3 29 #[v0_0,I c.bound]] [] ([]) [([],[]),([],[]),([],[]),([],[]),([],[]),([],[]),([],[]),([],[]),([],[]),([],[]),([],[]),([],[]),([],[]),([],[]),([],[]),([],[]),([],[]),([],[]),([],[]),([],[]),([],[]),([],[]),([],[]),([],[]),([],[]),([],[]),([],[]),([],[])] (S:=[]) Tryd_mix (by kernel_rfl) rfl (by kernel_rfl) (amF_cons (mono_V _) (amF_cons (mono_V _) (amF_cons (mono_V _) (amF_cons (mono_V _) (amF_cons (mono_V _) (amF_cons (mono_V _) (amF_cons (mono_V _) (amF_cons (mono_V _) (amF_cons (mono_V _) (amF_cons (mono_V _) (amF_cons (mono_V _) (amF_cons (mono_V _) (amF_cons (mono_V _) (amF_cons (mono_V _) (amF_cons (mono_V _) (amF_cons (mono_V _) (amF_cons (mono_V _) (amF_cons (mono_V _) (amF_cons (mono_V _) (amF_cons (mono_V _) (amF_cons (mono_V _) (amF_cons (mono_V _) (amF_cons (mono_V _) (amF_cons (mono_V _) (amF_cons (mono_V _) (amF_cons (mono_V _) (amF_cons (mono_V _) (amF_cons (mono_V _) amF_nil)))))))))))))))))))))))))))) Z ?_ (fun f w_ H52 hS52 hE52 hT52 Z=>?_)
 refine opsS_cons (fun f w_ _ _ s _ _ Z=>fA 1 fa_62_1 ((s 4 rfl).trans rfl) rfl (nO rfl rfl Z)) (opsS_cons (fun f w_ _ _ _ _ p Z=>ldB 0 Z Tryd.isAgg3 (p 0 17 rfl rfl) rfl rfl (nO rfl rfl Z)) (opsS_cons ?_ ?_))
 intro f w_ H52 X52 hS52 hE52 hP52 Z
 obtain ⟨H133b,l134,s135,z136,k137⟩:=Z.borrow
 refine L_call rfl Tryd.call48 (ops1 (hP52 1 18 rfl rfl)) (s_l1Lit_c (n_:=x_8.lit) s135 hx29) ?_
 rintro _ w138 ⟨rfl,Z⟩
 have Z:=k137 Z c0
 exact L_nil ⟨rfl,_,_,rfl,Le.refl _,fun _ _=>rfl,Z⟩
 refine opsS_cons (fun f w_ _ _ _ _ p Z=>L_not_ rfl (p 2 19 rfl rfl) (nO rfl rfl Z)) (opsS_cons (fun f w_ _ _ _ _ p Z=>mF (p 3 20 rfl rfl) rfl (nO rfl rfl Z)) (oP (fun _ _ p=>gN (p 4 21 rfl rfl) hc56 rfl) (fun _=>rfl) (oP (fun _ _ p=>gN (p 4 21 rfl rfl) hc56 rfl) (fun _=>rfl) (oP (fun _ _ p=>gN (p 4 21 rfl rfl) hc56 rfl) (fun _=>rfl) (opsS_cons (fun f w_ _ _ _ _ p Z=>pkT (v:=Bo ((!x29) || (decide (x_8.coef < 1)))) (p 4 21 rfl rfl) hc56 rfl (or_t hc56) (nO rfl rfl Z)) (opsS_cons (fun f w_ _ _ _ _ p Z=>mF (p 8 25 rfl rfl) rfl (nO rfl rfl Z)) (opsS_cons (fun f w_ _ _ s _ p Z=>L_fa (o':=0) (g_yes rfl (Eq.trans (p 9 26 rfl rfl) (congrArg Value.bool hc57)) rfl) fa_62_0 ((s 4 rfl).trans rfl) rfl (nO rfl rfl Z)) (opsS_cons (fun f w_ _ _ _ _ p Z=>L_ld (v:=I x_8.coef) (g_yes rfl (Eq.trans (p 9 26 rfl rfl) (congrArg Value.bool hc57)) rfl) Tryd.isAgg3 (p 10 27 rfl rfl) (At.cell0 (Blk.at (Star.blkAt 0 Z rfl)) (j:=0) rfl) (nO rfl rfl Z)) (opsS_cons (fun f w_ _ _ _ _ p Z=>L_gtr (g_yes rfl (Eq.trans (p 9 26 rfl rfl) (congrArg Value.bool hc57)) rfl) (p 11 28 rfl rfl) rfl (nO rfl rfl Z)) (opsS_cons (fun f w_ _ _ _ _ p Z=>pkT (v:=Bo (((!x29) || (decide (x_8.coef < 1))) || (decide (x_8.coef > 1000)))) (p 9 26 rfl rfl) hc57 rfl (or_f hc57 (p 12 29 rfl rfl)) (nO rfl rfl Z)) (opsS_cons (fun f w_ _ _ _ _ p Z=>mF (p 13 30 rfl rfl) rfl (nO rfl rfl Z)) (oP (fun _ _ p=>gN (p 14 31 rfl rfl) hc126 rfl) (fun _=>rfl) (oP (fun _ _ p=>gN (p 14 31 rfl rfl) hc126 rfl) (fun _=>rfl) (oP (fun _ _ p=>gN (p 14 31 rfl rfl) hc126 rfl) (fun _=>rfl) (oP (fun _ _ p=>g_undef rfl (p 17 34 rfl rfl) rfl) (fun _=>rfl) (oP (fun _ _ p=>g_undef rfl (p 17 34 rfl rfl) rfl) (fun _=>rfl) (oP (fun _ _ p=>g_undef rfl (p 17 34 rfl rfl) rfl) (fun _=>rfl) (oP (fun _ _ p=>g_undef rfl (p 17 34 rfl rfl) rfl) (fun _=>rfl) (oP (fun _ _ p=>g_undef rfl (p 17 34 rfl rfl) rfl) (fun _=>rfl) (oP (fun _ _ p=>g_undef rfl (p 17 34 rfl rfl) rfl) (fun _=>rfl) (oP (fun _ _ p=>g_undef rfl (p 17 34 rfl rfl) rfl) (fun _=>rfl) (oP (fun _ _ p=>g_undef rfl (p 17 34 rfl rfl) rfl) (fun _=>rfl) (oP (fun _ _ p=>g_undef rfl (p 17 34 rfl rfl) rfl) (fun _=>rfl) (oP (fun _ _ p=>g_undef rfl (p 17 34 rfl rfl) rfl) (fun _=>rfl) (opsS_nil)))))))))))))))))))))))))
 refine ps (g_undef rfl (hT52 17 34 rfl rfl) rfl) (ps (g_undef rfl (hT52 17 34 rfl rfl) rfl) (ps (g_no rfl (Eq.trans (hT52 14 31 rfl rfl) (congrArg Value.bool hc126)) rfl rfl) (L_pick (v:=Bo b51) rfl (Eq.trans (hT52 14 31 rfl rfl) (congrArg Value.bool hc126)) (congrArg Value.bool (so hb51)) (nn ?_))))
 have Z:=Z.get 1 rfl
 exact rj hR55 ⟨H52,hE52,((hS52 1 rfl).trans sf1),((hS52 3 rfl).trans sf3),rfl,(Star.keepN 1 Z)⟩
 rw [ite_f hc126] at hb51
 obtain ⟨b50,hb50,hb51⟩:=bind_some hb51
 rcases Bool.eq_false_or_eq_true (decide ((i_5 : Int) > 0)) with hc139 | hc139
 rw [ite_t hc139] at hb50
 obtain ⟨x31,hx31,hb50⟩:=bind_some hb50
 obtain ⟨x41,hx41,hb50⟩:=bind_some hb50
 obtain ⟨x48,hx48,hb50⟩:=bind_some hb50
 refine W_drawS 28 [isV (Pq g21 1),isV (I x_8.lit),isV (Bo x29),isV (Bo (!x29)),isV (Bo (!x29)),isV (undef),isV (undef),isV (undef),isV (Bo ((!x29) || (decide (x_8.coef < 1)))),isV (Bo ((!x29) || (decide (x_8.coef < 1)))),isV (Pt g21),isV (I x_8.coef),isV (Bo (decide (x_8.coef > 1000))),isV (Bo (((!x29) || (decide (x_8.coef < 1))) || (decide (x_8.coef > 1000)))),isV (Bo (((!x29) || (decide (x_8.coef < 1))) || (decide (x_8.coef > 1000)))),isV (I i_5),isV (Bo (decide ((i_5 : Int) > 0))),isV (Bo (decide ((i_5 : Int) > 0))),isV (Pt g3),isV (v0_0),isV (I i_5),isV (I (i64 ((i_5 : Int) - 1))),isEl rTerm x31 0,isEl rTerm x31 1,isV (I x31.lit),isV (I x41),isV (Pq g21 1),isV (I x_8.lit)] [box g21 62 #[I x_8.coef,I x_8.lit],box g3 29 #[v0_0,I c.bound]] [] ([]) [([],[]),([],[]),([],[]),([],[]),([],[]),([],[]),([],[]),([],[]),([],[]),([],[]),([],[]),([],[]),([],[]),([],[]),([],[]),([],[]),([],[]),([],[]),([],[]),([],[]),([],[]),([],[]),([],[]),([],[]),([],[]),([],[]),([],[]),([],[])] (S:=[]) Tryd_mix (by kernel_rfl) rfl (by kernel_rfl) (amF_cons (mono_V _) (amF_cons (mono_V _) (amF_cons (mono_V _) (amF_cons (mono_V _) (amF_cons (mono_V _) (amF_cons (mono_V _) (amF_cons (mono_V _) (amF_cons (mono_V _) (amF_cons (mono_V _) (amF_cons (mono_V _) (amF_cons (mono_V _) (amF_cons (mono_V _) (amF_cons (mono_V _) (amF_cons (mono_V _) (amF_cons (mono_V _) (amF_cons (mono_V _) (amF_cons (mono_V _) (amF_cons (mono_V _) (amF_cons (mono_V _) (amF_cons (mono_V _) (amF_cons (mono_V _) (amF_cons (mono_V _) (amF_cons (mono_el _ _ _) (amF_cons (mono_el _ _ _) (amF_cons (mono_V _) (amF_cons (mono_V _) (amF_cons (mono_V _) (amF_cons (mono_V _) amF_nil)))))))))))))))))))))))))))) Z ?_ (fun f w_ H52 hS52 hE52 hT52 Z=>?_)
 refine opsS_cons (fun f w_ _ _ s _ _ Z=>fA 1 fa_62_1 ((s 4 rfl).trans rfl) rfl (nO rfl rfl Z)) (opsS_cons (fun f w_ _ _ _ _ p Z=>ldB 0 Z Tryd.isAgg3 (p 0 17 rfl rfl) rfl rfl (nO rfl rfl Z)) (opsS_cons ?_ ?_))
 intro f w_ H52 X52 hS52 hE52 hP52 Z
 obtain ⟨H156b,l157,s158,z159,k160⟩:=Z.borrow
 refine L_call rfl Tryd.call48 (ops1 (hP52 1 18 rfl rfl)) (s_l1Lit_c (n_:=x_8.lit) s158 hx29) ?_
 rintro _ w161 ⟨rfl,Z⟩
 have Z:=k160 Z c0
 exact L_nil ⟨rfl,_,_,rfl,Le.refl _,fun _ _=>rfl,Z⟩
 refine opsS_cons (fun f w_ _ _ _ _ p Z=>L_not_ rfl (p 2 19 rfl rfl) (nO rfl rfl Z)) (opsS_cons (fun f w_ _ _ _ _ p Z=>mF (p 3 20 rfl rfl) rfl (nO rfl rfl Z)) (oP (fun _ _ p=>gN (p 4 21 rfl rfl) hc56 rfl) (fun _=>rfl) (oP (fun _ _ p=>gN (p 4 21 rfl rfl) hc56 rfl) (fun _=>rfl) (oP (fun _ _ p=>gN (p 4 21 rfl rfl) hc56 rfl) (fun _=>rfl) (opsS_cons (fun f w_ _ _ _ _ p Z=>pkT (v:=Bo ((!x29) || (decide (x_8.coef < 1)))) (p 4 21 rfl rfl) hc56 rfl (or_t hc56) (nO rfl rfl Z)) (opsS_cons (fun f w_ _ _ _ _ p Z=>mF (p 8 25 rfl rfl) rfl (nO rfl rfl Z)) (opsS_cons (fun f w_ _ _ s _ p Z=>L_fa (o':=0) (g_yes rfl (Eq.trans (p 9 26 rfl rfl) (congrArg Value.bool hc57)) rfl) fa_62_0 ((s 4 rfl).trans rfl) rfl (nO rfl rfl Z)) (opsS_cons (fun f w_ _ _ _ _ p Z=>L_ld (v:=I x_8.coef) (g_yes rfl (Eq.trans (p 9 26 rfl rfl) (congrArg Value.bool hc57)) rfl) Tryd.isAgg3 (p 10 27 rfl rfl) (At.cell0 (Blk.at (Star.blkAt 0 Z rfl)) (j:=0) rfl) (nO rfl rfl Z)) (opsS_cons (fun f w_ _ _ _ _ p Z=>L_gtr (g_yes rfl (Eq.trans (p 9 26 rfl rfl) (congrArg Value.bool hc57)) rfl) (p 11 28 rfl rfl) rfl (nO rfl rfl Z)) (opsS_cons (fun f w_ _ _ _ _ p Z=>pkT (v:=Bo (((!x29) || (decide (x_8.coef < 1))) || (decide (x_8.coef > 1000)))) (p 9 26 rfl rfl) hc57 rfl (or_f hc57 (p 12 29 rfl rfl)) (nO rfl rfl Z)) (opsS_cons (fun f w_ _ _ _ _ p Z=>mF (p 13 30 rfl rfl) rfl (nO rfl rfl Z)) (opsS_cons (fun f w_ _ _ s _ p Z=>L_mv (v:=I i_5) (g_yes rfl (Eq.trans (p 14 31 rfl rfl) (congrArg Value.bool hc126)) rfl) ((s 3 rfl).trans sf3) (nO rfl rfl Z)) (opsS_cons (fun f w_ _ _ _ _ p Z=>L_gtr (g_yes rfl (Eq.trans (p 14 31 rfl rfl) (congrArg Value.bool hc126)) rfl) (p 15 32 rfl rfl) rfl (nO rfl rfl Z)) (opsS_cons (fun f w_ _ _ _ _ p Z=>L_mv (v:=Bo (decide ((i_5 : Int) > 0))) (g_yes rfl (Eq.trans (p 14 31 rfl rfl) (congrArg Value.bool hc126)) rfl) (p 16 33 rfl rfl) (nO rfl rfl Z)) (opsS_cons (fun f w_ _ _ s _ p Z=>L_fa (o':=0) (g_yes rfl (Eq.trans (p 17 34 rfl rfl) (congrArg Value.bool hc139)) rfl) fa_29_0 ((s 1 rfl).trans sf1) rfl (nO rfl rfl Z)) (opsS_cons (fun f w_ _ _ _ _ p Z=>L_ld (v:=v0_0) (g_yes rfl (Eq.trans (p 17 34 rfl rfl) (congrArg Value.bool hc139)) rfl) Tryd.isAgg27 (p 18 35 rfl rfl) (At.cell0 (Blk.at (Star.blkAt 1 Z rfl)) (j:=0) rfl) (nO rfl rfl Z)) (opsS_cons (fun f w_ _ _ s _ p Z=>L_mv (v:=I i_5) (g_yes rfl (Eq.trans (p 17 34 rfl rfl) (congrArg Value.bool hc139)) rfl) ((s 3 rfl).trans sf3) (nO rfl rfl Z)) (opsS_cons (fun f w_ _ _ _ _ p Z=>L_sub (g_yes rfl (Eq.trans (p 17 34 rfl rfl) (congrArg Value.bool hc139)) rfl) (p 20 37 rfl rfl) rfl (nO rfl rfl Z)) (opsS_cons ?_ ?_)))))))))))))))))))
 intro f w_ H52 X52 hS52 hE52 hP52 Z
 refine L_ix (r:=rTerm) (g_yes rfl (Eq.trans (hP52 17 34 rfl rfl) (congrArg Value.bool hc139)) rfl) Tryd.underlying27 Tryd.sizeOf62 (hP52 19 36 rfl rfl) (RP.mono _ h0_0 (Le.trans l7 hE52)) (hP52 21 38 rfl rfl) hx31 (fun g162 o163 cs_g162 hrk_hat164 hat164=>?_)
 obtain rfl:=rTerm_iff.1 hrk_hat164
 exact L_nil ⟨rfl,_,_,rfl,Le.refl _,fun _ _=>⟨_,_,_,rfl,hrk_hat164,hat164⟩,Z⟩
 refine opsS_cons ?_ ?_
 intro f w_ H52 X52 hS52 hE52 hP52 Z
 obtain ⟨g166,o166,cs166,hv166,hrk_hat166,hat166⟩:=(hP52 22 39 rfl rfl)
 obtain rfl:=rTerm_iff.1 hrk_hat166
 refine L_fa (o':=o166 + 1) (g_yes rfl (Eq.trans (hP52 17 34 rfl rfl) (congrArg Value.bool hc139)) rfl) fa_62_1 hv166 rfl (L_nil ⟨rfl,_,_,rfl,Le.refl _,fun _ _=>⟨_,_,_,rfl,hrk_hat166,hat166⟩,Z⟩)
 refine opsS_cons ?_ ?_
 intro f w_ H52 X52 hS52 hE52 hP52 Z
 obtain ⟨g168,o168,cs168,hv168,hrk_hat168,hat168⟩:=(hP52 23 40 rfl rfl)
 obtain rfl:=rTerm_iff.1 hrk_hat168
 refine L_ld (v:=I x31.lit) (g_yes rfl (Eq.trans (hP52 17 34 rfl rfl) (congrArg Value.bool hc139)) rfl) Tryd.isAgg3 hv168 (At.cell (AtH.at hat168 Z.sub) (j:=1) rfl) (L_nil ⟨rfl,_,_,rfl,Le.refl _,fun _ _=>rfl,Z⟩)
 refine opsS_cons ?_ ?_
 intro f w_ H52 X52 hS52 hE52 hP52 Z
 obtain ⟨H170b,l171,s172,z173,k174⟩:=Z.borrow
 refine L_call (g_yes rfl (Eq.trans (hP52 17 34 rfl rfl) (congrArg Value.bool hc139)) rfl) Tryd.call49 (ops1 (hP52 24 41 rfl rfl)) (s_l1Abs_c (n_:=x31.lit) s172 hx41) ?_
 rintro _ w175 ⟨rfl,Z⟩
 have Z:=k174 Z c0
 exact L_nil ⟨rfl,_,_,rfl,Le.refl _,fun _ _=>rfl,Z⟩
 refine opsS_cons (fun f w_ _ _ s _ p Z=>L_fa (o':=1) (g_yes rfl (Eq.trans (p 17 34 rfl rfl) (congrArg Value.bool hc139)) rfl) fa_62_1 ((s 4 rfl).trans rfl) rfl (nO rfl rfl Z)) (opsS_cons (fun f w_ _ _ _ _ p Z=>L_ld (v:=I x_8.lit) (g_yes rfl (Eq.trans (p 17 34 rfl rfl) (congrArg Value.bool hc139)) rfl) Tryd.isAgg3 (p 26 43 rfl rfl) (At.cell0 (Blk.at (Star.blkAt 0 Z rfl)) (j:=1) rfl) (nO rfl rfl Z)) (opsS_nil))
 obtain ⟨H176b,l177,s178,z179,k180⟩:=Z.borrow
 refine L_call (g_yes rfl (Eq.trans (hT52 17 34 rfl rfl) (congrArg Value.bool hc139)) rfl) Tryd.call49 (ops1 (hT52 27 44 rfl rfl)) (s_l1Abs_c (n_:=x_8.lit) s178 hx48) ?_
 rintro _ w181 ⟨rfl,Z⟩
 have Z:=k180 Z c0
 refine L_geq (g_yes rfl (Eq.trans (hT52 17 34 rfl rfl) (congrArg Value.bool hc139)) rfl) (hT52 25 42 rfl rfl) rfl (L_pick (v:=Bo b50) (g_yes rfl (Eq.trans (hT52 14 31 rfl rfl) (congrArg Value.bool hc126)) rfl) (Eq.trans (hT52 17 34 rfl rfl) (congrArg Value.bool hc139)) (congrArg Value.bool (so hb50)) (L_pick (v:=Bo b51) rfl (Eq.trans (hT52 14 31 rfl rfl) (congrArg Value.bool hc126)) (congrArg Value.bool (so hb51)) (nn ?_)))
 have Z:=Z.get 1 rfl
 exact rj hR55 ⟨H52,hE52,((hS52 1 rfl).trans sf1),((hS52 3 rfl).trans sf3),rfl,(Star.keepN 1 Z)⟩
 rw [ite_f hc139] at hb50
 refine W_drawS 28 [isV (Pq g21 1),isV (I x_8.lit),isV (Bo x29),isV (Bo (!x29)),isV (Bo (!x29)),isV (undef),isV (undef),isV (undef),isV (Bo ((!x29) || (decide (x_8.coef < 1)))),isV (Bo ((!x29) || (decide (x_8.coef < 1)))),isV (Pt g21),isV (I x_8.coef),isV (Bo (decide (x_8.coef > 1000))),isV (Bo (((!x29) || (decide (x_8.coef < 1))) || (decide (x_8.coef > 1000)))),isV (Bo (((!x29) || (decide (x_8.coef < 1))) || (decide (x_8.coef > 1000)))),isV (I i_5),isV (Bo (decide ((i_5 : Int) > 0))),isV (Bo (decide ((i_5 : Int) > 0))),isV (undef),isV (undef),isV (undef),isV (undef),isV (undef),isV (undef),isV (undef),isV (undef),isV (undef),isV (undef)] [box g21 62 #[I x_8.coef,I x_8.lit],box g3 29 #[v0_0,I c.bound]] [] ([]) [([],[]),([],[]),([],[]),([],[]),([],[]),([],[]),([],[]),([],[]),([],[]),([],[]),([],[]),([],[]),([],[]),([],[]),([],[]),([],[]),([],[]),([],[]),([],[]),([],[]),([],[]),([],[]),([],[]),([],[]),([],[]),([],[]),([],[]),([],[])] (S:=[]) Tryd_mix (by kernel_rfl) rfl (by kernel_rfl) (amF_cons (mono_V _) (amF_cons (mono_V _) (amF_cons (mono_V _) (amF_cons (mono_V _) (amF_cons (mono_V _) (amF_cons (mono_V _) (amF_cons (mono_V _) (amF_cons (mono_V _) (amF_cons (mono_V _) (amF_cons (mono_V _) (amF_cons (mono_V _) (amF_cons (mono_V _) (amF_cons (mono_V _) (amF_cons (mono_V _) (amF_cons (mono_V _) (amF_cons (mono_V _) (amF_cons (mono_V _) (amF_cons (mono_V _) (amF_cons (mono_V _) (amF_cons (mono_V _) (amF_cons (mono_V _) (amF_cons (mono_V _) (amF_cons (mono_V _) (amF_cons (mono_V _) (amF_cons (mono_V _) (amF_cons (mono_V _) (amF_cons (mono_V _) (amF_cons (mono_V _) amF_nil)))))))))))))))))))))))))))) Z ?_ (fun f w_ H52 hS52 hE52 hT52 Z=>?_)
 refine opsS_cons (fun f w_ _ _ s _ _ Z=>fA 1 fa_62_1 ((s 4 rfl).trans rfl) rfl (nO rfl rfl Z)) (opsS_cons (fun f w_ _ _ _ _ p Z=>ldB 0 Z Tryd.isAgg3 (p 0 17 rfl rfl) rfl rfl (nO rfl rfl Z)) (opsS_cons ?_ ?_))
 intro f w_ H52 X52 hS52 hE52 hP52 Z
 obtain ⟨H188b,l189,s190,z191,k192⟩:=Z.borrow
 refine L_call rfl Tryd.call48 (ops1 (hP52 1 18 rfl rfl)) (s_l1Lit_c (n_:=x_8.lit) s190 hx29) ?_
 rintro _ w193 ⟨rfl,Z⟩
 have Z:=k192 Z c0
 exact L_nil ⟨rfl,_,_,rfl,Le.refl _,fun _ _=>rfl,Z⟩
 refine opsS_cons (fun f w_ _ _ _ _ p Z=>L_not_ rfl (p 2 19 rfl rfl) (nO rfl rfl Z)) (opsS_cons (fun f w_ _ _ _ _ p Z=>mF (p 3 20 rfl rfl) rfl (nO rfl rfl Z)) (oP (fun _ _ p=>gN (p 4 21 rfl rfl) hc56 rfl) (fun _=>rfl) (oP (fun _ _ p=>gN (p 4 21 rfl rfl) hc56 rfl) (fun _=>rfl) (oP (fun _ _ p=>gN (p 4 21 rfl rfl) hc56 rfl) (fun _=>rfl) (opsS_cons (fun f w_ _ _ _ _ p Z=>pkT (v:=Bo ((!x29) || (decide (x_8.coef < 1)))) (p 4 21 rfl rfl) hc56 rfl (or_t hc56) (nO rfl rfl Z)) (opsS_cons (fun f w_ _ _ _ _ p Z=>mF (p 8 25 rfl rfl) rfl (nO rfl rfl Z)) (opsS_cons (fun f w_ _ _ s _ p Z=>L_fa (o':=0) (g_yes rfl (Eq.trans (p 9 26 rfl rfl) (congrArg Value.bool hc57)) rfl) fa_62_0 ((s 4 rfl).trans rfl) rfl (nO rfl rfl Z)) (opsS_cons (fun f w_ _ _ _ _ p Z=>L_ld (v:=I x_8.coef) (g_yes rfl (Eq.trans (p 9 26 rfl rfl) (congrArg Value.bool hc57)) rfl) Tryd.isAgg3 (p 10 27 rfl rfl) (At.cell0 (Blk.at (Star.blkAt 0 Z rfl)) (j:=0) rfl) (nO rfl rfl Z)) (opsS_cons (fun f w_ _ _ _ _ p Z=>L_gtr (g_yes rfl (Eq.trans (p 9 26 rfl rfl) (congrArg Value.bool hc57)) rfl) (p 11 28 rfl rfl) rfl (nO rfl rfl Z)) (opsS_cons (fun f w_ _ _ _ _ p Z=>pkT (v:=Bo (((!x29) || (decide (x_8.coef < 1))) || (decide (x_8.coef > 1000)))) (p 9 26 rfl rfl) hc57 rfl (or_f hc57 (p 12 29 rfl rfl)) (nO rfl rfl Z)) (opsS_cons (fun f w_ _ _ _ _ p Z=>mF (p 13 30 rfl rfl) rfl (nO rfl rfl Z)) (opsS_cons (fun f w_ _ _ s _ p Z=>L_mv (v:=I i_5) (g_yes rfl (Eq.trans (p 14 31 rfl rfl) (congrArg Value.bool hc126)) rfl) ((s 3 rfl).trans sf3) (nO rfl rfl Z)) (opsS_cons (fun f w_ _ _ _ _ p Z=>L_gtr (g_yes rfl (Eq.trans (p 14 31 rfl rfl) (congrArg Value.bool hc126)) rfl) (p 15 32 rfl rfl) rfl (nO rfl rfl Z)) (opsS_cons (fun f w_ _ _ _ _ p Z=>L_mv (v:=Bo (decide ((i_5 : Int) > 0))) (g_yes rfl (Eq.trans (p 14 31 rfl rfl) (congrArg Value.bool hc126)) rfl) (p 16 33 rfl rfl) (nO rfl rfl Z)) (oP (fun _ _ p=>gN (p 17 34 rfl rfl) hc139 rfl) (fun _=>rfl) (oP (fun _ _ p=>gN (p 17 34 rfl rfl) hc139 rfl) (fun _=>rfl) (oP (fun _ _ p=>gN (p 17 34 rfl rfl) hc139 rfl) (fun _=>rfl) (oP (fun _ _ p=>gN (p 17 34 rfl rfl) hc139 rfl) (fun _=>rfl) (oP (fun _ _ p=>gN (p 17 34 rfl rfl) hc139 rfl) (fun _=>rfl) (oP (fun _ _ p=>gN (p 17 34 rfl rfl) hc139 rfl) (fun _=>rfl) (oP (fun _ _ p=>gN (p 17 34 rfl rfl) hc139 rfl) (fun _=>rfl) (oP (fun _ _ p=>gN (p 17 34 rfl rfl) hc139 rfl) (fun _=>rfl) (oP (fun _ _ p=>gN (p 17 34 rfl rfl) hc139 rfl) (fun _=>rfl) (oP (fun _ _ p=>gN (p 17 34 rfl rfl) hc139 rfl) (fun _=>rfl) (opsS_nil)))))))))))))))))))))))))
 refine ps (g_no rfl (Eq.trans (hT52 17 34 rfl rfl) (congrArg Value.bool hc139)) rfl rfl) (ps (g_no rfl (Eq.trans (hT52 17 34 rfl rfl) (congrArg Value.bool hc139)) rfl rfl) (L_pick (v:=Bo b50) (g_yes rfl (Eq.trans (hT52 14 31 rfl rfl) (congrArg Value.bool hc126)) rfl) (Eq.trans (hT52 17 34 rfl rfl) (congrArg Value.bool hc139)) (congrArg Value.bool (so hb50)) (L_pick (v:=Bo b51) rfl (Eq.trans (hT52 14 31 rfl rfl) (congrArg Value.bool hc126)) (congrArg Value.bool (so hb51)) (nn ?_))))
 have Z:=Z.get 1 rfl
 exact rj hR55 ⟨H52,hE52,((hS52 1 rfl).trans sf1),((hS52 3 rfl).trans sf3),rfl,(Star.keepN 1 Z)⟩
 rcases Bool.eq_false_or_eq_true ((!x29) || (decide (x_8.coef < 1))) with hc194 | hc194
 rcases Bool.eq_false_or_eq_true (((!x29) || (decide (x_8.coef < 1))) || (decide (x_8.coef > 1000))) with hc195 | hc195
 rw [ite_t hc195] at hb51
 refine W_drawS 28 [isV (Pq g21 1),isV (I x_8.lit),isV (Bo x29),isV (Bo (!x29)),isV (Bo (!x29)),isV (Pt g21),isV (I x_8.coef),isV (Bo (decide (x_8.coef < 1))),isV (Bo ((!x29) || (decide (x_8.coef < 1)))),isV (Bo ((!x29) || (decide (x_8.coef < 1)))),isV (undef),isV (undef),isV (undef),isV (Bo (((!x29) || (decide (x_8.coef < 1))) || (decide (x_8.coef > 1000)))),isV (Bo (((!x29) || (decide (x_8.coef < 1))) || (decide (x_8.coef > 1000)))),isV (undef),isV (undef),isV (undef),isV (undef),isV (undef),isV (undef),isV (undef),isV (undef),isV (undef),isV (undef),isV (undef),isV (undef),isV (undef)] [box g21 62 #[I x_8.coef,I x_8.lit],box g3 29 #[v0_0,I c.bound]] [] ([]) [([],[]),([],[]),([],[]),([],[]),([],[]),([],[]),([],[]),([],[]),([],[]),([],[]),([],[]),([],[]),([],[]),([],[]),([],[]),([],[]),([],[]),([],[]),([],[]),([],[]),([],[]),([],[]),([],[]),([],[]),([],[]),([],[]),([],[]),([],[])] (S:=[]) Tryd_mix (by kernel_rfl) rfl (by kernel_rfl) (amF_cons (mono_V _) (amF_cons (mono_V _) (amF_cons (mono_V _) (amF_cons (mono_V _) (amF_cons (mono_V _) (amF_cons (mono_V _) (amF_cons (mono_V _) (amF_cons (mono_V _) (amF_cons (mono_V _) (amF_cons (mono_V _) (amF_cons (mono_V _) (amF_cons (mono_V _) (amF_cons (mono_V _) (amF_cons (mono_V _) (amF_cons (mono_V _) (amF_cons (mono_V _) (amF_cons (mono_V _) (amF_cons (mono_V _) (amF_cons (mono_V _) (amF_cons (mono_V _) (amF_cons (mono_V _) (amF_cons (mono_V _) (amF_cons (mono_V _) (amF_cons (mono_V _) (amF_cons (mono_V _) (amF_cons (mono_V _) (amF_cons (mono_V _) (amF_cons (mono_V _) amF_nil)))))))))))))))))))))))))))) Z ?_ (fun f w_ H52 hS52 hE52 hT52 Z=>?_)
 refine opsS_cons (fun f w_ _ _ s _ _ Z=>fA 1 fa_62_1 ((s 4 rfl).trans rfl) rfl (nO rfl rfl Z)) (opsS_cons (fun f w_ _ _ _ _ p Z=>ldB 0 Z Tryd.isAgg3 (p 0 17 rfl rfl) rfl rfl (nO rfl rfl Z)) (opsS_cons ?_ ?_))
 intro f w_ H52 X52 hS52 hE52 hP52 Z
 obtain ⟨H202b,l203,s204,z205,k206⟩:=Z.borrow
 refine L_call rfl Tryd.call48 (ops1 (hP52 1 18 rfl rfl)) (s_l1Lit_c (n_:=x_8.lit) s204 hx29) ?_
 rintro _ w207 ⟨rfl,Z⟩
 have Z:=k206 Z c0
 exact L_nil ⟨rfl,_,_,rfl,Le.refl _,fun _ _=>rfl,Z⟩
 refine opsS_cons (fun f w_ _ _ _ _ p Z=>L_not_ rfl (p 2 19 rfl rfl) (nO rfl rfl Z)) (opsS_cons (fun f w_ _ _ _ _ p Z=>mF (p 3 20 rfl rfl) rfl (nO rfl rfl Z)) (opsS_cons (fun f w_ _ _ s _ p Z=>L_fa (o':=0) (g_yes rfl (Eq.trans (p 4 21 rfl rfl) (congrArg Value.bool hc56)) rfl) fa_62_0 ((s 4 rfl).trans rfl) rfl (nO rfl rfl Z)) (opsS_cons (fun f w_ _ _ _ _ p Z=>L_ld (v:=I x_8.coef) (g_yes rfl (Eq.trans (p 4 21 rfl rfl) (congrArg Value.bool hc56)) rfl) Tryd.isAgg3 (p 5 22 rfl rfl) (At.cell0 (Blk.at (Star.blkAt 0 Z rfl)) (j:=0) rfl) (nO rfl rfl Z)) (opsS_cons (fun f w_ _ _ _ _ p Z=>L_lss (g_yes rfl (Eq.trans (p 4 21 rfl rfl) (congrArg Value.bool hc56)) rfl) (p 6 23 rfl rfl) rfl (nO rfl rfl Z)) (opsS_cons (fun f w_ _ _ _ _ p Z=>pkT (v:=Bo ((!x29) || (decide (x_8.coef < 1)))) (p 4 21 rfl rfl) hc56 rfl (or_f hc56 (p 7 24 rfl rfl)) (nO rfl rfl Z)) (opsS_cons (fun f w_ _ _ _ _ p Z=>mF (p 8 25 rfl rfl) rfl (nO rfl rfl Z)) (oP (fun _ _ p=>gN (p 9 26 rfl rfl) hc194 rfl) (fun _=>rfl) (oP (fun _ _ p=>gN (p 9 26 rfl rfl) hc194 rfl) (fun _=>rfl) (oP (fun _ _ p=>gN (p 9 26 rfl rfl) hc194 rfl) (fun _=>rfl) (opsS_cons (fun f w_ _ _ _ _ p Z=>pkT (v:=Bo (((!x29) || (decide (x_8.coef < 1))) || (decide (x_8.coef > 1000)))) (p 9 26 rfl rfl) hc194 rfl (or_t hc194) (nO rfl rfl Z)) (opsS_cons (fun f w_ _ _ _ _ p Z=>mF (p 13 30 rfl rfl) rfl (nO rfl rfl Z)) (oP (fun _ _ p=>gN (p 14 31 rfl rfl) hc195 rfl) (fun _=>rfl) (oP (fun _ _ p=>gN (p 14 31 rfl rfl) hc195 rfl) (fun _=>rfl) (oP (fun _ _ p=>gN (p 14 31 rfl rfl) hc195 rfl) (fun _=>rfl) (oP (fun _ _ p=>g_undef rfl (p 17 34 rfl rfl) rfl) (fun _=>rfl) (oP (fun _ _ p=>g_undef rfl (p 17 34 rfl rfl) rfl) (fun _=>rfl) (oP (fun _ _ p=>g_undef rfl (p 17 34 rfl rfl) rfl) (fun _=>rfl) (oP (fun _ _ p=>g_undef rfl (p 17 34 rfl rfl) rfl) (fun _=>rfl) (oP (fun _ _ p=>g_undef rfl (p 17 34 rfl rfl) rfl) (fun _=>rfl) (oP (fun _ _ p=>g_undef rfl (p 17 34 rfl rfl) rfl) (fun _=>rfl) (oP (fun _ _ p=>g_undef rfl (p 17 34 rfl rfl) rfl) (fun _=>rfl) (oP (fun _ _ p=>g_undef rfl (p 17 34 rfl rfl) rfl) (fun _=>rfl) (oP (fun _ _ p=>g_undef rfl (p 17 34 rfl rfl) rfl) (fun _=>rfl) (oP (fun _ _ p=>g_undef rfl (p 17 34 rfl rfl) rfl) (fun _=>rfl) (opsS_nil)))))))))))))))))))))))))
 refine ps (g_undef rfl (hT52 17 34 rfl rfl) rfl) (ps (g_undef rfl (hT52 17 34 rfl rfl) rfl) (ps (g_no rfl (Eq.trans (hT52 14 31 rfl rfl) (congrArg Value.bool hc195)) rfl rfl) (L_pick (v:=Bo b51) rfl (Eq.trans (hT52 14 31 rfl rfl) (congrArg Value.bool hc195)) (congrArg Value.bool (so hb51)) (nn ?_))))
 have Z:=Z.get 1 rfl
 exact rj hR55 ⟨H52,hE52,((hS52 1 rfl).trans sf1),((hS52 3 rfl).trans sf3),rfl,(Star.keepN 1 Z)⟩
 rw [ite_f hc195] at hb51
 obtain ⟨b50,hb50,hb51⟩:=bind_some hb51
 rcases Bool.eq_false_or_eq_true (decide ((i_5 : Int) > 0)) with hc208 | hc208
 rw [ite_t hc208] at hb50
 obtain ⟨x31,hx31,hb50⟩:=bind_some hb50
 obtain ⟨x41,hx41,hb50⟩:=bind_some hb50
 obtain ⟨x48,hx48,hb50⟩:=bind_some hb50
 refine W_drawS 28 [isV (Pq g21 1),isV (I x_8.lit),isV (Bo x29),isV (Bo (!x29)),isV (Bo (!x29)),isV (Pt g21),isV (I x_8.coef),isV (Bo (decide (x_8.coef < 1))),isV (Bo ((!x29) || (decide (x_8.coef < 1)))),isV (Bo ((!x29) || (decide (x_8.coef < 1)))),isV (undef),isV (undef),isV (undef),isV (Bo (((!x29) || (decide (x_8.coef < 1))) || (decide (x_8.coef > 1000)))),isV (Bo (((!x29) || (decide (x_8.coef < 1))) || (decide (x_8.coef > 1000)))),isV (I i_5),isV (Bo (decide ((i_5 : Int) > 0))),isV (Bo (decide ((i_5 : Int) > 0))),isV (Pt g3),isV (v0_0),isV (I i_5),isV (I (i64 ((i_5 : Int) - 1))),isEl rTerm x31 0,isEl rTerm x31 1,isV (I x31.lit),isV (I x41),isV (Pq g21 1),isV (I x_8.lit)] [box g21 62 #[I x_8.coef,I x_8.lit],box g3 29 #[v0_0,I c.bound]] [] ([]) [([],[]),([],[]),([],[]),([],[]),([],[]),([],[]),([],[]),([],[]),([],[]),([],[]),([],[]),([],[]),([],[]),([],[]),([],[]),([],[]),([],[]),([],[]),([],[]),([],[]),([],[]),([],[]),([],[]),([],[]),([],[]),([],[]),([],[]),([],[])] (S:=[]) Tryd_mix (by kernel_rfl) rfl (by kernel_rfl) (amF_cons (mono_V _) (amF_cons (mono_V _) (amF_cons (mono_V _) (amF_cons (mono_V _) (amF_cons (mono_V _) (amF_cons (mono_V _) (amF_cons (mono_V _) (amF_cons (mono_V _) (amF_cons (mono_V _) (amF_cons (mono_V _) (amF_cons (mono_V _) (amF_cons (mono_V _) (amF_cons (mono_V _) (amF_cons (mono_V _) (amF_cons (mono_V _) (amF_cons (mono_V _) (amF_cons (mono_V _) (amF_cons (mono_V _) (amF_cons (mono_V _) (amF_cons (mono_V _) (amF_cons (mono_V _) (amF_cons (mono_V _) (amF_cons (mono_el _ _ _) (amF_cons (mono_el _ _ _) (amF_cons (mono_V _) (amF_cons (mono_V _) (amF_cons (mono_V _) (amF_cons (mono_V _) amF_nil)))))))))))))))))))))))))))) Z ?_ (fun f w_ H52 hS52 hE52 hT52 Z=>?_)
 refine opsS_cons (fun f w_ _ _ s _ _ Z=>fA 1 fa_62_1 ((s 4 rfl).trans rfl) rfl (nO rfl rfl Z)) (opsS_cons (fun f w_ _ _ _ _ p Z=>ldB 0 Z Tryd.isAgg3 (p 0 17 rfl rfl) rfl rfl (nO rfl rfl Z)) (opsS_cons ?_ ?_))
 intro f w_ H52 X52 hS52 hE52 hP52 Z
 obtain ⟨H225b,l226,s227,z228,k229⟩:=Z.borrow
 refine L_call rfl Tryd.call48 (ops1 (hP52 1 18 rfl rfl)) (s_l1Lit_c (n_:=x_8.lit) s227 hx29) ?_
 rintro _ w230 ⟨rfl,Z⟩
 have Z:=k229 Z c0
 exact L_nil ⟨rfl,_,_,rfl,Le.refl _,fun _ _=>rfl,Z⟩
 refine opsS_cons (fun f w_ _ _ _ _ p Z=>L_not_ rfl (p 2 19 rfl rfl) (nO rfl rfl Z)) (opsS_cons (fun f w_ _ _ _ _ p Z=>mF (p 3 20 rfl rfl) rfl (nO rfl rfl Z)) (opsS_cons (fun f w_ _ _ s _ p Z=>L_fa (o':=0) (g_yes rfl (Eq.trans (p 4 21 rfl rfl) (congrArg Value.bool hc56)) rfl) fa_62_0 ((s 4 rfl).trans rfl) rfl (nO rfl rfl Z)) (opsS_cons (fun f w_ _ _ _ _ p Z=>L_ld (v:=I x_8.coef) (g_yes rfl (Eq.trans (p 4 21 rfl rfl) (congrArg Value.bool hc56)) rfl) Tryd.isAgg3 (p 5 22 rfl rfl) (At.cell0 (Blk.at (Star.blkAt 0 Z rfl)) (j:=0) rfl) (nO rfl rfl Z)) (opsS_cons (fun f w_ _ _ _ _ p Z=>L_lss (g_yes rfl (Eq.trans (p 4 21 rfl rfl) (congrArg Value.bool hc56)) rfl) (p 6 23 rfl rfl) rfl (nO rfl rfl Z)) (opsS_cons (fun f w_ _ _ _ _ p Z=>pkT (v:=Bo ((!x29) || (decide (x_8.coef < 1)))) (p 4 21 rfl rfl) hc56 rfl (or_f hc56 (p 7 24 rfl rfl)) (nO rfl rfl Z)) (opsS_cons (fun f w_ _ _ _ _ p Z=>mF (p 8 25 rfl rfl) rfl (nO rfl rfl Z)) (oP (fun _ _ p=>gN (p 9 26 rfl rfl) hc194 rfl) (fun _=>rfl) (oP (fun _ _ p=>gN (p 9 26 rfl rfl) hc194 rfl) (fun _=>rfl) (oP (fun _ _ p=>gN (p 9 26 rfl rfl) hc194 rfl) (fun _=>rfl) (opsS_cons (fun f w_ _ _ _ _ p Z=>pkT (v:=Bo (((!x29) || (decide (x_8.coef < 1))) || (decide (x_8.coef > 1000)))) (p 9 26 rfl rfl) hc194 rfl (or_t hc194) (nO rfl rfl Z)) (opsS_cons (fun f w_ _ _ _ _ p Z=>mF (p 13 30 rfl rfl) rfl (nO rfl rfl Z)) (opsS_cons (fun f w_ _ _ s _ p Z=>L_mv (v:=I i_5) (g_yes rfl (Eq.trans (p 14 31 rfl rfl) (congrArg Value.bool hc195)) rfl) ((s 3 rfl).trans sf3) (nO rfl rfl Z)) (opsS_cons (fun f w_ _ _ _ _ p Z=>L_gtr (g_yes rfl (Eq.trans (p 14 31 rfl rfl) (congrArg Value.bool hc195)) rfl) (p 15 32 rfl rfl) rfl (nO rfl rfl Z)) (opsS_cons (fun f w_ _ _ _ _ p Z=>L_mv (v:=Bo (decide ((i_5 : Int) > 0))) (g_yes rfl (Eq.trans (p 14 31 rfl rfl) (congrArg Value.bool hc195)) rfl) (p 16 33 rfl rfl) (nO rfl rfl Z)) (opsS_cons (fun f w_ _ _ s _ p Z=>L_fa (o':=0) (g_yes rfl (Eq.trans (p 17 34 rfl rfl) (congrArg Value.bool hc208)) rfl) fa_29_0 ((s 1 rfl).trans sf1) rfl (nO rfl rfl Z)) (opsS_cons (fun f w_ _ _ _ _ p Z=>L_ld (v:=v0_0) (g_yes rfl (Eq.trans (p 17 34 rfl rfl) (congrArg Value.bool hc208)) rfl) Tryd.isAgg27 (p 18 35 rfl rfl) (At.cell0 (Blk.at (Star.blkAt 1 Z rfl)) (j:=0) rfl) (nO rfl rfl Z)) (opsS_cons (fun f w_ _ _ s _ p Z=>L_mv (v:=I i_5) (g_yes rfl (Eq.trans (p 17 34 rfl rfl) (congrArg Value.bool hc208)) rfl) ((s 3 rfl).trans sf3) (nO rfl rfl Z)) (opsS_cons (fun f w_ _ _ _ _ p Z=>L_sub (g_yes rfl (Eq.trans (p 17 34 rfl rfl) (congrArg Value.bool hc208)) rfl) (p 20 37 rfl rfl) rfl (nO rfl rfl Z)) (opsS_cons ?_ ?_)))))))))))))))))))
 intro f w_ H52 X52 hS52 hE52 hP52 Z
 refine L_ix (r:=rTerm) (g_yes rfl (Eq.trans (hP52 17 34 rfl rfl) (congrArg Value.bool hc208)) rfl) Tryd.underlying27 Tryd.sizeOf62 (hP52 19 36 rfl rfl) (RP.mono _ h0_0 (Le.trans l7 hE52)) (hP52 21 38 rfl rfl) hx31 (fun g231 o232 cs_g231 hrk_hat233 hat233=>?_)
 obtain rfl:=rTerm_iff.1 hrk_hat233
 exact L_nil ⟨rfl,_,_,rfl,Le.refl _,fun _ _=>⟨_,_,_,rfl,hrk_hat233,hat233⟩,Z⟩
 refine opsS_cons ?_ ?_
 intro f w_ H52 X52 hS52 hE52 hP52 Z
 obtain ⟨g235,o235,cs235,hv235,hrk_hat235,hat235⟩:=(hP52 22 39 rfl rfl)
 obtain rfl:=rTerm_iff.1 hrk_hat235
 refine L_fa (o':=o235 + 1) (g_yes rfl (Eq.trans (hP52 17 34 rfl rfl) (congrArg Value.bool hc208)) rfl) fa_62_1 hv235 rfl (L_nil ⟨rfl,_,_,rfl,Le.refl _,fun _ _=>⟨_,_,_,rfl,hrk_hat235,hat235⟩,Z⟩)
 refine opsS_cons ?_ ?_
 intro f w_ H52 X52 hS52 hE52 hP52 Z
 obtain ⟨g237,o237,cs237,hv237,hrk_hat237,hat237⟩:=(hP52 23 40 rfl rfl)
 obtain rfl:=rTerm_iff.1 hrk_hat237
 refine L_ld (v:=I x31.lit) (g_yes rfl (Eq.trans (hP52 17 34 rfl rfl) (congrArg Value.bool hc208)) rfl) Tryd.isAgg3 hv237 (At.cell (AtH.at hat237 Z.sub) (j:=1) rfl) (L_nil ⟨rfl,_,_,rfl,Le.refl _,fun _ _=>rfl,Z⟩)
 refine opsS_cons ?_ ?_
 intro f w_ H52 X52 hS52 hE52 hP52 Z
 obtain ⟨H239b,l240,s241,z242,k243⟩:=Z.borrow
 refine L_call (g_yes rfl (Eq.trans (hP52 17 34 rfl rfl) (congrArg Value.bool hc208)) rfl) Tryd.call49 (ops1 (hP52 24 41 rfl rfl)) (s_l1Abs_c (n_:=x31.lit) s241 hx41) ?_
 rintro _ w244 ⟨rfl,Z⟩
 have Z:=k243 Z c0
 exact L_nil ⟨rfl,_,_,rfl,Le.refl _,fun _ _=>rfl,Z⟩
 refine opsS_cons (fun f w_ _ _ s _ p Z=>L_fa (o':=1) (g_yes rfl (Eq.trans (p 17 34 rfl rfl) (congrArg Value.bool hc208)) rfl) fa_62_1 ((s 4 rfl).trans rfl) rfl (nO rfl rfl Z)) (opsS_cons (fun f w_ _ _ _ _ p Z=>L_ld (v:=I x_8.lit) (g_yes rfl (Eq.trans (p 17 34 rfl rfl) (congrArg Value.bool hc208)) rfl) Tryd.isAgg3 (p 26 43 rfl rfl) (At.cell0 (Blk.at (Star.blkAt 0 Z rfl)) (j:=1) rfl) (nO rfl rfl Z)) (opsS_nil))
 obtain ⟨H245b,l246,s247,z248,k249⟩:=Z.borrow
 refine L_call (g_yes rfl (Eq.trans (hT52 17 34 rfl rfl) (congrArg Value.bool hc208)) rfl) Tryd.call49 (ops1 (hT52 27 44 rfl rfl)) (s_l1Abs_c (n_:=x_8.lit) s247 hx48) ?_
 rintro _ w250 ⟨rfl,Z⟩
 have Z:=k249 Z c0
 refine L_geq (g_yes rfl (Eq.trans (hT52 17 34 rfl rfl) (congrArg Value.bool hc208)) rfl) (hT52 25 42 rfl rfl) rfl (L_pick (v:=Bo b50) (g_yes rfl (Eq.trans (hT52 14 31 rfl rfl) (congrArg Value.bool hc195)) rfl) (Eq.trans (hT52 17 34 rfl rfl) (congrArg Value.bool hc208)) (congrArg Value.bool (so hb50)) (L_pick (v:=Bo b51) rfl (Eq.trans (hT52 14 31 rfl rfl) (congrArg Value.bool hc195)) (congrArg Value.bool (so hb51)) (nn ?_)))
 have Z:=Z.get 1 rfl
 exact rj hR55 ⟨H52,hE52,((hS52 1 rfl).trans sf1),((hS52 3 rfl).trans sf3),rfl,(Star.keepN 1 Z)⟩
 rw [ite_f hc208] at hb50
 refine W_drawS 28 [isV (Pq g21 1),isV (I x_8.lit),isV (Bo x29),isV (Bo (!x29)),isV (Bo (!x29)),isV (Pt g21),isV (I x_8.coef),isV (Bo (decide (x_8.coef < 1))),isV (Bo ((!x29) || (decide (x_8.coef < 1)))),isV (Bo ((!x29) || (decide (x_8.coef < 1)))),isV (undef),isV (undef),isV (undef),isV (Bo (((!x29) || (decide (x_8.coef < 1))) || (decide (x_8.coef > 1000)))),isV (Bo (((!x29) || (decide (x_8.coef < 1))) || (decide (x_8.coef > 1000)))),isV (I i_5),isV (Bo (decide ((i_5 : Int) > 0))),isV (Bo (decide ((i_5 : Int) > 0))),isV (undef),isV (undef),isV (undef),isV (undef),isV (undef),isV (undef),isV (undef),isV (undef),isV (undef),isV (undef)] [box g21 62 #[I x_8.coef,I x_8.lit],box g3 29 #[v0_0,I c.bound]] [] ([]) [([],[]),([],[]),([],[]),([],[]),([],[]),([],[]),([],[]),([],[]),([],[]),([],[]),([],[]),([],[]),([],[]),([],[]),([],[]),([],[]),([],[]),([],[]),([],[]),([],[]),([],[]),([],[]),([],[]),([],[]),([],[]),([],[]),([],[]),([],[])] (S:=[]) Tryd_mix (by kernel_rfl) rfl (by kernel_rfl) (amF_cons (mono_V _) (amF_cons (mono_V _) (amF_cons (mono_V _) (amF_cons (mono_V _) (amF_cons (mono_V _) (amF_cons (mono_V _) (amF_cons (mono_V _) (amF_cons (mono_V _) (amF_cons (mono_V _) (amF_cons (mono_V _) (amF_cons (mono_V _) (amF_cons (mono_V _) (amF_cons (mono_V _) (amF_cons (mono_V _) (amF_cons (mono_V _) (amF_cons (mono_V _) (amF_cons (mono_V _) (amF_cons (mono_V _) (amF_cons (mono_V _) (amF_cons (mono_V _) (amF_cons (mono_V _) (amF_cons (mono_V _) (amF_cons (mono_V _) (amF_cons (mono_V _) (amF_cons (mono_V _) (amF_cons (mono_V _) (amF_cons (mono_V _) (amF_cons (mono_V _) amF_nil)))))))))))))))))))))))))))) Z ?_ (fun f w_ H52 hS52 hE52 hT52 Z=>?_)
 refine opsS_cons (fun f w_ _ _ s _ _ Z=>fA 1 fa_62_1 ((s 4 rfl).trans rfl) rfl (nO rfl rfl Z)) (opsS_cons (fun f w_ _ _ _ _ p Z=>ldB 0 Z Tryd.isAgg3 (p 0 17 rfl rfl) rfl rfl (nO rfl rfl Z)) (opsS_cons ?_ ?_))
 intro f w_ H52 X52 hS52 hE52 hP52 Z
 obtain ⟨H257b,l258,s259,z260,k261⟩:=Z.borrow
 refine L_call rfl Tryd.call48 (ops1 (hP52 1 18 rfl rfl)) (s_l1Lit_c (n_:=x_8.lit) s259 hx29) ?_
 rintro _ w262 ⟨rfl,Z⟩
 have Z:=k261 Z c0
 exact L_nil ⟨rfl,_,_,rfl,Le.refl _,fun _ _=>rfl,Z⟩
 refine opsS_cons (fun f w_ _ _ _ _ p Z=>L_not_ rfl (p 2 19 rfl rfl) (nO rfl rfl Z)) (opsS_cons (fun f w_ _ _ _ _ p Z=>mF (p 3 20 rfl rfl) rfl (nO rfl rfl Z)) (opsS_cons (fun f w_ _ _ s _ p Z=>L_fa (o':=0) (g_yes rfl (Eq.trans (p 4 21 rfl rfl) (congrArg Value.bool hc56)) rfl) fa_62_0 ((s 4 rfl).trans rfl) rfl (nO rfl rfl Z)) (opsS_cons (fun f w_ _ _ _ _ p Z=>L_ld (v:=I x_8.coef) (g_yes rfl (Eq.trans (p 4 21 rfl rfl) (congrArg Value.bool hc56)) rfl) Tryd.isAgg3 (p 5 22 rfl rfl) (At.cell0 (Blk.at (Star.blkAt 0 Z rfl)) (j:=0) rfl) (nO rfl rfl Z)) (opsS_cons (fun f w_ _ _ _ _ p Z=>L_lss (g_yes rfl (Eq.trans (p 4 21 rfl rfl) (congrArg Value.bool hc56)) rfl) (p 6 23 rfl rfl) rfl (nO rfl rfl Z)) (opsS_cons (fun f w_ _ _ _ _ p Z=>pkT (v:=Bo ((!x29) || (decide (x_8.coef < 1)))) (p 4 21 rfl rfl) hc56 rfl (or_f hc56 (p 7 24 rfl rfl)) (nO rfl rfl Z)) (opsS_cons (fun f w_ _ _ _ _ p Z=>mF (p 8 25 rfl rfl) rfl (nO rfl rfl Z)) (oP (fun _ _ p=>gN (p 9 26 rfl rfl) hc194 rfl) (fun _=>rfl) (oP (fun _ _ p=>gN (p 9 26 rfl rfl) hc194 rfl) (fun _=>rfl) (oP (fun _ _ p=>gN (p 9 26 rfl rfl) hc194 rfl) (fun _=>rfl) (opsS_cons (fun f w_ _ _ _ _ p Z=>pkT (v:=Bo (((!x29) || (decide (x_8.coef < 1))) || (decide (x_8.coef > 1000)))) (p 9 26 rfl rfl) hc194 rfl (or_t hc194) (nO rfl rfl Z)) (opsS_cons (fun f w_ _ _ _ _ p Z=>mF (p 13 30 rfl rfl) rfl (nO rfl rfl Z)) (opsS_cons (fun f w_ _ _ s _ p Z=>L_mv (v:=I i_5) (g_yes rfl (Eq.trans (p 14 31 rfl rfl) (congrArg Value.bool hc195)) rfl) ((s 3 rfl).trans sf3) (nO rfl rfl Z)) (opsS_cons (fun f w_ _ _ _ _ p Z=>L_gtr (g_yes rfl (Eq.trans (p 14 31 rfl rfl) (congrArg Value.bool hc195)) rfl) (p 15 32 rfl rfl) rfl (nO rfl rfl Z)) (opsS_cons (fun f w_ _ _ _ _ p Z=>L_mv (v:=Bo (decide ((i_5 : Int) > 0))) (g_yes rfl (Eq.trans (p 14 31 rfl rfl) (congrArg Value.bool hc195)) rfl) (p 16 33 rfl rfl) (nO rfl rfl Z)) (oP (fun _ _ p=>gN (p 17 34 rfl rfl) hc208 rfl) (fun _=>rfl) (oP (fun _ _ p=>gN (p 17 34 rfl rfl) hc208 rfl) (fun _=>rfl) (oP (fun _ _ p=>gN (p 17 34 rfl rfl) hc208 rfl) (fun _=>rfl) (oP (fun _ _ p=>gN (p 17 34 rfl rfl) hc208 rfl) (fun _=>rfl) (oP (fun _ _ p=>gN (p 17 34 rfl rfl) hc208 rfl) (fun _=>rfl) (oP (fun _ _ p=>gN (p 17 34 rfl rfl) hc208 rfl) (fun _=>rfl) (oP (fun _ _ p=>gN (p 17 34 rfl rfl) hc208 rfl) (fun _=>rfl) (oP (fun _ _ p=>gN (p 17 34 rfl rfl) hc208 rfl) (fun _=>rfl) (oP (fun _ _ p=>gN (p 17 34 rfl rfl) hc208 rfl) (fun _=>rfl) (oP (fun _ _ p=>gN (p 17 34 rfl rfl) hc208 rfl) (fun _=>rfl) (opsS_nil)))))))))))))))))))))))))
 refine ps (g_no rfl (Eq.trans (hT52 17 34 rfl rfl) (congrArg Value.bool hc208)) rfl rfl) (ps (g_no rfl (Eq.trans (hT52 17 34 rfl rfl) (congrArg Value.bool hc208)) rfl rfl) (L_pick (v:=Bo b50) (g_yes rfl (Eq.trans (hT52 14 31 rfl rfl) (congrArg Value.bool hc195)) rfl) (Eq.trans (hT52 17 34 rfl rfl) (congrArg Value.bool hc208)) (congrArg Value.bool (so hb50)) (L_pick (v:=Bo b51) rfl (Eq.trans (hT52 14 31 rfl rfl) (congrArg Value.bool hc195)) (congrArg Value.bool (so hb51)) (nn ?_))))
 have Z:=Z.get 1 rfl
 exact rj hR55 ⟨H52,hE52,((hS52 1 rfl).trans sf1),((hS52 3 rfl).trans sf3),rfl,(Star.keepN 1 Z)⟩
 rcases Bool.eq_false_or_eq_true (((!x29) || (decide (x_8.coef < 1))) || (decide (x_8.coef > 1000))) with hc263 | hc263
 rw [ite_t hc263] at hb51
 refine W_drawS 28 [isV (Pq g21 1),isV (I x_8.lit),isV (Bo x29),isV (Bo (!x29)),isV (Bo (!x29)),isV (Pt g21),isV (I x_8.coef),isV (Bo (decide (x_8.coef < 1))),isV (Bo ((!x29) || (decide (x_8.coef < 1)))),isV (Bo ((!x29) || (decide (x_8.coef < 1)))),isV (Pt g21),isV (I x_8.coef),isV (Bo (decide (x_8.coef > 1000))),isV (Bo (((!x29) || (decide (x_8.coef < 1))) || (decide (x_8.coef > 1000)))),isV (Bo (((!x29) || (decide (x_8.coef < 1))) || (decide (x_8.coef > 1000)))),isV (undef),isV (undef),isV (undef),isV (undef),isV (undef),isV (undef),isV (undef),isV (undef),isV (undef),isV (undef),isV (undef),isV (undef),isV (undef)] [box g21 62 #[I x_8.coef,I x_8.lit],box g3 29 #[v0_0,I c.bound]] [] ([]) [([],[]),([],[]),([],[]),([],[]),([],[]),([],[]),([],[]),([],[]),([],[]),([],[]),([],[]),([],[]),([],[]),([],[]),([],[]),([],[]),([],[]),([],[]),([],[]),([],[]),([],[]),([],[]),([],[]),([],[]),([],[]),([],[]),([],[]),([],[])] (S:=[]) Tryd_mix (by kernel_rfl) rfl (by kernel_rfl) (amF_cons (mono_V _) (amF_cons (mono_V _) (amF_cons (mono_V _) (amF_cons (mono_V _) (amF_cons (mono_V _) (amF_cons (mono_V _) (amF_cons (mono_V _) (amF_cons (mono_V _) (amF_cons (mono_V _) (amF_cons (mono_V _) (amF_cons (mono_V _) (amF_cons (mono_V _) (amF_cons (mono_V _) (amF_cons (mono_V _) (amF_cons (mono_V _) (amF_cons (mono_V _) (amF_cons (mono_V _) (amF_cons (mono_V _) (amF_cons (mono_V _) (amF_cons (mono_V _) (amF_cons (mono_V _) (amF_cons (mono_V _) (amF_cons (mono_V _) (amF_cons (mono_V _) (amF_cons (mono_V _) (amF_cons (mono_V _) (amF_cons (mono_V _) (amF_cons (mono_V _) amF_nil)))))))))))))))))))))))))))) Z ?_ (fun f w_ H52 hS52 hE52 hT52 Z=>?_)
 refine opsS_cons (fun f w_ _ _ s _ _ Z=>fA 1 fa_62_1 ((s 4 rfl).trans rfl) rfl (nO rfl rfl Z)) (opsS_cons (fun f w_ _ _ _ _ p Z=>ldB 0 Z Tryd.isAgg3 (p 0 17 rfl rfl) rfl rfl (nO rfl rfl Z)) (opsS_cons ?_ ?_))
 intro f w_ H52 X52 hS52 hE52 hP52 Z
 obtain ⟨H270b,l271,s272,z273,k274⟩:=Z.borrow
 refine L_call rfl Tryd.call48 (ops1 (hP52 1 18 rfl rfl)) (s_l1Lit_c (n_:=x_8.lit) s272 hx29) ?_
 rintro _ w275 ⟨rfl,Z⟩
 have Z:=k274 Z c0
 exact L_nil ⟨rfl,_,_,rfl,Le.refl _,fun _ _=>rfl,Z⟩
 refine opsS_cons (fun f w_ _ _ _ _ p Z=>L_not_ rfl (p 2 19 rfl rfl) (nO rfl rfl Z)) (opsS_cons (fun f w_ _ _ _ _ p Z=>mF (p 3 20 rfl rfl) rfl (nO rfl rfl Z)) (opsS_cons (fun f w_ _ _ s _ p Z=>L_fa (o':=0) (g_yes rfl (Eq.trans (p 4 21 rfl rfl) (congrArg Value.bool hc56)) rfl) fa_62_0 ((s 4 rfl).trans rfl) rfl (nO rfl rfl Z)) (opsS_cons (fun f w_ _ _ _ _ p Z=>L_ld (v:=I x_8.coef) (g_yes rfl (Eq.trans (p 4 21 rfl rfl) (congrArg Value.bool hc56)) rfl) Tryd.isAgg3 (p 5 22 rfl rfl) (At.cell0 (Blk.at (Star.blkAt 0 Z rfl)) (j:=0) rfl) (nO rfl rfl Z)) (opsS_cons (fun f w_ _ _ _ _ p Z=>L_lss (g_yes rfl (Eq.trans (p 4 21 rfl rfl) (congrArg Value.bool hc56)) rfl) (p 6 23 rfl rfl) rfl (nO rfl rfl Z)) (opsS_cons (fun f w_ _ _ _ _ p Z=>pkT (v:=Bo ((!x29) || (decide (x_8.coef < 1)))) (p 4 21 rfl rfl) hc56 rfl (or_f hc56 (p 7 24 rfl rfl)) (nO rfl rfl Z)) (opsS_cons (fun f w_ _ _ _ _ p Z=>mF (p 8 25 rfl rfl) rfl (nO rfl rfl Z)) (opsS_cons (fun f w_ _ _ s _ p Z=>L_fa (o':=0) (g_yes rfl (Eq.trans (p 9 26 rfl rfl) (congrArg Value.bool hc194)) rfl) fa_62_0 ((s 4 rfl).trans rfl) rfl (nO rfl rfl Z)) (opsS_cons (fun f w_ _ _ _ _ p Z=>L_ld (v:=I x_8.coef) (g_yes rfl (Eq.trans (p 9 26 rfl rfl) (congrArg Value.bool hc194)) rfl) Tryd.isAgg3 (p 10 27 rfl rfl) (At.cell0 (Blk.at (Star.blkAt 0 Z rfl)) (j:=0) rfl) (nO rfl rfl Z)) (opsS_cons (fun f w_ _ _ _ _ p Z=>L_gtr (g_yes rfl (Eq.trans (p 9 26 rfl rfl) (congrArg Value.bool hc194)) rfl) (p 11 28 rfl rfl) rfl (nO rfl rfl Z)) (opsS_cons (fun f w_ _ _ _ _ p Z=>pkT (v:=Bo (((!x29) || (decide (x_8.coef < 1))) || (decide (x_8.coef > 1000)))) (p 9 26 rfl rfl) hc194 rfl (or_f hc194 (p 12 29 rfl rfl)) (nO rfl rfl Z)) (opsS_cons (fun f w_ _ _ _ _ p Z=>mF (p 13 30 rfl rfl) rfl (nO rfl rfl Z)) (oP (fun _ _ p=>gN (p 14 31 rfl rfl) hc263 rfl) (fun _=>rfl) (oP (fun _ _ p=>gN (p 14 31 rfl rfl) hc263 rfl) (fun _=>rfl) (oP (fun _ _ p=>gN (p 14 31 rfl rfl) hc263 rfl) (fun _=>rfl) (oP (fun _ _ p=>g_undef rfl (p 17 34 rfl rfl) rfl) (fun _=>rfl) (oP (fun _ _ p=>g_undef rfl (p 17 34 rfl rfl) rfl) (fun _=>rfl) (oP (fun _ _ p=>g_undef rfl (p 17 34 rfl rfl) rfl) (fun _=>rfl) (oP (fun _ _ p=>g_undef rfl (p 17 34 rfl rfl) rfl) (fun _=>rfl) (oP (fun _ _ p=>g_undef rfl (p 17 34 rfl rfl) rfl) (fun _=>rfl) (oP (fun _ _ p=>g_undef rfl (p 17 34 rfl rfl) rfl) (fun _=>rfl) (oP (fun _ _ p=>g_undef rfl (p 17 34 rfl rfl) rfl) (fun _=>rfl) (oP (fun _ _ p=>g_undef rfl (p 17 34 rfl rfl) rfl) (fun _=>rfl) (oP (fun _ _ p=>g_undef rfl (p 17 34 rfl rfl) rfl) (fun _=>rfl) (oP (fun _ _ p=>g_undef rfl (p 17 34 rfl rfl) rfl) (fun _=>rfl) (opsS_nil)))))))))))))))))))))))))
 refine ps (g_undef rfl (hT52 17 34 rfl rfl) rfl) (ps (g_undef rfl (hT52 17 34 rfl rfl) rfl) (ps (g_no rfl (Eq.trans (hT52 14 31 rfl rfl) (congrArg Value.bool hc263)) rfl rfl) (L_pick (v:=Bo b51) rfl (Eq.trans (hT52 14 31 rfl rfl) (congrArg Value.bool hc263)) (congrArg Value.bool (so hb51)) (nn ?_))))
 have Z:=Z.get 1 rfl
 exact rj hR55 ⟨H52,hE52,((hS52 1 rfl).trans sf1),((hS52 3 rfl).trans sf3),rfl,(Star.keepN 1 Z)⟩
 rw [ite_f hc263] at hb51
 obtain ⟨b50,hb50,hb51⟩:=bind_some hb51
 rcases Bool.eq_false_or_eq_true (decide ((i_5 : Int) > 0)) with hc276 | hc276
 rw [ite_t hc276] at hb50
 obtain ⟨x31,hx31,hb50⟩:=bind_some hb50
 obtain ⟨x41,hx41,hb50⟩:=bind_some hb50
 obtain ⟨x48,hx48,hb50⟩:=bind_some hb50
 refine W_drawS 28 [isV (Pq g21 1),isV (I x_8.lit),isV (Bo x29),isV (Bo (!x29)),isV (Bo (!x29)),isV (Pt g21),isV (I x_8.coef),isV (Bo (decide (x_8.coef < 1))),isV (Bo ((!x29) || (decide (x_8.coef < 1)))),isV (Bo ((!x29) || (decide (x_8.coef < 1)))),isV (Pt g21),isV (I x_8.coef),isV (Bo (decide (x_8.coef > 1000))),isV (Bo (((!x29) || (decide (x_8.coef < 1))) || (decide (x_8.coef > 1000)))),isV (Bo (((!x29) || (decide (x_8.coef < 1))) || (decide (x_8.coef > 1000)))),isV (I i_5),isV (Bo (decide ((i_5 : Int) > 0))),isV (Bo (decide ((i_5 : Int) > 0))),isV (Pt g3),isV (v0_0),isV (I i_5),isV (I (i64 ((i_5 : Int) - 1))),isEl rTerm x31 0,isEl rTerm x31 1,isV (I x31.lit),isV (I x41),isV (Pq g21 1),isV (I x_8.lit)] [box g21 62 #[I x_8.coef,I x_8.lit],box g3 29 #[v0_0,I c.bound]] [] ([]) [([],[]),([],[]),([],[]),([],[]),([],[]),([],[]),([],[]),([],[]),([],[]),([],[]),([],[]),([],[]),([],[]),([],[]),([],[]),([],[]),([],[]),([],[]),([],[]),([],[]),([],[]),([],[]),([],[]),([],[]),([],[]),([],[]),([],[]),([],[])] (S:=[]) Tryd_mix (by kernel_rfl) rfl (by kernel_rfl) (amF_cons (mono_V _) (amF_cons (mono_V _) (amF_cons (mono_V _) (amF_cons (mono_V _) (amF_cons (mono_V _) (amF_cons (mono_V _) (amF_cons (mono_V _) (amF_cons (mono_V _) (amF_cons (mono_V _) (amF_cons (mono_V _) (amF_cons (mono_V _) (amF_cons (mono_V _) (amF_cons (mono_V _) (amF_cons (mono_V _) (amF_cons (mono_V _) (amF_cons (mono_V _) (amF_cons (mono_V _) (amF_cons (mono_V _) (amF_cons (mono_V _) (amF_cons (mono_V _) (amF_cons (mono_V _) (amF_cons (mono_V _) (amF_cons (mono_el _ _ _) (amF_cons (mono_el _ _ _) (amF_cons (mono_V _) (amF_cons (mono_V _) (amF_cons (mono_V _) (amF_cons (mono_V _) amF_nil)))))))))))))))))))))))))))) Z ?_ (fun f w_ H52 hS52 hE52 hT52 Z=>?_)
 refine opsS_cons (fun f w_ _ _ s _ _ Z=>fA 1 fa_62_1 ((s 4 rfl).trans rfl) rfl (nO rfl rfl Z)) (opsS_cons (fun f w_ _ _ _ _ p Z=>ldB 0 Z Tryd.isAgg3 (p 0 17 rfl rfl) rfl rfl (nO rfl rfl Z)) (opsS_cons ?_ ?_))
 intro f w_ H52 X52 hS52 hE52 hP52 Z
 obtain ⟨H293b,l294,s295,z296,k297⟩:=Z.borrow
 refine L_call rfl Tryd.call48 (ops1 (hP52 1 18 rfl rfl)) (s_l1Lit_c (n_:=x_8.lit) s295 hx29) ?_
 rintro _ w298 ⟨rfl,Z⟩
 have Z:=k297 Z c0
 exact L_nil ⟨rfl,_,_,rfl,Le.refl _,fun _ _=>rfl,Z⟩
 refine opsS_cons (fun f w_ _ _ _ _ p Z=>L_not_ rfl (p 2 19 rfl rfl) (nO rfl rfl Z)) (opsS_cons (fun f w_ _ _ _ _ p Z=>mF (p 3 20 rfl rfl) rfl (nO rfl rfl Z)) (opsS_cons (fun f w_ _ _ s _ p Z=>L_fa (o':=0) (g_yes rfl (Eq.trans (p 4 21 rfl rfl) (congrArg Value.bool hc56)) rfl) fa_62_0 ((s 4 rfl).trans rfl) rfl (nO rfl rfl Z)) (opsS_cons (fun f w_ _ _ _ _ p Z=>L_ld (v:=I x_8.coef) (g_yes rfl (Eq.trans (p 4 21 rfl rfl) (congrArg Value.bool hc56)) rfl) Tryd.isAgg3 (p 5 22 rfl rfl) (At.cell0 (Blk.at (Star.blkAt 0 Z rfl)) (j:=0) rfl) (nO rfl rfl Z)) (opsS_cons (fun f w_ _ _ _ _ p Z=>L_lss (g_yes rfl (Eq.trans (p 4 21 rfl rfl) (congrArg Value.bool hc56)) rfl) (p 6 23 rfl rfl) rfl (nO rfl rfl Z)) (opsS_cons (fun f w_ _ _ _ _ p Z=>pkT (v:=Bo ((!x29) || (decide (x_8.coef < 1)))) (p 4 21 rfl rfl) hc56 rfl (or_f hc56 (p 7 24 rfl rfl)) (nO rfl rfl Z)) (opsS_cons (fun f w_ _ _ _ _ p Z=>mF (p 8 25 rfl rfl) rfl (nO rfl rfl Z)) (opsS_cons (fun f w_ _ _ s _ p Z=>L_fa (o':=0) (g_yes rfl (Eq.trans (p 9 26 rfl rfl) (congrArg Value.bool hc194)) rfl) fa_62_0 ((s 4 rfl).trans rfl) rfl (nO rfl rfl Z)) (opsS_cons (fun f w_ _ _ _ _ p Z=>L_ld (v:=I x_8.coef) (g_yes rfl (Eq.trans (p 9 26 rfl rfl) (congrArg Value.bool hc194)) rfl) Tryd.isAgg3 (p 10 27 rfl rfl) (At.cell0 (Blk.at (Star.blkAt 0 Z rfl)) (j:=0) rfl) (nO rfl rfl Z)) (opsS_cons (fun f w_ _ _ _ _ p Z=>L_gtr (g_yes rfl (Eq.trans (p 9 26 rfl rfl) (congrArg Value.bool hc194)) rfl) (p 11 28 rfl rfl) rfl (nO rfl rfl Z)) (opsS_cons (fun f w_ _ _ _ _ p Z=>pkT (v:=Bo (((!x29) || (decide (x_8.coef < 1))) || (decide (x_8.coef > 1000)))) (p 9 26 rfl rfl) hc194 rfl (or_f hc194 (p 12 29 rfl rfl)) (nO rfl rfl Z)) (opsS_cons (fun f w_ _ _ _ _ p Z=>mF (p 13 30 rfl rfl) rfl (nO rfl rfl Z)) (opsS_cons (fun f w_ _ _ s _ p Z=>L_mv (v:=I i_5) (g_yes rfl (Eq.trans (p 14 31 rfl rfl) (congrArg Value.bool hc263)) rfl) ((s 3 rfl).trans sf3) (nO rfl rfl Z)) (opsS_cons (fun f w_ _ _ _ _ p Z=>L_gtr (g_yes rfl (Eq.trans (p 14 31 rfl rfl) (congrArg Value.bool hc263)) rfl) (p 15 32 rfl rfl) rfl (nO rfl rfl Z)) (opsS_cons (fun f w_ _ _ _ _ p Z=>L_mv (v:=Bo (decide ((i_5 : Int) > 0))) (g_yes rfl (Eq.trans (p 14 31 rfl rfl) (congrArg Value.bool hc263)) rfl) (p 16 33 rfl rfl) (nO rfl rfl Z)) (opsS_cons (fun f w_ _ _ s _ p Z=>L_fa (o':=0) (g_yes rfl (Eq.trans (p 17 34 rfl rfl) (congrArg Value.bool hc276)) rfl) fa_29_0 ((s 1 rfl).trans sf1) rfl (nO rfl rfl Z)) (opsS_cons (fun f w_ _ _ _ _ p Z=>L_ld (v:=v0_0) (g_yes rfl (Eq.trans (p 17 34 rfl rfl) (congrArg Value.bool hc276)) rfl) Tryd.isAgg27 (p 18 35 rfl rfl) (At.cell0 (Blk.at (Star.blkAt 1 Z rfl)) (j:=0) rfl) (nO rfl rfl Z)) (opsS_cons (fun f w_ _ _ s _ p Z=>L_mv (v:=I i_5) (g_yes rfl (Eq.trans (p 17 34 rfl rfl) (congrArg Value.bool hc276)) rfl) ((s 3 rfl).trans sf3) (nO rfl rfl Z)) (opsS_cons (fun f w_ _ _ _ _ p Z=>L_sub (g_yes rfl (Eq.trans (p 17 34 rfl rfl) (congrArg Value.bool hc276)) rfl) (p 20 37 rfl rfl) rfl (nO rfl rfl Z)) (opsS_cons ?_ ?_)))))))))))))))))))
 intro f w_ H52 X52 hS52 hE52 hP52 Z
 refine L_ix (r:=rTerm) (g_yes rfl (Eq.trans (hP52 17 34 rfl rfl) (congrArg Value.bool hc276)) rfl) Tryd.underlying27 Tryd.sizeOf62 (hP52 19 36 rfl rfl) (RP.mono _ h0_0 (Le.trans l7 hE52)) (hP52 21 38 rfl rfl) hx31 (fun g299 o300 cs_g299 hrk_hat301 hat301=>?_)
 obtain rfl:=rTerm_iff.1 hrk_hat301
 exact L_nil ⟨rfl,_,_,rfl,Le.refl _,fun _ _=>⟨_,_,_,rfl,hrk_hat301,hat301⟩,Z⟩
 refine opsS_cons ?_ ?_
 intro f w_ H52 X52 hS52 hE52 hP52 Z
 obtain ⟨g303,o303,cs303,hv303,hrk_hat303,hat303⟩:=(hP52 22 39 rfl rfl)
 obtain rfl:=rTerm_iff.1 hrk_hat303
 refine L_fa (o':=o303 + 1) (g_yes rfl (Eq.trans (hP52 17 34 rfl rfl) (congrArg Value.bool hc276)) rfl) fa_62_1 hv303 rfl (L_nil ⟨rfl,_,_,rfl,Le.refl _,fun _ _=>⟨_,_,_,rfl,hrk_hat303,hat303⟩,Z⟩)
 refine opsS_cons ?_ ?_
 intro f w_ H52 X52 hS52 hE52 hP52 Z
 obtain ⟨g305,o305,cs305,hv305,hrk_hat305,hat305⟩:=(hP52 23 40 rfl rfl)
 obtain rfl:=rTerm_iff.1 hrk_hat305
 refine L_ld (v:=I x31.lit) (g_yes rfl (Eq.trans (hP52 17 34 rfl rfl) (congrArg Value.bool hc276)) rfl) Tryd.isAgg3 hv305 (At.cell (AtH.at hat305 Z.sub) (j:=1) rfl) (L_nil ⟨rfl,_,_,rfl,Le.refl _,fun _ _=>rfl,Z⟩)
 refine opsS_cons ?_ ?_
 intro f w_ H52 X52 hS52 hE52 hP52 Z
 obtain ⟨H307b,l308,s309,z310,k311⟩:=Z.borrow
 refine L_call (g_yes rfl (Eq.trans (hP52 17 34 rfl rfl) (congrArg Value.bool hc276)) rfl) Tryd.call49 (ops1 (hP52 24 41 rfl rfl)) (s_l1Abs_c (n_:=x31.lit) s309 hx41) ?_
 rintro _ w312 ⟨rfl,Z⟩
 have Z:=k311 Z c0
 exact L_nil ⟨rfl,_,_,rfl,Le.refl _,fun _ _=>rfl,Z⟩
 refine opsS_cons (fun f w_ _ _ s _ p Z=>L_fa (o':=1) (g_yes rfl (Eq.trans (p 17 34 rfl rfl) (congrArg Value.bool hc276)) rfl) fa_62_1 ((s 4 rfl).trans rfl) rfl (nO rfl rfl Z)) (opsS_cons (fun f w_ _ _ _ _ p Z=>L_ld (v:=I x_8.lit) (g_yes rfl (Eq.trans (p 17 34 rfl rfl) (congrArg Value.bool hc276)) rfl) Tryd.isAgg3 (p 26 43 rfl rfl) (At.cell0 (Blk.at (Star.blkAt 0 Z rfl)) (j:=1) rfl) (nO rfl rfl Z)) (opsS_nil))
 obtain ⟨H313b,l314,s315,z316,k317⟩:=Z.borrow
 refine L_call (g_yes rfl (Eq.trans (hT52 17 34 rfl rfl) (congrArg Value.bool hc276)) rfl) Tryd.call49 (ops1 (hT52 27 44 rfl rfl)) (s_l1Abs_c (n_:=x_8.lit) s315 hx48) ?_
 rintro _ w318 ⟨rfl,Z⟩
 have Z:=k317 Z c0
 refine L_geq (g_yes rfl (Eq.trans (hT52 17 34 rfl rfl) (congrArg Value.bool hc276)) rfl) (hT52 25 42 rfl rfl) rfl (L_pick (v:=Bo b50) (g_yes rfl (Eq.trans (hT52 14 31 rfl rfl) (congrArg Value.bool hc263)) rfl) (Eq.trans (hT52 17 34 rfl rfl) (congrArg Value.bool hc276)) (congrArg Value.bool (so hb50)) (L_pick (v:=Bo b51) rfl (Eq.trans (hT52 14 31 rfl rfl) (congrArg Value.bool hc263)) (congrArg Value.bool (so hb51)) (nn ?_)))
 have Z:=Z.get 1 rfl
 exact rj hR55 ⟨H52,hE52,((hS52 1 rfl).trans sf1),((hS52 3 rfl).trans sf3),rfl,(Star.keepN 1 Z)⟩
 rw [ite_f hc276] at hb50
 refine W_drawS 28 [isV (Pq g21 1),isV (I x_8.lit),isV (Bo x29),isV (Bo (!x29)),isV (Bo (!x29)),isV (Pt g21),isV (I x_8.coef),isV (Bo (decide (x_8.coef < 1))),isV (Bo ((!x29) || (decide (x_8.coef < 1)))),isV (Bo ((!x29) || (decide (x_8.coef < 1)))),isV (Pt g21),isV (I x_8.coef),isV (Bo (decide (x_8.coef > 1000))),isV (Bo (((!x29) || (decide (x_8.coef < 1))) || (decide (x_8.coef > 1000)))),isV (Bo (((!x29) || (decide (x_8.coef < 1))) || (decide (x_8.coef > 1000)))),isV (I i_5),isV (Bo (decide ((i_5 : Int) > 0))),isV (Bo (decide ((i_5 : Int) > 0))),isV (undef),isV (undef),isV (undef),isV (undef),isV (undef),isV (undef),isV (undef),isV (undef),isV (undef),isV (undef)] [box g21 62 #[I x_8.coef,I x_8.lit],box g3 29 #[v0_0,I c.bound]] [] ([]) [([],[]),([],[]),([],[]),([],[]),([],[]),([],[]),([],[]),([],[]),([],[]),([],[]),([],[]),([],[]),([],[]),([],[]),([],[]),([],[]),([],[]),([],[]),([],[]),([],[]),([],[]),([],[]),([],[]),([],[]),([],[]),([],[]),([],[]),([],[])] (S:=[]) Tryd_mix (by kernel_rfl) rfl (by kernel_rfl) (amF_cons (mono_V _) (amF_cons (mono_V _) (amF_cons (mono_V _) (amF_cons (mono_V _) (amF_cons (mono_V _) (amF_cons (mono_V _) (amF_cons (mono_V _) (amF_cons (mono_V _) (amF_cons (mono_V _) (amF_cons (mono_V _) (amF_cons (mono_V _) (amF_cons (mono_V _) (amF_cons (mono_V _) (amF_cons (mono_V _) (amF_cons (mono_V _) (amF_cons (mono_V _) (amF_cons (mono_V _) (amF_cons (mono_V _) (amF_cons (mono_V _) (amF_cons (mono_V _) (amF_cons (mono_V _) (amF_cons (mono_V _) (amF_cons (mono_V _) (amF_cons (mono_V _) (amF_cons (mono_V _) (amF_cons (mono_V _) (amF_cons (mono_V _) (amF_cons (mono_V _) amF_nil)))))))))))))))))))))))))))) Z ?_ (fun f w_ H52 hS52 hE52 hT52 Z=>?_)
 refine opsS_cons (fun f w_ _ _ s _ _ Z=>fA 1 fa_62_1 ((s 4 rfl).trans rfl) rfl (nO rfl rfl Z)) (opsS_cons (fun f w_ _ _ _ _ p Z=>ldB 0 Z Tryd.isAgg3 (p 0 17 rfl rfl) rfl rfl (nO rfl rfl Z)) (opsS_cons ?_ ?_))
 intro f w_ H52 X52 hS52 hE52 hP52 Z
 obtain ⟨H325b,l326,s327,z328,k329⟩:=Z.borrow
 refine L_call rfl Tryd.call48 (ops1 (hP52 1 18 rfl rfl)) (s_l1Lit_c (n_:=x_8.lit) s327 hx29) ?_
 rintro _ w330 ⟨rfl,Z⟩
 have Z:=k329 Z c0
 exact L_nil ⟨rfl,_,_,rfl,Le.refl _,fun _ _=>rfl,Z⟩
 refine opsS_cons (fun f w_ _ _ _ _ p Z=>L_not_ rfl (p 2 19 rfl rfl) (nO rfl rfl Z)) (opsS_cons (fun f w_ _ _ _ _ p Z=>mF (p 3 20 rfl rfl) rfl (nO rfl rfl Z)) (opsS_cons (fun f w_ _ _ s _ p Z=>L_fa (o':=0) (g_yes rfl (Eq.trans (p 4 21 rfl rfl) (congrArg Value.bool hc56)) rfl) fa_62_0 ((s 4 rfl).trans rfl) rfl (nO rfl rfl Z)) (opsS_cons (fun f w_ _ _ _ _ p Z=>L_ld (v:=I x_8.coef) (g_yes rfl (Eq.trans (p 4 21 rfl rfl) (congrArg Value.bool hc56)) rfl) Tryd.isAgg3 (p 5 22 rfl rfl) (At.cell0 (Blk.at (Star.blkAt 0 Z rfl)) (j:=0) rfl) (nO rfl rfl Z)) (opsS_cons (fun f w_ _ _ _ _ p Z=>L_lss (g_yes rfl (Eq.trans (p 4 21 rfl rfl) (congrArg Value.bool hc56)) rfl) (p 6 23 rfl rfl) rfl (nO rfl rfl Z)) (opsS_cons (fun f w_ _ _ _ _ p Z=>pkT (v:=Bo ((!x29) || (decide (x_8.coef < 1)))) (p 4 21 rfl rfl) hc56 rfl (or_f hc56 (p 7 24 rfl rfl)) (nO rfl rfl Z)) (opsS_cons (fun f w_ _ _ _ _ p Z=>mF (p 8 25 rfl rfl) rfl (nO rfl rfl Z)) (opsS_cons (fun f w_ _ _ s _ p Z=>L_fa (o':=0) (g_yes rfl (Eq.trans (p 9 26 rfl rfl) (congrArg Value.bool hc194)) rfl) fa_62_0 ((s 4 rfl).trans rfl) rfl (nO rfl rfl Z)) (opsS_cons (fun f w_ _ _ _ _ p Z=>L_ld (v:=I x_8.coef) (g_yes rfl (Eq.trans (p 9 26 rfl rfl) (congrArg Value.bool hc194)) rfl) Tryd.isAgg3 (p 10 27 rfl rfl) (At.cell0 (Blk.at (Star.blkAt 0 Z rfl)) (j:=0) rfl) (nO rfl rfl Z)) (opsS_cons (fun f w_ _ _ _ _ p Z=>L_gtr (g_yes rfl (Eq.trans (p 9 26 rfl rfl) (congrArg Value.bool hc194)) rfl) (p 11 28 rfl rfl) rfl (nO rfl rfl Z)) (opsS_cons (fun f w_ _ _ _ _ p Z=>pkT (v:=Bo (((!x29) || (decide (x_8.coef < 1))) || (decide (x_8.coef > 1000)))) (p 9 26 rfl rfl) hc194 rfl (or_f hc194 (p 12 29 rfl rfl)) (nO rfl rfl Z)) (opsS_cons (fun f w_ _ _ _ _ p Z=>mF (p 13 30 rfl rfl) rfl (nO rfl rfl Z)) (opsS_cons (fun f w_ _ _ s _ p Z=>L_mv (v:=I i_5) (g_yes rfl (Eq.trans (p 14 31 rfl rfl) (congrArg Value.bool hc263)) rfl) ((s 3 rfl).trans sf3) (nO rfl rfl Z)) (opsS_cons (fun f w_ _ _ _ _ p Z=>L_gtr (g_yes rfl (Eq.trans (p 14 31 rfl rfl) (congrArg Value.bool hc263)) rfl) (p 15 32 rfl rfl) rfl (nO rfl rfl Z)) (opsS_cons (fun f w_ _ _ _ _ p Z=>L_mv (v:=Bo (decide ((i_5 : Int) > 0))) (g_yes rfl (Eq.trans (p 14 31 rfl rfl) (congrArg Value.bool hc263)) rfl) (p 16 33 rfl rfl) (nO rfl rfl Z)) (oP (fun _ _ p=>gN (p 17 34 rfl rfl) hc276 rfl) (fun _=>rfl) (oP (fun _ _ p=>gN (p 17 34 rfl rfl) hc276 rfl) (fun _=>rfl) (oP (fun _ _ p=>gN (p 17 34 rfl rfl) hc276 rfl) (fun _=>rfl) (oP (fun _ _ p=>gN (p 17 34 rfl rfl) hc276 rfl) (fun _=>rfl) (oP (fun _ _ p=>gN (p 17 34 rfl rfl) hc276 rfl) (fun _=>rfl) (oP (fun _ _ p=>gN (p 17 34 rfl rfl) hc276 rfl) (fun _=>rfl) (oP (fun _ _ p=>gN (p 17 34 rfl rfl) hc276 rfl) (fun _=>rfl) (oP (fun _ _ p=>gN (p 17 34 rfl rfl) hc276 rfl) (fun _=>rfl) (oP (fun _ _ p=>gN (p 17 34 rfl rfl) hc276 rfl) (fun _=>rfl) (oP (fun _ _ p=>gN (p 17 34 rfl rfl) hc276 rfl) (fun _=>rfl) (opsS_nil)))))))))))))))))))))))))
 refine ps (g_no rfl (Eq.trans (hT52 17 34 rfl rfl) (congrArg Value.bool hc276)) rfl rfl) (ps (g_no rfl (Eq.trans (hT52 17 34 rfl rfl) (congrArg Value.bool hc276)) rfl rfl) (L_pick (v:=Bo b50) (g_yes rfl (Eq.trans (hT52 14 31 rfl rfl) (congrArg Value.bool hc263)) rfl) (Eq.trans (hT52 17 34 rfl rfl) (congrArg Value.bool hc276)) (congrArg Value.bool (so hb50)) (L_pick (v:=Bo b51) rfl (Eq.trans (hT52 14 31 rfl rfl) (congrArg Value.bool hc263)) (congrArg Value.bool (so hb51)) (nn ?_))))
 have Z:=Z.get 1 rfl
 exact rj hR55 ⟨H52,hE52,((hS52 1 rfl).trans sf1),((hS52 3 rfl).trans sf3),rfl,(Star.keepN 1 Z)⟩
 intro f w_ hR
 obtain ⟨H53,l54,sf1,sf3,sf48,Z⟩:=rk hR55 hR
 refine W_cond (b:=b51) sf48 (fun hc331=>?_) (fun hc331=>?_)
 have hB8:=(ite_t hc331).symm.trans hB8
 refine sq (aB rfl (nn (W_ret (retG1 (v1:=Bo false) Tryd.results19 rfl ?_))))
 obtain rfl:=so hB8
 obtain rfl:=so hL8
 obtain rfl:=so hF
 exact ⟨rfl,(Star.down (Star.keepN 0 Z) (Le.trans l7 l54) c0)⟩
 have hB8:=(ite_f hc331).symm.trans hB8
 refine W_skip (W_region (mF sf3 rfl (L_add rfl rfl rfl (aI rfl (nn ?_)))))
 obtain rfl:=so hB8
 show ∃ m,m < _∧I8 m _ _
 refine ⟨rest8.length,by simp,?_⟩
 exact ij hI8 ⟨i_5 + 1,rest8,H53,rfl,drop_next hd8,by simp at hl8; omega,hL8,(Le.trans l7 l54),sf1,(Eq.trans rfl (congrArg (Value.int .i64) (i64_succ (n:=c.terms.length) (by simp at hl8; omega) hlen8))),Z⟩
 rcases suf8 with _ | ⟨_,_⟩
 obtain rfl:=range_nil hL8
 refine W_exit (rj hR8 ⟨H6,rfl,l7,sf1,Z⟩)
 exact absurd (of_decide_eq_false hc9) (by simp at hl8; omega)
 intro f w_ hR
 obtain ⟨H6,rfl,l7,sf1,Z⟩:=rk hR8 hR
 refine W_seq ?_
 obtain ⟨R332,hR332⟩:=exR fun f w_=>f 2 = Bo ((decide (c.bound ≥ 0)) && (decide (c.bound≤20000)))∧Star H6 w_ ([])
 refine W_join R332 ?_ ?_
 refine W_region (fA 1 fa_29_1 sf1 rfl (ldB 0 Z Tryd.isAgg3 rfl rfl rfl (L_geq rfl rfl rfl (mB rfl (L_split (d:=52) (b:=decide (c.bound ≥ 0)) rfl (fun hc333=>?_) (fun hc333=>?_))))))
 refine fA 1 fa_29_1 sf1 rfl (ldB 0 Z Tryd.isAgg3 rfl rfl rfl (L_leq rfl rfl rfl (L_pick (v:=Bo ((decide (c.bound ≥ 0)) && (decide (c.bound≤20000)))) rfl rfl (and_t hc333 rfl) (aB rfl (nn (rj hR332 ⟨rfl,(Star.keepN 0 Z)⟩))))))
 refine ps rfl (ps rfl (ps rfl (L_pick (v:=Bo ((decide (c.bound ≥ 0)) && (decide (c.bound≤20000)))) rfl rfl (and_f hc333) (aB rfl (nn (rj hR332 ⟨rfl,(Star.keepN 0 Z)⟩))))))
 intro f w_ hR
 obtain ⟨sf2,Z⟩:=rk hR332 hR
 refine W_ret (retG1 (v1:=Bo ((decide (c.bound ≥ 0)) && (decide (c.bound≤20000)))) Tryd.results19 sf2 ?_)
 obtain rfl:=so hF
 exact ⟨rfl,(Star.down Z l7 c0)⟩
theorem s_l17Dec_F_c {fu : Nat} {rec_ : Int→Option ByteArray} (hrec : ∀ {n_ : Int} {H : FH} {w : World} (Z : Star H w []) {r : ByteArray} (hF : rec_ n_ = some r),C Tryd.prog 59 #[I n_] w fun v w'=>v = .string r∧Star H w' []) {n_ : Int} {H : FH} {w : World} (Z : Star H w []) {r : ByteArray} (hF : s_l17Dec_F fu rec_ n_ = some r) :
 C Tryd.prog 59 #[I n_] w fun v w'=>v = .string r∧Star H w' []:=by
 unfold s_l17Dec_F at hF
 refine C_enter Tryd.func59 rfl Tryd.ntmps59 rfl (sq (aV (.string (⟨#[]⟩ : ByteArray)) rfl (nq (sq (mI rfl (L_lss rfl rfl rfl (nn (W_cond (b:=decide (n_ < (-9223372036854775807))) rfl (fun hc1=>?_) (fun hc1=>?_)))))))))
 have hF:=(ite_t hc1).symm.trans hF
 refine sq (aV (.string (⟨#[45,57,50,50,51,51,55,50,48,51,54,56,53,52,55,55,53,56,48,56]⟩ : ByteArray)) rfl (nn (W_ret (retG1 (v1:=.string (⟨#[45,57,50,50,51,51,55,50,48,51,54,56,53,52,55,55,53,56,48,56]⟩ : ByteArray)) Tryd.results59 rfl ?_))))
 obtain rfl:=so hF
 exact ⟨rfl,Z⟩
 have hF:=(ite_f hc1).symm.trans hF
 refine W_skip (W_seq (sq (mI rfl (L_lss rfl rfl rfl (nn (W_cond (b:=decide (n_ < 0)) rfl (fun hc2=>?_) (fun hc2=>?_)))))))
 have hF:=(ite_t hc2).symm.trans hF
 refine W_seq ?_
 obtain ⟨x8,hx8,hF⟩:=bind_some hF
 obtain ⟨x10,hx10,hF⟩:=bind_some hF
 refine W_region (mI rfl (L_neg rfl rfl ?_))
 obtain ⟨H11b,l12,s13,z14,k15⟩:=Z.borrow
 refine L_call rfl Tryd.call59 (ops1 rfl) (hrec (n_:=i64 (-n_)) s13 hx8) ?_
 rintro _ w16 ⟨rfl,Z⟩
 have Z:=k15 Z c0
 obtain ⟨hx10_l,hx10_e⟩:=cat_some hx10
 refine L_sadd (s:=(⟨#[45]⟩ : ByteArray)) (s':=x8) rfl rfl rfl hx10_l ?_
 rw [← hx10_e]
 refine aV (.string x10) rfl (nn (W_ret (retG1 (v1:=.string x10) Tryd.results59 rfl ?_)))
 obtain rfl:=so hF
 exact ⟨rfl,Z⟩
 have hF:=(ite_f hc2).symm.trans hF
 refine W_skip (sq (aV (.string (⟨#[]⟩ : ByteArray)) rfl (nq ?_)))
 obtain ⟨j20,hL20,hF⟩:=bind_some hF
 obtain ⟨R20,hR20⟩:=exR fun f w_=>∃ n_18 : Int,∃ out_19 : ByteArray,j20 = .nx (n_18,out_19)∧f 0 = I n_18∧f 3 = .string out_19∧Star H w_ ([])
 refine W_join R20 ?_ ?_
 refine W_block ?_
 obtain ⟨I20,hI20⟩:=exI fun n f w_=>∃ n_18 : Int,∃ out_19 : ByteArray,whileL s_l17Dec_b1 n (n_18,out_19) = some j20∧f 0 = I n_18∧f 3 = .string out_19∧Star H w_ ([])
 refine W_loop I20 (n:=fu) ?_ ?_
 exact ij hI20 ⟨n_,(⟨#[]⟩ : ByteArray),hL20,rfl,rfl,Z⟩
 intro n20 f w_ hI
 obtain ⟨n_18,out_19,hL20,sf0,sf3,Z⟩:=ik hI20 hI
 rcases n20 with _ | n20
 exact (while_zero hL20).elim
 obtain ⟨o20,hB20,hL20⟩:=while_succ hL20
 rw [s_l17Dec_b1] at hB20
 refine W_seq (sq (mF sf0 rfl (L_gtr rfl rfl rfl (nn (W_cond (b:=decide (n_18 > 9)) rfl (fun hc21=>?_) (fun hc21=>?_))))))
 have hB20:=(ite_t hc21).symm.trans hB20
 refine W_skip (W_block (W_seq ?_))
 obtain ⟨x25,hx25,hB20⟩:=bind_some hB20
 refine W_region (mF sf0 rfl (L_rem (m:=n_18) (n:=10) rfl rfl rfl (by decide) (L_add rfl rfl rfl (L_cv8 (n:=i64 (48 + (Int.tmod n_18 10))) rfl rfl ⟨_,Tryd.underlying3⟩ Tryd.underlying5 (L_bs rfl (parts1 rfl) (bs_37_1_0 (.int .u8 ((u8w (i64 (48 + (Int.tmod n_18 10)))).toNat : Int)) rfl) Z (fun g26 w27 Z=>?_))))))
 have Z:=Star.addF (r:=RP.u8) (cs:=[.int .u8 ((u8w (i64 (48 + (Int.tmod n_18 10)))).toNat : Int)]) (x:=(u8w (i64 (48 + (Int.tmod n_18 10))))) Z rfl
 have Z:=Star.mkRow (R:=(OR.frz RP.u8)) [([.int .u8 ((u8w (i64 (48 + (Int.tmod n_18 10)))).toNat : Int)],(u8w (i64 (48 + (Int.tmod n_18 10)))))] [(u8w (i64 (48 + (Int.tmod n_18 10))))] 1 Z rfl rfl rfl (by decide)
 refine L_cvs (xs:=[(u8w (i64 (48 + (Int.tmod n_18 10))))]) 0 rfl Tryd.underlying37 Tryd.underlying5 Tryd.underlying9 rfl Z rfl (by simp) (mF sf3 rfl ?_)
 obtain ⟨hx25_l,hx25_e⟩:=cat_some hx25
 refine L_sadd (s:=(bs [(u8w (i64 (48 + (Int.tmod n_18 10))))])) (s':=out_19) rfl rfl rfl hx25_l ?_
 rw [← hx25_e]
 refine aV (.string x25) rfl (nn (W_region (mF sf0 rfl (L_quo (m:=n_18) (n:=10) rfl rfl rfl (by decide) (aI rfl (nn ?_))))))
 obtain rfl:=so hB20
 show ∃ m,m < _∧I20 m _ _
 refine ⟨n20,Nat.lt_succ_self _,?_⟩
 exact ij hI20 ⟨i64 (Int.tdiv n_18 10),x25,hL20,rfl,rfl,(Star.keepN 0 Z)⟩
 have hB20:=(ite_f hc21).symm.trans hB20
 refine W_exit ?_
 obtain rfl:=so hB20
 obtain rfl:=so hL20
 exact rj hR20 ⟨n_18,out_19,rfl,sf0,sf3,Z⟩
 intro f w_ hR
 obtain ⟨n_18,out_19,rfl,sf0,sf3,Z⟩:=rk hR20 hR
 refine W_seq ?_
 obtain ⟨x32,hx32,hF⟩:=bind_some hF
 refine W_region (mF sf0 rfl (L_add rfl rfl rfl (L_cv8 (n:=i64 (48 + n_18)) rfl rfl ⟨_,Tryd.underlying3⟩ Tryd.underlying5 (L_bs rfl (parts1 rfl) (bs_37_1_0 (.int .u8 ((u8w (i64 (48 + n_18))).toNat : Int)) rfl) Z (fun g33 w34 Z=>?_)))))
 have Z:=Star.addF (r:=RP.u8) (cs:=[.int .u8 ((u8w (i64 (48 + n_18))).toNat : Int)]) (x:=(u8w (i64 (48 + n_18)))) Z rfl
 have Z:=Star.mkRow (R:=(OR.frz RP.u8)) [([.int .u8 ((u8w (i64 (48 + n_18))).toNat : Int)],(u8w (i64 (48 + n_18))))] [(u8w (i64 (48 + n_18)))] 1 Z rfl rfl rfl (by decide)
 refine L_cvs (xs:=[(u8w (i64 (48 + n_18)))]) 0 rfl Tryd.underlying37 Tryd.underlying5 Tryd.underlying9 rfl Z rfl (by simp) (mF sf3 rfl ?_)
 obtain ⟨hx32_l,hx32_e⟩:=cat_some hx32
 refine L_sadd (s:=(bs [(u8w (i64 (48 + n_18)))])) (s':=out_19) rfl rfl rfl hx32_l ?_
 rw [← hx32_e]
 refine aV (.string x32) rfl (nn (W_ret (retG1 (v1:=.string x32) Tryd.results59 rfl ?_)))
 obtain rfl:=so hF
 exact ⟨rfl,(Star.keepN 0 Z)⟩
theorem s_l17Dec_R_c {fu : Nat} : ∀ (n : Nat) {n_ : Int} {H : FH} {w : World} (Z : Star H w []) {r : ByteArray} (hF : s_l17Dec_R fu n n_ = some r),C Tryd.prog 59 #[I n_] w fun v w'=>v = .string r∧Star H w' []:=by
 intro n
 induction n with
 | zero=>intros; rename_i hF; cases hF
 | succ n ih=>intros; rename_i Z _ hF; exact s_l17Dec_F_c ih Z hF
theorem s_l17Dec_c {fu : Nat} {n_ : Int} {H : FH} {w : World} (Z : Star H w []) {r : ByteArray} (hF : s_l17Dec fu n_ = some r) :
 C Tryd.prog 59 #[I n_] w fun v w'=>v = .string r∧Star H w' []:=s_l17Dec_R_c fu Z hF
theorem s_l1Name_c {fu : Nat} {lit : Int} {H : FH} {w : World} (Z : Star H w []) {r : ByteArray} (hF : s_l1Name fu lit = some r) :
 C Tryd.prog 60 #[I lit] w fun v w'=>v = .string r∧Star H w' []:=by
 unfold s_l1Name at hF
 refine C_enter Tryd.func60 rfl Tryd.ntmps60 rfl (sq (aV (.string (⟨#[]⟩ : ByteArray)) rfl (nq (sq (mI rfl (L_lss rfl rfl rfl (nn (W_cond (b:=decide (lit < 0)) rfl (fun hc1=>?_) (fun hc1=>?_)))))))))
 have hF:=(ite_t hc1).symm.trans hF
 refine W_seq ?_
 obtain ⟨x7,hx7,hF⟩:=bind_some hF
 obtain ⟨x9,hx9,hF⟩:=bind_some hF
 refine W_region (mI rfl (L_neg rfl rfl ?_))
 obtain ⟨H10b,l11,s12,z13,k14⟩:=Z.borrow
 refine L_call rfl Tryd.call59 (ops1 rfl) (s_l17Dec_c (n_:=i64 (-lit)) s12 hx7) ?_
 rintro _ w15 ⟨rfl,Z⟩
 have Z:=k14 Z c0
 obtain ⟨hx9_l,hx9_e⟩:=cat_some hx9
 refine L_sadd (s:=(⟨#[126,120]⟩ : ByteArray)) (s':=x7) rfl rfl rfl hx9_l ?_
 rw [← hx9_e]
 refine aV (.string x9) rfl (nn (W_ret (retG1 (v1:=.string x9) Tryd.results60 rfl ?_)))
 obtain rfl:=so hF
 exact ⟨rfl,Z⟩
 have hF:=(ite_f hc1).symm.trans hF
 refine W_skip (W_seq ?_)
 obtain ⟨x21,hx21,hF⟩:=bind_some hF
 obtain ⟨x23,hx23,hF⟩:=bind_some hF
 refine W_region (mI rfl ?_)
 obtain ⟨H24b,l25,s26,z27,k28⟩:=Z.borrow
 refine L_call rfl Tryd.call59 (ops1 rfl) (s_l17Dec_c (n_:=lit) s26 hx21) ?_
 rintro _ w29 ⟨rfl,Z⟩
 have Z:=k28 Z c0
 obtain ⟨hx23_l,hx23_e⟩:=cat_some hx23
 refine L_sadd (s:=(⟨#[120]⟩ : ByteArray)) (s':=x21) rfl rfl rfl hx23_l ?_
 rw [← hx23_e]
 refine aV (.string x23) rfl (nn (W_ret (retG1 (v1:=.string x23) Tryd.results60 rfl ?_)))
 obtain rfl:=so hF
 exact ⟨rfl,Z⟩
theorem s_l1Text_c {fu : Nat} {c : Con} {v0_0 : Value} {H : FH} {w : World} (Z : Star H w []) (h0_0 : (rS 62 rTerm).rel H [v0_0] c.terms) {r : ByteArray} (hF : s_l1Text fu c = some r) :
 C Tryd.prog 32 #[.agg #[v0_0,I c.bound]] w fun v w'=>v = .string r∧Star H w' []:=by
 unfold s_l1Text at hF
 refine C_enter Tryd.func32 rfl Tryd.ntmps32 rfl (sq (L_box (v:=.agg #[v0_0,I c.bound]) (cs:=#[v0_0,I c.bound]) rfl rfl rfl Z (fun g3 w4 Z=>aV (.string (⟨#[]⟩ : ByteArray)) rfl (ns (aV (.string (⟨#[]⟩ : ByteArray)) rfl (nq (sq (aI rfl (nn ?_)))))))))
 have hlen9 : List.length c.terms≤9223372036854775807:=len_le (slice_len h0_0)
 obtain ⟨j9,hL9,hF⟩:=bind_some hF
 obtain ⟨R9,hR9⟩:=exR fun f w_=>∃ out_6 : ByteArray,∃ H7 : FH,j9 = .nx out_6∧Le H H7∧f 1 = Pt g3∧f 3 = .string out_6∧Star H7 w_ ([box g3 29 #[v0_0,I c.bound]])
 refine W_join R9 ?_ ?_
 refine W_block ?_
 obtain ⟨I9,hI9⟩:=exI fun n f w_=>∃ i_5 : Nat,∃ suf9 : List Term,∃ out_6 : ByteArray,∃ H7 : FH,n = suf9.length∧List.drop i_5 c.terms = suf9∧i_5 + suf9.length = c.terms.length∧rangeL (s_l1Text_b1 fu) suf9 i_5 out_6 = some j9∧Le H H7∧f 1 = Pt g3∧f 3 = .string out_6∧f 4 = I i_5∧Star H7 w_ ([box g3 29 #[v0_0,I c.bound]])
 refine W_loop I9 (n:=c.terms.length) ?_ ?_
 exact ij hI9 ⟨0,c.terms,(⟨#[]⟩ : ByteArray),H,rfl,rfl,Nat.zero_add _,hL9,(Le.refl _),rfl,rfl,rfl,Z⟩
 intro n9 f w_ hI
 obtain ⟨i_5,suf9,out_6,H7,rfl,hd9,hl9,hL9,l8,sf1,sf3,sf4,Z⟩:=ik hI9 hI
 refine W_seq (sq (mF sf4 rfl (fA 0 fa_29_0 sf1 rfl (ldB 0 Z Tryd.isAgg27 rfl rfl rfl (L_len rfl Tryd.underlying27 rfl (slice_len (RP.mono _ h0_0 l8)) (L_lss rfl rfl rfl (nn (W_cond (b:=decide ((i_5 : Int) < (c.terms.length : Int))) rfl (fun hc10=>?_) (fun hc10=>?_)))))))))
 have hlt9:=of_decide_eq_true hc10
 rcases suf9 with _ | ⟨x_9,rest9⟩
 exact absurd hlt9 (by simp at hl9; omega)
 obtain ⟨o9,hB9,hL9⟩:=range_cons hL9
 rw [s_l1Text_b1] at hB9
 have hix9:=drop_idx hd9
 refine W_skip (W_seq (W_block ?_))
 obtain ⟨x20,hx20,hB9⟩:=bind_some hB9
 obtain ⟨x22,hx22,hB9⟩:=bind_some hB9
 obtain ⟨x23,hx23,hB9⟩:=bind_some hB9
 obtain ⟨x33,hx33,hB9⟩:=bind_some hB9
 obtain ⟨x35,hx35,hB9⟩:=bind_some hB9
 obtain ⟨x36,hx36,hB9⟩:=bind_some hB9
 refine W_drawS 17 [isV (.string out_6),isV (Pt g3),isV (v0_0),isV (I i_5),isEl rTerm x_9 0,isEl rTerm x_9 0,isV (I x_9.coef),isV (.string x20),isV (.string x22),isV (.string x23),isV (Pt g3),isV (v0_0),isV (I i_5),isEl rTerm x_9 0,isEl rTerm x_9 1,isV (I x_9.lit),isV (.string x33)] [box g3 29 #[v0_0,I c.bound]] [] ([]) [([],[]),([],[]),([],[]),([],[]),([],[]),([],[]),([],[]),([],[]),([],[]),([],[]),([],[]),([],[]),([],[]),([],[]),([],[]),([],[]),([],[])] (S:=[]) Tryd_mix (by kernel_rfl) rfl (by kernel_rfl) (amF_cons (mono_V _) (amF_cons (mono_V _) (amF_cons (mono_V _) (amF_cons (mono_V _) (amF_cons (mono_el _ _ _) (amF_cons (mono_el _ _ _) (amF_cons (mono_V _) (amF_cons (mono_V _) (amF_cons (mono_V _) (amF_cons (mono_V _) (amF_cons (mono_V _) (amF_cons (mono_V _) (amF_cons (mono_V _) (amF_cons (mono_el _ _ _) (amF_cons (mono_el _ _ _) (amF_cons (mono_V _) (amF_cons (mono_V _) amF_nil))))))))))))))))) Z ?_ (fun f w_ H37 hS37 hE37 hT37 Z=>?_)
 refine opsS_cons (fun f w_ _ _ s _ _ Z=>mF ((s 3 rfl).trans sf3) rfl (nO rfl rfl Z)) (opsS_cons (fun f w_ _ _ s _ _ Z=>fA 0 fa_29_0 ((s 1 rfl).trans sf1) rfl (nO rfl rfl Z)) (opsS_cons (fun f w_ _ _ _ _ p Z=>ldB 0 Z Tryd.isAgg27 (p 1 13 rfl rfl) rfl rfl (nO rfl rfl Z)) (opsS_cons (fun f w_ _ _ s _ _ Z=>mF ((s 4 rfl).trans sf4) rfl (nO rfl rfl Z)) (opsS_cons ?_ ?_))))
 intro f w_ H37 X37 hS37 hE37 hP37 Z
 refine L_ix (r:=rTerm) rfl Tryd.underlying27 Tryd.sizeOf62 (hP37 2 14 rfl rfl) (RP.mono _ h0_0 (Le.trans l8 hE37)) (hP37 3 15 rfl rfl) hix9 (fun g58 o59 cs_g58 hrk_hat60 hat60=>?_)
 obtain rfl:=rTerm_iff.1 hrk_hat60
 exact L_nil ⟨rfl,_,_,rfl,Le.refl _,fun _ _=>⟨_,_,_,rfl,hrk_hat60,hat60⟩,Z⟩
 refine opsS_cons ?_ ?_
 intro f w_ H37 X37 hS37 hE37 hP37 Z
 obtain ⟨g62,o62,cs62,hv62,hrk_hat62,hat62⟩:=(hP37 4 16 rfl rfl)
 obtain rfl:=rTerm_iff.1 hrk_hat62
 refine fA o62 fa_62_0 hv62 rfl (L_nil ⟨rfl,_,_,rfl,Le.refl _,fun _ _=>⟨_,_,_,rfl,hrk_hat62,hat62⟩,Z⟩)
 refine opsS_cons ?_ ?_
 intro f w_ H37 X37 hS37 hE37 hP37 Z
 obtain ⟨g64,o64,cs64,hv64,hrk_hat64,hat64⟩:=(hP37 5 17 rfl rfl)
 obtain rfl:=rTerm_iff.1 hrk_hat64
 refine L_ld rfl Tryd.isAgg3 hv64 (At.cell (AtH.at hat64 Z.sub) (j:=0) rfl) (L_nil ⟨rfl,_,_,rfl,Le.refl _,fun _ _=>rfl,Z⟩)
 refine opsS_cons ?_ ?_
 intro f w_ H37 X37 hS37 hE37 hP37 Z
 obtain ⟨H66b,l67,s68,z69,k70⟩:=Z.borrow
 refine L_call rfl Tryd.call59 (ops1 (hP37 6 18 rfl rfl)) (s_l17Dec_c (n_:=x_9.coef) s68 hx20) ?_
 rintro _ w71 ⟨rfl,Z⟩
 have Z:=k70 Z c0
 exact L_nil ⟨rfl,_,_,rfl,Le.refl _,fun _ _=>rfl,Z⟩
 refine opsS_cons ?_ ?_
 intro f w_ H37 X37 hS37 hE37 hP37 Z
 obtain ⟨hx22_l,hx22_e⟩:=cat_some hx22
 refine L_sadd (s:=out_6) (s':=x20) rfl (hP37 0 12 rfl rfl) (hP37 7 19 rfl rfl) hx22_l ?_
 rw [← hx22_e]
 exact L_nil ⟨rfl,_,_,rfl,Le.refl _,fun _ _=>rfl,Z⟩
 refine opsS_cons ?_ ?_
 intro f w_ H37 X37 hS37 hE37 hP37 Z
 obtain ⟨hx23_l,hx23_e⟩:=cat_some hx23
 refine L_sadd (s:=x22) (s':=(⟨#[32]⟩ : ByteArray)) rfl (hP37 8 20 rfl rfl) rfl hx23_l ?_
 rw [← hx23_e]
 exact L_nil ⟨rfl,_,_,rfl,Le.refl _,fun _ _=>rfl,Z⟩
 refine opsS_cons (fun f w_ _ _ s _ _ Z=>fA 0 fa_29_0 ((s 1 rfl).trans sf1) rfl (nO rfl rfl Z)) (opsS_cons (fun f w_ _ _ _ _ p Z=>ldB 0 Z Tryd.isAgg27 (p 10 22 rfl rfl) rfl rfl (nO rfl rfl Z)) (opsS_cons (fun f w_ _ _ s _ _ Z=>mF ((s 4 rfl).trans sf4) rfl (nO rfl rfl Z)) (opsS_cons ?_ ?_)))
 intro f w_ H37 X37 hS37 hE37 hP37 Z
 refine L_ix (r:=rTerm) rfl Tryd.underlying27 Tryd.sizeOf62 (hP37 11 23 rfl rfl) (RP.mono _ h0_0 (Le.trans l8 hE37)) (hP37 12 24 rfl rfl) hix9 (fun g72 o73 cs_g72 hrk_hat74 hat74=>?_)
 obtain rfl:=rTerm_iff.1 hrk_hat74
 exact L_nil ⟨rfl,_,_,rfl,Le.refl _,fun _ _=>⟨_,_,_,rfl,hrk_hat74,hat74⟩,Z⟩
 refine opsS_cons ?_ ?_
 intro f w_ H37 X37 hS37 hE37 hP37 Z
 obtain ⟨g76,o76,cs76,hv76,hrk_hat76,hat76⟩:=(hP37 13 25 rfl rfl)
 obtain rfl:=rTerm_iff.1 hrk_hat76
 refine fA (o76 + 1) fa_62_1 hv76 rfl (L_nil ⟨rfl,_,_,rfl,Le.refl _,fun _ _=>⟨_,_,_,rfl,hrk_hat76,hat76⟩,Z⟩)
 refine opsS_cons ?_ ?_
 intro f w_ H37 X37 hS37 hE37 hP37 Z
 obtain ⟨g78,o78,cs78,hv78,hrk_hat78,hat78⟩:=(hP37 14 26 rfl rfl)
 obtain rfl:=rTerm_iff.1 hrk_hat78
 refine L_ld rfl Tryd.isAgg3 hv78 (At.cell (AtH.at hat78 Z.sub) (j:=1) rfl) (L_nil ⟨rfl,_,_,rfl,Le.refl _,fun _ _=>rfl,Z⟩)
 refine opsS_cons ?_ ?_
 intro f w_ H37 X37 hS37 hE37 hP37 Z
 obtain ⟨H80b,l81,s82,z83,k84⟩:=Z.borrow
 refine L_call rfl Tryd.call60 (ops1 (hP37 15 27 rfl rfl)) (s_l1Name_c (lit:=x_9.lit) s82 hx33) ?_
 rintro _ w85 ⟨rfl,Z⟩
 have Z:=k84 Z c0
 exact L_nil ⟨rfl,_,_,rfl,Le.refl _,fun _ _=>rfl,Z⟩
 exact opsS_nil
 obtain ⟨hx35_l,hx35_e⟩:=cat_some hx35
 refine L_sadd (s:=x23) (s':=x33) rfl (hT37 9 21 rfl rfl) (hT37 16 28 rfl rfl) hx35_l ?_
 rw [← hx35_e]
 obtain ⟨hx36_l,hx36_e⟩:=cat_some hx36
 refine L_sadd (s:=x35) (s':=(⟨#[32]⟩ : ByteArray)) rfl rfl rfl hx36_l ?_
 rw [← hx36_e]
 refine aV (.string x36) rfl (nn (W_region (mF ((hS37 4 rfl).trans sf4) rfl (L_add rfl rfl rfl (aI rfl (nn ?_))))))
 obtain rfl:=so hB9
 show ∃ m,m < _∧I9 m _ _
 refine ⟨rest9.length,by simp,?_⟩
 exact ij hI9 ⟨i_5 + 1,rest9,x36,H37,rfl,drop_next hd9,by simp at hl9; omega,hL9,(Le.trans l8 hE37),((hS37 1 rfl).trans sf1),rfl,(Eq.trans rfl (congrArg (Value.int .i64) (i64_succ (n:=c.terms.length) (by simp at hl9; omega) hlen9))),Z⟩
 rcases suf9 with _ | ⟨_,_⟩
 obtain rfl:=range_nil hL9
 refine W_exit (rj hR9 ⟨out_6,H7,rfl,l8,sf1,sf3,Z⟩)
 exact absurd (of_decide_eq_false hc10) (by simp at hl9; omega)
 intro f w_ hR
 obtain ⟨out_6,H7,rfl,l8,sf1,sf3,Z⟩:=rk hR9 hR
 refine W_seq ?_
 obtain ⟨x86,hx86,hF⟩:=bind_some hF
 obtain ⟨x92,hx92,hF⟩:=bind_some hF
 obtain ⟨x94,hx94,hF⟩:=bind_some hF
 refine W_region (mF sf3 rfl ?_)
 obtain ⟨hx86_l,hx86_e⟩:=cat_some hx86
 refine L_sadd (s:=out_6) (s':=(⟨#[62,61,32]⟩ : ByteArray)) rfl rfl rfl hx86_l ?_
 rw [← hx86_e]
 refine fA 1 fa_29_1 sf1 rfl (ldB 0 Z Tryd.isAgg3 rfl rfl rfl ?_)
 obtain ⟨H95b,l96,s97,z98,k99⟩:=Z.borrow
 refine L_call rfl Tryd.call59 (ops1 rfl) (s_l17Dec_c (n_:=c.bound) s97 hx92) ?_
 rintro _ w100 ⟨rfl,Z⟩
 have Z:=k99 Z c0
 obtain ⟨hx94_l,hx94_e⟩:=cat_some hx94
 refine L_sadd (s:=x86) (s':=x92) rfl rfl rfl hx94_l ?_
 rw [← hx94_e]
 refine aV (.string x94) rfl (nn (W_ret (retG1 (v1:=.string x94) Tryd.results32 rfl ?_)))
 obtain rfl:=so hF
 exact ⟨rfl,(Star.down (Star.keepN 0 Z) l8 c0)⟩
theorem s_FormatConstraint_c {fu : Nat} {c : Con} {v0_0 : Value} {H : FH} {w : World} (Z : Star H w []) (h0_0 : (rS 62 rTerm).rel H [v0_0] c.terms) {r : ByteArray} (hF : s_FormatConstraint fu c = some r) :
 C Tryd.prog 9 #[.agg #[v0_0,I c.bound]] w fun v w'=>v = .string r∧Star H w' []:=by
 unfold s_FormatConstraint at hF
 refine C_enter Tryd.func9 rfl Tryd.ntmps9 rfl (sq (L_box (v:=.agg #[v0_0,I c.bound]) (cs:=#[v0_0,I c.bound]) rfl rfl rfl Z (fun g3 w4 Z=>aV (.string (⟨#[]⟩ : ByteArray)) rfl (nq (W_seq ?_)))))
 obtain ⟨x10,hx10,hF⟩:=bind_some hF
 refine W_region (L_lda (cs:=[v0_0,I c.bound]) rfl Tryd.isAgg29 Tryd.sizeOf29 rfl (At.sub0 (Blk.at (Star.blkAt 0 Z rfl)) 0 2) rfl ?_)
 obtain ⟨H12b,l13,s14,z15,k16⟩:=Z.borrow
 refine L_call rfl Tryd.call19 (ops1 rfl) (s_ConstraintValid_c (c:=c) s14 (RP.mono _ h0_0 l13) hx10) ?_
 rintro _ w17 ⟨rfl,Z⟩
 have Z:=k16 Z c0
 refine L_not_ rfl rfl (nn (W_cond (b:=(!x10)) rfl (fun hc18=>?_) (fun hc18=>?_)))
 have hF:=(ite_t hc18).symm.trans hF
 refine sq (aV (.string (⟨#[]⟩ : ByteArray)) rfl (nn (W_ret (retG1 (v1:=.string (⟨#[]⟩ : ByteArray)) Tryd.results9 rfl ?_))))
 obtain rfl:=so hF
 exact ⟨rfl,(Star.keepN 0 Z)⟩
 have hF:=(ite_f hc18).symm.trans hF
 refine W_skip (W_seq ?_)
 obtain ⟨x24,hx24,hF⟩:=bind_some hF
 refine W_region (L_lda (cs:=[v0_0,I c.bound]) rfl Tryd.isAgg29 Tryd.sizeOf29 rfl (At.sub0 (Blk.at (Star.blkAt 0 Z rfl)) 0 2) rfl ?_)
 obtain ⟨H26b,l27,s28,z29,k30⟩:=Z.borrow
 refine L_call rfl Tryd.call32 (ops1 rfl) (s_l1Text_c (c:=c) s28 (RP.mono _ h0_0 l27) hx24) ?_
 rintro _ w31 ⟨rfl,Z⟩
 have Z:=k30 Z c0
 refine aV (.string x24) rfl (nn (W_ret (retG1 (v1:=.string x24) Tryd.results9 rfl ?_)))
 obtain rfl:=so hF
 exact ⟨rfl,(Star.keepN 0 Z)⟩
theorem i_within_c {n_ : Int} {low : Int} {high : Int} {H : FH} {w : World} (Z : Star H w []) {r : Bool} (hF : i_within n_ low high = some r) :
 C Tryd.prog 47 #[I n_,I low,I high] w fun v w'=>v = Bo r∧Star H w' []:=by
 unfold i_within at hF
 refine C_enter Tryd.func47 rfl Tryd.ntmps47 rfl (sq (aB rfl (nq ?_)))
 obtain ⟨R1,hR1⟩:=exR fun f w_=>f 6 = Bo ((decide (low≤n_)) && (decide (n_≤high)))∧Star H w_ ([])
 refine W_join R1 ?_ ?_
 refine W_region (mI rfl (mI rfl (L_leq rfl rfl rfl (mB rfl (L_split (d:=10) (b:=decide (low≤n_)) rfl (fun hc2=>?_) (fun hc2=>?_))))))
 refine mI rfl (mI rfl (L_leq rfl rfl rfl (L_pick (v:=Bo ((decide (low≤n_)) && (decide (n_≤high)))) rfl rfl (and_t hc2 rfl) (aB rfl (nn (rj hR1 ⟨rfl,Z⟩))))))
 refine ps rfl (ps rfl (ps rfl (L_pick (v:=Bo ((decide (low≤n_)) && (decide (n_≤high)))) rfl rfl (and_f hc2) (aB rfl (nn (rj hR1 ⟨rfl,Z⟩))))))
 intro f w_ hR
 obtain ⟨sf6,Z⟩:=rk hR1 hR
 refine W_ret (retG1 (v1:=Bo ((decide (low≤n_)) && (decide (n_≤high)))) Tryd.results47 sf6 ?_)
 obtain rfl:=so hF
 exact ⟨rfl,Z⟩
theorem i_isLiteral_c {l : Int} {H : FH} {w : World} (Z : Star H w []) {r : Bool} (hF : i_isLiteral l = some r) :
 C Tryd.prog 45 #[I l] w fun v w'=>v = Bo r∧Star H w' []:=by
 unfold i_isLiteral at hF
 refine C_enter Tryd.func45 rfl Tryd.ntmps45 rfl (sq (aB rfl (nq ?_)))
 obtain ⟨b8,hb8,hF⟩:=bind_some hF
 obtain ⟨R9,hR9⟩:=exR fun f w_=>f 2 = Bo b8∧Star H w_ ([])
 refine W_join R9 ?_ ?_
 refine W_region (mI rfl (L_neq rfl rfl rfl (mB rfl (L_split (d:=5) (b:=(l != 0)) rfl (fun hc10=>?_) (fun hc10=>?_)))))
 rw [ite_t hc10] at hb8
 obtain ⟨x6,hx6,hb8⟩:=bind_some hb8
 refine mI rfl ?_
 obtain ⟨H11b,l12,s13,z14,k15⟩:=Z.borrow
 refine L_call rfl Tryd.call47 (ops3 rfl rfl rfl) (i_within_c (n_:=l) (low:=(-12)) (high:=12) s13 hx6) ?_
 rintro _ w16 ⟨rfl,Z⟩
 have Z:=k15 Z c0
 refine L_pick (v:=Bo b8) rfl rfl (congrArg Value.bool (so hb8)) (aB rfl (nn (rj hR9 ⟨rfl,Z⟩)))
 rw [ite_f hc10] at hb8
 refine ps rfl (ps rfl (L_pick (v:=Bo b8) rfl rfl (congrArg Value.bool (so hb8)) (aB rfl (nn (rj hR9 ⟨rfl,Z⟩)))))
 intro f w_ hR
 obtain ⟨sf2,Z⟩:=rk hR9 hR
 refine W_ret (retG1 (v1:=Bo b8) Tryd.results45 sf2 ?_)
 obtain rfl:=so hF
 exact ⟨rfl,Z⟩
theorem i_variableOf_c {l : Int} {H : FH} {w : World} (Z : Star H w []) {r : Int} (hF : i_variableOf l = some r) :
 C Tryd.prog 46 #[I l] w fun v w'=>v = I r∧Star H w' []:=by
 unfold i_variableOf at hF
 refine C_enter Tryd.func46 rfl Tryd.ntmps46 rfl (sq (aI rfl (ns (mI rfl (mI rfl (L_neg rfl rfl (L_max rfl rfl rfl (aI rfl (nn (W_ret (retG1 (v1:=I (max l (i64 (-l)))) Tryd.results46 rfl ?_)))))))))))
 obtain rfl:=so hF
 exact ⟨rfl,Z⟩
theorem i_ConstraintValid_c {c : Con} {v0_0 : Value} {H : FH} {w : World} (Z : Star H w []) (h0_0 : (rS 62 rTerm).rel H [v0_0] c.terms) {r : Bool} (hF : i_ConstraintValid c = some r) :
 C Tryd.prog 18 #[.agg #[v0_0,I c.bound]] w fun v w'=>v = Bo r∧Star H w' []:=by
 unfold i_ConstraintValid at hF
 refine C_enter Tryd.func18 rfl Tryd.ntmps18 rfl (sq (L_box (v:=.agg #[v0_0,I c.bound]) (cs:=#[v0_0,I c.bound]) rfl rfl rfl Z (fun g3 w4 Z=>aB rfl (ns (aI rfl (nq (sq (fA 0 fa_29_0 rfl rfl (ldB 0 Z Tryd.isAgg27 rfl rfl rfl (L_len rfl Tryd.underlying27 rfl (slice_len h0_0) (mI rfl (nn ?_))))))))))))
 have hlen7 : List.length c.terms≤9223372036854775807:=len_le (slice_len h0_0)
 obtain ⟨j7,hL7,hF⟩:=bind_some hF
 obtain ⟨R7,hR7⟩:=exR fun f w_=>∃ before_6 : Int,j7 = .nx before_6∧f 1 = Pt g3∧Star H w_ ([box g3 29 #[v0_0,I c.bound]])
 refine W_join R7 ?_ ?_
 refine W_block ?_
 obtain ⟨I7,hI7⟩:=exI fun n f w_=>∃ i_5 : Nat,∃ suf7 : List Term,∃ before_6 : Int,n = suf7.length∧List.drop i_5 c.terms = suf7∧i_5 + suf7.length = c.terms.length∧rangeL i_ConstraintValid_b1 suf7 i_5 before_6 = some j7∧f 1 = Pt g3∧f 3 = I before_6∧f 7 = v0_0∧f 8 = I (c.terms.length : Int)∧f 9 = I i_5∧Star H w_ ([box g3 29 #[v0_0,I c.bound]])
 refine W_loop I7 (n:=c.terms.length) ?_ ?_
 exact ij hI7 ⟨0,c.terms,0,rfl,rfl,Nat.zero_add _,hL7,rfl,rfl,rfl,rfl,rfl,Z⟩
 intro n7 f w_ hI
 obtain ⟨i_5,suf7,before_6,rfl,hd7,hl7,hL7,sf1,sf3,sf7,sf8,sf9,Z⟩:=ik hI7 hI
 refine sq (L_lss rfl sf9 sf8 (nq (W_cond (b:=decide ((i_5 : Int) < (c.terms.length : Int))) rfl (fun hc8=>?_) (fun hc8=>?_))))
 have hlt7:=of_decide_eq_true hc8
 rcases suf7 with _ | ⟨x_7,rest7⟩
 exact absurd hlt7 (by simp at hl7; omega)
 obtain ⟨o7,hB7,hL7⟩:=range_cons hL7
 rw [i_ConstraintValid_b1] at hB7
 have hix7:=drop_idx hd7
 refine W_skip (W_seq (W_block (sq (L_ix (r:=rTerm) rfl Tryd.underlying27 Tryd.sizeOf62 sf7 h0_0 sf9 hix7 (fun g16 o17 cs_g16 hrk_hat18 hat18=>?_)))))
 obtain rfl:=rTerm_iff.1 hrk_hat18
 refine L_lda (cs:=[I x_7.coef,I x_7.lit]) rfl Tryd.isAgg62 Tryd.sizeOf62 rfl (At.sub (AtH.at hat18 Z.sub) 0 2) rfl (L_al (cs:=#[I 0,I 0]) rfl Tryd.zeroValue62 rfl Z (fun g20 w21 Z=>L_staB (vs:=#[I x_7.coef,I x_7.lit]) (cs2:=#[I x_7.coef,I x_7.lit]) 0 rfl Tryd.sizeOf62 rfl rfl rfl (ones_cons rfl (ones_cons rfl ones_nil)) Z rfl (by show 0 + 2≤2; decide) rfl (fun w22 Z=>nq (W_seq ?_))))
 obtain ⟨x28,hx28,hB7⟩:=bind_some hB7
 obtain ⟨b37,hb37,hB7⟩:=bind_some hB7
 obtain ⟨b45,hb45,hB7⟩:=bind_some hB7
 obtain ⟨R46,hR46⟩:=exR fun f w_=>f 1 = Pt g3∧f 5 = Pt g20∧f 7 = v0_0∧f 8 = I (c.terms.length : Int)∧f 9 = I i_5∧f 29 = Bo b45∧Star H w_ ([box g20 62 #[I x_7.coef,I x_7.lit],box g3 29 #[v0_0,I c.bound]])
 refine W_join R46 ?_ ?_
 refine W_region (fA 1 fa_62_1 rfl rfl (ldB 0 Z Tryd.isAgg3 rfl rfl rfl ?_))
 obtain ⟨H47b,l48,s49,z50,k51⟩:=Z.borrow
 refine L_call rfl Tryd.call45 (ops1 rfl) (i_isLiteral_c (l:=x_7.lit) s49 hx28) ?_
 rintro _ w52 ⟨rfl,Z⟩
 have Z:=k51 Z c0
 refine L_not_ rfl rfl (mB rfl (L_split (d:=17) (b:=(!x28)) rfl (fun hc53=>?_) (fun hc53=>?_)))
 rw [ite_t hc53] at hb37
 refine ps rfl (ps rfl (ps rfl (ps rfl (ps rfl (L_pick (v:=Bo b37) rfl rfl (congrArg Value.bool (so hb37)) (mB rfl (L_split (d:=24) (b:=b37) rfl (fun hc54=>?_) (fun hc54=>?_))))))))
 rw [ite_t hc54] at hb45
 refine ps rfl (ps rfl (ps rfl (ps rfl (L_pick (v:=Bo b45) rfl rfl (congrArg Value.bool (so hb45)) (nn (rj hR46 ⟨sf1,rfl,sf7,sf8,sf9,rfl,Z⟩))))))
 rw [ite_f hc54] at hb45
 obtain ⟨x43,hx43,hb45⟩:=bind_some hb45
 refine fA 0 fa_62_0 rfl rfl (ldB 0 Z Tryd.isAgg3 rfl rfl rfl ?_)
 obtain ⟨H55b,l56,s57,z58,k59⟩:=Z.borrow
 refine L_call rfl Tryd.call47 (ops3 rfl rfl rfl) (i_within_c (n_:=x_7.coef) (low:=1) (high:=1000) s57 hx43) ?_
 rintro _ w60 ⟨rfl,Z⟩
 have Z:=k59 Z c0
 refine L_not_ rfl rfl (L_pick (v:=Bo b45) rfl rfl (congrArg Value.bool (so hb45)) (nn (rj hR46 ⟨sf1,rfl,sf7,sf8,sf9,rfl,Z⟩)))
 rw [ite_f hc53] at hb37
 obtain ⟨x35,hx35,hb37⟩:=bind_some hb37
 refine fA 1 fa_62_1 rfl rfl (ldB 0 Z Tryd.isAgg3 rfl rfl rfl ?_)
 obtain ⟨H61b,l62,s63,z64,k65⟩:=Z.borrow
 refine L_call rfl Tryd.call46 (ops1 rfl) (i_variableOf_c (l:=x_7.lit) s63 hx35) ?_
 rintro _ w66 ⟨rfl,Z⟩
 have Z:=k65 Z c0
 refine mF sf3 rfl (L_leq rfl rfl rfl (L_pick (v:=Bo b37) rfl rfl (congrArg Value.bool (so hb37)) (mB rfl (L_split (d:=24) (b:=b37) rfl (fun hc67=>?_) (fun hc67=>?_)))))
 rw [ite_t hc67] at hb45
 refine ps rfl (ps rfl (ps rfl (ps rfl (L_pick (v:=Bo b45) rfl rfl (congrArg Value.bool (so hb45)) (nn (rj hR46 ⟨sf1,rfl,sf7,sf8,sf9,rfl,Z⟩))))))
 rw [ite_f hc67] at hb45
 obtain ⟨x43,hx43,hb45⟩:=bind_some hb45
 refine fA 0 fa_62_0 rfl rfl (ldB 0 Z Tryd.isAgg3 rfl rfl rfl ?_)
 obtain ⟨H68b,l69,s70,z71,k72⟩:=Z.borrow
 refine L_call rfl Tryd.call47 (ops3 rfl rfl rfl) (i_within_c (n_:=x_7.coef) (low:=1) (high:=1000) s70 hx43) ?_
 rintro _ w73 ⟨rfl,Z⟩
 have Z:=k72 Z c0
 refine L_not_ rfl rfl (L_pick (v:=Bo b45) rfl rfl (congrArg Value.bool (so hb45)) (nn (rj hR46 ⟨sf1,rfl,sf7,sf8,sf9,rfl,Z⟩)))
 intro f w_ hR
 obtain ⟨sf1,sf5,sf7,sf8,sf9,sf29,Z⟩:=rk hR46 hR
 refine W_cond (b:=b45) sf29 (fun hc74=>?_) (fun hc74=>?_)
 have hB7:=(ite_t hc74).symm.trans hB7
 refine sq (aB rfl (nn (W_ret (retG1 (v1:=Bo false) Tryd.results18 rfl ?_))))
 obtain rfl:=so hB7
 obtain rfl:=so hL7
 obtain rfl:=so hF
 exact ⟨rfl,(Star.keepN 0 Z)⟩
 have hB7:=(ite_f hc74).symm.trans hB7
 refine W_skip ?_
 obtain ⟨x80,hx80,hB7⟩:=bind_some hB7
 refine W_region (fA 1 fa_62_1 sf5 rfl (ldB 0 Z Tryd.isAgg3 rfl rfl rfl ?_))
 obtain ⟨H82b,l83,s84,z85,k86⟩:=Z.borrow
 refine L_call rfl Tryd.call46 (ops1 rfl) (i_variableOf_c (l:=x_7.lit) s84 hx80) ?_
 rintro _ w87 ⟨rfl,Z⟩
 have Z:=k86 Z c0
 refine aI rfl (nn (W_region (L_add rfl sf9 rfl (mI rfl (nn ?_)))))
 obtain rfl:=so hB7
 have Z:=Z.get 1 rfl
 show ∃ m,m < _∧I7 m _ _
 refine ⟨rest7.length,by simp,?_⟩
 exact ij hI7 ⟨i_5 + 1,rest7,x80,rfl,drop_next hd7,by simp at hl7; omega,hL7,sf1,rfl,sf7,sf8,(Eq.trans rfl (congrArg (Value.int .i64) (i64_succ (n:=c.terms.length) (by simp at hl7; omega) hlen7))),(Star.keepN 1 Z)⟩
 rcases suf7 with _ | ⟨_,_⟩
 obtain rfl:=range_nil hL7
 refine W_exit (rj hR7 ⟨before_6,rfl,sf1,Z⟩)
 exact absurd (of_decide_eq_false hc8) (by simp at hl7; omega)
 intro f w_ hR
 obtain ⟨before_6,rfl,sf1,Z⟩:=rk hR7 hR
 refine W_seq ?_
 obtain ⟨x93,hx93,hF⟩:=bind_some hF
 refine W_region (fA 1 fa_29_1 sf1 rfl (ldB 0 Z Tryd.isAgg3 rfl rfl rfl ?_))
 obtain ⟨H95b,l96,s97,z98,k99⟩:=Z.borrow
 refine L_call rfl Tryd.call47 (ops3 rfl rfl rfl) (i_within_c (n_:=c.bound) (low:=0) (high:=20000) s97 hx93) ?_
 rintro _ w100 ⟨rfl,Z⟩
 have Z:=k99 Z c0
 refine aB rfl (nn (W_ret (retG1 (v1:=Bo x93) Tryd.results18 rfl ?_)))
 obtain rfl:=so hF
 exact ⟨rfl,(Star.keepN 0 Z)⟩
theorem strconv_Itoa_c {x_ : Int} {H : FH} {w : World} (Z : Star H w []) {r : ByteArray} (hF : strconv_Itoa x_ = some r) :
 C Tryd.prog 62 #[I x_] w fun v w'=>v = .string r∧Star H w' []:=by
 obtain ⟨h0,h1,rfl⟩:=strconv_Itoa_some hF
 refine Calls.mono (Tryd.strconv_Itoa x_ h0 h1 w (Z.sub.var H.glob.tab)) ?_
 rintro e w' ⟨rfl,k,os,rfl⟩
 exact ⟨_,rfl,rfl,Star.ext Z (grown_drew w k os)⟩
theorem i_literalText_c {l : Int} {H : FH} {w : World} (Z : Star H w []) {r : ByteArray} (hF : i_literalText l = some r) :
 C Tryd.prog 63 #[I l] w fun v w'=>v = .string r∧Star H w' []:=by
 unfold i_literalText at hF
 refine C_enter Tryd.func63 rfl Tryd.ntmps63 rfl (sq (aV (.string (⟨#[]⟩ : ByteArray)) rfl (nq (sq (mI rfl (L_lss rfl rfl rfl (nn (W_cond (b:=decide (l < 0)) rfl (fun hc1=>?_) (fun hc1=>?_)))))))))
 have hF:=(ite_t hc1).symm.trans hF
 refine W_seq ?_
 obtain ⟨x7,hx7,hF⟩:=bind_some hF
 obtain ⟨x9,hx9,hF⟩:=bind_some hF
 refine W_region (mI rfl (L_neg rfl rfl ?_))
 obtain ⟨H10b,l11,s12,z13,k14⟩:=Z.borrow
 refine L_call rfl Tryd.call62 (ops1 rfl) (strconv_Itoa_c (x_:=i64 (-l)) s12 hx7) ?_
 rintro _ w15 ⟨rfl,Z⟩
 have Z:=k14 Z c0
 obtain ⟨hx9_l,hx9_e⟩:=cat_some hx9
 refine L_sadd (s:=(⟨#[126,120]⟩ : ByteArray)) (s':=x7) rfl rfl rfl hx9_l ?_
 rw [← hx9_e]
 refine aV (.string x9) rfl (nn (W_ret (retG1 (v1:=.string x9) Tryd.results63 rfl ?_)))
 obtain rfl:=so hF
 exact ⟨rfl,Z⟩
 have hF:=(ite_f hc1).symm.trans hF
 refine W_skip (W_seq ?_)
 obtain ⟨x21,hx21,hF⟩:=bind_some hF
 obtain ⟨x23,hx23,hF⟩:=bind_some hF
 refine W_region (mI rfl ?_)
 obtain ⟨H24b,l25,s26,z27,k28⟩:=Z.borrow
 refine L_call rfl Tryd.call62 (ops1 rfl) (strconv_Itoa_c (x_:=l) s26 hx21) ?_
 rintro _ w29 ⟨rfl,Z⟩
 have Z:=k28 Z c0
 obtain ⟨hx23_l,hx23_e⟩:=cat_some hx23
 refine L_sadd (s:=(⟨#[120]⟩ : ByteArray)) (s':=x21) rfl rfl rfl hx23_l ?_
 rw [← hx23_e]
 refine aV (.string x23) rfl (nn (W_ret (retG1 (v1:=.string x23) Tryd.results63 rfl ?_)))
 obtain rfl:=so hF
 exact ⟨rfl,Z⟩
theorem i_Constraint_text_c {c : Con} {v0_0 : Value} {H : FH} {w : World} (Z : Star H w []) (h0_0 : (rS 62 rTerm).rel H [v0_0] c.terms) {r : ByteArray} (hF : i_Constraint_text c = some r) :
 C Tryd.prog 34 #[.agg #[v0_0,I c.bound]] w fun v w'=>v = .string r∧Star H w' []:=by
 unfold i_Constraint_text at hF
 refine C_enter Tryd.func34 rfl Tryd.ntmps34 rfl (sq (L_box (v:=.agg #[v0_0,I c.bound]) (cs:=#[v0_0,I c.bound]) rfl rfl rfl Z (fun g3 w4 Z=>aV (.string (⟨#[]⟩ : ByteArray)) rfl (ns (aV (.string (⟨#[]⟩ : ByteArray)) rfl (nq (sq (fA 0 fa_29_0 rfl rfl (ldB 0 Z Tryd.isAgg27 rfl rfl rfl (L_len rfl Tryd.underlying27 rfl (slice_len h0_0) (mI rfl (nn ?_))))))))))))
 have hlen9 : List.length c.terms≤9223372036854775807:=len_le (slice_len h0_0)
 obtain ⟨j9,hL9,hF⟩:=bind_some hF
 obtain ⟨R9,hR9⟩:=exR fun f w_=>∃ out_6 : ByteArray,∃ H7 : FH,j9 = .nx out_6∧Le H H7∧f 1 = Pt g3∧f 3 = .string out_6∧Star H7 w_ ([box g3 29 #[v0_0,I c.bound]])
 refine W_join R9 ?_ ?_
 refine W_block ?_
 obtain ⟨I9,hI9⟩:=exI fun n f w_=>∃ i_5 : Nat,∃ suf9 : List Term,∃ out_6 : ByteArray,∃ H7 : FH,n = suf9.length∧List.drop i_5 c.terms = suf9∧i_5 + suf9.length = c.terms.length∧rangeL i_Constraint_text_b1 suf9 i_5 out_6 = some j9∧Le H H7∧f 1 = Pt g3∧f 3 = .string out_6∧f 7 = v0_0∧f 8 = I (c.terms.length : Int)∧f 9 = I i_5∧Star H7 w_ ([box g3 29 #[v0_0,I c.bound]])
 refine W_loop I9 (n:=c.terms.length) ?_ ?_
 exact ij hI9 ⟨0,c.terms,(⟨#[]⟩ : ByteArray),H,rfl,rfl,Nat.zero_add _,hL9,(Le.refl _),rfl,rfl,rfl,rfl,rfl,Z⟩
 intro n9 f w_ hI
 obtain ⟨i_5,suf9,out_6,H7,rfl,hd9,hl9,hL9,l8,sf1,sf3,sf7,sf8,sf9,Z⟩:=ik hI9 hI
 refine sq (L_lss rfl sf9 sf8 (nq (W_cond (b:=decide ((i_5 : Int) < (c.terms.length : Int))) rfl (fun hc10=>?_) (fun hc10=>?_))))
 have hlt9:=of_decide_eq_true hc10
 rcases suf9 with _ | ⟨x_9,rest9⟩
 exact absurd hlt9 (by simp at hl9; omega)
 obtain ⟨o9,hB9,hL9⟩:=range_cons hL9
 rw [i_Constraint_text_b1] at hB9
 have hix9:=drop_idx hd9
 refine W_skip (W_seq (W_block (sq (L_ix (r:=rTerm) rfl Tryd.underlying27 Tryd.sizeOf62 sf7 (RP.mono _ h0_0 l8) sf9 hix9 (fun g18 o19 cs_g18 hrk_hat20 hat20=>?_)))))
 obtain rfl:=rTerm_iff.1 hrk_hat20
 refine L_lda (cs:=[I x_9.coef,I x_9.lit]) rfl Tryd.isAgg62 Tryd.sizeOf62 rfl (At.sub (AtH.at hat20 Z.sub) 0 2) rfl (L_al (cs:=#[I 0,I 0]) rfl Tryd.zeroValue62 rfl Z (fun g22 w23 Z=>L_staB (vs:=#[I x_9.coef,I x_9.lit]) (cs2:=#[I x_9.coef,I x_9.lit]) 0 rfl Tryd.sizeOf62 rfl rfl rfl (ones_cons rfl (ones_cons rfl ones_nil)) Z rfl (by show 0 + 2≤2; decide) rfl (fun w24 Z=>nn ?_)))
 obtain ⟨x30,hx30,hB9⟩:=bind_some hB9
 obtain ⟨x32,hx32,hB9⟩:=bind_some hB9
 obtain ⟨x38,hx38,hB9⟩:=bind_some hB9
 obtain ⟨x40,hx40,hB9⟩:=bind_some hB9
 obtain ⟨x41,hx41,hB9⟩:=bind_some hB9
 obtain ⟨x42,hx42,hB9⟩:=bind_some hB9
 refine W_drawS 10 [isV (.string out_6),isV (Pt g22),isV (I x_9.coef),isV (.string x30),isV (.string x32),isV (Pq g22 1),isV (I x_9.lit),isV (.string x38),isV (.string x40),isV (.string x41)] [box g22 62 #[I x_9.coef,I x_9.lit],box g3 29 #[v0_0,I c.bound]] [] ([]) [([],[]),([],[]),([],[]),([],[]),([],[]),([],[]),([],[]),([],[]),([],[]),([],[])] (S:=[]) Tryd_mix (by kernel_rfl) rfl (by kernel_rfl) (amF_cons (mono_V _) (amF_cons (mono_V _) (amF_cons (mono_V _) (amF_cons (mono_V _) (amF_cons (mono_V _) (amF_cons (mono_V _) (amF_cons (mono_V _) (amF_cons (mono_V _) (amF_cons (mono_V _) (amF_cons (mono_V _) amF_nil)))))))))) Z ?_ (fun f w_ H43 hS43 hE43 hT43 Z=>?_)
 refine opsS_cons (fun f w_ _ _ s _ _ Z=>mF ((s 3 rfl).trans sf3) rfl (nO rfl rfl Z)) (opsS_cons (fun f w_ _ _ s _ _ Z=>fA 0 fa_62_0 ((s 5 rfl).trans rfl) rfl (nO rfl rfl Z)) (opsS_cons (fun f w_ _ _ _ _ p Z=>ldB 0 Z Tryd.isAgg3 (p 1 14 rfl rfl) rfl rfl (nO rfl rfl Z)) (opsS_cons ?_ ?_)))
 intro f w_ H43 X43 hS43 hE43 hP43 Z
 obtain ⟨H56b,l57,s58,z59,k60⟩:=Z.borrow
 refine L_call rfl Tryd.call62 (ops1 (hP43 2 15 rfl rfl)) (strconv_Itoa_c (x_:=x_9.coef) s58 hx30) ?_
 rintro _ w61 ⟨rfl,Z⟩
 have Z:=k60 Z c0
 exact L_nil ⟨rfl,_,_,rfl,Le.refl _,fun _ _=>rfl,Z⟩
 refine opsS_cons ?_ ?_
 intro f w_ H43 X43 hS43 hE43 hP43 Z
 obtain ⟨hx32_l,hx32_e⟩:=cat_some hx32
 refine L_sadd (s:=x30) (s':=(⟨#[32]⟩ : ByteArray)) rfl (hP43 3 16 rfl rfl) rfl hx32_l ?_
 rw [← hx32_e]
 exact L_nil ⟨rfl,_,_,rfl,Le.refl _,fun _ _=>rfl,Z⟩
 refine opsS_cons (fun f w_ _ _ s _ _ Z=>fA 1 fa_62_1 ((s 5 rfl).trans rfl) rfl (nO rfl rfl Z)) (opsS_cons (fun f w_ _ _ _ _ p Z=>ldB 0 Z Tryd.isAgg3 (p 5 18 rfl rfl) rfl rfl (nO rfl rfl Z)) (opsS_cons ?_ ?_))
 intro f w_ H43 X43 hS43 hE43 hP43 Z
 obtain ⟨H62b,l63,s64,z65,k66⟩:=Z.borrow
 refine L_call rfl Tryd.call63 (ops1 (hP43 6 19 rfl rfl)) (i_literalText_c (l:=x_9.lit) s64 hx38) ?_
 rintro _ w67 ⟨rfl,Z⟩
 have Z:=k66 Z c0
 exact L_nil ⟨rfl,_,_,rfl,Le.refl _,fun _ _=>rfl,Z⟩
 refine opsS_cons ?_ ?_
 intro f w_ H43 X43 hS43 hE43 hP43 Z
 obtain ⟨hx40_l,hx40_e⟩:=cat_some hx40
 refine L_sadd (s:=x32) (s':=x38) rfl (hP43 4 17 rfl rfl) (hP43 7 20 rfl rfl) hx40_l ?_
 rw [← hx40_e]
 exact L_nil ⟨rfl,_,_,rfl,Le.refl _,fun _ _=>rfl,Z⟩
 refine opsS_cons ?_ ?_
 intro f w_ H43 X43 hS43 hE43 hP43 Z
 obtain ⟨hx41_l,hx41_e⟩:=cat_some hx41
 refine L_sadd (s:=x40) (s':=(⟨#[32]⟩ : ByteArray)) rfl (hP43 8 21 rfl rfl) rfl hx41_l ?_
 rw [← hx41_e]
 exact L_nil ⟨rfl,_,_,rfl,Le.refl _,fun _ _=>rfl,Z⟩
 exact opsS_nil
 obtain ⟨hx42_l,hx42_e⟩:=cat_some hx42
 refine L_sadd (s:=out_6) (s':=x41) rfl (hT43 0 13 rfl rfl) (hT43 9 22 rfl rfl) hx42_l ?_
 rw [← hx42_e]
 refine aV (.string x42) rfl (nn (W_region (L_add rfl ((hS43 9 rfl).trans sf9) rfl (mI rfl (nn ?_)))))
 obtain rfl:=so hB9
 have Z:=Z.get 1 rfl
 show ∃ m,m < _∧I9 m _ _
 refine ⟨rest9.length,by simp,?_⟩
 exact ij hI9 ⟨i_5 + 1,rest9,x42,H43,rfl,drop_next hd9,by simp at hl9; omega,hL9,(Le.trans l8 hE43),((hS43 1 rfl).trans sf1),rfl,((hS43 7 rfl).trans sf7),((hS43 8 rfl).trans sf8),(Eq.trans rfl (congrArg (Value.int .i64) (i64_succ (n:=c.terms.length) (by simp at hl9; omega) hlen9))),(Star.keepN 1 Z)⟩
 rcases suf9 with _ | ⟨_,_⟩
 obtain rfl:=range_nil hL9
 refine W_exit (rj hR9 ⟨out_6,H7,rfl,l8,sf1,sf3,Z⟩)
 exact absurd (of_decide_eq_false hc10) (by simp at hl9; omega)
 intro f w_ hR
 obtain ⟨out_6,H7,rfl,l8,sf1,sf3,Z⟩:=rk hR9 hR
 refine W_seq ?_
 obtain ⟨x68,hx68,hF⟩:=bind_some hF
 obtain ⟨x74,hx74,hF⟩:=bind_some hF
 obtain ⟨x76,hx76,hF⟩:=bind_some hF
 refine W_region (mF sf3 rfl ?_)
 obtain ⟨hx68_l,hx68_e⟩:=cat_some hx68
 refine L_sadd (s:=out_6) (s':=(⟨#[62,61,32]⟩ : ByteArray)) rfl rfl rfl hx68_l ?_
 rw [← hx68_e]
 refine fA 1 fa_29_1 sf1 rfl (ldB 0 Z Tryd.isAgg3 rfl rfl rfl ?_)
 obtain ⟨H77b,l78,s79,z80,k81⟩:=Z.borrow
 refine L_call rfl Tryd.call62 (ops1 rfl) (strconv_Itoa_c (x_:=c.bound) s79 hx74) ?_
 rintro _ w82 ⟨rfl,Z⟩
 have Z:=k81 Z c0
 obtain ⟨hx76_l,hx76_e⟩:=cat_some hx76
 refine L_sadd (s:=x68) (s':=x74) rfl rfl rfl hx76_l ?_
 rw [← hx76_e]
 refine aV (.string x76) rfl (nn (W_ret (retG1 (v1:=.string x76) Tryd.results34 rfl ?_)))
 obtain rfl:=so hF
 exact ⟨rfl,(Star.down (Star.keepN 0 Z) l8 c0)⟩
theorem l_eqTerm_c {a : Term} {b : Term} {H : FH} {w : World} (Z : Star H w []) {r : Bool} (hF : l_eqTerm a b = some r) :
 C Tryd.prog 64 #[.agg #[I a.coef,I a.lit],.agg #[I b.coef,I b.lit]] w fun v w'=>v = Bo r∧Star H w' []:=by
 unfold l_eqTerm at hF
 refine C_enter Tryd.func64 rfl Tryd.ntmps64 rfl (sq (L_box (v:=.agg #[I a.coef,I a.lit]) (cs:=#[I a.coef,I a.lit]) rfl rfl rfl Z (fun g5 w6 Z=>L_box (v:=.agg #[I b.coef,I b.lit]) (cs:=#[I b.coef,I b.lit]) rfl rfl rfl Z (fun g7 w8 Z=>aB rfl (nq (sq (fA 0 fa_62_0 rfl rfl (ldB 1 Z Tryd.isAgg3 rfl rfl rfl (fA 0 fa_62_0 rfl rfl (ldB 0 Z Tryd.isAgg3 rfl rfl rfl (L_neq rfl rfl rfl (nn (W_cond (b:=(a.coef != b.coef)) rfl (fun hc9=>?_) (fun hc9=>?_))))))))))))))
 have hF:=(ite_t hc9).symm.trans hF
 refine sq (aB rfl (nn (W_ret (retG1 (v1:=Bo false) Tryd.results64 rfl ?_))))
 obtain rfl:=so hF
 exact ⟨rfl,(Star.keepN 0 Z)⟩
 have hF:=(ite_f hc9).symm.trans hF
 refine W_skip (W_seq (sq (fA 1 fa_62_1 rfl rfl (ldB 1 Z Tryd.isAgg3 rfl rfl rfl (fA 1 fa_62_1 rfl rfl (ldB 0 Z Tryd.isAgg3 rfl rfl rfl (L_neq rfl rfl rfl (nn (W_cond (b:=(a.lit != b.lit)) rfl (fun hc10=>?_) (fun hc10=>?_))))))))))
 have hF:=(ite_t hc10).symm.trans hF
 refine sq (aB rfl (nn (W_ret (retG1 (v1:=Bo false) Tryd.results64 rfl ?_))))
 obtain rfl:=so hF
 exact ⟨rfl,(Star.keepN 0 Z)⟩
 have hF:=(ite_f hc10).symm.trans hF
 refine W_skip (sq (aB rfl (nn (W_ret (retG1 (v1:=Bo true) Tryd.results64 rfl ?_)))))
 obtain rfl:=so hF
 exact ⟨rfl,(Star.keepN 0 Z)⟩
theorem l_eqTermS_c {a : List Term} {b : List Term} {v0 : Value} {v1 : Value} {H : FH} {w : World} (Z : Star H w []) (h0 : (rS 62 rTerm).rel H [v0] a) (h1 : (rS 62 rTerm).rel H [v1] b) {r : Bool} (hF : l_eqTermS a b = some r) :
 C Tryd.prog 35 #[v0,v1] w fun v w'=>v = Bo r∧Star H w' []:=by
 unfold l_eqTermS at hF
 refine C_enter Tryd.func35 rfl Tryd.ntmps35 rfl (sq (aB rfl (nq (sq (mV v0 rfl (L_len rfl Tryd.underlying27 rfl (slice_len h0) (mV v1 rfl (L_len rfl Tryd.underlying27 rfl (slice_len h1) (L_neq rfl rfl rfl (nn (W_cond (b:=((a.length : Int) != (b.length : Int))) rfl (fun hc1=>?_) (fun hc1=>?_))))))))))))
 have hF:=(ite_t hc1).symm.trans hF
 refine sq (aB rfl (nn (W_ret (retG1 (v1:=Bo false) Tryd.results35 rfl ?_))))
 obtain rfl:=so hF
 exact ⟨rfl,Z⟩
 have hF:=(ite_f hc1).symm.trans hF
 refine W_skip (W_seq (sq (aI rfl (nn ?_))))
 have hlen5 : List.length a≤9223372036854775807:=len_le (slice_len h0)
 obtain ⟨j5,hL5,hF⟩:=bind_some hF
 obtain ⟨R5,hR5⟩:=exR fun f w_=>∃ H3 : FH,j5 = .nx ()∧Le H H3∧Star H3 w_ ([])
 refine W_join R5 ?_ ?_
 refine W_block ?_
 obtain ⟨I5,hI5⟩:=exI fun n f w_=>∃ i_2 : Nat,∃ suf5 : List Term,∃ H3 : FH,n = suf5.length∧List.drop i_2 a = suf5∧i_2 + suf5.length = a.length∧rangeL (l_eqTermS_b1 b) suf5 i_2 () = some j5∧Le H H3∧f 0 = v0∧f 1 = v1∧f 5 = I i_2∧Star H3 w_ ([])
 refine W_loop I5 (n:=a.length) ?_ ?_
 exact ij hI5 ⟨0,a,H,rfl,rfl,Nat.zero_add _,hL5,(Le.refl _),rfl,rfl,rfl,Z⟩
 intro n5 f w_ hI
 obtain ⟨i_2,suf5,H3,rfl,hd5,hl5,hL5,l4,sf0,sf1,sf5,Z⟩:=ik hI5 hI
 refine W_seq (sq (mF sf5 rfl (mF sf0 rfl (L_len rfl Tryd.underlying27 rfl (slice_len (RP.mono _ h0 l4)) (L_lss rfl rfl rfl (nn (W_cond (b:=decide ((i_2 : Int) < (a.length : Int))) rfl (fun hc6=>?_) (fun hc6=>?_))))))))
 have hlt5:=of_decide_eq_true hc6
 rcases suf5 with _ | ⟨x_5,rest5⟩
 exact absurd hlt5 (by simp at hl5; omega)
 obtain ⟨o5,hB5,hL5⟩:=range_cons hL5
 rw [l_eqTermS_b1] at hB5
 have hix5:=drop_idx hd5
 refine W_skip (W_seq (W_block (W_seq ?_)))
 obtain ⟨x11,hx11,hB5⟩:=bind_some hB5
 obtain ⟨x21,hx21,hB5⟩:=bind_some hB5
 refine W_drawS 8 [isV (v0),isV (I i_2),isEl rTerm x_5 0,isV (.agg #[I x_5.coef,I x_5.lit]),isV (v1),isV (I i_2),isEl rTerm x11 0,isV (.agg #[I x11.coef,I x11.lit])] [] [] ([]) [([],[]),([],[]),([],[]),([],[]),([],[]),([],[]),([],[]),([],[])] (S:=[]) Tryd_mix (by kernel_rfl) rfl (by kernel_rfl) (amF_cons (mono_V _) (amF_cons (mono_V _) (amF_cons (mono_el _ _ _) (amF_cons (mono_V _) (amF_cons (mono_V _) (amF_cons (mono_V _) (amF_cons (mono_el _ _ _) (amF_cons (mono_V _) amF_nil)))))))) Z ?_ (fun f w_ H23 hS23 hE23 hT23 Z=>?_)
 refine opsS_cons (fun f w_ _ _ s _ _ Z=>mF ((s 0 rfl).trans sf0) rfl (nO rfl rfl Z)) (opsS_cons (fun f w_ _ _ s _ _ Z=>mF ((s 5 rfl).trans sf5) rfl (nO rfl rfl Z)) (opsS_cons ?_ ?_))
 intro f w_ H23 X23 hS23 hE23 hP23 Z
 refine L_ix (r:=rTerm) rfl Tryd.underlying27 Tryd.sizeOf62 (hP23 0 17 rfl rfl) (RP.mono _ h0 (Le.trans l4 hE23)) (hP23 1 18 rfl rfl) hix5 (fun g32 o33 cs_g32 hrk_hat34 hat34=>?_)
 obtain rfl:=rTerm_iff.1 hrk_hat34
 exact L_nil ⟨rfl,_,_,rfl,Le.refl _,fun _ _=>⟨_,_,_,rfl,hrk_hat34,hat34⟩,Z⟩
 refine opsS_cons ?_ ?_
 intro f w_ H23 X23 hS23 hE23 hP23 Z
 obtain ⟨g36,o36,cs36,hv36,hrk_hat36,hat36⟩:=(hP23 2 19 rfl rfl)
 obtain rfl:=rTerm_iff.1 hrk_hat36
 refine L_lda (cs:=[I x_5.coef,I x_5.lit]) rfl Tryd.isAgg62 Tryd.sizeOf62 hv36 (At.sub (AtH.at hat36 Z.sub) 0 2) rfl (L_nil ⟨rfl,_,_,rfl,Le.refl _,fun _ _=>rfl,Z⟩)
 refine opsS_cons (fun f w_ _ _ s _ _ Z=>mF ((s 1 rfl).trans sf1) rfl (nO rfl rfl Z)) (opsS_cons (fun f w_ _ _ s _ _ Z=>mF ((s 5 rfl).trans sf5) rfl (nO rfl rfl Z)) (opsS_cons ?_ ?_))
 intro f w_ H23 X23 hS23 hE23 hP23 Z
 refine L_ix (r:=rTerm) rfl Tryd.underlying27 Tryd.sizeOf62 (hP23 4 21 rfl rfl) (RP.mono _ h1 (Le.trans l4 hE23)) (hP23 5 22 rfl rfl) hx11 (fun g38 o39 cs_g38 hrk_hat40 hat40=>?_)
 obtain rfl:=rTerm_iff.1 hrk_hat40
 exact L_nil ⟨rfl,_,_,rfl,Le.refl _,fun _ _=>⟨_,_,_,rfl,hrk_hat40,hat40⟩,Z⟩
 refine opsS_cons ?_ ?_
 intro f w_ H23 X23 hS23 hE23 hP23 Z
 obtain ⟨g42,o42,cs42,hv42,hrk_hat42,hat42⟩:=(hP23 6 23 rfl rfl)
 obtain rfl:=rTerm_iff.1 hrk_hat42
 refine L_lda (cs:=[I x11.coef,I x11.lit]) rfl Tryd.isAgg62 Tryd.sizeOf62 hv42 (At.sub (AtH.at hat42 Z.sub) 0 2) rfl (L_nil ⟨rfl,_,_,rfl,Le.refl _,fun _ _=>rfl,Z⟩)
 exact opsS_nil
 obtain ⟨H44b,l45,s46,z47,k48⟩:=Z.borrow
 refine L_call rfl Tryd.call64 (ops2 (hT23 3 20 rfl rfl) (hT23 7 24 rfl rfl)) (l_eqTerm_c (a:=x_5) (b:=x11) s46 hx21) ?_
 rintro _ w49 ⟨rfl,Z⟩
 have Z:=k48 Z c0
 refine L_not_ rfl rfl (nn (W_cond (b:=(!x21)) rfl (fun hc50=>?_) (fun hc50=>?_)))
 have hB5:=(ite_t hc50).symm.trans hB5
 refine sq (aB rfl (nn (W_ret (retG1 (v1:=Bo false) Tryd.results35 rfl ?_))))
 obtain rfl:=so hB5
 obtain rfl:=so hL5
 obtain rfl:=so hF
 exact ⟨rfl,(Star.down Z (Le.trans l4 hE23) c0)⟩
 have hB5:=(ite_f hc50).symm.trans hB5
 refine W_skip (W_region (mF ((hS23 5 rfl).trans sf5) rfl (L_add rfl rfl rfl (aI rfl (nn ?_)))))
 obtain rfl:=so hB5
 show ∃ m,m < _∧I5 m _ _
 refine ⟨rest5.length,by simp,?_⟩
 exact ij hI5 ⟨i_2 + 1,rest5,H23,rfl,drop_next hd5,by simp at hl5; omega,hL5,(Le.trans l4 hE23),((hS23 0 rfl).trans sf0),((hS23 1 rfl).trans sf1),(Eq.trans rfl (congrArg (Value.int .i64) (i64_succ (n:=a.length) (by simp at hl5; omega) hlen5))),Z⟩
 rcases suf5 with _ | ⟨_,_⟩
 obtain rfl:=range_nil hL5
 refine W_exit (rj hR5 ⟨H3,rfl,l4,Z⟩)
 exact absurd (of_decide_eq_false hc6) (by simp at hl5; omega)
 intro f w_ hR
 obtain ⟨H3,rfl,l4,Z⟩:=rk hR5 hR
 refine sq (aB rfl (nn (W_ret (retG1 (v1:=Bo true) Tryd.results35 rfl ?_))))
 obtain rfl:=so hF
 exact ⟨rfl,(Star.down Z l4 c0)⟩
theorem l_eqConstraint_c {a : Con} {b : Con} {v0_0 : Value} {v1_0 : Value} {H : FH} {w : World} (Z : Star H w []) (h0_0 : (rS 62 rTerm).rel H [v0_0] a.terms) (h1_0 : (rS 62 rTerm).rel H [v1_0] b.terms) {r : Bool} (hF : l_eqConstraint a b = some r) :
 C Tryd.prog 12 #[.agg #[v0_0,I a.bound],.agg #[v1_0,I b.bound]] w fun v w'=>v = Bo r∧Star H w' []:=by
 unfold l_eqConstraint at hF
 refine C_enter Tryd.func12 rfl Tryd.ntmps12 rfl (sq (L_box (v:=.agg #[v0_0,I a.bound]) (cs:=#[v0_0,I a.bound]) rfl rfl rfl Z (fun g5 w6 Z=>L_box (v:=.agg #[v1_0,I b.bound]) (cs:=#[v1_0,I b.bound]) rfl rfl rfl Z (fun g7 w8 Z=>aB rfl (nq (W_seq ?_))))))
 obtain ⟨x14,hx14,hF⟩:=bind_some hF
 refine W_region (fA 0 fa_29_0 rfl rfl (ldB 1 Z Tryd.isAgg27 rfl rfl rfl (fA 0 fa_29_0 rfl rfl (ldB 0 Z Tryd.isAgg27 rfl rfl rfl ?_))))
 obtain ⟨H16b,l17,s18,z19,k20⟩:=Z.borrow
 refine L_call rfl Tryd.call35 (ops2 rfl rfl) (l_eqTermS_c (a:=a.terms) (b:=b.terms) s18 (RP.mono _ h0_0 l17) (RP.mono _ h1_0 l17) hx14) ?_
 rintro _ w21 ⟨rfl,Z⟩
 have Z:=k20 Z c0
 refine L_not_ rfl rfl (nn (W_cond (b:=(!x14)) rfl (fun hc22=>?_) (fun hc22=>?_)))
 have hF:=(ite_t hc22).symm.trans hF
 refine sq (aB rfl (nn (W_ret (retG1 (v1:=Bo false) Tryd.results12 rfl ?_))))
 obtain rfl:=so hF
 exact ⟨rfl,(Star.keepN 0 Z)⟩
 have hF:=(ite_f hc22).symm.trans hF
 refine W_skip (W_seq (sq (fA 1 fa_29_1 rfl rfl (ldB 1 Z Tryd.isAgg3 rfl rfl rfl (fA 1 fa_29_1 rfl rfl (ldB 0 Z Tryd.isAgg3 rfl rfl rfl (L_neq rfl rfl rfl (nn (W_cond (b:=(a.bound != b.bound)) rfl (fun hc23=>?_) (fun hc23=>?_))))))))))
 have hF:=(ite_t hc23).symm.trans hF
 refine sq (aB rfl (nn (W_ret (retG1 (v1:=Bo false) Tryd.results12 rfl ?_))))
 obtain rfl:=so hF
 exact ⟨rfl,(Star.keepN 0 Z)⟩
 have hF:=(ite_f hc23).symm.trans hF
 refine W_skip (sq (aB rfl (nn (W_ret (retG1 (v1:=Bo true) Tryd.results12 rfl ?_)))))
 obtain rfl:=so hF
 exact ⟨rfl,(Star.keepN 0 Z)⟩
theorem s_l17Cut_c {s : ByteArray} {c : Int} {H : FH} {w : World} (Z : Star H w []) {r : List ByteArray} (hF : s_l17Cut s c = some r) :
 C Tryd.prog 36 #[.string s,.int .u8 (c.toNat : Int)] w fun v w'=>∃ (u1 : Value),v = u1∧Star H w' [oF 9 RP.str u1 r]:=by
 unfold s_l17Cut at hF
 refine C_enter Tryd.func36 rfl Tryd.ntmps36 rfl (sq (aV S0 rfl (ns (L_bs rfl parts0 (bs_56_0  ) Z (fun g4 w5 Z=>?_)))))
 have Z:=Star.mkRow (R:=(OR.frz RP.str)) [] [] 0 Z rfl rfl rfl (by decide)
 refine aV (Sl g4 0 0) rfl (ns (aI rfl (nq (sq (aI rfl (nn ?_))))))
 obtain ⟨k12,hk12,hF⟩:=bind_some hF
 obtain ⟨j11,hL11,hF⟩:=bind_some hF
 obtain ⟨R11,hR11⟩:=exR fun f w_=>∃ out_8 : List ByteArray,∃ from__10 : Int,∃ v8_out : Value,j11 = .nx (out_8,from__10)∧f 5 = v8_out∧Star H w_ ([oF 9 RP.str v8_out out_8])
 refine W_join R11 ?_ ?_
 refine W_block ?_
 obtain ⟨I11,hI11⟩:=exI fun n f w_=>∃ i_7 : Nat,∃ suf11 : Nat,∃ out_8 : List ByteArray,∃ from__10 : Int,∃ v8_out : Value,suf11 = n∧0≤i_7∧i_7 + suf11 = 0 + k12∧countL (s_l17Cut_b1 s c) suf11 i_7 (out_8,from__10) = some j11∧f 0 = .string s∧f 1 = .int .u8 (c.toNat : Int)∧f 5 = v8_out∧f 6 = I from__10∧f 7 = I i_7∧Star H w_ ([oF 9 RP.str v8_out out_8])
 refine W_loop I11 (n:=k12) ?_ ?_
 exact ij hI11 ⟨0,k12,[],0,(Sl g4 0 0),rfl,Nat.le_refl _,rfl,hL11,rfl,rfl,rfl,rfl,rfl,Z⟩
 intro n11 f w_ hI
 obtain ⟨i_7,suf11,out_8,from__10,v8_out,rfl,hs11,hl11,hL11,sf0,sf1,sf5,sf6,sf7,Z⟩:=ik hI11 hI
 refine W_seq (sq (mF sf7 rfl (mF sf0 rfl (L_slen (s:=s) rfl Tryd.underlying9 rfl (L_leq rfl rfl rfl (nn (W_cond (b:=decide ((i_7 : Int)≤(s.size : Int))) rfl (fun hc13=>?_) (fun hc13=>?_))))))))
 have hlt11:=of_decide_eq_true hc13
 rcases suf11 with _ | rest11
 exact absurd hlt11 (cntF_noL hl11 hk12)
 obtain ⟨o11,hB11,hL11⟩:=count_succ hL11
 rw [s_l17Cut_b1] at hB11
 refine W_skip (W_seq (W_block (W_seq ?_)))
 obtain ⟨b15,hb15,hB11⟩:=bind_some hB11
 obtain ⟨R16,hR16⟩:=exR fun f w_=>f 0 = .string s∧f 1 = .int .u8 (c.toNat : Int)∧f 5 = v8_out∧f 6 = I from__10∧f 7 = I i_7∧f 25 = Bo b15∧Star H w_ ([oF 9 RP.str v8_out out_8])
 refine W_join R16 ?_ ?_
 refine W_region (mF sf7 rfl (mF sf0 rfl (L_slen (s:=s) rfl Tryd.underlying9 rfl (L_eql rfl rfl rfl (mB rfl (L_split (d:=19) (b:=((i_7 : Int) == (s.size : Int))) rfl (fun hc17=>?_) (fun hc17=>?_)))))))
 rw [ite_t hc17] at hb15
 refine ps rfl (ps rfl (ps rfl (ps rfl (ps rfl (L_pick (v:=Bo b15) rfl rfl (congrArg Value.bool (so hb15)) (nn (rj hR16 ⟨sf0,sf1,sf5,sf6,sf7,rfl,Z⟩)))))))
 rw [ite_f hc17] at hb15
 obtain ⟨x14,hx14,hb15⟩:=bind_some hb15
 refine mF sf0 rfl (mF sf7 rfl (L_sidx rfl Tryd.underlying9 rfl rfl hx14 (mF sf1 rfl (L_eql rfl rfl rfl (L_pick (v:=Bo b15) rfl rfl (congrArg Value.bool (so hb15)) (nn (rj hR16 ⟨sf0,sf1,sf5,sf6,sf7,rfl,Z⟩)))))))
 intro f w_ hR
 obtain ⟨sf0,sf1,sf5,sf6,sf7,sf25,Z⟩:=rk hR16 hR
 obtain ⟨⟨out_18,from__20⟩,hA21,hB11⟩:=bind_some hB11
 obtain ⟨R21,hR21⟩:=exR fun f w_=>∃ v18_out : Value,f 0 = .string s∧f 1 = .int .u8 (c.toNat : Int)∧f 5 = v18_out∧f 6 = I from__20∧f 7 = I i_7∧Star H w_ ([oF 9 RP.str v18_out out_18])
 refine W_join R21 ?_ ?_
 refine W_cond (b:=b15) sf25 (fun hc22=>?_) (fun hc22=>?_)
 have hA21:=(ite_t hc22).symm.trans hA21
 refine W_seq ?_
 obtain ⟨x23,hx23,hA21⟩:=bind_some hA21
 obtain ⟨x27,hx27,hA21⟩:=bind_some hA21
 refine W_region (mF sf5 rfl (mF sf0 rfl (mF sf6 rfl (mF sf7 rfl (L_ssl (a:=from__10) (b:=(i_7 : Int)) rfl Tryd.underlying9 rfl rfl rfl hx23 (L_bs rfl (parts1 rfl) (bs_56_1_0 (.string x23) rfl) Z (fun g31 w32 Z=>?_)))))))
 have Z:=Star.addF (r:=RP.str) (cs:=[.string x23]) (x:=x23) Z rfl
 have Z:=Star.mkRow (R:=(OR.frz RP.str)) [([.string x23],x23)] [x23] 1 Z rfl rfl rfl (by decide)
 have Z:=Z.get 1 rfl
 refine L_appM (v:=v8_out) (u:=(Sl g31 1 1)) rfl et_56 rfl rfl Z hx27 (fun v34 w35 Z=>aV v34 rfl (nn (W_region (mF sf7 rfl (L_add rfl rfl rfl (aI rfl (nn ?_)))))))
 obtain ⟨rfl,rfl⟩:=so2 hA21
 exact rj hR21 ⟨v34,sf0,sf1,rfl,rfl,sf7,Z⟩
 have hA21:=(ite_f hc22).symm.trans hA21
 refine W_skip ?_
 obtain ⟨rfl,rfl⟩:=so2 hA21
 exact rj hR21 ⟨v8_out,sf0,sf1,sf5,sf6,sf7,Z⟩
 intro f w_ hR
 obtain ⟨v18_out,sf0,sf1,sf5,sf6,sf7,Z⟩:=rk hR21 hR
 refine W_region (mF sf7 rfl (L_add rfl rfl rfl (aI rfl (nn ?_))))
 obtain rfl:=so hB11
 show ∃ m,m < _∧I11 m _ _
 refine ⟨rest11,Nat.lt_succ_self _,?_⟩
 exact ij hI11 ⟨i_7 + 1,rest11,out_18,from__20,v18_out,rfl,by omega,by omega,hL11,sf0,sf1,sf5,sf6,(Eq.trans rfl (congrArg (Value.int .i64) (i64_succ (n:=0 + k12) (by omega) (cntF_le hk12)))),Z⟩
 rcases suf11 with _ | _
 obtain rfl:=count_zero hL11
 refine W_exit (rj hR11 ⟨out_8,from__10,v8_out,rfl,sf5,Z⟩)
 exact absurd (cntF_yesL hs11 hl11 hk12) (of_decide_eq_false hc13)
 intro f w_ hR
 obtain ⟨out_8,from__10,v8_out,rfl,sf5,Z⟩:=rk hR11 hR
 refine sq (mF sf5 rfl (aV v8_out rfl (nn (W_ret (retG1 (v1:=v8_out) Tryd.results36 rfl ?_)))))
 obtain rfl:=so hF
 exact ⟨v8_out,rfl,Z⟩
theorem s_l17Num_c {s : ByteArray} {H : FH} {w : World} (Z : Star H w []) {r : Int × Bool} (hF : s_l17Num s = some r) :
 C Tryd.prog 37 #[.string s] w fun v w'=>v = .tuple #[I r.1,Bo r.2]∧Star H w' []:=by
 unfold s_l17Num at hF
 refine C_enter Tryd.func37 rfl Tryd.ntmps37 rfl (sq (aI rfl (aB rfl (nq ?_))))
 obtain ⟨b2,hb2,hF⟩:=bind_some hF
 obtain ⟨R3,hR3⟩:=exR fun f w_=>f 0 = .string s∧f 4 = Bo b2∧Star H w_ ([])
 refine W_join R3 ?_ ?_
 refine W_region (mV (.string s) rfl (L_slen (s:=s) rfl Tryd.underlying9 rfl (L_gtr rfl rfl rfl (mB rfl (L_split (d:=10) (b:=decide ((s.size : Int) > 0)) rfl (fun hc4=>?_) (fun hc4=>?_))))))
 rw [ite_t hc4] at hb2
 obtain ⟨x1,hx1,hb2⟩:=bind_some hb2
 refine mV (.string s) rfl (L_sidx rfl Tryd.underlying9 rfl rfl hx1 (L_eql rfl rfl rfl (L_pick (v:=Bo b2) rfl rfl (congrArg Value.bool (so hb2)) (aB rfl (nn (rj hR3 ⟨rfl,rfl,Z⟩))))))
 rw [ite_f hc4] at hb2
 refine ps rfl (ps rfl (ps rfl (L_pick (v:=Bo b2) rfl rfl (congrArg Value.bool (so hb2)) (aB rfl (nn (rj hR3 ⟨rfl,rfl,Z⟩))))))
 intro f w_ hR
 obtain ⟨sf0,sf4,Z⟩:=rk hR3 hR
 refine W_seq (sq (mF sf4 rfl (nn ?_)))
 obtain ⟨s_5,hA6,hF⟩:=bind_some hF
 obtain ⟨R6,hR6⟩:=exR fun f w_=>f 0 = .string s_5∧f 4 = Bo b2∧Star H w_ ([])
 refine W_join R6 ?_ ?_
 refine W_cond (b:=b2) rfl (fun hc7=>?_) (fun hc7=>?_)
 have hA6:=(ite_t hc7).symm.trans hA6
 obtain ⟨x8,hx8,hA6⟩:=bind_some hA6
 refine W_region (mF sf0 rfl (L_ssl (a:=1) (b:=(s.size : Int)) rfl Tryd.underlying9 rfl rfl rfl hx8 (aV (.string x8) rfl (nn ?_))))
 obtain rfl:=so hA6
 exact rj hR6 ⟨rfl,sf4,Z⟩
 have hA6:=(ite_f hc7).symm.trans hA6
 refine W_skip ?_
 obtain rfl:=so hA6
 exact rj hR6 ⟨sf0,sf4,Z⟩
 intro f w_ hR
 obtain ⟨sf0,sf4,Z⟩:=rk hR6 hR
 refine W_seq (W_seq ?_)
 obtain ⟨b10,hb10,hF⟩:=bind_some hF
 obtain ⟨R11,hR11⟩:=exR fun f w_=>f 0 = .string s_5∧f 4 = Bo b2∧f 38 = Bo b10∧Star H w_ ([])
 refine W_join R11 ?_ ?_
 refine W_region (mF sf0 rfl (L_slen (s:=s_5) rfl Tryd.underlying9 rfl (L_eql rfl rfl rfl (mB rfl (L_split (d:=21) (b:=((s_5.size : Int) == 0)) rfl (fun hc12=>?_) (fun hc12=>?_))))))
 refine ps rfl (ps rfl (ps rfl (L_pick (v:=Bo (((s_5.size : Int) == 0) || (decide ((s_5.size : Int) > 17)))) rfl rfl (or_t hc12) (mB rfl (L_split (d:=26) (b:=(((s_5.size : Int) == 0) || (decide ((s_5.size : Int) > 17)))) rfl (fun hc13=>?_) (fun hc13=>?_))))))
 rw [ite_t hc13] at hb10
 refine ps rfl (ps rfl (ps rfl (ps rfl (ps rfl (ps rfl (ps rfl (ps rfl (ps rfl (ps rfl (ps rfl (L_pick (v:=Bo b10) rfl rfl (congrArg Value.bool (so hb10)) (nn (rj hR11 ⟨sf0,sf4,rfl,Z⟩)))))))))))))
 rw [ite_f hc13] at hb10
 obtain ⟨x9,hx9,hb10⟩:=bind_some hb10
 refine mF sf0 rfl (L_sidx rfl Tryd.underlying9 rfl rfl hx9 (L_eql rfl rfl rfl (mB rfl (L_split (d:=30) (b:=((x9.toNat : Int) == 48)) rfl (fun hc14=>?_) (fun hc14=>?_)))))
 refine mF sf0 rfl (L_slen (s:=s_5) rfl Tryd.underlying9 rfl (L_gtr rfl rfl rfl (mB rfl (L_split (d:=34) (b:=decide ((s_5.size : Int) > 1)) rfl (fun hc15=>?_) (fun hc15=>?_)))))
 refine ps rfl (L_pick (v:=Bo ((decide ((s_5.size : Int) > 1)) || b2)) rfl rfl (or_t hc15) (L_pick (v:=Bo (((x9.toNat : Int) == 48) && ((decide ((s_5.size : Int) > 1)) || b2))) rfl rfl (and_t hc14 rfl) (L_pick (v:=Bo b10) rfl rfl (congrArg Value.bool (so hb10)) (nn (rj hR11 ⟨sf0,sf4,rfl,Z⟩)))))
 refine mF sf4 rfl (L_pick (v:=Bo ((decide ((s_5.size : Int) > 1)) || b2)) rfl rfl (or_f hc15 rfl) (L_pick (v:=Bo (((x9.toNat : Int) == 48) && ((decide ((s_5.size : Int) > 1)) || b2))) rfl rfl (and_t hc14 rfl) (L_pick (v:=Bo b10) rfl rfl (congrArg Value.bool (so hb10)) (nn (rj hR11 ⟨sf0,sf4,rfl,Z⟩)))))
 refine ps rfl (ps rfl (ps rfl (ps rfl (ps rfl (ps rfl (L_pick (v:=Bo (((x9.toNat : Int) == 48) && ((decide ((s_5.size : Int) > 1)) || b2))) rfl rfl (and_f hc14) (L_pick (v:=Bo b10) rfl rfl (congrArg Value.bool (so hb10)) (nn (rj hR11 ⟨sf0,sf4,rfl,Z⟩)))))))))
 refine mF sf0 rfl (L_slen (s:=s_5) rfl Tryd.underlying9 rfl (L_gtr rfl rfl rfl (L_pick (v:=Bo (((s_5.size : Int) == 0) || (decide ((s_5.size : Int) > 17)))) rfl rfl (or_f hc12 rfl) (mB rfl (L_split (d:=26) (b:=(((s_5.size : Int) == 0) || (decide ((s_5.size : Int) > 17)))) rfl (fun hc16=>?_) (fun hc16=>?_))))))
 rw [ite_t hc16] at hb10
 refine ps rfl (ps rfl (ps rfl (ps rfl (ps rfl (ps rfl (ps rfl (ps rfl (ps rfl (ps rfl (ps rfl (L_pick (v:=Bo b10) rfl rfl (congrArg Value.bool (so hb10)) (nn (rj hR11 ⟨sf0,sf4,rfl,Z⟩)))))))))))))
 rw [ite_f hc16] at hb10
 obtain ⟨x9,hx9,hb10⟩:=bind_some hb10
 refine mF sf0 rfl (L_sidx rfl Tryd.underlying9 rfl rfl hx9 (L_eql rfl rfl rfl (mB rfl (L_split (d:=30) (b:=((x9.toNat : Int) == 48)) rfl (fun hc17=>?_) (fun hc17=>?_)))))
 refine mF sf0 rfl (L_slen (s:=s_5) rfl Tryd.underlying9 rfl (L_gtr rfl rfl rfl (mB rfl (L_split (d:=34) (b:=decide ((s_5.size : Int) > 1)) rfl (fun hc18=>?_) (fun hc18=>?_)))))
 refine ps rfl (L_pick (v:=Bo ((decide ((s_5.size : Int) > 1)) || b2)) rfl rfl (or_t hc18) (L_pick (v:=Bo (((x9.toNat : Int) == 48) && ((decide ((s_5.size : Int) > 1)) || b2))) rfl rfl (and_t hc17 rfl) (L_pick (v:=Bo b10) rfl rfl (congrArg Value.bool (so hb10)) (nn (rj hR11 ⟨sf0,sf4,rfl,Z⟩)))))
 refine mF sf4 rfl (L_pick (v:=Bo ((decide ((s_5.size : Int) > 1)) || b2)) rfl rfl (or_f hc18 rfl) (L_pick (v:=Bo (((x9.toNat : Int) == 48) && ((decide ((s_5.size : Int) > 1)) || b2))) rfl rfl (and_t hc17 rfl) (L_pick (v:=Bo b10) rfl rfl (congrArg Value.bool (so hb10)) (nn (rj hR11 ⟨sf0,sf4,rfl,Z⟩)))))
 refine ps rfl (ps rfl (ps rfl (ps rfl (ps rfl (ps rfl (L_pick (v:=Bo (((x9.toNat : Int) == 48) && ((decide ((s_5.size : Int) > 1)) || b2))) rfl rfl (and_f hc17) (L_pick (v:=Bo b10) rfl rfl (congrArg Value.bool (so hb10)) (nn (rj hR11 ⟨sf0,sf4,rfl,Z⟩)))))))))
 intro f w_ hR
 obtain ⟨sf0,sf4,sf38,Z⟩:=rk hR11 hR
 refine W_cond (b:=b10) sf38 (fun hc19=>?_) (fun hc19=>?_)
 have hF:=(ite_t hc19).symm.trans hF
 refine sq (aI rfl (aB rfl (nn (W_ret (retG2 (v1:=I 0) (v2:=Bo false) Tryd.results37 rfl rfl ?_)))))
 obtain rfl:=so hF
 exact ⟨rfl,Z⟩
 have hF:=(ite_f hc19).symm.trans hF
 refine W_skip (sq (aI rfl (nq (sq (aI rfl (nn ?_))))))
 obtain ⟨k23,hk23,hF⟩:=bind_some hF
 obtain ⟨j22,hL22,hF⟩:=bind_some hF
 obtain ⟨R22,hR22⟩:=exR fun f w_=>∃ n_21 : Int,j22 = .nx n_21∧f 4 = Bo b2∧f 5 = I n_21∧Star H w_ ([])
 refine W_join R22 ?_ ?_
 refine W_block ?_
 obtain ⟨I22,hI22⟩:=exI fun n f w_=>∃ i_20 : Nat,∃ suf22 : Nat,∃ n_21 : Int,suf22 = n∧0≤i_20∧i_20 + suf22 = 0 + k23∧countL (s_l17Num_b1 s_5) suf22 i_20 n_21 = some j22∧f 0 = .string s_5∧f 4 = Bo b2∧f 5 = I n_21∧f 6 = I i_20∧Star H w_ ([])
 refine W_loop I22 (n:=k23) ?_ ?_
 exact ij hI22 ⟨0,k23,0,rfl,Nat.le_refl _,rfl,hL22,sf0,sf4,rfl,rfl,Z⟩
 intro n22 f w_ hI
 obtain ⟨i_20,suf22,n_21,rfl,hs22,hl22,hL22,sf0,sf4,sf5,sf6,Z⟩:=ik hI22 hI
 refine W_seq (sq (mF sf6 rfl (mF sf0 rfl (L_slen (s:=s_5) rfl Tryd.underlying9 rfl (L_lss rfl rfl rfl (nn (W_cond (b:=decide ((i_20 : Int) < (s_5.size : Int))) rfl (fun hc24=>?_) (fun hc24=>?_))))))))
 have hlt22:=of_decide_eq_true hc24
 rcases suf22 with _ | rest22
 exact absurd hlt22 (cntF_no hl22 hk23)
 obtain ⟨o22,hB22,hL22⟩:=count_succ hL22
 rw [s_l17Num_b1] at hB22
 refine W_skip (W_seq (W_block (W_seq (W_seq ?_))))
 obtain ⟨x25,hx25,hB22⟩:=bind_some hB22
 obtain ⟨R26,hR26⟩:=exR fun f w_=>f 0 = .string s_5∧f 4 = Bo b2∧f 5 = I n_21∧f 6 = I i_20∧f 54 = Bo ((decide ((x25.toNat : Int) < 48)) || (decide ((x25.toNat : Int) > 57)))∧Star H w_ ([])
 refine W_join R26 ?_ ?_
 refine W_region (mF sf0 rfl (mF sf6 rfl (L_sidx rfl Tryd.underlying9 rfl rfl hx25 (L_lss rfl rfl rfl (mB rfl (L_split (d:=49) (b:=decide ((x25.toNat : Int) < 48)) rfl (fun hc27=>?_) (fun hc27=>?_)))))))
 refine ps rfl (ps rfl (ps rfl (ps rfl (L_pick (v:=Bo ((decide ((x25.toNat : Int) < 48)) || (decide ((x25.toNat : Int) > 57)))) rfl rfl (or_t hc27) (nn (rj hR26 ⟨sf0,sf4,sf5,sf6,rfl,Z⟩))))))
 refine mF sf0 rfl (mF sf6 rfl (L_sidx rfl Tryd.underlying9 rfl rfl hx25 (L_gtr rfl rfl rfl (L_pick (v:=Bo ((decide ((x25.toNat : Int) < 48)) || (decide ((x25.toNat : Int) > 57)))) rfl rfl (or_f hc27 rfl) (nn (rj hR26 ⟨sf0,sf4,sf5,sf6,rfl,Z⟩))))))
 intro f w_ hR
 obtain ⟨sf0,sf4,sf5,sf6,sf54,Z⟩:=rk hR26 hR
 refine W_cond (b:=((decide ((x25.toNat : Int) < 48)) || (decide ((x25.toNat : Int) > 57)))) sf54 (fun hc28=>?_) (fun hc28=>?_)
 have hB22:=(ite_t hc28).symm.trans hB22
 refine sq (aI rfl (aB rfl (nn (W_ret (retG2 (v1:=I 0) (v2:=Bo false) Tryd.results37 rfl rfl ?_)))))
 obtain rfl:=so hB22
 obtain rfl:=so hL22
 obtain rfl:=so hF
 exact ⟨rfl,Z⟩
 have hB22:=(ite_f hc28).symm.trans hB22
 refine W_skip (W_region (mF sf5 rfl (L_mul rfl rfl rfl (mF sf0 rfl (mF sf6 rfl (L_sidx rfl Tryd.underlying9 rfl rfl hx25 (L_sub rfl rfl rfl (L_cv (n:=IntKind.u8.wrap ((x25.toNat : Int) - 48)) rfl rfl ⟨_,Tryd.underlying5⟩ Tryd.underlying3 (L_add rfl rfl rfl (aI rfl (nn (W_region (mF sf6 rfl (L_add rfl rfl rfl (aI rfl (nn ?_))))))))))))))))
 obtain rfl:=so hB22
 show ∃ m,m < _∧I22 m _ _
 refine ⟨rest22,Nat.lt_succ_self _,?_⟩
 exact ij hI22 ⟨i_20 + 1,rest22,i64 ((i64 (n_21 * 10)) + (i64 (IntKind.u8.wrap ((x25.toNat : Int) - 48)))),rfl,by omega,by omega,hL22,sf0,sf4,rfl,(Eq.trans rfl (congrArg (Value.int .i64) (i64_succ (n:=0 + k23) (by omega) (cntF_le hk23)))),Z⟩
 rcases suf22 with _ | _
 obtain rfl:=count_zero hL22
 refine W_exit (rj hR22 ⟨n_21,rfl,sf4,sf5,Z⟩)
 exact absurd (cntF_yes hs22 hl22 hk23) (of_decide_eq_false hc24)
 intro f w_ hR
 obtain ⟨n_21,rfl,sf4,sf5,Z⟩:=rk hR22 hR
 refine W_seq (sq (mF sf4 rfl (nn ?_)))
 obtain ⟨n_29,hA30,hF⟩:=bind_some hF
 obtain ⟨R30,hR30⟩:=exR fun f w_=>f 5 = I n_29∧Star H w_ ([])
 refine W_join R30 ?_ ?_
 refine W_cond (b:=b2) rfl (fun hc31=>?_) (fun hc31=>?_)
 have hA30:=(ite_t hc31).symm.trans hA30
 refine W_region (mF sf5 rfl (L_neg rfl rfl (aI rfl (nn ?_))))
 obtain rfl:=so hA30
 exact rj hR30 ⟨rfl,Z⟩
 have hA30:=(ite_f hc31).symm.trans hA30
 refine W_skip ?_
 obtain rfl:=so hA30
 exact rj hR30 ⟨sf5,Z⟩
 intro f w_ hR
 obtain ⟨sf5,Z⟩:=rk hR30 hR
 refine sq (mF sf5 rfl (aI rfl (aB rfl (nn (W_ret (retG2 (v1:=I n_29) (v2:=Bo true) Tryd.results37 rfl rfl ?_))))))
 obtain rfl:=so hF
 exact ⟨rfl,Z⟩
theorem s_l1Literal_c {s : ByteArray} {H : FH} {w : World} (Z : Star H w []) {r : Int} (hF : s_l1Literal s = some r) :
 C Tryd.prog 38 #[.string s] w fun v w'=>v = I r∧Star H w' []:=by
 unfold s_l1Literal at hF
 refine C_enter Tryd.func38 rfl Tryd.ntmps38 rfl (sq (aI rfl (ns (aI rfl (nq (W_seq ?_))))))
 obtain ⟨b2,hb2,hF⟩:=bind_some hF
 obtain ⟨R3,hR3⟩:=exR fun f w_=>f 0 = .string s∧f 3 = I 1∧f 13 = Bo b2∧Star H w_ ([])
 refine W_join R3 ?_ ?_
 refine W_region (mV (.string s) rfl (L_slen (s:=s) rfl Tryd.underlying9 rfl (L_gtr rfl rfl rfl (mB rfl (L_split (d:=9) (b:=decide ((s.size : Int) > 0)) rfl (fun hc4=>?_) (fun hc4=>?_))))))
 rw [ite_t hc4] at hb2
 obtain ⟨x1,hx1,hb2⟩:=bind_some hb2
 refine mV (.string s) rfl (L_sidx rfl Tryd.underlying9 rfl rfl hx1 (L_eql rfl rfl rfl (L_pick (v:=Bo b2) rfl rfl (congrArg Value.bool (so hb2)) (nn (rj hR3 ⟨rfl,rfl,rfl,Z⟩)))))
 rw [ite_f hc4] at hb2
 refine ps rfl (ps rfl (ps rfl (L_pick (v:=Bo b2) rfl rfl (congrArg Value.bool (so hb2)) (nn (rj hR3 ⟨rfl,rfl,rfl,Z⟩)))))
 intro f w_ hR
 obtain ⟨sf0,sf3,sf13,Z⟩:=rk hR3 hR
 obtain ⟨⟨s_5,sign_6⟩,hA7,hF⟩:=bind_some hF
 obtain ⟨R7,hR7⟩:=exR fun f w_=>f 0 = .string s_5∧f 3 = I sign_6∧Star H w_ ([])
 refine W_join R7 ?_ ?_
 refine W_cond (b:=b2) sf13 (fun hc8=>?_) (fun hc8=>?_)
 have hA7:=(ite_t hc8).symm.trans hA7
 refine sq (aI rfl (nn ?_))
 obtain ⟨x9,hx9,hA7⟩:=bind_some hA7
 refine W_region (mF sf0 rfl (L_ssl (a:=1) (b:=(s.size : Int)) rfl Tryd.underlying9 rfl rfl rfl hx9 (aV (.string x9) rfl (nn ?_))))
 obtain ⟨rfl,rfl⟩:=so2 hA7
 exact rj hR7 ⟨rfl,rfl,Z⟩
 have hA7:=(ite_f hc8).symm.trans hA7
 refine W_skip ?_
 obtain ⟨rfl,rfl⟩:=so2 hA7
 exact rj hR7 ⟨sf0,sf3,Z⟩
 intro f w_ hR
 obtain ⟨sf0,sf3,Z⟩:=rk hR7 hR
 refine W_seq (W_seq ?_)
 obtain ⟨b11,hb11,hF⟩:=bind_some hF
 obtain ⟨R12,hR12⟩:=exR fun f w_=>f 0 = .string s_5∧f 3 = I sign_6∧f 23 = Bo b11∧Star H w_ ([])
 refine W_join R12 ?_ ?_
 refine W_region (mF sf0 rfl (L_slen (s:=s_5) rfl Tryd.underlying9 rfl (L_lss rfl rfl rfl (mB rfl (L_split (d:=19) (b:=decide ((s_5.size : Int) < 2)) rfl (fun hc13=>?_) (fun hc13=>?_))))))
 rw [ite_t hc13] at hb11
 refine ps rfl (ps rfl (ps rfl (L_pick (v:=Bo b11) rfl rfl (congrArg Value.bool (so hb11)) (nn (rj hR12 ⟨sf0,sf3,rfl,Z⟩)))))
 rw [ite_f hc13] at hb11
 obtain ⟨x10,hx10,hb11⟩:=bind_some hb11
 refine mF sf0 rfl (L_sidx rfl Tryd.underlying9 rfl rfl hx10 (L_neq rfl rfl rfl (L_pick (v:=Bo b11) rfl rfl (congrArg Value.bool (so hb11)) (nn (rj hR12 ⟨sf0,sf3,rfl,Z⟩)))))
 intro f w_ hR
 obtain ⟨sf0,sf3,sf23,Z⟩:=rk hR12 hR
 refine W_cond (b:=b11) sf23 (fun hc14=>?_) (fun hc14=>?_)
 have hF:=(ite_t hc14).symm.trans hF
 refine sq (aI rfl (nn (W_ret (retG1 (v1:=I 0) Tryd.results38 rfl ?_))))
 obtain rfl:=so hF
 exact ⟨rfl,Z⟩
 have hF:=(ite_f hc14).symm.trans hF
 refine W_skip (W_seq ?_)
 obtain ⟨x15,hx15,hF⟩:=bind_some hF
 obtain ⟨x21,hx21,hF⟩:=bind_some hF
 refine W_region (mF sf0 rfl (L_ssl (a:=1) (b:=(s_5.size : Int)) rfl Tryd.underlying9 rfl rfl rfl hx15 ?_))
 obtain ⟨H23b,l24,s25,z26,k27⟩:=Z.borrow
 refine L_call rfl Tryd.call37 (ops1 rfl) (s_l17Num_c (s:=x15) s25 hx21) ?_
 rintro _ w28 ⟨rfl,Z⟩
 have Z:=k27 Z c0
 refine mV (.tuple #[I x21.1,Bo x21.2]) rfl (L_ex (v:=I x21.1) rfl rfl rfl (L_ex (v:=Bo x21.2) rfl rfl rfl (aI rfl (aB rfl (nq (W_seq ?_))))))
 obtain ⟨R29,hR29⟩:=exR fun f w_=>f 3 = I sign_6∧f 4 = I x21.1∧f 39 = Bo (((!x21.2) || (decide (x21.1 < 1))) || (decide (x21.1 > 12)))∧Star H w_ ([])
 refine W_join R29 ?_ ?_
 refine W_region (mB rfl (L_not_ rfl rfl (mB rfl (L_split (d:=32) (b:=(!x21.2)) rfl (fun hc30=>?_) (fun hc30=>?_)))))
 refine ps rfl (ps rfl (L_pick (v:=Bo ((!x21.2) || (decide (x21.1 < 1)))) rfl rfl (or_t hc30) (mB rfl (L_split (d:=36) (b:=((!x21.2) || (decide (x21.1 < 1)))) rfl (fun hc31=>?_) (fun hc31=>?_)))))
 refine ps rfl (ps rfl (L_pick (v:=Bo (((!x21.2) || (decide (x21.1 < 1))) || (decide (x21.1 > 12)))) rfl rfl (or_t hc31) (nn (rj hR29 ⟨sf3,rfl,rfl,Z⟩))))
 refine mI rfl (L_gtr rfl rfl rfl (L_pick (v:=Bo (((!x21.2) || (decide (x21.1 < 1))) || (decide (x21.1 > 12)))) rfl rfl (or_f hc31 rfl) (nn (rj hR29 ⟨sf3,rfl,rfl,Z⟩))))
 refine mI rfl (L_lss rfl rfl rfl (L_pick (v:=Bo ((!x21.2) || (decide (x21.1 < 1)))) rfl rfl (or_f hc30 rfl) (mB rfl (L_split (d:=36) (b:=((!x21.2) || (decide (x21.1 < 1)))) rfl (fun hc32=>?_) (fun hc32=>?_)))))
 refine ps rfl (ps rfl (L_pick (v:=Bo (((!x21.2) || (decide (x21.1 < 1))) || (decide (x21.1 > 12)))) rfl rfl (or_t hc32) (nn (rj hR29 ⟨sf3,rfl,rfl,Z⟩))))
 refine mI rfl (L_gtr rfl rfl rfl (L_pick (v:=Bo (((!x21.2) || (decide (x21.1 < 1))) || (decide (x21.1 > 12)))) rfl rfl (or_f hc32 rfl) (nn (rj hR29 ⟨sf3,rfl,rfl,Z⟩))))
 intro f w_ hR
 obtain ⟨sf3,sf4,sf39,Z⟩:=rk hR29 hR
 refine W_cond (b:=(((!x21.2) || (decide (x21.1 < 1))) || (decide (x21.1 > 12)))) sf39 (fun hc33=>?_) (fun hc33=>?_)
 have hF:=(ite_t hc33).symm.trans hF
 refine sq (aI rfl (nn (W_ret (retG1 (v1:=I 0) Tryd.results38 rfl ?_))))
 obtain rfl:=so hF
 exact ⟨rfl,Z⟩
 have hF:=(ite_f hc33).symm.trans hF
 refine W_skip (sq (mF sf3 rfl (mF sf4 rfl (L_mul rfl rfl rfl (aI rfl (nn (W_ret (retG1 (v1:=I (i64 (sign_6 * x21.1))) Tryd.results38 rfl ?_))))))))
 obtain rfl:=so hF
 exact ⟨rfl,Z⟩
theorem s_ParseConstraint_c {fu : Nat} {text : ByteArray} {H : FH} {w : World} (Z : Star H w []) {r : Con × Bool} (hF : s_ParseConstraint fu text = some r) :
 C Tryd.prog 13 #[.string text] w fun v w'=>∃ (u1 : Value),v = .tuple #[.agg #[u1,I r.1.bound],Bo r.2]∧Star H w' [oF 62 rTerm u1 r.1.terms]:=by
 unfold s_ParseConstraint at hF
 refine C_enter Tryd.func13 rfl Tryd.ntmps13 rfl (sq (L_al (cs:=#[S0,I 0]) rfl Tryd.zeroValue29 rfl Z (fun g3 w4 Z=>aB rfl (nq ?_))))
 obtain ⟨x10,hx10,hF⟩:=bind_some hF
 refine W_region (mV (.string text) rfl ?_)
 obtain ⟨H13b,l14,s15,z16,k17⟩:=Z.borrow
 refine L_call rfl Tryd.call36 (ops2 rfl rfl) (s_l17Cut_c (s:=text) (c:=32) s15 hx10) ?_
 rintro r18_0 w18 ⟨_,rfl,Z⟩
 have Z:=k17 Z (co closed_str c0)
 refine aV r18_0 rfl (ns (mV r18_0 rfl (L_len rfl Tryd.underlying56 rfl (Star.len 0 Z rfl) (aI rfl (nq (W_seq ?_))))))
 obtain ⟨b25,hb25,hF⟩:=bind_some hF
 obtain ⟨R26,hR26⟩:=exR fun f w_=>f 0 = .string text∧f 2 = Pt g3∧f 4 = r18_0∧f 5 = I (x10.length : Int)∧f 32 = Bo b25∧Star H w_ ([oF 9 RP.str r18_0 x10,box g3 29 #[S0,I 0]])
 refine W_join R26 ?_ ?_
 refine W_region (mI rfl (L_lss rfl rfl rfl (mB rfl (L_split (d:=16) (b:=decide ((x10.length : Int) < 2)) rfl (fun hc27=>?_) (fun hc27=>?_)))))
 refine ps rfl (ps rfl (ps rfl (L_pick (v:=Bo ((decide ((x10.length : Int) < 2)) || ((Int.tmod (x10.length : Int) 2) != 0))) rfl rfl (or_t hc27) (mB rfl (L_split (d:=21) (b:=((decide ((x10.length : Int) < 2)) || ((Int.tmod (x10.length : Int) 2) != 0))) rfl (fun hc28=>?_) (fun hc28=>?_))))))
 refine ps rfl (ps rfl (L_pick (v:=Bo (((decide ((x10.length : Int) < 2)) || ((Int.tmod (x10.length : Int) 2) != 0)) || (decide ((x10.length : Int) > 26)))) rfl rfl (or_t hc28) (mB rfl (L_split (d:=25) (b:=(((decide ((x10.length : Int) < 2)) || ((Int.tmod (x10.length : Int) 2) != 0)) || (decide ((x10.length : Int) > 26)))) rfl (fun hc29=>?_) (fun hc29=>?_)))))
 rw [ite_t hc29] at hb25
 refine ps rfl (ps rfl (ps rfl (ps rfl (ps rfl (ps rfl (L_pick (v:=Bo b25) rfl rfl (congrArg Value.bool (so hb25)) (nn (rj hR26 ⟨rfl,rfl,rfl,rfl,rfl,Z⟩))))))))
 rw [ite_f hc29] at hb25
 obtain ⟨x20,hx20,hb25⟩:=bind_some hb25
 refine mV r18_0 rfl (mI rfl (L_sub rfl rfl rfl ?_))
 obtain ⟨g30,cap_g30,hv31,_,_⟩:=Star.row 0 Z rfl hx20
 refine L_ixO (R:=(OR.frz RP.str)) (tb:=0) 0 rfl Tryd.underlying56 Tryd.sizeOf9 rfl hv31 (by first | rfl | simp) rfl hx20 ?_
 obtain ⟨cs32,hr32,hat32⟩:=Star.eltF 0 Z rfl hv31 hx20
 obtain rfl : _ = [_]:=hr32
 refine L_ld rfl Tryd.isAgg9 rfl (At.cell hat32 (j:=0) rfl) (L_sneq (s:=x20) (s':=(⟨#[62,61]⟩ : ByteArray)) rfl rfl rfl (L_pick (v:=Bo b25) rfl rfl (congrArg Value.bool (so hb25)) (nn (rj hR26 ⟨rfl,rfl,rfl,rfl,rfl,Z⟩))))
 refine mI rfl (L_gtr rfl rfl rfl (L_pick (v:=Bo (((decide ((x10.length : Int) < 2)) || ((Int.tmod (x10.length : Int) 2) != 0)) || (decide ((x10.length : Int) > 26)))) rfl rfl (or_f hc28 rfl) (mB rfl (L_split (d:=25) (b:=(((decide ((x10.length : Int) < 2)) || ((Int.tmod (x10.length : Int) 2) != 0)) || (decide ((x10.length : Int) > 26)))) rfl (fun hc34=>?_) (fun hc34=>?_)))))
 rw [ite_t hc34] at hb25
 refine ps rfl (ps rfl (ps rfl (ps rfl (ps rfl (ps rfl (L_pick (v:=Bo b25) rfl rfl (congrArg Value.bool (so hb25)) (nn (rj hR26 ⟨rfl,rfl,rfl,rfl,rfl,Z⟩))))))))
 rw [ite_f hc34] at hb25
 obtain ⟨x20,hx20,hb25⟩:=bind_some hb25
 refine mV r18_0 rfl (mI rfl (L_sub rfl rfl rfl ?_))
 obtain ⟨g35,cap_g35,hv36,_,_⟩:=Star.row 0 Z rfl hx20
 refine L_ixO (R:=(OR.frz RP.str)) (tb:=0) 0 rfl Tryd.underlying56 Tryd.sizeOf9 rfl hv36 (by first | rfl | simp) rfl hx20 ?_
 obtain ⟨cs37,hr37,hat37⟩:=Star.eltF 0 Z rfl hv36 hx20
 obtain rfl : _ = [_]:=hr37
 refine L_ld rfl Tryd.isAgg9 rfl (At.cell hat37 (j:=0) rfl) (L_sneq (s:=x20) (s':=(⟨#[62,61]⟩ : ByteArray)) rfl rfl rfl (L_pick (v:=Bo b25) rfl rfl (congrArg Value.bool (so hb25)) (nn (rj hR26 ⟨rfl,rfl,rfl,rfl,rfl,Z⟩))))
 refine mI rfl (L_rem (m:=(x10.length : Int)) (n:=2) rfl rfl rfl (by decide) (L_neq rfl rfl rfl (L_pick (v:=Bo ((decide ((x10.length : Int) < 2)) || ((Int.tmod (x10.length : Int) 2) != 0))) rfl rfl (or_f hc27 rfl) (mB rfl (L_split (d:=21) (b:=((decide ((x10.length : Int) < 2)) || ((Int.tmod (x10.length : Int) 2) != 0))) rfl (fun hc39=>?_) (fun hc39=>?_))))))
 refine ps rfl (ps rfl (L_pick (v:=Bo (((decide ((x10.length : Int) < 2)) || ((Int.tmod (x10.length : Int) 2) != 0)) || (decide ((x10.length : Int) > 26)))) rfl rfl (or_t hc39) (mB rfl (L_split (d:=25) (b:=(((decide ((x10.length : Int) < 2)) || ((Int.tmod (x10.length : Int) 2) != 0)) || (decide ((x10.length : Int) > 26)))) rfl (fun hc40=>?_) (fun hc40=>?_)))))
 rw [ite_t hc40] at hb25
 refine ps rfl (ps rfl (ps rfl (ps rfl (ps rfl (ps rfl (L_pick (v:=Bo b25) rfl rfl (congrArg Value.bool (so hb25)) (nn (rj hR26 ⟨rfl,rfl,rfl,rfl,rfl,Z⟩))))))))
 rw [ite_f hc40] at hb25
 obtain ⟨x20,hx20,hb25⟩:=bind_some hb25
 refine mV r18_0 rfl (mI rfl (L_sub rfl rfl rfl ?_))
 obtain ⟨g41,cap_g41,hv42,_,_⟩:=Star.row 0 Z rfl hx20
 refine L_ixO (R:=(OR.frz RP.str)) (tb:=0) 0 rfl Tryd.underlying56 Tryd.sizeOf9 rfl hv42 (by first | rfl | simp) rfl hx20 ?_
 obtain ⟨cs43,hr43,hat43⟩:=Star.eltF 0 Z rfl hv42 hx20
 obtain rfl : _ = [_]:=hr43
 refine L_ld rfl Tryd.isAgg9 rfl (At.cell hat43 (j:=0) rfl) (L_sneq (s:=x20) (s':=(⟨#[62,61]⟩ : ByteArray)) rfl rfl rfl (L_pick (v:=Bo b25) rfl rfl (congrArg Value.bool (so hb25)) (nn (rj hR26 ⟨rfl,rfl,rfl,rfl,rfl,Z⟩))))
 refine mI rfl (L_gtr rfl rfl rfl (L_pick (v:=Bo (((decide ((x10.length : Int) < 2)) || ((Int.tmod (x10.length : Int) 2) != 0)) || (decide ((x10.length : Int) > 26)))) rfl rfl (or_f hc39 rfl) (mB rfl (L_split (d:=25) (b:=(((decide ((x10.length : Int) < 2)) || ((Int.tmod (x10.length : Int) 2) != 0)) || (decide ((x10.length : Int) > 26)))) rfl (fun hc45=>?_) (fun hc45=>?_)))))
 rw [ite_t hc45] at hb25
 refine ps rfl (ps rfl (ps rfl (ps rfl (ps rfl (ps rfl (L_pick (v:=Bo b25) rfl rfl (congrArg Value.bool (so hb25)) (nn (rj hR26 ⟨rfl,rfl,rfl,rfl,rfl,Z⟩))))))))
 rw [ite_f hc45] at hb25
 obtain ⟨x20,hx20,hb25⟩:=bind_some hb25
 refine mV r18_0 rfl (mI rfl (L_sub rfl rfl rfl ?_))
 obtain ⟨g46,cap_g46,hv47,_,_⟩:=Star.row 0 Z rfl hx20
 refine L_ixO (R:=(OR.frz RP.str)) (tb:=0) 0 rfl Tryd.underlying56 Tryd.sizeOf9 rfl hv47 (by first | rfl | simp) rfl hx20 ?_
 obtain ⟨cs48,hr48,hat48⟩:=Star.eltF 0 Z rfl hv47 hx20
 obtain rfl : _ = [_]:=hr48
 refine L_ld rfl Tryd.isAgg9 rfl (At.cell hat48 (j:=0) rfl) (L_sneq (s:=x20) (s':=(⟨#[62,61]⟩ : ByteArray)) rfl rfl rfl (L_pick (v:=Bo b25) rfl rfl (congrArg Value.bool (so hb25)) (nn (rj hR26 ⟨rfl,rfl,rfl,rfl,rfl,Z⟩))))
 intro f w_ hR
 obtain ⟨sf0,sf2,sf4,sf5,sf32,Z⟩:=rk hR26 hR
 refine W_cond (b:=b25) sf32 (fun hc50=>?_) (fun hc50=>?_)
 have hF:=(ite_t hc50).symm.trans hF
 refine sq (L_bld rfl (parts0 ) (bld_29_  ) (L_staB (vs:=#[S0,I 0]) (cs2:=#[S0,I 0]) 1 rfl Tryd.sizeOf29 sf2 rfl rfl (ones_cons rfl (ones_cons rfl ones_nil)) Z rfl (by show 0 + 2≤2; decide) rfl (fun w52 Z=>aB rfl (nn (W_ret (retG2 (v1:=.agg #[S0,I 0]) (v2:=Bo false) Tryd.results13 (resV_agg Tryd.isAgg29 Tryd.sizeOf29 sf2 (Star.blkAt 0 Z rfl) rfl) rfl ?_))))))
 obtain rfl:=so hF
 have Z:=Star.addNil (R:=(OR.frz rTerm)) (e:=62) Z
 exact ⟨S0,rfl,(Star.keepN 1 Z)⟩
 have hF:=(ite_f hc50).symm.trans hF
 refine W_skip (sq (L_bld rfl (parts0 ) (bld_29_  ) (L_al (cs:=#[S0,I 0]) rfl Tryd.zeroValue29 rfl Z (fun g57 w58 Z=>L_staB (vs:=#[S0,I 0]) (cs2:=#[S0,I 0]) 0 rfl Tryd.sizeOf29 rfl rfl rfl (ones_cons rfl (ones_cons rfl ones_nil)) Z rfl (by show 0 + 2≤2; decide) rfl (fun w59 Z=>nq (sq (aI rfl (nn ?_))))))))
 obtain ⟨j66,hL66,hF⟩:=bind_some hF
 obtain ⟨R66,hR66⟩:=exR fun f w_=>∃ i_61 : Int,∃ g57_0_62 : List Term,∃ H64 : FH,∃ v62_g57_0 : Value,j66 = .nx (i_61,g57_0_62)∧Le H H64∧f 0 = .string text∧f 2 = Pt g3∧f 4 = r18_0∧f 5 = I (x10.length : Int)∧f 6 = Pt g57∧Star H64 w_ ([oF 9 RP.str r18_0 x10,oF 62 rTerm v62_g57_0 g57_0_62,box g57 29 #[v62_g57_0,I 0],box g3 29 #[S0,I 0]])
 refine W_join R66 ?_ ?_
 refine W_block ?_
 obtain ⟨I66,hI66⟩:=exI fun n f w_=>∃ i_61 : Int,∃ g57_0_62 : List Term,∃ H64 : FH,∃ v62_g57_0 : Value,whileL (s_ParseConstraint_b1 x10) n (i_61,g57_0_62) = some j66∧Le H H64∧f 0 = .string text∧f 2 = Pt g3∧f 4 = r18_0∧f 5 = I (x10.length : Int)∧f 6 = Pt g57∧f 7 = I i_61∧Star H64 w_ ([oF 9 RP.str r18_0 x10,oF 62 rTerm v62_g57_0 g57_0_62,box g57 29 #[v62_g57_0,I 0],box g3 29 #[S0,I 0]])
 have Z:=Star.addNil (R:=(OR.frz rTerm)) (e:=62) Z
 have Z:=Z.gets [3,2,2,3] rfl
 refine W_loop I66 (n:=fu) ?_ ?_
 exact ij hI66 ⟨0,[],H,S0,hL66,(Le.refl _),sf0,sf2,sf4,sf5,rfl,rfl,Z⟩
 intro n66 f w_ hI
 obtain ⟨i_61,g57_0_62,H64,v62_g57_0,hL66,l65,sf0,sf2,sf4,sf5,sf6,sf7,Z⟩:=ik hI66 hI
 rcases n66 with _ | n66
 exact (while_zero hL66).elim
 obtain ⟨o66,hB66,hL66⟩:=while_succ hL66
 rw [s_ParseConstraint_b1] at hB66
 refine W_seq (sq (mF sf7 rfl (L_add rfl rfl rfl (mF sf5 rfl (L_lss rfl rfl rfl (nn (W_cond (b:=decide ((i64 (i_61 + 2)) < (x10.length : Int))) rfl (fun hc68=>?_) (fun hc68=>?_))))))))
 have hB66:=(ite_t hc68).symm.trans hB66
 refine W_skip (W_seq (W_block (W_seq ?_)))
 obtain ⟨x69,hx69,hB66⟩:=bind_some hB66
 obtain ⟨x79,hx79,hB66⟩:=bind_some hB66
 refine W_region (mF sf4 rfl (mF sf7 rfl ?_))
 obtain ⟨g81,cap_g81,hv82,_,_⟩:=Star.row 0 Z rfl hx69
 refine L_ixO (R:=(OR.frz RP.str)) (tb:=0) 0 rfl Tryd.underlying56 Tryd.sizeOf9 rfl hv82 (by first | rfl | simp) rfl hx69 ?_
 obtain ⟨cs83,hr83,hat83⟩:=Star.eltF 0 Z rfl hv82 hx69
 obtain rfl : _ = [_]:=hr83
 refine L_ld rfl Tryd.isAgg9 rfl (At.cell hat83 (j:=0) rfl) ?_
 obtain ⟨H85b,l86,s87,z88,k89⟩:=Z.borrow
 refine L_call rfl Tryd.call37 (ops1 rfl) (s_l17Num_c (s:=x69) s87 hx79) ?_
 rintro _ w90 ⟨rfl,Z⟩
 have Z:=k89 Z c0
 refine mV (.tuple #[I x79.1,Bo x79.2]) rfl (L_ex (v:=I x79.1) rfl rfl rfl (L_ex (v:=Bo x79.2) rfl rfl rfl (aI rfl (aB rfl (nn ?_)))))
 obtain ⟨x91,hx91,hB66⟩:=bind_some hB66
 obtain ⟨x99,hx99,hB66⟩:=bind_some hB66
 obtain ⟨x104,hx104,hB66⟩:=bind_some hB66
 refine W_drawS 11 [isV (Pt g57),isV (v62_g57_0),isV (I x79.1),isV (r18_0),isV (I i_61),isV (I (i64 (i_61 + 1))),isV (.pointer (some ⟨g81,Int.toNat (i64 (i_61 + 1)) * 1,none⟩)),isV (.string x91),isV (I x99),isV (.agg #[I x79.1,I x99]),anyF] [oF 9 RP.str r18_0 x10,oF 62 rTerm v62_g57_0 g57_0_62,box g57 29 #[v62_g57_0,I 0],box g3 29 #[S0,I 0]] [.made 10 59 (fun v_=>oF 62 rTerm v_ ([({ coef:=x79.1,lit:=x99 } : Term)])) none] ([]) [([],[]),([],[]),([],[]),([],[]),([],[]),([],[]),([],[]),([],[]),([],[]),([],[]),([],[0])] (S:=[(some 10,[59],none)]) Tryd_mix (by kernel_rfl) rfl (by kernel_rfl) (amF_cons (mono_V _) (amF_cons (mono_V _) (amF_cons (mono_V _) (amF_cons (mono_V _) (amF_cons (mono_V _) (amF_cons (mono_V _) (amF_cons (mono_V _) (amF_cons (mono_V _) (amF_cons (mono_V _) (amF_cons (mono_V _) (amF_cons (mono_any) amF_nil))))))))))) Z ?_ (fun f w_ H109 hS109 hE109 hT109 Z=>?_)
 refine opsS_cons (fun f w_ _ _ s _ _ Z=>fA 0 fa_29_0 ((s 6 rfl).trans sf6) rfl (nO rfl rfl Z)) (opsS_cons (fun f w_ _ _ _ _ p Z=>ldB 2 Z Tryd.isAgg27 (p 0 49 rfl rfl) rfl rfl (nO rfl rfl Z)) (opsS_cons (fun f w_ _ _ s _ _ Z=>mF ((s 8 rfl).trans rfl) rfl (nO rfl rfl Z)) (opsS_cons (fun f w_ _ _ s _ _ Z=>mF ((s 4 rfl).trans sf4) rfl (nO rfl rfl Z)) (opsS_cons (fun f w_ _ _ s _ _ Z=>mF ((s 7 rfl).trans sf7) rfl (nO rfl rfl Z)) (opsS_cons (fun f w_ _ _ _ _ p Z=>L_add rfl (p 4 53 rfl rfl) rfl (nO rfl rfl Z)) (opsS_cons (fun f w_ _ _ _ _ p Z=>L_ixO (R:=(OR.frz RP.str)) (tb:=0) 0 rfl Tryd.underlying56 Tryd.sizeOf9 (p 3 52 rfl rfl) hv82 (by first | rfl | simp) (p 5 54 rfl rfl) hx91 (nO rfl rfl Z)) (opsS_cons ?_ ?_)))))))
 intro f w_ H109 X109 hS109 hE109 hP109 Z
 obtain ⟨cs121,hr121,hat121⟩:=Star.eltF 0 Z rfl hv82 hx91
 obtain rfl : _ = [_]:=hr121
 refine L_ld rfl Tryd.isAgg9 (hP109 6 55 rfl rfl) (At.cell hat121 (j:=0) rfl) (L_nil ⟨rfl,_,_,rfl,Le.refl _,fun _ _=>rfl,Z⟩)
 refine opsS_cons ?_ ?_
 intro f w_ H109 X109 hS109 hE109 hP109 Z
 obtain ⟨H123b,l124,s125,z126,k127⟩:=Z.borrow
 refine L_call rfl Tryd.call38 (ops1 (hP109 7 56 rfl rfl)) (s_l1Literal_c (s:=x91) s125 hx99) ?_
 rintro _ w128 ⟨rfl,Z⟩
 have Z:=k127 Z c0
 exact L_nil ⟨rfl,_,_,rfl,Le.refl _,fun _ _=>rfl,Z⟩
 refine opsS_cons (fun f w_ _ _ _ _ p Z=>L_bld rfl (parts2 (p 2 51 rfl rfl) (p 8 57 rfl rfl)) (bld_62_0_1 (I x79.1) (I x99) rfl rfl) (nO rfl rfl Z)) (opsS_cons ?_ ?_)
 intro f w_ H109 X109 hS109 hE109 hP109 Z
 refine L_bs rfl (parts1 (hP109 9 58 rfl rfl)) (bs_27_1_2 (I x79.1) (I x99) ) Z (fun g129 w130 Z=>?_)
 have Z:=Star.addF (r:=rTerm) (cs:=[I x79.1,I x99]) (x:=({ coef:=x79.1,lit:=x99 } : Term)) Z (rTerm_iff.2 rfl)
 have Z:=Star.mkRow (R:=(OR.frz rTerm)) [([I x79.1,I x99],({ coef:=x79.1,lit:=x99 } : Term))] [({ coef:=x79.1,lit:=x99 } : Term)] 1 Z rfl rfl rfl (by decide)
 have Z:=Z.gets [4,4,4,4] rfl
 exact L_nil ⟨rfl,_,_,rfl,Le.refl _,fun _ _=>trivial,Z⟩
 exact opsS_nil
 have Z : Star H109 w_ ([oF 9 RP.str r18_0 x10,oF 62 rTerm v62_g57_0 g57_0_62,box g57 29 #[v62_g57_0,I 0],box g3 29 #[S0,I 0],oF 62 rTerm (f 59) ([({ coef:=x79.1,lit:=x99 } : Term)])]):=Z
 have Z:=Z.gets [4,2] rfl
 refine L_appM (v:=v62_g57_0) (u:=(f 59)) rfl et_27 (hT109 1 50 rfl rfl) rfl Z hx104 (fun v133 w134 Z=>fA 0 fa_29_0 ((hS109 6 rfl).trans sf6) rfl (L_stB (v:=v133) (cs2:=#[v133,I 0]) 2 rfl Tryd.sizeOf27 rfl rfl (one_len (Star.len 0 Z rfl)) Z rfl rfl rfl (fun w136 Z=>nn (W_region (mF ((hS109 7 rfl).trans sf7) rfl (L_add rfl rfl rfl (aI rfl (nn ?_))))))))
 obtain rfl:=so hB66
 have Z:=Z.gets [3,1,2,3] rfl
 show ∃ m,m < _∧I66 m _ _
 refine ⟨n66,Nat.lt_succ_self _,?_⟩
 exact ij hI66 ⟨i64 (i_61 + 2),x104,H109,v133,hL66,(Le.trans l65 hE109),((hS109 0 rfl).trans sf0),((hS109 2 rfl).trans sf2),((hS109 4 rfl).trans sf4),((hS109 5 rfl).trans sf5),((hS109 6 rfl).trans sf6),rfl,Z⟩
 have hB66:=(ite_f hc68).symm.trans hB66
 refine W_exit ?_
 obtain rfl:=so hB66
 obtain rfl:=so hL66
 exact rj hR66 ⟨i_61,g57_0_62,H64,v62_g57_0,rfl,l65,sf0,sf2,sf4,sf5,sf6,Z⟩
 intro f w_ hR
 obtain ⟨i_61,g57_0_62,H64,v62_g57_0,rfl,l65,sf0,sf2,sf4,sf5,sf6,Z⟩:=rk hR66 hR
 refine W_seq ?_
 obtain ⟨x137,hx137,hF⟩:=bind_some hF
 obtain ⟨x147,hx147,hF⟩:=bind_some hF
 refine W_region (mF sf4 rfl (mF sf5 rfl (L_sub rfl rfl rfl ?_)))
 obtain ⟨g150,cap_g150,hv151,_,_⟩:=Star.row 0 Z rfl hx137
 refine L_ixO (R:=(OR.frz RP.str)) (tb:=0) 0 rfl Tryd.underlying56 Tryd.sizeOf9 rfl hv151 (by first | rfl | simp) rfl hx137 ?_
 obtain ⟨cs152,hr152,hat152⟩:=Star.eltF 0 Z rfl hv151 hx137
 obtain rfl : _ = [_]:=hr152
 refine L_ld rfl Tryd.isAgg9 rfl (At.cell hat152 (j:=0) rfl) ?_
 obtain ⟨H154b,l155,s156,z157,k158⟩:=Z.borrow
 refine L_call rfl Tryd.call37 (ops1 rfl) (s_l17Num_c (s:=x137) s156 hx147) ?_
 rintro _ w159 ⟨rfl,Z⟩
 have Z:=k158 Z c0
 refine mV (.tuple #[I x147.1,Bo x147.2]) rfl (L_ex (v:=I x147.1) rfl rfl rfl (L_ex (v:=Bo x147.2) rfl rfl rfl (fA 1 fa_29_1 sf6 rfl (L_stB (v:=I x147.1) (cs2:=#[v62_g57_0,I x147.1]) 2 rfl Tryd.sizeOf3 rfl rfl rfl Z rfl rfl rfl (fun w160 Z=>L_nil (W_seq (W_seq ?_)))))))
 obtain ⟨x167,hx167,hF⟩:=bind_some hF
 refine W_region (L_lda (cs:=[v62_g57_0,I x147.1]) rfl Tryd.isAgg29 Tryd.sizeOf29 sf6 (At.sub0 (Blk.at (Star.blkAt 0 Z rfl)) 0 2) rfl ?_)
 obtain ⟨H169b,l170,s171,z172,k173⟩:=Z.borrow
 have hb174 : (rS 62 rTerm).rel H169b [v62_g57_0] g57_0_62:=fz_own 2 z172 rfl
 refine L_call rfl Tryd.call9 (ops1 rfl) (s_FormatConstraint_c (c:=({ terms:=g57_0_62,bound:=x147.1 } : Con)) s171 hb174 hx167) ?_
 rintro _ w175 ⟨rfl,Z⟩
 have Z:=k173 Z c0
 refine mF sf0 rfl (L_sneq (s:=x167) (s':=text) rfl rfl rfl (nn (W_cond (b:=(!(ByteArray.toList x167 == ByteArray.toList text))) rfl (fun hc176=>?_) (fun hc176=>?_))))
 have hF:=(ite_t hc176).symm.trans hF
 refine sq (L_bld rfl (parts0 ) (bld_29_  ) (L_staB (vs:=#[S0,I 0]) (cs2:=#[S0,I 0]) 3 rfl Tryd.sizeOf29 sf2 rfl rfl (ones_cons rfl (ones_cons rfl ones_nil)) Z rfl (by show 0 + 2≤2; decide) rfl (fun w178 Z=>aB rfl (nn (W_ret (retG2 (v1:=.agg #[S0,I 0]) (v2:=Bo false) Tryd.results13 (resV_agg Tryd.isAgg29 Tryd.sizeOf29 sf2 (Star.blkAt 0 Z rfl) rfl) rfl ?_))))))
 obtain rfl:=so hF
 have Z:=Star.addNil (R:=(OR.frz rTerm)) (e:=62) Z
 exact ⟨S0,rfl,(Star.down (Star.keepN 1 Z) l65 (co closed_term c0))⟩
 have hF:=(ite_f hc176).symm.trans hF
 refine W_skip (sq (L_lda (cs:=[v62_g57_0,I x147.1]) rfl Tryd.isAgg29 Tryd.sizeOf29 sf6 (At.sub0 (Blk.at (Star.blkAt 0 Z rfl)) 0 2) rfl (L_staB (vs:=#[v62_g57_0,I x147.1]) (cs2:=#[v62_g57_0,I x147.1]) 3 rfl Tryd.sizeOf29 sf2 rfl rfl (ones_cons (one_len (Star.len 2 Z rfl)) (ones_cons rfl ones_nil)) Z rfl (by show 0 + 2≤2; decide) rfl (fun w181 Z=>aB rfl (nn (W_ret (retG2 (v1:=.agg #[v62_g57_0,I x147.1]) (v2:=Bo true) Tryd.results13 (resV_agg Tryd.isAgg29 Tryd.sizeOf29 sf2 (Star.blkAt 0 Z rfl) rfl) rfl ?_)))))))
 obtain rfl:=so hF
 have Z:=Z.get 3 rfl
 exact ⟨v62_g57_0,rfl,(Star.down (Star.keepN 1 Z) l65 (co closed_term c0))⟩
theorem strings_Split_c {x_ : ByteArray} {y_ : ByteArray} {H : FH} {w : World} (Z : Star H w []) {r : List ByteArray} (hF : strings_Split x_ y_ = some r) :
 C Tryd.prog 39 #[.string x_,.string y_] w fun v w'=>∃ u1 : Value,v = u1∧Star H w' [oF 9 RP.str u1 r]:=by
 obtain ⟨hs,hy,rfl⟩:=strings_Split_some hF
 obtain ⟨m,hm⟩:=H.glob.maxlen
 refine Calls.mono (Tryd.strings_Split x_ y_ m w hs (Z.sub.cell hm) hy) ?_
 rintro e w' ⟨rfl,rfl⟩
 exact ⟨_,rfl,_,rfl,split_star Z hs hy⟩
theorem strconv_Atoi_c {x_ : ByteArray} {H : FH} {w : World} (Z : Star H w []) {r : Int × Bool} (hF : strconv_Atoi x_ = some r) :
 C Tryd.prog 66 #[.string x_] w fun v w'=>∃ u1 : Value,v = .tuple #[I r.1,u1]∧ErrIs u1 r.2∧Star H w' []:=by
 obtain ⟨hs,rfl⟩:=strconv_Atoi_some hF
 cases hn : Go.Lib.atoiAll x_.data.toList
 refine Calls.mono (Any.strconv_Atoi_ok Tryd.laysC172 x_ (by omega) _ hn w) ?_
 rintro e w' ⟨rfl,hw⟩
 refine ⟨_,rfl,_,rfl,rfl,Star.ext Z ?_⟩
 rcases hw with rfl | ⟨t,rfl⟩
 exact Below.refl _ _
 exact below_bytesWorld _ _ _
 obtain ⟨ev,hv,hev⟩:=H.glob.syn
 refine Calls.mono (Any.strconv_Atoi_syntax Tryd.laysC172 x_ (by omega) hn ev w (Z.sub.cell hv) hev) ?_
 rintro e w' ⟨N,rfl,_,_,hb⟩
 exact ⟨_,rfl,_,rfl,⟨_,_,rfl⟩,Star.ext Z hb⟩
 obtain ⟨ev,hv,hev⟩:=H.glob.rng
 refine Calls.mono (Any.strconv_Atoi_range Tryd.laysC172 x_ (by omega) hn ev w (Z.sub.cell hv) hev) ?_
 rintro e w' ⟨N,rfl,_,_,hb⟩
 exact ⟨_,rfl,_,rfl,⟨_,_,rfl⟩,Star.ext Z hb⟩
theorem i_number_c {s : ByteArray} {H : FH} {w : World} (Z : Star H w []) {r : Int} (hF : i_number s = some r) :
 C Tryd.prog 40 #[.string s] w fun v w'=>v = I r∧Star H w' []:=by
 unfold i_number at hF
 refine C_enter Tryd.func40 rfl Tryd.ntmps40 rfl (sq (aI rfl (nq ?_)))
 obtain ⟨x6,hx6,hF⟩:=bind_some hF
 refine W_region (mV (.string s) rfl ?_)
 obtain ⟨H8b,l9,s10,z11,k12⟩:=Z.borrow
 refine L_call rfl Tryd.call66 (ops1 rfl) (strconv_Atoi_c (x_:=s) s10 hx6) ?_
 rintro _ w13 ⟨r13_0,rfl,hr13_0,Z⟩
 have Z:=k12 Z c0
 refine mV (.tuple #[I x6.1,r13_0]) rfl (L_ex (v:=I x6.1) rfl rfl rfl (L_ex (v:=r13_0) rfl rfl rfl (aI rfl (aV r13_0 rfl (nq (sq (mV r13_0 rfl (L_ene rfl Tryd.underlying77 rfl rfl hr13_0 (nn (W_cond (b:=x6.2) rfl (fun hc14=>?_) (fun hc14=>?_)))))))))))
 have hF:=(ite_t hc14).symm.trans hF
 refine sq (aI rfl (nn (W_ret (retG1 (v1:=I 0) Tryd.results40 rfl ?_))))
 obtain rfl:=so hF
 exact ⟨rfl,Z⟩
 have hF:=(ite_f hc14).symm.trans hF
 refine W_skip (sq (mI rfl (aI rfl (nn (W_ret (retG1 (v1:=I x6.1) Tryd.results40 rfl ?_))))))
 obtain rfl:=so hF
 exact ⟨rfl,Z⟩
theorem strings_CutPrefix_c {x_ : ByteArray} {y_ : ByteArray} {H : FH} {w : World} (Z : Star H w []) {r : ByteArray × Bool} (hF : strings_CutPrefix x_ y_ = some r) :
 C Tryd.prog 67 #[.string x_,.string y_] w fun v w'=>v = .tuple #[.string r.1,Bo r.2]∧Star H w' []:=by
 cases hF
 refine Calls.mono (Tryd.strings_CutPrefix x_ y_ w) ?_
 rintro e w' ⟨rfl,rfl⟩
 exact ⟨_,rfl,rfl,Z⟩
theorem strings_TrimPrefix_c {x_ : ByteArray} {y_ : ByteArray} {H : FH} {w : World} (Z : Star H w []) {r : ByteArray} (hF : strings_TrimPrefix x_ y_ = some r) :
 C Tryd.prog 68 #[.string x_,.string y_] w fun v w'=>v = .string r∧Star H w' []:=by
 cases hF
 refine Calls.mono (Tryd.strings_TrimPrefix x_ y_ w) ?_
 rintro e w' ⟨rfl,rfl⟩
 exact ⟨_,rfl,rfl,Z⟩
theorem i_readLiteral_c {s : ByteArray} {H : FH} {w : World} (Z : Star H w []) {r : Int} (hF : i_readLiteral s = some r) :
 C Tryd.prog 41 #[.string s] w fun v w'=>v = I r∧Star H w' []:=by
 unfold i_readLiteral at hF
 refine C_enter Tryd.func41 rfl Tryd.ntmps41 rfl (sq (aI rfl (nq ?_)))
 obtain ⟨x6,hx6,hF⟩:=bind_some hF
 refine W_region (mV (.string s) rfl ?_)
 obtain ⟨H8b,l9,s10,z11,k12⟩:=Z.borrow
 refine L_call rfl Tryd.call67 (ops2 rfl rfl) (strings_CutPrefix_c (x_:=s) (y_:=(⟨#[126]⟩ : ByteArray)) s10 hx6) ?_
 rintro _ w13 ⟨rfl,Z⟩
 have Z:=k12 Z c0
 refine mV (.tuple #[.string x6.1,Bo x6.2]) rfl (L_ex (v:=.string x6.1) rfl rfl rfl (L_ex (v:=Bo x6.2) rfl rfl rfl (aV (.string x6.1) rfl (aB rfl (nq ?_)))))
 obtain ⟨x19,hx19,hF⟩:=bind_some hF
 obtain ⟨x26,hx26,hF⟩:=bind_some hF
 refine W_region (mV (.string x6.1) rfl ?_)
 obtain ⟨H28b,l29,s30,z31,k32⟩:=Z.borrow
 refine L_call rfl Tryd.call68 (ops2 rfl rfl) (strings_TrimPrefix_c (x_:=x6.1) (y_:=(⟨#[120]⟩ : ByteArray)) s30 hx19) ?_
 rintro _ w33 ⟨rfl,Z⟩
 have Z:=k32 Z c0
 obtain ⟨H34b,l35,s36,z37,k38⟩:=Z.borrow
 refine L_call rfl Tryd.call40 (ops1 rfl) (i_number_c (s:=x19) s36 hx26) ?_
 rintro _ w39 ⟨rfl,Z⟩
 have Z:=k38 Z c0
 refine aI rfl (nq (sq (mB rfl (nn ?_))))
 obtain ⟨l_40,hA41,hF⟩:=bind_some hF
 obtain ⟨R41,hR41⟩:=exR fun f w_=>f 0 = .string s∧f 5 = I l_40∧Star H w_ ([])
 refine W_join R41 ?_ ?_
 refine W_cond (b:=x6.2) rfl (fun hc42=>?_) (fun hc42=>?_)
 have hA41:=(ite_t hc42).symm.trans hA41
 refine W_region (mI rfl (L_neg rfl rfl (aI rfl (nn ?_))))
 obtain rfl:=so hA41
 exact rj hR41 ⟨rfl,rfl,Z⟩
 have hA41:=(ite_f hc42).symm.trans hA41
 refine W_skip ?_
 obtain rfl:=so hA41
 exact rj hR41 ⟨rfl,rfl,Z⟩
 intro f w_ hR
 obtain ⟨sf0,sf5,Z⟩:=rk hR41 hR
 refine W_seq (W_seq ?_)
 obtain ⟨x48,hx48,hF⟩:=bind_some hF
 obtain ⟨b57,hb57,hF⟩:=bind_some hF
 obtain ⟨R58,hR58⟩:=exR fun f w_=>f 5 = I l_40∧f 25 = Bo b57∧Star H w_ ([])
 refine W_join R58 ?_ ?_
 refine W_region (mF sf5 rfl ?_)
 obtain ⟨H59b,l60,s61,z62,k63⟩:=Z.borrow
 refine L_call rfl Tryd.call45 (ops1 rfl) (i_isLiteral_c (l:=l_40) s61 hx48) ?_
 rintro _ w64 ⟨rfl,Z⟩
 have Z:=k63 Z c0
 refine L_not_ rfl rfl (mB rfl (L_split (d:=20) (b:=(!x48)) rfl (fun hc65=>?_) (fun hc65=>?_)))
 rw [ite_t hc65] at hb57
 refine ps rfl (ps rfl (ps rfl (ps rfl (L_pick (v:=Bo b57) rfl rfl (congrArg Value.bool (so hb57)) (nn (rj hR58 ⟨sf5,rfl,Z⟩))))))
 rw [ite_f hc65] at hb57
 obtain ⟨x55,hx55,hb57⟩:=bind_some hb57
 refine mF sf5 rfl ?_
 obtain ⟨H66b,l67,s68,z69,k70⟩:=Z.borrow
 refine L_call rfl Tryd.call63 (ops1 rfl) (i_literalText_c (l:=l_40) s68 hx55) ?_
 rintro _ w71 ⟨rfl,Z⟩
 have Z:=k70 Z c0
 refine mF sf0 rfl (L_sneq (s:=x55) (s':=s) rfl rfl rfl (L_pick (v:=Bo b57) rfl rfl (congrArg Value.bool (so hb57)) (nn (rj hR58 ⟨sf5,rfl,Z⟩))))
 intro f w_ hR
 obtain ⟨sf5,sf25,Z⟩:=rk hR58 hR
 refine W_cond (b:=b57) sf25 (fun hc72=>?_) (fun hc72=>?_)
 have hF:=(ite_t hc72).symm.trans hF
 refine sq (aI rfl (nn (W_ret (retG1 (v1:=I 0) Tryd.results41 rfl ?_))))
 obtain rfl:=so hF
 exact ⟨rfl,Z⟩
 have hF:=(ite_f hc72).symm.trans hF
 refine W_skip (sq (mF sf5 rfl (aI rfl (nn (W_ret (retG1 (v1:=I l_40) Tryd.results41 rfl ?_))))))
 obtain rfl:=so hF
 exact ⟨rfl,Z⟩
theorem i_ParseConstraint_c {fu : Nat} {text : ByteArray} {H : FH} {w : World} (Z : Star H w []) {r : Con × Bool} (hF : i_ParseConstraint fu text = some r) :
 C Tryd.prog 14 #[.string text] w fun v w'=>∃ (u1 : Value),v = .tuple #[.agg #[u1,I r.1.bound],Bo r.2]∧Star H w' [oF 62 rTerm u1 r.1.terms]:=by
 unfold i_ParseConstraint at hF
 refine C_enter Tryd.func14 rfl Tryd.ntmps14 rfl (sq (L_al (cs:=#[S0,I 0]) rfl Tryd.zeroValue29 rfl Z (fun g3 w4 Z=>aB rfl (nq ?_))))
 obtain ⟨x10,hx10,hF⟩:=bind_some hF
 refine W_region (mV (.string text) rfl ?_)
 obtain ⟨H13b,l14,s15,z16,k17⟩:=Z.borrow
 refine L_call rfl Tryd.call39 (ops2 rfl rfl) (strings_Split_c (x_:=text) (y_:=(⟨#[32]⟩ : ByteArray)) s15 hx10) ?_
 rintro r18_0 w18 ⟨_,rfl,Z⟩
 have Z:=k17 Z (co closed_str c0)
 refine aV r18_0 rfl (ns (mV r18_0 rfl (L_len rfl Tryd.underlying56 rfl (Star.len 0 Z rfl) (L_sub rfl rfl rfl (aI rfl (nq (W_seq ?_)))))))
 obtain ⟨R20,hR20⟩:=exR fun f w_=>f 0 = .string text∧f 2 = Pt g3∧f 4 = r18_0∧f 5 = I (i64 ((x10.length : Int) - 2))∧f 23 = Bo (((decide ((i64 ((x10.length : Int) - 2)) < 0)) || (decide ((i64 ((x10.length : Int) - 2)) > 24))) || ((Int.tmod (i64 ((x10.length : Int) - 2)) 2) != 0))∧Star H w_ ([oF 9 RP.str r18_0 x10,box g3 29 #[S0,I 0]])
 refine W_join R20 ?_ ?_
 refine W_region (mI rfl (L_lss rfl rfl rfl (mB rfl (L_split (d:=15) (b:=decide ((i64 ((x10.length : Int) - 2)) < 0)) rfl (fun hc21=>?_) (fun hc21=>?_)))))
 refine ps rfl (ps rfl (L_pick (v:=Bo ((decide ((i64 ((x10.length : Int) - 2)) < 0)) || (decide ((i64 ((x10.length : Int) - 2)) > 24)))) rfl rfl (or_t hc21) (mB rfl (L_split (d:=19) (b:=((decide ((i64 ((x10.length : Int) - 2)) < 0)) || (decide ((i64 ((x10.length : Int) - 2)) > 24)))) rfl (fun hc22=>?_) (fun hc22=>?_)))))
 refine ps rfl (ps rfl (ps rfl (L_pick (v:=Bo (((decide ((i64 ((x10.length : Int) - 2)) < 0)) || (decide ((i64 ((x10.length : Int) - 2)) > 24))) || ((Int.tmod (i64 ((x10.length : Int) - 2)) 2) != 0))) rfl rfl (or_t hc22) (nn (rj hR20 ⟨rfl,rfl,rfl,rfl,rfl,Z⟩)))))
 refine mI rfl (L_rem (m:=i64 ((x10.length : Int) - 2)) (n:=2) rfl rfl rfl (by decide) (L_neq rfl rfl rfl (L_pick (v:=Bo (((decide ((i64 ((x10.length : Int) - 2)) < 0)) || (decide ((i64 ((x10.length : Int) - 2)) > 24))) || ((Int.tmod (i64 ((x10.length : Int) - 2)) 2) != 0))) rfl rfl (or_f hc22 rfl) (nn (rj hR20 ⟨rfl,rfl,rfl,rfl,rfl,Z⟩)))))
 refine mI rfl (L_gtr rfl rfl rfl (L_pick (v:=Bo ((decide ((i64 ((x10.length : Int) - 2)) < 0)) || (decide ((i64 ((x10.length : Int) - 2)) > 24)))) rfl rfl (or_f hc21 rfl) (mB rfl (L_split (d:=19) (b:=((decide ((i64 ((x10.length : Int) - 2)) < 0)) || (decide ((i64 ((x10.length : Int) - 2)) > 24)))) rfl (fun hc23=>?_) (fun hc23=>?_)))))
 refine ps rfl (ps rfl (ps rfl (L_pick (v:=Bo (((decide ((i64 ((x10.length : Int) - 2)) < 0)) || (decide ((i64 ((x10.length : Int) - 2)) > 24))) || ((Int.tmod (i64 ((x10.length : Int) - 2)) 2) != 0))) rfl rfl (or_t hc23) (nn (rj hR20 ⟨rfl,rfl,rfl,rfl,rfl,Z⟩)))))
 refine mI rfl (L_rem (m:=i64 ((x10.length : Int) - 2)) (n:=2) rfl rfl rfl (by decide) (L_neq rfl rfl rfl (L_pick (v:=Bo (((decide ((i64 ((x10.length : Int) - 2)) < 0)) || (decide ((i64 ((x10.length : Int) - 2)) > 24))) || ((Int.tmod (i64 ((x10.length : Int) - 2)) 2) != 0))) rfl rfl (or_f hc23 rfl) (nn (rj hR20 ⟨rfl,rfl,rfl,rfl,rfl,Z⟩)))))
 intro f w_ hR
 obtain ⟨sf0,sf2,sf4,sf5,sf23,Z⟩:=rk hR20 hR
 refine W_cond (b:=(((decide ((i64 ((x10.length : Int) - 2)) < 0)) || (decide ((i64 ((x10.length : Int) - 2)) > 24))) || ((Int.tmod (i64 ((x10.length : Int) - 2)) 2) != 0))) sf23 (fun hc24=>?_) (fun hc24=>?_)
 have hF:=(ite_t hc24).symm.trans hF
 refine sq (L_bld rfl (parts0 ) (bld_29_  ) (L_staB (vs:=#[S0,I 0]) (cs2:=#[S0,I 0]) 1 rfl Tryd.sizeOf29 sf2 rfl rfl (ones_cons rfl (ones_cons rfl ones_nil)) Z rfl (by show 0 + 2≤2; decide) rfl (fun w26 Z=>aB rfl (nn (W_ret (retG2 (v1:=.agg #[S0,I 0]) (v2:=Bo false) Tryd.results14 (resV_agg Tryd.isAgg29 Tryd.sizeOf29 sf2 (Star.blkAt 0 Z rfl) rfl) rfl ?_))))))
 obtain rfl:=so hF
 have Z:=Star.addNil (R:=(OR.frz rTerm)) (e:=62) Z
 exact ⟨S0,rfl,(Star.keepN 1 Z)⟩
 have hF:=(ite_f hc24).symm.trans hF
 refine W_skip (W_seq ?_)
 obtain ⟨x28,hx28,hF⟩:=bind_some hF
 obtain ⟨x38,hx38,hF⟩:=bind_some hF
 refine W_region (mF sf4 rfl (mF sf5 rfl (L_add rfl rfl rfl ?_)))
 obtain ⟨g43,cap_g43,hv44,_,_⟩:=Star.row 0 Z rfl hx28
 refine L_ixO (R:=(OR.frz RP.str)) (tb:=0) 0 rfl Tryd.underlying56 Tryd.sizeOf9 rfl hv44 (by first | rfl | simp) rfl hx28 ?_
 obtain ⟨cs45,hr45,hat45⟩:=Star.eltF 0 Z rfl hv44 hx28
 obtain rfl : _ = [_]:=hr45
 refine L_ld rfl Tryd.isAgg9 rfl (At.cell hat45 (j:=0) rfl) ?_
 obtain ⟨H47b,l48,s49,z50,k51⟩:=Z.borrow
 refine L_call rfl Tryd.call40 (ops1 rfl) (i_number_c (s:=x28) s49 hx38) ?_
 rintro _ w52 ⟨rfl,Z⟩
 have Z:=k51 Z c0
 refine L_bld rfl (parts1 rfl) (bld_29_1 (I x38) rfl) (L_al (cs:=#[S0,I 0]) rfl Tryd.zeroValue29 rfl Z (fun g53 w54 Z=>L_staB (vs:=#[S0,I x38]) (cs2:=#[S0,I x38]) 0 rfl Tryd.sizeOf29 rfl rfl rfl (ones_cons rfl (ones_cons rfl ones_nil)) Z rfl (by show 0 + 2≤2; decide) rfl (fun w55 Z=>nq (sq (aI rfl (nn ?_))))))
 obtain ⟨j62,hL62,hF⟩:=bind_some hF
 obtain ⟨R62,hR62⟩:=exR fun f w_=>∃ i_57 : Int,∃ g53_0_58 : List Term,∃ H60 : FH,∃ v58_g53_0 : Value,j62 = .nx (i_57,g53_0_58)∧Le H H60∧f 0 = .string text∧f 2 = Pt g3∧f 6 = Pt g53∧Star H60 w_ ([oF 62 rTerm v58_g53_0 g53_0_58,box g53 29 #[v58_g53_0,I x38],box g3 29 #[S0,I 0]])
 refine W_join R62 ?_ ?_
 refine W_block ?_
 obtain ⟨I62,hI62⟩:=exI fun n f w_=>∃ i_57 : Int,∃ g53_0_58 : List Term,∃ H60 : FH,∃ v58_g53_0 : Value,whileL (i_ParseConstraint_b1 x10) n (i_57,g53_0_58) = some j62∧Le H H60∧f 0 = .string text∧f 2 = Pt g3∧f 4 = r18_0∧f 5 = I (i64 ((x10.length : Int) - 2))∧f 6 = Pt g53∧f 7 = I i_57∧Star H60 w_ ([oF 9 RP.str r18_0 x10,oF 62 rTerm v58_g53_0 g53_0_58,box g53 29 #[v58_g53_0,I x38],box g3 29 #[S0,I 0]])
 have Z:=Star.addNil (R:=(OR.frz rTerm)) (e:=62) Z
 have Z:=Z.gets [3,2,2,3] rfl
 refine W_loop I62 (n:=fu) ?_ ?_
 exact ij hI62 ⟨0,[],H,S0,hL62,(Le.refl _),sf0,sf2,sf4,sf5,rfl,rfl,Z⟩
 intro n62 f w_ hI
 obtain ⟨i_57,g53_0_58,H60,v58_g53_0,hL62,l61,sf0,sf2,sf4,sf5,sf6,sf7,Z⟩:=ik hI62 hI
 rcases n62 with _ | n62
 exact (while_zero hL62).elim
 obtain ⟨o62,hB62,hL62⟩:=while_succ hL62
 rw [i_ParseConstraint_b1] at hB62
 refine W_seq (sq (mF sf7 rfl (mF sf5 rfl (L_lss rfl rfl rfl (nn (W_cond (b:=decide (i_57 < (i64 ((x10.length : Int) - 2)))) rfl (fun hc64=>?_) (fun hc64=>?_)))))))
 have hB62:=(ite_t hc64).symm.trans hB62
 refine W_skip (W_seq (W_block ?_))
 obtain ⟨x65,hx65,hB62⟩:=bind_some hB62
 obtain ⟨x75,hx75,hB62⟩:=bind_some hB62
 obtain ⟨x77,hx77,hB62⟩:=bind_some hB62
 obtain ⟨x85,hx85,hB62⟩:=bind_some hB62
 obtain ⟨x90,hx90,hB62⟩:=bind_some hB62
 obtain ⟨g96,cap_g96,hv97,_,_⟩:=Star.row 0 Z rfl hx65
 refine W_drawS 15 [isV (Pt g53),isV (v58_g53_0),isV (r18_0),isV (I i_57),isV (.pointer (some ⟨g96,Int.toNat i_57 * 1,none⟩)),isV (.string x65),isV (I x75),isV (r18_0),isV (I i_57),isV (I (i64 (i_57 + 1))),isV (.pointer (some ⟨g96,Int.toNat (i64 (i_57 + 1)) * 1,none⟩)),isV (.string x77),isV (I x85),isV (.agg #[I x75,I x85]),anyF] [oF 9 RP.str r18_0 x10,oF 62 rTerm v58_g53_0 g53_0_58,box g53 29 #[v58_g53_0,I x38],box g3 29 #[S0,I 0]] [.made 14 51 (fun v_=>oF 62 rTerm v_ ([({ coef:=x75,lit:=x85 } : Term)])) none] ([]) [([],[]),([],[]),([],[]),([],[]),([],[]),([],[]),([],[]),([],[]),([],[]),([],[]),([],[]),([],[]),([],[]),([],[]),([],[0])] (S:=[(some 14,[51],none)]) Tryd_mix (by kernel_rfl) rfl (by kernel_rfl) (amF_cons (mono_V _) (amF_cons (mono_V _) (amF_cons (mono_V _) (amF_cons (mono_V _) (amF_cons (mono_V _) (amF_cons (mono_V _) (amF_cons (mono_V _) (amF_cons (mono_V _) (amF_cons (mono_V _) (amF_cons (mono_V _) (amF_cons (mono_V _) (amF_cons (mono_V _) (amF_cons (mono_V _) (amF_cons (mono_V _) (amF_cons (mono_any) amF_nil))))))))))))))) Z ?_ (fun f w_ H95 hS95 hE95 hT95 Z=>?_)
 refine opsS_cons (fun f w_ _ _ s _ _ Z=>fA 0 fa_29_0 ((s 6 rfl).trans sf6) rfl (nO rfl rfl Z)) (opsS_cons (fun f w_ _ _ _ _ p Z=>ldB 2 Z Tryd.isAgg27 (p 0 37 rfl rfl) rfl rfl (nO rfl rfl Z)) (opsS_cons (fun f w_ _ _ s _ _ Z=>mF ((s 4 rfl).trans sf4) rfl (nO rfl rfl Z)) (opsS_cons (fun f w_ _ _ s _ _ Z=>mF ((s 7 rfl).trans sf7) rfl (nO rfl rfl Z)) (opsS_cons (fun f w_ _ _ _ _ p Z=>L_ixO (R:=(OR.frz RP.str)) (tb:=0) 0 rfl Tryd.underlying56 Tryd.sizeOf9 (p 2 39 rfl rfl) hv97 (by first | rfl | simp) (p 3 40 rfl rfl) hx65 (nO rfl rfl Z)) (opsS_cons ?_ ?_)))))
 intro f w_ H95 X95 hS95 hE95 hP95 Z
 obtain ⟨cs117,hr117,hat117⟩:=Star.eltF 0 Z rfl hv97 hx65
 obtain rfl : _ = [_]:=hr117
 refine L_ld rfl Tryd.isAgg9 (hP95 4 41 rfl rfl) (At.cell hat117 (j:=0) rfl) (L_nil ⟨rfl,_,_,rfl,Le.refl _,fun _ _=>rfl,Z⟩)
 refine opsS_cons ?_ ?_
 intro f w_ H95 X95 hS95 hE95 hP95 Z
 obtain ⟨H119b,l120,s121,z122,k123⟩:=Z.borrow
 refine L_call rfl Tryd.call40 (ops1 (hP95 5 42 rfl rfl)) (i_number_c (s:=x65) s121 hx75) ?_
 rintro _ w124 ⟨rfl,Z⟩
 have Z:=k123 Z c0
 exact L_nil ⟨rfl,_,_,rfl,Le.refl _,fun _ _=>rfl,Z⟩
 refine opsS_cons (fun f w_ _ _ s _ _ Z=>mF ((s 4 rfl).trans sf4) rfl (nO rfl rfl Z)) (opsS_cons (fun f w_ _ _ s _ _ Z=>mF ((s 7 rfl).trans sf7) rfl (nO rfl rfl Z)) (opsS_cons (fun f w_ _ _ _ _ p Z=>L_add rfl (p 8 45 rfl rfl) rfl (nO rfl rfl Z)) (opsS_cons (fun f w_ _ _ _ _ p Z=>L_ixO (R:=(OR.frz RP.str)) (tb:=0) 0 rfl Tryd.underlying56 Tryd.sizeOf9 (p 7 44 rfl rfl) hv97 (by first | rfl | simp) (p 9 46 rfl rfl) hx77 (nO rfl rfl Z)) (opsS_cons ?_ ?_))))
 intro f w_ H95 X95 hS95 hE95 hP95 Z
 obtain ⟨cs125,hr125,hat125⟩:=Star.eltF 0 Z rfl hv97 hx77
 obtain rfl : _ = [_]:=hr125
 refine L_ld rfl Tryd.isAgg9 (hP95 10 47 rfl rfl) (At.cell hat125 (j:=0) rfl) (L_nil ⟨rfl,_,_,rfl,Le.refl _,fun _ _=>rfl,Z⟩)
 refine opsS_cons ?_ ?_
 intro f w_ H95 X95 hS95 hE95 hP95 Z
 obtain ⟨H127b,l128,s129,z130,k131⟩:=Z.borrow
 refine L_call rfl Tryd.call41 (ops1 (hP95 11 48 rfl rfl)) (i_readLiteral_c (s:=x77) s129 hx85) ?_
 rintro _ w132 ⟨rfl,Z⟩
 have Z:=k131 Z c0
 exact L_nil ⟨rfl,_,_,rfl,Le.refl _,fun _ _=>rfl,Z⟩
 refine opsS_cons (fun f w_ _ _ _ _ p Z=>L_bld rfl (parts2 (p 6 43 rfl rfl) (p 12 49 rfl rfl)) (bld_62_0_1 (I x75) (I x85) rfl rfl) (nO rfl rfl Z)) (opsS_cons ?_ ?_)
 intro f w_ H95 X95 hS95 hE95 hP95 Z
 refine L_bs rfl (parts1 (hP95 13 50 rfl rfl)) (bs_27_1_2 (I x75) (I x85) ) Z (fun g133 w134 Z=>?_)
 have Z:=Star.addF (r:=rTerm) (cs:=[I x75,I x85]) (x:=({ coef:=x75,lit:=x85 } : Term)) Z (rTerm_iff.2 rfl)
 have Z:=Star.mkRow (R:=(OR.frz rTerm)) [([I x75,I x85],({ coef:=x75,lit:=x85 } : Term))] [({ coef:=x75,lit:=x85 } : Term)] 1 Z rfl rfl rfl (by decide)
 have Z:=Z.gets [4,4,4,4] rfl
 exact L_nil ⟨rfl,_,_,rfl,Le.refl _,fun _ _=>trivial,Z⟩
 exact opsS_nil
 have Z : Star H95 w_ ([oF 9 RP.str r18_0 x10,oF 62 rTerm v58_g53_0 g53_0_58,box g53 29 #[v58_g53_0,I x38],box g3 29 #[S0,I 0],oF 62 rTerm (f 51) ([({ coef:=x75,lit:=x85 } : Term)])]):=Z
 have Z:=Z.gets [4,2] rfl
 refine L_appM (v:=v58_g53_0) (u:=(f 51)) rfl et_27 (hT95 1 38 rfl rfl) rfl Z hx90 (fun v137 w138 Z=>fA 0 fa_29_0 ((hS95 6 rfl).trans sf6) rfl (L_stB (v:=v137) (cs2:=#[v137,I x38]) 2 rfl Tryd.sizeOf27 rfl rfl (one_len (Star.len 0 Z rfl)) Z rfl rfl rfl (fun w140 Z=>nn (W_region (mF ((hS95 7 rfl).trans sf7) rfl (L_add rfl rfl rfl (aI rfl (nn ?_))))))))
 obtain rfl:=so hB62
 have Z:=Z.gets [3,1,2,3] rfl
 show ∃ m,m < _∧I62 m _ _
 refine ⟨n62,Nat.lt_succ_self _,?_⟩
 exact ij hI62 ⟨i64 (i_57 + 2),x90,H95,v137,hL62,(Le.trans l61 hE95),((hS95 0 rfl).trans sf0),((hS95 2 rfl).trans sf2),((hS95 4 rfl).trans sf4),((hS95 5 rfl).trans sf5),((hS95 6 rfl).trans sf6),rfl,Z⟩
 have hB62:=(ite_f hc64).symm.trans hB62
 refine W_exit ?_
 obtain rfl:=so hB62
 obtain rfl:=so hL62
 have Z:=Z.gets [3,3,3] rfl
 exact rj hR62 ⟨i_57,g53_0_58,H60,v58_g53_0,rfl,l61,sf0,sf2,sf6,(Star.keepN 3 Z)⟩
 intro f w_ hR
 obtain ⟨i_57,g53_0_58,H60,v58_g53_0,rfl,l61,sf0,sf2,sf6,Z⟩:=rk hR62 hR
 refine W_seq (W_seq ?_)
 obtain ⟨x147,hx147,hF⟩:=bind_some hF
 obtain ⟨b157,hb157,hF⟩:=bind_some hF
 obtain ⟨R158,hR158⟩:=exR fun f w_=>f 2 = Pt g3∧f 6 = Pt g53∧f 62 = Bo b157∧Star H60 w_ ([oF 62 rTerm v58_g53_0 g53_0_58,box g53 29 #[v58_g53_0,I x38],box g3 29 #[S0,I 0]])
 refine W_join R158 ?_ ?_
 refine W_region (L_lda (cs:=[v58_g53_0,I x38]) rfl Tryd.isAgg29 Tryd.sizeOf29 sf6 (At.sub0 (Blk.at (Star.blkAt 1 Z rfl)) 0 2) rfl ?_)
 obtain ⟨H159b,l160,s161,z162,k163⟩:=Z.borrow
 have hb164 : (rS 62 rTerm).rel H159b [v58_g53_0] g53_0_58:=fz_own 0 z162 rfl
 refine L_call rfl Tryd.call18 (ops1 rfl) (i_ConstraintValid_c (c:=({ terms:=g53_0_58,bound:=x38 } : Con)) s161 hb164 hx147) ?_
 rintro _ w165 ⟨rfl,Z⟩
 have Z:=k163 Z c0
 refine L_not_ rfl rfl (mB rfl (L_split (d:=57) (b:=(!x147)) rfl (fun hc166=>?_) (fun hc166=>?_)))
 rw [ite_t hc166] at hb157
 refine ps rfl (ps rfl (ps rfl (ps rfl (L_pick (v:=Bo b157) rfl rfl (congrArg Value.bool (so hb157)) (nn (rj hR158 ⟨sf2,sf6,rfl,Z⟩))))))
 rw [ite_f hc166] at hb157
 obtain ⟨x155,hx155,hb157⟩:=bind_some hb157
 refine L_lda (cs:=[v58_g53_0,I x38]) rfl Tryd.isAgg29 Tryd.sizeOf29 sf6 (At.sub0 (Blk.at (Star.blkAt 1 Z rfl)) 0 2) rfl ?_
 obtain ⟨H167b,l168,s169,z170,k171⟩:=Z.borrow
 have hb172 : (rS 62 rTerm).rel H167b [v58_g53_0] g53_0_58:=fz_own 0 z170 rfl
 refine L_call rfl Tryd.call34 (ops1 rfl) (i_Constraint_text_c (c:=({ terms:=g53_0_58,bound:=x38 } : Con)) s169 hb172 hx155) ?_
 rintro _ w173 ⟨rfl,Z⟩
 have Z:=k171 Z c0
 refine mF sf0 rfl (L_sneq (s:=x155) (s':=text) rfl rfl rfl (L_pick (v:=Bo b157) rfl rfl (congrArg Value.bool (so hb157)) (nn (rj hR158 ⟨sf2,sf6,rfl,Z⟩))))
 intro f w_ hR
 obtain ⟨sf2,sf6,sf62,Z⟩:=rk hR158 hR
 refine W_cond (b:=b157) sf62 (fun hc174=>?_) (fun hc174=>?_)
 have hF:=(ite_t hc174).symm.trans hF
 refine sq (L_bld rfl (parts0 ) (bld_29_  ) (L_staB (vs:=#[S0,I 0]) (cs2:=#[S0,I 0]) 2 rfl Tryd.sizeOf29 sf2 rfl rfl (ones_cons rfl (ones_cons rfl ones_nil)) Z rfl (by show 0 + 2≤2; decide) rfl (fun w176 Z=>aB rfl (nn (W_ret (retG2 (v1:=.agg #[S0,I 0]) (v2:=Bo false) Tryd.results14 (resV_agg Tryd.isAgg29 Tryd.sizeOf29 sf2 (Star.blkAt 0 Z rfl) rfl) rfl ?_))))))
 obtain rfl:=so hF
 have Z:=Star.addNil (R:=(OR.frz rTerm)) (e:=62) Z
 exact ⟨S0,rfl,(Star.down (Star.keepN 1 Z) l61 (co closed_term c0))⟩
 have hF:=(ite_f hc174).symm.trans hF
 refine W_skip (sq (L_lda (cs:=[v58_g53_0,I x38]) rfl Tryd.isAgg29 Tryd.sizeOf29 sf6 (At.sub0 (Blk.at (Star.blkAt 1 Z rfl)) 0 2) rfl (L_staB (vs:=#[v58_g53_0,I x38]) (cs2:=#[v58_g53_0,I x38]) 2 rfl Tryd.sizeOf29 sf2 rfl rfl (ones_cons (one_len (Star.len 0 Z rfl)) (ones_cons rfl ones_nil)) Z rfl (by show 0 + 2≤2; decide) rfl (fun w179 Z=>aB rfl (nn (W_ret (retG2 (v1:=.agg #[v58_g53_0,I x38]) (v2:=Bo true) Tryd.results14 (resV_agg Tryd.isAgg29 Tryd.sizeOf29 sf2 (Star.blkAt 0 Z rfl) rfl) rfl ?_)))))))
 obtain rfl:=so hF
 have Z:=Z.get 1 rfl
 exact ⟨v58_g53_0,rfl,(Star.down (Star.keepN 1 Z) l61 (co closed_term c0))⟩
theorem l_markTermS_c {fu : Nat} {a : List Term} {k : Int} {v0 : Value} {H : FH} {w : World} (Z : Star H w [oF 62 rTerm v0 a]) {r : Int × (List Term)} (hF : l_markTermS fu a k = some r) :
 C Tryd.prog 42 #[v0,I k] w fun v w'=>v = I r.1∧Star H w' [oF 62 rTerm v0 r.2]:=by
 unfold l_markTermS at hF
 refine C_enter Tryd.func42 rfl Tryd.ntmps42 rfl (sq (aI rfl (nq (sq (aI rfl (nn ?_))))))
 obtain ⟨j8,hL8,hF⟩:=bind_some hF
 obtain ⟨R8,hR8⟩:=exR fun f w_=>∃ a_5 : List Term,∃ k_6 : Int,∃ i_7 : Int,j8 = .nx (a_5,k_6,i_7)∧f 1 = I k_6∧Star H w_ ([oF 62 rTerm v0 a_5])
 refine W_join R8 ?_ ?_
 refine W_block ?_
 obtain ⟨I8,hI8⟩:=exI fun n f w_=>∃ a_5 : List Term,∃ k_6 : Int,∃ i_7 : Int,whileL l_markTermS_b1 n (a_5,k_6,i_7) = some j8∧f 0 = v0∧f 1 = I k_6∧f 5 = I i_7∧Star H w_ ([oF 62 rTerm v0 a_5])
 refine W_loop I8 (n:=fu) ?_ ?_
 exact ij hI8 ⟨a,k,0,hL8,rfl,rfl,rfl,Z⟩
 intro n8 f w_ hI
 obtain ⟨a_5,k_6,i_7,hL8,sf0,sf1,sf5,Z⟩:=ik hI8 hI
 rcases n8 with _ | n8
 exact (while_zero hL8).elim
 obtain ⟨o8,hB8,hL8⟩:=while_succ hL8
 rw [l_markTermS_b1] at hB8
 refine W_seq (sq (mF sf5 rfl (mF sf0 rfl (L_len rfl Tryd.underlying27 rfl (Star.len 0 Z rfl) (L_lss rfl rfl rfl (nn (W_cond (b:=decide (i_7 < (a_5.length : Int))) rfl (fun hc9=>?_) (fun hc9=>?_))))))))
 have hB8:=(ite_t hc9).symm.trans hB8
 refine W_skip (W_seq (W_block (W_seq ?_)))
 obtain ⟨x10,hx10,hB8⟩:=bind_some hB8
 refine W_region (mF sf0 rfl (mF sf5 rfl (mF sf1 rfl ?_)))
 obtain ⟨g14,cap_g14,hv15,_,_⟩:=Star.row 0 Z rfl hx10
 refine L_ixO (R:=(OR.frz rTerm)) (tb:=0) 0 rfl Tryd.underlying27 Tryd.sizeOf62 rfl hv15 (by first | rfl | simp) rfl hx10 (fA (Int.toNat i_7 * 2 + 0) fa_62_0 rfl rfl (L_stF (j:=0) (u:=I k_6) (z:={ x10 with coef:=k_6 }) rfl Tryd.sizeOf3 rfl rfl rfl rfl hv15 Z hx10 fldF_rTerm_0 (fun w16 Z=>ns (mF sf1 rfl (L_add rfl rfl rfl (aI rfl (nq ?_)))))))
 obtain ⟨x17,hx17,hB8⟩:=bind_some hB8
 refine W_region (mF sf0 rfl (mF sf5 rfl (mI rfl (L_ixO (R:=(OR.frz rTerm)) (tb:=0) 0 rfl Tryd.underlying27 Tryd.sizeOf62 rfl hv15 (by first | rfl | simp) rfl hx17 (fA (Int.toNat i_7 * 2 + 1) fa_62_1 rfl rfl (L_stF (j:=1) (u:=I (i64 (k_6 + 1))) (z:={ x17 with lit:=i64 (k_6 + 1) }) rfl Tryd.sizeOf3 rfl rfl rfl rfl hv15 Z hx17 fldF_rTerm_1 (fun w19 Z=>nn (W_region (mI rfl (L_add rfl rfl rfl (aI rfl (nn (W_region (mF sf5 rfl (L_add rfl rfl rfl (aI rfl (nn ?_)))))))))))))))))
 obtain rfl:=so hB8
 show ∃ m,m < _∧I8 m _ _
 refine ⟨n8,Nat.lt_succ_self _,?_⟩
 exact ij hI8 ⟨((a_5.set (Int.toNat i_7) ({ x10 with coef:=k_6 })).set (Int.toNat i_7) ({ x17 with lit:=i64 (k_6 + 1) })),i64 ((i64 (k_6 + 1)) + 1),i64 (i_7 + 1),hL8,sf0,rfl,rfl,Z⟩
 have hB8:=(ite_f hc9).symm.trans hB8
 refine W_exit ?_
 obtain rfl:=so hB8
 obtain rfl:=so hL8
 exact rj hR8 ⟨a_5,k_6,i_7,rfl,sf1,Z⟩
 intro f w_ hR
 obtain ⟨a_5,k_6,i_7,rfl,sf1,Z⟩:=rk hR8 hR
 refine sq (mF sf1 rfl (aI rfl (nn (W_ret (retG1 (v1:=I k_6) Tryd.results42 rfl ?_)))))
 obtain rfl:=so hF
 exact ⟨rfl,Z⟩
theorem l_heldTermS_c {a : List Term} {k : Int} {v0 : Value} {H : FH} {w : World} (Z : Star H w []) (h0 : (rS 62 rTerm).rel H [v0] a) {r : Int} (hF : l_heldTermS a k = some r) :
 C Tryd.prog 43 #[v0,I k] w fun v w'=>v = I r∧Star H w' []:=by
 unfold l_heldTermS at hF
 refine C_enter Tryd.func43 rfl Tryd.ntmps43 rfl (sq (aI rfl (nq (sq (aI rfl (nn ?_))))))
 have hlen3 : List.length a≤9223372036854775807:=len_le (slice_len h0)
 obtain ⟨j3,hL3,hF⟩:=bind_some hF
 obtain ⟨R3,hR3⟩:=exR fun f w_=>∃ k_2 : Int,j3 = .nx k_2∧f 1 = I k_2∧Star H w_ ([])
 refine W_join R3 ?_ ?_
 refine W_block ?_
 obtain ⟨I3,hI3⟩:=exI fun n f w_=>∃ i_1 : Nat,∃ suf3 : List Term,∃ k_2 : Int,n = suf3.length∧List.drop i_1 a = suf3∧i_1 + suf3.length = a.length∧rangeL l_heldTermS_b1 suf3 i_1 k_2 = some j3∧f 0 = v0∧f 1 = I k_2∧f 5 = I i_1∧Star H w_ ([])
 refine W_loop I3 (n:=a.length) ?_ ?_
 exact ij hI3 ⟨0,a,k,rfl,rfl,Nat.zero_add _,hL3,rfl,rfl,rfl,Z⟩
 intro n3 f w_ hI
 obtain ⟨i_1,suf3,k_2,rfl,hd3,hl3,hL3,sf0,sf1,sf5,Z⟩:=ik hI3 hI
 refine W_seq (sq (mF sf5 rfl (mF sf0 rfl (L_len rfl Tryd.underlying27 rfl (slice_len h0) (L_lss rfl rfl rfl (nn (W_cond (b:=decide ((i_1 : Int) < (a.length : Int))) rfl (fun hc4=>?_) (fun hc4=>?_))))))))
 have hlt3:=of_decide_eq_true hc4
 rcases suf3 with _ | ⟨x_3,rest3⟩
 exact absurd hlt3 (by simp at hl3; omega)
 obtain ⟨o3,hB3,hL3⟩:=range_cons hL3
 rw [l_heldTermS_b1] at hB3
 have hix3:=drop_idx hd3
 refine W_skip (W_seq (W_block (W_seq (sq (mF sf0 rfl (mF sf5 rfl (L_ix (r:=rTerm) rfl Tryd.underlying27 Tryd.sizeOf62 rfl h0 rfl hix3 (fun g9 o10 cs_g9 hrk_hat11 hat11=>?_))))))))
 obtain rfl:=rTerm_iff.1 hrk_hat11
 refine fA o10 fa_62_0 rfl rfl (L_ld rfl Tryd.isAgg3 rfl (At.cell (AtH.at hat11 Z.sub) (j:=0) rfl) (mF sf1 rfl (L_neq rfl rfl rfl (nn (W_cond (b:=(x_3.coef != k_2)) rfl (fun hc13=>?_) (fun hc13=>?_))))))
 have hB3:=(ite_t hc13).symm.trans hB3
 refine sq (aI rfl (nn (W_ret (retG1 (v1:=I (-1)) Tryd.results43 rfl ?_))))
 obtain rfl:=so hB3
 obtain rfl:=so hL3
 obtain rfl:=so hF
 exact ⟨rfl,Z⟩
 have hB3:=(ite_f hc13).symm.trans hB3
 refine W_skip (sq (mF sf1 rfl (L_add rfl rfl rfl (aI rfl (nq (sq (mF sf0 rfl (mF sf5 rfl (L_ix (r:=rTerm) rfl Tryd.underlying27 Tryd.sizeOf62 rfl h0 rfl hix3 (fun g18 o19 cs_g18 hrk_hat20 hat20=>?_))))))))))
 obtain rfl:=rTerm_iff.1 hrk_hat20
 refine fA (o19 + 1) fa_62_1 rfl rfl (L_ld rfl Tryd.isAgg3 rfl (At.cell (AtH.at hat20 Z.sub) (j:=1) rfl) (mI rfl (L_neq rfl rfl rfl (nn (W_cond (b:=(x_3.lit != (i64 (k_2 + 1)))) rfl (fun hc22=>?_) (fun hc22=>?_))))))
 have hB3:=(ite_t hc22).symm.trans hB3
 refine sq (aI rfl (nn (W_ret (retG1 (v1:=I (-1)) Tryd.results43 rfl ?_))))
 obtain rfl:=so hB3
 obtain rfl:=so hL3
 obtain rfl:=so hF
 exact ⟨rfl,Z⟩
 have hB3:=(ite_f hc22).symm.trans hB3
 refine W_skip (W_region (mI rfl (L_add rfl rfl rfl (aI rfl (nn (W_region (mF sf5 rfl (L_add rfl rfl rfl (aI rfl (nn ?_))))))))))
 obtain rfl:=so hB3
 show ∃ m,m < _∧I3 m _ _
 refine ⟨rest3.length,by simp,?_⟩
 exact ij hI3 ⟨i_1 + 1,rest3,i64 ((i64 (k_2 + 1)) + 1),rfl,drop_next hd3,by simp at hl3; omega,hL3,sf0,rfl,(Eq.trans rfl (congrArg (Value.int .i64) (i64_succ (n:=a.length) (by simp at hl3; omega) hlen3))),Z⟩
 rcases suf3 with _ | ⟨_,_⟩
 obtain rfl:=range_nil hL3
 refine W_exit (rj hR3 ⟨k_2,rfl,sf1,Z⟩)
 exact absurd (of_decide_eq_false hc4) (by simp at hl3; omega)
 intro f w_ hR
 obtain ⟨k_2,rfl,sf1,Z⟩:=rk hR3 hR
 refine sq (mF sf1 rfl (aI rfl (nn (W_ret (retG1 (v1:=I k_2) Tryd.results43 rfl ?_)))))
 obtain rfl:=so hF
 exact ⟨rfl,Z⟩
theorem l_eqConstraintS_c {a : List Con} {b : List Con} {v0 : Value} {v1 : Value} {H : FH} {w : World} (Z : Star H w []) (h0 : (rS 29 (rCon 62)).rel H [v0] a) (h1 : (rS 29 (rCon 62)).rel H [v1] b) {r : Bool} (hF : l_eqConstraintS a b = some r) :
 C Tryd.prog 26 #[v0,v1] w fun v w'=>v = Bo r∧Star H w' []:=by
 unfold l_eqConstraintS at hF
 refine C_enter Tryd.func26 rfl Tryd.ntmps26 rfl (sq (aB rfl (nq (sq (mV v0 rfl (L_len rfl Tryd.underlying45 rfl (slice_len h0) (mV v1 rfl (L_len rfl Tryd.underlying45 rfl (slice_len h1) (L_neq rfl rfl rfl (nn (W_cond (b:=((a.length : Int) != (b.length : Int))) rfl (fun hc1=>?_) (fun hc1=>?_))))))))))))
 have hF:=(ite_t hc1).symm.trans hF
 refine sq (aB rfl (nn (W_ret (retG1 (v1:=Bo false) Tryd.results26 rfl ?_))))
 obtain rfl:=so hF
 exact ⟨rfl,Z⟩
 have hF:=(ite_f hc1).symm.trans hF
 refine W_skip (W_seq (sq (aI rfl (nn ?_))))
 have hlen5 : List.length a≤9223372036854775807:=len_le (slice_len h0)
 obtain ⟨j5,hL5,hF⟩:=bind_some hF
 obtain ⟨R5,hR5⟩:=exR fun f w_=>∃ H3 : FH,j5 = .nx ()∧Le H H3∧Star H3 w_ ([])
 refine W_join R5 ?_ ?_
 refine W_block ?_
 obtain ⟨I5,hI5⟩:=exI fun n f w_=>∃ i_2 : Nat,∃ suf5 : List Con,∃ H3 : FH,n = suf5.length∧List.drop i_2 a = suf5∧i_2 + suf5.length = a.length∧rangeL (l_eqConstraintS_b1 b) suf5 i_2 () = some j5∧Le H H3∧f 0 = v0∧f 1 = v1∧f 5 = I i_2∧Star H3 w_ ([])
 refine W_loop I5 (n:=a.length) ?_ ?_
 exact ij hI5 ⟨0,a,H,rfl,rfl,Nat.zero_add _,hL5,(Le.refl _),rfl,rfl,rfl,Z⟩
 intro n5 f w_ hI
 obtain ⟨i_2,suf5,H3,rfl,hd5,hl5,hL5,l4,sf0,sf1,sf5,Z⟩:=ik hI5 hI
 refine W_seq (sq (mF sf5 rfl (mF sf0 rfl (L_len rfl Tryd.underlying45 rfl (slice_len (RP.mono _ h0 l4)) (L_lss rfl rfl rfl (nn (W_cond (b:=decide ((i_2 : Int) < (a.length : Int))) rfl (fun hc6=>?_) (fun hc6=>?_))))))))
 have hlt5:=of_decide_eq_true hc6
 rcases suf5 with _ | ⟨x_5,rest5⟩
 exact absurd hlt5 (by simp at hl5; omega)
 obtain ⟨o5,hB5,hL5⟩:=range_cons hL5
 rw [l_eqConstraintS_b1] at hB5
 have hix5:=drop_idx hd5
 refine W_skip (W_seq (W_block (W_seq ?_)))
 obtain ⟨x11,hx11,hB5⟩:=bind_some hB5
 obtain ⟨x21,hx21,hB5⟩:=bind_some hB5
 refine W_drawS 8 [isV (v0),isV (I i_2),isEl (rCon 62) x_5 0,exD (isData (rS 62 rTerm) x_5.terms) fun u_0=>isV (.agg #[u_0,I x_5.bound]),isV (v1),isV (I i_2),isEl (rCon 62) x11 0,exD (isData (rS 62 rTerm) x11.terms) fun u_0=>isV (.agg #[u_0,I x11.bound])] [] [] ([]) [([],[]),([],[]),([],[]),([],[]),([],[]),([],[]),([],[]),([],[])] (S:=[]) Tryd_mix (by kernel_rfl) rfl (by kernel_rfl) (amF_cons (mono_V _) (amF_cons (mono_V _) (amF_cons (mono_el _ _ _) (amF_cons (mono_exD (mono_data _ _) fun _=>mono_V _) (amF_cons (mono_V _) (amF_cons (mono_V _) (amF_cons (mono_el _ _ _) (amF_cons (mono_exD (mono_data _ _) fun _=>mono_V _) amF_nil)))))))) Z ?_ (fun f w_ H23 hS23 hE23 hT23 Z=>?_)
 refine opsS_cons (fun f w_ _ _ s _ _ Z=>mF ((s 0 rfl).trans sf0) rfl (nO rfl rfl Z)) (opsS_cons (fun f w_ _ _ s _ _ Z=>mF ((s 5 rfl).trans sf5) rfl (nO rfl rfl Z)) (opsS_cons ?_ ?_))
 intro f w_ H23 X23 hS23 hE23 hP23 Z
 refine L_ix (r:=(rCon 62)) rfl Tryd.underlying45 Tryd.sizeOf29 (hP23 0 17 rfl rfl) (RP.mono _ h0 (Le.trans l4 hE23)) (hP23 1 18 rfl rfl) hix5 (fun g32 o33 cs_g32 hrk_hat34 hat34=>?_)
 obtain ⟨u35_0,rfl,hu35_0⟩:=rCon_iff.1 hrk_hat34
 exact L_nil ⟨rfl,_,_,rfl,Le.refl _,fun _ _=>⟨_,_,_,rfl,hrk_hat34,hat34⟩,Z⟩
 refine opsS_cons ?_ ?_
 intro f w_ H23 X23 hS23 hE23 hP23 Z
 obtain ⟨g36,o36,cs36,hv36,hrk_hat36,hat36⟩:=(hP23 2 19 rfl rfl)
 obtain ⟨u37_0,rfl,hu37_0⟩:=rCon_iff.1 hrk_hat36
 refine L_lda (cs:=[u37_0,I x_5.bound]) rfl Tryd.isAgg29 Tryd.sizeOf29 hv36 (At.sub (AtH.at hat36 Z.sub) 0 2) rfl (L_nil ⟨rfl,_,_,rfl,Le.refl _,fun _ _=>⟨_,hu37_0,rfl⟩,Z⟩)
 refine opsS_cons (fun f w_ _ _ s _ _ Z=>mF ((s 1 rfl).trans sf1) rfl (nO rfl rfl Z)) (opsS_cons (fun f w_ _ _ s _ _ Z=>mF ((s 5 rfl).trans sf5) rfl (nO rfl rfl Z)) (opsS_cons ?_ ?_))
 intro f w_ H23 X23 hS23 hE23 hP23 Z
 refine L_ix (r:=(rCon 62)) rfl Tryd.underlying45 Tryd.sizeOf29 (hP23 4 21 rfl rfl) (RP.mono _ h1 (Le.trans l4 hE23)) (hP23 5 22 rfl rfl) hx11 (fun g38 o39 cs_g38 hrk_hat40 hat40=>?_)
 obtain ⟨u41_0,rfl,hu41_0⟩:=rCon_iff.1 hrk_hat40
 exact L_nil ⟨rfl,_,_,rfl,Le.refl _,fun _ _=>⟨_,_,_,rfl,hrk_hat40,hat40⟩,Z⟩
 refine opsS_cons ?_ ?_
 intro f w_ H23 X23 hS23 hE23 hP23 Z
 obtain ⟨g42,o42,cs42,hv42,hrk_hat42,hat42⟩:=(hP23 6 23 rfl rfl)
 obtain ⟨u43_0,rfl,hu43_0⟩:=rCon_iff.1 hrk_hat42
 refine L_lda (cs:=[u43_0,I x11.bound]) rfl Tryd.isAgg29 Tryd.sizeOf29 hv42 (At.sub (AtH.at hat42 Z.sub) 0 2) rfl (L_nil ⟨rfl,_,_,rfl,Le.refl _,fun _ _=>⟨_,hu43_0,rfl⟩,Z⟩)
 exact opsS_nil
 obtain ⟨u44_0,hu44_0,hv44⟩:=(hT23 3 20 rfl rfl)
 obtain ⟨u45_0,hu45_0,hv45⟩:=(hT23 7 24 rfl rfl)
 obtain ⟨H46b,l47,s48,z49,k50⟩:=Z.borrow
 refine L_call rfl Tryd.call12 (ops2 hv44 hv45) (l_eqConstraint_c (a:=x_5) (b:=x11) s48 (RP.mono _ hu44_0 l47) (RP.mono _ hu45_0 l47) hx21) ?_
 rintro _ w51 ⟨rfl,Z⟩
 have Z:=k50 Z c0
 refine L_not_ rfl rfl (nn (W_cond (b:=(!x21)) rfl (fun hc52=>?_) (fun hc52=>?_)))
 have hB5:=(ite_t hc52).symm.trans hB5
 refine sq (aB rfl (nn (W_ret (retG1 (v1:=Bo false) Tryd.results26 rfl ?_))))
 obtain rfl:=so hB5
 obtain rfl:=so hL5
 obtain rfl:=so hF
 exact ⟨rfl,(Star.down Z (Le.trans l4 hE23) c0)⟩
 have hB5:=(ite_f hc52).symm.trans hB5
 refine W_skip (W_region (mF ((hS23 5 rfl).trans sf5) rfl (L_add rfl rfl rfl (aI rfl (nn ?_)))))
 obtain rfl:=so hB5
 show ∃ m,m < _∧I5 m _ _
 refine ⟨rest5.length,by simp,?_⟩
 exact ij hI5 ⟨i_2 + 1,rest5,H23,rfl,drop_next hd5,by simp at hl5; omega,hL5,(Le.trans l4 hE23),((hS23 0 rfl).trans sf0),((hS23 1 rfl).trans sf1),(Eq.trans rfl (congrArg (Value.int .i64) (i64_succ (n:=a.length) (by simp at hl5; omega) hlen5))),Z⟩
 rcases suf5 with _ | ⟨_,_⟩
 obtain rfl:=range_nil hL5
 refine W_exit (rj hR5 ⟨H3,rfl,l4,Z⟩)
 exact absurd (of_decide_eq_false hc6) (by simp at hl5; omega)
 intro f w_ hR
 obtain ⟨H3,rfl,l4,Z⟩:=rk hR5 hR
 refine sq (aB rfl (nn (W_ret (retG1 (v1:=Bo true) Tryd.results26 rfl ?_))))
 obtain rfl:=so hF
 exact ⟨rfl,(Star.down Z l4 c0)⟩
theorem s_ParseProblem_c {fu : Nat} {text : ByteArray} {H : FH} {w : World} (Z : Star H w []) {r : (List Con) × Bool} (hF : s_ParseProblem fu text = some r) :
 C Tryd.prog 27 #[.string text] w fun v w'=>∃ (u1 : Value),v = .tuple #[u1,Bo r.2]∧Star H w' [oS 29 (oCon 62) u1 r.1]:=by
 unfold s_ParseProblem at hF
 refine C_enter Tryd.func27 rfl Tryd.ntmps27 rfl (sq (aV S0 rfl (aB rfl (nq ?_))))
 obtain ⟨x6,hx6,hF⟩:=bind_some hF
 refine W_region (mV (.string text) rfl ?_)
 obtain ⟨H9b,l10,s11,z12,k13⟩:=Z.borrow
 refine L_call rfl Tryd.call36 (ops2 rfl rfl) (s_l17Cut_c (s:=text) (c:=10) s11 hx6) ?_
 rintro r14_0 w14 ⟨_,rfl,Z⟩
 have Z:=k13 Z (co closed_str c0)
 refine aV r14_0 rfl (ns (L_bs rfl parts0 (bs_45_0  ) Z (fun g19 w20 Z=>?_)))
 have Z:=Star.mkRow (R:=(OR.frz (rCon 62))) [] [] 0 Z rfl rfl rfl (by decide)
 refine aV (Sl g19 0 0) rfl (nq (W_seq ?_))
 obtain ⟨b27,hb27,hF⟩:=bind_some hF
 obtain ⟨R28,hR28⟩:=exR fun f w_=>f 4 = r14_0∧f 5 = (Sl g19 0 0)∧f 23 = Bo b27∧Star H w_ ([oF 9 RP.str r14_0 x6,oF 29 (rCon 62) (Sl g19 0 0) ([])])
 refine W_join R28 ?_ ?_
 refine W_region (mV r14_0 rfl (L_len rfl Tryd.underlying56 rfl (Star.len 1 Z rfl) (L_gtr rfl rfl rfl (mB rfl (L_split (d:=15) (b:=decide ((x6.length : Int) > 401)) rfl (fun hc29=>?_) (fun hc29=>?_))))))
 rw [ite_t hc29] at hb27
 refine ps rfl (ps rfl (ps rfl (ps rfl (ps rfl (ps rfl (ps rfl (L_pick (v:=Bo b27) rfl rfl (congrArg Value.bool (so hb27)) (nn ?_))))))))
 have Z:=Z.get 1 rfl
 exact rj hR28 ⟨rfl,rfl,rfl,Z⟩
 rw [ite_f hc29] at hb27
 obtain ⟨x22,hx22,hb27⟩:=bind_some hb27
 refine mV r14_0 rfl (mV r14_0 rfl (L_len rfl Tryd.underlying56 rfl (Star.len 1 Z rfl) (L_sub rfl rfl rfl ?_)))
 obtain ⟨g30,cap_g30,hv31,_,_⟩:=Star.row 1 Z rfl hx22
 refine L_ixO (R:=(OR.frz RP.str)) (tb:=0) 0 rfl Tryd.underlying56 Tryd.sizeOf9 rfl hv31 (by first | rfl | simp) rfl hx22 ?_
 obtain ⟨cs32,hr32,hat32⟩:=Star.eltF 1 Z rfl hv31 hx22
 obtain rfl : _ = [_]:=hr32
 refine L_ld rfl Tryd.isAgg9 rfl (At.cell hat32 (j:=0) rfl) (L_sneq (s:=x22) (s':=(⟨#[]⟩ : ByteArray)) rfl rfl rfl (L_pick (v:=Bo b27) rfl rfl (congrArg Value.bool (so hb27)) (nn ?_)))
 have Z:=Z.get 1 rfl
 exact rj hR28 ⟨rfl,rfl,rfl,Z⟩
 intro f w_ hR
 obtain ⟨sf4,sf5,sf23,Z⟩:=rk hR28 hR
 refine W_cond (b:=b27) sf23 (fun hc34=>?_) (fun hc34=>?_)
 have hF:=(ite_t hc34).symm.trans hF
 refine sq (mF sf5 rfl (aV (Sl g19 0 0) rfl (aB rfl (nn (W_ret (retG2 (v1:=(Sl g19 0 0)) (v2:=Bo false) Tryd.results27 rfl rfl ?_))))))
 obtain rfl:=so hF
 have Z:=Z.get 1 rfl
 have Z:=Star.recast (R:=(OR.frz (rCon 62))) (R':=(oCon 62)) rfl Z
 exact ⟨(Sl g19 0 0),rfl,(Star.keepN 1 Z)⟩
 have hF:=(ite_f hc34).symm.trans hF
 refine W_skip (W_seq (sq (aI rfl (nn ?_))))
 obtain ⟨j41,hL41,hF⟩:=bind_some hF
 obtain ⟨R41,hR41⟩:=exR fun f w_=>∃ out_38 : List Con,∃ i_40 : Int,∃ v38_out : Value,j41 = .nx (out_38,i_40)∧f 5 = v38_out∧Star H w_ ([oS 29 (oCon 62) v38_out out_38])
 refine W_join R41 ?_ ?_
 refine W_block ?_
 obtain ⟨I41,hI41⟩:=exI fun n f w_=>∃ out_38 : List Con,∃ i_40 : Int,∃ v38_out : Value,whileL (s_ParseProblem_b1 fu x6) n (out_38,i_40) = some j41∧f 4 = r14_0∧f 5 = v38_out∧f 6 = I i_40∧Star H w_ ([oF 9 RP.str r14_0 x6,oS 29 (oCon 62) v38_out out_38])
 have Z:=Z.get 1 rfl
 have Z:=Star.recast (R:=(OR.frz (rCon 62))) (R':=(oCon 62)) rfl Z
 have Z:=Z.get 1 rfl
 refine W_loop I41 (n:=fu) ?_ ?_
 exact ij hI41 ⟨[],0,(Sl g19 0 0),hL41,sf4,sf5,rfl,Z⟩
 intro n41 f w_ hI
 obtain ⟨out_38,i_40,v38_out,hL41,sf4,sf5,sf6,Z⟩:=ik hI41 hI
 rcases n41 with _ | n41
 exact (while_zero hL41).elim
 obtain ⟨o41,hB41,hL41⟩:=while_succ hL41
 rw [s_ParseProblem_b1] at hB41
 refine W_seq (sq (mF sf6 rfl (L_add rfl rfl rfl (mF sf4 rfl (L_len rfl Tryd.underlying56 rfl (Star.len 0 Z rfl) (L_lss rfl rfl rfl (nn (W_cond (b:=decide ((i64 (i_40 + 1)) < (x6.length : Int))) rfl (fun hc42=>?_) (fun hc42=>?_)))))))))
 have hB41:=(ite_t hc42).symm.trans hB41
 refine W_skip (W_seq (W_block (W_seq ?_)))
 obtain ⟨x43,hx43,hB41⟩:=bind_some hB41
 obtain ⟨x53,hx53,hB41⟩:=bind_some hB41
 refine W_region (mF sf4 rfl (mF sf6 rfl ?_))
 obtain ⟨g59,cap_g59,hv60,_,_⟩:=Star.row 0 Z rfl hx43
 refine L_ixO (R:=(OR.frz RP.str)) (tb:=0) 0 rfl Tryd.underlying56 Tryd.sizeOf9 rfl hv60 (by first | rfl | simp) rfl hx43 ?_
 obtain ⟨cs61,hr61,hat61⟩:=Star.eltF 0 Z rfl hv60 hx43
 obtain rfl : _ = [_]:=hr61
 refine L_ld rfl Tryd.isAgg9 rfl (At.cell hat61 (j:=0) rfl) ?_
 obtain ⟨H63b,l64,s65,z66,k67⟩:=Z.borrow
 refine L_call rfl Tryd.call13 (ops1 rfl) (s_ParseConstraint_c (text:=x43) s65 hx53) ?_
 rintro _ w68 ⟨r68_0,rfl,Z⟩
 have Z:=k67 Z (co closed_term c0)
 refine mV (.tuple #[.agg #[r68_0,I x53.1.bound],Bo x53.2]) rfl (L_ex (v:=.agg #[r68_0,I x53.1.bound]) rfl rfl rfl (L_ex (v:=Bo x53.2) rfl rfl rfl (L_al (cs:=#[S0,I 0]) rfl Tryd.zeroValue29 rfl Z (fun g70 w71 Z=>L_staB (vs:=#[r68_0,I x53.1.bound]) (cs2:=#[r68_0,I x53.1.bound]) 0 rfl Tryd.sizeOf29 rfl rfl rfl (ones_cons (one_len (Star.len 1 Z rfl)) (ones_cons rfl ones_nil)) Z rfl (by show 0 + 2≤2; decide) rfl (fun w72 Z=>aB rfl (nq (sq (mB rfl (L_not_ rfl rfl (nn (W_cond (b:=(!x53.2)) rfl (fun hc73=>?_) (fun hc73=>?_))))))))))))
 have hB41:=(ite_t hc73).symm.trans hB41
 refine sq (L_bs rfl parts0 (bs_45_0  ) Z (fun g77 w78 Z=>?_))
 have Z:=Star.mkRow (R:=(OR.frz (rCon 62))) [] [] 0 Z rfl rfl rfl (by decide)
 refine aV (Sl g77 0 0) rfl (aB rfl (nn (W_ret (retG2 (v1:=(Sl g77 0 0)) (v2:=Bo false) Tryd.results27 rfl rfl ?_))))
 obtain rfl:=so hB41
 obtain rfl:=so hL41
 obtain rfl:=so hF
 have Z:=Star.recast (R:=(OR.frz (rCon 62))) (R':=(oCon 62)) rfl Z
 exact ⟨(Sl g77 0 0),rfl,(Star.keepN 1 Z)⟩
 have hB41:=(ite_f hc73).symm.trans hB41
 refine W_skip ?_
 obtain ⟨x83,hx83,hB41⟩:=bind_some hB41
 refine W_region (mF sf5 rfl (L_lda (cs:=[r68_0,I x53.1.bound]) rfl Tryd.isAgg29 Tryd.sizeOf29 rfl (At.sub0 (Blk.at (Star.blkAt 0 Z rfl)) 0 2) rfl (L_bs rfl (parts1 rfl) (bs_45_1_2 (r68_0) (I x53.1.bound) ) Z (fun g87 w88 Z=>?_))))
 have Z:=Z.get 2 rfl
 have Z:=oCon_close (c:=x53.1) Z
 have Z:=Star.mkRow (R:=(oCon 62)) [([r68_0,I x53.1.bound],x53.1)] [x53.1] 1 Z rfl rfl rfl (by decide)
 have Z:=Z.get 3 rfl
 refine L_appM (v:=v38_out) (u:=(Sl g87 1 1)) rfl et_45 rfl rfl Z hx83 (fun v90 w91 Z=>aV v90 rfl (nn (W_region (mF sf6 rfl (L_add rfl rfl rfl (aI rfl (nn ?_)))))))
 obtain rfl:=so hB41
 have Z:=Z.get 2 rfl
 show ∃ m,m < _∧I41 m _ _
 refine ⟨n41,Nat.lt_succ_self _,?_⟩
 exact ij hI41 ⟨x83,i64 (i_40 + 1),v90,hL41,sf4,rfl,rfl,(Star.keepN 2 Z)⟩
 have hB41:=(ite_f hc42).symm.trans hB41
 refine W_exit ?_
 obtain rfl:=so hB41
 obtain rfl:=so hL41
 have Z:=Z.get 1 rfl
 exact rj hR41 ⟨out_38,i_40,v38_out,rfl,sf5,(Star.keepN 1 Z)⟩
 intro f w_ hR
 obtain ⟨out_38,i_40,v38_out,rfl,sf5,Z⟩:=rk hR41 hR
 refine sq (mF sf5 rfl (aV v38_out rfl (aB rfl (nn (W_ret (retG2 (v1:=v38_out) (v2:=Bo true) Tryd.results27 rfl rfl ?_))))))
 obtain rfl:=so hF
 exact ⟨v38_out,rfl,Z⟩
theorem i_linesOf_c {text : ByteArray} {most : Int} {H : FH} {w : World} {R : List Ass} (Z : Star H w R) {r : (List ByteArray) × Bool} (hF : i_linesOf text most = some r) :
 C Tryd.prog 58 #[.string text,I most] w fun v w'=>∃ H' : FH,Le H H'∧∃ (u1 : Value),v = .tuple #[u1,Bo r.2]∧(rS 9 RP.str).rel H' [u1] r.1∧Star H' w' (R):=by
 unfold i_linesOf at hF
 refine C_enter Tryd.func58 rfl Tryd.ntmps58 rfl (sq (aV S0 rfl (aB rfl (nq ?_))))
 obtain ⟨x6,hx6,hF⟩:=bind_some hF
 refine W_region (mV (.string text) rfl ?_)
 obtain ⟨H9b,l10,s11,z12,k13⟩:=Z.borrow
 refine L_call rfl Tryd.call39 (ops2 rfl rfl) (strings_Split_c (x_:=text) (y_:=(⟨#[10]⟩ : ByteArray)) s11 hx6) ?_
 rintro r14_0 w14 ⟨_,rfl,Z⟩
 have Z:=k13 Z (co closed_str c0)
 refine aV r14_0 rfl (ns (mV r14_0 rfl (L_len rfl Tryd.underlying56 rfl (Star.len 0 Z rfl) (L_sub rfl rfl rfl (aI rfl (nq ?_))))))
 obtain ⟨H16,l17,Z,hz18⟩:=Star.freeze Z
 have hz18 : (rS 9 RP.str).rel H16 [r14_0] x6:=hz18
 obtain ⟨x19,hx19,hF⟩:=bind_some hF
 obtain ⟨x22,hx22,hF⟩:=bind_some hF
 obtain ⟨R32,hR32⟩:=exR fun f w_=>∃ H30 : FH,∃ v28_t4 : Value,Le H16 H30∧f 4 = v28_t4∧f 5 = Bo ((ByteArray.toList x22 == ByteArray.toList (⟨#[]⟩ : ByteArray)) && (decide ((i64 ((x6.length : Int) - 1))≤most)))∧(rS 9 RP.str).rel H30 [v28_t4] x19∧Star H30 w_ (R)
 refine W_join R32 ?_ ?_
 rcases Bool.eq_false_or_eq_true (ByteArray.toList x22 == ByteArray.toList (⟨#[]⟩ : ByteArray)) with hc33 | hc33
 refine W_drawS 14 [isV (r14_0),isV (I (i64 ((x6.length : Int) - 1))),isData (rS 9 RP.str) x19,isV (r14_0),isV (I (i64 ((x6.length : Int) - 1))),isEl RP.str x22 0,isV (.string x22),isV (Bo (ByteArray.toList x22 == ByteArray.toList (⟨#[]⟩ : ByteArray))),isV (Bo (ByteArray.toList x22 == ByteArray.toList (⟨#[]⟩ : ByteArray))),isV (I (i64 ((x6.length : Int) - 1))),isV (I most),isV (Bo (decide ((i64 ((x6.length : Int) - 1))≤most))),isV (Bo ((ByteArray.toList x22 == ByteArray.toList (⟨#[]⟩ : ByteArray)) && (decide ((i64 ((x6.length : Int) - 1))≤most)))),isData (rS 9 RP.str) x19] [] [] (R) [([],[]),([],[]),([],[]),([],[]),([],[]),([],[]),([],[]),([],[]),([],[]),([],[]),([],[]),([],[]),([],[]),([],[])] (S:=[]) Tryd_mix (by kernel_rfl) rfl (by kernel_rfl) (amF_cons (mono_V _) (amF_cons (mono_V _) (amF_cons (mono_data _ _) (amF_cons (mono_V _) (amF_cons (mono_V _) (amF_cons (mono_el _ _ _) (amF_cons (mono_V _) (amF_cons (mono_V _) (amF_cons (mono_V _) (amF_cons (mono_V _) (amF_cons (mono_V _) (amF_cons (mono_V _) (amF_cons (mono_V _) (amF_cons (mono_data _ _) amF_nil)))))))))))))) Z ?_ (fun f w_ H27 hS27 hE27 hT27 Z=>?_)
 refine opsS_cons (fun f w_ _ _ s _ _ Z=>mF ((s 6 rfl).trans rfl) rfl (nO rfl rfl Z)) (opsS_cons (fun f w_ _ _ s _ _ Z=>mF ((s 7 rfl).trans rfl) rfl (nO rfl rfl Z)) (opsS_cons ?_ ?_))
 intro f w_ H27 X27 hS27 hE27 hP27 Z
 refine L_sl (a:=0) (b:=i64 ((x6.length : Int) - 1)) rfl et_56 (hP27 0 13 rfl rfl) (RP.mono _ hz18 hE27) rfl (hP27 1 14 rfl rfl) hx19 (fun v40 hs41=>L_nil ⟨rfl,_,_,rfl,Le.refl _,fun _ _=>hs41,Z⟩)
 refine opsS_cons (fun f w_ _ _ s _ _ Z=>mF ((s 6 rfl).trans rfl) rfl (nO rfl rfl Z)) (opsS_cons (fun f w_ _ _ s _ _ Z=>mF ((s 7 rfl).trans rfl) rfl (nO rfl rfl Z)) (opsS_cons ?_ ?_))
 intro f w_ H27 X27 hS27 hE27 hP27 Z
 refine L_ix (r:=RP.str) rfl Tryd.underlying56 Tryd.sizeOf9 (hP27 3 16 rfl rfl) (RP.mono _ hz18 hE27) (hP27 4 17 rfl rfl) hx22 (fun g42 o43 cs_g42 hrk_hat44 hat44=>?_)
 obtain rfl : _ = [_]:=hrk_hat44
 exact L_nil ⟨rfl,_,_,rfl,Le.refl _,fun _ _=>⟨_,_,_,rfl,rfl,hat44⟩,Z⟩
 refine opsS_cons ?_ ?_
 intro f w_ H27 X27 hS27 hE27 hP27 Z
 obtain ⟨g46,o46,cs46,hv46,hrk_hat46,hat46⟩:=(hP27 5 18 rfl rfl)
 obtain rfl : _ = [_]:=hrk_hat46
 refine L_ld rfl Tryd.isAgg9 hv46 (At.cell (AtH.at hat46 Z.sub) (j:=0) rfl) (L_nil ⟨rfl,_,_,rfl,Le.refl _,fun _ _=>rfl,Z⟩)
 refine opsS_cons (fun f w_ _ _ _ _ p Z=>L_seql (s:=x22) (s':=(⟨#[]⟩ : ByteArray)) rfl (p 6 19 rfl rfl) rfl (nO rfl rfl Z)) (opsS_cons (fun f w_ _ _ _ _ p Z=>mF (p 7 20 rfl rfl) rfl (nO rfl rfl Z)) (opsS_cons (fun f w_ _ _ s _ p Z=>L_mv (v:=I (i64 ((x6.length : Int) - 1))) (g_yes rfl (Eq.trans (p 8 21 rfl rfl) (congrArg Value.bool hc33)) rfl) ((s 7 rfl).trans rfl) (nO rfl rfl Z)) (opsS_cons (fun f w_ _ _ s _ p Z=>L_mv (v:=I most) (g_yes rfl (Eq.trans (p 8 21 rfl rfl) (congrArg Value.bool hc33)) rfl) ((s 1 rfl).trans rfl) (nO rfl rfl Z)) (opsS_cons (fun f w_ _ _ _ _ p Z=>L_leq (g_yes rfl (Eq.trans (p 8 21 rfl rfl) (congrArg Value.bool hc33)) rfl) (p 9 22 rfl rfl) (p 10 23 rfl rfl) (nO rfl rfl Z)) (opsS_cons (fun f w_ _ _ _ _ p Z=>pkT (v:=Bo ((ByteArray.toList x22 == ByteArray.toList (⟨#[]⟩ : ByteArray)) && (decide ((i64 ((x6.length : Int) - 1))≤most)))) (p 8 21 rfl rfl) hc33 rfl (and_t hc33 (p 11 24 rfl rfl)) (nO rfl rfl Z)) (opsS_cons ?_ ?_))))))
 intro f w_ H27 X27 hS27 hE27 hP27 Z
 have hd48 : (rS 9 RP.str).rel H27 [f 15] x19:=(hP27 2 15 rfl rfl)
 refine aV (f 15) rfl (L_nil ⟨rfl,_,_,rfl,Le.refl _,fun _ _=>hd48,Z⟩)
 exact opsS_nil
 have hd49 : (rS 9 RP.str).rel H27 [f 4] x19:=(hT27 13 4 rfl rfl)
 refine aF (hT27 12 25 rfl rfl) rfl (nn (rj hR32 ⟨H27,(f 4),hE27,rfl,rfl,hd49,Z⟩))
 refine W_drawS 14 [isV (r14_0),isV (I (i64 ((x6.length : Int) - 1))),isData (rS 9 RP.str) x19,isV (r14_0),isV (I (i64 ((x6.length : Int) - 1))),isEl RP.str x22 0,isV (.string x22),isV (Bo (ByteArray.toList x22 == ByteArray.toList (⟨#[]⟩ : ByteArray))),isV (Bo (ByteArray.toList x22 == ByteArray.toList (⟨#[]⟩ : ByteArray))),isV (undef),isV (undef),isV (undef),isV (Bo ((ByteArray.toList x22 == ByteArray.toList (⟨#[]⟩ : ByteArray)) && (decide ((i64 ((x6.length : Int) - 1))≤most)))),isData (rS 9 RP.str) x19] [] [] (R) [([],[]),([],[]),([],[]),([],[]),([],[]),([],[]),([],[]),([],[]),([],[]),([],[]),([],[]),([],[]),([],[]),([],[])] (S:=[]) Tryd_mix (by kernel_rfl) rfl (by kernel_rfl) (amF_cons (mono_V _) (amF_cons (mono_V _) (amF_cons (mono_data _ _) (amF_cons (mono_V _) (amF_cons (mono_V _) (amF_cons (mono_el _ _ _) (amF_cons (mono_V _) (amF_cons (mono_V _) (amF_cons (mono_V _) (amF_cons (mono_V _) (amF_cons (mono_V _) (amF_cons (mono_V _) (amF_cons (mono_V _) (amF_cons (mono_data _ _) amF_nil)))))))))))))) Z ?_ (fun f w_ H27 hS27 hE27 hT27 Z=>?_)
 refine opsS_cons (fun f w_ _ _ s _ _ Z=>mF ((s 6 rfl).trans rfl) rfl (nO rfl rfl Z)) (opsS_cons (fun f w_ _ _ s _ _ Z=>mF ((s 7 rfl).trans rfl) rfl (nO rfl rfl Z)) (opsS_cons ?_ ?_))
 intro f w_ H27 X27 hS27 hE27 hP27 Z
 refine L_sl (a:=0) (b:=i64 ((x6.length : Int) - 1)) rfl et_56 (hP27 0 13 rfl rfl) (RP.mono _ hz18 hE27) rfl (hP27 1 14 rfl rfl) hx19 (fun v56 hs57=>L_nil ⟨rfl,_,_,rfl,Le.refl _,fun _ _=>hs57,Z⟩)
 refine opsS_cons (fun f w_ _ _ s _ _ Z=>mF ((s 6 rfl).trans rfl) rfl (nO rfl rfl Z)) (opsS_cons (fun f w_ _ _ s _ _ Z=>mF ((s 7 rfl).trans rfl) rfl (nO rfl rfl Z)) (opsS_cons ?_ ?_))
 intro f w_ H27 X27 hS27 hE27 hP27 Z
 refine L_ix (r:=RP.str) rfl Tryd.underlying56 Tryd.sizeOf9 (hP27 3 16 rfl rfl) (RP.mono _ hz18 hE27) (hP27 4 17 rfl rfl) hx22 (fun g58 o59 cs_g58 hrk_hat60 hat60=>?_)
 obtain rfl : _ = [_]:=hrk_hat60
 exact L_nil ⟨rfl,_,_,rfl,Le.refl _,fun _ _=>⟨_,_,_,rfl,rfl,hat60⟩,Z⟩
 refine opsS_cons ?_ ?_
 intro f w_ H27 X27 hS27 hE27 hP27 Z
 obtain ⟨g62,o62,cs62,hv62,hrk_hat62,hat62⟩:=(hP27 5 18 rfl rfl)
 obtain rfl : _ = [_]:=hrk_hat62
 refine L_ld rfl Tryd.isAgg9 hv62 (At.cell (AtH.at hat62 Z.sub) (j:=0) rfl) (L_nil ⟨rfl,_,_,rfl,Le.refl _,fun _ _=>rfl,Z⟩)
 refine opsS_cons (fun f w_ _ _ _ _ p Z=>L_seql (s:=x22) (s':=(⟨#[]⟩ : ByteArray)) rfl (p 6 19 rfl rfl) rfl (nO rfl rfl Z)) (opsS_cons (fun f w_ _ _ _ _ p Z=>mF (p 7 20 rfl rfl) rfl (nO rfl rfl Z)) (oP (fun _ _ p=>gN (p 8 21 rfl rfl) hc33 rfl) (fun _=>rfl) (oP (fun _ _ p=>gN (p 8 21 rfl rfl) hc33 rfl) (fun _=>rfl) (oP (fun _ _ p=>gN (p 8 21 rfl rfl) hc33 rfl) (fun _=>rfl) (opsS_cons (fun f w_ _ _ _ _ p Z=>pkT (v:=Bo ((ByteArray.toList x22 == ByteArray.toList (⟨#[]⟩ : ByteArray)) && (decide ((i64 ((x6.length : Int) - 1))≤most)))) (p 8 21 rfl rfl) hc33 rfl (and_f hc33) (nO rfl rfl Z)) (opsS_cons ?_ ?_))))))
 intro f w_ H27 X27 hS27 hE27 hP27 Z
 have hd64 : (rS 9 RP.str).rel H27 [f 15] x19:=(hP27 2 15 rfl rfl)
 refine aV (f 15) rfl (L_nil ⟨rfl,_,_,rfl,Le.refl _,fun _ _=>hd64,Z⟩)
 exact opsS_nil
 have hd65 : (rS 9 RP.str).rel H27 [f 4] x19:=(hT27 13 4 rfl rfl)
 refine aF (hT27 12 25 rfl rfl) rfl (nn (rj hR32 ⟨H27,(f 4),hE27,rfl,rfl,hd65,Z⟩))
 intro f w_ hR
 obtain ⟨H30,v28_t4,l31,sf4,sf5,hv29_t4,Z⟩:=rk hR32 hR
 refine W_ret (retG2 (v1:=v28_t4) (v2:=Bo ((ByteArray.toList x22 == ByteArray.toList (⟨#[]⟩ : ByteArray)) && (decide ((i64 ((x6.length : Int) - 1))≤most)))) Tryd.results58 sf4 sf5 ?_)
 obtain rfl:=so hF
 exact ⟨H30,(Le.trans l17 l31),v28_t4,rfl,hv29_t4,Z⟩
theorem i_ParseProblem_c {fu : Nat} {text : ByteArray} {H : FH} {w : World} (Z : Star H w []) {r : (List Con) × Bool} (hF : i_ParseProblem fu text = some r) :
 C Tryd.prog 28 #[.string text] w fun v w'=>∃ (u1 : Value),v = .tuple #[u1,Bo r.2]∧Star H w' [oS 29 (oCon 62) u1 r.1]:=by
 unfold i_ParseProblem at hF
 refine C_enter Tryd.func28 rfl Tryd.ntmps28 rfl (sq (aV S0 rfl (aB rfl (nq ?_))))
 obtain ⟨x1,hx1,hF⟩:=bind_some hF
 refine W_region (mV (.string text) rfl (L_call rfl Tryd.call58 (ops2 rfl rfl) (i_linesOf_c (text:=text) (most:=400) Z hx1) ?_))
 rintro _ w3 ⟨H3,l3,r3_0,rfl,hr3_0,Z⟩
 refine mV (.tuple #[r3_0,Bo x1.2]) rfl (L_ex (v:=r3_0) rfl rfl rfl (L_ex (v:=Bo x1.2) rfl rfl rfl (aV r3_0 rfl (aB rfl (nq (sq (mB rfl (L_not_ rfl rfl (nn (W_cond (b:=(!x1.2)) rfl (fun hc4=>?_) (fun hc4=>?_)))))))))))
 have hF:=(ite_t hc4).symm.trans hF
 refine sq (aV S0 rfl (aB rfl (nn (W_ret (retG2 (v1:=S0) (v2:=Bo false) Tryd.results28 rfl rfl ?_)))))
 obtain rfl:=so hF
 have Z:=Star.addNil (R:=(oCon 62)) (e:=29) Z
 exact ⟨S0,rfl,(Star.down Z l3 (co closed_oCon c0))⟩
 have hF:=(ite_f hc4).symm.trans hF
 refine W_skip (sq (aV S0 rfl (nq (sq (mV r3_0 rfl (L_len rfl Tryd.underlying56 rfl (slice_len hr3_0) (mI rfl (nn ?_))))))))
 have hlen9 : List.length x1.1≤9223372036854775807:=len_le (slice_len hr3_0)
 obtain ⟨j9,hL9,hF⟩:=bind_some hF
 obtain ⟨R9,hR9⟩:=exR fun f w_=>∃ list_7 : List Con,∃ v7_list : Value,j9 = .nx list_7∧f 6 = v7_list∧Star H3 w_ ([oS 29 (oCon 62) v7_list list_7])
 refine W_join R9 ?_ ?_
 refine W_block ?_
 obtain ⟨I9,hI9⟩:=exI fun n f w_=>∃ i_6 : Nat,∃ suf9 : List ByteArray,∃ list_7 : List Con,∃ v7_list : Value,n = suf9.length∧List.drop i_6 x1.1 = suf9∧i_6 + suf9.length = x1.1.length∧rangeL (i_ParseProblem_b1 fu) suf9 i_6 list_7 = some j9∧f 6 = v7_list∧f 18 = r3_0∧f 19 = I (x1.1.length : Int)∧f 20 = I i_6∧Star H3 w_ ([oS 29 (oCon 62) v7_list list_7])
 have Z:=Star.addNil (R:=(oCon 62)) (e:=29) Z
 refine W_loop I9 (n:=x1.1.length) ?_ ?_
 exact ij hI9 ⟨0,x1.1,[],S0,rfl,rfl,Nat.zero_add _,hL9,rfl,rfl,rfl,rfl,Z⟩
 intro n9 f w_ hI
 obtain ⟨i_6,suf9,list_7,v7_list,rfl,hd9,hl9,hL9,sf6,sf18,sf19,sf20,Z⟩:=ik hI9 hI
 refine sq (L_lss rfl sf20 sf19 (nq (W_cond (b:=decide ((i_6 : Int) < (x1.1.length : Int))) rfl (fun hc11=>?_) (fun hc11=>?_))))
 have hlt9:=of_decide_eq_true hc11
 rcases suf9 with _ | ⟨x_9,rest9⟩
 exact absurd hlt9 (by simp at hl9; omega)
 obtain ⟨o9,hB9,hL9⟩:=range_cons hL9
 rw [i_ParseProblem_b1] at hB9
 have hix9:=drop_idx hd9
 refine W_skip (W_seq (W_block (sq (L_ix (r:=RP.str) rfl Tryd.underlying56 Tryd.sizeOf9 sf18 hr3_0 sf20 hix9 (fun g16 o17 cs_g16 hrk_hat18 hat18=>?_)))))
 obtain rfl : _ = [_]:=hrk_hat18
 refine L_ld rfl Tryd.isAgg9 rfl (At.cell (AtH.at hat18 Z.sub) (j:=0) rfl) (aV (.string x_9) rfl (nq ?_))
 obtain ⟨x25,hx25,hB9⟩:=bind_some hB9
 refine W_region (mV (.string x_9) rfl ?_)
 obtain ⟨H31b,l32,s33,z34,k35⟩:=Z.borrow
 refine L_call rfl Tryd.call14 (ops1 rfl) (i_ParseConstraint_c (text:=x_9) s33 hx25) ?_
 rintro _ w36 ⟨r36_0,rfl,Z⟩
 have Z:=k35 Z (co closed_term c0)
 refine mV (.tuple #[.agg #[r36_0,I x25.1.bound],Bo x25.2]) rfl (L_ex (v:=.agg #[r36_0,I x25.1.bound]) rfl rfl rfl (L_ex (v:=Bo x25.2) rfl rfl rfl (L_al (cs:=#[S0,I 0]) rfl Tryd.zeroValue29 rfl Z (fun g38 w39 Z=>L_staB (vs:=#[r36_0,I x25.1.bound]) (cs2:=#[r36_0,I x25.1.bound]) 0 rfl Tryd.sizeOf29 rfl rfl rfl (ones_cons (one_len (Star.len 1 Z rfl)) (ones_cons rfl ones_nil)) Z rfl (by show 0 + 2≤2; decide) rfl (fun w40 Z=>aB rfl (nq (sq (mB rfl (L_not_ rfl rfl (nn (W_cond (b:=(!x25.2)) rfl (fun hc41=>?_) (fun hc41=>?_))))))))))))
 have hB9:=(ite_t hc41).symm.trans hB9
 refine sq (aV S0 rfl (aB rfl (nn (W_ret (retG2 (v1:=S0) (v2:=Bo false) Tryd.results28 rfl rfl ?_)))))
 obtain rfl:=so hB9
 obtain rfl:=so hL9
 obtain rfl:=so hF
 have Z:=Star.addNil (R:=(oCon 62)) (e:=29) Z
 exact ⟨S0,rfl,(Star.down (Star.keepN 1 Z) l3 (co closed_oCon c0))⟩
 have hB9:=(ite_f hc41).symm.trans hB9
 refine W_skip ?_
 obtain ⟨x46,hx46,hB9⟩:=bind_some hB9
 refine W_region (mF sf6 rfl (L_lda (cs:=[r36_0,I x25.1.bound]) rfl Tryd.isAgg29 Tryd.sizeOf29 rfl (At.sub0 (Blk.at (Star.blkAt 0 Z rfl)) 0 2) rfl (L_bs rfl (parts1 rfl) (bs_45_1_2 (r36_0) (I x25.1.bound) ) Z (fun g50 w51 Z=>?_))))
 have Z:=Z.get 2 rfl
 have Z:=oCon_close (c:=x25.1) Z
 have Z:=Star.mkRow (R:=(oCon 62)) [([r36_0,I x25.1.bound],x25.1)] [x25.1] 1 Z rfl rfl rfl (by decide)
 have Z:=Z.get 2 rfl
 refine L_appM (v:=v7_list) (u:=(Sl g50 1 1)) rfl et_45 rfl rfl Z hx46 (fun v53 w54 Z=>aV v53 rfl (nn (W_region (L_add rfl sf20 rfl (mI rfl (nn ?_))))))
 obtain rfl:=so hB9
 show ∃ m,m < _∧I9 m _ _
 refine ⟨rest9.length,by simp,?_⟩
 exact ij hI9 ⟨i_6 + 1,rest9,x46,v53,rfl,drop_next hd9,by simp at hl9; omega,hL9,rfl,sf18,sf19,(Eq.trans rfl (congrArg (Value.int .i64) (i64_succ (n:=x1.1.length) (by simp at hl9; omega) hlen9))),(Star.keepN 1 Z)⟩
 rcases suf9 with _ | ⟨_,_⟩
 obtain rfl:=range_nil hL9
 refine W_exit (rj hR9 ⟨list_7,v7_list,rfl,sf6,Z⟩)
 exact absurd (of_decide_eq_false hc11) (by simp at hl9; omega)
 intro f w_ hR
 obtain ⟨list_7,v7_list,rfl,sf6,Z⟩:=rk hR9 hR
 refine sq (mF sf6 rfl (aV v7_list rfl (aB rfl (nn (W_ret (retG2 (v1:=v7_list) (v2:=Bo true) Tryd.results28 rfl rfl ?_))))))
 obtain rfl:=so hF
 exact ⟨v7_list,rfl,(Star.down Z l3 (co closed_oCon c0))⟩
theorem l_markConstraintS_c {fu : Nat} {a : List Con} {k : Int} {v0 : Value} {H : FH} {w : World} (Z : Star H w [oS 29 (oCon 62) v0 a]) {r : Int × (List Con)} (hF : l_markConstraintS fu a k = some r) :
 C Tryd.prog 29 #[v0,I k] w fun v w'=>v = I r.1∧Star H w' [oS 29 (oCon 62) v0 r.2]:=by
 unfold l_markConstraintS at hF
 refine C_enter Tryd.func29 rfl Tryd.ntmps29 rfl (sq (aI rfl (nq (sq (aI rfl (nn ?_))))))
 obtain ⟨j8,hL8,hF⟩:=bind_some hF
 obtain ⟨R8,hR8⟩:=exR fun f w_=>∃ a_5 : List Con,∃ k_6 : Int,∃ i_7 : Int,j8 = .nx (a_5,k_6,i_7)∧f 1 = I k_6∧Star H w_ ([oS 29 (oCon 62) v0 a_5])
 refine W_join R8 ?_ ?_
 refine W_block ?_
 obtain ⟨I8,hI8⟩:=exI fun n f w_=>∃ a_5 : List Con,∃ k_6 : Int,∃ i_7 : Int,whileL (l_markConstraintS_b1 fu) n (a_5,k_6,i_7) = some j8∧f 0 = v0∧f 1 = I k_6∧f 5 = I i_7∧Star H w_ ([oS 29 (oCon 62) v0 a_5])
 refine W_loop I8 (n:=fu) ?_ ?_
 exact ij hI8 ⟨a,k,0,hL8,rfl,rfl,rfl,Z⟩
 intro n8 f w_ hI
 obtain ⟨a_5,k_6,i_7,hL8,sf0,sf1,sf5,Z⟩:=ik hI8 hI
 rcases n8 with _ | n8
 exact (while_zero hL8).elim
 obtain ⟨o8,hB8,hL8⟩:=while_succ hL8
 rw [l_markConstraintS_b1] at hB8
 refine W_seq (sq (mF sf5 rfl (mF sf0 rfl (L_len rfl Tryd.underlying45 rfl (Star.len 0 Z rfl) (L_lss rfl rfl rfl (nn (W_cond (b:=decide (i_7 < (a_5.length : Int))) rfl (fun hc9=>?_) (fun hc9=>?_))))))))
 have hB8:=(ite_t hc9).symm.trans hB8
 refine W_skip (W_seq (W_block (W_seq ?_)))
 obtain ⟨x10,hx10,hB8⟩:=bind_some hB8
 obtain ⟨x20,hx20,hB8⟩:=bind_some hB8
 refine W_region (mF sf0 rfl (mF sf5 rfl ?_))
 obtain ⟨g22,cap_g22,hv23,_,_⟩:=Star.row 0 Z rfl hx10
 refine L_ixO (R:=(oCon 62)) (tb:=0) 0 rfl Tryd.underlying45 Tryd.sizeOf29 rfl hv23 (by first | rfl | simp) rfl hx10 (fA (Int.toNat i_7 * 2 + 0) fa_29_0 rfl rfl ?_)
 obtain ⟨cs24,Z,hat24⟩:=Star.focus Z hx10
 have hat24:=hat24 _ _ _ hv23
 obtain ⟨u24_0,rfl,Z⟩:=oCon_open Z
 refine L_ld rfl Tryd.isAgg27 rfl (At.cell hat24 (j:=0) rfl) (mF sf1 rfl ?_)
 obtain ⟨H26b,l27,s28,z29,k30⟩:=Z.lend [_]
 refine L_call rfl Tryd.call42 (ops2 rfl rfl) (l_markTermS_c (a:=x10.terms) (k:=k_6) s28 hx20) ?_
 rintro _ w31 ⟨rfl,Z⟩
 have Z:=k30 Z (co closed_term c0)
 refine aI rfl (nq ?_)
 have Z:=oCon_close (c:=({ terms:=x20.2,bound:=x10.bound } : Con)) Z
 have Z:=Star.unfocus (x':=({ terms:=x20.2,bound:=x10.bound } : Con)) (idx_some hx10).2.2 Z
 obtain ⟨x32,hx32,hB8⟩:=bind_some hB8
 refine W_region (mF sf0 rfl (mF sf5 rfl (mI rfl (L_ixO (R:=(oCon 62)) (tb:=0) 0 rfl Tryd.underlying45 Tryd.sizeOf29 rfl hv23 (by first | rfl | simp) rfl hx32 (fA (Int.toNat i_7 * 2 + 1) fa_29_1 rfl rfl (L_stF (j:=1) (u:=I x20.1) (z:={ x32 with bound:=x20.1 }) rfl Tryd.sizeOf3 rfl rfl rfl rfl hv23 Z hx32 fld_oCon_1 (fun w34 Z=>nn (W_region (mI rfl (L_add rfl rfl rfl (aI rfl (nn (W_region (mF sf5 rfl (L_add rfl rfl rfl (aI rfl (nn ?_)))))))))))))))))
 obtain rfl:=so hB8
 show ∃ m,m < _∧I8 m _ _
 refine ⟨n8,Nat.lt_succ_self _,?_⟩
 exact ij hI8 ⟨((a_5.set (Int.toNat i_7) ({ terms:=x20.2,bound:=x10.bound } : Con)).set (Int.toNat i_7) ({ x32 with bound:=x20.1 })),i64 (x20.1 + 1),i64 (i_7 + 1),hL8,sf0,rfl,rfl,Z⟩
 have hB8:=(ite_f hc9).symm.trans hB8
 refine W_exit ?_
 obtain rfl:=so hB8
 obtain rfl:=so hL8
 exact rj hR8 ⟨a_5,k_6,i_7,rfl,sf1,Z⟩
 intro f w_ hR
 obtain ⟨a_5,k_6,i_7,rfl,sf1,Z⟩:=rk hR8 hR
 refine sq (mF sf1 rfl (aI rfl (nn (W_ret (retG1 (v1:=I k_6) Tryd.results29 rfl ?_)))))
 obtain rfl:=so hF
 exact ⟨rfl,Z⟩
theorem l_heldConstraintS_c {a : List Con} {k : Int} {v0 : Value} {H : FH} {w : World} (Z : Star H w []) (h0 : (rS 29 (rCon 62)).rel H [v0] a) {r : Int} (hF : l_heldConstraintS a k = some r) :
 C Tryd.prog 30 #[v0,I k] w fun v w'=>v = I r∧Star H w' []:=by
 unfold l_heldConstraintS at hF
 refine C_enter Tryd.func30 rfl Tryd.ntmps30 rfl (sq (aI rfl (nq (sq (aI rfl (nn ?_))))))
 have hlen3 : List.length a≤9223372036854775807:=len_le (slice_len h0)
 obtain ⟨j3,hL3,hF⟩:=bind_some hF
 obtain ⟨R3,hR3⟩:=exR fun f w_=>∃ k_2 : Int,j3 = .nx k_2∧f 1 = I k_2∧Star H w_ ([])
 refine W_join R3 ?_ ?_
 refine W_block ?_
 obtain ⟨I3,hI3⟩:=exI fun n f w_=>∃ i_1 : Nat,∃ suf3 : List Con,∃ k_2 : Int,n = suf3.length∧List.drop i_1 a = suf3∧i_1 + suf3.length = a.length∧rangeL l_heldConstraintS_b1 suf3 i_1 k_2 = some j3∧f 0 = v0∧f 1 = I k_2∧f 5 = I i_1∧Star H w_ ([])
 refine W_loop I3 (n:=a.length) ?_ ?_
 exact ij hI3 ⟨0,a,k,rfl,rfl,Nat.zero_add _,hL3,rfl,rfl,rfl,Z⟩
 intro n3 f w_ hI
 obtain ⟨i_1,suf3,k_2,rfl,hd3,hl3,hL3,sf0,sf1,sf5,Z⟩:=ik hI3 hI
 refine W_seq (sq (mF sf5 rfl (mF sf0 rfl (L_len rfl Tryd.underlying45 rfl (slice_len h0) (L_lss rfl rfl rfl (nn (W_cond (b:=decide ((i_1 : Int) < (a.length : Int))) rfl (fun hc4=>?_) (fun hc4=>?_))))))))
 have hlt3:=of_decide_eq_true hc4
 rcases suf3 with _ | ⟨x_3,rest3⟩
 exact absurd hlt3 (by simp at hl3; omega)
 obtain ⟨o3,hB3,hL3⟩:=range_cons hL3
 rw [l_heldConstraintS_b1] at hB3
 have hix3:=drop_idx hd3
 refine W_skip (W_seq (W_block (W_seq ?_)))
 obtain ⟨x14,hx14,hB3⟩:=bind_some hB3
 refine W_region (mF sf0 rfl (mF sf5 rfl (L_ix (r:=(rCon 62)) rfl Tryd.underlying45 Tryd.sizeOf29 rfl h0 rfl hix3 (fun g16 o17 cs_g16 hrk_hat18 hat18=>?_))))
 obtain ⟨u19_0,rfl,hu19_0⟩:=rCon_iff.1 hrk_hat18
 refine fA o17 fa_29_0 rfl rfl (L_ld rfl Tryd.isAgg27 rfl (At.cell (AtH.at hat18 Z.sub) (j:=0) rfl) (mF sf1 rfl ?_))
 obtain ⟨H20b,l21,s22,z23,k24⟩:=Z.borrow
 refine L_call rfl Tryd.call43 (ops2 rfl rfl) (l_heldTermS_c (a:=x_3.terms) (k:=k_2) s22 (RP.mono _ hu19_0 l21) hx14) ?_
 rintro _ w25 ⟨rfl,Z⟩
 have Z:=k24 Z c0
 refine aI rfl (nq (sq (mI rfl (L_lss rfl rfl rfl (nn (W_cond (b:=decide (x14 < 0)) rfl (fun hc26=>?_) (fun hc26=>?_)))))))
 have hB3:=(ite_t hc26).symm.trans hB3
 refine sq (aI rfl (nn (W_ret (retG1 (v1:=I (-1)) Tryd.results30 rfl ?_))))
 obtain rfl:=so hB3
 obtain rfl:=so hL3
 obtain rfl:=so hF
 exact ⟨rfl,Z⟩
 have hB3:=(ite_f hc26).symm.trans hB3
 refine W_skip (W_seq (sq (mF sf0 rfl (mF sf5 rfl (L_ix (r:=(rCon 62)) rfl Tryd.underlying45 Tryd.sizeOf29 rfl h0 rfl hix3 (fun g31 o32 cs_g31 hrk_hat33 hat33=>?_))))))
 obtain ⟨u34_0,rfl,hu34_0⟩:=rCon_iff.1 hrk_hat33
 refine fA (o32 + 1) fa_29_1 rfl rfl (L_ld rfl Tryd.isAgg3 rfl (At.cell (AtH.at hat33 Z.sub) (j:=1) rfl) (mI rfl (L_neq rfl rfl rfl (nn (W_cond (b:=(x_3.bound != x14)) rfl (fun hc35=>?_) (fun hc35=>?_))))))
 have hB3:=(ite_t hc35).symm.trans hB3
 refine sq (aI rfl (nn (W_ret (retG1 (v1:=I (-1)) Tryd.results30 rfl ?_))))
 obtain rfl:=so hB3
 obtain rfl:=so hL3
 obtain rfl:=so hF
 exact ⟨rfl,Z⟩
 have hB3:=(ite_f hc35).symm.trans hB3
 refine W_skip (W_region (mI rfl (L_add rfl rfl rfl (aI rfl (nn (W_region (mF sf5 rfl (L_add rfl rfl rfl (aI rfl (nn ?_))))))))))
 obtain rfl:=so hB3
 show ∃ m,m < _∧I3 m _ _
 refine ⟨rest3.length,by simp,?_⟩
 exact ij hI3 ⟨i_1 + 1,rest3,i64 (x14 + 1),rfl,drop_next hd3,by simp at hl3; omega,hL3,sf0,rfl,(Eq.trans rfl (congrArg (Value.int .i64) (i64_succ (n:=a.length) (by simp at hl3; omega) hlen3))),Z⟩
 rcases suf3 with _ | ⟨_,_⟩
 obtain rfl:=range_nil hL3
 refine W_exit (rj hR3 ⟨k_2,rfl,sf1,Z⟩)
 exact absurd (of_decide_eq_false hc4) (by simp at hl3; omega)
 intro f w_ hR
 obtain ⟨k_2,rfl,sf1,Z⟩:=rk hR3 hR
 refine sq (mF sf1 rfl (aI rfl (nn (W_ret (retG1 (v1:=I k_2) Tryd.results30 rfl ?_)))))
 obtain rfl:=so hF
 exact ⟨rfl,Z⟩
theorem l_FnExactParseProblem_c {fu : Nat} {aText : ByteArray} {H : FH} {w : World} (Z : Star H w []) {r : Bool} (hF : l_FnExactParseProblem fu aText = some r) :
 C Tryd.prog 7 #[.string aText] w fun v w'=>v = Bo r∧Star H w' []:=by
 unfold l_FnExactParseProblem at hF
 refine C_enter Tryd.func7 rfl Tryd.ntmps7 rfl (sq (aB rfl (nq (sq (mV (.string aText) rfl (L_slen (s:=aText) rfl Tryd.underlying9 rfl (L_gtr rfl rfl rfl (nn (W_cond (b:=decide ((aText.size : Int) > 1048576)) rfl (fun hc1=>?_) (fun hc1=>?_))))))))))
 have hF:=(ite_t hc1).symm.trans hF
 refine sq (aB rfl (nn (W_ret (retG1 (v1:=Bo true) Tryd.results7 rfl ?_))))
 obtain rfl:=so hF
 exact ⟨rfl,Z⟩
 have hF:=(ite_f hc1).symm.trans hF
 refine W_skip (W_seq ?_)
 obtain ⟨x7,hx7,hF⟩:=bind_some hF
 refine W_region (mV (.string aText) rfl ?_)
 obtain ⟨H10b,l11,s12,z13,k14⟩:=Z.borrow
 refine L_call rfl Tryd.call27 (ops1 rfl) (s_ParseProblem_c (text:=aText) s12 hx7) ?_
 rintro _ w15 ⟨r15_0,rfl,Z⟩
 have Z:=k14 Z (co closed_oCon c0)
 refine mV (.tuple #[r15_0,Bo x7.2]) rfl (L_ex (v:=r15_0) rfl rfl rfl (L_ex (v:=Bo x7.2) rfl rfl rfl (aV r15_0 rfl (aB rfl (nq ?_)))))
 obtain ⟨x22,hx22,hF⟩:=bind_some hF
 refine W_region (mV (.string aText) rfl ?_)
 obtain ⟨H25b,l26,s27,z28,k29⟩:=Z.borrow
 refine L_call rfl Tryd.call28 (ops1 rfl) (i_ParseProblem_c (text:=aText) s27 hx22) ?_
 rintro _ w30 ⟨r30_0,rfl,Z⟩
 have Z:=k29 Z (co closed_oCon c0)
 refine mV (.tuple #[r30_0,Bo x22.2]) rfl (L_ex (v:=r30_0) rfl rfl rfl (L_ex (v:=Bo x22.2) rfl rfl rfl (aV r30_0 rfl (aB rfl (nq (W_seq ?_))))))
 obtain ⟨x39,hx39,hF⟩:=bind_some hF
 obtain ⟨R41,hR41⟩:=exR fun f w_=>f 0 = .string aText∧f 3 = r15_0∧f 4 = Bo x7.2∧f 5 = r30_0∧f 32 = Bo ((!x39) || (x22.2 != x7.2))∧Star H w_ ([oS 29 (oCon 62) r15_0 x7.1,oS 29 (oCon 62) r30_0 x22.1])
 refine W_join R41 ?_ ?_
 refine W_region (mV r30_0 rfl (mV r15_0 rfl ?_))
 obtain ⟨H42b,l43,s44,z45,k46⟩:=Z.borrow
 have hb47 : (rS 29 (rCon 62)).rel H42b [r30_0] x22.1:=fz_own 0 z45 rfl
 have hb48 : (rS 29 (rCon 62)).rel H42b [r15_0] x7.1:=fz_own 1 z45 rfl
 refine L_call rfl Tryd.call26 (ops2 rfl rfl) (l_eqConstraintS_c (a:=x22.1) (b:=x7.1) s44 hb47 hb48 hx39) ?_
 rintro _ w49 ⟨rfl,Z⟩
 have Z:=k46 Z c0
 refine L_not_ rfl rfl (mB rfl (L_split (d:=28) (b:=(!x39)) rfl (fun hc50=>?_) (fun hc50=>?_)))
 refine ps rfl (ps rfl (ps rfl (L_pick (v:=Bo ((!x39) || (x22.2 != x7.2))) rfl rfl (or_t hc50) (nn ?_))))
 have Z:=Z.get 1 rfl
 exact rj hR41 ⟨rfl,rfl,rfl,rfl,rfl,Z⟩
 refine mB rfl (mB rfl (L_bneq (b:=x22.2) (c:=x7.2) rfl Tryd.underlying4 rfl rfl (L_pick (v:=Bo ((!x39) || (x22.2 != x7.2))) rfl rfl (or_f hc50 rfl) (nn ?_))))
 have Z:=Z.get 1 rfl
 exact rj hR41 ⟨rfl,rfl,rfl,rfl,rfl,Z⟩
 intro f w_ hR
 obtain ⟨sf0,sf3,sf4,sf5,sf32,Z⟩:=rk hR41 hR
 refine W_cond (b:=((!x39) || (x22.2 != x7.2))) sf32 (fun hc51=>?_) (fun hc51=>?_)
 have hF:=(ite_t hc51).symm.trans hF
 refine sq (aB rfl (nn (W_ret (retG1 (v1:=Bo false) Tryd.results7 rfl ?_))))
 obtain rfl:=so hF
 exact ⟨rfl,(Star.keepN 0 Z)⟩
 have hF:=(ite_f hc51).symm.trans hF
 refine W_skip (sq (aI rfl (nq ?_)))
 obtain ⟨x57,hx57,hF⟩:=bind_some hF
 refine W_region (mF sf5 rfl (mI rfl ?_))
 have Z:=Z.get 1 rfl
 obtain ⟨H59b,l60,s61,z62,k63⟩:=Z.lend [_]
 refine L_call rfl Tryd.call29 (ops2 rfl rfl) (l_markConstraintS_c (a:=x22.1) (k:=1) s61 hx57) ?_
 rintro _ w64 ⟨rfl,Z⟩
 have Z:=k63 Z (co closed_oCon c0)
 refine aI rfl (ns (aI rfl (nq ?_)))
 obtain ⟨x71,hx71,hF⟩:=bind_some hF
 refine W_region (mF sf5 rfl (mI rfl ?_))
 obtain ⟨H73b,l74,s75,z76,k77⟩:=Z.borrow
 have hb78 : (rS 29 (rCon 62)).rel H73b [r30_0] x57.2:=fz_own 0 z76 rfl
 refine L_call rfl Tryd.call30 (ops2 rfl rfl) (l_heldConstraintS_c (a:=x57.2) (k:=1) s75 hb78 hx71) ?_
 rintro _ w79 ⟨rfl,Z⟩
 have Z:=k77 Z c0
 refine aI rfl (nq (sq (mI rfl (L_lss rfl rfl rfl (nn (W_cond (b:=decide (x71 < 0)) rfl (fun hc80=>?_) (fun hc80=>?_)))))))
 have hF:=(ite_t hc80).symm.trans hF
 refine sq (aB rfl (nn (W_ret (retG1 (v1:=Bo false) Tryd.results7 rfl ?_))))
 obtain rfl:=so hF
 exact ⟨rfl,(Star.keepN 0 Z)⟩
 have hF:=(ite_f hc80).symm.trans hF
 refine W_skip (W_seq (sq (mI rfl (mI rfl (L_neq rfl rfl rfl (nn (W_cond (b:=(x71 != x57.1)) rfl (fun hc81=>?_) (fun hc81=>?_))))))))
 have hF:=(ite_t hc81).symm.trans hF
 refine sq (aB rfl (nn (W_ret (retG1 (v1:=Bo false) Tryd.results7 rfl ?_))))
 obtain rfl:=so hF
 exact ⟨rfl,(Star.keepN 0 Z)⟩
 have hF:=(ite_f hc81).symm.trans hF
 refine W_skip (W_seq ?_)
 obtain ⟨x87,hx87,hF⟩:=bind_some hF
 refine W_region (mF sf0 rfl ?_)
 obtain ⟨H90b,l91,s92,z93,k94⟩:=Z.borrow
 refine L_call rfl Tryd.call28 (ops1 rfl) (i_ParseProblem_c (text:=aText) s92 hx87) ?_
 rintro _ w95 ⟨r95_0,rfl,Z⟩
 have Z:=k94 Z (co closed_oCon c0)
 refine mV (.tuple #[r95_0,Bo x87.2]) rfl (L_ex (v:=r95_0) rfl rfl rfl (L_ex (v:=Bo x87.2) rfl rfl rfl (aV r95_0 rfl (aB rfl (nq (W_seq ?_))))))
 obtain ⟨x104,hx104,hF⟩:=bind_some hF
 obtain ⟨R106,hR106⟩:=exR fun f w_=>f 5 = r30_0∧f 7 = I x57.1∧f 57 = Bo ((!x104) || (x87.2 != x7.2))∧Star H w_ ([oS 29 (oCon 62) r30_0 x57.2])
 refine W_join R106 ?_ ?_
 refine W_region (mV r95_0 rfl (mF sf3 rfl ?_))
 obtain ⟨H107b,l108,s109,z110,k111⟩:=Z.borrow
 have hb112 : (rS 29 (rCon 62)).rel H107b [r95_0] x87.1:=fz_own 0 z110 rfl
 have hb113 : (rS 29 (rCon 62)).rel H107b [r15_0] x7.1:=fz_own 2 z110 rfl
 refine L_call rfl Tryd.call26 (ops2 rfl rfl) (l_eqConstraintS_c (a:=x87.1) (b:=x7.1) s109 hb112 hb113 hx104) ?_
 rintro _ w114 ⟨rfl,Z⟩
 have Z:=k111 Z c0
 refine L_not_ rfl rfl (mB rfl (L_split (d:=53) (b:=(!x104)) rfl (fun hc115=>?_) (fun hc115=>?_)))
 refine ps rfl (ps rfl (ps rfl (L_pick (v:=Bo ((!x104) || (x87.2 != x7.2))) rfl rfl (or_t hc115) (nn ?_))))
 have Z:=Z.get 1 rfl
 exact rj hR106 ⟨sf5,rfl,rfl,(Star.keepN 1 Z)⟩
 refine mB rfl (mF sf4 rfl (L_bneq (b:=x87.2) (c:=x7.2) rfl Tryd.underlying4 rfl rfl (L_pick (v:=Bo ((!x104) || (x87.2 != x7.2))) rfl rfl (or_f hc115 rfl) (nn ?_))))
 have Z:=Z.get 1 rfl
 exact rj hR106 ⟨sf5,rfl,rfl,(Star.keepN 1 Z)⟩
 intro f w_ hR
 obtain ⟨sf5,sf7,sf57,Z⟩:=rk hR106 hR
 refine W_cond (b:=((!x104) || (x87.2 != x7.2))) sf57 (fun hc116=>?_) (fun hc116=>?_)
 have hF:=(ite_t hc116).symm.trans hF
 refine sq (aB rfl (nn (W_ret (retG1 (v1:=Bo false) Tryd.results7 rfl ?_))))
 obtain rfl:=so hF
 exact ⟨rfl,(Star.keepN 0 Z)⟩
 have hF:=(ite_f hc116).symm.trans hF
 refine W_skip (sq (aI rfl (nq ?_)))
 obtain ⟨x123,hx123,hF⟩:=bind_some hF
 refine W_region (mF sf5 rfl (mI rfl ?_))
 obtain ⟨H125b,l126,s127,z128,k129⟩:=Z.borrow
 have hb130 : (rS 29 (rCon 62)).rel H125b [r30_0] x57.2:=fz_own 0 z128 rfl
 refine L_call rfl Tryd.call30 (ops2 rfl rfl) (l_heldConstraintS_c (a:=x57.2) (k:=1) s127 hb130 hx123) ?_
 rintro _ w131 ⟨rfl,Z⟩
 have Z:=k129 Z c0
 refine aI rfl (nq (sq (mI rfl (L_lss rfl rfl rfl (nn (W_cond (b:=decide (x123 < 0)) rfl (fun hc132=>?_) (fun hc132=>?_)))))))
 have hF:=(ite_t hc132).symm.trans hF
 refine sq (aB rfl (nn (W_ret (retG1 (v1:=Bo false) Tryd.results7 rfl ?_))))
 obtain rfl:=so hF
 exact ⟨rfl,(Star.keepN 0 Z)⟩
 have hF:=(ite_f hc132).symm.trans hF
 refine W_skip (W_seq (sq (mI rfl (mF sf7 rfl (L_neq rfl rfl rfl (nn (W_cond (b:=(x123 != x57.1)) rfl (fun hc133=>?_) (fun hc133=>?_))))))))
 have hF:=(ite_t hc133).symm.trans hF
 refine sq (aB rfl (nn (W_ret (retG1 (v1:=Bo false) Tryd.results7 rfl ?_))))
 obtain rfl:=so hF
 exact ⟨rfl,(Star.keepN 0 Z)⟩
 have hF:=(ite_f hc133).symm.trans hF
 refine W_skip (sq (aB rfl (nn (W_ret (retG1 (v1:=Bo true) Tryd.results7 rfl ?_)))))
 obtain rfl:=so hF
 exact ⟨rfl,(Star.keepN 0 Z)⟩
end Go.Proofs.YtnjcihhfoocdcaaDoor

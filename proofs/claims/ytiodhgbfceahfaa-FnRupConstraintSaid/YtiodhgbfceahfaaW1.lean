/- Part of a proof by program: W1. -/
import Derived.Test.YtiodhgbfceahfaaD1
import Derived.Test.YtiodhgbfceahfaaProg
namespace Go.Proofs.Ytiodhgbfceahfaa
open Go Go.E Go.L Go.RowKit
set_option linter.unusedVariables false
set_option linter.unusedSimpArgs false
set_option maxRecDepth 100000
theorem Try_mix : Try.prog.follows .mixedOrders = true := by kernel_rfl
theorem fa_41_0 : FA Try.prog 41 0 0 := fa_of Try.underlying41 rfl Try.sizeOf39 rfl
theorem fa_41_1 : FA Try.prog 41 1 1 := fa_of Try.underlying41 rfl Try.sizeOf3 rfl
theorem fa_117_0 : FA Try.prog 117 0 0 := fa_of Try.underlying117 rfl Try.sizeOf3 rfl
theorem fa_117_1 : FA Try.prog 117 1 1 := fa_of Try.underlying117 rfl Try.sizeOf3 rfl
theorem fa_126_0 : FA Try.prog 126 0 0 := fa_of Try.underlying126 rfl Try.sizeOf45 rfl
theorem fa_126_1 : FA Try.prog 126 1 1 := fa_of Try.underlying126 rfl Try.sizeOf3 rfl
theorem et_27 : ET Try.prog 27 41 2 := et_of Try.underlying27 (by decide) (by kernel_rfl)
theorem et_39 : ET Try.prog 39 117 2 := et_of Try.underlying39 (by decide) (by kernel_rfl)
theorem et_45 : ET Try.prog 45 5 1 := et_of Try.underlying45 (by decide) (by kernel_rfl)
theorem et_49 : ET Try.prog 49 4 1 := et_of Try.underlying49 (by decide) (by kernel_rfl)
theorem et_105 : ET Try.prog 105 3 1 := et_of Try.underlying105 (by decide) (by kernel_rfl)
theorem bld_117_0_1 (a0 a1 : Value) (ha0 : a0.oneCell' = true) (ha1 : a1.oneCell' = true) : ∀ w, (Instr.build 117 #[(0, a0), (1, a1)]).run Try.prog w = .ok (.agg #[a0, a1]) w := by
  intro w
  simp [Instr.build, Instr.fill, Try.zeroValue117, Try.runUnderlying117, Try.sizeOf3, cells_one ha0, cells_one ha1, cells_agg]
theorem bld_126_0 (a0 : Value) (ha0 : a0.oneCell' = true) : ∀ w, (Instr.build 126 #[(0, a0)]).run Try.prog w = .ok (.agg #[a0, .int .i64 0]) w := by
  intro w
  simp [Instr.build, Instr.fill, Try.zeroValue126, Try.runUnderlying126, Try.sizeOf3, Try.sizeOf45, cells_one ha0, cells_agg]
theorem bld_41_  : ∀ w, (Instr.build 41 #[]).run Try.prog w = .ok (.agg #[.slice none 0 0, .int .i64 0]) w := by
  intro w
  simp [Instr.build, Instr.fill, Try.zeroValue41, Try.runUnderlying41, Try.sizeOf3, Try.sizeOf39, cells_agg]
theorem bld_41_0_1 (a0 a1 : Value) (ha0 : a0.oneCell' = true) (ha1 : a1.oneCell' = true) : ∀ w, (Instr.build 41 #[(0, a0), (1, a1)]).run Try.prog w = .ok (.agg #[a0, a1]) w := by
  intro w
  simp [Instr.build, Instr.fill, Try.zeroValue41, Try.runUnderlying41, Try.sizeOf3, Try.sizeOf39, cells_one ha0, cells_one ha1, cells_agg]
theorem bld_41_1 (a0 : Value) (ha0 : a0.oneCell' = true) : ∀ w, (Instr.build 41 #[(1, a0)]).run Try.prog w = .ok (.agg #[.slice none 0 0, a0]) w := by
  intro w
  simp [Instr.build, Instr.fill, Try.zeroValue41, Try.runUnderlying41, Try.sizeOf3, Try.sizeOf39, cells_one ha0, cells_agg]
theorem bs_105_0  : ∀ w, (Instr.buildSlice 105 0 #[]).run Try.prog w = .ok (.slice (some ⟨w.heap.size, 0, none⟩) 0 0) (w.alloc (.cells #[] 3)) := by
  intro w
  simp [Instr.buildSlice, Instr.fill, newRow, Try.runUnderlying105, Try.sizeOf3, cells_agg, cells_int, cells_bool, cells_str, cells_sl, Array.range_succ, range0]
theorem bs_105_1_0 (a0 : Value) (ha0 : a0.oneCell' = true) : ∀ w, (Instr.buildSlice 105 1 #[(0, a0)]).run Try.prog w = .ok (.slice (some ⟨w.heap.size, 0, none⟩) 1 1) (w.alloc (.cells #[a0] 3)) := by
  intro w
  simp [Instr.buildSlice, Instr.fill, newRow, Try.zeroValue3, Try.runUnderlying105, Try.sizeOf3, cells_one ha0, cells_agg, cells_int, cells_bool, cells_str, cells_sl, Array.range_succ, range0]
theorem bs_105_3_0_0_0 (a0 a1 a2 : Value) (ha0 : a0.oneCell' = true) (ha1 : a1.oneCell' = true) (ha2 : a2.oneCell' = true) : ∀ w, (Instr.buildSlice 105 3 #[(0, a0), (1, a1), (2, a2)]).run Try.prog w = .ok (.slice (some ⟨w.heap.size, 0, none⟩) 3 3) (w.alloc (.cells #[a0, a1, a2] 3)) := by
  intro w
  simp [Instr.buildSlice, Instr.fill, newRow, Try.zeroValue3, Try.runUnderlying105, Try.sizeOf3, cells_one ha0, cells_one ha1, cells_one ha2, cells_agg, cells_int, cells_bool, cells_str, cells_sl, Array.range_succ, range0]
theorem bs_105_4_0_0_0_0 (a0 a1 a2 a3 : Value) (ha0 : a0.oneCell' = true) (ha1 : a1.oneCell' = true) (ha2 : a2.oneCell' = true) (ha3 : a3.oneCell' = true) : ∀ w, (Instr.buildSlice 105 4 #[(0, a0), (1, a1), (2, a2), (3, a3)]).run Try.prog w = .ok (.slice (some ⟨w.heap.size, 0, none⟩) 4 4) (w.alloc (.cells #[a0, a1, a2, a3] 3)) := by
  intro w
  simp [Instr.buildSlice, Instr.fill, newRow, Try.zeroValue3, Try.runUnderlying105, Try.sizeOf3, cells_one ha0, cells_one ha1, cells_one ha2, cells_one ha3, cells_agg, cells_int, cells_bool, cells_str, cells_sl, Array.range_succ, range0]
theorem bs_105_5_0_0_0_0_0 (a0 a1 a2 a3 a4 : Value) (ha0 : a0.oneCell' = true) (ha1 : a1.oneCell' = true) (ha2 : a2.oneCell' = true) (ha3 : a3.oneCell' = true) (ha4 : a4.oneCell' = true) : ∀ w, (Instr.buildSlice 105 5 #[(0, a0), (1, a1), (2, a2), (3, a3), (4, a4)]).run Try.prog w = .ok (.slice (some ⟨w.heap.size, 0, none⟩) 5 5) (w.alloc (.cells #[a0, a1, a2, a3, a4] 3)) := by
  intro w
  simp [Instr.buildSlice, Instr.fill, newRow, Try.zeroValue3, Try.runUnderlying105, Try.sizeOf3, cells_one ha0, cells_one ha1, cells_one ha2, cells_one ha3, cells_one ha4, cells_agg, cells_int, cells_bool, cells_str, cells_sl, Array.range_succ, range0]
theorem bs_105_7_0_0_0_0_0_0_0 (a0 a1 a2 a3 a4 a5 a6 : Value) (ha0 : a0.oneCell' = true) (ha1 : a1.oneCell' = true) (ha2 : a2.oneCell' = true) (ha3 : a3.oneCell' = true) (ha4 : a4.oneCell' = true) (ha5 : a5.oneCell' = true) (ha6 : a6.oneCell' = true) : ∀ w, (Instr.buildSlice 105 7 #[(0, a0), (1, a1), (2, a2), (3, a3), (4, a4), (5, a5), (6, a6)]).run Try.prog w = .ok (.slice (some ⟨w.heap.size, 0, none⟩) 7 7) (w.alloc (.cells #[a0, a1, a2, a3, a4, a5, a6] 3)) := by
  intro w
  simp [Instr.buildSlice, Instr.fill, newRow, Try.zeroValue3, Try.runUnderlying105, Try.sizeOf3, cells_one ha0, cells_one ha1, cells_one ha2, cells_one ha3, cells_one ha4, cells_one ha5, cells_one ha6, cells_agg, cells_int, cells_bool, cells_str, cells_sl, Array.range_succ, range0]
theorem bs_27_0  : ∀ w, (Instr.buildSlice 27 0 #[]).run Try.prog w = .ok (.slice (some ⟨w.heap.size, 0, none⟩) 0 0) (w.alloc (.cells #[] 41)) := by
  intro w
  simp [Instr.buildSlice, Instr.fill, newRow, Try.runUnderlying27, Try.sizeOf41, cells_agg, cells_int, cells_bool, cells_str, cells_sl, Array.range_succ, range0]
theorem bs_27_1_2 (a0 a1 : Value)  : ∀ w, (Instr.buildSlice 27 1 #[(0, .agg #[a0, a1])]).run Try.prog w = .ok (.slice (some ⟨w.heap.size, 0, none⟩) 1 1) (w.alloc (.cells #[a0, a1] 41)) := by
  intro w
  simp [Instr.buildSlice, Instr.fill, newRow, Try.zeroValue41, Try.runUnderlying27, Try.sizeOf41, cells_agg, cells_int, cells_bool, cells_str, cells_sl, Array.range_succ, range0]
theorem bs_39_0  : ∀ w, (Instr.buildSlice 39 0 #[]).run Try.prog w = .ok (.slice (some ⟨w.heap.size, 0, none⟩) 0 0) (w.alloc (.cells #[] 117)) := by
  intro w
  simp [Instr.buildSlice, Instr.fill, newRow, Try.runUnderlying39, Try.sizeOf117, cells_agg, cells_int, cells_bool, cells_str, cells_sl, Array.range_succ, range0]
theorem bs_39_1_2 (a0 a1 : Value)  : ∀ w, (Instr.buildSlice 39 1 #[(0, .agg #[a0, a1])]).run Try.prog w = .ok (.slice (some ⟨w.heap.size, 0, none⟩) 1 1) (w.alloc (.cells #[a0, a1] 117)) := by
  intro w
  simp [Instr.buildSlice, Instr.fill, newRow, Try.zeroValue117, Try.runUnderlying39, Try.sizeOf117, cells_agg, cells_int, cells_bool, cells_str, cells_sl, Array.range_succ, range0]
theorem bs_49_0  : ∀ w, (Instr.buildSlice 49 0 #[]).run Try.prog w = .ok (.slice (some ⟨w.heap.size, 0, none⟩) 0 0) (w.alloc (.cells #[] 4)) := by
  intro w
  simp [Instr.buildSlice, Instr.fill, newRow, Try.runUnderlying49, Try.sizeOf4, cells_agg, cells_int, cells_bool, cells_str, cells_sl, Array.range_succ, range0]
theorem bs_49_1_0 (a0 : Value) (ha0 : a0.oneCell' = true) : ∀ w, (Instr.buildSlice 49 1 #[(0, a0)]).run Try.prog w = .ok (.slice (some ⟨w.heap.size, 0, none⟩) 1 1) (w.alloc (.cells #[a0] 4)) := by
  intro w
  simp [Instr.buildSlice, Instr.fill, newRow, Try.zeroValue4, Try.runUnderlying49, Try.sizeOf4, cells_one ha0, cells_agg, cells_int, cells_bool, cells_str, cells_sl, Array.range_succ, range0]
theorem s_l1Lit_c {n_ : Int} {H : FH} {w : World} (hst : Star H w []) {r : Bool} (hF : s_l1Lit n_ = some r) :
 C Try.prog 98 #[I n_] w fun v w'=>v = Bo r∧Star H w' []:=by
 unfold s_l1Lit at hF
 refine C_enter Try.func98 rfl Try.ntmps98 rfl (sq (aB rfl (nq ?_)))
 obtain ⟨R1,hR1⟩:=exR fun f w_=>f 2 = Bo (((n_ != 0) && (decide (n_ ≥ (-12)))) && (decide (n_≤12)))∧Star H w_ ([])
 refine W_join R1 ?_ ?_
 refine W_region (mI rfl (L_neq rfl rfl rfl (mB rfl (L_split (d:=5) (b:=(n_ != 0)) rfl (fun hc2=>?_) (fun hc2=>?_)))))
 refine mI rfl (L_geq rfl rfl rfl (L_pick (v:=Bo ((n_ != 0) && (decide (n_ ≥ (-12))))) rfl rfl (and_t hc2 rfl) (mB rfl (L_split (d:=9) (b:=((n_ != 0) && (decide (n_ ≥ (-12))))) rfl (fun hc3=>?_) (fun hc3=>?_)))))
 refine mI rfl (L_leq rfl rfl rfl (L_pick (v:=Bo (((n_ != 0) && (decide (n_ ≥ (-12)))) && (decide (n_≤12)))) rfl rfl (and_t hc3 rfl) (aB rfl (nn (rj hR1 ⟨rfl,hst⟩)))))
 refine ps rfl (ps rfl (L_pick (v:=Bo (((n_ != 0) && (decide (n_ ≥ (-12)))) && (decide (n_≤12)))) rfl rfl (and_f hc3) (aB rfl (nn (rj hR1 ⟨rfl,hst⟩)))))
 refine ps rfl (ps rfl (L_pick (v:=Bo ((n_ != 0) && (decide (n_ ≥ (-12))))) rfl rfl (and_f hc2) (mB rfl (L_split (d:=9) (b:=((n_ != 0) && (decide (n_ ≥ (-12))))) rfl (fun hc4=>?_) (fun hc4=>?_)))))
 refine mI rfl (L_leq rfl rfl rfl (L_pick (v:=Bo (((n_ != 0) && (decide (n_ ≥ (-12)))) && (decide (n_≤12)))) rfl rfl (and_t hc4 rfl) (aB rfl (nn (rj hR1 ⟨rfl,hst⟩)))))
 refine ps rfl (ps rfl (L_pick (v:=Bo (((n_ != 0) && (decide (n_ ≥ (-12)))) && (decide (n_≤12)))) rfl rfl (and_f hc4) (aB rfl (nn (rj hR1 ⟨rfl,hst⟩)))))
 intro f w_ hR
 obtain ⟨sf2,hst⟩:=rk hR1 hR
 refine W_ret (retG1 (v1:=Bo (((n_ != 0) && (decide (n_ ≥ (-12)))) && (decide (n_≤12)))) Try.results98 sf2 ?_)
 obtain rfl:=so hF
 exact ⟨rfl,hst⟩
theorem s_l1Abs_c {n_ : Int} {H : FH} {w : World} (hst : Star H w []) {r : Int} (hF : s_l1Abs n_ = some r) :
 C Try.prog 99 #[I n_] w fun v w'=>v = I r∧Star H w' []:=by
 unfold s_l1Abs at hF
 refine C_enter Try.func99 rfl Try.ntmps99 rfl (sq (aI rfl (nq (sq (mI rfl (L_lss rfl rfl rfl (nn (W_cond (b:=decide (n_ < 0)) rfl (fun hc1=>?_) (fun hc1=>?_)))))))))
 have hF:=(ite_t hc1).symm.trans hF
 refine sq (mI rfl (L_neg rfl rfl (aI rfl (nn (W_ret (retG1 (v1:=I (i64 (-n_))) Try.results99 rfl ?_))))))
 obtain rfl:=so hF
 exact ⟨rfl,hst⟩
 have hF:=(ite_f hc1).symm.trans hF
 refine W_skip (sq (mI rfl (aI rfl (nn (W_ret (retG1 (v1:=I n_) Try.results99 rfl ?_))))))
 obtain rfl:=so hF
 exact ⟨rfl,hst⟩
theorem s_ConstraintValid_c {c : Con} {v0_0 : Value} {H : FH} {w : World} (hst : Star H w []) (h0_0 : (rS 117 rTerm).rel H [v0_0] c.terms) {r : Bool} (hF : s_ConstraintValid c = some r) :
 C Try.prog 56 #[.agg #[v0_0,I c.bound]] w fun v w'=>v = Bo r∧Star H w' []:=by
 unfold s_ConstraintValid at hF
 refine C_enter Try.func56 rfl Try.ntmps56 rfl (sq (L_box (v:=.agg #[v0_0,I c.bound]) (cs:=#[v0_0,I c.bound]) rfl rfl rfl hst (fun g3 w4 hst=>aB rfl (nq (sq (aI rfl (nn ?_)))))))
 have hlen8 : List.length c.terms≤9223372036854775807:=len_le (slice_len h0_0)
 obtain ⟨j8,hL8,hF⟩:=bind_some hF
 obtain ⟨R8,hR8⟩:=exR fun f w_=>∃ H6 : FH,j8 = .nx ()∧Le H H6∧f 1 = Pt g3∧Star H6 w_ ([box g3 41 #[v0_0,I c.bound]])
 refine W_join R8 ?_ ?_
 refine W_block ?_
 obtain ⟨I8,hI8⟩:=exI fun n f w_=>∃ i_5 : Nat,∃ suf8 : List Term,∃ H6 : FH,n = suf8.length∧List.drop i_5 c.terms = suf8∧i_5 + suf8.length = c.terms.length∧rangeL (s_ConstraintValid_b1 c) suf8 i_5 () = some j8∧Le H H6∧f 1 = Pt g3∧f 3 = I i_5∧Star H6 w_ ([box g3 41 #[v0_0,I c.bound]])
 refine W_loop I8 (n:=c.terms.length) ?_ ?_
 exact ij hI8 ⟨0,c.terms,H,rfl,rfl,Nat.zero_add _,hL8,(Le.refl _),rfl,rfl,hst⟩
 intro n8 f w_ hI
 obtain ⟨i_5,suf8,H6,rfl,hd8,hl8,hL8,l7,sf1,sf3,hst⟩:=ik hI8 hI
 refine W_seq (sq (mF sf3 rfl (fA 0 fa_41_0 sf1 rfl (ldB 0 hst Try.isAgg39 rfl rfl rfl (L_len rfl Try.underlying39 rfl (slice_len (RP.mono _ h0_0 l7)) (L_lss rfl rfl rfl (nn (W_cond (b:=decide ((i_5 : Int) < (c.terms.length : Int))) rfl (fun hc9=>?_) (fun hc9=>?_)))))))))
 have hlt8:=of_decide_eq_true hc9
 rcases suf8 with _ | ⟨x_8,rest8⟩
 exact absurd hlt8 (by simp at hl8; omega)
 obtain ⟨o8,hB8,hL8⟩:=range_cons hL8
 rw [s_ConstraintValid_b1] at hB8
 have hix8:=drop_idx hd8
 refine W_skip (W_seq (W_block (sq (fA 0 fa_41_0 sf1 rfl (ldB 0 hst Try.isAgg39 rfl rfl rfl (mF sf3 rfl (L_ix (r:=rTerm) rfl Try.underlying39 Try.sizeOf117 rfl (RP.mono _ h0_0 l7) rfl hix8 (fun g17 o18 cs_g17 hrk_hat19 hat19=>?_))))))))
 obtain rfl:=rTerm_iff.1 hrk_hat19
 refine L_lda (cs:=[I x_8.coef,I x_8.lit]) rfl Try.isAgg117 Try.sizeOf117 rfl (At.sub (AtH.at hat19 hst.sub) 0 2) rfl (L_al (cs:=#[I 0,I 0]) rfl Try.zeroValue117 rfl hst (fun g21 w22 hst=>L_staB (vs:=#[I x_8.coef,I x_8.lit]) (cs2:=#[I x_8.coef,I x_8.lit]) 0 rfl Try.sizeOf117 rfl rfl rfl (ones_cons rfl (ones_cons rfl ones_nil)) hst rfl (by show 0 + 2≤2; decide) rfl (fun w23 hst=>nq ?_)))
 obtain ⟨x29,hx29,hB8⟩:=bind_some hB8
 obtain ⟨b51,hb51,hB8⟩:=bind_some hB8
 obtain ⟨R55,hR55⟩:=exR fun f w_=>∃ H53 : FH,Le H6 H53∧f 1 = Pt g3∧f 3 = I i_5∧f 48 = Bo b51∧Star H53 w_ ([box g3 41 #[v0_0,I c.bound]])
 refine W_join R55 ?_ ?_
 rcases Bool.eq_false_or_eq_true (!x29) with hc56 | hc56
 rcases Bool.eq_false_or_eq_true ((!x29) || (decide (x_8.coef < 1))) with hc57 | hc57
 rcases Bool.eq_false_or_eq_true (((!x29) || (decide (x_8.coef < 1))) || (decide (x_8.coef > 1000))) with hc58 | hc58
 rw [ite_t hc58] at hb51
 refine W_drawS 28 [isV (Pq g21 1),isV (I x_8.lit),isV (Bo x29),isV (Bo (!x29)),isV (Bo (!x29)),isV (undef),isV (undef),isV (undef),isV (Bo ((!x29) || (decide (x_8.coef < 1)))),isV (Bo ((!x29) || (decide (x_8.coef < 1)))),isV (undef),isV (undef),isV (undef),isV (Bo (((!x29) || (decide (x_8.coef < 1))) || (decide (x_8.coef > 1000)))),isV (Bo (((!x29) || (decide (x_8.coef < 1))) || (decide (x_8.coef > 1000)))),isV (undef),isV (undef),isV (undef),isV (undef),isV (undef),isV (undef),isV (undef),isV (undef),isV (undef),isV (undef),isV (undef),isV (undef),isV (undef)] [box g21 117 #[I x_8.coef,I x_8.lit],box g3 41 #[v0_0,I c.bound]] [] ([]) [([],[]),([],[]),([],[]),([],[]),([],[]),([],[]),([],[]),([],[]),([],[]),([],[]),([],[]),([],[]),([],[]),([],[]),([],[]),([],[]),([],[]),([],[]),([],[]),([],[]),([],[]),([],[]),([],[]),([],[]),([],[]),([],[]),([],[]),([],[])] (S:=[]) Try_mix (by kernel_rfl) rfl (by kernel_rfl) (amF_cons (mono_V _) (amF_cons (mono_V _) (amF_cons (mono_V _) (amF_cons (mono_V _) (amF_cons (mono_V _) (amF_cons (mono_V _) (amF_cons (mono_V _) (amF_cons (mono_V _) (amF_cons (mono_V _) (amF_cons (mono_V _) (amF_cons (mono_V _) (amF_cons (mono_V _) (amF_cons (mono_V _) (amF_cons (mono_V _) (amF_cons (mono_V _) (amF_cons (mono_V _) (amF_cons (mono_V _) (amF_cons (mono_V _) (amF_cons (mono_V _) (amF_cons (mono_V _) (amF_cons (mono_V _) (amF_cons (mono_V _) (amF_cons (mono_V _) (amF_cons (mono_V _) (amF_cons (mono_V _) (amF_cons (mono_V _) (amF_cons (mono_V _) (amF_cons (mono_V _) amF_nil)))))))))))))))))))))))))))) hst ?_ (fun f w_ H52 hS52 hE52 hT52 hst=>?_)
 refine opsS_cons (fun f w_ _ _ s _ _ hst=>fA 1 fa_117_1 ((s 4 rfl).trans rfl) rfl (nO rfl rfl hst)) (opsS_cons (fun f w_ _ _ _ _ p hst=>ldB 0 hst Try.isAgg3 (p 0 17 rfl rfl) rfl rfl (nO rfl rfl hst)) (opsS_cons ?_ ?_))
 intro f w_ H52 X52 hS52 hE52 hP52 hst
 obtain ⟨H65b,l66,s67,z68,k69⟩:=hst.borrow
 refine L_call rfl Try.call98 (ops1 (hP52 1 18 rfl rfl)) (s_l1Lit_c (n_:=x_8.lit) s67 hx29) ?_
 rintro _ w70 ⟨rfl,hst⟩
 have hst:=k69 hst c0
 exact L_nil ⟨rfl,_,_,rfl,Le.refl _,fun _ _=>rfl,hst⟩
 refine opsS_cons (fun f w_ _ _ _ _ p hst=>L_not_ rfl (p 2 19 rfl rfl) (nO rfl rfl hst)) (opsS_cons (fun f w_ _ _ _ _ p hst=>mF (p 3 20 rfl rfl) rfl (nO rfl rfl hst)) (oP (fun _ _ p=>gN (p 4 21 rfl rfl) hc56 rfl) (fun _=>rfl) (oP (fun _ _ p=>gN (p 4 21 rfl rfl) hc56 rfl) (fun _=>rfl) (oP (fun _ _ p=>gN (p 4 21 rfl rfl) hc56 rfl) (fun _=>rfl) (opsS_cons (fun f w_ _ _ _ _ p hst=>pkT (v:=Bo ((!x29) || (decide (x_8.coef < 1)))) (p 4 21 rfl rfl) hc56 rfl (or_t hc56) (nO rfl rfl hst)) (opsS_cons (fun f w_ _ _ _ _ p hst=>mF (p 8 25 rfl rfl) rfl (nO rfl rfl hst)) (oP (fun _ _ p=>gN (p 9 26 rfl rfl) hc57 rfl) (fun _=>rfl) (oP (fun _ _ p=>gN (p 9 26 rfl rfl) hc57 rfl) (fun _=>rfl) (oP (fun _ _ p=>gN (p 9 26 rfl rfl) hc57 rfl) (fun _=>rfl) (opsS_cons (fun f w_ _ _ _ _ p hst=>pkT (v:=Bo (((!x29) || (decide (x_8.coef < 1))) || (decide (x_8.coef > 1000)))) (p 9 26 rfl rfl) hc57 rfl (or_t hc57) (nO rfl rfl hst)) (opsS_cons (fun f w_ _ _ _ _ p hst=>mF (p 13 30 rfl rfl) rfl (nO rfl rfl hst)) (oP (fun _ _ p=>gN (p 14 31 rfl rfl) hc58 rfl) (fun _=>rfl) (oP (fun _ _ p=>gN (p 14 31 rfl rfl) hc58 rfl) (fun _=>rfl) (oP (fun _ _ p=>gN (p 14 31 rfl rfl) hc58 rfl) (fun _=>rfl) (oP (fun _ _ p=>g_undef rfl (p 17 34 rfl rfl) rfl) (fun _=>rfl) (oP (fun _ _ p=>g_undef rfl (p 17 34 rfl rfl) rfl) (fun _=>rfl) (oP (fun _ _ p=>g_undef rfl (p 17 34 rfl rfl) rfl) (fun _=>rfl) (oP (fun _ _ p=>g_undef rfl (p 17 34 rfl rfl) rfl) (fun _=>rfl) (oP (fun _ _ p=>g_undef rfl (p 17 34 rfl rfl) rfl) (fun _=>rfl) (oP (fun _ _ p=>g_undef rfl (p 17 34 rfl rfl) rfl) (fun _=>rfl) (oP (fun _ _ p=>g_undef rfl (p 17 34 rfl rfl) rfl) (fun _=>rfl) (oP (fun _ _ p=>g_undef rfl (p 17 34 rfl rfl) rfl) (fun _=>rfl) (oP (fun _ _ p=>g_undef rfl (p 17 34 rfl rfl) rfl) (fun _=>rfl) (oP (fun _ _ p=>g_undef rfl (p 17 34 rfl rfl) rfl) (fun _=>rfl) (opsS_nil)))))))))))))))))))))))))
 refine ps (g_undef rfl (hT52 17 34 rfl rfl) rfl) (ps (g_undef rfl (hT52 17 34 rfl rfl) rfl) (ps (g_no rfl (Eq.trans (hT52 14 31 rfl rfl) (congrArg Value.bool hc58)) rfl rfl) (L_pick (v:=Bo b51) rfl (Eq.trans (hT52 14 31 rfl rfl) (congrArg Value.bool hc58)) (congrArg Value.bool (so hb51)) (nn ?_))))
 have hst:=hst.get 1 rfl
 exact rj hR55 ⟨H52,hE52,((hS52 1 rfl).trans sf1),((hS52 3 rfl).trans sf3),rfl,(Star.keepN 1 hst)⟩
 rw [ite_f hc58] at hb51
 obtain ⟨b50,hb50,hb51⟩:=bind_some hb51
 rcases Bool.eq_false_or_eq_true (decide ((i_5 : Int) > 0)) with hc71 | hc71
 rw [ite_t hc71] at hb50
 obtain ⟨x31,hx31,hb50⟩:=bind_some hb50
 obtain ⟨x41,hx41,hb50⟩:=bind_some hb50
 obtain ⟨x48,hx48,hb50⟩:=bind_some hb50
 refine W_drawS 28 [isV (Pq g21 1),isV (I x_8.lit),isV (Bo x29),isV (Bo (!x29)),isV (Bo (!x29)),isV (undef),isV (undef),isV (undef),isV (Bo ((!x29) || (decide (x_8.coef < 1)))),isV (Bo ((!x29) || (decide (x_8.coef < 1)))),isV (undef),isV (undef),isV (undef),isV (Bo (((!x29) || (decide (x_8.coef < 1))) || (decide (x_8.coef > 1000)))),isV (Bo (((!x29) || (decide (x_8.coef < 1))) || (decide (x_8.coef > 1000)))),isV (I i_5),isV (Bo (decide ((i_5 : Int) > 0))),isV (Bo (decide ((i_5 : Int) > 0))),isV (Pt g3),isV (v0_0),isV (I i_5),isV (I (i64 ((i_5 : Int) - 1))),isEl rTerm x31 0,isEl rTerm x31 1,isV (I x31.lit),isV (I x41),isV (Pq g21 1),isV (I x_8.lit)] [box g21 117 #[I x_8.coef,I x_8.lit],box g3 41 #[v0_0,I c.bound]] [] ([]) [([],[]),([],[]),([],[]),([],[]),([],[]),([],[]),([],[]),([],[]),([],[]),([],[]),([],[]),([],[]),([],[]),([],[]),([],[]),([],[]),([],[]),([],[]),([],[]),([],[]),([],[]),([],[]),([],[]),([],[]),([],[]),([],[]),([],[]),([],[])] (S:=[]) Try_mix (by kernel_rfl) rfl (by kernel_rfl) (amF_cons (mono_V _) (amF_cons (mono_V _) (amF_cons (mono_V _) (amF_cons (mono_V _) (amF_cons (mono_V _) (amF_cons (mono_V _) (amF_cons (mono_V _) (amF_cons (mono_V _) (amF_cons (mono_V _) (amF_cons (mono_V _) (amF_cons (mono_V _) (amF_cons (mono_V _) (amF_cons (mono_V _) (amF_cons (mono_V _) (amF_cons (mono_V _) (amF_cons (mono_V _) (amF_cons (mono_V _) (amF_cons (mono_V _) (amF_cons (mono_V _) (amF_cons (mono_V _) (amF_cons (mono_V _) (amF_cons (mono_V _) (amF_cons (mono_el _ _ _) (amF_cons (mono_el _ _ _) (amF_cons (mono_V _) (amF_cons (mono_V _) (amF_cons (mono_V _) (amF_cons (mono_V _) amF_nil)))))))))))))))))))))))))))) hst ?_ (fun f w_ H52 hS52 hE52 hT52 hst=>?_)
 refine opsS_cons (fun f w_ _ _ s _ _ hst=>fA 1 fa_117_1 ((s 4 rfl).trans rfl) rfl (nO rfl rfl hst)) (opsS_cons (fun f w_ _ _ _ _ p hst=>ldB 0 hst Try.isAgg3 (p 0 17 rfl rfl) rfl rfl (nO rfl rfl hst)) (opsS_cons ?_ ?_))
 intro f w_ H52 X52 hS52 hE52 hP52 hst
 obtain ⟨H88b,l89,s90,z91,k92⟩:=hst.borrow
 refine L_call rfl Try.call98 (ops1 (hP52 1 18 rfl rfl)) (s_l1Lit_c (n_:=x_8.lit) s90 hx29) ?_
 rintro _ w93 ⟨rfl,hst⟩
 have hst:=k92 hst c0
 exact L_nil ⟨rfl,_,_,rfl,Le.refl _,fun _ _=>rfl,hst⟩
 refine opsS_cons (fun f w_ _ _ _ _ p hst=>L_not_ rfl (p 2 19 rfl rfl) (nO rfl rfl hst)) (opsS_cons (fun f w_ _ _ _ _ p hst=>mF (p 3 20 rfl rfl) rfl (nO rfl rfl hst)) (oP (fun _ _ p=>gN (p 4 21 rfl rfl) hc56 rfl) (fun _=>rfl) (oP (fun _ _ p=>gN (p 4 21 rfl rfl) hc56 rfl) (fun _=>rfl) (oP (fun _ _ p=>gN (p 4 21 rfl rfl) hc56 rfl) (fun _=>rfl) (opsS_cons (fun f w_ _ _ _ _ p hst=>pkT (v:=Bo ((!x29) || (decide (x_8.coef < 1)))) (p 4 21 rfl rfl) hc56 rfl (or_t hc56) (nO rfl rfl hst)) (opsS_cons (fun f w_ _ _ _ _ p hst=>mF (p 8 25 rfl rfl) rfl (nO rfl rfl hst)) (oP (fun _ _ p=>gN (p 9 26 rfl rfl) hc57 rfl) (fun _=>rfl) (oP (fun _ _ p=>gN (p 9 26 rfl rfl) hc57 rfl) (fun _=>rfl) (oP (fun _ _ p=>gN (p 9 26 rfl rfl) hc57 rfl) (fun _=>rfl) (opsS_cons (fun f w_ _ _ _ _ p hst=>pkT (v:=Bo (((!x29) || (decide (x_8.coef < 1))) || (decide (x_8.coef > 1000)))) (p 9 26 rfl rfl) hc57 rfl (or_t hc57) (nO rfl rfl hst)) (opsS_cons (fun f w_ _ _ _ _ p hst=>mF (p 13 30 rfl rfl) rfl (nO rfl rfl hst)) (opsS_cons (fun f w_ _ _ s _ p hst=>L_mv (v:=I i_5) (g_yes rfl (Eq.trans (p 14 31 rfl rfl) (congrArg Value.bool hc58)) rfl) ((s 3 rfl).trans sf3) (nO rfl rfl hst)) (opsS_cons (fun f w_ _ _ _ _ p hst=>L_gtr (g_yes rfl (Eq.trans (p 14 31 rfl rfl) (congrArg Value.bool hc58)) rfl) (p 15 32 rfl rfl) rfl (nO rfl rfl hst)) (opsS_cons (fun f w_ _ _ _ _ p hst=>L_mv (v:=Bo (decide ((i_5 : Int) > 0))) (g_yes rfl (Eq.trans (p 14 31 rfl rfl) (congrArg Value.bool hc58)) rfl) (p 16 33 rfl rfl) (nO rfl rfl hst)) (opsS_cons (fun f w_ _ _ s _ p hst=>L_fa (o':=0) (g_yes rfl (Eq.trans (p 17 34 rfl rfl) (congrArg Value.bool hc71)) rfl) fa_41_0 ((s 1 rfl).trans sf1) rfl (nO rfl rfl hst)) (opsS_cons (fun f w_ _ _ _ _ p hst=>L_ld (v:=v0_0) (g_yes rfl (Eq.trans (p 17 34 rfl rfl) (congrArg Value.bool hc71)) rfl) Try.isAgg39 (p 18 35 rfl rfl) (At.cell0 (Blk.at (Star.blkAt 1 hst rfl)) (j:=0) rfl) (nO rfl rfl hst)) (opsS_cons (fun f w_ _ _ s _ p hst=>L_mv (v:=I i_5) (g_yes rfl (Eq.trans (p 17 34 rfl rfl) (congrArg Value.bool hc71)) rfl) ((s 3 rfl).trans sf3) (nO rfl rfl hst)) (opsS_cons (fun f w_ _ _ _ _ p hst=>L_sub (g_yes rfl (Eq.trans (p 17 34 rfl rfl) (congrArg Value.bool hc71)) rfl) (p 20 37 rfl rfl) rfl (nO rfl rfl hst)) (opsS_cons ?_ ?_)))))))))))))))))))
 intro f w_ H52 X52 hS52 hE52 hP52 hst
 refine L_ix (r:=rTerm) (g_yes rfl (Eq.trans (hP52 17 34 rfl rfl) (congrArg Value.bool hc71)) rfl) Try.underlying39 Try.sizeOf117 (hP52 19 36 rfl rfl) (RP.mono _ h0_0 (Le.trans l7 hE52)) (hP52 21 38 rfl rfl) hx31 (fun g94 o95 cs_g94 hrk_hat96 hat96=>?_)
 obtain rfl:=rTerm_iff.1 hrk_hat96
 exact L_nil ⟨rfl,_,_,rfl,Le.refl _,fun _ _=>⟨_,_,_,rfl,hrk_hat96,hat96⟩,hst⟩
 refine opsS_cons ?_ ?_
 intro f w_ H52 X52 hS52 hE52 hP52 hst
 obtain ⟨g98,o98,cs98,hv98,hrk_hat98,hat98⟩:=(hP52 22 39 rfl rfl)
 obtain rfl:=rTerm_iff.1 hrk_hat98
 refine L_fa (o':=o98 + 1) (g_yes rfl (Eq.trans (hP52 17 34 rfl rfl) (congrArg Value.bool hc71)) rfl) fa_117_1 hv98 rfl (L_nil ⟨rfl,_,_,rfl,Le.refl _,fun _ _=>⟨_,_,_,rfl,hrk_hat98,hat98⟩,hst⟩)
 refine opsS_cons ?_ ?_
 intro f w_ H52 X52 hS52 hE52 hP52 hst
 obtain ⟨g100,o100,cs100,hv100,hrk_hat100,hat100⟩:=(hP52 23 40 rfl rfl)
 obtain rfl:=rTerm_iff.1 hrk_hat100
 refine L_ld (v:=I x31.lit) (g_yes rfl (Eq.trans (hP52 17 34 rfl rfl) (congrArg Value.bool hc71)) rfl) Try.isAgg3 hv100 (At.cell (AtH.at hat100 hst.sub) (j:=1) rfl) (L_nil ⟨rfl,_,_,rfl,Le.refl _,fun _ _=>rfl,hst⟩)
 refine opsS_cons ?_ ?_
 intro f w_ H52 X52 hS52 hE52 hP52 hst
 obtain ⟨H102b,l103,s104,z105,k106⟩:=hst.borrow
 refine L_call (g_yes rfl (Eq.trans (hP52 17 34 rfl rfl) (congrArg Value.bool hc71)) rfl) Try.call99 (ops1 (hP52 24 41 rfl rfl)) (s_l1Abs_c (n_:=x31.lit) s104 hx41) ?_
 rintro _ w107 ⟨rfl,hst⟩
 have hst:=k106 hst c0
 exact L_nil ⟨rfl,_,_,rfl,Le.refl _,fun _ _=>rfl,hst⟩
 refine opsS_cons (fun f w_ _ _ s _ p hst=>L_fa (o':=1) (g_yes rfl (Eq.trans (p 17 34 rfl rfl) (congrArg Value.bool hc71)) rfl) fa_117_1 ((s 4 rfl).trans rfl) rfl (nO rfl rfl hst)) (opsS_cons (fun f w_ _ _ _ _ p hst=>L_ld (v:=I x_8.lit) (g_yes rfl (Eq.trans (p 17 34 rfl rfl) (congrArg Value.bool hc71)) rfl) Try.isAgg3 (p 26 43 rfl rfl) (At.cell0 (Blk.at (Star.blkAt 0 hst rfl)) (j:=1) rfl) (nO rfl rfl hst)) (opsS_nil))
 obtain ⟨H108b,l109,s110,z111,k112⟩:=hst.borrow
 refine L_call (g_yes rfl (Eq.trans (hT52 17 34 rfl rfl) (congrArg Value.bool hc71)) rfl) Try.call99 (ops1 (hT52 27 44 rfl rfl)) (s_l1Abs_c (n_:=x_8.lit) s110 hx48) ?_
 rintro _ w113 ⟨rfl,hst⟩
 have hst:=k112 hst c0
 refine L_geq (g_yes rfl (Eq.trans (hT52 17 34 rfl rfl) (congrArg Value.bool hc71)) rfl) (hT52 25 42 rfl rfl) rfl (L_pick (v:=Bo b50) (g_yes rfl (Eq.trans (hT52 14 31 rfl rfl) (congrArg Value.bool hc58)) rfl) (Eq.trans (hT52 17 34 rfl rfl) (congrArg Value.bool hc71)) (congrArg Value.bool (so hb50)) (L_pick (v:=Bo b51) rfl (Eq.trans (hT52 14 31 rfl rfl) (congrArg Value.bool hc58)) (congrArg Value.bool (so hb51)) (nn ?_)))
 have hst:=hst.get 1 rfl
 exact rj hR55 ⟨H52,hE52,((hS52 1 rfl).trans sf1),((hS52 3 rfl).trans sf3),rfl,(Star.keepN 1 hst)⟩
 rw [ite_f hc71] at hb50
 refine W_drawS 28 [isV (Pq g21 1),isV (I x_8.lit),isV (Bo x29),isV (Bo (!x29)),isV (Bo (!x29)),isV (undef),isV (undef),isV (undef),isV (Bo ((!x29) || (decide (x_8.coef < 1)))),isV (Bo ((!x29) || (decide (x_8.coef < 1)))),isV (undef),isV (undef),isV (undef),isV (Bo (((!x29) || (decide (x_8.coef < 1))) || (decide (x_8.coef > 1000)))),isV (Bo (((!x29) || (decide (x_8.coef < 1))) || (decide (x_8.coef > 1000)))),isV (I i_5),isV (Bo (decide ((i_5 : Int) > 0))),isV (Bo (decide ((i_5 : Int) > 0))),isV (undef),isV (undef),isV (undef),isV (undef),isV (undef),isV (undef),isV (undef),isV (undef),isV (undef),isV (undef)] [box g21 117 #[I x_8.coef,I x_8.lit],box g3 41 #[v0_0,I c.bound]] [] ([]) [([],[]),([],[]),([],[]),([],[]),([],[]),([],[]),([],[]),([],[]),([],[]),([],[]),([],[]),([],[]),([],[]),([],[]),([],[]),([],[]),([],[]),([],[]),([],[]),([],[]),([],[]),([],[]),([],[]),([],[]),([],[]),([],[]),([],[]),([],[])] (S:=[]) Try_mix (by kernel_rfl) rfl (by kernel_rfl) (amF_cons (mono_V _) (amF_cons (mono_V _) (amF_cons (mono_V _) (amF_cons (mono_V _) (amF_cons (mono_V _) (amF_cons (mono_V _) (amF_cons (mono_V _) (amF_cons (mono_V _) (amF_cons (mono_V _) (amF_cons (mono_V _) (amF_cons (mono_V _) (amF_cons (mono_V _) (amF_cons (mono_V _) (amF_cons (mono_V _) (amF_cons (mono_V _) (amF_cons (mono_V _) (amF_cons (mono_V _) (amF_cons (mono_V _) (amF_cons (mono_V _) (amF_cons (mono_V _) (amF_cons (mono_V _) (amF_cons (mono_V _) (amF_cons (mono_V _) (amF_cons (mono_V _) (amF_cons (mono_V _) (amF_cons (mono_V _) (amF_cons (mono_V _) (amF_cons (mono_V _) amF_nil)))))))))))))))))))))))))))) hst ?_ (fun f w_ H52 hS52 hE52 hT52 hst=>?_)
 refine opsS_cons (fun f w_ _ _ s _ _ hst=>fA 1 fa_117_1 ((s 4 rfl).trans rfl) rfl (nO rfl rfl hst)) (opsS_cons (fun f w_ _ _ _ _ p hst=>ldB 0 hst Try.isAgg3 (p 0 17 rfl rfl) rfl rfl (nO rfl rfl hst)) (opsS_cons ?_ ?_))
 intro f w_ H52 X52 hS52 hE52 hP52 hst
 obtain ⟨H120b,l121,s122,z123,k124⟩:=hst.borrow
 refine L_call rfl Try.call98 (ops1 (hP52 1 18 rfl rfl)) (s_l1Lit_c (n_:=x_8.lit) s122 hx29) ?_
 rintro _ w125 ⟨rfl,hst⟩
 have hst:=k124 hst c0
 exact L_nil ⟨rfl,_,_,rfl,Le.refl _,fun _ _=>rfl,hst⟩
 refine opsS_cons (fun f w_ _ _ _ _ p hst=>L_not_ rfl (p 2 19 rfl rfl) (nO rfl rfl hst)) (opsS_cons (fun f w_ _ _ _ _ p hst=>mF (p 3 20 rfl rfl) rfl (nO rfl rfl hst)) (oP (fun _ _ p=>gN (p 4 21 rfl rfl) hc56 rfl) (fun _=>rfl) (oP (fun _ _ p=>gN (p 4 21 rfl rfl) hc56 rfl) (fun _=>rfl) (oP (fun _ _ p=>gN (p 4 21 rfl rfl) hc56 rfl) (fun _=>rfl) (opsS_cons (fun f w_ _ _ _ _ p hst=>pkT (v:=Bo ((!x29) || (decide (x_8.coef < 1)))) (p 4 21 rfl rfl) hc56 rfl (or_t hc56) (nO rfl rfl hst)) (opsS_cons (fun f w_ _ _ _ _ p hst=>mF (p 8 25 rfl rfl) rfl (nO rfl rfl hst)) (oP (fun _ _ p=>gN (p 9 26 rfl rfl) hc57 rfl) (fun _=>rfl) (oP (fun _ _ p=>gN (p 9 26 rfl rfl) hc57 rfl) (fun _=>rfl) (oP (fun _ _ p=>gN (p 9 26 rfl rfl) hc57 rfl) (fun _=>rfl) (opsS_cons (fun f w_ _ _ _ _ p hst=>pkT (v:=Bo (((!x29) || (decide (x_8.coef < 1))) || (decide (x_8.coef > 1000)))) (p 9 26 rfl rfl) hc57 rfl (or_t hc57) (nO rfl rfl hst)) (opsS_cons (fun f w_ _ _ _ _ p hst=>mF (p 13 30 rfl rfl) rfl (nO rfl rfl hst)) (opsS_cons (fun f w_ _ _ s _ p hst=>L_mv (v:=I i_5) (g_yes rfl (Eq.trans (p 14 31 rfl rfl) (congrArg Value.bool hc58)) rfl) ((s 3 rfl).trans sf3) (nO rfl rfl hst)) (opsS_cons (fun f w_ _ _ _ _ p hst=>L_gtr (g_yes rfl (Eq.trans (p 14 31 rfl rfl) (congrArg Value.bool hc58)) rfl) (p 15 32 rfl rfl) rfl (nO rfl rfl hst)) (opsS_cons (fun f w_ _ _ _ _ p hst=>L_mv (v:=Bo (decide ((i_5 : Int) > 0))) (g_yes rfl (Eq.trans (p 14 31 rfl rfl) (congrArg Value.bool hc58)) rfl) (p 16 33 rfl rfl) (nO rfl rfl hst)) (oP (fun _ _ p=>gN (p 17 34 rfl rfl) hc71 rfl) (fun _=>rfl) (oP (fun _ _ p=>gN (p 17 34 rfl rfl) hc71 rfl) (fun _=>rfl) (oP (fun _ _ p=>gN (p 17 34 rfl rfl) hc71 rfl) (fun _=>rfl) (oP (fun _ _ p=>gN (p 17 34 rfl rfl) hc71 rfl) (fun _=>rfl) (oP (fun _ _ p=>gN (p 17 34 rfl rfl) hc71 rfl) (fun _=>rfl) (oP (fun _ _ p=>gN (p 17 34 rfl rfl) hc71 rfl) (fun _=>rfl) (oP (fun _ _ p=>gN (p 17 34 rfl rfl) hc71 rfl) (fun _=>rfl) (oP (fun _ _ p=>gN (p 17 34 rfl rfl) hc71 rfl) (fun _=>rfl) (oP (fun _ _ p=>gN (p 17 34 rfl rfl) hc71 rfl) (fun _=>rfl) (oP (fun _ _ p=>gN (p 17 34 rfl rfl) hc71 rfl) (fun _=>rfl) (opsS_nil)))))))))))))))))))))))))
 refine ps (g_no rfl (Eq.trans (hT52 17 34 rfl rfl) (congrArg Value.bool hc71)) rfl rfl) (ps (g_no rfl (Eq.trans (hT52 17 34 rfl rfl) (congrArg Value.bool hc71)) rfl rfl) (L_pick (v:=Bo b50) (g_yes rfl (Eq.trans (hT52 14 31 rfl rfl) (congrArg Value.bool hc58)) rfl) (Eq.trans (hT52 17 34 rfl rfl) (congrArg Value.bool hc71)) (congrArg Value.bool (so hb50)) (L_pick (v:=Bo b51) rfl (Eq.trans (hT52 14 31 rfl rfl) (congrArg Value.bool hc58)) (congrArg Value.bool (so hb51)) (nn ?_))))
 have hst:=hst.get 1 rfl
 exact rj hR55 ⟨H52,hE52,((hS52 1 rfl).trans sf1),((hS52 3 rfl).trans sf3),rfl,(Star.keepN 1 hst)⟩
 rcases Bool.eq_false_or_eq_true (((!x29) || (decide (x_8.coef < 1))) || (decide (x_8.coef > 1000))) with hc126 | hc126
 rw [ite_t hc126] at hb51
 refine W_drawS 28 [isV (Pq g21 1),isV (I x_8.lit),isV (Bo x29),isV (Bo (!x29)),isV (Bo (!x29)),isV (undef),isV (undef),isV (undef),isV (Bo ((!x29) || (decide (x_8.coef < 1)))),isV (Bo ((!x29) || (decide (x_8.coef < 1)))),isV (Pt g21),isV (I x_8.coef),isV (Bo (decide (x_8.coef > 1000))),isV (Bo (((!x29) || (decide (x_8.coef < 1))) || (decide (x_8.coef > 1000)))),isV (Bo (((!x29) || (decide (x_8.coef < 1))) || (decide (x_8.coef > 1000)))),isV (undef),isV (undef),isV (undef),isV (undef),isV (undef),isV (undef),isV (undef),isV (undef),isV (undef),isV (undef),isV (undef),isV (undef),isV (undef)] [box g21 117 #[I x_8.coef,I x_8.lit],box g3 41 #[v0_0,I c.bound]] [] ([]) [([],[]),([],[]),([],[]),([],[]),([],[]),([],[]),([],[]),([],[]),([],[]),([],[]),([],[]),([],[]),([],[]),([],[]),([],[]),([],[]),([],[]),([],[]),([],[]),([],[]),([],[]),([],[]),([],[]),([],[]),([],[]),([],[]),([],[]),([],[])] (S:=[]) Try_mix (by kernel_rfl) rfl (by kernel_rfl) (amF_cons (mono_V _) (amF_cons (mono_V _) (amF_cons (mono_V _) (amF_cons (mono_V _) (amF_cons (mono_V _) (amF_cons (mono_V _) (amF_cons (mono_V _) (amF_cons (mono_V _) (amF_cons (mono_V _) (amF_cons (mono_V _) (amF_cons (mono_V _) (amF_cons (mono_V _) (amF_cons (mono_V _) (amF_cons (mono_V _) (amF_cons (mono_V _) (amF_cons (mono_V _) (amF_cons (mono_V _) (amF_cons (mono_V _) (amF_cons (mono_V _) (amF_cons (mono_V _) (amF_cons (mono_V _) (amF_cons (mono_V _) (amF_cons (mono_V _) (amF_cons (mono_V _) (amF_cons (mono_V _) (amF_cons (mono_V _) (amF_cons (mono_V _) (amF_cons (mono_V _) amF_nil)))))))))))))))))))))))))))) hst ?_ (fun f w_ H52 hS52 hE52 hT52 hst=>?_)
 refine opsS_cons (fun f w_ _ _ s _ _ hst=>fA 1 fa_117_1 ((s 4 rfl).trans rfl) rfl (nO rfl rfl hst)) (opsS_cons (fun f w_ _ _ _ _ p hst=>ldB 0 hst Try.isAgg3 (p 0 17 rfl rfl) rfl rfl (nO rfl rfl hst)) (opsS_cons ?_ ?_))
 intro f w_ H52 X52 hS52 hE52 hP52 hst
 obtain ⟨H133b,l134,s135,z136,k137⟩:=hst.borrow
 refine L_call rfl Try.call98 (ops1 (hP52 1 18 rfl rfl)) (s_l1Lit_c (n_:=x_8.lit) s135 hx29) ?_
 rintro _ w138 ⟨rfl,hst⟩
 have hst:=k137 hst c0
 exact L_nil ⟨rfl,_,_,rfl,Le.refl _,fun _ _=>rfl,hst⟩
 refine opsS_cons (fun f w_ _ _ _ _ p hst=>L_not_ rfl (p 2 19 rfl rfl) (nO rfl rfl hst)) (opsS_cons (fun f w_ _ _ _ _ p hst=>mF (p 3 20 rfl rfl) rfl (nO rfl rfl hst)) (oP (fun _ _ p=>gN (p 4 21 rfl rfl) hc56 rfl) (fun _=>rfl) (oP (fun _ _ p=>gN (p 4 21 rfl rfl) hc56 rfl) (fun _=>rfl) (oP (fun _ _ p=>gN (p 4 21 rfl rfl) hc56 rfl) (fun _=>rfl) (opsS_cons (fun f w_ _ _ _ _ p hst=>pkT (v:=Bo ((!x29) || (decide (x_8.coef < 1)))) (p 4 21 rfl rfl) hc56 rfl (or_t hc56) (nO rfl rfl hst)) (opsS_cons (fun f w_ _ _ _ _ p hst=>mF (p 8 25 rfl rfl) rfl (nO rfl rfl hst)) (opsS_cons (fun f w_ _ _ s _ p hst=>L_fa (o':=0) (g_yes rfl (Eq.trans (p 9 26 rfl rfl) (congrArg Value.bool hc57)) rfl) fa_117_0 ((s 4 rfl).trans rfl) rfl (nO rfl rfl hst)) (opsS_cons (fun f w_ _ _ _ _ p hst=>L_ld (v:=I x_8.coef) (g_yes rfl (Eq.trans (p 9 26 rfl rfl) (congrArg Value.bool hc57)) rfl) Try.isAgg3 (p 10 27 rfl rfl) (At.cell0 (Blk.at (Star.blkAt 0 hst rfl)) (j:=0) rfl) (nO rfl rfl hst)) (opsS_cons (fun f w_ _ _ _ _ p hst=>L_gtr (g_yes rfl (Eq.trans (p 9 26 rfl rfl) (congrArg Value.bool hc57)) rfl) (p 11 28 rfl rfl) rfl (nO rfl rfl hst)) (opsS_cons (fun f w_ _ _ _ _ p hst=>pkT (v:=Bo (((!x29) || (decide (x_8.coef < 1))) || (decide (x_8.coef > 1000)))) (p 9 26 rfl rfl) hc57 rfl (or_f hc57 (p 12 29 rfl rfl)) (nO rfl rfl hst)) (opsS_cons (fun f w_ _ _ _ _ p hst=>mF (p 13 30 rfl rfl) rfl (nO rfl rfl hst)) (oP (fun _ _ p=>gN (p 14 31 rfl rfl) hc126 rfl) (fun _=>rfl) (oP (fun _ _ p=>gN (p 14 31 rfl rfl) hc126 rfl) (fun _=>rfl) (oP (fun _ _ p=>gN (p 14 31 rfl rfl) hc126 rfl) (fun _=>rfl) (oP (fun _ _ p=>g_undef rfl (p 17 34 rfl rfl) rfl) (fun _=>rfl) (oP (fun _ _ p=>g_undef rfl (p 17 34 rfl rfl) rfl) (fun _=>rfl) (oP (fun _ _ p=>g_undef rfl (p 17 34 rfl rfl) rfl) (fun _=>rfl) (oP (fun _ _ p=>g_undef rfl (p 17 34 rfl rfl) rfl) (fun _=>rfl) (oP (fun _ _ p=>g_undef rfl (p 17 34 rfl rfl) rfl) (fun _=>rfl) (oP (fun _ _ p=>g_undef rfl (p 17 34 rfl rfl) rfl) (fun _=>rfl) (oP (fun _ _ p=>g_undef rfl (p 17 34 rfl rfl) rfl) (fun _=>rfl) (oP (fun _ _ p=>g_undef rfl (p 17 34 rfl rfl) rfl) (fun _=>rfl) (oP (fun _ _ p=>g_undef rfl (p 17 34 rfl rfl) rfl) (fun _=>rfl) (oP (fun _ _ p=>g_undef rfl (p 17 34 rfl rfl) rfl) (fun _=>rfl) (opsS_nil)))))))))))))))))))))))))
 refine ps (g_undef rfl (hT52 17 34 rfl rfl) rfl) (ps (g_undef rfl (hT52 17 34 rfl rfl) rfl) (ps (g_no rfl (Eq.trans (hT52 14 31 rfl rfl) (congrArg Value.bool hc126)) rfl rfl) (L_pick (v:=Bo b51) rfl (Eq.trans (hT52 14 31 rfl rfl) (congrArg Value.bool hc126)) (congrArg Value.bool (so hb51)) (nn ?_))))
 have hst:=hst.get 1 rfl
 exact rj hR55 ⟨H52,hE52,((hS52 1 rfl).trans sf1),((hS52 3 rfl).trans sf3),rfl,(Star.keepN 1 hst)⟩
 rw [ite_f hc126] at hb51
 obtain ⟨b50,hb50,hb51⟩:=bind_some hb51
 rcases Bool.eq_false_or_eq_true (decide ((i_5 : Int) > 0)) with hc139 | hc139
 rw [ite_t hc139] at hb50
 obtain ⟨x31,hx31,hb50⟩:=bind_some hb50
 obtain ⟨x41,hx41,hb50⟩:=bind_some hb50
 obtain ⟨x48,hx48,hb50⟩:=bind_some hb50
 refine W_drawS 28 [isV (Pq g21 1),isV (I x_8.lit),isV (Bo x29),isV (Bo (!x29)),isV (Bo (!x29)),isV (undef),isV (undef),isV (undef),isV (Bo ((!x29) || (decide (x_8.coef < 1)))),isV (Bo ((!x29) || (decide (x_8.coef < 1)))),isV (Pt g21),isV (I x_8.coef),isV (Bo (decide (x_8.coef > 1000))),isV (Bo (((!x29) || (decide (x_8.coef < 1))) || (decide (x_8.coef > 1000)))),isV (Bo (((!x29) || (decide (x_8.coef < 1))) || (decide (x_8.coef > 1000)))),isV (I i_5),isV (Bo (decide ((i_5 : Int) > 0))),isV (Bo (decide ((i_5 : Int) > 0))),isV (Pt g3),isV (v0_0),isV (I i_5),isV (I (i64 ((i_5 : Int) - 1))),isEl rTerm x31 0,isEl rTerm x31 1,isV (I x31.lit),isV (I x41),isV (Pq g21 1),isV (I x_8.lit)] [box g21 117 #[I x_8.coef,I x_8.lit],box g3 41 #[v0_0,I c.bound]] [] ([]) [([],[]),([],[]),([],[]),([],[]),([],[]),([],[]),([],[]),([],[]),([],[]),([],[]),([],[]),([],[]),([],[]),([],[]),([],[]),([],[]),([],[]),([],[]),([],[]),([],[]),([],[]),([],[]),([],[]),([],[]),([],[]),([],[]),([],[]),([],[])] (S:=[]) Try_mix (by kernel_rfl) rfl (by kernel_rfl) (amF_cons (mono_V _) (amF_cons (mono_V _) (amF_cons (mono_V _) (amF_cons (mono_V _) (amF_cons (mono_V _) (amF_cons (mono_V _) (amF_cons (mono_V _) (amF_cons (mono_V _) (amF_cons (mono_V _) (amF_cons (mono_V _) (amF_cons (mono_V _) (amF_cons (mono_V _) (amF_cons (mono_V _) (amF_cons (mono_V _) (amF_cons (mono_V _) (amF_cons (mono_V _) (amF_cons (mono_V _) (amF_cons (mono_V _) (amF_cons (mono_V _) (amF_cons (mono_V _) (amF_cons (mono_V _) (amF_cons (mono_V _) (amF_cons (mono_el _ _ _) (amF_cons (mono_el _ _ _) (amF_cons (mono_V _) (amF_cons (mono_V _) (amF_cons (mono_V _) (amF_cons (mono_V _) amF_nil)))))))))))))))))))))))))))) hst ?_ (fun f w_ H52 hS52 hE52 hT52 hst=>?_)
 refine opsS_cons (fun f w_ _ _ s _ _ hst=>fA 1 fa_117_1 ((s 4 rfl).trans rfl) rfl (nO rfl rfl hst)) (opsS_cons (fun f w_ _ _ _ _ p hst=>ldB 0 hst Try.isAgg3 (p 0 17 rfl rfl) rfl rfl (nO rfl rfl hst)) (opsS_cons ?_ ?_))
 intro f w_ H52 X52 hS52 hE52 hP52 hst
 obtain ⟨H156b,l157,s158,z159,k160⟩:=hst.borrow
 refine L_call rfl Try.call98 (ops1 (hP52 1 18 rfl rfl)) (s_l1Lit_c (n_:=x_8.lit) s158 hx29) ?_
 rintro _ w161 ⟨rfl,hst⟩
 have hst:=k160 hst c0
 exact L_nil ⟨rfl,_,_,rfl,Le.refl _,fun _ _=>rfl,hst⟩
 refine opsS_cons (fun f w_ _ _ _ _ p hst=>L_not_ rfl (p 2 19 rfl rfl) (nO rfl rfl hst)) (opsS_cons (fun f w_ _ _ _ _ p hst=>mF (p 3 20 rfl rfl) rfl (nO rfl rfl hst)) (oP (fun _ _ p=>gN (p 4 21 rfl rfl) hc56 rfl) (fun _=>rfl) (oP (fun _ _ p=>gN (p 4 21 rfl rfl) hc56 rfl) (fun _=>rfl) (oP (fun _ _ p=>gN (p 4 21 rfl rfl) hc56 rfl) (fun _=>rfl) (opsS_cons (fun f w_ _ _ _ _ p hst=>pkT (v:=Bo ((!x29) || (decide (x_8.coef < 1)))) (p 4 21 rfl rfl) hc56 rfl (or_t hc56) (nO rfl rfl hst)) (opsS_cons (fun f w_ _ _ _ _ p hst=>mF (p 8 25 rfl rfl) rfl (nO rfl rfl hst)) (opsS_cons (fun f w_ _ _ s _ p hst=>L_fa (o':=0) (g_yes rfl (Eq.trans (p 9 26 rfl rfl) (congrArg Value.bool hc57)) rfl) fa_117_0 ((s 4 rfl).trans rfl) rfl (nO rfl rfl hst)) (opsS_cons (fun f w_ _ _ _ _ p hst=>L_ld (v:=I x_8.coef) (g_yes rfl (Eq.trans (p 9 26 rfl rfl) (congrArg Value.bool hc57)) rfl) Try.isAgg3 (p 10 27 rfl rfl) (At.cell0 (Blk.at (Star.blkAt 0 hst rfl)) (j:=0) rfl) (nO rfl rfl hst)) (opsS_cons (fun f w_ _ _ _ _ p hst=>L_gtr (g_yes rfl (Eq.trans (p 9 26 rfl rfl) (congrArg Value.bool hc57)) rfl) (p 11 28 rfl rfl) rfl (nO rfl rfl hst)) (opsS_cons (fun f w_ _ _ _ _ p hst=>pkT (v:=Bo (((!x29) || (decide (x_8.coef < 1))) || (decide (x_8.coef > 1000)))) (p 9 26 rfl rfl) hc57 rfl (or_f hc57 (p 12 29 rfl rfl)) (nO rfl rfl hst)) (opsS_cons (fun f w_ _ _ _ _ p hst=>mF (p 13 30 rfl rfl) rfl (nO rfl rfl hst)) (opsS_cons (fun f w_ _ _ s _ p hst=>L_mv (v:=I i_5) (g_yes rfl (Eq.trans (p 14 31 rfl rfl) (congrArg Value.bool hc126)) rfl) ((s 3 rfl).trans sf3) (nO rfl rfl hst)) (opsS_cons (fun f w_ _ _ _ _ p hst=>L_gtr (g_yes rfl (Eq.trans (p 14 31 rfl rfl) (congrArg Value.bool hc126)) rfl) (p 15 32 rfl rfl) rfl (nO rfl rfl hst)) (opsS_cons (fun f w_ _ _ _ _ p hst=>L_mv (v:=Bo (decide ((i_5 : Int) > 0))) (g_yes rfl (Eq.trans (p 14 31 rfl rfl) (congrArg Value.bool hc126)) rfl) (p 16 33 rfl rfl) (nO rfl rfl hst)) (opsS_cons (fun f w_ _ _ s _ p hst=>L_fa (o':=0) (g_yes rfl (Eq.trans (p 17 34 rfl rfl) (congrArg Value.bool hc139)) rfl) fa_41_0 ((s 1 rfl).trans sf1) rfl (nO rfl rfl hst)) (opsS_cons (fun f w_ _ _ _ _ p hst=>L_ld (v:=v0_0) (g_yes rfl (Eq.trans (p 17 34 rfl rfl) (congrArg Value.bool hc139)) rfl) Try.isAgg39 (p 18 35 rfl rfl) (At.cell0 (Blk.at (Star.blkAt 1 hst rfl)) (j:=0) rfl) (nO rfl rfl hst)) (opsS_cons (fun f w_ _ _ s _ p hst=>L_mv (v:=I i_5) (g_yes rfl (Eq.trans (p 17 34 rfl rfl) (congrArg Value.bool hc139)) rfl) ((s 3 rfl).trans sf3) (nO rfl rfl hst)) (opsS_cons (fun f w_ _ _ _ _ p hst=>L_sub (g_yes rfl (Eq.trans (p 17 34 rfl rfl) (congrArg Value.bool hc139)) rfl) (p 20 37 rfl rfl) rfl (nO rfl rfl hst)) (opsS_cons ?_ ?_)))))))))))))))))))
 intro f w_ H52 X52 hS52 hE52 hP52 hst
 refine L_ix (r:=rTerm) (g_yes rfl (Eq.trans (hP52 17 34 rfl rfl) (congrArg Value.bool hc139)) rfl) Try.underlying39 Try.sizeOf117 (hP52 19 36 rfl rfl) (RP.mono _ h0_0 (Le.trans l7 hE52)) (hP52 21 38 rfl rfl) hx31 (fun g162 o163 cs_g162 hrk_hat164 hat164=>?_)
 obtain rfl:=rTerm_iff.1 hrk_hat164
 exact L_nil ⟨rfl,_,_,rfl,Le.refl _,fun _ _=>⟨_,_,_,rfl,hrk_hat164,hat164⟩,hst⟩
 refine opsS_cons ?_ ?_
 intro f w_ H52 X52 hS52 hE52 hP52 hst
 obtain ⟨g166,o166,cs166,hv166,hrk_hat166,hat166⟩:=(hP52 22 39 rfl rfl)
 obtain rfl:=rTerm_iff.1 hrk_hat166
 refine L_fa (o':=o166 + 1) (g_yes rfl (Eq.trans (hP52 17 34 rfl rfl) (congrArg Value.bool hc139)) rfl) fa_117_1 hv166 rfl (L_nil ⟨rfl,_,_,rfl,Le.refl _,fun _ _=>⟨_,_,_,rfl,hrk_hat166,hat166⟩,hst⟩)
 refine opsS_cons ?_ ?_
 intro f w_ H52 X52 hS52 hE52 hP52 hst
 obtain ⟨g168,o168,cs168,hv168,hrk_hat168,hat168⟩:=(hP52 23 40 rfl rfl)
 obtain rfl:=rTerm_iff.1 hrk_hat168
 refine L_ld (v:=I x31.lit) (g_yes rfl (Eq.trans (hP52 17 34 rfl rfl) (congrArg Value.bool hc139)) rfl) Try.isAgg3 hv168 (At.cell (AtH.at hat168 hst.sub) (j:=1) rfl) (L_nil ⟨rfl,_,_,rfl,Le.refl _,fun _ _=>rfl,hst⟩)
 refine opsS_cons ?_ ?_
 intro f w_ H52 X52 hS52 hE52 hP52 hst
 obtain ⟨H170b,l171,s172,z173,k174⟩:=hst.borrow
 refine L_call (g_yes rfl (Eq.trans (hP52 17 34 rfl rfl) (congrArg Value.bool hc139)) rfl) Try.call99 (ops1 (hP52 24 41 rfl rfl)) (s_l1Abs_c (n_:=x31.lit) s172 hx41) ?_
 rintro _ w175 ⟨rfl,hst⟩
 have hst:=k174 hst c0
 exact L_nil ⟨rfl,_,_,rfl,Le.refl _,fun _ _=>rfl,hst⟩
 refine opsS_cons (fun f w_ _ _ s _ p hst=>L_fa (o':=1) (g_yes rfl (Eq.trans (p 17 34 rfl rfl) (congrArg Value.bool hc139)) rfl) fa_117_1 ((s 4 rfl).trans rfl) rfl (nO rfl rfl hst)) (opsS_cons (fun f w_ _ _ _ _ p hst=>L_ld (v:=I x_8.lit) (g_yes rfl (Eq.trans (p 17 34 rfl rfl) (congrArg Value.bool hc139)) rfl) Try.isAgg3 (p 26 43 rfl rfl) (At.cell0 (Blk.at (Star.blkAt 0 hst rfl)) (j:=1) rfl) (nO rfl rfl hst)) (opsS_nil))
 obtain ⟨H176b,l177,s178,z179,k180⟩:=hst.borrow
 refine L_call (g_yes rfl (Eq.trans (hT52 17 34 rfl rfl) (congrArg Value.bool hc139)) rfl) Try.call99 (ops1 (hT52 27 44 rfl rfl)) (s_l1Abs_c (n_:=x_8.lit) s178 hx48) ?_
 rintro _ w181 ⟨rfl,hst⟩
 have hst:=k180 hst c0
 refine L_geq (g_yes rfl (Eq.trans (hT52 17 34 rfl rfl) (congrArg Value.bool hc139)) rfl) (hT52 25 42 rfl rfl) rfl (L_pick (v:=Bo b50) (g_yes rfl (Eq.trans (hT52 14 31 rfl rfl) (congrArg Value.bool hc126)) rfl) (Eq.trans (hT52 17 34 rfl rfl) (congrArg Value.bool hc139)) (congrArg Value.bool (so hb50)) (L_pick (v:=Bo b51) rfl (Eq.trans (hT52 14 31 rfl rfl) (congrArg Value.bool hc126)) (congrArg Value.bool (so hb51)) (nn ?_)))
 have hst:=hst.get 1 rfl
 exact rj hR55 ⟨H52,hE52,((hS52 1 rfl).trans sf1),((hS52 3 rfl).trans sf3),rfl,(Star.keepN 1 hst)⟩
 rw [ite_f hc139] at hb50
 refine W_drawS 28 [isV (Pq g21 1),isV (I x_8.lit),isV (Bo x29),isV (Bo (!x29)),isV (Bo (!x29)),isV (undef),isV (undef),isV (undef),isV (Bo ((!x29) || (decide (x_8.coef < 1)))),isV (Bo ((!x29) || (decide (x_8.coef < 1)))),isV (Pt g21),isV (I x_8.coef),isV (Bo (decide (x_8.coef > 1000))),isV (Bo (((!x29) || (decide (x_8.coef < 1))) || (decide (x_8.coef > 1000)))),isV (Bo (((!x29) || (decide (x_8.coef < 1))) || (decide (x_8.coef > 1000)))),isV (I i_5),isV (Bo (decide ((i_5 : Int) > 0))),isV (Bo (decide ((i_5 : Int) > 0))),isV (undef),isV (undef),isV (undef),isV (undef),isV (undef),isV (undef),isV (undef),isV (undef),isV (undef),isV (undef)] [box g21 117 #[I x_8.coef,I x_8.lit],box g3 41 #[v0_0,I c.bound]] [] ([]) [([],[]),([],[]),([],[]),([],[]),([],[]),([],[]),([],[]),([],[]),([],[]),([],[]),([],[]),([],[]),([],[]),([],[]),([],[]),([],[]),([],[]),([],[]),([],[]),([],[]),([],[]),([],[]),([],[]),([],[]),([],[]),([],[]),([],[]),([],[])] (S:=[]) Try_mix (by kernel_rfl) rfl (by kernel_rfl) (amF_cons (mono_V _) (amF_cons (mono_V _) (amF_cons (mono_V _) (amF_cons (mono_V _) (amF_cons (mono_V _) (amF_cons (mono_V _) (amF_cons (mono_V _) (amF_cons (mono_V _) (amF_cons (mono_V _) (amF_cons (mono_V _) (amF_cons (mono_V _) (amF_cons (mono_V _) (amF_cons (mono_V _) (amF_cons (mono_V _) (amF_cons (mono_V _) (amF_cons (mono_V _) (amF_cons (mono_V _) (amF_cons (mono_V _) (amF_cons (mono_V _) (amF_cons (mono_V _) (amF_cons (mono_V _) (amF_cons (mono_V _) (amF_cons (mono_V _) (amF_cons (mono_V _) (amF_cons (mono_V _) (amF_cons (mono_V _) (amF_cons (mono_V _) (amF_cons (mono_V _) amF_nil)))))))))))))))))))))))))))) hst ?_ (fun f w_ H52 hS52 hE52 hT52 hst=>?_)
 refine opsS_cons (fun f w_ _ _ s _ _ hst=>fA 1 fa_117_1 ((s 4 rfl).trans rfl) rfl (nO rfl rfl hst)) (opsS_cons (fun f w_ _ _ _ _ p hst=>ldB 0 hst Try.isAgg3 (p 0 17 rfl rfl) rfl rfl (nO rfl rfl hst)) (opsS_cons ?_ ?_))
 intro f w_ H52 X52 hS52 hE52 hP52 hst
 obtain ⟨H188b,l189,s190,z191,k192⟩:=hst.borrow
 refine L_call rfl Try.call98 (ops1 (hP52 1 18 rfl rfl)) (s_l1Lit_c (n_:=x_8.lit) s190 hx29) ?_
 rintro _ w193 ⟨rfl,hst⟩
 have hst:=k192 hst c0
 exact L_nil ⟨rfl,_,_,rfl,Le.refl _,fun _ _=>rfl,hst⟩
 refine opsS_cons (fun f w_ _ _ _ _ p hst=>L_not_ rfl (p 2 19 rfl rfl) (nO rfl rfl hst)) (opsS_cons (fun f w_ _ _ _ _ p hst=>mF (p 3 20 rfl rfl) rfl (nO rfl rfl hst)) (oP (fun _ _ p=>gN (p 4 21 rfl rfl) hc56 rfl) (fun _=>rfl) (oP (fun _ _ p=>gN (p 4 21 rfl rfl) hc56 rfl) (fun _=>rfl) (oP (fun _ _ p=>gN (p 4 21 rfl rfl) hc56 rfl) (fun _=>rfl) (opsS_cons (fun f w_ _ _ _ _ p hst=>pkT (v:=Bo ((!x29) || (decide (x_8.coef < 1)))) (p 4 21 rfl rfl) hc56 rfl (or_t hc56) (nO rfl rfl hst)) (opsS_cons (fun f w_ _ _ _ _ p hst=>mF (p 8 25 rfl rfl) rfl (nO rfl rfl hst)) (opsS_cons (fun f w_ _ _ s _ p hst=>L_fa (o':=0) (g_yes rfl (Eq.trans (p 9 26 rfl rfl) (congrArg Value.bool hc57)) rfl) fa_117_0 ((s 4 rfl).trans rfl) rfl (nO rfl rfl hst)) (opsS_cons (fun f w_ _ _ _ _ p hst=>L_ld (v:=I x_8.coef) (g_yes rfl (Eq.trans (p 9 26 rfl rfl) (congrArg Value.bool hc57)) rfl) Try.isAgg3 (p 10 27 rfl rfl) (At.cell0 (Blk.at (Star.blkAt 0 hst rfl)) (j:=0) rfl) (nO rfl rfl hst)) (opsS_cons (fun f w_ _ _ _ _ p hst=>L_gtr (g_yes rfl (Eq.trans (p 9 26 rfl rfl) (congrArg Value.bool hc57)) rfl) (p 11 28 rfl rfl) rfl (nO rfl rfl hst)) (opsS_cons (fun f w_ _ _ _ _ p hst=>pkT (v:=Bo (((!x29) || (decide (x_8.coef < 1))) || (decide (x_8.coef > 1000)))) (p 9 26 rfl rfl) hc57 rfl (or_f hc57 (p 12 29 rfl rfl)) (nO rfl rfl hst)) (opsS_cons (fun f w_ _ _ _ _ p hst=>mF (p 13 30 rfl rfl) rfl (nO rfl rfl hst)) (opsS_cons (fun f w_ _ _ s _ p hst=>L_mv (v:=I i_5) (g_yes rfl (Eq.trans (p 14 31 rfl rfl) (congrArg Value.bool hc126)) rfl) ((s 3 rfl).trans sf3) (nO rfl rfl hst)) (opsS_cons (fun f w_ _ _ _ _ p hst=>L_gtr (g_yes rfl (Eq.trans (p 14 31 rfl rfl) (congrArg Value.bool hc126)) rfl) (p 15 32 rfl rfl) rfl (nO rfl rfl hst)) (opsS_cons (fun f w_ _ _ _ _ p hst=>L_mv (v:=Bo (decide ((i_5 : Int) > 0))) (g_yes rfl (Eq.trans (p 14 31 rfl rfl) (congrArg Value.bool hc126)) rfl) (p 16 33 rfl rfl) (nO rfl rfl hst)) (oP (fun _ _ p=>gN (p 17 34 rfl rfl) hc139 rfl) (fun _=>rfl) (oP (fun _ _ p=>gN (p 17 34 rfl rfl) hc139 rfl) (fun _=>rfl) (oP (fun _ _ p=>gN (p 17 34 rfl rfl) hc139 rfl) (fun _=>rfl) (oP (fun _ _ p=>gN (p 17 34 rfl rfl) hc139 rfl) (fun _=>rfl) (oP (fun _ _ p=>gN (p 17 34 rfl rfl) hc139 rfl) (fun _=>rfl) (oP (fun _ _ p=>gN (p 17 34 rfl rfl) hc139 rfl) (fun _=>rfl) (oP (fun _ _ p=>gN (p 17 34 rfl rfl) hc139 rfl) (fun _=>rfl) (oP (fun _ _ p=>gN (p 17 34 rfl rfl) hc139 rfl) (fun _=>rfl) (oP (fun _ _ p=>gN (p 17 34 rfl rfl) hc139 rfl) (fun _=>rfl) (oP (fun _ _ p=>gN (p 17 34 rfl rfl) hc139 rfl) (fun _=>rfl) (opsS_nil)))))))))))))))))))))))))
 refine ps (g_no rfl (Eq.trans (hT52 17 34 rfl rfl) (congrArg Value.bool hc139)) rfl rfl) (ps (g_no rfl (Eq.trans (hT52 17 34 rfl rfl) (congrArg Value.bool hc139)) rfl rfl) (L_pick (v:=Bo b50) (g_yes rfl (Eq.trans (hT52 14 31 rfl rfl) (congrArg Value.bool hc126)) rfl) (Eq.trans (hT52 17 34 rfl rfl) (congrArg Value.bool hc139)) (congrArg Value.bool (so hb50)) (L_pick (v:=Bo b51) rfl (Eq.trans (hT52 14 31 rfl rfl) (congrArg Value.bool hc126)) (congrArg Value.bool (so hb51)) (nn ?_))))
 have hst:=hst.get 1 rfl
 exact rj hR55 ⟨H52,hE52,((hS52 1 rfl).trans sf1),((hS52 3 rfl).trans sf3),rfl,(Star.keepN 1 hst)⟩
 rcases Bool.eq_false_or_eq_true ((!x29) || (decide (x_8.coef < 1))) with hc194 | hc194
 rcases Bool.eq_false_or_eq_true (((!x29) || (decide (x_8.coef < 1))) || (decide (x_8.coef > 1000))) with hc195 | hc195
 rw [ite_t hc195] at hb51
 refine W_drawS 28 [isV (Pq g21 1),isV (I x_8.lit),isV (Bo x29),isV (Bo (!x29)),isV (Bo (!x29)),isV (Pt g21),isV (I x_8.coef),isV (Bo (decide (x_8.coef < 1))),isV (Bo ((!x29) || (decide (x_8.coef < 1)))),isV (Bo ((!x29) || (decide (x_8.coef < 1)))),isV (undef),isV (undef),isV (undef),isV (Bo (((!x29) || (decide (x_8.coef < 1))) || (decide (x_8.coef > 1000)))),isV (Bo (((!x29) || (decide (x_8.coef < 1))) || (decide (x_8.coef > 1000)))),isV (undef),isV (undef),isV (undef),isV (undef),isV (undef),isV (undef),isV (undef),isV (undef),isV (undef),isV (undef),isV (undef),isV (undef),isV (undef)] [box g21 117 #[I x_8.coef,I x_8.lit],box g3 41 #[v0_0,I c.bound]] [] ([]) [([],[]),([],[]),([],[]),([],[]),([],[]),([],[]),([],[]),([],[]),([],[]),([],[]),([],[]),([],[]),([],[]),([],[]),([],[]),([],[]),([],[]),([],[]),([],[]),([],[]),([],[]),([],[]),([],[]),([],[]),([],[]),([],[]),([],[]),([],[])] (S:=[]) Try_mix (by kernel_rfl) rfl (by kernel_rfl) (amF_cons (mono_V _) (amF_cons (mono_V _) (amF_cons (mono_V _) (amF_cons (mono_V _) (amF_cons (mono_V _) (amF_cons (mono_V _) (amF_cons (mono_V _) (amF_cons (mono_V _) (amF_cons (mono_V _) (amF_cons (mono_V _) (amF_cons (mono_V _) (amF_cons (mono_V _) (amF_cons (mono_V _) (amF_cons (mono_V _) (amF_cons (mono_V _) (amF_cons (mono_V _) (amF_cons (mono_V _) (amF_cons (mono_V _) (amF_cons (mono_V _) (amF_cons (mono_V _) (amF_cons (mono_V _) (amF_cons (mono_V _) (amF_cons (mono_V _) (amF_cons (mono_V _) (amF_cons (mono_V _) (amF_cons (mono_V _) (amF_cons (mono_V _) (amF_cons (mono_V _) amF_nil)))))))))))))))))))))))))))) hst ?_ (fun f w_ H52 hS52 hE52 hT52 hst=>?_)
 refine opsS_cons (fun f w_ _ _ s _ _ hst=>fA 1 fa_117_1 ((s 4 rfl).trans rfl) rfl (nO rfl rfl hst)) (opsS_cons (fun f w_ _ _ _ _ p hst=>ldB 0 hst Try.isAgg3 (p 0 17 rfl rfl) rfl rfl (nO rfl rfl hst)) (opsS_cons ?_ ?_))
 intro f w_ H52 X52 hS52 hE52 hP52 hst
 obtain ⟨H202b,l203,s204,z205,k206⟩:=hst.borrow
 refine L_call rfl Try.call98 (ops1 (hP52 1 18 rfl rfl)) (s_l1Lit_c (n_:=x_8.lit) s204 hx29) ?_
 rintro _ w207 ⟨rfl,hst⟩
 have hst:=k206 hst c0
 exact L_nil ⟨rfl,_,_,rfl,Le.refl _,fun _ _=>rfl,hst⟩
 refine opsS_cons (fun f w_ _ _ _ _ p hst=>L_not_ rfl (p 2 19 rfl rfl) (nO rfl rfl hst)) (opsS_cons (fun f w_ _ _ _ _ p hst=>mF (p 3 20 rfl rfl) rfl (nO rfl rfl hst)) (opsS_cons (fun f w_ _ _ s _ p hst=>L_fa (o':=0) (g_yes rfl (Eq.trans (p 4 21 rfl rfl) (congrArg Value.bool hc56)) rfl) fa_117_0 ((s 4 rfl).trans rfl) rfl (nO rfl rfl hst)) (opsS_cons (fun f w_ _ _ _ _ p hst=>L_ld (v:=I x_8.coef) (g_yes rfl (Eq.trans (p 4 21 rfl rfl) (congrArg Value.bool hc56)) rfl) Try.isAgg3 (p 5 22 rfl rfl) (At.cell0 (Blk.at (Star.blkAt 0 hst rfl)) (j:=0) rfl) (nO rfl rfl hst)) (opsS_cons (fun f w_ _ _ _ _ p hst=>L_lss (g_yes rfl (Eq.trans (p 4 21 rfl rfl) (congrArg Value.bool hc56)) rfl) (p 6 23 rfl rfl) rfl (nO rfl rfl hst)) (opsS_cons (fun f w_ _ _ _ _ p hst=>pkT (v:=Bo ((!x29) || (decide (x_8.coef < 1)))) (p 4 21 rfl rfl) hc56 rfl (or_f hc56 (p 7 24 rfl rfl)) (nO rfl rfl hst)) (opsS_cons (fun f w_ _ _ _ _ p hst=>mF (p 8 25 rfl rfl) rfl (nO rfl rfl hst)) (oP (fun _ _ p=>gN (p 9 26 rfl rfl) hc194 rfl) (fun _=>rfl) (oP (fun _ _ p=>gN (p 9 26 rfl rfl) hc194 rfl) (fun _=>rfl) (oP (fun _ _ p=>gN (p 9 26 rfl rfl) hc194 rfl) (fun _=>rfl) (opsS_cons (fun f w_ _ _ _ _ p hst=>pkT (v:=Bo (((!x29) || (decide (x_8.coef < 1))) || (decide (x_8.coef > 1000)))) (p 9 26 rfl rfl) hc194 rfl (or_t hc194) (nO rfl rfl hst)) (opsS_cons (fun f w_ _ _ _ _ p hst=>mF (p 13 30 rfl rfl) rfl (nO rfl rfl hst)) (oP (fun _ _ p=>gN (p 14 31 rfl rfl) hc195 rfl) (fun _=>rfl) (oP (fun _ _ p=>gN (p 14 31 rfl rfl) hc195 rfl) (fun _=>rfl) (oP (fun _ _ p=>gN (p 14 31 rfl rfl) hc195 rfl) (fun _=>rfl) (oP (fun _ _ p=>g_undef rfl (p 17 34 rfl rfl) rfl) (fun _=>rfl) (oP (fun _ _ p=>g_undef rfl (p 17 34 rfl rfl) rfl) (fun _=>rfl) (oP (fun _ _ p=>g_undef rfl (p 17 34 rfl rfl) rfl) (fun _=>rfl) (oP (fun _ _ p=>g_undef rfl (p 17 34 rfl rfl) rfl) (fun _=>rfl) (oP (fun _ _ p=>g_undef rfl (p 17 34 rfl rfl) rfl) (fun _=>rfl) (oP (fun _ _ p=>g_undef rfl (p 17 34 rfl rfl) rfl) (fun _=>rfl) (oP (fun _ _ p=>g_undef rfl (p 17 34 rfl rfl) rfl) (fun _=>rfl) (oP (fun _ _ p=>g_undef rfl (p 17 34 rfl rfl) rfl) (fun _=>rfl) (oP (fun _ _ p=>g_undef rfl (p 17 34 rfl rfl) rfl) (fun _=>rfl) (oP (fun _ _ p=>g_undef rfl (p 17 34 rfl rfl) rfl) (fun _=>rfl) (opsS_nil)))))))))))))))))))))))))
 refine ps (g_undef rfl (hT52 17 34 rfl rfl) rfl) (ps (g_undef rfl (hT52 17 34 rfl rfl) rfl) (ps (g_no rfl (Eq.trans (hT52 14 31 rfl rfl) (congrArg Value.bool hc195)) rfl rfl) (L_pick (v:=Bo b51) rfl (Eq.trans (hT52 14 31 rfl rfl) (congrArg Value.bool hc195)) (congrArg Value.bool (so hb51)) (nn ?_))))
 have hst:=hst.get 1 rfl
 exact rj hR55 ⟨H52,hE52,((hS52 1 rfl).trans sf1),((hS52 3 rfl).trans sf3),rfl,(Star.keepN 1 hst)⟩
 rw [ite_f hc195] at hb51
 obtain ⟨b50,hb50,hb51⟩:=bind_some hb51
 rcases Bool.eq_false_or_eq_true (decide ((i_5 : Int) > 0)) with hc208 | hc208
 rw [ite_t hc208] at hb50
 obtain ⟨x31,hx31,hb50⟩:=bind_some hb50
 obtain ⟨x41,hx41,hb50⟩:=bind_some hb50
 obtain ⟨x48,hx48,hb50⟩:=bind_some hb50
 refine W_drawS 28 [isV (Pq g21 1),isV (I x_8.lit),isV (Bo x29),isV (Bo (!x29)),isV (Bo (!x29)),isV (Pt g21),isV (I x_8.coef),isV (Bo (decide (x_8.coef < 1))),isV (Bo ((!x29) || (decide (x_8.coef < 1)))),isV (Bo ((!x29) || (decide (x_8.coef < 1)))),isV (undef),isV (undef),isV (undef),isV (Bo (((!x29) || (decide (x_8.coef < 1))) || (decide (x_8.coef > 1000)))),isV (Bo (((!x29) || (decide (x_8.coef < 1))) || (decide (x_8.coef > 1000)))),isV (I i_5),isV (Bo (decide ((i_5 : Int) > 0))),isV (Bo (decide ((i_5 : Int) > 0))),isV (Pt g3),isV (v0_0),isV (I i_5),isV (I (i64 ((i_5 : Int) - 1))),isEl rTerm x31 0,isEl rTerm x31 1,isV (I x31.lit),isV (I x41),isV (Pq g21 1),isV (I x_8.lit)] [box g21 117 #[I x_8.coef,I x_8.lit],box g3 41 #[v0_0,I c.bound]] [] ([]) [([],[]),([],[]),([],[]),([],[]),([],[]),([],[]),([],[]),([],[]),([],[]),([],[]),([],[]),([],[]),([],[]),([],[]),([],[]),([],[]),([],[]),([],[]),([],[]),([],[]),([],[]),([],[]),([],[]),([],[]),([],[]),([],[]),([],[]),([],[])] (S:=[]) Try_mix (by kernel_rfl) rfl (by kernel_rfl) (amF_cons (mono_V _) (amF_cons (mono_V _) (amF_cons (mono_V _) (amF_cons (mono_V _) (amF_cons (mono_V _) (amF_cons (mono_V _) (amF_cons (mono_V _) (amF_cons (mono_V _) (amF_cons (mono_V _) (amF_cons (mono_V _) (amF_cons (mono_V _) (amF_cons (mono_V _) (amF_cons (mono_V _) (amF_cons (mono_V _) (amF_cons (mono_V _) (amF_cons (mono_V _) (amF_cons (mono_V _) (amF_cons (mono_V _) (amF_cons (mono_V _) (amF_cons (mono_V _) (amF_cons (mono_V _) (amF_cons (mono_V _) (amF_cons (mono_el _ _ _) (amF_cons (mono_el _ _ _) (amF_cons (mono_V _) (amF_cons (mono_V _) (amF_cons (mono_V _) (amF_cons (mono_V _) amF_nil)))))))))))))))))))))))))))) hst ?_ (fun f w_ H52 hS52 hE52 hT52 hst=>?_)
 refine opsS_cons (fun f w_ _ _ s _ _ hst=>fA 1 fa_117_1 ((s 4 rfl).trans rfl) rfl (nO rfl rfl hst)) (opsS_cons (fun f w_ _ _ _ _ p hst=>ldB 0 hst Try.isAgg3 (p 0 17 rfl rfl) rfl rfl (nO rfl rfl hst)) (opsS_cons ?_ ?_))
 intro f w_ H52 X52 hS52 hE52 hP52 hst
 obtain ⟨H225b,l226,s227,z228,k229⟩:=hst.borrow
 refine L_call rfl Try.call98 (ops1 (hP52 1 18 rfl rfl)) (s_l1Lit_c (n_:=x_8.lit) s227 hx29) ?_
 rintro _ w230 ⟨rfl,hst⟩
 have hst:=k229 hst c0
 exact L_nil ⟨rfl,_,_,rfl,Le.refl _,fun _ _=>rfl,hst⟩
 refine opsS_cons (fun f w_ _ _ _ _ p hst=>L_not_ rfl (p 2 19 rfl rfl) (nO rfl rfl hst)) (opsS_cons (fun f w_ _ _ _ _ p hst=>mF (p 3 20 rfl rfl) rfl (nO rfl rfl hst)) (opsS_cons (fun f w_ _ _ s _ p hst=>L_fa (o':=0) (g_yes rfl (Eq.trans (p 4 21 rfl rfl) (congrArg Value.bool hc56)) rfl) fa_117_0 ((s 4 rfl).trans rfl) rfl (nO rfl rfl hst)) (opsS_cons (fun f w_ _ _ _ _ p hst=>L_ld (v:=I x_8.coef) (g_yes rfl (Eq.trans (p 4 21 rfl rfl) (congrArg Value.bool hc56)) rfl) Try.isAgg3 (p 5 22 rfl rfl) (At.cell0 (Blk.at (Star.blkAt 0 hst rfl)) (j:=0) rfl) (nO rfl rfl hst)) (opsS_cons (fun f w_ _ _ _ _ p hst=>L_lss (g_yes rfl (Eq.trans (p 4 21 rfl rfl) (congrArg Value.bool hc56)) rfl) (p 6 23 rfl rfl) rfl (nO rfl rfl hst)) (opsS_cons (fun f w_ _ _ _ _ p hst=>pkT (v:=Bo ((!x29) || (decide (x_8.coef < 1)))) (p 4 21 rfl rfl) hc56 rfl (or_f hc56 (p 7 24 rfl rfl)) (nO rfl rfl hst)) (opsS_cons (fun f w_ _ _ _ _ p hst=>mF (p 8 25 rfl rfl) rfl (nO rfl rfl hst)) (oP (fun _ _ p=>gN (p 9 26 rfl rfl) hc194 rfl) (fun _=>rfl) (oP (fun _ _ p=>gN (p 9 26 rfl rfl) hc194 rfl) (fun _=>rfl) (oP (fun _ _ p=>gN (p 9 26 rfl rfl) hc194 rfl) (fun _=>rfl) (opsS_cons (fun f w_ _ _ _ _ p hst=>pkT (v:=Bo (((!x29) || (decide (x_8.coef < 1))) || (decide (x_8.coef > 1000)))) (p 9 26 rfl rfl) hc194 rfl (or_t hc194) (nO rfl rfl hst)) (opsS_cons (fun f w_ _ _ _ _ p hst=>mF (p 13 30 rfl rfl) rfl (nO rfl rfl hst)) (opsS_cons (fun f w_ _ _ s _ p hst=>L_mv (v:=I i_5) (g_yes rfl (Eq.trans (p 14 31 rfl rfl) (congrArg Value.bool hc195)) rfl) ((s 3 rfl).trans sf3) (nO rfl rfl hst)) (opsS_cons (fun f w_ _ _ _ _ p hst=>L_gtr (g_yes rfl (Eq.trans (p 14 31 rfl rfl) (congrArg Value.bool hc195)) rfl) (p 15 32 rfl rfl) rfl (nO rfl rfl hst)) (opsS_cons (fun f w_ _ _ _ _ p hst=>L_mv (v:=Bo (decide ((i_5 : Int) > 0))) (g_yes rfl (Eq.trans (p 14 31 rfl rfl) (congrArg Value.bool hc195)) rfl) (p 16 33 rfl rfl) (nO rfl rfl hst)) (opsS_cons (fun f w_ _ _ s _ p hst=>L_fa (o':=0) (g_yes rfl (Eq.trans (p 17 34 rfl rfl) (congrArg Value.bool hc208)) rfl) fa_41_0 ((s 1 rfl).trans sf1) rfl (nO rfl rfl hst)) (opsS_cons (fun f w_ _ _ _ _ p hst=>L_ld (v:=v0_0) (g_yes rfl (Eq.trans (p 17 34 rfl rfl) (congrArg Value.bool hc208)) rfl) Try.isAgg39 (p 18 35 rfl rfl) (At.cell0 (Blk.at (Star.blkAt 1 hst rfl)) (j:=0) rfl) (nO rfl rfl hst)) (opsS_cons (fun f w_ _ _ s _ p hst=>L_mv (v:=I i_5) (g_yes rfl (Eq.trans (p 17 34 rfl rfl) (congrArg Value.bool hc208)) rfl) ((s 3 rfl).trans sf3) (nO rfl rfl hst)) (opsS_cons (fun f w_ _ _ _ _ p hst=>L_sub (g_yes rfl (Eq.trans (p 17 34 rfl rfl) (congrArg Value.bool hc208)) rfl) (p 20 37 rfl rfl) rfl (nO rfl rfl hst)) (opsS_cons ?_ ?_)))))))))))))))))))
 intro f w_ H52 X52 hS52 hE52 hP52 hst
 refine L_ix (r:=rTerm) (g_yes rfl (Eq.trans (hP52 17 34 rfl rfl) (congrArg Value.bool hc208)) rfl) Try.underlying39 Try.sizeOf117 (hP52 19 36 rfl rfl) (RP.mono _ h0_0 (Le.trans l7 hE52)) (hP52 21 38 rfl rfl) hx31 (fun g231 o232 cs_g231 hrk_hat233 hat233=>?_)
 obtain rfl:=rTerm_iff.1 hrk_hat233
 exact L_nil ⟨rfl,_,_,rfl,Le.refl _,fun _ _=>⟨_,_,_,rfl,hrk_hat233,hat233⟩,hst⟩
 refine opsS_cons ?_ ?_
 intro f w_ H52 X52 hS52 hE52 hP52 hst
 obtain ⟨g235,o235,cs235,hv235,hrk_hat235,hat235⟩:=(hP52 22 39 rfl rfl)
 obtain rfl:=rTerm_iff.1 hrk_hat235
 refine L_fa (o':=o235 + 1) (g_yes rfl (Eq.trans (hP52 17 34 rfl rfl) (congrArg Value.bool hc208)) rfl) fa_117_1 hv235 rfl (L_nil ⟨rfl,_,_,rfl,Le.refl _,fun _ _=>⟨_,_,_,rfl,hrk_hat235,hat235⟩,hst⟩)
 refine opsS_cons ?_ ?_
 intro f w_ H52 X52 hS52 hE52 hP52 hst
 obtain ⟨g237,o237,cs237,hv237,hrk_hat237,hat237⟩:=(hP52 23 40 rfl rfl)
 obtain rfl:=rTerm_iff.1 hrk_hat237
 refine L_ld (v:=I x31.lit) (g_yes rfl (Eq.trans (hP52 17 34 rfl rfl) (congrArg Value.bool hc208)) rfl) Try.isAgg3 hv237 (At.cell (AtH.at hat237 hst.sub) (j:=1) rfl) (L_nil ⟨rfl,_,_,rfl,Le.refl _,fun _ _=>rfl,hst⟩)
 refine opsS_cons ?_ ?_
 intro f w_ H52 X52 hS52 hE52 hP52 hst
 obtain ⟨H239b,l240,s241,z242,k243⟩:=hst.borrow
 refine L_call (g_yes rfl (Eq.trans (hP52 17 34 rfl rfl) (congrArg Value.bool hc208)) rfl) Try.call99 (ops1 (hP52 24 41 rfl rfl)) (s_l1Abs_c (n_:=x31.lit) s241 hx41) ?_
 rintro _ w244 ⟨rfl,hst⟩
 have hst:=k243 hst c0
 exact L_nil ⟨rfl,_,_,rfl,Le.refl _,fun _ _=>rfl,hst⟩
 refine opsS_cons (fun f w_ _ _ s _ p hst=>L_fa (o':=1) (g_yes rfl (Eq.trans (p 17 34 rfl rfl) (congrArg Value.bool hc208)) rfl) fa_117_1 ((s 4 rfl).trans rfl) rfl (nO rfl rfl hst)) (opsS_cons (fun f w_ _ _ _ _ p hst=>L_ld (v:=I x_8.lit) (g_yes rfl (Eq.trans (p 17 34 rfl rfl) (congrArg Value.bool hc208)) rfl) Try.isAgg3 (p 26 43 rfl rfl) (At.cell0 (Blk.at (Star.blkAt 0 hst rfl)) (j:=1) rfl) (nO rfl rfl hst)) (opsS_nil))
 obtain ⟨H245b,l246,s247,z248,k249⟩:=hst.borrow
 refine L_call (g_yes rfl (Eq.trans (hT52 17 34 rfl rfl) (congrArg Value.bool hc208)) rfl) Try.call99 (ops1 (hT52 27 44 rfl rfl)) (s_l1Abs_c (n_:=x_8.lit) s247 hx48) ?_
 rintro _ w250 ⟨rfl,hst⟩
 have hst:=k249 hst c0
 refine L_geq (g_yes rfl (Eq.trans (hT52 17 34 rfl rfl) (congrArg Value.bool hc208)) rfl) (hT52 25 42 rfl rfl) rfl (L_pick (v:=Bo b50) (g_yes rfl (Eq.trans (hT52 14 31 rfl rfl) (congrArg Value.bool hc195)) rfl) (Eq.trans (hT52 17 34 rfl rfl) (congrArg Value.bool hc208)) (congrArg Value.bool (so hb50)) (L_pick (v:=Bo b51) rfl (Eq.trans (hT52 14 31 rfl rfl) (congrArg Value.bool hc195)) (congrArg Value.bool (so hb51)) (nn ?_)))
 have hst:=hst.get 1 rfl
 exact rj hR55 ⟨H52,hE52,((hS52 1 rfl).trans sf1),((hS52 3 rfl).trans sf3),rfl,(Star.keepN 1 hst)⟩
 rw [ite_f hc208] at hb50
 refine W_drawS 28 [isV (Pq g21 1),isV (I x_8.lit),isV (Bo x29),isV (Bo (!x29)),isV (Bo (!x29)),isV (Pt g21),isV (I x_8.coef),isV (Bo (decide (x_8.coef < 1))),isV (Bo ((!x29) || (decide (x_8.coef < 1)))),isV (Bo ((!x29) || (decide (x_8.coef < 1)))),isV (undef),isV (undef),isV (undef),isV (Bo (((!x29) || (decide (x_8.coef < 1))) || (decide (x_8.coef > 1000)))),isV (Bo (((!x29) || (decide (x_8.coef < 1))) || (decide (x_8.coef > 1000)))),isV (I i_5),isV (Bo (decide ((i_5 : Int) > 0))),isV (Bo (decide ((i_5 : Int) > 0))),isV (undef),isV (undef),isV (undef),isV (undef),isV (undef),isV (undef),isV (undef),isV (undef),isV (undef),isV (undef)] [box g21 117 #[I x_8.coef,I x_8.lit],box g3 41 #[v0_0,I c.bound]] [] ([]) [([],[]),([],[]),([],[]),([],[]),([],[]),([],[]),([],[]),([],[]),([],[]),([],[]),([],[]),([],[]),([],[]),([],[]),([],[]),([],[]),([],[]),([],[]),([],[]),([],[]),([],[]),([],[]),([],[]),([],[]),([],[]),([],[]),([],[]),([],[])] (S:=[]) Try_mix (by kernel_rfl) rfl (by kernel_rfl) (amF_cons (mono_V _) (amF_cons (mono_V _) (amF_cons (mono_V _) (amF_cons (mono_V _) (amF_cons (mono_V _) (amF_cons (mono_V _) (amF_cons (mono_V _) (amF_cons (mono_V _) (amF_cons (mono_V _) (amF_cons (mono_V _) (amF_cons (mono_V _) (amF_cons (mono_V _) (amF_cons (mono_V _) (amF_cons (mono_V _) (amF_cons (mono_V _) (amF_cons (mono_V _) (amF_cons (mono_V _) (amF_cons (mono_V _) (amF_cons (mono_V _) (amF_cons (mono_V _) (amF_cons (mono_V _) (amF_cons (mono_V _) (amF_cons (mono_V _) (amF_cons (mono_V _) (amF_cons (mono_V _) (amF_cons (mono_V _) (amF_cons (mono_V _) (amF_cons (mono_V _) amF_nil)))))))))))))))))))))))))))) hst ?_ (fun f w_ H52 hS52 hE52 hT52 hst=>?_)
 refine opsS_cons (fun f w_ _ _ s _ _ hst=>fA 1 fa_117_1 ((s 4 rfl).trans rfl) rfl (nO rfl rfl hst)) (opsS_cons (fun f w_ _ _ _ _ p hst=>ldB 0 hst Try.isAgg3 (p 0 17 rfl rfl) rfl rfl (nO rfl rfl hst)) (opsS_cons ?_ ?_))
 intro f w_ H52 X52 hS52 hE52 hP52 hst
 obtain ⟨H257b,l258,s259,z260,k261⟩:=hst.borrow
 refine L_call rfl Try.call98 (ops1 (hP52 1 18 rfl rfl)) (s_l1Lit_c (n_:=x_8.lit) s259 hx29) ?_
 rintro _ w262 ⟨rfl,hst⟩
 have hst:=k261 hst c0
 exact L_nil ⟨rfl,_,_,rfl,Le.refl _,fun _ _=>rfl,hst⟩
 refine opsS_cons (fun f w_ _ _ _ _ p hst=>L_not_ rfl (p 2 19 rfl rfl) (nO rfl rfl hst)) (opsS_cons (fun f w_ _ _ _ _ p hst=>mF (p 3 20 rfl rfl) rfl (nO rfl rfl hst)) (opsS_cons (fun f w_ _ _ s _ p hst=>L_fa (o':=0) (g_yes rfl (Eq.trans (p 4 21 rfl rfl) (congrArg Value.bool hc56)) rfl) fa_117_0 ((s 4 rfl).trans rfl) rfl (nO rfl rfl hst)) (opsS_cons (fun f w_ _ _ _ _ p hst=>L_ld (v:=I x_8.coef) (g_yes rfl (Eq.trans (p 4 21 rfl rfl) (congrArg Value.bool hc56)) rfl) Try.isAgg3 (p 5 22 rfl rfl) (At.cell0 (Blk.at (Star.blkAt 0 hst rfl)) (j:=0) rfl) (nO rfl rfl hst)) (opsS_cons (fun f w_ _ _ _ _ p hst=>L_lss (g_yes rfl (Eq.trans (p 4 21 rfl rfl) (congrArg Value.bool hc56)) rfl) (p 6 23 rfl rfl) rfl (nO rfl rfl hst)) (opsS_cons (fun f w_ _ _ _ _ p hst=>pkT (v:=Bo ((!x29) || (decide (x_8.coef < 1)))) (p 4 21 rfl rfl) hc56 rfl (or_f hc56 (p 7 24 rfl rfl)) (nO rfl rfl hst)) (opsS_cons (fun f w_ _ _ _ _ p hst=>mF (p 8 25 rfl rfl) rfl (nO rfl rfl hst)) (oP (fun _ _ p=>gN (p 9 26 rfl rfl) hc194 rfl) (fun _=>rfl) (oP (fun _ _ p=>gN (p 9 26 rfl rfl) hc194 rfl) (fun _=>rfl) (oP (fun _ _ p=>gN (p 9 26 rfl rfl) hc194 rfl) (fun _=>rfl) (opsS_cons (fun f w_ _ _ _ _ p hst=>pkT (v:=Bo (((!x29) || (decide (x_8.coef < 1))) || (decide (x_8.coef > 1000)))) (p 9 26 rfl rfl) hc194 rfl (or_t hc194) (nO rfl rfl hst)) (opsS_cons (fun f w_ _ _ _ _ p hst=>mF (p 13 30 rfl rfl) rfl (nO rfl rfl hst)) (opsS_cons (fun f w_ _ _ s _ p hst=>L_mv (v:=I i_5) (g_yes rfl (Eq.trans (p 14 31 rfl rfl) (congrArg Value.bool hc195)) rfl) ((s 3 rfl).trans sf3) (nO rfl rfl hst)) (opsS_cons (fun f w_ _ _ _ _ p hst=>L_gtr (g_yes rfl (Eq.trans (p 14 31 rfl rfl) (congrArg Value.bool hc195)) rfl) (p 15 32 rfl rfl) rfl (nO rfl rfl hst)) (opsS_cons (fun f w_ _ _ _ _ p hst=>L_mv (v:=Bo (decide ((i_5 : Int) > 0))) (g_yes rfl (Eq.trans (p 14 31 rfl rfl) (congrArg Value.bool hc195)) rfl) (p 16 33 rfl rfl) (nO rfl rfl hst)) (oP (fun _ _ p=>gN (p 17 34 rfl rfl) hc208 rfl) (fun _=>rfl) (oP (fun _ _ p=>gN (p 17 34 rfl rfl) hc208 rfl) (fun _=>rfl) (oP (fun _ _ p=>gN (p 17 34 rfl rfl) hc208 rfl) (fun _=>rfl) (oP (fun _ _ p=>gN (p 17 34 rfl rfl) hc208 rfl) (fun _=>rfl) (oP (fun _ _ p=>gN (p 17 34 rfl rfl) hc208 rfl) (fun _=>rfl) (oP (fun _ _ p=>gN (p 17 34 rfl rfl) hc208 rfl) (fun _=>rfl) (oP (fun _ _ p=>gN (p 17 34 rfl rfl) hc208 rfl) (fun _=>rfl) (oP (fun _ _ p=>gN (p 17 34 rfl rfl) hc208 rfl) (fun _=>rfl) (oP (fun _ _ p=>gN (p 17 34 rfl rfl) hc208 rfl) (fun _=>rfl) (oP (fun _ _ p=>gN (p 17 34 rfl rfl) hc208 rfl) (fun _=>rfl) (opsS_nil)))))))))))))))))))))))))
 refine ps (g_no rfl (Eq.trans (hT52 17 34 rfl rfl) (congrArg Value.bool hc208)) rfl rfl) (ps (g_no rfl (Eq.trans (hT52 17 34 rfl rfl) (congrArg Value.bool hc208)) rfl rfl) (L_pick (v:=Bo b50) (g_yes rfl (Eq.trans (hT52 14 31 rfl rfl) (congrArg Value.bool hc195)) rfl) (Eq.trans (hT52 17 34 rfl rfl) (congrArg Value.bool hc208)) (congrArg Value.bool (so hb50)) (L_pick (v:=Bo b51) rfl (Eq.trans (hT52 14 31 rfl rfl) (congrArg Value.bool hc195)) (congrArg Value.bool (so hb51)) (nn ?_))))
 have hst:=hst.get 1 rfl
 exact rj hR55 ⟨H52,hE52,((hS52 1 rfl).trans sf1),((hS52 3 rfl).trans sf3),rfl,(Star.keepN 1 hst)⟩
 rcases Bool.eq_false_or_eq_true (((!x29) || (decide (x_8.coef < 1))) || (decide (x_8.coef > 1000))) with hc263 | hc263
 rw [ite_t hc263] at hb51
 refine W_drawS 28 [isV (Pq g21 1),isV (I x_8.lit),isV (Bo x29),isV (Bo (!x29)),isV (Bo (!x29)),isV (Pt g21),isV (I x_8.coef),isV (Bo (decide (x_8.coef < 1))),isV (Bo ((!x29) || (decide (x_8.coef < 1)))),isV (Bo ((!x29) || (decide (x_8.coef < 1)))),isV (Pt g21),isV (I x_8.coef),isV (Bo (decide (x_8.coef > 1000))),isV (Bo (((!x29) || (decide (x_8.coef < 1))) || (decide (x_8.coef > 1000)))),isV (Bo (((!x29) || (decide (x_8.coef < 1))) || (decide (x_8.coef > 1000)))),isV (undef),isV (undef),isV (undef),isV (undef),isV (undef),isV (undef),isV (undef),isV (undef),isV (undef),isV (undef),isV (undef),isV (undef),isV (undef)] [box g21 117 #[I x_8.coef,I x_8.lit],box g3 41 #[v0_0,I c.bound]] [] ([]) [([],[]),([],[]),([],[]),([],[]),([],[]),([],[]),([],[]),([],[]),([],[]),([],[]),([],[]),([],[]),([],[]),([],[]),([],[]),([],[]),([],[]),([],[]),([],[]),([],[]),([],[]),([],[]),([],[]),([],[]),([],[]),([],[]),([],[]),([],[])] (S:=[]) Try_mix (by kernel_rfl) rfl (by kernel_rfl) (amF_cons (mono_V _) (amF_cons (mono_V _) (amF_cons (mono_V _) (amF_cons (mono_V _) (amF_cons (mono_V _) (amF_cons (mono_V _) (amF_cons (mono_V _) (amF_cons (mono_V _) (amF_cons (mono_V _) (amF_cons (mono_V _) (amF_cons (mono_V _) (amF_cons (mono_V _) (amF_cons (mono_V _) (amF_cons (mono_V _) (amF_cons (mono_V _) (amF_cons (mono_V _) (amF_cons (mono_V _) (amF_cons (mono_V _) (amF_cons (mono_V _) (amF_cons (mono_V _) (amF_cons (mono_V _) (amF_cons (mono_V _) (amF_cons (mono_V _) (amF_cons (mono_V _) (amF_cons (mono_V _) (amF_cons (mono_V _) (amF_cons (mono_V _) (amF_cons (mono_V _) amF_nil)))))))))))))))))))))))))))) hst ?_ (fun f w_ H52 hS52 hE52 hT52 hst=>?_)
 refine opsS_cons (fun f w_ _ _ s _ _ hst=>fA 1 fa_117_1 ((s 4 rfl).trans rfl) rfl (nO rfl rfl hst)) (opsS_cons (fun f w_ _ _ _ _ p hst=>ldB 0 hst Try.isAgg3 (p 0 17 rfl rfl) rfl rfl (nO rfl rfl hst)) (opsS_cons ?_ ?_))
 intro f w_ H52 X52 hS52 hE52 hP52 hst
 obtain ⟨H270b,l271,s272,z273,k274⟩:=hst.borrow
 refine L_call rfl Try.call98 (ops1 (hP52 1 18 rfl rfl)) (s_l1Lit_c (n_:=x_8.lit) s272 hx29) ?_
 rintro _ w275 ⟨rfl,hst⟩
 have hst:=k274 hst c0
 exact L_nil ⟨rfl,_,_,rfl,Le.refl _,fun _ _=>rfl,hst⟩
 refine opsS_cons (fun f w_ _ _ _ _ p hst=>L_not_ rfl (p 2 19 rfl rfl) (nO rfl rfl hst)) (opsS_cons (fun f w_ _ _ _ _ p hst=>mF (p 3 20 rfl rfl) rfl (nO rfl rfl hst)) (opsS_cons (fun f w_ _ _ s _ p hst=>L_fa (o':=0) (g_yes rfl (Eq.trans (p 4 21 rfl rfl) (congrArg Value.bool hc56)) rfl) fa_117_0 ((s 4 rfl).trans rfl) rfl (nO rfl rfl hst)) (opsS_cons (fun f w_ _ _ _ _ p hst=>L_ld (v:=I x_8.coef) (g_yes rfl (Eq.trans (p 4 21 rfl rfl) (congrArg Value.bool hc56)) rfl) Try.isAgg3 (p 5 22 rfl rfl) (At.cell0 (Blk.at (Star.blkAt 0 hst rfl)) (j:=0) rfl) (nO rfl rfl hst)) (opsS_cons (fun f w_ _ _ _ _ p hst=>L_lss (g_yes rfl (Eq.trans (p 4 21 rfl rfl) (congrArg Value.bool hc56)) rfl) (p 6 23 rfl rfl) rfl (nO rfl rfl hst)) (opsS_cons (fun f w_ _ _ _ _ p hst=>pkT (v:=Bo ((!x29) || (decide (x_8.coef < 1)))) (p 4 21 rfl rfl) hc56 rfl (or_f hc56 (p 7 24 rfl rfl)) (nO rfl rfl hst)) (opsS_cons (fun f w_ _ _ _ _ p hst=>mF (p 8 25 rfl rfl) rfl (nO rfl rfl hst)) (opsS_cons (fun f w_ _ _ s _ p hst=>L_fa (o':=0) (g_yes rfl (Eq.trans (p 9 26 rfl rfl) (congrArg Value.bool hc194)) rfl) fa_117_0 ((s 4 rfl).trans rfl) rfl (nO rfl rfl hst)) (opsS_cons (fun f w_ _ _ _ _ p hst=>L_ld (v:=I x_8.coef) (g_yes rfl (Eq.trans (p 9 26 rfl rfl) (congrArg Value.bool hc194)) rfl) Try.isAgg3 (p 10 27 rfl rfl) (At.cell0 (Blk.at (Star.blkAt 0 hst rfl)) (j:=0) rfl) (nO rfl rfl hst)) (opsS_cons (fun f w_ _ _ _ _ p hst=>L_gtr (g_yes rfl (Eq.trans (p 9 26 rfl rfl) (congrArg Value.bool hc194)) rfl) (p 11 28 rfl rfl) rfl (nO rfl rfl hst)) (opsS_cons (fun f w_ _ _ _ _ p hst=>pkT (v:=Bo (((!x29) || (decide (x_8.coef < 1))) || (decide (x_8.coef > 1000)))) (p 9 26 rfl rfl) hc194 rfl (or_f hc194 (p 12 29 rfl rfl)) (nO rfl rfl hst)) (opsS_cons (fun f w_ _ _ _ _ p hst=>mF (p 13 30 rfl rfl) rfl (nO rfl rfl hst)) (oP (fun _ _ p=>gN (p 14 31 rfl rfl) hc263 rfl) (fun _=>rfl) (oP (fun _ _ p=>gN (p 14 31 rfl rfl) hc263 rfl) (fun _=>rfl) (oP (fun _ _ p=>gN (p 14 31 rfl rfl) hc263 rfl) (fun _=>rfl) (oP (fun _ _ p=>g_undef rfl (p 17 34 rfl rfl) rfl) (fun _=>rfl) (oP (fun _ _ p=>g_undef rfl (p 17 34 rfl rfl) rfl) (fun _=>rfl) (oP (fun _ _ p=>g_undef rfl (p 17 34 rfl rfl) rfl) (fun _=>rfl) (oP (fun _ _ p=>g_undef rfl (p 17 34 rfl rfl) rfl) (fun _=>rfl) (oP (fun _ _ p=>g_undef rfl (p 17 34 rfl rfl) rfl) (fun _=>rfl) (oP (fun _ _ p=>g_undef rfl (p 17 34 rfl rfl) rfl) (fun _=>rfl) (oP (fun _ _ p=>g_undef rfl (p 17 34 rfl rfl) rfl) (fun _=>rfl) (oP (fun _ _ p=>g_undef rfl (p 17 34 rfl rfl) rfl) (fun _=>rfl) (oP (fun _ _ p=>g_undef rfl (p 17 34 rfl rfl) rfl) (fun _=>rfl) (oP (fun _ _ p=>g_undef rfl (p 17 34 rfl rfl) rfl) (fun _=>rfl) (opsS_nil)))))))))))))))))))))))))
 refine ps (g_undef rfl (hT52 17 34 rfl rfl) rfl) (ps (g_undef rfl (hT52 17 34 rfl rfl) rfl) (ps (g_no rfl (Eq.trans (hT52 14 31 rfl rfl) (congrArg Value.bool hc263)) rfl rfl) (L_pick (v:=Bo b51) rfl (Eq.trans (hT52 14 31 rfl rfl) (congrArg Value.bool hc263)) (congrArg Value.bool (so hb51)) (nn ?_))))
 have hst:=hst.get 1 rfl
 exact rj hR55 ⟨H52,hE52,((hS52 1 rfl).trans sf1),((hS52 3 rfl).trans sf3),rfl,(Star.keepN 1 hst)⟩
 rw [ite_f hc263] at hb51
 obtain ⟨b50,hb50,hb51⟩:=bind_some hb51
 rcases Bool.eq_false_or_eq_true (decide ((i_5 : Int) > 0)) with hc276 | hc276
 rw [ite_t hc276] at hb50
 obtain ⟨x31,hx31,hb50⟩:=bind_some hb50
 obtain ⟨x41,hx41,hb50⟩:=bind_some hb50
 obtain ⟨x48,hx48,hb50⟩:=bind_some hb50
 refine W_drawS 28 [isV (Pq g21 1),isV (I x_8.lit),isV (Bo x29),isV (Bo (!x29)),isV (Bo (!x29)),isV (Pt g21),isV (I x_8.coef),isV (Bo (decide (x_8.coef < 1))),isV (Bo ((!x29) || (decide (x_8.coef < 1)))),isV (Bo ((!x29) || (decide (x_8.coef < 1)))),isV (Pt g21),isV (I x_8.coef),isV (Bo (decide (x_8.coef > 1000))),isV (Bo (((!x29) || (decide (x_8.coef < 1))) || (decide (x_8.coef > 1000)))),isV (Bo (((!x29) || (decide (x_8.coef < 1))) || (decide (x_8.coef > 1000)))),isV (I i_5),isV (Bo (decide ((i_5 : Int) > 0))),isV (Bo (decide ((i_5 : Int) > 0))),isV (Pt g3),isV (v0_0),isV (I i_5),isV (I (i64 ((i_5 : Int) - 1))),isEl rTerm x31 0,isEl rTerm x31 1,isV (I x31.lit),isV (I x41),isV (Pq g21 1),isV (I x_8.lit)] [box g21 117 #[I x_8.coef,I x_8.lit],box g3 41 #[v0_0,I c.bound]] [] ([]) [([],[]),([],[]),([],[]),([],[]),([],[]),([],[]),([],[]),([],[]),([],[]),([],[]),([],[]),([],[]),([],[]),([],[]),([],[]),([],[]),([],[]),([],[]),([],[]),([],[]),([],[]),([],[]),([],[]),([],[]),([],[]),([],[]),([],[]),([],[])] (S:=[]) Try_mix (by kernel_rfl) rfl (by kernel_rfl) (amF_cons (mono_V _) (amF_cons (mono_V _) (amF_cons (mono_V _) (amF_cons (mono_V _) (amF_cons (mono_V _) (amF_cons (mono_V _) (amF_cons (mono_V _) (amF_cons (mono_V _) (amF_cons (mono_V _) (amF_cons (mono_V _) (amF_cons (mono_V _) (amF_cons (mono_V _) (amF_cons (mono_V _) (amF_cons (mono_V _) (amF_cons (mono_V _) (amF_cons (mono_V _) (amF_cons (mono_V _) (amF_cons (mono_V _) (amF_cons (mono_V _) (amF_cons (mono_V _) (amF_cons (mono_V _) (amF_cons (mono_V _) (amF_cons (mono_el _ _ _) (amF_cons (mono_el _ _ _) (amF_cons (mono_V _) (amF_cons (mono_V _) (amF_cons (mono_V _) (amF_cons (mono_V _) amF_nil)))))))))))))))))))))))))))) hst ?_ (fun f w_ H52 hS52 hE52 hT52 hst=>?_)
 refine opsS_cons (fun f w_ _ _ s _ _ hst=>fA 1 fa_117_1 ((s 4 rfl).trans rfl) rfl (nO rfl rfl hst)) (opsS_cons (fun f w_ _ _ _ _ p hst=>ldB 0 hst Try.isAgg3 (p 0 17 rfl rfl) rfl rfl (nO rfl rfl hst)) (opsS_cons ?_ ?_))
 intro f w_ H52 X52 hS52 hE52 hP52 hst
 obtain ⟨H293b,l294,s295,z296,k297⟩:=hst.borrow
 refine L_call rfl Try.call98 (ops1 (hP52 1 18 rfl rfl)) (s_l1Lit_c (n_:=x_8.lit) s295 hx29) ?_
 rintro _ w298 ⟨rfl,hst⟩
 have hst:=k297 hst c0
 exact L_nil ⟨rfl,_,_,rfl,Le.refl _,fun _ _=>rfl,hst⟩
 refine opsS_cons (fun f w_ _ _ _ _ p hst=>L_not_ rfl (p 2 19 rfl rfl) (nO rfl rfl hst)) (opsS_cons (fun f w_ _ _ _ _ p hst=>mF (p 3 20 rfl rfl) rfl (nO rfl rfl hst)) (opsS_cons (fun f w_ _ _ s _ p hst=>L_fa (o':=0) (g_yes rfl (Eq.trans (p 4 21 rfl rfl) (congrArg Value.bool hc56)) rfl) fa_117_0 ((s 4 rfl).trans rfl) rfl (nO rfl rfl hst)) (opsS_cons (fun f w_ _ _ _ _ p hst=>L_ld (v:=I x_8.coef) (g_yes rfl (Eq.trans (p 4 21 rfl rfl) (congrArg Value.bool hc56)) rfl) Try.isAgg3 (p 5 22 rfl rfl) (At.cell0 (Blk.at (Star.blkAt 0 hst rfl)) (j:=0) rfl) (nO rfl rfl hst)) (opsS_cons (fun f w_ _ _ _ _ p hst=>L_lss (g_yes rfl (Eq.trans (p 4 21 rfl rfl) (congrArg Value.bool hc56)) rfl) (p 6 23 rfl rfl) rfl (nO rfl rfl hst)) (opsS_cons (fun f w_ _ _ _ _ p hst=>pkT (v:=Bo ((!x29) || (decide (x_8.coef < 1)))) (p 4 21 rfl rfl) hc56 rfl (or_f hc56 (p 7 24 rfl rfl)) (nO rfl rfl hst)) (opsS_cons (fun f w_ _ _ _ _ p hst=>mF (p 8 25 rfl rfl) rfl (nO rfl rfl hst)) (opsS_cons (fun f w_ _ _ s _ p hst=>L_fa (o':=0) (g_yes rfl (Eq.trans (p 9 26 rfl rfl) (congrArg Value.bool hc194)) rfl) fa_117_0 ((s 4 rfl).trans rfl) rfl (nO rfl rfl hst)) (opsS_cons (fun f w_ _ _ _ _ p hst=>L_ld (v:=I x_8.coef) (g_yes rfl (Eq.trans (p 9 26 rfl rfl) (congrArg Value.bool hc194)) rfl) Try.isAgg3 (p 10 27 rfl rfl) (At.cell0 (Blk.at (Star.blkAt 0 hst rfl)) (j:=0) rfl) (nO rfl rfl hst)) (opsS_cons (fun f w_ _ _ _ _ p hst=>L_gtr (g_yes rfl (Eq.trans (p 9 26 rfl rfl) (congrArg Value.bool hc194)) rfl) (p 11 28 rfl rfl) rfl (nO rfl rfl hst)) (opsS_cons (fun f w_ _ _ _ _ p hst=>pkT (v:=Bo (((!x29) || (decide (x_8.coef < 1))) || (decide (x_8.coef > 1000)))) (p 9 26 rfl rfl) hc194 rfl (or_f hc194 (p 12 29 rfl rfl)) (nO rfl rfl hst)) (opsS_cons (fun f w_ _ _ _ _ p hst=>mF (p 13 30 rfl rfl) rfl (nO rfl rfl hst)) (opsS_cons (fun f w_ _ _ s _ p hst=>L_mv (v:=I i_5) (g_yes rfl (Eq.trans (p 14 31 rfl rfl) (congrArg Value.bool hc263)) rfl) ((s 3 rfl).trans sf3) (nO rfl rfl hst)) (opsS_cons (fun f w_ _ _ _ _ p hst=>L_gtr (g_yes rfl (Eq.trans (p 14 31 rfl rfl) (congrArg Value.bool hc263)) rfl) (p 15 32 rfl rfl) rfl (nO rfl rfl hst)) (opsS_cons (fun f w_ _ _ _ _ p hst=>L_mv (v:=Bo (decide ((i_5 : Int) > 0))) (g_yes rfl (Eq.trans (p 14 31 rfl rfl) (congrArg Value.bool hc263)) rfl) (p 16 33 rfl rfl) (nO rfl rfl hst)) (opsS_cons (fun f w_ _ _ s _ p hst=>L_fa (o':=0) (g_yes rfl (Eq.trans (p 17 34 rfl rfl) (congrArg Value.bool hc276)) rfl) fa_41_0 ((s 1 rfl).trans sf1) rfl (nO rfl rfl hst)) (opsS_cons (fun f w_ _ _ _ _ p hst=>L_ld (v:=v0_0) (g_yes rfl (Eq.trans (p 17 34 rfl rfl) (congrArg Value.bool hc276)) rfl) Try.isAgg39 (p 18 35 rfl rfl) (At.cell0 (Blk.at (Star.blkAt 1 hst rfl)) (j:=0) rfl) (nO rfl rfl hst)) (opsS_cons (fun f w_ _ _ s _ p hst=>L_mv (v:=I i_5) (g_yes rfl (Eq.trans (p 17 34 rfl rfl) (congrArg Value.bool hc276)) rfl) ((s 3 rfl).trans sf3) (nO rfl rfl hst)) (opsS_cons (fun f w_ _ _ _ _ p hst=>L_sub (g_yes rfl (Eq.trans (p 17 34 rfl rfl) (congrArg Value.bool hc276)) rfl) (p 20 37 rfl rfl) rfl (nO rfl rfl hst)) (opsS_cons ?_ ?_)))))))))))))))))))
 intro f w_ H52 X52 hS52 hE52 hP52 hst
 refine L_ix (r:=rTerm) (g_yes rfl (Eq.trans (hP52 17 34 rfl rfl) (congrArg Value.bool hc276)) rfl) Try.underlying39 Try.sizeOf117 (hP52 19 36 rfl rfl) (RP.mono _ h0_0 (Le.trans l7 hE52)) (hP52 21 38 rfl rfl) hx31 (fun g299 o300 cs_g299 hrk_hat301 hat301=>?_)
 obtain rfl:=rTerm_iff.1 hrk_hat301
 exact L_nil ⟨rfl,_,_,rfl,Le.refl _,fun _ _=>⟨_,_,_,rfl,hrk_hat301,hat301⟩,hst⟩
 refine opsS_cons ?_ ?_
 intro f w_ H52 X52 hS52 hE52 hP52 hst
 obtain ⟨g303,o303,cs303,hv303,hrk_hat303,hat303⟩:=(hP52 22 39 rfl rfl)
 obtain rfl:=rTerm_iff.1 hrk_hat303
 refine L_fa (o':=o303 + 1) (g_yes rfl (Eq.trans (hP52 17 34 rfl rfl) (congrArg Value.bool hc276)) rfl) fa_117_1 hv303 rfl (L_nil ⟨rfl,_,_,rfl,Le.refl _,fun _ _=>⟨_,_,_,rfl,hrk_hat303,hat303⟩,hst⟩)
 refine opsS_cons ?_ ?_
 intro f w_ H52 X52 hS52 hE52 hP52 hst
 obtain ⟨g305,o305,cs305,hv305,hrk_hat305,hat305⟩:=(hP52 23 40 rfl rfl)
 obtain rfl:=rTerm_iff.1 hrk_hat305
 refine L_ld (v:=I x31.lit) (g_yes rfl (Eq.trans (hP52 17 34 rfl rfl) (congrArg Value.bool hc276)) rfl) Try.isAgg3 hv305 (At.cell (AtH.at hat305 hst.sub) (j:=1) rfl) (L_nil ⟨rfl,_,_,rfl,Le.refl _,fun _ _=>rfl,hst⟩)
 refine opsS_cons ?_ ?_
 intro f w_ H52 X52 hS52 hE52 hP52 hst
 obtain ⟨H307b,l308,s309,z310,k311⟩:=hst.borrow
 refine L_call (g_yes rfl (Eq.trans (hP52 17 34 rfl rfl) (congrArg Value.bool hc276)) rfl) Try.call99 (ops1 (hP52 24 41 rfl rfl)) (s_l1Abs_c (n_:=x31.lit) s309 hx41) ?_
 rintro _ w312 ⟨rfl,hst⟩
 have hst:=k311 hst c0
 exact L_nil ⟨rfl,_,_,rfl,Le.refl _,fun _ _=>rfl,hst⟩
 refine opsS_cons (fun f w_ _ _ s _ p hst=>L_fa (o':=1) (g_yes rfl (Eq.trans (p 17 34 rfl rfl) (congrArg Value.bool hc276)) rfl) fa_117_1 ((s 4 rfl).trans rfl) rfl (nO rfl rfl hst)) (opsS_cons (fun f w_ _ _ _ _ p hst=>L_ld (v:=I x_8.lit) (g_yes rfl (Eq.trans (p 17 34 rfl rfl) (congrArg Value.bool hc276)) rfl) Try.isAgg3 (p 26 43 rfl rfl) (At.cell0 (Blk.at (Star.blkAt 0 hst rfl)) (j:=1) rfl) (nO rfl rfl hst)) (opsS_nil))
 obtain ⟨H313b,l314,s315,z316,k317⟩:=hst.borrow
 refine L_call (g_yes rfl (Eq.trans (hT52 17 34 rfl rfl) (congrArg Value.bool hc276)) rfl) Try.call99 (ops1 (hT52 27 44 rfl rfl)) (s_l1Abs_c (n_:=x_8.lit) s315 hx48) ?_
 rintro _ w318 ⟨rfl,hst⟩
 have hst:=k317 hst c0
 refine L_geq (g_yes rfl (Eq.trans (hT52 17 34 rfl rfl) (congrArg Value.bool hc276)) rfl) (hT52 25 42 rfl rfl) rfl (L_pick (v:=Bo b50) (g_yes rfl (Eq.trans (hT52 14 31 rfl rfl) (congrArg Value.bool hc263)) rfl) (Eq.trans (hT52 17 34 rfl rfl) (congrArg Value.bool hc276)) (congrArg Value.bool (so hb50)) (L_pick (v:=Bo b51) rfl (Eq.trans (hT52 14 31 rfl rfl) (congrArg Value.bool hc263)) (congrArg Value.bool (so hb51)) (nn ?_)))
 have hst:=hst.get 1 rfl
 exact rj hR55 ⟨H52,hE52,((hS52 1 rfl).trans sf1),((hS52 3 rfl).trans sf3),rfl,(Star.keepN 1 hst)⟩
 rw [ite_f hc276] at hb50
 refine W_drawS 28 [isV (Pq g21 1),isV (I x_8.lit),isV (Bo x29),isV (Bo (!x29)),isV (Bo (!x29)),isV (Pt g21),isV (I x_8.coef),isV (Bo (decide (x_8.coef < 1))),isV (Bo ((!x29) || (decide (x_8.coef < 1)))),isV (Bo ((!x29) || (decide (x_8.coef < 1)))),isV (Pt g21),isV (I x_8.coef),isV (Bo (decide (x_8.coef > 1000))),isV (Bo (((!x29) || (decide (x_8.coef < 1))) || (decide (x_8.coef > 1000)))),isV (Bo (((!x29) || (decide (x_8.coef < 1))) || (decide (x_8.coef > 1000)))),isV (I i_5),isV (Bo (decide ((i_5 : Int) > 0))),isV (Bo (decide ((i_5 : Int) > 0))),isV (undef),isV (undef),isV (undef),isV (undef),isV (undef),isV (undef),isV (undef),isV (undef),isV (undef),isV (undef)] [box g21 117 #[I x_8.coef,I x_8.lit],box g3 41 #[v0_0,I c.bound]] [] ([]) [([],[]),([],[]),([],[]),([],[]),([],[]),([],[]),([],[]),([],[]),([],[]),([],[]),([],[]),([],[]),([],[]),([],[]),([],[]),([],[]),([],[]),([],[]),([],[]),([],[]),([],[]),([],[]),([],[]),([],[]),([],[]),([],[]),([],[]),([],[])] (S:=[]) Try_mix (by kernel_rfl) rfl (by kernel_rfl) (amF_cons (mono_V _) (amF_cons (mono_V _) (amF_cons (mono_V _) (amF_cons (mono_V _) (amF_cons (mono_V _) (amF_cons (mono_V _) (amF_cons (mono_V _) (amF_cons (mono_V _) (amF_cons (mono_V _) (amF_cons (mono_V _) (amF_cons (mono_V _) (amF_cons (mono_V _) (amF_cons (mono_V _) (amF_cons (mono_V _) (amF_cons (mono_V _) (amF_cons (mono_V _) (amF_cons (mono_V _) (amF_cons (mono_V _) (amF_cons (mono_V _) (amF_cons (mono_V _) (amF_cons (mono_V _) (amF_cons (mono_V _) (amF_cons (mono_V _) (amF_cons (mono_V _) (amF_cons (mono_V _) (amF_cons (mono_V _) (amF_cons (mono_V _) (amF_cons (mono_V _) amF_nil)))))))))))))))))))))))))))) hst ?_ (fun f w_ H52 hS52 hE52 hT52 hst=>?_)
 refine opsS_cons (fun f w_ _ _ s _ _ hst=>fA 1 fa_117_1 ((s 4 rfl).trans rfl) rfl (nO rfl rfl hst)) (opsS_cons (fun f w_ _ _ _ _ p hst=>ldB 0 hst Try.isAgg3 (p 0 17 rfl rfl) rfl rfl (nO rfl rfl hst)) (opsS_cons ?_ ?_))
 intro f w_ H52 X52 hS52 hE52 hP52 hst
 obtain ⟨H325b,l326,s327,z328,k329⟩:=hst.borrow
 refine L_call rfl Try.call98 (ops1 (hP52 1 18 rfl rfl)) (s_l1Lit_c (n_:=x_8.lit) s327 hx29) ?_
 rintro _ w330 ⟨rfl,hst⟩
 have hst:=k329 hst c0
 exact L_nil ⟨rfl,_,_,rfl,Le.refl _,fun _ _=>rfl,hst⟩
 refine opsS_cons (fun f w_ _ _ _ _ p hst=>L_not_ rfl (p 2 19 rfl rfl) (nO rfl rfl hst)) (opsS_cons (fun f w_ _ _ _ _ p hst=>mF (p 3 20 rfl rfl) rfl (nO rfl rfl hst)) (opsS_cons (fun f w_ _ _ s _ p hst=>L_fa (o':=0) (g_yes rfl (Eq.trans (p 4 21 rfl rfl) (congrArg Value.bool hc56)) rfl) fa_117_0 ((s 4 rfl).trans rfl) rfl (nO rfl rfl hst)) (opsS_cons (fun f w_ _ _ _ _ p hst=>L_ld (v:=I x_8.coef) (g_yes rfl (Eq.trans (p 4 21 rfl rfl) (congrArg Value.bool hc56)) rfl) Try.isAgg3 (p 5 22 rfl rfl) (At.cell0 (Blk.at (Star.blkAt 0 hst rfl)) (j:=0) rfl) (nO rfl rfl hst)) (opsS_cons (fun f w_ _ _ _ _ p hst=>L_lss (g_yes rfl (Eq.trans (p 4 21 rfl rfl) (congrArg Value.bool hc56)) rfl) (p 6 23 rfl rfl) rfl (nO rfl rfl hst)) (opsS_cons (fun f w_ _ _ _ _ p hst=>pkT (v:=Bo ((!x29) || (decide (x_8.coef < 1)))) (p 4 21 rfl rfl) hc56 rfl (or_f hc56 (p 7 24 rfl rfl)) (nO rfl rfl hst)) (opsS_cons (fun f w_ _ _ _ _ p hst=>mF (p 8 25 rfl rfl) rfl (nO rfl rfl hst)) (opsS_cons (fun f w_ _ _ s _ p hst=>L_fa (o':=0) (g_yes rfl (Eq.trans (p 9 26 rfl rfl) (congrArg Value.bool hc194)) rfl) fa_117_0 ((s 4 rfl).trans rfl) rfl (nO rfl rfl hst)) (opsS_cons (fun f w_ _ _ _ _ p hst=>L_ld (v:=I x_8.coef) (g_yes rfl (Eq.trans (p 9 26 rfl rfl) (congrArg Value.bool hc194)) rfl) Try.isAgg3 (p 10 27 rfl rfl) (At.cell0 (Blk.at (Star.blkAt 0 hst rfl)) (j:=0) rfl) (nO rfl rfl hst)) (opsS_cons (fun f w_ _ _ _ _ p hst=>L_gtr (g_yes rfl (Eq.trans (p 9 26 rfl rfl) (congrArg Value.bool hc194)) rfl) (p 11 28 rfl rfl) rfl (nO rfl rfl hst)) (opsS_cons (fun f w_ _ _ _ _ p hst=>pkT (v:=Bo (((!x29) || (decide (x_8.coef < 1))) || (decide (x_8.coef > 1000)))) (p 9 26 rfl rfl) hc194 rfl (or_f hc194 (p 12 29 rfl rfl)) (nO rfl rfl hst)) (opsS_cons (fun f w_ _ _ _ _ p hst=>mF (p 13 30 rfl rfl) rfl (nO rfl rfl hst)) (opsS_cons (fun f w_ _ _ s _ p hst=>L_mv (v:=I i_5) (g_yes rfl (Eq.trans (p 14 31 rfl rfl) (congrArg Value.bool hc263)) rfl) ((s 3 rfl).trans sf3) (nO rfl rfl hst)) (opsS_cons (fun f w_ _ _ _ _ p hst=>L_gtr (g_yes rfl (Eq.trans (p 14 31 rfl rfl) (congrArg Value.bool hc263)) rfl) (p 15 32 rfl rfl) rfl (nO rfl rfl hst)) (opsS_cons (fun f w_ _ _ _ _ p hst=>L_mv (v:=Bo (decide ((i_5 : Int) > 0))) (g_yes rfl (Eq.trans (p 14 31 rfl rfl) (congrArg Value.bool hc263)) rfl) (p 16 33 rfl rfl) (nO rfl rfl hst)) (oP (fun _ _ p=>gN (p 17 34 rfl rfl) hc276 rfl) (fun _=>rfl) (oP (fun _ _ p=>gN (p 17 34 rfl rfl) hc276 rfl) (fun _=>rfl) (oP (fun _ _ p=>gN (p 17 34 rfl rfl) hc276 rfl) (fun _=>rfl) (oP (fun _ _ p=>gN (p 17 34 rfl rfl) hc276 rfl) (fun _=>rfl) (oP (fun _ _ p=>gN (p 17 34 rfl rfl) hc276 rfl) (fun _=>rfl) (oP (fun _ _ p=>gN (p 17 34 rfl rfl) hc276 rfl) (fun _=>rfl) (oP (fun _ _ p=>gN (p 17 34 rfl rfl) hc276 rfl) (fun _=>rfl) (oP (fun _ _ p=>gN (p 17 34 rfl rfl) hc276 rfl) (fun _=>rfl) (oP (fun _ _ p=>gN (p 17 34 rfl rfl) hc276 rfl) (fun _=>rfl) (oP (fun _ _ p=>gN (p 17 34 rfl rfl) hc276 rfl) (fun _=>rfl) (opsS_nil)))))))))))))))))))))))))
 refine ps (g_no rfl (Eq.trans (hT52 17 34 rfl rfl) (congrArg Value.bool hc276)) rfl rfl) (ps (g_no rfl (Eq.trans (hT52 17 34 rfl rfl) (congrArg Value.bool hc276)) rfl rfl) (L_pick (v:=Bo b50) (g_yes rfl (Eq.trans (hT52 14 31 rfl rfl) (congrArg Value.bool hc263)) rfl) (Eq.trans (hT52 17 34 rfl rfl) (congrArg Value.bool hc276)) (congrArg Value.bool (so hb50)) (L_pick (v:=Bo b51) rfl (Eq.trans (hT52 14 31 rfl rfl) (congrArg Value.bool hc263)) (congrArg Value.bool (so hb51)) (nn ?_))))
 have hst:=hst.get 1 rfl
 exact rj hR55 ⟨H52,hE52,((hS52 1 rfl).trans sf1),((hS52 3 rfl).trans sf3),rfl,(Star.keepN 1 hst)⟩
 intro f w_ hR
 obtain ⟨H53,l54,sf1,sf3,sf48,hst⟩:=rk hR55 hR
 refine W_cond (b:=b51) sf48 (fun hc331=>?_) (fun hc331=>?_)
 have hB8:=(ite_t hc331).symm.trans hB8
 refine sq (aB rfl (nn (W_ret (retG1 (v1:=Bo false) Try.results56 rfl ?_))))
 obtain rfl:=so hB8
 obtain rfl:=so hL8
 obtain rfl:=so hF
 exact ⟨rfl,(Star.down (Star.keepN 0 hst) (Le.trans l7 l54) c0)⟩
 have hB8:=(ite_f hc331).symm.trans hB8
 refine W_skip (W_region (mF sf3 rfl (L_add rfl rfl rfl (aI rfl (nn ?_)))))
 obtain rfl:=so hB8
 show ∃ m,m < _∧I8 m _ _
 refine ⟨rest8.length,by simp,?_⟩
 exact ij hI8 ⟨i_5 + 1,rest8,H53,rfl,drop_next hd8,by simp at hl8; omega,hL8,(Le.trans l7 l54),sf1,(Eq.trans rfl (congrArg (Value.int .i64) (i64_succ (n:=c.terms.length) (by simp at hl8; omega) hlen8))),hst⟩
 rcases suf8 with _ | ⟨_,_⟩
 obtain rfl:=range_nil hL8
 refine W_exit (rj hR8 ⟨H6,rfl,l7,sf1,hst⟩)
 exact absurd (of_decide_eq_false hc9) (by simp at hl8; omega)
 intro f w_ hR
 obtain ⟨H6,rfl,l7,sf1,hst⟩:=rk hR8 hR
 refine W_seq ?_
 obtain ⟨R332,hR332⟩:=exR fun f w_=>f 2 = Bo ((decide (c.bound ≥ 0)) && (decide (c.bound≤20000)))∧Star H6 w_ ([])
 refine W_join R332 ?_ ?_
 refine W_region (fA 1 fa_41_1 sf1 rfl (ldB 0 hst Try.isAgg3 rfl rfl rfl (L_geq rfl rfl rfl (mB rfl (L_split (d:=52) (b:=decide (c.bound ≥ 0)) rfl (fun hc333=>?_) (fun hc333=>?_))))))
 refine fA 1 fa_41_1 sf1 rfl (ldB 0 hst Try.isAgg3 rfl rfl rfl (L_leq rfl rfl rfl (L_pick (v:=Bo ((decide (c.bound ≥ 0)) && (decide (c.bound≤20000)))) rfl rfl (and_t hc333 rfl) (aB rfl (nn (rj hR332 ⟨rfl,(Star.keepN 0 hst)⟩))))))
 refine ps rfl (ps rfl (ps rfl (L_pick (v:=Bo ((decide (c.bound ≥ 0)) && (decide (c.bound≤20000)))) rfl rfl (and_f hc333) (aB rfl (nn (rj hR332 ⟨rfl,(Star.keepN 0 hst)⟩))))))
 intro f w_ hR
 obtain ⟨sf2,hst⟩:=rk hR332 hR
 refine W_ret (retG1 (v1:=Bo ((decide (c.bound ≥ 0)) && (decide (c.bound≤20000)))) Try.results56 sf2 ?_)
 obtain rfl:=so hF
 exact ⟨rfl,(Star.down hst l7 c0)⟩
theorem s_ProblemValid_c {list : List Con} {v0 : Value} {H : FH} {w : World} (hst : Star H w []) (h0 : (rS 41 (rCon 117)).rel H [v0] list) {r : Bool} (hF : s_ProblemValid list = some r) :
 C Try.prog 75 #[v0] w fun v w'=>v = Bo r∧Star H w' []:=by
 unfold s_ProblemValid at hF
 refine C_enter Try.func75 rfl Try.ntmps75 rfl (sq (aB rfl (nq (sq (aI rfl (nn ?_))))))
 have hlen2 : List.length list≤9223372036854775807:=len_le (slice_len h0)
 obtain ⟨j2,hL2,hF⟩:=bind_some hF
 obtain ⟨R2,hR2⟩:=exR fun f w_=>j2 = .nx ()∧f 0 = v0∧Star H w_ ([])
 refine W_join R2 ?_ ?_
 refine W_block ?_
 obtain ⟨I2,hI2⟩:=exI fun n f w_=>∃ i_1 : Nat,∃ suf2 : List Con,n = suf2.length∧List.drop i_1 list = suf2∧i_1 + suf2.length = list.length∧rangeL s_ProblemValid_b1 suf2 i_1 () = some j2∧f 0 = v0∧f 3 = I i_1∧Star H w_ ([])
 refine W_loop I2 (n:=list.length) ?_ ?_
 exact ij hI2 ⟨0,list,rfl,rfl,Nat.zero_add _,hL2,rfl,rfl,hst⟩
 intro n2 f w_ hI
 obtain ⟨i_1,suf2,rfl,hd2,hl2,hL2,sf0,sf3,hst⟩:=ik hI2 hI
 refine W_seq (sq (mF sf3 rfl (mF sf0 rfl (L_len rfl Try.underlying27 rfl (slice_len h0) (L_lss rfl rfl rfl (nn (W_cond (b:=decide ((i_1 : Int) < (list.length : Int))) rfl (fun hc3=>?_) (fun hc3=>?_))))))))
 have hlt2:=of_decide_eq_true hc3
 rcases suf2 with _ | ⟨x_2,rest2⟩
 exact absurd hlt2 (by simp at hl2; omega)
 obtain ⟨o2,hB2,hL2⟩:=range_cons hL2
 rw [s_ProblemValid_b1] at hB2
 have hix2:=drop_idx hd2
 refine W_skip (W_seq (W_block (W_seq ?_)))
 obtain ⟨x13,hx13,hB2⟩:=bind_some hB2
 refine W_region (mF sf0 rfl (mF sf3 rfl (L_ix (r:=(rCon 117)) rfl Try.underlying27 Try.sizeOf41 rfl h0 rfl hix2 (fun g15 o16 cs_g15 hrk_hat17 hat17=>?_))))
 obtain ⟨u18_0,rfl,hu18_0⟩:=rCon_iff.1 hrk_hat17
 refine L_lda (cs:=[u18_0,I x_2.bound]) rfl Try.isAgg41 Try.sizeOf41 rfl (At.sub (AtH.at hat17 hst.sub) 0 2) rfl ?_
 obtain ⟨H19b,l20,s21,z22,k23⟩:=hst.borrow
 refine L_call rfl Try.call56 (ops1 rfl) (s_ConstraintValid_c (c:=x_2) s21 (RP.mono _ hu18_0 l20) hx13) ?_
 rintro _ w24 ⟨rfl,hst⟩
 have hst:=k23 hst c0
 refine L_not_ rfl rfl (nn (W_cond (b:=(!x13)) rfl (fun hc25=>?_) (fun hc25=>?_)))
 have hB2:=(ite_t hc25).symm.trans hB2
 refine sq (aB rfl (nn (W_ret (retG1 (v1:=Bo false) Try.results75 rfl ?_))))
 obtain rfl:=so hB2
 obtain rfl:=so hL2
 obtain rfl:=so hF
 exact ⟨rfl,hst⟩
 have hB2:=(ite_f hc25).symm.trans hB2
 refine W_skip (W_region (mF sf3 rfl (L_add rfl rfl rfl (aI rfl (nn ?_)))))
 obtain rfl:=so hB2
 show ∃ m,m < _∧I2 m _ _
 refine ⟨rest2.length,by simp,?_⟩
 exact ij hI2 ⟨i_1 + 1,rest2,rfl,drop_next hd2,by simp at hl2; omega,hL2,sf0,(Eq.trans rfl (congrArg (Value.int .i64) (i64_succ (n:=list.length) (by simp at hl2; omega) hlen2))),hst⟩
 rcases suf2 with _ | ⟨_,_⟩
 obtain rfl:=range_nil hL2
 refine W_exit (rj hR2 ⟨rfl,sf0,hst⟩)
 exact absurd (of_decide_eq_false hc3) (by simp at hl2; omega)
 intro f w_ hR
 obtain ⟨rfl,sf0,hst⟩:=rk hR2 hR
 refine sq (mF sf0 rfl (L_len rfl Try.underlying27 rfl (slice_len h0) (L_leq rfl rfl rfl (aB rfl (nn (W_ret (retG1 (v1:=Bo (decide ((list.length : Int)≤400))) Try.results75 rfl ?_)))))))
 obtain rfl:=so hF
 exact ⟨rfl,hst⟩
theorem s_WeakenConstraint_c {c : Con} {variable_ : Int} {v0_0 : Value} {H : FH} {w : World} (hst : Star H w []) (h0_0 : (rS 117 rTerm).rel H [v0_0] c.terms) {r : Con × Bool} (hF : s_WeakenConstraint c variable_ = some r) :
 C Try.prog 72 #[.agg #[v0_0,I c.bound],I variable_] w fun v w'=>∃ (u1 : Value),v = .tuple #[.agg #[u1,I r.1.bound],Bo r.2]∧Star H w' [oF 117 rTerm u1 r.1.terms]:=by
 unfold s_WeakenConstraint at hF
 refine C_enter Try.func72 rfl Try.ntmps72 rfl (sq (L_box (v:=.agg #[v0_0,I c.bound]) (cs:=#[v0_0,I c.bound]) rfl rfl rfl hst (fun g5 w6 hst=>L_al (cs:=#[S0,I 0]) rfl Try.zeroValue41 rfl hst (fun g7 w8 hst=>aB rfl (nq (W_seq ?_))))))
 obtain ⟨x14,hx14,hF⟩:=bind_some hF
 obtain ⟨R16,hR16⟩:=exR fun f w_=>f 1 = I variable_∧f 2 = Pt g5∧f 4 = Pt g7∧f 18 = Bo (((!x14) || (decide (variable_ < 1))) || (decide (variable_ > 12)))∧Star H w_ ([box g7 41 #[S0,I 0],box g5 41 #[v0_0,I c.bound]])
 refine W_join R16 ?_ ?_
 refine W_region (L_lda (cs:=[v0_0,I c.bound]) rfl Try.isAgg41 Try.sizeOf41 rfl (At.sub0 (Blk.at (Star.blkAt 1 hst rfl)) 0 2) rfl ?_)
 obtain ⟨H17b,l18,s19,z20,k21⟩:=hst.borrow
 refine L_call rfl Try.call56 (ops1 rfl) (s_ConstraintValid_c (c:=c) s19 (RP.mono _ h0_0 l18) hx14) ?_
 rintro _ w22 ⟨rfl,hst⟩
 have hst:=k21 hst c0
 refine L_not_ rfl rfl (mB rfl (L_split (d:=11) (b:=(!x14)) rfl (fun hc23=>?_) (fun hc23=>?_)))
 refine ps rfl (ps rfl (L_pick (v:=Bo ((!x14) || (decide (variable_ < 1)))) rfl rfl (or_t hc23) (mB rfl (L_split (d:=15) (b:=((!x14) || (decide (variable_ < 1)))) rfl (fun hc24=>?_) (fun hc24=>?_)))))
 refine ps rfl (ps rfl (L_pick (v:=Bo (((!x14) || (decide (variable_ < 1))) || (decide (variable_ > 12)))) rfl rfl (or_t hc24) (nn (rj hR16 ⟨rfl,rfl,rfl,rfl,hst⟩))))
 refine mI rfl (L_gtr rfl rfl rfl (L_pick (v:=Bo (((!x14) || (decide (variable_ < 1))) || (decide (variable_ > 12)))) rfl rfl (or_f hc24 rfl) (nn (rj hR16 ⟨rfl,rfl,rfl,rfl,hst⟩))))
 refine mI rfl (L_lss rfl rfl rfl (L_pick (v:=Bo ((!x14) || (decide (variable_ < 1)))) rfl rfl (or_f hc23 rfl) (mB rfl (L_split (d:=15) (b:=((!x14) || (decide (variable_ < 1)))) rfl (fun hc25=>?_) (fun hc25=>?_)))))
 refine ps rfl (ps rfl (L_pick (v:=Bo (((!x14) || (decide (variable_ < 1))) || (decide (variable_ > 12)))) rfl rfl (or_t hc25) (nn (rj hR16 ⟨rfl,rfl,rfl,rfl,hst⟩))))
 refine mI rfl (L_gtr rfl rfl rfl (L_pick (v:=Bo (((!x14) || (decide (variable_ < 1))) || (decide (variable_ > 12)))) rfl rfl (or_f hc25 rfl) (nn (rj hR16 ⟨rfl,rfl,rfl,rfl,hst⟩))))
 intro f w_ hR
 obtain ⟨sf1,sf2,sf4,sf18,hst⟩:=rk hR16 hR
 refine W_cond (b:=(((!x14) || (decide (variable_ < 1))) || (decide (variable_ > 12)))) sf18 (fun hc26=>?_) (fun hc26=>?_)
 have hF:=(ite_t hc26).symm.trans hF
 refine sq (L_bld rfl (parts0 ) (bld_41_  ) (L_staB (vs:=#[S0,I 0]) (cs2:=#[S0,I 0]) 0 rfl Try.sizeOf41 sf4 rfl rfl (ones_cons rfl (ones_cons rfl ones_nil)) hst rfl (by show 0 + 2≤2; decide) rfl (fun w28 hst=>aB rfl (nn (W_ret (retG2 (v1:=.agg #[S0,I 0]) (v2:=Bo false) Try.results72 (resV_agg Try.isAgg41 Try.sizeOf41 sf4 (Star.blkAt 0 hst rfl) rfl) rfl ?_))))))
 obtain rfl:=so hF
 have hst:=Star.addNil (R:=(OR.frz rTerm)) (e:=117) hst
 exact ⟨S0,rfl,(Star.keepN 1 hst)⟩
 have hF:=(ite_f hc26).symm.trans hF
 refine W_skip (sq (fA 1 fa_41_1 sf2 rfl (ldB 1 hst Try.isAgg3 rfl rfl rfl (L_bld rfl (parts1 rfl) (bld_41_1 (I c.bound) rfl) (L_al (cs:=#[S0,I 0]) rfl Try.zeroValue41 rfl hst (fun g33 w34 hst=>L_staB (vs:=#[S0,I c.bound]) (cs2:=#[S0,I c.bound]) 0 rfl Try.sizeOf41 rfl rfl rfl (ones_cons rfl (ones_cons rfl ones_nil)) hst rfl (by show 0 + 2≤2; decide) rfl (fun w35 hst=>nq (sq (aI rfl (nn ?_))))))))))
 have hlen42 : List.length c.terms≤9223372036854775807:=len_le (slice_len h0_0)
 obtain ⟨j42,hL42,hF⟩:=bind_some hF
 obtain ⟨R42,hR42⟩:=exR fun f w_=>∃ g33_0_37 : List Term,∃ g33_1_39 : Int,∃ H40 : FH,∃ v37_g33_0 : Value,j42 = .nx (g33_0_37,g33_1_39)∧Le H H40∧f 4 = Pt g7∧f 6 = Pt g33∧Star H40 w_ ([oF 117 rTerm v37_g33_0 g33_0_37,box g33 41 #[v37_g33_0,I g33_1_39],box g7 41 #[S0,I 0]])
 refine W_join R42 ?_ ?_
 refine W_block ?_
 obtain ⟨I42,hI42⟩:=exI fun n f w_=>∃ i_36 : Nat,∃ suf42 : List Term,∃ g33_0_37 : List Term,∃ g33_1_39 : Int,∃ H40 : FH,∃ v37_g33_0 : Value,n = suf42.length∧List.drop i_36 c.terms = suf42∧i_36 + suf42.length = c.terms.length∧rangeL (s_WeakenConstraint_b1 variable_) suf42 i_36 (g33_0_37,g33_1_39) = some j42∧Le H H40∧f 1 = I variable_∧f 2 = Pt g5∧f 4 = Pt g7∧f 6 = Pt g33∧f 7 = I i_36∧Star H40 w_ ([oF 117 rTerm v37_g33_0 g33_0_37,box g33 41 #[v37_g33_0,I g33_1_39],box g7 41 #[S0,I 0],box g5 41 #[v0_0,I c.bound]])
 have hst:=Star.addNil (R:=(OR.frz rTerm)) (e:=117) hst
 refine W_loop I42 (n:=c.terms.length) ?_ ?_
 exact ij hI42 ⟨0,c.terms,[],c.bound,H,S0,rfl,rfl,Nat.zero_add _,hL42,(Le.refl _),sf1,sf2,sf4,rfl,rfl,hst⟩
 intro n42 f w_ hI
 obtain ⟨i_36,suf42,g33_0_37,g33_1_39,H40,v37_g33_0,rfl,hd42,hl42,hL42,l41,sf1,sf2,sf4,sf6,sf7,hst⟩:=ik hI42 hI
 refine W_seq (sq (mF sf7 rfl (fA 0 fa_41_0 sf2 rfl (ldB 3 hst Try.isAgg39 rfl rfl rfl (L_len rfl Try.underlying39 rfl (slice_len (RP.mono _ h0_0 l41)) (L_lss rfl rfl rfl (nn (W_cond (b:=decide ((i_36 : Int) < (c.terms.length : Int))) rfl (fun hc44=>?_) (fun hc44=>?_)))))))))
 have hlt42:=of_decide_eq_true hc44
 rcases suf42 with _ | ⟨x_42,rest42⟩
 exact absurd hlt42 (by simp at hl42; omega)
 obtain ⟨o42,hB42,hL42⟩:=range_cons hL42
 rw [s_WeakenConstraint_b1] at hB42
 have hix42:=drop_idx hd42
 refine W_skip (W_seq (W_block (W_seq ?_)))
 obtain ⟨x54,hx54,hB42⟩:=bind_some hB42
 refine W_region (fA 0 fa_41_0 sf2 rfl (ldB 3 hst Try.isAgg39 rfl rfl rfl (mF sf7 rfl (L_ix (r:=rTerm) rfl Try.underlying39 Try.sizeOf117 rfl (RP.mono _ h0_0 l41) rfl hix42 (fun g56 o57 cs_g56 hrk_hat58 hat58=>?_)))))
 obtain rfl:=rTerm_iff.1 hrk_hat58
 refine fA (o57 + 1) fa_117_1 rfl rfl (L_ld rfl Try.isAgg3 rfl (At.cell (AtH.at hat58 hst.sub) (j:=1) rfl) ?_)
 obtain ⟨H60b,l61,s62,z63,k64⟩:=hst.borrow
 refine L_call rfl Try.call99 (ops1 rfl) (s_l1Abs_c (n_:=x_42.lit) s62 hx54) ?_
 rintro _ w65 ⟨rfl,hst⟩
 have hst:=k64 hst c0
 refine mF sf1 rfl (L_eql rfl rfl rfl (nn ?_))
 obtain ⟨⟨g33_0_66,g33_1_68⟩,hA71,hB42⟩:=bind_some hB42
 obtain ⟨R71,hR71⟩:=exR fun f w_=>∃ H69 : FH,∃ v66_g33_0 : Value,Le H40 H69∧f 1 = I variable_∧f 2 = Pt g5∧f 4 = Pt g7∧f 6 = Pt g33∧f 7 = I i_36∧Star H69 w_ ([oF 117 rTerm v66_g33_0 g33_0_66,box g33 41 #[v66_g33_0,I g33_1_68],box g7 41 #[S0,I 0],box g5 41 #[v0_0,I c.bound]])
 refine W_join R71 ?_ ?_
 refine W_cond (b:=(x54 == variable_)) rfl (fun hc72=>?_) (fun hc72=>?_)
 have hA71:=(ite_t hc72).symm.trans hA71
 refine W_drawS 8 [isV (Pq g33 1),isV (I g33_1_39),isV (Pt g5),isV (v0_0),isV (I i_36),isEl rTerm x_42 0,isEl rTerm x_42 0,isV (I x_42.coef)] [oF 117 rTerm v37_g33_0 g33_0_37,box g33 41 #[v37_g33_0,I g33_1_39],box g7 41 #[S0,I 0],box g5 41 #[v0_0,I c.bound]] [] ([]) [([],[]),([],[]),([],[]),([],[]),([],[]),([],[]),([],[]),([],[])] (S:=[]) Try_mix (by kernel_rfl) rfl (by kernel_rfl) (amF_cons (mono_V _) (amF_cons (mono_V _) (amF_cons (mono_V _) (amF_cons (mono_V _) (amF_cons (mono_V _) (amF_cons (mono_el _ _ _) (amF_cons (mono_el _ _ _) (amF_cons (mono_V _) amF_nil)))))))) hst ?_ (fun f w_ H78 hS78 hE78 hT78 hst=>?_)
 refine opsS_cons (fun f w_ _ _ s _ _ hst=>fA 1 fa_41_1 ((s 6 rfl).trans sf6) rfl (nO rfl rfl hst)) (opsS_cons (fun f w_ _ _ _ _ p hst=>ldB 1 hst Try.isAgg3 (p 0 39 rfl rfl) rfl rfl (nO rfl rfl hst)) (opsS_cons (fun f w_ _ _ s _ _ hst=>fA 0 fa_41_0 ((s 2 rfl).trans sf2) rfl (nO rfl rfl hst)) (opsS_cons (fun f w_ _ _ _ _ p hst=>ldB 3 hst Try.isAgg39 (p 2 41 rfl rfl) rfl rfl (nO rfl rfl hst)) (opsS_cons (fun f w_ _ _ s _ _ hst=>mF ((s 7 rfl).trans sf7) rfl (nO rfl rfl hst)) (opsS_cons ?_ ?_)))))
 intro f w_ H78 X78 hS78 hE78 hP78 hst
 refine L_ix (r:=rTerm) rfl Try.underlying39 Try.sizeOf117 (hP78 3 42 rfl rfl) (RP.mono _ h0_0 (Le.trans l41 hE78)) (hP78 4 43 rfl rfl) hix42 (fun g83 o84 cs_g83 hrk_hat85 hat85=>?_)
 obtain rfl:=rTerm_iff.1 hrk_hat85
 exact L_nil ⟨rfl,_,_,rfl,Le.refl _,fun _ _=>⟨_,_,_,rfl,hrk_hat85,hat85⟩,hst⟩
 refine opsS_cons ?_ ?_
 intro f w_ H78 X78 hS78 hE78 hP78 hst
 obtain ⟨g87,o87,cs87,hv87,hrk_hat87,hat87⟩:=(hP78 5 44 rfl rfl)
 obtain rfl:=rTerm_iff.1 hrk_hat87
 refine fA o87 fa_117_0 hv87 rfl (L_nil ⟨rfl,_,_,rfl,Le.refl _,fun _ _=>⟨_,_,_,rfl,hrk_hat87,hat87⟩,hst⟩)
 refine opsS_cons ?_ ?_
 intro f w_ H78 X78 hS78 hE78 hP78 hst
 obtain ⟨g89,o89,cs89,hv89,hrk_hat89,hat89⟩:=(hP78 6 45 rfl rfl)
 obtain rfl:=rTerm_iff.1 hrk_hat89
 refine L_ld rfl Try.isAgg3 hv89 (At.cell (AtH.at hat89 hst.sub) (j:=0) rfl) (L_nil ⟨rfl,_,_,rfl,Le.refl _,fun _ _=>rfl,hst⟩)
 exact opsS_nil
 refine L_sub rfl (hT78 1 40 rfl rfl) (hT78 7 46 rfl rfl) (fA 1 fa_41_1 ((hS78 6 rfl).trans sf6) rfl (L_stB (v:=I (i64 (g33_1_39 - x_42.coef))) (cs2:=#[v37_g33_0,I (i64 (g33_1_39 - x_42.coef))]) 1 rfl Try.sizeOf3 rfl rfl rfl hst rfl rfl rfl (fun w91 hst=>nn ?_)))
 obtain ⟨rfl,rfl⟩:=so2 hA71
 have hst:=hst.gets [3,3,2,3] rfl
 exact rj hR71 ⟨H78,v37_g33_0,hE78,((hS78 1 rfl).trans sf1),((hS78 2 rfl).trans sf2),((hS78 4 rfl).trans sf4),((hS78 6 rfl).trans sf6),((hS78 7 rfl).trans sf7),hst⟩
 have hA71:=(ite_f hc72).symm.trans hA71
 obtain ⟨x99,hx99,hA71⟩:=bind_some hA71
 refine W_drawS 8 [isV (Pt g33),isV (v37_g33_0),isV (Pt g5),isV (v0_0),isV (I i_36),isEl rTerm x_42 0,isV (.agg #[I x_42.coef,I x_42.lit]),anyF] [oF 117 rTerm v37_g33_0 g33_0_37,box g33 41 #[v37_g33_0,I g33_1_39],box g7 41 #[S0,I 0],box g5 41 #[v0_0,I c.bound]] [.made 7 56 (fun v_=>oF 117 rTerm v_ ([x_42])) none] ([]) [([],[]),([],[]),([],[]),([],[]),([],[]),([],[]),([],[]),([],[0])] (S:=[(some 7,[56],none)]) Try_mix (by kernel_rfl) rfl (by kernel_rfl) (amF_cons (mono_V _) (amF_cons (mono_V _) (amF_cons (mono_V _) (amF_cons (mono_V _) (amF_cons (mono_V _) (amF_cons (mono_el _ _ _) (amF_cons (mono_V _) (amF_cons (mono_any) amF_nil)))))))) hst ?_ (fun f w_ H104 hS104 hE104 hT104 hst=>?_)
 refine opsS_cons (fun f w_ _ _ s _ _ hst=>fA 0 fa_41_0 ((s 6 rfl).trans sf6) rfl (nO rfl rfl hst)) (opsS_cons (fun f w_ _ _ _ _ p hst=>ldB 1 hst Try.isAgg39 (p 0 49 rfl rfl) rfl rfl (nO rfl rfl hst)) (opsS_cons (fun f w_ _ _ s _ _ hst=>fA 0 fa_41_0 ((s 2 rfl).trans sf2) rfl (nO rfl rfl hst)) (opsS_cons (fun f w_ _ _ _ _ p hst=>ldB 3 hst Try.isAgg39 (p 2 51 rfl rfl) rfl rfl (nO rfl rfl hst)) (opsS_cons (fun f w_ _ _ s _ _ hst=>mF ((s 7 rfl).trans sf7) rfl (nO rfl rfl hst)) (opsS_cons ?_ ?_)))))
 intro f w_ H104 X104 hS104 hE104 hP104 hst
 refine L_ix (r:=rTerm) rfl Try.underlying39 Try.sizeOf117 (hP104 3 52 rfl rfl) (RP.mono _ h0_0 (Le.trans l41 hE104)) (hP104 4 53 rfl rfl) hix42 (fun g112 o113 cs_g112 hrk_hat114 hat114=>?_)
 obtain rfl:=rTerm_iff.1 hrk_hat114
 exact L_nil ⟨rfl,_,_,rfl,Le.refl _,fun _ _=>⟨_,_,_,rfl,hrk_hat114,hat114⟩,hst⟩
 refine opsS_cons ?_ ?_
 intro f w_ H104 X104 hS104 hE104 hP104 hst
 obtain ⟨g116,o116,cs116,hv116,hrk_hat116,hat116⟩:=(hP104 5 54 rfl rfl)
 obtain rfl:=rTerm_iff.1 hrk_hat116
 refine L_lda (cs:=[I x_42.coef,I x_42.lit]) rfl Try.isAgg117 Try.sizeOf117 hv116 (At.sub (AtH.at hat116 hst.sub) 0 2) rfl (L_nil ⟨rfl,_,_,rfl,Le.refl _,fun _ _=>rfl,hst⟩)
 refine opsS_cons ?_ ?_
 intro f w_ H104 X104 hS104 hE104 hP104 hst
 refine L_bs rfl (parts1 (hP104 6 55 rfl rfl)) (bs_39_1_2 (I x_42.coef) (I x_42.lit) ) hst (fun g118 w119 hst=>?_)
 have hst:=Star.addF (r:=rTerm) (cs:=[I x_42.coef,I x_42.lit]) (x:=x_42) hst (rTerm_iff.2 rfl)
 have hst:=Star.mkRow (R:=(OR.frz rTerm)) [([I x_42.coef,I x_42.lit],x_42)] [x_42] 1 hst rfl rfl rfl (by decide)
 have hst:=hst.gets [4,4,4,4] rfl
 exact L_nil ⟨rfl,_,_,rfl,Le.refl _,fun _ _=>trivial,hst⟩
 exact opsS_nil
 have hst : Star H104 w_ ([oF 117 rTerm v37_g33_0 g33_0_37,box g33 41 #[v37_g33_0,I g33_1_39],box g7 41 #[S0,I 0],box g5 41 #[v0_0,I c.bound],oF 117 rTerm (f 56) ([x_42])]):=hst
 have hst:=hst.gets [4,1] rfl
 refine L_appM (v:=v37_g33_0) (u:=(f 56)) rfl et_39 (hT104 1 50 rfl rfl) rfl hst hx99 (fun v122 w123 hst=>fA 0 fa_41_0 ((hS104 6 rfl).trans sf6) rfl (L_stB (v:=v122) (cs2:=#[v122,I g33_1_39]) 1 rfl Try.sizeOf39 rfl rfl (one_len (Star.len 0 hst rfl)) hst rfl rfl rfl (fun w125 hst=>nn ?_)))
 obtain ⟨rfl,rfl⟩:=so2 hA71
 have hst:=hst.gets [3,3,2,3] rfl
 exact rj hR71 ⟨H104,v122,hE104,((hS104 1 rfl).trans sf1),((hS104 2 rfl).trans sf2),((hS104 4 rfl).trans sf4),((hS104 6 rfl).trans sf6),((hS104 7 rfl).trans sf7),hst⟩
 intro f w_ hR
 obtain ⟨H69,v66_g33_0,l70,sf1,sf2,sf4,sf6,sf7,hst⟩:=rk hR71 hR
 refine W_region (mF sf7 rfl (L_add rfl rfl rfl (aI rfl (nn ?_))))
 obtain rfl:=so hB42
 show ∃ m,m < _∧I42 m _ _
 refine ⟨rest42.length,by simp,?_⟩
 exact ij hI42 ⟨i_36 + 1,rest42,g33_0_66,g33_1_68,H69,v66_g33_0,rfl,drop_next hd42,by simp at hl42; omega,hL42,(Le.trans l41 l70),sf1,sf2,sf4,sf6,(Eq.trans rfl (congrArg (Value.int .i64) (i64_succ (n:=c.terms.length) (by simp at hl42; omega) hlen42))),hst⟩
 rcases suf42 with _ | ⟨_,_⟩
 obtain rfl:=range_nil hL42
 refine W_exit (rj hR42 ⟨g33_0_37,g33_1_39,H40,v37_g33_0,rfl,l41,sf4,sf6,(Star.keepN 3 hst)⟩)
 exact absurd (of_decide_eq_false hc44) (by simp at hl42; omega)
 intro f w_ hR
 obtain ⟨g33_0_37,g33_1_39,H40,v37_g33_0,rfl,l41,sf4,sf6,hst⟩:=rk hR42 hR
 refine W_seq (sq (fA 1 fa_41_1 sf6 rfl (ldB 1 hst Try.isAgg3 rfl rfl rfl (L_lss rfl rfl rfl (nn ?_)))))
 obtain ⟨g33_1_126,hA127,hF⟩:=bind_some hF
 obtain ⟨R127,hR127⟩:=exR fun f w_=>f 4 = Pt g7∧f 6 = Pt g33∧Star H40 w_ ([oF 117 rTerm v37_g33_0 g33_0_37,box g33 41 #[v37_g33_0,I g33_1_126],box g7 41 #[S0,I 0]])
 refine W_join R127 ?_ ?_
 refine W_cond (b:=decide (g33_1_39 < 0)) rfl (fun hc128=>?_) (fun hc128=>?_)
 have hA127:=(ite_t hc128).symm.trans hA127
 refine W_region (fA 1 fa_41_1 sf6 rfl (L_stB (v:=I 0) (cs2:=#[v37_g33_0,I 0]) 1 rfl Try.sizeOf3 rfl rfl rfl hst rfl rfl rfl (fun w130 hst=>nn ?_)))
 obtain rfl:=so hA127
 have hst:=hst.gets [2,1,2] rfl
 exact rj hR127 ⟨sf4,sf6,hst⟩
 have hA127:=(ite_f hc128).symm.trans hA127
 refine W_skip ?_
 obtain rfl:=so hA127
 exact rj hR127 ⟨sf4,sf6,hst⟩
 intro f w_ hR
 obtain ⟨sf4,sf6,hst⟩:=rk hR127 hR
 refine sq (L_lda (cs:=[v37_g33_0,I g33_1_126]) rfl Try.isAgg41 Try.sizeOf41 sf6 (At.sub0 (Blk.at (Star.blkAt 1 hst rfl)) 0 2) rfl (L_staB (vs:=#[v37_g33_0,I g33_1_126]) (cs2:=#[v37_g33_0,I g33_1_126]) 2 rfl Try.sizeOf41 sf4 rfl rfl (ones_cons (one_len (Star.len 0 hst rfl)) (ones_cons rfl ones_nil)) hst rfl (by show 0 + 2≤2; decide) rfl (fun w132 hst=>aB rfl (nn (W_ret (retG2 (v1:=.agg #[v37_g33_0,I g33_1_126]) (v2:=Bo true) Try.results72 (resV_agg Try.isAgg41 Try.sizeOf41 sf4 (Star.blkAt 0 hst rfl) rfl) rfl ?_))))))
 obtain rfl:=so hF
 have hst:=hst.get 1 rfl
 exact ⟨v37_g33_0,rfl,(Star.down (Star.keepN 1 hst) l41 (co closed_term c0))⟩
theorem s_l1Total_c {c : Con} {v0_0 : Value} {H : FH} {w : World} (hst : Star H w []) (h0_0 : (rS 117 rTerm).rel H [v0_0] c.terms) {r : Int} (hF : s_l1Total c = some r) :
 C Try.prog 111 #[.agg #[v0_0,I c.bound]] w fun v w'=>v = I r∧Star H w' []:=by
 unfold s_l1Total at hF
 refine C_enter Try.func111 rfl Try.ntmps111 rfl (sq (L_box (v:=.agg #[v0_0,I c.bound]) (cs:=#[v0_0,I c.bound]) rfl rfl rfl hst (fun g3 w4 hst=>aI rfl (ns (aI rfl (nq (sq (aI rfl (nn ?_)))))))))
 have hlen7 : List.length c.terms≤9223372036854775807:=len_le (slice_len h0_0)
 obtain ⟨j7,hL7,hF⟩:=bind_some hF
 obtain ⟨R7,hR7⟩:=exR fun f w_=>∃ n_6 : Int,j7 = .nx n_6∧f 3 = I n_6∧Star H w_ ([])
 refine W_join R7 ?_ ?_
 refine W_block ?_
 obtain ⟨I7,hI7⟩:=exI fun n f w_=>∃ i_5 : Nat,∃ suf7 : List Term,∃ n_6 : Int,n = suf7.length∧List.drop i_5 c.terms = suf7∧i_5 + suf7.length = c.terms.length∧rangeL s_l1Total_b1 suf7 i_5 n_6 = some j7∧f 1 = Pt g3∧f 3 = I n_6∧f 4 = I i_5∧Star H w_ ([box g3 41 #[v0_0,I c.bound]])
 refine W_loop I7 (n:=c.terms.length) ?_ ?_
 exact ij hI7 ⟨0,c.terms,0,rfl,rfl,Nat.zero_add _,hL7,rfl,rfl,rfl,hst⟩
 intro n7 f w_ hI
 obtain ⟨i_5,suf7,n_6,rfl,hd7,hl7,hL7,sf1,sf3,sf4,hst⟩:=ik hI7 hI
 refine W_seq (sq (mF sf4 rfl (fA 0 fa_41_0 sf1 rfl (ldB 0 hst Try.isAgg39 rfl rfl rfl (L_len rfl Try.underlying39 rfl (slice_len h0_0) (L_lss rfl rfl rfl (nn (W_cond (b:=decide ((i_5 : Int) < (c.terms.length : Int))) rfl (fun hc8=>?_) (fun hc8=>?_)))))))))
 have hlt7:=of_decide_eq_true hc8
 rcases suf7 with _ | ⟨x_7,rest7⟩
 exact absurd hlt7 (by simp at hl7; omega)
 obtain ⟨o7,hB7,hL7⟩:=range_cons hL7
 rw [s_l1Total_b1] at hB7
 have hix7:=drop_idx hd7
 refine W_skip (W_seq (W_block (W_region (mF sf3 rfl (fA 0 fa_41_0 sf1 rfl (ldB 0 hst Try.isAgg39 rfl rfl rfl (mF sf4 rfl (L_ix (r:=rTerm) rfl Try.underlying39 Try.sizeOf117 rfl h0_0 rfl hix7 (fun g13 o14 cs_g13 hrk_hat15 hat15=>?_)))))))))
 obtain rfl:=rTerm_iff.1 hrk_hat15
 refine fA o14 fa_117_0 rfl rfl (L_ld rfl Try.isAgg3 rfl (At.cell (AtH.at hat15 hst.sub) (j:=0) rfl) (L_add rfl rfl rfl (aI rfl (nn (W_region (mF sf4 rfl (L_add rfl rfl rfl (aI rfl (nn ?_)))))))))
 obtain rfl:=so hB7
 show ∃ m,m < _∧I7 m _ _
 refine ⟨rest7.length,by simp,?_⟩
 exact ij hI7 ⟨i_5 + 1,rest7,i64 (n_6 + x_7.coef),rfl,drop_next hd7,by simp at hl7; omega,hL7,sf1,rfl,(Eq.trans rfl (congrArg (Value.int .i64) (i64_succ (n:=c.terms.length) (by simp at hl7; omega) hlen7))),hst⟩
 rcases suf7 with _ | ⟨_,_⟩
 obtain rfl:=range_nil hL7
 refine W_exit (rj hR7 ⟨n_6,rfl,sf3,(Star.keepN 0 hst)⟩)
 exact absurd (of_decide_eq_false hc8) (by simp at hl7; omega)
 intro f w_ hR
 obtain ⟨n_6,rfl,sf3,hst⟩:=rk hR7 hR
 refine sq (mF sf3 rfl (aI rfl (nn (W_ret (retG1 (v1:=I n_6) Try.results111 rfl ?_)))))
 obtain rfl:=so hF
 exact ⟨rfl,hst⟩
theorem s_NegateConstraint_c {c : Con} {v0_0 : Value} {H : FH} {w : World} (hst : Star H w []) (h0_0 : (rS 117 rTerm).rel H [v0_0] c.terms) {r : Con × Bool} (hF : s_NegateConstraint c = some r) :
 C Try.prog 114 #[.agg #[v0_0,I c.bound]] w fun v w'=>∃ (u1 : Value),v = .tuple #[.agg #[u1,I r.1.bound],Bo r.2]∧Star H w' [oF 117 rTerm u1 r.1.terms]:=by
 unfold s_NegateConstraint at hF
 refine C_enter Try.func114 rfl Try.ntmps114 rfl (sq (L_box (v:=.agg #[v0_0,I c.bound]) (cs:=#[v0_0,I c.bound]) rfl rfl rfl hst (fun g5 w6 hst=>L_al (cs:=#[S0,I 0]) rfl Try.zeroValue41 rfl hst (fun g7 w8 hst=>aB rfl (nq (W_seq ?_))))))
 obtain ⟨x14,hx14,hF⟩:=bind_some hF
 refine W_region (L_lda (cs:=[v0_0,I c.bound]) rfl Try.isAgg41 Try.sizeOf41 rfl (At.sub0 (Blk.at (Star.blkAt 1 hst rfl)) 0 2) rfl ?_)
 obtain ⟨H16b,l17,s18,z19,k20⟩:=hst.borrow
 refine L_call rfl Try.call56 (ops1 rfl) (s_ConstraintValid_c (c:=c) s18 (RP.mono _ h0_0 l17) hx14) ?_
 rintro _ w21 ⟨rfl,hst⟩
 have hst:=k20 hst c0
 refine L_not_ rfl rfl (nn (W_cond (b:=(!x14)) rfl (fun hc22=>?_) (fun hc22=>?_)))
 have hF:=(ite_t hc22).symm.trans hF
 refine sq (L_bld rfl (parts0 ) (bld_41_  ) (L_staB (vs:=#[S0,I 0]) (cs2:=#[S0,I 0]) 0 rfl Try.sizeOf41 rfl rfl rfl (ones_cons rfl (ones_cons rfl ones_nil)) hst rfl (by show 0 + 2≤2; decide) rfl (fun w24 hst=>aB rfl (nn (W_ret (retG2 (v1:=.agg #[S0,I 0]) (v2:=Bo false) Try.results114 (resV_agg Try.isAgg41 Try.sizeOf41 rfl (Star.blkAt 0 hst rfl) rfl) rfl ?_))))))
 obtain rfl:=so hF
 have hst:=Star.addNil (R:=(OR.frz rTerm)) (e:=117) hst
 exact ⟨S0,rfl,(Star.keepN 1 hst)⟩
 have hF:=(ite_f hc22).symm.trans hF
 refine W_skip (W_seq ?_)
 obtain ⟨x31,hx31,hF⟩:=bind_some hF
 refine W_drawS 8 [isV (.agg #[v0_0,I c.bound]),isV (I x31),isV (Pq g5 1),isV (I c.bound),isV (I (i64 (x31 - c.bound))),isV (I (i64 ((i64 (x31 - c.bound)) + 1))),isV (.agg #[S0,I (i64 ((i64 (x31 - c.bound)) + 1))]),anyF] [box g7 41 #[S0,I 0],box g5 41 #[v0_0,I c.bound]] [.made 7 4 (fun v_=>boxV v_ 41 #[S0,I 0]) none] ([]) [([],[]),([],[]),([],[]),([],[]),([],[]),([],[]),([],[]),([],[0])] (S:=[(some 7,[4],none)]) Try_mix (by kernel_rfl) rfl (by kernel_rfl) (amF_cons (mono_V _) (amF_cons (mono_V _) (amF_cons (mono_V _) (amF_cons (mono_V _) (amF_cons (mono_V _) (amF_cons (mono_V _) (amF_cons (mono_V _) (amF_cons (mono_any) amF_nil)))))))) hst ?_ (fun f w_ H36 hS36 hE36 hT36 hst=>?_)
 refine opsS_cons (fun f w_ _ _ s _ _ hst=>L_lda (cs:=[v0_0,I c.bound]) rfl Try.isAgg41 Try.sizeOf41 ((s 1 rfl).trans rfl) (At.sub0 (Blk.at (Star.blkAt 1 hst rfl)) 0 2) rfl (nO rfl rfl hst)) (opsS_cons ?_ ?_)
 intro f w_ H36 X36 hS36 hE36 hP36 hst
 obtain ⟨H45b,l46,s47,z48,k49⟩:=hst.borrow
 refine L_call rfl Try.call111 (ops1 (hP36 0 10 rfl rfl)) (s_l1Total_c (c:=c) s47 (RP.mono _ h0_0 (Le.trans hE36 l46)) hx31) ?_
 rintro _ w50 ⟨rfl,hst⟩
 have hst:=k49 hst c0
 exact L_nil ⟨rfl,_,_,rfl,Le.refl _,fun _ _=>rfl,hst⟩
 refine opsS_cons (fun f w_ _ _ s _ _ hst=>fA 1 fa_41_1 ((s 1 rfl).trans rfl) rfl (nO rfl rfl hst)) (opsS_cons (fun f w_ _ _ _ _ p hst=>ldB 1 hst Try.isAgg3 (p 2 12 rfl rfl) rfl rfl (nO rfl rfl hst)) (opsS_cons (fun f w_ _ _ _ _ p hst=>L_sub rfl (p 1 11 rfl rfl) (p 3 13 rfl rfl) (nO rfl rfl hst)) (opsS_cons (fun f w_ _ _ _ _ p hst=>L_add rfl (p 4 14 rfl rfl) rfl (nO rfl rfl hst)) (opsS_cons (fun f w_ _ _ _ _ p hst=>L_bld rfl (parts1 (p 5 15 rfl rfl)) (bld_41_1 (I (i64 ((i64 (x31 - c.bound)) + 1))) rfl) (nO rfl rfl hst)) (opsS_cons ?_ ?_)))))
 intro f w_ H36 X36 hS36 hE36 hP36 hst
 refine L_al (cs:=#[S0,I 0]) rfl Try.zeroValue41 rfl hst (fun g51 w52 hst=>?_)
 have hst:=hst.gets [2,2,2] rfl
 have hst:=Star.boxV (v:=Pt g51) rfl hst
 have hst:=hst.gets [2,2] rfl
 exact L_nil ⟨rfl,_,_,rfl,Le.refl _,fun _ _=>trivial,hst⟩
 exact opsS_nil
 have hst : Star H36 w_ ([box g7 41 #[S0,I 0],box g5 41 #[v0_0,I c.bound],boxV (f 4) 41 #[S0,I 0]]):=hst
 obtain ⟨g53,hv53,hst⟩:=Star.unboxV (Star.get 2 hst rfl)
 refine L_staB (vs:=#[S0,I (i64 ((i64 (x31 - c.bound)) + 1))]) (cs2:=#[S0,I (i64 ((i64 (x31 - c.bound)) + 1))]) 0 rfl Try.sizeOf41 hv53 (hT36 6 16 rfl rfl) rfl (ones_cons rfl (ones_cons rfl ones_nil)) hst rfl (by show 0 + 2≤2; decide) rfl (fun w54 hst=>nq (sq (aI rfl (nn ?_))))
 have hlen60 : List.length c.terms≤9223372036854775807:=len_le (slice_len (RP.mono _ h0_0 hE36))
 obtain ⟨j60,hL60,hF⟩:=bind_some hF
 obtain ⟨R60,hR60⟩:=exR fun f w_=>∃ g53_0_56 : List Term,∃ H58 : FH,∃ v56_g53_0 : Value,j60 = .nx g53_0_56∧Le H36 H58∧f 2 = Pt g7∧f 4 = Pt g53∧Star H58 w_ ([oF 117 rTerm v56_g53_0 g53_0_56,box g53 41 #[v56_g53_0,I (i64 ((i64 (x31 - c.bound)) + 1))],box g7 41 #[S0,I 0]])
 refine W_join R60 ?_ ?_
 refine W_block ?_
 obtain ⟨I60,hI60⟩:=exI fun n f w_=>∃ i_55 : Nat,∃ suf60 : List Term,∃ g53_0_56 : List Term,∃ H58 : FH,∃ v56_g53_0 : Value,n = suf60.length∧List.drop i_55 c.terms = suf60∧i_55 + suf60.length = c.terms.length∧rangeL s_NegateConstraint_b1 suf60 i_55 g53_0_56 = some j60∧Le H36 H58∧f 1 = Pt g5∧f 2 = Pt g7∧f 4 = Pt g53∧f 5 = I i_55∧Star H58 w_ ([oF 117 rTerm v56_g53_0 g53_0_56,box g53 41 #[v56_g53_0,I (i64 ((i64 (x31 - c.bound)) + 1))],box g7 41 #[S0,I 0],box g5 41 #[v0_0,I c.bound]])
 have hst:=Star.addNil (R:=(OR.frz rTerm)) (e:=117) hst
 refine W_loop I60 (n:=c.terms.length) ?_ ?_
 exact ij hI60 ⟨0,c.terms,[],H36,S0,rfl,rfl,Nat.zero_add _,hL60,(Le.refl _),((hS36 1 rfl).trans rfl),((hS36 2 rfl).trans rfl),hv53,rfl,hst⟩
 intro n60 f w_ hI
 obtain ⟨i_55,suf60,g53_0_56,H58,v56_g53_0,rfl,hd60,hl60,hL60,l59,sf1,sf2,sf4,sf5,hst⟩:=ik hI60 hI
 refine W_seq (sq (mF sf5 rfl (fA 0 fa_41_0 sf1 rfl (ldB 3 hst Try.isAgg39 rfl rfl rfl (L_len rfl Try.underlying39 rfl (slice_len (RP.mono _ h0_0 (Le.trans hE36 l59))) (L_lss rfl rfl rfl (nn (W_cond (b:=decide ((i_55 : Int) < (c.terms.length : Int))) rfl (fun hc62=>?_) (fun hc62=>?_)))))))))
 have hlt60:=of_decide_eq_true hc62
 rcases suf60 with _ | ⟨x_60,rest60⟩
 exact absurd hlt60 (by simp at hl60; omega)
 obtain ⟨o60,hB60,hL60⟩:=range_cons hL60
 rw [s_NegateConstraint_b1] at hB60
 have hix60:=drop_idx hd60
 refine W_skip (W_seq (W_block ?_))
 obtain ⟨x74,hx74,hB60⟩:=bind_some hB60
 refine W_drawS 17 [isV (Pt g53),isV (v56_g53_0),isV (Pt g5),isV (v0_0),isV (I i_55),isEl rTerm x_60 0,isEl rTerm x_60 0,isV (I x_60.coef),isV (Pt g5),isV (v0_0),isV (I i_55),isEl rTerm x_60 0,isEl rTerm x_60 1,isV (I x_60.lit),isV (I (i64 (-x_60.lit))),isV (.agg #[I x_60.coef,I (i64 (-x_60.lit))]),anyF] [oF 117 rTerm v56_g53_0 g53_0_56,box g53 41 #[v56_g53_0,I (i64 ((i64 (x31 - c.bound)) + 1))],box g7 41 #[S0,I 0],box g5 41 #[v0_0,I c.bound]] [.made 16 40 (fun v_=>oF 117 rTerm v_ ([({ coef:=x_60.coef,lit:=i64 (-x_60.lit) } : Term)])) none] ([]) [([],[]),([],[]),([],[]),([],[]),([],[]),([],[]),([],[]),([],[]),([],[]),([],[]),([],[]),([],[]),([],[]),([],[]),([],[]),([],[]),([],[0])] (S:=[(some 16,[40],none)]) Try_mix (by kernel_rfl) rfl (by kernel_rfl) (amF_cons (mono_V _) (amF_cons (mono_V _) (amF_cons (mono_V _) (amF_cons (mono_V _) (amF_cons (mono_V _) (amF_cons (mono_el _ _ _) (amF_cons (mono_el _ _ _) (amF_cons (mono_V _) (amF_cons (mono_V _) (amF_cons (mono_V _) (amF_cons (mono_V _) (amF_cons (mono_el _ _ _) (amF_cons (mono_el _ _ _) (amF_cons (mono_V _) (amF_cons (mono_V _) (amF_cons (mono_V _) (amF_cons (mono_any) amF_nil))))))))))))))))) hst ?_ (fun f w_ H79 hS79 hE79 hT79 hst=>?_)
 refine opsS_cons (fun f w_ _ _ s _ _ hst=>fA 0 fa_41_0 ((s 4 rfl).trans sf4) rfl (nO rfl rfl hst)) (opsS_cons (fun f w_ _ _ _ _ p hst=>ldB 1 hst Try.isAgg39 (p 0 24 rfl rfl) rfl rfl (nO rfl rfl hst)) (opsS_cons (fun f w_ _ _ s _ _ hst=>fA 0 fa_41_0 ((s 1 rfl).trans sf1) rfl (nO rfl rfl hst)) (opsS_cons (fun f w_ _ _ _ _ p hst=>ldB 3 hst Try.isAgg39 (p 2 26 rfl rfl) rfl rfl (nO rfl rfl hst)) (opsS_cons (fun f w_ _ _ s _ _ hst=>mF ((s 5 rfl).trans sf5) rfl (nO rfl rfl hst)) (opsS_cons ?_ ?_)))))
 intro f w_ H79 X79 hS79 hE79 hP79 hst
 refine L_ix (r:=rTerm) rfl Try.underlying39 Try.sizeOf117 (hP79 3 27 rfl rfl) (RP.mono _ h0_0 (Le.trans (Le.trans hE36 l59) hE79)) (hP79 4 28 rfl rfl) hix60 (fun g91 o92 cs_g91 hrk_hat93 hat93=>?_)
 obtain rfl:=rTerm_iff.1 hrk_hat93
 exact L_nil ⟨rfl,_,_,rfl,Le.refl _,fun _ _=>⟨_,_,_,rfl,hrk_hat93,hat93⟩,hst⟩
 refine opsS_cons ?_ ?_
 intro f w_ H79 X79 hS79 hE79 hP79 hst
 obtain ⟨g95,o95,cs95,hv95,hrk_hat95,hat95⟩:=(hP79 5 29 rfl rfl)
 obtain rfl:=rTerm_iff.1 hrk_hat95
 refine fA o95 fa_117_0 hv95 rfl (L_nil ⟨rfl,_,_,rfl,Le.refl _,fun _ _=>⟨_,_,_,rfl,hrk_hat95,hat95⟩,hst⟩)
 refine opsS_cons ?_ ?_
 intro f w_ H79 X79 hS79 hE79 hP79 hst
 obtain ⟨g97,o97,cs97,hv97,hrk_hat97,hat97⟩:=(hP79 6 30 rfl rfl)
 obtain rfl:=rTerm_iff.1 hrk_hat97
 refine L_ld rfl Try.isAgg3 hv97 (At.cell (AtH.at hat97 hst.sub) (j:=0) rfl) (L_nil ⟨rfl,_,_,rfl,Le.refl _,fun _ _=>rfl,hst⟩)
 refine opsS_cons (fun f w_ _ _ s _ _ hst=>fA 0 fa_41_0 ((s 1 rfl).trans sf1) rfl (nO rfl rfl hst)) (opsS_cons (fun f w_ _ _ _ _ p hst=>ldB 3 hst Try.isAgg39 (p 8 32 rfl rfl) rfl rfl (nO rfl rfl hst)) (opsS_cons (fun f w_ _ _ s _ _ hst=>mF ((s 5 rfl).trans sf5) rfl (nO rfl rfl hst)) (opsS_cons ?_ ?_)))
 intro f w_ H79 X79 hS79 hE79 hP79 hst
 refine L_ix (r:=rTerm) rfl Try.underlying39 Try.sizeOf117 (hP79 9 33 rfl rfl) (RP.mono _ h0_0 (Le.trans (Le.trans hE36 l59) hE79)) (hP79 10 34 rfl rfl) hix60 (fun g99 o100 cs_g99 hrk_hat101 hat101=>?_)
 obtain rfl:=rTerm_iff.1 hrk_hat101
 exact L_nil ⟨rfl,_,_,rfl,Le.refl _,fun _ _=>⟨_,_,_,rfl,hrk_hat101,hat101⟩,hst⟩
 refine opsS_cons ?_ ?_
 intro f w_ H79 X79 hS79 hE79 hP79 hst
 obtain ⟨g103,o103,cs103,hv103,hrk_hat103,hat103⟩:=(hP79 11 35 rfl rfl)
 obtain rfl:=rTerm_iff.1 hrk_hat103
 refine fA (o103 + 1) fa_117_1 hv103 rfl (L_nil ⟨rfl,_,_,rfl,Le.refl _,fun _ _=>⟨_,_,_,rfl,hrk_hat103,hat103⟩,hst⟩)
 refine opsS_cons ?_ ?_
 intro f w_ H79 X79 hS79 hE79 hP79 hst
 obtain ⟨g105,o105,cs105,hv105,hrk_hat105,hat105⟩:=(hP79 12 36 rfl rfl)
 obtain rfl:=rTerm_iff.1 hrk_hat105
 refine L_ld rfl Try.isAgg3 hv105 (At.cell (AtH.at hat105 hst.sub) (j:=1) rfl) (L_nil ⟨rfl,_,_,rfl,Le.refl _,fun _ _=>rfl,hst⟩)
 refine opsS_cons (fun f w_ _ _ _ _ p hst=>L_neg rfl (p 13 37 rfl rfl) (nO rfl rfl hst)) (opsS_cons (fun f w_ _ _ _ _ p hst=>L_bld rfl (parts2 (p 7 31 rfl rfl) (p 14 38 rfl rfl)) (bld_117_0_1 (I x_60.coef) (I (i64 (-x_60.lit))) rfl rfl) (nO rfl rfl hst)) (opsS_cons ?_ ?_))
 intro f w_ H79 X79 hS79 hE79 hP79 hst
 refine L_bs rfl (parts1 (hP79 15 39 rfl rfl)) (bs_39_1_2 (I x_60.coef) (I (i64 (-x_60.lit))) ) hst (fun g107 w108 hst=>?_)
 have hst:=Star.addF (r:=rTerm) (cs:=[I x_60.coef,I (i64 (-x_60.lit))]) (x:=({ coef:=x_60.coef,lit:=i64 (-x_60.lit) } : Term)) hst (rTerm_iff.2 rfl)
 have hst:=Star.mkRow (R:=(OR.frz rTerm)) [([I x_60.coef,I (i64 (-x_60.lit))],({ coef:=x_60.coef,lit:=i64 (-x_60.lit) } : Term))] [({ coef:=x_60.coef,lit:=i64 (-x_60.lit) } : Term)] 1 hst rfl rfl rfl (by decide)
 have hst:=hst.gets [4,4,4,4] rfl
 exact L_nil ⟨rfl,_,_,rfl,Le.refl _,fun _ _=>trivial,hst⟩
 exact opsS_nil
 have hst : Star H79 w_ ([oF 117 rTerm v56_g53_0 g53_0_56,box g53 41 #[v56_g53_0,I (i64 ((i64 (x31 - c.bound)) + 1))],box g7 41 #[S0,I 0],box g5 41 #[v0_0,I c.bound],oF 117 rTerm (f 40) ([({ coef:=x_60.coef,lit:=i64 (-x_60.lit) } : Term)])]):=hst
 have hst:=hst.gets [4,1] rfl
 refine L_appM (v:=v56_g53_0) (u:=(f 40)) rfl et_39 (hT79 1 25 rfl rfl) rfl hst hx74 (fun v111 w112 hst=>fA 0 fa_41_0 ((hS79 4 rfl).trans sf4) rfl (L_stB (v:=v111) (cs2:=#[v111,I (i64 ((i64 (x31 - c.bound)) + 1))]) 1 rfl Try.sizeOf39 rfl rfl (one_len (Star.len 0 hst rfl)) hst rfl rfl rfl (fun w114 hst=>nn (W_region (mF ((hS79 5 rfl).trans sf5) rfl (L_add rfl rfl rfl (aI rfl (nn ?_))))))))
 obtain rfl:=so hB60
 have hst:=hst.gets [3,3,2,3] rfl
 show ∃ m,m < _∧I60 m _ _
 refine ⟨rest60.length,by simp,?_⟩
 exact ij hI60 ⟨i_55 + 1,rest60,x74,H79,v111,rfl,drop_next hd60,by simp at hl60; omega,hL60,(Le.trans l59 hE79),((hS79 1 rfl).trans sf1),((hS79 2 rfl).trans sf2),((hS79 4 rfl).trans sf4),(Eq.trans rfl (congrArg (Value.int .i64) (i64_succ (n:=c.terms.length) (by simp at hl60; omega) hlen60))),hst⟩
 rcases suf60 with _ | ⟨_,_⟩
 obtain rfl:=range_nil hL60
 refine W_exit (rj hR60 ⟨g53_0_56,H58,v56_g53_0,rfl,l59,sf2,sf4,(Star.keepN 3 hst)⟩)
 exact absurd (of_decide_eq_false hc62) (by simp at hl60; omega)
 intro f w_ hR
 obtain ⟨g53_0_56,H58,v56_g53_0,rfl,l59,sf2,sf4,hst⟩:=rk hR60 hR
 refine W_seq (sq (fA 1 fa_41_1 sf4 rfl (ldB 1 hst Try.isAgg3 rfl rfl rfl (L_lss rfl rfl rfl (nn ?_)))))
 obtain ⟨g53_1_115,hA116,hF⟩:=bind_some hF
 obtain ⟨R116,hR116⟩:=exR fun f w_=>f 2 = Pt g7∧f 4 = Pt g53∧Star H58 w_ ([oF 117 rTerm v56_g53_0 g53_0_56,box g53 41 #[v56_g53_0,I g53_1_115],box g7 41 #[S0,I 0]])
 refine W_join R116 ?_ ?_
 refine W_cond (b:=decide ((i64 ((i64 (x31 - c.bound)) + 1)) < 0)) rfl (fun hc117=>?_) (fun hc117=>?_)
 have hA116:=(ite_t hc117).symm.trans hA116
 refine W_region (fA 1 fa_41_1 sf4 rfl (L_stB (v:=I 0) (cs2:=#[v56_g53_0,I 0]) 1 rfl Try.sizeOf3 rfl rfl rfl hst rfl rfl rfl (fun w119 hst=>nn ?_)))
 obtain rfl:=so hA116
 have hst:=hst.gets [2,1,2] rfl
 exact rj hR116 ⟨sf2,sf4,hst⟩
 have hA116:=(ite_f hc117).symm.trans hA116
 refine W_skip ?_
 obtain rfl:=so hA116
 exact rj hR116 ⟨sf2,sf4,hst⟩
 intro f w_ hR
 obtain ⟨sf2,sf4,hst⟩:=rk hR116 hR
 refine sq (L_lda (cs:=[v56_g53_0,I g53_1_115]) rfl Try.isAgg41 Try.sizeOf41 sf4 (At.sub0 (Blk.at (Star.blkAt 1 hst rfl)) 0 2) rfl (L_staB (vs:=#[v56_g53_0,I g53_1_115]) (cs2:=#[v56_g53_0,I g53_1_115]) 2 rfl Try.sizeOf41 sf2 rfl rfl (ones_cons (one_len (Star.len 0 hst rfl)) (ones_cons rfl ones_nil)) hst rfl (by show 0 + 2≤2; decide) rfl (fun w121 hst=>aB rfl (nn (W_ret (retG2 (v1:=.agg #[v56_g53_0,I g53_1_115]) (v2:=Bo true) Try.results114 (resV_agg Try.isAgg41 Try.sizeOf41 sf2 (Star.blkAt 0 hst rfl) rfl) rfl ?_))))))
 obtain rfl:=so hF
 have hst:=hst.get 1 rfl
 exact ⟨v56_g53_0,rfl,(Star.down (Star.keepN 1 hst) (Le.trans hE36 l59) (co closed_term c0))⟩
theorem s_l3State_c {p : List Int} {lit : Int} {v0 : Value} {H : FH} {w : World} (hst : Star H w []) (h0 : (rS 3 RP.int).rel H [v0] p) {r : Int} (hF : s_l3State p lit = some r) :
 C Try.prog 153 #[v0,I lit] w fun v w'=>v = I r∧Star H w' []:=by
 unfold s_l3State at hF
 refine C_enter Try.func153 rfl Try.ntmps153 rfl (sq (aI rfl (nq (sq (mI rfl (L_gtr rfl rfl rfl (nn (W_cond (b:=decide (lit > 0)) rfl (fun hc1=>?_) (fun hc1=>?_)))))))))
 have hF:=(ite_t hc1).symm.trans hF
 refine W_seq ?_
 obtain ⟨x2,hx2,hF⟩:=bind_some hF
 refine W_region (mV v0 rfl (mI rfl (L_sub rfl rfl rfl (L_ix (r:=RP.int) rfl Try.underlying105 Try.sizeOf3 rfl h0 rfl hx2 (fun g7 o8 cs_g7 hrk_hat9 hat9=>?_)))))
 obtain rfl : _ = [_]:=hrk_hat9
 refine L_ld rfl Try.isAgg3 rfl (At.cell (AtH.at hat9 hst.sub) (j:=0) rfl) (aI rfl (nn (W_ret (retG1 (v1:=I x2) Try.results153 rfl ?_))))
 obtain rfl:=so hF
 exact ⟨rfl,hst⟩
 have hF:=(ite_f hc1).symm.trans hF
 refine W_skip (W_seq ?_)
 obtain ⟨x11,hx11,hF⟩:=bind_some hF
 refine W_region (mV v0 rfl (mI rfl (L_neg rfl rfl (L_sub rfl rfl rfl (L_ix (r:=RP.int) rfl Try.underlying105 Try.sizeOf3 rfl h0 rfl hx11 (fun g16 o17 cs_g16 hrk_hat18 hat18=>?_))))))
 obtain rfl : _ = [_]:=hrk_hat18
 refine L_ld rfl Try.isAgg3 rfl (At.cell (AtH.at hat18 hst.sub) (j:=0) rfl) (L_neg rfl rfl (aI rfl (nn (W_ret (retG1 (v1:=I (i64 (-x11))) Try.results153 rfl ?_)))))
 obtain rfl:=so hF
 exact ⟨rfl,hst⟩
theorem s_l3Slack_c {c : Con} {p : List Int} {v0_0 : Value} {v1 : Value} {H : FH} {w : World} (hst : Star H w []) (h0_0 : (rS 117 rTerm).rel H [v0_0] c.terms) (h1 : (rS 3 RP.int).rel H [v1] p) {r : Int} (hF : s_l3Slack c p = some r) :
 C Try.prog 139 #[.agg #[v0_0,I c.bound],v1] w fun v w'=>v = I r∧Star H w' []:=by
 unfold s_l3Slack at hF
 refine C_enter Try.func139 rfl Try.ntmps139 rfl (sq (L_box (v:=.agg #[v0_0,I c.bound]) (cs:=#[v0_0,I c.bound]) rfl rfl rfl hst (fun g3 w4 hst=>aI rfl (ns (fA 1 fa_41_1 rfl rfl (ldB 0 hst Try.isAgg3 rfl rfl rfl (L_neg rfl rfl (aI rfl (nq (sq (aI rfl (nn ?_))))))))))))
 have hlen7 : List.length c.terms≤9223372036854775807:=len_le (slice_len h0_0)
 obtain ⟨j7,hL7,hF⟩:=bind_some hF
 obtain ⟨R7,hR7⟩:=exR fun f w_=>∃ n_6 : Int,j7 = .nx n_6∧f 5 = I n_6∧Star H w_ ([])
 refine W_join R7 ?_ ?_
 refine W_block ?_
 obtain ⟨I7,hI7⟩:=exI fun n f w_=>∃ i_5 : Nat,∃ suf7 : List Term,∃ n_6 : Int,n = suf7.length∧List.drop i_5 c.terms = suf7∧i_5 + suf7.length = c.terms.length∧rangeL (s_l3Slack_b1 p) suf7 i_5 n_6 = some j7∧f 1 = v1∧f 2 = Pt g3∧f 5 = I n_6∧f 6 = I i_5∧Star H w_ ([box g3 41 #[v0_0,I c.bound]])
 refine W_loop I7 (n:=c.terms.length) ?_ ?_
 exact ij hI7 ⟨0,c.terms,i64 (-c.bound),rfl,rfl,Nat.zero_add _,hL7,rfl,rfl,rfl,rfl,hst⟩
 intro n7 f w_ hI
 obtain ⟨i_5,suf7,n_6,rfl,hd7,hl7,hL7,sf1,sf2,sf5,sf6,hst⟩:=ik hI7 hI
 refine W_seq (sq (mF sf6 rfl (fA 0 fa_41_0 sf2 rfl (ldB 0 hst Try.isAgg39 rfl rfl rfl (L_len rfl Try.underlying39 rfl (slice_len h0_0) (L_lss rfl rfl rfl (nn (W_cond (b:=decide ((i_5 : Int) < (c.terms.length : Int))) rfl (fun hc8=>?_) (fun hc8=>?_)))))))))
 have hlt7:=of_decide_eq_true hc8
 rcases suf7 with _ | ⟨x_7,rest7⟩
 exact absurd hlt7 (by simp at hl7; omega)
 obtain ⟨o7,hB7,hL7⟩:=range_cons hL7
 rw [s_l3Slack_b1] at hB7
 have hix7:=drop_idx hd7
 refine W_skip (W_seq (W_block (W_seq ?_)))
 obtain ⟨x18,hx18,hB7⟩:=bind_some hB7
 refine W_region (mF sf1 rfl (fA 0 fa_41_0 sf2 rfl (ldB 0 hst Try.isAgg39 rfl rfl rfl (mF sf6 rfl (L_ix (r:=rTerm) rfl Try.underlying39 Try.sizeOf117 rfl h0_0 rfl hix7 (fun g20 o21 cs_g20 hrk_hat22 hat22=>?_))))))
 obtain rfl:=rTerm_iff.1 hrk_hat22
 refine fA (o21 + 1) fa_117_1 rfl rfl (L_ld rfl Try.isAgg3 rfl (At.cell (AtH.at hat22 hst.sub) (j:=1) rfl) ?_)
 obtain ⟨H24b,l25,s26,z27,k28⟩:=hst.borrow
 refine L_call rfl Try.call153 (ops2 rfl rfl) (s_l3State_c (p:=p) (lit:=x_7.lit) s26 (RP.mono _ h1 l25) hx18) ?_
 rintro _ w29 ⟨rfl,hst⟩
 have hst:=k28 hst c0
 refine L_geq rfl rfl rfl (nn ?_)
 obtain ⟨n_30,hA31,hB7⟩:=bind_some hB7
 obtain ⟨R31,hR31⟩:=exR fun f w_=>f 1 = v1∧f 2 = Pt g3∧f 5 = I n_30∧f 6 = I i_5∧Star H w_ ([box g3 41 #[v0_0,I c.bound]])
 refine W_join R31 ?_ ?_
 refine W_cond (b:=decide (x18 ≥ 0)) rfl (fun hc32=>?_) (fun hc32=>?_)
 have hA31:=(ite_t hc32).symm.trans hA31
 refine W_region (mF sf5 rfl (fA 0 fa_41_0 sf2 rfl (ldB 0 hst Try.isAgg39 rfl rfl rfl (mF sf6 rfl (L_ix (r:=rTerm) rfl Try.underlying39 Try.sizeOf117 rfl h0_0 rfl hix7 (fun g37 o38 cs_g37 hrk_hat39 hat39=>?_))))))
 obtain rfl:=rTerm_iff.1 hrk_hat39
 refine fA o38 fa_117_0 rfl rfl (L_ld rfl Try.isAgg3 rfl (At.cell (AtH.at hat39 hst.sub) (j:=0) rfl) (L_add rfl rfl rfl (aI rfl (nn ?_))))
 obtain rfl:=so hA31
 exact rj hR31 ⟨sf1,sf2,rfl,sf6,hst⟩
 have hA31:=(ite_f hc32).symm.trans hA31
 refine W_skip ?_
 obtain rfl:=so hA31
 exact rj hR31 ⟨sf1,sf2,sf5,sf6,hst⟩
 intro f w_ hR
 obtain ⟨sf1,sf2,sf5,sf6,hst⟩:=rk hR31 hR
 refine W_region (mF sf6 rfl (L_add rfl rfl rfl (aI rfl (nn ?_))))
 obtain rfl:=so hB7
 show ∃ m,m < _∧I7 m _ _
 refine ⟨rest7.length,by simp,?_⟩
 exact ij hI7 ⟨i_5 + 1,rest7,n_30,rfl,drop_next hd7,by simp at hl7; omega,hL7,sf1,sf2,sf5,(Eq.trans rfl (congrArg (Value.int .i64) (i64_succ (n:=c.terms.length) (by simp at hl7; omega) hlen7))),hst⟩
 rcases suf7 with _ | ⟨_,_⟩
 obtain rfl:=range_nil hL7
 refine W_exit (rj hR7 ⟨n_6,rfl,sf5,(Star.keepN 0 hst)⟩)
 exact absurd (of_decide_eq_false hc8) (by simp at hl7; omega)
 intro f w_ hR
 obtain ⟨n_6,rfl,sf5,hst⟩:=rk hR7 hR
 refine sq (mF sf5 rfl (aI rfl (nn (W_ret (retG1 (v1:=I n_6) Try.results139 rfl ?_)))))
 obtain rfl:=so hF
 exact ⟨rfl,hst⟩
theorem s_l3Implied_c {fu : Nat} {c : Con} {p : List Int} {v0_0 : Value} {v1 : Value} {H : FH} {w : World} (hst : Star H w []) (h0_0 : (rS 117 rTerm).rel H [v0_0] c.terms) (h1 : (rS 3 RP.int).rel H [v1] p) {r : List Int} (hF : s_l3Implied fu c p = some r) :
 C Try.prog 140 #[.agg #[v0_0,I c.bound],v1] w fun v w'=>∃ (u1 : Value),v = u1∧Star H w' [oF 3 RP.int u1 r]:=by
 unfold s_l3Implied at hF
 refine C_enter Try.func140 rfl Try.ntmps140 rfl (sq (L_box (v:=.agg #[v0_0,I c.bound]) (cs:=#[v0_0,I c.bound]) rfl rfl rfl hst (fun g3 w4 hst=>aV S0 rfl (ns (L_bs rfl parts0 (bs_105_0  ) hst (fun g8 w9 hst=>?_))))))
 have hst:=Star.mkRow (R:=(OR.frz RP.int)) [] [] 0 hst rfl rfl rfl (by decide)
 refine aV (Sl g8 0 0) rfl (nq ?_)
 obtain ⟨x16,hx16,hF⟩:=bind_some hF
 refine W_region (L_lda (cs:=[v0_0,I c.bound]) rfl Try.isAgg41 Try.sizeOf41 rfl (At.sub0 (Blk.at (Star.blkAt 1 hst rfl)) 0 2) rfl (mV v1 rfl ?_))
 obtain ⟨H18b,l19,s20,z21,k22⟩:=hst.borrow
 refine L_call rfl Try.call139 (ops2 rfl rfl) (s_l3Slack_c (c:=c) (p:=p) s20 (RP.mono _ h0_0 l19) (RP.mono _ h1 l19) hx16) ?_
 rintro _ w23 ⟨rfl,hst⟩
 have hst:=k22 hst c0
 refine aI rfl (nq (sq (aI rfl (nn ?_))))
 obtain ⟨j30,hL30,hF⟩:=bind_some hF
 obtain ⟨R30,hR30⟩:=exR fun f w_=>∃ out_27 : List Int,∃ i_29 : Int,∃ v27_out : Value,j30 = .nx (out_27,i_29)∧f 5 = v27_out∧Star H w_ ([oF 3 RP.int v27_out out_27])
 refine W_join R30 ?_ ?_
 refine W_block ?_
 obtain ⟨I30,hI30⟩:=exI fun n f w_=>∃ out_27 : List Int,∃ i_29 : Int,∃ v27_out : Value,whileL (s_l3Implied_b1 c p x16) n (out_27,i_29) = some j30∧f 1 = v1∧f 2 = Pt g3∧f 5 = v27_out∧f 6 = I x16∧f 7 = I i_29∧Star H w_ ([oF 3 RP.int v27_out out_27,box g3 41 #[v0_0,I c.bound]])
 refine W_loop I30 (n:=fu) ?_ ?_
 exact ij hI30 ⟨[],0,(Sl g8 0 0),hL30,rfl,rfl,rfl,rfl,rfl,hst⟩
 intro n30 f w_ hI
 obtain ⟨out_27,i_29,v27_out,hL30,sf1,sf2,sf5,sf6,sf7,hst⟩:=ik hI30 hI
 rcases n30 with _ | n30
 exact (while_zero hL30).elim
 obtain ⟨o30,hB30,hL30⟩:=while_succ hL30
 rw [s_l3Implied_b1] at hB30
 refine W_seq (W_seq ?_)
 obtain ⟨R31,hR31⟩:=exR fun f w_=>f 1 = v1∧f 2 = Pt g3∧f 5 = v27_out∧f 6 = I x16∧f 7 = I i_29∧f 20 = Bo ((decide (i_29 < (c.terms.length : Int))) && (decide (x16 ≥ 0)))∧Star H w_ ([oF 3 RP.int v27_out out_27,box g3 41 #[v0_0,I c.bound]])
 refine W_join R31 ?_ ?_
 refine W_region (mF sf7 rfl (fA 0 fa_41_0 sf2 rfl (ldB 1 hst Try.isAgg39 rfl rfl rfl (L_len rfl Try.underlying39 rfl (slice_len h0_0) (L_lss rfl rfl rfl (mB rfl (L_split (d:=17) (b:=decide (i_29 < (c.terms.length : Int))) rfl (fun hc32=>?_) (fun hc32=>?_))))))))
 refine mF sf6 rfl (L_geq rfl rfl rfl (L_pick (v:=Bo ((decide (i_29 < (c.terms.length : Int))) && (decide (x16 ≥ 0)))) rfl rfl (and_t hc32 rfl) (nn (rj hR31 ⟨sf1,sf2,sf5,sf6,sf7,rfl,hst⟩))))
 refine ps rfl (ps rfl (L_pick (v:=Bo ((decide (i_29 < (c.terms.length : Int))) && (decide (x16 ≥ 0)))) rfl rfl (and_f hc32) (nn (rj hR31 ⟨sf1,sf2,sf5,sf6,sf7,rfl,hst⟩))))
 intro f w_ hR
 obtain ⟨sf1,sf2,sf5,sf6,sf7,sf20,hst⟩:=rk hR31 hR
 refine W_cond (b:=((decide (i_29 < (c.terms.length : Int))) && (decide (x16 ≥ 0)))) sf20 (fun hc33=>?_) (fun hc33=>?_)
 have hB30:=(ite_t hc33).symm.trans hB30
 refine W_skip (W_seq (W_block (W_seq ?_)))
 obtain ⟨x34,hx34,hB30⟩:=bind_some hB30
 obtain ⟨x44,hx44,hB30⟩:=bind_some hB30
 obtain ⟨R50,hR50⟩:=exR fun f w_=>f 1 = v1∧f 2 = Pt g3∧f 5 = v27_out∧f 6 = I x16∧f 7 = I i_29∧f 41 = Bo ((x44 == 0) && (decide (x34.coef > x16)))∧Star H w_ ([oF 3 RP.int v27_out out_27,box g3 41 #[v0_0,I c.bound]])
 refine W_join R50 ?_ ?_
 refine W_region (mF sf1 rfl (fA 0 fa_41_0 sf2 rfl (ldB 1 hst Try.isAgg39 rfl rfl rfl (mF sf7 rfl (L_ix (r:=rTerm) rfl Try.underlying39 Try.sizeOf117 rfl h0_0 rfl hx34 (fun g51 o52 cs_g51 hrk_hat53 hat53=>?_))))))
 obtain rfl:=rTerm_iff.1 hrk_hat53
 refine fA (o52 + 1) fa_117_1 rfl rfl (L_ld rfl Try.isAgg3 rfl (At.cell (AtH.at hat53 hst.sub) (j:=1) rfl) ?_)
 obtain ⟨H55b,l56,s57,z58,k59⟩:=hst.borrow
 refine L_call rfl Try.call153 (ops2 rfl rfl) (s_l3State_c (p:=p) (lit:=x34.lit) s57 (RP.mono _ h1 l56) hx44) ?_
 rintro _ w60 ⟨rfl,hst⟩
 have hst:=k59 hst c0
 refine L_eql rfl rfl rfl (mB rfl (L_split (d:=32) (b:=(x44 == 0)) rfl (fun hc61=>?_) (fun hc61=>?_)))
 refine fA 0 fa_41_0 sf2 rfl (ldB 1 hst Try.isAgg39 rfl rfl rfl (mF sf7 rfl (L_ix (r:=rTerm) rfl Try.underlying39 Try.sizeOf117 rfl h0_0 rfl hx34 (fun g62 o63 cs_g62 hrk_hat64 hat64=>?_))))
 obtain rfl:=rTerm_iff.1 hrk_hat64
 refine fA o63 fa_117_0 rfl rfl (L_ld rfl Try.isAgg3 rfl (At.cell (AtH.at hat64 hst.sub) (j:=0) rfl) (mF sf6 rfl (L_gtr rfl rfl rfl (L_pick (v:=Bo ((x44 == 0) && (decide (x34.coef > x16)))) rfl rfl (and_t hc61 rfl) (nn (rj hR50 ⟨sf1,sf2,sf5,sf6,sf7,rfl,hst⟩))))))
 refine ps rfl (ps rfl (ps rfl (ps rfl (ps rfl (ps rfl (ps rfl (ps rfl (L_pick (v:=Bo ((x44 == 0) && (decide (x34.coef > x16)))) rfl rfl (and_f hc61) (nn (rj hR50 ⟨sf1,sf2,sf5,sf6,sf7,rfl,hst⟩))))))))))
 intro f w_ hR
 obtain ⟨sf1,sf2,sf5,sf6,sf7,sf41,hst⟩:=rk hR50 hR
 obtain ⟨out_66,hA68,hB30⟩:=bind_some hB30
 obtain ⟨R68,hR68⟩:=exR fun f w_=>∃ v66_out : Value,f 1 = v1∧f 2 = Pt g3∧f 5 = v66_out∧f 6 = I x16∧f 7 = I i_29∧Star H w_ ([oF 3 RP.int v66_out out_66,box g3 41 #[v0_0,I c.bound]])
 refine W_join R68 ?_ ?_
 refine W_cond (b:=((x44 == 0) && (decide (x34.coef > x16)))) sf41 (fun hc69=>?_) (fun hc69=>?_)
 have hA68:=(ite_t hc69).symm.trans hA68
 obtain ⟨x77,hx77,hA68⟩:=bind_some hA68
 refine W_region (mF sf5 rfl (fA 0 fa_41_0 sf2 rfl (ldB 1 hst Try.isAgg39 rfl rfl rfl (mF sf7 rfl (L_ix (r:=rTerm) rfl Try.underlying39 Try.sizeOf117 rfl h0_0 rfl hx34 (fun g81 o82 cs_g81 hrk_hat83 hat83=>?_))))))
 obtain rfl:=rTerm_iff.1 hrk_hat83
 refine fA (o82 + 1) fa_117_1 rfl rfl (L_ld rfl Try.isAgg3 rfl (At.cell (AtH.at hat83 hst.sub) (j:=1) rfl) (L_bs rfl (parts1 rfl) (bs_105_1_0 (I x34.lit) rfl) hst (fun g85 w86 hst=>?_)))
 have hst:=Star.addF (r:=RP.int) (cs:=[I x34.lit]) (x:=x34.lit) hst rfl
 have hst:=Star.mkRow (R:=(OR.frz RP.int)) [([I x34.lit],x34.lit)] [x34.lit] 1 hst rfl rfl rfl (by decide)
 have hst:=hst.get 1 rfl
 refine L_appM (v:=v27_out) (u:=(Sl g85 1 1)) rfl et_105 rfl rfl hst hx77 (fun v88 w89 hst=>aV v88 rfl (nn ?_))
 obtain rfl:=so hA68
 exact rj hR68 ⟨v88,sf1,sf2,rfl,sf6,sf7,hst⟩
 have hA68:=(ite_f hc69).symm.trans hA68
 refine W_skip ?_
 obtain rfl:=so hA68
 exact rj hR68 ⟨v27_out,sf1,sf2,sf5,sf6,sf7,hst⟩
 intro f w_ hR
 obtain ⟨v66_out,sf1,sf2,sf5,sf6,sf7,hst⟩:=rk hR68 hR
 refine W_region (mF sf7 rfl (L_add rfl rfl rfl (aI rfl (nn ?_))))
 obtain rfl:=so hB30
 show ∃ m,m < _∧I30 m _ _
 refine ⟨n30,Nat.lt_succ_self _,?_⟩
 exact ij hI30 ⟨out_66,i64 (i_29 + 1),v66_out,hL30,sf1,sf2,sf5,sf6,rfl,hst⟩
 have hB30:=(ite_f hc33).symm.trans hB30
 refine W_exit ?_
 obtain rfl:=so hB30
 obtain rfl:=so hL30
 exact rj hR30 ⟨out_27,i_29,v27_out,rfl,sf5,(Star.keepN 1 hst)⟩
 intro f w_ hR
 obtain ⟨out_27,i_29,v27_out,rfl,sf5,hst⟩:=rk hR30 hR
 refine sq (mF sf5 rfl (aV v27_out rfl (nn (W_ret (retG1 (v1:=v27_out) Try.results140 rfl ?_)))))
 obtain rfl:=so hF
 exact ⟨v27_out,rfl,hst⟩
theorem s_l3Assign_c {p : List Int} {lit : Int} {v0 : Value} {H : FH} {w : World} (hst : Star H w [oF 3 RP.int v0 p]) {r : List Int} (hF : s_l3Assign p lit = some r) :
 C Try.prog 141 #[v0,I lit] w fun v w'=>v = .tuple #[]∧Star H w' [oF 3 RP.int v0 r]:=by
 unfold s_l3Assign at hF
 refine C_enter Try.func141 rfl Try.ntmps141 rfl (sq (mI rfl (L_gtr rfl rfl rfl (nn ?_))))
 obtain ⟨kp_1,hA2,hF⟩:=bind_some hF
 obtain ⟨R2,hR2⟩:=exR fun f w_=>Star H w_ ([oF 3 RP.int v0 kp_1])
 refine W_join R2 ?_ ?_
 refine W_cond (b:=decide (lit > 0)) rfl (fun hc3=>?_) (fun hc3=>?_)
 have hA2:=(ite_t hc3).symm.trans hA2
 obtain ⟨x4,hx4,hA2⟩:=bind_some hA2
 refine W_region (mV v0 rfl (mI rfl (L_sub rfl rfl rfl ?_)))
 obtain ⟨g8,cap_g8,hv9,_,_⟩:=Star.row 0 hst rfl hx4
 refine L_ixO (R:=(OR.frz RP.int)) (tb:=0) 0 rfl Try.underlying105 Try.sizeOf3 rfl hv9 (by first | rfl | simp) rfl hx4 ?_
 have hst:=Star.addF (r:=RP.int) (cs:=[I 1]) (x:=1) hst rfl
 refine L_stE1 (u:=I 1) rfl Try.sizeOf3 rfl rfl rfl hv9 hst hx4 (fun w10 hst=>nn ?_)
 obtain rfl:=so hA2
 exact rj hR2 hst
 have hA2:=(ite_f hc3).symm.trans hA2
 obtain ⟨x11,hx11,hA2⟩:=bind_some hA2
 refine W_region (mV v0 rfl (mI rfl (L_neg rfl rfl (L_sub rfl rfl rfl ?_))))
 obtain ⟨g15,cap_g15,hv16,_,_⟩:=Star.row 0 hst rfl hx11
 refine L_ixO (R:=(OR.frz RP.int)) (tb:=0) 0 rfl Try.underlying105 Try.sizeOf3 rfl hv16 (by first | rfl | simp) rfl hx11 ?_
 have hst:=Star.addF (r:=RP.int) (cs:=[I (-1)]) (x:=(-1)) hst rfl
 refine L_stE1 (u:=I (-1)) rfl Try.sizeOf3 rfl rfl rfl hv16 hst hx11 (fun w17 hst=>nn ?_)
 obtain rfl:=so hA2
 exact rj hR2 hst
 intro f w_ hR
 rw [hR2] at hR
 have hst:=hR
 clear hR2
 refine ret0 Try.results141 ?_
 obtain rfl:=so hF
 exact ⟨rfl,hst⟩
theorem s_l3Propagate_c {fu : Nat} {list : List Con} {p : List Int} {v0 : Value} {v1 : Value} {H : FH} {w : World} (hst : Star H w [oF 3 RP.int v1 p]) (h0 : (rS 41 (rCon 117)).rel H [v0] list) {r : Int × (List Int)} (hF : s_l3Propagate fu list p = some r) :
 C Try.prog 115 #[v0,v1] w fun v w'=>v = I r.1∧Star H w' [oF 3 RP.int v1 r.2]:=by
 unfold s_l3Propagate at hF
 refine C_enter Try.func115 rfl Try.ntmps115 rfl (sq (aI rfl (nq (sq (aB rfl (nn ?_))))))
 obtain ⟨j4,hL4,hF⟩:=bind_some hF
 obtain ⟨R4,hR4⟩:=exR fun f w_=>∃ p_2 : List Int,∃ changed_3 : Bool,j4 = .nx (p_2,changed_3)∧Star H w_ ([oF 3 RP.int v1 p_2])
 refine W_join R4 ?_ ?_
 refine W_block ?_
 obtain ⟨I4,hI4⟩:=exI fun n f w_=>∃ p_2 : List Int,∃ changed_3 : Bool,whileL (s_l3Propagate_b1 fu list) n (p_2,changed_3) = some j4∧f 0 = v0∧f 1 = v1∧f 5 = Bo changed_3∧Star H w_ ([oF 3 RP.int v1 p_2])
 refine W_loop I4 (n:=fu) ?_ ?_
 exact ij hI4 ⟨p,true,hL4,rfl,rfl,rfl,hst⟩
 intro n4 f w_ hI
 obtain ⟨p_2,changed_3,hL4,sf0,sf1,sf5,hst⟩:=ik hI4 hI
 rcases n4 with _ | n4
 exact (while_zero hL4).elim
 obtain ⟨o4,hB4,hL4⟩:=while_succ hL4
 rw [s_l3Propagate_b1] at hB4
 refine W_seq (sq (mF sf5 rfl (nn (W_cond (b:=changed_3) rfl (fun hc5=>?_) (fun hc5=>?_)))))
 have hB4:=(ite_t hc5).symm.trans hB4
 refine W_skip (W_block (sq (aB rfl (ns (aI rfl (nn ?_))))))
 have hlen9 : List.length list≤9223372036854775807:=len_le (slice_len h0)
 obtain ⟨j9,hL9,hB4⟩:=bind_some hB4
 obtain ⟨R9,hR9⟩:=exR fun f w_=>∃ p_7 : List Int,∃ changed_8 : Bool,j9 = .nx (p_7,changed_8)∧f 0 = v0∧f 1 = v1∧f 5 = Bo changed_8∧Star H w_ ([oF 3 RP.int v1 p_7])
 refine W_join R9 ?_ ?_
 refine W_block ?_
 obtain ⟨I9,hI9⟩:=exI fun n f w_=>∃ i_6 : Nat,∃ suf9 : List Con,∃ p_7 : List Int,∃ changed_8 : Bool,n = suf9.length∧List.drop i_6 list = suf9∧i_6 + suf9.length = list.length∧rangeL (s_l3Propagate_b2 fu) suf9 i_6 (p_7,changed_8) = some j9∧f 0 = v0∧f 1 = v1∧f 5 = Bo changed_8∧f 6 = I i_6∧Star H w_ ([oF 3 RP.int v1 p_7])
 refine W_loop I9 (n:=list.length) ?_ ?_
 exact ij hI9 ⟨0,list,p_2,false,rfl,rfl,Nat.zero_add _,hL9,sf0,sf1,rfl,rfl,hst⟩
 intro n9 f w_ hI
 obtain ⟨i_6,suf9,p_7,changed_8,rfl,hd9,hl9,hL9,sf0,sf1,sf5,sf6,hst⟩:=ik hI9 hI
 refine W_seq (sq (mF sf6 rfl (mF sf0 rfl (L_len rfl Try.underlying27 rfl (slice_len h0) (L_lss rfl rfl rfl (nn (W_cond (b:=decide ((i_6 : Int) < (list.length : Int))) rfl (fun hc10=>?_) (fun hc10=>?_))))))))
 have hlt9:=of_decide_eq_true hc10
 rcases suf9 with _ | ⟨x_9,rest9⟩
 exact absurd hlt9 (by simp at hl9; omega)
 obtain ⟨o9,hB9,hL9⟩:=range_cons hL9
 rw [s_l3Propagate_b2] at hB9
 have hix9:=drop_idx hd9
 refine W_skip (W_seq (W_block (W_seq (W_seq ?_))))
 obtain ⟨x21,hx21,hB9⟩:=bind_some hB9
 refine W_region (mF sf0 rfl (mF sf6 rfl (L_ix (r:=(rCon 117)) rfl Try.underlying27 Try.sizeOf41 rfl h0 rfl hix9 (fun g23 o24 cs_g23 hrk_hat25 hat25=>?_))))
 obtain ⟨u26_0,rfl,hu26_0⟩:=rCon_iff.1 hrk_hat25
 refine L_lda (cs:=[u26_0,I x_9.bound]) rfl Try.isAgg41 Try.sizeOf41 rfl (At.sub (AtH.at hat25 hst.sub) 0 2) rfl (mF sf1 rfl ?_)
 obtain ⟨H27b,l28,s29,z30,k31⟩:=hst.borrow
 have hb32 : (rS 3 RP.int).rel H27b [v1] p_7:=fz_own 0 z30 rfl
 refine L_call rfl Try.call139 (ops2 rfl rfl) (s_l3Slack_c (c:=x_9) (p:=p_7) s29 (RP.mono _ hu26_0 l28) hb32 hx21) ?_
 rintro _ w33 ⟨rfl,hst⟩
 have hst:=k31 hst c0
 refine L_lss rfl rfl rfl (nn (W_cond (b:=decide (x21 < 0)) rfl (fun hc34=>?_) (fun hc34=>?_)))
 have hB9:=(ite_t hc34).symm.trans hB9
 refine sq (mF sf6 rfl (aI rfl (nn (W_ret (retG1 (v1:=I i_6) Try.results115 rfl ?_)))))
 obtain rfl:=so hB9
 obtain rfl:=so hL9
 obtain rfl:=so hB4
 obtain rfl:=so hL4
 obtain rfl:=so hF
 exact ⟨rfl,hst⟩
 have hB9:=(ite_f hc34).symm.trans hB9
 refine W_skip (W_seq ?_)
 obtain ⟨x45,hx45,hB9⟩:=bind_some hB9
 refine W_region (mF sf0 rfl (mF sf6 rfl (L_ix (r:=(rCon 117)) rfl Try.underlying27 Try.sizeOf41 rfl h0 rfl hix9 (fun g48 o49 cs_g48 hrk_hat50 hat50=>?_))))
 obtain ⟨u51_0,rfl,hu51_0⟩:=rCon_iff.1 hrk_hat50
 refine L_lda (cs:=[u51_0,I x_9.bound]) rfl Try.isAgg41 Try.sizeOf41 rfl (At.sub (AtH.at hat50 hst.sub) 0 2) rfl (mF sf1 rfl ?_)
 obtain ⟨H52b,l53,s54,z55,k56⟩:=hst.borrow
 have hb57 : (rS 3 RP.int).rel H52b [v1] p_7:=fz_own 0 z55 rfl
 refine L_call rfl Try.call140 (ops2 rfl rfl) (s_l3Implied_c (c:=x_9) (p:=p_7) s54 (RP.mono _ hu51_0 l53) hb57 hx45) ?_
 rintro r58_0 w58 ⟨_,rfl,hst⟩
 have hst:=k56 hst (co closed_int c0)
 refine aV r58_0 rfl (ns (aI rfl (nn ?_)))
 have hlen63 : List.length x45≤9223372036854775807:=len_le (Star.len 0 hst rfl)
 obtain ⟨j63,hL63,hB9⟩:=bind_some hB9
 obtain ⟨R63,hR63⟩:=exR fun f w_=>∃ p_61 : List Int,∃ changed_62 : Bool,j63 = .nx (p_61,changed_62)∧f 0 = v0∧f 1 = v1∧f 5 = Bo changed_62∧f 6 = I i_6∧Star H w_ ([oF 3 RP.int v1 p_61])
 refine W_join R63 ?_ ?_
 refine W_block ?_
 obtain ⟨I63,hI63⟩:=exI fun n f w_=>∃ i_60 : Nat,∃ suf63 : List Int,∃ p_61 : List Int,∃ changed_62 : Bool,n = suf63.length∧List.drop i_60 x45 = suf63∧i_60 + suf63.length = x45.length∧rangeL s_l3Propagate_b3 suf63 i_60 (p_61,changed_62) = some j63∧f 0 = v0∧f 1 = v1∧f 5 = Bo changed_62∧f 6 = I i_6∧f 7 = r58_0∧f 8 = I i_60∧Star H w_ ([oF 3 RP.int v1 p_61,oF 3 RP.int r58_0 x45])
 have hst:=hst.get 1 rfl
 refine W_loop I63 (n:=x45.length) ?_ ?_
 exact ij hI63 ⟨0,x45,p_7,changed_8,rfl,rfl,Nat.zero_add _,hL63,sf0,sf1,sf5,sf6,rfl,rfl,hst⟩
 intro n63 f w_ hI
 obtain ⟨i_60,suf63,p_61,changed_62,rfl,hd63,hl63,hL63,sf0,sf1,sf5,sf6,sf7,sf8,hst⟩:=ik hI63 hI
 refine W_seq (sq (mF sf8 rfl (mF sf7 rfl (L_len rfl Try.underlying105 rfl (Star.len 1 hst rfl) (L_lss rfl rfl rfl (nn (W_cond (b:=decide ((i_60 : Int) < (x45.length : Int))) rfl (fun hc64=>?_) (fun hc64=>?_))))))))
 have hlt63:=of_decide_eq_true hc64
 rcases suf63 with _ | ⟨x_63,rest63⟩
 exact absurd hlt63 (by simp at hl63; omega)
 obtain ⟨o63,hB63,hL63⟩:=range_cons hL63
 rw [s_l3Propagate_b3] at hB63
 have hix63:=drop_idx hd63
 refine W_skip (W_seq (W_block (W_seq ?_)))
 obtain ⟨x74,hx74,hB63⟩:=bind_some hB63
 refine W_region (mF sf1 rfl (mF sf7 rfl (mF sf8 rfl ?_)))
 obtain ⟨g76,cap_g76,hv77,_,_⟩:=Star.row 1 hst rfl hix63
 refine L_ixO (R:=(OR.frz RP.int)) (tb:=0) 0 rfl Try.underlying105 Try.sizeOf3 rfl hv77 (by first | rfl | simp) rfl hix63 ?_
 obtain ⟨cs78,hr78,hat78⟩:=Star.eltF 1 hst rfl hv77 hix63
 obtain rfl : _ = [_]:=hr78
 refine L_ld rfl Try.isAgg3 rfl (At.cell hat78 (j:=0) rfl) ?_
 obtain ⟨H80b,l81,s82,z83,k84⟩:=hst.lend [_]
 refine L_call rfl Try.call141 (ops2 rfl rfl) (s_l3Assign_c (p:=p_61) (lit:=x_63) s82 hx74) ?_
 rintro _ w85 ⟨rfl,hst⟩
 have hst:=k84 hst (co closed_int c0)
 refine nn (W_region (aB rfl (nn (W_region (mF sf8 rfl (L_add rfl rfl rfl (aI rfl (nn ?_))))))))
 obtain rfl:=so hB63
 show ∃ m,m < _∧I63 m _ _
 refine ⟨rest63.length,by simp,?_⟩
 exact ij hI63 ⟨i_60 + 1,rest63,x74,true,rfl,drop_next hd63,by simp at hl63; omega,hL63,sf0,sf1,rfl,sf6,sf7,(Eq.trans rfl (congrArg (Value.int .i64) (i64_succ (n:=x45.length) (by simp at hl63; omega) hlen63))),hst⟩
 rcases suf63 with _ | ⟨_,_⟩
 obtain rfl:=range_nil hL63
 refine W_exit (rj hR63 ⟨p_61,changed_62,rfl,sf0,sf1,sf5,sf6,(Star.keepN 1 hst)⟩)
 exact absurd (of_decide_eq_false hc64) (by simp at hl63; omega)
 intro f w_ hR
 obtain ⟨p_61,changed_62,rfl,sf0,sf1,sf5,sf6,hst⟩:=rk hR63 hR
 refine W_region (mF sf6 rfl (L_add rfl rfl rfl (aI rfl (nn ?_))))
 obtain rfl:=so hB9
 show ∃ m,m < _∧I9 m _ _
 refine ⟨rest9.length,by simp,?_⟩
 exact ij hI9 ⟨i_6 + 1,rest9,p_61,changed_62,rfl,drop_next hd9,by simp at hl9; omega,hL9,sf0,sf1,sf5,(Eq.trans rfl (congrArg (Value.int .i64) (i64_succ (n:=list.length) (by simp at hl9; omega) hlen9))),hst⟩
 rcases suf9 with _ | ⟨_,_⟩
 obtain rfl:=range_nil hL9
 refine W_exit (rj hR9 ⟨p_7,changed_8,rfl,sf0,sf1,sf5,hst⟩)
 exact absurd (of_decide_eq_false hc10) (by simp at hl9; omega)
 intro f w_ hR
 obtain ⟨p_7,changed_8,rfl,sf0,sf1,sf5,hst⟩:=rk hR9 hR
 obtain rfl:=so hB4
 show ∃ m,m < _∧I4 m _ _
 refine ⟨n4,Nat.lt_succ_self _,?_⟩
 exact ij hI4 ⟨p_7,changed_8,hL4,sf0,sf1,sf5,hst⟩
 have hB4:=(ite_f hc5).symm.trans hB4
 refine W_exit ?_
 obtain rfl:=so hB4
 obtain rfl:=so hL4
 exact rj hR4 ⟨p_2,changed_3,rfl,hst⟩
 intro f w_ hR
 obtain ⟨p_2,changed_3,rfl,hst⟩:=rk hR4 hR
 refine sq (aI rfl (nn (W_ret (retG1 (v1:=I (-1)) Try.results115 rfl ?_))))
 obtain rfl:=so hF
 exact ⟨rfl,hst⟩
theorem s_l3Rup_c {fu : Nat} {list : List Con} {c : Con} {v0 : Value} {v1_0 : Value} {H : FH} {w : World} (hst : Star H w []) (h0 : (rS 41 (rCon 117)).rel H [v0] list) (h1_0 : (rS 117 rTerm).rel H [v1_0] c.terms) {r : Bool} (hF : s_l3Rup fu list c = some r) :
 C Try.prog 76 #[v0,.agg #[v1_0,I c.bound]] w fun v w'=>v = Bo r∧Star H w' []:=by
 unfold s_l3Rup at hF
 refine C_enter Try.func76 rfl Try.ntmps76 rfl (sq (L_box (v:=.agg #[v1_0,I c.bound]) (cs:=#[v1_0,I c.bound]) rfl rfl rfl hst (fun g3 w4 hst=>aB rfl (nq ?_))))
 obtain ⟨x10,hx10,hF⟩:=bind_some hF
 refine W_region (L_lda (cs:=[v1_0,I c.bound]) rfl Try.isAgg41 Try.sizeOf41 rfl (At.sub0 (Blk.at (Star.blkAt 0 hst rfl)) 0 2) rfl ?_)
 obtain ⟨H16b,l17,s18,z19,k20⟩:=hst.borrow
 refine L_call rfl Try.call114 (ops1 rfl) (s_NegateConstraint_c (c:=c) s18 (RP.mono _ h1_0 l17) hx10) ?_
 rintro _ w21 ⟨r21_0,rfl,hst⟩
 have hst:=k20 hst (co closed_term c0)
 refine mV (.tuple #[.agg #[r21_0,I x10.1.bound],Bo x10.2]) rfl (L_ex (v:=.agg #[r21_0,I x10.1.bound]) rfl rfl rfl (L_ex (v:=Bo x10.2) rfl rfl rfl (L_al (cs:=#[S0,I 0]) rfl Try.zeroValue41 rfl hst (fun g23 w24 hst=>L_staB (vs:=#[r21_0,I x10.1.bound]) (cs2:=#[r21_0,I x10.1.bound]) 0 rfl Try.sizeOf41 rfl rfl rfl (ones_cons (one_len (Star.len 1 hst rfl)) (ones_cons rfl ones_nil)) hst rfl (by show 0 + 2≤2; decide) rfl (fun w25 hst=>aB rfl (nq ?_))))))
 obtain ⟨x29,hx29,hF⟩:=bind_some hF
 obtain ⟨x36,hx36,hF⟩:=bind_some hF
 have hst:=Star.drop 2 hst rfl
 refine W_drawS 5 [anyF,isV (v0),anyF,isV (.agg #[r21_0,I x10.1.bound]),anyF] [box g23 41 #[r21_0,I x10.1.bound]] [.base (oF 117 rTerm r21_0 x10.1.terms) (some 4),.made 0 13 (fun v_=>oF 41 (rCon 117) v_ ([])) (some 2),.made 2 15 (fun v_=>oF 41 (rCon 117) v_ x29) none,.made 4 17 (fun v_=>oS 41 (oCon 117) v_ ([x10.1])) none] ([]) [([],[1]),([],[]),([1],[2]),([],[]),([0],[3])] (S:=[(none,[],some 4),(some 0,[13],some 2),(some 2,[15],none),(some 4,[17],none)]) Try_mix (by kernel_rfl) rfl (by kernel_rfl) (amF_cons (mono_any) (amF_cons (mono_V _) (amF_cons (mono_any) (amF_cons (mono_V _) (amF_cons (mono_any) amF_nil))))) hst ?_ (fun f w_ H42 hS42 hE42 hT42 hst=>?_)
 refine opsS_cons ?_ ?_
 intro f w_ H42 X42 hS42 hE42 hP42 hst
 refine L_bs rfl parts0 (bs_27_0  ) hst (fun g52 w53 hst=>?_)
 have hst:=Star.mkRow (R:=(OR.frz (rCon 117))) [] [] 0 hst rfl rfl rfl (by decide)
 have hst:=hst.get 1 rfl
 exact L_nil ⟨rfl,_,_,rfl,Le.refl _,fun _ _=>trivial,hst⟩
 refine opsS_cons (fun f w_ _ _ s _ _ hst=>mF ((s 0 rfl).trans rfl) rfl (nO rfl rfl hst)) (opsS_cons ?_ ?_)
 intro f w_ H42 X42 hS42 hE42 hP42 hst
 have hst : Star H42 w_ (box g23 41 #[r21_0,I x10.1.bound] :: oF 41 (rCon 117) (f 13) ([]) :: X42):=hst
 have hst:=hst.get 1 rfl
 refine L_app (v:=(f 13)) (u:=v0) rfl et_27 rfl (hP42 1 14 rfl rfl) hst (RP.mono _ h0 hE42) hx29 (fun v56 w57 hst=>?_)
 have hst:=hst.get 1 rfl
 exact L_nil ⟨rfl,_,_,rfl,Le.refl _,fun _ _=>trivial,hst⟩
 refine opsS_cons (fun f w_ _ _ s _ _ hst=>L_lda (cs:=[r21_0,I x10.1.bound]) rfl Try.isAgg41 Try.sizeOf41 ((s 5 rfl).trans rfl) (At.sub0 (Blk.at (Star.blkAt 0 hst rfl)) 0 2) rfl (nO rfl rfl hst)) (opsS_cons ?_ ?_)
 intro f w_ H42 X42 hS42 hE42 hP42 hst
 have hst : Star H42 w_ (box g23 41 #[r21_0,I x10.1.bound] :: oF 117 rTerm r21_0 x10.1.terms :: X42):=hst
 refine L_bs rfl (parts1 (hP42 3 16 rfl rfl)) (bs_27_1_2 (r21_0) (I x10.1.bound) ) hst (fun g59 w60 hst=>?_)
 have hst:=hst.get 2 rfl
 have hst:=oCon_close (c:=x10.1) hst
 have hst:=Star.mkRow (R:=(oCon 117)) [([r21_0,I x10.1.bound],x10.1)] [x10.1] 1 hst rfl rfl rfl (by decide)
 have hst:=hst.get 1 rfl
 exact L_nil ⟨rfl,_,_,rfl,Le.refl _,fun _ _=>trivial,hst⟩
 exact opsS_nil
 have hst : Star H42 w_ ([box g23 41 #[r21_0,I x10.1.bound],oF 41 (rCon 117) (f 15) x29,oS 41 (oCon 117) (f 17) ([x10.1])]):=hst
 have hst:=hst.get 2 rfl
 obtain ⟨H64,l65,hst⟩:=Star.shallow hst
 have hst : Star H64 w_ (oF 41 (rCon 117) (f 17) ([x10.1]) :: _):=hst
 have hst:=hst.get 2 rfl
 refine L_appM (v:=(f 15)) (u:=(f 17)) rfl et_27 rfl rfl hst hx36 (fun v66 w67 hst=>aV v66 rfl (nq ?_))
 obtain ⟨x69,hx69,hF⟩:=bind_some hF
 obtain ⟨x79,hx79,hF⟩:=bind_some hF
 refine W_region (mV v66 rfl (L_mk (R:=(OR.frz RP.int)) (z0:=0) (zc:=[I 0]) rfl et_105 (by kernel_rfl) (fun _ _=>⟨rfl,rfl⟩) rfl rfl hx69 hst (fun v81 w82 hst=>?_)))
 obtain ⟨H84b,l85,s86,z87,k88⟩:=hst.lend [_]
 have hb89 : (rS 41 (rCon 117)).rel H84b [v66] x36:=fz_own 0 z87 rfl
 refine L_call rfl Try.call115 (ops2 rfl rfl) (s_l3Propagate_c (list:=x36) (p:=x69) s86 hb89 hx79) ?_
 rintro _ w90 ⟨rfl,hst⟩
 have hst:=k88 hst (co closed_int c0)
 refine L_geq rfl rfl rfl (aB rfl (nn (W_ret (retG1 (v1:=Bo (decide (x79.1 ≥ 0))) Try.results76 rfl ?_))))
 obtain rfl:=so hF
 exact ⟨rfl,(Star.down (Star.keepN 0 hst) (Le.trans hE42 l65) c0)⟩
theorem s_l1Copy_c {c : Con} {v0_0 : Value} {H : FH} {w : World} (hst : Star H w []) (h0_0 : (rS 117 rTerm).rel H [v0_0] c.terms) {r : Con} (hF : s_l1Copy c = some r) :
 C Try.prog 81 #[.agg #[v0_0,I c.bound]] w fun v w'=>∃ (u1 : Value),v = .agg #[u1,I r.bound]∧Star H w' [oF 117 rTerm u1 r.terms]:=by
 unfold s_l1Copy at hF
 refine C_enter Try.func81 rfl Try.ntmps81 rfl (sq (L_box (v:=.agg #[v0_0,I c.bound]) (cs:=#[v0_0,I c.bound]) rfl rfl rfl hst (fun g5 w6 hst=>L_al (cs:=#[S0,I 0]) rfl Try.zeroValue41 rfl hst (fun g7 w8 hst=>nq ?_))))
 obtain ⟨x12,hx12,hF⟩:=bind_some hF
 refine W_drawS 6 [anyF,isV (Pt g5),isV (v0_0),anyF,isV (Pq g5 1),isV (I c.bound)] [box g7 41 #[S0,I 0],box g5 41 #[v0_0,I c.bound]] [.made 0 3 (fun v_=>oF 117 rTerm v_ ([])) (some 3),.made 3 6 (fun v_=>oF 117 rTerm v_ x12) none] ([]) [([],[0]),([],[]),([],[]),([0],[1]),([],[]),([],[])] (S:=[(some 0,[3],some 3),(some 3,[6],none)]) Try_mix (by kernel_rfl) rfl (by kernel_rfl) (amF_cons (mono_any) (amF_cons (mono_V _) (amF_cons (mono_V _) (amF_cons (mono_any) (amF_cons (mono_V _) (amF_cons (mono_V _) amF_nil)))))) hst ?_ (fun f w_ H17 hS17 hE17 hT17 hst=>?_)
 refine opsS_cons ?_ ?_
 intro f w_ H17 X17 hS17 hE17 hP17 hst
 refine L_bs rfl parts0 (bs_39_0  ) hst (fun g24 w25 hst=>?_)
 have hst:=Star.mkRow (R:=(OR.frz rTerm)) [] [] 0 hst rfl rfl rfl (by decide)
 have hst:=hst.gets [2,2] rfl
 exact L_nil ⟨rfl,_,_,rfl,Le.refl _,fun _ _=>trivial,hst⟩
 refine opsS_cons (fun f w_ _ _ s _ _ hst=>fA 0 fa_41_0 ((s 1 rfl).trans rfl) rfl (nO rfl rfl hst)) (opsS_cons (fun f w_ _ _ _ _ p hst=>ldB 1 hst Try.isAgg39 (p 1 4 rfl rfl) rfl rfl (nO rfl rfl hst)) (opsS_cons ?_ ?_))
 intro f w_ H17 X17 hS17 hE17 hP17 hst
 have hst : Star H17 w_ (box g7 41 #[S0,I 0] :: box g5 41 #[v0_0,I c.bound] :: oF 117 rTerm (f 3) ([]) :: X17):=hst
 have hst:=hst.get 2 rfl
 refine L_app (v:=(f 3)) (u:=v0_0) rfl et_39 rfl (hP17 2 5 rfl rfl) hst (RP.mono _ h0_0 hE17) hx12 (fun v28 w29 hst=>?_)
 have hst:=hst.gets [2,2] rfl
 exact L_nil ⟨rfl,_,_,rfl,Le.refl _,fun _ _=>trivial,hst⟩
 refine opsS_cons (fun f w_ _ _ s _ _ hst=>fA 1 fa_41_1 ((s 1 rfl).trans rfl) rfl (nO rfl rfl hst)) (opsS_cons (fun f w_ _ _ _ _ p hst=>ldB 1 hst Try.isAgg3 (p 4 7 rfl rfl) rfl rfl (nO rfl rfl hst)) (opsS_nil))
 have hst : Star H17 w_ ([box g7 41 #[S0,I 0],box g5 41 #[v0_0,I c.bound],oF 117 rTerm (f 6) x12]):=hst
 refine L_bld rfl (parts2 rfl (hT17 5 8 rfl rfl)) (bld_41_0_1 ((f 6)) (I c.bound) (one_len (Star.len 2 hst rfl)) rfl) (L_staB (vs:=#[(f 6),I c.bound]) (cs2:=#[(f 6),I c.bound]) 0 rfl Try.sizeOf41 ((hS17 2 rfl).trans rfl) rfl rfl (ones_cons (one_len (Star.len 2 hst rfl)) (ones_cons rfl ones_nil)) hst rfl (by show 0 + 2≤2; decide) rfl (fun w32 hst=>nn (W_ret (retG1 (v1:=.agg #[(f 6),I c.bound]) Try.results81 (resV_agg Try.isAgg41 Try.sizeOf41 ((hS17 2 rfl).trans rfl) (Star.blkAt 0 hst rfl) rfl) ?_))))
 obtain rfl:=so hF
 have hst:=hst.get 2 rfl
 exact ⟨(f 6),rfl,(Star.down (Star.keepN 1 hst) hE17 (co closed_term c0))⟩
theorem slices_IndexFunc_implConstraint_c {s : List Con} {f_ : (Con→Option Bool)} {v0 : Value} {v1 : Value} {H : FH} {w : World} (hst : Star H w []) (h0 : (rS 41 (rCon 117)).rel H [v0] s) (h1 : Fun1 Try.prog (rCon 117) true Value.bool f_ v1 H) {r : Int} (hF : slices_IndexFunc_implConstraint s f_ = some r) :
 C Try.prog 107 #[v0,v1] w fun v w'=>v = I r∧Star H w' []:=by
 unfold slices_IndexFunc_implConstraint at hF
 obtain ⟨fid_1,caps_1,rfl,hcall_1,hc_1⟩:=h1
 refine C_enter Try.func107 rfl Try.ntmps107 rfl (sq (aI rfl (nq (sq (mV v0 rfl (L_len rfl Try.underlying27 rfl (slice_len h0) (mI rfl (nn ?_))))))))
 have hlen2 : List.length s≤9223372036854775807:=len_le (slice_len h0)
 obtain ⟨j2,hL2,hF⟩:=bind_some hF
 obtain ⟨R2,hR2⟩:=exR fun f w_=>j2 = .nx ()∧Star H w_ ([])
 refine W_join R2 ?_ ?_
 refine W_block ?_
 obtain ⟨I2,hI2⟩:=exI fun n f w_=>∃ i_1 : Nat,∃ suf2 : List Con,n = suf2.length∧List.drop i_1 s = suf2∧i_1 + suf2.length = s.length∧rangeL (slices_IndexFunc_implConstraint_b1 f_) suf2 i_1 () = some j2∧f 0 = v0∧f 1 = .func (.func fid_1) #[] caps_1∧f 7 = I (s.length : Int)∧f 8 = I i_1∧Star H w_ ([])
 refine W_loop I2 (n:=s.length) ?_ ?_
 exact ij hI2 ⟨0,s,rfl,rfl,Nat.zero_add _,hL2,rfl,rfl,rfl,rfl,hst⟩
 intro n2 f w_ hI
 obtain ⟨i_1,suf2,rfl,hd2,hl2,hL2,sf0,sf1,sf7,sf8,hst⟩:=ik hI2 hI
 refine sq (L_lss rfl sf8 sf7 (nq (W_cond (b:=decide ((i_1 : Int) < (s.length : Int))) rfl (fun hc3=>?_) (fun hc3=>?_))))
 have hlt2:=of_decide_eq_true hc3
 rcases suf2 with _ | ⟨x_2,rest2⟩
 exact absurd hlt2 (by simp at hl2; omega)
 obtain ⟨o2,hB2,hL2⟩:=range_cons hL2
 rw [slices_IndexFunc_implConstraint_b1] at hB2
 have hix2:=drop_idx hd2
 refine W_skip (W_seq (W_block (sq (mF sf8 rfl (aI rfl (nq ?_))))))
 obtain ⟨x8,hx8,hB2⟩:=bind_some hB2
 refine W_region (mF sf1 rfl (mF sf0 rfl (mI rfl (L_ix (r:=(rCon 117)) rfl Try.underlying27 Try.sizeOf41 rfl h0 rfl hix2 (fun g15 o16 cs_g15 hrk_hat17 hat17=>?_)))))
 obtain ⟨u18_0,rfl,hu18_0⟩:=rCon_iff.1 hrk_hat17
 refine L_lda (cs:=[u18_0,I x_2.bound]) rfl Try.isAgg41 Try.sizeOf41 rfl (At.sub (AtH.at hat17 hst.sub) 0 2) rfl ?_
 obtain ⟨H19b,l20,s21,z22,k23⟩:=hst.borrow
 refine L_callv (args:=#[.agg #[u18_0,I x_2.bound]]) rfl hcall_1 rfl (ops1 rfl) (hc_1 _ _ l20 s21 [u18_0,I x_2.bound] _ _ _ (rCon_iff.2 ⟨_,rfl,(RP.mono _ hu18_0 l20)⟩) hx8 (args_app rfl)) ?_
 rintro _ w24 ⟨rfl,hst⟩
 have hst:=k23 hst c0
 refine nn (W_cond (b:=x8) rfl (fun hc25=>?_) (fun hc25=>?_))
 have hB2:=(ite_t hc25).symm.trans hB2
 refine sq (mI rfl (aI rfl (nn (W_ret (retG1 (v1:=I i_1) Try.results107 rfl ?_)))))
 obtain rfl:=so hB2
 obtain rfl:=so hL2
 obtain rfl:=so hF
 exact ⟨rfl,hst⟩
 have hB2:=(ite_f hc25).symm.trans hB2
 refine W_skip (W_region (L_add rfl sf8 rfl (mI rfl (nn ?_))))
 obtain rfl:=so hB2
 show ∃ m,m < _∧I2 m _ _
 refine ⟨rest2.length,by simp,?_⟩
 exact ij hI2 ⟨i_1 + 1,rest2,rfl,drop_next hd2,by simp at hl2; omega,hL2,sf0,sf1,sf7,(Eq.trans rfl (congrArg (Value.int .i64) (i64_succ (n:=s.length) (by simp at hl2; omega) hlen2))),hst⟩
 rcases suf2 with _ | ⟨_,_⟩
 obtain rfl:=range_nil hL2
 refine W_exit (rj hR2 ⟨rfl,hst⟩)
 exact absurd (of_decide_eq_false hc3) (by simp at hl2; omega)
 intro f w_ hR
 obtain ⟨rfl,hst⟩:=rk hR2 hR
 refine sq (aI rfl (nn (W_ret (retG1 (v1:=I (-1)) Try.results107 rfl ?_))))
 obtain rfl:=so hF
 exact ⟨rfl,hst⟩
theorem slices_ContainsFunc_implConstraint_c {s : List Con} {f_ : (Con→Option Bool)} {v0 : Value} {v1 : Value} {H : FH} {w : World} (hst : Star H w []) (h0 : (rS 41 (rCon 117)).rel H [v0] s) (h1 : Fun1 Try.prog (rCon 117) true Value.bool f_ v1 H) {r : Bool} (hF : slices_ContainsFunc_implConstraint s f_ = some r) :
 C Try.prog 62 #[v0,v1] w fun v w'=>v = Bo r∧Star H w' []:=by
 unfold slices_ContainsFunc_implConstraint at hF
 obtain ⟨fid_1,caps_1,rfl,hcall_1,hc_1⟩:=h1
 refine C_enter Try.func62 rfl Try.ntmps62 rfl (sq (aB rfl (nq ?_)))
 obtain ⟨x6,hx6,hF⟩:=bind_some hF
 refine W_region (mV v0 rfl (mV (.func (.func fid_1) #[] caps_1) rfl ?_))
 obtain ⟨H8b,l9,s10,z11,k12⟩:=hst.borrow
 refine L_call rfl Try.call107 (ops2 rfl rfl) (slices_IndexFunc_implConstraint_c (s:=s) (f_:=f_) s10 (RP.mono _ h0 l9) (Fun1.le ⟨_,_,rfl,hcall_1,hc_1⟩ l9) hx6) ?_
 rintro _ w13 ⟨rfl,hst⟩
 have hst:=k12 hst c0
 refine L_geq rfl rfl rfl (aB rfl (nn (W_ret (retG1 (v1:=Bo (decide (x6 ≥ 0))) Try.results62 rfl ?_))))
 obtain rfl:=so hF
 exact ⟨rfl,hst⟩
theorem i_within_c {n_ : Int} {low : Int} {high : Int} {H : FH} {w : World} (hst : Star H w []) {r : Bool} (hF : i_within n_ low high = some r) :
 C Try.prog 106 #[I n_,I low,I high] w fun v w'=>v = Bo r∧Star H w' []:=by
 unfold i_within at hF
 refine C_enter Try.func106 rfl Try.ntmps106 rfl (sq (aB rfl (nq ?_)))
 obtain ⟨R1,hR1⟩:=exR fun f w_=>f 6 = Bo ((decide (low≤n_)) && (decide (n_≤high)))∧Star H w_ ([])
 refine W_join R1 ?_ ?_
 refine W_region (mI rfl (mI rfl (L_leq rfl rfl rfl (mB rfl (L_split (d:=10) (b:=decide (low≤n_)) rfl (fun hc2=>?_) (fun hc2=>?_))))))
 refine mI rfl (mI rfl (L_leq rfl rfl rfl (L_pick (v:=Bo ((decide (low≤n_)) && (decide (n_≤high)))) rfl rfl (and_t hc2 rfl) (aB rfl (nn (rj hR1 ⟨rfl,hst⟩))))))
 refine ps rfl (ps rfl (ps rfl (L_pick (v:=Bo ((decide (low≤n_)) && (decide (n_≤high)))) rfl rfl (and_f hc2) (aB rfl (nn (rj hR1 ⟨rfl,hst⟩))))))
 intro f w_ hR
 obtain ⟨sf6,hst⟩:=rk hR1 hR
 refine W_ret (retG1 (v1:=Bo ((decide (low≤n_)) && (decide (n_≤high)))) Try.results106 sf6 ?_)
 obtain rfl:=so hF
 exact ⟨rfl,hst⟩
theorem i_isLiteral_c {l : Int} {H : FH} {w : World} (hst : Star H w []) {r : Bool} (hF : i_isLiteral l = some r) :
 C Try.prog 104 #[I l] w fun v w'=>v = Bo r∧Star H w' []:=by
 unfold i_isLiteral at hF
 refine C_enter Try.func104 rfl Try.ntmps104 rfl (sq (aB rfl (nq ?_)))
 obtain ⟨b8,hb8,hF⟩:=bind_some hF
 obtain ⟨R9,hR9⟩:=exR fun f w_=>f 2 = Bo b8∧Star H w_ ([])
 refine W_join R9 ?_ ?_
 refine W_region (mI rfl (L_neq rfl rfl rfl (mB rfl (L_split (d:=5) (b:=(l != 0)) rfl (fun hc10=>?_) (fun hc10=>?_)))))
 rw [ite_t hc10] at hb8
 obtain ⟨x6,hx6,hb8⟩:=bind_some hb8
 refine mI rfl ?_
 obtain ⟨H11b,l12,s13,z14,k15⟩:=hst.borrow
 refine L_call rfl Try.call106 (ops3 rfl rfl rfl) (i_within_c (n_:=l) (low:=(-12)) (high:=12) s13 hx6) ?_
 rintro _ w16 ⟨rfl,hst⟩
 have hst:=k15 hst c0
 refine L_pick (v:=Bo b8) rfl rfl (congrArg Value.bool (so hb8)) (aB rfl (nn (rj hR9 ⟨rfl,hst⟩)))
 rw [ite_f hc10] at hb8
 refine ps rfl (ps rfl (L_pick (v:=Bo b8) rfl rfl (congrArg Value.bool (so hb8)) (aB rfl (nn (rj hR9 ⟨rfl,hst⟩)))))
 intro f w_ hR
 obtain ⟨sf2,hst⟩:=rk hR9 hR
 refine W_ret (retG1 (v1:=Bo b8) Try.results104 sf2 ?_)
 obtain rfl:=so hF
 exact ⟨rfl,hst⟩
theorem i_variableOf_c {l : Int} {H : FH} {w : World} (hst : Star H w []) {r : Int} (hF : i_variableOf l = some r) :
 C Try.prog 105 #[I l] w fun v w'=>v = I r∧Star H w' []:=by
 unfold i_variableOf at hF
 refine C_enter Try.func105 rfl Try.ntmps105 rfl (sq (aI rfl (ns (mI rfl (mI rfl (L_neg rfl rfl (L_max rfl rfl rfl (aI rfl (nn (W_ret (retG1 (v1:=I (max l (i64 (-l)))) Try.results105 rfl ?_)))))))))))
 obtain rfl:=so hF
 exact ⟨rfl,hst⟩
theorem i_ConstraintValid_c {c : Con} {v0_0 : Value} {H : FH} {w : World} (hst : Star H w []) (h0_0 : (rS 117 rTerm).rel H [v0_0] c.terms) {r : Bool} (hF : i_ConstraintValid c = some r) :
 C Try.prog 61 #[.agg #[v0_0,I c.bound]] w fun v w'=>v = Bo r∧Star H w' []:=by
 unfold i_ConstraintValid at hF
 refine C_enter Try.func61 rfl Try.ntmps61 rfl (sq (L_box (v:=.agg #[v0_0,I c.bound]) (cs:=#[v0_0,I c.bound]) rfl rfl rfl hst (fun g3 w4 hst=>aB rfl (ns (aI rfl (nq (sq (fA 0 fa_41_0 rfl rfl (ldB 0 hst Try.isAgg39 rfl rfl rfl (L_len rfl Try.underlying39 rfl (slice_len h0_0) (mI rfl (nn ?_))))))))))))
 have hlen7 : List.length c.terms≤9223372036854775807:=len_le (slice_len h0_0)
 obtain ⟨j7,hL7,hF⟩:=bind_some hF
 obtain ⟨R7,hR7⟩:=exR fun f w_=>∃ before_6 : Int,j7 = .nx before_6∧f 1 = Pt g3∧Star H w_ ([box g3 41 #[v0_0,I c.bound]])
 refine W_join R7 ?_ ?_
 refine W_block ?_
 obtain ⟨I7,hI7⟩:=exI fun n f w_=>∃ i_5 : Nat,∃ suf7 : List Term,∃ before_6 : Int,n = suf7.length∧List.drop i_5 c.terms = suf7∧i_5 + suf7.length = c.terms.length∧rangeL i_ConstraintValid_b1 suf7 i_5 before_6 = some j7∧f 1 = Pt g3∧f 3 = I before_6∧f 7 = v0_0∧f 8 = I (c.terms.length : Int)∧f 9 = I i_5∧Star H w_ ([box g3 41 #[v0_0,I c.bound]])
 refine W_loop I7 (n:=c.terms.length) ?_ ?_
 exact ij hI7 ⟨0,c.terms,0,rfl,rfl,Nat.zero_add _,hL7,rfl,rfl,rfl,rfl,rfl,hst⟩
 intro n7 f w_ hI
 obtain ⟨i_5,suf7,before_6,rfl,hd7,hl7,hL7,sf1,sf3,sf7,sf8,sf9,hst⟩:=ik hI7 hI
 refine sq (L_lss rfl sf9 sf8 (nq (W_cond (b:=decide ((i_5 : Int) < (c.terms.length : Int))) rfl (fun hc8=>?_) (fun hc8=>?_))))
 have hlt7:=of_decide_eq_true hc8
 rcases suf7 with _ | ⟨x_7,rest7⟩
 exact absurd hlt7 (by simp at hl7; omega)
 obtain ⟨o7,hB7,hL7⟩:=range_cons hL7
 rw [i_ConstraintValid_b1] at hB7
 have hix7:=drop_idx hd7
 refine W_skip (W_seq (W_block (sq (L_ix (r:=rTerm) rfl Try.underlying39 Try.sizeOf117 sf7 h0_0 sf9 hix7 (fun g16 o17 cs_g16 hrk_hat18 hat18=>?_)))))
 obtain rfl:=rTerm_iff.1 hrk_hat18
 refine L_lda (cs:=[I x_7.coef,I x_7.lit]) rfl Try.isAgg117 Try.sizeOf117 rfl (At.sub (AtH.at hat18 hst.sub) 0 2) rfl (L_al (cs:=#[I 0,I 0]) rfl Try.zeroValue117 rfl hst (fun g20 w21 hst=>L_staB (vs:=#[I x_7.coef,I x_7.lit]) (cs2:=#[I x_7.coef,I x_7.lit]) 0 rfl Try.sizeOf117 rfl rfl rfl (ones_cons rfl (ones_cons rfl ones_nil)) hst rfl (by show 0 + 2≤2; decide) rfl (fun w22 hst=>nq (W_seq ?_))))
 obtain ⟨x28,hx28,hB7⟩:=bind_some hB7
 obtain ⟨b37,hb37,hB7⟩:=bind_some hB7
 obtain ⟨b45,hb45,hB7⟩:=bind_some hB7
 obtain ⟨R46,hR46⟩:=exR fun f w_=>f 1 = Pt g3∧f 5 = Pt g20∧f 7 = v0_0∧f 8 = I (c.terms.length : Int)∧f 9 = I i_5∧f 29 = Bo b45∧Star H w_ ([box g20 117 #[I x_7.coef,I x_7.lit],box g3 41 #[v0_0,I c.bound]])
 refine W_join R46 ?_ ?_
 refine W_region (fA 1 fa_117_1 rfl rfl (ldB 0 hst Try.isAgg3 rfl rfl rfl ?_))
 obtain ⟨H47b,l48,s49,z50,k51⟩:=hst.borrow
 refine L_call rfl Try.call104 (ops1 rfl) (i_isLiteral_c (l:=x_7.lit) s49 hx28) ?_
 rintro _ w52 ⟨rfl,hst⟩
 have hst:=k51 hst c0
 refine L_not_ rfl rfl (mB rfl (L_split (d:=17) (b:=(!x28)) rfl (fun hc53=>?_) (fun hc53=>?_)))
 rw [ite_t hc53] at hb37
 refine ps rfl (ps rfl (ps rfl (ps rfl (ps rfl (L_pick (v:=Bo b37) rfl rfl (congrArg Value.bool (so hb37)) (mB rfl (L_split (d:=24) (b:=b37) rfl (fun hc54=>?_) (fun hc54=>?_))))))))
 rw [ite_t hc54] at hb45
 refine ps rfl (ps rfl (ps rfl (ps rfl (L_pick (v:=Bo b45) rfl rfl (congrArg Value.bool (so hb45)) (nn (rj hR46 ⟨sf1,rfl,sf7,sf8,sf9,rfl,hst⟩))))))
 rw [ite_f hc54] at hb45
 obtain ⟨x43,hx43,hb45⟩:=bind_some hb45
 refine fA 0 fa_117_0 rfl rfl (ldB 0 hst Try.isAgg3 rfl rfl rfl ?_)
 obtain ⟨H55b,l56,s57,z58,k59⟩:=hst.borrow
 refine L_call rfl Try.call106 (ops3 rfl rfl rfl) (i_within_c (n_:=x_7.coef) (low:=1) (high:=1000) s57 hx43) ?_
 rintro _ w60 ⟨rfl,hst⟩
 have hst:=k59 hst c0
 refine L_not_ rfl rfl (L_pick (v:=Bo b45) rfl rfl (congrArg Value.bool (so hb45)) (nn (rj hR46 ⟨sf1,rfl,sf7,sf8,sf9,rfl,hst⟩)))
 rw [ite_f hc53] at hb37
 obtain ⟨x35,hx35,hb37⟩:=bind_some hb37
 refine fA 1 fa_117_1 rfl rfl (ldB 0 hst Try.isAgg3 rfl rfl rfl ?_)
 obtain ⟨H61b,l62,s63,z64,k65⟩:=hst.borrow
 refine L_call rfl Try.call105 (ops1 rfl) (i_variableOf_c (l:=x_7.lit) s63 hx35) ?_
 rintro _ w66 ⟨rfl,hst⟩
 have hst:=k65 hst c0
 refine mF sf3 rfl (L_leq rfl rfl rfl (L_pick (v:=Bo b37) rfl rfl (congrArg Value.bool (so hb37)) (mB rfl (L_split (d:=24) (b:=b37) rfl (fun hc67=>?_) (fun hc67=>?_)))))
 rw [ite_t hc67] at hb45
 refine ps rfl (ps rfl (ps rfl (ps rfl (L_pick (v:=Bo b45) rfl rfl (congrArg Value.bool (so hb45)) (nn (rj hR46 ⟨sf1,rfl,sf7,sf8,sf9,rfl,hst⟩))))))
 rw [ite_f hc67] at hb45
 obtain ⟨x43,hx43,hb45⟩:=bind_some hb45
 refine fA 0 fa_117_0 rfl rfl (ldB 0 hst Try.isAgg3 rfl rfl rfl ?_)
 obtain ⟨H68b,l69,s70,z71,k72⟩:=hst.borrow
 refine L_call rfl Try.call106 (ops3 rfl rfl rfl) (i_within_c (n_:=x_7.coef) (low:=1) (high:=1000) s70 hx43) ?_
 rintro _ w73 ⟨rfl,hst⟩
 have hst:=k72 hst c0
 refine L_not_ rfl rfl (L_pick (v:=Bo b45) rfl rfl (congrArg Value.bool (so hb45)) (nn (rj hR46 ⟨sf1,rfl,sf7,sf8,sf9,rfl,hst⟩)))
 intro f w_ hR
 obtain ⟨sf1,sf5,sf7,sf8,sf9,sf29,hst⟩:=rk hR46 hR
 refine W_cond (b:=b45) sf29 (fun hc74=>?_) (fun hc74=>?_)
 have hB7:=(ite_t hc74).symm.trans hB7
 refine sq (aB rfl (nn (W_ret (retG1 (v1:=Bo false) Try.results61 rfl ?_))))
 obtain rfl:=so hB7
 obtain rfl:=so hL7
 obtain rfl:=so hF
 exact ⟨rfl,(Star.keepN 0 hst)⟩
 have hB7:=(ite_f hc74).symm.trans hB7
 refine W_skip ?_
 obtain ⟨x80,hx80,hB7⟩:=bind_some hB7
 refine W_region (fA 1 fa_117_1 sf5 rfl (ldB 0 hst Try.isAgg3 rfl rfl rfl ?_))
 obtain ⟨H82b,l83,s84,z85,k86⟩:=hst.borrow
 refine L_call rfl Try.call105 (ops1 rfl) (i_variableOf_c (l:=x_7.lit) s84 hx80) ?_
 rintro _ w87 ⟨rfl,hst⟩
 have hst:=k86 hst c0
 refine aI rfl (nn (W_region (L_add rfl sf9 rfl (mI rfl (nn ?_)))))
 obtain rfl:=so hB7
 have hst:=hst.get 1 rfl
 show ∃ m,m < _∧I7 m _ _
 refine ⟨rest7.length,by simp,?_⟩
 exact ij hI7 ⟨i_5 + 1,rest7,x80,rfl,drop_next hd7,by simp at hl7; omega,hL7,sf1,rfl,sf7,sf8,(Eq.trans rfl (congrArg (Value.int .i64) (i64_succ (n:=c.terms.length) (by simp at hl7; omega) hlen7))),(Star.keepN 1 hst)⟩
 rcases suf7 with _ | ⟨_,_⟩
 obtain rfl:=range_nil hL7
 refine W_exit (rj hR7 ⟨before_6,rfl,sf1,hst⟩)
 exact absurd (of_decide_eq_false hc8) (by simp at hl7; omega)
 intro f w_ hR
 obtain ⟨before_6,rfl,sf1,hst⟩:=rk hR7 hR
 refine W_seq ?_
 obtain ⟨x93,hx93,hF⟩:=bind_some hF
 refine W_region (fA 1 fa_41_1 sf1 rfl (ldB 0 hst Try.isAgg3 rfl rfl rfl ?_))
 obtain ⟨H95b,l96,s97,z98,k99⟩:=hst.borrow
 refine L_call rfl Try.call106 (ops3 rfl rfl rfl) (i_within_c (n_:=c.bound) (low:=0) (high:=20000) s97 hx93) ?_
 rintro _ w100 ⟨rfl,hst⟩
 have hst:=k99 hst c0
 refine aB rfl (nn (W_ret (retG1 (v1:=Bo x93) Try.results61 rfl ?_)))
 obtain rfl:=so hF
 exact ⟨rfl,(Star.keepN 0 hst)⟩
theorem i_allValid_1_c {c : Con} {v0_0 : Value} {H : FH} {w : World} (hst : Star H w []) (h0_0 : (rS 117 rTerm).rel H [v0_0] c.terms) {r : Bool} (hF : i_allValid_1 c = some r) :
 C Try.prog 120 #[.agg #[v0_0,I c.bound]] w fun v w'=>v = Bo r∧Star H w' []:=by
 unfold i_allValid_1 at hF
 refine C_enter Try.func120 rfl Try.ntmps120 rfl (sq (L_box (v:=.agg #[v0_0,I c.bound]) (cs:=#[v0_0,I c.bound]) rfl rfl rfl hst (fun g3 w4 hst=>aB rfl (nq ?_))))
 obtain ⟨x10,hx10,hF⟩:=bind_some hF
 refine W_region (L_lda (cs:=[v0_0,I c.bound]) rfl Try.isAgg41 Try.sizeOf41 rfl (At.sub0 (Blk.at (Star.blkAt 0 hst rfl)) 0 2) rfl ?_)
 obtain ⟨H12b,l13,s14,z15,k16⟩:=hst.borrow
 refine L_call rfl Try.call61 (ops1 rfl) (i_ConstraintValid_c (c:=c) s14 (RP.mono _ h0_0 l13) hx10) ?_
 rintro _ w17 ⟨rfl,hst⟩
 have hst:=k16 hst c0
 refine L_not_ rfl rfl (aB rfl (nn (W_ret (retG1 (v1:=Bo (!x10)) Try.results120 rfl ?_))))
 obtain rfl:=so hF
 exact ⟨rfl,(Star.keepN 0 hst)⟩
theorem i_allValid_c {list : List Con} {v0 : Value} {H : FH} {w : World} (hst : Star H w []) (h0 : (rS 41 (rCon 117)).rel H [v0] list) {r : Bool} (hF : i_allValid list = some r) :
 C Try.prog 83 #[v0] w fun v w'=>v = Bo r∧Star H w' []:=by
 unfold i_allValid at hF
 refine C_enter Try.func83 rfl Try.ntmps83 rfl (sq (aB rfl (nq ?_)))
 obtain ⟨x6,hx6,hF⟩:=bind_some hF
 refine W_region (mV v0 rfl ?_)
 obtain ⟨H8b,l9,s10,z11,k12⟩:=hst.borrow
 have hf13 : Fun1 Try.prog (rCon 117) true Value.bool i_allValid_1 (.func (.func 120) #[] #[]) H8b:=by
   refine ⟨_,_,rfl,Try.call120,fun H_ w_ hE_ hs_ cs_ x_ y_ args_ hr_ hy_ ha_=>?_⟩
   obtain ⟨p_0,rfl,hp_0⟩:=rCon_iff.1 hr_
   obtain rfl:=args_of (b:=#[.agg #[p_0,I x_.bound]]) ha_
   exact i_allValid_1_c (c:=x_) hs_ hp_0 hy_
 refine L_call rfl Try.call62 (ops2 rfl rfl) (slices_ContainsFunc_implConstraint_c (s:=list) (f_:=i_allValid_1) s10 (RP.mono _ h0 l9) hf13 hx6) ?_
 rintro _ w14 ⟨rfl,hst⟩
 have hst:=k12 hst c0
 refine L_not_ rfl rfl (aB rfl (nn (W_ret (retG1 (v1:=Bo (!x6)) Try.results83 rfl ?_))))
 obtain rfl:=so hF
 exact ⟨rfl,hst⟩
theorem i_ProblemValid_c {list : List Con} {v0 : Value} {H : FH} {w : World} (hst : Star H w []) (h0 : (rS 41 (rCon 117)).rel H [v0] list) {r : Bool} (hF : i_ProblemValid list = some r) :
 C Try.prog 39 #[v0] w fun v w'=>v = Bo r∧Star H w' []:=by
 unfold i_ProblemValid at hF
 refine C_enter Try.func39 rfl Try.ntmps39 rfl (sq (aB rfl (nq ?_)))
 obtain ⟨b8,hb8,hF⟩:=bind_some hF
 obtain ⟨R9,hR9⟩:=exR fun f w_=>f 2 = Bo b8∧Star H w_ ([])
 refine W_join R9 ?_ ?_
 refine W_region (mV v0 rfl (L_len rfl Try.underlying27 rfl (slice_len h0) (L_leq rfl rfl rfl (mB rfl (L_split (d:=6) (b:=decide ((list.length : Int)≤400)) rfl (fun hc10=>?_) (fun hc10=>?_))))))
 rw [ite_t hc10] at hb8
 obtain ⟨x6,hx6,hb8⟩:=bind_some hb8
 refine mV v0 rfl ?_
 obtain ⟨H11b,l12,s13,z14,k15⟩:=hst.borrow
 refine L_call rfl Try.call83 (ops1 rfl) (i_allValid_c (list:=list) s13 (RP.mono _ h0 l12) hx6) ?_
 rintro _ w16 ⟨rfl,hst⟩
 have hst:=k15 hst c0
 refine L_pick (v:=Bo b8) rfl rfl (congrArg Value.bool (so hb8)) (aB rfl (nn (rj hR9 ⟨rfl,hst⟩)))
 rw [ite_f hc10] at hb8
 refine ps rfl (ps rfl (L_pick (v:=Bo b8) rfl rfl (congrArg Value.bool (so hb8)) (aB rfl (nn (rj hR9 ⟨rfl,hst⟩)))))
 intro f w_ hR
 obtain ⟨sf2,hst⟩:=rk hR9 hR
 refine W_ret (retG1 (v1:=Bo b8) Try.results39 sf2 ?_)
 obtain rfl:=so hF
 exact ⟨rfl,hst⟩
theorem slices_Clone_implConstraint_c {s : List Con} {v0 : Value} {H : FH} {w : World} {R : List Ass} (hst : Star H w R) (h0 : (rS 41 (rCon 117)).rel H [v0] s) {r : List Con} (hF : slices_Clone_implConstraint s = some r) :
 C Try.prog 102 #[v0] w fun v w'=>∃ H' : FH,Le H H'∧∃ (u1 : Value),v = u1∧Star H' w' (oF 41 (rCon 117) u1 r :: R):=by
 unfold slices_Clone_implConstraint at hF
 refine C_enter Try.func102 rfl Try.ntmps102 rfl (sq (aV S0 rfl (nq (sq (mV v0 rfl ?_)))))
 obtain ⟨a1,cap1,hsl1,_,_⟩:=(slice_len h0)
 refine L_nileq (a:=a1) rfl Try.underlying27 (Eq.trans rfl hsl1) rfl ?_
 rw [← hsl1]
 refine nn ?_
 rcases Bool.eq_false_or_eq_true (isNilS v0) with hn2 | hn2
 refine W_cond (b:=true) (Eq.trans rfl (congrArg Value.bool hn2)) (fun _=>?_) (fun h=>nomatch h)
 obtain rfl:=nil_of h0 hn2
 refine sq (aV S0 rfl (nn (W_ret (retG1 (v1:=S0) Try.results102 rfl ?_))))
 simp [app] at hF
 subst hF
 have hst:=Star.addNil (R:=(OR.frz (rCon 117))) (e:=41) hst
 exact ⟨H,(Le.refl _),S0,rfl,hst⟩
 refine W_cond (b:=false) (Eq.trans rfl (congrArg Value.bool hn2)) (fun h=>nomatch h) (fun _=>?_)
 refine W_skip (W_seq ?_)
 obtain ⟨x7,hx7,hF⟩:=bind_some hF
 refine W_region (L_bs rfl parts0 (bs_27_0  ) hst (fun g11 w12 hst=>?_))
 have hst:=Star.mkRow (R:=(OR.frz (rCon 117))) [] [] 0 hst rfl rfl rfl (by decide)
 refine mV v0 rfl (L_app (v:=(Sl g11 0 0)) (u:=v0) rfl et_27 rfl rfl hst h0 hx7 (fun v14 w15 hst=>aV v14 rfl (nn (W_ret (retG1 (v1:=v14) Try.results102 rfl ?_)))))
 obtain rfl:=so hF
 exact ⟨H,(Le.refl _),v14,rfl,hst⟩
theorem slices_Clone_int_c {s : List Int} {v0 : Value} {H : FH} {w : World} (hst : Star H w []) (h0 : (rS 3 RP.int).rel H [v0] s) {r : List Int} (hF : slices_Clone_int s = some r) :
 C Try.prog 136 #[v0] w fun v w'=>∃ (u1 : Value),v = u1∧Star H w' [oF 3 RP.int u1 r]:=by
 unfold slices_Clone_int at hF
 refine C_enter Try.func136 rfl Try.ntmps136 rfl (sq (aV S0 rfl (nq (sq (mV v0 rfl ?_)))))
 obtain ⟨a1,cap1,hsl1,_,_⟩:=(slice_len h0)
 refine L_nileq (a:=a1) rfl Try.underlying105 (Eq.trans rfl hsl1) rfl ?_
 rw [← hsl1]
 refine nn ?_
 rcases Bool.eq_false_or_eq_true (isNilS v0) with hn2 | hn2
 refine W_cond (b:=true) (Eq.trans rfl (congrArg Value.bool hn2)) (fun _=>?_) (fun h=>nomatch h)
 obtain rfl:=nil_of h0 hn2
 refine sq (aV S0 rfl (nn (W_ret (retG1 (v1:=S0) Try.results136 rfl ?_))))
 simp [app] at hF
 subst hF
 have hst:=Star.addNil (R:=(OR.frz RP.int)) (e:=3) hst
 exact ⟨S0,rfl,hst⟩
 refine W_cond (b:=false) (Eq.trans rfl (congrArg Value.bool hn2)) (fun h=>nomatch h) (fun _=>?_)
 refine W_skip (W_seq ?_)
 obtain ⟨x7,hx7,hF⟩:=bind_some hF
 refine W_region (L_bs rfl parts0 (bs_105_0  ) hst (fun g11 w12 hst=>?_))
 have hst:=Star.mkRow (R:=(OR.frz RP.int)) [] [] 0 hst rfl rfl rfl (by decide)
 refine mV v0 rfl (L_app (v:=(Sl g11 0 0)) (u:=v0) rfl et_105 rfl rfl hst h0 hx7 (fun v14 w15 hst=>aV v14 rfl (nn (W_ret (retG1 (v1:=v14) Try.results136 rfl ?_)))))
 obtain rfl:=so hF
 exact ⟨v14,rfl,hst⟩
theorem i_under_c {l : Int} {p : List Int} {v1 : Value} {H : FH} {w : World} (hst : Star H w []) (h1 : (rS 3 RP.int).rel H [v1] p) {r : Int} (hF : i_under l p = some r) :
 C Try.prog 152 #[I l,v1] w fun v w'=>v = I r∧Star H w' []:=by
 unfold i_under at hF
 refine C_enter Try.func152 rfl Try.ntmps152 rfl (sq (aI rfl (nq (sq (mI rfl (L_lss rfl rfl rfl (nn (W_cond (b:=decide (l < 0)) rfl (fun hc1=>?_) (fun hc1=>?_)))))))))
 have hF:=(ite_t hc1).symm.trans hF
 refine W_seq ?_
 obtain ⟨x2,hx2,hF⟩:=bind_some hF
 refine W_region (mV v1 rfl (mI rfl (L_neg rfl rfl (L_sub rfl rfl rfl (L_ix (r:=RP.int) rfl Try.underlying105 Try.sizeOf3 rfl h1 rfl hx2 (fun g7 o8 cs_g7 hrk_hat9 hat9=>?_))))))
 obtain rfl : _ = [_]:=hrk_hat9
 refine L_ld rfl Try.isAgg3 rfl (At.cell (AtH.at hat9 hst.sub) (j:=0) rfl) (L_neg rfl rfl (aI rfl (nn (W_ret (retG1 (v1:=I (i64 (-x2))) Try.results152 rfl ?_)))))
 obtain rfl:=so hF
 exact ⟨rfl,hst⟩
 have hF:=(ite_f hc1).symm.trans hF
 refine W_skip (W_seq ?_)
 obtain ⟨x11,hx11,hF⟩:=bind_some hF
 refine W_region (mV v1 rfl (mI rfl (L_sub rfl rfl rfl (L_ix (r:=RP.int) rfl Try.underlying105 Try.sizeOf3 rfl h1 rfl hx11 (fun g16 o17 cs_g16 hrk_hat18 hat18=>?_)))))
 obtain rfl : _ = [_]:=hrk_hat18
 refine L_ld rfl Try.isAgg3 rfl (At.cell (AtH.at hat18 hst.sub) (j:=0) rfl) (aI rfl (nn (W_ret (retG1 (v1:=I x11) Try.results152 rfl ?_))))
 obtain rfl:=so hF
 exact ⟨rfl,hst⟩
theorem i_Constraint_slack_c {c : Con} {p : List Int} {v0_0 : Value} {v1 : Value} {H : FH} {w : World} (hst : Star H w []) (h0_0 : (rS 117 rTerm).rel H [v0_0] c.terms) (h1 : (rS 3 RP.int).rel H [v1] p) {r : Int} (hF : i_Constraint_slack c p = some r) :
 C Try.prog 137 #[.agg #[v0_0,I c.bound],v1] w fun v w'=>v = I r∧Star H w' []:=by
 unfold i_Constraint_slack at hF
 refine C_enter Try.func137 rfl Try.ntmps137 rfl (sq (L_box (v:=.agg #[v0_0,I c.bound]) (cs:=#[v0_0,I c.bound]) rfl rfl rfl hst (fun g3 w4 hst=>aI rfl (ns (fA 1 fa_41_1 rfl rfl (ldB 0 hst Try.isAgg3 rfl rfl rfl (L_neg rfl rfl (aI rfl (nq (sq (fA 0 fa_41_0 rfl rfl (ldB 0 hst Try.isAgg39 rfl rfl rfl (L_len rfl Try.underlying39 rfl (slice_len h0_0) (mI rfl (nn ?_)))))))))))))))
 have hlen7 : List.length c.terms≤9223372036854775807:=len_le (slice_len h0_0)
 obtain ⟨j7,hL7,hF⟩:=bind_some hF
 obtain ⟨R7,hR7⟩:=exR fun f w_=>∃ out_6 : Int,j7 = .nx out_6∧f 5 = I out_6∧Star H w_ ([])
 refine W_join R7 ?_ ?_
 refine W_block ?_
 obtain ⟨I7,hI7⟩:=exI fun n f w_=>∃ i_5 : Nat,∃ suf7 : List Term,∃ out_6 : Int,n = suf7.length∧List.drop i_5 c.terms = suf7∧i_5 + suf7.length = c.terms.length∧rangeL (i_Constraint_slack_b1 p) suf7 i_5 out_6 = some j7∧f 1 = v1∧f 5 = I out_6∧f 12 = v0_0∧f 13 = I (c.terms.length : Int)∧f 14 = I i_5∧Star H w_ ([])
 refine W_loop I7 (n:=c.terms.length) ?_ ?_
 exact ij hI7 ⟨0,c.terms,i64 (-c.bound),rfl,rfl,Nat.zero_add _,hL7,rfl,rfl,rfl,rfl,rfl,(Star.keepN 0 hst)⟩
 intro n7 f w_ hI
 obtain ⟨i_5,suf7,out_6,rfl,hd7,hl7,hL7,sf1,sf5,sf12,sf13,sf14,hst⟩:=ik hI7 hI
 refine sq (L_lss rfl sf14 sf13 (nq (W_cond (b:=decide ((i_5 : Int) < (c.terms.length : Int))) rfl (fun hc8=>?_) (fun hc8=>?_))))
 have hlt7:=of_decide_eq_true hc8
 rcases suf7 with _ | ⟨x_7,rest7⟩
 exact absurd hlt7 (by simp at hl7; omega)
 obtain ⟨o7,hB7,hL7⟩:=range_cons hL7
 rw [i_Constraint_slack_b1] at hB7
 have hix7:=drop_idx hd7
 refine W_skip (W_seq (W_block (sq (L_ix (r:=rTerm) rfl Try.underlying39 Try.sizeOf117 sf12 h0_0 sf14 hix7 (fun g16 o17 cs_g16 hrk_hat18 hat18=>?_)))))
 obtain rfl:=rTerm_iff.1 hrk_hat18
 refine L_lda (cs:=[I x_7.coef,I x_7.lit]) rfl Try.isAgg117 Try.sizeOf117 rfl (At.sub (AtH.at hat18 hst.sub) 0 2) rfl (L_al (cs:=#[I 0,I 0]) rfl Try.zeroValue117 rfl hst (fun g20 w21 hst=>L_staB (vs:=#[I x_7.coef,I x_7.lit]) (cs2:=#[I x_7.coef,I x_7.lit]) 0 rfl Try.sizeOf117 rfl rfl rfl (ones_cons rfl (ones_cons rfl ones_nil)) hst rfl (by show 0 + 2≤2; decide) rfl (fun w22 hst=>nq ?_)))
 obtain ⟨x28,hx28,hB7⟩:=bind_some hB7
 refine W_region (fA 1 fa_117_1 rfl rfl (ldB 0 hst Try.isAgg3 rfl rfl rfl (mF sf1 rfl ?_)))
 obtain ⟨H30b,l31,s32,z33,k34⟩:=hst.borrow
 refine L_call rfl Try.call152 (ops2 rfl rfl) (i_under_c (l:=x_7.lit) (p:=p) s32 (RP.mono _ h1 l31) hx28) ?_
 rintro _ w35 ⟨rfl,hst⟩
 have hst:=k34 hst c0
 refine L_geq rfl rfl rfl (nn ?_)
 obtain ⟨out_36,hA37,hB7⟩:=bind_some hB7
 obtain ⟨R37,hR37⟩:=exR fun f w_=>f 1 = v1∧f 5 = I out_36∧f 12 = v0_0∧f 13 = I (c.terms.length : Int)∧f 14 = I i_5∧Star H w_ ([])
 refine W_join R37 ?_ ?_
 refine W_cond (b:=decide (x28 ≥ 0)) rfl (fun hc38=>?_) (fun hc38=>?_)
 have hA37:=(ite_t hc38).symm.trans hA37
 refine W_region (mF sf5 rfl (fA 0 fa_117_0 rfl rfl (ldB 0 hst Try.isAgg3 rfl rfl rfl (L_add rfl rfl rfl (aI rfl (nn ?_))))))
 obtain rfl:=so hA37
 exact rj hR37 ⟨sf1,rfl,sf12,sf13,sf14,(Star.keepN 0 hst)⟩
 have hA37:=(ite_f hc38).symm.trans hA37
 refine W_skip ?_
 obtain rfl:=so hA37
 exact rj hR37 ⟨sf1,sf5,sf12,sf13,sf14,(Star.keepN 0 hst)⟩
 intro f w_ hR
 obtain ⟨sf1,sf5,sf12,sf13,sf14,hst⟩:=rk hR37 hR
 refine W_region (L_add rfl sf14 rfl (mI rfl (nn ?_)))
 obtain rfl:=so hB7
 show ∃ m,m < _∧I7 m _ _
 refine ⟨rest7.length,by simp,?_⟩
 exact ij hI7 ⟨i_5 + 1,rest7,out_36,rfl,drop_next hd7,by simp at hl7; omega,hL7,sf1,sf5,sf12,sf13,(Eq.trans rfl (congrArg (Value.int .i64) (i64_succ (n:=c.terms.length) (by simp at hl7; omega) hlen7))),hst⟩
 rcases suf7 with _ | ⟨_,_⟩
 obtain rfl:=range_nil hL7
 refine W_exit (rj hR7 ⟨out_6,rfl,sf5,hst⟩)
 exact absurd (of_decide_eq_false hc8) (by simp at hl7; omega)
 intro f w_ hR
 obtain ⟨out_6,rfl,sf5,hst⟩:=rk hR7 hR
 refine sq (mF sf5 rfl (aI rfl (nn (W_ret (retG1 (v1:=I out_6) Try.results137 rfl ?_)))))
 obtain rfl:=so hF
 exact ⟨rfl,hst⟩
theorem i_Constraint_implied_c {c : Con} {p : List Int} {v0_0 : Value} {v1 : Value} {H : FH} {w : World} (hst : Star H w []) (h0_0 : (rS 117 rTerm).rel H [v0_0] c.terms) (h1 : (rS 3 RP.int).rel H [v1] p) {r : List Int} (hF : i_Constraint_implied c p = some r) :
 C Try.prog 138 #[.agg #[v0_0,I c.bound],v1] w fun v w'=>∃ (u1 : Value),v = u1∧Star H w' [oF 3 RP.int u1 r]:=by
 unfold i_Constraint_implied at hF
 refine C_enter Try.func138 rfl Try.ntmps138 rfl (sq (L_box (v:=.agg #[v0_0,I c.bound]) (cs:=#[v0_0,I c.bound]) rfl rfl rfl hst (fun g3 w4 hst=>aV S0 rfl (nq ?_))))
 obtain ⟨x10,hx10,hF⟩:=bind_some hF
 refine W_region (L_lda (cs:=[v0_0,I c.bound]) rfl Try.isAgg41 Try.sizeOf41 rfl (At.sub0 (Blk.at (Star.blkAt 0 hst rfl)) 0 2) rfl (mV v1 rfl ?_))
 obtain ⟨H12b,l13,s14,z15,k16⟩:=hst.borrow
 refine L_call rfl Try.call137 (ops2 rfl rfl) (i_Constraint_slack_c (c:=c) (p:=p) s14 (RP.mono _ h0_0 l13) (RP.mono _ h1 l13) hx10) ?_
 rintro _ w17 ⟨rfl,hst⟩
 have hst:=k16 hst c0
 refine aI rfl (ns (aV S0 rfl (nq (sq (fA 0 fa_41_0 rfl rfl (ldB 0 hst Try.isAgg39 rfl rfl rfl (L_len rfl Try.underlying39 rfl (slice_len h0_0) (mI rfl (nn ?_)))))))))
 have hlen21 : List.length c.terms≤9223372036854775807:=len_le (slice_len h0_0)
 obtain ⟨j21,hL21,hF⟩:=bind_some hF
 obtain ⟨R21,hR21⟩:=exR fun f w_=>∃ out_19 : List Int,∃ v19_out : Value,j21 = .nx out_19∧f 6 = v19_out∧Star H w_ ([oF 3 RP.int v19_out out_19])
 refine W_join R21 ?_ ?_
 refine W_block ?_
 obtain ⟨I21,hI21⟩:=exI fun n f w_=>∃ i_18 : Nat,∃ suf21 : List Term,∃ out_19 : List Int,∃ v19_out : Value,n = suf21.length∧List.drop i_18 c.terms = suf21∧i_18 + suf21.length = c.terms.length∧rangeL (i_Constraint_implied_b1 p x10) suf21 i_18 out_19 = some j21∧f 1 = v1∧f 5 = I x10∧f 6 = v19_out∧f 13 = v0_0∧f 14 = I (c.terms.length : Int)∧f 15 = I i_18∧Star H w_ ([oF 3 RP.int v19_out out_19])
 have hst:=Star.addNil (R:=(OR.frz RP.int)) (e:=3) hst
 refine W_loop I21 (n:=c.terms.length) ?_ ?_
 exact ij hI21 ⟨0,c.terms,[],S0,rfl,rfl,Nat.zero_add _,hL21,rfl,rfl,rfl,rfl,rfl,rfl,(Star.keepN 1 hst)⟩
 intro n21 f w_ hI
 obtain ⟨i_18,suf21,out_19,v19_out,rfl,hd21,hl21,hL21,sf1,sf5,sf6,sf13,sf14,sf15,hst⟩:=ik hI21 hI
 refine sq (L_lss rfl sf15 sf14 (nq (W_cond (b:=decide ((i_18 : Int) < (c.terms.length : Int))) rfl (fun hc23=>?_) (fun hc23=>?_))))
 have hlt21:=of_decide_eq_true hc23
 rcases suf21 with _ | ⟨x_21,rest21⟩
 exact absurd hlt21 (by simp at hl21; omega)
 obtain ⟨o21,hB21,hL21⟩:=range_cons hL21
 rw [i_Constraint_implied_b1] at hB21
 have hix21:=drop_idx hd21
 refine W_skip (W_seq (W_block (sq (L_ix (r:=rTerm) rfl Try.underlying39 Try.sizeOf117 sf13 h0_0 sf15 hix21 (fun g31 o32 cs_g31 hrk_hat33 hat33=>?_)))))
 obtain rfl:=rTerm_iff.1 hrk_hat33
 refine L_lda (cs:=[I x_21.coef,I x_21.lit]) rfl Try.isAgg117 Try.sizeOf117 rfl (At.sub (AtH.at hat33 hst.sub) 0 2) rfl (L_al (cs:=#[I 0,I 0]) rfl Try.zeroValue117 rfl hst (fun g35 w36 hst=>L_staB (vs:=#[I x_21.coef,I x_21.lit]) (cs2:=#[I x_21.coef,I x_21.lit]) 0 rfl Try.sizeOf117 rfl rfl rfl (ones_cons rfl (ones_cons rfl ones_nil)) hst rfl (by show 0 + 2≤2; decide) rfl (fun w37 hst=>nq ?_)))
 obtain ⟨x43,hx43,hB21⟩:=bind_some hB21
 obtain ⟨R45,hR45⟩:=exR fun f w_=>f 1 = v1∧f 5 = I x10∧f 6 = v19_out∧f 8 = Pt g35∧f 13 = v0_0∧f 14 = I (c.terms.length : Int)∧f 15 = I i_18∧f 29 = Bo ((x43 == 0) && (decide (x_21.coef > x10)))∧Star H w_ ([oF 3 RP.int v19_out out_19,box g35 117 #[I x_21.coef,I x_21.lit]])
 refine W_join R45 ?_ ?_
 refine W_region (fA 1 fa_117_1 rfl rfl (ldB 0 hst Try.isAgg3 rfl rfl rfl (mF sf1 rfl ?_)))
 obtain ⟨H46b,l47,s48,z49,k50⟩:=hst.borrow
 refine L_call rfl Try.call152 (ops2 rfl rfl) (i_under_c (l:=x_21.lit) (p:=p) s48 (RP.mono _ h1 l47) hx43) ?_
 rintro _ w51 ⟨rfl,hst⟩
 have hst:=k50 hst c0
 refine L_eql rfl rfl rfl (mB rfl (L_split (d:=24) (b:=(x43 == 0)) rfl (fun hc52=>?_) (fun hc52=>?_)))
 refine fA 0 fa_117_0 rfl rfl (ldB 0 hst Try.isAgg3 rfl rfl rfl (mF sf5 rfl (L_gtr rfl rfl rfl (L_pick (v:=Bo ((x43 == 0) && (decide (x_21.coef > x10)))) rfl rfl (and_t hc52 rfl) (nn ?_)))))
 have hst:=hst.get 1 rfl
 exact rj hR45 ⟨sf1,sf5,sf6,rfl,sf13,sf14,sf15,rfl,hst⟩
 refine ps rfl (ps rfl (ps rfl (ps rfl (L_pick (v:=Bo ((x43 == 0) && (decide (x_21.coef > x10)))) rfl rfl (and_f hc52) (nn ?_)))))
 have hst:=hst.get 1 rfl
 exact rj hR45 ⟨sf1,sf5,sf6,rfl,sf13,sf14,sf15,rfl,hst⟩
 intro f w_ hR
 obtain ⟨sf1,sf5,sf6,sf8,sf13,sf14,sf15,sf29,hst⟩:=rk hR45 hR
 obtain ⟨out_53,hA55,hB21⟩:=bind_some hB21
 obtain ⟨R55,hR55⟩:=exR fun f w_=>∃ v53_out : Value,f 1 = v1∧f 5 = I x10∧f 6 = v53_out∧f 13 = v0_0∧f 14 = I (c.terms.length : Int)∧f 15 = I i_18∧Star H w_ ([oF 3 RP.int v53_out out_53])
 refine W_join R55 ?_ ?_
 refine W_cond (b:=((x43 == 0) && (decide (x_21.coef > x10)))) sf29 (fun hc56=>?_) (fun hc56=>?_)
 have hA55:=(ite_t hc56).symm.trans hA55
 obtain ⟨x60,hx60,hA55⟩:=bind_some hA55
 refine W_region (mF sf6 rfl (fA 1 fa_117_1 sf8 rfl (ldB 1 hst Try.isAgg3 rfl rfl rfl (L_bs rfl (parts1 rfl) (bs_105_1_0 (I x_21.lit) rfl) hst (fun g64 w65 hst=>?_)))))
 have hst:=Star.addF (r:=RP.int) (cs:=[I x_21.lit]) (x:=x_21.lit) hst rfl
 have hst:=Star.mkRow (R:=(OR.frz RP.int)) [([I x_21.lit],x_21.lit)] [x_21.lit] 1 hst rfl rfl rfl (by decide)
 have hst:=hst.get 1 rfl
 refine L_appM (v:=v19_out) (u:=(Sl g64 1 1)) rfl et_105 rfl rfl hst hx60 (fun v67 w68 hst=>aV v67 rfl (nn ?_))
 obtain rfl:=so hA55
 exact rj hR55 ⟨v67,sf1,sf5,rfl,sf13,sf14,sf15,(Star.keepN 1 hst)⟩
 have hA55:=(ite_f hc56).symm.trans hA55
 refine W_skip ?_
 obtain rfl:=so hA55
 exact rj hR55 ⟨v19_out,sf1,sf5,sf6,sf13,sf14,sf15,(Star.keepN 1 hst)⟩
 intro f w_ hR
 obtain ⟨v53_out,sf1,sf5,sf6,sf13,sf14,sf15,hst⟩:=rk hR55 hR
 refine W_region (L_add rfl sf15 rfl (mI rfl (nn ?_)))
 obtain rfl:=so hB21
 show ∃ m,m < _∧I21 m _ _
 refine ⟨rest21.length,by simp,?_⟩
 exact ij hI21 ⟨i_18 + 1,rest21,out_53,v53_out,rfl,drop_next hd21,by simp at hl21; omega,hL21,sf1,sf5,sf6,sf13,sf14,(Eq.trans rfl (congrArg (Value.int .i64) (i64_succ (n:=c.terms.length) (by simp at hl21; omega) hlen21))),hst⟩
 rcases suf21 with _ | ⟨_,_⟩
 obtain rfl:=range_nil hL21
 refine W_exit (rj hR21 ⟨out_19,v19_out,rfl,sf6,hst⟩)
 exact absurd (of_decide_eq_false hc23) (by simp at hl21; omega)
 intro f w_ hR
 obtain ⟨out_19,v19_out,rfl,sf6,hst⟩:=rk hR21 hR
 refine sq (mF sf6 rfl (aV v19_out rfl (nn (W_ret (retG1 (v1:=v19_out) Try.results138 rfl ?_)))))
 obtain rfl:=so hF
 exact ⟨v19_out,rfl,hst⟩
theorem i_propagate_c {fu : Nat} {list : List Con} {p : List Int} {v0 : Value} {v1 : Value} {H : FH} {w : World} (hst : Star H w []) (h0 : (rS 41 (rCon 117)).rel H [v0] list) (h1 : (rS 3 RP.int).rel H [v1] p) {r : (List Int) × Int} (hF : i_propagate fu list p = some r) :
 C Try.prog 112 #[v0,v1] w fun v w'=>∃ (u1 : Value),v = .tuple #[u1,I r.2]∧Star H w' [oF 3 RP.int u1 r.1]:=by
 unfold i_propagate at hF
 refine C_enter Try.func112 rfl Try.ntmps112 rfl (sq (aV S0 rfl (aI rfl (nq ?_))))
 obtain ⟨x6,hx6,hF⟩:=bind_some hF
 refine W_region (mV v1 rfl ?_)
 obtain ⟨H9b,l10,s11,z12,k13⟩:=hst.borrow
 refine L_call rfl Try.call136 (ops1 rfl) (slices_Clone_int_c (s:=p) s11 (RP.mono _ h1 l10) hx6) ?_
 rintro r14_0 w14 ⟨_,rfl,hst⟩
 have hst:=k13 hst (co closed_int c0)
 refine aV r14_0 rfl (nq (sq (aB rfl (nn ?_))))
 obtain ⟨j19,hL19,hF⟩:=bind_some hF
 obtain ⟨R19,hR19⟩:=exR fun f w_=>∃ out_17 : List Int,∃ made_18 : Bool,j19 = .nx (out_17,made_18)∧f 6 = r14_0∧Star H w_ ([oF 3 RP.int r14_0 out_17])
 refine W_join R19 ?_ ?_
 refine W_block ?_
 obtain ⟨I19,hI19⟩:=exI fun n f w_=>∃ out_17 : List Int,∃ made_18 : Bool,whileL (i_propagate_b1 list) n (out_17,made_18) = some j19∧f 0 = v0∧f 6 = r14_0∧f 7 = Bo made_18∧Star H w_ ([oF 3 RP.int r14_0 out_17])
 refine W_loop I19 (n:=fu) ?_ ?_
 exact ij hI19 ⟨x6,true,hL19,rfl,rfl,rfl,hst⟩
 intro n19 f w_ hI
 obtain ⟨out_17,made_18,hL19,sf0,sf6,sf7,hst⟩:=ik hI19 hI
 rcases n19 with _ | n19
 exact (while_zero hL19).elim
 obtain ⟨o19,hB19,hL19⟩:=while_succ hL19
 rw [i_propagate_b1] at hB19
 refine W_seq (sq (mF sf7 rfl (nn (W_cond (b:=made_18) rfl (fun hc20=>?_) (fun hc20=>?_)))))
 have hB19:=(ite_t hc20).symm.trans hB19
 refine W_skip (W_block (sq (aB rfl (ns (mF sf0 rfl (L_len rfl Try.underlying27 rfl (slice_len h0) (mI rfl (nn ?_))))))))
 have hlen24 : List.length list≤9223372036854775807:=len_le (slice_len h0)
 obtain ⟨j24,hL24,hB19⟩:=bind_some hB19
 obtain ⟨R24,hR24⟩:=exR fun f w_=>∃ out_22 : List Int,∃ made_23 : Bool,j24 = .nx (out_22,made_23)∧f 0 = v0∧f 6 = r14_0∧f 7 = Bo made_23∧Star H w_ ([oF 3 RP.int r14_0 out_22])
 refine W_join R24 ?_ ?_
 refine W_block ?_
 obtain ⟨I24,hI24⟩:=exI fun n f w_=>∃ i_21 : Nat,∃ suf24 : List Con,∃ out_22 : List Int,∃ made_23 : Bool,n = suf24.length∧List.drop i_21 list = suf24∧i_21 + suf24.length = list.length∧rangeL i_propagate_b2 suf24 i_21 (out_22,made_23) = some j24∧f 0 = v0∧f 6 = r14_0∧f 7 = Bo made_23∧f 15 = v0∧f 16 = I (list.length : Int)∧f 17 = I i_21∧Star H w_ ([oF 3 RP.int r14_0 out_22])
 refine W_loop I24 (n:=list.length) ?_ ?_
 exact ij hI24 ⟨0,list,out_17,false,rfl,rfl,Nat.zero_add _,hL24,sf0,sf6,rfl,rfl,rfl,rfl,hst⟩
 intro n24 f w_ hI
 obtain ⟨i_21,suf24,out_22,made_23,rfl,hd24,hl24,hL24,sf0,sf6,sf7,sf15,sf16,sf17,hst⟩:=ik hI24 hI
 refine sq (L_lss rfl sf17 sf16 (nq (W_cond (b:=decide ((i_21 : Int) < (list.length : Int))) rfl (fun hc25=>?_) (fun hc25=>?_))))
 have hlt24:=of_decide_eq_true hc25
 rcases suf24 with _ | ⟨x_24,rest24⟩
 exact absurd hlt24 (by simp at hl24; omega)
 obtain ⟨o24,hB24,hL24⟩:=range_cons hL24
 rw [i_propagate_b2] at hB24
 have hix24:=drop_idx hd24
 refine W_skip (W_seq (W_block (sq (mF sf17 rfl (L_ix (r:=(rCon 117)) rfl Try.underlying27 Try.sizeOf41 sf15 h0 sf17 hix24 (fun g33 o34 cs_g33 hrk_hat35 hat35=>?_))))))
 obtain ⟨u36_0,rfl,hu36_0⟩:=rCon_iff.1 hrk_hat35
 refine L_lda (cs:=[u36_0,I x_24.bound]) rfl Try.isAgg41 Try.sizeOf41 rfl (At.sub (AtH.at hat35 hst.sub) 0 2) rfl (L_al (cs:=#[S0,I 0]) rfl Try.zeroValue41 rfl hst (fun g37 w38 hst=>aI rfl (L_staB (vs:=#[u36_0,I x_24.bound]) (cs2:=#[u36_0,I x_24.bound]) 0 rfl Try.sizeOf41 rfl rfl rfl (ones_cons (one_len (slice_len hu36_0)) (ones_cons rfl ones_nil)) hst rfl (by show 0 + 2≤2; decide) rfl (fun w39 hst=>nq (W_seq ?_)))))
 obtain ⟨x46,hx46,hB24⟩:=bind_some hB24
 refine W_region (L_lda (cs:=[u36_0,I x_24.bound]) rfl Try.isAgg41 Try.sizeOf41 rfl (At.sub0 (Blk.at (Star.blkAt 0 hst rfl)) 0 2) rfl (mF sf6 rfl ?_))
 obtain ⟨H48b,l49,s50,z51,k52⟩:=hst.borrow
 have hb53 : (rS 3 RP.int).rel H48b [r14_0] out_22:=fz_own 1 z51 rfl
 refine L_call rfl Try.call137 (ops2 rfl rfl) (i_Constraint_slack_c (c:=x_24) (p:=out_22) s50 (RP.mono _ hu36_0 l49) hb53 hx46) ?_
 rintro _ w54 ⟨rfl,hst⟩
 have hst:=k52 hst c0
 refine L_lss rfl rfl rfl (nn (W_cond (b:=decide (x46 < 0)) rfl (fun hc55=>?_) (fun hc55=>?_)))
 have hB24:=(ite_t hc55).symm.trans hB24
 refine sq (mF sf6 rfl (mI rfl (aV r14_0 rfl (aI rfl (nn (W_ret (retG2 (v1:=r14_0) (v2:=I i_21) Try.results112 rfl rfl ?_)))))))
 obtain rfl:=so hB24
 obtain rfl:=so hL24
 obtain rfl:=so hB19
 obtain rfl:=so hL19
 obtain rfl:=so hF
 have hst:=hst.get 1 rfl
 exact ⟨r14_0,rfl,(Star.keepN 1 hst)⟩
 have hB24:=(ite_f hc55).symm.trans hB24
 refine W_skip (W_seq ?_)
 obtain ⟨x62,hx62,hB24⟩:=bind_some hB24
 refine W_region (L_lda (cs:=[u36_0,I x_24.bound]) rfl Try.isAgg41 Try.sizeOf41 rfl (At.sub0 (Blk.at (Star.blkAt 0 hst rfl)) 0 2) rfl (mF sf6 rfl ?_))
 obtain ⟨H65b,l66,s67,z68,k69⟩:=hst.borrow
 have hb70 : (rS 3 RP.int).rel H65b [r14_0] out_22:=fz_own 1 z68 rfl
 refine L_call rfl Try.call138 (ops2 rfl rfl) (i_Constraint_implied_c (c:=x_24) (p:=out_22) s67 (RP.mono _ hu36_0 l66) hb70 hx62) ?_
 rintro r71_0 w71 ⟨_,rfl,hst⟩
 have hst:=k69 hst (co closed_int c0)
 refine L_len rfl Try.underlying105 rfl (Star.len 0 hst rfl) (mI rfl (nn ?_))
 have hlen76 : List.length x62≤9223372036854775807:=len_le (Star.len 0 hst rfl)
 obtain ⟨j76,hL76,hB24⟩:=bind_some hB24
 obtain ⟨R76,hR76⟩:=exR fun f w_=>∃ out_74 : List Int,∃ made_75 : Bool,j76 = .nx (out_74,made_75)∧f 0 = v0∧f 6 = r14_0∧f 7 = Bo made_75∧f 15 = v0∧f 16 = I (list.length : Int)∧f 17 = I i_21∧Star H w_ ([oF 3 RP.int r14_0 out_74])
 refine W_join R76 ?_ ?_
 refine W_block ?_
 obtain ⟨I76,hI76⟩:=exI fun n f w_=>∃ i_73 : Nat,∃ suf76 : List Int,∃ out_74 : List Int,∃ made_75 : Bool,n = suf76.length∧List.drop i_73 x62 = suf76∧i_73 + suf76.length = x62.length∧rangeL i_propagate_b3 suf76 i_73 (out_74,made_75) = some j76∧f 0 = v0∧f 6 = r14_0∧f 7 = Bo made_75∧f 15 = v0∧f 16 = I (list.length : Int)∧f 17 = I i_21∧f 30 = r71_0∧f 31 = I (x62.length : Int)∧f 32 = I i_73∧Star H w_ ([oF 3 RP.int r14_0 out_74,oF 3 RP.int r71_0 x62])
 have hst:=hst.get 2 rfl
 refine W_loop I76 (n:=x62.length) ?_ ?_
 exact ij hI76 ⟨0,x62,out_22,made_23,rfl,rfl,Nat.zero_add _,hL76,sf0,sf6,sf7,sf15,sf16,sf17,rfl,rfl,rfl,(Star.keepN 2 hst)⟩
 intro n76 f w_ hI
 obtain ⟨i_73,suf76,out_74,made_75,rfl,hd76,hl76,hL76,sf0,sf6,sf7,sf15,sf16,sf17,sf30,sf31,sf32,hst⟩:=ik hI76 hI
 refine sq (L_lss rfl sf32 sf31 (nq (W_cond (b:=decide ((i_73 : Int) < (x62.length : Int))) rfl (fun hc77=>?_) (fun hc77=>?_))))
 have hlt76:=of_decide_eq_true hc77
 rcases suf76 with _ | ⟨x_76,rest76⟩
 exact absurd hlt76 (by simp at hl76; omega)
 obtain ⟨o76,hB76,hL76⟩:=range_cons hL76
 rw [i_propagate_b3] at hB76
 have hix76:=drop_idx hd76
 refine W_skip (W_seq (W_block (sq ?_)))
 obtain ⟨g82,cap_g82,hv83,_,_⟩:=Star.row 1 hst rfl hix76
 refine L_ixO (R:=(OR.frz RP.int)) (tb:=0) 0 rfl Try.underlying105 Try.sizeOf3 sf30 hv83 (by first | rfl | simp) sf32 hix76 ?_
 obtain ⟨cs84,hr84,hat84⟩:=Star.eltF 1 hst rfl hv83 hix76
 obtain rfl : _ = [_]:=hr84
 refine L_ld rfl Try.isAgg3 rfl (At.cell hat84 (j:=0) rfl) (aI rfl (ns (aB rfl (ns (mI rfl (L_gtr rfl rfl rfl (nn ?_)))))))
 obtain ⟨out_86,hA87,hB76⟩:=bind_some hB76
 obtain ⟨R87,hR87⟩:=exR fun f w_=>f 0 = v0∧f 6 = r14_0∧f 7 = Bo true∧f 15 = v0∧f 16 = I (list.length : Int)∧f 17 = I i_21∧f 30 = r71_0∧f 31 = I (x62.length : Int)∧f 32 = I i_73∧Star H w_ ([oF 3 RP.int r14_0 out_86,oF 3 RP.int r71_0 x62])
 refine W_join R87 ?_ ?_
 refine W_cond (b:=decide (x_76 > 0)) rfl (fun hc88=>?_) (fun hc88=>?_)
 have hA87:=(ite_t hc88).symm.trans hA87
 obtain ⟨x89,hx89,hA87⟩:=bind_some hA87
 refine W_region (mF sf6 rfl (mI rfl (L_sub rfl rfl rfl ?_)))
 obtain ⟨g93,cap_g93,hv94,_,_⟩:=Star.row 0 hst rfl hx89
 refine L_ixO (R:=(OR.frz RP.int)) (tb:=0) 0 rfl Try.underlying105 Try.sizeOf3 rfl hv94 (by first | rfl | simp) rfl hx89 ?_
 have hst:=Star.addF (r:=RP.int) (cs:=[I 1]) (x:=1) hst rfl
 refine L_stE1 (u:=I 1) rfl Try.sizeOf3 rfl rfl rfl hv94 hst hx89 (fun w95 hst=>nn ?_)
 obtain rfl:=so hA87
 exact rj hR87 ⟨sf0,sf6,rfl,sf15,sf16,sf17,sf30,sf31,sf32,hst⟩
 have hA87:=(ite_f hc88).symm.trans hA87
 obtain ⟨x96,hx96,hA87⟩:=bind_some hA87
 refine W_region (mF sf6 rfl (mI rfl (L_neg rfl rfl (L_sub rfl rfl rfl ?_))))
 obtain ⟨g100,cap_g100,hv101,_,_⟩:=Star.row 0 hst rfl hx96
 refine L_ixO (R:=(OR.frz RP.int)) (tb:=0) 0 rfl Try.underlying105 Try.sizeOf3 rfl hv101 (by first | rfl | simp) rfl hx96 ?_
 have hst:=Star.addF (r:=RP.int) (cs:=[I (-1)]) (x:=(-1)) hst rfl
 refine L_stE1 (u:=I (-1)) rfl Try.sizeOf3 rfl rfl rfl hv101 hst hx96 (fun w102 hst=>nn ?_)
 obtain rfl:=so hA87
 exact rj hR87 ⟨sf0,sf6,rfl,sf15,sf16,sf17,sf30,sf31,sf32,hst⟩
 intro f w_ hR
 obtain ⟨sf0,sf6,sf7,sf15,sf16,sf17,sf30,sf31,sf32,hst⟩:=rk hR87 hR
 refine W_region (L_add rfl sf32 rfl (mI rfl (nn ?_)))
 obtain rfl:=so hB76
 show ∃ m,m < _∧I76 m _ _
 refine ⟨rest76.length,by simp,?_⟩
 exact ij hI76 ⟨i_73 + 1,rest76,out_86,true,rfl,drop_next hd76,by simp at hl76; omega,hL76,sf0,sf6,sf7,sf15,sf16,sf17,sf30,sf31,(Eq.trans rfl (congrArg (Value.int .i64) (i64_succ (n:=x62.length) (by simp at hl76; omega) hlen76))),hst⟩
 rcases suf76 with _ | ⟨_,_⟩
 obtain rfl:=range_nil hL76
 refine W_exit (rj hR76 ⟨out_74,made_75,rfl,sf0,sf6,sf7,sf15,sf16,sf17,(Star.keepN 1 hst)⟩)
 exact absurd (of_decide_eq_false hc77) (by simp at hl76; omega)
 intro f w_ hR
 obtain ⟨out_74,made_75,rfl,sf0,sf6,sf7,sf15,sf16,sf17,hst⟩:=rk hR76 hR
 refine W_region (L_add rfl sf17 rfl (mI rfl (nn ?_)))
 obtain rfl:=so hB24
 show ∃ m,m < _∧I24 m _ _
 refine ⟨rest24.length,by simp,?_⟩
 exact ij hI24 ⟨i_21 + 1,rest24,out_74,made_75,rfl,drop_next hd24,by simp at hl24; omega,hL24,sf0,sf6,sf7,sf15,sf16,(Eq.trans rfl (congrArg (Value.int .i64) (i64_succ (n:=list.length) (by simp at hl24; omega) hlen24))),hst⟩
 rcases suf24 with _ | ⟨_,_⟩
 obtain rfl:=range_nil hL24
 refine W_exit (rj hR24 ⟨out_22,made_23,rfl,sf0,sf6,sf7,hst⟩)
 exact absurd (of_decide_eq_false hc25) (by simp at hl24; omega)
 intro f w_ hR
 obtain ⟨out_22,made_23,rfl,sf0,sf6,sf7,hst⟩:=rk hR24 hR
 obtain rfl:=so hB19
 show ∃ m,m < _∧I19 m _ _
 refine ⟨n19,Nat.lt_succ_self _,?_⟩
 exact ij hI19 ⟨out_22,made_23,hL19,sf0,sf6,sf7,hst⟩
 have hB19:=(ite_f hc20).symm.trans hB19
 refine W_exit ?_
 obtain rfl:=so hB19
 obtain rfl:=so hL19
 exact rj hR19 ⟨out_17,made_18,rfl,sf6,hst⟩
 intro f w_ hR
 obtain ⟨out_17,made_18,rfl,sf6,hst⟩:=rk hR19 hR
 refine sq (mF sf6 rfl (aV r14_0 rfl (aI rfl (nn (W_ret (retG2 (v1:=r14_0) (v2:=I (-1)) Try.results112 rfl rfl ?_))))))
 obtain rfl:=so hF
 exact ⟨r14_0,rfl,hst⟩
theorem i_Constraint_total_c {c : Con} {v0_0 : Value} {H : FH} {w : World} (hst : Star H w []) (h0_0 : (rS 117 rTerm).rel H [v0_0] c.terms) {r : Int} (hF : i_Constraint_total c = some r) :
 C Try.prog 127 #[.agg #[v0_0,I c.bound]] w fun v w'=>v = I r∧Star H w' []:=by
 unfold i_Constraint_total at hF
 refine C_enter Try.func127 rfl Try.ntmps127 rfl (sq (L_box (v:=.agg #[v0_0,I c.bound]) (cs:=#[v0_0,I c.bound]) rfl rfl rfl hst (fun g3 w4 hst=>aI rfl (ns (aI rfl (nq (sq (fA 0 fa_41_0 rfl rfl (ldB 0 hst Try.isAgg39 rfl rfl rfl (L_len rfl Try.underlying39 rfl (slice_len h0_0) (mI rfl (nn ?_))))))))))))
 have hlen7 : List.length c.terms≤9223372036854775807:=len_le (slice_len h0_0)
 obtain ⟨j7,hL7,hF⟩:=bind_some hF
 obtain ⟨R7,hR7⟩:=exR fun f w_=>∃ sum_6 : Int,j7 = .nx sum_6∧f 3 = I sum_6∧Star H w_ ([])
 refine W_join R7 ?_ ?_
 refine W_block ?_
 obtain ⟨I7,hI7⟩:=exI fun n f w_=>∃ i_5 : Nat,∃ suf7 : List Term,∃ sum_6 : Int,n = suf7.length∧List.drop i_5 c.terms = suf7∧i_5 + suf7.length = c.terms.length∧rangeL i_Constraint_total_b1 suf7 i_5 sum_6 = some j7∧f 3 = I sum_6∧f 7 = v0_0∧f 8 = I (c.terms.length : Int)∧f 9 = I i_5∧Star H w_ ([])
 refine W_loop I7 (n:=c.terms.length) ?_ ?_
 exact ij hI7 ⟨0,c.terms,0,rfl,rfl,Nat.zero_add _,hL7,rfl,rfl,rfl,rfl,(Star.keepN 0 hst)⟩
 intro n7 f w_ hI
 obtain ⟨i_5,suf7,sum_6,rfl,hd7,hl7,hL7,sf3,sf7,sf8,sf9,hst⟩:=ik hI7 hI
 refine sq (L_lss rfl sf9 sf8 (nq (W_cond (b:=decide ((i_5 : Int) < (c.terms.length : Int))) rfl (fun hc8=>?_) (fun hc8=>?_))))
 have hlt7:=of_decide_eq_true hc8
 rcases suf7 with _ | ⟨x_7,rest7⟩
 exact absurd hlt7 (by simp at hl7; omega)
 obtain ⟨o7,hB7,hL7⟩:=range_cons hL7
 rw [i_Constraint_total_b1] at hB7
 have hix7:=drop_idx hd7
 refine W_skip (W_seq (W_block (sq (L_ix (r:=rTerm) rfl Try.underlying39 Try.sizeOf117 sf7 h0_0 sf9 hix7 (fun g16 o17 cs_g16 hrk_hat18 hat18=>?_)))))
 obtain rfl:=rTerm_iff.1 hrk_hat18
 refine L_lda (cs:=[I x_7.coef,I x_7.lit]) rfl Try.isAgg117 Try.sizeOf117 rfl (At.sub (AtH.at hat18 hst.sub) 0 2) rfl (L_al (cs:=#[I 0,I 0]) rfl Try.zeroValue117 rfl hst (fun g20 w21 hst=>L_staB (vs:=#[I x_7.coef,I x_7.lit]) (cs2:=#[I x_7.coef,I x_7.lit]) 0 rfl Try.sizeOf117 rfl rfl rfl (ones_cons rfl (ones_cons rfl ones_nil)) hst rfl (by show 0 + 2≤2; decide) rfl (fun w22 hst=>nn (W_region (mF sf3 rfl (fA 0 fa_117_0 rfl rfl (ldB 0 hst Try.isAgg3 rfl rfl rfl (L_add rfl rfl rfl (aI rfl (nn (W_region (L_add rfl sf9 rfl (mI rfl (nn ?_))))))))))))))
 obtain rfl:=so hB7
 show ∃ m,m < _∧I7 m _ _
 refine ⟨rest7.length,by simp,?_⟩
 exact ij hI7 ⟨i_5 + 1,rest7,i64 (sum_6 + x_7.coef),rfl,drop_next hd7,by simp at hl7; omega,hL7,rfl,sf7,sf8,(Eq.trans rfl (congrArg (Value.int .i64) (i64_succ (n:=c.terms.length) (by simp at hl7; omega) hlen7))),(Star.keepN 0 hst)⟩
 rcases suf7 with _ | ⟨_,_⟩
 obtain rfl:=range_nil hL7
 refine W_exit (rj hR7 ⟨sum_6,rfl,sf3,hst⟩)
 exact absurd (of_decide_eq_false hc8) (by simp at hl7; omega)
 intro f w_ hR
 obtain ⟨sum_6,rfl,sf3,hst⟩:=rk hR7 hR
 refine sq (mF sf3 rfl (aI rfl (nn (W_ret (retG1 (v1:=I sum_6) Try.results127 rfl ?_)))))
 obtain rfl:=so hF
 exact ⟨rfl,hst⟩
theorem i_Constraint_negation_c {c : Con} {v0_0 : Value} {H : FH} {w : World} (hst : Star H w []) (h0_0 : (rS 117 rTerm).rel H [v0_0] c.terms) {r : Con} (hF : i_Constraint_negation c = some r) :
 C Try.prog 113 #[.agg #[v0_0,I c.bound]] w fun v w'=>∃ (u1 : Value),v = .agg #[u1,I r.bound]∧Star H w' [oF 117 rTerm u1 r.terms]:=by
 unfold i_Constraint_negation at hF
 refine C_enter Try.func113 rfl Try.ntmps113 rfl (sq (L_box (v:=.agg #[v0_0,I c.bound]) (cs:=#[v0_0,I c.bound]) rfl rfl rfl hst (fun g5 w6 hst=>L_al (cs:=#[S0,I 0]) rfl Try.zeroValue41 rfl hst (fun g7 w8 hst=>nq ?_))))
 obtain ⟨x14,hx14,hF⟩:=bind_some hF
 refine W_drawS 9 [isV (.agg #[v0_0,I c.bound]),isV (I x14),isV (Pq g5 1),isV (I c.bound),isV (I (i64 (x14 - c.bound))),isV (I (i64 ((i64 (x14 - c.bound)) + 1))),isV (I (max 0 (i64 ((i64 (x14 - c.bound)) + 1)))),isV (.agg #[S0,I (max 0 (i64 ((i64 (x14 - c.bound)) + 1)))]),anyF] [box g7 41 #[S0,I 0],box g5 41 #[v0_0,I c.bound]] [.made 8 3 (fun v_=>boxV v_ 41 #[S0,I 0]) none] ([]) [([],[]),([],[]),([],[]),([],[]),([],[]),([],[]),([],[]),([],[]),([],[0])] (S:=[(some 8,[3],none)]) Try_mix (by kernel_rfl) rfl (by kernel_rfl) (amF_cons (mono_V _) (amF_cons (mono_V _) (amF_cons (mono_V _) (amF_cons (mono_V _) (amF_cons (mono_V _) (amF_cons (mono_V _) (amF_cons (mono_V _) (amF_cons (mono_V _) (amF_cons (mono_any) amF_nil))))))))) hst ?_ (fun f w_ H19 hS19 hE19 hT19 hst=>?_)
 refine opsS_cons (fun f w_ _ _ s _ _ hst=>L_lda (cs:=[v0_0,I c.bound]) rfl Try.isAgg41 Try.sizeOf41 ((s 1 rfl).trans rfl) (At.sub0 (Blk.at (Star.blkAt 1 hst rfl)) 0 2) rfl (nO rfl rfl hst)) (opsS_cons ?_ ?_)
 intro f w_ H19 X19 hS19 hE19 hP19 hst
 obtain ⟨H28b,l29,s30,z31,k32⟩:=hst.borrow
 refine L_call rfl Try.call127 (ops1 (hP19 0 6 rfl rfl)) (i_Constraint_total_c (c:=c) s30 (RP.mono _ h0_0 (Le.trans hE19 l29)) hx14) ?_
 rintro _ w33 ⟨rfl,hst⟩
 have hst:=k32 hst c0
 exact L_nil ⟨rfl,_,_,rfl,Le.refl _,fun _ _=>rfl,hst⟩
 refine opsS_cons (fun f w_ _ _ s _ _ hst=>fA 1 fa_41_1 ((s 1 rfl).trans rfl) rfl (nO rfl rfl hst)) (opsS_cons (fun f w_ _ _ _ _ p hst=>ldB 1 hst Try.isAgg3 (p 2 8 rfl rfl) rfl rfl (nO rfl rfl hst)) (opsS_cons (fun f w_ _ _ _ _ p hst=>L_sub rfl (p 1 7 rfl rfl) (p 3 9 rfl rfl) (nO rfl rfl hst)) (opsS_cons (fun f w_ _ _ _ _ p hst=>L_add rfl (p 4 10 rfl rfl) rfl (nO rfl rfl hst)) (opsS_cons (fun f w_ _ _ _ _ p hst=>L_max rfl rfl (p 5 11 rfl rfl) (nO rfl rfl hst)) (opsS_cons (fun f w_ _ _ _ _ p hst=>L_bld rfl (parts1 (p 6 12 rfl rfl)) (bld_41_1 (I (max 0 (i64 ((i64 (x14 - c.bound)) + 1)))) rfl) (nO rfl rfl hst)) (opsS_cons ?_ ?_))))))
 intro f w_ H19 X19 hS19 hE19 hP19 hst
 refine L_al (cs:=#[S0,I 0]) rfl Try.zeroValue41 rfl hst (fun g34 w35 hst=>?_)
 have hst:=hst.gets [2,2,2] rfl
 have hst:=Star.boxV (v:=Pt g34) rfl hst
 have hst:=hst.gets [2,2] rfl
 exact L_nil ⟨rfl,_,_,rfl,Le.refl _,fun _ _=>trivial,hst⟩
 exact opsS_nil
 have hst : Star H19 w_ ([box g7 41 #[S0,I 0],box g5 41 #[v0_0,I c.bound],boxV (f 3) 41 #[S0,I 0]]):=hst
 obtain ⟨g36,hv36,hst⟩:=Star.unboxV (Star.get 2 hst rfl)
 refine L_staB (vs:=#[S0,I (max 0 (i64 ((i64 (x14 - c.bound)) + 1)))]) (cs2:=#[S0,I (max 0 (i64 ((i64 (x14 - c.bound)) + 1)))]) 0 rfl Try.sizeOf41 hv36 (hT19 7 13 rfl rfl) rfl (ones_cons rfl (ones_cons rfl ones_nil)) hst rfl (by show 0 + 2≤2; decide) rfl (fun w37 hst=>nq (sq (fA 0 fa_41_0 ((hS19 1 rfl).trans rfl) rfl (ldB 2 hst Try.isAgg39 rfl rfl rfl (L_len rfl Try.underlying39 rfl (slice_len (RP.mono _ h0_0 hE19)) (mI rfl (nn ?_)))))))
 have hlen41 : List.length c.terms≤9223372036854775807:=len_le (slice_len (RP.mono _ h0_0 hE19))
 obtain ⟨j41,hL41,hF⟩:=bind_some hF
 obtain ⟨R41,hR41⟩:=exR fun f w_=>∃ g36_0_39 : List Term,∃ v39_g36_0 : Value,j41 = .nx g36_0_39∧f 2 = Pt g7∧f 3 = Pt g36∧Star H19 w_ ([oF 117 rTerm v39_g36_0 g36_0_39,box g36 41 #[v39_g36_0,I (max 0 (i64 ((i64 (x14 - c.bound)) + 1)))],box g7 41 #[S0,I 0]])
 refine W_join R41 ?_ ?_
 refine W_block ?_
 obtain ⟨I41,hI41⟩:=exI fun n f w_=>∃ i_38 : Nat,∃ suf41 : List Term,∃ g36_0_39 : List Term,∃ v39_g36_0 : Value,n = suf41.length∧List.drop i_38 c.terms = suf41∧i_38 + suf41.length = c.terms.length∧rangeL i_Constraint_negation_b1 suf41 i_38 g36_0_39 = some j41∧f 2 = Pt g7∧f 3 = Pt g36∧f 15 = v0_0∧f 16 = I (c.terms.length : Int)∧f 17 = I i_38∧Star H19 w_ ([oF 117 rTerm v39_g36_0 g36_0_39,box g36 41 #[v39_g36_0,I (max 0 (i64 ((i64 (x14 - c.bound)) + 1)))],box g7 41 #[S0,I 0]])
 have hst:=Star.addNil (R:=(OR.frz rTerm)) (e:=117) hst
 refine W_loop I41 (n:=c.terms.length) ?_ ?_
 exact ij hI41 ⟨0,c.terms,[],S0,rfl,rfl,Nat.zero_add _,hL41,((hS19 2 rfl).trans rfl),hv36,rfl,rfl,rfl,(Star.keepN 3 hst)⟩
 intro n41 f w_ hI
 obtain ⟨i_38,suf41,g36_0_39,v39_g36_0,rfl,hd41,hl41,hL41,sf2,sf3,sf15,sf16,sf17,hst⟩:=ik hI41 hI
 refine sq (L_lss rfl sf17 sf16 (nq (W_cond (b:=decide ((i_38 : Int) < (c.terms.length : Int))) rfl (fun hc43=>?_) (fun hc43=>?_))))
 have hlt41:=of_decide_eq_true hc43
 rcases suf41 with _ | ⟨x_41,rest41⟩
 exact absurd hlt41 (by simp at hl41; omega)
 obtain ⟨o41,hB41,hL41⟩:=range_cons hL41
 rw [i_Constraint_negation_b1] at hB41
 have hix41:=drop_idx hd41
 refine W_skip (W_seq (W_block (sq (L_ix (r:=rTerm) rfl Try.underlying39 Try.sizeOf117 sf15 (RP.mono _ h0_0 hE19) sf17 hix41 (fun g51 o52 cs_g51 hrk_hat53 hat53=>?_)))))
 obtain rfl:=rTerm_iff.1 hrk_hat53
 refine L_lda (cs:=[I x_41.coef,I x_41.lit]) rfl Try.isAgg117 Try.sizeOf117 rfl (At.sub (AtH.at hat53 hst.sub) 0 2) rfl (L_al (cs:=#[I 0,I 0]) rfl Try.zeroValue117 rfl hst (fun g55 w56 hst=>L_staB (vs:=#[I x_41.coef,I x_41.lit]) (cs2:=#[I x_41.coef,I x_41.lit]) 0 rfl Try.sizeOf117 rfl rfl rfl (ones_cons rfl (ones_cons rfl ones_nil)) hst rfl (by show 0 + 2≤2; decide) rfl (fun w57 hst=>nn ?_)))
 obtain ⟨x61,hx61,hB41⟩:=bind_some hB41
 refine W_region (fA 0 fa_41_0 sf3 rfl (ldB 2 hst Try.isAgg39 rfl rfl rfl (fA 0 fa_117_0 rfl rfl (ldB 0 hst Try.isAgg3 rfl rfl rfl (fA 1 fa_117_1 rfl rfl (ldB 0 hst Try.isAgg3 rfl rfl rfl (L_neg rfl rfl (L_bld rfl (parts2 rfl rfl) (bld_117_0_1 (I x_41.coef) (I (i64 (-x_41.lit))) rfl rfl) (L_bs rfl (parts1 rfl) (bs_39_1_2 (I x_41.coef) (I (i64 (-x_41.lit))) ) hst (fun g66 w67 hst=>?_))))))))))
 have hst:=Star.addF (r:=rTerm) (cs:=[I x_41.coef,I (i64 (-x_41.lit))]) (x:=({ coef:=x_41.coef,lit:=i64 (-x_41.lit) } : Term)) hst (rTerm_iff.2 rfl)
 have hst:=Star.mkRow (R:=(OR.frz rTerm)) [([I x_41.coef,I (i64 (-x_41.lit))],({ coef:=x_41.coef,lit:=i64 (-x_41.lit) } : Term))] [({ coef:=x_41.coef,lit:=i64 (-x_41.lit) } : Term)] 1 hst rfl rfl rfl (by decide)
 have hst:=hst.get 2 rfl
 refine L_appM (v:=v39_g36_0) (u:=(Sl g66 1 1)) rfl et_39 rfl rfl hst hx61 (fun v69 w70 hst=>fA 0 fa_41_0 sf3 rfl (L_stB (v:=v69) (cs2:=#[v69,I (max 0 (i64 ((i64 (x14 - c.bound)) + 1)))]) 2 rfl Try.sizeOf39 rfl rfl (one_len (Star.len 0 hst rfl)) hst rfl rfl rfl (fun w72 hst=>nn (W_region (L_add rfl sf17 rfl (mI rfl (nn ?_)))))))
 obtain rfl:=so hB41
 have hst:=hst.gets [3,1,2] rfl
 show ∃ m,m < _∧I41 m _ _
 refine ⟨rest41.length,by simp,?_⟩
 exact ij hI41 ⟨i_38 + 1,rest41,x61,v69,rfl,drop_next hd41,by simp at hl41; omega,hL41,sf2,sf3,sf15,sf16,(Eq.trans rfl (congrArg (Value.int .i64) (i64_succ (n:=c.terms.length) (by simp at hl41; omega) hlen41))),(Star.keepN 3 hst)⟩
 rcases suf41 with _ | ⟨_,_⟩
 obtain rfl:=range_nil hL41
 refine W_exit (rj hR41 ⟨g36_0_39,v39_g36_0,rfl,sf2,sf3,hst⟩)
 exact absurd (of_decide_eq_false hc43) (by simp at hl41; omega)
 intro f w_ hR
 obtain ⟨g36_0_39,v39_g36_0,rfl,sf2,sf3,hst⟩:=rk hR41 hR
 refine sq (L_lda (cs:=[v39_g36_0,I (max 0 (i64 ((i64 (x14 - c.bound)) + 1)))]) rfl Try.isAgg41 Try.sizeOf41 sf3 (At.sub0 (Blk.at (Star.blkAt 1 hst rfl)) 0 2) rfl (L_staB (vs:=#[v39_g36_0,I (max 0 (i64 ((i64 (x14 - c.bound)) + 1)))]) (cs2:=#[v39_g36_0,I (max 0 (i64 ((i64 (x14 - c.bound)) + 1)))]) 2 rfl Try.sizeOf41 sf2 rfl rfl (ones_cons (one_len (Star.len 0 hst rfl)) (ones_cons rfl ones_nil)) hst rfl (by show 0 + 2≤2; decide) rfl (fun w74 hst=>nn (W_ret (retG1 (v1:=.agg #[v39_g36_0,I (max 0 (i64 ((i64 (x14 - c.bound)) + 1)))]) Try.results113 (resV_agg Try.isAgg41 Try.sizeOf41 sf2 (Star.blkAt 0 hst rfl) rfl) ?_)))))
 obtain rfl:=so hF
 have hst:=hst.get 1 rfl
 exact ⟨v39_g36_0,rfl,(Star.down (Star.keepN 1 hst) hE19 (co closed_term c0))⟩
theorem i_rup_c {fu : Nat} {list : List Con} {c : Con} {v0 : Value} {v1_0 : Value} {H : FH} {w : World} (hst : Star H w []) (h0 : (rS 41 (rCon 117)).rel H [v0] list) (h1_0 : (rS 117 rTerm).rel H [v1_0] c.terms) {r : Bool} (hF : i_rup fu list c = some r) :
 C Try.prog 74 #[v0,.agg #[v1_0,I c.bound]] w fun v w'=>v = Bo r∧Star H w' []:=by
 unfold i_rup at hF
 refine C_enter Try.func74 rfl Try.ntmps74 rfl (sq (L_box (v:=.agg #[v1_0,I c.bound]) (cs:=#[v1_0,I c.bound]) rfl rfl rfl hst (fun g3 w4 hst=>aB rfl (nq ?_))))
 obtain ⟨x5,hx5,hF⟩:=bind_some hF
 obtain ⟨x13,hx13,hF⟩:=bind_some hF
 obtain ⟨x19,hx19,hF⟩:=bind_some hF
 obtain ⟨x25,hx25,hF⟩:=bind_some hF
 obtain ⟨x36,hx36,hF⟩:=bind_some hF
 refine W_drawS 12 [isV (v0),anyF,isV (.agg #[v1_0,I c.bound]),exA fun u_0=>isV (.agg #[u_0,I x13.bound]),anyF,anyF,anyF,tup2 (anyF) (isV (I x36.2)),tup2 (anyF) (isV (I x36.2)),anyF,isV (I x36.2),anyF] [box g3 41 #[v1_0,I c.bound]] [.made 1 9 (fun v_=>oF 41 (rCon 117) v_ x5) (some 5),.made 3 11 (fun v_=>oF 117 rTerm (aggC v_ 0) x13.terms) (some 4),.made 4 12 (fun v_=>oS 41 (oCon 117) v_ ([x13])) (some 5),.made 5 13 (fun v_=>oF 41 (rCon 117) v_ x19) none,.made 6 14 (fun v_=>oF 3 RP.int v_ x25) none,.made 7 15 (fun v_=>oF 3 RP.int (tupC v_ 0) x36.1) (some 8),.made 8 7 (fun v_=>oF 3 RP.int (tupC v_ 0) x36.1) (some 9),.made 9 16 (fun v_=>oF 3 RP.int v_ x36.1) (some 11),.made 11 5 (fun v_=>oF 3 RP.int v_ x36.1) none] ([]) [([],[]),([],[0]),([],[]),([],[1]),([1],[2]),([0,2],[3]),([],[4]),([3,4],[3,4,5]),([5],[6]),([6],[7]),([],[]),([7],[8])] (S:=[(some 1,[9],some 5),(some 3,[11],some 4),(some 4,[12],some 5),(some 5,[13],none),(some 6,[14],none),(some 7,[15],some 8),(some 8,[7],some 9),(some 9,[16],some 11),(some 11,[5],none)]) Try_mix (by kernel_rfl) rfl (by kernel_rfl) (amF_cons (mono_V _) (amF_cons (mono_any) (amF_cons (mono_V _) (amF_cons (mono_exA fun _=>mono_V _) (amF_cons (mono_any) (amF_cons (mono_any) (amF_cons (mono_any) (amF_cons (mono_tup2 (mono_any) (mono_V _)) (amF_cons (mono_tup2 (mono_any) (mono_V _)) (amF_cons (mono_any) (amF_cons (mono_V _) (amF_cons (mono_any) amF_nil)))))))))))) hst ?_ (fun f w_ H39 hS39 hE39 hT39 hst=>?_)
 refine opsS_cons (fun f w_ _ _ s _ _ hst=>mF ((s 0 rfl).trans rfl) rfl (nO rfl rfl hst)) (opsS_cons ?_ ?_)
 intro f w_ H39 X39 hS39 hE39 hP39 hst
 refine L_call rfl Try.call102 (ops1 (hP39 0 8 rfl rfl)) (slices_Clone_implConstraint_c (s:=list) hst (RP.mono _ h0 hE39) hx5) ?_
 rintro r69_0 w69 ⟨H69,l69,_,rfl,hst⟩
 have hst:=hst.get 1 rfl
 exact L_nil ⟨rfl,_,_,rfl,l69,fun _ _=>trivial,hst⟩
 refine opsS_cons (fun f w_ _ _ s _ _ hst=>L_lda (cs:=[v1_0,I c.bound]) rfl Try.isAgg41 Try.sizeOf41 ((s 3 rfl).trans rfl) (At.sub0 (Blk.at (Star.blkAt 0 hst rfl)) 0 2) rfl (nO rfl rfl hst)) (opsS_cons ?_ ?_)
 intro f w_ H39 X39 hS39 hE39 hP39 hst
 obtain ⟨H71b,l72,s73,z74,k75⟩:=hst.borrow
 refine L_call rfl Try.call113 (ops1 (hP39 2 10 rfl rfl)) (i_Constraint_negation_c (c:=c) s73 (RP.mono _ h1_0 (Le.trans hE39 l72)) hx13) ?_
 rintro _ w76 ⟨r76_0,rfl,hst⟩
 have hst:=k75 hst (co closed_term c0)
 have hst:=hst.get 1 rfl
 exact L_nil ⟨rfl,_,_,rfl,Le.refl _,fun _ _=>⟨_,rfl⟩,hst⟩
 refine opsS_cons ?_ ?_
 intro f w_ H39 X39 hS39 hE39 hP39 hst
 have hst : Star H39 w_ (box g3 41 #[v1_0,I c.bound] :: own (OR.ownS 117 (OR.frz rTerm)) [(aggC (f 11) 0)] x13.terms :: X39):=hst
 obtain ⟨u78_0,hv78⟩:=(hP39 3 11 rfl rfl)
 have hren : Star H39 w_ (box g3 41 #[v1_0,I c.bound] :: own (OR.ownS 117 (OR.frz rTerm)) [(aggC (f 11) 0)] x13.terms :: X39):=hst
 rw [hv78] at hren
 have hst : Star H39 w_ (box g3 41 #[v1_0,I c.bound] :: oF 117 rTerm u78_0 x13.terms :: X39):=hren
 refine L_bs rfl (parts1 hv78) (bs_27_1_2 (u78_0) (I x13.bound) ) hst (fun g79 w80 hst=>?_)
 have hst:=hst.get 2 rfl
 have hst:=oCon_close (c:=x13) hst
 have hst:=Star.mkRow (R:=(oCon 117)) [([u78_0,I x13.bound],x13)] [x13] 1 hst rfl rfl rfl (by decide)
 have hst:=hst.get 1 rfl
 exact L_nil ⟨rfl,_,_,rfl,Le.refl _,fun _ _=>trivial,hst⟩
 refine opsS_cons ?_ ?_
 intro f w_ H39 X39 hS39 hE39 hP39 hst
 have hst : Star H39 w_ (box g3 41 #[v1_0,I c.bound] :: oF 41 (rCon 117) (f 9) x5 :: oS 41 (oCon 117) (f 12) ([x13]) :: X39):=hst
 have hst:=hst.get 2 rfl
 obtain ⟨H84,l85,hst⟩:=Star.shallow hst
 have hst : Star H84 w_ (oF 41 (rCon 117) (f 12) ([x13]) :: _):=hst
 have hst:=hst.get 2 rfl
 refine L_appM (v:=(f 9)) (u:=(f 12)) rfl et_27 rfl rfl hst hx19 (fun v86 w87 hst=>?_)
 have hst:=hst.get 1 rfl
 exact L_nil ⟨rfl,_,_,rfl,l85,fun _ _=>trivial,hst⟩
 refine opsS_cons ?_ ?_
 intro f w_ H39 X39 hS39 hE39 hP39 hst
 refine L_mk (R:=(OR.frz RP.int)) (z0:=0) (zc:=[I 0]) rfl et_105 (by kernel_rfl) (fun _ _=>⟨rfl,rfl⟩) rfl rfl hx25 hst (fun v89 w90 hst=>?_)
 have hst:=hst.get 1 rfl
 exact L_nil ⟨rfl,_,_,rfl,Le.refl _,fun _ _=>trivial,hst⟩
 refine opsS_cons ?_ ?_
 intro f w_ H39 X39 hS39 hE39 hP39 hst
 have hst : Star H39 w_ (box g3 41 #[v1_0,I c.bound] :: oF 41 (rCon 117) (f 13) x19 :: oF 3 RP.int (f 14) x25 :: X39):=hst
 obtain ⟨H94b,l95,s96,z97,k98⟩:=hst.borrow
 have hb99 : (rS 41 (rCon 117)).rel H94b [(f 13)] x19:=fz_own 1 z97 rfl
 have hb100 : (rS 3 RP.int).rel H94b [(f 14)] x25:=fz_own 2 z97 rfl
 refine L_call rfl Try.call112 (ops2 rfl rfl) (i_propagate_c (list:=x19) (p:=x25) s96 hb99 hb100 hx36) ?_
 rintro _ w101 ⟨r101_0,rfl,hst⟩
 have hst:=k98 hst (co closed_int c0)
 have hst:=hst.gets [3,3,3] rfl
 exact L_nil ⟨rfl,_,_,rfl,Le.refl _,fun _ _=>⟨_,_,rfl,trivial,rfl⟩,hst⟩
 refine opsS_cons ?_ ?_
 intro f w_ H39 X39 hS39 hE39 hP39 hst
 have hst : Star H39 w_ (box g3 41 #[v1_0,I c.bound] :: own (OR.ownS 3 (OR.frz RP.int)) [(tupC (f 15) 0)] x36.1 :: X39):=hst
 obtain ⟨a103_0,a103_1,hv103,ht103_0,ht103_1⟩:=(hP39 7 15 rfl rfl)
 obtain rfl:=ht103_1
 have hren : Star H39 w_ (box g3 41 #[v1_0,I c.bound] :: own (OR.ownS 3 (OR.frz RP.int)) [(tupC (f 15) 0)] x36.1 :: X39):=hst
 rw [hv103] at hren
 have hst : Star H39 w_ (box g3 41 #[v1_0,I c.bound] :: oF 3 RP.int a103_0 x36.1 :: X39):=hren
 refine mF hv103 rfl (L_nil ⟨rfl,_,_,rfl,Le.refl _,fun _ _=>⟨_,_,rfl,trivial,rfl⟩,hst⟩)
 refine opsS_cons ?_ ?_
 intro f w_ H39 X39 hS39 hE39 hP39 hst
 have hst : Star H39 w_ (box g3 41 #[v1_0,I c.bound] :: own (OR.ownS 3 (OR.frz RP.int)) [(tupC (f 7) 0)] x36.1 :: X39):=hst
 obtain ⟨a104_0,a104_1,hv104,ht104_0,ht104_1⟩:=(hP39 8 7 rfl rfl)
 obtain rfl:=ht104_1
 have hren : Star H39 w_ (box g3 41 #[v1_0,I c.bound] :: own (OR.ownS 3 (OR.frz RP.int)) [(tupC (f 7) 0)] x36.1 :: X39):=hst
 rw [hv104] at hren
 have hst : Star H39 w_ (box g3 41 #[v1_0,I c.bound] :: oF 3 RP.int a104_0 x36.1 :: X39):=hren
 refine L_ex (v:=a104_0) rfl hv104 rfl (L_nil ⟨rfl,_,_,rfl,Le.refl _,fun _ _=>trivial,hst⟩)
 refine opsS_cons ?_ ?_
 intro f w_ H39 X39 hS39 hE39 hP39 hst
 obtain ⟨a105_0,a105_1,hv105,ht105_0,ht105_1⟩:=(hP39 8 7 rfl rfl)
 obtain rfl:=ht105_1
 refine L_ex (v:=I x36.2) rfl hv105 rfl (L_nil ⟨rfl,_,_,rfl,Le.refl _,fun _ _=>rfl,hst⟩)
 refine opsS_cons ?_ ?_
 intro f w_ H39 X39 hS39 hE39 hP39 hst
 have hst : Star H39 w_ (box g3 41 #[v1_0,I c.bound] :: oF 3 RP.int (f 16) x36.1 :: X39):=hst
 refine aV (f 16) rfl (L_nil ⟨rfl,_,_,rfl,Le.refl _,fun _ _=>trivial,hst⟩)
 exact opsS_nil
 have hst : Star H39 w_ ([box g3 41 #[v1_0,I c.bound],oF 41 (rCon 117) (f 13) x19,oF 3 RP.int (f 14) x25,oF 3 RP.int (f 5) x36.1]):=hst
 refine aF (hT39 10 17 rfl rfl) rfl (ns (mI rfl (L_geq rfl rfl rfl (aB rfl (nn (W_ret (retG1 (v1:=Bo (decide (x36.2 ≥ 0))) Try.results74 rfl ?_)))))))
 obtain rfl:=so hF
 exact ⟨rfl,(Star.down (Star.keepN 0 hst) hE39 c0)⟩
theorem s_l17Open_c {code : List UInt8} {v0 : Value} {H : FH} {w : World} {R : List Ass} (hst : Star H w R) (h0 : (rS 5 RP.u8).rel H [v0] code) {r : Rd} (hF : s_l17Open code = some r) :
 C Try.prog 67 #[v0] w fun v w'=>∃ H' : FH,Le H H'∧∃ (u1 : Nat) (u2 : Value),v = Pt u1∧(rS 5 RP.u8).rel H' [u2] r.b∧Star H' w' (box u1 126 #[u2,I r.p] :: R):=by
 unfold s_l17Open at hF
 refine C_enter Try.func67 rfl Try.ntmps67 rfl (sq (aV (.pointer none) rfl (nq (sq (mV v0 rfl (L_len rfl Try.underlying45 rfl (slice_len h0) (L_gtr rfl rfl rfl (nn ?_))))))))
 obtain ⟨code_1,hA3,hF⟩:=bind_some hF
 obtain ⟨R3,hR3⟩:=exR fun f w_=>∃ v1_code : Value,f 0 = v1_code∧(rS 5 RP.u8).rel H [v1_code] code_1∧Star H w_ (R)
 refine W_join R3 ?_ ?_
 refine W_cond (b:=decide ((code.length : Int) > 2000)) rfl (fun hc4=>?_) (fun hc4=>?_)
 have hA3:=(ite_t hc4).symm.trans hA3
 obtain ⟨x5,hx5,hA3⟩:=bind_some hA3
 refine W_region (mV v0 rfl (L_sl (a:=0) (b:=2000) rfl et_45 rfl h0 rfl rfl hx5 (fun v8 hs9=>aV v8 rfl (nn ?_))))
 obtain rfl:=so hA3
 exact rj hR3 ⟨v8,rfl,hs9,hst⟩
 have hA3:=(ite_f hc4).symm.trans hA3
 refine W_skip ?_
 obtain rfl:=so hA3
 exact rj hR3 ⟨v0,rfl,h0,hst⟩
 intro f w_ hR
 obtain ⟨v1_code,sf0,hv2_code,hst⟩:=rk hR3 hR
 refine sq (mF sf0 rfl (L_bld rfl (parts1 rfl) (bld_126_0 (v1_code) (one_len (slice_len hv2_code))) (L_box (v:=.agg #[v1_code,I 0]) (cs:=#[v1_code,I 0]) rfl rfl rfl hst (fun g12 w13 hst=>aV (Pt g12) rfl (nn (W_ret (retG1 (v1:=Pt g12) Try.results67 rfl ?_)))))))
 obtain rfl:=so hF
 exact ⟨H,(Le.refl _),g12,v1_code,rfl,hv2_code,hst⟩
theorem s_l17Rd_pick_c {r_ : Rd} {n_ : Int} {g_0 : Nat} {v0_0 : Value} {H : FH} {w : World} (hst : Star H w [box g_0 126 #[v0_0,I r_.p]]) (h0_0 : (rS 5 RP.u8).rel H [v0_0] r_.b) {r : Int × Int} (hF : s_l17Rd_pick r_ n_ = some r) :
 C Try.prog 71 #[Pt g_0,I n_] w fun v w'=>v = I r.1∧Star H w' [box g_0 126 #[v0_0,I r.2]]:=by
 unfold s_l17Rd_pick at hF
 refine C_enter Try.func71 rfl Try.ntmps71 rfl (sq (aI rfl (ns (mV (Pt g_0) rfl (mV (Pt g_0) rfl (L_nc rfl rfl (fA 1 fa_126_1 rfl rfl (ldB 0 hst Try.isAgg3 rfl rfl rfl (L_add rfl rfl rfl (L_nc rfl rfl (fA 1 fa_126_1 rfl rfl (L_stB (v:=I (i64 (r_.p + 1))) (cs2:=#[v0_0,I (i64 (r_.p + 1))]) 0 rfl Try.sizeOf3 rfl rfl rfl hst rfl rfl rfl (fun w2 hst=>nq (W_seq ?_))))))))))))))
 obtain ⟨R3,hR3⟩:=exR fun f w_=>f 0 = Pt g_0∧f 1 = I n_∧f 24 = Bo ((decide (n_ < 1)) || ((r_.b.length : Int) == 0))∧Star H w_ ([box g_0 126 #[v0_0,I (i64 (r_.p + 1))]])
 refine W_join R3 ?_ ?_
 refine W_region (mI rfl (L_lss rfl rfl rfl (mB rfl (L_split (d:=17) (b:=decide (n_ < 1)) rfl (fun hc4=>?_) (fun hc4=>?_)))))
 refine ps rfl (ps rfl (ps rfl (ps rfl (ps rfl (ps rfl (L_pick (v:=Bo ((decide (n_ < 1)) || ((r_.b.length : Int) == 0))) rfl rfl (or_t hc4) (nn (rj hR3 ⟨rfl,rfl,rfl,hst⟩))))))))
 refine mV (Pt g_0) rfl (L_nc rfl rfl (fA 0 fa_126_0 rfl rfl (ldB 0 hst Try.isAgg45 rfl rfl rfl (L_len rfl Try.underlying45 rfl (slice_len h0_0) (L_eql rfl rfl rfl (L_pick (v:=Bo ((decide (n_ < 1)) || ((r_.b.length : Int) == 0))) rfl rfl (or_f hc4 rfl) (nn (rj hR3 ⟨rfl,rfl,rfl,hst⟩))))))))
 intro f w_ hR
 obtain ⟨sf0,sf1,sf24,hst⟩:=rk hR3 hR
 refine W_cond (b:=((decide (n_ < 1)) || ((r_.b.length : Int) == 0))) sf24 (fun hc5=>?_) (fun hc5=>?_)
 have hF:=(ite_t hc5).symm.trans hF
 refine sq (aI rfl (nn (W_ret (retG1 (v1:=I 0) Try.results71 rfl ?_))))
 obtain rfl:=so hF
 exact ⟨rfl,hst⟩
 have hF:=(ite_f hc5).symm.trans hF
 refine W_skip (sq (mF sf0 rfl (L_nc rfl rfl (fA 1 fa_126_1 rfl rfl (ldB 0 hst Try.isAgg3 rfl rfl rfl (L_sub rfl rfl rfl (aI rfl (nq (sq (mI rfl (mF sf0 rfl (L_nc rfl rfl (fA 0 fa_126_0 rfl rfl (ldB 0 hst Try.isAgg45 rfl rfl rfl (L_len rfl Try.underlying45 rfl (slice_len h0_0) (L_lss rfl rfl rfl (nn (W_cond (b:=decide ((i64 ((i64 (r_.p + 1)) - 1)) < (r_.b.length : Int))) rfl (fun hc6=>?_) (fun hc6=>?_)))))))))))))))))))
 have hF:=(ite_t hc6).symm.trans hF
 refine W_seq ?_
 obtain ⟨x7,hx7,hF⟩:=bind_some hF
 obtain ⟨q12,hq12,hF⟩:=bind_some hF
 refine W_region (mF sf0 rfl (L_nc rfl rfl (fA 0 fa_126_0 rfl rfl (ldB 0 hst Try.isAgg45 rfl rfl rfl (mI rfl (L_ix (r:=RP.u8) rfl Try.underlying45 Try.sizeOf5 rfl h0_0 rfl hx7 (fun g13 o14 cs_g13 hrk_hat15 hat15=>?_)))))))
 obtain rfl : _ = [_]:=hrk_hat15
 refine L_ld rfl Try.isAgg5 rfl (At.cell (AtH.at hat15 hst.sub) (j:=0) rfl) (L_cv (n:=(x7.toNat : Int)) rfl rfl ⟨_,Try.underlying5⟩ Try.underlying3 (mF sf1 rfl (L_rem (m:=i64 (x7.toNat : Int)) (n:=n_) rfl rfl rfl (fun he=>by rw [if_pos he] at hq12; cases hq12) (aI rfl (nn (W_ret (retG1 (v1:=I (Int.tmod (i64 (x7.toNat : Int)) n_)) Try.results71 rfl ?_)))))))
 obtain rfl:=so hF
 exact ⟨rfl,hst⟩
 have hF:=(ite_f hc6).symm.trans hF
 refine W_skip (W_seq ?_)
 obtain ⟨q17,hq17,hF⟩:=bind_some hF
 obtain ⟨x18,hx18,hF⟩:=bind_some hF
 obtain ⟨q23,hq23,hF⟩:=bind_some hF
 obtain ⟨x24,hx24,hF⟩:=bind_some hF
 obtain ⟨q29,hq29,hF⟩:=bind_some hF
 refine W_drawS 44 [isV (Pt g_0),isV (Pt g_0),isV (Pt g_0),isV (v0_0),isV (I (i64 ((i64 (r_.p + 1)) - 1))),isV (Pt g_0),isV (Pt g_0),isV (Pt g_0),isV (v0_0),isV (I (r_.b.length : Int)),isV (I (Int.tmod (i64 ((i64 (r_.p + 1)) - 1)) (r_.b.length : Int))),isEl RP.u8 x18 0,isV (.int .u8 (x18.toNat : Int)),isV (I (i64 (x18.toNat : Int))),isV (I (i64 ((i64 (x18.toNat : Int)) * 131))),isV (Pt g_0),isV (Pt g_0),isV (Pt g_0),isV (v0_0),isV (I (i64 ((i64 (r_.p + 1)) - 1))),isV (I (i64 ((i64 ((i64 (r_.p + 1)) - 1)) * 7))),isV (I (i64 ((i64 ((i64 ((i64 (r_.p + 1)) - 1)) * 7)) + 3))),isV (Pt g_0),isV (Pt g_0),isV (Pt g_0),isV (v0_0),isV (I (r_.b.length : Int)),isV (I (Int.tmod (i64 ((i64 ((i64 ((i64 (r_.p + 1)) - 1)) * 7)) + 3)) (r_.b.length : Int))),isEl RP.u8 x24 0,isV (.int .u8 (x24.toNat : Int)),isV (I (i64 (x24.toNat : Int))),isV (I (i64 ((i64 (x24.toNat : Int)) * 1117))),isV (I (i64 ((i64 ((i64 (x18.toNat : Int)) * 131)) + (i64 ((i64 (x24.toNat : Int)) * 1117))))),isV (I (i64 ((i64 (r_.p + 1)) - 1))),isV (I (i64 ((i64 ((i64 (r_.p + 1)) - 1)) * 29))),isV (I (i64 ((i64 ((i64 ((i64 (x18.toNat : Int)) * 131)) + (i64 ((i64 (x24.toNat : Int)) * 1117)))) + (i64 ((i64 ((i64 (r_.p + 1)) - 1)) * 29))))),isV (I (i64 ((i64 (r_.p + 1)) - 1))),isV (Pt g_0),isV (Pt g_0),isV (Pt g_0),isV (v0_0),isV (I (r_.b.length : Int)),isV (I (i64 (Int.tdiv (i64 ((i64 (r_.p + 1)) - 1)) (r_.b.length : Int)))),isV (I (i64 ((i64 (Int.tdiv (i64 ((i64 (r_.p + 1)) - 1)) (r_.b.length : Int))) * 53)))] [box g_0 126 #[v0_0,I (i64 (r_.p + 1))]] [] ([]) [([],[]),([],[]),([],[]),([],[]),([],[]),([],[]),([],[]),([],[]),([],[]),([],[]),([],[]),([],[]),([],[]),([],[]),([],[]),([],[]),([],[]),([],[]),([],[]),([],[]),([],[]),([],[]),([],[]),([],[]),([],[]),([],[]),([],[]),([],[]),([],[]),([],[]),([],[]),([],[]),([],[]),([],[]),([],[]),([],[]),([],[]),([],[]),([],[]),([],[]),([],[]),([],[]),([],[]),([],[])] (S:=[]) Try_mix (by kernel_rfl) rfl (by kernel_rfl) (amF_cons (mono_V _) (amF_cons (mono_V _) (amF_cons (mono_V _) (amF_cons (mono_V _) (amF_cons (mono_V _) (amF_cons (mono_V _) (amF_cons (mono_V _) (amF_cons (mono_V _) (amF_cons (mono_V _) (amF_cons (mono_V _) (amF_cons (mono_V _) (amF_cons (mono_el _ _ _) (amF_cons (mono_V _) (amF_cons (mono_V _) (amF_cons (mono_V _) (amF_cons (mono_V _) (amF_cons (mono_V _) (amF_cons (mono_V _) (amF_cons (mono_V _) (amF_cons (mono_V _) (amF_cons (mono_V _) (amF_cons (mono_V _) (amF_cons (mono_V _) (amF_cons (mono_V _) (amF_cons (mono_V _) (amF_cons (mono_V _) (amF_cons (mono_V _) (amF_cons (mono_V _) (amF_cons (mono_el _ _ _) (amF_cons (mono_V _) (amF_cons (mono_V _) (amF_cons (mono_V _) (amF_cons (mono_V _) (amF_cons (mono_V _) (amF_cons (mono_V _) (amF_cons (mono_V _) (amF_cons (mono_V _) (amF_cons (mono_V _) (amF_cons (mono_V _) (amF_cons (mono_V _) (amF_cons (mono_V _) (amF_cons (mono_V _) (amF_cons (mono_V _) (amF_cons (mono_V _) amF_nil)))))))))))))))))))))))))))))))))))))))))))) hst ?_ (fun f w_ H30 hS30 hE30 hT30 hst=>?_)
 refine opsS_cons (fun f w_ _ _ s _ _ hst=>mF ((s 0 rfl).trans sf0) rfl (nO rfl rfl hst)) (opsS_cons (fun f w_ _ _ _ _ p hst=>L_nc rfl (p 0 47 rfl rfl) (nO rfl rfl hst)) (opsS_cons (fun f w_ _ _ _ _ p hst=>fA 0 fa_126_0 (p 1 48 rfl rfl) rfl (nO rfl rfl hst)) (opsS_cons (fun f w_ _ _ _ _ p hst=>ldB 0 hst Try.isAgg45 (p 2 49 rfl rfl) rfl rfl (nO rfl rfl hst)) (opsS_cons (fun f w_ _ _ s _ _ hst=>mF ((s 5 rfl).trans rfl) rfl (nO rfl rfl hst)) (opsS_cons (fun f w_ _ _ s _ _ hst=>mF ((s 0 rfl).trans sf0) rfl (nO rfl rfl hst)) (opsS_cons (fun f w_ _ _ _ _ p hst=>L_nc rfl (p 5 52 rfl rfl) (nO rfl rfl hst)) (opsS_cons (fun f w_ _ _ _ _ p hst=>fA 0 fa_126_0 (p 6 53 rfl rfl) rfl (nO rfl rfl hst)) (opsS_cons (fun f w_ _ _ _ _ p hst=>ldB 0 hst Try.isAgg45 (p 7 54 rfl rfl) rfl rfl (nO rfl rfl hst)) (opsS_cons (fun f w_ _ _ _ hE30 p hst=>L_len rfl Try.underlying45 (p 8 55 rfl rfl) (slice_len (RP.mono _ h0_0 hE30)) (nO rfl rfl hst)) (opsS_cons (fun f w_ _ _ _ _ p hst=>L_rem (m:=i64 ((i64 (r_.p + 1)) - 1)) (n:=(r_.b.length : Int)) rfl (p 4 51 rfl rfl) (p 9 56 rfl rfl) (fun he=>by rw [if_pos he] at hq17; cases hq17) (nO rfl rfl hst)) (opsS_cons ?_ ?_)))))))))))
 intro f w_ H30 X30 hS30 hE30 hP30 hst
 refine L_ix (r:=RP.u8) rfl Try.underlying45 Try.sizeOf5 (hP30 3 50 rfl rfl) (RP.mono _ h0_0 hE30) (hP30 10 57 rfl rfl) hx18 (fun g39 o40 cs_g39 hrk_hat41 hat41=>?_)
 obtain rfl : _ = [_]:=hrk_hat41
 exact L_nil ⟨rfl,_,_,rfl,Le.refl _,fun _ _=>⟨_,_,_,rfl,rfl,hat41⟩,hst⟩
 refine opsS_cons ?_ ?_
 intro f w_ H30 X30 hS30 hE30 hP30 hst
 obtain ⟨g43,o43,cs43,hv43,hrk_hat43,hat43⟩:=(hP30 11 58 rfl rfl)
 obtain rfl : _ = [_]:=hrk_hat43
 refine L_ld rfl Try.isAgg5 hv43 (At.cell (AtH.at hat43 hst.sub) (j:=0) rfl) (L_nil ⟨rfl,_,_,rfl,Le.refl _,fun _ _=>rfl,hst⟩)
 refine opsS_cons (fun f w_ _ _ _ _ p hst=>L_cv (n:=(x18.toNat : Int)) rfl (p 12 59 rfl rfl) ⟨_,Try.underlying5⟩ Try.underlying3 (nO rfl rfl hst)) (opsS_cons (fun f w_ _ _ _ _ p hst=>L_mul rfl (p 13 60 rfl rfl) rfl (nO rfl rfl hst)) (opsS_cons (fun f w_ _ _ s _ _ hst=>mF ((s 0 rfl).trans sf0) rfl (nO rfl rfl hst)) (opsS_cons (fun f w_ _ _ _ _ p hst=>L_nc rfl (p 15 62 rfl rfl) (nO rfl rfl hst)) (opsS_cons (fun f w_ _ _ _ _ p hst=>fA 0 fa_126_0 (p 16 63 rfl rfl) rfl (nO rfl rfl hst)) (opsS_cons (fun f w_ _ _ _ _ p hst=>ldB 0 hst Try.isAgg45 (p 17 64 rfl rfl) rfl rfl (nO rfl rfl hst)) (opsS_cons (fun f w_ _ _ s _ _ hst=>mF ((s 5 rfl).trans rfl) rfl (nO rfl rfl hst)) (opsS_cons (fun f w_ _ _ _ _ p hst=>L_mul rfl (p 19 66 rfl rfl) rfl (nO rfl rfl hst)) (opsS_cons (fun f w_ _ _ _ _ p hst=>L_add rfl (p 20 67 rfl rfl) rfl (nO rfl rfl hst)) (opsS_cons (fun f w_ _ _ s _ _ hst=>mF ((s 0 rfl).trans sf0) rfl (nO rfl rfl hst)) (opsS_cons (fun f w_ _ _ _ _ p hst=>L_nc rfl (p 22 69 rfl rfl) (nO rfl rfl hst)) (opsS_cons (fun f w_ _ _ _ _ p hst=>fA 0 fa_126_0 (p 23 70 rfl rfl) rfl (nO rfl rfl hst)) (opsS_cons (fun f w_ _ _ _ _ p hst=>ldB 0 hst Try.isAgg45 (p 24 71 rfl rfl) rfl rfl (nO rfl rfl hst)) (opsS_cons (fun f w_ _ _ _ hE30 p hst=>L_len rfl Try.underlying45 (p 25 72 rfl rfl) (slice_len (RP.mono _ h0_0 hE30)) (nO rfl rfl hst)) (opsS_cons (fun f w_ _ _ _ _ p hst=>L_rem (m:=i64 ((i64 ((i64 ((i64 (r_.p + 1)) - 1)) * 7)) + 3)) (n:=(r_.b.length : Int)) rfl (p 21 68 rfl rfl) (p 26 73 rfl rfl) (fun he=>by rw [if_pos he] at hq23; cases hq23) (nO rfl rfl hst)) (opsS_cons ?_ ?_)))))))))))))))
 intro f w_ H30 X30 hS30 hE30 hP30 hst
 refine L_ix (r:=RP.u8) rfl Try.underlying45 Try.sizeOf5 (hP30 18 65 rfl rfl) (RP.mono _ h0_0 hE30) (hP30 27 74 rfl rfl) hx24 (fun g45 o46 cs_g45 hrk_hat47 hat47=>?_)
 obtain rfl : _ = [_]:=hrk_hat47
 exact L_nil ⟨rfl,_,_,rfl,Le.refl _,fun _ _=>⟨_,_,_,rfl,rfl,hat47⟩,hst⟩
 refine opsS_cons ?_ ?_
 intro f w_ H30 X30 hS30 hE30 hP30 hst
 obtain ⟨g49,o49,cs49,hv49,hrk_hat49,hat49⟩:=(hP30 28 75 rfl rfl)
 obtain rfl : _ = [_]:=hrk_hat49
 refine L_ld rfl Try.isAgg5 hv49 (At.cell (AtH.at hat49 hst.sub) (j:=0) rfl) (L_nil ⟨rfl,_,_,rfl,Le.refl _,fun _ _=>rfl,hst⟩)
 refine opsS_cons (fun f w_ _ _ _ _ p hst=>L_cv (n:=(x24.toNat : Int)) rfl (p 29 76 rfl rfl) ⟨_,Try.underlying5⟩ Try.underlying3 (nO rfl rfl hst)) (opsS_cons (fun f w_ _ _ _ _ p hst=>L_mul rfl (p 30 77 rfl rfl) rfl (nO rfl rfl hst)) (opsS_cons (fun f w_ _ _ _ _ p hst=>L_add rfl (p 14 61 rfl rfl) (p 31 78 rfl rfl) (nO rfl rfl hst)) (opsS_cons (fun f w_ _ _ s _ _ hst=>mF ((s 5 rfl).trans rfl) rfl (nO rfl rfl hst)) (opsS_cons (fun f w_ _ _ _ _ p hst=>L_mul rfl (p 33 80 rfl rfl) rfl (nO rfl rfl hst)) (opsS_cons (fun f w_ _ _ _ _ p hst=>L_add rfl (p 32 79 rfl rfl) (p 34 81 rfl rfl) (nO rfl rfl hst)) (opsS_cons (fun f w_ _ _ s _ _ hst=>mF ((s 5 rfl).trans rfl) rfl (nO rfl rfl hst)) (opsS_cons (fun f w_ _ _ s _ _ hst=>mF ((s 0 rfl).trans sf0) rfl (nO rfl rfl hst)) (opsS_cons (fun f w_ _ _ _ _ p hst=>L_nc rfl (p 37 84 rfl rfl) (nO rfl rfl hst)) (opsS_cons (fun f w_ _ _ _ _ p hst=>fA 0 fa_126_0 (p 38 85 rfl rfl) rfl (nO rfl rfl hst)) (opsS_cons (fun f w_ _ _ _ _ p hst=>ldB 0 hst Try.isAgg45 (p 39 86 rfl rfl) rfl rfl (nO rfl rfl hst)) (opsS_cons (fun f w_ _ _ _ hE30 p hst=>L_len rfl Try.underlying45 (p 40 87 rfl rfl) (slice_len (RP.mono _ h0_0 hE30)) (nO rfl rfl hst)) (opsS_cons (fun f w_ _ _ _ _ p hst=>L_quo (m:=i64 ((i64 (r_.p + 1)) - 1)) (n:=(r_.b.length : Int)) rfl (p 36 83 rfl rfl) (p 41 88 rfl rfl) (fun he=>by rw [if_pos he] at hq29; cases hq29) (nO rfl rfl hst)) (opsS_cons (fun f w_ _ _ _ _ p hst=>L_mul rfl (p 42 89 rfl rfl) rfl (nO rfl rfl hst)) (opsS_nil))))))))))))))
 refine L_add rfl (hT30 35 82 rfl rfl) (hT30 43 90 rfl rfl) (aI rfl (ns (mI rfl (mI rfl (L_quo (m:=i64 ((i64 ((i64 ((i64 ((i64 (x18.toNat : Int)) * 131)) + (i64 ((i64 (x24.toNat : Int)) * 1117)))) + (i64 ((i64 ((i64 (r_.p + 1)) - 1)) * 29)))) + (i64 ((i64 (Int.tdiv (i64 ((i64 (r_.p + 1)) - 1)) (r_.b.length : Int))) * 53)))) (n:=64) rfl rfl rfl (by decide) (L_xor (m:=i64 ((i64 ((i64 ((i64 ((i64 (x18.toNat : Int)) * 131)) + (i64 ((i64 (x24.toNat : Int)) * 1117)))) + (i64 ((i64 ((i64 (r_.p + 1)) - 1)) * 29)))) + (i64 ((i64 (Int.tdiv (i64 ((i64 (r_.p + 1)) - 1)) (r_.b.length : Int))) * 53)))) (n:=i64 (Int.tdiv (i64 ((i64 ((i64 ((i64 ((i64 (x18.toNat : Int)) * 131)) + (i64 ((i64 (x24.toNat : Int)) * 1117)))) + (i64 ((i64 ((i64 (r_.p + 1)) - 1)) * 29)))) + (i64 ((i64 (Int.tdiv (i64 ((i64 (r_.p + 1)) - 1)) (r_.b.length : Int))) * 53)))) 64)) rfl rfl rfl (aI rfl (nq ?_))))))))
 obtain ⟨q51,hq51,hF⟩:=bind_some hF
 refine W_region (mI rfl (mF ((hS30 1 rfl).trans sf1) rfl (L_rem (m:=(xorI .i64 (i64 ((i64 ((i64 ((i64 ((i64 (x18.toNat : Int)) * 131)) + (i64 ((i64 (x24.toNat : Int)) * 1117)))) + (i64 ((i64 ((i64 (r_.p + 1)) - 1)) * 29)))) + (i64 ((i64 (Int.tdiv (i64 ((i64 (r_.p + 1)) - 1)) (r_.b.length : Int))) * 53)))) (i64 (Int.tdiv (i64 ((i64 ((i64 ((i64 ((i64 (x18.toNat : Int)) * 131)) + (i64 ((i64 (x24.toNat : Int)) * 1117)))) + (i64 ((i64 ((i64 (r_.p + 1)) - 1)) * 29)))) + (i64 ((i64 (Int.tdiv (i64 ((i64 (r_.p + 1)) - 1)) (r_.b.length : Int))) * 53)))) 64)))) (n:=n_) rfl rfl rfl (fun he=>by rw [if_pos he] at hq51; cases hq51) (aI rfl (nn (W_ret (retG1 (v1:=I (Int.tmod (xorI .i64 (i64 ((i64 ((i64 ((i64 ((i64 (x18.toNat : Int)) * 131)) + (i64 ((i64 (x24.toNat : Int)) * 1117)))) + (i64 ((i64 ((i64 (r_.p + 1)) - 1)) * 29)))) + (i64 ((i64 (Int.tdiv (i64 ((i64 (r_.p + 1)) - 1)) (r_.b.length : Int))) * 53)))) (i64 (Int.tdiv (i64 ((i64 ((i64 ((i64 ((i64 (x18.toNat : Int)) * 131)) + (i64 ((i64 (x24.toNat : Int)) * 1117)))) + (i64 ((i64 ((i64 (r_.p + 1)) - 1)) * 29)))) + (i64 ((i64 (Int.tdiv (i64 ((i64 (r_.p + 1)) - 1)) (r_.b.length : Int))) * 53)))) 64))) n_)) Try.results71 rfl ?_)))))))
 obtain rfl:=so hF
 exact ⟨rfl,(Star.down hst hE30 (cb c0))⟩
theorem s_l17Rd_num_c {r_ : Rd} {list : List Int} {g_0 : Nat} {v0_0 : Value} {v1 : Value} {H : FH} {w : World} (hst : Star H w [box g_0 126 #[v0_0,I r_.p]]) (h0_0 : (rS 5 RP.u8).rel H [v0_0] r_.b) (h1 : (rS 3 RP.int).rel H [v1] list) {r : Int × Int} (hF : s_l17Rd_num r_ list = some r) :
 C Try.prog 110 #[Pt g_0,v1] w fun v w'=>v = I r.1∧Star H w' [box g_0 126 #[v0_0,I r.2]]:=by
 unfold s_l17Rd_num at hF
 refine C_enter Try.func110 rfl Try.ntmps110 rfl (sq (aI rfl (nq ?_)))
 obtain ⟨x6,hx6,hF⟩:=bind_some hF
 obtain ⟨x8,hx8,hF⟩:=bind_some hF
 refine W_region (mV v1 rfl (mV (Pt g_0) rfl (mV v1 rfl (L_len rfl Try.underlying105 rfl (slice_len h1) ?_))))
 obtain ⟨H13b,l14,s15,z16,k17⟩:=hst.lend [_]
 refine L_call rfl Try.call71 (ops2 rfl rfl) (s_l17Rd_pick_c (r_:=r_) (n_:=(list.length : Int)) s15 (RP.mono _ h0_0 l14) hx6) ?_
 rintro _ w18 ⟨rfl,hst⟩
 have hst:=k17 hst (cb c0)
 refine L_ix (r:=RP.int) rfl Try.underlying105 Try.sizeOf3 rfl h1 rfl hx8 (fun g19 o20 cs_g19 hrk_hat21 hat21=>?_)
 obtain rfl : _ = [_]:=hrk_hat21
 refine L_ld rfl Try.isAgg3 rfl (At.cell (AtH.at hat21 hst.sub) (j:=0) rfl) (aI rfl (nn (W_ret (retG1 (v1:=I x8) Try.results110 rfl ?_))))
 obtain rfl:=so hF
 exact ⟨rfl,hst⟩
end Go.Proofs.Ytiodhgbfceahfaa

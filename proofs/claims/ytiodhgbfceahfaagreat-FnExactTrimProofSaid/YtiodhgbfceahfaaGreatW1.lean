/- Part of a proof by program: W1. -/
import Derived.Test.YtiodhgbfceahfaaGreatD1
import Derived.Test.YtiodhgbfceahfaaGreatProg
namespace Go.Proofs.YtiodhgbfceahfaaGreat
open Go Go.E Go.L Go.RowKit
set_option linter.unusedVariables false
set_option linter.unusedSimpArgs false
set_option maxRecDepth 100000
theorem Tryz_mix : Tryz.prog.follows .mixedOrders = true := by kernel_rfl
theorem fa_40_0 : FA Tryz.prog 40 0 0 := fa_of Tryz.underlying40 rfl Tryz.sizeOf38 rfl
theorem fa_40_1 : FA Tryz.prog 40 1 1 := fa_of Tryz.underlying40 rfl Tryz.sizeOf3 rfl
theorem fa_43_0 : FA Tryz.prog 43 0 0 := fa_of Tryz.underlying43 rfl Tryz.sizeOf3 rfl
theorem fa_43_1 : FA Tryz.prog 43 1 1 := fa_of Tryz.underlying43 rfl Tryz.sizeOf3 rfl
theorem fa_43_2 : FA Tryz.prog 43 2 2 := fa_of Tryz.underlying43 rfl Tryz.sizeOf3 rfl
theorem fa_43_3 : FA Tryz.prog 43 3 3 := fa_of Tryz.underlying43 rfl Tryz.sizeOf40 rfl
theorem fa_47_0 : FA Tryz.prog 47 0 0 := fa_of Tryz.underlying47 rfl Tryz.sizeOf29 rfl
theorem fa_47_1 : FA Tryz.prog 47 1 1 := fa_of Tryz.underlying47 rfl Tryz.sizeOf45 rfl
theorem fa_54_0 : FA Tryz.prog 54 0 0 := fa_of Tryz.underlying54 rfl Tryz.sizeOf52 rfl
theorem fa_54_1 : FA Tryz.prog 54 1 1 := fa_of Tryz.underlying54 rfl Tryz.sizeOf3 rfl
theorem fa_56_0 : FA Tryz.prog 56 0 0 := fa_of Tryz.underlying56 rfl Tryz.sizeOf3 rfl
theorem fa_56_1 : FA Tryz.prog 56 1 1 := fa_of Tryz.underlying56 rfl Tryz.sizeOf3 rfl
theorem fa_56_2 : FA Tryz.prog 56 2 2 := fa_of Tryz.underlying56 rfl Tryz.sizeOf3 rfl
theorem fa_56_3 : FA Tryz.prog 56 3 3 := fa_of Tryz.underlying56 rfl Tryz.sizeOf54 rfl
theorem fa_80_0 : FA Tryz.prog 80 0 0 := fa_of Tryz.underlying80 rfl Tryz.sizeOf29 rfl
theorem fa_80_1 : FA Tryz.prog 80 1 1 := fa_of Tryz.underlying80 rfl Tryz.sizeOf45 rfl
theorem fa_83_0 : FA Tryz.prog 83 0 0 := fa_of Tryz.underlying83 rfl Tryz.sizeOf3 rfl
theorem fa_83_1 : FA Tryz.prog 83 1 1 := fa_of Tryz.underlying83 rfl Tryz.sizeOf3 rfl
theorem fa_94_0 : FA Tryz.prog 94 0 0 := fa_of Tryz.underlying94 rfl Tryz.sizeOf3 rfl
theorem fa_94_1 : FA Tryz.prog 94 1 1 := fa_of Tryz.underlying94 rfl Tryz.sizeOf3 rfl
theorem et_26 : ET Tryz.prog 26 56 5 := et_of Tryz.underlying26 (by decide) (by kernel_rfl)
theorem et_29 : ET Tryz.prog 29 54 2 := et_of Tryz.underlying29 (by decide) (by kernel_rfl)
theorem et_45 : ET Tryz.prog 45 4 1 := et_of Tryz.underlying45 (by decide) (by kernel_rfl)
theorem et_51 : ET Tryz.prog 51 3 1 := et_of Tryz.underlying51 (by decide) (by kernel_rfl)
theorem et_52 : ET Tryz.prog 52 83 2 := et_of Tryz.underlying52 (by decide) (by kernel_rfl)
theorem termEq_83 : TermEq Tryz.prog 83 := termEq_of (by kernel_rfl) Tryz.underlying83 rfl (by decide) (by decide) rfl rfl Tryz.underlying3 Tryz.underlying3 (by kernel_rfl)
theorem bld_47_0_1 (a0 a1 : Value) (ha0 : a0.oneCell' = true) (ha1 : a1.oneCell' = true) : ∀ w, (Instr.build 47 #[(0, a0), (1, a1)]).run Tryz.prog w = .ok (.agg #[a0, a1]) w := by
  intro w
  simp [Instr.build, Instr.fill, Tryz.zeroValue47, Tryz.runUnderlying47, Tryz.sizeOf29, Tryz.sizeOf45, cells_one ha0, cells_one ha1, cells_agg]
theorem bld_54_  : ∀ w, (Instr.build 54 #[]).run Tryz.prog w = .ok (.agg #[.slice none 0 0, .int .i64 0]) w := by
  intro w
  simp [Instr.build, Instr.fill, Tryz.zeroValue54, Tryz.runUnderlying54, Tryz.sizeOf3, Tryz.sizeOf52, cells_agg]
theorem bld_54_0 (a0 : Value) (ha0 : a0.oneCell' = true) : ∀ w, (Instr.build 54 #[(0, a0)]).run Tryz.prog w = .ok (.agg #[a0, .int .i64 0]) w := by
  intro w
  simp [Instr.build, Instr.fill, Tryz.zeroValue54, Tryz.runUnderlying54, Tryz.sizeOf3, Tryz.sizeOf52, cells_one ha0, cells_agg]
theorem bld_54_0_1 (a0 a1 : Value) (ha0 : a0.oneCell' = true) (ha1 : a1.oneCell' = true) : ∀ w, (Instr.build 54 #[(0, a0), (1, a1)]).run Tryz.prog w = .ok (.agg #[a0, a1]) w := by
  intro w
  simp [Instr.build, Instr.fill, Tryz.zeroValue54, Tryz.runUnderlying54, Tryz.sizeOf3, Tryz.sizeOf52, cells_one ha0, cells_one ha1, cells_agg]
theorem bld_54_1 (a0 : Value) (ha0 : a0.oneCell' = true) : ∀ w, (Instr.build 54 #[(1, a0)]).run Tryz.prog w = .ok (.agg #[.slice none 0 0, a0]) w := by
  intro w
  simp [Instr.build, Instr.fill, Tryz.zeroValue54, Tryz.runUnderlying54, Tryz.sizeOf3, Tryz.sizeOf52, cells_one ha0, cells_agg]
theorem bld_80_0_1 (a0 a1 : Value) (ha0 : a0.oneCell' = true) (ha1 : a1.oneCell' = true) : ∀ w, (Instr.build 80 #[(0, a0), (1, a1)]).run Tryz.prog w = .ok (.agg #[a0, a1]) w := by
  intro w
  simp [Instr.build, Instr.fill, Tryz.zeroValue80, Tryz.runUnderlying80, Tryz.sizeOf29, Tryz.sizeOf45, cells_one ha0, cells_one ha1, cells_agg]
theorem bld_83_0_1 (a0 a1 : Value) (ha0 : a0.oneCell' = true) (ha1 : a1.oneCell' = true) : ∀ w, (Instr.build 83 #[(0, a0), (1, a1)]).run Tryz.prog w = .ok (.agg #[a0, a1]) w := by
  intro w
  simp [Instr.build, Instr.fill, Tryz.zeroValue83, Tryz.runUnderlying83, Tryz.sizeOf3, cells_one ha0, cells_one ha1, cells_agg]
theorem bs_120_2_0_0 (a0 a1 : Value) (ha0 : a0.oneCell' = true) (ha1 : a1.oneCell' = true) : ∀ w, (Instr.buildSlice 120 2 #[(0, a0), (1, a1)]).run Tryz.prog w = .ok (.slice (some ⟨w.heap.size, 0, none⟩) 2 2) (w.alloc (.cells #[a0, a1] 52)) := by
  intro w
  simp [Instr.buildSlice, Instr.fill, newRow, Tryz.zeroValue52, Tryz.runUnderlying120, Tryz.sizeOf52, cells_one ha0, cells_one ha1, cells_agg, cells_int, cells_bool, cells_str, cells_sl, Array.range_succ, range0]
theorem bs_26_0  : ∀ w, (Instr.buildSlice 26 0 #[]).run Tryz.prog w = .ok (.slice (some ⟨w.heap.size, 0, none⟩) 0 0) (w.alloc (.cells #[] 56)) := by
  intro w
  simp [Instr.buildSlice, Instr.fill, newRow, Tryz.runUnderlying26, Tryz.sizeOf56, cells_agg, cells_int, cells_bool, cells_str, cells_sl, Array.range_succ, range0]
theorem bs_26_1_5 (a0 a1 a2 a3 a4 : Value)  : ∀ w, (Instr.buildSlice 26 1 #[(0, .agg #[a0, a1, a2, a3, a4])]).run Tryz.prog w = .ok (.slice (some ⟨w.heap.size, 0, none⟩) 1 1) (w.alloc (.cells #[a0, a1, a2, a3, a4] 56)) := by
  intro w
  simp [Instr.buildSlice, Instr.fill, newRow, Tryz.zeroValue56, Tryz.runUnderlying26, Tryz.sizeOf56, cells_agg, cells_int, cells_bool, cells_str, cells_sl, Array.range_succ, range0]
theorem bs_29_0  : ∀ w, (Instr.buildSlice 29 0 #[]).run Tryz.prog w = .ok (.slice (some ⟨w.heap.size, 0, none⟩) 0 0) (w.alloc (.cells #[] 54)) := by
  intro w
  simp [Instr.buildSlice, Instr.fill, newRow, Tryz.runUnderlying29, Tryz.sizeOf54, cells_agg, cells_int, cells_bool, cells_str, cells_sl, Array.range_succ, range0]
theorem bs_29_1_2 (a0 a1 : Value)  : ∀ w, (Instr.buildSlice 29 1 #[(0, .agg #[a0, a1])]).run Tryz.prog w = .ok (.slice (some ⟨w.heap.size, 0, none⟩) 1 1) (w.alloc (.cells #[a0, a1] 54)) := by
  intro w
  simp [Instr.buildSlice, Instr.fill, newRow, Tryz.zeroValue54, Tryz.runUnderlying29, Tryz.sizeOf54, cells_agg, cells_int, cells_bool, cells_str, cells_sl, Array.range_succ, range0]
theorem bs_45_1_0 (a0 : Value) (ha0 : a0.oneCell' = true) : ∀ w, (Instr.buildSlice 45 1 #[(0, a0)]).run Tryz.prog w = .ok (.slice (some ⟨w.heap.size, 0, none⟩) 1 1) (w.alloc (.cells #[a0] 4)) := by
  intro w
  simp [Instr.buildSlice, Instr.fill, newRow, Tryz.zeroValue4, Tryz.runUnderlying45, Tryz.sizeOf4, cells_one ha0, cells_agg, cells_int, cells_bool, cells_str, cells_sl, Array.range_succ, range0]
theorem bs_51_0  : ∀ w, (Instr.buildSlice 51 0 #[]).run Tryz.prog w = .ok (.slice (some ⟨w.heap.size, 0, none⟩) 0 0) (w.alloc (.cells #[] 3)) := by
  intro w
  simp [Instr.buildSlice, Instr.fill, newRow, Tryz.runUnderlying51, Tryz.sizeOf3, cells_agg, cells_int, cells_bool, cells_str, cells_sl, Array.range_succ, range0]
theorem bs_51_1_0 (a0 : Value) (ha0 : a0.oneCell' = true) : ∀ w, (Instr.buildSlice 51 1 #[(0, a0)]).run Tryz.prog w = .ok (.slice (some ⟨w.heap.size, 0, none⟩) 1 1) (w.alloc (.cells #[a0] 3)) := by
  intro w
  simp [Instr.buildSlice, Instr.fill, newRow, Tryz.zeroValue3, Tryz.runUnderlying51, Tryz.sizeOf3, cells_one ha0, cells_agg, cells_int, cells_bool, cells_str, cells_sl, Array.range_succ, range0]
theorem bs_52_0  : ∀ w, (Instr.buildSlice 52 0 #[]).run Tryz.prog w = .ok (.slice (some ⟨w.heap.size, 0, none⟩) 0 0) (w.alloc (.cells #[] 83)) := by
  intro w
  simp [Instr.buildSlice, Instr.fill, newRow, Tryz.runUnderlying52, Tryz.sizeOf83, cells_agg, cells_int, cells_bool, cells_str, cells_sl, Array.range_succ, range0]
theorem bs_52_1_2 (a0 a1 : Value)  : ∀ w, (Instr.buildSlice 52 1 #[(0, .agg #[a0, a1])]).run Tryz.prog w = .ok (.slice (some ⟨w.heap.size, 0, none⟩) 1 1) (w.alloc (.cells #[a0, a1] 83)) := by
  intro w
  simp [Instr.buildSlice, Instr.fill, newRow, Tryz.zeroValue83, Tryz.runUnderlying52, Tryz.sizeOf83, cells_agg, cells_int, cells_bool, cells_str, cells_sl, Array.range_succ, range0]
theorem l_szTermS_c {a : List Term} {left : Int} {v0 : Value} {H : FH} {w : World} (hst : Star H w []) (h0 : (rS 94 rTerm).rel H [v0] a) {r : Int} (hF : l_szTermS a left = some r) :
 C Tryz.prog 31 #[v0,I left] w fun v w'=>v = I r∧Star H w' []:=by
 unfold l_szTermS at hF
 refine C_enter Tryz.func31 rfl Tryz.ntmps31 rfl (sq (aI rfl (ns (mI rfl (mV v0 rfl (L_len rfl Tryz.underlying38 rfl (slice_len h0) (L_sub rfl rfl rfl (aI rfl (nq (sq (mI rfl (L_lss rfl rfl rfl (nn (W_cond (b:=decide ((i64 (left - (a.length : Int))) < 0)) rfl (fun hc1=>?_) (fun hc1=>?_)))))))))))))))
 have hF:=(ite_t hc1).symm.trans hF
 refine sq (aI rfl (nn (W_ret (retG1 (v1:=I (-1)) Tryz.results31 rfl ?_))))
 obtain rfl:=so hF
 exact ⟨rfl,hst⟩
 have hF:=(ite_f hc1).symm.trans hF
 refine W_skip (sq (mI rfl (aI rfl (nn (W_ret (retG1 (v1:=I (i64 (left - (a.length : Int)))) Tryz.results31 rfl ?_))))))
 obtain rfl:=so hF
 exact ⟨rfl,hst⟩
theorem l_szConstraint_c {a : Con} {left : Int} {v0_0 : Value} {H : FH} {w : World} (hst : Star H w []) (h0_0 : (rS 94 rTerm).rel H [v0_0] a.terms) {r : Int} (hF : l_szConstraint a left = some r) :
 C Tryz.prog 15 #[.agg #[v0_0,I a.bound],I left] w fun v w'=>v = I r∧Star H w' []:=by
 unfold l_szConstraint at hF
 refine C_enter Tryz.func15 rfl Tryz.ntmps15 rfl (sq (L_box (v:=.agg #[v0_0,I a.bound]) (cs:=#[v0_0,I a.bound]) rfl rfl rfl hst (fun g3 w4 hst=>aI rfl (nq ?_))))
 obtain ⟨x10,hx10,hF⟩:=bind_some hF
 refine W_region (fA 0 fa_40_0 rfl rfl (ldB 0 hst Tryz.isAgg38 rfl rfl rfl (mI rfl ?_)))
 obtain ⟨H12b,l13,s14,z15,k16⟩:=hst.borrow
 refine L_call rfl Tryz.call31 (ops2 rfl rfl) (l_szTermS_c (a:=a.terms) (left:=left) s14 (RP.mono _ h0_0 l13) hx10) ?_
 rintro _ w17 ⟨rfl,hst⟩
 have hst:=k16 hst c0
 refine aI rfl (nq (sq (mI rfl (L_lss rfl rfl rfl (nn (W_cond (b:=decide (x10 < 0)) rfl (fun hc18=>?_) (fun hc18=>?_)))))))
 have hF:=(ite_t hc18).symm.trans hF
 refine sq (aI rfl (nn (W_ret (retG1 (v1:=I (-1)) Tryz.results15 rfl ?_))))
 obtain rfl:=so hF
 exact ⟨rfl,(Star.keepN 0 hst)⟩
 have hF:=(ite_f hc18).symm.trans hF
 refine W_skip (sq (mI rfl (aI rfl (nn (W_ret (retG1 (v1:=I x10) Tryz.results15 rfl ?_))))))
 obtain rfl:=so hF
 exact ⟨rfl,(Star.keepN 0 hst)⟩
theorem l_szConstraintS_c {a : List Con} {left : Int} {v0 : Value} {H : FH} {w : World} (hst : Star H w []) (h0 : (rS 40 (rCon 94)).rel H [v0] a) {r : Int} (hF : l_szConstraintS a left = some r) :
 C Tryz.prog 4 #[v0,I left] w fun v w'=>v = I r∧Star H w' []:=by
 unfold l_szConstraintS at hF
 refine C_enter Tryz.func4 rfl Tryz.ntmps4 rfl (sq (aI rfl (ns (mI rfl (mV v0 rfl (L_len rfl Tryz.underlying22 rfl (slice_len h0) (L_sub rfl rfl rfl (aI rfl (nq (sq (mI rfl (L_lss rfl rfl rfl (nn (W_cond (b:=decide ((i64 (left - (a.length : Int))) < 0)) rfl (fun hc1=>?_) (fun hc1=>?_)))))))))))))))
 have hF:=(ite_t hc1).symm.trans hF
 refine sq (aI rfl (nn (W_ret (retG1 (v1:=I (-1)) Tryz.results4 rfl ?_))))
 obtain rfl:=so hF
 exact ⟨rfl,hst⟩
 have hF:=(ite_f hc1).symm.trans hF
 refine W_skip (W_seq (sq (aI rfl (nn ?_))))
 have hlen4 : List.length a≤9223372036854775807:=len_le (slice_len h0)
 obtain ⟨j4,hL4,hF⟩:=bind_some hF
 obtain ⟨R4,hR4⟩:=exR fun f w_=>∃ left_3 : Int,j4 = .nx left_3∧f 1 = I left_3∧Star H w_ ([])
 refine W_join R4 ?_ ?_
 refine W_block ?_
 obtain ⟨I4,hI4⟩:=exI fun n f w_=>∃ i_2 : Nat,∃ suf4 : List Con,∃ left_3 : Int,n = suf4.length∧List.drop i_2 a = suf4∧i_2 + suf4.length = a.length∧rangeL l_szConstraintS_b1 suf4 i_2 left_3 = some j4∧f 0 = v0∧f 1 = I left_3∧f 5 = I i_2∧Star H w_ ([])
 refine W_loop I4 (n:=a.length) ?_ ?_
 exact ij hI4 ⟨0,a,i64 (left - (a.length : Int)),rfl,rfl,Nat.zero_add _,hL4,rfl,rfl,rfl,hst⟩
 intro n4 f w_ hI
 obtain ⟨i_2,suf4,left_3,rfl,hd4,hl4,hL4,sf0,sf1,sf5,hst⟩:=ik hI4 hI
 refine W_seq (sq (mF sf5 rfl (mF sf0 rfl (L_len rfl Tryz.underlying22 rfl (slice_len h0) (L_lss rfl rfl rfl (nn (W_cond (b:=decide ((i_2 : Int) < (a.length : Int))) rfl (fun hc5=>?_) (fun hc5=>?_))))))))
 have hlt4:=of_decide_eq_true hc5
 rcases suf4 with _ | ⟨x_4,rest4⟩
 exact absurd hlt4 (by simp at hl4; omega)
 obtain ⟨o4,hB4,hL4⟩:=range_cons hL4
 rw [l_szConstraintS_b1] at hB4
 have hix4:=drop_idx hd4
 refine W_skip (W_seq (W_block (W_seq ?_)))
 obtain ⟨x15,hx15,hB4⟩:=bind_some hB4
 refine W_region (mF sf0 rfl (mF sf5 rfl (L_ix (r:=(rCon 94)) rfl Tryz.underlying22 Tryz.sizeOf40 rfl h0 rfl hix4 (fun g17 o18 cs_g17 hrk_hat19 hat19=>?_))))
 obtain ⟨u20_0,rfl,hu20_0⟩:=rCon_iff.1 hrk_hat19
 refine L_lda (cs:=[u20_0,I x_4.bound]) rfl Tryz.isAgg40 Tryz.sizeOf40 rfl (At.sub (AtH.at hat19 hst.sub) 0 2) rfl (mF sf1 rfl ?_)
 obtain ⟨H21b,l22,s23,z24,k25⟩:=hst.borrow
 refine L_call rfl Tryz.call15 (ops2 rfl rfl) (l_szConstraint_c (a:=x_4) (left:=left_3) s23 (RP.mono _ hu20_0 l22) hx15) ?_
 rintro _ w26 ⟨rfl,hst⟩
 have hst:=k25 hst c0
 refine aI rfl (ns (mI rfl (L_lss rfl rfl rfl (nn (W_cond (b:=decide (x15 < 0)) rfl (fun hc27=>?_) (fun hc27=>?_))))))
 have hB4:=(ite_t hc27).symm.trans hB4
 refine sq (aI rfl (nn (W_ret (retG1 (v1:=I (-1)) Tryz.results4 rfl ?_))))
 obtain rfl:=so hB4
 obtain rfl:=so hL4
 obtain rfl:=so hF
 exact ⟨rfl,hst⟩
 have hB4:=(ite_f hc27).symm.trans hB4
 refine W_skip (W_region (mF sf5 rfl (L_add rfl rfl rfl (aI rfl (nn ?_)))))
 obtain rfl:=so hB4
 show ∃ m,m < _∧I4 m _ _
 refine ⟨rest4.length,by simp,?_⟩
 exact ij hI4 ⟨i_2 + 1,rest4,x15,rfl,drop_next hd4,by simp at hl4; omega,hL4,sf0,rfl,(Eq.trans rfl (congrArg (Value.int .i64) (i64_succ (n:=a.length) (by simp at hl4; omega) hlen4))),hst⟩
 rcases suf4 with _ | ⟨_,_⟩
 obtain rfl:=range_nil hL4
 refine W_exit (rj hR4 ⟨left_3,rfl,sf1,hst⟩)
 exact absurd (of_decide_eq_false hc5) (by simp at hl4; omega)
 intro f w_ hR
 obtain ⟨left_3,rfl,sf1,hst⟩:=rk hR4 hR
 refine sq (mF sf1 rfl (aI rfl (nn (W_ret (retG1 (v1:=I left_3) Tryz.results4 rfl ?_)))))
 obtain rfl:=so hF
 exact ⟨rfl,hst⟩
theorem l_szStep_c {a : Step} {left : Int} {v0_3 : Value} {H : FH} {w : World} (hst : Star H w []) (h0_3 : (rS 94 rTerm).rel H [v0_3] a.given.terms) {r : Int} (hF : l_szStep a left = some r) :
 C Tryz.prog 16 #[.agg #[I a.kind,I a.a,I a.b,v0_3,I a.given.bound],I left] w fun v w'=>v = I r∧Star H w' []:=by
 unfold l_szStep at hF
 refine C_enter Tryz.func16 rfl Tryz.ntmps16 rfl (sq (L_box (v:=.agg #[I a.kind,I a.a,I a.b,v0_3,I a.given.bound]) (cs:=#[I a.kind,I a.a,I a.b,v0_3,I a.given.bound]) rfl rfl rfl hst (fun g3 w4 hst=>aI rfl (nq ?_))))
 obtain ⟨x10,hx10,hF⟩:=bind_some hF
 refine W_region (fA 3 fa_43_3 rfl rfl (L_lda (cs:=[v0_3,I a.given.bound]) rfl Tryz.isAgg40 Tryz.sizeOf40 rfl (At.sub0 (Blk.at (Star.blkAt 0 hst rfl)) 3 2) rfl (mI rfl ?_)))
 obtain ⟨H12b,l13,s14,z15,k16⟩:=hst.borrow
 refine L_call rfl Tryz.call15 (ops2 rfl rfl) (l_szConstraint_c (a:=a.given) (left:=left) s14 (RP.mono _ h0_3 l13) hx10) ?_
 rintro _ w17 ⟨rfl,hst⟩
 have hst:=k16 hst c0
 refine aI rfl (nq (sq (mI rfl (L_lss rfl rfl rfl (nn (W_cond (b:=decide (x10 < 0)) rfl (fun hc18=>?_) (fun hc18=>?_)))))))
 have hF:=(ite_t hc18).symm.trans hF
 refine sq (aI rfl (nn (W_ret (retG1 (v1:=I (-1)) Tryz.results16 rfl ?_))))
 obtain rfl:=so hF
 exact ⟨rfl,(Star.keepN 0 hst)⟩
 have hF:=(ite_f hc18).symm.trans hF
 refine W_skip (sq (mI rfl (aI rfl (nn (W_ret (retG1 (v1:=I x10) Tryz.results16 rfl ?_))))))
 obtain rfl:=so hF
 exact ⟨rfl,(Star.keepN 0 hst)⟩
theorem l_szStepS_c {a : List Step} {left : Int} {v0 : Value} {H : FH} {w : World} (hst : Star H w []) (h0 : (rS 43 (rStep 94)).rel H [v0] a) {r : Int} (hF : l_szStepS a left = some r) :
 C Tryz.prog 5 #[v0,I left] w fun v w'=>v = I r∧Star H w' []:=by
 unfold l_szStepS at hF
 refine C_enter Tryz.func5 rfl Tryz.ntmps5 rfl (sq (aI rfl (ns (mI rfl (mV v0 rfl (L_len rfl Tryz.underlying23 rfl (slice_len h0) (L_sub rfl rfl rfl (aI rfl (nq (sq (mI rfl (L_lss rfl rfl rfl (nn (W_cond (b:=decide ((i64 (left - (a.length : Int))) < 0)) rfl (fun hc1=>?_) (fun hc1=>?_)))))))))))))))
 have hF:=(ite_t hc1).symm.trans hF
 refine sq (aI rfl (nn (W_ret (retG1 (v1:=I (-1)) Tryz.results5 rfl ?_))))
 obtain rfl:=so hF
 exact ⟨rfl,hst⟩
 have hF:=(ite_f hc1).symm.trans hF
 refine W_skip (W_seq (sq (aI rfl (nn ?_))))
 have hlen4 : List.length a≤9223372036854775807:=len_le (slice_len h0)
 obtain ⟨j4,hL4,hF⟩:=bind_some hF
 obtain ⟨R4,hR4⟩:=exR fun f w_=>∃ left_3 : Int,j4 = .nx left_3∧f 1 = I left_3∧Star H w_ ([])
 refine W_join R4 ?_ ?_
 refine W_block ?_
 obtain ⟨I4,hI4⟩:=exI fun n f w_=>∃ i_2 : Nat,∃ suf4 : List Step,∃ left_3 : Int,n = suf4.length∧List.drop i_2 a = suf4∧i_2 + suf4.length = a.length∧rangeL l_szStepS_b1 suf4 i_2 left_3 = some j4∧f 0 = v0∧f 1 = I left_3∧f 5 = I i_2∧Star H w_ ([])
 refine W_loop I4 (n:=a.length) ?_ ?_
 exact ij hI4 ⟨0,a,i64 (left - (a.length : Int)),rfl,rfl,Nat.zero_add _,hL4,rfl,rfl,rfl,hst⟩
 intro n4 f w_ hI
 obtain ⟨i_2,suf4,left_3,rfl,hd4,hl4,hL4,sf0,sf1,sf5,hst⟩:=ik hI4 hI
 refine W_seq (sq (mF sf5 rfl (mF sf0 rfl (L_len rfl Tryz.underlying23 rfl (slice_len h0) (L_lss rfl rfl rfl (nn (W_cond (b:=decide ((i_2 : Int) < (a.length : Int))) rfl (fun hc5=>?_) (fun hc5=>?_))))))))
 have hlt4:=of_decide_eq_true hc5
 rcases suf4 with _ | ⟨x_4,rest4⟩
 exact absurd hlt4 (by simp at hl4; omega)
 obtain ⟨o4,hB4,hL4⟩:=range_cons hL4
 rw [l_szStepS_b1] at hB4
 have hix4:=drop_idx hd4
 refine W_skip (W_seq (W_block (W_seq ?_)))
 obtain ⟨x15,hx15,hB4⟩:=bind_some hB4
 refine W_region (mF sf0 rfl (mF sf5 rfl (L_ix (r:=(rStep 94)) rfl Tryz.underlying23 Tryz.sizeOf43 rfl h0 rfl hix4 (fun g17 o18 cs_g17 hrk_hat19 hat19=>?_))))
 obtain ⟨u20_0,rfl,hu20_0⟩:=rStep_iff.1 hrk_hat19
 refine L_lda (cs:=[I x_4.kind,I x_4.a,I x_4.b,u20_0,I x_4.given.bound]) rfl Tryz.isAgg43 Tryz.sizeOf43 rfl (At.sub (AtH.at hat19 hst.sub) 0 5) rfl (mF sf1 rfl ?_)
 obtain ⟨H21b,l22,s23,z24,k25⟩:=hst.borrow
 refine L_call rfl Tryz.call16 (ops2 rfl rfl) (l_szStep_c (a:=x_4) (left:=left_3) s23 (RP.mono _ hu20_0 l22) hx15) ?_
 rintro _ w26 ⟨rfl,hst⟩
 have hst:=k25 hst c0
 refine aI rfl (ns (mI rfl (L_lss rfl rfl rfl (nn (W_cond (b:=decide (x15 < 0)) rfl (fun hc27=>?_) (fun hc27=>?_))))))
 have hB4:=(ite_t hc27).symm.trans hB4
 refine sq (aI rfl (nn (W_ret (retG1 (v1:=I (-1)) Tryz.results5 rfl ?_))))
 obtain rfl:=so hB4
 obtain rfl:=so hL4
 obtain rfl:=so hF
 exact ⟨rfl,hst⟩
 have hB4:=(ite_f hc27).symm.trans hB4
 refine W_skip (W_region (mF sf5 rfl (L_add rfl rfl rfl (aI rfl (nn ?_)))))
 obtain rfl:=so hB4
 show ∃ m,m < _∧I4 m _ _
 refine ⟨rest4.length,by simp,?_⟩
 exact ij hI4 ⟨i_2 + 1,rest4,x15,rfl,drop_next hd4,by simp at hl4; omega,hL4,sf0,rfl,(Eq.trans rfl (congrArg (Value.int .i64) (i64_succ (n:=a.length) (by simp at hl4; omega) hlen4))),hst⟩
 rcases suf4 with _ | ⟨_,_⟩
 obtain rfl:=range_nil hL4
 refine W_exit (rj hR4 ⟨left_3,rfl,sf1,hst⟩)
 exact absurd (of_decide_eq_false hc5) (by simp at hl4; omega)
 intro f w_ hR
 obtain ⟨left_3,rfl,sf1,hst⟩:=rk hR4 hR
 refine sq (mF sf1 rfl (aI rfl (nn (W_ret (retG1 (v1:=I left_3) Tryz.results5 rfl ?_)))))
 obtain rfl:=so hF
 exact ⟨rfl,hst⟩
theorem s_l4Parts_c {s : Step} {v0_3 : Value} {H : FH} {w : World} (hst : Star H w []) (h0_3 : (rS 83 rTerm).rel H [v0_3] s.given.terms) {r : Bool} (hF : s_l4Parts s = some r) :
 C Tryz.prog 33 #[.agg #[I s.kind,I s.a,I s.b,v0_3,I s.given.bound]] w fun v w'=>v = Bo r∧Star H w' []:=by
 unfold s_l4Parts at hF
 refine C_enter Tryz.func33 rfl Tryz.ntmps33 rfl (sq (L_box (v:=.agg #[I s.kind,I s.a,I s.b,v0_3,I s.given.bound]) (cs:=#[I s.kind,I s.a,I s.b,v0_3,I s.given.bound]) rfl rfl rfl hst (fun g3 w4 hst=>aB rfl (nq ?_))))
 obtain ⟨R5,hR5⟩:=exR fun f w_=>f 1 = Pt g3∧f 3 = Bo (((s.given.terms.length : Int) == 0) && (s.given.bound == 0))∧Star H w_ ([box g3 56 #[I s.kind,I s.a,I s.b,v0_3,I s.given.bound]])
 refine W_join R5 ?_ ?_
 refine W_region (fA 3 fa_56_3 rfl rfl (fA 3 fa_54_0 rfl rfl (ldB 0 hst Tryz.isAgg52 rfl rfl rfl (L_len rfl Tryz.underlying52 rfl (slice_len h0_3) (L_eql rfl rfl rfl (mB rfl (L_split (d:=9) (b:=((s.given.terms.length : Int) == 0)) rfl (fun hc6=>?_) (fun hc6=>?_))))))))
 refine fA 3 fa_56_3 rfl rfl (fA 4 fa_54_1 rfl rfl (ldB 0 hst Tryz.isAgg3 rfl rfl rfl (L_eql rfl rfl rfl (L_pick (v:=Bo (((s.given.terms.length : Int) == 0) && (s.given.bound == 0))) rfl rfl (and_t hc6 rfl) (aB rfl (nn (rj hR5 ⟨rfl,rfl,hst⟩)))))))
 refine ps rfl (ps rfl (ps rfl (ps rfl (L_pick (v:=Bo (((s.given.terms.length : Int) == 0) && (s.given.bound == 0))) rfl rfl (and_f hc6) (aB rfl (nn (rj hR5 ⟨rfl,rfl,hst⟩)))))))
 intro f w_ hR
 obtain ⟨sf1,sf3,hst⟩:=rk hR5 hR
 refine W_seq (sq (fA 0 fa_56_0 sf1 rfl (ldB 0 hst Tryz.isAgg3 rfl rfl rfl (nn (W_block (W_seq (sq (L_eql rfl rfl rfl (aB rfl (nn ?_))))))))))
 obtain ⟨t17_7,hA8,hF⟩:=bind_some hF
 obtain ⟨R8,hR8⟩:=exR fun f w_=>f 1 = Pt g3∧f 3 = Bo (((s.given.terms.length : Int) == 0) && (s.given.bound == 0))∧f 16 = I s.kind∧f 17 = Bo t17_7∧Star H w_ ([box g3 56 #[I s.kind,I s.a,I s.b,v0_3,I s.given.bound]])
 refine W_join R8 ?_ ?_
 refine W_cond (b:=(s.kind == 1)) rfl (fun hc9=>?_) (fun hc9=>?_)
 have hA8:=(ite_t hc9).symm.trans hA8
 refine W_skip ?_
 obtain rfl:=so hA8
 exact rj hR8 ⟨sf1,sf3,rfl,rfl,hst⟩
 have hA8:=(ite_f hc9).symm.trans hA8
 refine sq (L_eql rfl rfl rfl (aB rfl (nn ?_)))
 obtain ⟨t17_10,hA11,hA8⟩:=bind_some hA8
 obtain ⟨R11,hR11⟩:=exR fun f w_=>f 1 = Pt g3∧f 3 = Bo (((s.given.terms.length : Int) == 0) && (s.given.bound == 0))∧f 16 = I s.kind∧f 17 = Bo t17_10∧Star H w_ ([box g3 56 #[I s.kind,I s.a,I s.b,v0_3,I s.given.bound]])
 refine W_join R11 ?_ ?_
 refine W_cond (b:=(s.kind == 2)) rfl (fun hc12=>?_) (fun hc12=>?_)
 have hA11:=(ite_t hc12).symm.trans hA11
 refine W_skip ?_
 obtain rfl:=so hA11
 exact rj hR11 ⟨sf1,sf3,rfl,rfl,hst⟩
 have hA11:=(ite_f hc12).symm.trans hA11
 refine sq (L_eql rfl rfl rfl (aB rfl (nn ?_)))
 obtain ⟨t17_13,hA14,hA11⟩:=bind_some hA11
 obtain ⟨R14,hR14⟩:=exR fun f w_=>f 1 = Pt g3∧f 3 = Bo (((s.given.terms.length : Int) == 0) && (s.given.bound == 0))∧f 16 = I s.kind∧f 17 = Bo t17_13∧Star H w_ ([box g3 56 #[I s.kind,I s.a,I s.b,v0_3,I s.given.bound]])
 refine W_join R14 ?_ ?_
 refine W_cond (b:=(s.kind == 3)) rfl (fun hc15=>?_) (fun hc15=>?_)
 have hA14:=(ite_t hc15).symm.trans hA14
 refine W_skip ?_
 obtain rfl:=so hA14
 exact rj hR14 ⟨sf1,sf3,rfl,rfl,hst⟩
 have hA14:=(ite_f hc15).symm.trans hA14
 refine W_region (L_eql rfl rfl rfl (aB rfl (nn ?_)))
 obtain rfl:=so hA14
 exact rj hR14 ⟨sf1,sf3,rfl,rfl,hst⟩
 intro f w_ hR
 obtain ⟨sf1,sf3,sf16,sf17,hst⟩:=rk hR14 hR
 obtain rfl:=so hA11
 exact rj hR11 ⟨sf1,sf3,sf16,sf17,hst⟩
 intro f w_ hR
 obtain ⟨sf1,sf3,sf16,sf17,hst⟩:=rk hR11 hR
 obtain rfl:=so hA8
 exact rj hR8 ⟨sf1,sf3,sf16,sf17,hst⟩
 intro f w_ hR
 obtain ⟨sf1,sf3,sf16,sf17,hst⟩:=rk hR8 hR
 refine W_cond (b:=t17_7) sf17 (fun hc16=>?_) (fun hc16=>?_)
 have hF:=(ite_t hc16).symm.trans hF
 refine sq (mF sf3 rfl (aB rfl (nn (W_ret (retG1 (v1:=Bo (((s.given.terms.length : Int) == 0) && (s.given.bound == 0))) Tryz.results33 rfl ?_)))))
 obtain rfl:=so hF
 exact ⟨rfl,(Star.keepN 0 hst)⟩
 have hF:=(ite_f hc16).symm.trans hF
 refine W_seq (sq (L_eql rfl sf16 rfl (aB rfl (nn ?_))))
 obtain ⟨t23_17,hA18,hF⟩:=bind_some hF
 obtain ⟨R18,hR18⟩:=exR fun f w_=>f 1 = Pt g3∧f 3 = Bo (((s.given.terms.length : Int) == 0) && (s.given.bound == 0))∧f 16 = I s.kind∧f 23 = Bo t23_17∧Star H w_ ([box g3 56 #[I s.kind,I s.a,I s.b,v0_3,I s.given.bound]])
 refine W_join R18 ?_ ?_
 refine W_cond (b:=(s.kind == 4)) rfl (fun hc19=>?_) (fun hc19=>?_)
 have hA18:=(ite_t hc19).symm.trans hA18
 refine W_skip ?_
 obtain rfl:=so hA18
 exact rj hR18 ⟨sf1,sf3,sf16,rfl,hst⟩
 have hA18:=(ite_f hc19).symm.trans hA18
 refine sq (L_eql rfl sf16 rfl (aB rfl (nn ?_)))
 obtain ⟨t23_20,hA21,hA18⟩:=bind_some hA18
 obtain ⟨R21,hR21⟩:=exR fun f w_=>f 1 = Pt g3∧f 3 = Bo (((s.given.terms.length : Int) == 0) && (s.given.bound == 0))∧f 16 = I s.kind∧f 23 = Bo t23_20∧Star H w_ ([box g3 56 #[I s.kind,I s.a,I s.b,v0_3,I s.given.bound]])
 refine W_join R21 ?_ ?_
 refine W_cond (b:=(s.kind == 6)) rfl (fun hc22=>?_) (fun hc22=>?_)
 have hA21:=(ite_t hc22).symm.trans hA21
 refine W_skip ?_
 obtain rfl:=so hA21
 exact rj hR21 ⟨sf1,sf3,sf16,rfl,hst⟩
 have hA21:=(ite_f hc22).symm.trans hA21
 refine W_region (L_eql rfl sf16 rfl (aB rfl (nn ?_)))
 obtain rfl:=so hA21
 exact rj hR21 ⟨sf1,sf3,sf16,rfl,hst⟩
 intro f w_ hR
 obtain ⟨sf1,sf3,sf16,sf23,hst⟩:=rk hR21 hR
 obtain rfl:=so hA18
 exact rj hR18 ⟨sf1,sf3,sf16,sf23,hst⟩
 intro f w_ hR
 obtain ⟨sf1,sf3,sf16,sf23,hst⟩:=rk hR18 hR
 refine W_cond (b:=t23_17) sf23 (fun hc23=>?_) (fun hc23=>?_)
 have hF:=(ite_t hc23).symm.trans hF
 refine W_seq ?_
 obtain ⟨R24,hR24⟩:=exR fun f w_=>f 2 = Bo ((((s.given.terms.length : Int) == 0) && (s.given.bound == 0)) && (s.b == 0))∧Star H w_ ([])
 refine W_join R24 ?_ ?_
 refine W_region (mF sf3 rfl (mB rfl (L_split (d:=28) (b:=(((s.given.terms.length : Int) == 0) && (s.given.bound == 0))) rfl (fun hc25=>?_) (fun hc25=>?_))))
 refine fA 2 fa_56_2 sf1 rfl (ldB 0 hst Tryz.isAgg3 rfl rfl rfl (L_eql rfl rfl rfl (L_pick (v:=Bo ((((s.given.terms.length : Int) == 0) && (s.given.bound == 0)) && (s.b == 0))) rfl rfl (and_t hc25 rfl) (aB rfl (nn (rj hR24 ⟨rfl,(Star.keepN 0 hst)⟩))))))
 refine ps rfl (ps rfl (ps rfl (L_pick (v:=Bo ((((s.given.terms.length : Int) == 0) && (s.given.bound == 0)) && (s.b == 0))) rfl rfl (and_f hc25) (aB rfl (nn (rj hR24 ⟨rfl,(Star.keepN 0 hst)⟩))))))
 intro f w_ hR
 obtain ⟨sf2,hst⟩:=rk hR24 hR
 refine W_ret (retG1 (v1:=Bo ((((s.given.terms.length : Int) == 0) && (s.given.bound == 0)) && (s.b == 0))) Tryz.results33 sf2 ?_)
 obtain rfl:=so hF
 exact ⟨rfl,hst⟩
 have hF:=(ite_f hc23).symm.trans hF
 refine sq (L_eql rfl sf16 rfl (aB rfl (nn (W_cond (b:=(s.kind == 7)) rfl (fun hc26=>?_) (fun hc26=>?_)))))
 have hF:=(ite_t hc26).symm.trans hF
 refine W_seq ?_
 obtain ⟨R27,hR27⟩:=exR fun f w_=>f 2 = Bo ((s.a == 0) && (s.b == 0))∧Star H w_ ([])
 refine W_join R27 ?_ ?_
 refine W_region (fA 1 fa_56_1 sf1 rfl (ldB 0 hst Tryz.isAgg3 rfl rfl rfl (L_eql rfl rfl rfl (mB rfl (L_split (d:=38) (b:=(s.a == 0)) rfl (fun hc28=>?_) (fun hc28=>?_))))))
 refine fA 2 fa_56_2 sf1 rfl (ldB 0 hst Tryz.isAgg3 rfl rfl rfl (L_eql rfl rfl rfl (L_pick (v:=Bo ((s.a == 0) && (s.b == 0))) rfl rfl (and_t hc28 rfl) (aB rfl (nn (rj hR27 ⟨rfl,(Star.keepN 0 hst)⟩))))))
 refine ps rfl (ps rfl (ps rfl (L_pick (v:=Bo ((s.a == 0) && (s.b == 0))) rfl rfl (and_f hc28) (aB rfl (nn (rj hR27 ⟨rfl,(Star.keepN 0 hst)⟩))))))
 intro f w_ hR
 obtain ⟨sf2,hst⟩:=rk hR27 hR
 refine W_ret (retG1 (v1:=Bo ((s.a == 0) && (s.b == 0))) Tryz.results33 sf2 ?_)
 obtain rfl:=so hF
 exact ⟨rfl,hst⟩
 have hF:=(ite_f hc26).symm.trans hF
 refine W_skip (sq (aB rfl (nn (W_ret (retG1 (v1:=Bo false) Tryz.results33 rfl ?_)))))
 obtain rfl:=so hF
 exact ⟨rfl,(Star.keepN 0 hst)⟩
theorem s_l4Live_c {d : Db} {k : Int} {v0_0 : Value} {v0_1 : Value} {H : FH} {w : World} (hst : Star H w []) (h0_0 : (rS 54 (rCon 83)).rel H [v0_0] d.list) (h0_1 : (rS 4 RP.bool).rel H [v0_1] d.gone) {r : Bool} (hF : s_l4Live d k = some r) :
 C Tryz.prog 34 #[.agg #[v0_0,v0_1],I k] w fun v w'=>v = Bo r∧Star H w' []:=by
 unfold s_l4Live at hF
 refine C_enter Tryz.func34 rfl Tryz.ntmps34 rfl (sq (L_box (v:=.agg #[v0_0,v0_1]) (cs:=#[v0_0,v0_1]) rfl rfl rfl hst (fun g3 w4 hst=>aB rfl (nq ?_))))
 obtain ⟨b10,hb10,hF⟩:=bind_some hF
 obtain ⟨R11,hR11⟩:=exR fun f w_=>f 4 = Bo b10∧Star H w_ ([])
 refine W_join R11 ?_ ?_
 refine W_region (mI rfl (L_geq rfl rfl rfl (mB rfl (L_split (d:=7) (b:=decide (k ≥ 0)) rfl (fun hc12=>?_) (fun hc12=>?_)))))
 refine mI rfl (fA 0 fa_47_0 rfl rfl (ldB 0 hst Tryz.isAgg29 rfl rfl rfl (L_len rfl Tryz.underlying29 rfl (slice_len h0_0) (L_lss rfl rfl rfl (L_pick (v:=Bo ((decide (k ≥ 0)) && (decide (k < (d.list.length : Int))))) rfl rfl (and_t hc12 rfl) (mB rfl (L_split (d:=14) (b:=((decide (k ≥ 0)) && (decide (k < (d.list.length : Int))))) rfl (fun hc13=>?_) (fun hc13=>?_))))))))
 rw [ite_t hc13] at hb10
 obtain ⟨x5,hx5,hb10⟩:=bind_some hb10
 refine fA 1 fa_47_1 rfl rfl (ldB 0 hst Tryz.isAgg45 rfl rfl rfl (mI rfl (L_ix (r:=RP.bool) rfl Tryz.underlying45 Tryz.sizeOf4 rfl h0_1 rfl hx5 (fun g14 o15 cs_g14 hrk_hat16 hat16=>?_))))
 obtain rfl : _ = [_]:=hrk_hat16
 refine L_ld rfl Tryz.isAgg4 rfl (At.cell (AtH.at hat16 hst.sub) (j:=0) rfl) (L_not_ rfl rfl (L_pick (v:=Bo b10) rfl rfl (congrArg Value.bool (so hb10)) (aB rfl (nn (rj hR11 ⟨rfl,(Star.keepN 0 hst)⟩)))))
 rw [ite_f hc13] at hb10
 refine ps rfl (ps rfl (ps rfl (ps rfl (ps rfl (ps rfl (L_pick (v:=Bo b10) rfl rfl (congrArg Value.bool (so hb10)) (aB rfl (nn (rj hR11 ⟨rfl,(Star.keepN 0 hst)⟩)))))))))
 refine ps rfl (ps rfl (ps rfl (ps rfl (ps rfl (L_pick (v:=Bo ((decide (k ≥ 0)) && (decide (k < (d.list.length : Int))))) rfl rfl (and_f hc12) (mB rfl (L_split (d:=14) (b:=((decide (k ≥ 0)) && (decide (k < (d.list.length : Int))))) rfl (fun hc18=>?_) (fun hc18=>?_))))))))
 rw [ite_t hc18] at hb10
 obtain ⟨x5,hx5,hb10⟩:=bind_some hb10
 refine fA 1 fa_47_1 rfl rfl (ldB 0 hst Tryz.isAgg45 rfl rfl rfl (mI rfl (L_ix (r:=RP.bool) rfl Tryz.underlying45 Tryz.sizeOf4 rfl h0_1 rfl hx5 (fun g19 o20 cs_g19 hrk_hat21 hat21=>?_))))
 obtain rfl : _ = [_]:=hrk_hat21
 refine L_ld rfl Tryz.isAgg4 rfl (At.cell (AtH.at hat21 hst.sub) (j:=0) rfl) (L_not_ rfl rfl (L_pick (v:=Bo b10) rfl rfl (congrArg Value.bool (so hb10)) (aB rfl (nn (rj hR11 ⟨rfl,(Star.keepN 0 hst)⟩)))))
 rw [ite_f hc18] at hb10
 refine ps rfl (ps rfl (ps rfl (ps rfl (ps rfl (ps rfl (L_pick (v:=Bo b10) rfl rfl (congrArg Value.bool (so hb10)) (aB rfl (nn (rj hR11 ⟨rfl,(Star.keepN 0 hst)⟩)))))))))
 intro f w_ hR
 obtain ⟨sf4,hst⟩:=rk hR11 hR
 refine W_ret (retG1 (v1:=Bo b10) Tryz.results34 sf4 ?_)
 obtain rfl:=so hF
 exact ⟨rfl,hst⟩
theorem s_l1Copy_c {c : Con} {v0_0 : Value} {H : FH} {w : World} (hst : Star H w []) (h0_0 : (rS 83 rTerm).rel H [v0_0] c.terms) {r : Con} (hF : s_l1Copy c = some r) :
 C Tryz.prog 21 #[.agg #[v0_0,I c.bound]] w fun v w'=>∃ (u1 : Value),v = .agg #[u1,I r.bound]∧Star H w' [oF 83 rTerm u1 r.terms]:=by
 unfold s_l1Copy at hF
 refine C_enter Tryz.func21 rfl Tryz.ntmps21 rfl (sq (L_box (v:=.agg #[v0_0,I c.bound]) (cs:=#[v0_0,I c.bound]) rfl rfl rfl hst (fun g5 w6 hst=>L_al (cs:=#[S0,I 0]) rfl Tryz.zeroValue54 rfl hst (fun g7 w8 hst=>nq ?_))))
 obtain ⟨x12,hx12,hF⟩:=bind_some hF
 refine W_drawS 6 [anyF,isV (Pt g5),isV (v0_0),anyF,isV (Pq g5 1),isV (I c.bound)] [box g7 54 #[S0,I 0],box g5 54 #[v0_0,I c.bound]] [.made 0 3 (fun v_=>oF 83 rTerm v_ ([])) (some 3),.made 3 6 (fun v_=>oF 83 rTerm v_ x12) none] ([]) [([],[0]),([],[]),([],[]),([0],[1]),([],[]),([],[])] (S:=[(some 0,[3],some 3),(some 3,[6],none)]) Tryz_mix (by kernel_rfl) rfl (by kernel_rfl) (amF_cons (mono_any) (amF_cons (mono_V _) (amF_cons (mono_V _) (amF_cons (mono_any) (amF_cons (mono_V _) (amF_cons (mono_V _) amF_nil)))))) hst ?_ (fun f w_ H17 hS17 hE17 hT17 hst=>?_)
 refine opsS_cons ?_ ?_
 intro f w_ H17 X17 hS17 hE17 hP17 hst
 refine L_bs rfl parts0 (bs_52_0  ) hst (fun g24 w25 hst=>?_)
 have hst:=Star.mkRow (R:=(OR.frz rTerm)) [] [] 0 hst rfl rfl rfl (by decide)
 have hst:=hst.gets [2,2] rfl
 exact L_nil ⟨rfl,_,_,rfl,Le.refl _,fun _ _=>trivial,hst⟩
 refine opsS_cons (fun f w_ _ _ s _ _ hst=>fA 0 fa_54_0 ((s 1 rfl).trans rfl) rfl (nO rfl rfl hst)) (opsS_cons (fun f w_ _ _ _ _ p hst=>ldB 1 hst Tryz.isAgg52 (p 1 4 rfl rfl) rfl rfl (nO rfl rfl hst)) (opsS_cons ?_ ?_))
 intro f w_ H17 X17 hS17 hE17 hP17 hst
 have hst : Star H17 w_ (box g7 54 #[S0,I 0] :: box g5 54 #[v0_0,I c.bound] :: oF 83 rTerm (f 3) ([]) :: X17):=hst
 have hst:=hst.get 2 rfl
 refine L_app (v:=(f 3)) (u:=v0_0) rfl et_52 rfl (hP17 2 5 rfl rfl) hst (RP.mono _ h0_0 hE17) hx12 (fun v28 w29 hst=>?_)
 have hst:=hst.gets [2,2] rfl
 exact L_nil ⟨rfl,_,_,rfl,Le.refl _,fun _ _=>trivial,hst⟩
 refine opsS_cons (fun f w_ _ _ s _ _ hst=>fA 1 fa_54_1 ((s 1 rfl).trans rfl) rfl (nO rfl rfl hst)) (opsS_cons (fun f w_ _ _ _ _ p hst=>ldB 1 hst Tryz.isAgg3 (p 4 7 rfl rfl) rfl rfl (nO rfl rfl hst)) (opsS_nil))
 have hst : Star H17 w_ ([box g7 54 #[S0,I 0],box g5 54 #[v0_0,I c.bound],oF 83 rTerm (f 6) x12]):=hst
 refine L_bld rfl (parts2 rfl (hT17 5 8 rfl rfl)) (bld_54_0_1 ((f 6)) (I c.bound) (one_len (Star.len 2 hst rfl)) rfl) (L_staB (vs:=#[(f 6),I c.bound]) (cs2:=#[(f 6),I c.bound]) 0 rfl Tryz.sizeOf54 ((hS17 2 rfl).trans rfl) rfl rfl (ones_cons (one_len (Star.len 2 hst rfl)) (ones_cons rfl ones_nil)) hst rfl (by show 0 + 2≤2; decide) rfl (fun w32 hst=>nn (W_ret (retG1 (v1:=.agg #[(f 6),I c.bound]) Tryz.results21 (resV_agg Tryz.isAgg54 Tryz.sizeOf54 ((hS17 2 rfl).trans rfl) (Star.blkAt 0 hst rfl) rfl) ?_))))
 obtain rfl:=so hF
 have hst:=hst.get 2 rfl
 exact ⟨(f 6),rfl,(Star.down (Star.keepN 1 hst) hE17 (co closed_term c0))⟩
theorem s_l1Lit_c {n_ : Int} {H : FH} {w : World} (hst : Star H w []) {r : Bool} (hF : s_l1Lit n_ = some r) :
 C Tryz.prog 56 #[I n_] w fun v w'=>v = Bo r∧Star H w' []:=by
 unfold s_l1Lit at hF
 refine C_enter Tryz.func56 rfl Tryz.ntmps56 rfl (sq (aB rfl (nq ?_)))
 obtain ⟨R1,hR1⟩:=exR fun f w_=>f 2 = Bo (((n_ != 0) && (decide (n_ ≥ (-12)))) && (decide (n_≤12)))∧Star H w_ ([])
 refine W_join R1 ?_ ?_
 refine W_region (mI rfl (L_neq rfl rfl rfl (mB rfl (L_split (d:=5) (b:=(n_ != 0)) rfl (fun hc2=>?_) (fun hc2=>?_)))))
 refine mI rfl (L_geq rfl rfl rfl (L_pick (v:=Bo ((n_ != 0) && (decide (n_ ≥ (-12))))) rfl rfl (and_t hc2 rfl) (mB rfl (L_split (d:=9) (b:=((n_ != 0) && (decide (n_ ≥ (-12))))) rfl (fun hc3=>?_) (fun hc3=>?_)))))
 refine mI rfl (L_leq rfl rfl rfl (L_pick (v:=Bo (((n_ != 0) && (decide (n_ ≥ (-12)))) && (decide (n_≤12)))) rfl rfl (and_t hc3 rfl) (aB rfl (nn (rj hR1 ⟨rfl,hst⟩)))))
 refine ps rfl (ps rfl (L_pick (v:=Bo (((n_ != 0) && (decide (n_ ≥ (-12)))) && (decide (n_≤12)))) rfl rfl (and_f hc3) (aB rfl (nn (rj hR1 ⟨rfl,hst⟩)))))
 refine ps rfl (ps rfl (L_pick (v:=Bo ((n_ != 0) && (decide (n_ ≥ (-12))))) rfl rfl (and_f hc2) (mB rfl (L_split (d:=9) (b:=((n_ != 0) && (decide (n_ ≥ (-12))))) rfl (fun hc4=>?_) (fun hc4=>?_)))))
 refine mI rfl (L_leq rfl rfl rfl (L_pick (v:=Bo (((n_ != 0) && (decide (n_ ≥ (-12)))) && (decide (n_≤12)))) rfl rfl (and_t hc4 rfl) (aB rfl (nn (rj hR1 ⟨rfl,hst⟩)))))
 refine ps rfl (ps rfl (L_pick (v:=Bo (((n_ != 0) && (decide (n_ ≥ (-12)))) && (decide (n_≤12)))) rfl rfl (and_f hc4) (aB rfl (nn (rj hR1 ⟨rfl,hst⟩)))))
 intro f w_ hR
 obtain ⟨sf2,hst⟩:=rk hR1 hR
 refine W_ret (retG1 (v1:=Bo (((n_ != 0) && (decide (n_ ≥ (-12)))) && (decide (n_≤12)))) Tryz.results56 sf2 ?_)
 obtain rfl:=so hF
 exact ⟨rfl,hst⟩
theorem s_LiteralAxiom_c {lit : Int} {H : FH} {w : World} (hst : Star H w []) {r : Con × Bool} (hF : s_LiteralAxiom lit = some r) :
 C Tryz.prog 42 #[I lit] w fun v w'=>∃ (u1 : Value),v = .tuple #[.agg #[u1,I r.1.bound],Bo r.2]∧Star H w' [oF 83 rTerm u1 r.1.terms]:=by
 unfold s_LiteralAxiom at hF
 refine C_enter Tryz.func42 rfl Tryz.ntmps42 rfl (sq (L_al (cs:=#[S0,I 0]) rfl Tryz.zeroValue54 rfl hst (fun g3 w4 hst=>aB rfl (nq (W_seq ?_)))))
 obtain ⟨x10,hx10,hF⟩:=bind_some hF
 refine W_region (mI rfl ?_)
 obtain ⟨H12b,l13,s14,z15,k16⟩:=hst.borrow
 refine L_call rfl Tryz.call56 (ops1 rfl) (s_l1Lit_c (n_:=lit) s14 hx10) ?_
 rintro _ w17 ⟨rfl,hst⟩
 have hst:=k16 hst c0
 refine L_not_ rfl rfl (nn (W_cond (b:=(!x10)) rfl (fun hc18=>?_) (fun hc18=>?_)))
 have hF:=(ite_t hc18).symm.trans hF
 refine sq (L_bld rfl (parts0 ) (bld_54_  ) (L_staB (vs:=#[S0,I 0]) (cs2:=#[S0,I 0]) 0 rfl Tryz.sizeOf54 rfl rfl rfl (ones_cons rfl (ones_cons rfl ones_nil)) hst rfl (by show 0 + 2≤2; decide) rfl (fun w20 hst=>aB rfl (nn (W_ret (retG2 (v1:=.agg #[S0,I 0]) (v2:=Bo false) Tryz.results42 (resV_agg Tryz.isAgg54 Tryz.sizeOf54 rfl (Star.blkAt 0 hst rfl) rfl) rfl ?_))))))
 obtain rfl:=so hF
 have hst:=Star.addNil (R:=(OR.frz rTerm)) (e:=83) hst
 exact ⟨S0,rfl,(Star.keepN 1 hst)⟩
 have hF:=(ite_f hc18).symm.trans hF
 refine W_skip (sq (mI rfl (L_bld rfl (parts2 rfl rfl) (bld_83_0_1 (I 1) (I lit) rfl rfl) (L_bs rfl (parts1 rfl) (bs_52_1_2 (I 1) (I lit) ) hst (fun g26 w27 hst=>?_)))))
 have hst:=Star.addF (r:=rTerm) (cs:=[I 1,I lit]) (x:=({ coef:=1,lit:=lit } : Term)) hst (rTerm_iff.2 rfl)
 have hst:=Star.mkRow (R:=(OR.frz rTerm)) [([I 1,I lit],({ coef:=1,lit:=lit } : Term))] [({ coef:=1,lit:=lit } : Term)] 1 hst rfl rfl rfl (by decide)
 refine L_bld rfl (parts1 rfl) (bld_54_0 ((Sl g26 1 1)) (one_len (Star.len 0 hst rfl))) (L_staB (vs:=#[(Sl g26 1 1),I 0]) (cs2:=#[(Sl g26 1 1),I 0]) 1 rfl Tryz.sizeOf54 rfl rfl rfl (ones_cons (one_len (Star.len 0 hst rfl)) (ones_cons rfl ones_nil)) hst rfl (by show 0 + 2≤2; decide) rfl (fun w29 hst=>aB rfl (nn (W_ret (retG2 (v1:=.agg #[(Sl g26 1 1),I 0]) (v2:=Bo true) Tryz.results42 (resV_agg Tryz.isAgg54 Tryz.sizeOf54 rfl (Star.blkAt 0 hst rfl) rfl) rfl ?_)))))
 obtain rfl:=so hF
 have hst:=hst.get 1 rfl
 exact ⟨(Sl g26 1 1),rfl,(Star.keepN 1 hst)⟩
theorem s_l1Abs_c {n_ : Int} {H : FH} {w : World} (hst : Star H w []) {r : Int} (hF : s_l1Abs n_ = some r) :
 C Tryz.prog 57 #[I n_] w fun v w'=>v = I r∧Star H w' []:=by
 unfold s_l1Abs at hF
 refine C_enter Tryz.func57 rfl Tryz.ntmps57 rfl (sq (aI rfl (nq (sq (mI rfl (L_lss rfl rfl rfl (nn (W_cond (b:=decide (n_ < 0)) rfl (fun hc1=>?_) (fun hc1=>?_)))))))))
 have hF:=(ite_t hc1).symm.trans hF
 refine sq (mI rfl (L_neg rfl rfl (aI rfl (nn (W_ret (retG1 (v1:=I (i64 (-n_))) Tryz.results57 rfl ?_))))))
 obtain rfl:=so hF
 exact ⟨rfl,hst⟩
 have hF:=(ite_f hc1).symm.trans hF
 refine W_skip (sq (mI rfl (aI rfl (nn (W_ret (retG1 (v1:=I n_) Tryz.results57 rfl ?_))))))
 obtain rfl:=so hF
 exact ⟨rfl,hst⟩
theorem s_ConstraintValid_c {c : Con} {v0_0 : Value} {H : FH} {w : World} (hst : Star H w []) (h0_0 : (rS 83 rTerm).rel H [v0_0] c.terms) {r : Bool} (hF : s_ConstraintValid c = some r) :
 C Tryz.prog 43 #[.agg #[v0_0,I c.bound]] w fun v w'=>v = Bo r∧Star H w' []:=by
 unfold s_ConstraintValid at hF
 refine C_enter Tryz.func43 rfl Tryz.ntmps43 rfl (sq (L_box (v:=.agg #[v0_0,I c.bound]) (cs:=#[v0_0,I c.bound]) rfl rfl rfl hst (fun g3 w4 hst=>aB rfl (nq (sq (aI rfl (nn ?_)))))))
 have hlen8 : List.length c.terms≤9223372036854775807:=len_le (slice_len h0_0)
 obtain ⟨j8,hL8,hF⟩:=bind_some hF
 obtain ⟨R8,hR8⟩:=exR fun f w_=>∃ H6 : FH,j8 = .nx ()∧Le H H6∧f 1 = Pt g3∧Star H6 w_ ([box g3 54 #[v0_0,I c.bound]])
 refine W_join R8 ?_ ?_
 refine W_block ?_
 obtain ⟨I8,hI8⟩:=exI fun n f w_=>∃ i_5 : Nat,∃ suf8 : List Term,∃ H6 : FH,n = suf8.length∧List.drop i_5 c.terms = suf8∧i_5 + suf8.length = c.terms.length∧rangeL (s_ConstraintValid_b1 c) suf8 i_5 () = some j8∧Le H H6∧f 1 = Pt g3∧f 3 = I i_5∧Star H6 w_ ([box g3 54 #[v0_0,I c.bound]])
 refine W_loop I8 (n:=c.terms.length) ?_ ?_
 exact ij hI8 ⟨0,c.terms,H,rfl,rfl,Nat.zero_add _,hL8,(Le.refl _),rfl,rfl,hst⟩
 intro n8 f w_ hI
 obtain ⟨i_5,suf8,H6,rfl,hd8,hl8,hL8,l7,sf1,sf3,hst⟩:=ik hI8 hI
 refine W_seq (sq (mF sf3 rfl (fA 0 fa_54_0 sf1 rfl (ldB 0 hst Tryz.isAgg52 rfl rfl rfl (L_len rfl Tryz.underlying52 rfl (slice_len (RP.mono _ h0_0 l7)) (L_lss rfl rfl rfl (nn (W_cond (b:=decide ((i_5 : Int) < (c.terms.length : Int))) rfl (fun hc9=>?_) (fun hc9=>?_)))))))))
 have hlt8:=of_decide_eq_true hc9
 rcases suf8 with _ | ⟨x_8,rest8⟩
 exact absurd hlt8 (by simp at hl8; omega)
 obtain ⟨o8,hB8,hL8⟩:=range_cons hL8
 rw [s_ConstraintValid_b1] at hB8
 have hix8:=drop_idx hd8
 refine W_skip (W_seq (W_block (sq (fA 0 fa_54_0 sf1 rfl (ldB 0 hst Tryz.isAgg52 rfl rfl rfl (mF sf3 rfl (L_ix (r:=rTerm) rfl Tryz.underlying52 Tryz.sizeOf83 rfl (RP.mono _ h0_0 l7) rfl hix8 (fun g17 o18 cs_g17 hrk_hat19 hat19=>?_))))))))
 obtain rfl:=rTerm_iff.1 hrk_hat19
 refine L_lda (cs:=[I x_8.coef,I x_8.lit]) rfl Tryz.isAgg83 Tryz.sizeOf83 rfl (At.sub (AtH.at hat19 hst.sub) 0 2) rfl (L_al (cs:=#[I 0,I 0]) rfl Tryz.zeroValue83 rfl hst (fun g21 w22 hst=>L_staB (vs:=#[I x_8.coef,I x_8.lit]) (cs2:=#[I x_8.coef,I x_8.lit]) 0 rfl Tryz.sizeOf83 rfl rfl rfl (ones_cons rfl (ones_cons rfl ones_nil)) hst rfl (by show 0 + 2≤2; decide) rfl (fun w23 hst=>nq ?_)))
 obtain ⟨x29,hx29,hB8⟩:=bind_some hB8
 obtain ⟨b51,hb51,hB8⟩:=bind_some hB8
 obtain ⟨R55,hR55⟩:=exR fun f w_=>∃ H53 : FH,Le H6 H53∧f 1 = Pt g3∧f 3 = I i_5∧f 48 = Bo b51∧Star H53 w_ ([box g3 54 #[v0_0,I c.bound]])
 refine W_join R55 ?_ ?_
 rcases Bool.eq_false_or_eq_true (!x29) with hc56 | hc56
 rcases Bool.eq_false_or_eq_true ((!x29) || (decide (x_8.coef < 1))) with hc57 | hc57
 rcases Bool.eq_false_or_eq_true (((!x29) || (decide (x_8.coef < 1))) || (decide (x_8.coef > 1000))) with hc58 | hc58
 rw [ite_t hc58] at hb51
 refine W_drawS 28 [isV (Pq g21 1),isV (I x_8.lit),isV (Bo x29),isV (Bo (!x29)),isV (Bo (!x29)),isV (undef),isV (undef),isV (undef),isV (Bo ((!x29) || (decide (x_8.coef < 1)))),isV (Bo ((!x29) || (decide (x_8.coef < 1)))),isV (undef),isV (undef),isV (undef),isV (Bo (((!x29) || (decide (x_8.coef < 1))) || (decide (x_8.coef > 1000)))),isV (Bo (((!x29) || (decide (x_8.coef < 1))) || (decide (x_8.coef > 1000)))),isV (undef),isV (undef),isV (undef),isV (undef),isV (undef),isV (undef),isV (undef),isV (undef),isV (undef),isV (undef),isV (undef),isV (undef),isV (undef)] [box g21 83 #[I x_8.coef,I x_8.lit],box g3 54 #[v0_0,I c.bound]] [] ([]) [([],[]),([],[]),([],[]),([],[]),([],[]),([],[]),([],[]),([],[]),([],[]),([],[]),([],[]),([],[]),([],[]),([],[]),([],[]),([],[]),([],[]),([],[]),([],[]),([],[]),([],[]),([],[]),([],[]),([],[]),([],[]),([],[]),([],[]),([],[])] (S:=[]) Tryz_mix (by kernel_rfl) rfl (by kernel_rfl) (amF_cons (mono_V _) (amF_cons (mono_V _) (amF_cons (mono_V _) (amF_cons (mono_V _) (amF_cons (mono_V _) (amF_cons (mono_V _) (amF_cons (mono_V _) (amF_cons (mono_V _) (amF_cons (mono_V _) (amF_cons (mono_V _) (amF_cons (mono_V _) (amF_cons (mono_V _) (amF_cons (mono_V _) (amF_cons (mono_V _) (amF_cons (mono_V _) (amF_cons (mono_V _) (amF_cons (mono_V _) (amF_cons (mono_V _) (amF_cons (mono_V _) (amF_cons (mono_V _) (amF_cons (mono_V _) (amF_cons (mono_V _) (amF_cons (mono_V _) (amF_cons (mono_V _) (amF_cons (mono_V _) (amF_cons (mono_V _) (amF_cons (mono_V _) (amF_cons (mono_V _) amF_nil)))))))))))))))))))))))))))) hst ?_ (fun f w_ H52 hS52 hE52 hT52 hst=>?_)
 refine opsS_cons (fun f w_ _ _ s _ _ hst=>fA 1 fa_83_1 ((s 4 rfl).trans rfl) rfl (nO rfl rfl hst)) (opsS_cons (fun f w_ _ _ _ _ p hst=>ldB 0 hst Tryz.isAgg3 (p 0 17 rfl rfl) rfl rfl (nO rfl rfl hst)) (opsS_cons ?_ ?_))
 intro f w_ H52 X52 hS52 hE52 hP52 hst
 obtain ⟨H65b,l66,s67,z68,k69⟩:=hst.borrow
 refine L_call rfl Tryz.call56 (ops1 (hP52 1 18 rfl rfl)) (s_l1Lit_c (n_:=x_8.lit) s67 hx29) ?_
 rintro _ w70 ⟨rfl,hst⟩
 have hst:=k69 hst c0
 exact L_nil ⟨rfl,_,_,rfl,Le.refl _,fun _ _=>rfl,hst⟩
 refine opsS_cons (fun f w_ _ _ _ _ p hst=>L_not_ rfl (p 2 19 rfl rfl) (nO rfl rfl hst)) (opsS_cons (fun f w_ _ _ _ _ p hst=>mF (p 3 20 rfl rfl) rfl (nO rfl rfl hst)) (oP (fun _ _ p=>gN (p 4 21 rfl rfl) hc56 rfl) (fun _=>rfl) (oP (fun _ _ p=>gN (p 4 21 rfl rfl) hc56 rfl) (fun _=>rfl) (oP (fun _ _ p=>gN (p 4 21 rfl rfl) hc56 rfl) (fun _=>rfl) (opsS_cons (fun f w_ _ _ _ _ p hst=>pkT (v:=Bo ((!x29) || (decide (x_8.coef < 1)))) (p 4 21 rfl rfl) hc56 rfl (or_t hc56) (nO rfl rfl hst)) (opsS_cons (fun f w_ _ _ _ _ p hst=>mF (p 8 25 rfl rfl) rfl (nO rfl rfl hst)) (oP (fun _ _ p=>gN (p 9 26 rfl rfl) hc57 rfl) (fun _=>rfl) (oP (fun _ _ p=>gN (p 9 26 rfl rfl) hc57 rfl) (fun _=>rfl) (oP (fun _ _ p=>gN (p 9 26 rfl rfl) hc57 rfl) (fun _=>rfl) (opsS_cons (fun f w_ _ _ _ _ p hst=>pkT (v:=Bo (((!x29) || (decide (x_8.coef < 1))) || (decide (x_8.coef > 1000)))) (p 9 26 rfl rfl) hc57 rfl (or_t hc57) (nO rfl rfl hst)) (opsS_cons (fun f w_ _ _ _ _ p hst=>mF (p 13 30 rfl rfl) rfl (nO rfl rfl hst)) (oP (fun _ _ p=>gN (p 14 31 rfl rfl) hc58 rfl) (fun _=>rfl) (oP (fun _ _ p=>gN (p 14 31 rfl rfl) hc58 rfl) (fun _=>rfl) (oP (fun _ _ p=>gN (p 14 31 rfl rfl) hc58 rfl) (fun _=>rfl) (oP (fun _ _ p=>g_undef rfl (p 17 34 rfl rfl) rfl) (fun _=>rfl) (oP (fun _ _ p=>g_undef rfl (p 17 34 rfl rfl) rfl) (fun _=>rfl) (oP (fun _ _ p=>g_undef rfl (p 17 34 rfl rfl) rfl) (fun _=>rfl) (oP (fun _ _ p=>g_undef rfl (p 17 34 rfl rfl) rfl) (fun _=>rfl) (oP (fun _ _ p=>g_undef rfl (p 17 34 rfl rfl) rfl) (fun _=>rfl) (oP (fun _ _ p=>g_undef rfl (p 17 34 rfl rfl) rfl) (fun _=>rfl) (oP (fun _ _ p=>g_undef rfl (p 17 34 rfl rfl) rfl) (fun _=>rfl) (oP (fun _ _ p=>g_undef rfl (p 17 34 rfl rfl) rfl) (fun _=>rfl) (oP (fun _ _ p=>g_undef rfl (p 17 34 rfl rfl) rfl) (fun _=>rfl) (oP (fun _ _ p=>g_undef rfl (p 17 34 rfl rfl) rfl) (fun _=>rfl) (opsS_nil)))))))))))))))))))))))))
 refine ps (g_undef rfl (hT52 17 34 rfl rfl) rfl) (ps (g_undef rfl (hT52 17 34 rfl rfl) rfl) (ps (g_no rfl (Eq.trans (hT52 14 31 rfl rfl) (congrArg Value.bool hc58)) rfl rfl) (L_pick (v:=Bo b51) rfl (Eq.trans (hT52 14 31 rfl rfl) (congrArg Value.bool hc58)) (congrArg Value.bool (so hb51)) (nn ?_))))
 have hst:=hst.get 1 rfl
 exact rj hR55 ⟨H52,hE52,((hS52 1 rfl).trans sf1),((hS52 3 rfl).trans sf3),rfl,(Star.keepN 1 hst)⟩
 rw [ite_f hc58] at hb51
 obtain ⟨b50,hb50,hb51⟩:=bind_some hb51
 rcases Bool.eq_false_or_eq_true (decide ((i_5 : Int) > 0)) with hc71 | hc71
 rw [ite_t hc71] at hb50
 obtain ⟨x31,hx31,hb50⟩:=bind_some hb50
 obtain ⟨x41,hx41,hb50⟩:=bind_some hb50
 obtain ⟨x48,hx48,hb50⟩:=bind_some hb50
 refine W_drawS 28 [isV (Pq g21 1),isV (I x_8.lit),isV (Bo x29),isV (Bo (!x29)),isV (Bo (!x29)),isV (undef),isV (undef),isV (undef),isV (Bo ((!x29) || (decide (x_8.coef < 1)))),isV (Bo ((!x29) || (decide (x_8.coef < 1)))),isV (undef),isV (undef),isV (undef),isV (Bo (((!x29) || (decide (x_8.coef < 1))) || (decide (x_8.coef > 1000)))),isV (Bo (((!x29) || (decide (x_8.coef < 1))) || (decide (x_8.coef > 1000)))),isV (I i_5),isV (Bo (decide ((i_5 : Int) > 0))),isV (Bo (decide ((i_5 : Int) > 0))),isV (Pt g3),isV (v0_0),isV (I i_5),isV (I (i64 ((i_5 : Int) - 1))),isEl rTerm x31 0,isEl rTerm x31 1,isV (I x31.lit),isV (I x41),isV (Pq g21 1),isV (I x_8.lit)] [box g21 83 #[I x_8.coef,I x_8.lit],box g3 54 #[v0_0,I c.bound]] [] ([]) [([],[]),([],[]),([],[]),([],[]),([],[]),([],[]),([],[]),([],[]),([],[]),([],[]),([],[]),([],[]),([],[]),([],[]),([],[]),([],[]),([],[]),([],[]),([],[]),([],[]),([],[]),([],[]),([],[]),([],[]),([],[]),([],[]),([],[]),([],[])] (S:=[]) Tryz_mix (by kernel_rfl) rfl (by kernel_rfl) (amF_cons (mono_V _) (amF_cons (mono_V _) (amF_cons (mono_V _) (amF_cons (mono_V _) (amF_cons (mono_V _) (amF_cons (mono_V _) (amF_cons (mono_V _) (amF_cons (mono_V _) (amF_cons (mono_V _) (amF_cons (mono_V _) (amF_cons (mono_V _) (amF_cons (mono_V _) (amF_cons (mono_V _) (amF_cons (mono_V _) (amF_cons (mono_V _) (amF_cons (mono_V _) (amF_cons (mono_V _) (amF_cons (mono_V _) (amF_cons (mono_V _) (amF_cons (mono_V _) (amF_cons (mono_V _) (amF_cons (mono_V _) (amF_cons (mono_el _ _ _) (amF_cons (mono_el _ _ _) (amF_cons (mono_V _) (amF_cons (mono_V _) (amF_cons (mono_V _) (amF_cons (mono_V _) amF_nil)))))))))))))))))))))))))))) hst ?_ (fun f w_ H52 hS52 hE52 hT52 hst=>?_)
 refine opsS_cons (fun f w_ _ _ s _ _ hst=>fA 1 fa_83_1 ((s 4 rfl).trans rfl) rfl (nO rfl rfl hst)) (opsS_cons (fun f w_ _ _ _ _ p hst=>ldB 0 hst Tryz.isAgg3 (p 0 17 rfl rfl) rfl rfl (nO rfl rfl hst)) (opsS_cons ?_ ?_))
 intro f w_ H52 X52 hS52 hE52 hP52 hst
 obtain ⟨H88b,l89,s90,z91,k92⟩:=hst.borrow
 refine L_call rfl Tryz.call56 (ops1 (hP52 1 18 rfl rfl)) (s_l1Lit_c (n_:=x_8.lit) s90 hx29) ?_
 rintro _ w93 ⟨rfl,hst⟩
 have hst:=k92 hst c0
 exact L_nil ⟨rfl,_,_,rfl,Le.refl _,fun _ _=>rfl,hst⟩
 refine opsS_cons (fun f w_ _ _ _ _ p hst=>L_not_ rfl (p 2 19 rfl rfl) (nO rfl rfl hst)) (opsS_cons (fun f w_ _ _ _ _ p hst=>mF (p 3 20 rfl rfl) rfl (nO rfl rfl hst)) (oP (fun _ _ p=>gN (p 4 21 rfl rfl) hc56 rfl) (fun _=>rfl) (oP (fun _ _ p=>gN (p 4 21 rfl rfl) hc56 rfl) (fun _=>rfl) (oP (fun _ _ p=>gN (p 4 21 rfl rfl) hc56 rfl) (fun _=>rfl) (opsS_cons (fun f w_ _ _ _ _ p hst=>pkT (v:=Bo ((!x29) || (decide (x_8.coef < 1)))) (p 4 21 rfl rfl) hc56 rfl (or_t hc56) (nO rfl rfl hst)) (opsS_cons (fun f w_ _ _ _ _ p hst=>mF (p 8 25 rfl rfl) rfl (nO rfl rfl hst)) (oP (fun _ _ p=>gN (p 9 26 rfl rfl) hc57 rfl) (fun _=>rfl) (oP (fun _ _ p=>gN (p 9 26 rfl rfl) hc57 rfl) (fun _=>rfl) (oP (fun _ _ p=>gN (p 9 26 rfl rfl) hc57 rfl) (fun _=>rfl) (opsS_cons (fun f w_ _ _ _ _ p hst=>pkT (v:=Bo (((!x29) || (decide (x_8.coef < 1))) || (decide (x_8.coef > 1000)))) (p 9 26 rfl rfl) hc57 rfl (or_t hc57) (nO rfl rfl hst)) (opsS_cons (fun f w_ _ _ _ _ p hst=>mF (p 13 30 rfl rfl) rfl (nO rfl rfl hst)) (opsS_cons (fun f w_ _ _ s _ p hst=>L_mv (v:=I i_5) (g_yes rfl (Eq.trans (p 14 31 rfl rfl) (congrArg Value.bool hc58)) rfl) ((s 3 rfl).trans sf3) (nO rfl rfl hst)) (opsS_cons (fun f w_ _ _ _ _ p hst=>L_gtr (g_yes rfl (Eq.trans (p 14 31 rfl rfl) (congrArg Value.bool hc58)) rfl) (p 15 32 rfl rfl) rfl (nO rfl rfl hst)) (opsS_cons (fun f w_ _ _ _ _ p hst=>L_mv (v:=Bo (decide ((i_5 : Int) > 0))) (g_yes rfl (Eq.trans (p 14 31 rfl rfl) (congrArg Value.bool hc58)) rfl) (p 16 33 rfl rfl) (nO rfl rfl hst)) (opsS_cons (fun f w_ _ _ s _ p hst=>L_fa (o':=0) (g_yes rfl (Eq.trans (p 17 34 rfl rfl) (congrArg Value.bool hc71)) rfl) fa_54_0 ((s 1 rfl).trans sf1) rfl (nO rfl rfl hst)) (opsS_cons (fun f w_ _ _ _ _ p hst=>L_ld (v:=v0_0) (g_yes rfl (Eq.trans (p 17 34 rfl rfl) (congrArg Value.bool hc71)) rfl) Tryz.isAgg52 (p 18 35 rfl rfl) (At.cell0 (Blk.at (Star.blkAt 1 hst rfl)) (j:=0) rfl) (nO rfl rfl hst)) (opsS_cons (fun f w_ _ _ s _ p hst=>L_mv (v:=I i_5) (g_yes rfl (Eq.trans (p 17 34 rfl rfl) (congrArg Value.bool hc71)) rfl) ((s 3 rfl).trans sf3) (nO rfl rfl hst)) (opsS_cons (fun f w_ _ _ _ _ p hst=>L_sub (g_yes rfl (Eq.trans (p 17 34 rfl rfl) (congrArg Value.bool hc71)) rfl) (p 20 37 rfl rfl) rfl (nO rfl rfl hst)) (opsS_cons ?_ ?_)))))))))))))))))))
 intro f w_ H52 X52 hS52 hE52 hP52 hst
 refine L_ix (r:=rTerm) (g_yes rfl (Eq.trans (hP52 17 34 rfl rfl) (congrArg Value.bool hc71)) rfl) Tryz.underlying52 Tryz.sizeOf83 (hP52 19 36 rfl rfl) (RP.mono _ h0_0 (Le.trans l7 hE52)) (hP52 21 38 rfl rfl) hx31 (fun g94 o95 cs_g94 hrk_hat96 hat96=>?_)
 obtain rfl:=rTerm_iff.1 hrk_hat96
 exact L_nil ⟨rfl,_,_,rfl,Le.refl _,fun _ _=>⟨_,_,_,rfl,hrk_hat96,hat96⟩,hst⟩
 refine opsS_cons ?_ ?_
 intro f w_ H52 X52 hS52 hE52 hP52 hst
 obtain ⟨g98,o98,cs98,hv98,hrk_hat98,hat98⟩:=(hP52 22 39 rfl rfl)
 obtain rfl:=rTerm_iff.1 hrk_hat98
 refine L_fa (o':=o98 + 1) (g_yes rfl (Eq.trans (hP52 17 34 rfl rfl) (congrArg Value.bool hc71)) rfl) fa_83_1 hv98 rfl (L_nil ⟨rfl,_,_,rfl,Le.refl _,fun _ _=>⟨_,_,_,rfl,hrk_hat98,hat98⟩,hst⟩)
 refine opsS_cons ?_ ?_
 intro f w_ H52 X52 hS52 hE52 hP52 hst
 obtain ⟨g100,o100,cs100,hv100,hrk_hat100,hat100⟩:=(hP52 23 40 rfl rfl)
 obtain rfl:=rTerm_iff.1 hrk_hat100
 refine L_ld (v:=I x31.lit) (g_yes rfl (Eq.trans (hP52 17 34 rfl rfl) (congrArg Value.bool hc71)) rfl) Tryz.isAgg3 hv100 (At.cell (AtH.at hat100 hst.sub) (j:=1) rfl) (L_nil ⟨rfl,_,_,rfl,Le.refl _,fun _ _=>rfl,hst⟩)
 refine opsS_cons ?_ ?_
 intro f w_ H52 X52 hS52 hE52 hP52 hst
 obtain ⟨H102b,l103,s104,z105,k106⟩:=hst.borrow
 refine L_call (g_yes rfl (Eq.trans (hP52 17 34 rfl rfl) (congrArg Value.bool hc71)) rfl) Tryz.call57 (ops1 (hP52 24 41 rfl rfl)) (s_l1Abs_c (n_:=x31.lit) s104 hx41) ?_
 rintro _ w107 ⟨rfl,hst⟩
 have hst:=k106 hst c0
 exact L_nil ⟨rfl,_,_,rfl,Le.refl _,fun _ _=>rfl,hst⟩
 refine opsS_cons (fun f w_ _ _ s _ p hst=>L_fa (o':=1) (g_yes rfl (Eq.trans (p 17 34 rfl rfl) (congrArg Value.bool hc71)) rfl) fa_83_1 ((s 4 rfl).trans rfl) rfl (nO rfl rfl hst)) (opsS_cons (fun f w_ _ _ _ _ p hst=>L_ld (v:=I x_8.lit) (g_yes rfl (Eq.trans (p 17 34 rfl rfl) (congrArg Value.bool hc71)) rfl) Tryz.isAgg3 (p 26 43 rfl rfl) (At.cell0 (Blk.at (Star.blkAt 0 hst rfl)) (j:=1) rfl) (nO rfl rfl hst)) (opsS_nil))
 obtain ⟨H108b,l109,s110,z111,k112⟩:=hst.borrow
 refine L_call (g_yes rfl (Eq.trans (hT52 17 34 rfl rfl) (congrArg Value.bool hc71)) rfl) Tryz.call57 (ops1 (hT52 27 44 rfl rfl)) (s_l1Abs_c (n_:=x_8.lit) s110 hx48) ?_
 rintro _ w113 ⟨rfl,hst⟩
 have hst:=k112 hst c0
 refine L_geq (g_yes rfl (Eq.trans (hT52 17 34 rfl rfl) (congrArg Value.bool hc71)) rfl) (hT52 25 42 rfl rfl) rfl (L_pick (v:=Bo b50) (g_yes rfl (Eq.trans (hT52 14 31 rfl rfl) (congrArg Value.bool hc58)) rfl) (Eq.trans (hT52 17 34 rfl rfl) (congrArg Value.bool hc71)) (congrArg Value.bool (so hb50)) (L_pick (v:=Bo b51) rfl (Eq.trans (hT52 14 31 rfl rfl) (congrArg Value.bool hc58)) (congrArg Value.bool (so hb51)) (nn ?_)))
 have hst:=hst.get 1 rfl
 exact rj hR55 ⟨H52,hE52,((hS52 1 rfl).trans sf1),((hS52 3 rfl).trans sf3),rfl,(Star.keepN 1 hst)⟩
 rw [ite_f hc71] at hb50
 refine W_drawS 28 [isV (Pq g21 1),isV (I x_8.lit),isV (Bo x29),isV (Bo (!x29)),isV (Bo (!x29)),isV (undef),isV (undef),isV (undef),isV (Bo ((!x29) || (decide (x_8.coef < 1)))),isV (Bo ((!x29) || (decide (x_8.coef < 1)))),isV (undef),isV (undef),isV (undef),isV (Bo (((!x29) || (decide (x_8.coef < 1))) || (decide (x_8.coef > 1000)))),isV (Bo (((!x29) || (decide (x_8.coef < 1))) || (decide (x_8.coef > 1000)))),isV (I i_5),isV (Bo (decide ((i_5 : Int) > 0))),isV (Bo (decide ((i_5 : Int) > 0))),isV (undef),isV (undef),isV (undef),isV (undef),isV (undef),isV (undef),isV (undef),isV (undef),isV (undef),isV (undef)] [box g21 83 #[I x_8.coef,I x_8.lit],box g3 54 #[v0_0,I c.bound]] [] ([]) [([],[]),([],[]),([],[]),([],[]),([],[]),([],[]),([],[]),([],[]),([],[]),([],[]),([],[]),([],[]),([],[]),([],[]),([],[]),([],[]),([],[]),([],[]),([],[]),([],[]),([],[]),([],[]),([],[]),([],[]),([],[]),([],[]),([],[]),([],[])] (S:=[]) Tryz_mix (by kernel_rfl) rfl (by kernel_rfl) (amF_cons (mono_V _) (amF_cons (mono_V _) (amF_cons (mono_V _) (amF_cons (mono_V _) (amF_cons (mono_V _) (amF_cons (mono_V _) (amF_cons (mono_V _) (amF_cons (mono_V _) (amF_cons (mono_V _) (amF_cons (mono_V _) (amF_cons (mono_V _) (amF_cons (mono_V _) (amF_cons (mono_V _) (amF_cons (mono_V _) (amF_cons (mono_V _) (amF_cons (mono_V _) (amF_cons (mono_V _) (amF_cons (mono_V _) (amF_cons (mono_V _) (amF_cons (mono_V _) (amF_cons (mono_V _) (amF_cons (mono_V _) (amF_cons (mono_V _) (amF_cons (mono_V _) (amF_cons (mono_V _) (amF_cons (mono_V _) (amF_cons (mono_V _) (amF_cons (mono_V _) amF_nil)))))))))))))))))))))))))))) hst ?_ (fun f w_ H52 hS52 hE52 hT52 hst=>?_)
 refine opsS_cons (fun f w_ _ _ s _ _ hst=>fA 1 fa_83_1 ((s 4 rfl).trans rfl) rfl (nO rfl rfl hst)) (opsS_cons (fun f w_ _ _ _ _ p hst=>ldB 0 hst Tryz.isAgg3 (p 0 17 rfl rfl) rfl rfl (nO rfl rfl hst)) (opsS_cons ?_ ?_))
 intro f w_ H52 X52 hS52 hE52 hP52 hst
 obtain ⟨H120b,l121,s122,z123,k124⟩:=hst.borrow
 refine L_call rfl Tryz.call56 (ops1 (hP52 1 18 rfl rfl)) (s_l1Lit_c (n_:=x_8.lit) s122 hx29) ?_
 rintro _ w125 ⟨rfl,hst⟩
 have hst:=k124 hst c0
 exact L_nil ⟨rfl,_,_,rfl,Le.refl _,fun _ _=>rfl,hst⟩
 refine opsS_cons (fun f w_ _ _ _ _ p hst=>L_not_ rfl (p 2 19 rfl rfl) (nO rfl rfl hst)) (opsS_cons (fun f w_ _ _ _ _ p hst=>mF (p 3 20 rfl rfl) rfl (nO rfl rfl hst)) (oP (fun _ _ p=>gN (p 4 21 rfl rfl) hc56 rfl) (fun _=>rfl) (oP (fun _ _ p=>gN (p 4 21 rfl rfl) hc56 rfl) (fun _=>rfl) (oP (fun _ _ p=>gN (p 4 21 rfl rfl) hc56 rfl) (fun _=>rfl) (opsS_cons (fun f w_ _ _ _ _ p hst=>pkT (v:=Bo ((!x29) || (decide (x_8.coef < 1)))) (p 4 21 rfl rfl) hc56 rfl (or_t hc56) (nO rfl rfl hst)) (opsS_cons (fun f w_ _ _ _ _ p hst=>mF (p 8 25 rfl rfl) rfl (nO rfl rfl hst)) (oP (fun _ _ p=>gN (p 9 26 rfl rfl) hc57 rfl) (fun _=>rfl) (oP (fun _ _ p=>gN (p 9 26 rfl rfl) hc57 rfl) (fun _=>rfl) (oP (fun _ _ p=>gN (p 9 26 rfl rfl) hc57 rfl) (fun _=>rfl) (opsS_cons (fun f w_ _ _ _ _ p hst=>pkT (v:=Bo (((!x29) || (decide (x_8.coef < 1))) || (decide (x_8.coef > 1000)))) (p 9 26 rfl rfl) hc57 rfl (or_t hc57) (nO rfl rfl hst)) (opsS_cons (fun f w_ _ _ _ _ p hst=>mF (p 13 30 rfl rfl) rfl (nO rfl rfl hst)) (opsS_cons (fun f w_ _ _ s _ p hst=>L_mv (v:=I i_5) (g_yes rfl (Eq.trans (p 14 31 rfl rfl) (congrArg Value.bool hc58)) rfl) ((s 3 rfl).trans sf3) (nO rfl rfl hst)) (opsS_cons (fun f w_ _ _ _ _ p hst=>L_gtr (g_yes rfl (Eq.trans (p 14 31 rfl rfl) (congrArg Value.bool hc58)) rfl) (p 15 32 rfl rfl) rfl (nO rfl rfl hst)) (opsS_cons (fun f w_ _ _ _ _ p hst=>L_mv (v:=Bo (decide ((i_5 : Int) > 0))) (g_yes rfl (Eq.trans (p 14 31 rfl rfl) (congrArg Value.bool hc58)) rfl) (p 16 33 rfl rfl) (nO rfl rfl hst)) (oP (fun _ _ p=>gN (p 17 34 rfl rfl) hc71 rfl) (fun _=>rfl) (oP (fun _ _ p=>gN (p 17 34 rfl rfl) hc71 rfl) (fun _=>rfl) (oP (fun _ _ p=>gN (p 17 34 rfl rfl) hc71 rfl) (fun _=>rfl) (oP (fun _ _ p=>gN (p 17 34 rfl rfl) hc71 rfl) (fun _=>rfl) (oP (fun _ _ p=>gN (p 17 34 rfl rfl) hc71 rfl) (fun _=>rfl) (oP (fun _ _ p=>gN (p 17 34 rfl rfl) hc71 rfl) (fun _=>rfl) (oP (fun _ _ p=>gN (p 17 34 rfl rfl) hc71 rfl) (fun _=>rfl) (oP (fun _ _ p=>gN (p 17 34 rfl rfl) hc71 rfl) (fun _=>rfl) (oP (fun _ _ p=>gN (p 17 34 rfl rfl) hc71 rfl) (fun _=>rfl) (oP (fun _ _ p=>gN (p 17 34 rfl rfl) hc71 rfl) (fun _=>rfl) (opsS_nil)))))))))))))))))))))))))
 refine ps (g_no rfl (Eq.trans (hT52 17 34 rfl rfl) (congrArg Value.bool hc71)) rfl rfl) (ps (g_no rfl (Eq.trans (hT52 17 34 rfl rfl) (congrArg Value.bool hc71)) rfl rfl) (L_pick (v:=Bo b50) (g_yes rfl (Eq.trans (hT52 14 31 rfl rfl) (congrArg Value.bool hc58)) rfl) (Eq.trans (hT52 17 34 rfl rfl) (congrArg Value.bool hc71)) (congrArg Value.bool (so hb50)) (L_pick (v:=Bo b51) rfl (Eq.trans (hT52 14 31 rfl rfl) (congrArg Value.bool hc58)) (congrArg Value.bool (so hb51)) (nn ?_))))
 have hst:=hst.get 1 rfl
 exact rj hR55 ⟨H52,hE52,((hS52 1 rfl).trans sf1),((hS52 3 rfl).trans sf3),rfl,(Star.keepN 1 hst)⟩
 rcases Bool.eq_false_or_eq_true (((!x29) || (decide (x_8.coef < 1))) || (decide (x_8.coef > 1000))) with hc126 | hc126
 rw [ite_t hc126] at hb51
 refine W_drawS 28 [isV (Pq g21 1),isV (I x_8.lit),isV (Bo x29),isV (Bo (!x29)),isV (Bo (!x29)),isV (undef),isV (undef),isV (undef),isV (Bo ((!x29) || (decide (x_8.coef < 1)))),isV (Bo ((!x29) || (decide (x_8.coef < 1)))),isV (Pt g21),isV (I x_8.coef),isV (Bo (decide (x_8.coef > 1000))),isV (Bo (((!x29) || (decide (x_8.coef < 1))) || (decide (x_8.coef > 1000)))),isV (Bo (((!x29) || (decide (x_8.coef < 1))) || (decide (x_8.coef > 1000)))),isV (undef),isV (undef),isV (undef),isV (undef),isV (undef),isV (undef),isV (undef),isV (undef),isV (undef),isV (undef),isV (undef),isV (undef),isV (undef)] [box g21 83 #[I x_8.coef,I x_8.lit],box g3 54 #[v0_0,I c.bound]] [] ([]) [([],[]),([],[]),([],[]),([],[]),([],[]),([],[]),([],[]),([],[]),([],[]),([],[]),([],[]),([],[]),([],[]),([],[]),([],[]),([],[]),([],[]),([],[]),([],[]),([],[]),([],[]),([],[]),([],[]),([],[]),([],[]),([],[]),([],[]),([],[])] (S:=[]) Tryz_mix (by kernel_rfl) rfl (by kernel_rfl) (amF_cons (mono_V _) (amF_cons (mono_V _) (amF_cons (mono_V _) (amF_cons (mono_V _) (amF_cons (mono_V _) (amF_cons (mono_V _) (amF_cons (mono_V _) (amF_cons (mono_V _) (amF_cons (mono_V _) (amF_cons (mono_V _) (amF_cons (mono_V _) (amF_cons (mono_V _) (amF_cons (mono_V _) (amF_cons (mono_V _) (amF_cons (mono_V _) (amF_cons (mono_V _) (amF_cons (mono_V _) (amF_cons (mono_V _) (amF_cons (mono_V _) (amF_cons (mono_V _) (amF_cons (mono_V _) (amF_cons (mono_V _) (amF_cons (mono_V _) (amF_cons (mono_V _) (amF_cons (mono_V _) (amF_cons (mono_V _) (amF_cons (mono_V _) (amF_cons (mono_V _) amF_nil)))))))))))))))))))))))))))) hst ?_ (fun f w_ H52 hS52 hE52 hT52 hst=>?_)
 refine opsS_cons (fun f w_ _ _ s _ _ hst=>fA 1 fa_83_1 ((s 4 rfl).trans rfl) rfl (nO rfl rfl hst)) (opsS_cons (fun f w_ _ _ _ _ p hst=>ldB 0 hst Tryz.isAgg3 (p 0 17 rfl rfl) rfl rfl (nO rfl rfl hst)) (opsS_cons ?_ ?_))
 intro f w_ H52 X52 hS52 hE52 hP52 hst
 obtain ⟨H133b,l134,s135,z136,k137⟩:=hst.borrow
 refine L_call rfl Tryz.call56 (ops1 (hP52 1 18 rfl rfl)) (s_l1Lit_c (n_:=x_8.lit) s135 hx29) ?_
 rintro _ w138 ⟨rfl,hst⟩
 have hst:=k137 hst c0
 exact L_nil ⟨rfl,_,_,rfl,Le.refl _,fun _ _=>rfl,hst⟩
 refine opsS_cons (fun f w_ _ _ _ _ p hst=>L_not_ rfl (p 2 19 rfl rfl) (nO rfl rfl hst)) (opsS_cons (fun f w_ _ _ _ _ p hst=>mF (p 3 20 rfl rfl) rfl (nO rfl rfl hst)) (oP (fun _ _ p=>gN (p 4 21 rfl rfl) hc56 rfl) (fun _=>rfl) (oP (fun _ _ p=>gN (p 4 21 rfl rfl) hc56 rfl) (fun _=>rfl) (oP (fun _ _ p=>gN (p 4 21 rfl rfl) hc56 rfl) (fun _=>rfl) (opsS_cons (fun f w_ _ _ _ _ p hst=>pkT (v:=Bo ((!x29) || (decide (x_8.coef < 1)))) (p 4 21 rfl rfl) hc56 rfl (or_t hc56) (nO rfl rfl hst)) (opsS_cons (fun f w_ _ _ _ _ p hst=>mF (p 8 25 rfl rfl) rfl (nO rfl rfl hst)) (opsS_cons (fun f w_ _ _ s _ p hst=>L_fa (o':=0) (g_yes rfl (Eq.trans (p 9 26 rfl rfl) (congrArg Value.bool hc57)) rfl) fa_83_0 ((s 4 rfl).trans rfl) rfl (nO rfl rfl hst)) (opsS_cons (fun f w_ _ _ _ _ p hst=>L_ld (v:=I x_8.coef) (g_yes rfl (Eq.trans (p 9 26 rfl rfl) (congrArg Value.bool hc57)) rfl) Tryz.isAgg3 (p 10 27 rfl rfl) (At.cell0 (Blk.at (Star.blkAt 0 hst rfl)) (j:=0) rfl) (nO rfl rfl hst)) (opsS_cons (fun f w_ _ _ _ _ p hst=>L_gtr (g_yes rfl (Eq.trans (p 9 26 rfl rfl) (congrArg Value.bool hc57)) rfl) (p 11 28 rfl rfl) rfl (nO rfl rfl hst)) (opsS_cons (fun f w_ _ _ _ _ p hst=>pkT (v:=Bo (((!x29) || (decide (x_8.coef < 1))) || (decide (x_8.coef > 1000)))) (p 9 26 rfl rfl) hc57 rfl (or_f hc57 (p 12 29 rfl rfl)) (nO rfl rfl hst)) (opsS_cons (fun f w_ _ _ _ _ p hst=>mF (p 13 30 rfl rfl) rfl (nO rfl rfl hst)) (oP (fun _ _ p=>gN (p 14 31 rfl rfl) hc126 rfl) (fun _=>rfl) (oP (fun _ _ p=>gN (p 14 31 rfl rfl) hc126 rfl) (fun _=>rfl) (oP (fun _ _ p=>gN (p 14 31 rfl rfl) hc126 rfl) (fun _=>rfl) (oP (fun _ _ p=>g_undef rfl (p 17 34 rfl rfl) rfl) (fun _=>rfl) (oP (fun _ _ p=>g_undef rfl (p 17 34 rfl rfl) rfl) (fun _=>rfl) (oP (fun _ _ p=>g_undef rfl (p 17 34 rfl rfl) rfl) (fun _=>rfl) (oP (fun _ _ p=>g_undef rfl (p 17 34 rfl rfl) rfl) (fun _=>rfl) (oP (fun _ _ p=>g_undef rfl (p 17 34 rfl rfl) rfl) (fun _=>rfl) (oP (fun _ _ p=>g_undef rfl (p 17 34 rfl rfl) rfl) (fun _=>rfl) (oP (fun _ _ p=>g_undef rfl (p 17 34 rfl rfl) rfl) (fun _=>rfl) (oP (fun _ _ p=>g_undef rfl (p 17 34 rfl rfl) rfl) (fun _=>rfl) (oP (fun _ _ p=>g_undef rfl (p 17 34 rfl rfl) rfl) (fun _=>rfl) (oP (fun _ _ p=>g_undef rfl (p 17 34 rfl rfl) rfl) (fun _=>rfl) (opsS_nil)))))))))))))))))))))))))
 refine ps (g_undef rfl (hT52 17 34 rfl rfl) rfl) (ps (g_undef rfl (hT52 17 34 rfl rfl) rfl) (ps (g_no rfl (Eq.trans (hT52 14 31 rfl rfl) (congrArg Value.bool hc126)) rfl rfl) (L_pick (v:=Bo b51) rfl (Eq.trans (hT52 14 31 rfl rfl) (congrArg Value.bool hc126)) (congrArg Value.bool (so hb51)) (nn ?_))))
 have hst:=hst.get 1 rfl
 exact rj hR55 ⟨H52,hE52,((hS52 1 rfl).trans sf1),((hS52 3 rfl).trans sf3),rfl,(Star.keepN 1 hst)⟩
 rw [ite_f hc126] at hb51
 obtain ⟨b50,hb50,hb51⟩:=bind_some hb51
 rcases Bool.eq_false_or_eq_true (decide ((i_5 : Int) > 0)) with hc139 | hc139
 rw [ite_t hc139] at hb50
 obtain ⟨x31,hx31,hb50⟩:=bind_some hb50
 obtain ⟨x41,hx41,hb50⟩:=bind_some hb50
 obtain ⟨x48,hx48,hb50⟩:=bind_some hb50
 refine W_drawS 28 [isV (Pq g21 1),isV (I x_8.lit),isV (Bo x29),isV (Bo (!x29)),isV (Bo (!x29)),isV (undef),isV (undef),isV (undef),isV (Bo ((!x29) || (decide (x_8.coef < 1)))),isV (Bo ((!x29) || (decide (x_8.coef < 1)))),isV (Pt g21),isV (I x_8.coef),isV (Bo (decide (x_8.coef > 1000))),isV (Bo (((!x29) || (decide (x_8.coef < 1))) || (decide (x_8.coef > 1000)))),isV (Bo (((!x29) || (decide (x_8.coef < 1))) || (decide (x_8.coef > 1000)))),isV (I i_5),isV (Bo (decide ((i_5 : Int) > 0))),isV (Bo (decide ((i_5 : Int) > 0))),isV (Pt g3),isV (v0_0),isV (I i_5),isV (I (i64 ((i_5 : Int) - 1))),isEl rTerm x31 0,isEl rTerm x31 1,isV (I x31.lit),isV (I x41),isV (Pq g21 1),isV (I x_8.lit)] [box g21 83 #[I x_8.coef,I x_8.lit],box g3 54 #[v0_0,I c.bound]] [] ([]) [([],[]),([],[]),([],[]),([],[]),([],[]),([],[]),([],[]),([],[]),([],[]),([],[]),([],[]),([],[]),([],[]),([],[]),([],[]),([],[]),([],[]),([],[]),([],[]),([],[]),([],[]),([],[]),([],[]),([],[]),([],[]),([],[]),([],[]),([],[])] (S:=[]) Tryz_mix (by kernel_rfl) rfl (by kernel_rfl) (amF_cons (mono_V _) (amF_cons (mono_V _) (amF_cons (mono_V _) (amF_cons (mono_V _) (amF_cons (mono_V _) (amF_cons (mono_V _) (amF_cons (mono_V _) (amF_cons (mono_V _) (amF_cons (mono_V _) (amF_cons (mono_V _) (amF_cons (mono_V _) (amF_cons (mono_V _) (amF_cons (mono_V _) (amF_cons (mono_V _) (amF_cons (mono_V _) (amF_cons (mono_V _) (amF_cons (mono_V _) (amF_cons (mono_V _) (amF_cons (mono_V _) (amF_cons (mono_V _) (amF_cons (mono_V _) (amF_cons (mono_V _) (amF_cons (mono_el _ _ _) (amF_cons (mono_el _ _ _) (amF_cons (mono_V _) (amF_cons (mono_V _) (amF_cons (mono_V _) (amF_cons (mono_V _) amF_nil)))))))))))))))))))))))))))) hst ?_ (fun f w_ H52 hS52 hE52 hT52 hst=>?_)
 refine opsS_cons (fun f w_ _ _ s _ _ hst=>fA 1 fa_83_1 ((s 4 rfl).trans rfl) rfl (nO rfl rfl hst)) (opsS_cons (fun f w_ _ _ _ _ p hst=>ldB 0 hst Tryz.isAgg3 (p 0 17 rfl rfl) rfl rfl (nO rfl rfl hst)) (opsS_cons ?_ ?_))
 intro f w_ H52 X52 hS52 hE52 hP52 hst
 obtain ⟨H156b,l157,s158,z159,k160⟩:=hst.borrow
 refine L_call rfl Tryz.call56 (ops1 (hP52 1 18 rfl rfl)) (s_l1Lit_c (n_:=x_8.lit) s158 hx29) ?_
 rintro _ w161 ⟨rfl,hst⟩
 have hst:=k160 hst c0
 exact L_nil ⟨rfl,_,_,rfl,Le.refl _,fun _ _=>rfl,hst⟩
 refine opsS_cons (fun f w_ _ _ _ _ p hst=>L_not_ rfl (p 2 19 rfl rfl) (nO rfl rfl hst)) (opsS_cons (fun f w_ _ _ _ _ p hst=>mF (p 3 20 rfl rfl) rfl (nO rfl rfl hst)) (oP (fun _ _ p=>gN (p 4 21 rfl rfl) hc56 rfl) (fun _=>rfl) (oP (fun _ _ p=>gN (p 4 21 rfl rfl) hc56 rfl) (fun _=>rfl) (oP (fun _ _ p=>gN (p 4 21 rfl rfl) hc56 rfl) (fun _=>rfl) (opsS_cons (fun f w_ _ _ _ _ p hst=>pkT (v:=Bo ((!x29) || (decide (x_8.coef < 1)))) (p 4 21 rfl rfl) hc56 rfl (or_t hc56) (nO rfl rfl hst)) (opsS_cons (fun f w_ _ _ _ _ p hst=>mF (p 8 25 rfl rfl) rfl (nO rfl rfl hst)) (opsS_cons (fun f w_ _ _ s _ p hst=>L_fa (o':=0) (g_yes rfl (Eq.trans (p 9 26 rfl rfl) (congrArg Value.bool hc57)) rfl) fa_83_0 ((s 4 rfl).trans rfl) rfl (nO rfl rfl hst)) (opsS_cons (fun f w_ _ _ _ _ p hst=>L_ld (v:=I x_8.coef) (g_yes rfl (Eq.trans (p 9 26 rfl rfl) (congrArg Value.bool hc57)) rfl) Tryz.isAgg3 (p 10 27 rfl rfl) (At.cell0 (Blk.at (Star.blkAt 0 hst rfl)) (j:=0) rfl) (nO rfl rfl hst)) (opsS_cons (fun f w_ _ _ _ _ p hst=>L_gtr (g_yes rfl (Eq.trans (p 9 26 rfl rfl) (congrArg Value.bool hc57)) rfl) (p 11 28 rfl rfl) rfl (nO rfl rfl hst)) (opsS_cons (fun f w_ _ _ _ _ p hst=>pkT (v:=Bo (((!x29) || (decide (x_8.coef < 1))) || (decide (x_8.coef > 1000)))) (p 9 26 rfl rfl) hc57 rfl (or_f hc57 (p 12 29 rfl rfl)) (nO rfl rfl hst)) (opsS_cons (fun f w_ _ _ _ _ p hst=>mF (p 13 30 rfl rfl) rfl (nO rfl rfl hst)) (opsS_cons (fun f w_ _ _ s _ p hst=>L_mv (v:=I i_5) (g_yes rfl (Eq.trans (p 14 31 rfl rfl) (congrArg Value.bool hc126)) rfl) ((s 3 rfl).trans sf3) (nO rfl rfl hst)) (opsS_cons (fun f w_ _ _ _ _ p hst=>L_gtr (g_yes rfl (Eq.trans (p 14 31 rfl rfl) (congrArg Value.bool hc126)) rfl) (p 15 32 rfl rfl) rfl (nO rfl rfl hst)) (opsS_cons (fun f w_ _ _ _ _ p hst=>L_mv (v:=Bo (decide ((i_5 : Int) > 0))) (g_yes rfl (Eq.trans (p 14 31 rfl rfl) (congrArg Value.bool hc126)) rfl) (p 16 33 rfl rfl) (nO rfl rfl hst)) (opsS_cons (fun f w_ _ _ s _ p hst=>L_fa (o':=0) (g_yes rfl (Eq.trans (p 17 34 rfl rfl) (congrArg Value.bool hc139)) rfl) fa_54_0 ((s 1 rfl).trans sf1) rfl (nO rfl rfl hst)) (opsS_cons (fun f w_ _ _ _ _ p hst=>L_ld (v:=v0_0) (g_yes rfl (Eq.trans (p 17 34 rfl rfl) (congrArg Value.bool hc139)) rfl) Tryz.isAgg52 (p 18 35 rfl rfl) (At.cell0 (Blk.at (Star.blkAt 1 hst rfl)) (j:=0) rfl) (nO rfl rfl hst)) (opsS_cons (fun f w_ _ _ s _ p hst=>L_mv (v:=I i_5) (g_yes rfl (Eq.trans (p 17 34 rfl rfl) (congrArg Value.bool hc139)) rfl) ((s 3 rfl).trans sf3) (nO rfl rfl hst)) (opsS_cons (fun f w_ _ _ _ _ p hst=>L_sub (g_yes rfl (Eq.trans (p 17 34 rfl rfl) (congrArg Value.bool hc139)) rfl) (p 20 37 rfl rfl) rfl (nO rfl rfl hst)) (opsS_cons ?_ ?_)))))))))))))))))))
 intro f w_ H52 X52 hS52 hE52 hP52 hst
 refine L_ix (r:=rTerm) (g_yes rfl (Eq.trans (hP52 17 34 rfl rfl) (congrArg Value.bool hc139)) rfl) Tryz.underlying52 Tryz.sizeOf83 (hP52 19 36 rfl rfl) (RP.mono _ h0_0 (Le.trans l7 hE52)) (hP52 21 38 rfl rfl) hx31 (fun g162 o163 cs_g162 hrk_hat164 hat164=>?_)
 obtain rfl:=rTerm_iff.1 hrk_hat164
 exact L_nil ⟨rfl,_,_,rfl,Le.refl _,fun _ _=>⟨_,_,_,rfl,hrk_hat164,hat164⟩,hst⟩
 refine opsS_cons ?_ ?_
 intro f w_ H52 X52 hS52 hE52 hP52 hst
 obtain ⟨g166,o166,cs166,hv166,hrk_hat166,hat166⟩:=(hP52 22 39 rfl rfl)
 obtain rfl:=rTerm_iff.1 hrk_hat166
 refine L_fa (o':=o166 + 1) (g_yes rfl (Eq.trans (hP52 17 34 rfl rfl) (congrArg Value.bool hc139)) rfl) fa_83_1 hv166 rfl (L_nil ⟨rfl,_,_,rfl,Le.refl _,fun _ _=>⟨_,_,_,rfl,hrk_hat166,hat166⟩,hst⟩)
 refine opsS_cons ?_ ?_
 intro f w_ H52 X52 hS52 hE52 hP52 hst
 obtain ⟨g168,o168,cs168,hv168,hrk_hat168,hat168⟩:=(hP52 23 40 rfl rfl)
 obtain rfl:=rTerm_iff.1 hrk_hat168
 refine L_ld (v:=I x31.lit) (g_yes rfl (Eq.trans (hP52 17 34 rfl rfl) (congrArg Value.bool hc139)) rfl) Tryz.isAgg3 hv168 (At.cell (AtH.at hat168 hst.sub) (j:=1) rfl) (L_nil ⟨rfl,_,_,rfl,Le.refl _,fun _ _=>rfl,hst⟩)
 refine opsS_cons ?_ ?_
 intro f w_ H52 X52 hS52 hE52 hP52 hst
 obtain ⟨H170b,l171,s172,z173,k174⟩:=hst.borrow
 refine L_call (g_yes rfl (Eq.trans (hP52 17 34 rfl rfl) (congrArg Value.bool hc139)) rfl) Tryz.call57 (ops1 (hP52 24 41 rfl rfl)) (s_l1Abs_c (n_:=x31.lit) s172 hx41) ?_
 rintro _ w175 ⟨rfl,hst⟩
 have hst:=k174 hst c0
 exact L_nil ⟨rfl,_,_,rfl,Le.refl _,fun _ _=>rfl,hst⟩
 refine opsS_cons (fun f w_ _ _ s _ p hst=>L_fa (o':=1) (g_yes rfl (Eq.trans (p 17 34 rfl rfl) (congrArg Value.bool hc139)) rfl) fa_83_1 ((s 4 rfl).trans rfl) rfl (nO rfl rfl hst)) (opsS_cons (fun f w_ _ _ _ _ p hst=>L_ld (v:=I x_8.lit) (g_yes rfl (Eq.trans (p 17 34 rfl rfl) (congrArg Value.bool hc139)) rfl) Tryz.isAgg3 (p 26 43 rfl rfl) (At.cell0 (Blk.at (Star.blkAt 0 hst rfl)) (j:=1) rfl) (nO rfl rfl hst)) (opsS_nil))
 obtain ⟨H176b,l177,s178,z179,k180⟩:=hst.borrow
 refine L_call (g_yes rfl (Eq.trans (hT52 17 34 rfl rfl) (congrArg Value.bool hc139)) rfl) Tryz.call57 (ops1 (hT52 27 44 rfl rfl)) (s_l1Abs_c (n_:=x_8.lit) s178 hx48) ?_
 rintro _ w181 ⟨rfl,hst⟩
 have hst:=k180 hst c0
 refine L_geq (g_yes rfl (Eq.trans (hT52 17 34 rfl rfl) (congrArg Value.bool hc139)) rfl) (hT52 25 42 rfl rfl) rfl (L_pick (v:=Bo b50) (g_yes rfl (Eq.trans (hT52 14 31 rfl rfl) (congrArg Value.bool hc126)) rfl) (Eq.trans (hT52 17 34 rfl rfl) (congrArg Value.bool hc139)) (congrArg Value.bool (so hb50)) (L_pick (v:=Bo b51) rfl (Eq.trans (hT52 14 31 rfl rfl) (congrArg Value.bool hc126)) (congrArg Value.bool (so hb51)) (nn ?_)))
 have hst:=hst.get 1 rfl
 exact rj hR55 ⟨H52,hE52,((hS52 1 rfl).trans sf1),((hS52 3 rfl).trans sf3),rfl,(Star.keepN 1 hst)⟩
 rw [ite_f hc139] at hb50
 refine W_drawS 28 [isV (Pq g21 1),isV (I x_8.lit),isV (Bo x29),isV (Bo (!x29)),isV (Bo (!x29)),isV (undef),isV (undef),isV (undef),isV (Bo ((!x29) || (decide (x_8.coef < 1)))),isV (Bo ((!x29) || (decide (x_8.coef < 1)))),isV (Pt g21),isV (I x_8.coef),isV (Bo (decide (x_8.coef > 1000))),isV (Bo (((!x29) || (decide (x_8.coef < 1))) || (decide (x_8.coef > 1000)))),isV (Bo (((!x29) || (decide (x_8.coef < 1))) || (decide (x_8.coef > 1000)))),isV (I i_5),isV (Bo (decide ((i_5 : Int) > 0))),isV (Bo (decide ((i_5 : Int) > 0))),isV (undef),isV (undef),isV (undef),isV (undef),isV (undef),isV (undef),isV (undef),isV (undef),isV (undef),isV (undef)] [box g21 83 #[I x_8.coef,I x_8.lit],box g3 54 #[v0_0,I c.bound]] [] ([]) [([],[]),([],[]),([],[]),([],[]),([],[]),([],[]),([],[]),([],[]),([],[]),([],[]),([],[]),([],[]),([],[]),([],[]),([],[]),([],[]),([],[]),([],[]),([],[]),([],[]),([],[]),([],[]),([],[]),([],[]),([],[]),([],[]),([],[]),([],[])] (S:=[]) Tryz_mix (by kernel_rfl) rfl (by kernel_rfl) (amF_cons (mono_V _) (amF_cons (mono_V _) (amF_cons (mono_V _) (amF_cons (mono_V _) (amF_cons (mono_V _) (amF_cons (mono_V _) (amF_cons (mono_V _) (amF_cons (mono_V _) (amF_cons (mono_V _) (amF_cons (mono_V _) (amF_cons (mono_V _) (amF_cons (mono_V _) (amF_cons (mono_V _) (amF_cons (mono_V _) (amF_cons (mono_V _) (amF_cons (mono_V _) (amF_cons (mono_V _) (amF_cons (mono_V _) (amF_cons (mono_V _) (amF_cons (mono_V _) (amF_cons (mono_V _) (amF_cons (mono_V _) (amF_cons (mono_V _) (amF_cons (mono_V _) (amF_cons (mono_V _) (amF_cons (mono_V _) (amF_cons (mono_V _) (amF_cons (mono_V _) amF_nil)))))))))))))))))))))))))))) hst ?_ (fun f w_ H52 hS52 hE52 hT52 hst=>?_)
 refine opsS_cons (fun f w_ _ _ s _ _ hst=>fA 1 fa_83_1 ((s 4 rfl).trans rfl) rfl (nO rfl rfl hst)) (opsS_cons (fun f w_ _ _ _ _ p hst=>ldB 0 hst Tryz.isAgg3 (p 0 17 rfl rfl) rfl rfl (nO rfl rfl hst)) (opsS_cons ?_ ?_))
 intro f w_ H52 X52 hS52 hE52 hP52 hst
 obtain ⟨H188b,l189,s190,z191,k192⟩:=hst.borrow
 refine L_call rfl Tryz.call56 (ops1 (hP52 1 18 rfl rfl)) (s_l1Lit_c (n_:=x_8.lit) s190 hx29) ?_
 rintro _ w193 ⟨rfl,hst⟩
 have hst:=k192 hst c0
 exact L_nil ⟨rfl,_,_,rfl,Le.refl _,fun _ _=>rfl,hst⟩
 refine opsS_cons (fun f w_ _ _ _ _ p hst=>L_not_ rfl (p 2 19 rfl rfl) (nO rfl rfl hst)) (opsS_cons (fun f w_ _ _ _ _ p hst=>mF (p 3 20 rfl rfl) rfl (nO rfl rfl hst)) (oP (fun _ _ p=>gN (p 4 21 rfl rfl) hc56 rfl) (fun _=>rfl) (oP (fun _ _ p=>gN (p 4 21 rfl rfl) hc56 rfl) (fun _=>rfl) (oP (fun _ _ p=>gN (p 4 21 rfl rfl) hc56 rfl) (fun _=>rfl) (opsS_cons (fun f w_ _ _ _ _ p hst=>pkT (v:=Bo ((!x29) || (decide (x_8.coef < 1)))) (p 4 21 rfl rfl) hc56 rfl (or_t hc56) (nO rfl rfl hst)) (opsS_cons (fun f w_ _ _ _ _ p hst=>mF (p 8 25 rfl rfl) rfl (nO rfl rfl hst)) (opsS_cons (fun f w_ _ _ s _ p hst=>L_fa (o':=0) (g_yes rfl (Eq.trans (p 9 26 rfl rfl) (congrArg Value.bool hc57)) rfl) fa_83_0 ((s 4 rfl).trans rfl) rfl (nO rfl rfl hst)) (opsS_cons (fun f w_ _ _ _ _ p hst=>L_ld (v:=I x_8.coef) (g_yes rfl (Eq.trans (p 9 26 rfl rfl) (congrArg Value.bool hc57)) rfl) Tryz.isAgg3 (p 10 27 rfl rfl) (At.cell0 (Blk.at (Star.blkAt 0 hst rfl)) (j:=0) rfl) (nO rfl rfl hst)) (opsS_cons (fun f w_ _ _ _ _ p hst=>L_gtr (g_yes rfl (Eq.trans (p 9 26 rfl rfl) (congrArg Value.bool hc57)) rfl) (p 11 28 rfl rfl) rfl (nO rfl rfl hst)) (opsS_cons (fun f w_ _ _ _ _ p hst=>pkT (v:=Bo (((!x29) || (decide (x_8.coef < 1))) || (decide (x_8.coef > 1000)))) (p 9 26 rfl rfl) hc57 rfl (or_f hc57 (p 12 29 rfl rfl)) (nO rfl rfl hst)) (opsS_cons (fun f w_ _ _ _ _ p hst=>mF (p 13 30 rfl rfl) rfl (nO rfl rfl hst)) (opsS_cons (fun f w_ _ _ s _ p hst=>L_mv (v:=I i_5) (g_yes rfl (Eq.trans (p 14 31 rfl rfl) (congrArg Value.bool hc126)) rfl) ((s 3 rfl).trans sf3) (nO rfl rfl hst)) (opsS_cons (fun f w_ _ _ _ _ p hst=>L_gtr (g_yes rfl (Eq.trans (p 14 31 rfl rfl) (congrArg Value.bool hc126)) rfl) (p 15 32 rfl rfl) rfl (nO rfl rfl hst)) (opsS_cons (fun f w_ _ _ _ _ p hst=>L_mv (v:=Bo (decide ((i_5 : Int) > 0))) (g_yes rfl (Eq.trans (p 14 31 rfl rfl) (congrArg Value.bool hc126)) rfl) (p 16 33 rfl rfl) (nO rfl rfl hst)) (oP (fun _ _ p=>gN (p 17 34 rfl rfl) hc139 rfl) (fun _=>rfl) (oP (fun _ _ p=>gN (p 17 34 rfl rfl) hc139 rfl) (fun _=>rfl) (oP (fun _ _ p=>gN (p 17 34 rfl rfl) hc139 rfl) (fun _=>rfl) (oP (fun _ _ p=>gN (p 17 34 rfl rfl) hc139 rfl) (fun _=>rfl) (oP (fun _ _ p=>gN (p 17 34 rfl rfl) hc139 rfl) (fun _=>rfl) (oP (fun _ _ p=>gN (p 17 34 rfl rfl) hc139 rfl) (fun _=>rfl) (oP (fun _ _ p=>gN (p 17 34 rfl rfl) hc139 rfl) (fun _=>rfl) (oP (fun _ _ p=>gN (p 17 34 rfl rfl) hc139 rfl) (fun _=>rfl) (oP (fun _ _ p=>gN (p 17 34 rfl rfl) hc139 rfl) (fun _=>rfl) (oP (fun _ _ p=>gN (p 17 34 rfl rfl) hc139 rfl) (fun _=>rfl) (opsS_nil)))))))))))))))))))))))))
 refine ps (g_no rfl (Eq.trans (hT52 17 34 rfl rfl) (congrArg Value.bool hc139)) rfl rfl) (ps (g_no rfl (Eq.trans (hT52 17 34 rfl rfl) (congrArg Value.bool hc139)) rfl rfl) (L_pick (v:=Bo b50) (g_yes rfl (Eq.trans (hT52 14 31 rfl rfl) (congrArg Value.bool hc126)) rfl) (Eq.trans (hT52 17 34 rfl rfl) (congrArg Value.bool hc139)) (congrArg Value.bool (so hb50)) (L_pick (v:=Bo b51) rfl (Eq.trans (hT52 14 31 rfl rfl) (congrArg Value.bool hc126)) (congrArg Value.bool (so hb51)) (nn ?_))))
 have hst:=hst.get 1 rfl
 exact rj hR55 ⟨H52,hE52,((hS52 1 rfl).trans sf1),((hS52 3 rfl).trans sf3),rfl,(Star.keepN 1 hst)⟩
 rcases Bool.eq_false_or_eq_true ((!x29) || (decide (x_8.coef < 1))) with hc194 | hc194
 rcases Bool.eq_false_or_eq_true (((!x29) || (decide (x_8.coef < 1))) || (decide (x_8.coef > 1000))) with hc195 | hc195
 rw [ite_t hc195] at hb51
 refine W_drawS 28 [isV (Pq g21 1),isV (I x_8.lit),isV (Bo x29),isV (Bo (!x29)),isV (Bo (!x29)),isV (Pt g21),isV (I x_8.coef),isV (Bo (decide (x_8.coef < 1))),isV (Bo ((!x29) || (decide (x_8.coef < 1)))),isV (Bo ((!x29) || (decide (x_8.coef < 1)))),isV (undef),isV (undef),isV (undef),isV (Bo (((!x29) || (decide (x_8.coef < 1))) || (decide (x_8.coef > 1000)))),isV (Bo (((!x29) || (decide (x_8.coef < 1))) || (decide (x_8.coef > 1000)))),isV (undef),isV (undef),isV (undef),isV (undef),isV (undef),isV (undef),isV (undef),isV (undef),isV (undef),isV (undef),isV (undef),isV (undef),isV (undef)] [box g21 83 #[I x_8.coef,I x_8.lit],box g3 54 #[v0_0,I c.bound]] [] ([]) [([],[]),([],[]),([],[]),([],[]),([],[]),([],[]),([],[]),([],[]),([],[]),([],[]),([],[]),([],[]),([],[]),([],[]),([],[]),([],[]),([],[]),([],[]),([],[]),([],[]),([],[]),([],[]),([],[]),([],[]),([],[]),([],[]),([],[]),([],[])] (S:=[]) Tryz_mix (by kernel_rfl) rfl (by kernel_rfl) (amF_cons (mono_V _) (amF_cons (mono_V _) (amF_cons (mono_V _) (amF_cons (mono_V _) (amF_cons (mono_V _) (amF_cons (mono_V _) (amF_cons (mono_V _) (amF_cons (mono_V _) (amF_cons (mono_V _) (amF_cons (mono_V _) (amF_cons (mono_V _) (amF_cons (mono_V _) (amF_cons (mono_V _) (amF_cons (mono_V _) (amF_cons (mono_V _) (amF_cons (mono_V _) (amF_cons (mono_V _) (amF_cons (mono_V _) (amF_cons (mono_V _) (amF_cons (mono_V _) (amF_cons (mono_V _) (amF_cons (mono_V _) (amF_cons (mono_V _) (amF_cons (mono_V _) (amF_cons (mono_V _) (amF_cons (mono_V _) (amF_cons (mono_V _) (amF_cons (mono_V _) amF_nil)))))))))))))))))))))))))))) hst ?_ (fun f w_ H52 hS52 hE52 hT52 hst=>?_)
 refine opsS_cons (fun f w_ _ _ s _ _ hst=>fA 1 fa_83_1 ((s 4 rfl).trans rfl) rfl (nO rfl rfl hst)) (opsS_cons (fun f w_ _ _ _ _ p hst=>ldB 0 hst Tryz.isAgg3 (p 0 17 rfl rfl) rfl rfl (nO rfl rfl hst)) (opsS_cons ?_ ?_))
 intro f w_ H52 X52 hS52 hE52 hP52 hst
 obtain ⟨H202b,l203,s204,z205,k206⟩:=hst.borrow
 refine L_call rfl Tryz.call56 (ops1 (hP52 1 18 rfl rfl)) (s_l1Lit_c (n_:=x_8.lit) s204 hx29) ?_
 rintro _ w207 ⟨rfl,hst⟩
 have hst:=k206 hst c0
 exact L_nil ⟨rfl,_,_,rfl,Le.refl _,fun _ _=>rfl,hst⟩
 refine opsS_cons (fun f w_ _ _ _ _ p hst=>L_not_ rfl (p 2 19 rfl rfl) (nO rfl rfl hst)) (opsS_cons (fun f w_ _ _ _ _ p hst=>mF (p 3 20 rfl rfl) rfl (nO rfl rfl hst)) (opsS_cons (fun f w_ _ _ s _ p hst=>L_fa (o':=0) (g_yes rfl (Eq.trans (p 4 21 rfl rfl) (congrArg Value.bool hc56)) rfl) fa_83_0 ((s 4 rfl).trans rfl) rfl (nO rfl rfl hst)) (opsS_cons (fun f w_ _ _ _ _ p hst=>L_ld (v:=I x_8.coef) (g_yes rfl (Eq.trans (p 4 21 rfl rfl) (congrArg Value.bool hc56)) rfl) Tryz.isAgg3 (p 5 22 rfl rfl) (At.cell0 (Blk.at (Star.blkAt 0 hst rfl)) (j:=0) rfl) (nO rfl rfl hst)) (opsS_cons (fun f w_ _ _ _ _ p hst=>L_lss (g_yes rfl (Eq.trans (p 4 21 rfl rfl) (congrArg Value.bool hc56)) rfl) (p 6 23 rfl rfl) rfl (nO rfl rfl hst)) (opsS_cons (fun f w_ _ _ _ _ p hst=>pkT (v:=Bo ((!x29) || (decide (x_8.coef < 1)))) (p 4 21 rfl rfl) hc56 rfl (or_f hc56 (p 7 24 rfl rfl)) (nO rfl rfl hst)) (opsS_cons (fun f w_ _ _ _ _ p hst=>mF (p 8 25 rfl rfl) rfl (nO rfl rfl hst)) (oP (fun _ _ p=>gN (p 9 26 rfl rfl) hc194 rfl) (fun _=>rfl) (oP (fun _ _ p=>gN (p 9 26 rfl rfl) hc194 rfl) (fun _=>rfl) (oP (fun _ _ p=>gN (p 9 26 rfl rfl) hc194 rfl) (fun _=>rfl) (opsS_cons (fun f w_ _ _ _ _ p hst=>pkT (v:=Bo (((!x29) || (decide (x_8.coef < 1))) || (decide (x_8.coef > 1000)))) (p 9 26 rfl rfl) hc194 rfl (or_t hc194) (nO rfl rfl hst)) (opsS_cons (fun f w_ _ _ _ _ p hst=>mF (p 13 30 rfl rfl) rfl (nO rfl rfl hst)) (oP (fun _ _ p=>gN (p 14 31 rfl rfl) hc195 rfl) (fun _=>rfl) (oP (fun _ _ p=>gN (p 14 31 rfl rfl) hc195 rfl) (fun _=>rfl) (oP (fun _ _ p=>gN (p 14 31 rfl rfl) hc195 rfl) (fun _=>rfl) (oP (fun _ _ p=>g_undef rfl (p 17 34 rfl rfl) rfl) (fun _=>rfl) (oP (fun _ _ p=>g_undef rfl (p 17 34 rfl rfl) rfl) (fun _=>rfl) (oP (fun _ _ p=>g_undef rfl (p 17 34 rfl rfl) rfl) (fun _=>rfl) (oP (fun _ _ p=>g_undef rfl (p 17 34 rfl rfl) rfl) (fun _=>rfl) (oP (fun _ _ p=>g_undef rfl (p 17 34 rfl rfl) rfl) (fun _=>rfl) (oP (fun _ _ p=>g_undef rfl (p 17 34 rfl rfl) rfl) (fun _=>rfl) (oP (fun _ _ p=>g_undef rfl (p 17 34 rfl rfl) rfl) (fun _=>rfl) (oP (fun _ _ p=>g_undef rfl (p 17 34 rfl rfl) rfl) (fun _=>rfl) (oP (fun _ _ p=>g_undef rfl (p 17 34 rfl rfl) rfl) (fun _=>rfl) (oP (fun _ _ p=>g_undef rfl (p 17 34 rfl rfl) rfl) (fun _=>rfl) (opsS_nil)))))))))))))))))))))))))
 refine ps (g_undef rfl (hT52 17 34 rfl rfl) rfl) (ps (g_undef rfl (hT52 17 34 rfl rfl) rfl) (ps (g_no rfl (Eq.trans (hT52 14 31 rfl rfl) (congrArg Value.bool hc195)) rfl rfl) (L_pick (v:=Bo b51) rfl (Eq.trans (hT52 14 31 rfl rfl) (congrArg Value.bool hc195)) (congrArg Value.bool (so hb51)) (nn ?_))))
 have hst:=hst.get 1 rfl
 exact rj hR55 ⟨H52,hE52,((hS52 1 rfl).trans sf1),((hS52 3 rfl).trans sf3),rfl,(Star.keepN 1 hst)⟩
 rw [ite_f hc195] at hb51
 obtain ⟨b50,hb50,hb51⟩:=bind_some hb51
 rcases Bool.eq_false_or_eq_true (decide ((i_5 : Int) > 0)) with hc208 | hc208
 rw [ite_t hc208] at hb50
 obtain ⟨x31,hx31,hb50⟩:=bind_some hb50
 obtain ⟨x41,hx41,hb50⟩:=bind_some hb50
 obtain ⟨x48,hx48,hb50⟩:=bind_some hb50
 refine W_drawS 28 [isV (Pq g21 1),isV (I x_8.lit),isV (Bo x29),isV (Bo (!x29)),isV (Bo (!x29)),isV (Pt g21),isV (I x_8.coef),isV (Bo (decide (x_8.coef < 1))),isV (Bo ((!x29) || (decide (x_8.coef < 1)))),isV (Bo ((!x29) || (decide (x_8.coef < 1)))),isV (undef),isV (undef),isV (undef),isV (Bo (((!x29) || (decide (x_8.coef < 1))) || (decide (x_8.coef > 1000)))),isV (Bo (((!x29) || (decide (x_8.coef < 1))) || (decide (x_8.coef > 1000)))),isV (I i_5),isV (Bo (decide ((i_5 : Int) > 0))),isV (Bo (decide ((i_5 : Int) > 0))),isV (Pt g3),isV (v0_0),isV (I i_5),isV (I (i64 ((i_5 : Int) - 1))),isEl rTerm x31 0,isEl rTerm x31 1,isV (I x31.lit),isV (I x41),isV (Pq g21 1),isV (I x_8.lit)] [box g21 83 #[I x_8.coef,I x_8.lit],box g3 54 #[v0_0,I c.bound]] [] ([]) [([],[]),([],[]),([],[]),([],[]),([],[]),([],[]),([],[]),([],[]),([],[]),([],[]),([],[]),([],[]),([],[]),([],[]),([],[]),([],[]),([],[]),([],[]),([],[]),([],[]),([],[]),([],[]),([],[]),([],[]),([],[]),([],[]),([],[]),([],[])] (S:=[]) Tryz_mix (by kernel_rfl) rfl (by kernel_rfl) (amF_cons (mono_V _) (amF_cons (mono_V _) (amF_cons (mono_V _) (amF_cons (mono_V _) (amF_cons (mono_V _) (amF_cons (mono_V _) (amF_cons (mono_V _) (amF_cons (mono_V _) (amF_cons (mono_V _) (amF_cons (mono_V _) (amF_cons (mono_V _) (amF_cons (mono_V _) (amF_cons (mono_V _) (amF_cons (mono_V _) (amF_cons (mono_V _) (amF_cons (mono_V _) (amF_cons (mono_V _) (amF_cons (mono_V _) (amF_cons (mono_V _) (amF_cons (mono_V _) (amF_cons (mono_V _) (amF_cons (mono_V _) (amF_cons (mono_el _ _ _) (amF_cons (mono_el _ _ _) (amF_cons (mono_V _) (amF_cons (mono_V _) (amF_cons (mono_V _) (amF_cons (mono_V _) amF_nil)))))))))))))))))))))))))))) hst ?_ (fun f w_ H52 hS52 hE52 hT52 hst=>?_)
 refine opsS_cons (fun f w_ _ _ s _ _ hst=>fA 1 fa_83_1 ((s 4 rfl).trans rfl) rfl (nO rfl rfl hst)) (opsS_cons (fun f w_ _ _ _ _ p hst=>ldB 0 hst Tryz.isAgg3 (p 0 17 rfl rfl) rfl rfl (nO rfl rfl hst)) (opsS_cons ?_ ?_))
 intro f w_ H52 X52 hS52 hE52 hP52 hst
 obtain ⟨H225b,l226,s227,z228,k229⟩:=hst.borrow
 refine L_call rfl Tryz.call56 (ops1 (hP52 1 18 rfl rfl)) (s_l1Lit_c (n_:=x_8.lit) s227 hx29) ?_
 rintro _ w230 ⟨rfl,hst⟩
 have hst:=k229 hst c0
 exact L_nil ⟨rfl,_,_,rfl,Le.refl _,fun _ _=>rfl,hst⟩
 refine opsS_cons (fun f w_ _ _ _ _ p hst=>L_not_ rfl (p 2 19 rfl rfl) (nO rfl rfl hst)) (opsS_cons (fun f w_ _ _ _ _ p hst=>mF (p 3 20 rfl rfl) rfl (nO rfl rfl hst)) (opsS_cons (fun f w_ _ _ s _ p hst=>L_fa (o':=0) (g_yes rfl (Eq.trans (p 4 21 rfl rfl) (congrArg Value.bool hc56)) rfl) fa_83_0 ((s 4 rfl).trans rfl) rfl (nO rfl rfl hst)) (opsS_cons (fun f w_ _ _ _ _ p hst=>L_ld (v:=I x_8.coef) (g_yes rfl (Eq.trans (p 4 21 rfl rfl) (congrArg Value.bool hc56)) rfl) Tryz.isAgg3 (p 5 22 rfl rfl) (At.cell0 (Blk.at (Star.blkAt 0 hst rfl)) (j:=0) rfl) (nO rfl rfl hst)) (opsS_cons (fun f w_ _ _ _ _ p hst=>L_lss (g_yes rfl (Eq.trans (p 4 21 rfl rfl) (congrArg Value.bool hc56)) rfl) (p 6 23 rfl rfl) rfl (nO rfl rfl hst)) (opsS_cons (fun f w_ _ _ _ _ p hst=>pkT (v:=Bo ((!x29) || (decide (x_8.coef < 1)))) (p 4 21 rfl rfl) hc56 rfl (or_f hc56 (p 7 24 rfl rfl)) (nO rfl rfl hst)) (opsS_cons (fun f w_ _ _ _ _ p hst=>mF (p 8 25 rfl rfl) rfl (nO rfl rfl hst)) (oP (fun _ _ p=>gN (p 9 26 rfl rfl) hc194 rfl) (fun _=>rfl) (oP (fun _ _ p=>gN (p 9 26 rfl rfl) hc194 rfl) (fun _=>rfl) (oP (fun _ _ p=>gN (p 9 26 rfl rfl) hc194 rfl) (fun _=>rfl) (opsS_cons (fun f w_ _ _ _ _ p hst=>pkT (v:=Bo (((!x29) || (decide (x_8.coef < 1))) || (decide (x_8.coef > 1000)))) (p 9 26 rfl rfl) hc194 rfl (or_t hc194) (nO rfl rfl hst)) (opsS_cons (fun f w_ _ _ _ _ p hst=>mF (p 13 30 rfl rfl) rfl (nO rfl rfl hst)) (opsS_cons (fun f w_ _ _ s _ p hst=>L_mv (v:=I i_5) (g_yes rfl (Eq.trans (p 14 31 rfl rfl) (congrArg Value.bool hc195)) rfl) ((s 3 rfl).trans sf3) (nO rfl rfl hst)) (opsS_cons (fun f w_ _ _ _ _ p hst=>L_gtr (g_yes rfl (Eq.trans (p 14 31 rfl rfl) (congrArg Value.bool hc195)) rfl) (p 15 32 rfl rfl) rfl (nO rfl rfl hst)) (opsS_cons (fun f w_ _ _ _ _ p hst=>L_mv (v:=Bo (decide ((i_5 : Int) > 0))) (g_yes rfl (Eq.trans (p 14 31 rfl rfl) (congrArg Value.bool hc195)) rfl) (p 16 33 rfl rfl) (nO rfl rfl hst)) (opsS_cons (fun f w_ _ _ s _ p hst=>L_fa (o':=0) (g_yes rfl (Eq.trans (p 17 34 rfl rfl) (congrArg Value.bool hc208)) rfl) fa_54_0 ((s 1 rfl).trans sf1) rfl (nO rfl rfl hst)) (opsS_cons (fun f w_ _ _ _ _ p hst=>L_ld (v:=v0_0) (g_yes rfl (Eq.trans (p 17 34 rfl rfl) (congrArg Value.bool hc208)) rfl) Tryz.isAgg52 (p 18 35 rfl rfl) (At.cell0 (Blk.at (Star.blkAt 1 hst rfl)) (j:=0) rfl) (nO rfl rfl hst)) (opsS_cons (fun f w_ _ _ s _ p hst=>L_mv (v:=I i_5) (g_yes rfl (Eq.trans (p 17 34 rfl rfl) (congrArg Value.bool hc208)) rfl) ((s 3 rfl).trans sf3) (nO rfl rfl hst)) (opsS_cons (fun f w_ _ _ _ _ p hst=>L_sub (g_yes rfl (Eq.trans (p 17 34 rfl rfl) (congrArg Value.bool hc208)) rfl) (p 20 37 rfl rfl) rfl (nO rfl rfl hst)) (opsS_cons ?_ ?_)))))))))))))))))))
 intro f w_ H52 X52 hS52 hE52 hP52 hst
 refine L_ix (r:=rTerm) (g_yes rfl (Eq.trans (hP52 17 34 rfl rfl) (congrArg Value.bool hc208)) rfl) Tryz.underlying52 Tryz.sizeOf83 (hP52 19 36 rfl rfl) (RP.mono _ h0_0 (Le.trans l7 hE52)) (hP52 21 38 rfl rfl) hx31 (fun g231 o232 cs_g231 hrk_hat233 hat233=>?_)
 obtain rfl:=rTerm_iff.1 hrk_hat233
 exact L_nil ⟨rfl,_,_,rfl,Le.refl _,fun _ _=>⟨_,_,_,rfl,hrk_hat233,hat233⟩,hst⟩
 refine opsS_cons ?_ ?_
 intro f w_ H52 X52 hS52 hE52 hP52 hst
 obtain ⟨g235,o235,cs235,hv235,hrk_hat235,hat235⟩:=(hP52 22 39 rfl rfl)
 obtain rfl:=rTerm_iff.1 hrk_hat235
 refine L_fa (o':=o235 + 1) (g_yes rfl (Eq.trans (hP52 17 34 rfl rfl) (congrArg Value.bool hc208)) rfl) fa_83_1 hv235 rfl (L_nil ⟨rfl,_,_,rfl,Le.refl _,fun _ _=>⟨_,_,_,rfl,hrk_hat235,hat235⟩,hst⟩)
 refine opsS_cons ?_ ?_
 intro f w_ H52 X52 hS52 hE52 hP52 hst
 obtain ⟨g237,o237,cs237,hv237,hrk_hat237,hat237⟩:=(hP52 23 40 rfl rfl)
 obtain rfl:=rTerm_iff.1 hrk_hat237
 refine L_ld (v:=I x31.lit) (g_yes rfl (Eq.trans (hP52 17 34 rfl rfl) (congrArg Value.bool hc208)) rfl) Tryz.isAgg3 hv237 (At.cell (AtH.at hat237 hst.sub) (j:=1) rfl) (L_nil ⟨rfl,_,_,rfl,Le.refl _,fun _ _=>rfl,hst⟩)
 refine opsS_cons ?_ ?_
 intro f w_ H52 X52 hS52 hE52 hP52 hst
 obtain ⟨H239b,l240,s241,z242,k243⟩:=hst.borrow
 refine L_call (g_yes rfl (Eq.trans (hP52 17 34 rfl rfl) (congrArg Value.bool hc208)) rfl) Tryz.call57 (ops1 (hP52 24 41 rfl rfl)) (s_l1Abs_c (n_:=x31.lit) s241 hx41) ?_
 rintro _ w244 ⟨rfl,hst⟩
 have hst:=k243 hst c0
 exact L_nil ⟨rfl,_,_,rfl,Le.refl _,fun _ _=>rfl,hst⟩
 refine opsS_cons (fun f w_ _ _ s _ p hst=>L_fa (o':=1) (g_yes rfl (Eq.trans (p 17 34 rfl rfl) (congrArg Value.bool hc208)) rfl) fa_83_1 ((s 4 rfl).trans rfl) rfl (nO rfl rfl hst)) (opsS_cons (fun f w_ _ _ _ _ p hst=>L_ld (v:=I x_8.lit) (g_yes rfl (Eq.trans (p 17 34 rfl rfl) (congrArg Value.bool hc208)) rfl) Tryz.isAgg3 (p 26 43 rfl rfl) (At.cell0 (Blk.at (Star.blkAt 0 hst rfl)) (j:=1) rfl) (nO rfl rfl hst)) (opsS_nil))
 obtain ⟨H245b,l246,s247,z248,k249⟩:=hst.borrow
 refine L_call (g_yes rfl (Eq.trans (hT52 17 34 rfl rfl) (congrArg Value.bool hc208)) rfl) Tryz.call57 (ops1 (hT52 27 44 rfl rfl)) (s_l1Abs_c (n_:=x_8.lit) s247 hx48) ?_
 rintro _ w250 ⟨rfl,hst⟩
 have hst:=k249 hst c0
 refine L_geq (g_yes rfl (Eq.trans (hT52 17 34 rfl rfl) (congrArg Value.bool hc208)) rfl) (hT52 25 42 rfl rfl) rfl (L_pick (v:=Bo b50) (g_yes rfl (Eq.trans (hT52 14 31 rfl rfl) (congrArg Value.bool hc195)) rfl) (Eq.trans (hT52 17 34 rfl rfl) (congrArg Value.bool hc208)) (congrArg Value.bool (so hb50)) (L_pick (v:=Bo b51) rfl (Eq.trans (hT52 14 31 rfl rfl) (congrArg Value.bool hc195)) (congrArg Value.bool (so hb51)) (nn ?_)))
 have hst:=hst.get 1 rfl
 exact rj hR55 ⟨H52,hE52,((hS52 1 rfl).trans sf1),((hS52 3 rfl).trans sf3),rfl,(Star.keepN 1 hst)⟩
 rw [ite_f hc208] at hb50
 refine W_drawS 28 [isV (Pq g21 1),isV (I x_8.lit),isV (Bo x29),isV (Bo (!x29)),isV (Bo (!x29)),isV (Pt g21),isV (I x_8.coef),isV (Bo (decide (x_8.coef < 1))),isV (Bo ((!x29) || (decide (x_8.coef < 1)))),isV (Bo ((!x29) || (decide (x_8.coef < 1)))),isV (undef),isV (undef),isV (undef),isV (Bo (((!x29) || (decide (x_8.coef < 1))) || (decide (x_8.coef > 1000)))),isV (Bo (((!x29) || (decide (x_8.coef < 1))) || (decide (x_8.coef > 1000)))),isV (I i_5),isV (Bo (decide ((i_5 : Int) > 0))),isV (Bo (decide ((i_5 : Int) > 0))),isV (undef),isV (undef),isV (undef),isV (undef),isV (undef),isV (undef),isV (undef),isV (undef),isV (undef),isV (undef)] [box g21 83 #[I x_8.coef,I x_8.lit],box g3 54 #[v0_0,I c.bound]] [] ([]) [([],[]),([],[]),([],[]),([],[]),([],[]),([],[]),([],[]),([],[]),([],[]),([],[]),([],[]),([],[]),([],[]),([],[]),([],[]),([],[]),([],[]),([],[]),([],[]),([],[]),([],[]),([],[]),([],[]),([],[]),([],[]),([],[]),([],[]),([],[])] (S:=[]) Tryz_mix (by kernel_rfl) rfl (by kernel_rfl) (amF_cons (mono_V _) (amF_cons (mono_V _) (amF_cons (mono_V _) (amF_cons (mono_V _) (amF_cons (mono_V _) (amF_cons (mono_V _) (amF_cons (mono_V _) (amF_cons (mono_V _) (amF_cons (mono_V _) (amF_cons (mono_V _) (amF_cons (mono_V _) (amF_cons (mono_V _) (amF_cons (mono_V _) (amF_cons (mono_V _) (amF_cons (mono_V _) (amF_cons (mono_V _) (amF_cons (mono_V _) (amF_cons (mono_V _) (amF_cons (mono_V _) (amF_cons (mono_V _) (amF_cons (mono_V _) (amF_cons (mono_V _) (amF_cons (mono_V _) (amF_cons (mono_V _) (amF_cons (mono_V _) (amF_cons (mono_V _) (amF_cons (mono_V _) (amF_cons (mono_V _) amF_nil)))))))))))))))))))))))))))) hst ?_ (fun f w_ H52 hS52 hE52 hT52 hst=>?_)
 refine opsS_cons (fun f w_ _ _ s _ _ hst=>fA 1 fa_83_1 ((s 4 rfl).trans rfl) rfl (nO rfl rfl hst)) (opsS_cons (fun f w_ _ _ _ _ p hst=>ldB 0 hst Tryz.isAgg3 (p 0 17 rfl rfl) rfl rfl (nO rfl rfl hst)) (opsS_cons ?_ ?_))
 intro f w_ H52 X52 hS52 hE52 hP52 hst
 obtain ⟨H257b,l258,s259,z260,k261⟩:=hst.borrow
 refine L_call rfl Tryz.call56 (ops1 (hP52 1 18 rfl rfl)) (s_l1Lit_c (n_:=x_8.lit) s259 hx29) ?_
 rintro _ w262 ⟨rfl,hst⟩
 have hst:=k261 hst c0
 exact L_nil ⟨rfl,_,_,rfl,Le.refl _,fun _ _=>rfl,hst⟩
 refine opsS_cons (fun f w_ _ _ _ _ p hst=>L_not_ rfl (p 2 19 rfl rfl) (nO rfl rfl hst)) (opsS_cons (fun f w_ _ _ _ _ p hst=>mF (p 3 20 rfl rfl) rfl (nO rfl rfl hst)) (opsS_cons (fun f w_ _ _ s _ p hst=>L_fa (o':=0) (g_yes rfl (Eq.trans (p 4 21 rfl rfl) (congrArg Value.bool hc56)) rfl) fa_83_0 ((s 4 rfl).trans rfl) rfl (nO rfl rfl hst)) (opsS_cons (fun f w_ _ _ _ _ p hst=>L_ld (v:=I x_8.coef) (g_yes rfl (Eq.trans (p 4 21 rfl rfl) (congrArg Value.bool hc56)) rfl) Tryz.isAgg3 (p 5 22 rfl rfl) (At.cell0 (Blk.at (Star.blkAt 0 hst rfl)) (j:=0) rfl) (nO rfl rfl hst)) (opsS_cons (fun f w_ _ _ _ _ p hst=>L_lss (g_yes rfl (Eq.trans (p 4 21 rfl rfl) (congrArg Value.bool hc56)) rfl) (p 6 23 rfl rfl) rfl (nO rfl rfl hst)) (opsS_cons (fun f w_ _ _ _ _ p hst=>pkT (v:=Bo ((!x29) || (decide (x_8.coef < 1)))) (p 4 21 rfl rfl) hc56 rfl (or_f hc56 (p 7 24 rfl rfl)) (nO rfl rfl hst)) (opsS_cons (fun f w_ _ _ _ _ p hst=>mF (p 8 25 rfl rfl) rfl (nO rfl rfl hst)) (oP (fun _ _ p=>gN (p 9 26 rfl rfl) hc194 rfl) (fun _=>rfl) (oP (fun _ _ p=>gN (p 9 26 rfl rfl) hc194 rfl) (fun _=>rfl) (oP (fun _ _ p=>gN (p 9 26 rfl rfl) hc194 rfl) (fun _=>rfl) (opsS_cons (fun f w_ _ _ _ _ p hst=>pkT (v:=Bo (((!x29) || (decide (x_8.coef < 1))) || (decide (x_8.coef > 1000)))) (p 9 26 rfl rfl) hc194 rfl (or_t hc194) (nO rfl rfl hst)) (opsS_cons (fun f w_ _ _ _ _ p hst=>mF (p 13 30 rfl rfl) rfl (nO rfl rfl hst)) (opsS_cons (fun f w_ _ _ s _ p hst=>L_mv (v:=I i_5) (g_yes rfl (Eq.trans (p 14 31 rfl rfl) (congrArg Value.bool hc195)) rfl) ((s 3 rfl).trans sf3) (nO rfl rfl hst)) (opsS_cons (fun f w_ _ _ _ _ p hst=>L_gtr (g_yes rfl (Eq.trans (p 14 31 rfl rfl) (congrArg Value.bool hc195)) rfl) (p 15 32 rfl rfl) rfl (nO rfl rfl hst)) (opsS_cons (fun f w_ _ _ _ _ p hst=>L_mv (v:=Bo (decide ((i_5 : Int) > 0))) (g_yes rfl (Eq.trans (p 14 31 rfl rfl) (congrArg Value.bool hc195)) rfl) (p 16 33 rfl rfl) (nO rfl rfl hst)) (oP (fun _ _ p=>gN (p 17 34 rfl rfl) hc208 rfl) (fun _=>rfl) (oP (fun _ _ p=>gN (p 17 34 rfl rfl) hc208 rfl) (fun _=>rfl) (oP (fun _ _ p=>gN (p 17 34 rfl rfl) hc208 rfl) (fun _=>rfl) (oP (fun _ _ p=>gN (p 17 34 rfl rfl) hc208 rfl) (fun _=>rfl) (oP (fun _ _ p=>gN (p 17 34 rfl rfl) hc208 rfl) (fun _=>rfl) (oP (fun _ _ p=>gN (p 17 34 rfl rfl) hc208 rfl) (fun _=>rfl) (oP (fun _ _ p=>gN (p 17 34 rfl rfl) hc208 rfl) (fun _=>rfl) (oP (fun _ _ p=>gN (p 17 34 rfl rfl) hc208 rfl) (fun _=>rfl) (oP (fun _ _ p=>gN (p 17 34 rfl rfl) hc208 rfl) (fun _=>rfl) (oP (fun _ _ p=>gN (p 17 34 rfl rfl) hc208 rfl) (fun _=>rfl) (opsS_nil)))))))))))))))))))))))))
 refine ps (g_no rfl (Eq.trans (hT52 17 34 rfl rfl) (congrArg Value.bool hc208)) rfl rfl) (ps (g_no rfl (Eq.trans (hT52 17 34 rfl rfl) (congrArg Value.bool hc208)) rfl rfl) (L_pick (v:=Bo b50) (g_yes rfl (Eq.trans (hT52 14 31 rfl rfl) (congrArg Value.bool hc195)) rfl) (Eq.trans (hT52 17 34 rfl rfl) (congrArg Value.bool hc208)) (congrArg Value.bool (so hb50)) (L_pick (v:=Bo b51) rfl (Eq.trans (hT52 14 31 rfl rfl) (congrArg Value.bool hc195)) (congrArg Value.bool (so hb51)) (nn ?_))))
 have hst:=hst.get 1 rfl
 exact rj hR55 ⟨H52,hE52,((hS52 1 rfl).trans sf1),((hS52 3 rfl).trans sf3),rfl,(Star.keepN 1 hst)⟩
 rcases Bool.eq_false_or_eq_true (((!x29) || (decide (x_8.coef < 1))) || (decide (x_8.coef > 1000))) with hc263 | hc263
 rw [ite_t hc263] at hb51
 refine W_drawS 28 [isV (Pq g21 1),isV (I x_8.lit),isV (Bo x29),isV (Bo (!x29)),isV (Bo (!x29)),isV (Pt g21),isV (I x_8.coef),isV (Bo (decide (x_8.coef < 1))),isV (Bo ((!x29) || (decide (x_8.coef < 1)))),isV (Bo ((!x29) || (decide (x_8.coef < 1)))),isV (Pt g21),isV (I x_8.coef),isV (Bo (decide (x_8.coef > 1000))),isV (Bo (((!x29) || (decide (x_8.coef < 1))) || (decide (x_8.coef > 1000)))),isV (Bo (((!x29) || (decide (x_8.coef < 1))) || (decide (x_8.coef > 1000)))),isV (undef),isV (undef),isV (undef),isV (undef),isV (undef),isV (undef),isV (undef),isV (undef),isV (undef),isV (undef),isV (undef),isV (undef),isV (undef)] [box g21 83 #[I x_8.coef,I x_8.lit],box g3 54 #[v0_0,I c.bound]] [] ([]) [([],[]),([],[]),([],[]),([],[]),([],[]),([],[]),([],[]),([],[]),([],[]),([],[]),([],[]),([],[]),([],[]),([],[]),([],[]),([],[]),([],[]),([],[]),([],[]),([],[]),([],[]),([],[]),([],[]),([],[]),([],[]),([],[]),([],[]),([],[])] (S:=[]) Tryz_mix (by kernel_rfl) rfl (by kernel_rfl) (amF_cons (mono_V _) (amF_cons (mono_V _) (amF_cons (mono_V _) (amF_cons (mono_V _) (amF_cons (mono_V _) (amF_cons (mono_V _) (amF_cons (mono_V _) (amF_cons (mono_V _) (amF_cons (mono_V _) (amF_cons (mono_V _) (amF_cons (mono_V _) (amF_cons (mono_V _) (amF_cons (mono_V _) (amF_cons (mono_V _) (amF_cons (mono_V _) (amF_cons (mono_V _) (amF_cons (mono_V _) (amF_cons (mono_V _) (amF_cons (mono_V _) (amF_cons (mono_V _) (amF_cons (mono_V _) (amF_cons (mono_V _) (amF_cons (mono_V _) (amF_cons (mono_V _) (amF_cons (mono_V _) (amF_cons (mono_V _) (amF_cons (mono_V _) (amF_cons (mono_V _) amF_nil)))))))))))))))))))))))))))) hst ?_ (fun f w_ H52 hS52 hE52 hT52 hst=>?_)
 refine opsS_cons (fun f w_ _ _ s _ _ hst=>fA 1 fa_83_1 ((s 4 rfl).trans rfl) rfl (nO rfl rfl hst)) (opsS_cons (fun f w_ _ _ _ _ p hst=>ldB 0 hst Tryz.isAgg3 (p 0 17 rfl rfl) rfl rfl (nO rfl rfl hst)) (opsS_cons ?_ ?_))
 intro f w_ H52 X52 hS52 hE52 hP52 hst
 obtain ⟨H270b,l271,s272,z273,k274⟩:=hst.borrow
 refine L_call rfl Tryz.call56 (ops1 (hP52 1 18 rfl rfl)) (s_l1Lit_c (n_:=x_8.lit) s272 hx29) ?_
 rintro _ w275 ⟨rfl,hst⟩
 have hst:=k274 hst c0
 exact L_nil ⟨rfl,_,_,rfl,Le.refl _,fun _ _=>rfl,hst⟩
 refine opsS_cons (fun f w_ _ _ _ _ p hst=>L_not_ rfl (p 2 19 rfl rfl) (nO rfl rfl hst)) (opsS_cons (fun f w_ _ _ _ _ p hst=>mF (p 3 20 rfl rfl) rfl (nO rfl rfl hst)) (opsS_cons (fun f w_ _ _ s _ p hst=>L_fa (o':=0) (g_yes rfl (Eq.trans (p 4 21 rfl rfl) (congrArg Value.bool hc56)) rfl) fa_83_0 ((s 4 rfl).trans rfl) rfl (nO rfl rfl hst)) (opsS_cons (fun f w_ _ _ _ _ p hst=>L_ld (v:=I x_8.coef) (g_yes rfl (Eq.trans (p 4 21 rfl rfl) (congrArg Value.bool hc56)) rfl) Tryz.isAgg3 (p 5 22 rfl rfl) (At.cell0 (Blk.at (Star.blkAt 0 hst rfl)) (j:=0) rfl) (nO rfl rfl hst)) (opsS_cons (fun f w_ _ _ _ _ p hst=>L_lss (g_yes rfl (Eq.trans (p 4 21 rfl rfl) (congrArg Value.bool hc56)) rfl) (p 6 23 rfl rfl) rfl (nO rfl rfl hst)) (opsS_cons (fun f w_ _ _ _ _ p hst=>pkT (v:=Bo ((!x29) || (decide (x_8.coef < 1)))) (p 4 21 rfl rfl) hc56 rfl (or_f hc56 (p 7 24 rfl rfl)) (nO rfl rfl hst)) (opsS_cons (fun f w_ _ _ _ _ p hst=>mF (p 8 25 rfl rfl) rfl (nO rfl rfl hst)) (opsS_cons (fun f w_ _ _ s _ p hst=>L_fa (o':=0) (g_yes rfl (Eq.trans (p 9 26 rfl rfl) (congrArg Value.bool hc194)) rfl) fa_83_0 ((s 4 rfl).trans rfl) rfl (nO rfl rfl hst)) (opsS_cons (fun f w_ _ _ _ _ p hst=>L_ld (v:=I x_8.coef) (g_yes rfl (Eq.trans (p 9 26 rfl rfl) (congrArg Value.bool hc194)) rfl) Tryz.isAgg3 (p 10 27 rfl rfl) (At.cell0 (Blk.at (Star.blkAt 0 hst rfl)) (j:=0) rfl) (nO rfl rfl hst)) (opsS_cons (fun f w_ _ _ _ _ p hst=>L_gtr (g_yes rfl (Eq.trans (p 9 26 rfl rfl) (congrArg Value.bool hc194)) rfl) (p 11 28 rfl rfl) rfl (nO rfl rfl hst)) (opsS_cons (fun f w_ _ _ _ _ p hst=>pkT (v:=Bo (((!x29) || (decide (x_8.coef < 1))) || (decide (x_8.coef > 1000)))) (p 9 26 rfl rfl) hc194 rfl (or_f hc194 (p 12 29 rfl rfl)) (nO rfl rfl hst)) (opsS_cons (fun f w_ _ _ _ _ p hst=>mF (p 13 30 rfl rfl) rfl (nO rfl rfl hst)) (oP (fun _ _ p=>gN (p 14 31 rfl rfl) hc263 rfl) (fun _=>rfl) (oP (fun _ _ p=>gN (p 14 31 rfl rfl) hc263 rfl) (fun _=>rfl) (oP (fun _ _ p=>gN (p 14 31 rfl rfl) hc263 rfl) (fun _=>rfl) (oP (fun _ _ p=>g_undef rfl (p 17 34 rfl rfl) rfl) (fun _=>rfl) (oP (fun _ _ p=>g_undef rfl (p 17 34 rfl rfl) rfl) (fun _=>rfl) (oP (fun _ _ p=>g_undef rfl (p 17 34 rfl rfl) rfl) (fun _=>rfl) (oP (fun _ _ p=>g_undef rfl (p 17 34 rfl rfl) rfl) (fun _=>rfl) (oP (fun _ _ p=>g_undef rfl (p 17 34 rfl rfl) rfl) (fun _=>rfl) (oP (fun _ _ p=>g_undef rfl (p 17 34 rfl rfl) rfl) (fun _=>rfl) (oP (fun _ _ p=>g_undef rfl (p 17 34 rfl rfl) rfl) (fun _=>rfl) (oP (fun _ _ p=>g_undef rfl (p 17 34 rfl rfl) rfl) (fun _=>rfl) (oP (fun _ _ p=>g_undef rfl (p 17 34 rfl rfl) rfl) (fun _=>rfl) (oP (fun _ _ p=>g_undef rfl (p 17 34 rfl rfl) rfl) (fun _=>rfl) (opsS_nil)))))))))))))))))))))))))
 refine ps (g_undef rfl (hT52 17 34 rfl rfl) rfl) (ps (g_undef rfl (hT52 17 34 rfl rfl) rfl) (ps (g_no rfl (Eq.trans (hT52 14 31 rfl rfl) (congrArg Value.bool hc263)) rfl rfl) (L_pick (v:=Bo b51) rfl (Eq.trans (hT52 14 31 rfl rfl) (congrArg Value.bool hc263)) (congrArg Value.bool (so hb51)) (nn ?_))))
 have hst:=hst.get 1 rfl
 exact rj hR55 ⟨H52,hE52,((hS52 1 rfl).trans sf1),((hS52 3 rfl).trans sf3),rfl,(Star.keepN 1 hst)⟩
 rw [ite_f hc263] at hb51
 obtain ⟨b50,hb50,hb51⟩:=bind_some hb51
 rcases Bool.eq_false_or_eq_true (decide ((i_5 : Int) > 0)) with hc276 | hc276
 rw [ite_t hc276] at hb50
 obtain ⟨x31,hx31,hb50⟩:=bind_some hb50
 obtain ⟨x41,hx41,hb50⟩:=bind_some hb50
 obtain ⟨x48,hx48,hb50⟩:=bind_some hb50
 refine W_drawS 28 [isV (Pq g21 1),isV (I x_8.lit),isV (Bo x29),isV (Bo (!x29)),isV (Bo (!x29)),isV (Pt g21),isV (I x_8.coef),isV (Bo (decide (x_8.coef < 1))),isV (Bo ((!x29) || (decide (x_8.coef < 1)))),isV (Bo ((!x29) || (decide (x_8.coef < 1)))),isV (Pt g21),isV (I x_8.coef),isV (Bo (decide (x_8.coef > 1000))),isV (Bo (((!x29) || (decide (x_8.coef < 1))) || (decide (x_8.coef > 1000)))),isV (Bo (((!x29) || (decide (x_8.coef < 1))) || (decide (x_8.coef > 1000)))),isV (I i_5),isV (Bo (decide ((i_5 : Int) > 0))),isV (Bo (decide ((i_5 : Int) > 0))),isV (Pt g3),isV (v0_0),isV (I i_5),isV (I (i64 ((i_5 : Int) - 1))),isEl rTerm x31 0,isEl rTerm x31 1,isV (I x31.lit),isV (I x41),isV (Pq g21 1),isV (I x_8.lit)] [box g21 83 #[I x_8.coef,I x_8.lit],box g3 54 #[v0_0,I c.bound]] [] ([]) [([],[]),([],[]),([],[]),([],[]),([],[]),([],[]),([],[]),([],[]),([],[]),([],[]),([],[]),([],[]),([],[]),([],[]),([],[]),([],[]),([],[]),([],[]),([],[]),([],[]),([],[]),([],[]),([],[]),([],[]),([],[]),([],[]),([],[]),([],[])] (S:=[]) Tryz_mix (by kernel_rfl) rfl (by kernel_rfl) (amF_cons (mono_V _) (amF_cons (mono_V _) (amF_cons (mono_V _) (amF_cons (mono_V _) (amF_cons (mono_V _) (amF_cons (mono_V _) (amF_cons (mono_V _) (amF_cons (mono_V _) (amF_cons (mono_V _) (amF_cons (mono_V _) (amF_cons (mono_V _) (amF_cons (mono_V _) (amF_cons (mono_V _) (amF_cons (mono_V _) (amF_cons (mono_V _) (amF_cons (mono_V _) (amF_cons (mono_V _) (amF_cons (mono_V _) (amF_cons (mono_V _) (amF_cons (mono_V _) (amF_cons (mono_V _) (amF_cons (mono_V _) (amF_cons (mono_el _ _ _) (amF_cons (mono_el _ _ _) (amF_cons (mono_V _) (amF_cons (mono_V _) (amF_cons (mono_V _) (amF_cons (mono_V _) amF_nil)))))))))))))))))))))))))))) hst ?_ (fun f w_ H52 hS52 hE52 hT52 hst=>?_)
 refine opsS_cons (fun f w_ _ _ s _ _ hst=>fA 1 fa_83_1 ((s 4 rfl).trans rfl) rfl (nO rfl rfl hst)) (opsS_cons (fun f w_ _ _ _ _ p hst=>ldB 0 hst Tryz.isAgg3 (p 0 17 rfl rfl) rfl rfl (nO rfl rfl hst)) (opsS_cons ?_ ?_))
 intro f w_ H52 X52 hS52 hE52 hP52 hst
 obtain ⟨H293b,l294,s295,z296,k297⟩:=hst.borrow
 refine L_call rfl Tryz.call56 (ops1 (hP52 1 18 rfl rfl)) (s_l1Lit_c (n_:=x_8.lit) s295 hx29) ?_
 rintro _ w298 ⟨rfl,hst⟩
 have hst:=k297 hst c0
 exact L_nil ⟨rfl,_,_,rfl,Le.refl _,fun _ _=>rfl,hst⟩
 refine opsS_cons (fun f w_ _ _ _ _ p hst=>L_not_ rfl (p 2 19 rfl rfl) (nO rfl rfl hst)) (opsS_cons (fun f w_ _ _ _ _ p hst=>mF (p 3 20 rfl rfl) rfl (nO rfl rfl hst)) (opsS_cons (fun f w_ _ _ s _ p hst=>L_fa (o':=0) (g_yes rfl (Eq.trans (p 4 21 rfl rfl) (congrArg Value.bool hc56)) rfl) fa_83_0 ((s 4 rfl).trans rfl) rfl (nO rfl rfl hst)) (opsS_cons (fun f w_ _ _ _ _ p hst=>L_ld (v:=I x_8.coef) (g_yes rfl (Eq.trans (p 4 21 rfl rfl) (congrArg Value.bool hc56)) rfl) Tryz.isAgg3 (p 5 22 rfl rfl) (At.cell0 (Blk.at (Star.blkAt 0 hst rfl)) (j:=0) rfl) (nO rfl rfl hst)) (opsS_cons (fun f w_ _ _ _ _ p hst=>L_lss (g_yes rfl (Eq.trans (p 4 21 rfl rfl) (congrArg Value.bool hc56)) rfl) (p 6 23 rfl rfl) rfl (nO rfl rfl hst)) (opsS_cons (fun f w_ _ _ _ _ p hst=>pkT (v:=Bo ((!x29) || (decide (x_8.coef < 1)))) (p 4 21 rfl rfl) hc56 rfl (or_f hc56 (p 7 24 rfl rfl)) (nO rfl rfl hst)) (opsS_cons (fun f w_ _ _ _ _ p hst=>mF (p 8 25 rfl rfl) rfl (nO rfl rfl hst)) (opsS_cons (fun f w_ _ _ s _ p hst=>L_fa (o':=0) (g_yes rfl (Eq.trans (p 9 26 rfl rfl) (congrArg Value.bool hc194)) rfl) fa_83_0 ((s 4 rfl).trans rfl) rfl (nO rfl rfl hst)) (opsS_cons (fun f w_ _ _ _ _ p hst=>L_ld (v:=I x_8.coef) (g_yes rfl (Eq.trans (p 9 26 rfl rfl) (congrArg Value.bool hc194)) rfl) Tryz.isAgg3 (p 10 27 rfl rfl) (At.cell0 (Blk.at (Star.blkAt 0 hst rfl)) (j:=0) rfl) (nO rfl rfl hst)) (opsS_cons (fun f w_ _ _ _ _ p hst=>L_gtr (g_yes rfl (Eq.trans (p 9 26 rfl rfl) (congrArg Value.bool hc194)) rfl) (p 11 28 rfl rfl) rfl (nO rfl rfl hst)) (opsS_cons (fun f w_ _ _ _ _ p hst=>pkT (v:=Bo (((!x29) || (decide (x_8.coef < 1))) || (decide (x_8.coef > 1000)))) (p 9 26 rfl rfl) hc194 rfl (or_f hc194 (p 12 29 rfl rfl)) (nO rfl rfl hst)) (opsS_cons (fun f w_ _ _ _ _ p hst=>mF (p 13 30 rfl rfl) rfl (nO rfl rfl hst)) (opsS_cons (fun f w_ _ _ s _ p hst=>L_mv (v:=I i_5) (g_yes rfl (Eq.trans (p 14 31 rfl rfl) (congrArg Value.bool hc263)) rfl) ((s 3 rfl).trans sf3) (nO rfl rfl hst)) (opsS_cons (fun f w_ _ _ _ _ p hst=>L_gtr (g_yes rfl (Eq.trans (p 14 31 rfl rfl) (congrArg Value.bool hc263)) rfl) (p 15 32 rfl rfl) rfl (nO rfl rfl hst)) (opsS_cons (fun f w_ _ _ _ _ p hst=>L_mv (v:=Bo (decide ((i_5 : Int) > 0))) (g_yes rfl (Eq.trans (p 14 31 rfl rfl) (congrArg Value.bool hc263)) rfl) (p 16 33 rfl rfl) (nO rfl rfl hst)) (opsS_cons (fun f w_ _ _ s _ p hst=>L_fa (o':=0) (g_yes rfl (Eq.trans (p 17 34 rfl rfl) (congrArg Value.bool hc276)) rfl) fa_54_0 ((s 1 rfl).trans sf1) rfl (nO rfl rfl hst)) (opsS_cons (fun f w_ _ _ _ _ p hst=>L_ld (v:=v0_0) (g_yes rfl (Eq.trans (p 17 34 rfl rfl) (congrArg Value.bool hc276)) rfl) Tryz.isAgg52 (p 18 35 rfl rfl) (At.cell0 (Blk.at (Star.blkAt 1 hst rfl)) (j:=0) rfl) (nO rfl rfl hst)) (opsS_cons (fun f w_ _ _ s _ p hst=>L_mv (v:=I i_5) (g_yes rfl (Eq.trans (p 17 34 rfl rfl) (congrArg Value.bool hc276)) rfl) ((s 3 rfl).trans sf3) (nO rfl rfl hst)) (opsS_cons (fun f w_ _ _ _ _ p hst=>L_sub (g_yes rfl (Eq.trans (p 17 34 rfl rfl) (congrArg Value.bool hc276)) rfl) (p 20 37 rfl rfl) rfl (nO rfl rfl hst)) (opsS_cons ?_ ?_)))))))))))))))))))
 intro f w_ H52 X52 hS52 hE52 hP52 hst
 refine L_ix (r:=rTerm) (g_yes rfl (Eq.trans (hP52 17 34 rfl rfl) (congrArg Value.bool hc276)) rfl) Tryz.underlying52 Tryz.sizeOf83 (hP52 19 36 rfl rfl) (RP.mono _ h0_0 (Le.trans l7 hE52)) (hP52 21 38 rfl rfl) hx31 (fun g299 o300 cs_g299 hrk_hat301 hat301=>?_)
 obtain rfl:=rTerm_iff.1 hrk_hat301
 exact L_nil ⟨rfl,_,_,rfl,Le.refl _,fun _ _=>⟨_,_,_,rfl,hrk_hat301,hat301⟩,hst⟩
 refine opsS_cons ?_ ?_
 intro f w_ H52 X52 hS52 hE52 hP52 hst
 obtain ⟨g303,o303,cs303,hv303,hrk_hat303,hat303⟩:=(hP52 22 39 rfl rfl)
 obtain rfl:=rTerm_iff.1 hrk_hat303
 refine L_fa (o':=o303 + 1) (g_yes rfl (Eq.trans (hP52 17 34 rfl rfl) (congrArg Value.bool hc276)) rfl) fa_83_1 hv303 rfl (L_nil ⟨rfl,_,_,rfl,Le.refl _,fun _ _=>⟨_,_,_,rfl,hrk_hat303,hat303⟩,hst⟩)
 refine opsS_cons ?_ ?_
 intro f w_ H52 X52 hS52 hE52 hP52 hst
 obtain ⟨g305,o305,cs305,hv305,hrk_hat305,hat305⟩:=(hP52 23 40 rfl rfl)
 obtain rfl:=rTerm_iff.1 hrk_hat305
 refine L_ld (v:=I x31.lit) (g_yes rfl (Eq.trans (hP52 17 34 rfl rfl) (congrArg Value.bool hc276)) rfl) Tryz.isAgg3 hv305 (At.cell (AtH.at hat305 hst.sub) (j:=1) rfl) (L_nil ⟨rfl,_,_,rfl,Le.refl _,fun _ _=>rfl,hst⟩)
 refine opsS_cons ?_ ?_
 intro f w_ H52 X52 hS52 hE52 hP52 hst
 obtain ⟨H307b,l308,s309,z310,k311⟩:=hst.borrow
 refine L_call (g_yes rfl (Eq.trans (hP52 17 34 rfl rfl) (congrArg Value.bool hc276)) rfl) Tryz.call57 (ops1 (hP52 24 41 rfl rfl)) (s_l1Abs_c (n_:=x31.lit) s309 hx41) ?_
 rintro _ w312 ⟨rfl,hst⟩
 have hst:=k311 hst c0
 exact L_nil ⟨rfl,_,_,rfl,Le.refl _,fun _ _=>rfl,hst⟩
 refine opsS_cons (fun f w_ _ _ s _ p hst=>L_fa (o':=1) (g_yes rfl (Eq.trans (p 17 34 rfl rfl) (congrArg Value.bool hc276)) rfl) fa_83_1 ((s 4 rfl).trans rfl) rfl (nO rfl rfl hst)) (opsS_cons (fun f w_ _ _ _ _ p hst=>L_ld (v:=I x_8.lit) (g_yes rfl (Eq.trans (p 17 34 rfl rfl) (congrArg Value.bool hc276)) rfl) Tryz.isAgg3 (p 26 43 rfl rfl) (At.cell0 (Blk.at (Star.blkAt 0 hst rfl)) (j:=1) rfl) (nO rfl rfl hst)) (opsS_nil))
 obtain ⟨H313b,l314,s315,z316,k317⟩:=hst.borrow
 refine L_call (g_yes rfl (Eq.trans (hT52 17 34 rfl rfl) (congrArg Value.bool hc276)) rfl) Tryz.call57 (ops1 (hT52 27 44 rfl rfl)) (s_l1Abs_c (n_:=x_8.lit) s315 hx48) ?_
 rintro _ w318 ⟨rfl,hst⟩
 have hst:=k317 hst c0
 refine L_geq (g_yes rfl (Eq.trans (hT52 17 34 rfl rfl) (congrArg Value.bool hc276)) rfl) (hT52 25 42 rfl rfl) rfl (L_pick (v:=Bo b50) (g_yes rfl (Eq.trans (hT52 14 31 rfl rfl) (congrArg Value.bool hc263)) rfl) (Eq.trans (hT52 17 34 rfl rfl) (congrArg Value.bool hc276)) (congrArg Value.bool (so hb50)) (L_pick (v:=Bo b51) rfl (Eq.trans (hT52 14 31 rfl rfl) (congrArg Value.bool hc263)) (congrArg Value.bool (so hb51)) (nn ?_)))
 have hst:=hst.get 1 rfl
 exact rj hR55 ⟨H52,hE52,((hS52 1 rfl).trans sf1),((hS52 3 rfl).trans sf3),rfl,(Star.keepN 1 hst)⟩
 rw [ite_f hc276] at hb50
 refine W_drawS 28 [isV (Pq g21 1),isV (I x_8.lit),isV (Bo x29),isV (Bo (!x29)),isV (Bo (!x29)),isV (Pt g21),isV (I x_8.coef),isV (Bo (decide (x_8.coef < 1))),isV (Bo ((!x29) || (decide (x_8.coef < 1)))),isV (Bo ((!x29) || (decide (x_8.coef < 1)))),isV (Pt g21),isV (I x_8.coef),isV (Bo (decide (x_8.coef > 1000))),isV (Bo (((!x29) || (decide (x_8.coef < 1))) || (decide (x_8.coef > 1000)))),isV (Bo (((!x29) || (decide (x_8.coef < 1))) || (decide (x_8.coef > 1000)))),isV (I i_5),isV (Bo (decide ((i_5 : Int) > 0))),isV (Bo (decide ((i_5 : Int) > 0))),isV (undef),isV (undef),isV (undef),isV (undef),isV (undef),isV (undef),isV (undef),isV (undef),isV (undef),isV (undef)] [box g21 83 #[I x_8.coef,I x_8.lit],box g3 54 #[v0_0,I c.bound]] [] ([]) [([],[]),([],[]),([],[]),([],[]),([],[]),([],[]),([],[]),([],[]),([],[]),([],[]),([],[]),([],[]),([],[]),([],[]),([],[]),([],[]),([],[]),([],[]),([],[]),([],[]),([],[]),([],[]),([],[]),([],[]),([],[]),([],[]),([],[]),([],[])] (S:=[]) Tryz_mix (by kernel_rfl) rfl (by kernel_rfl) (amF_cons (mono_V _) (amF_cons (mono_V _) (amF_cons (mono_V _) (amF_cons (mono_V _) (amF_cons (mono_V _) (amF_cons (mono_V _) (amF_cons (mono_V _) (amF_cons (mono_V _) (amF_cons (mono_V _) (amF_cons (mono_V _) (amF_cons (mono_V _) (amF_cons (mono_V _) (amF_cons (mono_V _) (amF_cons (mono_V _) (amF_cons (mono_V _) (amF_cons (mono_V _) (amF_cons (mono_V _) (amF_cons (mono_V _) (amF_cons (mono_V _) (amF_cons (mono_V _) (amF_cons (mono_V _) (amF_cons (mono_V _) (amF_cons (mono_V _) (amF_cons (mono_V _) (amF_cons (mono_V _) (amF_cons (mono_V _) (amF_cons (mono_V _) (amF_cons (mono_V _) amF_nil)))))))))))))))))))))))))))) hst ?_ (fun f w_ H52 hS52 hE52 hT52 hst=>?_)
 refine opsS_cons (fun f w_ _ _ s _ _ hst=>fA 1 fa_83_1 ((s 4 rfl).trans rfl) rfl (nO rfl rfl hst)) (opsS_cons (fun f w_ _ _ _ _ p hst=>ldB 0 hst Tryz.isAgg3 (p 0 17 rfl rfl) rfl rfl (nO rfl rfl hst)) (opsS_cons ?_ ?_))
 intro f w_ H52 X52 hS52 hE52 hP52 hst
 obtain ⟨H325b,l326,s327,z328,k329⟩:=hst.borrow
 refine L_call rfl Tryz.call56 (ops1 (hP52 1 18 rfl rfl)) (s_l1Lit_c (n_:=x_8.lit) s327 hx29) ?_
 rintro _ w330 ⟨rfl,hst⟩
 have hst:=k329 hst c0
 exact L_nil ⟨rfl,_,_,rfl,Le.refl _,fun _ _=>rfl,hst⟩
 refine opsS_cons (fun f w_ _ _ _ _ p hst=>L_not_ rfl (p 2 19 rfl rfl) (nO rfl rfl hst)) (opsS_cons (fun f w_ _ _ _ _ p hst=>mF (p 3 20 rfl rfl) rfl (nO rfl rfl hst)) (opsS_cons (fun f w_ _ _ s _ p hst=>L_fa (o':=0) (g_yes rfl (Eq.trans (p 4 21 rfl rfl) (congrArg Value.bool hc56)) rfl) fa_83_0 ((s 4 rfl).trans rfl) rfl (nO rfl rfl hst)) (opsS_cons (fun f w_ _ _ _ _ p hst=>L_ld (v:=I x_8.coef) (g_yes rfl (Eq.trans (p 4 21 rfl rfl) (congrArg Value.bool hc56)) rfl) Tryz.isAgg3 (p 5 22 rfl rfl) (At.cell0 (Blk.at (Star.blkAt 0 hst rfl)) (j:=0) rfl) (nO rfl rfl hst)) (opsS_cons (fun f w_ _ _ _ _ p hst=>L_lss (g_yes rfl (Eq.trans (p 4 21 rfl rfl) (congrArg Value.bool hc56)) rfl) (p 6 23 rfl rfl) rfl (nO rfl rfl hst)) (opsS_cons (fun f w_ _ _ _ _ p hst=>pkT (v:=Bo ((!x29) || (decide (x_8.coef < 1)))) (p 4 21 rfl rfl) hc56 rfl (or_f hc56 (p 7 24 rfl rfl)) (nO rfl rfl hst)) (opsS_cons (fun f w_ _ _ _ _ p hst=>mF (p 8 25 rfl rfl) rfl (nO rfl rfl hst)) (opsS_cons (fun f w_ _ _ s _ p hst=>L_fa (o':=0) (g_yes rfl (Eq.trans (p 9 26 rfl rfl) (congrArg Value.bool hc194)) rfl) fa_83_0 ((s 4 rfl).trans rfl) rfl (nO rfl rfl hst)) (opsS_cons (fun f w_ _ _ _ _ p hst=>L_ld (v:=I x_8.coef) (g_yes rfl (Eq.trans (p 9 26 rfl rfl) (congrArg Value.bool hc194)) rfl) Tryz.isAgg3 (p 10 27 rfl rfl) (At.cell0 (Blk.at (Star.blkAt 0 hst rfl)) (j:=0) rfl) (nO rfl rfl hst)) (opsS_cons (fun f w_ _ _ _ _ p hst=>L_gtr (g_yes rfl (Eq.trans (p 9 26 rfl rfl) (congrArg Value.bool hc194)) rfl) (p 11 28 rfl rfl) rfl (nO rfl rfl hst)) (opsS_cons (fun f w_ _ _ _ _ p hst=>pkT (v:=Bo (((!x29) || (decide (x_8.coef < 1))) || (decide (x_8.coef > 1000)))) (p 9 26 rfl rfl) hc194 rfl (or_f hc194 (p 12 29 rfl rfl)) (nO rfl rfl hst)) (opsS_cons (fun f w_ _ _ _ _ p hst=>mF (p 13 30 rfl rfl) rfl (nO rfl rfl hst)) (opsS_cons (fun f w_ _ _ s _ p hst=>L_mv (v:=I i_5) (g_yes rfl (Eq.trans (p 14 31 rfl rfl) (congrArg Value.bool hc263)) rfl) ((s 3 rfl).trans sf3) (nO rfl rfl hst)) (opsS_cons (fun f w_ _ _ _ _ p hst=>L_gtr (g_yes rfl (Eq.trans (p 14 31 rfl rfl) (congrArg Value.bool hc263)) rfl) (p 15 32 rfl rfl) rfl (nO rfl rfl hst)) (opsS_cons (fun f w_ _ _ _ _ p hst=>L_mv (v:=Bo (decide ((i_5 : Int) > 0))) (g_yes rfl (Eq.trans (p 14 31 rfl rfl) (congrArg Value.bool hc263)) rfl) (p 16 33 rfl rfl) (nO rfl rfl hst)) (oP (fun _ _ p=>gN (p 17 34 rfl rfl) hc276 rfl) (fun _=>rfl) (oP (fun _ _ p=>gN (p 17 34 rfl rfl) hc276 rfl) (fun _=>rfl) (oP (fun _ _ p=>gN (p 17 34 rfl rfl) hc276 rfl) (fun _=>rfl) (oP (fun _ _ p=>gN (p 17 34 rfl rfl) hc276 rfl) (fun _=>rfl) (oP (fun _ _ p=>gN (p 17 34 rfl rfl) hc276 rfl) (fun _=>rfl) (oP (fun _ _ p=>gN (p 17 34 rfl rfl) hc276 rfl) (fun _=>rfl) (oP (fun _ _ p=>gN (p 17 34 rfl rfl) hc276 rfl) (fun _=>rfl) (oP (fun _ _ p=>gN (p 17 34 rfl rfl) hc276 rfl) (fun _=>rfl) (oP (fun _ _ p=>gN (p 17 34 rfl rfl) hc276 rfl) (fun _=>rfl) (oP (fun _ _ p=>gN (p 17 34 rfl rfl) hc276 rfl) (fun _=>rfl) (opsS_nil)))))))))))))))))))))))))
 refine ps (g_no rfl (Eq.trans (hT52 17 34 rfl rfl) (congrArg Value.bool hc276)) rfl rfl) (ps (g_no rfl (Eq.trans (hT52 17 34 rfl rfl) (congrArg Value.bool hc276)) rfl rfl) (L_pick (v:=Bo b50) (g_yes rfl (Eq.trans (hT52 14 31 rfl rfl) (congrArg Value.bool hc263)) rfl) (Eq.trans (hT52 17 34 rfl rfl) (congrArg Value.bool hc276)) (congrArg Value.bool (so hb50)) (L_pick (v:=Bo b51) rfl (Eq.trans (hT52 14 31 rfl rfl) (congrArg Value.bool hc263)) (congrArg Value.bool (so hb51)) (nn ?_))))
 have hst:=hst.get 1 rfl
 exact rj hR55 ⟨H52,hE52,((hS52 1 rfl).trans sf1),((hS52 3 rfl).trans sf3),rfl,(Star.keepN 1 hst)⟩
 intro f w_ hR
 obtain ⟨H53,l54,sf1,sf3,sf48,hst⟩:=rk hR55 hR
 refine W_cond (b:=b51) sf48 (fun hc331=>?_) (fun hc331=>?_)
 have hB8:=(ite_t hc331).symm.trans hB8
 refine sq (aB rfl (nn (W_ret (retG1 (v1:=Bo false) Tryz.results43 rfl ?_))))
 obtain rfl:=so hB8
 obtain rfl:=so hL8
 obtain rfl:=so hF
 exact ⟨rfl,(Star.down (Star.keepN 0 hst) (Le.trans l7 l54) c0)⟩
 have hB8:=(ite_f hc331).symm.trans hB8
 refine W_skip (W_region (mF sf3 rfl (L_add rfl rfl rfl (aI rfl (nn ?_)))))
 obtain rfl:=so hB8
 show ∃ m,m < _∧I8 m _ _
 refine ⟨rest8.length,by simp,?_⟩
 exact ij hI8 ⟨i_5 + 1,rest8,H53,rfl,drop_next hd8,by simp at hl8; omega,hL8,(Le.trans l7 l54),sf1,(Eq.trans rfl (congrArg (Value.int .i64) (i64_succ (n:=c.terms.length) (by simp at hl8; omega) hlen8))),hst⟩
 rcases suf8 with _ | ⟨_,_⟩
 obtain rfl:=range_nil hL8
 refine W_exit (rj hR8 ⟨H6,rfl,l7,sf1,hst⟩)
 exact absurd (of_decide_eq_false hc9) (by simp at hl8; omega)
 intro f w_ hR
 obtain ⟨H6,rfl,l7,sf1,hst⟩:=rk hR8 hR
 refine W_seq ?_
 obtain ⟨R332,hR332⟩:=exR fun f w_=>f 2 = Bo ((decide (c.bound ≥ 0)) && (decide (c.bound≤20000)))∧Star H6 w_ ([])
 refine W_join R332 ?_ ?_
 refine W_region (fA 1 fa_54_1 sf1 rfl (ldB 0 hst Tryz.isAgg3 rfl rfl rfl (L_geq rfl rfl rfl (mB rfl (L_split (d:=52) (b:=decide (c.bound ≥ 0)) rfl (fun hc333=>?_) (fun hc333=>?_))))))
 refine fA 1 fa_54_1 sf1 rfl (ldB 0 hst Tryz.isAgg3 rfl rfl rfl (L_leq rfl rfl rfl (L_pick (v:=Bo ((decide (c.bound ≥ 0)) && (decide (c.bound≤20000)))) rfl rfl (and_t hc333 rfl) (aB rfl (nn (rj hR332 ⟨rfl,(Star.keepN 0 hst)⟩))))))
 refine ps rfl (ps rfl (ps rfl (L_pick (v:=Bo ((decide (c.bound ≥ 0)) && (decide (c.bound≤20000)))) rfl rfl (and_f hc333) (aB rfl (nn (rj hR332 ⟨rfl,(Star.keepN 0 hst)⟩))))))
 intro f w_ hR
 obtain ⟨sf2,hst⟩:=rk hR332 hR
 refine W_ret (retG1 (v1:=Bo ((decide (c.bound ≥ 0)) && (decide (c.bound≤20000)))) Tryz.results43 sf2 ?_)
 obtain rfl:=so hF
 exact ⟨rfl,(Star.down hst l7 c0)⟩
theorem s_l1Total_c {c : Con} {v0_0 : Value} {H : FH} {w : World} (hst : Star H w []) (h0_0 : (rS 83 rTerm).rel H [v0_0] c.terms) {r : Int} (hF : s_l1Total c = some r) :
 C Tryz.prog 51 #[.agg #[v0_0,I c.bound]] w fun v w'=>v = I r∧Star H w' []:=by
 unfold s_l1Total at hF
 refine C_enter Tryz.func51 rfl Tryz.ntmps51 rfl (sq (L_box (v:=.agg #[v0_0,I c.bound]) (cs:=#[v0_0,I c.bound]) rfl rfl rfl hst (fun g3 w4 hst=>aI rfl (ns (aI rfl (nq (sq (aI rfl (nn ?_)))))))))
 have hlen7 : List.length c.terms≤9223372036854775807:=len_le (slice_len h0_0)
 obtain ⟨j7,hL7,hF⟩:=bind_some hF
 obtain ⟨R7,hR7⟩:=exR fun f w_=>∃ n_6 : Int,j7 = .nx n_6∧f 3 = I n_6∧Star H w_ ([])
 refine W_join R7 ?_ ?_
 refine W_block ?_
 obtain ⟨I7,hI7⟩:=exI fun n f w_=>∃ i_5 : Nat,∃ suf7 : List Term,∃ n_6 : Int,n = suf7.length∧List.drop i_5 c.terms = suf7∧i_5 + suf7.length = c.terms.length∧rangeL s_l1Total_b1 suf7 i_5 n_6 = some j7∧f 1 = Pt g3∧f 3 = I n_6∧f 4 = I i_5∧Star H w_ ([box g3 54 #[v0_0,I c.bound]])
 refine W_loop I7 (n:=c.terms.length) ?_ ?_
 exact ij hI7 ⟨0,c.terms,0,rfl,rfl,Nat.zero_add _,hL7,rfl,rfl,rfl,hst⟩
 intro n7 f w_ hI
 obtain ⟨i_5,suf7,n_6,rfl,hd7,hl7,hL7,sf1,sf3,sf4,hst⟩:=ik hI7 hI
 refine W_seq (sq (mF sf4 rfl (fA 0 fa_54_0 sf1 rfl (ldB 0 hst Tryz.isAgg52 rfl rfl rfl (L_len rfl Tryz.underlying52 rfl (slice_len h0_0) (L_lss rfl rfl rfl (nn (W_cond (b:=decide ((i_5 : Int) < (c.terms.length : Int))) rfl (fun hc8=>?_) (fun hc8=>?_)))))))))
 have hlt7:=of_decide_eq_true hc8
 rcases suf7 with _ | ⟨x_7,rest7⟩
 exact absurd hlt7 (by simp at hl7; omega)
 obtain ⟨o7,hB7,hL7⟩:=range_cons hL7
 rw [s_l1Total_b1] at hB7
 have hix7:=drop_idx hd7
 refine W_skip (W_seq (W_block (W_region (mF sf3 rfl (fA 0 fa_54_0 sf1 rfl (ldB 0 hst Tryz.isAgg52 rfl rfl rfl (mF sf4 rfl (L_ix (r:=rTerm) rfl Tryz.underlying52 Tryz.sizeOf83 rfl h0_0 rfl hix7 (fun g13 o14 cs_g13 hrk_hat15 hat15=>?_)))))))))
 obtain rfl:=rTerm_iff.1 hrk_hat15
 refine fA o14 fa_83_0 rfl rfl (L_ld rfl Tryz.isAgg3 rfl (At.cell (AtH.at hat15 hst.sub) (j:=0) rfl) (L_add rfl rfl rfl (aI rfl (nn (W_region (mF sf4 rfl (L_add rfl rfl rfl (aI rfl (nn ?_)))))))))
 obtain rfl:=so hB7
 show ∃ m,m < _∧I7 m _ _
 refine ⟨rest7.length,by simp,?_⟩
 exact ij hI7 ⟨i_5 + 1,rest7,i64 (n_6 + x_7.coef),rfl,drop_next hd7,by simp at hl7; omega,hL7,sf1,rfl,(Eq.trans rfl (congrArg (Value.int .i64) (i64_succ (n:=c.terms.length) (by simp at hl7; omega) hlen7))),hst⟩
 rcases suf7 with _ | ⟨_,_⟩
 obtain rfl:=range_nil hL7
 refine W_exit (rj hR7 ⟨n_6,rfl,sf3,(Star.keepN 0 hst)⟩)
 exact absurd (of_decide_eq_false hc8) (by simp at hl7; omega)
 intro f w_ hR
 obtain ⟨n_6,rfl,sf3,hst⟩:=rk hR7 hR
 refine sq (mF sf3 rfl (aI rfl (nn (W_ret (retG1 (v1:=I n_6) Tryz.results51 rfl ?_)))))
 obtain rfl:=so hF
 exact ⟨rfl,hst⟩
theorem s_NegateConstraint_c {c : Con} {v0_0 : Value} {H : FH} {w : World} (hst : Star H w []) (h0_0 : (rS 83 rTerm).rel H [v0_0] c.terms) {r : Con × Bool} (hF : s_NegateConstraint c = some r) :
 C Tryz.prog 58 #[.agg #[v0_0,I c.bound]] w fun v w'=>∃ (u1 : Value),v = .tuple #[.agg #[u1,I r.1.bound],Bo r.2]∧Star H w' [oF 83 rTerm u1 r.1.terms]:=by
 unfold s_NegateConstraint at hF
 refine C_enter Tryz.func58 rfl Tryz.ntmps58 rfl (sq (L_box (v:=.agg #[v0_0,I c.bound]) (cs:=#[v0_0,I c.bound]) rfl rfl rfl hst (fun g5 w6 hst=>L_al (cs:=#[S0,I 0]) rfl Tryz.zeroValue54 rfl hst (fun g7 w8 hst=>aB rfl (nq (W_seq ?_))))))
 obtain ⟨x14,hx14,hF⟩:=bind_some hF
 refine W_region (L_lda (cs:=[v0_0,I c.bound]) rfl Tryz.isAgg54 Tryz.sizeOf54 rfl (At.sub0 (Blk.at (Star.blkAt 1 hst rfl)) 0 2) rfl ?_)
 obtain ⟨H16b,l17,s18,z19,k20⟩:=hst.borrow
 refine L_call rfl Tryz.call43 (ops1 rfl) (s_ConstraintValid_c (c:=c) s18 (RP.mono _ h0_0 l17) hx14) ?_
 rintro _ w21 ⟨rfl,hst⟩
 have hst:=k20 hst c0
 refine L_not_ rfl rfl (nn (W_cond (b:=(!x14)) rfl (fun hc22=>?_) (fun hc22=>?_)))
 have hF:=(ite_t hc22).symm.trans hF
 refine sq (L_bld rfl (parts0 ) (bld_54_  ) (L_staB (vs:=#[S0,I 0]) (cs2:=#[S0,I 0]) 0 rfl Tryz.sizeOf54 rfl rfl rfl (ones_cons rfl (ones_cons rfl ones_nil)) hst rfl (by show 0 + 2≤2; decide) rfl (fun w24 hst=>aB rfl (nn (W_ret (retG2 (v1:=.agg #[S0,I 0]) (v2:=Bo false) Tryz.results58 (resV_agg Tryz.isAgg54 Tryz.sizeOf54 rfl (Star.blkAt 0 hst rfl) rfl) rfl ?_))))))
 obtain rfl:=so hF
 have hst:=Star.addNil (R:=(OR.frz rTerm)) (e:=83) hst
 exact ⟨S0,rfl,(Star.keepN 1 hst)⟩
 have hF:=(ite_f hc22).symm.trans hF
 refine W_skip (W_seq ?_)
 obtain ⟨x31,hx31,hF⟩:=bind_some hF
 refine W_drawS 8 [isV (.agg #[v0_0,I c.bound]),isV (I x31),isV (Pq g5 1),isV (I c.bound),isV (I (i64 (x31 - c.bound))),isV (I (i64 ((i64 (x31 - c.bound)) + 1))),isV (.agg #[S0,I (i64 ((i64 (x31 - c.bound)) + 1))]),anyF] [box g7 54 #[S0,I 0],box g5 54 #[v0_0,I c.bound]] [.made 7 4 (fun v_=>boxV v_ 54 #[S0,I 0]) none] ([]) [([],[]),([],[]),([],[]),([],[]),([],[]),([],[]),([],[]),([],[0])] (S:=[(some 7,[4],none)]) Tryz_mix (by kernel_rfl) rfl (by kernel_rfl) (amF_cons (mono_V _) (amF_cons (mono_V _) (amF_cons (mono_V _) (amF_cons (mono_V _) (amF_cons (mono_V _) (amF_cons (mono_V _) (amF_cons (mono_V _) (amF_cons (mono_any) amF_nil)))))))) hst ?_ (fun f w_ H36 hS36 hE36 hT36 hst=>?_)
 refine opsS_cons (fun f w_ _ _ s _ _ hst=>L_lda (cs:=[v0_0,I c.bound]) rfl Tryz.isAgg54 Tryz.sizeOf54 ((s 1 rfl).trans rfl) (At.sub0 (Blk.at (Star.blkAt 1 hst rfl)) 0 2) rfl (nO rfl rfl hst)) (opsS_cons ?_ ?_)
 intro f w_ H36 X36 hS36 hE36 hP36 hst
 obtain ⟨H45b,l46,s47,z48,k49⟩:=hst.borrow
 refine L_call rfl Tryz.call51 (ops1 (hP36 0 10 rfl rfl)) (s_l1Total_c (c:=c) s47 (RP.mono _ h0_0 (Le.trans hE36 l46)) hx31) ?_
 rintro _ w50 ⟨rfl,hst⟩
 have hst:=k49 hst c0
 exact L_nil ⟨rfl,_,_,rfl,Le.refl _,fun _ _=>rfl,hst⟩
 refine opsS_cons (fun f w_ _ _ s _ _ hst=>fA 1 fa_54_1 ((s 1 rfl).trans rfl) rfl (nO rfl rfl hst)) (opsS_cons (fun f w_ _ _ _ _ p hst=>ldB 1 hst Tryz.isAgg3 (p 2 12 rfl rfl) rfl rfl (nO rfl rfl hst)) (opsS_cons (fun f w_ _ _ _ _ p hst=>L_sub rfl (p 1 11 rfl rfl) (p 3 13 rfl rfl) (nO rfl rfl hst)) (opsS_cons (fun f w_ _ _ _ _ p hst=>L_add rfl (p 4 14 rfl rfl) rfl (nO rfl rfl hst)) (opsS_cons (fun f w_ _ _ _ _ p hst=>L_bld rfl (parts1 (p 5 15 rfl rfl)) (bld_54_1 (I (i64 ((i64 (x31 - c.bound)) + 1))) rfl) (nO rfl rfl hst)) (opsS_cons ?_ ?_)))))
 intro f w_ H36 X36 hS36 hE36 hP36 hst
 refine L_al (cs:=#[S0,I 0]) rfl Tryz.zeroValue54 rfl hst (fun g51 w52 hst=>?_)
 have hst:=hst.gets [2,2,2] rfl
 have hst:=Star.boxV (v:=Pt g51) rfl hst
 have hst:=hst.gets [2,2] rfl
 exact L_nil ⟨rfl,_,_,rfl,Le.refl _,fun _ _=>trivial,hst⟩
 exact opsS_nil
 have hst : Star H36 w_ ([box g7 54 #[S0,I 0],box g5 54 #[v0_0,I c.bound],boxV (f 4) 54 #[S0,I 0]]):=hst
 obtain ⟨g53,hv53,hst⟩:=Star.unboxV (Star.get 2 hst rfl)
 refine L_staB (vs:=#[S0,I (i64 ((i64 (x31 - c.bound)) + 1))]) (cs2:=#[S0,I (i64 ((i64 (x31 - c.bound)) + 1))]) 0 rfl Tryz.sizeOf54 hv53 (hT36 6 16 rfl rfl) rfl (ones_cons rfl (ones_cons rfl ones_nil)) hst rfl (by show 0 + 2≤2; decide) rfl (fun w54 hst=>nq (sq (aI rfl (nn ?_))))
 have hlen60 : List.length c.terms≤9223372036854775807:=len_le (slice_len (RP.mono _ h0_0 hE36))
 obtain ⟨j60,hL60,hF⟩:=bind_some hF
 obtain ⟨R60,hR60⟩:=exR fun f w_=>∃ g53_0_56 : List Term,∃ H58 : FH,∃ v56_g53_0 : Value,j60 = .nx g53_0_56∧Le H36 H58∧f 2 = Pt g7∧f 4 = Pt g53∧Star H58 w_ ([oF 83 rTerm v56_g53_0 g53_0_56,box g53 54 #[v56_g53_0,I (i64 ((i64 (x31 - c.bound)) + 1))],box g7 54 #[S0,I 0]])
 refine W_join R60 ?_ ?_
 refine W_block ?_
 obtain ⟨I60,hI60⟩:=exI fun n f w_=>∃ i_55 : Nat,∃ suf60 : List Term,∃ g53_0_56 : List Term,∃ H58 : FH,∃ v56_g53_0 : Value,n = suf60.length∧List.drop i_55 c.terms = suf60∧i_55 + suf60.length = c.terms.length∧rangeL s_NegateConstraint_b1 suf60 i_55 g53_0_56 = some j60∧Le H36 H58∧f 1 = Pt g5∧f 2 = Pt g7∧f 4 = Pt g53∧f 5 = I i_55∧Star H58 w_ ([oF 83 rTerm v56_g53_0 g53_0_56,box g53 54 #[v56_g53_0,I (i64 ((i64 (x31 - c.bound)) + 1))],box g7 54 #[S0,I 0],box g5 54 #[v0_0,I c.bound]])
 have hst:=Star.addNil (R:=(OR.frz rTerm)) (e:=83) hst
 refine W_loop I60 (n:=c.terms.length) ?_ ?_
 exact ij hI60 ⟨0,c.terms,[],H36,S0,rfl,rfl,Nat.zero_add _,hL60,(Le.refl _),((hS36 1 rfl).trans rfl),((hS36 2 rfl).trans rfl),hv53,rfl,hst⟩
 intro n60 f w_ hI
 obtain ⟨i_55,suf60,g53_0_56,H58,v56_g53_0,rfl,hd60,hl60,hL60,l59,sf1,sf2,sf4,sf5,hst⟩:=ik hI60 hI
 refine W_seq (sq (mF sf5 rfl (fA 0 fa_54_0 sf1 rfl (ldB 3 hst Tryz.isAgg52 rfl rfl rfl (L_len rfl Tryz.underlying52 rfl (slice_len (RP.mono _ h0_0 (Le.trans hE36 l59))) (L_lss rfl rfl rfl (nn (W_cond (b:=decide ((i_55 : Int) < (c.terms.length : Int))) rfl (fun hc62=>?_) (fun hc62=>?_)))))))))
 have hlt60:=of_decide_eq_true hc62
 rcases suf60 with _ | ⟨x_60,rest60⟩
 exact absurd hlt60 (by simp at hl60; omega)
 obtain ⟨o60,hB60,hL60⟩:=range_cons hL60
 rw [s_NegateConstraint_b1] at hB60
 have hix60:=drop_idx hd60
 refine W_skip (W_seq (W_block ?_))
 obtain ⟨x74,hx74,hB60⟩:=bind_some hB60
 refine W_drawS 17 [isV (Pt g53),isV (v56_g53_0),isV (Pt g5),isV (v0_0),isV (I i_55),isEl rTerm x_60 0,isEl rTerm x_60 0,isV (I x_60.coef),isV (Pt g5),isV (v0_0),isV (I i_55),isEl rTerm x_60 0,isEl rTerm x_60 1,isV (I x_60.lit),isV (I (i64 (-x_60.lit))),isV (.agg #[I x_60.coef,I (i64 (-x_60.lit))]),anyF] [oF 83 rTerm v56_g53_0 g53_0_56,box g53 54 #[v56_g53_0,I (i64 ((i64 (x31 - c.bound)) + 1))],box g7 54 #[S0,I 0],box g5 54 #[v0_0,I c.bound]] [.made 16 40 (fun v_=>oF 83 rTerm v_ ([({ coef:=x_60.coef,lit:=i64 (-x_60.lit) } : Term)])) none] ([]) [([],[]),([],[]),([],[]),([],[]),([],[]),([],[]),([],[]),([],[]),([],[]),([],[]),([],[]),([],[]),([],[]),([],[]),([],[]),([],[]),([],[0])] (S:=[(some 16,[40],none)]) Tryz_mix (by kernel_rfl) rfl (by kernel_rfl) (amF_cons (mono_V _) (amF_cons (mono_V _) (amF_cons (mono_V _) (amF_cons (mono_V _) (amF_cons (mono_V _) (amF_cons (mono_el _ _ _) (amF_cons (mono_el _ _ _) (amF_cons (mono_V _) (amF_cons (mono_V _) (amF_cons (mono_V _) (amF_cons (mono_V _) (amF_cons (mono_el _ _ _) (amF_cons (mono_el _ _ _) (amF_cons (mono_V _) (amF_cons (mono_V _) (amF_cons (mono_V _) (amF_cons (mono_any) amF_nil))))))))))))))))) hst ?_ (fun f w_ H79 hS79 hE79 hT79 hst=>?_)
 refine opsS_cons (fun f w_ _ _ s _ _ hst=>fA 0 fa_54_0 ((s 4 rfl).trans sf4) rfl (nO rfl rfl hst)) (opsS_cons (fun f w_ _ _ _ _ p hst=>ldB 1 hst Tryz.isAgg52 (p 0 24 rfl rfl) rfl rfl (nO rfl rfl hst)) (opsS_cons (fun f w_ _ _ s _ _ hst=>fA 0 fa_54_0 ((s 1 rfl).trans sf1) rfl (nO rfl rfl hst)) (opsS_cons (fun f w_ _ _ _ _ p hst=>ldB 3 hst Tryz.isAgg52 (p 2 26 rfl rfl) rfl rfl (nO rfl rfl hst)) (opsS_cons (fun f w_ _ _ s _ _ hst=>mF ((s 5 rfl).trans sf5) rfl (nO rfl rfl hst)) (opsS_cons ?_ ?_)))))
 intro f w_ H79 X79 hS79 hE79 hP79 hst
 refine L_ix (r:=rTerm) rfl Tryz.underlying52 Tryz.sizeOf83 (hP79 3 27 rfl rfl) (RP.mono _ h0_0 (Le.trans (Le.trans hE36 l59) hE79)) (hP79 4 28 rfl rfl) hix60 (fun g91 o92 cs_g91 hrk_hat93 hat93=>?_)
 obtain rfl:=rTerm_iff.1 hrk_hat93
 exact L_nil ⟨rfl,_,_,rfl,Le.refl _,fun _ _=>⟨_,_,_,rfl,hrk_hat93,hat93⟩,hst⟩
 refine opsS_cons ?_ ?_
 intro f w_ H79 X79 hS79 hE79 hP79 hst
 obtain ⟨g95,o95,cs95,hv95,hrk_hat95,hat95⟩:=(hP79 5 29 rfl rfl)
 obtain rfl:=rTerm_iff.1 hrk_hat95
 refine fA o95 fa_83_0 hv95 rfl (L_nil ⟨rfl,_,_,rfl,Le.refl _,fun _ _=>⟨_,_,_,rfl,hrk_hat95,hat95⟩,hst⟩)
 refine opsS_cons ?_ ?_
 intro f w_ H79 X79 hS79 hE79 hP79 hst
 obtain ⟨g97,o97,cs97,hv97,hrk_hat97,hat97⟩:=(hP79 6 30 rfl rfl)
 obtain rfl:=rTerm_iff.1 hrk_hat97
 refine L_ld rfl Tryz.isAgg3 hv97 (At.cell (AtH.at hat97 hst.sub) (j:=0) rfl) (L_nil ⟨rfl,_,_,rfl,Le.refl _,fun _ _=>rfl,hst⟩)
 refine opsS_cons (fun f w_ _ _ s _ _ hst=>fA 0 fa_54_0 ((s 1 rfl).trans sf1) rfl (nO rfl rfl hst)) (opsS_cons (fun f w_ _ _ _ _ p hst=>ldB 3 hst Tryz.isAgg52 (p 8 32 rfl rfl) rfl rfl (nO rfl rfl hst)) (opsS_cons (fun f w_ _ _ s _ _ hst=>mF ((s 5 rfl).trans sf5) rfl (nO rfl rfl hst)) (opsS_cons ?_ ?_)))
 intro f w_ H79 X79 hS79 hE79 hP79 hst
 refine L_ix (r:=rTerm) rfl Tryz.underlying52 Tryz.sizeOf83 (hP79 9 33 rfl rfl) (RP.mono _ h0_0 (Le.trans (Le.trans hE36 l59) hE79)) (hP79 10 34 rfl rfl) hix60 (fun g99 o100 cs_g99 hrk_hat101 hat101=>?_)
 obtain rfl:=rTerm_iff.1 hrk_hat101
 exact L_nil ⟨rfl,_,_,rfl,Le.refl _,fun _ _=>⟨_,_,_,rfl,hrk_hat101,hat101⟩,hst⟩
 refine opsS_cons ?_ ?_
 intro f w_ H79 X79 hS79 hE79 hP79 hst
 obtain ⟨g103,o103,cs103,hv103,hrk_hat103,hat103⟩:=(hP79 11 35 rfl rfl)
 obtain rfl:=rTerm_iff.1 hrk_hat103
 refine fA (o103 + 1) fa_83_1 hv103 rfl (L_nil ⟨rfl,_,_,rfl,Le.refl _,fun _ _=>⟨_,_,_,rfl,hrk_hat103,hat103⟩,hst⟩)
 refine opsS_cons ?_ ?_
 intro f w_ H79 X79 hS79 hE79 hP79 hst
 obtain ⟨g105,o105,cs105,hv105,hrk_hat105,hat105⟩:=(hP79 12 36 rfl rfl)
 obtain rfl:=rTerm_iff.1 hrk_hat105
 refine L_ld rfl Tryz.isAgg3 hv105 (At.cell (AtH.at hat105 hst.sub) (j:=1) rfl) (L_nil ⟨rfl,_,_,rfl,Le.refl _,fun _ _=>rfl,hst⟩)
 refine opsS_cons (fun f w_ _ _ _ _ p hst=>L_neg rfl (p 13 37 rfl rfl) (nO rfl rfl hst)) (opsS_cons (fun f w_ _ _ _ _ p hst=>L_bld rfl (parts2 (p 7 31 rfl rfl) (p 14 38 rfl rfl)) (bld_83_0_1 (I x_60.coef) (I (i64 (-x_60.lit))) rfl rfl) (nO rfl rfl hst)) (opsS_cons ?_ ?_))
 intro f w_ H79 X79 hS79 hE79 hP79 hst
 refine L_bs rfl (parts1 (hP79 15 39 rfl rfl)) (bs_52_1_2 (I x_60.coef) (I (i64 (-x_60.lit))) ) hst (fun g107 w108 hst=>?_)
 have hst:=Star.addF (r:=rTerm) (cs:=[I x_60.coef,I (i64 (-x_60.lit))]) (x:=({ coef:=x_60.coef,lit:=i64 (-x_60.lit) } : Term)) hst (rTerm_iff.2 rfl)
 have hst:=Star.mkRow (R:=(OR.frz rTerm)) [([I x_60.coef,I (i64 (-x_60.lit))],({ coef:=x_60.coef,lit:=i64 (-x_60.lit) } : Term))] [({ coef:=x_60.coef,lit:=i64 (-x_60.lit) } : Term)] 1 hst rfl rfl rfl (by decide)
 have hst:=hst.gets [4,4,4,4] rfl
 exact L_nil ⟨rfl,_,_,rfl,Le.refl _,fun _ _=>trivial,hst⟩
 exact opsS_nil
 have hst : Star H79 w_ ([oF 83 rTerm v56_g53_0 g53_0_56,box g53 54 #[v56_g53_0,I (i64 ((i64 (x31 - c.bound)) + 1))],box g7 54 #[S0,I 0],box g5 54 #[v0_0,I c.bound],oF 83 rTerm (f 40) ([({ coef:=x_60.coef,lit:=i64 (-x_60.lit) } : Term)])]):=hst
 have hst:=hst.gets [4,1] rfl
 refine L_appM (v:=v56_g53_0) (u:=(f 40)) rfl et_52 (hT79 1 25 rfl rfl) rfl hst hx74 (fun v111 w112 hst=>fA 0 fa_54_0 ((hS79 4 rfl).trans sf4) rfl (L_stB (v:=v111) (cs2:=#[v111,I (i64 ((i64 (x31 - c.bound)) + 1))]) 1 rfl Tryz.sizeOf52 rfl rfl (one_len (Star.len 0 hst rfl)) hst rfl rfl rfl (fun w114 hst=>nn (W_region (mF ((hS79 5 rfl).trans sf5) rfl (L_add rfl rfl rfl (aI rfl (nn ?_))))))))
 obtain rfl:=so hB60
 have hst:=hst.gets [3,3,2,3] rfl
 show ∃ m,m < _∧I60 m _ _
 refine ⟨rest60.length,by simp,?_⟩
 exact ij hI60 ⟨i_55 + 1,rest60,x74,H79,v111,rfl,drop_next hd60,by simp at hl60; omega,hL60,(Le.trans l59 hE79),((hS79 1 rfl).trans sf1),((hS79 2 rfl).trans sf2),((hS79 4 rfl).trans sf4),(Eq.trans rfl (congrArg (Value.int .i64) (i64_succ (n:=c.terms.length) (by simp at hl60; omega) hlen60))),hst⟩
 rcases suf60 with _ | ⟨_,_⟩
 obtain rfl:=range_nil hL60
 refine W_exit (rj hR60 ⟨g53_0_56,H58,v56_g53_0,rfl,l59,sf2,sf4,(Star.keepN 3 hst)⟩)
 exact absurd (of_decide_eq_false hc62) (by simp at hl60; omega)
 intro f w_ hR
 obtain ⟨g53_0_56,H58,v56_g53_0,rfl,l59,sf2,sf4,hst⟩:=rk hR60 hR
 refine W_seq (sq (fA 1 fa_54_1 sf4 rfl (ldB 1 hst Tryz.isAgg3 rfl rfl rfl (L_lss rfl rfl rfl (nn ?_)))))
 obtain ⟨g53_1_115,hA116,hF⟩:=bind_some hF
 obtain ⟨R116,hR116⟩:=exR fun f w_=>f 2 = Pt g7∧f 4 = Pt g53∧Star H58 w_ ([oF 83 rTerm v56_g53_0 g53_0_56,box g53 54 #[v56_g53_0,I g53_1_115],box g7 54 #[S0,I 0]])
 refine W_join R116 ?_ ?_
 refine W_cond (b:=decide ((i64 ((i64 (x31 - c.bound)) + 1)) < 0)) rfl (fun hc117=>?_) (fun hc117=>?_)
 have hA116:=(ite_t hc117).symm.trans hA116
 refine W_region (fA 1 fa_54_1 sf4 rfl (L_stB (v:=I 0) (cs2:=#[v56_g53_0,I 0]) 1 rfl Tryz.sizeOf3 rfl rfl rfl hst rfl rfl rfl (fun w119 hst=>nn ?_)))
 obtain rfl:=so hA116
 have hst:=hst.gets [2,1,2] rfl
 exact rj hR116 ⟨sf2,sf4,hst⟩
 have hA116:=(ite_f hc117).symm.trans hA116
 refine W_skip ?_
 obtain rfl:=so hA116
 exact rj hR116 ⟨sf2,sf4,hst⟩
 intro f w_ hR
 obtain ⟨sf2,sf4,hst⟩:=rk hR116 hR
 refine sq (L_lda (cs:=[v56_g53_0,I g53_1_115]) rfl Tryz.isAgg54 Tryz.sizeOf54 sf4 (At.sub0 (Blk.at (Star.blkAt 1 hst rfl)) 0 2) rfl (L_staB (vs:=#[v56_g53_0,I g53_1_115]) (cs2:=#[v56_g53_0,I g53_1_115]) 2 rfl Tryz.sizeOf54 sf2 rfl rfl (ones_cons (one_len (Star.len 0 hst rfl)) (ones_cons rfl ones_nil)) hst rfl (by show 0 + 2≤2; decide) rfl (fun w121 hst=>aB rfl (nn (W_ret (retG2 (v1:=.agg #[v56_g53_0,I g53_1_115]) (v2:=Bo true) Tryz.results58 (resV_agg Tryz.isAgg54 Tryz.sizeOf54 sf2 (Star.blkAt 0 hst rfl) rfl) rfl ?_))))))
 obtain rfl:=so hF
 have hst:=hst.get 1 rfl
 exact ⟨v56_g53_0,rfl,(Star.down (Star.keepN 1 hst) (Le.trans hE36 l59) (co closed_term c0))⟩
theorem s_l3State_c {p : List Int} {lit : Int} {v0 : Value} {H : FH} {w : World} (hst : Star H w []) (h0 : (rS 3 RP.int).rel H [v0] p) {r : Int} (hF : s_l3State p lit = some r) :
 C Tryz.prog 86 #[v0,I lit] w fun v w'=>v = I r∧Star H w' []:=by
 unfold s_l3State at hF
 refine C_enter Tryz.func86 rfl Tryz.ntmps86 rfl (sq (aI rfl (nq (sq (mI rfl (L_gtr rfl rfl rfl (nn (W_cond (b:=decide (lit > 0)) rfl (fun hc1=>?_) (fun hc1=>?_)))))))))
 have hF:=(ite_t hc1).symm.trans hF
 refine W_seq ?_
 obtain ⟨x2,hx2,hF⟩:=bind_some hF
 refine W_region (mV v0 rfl (mI rfl (L_sub rfl rfl rfl (L_ix (r:=RP.int) rfl Tryz.underlying51 Tryz.sizeOf3 rfl h0 rfl hx2 (fun g7 o8 cs_g7 hrk_hat9 hat9=>?_)))))
 obtain rfl : _ = [_]:=hrk_hat9
 refine L_ld rfl Tryz.isAgg3 rfl (At.cell (AtH.at hat9 hst.sub) (j:=0) rfl) (aI rfl (nn (W_ret (retG1 (v1:=I x2) Tryz.results86 rfl ?_))))
 obtain rfl:=so hF
 exact ⟨rfl,hst⟩
 have hF:=(ite_f hc1).symm.trans hF
 refine W_skip (W_seq ?_)
 obtain ⟨x11,hx11,hF⟩:=bind_some hF
 refine W_region (mV v0 rfl (mI rfl (L_neg rfl rfl (L_sub rfl rfl rfl (L_ix (r:=RP.int) rfl Tryz.underlying51 Tryz.sizeOf3 rfl h0 rfl hx11 (fun g16 o17 cs_g16 hrk_hat18 hat18=>?_))))))
 obtain rfl : _ = [_]:=hrk_hat18
 refine L_ld rfl Tryz.isAgg3 rfl (At.cell (AtH.at hat18 hst.sub) (j:=0) rfl) (L_neg rfl rfl (aI rfl (nn (W_ret (retG1 (v1:=I (i64 (-x11))) Tryz.results86 rfl ?_)))))
 obtain rfl:=so hF
 exact ⟨rfl,hst⟩
theorem s_l3Slack_c {c : Con} {p : List Int} {v0_0 : Value} {v1 : Value} {H : FH} {w : World} (hst : Star H w []) (h0_0 : (rS 83 rTerm).rel H [v0_0] c.terms) (h1 : (rS 3 RP.int).rel H [v1] p) {r : Int} (hF : s_l3Slack c p = some r) :
 C Tryz.prog 69 #[.agg #[v0_0,I c.bound],v1] w fun v w'=>v = I r∧Star H w' []:=by
 unfold s_l3Slack at hF
 refine C_enter Tryz.func69 rfl Tryz.ntmps69 rfl (sq (L_box (v:=.agg #[v0_0,I c.bound]) (cs:=#[v0_0,I c.bound]) rfl rfl rfl hst (fun g3 w4 hst=>aI rfl (ns (fA 1 fa_54_1 rfl rfl (ldB 0 hst Tryz.isAgg3 rfl rfl rfl (L_neg rfl rfl (aI rfl (nq (sq (aI rfl (nn ?_))))))))))))
 have hlen7 : List.length c.terms≤9223372036854775807:=len_le (slice_len h0_0)
 obtain ⟨j7,hL7,hF⟩:=bind_some hF
 obtain ⟨R7,hR7⟩:=exR fun f w_=>∃ n_6 : Int,j7 = .nx n_6∧f 5 = I n_6∧Star H w_ ([])
 refine W_join R7 ?_ ?_
 refine W_block ?_
 obtain ⟨I7,hI7⟩:=exI fun n f w_=>∃ i_5 : Nat,∃ suf7 : List Term,∃ n_6 : Int,n = suf7.length∧List.drop i_5 c.terms = suf7∧i_5 + suf7.length = c.terms.length∧rangeL (s_l3Slack_b1 p) suf7 i_5 n_6 = some j7∧f 1 = v1∧f 2 = Pt g3∧f 5 = I n_6∧f 6 = I i_5∧Star H w_ ([box g3 54 #[v0_0,I c.bound]])
 refine W_loop I7 (n:=c.terms.length) ?_ ?_
 exact ij hI7 ⟨0,c.terms,i64 (-c.bound),rfl,rfl,Nat.zero_add _,hL7,rfl,rfl,rfl,rfl,hst⟩
 intro n7 f w_ hI
 obtain ⟨i_5,suf7,n_6,rfl,hd7,hl7,hL7,sf1,sf2,sf5,sf6,hst⟩:=ik hI7 hI
 refine W_seq (sq (mF sf6 rfl (fA 0 fa_54_0 sf2 rfl (ldB 0 hst Tryz.isAgg52 rfl rfl rfl (L_len rfl Tryz.underlying52 rfl (slice_len h0_0) (L_lss rfl rfl rfl (nn (W_cond (b:=decide ((i_5 : Int) < (c.terms.length : Int))) rfl (fun hc8=>?_) (fun hc8=>?_)))))))))
 have hlt7:=of_decide_eq_true hc8
 rcases suf7 with _ | ⟨x_7,rest7⟩
 exact absurd hlt7 (by simp at hl7; omega)
 obtain ⟨o7,hB7,hL7⟩:=range_cons hL7
 rw [s_l3Slack_b1] at hB7
 have hix7:=drop_idx hd7
 refine W_skip (W_seq (W_block (W_seq ?_)))
 obtain ⟨x18,hx18,hB7⟩:=bind_some hB7
 refine W_region (mF sf1 rfl (fA 0 fa_54_0 sf2 rfl (ldB 0 hst Tryz.isAgg52 rfl rfl rfl (mF sf6 rfl (L_ix (r:=rTerm) rfl Tryz.underlying52 Tryz.sizeOf83 rfl h0_0 rfl hix7 (fun g20 o21 cs_g20 hrk_hat22 hat22=>?_))))))
 obtain rfl:=rTerm_iff.1 hrk_hat22
 refine fA (o21 + 1) fa_83_1 rfl rfl (L_ld rfl Tryz.isAgg3 rfl (At.cell (AtH.at hat22 hst.sub) (j:=1) rfl) ?_)
 obtain ⟨H24b,l25,s26,z27,k28⟩:=hst.borrow
 refine L_call rfl Tryz.call86 (ops2 rfl rfl) (s_l3State_c (p:=p) (lit:=x_7.lit) s26 (RP.mono _ h1 l25) hx18) ?_
 rintro _ w29 ⟨rfl,hst⟩
 have hst:=k28 hst c0
 refine L_geq rfl rfl rfl (nn ?_)
 obtain ⟨n_30,hA31,hB7⟩:=bind_some hB7
 obtain ⟨R31,hR31⟩:=exR fun f w_=>f 1 = v1∧f 2 = Pt g3∧f 5 = I n_30∧f 6 = I i_5∧Star H w_ ([box g3 54 #[v0_0,I c.bound]])
 refine W_join R31 ?_ ?_
 refine W_cond (b:=decide (x18 ≥ 0)) rfl (fun hc32=>?_) (fun hc32=>?_)
 have hA31:=(ite_t hc32).symm.trans hA31
 refine W_region (mF sf5 rfl (fA 0 fa_54_0 sf2 rfl (ldB 0 hst Tryz.isAgg52 rfl rfl rfl (mF sf6 rfl (L_ix (r:=rTerm) rfl Tryz.underlying52 Tryz.sizeOf83 rfl h0_0 rfl hix7 (fun g37 o38 cs_g37 hrk_hat39 hat39=>?_))))))
 obtain rfl:=rTerm_iff.1 hrk_hat39
 refine fA o38 fa_83_0 rfl rfl (L_ld rfl Tryz.isAgg3 rfl (At.cell (AtH.at hat39 hst.sub) (j:=0) rfl) (L_add rfl rfl rfl (aI rfl (nn ?_))))
 obtain rfl:=so hA31
 exact rj hR31 ⟨sf1,sf2,rfl,sf6,hst⟩
 have hA31:=(ite_f hc32).symm.trans hA31
 refine W_skip ?_
 obtain rfl:=so hA31
 exact rj hR31 ⟨sf1,sf2,sf5,sf6,hst⟩
 intro f w_ hR
 obtain ⟨sf1,sf2,sf5,sf6,hst⟩:=rk hR31 hR
 refine W_region (mF sf6 rfl (L_add rfl rfl rfl (aI rfl (nn ?_))))
 obtain rfl:=so hB7
 show ∃ m,m < _∧I7 m _ _
 refine ⟨rest7.length,by simp,?_⟩
 exact ij hI7 ⟨i_5 + 1,rest7,n_30,rfl,drop_next hd7,by simp at hl7; omega,hL7,sf1,sf2,sf5,(Eq.trans rfl (congrArg (Value.int .i64) (i64_succ (n:=c.terms.length) (by simp at hl7; omega) hlen7))),hst⟩
 rcases suf7 with _ | ⟨_,_⟩
 obtain rfl:=range_nil hL7
 refine W_exit (rj hR7 ⟨n_6,rfl,sf5,(Star.keepN 0 hst)⟩)
 exact absurd (of_decide_eq_false hc8) (by simp at hl7; omega)
 intro f w_ hR
 obtain ⟨n_6,rfl,sf5,hst⟩:=rk hR7 hR
 refine sq (mF sf5 rfl (aI rfl (nn (W_ret (retG1 (v1:=I n_6) Tryz.results69 rfl ?_)))))
 obtain rfl:=so hF
 exact ⟨rfl,hst⟩
theorem s_l3Implied_c {fu : Nat} {c : Con} {p : List Int} {v0_0 : Value} {v1 : Value} {H : FH} {w : World} (hst : Star H w []) (h0_0 : (rS 83 rTerm).rel H [v0_0] c.terms) (h1 : (rS 3 RP.int).rel H [v1] p) {r : List Int} (hF : s_l3Implied fu c p = some r) :
 C Tryz.prog 70 #[.agg #[v0_0,I c.bound],v1] w fun v w'=>∃ (u1 : Value),v = u1∧Star H w' [oF 3 RP.int u1 r]:=by
 unfold s_l3Implied at hF
 refine C_enter Tryz.func70 rfl Tryz.ntmps70 rfl (sq (L_box (v:=.agg #[v0_0,I c.bound]) (cs:=#[v0_0,I c.bound]) rfl rfl rfl hst (fun g3 w4 hst=>aV S0 rfl (ns (L_bs rfl parts0 (bs_51_0  ) hst (fun g8 w9 hst=>?_))))))
 have hst:=Star.mkRow (R:=(OR.frz RP.int)) [] [] 0 hst rfl rfl rfl (by decide)
 refine aV (Sl g8 0 0) rfl (nq ?_)
 obtain ⟨x16,hx16,hF⟩:=bind_some hF
 refine W_region (L_lda (cs:=[v0_0,I c.bound]) rfl Tryz.isAgg54 Tryz.sizeOf54 rfl (At.sub0 (Blk.at (Star.blkAt 1 hst rfl)) 0 2) rfl (mV v1 rfl ?_))
 obtain ⟨H18b,l19,s20,z21,k22⟩:=hst.borrow
 refine L_call rfl Tryz.call69 (ops2 rfl rfl) (s_l3Slack_c (c:=c) (p:=p) s20 (RP.mono _ h0_0 l19) (RP.mono _ h1 l19) hx16) ?_
 rintro _ w23 ⟨rfl,hst⟩
 have hst:=k22 hst c0
 refine aI rfl (nq (sq (aI rfl (nn ?_))))
 obtain ⟨j30,hL30,hF⟩:=bind_some hF
 obtain ⟨R30,hR30⟩:=exR fun f w_=>∃ out_27 : List Int,∃ i_29 : Int,∃ v27_out : Value,j30 = .nx (out_27,i_29)∧f 5 = v27_out∧Star H w_ ([oF 3 RP.int v27_out out_27])
 refine W_join R30 ?_ ?_
 refine W_block ?_
 obtain ⟨I30,hI30⟩:=exI fun n f w_=>∃ out_27 : List Int,∃ i_29 : Int,∃ v27_out : Value,whileL (s_l3Implied_b1 c p x16) n (out_27,i_29) = some j30∧f 1 = v1∧f 2 = Pt g3∧f 5 = v27_out∧f 6 = I x16∧f 7 = I i_29∧Star H w_ ([oF 3 RP.int v27_out out_27,box g3 54 #[v0_0,I c.bound]])
 refine W_loop I30 (n:=fu) ?_ ?_
 exact ij hI30 ⟨[],0,(Sl g8 0 0),hL30,rfl,rfl,rfl,rfl,rfl,hst⟩
 intro n30 f w_ hI
 obtain ⟨out_27,i_29,v27_out,hL30,sf1,sf2,sf5,sf6,sf7,hst⟩:=ik hI30 hI
 rcases n30 with _ | n30
 exact (while_zero hL30).elim
 obtain ⟨o30,hB30,hL30⟩:=while_succ hL30
 rw [s_l3Implied_b1] at hB30
 refine W_seq (W_seq ?_)
 obtain ⟨R31,hR31⟩:=exR fun f w_=>f 1 = v1∧f 2 = Pt g3∧f 5 = v27_out∧f 6 = I x16∧f 7 = I i_29∧f 20 = Bo ((decide (i_29 < (c.terms.length : Int))) && (decide (x16 ≥ 0)))∧Star H w_ ([oF 3 RP.int v27_out out_27,box g3 54 #[v0_0,I c.bound]])
 refine W_join R31 ?_ ?_
 refine W_region (mF sf7 rfl (fA 0 fa_54_0 sf2 rfl (ldB 1 hst Tryz.isAgg52 rfl rfl rfl (L_len rfl Tryz.underlying52 rfl (slice_len h0_0) (L_lss rfl rfl rfl (mB rfl (L_split (d:=17) (b:=decide (i_29 < (c.terms.length : Int))) rfl (fun hc32=>?_) (fun hc32=>?_))))))))
 refine mF sf6 rfl (L_geq rfl rfl rfl (L_pick (v:=Bo ((decide (i_29 < (c.terms.length : Int))) && (decide (x16 ≥ 0)))) rfl rfl (and_t hc32 rfl) (nn (rj hR31 ⟨sf1,sf2,sf5,sf6,sf7,rfl,hst⟩))))
 refine ps rfl (ps rfl (L_pick (v:=Bo ((decide (i_29 < (c.terms.length : Int))) && (decide (x16 ≥ 0)))) rfl rfl (and_f hc32) (nn (rj hR31 ⟨sf1,sf2,sf5,sf6,sf7,rfl,hst⟩))))
 intro f w_ hR
 obtain ⟨sf1,sf2,sf5,sf6,sf7,sf20,hst⟩:=rk hR31 hR
 refine W_cond (b:=((decide (i_29 < (c.terms.length : Int))) && (decide (x16 ≥ 0)))) sf20 (fun hc33=>?_) (fun hc33=>?_)
 have hB30:=(ite_t hc33).symm.trans hB30
 refine W_skip (W_seq (W_block (W_seq ?_)))
 obtain ⟨x34,hx34,hB30⟩:=bind_some hB30
 obtain ⟨x44,hx44,hB30⟩:=bind_some hB30
 obtain ⟨R50,hR50⟩:=exR fun f w_=>f 1 = v1∧f 2 = Pt g3∧f 5 = v27_out∧f 6 = I x16∧f 7 = I i_29∧f 41 = Bo ((x44 == 0) && (decide (x34.coef > x16)))∧Star H w_ ([oF 3 RP.int v27_out out_27,box g3 54 #[v0_0,I c.bound]])
 refine W_join R50 ?_ ?_
 refine W_region (mF sf1 rfl (fA 0 fa_54_0 sf2 rfl (ldB 1 hst Tryz.isAgg52 rfl rfl rfl (mF sf7 rfl (L_ix (r:=rTerm) rfl Tryz.underlying52 Tryz.sizeOf83 rfl h0_0 rfl hx34 (fun g51 o52 cs_g51 hrk_hat53 hat53=>?_))))))
 obtain rfl:=rTerm_iff.1 hrk_hat53
 refine fA (o52 + 1) fa_83_1 rfl rfl (L_ld rfl Tryz.isAgg3 rfl (At.cell (AtH.at hat53 hst.sub) (j:=1) rfl) ?_)
 obtain ⟨H55b,l56,s57,z58,k59⟩:=hst.borrow
 refine L_call rfl Tryz.call86 (ops2 rfl rfl) (s_l3State_c (p:=p) (lit:=x34.lit) s57 (RP.mono _ h1 l56) hx44) ?_
 rintro _ w60 ⟨rfl,hst⟩
 have hst:=k59 hst c0
 refine L_eql rfl rfl rfl (mB rfl (L_split (d:=32) (b:=(x44 == 0)) rfl (fun hc61=>?_) (fun hc61=>?_)))
 refine fA 0 fa_54_0 sf2 rfl (ldB 1 hst Tryz.isAgg52 rfl rfl rfl (mF sf7 rfl (L_ix (r:=rTerm) rfl Tryz.underlying52 Tryz.sizeOf83 rfl h0_0 rfl hx34 (fun g62 o63 cs_g62 hrk_hat64 hat64=>?_))))
 obtain rfl:=rTerm_iff.1 hrk_hat64
 refine fA o63 fa_83_0 rfl rfl (L_ld rfl Tryz.isAgg3 rfl (At.cell (AtH.at hat64 hst.sub) (j:=0) rfl) (mF sf6 rfl (L_gtr rfl rfl rfl (L_pick (v:=Bo ((x44 == 0) && (decide (x34.coef > x16)))) rfl rfl (and_t hc61 rfl) (nn (rj hR50 ⟨sf1,sf2,sf5,sf6,sf7,rfl,hst⟩))))))
 refine ps rfl (ps rfl (ps rfl (ps rfl (ps rfl (ps rfl (ps rfl (ps rfl (L_pick (v:=Bo ((x44 == 0) && (decide (x34.coef > x16)))) rfl rfl (and_f hc61) (nn (rj hR50 ⟨sf1,sf2,sf5,sf6,sf7,rfl,hst⟩))))))))))
 intro f w_ hR
 obtain ⟨sf1,sf2,sf5,sf6,sf7,sf41,hst⟩:=rk hR50 hR
 obtain ⟨out_66,hA68,hB30⟩:=bind_some hB30
 obtain ⟨R68,hR68⟩:=exR fun f w_=>∃ v66_out : Value,f 1 = v1∧f 2 = Pt g3∧f 5 = v66_out∧f 6 = I x16∧f 7 = I i_29∧Star H w_ ([oF 3 RP.int v66_out out_66,box g3 54 #[v0_0,I c.bound]])
 refine W_join R68 ?_ ?_
 refine W_cond (b:=((x44 == 0) && (decide (x34.coef > x16)))) sf41 (fun hc69=>?_) (fun hc69=>?_)
 have hA68:=(ite_t hc69).symm.trans hA68
 obtain ⟨x77,hx77,hA68⟩:=bind_some hA68
 refine W_region (mF sf5 rfl (fA 0 fa_54_0 sf2 rfl (ldB 1 hst Tryz.isAgg52 rfl rfl rfl (mF sf7 rfl (L_ix (r:=rTerm) rfl Tryz.underlying52 Tryz.sizeOf83 rfl h0_0 rfl hx34 (fun g81 o82 cs_g81 hrk_hat83 hat83=>?_))))))
 obtain rfl:=rTerm_iff.1 hrk_hat83
 refine fA (o82 + 1) fa_83_1 rfl rfl (L_ld rfl Tryz.isAgg3 rfl (At.cell (AtH.at hat83 hst.sub) (j:=1) rfl) (L_bs rfl (parts1 rfl) (bs_51_1_0 (I x34.lit) rfl) hst (fun g85 w86 hst=>?_)))
 have hst:=Star.addF (r:=RP.int) (cs:=[I x34.lit]) (x:=x34.lit) hst rfl
 have hst:=Star.mkRow (R:=(OR.frz RP.int)) [([I x34.lit],x34.lit)] [x34.lit] 1 hst rfl rfl rfl (by decide)
 have hst:=hst.get 1 rfl
 refine L_appM (v:=v27_out) (u:=(Sl g85 1 1)) rfl et_51 rfl rfl hst hx77 (fun v88 w89 hst=>aV v88 rfl (nn ?_))
 obtain rfl:=so hA68
 exact rj hR68 ⟨v88,sf1,sf2,rfl,sf6,sf7,hst⟩
 have hA68:=(ite_f hc69).symm.trans hA68
 refine W_skip ?_
 obtain rfl:=so hA68
 exact rj hR68 ⟨v27_out,sf1,sf2,sf5,sf6,sf7,hst⟩
 intro f w_ hR
 obtain ⟨v66_out,sf1,sf2,sf5,sf6,sf7,hst⟩:=rk hR68 hR
 refine W_region (mF sf7 rfl (L_add rfl rfl rfl (aI rfl (nn ?_))))
 obtain rfl:=so hB30
 show ∃ m,m < _∧I30 m _ _
 refine ⟨n30,Nat.lt_succ_self _,?_⟩
 exact ij hI30 ⟨out_66,i64 (i_29 + 1),v66_out,hL30,sf1,sf2,sf5,sf6,rfl,hst⟩
 have hB30:=(ite_f hc33).symm.trans hB30
 refine W_exit ?_
 obtain rfl:=so hB30
 obtain rfl:=so hL30
 exact rj hR30 ⟨out_27,i_29,v27_out,rfl,sf5,(Star.keepN 1 hst)⟩
 intro f w_ hR
 obtain ⟨out_27,i_29,v27_out,rfl,sf5,hst⟩:=rk hR30 hR
 refine sq (mF sf5 rfl (aV v27_out rfl (nn (W_ret (retG1 (v1:=v27_out) Tryz.results70 rfl ?_)))))
 obtain rfl:=so hF
 exact ⟨v27_out,rfl,hst⟩
theorem s_l3Assign_c {p : List Int} {lit : Int} {v0 : Value} {H : FH} {w : World} (hst : Star H w [oF 3 RP.int v0 p]) {r : List Int} (hF : s_l3Assign p lit = some r) :
 C Tryz.prog 71 #[v0,I lit] w fun v w'=>v = .tuple #[]∧Star H w' [oF 3 RP.int v0 r]:=by
 unfold s_l3Assign at hF
 refine C_enter Tryz.func71 rfl Tryz.ntmps71 rfl (sq (mI rfl (L_gtr rfl rfl rfl (nn ?_))))
 obtain ⟨kp_1,hA2,hF⟩:=bind_some hF
 obtain ⟨R2,hR2⟩:=exR fun f w_=>Star H w_ ([oF 3 RP.int v0 kp_1])
 refine W_join R2 ?_ ?_
 refine W_cond (b:=decide (lit > 0)) rfl (fun hc3=>?_) (fun hc3=>?_)
 have hA2:=(ite_t hc3).symm.trans hA2
 obtain ⟨x4,hx4,hA2⟩:=bind_some hA2
 refine W_region (mV v0 rfl (mI rfl (L_sub rfl rfl rfl ?_)))
 obtain ⟨g8,cap_g8,hv9,_,_⟩:=Star.row 0 hst rfl hx4
 refine L_ixO (R:=(OR.frz RP.int)) (tb:=0) 0 rfl Tryz.underlying51 Tryz.sizeOf3 rfl hv9 (by first | rfl | simp) rfl hx4 ?_
 have hst:=Star.addF (r:=RP.int) (cs:=[I 1]) (x:=1) hst rfl
 refine L_stE1 (u:=I 1) rfl Tryz.sizeOf3 rfl rfl rfl hv9 hst hx4 (fun w10 hst=>nn ?_)
 obtain rfl:=so hA2
 exact rj hR2 hst
 have hA2:=(ite_f hc3).symm.trans hA2
 obtain ⟨x11,hx11,hA2⟩:=bind_some hA2
 refine W_region (mV v0 rfl (mI rfl (L_neg rfl rfl (L_sub rfl rfl rfl ?_))))
 obtain ⟨g15,cap_g15,hv16,_,_⟩:=Star.row 0 hst rfl hx11
 refine L_ixO (R:=(OR.frz RP.int)) (tb:=0) 0 rfl Tryz.underlying51 Tryz.sizeOf3 rfl hv16 (by first | rfl | simp) rfl hx11 ?_
 have hst:=Star.addF (r:=RP.int) (cs:=[I (-1)]) (x:=(-1)) hst rfl
 refine L_stE1 (u:=I (-1)) rfl Tryz.sizeOf3 rfl rfl rfl hv16 hst hx11 (fun w17 hst=>nn ?_)
 obtain rfl:=so hA2
 exact rj hR2 hst
 intro f w_ hR
 rw [hR2] at hR
 have hst:=hR
 clear hR2
 refine ret0 Tryz.results71 ?_
 obtain rfl:=so hF
 exact ⟨rfl,hst⟩
theorem s_l3Propagate_c {fu : Nat} {list : List Con} {p : List Int} {v0 : Value} {v1 : Value} {H : FH} {w : World} (hst : Star H w [oF 3 RP.int v1 p]) (h0 : (rS 54 (rCon 83)).rel H [v0] list) {r : Int × (List Int)} (hF : s_l3Propagate fu list p = some r) :
 C Tryz.prog 59 #[v0,v1] w fun v w'=>v = I r.1∧Star H w' [oF 3 RP.int v1 r.2]:=by
 unfold s_l3Propagate at hF
 refine C_enter Tryz.func59 rfl Tryz.ntmps59 rfl (sq (aI rfl (nq (sq (aB rfl (nn ?_))))))
 obtain ⟨j4,hL4,hF⟩:=bind_some hF
 obtain ⟨R4,hR4⟩:=exR fun f w_=>∃ p_2 : List Int,∃ changed_3 : Bool,j4 = .nx (p_2,changed_3)∧Star H w_ ([oF 3 RP.int v1 p_2])
 refine W_join R4 ?_ ?_
 refine W_block ?_
 obtain ⟨I4,hI4⟩:=exI fun n f w_=>∃ p_2 : List Int,∃ changed_3 : Bool,whileL (s_l3Propagate_b1 fu list) n (p_2,changed_3) = some j4∧f 0 = v0∧f 1 = v1∧f 5 = Bo changed_3∧Star H w_ ([oF 3 RP.int v1 p_2])
 refine W_loop I4 (n:=fu) ?_ ?_
 exact ij hI4 ⟨p,true,hL4,rfl,rfl,rfl,hst⟩
 intro n4 f w_ hI
 obtain ⟨p_2,changed_3,hL4,sf0,sf1,sf5,hst⟩:=ik hI4 hI
 rcases n4 with _ | n4
 exact (while_zero hL4).elim
 obtain ⟨o4,hB4,hL4⟩:=while_succ hL4
 rw [s_l3Propagate_b1] at hB4
 refine W_seq (sq (mF sf5 rfl (nn (W_cond (b:=changed_3) rfl (fun hc5=>?_) (fun hc5=>?_)))))
 have hB4:=(ite_t hc5).symm.trans hB4
 refine W_skip (W_block (sq (aB rfl (ns (aI rfl (nn ?_))))))
 have hlen9 : List.length list≤9223372036854775807:=len_le (slice_len h0)
 obtain ⟨j9,hL9,hB4⟩:=bind_some hB4
 obtain ⟨R9,hR9⟩:=exR fun f w_=>∃ p_7 : List Int,∃ changed_8 : Bool,j9 = .nx (p_7,changed_8)∧f 0 = v0∧f 1 = v1∧f 5 = Bo changed_8∧Star H w_ ([oF 3 RP.int v1 p_7])
 refine W_join R9 ?_ ?_
 refine W_block ?_
 obtain ⟨I9,hI9⟩:=exI fun n f w_=>∃ i_6 : Nat,∃ suf9 : List Con,∃ p_7 : List Int,∃ changed_8 : Bool,n = suf9.length∧List.drop i_6 list = suf9∧i_6 + suf9.length = list.length∧rangeL (s_l3Propagate_b2 fu) suf9 i_6 (p_7,changed_8) = some j9∧f 0 = v0∧f 1 = v1∧f 5 = Bo changed_8∧f 6 = I i_6∧Star H w_ ([oF 3 RP.int v1 p_7])
 refine W_loop I9 (n:=list.length) ?_ ?_
 exact ij hI9 ⟨0,list,p_2,false,rfl,rfl,Nat.zero_add _,hL9,sf0,sf1,rfl,rfl,hst⟩
 intro n9 f w_ hI
 obtain ⟨i_6,suf9,p_7,changed_8,rfl,hd9,hl9,hL9,sf0,sf1,sf5,sf6,hst⟩:=ik hI9 hI
 refine W_seq (sq (mF sf6 rfl (mF sf0 rfl (L_len rfl Tryz.underlying29 rfl (slice_len h0) (L_lss rfl rfl rfl (nn (W_cond (b:=decide ((i_6 : Int) < (list.length : Int))) rfl (fun hc10=>?_) (fun hc10=>?_))))))))
 have hlt9:=of_decide_eq_true hc10
 rcases suf9 with _ | ⟨x_9,rest9⟩
 exact absurd hlt9 (by simp at hl9; omega)
 obtain ⟨o9,hB9,hL9⟩:=range_cons hL9
 rw [s_l3Propagate_b2] at hB9
 have hix9:=drop_idx hd9
 refine W_skip (W_seq (W_block (W_seq (W_seq ?_))))
 obtain ⟨x21,hx21,hB9⟩:=bind_some hB9
 refine W_region (mF sf0 rfl (mF sf6 rfl (L_ix (r:=(rCon 83)) rfl Tryz.underlying29 Tryz.sizeOf54 rfl h0 rfl hix9 (fun g23 o24 cs_g23 hrk_hat25 hat25=>?_))))
 obtain ⟨u26_0,rfl,hu26_0⟩:=rCon_iff.1 hrk_hat25
 refine L_lda (cs:=[u26_0,I x_9.bound]) rfl Tryz.isAgg54 Tryz.sizeOf54 rfl (At.sub (AtH.at hat25 hst.sub) 0 2) rfl (mF sf1 rfl ?_)
 obtain ⟨H27b,l28,s29,z30,k31⟩:=hst.borrow
 have hb32 : (rS 3 RP.int).rel H27b [v1] p_7:=fz_own 0 z30 rfl
 refine L_call rfl Tryz.call69 (ops2 rfl rfl) (s_l3Slack_c (c:=x_9) (p:=p_7) s29 (RP.mono _ hu26_0 l28) hb32 hx21) ?_
 rintro _ w33 ⟨rfl,hst⟩
 have hst:=k31 hst c0
 refine L_lss rfl rfl rfl (nn (W_cond (b:=decide (x21 < 0)) rfl (fun hc34=>?_) (fun hc34=>?_)))
 have hB9:=(ite_t hc34).symm.trans hB9
 refine sq (mF sf6 rfl (aI rfl (nn (W_ret (retG1 (v1:=I i_6) Tryz.results59 rfl ?_)))))
 obtain rfl:=so hB9
 obtain rfl:=so hL9
 obtain rfl:=so hB4
 obtain rfl:=so hL4
 obtain rfl:=so hF
 exact ⟨rfl,hst⟩
 have hB9:=(ite_f hc34).symm.trans hB9
 refine W_skip (W_seq ?_)
 obtain ⟨x45,hx45,hB9⟩:=bind_some hB9
 refine W_region (mF sf0 rfl (mF sf6 rfl (L_ix (r:=(rCon 83)) rfl Tryz.underlying29 Tryz.sizeOf54 rfl h0 rfl hix9 (fun g48 o49 cs_g48 hrk_hat50 hat50=>?_))))
 obtain ⟨u51_0,rfl,hu51_0⟩:=rCon_iff.1 hrk_hat50
 refine L_lda (cs:=[u51_0,I x_9.bound]) rfl Tryz.isAgg54 Tryz.sizeOf54 rfl (At.sub (AtH.at hat50 hst.sub) 0 2) rfl (mF sf1 rfl ?_)
 obtain ⟨H52b,l53,s54,z55,k56⟩:=hst.borrow
 have hb57 : (rS 3 RP.int).rel H52b [v1] p_7:=fz_own 0 z55 rfl
 refine L_call rfl Tryz.call70 (ops2 rfl rfl) (s_l3Implied_c (c:=x_9) (p:=p_7) s54 (RP.mono _ hu51_0 l53) hb57 hx45) ?_
 rintro r58_0 w58 ⟨_,rfl,hst⟩
 have hst:=k56 hst (co closed_int c0)
 refine aV r58_0 rfl (ns (aI rfl (nn ?_)))
 have hlen63 : List.length x45≤9223372036854775807:=len_le (Star.len 0 hst rfl)
 obtain ⟨j63,hL63,hB9⟩:=bind_some hB9
 obtain ⟨R63,hR63⟩:=exR fun f w_=>∃ p_61 : List Int,∃ changed_62 : Bool,j63 = .nx (p_61,changed_62)∧f 0 = v0∧f 1 = v1∧f 5 = Bo changed_62∧f 6 = I i_6∧Star H w_ ([oF 3 RP.int v1 p_61])
 refine W_join R63 ?_ ?_
 refine W_block ?_
 obtain ⟨I63,hI63⟩:=exI fun n f w_=>∃ i_60 : Nat,∃ suf63 : List Int,∃ p_61 : List Int,∃ changed_62 : Bool,n = suf63.length∧List.drop i_60 x45 = suf63∧i_60 + suf63.length = x45.length∧rangeL s_l3Propagate_b3 suf63 i_60 (p_61,changed_62) = some j63∧f 0 = v0∧f 1 = v1∧f 5 = Bo changed_62∧f 6 = I i_6∧f 7 = r58_0∧f 8 = I i_60∧Star H w_ ([oF 3 RP.int v1 p_61,oF 3 RP.int r58_0 x45])
 have hst:=hst.get 1 rfl
 refine W_loop I63 (n:=x45.length) ?_ ?_
 exact ij hI63 ⟨0,x45,p_7,changed_8,rfl,rfl,Nat.zero_add _,hL63,sf0,sf1,sf5,sf6,rfl,rfl,hst⟩
 intro n63 f w_ hI
 obtain ⟨i_60,suf63,p_61,changed_62,rfl,hd63,hl63,hL63,sf0,sf1,sf5,sf6,sf7,sf8,hst⟩:=ik hI63 hI
 refine W_seq (sq (mF sf8 rfl (mF sf7 rfl (L_len rfl Tryz.underlying51 rfl (Star.len 1 hst rfl) (L_lss rfl rfl rfl (nn (W_cond (b:=decide ((i_60 : Int) < (x45.length : Int))) rfl (fun hc64=>?_) (fun hc64=>?_))))))))
 have hlt63:=of_decide_eq_true hc64
 rcases suf63 with _ | ⟨x_63,rest63⟩
 exact absurd hlt63 (by simp at hl63; omega)
 obtain ⟨o63,hB63,hL63⟩:=range_cons hL63
 rw [s_l3Propagate_b3] at hB63
 have hix63:=drop_idx hd63
 refine W_skip (W_seq (W_block (W_seq ?_)))
 obtain ⟨x74,hx74,hB63⟩:=bind_some hB63
 refine W_region (mF sf1 rfl (mF sf7 rfl (mF sf8 rfl ?_)))
 obtain ⟨g76,cap_g76,hv77,_,_⟩:=Star.row 1 hst rfl hix63
 refine L_ixO (R:=(OR.frz RP.int)) (tb:=0) 0 rfl Tryz.underlying51 Tryz.sizeOf3 rfl hv77 (by first | rfl | simp) rfl hix63 ?_
 obtain ⟨cs78,hr78,hat78⟩:=Star.eltF 1 hst rfl hv77 hix63
 obtain rfl : _ = [_]:=hr78
 refine L_ld rfl Tryz.isAgg3 rfl (At.cell hat78 (j:=0) rfl) ?_
 obtain ⟨H80b,l81,s82,z83,k84⟩:=hst.lend [_]
 refine L_call rfl Tryz.call71 (ops2 rfl rfl) (s_l3Assign_c (p:=p_61) (lit:=x_63) s82 hx74) ?_
 rintro _ w85 ⟨rfl,hst⟩
 have hst:=k84 hst (co closed_int c0)
 refine nn (W_region (aB rfl (nn (W_region (mF sf8 rfl (L_add rfl rfl rfl (aI rfl (nn ?_))))))))
 obtain rfl:=so hB63
 show ∃ m,m < _∧I63 m _ _
 refine ⟨rest63.length,by simp,?_⟩
 exact ij hI63 ⟨i_60 + 1,rest63,x74,true,rfl,drop_next hd63,by simp at hl63; omega,hL63,sf0,sf1,rfl,sf6,sf7,(Eq.trans rfl (congrArg (Value.int .i64) (i64_succ (n:=x45.length) (by simp at hl63; omega) hlen63))),hst⟩
 rcases suf63 with _ | ⟨_,_⟩
 obtain rfl:=range_nil hL63
 refine W_exit (rj hR63 ⟨p_61,changed_62,rfl,sf0,sf1,sf5,sf6,(Star.keepN 1 hst)⟩)
 exact absurd (of_decide_eq_false hc64) (by simp at hl63; omega)
 intro f w_ hR
 obtain ⟨p_61,changed_62,rfl,sf0,sf1,sf5,sf6,hst⟩:=rk hR63 hR
 refine W_region (mF sf6 rfl (L_add rfl rfl rfl (aI rfl (nn ?_))))
 obtain rfl:=so hB9
 show ∃ m,m < _∧I9 m _ _
 refine ⟨rest9.length,by simp,?_⟩
 exact ij hI9 ⟨i_6 + 1,rest9,p_61,changed_62,rfl,drop_next hd9,by simp at hl9; omega,hL9,sf0,sf1,sf5,(Eq.trans rfl (congrArg (Value.int .i64) (i64_succ (n:=list.length) (by simp at hl9; omega) hlen9))),hst⟩
 rcases suf9 with _ | ⟨_,_⟩
 obtain rfl:=range_nil hL9
 refine W_exit (rj hR9 ⟨p_7,changed_8,rfl,sf0,sf1,sf5,hst⟩)
 exact absurd (of_decide_eq_false hc10) (by simp at hl9; omega)
 intro f w_ hR
 obtain ⟨p_7,changed_8,rfl,sf0,sf1,sf5,hst⟩:=rk hR9 hR
 obtain rfl:=so hB4
 show ∃ m,m < _∧I4 m _ _
 refine ⟨n4,Nat.lt_succ_self _,?_⟩
 exact ij hI4 ⟨p_7,changed_8,hL4,sf0,sf1,sf5,hst⟩
 have hB4:=(ite_f hc5).symm.trans hB4
 refine W_exit ?_
 obtain rfl:=so hB4
 obtain rfl:=so hL4
 exact rj hR4 ⟨p_2,changed_3,rfl,hst⟩
 intro f w_ hR
 obtain ⟨p_2,changed_3,rfl,hst⟩:=rk hR4 hR
 refine sq (aI rfl (nn (W_ret (retG1 (v1:=I (-1)) Tryz.results59 rfl ?_))))
 obtain rfl:=so hF
 exact ⟨rfl,hst⟩
theorem s_l3Rup_c {fu : Nat} {list : List Con} {c : Con} {v0 : Value} {v1_0 : Value} {H : FH} {w : World} (hst : Star H w []) (h0 : (rS 54 (rCon 83)).rel H [v0] list) (h1_0 : (rS 83 rTerm).rel H [v1_0] c.terms) {r : Bool} (hF : s_l3Rup fu list c = some r) :
 C Tryz.prog 44 #[v0,.agg #[v1_0,I c.bound]] w fun v w'=>v = Bo r∧Star H w' []:=by
 unfold s_l3Rup at hF
 refine C_enter Tryz.func44 rfl Tryz.ntmps44 rfl (sq (L_box (v:=.agg #[v1_0,I c.bound]) (cs:=#[v1_0,I c.bound]) rfl rfl rfl hst (fun g3 w4 hst=>aB rfl (nq ?_))))
 obtain ⟨x10,hx10,hF⟩:=bind_some hF
 refine W_region (L_lda (cs:=[v1_0,I c.bound]) rfl Tryz.isAgg54 Tryz.sizeOf54 rfl (At.sub0 (Blk.at (Star.blkAt 0 hst rfl)) 0 2) rfl ?_)
 obtain ⟨H16b,l17,s18,z19,k20⟩:=hst.borrow
 refine L_call rfl Tryz.call58 (ops1 rfl) (s_NegateConstraint_c (c:=c) s18 (RP.mono _ h1_0 l17) hx10) ?_
 rintro _ w21 ⟨r21_0,rfl,hst⟩
 have hst:=k20 hst (co closed_term c0)
 refine mV (.tuple #[.agg #[r21_0,I x10.1.bound],Bo x10.2]) rfl (L_ex (v:=.agg #[r21_0,I x10.1.bound]) rfl rfl rfl (L_ex (v:=Bo x10.2) rfl rfl rfl (L_al (cs:=#[S0,I 0]) rfl Tryz.zeroValue54 rfl hst (fun g23 w24 hst=>L_staB (vs:=#[r21_0,I x10.1.bound]) (cs2:=#[r21_0,I x10.1.bound]) 0 rfl Tryz.sizeOf54 rfl rfl rfl (ones_cons (one_len (Star.len 1 hst rfl)) (ones_cons rfl ones_nil)) hst rfl (by show 0 + 2≤2; decide) rfl (fun w25 hst=>aB rfl (nq ?_))))))
 obtain ⟨x29,hx29,hF⟩:=bind_some hF
 obtain ⟨x36,hx36,hF⟩:=bind_some hF
 have hst:=Star.drop 2 hst rfl
 refine W_drawS 5 [anyF,isV (v0),anyF,isV (.agg #[r21_0,I x10.1.bound]),anyF] [box g23 54 #[r21_0,I x10.1.bound]] [.base (oF 83 rTerm r21_0 x10.1.terms) (some 4),.made 0 13 (fun v_=>oF 54 (rCon 83) v_ ([])) (some 2),.made 2 15 (fun v_=>oF 54 (rCon 83) v_ x29) none,.made 4 17 (fun v_=>oS 54 (oCon 83) v_ ([x10.1])) none] ([]) [([],[1]),([],[]),([1],[2]),([],[]),([0],[3])] (S:=[(none,[],some 4),(some 0,[13],some 2),(some 2,[15],none),(some 4,[17],none)]) Tryz_mix (by kernel_rfl) rfl (by kernel_rfl) (amF_cons (mono_any) (amF_cons (mono_V _) (amF_cons (mono_any) (amF_cons (mono_V _) (amF_cons (mono_any) amF_nil))))) hst ?_ (fun f w_ H42 hS42 hE42 hT42 hst=>?_)
 refine opsS_cons ?_ ?_
 intro f w_ H42 X42 hS42 hE42 hP42 hst
 refine L_bs rfl parts0 (bs_29_0  ) hst (fun g52 w53 hst=>?_)
 have hst:=Star.mkRow (R:=(OR.frz (rCon 83))) [] [] 0 hst rfl rfl rfl (by decide)
 have hst:=hst.get 1 rfl
 exact L_nil ⟨rfl,_,_,rfl,Le.refl _,fun _ _=>trivial,hst⟩
 refine opsS_cons (fun f w_ _ _ s _ _ hst=>mF ((s 0 rfl).trans rfl) rfl (nO rfl rfl hst)) (opsS_cons ?_ ?_)
 intro f w_ H42 X42 hS42 hE42 hP42 hst
 have hst : Star H42 w_ (box g23 54 #[r21_0,I x10.1.bound] :: oF 54 (rCon 83) (f 13) ([]) :: X42):=hst
 have hst:=hst.get 1 rfl
 refine L_app (v:=(f 13)) (u:=v0) rfl et_29 rfl (hP42 1 14 rfl rfl) hst (RP.mono _ h0 hE42) hx29 (fun v56 w57 hst=>?_)
 have hst:=hst.get 1 rfl
 exact L_nil ⟨rfl,_,_,rfl,Le.refl _,fun _ _=>trivial,hst⟩
 refine opsS_cons (fun f w_ _ _ s _ _ hst=>L_lda (cs:=[r21_0,I x10.1.bound]) rfl Tryz.isAgg54 Tryz.sizeOf54 ((s 5 rfl).trans rfl) (At.sub0 (Blk.at (Star.blkAt 0 hst rfl)) 0 2) rfl (nO rfl rfl hst)) (opsS_cons ?_ ?_)
 intro f w_ H42 X42 hS42 hE42 hP42 hst
 have hst : Star H42 w_ (box g23 54 #[r21_0,I x10.1.bound] :: oF 83 rTerm r21_0 x10.1.terms :: X42):=hst
 refine L_bs rfl (parts1 (hP42 3 16 rfl rfl)) (bs_29_1_2 (r21_0) (I x10.1.bound) ) hst (fun g59 w60 hst=>?_)
 have hst:=hst.get 2 rfl
 have hst:=oCon_close (c:=x10.1) hst
 have hst:=Star.mkRow (R:=(oCon 83)) [([r21_0,I x10.1.bound],x10.1)] [x10.1] 1 hst rfl rfl rfl (by decide)
 have hst:=hst.get 1 rfl
 exact L_nil ⟨rfl,_,_,rfl,Le.refl _,fun _ _=>trivial,hst⟩
 exact opsS_nil
 have hst : Star H42 w_ ([box g23 54 #[r21_0,I x10.1.bound],oF 54 (rCon 83) (f 15) x29,oS 54 (oCon 83) (f 17) ([x10.1])]):=hst
 have hst:=hst.get 2 rfl
 obtain ⟨H64,l65,hst⟩:=Star.shallow hst
 have hst : Star H64 w_ (oF 54 (rCon 83) (f 17) ([x10.1]) :: _):=hst
 have hst:=hst.get 2 rfl
 refine L_appM (v:=(f 15)) (u:=(f 17)) rfl et_29 rfl rfl hst hx36 (fun v66 w67 hst=>aV v66 rfl (nq ?_))
 obtain ⟨x69,hx69,hF⟩:=bind_some hF
 obtain ⟨x79,hx79,hF⟩:=bind_some hF
 refine W_region (mV v66 rfl (L_mk (R:=(OR.frz RP.int)) (z0:=0) (zc:=[I 0]) rfl et_51 (by kernel_rfl) (fun _ _=>⟨rfl,rfl⟩) rfl rfl hx69 hst (fun v81 w82 hst=>?_)))
 obtain ⟨H84b,l85,s86,z87,k88⟩:=hst.lend [_]
 have hb89 : (rS 54 (rCon 83)).rel H84b [v66] x36:=fz_own 0 z87 rfl
 refine L_call rfl Tryz.call59 (ops2 rfl rfl) (s_l3Propagate_c (list:=x36) (p:=x69) s86 hb89 hx79) ?_
 rintro _ w90 ⟨rfl,hst⟩
 have hst:=k88 hst (co closed_int c0)
 refine L_geq rfl rfl rfl (aB rfl (nn (W_ret (retG1 (v1:=Bo (decide (x79.1 ≥ 0))) Tryz.results44 rfl ?_))))
 obtain rfl:=so hF
 exact ⟨rfl,(Star.down (Star.keepN 0 hst) (Le.trans hE42 l65) c0)⟩
theorem s_l4Kept_c {d : Db} {v0_0 : Value} {v0_1 : Value} {H : FH} {w : World} {R : List Ass} (hst : Star H w R) (h0_0 : (rS 54 (rCon 83)).rel H [v0_0] d.list) (h0_1 : (rS 4 RP.bool).rel H [v0_1] d.gone) {r : List Con} (hF : s_l4Kept d = some r) :
 C Tryz.prog 45 #[.agg #[v0_0,v0_1]] w fun v w'=>∃ H' : FH,Le H H'∧∃ (u1 : Value),v = u1∧Star H' w' (oF 54 (rCon 83) u1 r :: R):=by
 unfold s_l4Kept at hF
 refine C_enter Tryz.func45 rfl Tryz.ntmps45 rfl (sq (L_box (v:=.agg #[v0_0,v0_1]) (cs:=#[v0_0,v0_1]) rfl rfl rfl hst (fun g3 w4 hst=>aV S0 rfl (ns (L_bs rfl parts0 (bs_29_0  ) hst (fun g8 w9 hst=>?_))))))
 have hst:=Star.mkRow (R:=(OR.frz (rCon 83))) [] [] 0 hst rfl rfl rfl (by decide)
 refine aV (Sl g8 0 0) rfl (nq (sq (aI rfl (nn ?_))))
 have hlen14 : List.length d.list≤9223372036854775807:=len_le (slice_len h0_0)
 obtain ⟨j14,hL14,hF⟩:=bind_some hF
 obtain ⟨R14,hR14⟩:=exR fun f w_=>∃ out_12 : List Con,∃ v12_out : Value,j14 = .nx out_12∧f 3 = v12_out∧Star H w_ (oF 54 (rCon 83) v12_out out_12 :: R)
 refine W_join R14 ?_ ?_
 refine W_block ?_
 obtain ⟨I14,hI14⟩:=exI fun n f w_=>∃ i_11 : Nat,∃ suf14 : List Con,∃ out_12 : List Con,∃ v12_out : Value,n = suf14.length∧List.drop i_11 d.list = suf14∧i_11 + suf14.length = d.list.length∧rangeL (s_l4Kept_b1 d) suf14 i_11 out_12 = some j14∧f 1 = Pt g3∧f 3 = v12_out∧f 4 = I i_11∧Star H w_ (oF 54 (rCon 83) v12_out out_12 :: box g3 47 #[v0_0,v0_1] :: R)
 refine W_loop I14 (n:=d.list.length) ?_ ?_
 exact ij hI14 ⟨0,d.list,[],(Sl g8 0 0),rfl,rfl,Nat.zero_add _,hL14,rfl,rfl,rfl,hst⟩
 intro n14 f w_ hI
 obtain ⟨i_11,suf14,out_12,v12_out,rfl,hd14,hl14,hL14,sf1,sf3,sf4,hst⟩:=ik hI14 hI
 refine W_seq (sq (mF sf4 rfl (fA 0 fa_47_0 sf1 rfl (ldB 1 hst Tryz.isAgg29 rfl rfl rfl (L_len rfl Tryz.underlying29 rfl (slice_len h0_0) (L_lss rfl rfl rfl (nn (W_cond (b:=decide ((i_11 : Int) < (d.list.length : Int))) rfl (fun hc15=>?_) (fun hc15=>?_)))))))))
 have hlt14:=of_decide_eq_true hc15
 rcases suf14 with _ | ⟨x_14,rest14⟩
 exact absurd hlt14 (by simp at hl14; omega)
 obtain ⟨o14,hB14,hL14⟩:=range_cons hL14
 rw [s_l4Kept_b1] at hB14
 have hix14:=drop_idx hd14
 refine W_skip (W_seq (W_block (W_seq ?_)))
 obtain ⟨x16,hx16,hB14⟩:=bind_some hB14
 refine W_region (fA 1 fa_47_1 sf1 rfl (ldB 1 hst Tryz.isAgg45 rfl rfl rfl (mF sf4 rfl (L_ix (r:=RP.bool) rfl Tryz.underlying45 Tryz.sizeOf4 rfl h0_1 rfl hx16 (fun g21 o22 cs_g21 hrk_hat23 hat23=>?_)))))
 obtain rfl : _ = [_]:=hrk_hat23
 refine L_ld rfl Tryz.isAgg4 rfl (At.cell (AtH.at hat23 hst.sub) (j:=0) rfl) (L_not_ rfl rfl (nn ?_))
 obtain ⟨out_25,hA27,hB14⟩:=bind_some hB14
 obtain ⟨R27,hR27⟩:=exR fun f w_=>∃ v25_out : Value,f 1 = Pt g3∧f 3 = v25_out∧f 4 = I i_11∧Star H w_ (oF 54 (rCon 83) v25_out out_25 :: box g3 47 #[v0_0,v0_1] :: R)
 refine W_join R27 ?_ ?_
 refine W_cond (b:=(!x16)) rfl (fun hc28=>?_) (fun hc28=>?_)
 have hA27:=(ite_t hc28).symm.trans hA27
 obtain ⟨x36,hx36,hA27⟩:=bind_some hA27
 refine W_region (mF sf3 rfl (fA 0 fa_47_0 sf1 rfl (ldB 1 hst Tryz.isAgg29 rfl rfl rfl (mF sf4 rfl (L_ix (r:=(rCon 83)) rfl Tryz.underlying29 Tryz.sizeOf54 rfl h0_0 rfl hix14 (fun g40 o41 cs_g40 hrk_hat42 hat42=>?_))))))
 obtain ⟨u43_0,rfl,hu43_0⟩:=rCon_iff.1 hrk_hat42
 refine L_lda (cs:=[u43_0,I x_14.bound]) rfl Tryz.isAgg54 Tryz.sizeOf54 rfl (At.sub (AtH.at hat42 hst.sub) 0 2) rfl (L_bs rfl (parts1 rfl) (bs_29_1_2 (u43_0) (I x_14.bound) ) hst (fun g44 w45 hst=>?_))
 have hst:=Star.addF (r:=(rCon 83)) (cs:=[u43_0,I x_14.bound]) (x:=x_14) hst (rCon_iff.2 ⟨_,rfl,hu43_0⟩)
 have hst:=Star.mkRow (R:=(OR.frz (rCon 83))) [([u43_0,I x_14.bound],x_14)] [x_14] 1 hst rfl rfl rfl (by decide)
 have hst:=hst.get 1 rfl
 refine L_appM (v:=v12_out) (u:=(Sl g44 1 1)) rfl et_29 rfl rfl hst hx36 (fun v47 w48 hst=>aV v47 rfl (nn ?_))
 obtain rfl:=so hA27
 exact rj hR27 ⟨v47,sf1,rfl,sf4,hst⟩
 have hA27:=(ite_f hc28).symm.trans hA27
 refine W_skip ?_
 obtain rfl:=so hA27
 exact rj hR27 ⟨v12_out,sf1,sf3,sf4,hst⟩
 intro f w_ hR
 obtain ⟨v25_out,sf1,sf3,sf4,hst⟩:=rk hR27 hR
 refine W_region (mF sf4 rfl (L_add rfl rfl rfl (aI rfl (nn ?_))))
 obtain rfl:=so hB14
 show ∃ m,m < _∧I14 m _ _
 refine ⟨rest14.length,by simp,?_⟩
 exact ij hI14 ⟨i_11 + 1,rest14,out_25,v25_out,rfl,drop_next hd14,by simp at hl14; omega,hL14,sf1,sf3,(Eq.trans rfl (congrArg (Value.int .i64) (i64_succ (n:=d.list.length) (by simp at hl14; omega) hlen14))),hst⟩
 rcases suf14 with _ | ⟨_,_⟩
 obtain rfl:=range_nil hL14
 refine W_exit ?_
 have hst:=Star.drop 1 hst rfl
 exact rj hR14 ⟨out_12,v12_out,rfl,sf3,hst⟩
 exact absurd (of_decide_eq_false hc15) (by simp at hl14; omega)
 intro f w_ hR
 obtain ⟨out_12,v12_out,rfl,sf3,hst⟩:=rk hR14 hR
 refine sq (mF sf3 rfl (aV v12_out rfl (nn (W_ret (retG1 (v1:=v12_out) Tryz.results45 rfl ?_)))))
 obtain rfl:=so hF
 exact ⟨H,(Le.refl _),v12_out,rfl,hst⟩
theorem s_l1Net_c {terms : List Term} {bound : Int} {v0 : Value} {H : FH} {w : World} (hst : Star H w []) (h0 : (rS 83 rTerm).rel H [v0] terms) {r : (List Int) × Int} (hF : s_l1Net terms bound = some r) :
 C Tryz.prog 60 #[v0,I bound] w fun v w'=>∃ (u1 : Value),v = .tuple #[u1,I r.2]∧Star H w' [oF 3 RP.int u1 r.1]:=by
 unfold s_l1Net at hF
 refine C_enter Tryz.func60 rfl Tryz.ntmps60 rfl (sq (aV S0 rfl (aI rfl (nq ?_))))
 obtain ⟨x1,hx1,hF⟩:=bind_some hF
 refine W_region (L_mk (R:=(OR.frz RP.int)) (z0:=0) (zc:=[I 0]) rfl et_51 (by kernel_rfl) (fun _ _=>⟨rfl,rfl⟩) rfl rfl hx1 hst (fun v5 w6 hst=>aV v5 rfl (nq (sq (aI rfl (nn ?_))))))
 have hlen13 : List.length terms≤9223372036854775807:=len_le (slice_len h0)
 obtain ⟨j13,hL13,hF⟩:=bind_some hF
 obtain ⟨R13,hR13⟩:=exR fun f w_=>∃ bound_9 : Int,∃ net_10 : List Int,∃ H11 : FH,j13 = .nx (bound_9,net_10)∧Le H H11∧f 1 = I bound_9∧f 6 = v5∧Star H11 w_ ([oF 3 RP.int v5 net_10])
 refine W_join R13 ?_ ?_
 refine W_block ?_
 obtain ⟨I13,hI13⟩:=exI fun n f w_=>∃ i_8 : Nat,∃ suf13 : List Term,∃ bound_9 : Int,∃ net_10 : List Int,∃ H11 : FH,n = suf13.length∧List.drop i_8 terms = suf13∧i_8 + suf13.length = terms.length∧rangeL s_l1Net_b1 suf13 i_8 (bound_9,net_10) = some j13∧Le H H11∧f 0 = v0∧f 1 = I bound_9∧f 6 = v5∧f 7 = I i_8∧Star H11 w_ ([oF 3 RP.int v5 net_10])
 refine W_loop I13 (n:=terms.length) ?_ ?_
 exact ij hI13 ⟨0,terms,bound,x1,H,rfl,rfl,Nat.zero_add _,hL13,(Le.refl _),rfl,rfl,rfl,rfl,hst⟩
 intro n13 f w_ hI
 obtain ⟨i_8,suf13,bound_9,net_10,H11,rfl,hd13,hl13,hL13,l12,sf0,sf1,sf6,sf7,hst⟩:=ik hI13 hI
 refine W_seq (sq (mF sf7 rfl (mF sf0 rfl (L_len rfl Tryz.underlying52 rfl (slice_len (RP.mono _ h0 l12)) (L_lss rfl rfl rfl (nn (W_cond (b:=decide ((i_8 : Int) < (terms.length : Int))) rfl (fun hc14=>?_) (fun hc14=>?_))))))))
 have hlt13:=of_decide_eq_true hc14
 rcases suf13 with _ | ⟨x_13,rest13⟩
 exact absurd hlt13 (by simp at hl13; omega)
 obtain ⟨o13,hB13,hL13⟩:=range_cons hL13
 rw [s_l1Net_b1] at hB13
 have hix13:=drop_idx hd13
 refine W_skip (W_seq (W_block (sq (mF sf0 rfl (mF sf7 rfl (L_ix (r:=rTerm) rfl Tryz.underlying52 Tryz.sizeOf83 rfl (RP.mono _ h0 l12) rfl hix13 (fun g22 o23 cs_g22 hrk_hat24 hat24=>?_)))))))
 obtain rfl:=rTerm_iff.1 hrk_hat24
 refine L_lda (cs:=[I x_13.coef,I x_13.lit]) rfl Tryz.isAgg83 Tryz.sizeOf83 rfl (At.sub (AtH.at hat24 hst.sub) 0 2) rfl (L_al (cs:=#[I 0,I 0]) rfl Tryz.zeroValue83 rfl hst (fun g26 w27 hst=>L_staB (vs:=#[I x_13.coef,I x_13.lit]) (cs2:=#[I x_13.coef,I x_13.lit]) 0 rfl Tryz.sizeOf83 rfl rfl rfl (ones_cons rfl (ones_cons rfl ones_nil)) hst rfl (by show 0 + 2≤2; decide) rfl (fun w28 hst=>ns (fA 1 fa_83_1 rfl rfl (ldB 0 hst Tryz.isAgg3 rfl rfl rfl (L_gtr rfl rfl rfl (nn ?_)))))))
 obtain ⟨⟨bound_29,net_30⟩,hA33,hB13⟩:=bind_some hB13
 obtain ⟨R33,hR33⟩:=exR fun f w_=>∃ H31 : FH,Le H11 H31∧f 0 = v0∧f 1 = I bound_29∧f 6 = v5∧f 7 = I i_8∧Star H31 w_ ([oF 3 RP.int v5 net_30])
 refine W_join R33 ?_ ?_
 refine W_cond (b:=decide (x_13.lit > 0)) rfl (fun hc34=>?_) (fun hc34=>?_)
 have hA33:=(ite_t hc34).symm.trans hA33
 obtain ⟨x35,hx35,hA33⟩:=bind_some hA33
 obtain ⟨g42,cap_g42,hv43,_,_⟩:=Star.row 1 hst rfl hx35
 refine W_drawS 11 [isV (v5),isV (Pq g26 1),isV (I x_13.lit),isV (v5),isV (Pq g26 1),isV (I x_13.lit),isV (.pointer (some ⟨g42,Int.toNat x_13.lit * 1,none⟩)),isV (I x35),isV (Pt g26),isV (I x_13.coef),isV (I (i64 (x35 + x_13.coef)))] [box g26 83 #[I x_13.coef,I x_13.lit],oF 3 RP.int v5 net_10] [] ([]) [([],[]),([],[]),([],[]),([],[]),([],[]),([],[]),([],[]),([],[]),([],[]),([],[]),([],[])] (S:=[]) Tryz_mix (by kernel_rfl) rfl (by kernel_rfl) (amF_cons (mono_V _) (amF_cons (mono_V _) (amF_cons (mono_V _) (amF_cons (mono_V _) (amF_cons (mono_V _) (amF_cons (mono_V _) (amF_cons (mono_V _) (amF_cons (mono_V _) (amF_cons (mono_V _) (amF_cons (mono_V _) (amF_cons (mono_V _) amF_nil))))))))))) hst ?_ (fun f w_ H41 hS41 hE41 hT41 hst=>?_)
 refine opsS_cons (fun f w_ _ _ s _ _ hst=>mF ((s 6 rfl).trans sf6) rfl (nO rfl rfl hst)) (opsS_cons (fun f w_ _ _ s _ _ hst=>fA 1 fa_83_1 ((s 8 rfl).trans rfl) rfl (nO rfl rfl hst)) (opsS_cons (fun f w_ _ _ _ _ p hst=>ldB 0 hst Tryz.isAgg3 (p 1 24 rfl rfl) rfl rfl (nO rfl rfl hst)) (opsS_cons (fun f w_ _ _ s _ _ hst=>mF ((s 6 rfl).trans sf6) rfl (nO rfl rfl hst)) (opsS_cons (fun f w_ _ _ s _ _ hst=>fA 1 fa_83_1 ((s 8 rfl).trans rfl) rfl (nO rfl rfl hst)) (opsS_cons (fun f w_ _ _ _ _ p hst=>ldB 0 hst Tryz.isAgg3 (p 4 27 rfl rfl) rfl rfl (nO rfl rfl hst)) (opsS_cons (fun f w_ _ _ _ _ p hst=>L_ixO (R:=(OR.frz RP.int)) (tb:=0) 0 rfl Tryz.underlying51 Tryz.sizeOf3 (p 3 26 rfl rfl) hv43 (by first | rfl | simp) (p 5 28 rfl rfl) hx35 (nO rfl rfl hst)) (opsS_cons ?_ ?_)))))))
 intro f w_ H41 X41 hS41 hE41 hP41 hst
 obtain ⟨cs46,hr46,hat46⟩:=Star.eltF 1 hst rfl hv43 hx35
 obtain rfl : _ = [_]:=hr46
 refine L_ld rfl Tryz.isAgg3 (hP41 6 29 rfl rfl) (At.cell hat46 (j:=0) rfl) (L_nil ⟨rfl,_,_,rfl,Le.refl _,fun _ _=>rfl,hst⟩)
 refine opsS_cons (fun f w_ _ _ s _ _ hst=>fA 0 fa_83_0 ((s 8 rfl).trans rfl) rfl (nO rfl rfl hst)) (opsS_cons (fun f w_ _ _ _ _ p hst=>ldB 0 hst Tryz.isAgg3 (p 8 31 rfl rfl) rfl rfl (nO rfl rfl hst)) (opsS_cons (fun f w_ _ _ _ _ p hst=>L_add rfl (p 7 30 rfl rfl) (p 9 32 rfl rfl) (nO rfl rfl hst)) (opsS_nil)))
 refine L_ixO (R:=(OR.frz RP.int)) (tb:=0) 0 rfl Tryz.underlying51 Tryz.sizeOf3 (hT41 0 23 rfl rfl) hv43 (by first | rfl | simp) (hT41 2 25 rfl rfl) hx35 ?_
 have hst:=Star.addF (r:=RP.int) (cs:=[I (i64 (x35 + x_13.coef))]) (x:=(i64 (x35 + x_13.coef))) hst rfl
 have hst:=hst.gets [2,1] rfl
 refine L_stE1 (u:=I (i64 (x35 + x_13.coef))) rfl Tryz.sizeOf3 rfl rfl (hT41 10 33 rfl rfl) hv43 hst hx35 (fun w48 hst=>nn ?_)
 obtain ⟨rfl,rfl⟩:=so2 hA33
 exact rj hR33 ⟨H41,hE41,((hS41 0 rfl).trans sf0),((hS41 1 rfl).trans sf1),((hS41 6 rfl).trans sf6),((hS41 7 rfl).trans sf7),(Star.keepN 1 hst)⟩
 have hA33:=(ite_f hc34).symm.trans hA33
 refine W_seq ?_
 obtain ⟨x49,hx49,hA33⟩:=bind_some hA33
 obtain ⟨g56,cap_g56,hv57,_,_⟩:=Star.row 1 hst rfl hx49
 refine W_drawS 13 [isV (v5),isV (Pq g26 1),isV (I x_13.lit),isV (I (i64 (-x_13.lit))),isV (v5),isV (Pq g26 1),isV (I x_13.lit),isV (I (i64 (-x_13.lit))),isV (.pointer (some ⟨g56,Int.toNat (i64 (-x_13.lit)) * 1,none⟩)),isV (I x49),isV (Pt g26),isV (I x_13.coef),isV (I (i64 (x49 - x_13.coef)))] [box g26 83 #[I x_13.coef,I x_13.lit],oF 3 RP.int v5 net_10] [] ([]) [([],[]),([],[]),([],[]),([],[]),([],[]),([],[]),([],[]),([],[]),([],[]),([],[]),([],[]),([],[]),([],[])] (S:=[]) Tryz_mix (by kernel_rfl) rfl (by kernel_rfl) (amF_cons (mono_V _) (amF_cons (mono_V _) (amF_cons (mono_V _) (amF_cons (mono_V _) (amF_cons (mono_V _) (amF_cons (mono_V _) (amF_cons (mono_V _) (amF_cons (mono_V _) (amF_cons (mono_V _) (amF_cons (mono_V _) (amF_cons (mono_V _) (amF_cons (mono_V _) (amF_cons (mono_V _) amF_nil))))))))))))) hst ?_ (fun f w_ H55 hS55 hE55 hT55 hst=>?_)
 refine opsS_cons (fun f w_ _ _ s _ _ hst=>mF ((s 6 rfl).trans sf6) rfl (nO rfl rfl hst)) (opsS_cons (fun f w_ _ _ s _ _ hst=>fA 1 fa_83_1 ((s 8 rfl).trans rfl) rfl (nO rfl rfl hst)) (opsS_cons (fun f w_ _ _ _ _ p hst=>ldB 0 hst Tryz.isAgg3 (p 1 36 rfl rfl) rfl rfl (nO rfl rfl hst)) (opsS_cons (fun f w_ _ _ _ _ p hst=>L_neg rfl (p 2 37 rfl rfl) (nO rfl rfl hst)) (opsS_cons (fun f w_ _ _ s _ _ hst=>mF ((s 6 rfl).trans sf6) rfl (nO rfl rfl hst)) (opsS_cons (fun f w_ _ _ s _ _ hst=>fA 1 fa_83_1 ((s 8 rfl).trans rfl) rfl (nO rfl rfl hst)) (opsS_cons (fun f w_ _ _ _ _ p hst=>ldB 0 hst Tryz.isAgg3 (p 5 40 rfl rfl) rfl rfl (nO rfl rfl hst)) (opsS_cons (fun f w_ _ _ _ _ p hst=>L_neg rfl (p 6 41 rfl rfl) (nO rfl rfl hst)) (opsS_cons (fun f w_ _ _ _ _ p hst=>L_ixO (R:=(OR.frz RP.int)) (tb:=0) 0 rfl Tryz.underlying51 Tryz.sizeOf3 (p 4 39 rfl rfl) hv57 (by first | rfl | simp) (p 7 42 rfl rfl) hx49 (nO rfl rfl hst)) (opsS_cons ?_ ?_)))))))))
 intro f w_ H55 X55 hS55 hE55 hP55 hst
 obtain ⟨cs60,hr60,hat60⟩:=Star.eltF 1 hst rfl hv57 hx49
 obtain rfl : _ = [_]:=hr60
 refine L_ld rfl Tryz.isAgg3 (hP55 8 43 rfl rfl) (At.cell hat60 (j:=0) rfl) (L_nil ⟨rfl,_,_,rfl,Le.refl _,fun _ _=>rfl,hst⟩)
 refine opsS_cons (fun f w_ _ _ s _ _ hst=>fA 0 fa_83_0 ((s 8 rfl).trans rfl) rfl (nO rfl rfl hst)) (opsS_cons (fun f w_ _ _ _ _ p hst=>ldB 0 hst Tryz.isAgg3 (p 10 45 rfl rfl) rfl rfl (nO rfl rfl hst)) (opsS_cons (fun f w_ _ _ _ _ p hst=>L_sub rfl (p 9 44 rfl rfl) (p 11 46 rfl rfl) (nO rfl rfl hst)) (opsS_nil)))
 refine L_ixO (R:=(OR.frz RP.int)) (tb:=0) 0 rfl Tryz.underlying51 Tryz.sizeOf3 (hT55 0 35 rfl rfl) hv57 (by first | rfl | simp) (hT55 3 38 rfl rfl) hx49 ?_
 have hst:=Star.addF (r:=RP.int) (cs:=[I (i64 (x49 - x_13.coef))]) (x:=(i64 (x49 - x_13.coef))) hst rfl
 have hst:=hst.gets [2,1] rfl
 refine L_stE1 (u:=I (i64 (x49 - x_13.coef))) rfl Tryz.sizeOf3 rfl rfl (hT55 12 47 rfl rfl) hv57 hst hx49 (fun w62 hst=>nn (W_region (mF ((hS55 1 rfl).trans sf1) rfl (fA 0 fa_83_0 ((hS55 8 rfl).trans rfl) rfl (ldB 1 hst Tryz.isAgg3 rfl rfl rfl (L_sub rfl rfl rfl (aI rfl (nn ?_))))))))
 obtain ⟨rfl,rfl⟩:=so2 hA33
 exact rj hR33 ⟨H55,hE55,((hS55 0 rfl).trans sf0),rfl,((hS55 6 rfl).trans sf6),((hS55 7 rfl).trans sf7),(Star.keepN 1 hst)⟩
 intro f w_ hR
 obtain ⟨H31,l32,sf0,sf1,sf6,sf7,hst⟩:=rk hR33 hR
 refine W_region (mF sf7 rfl (L_add rfl rfl rfl (aI rfl (nn ?_))))
 obtain rfl:=so hB13
 show ∃ m,m < _∧I13 m _ _
 refine ⟨rest13.length,by simp,?_⟩
 exact ij hI13 ⟨i_8 + 1,rest13,bound_29,net_30,H31,rfl,drop_next hd13,by simp at hl13; omega,hL13,(Le.trans l12 l32),sf0,sf1,sf6,(Eq.trans rfl (congrArg (Value.int .i64) (i64_succ (n:=terms.length) (by simp at hl13; omega) hlen13))),hst⟩
 rcases suf13 with _ | ⟨_,_⟩
 obtain rfl:=range_nil hL13
 refine W_exit (rj hR13 ⟨bound_9,net_10,H11,rfl,l12,sf1,sf6,hst⟩)
 exact absurd (of_decide_eq_false hc14) (by simp at hl13; omega)
 intro f w_ hR
 obtain ⟨bound_9,net_10,H11,rfl,l12,sf1,sf6,hst⟩:=rk hR13 hR
 refine sq (mF sf6 rfl (mF sf1 rfl (aV v5 rfl (aI rfl (nn (W_ret (retG2 (v1:=v5) (v2:=I bound_9) Tryz.results60 rfl rfl ?_)))))))
 obtain rfl:=so hF
 exact ⟨v5,rfl,(Star.down hst l12 (co closed_int c0))⟩
theorem s_l1Normal_c {net : List Int} {bound : Int} {v0 : Value} {H : FH} {w : World} (hst : Star H w []) (h0 : (rS 3 RP.int).rel H [v0] net) {r : Con × Bool} (hF : s_l1Normal net bound = some r) :
 C Tryz.prog 61 #[v0,I bound] w fun v w'=>∃ (u1 : Value),v = .tuple #[.agg #[u1,I r.1.bound],Bo r.2]∧Star H w' [oF 83 rTerm u1 r.1.terms]:=by
 unfold s_l1Normal at hF
 refine C_enter Tryz.func61 rfl Tryz.ntmps61 rfl (sq (L_al (cs:=#[S0,I 0]) rfl Tryz.zeroValue54 rfl hst (fun g3 w4 hst=>aB rfl (ns (L_bld rfl (parts0 ) (bld_54_  ) (L_al (cs:=#[S0,I 0]) rfl Tryz.zeroValue54 rfl hst (fun g8 w9 hst=>L_staB (vs:=#[S0,I 0]) (cs2:=#[S0,I 0]) 0 rfl Tryz.sizeOf54 rfl rfl rfl (ones_cons rfl (ones_cons rfl ones_nil)) hst rfl (by show 0 + 2≤2; decide) rfl (fun w10 hst=>nq (sq (aI rfl (nn ?_)))))))))))
 obtain ⟨k18,hk18,hF⟩:=bind_some hF
 obtain ⟨j17,hL17,hF⟩:=bind_some hF
 obtain ⟨R17,hR17⟩:=exR fun f w_=>∃ bound_12 : Int,∃ g8_0_13 : List Term,∃ H15 : FH,∃ v13_g8_0 : Value,j17 = .nx (bound_12,g8_0_13)∧Le H H15∧f 1 = I bound_12∧f 4 = Pt g3∧f 6 = Pt g8∧Star H15 w_ ([oF 83 rTerm v13_g8_0 g8_0_13,box g8 54 #[v13_g8_0,I 0],box g3 54 #[S0,I 0]])
 refine W_join R17 ?_ ?_
 refine W_block ?_
 obtain ⟨I17,hI17⟩:=exI fun n f w_=>∃ i_11 : Nat,∃ suf17 : Nat,∃ bound_12 : Int,∃ g8_0_13 : List Term,∃ H15 : FH,∃ v13_g8_0 : Value,suf17 = n∧1≤i_11∧i_11 + suf17 = 1 + k18∧countL (s_l1Normal_b1 net) suf17 i_11 (bound_12,g8_0_13) = some j17∧Le H H15∧f 0 = v0∧f 1 = I bound_12∧f 4 = Pt g3∧f 6 = Pt g8∧f 7 = I i_11∧Star H15 w_ ([oF 83 rTerm v13_g8_0 g8_0_13,box g8 54 #[v13_g8_0,I 0],box g3 54 #[S0,I 0]])
 have hst:=Star.addNil (R:=(OR.frz rTerm)) (e:=83) hst
 refine W_loop I17 (n:=k18) ?_ ?_
 exact ij hI17 ⟨1,k18,bound,[],H,S0,rfl,Nat.le_refl _,rfl,hL17,(Le.refl _),rfl,rfl,rfl,rfl,rfl,hst⟩
 intro n17 f w_ hI
 obtain ⟨i_11,suf17,bound_12,g8_0_13,H15,v13_g8_0,rfl,hs17,hl17,hL17,l16,sf0,sf1,sf4,sf6,sf7,hst⟩:=ik hI17 hI
 refine W_seq (sq (mF sf7 rfl (L_leq rfl rfl rfl (nn (W_cond (b:=decide ((i_11 : Int)≤12)) rfl (fun hc20=>?_) (fun hc20=>?_))))))
 have hlt17:=of_decide_eq_true hc20
 rcases suf17 with _ | rest17
 exact absurd hlt17 (cntF_noL hl17 hk18)
 obtain ⟨o17,hB17,hL17⟩:=count_succ hL17
 rw [s_l1Normal_b1] at hB17
 refine W_skip (W_seq (W_block (W_seq (W_seq ?_))))
 obtain ⟨x21,hx21,hB17⟩:=bind_some hB17
 refine W_region (mF sf0 rfl (mF sf7 rfl (L_ix (r:=RP.int) rfl Tryz.underlying51 Tryz.sizeOf3 rfl (RP.mono _ h0 l16) rfl hx21 (fun g26 o27 cs_g26 hrk_hat28 hat28=>?_))))
 obtain rfl : _ = [_]:=hrk_hat28
 refine L_ld rfl Tryz.isAgg3 rfl (At.cell (AtH.at hat28 hst.sub) (j:=0) rfl) (L_gtr rfl rfl rfl (nn ?_))
 obtain ⟨g8_0_30,hA34,hB17⟩:=bind_some hB17
 obtain ⟨R34,hR34⟩:=exR fun f w_=>∃ H32 : FH,∃ v30_g8_0 : Value,Le H15 H32∧f 0 = v0∧f 1 = I bound_12∧f 4 = Pt g3∧f 6 = Pt g8∧f 7 = I i_11∧Star H32 w_ ([oF 83 rTerm v30_g8_0 g8_0_30,box g8 54 #[v30_g8_0,I 0],box g3 54 #[S0,I 0]])
 refine W_join R34 ?_ ?_
 refine W_cond (b:=decide (x21 > 0)) rfl (fun hc35=>?_) (fun hc35=>?_)
 have hA34:=(ite_t hc35).symm.trans hA34
 obtain ⟨x43,hx43,hA34⟩:=bind_some hA34
 refine W_drawS 9 [isV (Pt g8),isV (v13_g8_0),isV (v0),isV (I i_11),isEl RP.int x21 0,isV (I x21),isV (I i_11),isV (.agg #[I x21,I i_11]),anyF] [oF 83 rTerm v13_g8_0 g8_0_13,box g8 54 #[v13_g8_0,I 0],box g3 54 #[S0,I 0]] [.made 8 26 (fun v_=>oF 83 rTerm v_ ([({ coef:=x21,lit:=(i_11 : Int) } : Term)])) none] ([]) [([],[]),([],[]),([],[]),([],[]),([],[]),([],[]),([],[]),([],[]),([],[0])] (S:=[(some 8,[26],none)]) Tryz_mix (by kernel_rfl) rfl (by kernel_rfl) (amF_cons (mono_V _) (amF_cons (mono_V _) (amF_cons (mono_V _) (amF_cons (mono_V _) (amF_cons (mono_el _ _ _) (amF_cons (mono_V _) (amF_cons (mono_V _) (amF_cons (mono_V _) (amF_cons (mono_any) amF_nil))))))))) hst ?_ (fun f w_ H48 hS48 hE48 hT48 hst=>?_)
 refine opsS_cons (fun f w_ _ _ s _ _ hst=>fA 0 fa_54_0 ((s 6 rfl).trans sf6) rfl (nO rfl rfl hst)) (opsS_cons (fun f w_ _ _ _ _ p hst=>ldB 1 hst Tryz.isAgg52 (p 0 18 rfl rfl) rfl rfl (nO rfl rfl hst)) (opsS_cons (fun f w_ _ _ s _ _ hst=>mF ((s 0 rfl).trans sf0) rfl (nO rfl rfl hst)) (opsS_cons (fun f w_ _ _ s _ _ hst=>mF ((s 7 rfl).trans sf7) rfl (nO rfl rfl hst)) (opsS_cons ?_ ?_))))
 intro f w_ H48 X48 hS48 hE48 hP48 hst
 refine L_ix (r:=RP.int) rfl Tryz.underlying51 Tryz.sizeOf3 (hP48 2 20 rfl rfl) (RP.mono _ h0 (Le.trans l16 hE48)) (hP48 3 21 rfl rfl) hx21 (fun g56 o57 cs_g56 hrk_hat58 hat58=>?_)
 obtain rfl : _ = [_]:=hrk_hat58
 exact L_nil ⟨rfl,_,_,rfl,Le.refl _,fun _ _=>⟨_,_,_,rfl,rfl,hat58⟩,hst⟩
 refine opsS_cons ?_ ?_
 intro f w_ H48 X48 hS48 hE48 hP48 hst
 obtain ⟨g60,o60,cs60,hv60,hrk_hat60,hat60⟩:=(hP48 4 22 rfl rfl)
 obtain rfl : _ = [_]:=hrk_hat60
 refine L_ld rfl Tryz.isAgg3 hv60 (At.cell (AtH.at hat60 hst.sub) (j:=0) rfl) (L_nil ⟨rfl,_,_,rfl,Le.refl _,fun _ _=>rfl,hst⟩)
 refine opsS_cons (fun f w_ _ _ s _ _ hst=>mF ((s 7 rfl).trans sf7) rfl (nO rfl rfl hst)) (opsS_cons (fun f w_ _ _ _ _ p hst=>L_bld rfl (parts2 (p 5 23 rfl rfl) (p 6 24 rfl rfl)) (bld_83_0_1 (I x21) (I i_11) rfl rfl) (nO rfl rfl hst)) (opsS_cons ?_ ?_))
 intro f w_ H48 X48 hS48 hE48 hP48 hst
 refine L_bs rfl (parts1 (hP48 7 25 rfl rfl)) (bs_52_1_2 (I x21) (I i_11) ) hst (fun g62 w63 hst=>?_)
 have hst:=Star.addF (r:=rTerm) (cs:=[I x21,I i_11]) (x:=({ coef:=x21,lit:=(i_11 : Int) } : Term)) hst (rTerm_iff.2 rfl)
 have hst:=Star.mkRow (R:=(OR.frz rTerm)) [([I x21,I i_11],({ coef:=x21,lit:=(i_11 : Int) } : Term))] [({ coef:=x21,lit:=(i_11 : Int) } : Term)] 1 hst rfl rfl rfl (by decide)
 have hst:=hst.gets [3,3,3] rfl
 exact L_nil ⟨rfl,_,_,rfl,Le.refl _,fun _ _=>trivial,hst⟩
 exact opsS_nil
 have hst : Star H48 w_ ([oF 83 rTerm v13_g8_0 g8_0_13,box g8 54 #[v13_g8_0,I 0],box g3 54 #[S0,I 0],oF 83 rTerm (f 26) ([({ coef:=x21,lit:=(i_11 : Int) } : Term)])]):=hst
 have hst:=hst.gets [3,1] rfl
 refine L_appM (v:=v13_g8_0) (u:=(f 26)) rfl et_52 (hT48 1 19 rfl rfl) rfl hst hx43 (fun v66 w67 hst=>fA 0 fa_54_0 ((hS48 6 rfl).trans sf6) rfl (L_stB (v:=v66) (cs2:=#[v66,I 0]) 1 rfl Tryz.sizeOf52 rfl rfl (one_len (Star.len 0 hst rfl)) hst rfl rfl rfl (fun w69 hst=>nn ?_)))
 obtain rfl:=so hA34
 have hst:=hst.gets [2,1,2] rfl
 exact rj hR34 ⟨H48,v66,hE48,((hS48 0 rfl).trans sf0),((hS48 1 rfl).trans sf1),((hS48 4 rfl).trans sf4),((hS48 6 rfl).trans sf6),((hS48 7 rfl).trans sf7),hst⟩
 have hA34:=(ite_f hc35).symm.trans hA34
 refine W_skip ?_
 obtain rfl:=so hA34
 exact rj hR34 ⟨H15,v13_g8_0,(Le.refl _),sf0,sf1,sf4,sf6,sf7,hst⟩
 intro f w_ hR
 obtain ⟨H32,v30_g8_0,l33,sf0,sf1,sf4,sf6,sf7,hst⟩:=rk hR34 hR
 refine sq (mF sf0 rfl (mF sf7 rfl (L_ix (r:=RP.int) rfl Tryz.underlying51 Tryz.sizeOf3 rfl (RP.mono _ h0 (Le.trans l16 l33)) rfl hx21 (fun g74 o75 cs_g74 hrk_hat76 hat76=>?_))))
 obtain rfl : _ = [_]:=hrk_hat76
 refine L_ld rfl Tryz.isAgg3 rfl (At.cell (AtH.at hat76 hst.sub) (j:=0) rfl) (L_lss rfl rfl rfl (nn ?_))
 obtain ⟨⟨bound_78,g8_0_79⟩,hA83,hB17⟩:=bind_some hB17
 obtain ⟨R83,hR83⟩:=exR fun f w_=>∃ H81 : FH,∃ v79_g8_0 : Value,Le H32 H81∧f 0 = v0∧f 1 = I bound_78∧f 4 = Pt g3∧f 6 = Pt g8∧f 7 = I i_11∧Star H81 w_ ([oF 83 rTerm v79_g8_0 g8_0_79,box g8 54 #[v79_g8_0,I 0],box g3 54 #[S0,I 0]])
 refine W_join R83 ?_ ?_
 refine W_cond (b:=decide (x21 < 0)) rfl (fun hc84=>?_) (fun hc84=>?_)
 have hA83:=(ite_t hc84).symm.trans hA83
 refine W_seq ?_
 obtain ⟨x92,hx92,hA83⟩:=bind_some hA83
 refine W_drawS 11 [isV (Pt g8),isV (v30_g8_0),isV (v0),isV (I i_11),isEl RP.int x21 0,isV (I x21),isV (I (i64 (-x21))),isV (I i_11),isV (I (i64 (-(i_11 : Int)))),isV (.agg #[I (i64 (-x21)),I (i64 (-(i_11 : Int)))]),anyF] [oF 83 rTerm v30_g8_0 g8_0_30,box g8 54 #[v30_g8_0,I 0],box g3 54 #[S0,I 0]] [.made 10 44 (fun v_=>oF 83 rTerm v_ ([({ coef:=i64 (-x21),lit:=i64 (-(i_11 : Int)) } : Term)])) none] ([]) [([],[]),([],[]),([],[]),([],[]),([],[]),([],[]),([],[]),([],[]),([],[]),([],[]),([],[0])] (S:=[(some 10,[44],none)]) Tryz_mix (by kernel_rfl) rfl (by kernel_rfl) (amF_cons (mono_V _) (amF_cons (mono_V _) (amF_cons (mono_V _) (amF_cons (mono_V _) (amF_cons (mono_el _ _ _) (amF_cons (mono_V _) (amF_cons (mono_V _) (amF_cons (mono_V _) (amF_cons (mono_V _) (amF_cons (mono_V _) (amF_cons (mono_any) amF_nil))))))))))) hst ?_ (fun f w_ H97 hS97 hE97 hT97 hst=>?_)
 refine opsS_cons (fun f w_ _ _ s _ _ hst=>fA 0 fa_54_0 ((s 6 rfl).trans sf6) rfl (nO rfl rfl hst)) (opsS_cons (fun f w_ _ _ _ _ p hst=>ldB 1 hst Tryz.isAgg52 (p 0 34 rfl rfl) rfl rfl (nO rfl rfl hst)) (opsS_cons (fun f w_ _ _ s _ _ hst=>mF ((s 0 rfl).trans sf0) rfl (nO rfl rfl hst)) (opsS_cons (fun f w_ _ _ s _ _ hst=>mF ((s 7 rfl).trans sf7) rfl (nO rfl rfl hst)) (opsS_cons ?_ ?_))))
 intro f w_ H97 X97 hS97 hE97 hP97 hst
 refine L_ix (r:=RP.int) rfl Tryz.underlying51 Tryz.sizeOf3 (hP97 2 36 rfl rfl) (RP.mono _ h0 (Le.trans (Le.trans l16 l33) hE97)) (hP97 3 37 rfl rfl) hx21 (fun g105 o106 cs_g105 hrk_hat107 hat107=>?_)
 obtain rfl : _ = [_]:=hrk_hat107
 exact L_nil ⟨rfl,_,_,rfl,Le.refl _,fun _ _=>⟨_,_,_,rfl,rfl,hat107⟩,hst⟩
 refine opsS_cons ?_ ?_
 intro f w_ H97 X97 hS97 hE97 hP97 hst
 obtain ⟨g109,o109,cs109,hv109,hrk_hat109,hat109⟩:=(hP97 4 38 rfl rfl)
 obtain rfl : _ = [_]:=hrk_hat109
 refine L_ld rfl Tryz.isAgg3 hv109 (At.cell (AtH.at hat109 hst.sub) (j:=0) rfl) (L_nil ⟨rfl,_,_,rfl,Le.refl _,fun _ _=>rfl,hst⟩)
 refine opsS_cons (fun f w_ _ _ _ _ p hst=>L_neg rfl (p 5 39 rfl rfl) (nO rfl rfl hst)) (opsS_cons (fun f w_ _ _ s _ _ hst=>mF ((s 7 rfl).trans sf7) rfl (nO rfl rfl hst)) (opsS_cons (fun f w_ _ _ _ _ p hst=>L_neg rfl (p 7 41 rfl rfl) (nO rfl rfl hst)) (opsS_cons (fun f w_ _ _ _ _ p hst=>L_bld rfl (parts2 (p 6 40 rfl rfl) (p 8 42 rfl rfl)) (bld_83_0_1 (I (i64 (-x21))) (I (i64 (-(i_11 : Int)))) rfl rfl) (nO rfl rfl hst)) (opsS_cons ?_ ?_))))
 intro f w_ H97 X97 hS97 hE97 hP97 hst
 refine L_bs rfl (parts1 (hP97 9 43 rfl rfl)) (bs_52_1_2 (I (i64 (-x21))) (I (i64 (-(i_11 : Int)))) ) hst (fun g111 w112 hst=>?_)
 have hst:=Star.addF (r:=rTerm) (cs:=[I (i64 (-x21)),I (i64 (-(i_11 : Int)))]) (x:=({ coef:=i64 (-x21),lit:=i64 (-(i_11 : Int)) } : Term)) hst (rTerm_iff.2 rfl)
 have hst:=Star.mkRow (R:=(OR.frz rTerm)) [([I (i64 (-x21)),I (i64 (-(i_11 : Int)))],({ coef:=i64 (-x21),lit:=i64 (-(i_11 : Int)) } : Term))] [({ coef:=i64 (-x21),lit:=i64 (-(i_11 : Int)) } : Term)] 1 hst rfl rfl rfl (by decide)
 have hst:=hst.gets [3,3,3] rfl
 exact L_nil ⟨rfl,_,_,rfl,Le.refl _,fun _ _=>trivial,hst⟩
 exact opsS_nil
 have hst : Star H97 w_ ([oF 83 rTerm v30_g8_0 g8_0_30,box g8 54 #[v30_g8_0,I 0],box g3 54 #[S0,I 0],oF 83 rTerm (f 44) ([({ coef:=i64 (-x21),lit:=i64 (-(i_11 : Int)) } : Term)])]):=hst
 have hst:=hst.gets [3,1] rfl
 refine L_appM (v:=v30_g8_0) (u:=(f 44)) rfl et_52 (hT97 1 35 rfl rfl) rfl hst hx92 (fun v115 w116 hst=>fA 0 fa_54_0 ((hS97 6 rfl).trans sf6) rfl (L_stB (v:=v115) (cs2:=#[v115,I 0]) 1 rfl Tryz.sizeOf52 rfl rfl (one_len (Star.len 0 hst rfl)) hst rfl rfl rfl (fun w118 hst=>nn (W_region (mF ((hS97 1 rfl).trans sf1) rfl (mF ((hS97 0 rfl).trans sf0) rfl (mF ((hS97 7 rfl).trans sf7) rfl (L_ix (r:=RP.int) rfl Tryz.underlying51 Tryz.sizeOf3 rfl (RP.mono _ h0 (Le.trans (Le.trans l16 l33) hE97)) rfl hx21 (fun g123 o124 cs_g123 hrk_hat125 hat125=>?_)))))))))
 obtain rfl : _ = [_]:=hrk_hat125
 refine L_ld rfl Tryz.isAgg3 rfl (At.cell (AtH.at hat125 hst.sub) (j:=0) rfl) (L_sub rfl rfl rfl (aI rfl (nn ?_)))
 obtain ⟨rfl,rfl⟩:=so2 hA83
 have hst:=hst.gets [2,1,2] rfl
 exact rj hR83 ⟨H97,v115,hE97,((hS97 0 rfl).trans sf0),rfl,((hS97 4 rfl).trans sf4),((hS97 6 rfl).trans sf6),((hS97 7 rfl).trans sf7),hst⟩
 have hA83:=(ite_f hc84).symm.trans hA83
 refine W_skip ?_
 obtain ⟨rfl,rfl⟩:=so2 hA83
 exact rj hR83 ⟨H32,v30_g8_0,(Le.refl _),sf0,sf1,sf4,sf6,sf7,hst⟩
 intro f w_ hR
 obtain ⟨H81,v79_g8_0,l82,sf0,sf1,sf4,sf6,sf7,hst⟩:=rk hR83 hR
 refine W_region (mF sf7 rfl (L_add rfl rfl rfl (aI rfl (nn ?_))))
 obtain rfl:=so hB17
 show ∃ m,m < _∧I17 m _ _
 refine ⟨rest17,Nat.lt_succ_self _,?_⟩
 exact ij hI17 ⟨i_11 + 1,rest17,bound_78,g8_0_79,H81,v79_g8_0,rfl,by omega,by omega,hL17,(Le.trans (Le.trans l16 l33) l82),sf0,sf1,sf4,sf6,(Eq.trans rfl (congrArg (Value.int .i64) (i64_succ (n:=1 + k18) (by omega) (cntF_le hk18)))),hst⟩
 rcases suf17 with _ | _
 obtain rfl:=count_zero hL17
 refine W_exit (rj hR17 ⟨bound_12,g8_0_13,H15,v13_g8_0,rfl,l16,sf1,sf4,sf6,hst⟩)
 exact absurd (cntF_yesL hs17 hl17 hk18) (of_decide_eq_false hc20)
 intro f w_ hR
 obtain ⟨bound_12,g8_0_13,H15,v13_g8_0,rfl,l16,sf1,sf4,sf6,hst⟩:=rk hR17 hR
 refine W_seq (sq (mF sf1 rfl (L_lss rfl rfl rfl (nn ?_))))
 obtain ⟨bound_127,hA128,hF⟩:=bind_some hF
 obtain ⟨R128,hR128⟩:=exR fun f w_=>f 1 = I bound_127∧f 4 = Pt g3∧f 6 = Pt g8∧Star H15 w_ ([oF 83 rTerm v13_g8_0 g8_0_13,box g8 54 #[v13_g8_0,I 0],box g3 54 #[S0,I 0]])
 refine W_join R128 ?_ ?_
 refine W_cond (b:=decide (bound_12 < 0)) rfl (fun hc129=>?_) (fun hc129=>?_)
 have hA128:=(ite_t hc129).symm.trans hA128
 refine W_region (aI rfl (nn ?_))
 obtain rfl:=so hA128
 exact rj hR128 ⟨rfl,sf4,sf6,hst⟩
 have hA128:=(ite_f hc129).symm.trans hA128
 refine W_skip ?_
 obtain rfl:=so hA128
 exact rj hR128 ⟨sf1,sf4,sf6,hst⟩
 intro f w_ hR
 obtain ⟨sf1,sf4,sf6,hst⟩:=rk hR128 hR
 refine sq (mF sf1 rfl (fA 1 fa_54_1 sf6 rfl (L_stB (v:=I bound_127) (cs2:=#[v13_g8_0,I bound_127]) 1 rfl Tryz.sizeOf3 rfl rfl rfl hst rfl rfl rfl (fun w131 hst=>nq (W_seq ?_)))))
 obtain ⟨x138,hx138,hF⟩:=bind_some hF
 refine W_region (L_lda (cs:=[v13_g8_0,I bound_127]) rfl Tryz.isAgg54 Tryz.sizeOf54 sf6 (At.sub0 (Blk.at (Star.blkAt 0 hst rfl)) 0 2) rfl ?_)
 obtain ⟨H140b,l141,s142,z143,k144⟩:=hst.borrow
 have hb145 : (rS 83 rTerm).rel H140b [v13_g8_0] g8_0_13:=fz_own 1 z143 rfl
 refine L_call rfl Tryz.call43 (ops1 rfl) (s_ConstraintValid_c (c:=({ terms:=g8_0_13,bound:=bound_127 } : Con)) s142 hb145 hx138) ?_
 rintro _ w146 ⟨rfl,hst⟩
 have hst:=k144 hst c0
 refine L_not_ rfl rfl (nn (W_cond (b:=(!x138)) rfl (fun hc147=>?_) (fun hc147=>?_)))
 have hF:=(ite_t hc147).symm.trans hF
 refine sq (L_bld rfl (parts0 ) (bld_54_  ) (L_staB (vs:=#[S0,I 0]) (cs2:=#[S0,I 0]) 2 rfl Tryz.sizeOf54 sf4 rfl rfl (ones_cons rfl (ones_cons rfl ones_nil)) hst rfl (by show 0 + 2≤2; decide) rfl (fun w149 hst=>aB rfl (nn (W_ret (retG2 (v1:=.agg #[S0,I 0]) (v2:=Bo false) Tryz.results61 (resV_agg Tryz.isAgg54 Tryz.sizeOf54 sf4 (Star.blkAt 0 hst rfl) rfl) rfl ?_))))))
 obtain rfl:=so hF
 have hst:=Star.addNil (R:=(OR.frz rTerm)) (e:=83) hst
 exact ⟨S0,rfl,(Star.down (Star.keepN 1 hst) l16 (co closed_term c0))⟩
 have hF:=(ite_f hc147).symm.trans hF
 refine W_skip (sq (L_lda (cs:=[v13_g8_0,I bound_127]) rfl Tryz.isAgg54 Tryz.sizeOf54 sf6 (At.sub0 (Blk.at (Star.blkAt 0 hst rfl)) 0 2) rfl (L_staB (vs:=#[v13_g8_0,I bound_127]) (cs2:=#[v13_g8_0,I bound_127]) 2 rfl Tryz.sizeOf54 sf4 rfl rfl (ones_cons (one_len (Star.len 1 hst rfl)) (ones_cons rfl ones_nil)) hst rfl (by show 0 + 2≤2; decide) rfl (fun w152 hst=>aB rfl (nn (W_ret (retG2 (v1:=.agg #[v13_g8_0,I bound_127]) (v2:=Bo true) Tryz.results61 (resV_agg Tryz.isAgg54 Tryz.sizeOf54 sf4 (Star.blkAt 0 hst rfl) rfl) rfl ?_)))))))
 obtain rfl:=so hF
 have hst:=hst.get 2 rfl
 exact ⟨v13_g8_0,rfl,(Star.down (Star.keepN 1 hst) l16 (co closed_term c0))⟩
theorem s_AddConstraints_c {a : Con} {b : Con} {v0_0 : Value} {v1_0 : Value} {H : FH} {w : World} (hst : Star H w []) (h0_0 : (rS 83 rTerm).rel H [v0_0] a.terms) (h1_0 : (rS 83 rTerm).rel H [v1_0] b.terms) {r : Con × Bool} (hF : s_AddConstraints a b = some r) :
 C Tryz.prog 46 #[.agg #[v0_0,I a.bound],.agg #[v1_0,I b.bound]] w fun v w'=>∃ (u1 : Value),v = .tuple #[.agg #[u1,I r.1.bound],Bo r.2]∧Star H w' [oF 83 rTerm u1 r.1.terms]:=by
 unfold s_AddConstraints at hF
 refine C_enter Tryz.func46 rfl Tryz.ntmps46 rfl (sq (L_box (v:=.agg #[v0_0,I a.bound]) (cs:=#[v0_0,I a.bound]) rfl rfl rfl hst (fun g7 w8 hst=>L_box (v:=.agg #[v1_0,I b.bound]) (cs:=#[v1_0,I b.bound]) rfl rfl rfl hst (fun g9 w10 hst=>L_al (cs:=#[S0,I 0]) rfl Tryz.zeroValue54 rfl hst (fun g11 w12 hst=>aB rfl (nq (W_seq ?_)))))))
 obtain ⟨x18,hx18,hF⟩:=bind_some hF
 obtain ⟨b27,hb27,hF⟩:=bind_some hF
 obtain ⟨R28,hR28⟩:=exR fun f w_=>f 2 = Pt g7∧f 3 = Pt g9∧f 4 = Pt g11∧f 15 = Bo b27∧Star H w_ ([box g11 54 #[S0,I 0],box g9 54 #[v1_0,I b.bound],box g7 54 #[v0_0,I a.bound]])
 refine W_join R28 ?_ ?_
 refine W_region (L_lda (cs:=[v0_0,I a.bound]) rfl Tryz.isAgg54 Tryz.sizeOf54 rfl (At.sub0 (Blk.at (Star.blkAt 2 hst rfl)) 0 2) rfl ?_)
 obtain ⟨H29b,l30,s31,z32,k33⟩:=hst.borrow
 refine L_call rfl Tryz.call43 (ops1 rfl) (s_ConstraintValid_c (c:=a) s31 (RP.mono _ h0_0 l30) hx18) ?_
 rintro _ w34 ⟨rfl,hst⟩
 have hst:=k33 hst c0
 refine L_not_ rfl rfl (mB rfl (L_split (d:=11) (b:=(!x18)) rfl (fun hc35=>?_) (fun hc35=>?_)))
 rw [ite_t hc35] at hb27
 refine ps rfl (ps rfl (ps rfl (L_pick (v:=Bo b27) rfl rfl (congrArg Value.bool (so hb27)) (nn (rj hR28 ⟨rfl,rfl,rfl,rfl,hst⟩)))))
 rw [ite_f hc35] at hb27
 obtain ⟨x25,hx25,hb27⟩:=bind_some hb27
 refine L_lda (cs:=[v1_0,I b.bound]) rfl Tryz.isAgg54 Tryz.sizeOf54 rfl (At.sub0 (Blk.at (Star.blkAt 1 hst rfl)) 0 2) rfl ?_
 obtain ⟨H36b,l37,s38,z39,k40⟩:=hst.borrow
 refine L_call rfl Tryz.call43 (ops1 rfl) (s_ConstraintValid_c (c:=b) s38 (RP.mono _ h1_0 l37) hx25) ?_
 rintro _ w41 ⟨rfl,hst⟩
 have hst:=k40 hst c0
 refine L_not_ rfl rfl (L_pick (v:=Bo b27) rfl rfl (congrArg Value.bool (so hb27)) (nn (rj hR28 ⟨rfl,rfl,rfl,rfl,hst⟩)))
 intro f w_ hR
 obtain ⟨sf2,sf3,sf4,sf15,hst⟩:=rk hR28 hR
 refine W_cond (b:=b27) sf15 (fun hc42=>?_) (fun hc42=>?_)
 have hF:=(ite_t hc42).symm.trans hF
 refine sq (L_bld rfl (parts0 ) (bld_54_  ) (L_staB (vs:=#[S0,I 0]) (cs2:=#[S0,I 0]) 0 rfl Tryz.sizeOf54 sf4 rfl rfl (ones_cons rfl (ones_cons rfl ones_nil)) hst rfl (by show 0 + 2≤2; decide) rfl (fun w44 hst=>aB rfl (nn (W_ret (retG2 (v1:=.agg #[S0,I 0]) (v2:=Bo false) Tryz.results46 (resV_agg Tryz.isAgg54 Tryz.sizeOf54 sf4 (Star.blkAt 0 hst rfl) rfl) rfl ?_))))))
 obtain rfl:=so hF
 have hst:=Star.addNil (R:=(OR.frz rTerm)) (e:=83) hst
 exact ⟨S0,rfl,(Star.keepN 1 hst)⟩
 have hF:=(ite_f hc42).symm.trans hF
 refine W_skip (W_seq ?_)
 obtain ⟨x49,hx49,hF⟩:=bind_some hF
 obtain ⟨x53,hx53,hF⟩:=bind_some hF
 obtain ⟨x63,hx63,hF⟩:=bind_some hF
 refine W_drawS 17 [anyF,isV (Pt g7),isV (v0_0),anyF,isV (Pt g9),isV (v1_0),anyF,isV (Pq g7 1),isV (I a.bound),isV (Pq g9 1),isV (I b.bound),isV (I (i64 (a.bound + b.bound))),tup2 (anyF) (isV (I x63.2)),tup2 (anyF) (isV (I x63.2)),anyF,isV (I x63.2),anyF] [box g11 54 #[S0,I 0],box g9 54 #[v1_0,I b.bound],box g7 54 #[v0_0,I a.bound]] [.made 0 18 (fun v_=>oF 83 rTerm v_ ([])) (some 3),.made 3 21 (fun v_=>oF 83 rTerm v_ x49) (some 6),.made 6 24 (fun v_=>oF 83 rTerm v_ x53) none,.made 12 30 (fun v_=>oF 3 RP.int (tupC v_ 0) x63.1) (some 13),.made 13 17 (fun v_=>oF 3 RP.int (tupC v_ 0) x63.1) (some 14),.made 14 31 (fun v_=>oF 3 RP.int v_ x63.1) (some 16),.made 16 6 (fun v_=>oF 3 RP.int v_ x63.1) none] ([]) [([],[0]),([],[]),([],[]),([0],[1]),([],[]),([],[]),([1],[2]),([],[]),([],[]),([],[]),([],[]),([],[]),([2],[2,3]),([3],[4]),([4],[5]),([],[]),([5],[6])] (S:=[(some 0,[18],some 3),(some 3,[21],some 6),(some 6,[24],none),(some 12,[30],some 13),(some 13,[17],some 14),(some 14,[31],some 16),(some 16,[6],none)]) Tryz_mix (by kernel_rfl) rfl (by kernel_rfl) (amF_cons (mono_any) (amF_cons (mono_V _) (amF_cons (mono_V _) (amF_cons (mono_any) (amF_cons (mono_V _) (amF_cons (mono_V _) (amF_cons (mono_any) (amF_cons (mono_V _) (amF_cons (mono_V _) (amF_cons (mono_V _) (amF_cons (mono_V _) (amF_cons (mono_V _) (amF_cons (mono_tup2 (mono_any) (mono_V _)) (amF_cons (mono_tup2 (mono_any) (mono_V _)) (amF_cons (mono_any) (amF_cons (mono_V _) (amF_cons (mono_any) amF_nil))))))))))))))))) hst ?_ (fun f w_ H66 hS66 hE66 hT66 hst=>?_)
 refine opsS_cons ?_ ?_
 intro f w_ H66 X66 hS66 hE66 hP66 hst
 refine L_bs rfl parts0 (bs_52_0  ) hst (fun g84 w85 hst=>?_)
 have hst:=Star.mkRow (R:=(OR.frz rTerm)) [] [] 0 hst rfl rfl rfl (by decide)
 have hst:=hst.gets [3,3,3] rfl
 exact L_nil ⟨rfl,_,_,rfl,Le.refl _,fun _ _=>trivial,hst⟩
 refine opsS_cons (fun f w_ _ _ s _ _ hst=>fA 0 fa_54_0 ((s 2 rfl).trans sf2) rfl (nO rfl rfl hst)) (opsS_cons (fun f w_ _ _ _ _ p hst=>ldB 2 hst Tryz.isAgg52 (p 1 19 rfl rfl) rfl rfl (nO rfl rfl hst)) (opsS_cons ?_ ?_))
 intro f w_ H66 X66 hS66 hE66 hP66 hst
 have hst : Star H66 w_ (box g11 54 #[S0,I 0] :: box g9 54 #[v1_0,I b.bound] :: box g7 54 #[v0_0,I a.bound] :: oF 83 rTerm (f 18) ([]) :: X66):=hst
 have hst:=hst.get 3 rfl
 refine L_app (v:=(f 18)) (u:=v0_0) rfl et_52 rfl (hP66 2 20 rfl rfl) hst (RP.mono _ h0_0 hE66) hx49 (fun v88 w89 hst=>?_)
 have hst:=hst.gets [3,3,3] rfl
 exact L_nil ⟨rfl,_,_,rfl,Le.refl _,fun _ _=>trivial,hst⟩
 refine opsS_cons (fun f w_ _ _ s _ _ hst=>fA 0 fa_54_0 ((s 3 rfl).trans sf3) rfl (nO rfl rfl hst)) (opsS_cons (fun f w_ _ _ _ _ p hst=>ldB 1 hst Tryz.isAgg52 (p 4 22 rfl rfl) rfl rfl (nO rfl rfl hst)) (opsS_cons ?_ ?_))
 intro f w_ H66 X66 hS66 hE66 hP66 hst
 have hst : Star H66 w_ (box g11 54 #[S0,I 0] :: box g9 54 #[v1_0,I b.bound] :: box g7 54 #[v0_0,I a.bound] :: oF 83 rTerm (f 21) x49 :: X66):=hst
 have hst:=hst.get 3 rfl
 refine L_app (v:=(f 21)) (u:=v1_0) rfl et_52 rfl (hP66 5 23 rfl rfl) hst (RP.mono _ h1_0 hE66) hx53 (fun v92 w93 hst=>?_)
 have hst:=hst.gets [3,3,3] rfl
 exact L_nil ⟨rfl,_,_,rfl,Le.refl _,fun _ _=>trivial,hst⟩
 refine opsS_cons (fun f w_ _ _ s _ _ hst=>fA 1 fa_54_1 ((s 2 rfl).trans sf2) rfl (nO rfl rfl hst)) (opsS_cons (fun f w_ _ _ _ _ p hst=>ldB 2 hst Tryz.isAgg3 (p 7 25 rfl rfl) rfl rfl (nO rfl rfl hst)) (opsS_cons (fun f w_ _ _ s _ _ hst=>fA 1 fa_54_1 ((s 3 rfl).trans sf3) rfl (nO rfl rfl hst)) (opsS_cons (fun f w_ _ _ _ _ p hst=>ldB 1 hst Tryz.isAgg3 (p 9 27 rfl rfl) rfl rfl (nO rfl rfl hst)) (opsS_cons (fun f w_ _ _ _ _ p hst=>L_add rfl (p 8 26 rfl rfl) (p 10 28 rfl rfl) (nO rfl rfl hst)) (opsS_cons ?_ ?_)))))
 intro f w_ H66 X66 hS66 hE66 hP66 hst
 have hst : Star H66 w_ (box g11 54 #[S0,I 0] :: box g9 54 #[v1_0,I b.bound] :: box g7 54 #[v0_0,I a.bound] :: oF 83 rTerm (f 24) x53 :: X66):=hst
 obtain ⟨H96b,l97,s98,z99,k100⟩:=hst.borrow
 have hb101 : (rS 83 rTerm).rel H96b [(f 24)] x53:=fz_own 3 z99 rfl
 refine L_call rfl Tryz.call60 (ops2 rfl (hP66 11 29 rfl rfl)) (s_l1Net_c (terms:=x53) (bound:=i64 (a.bound + b.bound)) s98 hb101 hx63) ?_
 rintro _ w102 ⟨r102_0,rfl,hst⟩
 have hst:=k100 hst (co closed_int c0)
 have hst:=hst.gets [4,4,4,4] rfl
 exact L_nil ⟨rfl,_,_,rfl,Le.refl _,fun _ _=>⟨_,_,rfl,trivial,rfl⟩,hst⟩
 refine opsS_cons ?_ ?_
 intro f w_ H66 X66 hS66 hE66 hP66 hst
 have hst : Star H66 w_ (box g11 54 #[S0,I 0] :: box g9 54 #[v1_0,I b.bound] :: box g7 54 #[v0_0,I a.bound] :: own (OR.ownS 3 (OR.frz RP.int)) [(tupC (f 30) 0)] x63.1 :: X66):=hst
 obtain ⟨a104_0,a104_1,hv104,ht104_0,ht104_1⟩:=(hP66 12 30 rfl rfl)
 obtain rfl:=ht104_1
 have hren : Star H66 w_ (box g11 54 #[S0,I 0] :: box g9 54 #[v1_0,I b.bound] :: box g7 54 #[v0_0,I a.bound] :: own (OR.ownS 3 (OR.frz RP.int)) [(tupC (f 30) 0)] x63.1 :: X66):=hst
 rw [hv104] at hren
 have hst : Star H66 w_ (box g11 54 #[S0,I 0] :: box g9 54 #[v1_0,I b.bound] :: box g7 54 #[v0_0,I a.bound] :: oF 3 RP.int a104_0 x63.1 :: X66):=hren
 refine mF hv104 rfl (L_nil ⟨rfl,_,_,rfl,Le.refl _,fun _ _=>⟨_,_,rfl,trivial,rfl⟩,hst⟩)
 refine opsS_cons ?_ ?_
 intro f w_ H66 X66 hS66 hE66 hP66 hst
 have hst : Star H66 w_ (box g11 54 #[S0,I 0] :: box g9 54 #[v1_0,I b.bound] :: box g7 54 #[v0_0,I a.bound] :: own (OR.ownS 3 (OR.frz RP.int)) [(tupC (f 17) 0)] x63.1 :: X66):=hst
 obtain ⟨a105_0,a105_1,hv105,ht105_0,ht105_1⟩:=(hP66 13 17 rfl rfl)
 obtain rfl:=ht105_1
 have hren : Star H66 w_ (box g11 54 #[S0,I 0] :: box g9 54 #[v1_0,I b.bound] :: box g7 54 #[v0_0,I a.bound] :: own (OR.ownS 3 (OR.frz RP.int)) [(tupC (f 17) 0)] x63.1 :: X66):=hst
 rw [hv105] at hren
 have hst : Star H66 w_ (box g11 54 #[S0,I 0] :: box g9 54 #[v1_0,I b.bound] :: box g7 54 #[v0_0,I a.bound] :: oF 3 RP.int a105_0 x63.1 :: X66):=hren
 refine L_ex (v:=a105_0) rfl hv105 rfl (L_nil ⟨rfl,_,_,rfl,Le.refl _,fun _ _=>trivial,hst⟩)
 refine opsS_cons ?_ ?_
 intro f w_ H66 X66 hS66 hE66 hP66 hst
 obtain ⟨a106_0,a106_1,hv106,ht106_0,ht106_1⟩:=(hP66 13 17 rfl rfl)
 obtain rfl:=ht106_1
 refine L_ex (v:=I x63.2) rfl hv106 rfl (L_nil ⟨rfl,_,_,rfl,Le.refl _,fun _ _=>rfl,hst⟩)
 refine opsS_cons ?_ ?_
 intro f w_ H66 X66 hS66 hE66 hP66 hst
 have hst : Star H66 w_ (box g11 54 #[S0,I 0] :: box g9 54 #[v1_0,I b.bound] :: box g7 54 #[v0_0,I a.bound] :: oF 3 RP.int (f 31) x63.1 :: X66):=hst
 refine aV (f 31) rfl (L_nil ⟨rfl,_,_,rfl,Le.refl _,fun _ _=>trivial,hst⟩)
 exact opsS_nil
 have hst : Star H66 w_ ([box g11 54 #[S0,I 0],box g9 54 #[v1_0,I b.bound],box g7 54 #[v0_0,I a.bound],oF 83 rTerm (f 24) x53,oF 3 RP.int (f 6) x63.1]):=hst
 refine aF (hT66 15 32 rfl rfl) rfl (nq ?_)
 obtain ⟨x115,hx115,hF⟩:=bind_some hF
 refine W_region (mV (f 6) rfl (mI rfl ?_))
 obtain ⟨H119b,l120,s121,z122,k123⟩:=hst.borrow
 have hb124 : (rS 3 RP.int).rel H119b [(f 6)] x63.1:=fz_own 4 z122 rfl
 refine L_call rfl Tryz.call61 (ops2 rfl rfl) (s_l1Normal_c (net:=x63.1) (bound:=x63.2) s121 hb124 hx115) ?_
 rintro _ w125 ⟨r125_0,rfl,hst⟩
 have hst:=k123 hst (co closed_term c0)
 refine L_ex (v:=.agg #[r125_0,I x115.1.bound]) rfl rfl rfl (L_ex (v:=Bo x115.2) rfl rfl rfl (L_staB (vs:=#[r125_0,I x115.1.bound]) (cs2:=#[r125_0,I x115.1.bound]) 1 rfl Tryz.sizeOf54 ((hS66 4 rfl).trans sf4) rfl rfl (ones_cons (one_len (Star.len 0 hst rfl)) (ones_cons rfl ones_nil)) hst rfl (by show 0 + 2≤2; decide) rfl (fun w127 hst=>aB rfl (nn (W_ret (retG2 (v1:=.agg #[r125_0,I x115.1.bound]) (v2:=Bo x115.2) Tryz.results46 (resV_agg Tryz.isAgg54 Tryz.sizeOf54 ((hS66 4 rfl).trans sf4) (Star.blkAt 0 hst rfl) rfl) rfl ?_))))))
 obtain rfl:=so hF
 have hst:=hst.get 1 rfl
 exact ⟨r125_0,rfl,(Star.down (Star.keepN 1 hst) hE66 (co closed_term c0))⟩
theorem s_MultiplyConstraint_c {c : Con} {k : Int} {v0_0 : Value} {H : FH} {w : World} (hst : Star H w []) (h0_0 : (rS 83 rTerm).rel H [v0_0] c.terms) {r : Con × Bool} (hF : s_MultiplyConstraint c k = some r) :
 C Tryz.prog 47 #[.agg #[v0_0,I c.bound],I k] w fun v w'=>∃ (u1 : Value),v = .tuple #[.agg #[u1,I r.1.bound],Bo r.2]∧Star H w' [oF 83 rTerm u1 r.1.terms]:=by
 unfold s_MultiplyConstraint at hF
 refine C_enter Tryz.func47 rfl Tryz.ntmps47 rfl (sq (L_box (v:=.agg #[v0_0,I c.bound]) (cs:=#[v0_0,I c.bound]) rfl rfl rfl hst (fun g5 w6 hst=>L_al (cs:=#[S0,I 0]) rfl Tryz.zeroValue54 rfl hst (fun g7 w8 hst=>aB rfl (nq (W_seq ?_))))))
 obtain ⟨x14,hx14,hF⟩:=bind_some hF
 obtain ⟨R16,hR16⟩:=exR fun f w_=>f 1 = I k∧f 2 = Pt g5∧f 4 = Pt g7∧f 18 = Bo (((!x14) || (decide (k < 1))) || (decide (k > 1000)))∧Star H w_ ([box g7 54 #[S0,I 0],box g5 54 #[v0_0,I c.bound]])
 refine W_join R16 ?_ ?_
 refine W_region (L_lda (cs:=[v0_0,I c.bound]) rfl Tryz.isAgg54 Tryz.sizeOf54 rfl (At.sub0 (Blk.at (Star.blkAt 1 hst rfl)) 0 2) rfl ?_)
 obtain ⟨H17b,l18,s19,z20,k21⟩:=hst.borrow
 refine L_call rfl Tryz.call43 (ops1 rfl) (s_ConstraintValid_c (c:=c) s19 (RP.mono _ h0_0 l18) hx14) ?_
 rintro _ w22 ⟨rfl,hst⟩
 have hst:=k21 hst c0
 refine L_not_ rfl rfl (mB rfl (L_split (d:=11) (b:=(!x14)) rfl (fun hc23=>?_) (fun hc23=>?_)))
 refine ps rfl (ps rfl (L_pick (v:=Bo ((!x14) || (decide (k < 1)))) rfl rfl (or_t hc23) (mB rfl (L_split (d:=15) (b:=((!x14) || (decide (k < 1)))) rfl (fun hc24=>?_) (fun hc24=>?_)))))
 refine ps rfl (ps rfl (L_pick (v:=Bo (((!x14) || (decide (k < 1))) || (decide (k > 1000)))) rfl rfl (or_t hc24) (nn (rj hR16 ⟨rfl,rfl,rfl,rfl,hst⟩))))
 refine mI rfl (L_gtr rfl rfl rfl (L_pick (v:=Bo (((!x14) || (decide (k < 1))) || (decide (k > 1000)))) rfl rfl (or_f hc24 rfl) (nn (rj hR16 ⟨rfl,rfl,rfl,rfl,hst⟩))))
 refine mI rfl (L_lss rfl rfl rfl (L_pick (v:=Bo ((!x14) || (decide (k < 1)))) rfl rfl (or_f hc23 rfl) (mB rfl (L_split (d:=15) (b:=((!x14) || (decide (k < 1)))) rfl (fun hc25=>?_) (fun hc25=>?_)))))
 refine ps rfl (ps rfl (L_pick (v:=Bo (((!x14) || (decide (k < 1))) || (decide (k > 1000)))) rfl rfl (or_t hc25) (nn (rj hR16 ⟨rfl,rfl,rfl,rfl,hst⟩))))
 refine mI rfl (L_gtr rfl rfl rfl (L_pick (v:=Bo (((!x14) || (decide (k < 1))) || (decide (k > 1000)))) rfl rfl (or_f hc25 rfl) (nn (rj hR16 ⟨rfl,rfl,rfl,rfl,hst⟩))))
 intro f w_ hR
 obtain ⟨sf1,sf2,sf4,sf18,hst⟩:=rk hR16 hR
 refine W_cond (b:=(((!x14) || (decide (k < 1))) || (decide (k > 1000)))) sf18 (fun hc26=>?_) (fun hc26=>?_)
 have hF:=(ite_t hc26).symm.trans hF
 refine sq (L_bld rfl (parts0 ) (bld_54_  ) (L_staB (vs:=#[S0,I 0]) (cs2:=#[S0,I 0]) 0 rfl Tryz.sizeOf54 sf4 rfl rfl (ones_cons rfl (ones_cons rfl ones_nil)) hst rfl (by show 0 + 2≤2; decide) rfl (fun w28 hst=>aB rfl (nn (W_ret (retG2 (v1:=.agg #[S0,I 0]) (v2:=Bo false) Tryz.results47 (resV_agg Tryz.isAgg54 Tryz.sizeOf54 sf4 (Star.blkAt 0 hst rfl) rfl) rfl ?_))))))
 obtain rfl:=so hF
 have hst:=Star.addNil (R:=(OR.frz rTerm)) (e:=83) hst
 exact ⟨S0,rfl,(Star.keepN 1 hst)⟩
 have hF:=(ite_f hc26).symm.trans hF
 refine W_skip (sq (fA 1 fa_54_1 sf2 rfl (ldB 1 hst Tryz.isAgg3 rfl rfl rfl (mF sf1 rfl (L_mul rfl rfl rfl (L_bld rfl (parts1 rfl) (bld_54_1 (I (i64 (c.bound * k))) rfl) (L_al (cs:=#[S0,I 0]) rfl Tryz.zeroValue54 rfl hst (fun g33 w34 hst=>L_staB (vs:=#[S0,I (i64 (c.bound * k))]) (cs2:=#[S0,I (i64 (c.bound * k))]) 0 rfl Tryz.sizeOf54 rfl rfl rfl (ones_cons rfl (ones_cons rfl ones_nil)) hst rfl (by show 0 + 2≤2; decide) rfl (fun w35 hst=>nq (sq (aI rfl (nn ?_))))))))))))
 have hlen41 : List.length c.terms≤9223372036854775807:=len_le (slice_len h0_0)
 obtain ⟨j41,hL41,hF⟩:=bind_some hF
 obtain ⟨R41,hR41⟩:=exR fun f w_=>∃ g33_0_37 : List Term,∃ H39 : FH,∃ v37_g33_0 : Value,j41 = .nx g33_0_37∧Le H H39∧f 4 = Pt g7∧f 6 = Pt g33∧Star H39 w_ ([oF 83 rTerm v37_g33_0 g33_0_37,box g33 54 #[v37_g33_0,I (i64 (c.bound * k))],box g7 54 #[S0,I 0]])
 refine W_join R41 ?_ ?_
 refine W_block ?_
 obtain ⟨I41,hI41⟩:=exI fun n f w_=>∃ i_36 : Nat,∃ suf41 : List Term,∃ g33_0_37 : List Term,∃ H39 : FH,∃ v37_g33_0 : Value,n = suf41.length∧List.drop i_36 c.terms = suf41∧i_36 + suf41.length = c.terms.length∧rangeL (s_MultiplyConstraint_b1 k) suf41 i_36 g33_0_37 = some j41∧Le H H39∧f 1 = I k∧f 2 = Pt g5∧f 4 = Pt g7∧f 6 = Pt g33∧f 7 = I i_36∧Star H39 w_ ([oF 83 rTerm v37_g33_0 g33_0_37,box g33 54 #[v37_g33_0,I (i64 (c.bound * k))],box g7 54 #[S0,I 0],box g5 54 #[v0_0,I c.bound]])
 have hst:=Star.addNil (R:=(OR.frz rTerm)) (e:=83) hst
 refine W_loop I41 (n:=c.terms.length) ?_ ?_
 exact ij hI41 ⟨0,c.terms,[],H,S0,rfl,rfl,Nat.zero_add _,hL41,(Le.refl _),sf1,sf2,sf4,rfl,rfl,hst⟩
 intro n41 f w_ hI
 obtain ⟨i_36,suf41,g33_0_37,H39,v37_g33_0,rfl,hd41,hl41,hL41,l40,sf1,sf2,sf4,sf6,sf7,hst⟩:=ik hI41 hI
 refine W_seq (sq (mF sf7 rfl (fA 0 fa_54_0 sf2 rfl (ldB 3 hst Tryz.isAgg52 rfl rfl rfl (L_len rfl Tryz.underlying52 rfl (slice_len (RP.mono _ h0_0 l40)) (L_lss rfl rfl rfl (nn (W_cond (b:=decide ((i_36 : Int) < (c.terms.length : Int))) rfl (fun hc43=>?_) (fun hc43=>?_)))))))))
 have hlt41:=of_decide_eq_true hc43
 rcases suf41 with _ | ⟨x_41,rest41⟩
 exact absurd hlt41 (by simp at hl41; omega)
 obtain ⟨o41,hB41,hL41⟩:=range_cons hL41
 rw [s_MultiplyConstraint_b1] at hB41
 have hix41:=drop_idx hd41
 refine W_skip (W_seq (W_block ?_))
 obtain ⟨x55,hx55,hB41⟩:=bind_some hB41
 refine W_drawS 18 [isV (Pt g33),isV (v37_g33_0),isV (Pt g5),isV (v0_0),isV (I i_36),isEl rTerm x_41 0,isEl rTerm x_41 0,isV (I x_41.coef),isV (I k),isV (I (i64 (x_41.coef * k))),isV (Pt g5),isV (v0_0),isV (I i_36),isEl rTerm x_41 0,isEl rTerm x_41 1,isV (I x_41.lit),isV (.agg #[I (i64 (x_41.coef * k)),I x_41.lit]),anyF] [oF 83 rTerm v37_g33_0 g33_0_37,box g33 54 #[v37_g33_0,I (i64 (c.bound * k))],box g7 54 #[S0,I 0],box g5 54 #[v0_0,I c.bound]] [.made 17 49 (fun v_=>oF 83 rTerm v_ ([({ coef:=i64 (x_41.coef * k),lit:=x_41.lit } : Term)])) none] ([]) [([],[]),([],[]),([],[]),([],[]),([],[]),([],[]),([],[]),([],[]),([],[]),([],[]),([],[]),([],[]),([],[]),([],[]),([],[]),([],[]),([],[]),([],[0])] (S:=[(some 17,[49],none)]) Tryz_mix (by kernel_rfl) rfl (by kernel_rfl) (amF_cons (mono_V _) (amF_cons (mono_V _) (amF_cons (mono_V _) (amF_cons (mono_V _) (amF_cons (mono_V _) (amF_cons (mono_el _ _ _) (amF_cons (mono_el _ _ _) (amF_cons (mono_V _) (amF_cons (mono_V _) (amF_cons (mono_V _) (amF_cons (mono_V _) (amF_cons (mono_V _) (amF_cons (mono_V _) (amF_cons (mono_el _ _ _) (amF_cons (mono_el _ _ _) (amF_cons (mono_V _) (amF_cons (mono_V _) (amF_cons (mono_any) amF_nil)))))))))))))))))) hst ?_ (fun f w_ H60 hS60 hE60 hT60 hst=>?_)
 refine opsS_cons (fun f w_ _ _ s _ _ hst=>fA 0 fa_54_0 ((s 6 rfl).trans sf6) rfl (nO rfl rfl hst)) (opsS_cons (fun f w_ _ _ _ _ p hst=>ldB 1 hst Tryz.isAgg52 (p 0 32 rfl rfl) rfl rfl (nO rfl rfl hst)) (opsS_cons (fun f w_ _ _ s _ _ hst=>fA 0 fa_54_0 ((s 2 rfl).trans sf2) rfl (nO rfl rfl hst)) (opsS_cons (fun f w_ _ _ _ _ p hst=>ldB 3 hst Tryz.isAgg52 (p 2 34 rfl rfl) rfl rfl (nO rfl rfl hst)) (opsS_cons (fun f w_ _ _ s _ _ hst=>mF ((s 7 rfl).trans sf7) rfl (nO rfl rfl hst)) (opsS_cons ?_ ?_)))))
 intro f w_ H60 X60 hS60 hE60 hP60 hst
 refine L_ix (r:=rTerm) rfl Tryz.underlying52 Tryz.sizeOf83 (hP60 3 35 rfl rfl) (RP.mono _ h0_0 (Le.trans l40 hE60)) (hP60 4 36 rfl rfl) hix41 (fun g72 o73 cs_g72 hrk_hat74 hat74=>?_)
 obtain rfl:=rTerm_iff.1 hrk_hat74
 exact L_nil ⟨rfl,_,_,rfl,Le.refl _,fun _ _=>⟨_,_,_,rfl,hrk_hat74,hat74⟩,hst⟩
 refine opsS_cons ?_ ?_
 intro f w_ H60 X60 hS60 hE60 hP60 hst
 obtain ⟨g76,o76,cs76,hv76,hrk_hat76,hat76⟩:=(hP60 5 37 rfl rfl)
 obtain rfl:=rTerm_iff.1 hrk_hat76
 refine fA o76 fa_83_0 hv76 rfl (L_nil ⟨rfl,_,_,rfl,Le.refl _,fun _ _=>⟨_,_,_,rfl,hrk_hat76,hat76⟩,hst⟩)
 refine opsS_cons ?_ ?_
 intro f w_ H60 X60 hS60 hE60 hP60 hst
 obtain ⟨g78,o78,cs78,hv78,hrk_hat78,hat78⟩:=(hP60 6 38 rfl rfl)
 obtain rfl:=rTerm_iff.1 hrk_hat78
 refine L_ld rfl Tryz.isAgg3 hv78 (At.cell (AtH.at hat78 hst.sub) (j:=0) rfl) (L_nil ⟨rfl,_,_,rfl,Le.refl _,fun _ _=>rfl,hst⟩)
 refine opsS_cons (fun f w_ _ _ s _ _ hst=>mF ((s 1 rfl).trans sf1) rfl (nO rfl rfl hst)) (opsS_cons (fun f w_ _ _ _ _ p hst=>L_mul rfl (p 7 39 rfl rfl) (p 8 40 rfl rfl) (nO rfl rfl hst)) (opsS_cons (fun f w_ _ _ s _ _ hst=>fA 0 fa_54_0 ((s 2 rfl).trans sf2) rfl (nO rfl rfl hst)) (opsS_cons (fun f w_ _ _ _ _ p hst=>ldB 3 hst Tryz.isAgg52 (p 10 42 rfl rfl) rfl rfl (nO rfl rfl hst)) (opsS_cons (fun f w_ _ _ s _ _ hst=>mF ((s 7 rfl).trans sf7) rfl (nO rfl rfl hst)) (opsS_cons ?_ ?_)))))
 intro f w_ H60 X60 hS60 hE60 hP60 hst
 refine L_ix (r:=rTerm) rfl Tryz.underlying52 Tryz.sizeOf83 (hP60 11 43 rfl rfl) (RP.mono _ h0_0 (Le.trans l40 hE60)) (hP60 12 44 rfl rfl) hix41 (fun g80 o81 cs_g80 hrk_hat82 hat82=>?_)
 obtain rfl:=rTerm_iff.1 hrk_hat82
 exact L_nil ⟨rfl,_,_,rfl,Le.refl _,fun _ _=>⟨_,_,_,rfl,hrk_hat82,hat82⟩,hst⟩
 refine opsS_cons ?_ ?_
 intro f w_ H60 X60 hS60 hE60 hP60 hst
 obtain ⟨g84,o84,cs84,hv84,hrk_hat84,hat84⟩:=(hP60 13 45 rfl rfl)
 obtain rfl:=rTerm_iff.1 hrk_hat84
 refine fA (o84 + 1) fa_83_1 hv84 rfl (L_nil ⟨rfl,_,_,rfl,Le.refl _,fun _ _=>⟨_,_,_,rfl,hrk_hat84,hat84⟩,hst⟩)
 refine opsS_cons ?_ ?_
 intro f w_ H60 X60 hS60 hE60 hP60 hst
 obtain ⟨g86,o86,cs86,hv86,hrk_hat86,hat86⟩:=(hP60 14 46 rfl rfl)
 obtain rfl:=rTerm_iff.1 hrk_hat86
 refine L_ld rfl Tryz.isAgg3 hv86 (At.cell (AtH.at hat86 hst.sub) (j:=1) rfl) (L_nil ⟨rfl,_,_,rfl,Le.refl _,fun _ _=>rfl,hst⟩)
 refine opsS_cons (fun f w_ _ _ _ _ p hst=>L_bld rfl (parts2 (p 9 41 rfl rfl) (p 15 47 rfl rfl)) (bld_83_0_1 (I (i64 (x_41.coef * k))) (I x_41.lit) rfl rfl) (nO rfl rfl hst)) (opsS_cons ?_ ?_)
 intro f w_ H60 X60 hS60 hE60 hP60 hst
 refine L_bs rfl (parts1 (hP60 16 48 rfl rfl)) (bs_52_1_2 (I (i64 (x_41.coef * k))) (I x_41.lit) ) hst (fun g88 w89 hst=>?_)
 have hst:=Star.addF (r:=rTerm) (cs:=[I (i64 (x_41.coef * k)),I x_41.lit]) (x:=({ coef:=i64 (x_41.coef * k),lit:=x_41.lit } : Term)) hst (rTerm_iff.2 rfl)
 have hst:=Star.mkRow (R:=(OR.frz rTerm)) [([I (i64 (x_41.coef * k)),I x_41.lit],({ coef:=i64 (x_41.coef * k),lit:=x_41.lit } : Term))] [({ coef:=i64 (x_41.coef * k),lit:=x_41.lit } : Term)] 1 hst rfl rfl rfl (by decide)
 have hst:=hst.gets [4,4,4,4] rfl
 exact L_nil ⟨rfl,_,_,rfl,Le.refl _,fun _ _=>trivial,hst⟩
 exact opsS_nil
 have hst : Star H60 w_ ([oF 83 rTerm v37_g33_0 g33_0_37,box g33 54 #[v37_g33_0,I (i64 (c.bound * k))],box g7 54 #[S0,I 0],box g5 54 #[v0_0,I c.bound],oF 83 rTerm (f 49) ([({ coef:=i64 (x_41.coef * k),lit:=x_41.lit } : Term)])]):=hst
 have hst:=hst.gets [4,1] rfl
 refine L_appM (v:=v37_g33_0) (u:=(f 49)) rfl et_52 (hT60 1 33 rfl rfl) rfl hst hx55 (fun v92 w93 hst=>fA 0 fa_54_0 ((hS60 6 rfl).trans sf6) rfl (L_stB (v:=v92) (cs2:=#[v92,I (i64 (c.bound * k))]) 1 rfl Tryz.sizeOf52 rfl rfl (one_len (Star.len 0 hst rfl)) hst rfl rfl rfl (fun w95 hst=>nn (W_region (mF ((hS60 7 rfl).trans sf7) rfl (L_add rfl rfl rfl (aI rfl (nn ?_))))))))
 obtain rfl:=so hB41
 have hst:=hst.gets [3,3,2,3] rfl
 show ∃ m,m < _∧I41 m _ _
 refine ⟨rest41.length,by simp,?_⟩
 exact ij hI41 ⟨i_36 + 1,rest41,x55,H60,v92,rfl,drop_next hd41,by simp at hl41; omega,hL41,(Le.trans l40 hE60),((hS60 1 rfl).trans sf1),((hS60 2 rfl).trans sf2),((hS60 4 rfl).trans sf4),((hS60 6 rfl).trans sf6),(Eq.trans rfl (congrArg (Value.int .i64) (i64_succ (n:=c.terms.length) (by simp at hl41; omega) hlen41))),hst⟩
 rcases suf41 with _ | ⟨_,_⟩
 obtain rfl:=range_nil hL41
 refine W_exit (rj hR41 ⟨g33_0_37,H39,v37_g33_0,rfl,l40,sf4,sf6,(Star.keepN 3 hst)⟩)
 exact absurd (of_decide_eq_false hc43) (by simp at hl41; omega)
 intro f w_ hR
 obtain ⟨g33_0_37,H39,v37_g33_0,rfl,l40,sf4,sf6,hst⟩:=rk hR41 hR
 refine W_seq (W_seq ?_)
 obtain ⟨x102,hx102,hF⟩:=bind_some hF
 refine W_region (L_lda (cs:=[v37_g33_0,I (i64 (c.bound * k))]) rfl Tryz.isAgg54 Tryz.sizeOf54 sf6 (At.sub0 (Blk.at (Star.blkAt 1 hst rfl)) 0 2) rfl ?_)
 obtain ⟨H104b,l105,s106,z107,k108⟩:=hst.borrow
 have hb109 : (rS 83 rTerm).rel H104b [v37_g33_0] g33_0_37:=fz_own 0 z107 rfl
 refine L_call rfl Tryz.call43 (ops1 rfl) (s_ConstraintValid_c (c:=({ terms:=g33_0_37,bound:=i64 (c.bound * k) } : Con)) s106 hb109 hx102) ?_
 rintro _ w110 ⟨rfl,hst⟩
 have hst:=k108 hst c0
 refine L_not_ rfl rfl (nn (W_cond (b:=(!x102)) rfl (fun hc111=>?_) (fun hc111=>?_)))
 have hF:=(ite_t hc111).symm.trans hF
 refine sq (L_bld rfl (parts0 ) (bld_54_  ) (L_staB (vs:=#[S0,I 0]) (cs2:=#[S0,I 0]) 2 rfl Tryz.sizeOf54 sf4 rfl rfl (ones_cons rfl (ones_cons rfl ones_nil)) hst rfl (by show 0 + 2≤2; decide) rfl (fun w113 hst=>aB rfl (nn (W_ret (retG2 (v1:=.agg #[S0,I 0]) (v2:=Bo false) Tryz.results47 (resV_agg Tryz.isAgg54 Tryz.sizeOf54 sf4 (Star.blkAt 0 hst rfl) rfl) rfl ?_))))))
 obtain rfl:=so hF
 have hst:=Star.addNil (R:=(OR.frz rTerm)) (e:=83) hst
 exact ⟨S0,rfl,(Star.down (Star.keepN 1 hst) l40 (co closed_term c0))⟩
 have hF:=(ite_f hc111).symm.trans hF
 refine W_skip (sq (L_lda (cs:=[v37_g33_0,I (i64 (c.bound * k))]) rfl Tryz.isAgg54 Tryz.sizeOf54 sf6 (At.sub0 (Blk.at (Star.blkAt 1 hst rfl)) 0 2) rfl (L_staB (vs:=#[v37_g33_0,I (i64 (c.bound * k))]) (cs2:=#[v37_g33_0,I (i64 (c.bound * k))]) 2 rfl Tryz.sizeOf54 sf4 rfl rfl (ones_cons (one_len (Star.len 0 hst rfl)) (ones_cons rfl ones_nil)) hst rfl (by show 0 + 2≤2; decide) rfl (fun w116 hst=>aB rfl (nn (W_ret (retG2 (v1:=.agg #[v37_g33_0,I (i64 (c.bound * k))]) (v2:=Bo true) Tryz.results47 (resV_agg Tryz.isAgg54 Tryz.sizeOf54 sf4 (Star.blkAt 0 hst rfl) rfl) rfl ?_)))))))
 obtain rfl:=so hF
 have hst:=hst.get 1 rfl
 exact ⟨v37_g33_0,rfl,(Star.down (Star.keepN 1 hst) l40 (co closed_term c0))⟩
theorem s_l2Up_c {n_ : Int} {k : Int} {H : FH} {w : World} (hst : Star H w []) {r : Int} (hF : s_l2Up n_ k = some r) :
 C Tryz.prog 62 #[I n_,I k] w fun v w'=>v = I r∧Star H w' []:=by
 unfold s_l2Up at hF
 refine C_enter Tryz.func62 rfl Tryz.ntmps62 rfl (sq (aI rfl (nq ?_)))
 obtain ⟨q1,hq1,hF⟩:=bind_some hF
 refine W_region (mI rfl (mI rfl (L_add rfl rfl rfl (L_sub rfl rfl rfl (mI rfl (L_quo (m:=i64 ((i64 (n_ + k)) - 1)) (n:=k) rfl rfl rfl (fun he=>by rw [if_pos he] at hq1; cases hq1) (aI rfl (nn (W_ret (retG1 (v1:=I (i64 (Int.tdiv (i64 ((i64 (n_ + k)) - 1)) k))) Tryz.results62 rfl ?_))))))))))
 obtain rfl:=so hF
 exact ⟨rfl,hst⟩
theorem s_DivideConstraint_c {c : Con} {k : Int} {v0_0 : Value} {H : FH} {w : World} (hst : Star H w []) (h0_0 : (rS 83 rTerm).rel H [v0_0] c.terms) {r : Con × Bool} (hF : s_DivideConstraint c k = some r) :
 C Tryz.prog 48 #[.agg #[v0_0,I c.bound],I k] w fun v w'=>∃ (u1 : Value),v = .tuple #[.agg #[u1,I r.1.bound],Bo r.2]∧Star H w' [oF 83 rTerm u1 r.1.terms]:=by
 unfold s_DivideConstraint at hF
 refine C_enter Tryz.func48 rfl Tryz.ntmps48 rfl (sq (L_box (v:=.agg #[v0_0,I c.bound]) (cs:=#[v0_0,I c.bound]) rfl rfl rfl hst (fun g5 w6 hst=>L_al (cs:=#[S0,I 0]) rfl Tryz.zeroValue54 rfl hst (fun g7 w8 hst=>aB rfl (nq (W_seq ?_))))))
 obtain ⟨x14,hx14,hF⟩:=bind_some hF
 obtain ⟨R16,hR16⟩:=exR fun f w_=>f 1 = I k∧f 2 = Pt g5∧f 4 = Pt g7∧f 18 = Bo (((!x14) || (decide (k < 1))) || (decide (k > 1000)))∧Star H w_ ([box g7 54 #[S0,I 0],box g5 54 #[v0_0,I c.bound]])
 refine W_join R16 ?_ ?_
 refine W_region (L_lda (cs:=[v0_0,I c.bound]) rfl Tryz.isAgg54 Tryz.sizeOf54 rfl (At.sub0 (Blk.at (Star.blkAt 1 hst rfl)) 0 2) rfl ?_)
 obtain ⟨H17b,l18,s19,z20,k21⟩:=hst.borrow
 refine L_call rfl Tryz.call43 (ops1 rfl) (s_ConstraintValid_c (c:=c) s19 (RP.mono _ h0_0 l18) hx14) ?_
 rintro _ w22 ⟨rfl,hst⟩
 have hst:=k21 hst c0
 refine L_not_ rfl rfl (mB rfl (L_split (d:=11) (b:=(!x14)) rfl (fun hc23=>?_) (fun hc23=>?_)))
 refine ps rfl (ps rfl (L_pick (v:=Bo ((!x14) || (decide (k < 1)))) rfl rfl (or_t hc23) (mB rfl (L_split (d:=15) (b:=((!x14) || (decide (k < 1)))) rfl (fun hc24=>?_) (fun hc24=>?_)))))
 refine ps rfl (ps rfl (L_pick (v:=Bo (((!x14) || (decide (k < 1))) || (decide (k > 1000)))) rfl rfl (or_t hc24) (nn (rj hR16 ⟨rfl,rfl,rfl,rfl,hst⟩))))
 refine mI rfl (L_gtr rfl rfl rfl (L_pick (v:=Bo (((!x14) || (decide (k < 1))) || (decide (k > 1000)))) rfl rfl (or_f hc24 rfl) (nn (rj hR16 ⟨rfl,rfl,rfl,rfl,hst⟩))))
 refine mI rfl (L_lss rfl rfl rfl (L_pick (v:=Bo ((!x14) || (decide (k < 1)))) rfl rfl (or_f hc23 rfl) (mB rfl (L_split (d:=15) (b:=((!x14) || (decide (k < 1)))) rfl (fun hc25=>?_) (fun hc25=>?_)))))
 refine ps rfl (ps rfl (L_pick (v:=Bo (((!x14) || (decide (k < 1))) || (decide (k > 1000)))) rfl rfl (or_t hc25) (nn (rj hR16 ⟨rfl,rfl,rfl,rfl,hst⟩))))
 refine mI rfl (L_gtr rfl rfl rfl (L_pick (v:=Bo (((!x14) || (decide (k < 1))) || (decide (k > 1000)))) rfl rfl (or_f hc25 rfl) (nn (rj hR16 ⟨rfl,rfl,rfl,rfl,hst⟩))))
 intro f w_ hR
 obtain ⟨sf1,sf2,sf4,sf18,hst⟩:=rk hR16 hR
 refine W_cond (b:=(((!x14) || (decide (k < 1))) || (decide (k > 1000)))) sf18 (fun hc26=>?_) (fun hc26=>?_)
 have hF:=(ite_t hc26).symm.trans hF
 refine sq (L_bld rfl (parts0 ) (bld_54_  ) (L_staB (vs:=#[S0,I 0]) (cs2:=#[S0,I 0]) 0 rfl Tryz.sizeOf54 sf4 rfl rfl (ones_cons rfl (ones_cons rfl ones_nil)) hst rfl (by show 0 + 2≤2; decide) rfl (fun w28 hst=>aB rfl (nn (W_ret (retG2 (v1:=.agg #[S0,I 0]) (v2:=Bo false) Tryz.results48 (resV_agg Tryz.isAgg54 Tryz.sizeOf54 sf4 (Star.blkAt 0 hst rfl) rfl) rfl ?_))))))
 obtain rfl:=so hF
 have hst:=Star.addNil (R:=(OR.frz rTerm)) (e:=83) hst
 exact ⟨S0,rfl,(Star.keepN 1 hst)⟩
 have hF:=(ite_f hc26).symm.trans hF
 refine W_skip (W_seq ?_)
 obtain ⟨x35,hx35,hF⟩:=bind_some hF
 refine W_region (fA 1 fa_54_1 sf2 rfl (ldB 1 hst Tryz.isAgg3 rfl rfl rfl (mF sf1 rfl ?_)))
 obtain ⟨H40b,l41,s42,z43,k44⟩:=hst.borrow
 refine L_call rfl Tryz.call62 (ops2 rfl rfl) (s_l2Up_c (n_:=c.bound) (k:=k) s42 hx35) ?_
 rintro _ w45 ⟨rfl,hst⟩
 have hst:=k44 hst c0
 refine L_bld rfl (parts1 rfl) (bld_54_1 (I x35) rfl) (L_al (cs:=#[S0,I 0]) rfl Tryz.zeroValue54 rfl hst (fun g46 w47 hst=>L_staB (vs:=#[S0,I x35]) (cs2:=#[S0,I x35]) 0 rfl Tryz.sizeOf54 rfl rfl rfl (ones_cons rfl (ones_cons rfl ones_nil)) hst rfl (by show 0 + 2≤2; decide) rfl (fun w48 hst=>nq (sq (aI rfl (nn ?_))))))
 have hlen54 : List.length c.terms≤9223372036854775807:=len_le (slice_len h0_0)
 obtain ⟨j54,hL54,hF⟩:=bind_some hF
 obtain ⟨R54,hR54⟩:=exR fun f w_=>∃ g46_0_50 : List Term,∃ H52 : FH,∃ v50_g46_0 : Value,j54 = .nx g46_0_50∧Le H H52∧f 4 = Pt g7∧f 6 = Pt g46∧Star H52 w_ ([oF 83 rTerm v50_g46_0 g46_0_50,box g46 54 #[v50_g46_0,I x35],box g7 54 #[S0,I 0]])
 refine W_join R54 ?_ ?_
 refine W_block ?_
 obtain ⟨I54,hI54⟩:=exI fun n f w_=>∃ i_49 : Nat,∃ suf54 : List Term,∃ g46_0_50 : List Term,∃ H52 : FH,∃ v50_g46_0 : Value,n = suf54.length∧List.drop i_49 c.terms = suf54∧i_49 + suf54.length = c.terms.length∧rangeL (s_DivideConstraint_b1 k) suf54 i_49 g46_0_50 = some j54∧Le H H52∧f 1 = I k∧f 2 = Pt g5∧f 4 = Pt g7∧f 6 = Pt g46∧f 7 = I i_49∧Star H52 w_ ([oF 83 rTerm v50_g46_0 g46_0_50,box g46 54 #[v50_g46_0,I x35],box g7 54 #[S0,I 0],box g5 54 #[v0_0,I c.bound]])
 have hst:=Star.addNil (R:=(OR.frz rTerm)) (e:=83) hst
 refine W_loop I54 (n:=c.terms.length) ?_ ?_
 exact ij hI54 ⟨0,c.terms,[],H,S0,rfl,rfl,Nat.zero_add _,hL54,(Le.refl _),sf1,sf2,sf4,rfl,rfl,hst⟩
 intro n54 f w_ hI
 obtain ⟨i_49,suf54,g46_0_50,H52,v50_g46_0,rfl,hd54,hl54,hL54,l53,sf1,sf2,sf4,sf6,sf7,hst⟩:=ik hI54 hI
 refine W_seq (sq (mF sf7 rfl (fA 0 fa_54_0 sf2 rfl (ldB 3 hst Tryz.isAgg52 rfl rfl rfl (L_len rfl Tryz.underlying52 rfl (slice_len (RP.mono _ h0_0 l53)) (L_lss rfl rfl rfl (nn (W_cond (b:=decide ((i_49 : Int) < (c.terms.length : Int))) rfl (fun hc56=>?_) (fun hc56=>?_)))))))))
 have hlt54:=of_decide_eq_true hc56
 rcases suf54 with _ | ⟨x_54,rest54⟩
 exact absurd hlt54 (by simp at hl54; omega)
 obtain ⟨o54,hB54,hL54⟩:=range_cons hL54
 rw [s_DivideConstraint_b1] at hB54
 have hix54:=drop_idx hd54
 refine W_skip (W_seq (W_block ?_))
 obtain ⟨x66,hx66,hB54⟩:=bind_some hB54
 obtain ⟨x75,hx75,hB54⟩:=bind_some hB54
 refine W_drawS 18 [isV (Pt g46),isV (v50_g46_0),isV (Pt g5),isV (v0_0),isV (I i_49),isEl rTerm x_54 0,isEl rTerm x_54 0,isV (I x_54.coef),isV (I k),isV (I x66),isV (Pt g5),isV (v0_0),isV (I i_49),isEl rTerm x_54 0,isEl rTerm x_54 1,isV (I x_54.lit),isV (.agg #[I x66,I x_54.lit]),anyF] [oF 83 rTerm v50_g46_0 g46_0_50,box g46 54 #[v50_g46_0,I x35],box g7 54 #[S0,I 0],box g5 54 #[v0_0,I c.bound]] [.made 17 49 (fun v_=>oF 83 rTerm v_ ([({ coef:=x66,lit:=x_54.lit } : Term)])) none] ([]) [([],[]),([],[]),([],[]),([],[]),([],[]),([],[]),([],[]),([],[]),([],[]),([],[]),([],[]),([],[]),([],[]),([],[]),([],[]),([],[]),([],[]),([],[0])] (S:=[(some 17,[49],none)]) Tryz_mix (by kernel_rfl) rfl (by kernel_rfl) (amF_cons (mono_V _) (amF_cons (mono_V _) (amF_cons (mono_V _) (amF_cons (mono_V _) (amF_cons (mono_V _) (amF_cons (mono_el _ _ _) (amF_cons (mono_el _ _ _) (amF_cons (mono_V _) (amF_cons (mono_V _) (amF_cons (mono_V _) (amF_cons (mono_V _) (amF_cons (mono_V _) (amF_cons (mono_V _) (amF_cons (mono_el _ _ _) (amF_cons (mono_el _ _ _) (amF_cons (mono_V _) (amF_cons (mono_V _) (amF_cons (mono_any) amF_nil)))))))))))))))))) hst ?_ (fun f w_ H80 hS80 hE80 hT80 hst=>?_)
 refine opsS_cons (fun f w_ _ _ s _ _ hst=>fA 0 fa_54_0 ((s 6 rfl).trans sf6) rfl (nO rfl rfl hst)) (opsS_cons (fun f w_ _ _ _ _ p hst=>ldB 1 hst Tryz.isAgg52 (p 0 32 rfl rfl) rfl rfl (nO rfl rfl hst)) (opsS_cons (fun f w_ _ _ s _ _ hst=>fA 0 fa_54_0 ((s 2 rfl).trans sf2) rfl (nO rfl rfl hst)) (opsS_cons (fun f w_ _ _ _ _ p hst=>ldB 3 hst Tryz.isAgg52 (p 2 34 rfl rfl) rfl rfl (nO rfl rfl hst)) (opsS_cons (fun f w_ _ _ s _ _ hst=>mF ((s 7 rfl).trans sf7) rfl (nO rfl rfl hst)) (opsS_cons ?_ ?_)))))
 intro f w_ H80 X80 hS80 hE80 hP80 hst
 refine L_ix (r:=rTerm) rfl Tryz.underlying52 Tryz.sizeOf83 (hP80 3 35 rfl rfl) (RP.mono _ h0_0 (Le.trans l53 hE80)) (hP80 4 36 rfl rfl) hix54 (fun g98 o99 cs_g98 hrk_hat100 hat100=>?_)
 obtain rfl:=rTerm_iff.1 hrk_hat100
 exact L_nil ⟨rfl,_,_,rfl,Le.refl _,fun _ _=>⟨_,_,_,rfl,hrk_hat100,hat100⟩,hst⟩
 refine opsS_cons ?_ ?_
 intro f w_ H80 X80 hS80 hE80 hP80 hst
 obtain ⟨g102,o102,cs102,hv102,hrk_hat102,hat102⟩:=(hP80 5 37 rfl rfl)
 obtain rfl:=rTerm_iff.1 hrk_hat102
 refine fA o102 fa_83_0 hv102 rfl (L_nil ⟨rfl,_,_,rfl,Le.refl _,fun _ _=>⟨_,_,_,rfl,hrk_hat102,hat102⟩,hst⟩)
 refine opsS_cons ?_ ?_
 intro f w_ H80 X80 hS80 hE80 hP80 hst
 obtain ⟨g104,o104,cs104,hv104,hrk_hat104,hat104⟩:=(hP80 6 38 rfl rfl)
 obtain rfl:=rTerm_iff.1 hrk_hat104
 refine L_ld rfl Tryz.isAgg3 hv104 (At.cell (AtH.at hat104 hst.sub) (j:=0) rfl) (L_nil ⟨rfl,_,_,rfl,Le.refl _,fun _ _=>rfl,hst⟩)
 refine opsS_cons (fun f w_ _ _ s _ _ hst=>mF ((s 1 rfl).trans sf1) rfl (nO rfl rfl hst)) (opsS_cons ?_ ?_)
 intro f w_ H80 X80 hS80 hE80 hP80 hst
 obtain ⟨H106b,l107,s108,z109,k110⟩:=hst.borrow
 refine L_call rfl Tryz.call62 (ops2 (hP80 7 39 rfl rfl) (hP80 8 40 rfl rfl)) (s_l2Up_c (n_:=x_54.coef) (k:=k) s108 hx66) ?_
 rintro _ w111 ⟨rfl,hst⟩
 have hst:=k110 hst c0
 exact L_nil ⟨rfl,_,_,rfl,Le.refl _,fun _ _=>rfl,hst⟩
 refine opsS_cons (fun f w_ _ _ s _ _ hst=>fA 0 fa_54_0 ((s 2 rfl).trans sf2) rfl (nO rfl rfl hst)) (opsS_cons (fun f w_ _ _ _ _ p hst=>ldB 3 hst Tryz.isAgg52 (p 10 42 rfl rfl) rfl rfl (nO rfl rfl hst)) (opsS_cons (fun f w_ _ _ s _ _ hst=>mF ((s 7 rfl).trans sf7) rfl (nO rfl rfl hst)) (opsS_cons ?_ ?_)))
 intro f w_ H80 X80 hS80 hE80 hP80 hst
 refine L_ix (r:=rTerm) rfl Tryz.underlying52 Tryz.sizeOf83 (hP80 11 43 rfl rfl) (RP.mono _ h0_0 (Le.trans l53 hE80)) (hP80 12 44 rfl rfl) hix54 (fun g112 o113 cs_g112 hrk_hat114 hat114=>?_)
 obtain rfl:=rTerm_iff.1 hrk_hat114
 exact L_nil ⟨rfl,_,_,rfl,Le.refl _,fun _ _=>⟨_,_,_,rfl,hrk_hat114,hat114⟩,hst⟩
 refine opsS_cons ?_ ?_
 intro f w_ H80 X80 hS80 hE80 hP80 hst
 obtain ⟨g116,o116,cs116,hv116,hrk_hat116,hat116⟩:=(hP80 13 45 rfl rfl)
 obtain rfl:=rTerm_iff.1 hrk_hat116
 refine fA (o116 + 1) fa_83_1 hv116 rfl (L_nil ⟨rfl,_,_,rfl,Le.refl _,fun _ _=>⟨_,_,_,rfl,hrk_hat116,hat116⟩,hst⟩)
 refine opsS_cons ?_ ?_
 intro f w_ H80 X80 hS80 hE80 hP80 hst
 obtain ⟨g118,o118,cs118,hv118,hrk_hat118,hat118⟩:=(hP80 14 46 rfl rfl)
 obtain rfl:=rTerm_iff.1 hrk_hat118
 refine L_ld rfl Tryz.isAgg3 hv118 (At.cell (AtH.at hat118 hst.sub) (j:=1) rfl) (L_nil ⟨rfl,_,_,rfl,Le.refl _,fun _ _=>rfl,hst⟩)
 refine opsS_cons (fun f w_ _ _ _ _ p hst=>L_bld rfl (parts2 (p 9 41 rfl rfl) (p 15 47 rfl rfl)) (bld_83_0_1 (I x66) (I x_54.lit) rfl rfl) (nO rfl rfl hst)) (opsS_cons ?_ ?_)
 intro f w_ H80 X80 hS80 hE80 hP80 hst
 refine L_bs rfl (parts1 (hP80 16 48 rfl rfl)) (bs_52_1_2 (I x66) (I x_54.lit) ) hst (fun g120 w121 hst=>?_)
 have hst:=Star.addF (r:=rTerm) (cs:=[I x66,I x_54.lit]) (x:=({ coef:=x66,lit:=x_54.lit } : Term)) hst (rTerm_iff.2 rfl)
 have hst:=Star.mkRow (R:=(OR.frz rTerm)) [([I x66,I x_54.lit],({ coef:=x66,lit:=x_54.lit } : Term))] [({ coef:=x66,lit:=x_54.lit } : Term)] 1 hst rfl rfl rfl (by decide)
 have hst:=hst.gets [4,4,4,4] rfl
 exact L_nil ⟨rfl,_,_,rfl,Le.refl _,fun _ _=>trivial,hst⟩
 exact opsS_nil
 have hst : Star H80 w_ ([oF 83 rTerm v50_g46_0 g46_0_50,box g46 54 #[v50_g46_0,I x35],box g7 54 #[S0,I 0],box g5 54 #[v0_0,I c.bound],oF 83 rTerm (f 49) ([({ coef:=x66,lit:=x_54.lit } : Term)])]):=hst
 have hst:=hst.gets [4,1] rfl
 refine L_appM (v:=v50_g46_0) (u:=(f 49)) rfl et_52 (hT80 1 33 rfl rfl) rfl hst hx75 (fun v124 w125 hst=>fA 0 fa_54_0 ((hS80 6 rfl).trans sf6) rfl (L_stB (v:=v124) (cs2:=#[v124,I x35]) 1 rfl Tryz.sizeOf52 rfl rfl (one_len (Star.len 0 hst rfl)) hst rfl rfl rfl (fun w127 hst=>nn (W_region (mF ((hS80 7 rfl).trans sf7) rfl (L_add rfl rfl rfl (aI rfl (nn ?_))))))))
 obtain rfl:=so hB54
 have hst:=hst.gets [3,3,2,3] rfl
 show ∃ m,m < _∧I54 m _ _
 refine ⟨rest54.length,by simp,?_⟩
 exact ij hI54 ⟨i_49 + 1,rest54,x75,H80,v124,rfl,drop_next hd54,by simp at hl54; omega,hL54,(Le.trans l53 hE80),((hS80 1 rfl).trans sf1),((hS80 2 rfl).trans sf2),((hS80 4 rfl).trans sf4),((hS80 6 rfl).trans sf6),(Eq.trans rfl (congrArg (Value.int .i64) (i64_succ (n:=c.terms.length) (by simp at hl54; omega) hlen54))),hst⟩
 rcases suf54 with _ | ⟨_,_⟩
 obtain rfl:=range_nil hL54
 refine W_exit (rj hR54 ⟨g46_0_50,H52,v50_g46_0,rfl,l53,sf4,sf6,(Star.keepN 3 hst)⟩)
 exact absurd (of_decide_eq_false hc56) (by simp at hl54; omega)
 intro f w_ hR
 obtain ⟨g46_0_50,H52,v50_g46_0,rfl,l53,sf4,sf6,hst⟩:=rk hR54 hR
 refine sq (L_lda (cs:=[v50_g46_0,I x35]) rfl Tryz.isAgg54 Tryz.sizeOf54 sf6 (At.sub0 (Blk.at (Star.blkAt 1 hst rfl)) 0 2) rfl (L_staB (vs:=#[v50_g46_0,I x35]) (cs2:=#[v50_g46_0,I x35]) 2 rfl Tryz.sizeOf54 sf4 rfl rfl (ones_cons (one_len (Star.len 0 hst rfl)) (ones_cons rfl ones_nil)) hst rfl (by show 0 + 2≤2; decide) rfl (fun w129 hst=>aB rfl (nn (W_ret (retG2 (v1:=.agg #[v50_g46_0,I x35]) (v2:=Bo true) Tryz.results48 (resV_agg Tryz.isAgg54 Tryz.sizeOf54 sf4 (Star.blkAt 0 hst rfl) rfl) rfl ?_))))))
 obtain rfl:=so hF
 have hst:=hst.get 1 rfl
 exact ⟨v50_g46_0,rfl,(Star.down (Star.keepN 1 hst) l53 (co closed_term c0))⟩
theorem s_l2Saturate_c {fu : Nat} {c : Con} {v0_0 : Value} {H : FH} {w : World} (hst : Star H w []) (h0_0 : (rS 83 rTerm).rel H [v0_0] c.terms) {r : Con} (hF : s_l2Saturate fu c = some r) :
 C Tryz.prog 63 #[.agg #[v0_0,I c.bound]] w fun v w'=>∃ (u1 : Value),v = .agg #[u1,I r.bound]∧Star H w' [oF 83 rTerm u1 r.terms]:=by
 unfold s_l2Saturate at hF
 refine C_enter Tryz.func63 rfl Tryz.ntmps63 rfl (sq (L_box (v:=.agg #[v0_0,I c.bound]) (cs:=#[v0_0,I c.bound]) rfl rfl rfl hst (fun g5 w6 hst=>L_al (cs:=#[S0,I 0]) rfl Tryz.zeroValue54 rfl hst (fun g7 w8 hst=>ns (fA 1 fa_54_1 rfl rfl (ldB 1 hst Tryz.isAgg3 rfl rfl rfl (L_bld rfl (parts1 rfl) (bld_54_1 (I c.bound) rfl) (L_al (cs:=#[S0,I 0]) rfl Tryz.zeroValue54 rfl hst (fun g12 w13 hst=>L_staB (vs:=#[S0,I c.bound]) (cs2:=#[S0,I c.bound]) 0 rfl Tryz.sizeOf54 rfl rfl rfl (ones_cons rfl (ones_cons rfl ones_nil)) hst rfl (by show 0 + 2≤2; decide) rfl (fun w14 hst=>nq (sq (aI rfl (nn ?_)))))))))))))
 obtain ⟨j20,hL20,hF⟩:=bind_some hF
 obtain ⟨R20,hR20⟩:=exR fun f w_=>∃ i_17 : Int,∃ g12_0_18 : List Term,∃ v18_g12_0 : Value,j20 = .nx (i_17,g12_0_18)∧f 2 = Pt g7∧f 3 = Pt g12∧Star H w_ ([oF 83 rTerm v18_g12_0 g12_0_18,box g12 54 #[v18_g12_0,I c.bound],box g7 54 #[S0,I 0]])
 refine W_join R20 ?_ ?_
 refine W_block ?_
 obtain ⟨I20,hI20⟩:=exI fun n f w_=>∃ i_17 : Int,∃ g12_0_18 : List Term,∃ v18_g12_0 : Value,whileL (s_l2Saturate_b1 c) n (i_17,g12_0_18) = some j20∧f 1 = Pt g5∧f 2 = Pt g7∧f 3 = Pt g12∧f 4 = I i_17∧Star H w_ ([oF 83 rTerm v18_g12_0 g12_0_18,box g12 54 #[v18_g12_0,I c.bound],box g7 54 #[S0,I 0],box g5 54 #[v0_0,I c.bound]])
 have hst:=Star.addNil (R:=(OR.frz rTerm)) (e:=83) hst
 refine W_loop I20 (n:=fu) ?_ ?_
 exact ij hI20 ⟨0,[],S0,hL20,rfl,rfl,rfl,rfl,hst⟩
 intro n20 f w_ hI
 obtain ⟨i_17,g12_0_18,v18_g12_0,hL20,sf1,sf2,sf3,sf4,hst⟩:=ik hI20 hI
 rcases n20 with _ | n20
 exact (while_zero hL20).elim
 obtain ⟨o20,hB20,hL20⟩:=while_succ hL20
 rw [s_l2Saturate_b1] at hB20
 refine W_seq (W_seq ?_)
 obtain ⟨R22,hR22⟩:=exR fun f w_=>f 1 = Pt g5∧f 2 = Pt g7∧f 3 = Pt g12∧f 4 = I i_17∧f 18 = Bo ((decide (i_17 < (c.terms.length : Int))) && (decide (c.bound > 0)))∧Star H w_ ([oF 83 rTerm v18_g12_0 g12_0_18,box g12 54 #[v18_g12_0,I c.bound],box g7 54 #[S0,I 0],box g5 54 #[v0_0,I c.bound]])
 refine W_join R22 ?_ ?_
 refine W_region (mF sf4 rfl (fA 0 fa_54_0 sf1 rfl (ldB 3 hst Tryz.isAgg52 rfl rfl rfl (L_len rfl Tryz.underlying52 rfl (slice_len h0_0) (L_lss rfl rfl rfl (mB rfl (L_split (d:=14) (b:=decide (i_17 < (c.terms.length : Int))) rfl (fun hc23=>?_) (fun hc23=>?_))))))))
 refine fA 1 fa_54_1 sf1 rfl (ldB 3 hst Tryz.isAgg3 rfl rfl rfl (L_gtr rfl rfl rfl (L_pick (v:=Bo ((decide (i_17 < (c.terms.length : Int))) && (decide (c.bound > 0)))) rfl rfl (and_t hc23 rfl) (nn (rj hR22 ⟨sf1,sf2,sf3,sf4,rfl,hst⟩)))))
 refine ps rfl (ps rfl (ps rfl (L_pick (v:=Bo ((decide (i_17 < (c.terms.length : Int))) && (decide (c.bound > 0)))) rfl rfl (and_f hc23) (nn (rj hR22 ⟨sf1,sf2,sf3,sf4,rfl,hst⟩)))))
 intro f w_ hR
 obtain ⟨sf1,sf2,sf3,sf4,sf18,hst⟩:=rk hR22 hR
 refine W_cond (b:=((decide (i_17 < (c.terms.length : Int))) && (decide (c.bound > 0)))) sf18 (fun hc24=>?_) (fun hc24=>?_)
 have hB20:=(ite_t hc24).symm.trans hB20
 refine W_skip (W_seq (W_block (W_seq ?_)))
 obtain ⟨x25,hx25,hB20⟩:=bind_some hB20
 refine W_region (fA 0 fa_54_0 sf1 rfl (ldB 3 hst Tryz.isAgg52 rfl rfl rfl (mF sf4 rfl (L_ix (r:=rTerm) rfl Tryz.underlying52 Tryz.sizeOf83 rfl h0_0 rfl hx25 (fun g33 o34 cs_g33 hrk_hat35 hat35=>?_)))))
 obtain rfl:=rTerm_iff.1 hrk_hat35
 refine L_lda (cs:=[I x25.coef,I x25.lit]) rfl Tryz.isAgg83 Tryz.sizeOf83 rfl (At.sub (AtH.at hat35 hst.sub) 0 2) rfl (L_al (cs:=#[I 0,I 0]) rfl Tryz.zeroValue83 rfl hst (fun g37 w38 hst=>L_staB (vs:=#[I x25.coef,I x25.lit]) (cs2:=#[I x25.coef,I x25.lit]) 0 rfl Tryz.sizeOf83 rfl rfl rfl (ones_cons rfl (ones_cons rfl ones_nil)) hst rfl (by show 0 + 2≤2; decide) rfl (fun w39 hst=>nq (sq (fA 0 fa_83_0 rfl rfl (ldB 0 hst Tryz.isAgg3 rfl rfl rfl (fA 1 fa_54_1 sf1 rfl (ldB 4 hst Tryz.isAgg3 rfl rfl rfl (L_gtr rfl rfl rfl (nn ?_))))))))))
 obtain ⟨g37_0_40,hA41,hB20⟩:=bind_some hB20
 obtain ⟨R41,hR41⟩:=exR fun f w_=>f 1 = Pt g5∧f 2 = Pt g7∧f 3 = Pt g12∧f 4 = I i_17∧f 5 = Pt g37∧Star H w_ ([box g37 83 #[I g37_0_40,I x25.lit],oF 83 rTerm v18_g12_0 g12_0_18,box g12 54 #[v18_g12_0,I c.bound],box g7 54 #[S0,I 0],box g5 54 #[v0_0,I c.bound]])
 refine W_join R41 ?_ ?_
 refine W_cond (b:=decide (x25.coef > c.bound)) rfl (fun hc42=>?_) (fun hc42=>?_)
 have hA41:=(ite_t hc42).symm.trans hA41
 refine W_region (fA 1 fa_54_1 sf1 rfl (ldB 4 hst Tryz.isAgg3 rfl rfl rfl (fA 0 fa_83_0 rfl rfl (L_stB (v:=I c.bound) (cs2:=#[I c.bound,I x25.lit]) 0 rfl Tryz.sizeOf3 rfl rfl rfl hst rfl rfl rfl (fun w44 hst=>nn ?_)))))
 obtain rfl:=so hA41
 exact rj hR41 ⟨sf1,sf2,sf3,sf4,rfl,hst⟩
 have hA41:=(ite_f hc42).symm.trans hA41
 refine W_skip ?_
 obtain rfl:=so hA41
 exact rj hR41 ⟨sf1,sf2,sf3,sf4,rfl,hst⟩
 intro f w_ hR
 obtain ⟨sf1,sf2,sf3,sf4,sf5,hst⟩:=rk hR41 hR
 obtain ⟨x48,hx48,hB20⟩:=bind_some hB20
 refine W_region (fA 0 fa_54_0 sf3 rfl (ldB 2 hst Tryz.isAgg52 rfl rfl rfl (L_lda (cs:=[I g37_0_40,I x25.lit]) rfl Tryz.isAgg83 Tryz.sizeOf83 sf5 (At.sub0 (Blk.at (Star.blkAt 0 hst rfl)) 0 2) rfl (L_bs rfl (parts1 rfl) (bs_52_1_2 (I g37_0_40) (I x25.lit) ) hst (fun g53 w54 hst=>?_)))))
 have hst:=Star.addF (r:=rTerm) (cs:=[I g37_0_40,I x25.lit]) (x:=({ coef:=g37_0_40,lit:=x25.lit } : Term)) hst (rTerm_iff.2 rfl)
 have hst:=Star.mkRow (R:=(OR.frz rTerm)) [([I g37_0_40,I x25.lit],({ coef:=g37_0_40,lit:=x25.lit } : Term))] [({ coef:=g37_0_40,lit:=x25.lit } : Term)] 1 hst rfl rfl rfl (by decide)
 have hst:=hst.get 2 rfl
 refine L_appM (v:=v18_g12_0) (u:=(Sl g53 1 1)) rfl et_52 rfl rfl hst hx48 (fun v56 w57 hst=>fA 0 fa_54_0 sf3 rfl (L_stB (v:=v56) (cs2:=#[v56,I c.bound]) 2 rfl Tryz.sizeOf52 rfl rfl (one_len (Star.len 0 hst rfl)) hst rfl rfl rfl (fun w59 hst=>nn (W_region (mF sf4 rfl (L_add rfl rfl rfl (aI rfl (nn ?_))))))))
 obtain rfl:=so hB20
 have hst:=hst.gets [4,4,2,3] rfl
 show ∃ m,m < _∧I20 m _ _
 refine ⟨n20,Nat.lt_succ_self _,?_⟩
 exact ij hI20 ⟨i64 (i_17 + 1),x48,v56,hL20,sf1,sf2,sf3,rfl,(Star.keepN 4 hst)⟩
 have hB20:=(ite_f hc24).symm.trans hB20
 refine W_exit ?_
 obtain rfl:=so hB20
 obtain rfl:=so hL20
 exact rj hR20 ⟨i_17,g12_0_18,v18_g12_0,rfl,sf2,sf3,(Star.keepN 3 hst)⟩
 intro f w_ hR
 obtain ⟨i_17,g12_0_18,v18_g12_0,rfl,sf2,sf3,hst⟩:=rk hR20 hR
 refine sq (L_lda (cs:=[v18_g12_0,I c.bound]) rfl Tryz.isAgg54 Tryz.sizeOf54 sf3 (At.sub0 (Blk.at (Star.blkAt 1 hst rfl)) 0 2) rfl (L_staB (vs:=#[v18_g12_0,I c.bound]) (cs2:=#[v18_g12_0,I c.bound]) 2 rfl Tryz.sizeOf54 sf2 rfl rfl (ones_cons (one_len (Star.len 0 hst rfl)) (ones_cons rfl ones_nil)) hst rfl (by show 0 + 2≤2; decide) rfl (fun w61 hst=>nn (W_ret (retG1 (v1:=.agg #[v18_g12_0,I c.bound]) Tryz.results63 (resV_agg Tryz.isAgg54 Tryz.sizeOf54 sf2 (Star.blkAt 0 hst rfl) rfl) ?_)))))
 obtain rfl:=so hF
 have hst:=hst.get 1 rfl
 exact ⟨v18_g12_0,rfl,(Star.keepN 1 hst)⟩
theorem s_SaturateConstraint_c {fu : Nat} {c : Con} {v0_0 : Value} {H : FH} {w : World} (hst : Star H w []) (h0_0 : (rS 83 rTerm).rel H [v0_0] c.terms) {r : Con × Bool} (hF : s_SaturateConstraint fu c = some r) :
 C Tryz.prog 49 #[.agg #[v0_0,I c.bound]] w fun v w'=>∃ (u1 : Value),v = .tuple #[.agg #[u1,I r.1.bound],Bo r.2]∧Star H w' [oF 83 rTerm u1 r.1.terms]:=by
 unfold s_SaturateConstraint at hF
 refine C_enter Tryz.func49 rfl Tryz.ntmps49 rfl (sq (L_box (v:=.agg #[v0_0,I c.bound]) (cs:=#[v0_0,I c.bound]) rfl rfl rfl hst (fun g5 w6 hst=>L_al (cs:=#[S0,I 0]) rfl Tryz.zeroValue54 rfl hst (fun g7 w8 hst=>aB rfl (nq (W_seq ?_))))))
 obtain ⟨x14,hx14,hF⟩:=bind_some hF
 refine W_region (L_lda (cs:=[v0_0,I c.bound]) rfl Tryz.isAgg54 Tryz.sizeOf54 rfl (At.sub0 (Blk.at (Star.blkAt 1 hst rfl)) 0 2) rfl ?_)
 obtain ⟨H16b,l17,s18,z19,k20⟩:=hst.borrow
 refine L_call rfl Tryz.call43 (ops1 rfl) (s_ConstraintValid_c (c:=c) s18 (RP.mono _ h0_0 l17) hx14) ?_
 rintro _ w21 ⟨rfl,hst⟩
 have hst:=k20 hst c0
 refine L_not_ rfl rfl (nn (W_cond (b:=(!x14)) rfl (fun hc22=>?_) (fun hc22=>?_)))
 have hF:=(ite_t hc22).symm.trans hF
 refine sq (L_bld rfl (parts0 ) (bld_54_  ) (L_staB (vs:=#[S0,I 0]) (cs2:=#[S0,I 0]) 0 rfl Tryz.sizeOf54 rfl rfl rfl (ones_cons rfl (ones_cons rfl ones_nil)) hst rfl (by show 0 + 2≤2; decide) rfl (fun w24 hst=>aB rfl (nn (W_ret (retG2 (v1:=.agg #[S0,I 0]) (v2:=Bo false) Tryz.results49 (resV_agg Tryz.isAgg54 Tryz.sizeOf54 rfl (Star.blkAt 0 hst rfl) rfl) rfl ?_))))))
 obtain rfl:=so hF
 have hst:=Star.addNil (R:=(OR.frz rTerm)) (e:=83) hst
 exact ⟨S0,rfl,(Star.keepN 1 hst)⟩
 have hF:=(ite_f hc22).symm.trans hF
 refine W_skip (W_seq ?_)
 obtain ⟨x31,hx31,hF⟩:=bind_some hF
 refine W_region (L_lda (cs:=[v0_0,I c.bound]) rfl Tryz.isAgg54 Tryz.sizeOf54 rfl (At.sub0 (Blk.at (Star.blkAt 1 hst rfl)) 0 2) rfl ?_)
 obtain ⟨H35b,l36,s37,z38,k39⟩:=hst.borrow
 refine L_call rfl Tryz.call63 (ops1 rfl) (s_l2Saturate_c (c:=c) s37 (RP.mono _ h0_0 l36) hx31) ?_
 rintro _ w40 ⟨r40_0,rfl,hst⟩
 have hst:=k39 hst (co closed_term c0)
 refine L_staB (vs:=#[r40_0,I x31.bound]) (cs2:=#[r40_0,I x31.bound]) 1 rfl Tryz.sizeOf54 rfl rfl rfl (ones_cons (one_len (Star.len 0 hst rfl)) (ones_cons rfl ones_nil)) hst rfl (by show 0 + 2≤2; decide) rfl (fun w42 hst=>aB rfl (nn (W_ret (retG2 (v1:=.agg #[r40_0,I x31.bound]) (v2:=Bo true) Tryz.results49 (resV_agg Tryz.isAgg54 Tryz.sizeOf54 rfl (Star.blkAt 0 hst rfl) rfl) rfl ?_))))
 obtain rfl:=so hF
 have hst:=hst.get 1 rfl
 exact ⟨r40_0,rfl,(Star.keepN 1 hst)⟩
end Go.Proofs.YtiodhgbfceahfaaGreat

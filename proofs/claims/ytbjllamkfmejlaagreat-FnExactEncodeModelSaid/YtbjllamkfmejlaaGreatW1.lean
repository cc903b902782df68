/- Part of a proof by program: W1. -/
import Derived.Test.YtbjllamkfmejlaaGreatD1
import Derived.Test.YtbjllamkfmejlaaGreatProg
import Derived.Test.YtbjllamkfmejlaaGreatBits
namespace Go.Proofs.YtbjllamkfmejlaaGreat
open Go Go.E Go.L Go.RowKit
set_option linter.unusedVariables false
set_option linter.unusedSimpArgs false
set_option maxRecDepth 100000
theorem Tryz_mix : Tryz.prog.follows .mixedOrders = true := by kernel_rfl
theorem fa_26_0 : FA Tryz.prog 26 0 0 := fa_of Tryz.underlying26 rfl Tryz.sizeOf23 rfl
theorem fa_26_1 : FA Tryz.prog 26 1 1 := fa_of Tryz.underlying26 rfl Tryz.sizeOf24 rfl
theorem fa_61_0 : FA Tryz.prog 61 0 0 := fa_of Tryz.underlying61 rfl Tryz.sizeOf23 rfl
theorem fa_61_1 : FA Tryz.prog 61 1 1 := fa_of Tryz.underlying61 rfl Tryz.sizeOf59 rfl
theorem fa_73_0 : FA Tryz.prog 73 0 0 := fa_of Tryz.underlying73 rfl Tryz.sizeOf71 rfl
theorem fa_73_1 : FA Tryz.prog 73 1 1 := fa_of Tryz.underlying73 rfl Tryz.sizeOf3 rfl
theorem fa_79_0 : FA Tryz.prog 79 0 0 := fa_of Tryz.underlying79 rfl Tryz.sizeOf3 rfl
theorem fa_79_1 : FA Tryz.prog 79 1 1 := fa_of Tryz.underlying79 rfl Tryz.sizeOf23 rfl
theorem fa_79_2 : FA Tryz.prog 79 2 2 := fa_of Tryz.underlying79 rfl Tryz.sizeOf23 rfl
theorem fa_79_3 : FA Tryz.prog 79 3 3 := fa_of Tryz.underlying79 rfl Tryz.sizeOf3 rfl
theorem fa_79_4 : FA Tryz.prog 79 4 4 := fa_of Tryz.underlying79 rfl Tryz.sizeOf77 rfl
theorem fa_122_0 : FA Tryz.prog 122 0 0 := fa_of Tryz.underlying122 rfl Tryz.sizeOf3 rfl
theorem fa_122_1 : FA Tryz.prog 122 1 1 := fa_of Tryz.underlying122 rfl Tryz.sizeOf3 rfl
theorem fa_140_0 : FA Tryz.prog 140 0 0 := fa_of Tryz.underlying140 rfl Tryz.sizeOf3 rfl
theorem fa_140_1 : FA Tryz.prog 140 1 1 := fa_of Tryz.underlying140 rfl Tryz.sizeOf23 rfl
theorem fa_140_2 : FA Tryz.prog 140 2 2 := fa_of Tryz.underlying140 rfl Tryz.sizeOf23 rfl
theorem fa_140_3 : FA Tryz.prog 140 3 3 := fa_of Tryz.underlying140 rfl Tryz.sizeOf3 rfl
theorem fa_140_4 : FA Tryz.prog 140 4 4 := fa_of Tryz.underlying140 rfl Tryz.sizeOf77 rfl
theorem et_23 : ET Tryz.prog 23 3 1 := et_of Tryz.underlying23 (by decide) (by kernel_rfl)
theorem et_24 : ET Tryz.prog 24 79 5 := et_of Tryz.underlying24 (by decide) (by kernel_rfl)
theorem et_28 : ET Tryz.prog 28 73 2 := et_of Tryz.underlying28 (by decide) (by kernel_rfl)
theorem et_71 : ET Tryz.prog 71 122 2 := et_of Tryz.underlying71 (by decide) (by kernel_rfl)
theorem et_77 : ET Tryz.prog 77 23 1 := et_of Tryz.underlying77 (by decide) (by kernel_rfl)
theorem bld_122_0_1 (a0 a1 : Value) (ha0 : a0.oneCell' = true) (ha1 : a1.oneCell' = true) : ∀ w, (Instr.build 122 #[(0, a0), (1, a1)]).run Tryz.prog w = .ok (.agg #[a0, a1]) w := by
  intro w
  simp [Instr.build, Instr.fill, Tryz.zeroValue122, Tryz.runUnderlying122, Tryz.sizeOf3, cells_one ha0, cells_one ha1, cells_agg]
theorem bld_26_  : ∀ w, (Instr.build 26 #[]).run Tryz.prog w = .ok (.agg #[.slice none 0 0, .slice none 0 0]) w := by
  intro w
  simp [Instr.build, Instr.fill, Tryz.zeroValue26, Tryz.runUnderlying26, Tryz.sizeOf23, Tryz.sizeOf24, cells_agg]
theorem bld_73_  : ∀ w, (Instr.build 73 #[]).run Tryz.prog w = .ok (.agg #[.slice none 0 0, .int .i64 0]) w := by
  intro w
  simp [Instr.build, Instr.fill, Tryz.zeroValue73, Tryz.runUnderlying73, Tryz.sizeOf3, Tryz.sizeOf71, cells_agg]
theorem bld_73_1 (a0 : Value) (ha0 : a0.oneCell' = true) : ∀ w, (Instr.build 73 #[(1, a0)]).run Tryz.prog w = .ok (.agg #[.slice none 0 0, a0]) w := by
  intro w
  simp [Instr.build, Instr.fill, Tryz.zeroValue73, Tryz.runUnderlying73, Tryz.sizeOf3, Tryz.sizeOf71, cells_one ha0, cells_agg]
theorem bs_23_0  : ∀ w, (Instr.buildSlice 23 0 #[]).run Tryz.prog w = .ok (.slice (some ⟨w.heap.size, 0, none⟩) 0 0) (w.alloc (.cells #[] 3)) := by
  intro w
  simp [Instr.buildSlice, Instr.fill, newRow, Tryz.runUnderlying23, Tryz.sizeOf3, cells_agg, cells_int, cells_bool, cells_str, cells_sl, Array.range_succ, range0]
theorem bs_23_1_0 (a0 : Value) (ha0 : a0.oneCell' = true) : ∀ w, (Instr.buildSlice 23 1 #[(0, a0)]).run Tryz.prog w = .ok (.slice (some ⟨w.heap.size, 0, none⟩) 1 1) (w.alloc (.cells #[a0] 3)) := by
  intro w
  simp [Instr.buildSlice, Instr.fill, newRow, Tryz.zeroValue3, Tryz.runUnderlying23, Tryz.sizeOf3, cells_one ha0, cells_agg, cells_int, cells_bool, cells_str, cells_sl, Array.range_succ, range0]
theorem bs_28_0  : ∀ w, (Instr.buildSlice 28 0 #[]).run Tryz.prog w = .ok (.slice (some ⟨w.heap.size, 0, none⟩) 0 0) (w.alloc (.cells #[] 73)) := by
  intro w
  simp [Instr.buildSlice, Instr.fill, newRow, Tryz.runUnderlying28, Tryz.sizeOf73, cells_agg, cells_int, cells_bool, cells_str, cells_sl, Array.range_succ, range0]
theorem bs_28_1_2 (a0 a1 : Value)  : ∀ w, (Instr.buildSlice 28 1 #[(0, .agg #[a0, a1])]).run Tryz.prog w = .ok (.slice (some ⟨w.heap.size, 0, none⟩) 1 1) (w.alloc (.cells #[a0, a1] 73)) := by
  intro w
  simp [Instr.buildSlice, Instr.fill, newRow, Tryz.zeroValue73, Tryz.runUnderlying28, Tryz.sizeOf73, cells_agg, cells_int, cells_bool, cells_str, cells_sl, Array.range_succ, range0]
theorem bs_28_2_2_2 (a0 a1 a2 a3 : Value)  : ∀ w, (Instr.buildSlice 28 2 #[(0, .agg #[a0, a1]), (1, .agg #[a2, a3])]).run Tryz.prog w = .ok (.slice (some ⟨w.heap.size, 0, none⟩) 2 2) (w.alloc (.cells #[a0, a1, a2, a3] 73)) := by
  intro w
  simp [Instr.buildSlice, Instr.fill, newRow, Tryz.zeroValue73, Tryz.runUnderlying28, Tryz.sizeOf73, cells_agg, cells_int, cells_bool, cells_str, cells_sl, Array.range_succ, range0]
theorem bs_71_1_2 (a0 a1 : Value)  : ∀ w, (Instr.buildSlice 71 1 #[(0, .agg #[a0, a1])]).run Tryz.prog w = .ok (.slice (some ⟨w.heap.size, 0, none⟩) 1 1) (w.alloc (.cells #[a0, a1] 122)) := by
  intro w
  simp [Instr.buildSlice, Instr.fill, newRow, Tryz.zeroValue122, Tryz.runUnderlying71, Tryz.sizeOf122, cells_agg, cells_int, cells_bool, cells_str, cells_sl, Array.range_succ, range0]
theorem i_within_c {n_ : Int} {low : Int} {high : Int} {H : FH} {w : World} (Z : Star H w []) {r : Bool} (hF : i_within n_ low high = some r) :
 C Tryz.prog 92 #[I n_,I low,I high] w fun v w'=>v = Bo r∧Star H w' []:=by
 unfold i_within at hF
 refine C_enter Tryz.func92 rfl Tryz.ntmps92 rfl (sq (aB rfl (nq ?_)))
 obtain ⟨R1,hR1⟩:=exR fun f w_=>f 6 = Bo ((decide (low≤n_)) && (decide (n_≤high)))∧Star H w_ ([])
 refine W_join R1 ?_ ?_
 refine W_region (mI rfl (mI rfl (L_leq rfl rfl rfl (mB rfl (L_split (d:=10) (b:=decide (low≤n_)) rfl (fun hc2=>?_) (fun hc2=>?_))))))
 refine mI rfl (mI rfl (L_leq rfl rfl rfl (L_pick (v:=Bo ((decide (low≤n_)) && (decide (n_≤high)))) rfl rfl (and_t hc2 rfl) (aB rfl (nn (rj hR1 ⟨rfl,Z⟩))))))
 refine ps rfl (ps rfl (ps rfl (L_pick (v:=Bo ((decide (low≤n_)) && (decide (n_≤high)))) rfl rfl (and_f hc2) (aB rfl (nn (rj hR1 ⟨rfl,Z⟩))))))
 intro f w_ hR
 obtain ⟨sf6,Z⟩:=rk hR1 hR
 refine W_ret (retG1 (v1:=Bo ((decide (low≤n_)) && (decide (n_≤high)))) Tryz.results92 sf6 ?_)
 obtain rfl:=so hF
 exact ⟨rfl,Z⟩
theorem slices_IndexFunc_implRule_c {s : List Rule} {f_ : (Rule→Option Bool)} {v0 : Value} {v1 : Value} {H : FH} {w : World} (Z : Star H w []) (h0 : (rS 79 (rRule 3 23)).rel H [v0] s) (h1 : Fun1 Tryz.prog (rRule 3 23) true Value.bool f_ v1 H) {r : Int} (hF : slices_IndexFunc_implRule s f_ = some r) :
 C Tryz.prog 136 #[v0,v1] w fun v w'=>v = I r∧Star H w' []:=by
 unfold slices_IndexFunc_implRule at hF
 obtain ⟨fid_1,caps_1,rfl,hcall_1,hc_1⟩:=h1
 refine C_enter Tryz.func136 rfl Tryz.ntmps136 rfl (sq (aI rfl (nq (sq (mV v0 rfl (L_len rfl Tryz.underlying24 rfl (slice_len h0) (mI rfl (nn ?_))))))))
 have hlen2 : List.length s≤9223372036854775807:=len_le (slice_len h0)
 obtain ⟨j2,hL2,hF⟩:=bind_some hF
 obtain ⟨R2,hR2⟩:=exR fun f w_=>j2 = .nx ()∧Star H w_ ([])
 refine W_join R2 ?_ ?_
 refine W_block ?_
 obtain ⟨I2,hI2⟩:=exI fun n f w_=>∃ i_1 : Nat,∃ suf2 : List Rule,n = suf2.length∧List.drop i_1 s = suf2∧i_1 + suf2.length = s.length∧rangeL (slices_IndexFunc_implRule_b1 f_) suf2 i_1 () = some j2∧f 0 = v0∧f 1 = .func (.func fid_1) #[] caps_1∧f 7 = I (s.length : Int)∧f 8 = I i_1∧Star H w_ ([])
 refine W_loop I2 (n:=s.length) ?_ ?_
 exact ij hI2 ⟨0,s,rfl,rfl,Nat.zero_add _,hL2,rfl,rfl,rfl,rfl,Z⟩
 intro n2 f w_ hI
 obtain ⟨i_1,suf2,rfl,hd2,hl2,hL2,sf0,sf1,sf7,sf8,Z⟩:=ik hI2 hI
 refine sq (L_lss rfl sf8 sf7 (nq (W_cond (b:=decide ((i_1 : Int) < (s.length : Int))) rfl (fun hc3=>?_) (fun hc3=>?_))))
 have hlt2:=of_decide_eq_true hc3
 rcases suf2 with _ | ⟨x_2,rest2⟩
 exact absurd hlt2 (by simp at hl2; omega)
 obtain ⟨o2,hB2,hL2⟩:=range_cons hL2
 rw [slices_IndexFunc_implRule_b1] at hB2
 have hix2:=drop_idx hd2
 refine W_skip (W_seq (W_block (sq (mF sf8 rfl (aI rfl (nq ?_))))))
 obtain ⟨x8,hx8,hB2⟩:=bind_some hB2
 refine W_region (mF sf1 rfl (mF sf0 rfl (mI rfl (L_ix (r:=(rRule 3 23)) rfl Tryz.underlying24 Tryz.sizeOf79 rfl h0 rfl hix2 (fun g15 o16 cs_g15 hrk_hat17 hat17=>?_)))))
 obtain ⟨u18_0,u18_1,u18_2,rfl,hu18_0,hu18_1,hu18_2⟩:=rRule_iff.1 hrk_hat17
 refine L_lda (cs:=[I x_2.kind,u18_0,u18_1,I x_2.bound,u18_2]) rfl Tryz.isAgg79 Tryz.sizeOf79 rfl (At.sub (AtH.at hat17 Z.sub) 0 5) rfl ?_
 obtain ⟨H19b,l20,s21,z22,k23⟩:=Z.borrow
 refine L_callv (args:=#[.agg #[I x_2.kind,u18_0,u18_1,I x_2.bound,u18_2]]) rfl hcall_1 rfl (ops1 rfl) (hc_1 _ _ l20 s21 [I x_2.kind,u18_0,u18_1,I x_2.bound,u18_2] _ _ _ (rRule_iff.2 ⟨_,_,_,rfl,(RP.mono _ hu18_0 l20),(RP.mono _ hu18_1 l20),(RP.mono _ hu18_2 l20)⟩) hx8 (args_app rfl)) ?_
 rintro _ w24 ⟨rfl,Z⟩
 have Z:=k23 Z c0
 refine nn (W_cond (b:=x8) rfl (fun hc25=>?_) (fun hc25=>?_))
 have hB2:=(ite_t hc25).symm.trans hB2
 refine sq (mI rfl (aI rfl (nn (W_ret (retG1 (v1:=I i_1) Tryz.results136 rfl ?_)))))
 obtain rfl:=so hB2
 obtain rfl:=so hL2
 obtain rfl:=so hF
 exact ⟨rfl,Z⟩
 have hB2:=(ite_f hc25).symm.trans hB2
 refine W_skip (W_region (L_add rfl sf8 rfl (mI rfl (nn ?_))))
 obtain rfl:=so hB2
 show ∃ m,m < _∧I2 m _ _
 refine ⟨rest2.length,by simp,?_⟩
 exact ij hI2 ⟨i_1 + 1,rest2,rfl,drop_next hd2,by simp at hl2; omega,hL2,sf0,sf1,sf7,(Eq.trans rfl (congrArg (Value.int .i64) (i64_succ (n:=s.length) (by simp at hl2; omega) hlen2))),Z⟩
 rcases suf2 with _ | ⟨_,_⟩
 obtain rfl:=range_nil hL2
 refine W_exit (rj hR2 ⟨rfl,Z⟩)
 exact absurd (of_decide_eq_false hc3) (by simp at hl2; omega)
 intro f w_ hR
 obtain ⟨rfl,Z⟩:=rk hR2 hR
 refine sq (aI rfl (nn (W_ret (retG1 (v1:=I (-1)) Tryz.results136 rfl ?_))))
 obtain rfl:=so hF
 exact ⟨rfl,Z⟩
theorem slices_ContainsFunc_implRule_c {s : List Rule} {f_ : (Rule→Option Bool)} {v0 : Value} {v1 : Value} {H : FH} {w : World} (Z : Star H w []) (h0 : (rS 79 (rRule 3 23)).rel H [v0] s) (h1 : Fun1 Tryz.prog (rRule 3 23) true Value.bool f_ v1 H) {r : Bool} (hF : slices_ContainsFunc_implRule s f_ = some r) :
 C Tryz.prog 93 #[v0,v1] w fun v w'=>v = Bo r∧Star H w' []:=by
 unfold slices_ContainsFunc_implRule at hF
 obtain ⟨fid_1,caps_1,rfl,hcall_1,hc_1⟩:=h1
 refine C_enter Tryz.func93 rfl Tryz.ntmps93 rfl (sq (aB rfl (nq ?_)))
 obtain ⟨x6,hx6,hF⟩:=bind_some hF
 refine W_region (mV v0 rfl (mV (.func (.func fid_1) #[] caps_1) rfl ?_))
 obtain ⟨H8b,l9,s10,z11,k12⟩:=Z.borrow
 refine L_call rfl Tryz.call136 (ops2 rfl rfl) (slices_IndexFunc_implRule_c (s:=s) (f_:=f_) s10 (RP.mono _ h0 l9) (Fun1.le ⟨_,_,rfl,hcall_1,hc_1⟩ l9) hx6) ?_
 rintro _ w13 ⟨rfl,Z⟩
 have Z:=k12 Z c0
 refine L_geq rfl rfl rfl (aB rfl (nn (W_ret (retG1 (v1:=Bo (decide (x6 ≥ 0))) Tryz.results93 rfl ?_))))
 obtain rfl:=so hF
 exact ⟨rfl,Z⟩
theorem slices_Index_int_c {s : List Int} {v_ : Int} {v0 : Value} {H : FH} {w : World} (Z : Star H w []) (h0 : (rS 3 RP.int).rel H [v0] s) {r : Int} (hF : slices_Index_int s v_ = some r) :
 C Tryz.prog 141 #[v0,I v_] w fun v w'=>v = I r∧Star H w' []:=by
 unfold slices_Index_int at hF
 refine C_enter Tryz.func141 rfl Tryz.ntmps141 rfl (sq (aI rfl (nq (sq (mV v0 rfl (L_len rfl Tryz.underlying23 rfl (slice_len h0) (mI rfl (nn ?_))))))))
 have hlen2 : List.length s≤9223372036854775807:=len_le (slice_len h0)
 obtain ⟨j2,hL2,hF⟩:=bind_some hF
 obtain ⟨R2,hR2⟩:=exR fun f w_=>j2 = .nx ()∧Star H w_ ([])
 refine W_join R2 ?_ ?_
 refine W_block ?_
 obtain ⟨I2,hI2⟩:=exI fun n f w_=>∃ i_1 : Nat,∃ suf2 : List Int,n = suf2.length∧List.drop i_1 s = suf2∧i_1 + suf2.length = s.length∧rangeL (slices_Index_int_b1 v_) suf2 i_1 () = some j2∧f 0 = v0∧f 1 = I v_∧f 7 = I (s.length : Int)∧f 8 = I i_1∧Star H w_ ([])
 refine W_loop I2 (n:=s.length) ?_ ?_
 exact ij hI2 ⟨0,s,rfl,rfl,Nat.zero_add _,hL2,rfl,rfl,rfl,rfl,Z⟩
 intro n2 f w_ hI
 obtain ⟨i_1,suf2,rfl,hd2,hl2,hL2,sf0,sf1,sf7,sf8,Z⟩:=ik hI2 hI
 refine sq (L_lss rfl sf8 sf7 (nq (W_cond (b:=decide ((i_1 : Int) < (s.length : Int))) rfl (fun hc3=>?_) (fun hc3=>?_))))
 have hlt2:=of_decide_eq_true hc3
 rcases suf2 with _ | ⟨x_2,rest2⟩
 exact absurd hlt2 (by simp at hl2; omega)
 obtain ⟨o2,hB2,hL2⟩:=range_cons hL2
 rw [slices_Index_int_b1] at hB2
 have hix2:=drop_idx hd2
 refine W_skip (W_seq (W_block (sq (mF sf8 rfl (aI rfl (ns (mF sf1 rfl (mF sf0 rfl (mI rfl (L_ix (r:=RP.int) rfl Tryz.underlying23 Tryz.sizeOf3 rfl h0 rfl hix2 (fun g8 o9 cs_g8 hrk_hat10 hat10=>?_)))))))))))
 obtain rfl : _ = [_]:=hrk_hat10
 refine L_ld rfl Tryz.isAgg3 rfl (At.cell (AtH.at hat10 Z.sub) (j:=0) rfl) (L_eql rfl rfl rfl (nn (W_cond (b:=(v_ == x_2)) rfl (fun hc12=>?_) (fun hc12=>?_))))
 have hB2:=(ite_t hc12).symm.trans hB2
 refine sq (mI rfl (aI rfl (nn (W_ret (retG1 (v1:=I i_1) Tryz.results141 rfl ?_)))))
 obtain rfl:=so hB2
 obtain rfl:=so hL2
 obtain rfl:=so hF
 exact ⟨rfl,Z⟩
 have hB2:=(ite_f hc12).symm.trans hB2
 refine W_skip (W_region (L_add rfl sf8 rfl (mI rfl (nn ?_))))
 obtain rfl:=so hB2
 show ∃ m,m < _∧I2 m _ _
 refine ⟨rest2.length,by simp,?_⟩
 exact ij hI2 ⟨i_1 + 1,rest2,rfl,drop_next hd2,by simp at hl2; omega,hL2,sf0,sf1,sf7,(Eq.trans rfl (congrArg (Value.int .i64) (i64_succ (n:=s.length) (by simp at hl2; omega) hlen2))),Z⟩
 rcases suf2 with _ | ⟨_,_⟩
 obtain rfl:=range_nil hL2
 refine W_exit (rj hR2 ⟨rfl,Z⟩)
 exact absurd (of_decide_eq_false hc3) (by simp at hl2; omega)
 intro f w_ hR
 obtain ⟨rfl,Z⟩:=rk hR2 hR
 refine sq (aI rfl (nn (W_ret (retG1 (v1:=I (-1)) Tryz.results141 rfl ?_))))
 obtain rfl:=so hF
 exact ⟨rfl,Z⟩
theorem slices_Contains_int_c {s : List Int} {v_ : Int} {v0 : Value} {H : FH} {w : World} (Z : Star H w []) (h0 : (rS 3 RP.int).rel H [v0] s) {r : Bool} (hF : slices_Contains_int s v_ = some r) :
 C Tryz.prog 97 #[v0,I v_] w fun v w'=>v = Bo r∧Star H w' []:=by
 unfold slices_Contains_int at hF
 refine C_enter Tryz.func97 rfl Tryz.ntmps97 rfl (sq (aB rfl (nq ?_)))
 obtain ⟨x6,hx6,hF⟩:=bind_some hF
 refine W_region (mV v0 rfl (mI rfl ?_))
 obtain ⟨H8b,l9,s10,z11,k12⟩:=Z.borrow
 refine L_call rfl Tryz.call141 (ops2 rfl rfl) (slices_Index_int_c (s:=s) (v_:=v_) s10 (RP.mono _ h0 l9) hx6) ?_
 rintro _ w13 ⟨rfl,Z⟩
 have Z:=k12 Z c0
 refine L_geq rfl rfl rfl (aB rfl (nn (W_ret (retG1 (v1:=Bo (decide (x6 ≥ 0))) Tryz.results97 rfl ?_))))
 obtain rfl:=so hF
 exact ⟨rfl,Z⟩
theorem slices_IndexFunc_int_c {s : List Int} {f_ : (Int→Option Bool)} {v0 : Value} {v1 : Value} {H : FH} {w : World} (Z : Star H w []) (h0 : (rS 3 RP.int).rel H [v0] s) (h1 : Fun1 Tryz.prog RP.int false Value.bool f_ v1 H) {r : Int} (hF : slices_IndexFunc_int s f_ = some r) :
 C Tryz.prog 157 #[v0,v1] w fun v w'=>v = I r∧Star H w' []:=by
 unfold slices_IndexFunc_int at hF
 obtain ⟨fid_1,caps_1,rfl,hcall_1,hc_1⟩:=h1
 refine C_enter Tryz.func157 rfl Tryz.ntmps157 rfl (sq (aI rfl (nq (sq (mV v0 rfl (L_len rfl Tryz.underlying23 rfl (slice_len h0) (mI rfl (nn ?_))))))))
 have hlen2 : List.length s≤9223372036854775807:=len_le (slice_len h0)
 obtain ⟨j2,hL2,hF⟩:=bind_some hF
 obtain ⟨R2,hR2⟩:=exR fun f w_=>j2 = .nx ()∧Star H w_ ([])
 refine W_join R2 ?_ ?_
 refine W_block ?_
 obtain ⟨I2,hI2⟩:=exI fun n f w_=>∃ i_1 : Nat,∃ suf2 : List Int,n = suf2.length∧List.drop i_1 s = suf2∧i_1 + suf2.length = s.length∧rangeL (slices_IndexFunc_int_b1 f_) suf2 i_1 () = some j2∧f 0 = v0∧f 1 = .func (.func fid_1) #[] caps_1∧f 7 = I (s.length : Int)∧f 8 = I i_1∧Star H w_ ([])
 refine W_loop I2 (n:=s.length) ?_ ?_
 exact ij hI2 ⟨0,s,rfl,rfl,Nat.zero_add _,hL2,rfl,rfl,rfl,rfl,Z⟩
 intro n2 f w_ hI
 obtain ⟨i_1,suf2,rfl,hd2,hl2,hL2,sf0,sf1,sf7,sf8,Z⟩:=ik hI2 hI
 refine sq (L_lss rfl sf8 sf7 (nq (W_cond (b:=decide ((i_1 : Int) < (s.length : Int))) rfl (fun hc3=>?_) (fun hc3=>?_))))
 have hlt2:=of_decide_eq_true hc3
 rcases suf2 with _ | ⟨x_2,rest2⟩
 exact absurd hlt2 (by simp at hl2; omega)
 obtain ⟨o2,hB2,hL2⟩:=range_cons hL2
 rw [slices_IndexFunc_int_b1] at hB2
 have hix2:=drop_idx hd2
 refine W_skip (W_seq (W_block (sq (mF sf8 rfl (aI rfl (nq ?_))))))
 obtain ⟨x8,hx8,hB2⟩:=bind_some hB2
 refine W_region (mF sf1 rfl (mF sf0 rfl (mI rfl (L_ix (r:=RP.int) rfl Tryz.underlying23 Tryz.sizeOf3 rfl h0 rfl hix2 (fun g15 o16 cs_g15 hrk_hat17 hat17=>?_)))))
 obtain rfl : _ = [_]:=hrk_hat17
 refine L_ld rfl Tryz.isAgg3 rfl (At.cell (AtH.at hat17 Z.sub) (j:=0) rfl) ?_
 obtain ⟨H19b,l20,s21,z22,k23⟩:=Z.borrow
 refine L_callv (args:=#[I x_2]) rfl hcall_1 rfl (ops1 rfl) (hc_1 _ _ l20 s21 [I x_2] _ _ _ rfl hx8 (args_app rfl)) ?_
 rintro _ w24 ⟨rfl,Z⟩
 have Z:=k23 Z c0
 refine nn (W_cond (b:=x8) rfl (fun hc25=>?_) (fun hc25=>?_))
 have hB2:=(ite_t hc25).symm.trans hB2
 refine sq (mI rfl (aI rfl (nn (W_ret (retG1 (v1:=I i_1) Tryz.results157 rfl ?_)))))
 obtain rfl:=so hB2
 obtain rfl:=so hL2
 obtain rfl:=so hF
 exact ⟨rfl,Z⟩
 have hB2:=(ite_f hc25).symm.trans hB2
 refine W_skip (W_region (L_add rfl sf8 rfl (mI rfl (nn ?_))))
 obtain rfl:=so hB2
 show ∃ m,m < _∧I2 m _ _
 refine ⟨rest2.length,by simp,?_⟩
 exact ij hI2 ⟨i_1 + 1,rest2,rfl,drop_next hd2,by simp at hl2; omega,hL2,sf0,sf1,sf7,(Eq.trans rfl (congrArg (Value.int .i64) (i64_succ (n:=s.length) (by simp at hl2; omega) hlen2))),Z⟩
 rcases suf2 with _ | ⟨_,_⟩
 obtain rfl:=range_nil hL2
 refine W_exit (rj hR2 ⟨rfl,Z⟩)
 exact absurd (of_decide_eq_false hc3) (by simp at hl2; omega)
 intro f w_ hR
 obtain ⟨rfl,Z⟩:=rk hR2 hR
 refine sq (aI rfl (nn (W_ret (retG1 (v1:=I (-1)) Tryz.results157 rfl ?_))))
 obtain rfl:=so hF
 exact ⟨rfl,Z⟩
theorem slices_ContainsFunc_int_c {s : List Int} {f_ : (Int→Option Bool)} {v0 : Value} {v1 : Value} {H : FH} {w : World} (Z : Star H w []) (h0 : (rS 3 RP.int).rel H [v0] s) (h1 : Fun1 Tryz.prog RP.int false Value.bool f_ v1 H) {r : Bool} (hF : slices_ContainsFunc_int s f_ = some r) :
 C Tryz.prog 113 #[v0,v1] w fun v w'=>v = Bo r∧Star H w' []:=by
 unfold slices_ContainsFunc_int at hF
 obtain ⟨fid_1,caps_1,rfl,hcall_1,hc_1⟩:=h1
 refine C_enter Tryz.func113 rfl Tryz.ntmps113 rfl (sq (aB rfl (nq ?_)))
 obtain ⟨x6,hx6,hF⟩:=bind_some hF
 refine W_region (mV v0 rfl (mV (.func (.func fid_1) #[] caps_1) rfl ?_))
 obtain ⟨H8b,l9,s10,z11,k12⟩:=Z.borrow
 refine L_call rfl Tryz.call157 (ops2 rfl rfl) (slices_IndexFunc_int_c (s:=s) (f_:=f_) s10 (RP.mono _ h0 l9) (Fun1.le ⟨_,_,rfl,hcall_1,hc_1⟩ l9) hx6) ?_
 rintro _ w13 ⟨rfl,Z⟩
 have Z:=k12 Z c0
 refine L_geq rfl rfl rfl (aB rfl (nn (W_ret (retG1 (v1:=Bo (decide (x6 ≥ 0))) Tryz.results113 rfl ?_))))
 obtain rfl:=so hF
 exact ⟨rfl,Z⟩
theorem i_ruleValid_1_c {n_ : Int} {H : FH} {w : World} (Z : Star H w []) {r : Bool} (hF : i_ruleValid_1 n_ = some r) :
 C Tryz.prog 137 #[I n_] w fun v w'=>v = Bo r∧Star H w' []:=by
 unfold i_ruleValid_1 at hF
 refine C_enter Tryz.func137 rfl Tryz.ntmps137 rfl (sq (aB rfl (nq ?_)))
 obtain ⟨b8,hb8,hF⟩:=bind_some hF
 obtain ⟨R9,hR9⟩:=exR fun f w_=>f 2 = Bo b8∧Star H w_ ([])
 refine W_join R9 ?_ ?_
 refine W_region (mI rfl (L_eql rfl rfl rfl (mB rfl (L_split (d:=5) (b:=(n_ == 0)) rfl (fun hc10=>?_) (fun hc10=>?_)))))
 rw [ite_t hc10] at hb8
 refine ps rfl (ps rfl (ps rfl (L_pick (v:=Bo b8) rfl rfl (congrArg Value.bool (so hb8)) (aB rfl (nn (rj hR9 ⟨rfl,Z⟩))))))
 rw [ite_f hc10] at hb8
 obtain ⟨x6,hx6,hb8⟩:=bind_some hb8
 refine mI rfl ?_
 obtain ⟨H11b,l12,s13,z14,k15⟩:=Z.borrow
 refine L_call rfl Tryz.call92 (ops3 rfl rfl rfl) (i_within_c (n_:=n_) (low:=(-9)) (high:=9) s13 hx6) ?_
 rintro _ w16 ⟨rfl,Z⟩
 have Z:=k15 Z c0
 refine L_not_ rfl rfl (L_pick (v:=Bo b8) rfl rfl (congrArg Value.bool (so hb8)) (aB rfl (nn (rj hR9 ⟨rfl,Z⟩))))
 intro f w_ hR
 obtain ⟨sf2,Z⟩:=rk hR9 hR
 refine W_ret (retG1 (v1:=Bo b8) Tryz.results137 sf2 ?_)
 obtain rfl:=so hF
 exact ⟨rfl,Z⟩
theorem slices_IndexFunc_Sint_c {s : List (List Int)} {f_ : ((List Int)→Option Bool)} {v0 : Value} {v1 : Value} {H : FH} {w : World} (Z : Star H w []) (h0 : (rS 23 (rS 3 RP.int)).rel H [v0] s) (h1 : Fun1 Tryz.prog (rS 3 RP.int) false Value.bool f_ v1 H) {r : Int} (hF : slices_IndexFunc_Sint s f_ = some r) :
 C Tryz.prog 169 #[v0,v1] w fun v w'=>v = I r∧Star H w' []:=by
 unfold slices_IndexFunc_Sint at hF
 obtain ⟨fid_1,caps_1,rfl,hcall_1,hc_1⟩:=h1
 refine C_enter Tryz.func169 rfl Tryz.ntmps169 rfl (sq (aI rfl (nq (sq (mV v0 rfl (L_len rfl Tryz.underlying77 rfl (slice_len h0) (mI rfl (nn ?_))))))))
 have hlen2 : List.length s≤9223372036854775807:=len_le (slice_len h0)
 obtain ⟨j2,hL2,hF⟩:=bind_some hF
 obtain ⟨R2,hR2⟩:=exR fun f w_=>j2 = .nx ()∧Star H w_ ([])
 refine W_join R2 ?_ ?_
 refine W_block ?_
 obtain ⟨I2,hI2⟩:=exI fun n f w_=>∃ i_1 : Nat,∃ suf2 : List (List Int),n = suf2.length∧List.drop i_1 s = suf2∧i_1 + suf2.length = s.length∧rangeL (slices_IndexFunc_Sint_b1 f_) suf2 i_1 () = some j2∧f 0 = v0∧f 1 = .func (.func fid_1) #[] caps_1∧f 7 = I (s.length : Int)∧f 8 = I i_1∧Star H w_ ([])
 refine W_loop I2 (n:=s.length) ?_ ?_
 exact ij hI2 ⟨0,s,rfl,rfl,Nat.zero_add _,hL2,rfl,rfl,rfl,rfl,Z⟩
 intro n2 f w_ hI
 obtain ⟨i_1,suf2,rfl,hd2,hl2,hL2,sf0,sf1,sf7,sf8,Z⟩:=ik hI2 hI
 refine sq (L_lss rfl sf8 sf7 (nq (W_cond (b:=decide ((i_1 : Int) < (s.length : Int))) rfl (fun hc3=>?_) (fun hc3=>?_))))
 have hlt2:=of_decide_eq_true hc3
 rcases suf2 with _ | ⟨x_2,rest2⟩
 exact absurd hlt2 (by simp at hl2; omega)
 obtain ⟨o2,hB2,hL2⟩:=range_cons hL2
 rw [slices_IndexFunc_Sint_b1] at hB2
 have hix2:=drop_idx hd2
 refine W_skip (W_seq (W_block (sq (mF sf8 rfl (aI rfl (nq ?_))))))
 obtain ⟨x8,hx8,hB2⟩:=bind_some hB2
 refine W_region (mF sf1 rfl (mF sf0 rfl (mI rfl (L_ix (r:=(rS 3 RP.int)) rfl Tryz.underlying77 Tryz.sizeOf23 rfl h0 rfl hix2 (fun g15 o16 cs_g15 hrk_hat17 hat17=>?_)))))
 obtain ⟨u18,rfl,hu18⟩:=slice1 hrk_hat17
 refine L_ld rfl Tryz.isAgg23 rfl (At.cell (AtH.at hat17 Z.sub) (j:=0) rfl) ?_
 obtain ⟨H19b,l20,s21,z22,k23⟩:=Z.borrow
 refine L_callv (args:=#[u18]) rfl hcall_1 rfl (ops1 rfl) (hc_1 _ _ l20 s21 [u18] _ _ _ (RP.mono _ hu18 l20) hx8 (args_app rfl)) ?_
 rintro _ w24 ⟨rfl,Z⟩
 have Z:=k23 Z c0
 refine nn (W_cond (b:=x8) rfl (fun hc25=>?_) (fun hc25=>?_))
 have hB2:=(ite_t hc25).symm.trans hB2
 refine sq (mI rfl (aI rfl (nn (W_ret (retG1 (v1:=I i_1) Tryz.results169 rfl ?_)))))
 obtain rfl:=so hB2
 obtain rfl:=so hL2
 obtain rfl:=so hF
 exact ⟨rfl,Z⟩
 have hB2:=(ite_f hc25).symm.trans hB2
 refine W_skip (W_region (L_add rfl sf8 rfl (mI rfl (nn ?_))))
 obtain rfl:=so hB2
 show ∃ m,m < _∧I2 m _ _
 refine ⟨rest2.length,by simp,?_⟩
 exact ij hI2 ⟨i_1 + 1,rest2,rfl,drop_next hd2,by simp at hl2; omega,hL2,sf0,sf1,sf7,(Eq.trans rfl (congrArg (Value.int .i64) (i64_succ (n:=s.length) (by simp at hl2; omega) hlen2))),Z⟩
 rcases suf2 with _ | ⟨_,_⟩
 obtain rfl:=range_nil hL2
 refine W_exit (rj hR2 ⟨rfl,Z⟩)
 exact absurd (of_decide_eq_false hc3) (by simp at hl2; omega)
 intro f w_ hR
 obtain ⟨rfl,Z⟩:=rk hR2 hR
 refine sq (aI rfl (nn (W_ret (retG1 (v1:=I (-1)) Tryz.results169 rfl ?_))))
 obtain rfl:=so hF
 exact ⟨rfl,Z⟩
theorem slices_ContainsFunc_Sint_c {s : List (List Int)} {f_ : ((List Int)→Option Bool)} {v0 : Value} {v1 : Value} {H : FH} {w : World} (Z : Star H w []) (h0 : (rS 23 (rS 3 RP.int)).rel H [v0] s) (h1 : Fun1 Tryz.prog (rS 3 RP.int) false Value.bool f_ v1 H) {r : Bool} (hF : slices_ContainsFunc_Sint s f_ = some r) :
 C Tryz.prog 138 #[v0,v1] w fun v w'=>v = Bo r∧Star H w' []:=by
 unfold slices_ContainsFunc_Sint at hF
 obtain ⟨fid_1,caps_1,rfl,hcall_1,hc_1⟩:=h1
 refine C_enter Tryz.func138 rfl Tryz.ntmps138 rfl (sq (aB rfl (nq ?_)))
 obtain ⟨x6,hx6,hF⟩:=bind_some hF
 refine W_region (mV v0 rfl (mV (.func (.func fid_1) #[] caps_1) rfl ?_))
 obtain ⟨H8b,l9,s10,z11,k12⟩:=Z.borrow
 refine L_call rfl Tryz.call169 (ops2 rfl rfl) (slices_IndexFunc_Sint_c (s:=s) (f_:=f_) s10 (RP.mono _ h0 l9) (Fun1.le ⟨_,_,rfl,hcall_1,hc_1⟩ l9) hx6) ?_
 rintro _ w13 ⟨rfl,Z⟩
 have Z:=k12 Z c0
 refine L_geq rfl rfl rfl (aB rfl (nn (W_ret (retG1 (v1:=Bo (decide (x6 ≥ 0))) Tryz.results138 rfl ?_))))
 obtain rfl:=so hF
 exact ⟨rfl,Z⟩
theorem i_ruleValid_2_1_c {n_ : Int} {H : FH} {w : World} (Z : Star H w []) {r : Bool} (hF : i_ruleValid_2_1 n_ = some r) :
 C Tryz.prog 140 #[I n_] w fun v w'=>v = Bo r∧Star H w' []:=by
 unfold i_ruleValid_2_1 at hF
 refine C_enter Tryz.func140 rfl Tryz.ntmps140 rfl (sq (aB rfl (nq ?_)))
 obtain ⟨x6,hx6,hF⟩:=bind_some hF
 refine W_region (mI rfl ?_)
 obtain ⟨H8b,l9,s10,z11,k12⟩:=Z.borrow
 refine L_call rfl Tryz.call92 (ops3 rfl rfl rfl) (i_within_c (n_:=n_) (low:=0) (high:=3) s10 hx6) ?_
 rintro _ w13 ⟨rfl,Z⟩
 have Z:=k12 Z c0
 refine L_not_ rfl rfl (aB rfl (nn (W_ret (retG1 (v1:=Bo (!x6)) Tryz.results140 rfl ?_))))
 obtain rfl:=so hF
 exact ⟨rfl,Z⟩
theorem i_ruleValid_2_c {c1 : Rule} {row : List Int} {v0 : Value} {g_c1 : Nat} {v1_1 : Value} {v1_2 : Value} {v1_4 : Value} {H : FH} {w : World} (Z : Star H w []) (h0 : (rS 3 RP.int).rel H [v0] row) (hat_g_c1 : AtH H g_c1 0 [I c1.kind,v1_1,v1_2,I c1.bound,v1_4]) (h1_1 : (rS 3 RP.int).rel H [v1_1] c1.vars) (h1_2 : (rS 3 RP.int).rel H [v1_2] c1.coefs) (h1_4 : (rS 23 (rS 3 RP.int)).rel H [v1_4] c1.rows) {r : Bool} (hF : i_ruleValid_2 c1 row = some r) :
 C Tryz.prog 139 #[v0,Pt g_c1] w fun v w'=>v = Bo r∧Star H w' []:=by
 unfold i_ruleValid_2 at hF
 refine C_enter Tryz.func139 rfl Tryz.ntmps139 rfl (sq (aB rfl (nq ?_)))
 obtain ⟨b8,hb8,hF⟩:=bind_some hF
 obtain ⟨R9,hR9⟩:=exR fun f w_=>f 3 = Bo b8∧Star H w_ ([])
 refine W_join R9 ?_ ?_
 refine W_region (mV v0 rfl (L_len rfl Tryz.underlying23 rfl (slice_len h0) (fA 1 fa_79_1 rfl rfl (L_ld rfl Tryz.isAgg23 rfl (At.cell0 (AtH.at hat_g_c1 Z.sub) (j:=1) rfl) (L_len rfl Tryz.underlying23 rfl (slice_len h1_1) (L_neq rfl rfl rfl (mB rfl (L_split (d:=10) (b:=((row.length : Int) != (c1.vars.length : Int))) rfl (fun hc10=>?_) (fun hc10=>?_)))))))))
 rw [ite_t hc10] at hb8
 refine ps rfl (ps rfl (L_pick (v:=Bo b8) rfl rfl (congrArg Value.bool (so hb8)) (aB rfl (nn (rj hR9 ⟨rfl,Z⟩)))))
 rw [ite_f hc10] at hb8
 obtain ⟨x6,hx6,hb8⟩:=bind_some hb8
 refine mV v0 rfl ?_
 obtain ⟨H11b,l12,s13,z14,k15⟩:=Z.borrow
 have hf16 : Fun1 Tryz.prog RP.int false Value.bool i_ruleValid_2_1 (.func (.func 140) #[] #[]) H11b:=by
   refine ⟨_,_,rfl,Tryz.call140,fun H_ w_ hE_ hs_ cs_ x_ y_ args_ hr_ hy_ ha_=>?_⟩
   obtain rfl : cs_ = [_]:=hr_
   obtain rfl:=args_of (b:=#[I x_]) ha_
   exact i_ruleValid_2_1_c (n_:=x_) hs_  hy_
 refine L_call rfl Tryz.call113 (ops2 rfl rfl) (slices_ContainsFunc_int_c (s:=row) (f_:=i_ruleValid_2_1) s13 (RP.mono _ h0 l12) hf16 hx6) ?_
 rintro _ w17 ⟨rfl,Z⟩
 have Z:=k15 Z c0
 refine L_pick (v:=Bo b8) rfl rfl (congrArg Value.bool (so hb8)) (aB rfl (nn (rj hR9 ⟨rfl,Z⟩)))
 intro f w_ hR
 obtain ⟨sf3,Z⟩:=rk hR9 hR
 refine W_ret (retG1 (v1:=Bo b8) Tryz.results139 sf3 ?_)
 obtain rfl:=so hF
 exact ⟨rfl,Z⟩
theorem i_ruleValid_c {r_ : Rule} {cells : Int} {v0_1 : Value} {v0_2 : Value} {v0_4 : Value} {H : FH} {w : World} (Z : Star H w []) (h0_1 : (rS 3 RP.int).rel H [v0_1] r_.vars) (h0_2 : (rS 3 RP.int).rel H [v0_2] r_.coefs) (h0_4 : (rS 23 (rS 3 RP.int)).rel H [v0_4] r_.rows) {r : Bool} (hF : i_ruleValid r_ cells = some r) :
 C Tryz.prog 95 #[.agg #[I r_.kind,v0_1,v0_2,I r_.bound,v0_4],I cells] w fun v w'=>v = Bo r∧Star H w' []:=by
 unfold i_ruleValid at hF
 refine C_enter Tryz.func95 rfl Tryz.ntmps95 rfl (sq (L_box (v:=.agg #[I r_.kind,v0_1,v0_2,I r_.bound,v0_4]) (cs:=#[I r_.kind,v0_1,v0_2,I r_.bound,v0_4]) rfl rfl rfl Z (fun g3 w4 Z=>aB rfl (nq (sq (fA 1 fa_79_1 rfl rfl (ldB 0 Z Tryz.isAgg23 rfl rfl rfl (L_len rfl Tryz.underlying23 rfl (slice_len h0_1) (mI rfl (nn ?_))))))))))
 have hlen6 : List.length r_.vars≤9223372036854775807:=len_le (slice_len h0_1)
 obtain ⟨j6,hL6,hF⟩:=bind_some hF
 obtain ⟨R6,hR6⟩:=exR fun f w_=>j6 = .nx ()∧f 2 = Pt g3∧Star H w_ ([box g3 79 #[I r_.kind,v0_1,v0_2,I r_.bound,v0_4]])
 refine W_join R6 ?_ ?_
 refine W_block ?_
 obtain ⟨I6,hI6⟩:=exI fun n f w_=>∃ i_5 : Nat,∃ suf6 : List Int,n = suf6.length∧List.drop i_5 r_.vars = suf6∧i_5 + suf6.length = r_.vars.length∧rangeL (i_ruleValid_b1 r_ cells) suf6 i_5 () = some j6∧f 1 = I cells∧f 2 = Pt g3∧f 8 = v0_1∧f 9 = I (r_.vars.length : Int)∧f 10 = I i_5∧Star H w_ ([box g3 79 #[I r_.kind,v0_1,v0_2,I r_.bound,v0_4]])
 refine W_loop I6 (n:=r_.vars.length) ?_ ?_
 exact ij hI6 ⟨0,r_.vars,rfl,rfl,Nat.zero_add _,hL6,rfl,rfl,rfl,rfl,rfl,Z⟩
 intro n6 f w_ hI
 obtain ⟨i_5,suf6,rfl,hd6,hl6,hL6,sf1,sf2,sf8,sf9,sf10,Z⟩:=ik hI6 hI
 refine sq (L_lss rfl sf10 sf9 (nq (W_cond (b:=decide ((i_5 : Int) < (r_.vars.length : Int))) rfl (fun hc7=>?_) (fun hc7=>?_))))
 have hlt6:=of_decide_eq_true hc7
 rcases suf6 with _ | ⟨x_6,rest6⟩
 exact absurd hlt6 (by simp at hl6; omega)
 obtain ⟨o6,hB6,hL6⟩:=range_cons hL6
 rw [i_ruleValid_b1] at hB6
 have hix6:=drop_idx hd6
 refine W_skip (W_seq (W_block (sq (mF sf10 rfl (L_ix (r:=RP.int) rfl Tryz.underlying23 Tryz.sizeOf3 sf8 h0_1 sf10 hix6 (fun g12 o13 cs_g12 hrk_hat14 hat14=>?_))))))
 obtain rfl : _ = [_]:=hrk_hat14
 refine L_ld rfl Tryz.isAgg3 rfl (At.cell (AtH.at hat14 Z.sub) (j:=0) rfl) (aI rfl (aI rfl (nq ?_)))
 obtain ⟨x21,hx21,hB6⟩:=bind_some hB6
 obtain ⟨b33,hb33,hB6⟩:=bind_some hB6
 obtain ⟨R34,hR34⟩:=exR fun f w_=>f 1 = I cells∧f 2 = Pt g3∧f 8 = v0_1∧f 9 = I (r_.vars.length : Int)∧f 10 = I i_5∧f 27 = Bo b33∧Star H w_ ([box g3 79 #[I r_.kind,v0_1,v0_2,I r_.bound,v0_4]])
 refine W_join R34 ?_ ?_
 refine W_region (mI rfl (mF sf1 rfl (L_sub rfl rfl rfl ?_)))
 obtain ⟨H35b,l36,s37,z38,k39⟩:=Z.borrow
 refine L_call rfl Tryz.call92 (ops3 rfl rfl rfl) (i_within_c (n_:=x_6) (low:=0) (high:=i64 (cells - 1)) s37 hx21) ?_
 rintro _ w40 ⟨rfl,Z⟩
 have Z:=k39 Z c0
 refine L_not_ rfl rfl (mB rfl (L_split (d:=20) (b:=(!x21)) rfl (fun hc41=>?_) (fun hc41=>?_)))
 rw [ite_t hc41] at hb33
 refine ps rfl (ps rfl (ps rfl (ps rfl (ps rfl (ps rfl (L_pick (v:=Bo b33) rfl rfl (congrArg Value.bool (so hb33)) (nn (rj hR34 ⟨sf1,sf2,sf8,sf9,sf10,rfl,Z⟩))))))))
 rw [ite_f hc41] at hb33
 obtain ⟨x23,hx23,hb33⟩:=bind_some hb33
 obtain ⟨x31,hx31,hb33⟩:=bind_some hb33
 refine fA 1 fa_79_1 sf2 rfl (ldB 0 Z Tryz.isAgg23 rfl rfl rfl (mI rfl (L_sl (a:=0) (b:=(i_5 : Int)) rfl et_23 rfl h0_1 rfl rfl hx23 (fun v42 hs43=>mI rfl ?_))))
 obtain ⟨H44b,l45,s46,z47,k48⟩:=Z.borrow
 refine L_call rfl Tryz.call97 (ops2 rfl rfl) (slices_Contains_int_c (s:=x23) (v_:=x_6) s46 (RP.mono _ hs43 l45) hx31) ?_
 rintro _ w49 ⟨rfl,Z⟩
 have Z:=k48 Z c0
 refine L_pick (v:=Bo b33) rfl rfl (congrArg Value.bool (so hb33)) (nn (rj hR34 ⟨sf1,sf2,sf8,sf9,sf10,rfl,Z⟩))
 intro f w_ hR
 obtain ⟨sf1,sf2,sf8,sf9,sf10,sf27,Z⟩:=rk hR34 hR
 refine W_cond (b:=b33) sf27 (fun hc50=>?_) (fun hc50=>?_)
 have hB6:=(ite_t hc50).symm.trans hB6
 refine sq (aB rfl (nn (W_ret (retG1 (v1:=Bo false) Tryz.results95 rfl ?_))))
 obtain rfl:=so hB6
 obtain rfl:=so hL6
 obtain rfl:=so hF
 exact ⟨rfl,(Star.keepN 0 Z)⟩
 have hB6:=(ite_f hc50).symm.trans hB6
 refine W_skip (W_region (L_add rfl sf10 rfl (mI rfl (nn ?_))))
 obtain rfl:=so hB6
 show ∃ m,m < _∧I6 m _ _
 refine ⟨rest6.length,by simp,?_⟩
 exact ij hI6 ⟨i_5 + 1,rest6,rfl,drop_next hd6,by simp at hl6; omega,hL6,sf1,sf2,sf8,sf9,(Eq.trans rfl (congrArg (Value.int .i64) (i64_succ (n:=r_.vars.length) (by simp at hl6; omega) hlen6))),Z⟩
 rcases suf6 with _ | ⟨_,_⟩
 obtain rfl:=range_nil hL6
 refine W_exit (rj hR6 ⟨rfl,sf2,Z⟩)
 exact absurd (of_decide_eq_false hc7) (by simp at hl6; omega)
 intro f w_ hR
 obtain ⟨rfl,sf2,Z⟩:=rk hR6 hR
 refine W_seq (W_seq ?_)
 obtain ⟨R51,hR51⟩:=exR fun f w_=>f 2 = Pt g3∧f 59 = Bo ((((r_.vars.length : Int) == 0) || ((r_.kind != 1) && ((decide ((r_.coefs.length : Int) > 0)) || (r_.bound != 0)))) || ((r_.kind != 3) && (decide ((r_.rows.length : Int) > 0))))∧Star H w_ ([box g3 79 #[I r_.kind,v0_1,v0_2,I r_.bound,v0_4]])
 refine W_join R51 ?_ ?_
 refine W_region (fA 1 fa_79_1 sf2 rfl (ldB 0 Z Tryz.isAgg23 rfl rfl rfl (L_len rfl Tryz.underlying23 rfl (slice_len h0_1) (L_eql rfl rfl rfl (mB rfl (L_split (d:=33) (b:=((r_.vars.length : Int) == 0)) rfl (fun hc52=>?_) (fun hc52=>?_)))))))
 refine ps rfl (ps rfl (ps rfl (ps rfl (ps rfl (ps rfl (ps rfl (ps rfl (ps rfl (ps rfl (ps rfl (ps rfl (ps rfl (ps rfl (L_pick (v:=Bo (((r_.vars.length : Int) == 0) || ((r_.kind != 1) && ((decide ((r_.coefs.length : Int) > 0)) || (r_.bound != 0))))) rfl rfl (or_t hc52) (mB rfl (L_split (d:=49) (b:=(((r_.vars.length : Int) == 0) || ((r_.kind != 1) && ((decide ((r_.coefs.length : Int) > 0)) || (r_.bound != 0))))) rfl (fun hc53=>?_) (fun hc53=>?_)))))))))))))))))
 refine ps rfl (ps rfl (ps rfl (ps rfl (ps rfl (ps rfl (ps rfl (ps rfl (ps rfl (L_pick (v:=Bo ((((r_.vars.length : Int) == 0) || ((r_.kind != 1) && ((decide ((r_.coefs.length : Int) > 0)) || (r_.bound != 0)))) || ((r_.kind != 3) && (decide ((r_.rows.length : Int) > 0))))) rfl rfl (or_t hc53) (nn (rj hR51 ⟨sf2,rfl,Z⟩)))))))))))
 refine fA 0 fa_79_0 sf2 rfl (ldB 0 Z Tryz.isAgg3 rfl rfl rfl (L_neq rfl rfl rfl (mB rfl (L_split (d:=53) (b:=(r_.kind != 3)) rfl (fun hc54=>?_) (fun hc54=>?_)))))
 refine fA 4 fa_79_4 sf2 rfl (ldB 0 Z Tryz.isAgg77 rfl rfl rfl (L_len rfl Tryz.underlying77 rfl (slice_len h0_4) (L_gtr rfl rfl rfl (L_pick (v:=Bo ((r_.kind != 3) && (decide ((r_.rows.length : Int) > 0)))) rfl rfl (and_t hc54 rfl) (L_pick (v:=Bo ((((r_.vars.length : Int) == 0) || ((r_.kind != 1) && ((decide ((r_.coefs.length : Int) > 0)) || (r_.bound != 0)))) || ((r_.kind != 3) && (decide ((r_.rows.length : Int) > 0))))) rfl rfl (or_f hc53 rfl) (nn (rj hR51 ⟨sf2,rfl,Z⟩)))))))
 refine ps rfl (ps rfl (ps rfl (ps rfl (L_pick (v:=Bo ((r_.kind != 3) && (decide ((r_.rows.length : Int) > 0)))) rfl rfl (and_f hc54) (L_pick (v:=Bo ((((r_.vars.length : Int) == 0) || ((r_.kind != 1) && ((decide ((r_.coefs.length : Int) > 0)) || (r_.bound != 0)))) || ((r_.kind != 3) && (decide ((r_.rows.length : Int) > 0))))) rfl rfl (or_f hc53 rfl) (nn (rj hR51 ⟨sf2,rfl,Z⟩)))))))
 refine fA 0 fa_79_0 sf2 rfl (ldB 0 Z Tryz.isAgg3 rfl rfl rfl (L_neq rfl rfl rfl (mB rfl (L_split (d:=37) (b:=(r_.kind != 1)) rfl (fun hc55=>?_) (fun hc55=>?_)))))
 refine fA 2 fa_79_2 sf2 rfl (ldB 0 Z Tryz.isAgg23 rfl rfl rfl (L_len rfl Tryz.underlying23 rfl (slice_len h0_2) (L_gtr rfl rfl rfl (mB rfl (L_split (d:=42) (b:=decide ((r_.coefs.length : Int) > 0)) rfl (fun hc56=>?_) (fun hc56=>?_))))))
 refine ps rfl (ps rfl (ps rfl (L_pick (v:=Bo ((decide ((r_.coefs.length : Int) > 0)) || (r_.bound != 0))) rfl rfl (or_t hc56) (L_pick (v:=Bo ((r_.kind != 1) && ((decide ((r_.coefs.length : Int) > 0)) || (r_.bound != 0)))) rfl rfl (and_t hc55 rfl) (L_pick (v:=Bo (((r_.vars.length : Int) == 0) || ((r_.kind != 1) && ((decide ((r_.coefs.length : Int) > 0)) || (r_.bound != 0))))) rfl rfl (or_f hc52 rfl) (mB rfl (L_split (d:=49) (b:=(((r_.vars.length : Int) == 0) || ((r_.kind != 1) && ((decide ((r_.coefs.length : Int) > 0)) || (r_.bound != 0))))) rfl (fun hc57=>?_) (fun hc57=>?_))))))))
 refine ps rfl (ps rfl (ps rfl (ps rfl (ps rfl (ps rfl (ps rfl (ps rfl (ps rfl (L_pick (v:=Bo ((((r_.vars.length : Int) == 0) || ((r_.kind != 1) && ((decide ((r_.coefs.length : Int) > 0)) || (r_.bound != 0)))) || ((r_.kind != 3) && (decide ((r_.rows.length : Int) > 0))))) rfl rfl (or_t hc57) (nn (rj hR51 ⟨sf2,rfl,Z⟩)))))))))))
 refine fA 0 fa_79_0 sf2 rfl (ldB 0 Z Tryz.isAgg3 rfl rfl rfl (L_neq rfl rfl rfl (mB rfl (L_split (d:=53) (b:=(r_.kind != 3)) rfl (fun hc58=>?_) (fun hc58=>?_)))))
 refine fA 4 fa_79_4 sf2 rfl (ldB 0 Z Tryz.isAgg77 rfl rfl rfl (L_len rfl Tryz.underlying77 rfl (slice_len h0_4) (L_gtr rfl rfl rfl (L_pick (v:=Bo ((r_.kind != 3) && (decide ((r_.rows.length : Int) > 0)))) rfl rfl (and_t hc58 rfl) (L_pick (v:=Bo ((((r_.vars.length : Int) == 0) || ((r_.kind != 1) && ((decide ((r_.coefs.length : Int) > 0)) || (r_.bound != 0)))) || ((r_.kind != 3) && (decide ((r_.rows.length : Int) > 0))))) rfl rfl (or_f hc57 rfl) (nn (rj hR51 ⟨sf2,rfl,Z⟩)))))))
 refine ps rfl (ps rfl (ps rfl (ps rfl (L_pick (v:=Bo ((r_.kind != 3) && (decide ((r_.rows.length : Int) > 0)))) rfl rfl (and_f hc58) (L_pick (v:=Bo ((((r_.vars.length : Int) == 0) || ((r_.kind != 1) && ((decide ((r_.coefs.length : Int) > 0)) || (r_.bound != 0)))) || ((r_.kind != 3) && (decide ((r_.rows.length : Int) > 0))))) rfl rfl (or_f hc57 rfl) (nn (rj hR51 ⟨sf2,rfl,Z⟩)))))))
 refine fA 3 fa_79_3 sf2 rfl (ldB 0 Z Tryz.isAgg3 rfl rfl rfl (L_neq rfl rfl rfl (L_pick (v:=Bo ((decide ((r_.coefs.length : Int) > 0)) || (r_.bound != 0))) rfl rfl (or_f hc56 rfl) (L_pick (v:=Bo ((r_.kind != 1) && ((decide ((r_.coefs.length : Int) > 0)) || (r_.bound != 0)))) rfl rfl (and_t hc55 rfl) (L_pick (v:=Bo (((r_.vars.length : Int) == 0) || ((r_.kind != 1) && ((decide ((r_.coefs.length : Int) > 0)) || (r_.bound != 0))))) rfl rfl (or_f hc52 rfl) (mB rfl (L_split (d:=49) (b:=(((r_.vars.length : Int) == 0) || ((r_.kind != 1) && ((decide ((r_.coefs.length : Int) > 0)) || (r_.bound != 0))))) rfl (fun hc59=>?_) (fun hc59=>?_))))))))
 refine ps rfl (ps rfl (ps rfl (ps rfl (ps rfl (ps rfl (ps rfl (ps rfl (ps rfl (L_pick (v:=Bo ((((r_.vars.length : Int) == 0) || ((r_.kind != 1) && ((decide ((r_.coefs.length : Int) > 0)) || (r_.bound != 0)))) || ((r_.kind != 3) && (decide ((r_.rows.length : Int) > 0))))) rfl rfl (or_t hc59) (nn (rj hR51 ⟨sf2,rfl,Z⟩)))))))))))
 refine fA 0 fa_79_0 sf2 rfl (ldB 0 Z Tryz.isAgg3 rfl rfl rfl (L_neq rfl rfl rfl (mB rfl (L_split (d:=53) (b:=(r_.kind != 3)) rfl (fun hc60=>?_) (fun hc60=>?_)))))
 refine fA 4 fa_79_4 sf2 rfl (ldB 0 Z Tryz.isAgg77 rfl rfl rfl (L_len rfl Tryz.underlying77 rfl (slice_len h0_4) (L_gtr rfl rfl rfl (L_pick (v:=Bo ((r_.kind != 3) && (decide ((r_.rows.length : Int) > 0)))) rfl rfl (and_t hc60 rfl) (L_pick (v:=Bo ((((r_.vars.length : Int) == 0) || ((r_.kind != 1) && ((decide ((r_.coefs.length : Int) > 0)) || (r_.bound != 0)))) || ((r_.kind != 3) && (decide ((r_.rows.length : Int) > 0))))) rfl rfl (or_f hc59 rfl) (nn (rj hR51 ⟨sf2,rfl,Z⟩)))))))
 refine ps rfl (ps rfl (ps rfl (ps rfl (L_pick (v:=Bo ((r_.kind != 3) && (decide ((r_.rows.length : Int) > 0)))) rfl rfl (and_f hc60) (L_pick (v:=Bo ((((r_.vars.length : Int) == 0) || ((r_.kind != 1) && ((decide ((r_.coefs.length : Int) > 0)) || (r_.bound != 0)))) || ((r_.kind != 3) && (decide ((r_.rows.length : Int) > 0))))) rfl rfl (or_f hc59 rfl) (nn (rj hR51 ⟨sf2,rfl,Z⟩)))))))
 refine ps rfl (ps rfl (ps rfl (ps rfl (ps rfl (ps rfl (ps rfl (ps rfl (ps rfl (L_pick (v:=Bo ((r_.kind != 1) && ((decide ((r_.coefs.length : Int) > 0)) || (r_.bound != 0)))) rfl rfl (and_f hc55) (L_pick (v:=Bo (((r_.vars.length : Int) == 0) || ((r_.kind != 1) && ((decide ((r_.coefs.length : Int) > 0)) || (r_.bound != 0))))) rfl rfl (or_f hc52 rfl) (mB rfl (L_split (d:=49) (b:=(((r_.vars.length : Int) == 0) || ((r_.kind != 1) && ((decide ((r_.coefs.length : Int) > 0)) || (r_.bound != 0))))) rfl (fun hc61=>?_) (fun hc61=>?_)))))))))))))
 refine ps rfl (ps rfl (ps rfl (ps rfl (ps rfl (ps rfl (ps rfl (ps rfl (ps rfl (L_pick (v:=Bo ((((r_.vars.length : Int) == 0) || ((r_.kind != 1) && ((decide ((r_.coefs.length : Int) > 0)) || (r_.bound != 0)))) || ((r_.kind != 3) && (decide ((r_.rows.length : Int) > 0))))) rfl rfl (or_t hc61) (nn (rj hR51 ⟨sf2,rfl,Z⟩)))))))))))
 refine fA 0 fa_79_0 sf2 rfl (ldB 0 Z Tryz.isAgg3 rfl rfl rfl (L_neq rfl rfl rfl (mB rfl (L_split (d:=53) (b:=(r_.kind != 3)) rfl (fun hc62=>?_) (fun hc62=>?_)))))
 refine fA 4 fa_79_4 sf2 rfl (ldB 0 Z Tryz.isAgg77 rfl rfl rfl (L_len rfl Tryz.underlying77 rfl (slice_len h0_4) (L_gtr rfl rfl rfl (L_pick (v:=Bo ((r_.kind != 3) && (decide ((r_.rows.length : Int) > 0)))) rfl rfl (and_t hc62 rfl) (L_pick (v:=Bo ((((r_.vars.length : Int) == 0) || ((r_.kind != 1) && ((decide ((r_.coefs.length : Int) > 0)) || (r_.bound != 0)))) || ((r_.kind != 3) && (decide ((r_.rows.length : Int) > 0))))) rfl rfl (or_f hc61 rfl) (nn (rj hR51 ⟨sf2,rfl,Z⟩)))))))
 refine ps rfl (ps rfl (ps rfl (ps rfl (L_pick (v:=Bo ((r_.kind != 3) && (decide ((r_.rows.length : Int) > 0)))) rfl rfl (and_f hc62) (L_pick (v:=Bo ((((r_.vars.length : Int) == 0) || ((r_.kind != 1) && ((decide ((r_.coefs.length : Int) > 0)) || (r_.bound != 0)))) || ((r_.kind != 3) && (decide ((r_.rows.length : Int) > 0))))) rfl rfl (or_f hc61 rfl) (nn (rj hR51 ⟨sf2,rfl,Z⟩)))))))
 intro f w_ hR
 obtain ⟨sf2,sf59,Z⟩:=rk hR51 hR
 refine W_cond (b:=((((r_.vars.length : Int) == 0) || ((r_.kind != 1) && ((decide ((r_.coefs.length : Int) > 0)) || (r_.bound != 0)))) || ((r_.kind != 3) && (decide ((r_.rows.length : Int) > 0))))) sf59 (fun hc63=>?_) (fun hc63=>?_)
 have hF:=(ite_t hc63).symm.trans hF
 refine sq (aB rfl (nn (W_ret (retG1 (v1:=Bo false) Tryz.results95 rfl ?_))))
 obtain rfl:=so hF
 exact ⟨rfl,(Star.keepN 0 Z)⟩
 have hF:=(ite_f hc63).symm.trans hF
 refine W_skip (W_seq (sq (fA 0 fa_79_0 sf2 rfl (ldB 0 Z Tryz.isAgg3 rfl rfl rfl (nn (W_block (sq (L_eql rfl rfl rfl (aB rfl (nn (W_cond (b:=(r_.kind == 1)) rfl (fun hc64=>?_) (fun hc64=>?_))))))))))))
 have hF:=(ite_t hc64).symm.trans hF
 refine W_seq ?_
 obtain ⟨b72,hb72,hF⟩:=bind_some hF
 obtain ⟨b80,hb80,hF⟩:=bind_some hF
 obtain ⟨R81,hR81⟩:=exR fun f w_=>f 4 = Bo b80∧Star H w_ ([])
 refine W_join R81 ?_ ?_
 refine W_region (fA 2 fa_79_2 sf2 rfl (ldB 0 Z Tryz.isAgg23 rfl rfl rfl (L_len rfl Tryz.underlying23 rfl (slice_len h0_2) (fA 1 fa_79_1 sf2 rfl (ldB 0 Z Tryz.isAgg23 rfl rfl rfl (L_len rfl Tryz.underlying23 rfl (slice_len h0_1) (L_eql rfl rfl rfl (mB rfl (L_split (d:=71) (b:=((r_.coefs.length : Int) == (r_.vars.length : Int))) rfl (fun hc82=>?_) (fun hc82=>?_))))))))))
 rw [ite_t hc82] at hb72
 obtain ⟨x70,hx70,hb72⟩:=bind_some hb72
 refine fA 3 fa_79_3 sf2 rfl (ldB 0 Z Tryz.isAgg3 rfl rfl rfl ?_)
 obtain ⟨H83b,l84,s85,z86,k87⟩:=Z.borrow
 refine L_call rfl Tryz.call92 (ops3 rfl rfl rfl) (i_within_c (n_:=r_.bound) (low:=(-1000)) (high:=1000) s85 hx70) ?_
 rintro _ w88 ⟨rfl,Z⟩
 have Z:=k87 Z c0
 refine L_pick (v:=Bo b72) rfl rfl (congrArg Value.bool (so hb72)) (mB rfl (L_split (d:=76) (b:=b72) rfl (fun hc89=>?_) (fun hc89=>?_)))
 rw [ite_t hc89] at hb80
 obtain ⟨x78,hx78,hb80⟩:=bind_some hb80
 refine fA 2 fa_79_2 sf2 rfl (ldB 0 Z Tryz.isAgg23 rfl rfl rfl ?_)
 obtain ⟨H90b,l91,s92,z93,k94⟩:=Z.borrow
 have hf95 : Fun1 Tryz.prog RP.int false Value.bool i_ruleValid_1 (.func (.func 137) #[] #[]) H90b:=by
   refine ⟨_,_,rfl,Tryz.call137,fun H_ w_ hE_ hs_ cs_ x_ y_ args_ hr_ hy_ ha_=>?_⟩
   obtain rfl : cs_ = [_]:=hr_
   obtain rfl:=args_of (b:=#[I x_]) ha_
   exact i_ruleValid_1_c (n_:=x_) hs_  hy_
 refine L_call rfl Tryz.call113 (ops2 rfl rfl) (slices_ContainsFunc_int_c (s:=r_.coefs) (f_:=i_ruleValid_1) s92 (RP.mono _ h0_2 l91) hf95 hx78) ?_
 rintro _ w96 ⟨rfl,Z⟩
 have Z:=k94 Z c0
 refine L_not_ rfl rfl (L_pick (v:=Bo b80) rfl rfl (congrArg Value.bool (so hb80)) (aB rfl (nn (rj hR81 ⟨rfl,(Star.keepN 0 Z)⟩))))
 rw [ite_f hc89] at hb80
 refine ps rfl (ps rfl (ps rfl (ps rfl (L_pick (v:=Bo b80) rfl rfl (congrArg Value.bool (so hb80)) (aB rfl (nn (rj hR81 ⟨rfl,(Star.keepN 0 Z)⟩)))))))
 rw [ite_f hc82] at hb72
 refine ps rfl (ps rfl (ps rfl (L_pick (v:=Bo b72) rfl rfl (congrArg Value.bool (so hb72)) (mB rfl (L_split (d:=76) (b:=b72) rfl (fun hc97=>?_) (fun hc97=>?_))))))
 rw [ite_t hc97] at hb80
 obtain ⟨x78,hx78,hb80⟩:=bind_some hb80
 refine fA 2 fa_79_2 sf2 rfl (ldB 0 Z Tryz.isAgg23 rfl rfl rfl ?_)
 obtain ⟨H98b,l99,s100,z101,k102⟩:=Z.borrow
 have hf103 : Fun1 Tryz.prog RP.int false Value.bool i_ruleValid_1 (.func (.func 137) #[] #[]) H98b:=by
   refine ⟨_,_,rfl,Tryz.call137,fun H_ w_ hE_ hs_ cs_ x_ y_ args_ hr_ hy_ ha_=>?_⟩
   obtain rfl : cs_ = [_]:=hr_
   obtain rfl:=args_of (b:=#[I x_]) ha_
   exact i_ruleValid_1_c (n_:=x_) hs_  hy_
 refine L_call rfl Tryz.call113 (ops2 rfl rfl) (slices_ContainsFunc_int_c (s:=r_.coefs) (f_:=i_ruleValid_1) s100 (RP.mono _ h0_2 l99) hf103 hx78) ?_
 rintro _ w104 ⟨rfl,Z⟩
 have Z:=k102 Z c0
 refine L_not_ rfl rfl (L_pick (v:=Bo b80) rfl rfl (congrArg Value.bool (so hb80)) (aB rfl (nn (rj hR81 ⟨rfl,(Star.keepN 0 Z)⟩))))
 rw [ite_f hc97] at hb80
 refine ps rfl (ps rfl (ps rfl (ps rfl (L_pick (v:=Bo b80) rfl rfl (congrArg Value.bool (so hb80)) (aB rfl (nn (rj hR81 ⟨rfl,(Star.keepN 0 Z)⟩)))))))
 intro f w_ hR
 obtain ⟨sf4,Z⟩:=rk hR81 hR
 refine W_ret (retG1 (v1:=Bo b80) Tryz.results95 sf4 ?_)
 obtain rfl:=so hF
 exact ⟨rfl,Z⟩
 have hF:=(ite_f hc64).symm.trans hF
 refine sq (L_eql rfl rfl rfl (aB rfl (nn (W_cond (b:=(r_.kind == 3)) rfl (fun hc105=>?_) (fun hc105=>?_)))))
 have hF:=(ite_t hc105).symm.trans hF
 refine W_seq ?_
 obtain ⟨b113,hb113,hF⟩:=bind_some hF
 obtain ⟨R114,hR114⟩:=exR fun f w_=>f 4 = Bo b113∧Star H w_ ([])
 refine W_join R114 ?_ ?_
 refine W_region (fA 4 fa_79_4 sf2 rfl (ldB 0 Z Tryz.isAgg77 rfl rfl rfl (L_len rfl Tryz.underlying77 rfl (slice_len h0_4) (L_leq rfl rfl rfl (mB rfl (L_split (d:=88) (b:=decide ((r_.rows.length : Int)≤8)) rfl (fun hc115=>?_) (fun hc115=>?_)))))))
 rw [ite_t hc115] at hb113
 obtain ⟨x111,hx111,hb113⟩:=bind_some hb113
 refine fA 4 fa_79_4 sf2 rfl (ldB 0 Z Tryz.isAgg77 rfl rfl rfl (L_mf rfl (ops1 sf2) ?_))
 obtain ⟨H116b,l117,s118,z119,k120⟩:=Z.borrow
 have hf121 : Fun1 Tryz.prog (rS 3 RP.int) false Value.bool (i_ruleValid_2 r_) (.func (.func 139) #[] #[Pt g3]) H116b:=by
   refine ⟨_,_,rfl,Tryz.call139,fun H_ w_ hE_ hs_ cs_ x_ y_ args_ hr_ hy_ ha_=>?_⟩
   obtain ⟨p_0,rfl,hp_0⟩:=slice1 hr_
   obtain rfl:=args_of (b:=#[p_0,Pt g3]) ha_
   exact i_ruleValid_2_c (c1:=r_) (row:=x_) hs_ hp_0 (AtH.le (AtH.of (fz_box 0 z119 rfl)) hE_) (RP.mono _ (RP.mono _ h0_1 l117) hE_) (RP.mono _ (RP.mono _ h0_2 l117) hE_) (RP.mono _ (RP.mono _ h0_4 l117) hE_) hy_
 refine L_call rfl Tryz.call138 (ops2 rfl rfl) (slices_ContainsFunc_Sint_c (s:=r_.rows) (f_:=(i_ruleValid_2 r_)) s118 (RP.mono _ h0_4 l117) hf121 hx111) ?_
 rintro _ w122 ⟨rfl,Z⟩
 have Z:=k120 Z c0
 refine L_not_ rfl rfl (L_pick (v:=Bo b113) rfl rfl (congrArg Value.bool (so hb113)) (aB rfl (nn (rj hR114 ⟨rfl,(Star.keepN 0 Z)⟩))))
 rw [ite_f hc115] at hb113
 refine ps rfl (ps rfl (ps rfl (ps rfl (ps rfl (L_pick (v:=Bo b113) rfl rfl (congrArg Value.bool (so hb113)) (aB rfl (nn (rj hR114 ⟨rfl,(Star.keepN 0 Z)⟩))))))))
 intro f w_ hR
 obtain ⟨sf4,Z⟩:=rk hR114 hR
 refine W_ret (retG1 (v1:=Bo b113) Tryz.results95 sf4 ?_)
 obtain rfl:=so hF
 exact ⟨rfl,Z⟩
 have hF:=(ite_f hc105).symm.trans hF
 refine sq (L_eql rfl rfl rfl (aB rfl (nn (W_cond (b:=(r_.kind == 4)) rfl (fun hc123=>?_) (fun hc123=>?_)))))
 have hF:=(ite_t hc123).symm.trans hF
 refine sq (fA 1 fa_79_1 sf2 rfl (ldB 0 Z Tryz.isAgg23 rfl rfl rfl (L_len rfl Tryz.underlying23 rfl (slice_len h0_1) (L_eql rfl rfl rfl (aB rfl (nn (W_ret (retG1 (v1:=Bo ((r_.vars.length : Int) == 2)) Tryz.results95 rfl ?_))))))))
 obtain rfl:=so hF
 exact ⟨rfl,(Star.keepN 0 Z)⟩
 have hF:=(ite_f hc123).symm.trans hF
 refine W_skip (sq (fA 0 fa_79_0 sf2 rfl (ldB 0 Z Tryz.isAgg3 rfl rfl rfl (L_eql rfl rfl rfl (aB rfl (nn (W_ret (retG1 (v1:=Bo (r_.kind == 2)) Tryz.results95 rfl ?_))))))))
 obtain rfl:=so hF
 exact ⟨rfl,(Star.keepN 0 Z)⟩
theorem i_ModelValid_1_c {c1 : Model} {r_ : Rule} {v0_1 : Value} {v0_2 : Value} {v0_4 : Value} {g_c1 : Nat} {v1_0 : Value} {v1_1 : Value} {H : FH} {w : World} (Z : Star H w []) (h0_1 : (rS 3 RP.int).rel H [v0_1] r_.vars) (h0_2 : (rS 3 RP.int).rel H [v0_2] r_.coefs) (h0_4 : (rS 23 (rS 3 RP.int)).rel H [v0_4] r_.rows) (hat_g_c1 : AtH H g_c1 0 [v1_0,v1_1]) (h1_0 : (rS 3 RP.int).rel H [v1_0] c1.sizes) (h1_1 : (rS 79 (rRule 3 23)).rel H [v1_1] c1.rules) {r : Bool} (hF : i_ModelValid_1 c1 r_ = some r) :
 C Tryz.prog 94 #[.agg #[I r_.kind,v0_1,v0_2,I r_.bound,v0_4],Pt g_c1] w fun v w'=>v = Bo r∧Star H w' []:=by
 unfold i_ModelValid_1 at hF
 refine C_enter Tryz.func94 rfl Tryz.ntmps94 rfl (sq (L_box (v:=.agg #[I r_.kind,v0_1,v0_2,I r_.bound,v0_4]) (cs:=#[I r_.kind,v0_1,v0_2,I r_.bound,v0_4]) rfl rfl rfl Z (fun g3 w4 Z=>aB rfl (nq ?_))))
 obtain ⟨x10,hx10,hF⟩:=bind_some hF
 refine W_region (L_lda (cs:=[I r_.kind,v0_1,v0_2,I r_.bound,v0_4]) rfl Tryz.isAgg79 Tryz.sizeOf79 rfl (At.sub0 (Blk.at (Star.blkAt 0 Z rfl)) 0 5) rfl (fA 0 fa_26_0 rfl rfl (L_ld rfl Tryz.isAgg23 rfl (At.cell0 (AtH.at hat_g_c1 Z.sub) (j:=0) rfl) (L_len rfl Tryz.underlying23 rfl (slice_len h1_0) ?_))))
 obtain ⟨H12b,l13,s14,z15,k16⟩:=Z.borrow
 refine L_call rfl Tryz.call95 (ops2 rfl rfl) (i_ruleValid_c (r_:=r_) (cells:=(c1.sizes.length : Int)) s14 (RP.mono _ h0_1 l13) (RP.mono _ h0_2 l13) (RP.mono _ h0_4 l13) hx10) ?_
 rintro _ w17 ⟨rfl,Z⟩
 have Z:=k16 Z c0
 refine L_not_ rfl rfl (aB rfl (nn (W_ret (retG1 (v1:=Bo (!x10)) Tryz.results94 rfl ?_))))
 obtain rfl:=so hF
 exact ⟨rfl,(Star.keepN 0 Z)⟩
theorem i_ModelValid_c {m : Model} {v0_0 : Value} {v0_1 : Value} {H : FH} {w : World} (Z : Star H w []) (h0_0 : (rS 3 RP.int).rel H [v0_0] m.sizes) (h0_1 : (rS 79 (rRule 3 23)).rel H [v0_1] m.rules) {r : Bool} (hF : i_ModelValid m = some r) :
 C Tryz.prog 46 #[.agg #[v0_0,v0_1]] w fun v w'=>v = Bo r∧Star H w' []:=by
 unfold i_ModelValid at hF
 refine C_enter Tryz.func46 rfl Tryz.ntmps46 rfl (sq (L_box (v:=.agg #[v0_0,v0_1]) (cs:=#[v0_0,v0_1]) rfl rfl rfl Z (fun g3 w4 Z=>aB rfl (nq (W_seq ?_)))))
 obtain ⟨x10,hx10,hF⟩:=bind_some hF
 obtain ⟨R12,hR12⟩:=exR fun f w_=>f 1 = Pt g3∧f 16 = Bo ((!x10) || (decide ((m.rules.length : Int) > 8)))∧Star H w_ ([box g3 26 #[v0_0,v0_1]])
 refine W_join R12 ?_ ?_
 refine W_region (fA 0 fa_26_0 rfl rfl (ldB 0 Z Tryz.isAgg23 rfl rfl rfl (L_len rfl Tryz.underlying23 rfl (slice_len h0_0) ?_)))
 obtain ⟨H13b,l14,s15,z16,k17⟩:=Z.borrow
 refine L_call rfl Tryz.call92 (ops3 rfl rfl rfl) (i_within_c (n_:=(m.sizes.length : Int)) (low:=1) (high:=5) s15 hx10) ?_
 rintro _ w18 ⟨rfl,Z⟩
 have Z:=k17 Z c0
 refine L_not_ rfl rfl (mB rfl (L_split (d:=11) (b:=(!x10)) rfl (fun hc19=>?_) (fun hc19=>?_)))
 refine ps rfl (ps rfl (ps rfl (ps rfl (L_pick (v:=Bo ((!x10) || (decide ((m.rules.length : Int) > 8)))) rfl rfl (or_t hc19) (nn (rj hR12 ⟨rfl,rfl,Z⟩))))))
 refine fA 1 fa_26_1 rfl rfl (ldB 0 Z Tryz.isAgg24 rfl rfl rfl (L_len rfl Tryz.underlying24 rfl (slice_len h0_1) (L_gtr rfl rfl rfl (L_pick (v:=Bo ((!x10) || (decide ((m.rules.length : Int) > 8)))) rfl rfl (or_f hc19 rfl) (nn (rj hR12 ⟨rfl,rfl,Z⟩))))))
 intro f w_ hR
 obtain ⟨sf1,sf16,Z⟩:=rk hR12 hR
 refine W_cond (b:=((!x10) || (decide ((m.rules.length : Int) > 8)))) sf16 (fun hc20=>?_) (fun hc20=>?_)
 have hF:=(ite_t hc20).symm.trans hF
 refine sq (aB rfl (nn (W_ret (retG1 (v1:=Bo false) Tryz.results46 rfl ?_))))
 obtain rfl:=so hF
 exact ⟨rfl,(Star.keepN 0 Z)⟩
 have hF:=(ite_f hc20).symm.trans hF
 refine W_skip (sq (aI rfl (nq (sq (fA 0 fa_26_0 sf1 rfl (ldB 0 Z Tryz.isAgg23 rfl rfl rfl (L_len rfl Tryz.underlying23 rfl (slice_len h0_0) (mI rfl (nn ?_)))))))))
 have hlen23 : List.length m.sizes≤9223372036854775807:=len_le (slice_len h0_0)
 obtain ⟨j23,hL23,hF⟩:=bind_some hF
 obtain ⟨R23,hR23⟩:=exR fun f w_=>∃ count_22 : Int,j23 = .nx count_22∧f 1 = Pt g3∧f 3 = I count_22∧Star H w_ ([box g3 26 #[v0_0,v0_1]])
 refine W_join R23 ?_ ?_
 refine W_block ?_
 obtain ⟨I23,hI23⟩:=exI fun n f w_=>∃ i_21 : Nat,∃ suf23 : List Int,∃ count_22 : Int,n = suf23.length∧List.drop i_21 m.sizes = suf23∧i_21 + suf23.length = m.sizes.length∧rangeL i_ModelValid_b1 suf23 i_21 count_22 = some j23∧f 1 = Pt g3∧f 3 = I count_22∧f 18 = v0_0∧f 19 = I (m.sizes.length : Int)∧f 20 = I i_21∧Star H w_ ([box g3 26 #[v0_0,v0_1]])
 refine W_loop I23 (n:=m.sizes.length) ?_ ?_
 exact ij hI23 ⟨0,m.sizes,0,rfl,rfl,Nat.zero_add _,hL23,sf1,rfl,rfl,rfl,rfl,Z⟩
 intro n23 f w_ hI
 obtain ⟨i_21,suf23,count_22,rfl,hd23,hl23,hL23,sf1,sf3,sf18,sf19,sf20,Z⟩:=ik hI23 hI
 refine sq (L_lss rfl sf20 sf19 (nq (W_cond (b:=decide ((i_21 : Int) < (m.sizes.length : Int))) rfl (fun hc24=>?_) (fun hc24=>?_))))
 have hlt23:=of_decide_eq_true hc24
 rcases suf23 with _ | ⟨x_23,rest23⟩
 exact absurd hlt23 (by simp at hl23; omega)
 obtain ⟨o23,hB23,hL23⟩:=range_cons hL23
 rw [i_ModelValid_b1] at hB23
 have hix23:=drop_idx hd23
 refine W_skip (W_seq (W_block (sq (L_ix (r:=RP.int) rfl Tryz.underlying23 Tryz.sizeOf3 sf18 h0_0 sf20 hix23 (fun g29 o30 cs_g29 hrk_hat31 hat31=>?_)))))
 obtain rfl : _ = [_]:=hrk_hat31
 refine L_ld rfl Tryz.isAgg3 rfl (At.cell (AtH.at hat31 Z.sub) (j:=0) rfl) (aI rfl (nq (W_seq ?_)))
 obtain ⟨x38,hx38,hB23⟩:=bind_some hB23
 refine W_region (mI rfl ?_)
 obtain ⟨H40b,l41,s42,z43,k44⟩:=Z.borrow
 refine L_call rfl Tryz.call92 (ops3 rfl rfl rfl) (i_within_c (n_:=x_23) (low:=0) (high:=3) s42 hx38) ?_
 rintro _ w45 ⟨rfl,Z⟩
 have Z:=k44 Z c0
 refine L_not_ rfl rfl (nn (W_cond (b:=(!x38)) rfl (fun hc46=>?_) (fun hc46=>?_)))
 have hB23:=(ite_t hc46).symm.trans hB23
 refine sq (aB rfl (nn (W_ret (retG1 (v1:=Bo false) Tryz.results46 rfl ?_))))
 obtain rfl:=so hB23
 obtain rfl:=so hL23
 obtain rfl:=so hF
 exact ⟨rfl,(Star.keepN 0 Z)⟩
 have hB23:=(ite_f hc46).symm.trans hB23
 refine W_skip (W_region (mF sf3 rfl (mI rfl (L_add rfl rfl rfl (L_add rfl rfl rfl (aI rfl (nn (W_region (L_add rfl sf20 rfl (mI rfl (nn ?_)))))))))))
 obtain rfl:=so hB23
 show ∃ m,m < _∧I23 m _ _
 refine ⟨rest23.length,by simp,?_⟩
 exact ij hI23 ⟨i_21 + 1,rest23,i64 (count_22 + (i64 (x_23 + 1))),rfl,drop_next hd23,by simp at hl23; omega,hL23,sf1,rfl,sf18,sf19,(Eq.trans rfl (congrArg (Value.int .i64) (i64_succ (n:=m.sizes.length) (by simp at hl23; omega) hlen23))),Z⟩
 rcases suf23 with _ | ⟨_,_⟩
 obtain rfl:=range_nil hL23
 refine W_exit (rj hR23 ⟨count_22,rfl,sf1,sf3,Z⟩)
 exact absurd (of_decide_eq_false hc24) (by simp at hl23; omega)
 intro f w_ hR
 obtain ⟨count_22,rfl,sf1,sf3,Z⟩:=rk hR23 hR
 refine W_seq ?_
 obtain ⟨b54,hb54,hF⟩:=bind_some hF
 obtain ⟨R55,hR55⟩:=exR fun f w_=>f 2 = Bo b54∧Star H w_ ([])
 refine W_join R55 ?_ ?_
 refine W_region (mF sf3 rfl (L_leq rfl rfl rfl (mB rfl (L_split (d:=34) (b:=decide (count_22≤12)) rfl (fun hc56=>?_) (fun hc56=>?_)))))
 rw [ite_t hc56] at hb54
 obtain ⟨x52,hx52,hb54⟩:=bind_some hb54
 refine fA 1 fa_26_1 sf1 rfl (ldB 0 Z Tryz.isAgg24 rfl rfl rfl (L_mf rfl (ops1 sf1) ?_))
 obtain ⟨H57b,l58,s59,z60,k61⟩:=Z.borrow
 have hf62 : Fun1 Tryz.prog (rRule 3 23) true Value.bool (i_ModelValid_1 m) (.func (.func 94) #[] #[Pt g3]) H57b:=by
   refine ⟨_,_,rfl,Tryz.call94,fun H_ w_ hE_ hs_ cs_ x_ y_ args_ hr_ hy_ ha_=>?_⟩
   obtain ⟨p_0,p_1,p_2,rfl,hp_0,hp_1,hp_2⟩:=rRule_iff.1 hr_
   obtain rfl:=args_of (b:=#[.agg #[I x_.kind,p_0,p_1,I x_.bound,p_2],Pt g3]) ha_
   exact i_ModelValid_1_c (c1:=m) (r_:=x_) hs_ hp_0 hp_1 hp_2 (AtH.le (AtH.of (fz_box 0 z60 rfl)) hE_) (RP.mono _ (RP.mono _ h0_0 l58) hE_) (RP.mono _ (RP.mono _ h0_1 l58) hE_) hy_
 refine L_call rfl Tryz.call93 (ops2 rfl rfl) (slices_ContainsFunc_implRule_c (s:=m.rules) (f_:=(i_ModelValid_1 m)) s59 (RP.mono _ h0_1 l58) hf62 hx52) ?_
 rintro _ w63 ⟨rfl,Z⟩
 have Z:=k61 Z c0
 refine L_not_ rfl rfl (L_pick (v:=Bo b54) rfl rfl (congrArg Value.bool (so hb54)) (aB rfl (nn (rj hR55 ⟨rfl,(Star.keepN 0 Z)⟩))))
 rw [ite_f hc56] at hb54
 refine ps rfl (ps rfl (ps rfl (ps rfl (ps rfl (L_pick (v:=Bo b54) rfl rfl (congrArg Value.bool (so hb54)) (aB rfl (nn (rj hR55 ⟨rfl,(Star.keepN 0 Z)⟩))))))))
 intro f w_ hR
 obtain ⟨sf2,Z⟩:=rk hR55 hR
 refine W_ret (retG1 (v1:=Bo b54) Tryz.results46 sf2 ?_)
 obtain rfl:=so hF
 exact ⟨rfl,Z⟩
theorem i_Model_boolVar_c {m : Model} {cell : Int} {value : Int} {v0_0 : Value} {v0_1 : Value} {H : FH} {w : World} (Z : Star H w []) (h0_0 : (rS 3 RP.int).rel H [v0_0] m.sizes) (h0_1 : (rS 79 (rRule 3 23)).rel H [v0_1] m.rules) {r : Int} (hF : i_Model_boolVar m cell value = some r) :
 C Tryz.prog 63 #[.agg #[v0_0,v0_1],I cell,I value] w fun v w'=>v = I r∧Star H w' []:=by
 unfold i_Model_boolVar at hF
 refine C_enter Tryz.func63 rfl Tryz.ntmps63 rfl (sq (L_box (v:=.agg #[v0_0,v0_1]) (cs:=#[v0_0,v0_1]) rfl rfl rfl Z (fun g3 w4 Z=>aI rfl (ns (mI rfl (L_add rfl rfl rfl (aI rfl (nq (W_seq ?_)))))))))
 obtain ⟨x5,hx5,hF⟩:=bind_some hF
 refine W_region (fA 0 fa_26_0 rfl rfl (ldB 0 Z Tryz.isAgg23 rfl rfl rfl (mI rfl (L_sl (a:=0) (b:=cell) rfl et_23 rfl h0_0 rfl rfl hx5 (fun v8 hs9=>L_len rfl Tryz.underlying23 rfl (slice_len hs9) (mI rfl (nn ?_)))))))
 have hlen12 : List.length x5≤9223372036854775807:=len_le (slice_len hs9)
 obtain ⟨j12,hL12,hF⟩:=bind_some hF
 obtain ⟨R12,hR12⟩:=exR fun f w_=>∃ v_11 : Int,j12 = .nx v_11∧f 7 = I v_11∧Star H w_ ([])
 refine W_join R12 ?_ ?_
 refine W_block ?_
 obtain ⟨I12,hI12⟩:=exI fun n f w_=>∃ i_10 : Nat,∃ suf12 : List Int,∃ v_11 : Int,n = suf12.length∧List.drop i_10 x5 = suf12∧i_10 + suf12.length = x5.length∧rangeL i_Model_boolVar_b1 suf12 i_10 v_11 = some j12∧f 7 = I v_11∧f 15 = v8∧f 16 = I (x5.length : Int)∧f 17 = I i_10∧Star H w_ ([])
 refine W_loop I12 (n:=x5.length) ?_ ?_
 exact ij hI12 ⟨0,x5,i64 (1 + value),rfl,rfl,Nat.zero_add _,hL12,rfl,rfl,rfl,rfl,(Star.keepN 0 Z)⟩
 intro n12 f w_ hI
 obtain ⟨i_10,suf12,v_11,rfl,hd12,hl12,hL12,sf7,sf15,sf16,sf17,Z⟩:=ik hI12 hI
 refine sq (L_lss rfl sf17 sf16 (nq (W_cond (b:=decide ((i_10 : Int) < (x5.length : Int))) rfl (fun hc13=>?_) (fun hc13=>?_))))
 have hlt12:=of_decide_eq_true hc13
 rcases suf12 with _ | ⟨x_12,rest12⟩
 exact absurd hlt12 (by simp at hl12; omega)
 obtain ⟨o12,hB12,hL12⟩:=range_cons hL12
 rw [i_Model_boolVar_b1] at hB12
 have hix12:=drop_idx hd12
 refine W_skip (W_seq (W_block (sq (L_ix (r:=RP.int) rfl Tryz.underlying23 Tryz.sizeOf3 sf15 hs9 sf17 hix12 (fun g18 o19 cs_g18 hrk_hat20 hat20=>?_)))))
 obtain rfl : _ = [_]:=hrk_hat20
 refine L_ld rfl Tryz.isAgg3 rfl (At.cell (AtH.at hat20 Z.sub) (j:=0) rfl) (aI rfl (nn (W_region (mF sf7 rfl (mI rfl (L_add rfl rfl rfl (L_add rfl rfl rfl (aI rfl (nn (W_region (L_add rfl sf17 rfl (mI rfl (nn ?_)))))))))))))
 obtain rfl:=so hB12
 show ∃ m,m < _∧I12 m _ _
 refine ⟨rest12.length,by simp,?_⟩
 exact ij hI12 ⟨i_10 + 1,rest12,i64 (v_11 + (i64 (x_12 + 1))),rfl,drop_next hd12,by simp at hl12; omega,hL12,rfl,sf15,sf16,(Eq.trans rfl (congrArg (Value.int .i64) (i64_succ (n:=x5.length) (by simp at hl12; omega) hlen12))),Z⟩
 rcases suf12 with _ | ⟨_,_⟩
 obtain rfl:=range_nil hL12
 refine W_exit (rj hR12 ⟨v_11,rfl,sf7,Z⟩)
 exact absurd (of_decide_eq_false hc13) (by simp at hl12; omega)
 intro f w_ hR
 obtain ⟨v_11,rfl,sf7,Z⟩:=rk hR12 hR
 refine sq (mF sf7 rfl (aI rfl (nn (W_ret (retG1 (v1:=I v_11) Tryz.results63 rfl ?_)))))
 obtain rfl:=so hF
 exact ⟨rfl,Z⟩
theorem i_Model_varsOf_c {m : Model} {cell : Int} {v0_0 : Value} {v0_1 : Value} {H : FH} {w : World} (Z : Star H w []) (h0_0 : (rS 3 RP.int).rel H [v0_0] m.sizes) (h0_1 : (rS 79 (rRule 3 23)).rel H [v0_1] m.rules) {r : List Int} (hF : i_Model_varsOf m cell = some r) :
 C Tryz.prog 47 #[.agg #[v0_0,v0_1],I cell] w fun v w'=>∃ (u1 : Value),v = u1∧Star H w' [oF 3 RP.int u1 r]:=by
 unfold i_Model_varsOf at hF
 refine C_enter Tryz.func47 rfl Tryz.ntmps47 rfl (sq (L_box (v:=.agg #[v0_0,v0_1]) (cs:=#[v0_0,v0_1]) rfl rfl rfl Z (fun g3 w4 Z=>aV S0 rfl (ns (aV S0 rfl (nq (W_seq ?_)))))))
 obtain ⟨x5,hx5,hF⟩:=bind_some hF
 refine W_region (fA 0 fa_26_0 rfl rfl (ldB 0 Z Tryz.isAgg23 rfl rfl rfl (mI rfl (L_ix (r:=RP.int) rfl Tryz.underlying23 Tryz.sizeOf3 rfl h0_0 rfl hx5 (fun g10 o11 cs_g10 hrk_hat12 hat12=>?_)))))
 obtain rfl : _ = [_]:=hrk_hat12
 refine L_ld rfl Tryz.isAgg3 rfl (At.cell (AtH.at hat12 Z.sub) (j:=0) rfl) (L_add rfl rfl rfl (mI rfl (nn ?_)))
 obtain ⟨k18,hk18,hF⟩:=bind_some hF
 obtain ⟨j17,hL17,hF⟩:=bind_some hF
 obtain ⟨R17,hR17⟩:=exR fun f w_=>∃ out_15 : List Int,∃ v15_out : Value,j17 = .nx out_15∧f 5 = v15_out∧Star H w_ ([oF 3 RP.int v15_out out_15])
 refine W_join R17 ?_ ?_
 refine W_block ?_
 obtain ⟨I17,hI17⟩:=exI fun n f w_=>∃ i_14 : Nat,∃ suf17 : Nat,∃ out_15 : List Int,∃ v15_out : Value,suf17 = n∧0≤i_14∧i_14 + suf17 = 0 + k18∧countL (i_Model_varsOf_b1 m cell) suf17 i_14 out_15 = some j17∧f 1 = I cell∧f 2 = Pt g3∧f 5 = v15_out∧f 12 = I (i64 (x5 + 1))∧f 13 = I i_14∧Star H w_ ([oF 3 RP.int v15_out out_15,box g3 26 #[v0_0,v0_1]])
 have Z:=Star.addNil (R:=(OR.frz RP.int)) (e:=3) Z
 refine W_loop I17 (n:=k18) ?_ ?_
 exact ij hI17 ⟨0,k18,[],S0,rfl,Nat.le_refl _,rfl,hL17,rfl,rfl,rfl,rfl,rfl,Z⟩
 intro n17 f w_ hI
 obtain ⟨i_14,suf17,out_15,v15_out,rfl,hs17,hl17,hL17,sf1,sf2,sf5,sf12,sf13,Z⟩:=ik hI17 hI
 refine sq (L_lss rfl sf13 sf12 (nq (W_cond (b:=decide ((i_14 : Int) < (i64 (x5 + 1)))) rfl (fun hc20=>?_) (fun hc20=>?_))))
 have hlt17:=of_decide_eq_true hc20
 rcases suf17 with _ | rest17
 exact absurd hlt17 (cntF_no hl17 hk18)
 obtain ⟨o17,hB17,hL17⟩:=count_succ hL17
 rw [i_Model_varsOf_b1] at hB17
 refine W_skip (W_seq (W_block (sq (mF sf13 rfl (aI rfl (nn ?_))))))
 obtain ⟨x26,hx26,hB17⟩:=bind_some hB17
 obtain ⟨x31,hx31,hB17⟩:=bind_some hB17
 refine W_region (mF sf5 rfl (L_lda (cs:=[v0_0,v0_1]) rfl Tryz.isAgg26 Tryz.sizeOf26 sf2 (At.sub0 (Blk.at (Star.blkAt 1 Z rfl)) 0 2) rfl (mF sf1 rfl (mI rfl ?_))))
 obtain ⟨H35b,l36,s37,z38,k39⟩:=Z.borrow
 refine L_call rfl Tryz.call63 (ops3 rfl rfl rfl) (i_Model_boolVar_c (m:=m) (cell:=cell) (value:=(i_14 : Int)) s37 (RP.mono _ h0_0 l36) (RP.mono _ h0_1 l36) hx26) ?_
 rintro _ w40 ⟨rfl,Z⟩
 have Z:=k39 Z c0
 refine L_bs rfl (parts1 rfl) (bs_23_1_0 (I x26) rfl) Z (fun g41 w42 Z=>?_)
 have Z:=Star.addF (r:=RP.int) (cs:=[I x26]) (x:=x26) Z rfl
 have Z:=Star.mkRow (R:=(OR.frz RP.int)) [([I x26],x26)] [x26] 1 Z rfl rfl rfl (by decide)
 have Z:=Z.get 1 rfl
 refine L_appM (v:=v15_out) (u:=(Sl g41 1 1)) rfl et_23 rfl rfl Z hx31 (fun v44 w45 Z=>aV v44 rfl (nn (W_region (L_add rfl sf13 rfl (mI rfl (nn ?_))))))
 obtain rfl:=so hB17
 show ∃ m,m < _∧I17 m _ _
 refine ⟨rest17,Nat.lt_succ_self _,?_⟩
 exact ij hI17 ⟨i_14 + 1,rest17,x31,v44,rfl,by omega,by omega,hL17,sf1,sf2,rfl,sf12,(Eq.trans rfl (congrArg (Value.int .i64) (i64_succ (n:=0 + k18) (by omega) (cntF_le hk18)))),Z⟩
 rcases suf17 with _ | _
 obtain rfl:=count_zero hL17
 refine W_exit (rj hR17 ⟨out_15,v15_out,rfl,sf5,(Star.keepN 1 Z)⟩)
 exact absurd (cntF_yes hs17 hl17 hk18) (of_decide_eq_false hc20)
 intro f w_ hR
 obtain ⟨out_15,v15_out,rfl,sf5,Z⟩:=rk hR17 hR
 refine sq (mF sf5 rfl (aV v15_out rfl (nn (W_ret (retG1 (v1:=v15_out) Tryz.results47 rfl ?_)))))
 obtain rfl:=so hF
 exact ⟨v15_out,rfl,Z⟩
theorem slices_Clone_int_c {s : List Int} {v0 : Value} {H : FH} {w : World} (Z : Star H w []) (h0 : (rS 3 RP.int).rel H [v0] s) {r : List Int} (hF : slices_Clone_int s = some r) :
 C Tryz.prog 62 #[v0] w fun v w'=>∃ (u1 : Value),v = u1∧Star H w' [oF 3 RP.int u1 r]:=by
 unfold slices_Clone_int at hF
 refine C_enter Tryz.func62 rfl Tryz.ntmps62 rfl (sq (aV S0 rfl (nq (sq (mV v0 rfl ?_)))))
 obtain ⟨a1,cap1,hsl1,_,_⟩:=(slice_len h0)
 refine L_nileq (a:=a1) rfl Tryz.underlying23 (Eq.trans rfl hsl1) rfl ?_
 rw [← hsl1]
 refine nn ?_
 rcases Bool.eq_false_or_eq_true (isNilS v0) with hn2 | hn2
 refine W_cond (b:=true) (Eq.trans rfl (congrArg Value.bool hn2)) (fun _=>?_) (fun h=>nomatch h)
 obtain rfl:=nil_of h0 hn2
 refine sq (aV S0 rfl (nn (W_ret (retG1 (v1:=S0) Tryz.results62 rfl ?_))))
 simp [app] at hF
 subst hF
 have Z:=Star.addNil (R:=(OR.frz RP.int)) (e:=3) Z
 exact ⟨S0,rfl,Z⟩
 refine W_cond (b:=false) (Eq.trans rfl (congrArg Value.bool hn2)) (fun h=>nomatch h) (fun _=>?_)
 refine W_skip (W_seq ?_)
 obtain ⟨x7,hx7,hF⟩:=bind_some hF
 refine W_region (L_bs rfl parts0 (bs_23_0  ) Z (fun g11 w12 Z=>?_))
 have Z:=Star.mkRow (R:=(OR.frz RP.int)) [] [] 0 Z rfl rfl rfl (by decide)
 refine mV v0 rfl (L_app (v:=(Sl g11 0 0)) (u:=v0) rfl et_23 rfl rfl Z h0 hx7 (fun v14 w15 Z=>aV v14 rfl (nn (W_ret (retG1 (v1:=v14) Tryz.results62 rfl ?_)))))
 obtain rfl:=so hF
 exact ⟨v14,rfl,Z⟩
theorem i_isLiteral_c {l : Int} {H : FH} {w : World} (Z : Star H w []) {r : Bool} (hF : i_isLiteral l = some r) :
 C Tryz.prog 96 #[I l] w fun v w'=>v = Bo r∧Star H w' []:=by
 unfold i_isLiteral at hF
 refine C_enter Tryz.func96 rfl Tryz.ntmps96 rfl (sq (aB rfl (nq ?_)))
 obtain ⟨b8,hb8,hF⟩:=bind_some hF
 obtain ⟨R9,hR9⟩:=exR fun f w_=>f 2 = Bo b8∧Star H w_ ([])
 refine W_join R9 ?_ ?_
 refine W_region (mI rfl (L_neq rfl rfl rfl (mB rfl (L_split (d:=5) (b:=(l != 0)) rfl (fun hc10=>?_) (fun hc10=>?_)))))
 rw [ite_t hc10] at hb8
 obtain ⟨x6,hx6,hb8⟩:=bind_some hb8
 refine mI rfl ?_
 obtain ⟨H11b,l12,s13,z14,k15⟩:=Z.borrow
 refine L_call rfl Tryz.call92 (ops3 rfl rfl rfl) (i_within_c (n_:=l) (low:=(-12)) (high:=12) s13 hx6) ?_
 rintro _ w16 ⟨rfl,Z⟩
 have Z:=k15 Z c0
 refine L_pick (v:=Bo b8) rfl rfl (congrArg Value.bool (so hb8)) (aB rfl (nn (rj hR9 ⟨rfl,Z⟩)))
 rw [ite_f hc10] at hb8
 refine ps rfl (ps rfl (L_pick (v:=Bo b8) rfl rfl (congrArg Value.bool (so hb8)) (aB rfl (nn (rj hR9 ⟨rfl,Z⟩)))))
 intro f w_ hR
 obtain ⟨sf2,Z⟩:=rk hR9 hR
 refine W_ret (retG1 (v1:=Bo b8) Tryz.results96 sf2 ?_)
 obtain rfl:=so hF
 exact ⟨rfl,Z⟩
theorem slices_insertionSortCmpFunc_int_c {fu : Nat} {data : List Int} {a : Int} {b : Int} {cmp : (Int→Int→Option Int)} {v0 : Value} {v3 : Value} {H : FH} {w : World} (Z : Star H w [oF 3 RP.int v0 data]) (h3 : Fun2 Tryz.prog RP.int RP.int false (Value.int .i64) cmp v3 H) {r : List Int} (hF : slices_insertionSortCmpFunc_int fu data a b cmp = some r) :
 C Tryz.prog 170 #[v0,I a,I b,v3] w fun v w'=>v = .tuple #[]∧Star H w' [oF 3 RP.int v0 r]:=by
 unfold slices_insertionSortCmpFunc_int at hF
 obtain ⟨fid_3,caps_3,rfl,hcall_3,hc_3⟩:=h3
 refine C_enter Tryz.func170 rfl Tryz.ntmps170 rfl (sq (mI rfl (L_add rfl rfl rfl (aI rfl (nn ?_)))))
 obtain ⟨j6,hL6,hF⟩:=bind_some hF
 obtain ⟨R6,hR6⟩:=exR fun f w_=>∃ data_2 : List Int,∃ i_3 : Int,∃ H4 : FH,j6 = .nx (data_2,i_3)∧Le H H4∧Star H4 w_ ([oF 3 RP.int v0 data_2])
 refine W_join R6 ?_ ?_
 refine W_block ?_
 obtain ⟨I6,hI6⟩:=exI fun n f w_=>∃ data_2 : List Int,∃ i_3 : Int,∃ H4 : FH,whileL (slices_insertionSortCmpFunc_int_b1 fu a b cmp) n (data_2,i_3) = some j6∧Le H H4∧f 0 = v0∧f 1 = I a∧f 2 = I b∧f 3 = .func (.func fid_3) #[] caps_3∧f 8 = I i_3∧Star H4 w_ ([oF 3 RP.int v0 data_2])
 refine W_loop I6 (n:=fu) ?_ ?_
 exact ij hI6 ⟨data,i64 (a + 1),H,hL6,(Le.refl _),rfl,rfl,rfl,rfl,rfl,Z⟩
 intro n6 f w_ hI
 obtain ⟨data_2,i_3,H4,hL6,l5,sf0,sf1,sf2,sf3,sf8,Z⟩:=ik hI6 hI
 rcases n6 with _ | n6
 exact (while_zero hL6).elim
 obtain ⟨o6,hB6,hL6⟩:=while_succ hL6
 rw [slices_insertionSortCmpFunc_int_b1] at hB6
 refine W_seq (sq (mF sf8 rfl (mF sf2 rfl (L_lss rfl rfl rfl (nn (W_cond (b:=decide (i_3 < b)) rfl (fun hc7=>?_) (fun hc7=>?_)))))))
 have hB6:=(ite_t hc7).symm.trans hB6
 refine W_skip (W_seq (W_block (sq (mF sf8 rfl (aI rfl (nn ?_))))))
 obtain ⟨j13,hL13,hB6⟩:=bind_some hB6
 obtain ⟨R13,hR13⟩:=exR fun f w_=>∃ data_9 : List Int,∃ j_10 : Int,∃ H11 : FH,j13 = .nx (data_9,j_10)∧Le H4 H11∧f 0 = v0∧f 1 = I a∧f 2 = I b∧f 3 = .func (.func fid_3) #[] caps_3∧f 8 = I i_3∧Star H11 w_ ([oF 3 RP.int v0 data_9])
 refine W_join R13 ?_ ?_
 refine W_block ?_
 obtain ⟨I13,hI13⟩:=exI fun n f w_=>∃ data_9 : List Int,∃ j_10 : Int,∃ H11 : FH,whileL (slices_insertionSortCmpFunc_int_b2 a cmp) n (data_9,j_10) = some j13∧Le H4 H11∧f 0 = v0∧f 1 = I a∧f 2 = I b∧f 3 = .func (.func fid_3) #[] caps_3∧f 8 = I i_3∧f 9 = I j_10∧Star H11 w_ ([oF 3 RP.int v0 data_9])
 refine W_loop I13 (n:=fu) ?_ ?_
 exact ij hI13 ⟨data_2,i_3,H4,hL13,(Le.refl _),sf0,sf1,sf2,sf3,sf8,rfl,Z⟩
 intro n13 f w_ hI
 obtain ⟨data_9,j_10,H11,hL13,l12,sf0,sf1,sf2,sf3,sf8,sf9,Z⟩:=ik hI13 hI
 rcases n13 with _ | n13
 exact (while_zero hL13).elim
 obtain ⟨o13,hB13,hL13⟩:=while_succ hL13
 rw [slices_insertionSortCmpFunc_int_b2] at hB13
 refine W_seq (W_seq ?_)
 obtain ⟨b29,hb29,hB13⟩:=bind_some hB13
 obtain ⟨R33,hR33⟩:=exR fun f w_=>∃ H31 : FH,Le H11 H31∧f 0 = v0∧f 1 = I a∧f 2 = I b∧f 3 = .func (.func fid_3) #[] caps_3∧f 8 = I i_3∧f 9 = I j_10∧f 34 = Bo b29∧Star H31 w_ ([oF 3 RP.int v0 data_9])
 refine W_join R33 ?_ ?_
 rcases Bool.eq_false_or_eq_true (decide (j_10 > a)) with hc34 | hc34
 rw [ite_t hc34] at hb29
 obtain ⟨x14,hx14,hb29⟩:=bind_some hb29
 obtain ⟨x19,hx19,hb29⟩:=bind_some hb29
 obtain ⟨x22,hx22,hb29⟩:=bind_some hb29
 obtain ⟨g35,cap_g35,hv36,_,_⟩:=Star.row 0 Z rfl hx14
 refine W_drawS 14 [isV (I j_10),isV (I a),isV (Bo (decide (j_10 > a))),isV (Bo (decide (j_10 > a))),isV (.func (.func fid_3) #[] caps_3),isV (v0),isV (I j_10),isV (.pointer (some ⟨g35,Int.toNat j_10 * 1,none⟩)),isV (I x14),isV (v0),isV (I j_10),isV (I (i64 (j_10 - 1))),isV (.pointer (some ⟨g35,Int.toNat (i64 (j_10 - 1)) * 1,none⟩)),isV (I x19)] [oF 3 RP.int v0 data_9] [] ([]) [([],[]),([],[]),([],[]),([],[]),([],[]),([],[]),([],[]),([],[]),([],[]),([],[]),([],[]),([],[]),([],[]),([],[])] (S:=[]) Tryz_mix (by kernel_rfl) rfl (by kernel_rfl) (amF_cons (mono_V _) (amF_cons (mono_V _) (amF_cons (mono_V _) (amF_cons (mono_V _) (amF_cons (mono_V _) (amF_cons (mono_V _) (amF_cons (mono_V _) (amF_cons (mono_V _) (amF_cons (mono_V _) (amF_cons (mono_V _) (amF_cons (mono_V _) (amF_cons (mono_V _) (amF_cons (mono_V _) (amF_cons (mono_V _) amF_nil)))))))))))))) Z ?_ (fun f w_ H30 hS30 hE30 hT30 Z=>?_)
 refine opsS_cons (fun f w_ _ _ s _ _ Z=>mF ((s 9 rfl).trans sf9) rfl (nO rfl rfl Z)) (opsS_cons (fun f w_ _ _ s _ _ Z=>mF ((s 1 rfl).trans sf1) rfl (nO rfl rfl Z)) (opsS_cons (fun f w_ _ _ _ _ p Z=>L_gtr rfl (p 0 18 rfl rfl) (p 1 19 rfl rfl) (nO rfl rfl Z)) (opsS_cons (fun f w_ _ _ _ _ p Z=>mF (p 2 20 rfl rfl) rfl (nO rfl rfl Z)) (opsS_cons (fun f w_ _ _ s _ p Z=>L_mv (v:=.func (.func fid_3) #[] caps_3) (g_yes rfl (Eq.trans (p 3 21 rfl rfl) (congrArg Value.bool hc34)) rfl) ((s 3 rfl).trans sf3) (nO rfl rfl Z)) (opsS_cons (fun f w_ _ _ s _ p Z=>L_mv (v:=v0) (g_yes rfl (Eq.trans (p 3 21 rfl rfl) (congrArg Value.bool hc34)) rfl) ((s 0 rfl).trans sf0) (nO rfl rfl Z)) (opsS_cons (fun f w_ _ _ s _ p Z=>L_mv (v:=I j_10) (g_yes rfl (Eq.trans (p 3 21 rfl rfl) (congrArg Value.bool hc34)) rfl) ((s 9 rfl).trans sf9) (nO rfl rfl Z)) (opsS_cons (fun f w_ _ _ _ _ p Z=>L_ixO (R:=(OR.frz RP.int)) (tb:=0) 0 (g_yes rfl (Eq.trans (p 3 21 rfl rfl) (congrArg Value.bool hc34)) rfl) Tryz.underlying23 Tryz.sizeOf3 (p 5 23 rfl rfl) hv36 (by first | rfl | simp) (p 6 24 rfl rfl) hx14 (nO rfl rfl Z)) (opsS_cons ?_ ?_))))))))
 intro f w_ H30 X30 hS30 hE30 hP30 Z
 obtain ⟨cs41,hr41,hat41⟩:=Star.eltF 0 Z rfl hv36 hx14
 obtain rfl : _ = [_]:=hr41
 refine L_ld (v:=I x14) (g_yes rfl (Eq.trans (hP30 3 21 rfl rfl) (congrArg Value.bool hc34)) rfl) Tryz.isAgg3 (hP30 7 25 rfl rfl) (At.cell hat41 (j:=0) rfl) (L_nil ⟨rfl,_,_,rfl,Le.refl _,fun _ _=>rfl,Z⟩)
 refine opsS_cons (fun f w_ _ _ s _ p Z=>L_mv (v:=v0) (g_yes rfl (Eq.trans (p 3 21 rfl rfl) (congrArg Value.bool hc34)) rfl) ((s 0 rfl).trans sf0) (nO rfl rfl Z)) (opsS_cons (fun f w_ _ _ s _ p Z=>L_mv (v:=I j_10) (g_yes rfl (Eq.trans (p 3 21 rfl rfl) (congrArg Value.bool hc34)) rfl) ((s 9 rfl).trans sf9) (nO rfl rfl Z)) (opsS_cons (fun f w_ _ _ _ _ p Z=>L_sub (g_yes rfl (Eq.trans (p 3 21 rfl rfl) (congrArg Value.bool hc34)) rfl) (p 10 28 rfl rfl) rfl (nO rfl rfl Z)) (opsS_cons (fun f w_ _ _ _ _ p Z=>L_ixO (R:=(OR.frz RP.int)) (tb:=0) 0 (g_yes rfl (Eq.trans (p 3 21 rfl rfl) (congrArg Value.bool hc34)) rfl) Tryz.underlying23 Tryz.sizeOf3 (p 9 27 rfl rfl) hv36 (by first | rfl | simp) (p 11 29 rfl rfl) hx19 (nO rfl rfl Z)) (opsS_cons ?_ ?_))))
 intro f w_ H30 X30 hS30 hE30 hP30 Z
 obtain ⟨cs43,hr43,hat43⟩:=Star.eltF 0 Z rfl hv36 hx19
 obtain rfl : _ = [_]:=hr43
 refine L_ld (v:=I x19) (g_yes rfl (Eq.trans (hP30 3 21 rfl rfl) (congrArg Value.bool hc34)) rfl) Tryz.isAgg3 (hP30 12 30 rfl rfl) (At.cell hat43 (j:=0) rfl) (L_nil ⟨rfl,_,_,rfl,Le.refl _,fun _ _=>rfl,Z⟩)
 exact opsS_nil
 obtain ⟨H45b,l46,s47,z48,k49⟩:=Z.borrow
 refine L_callv (args:=#[I x14,I x19]) (g_yes rfl (Eq.trans (hT30 3 21 rfl rfl) (congrArg Value.bool hc34)) rfl) hcall_3 (hT30 4 22 rfl rfl) (ops2 (hT30 8 26 rfl rfl) (hT30 13 31 rfl rfl)) (hc_3 _ _ (Le.trans (Le.trans (Le.trans l5 l12) hE30) l46) s47 [I x14] [I x19] _ _ _ _ rfl rfl hx22 (args_app rfl)) ?_
 rintro _ w50 ⟨rfl,Z⟩
 have Z:=k49 Z c0
 refine L_lss (g_yes rfl (Eq.trans (hT30 3 21 rfl rfl) (congrArg Value.bool hc34)) rfl) rfl rfl (L_pick (v:=Bo b29) rfl (Eq.trans (hT30 3 21 rfl rfl) (congrArg Value.bool hc34)) (congrArg Value.bool (so hb29)) (nn (rj hR33 ⟨H30,hE30,((hS30 0 rfl).trans sf0),((hS30 1 rfl).trans sf1),((hS30 2 rfl).trans sf2),((hS30 3 rfl).trans sf3),((hS30 8 rfl).trans sf8),((hS30 9 rfl).trans sf9),rfl,Z⟩)))
 rw [ite_f hc34] at hb29
 refine W_drawS 14 [isV (I j_10),isV (I a),isV (Bo (decide (j_10 > a))),isV (Bo (decide (j_10 > a))),isV (undef),isV (undef),isV (undef),isV (undef),isV (undef),isV (undef),isV (undef),isV (undef),isV (undef),isV (undef)] [oF 3 RP.int v0 data_9] [] ([]) [([],[]),([],[]),([],[]),([],[]),([],[]),([],[]),([],[]),([],[]),([],[]),([],[]),([],[]),([],[]),([],[]),([],[])] (S:=[]) Tryz_mix (by kernel_rfl) rfl (by kernel_rfl) (amF_cons (mono_V _) (amF_cons (mono_V _) (amF_cons (mono_V _) (amF_cons (mono_V _) (amF_cons (mono_V _) (amF_cons (mono_V _) (amF_cons (mono_V _) (amF_cons (mono_V _) (amF_cons (mono_V _) (amF_cons (mono_V _) (amF_cons (mono_V _) (amF_cons (mono_V _) (amF_cons (mono_V _) (amF_cons (mono_V _) amF_nil)))))))))))))) Z ?_ (fun f w_ H30 hS30 hE30 hT30 Z=>?_)
 refine opsS_cons (fun f w_ _ _ s _ _ Z=>mF ((s 9 rfl).trans sf9) rfl (nO rfl rfl Z)) (opsS_cons (fun f w_ _ _ s _ _ Z=>mF ((s 1 rfl).trans sf1) rfl (nO rfl rfl Z)) (opsS_cons (fun f w_ _ _ _ _ p Z=>L_gtr rfl (p 0 18 rfl rfl) (p 1 19 rfl rfl) (nO rfl rfl Z)) (opsS_cons (fun f w_ _ _ _ _ p Z=>mF (p 2 20 rfl rfl) rfl (nO rfl rfl Z)) (oP (fun _ _ p=>gN (p 3 21 rfl rfl) hc34 rfl) (fun _=>rfl) (oP (fun _ _ p=>gN (p 3 21 rfl rfl) hc34 rfl) (fun _=>rfl) (oP (fun _ _ p=>gN (p 3 21 rfl rfl) hc34 rfl) (fun _=>rfl) (oP (fun _ _ p=>gN (p 3 21 rfl rfl) hc34 rfl) (fun _=>rfl) (oP (fun _ _ p=>gN (p 3 21 rfl rfl) hc34 rfl) (fun _=>rfl) (oP (fun _ _ p=>gN (p 3 21 rfl rfl) hc34 rfl) (fun _=>rfl) (oP (fun _ _ p=>gN (p 3 21 rfl rfl) hc34 rfl) (fun _=>rfl) (oP (fun _ _ p=>gN (p 3 21 rfl rfl) hc34 rfl) (fun _=>rfl) (oP (fun _ _ p=>gN (p 3 21 rfl rfl) hc34 rfl) (fun _=>rfl) (oP (fun _ _ p=>gN (p 3 21 rfl rfl) hc34 rfl) (fun _=>rfl) (opsS_nil))))))))))))))
 refine ps (g_no rfl (Eq.trans (hT30 3 21 rfl rfl) (congrArg Value.bool hc34)) rfl rfl) (ps (g_no rfl (Eq.trans (hT30 3 21 rfl rfl) (congrArg Value.bool hc34)) rfl rfl) (L_pick (v:=Bo b29) rfl (Eq.trans (hT30 3 21 rfl rfl) (congrArg Value.bool hc34)) (congrArg Value.bool (so hb29)) (nn (rj hR33 ⟨H30,hE30,((hS30 0 rfl).trans sf0),((hS30 1 rfl).trans sf1),((hS30 2 rfl).trans sf2),((hS30 3 rfl).trans sf3),((hS30 8 rfl).trans sf8),((hS30 9 rfl).trans sf9),rfl,Z⟩))))
 intro f w_ hR
 obtain ⟨H31,l32,sf0,sf1,sf2,sf3,sf8,sf9,sf34,Z⟩:=rk hR33 hR
 refine W_cond (b:=b29) sf34 (fun hc51=>?_) (fun hc51=>?_)
 have hB13:=(ite_t hc51).symm.trans hB13
 refine W_skip (W_seq (W_block ?_))
 obtain ⟨x52,hx52,hB13⟩:=bind_some hB13
 obtain ⟨x57,hx57,hB13⟩:=bind_some hB13
 obtain ⟨x61,hx61,hB13⟩:=bind_some hB13
 obtain ⟨g64,cap_g64,hv65,_,_⟩:=Star.row 0 Z rfl hx52
 refine W_drawS 16 [isV (v0),isV (I j_10),isV (v0),isV (I j_10),isV (I (i64 (j_10 - 1))),isV (v0),isV (I j_10),isV (I (i64 (j_10 - 1))),isV (.pointer (some ⟨g64,Int.toNat (i64 (j_10 - 1)) * 1,none⟩)),isV (I x52),isV (v0),isV (I j_10),isV (.pointer (some ⟨g64,Int.toNat j_10 * 1,none⟩)),isV (I x57),isV (.pointer (some ⟨g64,Int.toNat j_10 * 1,none⟩)),anyF] [] [.base (oF 3 RP.int v0 data_9) (some 15),.madeN 15 [] (fun vs_=>oF 3 RP.int v0 (data_9.set (Int.toNat j_10) x52)) none] ([]) [([],[]),([],[]),([],[]),([],[]),([],[]),([],[]),([],[]),([],[]),([0],[0]),([0],[0]),([],[]),([],[]),([0],[0]),([0],[0]),([0],[0]),([0],[1])] (S:=[(none,[],some 15),(some 15,[],none)]) Tryz_mix (by kernel_rfl) rfl (by kernel_rfl) (amF_cons (mono_V _) (amF_cons (mono_V _) (amF_cons (mono_V _) (amF_cons (mono_V _) (amF_cons (mono_V _) (amF_cons (mono_V _) (amF_cons (mono_V _) (amF_cons (mono_V _) (amF_cons (mono_V _) (amF_cons (mono_V _) (amF_cons (mono_V _) (amF_cons (mono_V _) (amF_cons (mono_V _) (amF_cons (mono_V _) (amF_cons (mono_V _) (amF_cons (mono_any) amF_nil)))))))))))))))) Z ?_ (fun f w_ H63 hS63 hE63 hT63 Z=>?_)
 refine opsS_cons (fun f w_ _ _ s _ _ Z=>mF ((s 0 rfl).trans sf0) rfl (nO rfl rfl Z)) (opsS_cons (fun f w_ _ _ s _ _ Z=>mF ((s 9 rfl).trans sf9) rfl (nO rfl rfl Z)) (opsS_cons (fun f w_ _ _ s _ _ Z=>mF ((s 0 rfl).trans sf0) rfl (nO rfl rfl Z)) (opsS_cons (fun f w_ _ _ s _ _ Z=>mF ((s 9 rfl).trans sf9) rfl (nO rfl rfl Z)) (opsS_cons (fun f w_ _ _ _ _ p Z=>L_sub rfl (p 3 40 rfl rfl) rfl (nO rfl rfl Z)) (opsS_cons (fun f w_ _ _ s _ _ Z=>mF ((s 0 rfl).trans sf0) rfl (nO rfl rfl Z)) (opsS_cons (fun f w_ _ _ s _ _ Z=>mF ((s 9 rfl).trans sf9) rfl (nO rfl rfl Z)) (opsS_cons (fun f w_ _ _ _ _ p Z=>L_sub rfl (p 6 43 rfl rfl) rfl (nO rfl rfl Z)) (opsS_cons ?_ ?_))))))))
 intro f w_ H63 X63 hS63 hE63 hP63 Z
 have Z : Star H63 w_ (oF 3 RP.int v0 data_9 :: X63):=Z
 refine L_ixO (R:=(OR.frz RP.int)) (tb:=0) 0 rfl Tryz.underlying23 Tryz.sizeOf3 (hP63 5 42 rfl rfl) hv65 (by first | rfl | simp) (hP63 7 44 rfl rfl) hx52 (L_nil ⟨rfl,_,_,rfl,Le.refl _,fun _ _=>rfl,Z⟩)
 refine opsS_cons ?_ ?_
 intro f w_ H63 X63 hS63 hE63 hP63 Z
 have Z : Star H63 w_ (oF 3 RP.int v0 data_9 :: X63):=Z
 obtain ⟨cs71,hr71,hat71⟩:=Star.eltF 0 Z rfl hv65 hx52
 obtain rfl : _ = [_]:=hr71
 refine L_ld rfl Tryz.isAgg3 (hP63 8 45 rfl rfl) (At.cell hat71 (j:=0) rfl) (L_nil ⟨rfl,_,_,rfl,Le.refl _,fun _ _=>rfl,Z⟩)
 refine opsS_cons (fun f w_ _ _ s _ _ Z=>mF ((s 0 rfl).trans sf0) rfl (nO rfl rfl Z)) (opsS_cons (fun f w_ _ _ s _ _ Z=>mF ((s 9 rfl).trans sf9) rfl (nO rfl rfl Z)) (opsS_cons ?_ ?_))
 intro f w_ H63 X63 hS63 hE63 hP63 Z
 have Z : Star H63 w_ (oF 3 RP.int v0 data_9 :: X63):=Z
 refine L_ixO (R:=(OR.frz RP.int)) (tb:=0) 0 rfl Tryz.underlying23 Tryz.sizeOf3 (hP63 10 47 rfl rfl) hv65 (by first | rfl | simp) (hP63 11 48 rfl rfl) hx57 (L_nil ⟨rfl,_,_,rfl,Le.refl _,fun _ _=>rfl,Z⟩)
 refine opsS_cons ?_ ?_
 intro f w_ H63 X63 hS63 hE63 hP63 Z
 have Z : Star H63 w_ (oF 3 RP.int v0 data_9 :: X63):=Z
 obtain ⟨cs73,hr73,hat73⟩:=Star.eltF 0 Z rfl hv65 hx57
 obtain rfl : _ = [_]:=hr73
 refine L_ld rfl Tryz.isAgg3 (hP63 12 49 rfl rfl) (At.cell hat73 (j:=0) rfl) (L_nil ⟨rfl,_,_,rfl,Le.refl _,fun _ _=>rfl,Z⟩)
 refine opsS_cons ?_ ?_
 intro f w_ H63 X63 hS63 hE63 hP63 Z
 have Z : Star H63 w_ (oF 3 RP.int v0 data_9 :: X63):=Z
 refine L_ixO (R:=(OR.frz RP.int)) (tb:=0) 0 rfl Tryz.underlying23 Tryz.sizeOf3 (hP63 0 37 rfl rfl) hv65 (by first | rfl | simp) (hP63 1 38 rfl rfl) hx57 (L_nil ⟨rfl,_,_,rfl,Le.refl _,fun _ _=>rfl,Z⟩)
 refine opsS_cons ?_ ?_
 intro f w_ H63 X63 hS63 hE63 hP63 Z
 have Z : Star H63 w_ (oF 3 RP.int v0 data_9 :: X63):=Z
 have Z:=Star.addF (r:=RP.int) (cs:=[I x52]) (x:=x52) Z rfl
 refine L_stE1 (u:=I x52) rfl Tryz.sizeOf3 rfl (hP63 14 51 rfl rfl) (hP63 9 46 rfl rfl) hv65 Z hx57 (fun w75 Z=>?_)
 exact L_nil ⟨rfl,Bo false,_,rfl,Le.refl _,(fun _ h=>nomatch h),Z⟩
 exact opsS_nil
 have Z : Star H63 w_ ([oF 3 RP.int v0 (data_9.set (Int.toNat j_10) x52)]):=Z
 refine L_ixO (R:=(OR.frz RP.int)) (tb:=0) 0 rfl Tryz.underlying23 Tryz.sizeOf3 (hT63 2 39 rfl rfl) hv65 (by first | rfl | simp) (hT63 4 41 rfl rfl) hx61 ?_
 have Z:=Star.addF (r:=RP.int) (cs:=[I x57]) (x:=x57) Z rfl
 refine L_stE1 (u:=I x57) rfl Tryz.sizeOf3 rfl rfl (hT63 13 50 rfl rfl) hv65 Z hx61 (fun w76 Z=>?_)
 refine nn (W_region (mF ((hS63 9 rfl).trans sf9) rfl (L_sub rfl rfl rfl (aI rfl (nn ?_)))))
 obtain rfl:=so hB13
 show ∃ m,m < _∧I13 m _ _
 refine ⟨n13,Nat.lt_succ_self _,?_⟩
 exact ij hI13 ⟨((data_9.set (Int.toNat j_10) x52).set (Int.toNat (i64 (j_10 - 1))) x57),i64 (j_10 - 1),H63,hL13,(Le.trans (Le.trans l12 l32) hE63),((hS63 0 rfl).trans sf0),((hS63 1 rfl).trans sf1),((hS63 2 rfl).trans sf2),((hS63 3 rfl).trans sf3),((hS63 8 rfl).trans sf8),rfl,Z⟩
 have hB13:=(ite_f hc51).symm.trans hB13
 refine W_exit ?_
 obtain rfl:=so hB13
 obtain rfl:=so hL13
 exact rj hR13 ⟨data_9,j_10,H31,rfl,(Le.trans l12 l32),sf0,sf1,sf2,sf3,sf8,Z⟩
 intro f w_ hR
 obtain ⟨data_9,j_10,H11,rfl,l12,sf0,sf1,sf2,sf3,sf8,Z⟩:=rk hR13 hR
 refine W_region (mF sf8 rfl (L_add rfl rfl rfl (aI rfl (nn ?_))))
 obtain rfl:=so hB6
 show ∃ m,m < _∧I6 m _ _
 refine ⟨n6,Nat.lt_succ_self _,?_⟩
 exact ij hI6 ⟨data_9,i64 (i_3 + 1),H11,hL6,(Le.trans l5 l12),sf0,sf1,sf2,sf3,rfl,Z⟩
 have hB6:=(ite_f hc7).symm.trans hB6
 refine W_exit ?_
 obtain rfl:=so hB6
 obtain rfl:=so hL6
 exact rj hR6 ⟨data_2,i_3,H4,rfl,l5,Z⟩
 intro f w_ hR
 obtain ⟨data_2,i_3,H4,rfl,l5,Z⟩:=rk hR6 hR
 refine ret0 Tryz.results170 ?_
 obtain rfl:=so hF
 exact ⟨rfl,(Star.down Z l5 (co closed_int c0))⟩
theorem bits_Len_c {x_ : Int} {H : FH} {w : World} (Z : Star H w []) {r : Int} (hF : bits_Len x_ = some r) :
 C Tryz.prog 143 #[.int .u64 x_] w fun v w'=>v = I r∧Star H w' []:=by
 obtain ⟨h0,h1,rfl⟩:=bits_Len_some hF
 refine Calls.mono (Go.Proofs.Tryz.bits_Len x_ w h0 h1) ?_
 rintro e w' ⟨rfl,rfl⟩
 exact ⟨_,rfl,rfl,Z⟩
theorem slices_nextPowerOfTwo_c {length : Int} {H : FH} {w : World} (Z : Star H w []) {r : Int} (hF : slices_nextPowerOfTwo length = some r) :
 C Tryz.prog 204 #[I length] w fun v w'=>v = .int .u64 r∧Star H w' []:=by
 unfold slices_nextPowerOfTwo at hF
 refine C_enter Tryz.func204 rfl Tryz.ntmps204 rfl (sq (aV (.int .u64 0) rfl (nq ?_)))
 obtain ⟨x6,hx6,hF⟩:=bind_some hF
 obtain ⟨q8,hq8,hF⟩:=bind_some hF
 refine W_region (mI rfl (L_cv (n:=length) rfl rfl ⟨_,Tryz.underlying3⟩ Tryz.underlying148 ?_))
 obtain ⟨H9b,l10,s11,z12,k13⟩:=Z.borrow
 refine L_call rfl Tryz.call143 (ops1 rfl) (bits_Len_c (x_:=IntKind.u64.wrap length) s11 hx6) ?_
 rintro _ w14 ⟨rfl,Z⟩
 have Z:=k13 Z c0
 refine L_shl (m:=1) (n:=x6) rfl rfl rfl (Int.not_lt.1 fun he=>by rw [if_pos he] at hq8; cases hq8) (aV (.int .u64 (IntKind.u64.wrap (1 * 2 ^ (min (Int.toNat x6) (IntKind.bits .u64))))) rfl (nn (W_ret (retG1 (v1:=.int .u64 (IntKind.u64.wrap (1 * 2 ^ (min (Int.toNat x6) (IntKind.bits .u64))))) Tryz.results204 rfl ?_))))
 obtain rfl:=so hF
 exact ⟨rfl,Z⟩
theorem slices_pdqsortCmpFunc_int_c {fu : Nat} {data : List Int} {a : Int} {b : Int} {limit : Int} {cmp : (Int→Int→Option Int)} {v0 : Value} {v4 : Value} {H : FH} {w : World} (Z : Star H w [oF 3 RP.int v0 data]) (h4 : Fun2 Tryz.prog RP.int RP.int false (Value.int .i64) cmp v4 H) {r : List Int} (hF : slices_pdqsortCmpFunc_int fu data a b limit cmp = some r) :
 C Tryz.prog 142 #[v0,I a,I b,I limit,v4] w fun v w'=>v = .tuple #[]∧Star H w' [oF 3 RP.int v0 r]:=by
 unfold slices_pdqsortCmpFunc_int at hF
 obtain ⟨fid_4,caps_4,rfl,hcall_4,hc_4⟩:=h4
 refine C_enter Tryz.func142 rfl Tryz.ntmps142 rfl (sq (aB rfl (ns (aB rfl (nn ?_)))))
 obtain ⟨j2,hL2,hF⟩:=bind_some hF
 obtain ⟨R2,hR2⟩:=exR fun f w_=>j2 = .nx ()∧Star H w_ ([oF 3 RP.int v0 data])
 refine W_join R2 ?_ ?_
 refine W_block ?_
 obtain ⟨I2,hI2⟩:=exI fun n f w_=>whileL (slices_pdqsortCmpFunc_int_b1 fu data a b cmp) n () = some j2∧f 0 = v0∧f 1 = I a∧f 2 = I b∧f 4 = .func (.func fid_4) #[] caps_4∧Star H w_ ([oF 3 RP.int v0 data])
 refine W_loop I2 (n:=fu) ?_ ?_
 exact ij hI2 ⟨hL2,rfl,rfl,rfl,rfl,Z⟩
 intro n2 f w_ hI
 obtain ⟨hL2,sf0,sf1,sf2,sf4,Z⟩:=ik hI2 hI
 rcases n2 with _ | n2
 exact (while_zero hL2).elim
 obtain ⟨o2,hB2,hL2⟩:=while_succ hL2
 rw [slices_pdqsortCmpFunc_int_b1] at hB2
 refine W_block (sq (mF sf2 rfl (mF sf1 rfl (L_sub rfl rfl rfl (aI rfl (nq (sq (mI rfl (L_leq rfl rfl rfl (nn (W_cond (b:=decide ((i64 (b - a))≤12)) rfl (fun hc3=>?_) (fun hc3=>?_))))))))))))
 have hB2:=(ite_t hc3).symm.trans hB2
 refine W_seq ?_
 obtain ⟨x9,hx9,hB2⟩:=bind_some hB2
 refine W_region (mF sf0 rfl (mF sf1 rfl (mF sf2 rfl (mF sf4 rfl ?_))))
 obtain ⟨H11b,l12,s13,z14,k15⟩:=Z.lend [_]
 refine L_call rfl Tryz.call170 (ops4 rfl rfl rfl rfl) (slices_insertionSortCmpFunc_int_c (data:=data) (a:=a) (b:=b) (cmp:=cmp) s13 (Fun2.le ⟨_,_,rfl,hcall_4,hc_4⟩ l12) hx9) ?_
 rintro _ w16 ⟨rfl,Z⟩
 have Z:=k15 Z (co closed_int c0)
 refine nn (W_ret (ret0 Tryz.results142 ?_))
 obtain rfl:=so hB2
 obtain rfl:=so hL2
 obtain rfl:=so hF
 exact ⟨rfl,Z⟩
 have hB2:=(ite_f hc3).symm.trans hB2
 refine W_skip ?_
 cases hB2
 intro f w_ hR
 obtain ⟨rfl,Z⟩:=rk hR2 hR
 refine ret0 Tryz.results142 ?_
 obtain rfl:=so hF
 exact ⟨rfl,Z⟩
theorem slices_SortFunc_int_c {fu : Nat} {x : List Int} {cmp : (Int→Int→Option Int)} {v0 : Value} {v1 : Value} {H : FH} {w : World} (Z : Star H w [oF 3 RP.int v0 x]) (h1 : Fun2 Tryz.prog RP.int RP.int false (Value.int .i64) cmp v1 H) {r : List Int} (hF : slices_SortFunc_int fu x cmp = some r) :
 C Tryz.prog 98 #[v0,v1] w fun v w'=>v = .tuple #[]∧Star H w' [oF 3 RP.int v0 r]:=by
 unfold slices_SortFunc_int at hF
 obtain ⟨fid_1,caps_1,rfl,hcall_1,hc_1⟩:=h1
 refine C_enter Tryz.func98 rfl Tryz.ntmps98 rfl (sq (mV v0 rfl (L_len rfl Tryz.underlying23 rfl (Star.len 0 Z rfl) (aI rfl (nn ?_)))))
 obtain ⟨x6,hx6,hF⟩:=bind_some hF
 obtain ⟨x13,hx13,hF⟩:=bind_some hF
 refine W_region (mV v0 rfl (mI rfl (mI rfl (L_cv (n:=(x.length : Int)) rfl rfl ⟨_,Tryz.underlying3⟩ Tryz.underlying148 ?_))))
 obtain ⟨H15b,l16,s17,z18,k19⟩:=Z.borrow
 refine L_call rfl Tryz.call143 (ops1 rfl) (bits_Len_c (x_:=IntKind.u64.wrap (x.length : Int)) s17 hx6) ?_
 rintro _ w20 ⟨rfl,Z⟩
 have Z:=k19 Z c0
 refine mV (.func (.func fid_1) #[] caps_1) rfl ?_
 obtain ⟨H21b,l22,s23,z24,k25⟩:=Z.lend [_]
 refine L_call rfl Tryz.call142 (ops5 rfl rfl rfl rfl rfl) (slices_pdqsortCmpFunc_int_c (data:=x) (a:=0) (b:=(x.length : Int)) (limit:=x6) (cmp:=cmp) s23 (Fun2.le ⟨_,_,rfl,hcall_1,hc_1⟩ l22) hx13) ?_
 rintro _ w26 ⟨rfl,Z⟩
 have Z:=k25 Z (co closed_int c0)
 refine nn (ret0 Tryz.results98 ?_)
 obtain rfl:=so hF
 exact ⟨rfl,Z⟩
theorem i_variableOf_c {l : Int} {H : FH} {w : World} (Z : Star H w []) {r : Int} (hF : i_variableOf l = some r) :
 C Tryz.prog 100 #[I l] w fun v w'=>v = I r∧Star H w' []:=by
 unfold i_variableOf at hF
 refine C_enter Tryz.func100 rfl Tryz.ntmps100 rfl (sq (aI rfl (ns (mI rfl (mI rfl (L_neg rfl rfl (L_max rfl rfl rfl (aI rfl (nn (W_ret (retG1 (v1:=I (max l (i64 (-l)))) Tryz.results100 rfl ?_)))))))))))
 obtain rfl:=so hF
 exact ⟨rfl,Z⟩
theorem i_ClauseOf_1_c {a : Int} {b : Int} {H : FH} {w : World} (Z : Star H w []) {r : Int} (hF : i_ClauseOf_1 a b = some r) :
 C Tryz.prog 99 #[I a,I b] w fun v w'=>v = I r∧Star H w' []:=by
 unfold i_ClauseOf_1 at hF
 refine C_enter Tryz.func99 rfl Tryz.ntmps99 rfl (sq (aI rfl (nq ?_)))
 obtain ⟨x6,hx6,hF⟩:=bind_some hF
 obtain ⟨x13,hx13,hF⟩:=bind_some hF
 refine W_region (mI rfl ?_)
 obtain ⟨H15b,l16,s17,z18,k19⟩:=Z.borrow
 refine L_call rfl Tryz.call100 (ops1 rfl) (i_variableOf_c (l:=a) s17 hx6) ?_
 rintro _ w20 ⟨rfl,Z⟩
 have Z:=k19 Z c0
 refine mI rfl ?_
 obtain ⟨H21b,l22,s23,z24,k25⟩:=Z.borrow
 refine L_call rfl Tryz.call100 (ops1 rfl) (i_variableOf_c (l:=b) s23 hx13) ?_
 rintro _ w26 ⟨rfl,Z⟩
 have Z:=k25 Z c0
 refine L_sub rfl rfl rfl (aI rfl (nn (W_ret (retG1 (v1:=I (i64 (x6 - x13))) Tryz.results99 rfl ?_))))
 obtain rfl:=so hF
 exact ⟨rfl,Z⟩
theorem slices_Compact_int_c {s : List Int} {v0 : Value} {H : FH} {w : World} {R : List Ass} (Z : Star H w R) (h0 : (rS 3 RP.int).rel H [v0] s) {r : List Int} (hF : slices_Compact_int s = some r) :
 C Tryz.prog 101 #[v0] w fun v w'=>∃ H' : FH,Le H H'∧∃ (u1 : Value),v = u1∧(rS 3 RP.int).rel H' [u1] r∧Star H' w' (R):=by
 unfold slices_Compact_int at hF
 refine C_enter Tryz.func101 rfl Tryz.ntmps101 rfl (sq (aV S0 rfl (nq (sq (mV v0 rfl (L_len rfl Tryz.underlying23 rfl (slice_len h0) (L_lss rfl rfl rfl (nn (W_cond (b:=decide ((s.length : Int) < 2)) rfl (fun hc1=>?_) (fun hc1=>?_))))))))))
 have hF:=(ite_t hc1).symm.trans hF
 refine sq (mV v0 rfl (aV v0 rfl (nn (W_ret (retG1 (v1:=v0) Tryz.results101 rfl ?_)))))
 obtain rfl:=so hF
 exact ⟨H,(Le.refl _),v0,rfl,h0,Z⟩
 have hF:=(ite_f hc1).symm.trans hF
 refine W_skip (W_seq (sq (aI rfl (nn ?_))))
 obtain ⟨k6,hk6,hF⟩:=bind_some hF
 obtain ⟨j5,hL5,hF⟩:=bind_some hF
 obtain ⟨R5,hR5⟩:=exR fun f w_=>∃ H3 : FH,j5 = .nx ()∧Le H H3∧f 0 = v0∧Star H3 w_ (R)
 refine W_join R5 ?_ ?_
 refine W_block ?_
 obtain ⟨I5,hI5⟩:=exI fun n f w_=>∃ i_2 : Nat,∃ suf5 : Nat,∃ H3 : FH,suf5 = n∧1≤i_2∧i_2 + suf5 = 1 + k6∧countL (slices_Compact_int_b1 s) suf5 i_2 () = some j5∧Le H H3∧f 0 = v0∧f 3 = I i_2∧Star H3 w_ (R)
 refine W_loop I5 (n:=k6) ?_ ?_
 exact ij hI5 ⟨1,k6,H,rfl,Nat.le_refl _,rfl,hL5,(Le.refl _),rfl,rfl,Z⟩
 intro n5 f w_ hI
 obtain ⟨i_2,suf5,H3,rfl,hs5,hl5,hL5,l4,sf0,sf3,Z⟩:=ik hI5 hI
 refine W_seq (sq (mF sf3 rfl (mF sf0 rfl (L_len rfl Tryz.underlying23 rfl (slice_len (RP.mono _ h0 l4)) (L_lss rfl rfl rfl (nn (W_cond (b:=decide ((i_2 : Int) < (s.length : Int))) rfl (fun hc7=>?_) (fun hc7=>?_))))))))
 have hlt5:=of_decide_eq_true hc7
 rcases suf5 with _ | rest5
 exact absurd hlt5 (cntF_no hl5 hk6)
 obtain ⟨o5,hB5,hL5⟩:=count_succ hL5
 rw [slices_Compact_int_b1] at hB5
 refine W_skip (W_seq (W_block (W_seq ?_)))
 obtain ⟨x8,hx8,hB5⟩:=bind_some hB5
 obtain ⟨x13,hx13,hB5⟩:=bind_some hB5
 refine W_drawS 9 [isV (v0),isV (I i_2),isEl RP.int x8 0,isV (I x8),isV (v0),isV (I i_2),isV (I (i64 ((i_2 : Int) - 1))),isEl RP.int x13 0,isV (I x13)] [] [] (R) [([],[]),([],[]),([],[]),([],[]),([],[]),([],[]),([],[]),([],[]),([],[])] (S:=[]) Tryz_mix (by kernel_rfl) rfl (by kernel_rfl) (amF_cons (mono_V _) (amF_cons (mono_V _) (amF_cons (mono_el _ _ _) (amF_cons (mono_V _) (amF_cons (mono_V _) (amF_cons (mono_V _) (amF_cons (mono_V _) (amF_cons (mono_el _ _ _) (amF_cons (mono_V _) amF_nil))))))))) Z ?_ (fun f w_ H18 hS18 hE18 hT18 Z=>?_)
 refine opsS_cons (fun f w_ _ _ s _ _ Z=>mF ((s 0 rfl).trans sf0) rfl (nO rfl rfl Z)) (opsS_cons (fun f w_ _ _ s _ _ Z=>mF ((s 3 rfl).trans sf3) rfl (nO rfl rfl Z)) (opsS_cons ?_ ?_))
 intro f w_ H18 X18 hS18 hE18 hP18 Z
 refine L_ix (r:=RP.int) rfl Tryz.underlying23 Tryz.sizeOf3 (hP18 0 16 rfl rfl) (RP.mono _ h0 (Le.trans l4 hE18)) (hP18 1 17 rfl rfl) hx8 (fun g27 o28 cs_g27 hrk_hat29 hat29=>?_)
 obtain rfl : _ = [_]:=hrk_hat29
 exact L_nil ⟨rfl,_,_,rfl,Le.refl _,fun _ _=>⟨_,_,_,rfl,rfl,hat29⟩,Z⟩
 refine opsS_cons ?_ ?_
 intro f w_ H18 X18 hS18 hE18 hP18 Z
 obtain ⟨g31,o31,cs31,hv31,hrk_hat31,hat31⟩:=(hP18 2 18 rfl rfl)
 obtain rfl : _ = [_]:=hrk_hat31
 refine L_ld rfl Tryz.isAgg3 hv31 (At.cell (AtH.at hat31 Z.sub) (j:=0) rfl) (L_nil ⟨rfl,_,_,rfl,Le.refl _,fun _ _=>rfl,Z⟩)
 refine opsS_cons (fun f w_ _ _ s _ _ Z=>mF ((s 0 rfl).trans sf0) rfl (nO rfl rfl Z)) (opsS_cons (fun f w_ _ _ s _ _ Z=>mF ((s 3 rfl).trans sf3) rfl (nO rfl rfl Z)) (opsS_cons (fun f w_ _ _ _ _ p Z=>L_sub rfl (p 5 21 rfl rfl) rfl (nO rfl rfl Z)) (opsS_cons ?_ ?_)))
 intro f w_ H18 X18 hS18 hE18 hP18 Z
 refine L_ix (r:=RP.int) rfl Tryz.underlying23 Tryz.sizeOf3 (hP18 4 20 rfl rfl) (RP.mono _ h0 (Le.trans l4 hE18)) (hP18 6 22 rfl rfl) hx13 (fun g33 o34 cs_g33 hrk_hat35 hat35=>?_)
 obtain rfl : _ = [_]:=hrk_hat35
 exact L_nil ⟨rfl,_,_,rfl,Le.refl _,fun _ _=>⟨_,_,_,rfl,rfl,hat35⟩,Z⟩
 refine opsS_cons ?_ ?_
 intro f w_ H18 X18 hS18 hE18 hP18 Z
 obtain ⟨g37,o37,cs37,hv37,hrk_hat37,hat37⟩:=(hP18 7 23 rfl rfl)
 obtain rfl : _ = [_]:=hrk_hat37
 refine L_ld rfl Tryz.isAgg3 hv37 (At.cell (AtH.at hat37 Z.sub) (j:=0) rfl) (L_nil ⟨rfl,_,_,rfl,Le.refl _,fun _ _=>rfl,Z⟩)
 exact opsS_nil
 refine L_eql rfl (hT18 3 19 rfl rfl) (hT18 8 24 rfl rfl) (nn ?_)
 obtain ⟨_,hA39,hB5⟩:=bind_some hB5
 obtain ⟨R39,hR39⟩:=exR fun f w_=>f 0 = v0∧f 3 = I i_2∧Star H18 w_ (R)
 refine W_join R39 ?_ ?_
 refine W_cond (b:=(x8 == x13)) rfl (fun hc40=>?_) (fun hc40=>?_)
 have hA39:=(ite_t hc40).symm.trans hA39
 cases hA39
 have hA39:=(ite_f hc40).symm.trans hA39
 refine W_skip (rj hR39 ⟨((hS18 0 rfl).trans sf0),((hS18 3 rfl).trans sf3),Z⟩)
 intro f w_ hR
 obtain ⟨sf0,sf3,Z⟩:=rk hR39 hR
 refine W_region (mF sf3 rfl (L_add rfl rfl rfl (aI rfl (nn ?_))))
 obtain rfl:=so hB5
 show ∃ m,m < _∧I5 m _ _
 refine ⟨rest5,Nat.lt_succ_self _,?_⟩
 exact ij hI5 ⟨i_2 + 1,rest5,H18,rfl,by omega,by omega,hL5,(Le.trans l4 hE18),sf0,(Eq.trans rfl (congrArg (Value.int .i64) (i64_succ (n:=1 + k6) (by omega) (cntF_le hk6)))),Z⟩
 rcases suf5 with _ | _
 obtain rfl:=count_zero hL5
 refine W_exit (rj hR5 ⟨H3,rfl,l4,sf0,Z⟩)
 exact absurd (cntF_yes hs5 hl5 hk6) (of_decide_eq_false hc7)
 intro f w_ hR
 obtain ⟨H3,rfl,l4,sf0,Z⟩:=rk hR5 hR
 refine sq (mF sf0 rfl (aV v0 rfl (nn (W_ret (retG1 (v1:=v0) Tryz.results101 rfl ?_)))))
 obtain rfl:=so hF
 exact ⟨H3,l4,v0,rfl,(RP.mono _ h0 l4),Z⟩
theorem i_ClauseOf_c {fu : Nat} {lits : List Int} {v0 : Value} {H : FH} {w : World} (Z : Star H w []) (h0 : (rS 3 RP.int).rel H [v0] lits) {r : Con × Bool} (hF : i_ClauseOf fu lits = some r) :
 C Tryz.prog 48 #[v0] w fun v w'=>∃ (u1 : Value),v = .tuple #[.agg #[u1,I r.1.bound],Bo r.2]∧Star H w' [oF 122 rTerm u1 r.1.terms]:=by
 unfold i_ClauseOf at hF
 refine C_enter Tryz.func48 rfl Tryz.ntmps48 rfl (sq (L_al (cs:=#[S0,I 0]) rfl Tryz.zeroValue73 rfl Z (fun g3 w4 Z=>aB rfl (nq (sq (mV v0 rfl (L_len rfl Tryz.underlying23 rfl (slice_len h0) (L_gtr rfl rfl rfl (nn (W_cond (b:=decide ((lits.length : Int) > 40)) rfl (fun hc5=>?_) (fun hc5=>?_)))))))))))
 have hF:=(ite_t hc5).symm.trans hF
 refine sq (L_bld rfl (parts0 ) (bld_73_  ) (L_staB (vs:=#[S0,I 0]) (cs2:=#[S0,I 0]) 0 rfl Tryz.sizeOf73 rfl rfl rfl (ones_cons rfl (ones_cons rfl ones_nil)) Z rfl (by show 0 + 2≤2; decide) rfl (fun w7 Z=>aB rfl (nn (W_ret (retG2 (v1:=.agg #[S0,I 0]) (v2:=Bo false) Tryz.results48 (resV_agg Tryz.isAgg73 Tryz.sizeOf73 rfl (Star.blkAt 0 Z rfl) rfl) rfl ?_))))))
 obtain rfl:=so hF
 have Z:=Star.addNil (R:=(OR.frz rTerm)) (e:=122) Z
 exact ⟨S0,rfl,(Star.keepN 1 Z)⟩
 have hF:=(ite_f hc5).symm.trans hF
 refine W_skip (W_seq (sq (mV v0 rfl (L_len rfl Tryz.underlying23 rfl (slice_len h0) (mI rfl (nn ?_))))))
 have hlen10 : List.length lits≤9223372036854775807:=len_le (slice_len h0)
 obtain ⟨j10,hL10,hF⟩:=bind_some hF
 obtain ⟨R10,hR10⟩:=exR fun f w_=>j10 = .nx ()∧f 0 = v0∧f 2 = Pt g3∧Star H w_ ([box g3 73 #[S0,I 0]])
 refine W_join R10 ?_ ?_
 refine W_block ?_
 obtain ⟨I10,hI10⟩:=exI fun n f w_=>∃ i_9 : Nat,∃ suf10 : List Int,n = suf10.length∧List.drop i_9 lits = suf10∧i_9 + suf10.length = lits.length∧rangeL (i_ClauseOf_b1 lits) suf10 i_9 () = some j10∧f 0 = v0∧f 2 = Pt g3∧f 14 = v0∧f 15 = I (lits.length : Int)∧f 16 = I i_9∧Star H w_ ([box g3 73 #[S0,I 0]])
 refine W_loop I10 (n:=lits.length) ?_ ?_
 exact ij hI10 ⟨0,lits,rfl,rfl,Nat.zero_add _,hL10,rfl,rfl,rfl,rfl,rfl,Z⟩
 intro n10 f w_ hI
 obtain ⟨i_9,suf10,rfl,hd10,hl10,hL10,sf0,sf2,sf14,sf15,sf16,Z⟩:=ik hI10 hI
 refine sq (L_lss rfl sf16 sf15 (nq (W_cond (b:=decide ((i_9 : Int) < (lits.length : Int))) rfl (fun hc11=>?_) (fun hc11=>?_))))
 have hlt10:=of_decide_eq_true hc11
 rcases suf10 with _ | ⟨x_10,rest10⟩
 exact absurd hlt10 (by simp at hl10; omega)
 obtain ⟨o10,hB10,hL10⟩:=range_cons hL10
 rw [i_ClauseOf_b1] at hB10
 have hix10:=drop_idx hd10
 refine W_skip (W_seq (W_block (sq (L_ix (r:=RP.int) rfl Tryz.underlying23 Tryz.sizeOf3 sf14 h0 sf16 hix10 (fun g16 o17 cs_g16 hrk_hat18 hat18=>?_)))))
 obtain rfl : _ = [_]:=hrk_hat18
 refine L_ld rfl Tryz.isAgg3 rfl (At.cell (AtH.at hat18 Z.sub) (j:=0) rfl) (aI rfl (nq ?_))
 obtain ⟨x25,hx25,hB10⟩:=bind_some hB10
 obtain ⟨b34,hb34,hB10⟩:=bind_some hB10
 obtain ⟨R35,hR35⟩:=exR fun f w_=>f 0 = v0∧f 2 = Pt g3∧f 14 = v0∧f 15 = I (lits.length : Int)∧f 16 = I i_9∧f 28 = Bo b34∧Star H w_ ([box g3 73 #[S0,I 0]])
 refine W_join R35 ?_ ?_
 refine W_region (mI rfl ?_)
 obtain ⟨H36b,l37,s38,z39,k40⟩:=Z.borrow
 refine L_call rfl Tryz.call96 (ops1 rfl) (i_isLiteral_c (l:=x_10) s38 hx25) ?_
 rintro _ w41 ⟨rfl,Z⟩
 have Z:=k40 Z c0
 refine L_not_ rfl rfl (mB rfl (L_split (d:=23) (b:=(!x25)) rfl (fun hc42=>?_) (fun hc42=>?_)))
 rw [ite_t hc42] at hb34
 refine ps rfl (ps rfl (ps rfl (ps rfl (L_pick (v:=Bo b34) rfl rfl (congrArg Value.bool (so hb34)) (nn (rj hR35 ⟨sf0,sf2,sf14,sf15,sf16,rfl,Z⟩))))))
 rw [ite_f hc42] at hb34
 obtain ⟨x32,hx32,hb34⟩:=bind_some hb34
 refine mF sf0 rfl (mI rfl (L_neg rfl rfl ?_))
 obtain ⟨H43b,l44,s45,z46,k47⟩:=Z.borrow
 refine L_call rfl Tryz.call97 (ops2 rfl rfl) (slices_Contains_int_c (s:=lits) (v_:=i64 (-x_10)) s45 (RP.mono _ h0 l44) hx32) ?_
 rintro _ w48 ⟨rfl,Z⟩
 have Z:=k47 Z c0
 refine L_pick (v:=Bo b34) rfl rfl (congrArg Value.bool (so hb34)) (nn (rj hR35 ⟨sf0,sf2,sf14,sf15,sf16,rfl,Z⟩))
 intro f w_ hR
 obtain ⟨sf0,sf2,sf14,sf15,sf16,sf28,Z⟩:=rk hR35 hR
 refine W_cond (b:=b34) sf28 (fun hc49=>?_) (fun hc49=>?_)
 have hB10:=(ite_t hc49).symm.trans hB10
 refine sq (L_bld rfl (parts0 ) (bld_73_  ) (L_staB (vs:=#[S0,I 0]) (cs2:=#[S0,I 0]) 0 rfl Tryz.sizeOf73 sf2 rfl rfl (ones_cons rfl (ones_cons rfl ones_nil)) Z rfl (by show 0 + 2≤2; decide) rfl (fun w51 Z=>aB rfl (nn (W_ret (retG2 (v1:=.agg #[S0,I 0]) (v2:=Bo false) Tryz.results48 (resV_agg Tryz.isAgg73 Tryz.sizeOf73 sf2 (Star.blkAt 0 Z rfl) rfl) rfl ?_))))))
 obtain rfl:=so hB10
 obtain rfl:=so hL10
 obtain rfl:=so hF
 have Z:=Star.addNil (R:=(OR.frz rTerm)) (e:=122) Z
 exact ⟨S0,rfl,(Star.keepN 1 Z)⟩
 have hB10:=(ite_f hc49).symm.trans hB10
 refine W_skip (W_region (L_add rfl sf16 rfl (mI rfl (nn ?_))))
 obtain rfl:=so hB10
 show ∃ m,m < _∧I10 m _ _
 refine ⟨rest10.length,by simp,?_⟩
 exact ij hI10 ⟨i_9 + 1,rest10,rfl,drop_next hd10,by simp at hl10; omega,hL10,sf0,sf2,sf14,sf15,(Eq.trans rfl (congrArg (Value.int .i64) (i64_succ (n:=lits.length) (by simp at hl10; omega) hlen10))),Z⟩
 rcases suf10 with _ | ⟨_,_⟩
 obtain rfl:=range_nil hL10
 refine W_exit (rj hR10 ⟨rfl,sf0,sf2,Z⟩)
 exact absurd (of_decide_eq_false hc11) (by simp at hl10; omega)
 intro f w_ hR
 obtain ⟨rfl,sf0,sf2,Z⟩:=rk hR10 hR
 refine W_seq ?_
 obtain ⟨x58,hx58,hF⟩:=bind_some hF
 refine W_region (mF sf0 rfl ?_)
 obtain ⟨H61b,l62,s63,z64,k65⟩:=Z.borrow
 refine L_call rfl Tryz.call62 (ops1 rfl) (slices_Clone_int_c (s:=lits) s63 (RP.mono _ h0 l62) hx58) ?_
 rintro r66_0 w66 ⟨_,rfl,Z⟩
 have Z:=k65 Z (co closed_int c0)
 refine aV r66_0 rfl (nq ?_)
 obtain ⟨x73,hx73,hF⟩:=bind_some hF
 refine W_region (mV r66_0 rfl ?_)
 obtain ⟨H75b,l76,s77,z78,k79⟩:=Z.lend [_]
 have hf80 : Fun2 Tryz.prog RP.int RP.int false (Value.int .i64) i_ClauseOf_1 (.func (.func 99) #[] #[]) H75b:=by
   refine ⟨_,_,rfl,Tryz.call99,fun H_ w_ hE_ hs_ cs1_ cs2_ x1_ x2_ y_ args_ hr1_ hr2_ hy_ ha_=>?_⟩
   obtain rfl : cs1_ = [_]:=hr1_
   obtain rfl : cs2_ = [_]:=hr2_
   obtain rfl:=args_of (b:=#[I x1_,I x2_]) ha_
   exact i_ClauseOf_1_c (a:=x1_) (b:=x2_) hs_  hy_
 refine L_call rfl Tryz.call98 (ops2 rfl rfl) (slices_SortFunc_int_c (x:=x58) (cmp:=i_ClauseOf_1) s77 hf80 hx73) ?_
 rintro _ w81 ⟨rfl,Z⟩
 have Z:=k79 Z (co closed_int c0)
 refine ns (L_bld rfl (parts1 rfl) (bld_73_1 (I 1) rfl) (L_al (cs:=#[S0,I 0]) rfl Tryz.zeroValue73 rfl Z (fun g85 w86 Z=>L_staB (vs:=#[S0,I 1]) (cs2:=#[S0,I 1]) 0 rfl Tryz.sizeOf73 rfl rfl rfl (ones_cons rfl (ones_cons rfl ones_nil)) Z rfl (by show 0 + 2≤2; decide) rfl (fun w87 Z=>nq (W_seq ?_)))))
 obtain ⟨x91,hx91,hF⟩:=bind_some hF
 refine W_region (mV r66_0 rfl ?_)
 have Z:=Z.get 1 rfl
 obtain ⟨H93,l94,Z,hz95⟩:=Star.freeze Z
 have hz95 : (rS 3 RP.int).rel H93 [r66_0] x73:=hz95
 refine L_call rfl Tryz.call101 (ops1 rfl) (slices_Compact_int_c (s:=x73) Z hz95 hx91) ?_
 rintro r96_0 w96 ⟨H96,l96,_,rfl,hr96_0,Z⟩
 refine L_len rfl Tryz.underlying23 rfl (slice_len hr96_0) (mI rfl (nn ?_))
 have hlen100 : List.length x91≤9223372036854775807:=len_le (slice_len hr96_0)
 obtain ⟨j100,hL100,hF⟩:=bind_some hF
 obtain ⟨R100,hR100⟩:=exR fun f w_=>∃ g85_0_98 : List Term,∃ v98_g85_0 : Value,j100 = .nx g85_0_98∧f 2 = Pt g3∧f 7 = Pt g85∧Star H96 w_ ([oF 122 rTerm v98_g85_0 g85_0_98,box g85 73 #[v98_g85_0,I 1],box g3 73 #[S0,I 0]])
 refine W_join R100 ?_ ?_
 refine W_block ?_
 obtain ⟨I100,hI100⟩:=exI fun n f w_=>∃ i_97 : Nat,∃ suf100 : List Int,∃ g85_0_98 : List Term,∃ v98_g85_0 : Value,n = suf100.length∧List.drop i_97 x91 = suf100∧i_97 + suf100.length = x91.length∧rangeL i_ClauseOf_b2 suf100 i_97 g85_0_98 = some j100∧f 2 = Pt g3∧f 7 = Pt g85∧f 37 = r96_0∧f 38 = I (x91.length : Int)∧f 39 = I i_97∧Star H96 w_ ([oF 122 rTerm v98_g85_0 g85_0_98,box g85 73 #[v98_g85_0,I 1],box g3 73 #[S0,I 0]])
 have Z:=Star.addNil (R:=(OR.frz rTerm)) (e:=122) Z
 refine W_loop I100 (n:=x91.length) ?_ ?_
 exact ij hI100 ⟨0,x91,[],S0,rfl,rfl,Nat.zero_add _,hL100,sf2,rfl,rfl,rfl,rfl,Z⟩
 intro n100 f w_ hI
 obtain ⟨i_97,suf100,g85_0_98,v98_g85_0,rfl,hd100,hl100,hL100,sf2,sf7,sf37,sf38,sf39,Z⟩:=ik hI100 hI
 refine sq (L_lss rfl sf39 sf38 (nq (W_cond (b:=decide ((i_97 : Int) < (x91.length : Int))) rfl (fun hc102=>?_) (fun hc102=>?_))))
 have hlt100:=of_decide_eq_true hc102
 rcases suf100 with _ | ⟨x_100,rest100⟩
 exact absurd hlt100 (by simp at hl100; omega)
 obtain ⟨o100,hB100,hL100⟩:=range_cons hL100
 rw [i_ClauseOf_b2] at hB100
 have hix100:=drop_idx hd100
 refine W_skip (W_seq (W_block (sq (L_ix (r:=RP.int) rfl Tryz.underlying23 Tryz.sizeOf3 sf37 hr96_0 sf39 hix100 (fun g107 o108 cs_g107 hrk_hat109 hat109=>?_)))))
 obtain rfl : _ = [_]:=hrk_hat109
 refine L_ld rfl Tryz.isAgg3 rfl (At.cell (AtH.at hat109 Z.sub) (j:=0) rfl) (aI rfl (nn ?_))
 obtain ⟨x114,hx114,hB100⟩:=bind_some hB100
 refine W_region (fA 0 fa_73_0 sf7 rfl (ldB 1 Z Tryz.isAgg71 rfl rfl rfl (mI rfl (L_bld rfl (parts2 rfl rfl) (bld_122_0_1 (I 1) (I x_100) rfl rfl) (L_bs rfl (parts1 rfl) (bs_71_1_2 (I 1) (I x_100) ) Z (fun g119 w120 Z=>?_))))))
 have Z:=Star.addF (r:=rTerm) (cs:=[I 1,I x_100]) (x:=({ coef:=1,lit:=x_100 } : Term)) Z (rTerm_iff.2 rfl)
 have Z:=Star.mkRow (R:=(OR.frz rTerm)) [([I 1,I x_100],({ coef:=1,lit:=x_100 } : Term))] [({ coef:=1,lit:=x_100 } : Term)] 1 Z rfl rfl rfl (by decide)
 have Z:=Z.get 1 rfl
 refine L_appM (v:=v98_g85_0) (u:=(Sl g119 1 1)) rfl et_71 rfl rfl Z hx114 (fun v122 w123 Z=>fA 0 fa_73_0 sf7 rfl (L_stB (v:=v122) (cs2:=#[v122,I 1]) 1 rfl Tryz.sizeOf71 rfl rfl (one_len (Star.len 0 Z rfl)) Z rfl rfl rfl (fun w125 Z=>nn (W_region (L_add rfl sf39 rfl (mI rfl (nn ?_)))))))
 obtain rfl:=so hB100
 have Z:=Z.gets [2,1,2] rfl
 show ∃ m,m < _∧I100 m _ _
 refine ⟨rest100.length,by simp,?_⟩
 exact ij hI100 ⟨i_97 + 1,rest100,x114,v122,rfl,drop_next hd100,by simp at hl100; omega,hL100,sf2,sf7,sf37,sf38,(Eq.trans rfl (congrArg (Value.int .i64) (i64_succ (n:=x91.length) (by simp at hl100; omega) hlen100))),Z⟩
 rcases suf100 with _ | ⟨_,_⟩
 obtain rfl:=range_nil hL100
 refine W_exit (rj hR100 ⟨g85_0_98,v98_g85_0,rfl,sf2,sf7,Z⟩)
 exact absurd (of_decide_eq_false hc102) (by simp at hl100; omega)
 intro f w_ hR
 obtain ⟨g85_0_98,v98_g85_0,rfl,sf2,sf7,Z⟩:=rk hR100 hR
 refine sq (L_lda (cs:=[v98_g85_0,I 1]) rfl Tryz.isAgg73 Tryz.sizeOf73 sf7 (At.sub0 (Blk.at (Star.blkAt 1 Z rfl)) 0 2) rfl (L_staB (vs:=#[v98_g85_0,I 1]) (cs2:=#[v98_g85_0,I 1]) 2 rfl Tryz.sizeOf73 sf2 rfl rfl (ones_cons (one_len (Star.len 0 Z rfl)) (ones_cons rfl ones_nil)) Z rfl (by show 0 + 2≤2; decide) rfl (fun w127 Z=>aB rfl (nn (W_ret (retG2 (v1:=.agg #[v98_g85_0,I 1]) (v2:=Bo true) Tryz.results48 (resV_agg Tryz.isAgg73 Tryz.sizeOf73 sf2 (Star.blkAt 0 Z rfl) rfl) rfl ?_))))))
 obtain rfl:=so hF
 have Z:=Z.get 1 rfl
 exact ⟨v98_g85_0,rfl,(Star.down (Star.keepN 1 Z) (Le.trans l94 l96) (co closed_term c0))⟩
theorem i_atMostOne_c {vars : List Int} {v0 : Value} {H : FH} {w : World} (Z : Star H w []) (h0 : (rS 3 RP.int).rel H [v0] vars) {r : Con} (hF : i_atMostOne vars = some r) :
 C Tryz.prog 49 #[v0] w fun v w'=>∃ (u1 : Value),v = .agg #[u1,I r.bound]∧Star H w' [oF 122 rTerm u1 r.terms]:=by
 unfold i_atMostOne at hF
 refine C_enter Tryz.func49 rfl Tryz.ntmps49 rfl (sq (L_al (cs:=#[S0,I 0]) rfl Tryz.zeroValue73 rfl Z (fun g3 w4 Z=>ns (mV v0 rfl (L_len rfl Tryz.underlying23 rfl (slice_len h0) (L_sub rfl rfl rfl (L_bld rfl (parts1 rfl) (bld_73_1 (I (i64 ((vars.length : Int) - 1))) rfl) (L_al (cs:=#[S0,I 0]) rfl Tryz.zeroValue73 rfl Z (fun g8 w9 Z=>L_staB (vs:=#[S0,I (i64 ((vars.length : Int) - 1))]) (cs2:=#[S0,I (i64 ((vars.length : Int) - 1))]) 0 rfl Tryz.sizeOf73 rfl rfl rfl (ones_cons rfl (ones_cons rfl ones_nil)) Z rfl (by show 0 + 2≤2; decide) rfl (fun w10 Z=>nq (sq (mV v0 rfl (L_len rfl Tryz.underlying23 rfl (slice_len h0) (mI rfl (nn ?_)))))))))))))))
 have hlen14 : List.length vars≤9223372036854775807:=len_le (slice_len h0)
 obtain ⟨j14,hL14,hF⟩:=bind_some hF
 obtain ⟨R14,hR14⟩:=exR fun f w_=>∃ g8_0_12 : List Term,∃ v12_g8_0 : Value,j14 = .nx g8_0_12∧f 2 = Pt g3∧f 3 = Pt g8∧Star H w_ ([oF 122 rTerm v12_g8_0 g8_0_12,box g8 73 #[v12_g8_0,I (i64 ((vars.length : Int) - 1))],box g3 73 #[S0,I 0]])
 refine W_join R14 ?_ ?_
 refine W_block ?_
 obtain ⟨I14,hI14⟩:=exI fun n f w_=>∃ i_11 : Nat,∃ suf14 : List Int,∃ g8_0_12 : List Term,∃ v12_g8_0 : Value,n = suf14.length∧List.drop i_11 vars = suf14∧i_11 + suf14.length = vars.length∧rangeL i_atMostOne_b1 suf14 i_11 g8_0_12 = some j14∧f 2 = Pt g3∧f 3 = Pt g8∧f 10 = v0∧f 11 = I (vars.length : Int)∧f 12 = I i_11∧Star H w_ ([oF 122 rTerm v12_g8_0 g8_0_12,box g8 73 #[v12_g8_0,I (i64 ((vars.length : Int) - 1))],box g3 73 #[S0,I 0]])
 have Z:=Star.addNil (R:=(OR.frz rTerm)) (e:=122) Z
 refine W_loop I14 (n:=vars.length) ?_ ?_
 exact ij hI14 ⟨0,vars,[],S0,rfl,rfl,Nat.zero_add _,hL14,rfl,rfl,rfl,rfl,rfl,Z⟩
 intro n14 f w_ hI
 obtain ⟨i_11,suf14,g8_0_12,v12_g8_0,rfl,hd14,hl14,hL14,sf2,sf3,sf10,sf11,sf12,Z⟩:=ik hI14 hI
 refine sq (L_lss rfl sf12 sf11 (nq (W_cond (b:=decide ((i_11 : Int) < (vars.length : Int))) rfl (fun hc16=>?_) (fun hc16=>?_))))
 have hlt14:=of_decide_eq_true hc16
 rcases suf14 with _ | ⟨x_14,rest14⟩
 exact absurd hlt14 (by simp at hl14; omega)
 obtain ⟨o14,hB14,hL14⟩:=range_cons hL14
 rw [i_atMostOne_b1] at hB14
 have hix14:=drop_idx hd14
 refine W_skip (W_seq (W_block (sq (L_ix (r:=RP.int) rfl Tryz.underlying23 Tryz.sizeOf3 sf10 h0 sf12 hix14 (fun g21 o22 cs_g21 hrk_hat23 hat23=>?_)))))
 obtain rfl : _ = [_]:=hrk_hat23
 refine L_ld rfl Tryz.isAgg3 rfl (At.cell (AtH.at hat23 Z.sub) (j:=0) rfl) (aI rfl (nn ?_))
 obtain ⟨x28,hx28,hB14⟩:=bind_some hB14
 refine W_region (fA 0 fa_73_0 sf3 rfl (ldB 1 Z Tryz.isAgg71 rfl rfl rfl (mI rfl (L_neg rfl rfl (L_bld rfl (parts2 rfl rfl) (bld_122_0_1 (I 1) (I (i64 (-x_14))) rfl rfl) (L_bs rfl (parts1 rfl) (bs_71_1_2 (I 1) (I (i64 (-x_14))) ) Z (fun g33 w34 Z=>?_)))))))
 have Z:=Star.addF (r:=rTerm) (cs:=[I 1,I (i64 (-x_14))]) (x:=({ coef:=1,lit:=i64 (-x_14) } : Term)) Z (rTerm_iff.2 rfl)
 have Z:=Star.mkRow (R:=(OR.frz rTerm)) [([I 1,I (i64 (-x_14))],({ coef:=1,lit:=i64 (-x_14) } : Term))] [({ coef:=1,lit:=i64 (-x_14) } : Term)] 1 Z rfl rfl rfl (by decide)
 have Z:=Z.get 1 rfl
 refine L_appM (v:=v12_g8_0) (u:=(Sl g33 1 1)) rfl et_71 rfl rfl Z hx28 (fun v36 w37 Z=>fA 0 fa_73_0 sf3 rfl (L_stB (v:=v36) (cs2:=#[v36,I (i64 ((vars.length : Int) - 1))]) 1 rfl Tryz.sizeOf71 rfl rfl (one_len (Star.len 0 Z rfl)) Z rfl rfl rfl (fun w39 Z=>nn (W_region (L_add rfl sf12 rfl (mI rfl (nn ?_)))))))
 obtain rfl:=so hB14
 have Z:=Z.gets [2,1,2] rfl
 show ∃ m,m < _∧I14 m _ _
 refine ⟨rest14.length,by simp,?_⟩
 exact ij hI14 ⟨i_11 + 1,rest14,x28,v36,rfl,drop_next hd14,by simp at hl14; omega,hL14,sf2,sf3,sf10,sf11,(Eq.trans rfl (congrArg (Value.int .i64) (i64_succ (n:=vars.length) (by simp at hl14; omega) hlen14))),Z⟩
 rcases suf14 with _ | ⟨_,_⟩
 obtain rfl:=range_nil hL14
 refine W_exit (rj hR14 ⟨g8_0_12,v12_g8_0,rfl,sf2,sf3,Z⟩)
 exact absurd (of_decide_eq_false hc16) (by simp at hl14; omega)
 intro f w_ hR
 obtain ⟨g8_0_12,v12_g8_0,rfl,sf2,sf3,Z⟩:=rk hR14 hR
 refine sq (L_lda (cs:=[v12_g8_0,I (i64 ((vars.length : Int) - 1))]) rfl Tryz.isAgg73 Tryz.sizeOf73 sf3 (At.sub0 (Blk.at (Star.blkAt 1 Z rfl)) 0 2) rfl (L_staB (vs:=#[v12_g8_0,I (i64 ((vars.length : Int) - 1))]) (cs2:=#[v12_g8_0,I (i64 ((vars.length : Int) - 1))]) 2 rfl Tryz.sizeOf73 sf2 rfl rfl (ones_cons (one_len (Star.len 0 Z rfl)) (ones_cons rfl ones_nil)) Z rfl (by show 0 + 2≤2; decide) rfl (fun w41 Z=>nn (W_ret (retG1 (v1:=.agg #[v12_g8_0,I (i64 ((vars.length : Int) - 1))]) Tryz.results49 (resV_agg Tryz.isAgg73 Tryz.sizeOf73 sf2 (Star.blkAt 0 Z rfl) rfl) ?_)))))
 obtain rfl:=so hF
 have Z:=Z.get 1 rfl
 exact ⟨v12_g8_0,rfl,(Star.keepN 1 Z)⟩
theorem i_each_c {fu : Nat} {sizes : List Int} {from_ : List Int} {told : ((List Int)→Option Bool)} {v0 : Value} {v1 : Value} {v2 : Value} {H : FH} {w : World} (Z : Star H w []) (h0 : (rS 3 RP.int).rel H [v0] sizes) (h1 : (rS 3 RP.int).rel H [v1] from_) (h2 : Fun1 Tryz.prog (rS 3 RP.int) false Value.bool told v2 H) {r : Unit} (hF : i_each fu sizes from_ told = some r) :
 C Tryz.prog 57 #[v0,v1,v2] w fun v w'=>v = .tuple #[]∧Star H w' []:=by
 unfold i_each at hF
 obtain ⟨fid_2,caps_2,rfl,hcall_2,hc_2⟩:=h2
 refine C_enter Tryz.func57 rfl Tryz.ntmps57 rfl (W_seq ?_)
 obtain ⟨x6,hx6,hF⟩:=bind_some hF
 refine W_region (mV v1 rfl ?_)
 obtain ⟨H9b,l10,s11,z12,k13⟩:=Z.borrow
 refine L_call rfl Tryz.call62 (ops1 rfl) (slices_Clone_int_c (s:=from_) s11 (RP.mono _ h1 l10) hx6) ?_
 rintro r14_0 w14 ⟨_,rfl,Z⟩
 have Z:=k13 Z (co closed_int c0)
 refine aV r14_0 rfl (nn ?_)
 obtain ⟨j20,hL20,hF⟩:=bind_some hF
 obtain ⟨R20,hR20⟩:=exR fun f w_=>∃ cells_17 : List Int,∃ H18 : FH,j20 = .nx cells_17∧Le H H18∧Star H18 w_ ([])
 refine W_join R20 ?_ ?_
 refine W_block ?_
 obtain ⟨I20,hI20⟩:=exI fun n f w_=>∃ cells_17 : List Int,∃ H18 : FH,whileL (i_each_b1 fu sizes told) n cells_17 = some j20∧Le H H18∧f 0 = v0∧f 2 = .func (.func fid_2) #[] caps_2∧f 6 = r14_0∧Star H18 w_ ([oF 3 RP.int r14_0 cells_17])
 refine W_loop I20 (n:=fu) ?_ ?_
 exact ij hI20 ⟨x6,H,hL20,(Le.refl _),rfl,rfl,rfl,Z⟩
 intro n20 f w_ hI
 obtain ⟨cells_17,H18,hL20,l19,sf0,sf2,sf6,Z⟩:=ik hI20 hI
 rcases n20 with _ | n20
 exact (while_zero hL20).elim
 obtain ⟨o20,hB20,hL20⟩:=while_succ hL20
 rw [i_each_b1] at hB20
 refine W_seq (W_seq ?_)
 obtain ⟨x21,hx21,hB20⟩:=bind_some hB20
 refine W_region (mF sf2 rfl (mF sf6 rfl ?_))
 obtain ⟨H28b,l29,s30,z31,k32⟩:=Z.borrow
 have hb33 : (rS 3 RP.int).rel H28b [r14_0] cells_17:=fz_own 0 z31 rfl
 refine L_callv (args:=#[r14_0]) rfl hcall_2 rfl (ops1 rfl) (hc_2 _ _ (Le.trans l19 l29) s30 [r14_0] _ _ _ hb33 hx21 (args_app rfl)) ?_
 rintro _ w34 ⟨rfl,Z⟩
 have Z:=k32 Z c0
 refine nn (W_cond (b:=x21) rfl (fun hc35=>?_) (fun hc35=>?_))
 have hB20:=(ite_t hc35).symm.trans hB20
 refine W_skip (W_block (sq (mF sf6 rfl (L_len rfl Tryz.underlying23 rfl (Star.len 0 Z rfl) (L_sub rfl rfl rfl (aI rfl (nq ?_)))))))
 obtain ⟨j41,hL41,hB20⟩:=bind_some hB20
 obtain ⟨R41,hR41⟩:=exR fun f w_=>∃ cells_37 : List Int,∃ i_38 : Int,∃ H39 : FH,j41 = .nx (cells_37,i_38)∧Le H18 H39∧f 0 = v0∧f 2 = .func (.func fid_2) #[] caps_2∧f 6 = r14_0∧f 7 = I i_38∧Star H39 w_ ([oF 3 RP.int r14_0 cells_37])
 refine W_join R41 ?_ ?_
 refine W_block ?_
 obtain ⟨I41,hI41⟩:=exI fun n f w_=>∃ cells_37 : List Int,∃ i_38 : Int,∃ H39 : FH,whileL (i_each_b2 sizes) n (cells_37,i_38) = some j41∧Le H18 H39∧f 0 = v0∧f 2 = .func (.func fid_2) #[] caps_2∧f 6 = r14_0∧f 7 = I i_38∧Star H39 w_ ([oF 3 RP.int r14_0 cells_37])
 refine W_loop I41 (n:=fu) ?_ ?_
 exact ij hI41 ⟨cells_17,i64 ((cells_17.length : Int) - 1),H18,hL41,(Le.refl _),sf0,sf2,sf6,rfl,Z⟩
 intro n41 f w_ hI
 obtain ⟨cells_37,i_38,H39,hL41,l40,sf0,sf2,sf6,sf7,Z⟩:=ik hI41 hI
 rcases n41 with _ | n41
 exact (while_zero hL41).elim
 obtain ⟨o41,hB41,hL41⟩:=while_succ hL41
 rw [i_each_b2] at hB41
 refine W_seq (W_seq ?_)
 obtain ⟨b52,hb52,hB41⟩:=bind_some hB41
 obtain ⟨R56,hR56⟩:=exR fun f w_=>∃ H54 : FH,Le H39 H54∧f 0 = v0∧f 2 = .func (.func fid_2) #[] caps_2∧f 6 = r14_0∧f 7 = I i_38∧f 28 = Bo b52∧Star H54 w_ ([oF 3 RP.int r14_0 cells_37])
 refine W_join R56 ?_ ?_
 rcases Bool.eq_false_or_eq_true (decide (i_38 ≥ 0)) with hc57 | hc57
 rw [ite_t hc57] at hb52
 obtain ⟨x42,hx42,hb52⟩:=bind_some hb52
 obtain ⟨x47,hx47,hb52⟩:=bind_some hb52
 obtain ⟨g58,cap_g58,hv59,_,_⟩:=Star.row 0 Z rfl hx42
 refine W_drawS 11 [isV (I i_38),isV (Bo (decide (i_38 ≥ 0))),isV (Bo (decide (i_38 ≥ 0))),isV (r14_0),isV (I i_38),isV (.pointer (some ⟨g58,Int.toNat i_38 * 1,none⟩)),isV (I x42),isV (v0),isV (I i_38),isEl RP.int x47 0,isV (I x47)] [oF 3 RP.int r14_0 cells_37] [] ([]) [([],[]),([],[]),([],[]),([],[]),([],[]),([],[]),([],[]),([],[]),([],[]),([],[]),([],[])] (S:=[]) Tryz_mix (by kernel_rfl) rfl (by kernel_rfl) (amF_cons (mono_V _) (amF_cons (mono_V _) (amF_cons (mono_V _) (amF_cons (mono_V _) (amF_cons (mono_V _) (amF_cons (mono_V _) (amF_cons (mono_V _) (amF_cons (mono_V _) (amF_cons (mono_V _) (amF_cons (mono_el _ _ _) (amF_cons (mono_V _) amF_nil))))))))))) Z ?_ (fun f w_ H53 hS53 hE53 hT53 Z=>?_)
 refine opsS_cons (fun f w_ _ _ s _ _ Z=>mF ((s 7 rfl).trans sf7) rfl (nO rfl rfl Z)) (opsS_cons (fun f w_ _ _ _ _ p Z=>L_geq rfl (p 0 16 rfl rfl) rfl (nO rfl rfl Z)) (opsS_cons (fun f w_ _ _ _ _ p Z=>mF (p 1 17 rfl rfl) rfl (nO rfl rfl Z)) (opsS_cons (fun f w_ _ _ s _ p Z=>L_mv (v:=r14_0) (g_yes rfl (Eq.trans (p 2 18 rfl rfl) (congrArg Value.bool hc57)) rfl) ((s 6 rfl).trans sf6) (nO rfl rfl Z)) (opsS_cons (fun f w_ _ _ s _ p Z=>L_mv (v:=I i_38) (g_yes rfl (Eq.trans (p 2 18 rfl rfl) (congrArg Value.bool hc57)) rfl) ((s 7 rfl).trans sf7) (nO rfl rfl Z)) (opsS_cons (fun f w_ _ _ _ _ p Z=>L_ixO (R:=(OR.frz RP.int)) (tb:=0) 0 (g_yes rfl (Eq.trans (p 2 18 rfl rfl) (congrArg Value.bool hc57)) rfl) Tryz.underlying23 Tryz.sizeOf3 (p 3 19 rfl rfl) hv59 (by first | rfl | simp) (p 4 20 rfl rfl) hx42 (nO rfl rfl Z)) (opsS_cons ?_ ?_))))))
 intro f w_ H53 X53 hS53 hE53 hP53 Z
 obtain ⟨cs66,hr66,hat66⟩:=Star.eltF 0 Z rfl hv59 hx42
 obtain rfl : _ = [_]:=hr66
 refine L_ld (v:=I x42) (g_yes rfl (Eq.trans (hP53 2 18 rfl rfl) (congrArg Value.bool hc57)) rfl) Tryz.isAgg3 (hP53 5 21 rfl rfl) (At.cell hat66 (j:=0) rfl) (L_nil ⟨rfl,_,_,rfl,Le.refl _,fun _ _=>rfl,Z⟩)
 refine opsS_cons (fun f w_ _ _ s _ p Z=>L_mv (v:=v0) (g_yes rfl (Eq.trans (p 2 18 rfl rfl) (congrArg Value.bool hc57)) rfl) ((s 0 rfl).trans sf0) (nO rfl rfl Z)) (opsS_cons (fun f w_ _ _ s _ p Z=>L_mv (v:=I i_38) (g_yes rfl (Eq.trans (p 2 18 rfl rfl) (congrArg Value.bool hc57)) rfl) ((s 7 rfl).trans sf7) (nO rfl rfl Z)) (opsS_cons ?_ ?_))
 intro f w_ H53 X53 hS53 hE53 hP53 Z
 refine L_ix (r:=RP.int) (g_yes rfl (Eq.trans (hP53 2 18 rfl rfl) (congrArg Value.bool hc57)) rfl) Tryz.underlying23 Tryz.sizeOf3 (hP53 7 23 rfl rfl) (RP.mono _ h0 (Le.trans (Le.trans l19 l40) hE53)) (hP53 8 24 rfl rfl) hx47 (fun g68 o69 cs_g68 hrk_hat70 hat70=>?_)
 obtain rfl : _ = [_]:=hrk_hat70
 exact L_nil ⟨rfl,_,_,rfl,Le.refl _,fun _ _=>⟨_,_,_,rfl,rfl,hat70⟩,Z⟩
 refine opsS_cons ?_ ?_
 intro f w_ H53 X53 hS53 hE53 hP53 Z
 obtain ⟨g72,o72,cs72,hv72,hrk_hat72,hat72⟩:=(hP53 9 25 rfl rfl)
 obtain rfl : _ = [_]:=hrk_hat72
 refine L_ld (v:=I x47) (g_yes rfl (Eq.trans (hP53 2 18 rfl rfl) (congrArg Value.bool hc57)) rfl) Tryz.isAgg3 hv72 (At.cell (AtH.at hat72 Z.sub) (j:=0) rfl) (L_nil ⟨rfl,_,_,rfl,Le.refl _,fun _ _=>rfl,Z⟩)
 exact opsS_nil
 refine L_eql (g_yes rfl (Eq.trans (hT53 2 18 rfl rfl) (congrArg Value.bool hc57)) rfl) (hT53 6 22 rfl rfl) (hT53 10 26 rfl rfl) (L_pick (v:=Bo b52) rfl (Eq.trans (hT53 2 18 rfl rfl) (congrArg Value.bool hc57)) (congrArg Value.bool (so hb52)) (nn (rj hR56 ⟨H53,hE53,((hS53 0 rfl).trans sf0),((hS53 2 rfl).trans sf2),((hS53 6 rfl).trans sf6),((hS53 7 rfl).trans sf7),rfl,Z⟩)))
 rw [ite_f hc57] at hb52
 refine W_drawS 11 [isV (I i_38),isV (Bo (decide (i_38 ≥ 0))),isV (Bo (decide (i_38 ≥ 0))),isV (undef),isV (undef),isV (undef),isV (undef),isV (undef),isV (undef),isV (undef),isV (undef)] [oF 3 RP.int r14_0 cells_37] [] ([]) [([],[]),([],[]),([],[]),([],[]),([],[]),([],[]),([],[]),([],[]),([],[]),([],[]),([],[])] (S:=[]) Tryz_mix (by kernel_rfl) rfl (by kernel_rfl) (amF_cons (mono_V _) (amF_cons (mono_V _) (amF_cons (mono_V _) (amF_cons (mono_V _) (amF_cons (mono_V _) (amF_cons (mono_V _) (amF_cons (mono_V _) (amF_cons (mono_V _) (amF_cons (mono_V _) (amF_cons (mono_V _) (amF_cons (mono_V _) amF_nil))))))))))) Z ?_ (fun f w_ H53 hS53 hE53 hT53 Z=>?_)
 refine opsS_cons (fun f w_ _ _ s _ _ Z=>mF ((s 7 rfl).trans sf7) rfl (nO rfl rfl Z)) (opsS_cons (fun f w_ _ _ _ _ p Z=>L_geq rfl (p 0 16 rfl rfl) rfl (nO rfl rfl Z)) (opsS_cons (fun f w_ _ _ _ _ p Z=>mF (p 1 17 rfl rfl) rfl (nO rfl rfl Z)) (oP (fun _ _ p=>gN (p 2 18 rfl rfl) hc57 rfl) (fun _=>rfl) (oP (fun _ _ p=>gN (p 2 18 rfl rfl) hc57 rfl) (fun _=>rfl) (oP (fun _ _ p=>gN (p 2 18 rfl rfl) hc57 rfl) (fun _=>rfl) (oP (fun _ _ p=>gN (p 2 18 rfl rfl) hc57 rfl) (fun _=>rfl) (oP (fun _ _ p=>gN (p 2 18 rfl rfl) hc57 rfl) (fun _=>rfl) (oP (fun _ _ p=>gN (p 2 18 rfl rfl) hc57 rfl) (fun _=>rfl) (oP (fun _ _ p=>gN (p 2 18 rfl rfl) hc57 rfl) (fun _=>rfl) (oP (fun _ _ p=>gN (p 2 18 rfl rfl) hc57 rfl) (fun _=>rfl) (opsS_nil)))))))))))
 refine ps (g_no rfl (Eq.trans (hT53 2 18 rfl rfl) (congrArg Value.bool hc57)) rfl rfl) (L_pick (v:=Bo b52) rfl (Eq.trans (hT53 2 18 rfl rfl) (congrArg Value.bool hc57)) (congrArg Value.bool (so hb52)) (nn (rj hR56 ⟨H53,hE53,((hS53 0 rfl).trans sf0),((hS53 2 rfl).trans sf2),((hS53 6 rfl).trans sf6),((hS53 7 rfl).trans sf7),rfl,Z⟩)))
 intro f w_ hR
 obtain ⟨H54,l55,sf0,sf2,sf6,sf7,sf28,Z⟩:=rk hR56 hR
 refine W_cond (b:=b52) sf28 (fun hc74=>?_) (fun hc74=>?_)
 have hB41:=(ite_t hc74).symm.trans hB41
 refine W_skip (W_block (W_seq ?_))
 obtain ⟨x75,hx75,hB41⟩:=bind_some hB41
 refine W_region (mF sf6 rfl (mF sf7 rfl ?_))
 obtain ⟨g79,cap_g79,hv80,_,_⟩:=Star.row 0 Z rfl hx75
 refine L_ixO (R:=(OR.frz RP.int)) (tb:=0) 0 rfl Tryz.underlying23 Tryz.sizeOf3 rfl hv80 (by first | rfl | simp) rfl hx75 ?_
 have Z:=Star.addF (r:=RP.int) (cs:=[I 0]) (x:=0) Z rfl
 refine L_stE1 (u:=I 0) rfl Tryz.sizeOf3 rfl rfl rfl hv80 Z hx75 (fun w81 Z=>?_)
 refine nn (W_region (mF sf7 rfl (L_sub rfl rfl rfl (aI rfl (nn ?_)))))
 obtain rfl:=so hB41
 show ∃ m,m < _∧I41 m _ _
 refine ⟨n41,Nat.lt_succ_self _,?_⟩
 exact ij hI41 ⟨(cells_37.set (Int.toNat i_38) 0),i64 (i_38 - 1),H54,hL41,(Le.trans l40 l55),sf0,sf2,sf6,rfl,Z⟩
 have hB41:=(ite_f hc74).symm.trans hB41
 refine W_exit ?_
 obtain rfl:=so hB41
 obtain rfl:=so hL41
 exact rj hR41 ⟨cells_37,i_38,H54,rfl,(Le.trans l40 l55),sf0,sf2,sf6,sf7,Z⟩
 intro f w_ hR
 obtain ⟨cells_37,i_38,H39,rfl,l40,sf0,sf2,sf6,sf7,Z⟩:=rk hR41 hR
 refine W_seq (sq (mF sf7 rfl (L_lss rfl rfl rfl (nn (W_cond (b:=decide (i_38 < 0)) rfl (fun hc82=>?_) (fun hc82=>?_))))))
 have hB20:=(ite_t hc82).symm.trans hB20
 refine W_ret (ret0 Tryz.results57 ?_)
 obtain rfl:=so hB20
 obtain rfl:=so hL20
 obtain rfl:=so hF
 exact ⟨rfl,(Star.down (Star.keepN 0 Z) (Le.trans l19 l40) c0)⟩
 have hB20:=(ite_f hc82).symm.trans hB20
 refine W_skip ?_
 obtain ⟨x83,hx83,hB20⟩:=bind_some hB20
 refine W_region (mF sf6 rfl (mF sf7 rfl ?_))
 obtain ⟨g89,cap_g89,hv90,_,_⟩:=Star.row 0 Z rfl hx83
 refine L_ixO (R:=(OR.frz RP.int)) (tb:=0) 0 rfl Tryz.underlying23 Tryz.sizeOf3 rfl hv90 (by first | rfl | simp) rfl hx83 ?_
 obtain ⟨cs91,hr91,hat91⟩:=Star.eltF 0 Z rfl hv90 hx83
 obtain rfl : _ = [_]:=hr91
 refine L_ld rfl Tryz.isAgg3 rfl (At.cell hat91 (j:=0) rfl) (L_add rfl rfl rfl (L_ixO (R:=(OR.frz RP.int)) (tb:=0) 0 rfl Tryz.underlying23 Tryz.sizeOf3 rfl hv90 (by first | rfl | simp) rfl hx83 ?_))
 have Z:=Star.addF (r:=RP.int) (cs:=[I (i64 (x83 + 1))]) (x:=(i64 (x83 + 1))) Z rfl
 refine L_stE1 (u:=I (i64 (x83 + 1))) rfl Tryz.sizeOf3 rfl rfl rfl hv90 Z hx83 (fun w93 Z=>?_)
 refine nn ?_
 obtain rfl:=so hB20
 show ∃ m,m < _∧I20 m _ _
 refine ⟨n20,Nat.lt_succ_self _,?_⟩
 exact ij hI20 ⟨(cells_37.set (Int.toNat i_38) (i64 (x83 + 1))),H39,hL20,(Le.trans l19 l40),sf0,sf2,sf6,Z⟩
 have hB20:=(ite_f hc35).symm.trans hB20
 refine W_exit ?_
 obtain rfl:=so hB20
 obtain rfl:=so hL20
 exact rj hR20 ⟨cells_17,H18,rfl,l19,(Star.keepN 0 Z)⟩
 intro f w_ hR
 obtain ⟨cells_17,H18,rfl,l19,Z⟩:=rk hR20 hR
 refine ret0 Tryz.results57 ?_
 obtain rfl:=so hF
 exact ⟨rfl,(Star.down Z l19 c0)⟩
theorem i_ConstraintValid_c {c : Con} {v0_0 : Value} {H : FH} {w : World} (Z : Star H w []) (h0_0 : (rS 122 rTerm).rel H [v0_0] c.terms) {r : Bool} (hF : i_ConstraintValid c = some r) :
 C Tryz.prog 130 #[.agg #[v0_0,I c.bound]] w fun v w'=>v = Bo r∧Star H w' []:=by
 unfold i_ConstraintValid at hF
 refine C_enter Tryz.func130 rfl Tryz.ntmps130 rfl (sq (L_box (v:=.agg #[v0_0,I c.bound]) (cs:=#[v0_0,I c.bound]) rfl rfl rfl Z (fun g3 w4 Z=>aB rfl (ns (aI rfl (nq (sq (fA 0 fa_73_0 rfl rfl (ldB 0 Z Tryz.isAgg71 rfl rfl rfl (L_len rfl Tryz.underlying71 rfl (slice_len h0_0) (mI rfl (nn ?_))))))))))))
 have hlen7 : List.length c.terms≤9223372036854775807:=len_le (slice_len h0_0)
 obtain ⟨j7,hL7,hF⟩:=bind_some hF
 obtain ⟨R7,hR7⟩:=exR fun f w_=>∃ before_6 : Int,j7 = .nx before_6∧f 1 = Pt g3∧Star H w_ ([box g3 73 #[v0_0,I c.bound]])
 refine W_join R7 ?_ ?_
 refine W_block ?_
 obtain ⟨I7,hI7⟩:=exI fun n f w_=>∃ i_5 : Nat,∃ suf7 : List Term,∃ before_6 : Int,n = suf7.length∧List.drop i_5 c.terms = suf7∧i_5 + suf7.length = c.terms.length∧rangeL i_ConstraintValid_b1 suf7 i_5 before_6 = some j7∧f 1 = Pt g3∧f 3 = I before_6∧f 7 = v0_0∧f 8 = I (c.terms.length : Int)∧f 9 = I i_5∧Star H w_ ([box g3 73 #[v0_0,I c.bound]])
 refine W_loop I7 (n:=c.terms.length) ?_ ?_
 exact ij hI7 ⟨0,c.terms,0,rfl,rfl,Nat.zero_add _,hL7,rfl,rfl,rfl,rfl,rfl,Z⟩
 intro n7 f w_ hI
 obtain ⟨i_5,suf7,before_6,rfl,hd7,hl7,hL7,sf1,sf3,sf7,sf8,sf9,Z⟩:=ik hI7 hI
 refine sq (L_lss rfl sf9 sf8 (nq (W_cond (b:=decide ((i_5 : Int) < (c.terms.length : Int))) rfl (fun hc8=>?_) (fun hc8=>?_))))
 have hlt7:=of_decide_eq_true hc8
 rcases suf7 with _ | ⟨x_7,rest7⟩
 exact absurd hlt7 (by simp at hl7; omega)
 obtain ⟨o7,hB7,hL7⟩:=range_cons hL7
 rw [i_ConstraintValid_b1] at hB7
 have hix7:=drop_idx hd7
 refine W_skip (W_seq (W_block (sq (L_ix (r:=rTerm) rfl Tryz.underlying71 Tryz.sizeOf122 sf7 h0_0 sf9 hix7 (fun g16 o17 cs_g16 hrk_hat18 hat18=>?_)))))
 obtain rfl:=rTerm_iff.1 hrk_hat18
 refine L_lda (cs:=[I x_7.coef,I x_7.lit]) rfl Tryz.isAgg122 Tryz.sizeOf122 rfl (At.sub (AtH.at hat18 Z.sub) 0 2) rfl (L_al (cs:=#[I 0,I 0]) rfl Tryz.zeroValue122 rfl Z (fun g20 w21 Z=>L_staB (vs:=#[I x_7.coef,I x_7.lit]) (cs2:=#[I x_7.coef,I x_7.lit]) 0 rfl Tryz.sizeOf122 rfl rfl rfl (ones_cons rfl (ones_cons rfl ones_nil)) Z rfl (by show 0 + 2≤2; decide) rfl (fun w22 Z=>nq (W_seq ?_))))
 obtain ⟨x28,hx28,hB7⟩:=bind_some hB7
 obtain ⟨b37,hb37,hB7⟩:=bind_some hB7
 obtain ⟨b45,hb45,hB7⟩:=bind_some hB7
 obtain ⟨R46,hR46⟩:=exR fun f w_=>f 1 = Pt g3∧f 5 = Pt g20∧f 7 = v0_0∧f 8 = I (c.terms.length : Int)∧f 9 = I i_5∧f 29 = Bo b45∧Star H w_ ([box g20 122 #[I x_7.coef,I x_7.lit],box g3 73 #[v0_0,I c.bound]])
 refine W_join R46 ?_ ?_
 refine W_region (fA 1 fa_122_1 rfl rfl (ldB 0 Z Tryz.isAgg3 rfl rfl rfl ?_))
 obtain ⟨H47b,l48,s49,z50,k51⟩:=Z.borrow
 refine L_call rfl Tryz.call96 (ops1 rfl) (i_isLiteral_c (l:=x_7.lit) s49 hx28) ?_
 rintro _ w52 ⟨rfl,Z⟩
 have Z:=k51 Z c0
 refine L_not_ rfl rfl (mB rfl (L_split (d:=17) (b:=(!x28)) rfl (fun hc53=>?_) (fun hc53=>?_)))
 rw [ite_t hc53] at hb37
 refine ps rfl (ps rfl (ps rfl (ps rfl (ps rfl (L_pick (v:=Bo b37) rfl rfl (congrArg Value.bool (so hb37)) (mB rfl (L_split (d:=24) (b:=b37) rfl (fun hc54=>?_) (fun hc54=>?_))))))))
 rw [ite_t hc54] at hb45
 refine ps rfl (ps rfl (ps rfl (ps rfl (L_pick (v:=Bo b45) rfl rfl (congrArg Value.bool (so hb45)) (nn (rj hR46 ⟨sf1,rfl,sf7,sf8,sf9,rfl,Z⟩))))))
 rw [ite_f hc54] at hb45
 obtain ⟨x43,hx43,hb45⟩:=bind_some hb45
 refine fA 0 fa_122_0 rfl rfl (ldB 0 Z Tryz.isAgg3 rfl rfl rfl ?_)
 obtain ⟨H55b,l56,s57,z58,k59⟩:=Z.borrow
 refine L_call rfl Tryz.call92 (ops3 rfl rfl rfl) (i_within_c (n_:=x_7.coef) (low:=1) (high:=1000) s57 hx43) ?_
 rintro _ w60 ⟨rfl,Z⟩
 have Z:=k59 Z c0
 refine L_not_ rfl rfl (L_pick (v:=Bo b45) rfl rfl (congrArg Value.bool (so hb45)) (nn (rj hR46 ⟨sf1,rfl,sf7,sf8,sf9,rfl,Z⟩)))
 rw [ite_f hc53] at hb37
 obtain ⟨x35,hx35,hb37⟩:=bind_some hb37
 refine fA 1 fa_122_1 rfl rfl (ldB 0 Z Tryz.isAgg3 rfl rfl rfl ?_)
 obtain ⟨H61b,l62,s63,z64,k65⟩:=Z.borrow
 refine L_call rfl Tryz.call100 (ops1 rfl) (i_variableOf_c (l:=x_7.lit) s63 hx35) ?_
 rintro _ w66 ⟨rfl,Z⟩
 have Z:=k65 Z c0
 refine mF sf3 rfl (L_leq rfl rfl rfl (L_pick (v:=Bo b37) rfl rfl (congrArg Value.bool (so hb37)) (mB rfl (L_split (d:=24) (b:=b37) rfl (fun hc67=>?_) (fun hc67=>?_)))))
 rw [ite_t hc67] at hb45
 refine ps rfl (ps rfl (ps rfl (ps rfl (L_pick (v:=Bo b45) rfl rfl (congrArg Value.bool (so hb45)) (nn (rj hR46 ⟨sf1,rfl,sf7,sf8,sf9,rfl,Z⟩))))))
 rw [ite_f hc67] at hb45
 obtain ⟨x43,hx43,hb45⟩:=bind_some hb45
 refine fA 0 fa_122_0 rfl rfl (ldB 0 Z Tryz.isAgg3 rfl rfl rfl ?_)
 obtain ⟨H68b,l69,s70,z71,k72⟩:=Z.borrow
 refine L_call rfl Tryz.call92 (ops3 rfl rfl rfl) (i_within_c (n_:=x_7.coef) (low:=1) (high:=1000) s70 hx43) ?_
 rintro _ w73 ⟨rfl,Z⟩
 have Z:=k72 Z c0
 refine L_not_ rfl rfl (L_pick (v:=Bo b45) rfl rfl (congrArg Value.bool (so hb45)) (nn (rj hR46 ⟨sf1,rfl,sf7,sf8,sf9,rfl,Z⟩)))
 intro f w_ hR
 obtain ⟨sf1,sf5,sf7,sf8,sf9,sf29,Z⟩:=rk hR46 hR
 refine W_cond (b:=b45) sf29 (fun hc74=>?_) (fun hc74=>?_)
 have hB7:=(ite_t hc74).symm.trans hB7
 refine sq (aB rfl (nn (W_ret (retG1 (v1:=Bo false) Tryz.results130 rfl ?_))))
 obtain rfl:=so hB7
 obtain rfl:=so hL7
 obtain rfl:=so hF
 exact ⟨rfl,(Star.keepN 0 Z)⟩
 have hB7:=(ite_f hc74).symm.trans hB7
 refine W_skip ?_
 obtain ⟨x80,hx80,hB7⟩:=bind_some hB7
 refine W_region (fA 1 fa_122_1 sf5 rfl (ldB 0 Z Tryz.isAgg3 rfl rfl rfl ?_))
 obtain ⟨H82b,l83,s84,z85,k86⟩:=Z.borrow
 refine L_call rfl Tryz.call100 (ops1 rfl) (i_variableOf_c (l:=x_7.lit) s84 hx80) ?_
 rintro _ w87 ⟨rfl,Z⟩
 have Z:=k86 Z c0
 refine aI rfl (nn (W_region (L_add rfl sf9 rfl (mI rfl (nn ?_)))))
 obtain rfl:=so hB7
 have Z:=Z.get 1 rfl
 show ∃ m,m < _∧I7 m _ _
 refine ⟨rest7.length,by simp,?_⟩
 exact ij hI7 ⟨i_5 + 1,rest7,x80,rfl,drop_next hd7,by simp at hl7; omega,hL7,sf1,rfl,sf7,sf8,(Eq.trans rfl (congrArg (Value.int .i64) (i64_succ (n:=c.terms.length) (by simp at hl7; omega) hlen7))),(Star.keepN 1 Z)⟩
 rcases suf7 with _ | ⟨_,_⟩
 obtain rfl:=range_nil hL7
 refine W_exit (rj hR7 ⟨before_6,rfl,sf1,Z⟩)
 exact absurd (of_decide_eq_false hc8) (by simp at hl7; omega)
 intro f w_ hR
 obtain ⟨before_6,rfl,sf1,Z⟩:=rk hR7 hR
 refine W_seq ?_
 obtain ⟨x93,hx93,hF⟩:=bind_some hF
 refine W_region (fA 1 fa_73_1 sf1 rfl (ldB 0 Z Tryz.isAgg3 rfl rfl rfl ?_))
 obtain ⟨H95b,l96,s97,z98,k99⟩:=Z.borrow
 refine L_call rfl Tryz.call92 (ops3 rfl rfl rfl) (i_within_c (n_:=c.bound) (low:=0) (high:=20000) s97 hx93) ?_
 rintro _ w100 ⟨rfl,Z⟩
 have Z:=k99 Z c0
 refine aB rfl (nn (W_ret (retG1 (v1:=Bo x93) Tryz.results130 rfl ?_)))
 obtain rfl:=so hF
 exact ⟨rfl,(Star.keepN 0 Z)⟩
theorem i_Constraint_valid_c {c : Con} {v0_0 : Value} {H : FH} {w : World} (Z : Star H w [oF 122 rTerm v0_0 c.terms]) {r : Con × Bool} (hF : i_Constraint_valid c = some r) :
 C Tryz.prog 144 #[.agg #[v0_0,I c.bound]] w fun v w'=>∃ (u1 : Value),v = .tuple #[.agg #[u1,I r.1.bound],Bo r.2]∧Star H w' [oF 122 rTerm u1 r.1.terms]:=by
 unfold i_Constraint_valid at hF
 refine C_enter Tryz.func144 rfl Tryz.ntmps144 rfl (sq (L_box (v:=.agg #[v0_0,I c.bound]) (cs:=#[v0_0,I c.bound]) rfl rfl rfl Z (fun g5 w6 Z=>L_al (cs:=#[S0,I 0]) rfl Tryz.zeroValue73 rfl Z (fun g7 w8 Z=>aB rfl (nq (W_seq ?_))))))
 obtain ⟨x15,hx15,hF⟩:=bind_some hF
 refine W_region (L_lda (cs:=[v0_0,I c.bound]) rfl Tryz.isAgg73 Tryz.sizeOf73 rfl (At.sub0 (Blk.at (Star.blkAt 1 Z rfl)) 0 2) rfl ?_)
 obtain ⟨H17b,l18,s19,z20,k21⟩:=Z.borrow
 have hb22 : (rS 122 rTerm).rel H17b [v0_0] c.terms:=fz_own 2 z20 rfl
 refine L_call rfl Tryz.call130 (ops1 rfl) (i_ConstraintValid_c (c:=c) s19 hb22 hx15) ?_
 rintro _ w23 ⟨rfl,Z⟩
 have Z:=k21 Z c0
 refine L_not_ rfl rfl (nn (W_cond (b:=(!x15)) rfl (fun hc24=>?_) (fun hc24=>?_)))
 have hF:=(ite_t hc24).symm.trans hF
 refine sq (L_bld rfl (parts0 ) (bld_73_  ) (L_staB (vs:=#[S0,I 0]) (cs2:=#[S0,I 0]) 0 rfl Tryz.sizeOf73 rfl rfl rfl (ones_cons rfl (ones_cons rfl ones_nil)) Z rfl (by show 0 + 2≤2; decide) rfl (fun w26 Z=>aB rfl (nn (W_ret (retG2 (v1:=.agg #[S0,I 0]) (v2:=Bo false) Tryz.results144 (resV_agg Tryz.isAgg73 Tryz.sizeOf73 rfl (Star.blkAt 0 Z rfl) rfl) rfl ?_))))))
 obtain rfl:=so hF
 have Z:=Star.addNil (R:=(OR.frz rTerm)) (e:=122) Z
 exact ⟨S0,rfl,(Star.keepN 1 Z)⟩
 have hF:=(ite_f hc24).symm.trans hF
 refine W_skip (sq (L_lda (cs:=[v0_0,I c.bound]) rfl Tryz.isAgg73 Tryz.sizeOf73 rfl (At.sub0 (Blk.at (Star.blkAt 1 Z rfl)) 0 2) rfl (L_staB (vs:=#[v0_0,I c.bound]) (cs2:=#[v0_0,I c.bound]) 0 rfl Tryz.sizeOf73 rfl rfl rfl (ones_cons (one_len (Star.len 2 Z rfl)) (ones_cons rfl ones_nil)) Z rfl (by show 0 + 2≤2; decide) rfl (fun w29 Z=>aB rfl (nn (W_ret (retG2 (v1:=.agg #[v0_0,I c.bound]) (v2:=Bo true) Tryz.results144 (resV_agg Tryz.isAgg73 Tryz.sizeOf73 rfl (Star.blkAt 0 Z rfl) rfl) rfl ?_)))))))
 obtain rfl:=so hF
 have Z:=Z.get 2 rfl
 exact ⟨v0_0,rfl,(Star.keepN 1 Z)⟩
theorem i_normal_c {terms : List Term} {bound : Int} {v0 : Value} {H : FH} {w : World} (Z : Star H w []) (h0 : (rS 122 rTerm).rel H [v0] terms) {r : Con × Bool} (hF : i_normal terms bound = some r) :
 C Tryz.prog 102 #[v0,I bound] w fun v w'=>∃ (u1 : Value),v = .tuple #[.agg #[u1,I r.1.bound],Bo r.2]∧Star H w' [oF 122 rTerm u1 r.1.terms]:=by
 unfold i_normal at hF
 refine C_enter Tryz.func102 rfl Tryz.ntmps102 rfl (sq (L_al (cs:=#[S0,I 0]) rfl Tryz.zeroValue73 rfl Z (fun g3 w4 Z=>aB rfl (ns (L_al (cs:=arrC (List.replicate 13 (0 : Int))) rfl Tryz.zeroValue149 rfl Z (fun g11 w12 Z=>?_))))))
 have Z:=Star.toArr (List.replicate 13 (0 : Int)) 13 rfl rfl Z
 refine nq (sq (mV v0 rfl (L_len rfl Tryz.underlying71 rfl (slice_len h0) (mI rfl (nn ?_)))))
 have hlen18 : List.length terms≤9223372036854775807:=len_le (slice_len h0)
 obtain ⟨j18,hL18,hF⟩:=bind_some hF
 obtain ⟨R18,hR18⟩:=exR fun f w_=>∃ bound_14 : Int,∃ ag11_15 : List Int,∃ H16 : FH,j18 = .nx (bound_14,ag11_15)∧Le H H16∧f 1 = I bound_14∧f 4 = Pt g3∧f 6 = Pt g11∧Star H16 w_ ([arr g11 149 13 ag11_15,box g3 73 #[S0,I 0]])
 refine W_join R18 ?_ ?_
 refine W_block ?_
 obtain ⟨I18,hI18⟩:=exI fun n f w_=>∃ i_13 : Nat,∃ suf18 : List Term,∃ bound_14 : Int,∃ ag11_15 : List Int,∃ H16 : FH,n = suf18.length∧List.drop i_13 terms = suf18∧i_13 + suf18.length = terms.length∧rangeL i_normal_b1 suf18 i_13 (bound_14,ag11_15) = some j18∧Le H H16∧f 1 = I bound_14∧f 4 = Pt g3∧f 6 = Pt g11∧f 12 = v0∧f 13 = I (terms.length : Int)∧f 14 = I i_13∧Star H16 w_ ([arr g11 149 13 ag11_15,box g3 73 #[S0,I 0]])
 refine W_loop I18 (n:=terms.length) ?_ ?_
 exact ij hI18 ⟨0,terms,bound,(List.replicate 13 (0 : Int)),H,rfl,rfl,Nat.zero_add _,hL18,(Le.refl _),rfl,rfl,rfl,rfl,rfl,rfl,Z⟩
 intro n18 f w_ hI
 obtain ⟨i_13,suf18,bound_14,ag11_15,H16,rfl,hd18,hl18,hL18,l17,sf1,sf4,sf6,sf12,sf13,sf14,Z⟩:=ik hI18 hI
 refine sq (L_lss rfl sf14 sf13 (nq (W_cond (b:=decide ((i_13 : Int) < (terms.length : Int))) rfl (fun hc19=>?_) (fun hc19=>?_))))
 have hlt18:=of_decide_eq_true hc19
 rcases suf18 with _ | ⟨x_18,rest18⟩
 exact absurd hlt18 (by simp at hl18; omega)
 obtain ⟨o18,hB18,hL18⟩:=range_cons hL18
 rw [i_normal_b1] at hB18
 have hix18:=drop_idx hd18
 refine W_skip (W_seq (W_block (sq (L_ix (r:=rTerm) rfl Tryz.underlying71 Tryz.sizeOf122 sf12 (RP.mono _ h0 l17) sf14 hix18 (fun g27 o28 cs_g27 hrk_hat29 hat29=>?_)))))
 obtain rfl:=rTerm_iff.1 hrk_hat29
 refine L_lda (cs:=[I x_18.coef,I x_18.lit]) rfl Tryz.isAgg122 Tryz.sizeOf122 rfl (At.sub (AtH.at hat29 Z.sub) 0 2) rfl (L_al (cs:=#[I 0,I 0]) rfl Tryz.zeroValue122 rfl Z (fun g31 w32 Z=>L_staB (vs:=#[I x_18.coef,I x_18.lit]) (cs2:=#[I x_18.coef,I x_18.lit]) 0 rfl Tryz.sizeOf122 rfl rfl rfl (ones_cons rfl (ones_cons rfl ones_nil)) Z rfl (by show 0 + 2≤2; decide) rfl (fun w33 Z=>ns (fA 1 fa_122_1 rfl rfl (ldB 0 Z Tryz.isAgg3 rfl rfl rfl (L_lss rfl rfl rfl (nn ?_)))))))
 obtain ⟨⟨bound_34,ag11_35⟩,hA38,hB18⟩:=bind_some hB18
 obtain ⟨R38,hR38⟩:=exR fun f w_=>∃ H36 : FH,Le H16 H36∧f 1 = I bound_34∧f 4 = Pt g3∧f 6 = Pt g11∧f 12 = v0∧f 13 = I (terms.length : Int)∧f 14 = I i_13∧Star H36 w_ ([arr g11 149 13 ag11_35,box g3 73 #[S0,I 0]])
 refine W_join R38 ?_ ?_
 refine W_cond (b:=decide (x_18.lit < 0)) rfl (fun hc39=>?_) (fun hc39=>?_)
 have hA38:=(ite_t hc39).symm.trans hA38
 refine sq (mF sf1 rfl (fA 0 fa_122_0 rfl rfl (ldB 0 Z Tryz.isAgg3 rfl rfl rfl (L_sub rfl rfl rfl (aI rfl (nn ?_))))))
 obtain ⟨x40,hx40,hA38⟩:=bind_some hA38
 refine W_drawS 7 [isV (Pq g31 1),isV (I x_18.lit),isV (I (i64 (-x_18.lit))),isV (.pointer (some ⟨g11,Int.toNat (i64 (-x_18.lit)) * 1,none⟩)),isV (I x40),isV (Pt g31),isV (I x_18.coef)] [box g31 122 #[I x_18.coef,I x_18.lit],arr g11 149 13 ag11_15,box g3 73 #[S0,I 0]] [] ([]) [([],[]),([],[]),([],[]),([],[]),([],[]),([],[]),([],[])] (S:=[]) Tryz_mix (by kernel_rfl) rfl (by kernel_rfl) (amF_cons (mono_V _) (amF_cons (mono_V _) (amF_cons (mono_V _) (amF_cons (mono_V _) (amF_cons (mono_V _) (amF_cons (mono_V _) (amF_cons (mono_V _) amF_nil))))))) Z ?_ (fun f w_ H42 hS42 hE42 hT42 Z=>?_)
 refine opsS_cons (fun f w_ _ _ s _ _ Z=>fA 1 fa_122_1 ((s 8 rfl).trans rfl) rfl (nO rfl rfl Z)) (opsS_cons (fun f w_ _ _ _ _ p Z=>ldB 0 Z Tryz.isAgg3 (p 0 25 rfl rfl) rfl rfl (nO rfl rfl Z)) (opsS_cons (fun f w_ _ _ _ _ p Z=>L_neg rfl (p 1 26 rfl rfl) (nO rfl rfl Z)) (opsS_cons (fun f w_ _ _ s _ p Z=>L_ixA 1 rfl Tryz.underlying149 Tryz.sizeOf3 ((s 6 rfl).trans sf6) (p 2 27 rfl rfl) Z rfl hx40 (nO rfl rfl Z)) (opsS_cons (fun f w_ _ _ _ _ p Z=>L_ldA 1 rfl Tryz.isAgg3 (p 3 28 rfl rfl) Z rfl hx40 (nO rfl rfl Z)) (opsS_cons (fun f w_ _ _ s _ _ Z=>fA 0 fa_122_0 ((s 8 rfl).trans rfl) rfl (nO rfl rfl Z)) (opsS_cons (fun f w_ _ _ _ _ p Z=>ldB 0 Z Tryz.isAgg3 (p 5 30 rfl rfl) rfl rfl (nO rfl rfl Z)) (opsS_nil)))))))
 refine L_sub rfl (hT42 4 29 rfl rfl) (hT42 6 31 rfl rfl) (L_ixA 1 rfl Tryz.underlying149 Tryz.sizeOf3 ((hS42 6 rfl).trans sf6) (hT42 2 27 rfl rfl) Z rfl hx40 ?_)
 have Z:=Z.get 1 rfl
 refine L_stA rfl Tryz.sizeOf3 rfl rfl Z hx40 (fun w43 Z=>nn ?_)
 obtain ⟨rfl,rfl⟩:=so2 hA38
 have Z:=Z.gets [2,1] rfl
 exact rj hR38 ⟨H42,hE42,((hS42 1 rfl).trans rfl),((hS42 4 rfl).trans sf4),((hS42 6 rfl).trans sf6),((hS42 12 rfl).trans sf12),((hS42 13 rfl).trans sf13),((hS42 14 rfl).trans sf14),(Star.keepN 2 Z)⟩
 have hA38:=(ite_f hc39).symm.trans hA38
 obtain ⟨x44,hx44,hA38⟩:=bind_some hA38
 refine W_drawS 6 [isV (Pq g31 1),isV (I x_18.lit),isV (.pointer (some ⟨g11,Int.toNat x_18.lit * 1,none⟩)),isV (I x44),isV (Pt g31),isV (I x_18.coef)] [box g31 122 #[I x_18.coef,I x_18.lit],arr g11 149 13 ag11_15,box g3 73 #[S0,I 0]] [] ([]) [([],[]),([],[]),([],[]),([],[]),([],[]),([],[])] (S:=[]) Tryz_mix (by kernel_rfl) rfl (by kernel_rfl) (amF_cons (mono_V _) (amF_cons (mono_V _) (amF_cons (mono_V _) (amF_cons (mono_V _) (amF_cons (mono_V _) (amF_cons (mono_V _) amF_nil)))))) Z ?_ (fun f w_ H46 hS46 hE46 hT46 Z=>?_)
 refine opsS_cons (fun f w_ _ _ s _ _ Z=>fA 1 fa_122_1 ((s 8 rfl).trans rfl) rfl (nO rfl rfl Z)) (opsS_cons (fun f w_ _ _ _ _ p Z=>ldB 0 Z Tryz.isAgg3 (p 0 34 rfl rfl) rfl rfl (nO rfl rfl Z)) (opsS_cons (fun f w_ _ _ s _ p Z=>L_ixA 1 rfl Tryz.underlying149 Tryz.sizeOf3 ((s 6 rfl).trans sf6) (p 1 35 rfl rfl) Z rfl hx44 (nO rfl rfl Z)) (opsS_cons (fun f w_ _ _ _ _ p Z=>L_ldA 1 rfl Tryz.isAgg3 (p 2 36 rfl rfl) Z rfl hx44 (nO rfl rfl Z)) (opsS_cons (fun f w_ _ _ s _ _ Z=>fA 0 fa_122_0 ((s 8 rfl).trans rfl) rfl (nO rfl rfl Z)) (opsS_cons (fun f w_ _ _ _ _ p Z=>ldB 0 Z Tryz.isAgg3 (p 4 38 rfl rfl) rfl rfl (nO rfl rfl Z)) (opsS_nil))))))
 refine L_add rfl (hT46 3 37 rfl rfl) (hT46 5 39 rfl rfl) (L_ixA 1 rfl Tryz.underlying149 Tryz.sizeOf3 ((hS46 6 rfl).trans sf6) (hT46 1 35 rfl rfl) Z rfl hx44 ?_)
 have Z:=Z.get 1 rfl
 refine L_stA rfl Tryz.sizeOf3 rfl rfl Z hx44 (fun w47 Z=>nn ?_)
 obtain ⟨rfl,rfl⟩:=so2 hA38
 have Z:=Z.gets [2,1] rfl
 exact rj hR38 ⟨H46,hE46,((hS46 1 rfl).trans sf1),((hS46 4 rfl).trans sf4),((hS46 6 rfl).trans sf6),((hS46 12 rfl).trans sf12),((hS46 13 rfl).trans sf13),((hS46 14 rfl).trans sf14),(Star.keepN 2 Z)⟩
 intro f w_ hR
 obtain ⟨H36,l37,sf1,sf4,sf6,sf12,sf13,sf14,Z⟩:=rk hR38 hR
 refine W_region (L_add rfl sf14 rfl (mI rfl (nn ?_)))
 obtain rfl:=so hB18
 show ∃ m,m < _∧I18 m _ _
 refine ⟨rest18.length,by simp,?_⟩
 exact ij hI18 ⟨i_13 + 1,rest18,bound_34,ag11_35,H36,rfl,drop_next hd18,by simp at hl18; omega,hL18,(Le.trans l17 l37),sf1,sf4,sf6,sf12,sf13,(Eq.trans rfl (congrArg (Value.int .i64) (i64_succ (n:=terms.length) (by simp at hl18; omega) hlen18))),Z⟩
 rcases suf18 with _ | ⟨_,_⟩
 obtain rfl:=range_nil hL18
 refine W_exit (rj hR18 ⟨bound_14,ag11_15,H16,rfl,l17,sf1,sf4,sf6,Z⟩)
 exact absurd (of_decide_eq_false hc19) (by simp at hl18; omega)
 intro f w_ hR
 obtain ⟨bound_14,ag11_15,H16,rfl,l17,sf1,sf4,sf6,Z⟩:=rk hR18 hR
 refine sq (L_bld rfl (parts0 ) (bld_73_  ) (L_al (cs:=#[S0,I 0]) rfl Tryz.zeroValue73 rfl Z (fun g51 w52 Z=>L_staB (vs:=#[S0,I 0]) (cs2:=#[S0,I 0]) 0 rfl Tryz.sizeOf73 rfl rfl rfl (ones_cons rfl (ones_cons rfl ones_nil)) Z rfl (by show 0 + 2≤2; decide) rfl (fun w53 Z=>nq (sq ?_)))))
 have hla55:=(Star.arrAt 1 Z rfl).2
 refine L_ldAA 1 rfl Tryz.isAgg149 Tryz.sizeOf149 sf6 Z rfl (mI rfl (nn ?_))
 obtain ⟨k61,hk61,hF⟩:=bind_some hF
 obtain ⟨j60,hL60,hF⟩:=bind_some hF
 obtain ⟨R60,hR60⟩:=exR fun f w_=>∃ bound_57 : Int,∃ g51_0_58 : List Term,∃ v58_g51_0 : Value,j60 = .nx (bound_57,g51_0_58)∧f 1 = I bound_57∧f 4 = Pt g3∧f 9 = Pt g51∧Star H16 w_ ([oF 122 rTerm v58_g51_0 g51_0_58,box g51 73 #[v58_g51_0,I 0],box g3 73 #[S0,I 0]])
 refine W_join R60 ?_ ?_
 refine W_block ?_
 obtain ⟨I60,hI60⟩:=exI fun n f w_=>∃ i_56 : Nat,∃ suf60 : Nat,∃ bound_57 : Int,∃ g51_0_58 : List Term,∃ v58_g51_0 : Value,suf60 = n∧0≤i_56∧i_56 + suf60 = 0 + k61∧countL (i_normal_b2 ag11_15) suf60 i_56 (bound_57,g51_0_58) = some j60∧f 1 = I bound_57∧f 4 = Pt g3∧f 9 = Pt g51∧f 44 = (.agg (arrC ag11_15))∧f 45 = I i_56∧Star H16 w_ ([oF 122 rTerm v58_g51_0 g51_0_58,box g51 73 #[v58_g51_0,I 0],box g3 73 #[S0,I 0]])
 have Z:=Star.addNil (R:=(OR.frz rTerm)) (e:=122) Z
 have Z:=Z.gets [3,2,2] rfl
 refine W_loop I60 (n:=k61) ?_ ?_
 exact ij hI60 ⟨0,k61,bound_14,[],S0,rfl,Nat.le_refl _,rfl,hL60,sf1,sf4,rfl,rfl,rfl,(Star.keepN 3 Z)⟩
 intro n60 f w_ hI
 obtain ⟨i_56,suf60,bound_57,g51_0_58,v58_g51_0,rfl,hs60,hl60,hL60,sf1,sf4,sf9,sf44,sf45,Z⟩:=ik hI60 hI
 refine sq (L_lss rfl sf45 rfl (nq (W_cond (b:=decide ((i_56 : Int) < 13)) rfl (fun hc63=>?_) (fun hc63=>?_))))
 have hlt60:=of_decide_eq_true hc63
 rcases suf60 with _ | rest60
 exact absurd hlt60 (cntF_no hl60 hk61)
 obtain ⟨o60,hB60,hL60⟩:=count_succ hL60
 rw [i_normal_b2] at hB60
 refine W_skip (W_seq (W_block (W_seq ?_)))
 obtain ⟨x64,hx64,hB60⟩:=bind_some hB60
 refine W_region (mF sf45 rfl (L_ixV rfl Tryz.underlying149 Tryz.sizeOf3 Tryz.isAgg3 sf44 sf45 hla55 hx64 (aI rfl (aI rfl (nn (W_block (sq (mI rfl (L_gtr rfl rfl rfl (aB rfl (nn ?_)))))))))))
 obtain ⟨⟨bound_65,g51_0_66⟩,hA68,hB60⟩:=bind_some hB60
 obtain ⟨R68,hR68⟩:=exR fun f w_=>∃ v66_g51_0 : Value,f 1 = I bound_65∧f 4 = Pt g3∧f 9 = Pt g51∧f 44 = (.agg (arrC ag11_15))∧f 45 = I i_56∧Star H16 w_ ([oF 122 rTerm v66_g51_0 g51_0_66,box g51 73 #[v66_g51_0,I 0],box g3 73 #[S0,I 0]])
 refine W_join R68 ?_ ?_
 refine W_cond (b:=decide (x64 > 0)) rfl (fun hc69=>?_) (fun hc69=>?_)
 have hA68:=(ite_t hc69).symm.trans hA68
 obtain ⟨x73,hx73,hA68⟩:=bind_some hA68
 refine W_region (fA 0 fa_73_0 sf9 rfl (ldB 1 Z Tryz.isAgg71 rfl rfl rfl (mI rfl (mI rfl (L_bld rfl (parts2 rfl rfl) (bld_122_0_1 (I x64) (I i_56) rfl rfl) (L_bs rfl (parts1 rfl) (bs_71_1_2 (I x64) (I i_56) ) Z (fun g78 w79 Z=>?_)))))))
 have Z:=Star.addF (r:=rTerm) (cs:=[I x64,I i_56]) (x:=({ coef:=x64,lit:=(i_56 : Int) } : Term)) Z (rTerm_iff.2 rfl)
 have Z:=Star.mkRow (R:=(OR.frz rTerm)) [([I x64,I i_56],({ coef:=x64,lit:=(i_56 : Int) } : Term))] [({ coef:=x64,lit:=(i_56 : Int) } : Term)] 1 Z rfl rfl rfl (by decide)
 have Z:=Z.get 1 rfl
 refine L_appM (v:=v58_g51_0) (u:=(Sl g78 1 1)) rfl et_71 rfl rfl Z hx73 (fun v81 w82 Z=>fA 0 fa_73_0 sf9 rfl (L_stB (v:=v81) (cs2:=#[v81,I 0]) 1 rfl Tryz.sizeOf71 rfl rfl (one_len (Star.len 0 Z rfl)) Z rfl rfl rfl (fun w84 Z=>nn ?_)))
 obtain ⟨rfl,rfl⟩:=so2 hA68
 have Z:=Z.gets [2,1,2] rfl
 exact rj hR68 ⟨v81,sf1,sf4,sf9,sf44,sf45,Z⟩
 have hA68:=(ite_f hc69).symm.trans hA68
 refine sq (mI rfl (L_lss rfl rfl rfl (aB rfl (nn ?_))))
 obtain ⟨⟨bound_85,g51_0_86⟩,hA88,hA68⟩:=bind_some hA68
 obtain ⟨R88,hR88⟩:=exR fun f w_=>∃ v86_g51_0 : Value,f 1 = I bound_85∧f 4 = Pt g3∧f 9 = Pt g51∧f 44 = (.agg (arrC ag11_15))∧f 45 = I i_56∧Star H16 w_ ([oF 122 rTerm v86_g51_0 g51_0_86,box g51 73 #[v86_g51_0,I 0],box g3 73 #[S0,I 0]])
 refine W_join R88 ?_ ?_
 refine W_cond (b:=decide (x64 < 0)) rfl (fun hc89=>?_) (fun hc89=>?_)
 have hA88:=(ite_t hc89).symm.trans hA88
 refine W_seq ?_
 obtain ⟨x93,hx93,hA88⟩:=bind_some hA88
 refine W_region (fA 0 fa_73_0 sf9 rfl (ldB 1 Z Tryz.isAgg71 rfl rfl rfl (mI rfl (L_neg rfl rfl (mI rfl (L_neg rfl rfl (L_bld rfl (parts2 rfl rfl) (bld_122_0_1 (I (i64 (-x64))) (I (i64 (-(i_56 : Int)))) rfl rfl) (L_bs rfl (parts1 rfl) (bs_71_1_2 (I (i64 (-x64))) (I (i64 (-(i_56 : Int)))) ) Z (fun g98 w99 Z=>?_)))))))))
 have Z:=Star.addF (r:=rTerm) (cs:=[I (i64 (-x64)),I (i64 (-(i_56 : Int)))]) (x:=({ coef:=i64 (-x64),lit:=i64 (-(i_56 : Int)) } : Term)) Z (rTerm_iff.2 rfl)
 have Z:=Star.mkRow (R:=(OR.frz rTerm)) [([I (i64 (-x64)),I (i64 (-(i_56 : Int)))],({ coef:=i64 (-x64),lit:=i64 (-(i_56 : Int)) } : Term))] [({ coef:=i64 (-x64),lit:=i64 (-(i_56 : Int)) } : Term)] 1 Z rfl rfl rfl (by decide)
 have Z:=Z.get 1 rfl
 refine L_appM (v:=v58_g51_0) (u:=(Sl g98 1 1)) rfl et_71 rfl rfl Z hx93 (fun v101 w102 Z=>fA 0 fa_73_0 sf9 rfl (L_stB (v:=v101) (cs2:=#[v101,I 0]) 1 rfl Tryz.sizeOf71 rfl rfl (one_len (Star.len 0 Z rfl)) Z rfl rfl rfl (fun w104 Z=>nn (W_region (mF sf1 rfl (mI rfl (L_sub rfl rfl rfl (aI rfl (nn ?_)))))))))
 obtain ⟨rfl,rfl⟩:=so2 hA88
 have Z:=Z.gets [2,1,2] rfl
 exact rj hR88 ⟨v101,rfl,sf4,sf9,sf44,sf45,Z⟩
 have hA88:=(ite_f hc89).symm.trans hA88
 refine W_skip ?_
 obtain ⟨rfl,rfl⟩:=so2 hA88
 exact rj hR88 ⟨v58_g51_0,sf1,sf4,sf9,sf44,sf45,Z⟩
 intro f w_ hR
 obtain ⟨v86_g51_0,sf1,sf4,sf9,sf44,sf45,Z⟩:=rk hR88 hR
 obtain ⟨rfl,rfl⟩:=so2 hA68
 exact rj hR68 ⟨v86_g51_0,sf1,sf4,sf9,sf44,sf45,Z⟩
 intro f w_ hR
 obtain ⟨v66_g51_0,sf1,sf4,sf9,sf44,sf45,Z⟩:=rk hR68 hR
 refine W_region (L_add rfl sf45 rfl (mI rfl (nn ?_)))
 obtain rfl:=so hB60
 show ∃ m,m < _∧I60 m _ _
 refine ⟨rest60,Nat.lt_succ_self _,?_⟩
 exact ij hI60 ⟨i_56 + 1,rest60,bound_65,g51_0_66,v66_g51_0,rfl,by omega,by omega,hL60,sf1,sf4,sf9,sf44,(Eq.trans rfl (congrArg (Value.int .i64) (i64_succ (n:=0 + k61) (by omega) (cntF_le hk61)))),Z⟩
 rcases suf60 with _ | _
 obtain rfl:=count_zero hL60
 refine W_exit (rj hR60 ⟨bound_57,g51_0_58,v58_g51_0,rfl,sf1,sf4,sf9,Z⟩)
 exact absurd (cntF_yes hs60 hl60 hk61) (of_decide_eq_false hc63)
 intro f w_ hR
 obtain ⟨bound_57,g51_0_58,v58_g51_0,rfl,sf1,sf4,sf9,Z⟩:=rk hR60 hR
 refine sq (mF sf1 rfl (L_max rfl rfl rfl (fA 1 fa_73_1 sf9 rfl (L_stB (v:=I (max 0 bound_57)) (cs2:=#[v58_g51_0,I (max 0 bound_57)]) 1 rfl Tryz.sizeOf3 rfl rfl rfl Z rfl rfl rfl (fun w106 Z=>nq ?_)))))
 obtain ⟨x112,hx112,hF⟩:=bind_some hF
 refine W_region (L_lda (cs:=[v58_g51_0,I (max 0 bound_57)]) rfl Tryz.isAgg73 Tryz.sizeOf73 sf9 (At.sub0 (Blk.at (Star.blkAt 0 Z rfl)) 0 2) rfl ?_)
 have Z:=Z.get 1 rfl
 obtain ⟨H116b,l117,s118,z119,k120⟩:=Z.lend [_]
 refine L_call rfl Tryz.call144 (ops1 rfl) (i_Constraint_valid_c (c:=({ terms:=g51_0_58,bound:=max 0 bound_57 } : Con)) s118 hx112) ?_
 rintro _ w121 ⟨r121_0,rfl,Z⟩
 have Z:=k120 Z (co closed_term c0)
 refine L_ex (v:=.agg #[r121_0,I x112.1.bound]) rfl rfl rfl (L_ex (v:=Bo x112.2) rfl rfl rfl (L_staB (vs:=#[r121_0,I x112.1.bound]) (cs2:=#[r121_0,I x112.1.bound]) 2 rfl Tryz.sizeOf73 sf4 rfl rfl (ones_cons (one_len (Star.len 0 Z rfl)) (ones_cons rfl ones_nil)) Z rfl (by show 0 + 2≤2; decide) rfl (fun w123 Z=>aB rfl (nn (W_ret (retG2 (v1:=.agg #[r121_0,I x112.1.bound]) (v2:=Bo x112.2) Tryz.results102 (resV_agg Tryz.isAgg73 Tryz.sizeOf73 sf4 (Star.blkAt 0 Z rfl) rfl) rfl ?_))))))
 obtain rfl:=so hF
 have Z:=Z.get 1 rfl
 exact ⟨r121_0,rfl,(Star.down (Star.keepN 1 Z) l17 (co closed_term c0))⟩
theorem cmp_isNaN_int_c {x : Int} {H : FH} {w : World} (Z : Star H w []) {r : Bool} (hF : cmp_isNaN_int x = some r) :
 C Tryz.prog 211 #[I x] w fun v w'=>v = Bo r∧Star H w' []:=by
 unfold cmp_isNaN_int at hF
 refine C_enter Tryz.func211 rfl Tryz.ntmps211 rfl (sq (aB rfl (ns (mI rfl (mI rfl (L_neq rfl rfl rfl (aB rfl (nn (W_ret (retG1 (v1:=Bo (x != x)) Tryz.results211 rfl ?_))))))))))
 obtain rfl:=so hF
 exact ⟨rfl,Z⟩
theorem cmp_Less_int_c {x : Int} {y : Int} {H : FH} {w : World} (Z : Star H w []) {r : Bool} (hF : cmp_Less_int x y = some r) :
 C Tryz.prog 186 #[I x,I y] w fun v w'=>v = Bo r∧Star H w' []:=by
 unfold cmp_Less_int at hF
 refine C_enter Tryz.func186 rfl Tryz.ntmps186 rfl (sq (aB rfl (nq ?_)))
 obtain ⟨x6,hx6,hF⟩:=bind_some hF
 obtain ⟨b15,hb15,hF⟩:=bind_some hF
 obtain ⟨R16,hR16⟩:=exR fun f w_=>f 4 = Bo (b15 || (decide (x < y)))∧Star H w_ ([])
 refine W_join R16 ?_ ?_
 refine W_region (mI rfl ?_)
 obtain ⟨H17b,l18,s19,z20,k21⟩:=Z.borrow
 refine L_call rfl Tryz.call211 (ops1 rfl) (cmp_isNaN_int_c (x:=x) s19 hx6) ?_
 rintro _ w22 ⟨rfl,Z⟩
 have Z:=k21 Z c0
 refine mB rfl (L_split (d:=7) (b:=x6) rfl (fun hc23=>?_) (fun hc23=>?_))
 rw [ite_t hc23] at hb15
 obtain ⟨x13,hx13,hb15⟩:=bind_some hb15
 refine mI rfl ?_
 obtain ⟨H24b,l25,s26,z27,k28⟩:=Z.borrow
 refine L_call rfl Tryz.call211 (ops1 rfl) (cmp_isNaN_int_c (x:=y) s26 hx13) ?_
 rintro _ w29 ⟨rfl,Z⟩
 have Z:=k28 Z c0
 refine L_not_ rfl rfl (L_pick (v:=Bo b15) rfl rfl (congrArg Value.bool (so hb15)) (mB rfl (L_split (d:=12) (b:=b15) rfl (fun hc30=>?_) (fun hc30=>?_))))
 refine ps rfl (ps rfl (ps rfl (L_pick (v:=Bo (b15 || (decide (x < y)))) rfl rfl (or_t hc30) (aB rfl (nn (rj hR16 ⟨rfl,Z⟩))))))
 refine mI rfl (mI rfl (L_lss rfl rfl rfl (L_pick (v:=Bo (b15 || (decide (x < y)))) rfl rfl (or_f hc30 rfl) (aB rfl (nn (rj hR16 ⟨rfl,Z⟩))))))
 rw [ite_f hc23] at hb15
 refine ps rfl (ps rfl (ps rfl (L_pick (v:=Bo b15) rfl rfl (congrArg Value.bool (so hb15)) (mB rfl (L_split (d:=12) (b:=b15) rfl (fun hc31=>?_) (fun hc31=>?_))))))
 refine ps rfl (ps rfl (ps rfl (L_pick (v:=Bo (b15 || (decide (x < y)))) rfl rfl (or_t hc31) (aB rfl (nn (rj hR16 ⟨rfl,Z⟩))))))
 refine mI rfl (mI rfl (L_lss rfl rfl rfl (L_pick (v:=Bo (b15 || (decide (x < y)))) rfl rfl (or_f hc31 rfl) (aB rfl (nn (rj hR16 ⟨rfl,Z⟩))))))
 intro f w_ hR
 obtain ⟨sf4,Z⟩:=rk hR16 hR
 refine W_ret (retG1 (v1:=Bo (b15 || (decide (x < y)))) Tryz.results186 sf4 ?_)
 obtain rfl:=so hF
 exact ⟨rfl,Z⟩
theorem slices_insertionSortOrdered_int_c {fu : Nat} {data : List Int} {a : Int} {b : Int} {v0 : Value} {H : FH} {w : World} (Z : Star H w [oF 3 RP.int v0 data]) {r : List Int} (hF : slices_insertionSortOrdered_int fu data a b = some r) :
 C Tryz.prog 180 #[v0,I a,I b] w fun v w'=>v = .tuple #[]∧Star H w' [oF 3 RP.int v0 r]:=by
 unfold slices_insertionSortOrdered_int at hF
 refine C_enter Tryz.func180 rfl Tryz.ntmps180 rfl (sq (mI rfl (L_add rfl rfl rfl (aI rfl (nn ?_)))))
 obtain ⟨j6,hL6,hF⟩:=bind_some hF
 obtain ⟨R6,hR6⟩:=exR fun f w_=>∃ data_2 : List Int,∃ i_3 : Int,∃ H4 : FH,j6 = .nx (data_2,i_3)∧Le H H4∧Star H4 w_ ([oF 3 RP.int v0 data_2])
 refine W_join R6 ?_ ?_
 refine W_block ?_
 obtain ⟨I6,hI6⟩:=exI fun n f w_=>∃ data_2 : List Int,∃ i_3 : Int,∃ H4 : FH,whileL (slices_insertionSortOrdered_int_b1 fu a b) n (data_2,i_3) = some j6∧Le H H4∧f 0 = v0∧f 1 = I a∧f 2 = I b∧f 6 = I i_3∧Star H4 w_ ([oF 3 RP.int v0 data_2])
 refine W_loop I6 (n:=fu) ?_ ?_
 exact ij hI6 ⟨data,i64 (a + 1),H,hL6,(Le.refl _),rfl,rfl,rfl,rfl,Z⟩
 intro n6 f w_ hI
 obtain ⟨data_2,i_3,H4,hL6,l5,sf0,sf1,sf2,sf6,Z⟩:=ik hI6 hI
 rcases n6 with _ | n6
 exact (while_zero hL6).elim
 obtain ⟨o6,hB6,hL6⟩:=while_succ hL6
 rw [slices_insertionSortOrdered_int_b1] at hB6
 refine W_seq (sq (mF sf6 rfl (mF sf2 rfl (L_lss rfl rfl rfl (nn (W_cond (b:=decide (i_3 < b)) rfl (fun hc7=>?_) (fun hc7=>?_)))))))
 have hB6:=(ite_t hc7).symm.trans hB6
 refine W_skip (W_seq (W_block (sq (mF sf6 rfl (aI rfl (nn ?_))))))
 obtain ⟨j13,hL13,hB6⟩:=bind_some hB6
 obtain ⟨R13,hR13⟩:=exR fun f w_=>∃ data_9 : List Int,∃ j_10 : Int,∃ H11 : FH,j13 = .nx (data_9,j_10)∧Le H4 H11∧f 0 = v0∧f 1 = I a∧f 2 = I b∧f 6 = I i_3∧Star H11 w_ ([oF 3 RP.int v0 data_9])
 refine W_join R13 ?_ ?_
 refine W_block ?_
 obtain ⟨I13,hI13⟩:=exI fun n f w_=>∃ data_9 : List Int,∃ j_10 : Int,∃ H11 : FH,whileL (slices_insertionSortOrdered_int_b2 a) n (data_9,j_10) = some j13∧Le H4 H11∧f 0 = v0∧f 1 = I a∧f 2 = I b∧f 6 = I i_3∧f 7 = I j_10∧Star H11 w_ ([oF 3 RP.int v0 data_9])
 refine W_loop I13 (n:=fu) ?_ ?_
 exact ij hI13 ⟨data_2,i_3,H4,hL13,(Le.refl _),sf0,sf1,sf2,sf6,rfl,Z⟩
 intro n13 f w_ hI
 obtain ⟨data_9,j_10,H11,hL13,l12,sf0,sf1,sf2,sf6,sf7,Z⟩:=ik hI13 hI
 rcases n13 with _ | n13
 exact (while_zero hL13).elim
 obtain ⟨o13,hB13,hL13⟩:=while_succ hL13
 rw [slices_insertionSortOrdered_int_b2] at hB13
 refine W_seq (W_seq ?_)
 obtain ⟨b29,hb29,hB13⟩:=bind_some hB13
 obtain ⟨R33,hR33⟩:=exR fun f w_=>∃ H31 : FH,Le H11 H31∧f 0 = v0∧f 1 = I a∧f 2 = I b∧f 6 = I i_3∧f 7 = I j_10∧f 30 = Bo b29∧Star H31 w_ ([oF 3 RP.int v0 data_9])
 refine W_join R33 ?_ ?_
 rcases Bool.eq_false_or_eq_true (decide (j_10 > a)) with hc34 | hc34
 rw [ite_t hc34] at hb29
 obtain ⟨x14,hx14,hb29⟩:=bind_some hb29
 obtain ⟨x19,hx19,hb29⟩:=bind_some hb29
 obtain ⟨x27,hx27,hb29⟩:=bind_some hb29
 obtain ⟨g35,cap_g35,hv36,_,_⟩:=Star.row 0 Z rfl hx14
 refine W_drawS 13 [isV (I j_10),isV (I a),isV (Bo (decide (j_10 > a))),isV (Bo (decide (j_10 > a))),isV (v0),isV (I j_10),isV (.pointer (some ⟨g35,Int.toNat j_10 * 1,none⟩)),isV (I x14),isV (v0),isV (I j_10),isV (I (i64 (j_10 - 1))),isV (.pointer (some ⟨g35,Int.toNat (i64 (j_10 - 1)) * 1,none⟩)),isV (I x19)] [oF 3 RP.int v0 data_9] [] ([]) [([],[]),([],[]),([],[]),([],[]),([],[]),([],[]),([],[]),([],[]),([],[]),([],[]),([],[]),([],[]),([],[])] (S:=[]) Tryz_mix (by kernel_rfl) rfl (by kernel_rfl) (amF_cons (mono_V _) (amF_cons (mono_V _) (amF_cons (mono_V _) (amF_cons (mono_V _) (amF_cons (mono_V _) (amF_cons (mono_V _) (amF_cons (mono_V _) (amF_cons (mono_V _) (amF_cons (mono_V _) (amF_cons (mono_V _) (amF_cons (mono_V _) (amF_cons (mono_V _) (amF_cons (mono_V _) amF_nil))))))))))))) Z ?_ (fun f w_ H30 hS30 hE30 hT30 Z=>?_)
 refine opsS_cons (fun f w_ _ _ s _ _ Z=>mF ((s 7 rfl).trans sf7) rfl (nO rfl rfl Z)) (opsS_cons (fun f w_ _ _ s _ _ Z=>mF ((s 1 rfl).trans sf1) rfl (nO rfl rfl Z)) (opsS_cons (fun f w_ _ _ _ _ p Z=>L_gtr rfl (p 0 16 rfl rfl) (p 1 17 rfl rfl) (nO rfl rfl Z)) (opsS_cons (fun f w_ _ _ _ _ p Z=>mF (p 2 18 rfl rfl) rfl (nO rfl rfl Z)) (opsS_cons (fun f w_ _ _ s _ p Z=>L_mv (v:=v0) (g_yes rfl (Eq.trans (p 3 19 rfl rfl) (congrArg Value.bool hc34)) rfl) ((s 0 rfl).trans sf0) (nO rfl rfl Z)) (opsS_cons (fun f w_ _ _ s _ p Z=>L_mv (v:=I j_10) (g_yes rfl (Eq.trans (p 3 19 rfl rfl) (congrArg Value.bool hc34)) rfl) ((s 7 rfl).trans sf7) (nO rfl rfl Z)) (opsS_cons (fun f w_ _ _ _ _ p Z=>L_ixO (R:=(OR.frz RP.int)) (tb:=0) 0 (g_yes rfl (Eq.trans (p 3 19 rfl rfl) (congrArg Value.bool hc34)) rfl) Tryz.underlying23 Tryz.sizeOf3 (p 4 20 rfl rfl) hv36 (by first | rfl | simp) (p 5 21 rfl rfl) hx14 (nO rfl rfl Z)) (opsS_cons ?_ ?_)))))))
 intro f w_ H30 X30 hS30 hE30 hP30 Z
 obtain ⟨cs41,hr41,hat41⟩:=Star.eltF 0 Z rfl hv36 hx14
 obtain rfl : _ = [_]:=hr41
 refine L_ld (v:=I x14) (g_yes rfl (Eq.trans (hP30 3 19 rfl rfl) (congrArg Value.bool hc34)) rfl) Tryz.isAgg3 (hP30 6 22 rfl rfl) (At.cell hat41 (j:=0) rfl) (L_nil ⟨rfl,_,_,rfl,Le.refl _,fun _ _=>rfl,Z⟩)
 refine opsS_cons (fun f w_ _ _ s _ p Z=>L_mv (v:=v0) (g_yes rfl (Eq.trans (p 3 19 rfl rfl) (congrArg Value.bool hc34)) rfl) ((s 0 rfl).trans sf0) (nO rfl rfl Z)) (opsS_cons (fun f w_ _ _ s _ p Z=>L_mv (v:=I j_10) (g_yes rfl (Eq.trans (p 3 19 rfl rfl) (congrArg Value.bool hc34)) rfl) ((s 7 rfl).trans sf7) (nO rfl rfl Z)) (opsS_cons (fun f w_ _ _ _ _ p Z=>L_sub (g_yes rfl (Eq.trans (p 3 19 rfl rfl) (congrArg Value.bool hc34)) rfl) (p 9 25 rfl rfl) rfl (nO rfl rfl Z)) (opsS_cons (fun f w_ _ _ _ _ p Z=>L_ixO (R:=(OR.frz RP.int)) (tb:=0) 0 (g_yes rfl (Eq.trans (p 3 19 rfl rfl) (congrArg Value.bool hc34)) rfl) Tryz.underlying23 Tryz.sizeOf3 (p 8 24 rfl rfl) hv36 (by first | rfl | simp) (p 10 26 rfl rfl) hx19 (nO rfl rfl Z)) (opsS_cons ?_ ?_))))
 intro f w_ H30 X30 hS30 hE30 hP30 Z
 obtain ⟨cs43,hr43,hat43⟩:=Star.eltF 0 Z rfl hv36 hx19
 obtain rfl : _ = [_]:=hr43
 refine L_ld (v:=I x19) (g_yes rfl (Eq.trans (hP30 3 19 rfl rfl) (congrArg Value.bool hc34)) rfl) Tryz.isAgg3 (hP30 11 27 rfl rfl) (At.cell hat43 (j:=0) rfl) (L_nil ⟨rfl,_,_,rfl,Le.refl _,fun _ _=>rfl,Z⟩)
 exact opsS_nil
 obtain ⟨H45b,l46,s47,z48,k49⟩:=Z.borrow
 refine L_call (g_yes rfl (Eq.trans (hT30 3 19 rfl rfl) (congrArg Value.bool hc34)) rfl) Tryz.call186 (ops2 (hT30 7 23 rfl rfl) (hT30 12 28 rfl rfl)) (cmp_Less_int_c (x:=x14) (y:=x19) s47 hx27) ?_
 rintro _ w50 ⟨rfl,Z⟩
 have Z:=k49 Z c0
 refine L_pick (v:=Bo b29) rfl (Eq.trans (hT30 3 19 rfl rfl) (congrArg Value.bool hc34)) (congrArg Value.bool (so hb29)) (nn (rj hR33 ⟨H30,hE30,((hS30 0 rfl).trans sf0),((hS30 1 rfl).trans sf1),((hS30 2 rfl).trans sf2),((hS30 6 rfl).trans sf6),((hS30 7 rfl).trans sf7),rfl,Z⟩))
 rw [ite_f hc34] at hb29
 refine W_drawS 13 [isV (I j_10),isV (I a),isV (Bo (decide (j_10 > a))),isV (Bo (decide (j_10 > a))),isV (undef),isV (undef),isV (undef),isV (undef),isV (undef),isV (undef),isV (undef),isV (undef),isV (undef)] [oF 3 RP.int v0 data_9] [] ([]) [([],[]),([],[]),([],[]),([],[]),([],[]),([],[]),([],[]),([],[]),([],[]),([],[]),([],[]),([],[]),([],[])] (S:=[]) Tryz_mix (by kernel_rfl) rfl (by kernel_rfl) (amF_cons (mono_V _) (amF_cons (mono_V _) (amF_cons (mono_V _) (amF_cons (mono_V _) (amF_cons (mono_V _) (amF_cons (mono_V _) (amF_cons (mono_V _) (amF_cons (mono_V _) (amF_cons (mono_V _) (amF_cons (mono_V _) (amF_cons (mono_V _) (amF_cons (mono_V _) (amF_cons (mono_V _) amF_nil))))))))))))) Z ?_ (fun f w_ H30 hS30 hE30 hT30 Z=>?_)
 refine opsS_cons (fun f w_ _ _ s _ _ Z=>mF ((s 7 rfl).trans sf7) rfl (nO rfl rfl Z)) (opsS_cons (fun f w_ _ _ s _ _ Z=>mF ((s 1 rfl).trans sf1) rfl (nO rfl rfl Z)) (opsS_cons (fun f w_ _ _ _ _ p Z=>L_gtr rfl (p 0 16 rfl rfl) (p 1 17 rfl rfl) (nO rfl rfl Z)) (opsS_cons (fun f w_ _ _ _ _ p Z=>mF (p 2 18 rfl rfl) rfl (nO rfl rfl Z)) (oP (fun _ _ p=>gN (p 3 19 rfl rfl) hc34 rfl) (fun _=>rfl) (oP (fun _ _ p=>gN (p 3 19 rfl rfl) hc34 rfl) (fun _=>rfl) (oP (fun _ _ p=>gN (p 3 19 rfl rfl) hc34 rfl) (fun _=>rfl) (oP (fun _ _ p=>gN (p 3 19 rfl rfl) hc34 rfl) (fun _=>rfl) (oP (fun _ _ p=>gN (p 3 19 rfl rfl) hc34 rfl) (fun _=>rfl) (oP (fun _ _ p=>gN (p 3 19 rfl rfl) hc34 rfl) (fun _=>rfl) (oP (fun _ _ p=>gN (p 3 19 rfl rfl) hc34 rfl) (fun _=>rfl) (oP (fun _ _ p=>gN (p 3 19 rfl rfl) hc34 rfl) (fun _=>rfl) (oP (fun _ _ p=>gN (p 3 19 rfl rfl) hc34 rfl) (fun _=>rfl) (opsS_nil)))))))))))))
 refine ps (g_no rfl (Eq.trans (hT30 3 19 rfl rfl) (congrArg Value.bool hc34)) rfl rfl) (L_pick (v:=Bo b29) rfl (Eq.trans (hT30 3 19 rfl rfl) (congrArg Value.bool hc34)) (congrArg Value.bool (so hb29)) (nn (rj hR33 ⟨H30,hE30,((hS30 0 rfl).trans sf0),((hS30 1 rfl).trans sf1),((hS30 2 rfl).trans sf2),((hS30 6 rfl).trans sf6),((hS30 7 rfl).trans sf7),rfl,Z⟩)))
 intro f w_ hR
 obtain ⟨H31,l32,sf0,sf1,sf2,sf6,sf7,sf30,Z⟩:=rk hR33 hR
 refine W_cond (b:=b29) sf30 (fun hc51=>?_) (fun hc51=>?_)
 have hB13:=(ite_t hc51).symm.trans hB13
 refine W_skip (W_seq (W_block ?_))
 obtain ⟨x52,hx52,hB13⟩:=bind_some hB13
 obtain ⟨x57,hx57,hB13⟩:=bind_some hB13
 obtain ⟨x61,hx61,hB13⟩:=bind_some hB13
 obtain ⟨g64,cap_g64,hv65,_,_⟩:=Star.row 0 Z rfl hx52
 refine W_drawS 16 [isV (v0),isV (I j_10),isV (v0),isV (I j_10),isV (I (i64 (j_10 - 1))),isV (v0),isV (I j_10),isV (I (i64 (j_10 - 1))),isV (.pointer (some ⟨g64,Int.toNat (i64 (j_10 - 1)) * 1,none⟩)),isV (I x52),isV (v0),isV (I j_10),isV (.pointer (some ⟨g64,Int.toNat j_10 * 1,none⟩)),isV (I x57),isV (.pointer (some ⟨g64,Int.toNat j_10 * 1,none⟩)),anyF] [] [.base (oF 3 RP.int v0 data_9) (some 15),.madeN 15 [] (fun vs_=>oF 3 RP.int v0 (data_9.set (Int.toNat j_10) x52)) none] ([]) [([],[]),([],[]),([],[]),([],[]),([],[]),([],[]),([],[]),([],[]),([0],[0]),([0],[0]),([],[]),([],[]),([0],[0]),([0],[0]),([0],[0]),([0],[1])] (S:=[(none,[],some 15),(some 15,[],none)]) Tryz_mix (by kernel_rfl) rfl (by kernel_rfl) (amF_cons (mono_V _) (amF_cons (mono_V _) (amF_cons (mono_V _) (amF_cons (mono_V _) (amF_cons (mono_V _) (amF_cons (mono_V _) (amF_cons (mono_V _) (amF_cons (mono_V _) (amF_cons (mono_V _) (amF_cons (mono_V _) (amF_cons (mono_V _) (amF_cons (mono_V _) (amF_cons (mono_V _) (amF_cons (mono_V _) (amF_cons (mono_V _) (amF_cons (mono_any) amF_nil)))))))))))))))) Z ?_ (fun f w_ H63 hS63 hE63 hT63 Z=>?_)
 refine opsS_cons (fun f w_ _ _ s _ _ Z=>mF ((s 0 rfl).trans sf0) rfl (nO rfl rfl Z)) (opsS_cons (fun f w_ _ _ s _ _ Z=>mF ((s 7 rfl).trans sf7) rfl (nO rfl rfl Z)) (opsS_cons (fun f w_ _ _ s _ _ Z=>mF ((s 0 rfl).trans sf0) rfl (nO rfl rfl Z)) (opsS_cons (fun f w_ _ _ s _ _ Z=>mF ((s 7 rfl).trans sf7) rfl (nO rfl rfl Z)) (opsS_cons (fun f w_ _ _ _ _ p Z=>L_sub rfl (p 3 36 rfl rfl) rfl (nO rfl rfl Z)) (opsS_cons (fun f w_ _ _ s _ _ Z=>mF ((s 0 rfl).trans sf0) rfl (nO rfl rfl Z)) (opsS_cons (fun f w_ _ _ s _ _ Z=>mF ((s 7 rfl).trans sf7) rfl (nO rfl rfl Z)) (opsS_cons (fun f w_ _ _ _ _ p Z=>L_sub rfl (p 6 39 rfl rfl) rfl (nO rfl rfl Z)) (opsS_cons ?_ ?_))))))))
 intro f w_ H63 X63 hS63 hE63 hP63 Z
 have Z : Star H63 w_ (oF 3 RP.int v0 data_9 :: X63):=Z
 refine L_ixO (R:=(OR.frz RP.int)) (tb:=0) 0 rfl Tryz.underlying23 Tryz.sizeOf3 (hP63 5 38 rfl rfl) hv65 (by first | rfl | simp) (hP63 7 40 rfl rfl) hx52 (L_nil ⟨rfl,_,_,rfl,Le.refl _,fun _ _=>rfl,Z⟩)
 refine opsS_cons ?_ ?_
 intro f w_ H63 X63 hS63 hE63 hP63 Z
 have Z : Star H63 w_ (oF 3 RP.int v0 data_9 :: X63):=Z
 obtain ⟨cs71,hr71,hat71⟩:=Star.eltF 0 Z rfl hv65 hx52
 obtain rfl : _ = [_]:=hr71
 refine L_ld rfl Tryz.isAgg3 (hP63 8 41 rfl rfl) (At.cell hat71 (j:=0) rfl) (L_nil ⟨rfl,_,_,rfl,Le.refl _,fun _ _=>rfl,Z⟩)
 refine opsS_cons (fun f w_ _ _ s _ _ Z=>mF ((s 0 rfl).trans sf0) rfl (nO rfl rfl Z)) (opsS_cons (fun f w_ _ _ s _ _ Z=>mF ((s 7 rfl).trans sf7) rfl (nO rfl rfl Z)) (opsS_cons ?_ ?_))
 intro f w_ H63 X63 hS63 hE63 hP63 Z
 have Z : Star H63 w_ (oF 3 RP.int v0 data_9 :: X63):=Z
 refine L_ixO (R:=(OR.frz RP.int)) (tb:=0) 0 rfl Tryz.underlying23 Tryz.sizeOf3 (hP63 10 43 rfl rfl) hv65 (by first | rfl | simp) (hP63 11 44 rfl rfl) hx57 (L_nil ⟨rfl,_,_,rfl,Le.refl _,fun _ _=>rfl,Z⟩)
 refine opsS_cons ?_ ?_
 intro f w_ H63 X63 hS63 hE63 hP63 Z
 have Z : Star H63 w_ (oF 3 RP.int v0 data_9 :: X63):=Z
 obtain ⟨cs73,hr73,hat73⟩:=Star.eltF 0 Z rfl hv65 hx57
 obtain rfl : _ = [_]:=hr73
 refine L_ld rfl Tryz.isAgg3 (hP63 12 45 rfl rfl) (At.cell hat73 (j:=0) rfl) (L_nil ⟨rfl,_,_,rfl,Le.refl _,fun _ _=>rfl,Z⟩)
 refine opsS_cons ?_ ?_
 intro f w_ H63 X63 hS63 hE63 hP63 Z
 have Z : Star H63 w_ (oF 3 RP.int v0 data_9 :: X63):=Z
 refine L_ixO (R:=(OR.frz RP.int)) (tb:=0) 0 rfl Tryz.underlying23 Tryz.sizeOf3 (hP63 0 33 rfl rfl) hv65 (by first | rfl | simp) (hP63 1 34 rfl rfl) hx57 (L_nil ⟨rfl,_,_,rfl,Le.refl _,fun _ _=>rfl,Z⟩)
 refine opsS_cons ?_ ?_
 intro f w_ H63 X63 hS63 hE63 hP63 Z
 have Z : Star H63 w_ (oF 3 RP.int v0 data_9 :: X63):=Z
 have Z:=Star.addF (r:=RP.int) (cs:=[I x52]) (x:=x52) Z rfl
 refine L_stE1 (u:=I x52) rfl Tryz.sizeOf3 rfl (hP63 14 47 rfl rfl) (hP63 9 42 rfl rfl) hv65 Z hx57 (fun w75 Z=>?_)
 exact L_nil ⟨rfl,Bo false,_,rfl,Le.refl _,(fun _ h=>nomatch h),Z⟩
 exact opsS_nil
 have Z : Star H63 w_ ([oF 3 RP.int v0 (data_9.set (Int.toNat j_10) x52)]):=Z
 refine L_ixO (R:=(OR.frz RP.int)) (tb:=0) 0 rfl Tryz.underlying23 Tryz.sizeOf3 (hT63 2 35 rfl rfl) hv65 (by first | rfl | simp) (hT63 4 37 rfl rfl) hx61 ?_
 have Z:=Star.addF (r:=RP.int) (cs:=[I x57]) (x:=x57) Z rfl
 refine L_stE1 (u:=I x57) rfl Tryz.sizeOf3 rfl rfl (hT63 13 46 rfl rfl) hv65 Z hx61 (fun w76 Z=>?_)
 refine nn (W_region (mF ((hS63 7 rfl).trans sf7) rfl (L_sub rfl rfl rfl (aI rfl (nn ?_)))))
 obtain rfl:=so hB13
 show ∃ m,m < _∧I13 m _ _
 refine ⟨n13,Nat.lt_succ_self _,?_⟩
 exact ij hI13 ⟨((data_9.set (Int.toNat j_10) x52).set (Int.toNat (i64 (j_10 - 1))) x57),i64 (j_10 - 1),H63,hL13,(Le.trans (Le.trans l12 l32) hE63),((hS63 0 rfl).trans sf0),((hS63 1 rfl).trans sf1),((hS63 2 rfl).trans sf2),((hS63 6 rfl).trans sf6),rfl,Z⟩
 have hB13:=(ite_f hc51).symm.trans hB13
 refine W_exit ?_
 obtain rfl:=so hB13
 obtain rfl:=so hL13
 exact rj hR13 ⟨data_9,j_10,H31,rfl,(Le.trans l12 l32),sf0,sf1,sf2,sf6,Z⟩
 intro f w_ hR
 obtain ⟨data_9,j_10,H11,rfl,l12,sf0,sf1,sf2,sf6,Z⟩:=rk hR13 hR
 refine W_region (mF sf6 rfl (L_add rfl rfl rfl (aI rfl (nn ?_))))
 obtain rfl:=so hB6
 show ∃ m,m < _∧I6 m _ _
 refine ⟨n6,Nat.lt_succ_self _,?_⟩
 exact ij hI6 ⟨data_9,i64 (i_3 + 1),H11,hL6,(Le.trans l5 l12),sf0,sf1,sf2,rfl,Z⟩
 have hB6:=(ite_f hc7).symm.trans hB6
 refine W_exit ?_
 obtain rfl:=so hB6
 obtain rfl:=so hL6
 exact rj hR6 ⟨data_2,i_3,H4,rfl,l5,Z⟩
 intro f w_ hR
 obtain ⟨data_2,i_3,H4,rfl,l5,Z⟩:=rk hR6 hR
 refine ret0 Tryz.results180 ?_
 obtain rfl:=so hF
 exact ⟨rfl,(Star.down Z l5 (co closed_int c0))⟩
theorem slices_pdqsortOrdered_int_c {fu : Nat} {data : List Int} {a : Int} {b : Int} {limit : Int} {v0 : Value} {H : FH} {w : World} (Z : Star H w [oF 3 RP.int v0 data]) {r : List Int} (hF : slices_pdqsortOrdered_int fu data a b limit = some r) :
 C Tryz.prog 145 #[v0,I a,I b,I limit] w fun v w'=>v = .tuple #[]∧Star H w' [oF 3 RP.int v0 r]:=by
 unfold slices_pdqsortOrdered_int at hF
 refine C_enter Tryz.func145 rfl Tryz.ntmps145 rfl (sq (aB rfl (ns (aB rfl (nn ?_)))))
 obtain ⟨j2,hL2,hF⟩:=bind_some hF
 obtain ⟨R2,hR2⟩:=exR fun f w_=>j2 = .nx ()∧Star H w_ ([oF 3 RP.int v0 data])
 refine W_join R2 ?_ ?_
 refine W_block ?_
 obtain ⟨I2,hI2⟩:=exI fun n f w_=>whileL (slices_pdqsortOrdered_int_b1 fu data a b) n () = some j2∧f 0 = v0∧f 1 = I a∧f 2 = I b∧Star H w_ ([oF 3 RP.int v0 data])
 refine W_loop I2 (n:=fu) ?_ ?_
 exact ij hI2 ⟨hL2,rfl,rfl,rfl,Z⟩
 intro n2 f w_ hI
 obtain ⟨hL2,sf0,sf1,sf2,Z⟩:=ik hI2 hI
 rcases n2 with _ | n2
 exact (while_zero hL2).elim
 obtain ⟨o2,hB2,hL2⟩:=while_succ hL2
 rw [slices_pdqsortOrdered_int_b1] at hB2
 refine W_block (sq (mF sf2 rfl (mF sf1 rfl (L_sub rfl rfl rfl (aI rfl (nq (sq (mI rfl (L_leq rfl rfl rfl (nn (W_cond (b:=decide ((i64 (b - a))≤12)) rfl (fun hc3=>?_) (fun hc3=>?_))))))))))))
 have hB2:=(ite_t hc3).symm.trans hB2
 refine W_seq ?_
 obtain ⟨x9,hx9,hB2⟩:=bind_some hB2
 refine W_region (mF sf0 rfl (mF sf1 rfl (mF sf2 rfl ?_)))
 obtain ⟨H11b,l12,s13,z14,k15⟩:=Z.lend [_]
 refine L_call rfl Tryz.call180 (ops3 rfl rfl rfl) (slices_insertionSortOrdered_int_c (data:=data) (a:=a) (b:=b) s13 hx9) ?_
 rintro _ w16 ⟨rfl,Z⟩
 have Z:=k15 Z (co closed_int c0)
 refine nn (W_ret (ret0 Tryz.results145 ?_))
 obtain rfl:=so hB2
 obtain rfl:=so hL2
 obtain rfl:=so hF
 exact ⟨rfl,Z⟩
 have hB2:=(ite_f hc3).symm.trans hB2
 refine W_skip ?_
 cases hB2
 intro f w_ hR
 obtain ⟨rfl,Z⟩:=rk hR2 hR
 refine ret0 Tryz.results145 ?_
 obtain rfl:=so hF
 exact ⟨rfl,Z⟩
theorem slices_Sort_int_c {fu : Nat} {x : List Int} {v0 : Value} {H : FH} {w : World} (Z : Star H w [oF 3 RP.int v0 x]) {r : List Int} (hF : slices_Sort_int fu x = some r) :
 C Tryz.prog 103 #[v0] w fun v w'=>v = .tuple #[]∧Star H w' [oF 3 RP.int v0 r]:=by
 unfold slices_Sort_int at hF
 refine C_enter Tryz.func103 rfl Tryz.ntmps103 rfl (sq (mV v0 rfl (L_len rfl Tryz.underlying23 rfl (Star.len 0 Z rfl) (aI rfl (nn ?_)))))
 obtain ⟨x6,hx6,hF⟩:=bind_some hF
 obtain ⟨x13,hx13,hF⟩:=bind_some hF
 refine W_region (mV v0 rfl (mI rfl (mI rfl (L_cv (n:=(x.length : Int)) rfl rfl ⟨_,Tryz.underlying3⟩ Tryz.underlying148 ?_))))
 obtain ⟨H15b,l16,s17,z18,k19⟩:=Z.borrow
 refine L_call rfl Tryz.call143 (ops1 rfl) (bits_Len_c (x_:=IntKind.u64.wrap (x.length : Int)) s17 hx6) ?_
 rintro _ w20 ⟨rfl,Z⟩
 have Z:=k19 Z c0
 obtain ⟨H21b,l22,s23,z24,k25⟩:=Z.lend [_]
 refine L_call rfl Tryz.call145 (ops4 rfl rfl rfl rfl) (slices_pdqsortOrdered_int_c (data:=x) (a:=0) (b:=(x.length : Int)) (limit:=x6) s23 hx13) ?_
 rintro _ w26 ⟨rfl,Z⟩
 have Z:=k25 Z (co closed_int c0)
 refine nn (ret0 Tryz.results103 ?_)
 obtain rfl:=so hF
 exact ⟨rfl,Z⟩
theorem slices_Equal_int_c {s1 : List Int} {s2 : List Int} {v0 : Value} {v1 : Value} {H : FH} {w : World} (Z : Star H w []) (h0 : (rS 3 RP.int).rel H [v0] s1) (h1 : (rS 3 RP.int).rel H [v1] s2) {r : Bool} (hF : slices_Equal_int s1 s2 = some r) :
 C Tryz.prog 147 #[v0,v1] w fun v w'=>v = Bo r∧Star H w' []:=by
 unfold slices_Equal_int at hF
 refine C_enter Tryz.func147 rfl Tryz.ntmps147 rfl (sq (aB rfl (nq (sq (mV v0 rfl (L_len rfl Tryz.underlying23 rfl (slice_len h0) (mV v1 rfl (L_len rfl Tryz.underlying23 rfl (slice_len h1) (L_neq rfl rfl rfl (nn (W_cond (b:=((s1.length : Int) != (s2.length : Int))) rfl (fun hc1=>?_) (fun hc1=>?_))))))))))))
 have hF:=(ite_t hc1).symm.trans hF
 refine sq (aB rfl (nn (W_ret (retG1 (v1:=Bo false) Tryz.results147 rfl ?_))))
 obtain rfl:=so hF
 exact ⟨rfl,Z⟩
 have hF:=(ite_f hc1).symm.trans hF
 refine W_skip (W_seq (sq (mV v0 rfl (L_len rfl Tryz.underlying23 rfl (slice_len h0) (mI rfl (nn ?_))))))
 have hlen5 : List.length s1≤9223372036854775807:=len_le (slice_len h0)
 obtain ⟨j5,hL5,hF⟩:=bind_some hF
 obtain ⟨R5,hR5⟩:=exR fun f w_=>∃ H3 : FH,j5 = .nx ()∧Le H H3∧Star H3 w_ ([])
 refine W_join R5 ?_ ?_
 refine W_block ?_
 obtain ⟨I5,hI5⟩:=exI fun n f w_=>∃ i_2 : Nat,∃ suf5 : List Int,∃ H3 : FH,n = suf5.length∧List.drop i_2 s1 = suf5∧i_2 + suf5.length = s1.length∧rangeL (slices_Equal_int_b1 s2) suf5 i_2 () = some j5∧Le H H3∧f 0 = v0∧f 1 = v1∧f 12 = I (s1.length : Int)∧f 13 = I i_2∧Star H3 w_ ([])
 refine W_loop I5 (n:=s1.length) ?_ ?_
 exact ij hI5 ⟨0,s1,H,rfl,rfl,Nat.zero_add _,hL5,(Le.refl _),rfl,rfl,rfl,rfl,Z⟩
 intro n5 f w_ hI
 obtain ⟨i_2,suf5,H3,rfl,hd5,hl5,hL5,l4,sf0,sf1,sf12,sf13,Z⟩:=ik hI5 hI
 refine sq (L_lss rfl sf13 sf12 (nq (W_cond (b:=decide ((i_2 : Int) < (s1.length : Int))) rfl (fun hc6=>?_) (fun hc6=>?_))))
 have hlt5:=of_decide_eq_true hc6
 rcases suf5 with _ | ⟨x_5,rest5⟩
 exact absurd hlt5 (by simp at hl5; omega)
 obtain ⟨o5,hB5,hL5⟩:=range_cons hL5
 rw [slices_Equal_int_b1] at hB5
 have hix5:=drop_idx hd5
 refine W_skip (W_seq (W_block (sq (mF sf13 rfl (aI rfl (nq ?_))))))
 obtain ⟨x11,hx11,hB5⟩:=bind_some hB5
 refine W_drawS 8 [isV (v0),isV (I i_2),isEl RP.int x_5 0,isV (I x_5),isV (v1),isV (I i_2),isEl RP.int x11 0,isV (I x11)] [] [] ([]) [([],[]),([],[]),([],[]),([],[]),([],[]),([],[]),([],[]),([],[])] (S:=[]) Tryz_mix (by kernel_rfl) rfl (by kernel_rfl) (amF_cons (mono_V _) (amF_cons (mono_V _) (amF_cons (mono_el _ _ _) (amF_cons (mono_V _) (amF_cons (mono_V _) (amF_cons (mono_V _) (amF_cons (mono_el _ _ _) (amF_cons (mono_V _) amF_nil)))))))) Z ?_ (fun f w_ H16 hS16 hE16 hT16 Z=>?_)
 refine opsS_cons (fun f w_ _ _ s _ _ Z=>mF ((s 0 rfl).trans sf0) rfl (nO rfl rfl Z)) (opsS_cons (fun f w_ _ _ s _ _ Z=>mF ((s 5 rfl).trans rfl) rfl (nO rfl rfl Z)) (opsS_cons ?_ ?_))
 intro f w_ H16 X16 hS16 hE16 hP16 Z
 refine L_ix (r:=RP.int) rfl Tryz.underlying23 Tryz.sizeOf3 (hP16 0 16 rfl rfl) (RP.mono _ h0 (Le.trans l4 hE16)) (hP16 1 17 rfl rfl) hix5 (fun g25 o26 cs_g25 hrk_hat27 hat27=>?_)
 obtain rfl : _ = [_]:=hrk_hat27
 exact L_nil ⟨rfl,_,_,rfl,Le.refl _,fun _ _=>⟨_,_,_,rfl,rfl,hat27⟩,Z⟩
 refine opsS_cons ?_ ?_
 intro f w_ H16 X16 hS16 hE16 hP16 Z
 obtain ⟨g29,o29,cs29,hv29,hrk_hat29,hat29⟩:=(hP16 2 18 rfl rfl)
 obtain rfl : _ = [_]:=hrk_hat29
 refine L_ld rfl Tryz.isAgg3 hv29 (At.cell (AtH.at hat29 Z.sub) (j:=0) rfl) (L_nil ⟨rfl,_,_,rfl,Le.refl _,fun _ _=>rfl,Z⟩)
 refine opsS_cons (fun f w_ _ _ s _ _ Z=>mF ((s 1 rfl).trans sf1) rfl (nO rfl rfl Z)) (opsS_cons (fun f w_ _ _ s _ _ Z=>mF ((s 5 rfl).trans rfl) rfl (nO rfl rfl Z)) (opsS_cons ?_ ?_))
 intro f w_ H16 X16 hS16 hE16 hP16 Z
 refine L_ix (r:=RP.int) rfl Tryz.underlying23 Tryz.sizeOf3 (hP16 4 20 rfl rfl) (RP.mono _ h1 (Le.trans l4 hE16)) (hP16 5 21 rfl rfl) hx11 (fun g31 o32 cs_g31 hrk_hat33 hat33=>?_)
 obtain rfl : _ = [_]:=hrk_hat33
 exact L_nil ⟨rfl,_,_,rfl,Le.refl _,fun _ _=>⟨_,_,_,rfl,rfl,hat33⟩,Z⟩
 refine opsS_cons ?_ ?_
 intro f w_ H16 X16 hS16 hE16 hP16 Z
 obtain ⟨g35,o35,cs35,hv35,hrk_hat35,hat35⟩:=(hP16 6 22 rfl rfl)
 obtain rfl : _ = [_]:=hrk_hat35
 refine L_ld rfl Tryz.isAgg3 hv35 (At.cell (AtH.at hat35 Z.sub) (j:=0) rfl) (L_nil ⟨rfl,_,_,rfl,Le.refl _,fun _ _=>rfl,Z⟩)
 exact opsS_nil
 refine L_neq rfl (hT16 3 19 rfl rfl) (hT16 7 23 rfl rfl) (nn (W_cond (b:=(x_5 != x11)) rfl (fun hc37=>?_) (fun hc37=>?_)))
 have hB5:=(ite_t hc37).symm.trans hB5
 refine sq (aB rfl (nn (W_ret (retG1 (v1:=Bo false) Tryz.results147 rfl ?_))))
 obtain rfl:=so hB5
 obtain rfl:=so hL5
 obtain rfl:=so hF
 exact ⟨rfl,(Star.down Z (Le.trans l4 hE16) c0)⟩
 have hB5:=(ite_f hc37).symm.trans hB5
 refine W_skip (W_region (L_add rfl ((hS16 13 rfl).trans sf13) rfl (mI rfl (nn ?_))))
 obtain rfl:=so hB5
 show ∃ m,m < _∧I5 m _ _
 refine ⟨rest5.length,by simp,?_⟩
 exact ij hI5 ⟨i_2 + 1,rest5,H16,rfl,drop_next hd5,by simp at hl5; omega,hL5,(Le.trans l4 hE16),((hS16 0 rfl).trans sf0),((hS16 1 rfl).trans sf1),((hS16 12 rfl).trans sf12),(Eq.trans rfl (congrArg (Value.int .i64) (i64_succ (n:=s1.length) (by simp at hl5; omega) hlen5))),Z⟩
 rcases suf5 with _ | ⟨_,_⟩
 obtain rfl:=range_nil hL5
 refine W_exit (rj hR5 ⟨H3,rfl,l4,Z⟩)
 exact absurd (of_decide_eq_false hc6) (by simp at hl5; omega)
 intro f w_ hR
 obtain ⟨H3,rfl,l4,Z⟩:=rk hR5 hR
 refine sq (aB rfl (nn (W_ret (retG1 (v1:=Bo true) Tryz.results147 rfl ?_))))
 obtain rfl:=so hF
 exact ⟨rfl,(Star.down Z l4 c0)⟩
theorem i_Rule_holds_1_c {c1 : List Int} {row : List Int} {v0 : Value} {g_c1 : Nat} {v1_0 : Value} {H : FH} {w : World} (Z : Star H w []) (h0 : (rS 3 RP.int).rel H [v0] row) (hat_g_c1 : AtH H g_c1 0 [v1_0]) (h1_0 : (rS 3 RP.int).rel H [v1_0] c1) {r : Bool} (hF : i_Rule_holds_1 c1 row = some r) :
 C Tryz.prog 146 #[v0,Pt g_c1] w fun v w'=>v = Bo r∧Star H w' []:=by
 unfold i_Rule_holds_1 at hF
 refine C_enter Tryz.func146 rfl Tryz.ntmps146 rfl (sq (aB rfl (nq ?_)))
 obtain ⟨x6,hx6,hF⟩:=bind_some hF
 refine W_region (mV v0 rfl (L_ld rfl Tryz.isAgg23 rfl (At.cell0 (AtH.at hat_g_c1 Z.sub) (j:=0) rfl) ?_))
 obtain ⟨H8b,l9,s10,z11,k12⟩:=Z.borrow
 refine L_call rfl Tryz.call147 (ops2 rfl rfl) (slices_Equal_int_c (s1:=row) (s2:=c1) s10 (RP.mono _ h0 l9) (RP.mono _ h1_0 l9) hx6) ?_
 rintro _ w13 ⟨rfl,Z⟩
 have Z:=k12 Z c0
 refine aB rfl (nn (W_ret (retG1 (v1:=Bo x6) Tryz.results146 rfl ?_)))
 obtain rfl:=so hF
 exact ⟨rfl,Z⟩
theorem i_Rule_holds_c {r_ : Rule} {vals : List Int} {v0_1 : Value} {v0_2 : Value} {v0_4 : Value} {v1 : Value} {H : FH} {w : World} (Z : Star H w []) (h0_1 : (rS 3 RP.int).rel H [v0_1] r_.vars) (h0_2 : (rS 3 RP.int).rel H [v0_2] r_.coefs) (h0_4 : (rS 23 (rS 3 RP.int)).rel H [v0_4] r_.rows) (h1 : (rS 3 RP.int).rel H [v1] vals) {r : Bool} (hF : i_Rule_holds r_ vals = some r) :
 C Tryz.prog 105 #[.agg #[I r_.kind,v0_1,v0_2,I r_.bound,v0_4],v1] w fun v w'=>v = Bo r∧Star H w' []:=by
 unfold i_Rule_holds at hF
 refine C_enter Tryz.func105 rfl Tryz.ntmps105 rfl (sq (L_box (v:=.agg #[I r_.kind,v0_1,v0_2,I r_.bound,v0_4]) (cs:=#[I r_.kind,v0_1,v0_2,I r_.bound,v0_4]) rfl rfl rfl Z (fun g5 w6 Z=>L_box (v:=v1) (cs:=#[v1]) rfl rfl (cells_one (one_len (slice_len h1))) Z (fun g7 w8 Z=>aB rfl (nq (sq (fA 0 fa_79_0 rfl rfl (ldB 1 Z Tryz.isAgg3 rfl rfl rfl (nn (W_block (sq (L_eql rfl rfl rfl (aB rfl (nn (W_cond (b:=(r_.kind == 1)) rfl (fun hc9=>?_) (fun hc9=>?_))))))))))))))))
 have hF:=(ite_t hc9).symm.trans hF
 refine sq (aI rfl (nq (sq (ldB 0 Z Tryz.isAgg23 rfl rfl rfl (L_len rfl Tryz.underlying23 rfl (slice_len h1) (mI rfl (nn ?_)))))))
 have hlen12 : List.length vals≤9223372036854775807:=len_le (slice_len h1)
 obtain ⟨j12,hL12,hF⟩:=bind_some hF
 obtain ⟨R12,hR12⟩:=exR fun f w_=>∃ sum_11 : Int,j12 = .nx sum_11∧f 2 = Pt g5∧f 5 = I sum_11∧Star H w_ ([box g5 79 #[I r_.kind,v0_1,v0_2,I r_.bound,v0_4]])
 refine W_join R12 ?_ ?_
 refine W_block ?_
 obtain ⟨I12,hI12⟩:=exI fun n f w_=>∃ i_10 : Nat,∃ suf12 : List Int,∃ sum_11 : Int,n = suf12.length∧List.drop i_10 vals = suf12∧i_10 + suf12.length = vals.length∧rangeL (i_Rule_holds_b1 r_) suf12 i_10 sum_11 = some j12∧f 2 = Pt g5∧f 5 = I sum_11∧f 14 = v1∧f 15 = I (vals.length : Int)∧f 16 = I i_10∧Star H w_ ([box g5 79 #[I r_.kind,v0_1,v0_2,I r_.bound,v0_4]])
 have Z:=Z.get 1 rfl
 refine W_loop I12 (n:=vals.length) ?_ ?_
 exact ij hI12 ⟨0,vals,0,rfl,rfl,Nat.zero_add _,hL12,rfl,rfl,rfl,rfl,rfl,(Star.keepN 1 Z)⟩
 intro n12 f w_ hI
 obtain ⟨i_10,suf12,sum_11,rfl,hd12,hl12,hL12,sf2,sf5,sf14,sf15,sf16,Z⟩:=ik hI12 hI
 refine sq (L_lss rfl sf16 sf15 (nq (W_cond (b:=decide ((i_10 : Int) < (vals.length : Int))) rfl (fun hc13=>?_) (fun hc13=>?_))))
 have hlt12:=of_decide_eq_true hc13
 rcases suf12 with _ | ⟨x_12,rest12⟩
 exact absurd hlt12 (by simp at hl12; omega)
 obtain ⟨o12,hB12,hL12⟩:=range_cons hL12
 rw [i_Rule_holds_b1] at hB12
 have hix12:=drop_idx hd12
 refine W_skip (W_seq (W_block (sq (mF sf16 rfl (L_ix (r:=RP.int) rfl Tryz.underlying23 Tryz.sizeOf3 sf14 h1 sf16 hix12 (fun g18 o19 cs_g18 hrk_hat20 hat20=>?_))))))
 obtain rfl : _ = [_]:=hrk_hat20
 refine L_ld rfl Tryz.isAgg3 rfl (At.cell (AtH.at hat20 Z.sub) (j:=0) rfl) (aI rfl (aI rfl (nn ?_)))
 obtain ⟨x22,hx22,hB12⟩:=bind_some hB12
 refine W_region (mF sf5 rfl (fA 2 fa_79_2 sf2 rfl (ldB 0 Z Tryz.isAgg23 rfl rfl rfl (mI rfl (L_ix (r:=RP.int) rfl Tryz.underlying23 Tryz.sizeOf3 rfl h0_2 rfl hx22 (fun g27 o28 cs_g27 hrk_hat29 hat29=>?_))))))
 obtain rfl : _ = [_]:=hrk_hat29
 refine L_ld rfl Tryz.isAgg3 rfl (At.cell (AtH.at hat29 Z.sub) (j:=0) rfl) (mI rfl (L_mul rfl rfl rfl (L_add rfl rfl rfl (aI rfl (nn (W_region (L_add rfl sf16 rfl (mI rfl (nn ?_)))))))))
 obtain rfl:=so hB12
 show ∃ m,m < _∧I12 m _ _
 refine ⟨rest12.length,by simp,?_⟩
 exact ij hI12 ⟨i_10 + 1,rest12,i64 (sum_11 + (i64 (x22 * x_12))),rfl,drop_next hd12,by simp at hl12; omega,hL12,sf2,rfl,sf14,sf15,(Eq.trans rfl (congrArg (Value.int .i64) (i64_succ (n:=vals.length) (by simp at hl12; omega) hlen12))),Z⟩
 rcases suf12 with _ | ⟨_,_⟩
 obtain rfl:=range_nil hL12
 refine W_exit (rj hR12 ⟨sum_11,rfl,sf2,sf5,Z⟩)
 exact absurd (of_decide_eq_false hc13) (by simp at hl12; omega)
 intro f w_ hR
 obtain ⟨sum_11,rfl,sf2,sf5,Z⟩:=rk hR12 hR
 refine sq (mF sf5 rfl (fA 3 fa_79_3 sf2 rfl (ldB 0 Z Tryz.isAgg3 rfl rfl rfl (L_geq rfl rfl rfl (aB rfl (nn (W_ret (retG1 (v1:=Bo (decide (sum_11 ≥ r_.bound))) Tryz.results105 rfl ?_))))))))
 obtain rfl:=so hF
 exact ⟨rfl,(Star.keepN 0 Z)⟩
 have hF:=(ite_f hc9).symm.trans hF
 refine sq (L_eql rfl rfl rfl (aB rfl (nn (W_cond (b:=(r_.kind == 2)) rfl (fun hc31=>?_) (fun hc31=>?_)))))
 have hF:=(ite_t hc31).symm.trans hF
 refine W_seq (sq (ldB 0 Z Tryz.isAgg23 rfl rfl rfl (L_len rfl Tryz.underlying23 rfl (slice_len h1) (mI rfl (nn ?_)))))
 have hlen33 : List.length vals≤9223372036854775807:=len_le (slice_len h1)
 obtain ⟨j33,hL33,hF⟩:=bind_some hF
 obtain ⟨R33,hR33⟩:=exR fun f w_=>j33 = .nx ()∧Star H w_ ([])
 refine W_join R33 ?_ ?_
 refine W_block ?_
 obtain ⟨I33,hI33⟩:=exI fun n f w_=>∃ i_32 : Nat,∃ suf33 : List Int,n = suf33.length∧List.drop i_32 vals = suf33∧i_32 + suf33.length = vals.length∧rangeL (i_Rule_holds_b2 vals) suf33 i_32 () = some j33∧f 3 = Pt g7∧f 37 = v1∧f 38 = I (vals.length : Int)∧f 39 = I i_32∧Star H w_ ([box g7 23 #[v1]])
 refine W_loop I33 (n:=vals.length) ?_ ?_
 exact ij hI33 ⟨0,vals,rfl,rfl,Nat.zero_add _,hL33,rfl,rfl,rfl,rfl,(Star.keepN 1 Z)⟩
 intro n33 f w_ hI
 obtain ⟨i_32,suf33,rfl,hd33,hl33,hL33,sf3,sf37,sf38,sf39,Z⟩:=ik hI33 hI
 refine sq (L_lss rfl sf39 sf38 (nq (W_cond (b:=decide ((i_32 : Int) < (vals.length : Int))) rfl (fun hc34=>?_) (fun hc34=>?_))))
 have hlt33:=of_decide_eq_true hc34
 rcases suf33 with _ | ⟨x_33,rest33⟩
 exact absurd hlt33 (by simp at hl33; omega)
 obtain ⟨o33,hB33,hL33⟩:=range_cons hL33
 rw [i_Rule_holds_b2] at hB33
 have hix33:=drop_idx hd33
 refine W_skip (W_seq (W_block (sq (mF sf39 rfl (L_ix (r:=RP.int) rfl Tryz.underlying23 Tryz.sizeOf3 sf37 h1 sf39 hix33 (fun g39 o40 cs_g39 hrk_hat41 hat41=>?_))))))
 obtain rfl : _ = [_]:=hrk_hat41
 refine L_ld rfl Tryz.isAgg3 rfl (At.cell (AtH.at hat41 Z.sub) (j:=0) rfl) (aI rfl (aI rfl (nq ?_)))
 obtain ⟨x43,hx43,hB33⟩:=bind_some hB33
 obtain ⟨x51,hx51,hB33⟩:=bind_some hB33
 refine W_region (ldB 0 Z Tryz.isAgg23 sf3 rfl rfl (mI rfl (L_sl (a:=0) (b:=(i_32 : Int)) rfl et_23 rfl h1 rfl rfl hx43 (fun v53 hs54=>mI rfl ?_))))
 obtain ⟨H55b,l56,s57,z58,k59⟩:=Z.borrow
 refine L_call rfl Tryz.call97 (ops2 rfl rfl) (slices_Contains_int_c (s:=x43) (v_:=x_33) s57 (RP.mono _ hs54 l56) hx51) ?_
 rintro _ w60 ⟨rfl,Z⟩
 have Z:=k59 Z c0
 refine nn (W_cond (b:=x51) rfl (fun hc61=>?_) (fun hc61=>?_))
 have hB33:=(ite_t hc61).symm.trans hB33
 refine sq (aB rfl (nn (W_ret (retG1 (v1:=Bo false) Tryz.results105 rfl ?_))))
 obtain rfl:=so hB33
 obtain rfl:=so hL33
 obtain rfl:=so hF
 exact ⟨rfl,(Star.keepN 0 Z)⟩
 have hB33:=(ite_f hc61).symm.trans hB33
 refine W_skip (W_region (L_add rfl sf39 rfl (mI rfl (nn ?_))))
 obtain rfl:=so hB33
 show ∃ m,m < _∧I33 m _ _
 refine ⟨rest33.length,by simp,?_⟩
 exact ij hI33 ⟨i_32 + 1,rest33,rfl,drop_next hd33,by simp at hl33; omega,hL33,sf3,sf37,sf38,(Eq.trans rfl (congrArg (Value.int .i64) (i64_succ (n:=vals.length) (by simp at hl33; omega) hlen33))),Z⟩
 rcases suf33 with _ | ⟨_,_⟩
 obtain rfl:=range_nil hL33
 refine W_exit (rj hR33 ⟨rfl,(Star.keepN 0 Z)⟩)
 exact absurd (of_decide_eq_false hc34) (by simp at hl33; omega)
 intro f w_ hR
 obtain ⟨rfl,Z⟩:=rk hR33 hR
 refine sq (aB rfl (nn (W_ret (retG1 (v1:=Bo true) Tryz.results105 rfl ?_))))
 obtain rfl:=so hF
 exact ⟨rfl,Z⟩
 have hF:=(ite_f hc31).symm.trans hF
 refine sq (L_eql rfl rfl rfl (aB rfl (nn (W_cond (b:=(r_.kind == 3)) rfl (fun hc62=>?_) (fun hc62=>?_)))))
 have hF:=(ite_t hc62).symm.trans hF
 refine W_seq ?_
 obtain ⟨x68,hx68,hF⟩:=bind_some hF
 refine W_region (fA 4 fa_79_4 rfl rfl (ldB 1 Z Tryz.isAgg77 rfl rfl rfl (L_mf rfl (ops1 rfl) ?_)))
 obtain ⟨H70b,l71,s72,z73,k74⟩:=Z.borrow
 have hf75 : Fun1 Tryz.prog (rS 3 RP.int) false Value.bool (i_Rule_holds_1 vals) (.func (.func 146) #[] #[Pt g7]) H70b:=by
   refine ⟨_,_,rfl,Tryz.call146,fun H_ w_ hE_ hs_ cs_ x_ y_ args_ hr_ hy_ ha_=>?_⟩
   obtain ⟨p_0,rfl,hp_0⟩:=slice1 hr_
   obtain rfl:=args_of (b:=#[p_0,Pt g7]) ha_
   exact i_Rule_holds_1_c (c1:=vals) (row:=x_) hs_ hp_0 (AtH.le (AtH.of (fz_box 0 z73 rfl)) hE_) (RP.mono _ (RP.mono _ h1 l71) hE_) hy_
 refine L_call rfl Tryz.call138 (ops2 rfl rfl) (slices_ContainsFunc_Sint_c (s:=r_.rows) (f_:=(i_Rule_holds_1 vals)) s72 (RP.mono _ h0_4 l71) hf75 hx68) ?_
 rintro _ w76 ⟨rfl,Z⟩
 have Z:=k74 Z c0
 refine aB rfl (nn (W_ret (retG1 (v1:=Bo x68) Tryz.results105 rfl ?_)))
 obtain rfl:=so hF
 exact ⟨rfl,(Star.keepN 0 Z)⟩
 have hF:=(ite_f hc62).symm.trans hF
 refine W_skip (W_seq ?_)
 obtain ⟨x77,hx77,hF⟩:=bind_some hF
 obtain ⟨x82,hx82,hF⟩:=bind_some hF
 have Z:=Star.drop 1 Z rfl
 refine W_drawS 6 [isV (v1),isEl RP.int x77 0,isV (I x77),isV (v1),isEl RP.int x82 0,isV (I x82)] [box g7 23 #[v1]] [] ([]) [([],[]),([],[]),([],[]),([],[]),([],[]),([],[])] (S:=[]) Tryz_mix (by kernel_rfl) rfl (by kernel_rfl) (amF_cons (mono_V _) (amF_cons (mono_el _ _ _) (amF_cons (mono_V _) (amF_cons (mono_V _) (amF_cons (mono_el _ _ _) (amF_cons (mono_V _) amF_nil)))))) Z ?_ (fun f w_ H87 hS87 hE87 hT87 Z=>?_)
 refine opsS_cons (fun f w_ _ _ s _ _ Z=>ldB 0 Z Tryz.isAgg23 ((s 3 rfl).trans rfl) rfl rfl (nO rfl rfl Z)) (opsS_cons ?_ ?_)
 intro f w_ H87 X87 hS87 hE87 hP87 Z
 refine L_ix (r:=RP.int) rfl Tryz.underlying23 Tryz.sizeOf3 (hP87 0 56 rfl rfl) (RP.mono _ h1 hE87) rfl hx77 (fun g96 o97 cs_g96 hrk_hat98 hat98=>?_)
 obtain rfl : _ = [_]:=hrk_hat98
 exact L_nil ⟨rfl,_,_,rfl,Le.refl _,fun _ _=>⟨_,_,_,rfl,rfl,hat98⟩,Z⟩
 refine opsS_cons ?_ ?_
 intro f w_ H87 X87 hS87 hE87 hP87 Z
 obtain ⟨g100,o100,cs100,hv100,hrk_hat100,hat100⟩:=(hP87 1 57 rfl rfl)
 obtain rfl : _ = [_]:=hrk_hat100
 refine L_ld rfl Tryz.isAgg3 hv100 (At.cell (AtH.at hat100 Z.sub) (j:=0) rfl) (L_nil ⟨rfl,_,_,rfl,Le.refl _,fun _ _=>rfl,Z⟩)
 refine opsS_cons (fun f w_ _ _ s _ _ Z=>ldB 0 Z Tryz.isAgg23 ((s 3 rfl).trans rfl) rfl rfl (nO rfl rfl Z)) (opsS_cons ?_ ?_)
 intro f w_ H87 X87 hS87 hE87 hP87 Z
 refine L_ix (r:=RP.int) rfl Tryz.underlying23 Tryz.sizeOf3 (hP87 3 59 rfl rfl) (RP.mono _ h1 hE87) rfl hx82 (fun g102 o103 cs_g102 hrk_hat104 hat104=>?_)
 obtain rfl : _ = [_]:=hrk_hat104
 exact L_nil ⟨rfl,_,_,rfl,Le.refl _,fun _ _=>⟨_,_,_,rfl,rfl,hat104⟩,Z⟩
 refine opsS_cons ?_ ?_
 intro f w_ H87 X87 hS87 hE87 hP87 Z
 obtain ⟨g106,o106,cs106,hv106,hrk_hat106,hat106⟩:=(hP87 4 60 rfl rfl)
 obtain rfl : _ = [_]:=hrk_hat106
 refine L_ld rfl Tryz.isAgg3 hv106 (At.cell (AtH.at hat106 Z.sub) (j:=0) rfl) (L_nil ⟨rfl,_,_,rfl,Le.refl _,fun _ _=>rfl,Z⟩)
 exact opsS_nil
 refine L_lss rfl (hT87 2 58 rfl rfl) (hT87 5 61 rfl rfl) (aB rfl (nn (W_ret (retG1 (v1:=Bo (decide (x77 < x82))) Tryz.results105 rfl ?_))))
 obtain rfl:=so hF
 exact ⟨rfl,(Star.down (Star.keepN 0 Z) hE87 c0)⟩
theorem i_Model_encodeRule_c {fu : Nat} {m : Model} {r_ : Rule} {v0_0 : Value} {v0_1 : Value} {v1_1 : Value} {v1_2 : Value} {v1_4 : Value} {H : FH} {w : World} (Z : Star H w []) (h0_0 : (rS 3 RP.int).rel H [v0_0] m.sizes) (h0_1 : (rS 79 (rRule 3 23)).rel H [v0_1] m.rules) (h1_1 : (rS 3 RP.int).rel H [v1_1] r_.vars) (h1_2 : (rS 3 RP.int).rel H [v1_2] r_.coefs) (h1_4 : (rS 23 (rS 3 RP.int)).rel H [v1_4] r_.rows) {r : List Con} (hF : i_Model_encodeRule fu m r_ = some r) :
 C Tryz.prog 50 #[.agg #[v0_0,v0_1],.agg #[I r_.kind,v1_1,v1_2,I r_.bound,v1_4]] w fun v w'=>∃ (u1 : Value),v = u1∧Star H w' [oS 73 (oCon 122) u1 r]:=by
 unfold i_Model_encodeRule at hF
 refine C_enter Tryz.func50 rfl Tryz.ntmps50 rfl (sq (L_box (v:=.agg #[v0_0,v0_1]) (cs:=#[v0_0,v0_1]) rfl rfl rfl Z (fun g5 w6 Z=>L_box (v:=.agg #[I r_.kind,v1_1,v1_2,I r_.bound,v1_4]) (cs:=#[I r_.kind,v1_1,v1_2,I r_.bound,v1_4]) rfl rfl rfl Z (fun g7 w8 Z=>aV S0 rfl (ns (L_al (cs:=#[S0]) rfl Tryz.zeroValue28 rfl Z (fun g11 w12 Z=>nq (sq (fA 0 fa_79_0 rfl rfl (ldB 1 Z Tryz.isAgg3 rfl rfl rfl (nn (W_block (sq (L_eql rfl rfl rfl (aB rfl (nn (W_cond (b:=(r_.kind == 1)) rfl (fun hc13=>?_) (fun hc13=>?_))))))))))))))))))
 have hF:=(ite_t hc13).symm.trans hF
 refine sq (aV S0 rfl (nq (sq (fA 1 fa_79_1 rfl rfl (ldB 1 Z Tryz.isAgg23 rfl rfl rfl (L_len rfl Tryz.underlying23 rfl (slice_len h1_1) (mI rfl (nn ?_))))))))
 have hlen19 : List.length r_.vars≤9223372036854775807:=len_le (slice_len h1_1)
 obtain ⟨j19,hL19,hF⟩:=bind_some hF
 obtain ⟨R19,hR19⟩:=exR fun f w_=>∃ terms_15 : List Term,∃ H17 : FH,∃ v15_terms : Value,j19 = .nx terms_15∧Le H H17∧f 3 = Pt g7∧f 6 = v15_terms∧Star H17 w_ ([oF 122 rTerm v15_terms terms_15,box g7 79 #[I r_.kind,v1_1,v1_2,I r_.bound,v1_4]])
 refine W_join R19 ?_ ?_
 refine W_block ?_
 obtain ⟨I19,hI19⟩:=exI fun n f w_=>∃ i_14 : Nat,∃ suf19 : List Int,∃ terms_15 : List Term,∃ H17 : FH,∃ v15_terms : Value,n = suf19.length∧List.drop i_14 r_.vars = suf19∧i_14 + suf19.length = r_.vars.length∧rangeL (i_Model_encodeRule_b1 m r_) suf19 i_14 terms_15 = some j19∧Le H H17∧f 2 = Pt g5∧f 3 = Pt g7∧f 6 = v15_terms∧f 24 = v1_1∧f 25 = I (r_.vars.length : Int)∧f 26 = I i_14∧Star H17 w_ ([oF 122 rTerm v15_terms terms_15,box g7 79 #[I r_.kind,v1_1,v1_2,I r_.bound,v1_4],box g5 26 #[v0_0,v0_1]])
 have Z:=Star.addNil (R:=(OR.frz rTerm)) (e:=122) Z
 have Z:=Z.gets [3,3,2] rfl
 refine W_loop I19 (n:=r_.vars.length) ?_ ?_
 exact ij hI19 ⟨0,r_.vars,[],H,S0,rfl,rfl,Nat.zero_add _,hL19,(Le.refl _),rfl,rfl,rfl,rfl,rfl,rfl,(Star.keepN 3 Z)⟩
 intro n19 f w_ hI
 obtain ⟨i_14,suf19,terms_15,H17,v15_terms,rfl,hd19,hl19,hL19,l18,sf2,sf3,sf6,sf24,sf25,sf26,Z⟩:=ik hI19 hI
 refine sq (L_lss rfl sf26 sf25 (nq (W_cond (b:=decide ((i_14 : Int) < (r_.vars.length : Int))) rfl (fun hc21=>?_) (fun hc21=>?_))))
 have hlt19:=of_decide_eq_true hc21
 rcases suf19 with _ | ⟨x_19,rest19⟩
 exact absurd hlt19 (by simp at hl19; omega)
 obtain ⟨o19,hB19,hL19⟩:=range_cons hL19
 rw [i_Model_encodeRule_b1] at hB19
 have hix19:=drop_idx hd19
 refine W_skip (W_seq (W_block (sq (mF sf26 rfl (L_ix (r:=RP.int) rfl Tryz.underlying23 Tryz.sizeOf3 sf24 (RP.mono _ h1_1 l18) sf26 hix19 (fun g26 o27 cs_g26 hrk_hat28 hat28=>?_))))))
 obtain rfl : _ = [_]:=hrk_hat28
 refine L_ld rfl Tryz.isAgg3 rfl (At.cell (AtH.at hat28 Z.sub) (j:=0) rfl) (aI rfl (aI rfl (nq ?_)))
 obtain ⟨x30,hx30,hB19⟩:=bind_some hB19
 refine W_region (fA 0 fa_26_0 sf2 rfl (ldB 2 Z Tryz.isAgg23 rfl rfl rfl (mI rfl (L_ix (r:=RP.int) rfl Tryz.underlying23 Tryz.sizeOf3 rfl (RP.mono _ h0_0 l18) rfl hx30 (fun g35 o36 cs_g35 hrk_hat37 hat37=>?_)))))
 obtain rfl : _ = [_]:=hrk_hat37
 refine L_ld rfl Tryz.isAgg3 rfl (At.cell (AtH.at hat37 Z.sub) (j:=0) rfl) (L_add rfl rfl rfl (mI rfl (nn ?_)))
 obtain ⟨k45,hk45,hB19⟩:=bind_some hB19
 obtain ⟨j44,hL44,hB19⟩:=bind_some hB19
 obtain ⟨R44,hR44⟩:=exR fun f w_=>∃ terms_40 : List Term,∃ H42 : FH,∃ v40_terms : Value,j44 = .nx terms_40∧Le H17 H42∧f 2 = Pt g5∧f 3 = Pt g7∧f 6 = v40_terms∧f 24 = v1_1∧f 25 = I (r_.vars.length : Int)∧f 26 = I i_14∧Star H42 w_ ([oF 122 rTerm v40_terms terms_40,box g7 79 #[I r_.kind,v1_1,v1_2,I r_.bound,v1_4],box g5 26 #[v0_0,v0_1]])
 refine W_join R44 ?_ ?_
 refine W_block ?_
 obtain ⟨I44,hI44⟩:=exI fun n f w_=>∃ i_39 : Nat,∃ suf44 : Nat,∃ terms_40 : List Term,∃ H42 : FH,∃ v40_terms : Value,suf44 = n∧0≤i_39∧i_39 + suf44 = 0 + k45∧countL (i_Model_encodeRule_b2 m r_ i_14 x_19) suf44 i_39 terms_40 = some j44∧Le H17 H42∧f 2 = Pt g5∧f 3 = Pt g7∧f 6 = v40_terms∧f 7 = I i_14∧f 8 = I x_19∧f 24 = v1_1∧f 25 = I (r_.vars.length : Int)∧f 26 = I i_14∧f 36 = I (i64 (x30 + 1))∧f 37 = I i_39∧Star H42 w_ ([oF 122 rTerm v40_terms terms_40,box g7 79 #[I r_.kind,v1_1,v1_2,I r_.bound,v1_4],box g5 26 #[v0_0,v0_1]])
 refine W_loop I44 (n:=k45) ?_ ?_
 exact ij hI44 ⟨0,k45,terms_15,H17,v15_terms,rfl,Nat.le_refl _,rfl,hL44,(Le.refl _),sf2,sf3,sf6,rfl,rfl,sf24,sf25,sf26,rfl,rfl,Z⟩
 intro n44 f w_ hI
 obtain ⟨i_39,suf44,terms_40,H42,v40_terms,rfl,hs44,hl44,hL44,l43,sf2,sf3,sf6,sf7,sf8,sf24,sf25,sf26,sf36,sf37,Z⟩:=ik hI44 hI
 refine sq (L_lss rfl sf37 sf36 (nq (W_cond (b:=decide ((i_39 : Int) < (i64 (x30 + 1)))) rfl (fun hc46=>?_) (fun hc46=>?_))))
 have hlt44:=of_decide_eq_true hc46
 rcases suf44 with _ | rest44
 exact absurd hlt44 (cntF_no hl44 hk45)
 obtain ⟨o44,hB44,hL44⟩:=count_succ hL44
 rw [i_Model_encodeRule_b2] at hB44
 refine W_skip (W_seq (W_block (sq (mF sf37 rfl (aI rfl (nn ?_))))))
 obtain ⟨x47,hx47,hB44⟩:=bind_some hB44
 obtain ⟨x57,hx57,hB44⟩:=bind_some hB44
 obtain ⟨x62,hx62,hB44⟩:=bind_some hB44
 refine W_drawS 14 [isV (v40_terms),isV (Pq g7 2),isV (v1_2),isV (I i_14),isEl RP.int x47 0,isV (I x47),isV (I i_39),isV (I (i64 (x47 * (i_39 : Int)))),isV (.agg #[v0_0,v0_1]),isV (I x_19),isV (I i_39),isV (I x57),isV (.agg #[I (i64 (x47 * (i_39 : Int))),I x57]),anyF] [oF 122 rTerm v40_terms terms_40,box g7 79 #[I r_.kind,v1_1,v1_2,I r_.bound,v1_4],box g5 26 #[v0_0,v0_1]] [.made 13 53 (fun v_=>oF 122 rTerm v_ ([({ coef:=i64 (x47 * (i_39 : Int)),lit:=x57 } : Term)])) none] ([]) [([],[]),([],[]),([],[]),([],[]),([],[]),([],[]),([],[]),([],[]),([],[]),([],[]),([],[]),([],[]),([],[]),([],[0])] (S:=[(some 13,[53],none)]) Tryz_mix (by kernel_rfl) rfl (by kernel_rfl) (amF_cons (mono_V _) (amF_cons (mono_V _) (amF_cons (mono_V _) (amF_cons (mono_V _) (amF_cons (mono_el _ _ _) (amF_cons (mono_V _) (amF_cons (mono_V _) (amF_cons (mono_V _) (amF_cons (mono_V _) (amF_cons (mono_V _) (amF_cons (mono_V _) (amF_cons (mono_V _) (amF_cons (mono_V _) (amF_cons (mono_any) amF_nil)))))))))))))) Z ?_ (fun f w_ H66 hS66 hE66 hT66 Z=>?_)
 refine opsS_cons (fun f w_ _ _ s _ _ Z=>mF ((s 6 rfl).trans sf6) rfl (nO rfl rfl Z)) (opsS_cons (fun f w_ _ _ s _ _ Z=>fA 2 fa_79_2 ((s 3 rfl).trans sf3) rfl (nO rfl rfl Z)) (opsS_cons (fun f w_ _ _ _ _ p Z=>ldB 1 Z Tryz.isAgg23 (p 1 41 rfl rfl) rfl rfl (nO rfl rfl Z)) (opsS_cons (fun f w_ _ _ s _ _ Z=>mF ((s 7 rfl).trans sf7) rfl (nO rfl rfl Z)) (opsS_cons ?_ ?_))))
 intro f w_ H66 X66 hS66 hE66 hP66 Z
 refine L_ix (r:=RP.int) rfl Tryz.underlying23 Tryz.sizeOf3 (hP66 2 42 rfl rfl) (RP.mono _ h1_2 (Le.trans (Le.trans l18 l43) hE66)) (hP66 3 43 rfl rfl) hx47 (fun g80 o81 cs_g80 hrk_hat82 hat82=>?_)
 obtain rfl : _ = [_]:=hrk_hat82
 exact L_nil ⟨rfl,_,_,rfl,Le.refl _,fun _ _=>⟨_,_,_,rfl,rfl,hat82⟩,Z⟩
 refine opsS_cons ?_ ?_
 intro f w_ H66 X66 hS66 hE66 hP66 Z
 obtain ⟨g84,o84,cs84,hv84,hrk_hat84,hat84⟩:=(hP66 4 44 rfl rfl)
 obtain rfl : _ = [_]:=hrk_hat84
 refine L_ld rfl Tryz.isAgg3 hv84 (At.cell (AtH.at hat84 Z.sub) (j:=0) rfl) (L_nil ⟨rfl,_,_,rfl,Le.refl _,fun _ _=>rfl,Z⟩)
 refine opsS_cons (fun f w_ _ _ s _ _ Z=>mF ((s 9 rfl).trans rfl) rfl (nO rfl rfl Z)) (opsS_cons (fun f w_ _ _ _ _ p Z=>L_mul rfl (p 5 45 rfl rfl) (p 6 46 rfl rfl) (nO rfl rfl Z)) (opsS_cons (fun f w_ _ _ s _ _ Z=>L_lda (cs:=[v0_0,v0_1]) rfl Tryz.isAgg26 Tryz.sizeOf26 ((s 2 rfl).trans sf2) (At.sub0 (Blk.at (Star.blkAt 2 Z rfl)) 0 2) rfl (nO rfl rfl Z)) (opsS_cons (fun f w_ _ _ s _ _ Z=>mF ((s 8 rfl).trans sf8) rfl (nO rfl rfl Z)) (opsS_cons (fun f w_ _ _ s _ _ Z=>mF ((s 9 rfl).trans rfl) rfl (nO rfl rfl Z)) (opsS_cons ?_ ?_)))))
 intro f w_ H66 X66 hS66 hE66 hP66 Z
 obtain ⟨H86b,l87,s88,z89,k90⟩:=Z.borrow
 refine L_call rfl Tryz.call63 (ops3 (hP66 8 48 rfl rfl) (hP66 9 49 rfl rfl) (hP66 10 50 rfl rfl)) (i_Model_boolVar_c (m:=m) (cell:=x_19) (value:=(i_39 : Int)) s88 (RP.mono _ h0_0 (Le.trans (Le.trans (Le.trans l18 l43) hE66) l87)) (RP.mono _ h0_1 (Le.trans (Le.trans (Le.trans l18 l43) hE66) l87)) hx57) ?_
 rintro _ w91 ⟨rfl,Z⟩
 have Z:=k90 Z c0
 exact L_nil ⟨rfl,_,_,rfl,Le.refl _,fun _ _=>rfl,Z⟩
 refine opsS_cons (fun f w_ _ _ _ _ p Z=>L_bld rfl (parts2 (p 7 47 rfl rfl) (p 11 51 rfl rfl)) (bld_122_0_1 (I (i64 (x47 * (i_39 : Int)))) (I x57) rfl rfl) (nO rfl rfl Z)) (opsS_cons ?_ ?_)
 intro f w_ H66 X66 hS66 hE66 hP66 Z
 refine L_bs rfl (parts1 (hP66 12 52 rfl rfl)) (bs_71_1_2 (I (i64 (x47 * (i_39 : Int)))) (I x57) ) Z (fun g92 w93 Z=>?_)
 have Z:=Star.addF (r:=rTerm) (cs:=[I (i64 (x47 * (i_39 : Int))),I x57]) (x:=({ coef:=i64 (x47 * (i_39 : Int)),lit:=x57 } : Term)) Z (rTerm_iff.2 rfl)
 have Z:=Star.mkRow (R:=(OR.frz rTerm)) [([I (i64 (x47 * (i_39 : Int))),I x57],({ coef:=i64 (x47 * (i_39 : Int)),lit:=x57 } : Term))] [({ coef:=i64 (x47 * (i_39 : Int)),lit:=x57 } : Term)] 1 Z rfl rfl rfl (by decide)
 have Z:=Z.gets [3,3,3] rfl
 exact L_nil ⟨rfl,_,_,rfl,Le.refl _,fun _ _=>trivial,Z⟩
 exact opsS_nil
 have Z : Star H66 w_ ([oF 122 rTerm v40_terms terms_40,box g7 79 #[I r_.kind,v1_1,v1_2,I r_.bound,v1_4],box g5 26 #[v0_0,v0_1],oF 122 rTerm (f 53) ([({ coef:=i64 (x47 * (i_39 : Int)),lit:=x57 } : Term)])]):=Z
 have Z:=Z.gets [3,1] rfl
 refine L_appM (v:=v40_terms) (u:=(f 53)) rfl et_71 (hT66 0 40 rfl rfl) rfl Z hx62 (fun v96 w97 Z=>aV v96 rfl (nn (W_region (L_add rfl ((hS66 37 rfl).trans sf37) rfl (mI rfl (nn ?_))))))
 obtain rfl:=so hB44
 show ∃ m,m < _∧I44 m _ _
 refine ⟨rest44,Nat.lt_succ_self _,?_⟩
 exact ij hI44 ⟨i_39 + 1,rest44,x62,H66,v96,rfl,by omega,by omega,hL44,(Le.trans l43 hE66),((hS66 2 rfl).trans sf2),((hS66 3 rfl).trans sf3),rfl,((hS66 7 rfl).trans sf7),((hS66 8 rfl).trans sf8),((hS66 24 rfl).trans sf24),((hS66 25 rfl).trans sf25),((hS66 26 rfl).trans sf26),((hS66 36 rfl).trans sf36),(Eq.trans rfl (congrArg (Value.int .i64) (i64_succ (n:=0 + k45) (by omega) (cntF_le hk45)))),Z⟩
 rcases suf44 with _ | _
 obtain rfl:=count_zero hL44
 refine W_exit (rj hR44 ⟨terms_40,H42,v40_terms,rfl,l43,sf2,sf3,sf6,sf24,sf25,sf26,Z⟩)
 exact absurd (cntF_yes hs44 hl44 hk45) (of_decide_eq_false hc46)
 intro f w_ hR
 obtain ⟨terms_40,H42,v40_terms,rfl,l43,sf2,sf3,sf6,sf24,sf25,sf26,Z⟩:=rk hR44 hR
 refine W_region (L_add rfl sf26 rfl (mI rfl (nn ?_)))
 obtain rfl:=so hB19
 show ∃ m,m < _∧I19 m _ _
 refine ⟨rest19.length,by simp,?_⟩
 exact ij hI19 ⟨i_14 + 1,rest19,terms_40,H42,v40_terms,rfl,drop_next hd19,by simp at hl19; omega,hL19,(Le.trans l18 l43),sf2,sf3,sf6,sf24,sf25,(Eq.trans rfl (congrArg (Value.int .i64) (i64_succ (n:=r_.vars.length) (by simp at hl19; omega) hlen19))),Z⟩
 rcases suf19 with _ | ⟨_,_⟩
 obtain rfl:=range_nil hL19
 refine W_exit (rj hR19 ⟨terms_15,H17,v15_terms,rfl,l18,sf3,sf6,(Star.keepN 2 Z)⟩)
 exact absurd (of_decide_eq_false hc21) (by simp at hl19; omega)
 intro f w_ hR
 obtain ⟨terms_15,H17,v15_terms,rfl,l18,sf3,sf6,Z⟩:=rk hR19 hR
 refine W_seq ?_
 obtain ⟨x105,hx105,hF⟩:=bind_some hF
 refine W_region (mF sf6 rfl (fA 3 fa_79_3 sf3 rfl (ldB 1 Z Tryz.isAgg3 rfl rfl rfl ?_)))
 obtain ⟨H111b,l112,s113,z114,k115⟩:=Z.borrow
 have hb116 : (rS 122 rTerm).rel H111b [v15_terms] terms_15:=fz_own 0 z114 rfl
 refine L_call rfl Tryz.call102 (ops2 rfl rfl) (i_normal_c (terms:=terms_15) (bound:=r_.bound) s113 hb116 hx105) ?_
 rintro _ w117 ⟨r117_0,rfl,Z⟩
 have Z:=k115 Z (co closed_term c0)
 refine mV (.tuple #[.agg #[r117_0,I x105.1.bound],Bo x105.2]) rfl (L_ex (v:=.agg #[r117_0,I x105.1.bound]) rfl rfl rfl (L_ex (v:=Bo x105.2) rfl rfl rfl (L_al (cs:=#[S0,I 0]) rfl Tryz.zeroValue73 rfl Z (fun g119 w120 Z=>L_staB (vs:=#[r117_0,I x105.1.bound]) (cs2:=#[r117_0,I x105.1.bound]) 0 rfl Tryz.sizeOf73 rfl rfl rfl (ones_cons (one_len (Star.len 1 Z rfl)) (ones_cons rfl ones_nil)) Z rfl (by show 0 + 2≤2; decide) rfl (fun w121 Z=>aB rfl (L_nil (sq (L_lda (cs:=[r117_0,I x105.1.bound]) rfl Tryz.isAgg73 Tryz.sizeOf73 rfl (At.sub0 (Blk.at (Star.blkAt 0 Z rfl)) 0 2) rfl (L_bs rfl (parts1 rfl) (bs_28_1_2 (r117_0) (I x105.1.bound) ) Z (fun g125 w126 Z=>?_))))))))))
 have Z:=Z.get 2 rfl
 have Z:=oCon_close (c:=x105.1) Z
 have Z:=Star.mkRow (R:=(oCon 122)) [([r117_0,I x105.1.bound],x105.1)] [x105.1] 1 Z rfl rfl rfl (by decide)
 refine aV (Sl g125 1 1) rfl (nn (W_ret (retG1 (v1:=(Sl g125 1 1)) Tryz.results50 rfl ?_)))
 obtain rfl:=so hF
 exact ⟨(Sl g125 1 1),rfl,(Star.down (Star.keepN 1 Z) l18 (co closed_oCon c0))⟩
 have hF:=(ite_f hc13).symm.trans hF
 refine sq (L_eql rfl rfl rfl (aB rfl (nn (W_cond (b:=(r_.kind == 2)) rfl (fun hc128=>?_) (fun hc128=>?_)))))
 have hF:=(ite_t hc128).symm.trans hF
 refine W_seq (sq (mI rfl (nn ?_)))
 obtain ⟨k135,hk135,hF⟩:=bind_some hF
 obtain ⟨j134,hL134,hF⟩:=bind_some hF
 obtain ⟨R134,hR134⟩:=exR fun f w_=>∃ g11_0_130 : List Con,∃ H132 : FH,∃ v130_g11_0 : Value,j134 = .nx g11_0_130∧Le H H132∧f 5 = Pt g11∧Star H132 w_ ([oS 73 (oCon 122) v130_g11_0 g11_0_130,box g11 28 #[v130_g11_0]])
 refine W_join R134 ?_ ?_
 refine W_block ?_
 obtain ⟨I134,hI134⟩:=exI fun n f w_=>∃ i_129 : Nat,∃ suf134 : Nat,∃ g11_0_130 : List Con,∃ H132 : FH,∃ v130_g11_0 : Value,suf134 = n∧0≤i_129∧i_129 + suf134 = 0 + k135∧countL (i_Model_encodeRule_b3 fu m r_) suf134 i_129 g11_0_130 = some j134∧Le H H132∧f 2 = Pt g5∧f 3 = Pt g7∧f 5 = Pt g11∧f 68 = I i_129∧Star H132 w_ ([oS 73 (oCon 122) v130_g11_0 g11_0_130,box g11 28 #[v130_g11_0],box g7 79 #[I r_.kind,v1_1,v1_2,I r_.bound,v1_4],box g5 26 #[v0_0,v0_1]])
 have Z:=Star.addNil (R:=(oCon 122)) (e:=73) Z
 refine W_loop I134 (n:=k135) ?_ ?_
 exact ij hI134 ⟨0,k135,[],H,S0,rfl,Nat.le_refl _,rfl,hL134,(Le.refl _),rfl,rfl,rfl,rfl,Z⟩
 intro n134 f w_ hI
 obtain ⟨i_129,suf134,g11_0_130,H132,v130_g11_0,rfl,hs134,hl134,hL134,l133,sf2,sf3,sf5,sf68,Z⟩:=ik hI134 hI
 refine sq (L_lss rfl sf68 rfl (nq (W_cond (b:=decide ((i_129 : Int) < 4)) rfl (fun hc137=>?_) (fun hc137=>?_))))
 have hlt134:=of_decide_eq_true hc137
 rcases suf134 with _ | rest134
 exact absurd hlt134 (cntF_no hl134 hk135)
 obtain ⟨o134,hB134,hL134⟩:=count_succ hL134
 rw [i_Model_encodeRule_b3] at hB134
 refine W_skip (W_seq (W_block (sq (mF sf68 rfl (aI rfl (ns (aV S0 rfl (nq (sq (fA 1 fa_79_1 sf3 rfl (ldB 2 Z Tryz.isAgg23 rfl rfl rfl (L_len rfl Tryz.underlying23 rfl (slice_len (RP.mono _ h1_1 l133)) (mI rfl (nn ?_))))))))))))))
 have hlen141 : List.length r_.vars≤9223372036854775807:=len_le (slice_len (RP.mono _ h1_1 l133))
 obtain ⟨j141,hL141,hB134⟩:=bind_some hB134
 obtain ⟨R141,hR141⟩:=exR fun f w_=>∃ vars_139 : List Int,∃ v139_vars : Value,j141 = .nx vars_139∧f 2 = Pt g5∧f 3 = Pt g7∧f 5 = Pt g11∧f 13 = v139_vars∧f 68 = I i_129∧Star H132 w_ ([oF 3 RP.int v139_vars vars_139,oS 73 (oCon 122) v130_g11_0 g11_0_130,box g11 28 #[v130_g11_0],box g7 79 #[I r_.kind,v1_1,v1_2,I r_.bound,v1_4],box g5 26 #[v0_0,v0_1]])
 refine W_join R141 ?_ ?_
 refine W_block ?_
 obtain ⟨I141,hI141⟩:=exI fun n f w_=>∃ i_138 : Nat,∃ suf141 : List Int,∃ vars_139 : List Int,∃ v139_vars : Value,n = suf141.length∧List.drop i_138 r_.vars = suf141∧i_138 + suf141.length = r_.vars.length∧rangeL (i_Model_encodeRule_b4 m i_129) suf141 i_138 vars_139 = some j141∧f 2 = Pt g5∧f 3 = Pt g7∧f 5 = Pt g11∧f 12 = I i_129∧f 13 = v139_vars∧f 68 = I i_129∧f 72 = v1_1∧f 73 = I (r_.vars.length : Int)∧f 74 = I i_138∧Star H132 w_ ([oF 3 RP.int v139_vars vars_139,oS 73 (oCon 122) v130_g11_0 g11_0_130,box g11 28 #[v130_g11_0],box g7 79 #[I r_.kind,v1_1,v1_2,I r_.bound,v1_4],box g5 26 #[v0_0,v0_1]])
 have Z:=Star.addNil (R:=(OR.frz RP.int)) (e:=3) Z
 refine W_loop I141 (n:=r_.vars.length) ?_ ?_
 exact ij hI141 ⟨0,r_.vars,[],S0,rfl,rfl,Nat.zero_add _,hL141,sf2,sf3,sf5,rfl,rfl,sf68,rfl,rfl,rfl,Z⟩
 intro n141 f w_ hI
 obtain ⟨i_138,suf141,vars_139,v139_vars,rfl,hd141,hl141,hL141,sf2,sf3,sf5,sf12,sf13,sf68,sf72,sf73,sf74,Z⟩:=ik hI141 hI
 refine sq (L_lss rfl sf74 sf73 (nq (W_cond (b:=decide ((i_138 : Int) < (r_.vars.length : Int))) rfl (fun hc143=>?_) (fun hc143=>?_))))
 have hlt141:=of_decide_eq_true hc143
 rcases suf141 with _ | ⟨x_141,rest141⟩
 exact absurd hlt141 (by simp at hl141; omega)
 obtain ⟨o141,hB141,hL141⟩:=range_cons hL141
 rw [i_Model_encodeRule_b4] at hB141
 have hix141:=drop_idx hd141
 refine W_skip (W_seq (W_block (sq (L_ix (r:=RP.int) rfl Tryz.underlying23 Tryz.sizeOf3 sf72 (RP.mono _ h1_1 l133) sf74 hix141 (fun g148 o149 cs_g148 hrk_hat150 hat150=>?_)))))
 obtain rfl : _ = [_]:=hrk_hat150
 refine L_ld rfl Tryz.isAgg3 rfl (At.cell (AtH.at hat150 Z.sub) (j:=0) rfl) (aI rfl (nq ?_))
 obtain ⟨x152,hx152,hB141⟩:=bind_some hB141
 refine W_region (mF sf12 rfl (fA 0 fa_26_0 sf2 rfl (ldB 4 Z Tryz.isAgg23 rfl rfl rfl (mI rfl (L_ix (r:=RP.int) rfl Tryz.underlying23 Tryz.sizeOf3 rfl (RP.mono _ h0_0 l133) rfl hx152 (fun g157 o158 cs_g157 hrk_hat159 hat159=>?_))))))
 obtain rfl : _ = [_]:=hrk_hat159
 refine L_ld rfl Tryz.isAgg3 rfl (At.cell (AtH.at hat159 Z.sub) (j:=0) rfl) (L_leq rfl rfl rfl (nn ?_))
 obtain ⟨vars_161,hA163,hB141⟩:=bind_some hB141
 obtain ⟨R163,hR163⟩:=exR fun f w_=>∃ v161_vars : Value,f 2 = Pt g5∧f 3 = Pt g7∧f 5 = Pt g11∧f 12 = I i_129∧f 13 = v161_vars∧f 68 = I i_129∧f 72 = v1_1∧f 73 = I (r_.vars.length : Int)∧f 74 = I i_138∧Star H132 w_ ([oF 3 RP.int v161_vars vars_161,oS 73 (oCon 122) v130_g11_0 g11_0_130,box g11 28 #[v130_g11_0],box g7 79 #[I r_.kind,v1_1,v1_2,I r_.bound,v1_4],box g5 26 #[v0_0,v0_1]])
 refine W_join R163 ?_ ?_
 refine W_cond (b:=decide ((i_129 : Int)≤x152)) rfl (fun hc164=>?_) (fun hc164=>?_)
 have hA163:=(ite_t hc164).symm.trans hA163
 obtain ⟨x170,hx170,hA163⟩:=bind_some hA163
 obtain ⟨x175,hx175,hA163⟩:=bind_some hA163
 refine W_region (mF sf13 rfl (L_lda (cs:=[v0_0,v0_1]) rfl Tryz.isAgg26 Tryz.sizeOf26 sf2 (At.sub0 (Blk.at (Star.blkAt 4 Z rfl)) 0 2) rfl (mI rfl (mF sf12 rfl ?_))))
 obtain ⟨H179b,l180,s181,z182,k183⟩:=Z.borrow
 refine L_call rfl Tryz.call63 (ops3 rfl rfl rfl) (i_Model_boolVar_c (m:=m) (cell:=x_141) (value:=(i_129 : Int)) s181 (RP.mono _ h0_0 (Le.trans l133 l180)) (RP.mono _ h0_1 (Le.trans l133 l180)) hx170) ?_
 rintro _ w184 ⟨rfl,Z⟩
 have Z:=k183 Z c0
 refine L_bs rfl (parts1 rfl) (bs_23_1_0 (I x170) rfl) Z (fun g185 w186 Z=>?_)
 have Z:=Star.addF (r:=RP.int) (cs:=[I x170]) (x:=x170) Z rfl
 have Z:=Star.mkRow (R:=(OR.frz RP.int)) [([I x170],x170)] [x170] 1 Z rfl rfl rfl (by decide)
 have Z:=Z.get 1 rfl
 refine L_appM (v:=v139_vars) (u:=(Sl g185 1 1)) rfl et_23 rfl rfl Z hx175 (fun v188 w189 Z=>aV v188 rfl (nn ?_))
 obtain rfl:=so hA163
 exact rj hR163 ⟨v188,sf2,sf3,sf5,sf12,rfl,sf68,sf72,sf73,sf74,Z⟩
 have hA163:=(ite_f hc164).symm.trans hA163
 refine W_skip ?_
 obtain rfl:=so hA163
 exact rj hR163 ⟨v139_vars,sf2,sf3,sf5,sf12,sf13,sf68,sf72,sf73,sf74,Z⟩
 intro f w_ hR
 obtain ⟨v161_vars,sf2,sf3,sf5,sf12,sf13,sf68,sf72,sf73,sf74,Z⟩:=rk hR163 hR
 refine W_region (L_add rfl sf74 rfl (mI rfl (nn ?_)))
 obtain rfl:=so hB141
 show ∃ m,m < _∧I141 m _ _
 refine ⟨rest141.length,by simp,?_⟩
 exact ij hI141 ⟨i_138 + 1,rest141,vars_161,v161_vars,rfl,drop_next hd141,by simp at hl141; omega,hL141,sf2,sf3,sf5,sf12,sf13,sf68,sf72,sf73,(Eq.trans rfl (congrArg (Value.int .i64) (i64_succ (n:=r_.vars.length) (by simp at hl141; omega) hlen141))),Z⟩
 rcases suf141 with _ | ⟨_,_⟩
 obtain rfl:=range_nil hL141
 refine W_exit (rj hR141 ⟨vars_139,v139_vars,rfl,sf2,sf3,sf5,sf13,sf68,Z⟩)
 exact absurd (of_decide_eq_false hc143) (by simp at hl141; omega)
 intro f w_ hR
 obtain ⟨vars_139,v139_vars,rfl,sf2,sf3,sf5,sf13,sf68,Z⟩:=rk hR141 hR
 refine sq (mF sf13 rfl (L_len rfl Tryz.underlying23 rfl (Star.len 0 Z rfl) (L_gtr rfl rfl rfl (nn ?_))))
 obtain ⟨g11_0_191,hA195,hB134⟩:=bind_some hB134
 obtain ⟨R195,hR195⟩:=exR fun f w_=>∃ H193 : FH,∃ v191_g11_0 : Value,Le H132 H193∧f 2 = Pt g5∧f 3 = Pt g7∧f 5 = Pt g11∧f 68 = I i_129∧Star H193 w_ ([oS 73 (oCon 122) v191_g11_0 g11_0_191,box g11 28 #[v191_g11_0],box g7 79 #[I r_.kind,v1_1,v1_2,I r_.bound,v1_4],box g5 26 #[v0_0,v0_1]])
 refine W_join R195 ?_ ?_
 refine W_cond (b:=decide ((vars_139.length : Int) > 1)) rfl (fun hc196=>?_) (fun hc196=>?_)
 have hA195:=(ite_t hc196).symm.trans hA195
 refine W_seq ?_
 obtain ⟨x202,hx202,hA195⟩:=bind_some hA195
 refine W_region (mF sf13 rfl ?_)
 obtain ⟨H204b,l205,s206,z207,k208⟩:=Z.lend [_]
 refine L_call rfl Tryz.call103 (ops1 rfl) (slices_Sort_int_c (x:=vars_139) s206 hx202) ?_
 rintro _ w209 ⟨rfl,Z⟩
 have Z:=k208 Z (co closed_int c0)
 refine nn ?_
 obtain ⟨x216,hx216,hA195⟩:=bind_some hA195
 obtain ⟨x222,hx222,hA195⟩:=bind_some hA195
 refine W_drawS 4 [isV (v130_g11_0),isV (v139_vars),exA fun u_0=>isV (.agg #[u_0,I x216.bound]),anyF] [oF 3 RP.int v139_vars x202,oS 73 (oCon 122) v130_g11_0 g11_0_130,box g11 28 #[v130_g11_0],box g7 79 #[I r_.kind,v1_1,v1_2,I r_.bound,v1_4],box g5 26 #[v0_0,v0_1]] [.made 2 100 (fun v_=>oF 122 rTerm (aggC v_ 0) x216.terms) (some 3),.made 3 101 (fun v_=>oS 73 (oCon 122) v_ ([x216])) none] ([]) [([],[]),([],[]),([],[0]),([0],[1])] (S:=[(some 2,[100],some 3),(some 3,[101],none)]) Tryz_mix (by kernel_rfl) rfl (by kernel_rfl) (amF_cons (mono_V _) (amF_cons (mono_V _) (amF_cons (mono_exA fun _=>mono_V _) (amF_cons (mono_any) amF_nil)))) Z ?_ (fun f w_ H227 hS227 hE227 hT227 Z=>?_)
 refine opsS_cons (fun f w_ _ _ s _ _ Z=>ldB 2 Z Tryz.isAgg28 ((s 5 rfl).trans sf5) rfl rfl (nO rfl rfl Z)) (opsS_cons (fun f w_ _ _ s _ _ Z=>mF ((s 13 rfl).trans sf13) rfl (nO rfl rfl Z)) (opsS_cons ?_ ?_))
 intro f w_ H227 X227 hS227 hE227 hP227 Z
 obtain ⟨H239b,l240,s241,z242,k243⟩:=Z.borrow
 have hb244 : (rS 3 RP.int).rel H239b [v139_vars] x202:=fz_own 0 z242 rfl
 refine L_call rfl Tryz.call49 (ops1 (hP227 1 99 rfl rfl)) (i_atMostOne_c (vars:=x202) s241 hb244 hx216) ?_
 rintro _ w245 ⟨r245_0,rfl,Z⟩
 have Z:=k243 Z (co closed_term c0)
 have Z:=Z.gets [5,5,5,5,5] rfl
 exact L_nil ⟨rfl,_,_,rfl,Le.refl _,fun _ _=>⟨_,rfl⟩,Z⟩
 refine opsS_cons ?_ ?_
 intro f w_ H227 X227 hS227 hE227 hP227 Z
 have Z : Star H227 w_ (oF 3 RP.int v139_vars x202 :: oS 73 (oCon 122) v130_g11_0 g11_0_130 :: box g11 28 #[v130_g11_0] :: box g7 79 #[I r_.kind,v1_1,v1_2,I r_.bound,v1_4] :: box g5 26 #[v0_0,v0_1] :: own (OR.ownS 122 (OR.frz rTerm)) [(aggC (f 100) 0)] x216.terms :: X227):=Z
 obtain ⟨u247_0,hv247⟩:=(hP227 2 100 rfl rfl)
 have hren : Star H227 w_ (oF 3 RP.int v139_vars x202 :: oS 73 (oCon 122) v130_g11_0 g11_0_130 :: box g11 28 #[v130_g11_0] :: box g7 79 #[I r_.kind,v1_1,v1_2,I r_.bound,v1_4] :: box g5 26 #[v0_0,v0_1] :: own (OR.ownS 122 (OR.frz rTerm)) [(aggC (f 100) 0)] x216.terms :: X227):=Z
 rw [hv247] at hren
 have Z : Star H227 w_ (oF 3 RP.int v139_vars x202 :: oS 73 (oCon 122) v130_g11_0 g11_0_130 :: box g11 28 #[v130_g11_0] :: box g7 79 #[I r_.kind,v1_1,v1_2,I r_.bound,v1_4] :: box g5 26 #[v0_0,v0_1] :: oF 122 rTerm u247_0 x216.terms :: X227):=hren
 refine L_bs rfl (parts1 hv247) (bs_28_1_2 (u247_0) (I x216.bound) ) Z (fun g248 w249 Z=>?_)
 have Z:=Z.get 6 rfl
 have Z:=oCon_close (c:=x216) Z
 have Z:=Star.mkRow (R:=(oCon 122)) [([u247_0,I x216.bound],x216)] [x216] 1 Z rfl rfl rfl (by decide)
 have Z:=Z.gets [5,5,5,5,5] rfl
 exact L_nil ⟨rfl,_,_,rfl,Le.refl _,fun _ _=>trivial,Z⟩
 exact opsS_nil
 have Z : Star H227 w_ ([oF 3 RP.int v139_vars x202,oS 73 (oCon 122) v130_g11_0 g11_0_130,box g11 28 #[v130_g11_0],box g7 79 #[I r_.kind,v1_1,v1_2,I r_.bound,v1_4],box g5 26 #[v0_0,v0_1],oS 73 (oCon 122) (f 101) ([x216])]):=Z
 have Z:=Z.gets [5,2] rfl
 refine L_appM (v:=v130_g11_0) (u:=(f 101)) rfl et_28 (hT227 0 98 rfl rfl) rfl Z hx222 (fun v252 w253 Z=>L_stB (v:=v252) (cs2:=#[v252]) 2 rfl Tryz.sizeOf28 ((hS227 5 rfl).trans sf5) rfl (one_len (Star.len 0 Z rfl)) Z rfl rfl rfl (fun w255 Z=>nn ?_))
 obtain rfl:=so hA195
 have Z:=Z.gets [4,4,2,3] rfl
 exact rj hR195 ⟨H227,v252,hE227,((hS227 2 rfl).trans sf2),((hS227 3 rfl).trans sf3),((hS227 5 rfl).trans sf5),((hS227 68 rfl).trans sf68),(Star.keepN 4 Z)⟩
 have hA195:=(ite_f hc196).symm.trans hA195
 refine W_skip ?_
 obtain rfl:=so hA195
 have Z:=Z.gets [4,4,4,4] rfl
 exact rj hR195 ⟨H132,v130_g11_0,(Le.refl _),sf2,sf3,sf5,sf68,(Star.keepN 4 Z)⟩
 intro f w_ hR
 obtain ⟨H193,v191_g11_0,l194,sf2,sf3,sf5,sf68,Z⟩:=rk hR195 hR
 refine W_region (L_add rfl sf68 rfl (mI rfl (nn ?_)))
 obtain rfl:=so hB134
 show ∃ m,m < _∧I134 m _ _
 refine ⟨rest134,Nat.lt_succ_self _,?_⟩
 exact ij hI134 ⟨i_129 + 1,rest134,g11_0_191,H193,v191_g11_0,rfl,by omega,by omega,hL134,(Le.trans l133 l194),sf2,sf3,sf5,(Eq.trans rfl (congrArg (Value.int .i64) (i64_succ (n:=0 + k135) (by omega) (cntF_le hk135)))),Z⟩
 rcases suf134 with _ | _
 obtain rfl:=count_zero hL134
 refine W_exit (rj hR134 ⟨g11_0_130,H132,v130_g11_0,rfl,l133,sf5,(Star.keepN 2 Z)⟩)
 exact absurd (cntF_yes hs134 hl134 hk135) (of_decide_eq_false hc137)
 intro f w_ hR
 obtain ⟨g11_0_130,H132,v130_g11_0,rfl,l133,sf5,Z⟩:=rk hR134 hR
 refine sq (ldB 1 Z Tryz.isAgg28 sf5 rfl rfl (aV v130_g11_0 rfl (nn (W_ret (retG1 (v1:=v130_g11_0) Tryz.results50 rfl ?_)))))
 obtain rfl:=so hF
 exact ⟨v130_g11_0,rfl,(Star.down (Star.keepN 1 Z) l133 (co closed_oCon c0))⟩
 have hF:=(ite_f hc128).symm.trans hF
 refine W_skip (sq (aV S0 rfl (L_nil (W_seq (sq (fA 1 fa_79_1 rfl rfl (ldB 1 Z Tryz.isAgg23 rfl rfl rfl (L_len rfl Tryz.underlying23 rfl (slice_len h1_1) (mI rfl (nn ?_))))))))))
 have hlen259 : List.length r_.vars≤9223372036854775807:=len_le (slice_len h1_1)
 obtain ⟨j259,hL259,hF⟩:=bind_some hF
 obtain ⟨R259,hR259⟩:=exR fun f w_=>∃ sizes_257 : List Int,∃ v257_sizes : Value,j259 = .nx sizes_257∧f 2 = Pt g5∧f 3 = Pt g7∧f 5 = Pt g11∧f 16 = v257_sizes∧Star H w_ ([oF 3 RP.int v257_sizes sizes_257,box g11 28 #[S0],box g7 79 #[I r_.kind,v1_1,v1_2,I r_.bound,v1_4],box g5 26 #[v0_0,v0_1]])
 refine W_join R259 ?_ ?_
 refine W_block ?_
 obtain ⟨I259,hI259⟩:=exI fun n f w_=>∃ i_256 : Nat,∃ suf259 : List Int,∃ sizes_257 : List Int,∃ v257_sizes : Value,n = suf259.length∧List.drop i_256 r_.vars = suf259∧i_256 + suf259.length = r_.vars.length∧rangeL (i_Model_encodeRule_b5 m) suf259 i_256 sizes_257 = some j259∧f 2 = Pt g5∧f 3 = Pt g7∧f 5 = Pt g11∧f 16 = v257_sizes∧f 106 = v1_1∧f 107 = I (r_.vars.length : Int)∧f 108 = I i_256∧Star H w_ ([oF 3 RP.int v257_sizes sizes_257,box g11 28 #[S0],box g7 79 #[I r_.kind,v1_1,v1_2,I r_.bound,v1_4],box g5 26 #[v0_0,v0_1]])
 have Z:=Star.addNil (R:=(OR.frz RP.int)) (e:=3) Z
 refine W_loop I259 (n:=r_.vars.length) ?_ ?_
 exact ij hI259 ⟨0,r_.vars,[],S0,rfl,rfl,Nat.zero_add _,hL259,rfl,rfl,rfl,rfl,rfl,rfl,rfl,Z⟩
 intro n259 f w_ hI
 obtain ⟨i_256,suf259,sizes_257,v257_sizes,rfl,hd259,hl259,hL259,sf2,sf3,sf5,sf16,sf106,sf107,sf108,Z⟩:=ik hI259 hI
 refine sq (L_lss rfl sf108 sf107 (nq (W_cond (b:=decide ((i_256 : Int) < (r_.vars.length : Int))) rfl (fun hc261=>?_) (fun hc261=>?_))))
 have hlt259:=of_decide_eq_true hc261
 rcases suf259 with _ | ⟨x_259,rest259⟩
 exact absurd hlt259 (by simp at hl259; omega)
 obtain ⟨o259,hB259,hL259⟩:=range_cons hL259
 rw [i_Model_encodeRule_b5] at hB259
 have hix259:=drop_idx hd259
 refine W_skip (W_seq (W_block (sq (L_ix (r:=RP.int) rfl Tryz.underlying23 Tryz.sizeOf3 sf106 h1_1 sf108 hix259 (fun g266 o267 cs_g266 hrk_hat268 hat268=>?_)))))
 obtain rfl : _ = [_]:=hrk_hat268
 refine L_ld rfl Tryz.isAgg3 rfl (At.cell (AtH.at hat268 Z.sub) (j:=0) rfl) (aI rfl (nn ?_))
 obtain ⟨x270,hx270,hB259⟩:=bind_some hB259
 obtain ⟨x278,hx278,hB259⟩:=bind_some hB259
 refine W_region (mF sf16 rfl (fA 0 fa_26_0 sf2 rfl (ldB 3 Z Tryz.isAgg23 rfl rfl rfl (mI rfl (L_ix (r:=RP.int) rfl Tryz.underlying23 Tryz.sizeOf3 rfl h0_0 rfl hx270 (fun g282 o283 cs_g282 hrk_hat284 hat284=>?_))))))
 obtain rfl : _ = [_]:=hrk_hat284
 refine L_ld rfl Tryz.isAgg3 rfl (At.cell (AtH.at hat284 Z.sub) (j:=0) rfl) (L_bs rfl (parts1 rfl) (bs_23_1_0 (I x270) rfl) Z (fun g286 w287 Z=>?_))
 have Z:=Star.addF (r:=RP.int) (cs:=[I x270]) (x:=x270) Z rfl
 have Z:=Star.mkRow (R:=(OR.frz RP.int)) [([I x270],x270)] [x270] 1 Z rfl rfl rfl (by decide)
 have Z:=Z.get 1 rfl
 refine L_appM (v:=v257_sizes) (u:=(Sl g286 1 1)) rfl et_23 rfl rfl Z hx278 (fun v289 w290 Z=>aV v289 rfl (nn (W_region (L_add rfl sf108 rfl (mI rfl (nn ?_))))))
 obtain rfl:=so hB259
 show ∃ m,m < _∧I259 m _ _
 refine ⟨rest259.length,by simp,?_⟩
 exact ij hI259 ⟨i_256 + 1,rest259,x278,v289,rfl,drop_next hd259,by simp at hl259; omega,hL259,sf2,sf3,sf5,rfl,sf106,sf107,(Eq.trans rfl (congrArg (Value.int .i64) (i64_succ (n:=r_.vars.length) (by simp at hl259; omega) hlen259))),Z⟩
 rcases suf259 with _ | ⟨_,_⟩
 obtain rfl:=range_nil hL259
 refine W_exit (rj hR259 ⟨sizes_257,v257_sizes,rfl,sf2,sf3,sf5,sf16,Z⟩)
 exact absurd (of_decide_eq_false hc261) (by simp at hl259; omega)
 intro f w_ hR
 obtain ⟨sizes_257,v257_sizes,rfl,sf2,sf3,sf5,sf16,Z⟩:=rk hR259 hR
 refine W_seq ?_
 obtain ⟨x292,hx292,hF⟩:=bind_some hF
 obtain ⟨g11_0_296,hI300,hF⟩:=bind_some hF
 refine W_region (mF sf16 rfl (mF sf16 rfl (L_len rfl Tryz.underlying23 rfl (Star.len 0 Z rfl) (L_mk (R:=(OR.frz RP.int)) (z0:=0) (zc:=[I 0]) rfl et_23 (by kernel_rfl) (fun _ _=>⟨rfl,rfl⟩) rfl rfl hx292 Z (fun v301 w302 Z=>L_mf rfl (ops3 sf3 sf2 sf5) ?_)))))
 obtain ⟨R308,hR308⟩ : ∃ RV_ : Value→World→Prop,RV_ = fun v w_=>∃ H306 : FH,∃ v304_g11_0 : Value,v = .tuple #[]∧Le H H306∧Star H306 w_ ([oS 73 (oCon 122) v304_g11_0 g11_0_296,box g11 28 #[v304_g11_0]]):=⟨_,rfl⟩
 refine L_call (args:=#[v257_sizes,v301,.func (.func 104) #[] #[Pt g7,Pt g5,Pt g11]]) (R:=R308) rfl Tryz.call57 (ops3 rfl rfl rfl) ?_ ?_
 refine C_enter Tryz.func57 rfl Tryz.ntmps57 rfl ?_
 have hA308:=hI300
 unfold i_Model_encodeRule_i6 at hA308
 refine W_seq ?_
 obtain ⟨x315,hx315,hA308⟩:=bind_some hA308
 refine W_region (mV v301 rfl ?_)
 obtain ⟨H318b,l319,s320,z321,k322⟩:=Z.borrow
 have hb323 : (rS 3 RP.int).rel H318b [v301] x292:=fz_own 0 z321 rfl
 refine L_call rfl Tryz.call62 (ops1 rfl) (slices_Clone_int_c (s:=x292) s320 hb323 hx315) ?_
 rintro r324_0 w324 ⟨_,rfl,Z⟩
 have Z:=k322 Z (co closed_int c0)
 refine aV r324_0 rfl (nn ?_)
 obtain ⟨j332,hL332,hA308⟩:=bind_some hA308
 obtain ⟨R332,hR332⟩:=exR fun f w_=>∃ cells_327 : List Int,∃ g11_0_328 : List Con,∃ H330 : FH,∃ v328_g11_0 : Value,j332 = .nx (cells_327,g11_0_328)∧Le H H330∧Star H330 w_ ([oS 73 (oCon 122) v328_g11_0 g11_0_328,box g11 28 #[v328_g11_0]])
 refine W_join R332 ?_ ?_
 refine W_block ?_
 obtain ⟨I332,hI332⟩:=exI fun n f w_=>∃ cells_327 : List Int,∃ g11_0_328 : List Con,∃ H330 : FH,∃ v328_g11_0 : Value,whileL (i_Model_encodeRule_b7 fu m r_ sizes_257) n (cells_327,g11_0_328) = some j332∧Le H H330∧f 0 = v257_sizes∧f 2 = .func (.func 104) #[] #[Pt g7,Pt g5,Pt g11]∧f 6 = r324_0∧Star H330 w_ ([oF 3 RP.int v257_sizes sizes_257,oF 3 RP.int r324_0 cells_327,oS 73 (oCon 122) v328_g11_0 g11_0_328,box g11 28 #[v328_g11_0],box g5 26 #[v0_0,v0_1],box g7 79 #[I r_.kind,v1_1,v1_2,I r_.bound,v1_4]])
 have Z:=Star.addNil (R:=(oCon 122)) (e:=73) Z
 have Z:=Z.gets [5,6,6,3,4,6] rfl
 refine W_loop I332 (n:=fu) ?_ ?_
 exact ij hI332 ⟨x315,[],H,S0,hL332,(Le.refl _),rfl,rfl,rfl,(Star.keepN 6 Z)⟩
 intro n332 f w_ hI
 obtain ⟨cells_327,g11_0_328,H330,v328_g11_0,hL332,l331,sf0,sf2,sf6,Z⟩:=ik hI332 hI
 rcases n332 with _ | n332
 exact (while_zero hL332).elim
 obtain ⟨o332,hB332,hL332⟩:=while_succ hL332
 rw [i_Model_encodeRule_b7] at hB332
 refine W_seq (W_seq ?_)
 obtain ⟨⟨ret0_334,g11_0_335⟩,hI339,hB332⟩:=bind_some hB332
 refine W_region (mF sf2 rfl (mF sf6 rfl ?_))
 obtain ⟨R345,hR345⟩ : ∃ RV_ : Value→World→Prop,RV_ = fun v w_=>∃ H343 : FH,∃ v341_g11_0 : Value,v = Bo ret0_334∧Le H330 H343∧Star H343 w_ ([oF 3 RP.int v257_sizes sizes_257,oF 3 RP.int r324_0 cells_327,oS 73 (oCon 122) v341_g11_0 g11_0_335,box g11 28 #[v341_g11_0],box g5 26 #[v0_0,v0_1],box g7 79 #[I r_.kind,v1_1,v1_2,I r_.bound,v1_4]]):=⟨_,rfl⟩
 refine L_callv (args:=#[r324_0]) (R:=R345) rfl Tryz.call104 rfl (ops1 rfl) ?_ ?_
 show C _ _ #[r324_0,Pt g7,Pt g5,Pt g11] _ _
 refine C_enter Tryz.func104 rfl Tryz.ntmps104 rfl ?_
 have hA345:=hI339
 unfold i_Model_encodeRule_i8 at hA345
 refine sq (aB rfl (nq (W_seq ?_)))
 obtain ⟨x352,hx352,hA345⟩:=bind_some hA345
 refine W_region (L_lda (cs:=[I r_.kind,v1_1,v1_2,I r_.bound,v1_4]) rfl Tryz.isAgg79 Tryz.sizeOf79 rfl (At.sub0 (Blk.at (Star.blkAt 5 Z rfl)) 0 5) rfl (mV r324_0 rfl ?_))
 obtain ⟨H354b,l355,s356,z357,k358⟩:=Z.borrow
 have hb359 : (rS 3 RP.int).rel H354b [r324_0] cells_327:=fz_own 1 z357 rfl
 refine L_call rfl Tryz.call105 (ops2 rfl rfl) (i_Rule_holds_c (r_:=r_) (vals:=cells_327) s356 (RP.mono _ h1_1 (Le.trans l331 l355)) (RP.mono _ h1_2 (Le.trans l331 l355)) (RP.mono _ h1_4 (Le.trans l331 l355)) hb359 hx352) ?_
 rintro _ w360 ⟨rfl,Z⟩
 have Z:=k358 Z c0
 refine L_not_ rfl rfl (nn ?_)
 obtain ⟨g11_0_361,hA365,hA345⟩:=bind_some hA345
 obtain ⟨R365,hR365⟩:=exR fun f w_=>∃ H363 : FH,∃ v361_g11_0 : Value,Le H330 H363∧Star H363 w_ ([oF 3 RP.int v257_sizes sizes_257,oF 3 RP.int r324_0 cells_327,oS 73 (oCon 122) v361_g11_0 g11_0_361,box g11 28 #[v361_g11_0],box g5 26 #[v0_0,v0_1],box g7 79 #[I r_.kind,v1_1,v1_2,I r_.bound,v1_4]])
 refine W_join R365 ?_ ?_
 refine W_cond (b:=(!x352)) rfl (fun hc366=>?_) (fun hc366=>?_)
 have hA365:=(ite_t hc366).symm.trans hA365
 refine sq (aV S0 rfl (nq (sq (fA 1 fa_79_1 rfl rfl (ldB 5 Z Tryz.isAgg23 rfl rfl rfl (L_len rfl Tryz.underlying23 rfl (slice_len (RP.mono _ h1_1 l331)) (mI rfl (nn ?_))))))))
 have hlen372 : List.length r_.vars≤9223372036854775807:=len_le (slice_len (RP.mono _ h1_1 l331))
 obtain ⟨j372,hL372,hA365⟩:=bind_some hA365
 obtain ⟨R372,hR372⟩:=exR fun f w_=>∃ lits_368 : List Int,∃ H370 : FH,∃ v368_lits : Value,j372 = .nx lits_368∧Le H330 H370∧f 3 = Pt g11∧f 6 = v368_lits∧Star H370 w_ ([oF 3 RP.int r324_0 cells_327,oF 3 RP.int v368_lits lits_368,oF 3 RP.int v257_sizes sizes_257,oS 73 (oCon 122) v328_g11_0 g11_0_328,box g11 28 #[v328_g11_0],box g5 26 #[v0_0,v0_1],box g7 79 #[I r_.kind,v1_1,v1_2,I r_.bound,v1_4]])
 refine W_join R372 ?_ ?_
 refine W_block ?_
 obtain ⟨I372,hI372⟩:=exI fun n f w_=>∃ i_367 : Nat,∃ suf372 : List Int,∃ lits_368 : List Int,∃ H370 : FH,∃ v368_lits : Value,n = suf372.length∧List.drop i_367 r_.vars = suf372∧i_367 + suf372.length = r_.vars.length∧rangeL (i_Model_encodeRule_b9 m cells_327) suf372 i_367 lits_368 = some j372∧Le H330 H370∧f 0 = r324_0∧f 2 = Pt g5∧f 3 = Pt g11∧f 6 = v368_lits∧f 16 = v1_1∧f 17 = I (r_.vars.length : Int)∧f 18 = I i_367∧Star H370 w_ ([oF 3 RP.int r324_0 cells_327,oF 3 RP.int v368_lits lits_368,oF 3 RP.int v257_sizes sizes_257,oS 73 (oCon 122) v328_g11_0 g11_0_328,box g11 28 #[v328_g11_0],box g5 26 #[v0_0,v0_1],box g7 79 #[I r_.kind,v1_1,v1_2,I r_.bound,v1_4]])
 have Z:=Star.addNil (R:=(OR.frz RP.int)) (e:=3) Z
 have Z:=Z.gets [6,6,6,6,5,5,6] rfl
 refine W_loop I372 (n:=r_.vars.length) ?_ ?_
 exact ij hI372 ⟨0,r_.vars,[],H330,S0,rfl,rfl,Nat.zero_add _,hL372,(Le.refl _),rfl,rfl,rfl,rfl,rfl,rfl,rfl,Z⟩
 intro n372 f w_ hI
 obtain ⟨i_367,suf372,lits_368,H370,v368_lits,rfl,hd372,hl372,hL372,l371,sf0,sf2,sf3,sf6,sf16,sf17,sf18,Z⟩:=ik hI372 hI
 refine sq (L_lss rfl sf18 sf17 (nq (W_cond (b:=decide ((i_367 : Int) < (r_.vars.length : Int))) rfl (fun hc374=>?_) (fun hc374=>?_))))
 have hlt372:=of_decide_eq_true hc374
 rcases suf372 with _ | ⟨x_372,rest372⟩
 exact absurd hlt372 (by simp at hl372; omega)
 obtain ⟨o372,hB372,hL372⟩:=range_cons hL372
 rw [i_Model_encodeRule_b9] at hB372
 have hix372:=drop_idx hd372
 refine W_skip (W_seq (W_block (sq (mF sf18 rfl (L_ix (r:=RP.int) rfl Tryz.underlying23 Tryz.sizeOf3 sf16 (RP.mono _ h1_1 (Le.trans l331 l371)) sf18 hix372 (fun g379 o380 cs_g379 hrk_hat381 hat381=>?_))))))
 obtain rfl : _ = [_]:=hrk_hat381
 refine L_ld rfl Tryz.isAgg3 rfl (At.cell (AtH.at hat381 Z.sub) (j:=0) rfl) (aI rfl (aI rfl (nn ?_)))
 obtain ⟨x383,hx383,hB372⟩:=bind_some hB372
 obtain ⟨x393,hx393,hB372⟩:=bind_some hB372
 obtain ⟨x398,hx398,hB372⟩:=bind_some hB372
 obtain ⟨g403,cap_g403,hv404,_,_⟩:=Star.row 0 Z rfl hx383
 refine W_drawS 10 [isV (v368_lits),isV (.agg #[v0_0,v0_1]),isV (I x_372),isV (r324_0),isV (I i_367),isV (.pointer (some ⟨g403,Int.toNat (i_367 : Int) * 1,none⟩)),isV (I x383),isV (I x393),isV (I (i64 (-x393))),anyF] [oF 3 RP.int r324_0 cells_327,oF 3 RP.int v368_lits lits_368,oF 3 RP.int v257_sizes sizes_257,oS 73 (oCon 122) v328_g11_0 g11_0_328,box g11 28 #[v328_g11_0],box g5 26 #[v0_0,v0_1],box g7 79 #[I r_.kind,v1_1,v1_2,I r_.bound,v1_4]] [.made 9 32 (fun v_=>oF 3 RP.int v_ ([i64 (-x393)])) none] ([]) [([],[]),([],[]),([],[]),([],[]),([],[]),([],[]),([],[]),([],[]),([],[]),([],[0])] (S:=[(some 9,[32],none)]) Tryz_mix (by kernel_rfl) rfl (by kernel_rfl) (amF_cons (mono_V _) (amF_cons (mono_V _) (amF_cons (mono_V _) (amF_cons (mono_V _) (amF_cons (mono_V _) (amF_cons (mono_V _) (amF_cons (mono_V _) (amF_cons (mono_V _) (amF_cons (mono_V _) (amF_cons (mono_any) amF_nil)))))))))) Z ?_ (fun f w_ H402 hS402 hE402 hT402 Z=>?_)
 refine opsS_cons (fun f w_ _ _ s _ _ Z=>mF ((s 6 rfl).trans sf6) rfl (nO rfl rfl Z)) (opsS_cons (fun f w_ _ _ s _ _ Z=>L_lda (cs:=[v0_0,v0_1]) rfl Tryz.isAgg26 Tryz.sizeOf26 ((s 2 rfl).trans sf2) (At.sub0 (Blk.at (Star.blkAt 5 Z rfl)) 0 2) rfl (nO rfl rfl Z)) (opsS_cons (fun f w_ _ _ s _ _ Z=>mF ((s 8 rfl).trans rfl) rfl (nO rfl rfl Z)) (opsS_cons (fun f w_ _ _ s _ _ Z=>mF ((s 0 rfl).trans sf0) rfl (nO rfl rfl Z)) (opsS_cons (fun f w_ _ _ s _ _ Z=>mF ((s 7 rfl).trans rfl) rfl (nO rfl rfl Z)) (opsS_cons (fun f w_ _ _ _ _ p Z=>L_ixO (R:=(OR.frz RP.int)) (tb:=0) 0 rfl Tryz.underlying23 Tryz.sizeOf3 (p 3 26 rfl rfl) hv404 (by first | rfl | simp) (p 4 27 rfl rfl) hx383 (nO rfl rfl Z)) (opsS_cons ?_ ?_))))))
 intro f w_ H402 X402 hS402 hE402 hP402 Z
 obtain ⟨cs416,hr416,hat416⟩:=Star.eltF 0 Z rfl hv404 hx383
 obtain rfl : _ = [_]:=hr416
 refine L_ld rfl Tryz.isAgg3 (hP402 5 28 rfl rfl) (At.cell hat416 (j:=0) rfl) (L_nil ⟨rfl,_,_,rfl,Le.refl _,fun _ _=>rfl,Z⟩)
 refine opsS_cons ?_ ?_
 intro f w_ H402 X402 hS402 hE402 hP402 Z
 obtain ⟨H418b,l419,s420,z421,k422⟩:=Z.borrow
 refine L_call rfl Tryz.call63 (ops3 (hP402 1 24 rfl rfl) (hP402 2 25 rfl rfl) (hP402 6 29 rfl rfl)) (i_Model_boolVar_c (m:=m) (cell:=x_372) (value:=x383) s420 (RP.mono _ h0_0 (Le.trans (Le.trans (Le.trans l331 l371) hE402) l419)) (RP.mono _ h0_1 (Le.trans (Le.trans (Le.trans l331 l371) hE402) l419)) hx393) ?_
 rintro _ w423 ⟨rfl,Z⟩
 have Z:=k422 Z c0
 exact L_nil ⟨rfl,_,_,rfl,Le.refl _,fun _ _=>rfl,Z⟩
 refine opsS_cons (fun f w_ _ _ _ _ p Z=>L_neg rfl (p 7 30 rfl rfl) (nO rfl rfl Z)) (opsS_cons ?_ ?_)
 intro f w_ H402 X402 hS402 hE402 hP402 Z
 refine L_bs rfl (parts1 (hP402 8 31 rfl rfl)) (bs_23_1_0 (I (i64 (-x393))) rfl) Z (fun g424 w425 Z=>?_)
 have Z:=Star.addF (r:=RP.int) (cs:=[I (i64 (-x393))]) (x:=(i64 (-x393))) Z rfl
 have Z:=Star.mkRow (R:=(OR.frz RP.int)) [([I (i64 (-x393))],i64 (-x393))] [i64 (-x393)] 1 Z rfl rfl rfl (by decide)
 have Z:=Z.gets [7,7,7,7,7,7,7] rfl
 exact L_nil ⟨rfl,_,_,rfl,Le.refl _,fun _ _=>trivial,Z⟩
 exact opsS_nil
 have Z : Star H402 w_ ([oF 3 RP.int r324_0 cells_327,oF 3 RP.int v368_lits lits_368,oF 3 RP.int v257_sizes sizes_257,oS 73 (oCon 122) v328_g11_0 g11_0_328,box g11 28 #[v328_g11_0],box g5 26 #[v0_0,v0_1],box g7 79 #[I r_.kind,v1_1,v1_2,I r_.bound,v1_4],oF 3 RP.int (f 32) ([i64 (-x393)])]):=Z
 have Z:=Z.gets [7,2] rfl
 refine L_appM (v:=v368_lits) (u:=(f 32)) rfl et_23 (hT402 0 23 rfl rfl) rfl Z hx398 (fun v428 w429 Z=>aV v428 rfl (nn (W_region (L_add rfl ((hS402 18 rfl).trans sf18) rfl (mI rfl (nn ?_))))))
 obtain rfl:=so hB372
 have Z:=Z.gets [6,6,6,6,6,5,6] rfl
 show ∃ m,m < _∧I372 m _ _
 refine ⟨rest372.length,by simp,?_⟩
 exact ij hI372 ⟨i_367 + 1,rest372,x398,H402,v428,rfl,drop_next hd372,by simp at hl372; omega,hL372,(Le.trans l371 hE402),((hS402 0 rfl).trans sf0),((hS402 2 rfl).trans sf2),((hS402 3 rfl).trans sf3),rfl,((hS402 16 rfl).trans sf16),((hS402 17 rfl).trans sf17),(Eq.trans rfl (congrArg (Value.int .i64) (i64_succ (n:=r_.vars.length) (by simp at hl372; omega) hlen372))),Z⟩
 rcases suf372 with _ | ⟨_,_⟩
 obtain rfl:=range_nil hL372
 refine W_exit (rj hR372 ⟨lits_368,H370,v368_lits,rfl,l371,sf3,sf6,Z⟩)
 exact absurd (of_decide_eq_false hc374) (by simp at hl372; omega)
 intro f w_ hR
 obtain ⟨lits_368,H370,v368_lits,rfl,l371,sf3,sf6,Z⟩:=rk hR372 hR
 refine W_seq ?_
 obtain ⟨x437,hx437,hA365⟩:=bind_some hA365
 refine W_region (mF sf6 rfl ?_)
 obtain ⟨H443b,l444,s445,z446,k447⟩:=Z.borrow
 have hb448 : (rS 3 RP.int).rel H443b [v368_lits] lits_368:=fz_own 1 z446 rfl
 refine L_call rfl Tryz.call48 (ops1 rfl) (i_ClauseOf_c (lits:=lits_368) s445 hb448 hx437) ?_
 rintro _ w449 ⟨r449_0,rfl,Z⟩
 have Z:=k447 Z (co closed_term c0)
 refine mV (.tuple #[.agg #[r449_0,I x437.1.bound],Bo x437.2]) rfl (L_ex (v:=.agg #[r449_0,I x437.1.bound]) rfl rfl rfl (L_ex (v:=Bo x437.2) rfl rfl rfl (L_al (cs:=#[S0,I 0]) rfl Tryz.zeroValue73 rfl Z (fun g451 w452 Z=>L_staB (vs:=#[r449_0,I x437.1.bound]) (cs2:=#[r449_0,I x437.1.bound]) 0 rfl Tryz.sizeOf73 rfl rfl rfl (ones_cons (one_len (Star.len 1 Z rfl)) (ones_cons rfl ones_nil)) Z rfl (by show 0 + 2≤2; decide) rfl (fun w453 Z=>aB rfl (nn ?_))))))
 obtain ⟨x457,hx457,hA365⟩:=bind_some hA365
 refine W_region (ldB 6 Z Tryz.isAgg28 sf3 rfl rfl (L_lda (cs:=[r449_0,I x437.1.bound]) rfl Tryz.isAgg73 Tryz.sizeOf73 rfl (At.sub0 (Blk.at (Star.blkAt 0 Z rfl)) 0 2) rfl (L_bs rfl (parts1 rfl) (bs_28_1_2 (r449_0) (I x437.1.bound) ) Z (fun g462 w463 Z=>?_))))
 have Z:=Z.get 2 rfl
 have Z:=oCon_close (c:=x437.1) Z
 have Z:=Star.mkRow (R:=(oCon 122)) [([r449_0,I x437.1.bound],x437.1)] [x437.1] 1 Z rfl rfl rfl (by decide)
 have Z:=Z.get 5 rfl
 refine L_appM (v:=v328_g11_0) (u:=(Sl g462 1 1)) rfl et_28 rfl rfl Z hx457 (fun v465 w466 Z=>L_stB (v:=v465) (cs2:=#[v465]) 5 rfl Tryz.sizeOf28 sf3 rfl (one_len (Star.len 0 Z rfl)) Z rfl rfl rfl (fun w468 Z=>nn ?_))
 obtain rfl:=so hA365
 have Z:=Z.gets [7,7,2,3,5,7] rfl
 exact rj hR365 ⟨H370,v465,l371,(Star.keepN 6 Z)⟩
 have hA365:=(ite_f hc366).symm.trans hA365
 refine W_skip ?_
 obtain rfl:=so hA365
 exact rj hR365 ⟨H330,v328_g11_0,(Le.refl _),Z⟩
 intro f w_ hR
 obtain ⟨H363,v361_g11_0,l364,Z⟩:=rk hR365 hR
 refine sq (aB rfl (nn (W_ret (retG1 (v1:=Bo true) Tryz.results104 rfl ?_))))
 obtain ⟨rfl,rfl⟩:=so2 hA345
 show R345 _ _
 rw [hR345]
 exact ⟨H363,v361_g11_0,rfl,l364,Z⟩
 intro v_345 w_ hR
 rw [hR345] at hR
 obtain ⟨H343,v341_g11_0,hvr345,l344,Z⟩:=hR
 obtain rfl:=hvr345.symm
 clear hR345
 refine nn (W_cond (b:=ret0_334) rfl (fun hc469=>?_) (fun hc469=>?_))
 have hB332:=(ite_t hc469).symm.trans hB332
 refine W_skip (W_block (sq (mF sf6 rfl (L_len rfl Tryz.underlying23 rfl (Star.len 1 Z rfl) (L_sub rfl rfl rfl (aI rfl (L_nil (W_seq ?_))))))))
 obtain ⟨j475,hL475,hB332⟩:=bind_some hB332
 obtain ⟨R475,hR475⟩:=exR fun f w_=>∃ cells_471 : List Int,∃ i_472 : Int,∃ H473 : FH,j475 = .nx (cells_471,i_472)∧Le H343 H473∧f 0 = v257_sizes∧f 2 = .func (.func 104) #[] #[Pt g7,Pt g5,Pt g11]∧f 6 = r324_0∧f 7 = I i_472∧Star H473 w_ ([oF 3 RP.int v257_sizes sizes_257,oF 3 RP.int r324_0 cells_471,oS 73 (oCon 122) v341_g11_0 g11_0_335,box g11 28 #[v341_g11_0],box g5 26 #[v0_0,v0_1],box g7 79 #[I r_.kind,v1_1,v1_2,I r_.bound,v1_4]])
 refine W_join R475 ?_ ?_
 refine W_block ?_
 obtain ⟨I475,hI475⟩:=exI fun n f w_=>∃ cells_471 : List Int,∃ i_472 : Int,∃ H473 : FH,whileL (i_Model_encodeRule_b10 sizes_257) n (cells_471,i_472) = some j475∧Le H343 H473∧f 0 = v257_sizes∧f 2 = .func (.func 104) #[] #[Pt g7,Pt g5,Pt g11]∧f 6 = r324_0∧f 7 = I i_472∧Star H473 w_ ([oF 3 RP.int v257_sizes sizes_257,oF 3 RP.int r324_0 cells_471,oS 73 (oCon 122) v341_g11_0 g11_0_335,box g11 28 #[v341_g11_0],box g5 26 #[v0_0,v0_1],box g7 79 #[I r_.kind,v1_1,v1_2,I r_.bound,v1_4]])
 refine W_loop I475 (n:=fu) ?_ ?_
 exact ij hI475 ⟨cells_327,i64 ((cells_327.length : Int) - 1),H343,hL475,(Le.refl _),sf0,sf2,sf6,rfl,Z⟩
 intro n475 f w_ hI
 obtain ⟨cells_471,i_472,H473,hL475,l474,sf0,sf2,sf6,sf7,Z⟩:=ik hI475 hI
 rcases n475 with _ | n475
 exact (while_zero hL475).elim
 obtain ⟨o475,hB475,hL475⟩:=while_succ hL475
 rw [i_Model_encodeRule_b10] at hB475
 refine W_seq (W_seq ?_)
 obtain ⟨b486,hb486,hB475⟩:=bind_some hB475
 obtain ⟨R490,hR490⟩:=exR fun f w_=>∃ H488 : FH,Le H473 H488∧f 0 = v257_sizes∧f 2 = .func (.func 104) #[] #[Pt g7,Pt g5,Pt g11]∧f 6 = r324_0∧f 7 = I i_472∧f 28 = Bo b486∧Star H488 w_ ([oF 3 RP.int v257_sizes sizes_257,oF 3 RP.int r324_0 cells_471,oS 73 (oCon 122) v341_g11_0 g11_0_335,box g11 28 #[v341_g11_0],box g5 26 #[v0_0,v0_1],box g7 79 #[I r_.kind,v1_1,v1_2,I r_.bound,v1_4]])
 refine W_join R490 ?_ ?_
 rcases Bool.eq_false_or_eq_true (decide (i_472 ≥ 0)) with hc491 | hc491
 rw [ite_t hc491] at hb486
 obtain ⟨x476,hx476,hb486⟩:=bind_some hb486
 obtain ⟨x481,hx481,hb486⟩:=bind_some hb486
 obtain ⟨g492,cap_g492,hv493,_,_⟩:=Star.row 1 Z rfl hx476
 obtain ⟨g496,cap_g496,hv497,_,_⟩:=Star.row 0 Z rfl hx481
 refine W_drawS 11 [isV (I i_472),isV (Bo (decide (i_472 ≥ 0))),isV (Bo (decide (i_472 ≥ 0))),isV (r324_0),isV (I i_472),isV (.pointer (some ⟨g492,Int.toNat i_472 * 1,none⟩)),isV (I x476),isV (v257_sizes),isV (I i_472),isV (.pointer (some ⟨g496,Int.toNat i_472 * 1,none⟩)),isV (I x481)] [oF 3 RP.int v257_sizes sizes_257,oF 3 RP.int r324_0 cells_471,oS 73 (oCon 122) v341_g11_0 g11_0_335,box g11 28 #[v341_g11_0],box g5 26 #[v0_0,v0_1],box g7 79 #[I r_.kind,v1_1,v1_2,I r_.bound,v1_4]] [] ([]) [([],[]),([],[]),([],[]),([],[]),([],[]),([],[]),([],[]),([],[]),([],[]),([],[]),([],[])] (S:=[]) Tryz_mix (by kernel_rfl) rfl (by kernel_rfl) (amF_cons (mono_V _) (amF_cons (mono_V _) (amF_cons (mono_V _) (amF_cons (mono_V _) (amF_cons (mono_V _) (amF_cons (mono_V _) (amF_cons (mono_V _) (amF_cons (mono_V _) (amF_cons (mono_V _) (amF_cons (mono_V _) (amF_cons (mono_V _) amF_nil))))))))))) Z ?_ (fun f w_ H487 hS487 hE487 hT487 Z=>?_)
 refine opsS_cons (fun f w_ _ _ s _ _ Z=>mF ((s 7 rfl).trans sf7) rfl (nO rfl rfl Z)) (opsS_cons (fun f w_ _ _ _ _ p Z=>L_geq rfl (p 0 16 rfl rfl) rfl (nO rfl rfl Z)) (opsS_cons (fun f w_ _ _ _ _ p Z=>mF (p 1 17 rfl rfl) rfl (nO rfl rfl Z)) (opsS_cons (fun f w_ _ _ s _ p Z=>L_mv (v:=r324_0) (g_yes rfl (Eq.trans (p 2 18 rfl rfl) (congrArg Value.bool hc491)) rfl) ((s 6 rfl).trans sf6) (nO rfl rfl Z)) (opsS_cons (fun f w_ _ _ s _ p Z=>L_mv (v:=I i_472) (g_yes rfl (Eq.trans (p 2 18 rfl rfl) (congrArg Value.bool hc491)) rfl) ((s 7 rfl).trans sf7) (nO rfl rfl Z)) (opsS_cons (fun f w_ _ _ _ _ p Z=>L_ixO (R:=(OR.frz RP.int)) (tb:=0) 0 (g_yes rfl (Eq.trans (p 2 18 rfl rfl) (congrArg Value.bool hc491)) rfl) Tryz.underlying23 Tryz.sizeOf3 (p 3 19 rfl rfl) hv493 (by first | rfl | simp) (p 4 20 rfl rfl) hx476 (nO rfl rfl Z)) (opsS_cons ?_ ?_))))))
 intro f w_ H487 X487 hS487 hE487 hP487 Z
 obtain ⟨cs500,hr500,hat500⟩:=Star.eltF 1 Z rfl hv493 hx476
 obtain rfl : _ = [_]:=hr500
 refine L_ld (v:=I x476) (g_yes rfl (Eq.trans (hP487 2 18 rfl rfl) (congrArg Value.bool hc491)) rfl) Tryz.isAgg3 (hP487 5 21 rfl rfl) (At.cell hat500 (j:=0) rfl) (L_nil ⟨rfl,_,_,rfl,Le.refl _,fun _ _=>rfl,Z⟩)
 refine opsS_cons (fun f w_ _ _ s _ p Z=>L_mv (v:=v257_sizes) (g_yes rfl (Eq.trans (p 2 18 rfl rfl) (congrArg Value.bool hc491)) rfl) ((s 0 rfl).trans sf0) (nO rfl rfl Z)) (opsS_cons (fun f w_ _ _ s _ p Z=>L_mv (v:=I i_472) (g_yes rfl (Eq.trans (p 2 18 rfl rfl) (congrArg Value.bool hc491)) rfl) ((s 7 rfl).trans sf7) (nO rfl rfl Z)) (opsS_cons (fun f w_ _ _ _ _ p Z=>L_ixO (R:=(OR.frz RP.int)) (tb:=0) 0 (g_yes rfl (Eq.trans (p 2 18 rfl rfl) (congrArg Value.bool hc491)) rfl) Tryz.underlying23 Tryz.sizeOf3 (p 7 23 rfl rfl) hv497 (by first | rfl | simp) (p 8 24 rfl rfl) hx481 (nO rfl rfl Z)) (opsS_cons ?_ ?_)))
 intro f w_ H487 X487 hS487 hE487 hP487 Z
 obtain ⟨cs502,hr502,hat502⟩:=Star.eltF 0 Z rfl hv497 hx481
 obtain rfl : _ = [_]:=hr502
 refine L_ld (v:=I x481) (g_yes rfl (Eq.trans (hP487 2 18 rfl rfl) (congrArg Value.bool hc491)) rfl) Tryz.isAgg3 (hP487 9 25 rfl rfl) (At.cell hat502 (j:=0) rfl) (L_nil ⟨rfl,_,_,rfl,Le.refl _,fun _ _=>rfl,Z⟩)
 exact opsS_nil
 refine L_eql (g_yes rfl (Eq.trans (hT487 2 18 rfl rfl) (congrArg Value.bool hc491)) rfl) (hT487 6 22 rfl rfl) (hT487 10 26 rfl rfl) (L_pick (v:=Bo b486) rfl (Eq.trans (hT487 2 18 rfl rfl) (congrArg Value.bool hc491)) (congrArg Value.bool (so hb486)) (nn (rj hR490 ⟨H487,hE487,((hS487 0 rfl).trans sf0),((hS487 2 rfl).trans sf2),((hS487 6 rfl).trans sf6),((hS487 7 rfl).trans sf7),rfl,Z⟩)))
 rw [ite_f hc491] at hb486
 refine W_drawS 11 [isV (I i_472),isV (Bo (decide (i_472 ≥ 0))),isV (Bo (decide (i_472 ≥ 0))),isV (undef),isV (undef),isV (undef),isV (undef),isV (undef),isV (undef),isV (undef),isV (undef)] [oF 3 RP.int v257_sizes sizes_257,oF 3 RP.int r324_0 cells_471,oS 73 (oCon 122) v341_g11_0 g11_0_335,box g11 28 #[v341_g11_0],box g5 26 #[v0_0,v0_1],box g7 79 #[I r_.kind,v1_1,v1_2,I r_.bound,v1_4]] [] ([]) [([],[]),([],[]),([],[]),([],[]),([],[]),([],[]),([],[]),([],[]),([],[]),([],[]),([],[])] (S:=[]) Tryz_mix (by kernel_rfl) rfl (by kernel_rfl) (amF_cons (mono_V _) (amF_cons (mono_V _) (amF_cons (mono_V _) (amF_cons (mono_V _) (amF_cons (mono_V _) (amF_cons (mono_V _) (amF_cons (mono_V _) (amF_cons (mono_V _) (amF_cons (mono_V _) (amF_cons (mono_V _) (amF_cons (mono_V _) amF_nil))))))))))) Z ?_ (fun f w_ H487 hS487 hE487 hT487 Z=>?_)
 refine opsS_cons (fun f w_ _ _ s _ _ Z=>mF ((s 7 rfl).trans sf7) rfl (nO rfl rfl Z)) (opsS_cons (fun f w_ _ _ _ _ p Z=>L_geq rfl (p 0 16 rfl rfl) rfl (nO rfl rfl Z)) (opsS_cons (fun f w_ _ _ _ _ p Z=>mF (p 1 17 rfl rfl) rfl (nO rfl rfl Z)) (oP (fun _ _ p=>gN (p 2 18 rfl rfl) hc491 rfl) (fun _=>rfl) (oP (fun _ _ p=>gN (p 2 18 rfl rfl) hc491 rfl) (fun _=>rfl) (oP (fun _ _ p=>gN (p 2 18 rfl rfl) hc491 rfl) (fun _=>rfl) (oP (fun _ _ p=>gN (p 2 18 rfl rfl) hc491 rfl) (fun _=>rfl) (oP (fun _ _ p=>gN (p 2 18 rfl rfl) hc491 rfl) (fun _=>rfl) (oP (fun _ _ p=>gN (p 2 18 rfl rfl) hc491 rfl) (fun _=>rfl) (oP (fun _ _ p=>gN (p 2 18 rfl rfl) hc491 rfl) (fun _=>rfl) (oP (fun _ _ p=>gN (p 2 18 rfl rfl) hc491 rfl) (fun _=>rfl) (opsS_nil)))))))))))
 refine ps (g_no rfl (Eq.trans (hT487 2 18 rfl rfl) (congrArg Value.bool hc491)) rfl rfl) (L_pick (v:=Bo b486) rfl (Eq.trans (hT487 2 18 rfl rfl) (congrArg Value.bool hc491)) (congrArg Value.bool (so hb486)) (nn (rj hR490 ⟨H487,hE487,((hS487 0 rfl).trans sf0),((hS487 2 rfl).trans sf2),((hS487 6 rfl).trans sf6),((hS487 7 rfl).trans sf7),rfl,Z⟩)))
 intro f w_ hR
 obtain ⟨H488,l489,sf0,sf2,sf6,sf7,sf28,Z⟩:=rk hR490 hR
 refine W_cond (b:=b486) sf28 (fun hc504=>?_) (fun hc504=>?_)
 have hB475:=(ite_t hc504).symm.trans hB475
 refine W_skip (W_block (W_seq ?_))
 obtain ⟨x505,hx505,hB475⟩:=bind_some hB475
 refine W_region (mF sf6 rfl (mF sf7 rfl ?_))
 obtain ⟨g509,cap_g509,hv510,_,_⟩:=Star.row 1 Z rfl hx505
 refine L_ixO (R:=(OR.frz RP.int)) (tb:=0) 0 rfl Tryz.underlying23 Tryz.sizeOf3 rfl hv510 (by first | rfl | simp) rfl hx505 ?_
 have Z:=Star.addF (r:=RP.int) (cs:=[I 0]) (x:=0) Z rfl
 have Z:=Z.gets [2,1] rfl
 refine L_stE1 (u:=I 0) rfl Tryz.sizeOf3 rfl rfl rfl hv510 Z hx505 (fun w511 Z=>?_)
 refine nn (W_region (mF sf7 rfl (L_sub rfl rfl rfl (aI rfl (nn ?_)))))
 obtain rfl:=so hB475
 have Z:=Z.gets [5,5,5,5,4,5] rfl
 show ∃ m,m < _∧I475 m _ _
 refine ⟨n475,Nat.lt_succ_self _,?_⟩
 exact ij hI475 ⟨(cells_471.set (Int.toNat i_472) 0),i64 (i_472 - 1),H488,hL475,(Le.trans l474 l489),sf0,sf2,sf6,rfl,Z⟩
 have hB475:=(ite_f hc504).symm.trans hB475
 refine W_exit ?_
 obtain rfl:=so hB475
 obtain rfl:=so hL475
 exact rj hR475 ⟨cells_471,i_472,H488,rfl,(Le.trans l474 l489),sf0,sf2,sf6,sf7,Z⟩
 intro f w_ hR
 obtain ⟨cells_471,i_472,H473,rfl,l474,sf0,sf2,sf6,sf7,Z⟩:=rk hR475 hR
 refine W_seq (sq (mF sf7 rfl (L_lss rfl rfl rfl (nn (W_cond (b:=decide (i_472 < 0)) rfl (fun hc512=>?_) (fun hc512=>?_))))))
 have hB332:=(ite_t hc512).symm.trans hB332
 refine W_ret (ret0 Tryz.results57 ?_)
 obtain rfl:=so hB332
 obtain rfl:=so hL332
 obtain rfl:=so hA308
 have Z:=Z.gets [3,3] rfl
 show R308 _ _
 rw [hR308]
 exact ⟨H473,v341_g11_0,rfl,(Le.trans (Le.trans l331 l344) l474),(Star.keepN 2 Z)⟩
 have hB332:=(ite_f hc512).symm.trans hB332
 refine W_skip ?_
 obtain ⟨x513,hx513,hB332⟩:=bind_some hB332
 refine W_region (mF sf6 rfl (mF sf7 rfl ?_))
 obtain ⟨g519,cap_g519,hv520,_,_⟩:=Star.row 1 Z rfl hx513
 refine L_ixO (R:=(OR.frz RP.int)) (tb:=0) 0 rfl Tryz.underlying23 Tryz.sizeOf3 rfl hv520 (by first | rfl | simp) rfl hx513 ?_
 obtain ⟨cs521,hr521,hat521⟩:=Star.eltF 1 Z rfl hv520 hx513
 obtain rfl : _ = [_]:=hr521
 refine L_ld rfl Tryz.isAgg3 rfl (At.cell hat521 (j:=0) rfl) (L_add rfl rfl rfl (L_ixO (R:=(OR.frz RP.int)) (tb:=0) 0 rfl Tryz.underlying23 Tryz.sizeOf3 rfl hv520 (by first | rfl | simp) rfl hx513 ?_))
 have Z:=Star.addF (r:=RP.int) (cs:=[I (i64 (x513 + 1))]) (x:=(i64 (x513 + 1))) Z rfl
 have Z:=Z.gets [2,1] rfl
 refine L_stE1 (u:=I (i64 (x513 + 1))) rfl Tryz.sizeOf3 rfl rfl rfl hv520 Z hx513 (fun w523 Z=>?_)
 refine nn ?_
 obtain rfl:=so hB332
 have Z:=Z.gets [5,5,5,5,4,5] rfl
 show ∃ m,m < _∧I332 m _ _
 refine ⟨n332,Nat.lt_succ_self _,?_⟩
 exact ij hI332 ⟨(cells_471.set (Int.toNat i_472) (i64 (x513 + 1))),g11_0_335,H473,v341_g11_0,hL332,(Le.trans (Le.trans l331 l344) l474),sf0,sf2,sf6,Z⟩
 have hB332:=(ite_f hc469).symm.trans hB332
 refine W_exit ?_
 obtain rfl:=so hB332
 obtain rfl:=so hL332
 have Z:=Z.gets [3,3] rfl
 exact rj hR332 ⟨cells_327,g11_0_335,H343,v341_g11_0,rfl,(Le.trans l331 l344),(Star.keepN 2 Z)⟩
 intro f w_ hR
 obtain ⟨cells_327,g11_0_328,H330,v328_g11_0,rfl,l331,Z⟩:=rk hR332 hR
 obtain rfl:=so hA308
 refine end0 Tryz.results57 ?_
 show R308 _ _
 rw [hR308]
 exact ⟨H330,v328_g11_0,rfl,l331,Z⟩
 intro v_308 w_ hR
 rw [hR308] at hR
 obtain ⟨H306,v304_g11_0,hvr308,l307,Z⟩:=hR
 obtain rfl:=hvr308.symm
 clear hR308
 refine L_nil (sq (ldB 1 Z Tryz.isAgg28 sf5 rfl rfl (aV v304_g11_0 rfl (nn (W_ret (retG1 (v1:=v304_g11_0) Tryz.results50 rfl ?_))))))
 obtain rfl:=so hF
 exact ⟨v304_g11_0,rfl,(Star.down (Star.keepN 1 Z) l307 (co closed_oCon c0))⟩
end Go.Proofs.YtbjllamkfmejlaaGreat

/- Part of a proof by program: W1. -/
import Derived.Test.YtohpkefnmkdaeaaDoorD1
import Derived.Test.YtohpkefnmkdaeaaDoorProg
import Derived.Test.YtohpkefnmkdaeaaDoorShelf
import Derived.WalkKit
namespace Go.Proofs.YtohpkefnmkdaeaaDoor
open Go Go.E Go.L Go.RowKit
set_option linter.unusedVariables false
set_option linter.unusedSimpArgs false
set_option maxRecDepth 100000
theorem Tryd_mix : Tryd.prog.follows .mixedOrders = true := by kernel_rfl
theorem fa_26_0 : FA Tryd.prog 26 0 0 := fa_of Tryd.underlying26 rfl Tryd.sizeOf23 rfl
theorem fa_26_1 : FA Tryd.prog 26 1 1 := fa_of Tryd.underlying26 rfl Tryd.sizeOf24 rfl
theorem fa_34_0 : FA Tryd.prog 34 0 0 := fa_of Tryd.underlying34 rfl Tryd.sizeOf23 rfl
theorem fa_34_1 : FA Tryd.prog 34 1 1 := fa_of Tryd.underlying34 rfl Tryd.sizeOf32 rfl
theorem fa_54_0 : FA Tryd.prog 54 0 0 := fa_of Tryd.underlying54 rfl Tryd.sizeOf3 rfl
theorem fa_54_1 : FA Tryd.prog 54 1 1 := fa_of Tryd.underlying54 rfl Tryd.sizeOf23 rfl
theorem fa_54_2 : FA Tryd.prog 54 2 2 := fa_of Tryd.underlying54 rfl Tryd.sizeOf23 rfl
theorem fa_54_3 : FA Tryd.prog 54 3 3 := fa_of Tryd.underlying54 rfl Tryd.sizeOf3 rfl
theorem fa_54_4 : FA Tryd.prog 54 4 4 := fa_of Tryd.underlying54 rfl Tryd.sizeOf52 rfl
theorem fa_98_0 : FA Tryd.prog 98 0 0 := fa_of Tryd.underlying98 rfl Tryd.sizeOf3 rfl
theorem fa_98_1 : FA Tryd.prog 98 1 1 := fa_of Tryd.underlying98 rfl Tryd.sizeOf23 rfl
theorem fa_98_2 : FA Tryd.prog 98 2 2 := fa_of Tryd.underlying98 rfl Tryd.sizeOf23 rfl
theorem fa_98_3 : FA Tryd.prog 98 3 3 := fa_of Tryd.underlying98 rfl Tryd.sizeOf3 rfl
theorem fa_98_4 : FA Tryd.prog 98 4 4 := fa_of Tryd.underlying98 rfl Tryd.sizeOf52 rfl
theorem et_23 : ET Tryd.prog 23 3 1 := et_of Tryd.underlying23 (by decide) (by kernel_rfl)
theorem et_24 : ET Tryd.prog 24 54 5 := et_of Tryd.underlying24 (by decide) (by kernel_rfl)
theorem et_52 : ET Tryd.prog 52 23 1 := et_of Tryd.underlying52 (by decide) (by kernel_rfl)
theorem bs_104_5_0_0_0_0_0 (a0 a1 a2 a3 a4 : Value) (ha0 : a0.oneCell' = true) (ha1 : a1.oneCell' = true) (ha2 : a2.oneCell' = true) (ha3 : a3.oneCell' = true) (ha4 : a4.oneCell' = true) : ∀ w, (Instr.buildSlice 104 5 #[(0, a0), (1, a1), (2, a2), (3, a3), (4, a4)]).run Tryd.prog w = .ok (.slice (some ⟨w.heap.size, 0, none⟩) 5 5) (w.alloc (.cells #[a0, a1, a2, a3, a4] 9)) := by
  intro w
  simp [Instr.buildSlice, Instr.fill, newRow, Tryd.zeroValue9, Tryd.runUnderlying104, Tryd.sizeOf9, cells_one ha0, cells_one ha1, cells_one ha2, cells_one ha3, cells_one ha4, cells_agg, cells_int, cells_bool, cells_str, cells_sl, Array.range_succ, range0]
theorem bs_22_1_0 (a0 : Value) (ha0 : a0.oneCell' = true) : ∀ w, (Instr.buildSlice 22 1 #[(0, a0)]).run Tryd.prog w = .ok (.slice (some ⟨w.heap.size, 0, none⟩) 1 1) (w.alloc (.cells #[a0] 5)) := by
  intro w
  simp [Instr.buildSlice, Instr.fill, newRow, Tryd.zeroValue5, Tryd.runUnderlying22, Tryd.sizeOf5, cells_one ha0, cells_agg, cells_int, cells_bool, cells_str, cells_sl, Array.range_succ, range0]
theorem i_within_c {n_ : Int} {low : Int} {high : Int} {H : FH} {w : World} (Z : Star H w []) {r : Bool} (hF : i_within n_ low high = some r) :
 C Tryd.prog 51 #[I n_,I low,I high] w fun v w'=>v = Bo r∧Star H w' []:=by
 unfold i_within at hF
 refine C_enter Tryd.func51 rfl Tryd.ntmps51 rfl (sq (aB rfl (nq ?_)))
 obtain ⟨R1,hR1⟩:=exR fun f w_=>f 6 = Bo ((decide (low≤n_)) && (decide (n_≤high)))∧Star H w_ ([])
 refine W_join R1 ?_ ?_
 refine W_region (mI rfl (mI rfl (L_leq rfl rfl rfl (mB rfl (L_split (d:=10) (b:=decide (low≤n_)) rfl (fun hc2=>?_) (fun hc2=>?_))))))
 refine mI rfl (mI rfl (L_leq rfl rfl rfl (L_pick (v:=Bo ((decide (low≤n_)) && (decide (n_≤high)))) rfl rfl (and_t hc2 rfl) (aB rfl (nn (rj hR1 ⟨rfl,Z⟩))))))
 refine ps rfl (ps rfl (ps rfl (L_pick (v:=Bo ((decide (low≤n_)) && (decide (n_≤high)))) rfl rfl (and_f hc2) (aB rfl (nn (rj hR1 ⟨rfl,Z⟩))))))
 intro f w_ hR
 obtain ⟨sf6,Z⟩:=rk hR1 hR
 refine W_ret (retG1 (v1:=Bo ((decide (low≤n_)) && (decide (n_≤high)))) Tryd.results51 sf6 ?_)
 obtain rfl:=so hF
 exact ⟨rfl,Z⟩
theorem slices_IndexFunc_implRule_c {s : List Rule} {f_ : (Rule→Option Bool)} {v0 : Value} {v1 : Value} {H : FH} {w : World} (Z : Star H w []) (h0 : (rS 54 (rRule 3 23)).rel H [v0] s) (h1 : Fun1 Tryd.prog (rRule 3 23) true Value.bool f_ v1 H) {r : Int} (hF : slices_IndexFunc_implRule s f_ = some r) :
 C Tryd.prog 82 #[v0,v1] w fun v w'=>v = I r∧Star H w' []:=by
 unfold slices_IndexFunc_implRule at hF
 obtain ⟨fid_1,caps_1,rfl,hcall_1,hc_1⟩:=h1
 refine C_enter Tryd.func82 rfl Tryd.ntmps82 rfl (sq (aI rfl (nq (sq (mV v0 rfl (L_len rfl Tryd.underlying24 rfl (slice_len h0) (mI rfl (nn ?_))))))))
 have hlen2 : List.length s≤9223372036854775807:=len_le (slice_len h0)
 obtain ⟨j2,hL2,hF⟩:=bind_some hF
 obtain ⟨R2,hR2⟩:=exR fun f w_=>j2 = .nx ()∧Star H w_ ([])
 refine W_join R2 ?_ ?_
 refine W_block ?_
 obtain ⟨I2,hI2⟩:=exI fun n f w_=>∃ i_1 : Nat,∃ suf2 : List Rule,n = suf2.length∧List.drop i_1 s = suf2∧i_1 + suf2.length = s.length∧rangeL (slices_IndexFunc_implRule_b1 f_) suf2 i_1 () = some j2∧f 0 = v0∧f 1 = .func (.func fid_1) #[] caps_1∧f 7 = I (s.length : Int)∧f 8 = I i_1∧Star H w_ ([])
 refine W_loop I2 (n:=s.length) ?_ ?_
 exact ij hI2 ⟨0,s,rfl,rfl,Nat.zero_add _,hL2,rfl,rfl,rfl,rfl,Z⟩
 intro n2 f w_ hI
 obtain ⟨i_1,suf2,rfl,hd2,hl2,hL2,sf0,sf1,sf7,sf8,Z⟩:=ik hI2 hI
 refine sq (L_lss rfl sf8 sf7 (nq (W_cond (b:=decide ((i_1 : Int) < (s.length : Int))) rfl (fun hc3=>?_) (fun hc3=>?_))))
 have hlt2:=of_decide_eq_true hc3
 rcases suf2 with _ | ⟨x_2,rest2⟩
 exact absurd hlt2 (by simp at hl2; omega)
 obtain ⟨o2,hB2,hL2⟩:=range_cons hL2
 rw [slices_IndexFunc_implRule_b1] at hB2
 have hix2:=drop_idx hd2
 refine W_skip (W_seq (W_block (sq (mF sf8 rfl (aI rfl (nq ?_))))))
 obtain ⟨x8,hx8,hB2⟩:=bind_some hB2
 refine W_region (mF sf1 rfl (mF sf0 rfl (mI rfl (L_ix (r:=(rRule 3 23)) rfl Tryd.underlying24 Tryd.sizeOf54 rfl h0 rfl hix2 (fun g15 o16 cs_g15 hrk_hat17 hat17=>?_)))))
 obtain ⟨u18_0,u18_1,u18_2,rfl,hu18_0,hu18_1,hu18_2⟩:=rRule_iff.1 hrk_hat17
 refine L_lda (cs:=[I x_2.kind,u18_0,u18_1,I x_2.bound,u18_2]) rfl Tryd.isAgg54 Tryd.sizeOf54 rfl (At.sub (AtH.at hat17 Z.sub) 0 5) rfl ?_
 obtain ⟨H19b,l20,s21,z22,k23⟩:=Z.borrow
 refine L_callv (args:=#[.agg #[I x_2.kind,u18_0,u18_1,I x_2.bound,u18_2]]) rfl hcall_1 rfl (ops1 rfl) (hc_1 _ _ l20 s21 [I x_2.kind,u18_0,u18_1,I x_2.bound,u18_2] _ _ _ (rRule_iff.2 ⟨_,_,_,rfl,(RP.mono _ hu18_0 l20),(RP.mono _ hu18_1 l20),(RP.mono _ hu18_2 l20)⟩) hx8 (args_app rfl)) ?_
 rintro _ w24 ⟨rfl,Z⟩
 have Z:=k23 Z c0
 refine nn (W_cond (b:=x8) rfl (fun hc25=>?_) (fun hc25=>?_))
 have hB2:=(ite_t hc25).symm.trans hB2
 refine sq (mI rfl (aI rfl (nn (W_ret (retG1 (v1:=I i_1) Tryd.results82 rfl ?_)))))
 obtain rfl:=so hB2
 obtain rfl:=so hL2
 obtain rfl:=so hF
 exact ⟨rfl,Z⟩
 have hB2:=(ite_f hc25).symm.trans hB2
 refine W_skip (W_region (L_add rfl sf8 rfl (mI rfl (nn ?_))))
 obtain rfl:=so hB2
 show ∃ m,m < _∧I2 m _ _
 refine ⟨rest2.length,by simp,?_⟩
 exact ij hI2 ⟨i_1 + 1,rest2,rfl,drop_next hd2,by simp at hl2; omega,hL2,sf0,sf1,sf7,(Eq.trans rfl (congrArg (Value.int .i64) (i64_succ (n:=s.length) (by simp at hl2; omega) hlen2))),Z⟩
 rcases suf2 with _ | ⟨_,_⟩
 obtain rfl:=range_nil hL2
 refine W_exit (rj hR2 ⟨rfl,Z⟩)
 exact absurd (of_decide_eq_false hc3) (by simp at hl2; omega)
 intro f w_ hR
 obtain ⟨rfl,Z⟩:=rk hR2 hR
 refine sq (aI rfl (nn (W_ret (retG1 (v1:=I (-1)) Tryd.results82 rfl ?_))))
 obtain rfl:=so hF
 exact ⟨rfl,Z⟩
theorem slices_ContainsFunc_implRule_c {s : List Rule} {f_ : (Rule→Option Bool)} {v0 : Value} {v1 : Value} {H : FH} {w : World} (Z : Star H w []) (h0 : (rS 54 (rRule 3 23)).rel H [v0] s) (h1 : Fun1 Tryd.prog (rRule 3 23) true Value.bool f_ v1 H) {r : Bool} (hF : slices_ContainsFunc_implRule s f_ = some r) :
 C Tryd.prog 52 #[v0,v1] w fun v w'=>v = Bo r∧Star H w' []:=by
 unfold slices_ContainsFunc_implRule at hF
 obtain ⟨fid_1,caps_1,rfl,hcall_1,hc_1⟩:=h1
 refine C_enter Tryd.func52 rfl Tryd.ntmps52 rfl (sq (aB rfl (nq ?_)))
 obtain ⟨x6,hx6,hF⟩:=bind_some hF
 refine W_region (mV v0 rfl (mV (.func (.func fid_1) #[] caps_1) rfl ?_))
 obtain ⟨H8b,l9,s10,z11,k12⟩:=Z.borrow
 refine L_call rfl Tryd.call82 (ops2 rfl rfl) (slices_IndexFunc_implRule_c (s:=s) (f_:=f_) s10 (RP.mono _ h0 l9) (Fun1.le ⟨_,_,rfl,hcall_1,hc_1⟩ l9) hx6) ?_
 rintro _ w13 ⟨rfl,Z⟩
 have Z:=k12 Z c0
 refine L_geq rfl rfl rfl (aB rfl (nn (W_ret (retG1 (v1:=Bo (decide (x6 ≥ 0))) Tryd.results52 rfl ?_))))
 obtain rfl:=so hF
 exact ⟨rfl,Z⟩
theorem slices_Index_int_c {s : List Int} {v_ : Int} {v0 : Value} {H : FH} {w : World} (Z : Star H w []) (h0 : (rS 3 RP.int).rel H [v0] s) {r : Int} (hF : slices_Index_int s v_ = some r) :
 C Tryd.prog 104 #[v0,I v_] w fun v w'=>v = I r∧Star H w' []:=by
 unfold slices_Index_int at hF
 refine C_enter Tryd.func104 rfl Tryd.ntmps104 rfl (sq (aI rfl (nq (sq (mV v0 rfl (L_len rfl Tryd.underlying23 rfl (slice_len h0) (mI rfl (nn ?_))))))))
 have hlen2 : List.length s≤9223372036854775807:=len_le (slice_len h0)
 obtain ⟨j2,hL2,hF⟩:=bind_some hF
 obtain ⟨R2,hR2⟩:=exR fun f w_=>j2 = .nx ()∧Star H w_ ([])
 refine W_join R2 ?_ ?_
 refine W_block ?_
 obtain ⟨I2,hI2⟩:=exI fun n f w_=>∃ i_1 : Nat,∃ suf2 : List Int,n = suf2.length∧List.drop i_1 s = suf2∧i_1 + suf2.length = s.length∧rangeL (slices_Index_int_b1 v_) suf2 i_1 () = some j2∧f 0 = v0∧f 1 = I v_∧f 7 = I (s.length : Int)∧f 8 = I i_1∧Star H w_ ([])
 refine W_loop I2 (n:=s.length) ?_ ?_
 exact ij hI2 ⟨0,s,rfl,rfl,Nat.zero_add _,hL2,rfl,rfl,rfl,rfl,Z⟩
 intro n2 f w_ hI
 obtain ⟨i_1,suf2,rfl,hd2,hl2,hL2,sf0,sf1,sf7,sf8,Z⟩:=ik hI2 hI
 refine sq (L_lss rfl sf8 sf7 (nq (W_cond (b:=decide ((i_1 : Int) < (s.length : Int))) rfl (fun hc3=>?_) (fun hc3=>?_))))
 have hlt2:=of_decide_eq_true hc3
 rcases suf2 with _ | ⟨x_2,rest2⟩
 exact absurd hlt2 (by simp at hl2; omega)
 obtain ⟨o2,hB2,hL2⟩:=range_cons hL2
 rw [slices_Index_int_b1] at hB2
 have hix2:=drop_idx hd2
 refine W_skip (W_seq (W_block (sq (mF sf8 rfl (aI rfl (ns (mF sf1 rfl (mF sf0 rfl (mI rfl (L_ix (r:=RP.int) rfl Tryd.underlying23 Tryd.sizeOf3 rfl h0 rfl hix2 (fun g8 o9 cs_g8 hrk_hat10 hat10=>?_)))))))))))
 obtain rfl : _ = [_]:=hrk_hat10
 refine L_ld rfl Tryd.isAgg3 rfl (At.cell (AtH.at hat10 Z.sub) (j:=0) rfl) (L_eql rfl rfl rfl (nn (W_cond (b:=(v_ == x_2)) rfl (fun hc12=>?_) (fun hc12=>?_))))
 have hB2:=(ite_t hc12).symm.trans hB2
 refine sq (mI rfl (aI rfl (nn (W_ret (retG1 (v1:=I i_1) Tryd.results104 rfl ?_)))))
 obtain rfl:=so hB2
 obtain rfl:=so hL2
 obtain rfl:=so hF
 exact ⟨rfl,Z⟩
 have hB2:=(ite_f hc12).symm.trans hB2
 refine W_skip (W_region (L_add rfl sf8 rfl (mI rfl (nn ?_))))
 obtain rfl:=so hB2
 show ∃ m,m < _∧I2 m _ _
 refine ⟨rest2.length,by simp,?_⟩
 exact ij hI2 ⟨i_1 + 1,rest2,rfl,drop_next hd2,by simp at hl2; omega,hL2,sf0,sf1,sf7,(Eq.trans rfl (congrArg (Value.int .i64) (i64_succ (n:=s.length) (by simp at hl2; omega) hlen2))),Z⟩
 rcases suf2 with _ | ⟨_,_⟩
 obtain rfl:=range_nil hL2
 refine W_exit (rj hR2 ⟨rfl,Z⟩)
 exact absurd (of_decide_eq_false hc3) (by simp at hl2; omega)
 intro f w_ hR
 obtain ⟨rfl,Z⟩:=rk hR2 hR
 refine sq (aI rfl (nn (W_ret (retG1 (v1:=I (-1)) Tryd.results104 rfl ?_))))
 obtain rfl:=so hF
 exact ⟨rfl,Z⟩
theorem slices_Contains_int_c {s : List Int} {v_ : Int} {v0 : Value} {H : FH} {w : World} (Z : Star H w []) (h0 : (rS 3 RP.int).rel H [v0] s) {r : Bool} (hF : slices_Contains_int s v_ = some r) :
 C Tryd.prog 83 #[v0,I v_] w fun v w'=>v = Bo r∧Star H w' []:=by
 unfold slices_Contains_int at hF
 refine C_enter Tryd.func83 rfl Tryd.ntmps83 rfl (sq (aB rfl (nq ?_)))
 obtain ⟨x6,hx6,hF⟩:=bind_some hF
 refine W_region (mV v0 rfl (mI rfl ?_))
 obtain ⟨H8b,l9,s10,z11,k12⟩:=Z.borrow
 refine L_call rfl Tryd.call104 (ops2 rfl rfl) (slices_Index_int_c (s:=s) (v_:=v_) s10 (RP.mono _ h0 l9) hx6) ?_
 rintro _ w13 ⟨rfl,Z⟩
 have Z:=k12 Z c0
 refine L_geq rfl rfl rfl (aB rfl (nn (W_ret (retG1 (v1:=Bo (decide (x6 ≥ 0))) Tryd.results83 rfl ?_))))
 obtain rfl:=so hF
 exact ⟨rfl,Z⟩
theorem slices_IndexFunc_int_c {s : List Int} {f_ : (Int→Option Bool)} {v0 : Value} {v1 : Value} {H : FH} {w : World} (Z : Star H w []) (h0 : (rS 3 RP.int).rel H [v0] s) (h1 : Fun1 Tryd.prog RP.int false Value.bool f_ v1 H) {r : Int} (hF : slices_IndexFunc_int s f_ = some r) :
 C Tryd.prog 105 #[v0,v1] w fun v w'=>v = I r∧Star H w' []:=by
 unfold slices_IndexFunc_int at hF
 obtain ⟨fid_1,caps_1,rfl,hcall_1,hc_1⟩:=h1
 refine C_enter Tryd.func105 rfl Tryd.ntmps105 rfl (sq (aI rfl (nq (sq (mV v0 rfl (L_len rfl Tryd.underlying23 rfl (slice_len h0) (mI rfl (nn ?_))))))))
 have hlen2 : List.length s≤9223372036854775807:=len_le (slice_len h0)
 obtain ⟨j2,hL2,hF⟩:=bind_some hF
 obtain ⟨R2,hR2⟩:=exR fun f w_=>j2 = .nx ()∧Star H w_ ([])
 refine W_join R2 ?_ ?_
 refine W_block ?_
 obtain ⟨I2,hI2⟩:=exI fun n f w_=>∃ i_1 : Nat,∃ suf2 : List Int,n = suf2.length∧List.drop i_1 s = suf2∧i_1 + suf2.length = s.length∧rangeL (slices_IndexFunc_int_b1 f_) suf2 i_1 () = some j2∧f 0 = v0∧f 1 = .func (.func fid_1) #[] caps_1∧f 7 = I (s.length : Int)∧f 8 = I i_1∧Star H w_ ([])
 refine W_loop I2 (n:=s.length) ?_ ?_
 exact ij hI2 ⟨0,s,rfl,rfl,Nat.zero_add _,hL2,rfl,rfl,rfl,rfl,Z⟩
 intro n2 f w_ hI
 obtain ⟨i_1,suf2,rfl,hd2,hl2,hL2,sf0,sf1,sf7,sf8,Z⟩:=ik hI2 hI
 refine sq (L_lss rfl sf8 sf7 (nq (W_cond (b:=decide ((i_1 : Int) < (s.length : Int))) rfl (fun hc3=>?_) (fun hc3=>?_))))
 have hlt2:=of_decide_eq_true hc3
 rcases suf2 with _ | ⟨x_2,rest2⟩
 exact absurd hlt2 (by simp at hl2; omega)
 obtain ⟨o2,hB2,hL2⟩:=range_cons hL2
 rw [slices_IndexFunc_int_b1] at hB2
 have hix2:=drop_idx hd2
 refine W_skip (W_seq (W_block (sq (mF sf8 rfl (aI rfl (nq ?_))))))
 obtain ⟨x8,hx8,hB2⟩:=bind_some hB2
 refine W_region (mF sf1 rfl (mF sf0 rfl (mI rfl (L_ix (r:=RP.int) rfl Tryd.underlying23 Tryd.sizeOf3 rfl h0 rfl hix2 (fun g15 o16 cs_g15 hrk_hat17 hat17=>?_)))))
 obtain rfl : _ = [_]:=hrk_hat17
 refine L_ld rfl Tryd.isAgg3 rfl (At.cell (AtH.at hat17 Z.sub) (j:=0) rfl) ?_
 obtain ⟨H19b,l20,s21,z22,k23⟩:=Z.borrow
 refine L_callv (args:=#[I x_2]) rfl hcall_1 rfl (ops1 rfl) (hc_1 _ _ l20 s21 [I x_2] _ _ _ rfl hx8 (args_app rfl)) ?_
 rintro _ w24 ⟨rfl,Z⟩
 have Z:=k23 Z c0
 refine nn (W_cond (b:=x8) rfl (fun hc25=>?_) (fun hc25=>?_))
 have hB2:=(ite_t hc25).symm.trans hB2
 refine sq (mI rfl (aI rfl (nn (W_ret (retG1 (v1:=I i_1) Tryd.results105 rfl ?_)))))
 obtain rfl:=so hB2
 obtain rfl:=so hL2
 obtain rfl:=so hF
 exact ⟨rfl,Z⟩
 have hB2:=(ite_f hc25).symm.trans hB2
 refine W_skip (W_region (L_add rfl sf8 rfl (mI rfl (nn ?_))))
 obtain rfl:=so hB2
 show ∃ m,m < _∧I2 m _ _
 refine ⟨rest2.length,by simp,?_⟩
 exact ij hI2 ⟨i_1 + 1,rest2,rfl,drop_next hd2,by simp at hl2; omega,hL2,sf0,sf1,sf7,(Eq.trans rfl (congrArg (Value.int .i64) (i64_succ (n:=s.length) (by simp at hl2; omega) hlen2))),Z⟩
 rcases suf2 with _ | ⟨_,_⟩
 obtain rfl:=range_nil hL2
 refine W_exit (rj hR2 ⟨rfl,Z⟩)
 exact absurd (of_decide_eq_false hc3) (by simp at hl2; omega)
 intro f w_ hR
 obtain ⟨rfl,Z⟩:=rk hR2 hR
 refine sq (aI rfl (nn (W_ret (retG1 (v1:=I (-1)) Tryd.results105 rfl ?_))))
 obtain rfl:=so hF
 exact ⟨rfl,Z⟩
theorem slices_ContainsFunc_int_c {s : List Int} {f_ : (Int→Option Bool)} {v0 : Value} {v1 : Value} {H : FH} {w : World} (Z : Star H w []) (h0 : (rS 3 RP.int).rel H [v0] s) (h1 : Fun1 Tryd.prog RP.int false Value.bool f_ v1 H) {r : Bool} (hF : slices_ContainsFunc_int s f_ = some r) :
 C Tryd.prog 84 #[v0,v1] w fun v w'=>v = Bo r∧Star H w' []:=by
 unfold slices_ContainsFunc_int at hF
 obtain ⟨fid_1,caps_1,rfl,hcall_1,hc_1⟩:=h1
 refine C_enter Tryd.func84 rfl Tryd.ntmps84 rfl (sq (aB rfl (nq ?_)))
 obtain ⟨x6,hx6,hF⟩:=bind_some hF
 refine W_region (mV v0 rfl (mV (.func (.func fid_1) #[] caps_1) rfl ?_))
 obtain ⟨H8b,l9,s10,z11,k12⟩:=Z.borrow
 refine L_call rfl Tryd.call105 (ops2 rfl rfl) (slices_IndexFunc_int_c (s:=s) (f_:=f_) s10 (RP.mono _ h0 l9) (Fun1.le ⟨_,_,rfl,hcall_1,hc_1⟩ l9) hx6) ?_
 rintro _ w13 ⟨rfl,Z⟩
 have Z:=k12 Z c0
 refine L_geq rfl rfl rfl (aB rfl (nn (W_ret (retG1 (v1:=Bo (decide (x6 ≥ 0))) Tryd.results84 rfl ?_))))
 obtain rfl:=so hF
 exact ⟨rfl,Z⟩
theorem i_ruleValid_1_c {n_ : Int} {H : FH} {w : World} (Z : Star H w []) {r : Bool} (hF : i_ruleValid_1 n_ = some r) :
 C Tryd.prog 85 #[I n_] w fun v w'=>v = Bo r∧Star H w' []:=by
 unfold i_ruleValid_1 at hF
 refine C_enter Tryd.func85 rfl Tryd.ntmps85 rfl (sq (aB rfl (nq ?_)))
 obtain ⟨b8,hb8,hF⟩:=bind_some hF
 obtain ⟨R9,hR9⟩:=exR fun f w_=>f 2 = Bo b8∧Star H w_ ([])
 refine W_join R9 ?_ ?_
 refine W_region (mI rfl (L_eql rfl rfl rfl (mB rfl (L_split (d:=5) (b:=(n_ == 0)) rfl (fun hc10=>?_) (fun hc10=>?_)))))
 rw [ite_t hc10] at hb8
 refine ps rfl (ps rfl (ps rfl (L_pick (v:=Bo b8) rfl rfl (congrArg Value.bool (so hb8)) (aB rfl (nn (rj hR9 ⟨rfl,Z⟩))))))
 rw [ite_f hc10] at hb8
 obtain ⟨x6,hx6,hb8⟩:=bind_some hb8
 refine mI rfl ?_
 obtain ⟨H11b,l12,s13,z14,k15⟩:=Z.borrow
 refine L_call rfl Tryd.call51 (ops3 rfl rfl rfl) (i_within_c (n_:=n_) (low:=(-9)) (high:=9) s13 hx6) ?_
 rintro _ w16 ⟨rfl,Z⟩
 have Z:=k15 Z c0
 refine L_not_ rfl rfl (L_pick (v:=Bo b8) rfl rfl (congrArg Value.bool (so hb8)) (aB rfl (nn (rj hR9 ⟨rfl,Z⟩))))
 intro f w_ hR
 obtain ⟨sf2,Z⟩:=rk hR9 hR
 refine W_ret (retG1 (v1:=Bo b8) Tryd.results85 sf2 ?_)
 obtain rfl:=so hF
 exact ⟨rfl,Z⟩
theorem slices_IndexFunc_Sint_c {s : List (List Int)} {f_ : ((List Int)→Option Bool)} {v0 : Value} {v1 : Value} {H : FH} {w : World} (Z : Star H w []) (h0 : (rS 23 (rS 3 RP.int)).rel H [v0] s) (h1 : Fun1 Tryd.prog (rS 3 RP.int) false Value.bool f_ v1 H) {r : Int} (hF : slices_IndexFunc_Sint s f_ = some r) :
 C Tryd.prog 106 #[v0,v1] w fun v w'=>v = I r∧Star H w' []:=by
 unfold slices_IndexFunc_Sint at hF
 obtain ⟨fid_1,caps_1,rfl,hcall_1,hc_1⟩:=h1
 refine C_enter Tryd.func106 rfl Tryd.ntmps106 rfl (sq (aI rfl (nq (sq (mV v0 rfl (L_len rfl Tryd.underlying52 rfl (slice_len h0) (mI rfl (nn ?_))))))))
 have hlen2 : List.length s≤9223372036854775807:=len_le (slice_len h0)
 obtain ⟨j2,hL2,hF⟩:=bind_some hF
 obtain ⟨R2,hR2⟩:=exR fun f w_=>j2 = .nx ()∧Star H w_ ([])
 refine W_join R2 ?_ ?_
 refine W_block ?_
 obtain ⟨I2,hI2⟩:=exI fun n f w_=>∃ i_1 : Nat,∃ suf2 : List (List Int),n = suf2.length∧List.drop i_1 s = suf2∧i_1 + suf2.length = s.length∧rangeL (slices_IndexFunc_Sint_b1 f_) suf2 i_1 () = some j2∧f 0 = v0∧f 1 = .func (.func fid_1) #[] caps_1∧f 7 = I (s.length : Int)∧f 8 = I i_1∧Star H w_ ([])
 refine W_loop I2 (n:=s.length) ?_ ?_
 exact ij hI2 ⟨0,s,rfl,rfl,Nat.zero_add _,hL2,rfl,rfl,rfl,rfl,Z⟩
 intro n2 f w_ hI
 obtain ⟨i_1,suf2,rfl,hd2,hl2,hL2,sf0,sf1,sf7,sf8,Z⟩:=ik hI2 hI
 refine sq (L_lss rfl sf8 sf7 (nq (W_cond (b:=decide ((i_1 : Int) < (s.length : Int))) rfl (fun hc3=>?_) (fun hc3=>?_))))
 have hlt2:=of_decide_eq_true hc3
 rcases suf2 with _ | ⟨x_2,rest2⟩
 exact absurd hlt2 (by simp at hl2; omega)
 obtain ⟨o2,hB2,hL2⟩:=range_cons hL2
 rw [slices_IndexFunc_Sint_b1] at hB2
 have hix2:=drop_idx hd2
 refine W_skip (W_seq (W_block (sq (mF sf8 rfl (aI rfl (nq ?_))))))
 obtain ⟨x8,hx8,hB2⟩:=bind_some hB2
 refine W_region (mF sf1 rfl (mF sf0 rfl (mI rfl (L_ix (r:=(rS 3 RP.int)) rfl Tryd.underlying52 Tryd.sizeOf23 rfl h0 rfl hix2 (fun g15 o16 cs_g15 hrk_hat17 hat17=>?_)))))
 obtain ⟨u18,rfl,hu18⟩:=slice1 hrk_hat17
 refine L_ld rfl Tryd.isAgg23 rfl (At.cell (AtH.at hat17 Z.sub) (j:=0) rfl) ?_
 obtain ⟨H19b,l20,s21,z22,k23⟩:=Z.borrow
 refine L_callv (args:=#[u18]) rfl hcall_1 rfl (ops1 rfl) (hc_1 _ _ l20 s21 [u18] _ _ _ (RP.mono _ hu18 l20) hx8 (args_app rfl)) ?_
 rintro _ w24 ⟨rfl,Z⟩
 have Z:=k23 Z c0
 refine nn (W_cond (b:=x8) rfl (fun hc25=>?_) (fun hc25=>?_))
 have hB2:=(ite_t hc25).symm.trans hB2
 refine sq (mI rfl (aI rfl (nn (W_ret (retG1 (v1:=I i_1) Tryd.results106 rfl ?_)))))
 obtain rfl:=so hB2
 obtain rfl:=so hL2
 obtain rfl:=so hF
 exact ⟨rfl,Z⟩
 have hB2:=(ite_f hc25).symm.trans hB2
 refine W_skip (W_region (L_add rfl sf8 rfl (mI rfl (nn ?_))))
 obtain rfl:=so hB2
 show ∃ m,m < _∧I2 m _ _
 refine ⟨rest2.length,by simp,?_⟩
 exact ij hI2 ⟨i_1 + 1,rest2,rfl,drop_next hd2,by simp at hl2; omega,hL2,sf0,sf1,sf7,(Eq.trans rfl (congrArg (Value.int .i64) (i64_succ (n:=s.length) (by simp at hl2; omega) hlen2))),Z⟩
 rcases suf2 with _ | ⟨_,_⟩
 obtain rfl:=range_nil hL2
 refine W_exit (rj hR2 ⟨rfl,Z⟩)
 exact absurd (of_decide_eq_false hc3) (by simp at hl2; omega)
 intro f w_ hR
 obtain ⟨rfl,Z⟩:=rk hR2 hR
 refine sq (aI rfl (nn (W_ret (retG1 (v1:=I (-1)) Tryd.results106 rfl ?_))))
 obtain rfl:=so hF
 exact ⟨rfl,Z⟩
theorem slices_ContainsFunc_Sint_c {s : List (List Int)} {f_ : ((List Int)→Option Bool)} {v0 : Value} {v1 : Value} {H : FH} {w : World} (Z : Star H w []) (h0 : (rS 23 (rS 3 RP.int)).rel H [v0] s) (h1 : Fun1 Tryd.prog (rS 3 RP.int) false Value.bool f_ v1 H) {r : Bool} (hF : slices_ContainsFunc_Sint s f_ = some r) :
 C Tryd.prog 86 #[v0,v1] w fun v w'=>v = Bo r∧Star H w' []:=by
 unfold slices_ContainsFunc_Sint at hF
 obtain ⟨fid_1,caps_1,rfl,hcall_1,hc_1⟩:=h1
 refine C_enter Tryd.func86 rfl Tryd.ntmps86 rfl (sq (aB rfl (nq ?_)))
 obtain ⟨x6,hx6,hF⟩:=bind_some hF
 refine W_region (mV v0 rfl (mV (.func (.func fid_1) #[] caps_1) rfl ?_))
 obtain ⟨H8b,l9,s10,z11,k12⟩:=Z.borrow
 refine L_call rfl Tryd.call106 (ops2 rfl rfl) (slices_IndexFunc_Sint_c (s:=s) (f_:=f_) s10 (RP.mono _ h0 l9) (Fun1.le ⟨_,_,rfl,hcall_1,hc_1⟩ l9) hx6) ?_
 rintro _ w13 ⟨rfl,Z⟩
 have Z:=k12 Z c0
 refine L_geq rfl rfl rfl (aB rfl (nn (W_ret (retG1 (v1:=Bo (decide (x6 ≥ 0))) Tryd.results86 rfl ?_))))
 obtain rfl:=so hF
 exact ⟨rfl,Z⟩
theorem i_ruleValid_2_1_c {n_ : Int} {H : FH} {w : World} (Z : Star H w []) {r : Bool} (hF : i_ruleValid_2_1 n_ = some r) :
 C Tryd.prog 88 #[I n_] w fun v w'=>v = Bo r∧Star H w' []:=by
 unfold i_ruleValid_2_1 at hF
 refine C_enter Tryd.func88 rfl Tryd.ntmps88 rfl (sq (aB rfl (nq ?_)))
 obtain ⟨x6,hx6,hF⟩:=bind_some hF
 refine W_region (mI rfl ?_)
 obtain ⟨H8b,l9,s10,z11,k12⟩:=Z.borrow
 refine L_call rfl Tryd.call51 (ops3 rfl rfl rfl) (i_within_c (n_:=n_) (low:=0) (high:=3) s10 hx6) ?_
 rintro _ w13 ⟨rfl,Z⟩
 have Z:=k12 Z c0
 refine L_not_ rfl rfl (aB rfl (nn (W_ret (retG1 (v1:=Bo (!x6)) Tryd.results88 rfl ?_))))
 obtain rfl:=so hF
 exact ⟨rfl,Z⟩
theorem i_ruleValid_2_c {c1 : Rule} {row : List Int} {v0 : Value} {g_c1 : Nat} {v1_1 : Value} {v1_2 : Value} {v1_4 : Value} {H : FH} {w : World} (Z : Star H w []) (h0 : (rS 3 RP.int).rel H [v0] row) (hat_g_c1 : AtH H g_c1 0 [I c1.kind,v1_1,v1_2,I c1.bound,v1_4]) (h1_1 : (rS 3 RP.int).rel H [v1_1] c1.vars) (h1_2 : (rS 3 RP.int).rel H [v1_2] c1.coefs) (h1_4 : (rS 23 (rS 3 RP.int)).rel H [v1_4] c1.rows) {r : Bool} (hF : i_ruleValid_2 c1 row = some r) :
 C Tryd.prog 87 #[v0,Pt g_c1] w fun v w'=>v = Bo r∧Star H w' []:=by
 unfold i_ruleValid_2 at hF
 refine C_enter Tryd.func87 rfl Tryd.ntmps87 rfl (sq (aB rfl (nq ?_)))
 obtain ⟨b8,hb8,hF⟩:=bind_some hF
 obtain ⟨R9,hR9⟩:=exR fun f w_=>f 3 = Bo b8∧Star H w_ ([])
 refine W_join R9 ?_ ?_
 refine W_region (mV v0 rfl (L_len rfl Tryd.underlying23 rfl (slice_len h0) (fA 1 fa_54_1 rfl rfl (L_ld rfl Tryd.isAgg23 rfl (At.cell0 (AtH.at hat_g_c1 Z.sub) (j:=1) rfl) (L_len rfl Tryd.underlying23 rfl (slice_len h1_1) (L_neq rfl rfl rfl (mB rfl (L_split (d:=10) (b:=((row.length : Int) != (c1.vars.length : Int))) rfl (fun hc10=>?_) (fun hc10=>?_)))))))))
 rw [ite_t hc10] at hb8
 refine ps rfl (ps rfl (L_pick (v:=Bo b8) rfl rfl (congrArg Value.bool (so hb8)) (aB rfl (nn (rj hR9 ⟨rfl,Z⟩)))))
 rw [ite_f hc10] at hb8
 obtain ⟨x6,hx6,hb8⟩:=bind_some hb8
 refine mV v0 rfl ?_
 obtain ⟨H11b,l12,s13,z14,k15⟩:=Z.borrow
 have hf16 : Fun1 Tryd.prog RP.int false Value.bool i_ruleValid_2_1 (.func (.func 88) #[] #[]) H11b:=by
   refine ⟨_,_,rfl,Tryd.call88,fun H_ w_ hE_ hs_ cs_ x_ y_ args_ hr_ hy_ ha_=>?_⟩
   obtain rfl : cs_ = [_]:=hr_
   obtain rfl:=args_of (b:=#[I x_]) ha_
   exact i_ruleValid_2_1_c (n_:=x_) hs_  hy_
 refine L_call rfl Tryd.call84 (ops2 rfl rfl) (slices_ContainsFunc_int_c (s:=row) (f_:=i_ruleValid_2_1) s13 (RP.mono _ h0 l12) hf16 hx6) ?_
 rintro _ w17 ⟨rfl,Z⟩
 have Z:=k15 Z c0
 refine L_pick (v:=Bo b8) rfl rfl (congrArg Value.bool (so hb8)) (aB rfl (nn (rj hR9 ⟨rfl,Z⟩)))
 intro f w_ hR
 obtain ⟨sf3,Z⟩:=rk hR9 hR
 refine W_ret (retG1 (v1:=Bo b8) Tryd.results87 sf3 ?_)
 obtain rfl:=so hF
 exact ⟨rfl,Z⟩
theorem i_ruleValid_c {r_ : Rule} {cells : Int} {v0_1 : Value} {v0_2 : Value} {v0_4 : Value} {H : FH} {w : World} (Z : Star H w []) (h0_1 : (rS 3 RP.int).rel H [v0_1] r_.vars) (h0_2 : (rS 3 RP.int).rel H [v0_2] r_.coefs) (h0_4 : (rS 23 (rS 3 RP.int)).rel H [v0_4] r_.rows) {r : Bool} (hF : i_ruleValid r_ cells = some r) :
 C Tryd.prog 54 #[.agg #[I r_.kind,v0_1,v0_2,I r_.bound,v0_4],I cells] w fun v w'=>v = Bo r∧Star H w' []:=by
 unfold i_ruleValid at hF
 refine C_enter Tryd.func54 rfl Tryd.ntmps54 rfl (sq (L_box (v:=.agg #[I r_.kind,v0_1,v0_2,I r_.bound,v0_4]) (cs:=#[I r_.kind,v0_1,v0_2,I r_.bound,v0_4]) rfl rfl rfl Z (fun g3 w4 Z=>aB rfl (nq (sq (fA 1 fa_54_1 rfl rfl (ldB 0 Z Tryd.isAgg23 rfl rfl rfl (L_len rfl Tryd.underlying23 rfl (slice_len h0_1) (mI rfl (nn ?_))))))))))
 have hlen6 : List.length r_.vars≤9223372036854775807:=len_le (slice_len h0_1)
 obtain ⟨j6,hL6,hF⟩:=bind_some hF
 obtain ⟨R6,hR6⟩:=exR fun f w_=>j6 = .nx ()∧f 2 = Pt g3∧Star H w_ ([box g3 54 #[I r_.kind,v0_1,v0_2,I r_.bound,v0_4]])
 refine W_join R6 ?_ ?_
 refine W_block ?_
 obtain ⟨I6,hI6⟩:=exI fun n f w_=>∃ i_5 : Nat,∃ suf6 : List Int,n = suf6.length∧List.drop i_5 r_.vars = suf6∧i_5 + suf6.length = r_.vars.length∧rangeL (i_ruleValid_b1 r_ cells) suf6 i_5 () = some j6∧f 1 = I cells∧f 2 = Pt g3∧f 8 = v0_1∧f 9 = I (r_.vars.length : Int)∧f 10 = I i_5∧Star H w_ ([box g3 54 #[I r_.kind,v0_1,v0_2,I r_.bound,v0_4]])
 refine W_loop I6 (n:=r_.vars.length) ?_ ?_
 exact ij hI6 ⟨0,r_.vars,rfl,rfl,Nat.zero_add _,hL6,rfl,rfl,rfl,rfl,rfl,Z⟩
 intro n6 f w_ hI
 obtain ⟨i_5,suf6,rfl,hd6,hl6,hL6,sf1,sf2,sf8,sf9,sf10,Z⟩:=ik hI6 hI
 refine sq (L_lss rfl sf10 sf9 (nq (W_cond (b:=decide ((i_5 : Int) < (r_.vars.length : Int))) rfl (fun hc7=>?_) (fun hc7=>?_))))
 have hlt6:=of_decide_eq_true hc7
 rcases suf6 with _ | ⟨x_6,rest6⟩
 exact absurd hlt6 (by simp at hl6; omega)
 obtain ⟨o6,hB6,hL6⟩:=range_cons hL6
 rw [i_ruleValid_b1] at hB6
 have hix6:=drop_idx hd6
 refine W_skip (W_seq (W_block (sq (mF sf10 rfl (L_ix (r:=RP.int) rfl Tryd.underlying23 Tryd.sizeOf3 sf8 h0_1 sf10 hix6 (fun g12 o13 cs_g12 hrk_hat14 hat14=>?_))))))
 obtain rfl : _ = [_]:=hrk_hat14
 refine L_ld rfl Tryd.isAgg3 rfl (At.cell (AtH.at hat14 Z.sub) (j:=0) rfl) (aI rfl (aI rfl (nq ?_)))
 obtain ⟨x21,hx21,hB6⟩:=bind_some hB6
 obtain ⟨b33,hb33,hB6⟩:=bind_some hB6
 obtain ⟨R34,hR34⟩:=exR fun f w_=>f 1 = I cells∧f 2 = Pt g3∧f 8 = v0_1∧f 9 = I (r_.vars.length : Int)∧f 10 = I i_5∧f 27 = Bo b33∧Star H w_ ([box g3 54 #[I r_.kind,v0_1,v0_2,I r_.bound,v0_4]])
 refine W_join R34 ?_ ?_
 refine W_region (mI rfl (mF sf1 rfl (L_sub rfl rfl rfl ?_)))
 obtain ⟨H35b,l36,s37,z38,k39⟩:=Z.borrow
 refine L_call rfl Tryd.call51 (ops3 rfl rfl rfl) (i_within_c (n_:=x_6) (low:=0) (high:=i64 (cells - 1)) s37 hx21) ?_
 rintro _ w40 ⟨rfl,Z⟩
 have Z:=k39 Z c0
 refine L_not_ rfl rfl (mB rfl (L_split (d:=20) (b:=(!x21)) rfl (fun hc41=>?_) (fun hc41=>?_)))
 rw [ite_t hc41] at hb33
 refine ps rfl (ps rfl (ps rfl (ps rfl (ps rfl (ps rfl (L_pick (v:=Bo b33) rfl rfl (congrArg Value.bool (so hb33)) (nn (rj hR34 ⟨sf1,sf2,sf8,sf9,sf10,rfl,Z⟩))))))))
 rw [ite_f hc41] at hb33
 obtain ⟨x23,hx23,hb33⟩:=bind_some hb33
 obtain ⟨x31,hx31,hb33⟩:=bind_some hb33
 refine fA 1 fa_54_1 sf2 rfl (ldB 0 Z Tryd.isAgg23 rfl rfl rfl (mI rfl (L_sl (a:=0) (b:=(i_5 : Int)) rfl et_23 rfl h0_1 rfl rfl hx23 (fun v42 hs43=>mI rfl ?_))))
 obtain ⟨H44b,l45,s46,z47,k48⟩:=Z.borrow
 refine L_call rfl Tryd.call83 (ops2 rfl rfl) (slices_Contains_int_c (s:=x23) (v_:=x_6) s46 (RP.mono _ hs43 l45) hx31) ?_
 rintro _ w49 ⟨rfl,Z⟩
 have Z:=k48 Z c0
 refine L_pick (v:=Bo b33) rfl rfl (congrArg Value.bool (so hb33)) (nn (rj hR34 ⟨sf1,sf2,sf8,sf9,sf10,rfl,Z⟩))
 intro f w_ hR
 obtain ⟨sf1,sf2,sf8,sf9,sf10,sf27,Z⟩:=rk hR34 hR
 refine W_cond (b:=b33) sf27 (fun hc50=>?_) (fun hc50=>?_)
 have hB6:=(ite_t hc50).symm.trans hB6
 refine sq (aB rfl (nn (W_ret (retG1 (v1:=Bo false) Tryd.results54 rfl ?_))))
 obtain rfl:=so hB6
 obtain rfl:=so hL6
 obtain rfl:=so hF
 exact ⟨rfl,(Star.keepN 0 Z)⟩
 have hB6:=(ite_f hc50).symm.trans hB6
 refine W_skip (W_region (L_add rfl sf10 rfl (mI rfl (nn ?_))))
 obtain rfl:=so hB6
 show ∃ m,m < _∧I6 m _ _
 refine ⟨rest6.length,by simp,?_⟩
 exact ij hI6 ⟨i_5 + 1,rest6,rfl,drop_next hd6,by simp at hl6; omega,hL6,sf1,sf2,sf8,sf9,(Eq.trans rfl (congrArg (Value.int .i64) (i64_succ (n:=r_.vars.length) (by simp at hl6; omega) hlen6))),Z⟩
 rcases suf6 with _ | ⟨_,_⟩
 obtain rfl:=range_nil hL6
 refine W_exit (rj hR6 ⟨rfl,sf2,Z⟩)
 exact absurd (of_decide_eq_false hc7) (by simp at hl6; omega)
 intro f w_ hR
 obtain ⟨rfl,sf2,Z⟩:=rk hR6 hR
 refine W_seq (W_seq ?_)
 obtain ⟨R51,hR51⟩:=exR fun f w_=>f 2 = Pt g3∧f 59 = Bo ((((r_.vars.length : Int) == 0) || ((r_.kind != 1) && ((decide ((r_.coefs.length : Int) > 0)) || (r_.bound != 0)))) || ((r_.kind != 3) && (decide ((r_.rows.length : Int) > 0))))∧Star H w_ ([box g3 54 #[I r_.kind,v0_1,v0_2,I r_.bound,v0_4]])
 refine W_join R51 ?_ ?_
 refine W_region (fA 1 fa_54_1 sf2 rfl (ldB 0 Z Tryd.isAgg23 rfl rfl rfl (L_len rfl Tryd.underlying23 rfl (slice_len h0_1) (L_eql rfl rfl rfl (mB rfl (L_split (d:=33) (b:=((r_.vars.length : Int) == 0)) rfl (fun hc52=>?_) (fun hc52=>?_)))))))
 refine ps rfl (ps rfl (ps rfl (ps rfl (ps rfl (ps rfl (ps rfl (ps rfl (ps rfl (ps rfl (ps rfl (ps rfl (ps rfl (ps rfl (L_pick (v:=Bo (((r_.vars.length : Int) == 0) || ((r_.kind != 1) && ((decide ((r_.coefs.length : Int) > 0)) || (r_.bound != 0))))) rfl rfl (or_t hc52) (mB rfl (L_split (d:=49) (b:=(((r_.vars.length : Int) == 0) || ((r_.kind != 1) && ((decide ((r_.coefs.length : Int) > 0)) || (r_.bound != 0))))) rfl (fun hc53=>?_) (fun hc53=>?_)))))))))))))))))
 refine ps rfl (ps rfl (ps rfl (ps rfl (ps rfl (ps rfl (ps rfl (ps rfl (ps rfl (L_pick (v:=Bo ((((r_.vars.length : Int) == 0) || ((r_.kind != 1) && ((decide ((r_.coefs.length : Int) > 0)) || (r_.bound != 0)))) || ((r_.kind != 3) && (decide ((r_.rows.length : Int) > 0))))) rfl rfl (or_t hc53) (nn (rj hR51 ⟨sf2,rfl,Z⟩)))))))))))
 refine fA 0 fa_54_0 sf2 rfl (ldB 0 Z Tryd.isAgg3 rfl rfl rfl (L_neq rfl rfl rfl (mB rfl (L_split (d:=53) (b:=(r_.kind != 3)) rfl (fun hc54=>?_) (fun hc54=>?_)))))
 refine fA 4 fa_54_4 sf2 rfl (ldB 0 Z Tryd.isAgg52 rfl rfl rfl (L_len rfl Tryd.underlying52 rfl (slice_len h0_4) (L_gtr rfl rfl rfl (L_pick (v:=Bo ((r_.kind != 3) && (decide ((r_.rows.length : Int) > 0)))) rfl rfl (and_t hc54 rfl) (L_pick (v:=Bo ((((r_.vars.length : Int) == 0) || ((r_.kind != 1) && ((decide ((r_.coefs.length : Int) > 0)) || (r_.bound != 0)))) || ((r_.kind != 3) && (decide ((r_.rows.length : Int) > 0))))) rfl rfl (or_f hc53 rfl) (nn (rj hR51 ⟨sf2,rfl,Z⟩)))))))
 refine ps rfl (ps rfl (ps rfl (ps rfl (L_pick (v:=Bo ((r_.kind != 3) && (decide ((r_.rows.length : Int) > 0)))) rfl rfl (and_f hc54) (L_pick (v:=Bo ((((r_.vars.length : Int) == 0) || ((r_.kind != 1) && ((decide ((r_.coefs.length : Int) > 0)) || (r_.bound != 0)))) || ((r_.kind != 3) && (decide ((r_.rows.length : Int) > 0))))) rfl rfl (or_f hc53 rfl) (nn (rj hR51 ⟨sf2,rfl,Z⟩)))))))
 refine fA 0 fa_54_0 sf2 rfl (ldB 0 Z Tryd.isAgg3 rfl rfl rfl (L_neq rfl rfl rfl (mB rfl (L_split (d:=37) (b:=(r_.kind != 1)) rfl (fun hc55=>?_) (fun hc55=>?_)))))
 refine fA 2 fa_54_2 sf2 rfl (ldB 0 Z Tryd.isAgg23 rfl rfl rfl (L_len rfl Tryd.underlying23 rfl (slice_len h0_2) (L_gtr rfl rfl rfl (mB rfl (L_split (d:=42) (b:=decide ((r_.coefs.length : Int) > 0)) rfl (fun hc56=>?_) (fun hc56=>?_))))))
 refine ps rfl (ps rfl (ps rfl (L_pick (v:=Bo ((decide ((r_.coefs.length : Int) > 0)) || (r_.bound != 0))) rfl rfl (or_t hc56) (L_pick (v:=Bo ((r_.kind != 1) && ((decide ((r_.coefs.length : Int) > 0)) || (r_.bound != 0)))) rfl rfl (and_t hc55 rfl) (L_pick (v:=Bo (((r_.vars.length : Int) == 0) || ((r_.kind != 1) && ((decide ((r_.coefs.length : Int) > 0)) || (r_.bound != 0))))) rfl rfl (or_f hc52 rfl) (mB rfl (L_split (d:=49) (b:=(((r_.vars.length : Int) == 0) || ((r_.kind != 1) && ((decide ((r_.coefs.length : Int) > 0)) || (r_.bound != 0))))) rfl (fun hc57=>?_) (fun hc57=>?_))))))))
 refine ps rfl (ps rfl (ps rfl (ps rfl (ps rfl (ps rfl (ps rfl (ps rfl (ps rfl (L_pick (v:=Bo ((((r_.vars.length : Int) == 0) || ((r_.kind != 1) && ((decide ((r_.coefs.length : Int) > 0)) || (r_.bound != 0)))) || ((r_.kind != 3) && (decide ((r_.rows.length : Int) > 0))))) rfl rfl (or_t hc57) (nn (rj hR51 ⟨sf2,rfl,Z⟩)))))))))))
 refine fA 0 fa_54_0 sf2 rfl (ldB 0 Z Tryd.isAgg3 rfl rfl rfl (L_neq rfl rfl rfl (mB rfl (L_split (d:=53) (b:=(r_.kind != 3)) rfl (fun hc58=>?_) (fun hc58=>?_)))))
 refine fA 4 fa_54_4 sf2 rfl (ldB 0 Z Tryd.isAgg52 rfl rfl rfl (L_len rfl Tryd.underlying52 rfl (slice_len h0_4) (L_gtr rfl rfl rfl (L_pick (v:=Bo ((r_.kind != 3) && (decide ((r_.rows.length : Int) > 0)))) rfl rfl (and_t hc58 rfl) (L_pick (v:=Bo ((((r_.vars.length : Int) == 0) || ((r_.kind != 1) && ((decide ((r_.coefs.length : Int) > 0)) || (r_.bound != 0)))) || ((r_.kind != 3) && (decide ((r_.rows.length : Int) > 0))))) rfl rfl (or_f hc57 rfl) (nn (rj hR51 ⟨sf2,rfl,Z⟩)))))))
 refine ps rfl (ps rfl (ps rfl (ps rfl (L_pick (v:=Bo ((r_.kind != 3) && (decide ((r_.rows.length : Int) > 0)))) rfl rfl (and_f hc58) (L_pick (v:=Bo ((((r_.vars.length : Int) == 0) || ((r_.kind != 1) && ((decide ((r_.coefs.length : Int) > 0)) || (r_.bound != 0)))) || ((r_.kind != 3) && (decide ((r_.rows.length : Int) > 0))))) rfl rfl (or_f hc57 rfl) (nn (rj hR51 ⟨sf2,rfl,Z⟩)))))))
 refine fA 3 fa_54_3 sf2 rfl (ldB 0 Z Tryd.isAgg3 rfl rfl rfl (L_neq rfl rfl rfl (L_pick (v:=Bo ((decide ((r_.coefs.length : Int) > 0)) || (r_.bound != 0))) rfl rfl (or_f hc56 rfl) (L_pick (v:=Bo ((r_.kind != 1) && ((decide ((r_.coefs.length : Int) > 0)) || (r_.bound != 0)))) rfl rfl (and_t hc55 rfl) (L_pick (v:=Bo (((r_.vars.length : Int) == 0) || ((r_.kind != 1) && ((decide ((r_.coefs.length : Int) > 0)) || (r_.bound != 0))))) rfl rfl (or_f hc52 rfl) (mB rfl (L_split (d:=49) (b:=(((r_.vars.length : Int) == 0) || ((r_.kind != 1) && ((decide ((r_.coefs.length : Int) > 0)) || (r_.bound != 0))))) rfl (fun hc59=>?_) (fun hc59=>?_))))))))
 refine ps rfl (ps rfl (ps rfl (ps rfl (ps rfl (ps rfl (ps rfl (ps rfl (ps rfl (L_pick (v:=Bo ((((r_.vars.length : Int) == 0) || ((r_.kind != 1) && ((decide ((r_.coefs.length : Int) > 0)) || (r_.bound != 0)))) || ((r_.kind != 3) && (decide ((r_.rows.length : Int) > 0))))) rfl rfl (or_t hc59) (nn (rj hR51 ⟨sf2,rfl,Z⟩)))))))))))
 refine fA 0 fa_54_0 sf2 rfl (ldB 0 Z Tryd.isAgg3 rfl rfl rfl (L_neq rfl rfl rfl (mB rfl (L_split (d:=53) (b:=(r_.kind != 3)) rfl (fun hc60=>?_) (fun hc60=>?_)))))
 refine fA 4 fa_54_4 sf2 rfl (ldB 0 Z Tryd.isAgg52 rfl rfl rfl (L_len rfl Tryd.underlying52 rfl (slice_len h0_4) (L_gtr rfl rfl rfl (L_pick (v:=Bo ((r_.kind != 3) && (decide ((r_.rows.length : Int) > 0)))) rfl rfl (and_t hc60 rfl) (L_pick (v:=Bo ((((r_.vars.length : Int) == 0) || ((r_.kind != 1) && ((decide ((r_.coefs.length : Int) > 0)) || (r_.bound != 0)))) || ((r_.kind != 3) && (decide ((r_.rows.length : Int) > 0))))) rfl rfl (or_f hc59 rfl) (nn (rj hR51 ⟨sf2,rfl,Z⟩)))))))
 refine ps rfl (ps rfl (ps rfl (ps rfl (L_pick (v:=Bo ((r_.kind != 3) && (decide ((r_.rows.length : Int) > 0)))) rfl rfl (and_f hc60) (L_pick (v:=Bo ((((r_.vars.length : Int) == 0) || ((r_.kind != 1) && ((decide ((r_.coefs.length : Int) > 0)) || (r_.bound != 0)))) || ((r_.kind != 3) && (decide ((r_.rows.length : Int) > 0))))) rfl rfl (or_f hc59 rfl) (nn (rj hR51 ⟨sf2,rfl,Z⟩)))))))
 refine ps rfl (ps rfl (ps rfl (ps rfl (ps rfl (ps rfl (ps rfl (ps rfl (ps rfl (L_pick (v:=Bo ((r_.kind != 1) && ((decide ((r_.coefs.length : Int) > 0)) || (r_.bound != 0)))) rfl rfl (and_f hc55) (L_pick (v:=Bo (((r_.vars.length : Int) == 0) || ((r_.kind != 1) && ((decide ((r_.coefs.length : Int) > 0)) || (r_.bound != 0))))) rfl rfl (or_f hc52 rfl) (mB rfl (L_split (d:=49) (b:=(((r_.vars.length : Int) == 0) || ((r_.kind != 1) && ((decide ((r_.coefs.length : Int) > 0)) || (r_.bound != 0))))) rfl (fun hc61=>?_) (fun hc61=>?_)))))))))))))
 refine ps rfl (ps rfl (ps rfl (ps rfl (ps rfl (ps rfl (ps rfl (ps rfl (ps rfl (L_pick (v:=Bo ((((r_.vars.length : Int) == 0) || ((r_.kind != 1) && ((decide ((r_.coefs.length : Int) > 0)) || (r_.bound != 0)))) || ((r_.kind != 3) && (decide ((r_.rows.length : Int) > 0))))) rfl rfl (or_t hc61) (nn (rj hR51 ⟨sf2,rfl,Z⟩)))))))))))
 refine fA 0 fa_54_0 sf2 rfl (ldB 0 Z Tryd.isAgg3 rfl rfl rfl (L_neq rfl rfl rfl (mB rfl (L_split (d:=53) (b:=(r_.kind != 3)) rfl (fun hc62=>?_) (fun hc62=>?_)))))
 refine fA 4 fa_54_4 sf2 rfl (ldB 0 Z Tryd.isAgg52 rfl rfl rfl (L_len rfl Tryd.underlying52 rfl (slice_len h0_4) (L_gtr rfl rfl rfl (L_pick (v:=Bo ((r_.kind != 3) && (decide ((r_.rows.length : Int) > 0)))) rfl rfl (and_t hc62 rfl) (L_pick (v:=Bo ((((r_.vars.length : Int) == 0) || ((r_.kind != 1) && ((decide ((r_.coefs.length : Int) > 0)) || (r_.bound != 0)))) || ((r_.kind != 3) && (decide ((r_.rows.length : Int) > 0))))) rfl rfl (or_f hc61 rfl) (nn (rj hR51 ⟨sf2,rfl,Z⟩)))))))
 refine ps rfl (ps rfl (ps rfl (ps rfl (L_pick (v:=Bo ((r_.kind != 3) && (decide ((r_.rows.length : Int) > 0)))) rfl rfl (and_f hc62) (L_pick (v:=Bo ((((r_.vars.length : Int) == 0) || ((r_.kind != 1) && ((decide ((r_.coefs.length : Int) > 0)) || (r_.bound != 0)))) || ((r_.kind != 3) && (decide ((r_.rows.length : Int) > 0))))) rfl rfl (or_f hc61 rfl) (nn (rj hR51 ⟨sf2,rfl,Z⟩)))))))
 intro f w_ hR
 obtain ⟨sf2,sf59,Z⟩:=rk hR51 hR
 refine W_cond (b:=((((r_.vars.length : Int) == 0) || ((r_.kind != 1) && ((decide ((r_.coefs.length : Int) > 0)) || (r_.bound != 0)))) || ((r_.kind != 3) && (decide ((r_.rows.length : Int) > 0))))) sf59 (fun hc63=>?_) (fun hc63=>?_)
 have hF:=(ite_t hc63).symm.trans hF
 refine sq (aB rfl (nn (W_ret (retG1 (v1:=Bo false) Tryd.results54 rfl ?_))))
 obtain rfl:=so hF
 exact ⟨rfl,(Star.keepN 0 Z)⟩
 have hF:=(ite_f hc63).symm.trans hF
 refine W_skip (W_seq (sq (fA 0 fa_54_0 sf2 rfl (ldB 0 Z Tryd.isAgg3 rfl rfl rfl (nn (W_block (sq (L_eql rfl rfl rfl (aB rfl (nn (W_cond (b:=(r_.kind == 1)) rfl (fun hc64=>?_) (fun hc64=>?_))))))))))))
 have hF:=(ite_t hc64).symm.trans hF
 refine W_seq ?_
 obtain ⟨b72,hb72,hF⟩:=bind_some hF
 obtain ⟨b80,hb80,hF⟩:=bind_some hF
 obtain ⟨R81,hR81⟩:=exR fun f w_=>f 4 = Bo b80∧Star H w_ ([])
 refine W_join R81 ?_ ?_
 refine W_region (fA 2 fa_54_2 sf2 rfl (ldB 0 Z Tryd.isAgg23 rfl rfl rfl (L_len rfl Tryd.underlying23 rfl (slice_len h0_2) (fA 1 fa_54_1 sf2 rfl (ldB 0 Z Tryd.isAgg23 rfl rfl rfl (L_len rfl Tryd.underlying23 rfl (slice_len h0_1) (L_eql rfl rfl rfl (mB rfl (L_split (d:=71) (b:=((r_.coefs.length : Int) == (r_.vars.length : Int))) rfl (fun hc82=>?_) (fun hc82=>?_))))))))))
 rw [ite_t hc82] at hb72
 obtain ⟨x70,hx70,hb72⟩:=bind_some hb72
 refine fA 3 fa_54_3 sf2 rfl (ldB 0 Z Tryd.isAgg3 rfl rfl rfl ?_)
 obtain ⟨H83b,l84,s85,z86,k87⟩:=Z.borrow
 refine L_call rfl Tryd.call51 (ops3 rfl rfl rfl) (i_within_c (n_:=r_.bound) (low:=(-1000)) (high:=1000) s85 hx70) ?_
 rintro _ w88 ⟨rfl,Z⟩
 have Z:=k87 Z c0
 refine L_pick (v:=Bo b72) rfl rfl (congrArg Value.bool (so hb72)) (mB rfl (L_split (d:=76) (b:=b72) rfl (fun hc89=>?_) (fun hc89=>?_)))
 rw [ite_t hc89] at hb80
 obtain ⟨x78,hx78,hb80⟩:=bind_some hb80
 refine fA 2 fa_54_2 sf2 rfl (ldB 0 Z Tryd.isAgg23 rfl rfl rfl ?_)
 obtain ⟨H90b,l91,s92,z93,k94⟩:=Z.borrow
 have hf95 : Fun1 Tryd.prog RP.int false Value.bool i_ruleValid_1 (.func (.func 85) #[] #[]) H90b:=by
   refine ⟨_,_,rfl,Tryd.call85,fun H_ w_ hE_ hs_ cs_ x_ y_ args_ hr_ hy_ ha_=>?_⟩
   obtain rfl : cs_ = [_]:=hr_
   obtain rfl:=args_of (b:=#[I x_]) ha_
   exact i_ruleValid_1_c (n_:=x_) hs_  hy_
 refine L_call rfl Tryd.call84 (ops2 rfl rfl) (slices_ContainsFunc_int_c (s:=r_.coefs) (f_:=i_ruleValid_1) s92 (RP.mono _ h0_2 l91) hf95 hx78) ?_
 rintro _ w96 ⟨rfl,Z⟩
 have Z:=k94 Z c0
 refine L_not_ rfl rfl (L_pick (v:=Bo b80) rfl rfl (congrArg Value.bool (so hb80)) (aB rfl (nn (rj hR81 ⟨rfl,(Star.keepN 0 Z)⟩))))
 rw [ite_f hc89] at hb80
 refine ps rfl (ps rfl (ps rfl (ps rfl (L_pick (v:=Bo b80) rfl rfl (congrArg Value.bool (so hb80)) (aB rfl (nn (rj hR81 ⟨rfl,(Star.keepN 0 Z)⟩)))))))
 rw [ite_f hc82] at hb72
 refine ps rfl (ps rfl (ps rfl (L_pick (v:=Bo b72) rfl rfl (congrArg Value.bool (so hb72)) (mB rfl (L_split (d:=76) (b:=b72) rfl (fun hc97=>?_) (fun hc97=>?_))))))
 rw [ite_t hc97] at hb80
 obtain ⟨x78,hx78,hb80⟩:=bind_some hb80
 refine fA 2 fa_54_2 sf2 rfl (ldB 0 Z Tryd.isAgg23 rfl rfl rfl ?_)
 obtain ⟨H98b,l99,s100,z101,k102⟩:=Z.borrow
 have hf103 : Fun1 Tryd.prog RP.int false Value.bool i_ruleValid_1 (.func (.func 85) #[] #[]) H98b:=by
   refine ⟨_,_,rfl,Tryd.call85,fun H_ w_ hE_ hs_ cs_ x_ y_ args_ hr_ hy_ ha_=>?_⟩
   obtain rfl : cs_ = [_]:=hr_
   obtain rfl:=args_of (b:=#[I x_]) ha_
   exact i_ruleValid_1_c (n_:=x_) hs_  hy_
 refine L_call rfl Tryd.call84 (ops2 rfl rfl) (slices_ContainsFunc_int_c (s:=r_.coefs) (f_:=i_ruleValid_1) s100 (RP.mono _ h0_2 l99) hf103 hx78) ?_
 rintro _ w104 ⟨rfl,Z⟩
 have Z:=k102 Z c0
 refine L_not_ rfl rfl (L_pick (v:=Bo b80) rfl rfl (congrArg Value.bool (so hb80)) (aB rfl (nn (rj hR81 ⟨rfl,(Star.keepN 0 Z)⟩))))
 rw [ite_f hc97] at hb80
 refine ps rfl (ps rfl (ps rfl (ps rfl (L_pick (v:=Bo b80) rfl rfl (congrArg Value.bool (so hb80)) (aB rfl (nn (rj hR81 ⟨rfl,(Star.keepN 0 Z)⟩)))))))
 intro f w_ hR
 obtain ⟨sf4,Z⟩:=rk hR81 hR
 refine W_ret (retG1 (v1:=Bo b80) Tryd.results54 sf4 ?_)
 obtain rfl:=so hF
 exact ⟨rfl,Z⟩
 have hF:=(ite_f hc64).symm.trans hF
 refine sq (L_eql rfl rfl rfl (aB rfl (nn (W_cond (b:=(r_.kind == 3)) rfl (fun hc105=>?_) (fun hc105=>?_)))))
 have hF:=(ite_t hc105).symm.trans hF
 refine W_seq ?_
 obtain ⟨b113,hb113,hF⟩:=bind_some hF
 obtain ⟨R114,hR114⟩:=exR fun f w_=>f 4 = Bo b113∧Star H w_ ([])
 refine W_join R114 ?_ ?_
 refine W_region (fA 4 fa_54_4 sf2 rfl (ldB 0 Z Tryd.isAgg52 rfl rfl rfl (L_len rfl Tryd.underlying52 rfl (slice_len h0_4) (L_leq rfl rfl rfl (mB rfl (L_split (d:=88) (b:=decide ((r_.rows.length : Int)≤8)) rfl (fun hc115=>?_) (fun hc115=>?_)))))))
 rw [ite_t hc115] at hb113
 obtain ⟨x111,hx111,hb113⟩:=bind_some hb113
 refine fA 4 fa_54_4 sf2 rfl (ldB 0 Z Tryd.isAgg52 rfl rfl rfl (L_mf rfl (ops1 sf2) ?_))
 obtain ⟨H116b,l117,s118,z119,k120⟩:=Z.borrow
 have hf121 : Fun1 Tryd.prog (rS 3 RP.int) false Value.bool (i_ruleValid_2 r_) (.func (.func 87) #[] #[Pt g3]) H116b:=by
   refine ⟨_,_,rfl,Tryd.call87,fun H_ w_ hE_ hs_ cs_ x_ y_ args_ hr_ hy_ ha_=>?_⟩
   obtain ⟨p_0,rfl,hp_0⟩:=slice1 hr_
   obtain rfl:=args_of (b:=#[p_0,Pt g3]) ha_
   exact i_ruleValid_2_c (c1:=r_) (row:=x_) hs_ hp_0 (AtH.le (AtH.of (fz_box 0 z119 rfl)) hE_) (RP.mono _ (RP.mono _ h0_1 l117) hE_) (RP.mono _ (RP.mono _ h0_2 l117) hE_) (RP.mono _ (RP.mono _ h0_4 l117) hE_) hy_
 refine L_call rfl Tryd.call86 (ops2 rfl rfl) (slices_ContainsFunc_Sint_c (s:=r_.rows) (f_:=(i_ruleValid_2 r_)) s118 (RP.mono _ h0_4 l117) hf121 hx111) ?_
 rintro _ w122 ⟨rfl,Z⟩
 have Z:=k120 Z c0
 refine L_not_ rfl rfl (L_pick (v:=Bo b113) rfl rfl (congrArg Value.bool (so hb113)) (aB rfl (nn (rj hR114 ⟨rfl,(Star.keepN 0 Z)⟩))))
 rw [ite_f hc115] at hb113
 refine ps rfl (ps rfl (ps rfl (ps rfl (ps rfl (L_pick (v:=Bo b113) rfl rfl (congrArg Value.bool (so hb113)) (aB rfl (nn (rj hR114 ⟨rfl,(Star.keepN 0 Z)⟩))))))))
 intro f w_ hR
 obtain ⟨sf4,Z⟩:=rk hR114 hR
 refine W_ret (retG1 (v1:=Bo b113) Tryd.results54 sf4 ?_)
 obtain rfl:=so hF
 exact ⟨rfl,Z⟩
 have hF:=(ite_f hc105).symm.trans hF
 refine sq (L_eql rfl rfl rfl (aB rfl (nn (W_cond (b:=(r_.kind == 4)) rfl (fun hc123=>?_) (fun hc123=>?_)))))
 have hF:=(ite_t hc123).symm.trans hF
 refine sq (fA 1 fa_54_1 sf2 rfl (ldB 0 Z Tryd.isAgg23 rfl rfl rfl (L_len rfl Tryd.underlying23 rfl (slice_len h0_1) (L_eql rfl rfl rfl (aB rfl (nn (W_ret (retG1 (v1:=Bo ((r_.vars.length : Int) == 2)) Tryd.results54 rfl ?_))))))))
 obtain rfl:=so hF
 exact ⟨rfl,(Star.keepN 0 Z)⟩
 have hF:=(ite_f hc123).symm.trans hF
 refine W_skip (sq (fA 0 fa_54_0 sf2 rfl (ldB 0 Z Tryd.isAgg3 rfl rfl rfl (L_eql rfl rfl rfl (aB rfl (nn (W_ret (retG1 (v1:=Bo (r_.kind == 2)) Tryd.results54 rfl ?_))))))))
 obtain rfl:=so hF
 exact ⟨rfl,(Star.keepN 0 Z)⟩
theorem i_ModelValid_1_c {c1 : Model} {r_ : Rule} {v0_1 : Value} {v0_2 : Value} {v0_4 : Value} {g_c1 : Nat} {v1_0 : Value} {v1_1 : Value} {H : FH} {w : World} (Z : Star H w []) (h0_1 : (rS 3 RP.int).rel H [v0_1] r_.vars) (h0_2 : (rS 3 RP.int).rel H [v0_2] r_.coefs) (h0_4 : (rS 23 (rS 3 RP.int)).rel H [v0_4] r_.rows) (hat_g_c1 : AtH H g_c1 0 [v1_0,v1_1]) (h1_0 : (rS 3 RP.int).rel H [v1_0] c1.sizes) (h1_1 : (rS 54 (rRule 3 23)).rel H [v1_1] c1.rules) {r : Bool} (hF : i_ModelValid_1 c1 r_ = some r) :
 C Tryd.prog 53 #[.agg #[I r_.kind,v0_1,v0_2,I r_.bound,v0_4],Pt g_c1] w fun v w'=>v = Bo r∧Star H w' []:=by
 unfold i_ModelValid_1 at hF
 refine C_enter Tryd.func53 rfl Tryd.ntmps53 rfl (sq (L_box (v:=.agg #[I r_.kind,v0_1,v0_2,I r_.bound,v0_4]) (cs:=#[I r_.kind,v0_1,v0_2,I r_.bound,v0_4]) rfl rfl rfl Z (fun g3 w4 Z=>aB rfl (nq ?_))))
 obtain ⟨x10,hx10,hF⟩:=bind_some hF
 refine W_region (L_lda (cs:=[I r_.kind,v0_1,v0_2,I r_.bound,v0_4]) rfl Tryd.isAgg54 Tryd.sizeOf54 rfl (At.sub0 (Blk.at (Star.blkAt 0 Z rfl)) 0 5) rfl (fA 0 fa_26_0 rfl rfl (L_ld rfl Tryd.isAgg23 rfl (At.cell0 (AtH.at hat_g_c1 Z.sub) (j:=0) rfl) (L_len rfl Tryd.underlying23 rfl (slice_len h1_0) ?_))))
 obtain ⟨H12b,l13,s14,z15,k16⟩:=Z.borrow
 refine L_call rfl Tryd.call54 (ops2 rfl rfl) (i_ruleValid_c (r_:=r_) (cells:=(c1.sizes.length : Int)) s14 (RP.mono _ h0_1 l13) (RP.mono _ h0_2 l13) (RP.mono _ h0_4 l13) hx10) ?_
 rintro _ w17 ⟨rfl,Z⟩
 have Z:=k16 Z c0
 refine L_not_ rfl rfl (aB rfl (nn (W_ret (retG1 (v1:=Bo (!x10)) Tryd.results53 rfl ?_))))
 obtain rfl:=so hF
 exact ⟨rfl,(Star.keepN 0 Z)⟩
theorem i_ModelValid_c {m : Model} {v0_0 : Value} {v0_1 : Value} {H : FH} {w : World} (Z : Star H w []) (h0_0 : (rS 3 RP.int).rel H [v0_0] m.sizes) (h0_1 : (rS 54 (rRule 3 23)).rel H [v0_1] m.rules) {r : Bool} (hF : i_ModelValid m = some r) :
 C Tryd.prog 28 #[.agg #[v0_0,v0_1]] w fun v w'=>v = Bo r∧Star H w' []:=by
 unfold i_ModelValid at hF
 refine C_enter Tryd.func28 rfl Tryd.ntmps28 rfl (sq (L_box (v:=.agg #[v0_0,v0_1]) (cs:=#[v0_0,v0_1]) rfl rfl rfl Z (fun g3 w4 Z=>aB rfl (nq (W_seq ?_)))))
 obtain ⟨x10,hx10,hF⟩:=bind_some hF
 obtain ⟨R12,hR12⟩:=exR fun f w_=>f 1 = Pt g3∧f 16 = Bo ((!x10) || (decide ((m.rules.length : Int) > 8)))∧Star H w_ ([box g3 26 #[v0_0,v0_1]])
 refine W_join R12 ?_ ?_
 refine W_region (fA 0 fa_26_0 rfl rfl (ldB 0 Z Tryd.isAgg23 rfl rfl rfl (L_len rfl Tryd.underlying23 rfl (slice_len h0_0) ?_)))
 obtain ⟨H13b,l14,s15,z16,k17⟩:=Z.borrow
 refine L_call rfl Tryd.call51 (ops3 rfl rfl rfl) (i_within_c (n_:=(m.sizes.length : Int)) (low:=1) (high:=5) s15 hx10) ?_
 rintro _ w18 ⟨rfl,Z⟩
 have Z:=k17 Z c0
 refine L_not_ rfl rfl (mB rfl (L_split (d:=11) (b:=(!x10)) rfl (fun hc19=>?_) (fun hc19=>?_)))
 refine ps rfl (ps rfl (ps rfl (ps rfl (L_pick (v:=Bo ((!x10) || (decide ((m.rules.length : Int) > 8)))) rfl rfl (or_t hc19) (nn (rj hR12 ⟨rfl,rfl,Z⟩))))))
 refine fA 1 fa_26_1 rfl rfl (ldB 0 Z Tryd.isAgg24 rfl rfl rfl (L_len rfl Tryd.underlying24 rfl (slice_len h0_1) (L_gtr rfl rfl rfl (L_pick (v:=Bo ((!x10) || (decide ((m.rules.length : Int) > 8)))) rfl rfl (or_f hc19 rfl) (nn (rj hR12 ⟨rfl,rfl,Z⟩))))))
 intro f w_ hR
 obtain ⟨sf1,sf16,Z⟩:=rk hR12 hR
 refine W_cond (b:=((!x10) || (decide ((m.rules.length : Int) > 8)))) sf16 (fun hc20=>?_) (fun hc20=>?_)
 have hF:=(ite_t hc20).symm.trans hF
 refine sq (aB rfl (nn (W_ret (retG1 (v1:=Bo false) Tryd.results28 rfl ?_))))
 obtain rfl:=so hF
 exact ⟨rfl,(Star.keepN 0 Z)⟩
 have hF:=(ite_f hc20).symm.trans hF
 refine W_skip (sq (aI rfl (nq (sq (fA 0 fa_26_0 sf1 rfl (ldB 0 Z Tryd.isAgg23 rfl rfl rfl (L_len rfl Tryd.underlying23 rfl (slice_len h0_0) (mI rfl (nn ?_)))))))))
 have hlen23 : List.length m.sizes≤9223372036854775807:=len_le (slice_len h0_0)
 obtain ⟨j23,hL23,hF⟩:=bind_some hF
 obtain ⟨R23,hR23⟩:=exR fun f w_=>∃ count_22 : Int,j23 = .nx count_22∧f 1 = Pt g3∧f 3 = I count_22∧Star H w_ ([box g3 26 #[v0_0,v0_1]])
 refine W_join R23 ?_ ?_
 refine W_block ?_
 obtain ⟨I23,hI23⟩:=exI fun n f w_=>∃ i_21 : Nat,∃ suf23 : List Int,∃ count_22 : Int,n = suf23.length∧List.drop i_21 m.sizes = suf23∧i_21 + suf23.length = m.sizes.length∧rangeL i_ModelValid_b1 suf23 i_21 count_22 = some j23∧f 1 = Pt g3∧f 3 = I count_22∧f 18 = v0_0∧f 19 = I (m.sizes.length : Int)∧f 20 = I i_21∧Star H w_ ([box g3 26 #[v0_0,v0_1]])
 refine W_loop I23 (n:=m.sizes.length) ?_ ?_
 exact ij hI23 ⟨0,m.sizes,0,rfl,rfl,Nat.zero_add _,hL23,sf1,rfl,rfl,rfl,rfl,Z⟩
 intro n23 f w_ hI
 obtain ⟨i_21,suf23,count_22,rfl,hd23,hl23,hL23,sf1,sf3,sf18,sf19,sf20,Z⟩:=ik hI23 hI
 refine sq (L_lss rfl sf20 sf19 (nq (W_cond (b:=decide ((i_21 : Int) < (m.sizes.length : Int))) rfl (fun hc24=>?_) (fun hc24=>?_))))
 have hlt23:=of_decide_eq_true hc24
 rcases suf23 with _ | ⟨x_23,rest23⟩
 exact absurd hlt23 (by simp at hl23; omega)
 obtain ⟨o23,hB23,hL23⟩:=range_cons hL23
 rw [i_ModelValid_b1] at hB23
 have hix23:=drop_idx hd23
 refine W_skip (W_seq (W_block (sq (L_ix (r:=RP.int) rfl Tryd.underlying23 Tryd.sizeOf3 sf18 h0_0 sf20 hix23 (fun g29 o30 cs_g29 hrk_hat31 hat31=>?_)))))
 obtain rfl : _ = [_]:=hrk_hat31
 refine L_ld rfl Tryd.isAgg3 rfl (At.cell (AtH.at hat31 Z.sub) (j:=0) rfl) (aI rfl (nq (W_seq ?_)))
 obtain ⟨x38,hx38,hB23⟩:=bind_some hB23
 refine W_region (mI rfl ?_)
 obtain ⟨H40b,l41,s42,z43,k44⟩:=Z.borrow
 refine L_call rfl Tryd.call51 (ops3 rfl rfl rfl) (i_within_c (n_:=x_23) (low:=0) (high:=3) s42 hx38) ?_
 rintro _ w45 ⟨rfl,Z⟩
 have Z:=k44 Z c0
 refine L_not_ rfl rfl (nn (W_cond (b:=(!x38)) rfl (fun hc46=>?_) (fun hc46=>?_)))
 have hB23:=(ite_t hc46).symm.trans hB23
 refine sq (aB rfl (nn (W_ret (retG1 (v1:=Bo false) Tryd.results28 rfl ?_))))
 obtain rfl:=so hB23
 obtain rfl:=so hL23
 obtain rfl:=so hF
 exact ⟨rfl,(Star.keepN 0 Z)⟩
 have hB23:=(ite_f hc46).symm.trans hB23
 refine W_skip (W_region (mF sf3 rfl (mI rfl (L_add rfl rfl rfl (L_add rfl rfl rfl (aI rfl (nn (W_region (L_add rfl sf20 rfl (mI rfl (nn ?_)))))))))))
 obtain rfl:=so hB23
 show ∃ m,m < _∧I23 m _ _
 refine ⟨rest23.length,by simp,?_⟩
 exact ij hI23 ⟨i_21 + 1,rest23,i64 (count_22 + (i64 (x_23 + 1))),rfl,drop_next hd23,by simp at hl23; omega,hL23,sf1,rfl,sf18,sf19,(Eq.trans rfl (congrArg (Value.int .i64) (i64_succ (n:=m.sizes.length) (by simp at hl23; omega) hlen23))),Z⟩
 rcases suf23 with _ | ⟨_,_⟩
 obtain rfl:=range_nil hL23
 refine W_exit (rj hR23 ⟨count_22,rfl,sf1,sf3,Z⟩)
 exact absurd (of_decide_eq_false hc24) (by simp at hl23; omega)
 intro f w_ hR
 obtain ⟨count_22,rfl,sf1,sf3,Z⟩:=rk hR23 hR
 refine W_seq ?_
 obtain ⟨b54,hb54,hF⟩:=bind_some hF
 obtain ⟨R55,hR55⟩:=exR fun f w_=>f 2 = Bo b54∧Star H w_ ([])
 refine W_join R55 ?_ ?_
 refine W_region (mF sf3 rfl (L_leq rfl rfl rfl (mB rfl (L_split (d:=34) (b:=decide (count_22≤12)) rfl (fun hc56=>?_) (fun hc56=>?_)))))
 rw [ite_t hc56] at hb54
 obtain ⟨x52,hx52,hb54⟩:=bind_some hb54
 refine fA 1 fa_26_1 sf1 rfl (ldB 0 Z Tryd.isAgg24 rfl rfl rfl (L_mf rfl (ops1 sf1) ?_))
 obtain ⟨H57b,l58,s59,z60,k61⟩:=Z.borrow
 have hf62 : Fun1 Tryd.prog (rRule 3 23) true Value.bool (i_ModelValid_1 m) (.func (.func 53) #[] #[Pt g3]) H57b:=by
   refine ⟨_,_,rfl,Tryd.call53,fun H_ w_ hE_ hs_ cs_ x_ y_ args_ hr_ hy_ ha_=>?_⟩
   obtain ⟨p_0,p_1,p_2,rfl,hp_0,hp_1,hp_2⟩:=rRule_iff.1 hr_
   obtain rfl:=args_of (b:=#[.agg #[I x_.kind,p_0,p_1,I x_.bound,p_2],Pt g3]) ha_
   exact i_ModelValid_1_c (c1:=m) (r_:=x_) hs_ hp_0 hp_1 hp_2 (AtH.le (AtH.of (fz_box 0 z60 rfl)) hE_) (RP.mono _ (RP.mono _ h0_0 l58) hE_) (RP.mono _ (RP.mono _ h0_1 l58) hE_) hy_
 refine L_call rfl Tryd.call52 (ops2 rfl rfl) (slices_ContainsFunc_implRule_c (s:=m.rules) (f_:=(i_ModelValid_1 m)) s59 (RP.mono _ h0_1 l58) hf62 hx52) ?_
 rintro _ w63 ⟨rfl,Z⟩
 have Z:=k61 Z c0
 refine L_not_ rfl rfl (L_pick (v:=Bo b54) rfl rfl (congrArg Value.bool (so hb54)) (aB rfl (nn (rj hR55 ⟨rfl,(Star.keepN 0 Z)⟩))))
 rw [ite_f hc56] at hb54
 refine ps rfl (ps rfl (ps rfl (ps rfl (ps rfl (L_pick (v:=Bo b54) rfl rfl (congrArg Value.bool (so hb54)) (aB rfl (nn (rj hR55 ⟨rfl,(Star.keepN 0 Z)⟩))))))))
 intro f w_ hR
 obtain ⟨sf2,Z⟩:=rk hR55 hR
 refine W_ret (retG1 (v1:=Bo b54) Tryd.results28 sf2 ?_)
 obtain rfl:=so hF
 exact ⟨rfl,Z⟩
theorem strconv_Itoa_c {x_ : Int} {H : FH} {w : World} (Z : Star H w []) {r : ByteArray} (hF : strconv_Itoa x_ = some r) :
 C Tryd.prog 79 #[I x_] w fun v w'=>v = .string r∧Star H w' []:=by
 obtain ⟨h0,h1,rfl⟩:=strconv_Itoa_some hF
 refine Calls.mono (Tryd.strconv_Itoa x_ h0 h1 w (Z.sub.var H.glob.tab)) ?_
 rintro e w' ⟨rfl,k,os,rfl⟩
 exact ⟨_,rfl,rfl,Star.ext Z (grown_drew w k os)⟩
theorem i_digits_c {list : List Int} {v0 : Value} {H : FH} {w : World} (Z : Star H w []) (h0 : (rS 3 RP.int).rel H [v0] list) {r : ByteArray} (hF : i_digits list = some r) :
 C Tryd.prog 55 #[v0] w fun v w'=>v = .string r∧Star H w' []:=by
 unfold i_digits at hF
 refine C_enter Tryd.func55 rfl Tryd.ntmps55 rfl (sq (aV (.string (⟨#[]⟩ : ByteArray)) rfl (ns (aV (.string (⟨#[]⟩ : ByteArray)) rfl (nq (sq (mV v0 rfl (L_len rfl Tryd.underlying23 rfl (slice_len h0) (mI rfl (nn ?_))))))))))
 have hlen3 : List.length list≤9223372036854775807:=len_le (slice_len h0)
 obtain ⟨j3,hL3,hF⟩:=bind_some hF
 obtain ⟨R3,hR3⟩:=exR fun f w_=>∃ out_2 : ByteArray,j3 = .nx out_2∧f 3 = .string out_2∧Star H w_ ([])
 refine W_join R3 ?_ ?_
 refine W_block ?_
 obtain ⟨I3,hI3⟩:=exI fun n f w_=>∃ i_1 : Nat,∃ suf3 : List Int,∃ out_2 : ByteArray,n = suf3.length∧List.drop i_1 list = suf3∧i_1 + suf3.length = list.length∧rangeL i_digits_b1 suf3 i_1 out_2 = some j3∧f 3 = .string out_2∧f 6 = v0∧f 7 = I (list.length : Int)∧f 8 = I i_1∧Star H w_ ([])
 refine W_loop I3 (n:=list.length) ?_ ?_
 exact ij hI3 ⟨0,list,(⟨#[]⟩ : ByteArray),rfl,rfl,Nat.zero_add _,hL3,rfl,rfl,rfl,rfl,Z⟩
 intro n3 f w_ hI
 obtain ⟨i_1,suf3,out_2,rfl,hd3,hl3,hL3,sf3,sf6,sf7,sf8,Z⟩:=ik hI3 hI
 refine sq (L_lss rfl sf8 sf7 (nq (W_cond (b:=decide ((i_1 : Int) < (list.length : Int))) rfl (fun hc4=>?_) (fun hc4=>?_))))
 have hlt3:=of_decide_eq_true hc4
 rcases suf3 with _ | ⟨x_3,rest3⟩
 exact absurd hlt3 (by simp at hl3; omega)
 obtain ⟨o3,hB3,hL3⟩:=range_cons hL3
 rw [i_digits_b1] at hB3
 have hix3:=drop_idx hd3
 refine W_skip (W_seq (W_block (sq (L_ix (r:=RP.int) rfl Tryd.underlying23 Tryd.sizeOf3 sf6 h0 sf8 hix3 (fun g9 o10 cs_g9 hrk_hat11 hat11=>?_)))))
 obtain rfl : _ = [_]:=hrk_hat11
 refine L_ld rfl Tryd.isAgg3 rfl (At.cell (AtH.at hat11 Z.sub) (j:=0) rfl) (aI rfl (nn ?_))
 obtain ⟨x18,hx18,hB3⟩:=bind_some hB3
 obtain ⟨x20,hx20,hB3⟩:=bind_some hB3
 refine W_region (mF sf3 rfl (mI rfl ?_))
 obtain ⟨H21b,l22,s23,z24,k25⟩:=Z.borrow
 refine L_call rfl Tryd.call79 (ops1 rfl) (strconv_Itoa_c (x_:=x_3) s23 hx18) ?_
 rintro _ w26 ⟨rfl,Z⟩
 have Z:=k25 Z c0
 obtain ⟨hx20_l,hx20_e⟩:=cat_some hx20
 refine L_sadd (s:=out_2) (s':=x18) rfl rfl rfl hx20_l ?_
 rw [← hx20_e]
 refine aV (.string x20) rfl (nn (W_region (L_add rfl sf8 rfl (mI rfl (nn ?_)))))
 obtain rfl:=so hB3
 show ∃ m,m < _∧I3 m _ _
 refine ⟨rest3.length,by simp,?_⟩
 exact ij hI3 ⟨i_1 + 1,rest3,x20,rfl,drop_next hd3,by simp at hl3; omega,hL3,rfl,sf6,sf7,(Eq.trans rfl (congrArg (Value.int .i64) (i64_succ (n:=list.length) (by simp at hl3; omega) hlen3))),Z⟩
 rcases suf3 with _ | ⟨_,_⟩
 obtain rfl:=range_nil hL3
 refine W_exit (rj hR3 ⟨out_2,rfl,sf3,Z⟩)
 exact absurd (of_decide_eq_false hc4) (by simp at hl3; omega)
 intro f w_ hR
 obtain ⟨out_2,rfl,sf3,Z⟩:=rk hR3 hR
 refine sq (mF sf3 rfl (aV (.string out_2) rfl (nn (W_ret (retG1 (v1:=.string out_2) Tryd.results55 rfl ?_)))))
 obtain rfl:=so hF
 exact ⟨rfl,Z⟩
theorem i_ruleWords_c {H : FH} {w : World} (Z : Star H w []) {r : List ByteArray} (hF : i_ruleWords = some r) :
 C Tryd.prog 89 #[] w fun v w'=>∃ (u1 : Value),v = u1∧Star H w' [oF 9 RP.str u1 r]:=by
 unfold i_ruleWords at hF
 refine C_enter Tryd.func89 rfl Tryd.ntmps89 rfl (sq (aV S0 rfl (ns (L_bs rfl (parts5 rfl rfl rfl rfl rfl) (bs_104_5_0_0_0_0_0 (.string (⟨#[]⟩ : ByteArray)) (.string (⟨#[108,105,110,101,97,114]⟩ : ByteArray)) (.string (⟨#[100,105,102,102,101,114,101,110,116]⟩ : ByteArray)) (.string (⟨#[116,97,98,108,101]⟩ : ByteArray)) (.string (⟨#[108,101,115,115]⟩ : ByteArray)) rfl rfl rfl rfl rfl) Z (fun g4 w5 Z=>?_)))))
 have Z:=Star.addF (r:=RP.str) (cs:=[.string (⟨#[108,101,115,115]⟩ : ByteArray)]) (x:=(⟨#[108,101,115,115]⟩ : ByteArray)) Z rfl
 have Z:=Star.addF (r:=RP.str) (cs:=[.string (⟨#[116,97,98,108,101]⟩ : ByteArray)]) (x:=(⟨#[116,97,98,108,101]⟩ : ByteArray)) Z rfl
 have Z:=Star.addF (r:=RP.str) (cs:=[.string (⟨#[100,105,102,102,101,114,101,110,116]⟩ : ByteArray)]) (x:=(⟨#[100,105,102,102,101,114,101,110,116]⟩ : ByteArray)) Z rfl
 have Z:=Star.addF (r:=RP.str) (cs:=[.string (⟨#[108,105,110,101,97,114]⟩ : ByteArray)]) (x:=(⟨#[108,105,110,101,97,114]⟩ : ByteArray)) Z rfl
 have Z:=Star.addF (r:=RP.str) (cs:=[.string (⟨#[]⟩ : ByteArray)]) (x:=(⟨#[]⟩ : ByteArray)) Z rfl
 have Z:=Star.mkRow (R:=(OR.frz RP.str)) [([.string (⟨#[]⟩ : ByteArray)],(⟨#[]⟩ : ByteArray)),([.string (⟨#[108,105,110,101,97,114]⟩ : ByteArray)],(⟨#[108,105,110,101,97,114]⟩ : ByteArray)),([.string (⟨#[100,105,102,102,101,114,101,110,116]⟩ : ByteArray)],(⟨#[100,105,102,102,101,114,101,110,116]⟩ : ByteArray)),([.string (⟨#[116,97,98,108,101]⟩ : ByteArray)],(⟨#[116,97,98,108,101]⟩ : ByteArray)),([.string (⟨#[108,101,115,115]⟩ : ByteArray)],(⟨#[108,101,115,115]⟩ : ByteArray))] [(⟨#[]⟩ : ByteArray),(⟨#[108,105,110,101,97,114]⟩ : ByteArray),(⟨#[100,105,102,102,101,114,101,110,116]⟩ : ByteArray),(⟨#[116,97,98,108,101]⟩ : ByteArray),(⟨#[108,101,115,115]⟩ : ByteArray)] 5 Z rfl rfl rfl (by decide)
 refine aV (Sl g4 5 5) rfl (nn (W_ret (retG1 (v1:=(Sl g4 5 5)) Tryd.results89 rfl ?_)))
 obtain rfl:=so hF
 exact ⟨(Sl g4 5 5),rfl,Z⟩
theorem i_Rule_text_c {r_ : Rule} {v0_1 : Value} {v0_2 : Value} {v0_4 : Value} {H : FH} {w : World} (Z : Star H w []) (h0_1 : (rS 3 RP.int).rel H [v0_1] r_.vars) (h0_2 : (rS 3 RP.int).rel H [v0_2] r_.coefs) (h0_4 : (rS 23 (rS 3 RP.int)).rel H [v0_4] r_.rows) {r : ByteArray} (hF : i_Rule_text r_ = some r) :
 C Tryd.prog 56 #[.agg #[I r_.kind,v0_1,v0_2,I r_.bound,v0_4]] w fun v w'=>v = .string r∧Star H w' []:=by
 unfold i_Rule_text at hF
 refine C_enter Tryd.func56 rfl Tryd.ntmps56 rfl (sq (L_box (v:=.agg #[I r_.kind,v0_1,v0_2,I r_.bound,v0_4]) (cs:=#[I r_.kind,v0_1,v0_2,I r_.bound,v0_4]) rfl rfl rfl Z (fun g3 w4 Z=>aV (.string (⟨#[]⟩ : ByteArray)) rfl (nq ?_))))
 obtain ⟨x10,hx10,hF⟩:=bind_some hF
 obtain ⟨x13,hx13,hF⟩:=bind_some hF
 refine W_drawS 3 [anyF,isV (Pt g3),isV (I r_.kind)] [box g3 54 #[I r_.kind,v0_1,v0_2,I r_.bound,v0_4]] [.made 0 8 (fun v_=>oF 9 RP.str v_ x10) none] ([]) [([],[0]),([],[]),([],[])] (S:=[(some 0,[8],none)]) Tryd_mix (by kernel_rfl) rfl (by kernel_rfl) (amF_cons (mono_any) (amF_cons (mono_V _) (amF_cons (mono_V _) amF_nil))) Z ?_ (fun f w_ H18 hS18 hE18 hT18 Z=>?_)
 refine opsS_cons ?_ ?_
 intro f w_ H18 X18 hS18 hE18 hP18 Z
 obtain ⟨H26b,l27,s28,z29,k30⟩:=Z.borrow
 refine L_call rfl Tryd.call89 ops0 (i_ruleWords_c s28 hx10) ?_
 rintro r31_0 w31 ⟨_,rfl,Z⟩
 have Z:=k30 Z (co closed_str c0)
 have Z:=Z.get 1 rfl
 exact L_nil ⟨rfl,_,_,rfl,Le.refl _,fun _ _=>trivial,Z⟩
 refine opsS_cons (fun f w_ _ _ s _ _ Z=>fA 0 fa_54_0 ((s 1 rfl).trans rfl) rfl (nO rfl rfl Z)) (opsS_cons (fun f w_ _ _ _ _ p Z=>ldB 0 Z Tryd.isAgg3 (p 1 9 rfl rfl) rfl rfl (nO rfl rfl Z)) (opsS_nil))
 have Z : Star H18 w_ ([box g3 54 #[I r_.kind,v0_1,v0_2,I r_.bound,v0_4],oF 9 RP.str (f 8) x10]):=Z
 obtain ⟨g34,cap_g34,hv35,_,_⟩:=Star.row 1 Z rfl hx13
 refine L_ixO (R:=(OR.frz RP.str)) (tb:=0) 0 rfl Tryd.underlying104 Tryd.sizeOf9 rfl hv35 (by first | rfl | simp) (hT18 2 10 rfl rfl) hx13 ?_
 obtain ⟨cs36,hr36,hat36⟩:=Star.eltF 1 Z rfl hv35 hx13
 obtain rfl : _ = [_]:=hr36
 refine L_ld rfl Tryd.isAgg9 rfl (At.cell hat36 (j:=0) rfl) (aV (.string x13) rfl (nq (sq (fA 0 fa_54_0 ((hS18 1 rfl).trans rfl) rfl (ldB 0 Z Tryd.isAgg3 rfl rfl rfl (L_eql rfl rfl rfl (nn (W_cond (b:=(r_.kind == 1)) rfl (fun hc38=>?_) (fun hc38=>?_)))))))))
 have hF:=(ite_t hc38).symm.trans hF
 refine W_seq (sq (fA 1 fa_54_1 ((hS18 1 rfl).trans rfl) rfl (ldB 0 Z Tryd.isAgg23 rfl rfl rfl (L_len rfl Tryd.underlying23 rfl (slice_len (RP.mono _ h0_1 hE18)) (mI rfl (nn ?_))))))
 have hlen41 : List.length r_.vars≤9223372036854775807:=len_le (slice_len (RP.mono _ h0_1 hE18))
 obtain ⟨j41,hL41,hF⟩:=bind_some hF
 obtain ⟨R41,hR41⟩:=exR fun f w_=>∃ out_40 : ByteArray,j41 = .nx out_40∧f 1 = Pt g3∧f 3 = .string out_40∧Star H18 w_ ([box g3 54 #[I r_.kind,v0_1,v0_2,I r_.bound,v0_4]])
 refine W_join R41 ?_ ?_
 refine W_block ?_
 obtain ⟨I41,hI41⟩:=exI fun n f w_=>∃ i_39 : Nat,∃ suf41 : List Int,∃ out_40 : ByteArray,n = suf41.length∧List.drop i_39 r_.vars = suf41∧i_39 + suf41.length = r_.vars.length∧rangeL (i_Rule_text_b1 r_) suf41 i_39 out_40 = some j41∧f 1 = Pt g3∧f 3 = .string out_40∧f 17 = v0_1∧f 18 = I (r_.vars.length : Int)∧f 19 = I i_39∧Star H18 w_ ([box g3 54 #[I r_.kind,v0_1,v0_2,I r_.bound,v0_4]])
 refine W_loop I41 (n:=r_.vars.length) ?_ ?_
 exact ij hI41 ⟨0,r_.vars,x13,rfl,rfl,Nat.zero_add _,hL41,((hS18 1 rfl).trans rfl),rfl,rfl,rfl,rfl,(Star.keepN 1 Z)⟩
 intro n41 f w_ hI
 obtain ⟨i_39,suf41,out_40,rfl,hd41,hl41,hL41,sf1,sf3,sf17,sf18,sf19,Z⟩:=ik hI41 hI
 refine sq (L_lss rfl sf19 sf18 (nq (W_cond (b:=decide ((i_39 : Int) < (r_.vars.length : Int))) rfl (fun hc42=>?_) (fun hc42=>?_))))
 have hlt41:=of_decide_eq_true hc42
 rcases suf41 with _ | ⟨x_41,rest41⟩
 exact absurd hlt41 (by simp at hl41; omega)
 obtain ⟨o41,hB41,hL41⟩:=range_cons hL41
 rw [i_Rule_text_b1] at hB41
 have hix41:=drop_idx hd41
 refine W_skip (W_seq (W_block (sq (mF sf19 rfl (L_ix (r:=RP.int) rfl Tryd.underlying23 Tryd.sizeOf3 sf17 (RP.mono _ h0_1 hE18) sf19 hix41 (fun g47 o48 cs_g47 hrk_hat49 hat49=>?_))))))
 obtain rfl : _ = [_]:=hrk_hat49
 refine L_ld rfl Tryd.isAgg3 rfl (At.cell (AtH.at hat49 Z.sub) (j:=0) rfl) (aI rfl (aI rfl (nn ?_)))
 obtain ⟨x51,hx51,hB41⟩:=bind_some hB41
 obtain ⟨x61,hx61,hB41⟩:=bind_some hB41
 obtain ⟨x63,hx63,hB41⟩:=bind_some hB41
 obtain ⟨x64,hx64,hB41⟩:=bind_some hB41
 obtain ⟨x70,hx70,hB41⟩:=bind_some hB41
 obtain ⟨x72,hx72,hB41⟩:=bind_some hB41
 obtain ⟨x73,hx73,hB41⟩:=bind_some hB41
 refine W_region (mF sf3 rfl (fA 2 fa_54_2 sf1 rfl (ldB 0 Z Tryd.isAgg23 rfl rfl rfl (mI rfl (L_ix (r:=RP.int) rfl Tryd.underlying23 Tryd.sizeOf3 rfl (RP.mono _ h0_2 hE18) rfl hx51 (fun g74 o75 cs_g74 hrk_hat76 hat76=>?_))))))
 obtain rfl : _ = [_]:=hrk_hat76
 refine L_ld rfl Tryd.isAgg3 rfl (At.cell (AtH.at hat76 Z.sub) (j:=0) rfl) ?_
 obtain ⟨H78b,l79,s80,z81,k82⟩:=Z.borrow
 refine L_call rfl Tryd.call79 (ops1 rfl) (strconv_Itoa_c (x_:=x51) s80 hx61) ?_
 rintro _ w83 ⟨rfl,Z⟩
 have Z:=k82 Z c0
 obtain ⟨hx63_l,hx63_e⟩:=cat_some hx63
 refine L_sadd (s:=(⟨#[32]⟩ : ByteArray)) (s':=x61) rfl rfl rfl hx63_l ?_
 rw [← hx63_e]
 obtain ⟨hx64_l,hx64_e⟩:=cat_some hx64
 refine L_sadd (s:=x63) (s':=(⟨#[32]⟩ : ByteArray)) rfl rfl rfl hx64_l ?_
 rw [← hx64_e]
 refine mI rfl ?_
 obtain ⟨H84b,l85,s86,z87,k88⟩:=Z.borrow
 refine L_call rfl Tryd.call79 (ops1 rfl) (strconv_Itoa_c (x_:=x_41) s86 hx70) ?_
 rintro _ w89 ⟨rfl,Z⟩
 have Z:=k88 Z c0
 obtain ⟨hx72_l,hx72_e⟩:=cat_some hx72
 refine L_sadd (s:=x64) (s':=x70) rfl rfl rfl hx72_l ?_
 rw [← hx72_e]
 obtain ⟨hx73_l,hx73_e⟩:=cat_some hx73
 refine L_sadd (s:=out_40) (s':=x72) rfl rfl rfl hx73_l ?_
 rw [← hx73_e]
 refine aV (.string x73) rfl (nn (W_region (L_add rfl sf19 rfl (mI rfl (nn ?_)))))
 obtain rfl:=so hB41
 show ∃ m,m < _∧I41 m _ _
 refine ⟨rest41.length,by simp,?_⟩
 exact ij hI41 ⟨i_39 + 1,rest41,x73,rfl,drop_next hd41,by simp at hl41; omega,hL41,sf1,rfl,sf17,sf18,(Eq.trans rfl (congrArg (Value.int .i64) (i64_succ (n:=r_.vars.length) (by simp at hl41; omega) hlen41))),Z⟩
 rcases suf41 with _ | ⟨_,_⟩
 obtain rfl:=range_nil hL41
 refine W_exit (rj hR41 ⟨out_40,rfl,sf1,sf3,Z⟩)
 exact absurd (of_decide_eq_false hc42) (by simp at hl41; omega)
 intro f w_ hR
 obtain ⟨out_40,rfl,sf1,sf3,Z⟩:=rk hR41 hR
 refine W_seq ?_
 obtain ⟨x90,hx90,hF⟩:=bind_some hF
 obtain ⟨x96,hx96,hF⟩:=bind_some hF
 obtain ⟨x98,hx98,hF⟩:=bind_some hF
 refine W_region (mF sf3 rfl ?_)
 obtain ⟨hx90_l,hx90_e⟩:=cat_some hx90
 refine L_sadd (s:=out_40) (s':=(⟨#[32,62,61,32]⟩ : ByteArray)) rfl rfl rfl hx90_l ?_
 rw [← hx90_e]
 refine fA 3 fa_54_3 sf1 rfl (ldB 0 Z Tryd.isAgg3 rfl rfl rfl ?_)
 obtain ⟨H99b,l100,s101,z102,k103⟩:=Z.borrow
 refine L_call rfl Tryd.call79 (ops1 rfl) (strconv_Itoa_c (x_:=r_.bound) s101 hx96) ?_
 rintro _ w104 ⟨rfl,Z⟩
 have Z:=k103 Z c0
 obtain ⟨hx98_l,hx98_e⟩:=cat_some hx98
 refine L_sadd (s:=x90) (s':=x96) rfl rfl rfl hx98_l ?_
 rw [← hx98_e]
 refine aV (.string x98) rfl (nn (W_ret (retG1 (v1:=.string x98) Tryd.results56 rfl ?_)))
 obtain rfl:=so hF
 exact ⟨rfl,(Star.down (Star.keepN 0 Z) hE18 c0)⟩
 have hF:=(ite_f hc38).symm.trans hF
 refine W_skip (W_seq ?_)
 obtain ⟨x110,hx110,hF⟩:=bind_some hF
 obtain ⟨x112,hx112,hF⟩:=bind_some hF
 obtain ⟨x113,hx113,hF⟩:=bind_some hF
 refine W_region (mV (.string x13) rfl (fA 1 fa_54_1 ((hS18 1 rfl).trans rfl) rfl (ldB 0 Z Tryd.isAgg23 rfl rfl rfl ?_)))
 obtain ⟨H114b,l115,s116,z117,k118⟩:=Z.borrow
 refine L_call rfl Tryd.call55 (ops1 rfl) (i_digits_c (list:=r_.vars) s116 (RP.mono _ h0_1 (Le.trans hE18 l115)) hx110) ?_
 rintro _ w119 ⟨rfl,Z⟩
 have Z:=k118 Z c0
 obtain ⟨hx112_l,hx112_e⟩:=cat_some hx112
 refine L_sadd (s:=(⟨#[32]⟩ : ByteArray)) (s':=x110) rfl rfl rfl hx112_l ?_
 rw [← hx112_e]
 obtain ⟨hx113_l,hx113_e⟩:=cat_some hx113
 refine L_sadd (s:=x13) (s':=x112) rfl rfl rfl hx113_l ?_
 rw [← hx113_e]
 refine aV (.string x113) rfl (nq (sq (fA 4 fa_54_4 ((hS18 1 rfl).trans rfl) rfl (ldB 0 Z Tryd.isAgg52 rfl rfl rfl (L_len rfl Tryd.underlying52 rfl (slice_len (RP.mono _ h0_4 hE18)) (mI rfl (nn ?_)))))))
 have hlen122 : List.length r_.rows≤9223372036854775807:=len_le (slice_len (RP.mono _ h0_4 hE18))
 obtain ⟨j122,hL122,hF⟩:=bind_some hF
 obtain ⟨R122,hR122⟩:=exR fun f w_=>∃ out_121 : ByteArray,j122 = .nx out_121∧f 3 = .string out_121∧Star H18 w_ ([])
 refine W_join R122 ?_ ?_
 refine W_block ?_
 obtain ⟨I122,hI122⟩:=exI fun n f w_=>∃ i_120 : Nat,∃ suf122 : List (List Int),∃ out_121 : ByteArray,n = suf122.length∧List.drop i_120 r_.rows = suf122∧i_120 + suf122.length = r_.rows.length∧rangeL i_Rule_text_b2 suf122 i_120 out_121 = some j122∧f 3 = .string out_121∧f 51 = v0_4∧f 52 = I (r_.rows.length : Int)∧f 53 = I i_120∧Star H18 w_ ([])
 refine W_loop I122 (n:=r_.rows.length) ?_ ?_
 exact ij hI122 ⟨0,r_.rows,x113,rfl,rfl,Nat.zero_add _,hL122,rfl,rfl,rfl,rfl,(Star.keepN 0 Z)⟩
 intro n122 f w_ hI
 obtain ⟨i_120,suf122,out_121,rfl,hd122,hl122,hL122,sf3,sf51,sf52,sf53,Z⟩:=ik hI122 hI
 refine sq (L_lss rfl sf53 sf52 (nq (W_cond (b:=decide ((i_120 : Int) < (r_.rows.length : Int))) rfl (fun hc123=>?_) (fun hc123=>?_))))
 have hlt122:=of_decide_eq_true hc123
 rcases suf122 with _ | ⟨x_122,rest122⟩
 exact absurd hlt122 (by simp at hl122; omega)
 obtain ⟨o122,hB122,hL122⟩:=range_cons hL122
 rw [i_Rule_text_b2] at hB122
 have hix122:=drop_idx hd122
 refine W_skip (W_seq (W_block (sq (L_ix (r:=(rS 3 RP.int)) rfl Tryd.underlying52 Tryd.sizeOf23 sf51 (RP.mono _ h0_4 hE18) sf53 hix122 (fun g128 o129 cs_g128 hrk_hat130 hat130=>?_)))))
 obtain ⟨u131,rfl,hu131⟩:=slice1 hrk_hat130
 refine L_ld rfl Tryd.isAgg23 rfl (At.cell (AtH.at hat130 Z.sub) (j:=0) rfl) (aV u131 rfl (nn ?_))
 obtain ⟨x137,hx137,hB122⟩:=bind_some hB122
 obtain ⟨x139,hx139,hB122⟩:=bind_some hB122
 obtain ⟨x140,hx140,hB122⟩:=bind_some hB122
 refine W_region (mF sf3 rfl (mV u131 rfl ?_))
 obtain ⟨H141b,l142,s143,z144,k145⟩:=Z.borrow
 refine L_call rfl Tryd.call55 (ops1 rfl) (i_digits_c (list:=x_122) s143 (RP.mono _ hu131 l142) hx137) ?_
 rintro _ w146 ⟨rfl,Z⟩
 have Z:=k145 Z c0
 obtain ⟨hx139_l,hx139_e⟩:=cat_some hx139
 refine L_sadd (s:=(⟨#[32]⟩ : ByteArray)) (s':=x137) rfl rfl rfl hx139_l ?_
 rw [← hx139_e]
 obtain ⟨hx140_l,hx140_e⟩:=cat_some hx140
 refine L_sadd (s:=out_121) (s':=x139) rfl rfl rfl hx140_l ?_
 rw [← hx140_e]
 refine aV (.string x140) rfl (nn (W_region (L_add rfl sf53 rfl (mI rfl (nn ?_)))))
 obtain rfl:=so hB122
 show ∃ m,m < _∧I122 m _ _
 refine ⟨rest122.length,by simp,?_⟩
 exact ij hI122 ⟨i_120 + 1,rest122,x140,rfl,drop_next hd122,by simp at hl122; omega,hL122,rfl,sf51,sf52,(Eq.trans rfl (congrArg (Value.int .i64) (i64_succ (n:=r_.rows.length) (by simp at hl122; omega) hlen122))),Z⟩
 rcases suf122 with _ | ⟨_,_⟩
 obtain rfl:=range_nil hL122
 refine W_exit (rj hR122 ⟨out_121,rfl,sf3,Z⟩)
 exact absurd (of_decide_eq_false hc123) (by simp at hl122; omega)
 intro f w_ hR
 obtain ⟨out_121,rfl,sf3,Z⟩:=rk hR122 hR
 refine sq (mF sf3 rfl (aV (.string out_121) rfl (nn (W_ret (retG1 (v1:=.string out_121) Tryd.results56 rfl ?_)))))
 obtain rfl:=so hF
 exact ⟨rfl,(Star.down Z hE18 c0)⟩
theorem i_formatModel_c {m : Model} {v0_0 : Value} {v0_1 : Value} {H : FH} {w : World} (Z : Star H w []) (h0_0 : (rS 3 RP.int).rel H [v0_0] m.sizes) (h0_1 : (rS 54 (rRule 3 23)).rel H [v0_1] m.rules) {r : ByteArray} (hF : i_formatModel m = some r) :
 C Tryd.prog 29 #[.agg #[v0_0,v0_1]] w fun v w'=>v = .string r∧Star H w' []:=by
 unfold i_formatModel at hF
 refine C_enter Tryd.func29 rfl Tryd.ntmps29 rfl (sq (L_box (v:=.agg #[v0_0,v0_1]) (cs:=#[v0_0,v0_1]) rfl rfl rfl Z (fun g3 w4 Z=>aV (.string (⟨#[]⟩ : ByteArray)) rfl (nq ?_))))
 obtain ⟨x10,hx10,hF⟩:=bind_some hF
 obtain ⟨x12,hx12,hF⟩:=bind_some hF
 obtain ⟨x13,hx13,hF⟩:=bind_some hF
 refine W_region (fA 0 fa_26_0 rfl rfl (ldB 0 Z Tryd.isAgg23 rfl rfl rfl ?_))
 obtain ⟨H14b,l15,s16,z17,k18⟩:=Z.borrow
 refine L_call rfl Tryd.call55 (ops1 rfl) (i_digits_c (list:=m.sizes) s16 (RP.mono _ h0_0 l15) hx10) ?_
 rintro _ w19 ⟨rfl,Z⟩
 have Z:=k18 Z c0
 obtain ⟨hx12_l,hx12_e⟩:=cat_some hx12
 refine L_sadd (s:=(⟨#[115,105,122,101,115,32]⟩ : ByteArray)) (s':=x10) rfl rfl rfl hx12_l ?_
 rw [← hx12_e]
 obtain ⟨hx13_l,hx13_e⟩:=cat_some hx13
 refine L_sadd (s:=x12) (s':=(⟨#[10]⟩ : ByteArray)) rfl rfl rfl hx13_l ?_
 rw [← hx13_e]
 refine aV (.string x13) rfl (nq (sq (fA 1 fa_26_1 rfl rfl (ldB 0 Z Tryd.isAgg24 rfl rfl rfl (L_len rfl Tryd.underlying24 rfl (slice_len h0_1) (mI rfl (nn ?_)))))))
 have hlen22 : List.length m.rules≤9223372036854775807:=len_le (slice_len h0_1)
 obtain ⟨j22,hL22,hF⟩:=bind_some hF
 obtain ⟨R22,hR22⟩:=exR fun f w_=>∃ out_21 : ByteArray,j22 = .nx out_21∧f 3 = .string out_21∧Star H w_ ([])
 refine W_join R22 ?_ ?_
 refine W_block ?_
 obtain ⟨I22,hI22⟩:=exI fun n f w_=>∃ i_20 : Nat,∃ suf22 : List Rule,∃ out_21 : ByteArray,n = suf22.length∧List.drop i_20 m.rules = suf22∧i_20 + suf22.length = m.rules.length∧rangeL i_formatModel_b1 suf22 i_20 out_21 = some j22∧f 3 = .string out_21∧f 12 = v0_1∧f 13 = I (m.rules.length : Int)∧f 14 = I i_20∧Star H w_ ([])
 refine W_loop I22 (n:=m.rules.length) ?_ ?_
 exact ij hI22 ⟨0,m.rules,x13,rfl,rfl,Nat.zero_add _,hL22,rfl,rfl,rfl,rfl,(Star.keepN 0 Z)⟩
 intro n22 f w_ hI
 obtain ⟨i_20,suf22,out_21,rfl,hd22,hl22,hL22,sf3,sf12,sf13,sf14,Z⟩:=ik hI22 hI
 refine sq (L_lss rfl sf14 sf13 (nq (W_cond (b:=decide ((i_20 : Int) < (m.rules.length : Int))) rfl (fun hc23=>?_) (fun hc23=>?_))))
 have hlt22:=of_decide_eq_true hc23
 rcases suf22 with _ | ⟨x_22,rest22⟩
 exact absurd hlt22 (by simp at hl22; omega)
 obtain ⟨o22,hB22,hL22⟩:=range_cons hL22
 rw [i_formatModel_b1] at hB22
 have hix22:=drop_idx hd22
 refine W_skip (W_seq (W_block (sq (L_ix (r:=(rRule 3 23)) rfl Tryd.underlying24 Tryd.sizeOf54 sf12 h0_1 sf14 hix22 (fun g31 o32 cs_g31 hrk_hat33 hat33=>?_)))))
 obtain ⟨u34_0,u34_1,u34_2,rfl,hu34_0,hu34_1,hu34_2⟩:=rRule_iff.1 hrk_hat33
 refine L_lda (cs:=[I x_22.kind,u34_0,u34_1,I x_22.bound,u34_2]) rfl Tryd.isAgg54 Tryd.sizeOf54 rfl (At.sub (AtH.at hat33 Z.sub) 0 5) rfl (L_al (cs:=#[I 0,S0,S0,I 0,S0]) rfl Tryd.zeroValue54 rfl Z (fun g35 w36 Z=>L_staB (vs:=#[I x_22.kind,u34_0,u34_1,I x_22.bound,u34_2]) (cs2:=#[I x_22.kind,u34_0,u34_1,I x_22.bound,u34_2]) 0 rfl Tryd.sizeOf54 rfl rfl rfl (ones_cons rfl (ones_cons (one_len (slice_len hu34_0)) (ones_cons (one_len (slice_len hu34_1)) (ones_cons rfl (ones_cons (one_len (slice_len hu34_2)) ones_nil))))) Z rfl (by show 0 + 5≤5; decide) rfl (fun w37 Z=>nn ?_)))
 obtain ⟨x43,hx43,hB22⟩:=bind_some hB22
 obtain ⟨x45,hx45,hB22⟩:=bind_some hB22
 obtain ⟨x46,hx46,hB22⟩:=bind_some hB22
 refine W_region (mF sf3 rfl (L_lda (cs:=[I x_22.kind,u34_0,u34_1,I x_22.bound,u34_2]) rfl Tryd.isAgg54 Tryd.sizeOf54 rfl (At.sub0 (Blk.at (Star.blkAt 0 Z rfl)) 0 5) rfl ?_))
 obtain ⟨H47b,l48,s49,z50,k51⟩:=Z.borrow
 refine L_call rfl Tryd.call56 (ops1 rfl) (i_Rule_text_c (r_:=x_22) s49 (RP.mono _ hu34_0 l48) (RP.mono _ hu34_1 l48) (RP.mono _ hu34_2 l48) hx43) ?_
 rintro _ w52 ⟨rfl,Z⟩
 have Z:=k51 Z c0
 obtain ⟨hx45_l,hx45_e⟩:=cat_some hx45
 refine L_sadd (s:=x43) (s':=(⟨#[10]⟩ : ByteArray)) rfl rfl rfl hx45_l ?_
 rw [← hx45_e]
 obtain ⟨hx46_l,hx46_e⟩:=cat_some hx46
 refine L_sadd (s:=out_21) (s':=x45) rfl rfl rfl hx46_l ?_
 rw [← hx46_e]
 refine aV (.string x46) rfl (nn (W_region (L_add rfl sf14 rfl (mI rfl (nn ?_)))))
 obtain rfl:=so hB22
 show ∃ m,m < _∧I22 m _ _
 refine ⟨rest22.length,by simp,?_⟩
 exact ij hI22 ⟨i_20 + 1,rest22,x46,rfl,drop_next hd22,by simp at hl22; omega,hL22,rfl,sf12,sf13,(Eq.trans rfl (congrArg (Value.int .i64) (i64_succ (n:=m.rules.length) (by simp at hl22; omega) hlen22))),(Star.keepN 0 Z)⟩
 rcases suf22 with _ | ⟨_,_⟩
 obtain rfl:=range_nil hL22
 refine W_exit (rj hR22 ⟨out_21,rfl,sf3,Z⟩)
 exact absurd (of_decide_eq_false hc23) (by simp at hl22; omega)
 intro f w_ hR
 obtain ⟨out_21,rfl,sf3,Z⟩:=rk hR22 hR
 refine sq (mF sf3 rfl (aV (.string out_21) rfl (nn (W_ret (retG1 (v1:=.string out_21) Tryd.results29 rfl ?_)))))
 obtain rfl:=so hF
 exact ⟨rfl,Z⟩
theorem i_FormatModel_c {m : Model} {v0_0 : Value} {v0_1 : Value} {H : FH} {w : World} (Z : Star H w []) (h0_0 : (rS 3 RP.int).rel H [v0_0] m.sizes) (h0_1 : (rS 54 (rRule 3 23)).rel H [v0_1] m.rules) {r : ByteArray} (hF : i_FormatModel m = some r) :
 C Tryd.prog 9 #[.agg #[v0_0,v0_1]] w fun v w'=>v = .string r∧Star H w' []:=by
 unfold i_FormatModel at hF
 refine C_enter Tryd.func9 rfl Tryd.ntmps9 rfl (sq (L_box (v:=.agg #[v0_0,v0_1]) (cs:=#[v0_0,v0_1]) rfl rfl rfl Z (fun g3 w4 Z=>aV (.string (⟨#[]⟩ : ByteArray)) rfl (nq (W_seq ?_)))))
 obtain ⟨x10,hx10,hF⟩:=bind_some hF
 refine W_region (L_lda (cs:=[v0_0,v0_1]) rfl Tryd.isAgg26 Tryd.sizeOf26 rfl (At.sub0 (Blk.at (Star.blkAt 0 Z rfl)) 0 2) rfl ?_)
 obtain ⟨H12b,l13,s14,z15,k16⟩:=Z.borrow
 refine L_call rfl Tryd.call28 (ops1 rfl) (i_ModelValid_c (m:=m) s14 (RP.mono _ h0_0 l13) (RP.mono _ h0_1 l13) hx10) ?_
 rintro _ w17 ⟨rfl,Z⟩
 have Z:=k16 Z c0
 refine L_not_ rfl rfl (nn (W_cond (b:=(!x10)) rfl (fun hc18=>?_) (fun hc18=>?_)))
 have hF:=(ite_t hc18).symm.trans hF
 refine sq (aV (.string (⟨#[]⟩ : ByteArray)) rfl (nn (W_ret (retG1 (v1:=.string (⟨#[]⟩ : ByteArray)) Tryd.results9 rfl ?_))))
 obtain rfl:=so hF
 exact ⟨rfl,(Star.keepN 0 Z)⟩
 have hF:=(ite_f hc18).symm.trans hF
 refine W_skip (W_seq ?_)
 obtain ⟨x24,hx24,hF⟩:=bind_some hF
 refine W_region (L_lda (cs:=[v0_0,v0_1]) rfl Tryd.isAgg26 Tryd.sizeOf26 rfl (At.sub0 (Blk.at (Star.blkAt 0 Z rfl)) 0 2) rfl ?_)
 obtain ⟨H26b,l27,s28,z29,k30⟩:=Z.borrow
 refine L_call rfl Tryd.call29 (ops1 rfl) (i_formatModel_c (m:=m) s28 (RP.mono _ h0_0 l27) (RP.mono _ h0_1 l27) hx24) ?_
 rintro _ w31 ⟨rfl,Z⟩
 have Z:=k30 Z c0
 refine aV (.string x24) rfl (nn (W_ret (retG1 (v1:=.string x24) Tryd.results9 rfl ?_)))
 obtain rfl:=so hF
 exact ⟨rfl,(Star.keepN 0 Z)⟩
theorem l_szIntS_c {a : List Int} {left : Int} {v0 : Value} {H : FH} {w : World} (Z : Star H w []) (h0 : (rS 3 RP.int).rel H [v0] a) {r : Int} (hF : l_szIntS a left = some r) :
 C Tryd.prog 30 #[v0,I left] w fun v w'=>v = I r∧Star H w' []:=by
 unfold l_szIntS at hF
 refine C_enter Tryd.func30 rfl Tryd.ntmps30 rfl (sq (aI rfl (ns (mI rfl (mV v0 rfl (L_len rfl Tryd.underlying23 rfl (slice_len h0) (L_sub rfl rfl rfl (aI rfl (nq (sq (mI rfl (L_lss rfl rfl rfl (nn (W_cond (b:=decide ((i64 (left - (a.length : Int))) < 0)) rfl (fun hc1=>?_) (fun hc1=>?_)))))))))))))))
 have hF:=(ite_t hc1).symm.trans hF
 refine sq (aI rfl (nn (W_ret (retG1 (v1:=I (-1)) Tryd.results30 rfl ?_))))
 obtain rfl:=so hF
 exact ⟨rfl,Z⟩
 have hF:=(ite_f hc1).symm.trans hF
 refine W_skip (sq (mI rfl (aI rfl (nn (W_ret (retG1 (v1:=I (i64 (left - (a.length : Int)))) Tryd.results30 rfl ?_))))))
 obtain rfl:=so hF
 exact ⟨rfl,Z⟩
theorem l_szIntSS_c {a : List (List Int)} {left : Int} {v0 : Value} {H : FH} {w : World} (Z : Star H w []) (h0 : (rS 23 (rS 3 RP.int)).rel H [v0] a) {r : Int} (hF : l_szIntSS a left = some r) :
 C Tryd.prog 90 #[v0,I left] w fun v w'=>v = I r∧Star H w' []:=by
 unfold l_szIntSS at hF
 refine C_enter Tryd.func90 rfl Tryd.ntmps90 rfl (sq (aI rfl (ns (mI rfl (mV v0 rfl (L_len rfl Tryd.underlying52 rfl (slice_len h0) (L_sub rfl rfl rfl (aI rfl (nq (sq (mI rfl (L_lss rfl rfl rfl (nn (W_cond (b:=decide ((i64 (left - (a.length : Int))) < 0)) rfl (fun hc1=>?_) (fun hc1=>?_)))))))))))))))
 have hF:=(ite_t hc1).symm.trans hF
 refine sq (aI rfl (nn (W_ret (retG1 (v1:=I (-1)) Tryd.results90 rfl ?_))))
 obtain rfl:=so hF
 exact ⟨rfl,Z⟩
 have hF:=(ite_f hc1).symm.trans hF
 refine W_skip (W_seq (sq (aI rfl (nn ?_))))
 have hlen4 : List.length a≤9223372036854775807:=len_le (slice_len h0)
 obtain ⟨j4,hL4,hF⟩:=bind_some hF
 obtain ⟨R4,hR4⟩:=exR fun f w_=>∃ left_3 : Int,j4 = .nx left_3∧f 1 = I left_3∧Star H w_ ([])
 refine W_join R4 ?_ ?_
 refine W_block ?_
 obtain ⟨I4,hI4⟩:=exI fun n f w_=>∃ i_2 : Nat,∃ suf4 : List (List Int),∃ left_3 : Int,n = suf4.length∧List.drop i_2 a = suf4∧i_2 + suf4.length = a.length∧rangeL l_szIntSS_b1 suf4 i_2 left_3 = some j4∧f 0 = v0∧f 1 = I left_3∧f 5 = I i_2∧Star H w_ ([])
 refine W_loop I4 (n:=a.length) ?_ ?_
 exact ij hI4 ⟨0,a,i64 (left - (a.length : Int)),rfl,rfl,Nat.zero_add _,hL4,rfl,rfl,rfl,Z⟩
 intro n4 f w_ hI
 obtain ⟨i_2,suf4,left_3,rfl,hd4,hl4,hL4,sf0,sf1,sf5,Z⟩:=ik hI4 hI
 refine W_seq (sq (mF sf5 rfl (mF sf0 rfl (L_len rfl Tryd.underlying52 rfl (slice_len h0) (L_lss rfl rfl rfl (nn (W_cond (b:=decide ((i_2 : Int) < (a.length : Int))) rfl (fun hc5=>?_) (fun hc5=>?_))))))))
 have hlt4:=of_decide_eq_true hc5
 rcases suf4 with _ | ⟨x_4,rest4⟩
 exact absurd hlt4 (by simp at hl4; omega)
 obtain ⟨o4,hB4,hL4⟩:=range_cons hL4
 rw [l_szIntSS_b1] at hB4
 have hix4:=drop_idx hd4
 refine W_skip (W_seq (W_block (W_seq ?_)))
 obtain ⟨x15,hx15,hB4⟩:=bind_some hB4
 refine W_region (mF sf0 rfl (mF sf5 rfl (L_ix (r:=(rS 3 RP.int)) rfl Tryd.underlying52 Tryd.sizeOf23 rfl h0 rfl hix4 (fun g17 o18 cs_g17 hrk_hat19 hat19=>?_))))
 obtain ⟨u20,rfl,hu20⟩:=slice1 hrk_hat19
 refine L_ld rfl Tryd.isAgg23 rfl (At.cell (AtH.at hat19 Z.sub) (j:=0) rfl) (mF sf1 rfl ?_)
 obtain ⟨H21b,l22,s23,z24,k25⟩:=Z.borrow
 refine L_call rfl Tryd.call30 (ops2 rfl rfl) (l_szIntS_c (a:=x_4) (left:=left_3) s23 (RP.mono _ hu20 l22) hx15) ?_
 rintro _ w26 ⟨rfl,Z⟩
 have Z:=k25 Z c0
 refine aI rfl (ns (mI rfl (L_lss rfl rfl rfl (nn (W_cond (b:=decide (x15 < 0)) rfl (fun hc27=>?_) (fun hc27=>?_))))))
 have hB4:=(ite_t hc27).symm.trans hB4
 refine sq (aI rfl (nn (W_ret (retG1 (v1:=I (-1)) Tryd.results90 rfl ?_))))
 obtain rfl:=so hB4
 obtain rfl:=so hL4
 obtain rfl:=so hF
 exact ⟨rfl,Z⟩
 have hB4:=(ite_f hc27).symm.trans hB4
 refine W_skip (W_region (mF sf5 rfl (L_add rfl rfl rfl (aI rfl (nn ?_)))))
 obtain rfl:=so hB4
 show ∃ m,m < _∧I4 m _ _
 refine ⟨rest4.length,by simp,?_⟩
 exact ij hI4 ⟨i_2 + 1,rest4,x15,rfl,drop_next hd4,by simp at hl4; omega,hL4,sf0,rfl,(Eq.trans rfl (congrArg (Value.int .i64) (i64_succ (n:=a.length) (by simp at hl4; omega) hlen4))),Z⟩
 rcases suf4 with _ | ⟨_,_⟩
 obtain rfl:=range_nil hL4
 refine W_exit (rj hR4 ⟨left_3,rfl,sf1,Z⟩)
 exact absurd (of_decide_eq_false hc5) (by simp at hl4; omega)
 intro f w_ hR
 obtain ⟨left_3,rfl,sf1,Z⟩:=rk hR4 hR
 refine sq (mF sf1 rfl (aI rfl (nn (W_ret (retG1 (v1:=I left_3) Tryd.results90 rfl ?_)))))
 obtain rfl:=so hF
 exact ⟨rfl,Z⟩
theorem l_szRule_c {a : Rule} {left : Int} {v0_1 : Value} {v0_2 : Value} {v0_4 : Value} {H : FH} {w : World} (Z : Star H w []) (h0_1 : (rS 3 RP.int).rel H [v0_1] a.vars) (h0_2 : (rS 3 RP.int).rel H [v0_2] a.coefs) (h0_4 : (rS 23 (rS 3 RP.int)).rel H [v0_4] a.rows) {r : Int} (hF : l_szRule a left = some r) :
 C Tryd.prog 57 #[.agg #[I a.kind,v0_1,v0_2,I a.bound,v0_4],I left] w fun v w'=>v = I r∧Star H w' []:=by
 unfold l_szRule at hF
 refine C_enter Tryd.func57 rfl Tryd.ntmps57 rfl (sq (L_box (v:=.agg #[I a.kind,v0_1,v0_2,I a.bound,v0_4]) (cs:=#[I a.kind,v0_1,v0_2,I a.bound,v0_4]) rfl rfl rfl Z (fun g3 w4 Z=>aI rfl (nq ?_))))
 obtain ⟨x10,hx10,hF⟩:=bind_some hF
 refine W_region (fA 1 fa_98_1 rfl rfl (ldB 0 Z Tryd.isAgg23 rfl rfl rfl (mI rfl ?_)))
 obtain ⟨H12b,l13,s14,z15,k16⟩:=Z.borrow
 refine L_call rfl Tryd.call30 (ops2 rfl rfl) (l_szIntS_c (a:=a.vars) (left:=left) s14 (RP.mono _ h0_1 l13) hx10) ?_
 rintro _ w17 ⟨rfl,Z⟩
 have Z:=k16 Z c0
 refine aI rfl (nq (sq (mI rfl (L_lss rfl rfl rfl (nn (W_cond (b:=decide (x10 < 0)) rfl (fun hc18=>?_) (fun hc18=>?_)))))))
 have hF:=(ite_t hc18).symm.trans hF
 refine sq (aI rfl (nn (W_ret (retG1 (v1:=I (-1)) Tryd.results57 rfl ?_))))
 obtain rfl:=so hF
 exact ⟨rfl,(Star.keepN 0 Z)⟩
 have hF:=(ite_f hc18).symm.trans hF
 refine W_skip (W_seq ?_)
 obtain ⟨x24,hx24,hF⟩:=bind_some hF
 refine W_region (fA 2 fa_98_2 rfl rfl (ldB 0 Z Tryd.isAgg23 rfl rfl rfl (mI rfl ?_)))
 obtain ⟨H26b,l27,s28,z29,k30⟩:=Z.borrow
 refine L_call rfl Tryd.call30 (ops2 rfl rfl) (l_szIntS_c (a:=a.coefs) (left:=x10) s28 (RP.mono _ h0_2 l27) hx24) ?_
 rintro _ w31 ⟨rfl,Z⟩
 have Z:=k30 Z c0
 refine aI rfl (nq (sq (mI rfl (L_lss rfl rfl rfl (nn (W_cond (b:=decide (x24 < 0)) rfl (fun hc32=>?_) (fun hc32=>?_)))))))
 have hF:=(ite_t hc32).symm.trans hF
 refine sq (aI rfl (nn (W_ret (retG1 (v1:=I (-1)) Tryd.results57 rfl ?_))))
 obtain rfl:=so hF
 exact ⟨rfl,(Star.keepN 0 Z)⟩
 have hF:=(ite_f hc32).symm.trans hF
 refine W_skip (W_seq ?_)
 obtain ⟨x38,hx38,hF⟩:=bind_some hF
 refine W_region (fA 4 fa_98_4 rfl rfl (ldB 0 Z Tryd.isAgg52 rfl rfl rfl (mI rfl ?_)))
 obtain ⟨H40b,l41,s42,z43,k44⟩:=Z.borrow
 refine L_call rfl Tryd.call90 (ops2 rfl rfl) (l_szIntSS_c (a:=a.rows) (left:=x24) s42 (RP.mono _ h0_4 l41) hx38) ?_
 rintro _ w45 ⟨rfl,Z⟩
 have Z:=k44 Z c0
 refine aI rfl (nq (sq (mI rfl (L_lss rfl rfl rfl (nn (W_cond (b:=decide (x38 < 0)) rfl (fun hc46=>?_) (fun hc46=>?_)))))))
 have hF:=(ite_t hc46).symm.trans hF
 refine sq (aI rfl (nn (W_ret (retG1 (v1:=I (-1)) Tryd.results57 rfl ?_))))
 obtain rfl:=so hF
 exact ⟨rfl,(Star.keepN 0 Z)⟩
 have hF:=(ite_f hc46).symm.trans hF
 refine W_skip (sq (mI rfl (aI rfl (nn (W_ret (retG1 (v1:=I x38) Tryd.results57 rfl ?_))))))
 obtain rfl:=so hF
 exact ⟨rfl,(Star.keepN 0 Z)⟩
theorem l_szRuleS_c {a : List Rule} {left : Int} {v0 : Value} {H : FH} {w : World} (Z : Star H w []) (h0 : (rS 98 (rRule 3 23)).rel H [v0] a) {r : Int} (hF : l_szRuleS a left = some r) :
 C Tryd.prog 31 #[v0,I left] w fun v w'=>v = I r∧Star H w' []:=by
 unfold l_szRuleS at hF
 refine C_enter Tryd.func31 rfl Tryd.ntmps31 rfl (sq (aI rfl (ns (mI rfl (mV v0 rfl (L_len rfl Tryd.underlying32 rfl (slice_len h0) (L_sub rfl rfl rfl (aI rfl (nq (sq (mI rfl (L_lss rfl rfl rfl (nn (W_cond (b:=decide ((i64 (left - (a.length : Int))) < 0)) rfl (fun hc1=>?_) (fun hc1=>?_)))))))))))))))
 have hF:=(ite_t hc1).symm.trans hF
 refine sq (aI rfl (nn (W_ret (retG1 (v1:=I (-1)) Tryd.results31 rfl ?_))))
 obtain rfl:=so hF
 exact ⟨rfl,Z⟩
 have hF:=(ite_f hc1).symm.trans hF
 refine W_skip (W_seq (sq (aI rfl (nn ?_))))
 have hlen4 : List.length a≤9223372036854775807:=len_le (slice_len h0)
 obtain ⟨j4,hL4,hF⟩:=bind_some hF
 obtain ⟨R4,hR4⟩:=exR fun f w_=>∃ left_3 : Int,j4 = .nx left_3∧f 1 = I left_3∧Star H w_ ([])
 refine W_join R4 ?_ ?_
 refine W_block ?_
 obtain ⟨I4,hI4⟩:=exI fun n f w_=>∃ i_2 : Nat,∃ suf4 : List Rule,∃ left_3 : Int,n = suf4.length∧List.drop i_2 a = suf4∧i_2 + suf4.length = a.length∧rangeL l_szRuleS_b1 suf4 i_2 left_3 = some j4∧f 0 = v0∧f 1 = I left_3∧f 5 = I i_2∧Star H w_ ([])
 refine W_loop I4 (n:=a.length) ?_ ?_
 exact ij hI4 ⟨0,a,i64 (left - (a.length : Int)),rfl,rfl,Nat.zero_add _,hL4,rfl,rfl,rfl,Z⟩
 intro n4 f w_ hI
 obtain ⟨i_2,suf4,left_3,rfl,hd4,hl4,hL4,sf0,sf1,sf5,Z⟩:=ik hI4 hI
 refine W_seq (sq (mF sf5 rfl (mF sf0 rfl (L_len rfl Tryd.underlying32 rfl (slice_len h0) (L_lss rfl rfl rfl (nn (W_cond (b:=decide ((i_2 : Int) < (a.length : Int))) rfl (fun hc5=>?_) (fun hc5=>?_))))))))
 have hlt4:=of_decide_eq_true hc5
 rcases suf4 with _ | ⟨x_4,rest4⟩
 exact absurd hlt4 (by simp at hl4; omega)
 obtain ⟨o4,hB4,hL4⟩:=range_cons hL4
 rw [l_szRuleS_b1] at hB4
 have hix4:=drop_idx hd4
 refine W_skip (W_seq (W_block (W_seq ?_)))
 obtain ⟨x15,hx15,hB4⟩:=bind_some hB4
 refine W_region (mF sf0 rfl (mF sf5 rfl (L_ix (r:=(rRule 3 23)) rfl Tryd.underlying32 Tryd.sizeOf98 rfl h0 rfl hix4 (fun g17 o18 cs_g17 hrk_hat19 hat19=>?_))))
 obtain ⟨u20_0,u20_1,u20_2,rfl,hu20_0,hu20_1,hu20_2⟩:=rRule_iff.1 hrk_hat19
 refine L_lda (cs:=[I x_4.kind,u20_0,u20_1,I x_4.bound,u20_2]) rfl Tryd.isAgg98 Tryd.sizeOf98 rfl (At.sub (AtH.at hat19 Z.sub) 0 5) rfl (mF sf1 rfl ?_)
 obtain ⟨H21b,l22,s23,z24,k25⟩:=Z.borrow
 refine L_call rfl Tryd.call57 (ops2 rfl rfl) (l_szRule_c (a:=x_4) (left:=left_3) s23 (RP.mono _ hu20_0 l22) (RP.mono _ hu20_1 l22) (RP.mono _ hu20_2 l22) hx15) ?_
 rintro _ w26 ⟨rfl,Z⟩
 have Z:=k25 Z c0
 refine aI rfl (ns (mI rfl (L_lss rfl rfl rfl (nn (W_cond (b:=decide (x15 < 0)) rfl (fun hc27=>?_) (fun hc27=>?_))))))
 have hB4:=(ite_t hc27).symm.trans hB4
 refine sq (aI rfl (nn (W_ret (retG1 (v1:=I (-1)) Tryd.results31 rfl ?_))))
 obtain rfl:=so hB4
 obtain rfl:=so hL4
 obtain rfl:=so hF
 exact ⟨rfl,Z⟩
 have hB4:=(ite_f hc27).symm.trans hB4
 refine W_skip (W_region (mF sf5 rfl (L_add rfl rfl rfl (aI rfl (nn ?_)))))
 obtain rfl:=so hB4
 show ∃ m,m < _∧I4 m _ _
 refine ⟨rest4.length,by simp,?_⟩
 exact ij hI4 ⟨i_2 + 1,rest4,x15,rfl,drop_next hd4,by simp at hl4; omega,hL4,sf0,rfl,(Eq.trans rfl (congrArg (Value.int .i64) (i64_succ (n:=a.length) (by simp at hl4; omega) hlen4))),Z⟩
 rcases suf4 with _ | ⟨_,_⟩
 obtain rfl:=range_nil hL4
 refine W_exit (rj hR4 ⟨left_3,rfl,sf1,Z⟩)
 exact absurd (of_decide_eq_false hc5) (by simp at hl4; omega)
 intro f w_ hR
 obtain ⟨left_3,rfl,sf1,Z⟩:=rk hR4 hR
 refine sq (mF sf1 rfl (aI rfl (nn (W_ret (retG1 (v1:=I left_3) Tryd.results31 rfl ?_)))))
 obtain rfl:=so hF
 exact ⟨rfl,Z⟩
theorem l_szModel_c {a : Model} {left : Int} {v0_0 : Value} {v0_1 : Value} {H : FH} {w : World} (Z : Star H w []) (h0_0 : (rS 3 RP.int).rel H [v0_0] a.sizes) (h0_1 : (rS 98 (rRule 3 23)).rel H [v0_1] a.rules) {r : Int} (hF : l_szModel a left = some r) :
 C Tryd.prog 10 #[.agg #[v0_0,v0_1],I left] w fun v w'=>v = I r∧Star H w' []:=by
 unfold l_szModel at hF
 refine C_enter Tryd.func10 rfl Tryd.ntmps10 rfl (sq (L_box (v:=.agg #[v0_0,v0_1]) (cs:=#[v0_0,v0_1]) rfl rfl rfl Z (fun g3 w4 Z=>aI rfl (nq ?_))))
 obtain ⟨x10,hx10,hF⟩:=bind_some hF
 refine W_region (fA 0 fa_34_0 rfl rfl (ldB 0 Z Tryd.isAgg23 rfl rfl rfl (mI rfl ?_)))
 obtain ⟨H12b,l13,s14,z15,k16⟩:=Z.borrow
 refine L_call rfl Tryd.call30 (ops2 rfl rfl) (l_szIntS_c (a:=a.sizes) (left:=left) s14 (RP.mono _ h0_0 l13) hx10) ?_
 rintro _ w17 ⟨rfl,Z⟩
 have Z:=k16 Z c0
 refine aI rfl (nq (sq (mI rfl (L_lss rfl rfl rfl (nn (W_cond (b:=decide (x10 < 0)) rfl (fun hc18=>?_) (fun hc18=>?_)))))))
 have hF:=(ite_t hc18).symm.trans hF
 refine sq (aI rfl (nn (W_ret (retG1 (v1:=I (-1)) Tryd.results10 rfl ?_))))
 obtain rfl:=so hF
 exact ⟨rfl,(Star.keepN 0 Z)⟩
 have hF:=(ite_f hc18).symm.trans hF
 refine W_skip (W_seq ?_)
 obtain ⟨x24,hx24,hF⟩:=bind_some hF
 refine W_region (fA 1 fa_34_1 rfl rfl (ldB 0 Z Tryd.isAgg32 rfl rfl rfl (mI rfl ?_)))
 obtain ⟨H26b,l27,s28,z29,k30⟩:=Z.borrow
 refine L_call rfl Tryd.call31 (ops2 rfl rfl) (l_szRuleS_c (a:=a.rules) (left:=x10) s28 (RP.mono _ h0_1 l27) hx24) ?_
 rintro _ w31 ⟨rfl,Z⟩
 have Z:=k30 Z c0
 refine aI rfl (nq (sq (mI rfl (L_lss rfl rfl rfl (nn (W_cond (b:=decide (x24 < 0)) rfl (fun hc32=>?_) (fun hc32=>?_)))))))
 have hF:=(ite_t hc32).symm.trans hF
 refine sq (aI rfl (nn (W_ret (retG1 (v1:=I (-1)) Tryd.results10 rfl ?_))))
 obtain rfl:=so hF
 exact ⟨rfl,(Star.keepN 0 Z)⟩
 have hF:=(ite_f hc32).symm.trans hF
 refine W_skip (sq (mI rfl (aI rfl (nn (W_ret (retG1 (v1:=I x24) Tryd.results10 rfl ?_))))))
 obtain rfl:=so hF
 exact ⟨rfl,(Star.keepN 0 Z)⟩
theorem s_l6Vars_c {m : Model} {list : List Int} {v0_0 : Value} {v0_1 : Value} {v1 : Value} {H : FH} {w : World} (Z : Star H w []) (h0_0 : (rS 3 RP.int).rel H [v0_0] m.sizes) (h0_1 : (rS 54 (rRule 3 23)).rel H [v0_1] m.rules) (h1 : (rS 3 RP.int).rel H [v1] list) {r : Bool} (hF : s_l6Vars m list = some r) :
 C Tryd.prog 91 #[.agg #[v0_0,v0_1],v1] w fun v w'=>v = Bo r∧Star H w' []:=by
 unfold s_l6Vars at hF
 refine C_enter Tryd.func91 rfl Tryd.ntmps91 rfl (sq (L_box (v:=.agg #[v0_0,v0_1]) (cs:=#[v0_0,v0_1]) rfl rfl rfl Z (fun g3 w4 Z=>aB rfl (nq (sq (aI rfl (nn ?_)))))))
 have hlen8 : List.length list≤9223372036854775807:=len_le (slice_len h1)
 obtain ⟨j8,hL8,hF⟩:=bind_some hF
 obtain ⟨R8,hR8⟩:=exR fun f w_=>∃ H6 : FH,j8 = .nx ()∧Le H H6∧f 1 = v1∧Star H6 w_ ([])
 refine W_join R8 ?_ ?_
 refine W_block ?_
 obtain ⟨I8,hI8⟩:=exI fun n f w_=>∃ i_5 : Nat,∃ suf8 : List Int,∃ H6 : FH,n = suf8.length∧List.drop i_5 list = suf8∧i_5 + suf8.length = list.length∧rangeL (s_l6Vars_b1 m list) suf8 i_5 () = some j8∧Le H H6∧f 1 = v1∧f 2 = Pt g3∧f 5 = I i_5∧Star H6 w_ ([box g3 26 #[v0_0,v0_1]])
 refine W_loop I8 (n:=list.length) ?_ ?_
 exact ij hI8 ⟨0,list,H,rfl,rfl,Nat.zero_add _,hL8,(Le.refl _),rfl,rfl,rfl,Z⟩
 intro n8 f w_ hI
 obtain ⟨i_5,suf8,H6,rfl,hd8,hl8,hL8,l7,sf1,sf2,sf5,Z⟩:=ik hI8 hI
 refine W_seq (sq (mF sf5 rfl (mF sf1 rfl (L_len rfl Tryd.underlying23 rfl (slice_len (RP.mono _ h1 l7)) (L_lss rfl rfl rfl (nn (W_cond (b:=decide ((i_5 : Int) < (list.length : Int))) rfl (fun hc9=>?_) (fun hc9=>?_))))))))
 have hlt8:=of_decide_eq_true hc9
 rcases suf8 with _ | ⟨x_8,rest8⟩
 exact absurd hlt8 (by simp at hl8; omega)
 obtain ⟨o8,hB8,hL8⟩:=range_cons hL8
 rw [s_l6Vars_b1] at hB8
 have hix8:=drop_idx hd8
 refine W_skip (W_seq (W_block (W_seq (W_seq ?_))))
 obtain ⟨R21,hR21⟩:=exR fun f w_=>∃ H19 : FH,Le H6 H19∧f 1 = v1∧f 2 = Pt g3∧f 5 = I i_5∧f 27 = Bo ((decide (x_8 < 0)) || (decide (x_8 ≥ (m.sizes.length : Int))))∧Star H19 w_ ([box g3 26 #[v0_0,v0_1]])
 refine W_join R21 ?_ ?_
 rcases Bool.eq_false_or_eq_true (decide (x_8 < 0)) with hc22 | hc22
 refine W_drawS 13 [isV (v1),isV (I i_5),isEl RP.int x_8 0,isV (I x_8),isV (Bo (decide (x_8 < 0))),isV (Bo (decide (x_8 < 0))),isV (undef),isV (undef),isV (undef),isV (undef),isV (undef),isV (undef),isV (undef)] [box g3 26 #[v0_0,v0_1]] [] ([]) [([],[]),([],[]),([],[]),([],[]),([],[]),([],[]),([],[]),([],[]),([],[]),([],[]),([],[]),([],[]),([],[])] (S:=[]) Tryd_mix (by kernel_rfl) rfl (by kernel_rfl) (amF_cons (mono_V _) (amF_cons (mono_V _) (amF_cons (mono_el _ _ _) (amF_cons (mono_V _) (amF_cons (mono_V _) (amF_cons (mono_V _) (amF_cons (mono_V _) (amF_cons (mono_V _) (amF_cons (mono_V _) (amF_cons (mono_V _) (amF_cons (mono_V _) (amF_cons (mono_V _) (amF_cons (mono_V _) amF_nil))))))))))))) Z ?_ (fun f w_ H18 hS18 hE18 hT18 Z=>?_)
 refine opsS_cons (fun f w_ _ _ s _ _ Z=>mF ((s 1 rfl).trans sf1) rfl (nO rfl rfl Z)) (opsS_cons (fun f w_ _ _ s _ _ Z=>mF ((s 5 rfl).trans sf5) rfl (nO rfl rfl Z)) (opsS_cons ?_ ?_))
 intro f w_ H18 X18 hS18 hE18 hP18 Z
 refine L_ix (r:=RP.int) rfl Tryd.underlying23 Tryd.sizeOf3 (hP18 0 13 rfl rfl) (RP.mono _ h1 (Le.trans l7 hE18)) (hP18 1 14 rfl rfl) hix8 (fun g27 o28 cs_g27 hrk_hat29 hat29=>?_)
 obtain rfl : _ = [_]:=hrk_hat29
 exact L_nil ⟨rfl,_,_,rfl,Le.refl _,fun _ _=>⟨_,_,_,rfl,rfl,hat29⟩,Z⟩
 refine opsS_cons ?_ ?_
 intro f w_ H18 X18 hS18 hE18 hP18 Z
 obtain ⟨g31,o31,cs31,hv31,hrk_hat31,hat31⟩:=(hP18 2 15 rfl rfl)
 obtain rfl : _ = [_]:=hrk_hat31
 refine L_ld rfl Tryd.isAgg3 hv31 (At.cell (AtH.at hat31 Z.sub) (j:=0) rfl) (L_nil ⟨rfl,_,_,rfl,Le.refl _,fun _ _=>rfl,Z⟩)
 refine opsS_cons (fun f w_ _ _ _ _ p Z=>L_lss rfl (p 3 16 rfl rfl) rfl (nO rfl rfl Z)) (opsS_cons (fun f w_ _ _ _ _ p Z=>mF (p 4 17 rfl rfl) rfl (nO rfl rfl Z)) (oP (fun _ _ p=>gN (p 5 18 rfl rfl) hc22 rfl) (fun _=>rfl) (oP (fun _ _ p=>gN (p 5 18 rfl rfl) hc22 rfl) (fun _=>rfl) (oP (fun _ _ p=>gN (p 5 18 rfl rfl) hc22 rfl) (fun _=>rfl) (oP (fun _ _ p=>gN (p 5 18 rfl rfl) hc22 rfl) (fun _=>rfl) (oP (fun _ _ p=>gN (p 5 18 rfl rfl) hc22 rfl) (fun _=>rfl) (oP (fun _ _ p=>gN (p 5 18 rfl rfl) hc22 rfl) (fun _=>rfl) (oP (fun _ _ p=>gN (p 5 18 rfl rfl) hc22 rfl) (fun _=>rfl) (opsS_nil)))))))))
 refine ps (g_no rfl (Eq.trans (hT18 5 18 rfl rfl) (congrArg Value.bool hc22)) rfl rfl) (L_pick (v:=Bo ((decide (x_8 < 0)) || (decide (x_8 ≥ (m.sizes.length : Int))))) rfl (Eq.trans (hT18 5 18 rfl rfl) (congrArg Value.bool hc22)) (or_t hc22) (nn (rj hR21 ⟨H18,hE18,((hS18 1 rfl).trans sf1),((hS18 2 rfl).trans sf2),((hS18 5 rfl).trans sf5),rfl,Z⟩)))
 refine W_drawS 13 [isV (v1),isV (I i_5),isEl RP.int x_8 0,isV (I x_8),isV (Bo (decide (x_8 < 0))),isV (Bo (decide (x_8 < 0))),isV (v1),isV (I i_5),isEl RP.int x_8 0,isV (I x_8),isV (Pt g3),isV (v0_0),isV (I (m.sizes.length : Int))] [box g3 26 #[v0_0,v0_1]] [] ([]) [([],[]),([],[]),([],[]),([],[]),([],[]),([],[]),([],[]),([],[]),([],[]),([],[]),([],[]),([],[]),([],[])] (S:=[]) Tryd_mix (by kernel_rfl) rfl (by kernel_rfl) (amF_cons (mono_V _) (amF_cons (mono_V _) (amF_cons (mono_el _ _ _) (amF_cons (mono_V _) (amF_cons (mono_V _) (amF_cons (mono_V _) (amF_cons (mono_V _) (amF_cons (mono_V _) (amF_cons (mono_el _ _ _) (amF_cons (mono_V _) (amF_cons (mono_V _) (amF_cons (mono_V _) (amF_cons (mono_V _) amF_nil))))))))))))) Z ?_ (fun f w_ H18 hS18 hE18 hT18 Z=>?_)
 refine opsS_cons (fun f w_ _ _ s _ _ Z=>mF ((s 1 rfl).trans sf1) rfl (nO rfl rfl Z)) (opsS_cons (fun f w_ _ _ s _ _ Z=>mF ((s 5 rfl).trans sf5) rfl (nO rfl rfl Z)) (opsS_cons ?_ ?_))
 intro f w_ H18 X18 hS18 hE18 hP18 Z
 refine L_ix (r:=RP.int) rfl Tryd.underlying23 Tryd.sizeOf3 (hP18 0 13 rfl rfl) (RP.mono _ h1 (Le.trans l7 hE18)) (hP18 1 14 rfl rfl) hix8 (fun g41 o42 cs_g41 hrk_hat43 hat43=>?_)
 obtain rfl : _ = [_]:=hrk_hat43
 exact L_nil ⟨rfl,_,_,rfl,Le.refl _,fun _ _=>⟨_,_,_,rfl,rfl,hat43⟩,Z⟩
 refine opsS_cons ?_ ?_
 intro f w_ H18 X18 hS18 hE18 hP18 Z
 obtain ⟨g45,o45,cs45,hv45,hrk_hat45,hat45⟩:=(hP18 2 15 rfl rfl)
 obtain rfl : _ = [_]:=hrk_hat45
 refine L_ld rfl Tryd.isAgg3 hv45 (At.cell (AtH.at hat45 Z.sub) (j:=0) rfl) (L_nil ⟨rfl,_,_,rfl,Le.refl _,fun _ _=>rfl,Z⟩)
 refine opsS_cons (fun f w_ _ _ _ _ p Z=>L_lss rfl (p 3 16 rfl rfl) rfl (nO rfl rfl Z)) (opsS_cons (fun f w_ _ _ _ _ p Z=>mF (p 4 17 rfl rfl) rfl (nO rfl rfl Z)) (opsS_cons (fun f w_ _ _ s _ p Z=>L_mv (v:=v1) (g_yes rfl (Eq.trans (p 5 18 rfl rfl) (congrArg Value.bool hc22)) rfl) ((s 1 rfl).trans sf1) (nO rfl rfl Z)) (opsS_cons (fun f w_ _ _ s _ p Z=>L_mv (v:=I i_5) (g_yes rfl (Eq.trans (p 5 18 rfl rfl) (congrArg Value.bool hc22)) rfl) ((s 5 rfl).trans sf5) (nO rfl rfl Z)) (opsS_cons ?_ ?_))))
 intro f w_ H18 X18 hS18 hE18 hP18 Z
 refine L_ix (r:=RP.int) (g_yes rfl (Eq.trans (hP18 5 18 rfl rfl) (congrArg Value.bool hc22)) rfl) Tryd.underlying23 Tryd.sizeOf3 (hP18 6 19 rfl rfl) (RP.mono _ h1 (Le.trans l7 hE18)) (hP18 7 20 rfl rfl) hix8 (fun g47 o48 cs_g47 hrk_hat49 hat49=>?_)
 obtain rfl : _ = [_]:=hrk_hat49
 exact L_nil ⟨rfl,_,_,rfl,Le.refl _,fun _ _=>⟨_,_,_,rfl,rfl,hat49⟩,Z⟩
 refine opsS_cons ?_ ?_
 intro f w_ H18 X18 hS18 hE18 hP18 Z
 obtain ⟨g51,o51,cs51,hv51,hrk_hat51,hat51⟩:=(hP18 8 21 rfl rfl)
 obtain rfl : _ = [_]:=hrk_hat51
 refine L_ld (v:=I x_8) (g_yes rfl (Eq.trans (hP18 5 18 rfl rfl) (congrArg Value.bool hc22)) rfl) Tryd.isAgg3 hv51 (At.cell (AtH.at hat51 Z.sub) (j:=0) rfl) (L_nil ⟨rfl,_,_,rfl,Le.refl _,fun _ _=>rfl,Z⟩)
 refine opsS_cons (fun f w_ _ _ s _ p Z=>L_fa (o':=0) (g_yes rfl (Eq.trans (p 5 18 rfl rfl) (congrArg Value.bool hc22)) rfl) fa_26_0 ((s 2 rfl).trans sf2) rfl (nO rfl rfl Z)) (opsS_cons (fun f w_ _ _ _ _ p Z=>L_ld (v:=v0_0) (g_yes rfl (Eq.trans (p 5 18 rfl rfl) (congrArg Value.bool hc22)) rfl) Tryd.isAgg23 (p 10 23 rfl rfl) (At.cell0 (Blk.at (Star.blkAt 0 Z rfl)) (j:=0) rfl) (nO rfl rfl Z)) (opsS_cons (fun f w_ _ _ _ hE18 p Z=>L_len (g_yes rfl (Eq.trans (p 5 18 rfl rfl) (congrArg Value.bool hc22)) rfl) Tryd.underlying23 (p 11 24 rfl rfl) (slice_len (RP.mono _ h0_0 (Le.trans l7 hE18))) (nO rfl rfl Z)) (opsS_nil)))
 refine L_geq (g_yes rfl (Eq.trans (hT18 5 18 rfl rfl) (congrArg Value.bool hc22)) rfl) (hT18 9 22 rfl rfl) (hT18 12 25 rfl rfl) (L_pick (v:=Bo ((decide (x_8 < 0)) || (decide (x_8 ≥ (m.sizes.length : Int))))) rfl (Eq.trans (hT18 5 18 rfl rfl) (congrArg Value.bool hc22)) (or_f hc22 rfl) (nn (rj hR21 ⟨H18,hE18,((hS18 1 rfl).trans sf1),((hS18 2 rfl).trans sf2),((hS18 5 rfl).trans sf5),rfl,Z⟩)))
 intro f w_ hR
 obtain ⟨H19,l20,sf1,sf2,sf5,sf27,Z⟩:=rk hR21 hR
 refine W_cond (b:=((decide (x_8 < 0)) || (decide (x_8 ≥ (m.sizes.length : Int))))) sf27 (fun hc53=>?_) (fun hc53=>?_)
 have hB8:=(ite_t hc53).symm.trans hB8
 refine sq (aB rfl (nn (W_ret (retG1 (v1:=Bo false) Tryd.results91 rfl ?_))))
 obtain rfl:=so hB8
 obtain rfl:=so hL8
 obtain rfl:=so hF
 exact ⟨rfl,(Star.down (Star.keepN 0 Z) (Le.trans l7 l20) c0)⟩
 have hB8:=(ite_f hc53).symm.trans hB8
 refine W_skip (sq (aI rfl (nn ?_)))
 obtain ⟨k58,hk58,hB8⟩:=bind_some hB8
 obtain ⟨j57,hL57,hB8⟩:=bind_some hB8
 obtain ⟨R57,hR57⟩:=exR fun f w_=>∃ H55 : FH,j57 = .nx ()∧Le H19 H55∧f 1 = v1∧f 2 = Pt g3∧f 5 = I i_5∧Star H55 w_ ([box g3 26 #[v0_0,v0_1]])
 refine W_join R57 ?_ ?_
 refine W_block ?_
 obtain ⟨I57,hI57⟩:=exI fun n f w_=>∃ i_54 : Nat,∃ suf57 : Nat,∃ H55 : FH,suf57 = n∧0≤i_54∧i_54 + suf57 = 0 + k58∧countL (s_l6Vars_b2 list x_8) suf57 i_54 () = some j57∧Le H19 H55∧f 1 = v1∧f 2 = Pt g3∧f 5 = I i_5∧f 6 = I i_54∧Star H55 w_ ([box g3 26 #[v0_0,v0_1]])
 refine W_loop I57 (n:=k58) ?_ ?_
 exact ij hI57 ⟨0,k58,H19,rfl,Nat.le_refl _,rfl,hL57,(Le.refl _),sf1,sf2,sf5,rfl,Z⟩
 intro n57 f w_ hI
 obtain ⟨i_54,suf57,H55,rfl,hs57,hl57,hL57,l56,sf1,sf2,sf5,sf6,Z⟩:=ik hI57 hI
 refine W_seq (sq (mF sf6 rfl (mF sf5 rfl (L_lss rfl rfl rfl (nn (W_cond (b:=decide ((i_54 : Int) < (i_5 : Int))) rfl (fun hc59=>?_) (fun hc59=>?_)))))))
 have hlt57:=of_decide_eq_true hc59
 rcases suf57 with _ | rest57
 exact absurd hlt57 (cntF_no hl57 hk58)
 obtain ⟨o57,hB57,hL57⟩:=count_succ hL57
 rw [s_l6Vars_b2] at hB57
 refine W_skip (W_seq (W_block (W_seq ?_)))
 obtain ⟨x60,hx60,hB57⟩:=bind_some hB57
 refine W_drawS 8 [isV (v1),isV (I i_54),isEl RP.int x60 0,isV (I x60),isV (v1),isV (I i_5),isEl RP.int x_8 0,isV (I x_8)] [box g3 26 #[v0_0,v0_1]] [] ([]) [([],[]),([],[]),([],[]),([],[]),([],[]),([],[]),([],[]),([],[])] (S:=[]) Tryd_mix (by kernel_rfl) rfl (by kernel_rfl) (amF_cons (mono_V _) (amF_cons (mono_V _) (amF_cons (mono_el _ _ _) (amF_cons (mono_V _) (amF_cons (mono_V _) (amF_cons (mono_V _) (amF_cons (mono_el _ _ _) (amF_cons (mono_V _) amF_nil)))))))) Z ?_ (fun f w_ H69 hS69 hE69 hT69 Z=>?_)
 refine opsS_cons (fun f w_ _ _ s _ _ Z=>mF ((s 1 rfl).trans sf1) rfl (nO rfl rfl Z)) (opsS_cons (fun f w_ _ _ s _ _ Z=>mF ((s 6 rfl).trans sf6) rfl (nO rfl rfl Z)) (opsS_cons ?_ ?_))
 intro f w_ H69 X69 hS69 hE69 hP69 Z
 refine L_ix (r:=RP.int) rfl Tryd.underlying23 Tryd.sizeOf3 (hP69 0 33 rfl rfl) (RP.mono _ h1 (Le.trans (Le.trans (Le.trans l7 l20) l56) hE69)) (hP69 1 34 rfl rfl) hx60 (fun g78 o79 cs_g78 hrk_hat80 hat80=>?_)
 obtain rfl : _ = [_]:=hrk_hat80
 exact L_nil ⟨rfl,_,_,rfl,Le.refl _,fun _ _=>⟨_,_,_,rfl,rfl,hat80⟩,Z⟩
 refine opsS_cons ?_ ?_
 intro f w_ H69 X69 hS69 hE69 hP69 Z
 obtain ⟨g82,o82,cs82,hv82,hrk_hat82,hat82⟩:=(hP69 2 35 rfl rfl)
 obtain rfl : _ = [_]:=hrk_hat82
 refine L_ld rfl Tryd.isAgg3 hv82 (At.cell (AtH.at hat82 Z.sub) (j:=0) rfl) (L_nil ⟨rfl,_,_,rfl,Le.refl _,fun _ _=>rfl,Z⟩)
 refine opsS_cons (fun f w_ _ _ s _ _ Z=>mF ((s 1 rfl).trans sf1) rfl (nO rfl rfl Z)) (opsS_cons (fun f w_ _ _ s _ _ Z=>mF ((s 5 rfl).trans sf5) rfl (nO rfl rfl Z)) (opsS_cons ?_ ?_))
 intro f w_ H69 X69 hS69 hE69 hP69 Z
 refine L_ix (r:=RP.int) rfl Tryd.underlying23 Tryd.sizeOf3 (hP69 4 37 rfl rfl) (RP.mono _ h1 (Le.trans (Le.trans (Le.trans l7 l20) l56) hE69)) (hP69 5 38 rfl rfl) hix8 (fun g84 o85 cs_g84 hrk_hat86 hat86=>?_)
 obtain rfl : _ = [_]:=hrk_hat86
 exact L_nil ⟨rfl,_,_,rfl,Le.refl _,fun _ _=>⟨_,_,_,rfl,rfl,hat86⟩,Z⟩
 refine opsS_cons ?_ ?_
 intro f w_ H69 X69 hS69 hE69 hP69 Z
 obtain ⟨g88,o88,cs88,hv88,hrk_hat88,hat88⟩:=(hP69 6 39 rfl rfl)
 obtain rfl : _ = [_]:=hrk_hat88
 refine L_ld rfl Tryd.isAgg3 hv88 (At.cell (AtH.at hat88 Z.sub) (j:=0) rfl) (L_nil ⟨rfl,_,_,rfl,Le.refl _,fun _ _=>rfl,Z⟩)
 exact opsS_nil
 refine L_eql rfl (hT69 3 36 rfl rfl) (hT69 7 40 rfl rfl) (nn (W_cond (b:=(x60 == x_8)) rfl (fun hc90=>?_) (fun hc90=>?_)))
 have hB57:=(ite_t hc90).symm.trans hB57
 refine sq (aB rfl (nn (W_ret (retG1 (v1:=Bo false) Tryd.results91 rfl ?_))))
 obtain rfl:=so hB57
 obtain rfl:=so hL57
 obtain rfl:=so hB8
 obtain rfl:=so hL8
 obtain rfl:=so hF
 exact ⟨rfl,(Star.down (Star.keepN 0 Z) (Le.trans (Le.trans (Le.trans l7 l20) l56) hE69) c0)⟩
 have hB57:=(ite_f hc90).symm.trans hB57
 refine W_skip (W_region (mF ((hS69 6 rfl).trans sf6) rfl (L_add rfl rfl rfl (aI rfl (nn ?_)))))
 obtain rfl:=so hB57
 show ∃ m,m < _∧I57 m _ _
 refine ⟨rest57,Nat.lt_succ_self _,?_⟩
 exact ij hI57 ⟨i_54 + 1,rest57,H69,rfl,by omega,by omega,hL57,(Le.trans l56 hE69),((hS69 1 rfl).trans sf1),((hS69 2 rfl).trans sf2),((hS69 5 rfl).trans sf5),(Eq.trans rfl (congrArg (Value.int .i64) (i64_succ (n:=0 + k58) (by omega) (cntF_le hk58)))),Z⟩
 rcases suf57 with _ | _
 obtain rfl:=count_zero hL57
 refine W_exit (rj hR57 ⟨H55,rfl,l56,sf1,sf2,sf5,Z⟩)
 exact absurd (cntF_yes hs57 hl57 hk58) (of_decide_eq_false hc59)
 intro f w_ hR
 obtain ⟨H55,rfl,l56,sf1,sf2,sf5,Z⟩:=rk hR57 hR
 refine W_region (mF sf5 rfl (L_add rfl rfl rfl (aI rfl (nn ?_))))
 obtain rfl:=so hB8
 show ∃ m,m < _∧I8 m _ _
 refine ⟨rest8.length,by simp,?_⟩
 exact ij hI8 ⟨i_5 + 1,rest8,H55,rfl,drop_next hd8,by simp at hl8; omega,hL8,(Le.trans (Le.trans l7 l20) l56),sf1,sf2,(Eq.trans rfl (congrArg (Value.int .i64) (i64_succ (n:=list.length) (by simp at hl8; omega) hlen8))),Z⟩
 rcases suf8 with _ | ⟨_,_⟩
 obtain rfl:=range_nil hL8
 refine W_exit (rj hR8 ⟨H6,rfl,l7,sf1,(Star.keepN 0 Z)⟩)
 exact absurd (of_decide_eq_false hc9) (by simp at hl8; omega)
 intro f w_ hR
 obtain ⟨H6,rfl,l7,sf1,Z⟩:=rk hR8 hR
 refine sq (mF sf1 rfl (L_len rfl Tryd.underlying23 rfl (slice_len (RP.mono _ h1 l7)) (L_geq rfl rfl rfl (aB rfl (nn (W_ret (retG1 (v1:=Bo (decide ((list.length : Int) ≥ 1))) Tryd.results91 rfl ?_)))))))
 obtain rfl:=so hF
 exact ⟨rfl,(Star.down Z l7 c0)⟩
theorem s_l6Linear_c {r_ : Rule} {v0_1 : Value} {v0_2 : Value} {v0_4 : Value} {H : FH} {w : World} (Z : Star H w []) (h0_1 : (rS 3 RP.int).rel H [v0_1] r_.vars) (h0_2 : (rS 3 RP.int).rel H [v0_2] r_.coefs) (h0_4 : (rS 23 (rS 3 RP.int)).rel H [v0_4] r_.rows) {r : Bool} (hF : s_l6Linear r_ = some r) :
 C Tryd.prog 92 #[.agg #[I r_.kind,v0_1,v0_2,I r_.bound,v0_4]] w fun v w'=>v = Bo r∧Star H w' []:=by
 unfold s_l6Linear at hF
 refine C_enter Tryd.func92 rfl Tryd.ntmps92 rfl (sq (L_box (v:=.agg #[I r_.kind,v0_1,v0_2,I r_.bound,v0_4]) (cs:=#[I r_.kind,v0_1,v0_2,I r_.bound,v0_4]) rfl rfl rfl Z (fun g3 w4 Z=>aB rfl (nq (sq (aI rfl (nn ?_)))))))
 have hlen6 : List.length r_.coefs≤9223372036854775807:=len_le (slice_len h0_2)
 obtain ⟨j6,hL6,hF⟩:=bind_some hF
 obtain ⟨R6,hR6⟩:=exR fun f w_=>j6 = .nx ()∧f 1 = Pt g3∧Star H w_ ([box g3 54 #[I r_.kind,v0_1,v0_2,I r_.bound,v0_4]])
 refine W_join R6 ?_ ?_
 refine W_block ?_
 obtain ⟨I6,hI6⟩:=exI fun n f w_=>∃ i_5 : Nat,∃ suf6 : List Int,n = suf6.length∧List.drop i_5 r_.coefs = suf6∧i_5 + suf6.length = r_.coefs.length∧rangeL s_l6Linear_b1 suf6 i_5 () = some j6∧f 1 = Pt g3∧f 3 = I i_5∧Star H w_ ([box g3 54 #[I r_.kind,v0_1,v0_2,I r_.bound,v0_4]])
 refine W_loop I6 (n:=r_.coefs.length) ?_ ?_
 exact ij hI6 ⟨0,r_.coefs,rfl,rfl,Nat.zero_add _,hL6,rfl,rfl,Z⟩
 intro n6 f w_ hI
 obtain ⟨i_5,suf6,rfl,hd6,hl6,hL6,sf1,sf3,Z⟩:=ik hI6 hI
 refine W_seq (sq (mF sf3 rfl (fA 2 fa_54_2 sf1 rfl (ldB 0 Z Tryd.isAgg23 rfl rfl rfl (L_len rfl Tryd.underlying23 rfl (slice_len h0_2) (L_lss rfl rfl rfl (nn (W_cond (b:=decide ((i_5 : Int) < (r_.coefs.length : Int))) rfl (fun hc7=>?_) (fun hc7=>?_)))))))))
 have hlt6:=of_decide_eq_true hc7
 rcases suf6 with _ | ⟨x_6,rest6⟩
 exact absurd hlt6 (by simp at hl6; omega)
 obtain ⟨o6,hB6,hL6⟩:=range_cons hL6
 rw [s_l6Linear_b1] at hB6
 have hix6:=drop_idx hd6
 refine W_skip (W_seq (W_block (W_seq ?_)))
 obtain ⟨R20,hR20⟩:=exR fun f w_=>f 1 = Pt g3∧f 3 = I i_5∧f 32 = Bo (((decide (x_6 < (-9))) || (decide (x_6 > 9))) || (x_6 == 0))∧Star H w_ ([box g3 54 #[I r_.kind,v0_1,v0_2,I r_.bound,v0_4]])
 refine W_join R20 ?_ ?_
 refine W_region (fA 2 fa_54_2 sf1 rfl (ldB 0 Z Tryd.isAgg23 rfl rfl rfl (mF sf3 rfl (L_ix (r:=RP.int) rfl Tryd.underlying23 Tryd.sizeOf3 rfl h0_2 rfl hix6 (fun g21 o22 cs_g21 hrk_hat23 hat23=>?_)))))
 obtain rfl : _ = [_]:=hrk_hat23
 refine L_ld rfl Tryd.isAgg3 rfl (At.cell (AtH.at hat23 Z.sub) (j:=0) rfl) (L_lss rfl rfl rfl (mB rfl (L_split (d:=17) (b:=decide (x_6 < (-9))) rfl (fun hc25=>?_) (fun hc25=>?_))))
 refine ps rfl (ps rfl (ps rfl (ps rfl (ps rfl (ps rfl (L_pick (v:=Bo ((decide (x_6 < (-9))) || (decide (x_6 > 9)))) rfl rfl (or_t hc25) (mB rfl (L_split (d:=25) (b:=((decide (x_6 < (-9))) || (decide (x_6 > 9)))) rfl (fun hc26=>?_) (fun hc26=>?_)))))))))
 refine ps rfl (ps rfl (ps rfl (ps rfl (ps rfl (ps rfl (L_pick (v:=Bo (((decide (x_6 < (-9))) || (decide (x_6 > 9))) || (x_6 == 0))) rfl rfl (or_t hc26) (nn (rj hR20 ⟨sf1,sf3,rfl,Z⟩))))))))
 refine fA 2 fa_54_2 sf1 rfl (ldB 0 Z Tryd.isAgg23 rfl rfl rfl (mF sf3 rfl (L_ix (r:=RP.int) rfl Tryd.underlying23 Tryd.sizeOf3 rfl h0_2 rfl hix6 (fun g27 o28 cs_g27 hrk_hat29 hat29=>?_))))
 obtain rfl : _ = [_]:=hrk_hat29
 refine L_ld rfl Tryd.isAgg3 rfl (At.cell (AtH.at hat29 Z.sub) (j:=0) rfl) (L_eql rfl rfl rfl (L_pick (v:=Bo (((decide (x_6 < (-9))) || (decide (x_6 > 9))) || (x_6 == 0))) rfl rfl (or_f hc26 rfl) (nn (rj hR20 ⟨sf1,sf3,rfl,Z⟩))))
 refine fA 2 fa_54_2 sf1 rfl (ldB 0 Z Tryd.isAgg23 rfl rfl rfl (mF sf3 rfl (L_ix (r:=RP.int) rfl Tryd.underlying23 Tryd.sizeOf3 rfl h0_2 rfl hix6 (fun g31 o32 cs_g31 hrk_hat33 hat33=>?_))))
 obtain rfl : _ = [_]:=hrk_hat33
 refine L_ld rfl Tryd.isAgg3 rfl (At.cell (AtH.at hat33 Z.sub) (j:=0) rfl) (L_gtr rfl rfl rfl (L_pick (v:=Bo ((decide (x_6 < (-9))) || (decide (x_6 > 9)))) rfl rfl (or_f hc25 rfl) (mB rfl (L_split (d:=25) (b:=((decide (x_6 < (-9))) || (decide (x_6 > 9)))) rfl (fun hc35=>?_) (fun hc35=>?_)))))
 refine ps rfl (ps rfl (ps rfl (ps rfl (ps rfl (ps rfl (L_pick (v:=Bo (((decide (x_6 < (-9))) || (decide (x_6 > 9))) || (x_6 == 0))) rfl rfl (or_t hc35) (nn (rj hR20 ⟨sf1,sf3,rfl,Z⟩))))))))
 refine fA 2 fa_54_2 sf1 rfl (ldB 0 Z Tryd.isAgg23 rfl rfl rfl (mF sf3 rfl (L_ix (r:=RP.int) rfl Tryd.underlying23 Tryd.sizeOf3 rfl h0_2 rfl hix6 (fun g36 o37 cs_g36 hrk_hat38 hat38=>?_))))
 obtain rfl : _ = [_]:=hrk_hat38
 refine L_ld rfl Tryd.isAgg3 rfl (At.cell (AtH.at hat38 Z.sub) (j:=0) rfl) (L_eql rfl rfl rfl (L_pick (v:=Bo (((decide (x_6 < (-9))) || (decide (x_6 > 9))) || (x_6 == 0))) rfl rfl (or_f hc35 rfl) (nn (rj hR20 ⟨sf1,sf3,rfl,Z⟩))))
 intro f w_ hR
 obtain ⟨sf1,sf3,sf32,Z⟩:=rk hR20 hR
 refine W_cond (b:=(((decide (x_6 < (-9))) || (decide (x_6 > 9))) || (x_6 == 0))) sf32 (fun hc40=>?_) (fun hc40=>?_)
 have hB6:=(ite_t hc40).symm.trans hB6
 refine sq (aB rfl (nn (W_ret (retG1 (v1:=Bo false) Tryd.results92 rfl ?_))))
 obtain rfl:=so hB6
 obtain rfl:=so hL6
 obtain rfl:=so hF
 exact ⟨rfl,(Star.keepN 0 Z)⟩
 have hB6:=(ite_f hc40).symm.trans hB6
 refine W_skip (W_region (mF sf3 rfl (L_add rfl rfl rfl (aI rfl (nn ?_)))))
 obtain rfl:=so hB6
 show ∃ m,m < _∧I6 m _ _
 refine ⟨rest6.length,by simp,?_⟩
 exact ij hI6 ⟨i_5 + 1,rest6,rfl,drop_next hd6,by simp at hl6; omega,hL6,sf1,(Eq.trans rfl (congrArg (Value.int .i64) (i64_succ (n:=r_.coefs.length) (by simp at hl6; omega) hlen6))),Z⟩
 rcases suf6 with _ | ⟨_,_⟩
 obtain rfl:=range_nil hL6
 refine W_exit (rj hR6 ⟨rfl,sf1,Z⟩)
 exact absurd (of_decide_eq_false hc7) (by simp at hl6; omega)
 intro f w_ hR
 obtain ⟨rfl,sf1,Z⟩:=rk hR6 hR
 refine W_seq ?_
 obtain ⟨R41,hR41⟩:=exR fun f w_=>f 2 = Bo ((((r_.coefs.length : Int) == (r_.vars.length : Int)) && (decide (r_.bound ≥ (-1000)))) && (decide (r_.bound≤1000)))∧Star H w_ ([])
 refine W_join R41 ?_ ?_
 refine W_region (fA 2 fa_54_2 sf1 rfl (ldB 0 Z Tryd.isAgg23 rfl rfl rfl (L_len rfl Tryd.underlying23 rfl (slice_len h0_2) (fA 1 fa_54_1 sf1 rfl (ldB 0 Z Tryd.isAgg23 rfl rfl rfl (L_len rfl Tryd.underlying23 rfl (slice_len h0_1) (L_eql rfl rfl rfl (mB rfl (L_split (d:=40) (b:=((r_.coefs.length : Int) == (r_.vars.length : Int))) rfl (fun hc42=>?_) (fun hc42=>?_))))))))))
 refine fA 3 fa_54_3 sf1 rfl (ldB 0 Z Tryd.isAgg3 rfl rfl rfl (L_geq rfl rfl rfl (L_pick (v:=Bo (((r_.coefs.length : Int) == (r_.vars.length : Int)) && (decide (r_.bound ≥ (-1000))))) rfl rfl (and_t hc42 rfl) (mB rfl (L_split (d:=45) (b:=(((r_.coefs.length : Int) == (r_.vars.length : Int)) && (decide (r_.bound ≥ (-1000))))) rfl (fun hc43=>?_) (fun hc43=>?_))))))
 refine fA 3 fa_54_3 sf1 rfl (ldB 0 Z Tryd.isAgg3 rfl rfl rfl (L_leq rfl rfl rfl (L_pick (v:=Bo ((((r_.coefs.length : Int) == (r_.vars.length : Int)) && (decide (r_.bound ≥ (-1000)))) && (decide (r_.bound≤1000)))) rfl rfl (and_t hc43 rfl) (aB rfl (nn (rj hR41 ⟨rfl,(Star.keepN 0 Z)⟩))))))
 refine ps rfl (ps rfl (ps rfl (L_pick (v:=Bo ((((r_.coefs.length : Int) == (r_.vars.length : Int)) && (decide (r_.bound ≥ (-1000)))) && (decide (r_.bound≤1000)))) rfl rfl (and_f hc43) (aB rfl (nn (rj hR41 ⟨rfl,(Star.keepN 0 Z)⟩))))))
 refine ps rfl (ps rfl (ps rfl (L_pick (v:=Bo (((r_.coefs.length : Int) == (r_.vars.length : Int)) && (decide (r_.bound ≥ (-1000))))) rfl rfl (and_f hc42) (mB rfl (L_split (d:=45) (b:=(((r_.coefs.length : Int) == (r_.vars.length : Int)) && (decide (r_.bound ≥ (-1000))))) rfl (fun hc44=>?_) (fun hc44=>?_))))))
 refine fA 3 fa_54_3 sf1 rfl (ldB 0 Z Tryd.isAgg3 rfl rfl rfl (L_leq rfl rfl rfl (L_pick (v:=Bo ((((r_.coefs.length : Int) == (r_.vars.length : Int)) && (decide (r_.bound ≥ (-1000)))) && (decide (r_.bound≤1000)))) rfl rfl (and_t hc44 rfl) (aB rfl (nn (rj hR41 ⟨rfl,(Star.keepN 0 Z)⟩))))))
 refine ps rfl (ps rfl (ps rfl (L_pick (v:=Bo ((((r_.coefs.length : Int) == (r_.vars.length : Int)) && (decide (r_.bound ≥ (-1000)))) && (decide (r_.bound≤1000)))) rfl rfl (and_f hc44) (aB rfl (nn (rj hR41 ⟨rfl,(Star.keepN 0 Z)⟩))))))
 intro f w_ hR
 obtain ⟨sf2,Z⟩:=rk hR41 hR
 refine W_ret (retG1 (v1:=Bo ((((r_.coefs.length : Int) == (r_.vars.length : Int)) && (decide (r_.bound ≥ (-1000)))) && (decide (r_.bound≤1000)))) Tryd.results92 sf2 ?_)
 obtain rfl:=so hF
 exact ⟨rfl,Z⟩
theorem s_l6Table_c {r_ : Rule} {v0_1 : Value} {v0_2 : Value} {v0_4 : Value} {H : FH} {w : World} (Z : Star H w []) (h0_1 : (rS 3 RP.int).rel H [v0_1] r_.vars) (h0_2 : (rS 3 RP.int).rel H [v0_2] r_.coefs) (h0_4 : (rS 23 (rS 3 RP.int)).rel H [v0_4] r_.rows) {r : Bool} (hF : s_l6Table r_ = some r) :
 C Tryd.prog 93 #[.agg #[I r_.kind,v0_1,v0_2,I r_.bound,v0_4]] w fun v w'=>v = Bo r∧Star H w' []:=by
 unfold s_l6Table at hF
 refine C_enter Tryd.func93 rfl Tryd.ntmps93 rfl (sq (L_box (v:=.agg #[I r_.kind,v0_1,v0_2,I r_.bound,v0_4]) (cs:=#[I r_.kind,v0_1,v0_2,I r_.bound,v0_4]) rfl rfl rfl Z (fun g3 w4 Z=>aB rfl (nq (sq (aI rfl (nn ?_)))))))
 have hlen8 : List.length r_.rows≤9223372036854775807:=len_le (slice_len h0_4)
 obtain ⟨j8,hL8,hF⟩:=bind_some hF
 obtain ⟨R8,hR8⟩:=exR fun f w_=>∃ H6 : FH,j8 = .nx ()∧Le H H6∧f 1 = Pt g3∧Star H6 w_ ([box g3 54 #[I r_.kind,v0_1,v0_2,I r_.bound,v0_4]])
 refine W_join R8 ?_ ?_
 refine W_block ?_
 obtain ⟨I8,hI8⟩:=exI fun n f w_=>∃ i_5 : Nat,∃ suf8 : List (List Int),∃ H6 : FH,n = suf8.length∧List.drop i_5 r_.rows = suf8∧i_5 + suf8.length = r_.rows.length∧rangeL (s_l6Table_b1 r_) suf8 i_5 () = some j8∧Le H H6∧f 1 = Pt g3∧f 3 = I i_5∧Star H6 w_ ([box g3 54 #[I r_.kind,v0_1,v0_2,I r_.bound,v0_4]])
 refine W_loop I8 (n:=r_.rows.length) ?_ ?_
 exact ij hI8 ⟨0,r_.rows,H,rfl,rfl,Nat.zero_add _,hL8,(Le.refl _),rfl,rfl,Z⟩
 intro n8 f w_ hI
 obtain ⟨i_5,suf8,H6,rfl,hd8,hl8,hL8,l7,sf1,sf3,Z⟩:=ik hI8 hI
 refine W_seq (sq (mF sf3 rfl (fA 4 fa_54_4 sf1 rfl (ldB 0 Z Tryd.isAgg52 rfl rfl rfl (L_len rfl Tryd.underlying52 rfl (slice_len (RP.mono _ h0_4 l7)) (L_lss rfl rfl rfl (nn (W_cond (b:=decide ((i_5 : Int) < (r_.rows.length : Int))) rfl (fun hc9=>?_) (fun hc9=>?_)))))))))
 have hlt8:=of_decide_eq_true hc9
 rcases suf8 with _ | ⟨x_8,rest8⟩
 exact absurd hlt8 (by simp at hl8; omega)
 obtain ⟨o8,hB8,hL8⟩:=range_cons hL8
 rw [s_l6Table_b1] at hB8
 have hix8:=drop_idx hd8
 refine W_skip (W_seq (W_block (W_seq (W_seq (W_drawS 9 [isV (Pq g3 4),isV (v0_4),isV (I i_5),isEl (rS 3 RP.int) x_8 0,isData (rS 3 RP.int) x_8,isV (I (x_8.length : Int)),isV (Pq g3 1),isV (v0_1),isV (I (r_.vars.length : Int))] [box g3 54 #[I r_.kind,v0_1,v0_2,I r_.bound,v0_4]] [] ([]) [([],[]),([],[]),([],[]),([],[]),([],[]),([],[]),([],[]),([],[]),([],[])] (S:=[]) Tryd_mix (by kernel_rfl) rfl (by kernel_rfl) (amF_cons (mono_V _) (amF_cons (mono_V _) (amF_cons (mono_V _) (amF_cons (mono_el _ _ _) (amF_cons (mono_data _ _) (amF_cons (mono_V _) (amF_cons (mono_V _) (amF_cons (mono_V _) (amF_cons (mono_V _) amF_nil))))))))) Z ?_ (fun f w_ H14 hS14 hE14 hT14 Z=>?_))))))
 refine opsS_cons (fun f w_ _ _ s _ _ Z=>fA 4 fa_54_4 ((s 1 rfl).trans sf1) rfl (nO rfl rfl Z)) (opsS_cons (fun f w_ _ _ _ _ p Z=>ldB 0 Z Tryd.isAgg52 (p 0 12 rfl rfl) rfl rfl (nO rfl rfl Z)) (opsS_cons (fun f w_ _ _ s _ _ Z=>mF ((s 3 rfl).trans sf3) rfl (nO rfl rfl Z)) (opsS_cons ?_ ?_)))
 intro f w_ H14 X14 hS14 hE14 hP14 Z
 refine L_ix (r:=(rS 3 RP.int)) rfl Tryd.underlying52 Tryd.sizeOf23 (hP14 1 13 rfl rfl) (RP.mono _ h0_4 (Le.trans l7 hE14)) (hP14 2 14 rfl rfl) hix8 (fun g19 o20 cs_g19 hrk_hat21 hat21=>?_)
 obtain ⟨u22,rfl,hu22⟩:=slice1 hrk_hat21
 exact L_nil ⟨rfl,_,_,rfl,Le.refl _,fun _ _=>⟨_,_,_,rfl,hrk_hat21,hat21⟩,Z⟩
 refine opsS_cons ?_ ?_
 intro f w_ H14 X14 hS14 hE14 hP14 Z
 obtain ⟨g23,o23,cs23,hv23,hrk_hat23,hat23⟩:=(hP14 3 15 rfl rfl)
 obtain ⟨u24,rfl,hu24⟩:=slice1 hrk_hat23
 refine L_ld rfl Tryd.isAgg23 hv23 (At.cell (AtH.at hat23 Z.sub) (j:=0) rfl) (L_nil ⟨rfl,_,_,rfl,Le.refl _,fun _ _=>hu24,Z⟩)
 refine opsS_cons ?_ ?_
 intro f w_ H14 X14 hS14 hE14 hP14 Z
 have hd25 : (rS 3 RP.int).rel H14 [f 16] x_8:=(hP14 4 16 rfl rfl)
 refine L_len rfl Tryd.underlying23 rfl (slice_len hd25) (L_nil ⟨rfl,_,_,rfl,Le.refl _,fun _ _=>rfl,Z⟩)
 refine opsS_cons (fun f w_ _ _ s _ _ Z=>fA 1 fa_54_1 ((s 1 rfl).trans sf1) rfl (nO rfl rfl Z)) (opsS_cons (fun f w_ _ _ _ _ p Z=>ldB 0 Z Tryd.isAgg23 (p 6 18 rfl rfl) rfl rfl (nO rfl rfl Z)) (opsS_cons (fun f w_ _ _ _ hE14 p Z=>L_len rfl Tryd.underlying23 (p 7 19 rfl rfl) (slice_len (RP.mono _ h0_1 (Le.trans l7 hE14))) (nO rfl rfl Z)) (opsS_nil)))
 refine L_neq rfl (hT14 5 17 rfl rfl) (hT14 8 20 rfl rfl) (nn (W_cond (b:=((x_8.length : Int) != (r_.vars.length : Int))) rfl (fun hc26=>?_) (fun hc26=>?_)))
 have hB8:=(ite_t hc26).symm.trans hB8
 refine sq (aB rfl (nn (W_ret (retG1 (v1:=Bo false) Tryd.results93 rfl ?_))))
 obtain rfl:=so hB8
 obtain rfl:=so hL8
 obtain rfl:=so hF
 exact ⟨rfl,(Star.down (Star.keepN 0 Z) (Le.trans l7 hE14) c0)⟩
 have hB8:=(ite_f hc26).symm.trans hB8
 refine W_skip (sq (aI rfl (nn ?_)))
 obtain ⟨k29,hk29,hB8⟩:=bind_some hB8
 obtain ⟨j28,hL28,hB8⟩:=bind_some hB8
 obtain ⟨R28,hR28⟩:=exR fun f w_=>j28 = .nx ()∧f 1 = Pt g3∧f 3 = I i_5∧Star H14 w_ ([box g3 54 #[I r_.kind,v0_1,v0_2,I r_.bound,v0_4]])
 refine W_join R28 ?_ ?_
 refine W_block ?_
 obtain ⟨I28,hI28⟩:=exI fun n f w_=>∃ i_27 : Nat,∃ suf28 : Nat,suf28 = n∧0≤i_27∧i_27 + suf28 = 0 + k29∧countL (s_l6Table_b2 x_8) suf28 i_27 () = some j28∧f 1 = Pt g3∧f 3 = I i_5∧f 4 = I i_27∧Star H14 w_ ([box g3 54 #[I r_.kind,v0_1,v0_2,I r_.bound,v0_4]])
 refine W_loop I28 (n:=k29) ?_ ?_
 exact ij hI28 ⟨0,k29,rfl,Nat.le_refl _,rfl,hL28,((hS14 1 rfl).trans sf1),((hS14 3 rfl).trans sf3),rfl,Z⟩
 intro n28 f w_ hI
 obtain ⟨i_27,suf28,rfl,hs28,hl28,hL28,sf1,sf3,sf4,Z⟩:=ik hI28 hI
 refine W_seq (sq (mF sf4 rfl (fA 4 fa_54_4 sf1 rfl (ldB 0 Z Tryd.isAgg52 rfl rfl rfl (mF sf3 rfl (L_ix (r:=(rS 3 RP.int)) rfl Tryd.underlying52 Tryd.sizeOf23 rfl (RP.mono _ h0_4 (Le.trans l7 hE14)) rfl hix8 (fun g34 o35 cs_g34 hrk_hat36 hat36=>?_)))))))
 obtain ⟨u37,rfl,hu37⟩:=slice1 hrk_hat36
 refine L_ld rfl Tryd.isAgg23 rfl (At.cell (AtH.at hat36 Z.sub) (j:=0) rfl) (L_len rfl Tryd.underlying23 rfl (slice_len hu37) (L_lss rfl rfl rfl (nn (W_cond (b:=decide ((i_27 : Int) < (x_8.length : Int))) rfl (fun hc38=>?_) (fun hc38=>?_)))))
 have hlt28:=of_decide_eq_true hc38
 rcases suf28 with _ | rest28
 exact absurd hlt28 (cntF_no hl28 hk29)
 obtain ⟨o28,hB28,hL28⟩:=count_succ hL28
 rw [s_l6Table_b2] at hB28
 refine W_skip (W_seq (W_block (W_seq ?_)))
 obtain ⟨x43,hx43,hB28⟩:=bind_some hB28
 obtain ⟨R56,hR56⟩:=exR fun f w_=>f 1 = Pt g3∧f 3 = I i_5∧f 4 = I i_27∧f 51 = Bo ((decide (x43 < 0)) || (decide (x43 > 3)))∧Star H14 w_ ([box g3 54 #[I r_.kind,v0_1,v0_2,I r_.bound,v0_4]])
 refine W_join R56 ?_ ?_
 refine W_region (fA 4 fa_54_4 sf1 rfl (ldB 0 Z Tryd.isAgg52 rfl rfl rfl (mF sf3 rfl (L_ix (r:=(rS 3 RP.int)) rfl Tryd.underlying52 Tryd.sizeOf23 rfl (RP.mono _ h0_4 (Le.trans l7 hE14)) rfl hix8 (fun g57 o58 cs_g57 hrk_hat59 hat59=>?_)))))
 obtain ⟨u60,rfl,hu60⟩:=slice1 hrk_hat59
 refine L_ld rfl Tryd.isAgg23 rfl (At.cell (AtH.at hat59 Z.sub) (j:=0) rfl) (mF sf4 rfl (L_ix (r:=RP.int) rfl Tryd.underlying23 Tryd.sizeOf3 rfl hu60 rfl hx43 (fun g61 o62 cs_g61 hrk_hat63 hat63=>?_)))
 obtain rfl : _ = [_]:=hrk_hat63
 refine L_ld rfl Tryd.isAgg3 rfl (At.cell (AtH.at hat63 Z.sub) (j:=0) rfl) (L_lss rfl rfl rfl (mB rfl (L_split (d:=41) (b:=decide (x43 < 0)) rfl (fun hc65=>?_) (fun hc65=>?_))))
 refine ps rfl (ps rfl (ps rfl (ps rfl (ps rfl (ps rfl (ps rfl (ps rfl (ps rfl (L_pick (v:=Bo ((decide (x43 < 0)) || (decide (x43 > 3)))) rfl rfl (or_t hc65) (nn (rj hR56 ⟨sf1,sf3,sf4,rfl,Z⟩)))))))))))
 refine fA 4 fa_54_4 sf1 rfl (ldB 0 Z Tryd.isAgg52 rfl rfl rfl (mF sf3 rfl (L_ix (r:=(rS 3 RP.int)) rfl Tryd.underlying52 Tryd.sizeOf23 rfl (RP.mono _ h0_4 (Le.trans l7 hE14)) rfl hix8 (fun g66 o67 cs_g66 hrk_hat68 hat68=>?_))))
 obtain ⟨u69,rfl,hu69⟩:=slice1 hrk_hat68
 refine L_ld rfl Tryd.isAgg23 rfl (At.cell (AtH.at hat68 Z.sub) (j:=0) rfl) (mF sf4 rfl (L_ix (r:=RP.int) rfl Tryd.underlying23 Tryd.sizeOf3 rfl hu69 rfl hx43 (fun g70 o71 cs_g70 hrk_hat72 hat72=>?_)))
 obtain rfl : _ = [_]:=hrk_hat72
 refine L_ld rfl Tryd.isAgg3 rfl (At.cell (AtH.at hat72 Z.sub) (j:=0) rfl) (L_gtr rfl rfl rfl (L_pick (v:=Bo ((decide (x43 < 0)) || (decide (x43 > 3)))) rfl rfl (or_f hc65 rfl) (nn (rj hR56 ⟨sf1,sf3,sf4,rfl,Z⟩))))
 intro f w_ hR
 obtain ⟨sf1,sf3,sf4,sf51,Z⟩:=rk hR56 hR
 refine W_cond (b:=((decide (x43 < 0)) || (decide (x43 > 3)))) sf51 (fun hc74=>?_) (fun hc74=>?_)
 have hB28:=(ite_t hc74).symm.trans hB28
 refine sq (aB rfl (nn (W_ret (retG1 (v1:=Bo false) Tryd.results93 rfl ?_))))
 obtain rfl:=so hB28
 obtain rfl:=so hL28
 obtain rfl:=so hB8
 obtain rfl:=so hL8
 obtain rfl:=so hF
 exact ⟨rfl,(Star.down (Star.keepN 0 Z) (Le.trans l7 hE14) c0)⟩
 have hB28:=(ite_f hc74).symm.trans hB28
 refine W_skip (W_region (mF sf4 rfl (L_add rfl rfl rfl (aI rfl (nn ?_)))))
 obtain rfl:=so hB28
 show ∃ m,m < _∧I28 m _ _
 refine ⟨rest28,Nat.lt_succ_self _,?_⟩
 exact ij hI28 ⟨i_27 + 1,rest28,rfl,by omega,by omega,hL28,sf1,sf3,(Eq.trans rfl (congrArg (Value.int .i64) (i64_succ (n:=0 + k29) (by omega) (cntF_le hk29)))),Z⟩
 rcases suf28 with _ | _
 obtain rfl:=count_zero hL28
 refine W_exit (rj hR28 ⟨rfl,sf1,sf3,Z⟩)
 exact absurd (cntF_yes hs28 hl28 hk29) (of_decide_eq_false hc38)
 intro f w_ hR
 obtain ⟨rfl,sf1,sf3,Z⟩:=rk hR28 hR
 refine W_region (mF sf3 rfl (L_add rfl rfl rfl (aI rfl (nn ?_))))
 obtain rfl:=so hB8
 show ∃ m,m < _∧I8 m _ _
 refine ⟨rest8.length,by simp,?_⟩
 exact ij hI8 ⟨i_5 + 1,rest8,H14,rfl,drop_next hd8,by simp at hl8; omega,hL8,(Le.trans l7 hE14),sf1,(Eq.trans rfl (congrArg (Value.int .i64) (i64_succ (n:=r_.rows.length) (by simp at hl8; omega) hlen8))),Z⟩
 rcases suf8 with _ | ⟨_,_⟩
 obtain rfl:=range_nil hL8
 refine W_exit (rj hR8 ⟨H6,rfl,l7,sf1,Z⟩)
 exact absurd (of_decide_eq_false hc9) (by simp at hl8; omega)
 intro f w_ hR
 obtain ⟨H6,rfl,l7,sf1,Z⟩:=rk hR8 hR
 refine sq (fA 4 fa_54_4 sf1 rfl (ldB 0 Z Tryd.isAgg52 rfl rfl rfl (L_len rfl Tryd.underlying52 rfl (slice_len (RP.mono _ h0_4 l7)) (L_leq rfl rfl rfl (aB rfl (nn (W_ret (retG1 (v1:=Bo (decide ((r_.rows.length : Int)≤8))) Tryd.results93 rfl ?_))))))))
 obtain rfl:=so hF
 exact ⟨rfl,(Star.down (Star.keepN 0 Z) l7 c0)⟩
theorem s_l6Rule_c {m : Model} {r_ : Rule} {v0_0 : Value} {v0_1 : Value} {v1_1 : Value} {v1_2 : Value} {v1_4 : Value} {H : FH} {w : World} (Z : Star H w []) (h0_0 : (rS 3 RP.int).rel H [v0_0] m.sizes) (h0_1 : (rS 54 (rRule 3 23)).rel H [v0_1] m.rules) (h1_1 : (rS 3 RP.int).rel H [v1_1] r_.vars) (h1_2 : (rS 3 RP.int).rel H [v1_2] r_.coefs) (h1_4 : (rS 23 (rS 3 RP.int)).rel H [v1_4] r_.rows) {r : Bool} (hF : s_l6Rule m r_ = some r) :
 C Tryd.prog 58 #[.agg #[v0_0,v0_1],.agg #[I r_.kind,v1_1,v1_2,I r_.bound,v1_4]] w fun v w'=>v = Bo r∧Star H w' []:=by
 unfold s_l6Rule at hF
 refine C_enter Tryd.func58 rfl Tryd.ntmps58 rfl (sq (L_box (v:=.agg #[v0_0,v0_1]) (cs:=#[v0_0,v0_1]) rfl rfl rfl Z (fun g5 w6 Z=>L_box (v:=.agg #[I r_.kind,v1_1,v1_2,I r_.bound,v1_4]) (cs:=#[I r_.kind,v1_1,v1_2,I r_.bound,v1_4]) rfl rfl rfl Z (fun g7 w8 Z=>aB rfl (nq (W_seq ?_))))))
 obtain ⟨x14,hx14,hF⟩:=bind_some hF
 obtain ⟨R16,hR16⟩:=exR fun f w_=>f 3 = Pt g7∧f 36 = Bo (((!x14) || ((r_.kind != 1) && (((r_.coefs.length : Int) != 0) || (r_.bound != 0)))) || ((r_.kind != 3) && ((r_.rows.length : Int) != 0)))∧Star H w_ ([box g7 54 #[I r_.kind,v1_1,v1_2,I r_.bound,v1_4]])
 refine W_join R16 ?_ ?_
 refine W_region (L_lda (cs:=[v0_0,v0_1]) rfl Tryd.isAgg26 Tryd.sizeOf26 rfl (At.sub0 (Blk.at (Star.blkAt 1 Z rfl)) 0 2) rfl (fA 1 fa_54_1 rfl rfl (ldB 0 Z Tryd.isAgg23 rfl rfl rfl ?_)))
 obtain ⟨H17b,l18,s19,z20,k21⟩:=Z.borrow
 refine L_call rfl Tryd.call91 (ops2 rfl rfl) (s_l6Vars_c (m:=m) (list:=r_.vars) s19 (RP.mono _ h0_0 l18) (RP.mono _ h0_1 l18) (RP.mono _ h1_1 l18) hx14) ?_
 rintro _ w22 ⟨rfl,Z⟩
 have Z:=k21 Z c0
 refine L_not_ rfl rfl (mB rfl (L_split (d:=10) (b:=(!x14)) rfl (fun hc23=>?_) (fun hc23=>?_)))
 refine ps rfl (ps rfl (ps rfl (ps rfl (ps rfl (ps rfl (ps rfl (ps rfl (ps rfl (ps rfl (ps rfl (ps rfl (ps rfl (ps rfl (L_pick (v:=Bo ((!x14) || ((r_.kind != 1) && (((r_.coefs.length : Int) != 0) || (r_.bound != 0))))) rfl rfl (or_t hc23) (mB rfl (L_split (d:=26) (b:=((!x14) || ((r_.kind != 1) && (((r_.coefs.length : Int) != 0) || (r_.bound != 0))))) rfl (fun hc24=>?_) (fun hc24=>?_)))))))))))))))))
 refine ps rfl (ps rfl (ps rfl (ps rfl (ps rfl (ps rfl (ps rfl (ps rfl (ps rfl (L_pick (v:=Bo (((!x14) || ((r_.kind != 1) && (((r_.coefs.length : Int) != 0) || (r_.bound != 0)))) || ((r_.kind != 3) && ((r_.rows.length : Int) != 0)))) rfl rfl (or_t hc24) (nn (rj hR16 ⟨rfl,rfl,(Star.keepN 1 Z)⟩)))))))))))
 refine fA 0 fa_54_0 rfl rfl (ldB 0 Z Tryd.isAgg3 rfl rfl rfl (L_neq rfl rfl rfl (mB rfl (L_split (d:=30) (b:=(r_.kind != 3)) rfl (fun hc25=>?_) (fun hc25=>?_)))))
 refine fA 4 fa_54_4 rfl rfl (ldB 0 Z Tryd.isAgg52 rfl rfl rfl (L_len rfl Tryd.underlying52 rfl (slice_len h1_4) (L_neq rfl rfl rfl (L_pick (v:=Bo ((r_.kind != 3) && ((r_.rows.length : Int) != 0))) rfl rfl (and_t hc25 rfl) (L_pick (v:=Bo (((!x14) || ((r_.kind != 1) && (((r_.coefs.length : Int) != 0) || (r_.bound != 0)))) || ((r_.kind != 3) && ((r_.rows.length : Int) != 0)))) rfl rfl (or_f hc24 rfl) (nn (rj hR16 ⟨rfl,rfl,(Star.keepN 1 Z)⟩)))))))
 refine ps rfl (ps rfl (ps rfl (ps rfl (L_pick (v:=Bo ((r_.kind != 3) && ((r_.rows.length : Int) != 0))) rfl rfl (and_f hc25) (L_pick (v:=Bo (((!x14) || ((r_.kind != 1) && (((r_.coefs.length : Int) != 0) || (r_.bound != 0)))) || ((r_.kind != 3) && ((r_.rows.length : Int) != 0)))) rfl rfl (or_f hc24 rfl) (nn (rj hR16 ⟨rfl,rfl,(Star.keepN 1 Z)⟩)))))))
 refine fA 0 fa_54_0 rfl rfl (ldB 0 Z Tryd.isAgg3 rfl rfl rfl (L_neq rfl rfl rfl (mB rfl (L_split (d:=14) (b:=(r_.kind != 1)) rfl (fun hc26=>?_) (fun hc26=>?_)))))
 refine fA 2 fa_54_2 rfl rfl (ldB 0 Z Tryd.isAgg23 rfl rfl rfl (L_len rfl Tryd.underlying23 rfl (slice_len h1_2) (L_neq rfl rfl rfl (mB rfl (L_split (d:=19) (b:=((r_.coefs.length : Int) != 0)) rfl (fun hc27=>?_) (fun hc27=>?_))))))
 refine ps rfl (ps rfl (ps rfl (L_pick (v:=Bo (((r_.coefs.length : Int) != 0) || (r_.bound != 0))) rfl rfl (or_t hc27) (L_pick (v:=Bo ((r_.kind != 1) && (((r_.coefs.length : Int) != 0) || (r_.bound != 0)))) rfl rfl (and_t hc26 rfl) (L_pick (v:=Bo ((!x14) || ((r_.kind != 1) && (((r_.coefs.length : Int) != 0) || (r_.bound != 0))))) rfl rfl (or_f hc23 rfl) (mB rfl (L_split (d:=26) (b:=((!x14) || ((r_.kind != 1) && (((r_.coefs.length : Int) != 0) || (r_.bound != 0))))) rfl (fun hc28=>?_) (fun hc28=>?_))))))))
 refine ps rfl (ps rfl (ps rfl (ps rfl (ps rfl (ps rfl (ps rfl (ps rfl (ps rfl (L_pick (v:=Bo (((!x14) || ((r_.kind != 1) && (((r_.coefs.length : Int) != 0) || (r_.bound != 0)))) || ((r_.kind != 3) && ((r_.rows.length : Int) != 0)))) rfl rfl (or_t hc28) (nn (rj hR16 ⟨rfl,rfl,(Star.keepN 1 Z)⟩)))))))))))
 refine fA 0 fa_54_0 rfl rfl (ldB 0 Z Tryd.isAgg3 rfl rfl rfl (L_neq rfl rfl rfl (mB rfl (L_split (d:=30) (b:=(r_.kind != 3)) rfl (fun hc29=>?_) (fun hc29=>?_)))))
 refine fA 4 fa_54_4 rfl rfl (ldB 0 Z Tryd.isAgg52 rfl rfl rfl (L_len rfl Tryd.underlying52 rfl (slice_len h1_4) (L_neq rfl rfl rfl (L_pick (v:=Bo ((r_.kind != 3) && ((r_.rows.length : Int) != 0))) rfl rfl (and_t hc29 rfl) (L_pick (v:=Bo (((!x14) || ((r_.kind != 1) && (((r_.coefs.length : Int) != 0) || (r_.bound != 0)))) || ((r_.kind != 3) && ((r_.rows.length : Int) != 0)))) rfl rfl (or_f hc28 rfl) (nn (rj hR16 ⟨rfl,rfl,(Star.keepN 1 Z)⟩)))))))
 refine ps rfl (ps rfl (ps rfl (ps rfl (L_pick (v:=Bo ((r_.kind != 3) && ((r_.rows.length : Int) != 0))) rfl rfl (and_f hc29) (L_pick (v:=Bo (((!x14) || ((r_.kind != 1) && (((r_.coefs.length : Int) != 0) || (r_.bound != 0)))) || ((r_.kind != 3) && ((r_.rows.length : Int) != 0)))) rfl rfl (or_f hc28 rfl) (nn (rj hR16 ⟨rfl,rfl,(Star.keepN 1 Z)⟩)))))))
 refine fA 3 fa_54_3 rfl rfl (ldB 0 Z Tryd.isAgg3 rfl rfl rfl (L_neq rfl rfl rfl (L_pick (v:=Bo (((r_.coefs.length : Int) != 0) || (r_.bound != 0))) rfl rfl (or_f hc27 rfl) (L_pick (v:=Bo ((r_.kind != 1) && (((r_.coefs.length : Int) != 0) || (r_.bound != 0)))) rfl rfl (and_t hc26 rfl) (L_pick (v:=Bo ((!x14) || ((r_.kind != 1) && (((r_.coefs.length : Int) != 0) || (r_.bound != 0))))) rfl rfl (or_f hc23 rfl) (mB rfl (L_split (d:=26) (b:=((!x14) || ((r_.kind != 1) && (((r_.coefs.length : Int) != 0) || (r_.bound != 0))))) rfl (fun hc30=>?_) (fun hc30=>?_))))))))
 refine ps rfl (ps rfl (ps rfl (ps rfl (ps rfl (ps rfl (ps rfl (ps rfl (ps rfl (L_pick (v:=Bo (((!x14) || ((r_.kind != 1) && (((r_.coefs.length : Int) != 0) || (r_.bound != 0)))) || ((r_.kind != 3) && ((r_.rows.length : Int) != 0)))) rfl rfl (or_t hc30) (nn (rj hR16 ⟨rfl,rfl,(Star.keepN 1 Z)⟩)))))))))))
 refine fA 0 fa_54_0 rfl rfl (ldB 0 Z Tryd.isAgg3 rfl rfl rfl (L_neq rfl rfl rfl (mB rfl (L_split (d:=30) (b:=(r_.kind != 3)) rfl (fun hc31=>?_) (fun hc31=>?_)))))
 refine fA 4 fa_54_4 rfl rfl (ldB 0 Z Tryd.isAgg52 rfl rfl rfl (L_len rfl Tryd.underlying52 rfl (slice_len h1_4) (L_neq rfl rfl rfl (L_pick (v:=Bo ((r_.kind != 3) && ((r_.rows.length : Int) != 0))) rfl rfl (and_t hc31 rfl) (L_pick (v:=Bo (((!x14) || ((r_.kind != 1) && (((r_.coefs.length : Int) != 0) || (r_.bound != 0)))) || ((r_.kind != 3) && ((r_.rows.length : Int) != 0)))) rfl rfl (or_f hc30 rfl) (nn (rj hR16 ⟨rfl,rfl,(Star.keepN 1 Z)⟩)))))))
 refine ps rfl (ps rfl (ps rfl (ps rfl (L_pick (v:=Bo ((r_.kind != 3) && ((r_.rows.length : Int) != 0))) rfl rfl (and_f hc31) (L_pick (v:=Bo (((!x14) || ((r_.kind != 1) && (((r_.coefs.length : Int) != 0) || (r_.bound != 0)))) || ((r_.kind != 3) && ((r_.rows.length : Int) != 0)))) rfl rfl (or_f hc30 rfl) (nn (rj hR16 ⟨rfl,rfl,(Star.keepN 1 Z)⟩)))))))
 refine ps rfl (ps rfl (ps rfl (ps rfl (ps rfl (ps rfl (ps rfl (ps rfl (ps rfl (L_pick (v:=Bo ((r_.kind != 1) && (((r_.coefs.length : Int) != 0) || (r_.bound != 0)))) rfl rfl (and_f hc26) (L_pick (v:=Bo ((!x14) || ((r_.kind != 1) && (((r_.coefs.length : Int) != 0) || (r_.bound != 0))))) rfl rfl (or_f hc23 rfl) (mB rfl (L_split (d:=26) (b:=((!x14) || ((r_.kind != 1) && (((r_.coefs.length : Int) != 0) || (r_.bound != 0))))) rfl (fun hc32=>?_) (fun hc32=>?_)))))))))))))
 refine ps rfl (ps rfl (ps rfl (ps rfl (ps rfl (ps rfl (ps rfl (ps rfl (ps rfl (L_pick (v:=Bo (((!x14) || ((r_.kind != 1) && (((r_.coefs.length : Int) != 0) || (r_.bound != 0)))) || ((r_.kind != 3) && ((r_.rows.length : Int) != 0)))) rfl rfl (or_t hc32) (nn (rj hR16 ⟨rfl,rfl,(Star.keepN 1 Z)⟩)))))))))))
 refine fA 0 fa_54_0 rfl rfl (ldB 0 Z Tryd.isAgg3 rfl rfl rfl (L_neq rfl rfl rfl (mB rfl (L_split (d:=30) (b:=(r_.kind != 3)) rfl (fun hc33=>?_) (fun hc33=>?_)))))
 refine fA 4 fa_54_4 rfl rfl (ldB 0 Z Tryd.isAgg52 rfl rfl rfl (L_len rfl Tryd.underlying52 rfl (slice_len h1_4) (L_neq rfl rfl rfl (L_pick (v:=Bo ((r_.kind != 3) && ((r_.rows.length : Int) != 0))) rfl rfl (and_t hc33 rfl) (L_pick (v:=Bo (((!x14) || ((r_.kind != 1) && (((r_.coefs.length : Int) != 0) || (r_.bound != 0)))) || ((r_.kind != 3) && ((r_.rows.length : Int) != 0)))) rfl rfl (or_f hc32 rfl) (nn (rj hR16 ⟨rfl,rfl,(Star.keepN 1 Z)⟩)))))))
 refine ps rfl (ps rfl (ps rfl (ps rfl (L_pick (v:=Bo ((r_.kind != 3) && ((r_.rows.length : Int) != 0))) rfl rfl (and_f hc33) (L_pick (v:=Bo (((!x14) || ((r_.kind != 1) && (((r_.coefs.length : Int) != 0) || (r_.bound != 0)))) || ((r_.kind != 3) && ((r_.rows.length : Int) != 0)))) rfl rfl (or_f hc32 rfl) (nn (rj hR16 ⟨rfl,rfl,(Star.keepN 1 Z)⟩)))))))
 intro f w_ hR
 obtain ⟨sf3,sf36,Z⟩:=rk hR16 hR
 refine W_cond (b:=(((!x14) || ((r_.kind != 1) && (((r_.coefs.length : Int) != 0) || (r_.bound != 0)))) || ((r_.kind != 3) && ((r_.rows.length : Int) != 0)))) sf36 (fun hc34=>?_) (fun hc34=>?_)
 have hF:=(ite_t hc34).symm.trans hF
 refine sq (aB rfl (nn (W_ret (retG1 (v1:=Bo false) Tryd.results58 rfl ?_))))
 obtain rfl:=so hF
 exact ⟨rfl,(Star.keepN 0 Z)⟩
 have hF:=(ite_f hc34).symm.trans hF
 refine W_skip (W_seq (sq (fA 0 fa_54_0 sf3 rfl (ldB 0 Z Tryd.isAgg3 rfl rfl rfl (nn (W_block (sq (L_eql rfl rfl rfl (aB rfl (nn (W_cond (b:=(r_.kind == 1)) rfl (fun hc35=>?_) (fun hc35=>?_))))))))))))
 have hF:=(ite_t hc35).symm.trans hF
 refine W_seq ?_
 obtain ⟨x41,hx41,hF⟩:=bind_some hF
 refine W_region (L_lda (cs:=[I r_.kind,v1_1,v1_2,I r_.bound,v1_4]) rfl Tryd.isAgg54 Tryd.sizeOf54 sf3 (At.sub0 (Blk.at (Star.blkAt 0 Z rfl)) 0 5) rfl ?_)
 obtain ⟨H43b,l44,s45,z46,k47⟩:=Z.borrow
 refine L_call rfl Tryd.call92 (ops1 rfl) (s_l6Linear_c (r_:=r_) s45 (RP.mono _ h1_1 l44) (RP.mono _ h1_2 l44) (RP.mono _ h1_4 l44) hx41) ?_
 rintro _ w48 ⟨rfl,Z⟩
 have Z:=k47 Z c0
 refine aB rfl (nn (W_ret (retG1 (v1:=Bo x41) Tryd.results58 rfl ?_)))
 obtain rfl:=so hF
 exact ⟨rfl,(Star.keepN 0 Z)⟩
 have hF:=(ite_f hc35).symm.trans hF
 refine sq (L_eql rfl rfl rfl (aB rfl (nn (W_cond (b:=(r_.kind == 2)) rfl (fun hc49=>?_) (fun hc49=>?_)))))
 have hF:=(ite_t hc49).symm.trans hF
 refine sq (aB rfl (nn (W_ret (retG1 (v1:=Bo true) Tryd.results58 rfl ?_))))
 obtain rfl:=so hF
 exact ⟨rfl,(Star.keepN 0 Z)⟩
 have hF:=(ite_f hc49).symm.trans hF
 refine sq (L_eql rfl rfl rfl (aB rfl (nn (W_cond (b:=(r_.kind == 3)) rfl (fun hc50=>?_) (fun hc50=>?_)))))
 have hF:=(ite_t hc50).symm.trans hF
 refine W_seq ?_
 obtain ⟨x56,hx56,hF⟩:=bind_some hF
 refine W_region (L_lda (cs:=[I r_.kind,v1_1,v1_2,I r_.bound,v1_4]) rfl Tryd.isAgg54 Tryd.sizeOf54 sf3 (At.sub0 (Blk.at (Star.blkAt 0 Z rfl)) 0 5) rfl ?_)
 obtain ⟨H58b,l59,s60,z61,k62⟩:=Z.borrow
 refine L_call rfl Tryd.call93 (ops1 rfl) (s_l6Table_c (r_:=r_) s60 (RP.mono _ h1_1 l59) (RP.mono _ h1_2 l59) (RP.mono _ h1_4 l59) hx56) ?_
 rintro _ w63 ⟨rfl,Z⟩
 have Z:=k62 Z c0
 refine aB rfl (nn (W_ret (retG1 (v1:=Bo x56) Tryd.results58 rfl ?_)))
 obtain rfl:=so hF
 exact ⟨rfl,(Star.keepN 0 Z)⟩
 have hF:=(ite_f hc50).symm.trans hF
 refine sq (L_eql rfl rfl rfl (aB rfl (nn (W_cond (b:=(r_.kind == 4)) rfl (fun hc64=>?_) (fun hc64=>?_)))))
 have hF:=(ite_t hc64).symm.trans hF
 refine sq (fA 1 fa_54_1 sf3 rfl (ldB 0 Z Tryd.isAgg23 rfl rfl rfl (L_len rfl Tryd.underlying23 rfl (slice_len h1_1) (L_eql rfl rfl rfl (aB rfl (nn (W_ret (retG1 (v1:=Bo ((r_.vars.length : Int) == 2)) Tryd.results58 rfl ?_))))))))
 obtain rfl:=so hF
 exact ⟨rfl,(Star.keepN 0 Z)⟩
 have hF:=(ite_f hc64).symm.trans hF
 refine W_skip (sq (aB rfl (nn (W_ret (retG1 (v1:=Bo false) Tryd.results58 rfl ?_)))))
 obtain rfl:=so hF
 exact ⟨rfl,(Star.keepN 0 Z)⟩
theorem s_ModelValid_c {fu : Nat} {m : Model} {v0_0 : Value} {v0_1 : Value} {H : FH} {w : World} (Z : Star H w []) (h0_0 : (rS 3 RP.int).rel H [v0_0] m.sizes) (h0_1 : (rS 54 (rRule 3 23)).rel H [v0_1] m.rules) {r : Bool} (hF : s_ModelValid fu m = some r) :
 C Tryd.prog 32 #[.agg #[v0_0,v0_1]] w fun v w'=>v = Bo r∧Star H w' []:=by
 unfold s_ModelValid at hF
 refine C_enter Tryd.func32 rfl Tryd.ntmps32 rfl (sq (L_box (v:=.agg #[v0_0,v0_1]) (cs:=#[v0_0,v0_1]) rfl rfl rfl Z (fun g3 w4 Z=>aB rfl (ns (aI rfl (nq (sq (aI rfl (nn ?_)))))))))
 obtain ⟨j10,hL10,hF⟩:=bind_some hF
 obtain ⟨R10,hR10⟩:=exR fun f w_=>∃ n_8 : Int,∃ i_9 : Int,j10 = .nx (n_8,i_9)∧f 1 = Pt g3∧f 3 = I n_8∧Star H w_ ([box g3 26 #[v0_0,v0_1]])
 refine W_join R10 ?_ ?_
 refine W_block ?_
 obtain ⟨I10,hI10⟩:=exI fun n f w_=>∃ n_8 : Int,∃ i_9 : Int,whileL (s_ModelValid_b1 m) n (n_8,i_9) = some j10∧f 1 = Pt g3∧f 3 = I n_8∧f 4 = I i_9∧Star H w_ ([box g3 26 #[v0_0,v0_1]])
 refine W_loop I10 (n:=fu) ?_ ?_
 exact ij hI10 ⟨0,0,hL10,rfl,rfl,rfl,Z⟩
 intro n10 f w_ hI
 obtain ⟨n_8,i_9,hL10,sf1,sf3,sf4,Z⟩:=ik hI10 hI
 rcases n10 with _ | n10
 exact (while_zero hL10).elim
 obtain ⟨o10,hB10,hL10⟩:=while_succ hL10
 rw [s_ModelValid_b1] at hB10
 refine W_seq (W_seq ?_)
 obtain ⟨R11,hR11⟩:=exR fun f w_=>f 1 = Pt g3∧f 3 = I n_8∧f 4 = I i_9∧f 14 = Bo ((decide (i_9 < (m.sizes.length : Int))) && (decide (i_9 < 5)))∧Star H w_ ([box g3 26 #[v0_0,v0_1]])
 refine W_join R11 ?_ ?_
 refine W_region (mF sf4 rfl (fA 0 fa_26_0 sf1 rfl (ldB 0 Z Tryd.isAgg23 rfl rfl rfl (L_len rfl Tryd.underlying23 rfl (slice_len h0_0) (L_lss rfl rfl rfl (mB rfl (L_split (d:=11) (b:=decide (i_9 < (m.sizes.length : Int))) rfl (fun hc12=>?_) (fun hc12=>?_))))))))
 refine mF sf4 rfl (L_lss rfl rfl rfl (L_pick (v:=Bo ((decide (i_9 < (m.sizes.length : Int))) && (decide (i_9 < 5)))) rfl rfl (and_t hc12 rfl) (nn (rj hR11 ⟨sf1,sf3,sf4,rfl,Z⟩))))
 refine ps rfl (ps rfl (L_pick (v:=Bo ((decide (i_9 < (m.sizes.length : Int))) && (decide (i_9 < 5)))) rfl rfl (and_f hc12) (nn (rj hR11 ⟨sf1,sf3,sf4,rfl,Z⟩))))
 intro f w_ hR
 obtain ⟨sf1,sf3,sf4,sf14,Z⟩:=rk hR11 hR
 refine W_cond (b:=((decide (i_9 < (m.sizes.length : Int))) && (decide (i_9 < 5)))) sf14 (fun hc13=>?_) (fun hc13=>?_)
 have hB10:=(ite_t hc13).symm.trans hB10
 refine W_skip (W_seq (W_block (W_seq (W_seq ?_))))
 obtain ⟨x14,hx14,hB10⟩:=bind_some hB10
 obtain ⟨R23,hR23⟩:=exR fun f w_=>f 1 = Pt g3∧f 3 = I n_8∧f 4 = I i_9∧f 30 = Bo ((decide (x14 < 0)) || (decide (x14 > 3)))∧Star H w_ ([box g3 26 #[v0_0,v0_1]])
 refine W_join R23 ?_ ?_
 refine W_region (fA 0 fa_26_0 sf1 rfl (ldB 0 Z Tryd.isAgg23 rfl rfl rfl (mF sf4 rfl (L_ix (r:=RP.int) rfl Tryd.underlying23 Tryd.sizeOf3 rfl h0_0 rfl hx14 (fun g24 o25 cs_g24 hrk_hat26 hat26=>?_)))))
 obtain rfl : _ = [_]:=hrk_hat26
 refine L_ld rfl Tryd.isAgg3 rfl (At.cell (AtH.at hat26 Z.sub) (j:=0) rfl) (L_lss rfl rfl rfl (mB rfl (L_split (d:=23) (b:=decide (x14 < 0)) rfl (fun hc28=>?_) (fun hc28=>?_))))
 refine ps rfl (ps rfl (ps rfl (ps rfl (ps rfl (ps rfl (L_pick (v:=Bo ((decide (x14 < 0)) || (decide (x14 > 3)))) rfl rfl (or_t hc28) (nn (rj hR23 ⟨sf1,sf3,sf4,rfl,Z⟩))))))))
 refine fA 0 fa_26_0 sf1 rfl (ldB 0 Z Tryd.isAgg23 rfl rfl rfl (mF sf4 rfl (L_ix (r:=RP.int) rfl Tryd.underlying23 Tryd.sizeOf3 rfl h0_0 rfl hx14 (fun g29 o30 cs_g29 hrk_hat31 hat31=>?_))))
 obtain rfl : _ = [_]:=hrk_hat31
 refine L_ld rfl Tryd.isAgg3 rfl (At.cell (AtH.at hat31 Z.sub) (j:=0) rfl) (L_gtr rfl rfl rfl (L_pick (v:=Bo ((decide (x14 < 0)) || (decide (x14 > 3)))) rfl rfl (or_f hc28 rfl) (nn (rj hR23 ⟨sf1,sf3,sf4,rfl,Z⟩))))
 intro f w_ hR
 obtain ⟨sf1,sf3,sf4,sf30,Z⟩:=rk hR23 hR
 refine W_cond (b:=((decide (x14 < 0)) || (decide (x14 > 3)))) sf30 (fun hc33=>?_) (fun hc33=>?_)
 have hB10:=(ite_t hc33).symm.trans hB10
 refine sq (aB rfl (nn (W_ret (retG1 (v1:=Bo false) Tryd.results32 rfl ?_))))
 obtain rfl:=so hB10
 obtain rfl:=so hL10
 obtain rfl:=so hF
 exact ⟨rfl,(Star.keepN 0 Z)⟩
 have hB10:=(ite_f hc33).symm.trans hB10
 refine W_skip (W_region (mF sf3 rfl (fA 0 fa_26_0 sf1 rfl (ldB 0 Z Tryd.isAgg23 rfl rfl rfl (mF sf4 rfl (L_ix (r:=RP.int) rfl Tryd.underlying23 Tryd.sizeOf3 rfl h0_0 rfl hx14 (fun g38 o39 cs_g38 hrk_hat40 hat40=>?_)))))))
 obtain rfl : _ = [_]:=hrk_hat40
 refine L_ld rfl Tryd.isAgg3 rfl (At.cell (AtH.at hat40 Z.sub) (j:=0) rfl) (L_add rfl rfl rfl (L_add rfl rfl rfl (aI rfl (nn (W_region (mF sf4 rfl (L_add rfl rfl rfl (aI rfl (nn ?_)))))))))
 obtain rfl:=so hB10
 show ∃ m,m < _∧I10 m _ _
 refine ⟨n10,Nat.lt_succ_self _,?_⟩
 exact ij hI10 ⟨i64 ((i64 (n_8 + x14)) + 1),i64 (i_9 + 1),hL10,sf1,rfl,rfl,Z⟩
 have hB10:=(ite_f hc13).symm.trans hB10
 refine W_exit ?_
 obtain rfl:=so hB10
 obtain rfl:=so hL10
 exact rj hR10 ⟨n_8,i_9,rfl,sf1,sf3,Z⟩
 intro f w_ hR
 obtain ⟨n_8,i_9,rfl,sf1,sf3,Z⟩:=rk hR10 hR
 refine W_seq (W_seq ?_)
 obtain ⟨R42,hR42⟩:=exR fun f w_=>f 1 = Pt g3∧f 58 = Bo ((((decide ((m.sizes.length : Int) < 1)) || (decide ((m.sizes.length : Int) > 5))) || (decide (n_8 > 12))) || (decide ((m.rules.length : Int) > 8)))∧Star H w_ ([box g3 26 #[v0_0,v0_1]])
 refine W_join R42 ?_ ?_
 refine W_region (fA 0 fa_26_0 sf1 rfl (ldB 0 Z Tryd.isAgg23 rfl rfl rfl (L_len rfl Tryd.underlying23 rfl (slice_len h0_0) (L_lss rfl rfl rfl (mB rfl (L_split (d:=43) (b:=decide ((m.sizes.length : Int) < 1)) rfl (fun hc43=>?_) (fun hc43=>?_)))))))
 refine ps rfl (ps rfl (ps rfl (ps rfl (L_pick (v:=Bo ((decide ((m.sizes.length : Int) < 1)) || (decide ((m.sizes.length : Int) > 5)))) rfl rfl (or_t hc43) (mB rfl (L_split (d:=49) (b:=((decide ((m.sizes.length : Int) < 1)) || (decide ((m.sizes.length : Int) > 5)))) rfl (fun hc44=>?_) (fun hc44=>?_)))))))
 refine ps rfl (ps rfl (L_pick (v:=Bo (((decide ((m.sizes.length : Int) < 1)) || (decide ((m.sizes.length : Int) > 5))) || (decide (n_8 > 12)))) rfl rfl (or_t hc44) (mB rfl (L_split (d:=53) (b:=(((decide ((m.sizes.length : Int) < 1)) || (decide ((m.sizes.length : Int) > 5))) || (decide (n_8 > 12)))) rfl (fun hc45=>?_) (fun hc45=>?_)))))
 refine ps rfl (ps rfl (ps rfl (ps rfl (L_pick (v:=Bo ((((decide ((m.sizes.length : Int) < 1)) || (decide ((m.sizes.length : Int) > 5))) || (decide (n_8 > 12))) || (decide ((m.rules.length : Int) > 8)))) rfl rfl (or_t hc45) (nn (rj hR42 ⟨sf1,rfl,Z⟩))))))
 refine fA 1 fa_26_1 sf1 rfl (ldB 0 Z Tryd.isAgg24 rfl rfl rfl (L_len rfl Tryd.underlying24 rfl (slice_len h0_1) (L_gtr rfl rfl rfl (L_pick (v:=Bo ((((decide ((m.sizes.length : Int) < 1)) || (decide ((m.sizes.length : Int) > 5))) || (decide (n_8 > 12))) || (decide ((m.rules.length : Int) > 8)))) rfl rfl (or_f hc45 rfl) (nn (rj hR42 ⟨sf1,rfl,Z⟩))))))
 refine mF sf3 rfl (L_gtr rfl rfl rfl (L_pick (v:=Bo (((decide ((m.sizes.length : Int) < 1)) || (decide ((m.sizes.length : Int) > 5))) || (decide (n_8 > 12)))) rfl rfl (or_f hc44 rfl) (mB rfl (L_split (d:=53) (b:=(((decide ((m.sizes.length : Int) < 1)) || (decide ((m.sizes.length : Int) > 5))) || (decide (n_8 > 12)))) rfl (fun hc46=>?_) (fun hc46=>?_)))))
 refine ps rfl (ps rfl (ps rfl (ps rfl (L_pick (v:=Bo ((((decide ((m.sizes.length : Int) < 1)) || (decide ((m.sizes.length : Int) > 5))) || (decide (n_8 > 12))) || (decide ((m.rules.length : Int) > 8)))) rfl rfl (or_t hc46) (nn (rj hR42 ⟨sf1,rfl,Z⟩))))))
 refine fA 1 fa_26_1 sf1 rfl (ldB 0 Z Tryd.isAgg24 rfl rfl rfl (L_len rfl Tryd.underlying24 rfl (slice_len h0_1) (L_gtr rfl rfl rfl (L_pick (v:=Bo ((((decide ((m.sizes.length : Int) < 1)) || (decide ((m.sizes.length : Int) > 5))) || (decide (n_8 > 12))) || (decide ((m.rules.length : Int) > 8)))) rfl rfl (or_f hc46 rfl) (nn (rj hR42 ⟨sf1,rfl,Z⟩))))))
 refine fA 0 fa_26_0 sf1 rfl (ldB 0 Z Tryd.isAgg23 rfl rfl rfl (L_len rfl Tryd.underlying23 rfl (slice_len h0_0) (L_gtr rfl rfl rfl (L_pick (v:=Bo ((decide ((m.sizes.length : Int) < 1)) || (decide ((m.sizes.length : Int) > 5)))) rfl rfl (or_f hc43 rfl) (mB rfl (L_split (d:=49) (b:=((decide ((m.sizes.length : Int) < 1)) || (decide ((m.sizes.length : Int) > 5)))) rfl (fun hc47=>?_) (fun hc47=>?_)))))))
 refine ps rfl (ps rfl (L_pick (v:=Bo (((decide ((m.sizes.length : Int) < 1)) || (decide ((m.sizes.length : Int) > 5))) || (decide (n_8 > 12)))) rfl rfl (or_t hc47) (mB rfl (L_split (d:=53) (b:=(((decide ((m.sizes.length : Int) < 1)) || (decide ((m.sizes.length : Int) > 5))) || (decide (n_8 > 12)))) rfl (fun hc48=>?_) (fun hc48=>?_)))))
 refine ps rfl (ps rfl (ps rfl (ps rfl (L_pick (v:=Bo ((((decide ((m.sizes.length : Int) < 1)) || (decide ((m.sizes.length : Int) > 5))) || (decide (n_8 > 12))) || (decide ((m.rules.length : Int) > 8)))) rfl rfl (or_t hc48) (nn (rj hR42 ⟨sf1,rfl,Z⟩))))))
 refine fA 1 fa_26_1 sf1 rfl (ldB 0 Z Tryd.isAgg24 rfl rfl rfl (L_len rfl Tryd.underlying24 rfl (slice_len h0_1) (L_gtr rfl rfl rfl (L_pick (v:=Bo ((((decide ((m.sizes.length : Int) < 1)) || (decide ((m.sizes.length : Int) > 5))) || (decide (n_8 > 12))) || (decide ((m.rules.length : Int) > 8)))) rfl rfl (or_f hc48 rfl) (nn (rj hR42 ⟨sf1,rfl,Z⟩))))))
 refine mF sf3 rfl (L_gtr rfl rfl rfl (L_pick (v:=Bo (((decide ((m.sizes.length : Int) < 1)) || (decide ((m.sizes.length : Int) > 5))) || (decide (n_8 > 12)))) rfl rfl (or_f hc47 rfl) (mB rfl (L_split (d:=53) (b:=(((decide ((m.sizes.length : Int) < 1)) || (decide ((m.sizes.length : Int) > 5))) || (decide (n_8 > 12)))) rfl (fun hc49=>?_) (fun hc49=>?_)))))
 refine ps rfl (ps rfl (ps rfl (ps rfl (L_pick (v:=Bo ((((decide ((m.sizes.length : Int) < 1)) || (decide ((m.sizes.length : Int) > 5))) || (decide (n_8 > 12))) || (decide ((m.rules.length : Int) > 8)))) rfl rfl (or_t hc49) (nn (rj hR42 ⟨sf1,rfl,Z⟩))))))
 refine fA 1 fa_26_1 sf1 rfl (ldB 0 Z Tryd.isAgg24 rfl rfl rfl (L_len rfl Tryd.underlying24 rfl (slice_len h0_1) (L_gtr rfl rfl rfl (L_pick (v:=Bo ((((decide ((m.sizes.length : Int) < 1)) || (decide ((m.sizes.length : Int) > 5))) || (decide (n_8 > 12))) || (decide ((m.rules.length : Int) > 8)))) rfl rfl (or_f hc49 rfl) (nn (rj hR42 ⟨sf1,rfl,Z⟩))))))
 intro f w_ hR
 obtain ⟨sf1,sf58,Z⟩:=rk hR42 hR
 refine W_cond (b:=((((decide ((m.sizes.length : Int) < 1)) || (decide ((m.sizes.length : Int) > 5))) || (decide (n_8 > 12))) || (decide ((m.rules.length : Int) > 8)))) sf58 (fun hc50=>?_) (fun hc50=>?_)
 have hF:=(ite_t hc50).symm.trans hF
 refine sq (aB rfl (nn (W_ret (retG1 (v1:=Bo false) Tryd.results32 rfl ?_))))
 obtain rfl:=so hF
 exact ⟨rfl,(Star.keepN 0 Z)⟩
 have hF:=(ite_f hc50).symm.trans hF
 refine W_skip (W_seq (sq (aI rfl (nn ?_))))
 have hlen54 : List.length m.rules≤9223372036854775807:=len_le (slice_len h0_1)
 obtain ⟨j54,hL54,hF⟩:=bind_some hF
 obtain ⟨R54,hR54⟩:=exR fun f w_=>∃ H52 : FH,j54 = .nx ()∧Le H H52∧Star H52 w_ ([])
 refine W_join R54 ?_ ?_
 refine W_block ?_
 obtain ⟨I54,hI54⟩:=exI fun n f w_=>∃ i_51 : Nat,∃ suf54 : List Rule,∃ H52 : FH,n = suf54.length∧List.drop i_51 m.rules = suf54∧i_51 + suf54.length = m.rules.length∧rangeL (s_ModelValid_b2 m) suf54 i_51 () = some j54∧Le H H52∧f 1 = Pt g3∧f 5 = I i_51∧Star H52 w_ ([box g3 26 #[v0_0,v0_1]])
 refine W_loop I54 (n:=m.rules.length) ?_ ?_
 exact ij hI54 ⟨0,m.rules,H,rfl,rfl,Nat.zero_add _,hL54,(Le.refl _),sf1,rfl,Z⟩
 intro n54 f w_ hI
 obtain ⟨i_51,suf54,H52,rfl,hd54,hl54,hL54,l53,sf1,sf5,Z⟩:=ik hI54 hI
 refine W_seq (sq (mF sf5 rfl (fA 1 fa_26_1 sf1 rfl (ldB 0 Z Tryd.isAgg24 rfl rfl rfl (L_len rfl Tryd.underlying24 rfl (slice_len (RP.mono _ h0_1 l53)) (L_lss rfl rfl rfl (nn (W_cond (b:=decide ((i_51 : Int) < (m.rules.length : Int))) rfl (fun hc55=>?_) (fun hc55=>?_)))))))))
 have hlt54:=of_decide_eq_true hc55
 rcases suf54 with _ | ⟨x_54,rest54⟩
 exact absurd hlt54 (by simp at hl54; omega)
 obtain ⟨o54,hB54,hL54⟩:=range_cons hL54
 rw [s_ModelValid_b2] at hB54
 have hix54:=drop_idx hd54
 refine W_skip (W_seq (W_block (W_seq ?_)))
 obtain ⟨x65,hx65,hB54⟩:=bind_some hB54
 refine W_drawS 6 [isV (.agg #[v0_0,v0_1]),isV (Pq g3 1),isV (v0_1),isV (I i_51),isEl (rRule 3 23) x_54 0,exD (isData (rS 3 RP.int) x_54.vars) fun u_1=>exD (isData (rS 3 RP.int) x_54.coefs) fun u_2=>exD (isData (rS 23 (rS 3 RP.int)) x_54.rows) fun u_4=>isV (.agg #[I x_54.kind,u_1,u_2,I x_54.bound,u_4])] [box g3 26 #[v0_0,v0_1]] [] ([]) [([],[]),([],[]),([],[]),([],[]),([],[]),([],[])] (S:=[]) Tryd_mix (by kernel_rfl) rfl (by kernel_rfl) (amF_cons (mono_V _) (amF_cons (mono_V _) (amF_cons (mono_V _) (amF_cons (mono_V _) (amF_cons (mono_el _ _ _) (amF_cons (mono_exD (mono_data _ _) fun _=>mono_exD (mono_data _ _) fun _=>mono_exD (mono_data _ _) fun _=>mono_V _) amF_nil)))))) Z ?_ (fun f w_ H67 hS67 hE67 hT67 Z=>?_)
 refine opsS_cons (fun f w_ _ _ s _ _ Z=>L_lda (cs:=[v0_0,v0_1]) rfl Tryd.isAgg26 Tryd.sizeOf26 ((s 1 rfl).trans sf1) (At.sub0 (Blk.at (Star.blkAt 0 Z rfl)) 0 2) rfl (nO rfl rfl Z)) (opsS_cons (fun f w_ _ _ s _ _ Z=>fA 1 fa_26_1 ((s 1 rfl).trans sf1) rfl (nO rfl rfl Z)) (opsS_cons (fun f w_ _ _ _ _ p Z=>ldB 0 Z Tryd.isAgg24 (p 1 67 rfl rfl) rfl rfl (nO rfl rfl Z)) (opsS_cons (fun f w_ _ _ s _ _ Z=>mF ((s 5 rfl).trans sf5) rfl (nO rfl rfl Z)) (opsS_cons ?_ ?_))))
 intro f w_ H67 X67 hS67 hE67 hP67 Z
 refine L_ix (r:=(rRule 3 23)) rfl Tryd.underlying24 Tryd.sizeOf54 (hP67 2 68 rfl rfl) (RP.mono _ h0_1 (Le.trans l53 hE67)) (hP67 3 69 rfl rfl) hix54 (fun g72 o73 cs_g72 hrk_hat74 hat74=>?_)
 obtain ⟨u75_0,u75_1,u75_2,rfl,hu75_0,hu75_1,hu75_2⟩:=rRule_iff.1 hrk_hat74
 exact L_nil ⟨rfl,_,_,rfl,Le.refl _,fun _ _=>⟨_,_,_,rfl,hrk_hat74,hat74⟩,Z⟩
 refine opsS_cons ?_ ?_
 intro f w_ H67 X67 hS67 hE67 hP67 Z
 obtain ⟨g76,o76,cs76,hv76,hrk_hat76,hat76⟩:=(hP67 4 70 rfl rfl)
 obtain ⟨u77_0,u77_1,u77_2,rfl,hu77_0,hu77_1,hu77_2⟩:=rRule_iff.1 hrk_hat76
 refine L_lda (cs:=[I x_54.kind,u77_0,u77_1,I x_54.bound,u77_2]) rfl Tryd.isAgg54 Tryd.sizeOf54 hv76 (At.sub (AtH.at hat76 Z.sub) 0 5) rfl (L_nil ⟨rfl,_,_,rfl,Le.refl _,fun _ _=>⟨_,hu77_0,_,hu77_1,_,hu77_2,rfl⟩,Z⟩)
 exact opsS_nil
 obtain ⟨u78_1,hu78_1,u78_2,hu78_2,u78_4,hu78_4,hv78⟩:=(hT67 5 71 rfl rfl)
 obtain ⟨H79b,l80,s81,z82,k83⟩:=Z.borrow
 refine L_call rfl Tryd.call58 (ops2 (hT67 0 66 rfl rfl) hv78) (s_l6Rule_c (m:=m) (r_:=x_54) s81 (RP.mono _ h0_0 (Le.trans (Le.trans l53 hE67) l80)) (RP.mono _ h0_1 (Le.trans (Le.trans l53 hE67) l80)) (RP.mono _ hu78_1 l80) (RP.mono _ hu78_2 l80) (RP.mono _ hu78_4 l80) hx65) ?_
 rintro _ w84 ⟨rfl,Z⟩
 have Z:=k83 Z c0
 refine L_not_ rfl rfl (nn (W_cond (b:=(!x65)) rfl (fun hc85=>?_) (fun hc85=>?_)))
 have hB54:=(ite_t hc85).symm.trans hB54
 refine sq (aB rfl (nn (W_ret (retG1 (v1:=Bo false) Tryd.results32 rfl ?_))))
 obtain rfl:=so hB54
 obtain rfl:=so hL54
 obtain rfl:=so hF
 exact ⟨rfl,(Star.down (Star.keepN 0 Z) (Le.trans l53 hE67) c0)⟩
 have hB54:=(ite_f hc85).symm.trans hB54
 refine W_skip (W_region (mF ((hS67 5 rfl).trans sf5) rfl (L_add rfl rfl rfl (aI rfl (nn ?_)))))
 obtain rfl:=so hB54
 show ∃ m,m < _∧I54 m _ _
 refine ⟨rest54.length,by simp,?_⟩
 exact ij hI54 ⟨i_51 + 1,rest54,H67,rfl,drop_next hd54,by simp at hl54; omega,hL54,(Le.trans l53 hE67),((hS67 1 rfl).trans sf1),(Eq.trans rfl (congrArg (Value.int .i64) (i64_succ (n:=m.rules.length) (by simp at hl54; omega) hlen54))),Z⟩
 rcases suf54 with _ | ⟨_,_⟩
 obtain rfl:=range_nil hL54
 refine W_exit (rj hR54 ⟨H52,rfl,l53,(Star.keepN 0 Z)⟩)
 exact absurd (of_decide_eq_false hc55) (by simp at hl54; omega)
 intro f w_ hR
 obtain ⟨H52,rfl,l53,Z⟩:=rk hR54 hR
 refine sq (aB rfl (nn (W_ret (retG1 (v1:=Bo true) Tryd.results32 rfl ?_))))
 obtain rfl:=so hF
 exact ⟨rfl,(Star.down Z l53 c0)⟩
theorem s_l17Dec_F_c {fu : Nat} {rec_ : Int→Option ByteArray} (hrec : ∀ {n_ : Int} {H : FH} {w : World} (Z : Star H w []) {r : ByteArray} (hF : rec_ n_ = some r),C Tryd.prog 59 #[I n_] w fun v w'=>v = .string r∧Star H w' []) {n_ : Int} {H : FH} {w : World} (Z : Star H w []) {r : ByteArray} (hF : s_l17Dec_F fu rec_ n_ = some r) :
 C Tryd.prog 59 #[I n_] w fun v w'=>v = .string r∧Star H w' []:=by
 unfold s_l17Dec_F at hF
 refine C_enter Tryd.func59 rfl Tryd.ntmps59 rfl (sq (aV (.string (⟨#[]⟩ : ByteArray)) rfl (nq (sq (mI rfl (L_lss rfl rfl rfl (nn (W_cond (b:=decide (n_ < (-9223372036854775807))) rfl (fun hc1=>?_) (fun hc1=>?_)))))))))
 have hF:=(ite_t hc1).symm.trans hF
 refine sq (aV (.string (⟨#[45,57,50,50,51,51,55,50,48,51,54,56,53,52,55,55,53,56,48,56]⟩ : ByteArray)) rfl (nn (W_ret (retG1 (v1:=.string (⟨#[45,57,50,50,51,51,55,50,48,51,54,56,53,52,55,55,53,56,48,56]⟩ : ByteArray)) Tryd.results59 rfl ?_))))
 obtain rfl:=so hF
 exact ⟨rfl,Z⟩
 have hF:=(ite_f hc1).symm.trans hF
 refine W_skip (W_seq (sq (mI rfl (L_lss rfl rfl rfl (nn (W_cond (b:=decide (n_ < 0)) rfl (fun hc2=>?_) (fun hc2=>?_)))))))
 have hF:=(ite_t hc2).symm.trans hF
 refine W_seq ?_
 obtain ⟨x8,hx8,hF⟩:=bind_some hF
 obtain ⟨x10,hx10,hF⟩:=bind_some hF
 refine W_region (mI rfl (L_neg rfl rfl ?_))
 obtain ⟨H11b,l12,s13,z14,k15⟩:=Z.borrow
 refine L_call rfl Tryd.call59 (ops1 rfl) (hrec (n_:=i64 (-n_)) s13 hx8) ?_
 rintro _ w16 ⟨rfl,Z⟩
 have Z:=k15 Z c0
 obtain ⟨hx10_l,hx10_e⟩:=cat_some hx10
 refine L_sadd (s:=(⟨#[45]⟩ : ByteArray)) (s':=x8) rfl rfl rfl hx10_l ?_
 rw [← hx10_e]
 refine aV (.string x10) rfl (nn (W_ret (retG1 (v1:=.string x10) Tryd.results59 rfl ?_)))
 obtain rfl:=so hF
 exact ⟨rfl,Z⟩
 have hF:=(ite_f hc2).symm.trans hF
 refine W_skip (sq (aV (.string (⟨#[]⟩ : ByteArray)) rfl (nq ?_)))
 obtain ⟨j20,hL20,hF⟩:=bind_some hF
 obtain ⟨R20,hR20⟩:=exR fun f w_=>∃ n_18 : Int,∃ out_19 : ByteArray,j20 = .nx (n_18,out_19)∧f 0 = I n_18∧f 3 = .string out_19∧Star H w_ ([])
 refine W_join R20 ?_ ?_
 refine W_block ?_
 obtain ⟨I20,hI20⟩:=exI fun n f w_=>∃ n_18 : Int,∃ out_19 : ByteArray,whileL s_l17Dec_b1 n (n_18,out_19) = some j20∧f 0 = I n_18∧f 3 = .string out_19∧Star H w_ ([])
 refine W_loop I20 (n:=fu) ?_ ?_
 exact ij hI20 ⟨n_,(⟨#[]⟩ : ByteArray),hL20,rfl,rfl,Z⟩
 intro n20 f w_ hI
 obtain ⟨n_18,out_19,hL20,sf0,sf3,Z⟩:=ik hI20 hI
 rcases n20 with _ | n20
 exact (while_zero hL20).elim
 obtain ⟨o20,hB20,hL20⟩:=while_succ hL20
 rw [s_l17Dec_b1] at hB20
 refine W_seq (sq (mF sf0 rfl (L_gtr rfl rfl rfl (nn (W_cond (b:=decide (n_18 > 9)) rfl (fun hc21=>?_) (fun hc21=>?_))))))
 have hB20:=(ite_t hc21).symm.trans hB20
 refine W_skip (W_block (W_seq ?_))
 obtain ⟨x25,hx25,hB20⟩:=bind_some hB20
 refine W_region (mF sf0 rfl (L_rem (m:=n_18) (n:=10) rfl rfl rfl (by decide) (L_add rfl rfl rfl (L_cv8 (n:=i64 (48 + (Int.tmod n_18 10))) rfl rfl ⟨_,Tryd.underlying3⟩ Tryd.underlying5 (L_bs rfl (parts1 rfl) (bs_22_1_0 (.int .u8 ((u8w (i64 (48 + (Int.tmod n_18 10)))).toNat : Int)) rfl) Z (fun g26 w27 Z=>?_))))))
 have Z:=Star.addF (r:=RP.u8) (cs:=[.int .u8 ((u8w (i64 (48 + (Int.tmod n_18 10)))).toNat : Int)]) (x:=(u8w (i64 (48 + (Int.tmod n_18 10))))) Z rfl
 have Z:=Star.mkRow (R:=(OR.frz RP.u8)) [([.int .u8 ((u8w (i64 (48 + (Int.tmod n_18 10)))).toNat : Int)],(u8w (i64 (48 + (Int.tmod n_18 10)))))] [(u8w (i64 (48 + (Int.tmod n_18 10))))] 1 Z rfl rfl rfl (by decide)
 refine L_cvs (xs:=[(u8w (i64 (48 + (Int.tmod n_18 10))))]) 0 rfl Tryd.underlying22 Tryd.underlying5 Tryd.underlying9 rfl Z rfl (by simp) (mF sf3 rfl ?_)
 obtain ⟨hx25_l,hx25_e⟩:=cat_some hx25
 refine L_sadd (s:=(bs [(u8w (i64 (48 + (Int.tmod n_18 10))))])) (s':=out_19) rfl rfl rfl hx25_l ?_
 rw [← hx25_e]
 refine aV (.string x25) rfl (nn (W_region (mF sf0 rfl (L_quo (m:=n_18) (n:=10) rfl rfl rfl (by decide) (aI rfl (nn ?_))))))
 obtain rfl:=so hB20
 show ∃ m,m < _∧I20 m _ _
 refine ⟨n20,Nat.lt_succ_self _,?_⟩
 exact ij hI20 ⟨i64 (Int.tdiv n_18 10),x25,hL20,rfl,rfl,(Star.keepN 0 Z)⟩
 have hB20:=(ite_f hc21).symm.trans hB20
 refine W_exit ?_
 obtain rfl:=so hB20
 obtain rfl:=so hL20
 exact rj hR20 ⟨n_18,out_19,rfl,sf0,sf3,Z⟩
 intro f w_ hR
 obtain ⟨n_18,out_19,rfl,sf0,sf3,Z⟩:=rk hR20 hR
 refine W_seq ?_
 obtain ⟨x32,hx32,hF⟩:=bind_some hF
 refine W_region (mF sf0 rfl (L_add rfl rfl rfl (L_cv8 (n:=i64 (48 + n_18)) rfl rfl ⟨_,Tryd.underlying3⟩ Tryd.underlying5 (L_bs rfl (parts1 rfl) (bs_22_1_0 (.int .u8 ((u8w (i64 (48 + n_18))).toNat : Int)) rfl) Z (fun g33 w34 Z=>?_)))))
 have Z:=Star.addF (r:=RP.u8) (cs:=[.int .u8 ((u8w (i64 (48 + n_18))).toNat : Int)]) (x:=(u8w (i64 (48 + n_18)))) Z rfl
 have Z:=Star.mkRow (R:=(OR.frz RP.u8)) [([.int .u8 ((u8w (i64 (48 + n_18))).toNat : Int)],(u8w (i64 (48 + n_18))))] [(u8w (i64 (48 + n_18)))] 1 Z rfl rfl rfl (by decide)
 refine L_cvs (xs:=[(u8w (i64 (48 + n_18)))]) 0 rfl Tryd.underlying22 Tryd.underlying5 Tryd.underlying9 rfl Z rfl (by simp) (mF sf3 rfl ?_)
 obtain ⟨hx32_l,hx32_e⟩:=cat_some hx32
 refine L_sadd (s:=(bs [(u8w (i64 (48 + n_18)))])) (s':=out_19) rfl rfl rfl hx32_l ?_
 rw [← hx32_e]
 refine aV (.string x32) rfl (nn (W_ret (retG1 (v1:=.string x32) Tryd.results59 rfl ?_)))
 obtain rfl:=so hF
 exact ⟨rfl,(Star.keepN 0 Z)⟩
theorem s_l17Dec_R_c {fu : Nat} : ∀ (n : Nat) {n_ : Int} {H : FH} {w : World} (Z : Star H w []) {r : ByteArray} (hF : s_l17Dec_R fu n n_ = some r),C Tryd.prog 59 #[I n_] w fun v w'=>v = .string r∧Star H w' []:=by
 intro n
 induction n with
 | zero=>intros; rename_i hF; cases hF
 | succ n ih=>intros; rename_i Z _ hF; exact s_l17Dec_F_c ih Z hF
theorem s_l17Dec_c {fu : Nat} {n_ : Int} {H : FH} {w : World} (Z : Star H w []) {r : ByteArray} (hF : s_l17Dec fu n_ = some r) :
 C Tryd.prog 59 #[I n_] w fun v w'=>v = .string r∧Star H w' []:=s_l17Dec_R_c fu Z hF
theorem s_l6Digits_c {fu : Nat} {list : List Int} {v0 : Value} {H : FH} {w : World} (Z : Star H w []) (h0 : (rS 3 RP.int).rel H [v0] list) {r : ByteArray} (hF : s_l6Digits fu list = some r) :
 C Tryd.prog 33 #[v0] w fun v w'=>v = .string r∧Star H w' []:=by
 unfold s_l6Digits at hF
 refine C_enter Tryd.func33 rfl Tryd.ntmps33 rfl (sq (aV (.string (⟨#[]⟩ : ByteArray)) rfl (ns (aV (.string (⟨#[]⟩ : ByteArray)) rfl (nq (sq (aI rfl (nn ?_))))))))
 have hlen3 : List.length list≤9223372036854775807:=len_le (slice_len h0)
 obtain ⟨j3,hL3,hF⟩:=bind_some hF
 obtain ⟨R3,hR3⟩:=exR fun f w_=>∃ out_2 : ByteArray,j3 = .nx out_2∧f 3 = .string out_2∧Star H w_ ([])
 refine W_join R3 ?_ ?_
 refine W_block ?_
 obtain ⟨I3,hI3⟩:=exI fun n f w_=>∃ i_1 : Nat,∃ suf3 : List Int,∃ out_2 : ByteArray,n = suf3.length∧List.drop i_1 list = suf3∧i_1 + suf3.length = list.length∧rangeL (s_l6Digits_b1 fu) suf3 i_1 out_2 = some j3∧f 0 = v0∧f 3 = .string out_2∧f 4 = I i_1∧Star H w_ ([])
 refine W_loop I3 (n:=list.length) ?_ ?_
 exact ij hI3 ⟨0,list,(⟨#[]⟩ : ByteArray),rfl,rfl,Nat.zero_add _,hL3,rfl,rfl,rfl,Z⟩
 intro n3 f w_ hI
 obtain ⟨i_1,suf3,out_2,rfl,hd3,hl3,hL3,sf0,sf3,sf4,Z⟩:=ik hI3 hI
 refine W_seq (sq (mF sf4 rfl (mF sf0 rfl (L_len rfl Tryd.underlying23 rfl (slice_len h0) (L_lss rfl rfl rfl (nn (W_cond (b:=decide ((i_1 : Int) < (list.length : Int))) rfl (fun hc4=>?_) (fun hc4=>?_))))))))
 have hlt3:=of_decide_eq_true hc4
 rcases suf3 with _ | ⟨x_3,rest3⟩
 exact absurd hlt3 (by simp at hl3; omega)
 obtain ⟨o3,hB3,hL3⟩:=range_cons hL3
 rw [s_l6Digits_b1] at hB3
 have hix3:=drop_idx hd3
 refine W_skip (W_seq (W_block ?_))
 obtain ⟨x14,hx14,hB3⟩:=bind_some hB3
 obtain ⟨x16,hx16,hB3⟩:=bind_some hB3
 refine W_region (mF sf3 rfl (mF sf0 rfl (mF sf4 rfl (L_ix (r:=RP.int) rfl Tryd.underlying23 Tryd.sizeOf3 rfl h0 rfl hix3 (fun g17 o18 cs_g17 hrk_hat19 hat19=>?_)))))
 obtain rfl : _ = [_]:=hrk_hat19
 refine L_ld rfl Tryd.isAgg3 rfl (At.cell (AtH.at hat19 Z.sub) (j:=0) rfl) ?_
 obtain ⟨H21b,l22,s23,z24,k25⟩:=Z.borrow
 refine L_call rfl Tryd.call59 (ops1 rfl) (s_l17Dec_c (n_:=x_3) s23 hx14) ?_
 rintro _ w26 ⟨rfl,Z⟩
 have Z:=k25 Z c0
 obtain ⟨hx16_l,hx16_e⟩:=cat_some hx16
 refine L_sadd (s:=out_2) (s':=x14) rfl rfl rfl hx16_l ?_
 rw [← hx16_e]
 refine aV (.string x16) rfl (nn (W_region (mF sf4 rfl (L_add rfl rfl rfl (aI rfl (nn ?_))))))
 obtain rfl:=so hB3
 show ∃ m,m < _∧I3 m _ _
 refine ⟨rest3.length,by simp,?_⟩
 exact ij hI3 ⟨i_1 + 1,rest3,x16,rfl,drop_next hd3,by simp at hl3; omega,hL3,sf0,rfl,(Eq.trans rfl (congrArg (Value.int .i64) (i64_succ (n:=list.length) (by simp at hl3; omega) hlen3))),Z⟩
 rcases suf3 with _ | ⟨_,_⟩
 obtain rfl:=range_nil hL3
 refine W_exit (rj hR3 ⟨out_2,rfl,sf3,Z⟩)
 exact absurd (of_decide_eq_false hc4) (by simp at hl3; omega)
 intro f w_ hR
 obtain ⟨out_2,rfl,sf3,Z⟩:=rk hR3 hR
 refine sq (mF sf3 rfl (aV (.string out_2) rfl (nn (W_ret (retG1 (v1:=.string out_2) Tryd.results33 rfl ?_)))))
 obtain rfl:=so hF
 exact ⟨rfl,Z⟩
theorem s_l6Signed_c {fu : Nat} {n_ : Int} {H : FH} {w : World} (Z : Star H w []) {r : ByteArray} (hF : s_l6Signed fu n_ = some r) :
 C Tryd.prog 60 #[I n_] w fun v w'=>v = .string r∧Star H w' []:=by
 unfold s_l6Signed at hF
 refine C_enter Tryd.func60 rfl Tryd.ntmps60 rfl (sq (aV (.string (⟨#[]⟩ : ByteArray)) rfl (nq (sq (mI rfl (L_lss rfl rfl rfl (nn (W_cond (b:=decide (n_ < 0)) rfl (fun hc1=>?_) (fun hc1=>?_)))))))))
 have hF:=(ite_t hc1).symm.trans hF
 refine W_seq ?_
 obtain ⟨x7,hx7,hF⟩:=bind_some hF
 obtain ⟨x9,hx9,hF⟩:=bind_some hF
 refine W_region (mI rfl (L_neg rfl rfl ?_))
 obtain ⟨H10b,l11,s12,z13,k14⟩:=Z.borrow
 refine L_call rfl Tryd.call59 (ops1 rfl) (s_l17Dec_c (n_:=i64 (-n_)) s12 hx7) ?_
 rintro _ w15 ⟨rfl,Z⟩
 have Z:=k14 Z c0
 obtain ⟨hx9_l,hx9_e⟩:=cat_some hx9
 refine L_sadd (s:=(⟨#[45]⟩ : ByteArray)) (s':=x7) rfl rfl rfl hx9_l ?_
 rw [← hx9_e]
 refine aV (.string x9) rfl (nn (W_ret (retG1 (v1:=.string x9) Tryd.results60 rfl ?_)))
 obtain rfl:=so hF
 exact ⟨rfl,Z⟩
 have hF:=(ite_f hc1).symm.trans hF
 refine W_skip (W_seq ?_)
 obtain ⟨x21,hx21,hF⟩:=bind_some hF
 refine W_region (mI rfl ?_)
 obtain ⟨H23b,l24,s25,z26,k27⟩:=Z.borrow
 refine L_call rfl Tryd.call59 (ops1 rfl) (s_l17Dec_c (n_:=n_) s25 hx21) ?_
 rintro _ w28 ⟨rfl,Z⟩
 have Z:=k27 Z c0
 refine aV (.string x21) rfl (nn (W_ret (retG1 (v1:=.string x21) Tryd.results60 rfl ?_)))
 obtain rfl:=so hF
 exact ⟨rfl,Z⟩
theorem s_l6Line_c {fu : Nat} {r_ : Rule} {v0_1 : Value} {v0_2 : Value} {v0_4 : Value} {H : FH} {w : World} (Z : Star H w []) (h0_1 : (rS 3 RP.int).rel H [v0_1] r_.vars) (h0_2 : (rS 3 RP.int).rel H [v0_2] r_.coefs) (h0_4 : (rS 23 (rS 3 RP.int)).rel H [v0_4] r_.rows) {r : ByteArray} (hF : s_l6Line fu r_ = some r) :
 C Tryd.prog 34 #[.agg #[I r_.kind,v0_1,v0_2,I r_.bound,v0_4]] w fun v w'=>v = .string r∧Star H w' []:=by
 unfold s_l6Line at hF
 refine C_enter Tryd.func34 rfl Tryd.ntmps34 rfl (sq (L_box (v:=.agg #[I r_.kind,v0_1,v0_2,I r_.bound,v0_4]) (cs:=#[I r_.kind,v0_1,v0_2,I r_.bound,v0_4]) rfl rfl rfl Z (fun g3 w4 Z=>aV (.string (⟨#[]⟩ : ByteArray)) rfl (nq (sq (fA 0 fa_54_0 rfl rfl (ldB 0 Z Tryd.isAgg3 rfl rfl rfl (nn (W_block (sq (L_eql rfl rfl rfl (aB rfl (nn (W_cond (b:=(r_.kind == 1)) rfl (fun hc5=>?_) (fun hc5=>?_)))))))))))))))
 have hF:=(ite_t hc5).symm.trans hF
 refine sq (aV (.string (⟨#[108,105,110,101,97,114]⟩ : ByteArray)) rfl (nq (sq (aI rfl (nn ?_)))))
 have hlen10 : List.length r_.vars≤9223372036854775807:=len_le (slice_len h0_1)
 obtain ⟨j10,hL10,hF⟩:=bind_some hF
 obtain ⟨R10,hR10⟩:=exR fun f w_=>∃ out_7 : ByteArray,∃ H8 : FH,j10 = .nx out_7∧Le H H8∧f 1 = Pt g3∧f 3 = .string out_7∧Star H8 w_ ([box g3 54 #[I r_.kind,v0_1,v0_2,I r_.bound,v0_4]])
 refine W_join R10 ?_ ?_
 refine W_block ?_
 obtain ⟨I10,hI10⟩:=exI fun n f w_=>∃ i_6 : Nat,∃ suf10 : List Int,∃ out_7 : ByteArray,∃ H8 : FH,n = suf10.length∧List.drop i_6 r_.vars = suf10∧i_6 + suf10.length = r_.vars.length∧rangeL (s_l6Line_b1 fu r_) suf10 i_6 out_7 = some j10∧Le H H8∧f 1 = Pt g3∧f 3 = .string out_7∧f 4 = I i_6∧Star H8 w_ ([box g3 54 #[I r_.kind,v0_1,v0_2,I r_.bound,v0_4]])
 refine W_loop I10 (n:=r_.vars.length) ?_ ?_
 exact ij hI10 ⟨0,r_.vars,(⟨#[108,105,110,101,97,114]⟩ : ByteArray),H,rfl,rfl,Nat.zero_add _,hL10,(Le.refl _),rfl,rfl,rfl,Z⟩
 intro n10 f w_ hI
 obtain ⟨i_6,suf10,out_7,H8,rfl,hd10,hl10,hL10,l9,sf1,sf3,sf4,Z⟩:=ik hI10 hI
 refine W_seq (sq (mF sf4 rfl (fA 1 fa_54_1 sf1 rfl (ldB 0 Z Tryd.isAgg23 rfl rfl rfl (L_len rfl Tryd.underlying23 rfl (slice_len (RP.mono _ h0_1 l9)) (L_lss rfl rfl rfl (nn (W_cond (b:=decide ((i_6 : Int) < (r_.vars.length : Int))) rfl (fun hc11=>?_) (fun hc11=>?_)))))))))
 have hlt10:=of_decide_eq_true hc11
 rcases suf10 with _ | ⟨x_10,rest10⟩
 exact absurd hlt10 (by simp at hl10; omega)
 obtain ⟨o10,hB10,hL10⟩:=range_cons hL10
 rw [s_l6Line_b1] at hB10
 have hix10:=drop_idx hd10
 refine W_skip (W_seq (W_block ?_))
 obtain ⟨x12,hx12,hB10⟩:=bind_some hB10
 obtain ⟨x13,hx13,hB10⟩:=bind_some hB10
 obtain ⟨x23,hx23,hB10⟩:=bind_some hB10
 obtain ⟨x25,hx25,hB10⟩:=bind_some hB10
 obtain ⟨x26,hx26,hB10⟩:=bind_some hB10
 obtain ⟨x36,hx36,hB10⟩:=bind_some hB10
 obtain ⟨x38,hx38,hB10⟩:=bind_some hB10
 refine W_drawS 16 [isV (.string out_7),isV (.string x12),isV (Pq g3 2),isV (v0_2),isV (I i_6),isEl RP.int x13 0,isV (I x13),isV (.string x23),isV (.string x25),isV (.string x26),isV (Pq g3 1),isV (v0_1),isV (I i_6),isEl RP.int x_10 0,isV (I x_10),isV (.string x36)] [box g3 54 #[I r_.kind,v0_1,v0_2,I r_.bound,v0_4]] [] ([]) [([],[]),([],[]),([],[]),([],[]),([],[]),([],[]),([],[]),([],[]),([],[]),([],[]),([],[]),([],[]),([],[]),([],[]),([],[]),([],[])] (S:=[]) Tryd_mix (by kernel_rfl) rfl (by kernel_rfl) (amF_cons (mono_V _) (amF_cons (mono_V _) (amF_cons (mono_V _) (amF_cons (mono_V _) (amF_cons (mono_V _) (amF_cons (mono_el _ _ _) (amF_cons (mono_V _) (amF_cons (mono_V _) (amF_cons (mono_V _) (amF_cons (mono_V _) (amF_cons (mono_V _) (amF_cons (mono_V _) (amF_cons (mono_V _) (amF_cons (mono_el _ _ _) (amF_cons (mono_V _) (amF_cons (mono_V _) amF_nil)))))))))))))))) Z ?_ (fun f w_ H39 hS39 hE39 hT39 Z=>?_)
 refine opsS_cons (fun f w_ _ _ s _ _ Z=>mF ((s 3 rfl).trans sf3) rfl (nO rfl rfl Z)) (opsS_cons ?_ ?_)
 intro f w_ H39 X39 hS39 hE39 hP39 Z
 obtain ⟨hx12_l,hx12_e⟩:=cat_some hx12
 refine L_sadd (s:=out_7) (s':=(⟨#[32]⟩ : ByteArray)) rfl (hP39 0 18 rfl rfl) rfl hx12_l ?_
 rw [← hx12_e]
 exact L_nil ⟨rfl,_,_,rfl,Le.refl _,fun _ _=>rfl,Z⟩
 refine opsS_cons (fun f w_ _ _ s _ _ Z=>fA 2 fa_54_2 ((s 1 rfl).trans sf1) rfl (nO rfl rfl Z)) (opsS_cons (fun f w_ _ _ _ _ p Z=>ldB 0 Z Tryd.isAgg23 (p 2 20 rfl rfl) rfl rfl (nO rfl rfl Z)) (opsS_cons (fun f w_ _ _ s _ _ Z=>mF ((s 4 rfl).trans sf4) rfl (nO rfl rfl Z)) (opsS_cons ?_ ?_)))
 intro f w_ H39 X39 hS39 hE39 hP39 Z
 refine L_ix (r:=RP.int) rfl Tryd.underlying23 Tryd.sizeOf3 (hP39 3 21 rfl rfl) (RP.mono _ h0_2 (Le.trans l9 hE39)) (hP39 4 22 rfl rfl) hx13 (fun g60 o61 cs_g60 hrk_hat62 hat62=>?_)
 obtain rfl : _ = [_]:=hrk_hat62
 exact L_nil ⟨rfl,_,_,rfl,Le.refl _,fun _ _=>⟨_,_,_,rfl,rfl,hat62⟩,Z⟩
 refine opsS_cons ?_ ?_
 intro f w_ H39 X39 hS39 hE39 hP39 Z
 obtain ⟨g64,o64,cs64,hv64,hrk_hat64,hat64⟩:=(hP39 5 23 rfl rfl)
 obtain rfl : _ = [_]:=hrk_hat64
 refine L_ld rfl Tryd.isAgg3 hv64 (At.cell (AtH.at hat64 Z.sub) (j:=0) rfl) (L_nil ⟨rfl,_,_,rfl,Le.refl _,fun _ _=>rfl,Z⟩)
 refine opsS_cons ?_ ?_
 intro f w_ H39 X39 hS39 hE39 hP39 Z
 obtain ⟨H66b,l67,s68,z69,k70⟩:=Z.borrow
 refine L_call rfl Tryd.call60 (ops1 (hP39 6 24 rfl rfl)) (s_l6Signed_c (n_:=x13) s68 hx23) ?_
 rintro _ w71 ⟨rfl,Z⟩
 have Z:=k70 Z c0
 exact L_nil ⟨rfl,_,_,rfl,Le.refl _,fun _ _=>rfl,Z⟩
 refine opsS_cons ?_ ?_
 intro f w_ H39 X39 hS39 hE39 hP39 Z
 obtain ⟨hx25_l,hx25_e⟩:=cat_some hx25
 refine L_sadd (s:=x12) (s':=x23) rfl (hP39 1 19 rfl rfl) (hP39 7 25 rfl rfl) hx25_l ?_
 rw [← hx25_e]
 exact L_nil ⟨rfl,_,_,rfl,Le.refl _,fun _ _=>rfl,Z⟩
 refine opsS_cons ?_ ?_
 intro f w_ H39 X39 hS39 hE39 hP39 Z
 obtain ⟨hx26_l,hx26_e⟩:=cat_some hx26
 refine L_sadd (s:=x25) (s':=(⟨#[32]⟩ : ByteArray)) rfl (hP39 8 26 rfl rfl) rfl hx26_l ?_
 rw [← hx26_e]
 exact L_nil ⟨rfl,_,_,rfl,Le.refl _,fun _ _=>rfl,Z⟩
 refine opsS_cons (fun f w_ _ _ s _ _ Z=>fA 1 fa_54_1 ((s 1 rfl).trans sf1) rfl (nO rfl rfl Z)) (opsS_cons (fun f w_ _ _ _ _ p Z=>ldB 0 Z Tryd.isAgg23 (p 10 28 rfl rfl) rfl rfl (nO rfl rfl Z)) (opsS_cons (fun f w_ _ _ s _ _ Z=>mF ((s 4 rfl).trans sf4) rfl (nO rfl rfl Z)) (opsS_cons ?_ ?_)))
 intro f w_ H39 X39 hS39 hE39 hP39 Z
 refine L_ix (r:=RP.int) rfl Tryd.underlying23 Tryd.sizeOf3 (hP39 11 29 rfl rfl) (RP.mono _ h0_1 (Le.trans l9 hE39)) (hP39 12 30 rfl rfl) hix10 (fun g72 o73 cs_g72 hrk_hat74 hat74=>?_)
 obtain rfl : _ = [_]:=hrk_hat74
 exact L_nil ⟨rfl,_,_,rfl,Le.refl _,fun _ _=>⟨_,_,_,rfl,rfl,hat74⟩,Z⟩
 refine opsS_cons ?_ ?_
 intro f w_ H39 X39 hS39 hE39 hP39 Z
 obtain ⟨g76,o76,cs76,hv76,hrk_hat76,hat76⟩:=(hP39 13 31 rfl rfl)
 obtain rfl : _ = [_]:=hrk_hat76
 refine L_ld rfl Tryd.isAgg3 hv76 (At.cell (AtH.at hat76 Z.sub) (j:=0) rfl) (L_nil ⟨rfl,_,_,rfl,Le.refl _,fun _ _=>rfl,Z⟩)
 refine opsS_cons ?_ ?_
 intro f w_ H39 X39 hS39 hE39 hP39 Z
 obtain ⟨H78b,l79,s80,z81,k82⟩:=Z.borrow
 refine L_call rfl Tryd.call59 (ops1 (hP39 14 32 rfl rfl)) (s_l17Dec_c (n_:=x_10) s80 hx36) ?_
 rintro _ w83 ⟨rfl,Z⟩
 have Z:=k82 Z c0
 exact L_nil ⟨rfl,_,_,rfl,Le.refl _,fun _ _=>rfl,Z⟩
 exact opsS_nil
 obtain ⟨hx38_l,hx38_e⟩:=cat_some hx38
 refine L_sadd (s:=x26) (s':=x36) rfl (hT39 9 27 rfl rfl) (hT39 15 33 rfl rfl) hx38_l ?_
 rw [← hx38_e]
 refine aV (.string x38) rfl (nn (W_region (mF ((hS39 4 rfl).trans sf4) rfl (L_add rfl rfl rfl (aI rfl (nn ?_))))))
 obtain rfl:=so hB10
 show ∃ m,m < _∧I10 m _ _
 refine ⟨rest10.length,by simp,?_⟩
 exact ij hI10 ⟨i_6 + 1,rest10,x38,H39,rfl,drop_next hd10,by simp at hl10; omega,hL10,(Le.trans l9 hE39),((hS39 1 rfl).trans sf1),rfl,(Eq.trans rfl (congrArg (Value.int .i64) (i64_succ (n:=r_.vars.length) (by simp at hl10; omega) hlen10))),Z⟩
 rcases suf10 with _ | ⟨_,_⟩
 obtain rfl:=range_nil hL10
 refine W_exit (rj hR10 ⟨out_7,H8,rfl,l9,sf1,sf3,Z⟩)
 exact absurd (of_decide_eq_false hc11) (by simp at hl10; omega)
 intro f w_ hR
 obtain ⟨out_7,H8,rfl,l9,sf1,sf3,Z⟩:=rk hR10 hR
 refine W_seq ?_
 obtain ⟨x84,hx84,hF⟩:=bind_some hF
 obtain ⟨x90,hx90,hF⟩:=bind_some hF
 obtain ⟨x92,hx92,hF⟩:=bind_some hF
 obtain ⟨x93,hx93,hF⟩:=bind_some hF
 refine W_region (mF sf3 rfl ?_)
 obtain ⟨hx84_l,hx84_e⟩:=cat_some hx84
 refine L_sadd (s:=out_7) (s':=(⟨#[32,62,61,32]⟩ : ByteArray)) rfl rfl rfl hx84_l ?_
 rw [← hx84_e]
 refine fA 3 fa_54_3 sf1 rfl (ldB 0 Z Tryd.isAgg3 rfl rfl rfl ?_)
 obtain ⟨H94b,l95,s96,z97,k98⟩:=Z.borrow
 refine L_call rfl Tryd.call60 (ops1 rfl) (s_l6Signed_c (n_:=r_.bound) s96 hx90) ?_
 rintro _ w99 ⟨rfl,Z⟩
 have Z:=k98 Z c0
 obtain ⟨hx92_l,hx92_e⟩:=cat_some hx92
 refine L_sadd (s:=x84) (s':=x90) rfl rfl rfl hx92_l ?_
 rw [← hx92_e]
 obtain ⟨hx93_l,hx93_e⟩:=cat_some hx93
 refine L_sadd (s:=x92) (s':=(⟨#[10]⟩ : ByteArray)) rfl rfl rfl hx93_l ?_
 rw [← hx93_e]
 refine aV (.string x93) rfl (nn (W_ret (retG1 (v1:=.string x93) Tryd.results34 rfl ?_)))
 obtain rfl:=so hF
 exact ⟨rfl,(Star.down (Star.keepN 0 Z) l9 c0)⟩
 have hF:=(ite_f hc5).symm.trans hF
 refine sq (L_eql rfl rfl rfl (aB rfl (nn (W_cond (b:=(r_.kind == 2)) rfl (fun hc100=>?_) (fun hc100=>?_)))))
 have hF:=(ite_t hc100).symm.trans hF
 refine W_seq ?_
 obtain ⟨x106,hx106,hF⟩:=bind_some hF
 obtain ⟨x108,hx108,hF⟩:=bind_some hF
 obtain ⟨x109,hx109,hF⟩:=bind_some hF
 refine W_region (fA 1 fa_54_1 rfl rfl (ldB 0 Z Tryd.isAgg23 rfl rfl rfl ?_))
 obtain ⟨H110b,l111,s112,z113,k114⟩:=Z.borrow
 refine L_call rfl Tryd.call33 (ops1 rfl) (s_l6Digits_c (list:=r_.vars) s112 (RP.mono _ h0_1 l111) hx106) ?_
 rintro _ w115 ⟨rfl,Z⟩
 have Z:=k114 Z c0
 obtain ⟨hx108_l,hx108_e⟩:=cat_some hx108
 refine L_sadd (s:=(⟨#[100,105,102,102,101,114,101,110,116,32]⟩ : ByteArray)) (s':=x106) rfl rfl rfl hx108_l ?_
 rw [← hx108_e]
 obtain ⟨hx109_l,hx109_e⟩:=cat_some hx109
 refine L_sadd (s:=x108) (s':=(⟨#[10]⟩ : ByteArray)) rfl rfl rfl hx109_l ?_
 rw [← hx109_e]
 refine aV (.string x109) rfl (nn (W_ret (retG1 (v1:=.string x109) Tryd.results34 rfl ?_)))
 obtain rfl:=so hF
 exact ⟨rfl,(Star.keepN 0 Z)⟩
 have hF:=(ite_f hc100).symm.trans hF
 refine sq (L_eql rfl rfl rfl (aB rfl (nn (W_cond (b:=(r_.kind == 4)) rfl (fun hc116=>?_) (fun hc116=>?_)))))
 have hF:=(ite_t hc116).symm.trans hF
 refine W_seq ?_
 obtain ⟨x122,hx122,hF⟩:=bind_some hF
 obtain ⟨x124,hx124,hF⟩:=bind_some hF
 obtain ⟨x125,hx125,hF⟩:=bind_some hF
 refine W_region (fA 1 fa_54_1 rfl rfl (ldB 0 Z Tryd.isAgg23 rfl rfl rfl ?_))
 obtain ⟨H126b,l127,s128,z129,k130⟩:=Z.borrow
 refine L_call rfl Tryd.call33 (ops1 rfl) (s_l6Digits_c (list:=r_.vars) s128 (RP.mono _ h0_1 l127) hx122) ?_
 rintro _ w131 ⟨rfl,Z⟩
 have Z:=k130 Z c0
 obtain ⟨hx124_l,hx124_e⟩:=cat_some hx124
 refine L_sadd (s:=(⟨#[108,101,115,115,32]⟩ : ByteArray)) (s':=x122) rfl rfl rfl hx124_l ?_
 rw [← hx124_e]
 obtain ⟨hx125_l,hx125_e⟩:=cat_some hx125
 refine L_sadd (s:=x124) (s':=(⟨#[10]⟩ : ByteArray)) rfl rfl rfl hx125_l ?_
 rw [← hx125_e]
 refine aV (.string x125) rfl (nn (W_ret (retG1 (v1:=.string x125) Tryd.results34 rfl ?_)))
 obtain rfl:=so hF
 exact ⟨rfl,(Star.keepN 0 Z)⟩
 have hF:=(ite_f hc116).symm.trans hF
 refine W_skip (W_seq ?_)
 obtain ⟨x137,hx137,hF⟩:=bind_some hF
 obtain ⟨x139,hx139,hF⟩:=bind_some hF
 refine W_region (fA 1 fa_54_1 rfl rfl (ldB 0 Z Tryd.isAgg23 rfl rfl rfl ?_))
 obtain ⟨H140b,l141,s142,z143,k144⟩:=Z.borrow
 refine L_call rfl Tryd.call33 (ops1 rfl) (s_l6Digits_c (list:=r_.vars) s142 (RP.mono _ h0_1 l141) hx137) ?_
 rintro _ w145 ⟨rfl,Z⟩
 have Z:=k144 Z c0
 obtain ⟨hx139_l,hx139_e⟩:=cat_some hx139
 refine L_sadd (s:=(⟨#[116,97,98,108,101,32]⟩ : ByteArray)) (s':=x137) rfl rfl rfl hx139_l ?_
 rw [← hx139_e]
 refine aV (.string x139) rfl (L_nil (W_seq (sq (aI rfl (nn ?_)))))
 have hlen148 : List.length r_.rows≤9223372036854775807:=len_le (slice_len h0_4)
 obtain ⟨j148,hL148,hF⟩:=bind_some hF
 obtain ⟨R148,hR148⟩:=exR fun f w_=>∃ out_147 : ByteArray,j148 = .nx out_147∧f 5 = .string out_147∧Star H w_ ([])
 refine W_join R148 ?_ ?_
 refine W_block ?_
 obtain ⟨I148,hI148⟩:=exI fun n f w_=>∃ i_146 : Nat,∃ suf148 : List (List Int),∃ out_147 : ByteArray,n = suf148.length∧List.drop i_146 r_.rows = suf148∧i_146 + suf148.length = r_.rows.length∧rangeL (s_l6Line_b2 fu) suf148 i_146 out_147 = some j148∧f 1 = Pt g3∧f 5 = .string out_147∧f 6 = I i_146∧Star H w_ ([box g3 54 #[I r_.kind,v0_1,v0_2,I r_.bound,v0_4]])
 refine W_loop I148 (n:=r_.rows.length) ?_ ?_
 exact ij hI148 ⟨0,r_.rows,x139,rfl,rfl,Nat.zero_add _,hL148,rfl,rfl,rfl,Z⟩
 intro n148 f w_ hI
 obtain ⟨i_146,suf148,out_147,rfl,hd148,hl148,hL148,sf1,sf5,sf6,Z⟩:=ik hI148 hI
 refine W_seq (sq (mF sf6 rfl (fA 4 fa_54_4 sf1 rfl (ldB 0 Z Tryd.isAgg52 rfl rfl rfl (L_len rfl Tryd.underlying52 rfl (slice_len h0_4) (L_lss rfl rfl rfl (nn (W_cond (b:=decide ((i_146 : Int) < (r_.rows.length : Int))) rfl (fun hc149=>?_) (fun hc149=>?_)))))))))
 have hlt148:=of_decide_eq_true hc149
 rcases suf148 with _ | ⟨x_148,rest148⟩
 exact absurd hlt148 (by simp at hl148; omega)
 obtain ⟨o148,hB148,hL148⟩:=range_cons hL148
 rw [s_l6Line_b2] at hB148
 have hix148:=drop_idx hd148
 refine W_skip (W_seq (W_block ?_))
 obtain ⟨x150,hx150,hB148⟩:=bind_some hB148
 obtain ⟨x160,hx160,hB148⟩:=bind_some hB148
 obtain ⟨x162,hx162,hB148⟩:=bind_some hB148
 refine W_region (mF sf5 rfl ?_)
 obtain ⟨hx150_l,hx150_e⟩:=cat_some hx150
 refine L_sadd (s:=out_147) (s':=(⟨#[32]⟩ : ByteArray)) rfl rfl rfl hx150_l ?_
 rw [← hx150_e]
 refine fA 4 fa_54_4 sf1 rfl (ldB 0 Z Tryd.isAgg52 rfl rfl rfl (mF sf6 rfl (L_ix (r:=(rS 3 RP.int)) rfl Tryd.underlying52 Tryd.sizeOf23 rfl h0_4 rfl hix148 (fun g163 o164 cs_g163 hrk_hat165 hat165=>?_))))
 obtain ⟨u166,rfl,hu166⟩:=slice1 hrk_hat165
 refine L_ld rfl Tryd.isAgg23 rfl (At.cell (AtH.at hat165 Z.sub) (j:=0) rfl) ?_
 obtain ⟨H167b,l168,s169,z170,k171⟩:=Z.borrow
 refine L_call rfl Tryd.call33 (ops1 rfl) (s_l6Digits_c (list:=x_148) s169 (RP.mono _ hu166 l168) hx160) ?_
 rintro _ w172 ⟨rfl,Z⟩
 have Z:=k171 Z c0
 obtain ⟨hx162_l,hx162_e⟩:=cat_some hx162
 refine L_sadd (s:=x150) (s':=x160) rfl rfl rfl hx162_l ?_
 rw [← hx162_e]
 refine aV (.string x162) rfl (nn (W_region (mF sf6 rfl (L_add rfl rfl rfl (aI rfl (nn ?_))))))
 obtain rfl:=so hB148
 show ∃ m,m < _∧I148 m _ _
 refine ⟨rest148.length,by simp,?_⟩
 exact ij hI148 ⟨i_146 + 1,rest148,x162,rfl,drop_next hd148,by simp at hl148; omega,hL148,sf1,rfl,(Eq.trans rfl (congrArg (Value.int .i64) (i64_succ (n:=r_.rows.length) (by simp at hl148; omega) hlen148))),Z⟩
 rcases suf148 with _ | ⟨_,_⟩
 obtain rfl:=range_nil hL148
 refine W_exit (rj hR148 ⟨out_147,rfl,sf5,(Star.keepN 0 Z)⟩)
 exact absurd (of_decide_eq_false hc149) (by simp at hl148; omega)
 intro f w_ hR
 obtain ⟨out_147,rfl,sf5,Z⟩:=rk hR148 hR
 refine W_seq ?_
 obtain ⟨x173,hx173,hF⟩:=bind_some hF
 refine W_region (mF sf5 rfl ?_)
 obtain ⟨hx173_l,hx173_e⟩:=cat_some hx173
 refine L_sadd (s:=out_147) (s':=(⟨#[10]⟩ : ByteArray)) rfl rfl rfl hx173_l ?_
 rw [← hx173_e]
 refine aV (.string x173) rfl (nn (W_ret (retG1 (v1:=.string x173) Tryd.results34 rfl ?_)))
 obtain rfl:=so hF
 exact ⟨rfl,Z⟩
theorem s_FormatModel_c {fu : Nat} {m : Model} {v0_0 : Value} {v0_1 : Value} {H : FH} {w : World} (Z : Star H w []) (h0_0 : (rS 3 RP.int).rel H [v0_0] m.sizes) (h0_1 : (rS 54 (rRule 3 23)).rel H [v0_1] m.rules) {r : ByteArray} (hF : s_FormatModel fu m = some r) :
 C Tryd.prog 11 #[.agg #[v0_0,v0_1]] w fun v w'=>v = .string r∧Star H w' []:=by
 unfold s_FormatModel at hF
 refine C_enter Tryd.func11 rfl Tryd.ntmps11 rfl (sq (L_box (v:=.agg #[v0_0,v0_1]) (cs:=#[v0_0,v0_1]) rfl rfl rfl Z (fun g3 w4 Z=>aV (.string (⟨#[]⟩ : ByteArray)) rfl (nq (W_seq ?_)))))
 obtain ⟨x10,hx10,hF⟩:=bind_some hF
 refine W_region (L_lda (cs:=[v0_0,v0_1]) rfl Tryd.isAgg26 Tryd.sizeOf26 rfl (At.sub0 (Blk.at (Star.blkAt 0 Z rfl)) 0 2) rfl ?_)
 obtain ⟨H12b,l13,s14,z15,k16⟩:=Z.borrow
 refine L_call rfl Tryd.call32 (ops1 rfl) (s_ModelValid_c (m:=m) s14 (RP.mono _ h0_0 l13) (RP.mono _ h0_1 l13) hx10) ?_
 rintro _ w17 ⟨rfl,Z⟩
 have Z:=k16 Z c0
 refine L_not_ rfl rfl (nn (W_cond (b:=(!x10)) rfl (fun hc18=>?_) (fun hc18=>?_)))
 have hF:=(ite_t hc18).symm.trans hF
 refine sq (aV (.string (⟨#[]⟩ : ByteArray)) rfl (nn (W_ret (retG1 (v1:=.string (⟨#[]⟩ : ByteArray)) Tryd.results11 rfl ?_))))
 obtain rfl:=so hF
 exact ⟨rfl,(Star.keepN 0 Z)⟩
 have hF:=(ite_f hc18).symm.trans hF
 refine W_skip (W_seq ?_)
 obtain ⟨x24,hx24,hF⟩:=bind_some hF
 obtain ⟨x26,hx26,hF⟩:=bind_some hF
 obtain ⟨x27,hx27,hF⟩:=bind_some hF
 refine W_region (fA 0 fa_26_0 rfl rfl (ldB 0 Z Tryd.isAgg23 rfl rfl rfl ?_))
 obtain ⟨H28b,l29,s30,z31,k32⟩:=Z.borrow
 refine L_call rfl Tryd.call33 (ops1 rfl) (s_l6Digits_c (list:=m.sizes) s30 (RP.mono _ h0_0 l29) hx24) ?_
 rintro _ w33 ⟨rfl,Z⟩
 have Z:=k32 Z c0
 obtain ⟨hx26_l,hx26_e⟩:=cat_some hx26
 refine L_sadd (s:=(⟨#[115,105,122,101,115,32]⟩ : ByteArray)) (s':=x24) rfl rfl rfl hx26_l ?_
 rw [← hx26_e]
 obtain ⟨hx27_l,hx27_e⟩:=cat_some hx27
 refine L_sadd (s:=x26) (s':=(⟨#[10]⟩ : ByteArray)) rfl rfl rfl hx27_l ?_
 rw [← hx27_e]
 refine aV (.string x27) rfl (nq (sq (aI rfl (nn ?_))))
 have hlen36 : List.length m.rules≤9223372036854775807:=len_le (slice_len h0_1)
 obtain ⟨j36,hL36,hF⟩:=bind_some hF
 obtain ⟨R36,hR36⟩:=exR fun f w_=>∃ out_35 : ByteArray,j36 = .nx out_35∧f 3 = .string out_35∧Star H w_ ([])
 refine W_join R36 ?_ ?_
 refine W_block ?_
 obtain ⟨I36,hI36⟩:=exI fun n f w_=>∃ i_34 : Nat,∃ suf36 : List Rule,∃ out_35 : ByteArray,n = suf36.length∧List.drop i_34 m.rules = suf36∧i_34 + suf36.length = m.rules.length∧rangeL (s_FormatModel_b1 fu) suf36 i_34 out_35 = some j36∧f 1 = Pt g3∧f 3 = .string out_35∧f 4 = I i_34∧Star H w_ ([box g3 26 #[v0_0,v0_1]])
 refine W_loop I36 (n:=m.rules.length) ?_ ?_
 exact ij hI36 ⟨0,m.rules,x27,rfl,rfl,Nat.zero_add _,hL36,rfl,rfl,rfl,Z⟩
 intro n36 f w_ hI
 obtain ⟨i_34,suf36,out_35,rfl,hd36,hl36,hL36,sf1,sf3,sf4,Z⟩:=ik hI36 hI
 refine W_seq (sq (mF sf4 rfl (fA 1 fa_26_1 sf1 rfl (ldB 0 Z Tryd.isAgg24 rfl rfl rfl (L_len rfl Tryd.underlying24 rfl (slice_len h0_1) (L_lss rfl rfl rfl (nn (W_cond (b:=decide ((i_34 : Int) < (m.rules.length : Int))) rfl (fun hc37=>?_) (fun hc37=>?_)))))))))
 have hlt36:=of_decide_eq_true hc37
 rcases suf36 with _ | ⟨x_36,rest36⟩
 exact absurd hlt36 (by simp at hl36; omega)
 obtain ⟨o36,hB36,hL36⟩:=range_cons hL36
 rw [s_FormatModel_b1] at hB36
 have hix36:=drop_idx hd36
 refine W_skip (W_seq (W_block ?_))
 obtain ⟨x47,hx47,hB36⟩:=bind_some hB36
 obtain ⟨x49,hx49,hB36⟩:=bind_some hB36
 refine W_region (mF sf3 rfl (fA 1 fa_26_1 sf1 rfl (ldB 0 Z Tryd.isAgg24 rfl rfl rfl (mF sf4 rfl (L_ix (r:=(rRule 3 23)) rfl Tryd.underlying24 Tryd.sizeOf54 rfl h0_1 rfl hix36 (fun g50 o51 cs_g50 hrk_hat52 hat52=>?_))))))
 obtain ⟨u53_0,u53_1,u53_2,rfl,hu53_0,hu53_1,hu53_2⟩:=rRule_iff.1 hrk_hat52
 refine L_lda (cs:=[I x_36.kind,u53_0,u53_1,I x_36.bound,u53_2]) rfl Tryd.isAgg54 Tryd.sizeOf54 rfl (At.sub (AtH.at hat52 Z.sub) 0 5) rfl ?_
 obtain ⟨H54b,l55,s56,z57,k58⟩:=Z.borrow
 refine L_call rfl Tryd.call34 (ops1 rfl) (s_l6Line_c (r_:=x_36) s56 (RP.mono _ hu53_0 l55) (RP.mono _ hu53_1 l55) (RP.mono _ hu53_2 l55) hx47) ?_
 rintro _ w59 ⟨rfl,Z⟩
 have Z:=k58 Z c0
 obtain ⟨hx49_l,hx49_e⟩:=cat_some hx49
 refine L_sadd (s:=out_35) (s':=x47) rfl rfl rfl hx49_l ?_
 rw [← hx49_e]
 refine aV (.string x49) rfl (nn (W_region (mF sf4 rfl (L_add rfl rfl rfl (aI rfl (nn ?_))))))
 obtain rfl:=so hB36
 show ∃ m,m < _∧I36 m _ _
 refine ⟨rest36.length,by simp,?_⟩
 exact ij hI36 ⟨i_34 + 1,rest36,x49,rfl,drop_next hd36,by simp at hl36; omega,hL36,sf1,rfl,(Eq.trans rfl (congrArg (Value.int .i64) (i64_succ (n:=m.rules.length) (by simp at hl36; omega) hlen36))),Z⟩
 rcases suf36 with _ | ⟨_,_⟩
 obtain rfl:=range_nil hL36
 refine W_exit (rj hR36 ⟨out_35,rfl,sf3,(Star.keepN 0 Z)⟩)
 exact absurd (of_decide_eq_false hc37) (by simp at hl36; omega)
 intro f w_ hR
 obtain ⟨out_35,rfl,sf3,Z⟩:=rk hR36 hR
 refine sq (mF sf3 rfl (aV (.string out_35) rfl (nn (W_ret (retG1 (v1:=.string out_35) Tryd.results11 rfl ?_)))))
 obtain rfl:=so hF
 exact ⟨rfl,Z⟩
theorem l_toIntS_c {a : List Int} {v0 : Value} {H : FH} {w : World} (Z : Star H w []) (h0 : (rS 3 RP.int).rel H [v0] a) {r : List Int} (hF : l_toIntS a = some r) :
 C Tryd.prog 35 #[v0] w fun v w'=>∃ (u1 : Value),v = u1∧Star H w' [oF 3 RP.int u1 r]:=by
 unfold l_toIntS at hF
 refine C_enter Tryd.func35 rfl Tryd.ntmps35 rfl (sq (aV S0 rfl (nq ?_)))
 obtain ⟨x1,hx1,hF⟩:=bind_some hF
 refine W_region (mV v0 rfl (L_len rfl Tryd.underlying23 rfl (slice_len h0) (L_mk (R:=(OR.frz RP.int)) (z0:=0) (zc:=[I 0]) rfl et_23 (by kernel_rfl) (fun _ _=>⟨rfl,rfl⟩) rfl rfl hx1 Z (fun v5 w6 Z=>aV v5 rfl (nq (sq (aI rfl (nn ?_))))))))
 have hlen10 : List.length a≤9223372036854775807:=len_le (slice_len h0)
 obtain ⟨j10,hL10,hF⟩:=bind_some hF
 obtain ⟨R10,hR10⟩:=exR fun f w_=>∃ out_9 : List Int,j10 = .nx out_9∧f 3 = v5∧Star H w_ ([oF 3 RP.int v5 out_9])
 refine W_join R10 ?_ ?_
 refine W_block ?_
 obtain ⟨I10,hI10⟩:=exI fun n f w_=>∃ i_8 : Nat,∃ suf10 : List Int,∃ out_9 : List Int,n = suf10.length∧List.drop i_8 a = suf10∧i_8 + suf10.length = a.length∧rangeL l_toIntS_b1 suf10 i_8 out_9 = some j10∧f 0 = v0∧f 3 = v5∧f 4 = I i_8∧Star H w_ ([oF 3 RP.int v5 out_9])
 refine W_loop I10 (n:=a.length) ?_ ?_
 exact ij hI10 ⟨0,a,x1,rfl,rfl,Nat.zero_add _,hL10,rfl,rfl,rfl,Z⟩
 intro n10 f w_ hI
 obtain ⟨i_8,suf10,out_9,rfl,hd10,hl10,hL10,sf0,sf3,sf4,Z⟩:=ik hI10 hI
 refine W_seq (sq (mF sf4 rfl (mF sf0 rfl (L_len rfl Tryd.underlying23 rfl (slice_len h0) (L_lss rfl rfl rfl (nn (W_cond (b:=decide ((i_8 : Int) < (a.length : Int))) rfl (fun hc11=>?_) (fun hc11=>?_))))))))
 have hlt10:=of_decide_eq_true hc11
 rcases suf10 with _ | ⟨x_10,rest10⟩
 exact absurd hlt10 (by simp at hl10; omega)
 obtain ⟨o10,hB10,hL10⟩:=range_cons hL10
 rw [l_toIntS_b1] at hB10
 have hix10:=drop_idx hd10
 refine W_skip (W_seq (W_block ?_))
 obtain ⟨x16,hx16,hB10⟩:=bind_some hB10
 refine W_region (mF sf3 rfl (mF sf4 rfl (mF sf0 rfl (mF sf4 rfl (L_ix (r:=RP.int) rfl Tryd.underlying23 Tryd.sizeOf3 rfl h0 rfl hix10 (fun g20 o21 cs_g20 hrk_hat22 hat22=>?_))))))
 obtain rfl : _ = [_]:=hrk_hat22
 refine L_ld rfl Tryd.isAgg3 rfl (At.cell (AtH.at hat22 Z.sub) (j:=0) rfl) ?_
 obtain ⟨g24,cap_g24,hv25,_,_⟩:=Star.row 0 Z rfl hx16
 refine L_ixO (R:=(OR.frz RP.int)) (tb:=0) 0 rfl Tryd.underlying23 Tryd.sizeOf3 rfl hv25 (by first | rfl | simp) rfl hx16 ?_
 have Z:=Star.addF (r:=RP.int) (cs:=[I x_10]) (x:=x_10) Z rfl
 refine L_stE1 (u:=I x_10) rfl Tryd.sizeOf3 rfl rfl rfl hv25 Z hx16 (fun w26 Z=>?_)
 refine nn (W_region (mF sf4 rfl (L_add rfl rfl rfl (aI rfl (nn ?_)))))
 obtain rfl:=so hB10
 show ∃ m,m < _∧I10 m _ _
 refine ⟨rest10.length,by simp,?_⟩
 exact ij hI10 ⟨i_8 + 1,rest10,(out_9.set (Int.toNat (i_8 : Int)) x_10),rfl,drop_next hd10,by simp at hl10; omega,hL10,sf0,sf3,(Eq.trans rfl (congrArg (Value.int .i64) (i64_succ (n:=a.length) (by simp at hl10; omega) hlen10))),Z⟩
 rcases suf10 with _ | ⟨_,_⟩
 obtain rfl:=range_nil hL10
 refine W_exit (rj hR10 ⟨out_9,rfl,sf3,Z⟩)
 exact absurd (of_decide_eq_false hc11) (by simp at hl10; omega)
 intro f w_ hR
 obtain ⟨out_9,rfl,sf3,Z⟩:=rk hR10 hR
 refine sq (mF sf3 rfl (aV v5 rfl (nn (W_ret (retG1 (v1:=v5) Tryd.results35 rfl ?_)))))
 obtain rfl:=so hF
 exact ⟨v5,rfl,Z⟩
theorem l_toIntSS_c {a : List (List Int)} {v0 : Value} {H : FH} {w : World} (Z : Star H w []) (h0 : (rS 23 (rS 3 RP.int)).rel H [v0] a) {r : List (List Int)} (hF : l_toIntSS a = some r) :
 C Tryd.prog 94 #[v0] w fun v w'=>∃ (u1 : Value),v = u1∧Star H w' [own (OR.ownS 23 (OR.ownS 3 (OR.frz RP.int))) [u1] r]:=by
 unfold l_toIntSS at hF
 refine C_enter Tryd.func94 rfl Tryd.ntmps94 rfl (sq (aV S0 rfl (nq ?_)))
 obtain ⟨x1,hx1,hF⟩:=bind_some hF
 refine W_region (mV v0 rfl (L_len rfl Tryd.underlying52 rfl (slice_len h0) (L_mk (R:=(OR.ownS 3 (OR.frz RP.int))) (z0:=[]) (zc:=[S0]) rfl et_52 (by kernel_rfl) (fun _ _=>.inl ⟨rfl,rfl,rfl⟩) rfl rfl hx1 Z (fun v5 w6 Z=>aV v5 rfl (nq (sq (aI rfl (nn ?_))))))))
 have hlen10 : List.length a≤9223372036854775807:=len_le (slice_len h0)
 obtain ⟨j10,hL10,hF⟩:=bind_some hF
 obtain ⟨R10,hR10⟩:=exR fun f w_=>∃ out_9 : List (List Int),j10 = .nx out_9∧f 3 = v5∧Star H w_ ([own (OR.ownS 23 (OR.ownS 3 (OR.frz RP.int))) [v5] out_9])
 refine W_join R10 ?_ ?_
 refine W_block ?_
 obtain ⟨I10,hI10⟩:=exI fun n f w_=>∃ i_8 : Nat,∃ suf10 : List (List Int),∃ out_9 : List (List Int),n = suf10.length∧List.drop i_8 a = suf10∧i_8 + suf10.length = a.length∧rangeL l_toIntSS_b1 suf10 i_8 out_9 = some j10∧f 0 = v0∧f 3 = v5∧f 4 = I i_8∧Star H w_ ([own (OR.ownS 23 (OR.ownS 3 (OR.frz RP.int))) [v5] out_9])
 refine W_loop I10 (n:=a.length) ?_ ?_
 exact ij hI10 ⟨0,a,x1,rfl,rfl,Nat.zero_add _,hL10,rfl,rfl,rfl,Z⟩
 intro n10 f w_ hI
 obtain ⟨i_8,suf10,out_9,rfl,hd10,hl10,hL10,sf0,sf3,sf4,Z⟩:=ik hI10 hI
 refine W_seq (sq (mF sf4 rfl (mF sf0 rfl (L_len rfl Tryd.underlying52 rfl (slice_len h0) (L_lss rfl rfl rfl (nn (W_cond (b:=decide ((i_8 : Int) < (a.length : Int))) rfl (fun hc11=>?_) (fun hc11=>?_))))))))
 have hlt10:=of_decide_eq_true hc11
 rcases suf10 with _ | ⟨x_10,rest10⟩
 exact absurd hlt10 (by simp at hl10; omega)
 obtain ⟨o10,hB10,hL10⟩:=range_cons hL10
 rw [l_toIntSS_b1] at hB10
 have hix10:=drop_idx hd10
 refine W_skip (W_seq (W_block ?_))
 obtain ⟨x21,hx21,hB10⟩:=bind_some hB10
 obtain ⟨x24,hx24,hB10⟩:=bind_some hB10
 refine W_region (mF sf3 rfl (mF sf4 rfl (mF sf0 rfl (mF sf4 rfl (L_ix (r:=(rS 3 RP.int)) rfl Tryd.underlying52 Tryd.sizeOf23 rfl h0 rfl hix10 (fun g28 o29 cs_g28 hrk_hat30 hat30=>?_))))))
 obtain ⟨u31,rfl,hu31⟩:=slice1 hrk_hat30
 refine L_ld rfl Tryd.isAgg23 rfl (At.cell (AtH.at hat30 Z.sub) (j:=0) rfl) ?_
 obtain ⟨H32b,l33,s34,z35,k36⟩:=Z.borrow
 refine L_call rfl Tryd.call35 (ops1 rfl) (l_toIntS_c (a:=x_10) s34 (RP.mono _ hu31 l33) hx21) ?_
 rintro r37_0 w37 ⟨_,rfl,Z⟩
 have Z:=k36 Z (co closed_int c0)
 obtain ⟨g39,cap_g39,hv40,_,_⟩:=Star.row 1 Z rfl hx24
 refine L_ixO (R:=(OR.ownS 3 (OR.frz RP.int))) (tb:=0) 0 rfl Tryd.underlying52 Tryd.sizeOf23 rfl hv40 (by first | rfl | simp) rfl hx24 (L_stE1 (u:=r37_0) rfl Tryd.sizeOf23 rfl rfl rfl hv40 Z hx24 (fun w41 Z=>?_))
 refine nn (W_region (mF sf4 rfl (L_add rfl rfl rfl (aI rfl (nn ?_)))))
 obtain rfl:=so hB10
 show ∃ m,m < _∧I10 m _ _
 refine ⟨rest10.length,by simp,?_⟩
 exact ij hI10 ⟨i_8 + 1,rest10,(out_9.set (Int.toNat (i_8 : Int)) x21),rfl,drop_next hd10,by simp at hl10; omega,hL10,sf0,sf3,(Eq.trans rfl (congrArg (Value.int .i64) (i64_succ (n:=a.length) (by simp at hl10; omega) hlen10))),Z⟩
 rcases suf10 with _ | ⟨_,_⟩
 obtain rfl:=range_nil hL10
 refine W_exit (rj hR10 ⟨out_9,rfl,sf3,Z⟩)
 exact absurd (of_decide_eq_false hc11) (by simp at hl10; omega)
 intro f w_ hR
 obtain ⟨out_9,rfl,sf3,Z⟩:=rk hR10 hR
 refine sq (mF sf3 rfl (aV v5 rfl (nn (W_ret (retG1 (v1:=v5) Tryd.results94 rfl ?_)))))
 obtain rfl:=so hF
 exact ⟨v5,rfl,Z⟩
theorem l_toRule_c {a : Rule} {v0_1 : Value} {v0_2 : Value} {v0_4 : Value} {H : FH} {w : World} (Z : Star H w []) (h0_1 : (rS 3 RP.int).rel H [v0_1] a.vars) (h0_2 : (rS 3 RP.int).rel H [v0_2] a.coefs) (h0_4 : (rS 23 (rS 3 RP.int)).rel H [v0_4] a.rows) {r : Rule} (hF : l_toRule a = some r) :
 C Tryd.prog 61 #[.agg #[I a.kind,v0_1,v0_2,I a.bound,v0_4]] w fun v w'=>∃ (u1 : Value) (u2 : Value) (u3 : Value),v = .agg #[I r.kind,u1,u2,I r.bound,u3]∧Star H w' [oF 3 RP.int u1 r.vars,oF 3 RP.int u2 r.coefs,own (OR.ownS 23 (OR.ownS 3 (OR.frz RP.int))) [u3] r.rows]:=by
 unfold l_toRule at hF
 refine C_enter Tryd.func61 rfl Tryd.ntmps61 rfl (sq (L_box (v:=.agg #[I a.kind,v0_1,v0_2,I a.bound,v0_4]) (cs:=#[I a.kind,v0_1,v0_2,I a.bound,v0_4]) rfl rfl rfl Z (fun g5 w6 Z=>L_al (cs:=#[I 0,S0,S0,I 0,S0]) rfl Tryd.zeroValue54 rfl Z (fun g7 w8 Z=>ns (L_al (cs:=#[I 0,S0,S0,I 0,S0]) rfl Tryd.zeroValue54 rfl Z (fun g11 w12 Z=>ns (fA 0 fa_98_0 rfl rfl (ldB 2 Z Tryd.isAgg3 rfl rfl rfl (fA 0 fa_54_0 rfl rfl (L_stB (v:=I a.kind) (cs2:=#[I a.kind,S0,S0,I 0,S0]) 0 rfl Tryd.sizeOf3 rfl rfl rfl Z rfl rfl rfl (fun w14 Z=>nq ?_)))))))))))
 obtain ⟨x20,hx20,hF⟩:=bind_some hF
 refine W_region (fA 1 fa_98_1 rfl rfl (ldB 2 Z Tryd.isAgg23 rfl rfl rfl ?_))
 obtain ⟨H24b,l25,s26,z27,k28⟩:=Z.borrow
 refine L_call rfl Tryd.call35 (ops1 rfl) (l_toIntS_c (a:=a.vars) s26 (RP.mono _ h0_1 l25) hx20) ?_
 rintro r29_0 w29 ⟨_,rfl,Z⟩
 have Z:=k28 Z (co closed_int c0)
 refine fA 1 fa_54_1 rfl rfl (L_stB (v:=r29_0) (cs2:=#[I a.kind,r29_0,S0,I 0,S0]) 1 rfl Tryd.sizeOf23 rfl rfl (one_len (Star.len 0 Z rfl)) Z rfl rfl rfl (fun w31 Z=>nq ?_))
 obtain ⟨x37,hx37,hF⟩:=bind_some hF
 refine W_region (fA 2 fa_98_2 rfl rfl (ldB 3 Z Tryd.isAgg23 rfl rfl rfl ?_))
 obtain ⟨H41b,l42,s43,z44,k45⟩:=Z.borrow
 refine L_call rfl Tryd.call35 (ops1 rfl) (l_toIntS_c (a:=a.coefs) s43 (RP.mono _ h0_2 l42) hx37) ?_
 rintro r46_0 w46 ⟨_,rfl,Z⟩
 have Z:=k45 Z (co closed_int c0)
 refine fA 2 fa_54_2 rfl rfl (L_stB (v:=r46_0) (cs2:=#[I a.kind,r29_0,r46_0,I 0,S0]) 1 rfl Tryd.sizeOf23 rfl rfl (one_len (Star.len 0 Z rfl)) Z rfl rfl rfl (fun w48 Z=>ns (fA 3 fa_98_3 rfl rfl (ldB 4 Z Tryd.isAgg3 rfl rfl rfl (fA 3 fa_54_3 rfl rfl (L_stB (v:=I a.bound) (cs2:=#[I a.kind,r29_0,r46_0,I a.bound,S0]) 0 rfl Tryd.sizeOf3 rfl rfl rfl Z rfl rfl rfl (fun w50 Z=>nq ?_)))))))
 obtain ⟨x56,hx56,hF⟩:=bind_some hF
 refine W_region (fA 4 fa_98_4 rfl rfl (ldB 4 Z Tryd.isAgg52 rfl rfl rfl ?_))
 obtain ⟨H60b,l61,s62,z63,k64⟩:=Z.borrow
 refine L_call rfl Tryd.call94 (ops1 rfl) (l_toIntSS_c (a:=a.rows) s62 (RP.mono _ h0_4 l61) hx56) ?_
 rintro r65_0 w65 ⟨_,rfl,Z⟩
 have Z:=k64 Z (cc (closed_own (OR.closed_ownS (OR.closed_ownS closed_int)) _ _) c0)
 refine fA 4 fa_54_4 rfl rfl (L_stB (v:=r65_0) (cs2:=#[I a.kind,r29_0,r46_0,I a.bound,r65_0]) 1 rfl Tryd.sizeOf52 rfl rfl (one_len (Star.len 0 Z rfl)) Z rfl rfl rfl (fun w67 Z=>ns (L_lda (cs:=[I a.kind,r29_0,r46_0,I a.bound,r65_0]) rfl Tryd.isAgg54 Tryd.sizeOf54 rfl (At.sub0 (Blk.at (Star.blkAt 0 Z rfl)) 0 5) rfl (L_staB (vs:=#[I a.kind,r29_0,r46_0,I a.bound,r65_0]) (cs2:=#[I a.kind,r29_0,r46_0,I a.bound,r65_0]) 4 rfl Tryd.sizeOf54 rfl rfl rfl (ones_cons rfl (ones_cons (one_len (Star.len 3 Z rfl)) (ones_cons (one_len (Star.len 2 Z rfl)) (ones_cons rfl (ones_cons (one_len (Star.len 1 Z rfl)) ones_nil))))) Z rfl (by show 0 + 5≤5; decide) rfl (fun w69 Z=>nn (W_ret (retG1 (v1:=.agg #[I a.kind,r29_0,r46_0,I a.bound,r65_0]) Tryd.results61 (resV_agg Tryd.isAgg54 Tryd.sizeOf54 rfl (Star.blkAt 0 Z rfl) rfl) ?_)))))))
 obtain rfl:=so hF
 have Z:=Z.gets [2,3,4] rfl
 exact ⟨r29_0,r46_0,r65_0,rfl,(Star.keepN 3 Z)⟩
theorem l_toRuleS_c {a : List Rule} {v0 : Value} {H : FH} {w : World} (Z : Star H w []) (h0 : (rS 98 (rRule 3 23)).rel H [v0] a) {r : List Rule} (hF : l_toRuleS a = some r) :
 C Tryd.prog 36 #[v0] w fun v w'=>∃ (u1 : Value),v = u1∧Star H w' [oS 54 (oRule 3 23) u1 r]:=by
 unfold l_toRuleS at hF
 refine C_enter Tryd.func36 rfl Tryd.ntmps36 rfl (sq (aV S0 rfl (nq ?_)))
 obtain ⟨x1,hx1,hF⟩:=bind_some hF
 refine W_region (mV v0 rfl (L_len rfl Tryd.underlying32 rfl (slice_len h0) (L_mk (R:=(oRule 3 23)) (z0:=({ kind:=0,vars:=[],coefs:=[],bound:=0,rows:=[] } : Rule)) (zc:=[I 0,S0,S0,I 0,S0]) rfl et_24 (by kernel_rfl) (fun _ _=>oRule_zero) rfl rfl hx1 Z (fun v5 w6 Z=>aV v5 rfl (nq (sq (aI rfl (nn ?_))))))))
 have hlen10 : List.length a≤9223372036854775807:=len_le (slice_len h0)
 obtain ⟨j10,hL10,hF⟩:=bind_some hF
 obtain ⟨R10,hR10⟩:=exR fun f w_=>∃ out_9 : List Rule,j10 = .nx out_9∧f 3 = v5∧Star H w_ ([oS 54 (oRule 3 23) v5 out_9])
 refine W_join R10 ?_ ?_
 refine W_block ?_
 obtain ⟨I10,hI10⟩:=exI fun n f w_=>∃ i_8 : Nat,∃ suf10 : List Rule,∃ out_9 : List Rule,n = suf10.length∧List.drop i_8 a = suf10∧i_8 + suf10.length = a.length∧rangeL l_toRuleS_b1 suf10 i_8 out_9 = some j10∧f 0 = v0∧f 3 = v5∧f 4 = I i_8∧Star H w_ ([oS 54 (oRule 3 23) v5 out_9])
 refine W_loop I10 (n:=a.length) ?_ ?_
 exact ij hI10 ⟨0,a,x1,rfl,rfl,Nat.zero_add _,hL10,rfl,rfl,rfl,Z⟩
 intro n10 f w_ hI
 obtain ⟨i_8,suf10,out_9,rfl,hd10,hl10,hL10,sf0,sf3,sf4,Z⟩:=ik hI10 hI
 refine W_seq (sq (mF sf4 rfl (mF sf0 rfl (L_len rfl Tryd.underlying32 rfl (slice_len h0) (L_lss rfl rfl rfl (nn (W_cond (b:=decide ((i_8 : Int) < (a.length : Int))) rfl (fun hc11=>?_) (fun hc11=>?_))))))))
 have hlt10:=of_decide_eq_true hc11
 rcases suf10 with _ | ⟨x_10,rest10⟩
 exact absurd hlt10 (by simp at hl10; omega)
 obtain ⟨o10,hB10,hL10⟩:=range_cons hL10
 rw [l_toRuleS_b1] at hB10
 have hix10:=drop_idx hd10
 refine W_skip (W_seq (W_block ?_))
 obtain ⟨x21,hx21,hB10⟩:=bind_some hB10
 obtain ⟨x26,hx26,hB10⟩:=bind_some hB10
 refine W_region (mF sf3 rfl (mF sf4 rfl (mF sf0 rfl (mF sf4 rfl (L_ix (r:=(rRule 3 23)) rfl Tryd.underlying32 Tryd.sizeOf98 rfl h0 rfl hix10 (fun g30 o31 cs_g30 hrk_hat32 hat32=>?_))))))
 obtain ⟨u33_0,u33_1,u33_2,rfl,hu33_0,hu33_1,hu33_2⟩:=rRule_iff.1 hrk_hat32
 refine L_lda (cs:=[I x_10.kind,u33_0,u33_1,I x_10.bound,u33_2]) rfl Tryd.isAgg98 Tryd.sizeOf98 rfl (At.sub (AtH.at hat32 Z.sub) 0 5) rfl ?_
 obtain ⟨H34b,l35,s36,z37,k38⟩:=Z.borrow
 refine L_call rfl Tryd.call61 (ops1 rfl) (l_toRule_c (a:=x_10) s36 (RP.mono _ hu33_0 l35) (RP.mono _ hu33_1 l35) (RP.mono _ hu33_2 l35) hx21) ?_
 rintro _ w39 ⟨r39_0,r39_1,r39_2,rfl,Z⟩
 have Z:=k38 Z (co closed_int (co closed_int (cc (closed_own (OR.closed_ownS (OR.closed_ownS closed_int)) _ _) c0)))
 obtain ⟨g43,cap_g43,hv44,_,_⟩:=Star.row 3 Z rfl hx26
 refine L_ixO (R:=(oRule 3 23)) (tb:=0) 0 rfl Tryd.underlying24 Tryd.sizeOf54 rfl hv44 (by first | rfl | simp) rfl hx26 ?_
 have Z:=oRule_close (r:=x21) Z
 refine L_stE (vs:=#[I x21.kind,r39_0,r39_1,I x21.bound,r39_2]) rfl Tryd.sizeOf54 rfl rfl rfl hv44 Z hx26 (fun w45 Z=>nn (W_region (mF sf4 rfl (L_add rfl rfl rfl (aI rfl (nn ?_))))))
 obtain rfl:=so hB10
 show ∃ m,m < _∧I10 m _ _
 refine ⟨rest10.length,by simp,?_⟩
 exact ij hI10 ⟨i_8 + 1,rest10,(out_9.set (Int.toNat (i_8 : Int)) x21),rfl,drop_next hd10,by simp at hl10; omega,hL10,sf0,sf3,(Eq.trans rfl (congrArg (Value.int .i64) (i64_succ (n:=a.length) (by simp at hl10; omega) hlen10))),Z⟩
 rcases suf10 with _ | ⟨_,_⟩
 obtain rfl:=range_nil hL10
 refine W_exit (rj hR10 ⟨out_9,rfl,sf3,Z⟩)
 exact absurd (of_decide_eq_false hc11) (by simp at hl10; omega)
 intro f w_ hR
 obtain ⟨out_9,rfl,sf3,Z⟩:=rk hR10 hR
 refine sq (mF sf3 rfl (aV v5 rfl (nn (W_ret (retG1 (v1:=v5) Tryd.results36 rfl ?_)))))
 obtain rfl:=so hF
 exact ⟨v5,rfl,Z⟩
theorem l_toModel_c {a : Model} {v0_0 : Value} {v0_1 : Value} {H : FH} {w : World} (Z : Star H w []) (h0_0 : (rS 3 RP.int).rel H [v0_0] a.sizes) (h0_1 : (rS 98 (rRule 3 23)).rel H [v0_1] a.rules) {r : Model} (hF : l_toModel a = some r) :
 C Tryd.prog 12 #[.agg #[v0_0,v0_1]] w fun v w'=>∃ (u1 : Value) (u2 : Value),v = .agg #[u1,u2]∧Star H w' [oF 3 RP.int u1 r.sizes,oS 54 (oRule 3 23) u2 r.rules]:=by
 unfold l_toModel at hF
 refine C_enter Tryd.func12 rfl Tryd.ntmps12 rfl (sq (L_box (v:=.agg #[v0_0,v0_1]) (cs:=#[v0_0,v0_1]) rfl rfl rfl Z (fun g5 w6 Z=>L_al (cs:=#[S0,S0]) rfl Tryd.zeroValue26 rfl Z (fun g7 w8 Z=>ns (L_al (cs:=#[S0,S0]) rfl Tryd.zeroValue26 rfl Z (fun g11 w12 Z=>nq ?_))))))
 obtain ⟨x18,hx18,hF⟩:=bind_some hF
 refine W_region (fA 0 fa_34_0 rfl rfl (ldB 2 Z Tryd.isAgg23 rfl rfl rfl ?_))
 obtain ⟨H22b,l23,s24,z25,k26⟩:=Z.borrow
 refine L_call rfl Tryd.call35 (ops1 rfl) (l_toIntS_c (a:=a.sizes) s24 (RP.mono _ h0_0 l23) hx18) ?_
 rintro r27_0 w27 ⟨_,rfl,Z⟩
 have Z:=k26 Z (co closed_int c0)
 refine fA 0 fa_26_0 rfl rfl (L_stB (v:=r27_0) (cs2:=#[r27_0,S0]) 1 rfl Tryd.sizeOf23 rfl rfl (one_len (Star.len 0 Z rfl)) Z rfl rfl rfl (fun w29 Z=>nq ?_))
 obtain ⟨x35,hx35,hF⟩:=bind_some hF
 refine W_region (fA 1 fa_34_1 rfl rfl (ldB 3 Z Tryd.isAgg32 rfl rfl rfl ?_))
 obtain ⟨H39b,l40,s41,z42,k43⟩:=Z.borrow
 refine L_call rfl Tryd.call36 (ops1 rfl) (l_toRuleS_c (a:=a.rules) s41 (RP.mono _ h0_1 l40) hx35) ?_
 rintro r44_0 w44 ⟨_,rfl,Z⟩
 have Z:=k43 Z (co closed_oRule c0)
 refine fA 1 fa_26_1 rfl rfl (L_stB (v:=r44_0) (cs2:=#[r27_0,r44_0]) 1 rfl Tryd.sizeOf24 rfl rfl (one_len (Star.len 0 Z rfl)) Z rfl rfl rfl (fun w46 Z=>ns (L_lda (cs:=[r27_0,r44_0]) rfl Tryd.isAgg26 Tryd.sizeOf26 rfl (At.sub0 (Blk.at (Star.blkAt 0 Z rfl)) 0 2) rfl (L_staB (vs:=#[r27_0,r44_0]) (cs2:=#[r27_0,r44_0]) 3 rfl Tryd.sizeOf26 rfl rfl rfl (ones_cons (one_len (Star.len 2 Z rfl)) (ones_cons (one_len (Star.len 1 Z rfl)) ones_nil)) Z rfl (by show 0 + 2≤2; decide) rfl (fun w48 Z=>nn (W_ret (retG1 (v1:=.agg #[r27_0,r44_0]) Tryd.results12 (resV_agg Tryd.isAgg26 Tryd.sizeOf26 rfl (Star.blkAt 0 Z rfl) rfl) ?_)))))))
 obtain rfl:=so hF
 have Z:=Z.gets [2,3] rfl
 exact ⟨r27_0,r44_0,rfl,(Star.keepN 2 Z)⟩
theorem l_eqIntS_c {a : List Int} {b : List Int} {v0 : Value} {v1 : Value} {H : FH} {w : World} (Z : Star H w []) (h0 : (rS 3 RP.int).rel H [v0] a) (h1 : (rS 3 RP.int).rel H [v1] b) {r : Bool} (hF : l_eqIntS a b = some r) :
 C Tryd.prog 37 #[v0,v1] w fun v w'=>v = Bo r∧Star H w' []:=by
 unfold l_eqIntS at hF
 refine C_enter Tryd.func37 rfl Tryd.ntmps37 rfl (sq (aB rfl (nq (sq (mV v0 rfl (L_len rfl Tryd.underlying23 rfl (slice_len h0) (mV v1 rfl (L_len rfl Tryd.underlying23 rfl (slice_len h1) (L_neq rfl rfl rfl (nn (W_cond (b:=((a.length : Int) != (b.length : Int))) rfl (fun hc1=>?_) (fun hc1=>?_))))))))))))
 have hF:=(ite_t hc1).symm.trans hF
 refine sq (aB rfl (nn (W_ret (retG1 (v1:=Bo false) Tryd.results37 rfl ?_))))
 obtain rfl:=so hF
 exact ⟨rfl,Z⟩
 have hF:=(ite_f hc1).symm.trans hF
 refine W_skip (W_seq (sq (aI rfl (nn ?_))))
 have hlen5 : List.length a≤9223372036854775807:=len_le (slice_len h0)
 obtain ⟨j5,hL5,hF⟩:=bind_some hF
 obtain ⟨R5,hR5⟩:=exR fun f w_=>∃ H3 : FH,j5 = .nx ()∧Le H H3∧Star H3 w_ ([])
 refine W_join R5 ?_ ?_
 refine W_block ?_
 obtain ⟨I5,hI5⟩:=exI fun n f w_=>∃ i_2 : Nat,∃ suf5 : List Int,∃ H3 : FH,n = suf5.length∧List.drop i_2 a = suf5∧i_2 + suf5.length = a.length∧rangeL (l_eqIntS_b1 b) suf5 i_2 () = some j5∧Le H H3∧f 0 = v0∧f 1 = v1∧f 5 = I i_2∧Star H3 w_ ([])
 refine W_loop I5 (n:=a.length) ?_ ?_
 exact ij hI5 ⟨0,a,H,rfl,rfl,Nat.zero_add _,hL5,(Le.refl _),rfl,rfl,rfl,Z⟩
 intro n5 f w_ hI
 obtain ⟨i_2,suf5,H3,rfl,hd5,hl5,hL5,l4,sf0,sf1,sf5,Z⟩:=ik hI5 hI
 refine W_seq (sq (mF sf5 rfl (mF sf0 rfl (L_len rfl Tryd.underlying23 rfl (slice_len (RP.mono _ h0 l4)) (L_lss rfl rfl rfl (nn (W_cond (b:=decide ((i_2 : Int) < (a.length : Int))) rfl (fun hc6=>?_) (fun hc6=>?_))))))))
 have hlt5:=of_decide_eq_true hc6
 rcases suf5 with _ | ⟨x_5,rest5⟩
 exact absurd hlt5 (by simp at hl5; omega)
 obtain ⟨o5,hB5,hL5⟩:=range_cons hL5
 rw [l_eqIntS_b1] at hB5
 have hix5:=drop_idx hd5
 refine W_skip (W_seq (W_block (W_seq ?_)))
 obtain ⟨x11,hx11,hB5⟩:=bind_some hB5
 refine W_drawS 8 [isV (v0),isV (I i_2),isEl RP.int x_5 0,isV (I x_5),isV (v1),isV (I i_2),isEl RP.int x11 0,isV (I x11)] [] [] ([]) [([],[]),([],[]),([],[]),([],[]),([],[]),([],[]),([],[]),([],[])] (S:=[]) Tryd_mix (by kernel_rfl) rfl (by kernel_rfl) (amF_cons (mono_V _) (amF_cons (mono_V _) (amF_cons (mono_el _ _ _) (amF_cons (mono_V _) (amF_cons (mono_V _) (amF_cons (mono_V _) (amF_cons (mono_el _ _ _) (amF_cons (mono_V _) amF_nil)))))))) Z ?_ (fun f w_ H16 hS16 hE16 hT16 Z=>?_)
 refine opsS_cons (fun f w_ _ _ s _ _ Z=>mF ((s 0 rfl).trans sf0) rfl (nO rfl rfl Z)) (opsS_cons (fun f w_ _ _ s _ _ Z=>mF ((s 5 rfl).trans sf5) rfl (nO rfl rfl Z)) (opsS_cons ?_ ?_))
 intro f w_ H16 X16 hS16 hE16 hP16 Z
 refine L_ix (r:=RP.int) rfl Tryd.underlying23 Tryd.sizeOf3 (hP16 0 17 rfl rfl) (RP.mono _ h0 (Le.trans l4 hE16)) (hP16 1 18 rfl rfl) hix5 (fun g25 o26 cs_g25 hrk_hat27 hat27=>?_)
 obtain rfl : _ = [_]:=hrk_hat27
 exact L_nil ⟨rfl,_,_,rfl,Le.refl _,fun _ _=>⟨_,_,_,rfl,rfl,hat27⟩,Z⟩
 refine opsS_cons ?_ ?_
 intro f w_ H16 X16 hS16 hE16 hP16 Z
 obtain ⟨g29,o29,cs29,hv29,hrk_hat29,hat29⟩:=(hP16 2 19 rfl rfl)
 obtain rfl : _ = [_]:=hrk_hat29
 refine L_ld rfl Tryd.isAgg3 hv29 (At.cell (AtH.at hat29 Z.sub) (j:=0) rfl) (L_nil ⟨rfl,_,_,rfl,Le.refl _,fun _ _=>rfl,Z⟩)
 refine opsS_cons (fun f w_ _ _ s _ _ Z=>mF ((s 1 rfl).trans sf1) rfl (nO rfl rfl Z)) (opsS_cons (fun f w_ _ _ s _ _ Z=>mF ((s 5 rfl).trans sf5) rfl (nO rfl rfl Z)) (opsS_cons ?_ ?_))
 intro f w_ H16 X16 hS16 hE16 hP16 Z
 refine L_ix (r:=RP.int) rfl Tryd.underlying23 Tryd.sizeOf3 (hP16 4 21 rfl rfl) (RP.mono _ h1 (Le.trans l4 hE16)) (hP16 5 22 rfl rfl) hx11 (fun g31 o32 cs_g31 hrk_hat33 hat33=>?_)
 obtain rfl : _ = [_]:=hrk_hat33
 exact L_nil ⟨rfl,_,_,rfl,Le.refl _,fun _ _=>⟨_,_,_,rfl,rfl,hat33⟩,Z⟩
 refine opsS_cons ?_ ?_
 intro f w_ H16 X16 hS16 hE16 hP16 Z
 obtain ⟨g35,o35,cs35,hv35,hrk_hat35,hat35⟩:=(hP16 6 23 rfl rfl)
 obtain rfl : _ = [_]:=hrk_hat35
 refine L_ld rfl Tryd.isAgg3 hv35 (At.cell (AtH.at hat35 Z.sub) (j:=0) rfl) (L_nil ⟨rfl,_,_,rfl,Le.refl _,fun _ _=>rfl,Z⟩)
 exact opsS_nil
 refine L_neq rfl (hT16 3 20 rfl rfl) (hT16 7 24 rfl rfl) (nn (W_cond (b:=(x_5 != x11)) rfl (fun hc37=>?_) (fun hc37=>?_)))
 have hB5:=(ite_t hc37).symm.trans hB5
 refine sq (aB rfl (nn (W_ret (retG1 (v1:=Bo false) Tryd.results37 rfl ?_))))
 obtain rfl:=so hB5
 obtain rfl:=so hL5
 obtain rfl:=so hF
 exact ⟨rfl,(Star.down Z (Le.trans l4 hE16) c0)⟩
 have hB5:=(ite_f hc37).symm.trans hB5
 refine W_skip (W_region (mF ((hS16 5 rfl).trans sf5) rfl (L_add rfl rfl rfl (aI rfl (nn ?_)))))
 obtain rfl:=so hB5
 show ∃ m,m < _∧I5 m _ _
 refine ⟨rest5.length,by simp,?_⟩
 exact ij hI5 ⟨i_2 + 1,rest5,H16,rfl,drop_next hd5,by simp at hl5; omega,hL5,(Le.trans l4 hE16),((hS16 0 rfl).trans sf0),((hS16 1 rfl).trans sf1),(Eq.trans rfl (congrArg (Value.int .i64) (i64_succ (n:=a.length) (by simp at hl5; omega) hlen5))),Z⟩
 rcases suf5 with _ | ⟨_,_⟩
 obtain rfl:=range_nil hL5
 refine W_exit (rj hR5 ⟨H3,rfl,l4,Z⟩)
 exact absurd (of_decide_eq_false hc6) (by simp at hl5; omega)
 intro f w_ hR
 obtain ⟨H3,rfl,l4,Z⟩:=rk hR5 hR
 refine sq (aB rfl (nn (W_ret (retG1 (v1:=Bo true) Tryd.results37 rfl ?_))))
 obtain rfl:=so hF
 exact ⟨rfl,(Star.down Z l4 c0)⟩
theorem l_eqIntSS_c {a : List (List Int)} {b : List (List Int)} {v0 : Value} {v1 : Value} {H : FH} {w : World} (Z : Star H w []) (h0 : (rS 23 (rS 3 RP.int)).rel H [v0] a) (h1 : (rS 23 (rS 3 RP.int)).rel H [v1] b) {r : Bool} (hF : l_eqIntSS a b = some r) :
 C Tryd.prog 95 #[v0,v1] w fun v w'=>v = Bo r∧Star H w' []:=by
 unfold l_eqIntSS at hF
 refine C_enter Tryd.func95 rfl Tryd.ntmps95 rfl (sq (aB rfl (nq (sq (mV v0 rfl (L_len rfl Tryd.underlying52 rfl (slice_len h0) (mV v1 rfl (L_len rfl Tryd.underlying52 rfl (slice_len h1) (L_neq rfl rfl rfl (nn (W_cond (b:=((a.length : Int) != (b.length : Int))) rfl (fun hc1=>?_) (fun hc1=>?_))))))))))))
 have hF:=(ite_t hc1).symm.trans hF
 refine sq (aB rfl (nn (W_ret (retG1 (v1:=Bo false) Tryd.results95 rfl ?_))))
 obtain rfl:=so hF
 exact ⟨rfl,Z⟩
 have hF:=(ite_f hc1).symm.trans hF
 refine W_skip (W_seq (sq (aI rfl (nn ?_))))
 have hlen5 : List.length a≤9223372036854775807:=len_le (slice_len h0)
 obtain ⟨j5,hL5,hF⟩:=bind_some hF
 obtain ⟨R5,hR5⟩:=exR fun f w_=>∃ H3 : FH,j5 = .nx ()∧Le H H3∧Star H3 w_ ([])
 refine W_join R5 ?_ ?_
 refine W_block ?_
 obtain ⟨I5,hI5⟩:=exI fun n f w_=>∃ i_2 : Nat,∃ suf5 : List (List Int),∃ H3 : FH,n = suf5.length∧List.drop i_2 a = suf5∧i_2 + suf5.length = a.length∧rangeL (l_eqIntSS_b1 b) suf5 i_2 () = some j5∧Le H H3∧f 0 = v0∧f 1 = v1∧f 5 = I i_2∧Star H3 w_ ([])
 refine W_loop I5 (n:=a.length) ?_ ?_
 exact ij hI5 ⟨0,a,H,rfl,rfl,Nat.zero_add _,hL5,(Le.refl _),rfl,rfl,rfl,Z⟩
 intro n5 f w_ hI
 obtain ⟨i_2,suf5,H3,rfl,hd5,hl5,hL5,l4,sf0,sf1,sf5,Z⟩:=ik hI5 hI
 refine W_seq (sq (mF sf5 rfl (mF sf0 rfl (L_len rfl Tryd.underlying52 rfl (slice_len (RP.mono _ h0 l4)) (L_lss rfl rfl rfl (nn (W_cond (b:=decide ((i_2 : Int) < (a.length : Int))) rfl (fun hc6=>?_) (fun hc6=>?_))))))))
 have hlt5:=of_decide_eq_true hc6
 rcases suf5 with _ | ⟨x_5,rest5⟩
 exact absurd hlt5 (by simp at hl5; omega)
 obtain ⟨o5,hB5,hL5⟩:=range_cons hL5
 rw [l_eqIntSS_b1] at hB5
 have hix5:=drop_idx hd5
 refine W_skip (W_seq (W_block (W_seq ?_)))
 obtain ⟨x11,hx11,hB5⟩:=bind_some hB5
 obtain ⟨x21,hx21,hB5⟩:=bind_some hB5
 refine W_drawS 8 [isV (v0),isV (I i_2),isEl (rS 3 RP.int) x_5 0,isData (rS 3 RP.int) x_5,isV (v1),isV (I i_2),isEl (rS 3 RP.int) x11 0,isData (rS 3 RP.int) x11] [] [] ([]) [([],[]),([],[]),([],[]),([],[]),([],[]),([],[]),([],[]),([],[])] (S:=[]) Tryd_mix (by kernel_rfl) rfl (by kernel_rfl) (amF_cons (mono_V _) (amF_cons (mono_V _) (amF_cons (mono_el _ _ _) (amF_cons (mono_data _ _) (amF_cons (mono_V _) (amF_cons (mono_V _) (amF_cons (mono_el _ _ _) (amF_cons (mono_data _ _) amF_nil)))))))) Z ?_ (fun f w_ H23 hS23 hE23 hT23 Z=>?_)
 refine opsS_cons (fun f w_ _ _ s _ _ Z=>mF ((s 0 rfl).trans sf0) rfl (nO rfl rfl Z)) (opsS_cons (fun f w_ _ _ s _ _ Z=>mF ((s 5 rfl).trans sf5) rfl (nO rfl rfl Z)) (opsS_cons ?_ ?_))
 intro f w_ H23 X23 hS23 hE23 hP23 Z
 refine L_ix (r:=(rS 3 RP.int)) rfl Tryd.underlying52 Tryd.sizeOf23 (hP23 0 17 rfl rfl) (RP.mono _ h0 (Le.trans l4 hE23)) (hP23 1 18 rfl rfl) hix5 (fun g32 o33 cs_g32 hrk_hat34 hat34=>?_)
 obtain ⟨u35,rfl,hu35⟩:=slice1 hrk_hat34
 exact L_nil ⟨rfl,_,_,rfl,Le.refl _,fun _ _=>⟨_,_,_,rfl,hrk_hat34,hat34⟩,Z⟩
 refine opsS_cons ?_ ?_
 intro f w_ H23 X23 hS23 hE23 hP23 Z
 obtain ⟨g36,o36,cs36,hv36,hrk_hat36,hat36⟩:=(hP23 2 19 rfl rfl)
 obtain ⟨u37,rfl,hu37⟩:=slice1 hrk_hat36
 refine L_ld rfl Tryd.isAgg23 hv36 (At.cell (AtH.at hat36 Z.sub) (j:=0) rfl) (L_nil ⟨rfl,_,_,rfl,Le.refl _,fun _ _=>hu37,Z⟩)
 refine opsS_cons (fun f w_ _ _ s _ _ Z=>mF ((s 1 rfl).trans sf1) rfl (nO rfl rfl Z)) (opsS_cons (fun f w_ _ _ s _ _ Z=>mF ((s 5 rfl).trans sf5) rfl (nO rfl rfl Z)) (opsS_cons ?_ ?_))
 intro f w_ H23 X23 hS23 hE23 hP23 Z
 refine L_ix (r:=(rS 3 RP.int)) rfl Tryd.underlying52 Tryd.sizeOf23 (hP23 4 21 rfl rfl) (RP.mono _ h1 (Le.trans l4 hE23)) (hP23 5 22 rfl rfl) hx11 (fun g38 o39 cs_g38 hrk_hat40 hat40=>?_)
 obtain ⟨u41,rfl,hu41⟩:=slice1 hrk_hat40
 exact L_nil ⟨rfl,_,_,rfl,Le.refl _,fun _ _=>⟨_,_,_,rfl,hrk_hat40,hat40⟩,Z⟩
 refine opsS_cons ?_ ?_
 intro f w_ H23 X23 hS23 hE23 hP23 Z
 obtain ⟨g42,o42,cs42,hv42,hrk_hat42,hat42⟩:=(hP23 6 23 rfl rfl)
 obtain ⟨u43,rfl,hu43⟩:=slice1 hrk_hat42
 refine L_ld rfl Tryd.isAgg23 hv42 (At.cell (AtH.at hat42 Z.sub) (j:=0) rfl) (L_nil ⟨rfl,_,_,rfl,Le.refl _,fun _ _=>hu43,Z⟩)
 exact opsS_nil
 have hd44 : (rS 3 RP.int).rel H23 [f 20] x_5:=(hT23 3 20 rfl rfl)
 have hd45 : (rS 3 RP.int).rel H23 [f 24] x11:=(hT23 7 24 rfl rfl)
 obtain ⟨H46b,l47,s48,z49,k50⟩:=Z.borrow
 refine L_call rfl Tryd.call37 (ops2 rfl rfl) (l_eqIntS_c (a:=x_5) (b:=x11) s48 (RP.mono _ hd44 l47) (RP.mono _ hd45 l47) hx21) ?_
 rintro _ w51 ⟨rfl,Z⟩
 have Z:=k50 Z c0
 refine L_not_ rfl rfl (nn (W_cond (b:=(!x21)) rfl (fun hc52=>?_) (fun hc52=>?_)))
 have hB5:=(ite_t hc52).symm.trans hB5
 refine sq (aB rfl (nn (W_ret (retG1 (v1:=Bo false) Tryd.results95 rfl ?_))))
 obtain rfl:=so hB5
 obtain rfl:=so hL5
 obtain rfl:=so hF
 exact ⟨rfl,(Star.down Z (Le.trans l4 hE23) c0)⟩
 have hB5:=(ite_f hc52).symm.trans hB5
 refine W_skip (W_region (mF ((hS23 5 rfl).trans sf5) rfl (L_add rfl rfl rfl (aI rfl (nn ?_)))))
 obtain rfl:=so hB5
 show ∃ m,m < _∧I5 m _ _
 refine ⟨rest5.length,by simp,?_⟩
 exact ij hI5 ⟨i_2 + 1,rest5,H23,rfl,drop_next hd5,by simp at hl5; omega,hL5,(Le.trans l4 hE23),((hS23 0 rfl).trans sf0),((hS23 1 rfl).trans sf1),(Eq.trans rfl (congrArg (Value.int .i64) (i64_succ (n:=a.length) (by simp at hl5; omega) hlen5))),Z⟩
 rcases suf5 with _ | ⟨_,_⟩
 obtain rfl:=range_nil hL5
 refine W_exit (rj hR5 ⟨H3,rfl,l4,Z⟩)
 exact absurd (of_decide_eq_false hc6) (by simp at hl5; omega)
 intro f w_ hR
 obtain ⟨H3,rfl,l4,Z⟩:=rk hR5 hR
 refine sq (aB rfl (nn (W_ret (retG1 (v1:=Bo true) Tryd.results95 rfl ?_))))
 obtain rfl:=so hF
 exact ⟨rfl,(Star.down Z l4 c0)⟩
theorem l_eqRule_c {a : Rule} {b : Rule} {v0_1 : Value} {v0_2 : Value} {v0_4 : Value} {v1_1 : Value} {v1_2 : Value} {v1_4 : Value} {H : FH} {w : World} (Z : Star H w []) (h0_1 : (rS 3 RP.int).rel H [v0_1] a.vars) (h0_2 : (rS 3 RP.int).rel H [v0_2] a.coefs) (h0_4 : (rS 23 (rS 3 RP.int)).rel H [v0_4] a.rows) (h1_1 : (rS 3 RP.int).rel H [v1_1] b.vars) (h1_2 : (rS 3 RP.int).rel H [v1_2] b.coefs) (h1_4 : (rS 23 (rS 3 RP.int)).rel H [v1_4] b.rows) {r : Bool} (hF : l_eqRule a b = some r) :
 C Tryd.prog 62 #[.agg #[I a.kind,v0_1,v0_2,I a.bound,v0_4],.agg #[I b.kind,v1_1,v1_2,I b.bound,v1_4]] w fun v w'=>v = Bo r∧Star H w' []:=by
 unfold l_eqRule at hF
 refine C_enter Tryd.func62 rfl Tryd.ntmps62 rfl (sq (L_box (v:=.agg #[I a.kind,v0_1,v0_2,I a.bound,v0_4]) (cs:=#[I a.kind,v0_1,v0_2,I a.bound,v0_4]) rfl rfl rfl Z (fun g5 w6 Z=>L_box (v:=.agg #[I b.kind,v1_1,v1_2,I b.bound,v1_4]) (cs:=#[I b.kind,v1_1,v1_2,I b.bound,v1_4]) rfl rfl rfl Z (fun g7 w8 Z=>aB rfl (nq (sq (fA 0 fa_54_0 rfl rfl (ldB 1 Z Tryd.isAgg3 rfl rfl rfl (fA 0 fa_54_0 rfl rfl (ldB 0 Z Tryd.isAgg3 rfl rfl rfl (L_neq rfl rfl rfl (nn (W_cond (b:=(a.kind != b.kind)) rfl (fun hc9=>?_) (fun hc9=>?_))))))))))))))
 have hF:=(ite_t hc9).symm.trans hF
 refine sq (aB rfl (nn (W_ret (retG1 (v1:=Bo false) Tryd.results62 rfl ?_))))
 obtain rfl:=so hF
 exact ⟨rfl,(Star.keepN 0 Z)⟩
 have hF:=(ite_f hc9).symm.trans hF
 refine W_skip (W_seq (W_seq ?_))
 obtain ⟨x15,hx15,hF⟩:=bind_some hF
 refine W_region (fA 1 fa_54_1 rfl rfl (ldB 1 Z Tryd.isAgg23 rfl rfl rfl (fA 1 fa_54_1 rfl rfl (ldB 0 Z Tryd.isAgg23 rfl rfl rfl ?_))))
 obtain ⟨H17b,l18,s19,z20,k21⟩:=Z.borrow
 refine L_call rfl Tryd.call37 (ops2 rfl rfl) (l_eqIntS_c (a:=a.vars) (b:=b.vars) s19 (RP.mono _ h0_1 l18) (RP.mono _ h1_1 l18) hx15) ?_
 rintro _ w22 ⟨rfl,Z⟩
 have Z:=k21 Z c0
 refine L_not_ rfl rfl (nn (W_cond (b:=(!x15)) rfl (fun hc23=>?_) (fun hc23=>?_)))
 have hF:=(ite_t hc23).symm.trans hF
 refine sq (aB rfl (nn (W_ret (retG1 (v1:=Bo false) Tryd.results62 rfl ?_))))
 obtain rfl:=so hF
 exact ⟨rfl,(Star.keepN 0 Z)⟩
 have hF:=(ite_f hc23).symm.trans hF
 refine W_skip (W_seq (W_seq ?_))
 obtain ⟨x29,hx29,hF⟩:=bind_some hF
 refine W_region (fA 2 fa_54_2 rfl rfl (ldB 1 Z Tryd.isAgg23 rfl rfl rfl (fA 2 fa_54_2 rfl rfl (ldB 0 Z Tryd.isAgg23 rfl rfl rfl ?_))))
 obtain ⟨H31b,l32,s33,z34,k35⟩:=Z.borrow
 refine L_call rfl Tryd.call37 (ops2 rfl rfl) (l_eqIntS_c (a:=a.coefs) (b:=b.coefs) s33 (RP.mono _ h0_2 l32) (RP.mono _ h1_2 l32) hx29) ?_
 rintro _ w36 ⟨rfl,Z⟩
 have Z:=k35 Z c0
 refine L_not_ rfl rfl (nn (W_cond (b:=(!x29)) rfl (fun hc37=>?_) (fun hc37=>?_)))
 have hF:=(ite_t hc37).symm.trans hF
 refine sq (aB rfl (nn (W_ret (retG1 (v1:=Bo false) Tryd.results62 rfl ?_))))
 obtain rfl:=so hF
 exact ⟨rfl,(Star.keepN 0 Z)⟩
 have hF:=(ite_f hc37).symm.trans hF
 refine W_skip (W_seq (sq (fA 3 fa_54_3 rfl rfl (ldB 1 Z Tryd.isAgg3 rfl rfl rfl (fA 3 fa_54_3 rfl rfl (ldB 0 Z Tryd.isAgg3 rfl rfl rfl (L_neq rfl rfl rfl (nn (W_cond (b:=(a.bound != b.bound)) rfl (fun hc38=>?_) (fun hc38=>?_))))))))))
 have hF:=(ite_t hc38).symm.trans hF
 refine sq (aB rfl (nn (W_ret (retG1 (v1:=Bo false) Tryd.results62 rfl ?_))))
 obtain rfl:=so hF
 exact ⟨rfl,(Star.keepN 0 Z)⟩
 have hF:=(ite_f hc38).symm.trans hF
 refine W_skip (W_seq (W_seq ?_))
 obtain ⟨x44,hx44,hF⟩:=bind_some hF
 refine W_region (fA 4 fa_54_4 rfl rfl (ldB 1 Z Tryd.isAgg52 rfl rfl rfl (fA 4 fa_54_4 rfl rfl (ldB 0 Z Tryd.isAgg52 rfl rfl rfl ?_))))
 obtain ⟨H46b,l47,s48,z49,k50⟩:=Z.borrow
 refine L_call rfl Tryd.call95 (ops2 rfl rfl) (l_eqIntSS_c (a:=a.rows) (b:=b.rows) s48 (RP.mono _ h0_4 l47) (RP.mono _ h1_4 l47) hx44) ?_
 rintro _ w51 ⟨rfl,Z⟩
 have Z:=k50 Z c0
 refine L_not_ rfl rfl (nn (W_cond (b:=(!x44)) rfl (fun hc52=>?_) (fun hc52=>?_)))
 have hF:=(ite_t hc52).symm.trans hF
 refine sq (aB rfl (nn (W_ret (retG1 (v1:=Bo false) Tryd.results62 rfl ?_))))
 obtain rfl:=so hF
 exact ⟨rfl,(Star.keepN 0 Z)⟩
 have hF:=(ite_f hc52).symm.trans hF
 refine W_skip (sq (aB rfl (nn (W_ret (retG1 (v1:=Bo true) Tryd.results62 rfl ?_)))))
 obtain rfl:=so hF
 exact ⟨rfl,(Star.keepN 0 Z)⟩
theorem l_eqRuleS_c {a : List Rule} {b : List Rule} {v0 : Value} {v1 : Value} {H : FH} {w : World} (Z : Star H w []) (h0 : (rS 54 (rRule 3 23)).rel H [v0] a) (h1 : (rS 54 (rRule 3 23)).rel H [v1] b) {r : Bool} (hF : l_eqRuleS a b = some r) :
 C Tryd.prog 38 #[v0,v1] w fun v w'=>v = Bo r∧Star H w' []:=by
 unfold l_eqRuleS at hF
 refine C_enter Tryd.func38 rfl Tryd.ntmps38 rfl (sq (aB rfl (nq (sq (mV v0 rfl (L_len rfl Tryd.underlying24 rfl (slice_len h0) (mV v1 rfl (L_len rfl Tryd.underlying24 rfl (slice_len h1) (L_neq rfl rfl rfl (nn (W_cond (b:=((a.length : Int) != (b.length : Int))) rfl (fun hc1=>?_) (fun hc1=>?_))))))))))))
 have hF:=(ite_t hc1).symm.trans hF
 refine sq (aB rfl (nn (W_ret (retG1 (v1:=Bo false) Tryd.results38 rfl ?_))))
 obtain rfl:=so hF
 exact ⟨rfl,Z⟩
 have hF:=(ite_f hc1).symm.trans hF
 refine W_skip (W_seq (sq (aI rfl (nn ?_))))
 have hlen5 : List.length a≤9223372036854775807:=len_le (slice_len h0)
 obtain ⟨j5,hL5,hF⟩:=bind_some hF
 obtain ⟨R5,hR5⟩:=exR fun f w_=>∃ H3 : FH,j5 = .nx ()∧Le H H3∧Star H3 w_ ([])
 refine W_join R5 ?_ ?_
 refine W_block ?_
 obtain ⟨I5,hI5⟩:=exI fun n f w_=>∃ i_2 : Nat,∃ suf5 : List Rule,∃ H3 : FH,n = suf5.length∧List.drop i_2 a = suf5∧i_2 + suf5.length = a.length∧rangeL (l_eqRuleS_b1 b) suf5 i_2 () = some j5∧Le H H3∧f 0 = v0∧f 1 = v1∧f 5 = I i_2∧Star H3 w_ ([])
 refine W_loop I5 (n:=a.length) ?_ ?_
 exact ij hI5 ⟨0,a,H,rfl,rfl,Nat.zero_add _,hL5,(Le.refl _),rfl,rfl,rfl,Z⟩
 intro n5 f w_ hI
 obtain ⟨i_2,suf5,H3,rfl,hd5,hl5,hL5,l4,sf0,sf1,sf5,Z⟩:=ik hI5 hI
 refine W_seq (sq (mF sf5 rfl (mF sf0 rfl (L_len rfl Tryd.underlying24 rfl (slice_len (RP.mono _ h0 l4)) (L_lss rfl rfl rfl (nn (W_cond (b:=decide ((i_2 : Int) < (a.length : Int))) rfl (fun hc6=>?_) (fun hc6=>?_))))))))
 have hlt5:=of_decide_eq_true hc6
 rcases suf5 with _ | ⟨x_5,rest5⟩
 exact absurd hlt5 (by simp at hl5; omega)
 obtain ⟨o5,hB5,hL5⟩:=range_cons hL5
 rw [l_eqRuleS_b1] at hB5
 have hix5:=drop_idx hd5
 refine W_skip (W_seq (W_block (W_seq ?_)))
 obtain ⟨x11,hx11,hB5⟩:=bind_some hB5
 obtain ⟨x21,hx21,hB5⟩:=bind_some hB5
 refine W_drawS 8 [isV (v0),isV (I i_2),isEl (rRule 3 23) x_5 0,exD (isData (rS 3 RP.int) x_5.vars) fun u_1=>exD (isData (rS 3 RP.int) x_5.coefs) fun u_2=>exD (isData (rS 23 (rS 3 RP.int)) x_5.rows) fun u_4=>isV (.agg #[I x_5.kind,u_1,u_2,I x_5.bound,u_4]),isV (v1),isV (I i_2),isEl (rRule 3 23) x11 0,exD (isData (rS 3 RP.int) x11.vars) fun u_1=>exD (isData (rS 3 RP.int) x11.coefs) fun u_2=>exD (isData (rS 23 (rS 3 RP.int)) x11.rows) fun u_4=>isV (.agg #[I x11.kind,u_1,u_2,I x11.bound,u_4])] [] [] ([]) [([],[]),([],[]),([],[]),([],[]),([],[]),([],[]),([],[]),([],[])] (S:=[]) Tryd_mix (by kernel_rfl) rfl (by kernel_rfl) (amF_cons (mono_V _) (amF_cons (mono_V _) (amF_cons (mono_el _ _ _) (amF_cons (mono_exD (mono_data _ _) fun _=>mono_exD (mono_data _ _) fun _=>mono_exD (mono_data _ _) fun _=>mono_V _) (amF_cons (mono_V _) (amF_cons (mono_V _) (amF_cons (mono_el _ _ _) (amF_cons (mono_exD (mono_data _ _) fun _=>mono_exD (mono_data _ _) fun _=>mono_exD (mono_data _ _) fun _=>mono_V _) amF_nil)))))))) Z ?_ (fun f w_ H23 hS23 hE23 hT23 Z=>?_)
 refine opsS_cons (fun f w_ _ _ s _ _ Z=>mF ((s 0 rfl).trans sf0) rfl (nO rfl rfl Z)) (opsS_cons (fun f w_ _ _ s _ _ Z=>mF ((s 5 rfl).trans sf5) rfl (nO rfl rfl Z)) (opsS_cons ?_ ?_))
 intro f w_ H23 X23 hS23 hE23 hP23 Z
 refine L_ix (r:=(rRule 3 23)) rfl Tryd.underlying24 Tryd.sizeOf54 (hP23 0 17 rfl rfl) (RP.mono _ h0 (Le.trans l4 hE23)) (hP23 1 18 rfl rfl) hix5 (fun g32 o33 cs_g32 hrk_hat34 hat34=>?_)
 obtain ⟨u35_0,u35_1,u35_2,rfl,hu35_0,hu35_1,hu35_2⟩:=rRule_iff.1 hrk_hat34
 exact L_nil ⟨rfl,_,_,rfl,Le.refl _,fun _ _=>⟨_,_,_,rfl,hrk_hat34,hat34⟩,Z⟩
 refine opsS_cons ?_ ?_
 intro f w_ H23 X23 hS23 hE23 hP23 Z
 obtain ⟨g36,o36,cs36,hv36,hrk_hat36,hat36⟩:=(hP23 2 19 rfl rfl)
 obtain ⟨u37_0,u37_1,u37_2,rfl,hu37_0,hu37_1,hu37_2⟩:=rRule_iff.1 hrk_hat36
 refine L_lda (cs:=[I x_5.kind,u37_0,u37_1,I x_5.bound,u37_2]) rfl Tryd.isAgg54 Tryd.sizeOf54 hv36 (At.sub (AtH.at hat36 Z.sub) 0 5) rfl (L_nil ⟨rfl,_,_,rfl,Le.refl _,fun _ _=>⟨_,hu37_0,_,hu37_1,_,hu37_2,rfl⟩,Z⟩)
 refine opsS_cons (fun f w_ _ _ s _ _ Z=>mF ((s 1 rfl).trans sf1) rfl (nO rfl rfl Z)) (opsS_cons (fun f w_ _ _ s _ _ Z=>mF ((s 5 rfl).trans sf5) rfl (nO rfl rfl Z)) (opsS_cons ?_ ?_))
 intro f w_ H23 X23 hS23 hE23 hP23 Z
 refine L_ix (r:=(rRule 3 23)) rfl Tryd.underlying24 Tryd.sizeOf54 (hP23 4 21 rfl rfl) (RP.mono _ h1 (Le.trans l4 hE23)) (hP23 5 22 rfl rfl) hx11 (fun g38 o39 cs_g38 hrk_hat40 hat40=>?_)
 obtain ⟨u41_0,u41_1,u41_2,rfl,hu41_0,hu41_1,hu41_2⟩:=rRule_iff.1 hrk_hat40
 exact L_nil ⟨rfl,_,_,rfl,Le.refl _,fun _ _=>⟨_,_,_,rfl,hrk_hat40,hat40⟩,Z⟩
 refine opsS_cons ?_ ?_
 intro f w_ H23 X23 hS23 hE23 hP23 Z
 obtain ⟨g42,o42,cs42,hv42,hrk_hat42,hat42⟩:=(hP23 6 23 rfl rfl)
 obtain ⟨u43_0,u43_1,u43_2,rfl,hu43_0,hu43_1,hu43_2⟩:=rRule_iff.1 hrk_hat42
 refine L_lda (cs:=[I x11.kind,u43_0,u43_1,I x11.bound,u43_2]) rfl Tryd.isAgg54 Tryd.sizeOf54 hv42 (At.sub (AtH.at hat42 Z.sub) 0 5) rfl (L_nil ⟨rfl,_,_,rfl,Le.refl _,fun _ _=>⟨_,hu43_0,_,hu43_1,_,hu43_2,rfl⟩,Z⟩)
 exact opsS_nil
 obtain ⟨u44_1,hu44_1,u44_2,hu44_2,u44_4,hu44_4,hv44⟩:=(hT23 3 20 rfl rfl)
 obtain ⟨u45_1,hu45_1,u45_2,hu45_2,u45_4,hu45_4,hv45⟩:=(hT23 7 24 rfl rfl)
 obtain ⟨H46b,l47,s48,z49,k50⟩:=Z.borrow
 refine L_call rfl Tryd.call62 (ops2 hv44 hv45) (l_eqRule_c (a:=x_5) (b:=x11) s48 (RP.mono _ hu44_1 l47) (RP.mono _ hu44_2 l47) (RP.mono _ hu44_4 l47) (RP.mono _ hu45_1 l47) (RP.mono _ hu45_2 l47) (RP.mono _ hu45_4 l47) hx21) ?_
 rintro _ w51 ⟨rfl,Z⟩
 have Z:=k50 Z c0
 refine L_not_ rfl rfl (nn (W_cond (b:=(!x21)) rfl (fun hc52=>?_) (fun hc52=>?_)))
 have hB5:=(ite_t hc52).symm.trans hB5
 refine sq (aB rfl (nn (W_ret (retG1 (v1:=Bo false) Tryd.results38 rfl ?_))))
 obtain rfl:=so hB5
 obtain rfl:=so hL5
 obtain rfl:=so hF
 exact ⟨rfl,(Star.down Z (Le.trans l4 hE23) c0)⟩
 have hB5:=(ite_f hc52).symm.trans hB5
 refine W_skip (W_region (mF ((hS23 5 rfl).trans sf5) rfl (L_add rfl rfl rfl (aI rfl (nn ?_)))))
 obtain rfl:=so hB5
 show ∃ m,m < _∧I5 m _ _
 refine ⟨rest5.length,by simp,?_⟩
 exact ij hI5 ⟨i_2 + 1,rest5,H23,rfl,drop_next hd5,by simp at hl5; omega,hL5,(Le.trans l4 hE23),((hS23 0 rfl).trans sf0),((hS23 1 rfl).trans sf1),(Eq.trans rfl (congrArg (Value.int .i64) (i64_succ (n:=a.length) (by simp at hl5; omega) hlen5))),Z⟩
 rcases suf5 with _ | ⟨_,_⟩
 obtain rfl:=range_nil hL5
 refine W_exit (rj hR5 ⟨H3,rfl,l4,Z⟩)
 exact absurd (of_decide_eq_false hc6) (by simp at hl5; omega)
 intro f w_ hR
 obtain ⟨H3,rfl,l4,Z⟩:=rk hR5 hR
 refine sq (aB rfl (nn (W_ret (retG1 (v1:=Bo true) Tryd.results38 rfl ?_))))
 obtain rfl:=so hF
 exact ⟨rfl,(Star.down Z l4 c0)⟩
theorem l_eqModel_c {a : Model} {b : Model} {v0_0 : Value} {v0_1 : Value} {v1_0 : Value} {v1_1 : Value} {H : FH} {w : World} (Z : Star H w []) (h0_0 : (rS 3 RP.int).rel H [v0_0] a.sizes) (h0_1 : (rS 54 (rRule 3 23)).rel H [v0_1] a.rules) (h1_0 : (rS 3 RP.int).rel H [v1_0] b.sizes) (h1_1 : (rS 54 (rRule 3 23)).rel H [v1_1] b.rules) {r : Bool} (hF : l_eqModel a b = some r) :
 C Tryd.prog 13 #[.agg #[v0_0,v0_1],.agg #[v1_0,v1_1]] w fun v w'=>v = Bo r∧Star H w' []:=by
 unfold l_eqModel at hF
 refine C_enter Tryd.func13 rfl Tryd.ntmps13 rfl (sq (L_box (v:=.agg #[v0_0,v0_1]) (cs:=#[v0_0,v0_1]) rfl rfl rfl Z (fun g5 w6 Z=>L_box (v:=.agg #[v1_0,v1_1]) (cs:=#[v1_0,v1_1]) rfl rfl rfl Z (fun g7 w8 Z=>aB rfl (nq (W_seq ?_))))))
 obtain ⟨x14,hx14,hF⟩:=bind_some hF
 refine W_region (fA 0 fa_26_0 rfl rfl (ldB 1 Z Tryd.isAgg23 rfl rfl rfl (fA 0 fa_26_0 rfl rfl (ldB 0 Z Tryd.isAgg23 rfl rfl rfl ?_))))
 obtain ⟨H16b,l17,s18,z19,k20⟩:=Z.borrow
 refine L_call rfl Tryd.call37 (ops2 rfl rfl) (l_eqIntS_c (a:=a.sizes) (b:=b.sizes) s18 (RP.mono _ h0_0 l17) (RP.mono _ h1_0 l17) hx14) ?_
 rintro _ w21 ⟨rfl,Z⟩
 have Z:=k20 Z c0
 refine L_not_ rfl rfl (nn (W_cond (b:=(!x14)) rfl (fun hc22=>?_) (fun hc22=>?_)))
 have hF:=(ite_t hc22).symm.trans hF
 refine sq (aB rfl (nn (W_ret (retG1 (v1:=Bo false) Tryd.results13 rfl ?_))))
 obtain rfl:=so hF
 exact ⟨rfl,(Star.keepN 0 Z)⟩
 have hF:=(ite_f hc22).symm.trans hF
 refine W_skip (W_seq (W_seq ?_))
 obtain ⟨x28,hx28,hF⟩:=bind_some hF
 refine W_region (fA 1 fa_26_1 rfl rfl (ldB 1 Z Tryd.isAgg24 rfl rfl rfl (fA 1 fa_26_1 rfl rfl (ldB 0 Z Tryd.isAgg24 rfl rfl rfl ?_))))
 obtain ⟨H30b,l31,s32,z33,k34⟩:=Z.borrow
 refine L_call rfl Tryd.call38 (ops2 rfl rfl) (l_eqRuleS_c (a:=a.rules) (b:=b.rules) s32 (RP.mono _ h0_1 l31) (RP.mono _ h1_1 l31) hx28) ?_
 rintro _ w35 ⟨rfl,Z⟩
 have Z:=k34 Z c0
 refine L_not_ rfl rfl (nn (W_cond (b:=(!x28)) rfl (fun hc36=>?_) (fun hc36=>?_)))
 have hF:=(ite_t hc36).symm.trans hF
 refine sq (aB rfl (nn (W_ret (retG1 (v1:=Bo false) Tryd.results13 rfl ?_))))
 obtain rfl:=so hF
 exact ⟨rfl,(Star.keepN 0 Z)⟩
 have hF:=(ite_f hc36).symm.trans hF
 refine W_skip (sq (aB rfl (nn (W_ret (retG1 (v1:=Bo true) Tryd.results13 rfl ?_)))))
 obtain rfl:=so hF
 exact ⟨rfl,(Star.keepN 0 Z)⟩
theorem l_FnExactFormatModel_c {fu : Nat} {aM : Model} {v0_0 : Value} {v0_1 : Value} {H : FH} {w : World} (Z : Star H w []) (h0_0 : (rS 3 RP.int).rel H [v0_0] aM.sizes) (h0_1 : (rS 98 (rRule 3 23)).rel H [v0_1] aM.rules) {r : Bool} (hF : l_FnExactFormatModel fu aM = some r) :
 C Tryd.prog 4 #[.agg #[v0_0,v0_1]] w fun v w'=>v = Bo r∧Star H w' []:=by
 unfold l_FnExactFormatModel at hF
 refine C_enter Tryd.func4 rfl Tryd.ntmps4 rfl (sq (L_box (v:=.agg #[v0_0,v0_1]) (cs:=#[v0_0,v0_1]) rfl rfl rfl Z (fun g3 w4 Z=>aB rfl (ns (aI rfl (nq ?_))))))
 obtain ⟨x10,hx10,hF⟩:=bind_some hF
 refine W_region (L_lda (cs:=[v0_0,v0_1]) rfl Tryd.isAgg34 Tryd.sizeOf34 rfl (At.sub0 (Blk.at (Star.blkAt 0 Z rfl)) 0 2) rfl (mI rfl ?_))
 obtain ⟨H12b,l13,s14,z15,k16⟩:=Z.borrow
 refine L_call rfl Tryd.call10 (ops2 rfl rfl) (l_szModel_c (a:=aM) (left:=1048576) s14 (RP.mono _ h0_0 l13) (RP.mono _ h0_1 l13) hx10) ?_
 rintro _ w17 ⟨rfl,Z⟩
 have Z:=k16 Z c0
 refine aI rfl (nq (sq (mI rfl (L_lss rfl rfl rfl (nn (W_cond (b:=decide (x10 < 0)) rfl (fun hc18=>?_) (fun hc18=>?_)))))))
 have hF:=(ite_t hc18).symm.trans hF
 refine sq (aB rfl (nn (W_ret (retG1 (v1:=Bo true) Tryd.results4 rfl ?_))))
 obtain rfl:=so hF
 exact ⟨rfl,(Star.keepN 0 Z)⟩
 have hF:=(ite_f hc18).symm.trans hF
 refine W_skip (W_seq ?_)
 obtain ⟨x24,hx24,hF⟩:=bind_some hF
 obtain ⟨x35,hx35,hF⟩:=bind_some hF
 refine W_region (L_lda (cs:=[v0_0,v0_1]) rfl Tryd.isAgg34 Tryd.sizeOf34 rfl (At.sub0 (Blk.at (Star.blkAt 0 Z rfl)) 0 2) rfl ?_)
 obtain ⟨H37b,l38,s39,z40,k41⟩:=Z.borrow
 refine L_call rfl Tryd.call12 (ops1 rfl) (l_toModel_c (a:=aM) s39 (RP.mono _ h0_0 l38) (RP.mono _ h0_1 l38) hx24) ?_
 rintro _ w42 ⟨r42_0,r42_1,rfl,Z⟩
 have Z:=k41 Z (co closed_int (co closed_oRule c0))
 obtain ⟨H45b,l46,s47,z48,k49⟩:=Z.borrow
 have hb50 : (rS 3 RP.int).rel H45b [r42_0] x24.sizes:=fz_own 0 z48 rfl
 have hb51 : (rS 54 (rRule 3 23)).rel H45b [r42_1] x24.rules:=fz_own 1 z48 rfl
 refine L_call rfl Tryd.call11 (ops1 rfl) (s_FormatModel_c (m:=x24) s47 hb50 hb51 hx35) ?_
 rintro _ w52 ⟨rfl,Z⟩
 have Z:=k49 Z c0
 refine aV (.string x35) rfl (nq ?_)
 obtain ⟨x58,hx58,hF⟩:=bind_some hF
 refine W_region (L_lda (cs:=[v0_0,v0_1]) rfl Tryd.isAgg34 Tryd.sizeOf34 rfl (At.sub0 (Blk.at (Star.blkAt 2 Z rfl)) 0 2) rfl ?_)
 obtain ⟨H65b,l66,s67,z68,k69⟩:=Z.borrow
 refine L_call rfl Tryd.call12 (ops1 rfl) (l_toModel_c (a:=aM) s67 (RP.mono _ h0_0 l66) (RP.mono _ h0_1 l66) hx58) ?_
 rintro _ w70 ⟨r70_0,r70_1,rfl,Z⟩
 have Z:=k69 Z (co closed_int (co closed_oRule c0))
 refine L_al (cs:=#[S0,S0]) rfl Tryd.zeroValue26 rfl Z (fun g73 w74 Z=>L_staB (vs:=#[r70_0,r70_1]) (cs2:=#[r70_0,r70_1]) 0 rfl Tryd.sizeOf26 rfl rfl rfl (ones_cons (one_len (Star.len 1 Z rfl)) (ones_cons (one_len (Star.len 2 Z rfl)) ones_nil)) Z rfl (by show 0 + 2≤2; decide) rfl (fun w75 Z=>nq ?_))
 obtain ⟨x83,hx83,hF⟩:=bind_some hF
 refine W_region (L_lda (cs:=[r70_0,r70_1]) rfl Tryd.isAgg26 Tryd.sizeOf26 rfl (At.sub0 (Blk.at (Star.blkAt 0 Z rfl)) 0 2) rfl ?_)
 obtain ⟨H85b,l86,s87,z88,k89⟩:=Z.borrow
 have hb90 : (rS 3 RP.int).rel H85b [r70_0] x58.sizes:=fz_own 1 z88 rfl
 have hb91 : (rS 54 (rRule 3 23)).rel H85b [r70_1] x58.rules:=fz_own 2 z88 rfl
 refine L_call rfl Tryd.call9 (ops1 rfl) (i_FormatModel_c (m:=x58) s87 hb90 hb91 hx83) ?_
 rintro _ w92 ⟨rfl,Z⟩
 have Z:=k89 Z c0
 refine aV (.string x83) rfl (nq (sq (mV (.string x83) rfl (mV (.string x35) rfl (L_sneq (s:=x83) (s':=x35) rfl rfl rfl (nn (W_cond (b:=(!(ByteArray.toList x83 == ByteArray.toList x35))) rfl (fun hc93=>?_) (fun hc93=>?_))))))))
 have hF:=(ite_t hc93).symm.trans hF
 refine sq (aB rfl (nn (W_ret (retG1 (v1:=Bo false) Tryd.results4 rfl ?_))))
 obtain rfl:=so hF
 exact ⟨rfl,(Star.keepN 0 Z)⟩
 have hF:=(ite_f hc93).symm.trans hF
 refine W_skip (W_seq (W_seq ?_))
 obtain ⟨x99,hx99,hF⟩:=bind_some hF
 obtain ⟨x112,hx112,hF⟩:=bind_some hF
 have Z:=Star.drop 3 Z rfl
 have Z:=Star.drop 3 Z rfl
 refine W_drawS 3 [isV (.agg #[r70_0,r70_1]),isV (.agg #[v0_0,v0_1]),exA fun u_0=>exA fun u_1=>isV (.agg #[u_0,u_1])] [box g73 26 #[r70_0,r70_1],oF 3 RP.int r70_0 x58.sizes,oS 54 (oRule 3 23) r70_1 x58.rules,box g3 34 #[v0_0,v0_1]] [.made 2 24 (fun v_=>oF 3 RP.int (aggC v_ 0) x99.sizes) none,.made 2 24 (fun v_=>oS 54 (oRule 3 23) (aggC v_ 1) x99.rules) none] ([]) [([],[]),([],[]),([],[0,1])] (S:=[(some 2,[24],none),(some 2,[24],none)]) Tryd_mix (by kernel_rfl) rfl (by kernel_rfl) (amF_cons (mono_V _) (amF_cons (mono_V _) (amF_cons (mono_exA fun _=>mono_exA fun _=>mono_V _) amF_nil))) Z ?_ (fun f w_ H114 hS114 hE114 hT114 Z=>?_)
 refine opsS_cons (fun f w_ _ _ s _ _ Z=>L_lda (cs:=[r70_0,r70_1]) rfl Tryd.isAgg26 Tryd.sizeOf26 ((s 5 rfl).trans rfl) (At.sub0 (Blk.at (Star.blkAt 0 Z rfl)) 0 2) rfl (nO rfl rfl Z)) (opsS_cons (fun f w_ _ _ s _ _ Z=>L_lda (cs:=[v0_0,v0_1]) rfl Tryd.isAgg34 Tryd.sizeOf34 ((s 1 rfl).trans rfl) (At.sub0 (Blk.at (Star.blkAt 3 Z rfl)) 0 2) rfl (nO rfl rfl Z)) (opsS_cons ?_ ?_))
 intro f w_ H114 X114 hS114 hE114 hP114 Z
 obtain ⟨H123b,l124,s125,z126,k127⟩:=Z.borrow
 refine L_call rfl Tryd.call12 (ops1 (hP114 1 23 rfl rfl)) (l_toModel_c (a:=aM) s125 (RP.mono _ h0_0 (Le.trans hE114 l124)) (RP.mono _ h0_1 (Le.trans hE114 l124)) hx99) ?_
 rintro _ w128 ⟨r128_0,r128_1,rfl,Z⟩
 have Z:=k127 Z (co closed_int (co closed_oRule c0))
 have Z:=Z.gets [1,1,5,5,5,5] rfl
 exact L_nil ⟨rfl,_,_,rfl,Le.refl _,fun _ _=>⟨_,_,rfl⟩,Z⟩
 exact opsS_nil
 have Z : Star H114 w_ ([box g73 26 #[r70_0,r70_1],oF 3 RP.int r70_0 x58.sizes,oS 54 (oRule 3 23) r70_1 x58.rules,box g3 34 #[v0_0,v0_1],own (OR.ownS 3 (OR.frz RP.int)) [(aggC (f 24) 0)] x99.sizes,own (OR.ownS 54 (oRule 3 23)) [(aggC (f 24) 1)] x99.rules]):=Z
 obtain ⟨u131_0,u131_1,hv131⟩:=(hT114 2 24 rfl rfl)
 have hren : Star H114 w_ ([box g73 26 #[r70_0,r70_1],oF 3 RP.int r70_0 x58.sizes,oS 54 (oRule 3 23) r70_1 x58.rules,box g3 34 #[v0_0,v0_1],own (OR.ownS 3 (OR.frz RP.int)) [(aggC (f 24) 0)] x99.sizes,own (OR.ownS 54 (oRule 3 23)) [(aggC (f 24) 1)] x99.rules]):=Z
 rw [hv131] at hren
 have Z : Star H114 w_ ([box g73 26 #[r70_0,r70_1],oF 3 RP.int r70_0 x58.sizes,oS 54 (oRule 3 23) r70_1 x58.rules,box g3 34 #[v0_0,v0_1],oF 3 RP.int u131_0 x99.sizes,oS 54 (oRule 3 23) u131_1 x99.rules]):=hren
 obtain ⟨H132b,l133,s134,z135,k136⟩:=Z.borrow
 have hb137 : (rS 3 RP.int).rel H132b [r70_0] x58.sizes:=fz_own 1 z135 rfl
 have hb138 : (rS 54 (rRule 3 23)).rel H132b [r70_1] x58.rules:=fz_own 2 z135 rfl
 have hb139 : (rS 3 RP.int).rel H132b [u131_0] x99.sizes:=fz_own 4 z135 rfl
 have hb140 : (rS 54 (rRule 3 23)).rel H132b [u131_1] x99.rules:=fz_own 5 z135 rfl
 refine L_call rfl Tryd.call13 (ops2 (hT114 0 22 rfl rfl) hv131) (l_eqModel_c (a:=x58) (b:=x99) s134 hb137 hb138 hb139 hb140 hx112) ?_
 rintro _ w141 ⟨rfl,Z⟩
 have Z:=k136 Z c0
 refine L_not_ rfl rfl (nn (W_cond (b:=(!x112)) rfl (fun hc142=>?_) (fun hc142=>?_)))
 have hF:=(ite_t hc142).symm.trans hF
 refine sq (aB rfl (nn (W_ret (retG1 (v1:=Bo false) Tryd.results4 rfl ?_))))
 obtain rfl:=so hF
 exact ⟨rfl,(Star.down (Star.keepN 0 Z) hE114 c0)⟩
 have hF:=(ite_f hc142).symm.trans hF
 refine W_skip (sq (aB rfl (nn (W_ret (retG1 (v1:=Bo true) Tryd.results4 rfl ?_)))))
 obtain rfl:=so hF
 exact ⟨rfl,(Star.down (Star.keepN 0 Z) hE114 c0)⟩
end Go.Proofs.YtohpkefnmkdaeaaDoor

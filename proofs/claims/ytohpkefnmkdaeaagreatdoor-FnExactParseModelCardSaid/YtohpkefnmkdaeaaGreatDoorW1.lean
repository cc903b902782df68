/- Part of a proof by program: W1. -/
import Derived.Test.YtohpkefnmkdaeaaGreatDoorD1
import Derived.Test.YtohpkefnmkdaeaaGreatDoorProg
import Derived.Test.YtohpkefnmkdaeaaGreatDoorShelf
import Derived.WalkKit
namespace Go.Proofs.YtohpkefnmkdaeaaGreatDoor
open Go Go.E Go.L Go.RowKit
set_option linter.unusedVariables false
set_option linter.unusedSimpArgs false
set_option maxRecDepth 100000
theorem Tryz_mix : Tryz.prog.follows .mixedOrders = true := by kernel_rfl
theorem fa_25_0 : FA Tryz.prog 25 0 0 := fa_of Tryz.underlying25 rfl Tryz.sizeOf22 rfl
theorem fa_25_1 : FA Tryz.prog 25 1 1 := fa_of Tryz.underlying25 rfl Tryz.sizeOf23 rfl
theorem fa_49_0 : FA Tryz.prog 49 0 0 := fa_of Tryz.underlying49 rfl Tryz.sizeOf3 rfl
theorem fa_49_1 : FA Tryz.prog 49 1 1 := fa_of Tryz.underlying49 rfl Tryz.sizeOf22 rfl
theorem fa_49_2 : FA Tryz.prog 49 2 2 := fa_of Tryz.underlying49 rfl Tryz.sizeOf22 rfl
theorem fa_49_3 : FA Tryz.prog 49 3 3 := fa_of Tryz.underlying49 rfl Tryz.sizeOf3 rfl
theorem fa_49_4 : FA Tryz.prog 49 4 4 := fa_of Tryz.underlying49 rfl Tryz.sizeOf47 rfl
theorem et_22 : ET Tryz.prog 22 3 1 := et_of Tryz.underlying22 (by decide) (by kernel_rfl)
theorem et_23 : ET Tryz.prog 23 49 5 := et_of Tryz.underlying23 (by decide) (by kernel_rfl)
theorem et_44 : ET Tryz.prog 44 9 1 := et_of Tryz.underlying44 (by decide) (by kernel_rfl)
theorem et_47 : ET Tryz.prog 47 22 1 := et_of Tryz.underlying47 (by decide) (by kernel_rfl)
theorem bld_25_  : ∀ w, (Instr.build 25 #[]).run Tryz.prog w = .ok (.agg #[.slice none 0 0, .slice none 0 0]) w := by
  intro w
  simp [Instr.build, Instr.fill, Tryz.zeroValue25, Tryz.runUnderlying25, Tryz.sizeOf22, Tryz.sizeOf23, cells_agg]
theorem bld_25_0 (a0 : Value) (ha0 : a0.oneCell' = true) : ∀ w, (Instr.build 25 #[(0, a0)]).run Tryz.prog w = .ok (.agg #[a0, .slice none 0 0]) w := by
  intro w
  simp [Instr.build, Instr.fill, Tryz.zeroValue25, Tryz.runUnderlying25, Tryz.sizeOf22, Tryz.sizeOf23, cells_one ha0, cells_agg]
theorem bld_49_  : ∀ w, (Instr.build 49 #[]).run Tryz.prog w = .ok (.agg #[.int .i64 0, .slice none 0 0, .slice none 0 0, .int .i64 0, .slice none 0 0]) w := by
  intro w
  simp [Instr.build, Instr.fill, Tryz.zeroValue49, Tryz.runUnderlying49, Tryz.sizeOf3, Tryz.sizeOf22, Tryz.sizeOf47, cells_agg]
theorem bld_49_0 (a0 : Value) (ha0 : a0.oneCell' = true) : ∀ w, (Instr.build 49 #[(0, a0)]).run Tryz.prog w = .ok (.agg #[a0, .slice none 0 0, .slice none 0 0, .int .i64 0, .slice none 0 0]) w := by
  intro w
  simp [Instr.build, Instr.fill, Tryz.zeroValue49, Tryz.runUnderlying49, Tryz.sizeOf3, Tryz.sizeOf22, Tryz.sizeOf47, cells_one ha0, cells_agg]
theorem bs_22_0  : ∀ w, (Instr.buildSlice 22 0 #[]).run Tryz.prog w = .ok (.slice (some ⟨w.heap.size, 0, none⟩) 0 0) (w.alloc (.cells #[] 3)) := by
  intro w
  simp [Instr.buildSlice, Instr.fill, newRow, Tryz.runUnderlying22, Tryz.sizeOf3, cells_agg, cells_int, cells_bool, cells_str, cells_sl, Array.range_succ, range0]
theorem bs_22_1_0 (a0 : Value) (ha0 : a0.oneCell' = true) : ∀ w, (Instr.buildSlice 22 1 #[(0, a0)]).run Tryz.prog w = .ok (.slice (some ⟨w.heap.size, 0, none⟩) 1 1) (w.alloc (.cells #[a0] 3)) := by
  intro w
  simp [Instr.buildSlice, Instr.fill, newRow, Tryz.zeroValue3, Tryz.runUnderlying22, Tryz.sizeOf3, cells_one ha0, cells_agg, cells_int, cells_bool, cells_str, cells_sl, Array.range_succ, range0]
theorem bs_23_1_5 (a0 a1 a2 a3 a4 : Value)  : ∀ w, (Instr.buildSlice 23 1 #[(0, .agg #[a0, a1, a2, a3, a4])]).run Tryz.prog w = .ok (.slice (some ⟨w.heap.size, 0, none⟩) 1 1) (w.alloc (.cells #[a0, a1, a2, a3, a4] 49)) := by
  intro w
  simp [Instr.buildSlice, Instr.fill, newRow, Tryz.zeroValue49, Tryz.runUnderlying23, Tryz.sizeOf49, cells_agg, cells_int, cells_bool, cells_str, cells_sl, Array.range_succ, range0]
theorem bs_31_1_0 (a0 : Value) (ha0 : a0.oneCell' = true) : ∀ w, (Instr.buildSlice 31 1 #[(0, a0)]).run Tryz.prog w = .ok (.slice (some ⟨w.heap.size, 0, none⟩) 1 1) (w.alloc (.cells #[a0] 5)) := by
  intro w
  simp [Instr.buildSlice, Instr.fill, newRow, Tryz.zeroValue5, Tryz.runUnderlying31, Tryz.sizeOf5, cells_one ha0, cells_agg, cells_int, cells_bool, cells_str, cells_sl, Array.range_succ, range0]
theorem bs_44_0  : ∀ w, (Instr.buildSlice 44 0 #[]).run Tryz.prog w = .ok (.slice (some ⟨w.heap.size, 0, none⟩) 0 0) (w.alloc (.cells #[] 9)) := by
  intro w
  simp [Instr.buildSlice, Instr.fill, newRow, Tryz.runUnderlying44, Tryz.sizeOf9, cells_agg, cells_int, cells_bool, cells_str, cells_sl, Array.range_succ, range0]
theorem bs_44_1_0 (a0 : Value) (ha0 : a0.oneCell' = true) : ∀ w, (Instr.buildSlice 44 1 #[(0, a0)]).run Tryz.prog w = .ok (.slice (some ⟨w.heap.size, 0, none⟩) 1 1) (w.alloc (.cells #[a0] 9)) := by
  intro w
  simp [Instr.buildSlice, Instr.fill, newRow, Tryz.zeroValue9, Tryz.runUnderlying44, Tryz.sizeOf9, cells_one ha0, cells_agg, cells_int, cells_bool, cells_str, cells_sl, Array.range_succ, range0]
theorem bs_44_5_0_0_0_0_0 (a0 a1 a2 a3 a4 : Value) (ha0 : a0.oneCell' = true) (ha1 : a1.oneCell' = true) (ha2 : a2.oneCell' = true) (ha3 : a3.oneCell' = true) (ha4 : a4.oneCell' = true) : ∀ w, (Instr.buildSlice 44 5 #[(0, a0), (1, a1), (2, a2), (3, a3), (4, a4)]).run Tryz.prog w = .ok (.slice (some ⟨w.heap.size, 0, none⟩) 5 5) (w.alloc (.cells #[a0, a1, a2, a3, a4] 9)) := by
  intro w
  simp [Instr.buildSlice, Instr.fill, newRow, Tryz.zeroValue9, Tryz.runUnderlying44, Tryz.sizeOf9, cells_one ha0, cells_one ha1, cells_one ha2, cells_one ha3, cells_one ha4, cells_agg, cells_int, cells_bool, cells_str, cells_sl, Array.range_succ, range0]
theorem bs_47_1_0 (a0 : Value) (ha0 : a0.oneCell' = true) : ∀ w, (Instr.buildSlice 47 1 #[(0, a0)]).run Tryz.prog w = .ok (.slice (some ⟨w.heap.size, 0, none⟩) 1 1) (w.alloc (.cells #[a0] 22)) := by
  intro w
  simp [Instr.buildSlice, Instr.fill, newRow, Tryz.zeroValue22, Tryz.runUnderlying47, Tryz.sizeOf22, cells_one ha0, cells_agg, cells_int, cells_bool, cells_str, cells_sl, Array.range_succ, range0]
theorem s_l6Vars_c {m : Model} {list : List Int} {v0_0 : Value} {v0_1 : Value} {v1 : Value} {H : FH} {w : World} (Z : Star H w []) (h0_0 : (rS 3 RP.int).rel H [v0_0] m.sizes) (h0_1 : (rS 49 (rRule 3 22)).rel H [v0_1] m.rules) (h1 : (rS 3 RP.int).rel H [v1] list) {r : Bool} (hF : s_l6Vars m list = some r) :
 C Tryz.prog 95 #[.agg #[v0_0,v0_1],v1] w fun v w'=>v = Bo r∧Star H w' []:=by
 unfold s_l6Vars at hF
 refine C_enter Tryz.func95 rfl Tryz.ntmps95 rfl (sq (L_box (v:=.agg #[v0_0,v0_1]) (cs:=#[v0_0,v0_1]) rfl rfl rfl Z (fun g3 w4 Z=>aB rfl (nq (sq (aI rfl (nn ?_)))))))
 have hlen8 : List.length list≤9223372036854775807:=len_le (slice_len h1)
 obtain ⟨j8,hL8,hF⟩:=bind_some hF
 obtain ⟨R8,hR8⟩:=exR fun f w_=>∃ H6 : FH,j8 = .nx ()∧Le H H6∧f 1 = v1∧Star H6 w_ ([])
 refine W_join R8 ?_ ?_
 refine W_block ?_
 obtain ⟨I8,hI8⟩:=exI fun n f w_=>∃ i_5 : Nat,∃ suf8 : List Int,∃ H6 : FH,n = suf8.length∧List.drop i_5 list = suf8∧i_5 + suf8.length = list.length∧rangeL (s_l6Vars_b1 m list) suf8 i_5 () = some j8∧Le H H6∧f 1 = v1∧f 2 = Pt g3∧f 5 = I i_5∧Star H6 w_ ([box g3 25 #[v0_0,v0_1]])
 refine W_loop I8 (n:=list.length) ?_ ?_
 exact ij hI8 ⟨0,list,H,rfl,rfl,Nat.zero_add _,hL8,(Le.refl _),rfl,rfl,rfl,Z⟩
 intro n8 f w_ hI
 obtain ⟨i_5,suf8,H6,rfl,hd8,hl8,hL8,l7,sf1,sf2,sf5,Z⟩:=ik hI8 hI
 refine W_seq (sq (mF sf5 rfl (mF sf1 rfl (L_len rfl Tryz.underlying22 rfl (slice_len (RP.mono _ h1 l7)) (L_lss rfl rfl rfl (nn (W_cond (b:=decide ((i_5 : Int) < (list.length : Int))) rfl (fun hc9=>?_) (fun hc9=>?_))))))))
 have hlt8:=of_decide_eq_true hc9
 rcases suf8 with _ | ⟨x_8,rest8⟩
 exact absurd hlt8 (by simp at hl8; omega)
 obtain ⟨o8,hB8,hL8⟩:=range_cons hL8
 rw [s_l6Vars_b1] at hB8
 have hix8:=drop_idx hd8
 refine W_skip (W_seq (W_block (W_seq (W_seq ?_))))
 obtain ⟨R21,hR21⟩:=exR fun f w_=>∃ H19 : FH,Le H6 H19∧f 1 = v1∧f 2 = Pt g3∧f 5 = I i_5∧f 27 = Bo ((decide (x_8 < 0)) || (decide (x_8 ≥ (m.sizes.length : Int))))∧Star H19 w_ ([box g3 25 #[v0_0,v0_1]])
 refine W_join R21 ?_ ?_
 rcases Bool.eq_false_or_eq_true (decide (x_8 < 0)) with hc22 | hc22
 refine W_drawS 13 [isV (v1),isV (I i_5),isEl RP.int x_8 0,isV (I x_8),isV (Bo (decide (x_8 < 0))),isV (Bo (decide (x_8 < 0))),isV (undef),isV (undef),isV (undef),isV (undef),isV (undef),isV (undef),isV (undef)] [box g3 25 #[v0_0,v0_1]] [] ([]) [([],[]),([],[]),([],[]),([],[]),([],[]),([],[]),([],[]),([],[]),([],[]),([],[]),([],[]),([],[]),([],[])] (S:=[]) Tryz_mix (by kernel_rfl) rfl (by kernel_rfl) (amF_cons (mono_V _) (amF_cons (mono_V _) (amF_cons (mono_el _ _ _) (amF_cons (mono_V _) (amF_cons (mono_V _) (amF_cons (mono_V _) (amF_cons (mono_V _) (amF_cons (mono_V _) (amF_cons (mono_V _) (amF_cons (mono_V _) (amF_cons (mono_V _) (amF_cons (mono_V _) (amF_cons (mono_V _) amF_nil))))))))))))) Z ?_ (fun f w_ H18 hS18 hE18 hT18 Z=>?_)
 refine opsS_cons (fun f w_ _ _ s _ _ Z=>mF ((s 1 rfl).trans sf1) rfl (nO rfl rfl Z)) (opsS_cons (fun f w_ _ _ s _ _ Z=>mF ((s 5 rfl).trans sf5) rfl (nO rfl rfl Z)) (opsS_cons ?_ ?_))
 intro f w_ H18 X18 hS18 hE18 hP18 Z
 refine L_ix (r:=RP.int) rfl Tryz.underlying22 Tryz.sizeOf3 (hP18 0 13 rfl rfl) (RP.mono _ h1 (Le.trans l7 hE18)) (hP18 1 14 rfl rfl) hix8 (fun g27 o28 cs_g27 hrk_hat29 hat29=>?_)
 obtain rfl : _ = [_]:=hrk_hat29
 exact L_nil ⟨rfl,_,_,rfl,Le.refl _,fun _ _=>⟨_,_,_,rfl,rfl,hat29⟩,Z⟩
 refine opsS_cons ?_ ?_
 intro f w_ H18 X18 hS18 hE18 hP18 Z
 obtain ⟨g31,o31,cs31,hv31,hrk_hat31,hat31⟩:=(hP18 2 15 rfl rfl)
 obtain rfl : _ = [_]:=hrk_hat31
 refine L_ld rfl Tryz.isAgg3 hv31 (At.cell (AtH.at hat31 Z.sub) (j:=0) rfl) (L_nil ⟨rfl,_,_,rfl,Le.refl _,fun _ _=>rfl,Z⟩)
 refine opsS_cons (fun f w_ _ _ _ _ p Z=>L_lss rfl (p 3 16 rfl rfl) rfl (nO rfl rfl Z)) (opsS_cons (fun f w_ _ _ _ _ p Z=>mF (p 4 17 rfl rfl) rfl (nO rfl rfl Z)) (oP (fun _ _ p=>gN (p 5 18 rfl rfl) hc22 rfl) (fun _=>rfl) (oP (fun _ _ p=>gN (p 5 18 rfl rfl) hc22 rfl) (fun _=>rfl) (oP (fun _ _ p=>gN (p 5 18 rfl rfl) hc22 rfl) (fun _=>rfl) (oP (fun _ _ p=>gN (p 5 18 rfl rfl) hc22 rfl) (fun _=>rfl) (oP (fun _ _ p=>gN (p 5 18 rfl rfl) hc22 rfl) (fun _=>rfl) (oP (fun _ _ p=>gN (p 5 18 rfl rfl) hc22 rfl) (fun _=>rfl) (oP (fun _ _ p=>gN (p 5 18 rfl rfl) hc22 rfl) (fun _=>rfl) (opsS_nil)))))))))
 refine ps (g_no rfl (Eq.trans (hT18 5 18 rfl rfl) (congrArg Value.bool hc22)) rfl rfl) (L_pick (v:=Bo ((decide (x_8 < 0)) || (decide (x_8 ≥ (m.sizes.length : Int))))) rfl (Eq.trans (hT18 5 18 rfl rfl) (congrArg Value.bool hc22)) (or_t hc22) (nn (rj hR21 ⟨H18,hE18,((hS18 1 rfl).trans sf1),((hS18 2 rfl).trans sf2),((hS18 5 rfl).trans sf5),rfl,Z⟩)))
 refine W_drawS 13 [isV (v1),isV (I i_5),isEl RP.int x_8 0,isV (I x_8),isV (Bo (decide (x_8 < 0))),isV (Bo (decide (x_8 < 0))),isV (v1),isV (I i_5),isEl RP.int x_8 0,isV (I x_8),isV (Pt g3),isV (v0_0),isV (I (m.sizes.length : Int))] [box g3 25 #[v0_0,v0_1]] [] ([]) [([],[]),([],[]),([],[]),([],[]),([],[]),([],[]),([],[]),([],[]),([],[]),([],[]),([],[]),([],[]),([],[])] (S:=[]) Tryz_mix (by kernel_rfl) rfl (by kernel_rfl) (amF_cons (mono_V _) (amF_cons (mono_V _) (amF_cons (mono_el _ _ _) (amF_cons (mono_V _) (amF_cons (mono_V _) (amF_cons (mono_V _) (amF_cons (mono_V _) (amF_cons (mono_V _) (amF_cons (mono_el _ _ _) (amF_cons (mono_V _) (amF_cons (mono_V _) (amF_cons (mono_V _) (amF_cons (mono_V _) amF_nil))))))))))))) Z ?_ (fun f w_ H18 hS18 hE18 hT18 Z=>?_)
 refine opsS_cons (fun f w_ _ _ s _ _ Z=>mF ((s 1 rfl).trans sf1) rfl (nO rfl rfl Z)) (opsS_cons (fun f w_ _ _ s _ _ Z=>mF ((s 5 rfl).trans sf5) rfl (nO rfl rfl Z)) (opsS_cons ?_ ?_))
 intro f w_ H18 X18 hS18 hE18 hP18 Z
 refine L_ix (r:=RP.int) rfl Tryz.underlying22 Tryz.sizeOf3 (hP18 0 13 rfl rfl) (RP.mono _ h1 (Le.trans l7 hE18)) (hP18 1 14 rfl rfl) hix8 (fun g41 o42 cs_g41 hrk_hat43 hat43=>?_)
 obtain rfl : _ = [_]:=hrk_hat43
 exact L_nil ⟨rfl,_,_,rfl,Le.refl _,fun _ _=>⟨_,_,_,rfl,rfl,hat43⟩,Z⟩
 refine opsS_cons ?_ ?_
 intro f w_ H18 X18 hS18 hE18 hP18 Z
 obtain ⟨g45,o45,cs45,hv45,hrk_hat45,hat45⟩:=(hP18 2 15 rfl rfl)
 obtain rfl : _ = [_]:=hrk_hat45
 refine L_ld rfl Tryz.isAgg3 hv45 (At.cell (AtH.at hat45 Z.sub) (j:=0) rfl) (L_nil ⟨rfl,_,_,rfl,Le.refl _,fun _ _=>rfl,Z⟩)
 refine opsS_cons (fun f w_ _ _ _ _ p Z=>L_lss rfl (p 3 16 rfl rfl) rfl (nO rfl rfl Z)) (opsS_cons (fun f w_ _ _ _ _ p Z=>mF (p 4 17 rfl rfl) rfl (nO rfl rfl Z)) (opsS_cons (fun f w_ _ _ s _ p Z=>L_mv (v:=v1) (g_yes rfl (Eq.trans (p 5 18 rfl rfl) (congrArg Value.bool hc22)) rfl) ((s 1 rfl).trans sf1) (nO rfl rfl Z)) (opsS_cons (fun f w_ _ _ s _ p Z=>L_mv (v:=I i_5) (g_yes rfl (Eq.trans (p 5 18 rfl rfl) (congrArg Value.bool hc22)) rfl) ((s 5 rfl).trans sf5) (nO rfl rfl Z)) (opsS_cons ?_ ?_))))
 intro f w_ H18 X18 hS18 hE18 hP18 Z
 refine L_ix (r:=RP.int) (g_yes rfl (Eq.trans (hP18 5 18 rfl rfl) (congrArg Value.bool hc22)) rfl) Tryz.underlying22 Tryz.sizeOf3 (hP18 6 19 rfl rfl) (RP.mono _ h1 (Le.trans l7 hE18)) (hP18 7 20 rfl rfl) hix8 (fun g47 o48 cs_g47 hrk_hat49 hat49=>?_)
 obtain rfl : _ = [_]:=hrk_hat49
 exact L_nil ⟨rfl,_,_,rfl,Le.refl _,fun _ _=>⟨_,_,_,rfl,rfl,hat49⟩,Z⟩
 refine opsS_cons ?_ ?_
 intro f w_ H18 X18 hS18 hE18 hP18 Z
 obtain ⟨g51,o51,cs51,hv51,hrk_hat51,hat51⟩:=(hP18 8 21 rfl rfl)
 obtain rfl : _ = [_]:=hrk_hat51
 refine L_ld (v:=I x_8) (g_yes rfl (Eq.trans (hP18 5 18 rfl rfl) (congrArg Value.bool hc22)) rfl) Tryz.isAgg3 hv51 (At.cell (AtH.at hat51 Z.sub) (j:=0) rfl) (L_nil ⟨rfl,_,_,rfl,Le.refl _,fun _ _=>rfl,Z⟩)
 refine opsS_cons (fun f w_ _ _ s _ p Z=>L_fa (o':=0) (g_yes rfl (Eq.trans (p 5 18 rfl rfl) (congrArg Value.bool hc22)) rfl) fa_25_0 ((s 2 rfl).trans sf2) rfl (nO rfl rfl Z)) (opsS_cons (fun f w_ _ _ _ _ p Z=>L_ld (v:=v0_0) (g_yes rfl (Eq.trans (p 5 18 rfl rfl) (congrArg Value.bool hc22)) rfl) Tryz.isAgg22 (p 10 23 rfl rfl) (At.cell0 (Blk.at (Star.blkAt 0 Z rfl)) (j:=0) rfl) (nO rfl rfl Z)) (opsS_cons (fun f w_ _ _ _ hE18 p Z=>L_len (g_yes rfl (Eq.trans (p 5 18 rfl rfl) (congrArg Value.bool hc22)) rfl) Tryz.underlying22 (p 11 24 rfl rfl) (slice_len (RP.mono _ h0_0 (Le.trans l7 hE18))) (nO rfl rfl Z)) (opsS_nil)))
 refine L_geq (g_yes rfl (Eq.trans (hT18 5 18 rfl rfl) (congrArg Value.bool hc22)) rfl) (hT18 9 22 rfl rfl) (hT18 12 25 rfl rfl) (L_pick (v:=Bo ((decide (x_8 < 0)) || (decide (x_8 ≥ (m.sizes.length : Int))))) rfl (Eq.trans (hT18 5 18 rfl rfl) (congrArg Value.bool hc22)) (or_f hc22 rfl) (nn (rj hR21 ⟨H18,hE18,((hS18 1 rfl).trans sf1),((hS18 2 rfl).trans sf2),((hS18 5 rfl).trans sf5),rfl,Z⟩)))
 intro f w_ hR
 obtain ⟨H19,l20,sf1,sf2,sf5,sf27,Z⟩:=rk hR21 hR
 refine W_cond (b:=((decide (x_8 < 0)) || (decide (x_8 ≥ (m.sizes.length : Int))))) sf27 (fun hc53=>?_) (fun hc53=>?_)
 have hB8:=(ite_t hc53).symm.trans hB8
 refine sq (aB rfl (nn (W_ret (retG1 (v1:=Bo false) Tryz.results95 rfl ?_))))
 obtain rfl:=so hB8
 obtain rfl:=so hL8
 obtain rfl:=so hF
 exact ⟨rfl,(Star.down (Star.keepN 0 Z) (Le.trans l7 l20) c0)⟩
 have hB8:=(ite_f hc53).symm.trans hB8
 refine W_skip (sq (aI rfl (nn ?_)))
 obtain ⟨k58,hk58,hB8⟩:=bind_some hB8
 obtain ⟨j57,hL57,hB8⟩:=bind_some hB8
 obtain ⟨R57,hR57⟩:=exR fun f w_=>∃ H55 : FH,j57 = .nx ()∧Le H19 H55∧f 1 = v1∧f 2 = Pt g3∧f 5 = I i_5∧Star H55 w_ ([box g3 25 #[v0_0,v0_1]])
 refine W_join R57 ?_ ?_
 refine W_block ?_
 obtain ⟨I57,hI57⟩:=exI fun n f w_=>∃ i_54 : Nat,∃ suf57 : Nat,∃ H55 : FH,suf57 = n∧0≤i_54∧i_54 + suf57 = 0 + k58∧countL (s_l6Vars_b2 list x_8) suf57 i_54 () = some j57∧Le H19 H55∧f 1 = v1∧f 2 = Pt g3∧f 5 = I i_5∧f 6 = I i_54∧Star H55 w_ ([box g3 25 #[v0_0,v0_1]])
 refine W_loop I57 (n:=k58) ?_ ?_
 exact ij hI57 ⟨0,k58,H19,rfl,Nat.le_refl _,rfl,hL57,(Le.refl _),sf1,sf2,sf5,rfl,Z⟩
 intro n57 f w_ hI
 obtain ⟨i_54,suf57,H55,rfl,hs57,hl57,hL57,l56,sf1,sf2,sf5,sf6,Z⟩:=ik hI57 hI
 refine W_seq (sq (mF sf6 rfl (mF sf5 rfl (L_lss rfl rfl rfl (nn (W_cond (b:=decide ((i_54 : Int) < (i_5 : Int))) rfl (fun hc59=>?_) (fun hc59=>?_)))))))
 have hlt57:=of_decide_eq_true hc59
 rcases suf57 with _ | rest57
 exact absurd hlt57 (cntF_no hl57 hk58)
 obtain ⟨o57,hB57,hL57⟩:=count_succ hL57
 rw [s_l6Vars_b2] at hB57
 refine W_skip (W_seq (W_block (W_seq ?_)))
 obtain ⟨x60,hx60,hB57⟩:=bind_some hB57
 refine W_drawS 8 [isV (v1),isV (I i_54),isEl RP.int x60 0,isV (I x60),isV (v1),isV (I i_5),isEl RP.int x_8 0,isV (I x_8)] [box g3 25 #[v0_0,v0_1]] [] ([]) [([],[]),([],[]),([],[]),([],[]),([],[]),([],[]),([],[]),([],[])] (S:=[]) Tryz_mix (by kernel_rfl) rfl (by kernel_rfl) (amF_cons (mono_V _) (amF_cons (mono_V _) (amF_cons (mono_el _ _ _) (amF_cons (mono_V _) (amF_cons (mono_V _) (amF_cons (mono_V _) (amF_cons (mono_el _ _ _) (amF_cons (mono_V _) amF_nil)))))))) Z ?_ (fun f w_ H69 hS69 hE69 hT69 Z=>?_)
 refine opsS_cons (fun f w_ _ _ s _ _ Z=>mF ((s 1 rfl).trans sf1) rfl (nO rfl rfl Z)) (opsS_cons (fun f w_ _ _ s _ _ Z=>mF ((s 6 rfl).trans sf6) rfl (nO rfl rfl Z)) (opsS_cons ?_ ?_))
 intro f w_ H69 X69 hS69 hE69 hP69 Z
 refine L_ix (r:=RP.int) rfl Tryz.underlying22 Tryz.sizeOf3 (hP69 0 33 rfl rfl) (RP.mono _ h1 (Le.trans (Le.trans (Le.trans l7 l20) l56) hE69)) (hP69 1 34 rfl rfl) hx60 (fun g78 o79 cs_g78 hrk_hat80 hat80=>?_)
 obtain rfl : _ = [_]:=hrk_hat80
 exact L_nil ⟨rfl,_,_,rfl,Le.refl _,fun _ _=>⟨_,_,_,rfl,rfl,hat80⟩,Z⟩
 refine opsS_cons ?_ ?_
 intro f w_ H69 X69 hS69 hE69 hP69 Z
 obtain ⟨g82,o82,cs82,hv82,hrk_hat82,hat82⟩:=(hP69 2 35 rfl rfl)
 obtain rfl : _ = [_]:=hrk_hat82
 refine L_ld rfl Tryz.isAgg3 hv82 (At.cell (AtH.at hat82 Z.sub) (j:=0) rfl) (L_nil ⟨rfl,_,_,rfl,Le.refl _,fun _ _=>rfl,Z⟩)
 refine opsS_cons (fun f w_ _ _ s _ _ Z=>mF ((s 1 rfl).trans sf1) rfl (nO rfl rfl Z)) (opsS_cons (fun f w_ _ _ s _ _ Z=>mF ((s 5 rfl).trans sf5) rfl (nO rfl rfl Z)) (opsS_cons ?_ ?_))
 intro f w_ H69 X69 hS69 hE69 hP69 Z
 refine L_ix (r:=RP.int) rfl Tryz.underlying22 Tryz.sizeOf3 (hP69 4 37 rfl rfl) (RP.mono _ h1 (Le.trans (Le.trans (Le.trans l7 l20) l56) hE69)) (hP69 5 38 rfl rfl) hix8 (fun g84 o85 cs_g84 hrk_hat86 hat86=>?_)
 obtain rfl : _ = [_]:=hrk_hat86
 exact L_nil ⟨rfl,_,_,rfl,Le.refl _,fun _ _=>⟨_,_,_,rfl,rfl,hat86⟩,Z⟩
 refine opsS_cons ?_ ?_
 intro f w_ H69 X69 hS69 hE69 hP69 Z
 obtain ⟨g88,o88,cs88,hv88,hrk_hat88,hat88⟩:=(hP69 6 39 rfl rfl)
 obtain rfl : _ = [_]:=hrk_hat88
 refine L_ld rfl Tryz.isAgg3 hv88 (At.cell (AtH.at hat88 Z.sub) (j:=0) rfl) (L_nil ⟨rfl,_,_,rfl,Le.refl _,fun _ _=>rfl,Z⟩)
 exact opsS_nil
 refine L_eql rfl (hT69 3 36 rfl rfl) (hT69 7 40 rfl rfl) (nn (W_cond (b:=(x60 == x_8)) rfl (fun hc90=>?_) (fun hc90=>?_)))
 have hB57:=(ite_t hc90).symm.trans hB57
 refine sq (aB rfl (nn (W_ret (retG1 (v1:=Bo false) Tryz.results95 rfl ?_))))
 obtain rfl:=so hB57
 obtain rfl:=so hL57
 obtain rfl:=so hB8
 obtain rfl:=so hL8
 obtain rfl:=so hF
 exact ⟨rfl,(Star.down (Star.keepN 0 Z) (Le.trans (Le.trans (Le.trans l7 l20) l56) hE69) c0)⟩
 have hB57:=(ite_f hc90).symm.trans hB57
 refine W_skip (W_region (mF ((hS69 6 rfl).trans sf6) rfl (L_add rfl rfl rfl (aI rfl (nn ?_)))))
 obtain rfl:=so hB57
 show ∃ m,m < _∧I57 m _ _
 refine ⟨rest57,Nat.lt_succ_self _,?_⟩
 exact ij hI57 ⟨i_54 + 1,rest57,H69,rfl,by omega,by omega,hL57,(Le.trans l56 hE69),((hS69 1 rfl).trans sf1),((hS69 2 rfl).trans sf2),((hS69 5 rfl).trans sf5),(Eq.trans rfl (congrArg (Value.int .i64) (i64_succ (n:=0 + k58) (by omega) (cntF_le hk58)))),Z⟩
 rcases suf57 with _ | _
 obtain rfl:=count_zero hL57
 refine W_exit (rj hR57 ⟨H55,rfl,l56,sf1,sf2,sf5,Z⟩)
 exact absurd (cntF_yes hs57 hl57 hk58) (of_decide_eq_false hc59)
 intro f w_ hR
 obtain ⟨H55,rfl,l56,sf1,sf2,sf5,Z⟩:=rk hR57 hR
 refine W_region (mF sf5 rfl (L_add rfl rfl rfl (aI rfl (nn ?_))))
 obtain rfl:=so hB8
 show ∃ m,m < _∧I8 m _ _
 refine ⟨rest8.length,by simp,?_⟩
 exact ij hI8 ⟨i_5 + 1,rest8,H55,rfl,drop_next hd8,by simp at hl8; omega,hL8,(Le.trans (Le.trans l7 l20) l56),sf1,sf2,(Eq.trans rfl (congrArg (Value.int .i64) (i64_succ (n:=list.length) (by simp at hl8; omega) hlen8))),Z⟩
 rcases suf8 with _ | ⟨_,_⟩
 obtain rfl:=range_nil hL8
 refine W_exit (rj hR8 ⟨H6,rfl,l7,sf1,(Star.keepN 0 Z)⟩)
 exact absurd (of_decide_eq_false hc9) (by simp at hl8; omega)
 intro f w_ hR
 obtain ⟨H6,rfl,l7,sf1,Z⟩:=rk hR8 hR
 refine sq (mF sf1 rfl (L_len rfl Tryz.underlying22 rfl (slice_len (RP.mono _ h1 l7)) (L_geq rfl rfl rfl (aB rfl (nn (W_ret (retG1 (v1:=Bo (decide ((list.length : Int) ≥ 1))) Tryz.results95 rfl ?_)))))))
 obtain rfl:=so hF
 exact ⟨rfl,(Star.down Z l7 c0)⟩
theorem s_l6Linear_c {r_ : Rule} {v0_1 : Value} {v0_2 : Value} {v0_4 : Value} {H : FH} {w : World} (Z : Star H w []) (h0_1 : (rS 3 RP.int).rel H [v0_1] r_.vars) (h0_2 : (rS 3 RP.int).rel H [v0_2] r_.coefs) (h0_4 : (rS 22 (rS 3 RP.int)).rel H [v0_4] r_.rows) {r : Bool} (hF : s_l6Linear r_ = some r) :
 C Tryz.prog 96 #[.agg #[I r_.kind,v0_1,v0_2,I r_.bound,v0_4]] w fun v w'=>v = Bo r∧Star H w' []:=by
 unfold s_l6Linear at hF
 refine C_enter Tryz.func96 rfl Tryz.ntmps96 rfl (sq (L_box (v:=.agg #[I r_.kind,v0_1,v0_2,I r_.bound,v0_4]) (cs:=#[I r_.kind,v0_1,v0_2,I r_.bound,v0_4]) rfl rfl rfl Z (fun g3 w4 Z=>aB rfl (nq (sq (aI rfl (nn ?_)))))))
 have hlen6 : List.length r_.coefs≤9223372036854775807:=len_le (slice_len h0_2)
 obtain ⟨j6,hL6,hF⟩:=bind_some hF
 obtain ⟨R6,hR6⟩:=exR fun f w_=>j6 = .nx ()∧f 1 = Pt g3∧Star H w_ ([box g3 49 #[I r_.kind,v0_1,v0_2,I r_.bound,v0_4]])
 refine W_join R6 ?_ ?_
 refine W_block ?_
 obtain ⟨I6,hI6⟩:=exI fun n f w_=>∃ i_5 : Nat,∃ suf6 : List Int,n = suf6.length∧List.drop i_5 r_.coefs = suf6∧i_5 + suf6.length = r_.coefs.length∧rangeL s_l6Linear_b1 suf6 i_5 () = some j6∧f 1 = Pt g3∧f 3 = I i_5∧Star H w_ ([box g3 49 #[I r_.kind,v0_1,v0_2,I r_.bound,v0_4]])
 refine W_loop I6 (n:=r_.coefs.length) ?_ ?_
 exact ij hI6 ⟨0,r_.coefs,rfl,rfl,Nat.zero_add _,hL6,rfl,rfl,Z⟩
 intro n6 f w_ hI
 obtain ⟨i_5,suf6,rfl,hd6,hl6,hL6,sf1,sf3,Z⟩:=ik hI6 hI
 refine W_seq (sq (mF sf3 rfl (fA 2 fa_49_2 sf1 rfl (ldB 0 Z Tryz.isAgg22 rfl rfl rfl (L_len rfl Tryz.underlying22 rfl (slice_len h0_2) (L_lss rfl rfl rfl (nn (W_cond (b:=decide ((i_5 : Int) < (r_.coefs.length : Int))) rfl (fun hc7=>?_) (fun hc7=>?_)))))))))
 have hlt6:=of_decide_eq_true hc7
 rcases suf6 with _ | ⟨x_6,rest6⟩
 exact absurd hlt6 (by simp at hl6; omega)
 obtain ⟨o6,hB6,hL6⟩:=range_cons hL6
 rw [s_l6Linear_b1] at hB6
 have hix6:=drop_idx hd6
 refine W_skip (W_seq (W_block (W_seq ?_)))
 obtain ⟨R20,hR20⟩:=exR fun f w_=>f 1 = Pt g3∧f 3 = I i_5∧f 32 = Bo (((decide (x_6 < (-9))) || (decide (x_6 > 9))) || (x_6 == 0))∧Star H w_ ([box g3 49 #[I r_.kind,v0_1,v0_2,I r_.bound,v0_4]])
 refine W_join R20 ?_ ?_
 refine W_region (fA 2 fa_49_2 sf1 rfl (ldB 0 Z Tryz.isAgg22 rfl rfl rfl (mF sf3 rfl (L_ix (r:=RP.int) rfl Tryz.underlying22 Tryz.sizeOf3 rfl h0_2 rfl hix6 (fun g21 o22 cs_g21 hrk_hat23 hat23=>?_)))))
 obtain rfl : _ = [_]:=hrk_hat23
 refine L_ld rfl Tryz.isAgg3 rfl (At.cell (AtH.at hat23 Z.sub) (j:=0) rfl) (L_lss rfl rfl rfl (mB rfl (L_split (d:=17) (b:=decide (x_6 < (-9))) rfl (fun hc25=>?_) (fun hc25=>?_))))
 refine ps rfl (ps rfl (ps rfl (ps rfl (ps rfl (ps rfl (L_pick (v:=Bo ((decide (x_6 < (-9))) || (decide (x_6 > 9)))) rfl rfl (or_t hc25) (mB rfl (L_split (d:=25) (b:=((decide (x_6 < (-9))) || (decide (x_6 > 9)))) rfl (fun hc26=>?_) (fun hc26=>?_)))))))))
 refine ps rfl (ps rfl (ps rfl (ps rfl (ps rfl (ps rfl (L_pick (v:=Bo (((decide (x_6 < (-9))) || (decide (x_6 > 9))) || (x_6 == 0))) rfl rfl (or_t hc26) (nn (rj hR20 ⟨sf1,sf3,rfl,Z⟩))))))))
 refine fA 2 fa_49_2 sf1 rfl (ldB 0 Z Tryz.isAgg22 rfl rfl rfl (mF sf3 rfl (L_ix (r:=RP.int) rfl Tryz.underlying22 Tryz.sizeOf3 rfl h0_2 rfl hix6 (fun g27 o28 cs_g27 hrk_hat29 hat29=>?_))))
 obtain rfl : _ = [_]:=hrk_hat29
 refine L_ld rfl Tryz.isAgg3 rfl (At.cell (AtH.at hat29 Z.sub) (j:=0) rfl) (L_eql rfl rfl rfl (L_pick (v:=Bo (((decide (x_6 < (-9))) || (decide (x_6 > 9))) || (x_6 == 0))) rfl rfl (or_f hc26 rfl) (nn (rj hR20 ⟨sf1,sf3,rfl,Z⟩))))
 refine fA 2 fa_49_2 sf1 rfl (ldB 0 Z Tryz.isAgg22 rfl rfl rfl (mF sf3 rfl (L_ix (r:=RP.int) rfl Tryz.underlying22 Tryz.sizeOf3 rfl h0_2 rfl hix6 (fun g31 o32 cs_g31 hrk_hat33 hat33=>?_))))
 obtain rfl : _ = [_]:=hrk_hat33
 refine L_ld rfl Tryz.isAgg3 rfl (At.cell (AtH.at hat33 Z.sub) (j:=0) rfl) (L_gtr rfl rfl rfl (L_pick (v:=Bo ((decide (x_6 < (-9))) || (decide (x_6 > 9)))) rfl rfl (or_f hc25 rfl) (mB rfl (L_split (d:=25) (b:=((decide (x_6 < (-9))) || (decide (x_6 > 9)))) rfl (fun hc35=>?_) (fun hc35=>?_)))))
 refine ps rfl (ps rfl (ps rfl (ps rfl (ps rfl (ps rfl (L_pick (v:=Bo (((decide (x_6 < (-9))) || (decide (x_6 > 9))) || (x_6 == 0))) rfl rfl (or_t hc35) (nn (rj hR20 ⟨sf1,sf3,rfl,Z⟩))))))))
 refine fA 2 fa_49_2 sf1 rfl (ldB 0 Z Tryz.isAgg22 rfl rfl rfl (mF sf3 rfl (L_ix (r:=RP.int) rfl Tryz.underlying22 Tryz.sizeOf3 rfl h0_2 rfl hix6 (fun g36 o37 cs_g36 hrk_hat38 hat38=>?_))))
 obtain rfl : _ = [_]:=hrk_hat38
 refine L_ld rfl Tryz.isAgg3 rfl (At.cell (AtH.at hat38 Z.sub) (j:=0) rfl) (L_eql rfl rfl rfl (L_pick (v:=Bo (((decide (x_6 < (-9))) || (decide (x_6 > 9))) || (x_6 == 0))) rfl rfl (or_f hc35 rfl) (nn (rj hR20 ⟨sf1,sf3,rfl,Z⟩))))
 intro f w_ hR
 obtain ⟨sf1,sf3,sf32,Z⟩:=rk hR20 hR
 refine W_cond (b:=(((decide (x_6 < (-9))) || (decide (x_6 > 9))) || (x_6 == 0))) sf32 (fun hc40=>?_) (fun hc40=>?_)
 have hB6:=(ite_t hc40).symm.trans hB6
 refine sq (aB rfl (nn (W_ret (retG1 (v1:=Bo false) Tryz.results96 rfl ?_))))
 obtain rfl:=so hB6
 obtain rfl:=so hL6
 obtain rfl:=so hF
 exact ⟨rfl,(Star.keepN 0 Z)⟩
 have hB6:=(ite_f hc40).symm.trans hB6
 refine W_skip (W_region (mF sf3 rfl (L_add rfl rfl rfl (aI rfl (nn ?_)))))
 obtain rfl:=so hB6
 show ∃ m,m < _∧I6 m _ _
 refine ⟨rest6.length,by simp,?_⟩
 exact ij hI6 ⟨i_5 + 1,rest6,rfl,drop_next hd6,by simp at hl6; omega,hL6,sf1,(Eq.trans rfl (congrArg (Value.int .i64) (i64_succ (n:=r_.coefs.length) (by simp at hl6; omega) hlen6))),Z⟩
 rcases suf6 with _ | ⟨_,_⟩
 obtain rfl:=range_nil hL6
 refine W_exit (rj hR6 ⟨rfl,sf1,Z⟩)
 exact absurd (of_decide_eq_false hc7) (by simp at hl6; omega)
 intro f w_ hR
 obtain ⟨rfl,sf1,Z⟩:=rk hR6 hR
 refine W_seq ?_
 obtain ⟨R41,hR41⟩:=exR fun f w_=>f 2 = Bo ((((r_.coefs.length : Int) == (r_.vars.length : Int)) && (decide (r_.bound ≥ (-1000)))) && (decide (r_.bound≤1000)))∧Star H w_ ([])
 refine W_join R41 ?_ ?_
 refine W_region (fA 2 fa_49_2 sf1 rfl (ldB 0 Z Tryz.isAgg22 rfl rfl rfl (L_len rfl Tryz.underlying22 rfl (slice_len h0_2) (fA 1 fa_49_1 sf1 rfl (ldB 0 Z Tryz.isAgg22 rfl rfl rfl (L_len rfl Tryz.underlying22 rfl (slice_len h0_1) (L_eql rfl rfl rfl (mB rfl (L_split (d:=40) (b:=((r_.coefs.length : Int) == (r_.vars.length : Int))) rfl (fun hc42=>?_) (fun hc42=>?_))))))))))
 refine fA 3 fa_49_3 sf1 rfl (ldB 0 Z Tryz.isAgg3 rfl rfl rfl (L_geq rfl rfl rfl (L_pick (v:=Bo (((r_.coefs.length : Int) == (r_.vars.length : Int)) && (decide (r_.bound ≥ (-1000))))) rfl rfl (and_t hc42 rfl) (mB rfl (L_split (d:=45) (b:=(((r_.coefs.length : Int) == (r_.vars.length : Int)) && (decide (r_.bound ≥ (-1000))))) rfl (fun hc43=>?_) (fun hc43=>?_))))))
 refine fA 3 fa_49_3 sf1 rfl (ldB 0 Z Tryz.isAgg3 rfl rfl rfl (L_leq rfl rfl rfl (L_pick (v:=Bo ((((r_.coefs.length : Int) == (r_.vars.length : Int)) && (decide (r_.bound ≥ (-1000)))) && (decide (r_.bound≤1000)))) rfl rfl (and_t hc43 rfl) (aB rfl (nn (rj hR41 ⟨rfl,(Star.keepN 0 Z)⟩))))))
 refine ps rfl (ps rfl (ps rfl (L_pick (v:=Bo ((((r_.coefs.length : Int) == (r_.vars.length : Int)) && (decide (r_.bound ≥ (-1000)))) && (decide (r_.bound≤1000)))) rfl rfl (and_f hc43) (aB rfl (nn (rj hR41 ⟨rfl,(Star.keepN 0 Z)⟩))))))
 refine ps rfl (ps rfl (ps rfl (L_pick (v:=Bo (((r_.coefs.length : Int) == (r_.vars.length : Int)) && (decide (r_.bound ≥ (-1000))))) rfl rfl (and_f hc42) (mB rfl (L_split (d:=45) (b:=(((r_.coefs.length : Int) == (r_.vars.length : Int)) && (decide (r_.bound ≥ (-1000))))) rfl (fun hc44=>?_) (fun hc44=>?_))))))
 refine fA 3 fa_49_3 sf1 rfl (ldB 0 Z Tryz.isAgg3 rfl rfl rfl (L_leq rfl rfl rfl (L_pick (v:=Bo ((((r_.coefs.length : Int) == (r_.vars.length : Int)) && (decide (r_.bound ≥ (-1000)))) && (decide (r_.bound≤1000)))) rfl rfl (and_t hc44 rfl) (aB rfl (nn (rj hR41 ⟨rfl,(Star.keepN 0 Z)⟩))))))
 refine ps rfl (ps rfl (ps rfl (L_pick (v:=Bo ((((r_.coefs.length : Int) == (r_.vars.length : Int)) && (decide (r_.bound ≥ (-1000)))) && (decide (r_.bound≤1000)))) rfl rfl (and_f hc44) (aB rfl (nn (rj hR41 ⟨rfl,(Star.keepN 0 Z)⟩))))))
 intro f w_ hR
 obtain ⟨sf2,Z⟩:=rk hR41 hR
 refine W_ret (retG1 (v1:=Bo ((((r_.coefs.length : Int) == (r_.vars.length : Int)) && (decide (r_.bound ≥ (-1000)))) && (decide (r_.bound≤1000)))) Tryz.results96 sf2 ?_)
 obtain rfl:=so hF
 exact ⟨rfl,Z⟩
theorem s_l6Table_c {r_ : Rule} {v0_1 : Value} {v0_2 : Value} {v0_4 : Value} {H : FH} {w : World} (Z : Star H w []) (h0_1 : (rS 3 RP.int).rel H [v0_1] r_.vars) (h0_2 : (rS 3 RP.int).rel H [v0_2] r_.coefs) (h0_4 : (rS 22 (rS 3 RP.int)).rel H [v0_4] r_.rows) {r : Bool} (hF : s_l6Table r_ = some r) :
 C Tryz.prog 97 #[.agg #[I r_.kind,v0_1,v0_2,I r_.bound,v0_4]] w fun v w'=>v = Bo r∧Star H w' []:=by
 unfold s_l6Table at hF
 refine C_enter Tryz.func97 rfl Tryz.ntmps97 rfl (sq (L_box (v:=.agg #[I r_.kind,v0_1,v0_2,I r_.bound,v0_4]) (cs:=#[I r_.kind,v0_1,v0_2,I r_.bound,v0_4]) rfl rfl rfl Z (fun g3 w4 Z=>aB rfl (nq (sq (aI rfl (nn ?_)))))))
 have hlen8 : List.length r_.rows≤9223372036854775807:=len_le (slice_len h0_4)
 obtain ⟨j8,hL8,hF⟩:=bind_some hF
 obtain ⟨R8,hR8⟩:=exR fun f w_=>∃ H6 : FH,j8 = .nx ()∧Le H H6∧f 1 = Pt g3∧Star H6 w_ ([box g3 49 #[I r_.kind,v0_1,v0_2,I r_.bound,v0_4]])
 refine W_join R8 ?_ ?_
 refine W_block ?_
 obtain ⟨I8,hI8⟩:=exI fun n f w_=>∃ i_5 : Nat,∃ suf8 : List (List Int),∃ H6 : FH,n = suf8.length∧List.drop i_5 r_.rows = suf8∧i_5 + suf8.length = r_.rows.length∧rangeL (s_l6Table_b1 r_) suf8 i_5 () = some j8∧Le H H6∧f 1 = Pt g3∧f 3 = I i_5∧Star H6 w_ ([box g3 49 #[I r_.kind,v0_1,v0_2,I r_.bound,v0_4]])
 refine W_loop I8 (n:=r_.rows.length) ?_ ?_
 exact ij hI8 ⟨0,r_.rows,H,rfl,rfl,Nat.zero_add _,hL8,(Le.refl _),rfl,rfl,Z⟩
 intro n8 f w_ hI
 obtain ⟨i_5,suf8,H6,rfl,hd8,hl8,hL8,l7,sf1,sf3,Z⟩:=ik hI8 hI
 refine W_seq (sq (mF sf3 rfl (fA 4 fa_49_4 sf1 rfl (ldB 0 Z Tryz.isAgg47 rfl rfl rfl (L_len rfl Tryz.underlying47 rfl (slice_len (RP.mono _ h0_4 l7)) (L_lss rfl rfl rfl (nn (W_cond (b:=decide ((i_5 : Int) < (r_.rows.length : Int))) rfl (fun hc9=>?_) (fun hc9=>?_)))))))))
 have hlt8:=of_decide_eq_true hc9
 rcases suf8 with _ | ⟨x_8,rest8⟩
 exact absurd hlt8 (by simp at hl8; omega)
 obtain ⟨o8,hB8,hL8⟩:=range_cons hL8
 rw [s_l6Table_b1] at hB8
 have hix8:=drop_idx hd8
 refine W_skip (W_seq (W_block (W_seq (W_seq (W_drawS 9 [isV (Pq g3 4),isV (v0_4),isV (I i_5),isEl (rS 3 RP.int) x_8 0,isData (rS 3 RP.int) x_8,isV (I (x_8.length : Int)),isV (Pq g3 1),isV (v0_1),isV (I (r_.vars.length : Int))] [box g3 49 #[I r_.kind,v0_1,v0_2,I r_.bound,v0_4]] [] ([]) [([],[]),([],[]),([],[]),([],[]),([],[]),([],[]),([],[]),([],[]),([],[])] (S:=[]) Tryz_mix (by kernel_rfl) rfl (by kernel_rfl) (amF_cons (mono_V _) (amF_cons (mono_V _) (amF_cons (mono_V _) (amF_cons (mono_el _ _ _) (amF_cons (mono_data _ _) (amF_cons (mono_V _) (amF_cons (mono_V _) (amF_cons (mono_V _) (amF_cons (mono_V _) amF_nil))))))))) Z ?_ (fun f w_ H14 hS14 hE14 hT14 Z=>?_))))))
 refine opsS_cons (fun f w_ _ _ s _ _ Z=>fA 4 fa_49_4 ((s 1 rfl).trans sf1) rfl (nO rfl rfl Z)) (opsS_cons (fun f w_ _ _ _ _ p Z=>ldB 0 Z Tryz.isAgg47 (p 0 12 rfl rfl) rfl rfl (nO rfl rfl Z)) (opsS_cons (fun f w_ _ _ s _ _ Z=>mF ((s 3 rfl).trans sf3) rfl (nO rfl rfl Z)) (opsS_cons ?_ ?_)))
 intro f w_ H14 X14 hS14 hE14 hP14 Z
 refine L_ix (r:=(rS 3 RP.int)) rfl Tryz.underlying47 Tryz.sizeOf22 (hP14 1 13 rfl rfl) (RP.mono _ h0_4 (Le.trans l7 hE14)) (hP14 2 14 rfl rfl) hix8 (fun g19 o20 cs_g19 hrk_hat21 hat21=>?_)
 obtain ⟨u22,rfl,hu22⟩:=slice1 hrk_hat21
 exact L_nil ⟨rfl,_,_,rfl,Le.refl _,fun _ _=>⟨_,_,_,rfl,hrk_hat21,hat21⟩,Z⟩
 refine opsS_cons ?_ ?_
 intro f w_ H14 X14 hS14 hE14 hP14 Z
 obtain ⟨g23,o23,cs23,hv23,hrk_hat23,hat23⟩:=(hP14 3 15 rfl rfl)
 obtain ⟨u24,rfl,hu24⟩:=slice1 hrk_hat23
 refine L_ld rfl Tryz.isAgg22 hv23 (At.cell (AtH.at hat23 Z.sub) (j:=0) rfl) (L_nil ⟨rfl,_,_,rfl,Le.refl _,fun _ _=>hu24,Z⟩)
 refine opsS_cons ?_ ?_
 intro f w_ H14 X14 hS14 hE14 hP14 Z
 have hd25 : (rS 3 RP.int).rel H14 [f 16] x_8:=(hP14 4 16 rfl rfl)
 refine L_len rfl Tryz.underlying22 rfl (slice_len hd25) (L_nil ⟨rfl,_,_,rfl,Le.refl _,fun _ _=>rfl,Z⟩)
 refine opsS_cons (fun f w_ _ _ s _ _ Z=>fA 1 fa_49_1 ((s 1 rfl).trans sf1) rfl (nO rfl rfl Z)) (opsS_cons (fun f w_ _ _ _ _ p Z=>ldB 0 Z Tryz.isAgg22 (p 6 18 rfl rfl) rfl rfl (nO rfl rfl Z)) (opsS_cons (fun f w_ _ _ _ hE14 p Z=>L_len rfl Tryz.underlying22 (p 7 19 rfl rfl) (slice_len (RP.mono _ h0_1 (Le.trans l7 hE14))) (nO rfl rfl Z)) (opsS_nil)))
 refine L_neq rfl (hT14 5 17 rfl rfl) (hT14 8 20 rfl rfl) (nn (W_cond (b:=((x_8.length : Int) != (r_.vars.length : Int))) rfl (fun hc26=>?_) (fun hc26=>?_)))
 have hB8:=(ite_t hc26).symm.trans hB8
 refine sq (aB rfl (nn (W_ret (retG1 (v1:=Bo false) Tryz.results97 rfl ?_))))
 obtain rfl:=so hB8
 obtain rfl:=so hL8
 obtain rfl:=so hF
 exact ⟨rfl,(Star.down (Star.keepN 0 Z) (Le.trans l7 hE14) c0)⟩
 have hB8:=(ite_f hc26).symm.trans hB8
 refine W_skip (sq (aI rfl (nn ?_)))
 obtain ⟨k29,hk29,hB8⟩:=bind_some hB8
 obtain ⟨j28,hL28,hB8⟩:=bind_some hB8
 obtain ⟨R28,hR28⟩:=exR fun f w_=>j28 = .nx ()∧f 1 = Pt g3∧f 3 = I i_5∧Star H14 w_ ([box g3 49 #[I r_.kind,v0_1,v0_2,I r_.bound,v0_4]])
 refine W_join R28 ?_ ?_
 refine W_block ?_
 obtain ⟨I28,hI28⟩:=exI fun n f w_=>∃ i_27 : Nat,∃ suf28 : Nat,suf28 = n∧0≤i_27∧i_27 + suf28 = 0 + k29∧countL (s_l6Table_b2 x_8) suf28 i_27 () = some j28∧f 1 = Pt g3∧f 3 = I i_5∧f 4 = I i_27∧Star H14 w_ ([box g3 49 #[I r_.kind,v0_1,v0_2,I r_.bound,v0_4]])
 refine W_loop I28 (n:=k29) ?_ ?_
 exact ij hI28 ⟨0,k29,rfl,Nat.le_refl _,rfl,hL28,((hS14 1 rfl).trans sf1),((hS14 3 rfl).trans sf3),rfl,Z⟩
 intro n28 f w_ hI
 obtain ⟨i_27,suf28,rfl,hs28,hl28,hL28,sf1,sf3,sf4,Z⟩:=ik hI28 hI
 refine W_seq (sq (mF sf4 rfl (fA 4 fa_49_4 sf1 rfl (ldB 0 Z Tryz.isAgg47 rfl rfl rfl (mF sf3 rfl (L_ix (r:=(rS 3 RP.int)) rfl Tryz.underlying47 Tryz.sizeOf22 rfl (RP.mono _ h0_4 (Le.trans l7 hE14)) rfl hix8 (fun g34 o35 cs_g34 hrk_hat36 hat36=>?_)))))))
 obtain ⟨u37,rfl,hu37⟩:=slice1 hrk_hat36
 refine L_ld rfl Tryz.isAgg22 rfl (At.cell (AtH.at hat36 Z.sub) (j:=0) rfl) (L_len rfl Tryz.underlying22 rfl (slice_len hu37) (L_lss rfl rfl rfl (nn (W_cond (b:=decide ((i_27 : Int) < (x_8.length : Int))) rfl (fun hc38=>?_) (fun hc38=>?_)))))
 have hlt28:=of_decide_eq_true hc38
 rcases suf28 with _ | rest28
 exact absurd hlt28 (cntF_no hl28 hk29)
 obtain ⟨o28,hB28,hL28⟩:=count_succ hL28
 rw [s_l6Table_b2] at hB28
 refine W_skip (W_seq (W_block (W_seq ?_)))
 obtain ⟨x43,hx43,hB28⟩:=bind_some hB28
 obtain ⟨R56,hR56⟩:=exR fun f w_=>f 1 = Pt g3∧f 3 = I i_5∧f 4 = I i_27∧f 51 = Bo ((decide (x43 < 0)) || (decide (x43 > 3)))∧Star H14 w_ ([box g3 49 #[I r_.kind,v0_1,v0_2,I r_.bound,v0_4]])
 refine W_join R56 ?_ ?_
 refine W_region (fA 4 fa_49_4 sf1 rfl (ldB 0 Z Tryz.isAgg47 rfl rfl rfl (mF sf3 rfl (L_ix (r:=(rS 3 RP.int)) rfl Tryz.underlying47 Tryz.sizeOf22 rfl (RP.mono _ h0_4 (Le.trans l7 hE14)) rfl hix8 (fun g57 o58 cs_g57 hrk_hat59 hat59=>?_)))))
 obtain ⟨u60,rfl,hu60⟩:=slice1 hrk_hat59
 refine L_ld rfl Tryz.isAgg22 rfl (At.cell (AtH.at hat59 Z.sub) (j:=0) rfl) (mF sf4 rfl (L_ix (r:=RP.int) rfl Tryz.underlying22 Tryz.sizeOf3 rfl hu60 rfl hx43 (fun g61 o62 cs_g61 hrk_hat63 hat63=>?_)))
 obtain rfl : _ = [_]:=hrk_hat63
 refine L_ld rfl Tryz.isAgg3 rfl (At.cell (AtH.at hat63 Z.sub) (j:=0) rfl) (L_lss rfl rfl rfl (mB rfl (L_split (d:=41) (b:=decide (x43 < 0)) rfl (fun hc65=>?_) (fun hc65=>?_))))
 refine ps rfl (ps rfl (ps rfl (ps rfl (ps rfl (ps rfl (ps rfl (ps rfl (ps rfl (L_pick (v:=Bo ((decide (x43 < 0)) || (decide (x43 > 3)))) rfl rfl (or_t hc65) (nn (rj hR56 ⟨sf1,sf3,sf4,rfl,Z⟩)))))))))))
 refine fA 4 fa_49_4 sf1 rfl (ldB 0 Z Tryz.isAgg47 rfl rfl rfl (mF sf3 rfl (L_ix (r:=(rS 3 RP.int)) rfl Tryz.underlying47 Tryz.sizeOf22 rfl (RP.mono _ h0_4 (Le.trans l7 hE14)) rfl hix8 (fun g66 o67 cs_g66 hrk_hat68 hat68=>?_))))
 obtain ⟨u69,rfl,hu69⟩:=slice1 hrk_hat68
 refine L_ld rfl Tryz.isAgg22 rfl (At.cell (AtH.at hat68 Z.sub) (j:=0) rfl) (mF sf4 rfl (L_ix (r:=RP.int) rfl Tryz.underlying22 Tryz.sizeOf3 rfl hu69 rfl hx43 (fun g70 o71 cs_g70 hrk_hat72 hat72=>?_)))
 obtain rfl : _ = [_]:=hrk_hat72
 refine L_ld rfl Tryz.isAgg3 rfl (At.cell (AtH.at hat72 Z.sub) (j:=0) rfl) (L_gtr rfl rfl rfl (L_pick (v:=Bo ((decide (x43 < 0)) || (decide (x43 > 3)))) rfl rfl (or_f hc65 rfl) (nn (rj hR56 ⟨sf1,sf3,sf4,rfl,Z⟩))))
 intro f w_ hR
 obtain ⟨sf1,sf3,sf4,sf51,Z⟩:=rk hR56 hR
 refine W_cond (b:=((decide (x43 < 0)) || (decide (x43 > 3)))) sf51 (fun hc74=>?_) (fun hc74=>?_)
 have hB28:=(ite_t hc74).symm.trans hB28
 refine sq (aB rfl (nn (W_ret (retG1 (v1:=Bo false) Tryz.results97 rfl ?_))))
 obtain rfl:=so hB28
 obtain rfl:=so hL28
 obtain rfl:=so hB8
 obtain rfl:=so hL8
 obtain rfl:=so hF
 exact ⟨rfl,(Star.down (Star.keepN 0 Z) (Le.trans l7 hE14) c0)⟩
 have hB28:=(ite_f hc74).symm.trans hB28
 refine W_skip (W_region (mF sf4 rfl (L_add rfl rfl rfl (aI rfl (nn ?_)))))
 obtain rfl:=so hB28
 show ∃ m,m < _∧I28 m _ _
 refine ⟨rest28,Nat.lt_succ_self _,?_⟩
 exact ij hI28 ⟨i_27 + 1,rest28,rfl,by omega,by omega,hL28,sf1,sf3,(Eq.trans rfl (congrArg (Value.int .i64) (i64_succ (n:=0 + k29) (by omega) (cntF_le hk29)))),Z⟩
 rcases suf28 with _ | _
 obtain rfl:=count_zero hL28
 refine W_exit (rj hR28 ⟨rfl,sf1,sf3,Z⟩)
 exact absurd (cntF_yes hs28 hl28 hk29) (of_decide_eq_false hc38)
 intro f w_ hR
 obtain ⟨rfl,sf1,sf3,Z⟩:=rk hR28 hR
 refine W_region (mF sf3 rfl (L_add rfl rfl rfl (aI rfl (nn ?_))))
 obtain rfl:=so hB8
 show ∃ m,m < _∧I8 m _ _
 refine ⟨rest8.length,by simp,?_⟩
 exact ij hI8 ⟨i_5 + 1,rest8,H14,rfl,drop_next hd8,by simp at hl8; omega,hL8,(Le.trans l7 hE14),sf1,(Eq.trans rfl (congrArg (Value.int .i64) (i64_succ (n:=r_.rows.length) (by simp at hl8; omega) hlen8))),Z⟩
 rcases suf8 with _ | ⟨_,_⟩
 obtain rfl:=range_nil hL8
 refine W_exit (rj hR8 ⟨H6,rfl,l7,sf1,Z⟩)
 exact absurd (of_decide_eq_false hc9) (by simp at hl8; omega)
 intro f w_ hR
 obtain ⟨H6,rfl,l7,sf1,Z⟩:=rk hR8 hR
 refine sq (fA 4 fa_49_4 sf1 rfl (ldB 0 Z Tryz.isAgg47 rfl rfl rfl (L_len rfl Tryz.underlying47 rfl (slice_len (RP.mono _ h0_4 l7)) (L_leq rfl rfl rfl (aB rfl (nn (W_ret (retG1 (v1:=Bo (decide ((r_.rows.length : Int)≤8))) Tryz.results97 rfl ?_))))))))
 obtain rfl:=so hF
 exact ⟨rfl,(Star.down (Star.keepN 0 Z) l7 c0)⟩
theorem s_l6Rule_c {m : Model} {r_ : Rule} {v0_0 : Value} {v0_1 : Value} {v1_1 : Value} {v1_2 : Value} {v1_4 : Value} {H : FH} {w : World} (Z : Star H w []) (h0_0 : (rS 3 RP.int).rel H [v0_0] m.sizes) (h0_1 : (rS 49 (rRule 3 22)).rel H [v0_1] m.rules) (h1_1 : (rS 3 RP.int).rel H [v1_1] r_.vars) (h1_2 : (rS 3 RP.int).rel H [v1_2] r_.coefs) (h1_4 : (rS 22 (rS 3 RP.int)).rel H [v1_4] r_.rows) {r : Bool} (hF : s_l6Rule m r_ = some r) :
 C Tryz.prog 50 #[.agg #[v0_0,v0_1],.agg #[I r_.kind,v1_1,v1_2,I r_.bound,v1_4]] w fun v w'=>v = Bo r∧Star H w' []:=by
 unfold s_l6Rule at hF
 refine C_enter Tryz.func50 rfl Tryz.ntmps50 rfl (sq (L_box (v:=.agg #[v0_0,v0_1]) (cs:=#[v0_0,v0_1]) rfl rfl rfl Z (fun g5 w6 Z=>L_box (v:=.agg #[I r_.kind,v1_1,v1_2,I r_.bound,v1_4]) (cs:=#[I r_.kind,v1_1,v1_2,I r_.bound,v1_4]) rfl rfl rfl Z (fun g7 w8 Z=>aB rfl (nq (W_seq ?_))))))
 obtain ⟨x14,hx14,hF⟩:=bind_some hF
 obtain ⟨R16,hR16⟩:=exR fun f w_=>f 3 = Pt g7∧f 36 = Bo (((!x14) || ((r_.kind != 1) && (((r_.coefs.length : Int) != 0) || (r_.bound != 0)))) || ((r_.kind != 3) && ((r_.rows.length : Int) != 0)))∧Star H w_ ([box g7 49 #[I r_.kind,v1_1,v1_2,I r_.bound,v1_4]])
 refine W_join R16 ?_ ?_
 refine W_region (L_lda (cs:=[v0_0,v0_1]) rfl Tryz.isAgg25 Tryz.sizeOf25 rfl (At.sub0 (Blk.at (Star.blkAt 1 Z rfl)) 0 2) rfl (fA 1 fa_49_1 rfl rfl (ldB 0 Z Tryz.isAgg22 rfl rfl rfl ?_)))
 obtain ⟨H17b,l18,s19,z20,k21⟩:=Z.borrow
 refine L_call rfl Tryz.call95 (ops2 rfl rfl) (s_l6Vars_c (m:=m) (list:=r_.vars) s19 (RP.mono _ h0_0 l18) (RP.mono _ h0_1 l18) (RP.mono _ h1_1 l18) hx14) ?_
 rintro _ w22 ⟨rfl,Z⟩
 have Z:=k21 Z c0
 refine L_not_ rfl rfl (mB rfl (L_split (d:=10) (b:=(!x14)) rfl (fun hc23=>?_) (fun hc23=>?_)))
 refine ps rfl (ps rfl (ps rfl (ps rfl (ps rfl (ps rfl (ps rfl (ps rfl (ps rfl (ps rfl (ps rfl (ps rfl (ps rfl (ps rfl (L_pick (v:=Bo ((!x14) || ((r_.kind != 1) && (((r_.coefs.length : Int) != 0) || (r_.bound != 0))))) rfl rfl (or_t hc23) (mB rfl (L_split (d:=26) (b:=((!x14) || ((r_.kind != 1) && (((r_.coefs.length : Int) != 0) || (r_.bound != 0))))) rfl (fun hc24=>?_) (fun hc24=>?_)))))))))))))))))
 refine ps rfl (ps rfl (ps rfl (ps rfl (ps rfl (ps rfl (ps rfl (ps rfl (ps rfl (L_pick (v:=Bo (((!x14) || ((r_.kind != 1) && (((r_.coefs.length : Int) != 0) || (r_.bound != 0)))) || ((r_.kind != 3) && ((r_.rows.length : Int) != 0)))) rfl rfl (or_t hc24) (nn (rj hR16 ⟨rfl,rfl,(Star.keepN 1 Z)⟩)))))))))))
 refine fA 0 fa_49_0 rfl rfl (ldB 0 Z Tryz.isAgg3 rfl rfl rfl (L_neq rfl rfl rfl (mB rfl (L_split (d:=30) (b:=(r_.kind != 3)) rfl (fun hc25=>?_) (fun hc25=>?_)))))
 refine fA 4 fa_49_4 rfl rfl (ldB 0 Z Tryz.isAgg47 rfl rfl rfl (L_len rfl Tryz.underlying47 rfl (slice_len h1_4) (L_neq rfl rfl rfl (L_pick (v:=Bo ((r_.kind != 3) && ((r_.rows.length : Int) != 0))) rfl rfl (and_t hc25 rfl) (L_pick (v:=Bo (((!x14) || ((r_.kind != 1) && (((r_.coefs.length : Int) != 0) || (r_.bound != 0)))) || ((r_.kind != 3) && ((r_.rows.length : Int) != 0)))) rfl rfl (or_f hc24 rfl) (nn (rj hR16 ⟨rfl,rfl,(Star.keepN 1 Z)⟩)))))))
 refine ps rfl (ps rfl (ps rfl (ps rfl (L_pick (v:=Bo ((r_.kind != 3) && ((r_.rows.length : Int) != 0))) rfl rfl (and_f hc25) (L_pick (v:=Bo (((!x14) || ((r_.kind != 1) && (((r_.coefs.length : Int) != 0) || (r_.bound != 0)))) || ((r_.kind != 3) && ((r_.rows.length : Int) != 0)))) rfl rfl (or_f hc24 rfl) (nn (rj hR16 ⟨rfl,rfl,(Star.keepN 1 Z)⟩)))))))
 refine fA 0 fa_49_0 rfl rfl (ldB 0 Z Tryz.isAgg3 rfl rfl rfl (L_neq rfl rfl rfl (mB rfl (L_split (d:=14) (b:=(r_.kind != 1)) rfl (fun hc26=>?_) (fun hc26=>?_)))))
 refine fA 2 fa_49_2 rfl rfl (ldB 0 Z Tryz.isAgg22 rfl rfl rfl (L_len rfl Tryz.underlying22 rfl (slice_len h1_2) (L_neq rfl rfl rfl (mB rfl (L_split (d:=19) (b:=((r_.coefs.length : Int) != 0)) rfl (fun hc27=>?_) (fun hc27=>?_))))))
 refine ps rfl (ps rfl (ps rfl (L_pick (v:=Bo (((r_.coefs.length : Int) != 0) || (r_.bound != 0))) rfl rfl (or_t hc27) (L_pick (v:=Bo ((r_.kind != 1) && (((r_.coefs.length : Int) != 0) || (r_.bound != 0)))) rfl rfl (and_t hc26 rfl) (L_pick (v:=Bo ((!x14) || ((r_.kind != 1) && (((r_.coefs.length : Int) != 0) || (r_.bound != 0))))) rfl rfl (or_f hc23 rfl) (mB rfl (L_split (d:=26) (b:=((!x14) || ((r_.kind != 1) && (((r_.coefs.length : Int) != 0) || (r_.bound != 0))))) rfl (fun hc28=>?_) (fun hc28=>?_))))))))
 refine ps rfl (ps rfl (ps rfl (ps rfl (ps rfl (ps rfl (ps rfl (ps rfl (ps rfl (L_pick (v:=Bo (((!x14) || ((r_.kind != 1) && (((r_.coefs.length : Int) != 0) || (r_.bound != 0)))) || ((r_.kind != 3) && ((r_.rows.length : Int) != 0)))) rfl rfl (or_t hc28) (nn (rj hR16 ⟨rfl,rfl,(Star.keepN 1 Z)⟩)))))))))))
 refine fA 0 fa_49_0 rfl rfl (ldB 0 Z Tryz.isAgg3 rfl rfl rfl (L_neq rfl rfl rfl (mB rfl (L_split (d:=30) (b:=(r_.kind != 3)) rfl (fun hc29=>?_) (fun hc29=>?_)))))
 refine fA 4 fa_49_4 rfl rfl (ldB 0 Z Tryz.isAgg47 rfl rfl rfl (L_len rfl Tryz.underlying47 rfl (slice_len h1_4) (L_neq rfl rfl rfl (L_pick (v:=Bo ((r_.kind != 3) && ((r_.rows.length : Int) != 0))) rfl rfl (and_t hc29 rfl) (L_pick (v:=Bo (((!x14) || ((r_.kind != 1) && (((r_.coefs.length : Int) != 0) || (r_.bound != 0)))) || ((r_.kind != 3) && ((r_.rows.length : Int) != 0)))) rfl rfl (or_f hc28 rfl) (nn (rj hR16 ⟨rfl,rfl,(Star.keepN 1 Z)⟩)))))))
 refine ps rfl (ps rfl (ps rfl (ps rfl (L_pick (v:=Bo ((r_.kind != 3) && ((r_.rows.length : Int) != 0))) rfl rfl (and_f hc29) (L_pick (v:=Bo (((!x14) || ((r_.kind != 1) && (((r_.coefs.length : Int) != 0) || (r_.bound != 0)))) || ((r_.kind != 3) && ((r_.rows.length : Int) != 0)))) rfl rfl (or_f hc28 rfl) (nn (rj hR16 ⟨rfl,rfl,(Star.keepN 1 Z)⟩)))))))
 refine fA 3 fa_49_3 rfl rfl (ldB 0 Z Tryz.isAgg3 rfl rfl rfl (L_neq rfl rfl rfl (L_pick (v:=Bo (((r_.coefs.length : Int) != 0) || (r_.bound != 0))) rfl rfl (or_f hc27 rfl) (L_pick (v:=Bo ((r_.kind != 1) && (((r_.coefs.length : Int) != 0) || (r_.bound != 0)))) rfl rfl (and_t hc26 rfl) (L_pick (v:=Bo ((!x14) || ((r_.kind != 1) && (((r_.coefs.length : Int) != 0) || (r_.bound != 0))))) rfl rfl (or_f hc23 rfl) (mB rfl (L_split (d:=26) (b:=((!x14) || ((r_.kind != 1) && (((r_.coefs.length : Int) != 0) || (r_.bound != 0))))) rfl (fun hc30=>?_) (fun hc30=>?_))))))))
 refine ps rfl (ps rfl (ps rfl (ps rfl (ps rfl (ps rfl (ps rfl (ps rfl (ps rfl (L_pick (v:=Bo (((!x14) || ((r_.kind != 1) && (((r_.coefs.length : Int) != 0) || (r_.bound != 0)))) || ((r_.kind != 3) && ((r_.rows.length : Int) != 0)))) rfl rfl (or_t hc30) (nn (rj hR16 ⟨rfl,rfl,(Star.keepN 1 Z)⟩)))))))))))
 refine fA 0 fa_49_0 rfl rfl (ldB 0 Z Tryz.isAgg3 rfl rfl rfl (L_neq rfl rfl rfl (mB rfl (L_split (d:=30) (b:=(r_.kind != 3)) rfl (fun hc31=>?_) (fun hc31=>?_)))))
 refine fA 4 fa_49_4 rfl rfl (ldB 0 Z Tryz.isAgg47 rfl rfl rfl (L_len rfl Tryz.underlying47 rfl (slice_len h1_4) (L_neq rfl rfl rfl (L_pick (v:=Bo ((r_.kind != 3) && ((r_.rows.length : Int) != 0))) rfl rfl (and_t hc31 rfl) (L_pick (v:=Bo (((!x14) || ((r_.kind != 1) && (((r_.coefs.length : Int) != 0) || (r_.bound != 0)))) || ((r_.kind != 3) && ((r_.rows.length : Int) != 0)))) rfl rfl (or_f hc30 rfl) (nn (rj hR16 ⟨rfl,rfl,(Star.keepN 1 Z)⟩)))))))
 refine ps rfl (ps rfl (ps rfl (ps rfl (L_pick (v:=Bo ((r_.kind != 3) && ((r_.rows.length : Int) != 0))) rfl rfl (and_f hc31) (L_pick (v:=Bo (((!x14) || ((r_.kind != 1) && (((r_.coefs.length : Int) != 0) || (r_.bound != 0)))) || ((r_.kind != 3) && ((r_.rows.length : Int) != 0)))) rfl rfl (or_f hc30 rfl) (nn (rj hR16 ⟨rfl,rfl,(Star.keepN 1 Z)⟩)))))))
 refine ps rfl (ps rfl (ps rfl (ps rfl (ps rfl (ps rfl (ps rfl (ps rfl (ps rfl (L_pick (v:=Bo ((r_.kind != 1) && (((r_.coefs.length : Int) != 0) || (r_.bound != 0)))) rfl rfl (and_f hc26) (L_pick (v:=Bo ((!x14) || ((r_.kind != 1) && (((r_.coefs.length : Int) != 0) || (r_.bound != 0))))) rfl rfl (or_f hc23 rfl) (mB rfl (L_split (d:=26) (b:=((!x14) || ((r_.kind != 1) && (((r_.coefs.length : Int) != 0) || (r_.bound != 0))))) rfl (fun hc32=>?_) (fun hc32=>?_)))))))))))))
 refine ps rfl (ps rfl (ps rfl (ps rfl (ps rfl (ps rfl (ps rfl (ps rfl (ps rfl (L_pick (v:=Bo (((!x14) || ((r_.kind != 1) && (((r_.coefs.length : Int) != 0) || (r_.bound != 0)))) || ((r_.kind != 3) && ((r_.rows.length : Int) != 0)))) rfl rfl (or_t hc32) (nn (rj hR16 ⟨rfl,rfl,(Star.keepN 1 Z)⟩)))))))))))
 refine fA 0 fa_49_0 rfl rfl (ldB 0 Z Tryz.isAgg3 rfl rfl rfl (L_neq rfl rfl rfl (mB rfl (L_split (d:=30) (b:=(r_.kind != 3)) rfl (fun hc33=>?_) (fun hc33=>?_)))))
 refine fA 4 fa_49_4 rfl rfl (ldB 0 Z Tryz.isAgg47 rfl rfl rfl (L_len rfl Tryz.underlying47 rfl (slice_len h1_4) (L_neq rfl rfl rfl (L_pick (v:=Bo ((r_.kind != 3) && ((r_.rows.length : Int) != 0))) rfl rfl (and_t hc33 rfl) (L_pick (v:=Bo (((!x14) || ((r_.kind != 1) && (((r_.coefs.length : Int) != 0) || (r_.bound != 0)))) || ((r_.kind != 3) && ((r_.rows.length : Int) != 0)))) rfl rfl (or_f hc32 rfl) (nn (rj hR16 ⟨rfl,rfl,(Star.keepN 1 Z)⟩)))))))
 refine ps rfl (ps rfl (ps rfl (ps rfl (L_pick (v:=Bo ((r_.kind != 3) && ((r_.rows.length : Int) != 0))) rfl rfl (and_f hc33) (L_pick (v:=Bo (((!x14) || ((r_.kind != 1) && (((r_.coefs.length : Int) != 0) || (r_.bound != 0)))) || ((r_.kind != 3) && ((r_.rows.length : Int) != 0)))) rfl rfl (or_f hc32 rfl) (nn (rj hR16 ⟨rfl,rfl,(Star.keepN 1 Z)⟩)))))))
 intro f w_ hR
 obtain ⟨sf3,sf36,Z⟩:=rk hR16 hR
 refine W_cond (b:=(((!x14) || ((r_.kind != 1) && (((r_.coefs.length : Int) != 0) || (r_.bound != 0)))) || ((r_.kind != 3) && ((r_.rows.length : Int) != 0)))) sf36 (fun hc34=>?_) (fun hc34=>?_)
 have hF:=(ite_t hc34).symm.trans hF
 refine sq (aB rfl (nn (W_ret (retG1 (v1:=Bo false) Tryz.results50 rfl ?_))))
 obtain rfl:=so hF
 exact ⟨rfl,(Star.keepN 0 Z)⟩
 have hF:=(ite_f hc34).symm.trans hF
 refine W_skip (W_seq (sq (fA 0 fa_49_0 sf3 rfl (ldB 0 Z Tryz.isAgg3 rfl rfl rfl (nn (W_block (sq (L_eql rfl rfl rfl (aB rfl (nn (W_cond (b:=(r_.kind == 1)) rfl (fun hc35=>?_) (fun hc35=>?_))))))))))))
 have hF:=(ite_t hc35).symm.trans hF
 refine W_seq ?_
 obtain ⟨x41,hx41,hF⟩:=bind_some hF
 refine W_region (L_lda (cs:=[I r_.kind,v1_1,v1_2,I r_.bound,v1_4]) rfl Tryz.isAgg49 Tryz.sizeOf49 sf3 (At.sub0 (Blk.at (Star.blkAt 0 Z rfl)) 0 5) rfl ?_)
 obtain ⟨H43b,l44,s45,z46,k47⟩:=Z.borrow
 refine L_call rfl Tryz.call96 (ops1 rfl) (s_l6Linear_c (r_:=r_) s45 (RP.mono _ h1_1 l44) (RP.mono _ h1_2 l44) (RP.mono _ h1_4 l44) hx41) ?_
 rintro _ w48 ⟨rfl,Z⟩
 have Z:=k47 Z c0
 refine aB rfl (nn (W_ret (retG1 (v1:=Bo x41) Tryz.results50 rfl ?_)))
 obtain rfl:=so hF
 exact ⟨rfl,(Star.keepN 0 Z)⟩
 have hF:=(ite_f hc35).symm.trans hF
 refine sq (L_eql rfl rfl rfl (aB rfl (nn (W_cond (b:=(r_.kind == 2)) rfl (fun hc49=>?_) (fun hc49=>?_)))))
 have hF:=(ite_t hc49).symm.trans hF
 refine sq (aB rfl (nn (W_ret (retG1 (v1:=Bo true) Tryz.results50 rfl ?_))))
 obtain rfl:=so hF
 exact ⟨rfl,(Star.keepN 0 Z)⟩
 have hF:=(ite_f hc49).symm.trans hF
 refine sq (L_eql rfl rfl rfl (aB rfl (nn (W_cond (b:=(r_.kind == 3)) rfl (fun hc50=>?_) (fun hc50=>?_)))))
 have hF:=(ite_t hc50).symm.trans hF
 refine W_seq ?_
 obtain ⟨x56,hx56,hF⟩:=bind_some hF
 refine W_region (L_lda (cs:=[I r_.kind,v1_1,v1_2,I r_.bound,v1_4]) rfl Tryz.isAgg49 Tryz.sizeOf49 sf3 (At.sub0 (Blk.at (Star.blkAt 0 Z rfl)) 0 5) rfl ?_)
 obtain ⟨H58b,l59,s60,z61,k62⟩:=Z.borrow
 refine L_call rfl Tryz.call97 (ops1 rfl) (s_l6Table_c (r_:=r_) s60 (RP.mono _ h1_1 l59) (RP.mono _ h1_2 l59) (RP.mono _ h1_4 l59) hx56) ?_
 rintro _ w63 ⟨rfl,Z⟩
 have Z:=k62 Z c0
 refine aB rfl (nn (W_ret (retG1 (v1:=Bo x56) Tryz.results50 rfl ?_)))
 obtain rfl:=so hF
 exact ⟨rfl,(Star.keepN 0 Z)⟩
 have hF:=(ite_f hc50).symm.trans hF
 refine sq (L_eql rfl rfl rfl (aB rfl (nn (W_cond (b:=(r_.kind == 4)) rfl (fun hc64=>?_) (fun hc64=>?_)))))
 have hF:=(ite_t hc64).symm.trans hF
 refine sq (fA 1 fa_49_1 sf3 rfl (ldB 0 Z Tryz.isAgg22 rfl rfl rfl (L_len rfl Tryz.underlying22 rfl (slice_len h1_1) (L_eql rfl rfl rfl (aB rfl (nn (W_ret (retG1 (v1:=Bo ((r_.vars.length : Int) == 2)) Tryz.results50 rfl ?_))))))))
 obtain rfl:=so hF
 exact ⟨rfl,(Star.keepN 0 Z)⟩
 have hF:=(ite_f hc64).symm.trans hF
 refine W_skip (sq (aB rfl (nn (W_ret (retG1 (v1:=Bo false) Tryz.results50 rfl ?_)))))
 obtain rfl:=so hF
 exact ⟨rfl,(Star.keepN 0 Z)⟩
theorem s_ModelValid_c {fu : Nat} {m : Model} {v0_0 : Value} {v0_1 : Value} {H : FH} {w : World} (Z : Star H w []) (h0_0 : (rS 3 RP.int).rel H [v0_0] m.sizes) (h0_1 : (rS 49 (rRule 3 22)).rel H [v0_1] m.rules) {r : Bool} (hF : s_ModelValid fu m = some r) :
 C Tryz.prog 16 #[.agg #[v0_0,v0_1]] w fun v w'=>v = Bo r∧Star H w' []:=by
 unfold s_ModelValid at hF
 refine C_enter Tryz.func16 rfl Tryz.ntmps16 rfl (sq (L_box (v:=.agg #[v0_0,v0_1]) (cs:=#[v0_0,v0_1]) rfl rfl rfl Z (fun g3 w4 Z=>aB rfl (ns (aI rfl (nq (sq (aI rfl (nn ?_)))))))))
 obtain ⟨j10,hL10,hF⟩:=bind_some hF
 obtain ⟨R10,hR10⟩:=exR fun f w_=>∃ n_8 : Int,∃ i_9 : Int,j10 = .nx (n_8,i_9)∧f 1 = Pt g3∧f 3 = I n_8∧Star H w_ ([box g3 25 #[v0_0,v0_1]])
 refine W_join R10 ?_ ?_
 refine W_block ?_
 obtain ⟨I10,hI10⟩:=exI fun n f w_=>∃ n_8 : Int,∃ i_9 : Int,whileL (s_ModelValid_b1 m) n (n_8,i_9) = some j10∧f 1 = Pt g3∧f 3 = I n_8∧f 4 = I i_9∧Star H w_ ([box g3 25 #[v0_0,v0_1]])
 refine W_loop I10 (n:=fu) ?_ ?_
 exact ij hI10 ⟨0,0,hL10,rfl,rfl,rfl,Z⟩
 intro n10 f w_ hI
 obtain ⟨n_8,i_9,hL10,sf1,sf3,sf4,Z⟩:=ik hI10 hI
 rcases n10 with _ | n10
 exact (while_zero hL10).elim
 obtain ⟨o10,hB10,hL10⟩:=while_succ hL10
 rw [s_ModelValid_b1] at hB10
 refine W_seq (W_seq ?_)
 obtain ⟨R11,hR11⟩:=exR fun f w_=>f 1 = Pt g3∧f 3 = I n_8∧f 4 = I i_9∧f 14 = Bo ((decide (i_9 < (m.sizes.length : Int))) && (decide (i_9 < 5)))∧Star H w_ ([box g3 25 #[v0_0,v0_1]])
 refine W_join R11 ?_ ?_
 refine W_region (mF sf4 rfl (fA 0 fa_25_0 sf1 rfl (ldB 0 Z Tryz.isAgg22 rfl rfl rfl (L_len rfl Tryz.underlying22 rfl (slice_len h0_0) (L_lss rfl rfl rfl (mB rfl (L_split (d:=11) (b:=decide (i_9 < (m.sizes.length : Int))) rfl (fun hc12=>?_) (fun hc12=>?_))))))))
 refine mF sf4 rfl (L_lss rfl rfl rfl (L_pick (v:=Bo ((decide (i_9 < (m.sizes.length : Int))) && (decide (i_9 < 5)))) rfl rfl (and_t hc12 rfl) (nn (rj hR11 ⟨sf1,sf3,sf4,rfl,Z⟩))))
 refine ps rfl (ps rfl (L_pick (v:=Bo ((decide (i_9 < (m.sizes.length : Int))) && (decide (i_9 < 5)))) rfl rfl (and_f hc12) (nn (rj hR11 ⟨sf1,sf3,sf4,rfl,Z⟩))))
 intro f w_ hR
 obtain ⟨sf1,sf3,sf4,sf14,Z⟩:=rk hR11 hR
 refine W_cond (b:=((decide (i_9 < (m.sizes.length : Int))) && (decide (i_9 < 5)))) sf14 (fun hc13=>?_) (fun hc13=>?_)
 have hB10:=(ite_t hc13).symm.trans hB10
 refine W_skip (W_seq (W_block (W_seq (W_seq ?_))))
 obtain ⟨x14,hx14,hB10⟩:=bind_some hB10
 obtain ⟨R23,hR23⟩:=exR fun f w_=>f 1 = Pt g3∧f 3 = I n_8∧f 4 = I i_9∧f 30 = Bo ((decide (x14 < 0)) || (decide (x14 > 3)))∧Star H w_ ([box g3 25 #[v0_0,v0_1]])
 refine W_join R23 ?_ ?_
 refine W_region (fA 0 fa_25_0 sf1 rfl (ldB 0 Z Tryz.isAgg22 rfl rfl rfl (mF sf4 rfl (L_ix (r:=RP.int) rfl Tryz.underlying22 Tryz.sizeOf3 rfl h0_0 rfl hx14 (fun g24 o25 cs_g24 hrk_hat26 hat26=>?_)))))
 obtain rfl : _ = [_]:=hrk_hat26
 refine L_ld rfl Tryz.isAgg3 rfl (At.cell (AtH.at hat26 Z.sub) (j:=0) rfl) (L_lss rfl rfl rfl (mB rfl (L_split (d:=23) (b:=decide (x14 < 0)) rfl (fun hc28=>?_) (fun hc28=>?_))))
 refine ps rfl (ps rfl (ps rfl (ps rfl (ps rfl (ps rfl (L_pick (v:=Bo ((decide (x14 < 0)) || (decide (x14 > 3)))) rfl rfl (or_t hc28) (nn (rj hR23 ⟨sf1,sf3,sf4,rfl,Z⟩))))))))
 refine fA 0 fa_25_0 sf1 rfl (ldB 0 Z Tryz.isAgg22 rfl rfl rfl (mF sf4 rfl (L_ix (r:=RP.int) rfl Tryz.underlying22 Tryz.sizeOf3 rfl h0_0 rfl hx14 (fun g29 o30 cs_g29 hrk_hat31 hat31=>?_))))
 obtain rfl : _ = [_]:=hrk_hat31
 refine L_ld rfl Tryz.isAgg3 rfl (At.cell (AtH.at hat31 Z.sub) (j:=0) rfl) (L_gtr rfl rfl rfl (L_pick (v:=Bo ((decide (x14 < 0)) || (decide (x14 > 3)))) rfl rfl (or_f hc28 rfl) (nn (rj hR23 ⟨sf1,sf3,sf4,rfl,Z⟩))))
 intro f w_ hR
 obtain ⟨sf1,sf3,sf4,sf30,Z⟩:=rk hR23 hR
 refine W_cond (b:=((decide (x14 < 0)) || (decide (x14 > 3)))) sf30 (fun hc33=>?_) (fun hc33=>?_)
 have hB10:=(ite_t hc33).symm.trans hB10
 refine sq (aB rfl (nn (W_ret (retG1 (v1:=Bo false) Tryz.results16 rfl ?_))))
 obtain rfl:=so hB10
 obtain rfl:=so hL10
 obtain rfl:=so hF
 exact ⟨rfl,(Star.keepN 0 Z)⟩
 have hB10:=(ite_f hc33).symm.trans hB10
 refine W_skip (W_region (mF sf3 rfl (fA 0 fa_25_0 sf1 rfl (ldB 0 Z Tryz.isAgg22 rfl rfl rfl (mF sf4 rfl (L_ix (r:=RP.int) rfl Tryz.underlying22 Tryz.sizeOf3 rfl h0_0 rfl hx14 (fun g38 o39 cs_g38 hrk_hat40 hat40=>?_)))))))
 obtain rfl : _ = [_]:=hrk_hat40
 refine L_ld rfl Tryz.isAgg3 rfl (At.cell (AtH.at hat40 Z.sub) (j:=0) rfl) (L_add rfl rfl rfl (L_add rfl rfl rfl (aI rfl (nn (W_region (mF sf4 rfl (L_add rfl rfl rfl (aI rfl (nn ?_)))))))))
 obtain rfl:=so hB10
 show ∃ m,m < _∧I10 m _ _
 refine ⟨n10,Nat.lt_succ_self _,?_⟩
 exact ij hI10 ⟨i64 ((i64 (n_8 + x14)) + 1),i64 (i_9 + 1),hL10,sf1,rfl,rfl,Z⟩
 have hB10:=(ite_f hc13).symm.trans hB10
 refine W_exit ?_
 obtain rfl:=so hB10
 obtain rfl:=so hL10
 exact rj hR10 ⟨n_8,i_9,rfl,sf1,sf3,Z⟩
 intro f w_ hR
 obtain ⟨n_8,i_9,rfl,sf1,sf3,Z⟩:=rk hR10 hR
 refine W_seq (W_seq ?_)
 obtain ⟨R42,hR42⟩:=exR fun f w_=>f 1 = Pt g3∧f 58 = Bo ((((decide ((m.sizes.length : Int) < 1)) || (decide ((m.sizes.length : Int) > 5))) || (decide (n_8 > 12))) || (decide ((m.rules.length : Int) > 8)))∧Star H w_ ([box g3 25 #[v0_0,v0_1]])
 refine W_join R42 ?_ ?_
 refine W_region (fA 0 fa_25_0 sf1 rfl (ldB 0 Z Tryz.isAgg22 rfl rfl rfl (L_len rfl Tryz.underlying22 rfl (slice_len h0_0) (L_lss rfl rfl rfl (mB rfl (L_split (d:=43) (b:=decide ((m.sizes.length : Int) < 1)) rfl (fun hc43=>?_) (fun hc43=>?_)))))))
 refine ps rfl (ps rfl (ps rfl (ps rfl (L_pick (v:=Bo ((decide ((m.sizes.length : Int) < 1)) || (decide ((m.sizes.length : Int) > 5)))) rfl rfl (or_t hc43) (mB rfl (L_split (d:=49) (b:=((decide ((m.sizes.length : Int) < 1)) || (decide ((m.sizes.length : Int) > 5)))) rfl (fun hc44=>?_) (fun hc44=>?_)))))))
 refine ps rfl (ps rfl (L_pick (v:=Bo (((decide ((m.sizes.length : Int) < 1)) || (decide ((m.sizes.length : Int) > 5))) || (decide (n_8 > 12)))) rfl rfl (or_t hc44) (mB rfl (L_split (d:=53) (b:=(((decide ((m.sizes.length : Int) < 1)) || (decide ((m.sizes.length : Int) > 5))) || (decide (n_8 > 12)))) rfl (fun hc45=>?_) (fun hc45=>?_)))))
 refine ps rfl (ps rfl (ps rfl (ps rfl (L_pick (v:=Bo ((((decide ((m.sizes.length : Int) < 1)) || (decide ((m.sizes.length : Int) > 5))) || (decide (n_8 > 12))) || (decide ((m.rules.length : Int) > 8)))) rfl rfl (or_t hc45) (nn (rj hR42 ⟨sf1,rfl,Z⟩))))))
 refine fA 1 fa_25_1 sf1 rfl (ldB 0 Z Tryz.isAgg23 rfl rfl rfl (L_len rfl Tryz.underlying23 rfl (slice_len h0_1) (L_gtr rfl rfl rfl (L_pick (v:=Bo ((((decide ((m.sizes.length : Int) < 1)) || (decide ((m.sizes.length : Int) > 5))) || (decide (n_8 > 12))) || (decide ((m.rules.length : Int) > 8)))) rfl rfl (or_f hc45 rfl) (nn (rj hR42 ⟨sf1,rfl,Z⟩))))))
 refine mF sf3 rfl (L_gtr rfl rfl rfl (L_pick (v:=Bo (((decide ((m.sizes.length : Int) < 1)) || (decide ((m.sizes.length : Int) > 5))) || (decide (n_8 > 12)))) rfl rfl (or_f hc44 rfl) (mB rfl (L_split (d:=53) (b:=(((decide ((m.sizes.length : Int) < 1)) || (decide ((m.sizes.length : Int) > 5))) || (decide (n_8 > 12)))) rfl (fun hc46=>?_) (fun hc46=>?_)))))
 refine ps rfl (ps rfl (ps rfl (ps rfl (L_pick (v:=Bo ((((decide ((m.sizes.length : Int) < 1)) || (decide ((m.sizes.length : Int) > 5))) || (decide (n_8 > 12))) || (decide ((m.rules.length : Int) > 8)))) rfl rfl (or_t hc46) (nn (rj hR42 ⟨sf1,rfl,Z⟩))))))
 refine fA 1 fa_25_1 sf1 rfl (ldB 0 Z Tryz.isAgg23 rfl rfl rfl (L_len rfl Tryz.underlying23 rfl (slice_len h0_1) (L_gtr rfl rfl rfl (L_pick (v:=Bo ((((decide ((m.sizes.length : Int) < 1)) || (decide ((m.sizes.length : Int) > 5))) || (decide (n_8 > 12))) || (decide ((m.rules.length : Int) > 8)))) rfl rfl (or_f hc46 rfl) (nn (rj hR42 ⟨sf1,rfl,Z⟩))))))
 refine fA 0 fa_25_0 sf1 rfl (ldB 0 Z Tryz.isAgg22 rfl rfl rfl (L_len rfl Tryz.underlying22 rfl (slice_len h0_0) (L_gtr rfl rfl rfl (L_pick (v:=Bo ((decide ((m.sizes.length : Int) < 1)) || (decide ((m.sizes.length : Int) > 5)))) rfl rfl (or_f hc43 rfl) (mB rfl (L_split (d:=49) (b:=((decide ((m.sizes.length : Int) < 1)) || (decide ((m.sizes.length : Int) > 5)))) rfl (fun hc47=>?_) (fun hc47=>?_)))))))
 refine ps rfl (ps rfl (L_pick (v:=Bo (((decide ((m.sizes.length : Int) < 1)) || (decide ((m.sizes.length : Int) > 5))) || (decide (n_8 > 12)))) rfl rfl (or_t hc47) (mB rfl (L_split (d:=53) (b:=(((decide ((m.sizes.length : Int) < 1)) || (decide ((m.sizes.length : Int) > 5))) || (decide (n_8 > 12)))) rfl (fun hc48=>?_) (fun hc48=>?_)))))
 refine ps rfl (ps rfl (ps rfl (ps rfl (L_pick (v:=Bo ((((decide ((m.sizes.length : Int) < 1)) || (decide ((m.sizes.length : Int) > 5))) || (decide (n_8 > 12))) || (decide ((m.rules.length : Int) > 8)))) rfl rfl (or_t hc48) (nn (rj hR42 ⟨sf1,rfl,Z⟩))))))
 refine fA 1 fa_25_1 sf1 rfl (ldB 0 Z Tryz.isAgg23 rfl rfl rfl (L_len rfl Tryz.underlying23 rfl (slice_len h0_1) (L_gtr rfl rfl rfl (L_pick (v:=Bo ((((decide ((m.sizes.length : Int) < 1)) || (decide ((m.sizes.length : Int) > 5))) || (decide (n_8 > 12))) || (decide ((m.rules.length : Int) > 8)))) rfl rfl (or_f hc48 rfl) (nn (rj hR42 ⟨sf1,rfl,Z⟩))))))
 refine mF sf3 rfl (L_gtr rfl rfl rfl (L_pick (v:=Bo (((decide ((m.sizes.length : Int) < 1)) || (decide ((m.sizes.length : Int) > 5))) || (decide (n_8 > 12)))) rfl rfl (or_f hc47 rfl) (mB rfl (L_split (d:=53) (b:=(((decide ((m.sizes.length : Int) < 1)) || (decide ((m.sizes.length : Int) > 5))) || (decide (n_8 > 12)))) rfl (fun hc49=>?_) (fun hc49=>?_)))))
 refine ps rfl (ps rfl (ps rfl (ps rfl (L_pick (v:=Bo ((((decide ((m.sizes.length : Int) < 1)) || (decide ((m.sizes.length : Int) > 5))) || (decide (n_8 > 12))) || (decide ((m.rules.length : Int) > 8)))) rfl rfl (or_t hc49) (nn (rj hR42 ⟨sf1,rfl,Z⟩))))))
 refine fA 1 fa_25_1 sf1 rfl (ldB 0 Z Tryz.isAgg23 rfl rfl rfl (L_len rfl Tryz.underlying23 rfl (slice_len h0_1) (L_gtr rfl rfl rfl (L_pick (v:=Bo ((((decide ((m.sizes.length : Int) < 1)) || (decide ((m.sizes.length : Int) > 5))) || (decide (n_8 > 12))) || (decide ((m.rules.length : Int) > 8)))) rfl rfl (or_f hc49 rfl) (nn (rj hR42 ⟨sf1,rfl,Z⟩))))))
 intro f w_ hR
 obtain ⟨sf1,sf58,Z⟩:=rk hR42 hR
 refine W_cond (b:=((((decide ((m.sizes.length : Int) < 1)) || (decide ((m.sizes.length : Int) > 5))) || (decide (n_8 > 12))) || (decide ((m.rules.length : Int) > 8)))) sf58 (fun hc50=>?_) (fun hc50=>?_)
 have hF:=(ite_t hc50).symm.trans hF
 refine sq (aB rfl (nn (W_ret (retG1 (v1:=Bo false) Tryz.results16 rfl ?_))))
 obtain rfl:=so hF
 exact ⟨rfl,(Star.keepN 0 Z)⟩
 have hF:=(ite_f hc50).symm.trans hF
 refine W_skip (W_seq (sq (aI rfl (nn ?_))))
 have hlen54 : List.length m.rules≤9223372036854775807:=len_le (slice_len h0_1)
 obtain ⟨j54,hL54,hF⟩:=bind_some hF
 obtain ⟨R54,hR54⟩:=exR fun f w_=>∃ H52 : FH,j54 = .nx ()∧Le H H52∧Star H52 w_ ([])
 refine W_join R54 ?_ ?_
 refine W_block ?_
 obtain ⟨I54,hI54⟩:=exI fun n f w_=>∃ i_51 : Nat,∃ suf54 : List Rule,∃ H52 : FH,n = suf54.length∧List.drop i_51 m.rules = suf54∧i_51 + suf54.length = m.rules.length∧rangeL (s_ModelValid_b2 m) suf54 i_51 () = some j54∧Le H H52∧f 1 = Pt g3∧f 5 = I i_51∧Star H52 w_ ([box g3 25 #[v0_0,v0_1]])
 refine W_loop I54 (n:=m.rules.length) ?_ ?_
 exact ij hI54 ⟨0,m.rules,H,rfl,rfl,Nat.zero_add _,hL54,(Le.refl _),sf1,rfl,Z⟩
 intro n54 f w_ hI
 obtain ⟨i_51,suf54,H52,rfl,hd54,hl54,hL54,l53,sf1,sf5,Z⟩:=ik hI54 hI
 refine W_seq (sq (mF sf5 rfl (fA 1 fa_25_1 sf1 rfl (ldB 0 Z Tryz.isAgg23 rfl rfl rfl (L_len rfl Tryz.underlying23 rfl (slice_len (RP.mono _ h0_1 l53)) (L_lss rfl rfl rfl (nn (W_cond (b:=decide ((i_51 : Int) < (m.rules.length : Int))) rfl (fun hc55=>?_) (fun hc55=>?_)))))))))
 have hlt54:=of_decide_eq_true hc55
 rcases suf54 with _ | ⟨x_54,rest54⟩
 exact absurd hlt54 (by simp at hl54; omega)
 obtain ⟨o54,hB54,hL54⟩:=range_cons hL54
 rw [s_ModelValid_b2] at hB54
 have hix54:=drop_idx hd54
 refine W_skip (W_seq (W_block (W_seq ?_)))
 obtain ⟨x65,hx65,hB54⟩:=bind_some hB54
 refine W_drawS 6 [isV (.agg #[v0_0,v0_1]),isV (Pq g3 1),isV (v0_1),isV (I i_51),isEl (rRule 3 22) x_54 0,exD (isData (rS 3 RP.int) x_54.vars) fun u_1=>exD (isData (rS 3 RP.int) x_54.coefs) fun u_2=>exD (isData (rS 22 (rS 3 RP.int)) x_54.rows) fun u_4=>isV (.agg #[I x_54.kind,u_1,u_2,I x_54.bound,u_4])] [box g3 25 #[v0_0,v0_1]] [] ([]) [([],[]),([],[]),([],[]),([],[]),([],[]),([],[])] (S:=[]) Tryz_mix (by kernel_rfl) rfl (by kernel_rfl) (amF_cons (mono_V _) (amF_cons (mono_V _) (amF_cons (mono_V _) (amF_cons (mono_V _) (amF_cons (mono_el _ _ _) (amF_cons (mono_exD (mono_data _ _) fun _=>mono_exD (mono_data _ _) fun _=>mono_exD (mono_data _ _) fun _=>mono_V _) amF_nil)))))) Z ?_ (fun f w_ H67 hS67 hE67 hT67 Z=>?_)
 refine opsS_cons (fun f w_ _ _ s _ _ Z=>L_lda (cs:=[v0_0,v0_1]) rfl Tryz.isAgg25 Tryz.sizeOf25 ((s 1 rfl).trans sf1) (At.sub0 (Blk.at (Star.blkAt 0 Z rfl)) 0 2) rfl (nO rfl rfl Z)) (opsS_cons (fun f w_ _ _ s _ _ Z=>fA 1 fa_25_1 ((s 1 rfl).trans sf1) rfl (nO rfl rfl Z)) (opsS_cons (fun f w_ _ _ _ _ p Z=>ldB 0 Z Tryz.isAgg23 (p 1 67 rfl rfl) rfl rfl (nO rfl rfl Z)) (opsS_cons (fun f w_ _ _ s _ _ Z=>mF ((s 5 rfl).trans sf5) rfl (nO rfl rfl Z)) (opsS_cons ?_ ?_))))
 intro f w_ H67 X67 hS67 hE67 hP67 Z
 refine L_ix (r:=(rRule 3 22)) rfl Tryz.underlying23 Tryz.sizeOf49 (hP67 2 68 rfl rfl) (RP.mono _ h0_1 (Le.trans l53 hE67)) (hP67 3 69 rfl rfl) hix54 (fun g72 o73 cs_g72 hrk_hat74 hat74=>?_)
 obtain ⟨u75_0,u75_1,u75_2,rfl,hu75_0,hu75_1,hu75_2⟩:=rRule_iff.1 hrk_hat74
 exact L_nil ⟨rfl,_,_,rfl,Le.refl _,fun _ _=>⟨_,_,_,rfl,hrk_hat74,hat74⟩,Z⟩
 refine opsS_cons ?_ ?_
 intro f w_ H67 X67 hS67 hE67 hP67 Z
 obtain ⟨g76,o76,cs76,hv76,hrk_hat76,hat76⟩:=(hP67 4 70 rfl rfl)
 obtain ⟨u77_0,u77_1,u77_2,rfl,hu77_0,hu77_1,hu77_2⟩:=rRule_iff.1 hrk_hat76
 refine L_lda (cs:=[I x_54.kind,u77_0,u77_1,I x_54.bound,u77_2]) rfl Tryz.isAgg49 Tryz.sizeOf49 hv76 (At.sub (AtH.at hat76 Z.sub) 0 5) rfl (L_nil ⟨rfl,_,_,rfl,Le.refl _,fun _ _=>⟨_,hu77_0,_,hu77_1,_,hu77_2,rfl⟩,Z⟩)
 exact opsS_nil
 obtain ⟨u78_1,hu78_1,u78_2,hu78_2,u78_4,hu78_4,hv78⟩:=(hT67 5 71 rfl rfl)
 obtain ⟨H79b,l80,s81,z82,k83⟩:=Z.borrow
 refine L_call rfl Tryz.call50 (ops2 (hT67 0 66 rfl rfl) hv78) (s_l6Rule_c (m:=m) (r_:=x_54) s81 (RP.mono _ h0_0 (Le.trans (Le.trans l53 hE67) l80)) (RP.mono _ h0_1 (Le.trans (Le.trans l53 hE67) l80)) (RP.mono _ hu78_1 l80) (RP.mono _ hu78_2 l80) (RP.mono _ hu78_4 l80) hx65) ?_
 rintro _ w84 ⟨rfl,Z⟩
 have Z:=k83 Z c0
 refine L_not_ rfl rfl (nn (W_cond (b:=(!x65)) rfl (fun hc85=>?_) (fun hc85=>?_)))
 have hB54:=(ite_t hc85).symm.trans hB54
 refine sq (aB rfl (nn (W_ret (retG1 (v1:=Bo false) Tryz.results16 rfl ?_))))
 obtain rfl:=so hB54
 obtain rfl:=so hL54
 obtain rfl:=so hF
 exact ⟨rfl,(Star.down (Star.keepN 0 Z) (Le.trans l53 hE67) c0)⟩
 have hB54:=(ite_f hc85).symm.trans hB54
 refine W_skip (W_region (mF ((hS67 5 rfl).trans sf5) rfl (L_add rfl rfl rfl (aI rfl (nn ?_)))))
 obtain rfl:=so hB54
 show ∃ m,m < _∧I54 m _ _
 refine ⟨rest54.length,by simp,?_⟩
 exact ij hI54 ⟨i_51 + 1,rest54,H67,rfl,drop_next hd54,by simp at hl54; omega,hL54,(Le.trans l53 hE67),((hS67 1 rfl).trans sf1),(Eq.trans rfl (congrArg (Value.int .i64) (i64_succ (n:=m.rules.length) (by simp at hl54; omega) hlen54))),Z⟩
 rcases suf54 with _ | ⟨_,_⟩
 obtain rfl:=range_nil hL54
 refine W_exit (rj hR54 ⟨H52,rfl,l53,(Star.keepN 0 Z)⟩)
 exact absurd (of_decide_eq_false hc55) (by simp at hl54; omega)
 intro f w_ hR
 obtain ⟨H52,rfl,l53,Z⟩:=rk hR54 hR
 refine sq (aB rfl (nn (W_ret (retG1 (v1:=Bo true) Tryz.results16 rfl ?_))))
 obtain rfl:=so hF
 exact ⟨rfl,(Star.down Z l53 c0)⟩
theorem s_l17Dec_F_c {fu : Nat} {rec_ : Int→Option ByteArray} (hrec : ∀ {n_ : Int} {H : FH} {w : World} (Z : Star H w []) {r : ByteArray} (hF : rec_ n_ = some r),C Tryz.prog 86 #[I n_] w fun v w'=>v = .string r∧Star H w' []) {n_ : Int} {H : FH} {w : World} (Z : Star H w []) {r : ByteArray} (hF : s_l17Dec_F fu rec_ n_ = some r) :
 C Tryz.prog 86 #[I n_] w fun v w'=>v = .string r∧Star H w' []:=by
 unfold s_l17Dec_F at hF
 refine C_enter Tryz.func86 rfl Tryz.ntmps86 rfl (sq (aV (.string (⟨#[]⟩ : ByteArray)) rfl (nq (sq (mI rfl (L_lss rfl rfl rfl (nn (W_cond (b:=decide (n_ < (-9223372036854775807))) rfl (fun hc1=>?_) (fun hc1=>?_)))))))))
 have hF:=(ite_t hc1).symm.trans hF
 refine sq (aV (.string (⟨#[45,57,50,50,51,51,55,50,48,51,54,56,53,52,55,55,53,56,48,56]⟩ : ByteArray)) rfl (nn (W_ret (retG1 (v1:=.string (⟨#[45,57,50,50,51,51,55,50,48,51,54,56,53,52,55,55,53,56,48,56]⟩ : ByteArray)) Tryz.results86 rfl ?_))))
 obtain rfl:=so hF
 exact ⟨rfl,Z⟩
 have hF:=(ite_f hc1).symm.trans hF
 refine W_skip (W_seq (sq (mI rfl (L_lss rfl rfl rfl (nn (W_cond (b:=decide (n_ < 0)) rfl (fun hc2=>?_) (fun hc2=>?_)))))))
 have hF:=(ite_t hc2).symm.trans hF
 refine W_seq ?_
 obtain ⟨x8,hx8,hF⟩:=bind_some hF
 obtain ⟨x10,hx10,hF⟩:=bind_some hF
 refine W_region (mI rfl (L_neg rfl rfl ?_))
 obtain ⟨H11b,l12,s13,z14,k15⟩:=Z.borrow
 refine L_call rfl Tryz.call86 (ops1 rfl) (hrec (n_:=i64 (-n_)) s13 hx8) ?_
 rintro _ w16 ⟨rfl,Z⟩
 have Z:=k15 Z c0
 obtain ⟨hx10_l,hx10_e⟩:=cat_some hx10
 refine L_sadd (s:=(⟨#[45]⟩ : ByteArray)) (s':=x8) rfl rfl rfl hx10_l ?_
 rw [← hx10_e]
 refine aV (.string x10) rfl (nn (W_ret (retG1 (v1:=.string x10) Tryz.results86 rfl ?_)))
 obtain rfl:=so hF
 exact ⟨rfl,Z⟩
 have hF:=(ite_f hc2).symm.trans hF
 refine W_skip (sq (aV (.string (⟨#[]⟩ : ByteArray)) rfl (nq ?_)))
 obtain ⟨j20,hL20,hF⟩:=bind_some hF
 obtain ⟨R20,hR20⟩:=exR fun f w_=>∃ n_18 : Int,∃ out_19 : ByteArray,j20 = .nx (n_18,out_19)∧f 0 = I n_18∧f 3 = .string out_19∧Star H w_ ([])
 refine W_join R20 ?_ ?_
 refine W_block ?_
 obtain ⟨I20,hI20⟩:=exI fun n f w_=>∃ n_18 : Int,∃ out_19 : ByteArray,whileL s_l17Dec_b1 n (n_18,out_19) = some j20∧f 0 = I n_18∧f 3 = .string out_19∧Star H w_ ([])
 refine W_loop I20 (n:=fu) ?_ ?_
 exact ij hI20 ⟨n_,(⟨#[]⟩ : ByteArray),hL20,rfl,rfl,Z⟩
 intro n20 f w_ hI
 obtain ⟨n_18,out_19,hL20,sf0,sf3,Z⟩:=ik hI20 hI
 rcases n20 with _ | n20
 exact (while_zero hL20).elim
 obtain ⟨o20,hB20,hL20⟩:=while_succ hL20
 rw [s_l17Dec_b1] at hB20
 refine W_seq (sq (mF sf0 rfl (L_gtr rfl rfl rfl (nn (W_cond (b:=decide (n_18 > 9)) rfl (fun hc21=>?_) (fun hc21=>?_))))))
 have hB20:=(ite_t hc21).symm.trans hB20
 refine W_skip (W_block (W_seq ?_))
 obtain ⟨x25,hx25,hB20⟩:=bind_some hB20
 refine W_region (mF sf0 rfl (L_rem (m:=n_18) (n:=10) rfl rfl rfl (by decide) (L_add rfl rfl rfl (L_cv8 (n:=i64 (48 + (Int.tmod n_18 10))) rfl rfl ⟨_,Tryz.underlying3⟩ Tryz.underlying5 (L_bs rfl (parts1 rfl) (bs_31_1_0 (.int .u8 ((u8w (i64 (48 + (Int.tmod n_18 10)))).toNat : Int)) rfl) Z (fun g26 w27 Z=>?_))))))
 have Z:=Star.addF (r:=RP.u8) (cs:=[.int .u8 ((u8w (i64 (48 + (Int.tmod n_18 10)))).toNat : Int)]) (x:=(u8w (i64 (48 + (Int.tmod n_18 10))))) Z rfl
 have Z:=Star.mkRow (R:=(OR.frz RP.u8)) [([.int .u8 ((u8w (i64 (48 + (Int.tmod n_18 10)))).toNat : Int)],(u8w (i64 (48 + (Int.tmod n_18 10)))))] [(u8w (i64 (48 + (Int.tmod n_18 10))))] 1 Z rfl rfl rfl (by decide)
 refine L_cvs (xs:=[(u8w (i64 (48 + (Int.tmod n_18 10))))]) 0 rfl Tryz.underlying31 Tryz.underlying5 Tryz.underlying9 rfl Z rfl (by simp) (mF sf3 rfl ?_)
 obtain ⟨hx25_l,hx25_e⟩:=cat_some hx25
 refine L_sadd (s:=(bs [(u8w (i64 (48 + (Int.tmod n_18 10))))])) (s':=out_19) rfl rfl rfl hx25_l ?_
 rw [← hx25_e]
 refine aV (.string x25) rfl (nn (W_region (mF sf0 rfl (L_quo (m:=n_18) (n:=10) rfl rfl rfl (by decide) (aI rfl (nn ?_))))))
 obtain rfl:=so hB20
 show ∃ m,m < _∧I20 m _ _
 refine ⟨n20,Nat.lt_succ_self _,?_⟩
 exact ij hI20 ⟨i64 (Int.tdiv n_18 10),x25,hL20,rfl,rfl,(Star.keepN 0 Z)⟩
 have hB20:=(ite_f hc21).symm.trans hB20
 refine W_exit ?_
 obtain rfl:=so hB20
 obtain rfl:=so hL20
 exact rj hR20 ⟨n_18,out_19,rfl,sf0,sf3,Z⟩
 intro f w_ hR
 obtain ⟨n_18,out_19,rfl,sf0,sf3,Z⟩:=rk hR20 hR
 refine W_seq ?_
 obtain ⟨x32,hx32,hF⟩:=bind_some hF
 refine W_region (mF sf0 rfl (L_add rfl rfl rfl (L_cv8 (n:=i64 (48 + n_18)) rfl rfl ⟨_,Tryz.underlying3⟩ Tryz.underlying5 (L_bs rfl (parts1 rfl) (bs_31_1_0 (.int .u8 ((u8w (i64 (48 + n_18))).toNat : Int)) rfl) Z (fun g33 w34 Z=>?_)))))
 have Z:=Star.addF (r:=RP.u8) (cs:=[.int .u8 ((u8w (i64 (48 + n_18))).toNat : Int)]) (x:=(u8w (i64 (48 + n_18)))) Z rfl
 have Z:=Star.mkRow (R:=(OR.frz RP.u8)) [([.int .u8 ((u8w (i64 (48 + n_18))).toNat : Int)],(u8w (i64 (48 + n_18))))] [(u8w (i64 (48 + n_18)))] 1 Z rfl rfl rfl (by decide)
 refine L_cvs (xs:=[(u8w (i64 (48 + n_18)))]) 0 rfl Tryz.underlying31 Tryz.underlying5 Tryz.underlying9 rfl Z rfl (by simp) (mF sf3 rfl ?_)
 obtain ⟨hx32_l,hx32_e⟩:=cat_some hx32
 refine L_sadd (s:=(bs [(u8w (i64 (48 + n_18)))])) (s':=out_19) rfl rfl rfl hx32_l ?_
 rw [← hx32_e]
 refine aV (.string x32) rfl (nn (W_ret (retG1 (v1:=.string x32) Tryz.results86 rfl ?_)))
 obtain rfl:=so hF
 exact ⟨rfl,(Star.keepN 0 Z)⟩
theorem s_l17Dec_R_c {fu : Nat} : ∀ (n : Nat) {n_ : Int} {H : FH} {w : World} (Z : Star H w []) {r : ByteArray} (hF : s_l17Dec_R fu n n_ = some r),C Tryz.prog 86 #[I n_] w fun v w'=>v = .string r∧Star H w' []:=by
 intro n
 induction n with
 | zero=>intros; rename_i hF; cases hF
 | succ n ih=>intros; rename_i Z _ hF; exact s_l17Dec_F_c ih Z hF
theorem s_l17Dec_c {fu : Nat} {n_ : Int} {H : FH} {w : World} (Z : Star H w []) {r : ByteArray} (hF : s_l17Dec fu n_ = some r) :
 C Tryz.prog 86 #[I n_] w fun v w'=>v = .string r∧Star H w' []:=s_l17Dec_R_c fu Z hF
theorem s_l6Digits_c {fu : Nat} {list : List Int} {v0 : Value} {H : FH} {w : World} (Z : Star H w []) (h0 : (rS 3 RP.int).rel H [v0] list) {r : ByteArray} (hF : s_l6Digits fu list = some r) :
 C Tryz.prog 44 #[v0] w fun v w'=>v = .string r∧Star H w' []:=by
 unfold s_l6Digits at hF
 refine C_enter Tryz.func44 rfl Tryz.ntmps44 rfl (sq (aV (.string (⟨#[]⟩ : ByteArray)) rfl (ns (aV (.string (⟨#[]⟩ : ByteArray)) rfl (nq (sq (aI rfl (nn ?_))))))))
 have hlen3 : List.length list≤9223372036854775807:=len_le (slice_len h0)
 obtain ⟨j3,hL3,hF⟩:=bind_some hF
 obtain ⟨R3,hR3⟩:=exR fun f w_=>∃ out_2 : ByteArray,j3 = .nx out_2∧f 3 = .string out_2∧Star H w_ ([])
 refine W_join R3 ?_ ?_
 refine W_block ?_
 obtain ⟨I3,hI3⟩:=exI fun n f w_=>∃ i_1 : Nat,∃ suf3 : List Int,∃ out_2 : ByteArray,n = suf3.length∧List.drop i_1 list = suf3∧i_1 + suf3.length = list.length∧rangeL (s_l6Digits_b1 fu) suf3 i_1 out_2 = some j3∧f 0 = v0∧f 3 = .string out_2∧f 4 = I i_1∧Star H w_ ([])
 refine W_loop I3 (n:=list.length) ?_ ?_
 exact ij hI3 ⟨0,list,(⟨#[]⟩ : ByteArray),rfl,rfl,Nat.zero_add _,hL3,rfl,rfl,rfl,Z⟩
 intro n3 f w_ hI
 obtain ⟨i_1,suf3,out_2,rfl,hd3,hl3,hL3,sf0,sf3,sf4,Z⟩:=ik hI3 hI
 refine W_seq (sq (mF sf4 rfl (mF sf0 rfl (L_len rfl Tryz.underlying22 rfl (slice_len h0) (L_lss rfl rfl rfl (nn (W_cond (b:=decide ((i_1 : Int) < (list.length : Int))) rfl (fun hc4=>?_) (fun hc4=>?_))))))))
 have hlt3:=of_decide_eq_true hc4
 rcases suf3 with _ | ⟨x_3,rest3⟩
 exact absurd hlt3 (by simp at hl3; omega)
 obtain ⟨o3,hB3,hL3⟩:=range_cons hL3
 rw [s_l6Digits_b1] at hB3
 have hix3:=drop_idx hd3
 refine W_skip (W_seq (W_block ?_))
 obtain ⟨x14,hx14,hB3⟩:=bind_some hB3
 obtain ⟨x16,hx16,hB3⟩:=bind_some hB3
 refine W_region (mF sf3 rfl (mF sf0 rfl (mF sf4 rfl (L_ix (r:=RP.int) rfl Tryz.underlying22 Tryz.sizeOf3 rfl h0 rfl hix3 (fun g17 o18 cs_g17 hrk_hat19 hat19=>?_)))))
 obtain rfl : _ = [_]:=hrk_hat19
 refine L_ld rfl Tryz.isAgg3 rfl (At.cell (AtH.at hat19 Z.sub) (j:=0) rfl) ?_
 obtain ⟨H21b,l22,s23,z24,k25⟩:=Z.borrow
 refine L_call rfl Tryz.call86 (ops1 rfl) (s_l17Dec_c (n_:=x_3) s23 hx14) ?_
 rintro _ w26 ⟨rfl,Z⟩
 have Z:=k25 Z c0
 obtain ⟨hx16_l,hx16_e⟩:=cat_some hx16
 refine L_sadd (s:=out_2) (s':=x14) rfl rfl rfl hx16_l ?_
 rw [← hx16_e]
 refine aV (.string x16) rfl (nn (W_region (mF sf4 rfl (L_add rfl rfl rfl (aI rfl (nn ?_))))))
 obtain rfl:=so hB3
 show ∃ m,m < _∧I3 m _ _
 refine ⟨rest3.length,by simp,?_⟩
 exact ij hI3 ⟨i_1 + 1,rest3,x16,rfl,drop_next hd3,by simp at hl3; omega,hL3,sf0,rfl,(Eq.trans rfl (congrArg (Value.int .i64) (i64_succ (n:=list.length) (by simp at hl3; omega) hlen3))),Z⟩
 rcases suf3 with _ | ⟨_,_⟩
 obtain rfl:=range_nil hL3
 refine W_exit (rj hR3 ⟨out_2,rfl,sf3,Z⟩)
 exact absurd (of_decide_eq_false hc4) (by simp at hl3; omega)
 intro f w_ hR
 obtain ⟨out_2,rfl,sf3,Z⟩:=rk hR3 hR
 refine sq (mF sf3 rfl (aV (.string out_2) rfl (nn (W_ret (retG1 (v1:=.string out_2) Tryz.results44 rfl ?_)))))
 obtain rfl:=so hF
 exact ⟨rfl,Z⟩
theorem s_l6Signed_c {fu : Nat} {n_ : Int} {H : FH} {w : World} (Z : Star H w []) {r : ByteArray} (hF : s_l6Signed fu n_ = some r) :
 C Tryz.prog 87 #[I n_] w fun v w'=>v = .string r∧Star H w' []:=by
 unfold s_l6Signed at hF
 refine C_enter Tryz.func87 rfl Tryz.ntmps87 rfl (sq (aV (.string (⟨#[]⟩ : ByteArray)) rfl (nq (sq (mI rfl (L_lss rfl rfl rfl (nn (W_cond (b:=decide (n_ < 0)) rfl (fun hc1=>?_) (fun hc1=>?_)))))))))
 have hF:=(ite_t hc1).symm.trans hF
 refine W_seq ?_
 obtain ⟨x7,hx7,hF⟩:=bind_some hF
 obtain ⟨x9,hx9,hF⟩:=bind_some hF
 refine W_region (mI rfl (L_neg rfl rfl ?_))
 obtain ⟨H10b,l11,s12,z13,k14⟩:=Z.borrow
 refine L_call rfl Tryz.call86 (ops1 rfl) (s_l17Dec_c (n_:=i64 (-n_)) s12 hx7) ?_
 rintro _ w15 ⟨rfl,Z⟩
 have Z:=k14 Z c0
 obtain ⟨hx9_l,hx9_e⟩:=cat_some hx9
 refine L_sadd (s:=(⟨#[45]⟩ : ByteArray)) (s':=x7) rfl rfl rfl hx9_l ?_
 rw [← hx9_e]
 refine aV (.string x9) rfl (nn (W_ret (retG1 (v1:=.string x9) Tryz.results87 rfl ?_)))
 obtain rfl:=so hF
 exact ⟨rfl,Z⟩
 have hF:=(ite_f hc1).symm.trans hF
 refine W_skip (W_seq ?_)
 obtain ⟨x21,hx21,hF⟩:=bind_some hF
 refine W_region (mI rfl ?_)
 obtain ⟨H23b,l24,s25,z26,k27⟩:=Z.borrow
 refine L_call rfl Tryz.call86 (ops1 rfl) (s_l17Dec_c (n_:=n_) s25 hx21) ?_
 rintro _ w28 ⟨rfl,Z⟩
 have Z:=k27 Z c0
 refine aV (.string x21) rfl (nn (W_ret (retG1 (v1:=.string x21) Tryz.results87 rfl ?_)))
 obtain rfl:=so hF
 exact ⟨rfl,Z⟩
theorem s_l6Line_c {fu : Nat} {r_ : Rule} {v0_1 : Value} {v0_2 : Value} {v0_4 : Value} {H : FH} {w : World} (Z : Star H w []) (h0_1 : (rS 3 RP.int).rel H [v0_1] r_.vars) (h0_2 : (rS 3 RP.int).rel H [v0_2] r_.coefs) (h0_4 : (rS 22 (rS 3 RP.int)).rel H [v0_4] r_.rows) {r : ByteArray} (hF : s_l6Line fu r_ = some r) :
 C Tryz.prog 45 #[.agg #[I r_.kind,v0_1,v0_2,I r_.bound,v0_4]] w fun v w'=>v = .string r∧Star H w' []:=by
 unfold s_l6Line at hF
 refine C_enter Tryz.func45 rfl Tryz.ntmps45 rfl (sq (L_box (v:=.agg #[I r_.kind,v0_1,v0_2,I r_.bound,v0_4]) (cs:=#[I r_.kind,v0_1,v0_2,I r_.bound,v0_4]) rfl rfl rfl Z (fun g3 w4 Z=>aV (.string (⟨#[]⟩ : ByteArray)) rfl (nq (sq (fA 0 fa_49_0 rfl rfl (ldB 0 Z Tryz.isAgg3 rfl rfl rfl (nn (W_block (sq (L_eql rfl rfl rfl (aB rfl (nn (W_cond (b:=(r_.kind == 1)) rfl (fun hc5=>?_) (fun hc5=>?_)))))))))))))))
 have hF:=(ite_t hc5).symm.trans hF
 refine sq (aV (.string (⟨#[108,105,110,101,97,114]⟩ : ByteArray)) rfl (nq (sq (aI rfl (nn ?_)))))
 have hlen10 : List.length r_.vars≤9223372036854775807:=len_le (slice_len h0_1)
 obtain ⟨j10,hL10,hF⟩:=bind_some hF
 obtain ⟨R10,hR10⟩:=exR fun f w_=>∃ out_7 : ByteArray,∃ H8 : FH,j10 = .nx out_7∧Le H H8∧f 1 = Pt g3∧f 3 = .string out_7∧Star H8 w_ ([box g3 49 #[I r_.kind,v0_1,v0_2,I r_.bound,v0_4]])
 refine W_join R10 ?_ ?_
 refine W_block ?_
 obtain ⟨I10,hI10⟩:=exI fun n f w_=>∃ i_6 : Nat,∃ suf10 : List Int,∃ out_7 : ByteArray,∃ H8 : FH,n = suf10.length∧List.drop i_6 r_.vars = suf10∧i_6 + suf10.length = r_.vars.length∧rangeL (s_l6Line_b1 fu r_) suf10 i_6 out_7 = some j10∧Le H H8∧f 1 = Pt g3∧f 3 = .string out_7∧f 4 = I i_6∧Star H8 w_ ([box g3 49 #[I r_.kind,v0_1,v0_2,I r_.bound,v0_4]])
 refine W_loop I10 (n:=r_.vars.length) ?_ ?_
 exact ij hI10 ⟨0,r_.vars,(⟨#[108,105,110,101,97,114]⟩ : ByteArray),H,rfl,rfl,Nat.zero_add _,hL10,(Le.refl _),rfl,rfl,rfl,Z⟩
 intro n10 f w_ hI
 obtain ⟨i_6,suf10,out_7,H8,rfl,hd10,hl10,hL10,l9,sf1,sf3,sf4,Z⟩:=ik hI10 hI
 refine W_seq (sq (mF sf4 rfl (fA 1 fa_49_1 sf1 rfl (ldB 0 Z Tryz.isAgg22 rfl rfl rfl (L_len rfl Tryz.underlying22 rfl (slice_len (RP.mono _ h0_1 l9)) (L_lss rfl rfl rfl (nn (W_cond (b:=decide ((i_6 : Int) < (r_.vars.length : Int))) rfl (fun hc11=>?_) (fun hc11=>?_)))))))))
 have hlt10:=of_decide_eq_true hc11
 rcases suf10 with _ | ⟨x_10,rest10⟩
 exact absurd hlt10 (by simp at hl10; omega)
 obtain ⟨o10,hB10,hL10⟩:=range_cons hL10
 rw [s_l6Line_b1] at hB10
 have hix10:=drop_idx hd10
 refine W_skip (W_seq (W_block ?_))
 obtain ⟨x12,hx12,hB10⟩:=bind_some hB10
 obtain ⟨x13,hx13,hB10⟩:=bind_some hB10
 obtain ⟨x23,hx23,hB10⟩:=bind_some hB10
 obtain ⟨x25,hx25,hB10⟩:=bind_some hB10
 obtain ⟨x26,hx26,hB10⟩:=bind_some hB10
 obtain ⟨x36,hx36,hB10⟩:=bind_some hB10
 obtain ⟨x38,hx38,hB10⟩:=bind_some hB10
 refine W_drawS 16 [isV (.string out_7),isV (.string x12),isV (Pq g3 2),isV (v0_2),isV (I i_6),isEl RP.int x13 0,isV (I x13),isV (.string x23),isV (.string x25),isV (.string x26),isV (Pq g3 1),isV (v0_1),isV (I i_6),isEl RP.int x_10 0,isV (I x_10),isV (.string x36)] [box g3 49 #[I r_.kind,v0_1,v0_2,I r_.bound,v0_4]] [] ([]) [([],[]),([],[]),([],[]),([],[]),([],[]),([],[]),([],[]),([],[]),([],[]),([],[]),([],[]),([],[]),([],[]),([],[]),([],[]),([],[])] (S:=[]) Tryz_mix (by kernel_rfl) rfl (by kernel_rfl) (amF_cons (mono_V _) (amF_cons (mono_V _) (amF_cons (mono_V _) (amF_cons (mono_V _) (amF_cons (mono_V _) (amF_cons (mono_el _ _ _) (amF_cons (mono_V _) (amF_cons (mono_V _) (amF_cons (mono_V _) (amF_cons (mono_V _) (amF_cons (mono_V _) (amF_cons (mono_V _) (amF_cons (mono_V _) (amF_cons (mono_el _ _ _) (amF_cons (mono_V _) (amF_cons (mono_V _) amF_nil)))))))))))))))) Z ?_ (fun f w_ H39 hS39 hE39 hT39 Z=>?_)
 refine opsS_cons (fun f w_ _ _ s _ _ Z=>mF ((s 3 rfl).trans sf3) rfl (nO rfl rfl Z)) (opsS_cons ?_ ?_)
 intro f w_ H39 X39 hS39 hE39 hP39 Z
 obtain ⟨hx12_l,hx12_e⟩:=cat_some hx12
 refine L_sadd (s:=out_7) (s':=(⟨#[32]⟩ : ByteArray)) rfl (hP39 0 18 rfl rfl) rfl hx12_l ?_
 rw [← hx12_e]
 exact L_nil ⟨rfl,_,_,rfl,Le.refl _,fun _ _=>rfl,Z⟩
 refine opsS_cons (fun f w_ _ _ s _ _ Z=>fA 2 fa_49_2 ((s 1 rfl).trans sf1) rfl (nO rfl rfl Z)) (opsS_cons (fun f w_ _ _ _ _ p Z=>ldB 0 Z Tryz.isAgg22 (p 2 20 rfl rfl) rfl rfl (nO rfl rfl Z)) (opsS_cons (fun f w_ _ _ s _ _ Z=>mF ((s 4 rfl).trans sf4) rfl (nO rfl rfl Z)) (opsS_cons ?_ ?_)))
 intro f w_ H39 X39 hS39 hE39 hP39 Z
 refine L_ix (r:=RP.int) rfl Tryz.underlying22 Tryz.sizeOf3 (hP39 3 21 rfl rfl) (RP.mono _ h0_2 (Le.trans l9 hE39)) (hP39 4 22 rfl rfl) hx13 (fun g60 o61 cs_g60 hrk_hat62 hat62=>?_)
 obtain rfl : _ = [_]:=hrk_hat62
 exact L_nil ⟨rfl,_,_,rfl,Le.refl _,fun _ _=>⟨_,_,_,rfl,rfl,hat62⟩,Z⟩
 refine opsS_cons ?_ ?_
 intro f w_ H39 X39 hS39 hE39 hP39 Z
 obtain ⟨g64,o64,cs64,hv64,hrk_hat64,hat64⟩:=(hP39 5 23 rfl rfl)
 obtain rfl : _ = [_]:=hrk_hat64
 refine L_ld rfl Tryz.isAgg3 hv64 (At.cell (AtH.at hat64 Z.sub) (j:=0) rfl) (L_nil ⟨rfl,_,_,rfl,Le.refl _,fun _ _=>rfl,Z⟩)
 refine opsS_cons ?_ ?_
 intro f w_ H39 X39 hS39 hE39 hP39 Z
 obtain ⟨H66b,l67,s68,z69,k70⟩:=Z.borrow
 refine L_call rfl Tryz.call87 (ops1 (hP39 6 24 rfl rfl)) (s_l6Signed_c (n_:=x13) s68 hx23) ?_
 rintro _ w71 ⟨rfl,Z⟩
 have Z:=k70 Z c0
 exact L_nil ⟨rfl,_,_,rfl,Le.refl _,fun _ _=>rfl,Z⟩
 refine opsS_cons ?_ ?_
 intro f w_ H39 X39 hS39 hE39 hP39 Z
 obtain ⟨hx25_l,hx25_e⟩:=cat_some hx25
 refine L_sadd (s:=x12) (s':=x23) rfl (hP39 1 19 rfl rfl) (hP39 7 25 rfl rfl) hx25_l ?_
 rw [← hx25_e]
 exact L_nil ⟨rfl,_,_,rfl,Le.refl _,fun _ _=>rfl,Z⟩
 refine opsS_cons ?_ ?_
 intro f w_ H39 X39 hS39 hE39 hP39 Z
 obtain ⟨hx26_l,hx26_e⟩:=cat_some hx26
 refine L_sadd (s:=x25) (s':=(⟨#[32]⟩ : ByteArray)) rfl (hP39 8 26 rfl rfl) rfl hx26_l ?_
 rw [← hx26_e]
 exact L_nil ⟨rfl,_,_,rfl,Le.refl _,fun _ _=>rfl,Z⟩
 refine opsS_cons (fun f w_ _ _ s _ _ Z=>fA 1 fa_49_1 ((s 1 rfl).trans sf1) rfl (nO rfl rfl Z)) (opsS_cons (fun f w_ _ _ _ _ p Z=>ldB 0 Z Tryz.isAgg22 (p 10 28 rfl rfl) rfl rfl (nO rfl rfl Z)) (opsS_cons (fun f w_ _ _ s _ _ Z=>mF ((s 4 rfl).trans sf4) rfl (nO rfl rfl Z)) (opsS_cons ?_ ?_)))
 intro f w_ H39 X39 hS39 hE39 hP39 Z
 refine L_ix (r:=RP.int) rfl Tryz.underlying22 Tryz.sizeOf3 (hP39 11 29 rfl rfl) (RP.mono _ h0_1 (Le.trans l9 hE39)) (hP39 12 30 rfl rfl) hix10 (fun g72 o73 cs_g72 hrk_hat74 hat74=>?_)
 obtain rfl : _ = [_]:=hrk_hat74
 exact L_nil ⟨rfl,_,_,rfl,Le.refl _,fun _ _=>⟨_,_,_,rfl,rfl,hat74⟩,Z⟩
 refine opsS_cons ?_ ?_
 intro f w_ H39 X39 hS39 hE39 hP39 Z
 obtain ⟨g76,o76,cs76,hv76,hrk_hat76,hat76⟩:=(hP39 13 31 rfl rfl)
 obtain rfl : _ = [_]:=hrk_hat76
 refine L_ld rfl Tryz.isAgg3 hv76 (At.cell (AtH.at hat76 Z.sub) (j:=0) rfl) (L_nil ⟨rfl,_,_,rfl,Le.refl _,fun _ _=>rfl,Z⟩)
 refine opsS_cons ?_ ?_
 intro f w_ H39 X39 hS39 hE39 hP39 Z
 obtain ⟨H78b,l79,s80,z81,k82⟩:=Z.borrow
 refine L_call rfl Tryz.call86 (ops1 (hP39 14 32 rfl rfl)) (s_l17Dec_c (n_:=x_10) s80 hx36) ?_
 rintro _ w83 ⟨rfl,Z⟩
 have Z:=k82 Z c0
 exact L_nil ⟨rfl,_,_,rfl,Le.refl _,fun _ _=>rfl,Z⟩
 exact opsS_nil
 obtain ⟨hx38_l,hx38_e⟩:=cat_some hx38
 refine L_sadd (s:=x26) (s':=x36) rfl (hT39 9 27 rfl rfl) (hT39 15 33 rfl rfl) hx38_l ?_
 rw [← hx38_e]
 refine aV (.string x38) rfl (nn (W_region (mF ((hS39 4 rfl).trans sf4) rfl (L_add rfl rfl rfl (aI rfl (nn ?_))))))
 obtain rfl:=so hB10
 show ∃ m,m < _∧I10 m _ _
 refine ⟨rest10.length,by simp,?_⟩
 exact ij hI10 ⟨i_6 + 1,rest10,x38,H39,rfl,drop_next hd10,by simp at hl10; omega,hL10,(Le.trans l9 hE39),((hS39 1 rfl).trans sf1),rfl,(Eq.trans rfl (congrArg (Value.int .i64) (i64_succ (n:=r_.vars.length) (by simp at hl10; omega) hlen10))),Z⟩
 rcases suf10 with _ | ⟨_,_⟩
 obtain rfl:=range_nil hL10
 refine W_exit (rj hR10 ⟨out_7,H8,rfl,l9,sf1,sf3,Z⟩)
 exact absurd (of_decide_eq_false hc11) (by simp at hl10; omega)
 intro f w_ hR
 obtain ⟨out_7,H8,rfl,l9,sf1,sf3,Z⟩:=rk hR10 hR
 refine W_seq ?_
 obtain ⟨x84,hx84,hF⟩:=bind_some hF
 obtain ⟨x90,hx90,hF⟩:=bind_some hF
 obtain ⟨x92,hx92,hF⟩:=bind_some hF
 obtain ⟨x93,hx93,hF⟩:=bind_some hF
 refine W_region (mF sf3 rfl ?_)
 obtain ⟨hx84_l,hx84_e⟩:=cat_some hx84
 refine L_sadd (s:=out_7) (s':=(⟨#[32,62,61,32]⟩ : ByteArray)) rfl rfl rfl hx84_l ?_
 rw [← hx84_e]
 refine fA 3 fa_49_3 sf1 rfl (ldB 0 Z Tryz.isAgg3 rfl rfl rfl ?_)
 obtain ⟨H94b,l95,s96,z97,k98⟩:=Z.borrow
 refine L_call rfl Tryz.call87 (ops1 rfl) (s_l6Signed_c (n_:=r_.bound) s96 hx90) ?_
 rintro _ w99 ⟨rfl,Z⟩
 have Z:=k98 Z c0
 obtain ⟨hx92_l,hx92_e⟩:=cat_some hx92
 refine L_sadd (s:=x84) (s':=x90) rfl rfl rfl hx92_l ?_
 rw [← hx92_e]
 obtain ⟨hx93_l,hx93_e⟩:=cat_some hx93
 refine L_sadd (s:=x92) (s':=(⟨#[10]⟩ : ByteArray)) rfl rfl rfl hx93_l ?_
 rw [← hx93_e]
 refine aV (.string x93) rfl (nn (W_ret (retG1 (v1:=.string x93) Tryz.results45 rfl ?_)))
 obtain rfl:=so hF
 exact ⟨rfl,(Star.down (Star.keepN 0 Z) l9 c0)⟩
 have hF:=(ite_f hc5).symm.trans hF
 refine sq (L_eql rfl rfl rfl (aB rfl (nn (W_cond (b:=(r_.kind == 2)) rfl (fun hc100=>?_) (fun hc100=>?_)))))
 have hF:=(ite_t hc100).symm.trans hF
 refine W_seq ?_
 obtain ⟨x106,hx106,hF⟩:=bind_some hF
 obtain ⟨x108,hx108,hF⟩:=bind_some hF
 obtain ⟨x109,hx109,hF⟩:=bind_some hF
 refine W_region (fA 1 fa_49_1 rfl rfl (ldB 0 Z Tryz.isAgg22 rfl rfl rfl ?_))
 obtain ⟨H110b,l111,s112,z113,k114⟩:=Z.borrow
 refine L_call rfl Tryz.call44 (ops1 rfl) (s_l6Digits_c (list:=r_.vars) s112 (RP.mono _ h0_1 l111) hx106) ?_
 rintro _ w115 ⟨rfl,Z⟩
 have Z:=k114 Z c0
 obtain ⟨hx108_l,hx108_e⟩:=cat_some hx108
 refine L_sadd (s:=(⟨#[100,105,102,102,101,114,101,110,116,32]⟩ : ByteArray)) (s':=x106) rfl rfl rfl hx108_l ?_
 rw [← hx108_e]
 obtain ⟨hx109_l,hx109_e⟩:=cat_some hx109
 refine L_sadd (s:=x108) (s':=(⟨#[10]⟩ : ByteArray)) rfl rfl rfl hx109_l ?_
 rw [← hx109_e]
 refine aV (.string x109) rfl (nn (W_ret (retG1 (v1:=.string x109) Tryz.results45 rfl ?_)))
 obtain rfl:=so hF
 exact ⟨rfl,(Star.keepN 0 Z)⟩
 have hF:=(ite_f hc100).symm.trans hF
 refine sq (L_eql rfl rfl rfl (aB rfl (nn (W_cond (b:=(r_.kind == 4)) rfl (fun hc116=>?_) (fun hc116=>?_)))))
 have hF:=(ite_t hc116).symm.trans hF
 refine W_seq ?_
 obtain ⟨x122,hx122,hF⟩:=bind_some hF
 obtain ⟨x124,hx124,hF⟩:=bind_some hF
 obtain ⟨x125,hx125,hF⟩:=bind_some hF
 refine W_region (fA 1 fa_49_1 rfl rfl (ldB 0 Z Tryz.isAgg22 rfl rfl rfl ?_))
 obtain ⟨H126b,l127,s128,z129,k130⟩:=Z.borrow
 refine L_call rfl Tryz.call44 (ops1 rfl) (s_l6Digits_c (list:=r_.vars) s128 (RP.mono _ h0_1 l127) hx122) ?_
 rintro _ w131 ⟨rfl,Z⟩
 have Z:=k130 Z c0
 obtain ⟨hx124_l,hx124_e⟩:=cat_some hx124
 refine L_sadd (s:=(⟨#[108,101,115,115,32]⟩ : ByteArray)) (s':=x122) rfl rfl rfl hx124_l ?_
 rw [← hx124_e]
 obtain ⟨hx125_l,hx125_e⟩:=cat_some hx125
 refine L_sadd (s:=x124) (s':=(⟨#[10]⟩ : ByteArray)) rfl rfl rfl hx125_l ?_
 rw [← hx125_e]
 refine aV (.string x125) rfl (nn (W_ret (retG1 (v1:=.string x125) Tryz.results45 rfl ?_)))
 obtain rfl:=so hF
 exact ⟨rfl,(Star.keepN 0 Z)⟩
 have hF:=(ite_f hc116).symm.trans hF
 refine W_skip (W_seq ?_)
 obtain ⟨x137,hx137,hF⟩:=bind_some hF
 obtain ⟨x139,hx139,hF⟩:=bind_some hF
 refine W_region (fA 1 fa_49_1 rfl rfl (ldB 0 Z Tryz.isAgg22 rfl rfl rfl ?_))
 obtain ⟨H140b,l141,s142,z143,k144⟩:=Z.borrow
 refine L_call rfl Tryz.call44 (ops1 rfl) (s_l6Digits_c (list:=r_.vars) s142 (RP.mono _ h0_1 l141) hx137) ?_
 rintro _ w145 ⟨rfl,Z⟩
 have Z:=k144 Z c0
 obtain ⟨hx139_l,hx139_e⟩:=cat_some hx139
 refine L_sadd (s:=(⟨#[116,97,98,108,101,32]⟩ : ByteArray)) (s':=x137) rfl rfl rfl hx139_l ?_
 rw [← hx139_e]
 refine aV (.string x139) rfl (L_nil (W_seq (sq (aI rfl (nn ?_)))))
 have hlen148 : List.length r_.rows≤9223372036854775807:=len_le (slice_len h0_4)
 obtain ⟨j148,hL148,hF⟩:=bind_some hF
 obtain ⟨R148,hR148⟩:=exR fun f w_=>∃ out_147 : ByteArray,j148 = .nx out_147∧f 5 = .string out_147∧Star H w_ ([])
 refine W_join R148 ?_ ?_
 refine W_block ?_
 obtain ⟨I148,hI148⟩:=exI fun n f w_=>∃ i_146 : Nat,∃ suf148 : List (List Int),∃ out_147 : ByteArray,n = suf148.length∧List.drop i_146 r_.rows = suf148∧i_146 + suf148.length = r_.rows.length∧rangeL (s_l6Line_b2 fu) suf148 i_146 out_147 = some j148∧f 1 = Pt g3∧f 5 = .string out_147∧f 6 = I i_146∧Star H w_ ([box g3 49 #[I r_.kind,v0_1,v0_2,I r_.bound,v0_4]])
 refine W_loop I148 (n:=r_.rows.length) ?_ ?_
 exact ij hI148 ⟨0,r_.rows,x139,rfl,rfl,Nat.zero_add _,hL148,rfl,rfl,rfl,Z⟩
 intro n148 f w_ hI
 obtain ⟨i_146,suf148,out_147,rfl,hd148,hl148,hL148,sf1,sf5,sf6,Z⟩:=ik hI148 hI
 refine W_seq (sq (mF sf6 rfl (fA 4 fa_49_4 sf1 rfl (ldB 0 Z Tryz.isAgg47 rfl rfl rfl (L_len rfl Tryz.underlying47 rfl (slice_len h0_4) (L_lss rfl rfl rfl (nn (W_cond (b:=decide ((i_146 : Int) < (r_.rows.length : Int))) rfl (fun hc149=>?_) (fun hc149=>?_)))))))))
 have hlt148:=of_decide_eq_true hc149
 rcases suf148 with _ | ⟨x_148,rest148⟩
 exact absurd hlt148 (by simp at hl148; omega)
 obtain ⟨o148,hB148,hL148⟩:=range_cons hL148
 rw [s_l6Line_b2] at hB148
 have hix148:=drop_idx hd148
 refine W_skip (W_seq (W_block ?_))
 obtain ⟨x150,hx150,hB148⟩:=bind_some hB148
 obtain ⟨x160,hx160,hB148⟩:=bind_some hB148
 obtain ⟨x162,hx162,hB148⟩:=bind_some hB148
 refine W_region (mF sf5 rfl ?_)
 obtain ⟨hx150_l,hx150_e⟩:=cat_some hx150
 refine L_sadd (s:=out_147) (s':=(⟨#[32]⟩ : ByteArray)) rfl rfl rfl hx150_l ?_
 rw [← hx150_e]
 refine fA 4 fa_49_4 sf1 rfl (ldB 0 Z Tryz.isAgg47 rfl rfl rfl (mF sf6 rfl (L_ix (r:=(rS 3 RP.int)) rfl Tryz.underlying47 Tryz.sizeOf22 rfl h0_4 rfl hix148 (fun g163 o164 cs_g163 hrk_hat165 hat165=>?_))))
 obtain ⟨u166,rfl,hu166⟩:=slice1 hrk_hat165
 refine L_ld rfl Tryz.isAgg22 rfl (At.cell (AtH.at hat165 Z.sub) (j:=0) rfl) ?_
 obtain ⟨H167b,l168,s169,z170,k171⟩:=Z.borrow
 refine L_call rfl Tryz.call44 (ops1 rfl) (s_l6Digits_c (list:=x_148) s169 (RP.mono _ hu166 l168) hx160) ?_
 rintro _ w172 ⟨rfl,Z⟩
 have Z:=k171 Z c0
 obtain ⟨hx162_l,hx162_e⟩:=cat_some hx162
 refine L_sadd (s:=x150) (s':=x160) rfl rfl rfl hx162_l ?_
 rw [← hx162_e]
 refine aV (.string x162) rfl (nn (W_region (mF sf6 rfl (L_add rfl rfl rfl (aI rfl (nn ?_))))))
 obtain rfl:=so hB148
 show ∃ m,m < _∧I148 m _ _
 refine ⟨rest148.length,by simp,?_⟩
 exact ij hI148 ⟨i_146 + 1,rest148,x162,rfl,drop_next hd148,by simp at hl148; omega,hL148,sf1,rfl,(Eq.trans rfl (congrArg (Value.int .i64) (i64_succ (n:=r_.rows.length) (by simp at hl148; omega) hlen148))),Z⟩
 rcases suf148 with _ | ⟨_,_⟩
 obtain rfl:=range_nil hL148
 refine W_exit (rj hR148 ⟨out_147,rfl,sf5,(Star.keepN 0 Z)⟩)
 exact absurd (of_decide_eq_false hc149) (by simp at hl148; omega)
 intro f w_ hR
 obtain ⟨out_147,rfl,sf5,Z⟩:=rk hR148 hR
 refine W_seq ?_
 obtain ⟨x173,hx173,hF⟩:=bind_some hF
 refine W_region (mF sf5 rfl ?_)
 obtain ⟨hx173_l,hx173_e⟩:=cat_some hx173
 refine L_sadd (s:=out_147) (s':=(⟨#[10]⟩ : ByteArray)) rfl rfl rfl hx173_l ?_
 rw [← hx173_e]
 refine aV (.string x173) rfl (nn (W_ret (retG1 (v1:=.string x173) Tryz.results45 rfl ?_)))
 obtain rfl:=so hF
 exact ⟨rfl,Z⟩
theorem s_FormatModel_c {fu : Nat} {m : Model} {v0_0 : Value} {v0_1 : Value} {H : FH} {w : World} (Z : Star H w []) (h0_0 : (rS 3 RP.int).rel H [v0_0] m.sizes) (h0_1 : (rS 49 (rRule 3 22)).rel H [v0_1] m.rules) {r : ByteArray} (hF : s_FormatModel fu m = some r) :
 C Tryz.prog 14 #[.agg #[v0_0,v0_1]] w fun v w'=>v = .string r∧Star H w' []:=by
 unfold s_FormatModel at hF
 refine C_enter Tryz.func14 rfl Tryz.ntmps14 rfl (sq (L_box (v:=.agg #[v0_0,v0_1]) (cs:=#[v0_0,v0_1]) rfl rfl rfl Z (fun g3 w4 Z=>aV (.string (⟨#[]⟩ : ByteArray)) rfl (nq (W_seq ?_)))))
 obtain ⟨x10,hx10,hF⟩:=bind_some hF
 refine W_region (L_lda (cs:=[v0_0,v0_1]) rfl Tryz.isAgg25 Tryz.sizeOf25 rfl (At.sub0 (Blk.at (Star.blkAt 0 Z rfl)) 0 2) rfl ?_)
 obtain ⟨H12b,l13,s14,z15,k16⟩:=Z.borrow
 refine L_call rfl Tryz.call16 (ops1 rfl) (s_ModelValid_c (m:=m) s14 (RP.mono _ h0_0 l13) (RP.mono _ h0_1 l13) hx10) ?_
 rintro _ w17 ⟨rfl,Z⟩
 have Z:=k16 Z c0
 refine L_not_ rfl rfl (nn (W_cond (b:=(!x10)) rfl (fun hc18=>?_) (fun hc18=>?_)))
 have hF:=(ite_t hc18).symm.trans hF
 refine sq (aV (.string (⟨#[]⟩ : ByteArray)) rfl (nn (W_ret (retG1 (v1:=.string (⟨#[]⟩ : ByteArray)) Tryz.results14 rfl ?_))))
 obtain rfl:=so hF
 exact ⟨rfl,(Star.keepN 0 Z)⟩
 have hF:=(ite_f hc18).symm.trans hF
 refine W_skip (W_seq ?_)
 obtain ⟨x24,hx24,hF⟩:=bind_some hF
 obtain ⟨x26,hx26,hF⟩:=bind_some hF
 obtain ⟨x27,hx27,hF⟩:=bind_some hF
 refine W_region (fA 0 fa_25_0 rfl rfl (ldB 0 Z Tryz.isAgg22 rfl rfl rfl ?_))
 obtain ⟨H28b,l29,s30,z31,k32⟩:=Z.borrow
 refine L_call rfl Tryz.call44 (ops1 rfl) (s_l6Digits_c (list:=m.sizes) s30 (RP.mono _ h0_0 l29) hx24) ?_
 rintro _ w33 ⟨rfl,Z⟩
 have Z:=k32 Z c0
 obtain ⟨hx26_l,hx26_e⟩:=cat_some hx26
 refine L_sadd (s:=(⟨#[115,105,122,101,115,32]⟩ : ByteArray)) (s':=x24) rfl rfl rfl hx26_l ?_
 rw [← hx26_e]
 obtain ⟨hx27_l,hx27_e⟩:=cat_some hx27
 refine L_sadd (s:=x26) (s':=(⟨#[10]⟩ : ByteArray)) rfl rfl rfl hx27_l ?_
 rw [← hx27_e]
 refine aV (.string x27) rfl (nq (sq (aI rfl (nn ?_))))
 have hlen36 : List.length m.rules≤9223372036854775807:=len_le (slice_len h0_1)
 obtain ⟨j36,hL36,hF⟩:=bind_some hF
 obtain ⟨R36,hR36⟩:=exR fun f w_=>∃ out_35 : ByteArray,j36 = .nx out_35∧f 3 = .string out_35∧Star H w_ ([])
 refine W_join R36 ?_ ?_
 refine W_block ?_
 obtain ⟨I36,hI36⟩:=exI fun n f w_=>∃ i_34 : Nat,∃ suf36 : List Rule,∃ out_35 : ByteArray,n = suf36.length∧List.drop i_34 m.rules = suf36∧i_34 + suf36.length = m.rules.length∧rangeL (s_FormatModel_b1 fu) suf36 i_34 out_35 = some j36∧f 1 = Pt g3∧f 3 = .string out_35∧f 4 = I i_34∧Star H w_ ([box g3 25 #[v0_0,v0_1]])
 refine W_loop I36 (n:=m.rules.length) ?_ ?_
 exact ij hI36 ⟨0,m.rules,x27,rfl,rfl,Nat.zero_add _,hL36,rfl,rfl,rfl,Z⟩
 intro n36 f w_ hI
 obtain ⟨i_34,suf36,out_35,rfl,hd36,hl36,hL36,sf1,sf3,sf4,Z⟩:=ik hI36 hI
 refine W_seq (sq (mF sf4 rfl (fA 1 fa_25_1 sf1 rfl (ldB 0 Z Tryz.isAgg23 rfl rfl rfl (L_len rfl Tryz.underlying23 rfl (slice_len h0_1) (L_lss rfl rfl rfl (nn (W_cond (b:=decide ((i_34 : Int) < (m.rules.length : Int))) rfl (fun hc37=>?_) (fun hc37=>?_)))))))))
 have hlt36:=of_decide_eq_true hc37
 rcases suf36 with _ | ⟨x_36,rest36⟩
 exact absurd hlt36 (by simp at hl36; omega)
 obtain ⟨o36,hB36,hL36⟩:=range_cons hL36
 rw [s_FormatModel_b1] at hB36
 have hix36:=drop_idx hd36
 refine W_skip (W_seq (W_block ?_))
 obtain ⟨x47,hx47,hB36⟩:=bind_some hB36
 obtain ⟨x49,hx49,hB36⟩:=bind_some hB36
 refine W_region (mF sf3 rfl (fA 1 fa_25_1 sf1 rfl (ldB 0 Z Tryz.isAgg23 rfl rfl rfl (mF sf4 rfl (L_ix (r:=(rRule 3 22)) rfl Tryz.underlying23 Tryz.sizeOf49 rfl h0_1 rfl hix36 (fun g50 o51 cs_g50 hrk_hat52 hat52=>?_))))))
 obtain ⟨u53_0,u53_1,u53_2,rfl,hu53_0,hu53_1,hu53_2⟩:=rRule_iff.1 hrk_hat52
 refine L_lda (cs:=[I x_36.kind,u53_0,u53_1,I x_36.bound,u53_2]) rfl Tryz.isAgg49 Tryz.sizeOf49 rfl (At.sub (AtH.at hat52 Z.sub) 0 5) rfl ?_
 obtain ⟨H54b,l55,s56,z57,k58⟩:=Z.borrow
 refine L_call rfl Tryz.call45 (ops1 rfl) (s_l6Line_c (r_:=x_36) s56 (RP.mono _ hu53_0 l55) (RP.mono _ hu53_1 l55) (RP.mono _ hu53_2 l55) hx47) ?_
 rintro _ w59 ⟨rfl,Z⟩
 have Z:=k58 Z c0
 obtain ⟨hx49_l,hx49_e⟩:=cat_some hx49
 refine L_sadd (s:=out_35) (s':=x47) rfl rfl rfl hx49_l ?_
 rw [← hx49_e]
 refine aV (.string x49) rfl (nn (W_region (mF sf4 rfl (L_add rfl rfl rfl (aI rfl (nn ?_))))))
 obtain rfl:=so hB36
 show ∃ m,m < _∧I36 m _ _
 refine ⟨rest36.length,by simp,?_⟩
 exact ij hI36 ⟨i_34 + 1,rest36,x49,rfl,drop_next hd36,by simp at hl36; omega,hL36,sf1,rfl,(Eq.trans rfl (congrArg (Value.int .i64) (i64_succ (n:=m.rules.length) (by simp at hl36; omega) hlen36))),Z⟩
 rcases suf36 with _ | ⟨_,_⟩
 obtain rfl:=range_nil hL36
 refine W_exit (rj hR36 ⟨out_35,rfl,sf3,(Star.keepN 0 Z)⟩)
 exact absurd (of_decide_eq_false hc37) (by simp at hl36; omega)
 intro f w_ hR
 obtain ⟨out_35,rfl,sf3,Z⟩:=rk hR36 hR
 refine sq (mF sf3 rfl (aV (.string out_35) rfl (nn (W_ret (retG1 (v1:=.string out_35) Tryz.results14 rfl ?_)))))
 obtain rfl:=so hF
 exact ⟨rfl,Z⟩
theorem s_l17Cut_c {s : ByteArray} {c : Int} {H : FH} {w : World} (Z : Star H w []) {r : List ByteArray} (hF : s_l17Cut s c = some r) :
 C Tryz.prog 29 #[.string s,.int .u8 (c.toNat : Int)] w fun v w'=>∃ (u1 : Value),v = u1∧Star H w' [oF 9 RP.str u1 r]:=by
 unfold s_l17Cut at hF
 refine C_enter Tryz.func29 rfl Tryz.ntmps29 rfl (sq (aV S0 rfl (ns (L_bs rfl parts0 (bs_44_0  ) Z (fun g4 w5 Z=>?_)))))
 have Z:=Star.mkRow (R:=(OR.frz RP.str)) [] [] 0 Z rfl rfl rfl (by decide)
 refine aV (Sl g4 0 0) rfl (ns (aI rfl (nq (sq (aI rfl (nn ?_))))))
 obtain ⟨k12,hk12,hF⟩:=bind_some hF
 obtain ⟨j11,hL11,hF⟩:=bind_some hF
 obtain ⟨R11,hR11⟩:=exR fun f w_=>∃ out_8 : List ByteArray,∃ from__10 : Int,∃ v8_out : Value,j11 = .nx (out_8,from__10)∧f 5 = v8_out∧Star H w_ ([oF 9 RP.str v8_out out_8])
 refine W_join R11 ?_ ?_
 refine W_block ?_
 obtain ⟨I11,hI11⟩:=exI fun n f w_=>∃ i_7 : Nat,∃ suf11 : Nat,∃ out_8 : List ByteArray,∃ from__10 : Int,∃ v8_out : Value,suf11 = n∧0≤i_7∧i_7 + suf11 = 0 + k12∧countL (s_l17Cut_b1 s c) suf11 i_7 (out_8,from__10) = some j11∧f 0 = .string s∧f 1 = .int .u8 (c.toNat : Int)∧f 5 = v8_out∧f 6 = I from__10∧f 7 = I i_7∧Star H w_ ([oF 9 RP.str v8_out out_8])
 refine W_loop I11 (n:=k12) ?_ ?_
 exact ij hI11 ⟨0,k12,[],0,(Sl g4 0 0),rfl,Nat.le_refl _,rfl,hL11,rfl,rfl,rfl,rfl,rfl,Z⟩
 intro n11 f w_ hI
 obtain ⟨i_7,suf11,out_8,from__10,v8_out,rfl,hs11,hl11,hL11,sf0,sf1,sf5,sf6,sf7,Z⟩:=ik hI11 hI
 refine W_seq (sq (mF sf7 rfl (mF sf0 rfl (L_slen (s:=s) rfl Tryz.underlying9 rfl (L_leq rfl rfl rfl (nn (W_cond (b:=decide ((i_7 : Int)≤(s.size : Int))) rfl (fun hc13=>?_) (fun hc13=>?_))))))))
 have hlt11:=of_decide_eq_true hc13
 rcases suf11 with _ | rest11
 exact absurd hlt11 (cntF_noL hl11 hk12)
 obtain ⟨o11,hB11,hL11⟩:=count_succ hL11
 rw [s_l17Cut_b1] at hB11
 refine W_skip (W_seq (W_block (W_seq ?_)))
 obtain ⟨b15,hb15,hB11⟩:=bind_some hB11
 obtain ⟨R16,hR16⟩:=exR fun f w_=>f 0 = .string s∧f 1 = .int .u8 (c.toNat : Int)∧f 5 = v8_out∧f 6 = I from__10∧f 7 = I i_7∧f 25 = Bo b15∧Star H w_ ([oF 9 RP.str v8_out out_8])
 refine W_join R16 ?_ ?_
 refine W_region (mF sf7 rfl (mF sf0 rfl (L_slen (s:=s) rfl Tryz.underlying9 rfl (L_eql rfl rfl rfl (mB rfl (L_split (d:=19) (b:=((i_7 : Int) == (s.size : Int))) rfl (fun hc17=>?_) (fun hc17=>?_)))))))
 rw [ite_t hc17] at hb15
 refine ps rfl (ps rfl (ps rfl (ps rfl (ps rfl (L_pick (v:=Bo b15) rfl rfl (congrArg Value.bool (so hb15)) (nn (rj hR16 ⟨sf0,sf1,sf5,sf6,sf7,rfl,Z⟩)))))))
 rw [ite_f hc17] at hb15
 obtain ⟨x14,hx14,hb15⟩:=bind_some hb15
 refine mF sf0 rfl (mF sf7 rfl (L_sidx rfl Tryz.underlying9 rfl rfl hx14 (mF sf1 rfl (L_eql rfl rfl rfl (L_pick (v:=Bo b15) rfl rfl (congrArg Value.bool (so hb15)) (nn (rj hR16 ⟨sf0,sf1,sf5,sf6,sf7,rfl,Z⟩)))))))
 intro f w_ hR
 obtain ⟨sf0,sf1,sf5,sf6,sf7,sf25,Z⟩:=rk hR16 hR
 obtain ⟨⟨out_18,from__20⟩,hA21,hB11⟩:=bind_some hB11
 obtain ⟨R21,hR21⟩:=exR fun f w_=>∃ v18_out : Value,f 0 = .string s∧f 1 = .int .u8 (c.toNat : Int)∧f 5 = v18_out∧f 6 = I from__20∧f 7 = I i_7∧Star H w_ ([oF 9 RP.str v18_out out_18])
 refine W_join R21 ?_ ?_
 refine W_cond (b:=b15) sf25 (fun hc22=>?_) (fun hc22=>?_)
 have hA21:=(ite_t hc22).symm.trans hA21
 refine W_seq ?_
 obtain ⟨x23,hx23,hA21⟩:=bind_some hA21
 obtain ⟨x27,hx27,hA21⟩:=bind_some hA21
 refine W_region (mF sf5 rfl (mF sf0 rfl (mF sf6 rfl (mF sf7 rfl (L_ssl (a:=from__10) (b:=(i_7 : Int)) rfl Tryz.underlying9 rfl rfl rfl hx23 (L_bs rfl (parts1 rfl) (bs_44_1_0 (.string x23) rfl) Z (fun g31 w32 Z=>?_)))))))
 have Z:=Star.addF (r:=RP.str) (cs:=[.string x23]) (x:=x23) Z rfl
 have Z:=Star.mkRow (R:=(OR.frz RP.str)) [([.string x23],x23)] [x23] 1 Z rfl rfl rfl (by decide)
 have Z:=Z.get 1 rfl
 refine L_appM (v:=v8_out) (u:=(Sl g31 1 1)) rfl et_44 rfl rfl Z hx27 (fun v34 w35 Z=>aV v34 rfl (nn (W_region (mF sf7 rfl (L_add rfl rfl rfl (aI rfl (nn ?_)))))))
 obtain ⟨rfl,rfl⟩:=so2 hA21
 exact rj hR21 ⟨v34,sf0,sf1,rfl,rfl,sf7,Z⟩
 have hA21:=(ite_f hc22).symm.trans hA21
 refine W_skip ?_
 obtain ⟨rfl,rfl⟩:=so2 hA21
 exact rj hR21 ⟨v8_out,sf0,sf1,sf5,sf6,sf7,Z⟩
 intro f w_ hR
 obtain ⟨v18_out,sf0,sf1,sf5,sf6,sf7,Z⟩:=rk hR21 hR
 refine W_region (mF sf7 rfl (L_add rfl rfl rfl (aI rfl (nn ?_))))
 obtain rfl:=so hB11
 show ∃ m,m < _∧I11 m _ _
 refine ⟨rest11,Nat.lt_succ_self _,?_⟩
 exact ij hI11 ⟨i_7 + 1,rest11,out_18,from__20,v18_out,rfl,by omega,by omega,hL11,sf0,sf1,sf5,sf6,(Eq.trans rfl (congrArg (Value.int .i64) (i64_succ (n:=0 + k12) (by omega) (cntF_le hk12)))),Z⟩
 rcases suf11 with _ | _
 obtain rfl:=count_zero hL11
 refine W_exit (rj hR11 ⟨out_8,from__10,v8_out,rfl,sf5,Z⟩)
 exact absurd (cntF_yesL hs11 hl11 hk12) (of_decide_eq_false hc13)
 intro f w_ hR
 obtain ⟨out_8,from__10,v8_out,rfl,sf5,Z⟩:=rk hR11 hR
 refine sq (mF sf5 rfl (aV v8_out rfl (nn (W_ret (retG1 (v1:=v8_out) Tryz.results29 rfl ?_)))))
 obtain rfl:=so hF
 exact ⟨v8_out,rfl,Z⟩
theorem s_l6Numbers_c {s : ByteArray} {H : FH} {w : World} (Z : Star H w []) {r : List Int} (hF : s_l6Numbers s = some r) :
 C Tryz.prog 30 #[.string s] w fun v w'=>∃ (u1 : Value),v = u1∧Star H w' [oF 3 RP.int u1 r]:=by
 unfold s_l6Numbers at hF
 refine C_enter Tryz.func30 rfl Tryz.ntmps30 rfl (sq (aV S0 rfl (ns (L_bs rfl parts0 (bs_22_0  ) Z (fun g4 w5 Z=>?_)))))
 have Z:=Star.mkRow (R:=(OR.frz RP.int)) [] [] 0 Z rfl rfl rfl (by decide)
 refine aV (Sl g4 0 0) rfl (nq (sq (aI rfl (nn ?_))))
 obtain ⟨k11,hk11,hF⟩:=bind_some hF
 obtain ⟨j10,hL10,hF⟩:=bind_some hF
 obtain ⟨R10,hR10⟩:=exR fun f w_=>∃ out_8 : List Int,∃ v8_out : Value,j10 = .nx out_8∧f 3 = v8_out∧Star H w_ ([oF 3 RP.int v8_out out_8])
 refine W_join R10 ?_ ?_
 refine W_block ?_
 obtain ⟨I10,hI10⟩:=exI fun n f w_=>∃ i_7 : Nat,∃ suf10 : Nat,∃ out_8 : List Int,∃ v8_out : Value,suf10 = n∧0≤i_7∧i_7 + suf10 = 0 + k11∧countL (s_l6Numbers_b1 s) suf10 i_7 out_8 = some j10∧f 0 = .string s∧f 3 = v8_out∧f 4 = I i_7∧Star H w_ ([oF 3 RP.int v8_out out_8])
 refine W_loop I10 (n:=k11) ?_ ?_
 exact ij hI10 ⟨0,k11,[],(Sl g4 0 0),rfl,Nat.le_refl _,rfl,hL10,rfl,rfl,rfl,Z⟩
 intro n10 f w_ hI
 obtain ⟨i_7,suf10,out_8,v8_out,rfl,hs10,hl10,hL10,sf0,sf3,sf4,Z⟩:=ik hI10 hI
 refine W_seq (sq (mF sf4 rfl (mF sf0 rfl (L_slen (s:=s) rfl Tryz.underlying9 rfl (L_lss rfl rfl rfl (nn (W_cond (b:=decide ((i_7 : Int) < (s.size : Int))) rfl (fun hc12=>?_) (fun hc12=>?_))))))))
 have hlt10:=of_decide_eq_true hc12
 rcases suf10 with _ | rest10
 exact absurd hlt10 (cntF_no hl10 hk11)
 obtain ⟨o10,hB10,hL10⟩:=count_succ hL10
 rw [s_l6Numbers_b1] at hB10
 refine W_skip (W_seq (W_block (W_seq ?_)))
 obtain ⟨x13,hx13,hB10⟩:=bind_some hB10
 refine W_region (mF sf0 rfl (mF sf4 rfl (L_sidx rfl Tryz.underlying9 rfl rfl hx13 (L_cv (n:=(x13.toNat : Int)) rfl rfl ⟨_,Tryz.underlying5⟩ Tryz.underlying3 (L_sub rfl rfl rfl (aI rfl (nq (W_seq ?_))))))))
 obtain ⟨R14,hR14⟩:=exR fun f w_=>f 0 = .string s∧f 3 = v8_out∧f 4 = I i_7∧f 5 = I (i64 ((i64 (x13.toNat : Int)) - 48))∧f 23 = Bo ((decide ((i64 ((i64 (x13.toNat : Int)) - 48)) < 0)) || (decide ((i64 ((i64 (x13.toNat : Int)) - 48)) > 9)))∧Star H w_ ([oF 3 RP.int v8_out out_8])
 refine W_join R14 ?_ ?_
 refine W_region (mI rfl (L_lss rfl rfl rfl (mB rfl (L_split (d:=20) (b:=decide ((i64 ((i64 (x13.toNat : Int)) - 48)) < 0)) rfl (fun hc15=>?_) (fun hc15=>?_)))))
 refine ps rfl (ps rfl (L_pick (v:=Bo ((decide ((i64 ((i64 (x13.toNat : Int)) - 48)) < 0)) || (decide ((i64 ((i64 (x13.toNat : Int)) - 48)) > 9)))) rfl rfl (or_t hc15) (nn (rj hR14 ⟨sf0,sf3,sf4,rfl,rfl,Z⟩))))
 refine mI rfl (L_gtr rfl rfl rfl (L_pick (v:=Bo ((decide ((i64 ((i64 (x13.toNat : Int)) - 48)) < 0)) || (decide ((i64 ((i64 (x13.toNat : Int)) - 48)) > 9)))) rfl rfl (or_f hc15 rfl) (nn (rj hR14 ⟨sf0,sf3,sf4,rfl,rfl,Z⟩))))
 intro f w_ hR
 obtain ⟨sf0,sf3,sf4,sf5,sf23,Z⟩:=rk hR14 hR
 obtain ⟨n_16,hA17,hB10⟩:=bind_some hB10
 obtain ⟨R17,hR17⟩:=exR fun f w_=>f 0 = .string s∧f 3 = v8_out∧f 4 = I i_7∧f 5 = I n_16∧Star H w_ ([oF 3 RP.int v8_out out_8])
 refine W_join R17 ?_ ?_
 refine W_cond (b:=((decide ((i64 ((i64 (x13.toNat : Int)) - 48)) < 0)) || (decide ((i64 ((i64 (x13.toNat : Int)) - 48)) > 9)))) sf23 (fun hc18=>?_) (fun hc18=>?_)
 have hA17:=(ite_t hc18).symm.trans hA17
 refine W_region (aI rfl (nn ?_))
 obtain rfl:=so hA17
 exact rj hR17 ⟨sf0,sf3,sf4,rfl,Z⟩
 have hA17:=(ite_f hc18).symm.trans hA17
 refine W_skip ?_
 obtain rfl:=so hA17
 exact rj hR17 ⟨sf0,sf3,sf4,sf5,Z⟩
 intro f w_ hR
 obtain ⟨sf0,sf3,sf4,sf5,Z⟩:=rk hR17 hR
 obtain ⟨x22,hx22,hB10⟩:=bind_some hB10
 refine W_region (mF sf3 rfl (mF sf5 rfl (L_bs rfl (parts1 rfl) (bs_22_1_0 (I n_16) rfl) Z (fun g26 w27 Z=>?_))))
 have Z:=Star.addF (r:=RP.int) (cs:=[I n_16]) (x:=n_16) Z rfl
 have Z:=Star.mkRow (R:=(OR.frz RP.int)) [([I n_16],n_16)] [n_16] 1 Z rfl rfl rfl (by decide)
 have Z:=Z.get 1 rfl
 refine L_appM (v:=v8_out) (u:=(Sl g26 1 1)) rfl et_22 rfl rfl Z hx22 (fun v29 w30 Z=>aV v29 rfl (nn (W_region (mF sf4 rfl (L_add rfl rfl rfl (aI rfl (nn ?_)))))))
 obtain rfl:=so hB10
 show ∃ m,m < _∧I10 m _ _
 refine ⟨rest10,Nat.lt_succ_self _,?_⟩
 exact ij hI10 ⟨i_7 + 1,rest10,x22,v29,rfl,by omega,by omega,hL10,sf0,rfl,(Eq.trans rfl (congrArg (Value.int .i64) (i64_succ (n:=0 + k11) (by omega) (cntF_le hk11)))),Z⟩
 rcases suf10 with _ | _
 obtain rfl:=count_zero hL10
 refine W_exit (rj hR10 ⟨out_8,v8_out,rfl,sf3,Z⟩)
 exact absurd (cntF_yes hs10 hl10 hk11) (of_decide_eq_false hc12)
 intro f w_ hR
 obtain ⟨out_8,v8_out,rfl,sf3,Z⟩:=rk hR10 hR
 refine sq (mF sf3 rfl (aV v8_out rfl (nn (W_ret (retG1 (v1:=v8_out) Tryz.results30 rfl ?_)))))
 obtain rfl:=so hF
 exact ⟨v8_out,rfl,Z⟩
theorem s_l17Num_c {s : ByteArray} {H : FH} {w : World} (Z : Star H w []) {r : Int × Bool} (hF : s_l17Num s = some r) :
 C Tryz.prog 74 #[.string s] w fun v w'=>v = .tuple #[I r.1,Bo r.2]∧Star H w' []:=by
 unfold s_l17Num at hF
 refine C_enter Tryz.func74 rfl Tryz.ntmps74 rfl (sq (aI rfl (aB rfl (nq ?_))))
 obtain ⟨b2,hb2,hF⟩:=bind_some hF
 obtain ⟨R3,hR3⟩:=exR fun f w_=>f 0 = .string s∧f 4 = Bo b2∧Star H w_ ([])
 refine W_join R3 ?_ ?_
 refine W_region (mV (.string s) rfl (L_slen (s:=s) rfl Tryz.underlying9 rfl (L_gtr rfl rfl rfl (mB rfl (L_split (d:=10) (b:=decide ((s.size : Int) > 0)) rfl (fun hc4=>?_) (fun hc4=>?_))))))
 rw [ite_t hc4] at hb2
 obtain ⟨x1,hx1,hb2⟩:=bind_some hb2
 refine mV (.string s) rfl (L_sidx rfl Tryz.underlying9 rfl rfl hx1 (L_eql rfl rfl rfl (L_pick (v:=Bo b2) rfl rfl (congrArg Value.bool (so hb2)) (aB rfl (nn (rj hR3 ⟨rfl,rfl,Z⟩))))))
 rw [ite_f hc4] at hb2
 refine ps rfl (ps rfl (ps rfl (L_pick (v:=Bo b2) rfl rfl (congrArg Value.bool (so hb2)) (aB rfl (nn (rj hR3 ⟨rfl,rfl,Z⟩))))))
 intro f w_ hR
 obtain ⟨sf0,sf4,Z⟩:=rk hR3 hR
 refine W_seq (sq (mF sf4 rfl (nn ?_)))
 obtain ⟨s_5,hA6,hF⟩:=bind_some hF
 obtain ⟨R6,hR6⟩:=exR fun f w_=>f 0 = .string s_5∧f 4 = Bo b2∧Star H w_ ([])
 refine W_join R6 ?_ ?_
 refine W_cond (b:=b2) rfl (fun hc7=>?_) (fun hc7=>?_)
 have hA6:=(ite_t hc7).symm.trans hA6
 obtain ⟨x8,hx8,hA6⟩:=bind_some hA6
 refine W_region (mF sf0 rfl (L_ssl (a:=1) (b:=(s.size : Int)) rfl Tryz.underlying9 rfl rfl rfl hx8 (aV (.string x8) rfl (nn ?_))))
 obtain rfl:=so hA6
 exact rj hR6 ⟨rfl,sf4,Z⟩
 have hA6:=(ite_f hc7).symm.trans hA6
 refine W_skip ?_
 obtain rfl:=so hA6
 exact rj hR6 ⟨sf0,sf4,Z⟩
 intro f w_ hR
 obtain ⟨sf0,sf4,Z⟩:=rk hR6 hR
 refine W_seq (W_seq ?_)
 obtain ⟨b10,hb10,hF⟩:=bind_some hF
 obtain ⟨R11,hR11⟩:=exR fun f w_=>f 0 = .string s_5∧f 4 = Bo b2∧f 38 = Bo b10∧Star H w_ ([])
 refine W_join R11 ?_ ?_
 refine W_region (mF sf0 rfl (L_slen (s:=s_5) rfl Tryz.underlying9 rfl (L_eql rfl rfl rfl (mB rfl (L_split (d:=21) (b:=((s_5.size : Int) == 0)) rfl (fun hc12=>?_) (fun hc12=>?_))))))
 refine ps rfl (ps rfl (ps rfl (L_pick (v:=Bo (((s_5.size : Int) == 0) || (decide ((s_5.size : Int) > 17)))) rfl rfl (or_t hc12) (mB rfl (L_split (d:=26) (b:=(((s_5.size : Int) == 0) || (decide ((s_5.size : Int) > 17)))) rfl (fun hc13=>?_) (fun hc13=>?_))))))
 rw [ite_t hc13] at hb10
 refine ps rfl (ps rfl (ps rfl (ps rfl (ps rfl (ps rfl (ps rfl (ps rfl (ps rfl (ps rfl (ps rfl (L_pick (v:=Bo b10) rfl rfl (congrArg Value.bool (so hb10)) (nn (rj hR11 ⟨sf0,sf4,rfl,Z⟩)))))))))))))
 rw [ite_f hc13] at hb10
 obtain ⟨x9,hx9,hb10⟩:=bind_some hb10
 refine mF sf0 rfl (L_sidx rfl Tryz.underlying9 rfl rfl hx9 (L_eql rfl rfl rfl (mB rfl (L_split (d:=30) (b:=((x9.toNat : Int) == 48)) rfl (fun hc14=>?_) (fun hc14=>?_)))))
 refine mF sf0 rfl (L_slen (s:=s_5) rfl Tryz.underlying9 rfl (L_gtr rfl rfl rfl (mB rfl (L_split (d:=34) (b:=decide ((s_5.size : Int) > 1)) rfl (fun hc15=>?_) (fun hc15=>?_)))))
 refine ps rfl (L_pick (v:=Bo ((decide ((s_5.size : Int) > 1)) || b2)) rfl rfl (or_t hc15) (L_pick (v:=Bo (((x9.toNat : Int) == 48) && ((decide ((s_5.size : Int) > 1)) || b2))) rfl rfl (and_t hc14 rfl) (L_pick (v:=Bo b10) rfl rfl (congrArg Value.bool (so hb10)) (nn (rj hR11 ⟨sf0,sf4,rfl,Z⟩)))))
 refine mF sf4 rfl (L_pick (v:=Bo ((decide ((s_5.size : Int) > 1)) || b2)) rfl rfl (or_f hc15 rfl) (L_pick (v:=Bo (((x9.toNat : Int) == 48) && ((decide ((s_5.size : Int) > 1)) || b2))) rfl rfl (and_t hc14 rfl) (L_pick (v:=Bo b10) rfl rfl (congrArg Value.bool (so hb10)) (nn (rj hR11 ⟨sf0,sf4,rfl,Z⟩)))))
 refine ps rfl (ps rfl (ps rfl (ps rfl (ps rfl (ps rfl (L_pick (v:=Bo (((x9.toNat : Int) == 48) && ((decide ((s_5.size : Int) > 1)) || b2))) rfl rfl (and_f hc14) (L_pick (v:=Bo b10) rfl rfl (congrArg Value.bool (so hb10)) (nn (rj hR11 ⟨sf0,sf4,rfl,Z⟩)))))))))
 refine mF sf0 rfl (L_slen (s:=s_5) rfl Tryz.underlying9 rfl (L_gtr rfl rfl rfl (L_pick (v:=Bo (((s_5.size : Int) == 0) || (decide ((s_5.size : Int) > 17)))) rfl rfl (or_f hc12 rfl) (mB rfl (L_split (d:=26) (b:=(((s_5.size : Int) == 0) || (decide ((s_5.size : Int) > 17)))) rfl (fun hc16=>?_) (fun hc16=>?_))))))
 rw [ite_t hc16] at hb10
 refine ps rfl (ps rfl (ps rfl (ps rfl (ps rfl (ps rfl (ps rfl (ps rfl (ps rfl (ps rfl (ps rfl (L_pick (v:=Bo b10) rfl rfl (congrArg Value.bool (so hb10)) (nn (rj hR11 ⟨sf0,sf4,rfl,Z⟩)))))))))))))
 rw [ite_f hc16] at hb10
 obtain ⟨x9,hx9,hb10⟩:=bind_some hb10
 refine mF sf0 rfl (L_sidx rfl Tryz.underlying9 rfl rfl hx9 (L_eql rfl rfl rfl (mB rfl (L_split (d:=30) (b:=((x9.toNat : Int) == 48)) rfl (fun hc17=>?_) (fun hc17=>?_)))))
 refine mF sf0 rfl (L_slen (s:=s_5) rfl Tryz.underlying9 rfl (L_gtr rfl rfl rfl (mB rfl (L_split (d:=34) (b:=decide ((s_5.size : Int) > 1)) rfl (fun hc18=>?_) (fun hc18=>?_)))))
 refine ps rfl (L_pick (v:=Bo ((decide ((s_5.size : Int) > 1)) || b2)) rfl rfl (or_t hc18) (L_pick (v:=Bo (((x9.toNat : Int) == 48) && ((decide ((s_5.size : Int) > 1)) || b2))) rfl rfl (and_t hc17 rfl) (L_pick (v:=Bo b10) rfl rfl (congrArg Value.bool (so hb10)) (nn (rj hR11 ⟨sf0,sf4,rfl,Z⟩)))))
 refine mF sf4 rfl (L_pick (v:=Bo ((decide ((s_5.size : Int) > 1)) || b2)) rfl rfl (or_f hc18 rfl) (L_pick (v:=Bo (((x9.toNat : Int) == 48) && ((decide ((s_5.size : Int) > 1)) || b2))) rfl rfl (and_t hc17 rfl) (L_pick (v:=Bo b10) rfl rfl (congrArg Value.bool (so hb10)) (nn (rj hR11 ⟨sf0,sf4,rfl,Z⟩)))))
 refine ps rfl (ps rfl (ps rfl (ps rfl (ps rfl (ps rfl (L_pick (v:=Bo (((x9.toNat : Int) == 48) && ((decide ((s_5.size : Int) > 1)) || b2))) rfl rfl (and_f hc17) (L_pick (v:=Bo b10) rfl rfl (congrArg Value.bool (so hb10)) (nn (rj hR11 ⟨sf0,sf4,rfl,Z⟩)))))))))
 intro f w_ hR
 obtain ⟨sf0,sf4,sf38,Z⟩:=rk hR11 hR
 refine W_cond (b:=b10) sf38 (fun hc19=>?_) (fun hc19=>?_)
 have hF:=(ite_t hc19).symm.trans hF
 refine sq (aI rfl (aB rfl (nn (W_ret (retG2 (v1:=I 0) (v2:=Bo false) Tryz.results74 rfl rfl ?_)))))
 obtain rfl:=so hF
 exact ⟨rfl,Z⟩
 have hF:=(ite_f hc19).symm.trans hF
 refine W_skip (sq (aI rfl (nq (sq (aI rfl (nn ?_))))))
 obtain ⟨k23,hk23,hF⟩:=bind_some hF
 obtain ⟨j22,hL22,hF⟩:=bind_some hF
 obtain ⟨R22,hR22⟩:=exR fun f w_=>∃ n_21 : Int,j22 = .nx n_21∧f 4 = Bo b2∧f 5 = I n_21∧Star H w_ ([])
 refine W_join R22 ?_ ?_
 refine W_block ?_
 obtain ⟨I22,hI22⟩:=exI fun n f w_=>∃ i_20 : Nat,∃ suf22 : Nat,∃ n_21 : Int,suf22 = n∧0≤i_20∧i_20 + suf22 = 0 + k23∧countL (s_l17Num_b1 s_5) suf22 i_20 n_21 = some j22∧f 0 = .string s_5∧f 4 = Bo b2∧f 5 = I n_21∧f 6 = I i_20∧Star H w_ ([])
 refine W_loop I22 (n:=k23) ?_ ?_
 exact ij hI22 ⟨0,k23,0,rfl,Nat.le_refl _,rfl,hL22,sf0,sf4,rfl,rfl,Z⟩
 intro n22 f w_ hI
 obtain ⟨i_20,suf22,n_21,rfl,hs22,hl22,hL22,sf0,sf4,sf5,sf6,Z⟩:=ik hI22 hI
 refine W_seq (sq (mF sf6 rfl (mF sf0 rfl (L_slen (s:=s_5) rfl Tryz.underlying9 rfl (L_lss rfl rfl rfl (nn (W_cond (b:=decide ((i_20 : Int) < (s_5.size : Int))) rfl (fun hc24=>?_) (fun hc24=>?_))))))))
 have hlt22:=of_decide_eq_true hc24
 rcases suf22 with _ | rest22
 exact absurd hlt22 (cntF_no hl22 hk23)
 obtain ⟨o22,hB22,hL22⟩:=count_succ hL22
 rw [s_l17Num_b1] at hB22
 refine W_skip (W_seq (W_block (W_seq (W_seq ?_))))
 obtain ⟨x25,hx25,hB22⟩:=bind_some hB22
 obtain ⟨R26,hR26⟩:=exR fun f w_=>f 0 = .string s_5∧f 4 = Bo b2∧f 5 = I n_21∧f 6 = I i_20∧f 54 = Bo ((decide ((x25.toNat : Int) < 48)) || (decide ((x25.toNat : Int) > 57)))∧Star H w_ ([])
 refine W_join R26 ?_ ?_
 refine W_region (mF sf0 rfl (mF sf6 rfl (L_sidx rfl Tryz.underlying9 rfl rfl hx25 (L_lss rfl rfl rfl (mB rfl (L_split (d:=49) (b:=decide ((x25.toNat : Int) < 48)) rfl (fun hc27=>?_) (fun hc27=>?_)))))))
 refine ps rfl (ps rfl (ps rfl (ps rfl (L_pick (v:=Bo ((decide ((x25.toNat : Int) < 48)) || (decide ((x25.toNat : Int) > 57)))) rfl rfl (or_t hc27) (nn (rj hR26 ⟨sf0,sf4,sf5,sf6,rfl,Z⟩))))))
 refine mF sf0 rfl (mF sf6 rfl (L_sidx rfl Tryz.underlying9 rfl rfl hx25 (L_gtr rfl rfl rfl (L_pick (v:=Bo ((decide ((x25.toNat : Int) < 48)) || (decide ((x25.toNat : Int) > 57)))) rfl rfl (or_f hc27 rfl) (nn (rj hR26 ⟨sf0,sf4,sf5,sf6,rfl,Z⟩))))))
 intro f w_ hR
 obtain ⟨sf0,sf4,sf5,sf6,sf54,Z⟩:=rk hR26 hR
 refine W_cond (b:=((decide ((x25.toNat : Int) < 48)) || (decide ((x25.toNat : Int) > 57)))) sf54 (fun hc28=>?_) (fun hc28=>?_)
 have hB22:=(ite_t hc28).symm.trans hB22
 refine sq (aI rfl (aB rfl (nn (W_ret (retG2 (v1:=I 0) (v2:=Bo false) Tryz.results74 rfl rfl ?_)))))
 obtain rfl:=so hB22
 obtain rfl:=so hL22
 obtain rfl:=so hF
 exact ⟨rfl,Z⟩
 have hB22:=(ite_f hc28).symm.trans hB22
 refine W_skip (W_region (mF sf5 rfl (L_mul rfl rfl rfl (mF sf0 rfl (mF sf6 rfl (L_sidx rfl Tryz.underlying9 rfl rfl hx25 (L_sub rfl rfl rfl (L_cv (n:=IntKind.u8.wrap ((x25.toNat : Int) - 48)) rfl rfl ⟨_,Tryz.underlying5⟩ Tryz.underlying3 (L_add rfl rfl rfl (aI rfl (nn (W_region (mF sf6 rfl (L_add rfl rfl rfl (aI rfl (nn ?_))))))))))))))))
 obtain rfl:=so hB22
 show ∃ m,m < _∧I22 m _ _
 refine ⟨rest22,Nat.lt_succ_self _,?_⟩
 exact ij hI22 ⟨i_20 + 1,rest22,i64 ((i64 (n_21 * 10)) + (i64 (IntKind.u8.wrap ((x25.toNat : Int) - 48)))),rfl,by omega,by omega,hL22,sf0,sf4,rfl,(Eq.trans rfl (congrArg (Value.int .i64) (i64_succ (n:=0 + k23) (by omega) (cntF_le hk23)))),Z⟩
 rcases suf22 with _ | _
 obtain rfl:=count_zero hL22
 refine W_exit (rj hR22 ⟨n_21,rfl,sf4,sf5,Z⟩)
 exact absurd (cntF_yes hs22 hl22 hk23) (of_decide_eq_false hc24)
 intro f w_ hR
 obtain ⟨n_21,rfl,sf4,sf5,Z⟩:=rk hR22 hR
 refine W_seq (sq (mF sf4 rfl (nn ?_)))
 obtain ⟨n_29,hA30,hF⟩:=bind_some hF
 obtain ⟨R30,hR30⟩:=exR fun f w_=>f 5 = I n_29∧Star H w_ ([])
 refine W_join R30 ?_ ?_
 refine W_cond (b:=b2) rfl (fun hc31=>?_) (fun hc31=>?_)
 have hA30:=(ite_t hc31).symm.trans hA30
 refine W_region (mF sf5 rfl (L_neg rfl rfl (aI rfl (nn ?_))))
 obtain rfl:=so hA30
 exact rj hR30 ⟨rfl,Z⟩
 have hA30:=(ite_f hc31).symm.trans hA30
 refine W_skip ?_
 obtain rfl:=so hA30
 exact rj hR30 ⟨sf5,Z⟩
 intro f w_ hR
 obtain ⟨sf5,Z⟩:=rk hR30 hR
 refine sq (mF sf5 rfl (aI rfl (aB rfl (nn (W_ret (retG2 (v1:=I n_29) (v2:=Bo true) Tryz.results74 rfl rfl ?_))))))
 obtain rfl:=so hF
 exact ⟨rfl,Z⟩
theorem s_l6Read_c {s : ByteArray} {H : FH} {w : World} (Z : Star H w []) {r : Int} (hF : s_l6Read s = some r) :
 C Tryz.prog 73 #[.string s] w fun v w'=>v = I r∧Star H w' []:=by
 unfold s_l6Read at hF
 refine C_enter Tryz.func73 rfl Tryz.ntmps73 rfl (sq (aI rfl (nq (W_seq ?_))))
 obtain ⟨b2,hb2,hF⟩:=bind_some hF
 obtain ⟨R3,hR3⟩:=exR fun f w_=>f 0 = .string s∧f 14 = Bo b2∧Star H w_ ([])
 refine W_join R3 ?_ ?_
 refine W_region (mV (.string s) rfl (L_slen (s:=s) rfl Tryz.underlying9 rfl (L_gtr rfl rfl rfl (mB rfl (L_split (d:=10) (b:=decide ((s.size : Int) > 0)) rfl (fun hc4=>?_) (fun hc4=>?_))))))
 rw [ite_t hc4] at hb2
 obtain ⟨x1,hx1,hb2⟩:=bind_some hb2
 refine mV (.string s) rfl (L_sidx rfl Tryz.underlying9 rfl rfl hx1 (L_eql rfl rfl rfl (L_pick (v:=Bo b2) rfl rfl (congrArg Value.bool (so hb2)) (nn (rj hR3 ⟨rfl,rfl,Z⟩)))))
 rw [ite_f hc4] at hb2
 refine ps rfl (ps rfl (ps rfl (L_pick (v:=Bo b2) rfl rfl (congrArg Value.bool (so hb2)) (nn (rj hR3 ⟨rfl,rfl,Z⟩)))))
 intro f w_ hR
 obtain ⟨sf0,sf14,Z⟩:=rk hR3 hR
 refine W_cond (b:=b2) sf14 (fun hc5=>?_) (fun hc5=>?_)
 have hF:=(ite_t hc5).symm.trans hF
 refine W_seq ?_
 obtain ⟨x6,hx6,hF⟩:=bind_some hF
 obtain ⟨x12,hx12,hF⟩:=bind_some hF
 refine W_region (mF sf0 rfl (L_ssl (a:=1) (b:=(s.size : Int)) rfl Tryz.underlying9 rfl rfl rfl hx6 ?_))
 obtain ⟨H14b,l15,s16,z17,k18⟩:=Z.borrow
 refine L_call rfl Tryz.call74 (ops1 rfl) (s_l17Num_c (s:=x6) s16 hx12) ?_
 rintro _ w19 ⟨rfl,Z⟩
 have Z:=k18 Z c0
 refine mV (.tuple #[I x12.1,Bo x12.2]) rfl (L_ex (v:=I x12.1) rfl rfl rfl (L_ex (v:=Bo x12.2) rfl rfl rfl (aI rfl (aB rfl (ns (mI rfl (L_neg rfl rfl (aI rfl (nn (W_ret (retG1 (v1:=I (i64 (-x12.1))) Tryz.results73 rfl ?_)))))))))))
 obtain rfl:=so hF
 exact ⟨rfl,Z⟩
 have hF:=(ite_f hc5).symm.trans hF
 refine W_skip (W_seq ?_)
 obtain ⟨x25,hx25,hF⟩:=bind_some hF
 refine W_region (mF sf0 rfl ?_)
 obtain ⟨H27b,l28,s29,z30,k31⟩:=Z.borrow
 refine L_call rfl Tryz.call74 (ops1 rfl) (s_l17Num_c (s:=s) s29 hx25) ?_
 rintro _ w32 ⟨rfl,Z⟩
 have Z:=k31 Z c0
 refine mV (.tuple #[I x25.1,Bo x25.2]) rfl (L_ex (v:=I x25.1) rfl rfl rfl (L_ex (v:=Bo x25.2) rfl rfl rfl (aI rfl (aB rfl (ns (mI rfl (aI rfl (nn (W_ret (retG1 (v1:=I x25.1) Tryz.results73 rfl ?_))))))))))
 obtain rfl:=so hF
 exact ⟨rfl,Z⟩
theorem s_l6Parse_c {fu : Nat} {line : ByteArray} {H : FH} {w : World} (Z : Star H w []) {r : Rule} (hF : s_l6Parse fu line = some r) :
 C Tryz.prog 31 #[.string line] w fun v w'=>∃ (u1 : Value) (u2 : Value) (u3 : Value),v = .agg #[I r.kind,u1,u2,I r.bound,u3]∧Star H w' [oF 3 RP.int u1 r.vars,oF 3 RP.int u2 r.coefs,own (OR.ownS 22 (OR.ownS 3 (OR.frz RP.int))) [u3] r.rows]:=by
 unfold s_l6Parse at hF
 refine C_enter Tryz.func31 rfl Tryz.ntmps31 rfl (sq (L_al (cs:=#[I 0,S0,S0,I 0,S0]) rfl Tryz.zeroValue49 rfl Z (fun g3 w4 Z=>nq ?_)))
 obtain ⟨x10,hx10,hF⟩:=bind_some hF
 refine W_region (mV (.string line) rfl ?_)
 obtain ⟨H13b,l14,s15,z16,k17⟩:=Z.borrow
 refine L_call rfl Tryz.call29 (ops2 rfl rfl) (s_l17Cut_c (s:=line) (c:=32) s15 hx10) ?_
 rintro r18_0 w18 ⟨_,rfl,Z⟩
 have Z:=k17 Z (co closed_str c0)
 refine aV r18_0 rfl (ns (L_bld rfl (parts0 ) (bld_49_  ) (L_al (cs:=#[I 0,S0,S0,I 0,S0]) rfl Tryz.zeroValue49 rfl Z (fun g23 w24 Z=>L_staB (vs:=#[I 0,S0,S0,I 0,S0]) (cs2:=#[I 0,S0,S0,I 0,S0]) 0 rfl Tryz.sizeOf49 rfl rfl rfl (ones_cons rfl (ones_cons rfl (ones_cons rfl (ones_cons rfl (ones_cons rfl ones_nil))))) Z rfl (by show 0 + 5≤5; decide) rfl (fun w25 Z=>nq (W_seq ?_))))))
 obtain ⟨x26,hx26,hF⟩:=bind_some hF
 refine W_region (mV r18_0 rfl ?_)
 obtain ⟨g31,cap_g31,hv32,_,_⟩:=Star.row 1 Z rfl hx26
 refine L_ixO (R:=(OR.frz RP.str)) (tb:=0) 0 rfl Tryz.underlying44 Tryz.sizeOf9 rfl hv32 (by first | rfl | simp) rfl hx26 ?_
 obtain ⟨cs33,hr33,hat33⟩:=Star.eltF 1 Z rfl hv32 hx26
 obtain rfl : _ = [_]:=hr33
 refine L_ld rfl Tryz.isAgg9 rfl (At.cell hat33 (j:=0) rfl) (nn (W_block (sq (L_seql (s:=x26) (s':=(⟨#[108,105,110,101,97,114]⟩ : ByteArray)) rfl rfl rfl (aB rfl (nn (W_cond (b:=(ByteArray.toList x26 == ByteArray.toList (⟨#[108,105,110,101,97,114]⟩ : ByteArray))) rfl (fun hc35=>?_) (fun hc35=>?_))))))))
 have hF:=(ite_t hc35).symm.trans hF
 refine sq (fA 0 fa_49_0 rfl rfl (L_stB (v:=I 1) (cs2:=#[I 1,S0,S0,I 0,S0]) 0 rfl Tryz.sizeOf3 rfl rfl rfl Z rfl rfl rfl (fun w37 Z=>nq (sq (aI rfl (nn ?_))))))
 obtain ⟨j46,hL46,hF⟩:=bind_some hF
 obtain ⟨R46,hR46⟩:=exR fun f w_=>∃ i_39 : Int,∃ g23_1_40 : List Int,∃ g23_2_42 : List Int,∃ H44 : FH,∃ v40_g23_1 v42_g23_2 : Value,j46 = .nx (i_39,g23_1_40,g23_2_42)∧Le H H44∧f 2 = Pt g3∧f 3 = r18_0∧f 4 = Pt g23∧Star H44 w_ ([oF 9 RP.str r18_0 x10,oF 3 RP.int v40_g23_1 g23_1_40,oF 3 RP.int v42_g23_2 g23_2_42,box g23 49 #[I 1,v40_g23_1,v42_g23_2,I 0,S0],box g3 49 #[I 0,S0,S0,I 0,S0]])
 refine W_join R46 ?_ ?_
 refine W_block ?_
 obtain ⟨I46,hI46⟩:=exI fun n f w_=>∃ i_39 : Int,∃ g23_1_40 : List Int,∃ g23_2_42 : List Int,∃ H44 : FH,∃ v40_g23_1 v42_g23_2 : Value,whileL (s_l6Parse_b1 x10) n (i_39,g23_1_40,g23_2_42) = some j46∧Le H H44∧f 2 = Pt g3∧f 3 = r18_0∧f 4 = Pt g23∧f 5 = I i_39∧Star H44 w_ ([oF 9 RP.str r18_0 x10,oF 3 RP.int v40_g23_1 g23_1_40,oF 3 RP.int v42_g23_2 g23_2_42,box g23 49 #[I 1,v40_g23_1,v42_g23_2,I 0,S0],box g3 49 #[I 0,S0,S0,I 0,S0]])
 have Z:=Star.addNil (R:=(OR.frz RP.int)) (e:=3) Z
 have Z:=Star.addNil (R:=(OR.frz RP.int)) (e:=3) Z
 have Z:=Z.gets [4,3,2,3,4] rfl
 refine W_loop I46 (n:=fu) ?_ ?_
 exact ij hI46 ⟨1,[],[],H,S0,S0,hL46,(Le.refl _),rfl,rfl,rfl,rfl,Z⟩
 intro n46 f w_ hI
 obtain ⟨i_39,g23_1_40,g23_2_42,H44,v40_g23_1,v42_g23_2,hL46,l45,sf2,sf3,sf4,sf5,Z⟩:=ik hI46 hI
 rcases n46 with _ | n46
 exact (while_zero hL46).elim
 obtain ⟨o46,hB46,hL46⟩:=while_succ hL46
 rw [s_l6Parse_b1] at hB46
 refine W_seq (W_seq ?_)
 obtain ⟨R49,hR49⟩:=exR fun f w_=>f 2 = Pt g3∧f 3 = r18_0∧f 4 = Pt g23∧f 5 = I i_39∧f 26 = Bo ((decide ((i64 (i_39 + 3)) < (x10.length : Int))) && (decide (i_39 < 10)))∧Star H44 w_ ([oF 9 RP.str r18_0 x10,oF 3 RP.int v40_g23_1 g23_1_40,oF 3 RP.int v42_g23_2 g23_2_42,box g23 49 #[I 1,v40_g23_1,v42_g23_2,I 0,S0],box g3 49 #[I 0,S0,S0,I 0,S0]])
 refine W_join R49 ?_ ?_
 refine W_region (mF sf5 rfl (L_add rfl rfl rfl (mF sf3 rfl (L_len rfl Tryz.underlying44 rfl (Star.len 0 Z rfl) (L_lss rfl rfl rfl (mB rfl (L_split (d:=23) (b:=decide ((i64 (i_39 + 3)) < (x10.length : Int))) rfl (fun hc50=>?_) (fun hc50=>?_))))))))
 refine mF sf5 rfl (L_lss rfl rfl rfl (L_pick (v:=Bo ((decide ((i64 (i_39 + 3)) < (x10.length : Int))) && (decide (i_39 < 10)))) rfl rfl (and_t hc50 rfl) (nn (rj hR49 ⟨sf2,sf3,sf4,sf5,rfl,Z⟩))))
 refine ps rfl (ps rfl (L_pick (v:=Bo ((decide ((i64 (i_39 + 3)) < (x10.length : Int))) && (decide (i_39 < 10)))) rfl rfl (and_f hc50) (nn (rj hR49 ⟨sf2,sf3,sf4,sf5,rfl,Z⟩))))
 intro f w_ hR
 obtain ⟨sf2,sf3,sf4,sf5,sf26,Z⟩:=rk hR49 hR
 refine W_cond (b:=((decide ((i64 (i_39 + 3)) < (x10.length : Int))) && (decide (i_39 < 10)))) sf26 (fun hc51=>?_) (fun hc51=>?_)
 have hB46:=(ite_t hc51).symm.trans hB46
 refine W_skip (W_seq (W_block (W_seq ?_)))
 obtain ⟨x52,hx52,hB46⟩:=bind_some hB46
 obtain ⟨x62,hx62,hB46⟩:=bind_some hB46
 obtain ⟨x67,hx67,hB46⟩:=bind_some hB46
 obtain ⟨g73,cap_g73,hv74,_,_⟩:=Star.row 0 Z rfl hx52
 refine W_drawS 8 [isV (Pq g23 2),isV (v42_g23_2),isV (r18_0),isV (I i_39),isV (.pointer (some ⟨g73,Int.toNat i_39 * 1,none⟩)),isV (.string x52),isV (I x62),anyF] [oF 9 RP.str r18_0 x10,oF 3 RP.int v40_g23_1 g23_1_40,oF 3 RP.int v42_g23_2 g23_2_42,box g23 49 #[I 1,v40_g23_1,v42_g23_2,I 0,S0],box g3 49 #[I 0,S0,S0,I 0,S0]] [.made 7 36 (fun v_=>oF 3 RP.int v_ ([x62])) none] ([]) [([],[]),([],[]),([],[]),([],[]),([],[]),([],[]),([],[]),([],[0])] (S:=[(some 7,[36],none)]) Tryz_mix (by kernel_rfl) rfl (by kernel_rfl) (amF_cons (mono_V _) (amF_cons (mono_V _) (amF_cons (mono_V _) (amF_cons (mono_V _) (amF_cons (mono_V _) (amF_cons (mono_V _) (amF_cons (mono_V _) (amF_cons (mono_any) amF_nil)))))))) Z ?_ (fun f w_ H72 hS72 hE72 hT72 Z=>?_)
 refine opsS_cons (fun f w_ _ _ s _ _ Z=>fA 2 fa_49_2 ((s 4 rfl).trans sf4) rfl (nO rfl rfl Z)) (opsS_cons (fun f w_ _ _ _ _ p Z=>ldB 3 Z Tryz.isAgg22 (p 0 29 rfl rfl) rfl rfl (nO rfl rfl Z)) (opsS_cons (fun f w_ _ _ s _ _ Z=>mF ((s 3 rfl).trans sf3) rfl (nO rfl rfl Z)) (opsS_cons (fun f w_ _ _ s _ _ Z=>mF ((s 5 rfl).trans sf5) rfl (nO rfl rfl Z)) (opsS_cons (fun f w_ _ _ _ _ p Z=>L_ixO (R:=(OR.frz RP.str)) (tb:=0) 0 rfl Tryz.underlying44 Tryz.sizeOf9 (p 2 31 rfl rfl) hv74 (by first | rfl | simp) (p 3 32 rfl rfl) hx52 (nO rfl rfl Z)) (opsS_cons ?_ ?_)))))
 intro f w_ H72 X72 hS72 hE72 hP72 Z
 obtain ⟨cs86,hr86,hat86⟩:=Star.eltF 0 Z rfl hv74 hx52
 obtain rfl : _ = [_]:=hr86
 refine L_ld rfl Tryz.isAgg9 (hP72 4 33 rfl rfl) (At.cell hat86 (j:=0) rfl) (L_nil ⟨rfl,_,_,rfl,Le.refl _,fun _ _=>rfl,Z⟩)
 refine opsS_cons ?_ ?_
 intro f w_ H72 X72 hS72 hE72 hP72 Z
 obtain ⟨H88b,l89,s90,z91,k92⟩:=Z.borrow
 refine L_call rfl Tryz.call73 (ops1 (hP72 5 34 rfl rfl)) (s_l6Read_c (s:=x52) s90 hx62) ?_
 rintro _ w93 ⟨rfl,Z⟩
 have Z:=k92 Z c0
 exact L_nil ⟨rfl,_,_,rfl,Le.refl _,fun _ _=>rfl,Z⟩
 refine opsS_cons ?_ ?_
 intro f w_ H72 X72 hS72 hE72 hP72 Z
 refine L_bs rfl (parts1 (hP72 6 35 rfl rfl)) (bs_22_1_0 (I x62) rfl) Z (fun g94 w95 Z=>?_)
 have Z:=Star.addF (r:=RP.int) (cs:=[I x62]) (x:=x62) Z rfl
 have Z:=Star.mkRow (R:=(OR.frz RP.int)) [([I x62],x62)] [x62] 1 Z rfl rfl rfl (by decide)
 have Z:=Z.gets [5,5,5,5,5] rfl
 exact L_nil ⟨rfl,_,_,rfl,Le.refl _,fun _ _=>trivial,Z⟩
 exact opsS_nil
 have Z : Star H72 w_ ([oF 9 RP.str r18_0 x10,oF 3 RP.int v40_g23_1 g23_1_40,oF 3 RP.int v42_g23_2 g23_2_42,box g23 49 #[I 1,v40_g23_1,v42_g23_2,I 0,S0],box g3 49 #[I 0,S0,S0,I 0,S0],oF 3 RP.int (f 36) ([x62])]):=Z
 have Z:=Z.gets [5,3] rfl
 refine L_appM (v:=v42_g23_2) (u:=(f 36)) rfl et_22 (hT72 1 30 rfl rfl) rfl Z hx67 (fun v98 w99 Z=>fA 2 fa_49_2 ((hS72 4 rfl).trans sf4) rfl (L_stB (v:=v98) (cs2:=#[I 1,v40_g23_1,v98,I 0,S0]) 3 rfl Tryz.sizeOf22 rfl rfl (one_len (Star.len 0 Z rfl)) Z rfl rfl rfl (fun w101 Z=>L_nil (W_seq ?_))))
 obtain ⟨x102,hx102,hB46⟩:=bind_some hB46
 obtain ⟨x110,hx110,hB46⟩:=bind_some hB46
 refine W_region (mF ((hS72 3 rfl).trans sf3) rfl (mF ((hS72 5 rfl).trans sf5) rfl (L_add rfl rfl rfl (L_ixO (R:=(OR.frz RP.str)) (tb:=0) 0 rfl Tryz.underlying44 Tryz.sizeOf9 rfl hv74 (by first | rfl | simp) rfl hx102 ?_))))
 obtain ⟨cs112,hr112,hat112⟩:=Star.eltF 2 Z rfl hv74 hx102
 obtain rfl : _ = [_]:=hr112
 refine L_ld rfl Tryz.isAgg9 rfl (At.cell hat112 (j:=0) rfl) ?_
 obtain ⟨H114b,l115,s116,z117,k118⟩:=Z.borrow
 refine L_call rfl Tryz.call74 (ops1 rfl) (s_l17Num_c (s:=x102) s116 hx110) ?_
 rintro _ w119 ⟨rfl,Z⟩
 have Z:=k118 Z c0
 refine mV (.tuple #[I x110.1,Bo x110.2]) rfl (L_ex (v:=I x110.1) rfl rfl rfl (L_ex (v:=Bo x110.2) rfl rfl rfl (aI rfl (aB rfl (nn ?_)))))
 obtain ⟨x123,hx123,hB46⟩:=bind_some hB46
 refine W_region (fA 1 fa_49_1 ((hS72 4 rfl).trans sf4) rfl (ldB 0 Z Tryz.isAgg22 rfl rfl rfl (mI rfl (L_bs rfl (parts1 rfl) (bs_22_1_0 (I x110.1) rfl) Z (fun g128 w129 Z=>?_)))))
 have Z:=Star.addF (r:=RP.int) (cs:=[I x110.1]) (x:=x110.1) Z rfl
 have Z:=Star.mkRow (R:=(OR.frz RP.int)) [([I x110.1],x110.1)] [x110.1] 1 Z rfl rfl rfl (by decide)
 have Z:=Z.get 4 rfl
 refine L_appM (v:=v40_g23_1) (u:=(Sl g128 1 1)) rfl et_22 rfl rfl Z hx123 (fun v131 w132 Z=>fA 1 fa_49_1 ((hS72 4 rfl).trans sf4) rfl (L_stB (v:=v131) (cs2:=#[I 1,v131,v98,I 0,S0]) 1 rfl Tryz.sizeOf22 rfl rfl (one_len (Star.len 0 Z rfl)) Z rfl rfl rfl (fun w134 Z=>nn (W_region (mF ((hS72 5 rfl).trans sf5) rfl (L_add rfl rfl rfl (aI rfl (nn ?_))))))))
 obtain rfl:=so hB46
 have Z:=Z.gets [4,1,3,3,4] rfl
 show ∃ m,m < _∧I46 m _ _
 refine ⟨n46,Nat.lt_succ_self _,?_⟩
 exact ij hI46 ⟨i64 (i_39 + 2),x123,x67,H72,v131,v98,hL46,(Le.trans l45 hE72),((hS72 2 rfl).trans sf2),((hS72 3 rfl).trans sf3),((hS72 4 rfl).trans sf4),rfl,Z⟩
 have hB46:=(ite_f hc51).symm.trans hB46
 refine W_exit ?_
 obtain rfl:=so hB46
 obtain rfl:=so hL46
 exact rj hR46 ⟨i_39,g23_1_40,g23_2_42,H44,v40_g23_1,v42_g23_2,rfl,l45,sf2,sf3,sf4,Z⟩
 intro f w_ hR
 obtain ⟨i_39,g23_1_40,g23_2_42,H44,v40_g23_1,v42_g23_2,rfl,l45,sf2,sf3,sf4,Z⟩:=rk hR46 hR
 refine W_seq ?_
 obtain ⟨x135,hx135,hF⟩:=bind_some hF
 obtain ⟨x145,hx145,hF⟩:=bind_some hF
 refine W_region (mF sf3 rfl (mF sf3 rfl (L_len rfl Tryz.underlying44 rfl (Star.len 0 Z rfl) (L_sub rfl rfl rfl ?_))))
 obtain ⟨g148,cap_g148,hv149,_,_⟩:=Star.row 0 Z rfl hx135
 refine L_ixO (R:=(OR.frz RP.str)) (tb:=0) 0 rfl Tryz.underlying44 Tryz.sizeOf9 rfl hv149 (by first | rfl | simp) rfl hx135 ?_
 obtain ⟨cs150,hr150,hat150⟩:=Star.eltF 0 Z rfl hv149 hx135
 obtain rfl : _ = [_]:=hr150
 refine L_ld rfl Tryz.isAgg9 rfl (At.cell hat150 (j:=0) rfl) ?_
 obtain ⟨H152b,l153,s154,z155,k156⟩:=Z.borrow
 refine L_call rfl Tryz.call73 (ops1 rfl) (s_l6Read_c (s:=x135) s154 hx145) ?_
 rintro _ w157 ⟨rfl,Z⟩
 have Z:=k156 Z c0
 refine fA 3 fa_49_3 sf4 rfl (L_stB (v:=I x145) (cs2:=#[I 1,v40_g23_1,v42_g23_2,I x145,S0]) 3 rfl Tryz.sizeOf3 rfl rfl rfl Z rfl rfl rfl (fun w158 Z=>ns (L_lda (cs:=[I 1,v40_g23_1,v42_g23_2,I x145,S0]) rfl Tryz.isAgg49 Tryz.sizeOf49 sf4 (At.sub0 (Blk.at (Star.blkAt 0 Z rfl)) 0 5) rfl (L_staB (vs:=#[I 1,v40_g23_1,v42_g23_2,I x145,S0]) (cs2:=#[I 1,v40_g23_1,v42_g23_2,I x145,S0]) 4 rfl Tryz.sizeOf49 sf2 rfl rfl (ones_cons rfl (ones_cons (one_len (Star.len 2 Z rfl)) (ones_cons (one_len (Star.len 3 Z rfl)) (ones_cons rfl (ones_cons rfl ones_nil))))) Z rfl (by show 0 + 5≤5; decide) rfl (fun w160 Z=>nn (W_ret (retG1 (v1:=.agg #[I 1,v40_g23_1,v42_g23_2,I x145,S0]) Tryz.results31 (resV_agg Tryz.isAgg49 Tryz.sizeOf49 sf2 (Star.blkAt 0 Z rfl) rfl) ?_)))))))
 obtain rfl:=so hF
 have Z:=Star.addNil (R:=(OR.ownS 3 (OR.frz RP.int))) (e:=22) Z
 have Z:=Z.gets [5,5] rfl
 exact ⟨v40_g23_1,v42_g23_2,S0,rfl,(Star.down (Star.keepN 3 Z) l45 (co closed_int (co closed_int (cc (closed_own (OR.closed_ownS (OR.closed_ownS closed_int)) _ _) c0))))⟩
 have hF:=(ite_f hc35).symm.trans hF
 refine sq (L_seql (s:=x26) (s':=(⟨#[100,105,102,102,101,114,101,110,116]⟩ : ByteArray)) rfl rfl rfl (aB rfl (nn ?_)))
 obtain ⟨⟨g23_0_162,g23_4_163⟩,hA167,hF⟩:=bind_some hF
 obtain ⟨R167,hR167⟩:=exR fun f w_=>∃ H165 : FH,∃ v163_g23_4 : Value,Le H H165∧f 2 = Pt g3∧f 3 = r18_0∧f 4 = Pt g23∧Star H165 w_ ([oF 9 RP.str r18_0 x10,own (OR.ownS 22 (OR.ownS 3 (OR.frz RP.int))) [v163_g23_4] g23_4_163,box g23 49 #[I g23_0_162,S0,S0,I 0,v163_g23_4],box g3 49 #[I 0,S0,S0,I 0,S0]])
 refine W_join R167 ?_ ?_
 refine W_cond (b:=(ByteArray.toList x26 == ByteArray.toList (⟨#[100,105,102,102,101,114,101,110,116]⟩ : ByteArray))) rfl (fun hc168=>?_) (fun hc168=>?_)
 have hA167:=(ite_t hc168).symm.trans hA167
 refine W_region (fA 0 fa_49_0 rfl rfl (L_stB (v:=I 2) (cs2:=#[I 2,S0,S0,I 0,S0]) 0 rfl Tryz.sizeOf3 rfl rfl rfl Z rfl rfl rfl (fun w170 Z=>nn ?_)))
 obtain ⟨rfl,rfl⟩:=so2 hA167
 have Z:=Star.addNil (R:=(OR.ownS 3 (OR.frz RP.int))) (e:=22) Z
 have Z:=Z.gets [3,2,2,3] rfl
 exact rj hR167 ⟨H,S0,(Le.refl _),rfl,rfl,rfl,Z⟩
 have hA167:=(ite_f hc168).symm.trans hA167
 refine sq (L_seql (s:=x26) (s':=(⟨#[108,101,115,115]⟩ : ByteArray)) rfl rfl rfl (aB rfl (nn ?_)))
 obtain ⟨⟨g23_0_172,g23_4_173⟩,hA177,hA167⟩:=bind_some hA167
 obtain ⟨R177,hR177⟩:=exR fun f w_=>∃ H175 : FH,∃ v173_g23_4 : Value,Le H H175∧f 2 = Pt g3∧f 3 = r18_0∧f 4 = Pt g23∧Star H175 w_ ([oF 9 RP.str r18_0 x10,own (OR.ownS 22 (OR.ownS 3 (OR.frz RP.int))) [v173_g23_4] g23_4_173,box g23 49 #[I g23_0_172,S0,S0,I 0,v173_g23_4],box g3 49 #[I 0,S0,S0,I 0,S0]])
 refine W_join R177 ?_ ?_
 refine W_cond (b:=(ByteArray.toList x26 == ByteArray.toList (⟨#[108,101,115,115]⟩ : ByteArray))) rfl (fun hc178=>?_) (fun hc178=>?_)
 have hA177:=(ite_t hc178).symm.trans hA177
 refine W_region (fA 0 fa_49_0 rfl rfl (L_stB (v:=I 4) (cs2:=#[I 4,S0,S0,I 0,S0]) 0 rfl Tryz.sizeOf3 rfl rfl rfl Z rfl rfl rfl (fun w180 Z=>nn ?_)))
 obtain ⟨rfl,rfl⟩:=so2 hA177
 have Z:=Star.addNil (R:=(OR.ownS 3 (OR.frz RP.int))) (e:=22) Z
 have Z:=Z.gets [3,2,2,3] rfl
 exact rj hR177 ⟨H,S0,(Le.refl _),rfl,rfl,rfl,Z⟩
 have hA177:=(ite_f hc178).symm.trans hA177
 refine sq (L_seql (s:=x26) (s':=(⟨#[116,97,98,108,101]⟩ : ByteArray)) rfl rfl rfl (aB rfl (nn ?_)))
 obtain ⟨⟨g23_0_182,g23_4_183⟩,hA187,hA177⟩:=bind_some hA177
 obtain ⟨R187,hR187⟩:=exR fun f w_=>∃ H185 : FH,∃ v183_g23_4 : Value,Le H H185∧f 2 = Pt g3∧f 3 = r18_0∧f 4 = Pt g23∧Star H185 w_ ([oF 9 RP.str r18_0 x10,own (OR.ownS 22 (OR.ownS 3 (OR.frz RP.int))) [v183_g23_4] g23_4_183,box g23 49 #[I g23_0_182,S0,S0,I 0,v183_g23_4],box g3 49 #[I 0,S0,S0,I 0,S0]])
 refine W_join R187 ?_ ?_
 refine W_cond (b:=(ByteArray.toList x26 == ByteArray.toList (⟨#[116,97,98,108,101]⟩ : ByteArray))) rfl (fun hc188=>?_) (fun hc188=>?_)
 have hA187:=(ite_t hc188).symm.trans hA187
 refine sq (fA 0 fa_49_0 rfl rfl (L_stB (v:=I 3) (cs2:=#[I 3,S0,S0,I 0,S0]) 0 rfl Tryz.sizeOf3 rfl rfl rfl Z rfl rfl rfl (fun w190 Z=>ns (aI rfl (nn ?_)))))
 obtain ⟨j198,hL198,hA187⟩:=bind_some hA187
 obtain ⟨R198,hR198⟩:=exR fun f w_=>∃ i_193 : Int,∃ g23_4_194 : List (List Int),∃ H196 : FH,∃ v194_g23_4 : Value,j198 = .nx (i_193,g23_4_194)∧Le H H196∧f 2 = Pt g3∧f 3 = r18_0∧f 4 = Pt g23∧Star H196 w_ ([oF 9 RP.str r18_0 x10,own (OR.ownS 22 (OR.ownS 3 (OR.frz RP.int))) [v194_g23_4] g23_4_194,box g23 49 #[I 3,S0,S0,I 0,v194_g23_4],box g3 49 #[I 0,S0,S0,I 0,S0]])
 refine W_join R198 ?_ ?_
 refine W_block ?_
 obtain ⟨I198,hI198⟩:=exI fun n f w_=>∃ i_193 : Int,∃ g23_4_194 : List (List Int),∃ H196 : FH,∃ v194_g23_4 : Value,whileL (s_l6Parse_b2 x10) n (i_193,g23_4_194) = some j198∧Le H H196∧f 2 = Pt g3∧f 3 = r18_0∧f 4 = Pt g23∧f 8 = I i_193∧Star H196 w_ ([oF 9 RP.str r18_0 x10,own (OR.ownS 22 (OR.ownS 3 (OR.frz RP.int))) [v194_g23_4] g23_4_194,box g23 49 #[I 3,S0,S0,I 0,v194_g23_4],box g3 49 #[I 0,S0,S0,I 0,S0]])
 have Z:=Star.addNil (R:=(OR.ownS 3 (OR.frz RP.int))) (e:=22) Z
 have Z:=Z.gets [3,2,2,3] rfl
 refine W_loop I198 (n:=fu) ?_ ?_
 exact ij hI198 ⟨2,[],H,S0,hL198,(Le.refl _),rfl,rfl,rfl,rfl,Z⟩
 intro n198 f w_ hI
 obtain ⟨i_193,g23_4_194,H196,v194_g23_4,hL198,l197,sf2,sf3,sf4,sf8,Z⟩:=ik hI198 hI
 rcases n198 with _ | n198
 exact (while_zero hL198).elim
 obtain ⟨o198,hB198,hL198⟩:=while_succ hL198
 rw [s_l6Parse_b2] at hB198
 refine W_seq (W_seq ?_)
 obtain ⟨R200,hR200⟩:=exR fun f w_=>f 2 = Pt g3∧f 3 = r18_0∧f 4 = Pt g23∧f 8 = I i_193∧f 79 = Bo ((decide (i_193 < (x10.length : Int))) && (decide (i_193 < 11)))∧Star H196 w_ ([oF 9 RP.str r18_0 x10,own (OR.ownS 22 (OR.ownS 3 (OR.frz RP.int))) [v194_g23_4] g23_4_194,box g23 49 #[I 3,S0,S0,I 0,v194_g23_4],box g3 49 #[I 0,S0,S0,I 0,S0]])
 refine W_join R200 ?_ ?_
 refine W_region (mF sf8 rfl (mF sf3 rfl (L_len rfl Tryz.underlying44 rfl (Star.len 0 Z rfl) (L_lss rfl rfl rfl (mB rfl (L_split (d:=76) (b:=decide (i_193 < (x10.length : Int))) rfl (fun hc201=>?_) (fun hc201=>?_)))))))
 refine mF sf8 rfl (L_lss rfl rfl rfl (L_pick (v:=Bo ((decide (i_193 < (x10.length : Int))) && (decide (i_193 < 11)))) rfl rfl (and_t hc201 rfl) (nn (rj hR200 ⟨sf2,sf3,sf4,sf8,rfl,Z⟩))))
 refine ps rfl (ps rfl (L_pick (v:=Bo ((decide (i_193 < (x10.length : Int))) && (decide (i_193 < 11)))) rfl rfl (and_f hc201) (nn (rj hR200 ⟨sf2,sf3,sf4,sf8,rfl,Z⟩))))
 intro f w_ hR
 obtain ⟨sf2,sf3,sf4,sf8,sf79,Z⟩:=rk hR200 hR
 refine W_cond (b:=((decide (i_193 < (x10.length : Int))) && (decide (i_193 < 11)))) sf79 (fun hc202=>?_) (fun hc202=>?_)
 have hB198:=(ite_t hc202).symm.trans hB198
 refine W_skip (W_seq (W_block ?_))
 obtain ⟨x203,hx203,hB198⟩:=bind_some hB198
 obtain ⟨x213,hx213,hB198⟩:=bind_some hB198
 obtain ⟨x219,hx219,hB198⟩:=bind_some hB198
 obtain ⟨g225,cap_g225,hv226,_,_⟩:=Star.row 0 Z rfl hx203
 refine W_drawS 8 [isV (Pq g23 4),isV (v194_g23_4),isV (r18_0),isV (I i_193),isV (.pointer (some ⟨g225,Int.toNat i_193 * 1,none⟩)),isV (.string x203),anyF,anyF] [oF 9 RP.str r18_0 x10,own (OR.ownS 22 (OR.ownS 3 (OR.frz RP.int))) [v194_g23_4] g23_4_194,box g23 49 #[I 3,S0,S0,I 0,v194_g23_4],box g3 49 #[I 0,S0,S0,I 0,S0]] [.made 6 88 (fun v_=>oF 3 RP.int v_ x213) (some 7),.made 7 89 (fun v_=>own (OR.ownS 22 (OR.ownS 3 (OR.frz RP.int))) [v_] ([x213])) none] ([]) [([],[]),([],[]),([],[]),([],[]),([],[]),([],[]),([],[0]),([0],[1])] (S:=[(some 6,[88],some 7),(some 7,[89],none)]) Tryz_mix (by kernel_rfl) rfl (by kernel_rfl) (amF_cons (mono_V _) (amF_cons (mono_V _) (amF_cons (mono_V _) (amF_cons (mono_V _) (amF_cons (mono_V _) (amF_cons (mono_V _) (amF_cons (mono_any) (amF_cons (mono_any) amF_nil)))))))) Z ?_ (fun f w_ H224 hS224 hE224 hT224 Z=>?_)
 refine opsS_cons (fun f w_ _ _ s _ _ Z=>fA 4 fa_49_4 ((s 4 rfl).trans sf4) rfl (nO rfl rfl Z)) (opsS_cons (fun f w_ _ _ _ _ p Z=>ldB 2 Z Tryz.isAgg47 (p 0 82 rfl rfl) rfl rfl (nO rfl rfl Z)) (opsS_cons (fun f w_ _ _ s _ _ Z=>mF ((s 3 rfl).trans sf3) rfl (nO rfl rfl Z)) (opsS_cons (fun f w_ _ _ s _ _ Z=>mF ((s 8 rfl).trans sf8) rfl (nO rfl rfl Z)) (opsS_cons (fun f w_ _ _ _ _ p Z=>L_ixO (R:=(OR.frz RP.str)) (tb:=0) 0 rfl Tryz.underlying44 Tryz.sizeOf9 (p 2 84 rfl rfl) hv226 (by first | rfl | simp) (p 3 85 rfl rfl) hx203 (nO rfl rfl Z)) (opsS_cons ?_ ?_)))))
 intro f w_ H224 X224 hS224 hE224 hP224 Z
 obtain ⟨cs239,hr239,hat239⟩:=Star.eltF 0 Z rfl hv226 hx203
 obtain rfl : _ = [_]:=hr239
 refine L_ld rfl Tryz.isAgg9 (hP224 4 86 rfl rfl) (At.cell hat239 (j:=0) rfl) (L_nil ⟨rfl,_,_,rfl,Le.refl _,fun _ _=>rfl,Z⟩)
 refine opsS_cons ?_ ?_
 intro f w_ H224 X224 hS224 hE224 hP224 Z
 obtain ⟨H241b,l242,s243,z244,k245⟩:=Z.borrow
 refine L_call rfl Tryz.call30 (ops1 (hP224 5 87 rfl rfl)) (s_l6Numbers_c (s:=x203) s243 hx213) ?_
 rintro r246_0 w246 ⟨_,rfl,Z⟩
 have Z:=k245 Z (co closed_int c0)
 have Z:=Z.gets [4,4,4,4] rfl
 exact L_nil ⟨rfl,_,_,rfl,Le.refl _,fun _ _=>trivial,Z⟩
 refine opsS_cons ?_ ?_
 intro f w_ H224 X224 hS224 hE224 hP224 Z
 have Z : Star H224 w_ (oF 9 RP.str r18_0 x10 :: own (OR.ownS 22 (OR.ownS 3 (OR.frz RP.int))) [v194_g23_4] g23_4_194 :: box g23 49 #[I 3,S0,S0,I 0,v194_g23_4] :: box g3 49 #[I 0,S0,S0,I 0,S0] :: oF 3 RP.int (f 88) x213 :: X224):=Z
 refine L_bs rfl (parts1 rfl) (bs_47_1_0 ((f 88)) (one_len (Star.len 4 Z rfl))) Z (fun g249 w250 Z=>?_)
 have Z:=Z.get 5 rfl
 have Z:=Star.mkRow (R:=(OR.ownS 3 (OR.frz RP.int))) [([(f 88)],x213)] [x213] 1 Z rfl rfl rfl (by decide)
 have Z:=Z.gets [4,4,4,4] rfl
 exact L_nil ⟨rfl,_,_,rfl,Le.refl _,fun _ _=>trivial,Z⟩
 exact opsS_nil
 have Z : Star H224 w_ ([oF 9 RP.str r18_0 x10,own (OR.ownS 22 (OR.ownS 3 (OR.frz RP.int))) [v194_g23_4] g23_4_194,box g23 49 #[I 3,S0,S0,I 0,v194_g23_4],box g3 49 #[I 0,S0,S0,I 0,S0],own (OR.ownS 22 (OR.ownS 3 (OR.frz RP.int))) [(f 89)] ([x213])]):=Z
 have Z:=Z.gets [4,2] rfl
 refine L_appM (v:=v194_g23_4) (u:=(f 89)) rfl et_47 (hT224 1 83 rfl rfl) rfl Z hx219 (fun v253 w254 Z=>fA 4 fa_49_4 ((hS224 4 rfl).trans sf4) rfl (L_stB (v:=v253) (cs2:=#[I 3,S0,S0,I 0,v253]) 2 rfl Tryz.sizeOf47 rfl rfl (one_len (Star.len 0 Z rfl)) Z rfl rfl rfl (fun w256 Z=>nn (W_region (mF ((hS224 8 rfl).trans sf8) rfl (L_add rfl rfl rfl (aI rfl (nn ?_))))))))
 obtain rfl:=so hB198
 have Z:=Z.gets [3,1,2,3] rfl
 show ∃ m,m < _∧I198 m _ _
 refine ⟨n198,Nat.lt_succ_self _,?_⟩
 exact ij hI198 ⟨i64 (i_193 + 1),x219,H224,v253,hL198,(Le.trans l197 hE224),((hS224 2 rfl).trans sf2),((hS224 3 rfl).trans sf3),((hS224 4 rfl).trans sf4),rfl,Z⟩
 have hB198:=(ite_f hc202).symm.trans hB198
 refine W_exit ?_
 obtain rfl:=so hB198
 obtain rfl:=so hL198
 exact rj hR198 ⟨i_193,g23_4_194,H196,v194_g23_4,rfl,l197,sf2,sf3,sf4,Z⟩
 intro f w_ hR
 obtain ⟨i_193,g23_4_194,H196,v194_g23_4,rfl,l197,sf2,sf3,sf4,Z⟩:=rk hR198 hR
 obtain ⟨rfl,rfl⟩:=so2 hA187
 exact rj hR187 ⟨H196,v194_g23_4,l197,sf2,sf3,sf4,Z⟩
 have hA187:=(ite_f hc188).symm.trans hA187
 refine W_skip ?_
 obtain ⟨rfl,rfl⟩:=so2 hA187
 have Z:=Star.addNil (R:=(OR.ownS 3 (OR.frz RP.int))) (e:=22) Z
 have Z:=Z.gets [3,2,2,3] rfl
 exact rj hR187 ⟨H,S0,(Le.refl _),rfl,rfl,rfl,Z⟩
 intro f w_ hR
 obtain ⟨H185,v183_g23_4,l186,sf2,sf3,sf4,Z⟩:=rk hR187 hR
 obtain ⟨rfl,rfl⟩:=so2 hA177
 exact rj hR177 ⟨H185,v183_g23_4,l186,sf2,sf3,sf4,Z⟩
 intro f w_ hR
 obtain ⟨H175,v173_g23_4,l176,sf2,sf3,sf4,Z⟩:=rk hR177 hR
 obtain ⟨rfl,rfl⟩:=so2 hA167
 exact rj hR167 ⟨H175,v173_g23_4,l176,sf2,sf3,sf4,Z⟩
 intro f w_ hR
 obtain ⟨H165,v163_g23_4,l166,sf2,sf3,sf4,Z⟩:=rk hR167 hR
 refine W_seq (sq (mF sf3 rfl (L_len rfl Tryz.underlying44 rfl (Star.len 0 Z rfl) (L_gtr rfl rfl rfl (nn ?_)))))
 obtain ⟨g23_1_258,hA260,hF⟩:=bind_some hF
 obtain ⟨R260,hR260⟩:=exR fun f w_=>∃ v258_g23_1 : Value,f 2 = Pt g3∧f 4 = Pt g23∧Star H165 w_ ([oF 3 RP.int v258_g23_1 g23_1_258,own (OR.ownS 22 (OR.ownS 3 (OR.frz RP.int))) [v163_g23_4] g23_4_163,box g23 49 #[I g23_0_162,v258_g23_1,S0,I 0,v163_g23_4],box g3 49 #[I 0,S0,S0,I 0,S0]])
 refine W_join R260 ?_ ?_
 refine W_cond (b:=decide ((x10.length : Int) > 1)) rfl (fun hc261=>?_) (fun hc261=>?_)
 have hA260:=(ite_t hc261).symm.trans hA260
 obtain ⟨x262,hx262,hA260⟩:=bind_some hA260
 obtain ⟨x272,hx272,hA260⟩:=bind_some hA260
 refine W_region (mF sf3 rfl ?_)
 obtain ⟨g276,cap_g276,hv277,_,_⟩:=Star.row 0 Z rfl hx262
 refine L_ixO (R:=(OR.frz RP.str)) (tb:=0) 0 rfl Tryz.underlying44 Tryz.sizeOf9 rfl hv277 (by first | rfl | simp) rfl hx262 ?_
 obtain ⟨cs278,hr278,hat278⟩:=Star.eltF 0 Z rfl hv277 hx262
 obtain rfl : _ = [_]:=hr278
 refine L_ld rfl Tryz.isAgg9 rfl (At.cell hat278 (j:=0) rfl) ?_
 obtain ⟨H280b,l281,s282,z283,k284⟩:=Z.borrow
 refine L_call rfl Tryz.call30 (ops1 rfl) (s_l6Numbers_c (s:=x262) s282 hx272) ?_
 rintro r285_0 w285 ⟨_,rfl,Z⟩
 have Z:=k284 Z (co closed_int c0)
 refine fA 1 fa_49_1 sf4 rfl (L_stB (v:=r285_0) (cs2:=#[I g23_0_162,r285_0,S0,I 0,v163_g23_4]) 3 rfl Tryz.sizeOf22 rfl rfl (one_len (Star.len 0 Z rfl)) Z rfl rfl rfl (fun w287 Z=>nn ?_))
 obtain rfl:=so hA260
 have Z:=Z.gets [4,1,4,3] rfl
 exact rj hR260 ⟨r285_0,sf2,sf4,(Star.keepN 4 Z)⟩
 have hA260:=(ite_f hc261).symm.trans hA260
 refine W_skip ?_
 obtain rfl:=so hA260
 have Z:=Star.addNil (R:=(OR.frz RP.int)) (e:=3) Z
 have Z:=Z.gets [4,4,4,3] rfl
 exact rj hR260 ⟨S0,sf2,sf4,(Star.keepN 4 Z)⟩
 intro f w_ hR
 obtain ⟨v258_g23_1,sf2,sf4,Z⟩:=rk hR260 hR
 refine sq (L_lda (cs:=[I g23_0_162,v258_g23_1,S0,I 0,v163_g23_4]) rfl Tryz.isAgg49 Tryz.sizeOf49 sf4 (At.sub0 (Blk.at (Star.blkAt 2 Z rfl)) 0 5) rfl (L_staB (vs:=#[I g23_0_162,v258_g23_1,S0,I 0,v163_g23_4]) (cs2:=#[I g23_0_162,v258_g23_1,S0,I 0,v163_g23_4]) 3 rfl Tryz.sizeOf49 sf2 rfl rfl (ones_cons rfl (ones_cons (one_len (Star.len 0 Z rfl)) (ones_cons rfl (ones_cons rfl (ones_cons (one_len (Star.len 1 Z rfl)) ones_nil))))) Z rfl (by show 0 + 5≤5; decide) rfl (fun w290 Z=>nn (W_ret (retG1 (v1:=.agg #[I g23_0_162,v258_g23_1,S0,I 0,v163_g23_4]) Tryz.results31 (resV_agg Tryz.isAgg49 Tryz.sizeOf49 sf2 (Star.blkAt 0 Z rfl) rfl) ?_)))))
 obtain rfl:=so hF
 have Z:=Star.addNil (R:=(OR.frz RP.int)) (e:=3) Z
 have Z:=Z.gets [3,1,3] rfl
 exact ⟨v258_g23_1,S0,v163_g23_4,rfl,(Star.down (Star.keepN 3 Z) l166 (co closed_int (co closed_int (cc (closed_own (OR.closed_ownS (OR.closed_ownS closed_int)) _ _) c0))))⟩
theorem s_ParseModel_c {fu : Nat} {text : ByteArray} {H : FH} {w : World} (Z : Star H w []) {r : Model × Bool} (hF : s_ParseModel fu text = some r) :
 C Tryz.prog 7 #[.string text] w fun v w'=>∃ (u1 : Value) (u2 : Value),v = .tuple #[.agg #[u1,u2],Bo r.2]∧Star H w' [oF 3 RP.int u1 r.1.sizes,oS 49 (oRule 3 22) u2 r.1.rules]:=by
 unfold s_ParseModel at hF
 refine C_enter Tryz.func7 rfl Tryz.ntmps7 rfl (sq (L_al (cs:=#[S0,S0]) rfl Tryz.zeroValue25 rfl Z (fun g3 w4 Z=>aB rfl (nq ?_))))
 obtain ⟨x10,hx10,hF⟩:=bind_some hF
 refine W_region (mV (.string text) rfl ?_)
 obtain ⟨H13b,l14,s15,z16,k17⟩:=Z.borrow
 refine L_call rfl Tryz.call29 (ops2 rfl rfl) (s_l17Cut_c (s:=text) (c:=10) s15 hx10) ?_
 rintro r18_0 w18 ⟨_,rfl,Z⟩
 have Z:=k17 Z (co closed_str c0)
 refine aV r18_0 rfl (nq (W_seq ?_))
 obtain ⟨b25,hb25,hF⟩:=bind_some hF
 obtain ⟨b30,hb30,hF⟩:=bind_some hF
 obtain ⟨R31,hR31⟩:=exR fun f w_=>f 0 = .string text∧f 2 = Pt g3∧f 4 = r18_0∧f 30 = Bo b30∧Star H w_ ([oF 9 RP.str r18_0 x10,box g3 25 #[S0,S0]])
 refine W_join R31 ?_ ?_
 refine W_region (mV r18_0 rfl (L_len rfl Tryz.underlying44 rfl (Star.len 0 Z rfl) (L_lss rfl rfl rfl (mB rfl (L_split (d:=12) (b:=decide ((x10.length : Int) < 2)) rfl (fun hc32=>?_) (fun hc32=>?_))))))
 refine ps rfl (ps rfl (ps rfl (L_pick (v:=Bo ((decide ((x10.length : Int) < 2)) || (decide ((x10.length : Int) > 10)))) rfl rfl (or_t hc32) (mB rfl (L_split (d:=17) (b:=((decide ((x10.length : Int) < 2)) || (decide ((x10.length : Int) > 10)))) rfl (fun hc33=>?_) (fun hc33=>?_))))))
 rw [ite_t hc33] at hb25
 refine ps rfl (ps rfl (ps rfl (ps rfl (ps rfl (L_pick (v:=Bo b25) rfl rfl (congrArg Value.bool (so hb25)) (mB rfl (L_split (d:=24) (b:=b25) rfl (fun hc34=>?_) (fun hc34=>?_))))))))
 rw [ite_t hc34] at hb30
 refine ps rfl (ps rfl (ps rfl (ps rfl (ps rfl (L_pick (v:=Bo b30) rfl rfl (congrArg Value.bool (so hb30)) (nn (rj hR31 ⟨rfl,rfl,rfl,rfl,Z⟩)))))))
 rw [ite_f hc34] at hb30
 obtain ⟨x26,hx26,hb30⟩:=bind_some hb30
 obtain ⟨x29,hx29,hb30⟩:=bind_some hb30
 refine mV r18_0 rfl ?_
 obtain ⟨g35,cap_g35,hv36,_,_⟩:=Star.row 0 Z rfl hx26
 refine L_ixO (R:=(OR.frz RP.str)) (tb:=0) 0 rfl Tryz.underlying44 Tryz.sizeOf9 rfl hv36 (by first | rfl | simp) rfl hx26 ?_
 obtain ⟨cs37,hr37,hat37⟩:=Star.eltF 0 Z rfl hv36 hx26
 obtain rfl : _ = [_]:=hr37
 refine L_ld rfl Tryz.isAgg9 rfl (At.cell hat37 (j:=0) rfl) (L_ssl (a:=0) (b:=6) rfl Tryz.underlying9 rfl rfl rfl hx29 (L_sneq (s:=x29) (s':=(⟨#[115,105,122,101,115,32]⟩ : ByteArray)) rfl rfl rfl (L_pick (v:=Bo b30) rfl rfl (congrArg Value.bool (so hb30)) (nn (rj hR31 ⟨rfl,rfl,rfl,rfl,Z⟩)))))
 rw [ite_f hc33] at hb25
 obtain ⟨x20,hx20,hb25⟩:=bind_some hb25
 refine mV r18_0 rfl ?_
 obtain ⟨g39,cap_g39,hv40,_,_⟩:=Star.row 0 Z rfl hx20
 refine L_ixO (R:=(OR.frz RP.str)) (tb:=0) 0 rfl Tryz.underlying44 Tryz.sizeOf9 rfl hv40 (by first | rfl | simp) rfl hx20 ?_
 obtain ⟨cs41,hr41,hat41⟩:=Star.eltF 0 Z rfl hv40 hx20
 obtain rfl : _ = [_]:=hr41
 refine L_ld rfl Tryz.isAgg9 rfl (At.cell hat41 (j:=0) rfl) (L_slen (s:=x20) rfl Tryz.underlying9 rfl (L_lss rfl rfl rfl (L_pick (v:=Bo b25) rfl rfl (congrArg Value.bool (so hb25)) (mB rfl (L_split (d:=24) (b:=b25) rfl (fun hc43=>?_) (fun hc43=>?_))))))
 rw [ite_t hc43] at hb30
 refine ps rfl (ps rfl (ps rfl (ps rfl (ps rfl (L_pick (v:=Bo b30) rfl rfl (congrArg Value.bool (so hb30)) (nn (rj hR31 ⟨rfl,rfl,rfl,rfl,Z⟩)))))))
 rw [ite_f hc43] at hb30
 obtain ⟨x26,hx26,hb30⟩:=bind_some hb30
 obtain ⟨x29,hx29,hb30⟩:=bind_some hb30
 refine mV r18_0 rfl (L_ixO (R:=(OR.frz RP.str)) (tb:=0) 0 rfl Tryz.underlying44 Tryz.sizeOf9 rfl hv40 (by first | rfl | simp) rfl hx26 ?_)
 obtain ⟨cs44,hr44,hat44⟩:=Star.eltF 0 Z rfl hv40 hx26
 obtain rfl : _ = [_]:=hr44
 refine L_ld rfl Tryz.isAgg9 rfl (At.cell hat44 (j:=0) rfl) (L_ssl (a:=0) (b:=6) rfl Tryz.underlying9 rfl rfl rfl hx29 (L_sneq (s:=x29) (s':=(⟨#[115,105,122,101,115,32]⟩ : ByteArray)) rfl rfl rfl (L_pick (v:=Bo b30) rfl rfl (congrArg Value.bool (so hb30)) (nn (rj hR31 ⟨rfl,rfl,rfl,rfl,Z⟩)))))
 refine mV r18_0 rfl (L_len rfl Tryz.underlying44 rfl (Star.len 0 Z rfl) (L_gtr rfl rfl rfl (L_pick (v:=Bo ((decide ((x10.length : Int) < 2)) || (decide ((x10.length : Int) > 10)))) rfl rfl (or_f hc32 rfl) (mB rfl (L_split (d:=17) (b:=((decide ((x10.length : Int) < 2)) || (decide ((x10.length : Int) > 10)))) rfl (fun hc46=>?_) (fun hc46=>?_))))))
 rw [ite_t hc46] at hb25
 refine ps rfl (ps rfl (ps rfl (ps rfl (ps rfl (L_pick (v:=Bo b25) rfl rfl (congrArg Value.bool (so hb25)) (mB rfl (L_split (d:=24) (b:=b25) rfl (fun hc47=>?_) (fun hc47=>?_))))))))
 rw [ite_t hc47] at hb30
 refine ps rfl (ps rfl (ps rfl (ps rfl (ps rfl (L_pick (v:=Bo b30) rfl rfl (congrArg Value.bool (so hb30)) (nn (rj hR31 ⟨rfl,rfl,rfl,rfl,Z⟩)))))))
 rw [ite_f hc47] at hb30
 obtain ⟨x26,hx26,hb30⟩:=bind_some hb30
 obtain ⟨x29,hx29,hb30⟩:=bind_some hb30
 refine mV r18_0 rfl ?_
 obtain ⟨g48,cap_g48,hv49,_,_⟩:=Star.row 0 Z rfl hx26
 refine L_ixO (R:=(OR.frz RP.str)) (tb:=0) 0 rfl Tryz.underlying44 Tryz.sizeOf9 rfl hv49 (by first | rfl | simp) rfl hx26 ?_
 obtain ⟨cs50,hr50,hat50⟩:=Star.eltF 0 Z rfl hv49 hx26
 obtain rfl : _ = [_]:=hr50
 refine L_ld rfl Tryz.isAgg9 rfl (At.cell hat50 (j:=0) rfl) (L_ssl (a:=0) (b:=6) rfl Tryz.underlying9 rfl rfl rfl hx29 (L_sneq (s:=x29) (s':=(⟨#[115,105,122,101,115,32]⟩ : ByteArray)) rfl rfl rfl (L_pick (v:=Bo b30) rfl rfl (congrArg Value.bool (so hb30)) (nn (rj hR31 ⟨rfl,rfl,rfl,rfl,Z⟩)))))
 rw [ite_f hc46] at hb25
 obtain ⟨x20,hx20,hb25⟩:=bind_some hb25
 refine mV r18_0 rfl ?_
 obtain ⟨g52,cap_g52,hv53,_,_⟩:=Star.row 0 Z rfl hx20
 refine L_ixO (R:=(OR.frz RP.str)) (tb:=0) 0 rfl Tryz.underlying44 Tryz.sizeOf9 rfl hv53 (by first | rfl | simp) rfl hx20 ?_
 obtain ⟨cs54,hr54,hat54⟩:=Star.eltF 0 Z rfl hv53 hx20
 obtain rfl : _ = [_]:=hr54
 refine L_ld rfl Tryz.isAgg9 rfl (At.cell hat54 (j:=0) rfl) (L_slen (s:=x20) rfl Tryz.underlying9 rfl (L_lss rfl rfl rfl (L_pick (v:=Bo b25) rfl rfl (congrArg Value.bool (so hb25)) (mB rfl (L_split (d:=24) (b:=b25) rfl (fun hc56=>?_) (fun hc56=>?_))))))
 rw [ite_t hc56] at hb30
 refine ps rfl (ps rfl (ps rfl (ps rfl (ps rfl (L_pick (v:=Bo b30) rfl rfl (congrArg Value.bool (so hb30)) (nn (rj hR31 ⟨rfl,rfl,rfl,rfl,Z⟩)))))))
 rw [ite_f hc56] at hb30
 obtain ⟨x26,hx26,hb30⟩:=bind_some hb30
 obtain ⟨x29,hx29,hb30⟩:=bind_some hb30
 refine mV r18_0 rfl (L_ixO (R:=(OR.frz RP.str)) (tb:=0) 0 rfl Tryz.underlying44 Tryz.sizeOf9 rfl hv53 (by first | rfl | simp) rfl hx26 ?_)
 obtain ⟨cs57,hr57,hat57⟩:=Star.eltF 0 Z rfl hv53 hx26
 obtain rfl : _ = [_]:=hr57
 refine L_ld rfl Tryz.isAgg9 rfl (At.cell hat57 (j:=0) rfl) (L_ssl (a:=0) (b:=6) rfl Tryz.underlying9 rfl rfl rfl hx29 (L_sneq (s:=x29) (s':=(⟨#[115,105,122,101,115,32]⟩ : ByteArray)) rfl rfl rfl (L_pick (v:=Bo b30) rfl rfl (congrArg Value.bool (so hb30)) (nn (rj hR31 ⟨rfl,rfl,rfl,rfl,Z⟩)))))
 intro f w_ hR
 obtain ⟨sf0,sf2,sf4,sf30,Z⟩:=rk hR31 hR
 refine W_cond (b:=b30) sf30 (fun hc59=>?_) (fun hc59=>?_)
 have hF:=(ite_t hc59).symm.trans hF
 refine sq (L_bld rfl (parts0 ) (bld_25_  ) (L_staB (vs:=#[S0,S0]) (cs2:=#[S0,S0]) 1 rfl Tryz.sizeOf25 sf2 rfl rfl (ones_cons rfl (ones_cons rfl ones_nil)) Z rfl (by show 0 + 2≤2; decide) rfl (fun w61 Z=>aB rfl (nn (W_ret (retG2 (v1:=.agg #[S0,S0]) (v2:=Bo false) Tryz.results7 (resV_agg Tryz.isAgg25 Tryz.sizeOf25 sf2 (Star.blkAt 0 Z rfl) rfl) rfl ?_))))))
 obtain rfl:=so hF
 have Z:=Star.addNil (R:=(OR.frz RP.int)) (e:=3) Z
 have Z:=Star.addNil (R:=(oRule 3 22)) (e:=49) Z
 have Z:=Z.get 1 rfl
 exact ⟨S0,S0,rfl,(Star.keepN 2 Z)⟩
 have hF:=(ite_f hc59).symm.trans hF
 refine W_skip (W_seq ?_)
 obtain ⟨x64,hx64,hF⟩:=bind_some hF
 obtain ⟨x69,hx69,hF⟩:=bind_some hF
 obtain ⟨x75,hx75,hF⟩:=bind_some hF
 refine W_region (mF sf4 rfl ?_)
 obtain ⟨g81,cap_g81,hv82,_,_⟩:=Star.row 0 Z rfl hx64
 refine L_ixO (R:=(OR.frz RP.str)) (tb:=0) 0 rfl Tryz.underlying44 Tryz.sizeOf9 rfl hv82 (by first | rfl | simp) rfl hx64 ?_
 obtain ⟨cs83,hr83,hat83⟩:=Star.eltF 0 Z rfl hv82 hx64
 obtain rfl : _ = [_]:=hr83
 refine L_ld rfl Tryz.isAgg9 rfl (At.cell hat83 (j:=0) rfl) (L_ssl (a:=6) (b:=(x64.size : Int)) rfl Tryz.underlying9 rfl rfl rfl hx69 ?_)
 obtain ⟨H85b,l86,s87,z88,k89⟩:=Z.borrow
 refine L_call rfl Tryz.call30 (ops1 rfl) (s_l6Numbers_c (s:=x69) s87 hx75) ?_
 rintro r90_0 w90 ⟨_,rfl,Z⟩
 have Z:=k89 Z (co closed_int c0)
 refine L_bld rfl (parts1 rfl) (bld_25_0 (r90_0) (one_len (Star.len 0 Z rfl))) (L_al (cs:=#[S0,S0]) rfl Tryz.zeroValue25 rfl Z (fun g92 w93 Z=>L_staB (vs:=#[r90_0,S0]) (cs2:=#[r90_0,S0]) 0 rfl Tryz.sizeOf25 rfl rfl rfl (ones_cons (one_len (Star.len 1 Z rfl)) (ones_cons rfl ones_nil)) Z rfl (by show 0 + 2≤2; decide) rfl (fun w94 Z=>nq (sq (aI rfl (nn ?_))))))
 obtain ⟨j102,hL102,hF⟩:=bind_some hF
 obtain ⟨R102,hR102⟩:=exR fun f w_=>∃ i_97 : Int,∃ g92_1_98 : List Rule,∃ H100 : FH,∃ v98_g92_1 : Value,j102 = .nx (i_97,g92_1_98)∧Le H H100∧f 0 = .string text∧f 2 = Pt g3∧f 5 = Pt g92∧Star H100 w_ ([oF 3 RP.int r90_0 x75,oS 49 (oRule 3 22) v98_g92_1 g92_1_98,box g92 25 #[r90_0,v98_g92_1],box g3 25 #[S0,S0]])
 refine W_join R102 ?_ ?_
 refine W_block ?_
 obtain ⟨I102,hI102⟩:=exI fun n f w_=>∃ i_97 : Int,∃ g92_1_98 : List Rule,∃ H100 : FH,∃ v98_g92_1 : Value,whileL (s_ParseModel_b1 fu x10) n (i_97,g92_1_98) = some j102∧Le H H100∧f 0 = .string text∧f 2 = Pt g3∧f 4 = r18_0∧f 5 = Pt g92∧f 6 = I i_97∧Star H100 w_ ([oF 9 RP.str r18_0 x10,oF 3 RP.int r90_0 x75,oS 49 (oRule 3 22) v98_g92_1 g92_1_98,box g92 25 #[r90_0,v98_g92_1],box g3 25 #[S0,S0]])
 have Z:=Star.addNil (R:=(oRule 3 22)) (e:=49) Z
 have Z:=Z.gets [4,2,2,3,4] rfl
 refine W_loop I102 (n:=fu) ?_ ?_
 exact ij hI102 ⟨1,[],H,S0,hL102,(Le.refl _),sf0,sf2,sf4,rfl,rfl,Z⟩
 intro n102 f w_ hI
 obtain ⟨i_97,g92_1_98,H100,v98_g92_1,hL102,l101,sf0,sf2,sf4,sf5,sf6,Z⟩:=ik hI102 hI
 rcases n102 with _ | n102
 exact (while_zero hL102).elim
 obtain ⟨o102,hB102,hL102⟩:=while_succ hL102
 rw [s_ParseModel_b1] at hB102
 refine W_seq (sq (mF sf6 rfl (L_add rfl rfl rfl (mF sf4 rfl (L_len rfl Tryz.underlying44 rfl (Star.len 0 Z rfl) (L_lss rfl rfl rfl (nn (W_cond (b:=decide ((i64 (i_97 + 1)) < (x10.length : Int))) rfl (fun hc104=>?_) (fun hc104=>?_)))))))))
 have hB102:=(ite_t hc104).symm.trans hB102
 refine W_skip (W_seq (W_block ?_))
 obtain ⟨x105,hx105,hB102⟩:=bind_some hB102
 obtain ⟨x115,hx115,hB102⟩:=bind_some hB102
 obtain ⟨x123,hx123,hB102⟩:=bind_some hB102
 obtain ⟨g129,cap_g129,hv130,_,_⟩:=Star.row 0 Z rfl hx105
 refine W_drawS 8 [isV (Pq g92 1),isV (v98_g92_1),isV (r18_0),isV (I i_97),isV (.pointer (some ⟨g129,Int.toNat i_97 * 1,none⟩)),isV (.string x105),exA fun u_1=>exA fun u_2=>exA fun u_4=>isV (.agg #[I x115.kind,u_1,u_2,I x115.bound,u_4]),anyF] [oF 9 RP.str r18_0 x10,oF 3 RP.int r90_0 x75,oS 49 (oRule 3 22) v98_g92_1 g92_1_98,box g92 25 #[r90_0,v98_g92_1],box g3 25 #[S0,S0]] [.made 6 51 (fun v_=>oF 3 RP.int (aggC v_ 1) x115.vars) (some 7),.made 6 51 (fun v_=>oF 3 RP.int (aggC v_ 2) x115.coefs) (some 7),.made 6 51 (fun v_=>own (OR.ownS 22 (OR.ownS 3 (OR.frz RP.int))) [(aggC v_ 4)] x115.rows) (some 7),.made 7 52 (fun v_=>oS 49 (oRule 3 22) v_ ([x115])) none] ([]) [([],[]),([],[]),([],[]),([],[]),([],[]),([],[]),([],[0,1,2]),([0,1,2],[3])] (S:=[(some 6,[51],some 7),(some 6,[51],some 7),(some 6,[51],some 7),(some 7,[52],none)]) Tryz_mix (by kernel_rfl) rfl (by kernel_rfl) (amF_cons (mono_V _) (amF_cons (mono_V _) (amF_cons (mono_V _) (amF_cons (mono_V _) (amF_cons (mono_V _) (amF_cons (mono_V _) (amF_cons (mono_exA fun _=>mono_exA fun _=>mono_exA fun _=>mono_V _) (amF_cons (mono_any) amF_nil)))))))) Z ?_ (fun f w_ H128 hS128 hE128 hT128 Z=>?_)
 refine opsS_cons (fun f w_ _ _ s _ _ Z=>fA 1 fa_25_1 ((s 5 rfl).trans sf5) rfl (nO rfl rfl Z)) (opsS_cons (fun f w_ _ _ _ _ p Z=>ldB 3 Z Tryz.isAgg23 (p 0 45 rfl rfl) rfl rfl (nO rfl rfl Z)) (opsS_cons (fun f w_ _ _ s _ _ Z=>mF ((s 4 rfl).trans sf4) rfl (nO rfl rfl Z)) (opsS_cons (fun f w_ _ _ s _ _ Z=>mF ((s 6 rfl).trans sf6) rfl (nO rfl rfl Z)) (opsS_cons (fun f w_ _ _ _ _ p Z=>L_ixO (R:=(OR.frz RP.str)) (tb:=0) 0 rfl Tryz.underlying44 Tryz.sizeOf9 (p 2 47 rfl rfl) hv130 (by first | rfl | simp) (p 3 48 rfl rfl) hx105 (nO rfl rfl Z)) (opsS_cons ?_ ?_)))))
 intro f w_ H128 X128 hS128 hE128 hP128 Z
 obtain ⟨cs145,hr145,hat145⟩:=Star.eltF 0 Z rfl hv130 hx105
 obtain rfl : _ = [_]:=hr145
 refine L_ld rfl Tryz.isAgg9 (hP128 4 49 rfl rfl) (At.cell hat145 (j:=0) rfl) (L_nil ⟨rfl,_,_,rfl,Le.refl _,fun _ _=>rfl,Z⟩)
 refine opsS_cons ?_ ?_
 intro f w_ H128 X128 hS128 hE128 hP128 Z
 obtain ⟨H147b,l148,s149,z150,k151⟩:=Z.borrow
 refine L_call rfl Tryz.call31 (ops1 (hP128 5 50 rfl rfl)) (s_l6Parse_c (line:=x105) s149 hx115) ?_
 rintro _ w152 ⟨r152_0,r152_1,r152_2,rfl,Z⟩
 have Z:=k151 Z (co closed_int (co closed_int (cc (closed_own (OR.closed_ownS (OR.closed_ownS closed_int)) _ _) c0)))
 have Z:=Z.gets [2,2,2,7,7,7,7,7] rfl
 exact L_nil ⟨rfl,_,_,rfl,Le.refl _,fun _ _=>⟨_,_,_,rfl⟩,Z⟩
 refine opsS_cons ?_ ?_
 intro f w_ H128 X128 hS128 hE128 hP128 Z
 have Z : Star H128 w_ (oF 9 RP.str r18_0 x10 :: oF 3 RP.int r90_0 x75 :: oS 49 (oRule 3 22) v98_g92_1 g92_1_98 :: box g92 25 #[r90_0,v98_g92_1] :: box g3 25 #[S0,S0] :: own (OR.ownS 3 (OR.frz RP.int)) [(aggC (f 51) 1)] x115.vars :: own (OR.ownS 3 (OR.frz RP.int)) [(aggC (f 51) 2)] x115.coefs :: own (OR.ownS 22 (OR.ownS 3 (OR.frz RP.int))) [(aggC (f 51) 4)] x115.rows :: X128):=Z
 obtain ⟨u156_1,u156_2,u156_4,hv156⟩:=(hP128 6 51 rfl rfl)
 have hren : Star H128 w_ (oF 9 RP.str r18_0 x10 :: oF 3 RP.int r90_0 x75 :: oS 49 (oRule 3 22) v98_g92_1 g92_1_98 :: box g92 25 #[r90_0,v98_g92_1] :: box g3 25 #[S0,S0] :: own (OR.ownS 3 (OR.frz RP.int)) [(aggC (f 51) 1)] x115.vars :: own (OR.ownS 3 (OR.frz RP.int)) [(aggC (f 51) 2)] x115.coefs :: own (OR.ownS 22 (OR.ownS 3 (OR.frz RP.int))) [(aggC (f 51) 4)] x115.rows :: X128):=Z
 rw [hv156] at hren
 have Z : Star H128 w_ (oF 9 RP.str r18_0 x10 :: oF 3 RP.int r90_0 x75 :: oS 49 (oRule 3 22) v98_g92_1 g92_1_98 :: box g92 25 #[r90_0,v98_g92_1] :: box g3 25 #[S0,S0] :: oF 3 RP.int u156_1 x115.vars :: oF 3 RP.int u156_2 x115.coefs :: own (OR.ownS 22 (OR.ownS 3 (OR.frz RP.int))) [u156_4] x115.rows :: X128):=hren
 refine L_bs rfl (parts1 hv156) (bs_23_1_5 (I x115.kind) (u156_1) (u156_2) (I x115.bound) (u156_4) ) Z (fun g157 w158 Z=>?_)
 have Z:=Z.gets [8,8,8] rfl
 have Z:=oRule_close (r:=x115) Z
 have Z:=Star.mkRow (R:=(oRule 3 22)) [([I x115.kind,u156_1,u156_2,I x115.bound,u156_4],x115)] [x115] 1 Z rfl rfl rfl (by decide)
 have Z:=Z.gets [5,5,5,5,5] rfl
 exact L_nil ⟨rfl,_,_,rfl,Le.refl _,fun _ _=>trivial,Z⟩
 exact opsS_nil
 have Z : Star H128 w_ ([oF 9 RP.str r18_0 x10,oF 3 RP.int r90_0 x75,oS 49 (oRule 3 22) v98_g92_1 g92_1_98,box g92 25 #[r90_0,v98_g92_1],box g3 25 #[S0,S0],oS 49 (oRule 3 22) (f 52) ([x115])]):=Z
 have Z:=Z.gets [5,3] rfl
 refine L_appM (v:=v98_g92_1) (u:=(f 52)) rfl et_23 (hT128 1 46 rfl rfl) rfl Z hx123 (fun v161 w162 Z=>fA 1 fa_25_1 ((hS128 5 rfl).trans sf5) rfl (L_stB (v:=v161) (cs2:=#[r90_0,v161]) 3 rfl Tryz.sizeOf23 rfl rfl (one_len (Star.len 0 Z rfl)) Z rfl rfl rfl (fun w164 Z=>nn (W_region (mF ((hS128 6 rfl).trans sf6) rfl (L_add rfl rfl rfl (aI rfl (nn ?_))))))))
 obtain rfl:=so hB102
 have Z:=Z.gets [4,1,2,4,4] rfl
 show ∃ m,m < _∧I102 m _ _
 refine ⟨n102,Nat.lt_succ_self _,?_⟩
 exact ij hI102 ⟨i64 (i_97 + 1),x123,H128,v161,hL102,(Le.trans l101 hE128),((hS128 0 rfl).trans sf0),((hS128 2 rfl).trans sf2),((hS128 4 rfl).trans sf4),((hS128 5 rfl).trans sf5),rfl,Z⟩
 have hB102:=(ite_f hc104).symm.trans hB102
 refine W_exit ?_
 obtain rfl:=so hB102
 obtain rfl:=so hL102
 have Z:=Z.gets [4,4,4,4] rfl
 exact rj hR102 ⟨i_97,g92_1_98,H100,v98_g92_1,rfl,l101,sf0,sf2,sf5,(Star.keepN 4 Z)⟩
 intro f w_ hR
 obtain ⟨i_97,g92_1_98,H100,v98_g92_1,rfl,l101,sf0,sf2,sf5,Z⟩:=rk hR102 hR
 refine W_seq (W_seq ?_)
 obtain ⟨x172,hx172,hF⟩:=bind_some hF
 refine W_region (L_lda (cs:=[r90_0,v98_g92_1]) rfl Tryz.isAgg25 Tryz.sizeOf25 sf5 (At.sub0 (Blk.at (Star.blkAt 2 Z rfl)) 0 2) rfl ?_)
 obtain ⟨H174b,l175,s176,z177,k178⟩:=Z.borrow
 have hb179 : (rS 3 RP.int).rel H174b [r90_0] x75:=fz_own 0 z177 rfl
 have hb180 : (rS 49 (rRule 3 22)).rel H174b [v98_g92_1] g92_1_98:=fz_own 1 z177 rfl
 refine L_call rfl Tryz.call14 (ops1 rfl) (s_FormatModel_c (m:=({ sizes:=x75,rules:=g92_1_98 } : Model)) s176 hb179 hb180 hx172) ?_
 rintro _ w181 ⟨rfl,Z⟩
 have Z:=k178 Z c0
 refine mF sf0 rfl (L_sneq (s:=x172) (s':=text) rfl rfl rfl (nn (W_cond (b:=(!(ByteArray.toList x172 == ByteArray.toList text))) rfl (fun hc182=>?_) (fun hc182=>?_))))
 have hF:=(ite_t hc182).symm.trans hF
 refine sq (L_bld rfl (parts0 ) (bld_25_  ) (L_staB (vs:=#[S0,S0]) (cs2:=#[S0,S0]) 3 rfl Tryz.sizeOf25 sf2 rfl rfl (ones_cons rfl (ones_cons rfl ones_nil)) Z rfl (by show 0 + 2≤2; decide) rfl (fun w184 Z=>aB rfl (nn (W_ret (retG2 (v1:=.agg #[S0,S0]) (v2:=Bo false) Tryz.results7 (resV_agg Tryz.isAgg25 Tryz.sizeOf25 sf2 (Star.blkAt 0 Z rfl) rfl) rfl ?_))))))
 obtain rfl:=so hF
 have Z:=Star.addNil (R:=(OR.frz RP.int)) (e:=3) Z
 have Z:=Star.addNil (R:=(oRule 3 22)) (e:=49) Z
 have Z:=Z.get 1 rfl
 exact ⟨S0,S0,rfl,(Star.down (Star.keepN 2 Z) l101 (co closed_int (co closed_oRule c0)))⟩
 have hF:=(ite_f hc182).symm.trans hF
 refine W_skip (sq (L_lda (cs:=[r90_0,v98_g92_1]) rfl Tryz.isAgg25 Tryz.sizeOf25 sf5 (At.sub0 (Blk.at (Star.blkAt 2 Z rfl)) 0 2) rfl (L_staB (vs:=#[r90_0,v98_g92_1]) (cs2:=#[r90_0,v98_g92_1]) 3 rfl Tryz.sizeOf25 sf2 rfl rfl (ones_cons (one_len (Star.len 0 Z rfl)) (ones_cons (one_len (Star.len 1 Z rfl)) ones_nil)) Z rfl (by show 0 + 2≤2; decide) rfl (fun w188 Z=>aB rfl (nn (W_ret (retG2 (v1:=.agg #[r90_0,v98_g92_1]) (v2:=Bo true) Tryz.results7 (resV_agg Tryz.isAgg25 Tryz.sizeOf25 sf2 (Star.blkAt 0 Z rfl) rfl) rfl ?_)))))))
 obtain rfl:=so hF
 have Z:=Z.gets [2,2] rfl
 exact ⟨r90_0,v98_g92_1,rfl,(Star.down (Star.keepN 2 Z) l101 (co closed_int (co closed_oRule c0)))⟩
theorem i_within_c {n_ : Int} {low : Int} {high : Int} {H : FH} {w : World} (Z : Star H w []) {r : Bool} (hF : i_within n_ low high = some r) :
 C Tryz.prog 46 #[I n_,I low,I high] w fun v w'=>v = Bo r∧Star H w' []:=by
 unfold i_within at hF
 refine C_enter Tryz.func46 rfl Tryz.ntmps46 rfl (sq (aB rfl (nq ?_)))
 obtain ⟨R1,hR1⟩:=exR fun f w_=>f 6 = Bo ((decide (low≤n_)) && (decide (n_≤high)))∧Star H w_ ([])
 refine W_join R1 ?_ ?_
 refine W_region (mI rfl (mI rfl (L_leq rfl rfl rfl (mB rfl (L_split (d:=10) (b:=decide (low≤n_)) rfl (fun hc2=>?_) (fun hc2=>?_))))))
 refine mI rfl (mI rfl (L_leq rfl rfl rfl (L_pick (v:=Bo ((decide (low≤n_)) && (decide (n_≤high)))) rfl rfl (and_t hc2 rfl) (aB rfl (nn (rj hR1 ⟨rfl,Z⟩))))))
 refine ps rfl (ps rfl (ps rfl (L_pick (v:=Bo ((decide (low≤n_)) && (decide (n_≤high)))) rfl rfl (and_f hc2) (aB rfl (nn (rj hR1 ⟨rfl,Z⟩))))))
 intro f w_ hR
 obtain ⟨sf6,Z⟩:=rk hR1 hR
 refine W_ret (retG1 (v1:=Bo ((decide (low≤n_)) && (decide (n_≤high)))) Tryz.results46 sf6 ?_)
 obtain rfl:=so hF
 exact ⟨rfl,Z⟩
theorem slices_IndexFunc_implRule_c {s : List Rule} {f_ : (Rule→Option Bool)} {v0 : Value} {v1 : Value} {H : FH} {w : World} (Z : Star H w []) (h0 : (rS 49 (rRule 3 22)).rel H [v0] s) (h1 : Fun1 Tryz.prog (rRule 3 22) true Value.bool f_ v1 H) {r : Int} (hF : slices_IndexFunc_implRule s f_ = some r) :
 C Tryz.prog 88 #[v0,v1] w fun v w'=>v = I r∧Star H w' []:=by
 unfold slices_IndexFunc_implRule at hF
 obtain ⟨fid_1,caps_1,rfl,hcall_1,hc_1⟩:=h1
 refine C_enter Tryz.func88 rfl Tryz.ntmps88 rfl (sq (aI rfl (nq (sq (mV v0 rfl (L_len rfl Tryz.underlying23 rfl (slice_len h0) (mI rfl (nn ?_))))))))
 have hlen2 : List.length s≤9223372036854775807:=len_le (slice_len h0)
 obtain ⟨j2,hL2,hF⟩:=bind_some hF
 obtain ⟨R2,hR2⟩:=exR fun f w_=>j2 = .nx ()∧Star H w_ ([])
 refine W_join R2 ?_ ?_
 refine W_block ?_
 obtain ⟨I2,hI2⟩:=exI fun n f w_=>∃ i_1 : Nat,∃ suf2 : List Rule,n = suf2.length∧List.drop i_1 s = suf2∧i_1 + suf2.length = s.length∧rangeL (slices_IndexFunc_implRule_b1 f_) suf2 i_1 () = some j2∧f 0 = v0∧f 1 = .func (.func fid_1) #[] caps_1∧f 7 = I (s.length : Int)∧f 8 = I i_1∧Star H w_ ([])
 refine W_loop I2 (n:=s.length) ?_ ?_
 exact ij hI2 ⟨0,s,rfl,rfl,Nat.zero_add _,hL2,rfl,rfl,rfl,rfl,Z⟩
 intro n2 f w_ hI
 obtain ⟨i_1,suf2,rfl,hd2,hl2,hL2,sf0,sf1,sf7,sf8,Z⟩:=ik hI2 hI
 refine sq (L_lss rfl sf8 sf7 (nq (W_cond (b:=decide ((i_1 : Int) < (s.length : Int))) rfl (fun hc3=>?_) (fun hc3=>?_))))
 have hlt2:=of_decide_eq_true hc3
 rcases suf2 with _ | ⟨x_2,rest2⟩
 exact absurd hlt2 (by simp at hl2; omega)
 obtain ⟨o2,hB2,hL2⟩:=range_cons hL2
 rw [slices_IndexFunc_implRule_b1] at hB2
 have hix2:=drop_idx hd2
 refine W_skip (W_seq (W_block (sq (mF sf8 rfl (aI rfl (nq ?_))))))
 obtain ⟨x8,hx8,hB2⟩:=bind_some hB2
 refine W_region (mF sf1 rfl (mF sf0 rfl (mI rfl (L_ix (r:=(rRule 3 22)) rfl Tryz.underlying23 Tryz.sizeOf49 rfl h0 rfl hix2 (fun g15 o16 cs_g15 hrk_hat17 hat17=>?_)))))
 obtain ⟨u18_0,u18_1,u18_2,rfl,hu18_0,hu18_1,hu18_2⟩:=rRule_iff.1 hrk_hat17
 refine L_lda (cs:=[I x_2.kind,u18_0,u18_1,I x_2.bound,u18_2]) rfl Tryz.isAgg49 Tryz.sizeOf49 rfl (At.sub (AtH.at hat17 Z.sub) 0 5) rfl ?_
 obtain ⟨H19b,l20,s21,z22,k23⟩:=Z.borrow
 refine L_callv (args:=#[.agg #[I x_2.kind,u18_0,u18_1,I x_2.bound,u18_2]]) rfl hcall_1 rfl (ops1 rfl) (hc_1 _ _ l20 s21 [I x_2.kind,u18_0,u18_1,I x_2.bound,u18_2] _ _ _ (rRule_iff.2 ⟨_,_,_,rfl,(RP.mono _ hu18_0 l20),(RP.mono _ hu18_1 l20),(RP.mono _ hu18_2 l20)⟩) hx8 (args_app rfl)) ?_
 rintro _ w24 ⟨rfl,Z⟩
 have Z:=k23 Z c0
 refine nn (W_cond (b:=x8) rfl (fun hc25=>?_) (fun hc25=>?_))
 have hB2:=(ite_t hc25).symm.trans hB2
 refine sq (mI rfl (aI rfl (nn (W_ret (retG1 (v1:=I i_1) Tryz.results88 rfl ?_)))))
 obtain rfl:=so hB2
 obtain rfl:=so hL2
 obtain rfl:=so hF
 exact ⟨rfl,Z⟩
 have hB2:=(ite_f hc25).symm.trans hB2
 refine W_skip (W_region (L_add rfl sf8 rfl (mI rfl (nn ?_))))
 obtain rfl:=so hB2
 show ∃ m,m < _∧I2 m _ _
 refine ⟨rest2.length,by simp,?_⟩
 exact ij hI2 ⟨i_1 + 1,rest2,rfl,drop_next hd2,by simp at hl2; omega,hL2,sf0,sf1,sf7,(Eq.trans rfl (congrArg (Value.int .i64) (i64_succ (n:=s.length) (by simp at hl2; omega) hlen2))),Z⟩
 rcases suf2 with _ | ⟨_,_⟩
 obtain rfl:=range_nil hL2
 refine W_exit (rj hR2 ⟨rfl,Z⟩)
 exact absurd (of_decide_eq_false hc3) (by simp at hl2; omega)
 intro f w_ hR
 obtain ⟨rfl,Z⟩:=rk hR2 hR
 refine sq (aI rfl (nn (W_ret (retG1 (v1:=I (-1)) Tryz.results88 rfl ?_))))
 obtain rfl:=so hF
 exact ⟨rfl,Z⟩
theorem slices_ContainsFunc_implRule_c {s : List Rule} {f_ : (Rule→Option Bool)} {v0 : Value} {v1 : Value} {H : FH} {w : World} (Z : Star H w []) (h0 : (rS 49 (rRule 3 22)).rel H [v0] s) (h1 : Fun1 Tryz.prog (rRule 3 22) true Value.bool f_ v1 H) {r : Bool} (hF : slices_ContainsFunc_implRule s f_ = some r) :
 C Tryz.prog 47 #[v0,v1] w fun v w'=>v = Bo r∧Star H w' []:=by
 unfold slices_ContainsFunc_implRule at hF
 obtain ⟨fid_1,caps_1,rfl,hcall_1,hc_1⟩:=h1
 refine C_enter Tryz.func47 rfl Tryz.ntmps47 rfl (sq (aB rfl (nq ?_)))
 obtain ⟨x6,hx6,hF⟩:=bind_some hF
 refine W_region (mV v0 rfl (mV (.func (.func fid_1) #[] caps_1) rfl ?_))
 obtain ⟨H8b,l9,s10,z11,k12⟩:=Z.borrow
 refine L_call rfl Tryz.call88 (ops2 rfl rfl) (slices_IndexFunc_implRule_c (s:=s) (f_:=f_) s10 (RP.mono _ h0 l9) (Fun1.le ⟨_,_,rfl,hcall_1,hc_1⟩ l9) hx6) ?_
 rintro _ w13 ⟨rfl,Z⟩
 have Z:=k12 Z c0
 refine L_geq rfl rfl rfl (aB rfl (nn (W_ret (retG1 (v1:=Bo (decide (x6 ≥ 0))) Tryz.results47 rfl ?_))))
 obtain rfl:=so hF
 exact ⟨rfl,Z⟩
theorem slices_Index_int_c {s : List Int} {v_ : Int} {v0 : Value} {H : FH} {w : World} (Z : Star H w []) (h0 : (rS 3 RP.int).rel H [v0] s) {r : Int} (hF : slices_Index_int s v_ = some r) :
 C Tryz.prog 133 #[v0,I v_] w fun v w'=>v = I r∧Star H w' []:=by
 unfold slices_Index_int at hF
 refine C_enter Tryz.func133 rfl Tryz.ntmps133 rfl (sq (aI rfl (nq (sq (mV v0 rfl (L_len rfl Tryz.underlying22 rfl (slice_len h0) (mI rfl (nn ?_))))))))
 have hlen2 : List.length s≤9223372036854775807:=len_le (slice_len h0)
 obtain ⟨j2,hL2,hF⟩:=bind_some hF
 obtain ⟨R2,hR2⟩:=exR fun f w_=>j2 = .nx ()∧Star H w_ ([])
 refine W_join R2 ?_ ?_
 refine W_block ?_
 obtain ⟨I2,hI2⟩:=exI fun n f w_=>∃ i_1 : Nat,∃ suf2 : List Int,n = suf2.length∧List.drop i_1 s = suf2∧i_1 + suf2.length = s.length∧rangeL (slices_Index_int_b1 v_) suf2 i_1 () = some j2∧f 0 = v0∧f 1 = I v_∧f 7 = I (s.length : Int)∧f 8 = I i_1∧Star H w_ ([])
 refine W_loop I2 (n:=s.length) ?_ ?_
 exact ij hI2 ⟨0,s,rfl,rfl,Nat.zero_add _,hL2,rfl,rfl,rfl,rfl,Z⟩
 intro n2 f w_ hI
 obtain ⟨i_1,suf2,rfl,hd2,hl2,hL2,sf0,sf1,sf7,sf8,Z⟩:=ik hI2 hI
 refine sq (L_lss rfl sf8 sf7 (nq (W_cond (b:=decide ((i_1 : Int) < (s.length : Int))) rfl (fun hc3=>?_) (fun hc3=>?_))))
 have hlt2:=of_decide_eq_true hc3
 rcases suf2 with _ | ⟨x_2,rest2⟩
 exact absurd hlt2 (by simp at hl2; omega)
 obtain ⟨o2,hB2,hL2⟩:=range_cons hL2
 rw [slices_Index_int_b1] at hB2
 have hix2:=drop_idx hd2
 refine W_skip (W_seq (W_block (sq (mF sf8 rfl (aI rfl (ns (mF sf1 rfl (mF sf0 rfl (mI rfl (L_ix (r:=RP.int) rfl Tryz.underlying22 Tryz.sizeOf3 rfl h0 rfl hix2 (fun g8 o9 cs_g8 hrk_hat10 hat10=>?_)))))))))))
 obtain rfl : _ = [_]:=hrk_hat10
 refine L_ld rfl Tryz.isAgg3 rfl (At.cell (AtH.at hat10 Z.sub) (j:=0) rfl) (L_eql rfl rfl rfl (nn (W_cond (b:=(v_ == x_2)) rfl (fun hc12=>?_) (fun hc12=>?_))))
 have hB2:=(ite_t hc12).symm.trans hB2
 refine sq (mI rfl (aI rfl (nn (W_ret (retG1 (v1:=I i_1) Tryz.results133 rfl ?_)))))
 obtain rfl:=so hB2
 obtain rfl:=so hL2
 obtain rfl:=so hF
 exact ⟨rfl,Z⟩
 have hB2:=(ite_f hc12).symm.trans hB2
 refine W_skip (W_region (L_add rfl sf8 rfl (mI rfl (nn ?_))))
 obtain rfl:=so hB2
 show ∃ m,m < _∧I2 m _ _
 refine ⟨rest2.length,by simp,?_⟩
 exact ij hI2 ⟨i_1 + 1,rest2,rfl,drop_next hd2,by simp at hl2; omega,hL2,sf0,sf1,sf7,(Eq.trans rfl (congrArg (Value.int .i64) (i64_succ (n:=s.length) (by simp at hl2; omega) hlen2))),Z⟩
 rcases suf2 with _ | ⟨_,_⟩
 obtain rfl:=range_nil hL2
 refine W_exit (rj hR2 ⟨rfl,Z⟩)
 exact absurd (of_decide_eq_false hc3) (by simp at hl2; omega)
 intro f w_ hR
 obtain ⟨rfl,Z⟩:=rk hR2 hR
 refine sq (aI rfl (nn (W_ret (retG1 (v1:=I (-1)) Tryz.results133 rfl ?_))))
 obtain rfl:=so hF
 exact ⟨rfl,Z⟩
theorem slices_Contains_int_c {s : List Int} {v_ : Int} {v0 : Value} {H : FH} {w : World} (Z : Star H w []) (h0 : (rS 3 RP.int).rel H [v0] s) {r : Bool} (hF : slices_Contains_int s v_ = some r) :
 C Tryz.prog 89 #[v0,I v_] w fun v w'=>v = Bo r∧Star H w' []:=by
 unfold slices_Contains_int at hF
 refine C_enter Tryz.func89 rfl Tryz.ntmps89 rfl (sq (aB rfl (nq ?_)))
 obtain ⟨x6,hx6,hF⟩:=bind_some hF
 refine W_region (mV v0 rfl (mI rfl ?_))
 obtain ⟨H8b,l9,s10,z11,k12⟩:=Z.borrow
 refine L_call rfl Tryz.call133 (ops2 rfl rfl) (slices_Index_int_c (s:=s) (v_:=v_) s10 (RP.mono _ h0 l9) hx6) ?_
 rintro _ w13 ⟨rfl,Z⟩
 have Z:=k12 Z c0
 refine L_geq rfl rfl rfl (aB rfl (nn (W_ret (retG1 (v1:=Bo (decide (x6 ≥ 0))) Tryz.results89 rfl ?_))))
 obtain rfl:=so hF
 exact ⟨rfl,Z⟩
theorem slices_IndexFunc_int_c {s : List Int} {f_ : (Int→Option Bool)} {v0 : Value} {v1 : Value} {H : FH} {w : World} (Z : Star H w []) (h0 : (rS 3 RP.int).rel H [v0] s) (h1 : Fun1 Tryz.prog RP.int false Value.bool f_ v1 H) {r : Int} (hF : slices_IndexFunc_int s f_ = some r) :
 C Tryz.prog 134 #[v0,v1] w fun v w'=>v = I r∧Star H w' []:=by
 unfold slices_IndexFunc_int at hF
 obtain ⟨fid_1,caps_1,rfl,hcall_1,hc_1⟩:=h1
 refine C_enter Tryz.func134 rfl Tryz.ntmps134 rfl (sq (aI rfl (nq (sq (mV v0 rfl (L_len rfl Tryz.underlying22 rfl (slice_len h0) (mI rfl (nn ?_))))))))
 have hlen2 : List.length s≤9223372036854775807:=len_le (slice_len h0)
 obtain ⟨j2,hL2,hF⟩:=bind_some hF
 obtain ⟨R2,hR2⟩:=exR fun f w_=>j2 = .nx ()∧Star H w_ ([])
 refine W_join R2 ?_ ?_
 refine W_block ?_
 obtain ⟨I2,hI2⟩:=exI fun n f w_=>∃ i_1 : Nat,∃ suf2 : List Int,n = suf2.length∧List.drop i_1 s = suf2∧i_1 + suf2.length = s.length∧rangeL (slices_IndexFunc_int_b1 f_) suf2 i_1 () = some j2∧f 0 = v0∧f 1 = .func (.func fid_1) #[] caps_1∧f 7 = I (s.length : Int)∧f 8 = I i_1∧Star H w_ ([])
 refine W_loop I2 (n:=s.length) ?_ ?_
 exact ij hI2 ⟨0,s,rfl,rfl,Nat.zero_add _,hL2,rfl,rfl,rfl,rfl,Z⟩
 intro n2 f w_ hI
 obtain ⟨i_1,suf2,rfl,hd2,hl2,hL2,sf0,sf1,sf7,sf8,Z⟩:=ik hI2 hI
 refine sq (L_lss rfl sf8 sf7 (nq (W_cond (b:=decide ((i_1 : Int) < (s.length : Int))) rfl (fun hc3=>?_) (fun hc3=>?_))))
 have hlt2:=of_decide_eq_true hc3
 rcases suf2 with _ | ⟨x_2,rest2⟩
 exact absurd hlt2 (by simp at hl2; omega)
 obtain ⟨o2,hB2,hL2⟩:=range_cons hL2
 rw [slices_IndexFunc_int_b1] at hB2
 have hix2:=drop_idx hd2
 refine W_skip (W_seq (W_block (sq (mF sf8 rfl (aI rfl (nq ?_))))))
 obtain ⟨x8,hx8,hB2⟩:=bind_some hB2
 refine W_region (mF sf1 rfl (mF sf0 rfl (mI rfl (L_ix (r:=RP.int) rfl Tryz.underlying22 Tryz.sizeOf3 rfl h0 rfl hix2 (fun g15 o16 cs_g15 hrk_hat17 hat17=>?_)))))
 obtain rfl : _ = [_]:=hrk_hat17
 refine L_ld rfl Tryz.isAgg3 rfl (At.cell (AtH.at hat17 Z.sub) (j:=0) rfl) ?_
 obtain ⟨H19b,l20,s21,z22,k23⟩:=Z.borrow
 refine L_callv (args:=#[I x_2]) rfl hcall_1 rfl (ops1 rfl) (hc_1 _ _ l20 s21 [I x_2] _ _ _ rfl hx8 (args_app rfl)) ?_
 rintro _ w24 ⟨rfl,Z⟩
 have Z:=k23 Z c0
 refine nn (W_cond (b:=x8) rfl (fun hc25=>?_) (fun hc25=>?_))
 have hB2:=(ite_t hc25).symm.trans hB2
 refine sq (mI rfl (aI rfl (nn (W_ret (retG1 (v1:=I i_1) Tryz.results134 rfl ?_)))))
 obtain rfl:=so hB2
 obtain rfl:=so hL2
 obtain rfl:=so hF
 exact ⟨rfl,Z⟩
 have hB2:=(ite_f hc25).symm.trans hB2
 refine W_skip (W_region (L_add rfl sf8 rfl (mI rfl (nn ?_))))
 obtain rfl:=so hB2
 show ∃ m,m < _∧I2 m _ _
 refine ⟨rest2.length,by simp,?_⟩
 exact ij hI2 ⟨i_1 + 1,rest2,rfl,drop_next hd2,by simp at hl2; omega,hL2,sf0,sf1,sf7,(Eq.trans rfl (congrArg (Value.int .i64) (i64_succ (n:=s.length) (by simp at hl2; omega) hlen2))),Z⟩
 rcases suf2 with _ | ⟨_,_⟩
 obtain rfl:=range_nil hL2
 refine W_exit (rj hR2 ⟨rfl,Z⟩)
 exact absurd (of_decide_eq_false hc3) (by simp at hl2; omega)
 intro f w_ hR
 obtain ⟨rfl,Z⟩:=rk hR2 hR
 refine sq (aI rfl (nn (W_ret (retG1 (v1:=I (-1)) Tryz.results134 rfl ?_))))
 obtain rfl:=so hF
 exact ⟨rfl,Z⟩
theorem slices_ContainsFunc_int_c {s : List Int} {f_ : (Int→Option Bool)} {v0 : Value} {v1 : Value} {H : FH} {w : World} (Z : Star H w []) (h0 : (rS 3 RP.int).rel H [v0] s) (h1 : Fun1 Tryz.prog RP.int false Value.bool f_ v1 H) {r : Bool} (hF : slices_ContainsFunc_int s f_ = some r) :
 C Tryz.prog 90 #[v0,v1] w fun v w'=>v = Bo r∧Star H w' []:=by
 unfold slices_ContainsFunc_int at hF
 obtain ⟨fid_1,caps_1,rfl,hcall_1,hc_1⟩:=h1
 refine C_enter Tryz.func90 rfl Tryz.ntmps90 rfl (sq (aB rfl (nq ?_)))
 obtain ⟨x6,hx6,hF⟩:=bind_some hF
 refine W_region (mV v0 rfl (mV (.func (.func fid_1) #[] caps_1) rfl ?_))
 obtain ⟨H8b,l9,s10,z11,k12⟩:=Z.borrow
 refine L_call rfl Tryz.call134 (ops2 rfl rfl) (slices_IndexFunc_int_c (s:=s) (f_:=f_) s10 (RP.mono _ h0 l9) (Fun1.le ⟨_,_,rfl,hcall_1,hc_1⟩ l9) hx6) ?_
 rintro _ w13 ⟨rfl,Z⟩
 have Z:=k12 Z c0
 refine L_geq rfl rfl rfl (aB rfl (nn (W_ret (retG1 (v1:=Bo (decide (x6 ≥ 0))) Tryz.results90 rfl ?_))))
 obtain rfl:=so hF
 exact ⟨rfl,Z⟩
theorem i_ruleValid_1_c {n_ : Int} {H : FH} {w : World} (Z : Star H w []) {r : Bool} (hF : i_ruleValid_1 n_ = some r) :
 C Tryz.prog 91 #[I n_] w fun v w'=>v = Bo r∧Star H w' []:=by
 unfold i_ruleValid_1 at hF
 refine C_enter Tryz.func91 rfl Tryz.ntmps91 rfl (sq (aB rfl (nq ?_)))
 obtain ⟨b8,hb8,hF⟩:=bind_some hF
 obtain ⟨R9,hR9⟩:=exR fun f w_=>f 2 = Bo b8∧Star H w_ ([])
 refine W_join R9 ?_ ?_
 refine W_region (mI rfl (L_eql rfl rfl rfl (mB rfl (L_split (d:=5) (b:=(n_ == 0)) rfl (fun hc10=>?_) (fun hc10=>?_)))))
 rw [ite_t hc10] at hb8
 refine ps rfl (ps rfl (ps rfl (L_pick (v:=Bo b8) rfl rfl (congrArg Value.bool (so hb8)) (aB rfl (nn (rj hR9 ⟨rfl,Z⟩))))))
 rw [ite_f hc10] at hb8
 obtain ⟨x6,hx6,hb8⟩:=bind_some hb8
 refine mI rfl ?_
 obtain ⟨H11b,l12,s13,z14,k15⟩:=Z.borrow
 refine L_call rfl Tryz.call46 (ops3 rfl rfl rfl) (i_within_c (n_:=n_) (low:=(-9)) (high:=9) s13 hx6) ?_
 rintro _ w16 ⟨rfl,Z⟩
 have Z:=k15 Z c0
 refine L_not_ rfl rfl (L_pick (v:=Bo b8) rfl rfl (congrArg Value.bool (so hb8)) (aB rfl (nn (rj hR9 ⟨rfl,Z⟩))))
 intro f w_ hR
 obtain ⟨sf2,Z⟩:=rk hR9 hR
 refine W_ret (retG1 (v1:=Bo b8) Tryz.results91 sf2 ?_)
 obtain rfl:=so hF
 exact ⟨rfl,Z⟩
theorem slices_IndexFunc_Sint_c {s : List (List Int)} {f_ : ((List Int)→Option Bool)} {v0 : Value} {v1 : Value} {H : FH} {w : World} (Z : Star H w []) (h0 : (rS 22 (rS 3 RP.int)).rel H [v0] s) (h1 : Fun1 Tryz.prog (rS 3 RP.int) false Value.bool f_ v1 H) {r : Int} (hF : slices_IndexFunc_Sint s f_ = some r) :
 C Tryz.prog 135 #[v0,v1] w fun v w'=>v = I r∧Star H w' []:=by
 unfold slices_IndexFunc_Sint at hF
 obtain ⟨fid_1,caps_1,rfl,hcall_1,hc_1⟩:=h1
 refine C_enter Tryz.func135 rfl Tryz.ntmps135 rfl (sq (aI rfl (nq (sq (mV v0 rfl (L_len rfl Tryz.underlying47 rfl (slice_len h0) (mI rfl (nn ?_))))))))
 have hlen2 : List.length s≤9223372036854775807:=len_le (slice_len h0)
 obtain ⟨j2,hL2,hF⟩:=bind_some hF
 obtain ⟨R2,hR2⟩:=exR fun f w_=>j2 = .nx ()∧Star H w_ ([])
 refine W_join R2 ?_ ?_
 refine W_block ?_
 obtain ⟨I2,hI2⟩:=exI fun n f w_=>∃ i_1 : Nat,∃ suf2 : List (List Int),n = suf2.length∧List.drop i_1 s = suf2∧i_1 + suf2.length = s.length∧rangeL (slices_IndexFunc_Sint_b1 f_) suf2 i_1 () = some j2∧f 0 = v0∧f 1 = .func (.func fid_1) #[] caps_1∧f 7 = I (s.length : Int)∧f 8 = I i_1∧Star H w_ ([])
 refine W_loop I2 (n:=s.length) ?_ ?_
 exact ij hI2 ⟨0,s,rfl,rfl,Nat.zero_add _,hL2,rfl,rfl,rfl,rfl,Z⟩
 intro n2 f w_ hI
 obtain ⟨i_1,suf2,rfl,hd2,hl2,hL2,sf0,sf1,sf7,sf8,Z⟩:=ik hI2 hI
 refine sq (L_lss rfl sf8 sf7 (nq (W_cond (b:=decide ((i_1 : Int) < (s.length : Int))) rfl (fun hc3=>?_) (fun hc3=>?_))))
 have hlt2:=of_decide_eq_true hc3
 rcases suf2 with _ | ⟨x_2,rest2⟩
 exact absurd hlt2 (by simp at hl2; omega)
 obtain ⟨o2,hB2,hL2⟩:=range_cons hL2
 rw [slices_IndexFunc_Sint_b1] at hB2
 have hix2:=drop_idx hd2
 refine W_skip (W_seq (W_block (sq (mF sf8 rfl (aI rfl (nq ?_))))))
 obtain ⟨x8,hx8,hB2⟩:=bind_some hB2
 refine W_region (mF sf1 rfl (mF sf0 rfl (mI rfl (L_ix (r:=(rS 3 RP.int)) rfl Tryz.underlying47 Tryz.sizeOf22 rfl h0 rfl hix2 (fun g15 o16 cs_g15 hrk_hat17 hat17=>?_)))))
 obtain ⟨u18,rfl,hu18⟩:=slice1 hrk_hat17
 refine L_ld rfl Tryz.isAgg22 rfl (At.cell (AtH.at hat17 Z.sub) (j:=0) rfl) ?_
 obtain ⟨H19b,l20,s21,z22,k23⟩:=Z.borrow
 refine L_callv (args:=#[u18]) rfl hcall_1 rfl (ops1 rfl) (hc_1 _ _ l20 s21 [u18] _ _ _ (RP.mono _ hu18 l20) hx8 (args_app rfl)) ?_
 rintro _ w24 ⟨rfl,Z⟩
 have Z:=k23 Z c0
 refine nn (W_cond (b:=x8) rfl (fun hc25=>?_) (fun hc25=>?_))
 have hB2:=(ite_t hc25).symm.trans hB2
 refine sq (mI rfl (aI rfl (nn (W_ret (retG1 (v1:=I i_1) Tryz.results135 rfl ?_)))))
 obtain rfl:=so hB2
 obtain rfl:=so hL2
 obtain rfl:=so hF
 exact ⟨rfl,Z⟩
 have hB2:=(ite_f hc25).symm.trans hB2
 refine W_skip (W_region (L_add rfl sf8 rfl (mI rfl (nn ?_))))
 obtain rfl:=so hB2
 show ∃ m,m < _∧I2 m _ _
 refine ⟨rest2.length,by simp,?_⟩
 exact ij hI2 ⟨i_1 + 1,rest2,rfl,drop_next hd2,by simp at hl2; omega,hL2,sf0,sf1,sf7,(Eq.trans rfl (congrArg (Value.int .i64) (i64_succ (n:=s.length) (by simp at hl2; omega) hlen2))),Z⟩
 rcases suf2 with _ | ⟨_,_⟩
 obtain rfl:=range_nil hL2
 refine W_exit (rj hR2 ⟨rfl,Z⟩)
 exact absurd (of_decide_eq_false hc3) (by simp at hl2; omega)
 intro f w_ hR
 obtain ⟨rfl,Z⟩:=rk hR2 hR
 refine sq (aI rfl (nn (W_ret (retG1 (v1:=I (-1)) Tryz.results135 rfl ?_))))
 obtain rfl:=so hF
 exact ⟨rfl,Z⟩
theorem slices_ContainsFunc_Sint_c {s : List (List Int)} {f_ : ((List Int)→Option Bool)} {v0 : Value} {v1 : Value} {H : FH} {w : World} (Z : Star H w []) (h0 : (rS 22 (rS 3 RP.int)).rel H [v0] s) (h1 : Fun1 Tryz.prog (rS 3 RP.int) false Value.bool f_ v1 H) {r : Bool} (hF : slices_ContainsFunc_Sint s f_ = some r) :
 C Tryz.prog 92 #[v0,v1] w fun v w'=>v = Bo r∧Star H w' []:=by
 unfold slices_ContainsFunc_Sint at hF
 obtain ⟨fid_1,caps_1,rfl,hcall_1,hc_1⟩:=h1
 refine C_enter Tryz.func92 rfl Tryz.ntmps92 rfl (sq (aB rfl (nq ?_)))
 obtain ⟨x6,hx6,hF⟩:=bind_some hF
 refine W_region (mV v0 rfl (mV (.func (.func fid_1) #[] caps_1) rfl ?_))
 obtain ⟨H8b,l9,s10,z11,k12⟩:=Z.borrow
 refine L_call rfl Tryz.call135 (ops2 rfl rfl) (slices_IndexFunc_Sint_c (s:=s) (f_:=f_) s10 (RP.mono _ h0 l9) (Fun1.le ⟨_,_,rfl,hcall_1,hc_1⟩ l9) hx6) ?_
 rintro _ w13 ⟨rfl,Z⟩
 have Z:=k12 Z c0
 refine L_geq rfl rfl rfl (aB rfl (nn (W_ret (retG1 (v1:=Bo (decide (x6 ≥ 0))) Tryz.results92 rfl ?_))))
 obtain rfl:=so hF
 exact ⟨rfl,Z⟩
theorem i_ruleValid_2_1_c {n_ : Int} {H : FH} {w : World} (Z : Star H w []) {r : Bool} (hF : i_ruleValid_2_1 n_ = some r) :
 C Tryz.prog 94 #[I n_] w fun v w'=>v = Bo r∧Star H w' []:=by
 unfold i_ruleValid_2_1 at hF
 refine C_enter Tryz.func94 rfl Tryz.ntmps94 rfl (sq (aB rfl (nq ?_)))
 obtain ⟨x6,hx6,hF⟩:=bind_some hF
 refine W_region (mI rfl ?_)
 obtain ⟨H8b,l9,s10,z11,k12⟩:=Z.borrow
 refine L_call rfl Tryz.call46 (ops3 rfl rfl rfl) (i_within_c (n_:=n_) (low:=0) (high:=3) s10 hx6) ?_
 rintro _ w13 ⟨rfl,Z⟩
 have Z:=k12 Z c0
 refine L_not_ rfl rfl (aB rfl (nn (W_ret (retG1 (v1:=Bo (!x6)) Tryz.results94 rfl ?_))))
 obtain rfl:=so hF
 exact ⟨rfl,Z⟩
theorem i_ruleValid_2_c {c1 : Rule} {row : List Int} {v0 : Value} {g_c1 : Nat} {v1_1 : Value} {v1_2 : Value} {v1_4 : Value} {H : FH} {w : World} (Z : Star H w []) (h0 : (rS 3 RP.int).rel H [v0] row) (hat_g_c1 : AtH H g_c1 0 [I c1.kind,v1_1,v1_2,I c1.bound,v1_4]) (h1_1 : (rS 3 RP.int).rel H [v1_1] c1.vars) (h1_2 : (rS 3 RP.int).rel H [v1_2] c1.coefs) (h1_4 : (rS 22 (rS 3 RP.int)).rel H [v1_4] c1.rows) {r : Bool} (hF : i_ruleValid_2 c1 row = some r) :
 C Tryz.prog 93 #[v0,Pt g_c1] w fun v w'=>v = Bo r∧Star H w' []:=by
 unfold i_ruleValid_2 at hF
 refine C_enter Tryz.func93 rfl Tryz.ntmps93 rfl (sq (aB rfl (nq ?_)))
 obtain ⟨b8,hb8,hF⟩:=bind_some hF
 obtain ⟨R9,hR9⟩:=exR fun f w_=>f 3 = Bo b8∧Star H w_ ([])
 refine W_join R9 ?_ ?_
 refine W_region (mV v0 rfl (L_len rfl Tryz.underlying22 rfl (slice_len h0) (fA 1 fa_49_1 rfl rfl (L_ld rfl Tryz.isAgg22 rfl (At.cell0 (AtH.at hat_g_c1 Z.sub) (j:=1) rfl) (L_len rfl Tryz.underlying22 rfl (slice_len h1_1) (L_neq rfl rfl rfl (mB rfl (L_split (d:=10) (b:=((row.length : Int) != (c1.vars.length : Int))) rfl (fun hc10=>?_) (fun hc10=>?_)))))))))
 rw [ite_t hc10] at hb8
 refine ps rfl (ps rfl (L_pick (v:=Bo b8) rfl rfl (congrArg Value.bool (so hb8)) (aB rfl (nn (rj hR9 ⟨rfl,Z⟩)))))
 rw [ite_f hc10] at hb8
 obtain ⟨x6,hx6,hb8⟩:=bind_some hb8
 refine mV v0 rfl ?_
 obtain ⟨H11b,l12,s13,z14,k15⟩:=Z.borrow
 have hf16 : Fun1 Tryz.prog RP.int false Value.bool i_ruleValid_2_1 (.func (.func 94) #[] #[]) H11b:=by
   refine ⟨_,_,rfl,Tryz.call94,fun H_ w_ hE_ hs_ cs_ x_ y_ args_ hr_ hy_ ha_=>?_⟩
   obtain rfl : cs_ = [_]:=hr_
   obtain rfl:=args_of (b:=#[I x_]) ha_
   exact i_ruleValid_2_1_c (n_:=x_) hs_  hy_
 refine L_call rfl Tryz.call90 (ops2 rfl rfl) (slices_ContainsFunc_int_c (s:=row) (f_:=i_ruleValid_2_1) s13 (RP.mono _ h0 l12) hf16 hx6) ?_
 rintro _ w17 ⟨rfl,Z⟩
 have Z:=k15 Z c0
 refine L_pick (v:=Bo b8) rfl rfl (congrArg Value.bool (so hb8)) (aB rfl (nn (rj hR9 ⟨rfl,Z⟩)))
 intro f w_ hR
 obtain ⟨sf3,Z⟩:=rk hR9 hR
 refine W_ret (retG1 (v1:=Bo b8) Tryz.results93 sf3 ?_)
 obtain rfl:=so hF
 exact ⟨rfl,Z⟩
theorem i_ruleValid_c {r_ : Rule} {cells : Int} {v0_1 : Value} {v0_2 : Value} {v0_4 : Value} {H : FH} {w : World} (Z : Star H w []) (h0_1 : (rS 3 RP.int).rel H [v0_1] r_.vars) (h0_2 : (rS 3 RP.int).rel H [v0_2] r_.coefs) (h0_4 : (rS 22 (rS 3 RP.int)).rel H [v0_4] r_.rows) {r : Bool} (hF : i_ruleValid r_ cells = some r) :
 C Tryz.prog 49 #[.agg #[I r_.kind,v0_1,v0_2,I r_.bound,v0_4],I cells] w fun v w'=>v = Bo r∧Star H w' []:=by
 unfold i_ruleValid at hF
 refine C_enter Tryz.func49 rfl Tryz.ntmps49 rfl (sq (L_box (v:=.agg #[I r_.kind,v0_1,v0_2,I r_.bound,v0_4]) (cs:=#[I r_.kind,v0_1,v0_2,I r_.bound,v0_4]) rfl rfl rfl Z (fun g3 w4 Z=>aB rfl (nq (sq (fA 1 fa_49_1 rfl rfl (ldB 0 Z Tryz.isAgg22 rfl rfl rfl (L_len rfl Tryz.underlying22 rfl (slice_len h0_1) (mI rfl (nn ?_))))))))))
 have hlen6 : List.length r_.vars≤9223372036854775807:=len_le (slice_len h0_1)
 obtain ⟨j6,hL6,hF⟩:=bind_some hF
 obtain ⟨R6,hR6⟩:=exR fun f w_=>j6 = .nx ()∧f 2 = Pt g3∧Star H w_ ([box g3 49 #[I r_.kind,v0_1,v0_2,I r_.bound,v0_4]])
 refine W_join R6 ?_ ?_
 refine W_block ?_
 obtain ⟨I6,hI6⟩:=exI fun n f w_=>∃ i_5 : Nat,∃ suf6 : List Int,n = suf6.length∧List.drop i_5 r_.vars = suf6∧i_5 + suf6.length = r_.vars.length∧rangeL (i_ruleValid_b1 r_ cells) suf6 i_5 () = some j6∧f 1 = I cells∧f 2 = Pt g3∧f 8 = v0_1∧f 9 = I (r_.vars.length : Int)∧f 10 = I i_5∧Star H w_ ([box g3 49 #[I r_.kind,v0_1,v0_2,I r_.bound,v0_4]])
 refine W_loop I6 (n:=r_.vars.length) ?_ ?_
 exact ij hI6 ⟨0,r_.vars,rfl,rfl,Nat.zero_add _,hL6,rfl,rfl,rfl,rfl,rfl,Z⟩
 intro n6 f w_ hI
 obtain ⟨i_5,suf6,rfl,hd6,hl6,hL6,sf1,sf2,sf8,sf9,sf10,Z⟩:=ik hI6 hI
 refine sq (L_lss rfl sf10 sf9 (nq (W_cond (b:=decide ((i_5 : Int) < (r_.vars.length : Int))) rfl (fun hc7=>?_) (fun hc7=>?_))))
 have hlt6:=of_decide_eq_true hc7
 rcases suf6 with _ | ⟨x_6,rest6⟩
 exact absurd hlt6 (by simp at hl6; omega)
 obtain ⟨o6,hB6,hL6⟩:=range_cons hL6
 rw [i_ruleValid_b1] at hB6
 have hix6:=drop_idx hd6
 refine W_skip (W_seq (W_block (sq (mF sf10 rfl (L_ix (r:=RP.int) rfl Tryz.underlying22 Tryz.sizeOf3 sf8 h0_1 sf10 hix6 (fun g12 o13 cs_g12 hrk_hat14 hat14=>?_))))))
 obtain rfl : _ = [_]:=hrk_hat14
 refine L_ld rfl Tryz.isAgg3 rfl (At.cell (AtH.at hat14 Z.sub) (j:=0) rfl) (aI rfl (aI rfl (nq ?_)))
 obtain ⟨x21,hx21,hB6⟩:=bind_some hB6
 obtain ⟨b33,hb33,hB6⟩:=bind_some hB6
 obtain ⟨R34,hR34⟩:=exR fun f w_=>f 1 = I cells∧f 2 = Pt g3∧f 8 = v0_1∧f 9 = I (r_.vars.length : Int)∧f 10 = I i_5∧f 27 = Bo b33∧Star H w_ ([box g3 49 #[I r_.kind,v0_1,v0_2,I r_.bound,v0_4]])
 refine W_join R34 ?_ ?_
 refine W_region (mI rfl (mF sf1 rfl (L_sub rfl rfl rfl ?_)))
 obtain ⟨H35b,l36,s37,z38,k39⟩:=Z.borrow
 refine L_call rfl Tryz.call46 (ops3 rfl rfl rfl) (i_within_c (n_:=x_6) (low:=0) (high:=i64 (cells - 1)) s37 hx21) ?_
 rintro _ w40 ⟨rfl,Z⟩
 have Z:=k39 Z c0
 refine L_not_ rfl rfl (mB rfl (L_split (d:=20) (b:=(!x21)) rfl (fun hc41=>?_) (fun hc41=>?_)))
 rw [ite_t hc41] at hb33
 refine ps rfl (ps rfl (ps rfl (ps rfl (ps rfl (ps rfl (L_pick (v:=Bo b33) rfl rfl (congrArg Value.bool (so hb33)) (nn (rj hR34 ⟨sf1,sf2,sf8,sf9,sf10,rfl,Z⟩))))))))
 rw [ite_f hc41] at hb33
 obtain ⟨x23,hx23,hb33⟩:=bind_some hb33
 obtain ⟨x31,hx31,hb33⟩:=bind_some hb33
 refine fA 1 fa_49_1 sf2 rfl (ldB 0 Z Tryz.isAgg22 rfl rfl rfl (mI rfl (L_sl (a:=0) (b:=(i_5 : Int)) rfl et_22 rfl h0_1 rfl rfl hx23 (fun v42 hs43=>mI rfl ?_))))
 obtain ⟨H44b,l45,s46,z47,k48⟩:=Z.borrow
 refine L_call rfl Tryz.call89 (ops2 rfl rfl) (slices_Contains_int_c (s:=x23) (v_:=x_6) s46 (RP.mono _ hs43 l45) hx31) ?_
 rintro _ w49 ⟨rfl,Z⟩
 have Z:=k48 Z c0
 refine L_pick (v:=Bo b33) rfl rfl (congrArg Value.bool (so hb33)) (nn (rj hR34 ⟨sf1,sf2,sf8,sf9,sf10,rfl,Z⟩))
 intro f w_ hR
 obtain ⟨sf1,sf2,sf8,sf9,sf10,sf27,Z⟩:=rk hR34 hR
 refine W_cond (b:=b33) sf27 (fun hc50=>?_) (fun hc50=>?_)
 have hB6:=(ite_t hc50).symm.trans hB6
 refine sq (aB rfl (nn (W_ret (retG1 (v1:=Bo false) Tryz.results49 rfl ?_))))
 obtain rfl:=so hB6
 obtain rfl:=so hL6
 obtain rfl:=so hF
 exact ⟨rfl,(Star.keepN 0 Z)⟩
 have hB6:=(ite_f hc50).symm.trans hB6
 refine W_skip (W_region (L_add rfl sf10 rfl (mI rfl (nn ?_))))
 obtain rfl:=so hB6
 show ∃ m,m < _∧I6 m _ _
 refine ⟨rest6.length,by simp,?_⟩
 exact ij hI6 ⟨i_5 + 1,rest6,rfl,drop_next hd6,by simp at hl6; omega,hL6,sf1,sf2,sf8,sf9,(Eq.trans rfl (congrArg (Value.int .i64) (i64_succ (n:=r_.vars.length) (by simp at hl6; omega) hlen6))),Z⟩
 rcases suf6 with _ | ⟨_,_⟩
 obtain rfl:=range_nil hL6
 refine W_exit (rj hR6 ⟨rfl,sf2,Z⟩)
 exact absurd (of_decide_eq_false hc7) (by simp at hl6; omega)
 intro f w_ hR
 obtain ⟨rfl,sf2,Z⟩:=rk hR6 hR
 refine W_seq (W_seq ?_)
 obtain ⟨R51,hR51⟩:=exR fun f w_=>f 2 = Pt g3∧f 59 = Bo ((((r_.vars.length : Int) == 0) || ((r_.kind != 1) && ((decide ((r_.coefs.length : Int) > 0)) || (r_.bound != 0)))) || ((r_.kind != 3) && (decide ((r_.rows.length : Int) > 0))))∧Star H w_ ([box g3 49 #[I r_.kind,v0_1,v0_2,I r_.bound,v0_4]])
 refine W_join R51 ?_ ?_
 refine W_region (fA 1 fa_49_1 sf2 rfl (ldB 0 Z Tryz.isAgg22 rfl rfl rfl (L_len rfl Tryz.underlying22 rfl (slice_len h0_1) (L_eql rfl rfl rfl (mB rfl (L_split (d:=33) (b:=((r_.vars.length : Int) == 0)) rfl (fun hc52=>?_) (fun hc52=>?_)))))))
 refine ps rfl (ps rfl (ps rfl (ps rfl (ps rfl (ps rfl (ps rfl (ps rfl (ps rfl (ps rfl (ps rfl (ps rfl (ps rfl (ps rfl (L_pick (v:=Bo (((r_.vars.length : Int) == 0) || ((r_.kind != 1) && ((decide ((r_.coefs.length : Int) > 0)) || (r_.bound != 0))))) rfl rfl (or_t hc52) (mB rfl (L_split (d:=49) (b:=(((r_.vars.length : Int) == 0) || ((r_.kind != 1) && ((decide ((r_.coefs.length : Int) > 0)) || (r_.bound != 0))))) rfl (fun hc53=>?_) (fun hc53=>?_)))))))))))))))))
 refine ps rfl (ps rfl (ps rfl (ps rfl (ps rfl (ps rfl (ps rfl (ps rfl (ps rfl (L_pick (v:=Bo ((((r_.vars.length : Int) == 0) || ((r_.kind != 1) && ((decide ((r_.coefs.length : Int) > 0)) || (r_.bound != 0)))) || ((r_.kind != 3) && (decide ((r_.rows.length : Int) > 0))))) rfl rfl (or_t hc53) (nn (rj hR51 ⟨sf2,rfl,Z⟩)))))))))))
 refine fA 0 fa_49_0 sf2 rfl (ldB 0 Z Tryz.isAgg3 rfl rfl rfl (L_neq rfl rfl rfl (mB rfl (L_split (d:=53) (b:=(r_.kind != 3)) rfl (fun hc54=>?_) (fun hc54=>?_)))))
 refine fA 4 fa_49_4 sf2 rfl (ldB 0 Z Tryz.isAgg47 rfl rfl rfl (L_len rfl Tryz.underlying47 rfl (slice_len h0_4) (L_gtr rfl rfl rfl (L_pick (v:=Bo ((r_.kind != 3) && (decide ((r_.rows.length : Int) > 0)))) rfl rfl (and_t hc54 rfl) (L_pick (v:=Bo ((((r_.vars.length : Int) == 0) || ((r_.kind != 1) && ((decide ((r_.coefs.length : Int) > 0)) || (r_.bound != 0)))) || ((r_.kind != 3) && (decide ((r_.rows.length : Int) > 0))))) rfl rfl (or_f hc53 rfl) (nn (rj hR51 ⟨sf2,rfl,Z⟩)))))))
 refine ps rfl (ps rfl (ps rfl (ps rfl (L_pick (v:=Bo ((r_.kind != 3) && (decide ((r_.rows.length : Int) > 0)))) rfl rfl (and_f hc54) (L_pick (v:=Bo ((((r_.vars.length : Int) == 0) || ((r_.kind != 1) && ((decide ((r_.coefs.length : Int) > 0)) || (r_.bound != 0)))) || ((r_.kind != 3) && (decide ((r_.rows.length : Int) > 0))))) rfl rfl (or_f hc53 rfl) (nn (rj hR51 ⟨sf2,rfl,Z⟩)))))))
 refine fA 0 fa_49_0 sf2 rfl (ldB 0 Z Tryz.isAgg3 rfl rfl rfl (L_neq rfl rfl rfl (mB rfl (L_split (d:=37) (b:=(r_.kind != 1)) rfl (fun hc55=>?_) (fun hc55=>?_)))))
 refine fA 2 fa_49_2 sf2 rfl (ldB 0 Z Tryz.isAgg22 rfl rfl rfl (L_len rfl Tryz.underlying22 rfl (slice_len h0_2) (L_gtr rfl rfl rfl (mB rfl (L_split (d:=42) (b:=decide ((r_.coefs.length : Int) > 0)) rfl (fun hc56=>?_) (fun hc56=>?_))))))
 refine ps rfl (ps rfl (ps rfl (L_pick (v:=Bo ((decide ((r_.coefs.length : Int) > 0)) || (r_.bound != 0))) rfl rfl (or_t hc56) (L_pick (v:=Bo ((r_.kind != 1) && ((decide ((r_.coefs.length : Int) > 0)) || (r_.bound != 0)))) rfl rfl (and_t hc55 rfl) (L_pick (v:=Bo (((r_.vars.length : Int) == 0) || ((r_.kind != 1) && ((decide ((r_.coefs.length : Int) > 0)) || (r_.bound != 0))))) rfl rfl (or_f hc52 rfl) (mB rfl (L_split (d:=49) (b:=(((r_.vars.length : Int) == 0) || ((r_.kind != 1) && ((decide ((r_.coefs.length : Int) > 0)) || (r_.bound != 0))))) rfl (fun hc57=>?_) (fun hc57=>?_))))))))
 refine ps rfl (ps rfl (ps rfl (ps rfl (ps rfl (ps rfl (ps rfl (ps rfl (ps rfl (L_pick (v:=Bo ((((r_.vars.length : Int) == 0) || ((r_.kind != 1) && ((decide ((r_.coefs.length : Int) > 0)) || (r_.bound != 0)))) || ((r_.kind != 3) && (decide ((r_.rows.length : Int) > 0))))) rfl rfl (or_t hc57) (nn (rj hR51 ⟨sf2,rfl,Z⟩)))))))))))
 refine fA 0 fa_49_0 sf2 rfl (ldB 0 Z Tryz.isAgg3 rfl rfl rfl (L_neq rfl rfl rfl (mB rfl (L_split (d:=53) (b:=(r_.kind != 3)) rfl (fun hc58=>?_) (fun hc58=>?_)))))
 refine fA 4 fa_49_4 sf2 rfl (ldB 0 Z Tryz.isAgg47 rfl rfl rfl (L_len rfl Tryz.underlying47 rfl (slice_len h0_4) (L_gtr rfl rfl rfl (L_pick (v:=Bo ((r_.kind != 3) && (decide ((r_.rows.length : Int) > 0)))) rfl rfl (and_t hc58 rfl) (L_pick (v:=Bo ((((r_.vars.length : Int) == 0) || ((r_.kind != 1) && ((decide ((r_.coefs.length : Int) > 0)) || (r_.bound != 0)))) || ((r_.kind != 3) && (decide ((r_.rows.length : Int) > 0))))) rfl rfl (or_f hc57 rfl) (nn (rj hR51 ⟨sf2,rfl,Z⟩)))))))
 refine ps rfl (ps rfl (ps rfl (ps rfl (L_pick (v:=Bo ((r_.kind != 3) && (decide ((r_.rows.length : Int) > 0)))) rfl rfl (and_f hc58) (L_pick (v:=Bo ((((r_.vars.length : Int) == 0) || ((r_.kind != 1) && ((decide ((r_.coefs.length : Int) > 0)) || (r_.bound != 0)))) || ((r_.kind != 3) && (decide ((r_.rows.length : Int) > 0))))) rfl rfl (or_f hc57 rfl) (nn (rj hR51 ⟨sf2,rfl,Z⟩)))))))
 refine fA 3 fa_49_3 sf2 rfl (ldB 0 Z Tryz.isAgg3 rfl rfl rfl (L_neq rfl rfl rfl (L_pick (v:=Bo ((decide ((r_.coefs.length : Int) > 0)) || (r_.bound != 0))) rfl rfl (or_f hc56 rfl) (L_pick (v:=Bo ((r_.kind != 1) && ((decide ((r_.coefs.length : Int) > 0)) || (r_.bound != 0)))) rfl rfl (and_t hc55 rfl) (L_pick (v:=Bo (((r_.vars.length : Int) == 0) || ((r_.kind != 1) && ((decide ((r_.coefs.length : Int) > 0)) || (r_.bound != 0))))) rfl rfl (or_f hc52 rfl) (mB rfl (L_split (d:=49) (b:=(((r_.vars.length : Int) == 0) || ((r_.kind != 1) && ((decide ((r_.coefs.length : Int) > 0)) || (r_.bound != 0))))) rfl (fun hc59=>?_) (fun hc59=>?_))))))))
 refine ps rfl (ps rfl (ps rfl (ps rfl (ps rfl (ps rfl (ps rfl (ps rfl (ps rfl (L_pick (v:=Bo ((((r_.vars.length : Int) == 0) || ((r_.kind != 1) && ((decide ((r_.coefs.length : Int) > 0)) || (r_.bound != 0)))) || ((r_.kind != 3) && (decide ((r_.rows.length : Int) > 0))))) rfl rfl (or_t hc59) (nn (rj hR51 ⟨sf2,rfl,Z⟩)))))))))))
 refine fA 0 fa_49_0 sf2 rfl (ldB 0 Z Tryz.isAgg3 rfl rfl rfl (L_neq rfl rfl rfl (mB rfl (L_split (d:=53) (b:=(r_.kind != 3)) rfl (fun hc60=>?_) (fun hc60=>?_)))))
 refine fA 4 fa_49_4 sf2 rfl (ldB 0 Z Tryz.isAgg47 rfl rfl rfl (L_len rfl Tryz.underlying47 rfl (slice_len h0_4) (L_gtr rfl rfl rfl (L_pick (v:=Bo ((r_.kind != 3) && (decide ((r_.rows.length : Int) > 0)))) rfl rfl (and_t hc60 rfl) (L_pick (v:=Bo ((((r_.vars.length : Int) == 0) || ((r_.kind != 1) && ((decide ((r_.coefs.length : Int) > 0)) || (r_.bound != 0)))) || ((r_.kind != 3) && (decide ((r_.rows.length : Int) > 0))))) rfl rfl (or_f hc59 rfl) (nn (rj hR51 ⟨sf2,rfl,Z⟩)))))))
 refine ps rfl (ps rfl (ps rfl (ps rfl (L_pick (v:=Bo ((r_.kind != 3) && (decide ((r_.rows.length : Int) > 0)))) rfl rfl (and_f hc60) (L_pick (v:=Bo ((((r_.vars.length : Int) == 0) || ((r_.kind != 1) && ((decide ((r_.coefs.length : Int) > 0)) || (r_.bound != 0)))) || ((r_.kind != 3) && (decide ((r_.rows.length : Int) > 0))))) rfl rfl (or_f hc59 rfl) (nn (rj hR51 ⟨sf2,rfl,Z⟩)))))))
 refine ps rfl (ps rfl (ps rfl (ps rfl (ps rfl (ps rfl (ps rfl (ps rfl (ps rfl (L_pick (v:=Bo ((r_.kind != 1) && ((decide ((r_.coefs.length : Int) > 0)) || (r_.bound != 0)))) rfl rfl (and_f hc55) (L_pick (v:=Bo (((r_.vars.length : Int) == 0) || ((r_.kind != 1) && ((decide ((r_.coefs.length : Int) > 0)) || (r_.bound != 0))))) rfl rfl (or_f hc52 rfl) (mB rfl (L_split (d:=49) (b:=(((r_.vars.length : Int) == 0) || ((r_.kind != 1) && ((decide ((r_.coefs.length : Int) > 0)) || (r_.bound != 0))))) rfl (fun hc61=>?_) (fun hc61=>?_)))))))))))))
 refine ps rfl (ps rfl (ps rfl (ps rfl (ps rfl (ps rfl (ps rfl (ps rfl (ps rfl (L_pick (v:=Bo ((((r_.vars.length : Int) == 0) || ((r_.kind != 1) && ((decide ((r_.coefs.length : Int) > 0)) || (r_.bound != 0)))) || ((r_.kind != 3) && (decide ((r_.rows.length : Int) > 0))))) rfl rfl (or_t hc61) (nn (rj hR51 ⟨sf2,rfl,Z⟩)))))))))))
 refine fA 0 fa_49_0 sf2 rfl (ldB 0 Z Tryz.isAgg3 rfl rfl rfl (L_neq rfl rfl rfl (mB rfl (L_split (d:=53) (b:=(r_.kind != 3)) rfl (fun hc62=>?_) (fun hc62=>?_)))))
 refine fA 4 fa_49_4 sf2 rfl (ldB 0 Z Tryz.isAgg47 rfl rfl rfl (L_len rfl Tryz.underlying47 rfl (slice_len h0_4) (L_gtr rfl rfl rfl (L_pick (v:=Bo ((r_.kind != 3) && (decide ((r_.rows.length : Int) > 0)))) rfl rfl (and_t hc62 rfl) (L_pick (v:=Bo ((((r_.vars.length : Int) == 0) || ((r_.kind != 1) && ((decide ((r_.coefs.length : Int) > 0)) || (r_.bound != 0)))) || ((r_.kind != 3) && (decide ((r_.rows.length : Int) > 0))))) rfl rfl (or_f hc61 rfl) (nn (rj hR51 ⟨sf2,rfl,Z⟩)))))))
 refine ps rfl (ps rfl (ps rfl (ps rfl (L_pick (v:=Bo ((r_.kind != 3) && (decide ((r_.rows.length : Int) > 0)))) rfl rfl (and_f hc62) (L_pick (v:=Bo ((((r_.vars.length : Int) == 0) || ((r_.kind != 1) && ((decide ((r_.coefs.length : Int) > 0)) || (r_.bound != 0)))) || ((r_.kind != 3) && (decide ((r_.rows.length : Int) > 0))))) rfl rfl (or_f hc61 rfl) (nn (rj hR51 ⟨sf2,rfl,Z⟩)))))))
 intro f w_ hR
 obtain ⟨sf2,sf59,Z⟩:=rk hR51 hR
 refine W_cond (b:=((((r_.vars.length : Int) == 0) || ((r_.kind != 1) && ((decide ((r_.coefs.length : Int) > 0)) || (r_.bound != 0)))) || ((r_.kind != 3) && (decide ((r_.rows.length : Int) > 0))))) sf59 (fun hc63=>?_) (fun hc63=>?_)
 have hF:=(ite_t hc63).symm.trans hF
 refine sq (aB rfl (nn (W_ret (retG1 (v1:=Bo false) Tryz.results49 rfl ?_))))
 obtain rfl:=so hF
 exact ⟨rfl,(Star.keepN 0 Z)⟩
 have hF:=(ite_f hc63).symm.trans hF
 refine W_skip (W_seq (sq (fA 0 fa_49_0 sf2 rfl (ldB 0 Z Tryz.isAgg3 rfl rfl rfl (nn (W_block (sq (L_eql rfl rfl rfl (aB rfl (nn (W_cond (b:=(r_.kind == 1)) rfl (fun hc64=>?_) (fun hc64=>?_))))))))))))
 have hF:=(ite_t hc64).symm.trans hF
 refine W_seq ?_
 obtain ⟨b72,hb72,hF⟩:=bind_some hF
 obtain ⟨b80,hb80,hF⟩:=bind_some hF
 obtain ⟨R81,hR81⟩:=exR fun f w_=>f 4 = Bo b80∧Star H w_ ([])
 refine W_join R81 ?_ ?_
 refine W_region (fA 2 fa_49_2 sf2 rfl (ldB 0 Z Tryz.isAgg22 rfl rfl rfl (L_len rfl Tryz.underlying22 rfl (slice_len h0_2) (fA 1 fa_49_1 sf2 rfl (ldB 0 Z Tryz.isAgg22 rfl rfl rfl (L_len rfl Tryz.underlying22 rfl (slice_len h0_1) (L_eql rfl rfl rfl (mB rfl (L_split (d:=71) (b:=((r_.coefs.length : Int) == (r_.vars.length : Int))) rfl (fun hc82=>?_) (fun hc82=>?_))))))))))
 rw [ite_t hc82] at hb72
 obtain ⟨x70,hx70,hb72⟩:=bind_some hb72
 refine fA 3 fa_49_3 sf2 rfl (ldB 0 Z Tryz.isAgg3 rfl rfl rfl ?_)
 obtain ⟨H83b,l84,s85,z86,k87⟩:=Z.borrow
 refine L_call rfl Tryz.call46 (ops3 rfl rfl rfl) (i_within_c (n_:=r_.bound) (low:=(-1000)) (high:=1000) s85 hx70) ?_
 rintro _ w88 ⟨rfl,Z⟩
 have Z:=k87 Z c0
 refine L_pick (v:=Bo b72) rfl rfl (congrArg Value.bool (so hb72)) (mB rfl (L_split (d:=76) (b:=b72) rfl (fun hc89=>?_) (fun hc89=>?_)))
 rw [ite_t hc89] at hb80
 obtain ⟨x78,hx78,hb80⟩:=bind_some hb80
 refine fA 2 fa_49_2 sf2 rfl (ldB 0 Z Tryz.isAgg22 rfl rfl rfl ?_)
 obtain ⟨H90b,l91,s92,z93,k94⟩:=Z.borrow
 have hf95 : Fun1 Tryz.prog RP.int false Value.bool i_ruleValid_1 (.func (.func 91) #[] #[]) H90b:=by
   refine ⟨_,_,rfl,Tryz.call91,fun H_ w_ hE_ hs_ cs_ x_ y_ args_ hr_ hy_ ha_=>?_⟩
   obtain rfl : cs_ = [_]:=hr_
   obtain rfl:=args_of (b:=#[I x_]) ha_
   exact i_ruleValid_1_c (n_:=x_) hs_  hy_
 refine L_call rfl Tryz.call90 (ops2 rfl rfl) (slices_ContainsFunc_int_c (s:=r_.coefs) (f_:=i_ruleValid_1) s92 (RP.mono _ h0_2 l91) hf95 hx78) ?_
 rintro _ w96 ⟨rfl,Z⟩
 have Z:=k94 Z c0
 refine L_not_ rfl rfl (L_pick (v:=Bo b80) rfl rfl (congrArg Value.bool (so hb80)) (aB rfl (nn (rj hR81 ⟨rfl,(Star.keepN 0 Z)⟩))))
 rw [ite_f hc89] at hb80
 refine ps rfl (ps rfl (ps rfl (ps rfl (L_pick (v:=Bo b80) rfl rfl (congrArg Value.bool (so hb80)) (aB rfl (nn (rj hR81 ⟨rfl,(Star.keepN 0 Z)⟩)))))))
 rw [ite_f hc82] at hb72
 refine ps rfl (ps rfl (ps rfl (L_pick (v:=Bo b72) rfl rfl (congrArg Value.bool (so hb72)) (mB rfl (L_split (d:=76) (b:=b72) rfl (fun hc97=>?_) (fun hc97=>?_))))))
 rw [ite_t hc97] at hb80
 obtain ⟨x78,hx78,hb80⟩:=bind_some hb80
 refine fA 2 fa_49_2 sf2 rfl (ldB 0 Z Tryz.isAgg22 rfl rfl rfl ?_)
 obtain ⟨H98b,l99,s100,z101,k102⟩:=Z.borrow
 have hf103 : Fun1 Tryz.prog RP.int false Value.bool i_ruleValid_1 (.func (.func 91) #[] #[]) H98b:=by
   refine ⟨_,_,rfl,Tryz.call91,fun H_ w_ hE_ hs_ cs_ x_ y_ args_ hr_ hy_ ha_=>?_⟩
   obtain rfl : cs_ = [_]:=hr_
   obtain rfl:=args_of (b:=#[I x_]) ha_
   exact i_ruleValid_1_c (n_:=x_) hs_  hy_
 refine L_call rfl Tryz.call90 (ops2 rfl rfl) (slices_ContainsFunc_int_c (s:=r_.coefs) (f_:=i_ruleValid_1) s100 (RP.mono _ h0_2 l99) hf103 hx78) ?_
 rintro _ w104 ⟨rfl,Z⟩
 have Z:=k102 Z c0
 refine L_not_ rfl rfl (L_pick (v:=Bo b80) rfl rfl (congrArg Value.bool (so hb80)) (aB rfl (nn (rj hR81 ⟨rfl,(Star.keepN 0 Z)⟩))))
 rw [ite_f hc97] at hb80
 refine ps rfl (ps rfl (ps rfl (ps rfl (L_pick (v:=Bo b80) rfl rfl (congrArg Value.bool (so hb80)) (aB rfl (nn (rj hR81 ⟨rfl,(Star.keepN 0 Z)⟩)))))))
 intro f w_ hR
 obtain ⟨sf4,Z⟩:=rk hR81 hR
 refine W_ret (retG1 (v1:=Bo b80) Tryz.results49 sf4 ?_)
 obtain rfl:=so hF
 exact ⟨rfl,Z⟩
 have hF:=(ite_f hc64).symm.trans hF
 refine sq (L_eql rfl rfl rfl (aB rfl (nn (W_cond (b:=(r_.kind == 3)) rfl (fun hc105=>?_) (fun hc105=>?_)))))
 have hF:=(ite_t hc105).symm.trans hF
 refine W_seq ?_
 obtain ⟨b113,hb113,hF⟩:=bind_some hF
 obtain ⟨R114,hR114⟩:=exR fun f w_=>f 4 = Bo b113∧Star H w_ ([])
 refine W_join R114 ?_ ?_
 refine W_region (fA 4 fa_49_4 sf2 rfl (ldB 0 Z Tryz.isAgg47 rfl rfl rfl (L_len rfl Tryz.underlying47 rfl (slice_len h0_4) (L_leq rfl rfl rfl (mB rfl (L_split (d:=88) (b:=decide ((r_.rows.length : Int)≤8)) rfl (fun hc115=>?_) (fun hc115=>?_)))))))
 rw [ite_t hc115] at hb113
 obtain ⟨x111,hx111,hb113⟩:=bind_some hb113
 refine fA 4 fa_49_4 sf2 rfl (ldB 0 Z Tryz.isAgg47 rfl rfl rfl (L_mf rfl (ops1 sf2) ?_))
 obtain ⟨H116b,l117,s118,z119,k120⟩:=Z.borrow
 have hf121 : Fun1 Tryz.prog (rS 3 RP.int) false Value.bool (i_ruleValid_2 r_) (.func (.func 93) #[] #[Pt g3]) H116b:=by
   refine ⟨_,_,rfl,Tryz.call93,fun H_ w_ hE_ hs_ cs_ x_ y_ args_ hr_ hy_ ha_=>?_⟩
   obtain ⟨p_0,rfl,hp_0⟩:=slice1 hr_
   obtain rfl:=args_of (b:=#[p_0,Pt g3]) ha_
   exact i_ruleValid_2_c (c1:=r_) (row:=x_) hs_ hp_0 (AtH.le (AtH.of (fz_box 0 z119 rfl)) hE_) (RP.mono _ (RP.mono _ h0_1 l117) hE_) (RP.mono _ (RP.mono _ h0_2 l117) hE_) (RP.mono _ (RP.mono _ h0_4 l117) hE_) hy_
 refine L_call rfl Tryz.call92 (ops2 rfl rfl) (slices_ContainsFunc_Sint_c (s:=r_.rows) (f_:=(i_ruleValid_2 r_)) s118 (RP.mono _ h0_4 l117) hf121 hx111) ?_
 rintro _ w122 ⟨rfl,Z⟩
 have Z:=k120 Z c0
 refine L_not_ rfl rfl (L_pick (v:=Bo b113) rfl rfl (congrArg Value.bool (so hb113)) (aB rfl (nn (rj hR114 ⟨rfl,(Star.keepN 0 Z)⟩))))
 rw [ite_f hc115] at hb113
 refine ps rfl (ps rfl (ps rfl (ps rfl (ps rfl (L_pick (v:=Bo b113) rfl rfl (congrArg Value.bool (so hb113)) (aB rfl (nn (rj hR114 ⟨rfl,(Star.keepN 0 Z)⟩))))))))
 intro f w_ hR
 obtain ⟨sf4,Z⟩:=rk hR114 hR
 refine W_ret (retG1 (v1:=Bo b113) Tryz.results49 sf4 ?_)
 obtain rfl:=so hF
 exact ⟨rfl,Z⟩
 have hF:=(ite_f hc105).symm.trans hF
 refine sq (L_eql rfl rfl rfl (aB rfl (nn (W_cond (b:=(r_.kind == 4)) rfl (fun hc123=>?_) (fun hc123=>?_)))))
 have hF:=(ite_t hc123).symm.trans hF
 refine sq (fA 1 fa_49_1 sf2 rfl (ldB 0 Z Tryz.isAgg22 rfl rfl rfl (L_len rfl Tryz.underlying22 rfl (slice_len h0_1) (L_eql rfl rfl rfl (aB rfl (nn (W_ret (retG1 (v1:=Bo ((r_.vars.length : Int) == 2)) Tryz.results49 rfl ?_))))))))
 obtain rfl:=so hF
 exact ⟨rfl,(Star.keepN 0 Z)⟩
 have hF:=(ite_f hc123).symm.trans hF
 refine W_skip (sq (fA 0 fa_49_0 sf2 rfl (ldB 0 Z Tryz.isAgg3 rfl rfl rfl (L_eql rfl rfl rfl (aB rfl (nn (W_ret (retG1 (v1:=Bo (r_.kind == 2)) Tryz.results49 rfl ?_))))))))
 obtain rfl:=so hF
 exact ⟨rfl,(Star.keepN 0 Z)⟩
theorem i_ModelValid_1_c {c1 : Model} {r_ : Rule} {v0_1 : Value} {v0_2 : Value} {v0_4 : Value} {g_c1 : Nat} {v1_0 : Value} {v1_1 : Value} {H : FH} {w : World} (Z : Star H w []) (h0_1 : (rS 3 RP.int).rel H [v0_1] r_.vars) (h0_2 : (rS 3 RP.int).rel H [v0_2] r_.coefs) (h0_4 : (rS 22 (rS 3 RP.int)).rel H [v0_4] r_.rows) (hat_g_c1 : AtH H g_c1 0 [v1_0,v1_1]) (h1_0 : (rS 3 RP.int).rel H [v1_0] c1.sizes) (h1_1 : (rS 49 (rRule 3 22)).rel H [v1_1] c1.rules) {r : Bool} (hF : i_ModelValid_1 c1 r_ = some r) :
 C Tryz.prog 48 #[.agg #[I r_.kind,v0_1,v0_2,I r_.bound,v0_4],Pt g_c1] w fun v w'=>v = Bo r∧Star H w' []:=by
 unfold i_ModelValid_1 at hF
 refine C_enter Tryz.func48 rfl Tryz.ntmps48 rfl (sq (L_box (v:=.agg #[I r_.kind,v0_1,v0_2,I r_.bound,v0_4]) (cs:=#[I r_.kind,v0_1,v0_2,I r_.bound,v0_4]) rfl rfl rfl Z (fun g3 w4 Z=>aB rfl (nq ?_))))
 obtain ⟨x10,hx10,hF⟩:=bind_some hF
 refine W_region (L_lda (cs:=[I r_.kind,v0_1,v0_2,I r_.bound,v0_4]) rfl Tryz.isAgg49 Tryz.sizeOf49 rfl (At.sub0 (Blk.at (Star.blkAt 0 Z rfl)) 0 5) rfl (fA 0 fa_25_0 rfl rfl (L_ld rfl Tryz.isAgg22 rfl (At.cell0 (AtH.at hat_g_c1 Z.sub) (j:=0) rfl) (L_len rfl Tryz.underlying22 rfl (slice_len h1_0) ?_))))
 obtain ⟨H12b,l13,s14,z15,k16⟩:=Z.borrow
 refine L_call rfl Tryz.call49 (ops2 rfl rfl) (i_ruleValid_c (r_:=r_) (cells:=(c1.sizes.length : Int)) s14 (RP.mono _ h0_1 l13) (RP.mono _ h0_2 l13) (RP.mono _ h0_4 l13) hx10) ?_
 rintro _ w17 ⟨rfl,Z⟩
 have Z:=k16 Z c0
 refine L_not_ rfl rfl (aB rfl (nn (W_ret (retG1 (v1:=Bo (!x10)) Tryz.results48 rfl ?_))))
 obtain rfl:=so hF
 exact ⟨rfl,(Star.keepN 0 Z)⟩
theorem i_ModelValid_c {m : Model} {v0_0 : Value} {v0_1 : Value} {H : FH} {w : World} (Z : Star H w []) (h0_0 : (rS 3 RP.int).rel H [v0_0] m.sizes) (h0_1 : (rS 49 (rRule 3 22)).rel H [v0_1] m.rules) {r : Bool} (hF : i_ModelValid m = some r) :
 C Tryz.prog 15 #[.agg #[v0_0,v0_1]] w fun v w'=>v = Bo r∧Star H w' []:=by
 unfold i_ModelValid at hF
 refine C_enter Tryz.func15 rfl Tryz.ntmps15 rfl (sq (L_box (v:=.agg #[v0_0,v0_1]) (cs:=#[v0_0,v0_1]) rfl rfl rfl Z (fun g3 w4 Z=>aB rfl (nq (W_seq ?_)))))
 obtain ⟨x10,hx10,hF⟩:=bind_some hF
 obtain ⟨R12,hR12⟩:=exR fun f w_=>f 1 = Pt g3∧f 16 = Bo ((!x10) || (decide ((m.rules.length : Int) > 8)))∧Star H w_ ([box g3 25 #[v0_0,v0_1]])
 refine W_join R12 ?_ ?_
 refine W_region (fA 0 fa_25_0 rfl rfl (ldB 0 Z Tryz.isAgg22 rfl rfl rfl (L_len rfl Tryz.underlying22 rfl (slice_len h0_0) ?_)))
 obtain ⟨H13b,l14,s15,z16,k17⟩:=Z.borrow
 refine L_call rfl Tryz.call46 (ops3 rfl rfl rfl) (i_within_c (n_:=(m.sizes.length : Int)) (low:=1) (high:=5) s15 hx10) ?_
 rintro _ w18 ⟨rfl,Z⟩
 have Z:=k17 Z c0
 refine L_not_ rfl rfl (mB rfl (L_split (d:=11) (b:=(!x10)) rfl (fun hc19=>?_) (fun hc19=>?_)))
 refine ps rfl (ps rfl (ps rfl (ps rfl (L_pick (v:=Bo ((!x10) || (decide ((m.rules.length : Int) > 8)))) rfl rfl (or_t hc19) (nn (rj hR12 ⟨rfl,rfl,Z⟩))))))
 refine fA 1 fa_25_1 rfl rfl (ldB 0 Z Tryz.isAgg23 rfl rfl rfl (L_len rfl Tryz.underlying23 rfl (slice_len h0_1) (L_gtr rfl rfl rfl (L_pick (v:=Bo ((!x10) || (decide ((m.rules.length : Int) > 8)))) rfl rfl (or_f hc19 rfl) (nn (rj hR12 ⟨rfl,rfl,Z⟩))))))
 intro f w_ hR
 obtain ⟨sf1,sf16,Z⟩:=rk hR12 hR
 refine W_cond (b:=((!x10) || (decide ((m.rules.length : Int) > 8)))) sf16 (fun hc20=>?_) (fun hc20=>?_)
 have hF:=(ite_t hc20).symm.trans hF
 refine sq (aB rfl (nn (W_ret (retG1 (v1:=Bo false) Tryz.results15 rfl ?_))))
 obtain rfl:=so hF
 exact ⟨rfl,(Star.keepN 0 Z)⟩
 have hF:=(ite_f hc20).symm.trans hF
 refine W_skip (sq (aI rfl (nq (sq (fA 0 fa_25_0 sf1 rfl (ldB 0 Z Tryz.isAgg22 rfl rfl rfl (L_len rfl Tryz.underlying22 rfl (slice_len h0_0) (mI rfl (nn ?_)))))))))
 have hlen23 : List.length m.sizes≤9223372036854775807:=len_le (slice_len h0_0)
 obtain ⟨j23,hL23,hF⟩:=bind_some hF
 obtain ⟨R23,hR23⟩:=exR fun f w_=>∃ count_22 : Int,j23 = .nx count_22∧f 1 = Pt g3∧f 3 = I count_22∧Star H w_ ([box g3 25 #[v0_0,v0_1]])
 refine W_join R23 ?_ ?_
 refine W_block ?_
 obtain ⟨I23,hI23⟩:=exI fun n f w_=>∃ i_21 : Nat,∃ suf23 : List Int,∃ count_22 : Int,n = suf23.length∧List.drop i_21 m.sizes = suf23∧i_21 + suf23.length = m.sizes.length∧rangeL i_ModelValid_b1 suf23 i_21 count_22 = some j23∧f 1 = Pt g3∧f 3 = I count_22∧f 18 = v0_0∧f 19 = I (m.sizes.length : Int)∧f 20 = I i_21∧Star H w_ ([box g3 25 #[v0_0,v0_1]])
 refine W_loop I23 (n:=m.sizes.length) ?_ ?_
 exact ij hI23 ⟨0,m.sizes,0,rfl,rfl,Nat.zero_add _,hL23,sf1,rfl,rfl,rfl,rfl,Z⟩
 intro n23 f w_ hI
 obtain ⟨i_21,suf23,count_22,rfl,hd23,hl23,hL23,sf1,sf3,sf18,sf19,sf20,Z⟩:=ik hI23 hI
 refine sq (L_lss rfl sf20 sf19 (nq (W_cond (b:=decide ((i_21 : Int) < (m.sizes.length : Int))) rfl (fun hc24=>?_) (fun hc24=>?_))))
 have hlt23:=of_decide_eq_true hc24
 rcases suf23 with _ | ⟨x_23,rest23⟩
 exact absurd hlt23 (by simp at hl23; omega)
 obtain ⟨o23,hB23,hL23⟩:=range_cons hL23
 rw [i_ModelValid_b1] at hB23
 have hix23:=drop_idx hd23
 refine W_skip (W_seq (W_block (sq (L_ix (r:=RP.int) rfl Tryz.underlying22 Tryz.sizeOf3 sf18 h0_0 sf20 hix23 (fun g29 o30 cs_g29 hrk_hat31 hat31=>?_)))))
 obtain rfl : _ = [_]:=hrk_hat31
 refine L_ld rfl Tryz.isAgg3 rfl (At.cell (AtH.at hat31 Z.sub) (j:=0) rfl) (aI rfl (nq (W_seq ?_)))
 obtain ⟨x38,hx38,hB23⟩:=bind_some hB23
 refine W_region (mI rfl ?_)
 obtain ⟨H40b,l41,s42,z43,k44⟩:=Z.borrow
 refine L_call rfl Tryz.call46 (ops3 rfl rfl rfl) (i_within_c (n_:=x_23) (low:=0) (high:=3) s42 hx38) ?_
 rintro _ w45 ⟨rfl,Z⟩
 have Z:=k44 Z c0
 refine L_not_ rfl rfl (nn (W_cond (b:=(!x38)) rfl (fun hc46=>?_) (fun hc46=>?_)))
 have hB23:=(ite_t hc46).symm.trans hB23
 refine sq (aB rfl (nn (W_ret (retG1 (v1:=Bo false) Tryz.results15 rfl ?_))))
 obtain rfl:=so hB23
 obtain rfl:=so hL23
 obtain rfl:=so hF
 exact ⟨rfl,(Star.keepN 0 Z)⟩
 have hB23:=(ite_f hc46).symm.trans hB23
 refine W_skip (W_region (mF sf3 rfl (mI rfl (L_add rfl rfl rfl (L_add rfl rfl rfl (aI rfl (nn (W_region (L_add rfl sf20 rfl (mI rfl (nn ?_)))))))))))
 obtain rfl:=so hB23
 show ∃ m,m < _∧I23 m _ _
 refine ⟨rest23.length,by simp,?_⟩
 exact ij hI23 ⟨i_21 + 1,rest23,i64 (count_22 + (i64 (x_23 + 1))),rfl,drop_next hd23,by simp at hl23; omega,hL23,sf1,rfl,sf18,sf19,(Eq.trans rfl (congrArg (Value.int .i64) (i64_succ (n:=m.sizes.length) (by simp at hl23; omega) hlen23))),Z⟩
 rcases suf23 with _ | ⟨_,_⟩
 obtain rfl:=range_nil hL23
 refine W_exit (rj hR23 ⟨count_22,rfl,sf1,sf3,Z⟩)
 exact absurd (of_decide_eq_false hc24) (by simp at hl23; omega)
 intro f w_ hR
 obtain ⟨count_22,rfl,sf1,sf3,Z⟩:=rk hR23 hR
 refine W_seq ?_
 obtain ⟨b54,hb54,hF⟩:=bind_some hF
 obtain ⟨R55,hR55⟩:=exR fun f w_=>f 2 = Bo b54∧Star H w_ ([])
 refine W_join R55 ?_ ?_
 refine W_region (mF sf3 rfl (L_leq rfl rfl rfl (mB rfl (L_split (d:=34) (b:=decide (count_22≤12)) rfl (fun hc56=>?_) (fun hc56=>?_)))))
 rw [ite_t hc56] at hb54
 obtain ⟨x52,hx52,hb54⟩:=bind_some hb54
 refine fA 1 fa_25_1 sf1 rfl (ldB 0 Z Tryz.isAgg23 rfl rfl rfl (L_mf rfl (ops1 sf1) ?_))
 obtain ⟨H57b,l58,s59,z60,k61⟩:=Z.borrow
 have hf62 : Fun1 Tryz.prog (rRule 3 22) true Value.bool (i_ModelValid_1 m) (.func (.func 48) #[] #[Pt g3]) H57b:=by
   refine ⟨_,_,rfl,Tryz.call48,fun H_ w_ hE_ hs_ cs_ x_ y_ args_ hr_ hy_ ha_=>?_⟩
   obtain ⟨p_0,p_1,p_2,rfl,hp_0,hp_1,hp_2⟩:=rRule_iff.1 hr_
   obtain rfl:=args_of (b:=#[.agg #[I x_.kind,p_0,p_1,I x_.bound,p_2],Pt g3]) ha_
   exact i_ModelValid_1_c (c1:=m) (r_:=x_) hs_ hp_0 hp_1 hp_2 (AtH.le (AtH.of (fz_box 0 z60 rfl)) hE_) (RP.mono _ (RP.mono _ h0_0 l58) hE_) (RP.mono _ (RP.mono _ h0_1 l58) hE_) hy_
 refine L_call rfl Tryz.call47 (ops2 rfl rfl) (slices_ContainsFunc_implRule_c (s:=m.rules) (f_:=(i_ModelValid_1 m)) s59 (RP.mono _ h0_1 l58) hf62 hx52) ?_
 rintro _ w63 ⟨rfl,Z⟩
 have Z:=k61 Z c0
 refine L_not_ rfl rfl (L_pick (v:=Bo b54) rfl rfl (congrArg Value.bool (so hb54)) (aB rfl (nn (rj hR55 ⟨rfl,(Star.keepN 0 Z)⟩))))
 rw [ite_f hc56] at hb54
 refine ps rfl (ps rfl (ps rfl (ps rfl (ps rfl (L_pick (v:=Bo b54) rfl rfl (congrArg Value.bool (so hb54)) (aB rfl (nn (rj hR55 ⟨rfl,(Star.keepN 0 Z)⟩))))))))
 intro f w_ hR
 obtain ⟨sf2,Z⟩:=rk hR55 hR
 refine W_ret (retG1 (v1:=Bo b54) Tryz.results15 sf2 ?_)
 obtain rfl:=so hF
 exact ⟨rfl,Z⟩
theorem strings_Split_c {x_ : ByteArray} {y_ : ByteArray} {H : FH} {w : World} (Z : Star H w []) {r : List ByteArray} (hF : strings_Split x_ y_ = some r) :
 C Tryz.prog 75 #[.string x_,.string y_] w fun v w'=>∃ u1 : Value,v = u1∧Star H w' [oF 9 RP.str u1 r]:=by
 obtain ⟨hs,hy,rfl⟩:=strings_Split_some hF
 obtain ⟨m,hm⟩:=H.glob.maxlen
 refine Calls.mono (Tryz.strings_Split x_ y_ m w hs (Z.sub.cell hm) hy) ?_
 rintro e w' ⟨rfl,rfl⟩
 exact ⟨_,rfl,_,rfl,split_star Z hs hy⟩
theorem i_linesOf_c {text : ByteArray} {most : Int} {H : FH} {w : World} {R : List Ass} (Z : Star H w R) {r : (List ByteArray) × Bool} (hF : i_linesOf text most = some r) :
 C Tryz.prog 32 #[.string text,I most] w fun v w'=>∃ H' : FH,Le H H'∧∃ (u1 : Value),v = .tuple #[u1,Bo r.2]∧(rS 9 RP.str).rel H' [u1] r.1∧Star H' w' (R):=by
 unfold i_linesOf at hF
 refine C_enter Tryz.func32 rfl Tryz.ntmps32 rfl (sq (aV S0 rfl (aB rfl (nq ?_))))
 obtain ⟨x6,hx6,hF⟩:=bind_some hF
 refine W_region (mV (.string text) rfl ?_)
 obtain ⟨H9b,l10,s11,z12,k13⟩:=Z.borrow
 refine L_call rfl Tryz.call75 (ops2 rfl rfl) (strings_Split_c (x_:=text) (y_:=(⟨#[10]⟩ : ByteArray)) s11 hx6) ?_
 rintro r14_0 w14 ⟨_,rfl,Z⟩
 have Z:=k13 Z (co closed_str c0)
 refine aV r14_0 rfl (ns (mV r14_0 rfl (L_len rfl Tryz.underlying44 rfl (Star.len 0 Z rfl) (L_sub rfl rfl rfl (aI rfl (nq ?_))))))
 obtain ⟨H16,l17,Z,hz18⟩:=Star.freeze Z
 have hz18 : (rS 9 RP.str).rel H16 [r14_0] x6:=hz18
 obtain ⟨x19,hx19,hF⟩:=bind_some hF
 obtain ⟨x22,hx22,hF⟩:=bind_some hF
 obtain ⟨R32,hR32⟩:=exR fun f w_=>∃ H30 : FH,∃ v28_t4 : Value,Le H16 H30∧f 4 = v28_t4∧f 5 = Bo ((ByteArray.toList x22 == ByteArray.toList (⟨#[]⟩ : ByteArray)) && (decide ((i64 ((x6.length : Int) - 1))≤most)))∧(rS 9 RP.str).rel H30 [v28_t4] x19∧Star H30 w_ (R)
 refine W_join R32 ?_ ?_
 rcases Bool.eq_false_or_eq_true (ByteArray.toList x22 == ByteArray.toList (⟨#[]⟩ : ByteArray)) with hc33 | hc33
 refine W_drawS 14 [isV (r14_0),isV (I (i64 ((x6.length : Int) - 1))),isData (rS 9 RP.str) x19,isV (r14_0),isV (I (i64 ((x6.length : Int) - 1))),isEl RP.str x22 0,isV (.string x22),isV (Bo (ByteArray.toList x22 == ByteArray.toList (⟨#[]⟩ : ByteArray))),isV (Bo (ByteArray.toList x22 == ByteArray.toList (⟨#[]⟩ : ByteArray))),isV (I (i64 ((x6.length : Int) - 1))),isV (I most),isV (Bo (decide ((i64 ((x6.length : Int) - 1))≤most))),isV (Bo ((ByteArray.toList x22 == ByteArray.toList (⟨#[]⟩ : ByteArray)) && (decide ((i64 ((x6.length : Int) - 1))≤most)))),isData (rS 9 RP.str) x19] [] [] (R) [([],[]),([],[]),([],[]),([],[]),([],[]),([],[]),([],[]),([],[]),([],[]),([],[]),([],[]),([],[]),([],[]),([],[])] (S:=[]) Tryz_mix (by kernel_rfl) rfl (by kernel_rfl) (amF_cons (mono_V _) (amF_cons (mono_V _) (amF_cons (mono_data _ _) (amF_cons (mono_V _) (amF_cons (mono_V _) (amF_cons (mono_el _ _ _) (amF_cons (mono_V _) (amF_cons (mono_V _) (amF_cons (mono_V _) (amF_cons (mono_V _) (amF_cons (mono_V _) (amF_cons (mono_V _) (amF_cons (mono_V _) (amF_cons (mono_data _ _) amF_nil)))))))))))))) Z ?_ (fun f w_ H27 hS27 hE27 hT27 Z=>?_)
 refine opsS_cons (fun f w_ _ _ s _ _ Z=>mF ((s 6 rfl).trans rfl) rfl (nO rfl rfl Z)) (opsS_cons (fun f w_ _ _ s _ _ Z=>mF ((s 7 rfl).trans rfl) rfl (nO rfl rfl Z)) (opsS_cons ?_ ?_))
 intro f w_ H27 X27 hS27 hE27 hP27 Z
 refine L_sl (a:=0) (b:=i64 ((x6.length : Int) - 1)) rfl et_44 (hP27 0 13 rfl rfl) (RP.mono _ hz18 hE27) rfl (hP27 1 14 rfl rfl) hx19 (fun v40 hs41=>L_nil ⟨rfl,_,_,rfl,Le.refl _,fun _ _=>hs41,Z⟩)
 refine opsS_cons (fun f w_ _ _ s _ _ Z=>mF ((s 6 rfl).trans rfl) rfl (nO rfl rfl Z)) (opsS_cons (fun f w_ _ _ s _ _ Z=>mF ((s 7 rfl).trans rfl) rfl (nO rfl rfl Z)) (opsS_cons ?_ ?_))
 intro f w_ H27 X27 hS27 hE27 hP27 Z
 refine L_ix (r:=RP.str) rfl Tryz.underlying44 Tryz.sizeOf9 (hP27 3 16 rfl rfl) (RP.mono _ hz18 hE27) (hP27 4 17 rfl rfl) hx22 (fun g42 o43 cs_g42 hrk_hat44 hat44=>?_)
 obtain rfl : _ = [_]:=hrk_hat44
 exact L_nil ⟨rfl,_,_,rfl,Le.refl _,fun _ _=>⟨_,_,_,rfl,rfl,hat44⟩,Z⟩
 refine opsS_cons ?_ ?_
 intro f w_ H27 X27 hS27 hE27 hP27 Z
 obtain ⟨g46,o46,cs46,hv46,hrk_hat46,hat46⟩:=(hP27 5 18 rfl rfl)
 obtain rfl : _ = [_]:=hrk_hat46
 refine L_ld rfl Tryz.isAgg9 hv46 (At.cell (AtH.at hat46 Z.sub) (j:=0) rfl) (L_nil ⟨rfl,_,_,rfl,Le.refl _,fun _ _=>rfl,Z⟩)
 refine opsS_cons (fun f w_ _ _ _ _ p Z=>L_seql (s:=x22) (s':=(⟨#[]⟩ : ByteArray)) rfl (p 6 19 rfl rfl) rfl (nO rfl rfl Z)) (opsS_cons (fun f w_ _ _ _ _ p Z=>mF (p 7 20 rfl rfl) rfl (nO rfl rfl Z)) (opsS_cons (fun f w_ _ _ s _ p Z=>L_mv (v:=I (i64 ((x6.length : Int) - 1))) (g_yes rfl (Eq.trans (p 8 21 rfl rfl) (congrArg Value.bool hc33)) rfl) ((s 7 rfl).trans rfl) (nO rfl rfl Z)) (opsS_cons (fun f w_ _ _ s _ p Z=>L_mv (v:=I most) (g_yes rfl (Eq.trans (p 8 21 rfl rfl) (congrArg Value.bool hc33)) rfl) ((s 1 rfl).trans rfl) (nO rfl rfl Z)) (opsS_cons (fun f w_ _ _ _ _ p Z=>L_leq (g_yes rfl (Eq.trans (p 8 21 rfl rfl) (congrArg Value.bool hc33)) rfl) (p 9 22 rfl rfl) (p 10 23 rfl rfl) (nO rfl rfl Z)) (opsS_cons (fun f w_ _ _ _ _ p Z=>pkT (v:=Bo ((ByteArray.toList x22 == ByteArray.toList (⟨#[]⟩ : ByteArray)) && (decide ((i64 ((x6.length : Int) - 1))≤most)))) (p 8 21 rfl rfl) hc33 rfl (and_t hc33 (p 11 24 rfl rfl)) (nO rfl rfl Z)) (opsS_cons ?_ ?_))))))
 intro f w_ H27 X27 hS27 hE27 hP27 Z
 have hd48 : (rS 9 RP.str).rel H27 [f 15] x19:=(hP27 2 15 rfl rfl)
 refine aV (f 15) rfl (L_nil ⟨rfl,_,_,rfl,Le.refl _,fun _ _=>hd48,Z⟩)
 exact opsS_nil
 have hd49 : (rS 9 RP.str).rel H27 [f 4] x19:=(hT27 13 4 rfl rfl)
 refine aF (hT27 12 25 rfl rfl) rfl (nn (rj hR32 ⟨H27,(f 4),hE27,rfl,rfl,hd49,Z⟩))
 refine W_drawS 14 [isV (r14_0),isV (I (i64 ((x6.length : Int) - 1))),isData (rS 9 RP.str) x19,isV (r14_0),isV (I (i64 ((x6.length : Int) - 1))),isEl RP.str x22 0,isV (.string x22),isV (Bo (ByteArray.toList x22 == ByteArray.toList (⟨#[]⟩ : ByteArray))),isV (Bo (ByteArray.toList x22 == ByteArray.toList (⟨#[]⟩ : ByteArray))),isV (undef),isV (undef),isV (undef),isV (Bo ((ByteArray.toList x22 == ByteArray.toList (⟨#[]⟩ : ByteArray)) && (decide ((i64 ((x6.length : Int) - 1))≤most)))),isData (rS 9 RP.str) x19] [] [] (R) [([],[]),([],[]),([],[]),([],[]),([],[]),([],[]),([],[]),([],[]),([],[]),([],[]),([],[]),([],[]),([],[]),([],[])] (S:=[]) Tryz_mix (by kernel_rfl) rfl (by kernel_rfl) (amF_cons (mono_V _) (amF_cons (mono_V _) (amF_cons (mono_data _ _) (amF_cons (mono_V _) (amF_cons (mono_V _) (amF_cons (mono_el _ _ _) (amF_cons (mono_V _) (amF_cons (mono_V _) (amF_cons (mono_V _) (amF_cons (mono_V _) (amF_cons (mono_V _) (amF_cons (mono_V _) (amF_cons (mono_V _) (amF_cons (mono_data _ _) amF_nil)))))))))))))) Z ?_ (fun f w_ H27 hS27 hE27 hT27 Z=>?_)
 refine opsS_cons (fun f w_ _ _ s _ _ Z=>mF ((s 6 rfl).trans rfl) rfl (nO rfl rfl Z)) (opsS_cons (fun f w_ _ _ s _ _ Z=>mF ((s 7 rfl).trans rfl) rfl (nO rfl rfl Z)) (opsS_cons ?_ ?_))
 intro f w_ H27 X27 hS27 hE27 hP27 Z
 refine L_sl (a:=0) (b:=i64 ((x6.length : Int) - 1)) rfl et_44 (hP27 0 13 rfl rfl) (RP.mono _ hz18 hE27) rfl (hP27 1 14 rfl rfl) hx19 (fun v56 hs57=>L_nil ⟨rfl,_,_,rfl,Le.refl _,fun _ _=>hs57,Z⟩)
 refine opsS_cons (fun f w_ _ _ s _ _ Z=>mF ((s 6 rfl).trans rfl) rfl (nO rfl rfl Z)) (opsS_cons (fun f w_ _ _ s _ _ Z=>mF ((s 7 rfl).trans rfl) rfl (nO rfl rfl Z)) (opsS_cons ?_ ?_))
 intro f w_ H27 X27 hS27 hE27 hP27 Z
 refine L_ix (r:=RP.str) rfl Tryz.underlying44 Tryz.sizeOf9 (hP27 3 16 rfl rfl) (RP.mono _ hz18 hE27) (hP27 4 17 rfl rfl) hx22 (fun g58 o59 cs_g58 hrk_hat60 hat60=>?_)
 obtain rfl : _ = [_]:=hrk_hat60
 exact L_nil ⟨rfl,_,_,rfl,Le.refl _,fun _ _=>⟨_,_,_,rfl,rfl,hat60⟩,Z⟩
 refine opsS_cons ?_ ?_
 intro f w_ H27 X27 hS27 hE27 hP27 Z
 obtain ⟨g62,o62,cs62,hv62,hrk_hat62,hat62⟩:=(hP27 5 18 rfl rfl)
 obtain rfl : _ = [_]:=hrk_hat62
 refine L_ld rfl Tryz.isAgg9 hv62 (At.cell (AtH.at hat62 Z.sub) (j:=0) rfl) (L_nil ⟨rfl,_,_,rfl,Le.refl _,fun _ _=>rfl,Z⟩)
 refine opsS_cons (fun f w_ _ _ _ _ p Z=>L_seql (s:=x22) (s':=(⟨#[]⟩ : ByteArray)) rfl (p 6 19 rfl rfl) rfl (nO rfl rfl Z)) (opsS_cons (fun f w_ _ _ _ _ p Z=>mF (p 7 20 rfl rfl) rfl (nO rfl rfl Z)) (oP (fun _ _ p=>gN (p 8 21 rfl rfl) hc33 rfl) (fun _=>rfl) (oP (fun _ _ p=>gN (p 8 21 rfl rfl) hc33 rfl) (fun _=>rfl) (oP (fun _ _ p=>gN (p 8 21 rfl rfl) hc33 rfl) (fun _=>rfl) (opsS_cons (fun f w_ _ _ _ _ p Z=>pkT (v:=Bo ((ByteArray.toList x22 == ByteArray.toList (⟨#[]⟩ : ByteArray)) && (decide ((i64 ((x6.length : Int) - 1))≤most)))) (p 8 21 rfl rfl) hc33 rfl (and_f hc33) (nO rfl rfl Z)) (opsS_cons ?_ ?_))))))
 intro f w_ H27 X27 hS27 hE27 hP27 Z
 have hd64 : (rS 9 RP.str).rel H27 [f 15] x19:=(hP27 2 15 rfl rfl)
 refine aV (f 15) rfl (L_nil ⟨rfl,_,_,rfl,Le.refl _,fun _ _=>hd64,Z⟩)
 exact opsS_nil
 have hd65 : (rS 9 RP.str).rel H27 [f 4] x19:=(hT27 13 4 rfl rfl)
 refine aF (hT27 12 25 rfl rfl) rfl (nn (rj hR32 ⟨H27,(f 4),hE27,rfl,rfl,hd65,Z⟩))
 intro f w_ hR
 obtain ⟨H30,v28_t4,l31,sf4,sf5,hv29_t4,Z⟩:=rk hR32 hR
 refine W_ret (retG2 (v1:=v28_t4) (v2:=Bo ((ByteArray.toList x22 == ByteArray.toList (⟨#[]⟩ : ByteArray)) && (decide ((i64 ((x6.length : Int) - 1))≤most)))) Tryz.results32 sf4 sf5 ?_)
 obtain rfl:=so hF
 exact ⟨H30,(Le.trans l17 l31),v28_t4,rfl,hv29_t4,Z⟩
theorem strings_CutPrefix_c {x_ : ByteArray} {y_ : ByteArray} {H : FH} {w : World} (Z : Star H w []) {r : ByteArray × Bool} (hF : strings_CutPrefix x_ y_ = some r) :
 C Tryz.prog 33 #[.string x_,.string y_] w fun v w'=>v = .tuple #[.string r.1,Bo r.2]∧Star H w' []:=by
 cases hF
 refine Calls.mono (Tryz.strings_CutPrefix x_ y_ w) ?_
 rintro e w' ⟨rfl,rfl⟩
 exact ⟨_,rfl,rfl,Z⟩
theorem i_readDigits_c {s : ByteArray} {H : FH} {w : World} (Z : Star H w []) {r : List Int} (hF : i_readDigits s = some r) :
 C Tryz.prog 34 #[.string s] w fun v w'=>∃ (u1 : Value),v = u1∧Star H w' [oF 3 RP.int u1 r]:=by
 unfold i_readDigits at hF
 refine C_enter Tryz.func34 rfl Tryz.ntmps34 rfl (sq (aV S0 rfl (ns (aV S0 rfl (nq (sq (mV (.string s) rfl (L_slen (s:=s) rfl Tryz.underlying9 rfl (mI rfl (nn ?_))))))))))
 obtain ⟨k5,hk5,hF⟩:=bind_some hF
 obtain ⟨j4,hL4,hF⟩:=bind_some hF
 obtain ⟨R4,hR4⟩:=exR fun f w_=>∃ out_2 : List Int,∃ v2_out : Value,j4 = .nx out_2∧f 3 = v2_out∧Star H w_ ([oF 3 RP.int v2_out out_2])
 refine W_join R4 ?_ ?_
 refine W_block ?_
 obtain ⟨I4,hI4⟩:=exI fun n f w_=>∃ i_1 : Nat,∃ suf4 : Nat,∃ out_2 : List Int,∃ v2_out : Value,suf4 = n∧0≤i_1∧i_1 + suf4 = 0 + k5∧countL (i_readDigits_b1 s) suf4 i_1 out_2 = some j4∧f 0 = .string s∧f 3 = v2_out∧f 6 = I (s.size : Int)∧f 7 = I i_1∧Star H w_ ([oF 3 RP.int v2_out out_2])
 have Z:=Star.addNil (R:=(OR.frz RP.int)) (e:=3) Z
 refine W_loop I4 (n:=k5) ?_ ?_
 exact ij hI4 ⟨0,k5,[],S0,rfl,Nat.le_refl _,rfl,hL4,rfl,rfl,rfl,rfl,Z⟩
 intro n4 f w_ hI
 obtain ⟨i_1,suf4,out_2,v2_out,rfl,hs4,hl4,hL4,sf0,sf3,sf6,sf7,Z⟩:=ik hI4 hI
 refine sq (L_lss rfl sf7 sf6 (nq (W_cond (b:=decide ((i_1 : Int) < (s.size : Int))) rfl (fun hc7=>?_) (fun hc7=>?_))))
 have hlt4:=of_decide_eq_true hc7
 rcases suf4 with _ | rest4
 exact absurd hlt4 (cntF_no hl4 hk5)
 obtain ⟨o4,hB4,hL4⟩:=count_succ hL4
 rw [i_readDigits_b1] at hB4
 refine W_skip (W_seq (W_block (sq (mF sf7 rfl (aI rfl (nn ?_))))))
 obtain ⟨x8,hx8,hB4⟩:=bind_some hB4
 obtain ⟨x12,hx12,hB4⟩:=bind_some hB4
 refine W_region (mF sf3 rfl (mF sf0 rfl (mI rfl (L_sidx rfl Tryz.underlying9 rfl rfl hx8 (L_cv (n:=(x8.toNat : Int)) rfl rfl ⟨_,Tryz.underlying5⟩ Tryz.underlying3 (L_sub rfl rfl rfl (L_bs rfl (parts1 rfl) (bs_22_1_0 (I (i64 ((i64 (x8.toNat : Int)) - 48))) rfl) Z (fun g16 w17 Z=>?_))))))))
 have Z:=Star.addF (r:=RP.int) (cs:=[I (i64 ((i64 (x8.toNat : Int)) - 48))]) (x:=(i64 ((i64 (x8.toNat : Int)) - 48))) Z rfl
 have Z:=Star.mkRow (R:=(OR.frz RP.int)) [([I (i64 ((i64 (x8.toNat : Int)) - 48))],i64 ((i64 (x8.toNat : Int)) - 48))] [i64 ((i64 (x8.toNat : Int)) - 48)] 1 Z rfl rfl rfl (by decide)
 have Z:=Z.get 1 rfl
 refine L_appM (v:=v2_out) (u:=(Sl g16 1 1)) rfl et_22 rfl rfl Z hx12 (fun v19 w20 Z=>aV v19 rfl (nn (W_region (L_add rfl sf7 rfl (mI rfl (nn ?_))))))
 obtain rfl:=so hB4
 show ∃ m,m < _∧I4 m _ _
 refine ⟨rest4,Nat.lt_succ_self _,?_⟩
 exact ij hI4 ⟨i_1 + 1,rest4,x12,v19,rfl,by omega,by omega,hL4,sf0,rfl,sf6,(Eq.trans rfl (congrArg (Value.int .i64) (i64_succ (n:=0 + k5) (by omega) (cntF_le hk5)))),Z⟩
 rcases suf4 with _ | _
 obtain rfl:=count_zero hL4
 refine W_exit (rj hR4 ⟨out_2,v2_out,rfl,sf3,Z⟩)
 exact absurd (cntF_yes hs4 hl4 hk5) (of_decide_eq_false hc7)
 intro f w_ hR
 obtain ⟨out_2,v2_out,rfl,sf3,Z⟩:=rk hR4 hR
 refine sq (mF sf3 rfl (aV v2_out rfl (nn (W_ret (retG1 (v1:=v2_out) Tryz.results34 rfl ?_)))))
 obtain rfl:=so hF
 exact ⟨v2_out,rfl,Z⟩
theorem slices_Index_string_c {s : List ByteArray} {v_ : ByteArray} {v0 : Value} {H : FH} {w : World} (Z : Star H w []) (h0 : (rS 9 RP.str).rel H [v0] s) {r : Int} (hF : slices_Index_string s v_ = some r) :
 C Tryz.prog 77 #[v0,.string v_] w fun v w'=>v = I r∧Star H w' []:=by
 unfold slices_Index_string at hF
 refine C_enter Tryz.func77 rfl Tryz.ntmps77 rfl (sq (aI rfl (nq (sq (mV v0 rfl (L_len rfl Tryz.underlying44 rfl (slice_len h0) (mI rfl (nn ?_))))))))
 have hlen2 : List.length s≤9223372036854775807:=len_le (slice_len h0)
 obtain ⟨j2,hL2,hF⟩:=bind_some hF
 obtain ⟨R2,hR2⟩:=exR fun f w_=>j2 = .nx ()∧Star H w_ ([])
 refine W_join R2 ?_ ?_
 refine W_block ?_
 obtain ⟨I2,hI2⟩:=exI fun n f w_=>∃ i_1 : Nat,∃ suf2 : List ByteArray,n = suf2.length∧List.drop i_1 s = suf2∧i_1 + suf2.length = s.length∧rangeL (slices_Index_string_b1 v_) suf2 i_1 () = some j2∧f 0 = v0∧f 1 = .string v_∧f 7 = I (s.length : Int)∧f 8 = I i_1∧Star H w_ ([])
 refine W_loop I2 (n:=s.length) ?_ ?_
 exact ij hI2 ⟨0,s,rfl,rfl,Nat.zero_add _,hL2,rfl,rfl,rfl,rfl,Z⟩
 intro n2 f w_ hI
 obtain ⟨i_1,suf2,rfl,hd2,hl2,hL2,sf0,sf1,sf7,sf8,Z⟩:=ik hI2 hI
 refine sq (L_lss rfl sf8 sf7 (nq (W_cond (b:=decide ((i_1 : Int) < (s.length : Int))) rfl (fun hc3=>?_) (fun hc3=>?_))))
 have hlt2:=of_decide_eq_true hc3
 rcases suf2 with _ | ⟨x_2,rest2⟩
 exact absurd hlt2 (by simp at hl2; omega)
 obtain ⟨o2,hB2,hL2⟩:=range_cons hL2
 rw [slices_Index_string_b1] at hB2
 have hix2:=drop_idx hd2
 refine W_skip (W_seq (W_block (sq (mF sf8 rfl (aI rfl (ns (mF sf1 rfl (mF sf0 rfl (mI rfl (L_ix (r:=RP.str) rfl Tryz.underlying44 Tryz.sizeOf9 rfl h0 rfl hix2 (fun g8 o9 cs_g8 hrk_hat10 hat10=>?_)))))))))))
 obtain rfl : _ = [_]:=hrk_hat10
 refine L_ld rfl Tryz.isAgg9 rfl (At.cell (AtH.at hat10 Z.sub) (j:=0) rfl) (L_seql (s:=v_) (s':=x_2) rfl rfl rfl (nn (W_cond (b:=(ByteArray.toList v_ == ByteArray.toList x_2)) rfl (fun hc12=>?_) (fun hc12=>?_))))
 have hB2:=(ite_t hc12).symm.trans hB2
 refine sq (mI rfl (aI rfl (nn (W_ret (retG1 (v1:=I i_1) Tryz.results77 rfl ?_)))))
 obtain rfl:=so hB2
 obtain rfl:=so hL2
 obtain rfl:=so hF
 exact ⟨rfl,Z⟩
 have hB2:=(ite_f hc12).symm.trans hB2
 refine W_skip (W_region (L_add rfl sf8 rfl (mI rfl (nn ?_))))
 obtain rfl:=so hB2
 show ∃ m,m < _∧I2 m _ _
 refine ⟨rest2.length,by simp,?_⟩
 exact ij hI2 ⟨i_1 + 1,rest2,rfl,drop_next hd2,by simp at hl2; omega,hL2,sf0,sf1,sf7,(Eq.trans rfl (congrArg (Value.int .i64) (i64_succ (n:=s.length) (by simp at hl2; omega) hlen2))),Z⟩
 rcases suf2 with _ | ⟨_,_⟩
 obtain rfl:=range_nil hL2
 refine W_exit (rj hR2 ⟨rfl,Z⟩)
 exact absurd (of_decide_eq_false hc3) (by simp at hl2; omega)
 intro f w_ hR
 obtain ⟨rfl,Z⟩:=rk hR2 hR
 refine sq (aI rfl (nn (W_ret (retG1 (v1:=I (-1)) Tryz.results77 rfl ?_))))
 obtain rfl:=so hF
 exact ⟨rfl,Z⟩
theorem i_ruleWords_c {H : FH} {w : World} (Z : Star H w []) {r : List ByteArray} (hF : i_ruleWords = some r) :
 C Tryz.prog 78 #[] w fun v w'=>∃ (u1 : Value),v = u1∧Star H w' [oF 9 RP.str u1 r]:=by
 unfold i_ruleWords at hF
 refine C_enter Tryz.func78 rfl Tryz.ntmps78 rfl (sq (aV S0 rfl (ns (L_bs rfl (parts5 rfl rfl rfl rfl rfl) (bs_44_5_0_0_0_0_0 (.string (⟨#[]⟩ : ByteArray)) (.string (⟨#[108,105,110,101,97,114]⟩ : ByteArray)) (.string (⟨#[100,105,102,102,101,114,101,110,116]⟩ : ByteArray)) (.string (⟨#[116,97,98,108,101]⟩ : ByteArray)) (.string (⟨#[108,101,115,115]⟩ : ByteArray)) rfl rfl rfl rfl rfl) Z (fun g4 w5 Z=>?_)))))
 have Z:=Star.addF (r:=RP.str) (cs:=[.string (⟨#[108,101,115,115]⟩ : ByteArray)]) (x:=(⟨#[108,101,115,115]⟩ : ByteArray)) Z rfl
 have Z:=Star.addF (r:=RP.str) (cs:=[.string (⟨#[116,97,98,108,101]⟩ : ByteArray)]) (x:=(⟨#[116,97,98,108,101]⟩ : ByteArray)) Z rfl
 have Z:=Star.addF (r:=RP.str) (cs:=[.string (⟨#[100,105,102,102,101,114,101,110,116]⟩ : ByteArray)]) (x:=(⟨#[100,105,102,102,101,114,101,110,116]⟩ : ByteArray)) Z rfl
 have Z:=Star.addF (r:=RP.str) (cs:=[.string (⟨#[108,105,110,101,97,114]⟩ : ByteArray)]) (x:=(⟨#[108,105,110,101,97,114]⟩ : ByteArray)) Z rfl
 have Z:=Star.addF (r:=RP.str) (cs:=[.string (⟨#[]⟩ : ByteArray)]) (x:=(⟨#[]⟩ : ByteArray)) Z rfl
 have Z:=Star.mkRow (R:=(OR.frz RP.str)) [([.string (⟨#[]⟩ : ByteArray)],(⟨#[]⟩ : ByteArray)),([.string (⟨#[108,105,110,101,97,114]⟩ : ByteArray)],(⟨#[108,105,110,101,97,114]⟩ : ByteArray)),([.string (⟨#[100,105,102,102,101,114,101,110,116]⟩ : ByteArray)],(⟨#[100,105,102,102,101,114,101,110,116]⟩ : ByteArray)),([.string (⟨#[116,97,98,108,101]⟩ : ByteArray)],(⟨#[116,97,98,108,101]⟩ : ByteArray)),([.string (⟨#[108,101,115,115]⟩ : ByteArray)],(⟨#[108,101,115,115]⟩ : ByteArray))] [(⟨#[]⟩ : ByteArray),(⟨#[108,105,110,101,97,114]⟩ : ByteArray),(⟨#[100,105,102,102,101,114,101,110,116]⟩ : ByteArray),(⟨#[116,97,98,108,101]⟩ : ByteArray),(⟨#[108,101,115,115]⟩ : ByteArray)] 5 Z rfl rfl rfl (by decide)
 refine aV (Sl g4 5 5) rfl (nn (W_ret (retG1 (v1:=(Sl g4 5 5)) Tryz.results78 rfl ?_)))
 obtain rfl:=so hF
 exact ⟨(Sl g4 5 5),rfl,Z⟩
theorem strconv_Itoa_c {x_ : Int} {H : FH} {w : World} (Z : Star H w []) {r : ByteArray} (hF : strconv_Itoa x_ = some r) :
 C Tryz.prog 121 #[I x_] w fun v w'=>v = .string r∧Star H w' []:=by
 obtain ⟨h0,h1,rfl⟩:=strconv_Itoa_some hF
 refine Calls.mono (Tryz.strconv_Itoa x_ h0 h1 w (Z.sub.var H.glob.tab)) ?_
 rintro e w' ⟨rfl,k,os,rfl⟩
 exact ⟨_,rfl,rfl,Star.ext Z (grown_drew w k os)⟩
theorem strconv_Atoi_c {x_ : ByteArray} {H : FH} {w : World} (Z : Star H w []) {r : Int × Bool} (hF : strconv_Atoi x_ = some r) :
 C Tryz.prog 130 #[.string x_] w fun v w'=>∃ u1 : Value,v = .tuple #[I r.1,u1]∧ErrIs u1 r.2∧Star H w' []:=by
 obtain ⟨hs,rfl⟩:=strconv_Atoi_some hF
 cases hn : Go.Lib.atoiAll x_.data.toList
 refine Calls.mono (Any.strconv_Atoi_ok Tryz.laysC172 x_ (by omega) _ hn w) ?_
 rintro e w' ⟨rfl,hw⟩
 refine ⟨_,rfl,_,rfl,rfl,Star.ext Z ?_⟩
 rcases hw with rfl | ⟨t,rfl⟩
 exact Below.refl _ _
 exact below_bytesWorld _ _ _
 obtain ⟨ev,hv,hev⟩:=H.glob.syn
 refine Calls.mono (Any.strconv_Atoi_syntax Tryz.laysC172 x_ (by omega) hn ev w (Z.sub.cell hv) hev) ?_
 rintro e w' ⟨N,rfl,_,_,hb⟩
 exact ⟨_,rfl,_,rfl,⟨_,_,rfl⟩,Star.ext Z hb⟩
 obtain ⟨ev,hv,hev⟩:=H.glob.rng
 refine Calls.mono (Any.strconv_Atoi_range Tryz.laysC172 x_ (by omega) hn ev w (Z.sub.cell hv) hev) ?_
 rintro e w' ⟨N,rfl,_,_,hb⟩
 exact ⟨_,rfl,_,rfl,⟨_,_,rfl⟩,Star.ext Z hb⟩
theorem i_number_c {s : ByteArray} {H : FH} {w : World} (Z : Star H w []) {r : Int} (hF : i_number s = some r) :
 C Tryz.prog 79 #[.string s] w fun v w'=>v = I r∧Star H w' []:=by
 unfold i_number at hF
 refine C_enter Tryz.func79 rfl Tryz.ntmps79 rfl (sq (aI rfl (nq ?_)))
 obtain ⟨x6,hx6,hF⟩:=bind_some hF
 refine W_region (mV (.string s) rfl ?_)
 obtain ⟨H8b,l9,s10,z11,k12⟩:=Z.borrow
 refine L_call rfl Tryz.call130 (ops1 rfl) (strconv_Atoi_c (x_:=s) s10 hx6) ?_
 rintro _ w13 ⟨r13_0,rfl,hr13_0,Z⟩
 have Z:=k12 Z c0
 refine mV (.tuple #[I x6.1,r13_0]) rfl (L_ex (v:=I x6.1) rfl rfl rfl (L_ex (v:=r13_0) rfl rfl rfl (aI rfl (aV r13_0 rfl (nq (sq (mV r13_0 rfl (L_ene rfl Tryz.underlying92 rfl rfl hr13_0 (nn (W_cond (b:=x6.2) rfl (fun hc14=>?_) (fun hc14=>?_)))))))))))
 have hF:=(ite_t hc14).symm.trans hF
 refine sq (aI rfl (nn (W_ret (retG1 (v1:=I 0) Tryz.results79 rfl ?_))))
 obtain rfl:=so hF
 exact ⟨rfl,Z⟩
 have hF:=(ite_f hc14).symm.trans hF
 refine W_skip (sq (mI rfl (aI rfl (nn (W_ret (retG1 (v1:=I x6.1) Tryz.results79 rfl ?_))))))
 obtain rfl:=so hF
 exact ⟨rfl,Z⟩
end Go.Proofs.YtohpkefnmkdaeaaGreatDoor

/- Part of a proof by program: W1. -/
import Derived.Test.YtnjcihhfoocdcaaGreatDoorD1
import Derived.Test.YtnjcihhfoocdcaaGreatDoorProg
import Derived.Test.YtnjcihhfoocdcaaGreatDoorShelf
import Derived.WalkKit
import Derived.Shelf.Strings.BuilderF
namespace Go.Proofs.YtnjcihhfoocdcaaGreatDoor
open Go Go.E Go.L Go.RowKit
set_option linter.unusedVariables false
set_option linter.unusedSimpArgs false
set_option maxRecDepth 100000
theorem Tryz_mix : Tryz.prog.follows .mixedOrders = true := by kernel_rfl
theorem fa_37_0 : FA Tryz.prog 37 0 0 := fa_of Tryz.underlying37 rfl Tryz.sizeOf35 rfl
theorem fa_37_1 : FA Tryz.prog 37 1 1 := fa_of Tryz.underlying37 rfl Tryz.sizeOf3 rfl
theorem fa_58_0 : FA Tryz.prog 58 0 0 := fa_of Tryz.underlying58 rfl Tryz.sizeOf3 rfl
theorem fa_58_1 : FA Tryz.prog 58 1 1 := fa_of Tryz.underlying58 rfl Tryz.sizeOf3 rfl
theorem fa_68_0 : FA Tryz.prog 68 0 0 := fa_of Tryz.underlying68 rfl Tryz.sizeOf22 rfl
theorem fa_68_1 : FA Tryz.prog 68 1 1 := fa_of Tryz.underlying68 rfl Tryz.sizeOf3 rfl
theorem et_22 : ET Tryz.prog 22 5 1 := et_of Tryz.underlying22 (by decide) (by kernel_rfl)
theorem et_23 : ET Tryz.prog 23 37 2 := et_of Tryz.underlying23 (by decide) (by kernel_rfl)
theorem et_35 : ET Tryz.prog 35 58 2 := et_of Tryz.underlying35 (by decide) (by kernel_rfl)
theorem et_43 : ET Tryz.prog 43 9 1 := et_of Tryz.underlying43 (by decide) (by kernel_rfl)
theorem termEq_58 : TermEq Tryz.prog 58 := termEq_of (by kernel_rfl) Tryz.underlying58 rfl (by decide) (by decide) rfl rfl Tryz.underlying3 Tryz.underlying3 (by kernel_rfl)
theorem bld_37_  : ∀ w, (Instr.build 37 #[]).run Tryz.prog w = .ok (.agg #[.slice none 0 0, .int .i64 0]) w := by
  intro w
  simp [Instr.build, Instr.fill, Tryz.zeroValue37, Tryz.runUnderlying37, Tryz.sizeOf3, Tryz.sizeOf35, cells_agg]
theorem bld_37_0_1 (a0 a1 : Value) (ha0 : a0.oneCell' = true) (ha1 : a1.oneCell' = true) : ∀ w, (Instr.build 37 #[(0, a0), (1, a1)]).run Tryz.prog w = .ok (.agg #[a0, a1]) w := by
  intro w
  simp [Instr.build, Instr.fill, Tryz.zeroValue37, Tryz.runUnderlying37, Tryz.sizeOf3, Tryz.sizeOf35, cells_one ha0, cells_one ha1, cells_agg]
theorem bld_37_1 (a0 : Value) (ha0 : a0.oneCell' = true) : ∀ w, (Instr.build 37 #[(1, a0)]).run Tryz.prog w = .ok (.agg #[.slice none 0 0, a0]) w := by
  intro w
  simp [Instr.build, Instr.fill, Tryz.zeroValue37, Tryz.runUnderlying37, Tryz.sizeOf3, Tryz.sizeOf35, cells_one ha0, cells_agg]
theorem bld_58_0_1 (a0 a1 : Value) (ha0 : a0.oneCell' = true) (ha1 : a1.oneCell' = true) : ∀ w, (Instr.build 58 #[(0, a0), (1, a1)]).run Tryz.prog w = .ok (.agg #[a0, a1]) w := by
  intro w
  simp [Instr.build, Instr.fill, Tryz.zeroValue58, Tryz.runUnderlying58, Tryz.sizeOf3, cells_one ha0, cells_one ha1, cells_agg]
theorem bld_68_0 (a0 : Value) (ha0 : a0.oneCell' = true) : ∀ w, (Instr.build 68 #[(0, a0)]).run Tryz.prog w = .ok (.agg #[a0, .int .i64 0]) w := by
  intro w
  simp [Instr.build, Instr.fill, Tryz.zeroValue68, Tryz.runUnderlying68, Tryz.sizeOf3, Tryz.sizeOf22, cells_one ha0, cells_agg]
theorem bs_22_1_0 (a0 : Value) (ha0 : a0.oneCell' = true) : ∀ w, (Instr.buildSlice 22 1 #[(0, a0)]).run Tryz.prog w = .ok (.slice (some ⟨w.heap.size, 0, none⟩) 1 1) (w.alloc (.cells #[a0] 5)) := by
  intro w
  simp [Instr.buildSlice, Instr.fill, newRow, Tryz.zeroValue5, Tryz.runUnderlying22, Tryz.sizeOf5, cells_one ha0, cells_agg, cells_int, cells_bool, cells_str, cells_sl, Array.range_succ, range0]
theorem bs_23_0  : ∀ w, (Instr.buildSlice 23 0 #[]).run Tryz.prog w = .ok (.slice (some ⟨w.heap.size, 0, none⟩) 0 0) (w.alloc (.cells #[] 37)) := by
  intro w
  simp [Instr.buildSlice, Instr.fill, newRow, Tryz.runUnderlying23, Tryz.sizeOf37, cells_agg, cells_int, cells_bool, cells_str, cells_sl, Array.range_succ, range0]
theorem bs_23_1_2 (a0 a1 : Value)  : ∀ w, (Instr.buildSlice 23 1 #[(0, .agg #[a0, a1])]).run Tryz.prog w = .ok (.slice (some ⟨w.heap.size, 0, none⟩) 1 1) (w.alloc (.cells #[a0, a1] 37)) := by
  intro w
  simp [Instr.buildSlice, Instr.fill, newRow, Tryz.zeroValue37, Tryz.runUnderlying23, Tryz.sizeOf37, cells_agg, cells_int, cells_bool, cells_str, cells_sl, Array.range_succ, range0]
theorem bs_35_0  : ∀ w, (Instr.buildSlice 35 0 #[]).run Tryz.prog w = .ok (.slice (some ⟨w.heap.size, 0, none⟩) 0 0) (w.alloc (.cells #[] 58)) := by
  intro w
  simp [Instr.buildSlice, Instr.fill, newRow, Tryz.runUnderlying35, Tryz.sizeOf58, cells_agg, cells_int, cells_bool, cells_str, cells_sl, Array.range_succ, range0]
theorem bs_35_1_2 (a0 a1 : Value)  : ∀ w, (Instr.buildSlice 35 1 #[(0, .agg #[a0, a1])]).run Tryz.prog w = .ok (.slice (some ⟨w.heap.size, 0, none⟩) 1 1) (w.alloc (.cells #[a0, a1] 58)) := by
  intro w
  simp [Instr.buildSlice, Instr.fill, newRow, Tryz.zeroValue58, Tryz.runUnderlying35, Tryz.sizeOf58, cells_agg, cells_int, cells_bool, cells_str, cells_sl, Array.range_succ, range0]
theorem bs_43_0  : ∀ w, (Instr.buildSlice 43 0 #[]).run Tryz.prog w = .ok (.slice (some ⟨w.heap.size, 0, none⟩) 0 0) (w.alloc (.cells #[] 9)) := by
  intro w
  simp [Instr.buildSlice, Instr.fill, newRow, Tryz.runUnderlying43, Tryz.sizeOf9, cells_agg, cells_int, cells_bool, cells_str, cells_sl, Array.range_succ, range0]
theorem bs_43_1_0 (a0 : Value) (ha0 : a0.oneCell' = true) : ∀ w, (Instr.buildSlice 43 1 #[(0, a0)]).run Tryz.prog w = .ok (.slice (some ⟨w.heap.size, 0, none⟩) 1 1) (w.alloc (.cells #[a0] 9)) := by
  intro w
  simp [Instr.buildSlice, Instr.fill, newRow, Tryz.zeroValue9, Tryz.runUnderlying43, Tryz.sizeOf9, cells_one ha0, cells_agg, cells_int, cells_bool, cells_str, cells_sl, Array.range_succ, range0]
theorem bs_43_6_0_0_0_0_0_0 (a0 a1 a2 a3 a4 a5 : Value) (ha0 : a0.oneCell' = true) (ha1 : a1.oneCell' = true) (ha2 : a2.oneCell' = true) (ha3 : a3.oneCell' = true) (ha4 : a4.oneCell' = true) (ha5 : a5.oneCell' = true) : ∀ w, (Instr.buildSlice 43 6 #[(0, a0), (1, a1), (2, a2), (3, a3), (4, a4), (5, a5)]).run Tryz.prog w = .ok (.slice (some ⟨w.heap.size, 0, none⟩) 6 6) (w.alloc (.cells #[a0, a1, a2, a3, a4, a5] 9)) := by
  intro w
  simp [Instr.buildSlice, Instr.fill, newRow, Tryz.zeroValue9, Tryz.runUnderlying43, Tryz.sizeOf9, cells_one ha0, cells_one ha1, cells_one ha2, cells_one ha3, cells_one ha4, cells_one ha5, cells_agg, cells_int, cells_bool, cells_str, cells_sl, Array.range_succ, range0]
theorem bs_71_3_0_0_0 (a0 a1 a2 : Value) (ha0 : a0.oneCell' = true) (ha1 : a1.oneCell' = true) (ha2 : a2.oneCell' = true) : ∀ w, (Instr.buildSlice 71 3 #[(0, a0), (1, a1), (2, a2)]).run Tryz.prog w = .ok (.slice (some ⟨w.heap.size, 0, none⟩) 3 3) (w.alloc (.cells #[a0, a1, a2] 3)) := by
  intro w
  simp [Instr.buildSlice, Instr.fill, newRow, Tryz.zeroValue3, Tryz.runUnderlying71, Tryz.sizeOf3, cells_one ha0, cells_one ha1, cells_one ha2, cells_agg, cells_int, cells_bool, cells_str, cells_sl, Array.range_succ, range0]
theorem bs_71_4_0_0_0_0 (a0 a1 a2 a3 : Value) (ha0 : a0.oneCell' = true) (ha1 : a1.oneCell' = true) (ha2 : a2.oneCell' = true) (ha3 : a3.oneCell' = true) : ∀ w, (Instr.buildSlice 71 4 #[(0, a0), (1, a1), (2, a2), (3, a3)]).run Tryz.prog w = .ok (.slice (some ⟨w.heap.size, 0, none⟩) 4 4) (w.alloc (.cells #[a0, a1, a2, a3] 3)) := by
  intro w
  simp [Instr.buildSlice, Instr.fill, newRow, Tryz.zeroValue3, Tryz.runUnderlying71, Tryz.sizeOf3, cells_one ha0, cells_one ha1, cells_one ha2, cells_one ha3, cells_agg, cells_int, cells_bool, cells_str, cells_sl, Array.range_succ, range0]
theorem bs_71_5_0_0_0_0_0 (a0 a1 a2 a3 a4 : Value) (ha0 : a0.oneCell' = true) (ha1 : a1.oneCell' = true) (ha2 : a2.oneCell' = true) (ha3 : a3.oneCell' = true) (ha4 : a4.oneCell' = true) : ∀ w, (Instr.buildSlice 71 5 #[(0, a0), (1, a1), (2, a2), (3, a3), (4, a4)]).run Tryz.prog w = .ok (.slice (some ⟨w.heap.size, 0, none⟩) 5 5) (w.alloc (.cells #[a0, a1, a2, a3, a4] 3)) := by
  intro w
  simp [Instr.buildSlice, Instr.fill, newRow, Tryz.zeroValue3, Tryz.runUnderlying71, Tryz.sizeOf3, cells_one ha0, cells_one ha1, cells_one ha2, cells_one ha3, cells_one ha4, cells_agg, cells_int, cells_bool, cells_str, cells_sl, Array.range_succ, range0]
theorem bs_71_7_0_0_0_0_0_0_0 (a0 a1 a2 a3 a4 a5 a6 : Value) (ha0 : a0.oneCell' = true) (ha1 : a1.oneCell' = true) (ha2 : a2.oneCell' = true) (ha3 : a3.oneCell' = true) (ha4 : a4.oneCell' = true) (ha5 : a5.oneCell' = true) (ha6 : a6.oneCell' = true) : ∀ w, (Instr.buildSlice 71 7 #[(0, a0), (1, a1), (2, a2), (3, a3), (4, a4), (5, a5), (6, a6)]).run Tryz.prog w = .ok (.slice (some ⟨w.heap.size, 0, none⟩) 7 7) (w.alloc (.cells #[a0, a1, a2, a3, a4, a5, a6] 3)) := by
  intro w
  simp [Instr.buildSlice, Instr.fill, newRow, Tryz.zeroValue3, Tryz.runUnderlying71, Tryz.sizeOf3, cells_one ha0, cells_one ha1, cells_one ha2, cells_one ha3, cells_one ha4, cells_one ha5, cells_one ha6, cells_agg, cells_int, cells_bool, cells_str, cells_sl, Array.range_succ, range0]
theorem s_l17Open_c {code : List UInt8} {v0 : Value} {H : FH} {w : World} {R : List Ass} (Z : Star H w R) (h0 : (rS 5 RP.u8).rel H [v0] code) {r : Rd} (hF : s_l17Open code = some r) :
 C Tryz.prog 23 #[v0] w fun v w'=>∃ H' : FH,Le H H'∧∃ (u1 : Nat) (u2 : Value),v = Pt u1∧(rS 5 RP.u8).rel H' [u2] r.b∧Star H' w' (box u1 68 #[u2,I r.p] :: R):=by
 unfold s_l17Open at hF
 refine C_enter Tryz.func23 rfl Tryz.ntmps23 rfl (sq (aV (.pointer none) rfl (nq (sq (mV v0 rfl (L_len rfl Tryz.underlying22 rfl (slice_len h0) (L_gtr rfl rfl rfl (nn ?_))))))))
 obtain ⟨code_1,hA3,hF⟩:=bind_some hF
 obtain ⟨R3,hR3⟩:=exR fun f w_=>∃ v1_code : Value,f 0 = v1_code∧(rS 5 RP.u8).rel H [v1_code] code_1∧Star H w_ (R)
 refine W_join R3 ?_ ?_
 refine W_cond (b:=decide ((code.length : Int) > 2000)) rfl (fun hc4=>?_) (fun hc4=>?_)
 have hA3:=(ite_t hc4).symm.trans hA3
 obtain ⟨x5,hx5,hA3⟩:=bind_some hA3
 refine W_region (mV v0 rfl (L_sl (a:=0) (b:=2000) rfl et_22 rfl h0 rfl rfl hx5 (fun v8 hs9=>aV v8 rfl (nn ?_))))
 obtain rfl:=so hA3
 exact rj hR3 ⟨v8,rfl,hs9,Z⟩
 have hA3:=(ite_f hc4).symm.trans hA3
 refine W_skip ?_
 obtain rfl:=so hA3
 exact rj hR3 ⟨v0,rfl,h0,Z⟩
 intro f w_ hR
 obtain ⟨v1_code,sf0,hv2_code,Z⟩:=rk hR3 hR
 refine sq (mF sf0 rfl (L_bld rfl (parts1 rfl) (bld_68_0 (v1_code) (one_len (slice_len hv2_code))) (L_box (v:=.agg #[v1_code,I 0]) (cs:=#[v1_code,I 0]) rfl rfl rfl Z (fun g12 w13 Z=>aV (Pt g12) rfl (nn (W_ret (retG1 (v1:=Pt g12) Tryz.results23 rfl ?_)))))))
 obtain rfl:=so hF
 exact ⟨H,(Le.refl _),g12,v1_code,rfl,hv2_code,Z⟩
theorem s_l17Rd_pick_c {r_ : Rd} {n_ : Int} {g_0 : Nat} {v0_0 : Value} {H : FH} {w : World} (Z : Star H w [box g_0 68 #[v0_0,I r_.p]]) (h0_0 : (rS 5 RP.u8).rel H [v0_0] r_.b) {r : Int × Int} (hF : s_l17Rd_pick r_ n_ = some r) :
 C Tryz.prog 43 #[Pt g_0,I n_] w fun v w'=>v = I r.1∧Star H w' [box g_0 68 #[v0_0,I r.2]]:=by
 unfold s_l17Rd_pick at hF
 refine C_enter Tryz.func43 rfl Tryz.ntmps43 rfl (sq (aI rfl (ns (mV (Pt g_0) rfl (mV (Pt g_0) rfl (L_nc rfl rfl (fA 1 fa_68_1 rfl rfl (ldB 0 Z Tryz.isAgg3 rfl rfl rfl (L_add rfl rfl rfl (L_nc rfl rfl (fA 1 fa_68_1 rfl rfl (L_stB (v:=I (i64 (r_.p + 1))) (cs2:=#[v0_0,I (i64 (r_.p + 1))]) 0 rfl Tryz.sizeOf3 rfl rfl rfl Z rfl rfl rfl (fun w2 Z=>nq (W_seq ?_))))))))))))))
 obtain ⟨R3,hR3⟩:=exR fun f w_=>f 0 = Pt g_0∧f 1 = I n_∧f 24 = Bo ((decide (n_ < 1)) || ((r_.b.length : Int) == 0))∧Star H w_ ([box g_0 68 #[v0_0,I (i64 (r_.p + 1))]])
 refine W_join R3 ?_ ?_
 refine W_region (mI rfl (L_lss rfl rfl rfl (mB rfl (L_split (d:=17) (b:=decide (n_ < 1)) rfl (fun hc4=>?_) (fun hc4=>?_)))))
 refine ps rfl (ps rfl (ps rfl (ps rfl (ps rfl (ps rfl (L_pick (v:=Bo ((decide (n_ < 1)) || ((r_.b.length : Int) == 0))) rfl rfl (or_t hc4) (nn (rj hR3 ⟨rfl,rfl,rfl,Z⟩))))))))
 refine mV (Pt g_0) rfl (L_nc rfl rfl (fA 0 fa_68_0 rfl rfl (ldB 0 Z Tryz.isAgg22 rfl rfl rfl (L_len rfl Tryz.underlying22 rfl (slice_len h0_0) (L_eql rfl rfl rfl (L_pick (v:=Bo ((decide (n_ < 1)) || ((r_.b.length : Int) == 0))) rfl rfl (or_f hc4 rfl) (nn (rj hR3 ⟨rfl,rfl,rfl,Z⟩))))))))
 intro f w_ hR
 obtain ⟨sf0,sf1,sf24,Z⟩:=rk hR3 hR
 refine W_cond (b:=((decide (n_ < 1)) || ((r_.b.length : Int) == 0))) sf24 (fun hc5=>?_) (fun hc5=>?_)
 have hF:=(ite_t hc5).symm.trans hF
 refine sq (aI rfl (nn (W_ret (retG1 (v1:=I 0) Tryz.results43 rfl ?_))))
 obtain rfl:=so hF
 exact ⟨rfl,Z⟩
 have hF:=(ite_f hc5).symm.trans hF
 refine W_skip (sq (mF sf0 rfl (L_nc rfl rfl (fA 1 fa_68_1 rfl rfl (ldB 0 Z Tryz.isAgg3 rfl rfl rfl (L_sub rfl rfl rfl (aI rfl (nq (sq (mI rfl (mF sf0 rfl (L_nc rfl rfl (fA 0 fa_68_0 rfl rfl (ldB 0 Z Tryz.isAgg22 rfl rfl rfl (L_len rfl Tryz.underlying22 rfl (slice_len h0_0) (L_lss rfl rfl rfl (nn (W_cond (b:=decide ((i64 ((i64 (r_.p + 1)) - 1)) < (r_.b.length : Int))) rfl (fun hc6=>?_) (fun hc6=>?_)))))))))))))))))))
 have hF:=(ite_t hc6).symm.trans hF
 refine W_seq ?_
 obtain ⟨x7,hx7,hF⟩:=bind_some hF
 obtain ⟨q12,hq12,hF⟩:=bind_some hF
 refine W_region (mF sf0 rfl (L_nc rfl rfl (fA 0 fa_68_0 rfl rfl (ldB 0 Z Tryz.isAgg22 rfl rfl rfl (mI rfl (L_ix (r:=RP.u8) rfl Tryz.underlying22 Tryz.sizeOf5 rfl h0_0 rfl hx7 (fun g13 o14 cs_g13 hrk_hat15 hat15=>?_)))))))
 obtain rfl : _ = [_]:=hrk_hat15
 refine L_ld rfl Tryz.isAgg5 rfl (At.cell (AtH.at hat15 Z.sub) (j:=0) rfl) (L_cv (n:=(x7.toNat : Int)) rfl rfl ⟨_,Tryz.underlying5⟩ Tryz.underlying3 (mF sf1 rfl (L_rem (m:=i64 (x7.toNat : Int)) (n:=n_) rfl rfl rfl (fun he=>by rw [if_pos he] at hq12; cases hq12) (aI rfl (nn (W_ret (retG1 (v1:=I (Int.tmod (i64 (x7.toNat : Int)) n_)) Tryz.results43 rfl ?_)))))))
 obtain rfl:=so hF
 exact ⟨rfl,Z⟩
 have hF:=(ite_f hc6).symm.trans hF
 refine W_skip (W_seq ?_)
 obtain ⟨q17,hq17,hF⟩:=bind_some hF
 obtain ⟨x18,hx18,hF⟩:=bind_some hF
 obtain ⟨q23,hq23,hF⟩:=bind_some hF
 obtain ⟨x24,hx24,hF⟩:=bind_some hF
 obtain ⟨q29,hq29,hF⟩:=bind_some hF
 refine W_drawS 44 [isV (Pt g_0),isV (Pt g_0),isV (Pt g_0),isV (v0_0),isV (I (i64 ((i64 (r_.p + 1)) - 1))),isV (Pt g_0),isV (Pt g_0),isV (Pt g_0),isV (v0_0),isV (I (r_.b.length : Int)),isV (I (Int.tmod (i64 ((i64 (r_.p + 1)) - 1)) (r_.b.length : Int))),isEl RP.u8 x18 0,isV (.int .u8 (x18.toNat : Int)),isV (I (i64 (x18.toNat : Int))),isV (I (i64 ((i64 (x18.toNat : Int)) * 131))),isV (Pt g_0),isV (Pt g_0),isV (Pt g_0),isV (v0_0),isV (I (i64 ((i64 (r_.p + 1)) - 1))),isV (I (i64 ((i64 ((i64 (r_.p + 1)) - 1)) * 7))),isV (I (i64 ((i64 ((i64 ((i64 (r_.p + 1)) - 1)) * 7)) + 3))),isV (Pt g_0),isV (Pt g_0),isV (Pt g_0),isV (v0_0),isV (I (r_.b.length : Int)),isV (I (Int.tmod (i64 ((i64 ((i64 ((i64 (r_.p + 1)) - 1)) * 7)) + 3)) (r_.b.length : Int))),isEl RP.u8 x24 0,isV (.int .u8 (x24.toNat : Int)),isV (I (i64 (x24.toNat : Int))),isV (I (i64 ((i64 (x24.toNat : Int)) * 1117))),isV (I (i64 ((i64 ((i64 (x18.toNat : Int)) * 131)) + (i64 ((i64 (x24.toNat : Int)) * 1117))))),isV (I (i64 ((i64 (r_.p + 1)) - 1))),isV (I (i64 ((i64 ((i64 (r_.p + 1)) - 1)) * 29))),isV (I (i64 ((i64 ((i64 ((i64 (x18.toNat : Int)) * 131)) + (i64 ((i64 (x24.toNat : Int)) * 1117)))) + (i64 ((i64 ((i64 (r_.p + 1)) - 1)) * 29))))),isV (I (i64 ((i64 (r_.p + 1)) - 1))),isV (Pt g_0),isV (Pt g_0),isV (Pt g_0),isV (v0_0),isV (I (r_.b.length : Int)),isV (I (i64 (Int.tdiv (i64 ((i64 (r_.p + 1)) - 1)) (r_.b.length : Int)))),isV (I (i64 ((i64 (Int.tdiv (i64 ((i64 (r_.p + 1)) - 1)) (r_.b.length : Int))) * 53)))] [box g_0 68 #[v0_0,I (i64 (r_.p + 1))]] [] ([]) [([],[]),([],[]),([],[]),([],[]),([],[]),([],[]),([],[]),([],[]),([],[]),([],[]),([],[]),([],[]),([],[]),([],[]),([],[]),([],[]),([],[]),([],[]),([],[]),([],[]),([],[]),([],[]),([],[]),([],[]),([],[]),([],[]),([],[]),([],[]),([],[]),([],[]),([],[]),([],[]),([],[]),([],[]),([],[]),([],[]),([],[]),([],[]),([],[]),([],[]),([],[]),([],[]),([],[]),([],[])] (S:=[]) Tryz_mix (by kernel_rfl) rfl (by kernel_rfl) (amF_cons (mono_V _) (amF_cons (mono_V _) (amF_cons (mono_V _) (amF_cons (mono_V _) (amF_cons (mono_V _) (amF_cons (mono_V _) (amF_cons (mono_V _) (amF_cons (mono_V _) (amF_cons (mono_V _) (amF_cons (mono_V _) (amF_cons (mono_V _) (amF_cons (mono_el _ _ _) (amF_cons (mono_V _) (amF_cons (mono_V _) (amF_cons (mono_V _) (amF_cons (mono_V _) (amF_cons (mono_V _) (amF_cons (mono_V _) (amF_cons (mono_V _) (amF_cons (mono_V _) (amF_cons (mono_V _) (amF_cons (mono_V _) (amF_cons (mono_V _) (amF_cons (mono_V _) (amF_cons (mono_V _) (amF_cons (mono_V _) (amF_cons (mono_V _) (amF_cons (mono_V _) (amF_cons (mono_el _ _ _) (amF_cons (mono_V _) (amF_cons (mono_V _) (amF_cons (mono_V _) (amF_cons (mono_V _) (amF_cons (mono_V _) (amF_cons (mono_V _) (amF_cons (mono_V _) (amF_cons (mono_V _) (amF_cons (mono_V _) (amF_cons (mono_V _) (amF_cons (mono_V _) (amF_cons (mono_V _) (amF_cons (mono_V _) (amF_cons (mono_V _) (amF_cons (mono_V _) amF_nil)))))))))))))))))))))))))))))))))))))))))))) Z ?_ (fun f w_ H30 hS30 hE30 hT30 Z=>?_)
 refine opsS_cons (fun f w_ _ _ s _ _ Z=>mF ((s 0 rfl).trans sf0) rfl (nO rfl rfl Z)) (opsS_cons (fun f w_ _ _ _ _ p Z=>L_nc rfl (p 0 47 rfl rfl) (nO rfl rfl Z)) (opsS_cons (fun f w_ _ _ _ _ p Z=>fA 0 fa_68_0 (p 1 48 rfl rfl) rfl (nO rfl rfl Z)) (opsS_cons (fun f w_ _ _ _ _ p Z=>ldB 0 Z Tryz.isAgg22 (p 2 49 rfl rfl) rfl rfl (nO rfl rfl Z)) (opsS_cons (fun f w_ _ _ s _ _ Z=>mF ((s 5 rfl).trans rfl) rfl (nO rfl rfl Z)) (opsS_cons (fun f w_ _ _ s _ _ Z=>mF ((s 0 rfl).trans sf0) rfl (nO rfl rfl Z)) (opsS_cons (fun f w_ _ _ _ _ p Z=>L_nc rfl (p 5 52 rfl rfl) (nO rfl rfl Z)) (opsS_cons (fun f w_ _ _ _ _ p Z=>fA 0 fa_68_0 (p 6 53 rfl rfl) rfl (nO rfl rfl Z)) (opsS_cons (fun f w_ _ _ _ _ p Z=>ldB 0 Z Tryz.isAgg22 (p 7 54 rfl rfl) rfl rfl (nO rfl rfl Z)) (opsS_cons (fun f w_ _ _ _ hE30 p Z=>L_len rfl Tryz.underlying22 (p 8 55 rfl rfl) (slice_len (RP.mono _ h0_0 hE30)) (nO rfl rfl Z)) (opsS_cons (fun f w_ _ _ _ _ p Z=>L_rem (m:=i64 ((i64 (r_.p + 1)) - 1)) (n:=(r_.b.length : Int)) rfl (p 4 51 rfl rfl) (p 9 56 rfl rfl) (fun he=>by rw [if_pos he] at hq17; cases hq17) (nO rfl rfl Z)) (opsS_cons ?_ ?_)))))))))))
 intro f w_ H30 X30 hS30 hE30 hP30 Z
 refine L_ix (r:=RP.u8) rfl Tryz.underlying22 Tryz.sizeOf5 (hP30 3 50 rfl rfl) (RP.mono _ h0_0 hE30) (hP30 10 57 rfl rfl) hx18 (fun g39 o40 cs_g39 hrk_hat41 hat41=>?_)
 obtain rfl : _ = [_]:=hrk_hat41
 exact L_nil ⟨rfl,_,_,rfl,Le.refl _,fun _ _=>⟨_,_,_,rfl,rfl,hat41⟩,Z⟩
 refine opsS_cons ?_ ?_
 intro f w_ H30 X30 hS30 hE30 hP30 Z
 obtain ⟨g43,o43,cs43,hv43,hrk_hat43,hat43⟩:=(hP30 11 58 rfl rfl)
 obtain rfl : _ = [_]:=hrk_hat43
 refine L_ld rfl Tryz.isAgg5 hv43 (At.cell (AtH.at hat43 Z.sub) (j:=0) rfl) (L_nil ⟨rfl,_,_,rfl,Le.refl _,fun _ _=>rfl,Z⟩)
 refine opsS_cons (fun f w_ _ _ _ _ p Z=>L_cv (n:=(x18.toNat : Int)) rfl (p 12 59 rfl rfl) ⟨_,Tryz.underlying5⟩ Tryz.underlying3 (nO rfl rfl Z)) (opsS_cons (fun f w_ _ _ _ _ p Z=>L_mul rfl (p 13 60 rfl rfl) rfl (nO rfl rfl Z)) (opsS_cons (fun f w_ _ _ s _ _ Z=>mF ((s 0 rfl).trans sf0) rfl (nO rfl rfl Z)) (opsS_cons (fun f w_ _ _ _ _ p Z=>L_nc rfl (p 15 62 rfl rfl) (nO rfl rfl Z)) (opsS_cons (fun f w_ _ _ _ _ p Z=>fA 0 fa_68_0 (p 16 63 rfl rfl) rfl (nO rfl rfl Z)) (opsS_cons (fun f w_ _ _ _ _ p Z=>ldB 0 Z Tryz.isAgg22 (p 17 64 rfl rfl) rfl rfl (nO rfl rfl Z)) (opsS_cons (fun f w_ _ _ s _ _ Z=>mF ((s 5 rfl).trans rfl) rfl (nO rfl rfl Z)) (opsS_cons (fun f w_ _ _ _ _ p Z=>L_mul rfl (p 19 66 rfl rfl) rfl (nO rfl rfl Z)) (opsS_cons (fun f w_ _ _ _ _ p Z=>L_add rfl (p 20 67 rfl rfl) rfl (nO rfl rfl Z)) (opsS_cons (fun f w_ _ _ s _ _ Z=>mF ((s 0 rfl).trans sf0) rfl (nO rfl rfl Z)) (opsS_cons (fun f w_ _ _ _ _ p Z=>L_nc rfl (p 22 69 rfl rfl) (nO rfl rfl Z)) (opsS_cons (fun f w_ _ _ _ _ p Z=>fA 0 fa_68_0 (p 23 70 rfl rfl) rfl (nO rfl rfl Z)) (opsS_cons (fun f w_ _ _ _ _ p Z=>ldB 0 Z Tryz.isAgg22 (p 24 71 rfl rfl) rfl rfl (nO rfl rfl Z)) (opsS_cons (fun f w_ _ _ _ hE30 p Z=>L_len rfl Tryz.underlying22 (p 25 72 rfl rfl) (slice_len (RP.mono _ h0_0 hE30)) (nO rfl rfl Z)) (opsS_cons (fun f w_ _ _ _ _ p Z=>L_rem (m:=i64 ((i64 ((i64 ((i64 (r_.p + 1)) - 1)) * 7)) + 3)) (n:=(r_.b.length : Int)) rfl (p 21 68 rfl rfl) (p 26 73 rfl rfl) (fun he=>by rw [if_pos he] at hq23; cases hq23) (nO rfl rfl Z)) (opsS_cons ?_ ?_)))))))))))))))
 intro f w_ H30 X30 hS30 hE30 hP30 Z
 refine L_ix (r:=RP.u8) rfl Tryz.underlying22 Tryz.sizeOf5 (hP30 18 65 rfl rfl) (RP.mono _ h0_0 hE30) (hP30 27 74 rfl rfl) hx24 (fun g45 o46 cs_g45 hrk_hat47 hat47=>?_)
 obtain rfl : _ = [_]:=hrk_hat47
 exact L_nil ⟨rfl,_,_,rfl,Le.refl _,fun _ _=>⟨_,_,_,rfl,rfl,hat47⟩,Z⟩
 refine opsS_cons ?_ ?_
 intro f w_ H30 X30 hS30 hE30 hP30 Z
 obtain ⟨g49,o49,cs49,hv49,hrk_hat49,hat49⟩:=(hP30 28 75 rfl rfl)
 obtain rfl : _ = [_]:=hrk_hat49
 refine L_ld rfl Tryz.isAgg5 hv49 (At.cell (AtH.at hat49 Z.sub) (j:=0) rfl) (L_nil ⟨rfl,_,_,rfl,Le.refl _,fun _ _=>rfl,Z⟩)
 refine opsS_cons (fun f w_ _ _ _ _ p Z=>L_cv (n:=(x24.toNat : Int)) rfl (p 29 76 rfl rfl) ⟨_,Tryz.underlying5⟩ Tryz.underlying3 (nO rfl rfl Z)) (opsS_cons (fun f w_ _ _ _ _ p Z=>L_mul rfl (p 30 77 rfl rfl) rfl (nO rfl rfl Z)) (opsS_cons (fun f w_ _ _ _ _ p Z=>L_add rfl (p 14 61 rfl rfl) (p 31 78 rfl rfl) (nO rfl rfl Z)) (opsS_cons (fun f w_ _ _ s _ _ Z=>mF ((s 5 rfl).trans rfl) rfl (nO rfl rfl Z)) (opsS_cons (fun f w_ _ _ _ _ p Z=>L_mul rfl (p 33 80 rfl rfl) rfl (nO rfl rfl Z)) (opsS_cons (fun f w_ _ _ _ _ p Z=>L_add rfl (p 32 79 rfl rfl) (p 34 81 rfl rfl) (nO rfl rfl Z)) (opsS_cons (fun f w_ _ _ s _ _ Z=>mF ((s 5 rfl).trans rfl) rfl (nO rfl rfl Z)) (opsS_cons (fun f w_ _ _ s _ _ Z=>mF ((s 0 rfl).trans sf0) rfl (nO rfl rfl Z)) (opsS_cons (fun f w_ _ _ _ _ p Z=>L_nc rfl (p 37 84 rfl rfl) (nO rfl rfl Z)) (opsS_cons (fun f w_ _ _ _ _ p Z=>fA 0 fa_68_0 (p 38 85 rfl rfl) rfl (nO rfl rfl Z)) (opsS_cons (fun f w_ _ _ _ _ p Z=>ldB 0 Z Tryz.isAgg22 (p 39 86 rfl rfl) rfl rfl (nO rfl rfl Z)) (opsS_cons (fun f w_ _ _ _ hE30 p Z=>L_len rfl Tryz.underlying22 (p 40 87 rfl rfl) (slice_len (RP.mono _ h0_0 hE30)) (nO rfl rfl Z)) (opsS_cons (fun f w_ _ _ _ _ p Z=>L_quo (m:=i64 ((i64 (r_.p + 1)) - 1)) (n:=(r_.b.length : Int)) rfl (p 36 83 rfl rfl) (p 41 88 rfl rfl) (fun he=>by rw [if_pos he] at hq29; cases hq29) (nO rfl rfl Z)) (opsS_cons (fun f w_ _ _ _ _ p Z=>L_mul rfl (p 42 89 rfl rfl) rfl (nO rfl rfl Z)) (opsS_nil))))))))))))))
 refine L_add rfl (hT30 35 82 rfl rfl) (hT30 43 90 rfl rfl) (aI rfl (ns (mI rfl (mI rfl (L_quo (m:=i64 ((i64 ((i64 ((i64 ((i64 (x18.toNat : Int)) * 131)) + (i64 ((i64 (x24.toNat : Int)) * 1117)))) + (i64 ((i64 ((i64 (r_.p + 1)) - 1)) * 29)))) + (i64 ((i64 (Int.tdiv (i64 ((i64 (r_.p + 1)) - 1)) (r_.b.length : Int))) * 53)))) (n:=64) rfl rfl rfl (by decide) (L_xor (m:=i64 ((i64 ((i64 ((i64 ((i64 (x18.toNat : Int)) * 131)) + (i64 ((i64 (x24.toNat : Int)) * 1117)))) + (i64 ((i64 ((i64 (r_.p + 1)) - 1)) * 29)))) + (i64 ((i64 (Int.tdiv (i64 ((i64 (r_.p + 1)) - 1)) (r_.b.length : Int))) * 53)))) (n:=i64 (Int.tdiv (i64 ((i64 ((i64 ((i64 ((i64 (x18.toNat : Int)) * 131)) + (i64 ((i64 (x24.toNat : Int)) * 1117)))) + (i64 ((i64 ((i64 (r_.p + 1)) - 1)) * 29)))) + (i64 ((i64 (Int.tdiv (i64 ((i64 (r_.p + 1)) - 1)) (r_.b.length : Int))) * 53)))) 64)) rfl rfl rfl (aI rfl (nq ?_))))))))
 obtain ⟨q51,hq51,hF⟩:=bind_some hF
 refine W_region (mI rfl (mF ((hS30 1 rfl).trans sf1) rfl (L_rem (m:=(xorI .i64 (i64 ((i64 ((i64 ((i64 ((i64 (x18.toNat : Int)) * 131)) + (i64 ((i64 (x24.toNat : Int)) * 1117)))) + (i64 ((i64 ((i64 (r_.p + 1)) - 1)) * 29)))) + (i64 ((i64 (Int.tdiv (i64 ((i64 (r_.p + 1)) - 1)) (r_.b.length : Int))) * 53)))) (i64 (Int.tdiv (i64 ((i64 ((i64 ((i64 ((i64 (x18.toNat : Int)) * 131)) + (i64 ((i64 (x24.toNat : Int)) * 1117)))) + (i64 ((i64 ((i64 (r_.p + 1)) - 1)) * 29)))) + (i64 ((i64 (Int.tdiv (i64 ((i64 (r_.p + 1)) - 1)) (r_.b.length : Int))) * 53)))) 64)))) (n:=n_) rfl rfl rfl (fun he=>by rw [if_pos he] at hq51; cases hq51) (aI rfl (nn (W_ret (retG1 (v1:=I (Int.tmod (xorI .i64 (i64 ((i64 ((i64 ((i64 ((i64 (x18.toNat : Int)) * 131)) + (i64 ((i64 (x24.toNat : Int)) * 1117)))) + (i64 ((i64 ((i64 (r_.p + 1)) - 1)) * 29)))) + (i64 ((i64 (Int.tdiv (i64 ((i64 (r_.p + 1)) - 1)) (r_.b.length : Int))) * 53)))) (i64 (Int.tdiv (i64 ((i64 ((i64 ((i64 ((i64 (x18.toNat : Int)) * 131)) + (i64 ((i64 (x24.toNat : Int)) * 1117)))) + (i64 ((i64 ((i64 (r_.p + 1)) - 1)) * 29)))) + (i64 ((i64 (Int.tdiv (i64 ((i64 (r_.p + 1)) - 1)) (r_.b.length : Int))) * 53)))) 64))) n_)) Tryz.results43 rfl ?_)))))))
 obtain rfl:=so hF
 exact ⟨rfl,(Star.down Z hE30 (cb c0))⟩
theorem s_l17Rd_num_c {r_ : Rd} {list : List Int} {g_0 : Nat} {v0_0 : Value} {v1 : Value} {H : FH} {w : World} (Z : Star H w [box g_0 68 #[v0_0,I r_.p]]) (h0_0 : (rS 5 RP.u8).rel H [v0_0] r_.b) (h1 : (rS 3 RP.int).rel H [v1] list) {r : Int × Int} (hF : s_l17Rd_num r_ list = some r) :
 C Tryz.prog 45 #[Pt g_0,v1] w fun v w'=>v = I r.1∧Star H w' [box g_0 68 #[v0_0,I r.2]]:=by
 unfold s_l17Rd_num at hF
 refine C_enter Tryz.func45 rfl Tryz.ntmps45 rfl (sq (aI rfl (nq ?_)))
 obtain ⟨x6,hx6,hF⟩:=bind_some hF
 obtain ⟨x8,hx8,hF⟩:=bind_some hF
 refine W_region (mV v1 rfl (mV (Pt g_0) rfl (mV v1 rfl (L_len rfl Tryz.underlying71 rfl (slice_len h1) ?_))))
 obtain ⟨H13b,l14,s15,z16,k17⟩:=Z.lend [_]
 refine L_call rfl Tryz.call43 (ops2 rfl rfl) (s_l17Rd_pick_c (r_:=r_) (n_:=(list.length : Int)) s15 (RP.mono _ h0_0 l14) hx6) ?_
 rintro _ w18 ⟨rfl,Z⟩
 have Z:=k17 Z (cb c0)
 refine L_ix (r:=RP.int) rfl Tryz.underlying71 Tryz.sizeOf3 rfl h1 rfl hx8 (fun g19 o20 cs_g19 hrk_hat21 hat21=>?_)
 obtain rfl : _ = [_]:=hrk_hat21
 refine L_ld rfl Tryz.isAgg3 rfl (At.cell (AtH.at hat21 Z.sub) (j:=0) rfl) (aI rfl (nn (W_ret (retG1 (v1:=I x8) Tryz.results45 rfl ?_))))
 obtain rfl:=so hF
 exact ⟨rfl,Z⟩
theorem s_l1Total_c {c : Con} {v0_0 : Value} {H : FH} {w : World} (Z : Star H w []) (h0_0 : (rS 58 rTerm).rel H [v0_0] c.terms) {r : Int} (hF : s_l1Total c = some r) :
 C Tryz.prog 61 #[.agg #[v0_0,I c.bound]] w fun v w'=>v = I r∧Star H w' []:=by
 unfold s_l1Total at hF
 refine C_enter Tryz.func61 rfl Tryz.ntmps61 rfl (sq (L_box (v:=.agg #[v0_0,I c.bound]) (cs:=#[v0_0,I c.bound]) rfl rfl rfl Z (fun g3 w4 Z=>aI rfl (ns (aI rfl (nq (sq (aI rfl (nn ?_)))))))))
 have hlen7 : List.length c.terms≤9223372036854775807:=len_le (slice_len h0_0)
 obtain ⟨j7,hL7,hF⟩:=bind_some hF
 obtain ⟨R7,hR7⟩:=exR fun f w_=>∃ n_6 : Int,j7 = .nx n_6∧f 3 = I n_6∧Star H w_ ([])
 refine W_join R7 ?_ ?_
 refine W_block ?_
 obtain ⟨I7,hI7⟩:=exI fun n f w_=>∃ i_5 : Nat,∃ suf7 : List Term,∃ n_6 : Int,n = suf7.length∧List.drop i_5 c.terms = suf7∧i_5 + suf7.length = c.terms.length∧rangeL s_l1Total_b1 suf7 i_5 n_6 = some j7∧f 1 = Pt g3∧f 3 = I n_6∧f 4 = I i_5∧Star H w_ ([box g3 37 #[v0_0,I c.bound]])
 refine W_loop I7 (n:=c.terms.length) ?_ ?_
 exact ij hI7 ⟨0,c.terms,0,rfl,rfl,Nat.zero_add _,hL7,rfl,rfl,rfl,Z⟩
 intro n7 f w_ hI
 obtain ⟨i_5,suf7,n_6,rfl,hd7,hl7,hL7,sf1,sf3,sf4,Z⟩:=ik hI7 hI
 refine W_seq (sq (mF sf4 rfl (fA 0 fa_37_0 sf1 rfl (ldB 0 Z Tryz.isAgg35 rfl rfl rfl (L_len rfl Tryz.underlying35 rfl (slice_len h0_0) (L_lss rfl rfl rfl (nn (W_cond (b:=decide ((i_5 : Int) < (c.terms.length : Int))) rfl (fun hc8=>?_) (fun hc8=>?_)))))))))
 have hlt7:=of_decide_eq_true hc8
 rcases suf7 with _ | ⟨x_7,rest7⟩
 exact absurd hlt7 (by simp at hl7; omega)
 obtain ⟨o7,hB7,hL7⟩:=range_cons hL7
 rw [s_l1Total_b1] at hB7
 have hix7:=drop_idx hd7
 refine W_skip (W_seq (W_block (W_region (mF sf3 rfl (fA 0 fa_37_0 sf1 rfl (ldB 0 Z Tryz.isAgg35 rfl rfl rfl (mF sf4 rfl (L_ix (r:=rTerm) rfl Tryz.underlying35 Tryz.sizeOf58 rfl h0_0 rfl hix7 (fun g13 o14 cs_g13 hrk_hat15 hat15=>?_)))))))))
 obtain rfl:=rTerm_iff.1 hrk_hat15
 refine fA o14 fa_58_0 rfl rfl (L_ld rfl Tryz.isAgg3 rfl (At.cell (AtH.at hat15 Z.sub) (j:=0) rfl) (L_add rfl rfl rfl (aI rfl (nn (W_region (mF sf4 rfl (L_add rfl rfl rfl (aI rfl (nn ?_)))))))))
 obtain rfl:=so hB7
 show ∃ m,m < _∧I7 m _ _
 refine ⟨rest7.length,by simp,?_⟩
 exact ij hI7 ⟨i_5 + 1,rest7,i64 (n_6 + x_7.coef),rfl,drop_next hd7,by simp at hl7; omega,hL7,sf1,rfl,(Eq.trans rfl (congrArg (Value.int .i64) (i64_succ (n:=c.terms.length) (by simp at hl7; omega) hlen7))),Z⟩
 rcases suf7 with _ | ⟨_,_⟩
 obtain rfl:=range_nil hL7
 refine W_exit (rj hR7 ⟨n_6,rfl,sf3,(Star.keepN 0 Z)⟩)
 exact absurd (of_decide_eq_false hc8) (by simp at hl7; omega)
 intro f w_ hR
 obtain ⟨n_6,rfl,sf3,Z⟩:=rk hR7 hR
 refine sq (mF sf3 rfl (aI rfl (nn (W_ret (retG1 (v1:=I n_6) Tryz.results61 rfl ?_)))))
 obtain rfl:=so hF
 exact ⟨rfl,Z⟩
theorem s_l1Draw_c {r_ : Rd} {most : Int} {g_0 : Nat} {v0_0 : Value} {H : FH} {w : World} (Z : Star H w [box g_0 68 #[v0_0,I r_.p]]) (h0_0 : (rS 5 RP.u8).rel H [v0_0] r_.b) {r : Con × Int} (hF : s_l1Draw r_ most = some r) :
 C Tryz.prog 46 #[Pt g_0,I most] w fun v w'=>∃ (u1 : Value),v = .agg #[u1,I r.1.bound]∧Star H w' [oF 58 rTerm u1 r.1.terms,box g_0 68 #[v0_0,I r.2]]:=by
 unfold s_l1Draw at hF
 refine C_enter Tryz.func46 rfl Tryz.ntmps46 rfl (sq (L_al (cs:=#[S0,I 0]) rfl Tryz.zeroValue37 rfl Z (fun g3 w4 Z=>ns (L_bld rfl (parts0 ) (bld_37_  ) (L_al (cs:=#[S0,I 0]) rfl Tryz.zeroValue37 rfl Z (fun g8 w9 Z=>L_staB (vs:=#[S0,I 0]) (cs2:=#[S0,I 0]) 0 rfl Tryz.sizeOf37 rfl rfl rfl (ones_cons rfl (ones_cons rfl ones_nil)) Z rfl (by show 0 + 2≤2; decide) rfl (fun w10 Z=>nq (sq (aI rfl (nn ?_))))))))))
 obtain ⟨k16,hk16,hF⟩:=bind_some hF
 obtain ⟨j15,hL15,hF⟩:=bind_some hF
 obtain ⟨R15,hR15⟩:=exR fun f w_=>∃ g_0_1_12 : Int,∃ g8_0_13 : List Term,∃ v13_g8_0 : Value,j15 = .nx (g_0_1_12,g8_0_13)∧f 0 = Pt g_0∧f 4 = Pt g3∧f 5 = Pt g8∧Star H w_ ([box g_0 68 #[v0_0,I g_0_1_12],oF 58 rTerm v13_g8_0 g8_0_13,box g8 37 #[v13_g8_0,I 0],box g3 37 #[S0,I 0]])
 refine W_join R15 ?_ ?_
 refine W_block ?_
 obtain ⟨I15,hI15⟩:=exI fun n f w_=>∃ i_11 : Nat,∃ suf15 : Nat,∃ g_0_1_12 : Int,∃ g8_0_13 : List Term,∃ v13_g8_0 : Value,suf15 = n∧1≤i_11∧i_11 + suf15 = 1 + k16∧countL (s_l1Draw_b1 r_) suf15 i_11 (g_0_1_12,g8_0_13) = some j15∧f 0 = Pt g_0∧f 1 = I most∧f 4 = Pt g3∧f 5 = Pt g8∧f 6 = I i_11∧Star H w_ ([box g_0 68 #[v0_0,I g_0_1_12],oF 58 rTerm v13_g8_0 g8_0_13,box g8 37 #[v13_g8_0,I 0],box g3 37 #[S0,I 0]])
 have Z:=Star.addNil (R:=(OR.frz rTerm)) (e:=58) Z
 have Z:=Z.gets [2,2,2,3] rfl
 refine W_loop I15 (n:=k16) ?_ ?_
 exact ij hI15 ⟨1,k16,r_.p,[],S0,rfl,Nat.le_refl _,rfl,hL15,rfl,rfl,rfl,rfl,rfl,Z⟩
 intro n15 f w_ hI
 obtain ⟨i_11,suf15,g_0_1_12,g8_0_13,v13_g8_0,rfl,hs15,hl15,hL15,sf0,sf1,sf4,sf5,sf6,Z⟩:=ik hI15 hI
 refine W_seq (sq (mF sf6 rfl (mF sf1 rfl (L_leq rfl rfl rfl (nn (W_cond (b:=decide ((i_11 : Int)≤most)) rfl (fun hc18=>?_) (fun hc18=>?_)))))))
 have hlt15:=of_decide_eq_true hc18
 rcases suf15 with _ | rest15
 exact absurd hlt15 (cntF_noL hl15 hk16)
 obtain ⟨o15,hB15,hL15⟩:=count_succ hL15
 rw [s_l1Draw_b1] at hB15
 refine W_skip (W_seq (W_block (W_seq ?_)))
 obtain ⟨x24,hx24,hB15⟩:=bind_some hB15
 refine W_region (mF sf0 rfl ?_)
 obtain ⟨H26b,l27,s28,z29,k30⟩:=Z.lend [_]
 refine L_call rfl Tryz.call43 (ops2 rfl rfl) (s_l17Rd_pick_c (r_:=({ b:=r_.b,p:=g_0_1_12 } : Rd)) (n_:=2) s28 (RP.mono _ h0_0 l27) hx24) ?_
 rintro _ w31 ⟨rfl,Z⟩
 have Z:=k30 Z (cb c0)
 refine L_eql rfl rfl rfl (nn ?_)
 obtain ⟨⟨g_0_1_32,g8_0_33⟩,hA35,hB15⟩:=bind_some hB15
 obtain ⟨R35,hR35⟩:=exR fun f w_=>∃ v33_g8_0 : Value,f 0 = Pt g_0∧f 1 = I most∧f 4 = Pt g3∧f 5 = Pt g8∧f 6 = I i_11∧Star H w_ ([box g_0 68 #[v0_0,I g_0_1_32],oF 58 rTerm v33_g8_0 g8_0_33,box g8 37 #[v33_g8_0,I 0],box g3 37 #[S0,I 0]])
 refine W_join R35 ?_ ?_
 refine W_cond (b:=(x24.1 == 0)) rfl (fun hc36=>?_) (fun hc36=>?_)
 have hA35:=(ite_t hc36).symm.trans hA35
 refine W_seq ?_
 obtain ⟨x46,hx46,hA35⟩:=bind_some hA35
 refine W_region (mF sf0 rfl (L_bs rfl (parts7 rfl rfl rfl rfl rfl rfl rfl) (bs_71_7_0_0_0_0_0_0_0 (I 1) (I 1) (I 2) (I 3) (I 1) (I 5) (I 4) rfl rfl rfl rfl rfl rfl rfl) Z (fun g51 w52 Z=>?_)))
 have Z:=litInts [1,1,2,3,1,5,4] 7 Z rfl rfl (by decide)
 have Z:=Z.get 1 rfl
 obtain ⟨H54b,l55,s56,z57,k58⟩:=Z.lend [_]
 have hb59 : (rS 3 RP.int).rel H54b [(Sl g51 7 7)] ([1,1,2,3,1,5,4]):=fz_own 0 z57 rfl
 refine L_call rfl Tryz.call45 (ops2 rfl rfl) (s_l17Rd_num_c (r_:=({ b:=r_.b,p:=x24.2 } : Rd)) (list:=[1,1,2,3,1,5,4]) s56 (RP.mono _ h0_0 l55) hb59 hx46) ?_
 rintro _ w60 ⟨rfl,Z⟩
 have Z:=k58 Z (cb c0)
 refine mF sf6 rfl (L_bld rfl (parts2 rfl rfl) (bld_58_0_1 (I x46.1) (I i_11) rfl rfl) (L_al (cs:=#[I 0,I 0]) rfl Tryz.zeroValue58 rfl Z (fun g61 w62 Z=>L_staB (vs:=#[I x46.1,I i_11]) (cs2:=#[I x46.1,I i_11]) 0 rfl Tryz.sizeOf58 rfl rfl rfl (ones_cons rfl (ones_cons rfl ones_nil)) Z rfl (by show 0 + 2≤2; decide) rfl (fun w63 Z=>nq (W_seq ?_)))))
 obtain ⟨x69,hx69,hA35⟩:=bind_some hA35
 refine W_region (mF sf0 rfl ?_)
 have Z:=Z.get 1 rfl
 obtain ⟨H71b,l72,s73,z74,k75⟩:=Z.lend [_]
 refine L_call rfl Tryz.call43 (ops2 rfl rfl) (s_l17Rd_pick_c (r_:=({ b:=r_.b,p:=x46.2 } : Rd)) (n_:=2) s73 (RP.mono _ h0_0 l72) hx69) ?_
 rintro _ w76 ⟨rfl,Z⟩
 have Z:=k75 Z (cb c0)
 refine L_eql rfl rfl rfl (nn ?_)
 obtain ⟨g61_1_77,hA78,hA35⟩:=bind_some hA35
 obtain ⟨R78,hR78⟩:=exR fun f w_=>f 0 = Pt g_0∧f 1 = I most∧f 4 = Pt g3∧f 5 = Pt g8∧f 6 = I i_11∧f 7 = Pt g61∧Star H w_ ([box g_0 68 #[v0_0,I x69.2],box g61 58 #[I x46.1,I g61_1_77],oF 58 rTerm v13_g8_0 g8_0_13,box g8 37 #[v13_g8_0,I 0],box g3 37 #[S0,I 0]])
 refine W_join R78 ?_ ?_
 refine W_cond (b:=(x69.1 == 0)) rfl (fun hc79=>?_) (fun hc79=>?_)
 have hA78:=(ite_t hc79).symm.trans hA78
 refine W_region (mF sf6 rfl (L_neg rfl rfl (fA 1 fa_58_1 rfl rfl (L_stB (v:=I (i64 (-(i_11 : Int)))) (cs2:=#[I x46.1,I (i64 (-(i_11 : Int)))]) 1 rfl Tryz.sizeOf3 rfl rfl rfl Z rfl rfl rfl (fun w81 Z=>nn ?_)))))
 obtain rfl:=so hA78
 have Z:=Z.gets [5,5,5,3,4] rfl
 exact rj hR78 ⟨sf0,sf1,sf4,sf5,sf6,rfl,(Star.keepN 5 Z)⟩
 have hA78:=(ite_f hc79).symm.trans hA78
 refine W_skip ?_
 obtain rfl:=so hA78
 have Z:=Z.gets [5,5,5,4,4] rfl
 exact rj hR78 ⟨sf0,sf1,sf4,sf5,sf6,rfl,(Star.keepN 5 Z)⟩
 intro f w_ hR
 obtain ⟨sf0,sf1,sf4,sf5,sf6,sf7,Z⟩:=rk hR78 hR
 obtain ⟨x85,hx85,hA35⟩:=bind_some hA35
 refine W_region (fA 0 fa_37_0 sf5 rfl (ldB 3 Z Tryz.isAgg35 rfl rfl rfl (L_lda (cs:=[I x46.1,I g61_1_77]) rfl Tryz.isAgg58 Tryz.sizeOf58 sf7 (At.sub0 (Blk.at (Star.blkAt 1 Z rfl)) 0 2) rfl (L_bs rfl (parts1 rfl) (bs_35_1_2 (I x46.1) (I g61_1_77) ) Z (fun g90 w91 Z=>?_)))))
 have Z:=Star.addF (r:=rTerm) (cs:=[I x46.1,I g61_1_77]) (x:=({ coef:=x46.1,lit:=g61_1_77 } : Term)) Z (rTerm_iff.2 rfl)
 have Z:=Star.mkRow (R:=(OR.frz rTerm)) [([I x46.1,I g61_1_77],({ coef:=x46.1,lit:=g61_1_77 } : Term))] [({ coef:=x46.1,lit:=g61_1_77 } : Term)] 1 Z rfl rfl rfl (by decide)
 have Z:=Z.get 3 rfl
 refine L_appM (v:=v13_g8_0) (u:=(Sl g90 1 1)) rfl et_35 rfl rfl Z hx85 (fun v93 w94 Z=>fA 0 fa_37_0 sf5 rfl (L_stB (v:=v93) (cs2:=#[v93,I 0]) 3 rfl Tryz.sizeOf35 rfl rfl (one_len (Star.len 0 Z rfl)) Z rfl rfl rfl (fun w96 Z=>nn ?_)))
 obtain ⟨rfl,rfl⟩:=so2 hA35
 have Z:=Z.gets [4,1,2,3] rfl
 exact rj hR35 ⟨v93,sf0,sf1,sf4,sf5,sf6,(Star.keepN 4 Z)⟩
 have hA35:=(ite_f hc36).symm.trans hA35
 refine W_skip ?_
 obtain ⟨rfl,rfl⟩:=so2 hA35
 exact rj hR35 ⟨v13_g8_0,sf0,sf1,sf4,sf5,sf6,Z⟩
 intro f w_ hR
 obtain ⟨v33_g8_0,sf0,sf1,sf4,sf5,sf6,Z⟩:=rk hR35 hR
 refine W_region (mF sf6 rfl (L_add rfl rfl rfl (aI rfl (nn ?_))))
 obtain rfl:=so hB15
 show ∃ m,m < _∧I15 m _ _
 refine ⟨rest15,Nat.lt_succ_self _,?_⟩
 exact ij hI15 ⟨i_11 + 1,rest15,g_0_1_32,g8_0_33,v33_g8_0,rfl,by omega,by omega,hL15,sf0,sf1,sf4,sf5,(Eq.trans rfl (congrArg (Value.int .i64) (i64_succ (n:=1 + k16) (by omega) (cntF_le hk16)))),Z⟩
 rcases suf15 with _ | _
 obtain rfl:=count_zero hL15
 refine W_exit (rj hR15 ⟨g_0_1_12,g8_0_13,v13_g8_0,rfl,sf0,sf4,sf5,Z⟩)
 exact absurd (cntF_yesL hs15 hl15 hk16) (of_decide_eq_false hc18)
 intro f w_ hR
 obtain ⟨g_0_1_12,g8_0_13,v13_g8_0,rfl,sf0,sf4,sf5,Z⟩:=rk hR15 hR
 refine W_seq ?_
 obtain ⟨x103,hx103,hF⟩:=bind_some hF
 refine W_region (L_lda (cs:=[v13_g8_0,I 0]) rfl Tryz.isAgg37 Tryz.sizeOf37 sf5 (At.sub0 (Blk.at (Star.blkAt 2 Z rfl)) 0 2) rfl ?_)
 obtain ⟨H105b,l106,s107,z108,k109⟩:=Z.borrow
 have hb110 : (rS 58 rTerm).rel H105b [v13_g8_0] g8_0_13:=fz_own 1 z108 rfl
 refine L_call rfl Tryz.call61 (ops1 rfl) (s_l1Total_c (c:=({ terms:=g8_0_13,bound:=0 } : Con)) s107 hb110 hx103) ?_
 rintro _ w111 ⟨rfl,Z⟩
 have Z:=k109 Z c0
 refine aI rfl (nq ?_)
 obtain ⟨x121,hx121,hF⟩:=bind_some hF
 refine W_region (mF sf0 rfl (L_bs rfl (parts5 rfl rfl rfl rfl rfl) (bs_71_5_0_0_0_0_0 (I 1) (I 2) (I 1) (I 3) (I 0) rfl rfl rfl rfl rfl) Z (fun g124 w125 Z=>?_)))
 have Z:=litInts [1,2,1,3,0] 5 Z rfl rfl (by decide)
 have Z:=Z.get 1 rfl
 obtain ⟨H127b,l128,s129,z130,k131⟩:=Z.lend [_]
 have hb132 : (rS 3 RP.int).rel H127b [(Sl g124 5 5)] ([1,2,1,3,0]):=fz_own 0 z130 rfl
 refine L_call rfl Tryz.call45 (ops2 rfl rfl) (s_l17Rd_num_c (r_:=({ b:=r_.b,p:=g_0_1_12 } : Rd)) (list:=[1,2,1,3,0]) s129 (RP.mono _ h0_0 l128) hb132 hx121) ?_
 rintro _ w133 ⟨rfl,Z⟩
 have Z:=k131 Z (cb c0)
 refine fA 1 fa_37_1 sf5 rfl (L_stB (v:=I x121.1) (cs2:=#[v13_g8_0,I x121.1]) 3 rfl Tryz.sizeOf3 rfl rfl rfl Z rfl rfl rfl (fun w134 Z=>nq (W_seq ?_)))
 obtain ⟨x140,hx140,hF⟩:=bind_some hF
 refine W_region (mF sf0 rfl ?_)
 have Z:=Z.get 1 rfl
 obtain ⟨H142b,l143,s144,z145,k146⟩:=Z.lend [_]
 refine L_call rfl Tryz.call43 (ops2 rfl rfl) (s_l17Rd_pick_c (r_:=({ b:=r_.b,p:=x121.2 } : Rd)) (n_:=4) s144 (RP.mono _ h0_0 l143) hx140) ?_
 rintro _ w147 ⟨rfl,Z⟩
 have Z:=k146 Z (cb c0)
 refine L_eql rfl rfl rfl (nn ?_)
 obtain ⟨⟨g_0_1_148,g8_1_149⟩,hA150,hF⟩:=bind_some hF
 obtain ⟨R150,hR150⟩:=exR fun f w_=>f 4 = Pt g3∧f 5 = Pt g8∧Star H w_ ([box g_0 68 #[v0_0,I g_0_1_148],oF 58 rTerm v13_g8_0 g8_0_13,box g8 37 #[v13_g8_0,I g8_1_149],box g3 37 #[S0,I 0]])
 refine W_join R150 ?_ ?_
 refine W_cond (b:=(x140.1 == 0)) rfl (fun hc151=>?_) (fun hc151=>?_)
 have hA150:=(ite_t hc151).symm.trans hA150
 obtain ⟨x157,hx157,hA150⟩:=bind_some hA150
 refine W_region (mF sf0 rfl (mI rfl (L_add rfl rfl rfl ?_)))
 obtain ⟨H160b,l161,s162,z163,k164⟩:=Z.lend [_]
 refine L_call rfl Tryz.call43 (ops2 rfl rfl) (s_l17Rd_pick_c (r_:=({ b:=r_.b,p:=x140.2 } : Rd)) (n_:=i64 (x103 + 2)) s162 (RP.mono _ h0_0 l161) hx157) ?_
 rintro _ w165 ⟨rfl,Z⟩
 have Z:=k164 Z (cb c0)
 refine fA 1 fa_37_1 sf5 rfl (L_stB (v:=I x157.1) (cs2:=#[v13_g8_0,I x157.1]) 1 rfl Tryz.sizeOf3 rfl rfl rfl Z rfl rfl rfl (fun w166 Z=>nn ?_))
 obtain ⟨rfl,rfl⟩:=so2 hA150
 have Z:=Z.gets [4,1,4,3] rfl
 exact rj hR150 ⟨sf4,sf5,(Star.keepN 4 Z)⟩
 have hA150:=(ite_f hc151).symm.trans hA150
 refine W_skip ?_
 obtain ⟨rfl,rfl⟩:=so2 hA150
 have Z:=Z.gets [4,2,4,3] rfl
 exact rj hR150 ⟨sf4,sf5,(Star.keepN 4 Z)⟩
 intro f w_ hR
 obtain ⟨sf4,sf5,Z⟩:=rk hR150 hR
 refine sq (L_lda (cs:=[v13_g8_0,I g8_1_149]) rfl Tryz.isAgg37 Tryz.sizeOf37 sf5 (At.sub0 (Blk.at (Star.blkAt 2 Z rfl)) 0 2) rfl (L_staB (vs:=#[v13_g8_0,I g8_1_149]) (cs2:=#[v13_g8_0,I g8_1_149]) 3 rfl Tryz.sizeOf37 sf4 rfl rfl (ones_cons (one_len (Star.len 1 Z rfl)) (ones_cons rfl ones_nil)) Z rfl (by show 0 + 2≤2; decide) rfl (fun w168 Z=>nn (W_ret (retG1 (v1:=.agg #[v13_g8_0,I g8_1_149]) Tryz.results46 (resV_agg Tryz.isAgg37 Tryz.sizeOf37 sf4 (Star.blkAt 0 Z rfl) rfl) ?_)))))
 obtain rfl:=so hF
 have Z:=Z.gets [1,2] rfl
 exact ⟨v13_g8_0,rfl,(Star.keepN 2 Z)⟩
theorem s_l3Problem_c {fu : Nat} {r_ : Rd} {g_0 : Nat} {v0_0 : Value} {H : FH} {w : World} (Z : Star H w [box g_0 68 #[v0_0,I r_.p]]) (h0_0 : (rS 5 RP.u8).rel H [v0_0] r_.b) {r : (List Con) × Int} (hF : s_l3Problem fu r_ = some r) :
 C Tryz.prog 25 #[Pt g_0] w fun v w'=>∃ (u1 : Value),v = u1∧Star H w' [oS 37 (oCon 58) u1 r.1,box g_0 68 #[v0_0,I r.2]]:=by
 unfold s_l3Problem at hF
 refine C_enter Tryz.func25 rfl Tryz.ntmps25 rfl (sq (aV S0 rfl (ns (L_bs rfl parts0 (bs_23_0  ) Z (fun g4 w5 Z=>?_)))))
 have Z:=Star.mkRow (R:=(OR.frz (rCon 58))) [] [] 0 Z rfl rfl rfl (by decide)
 refine aV (Sl g4 0 0) rfl (nq ?_)
 obtain ⟨x16,hx16,hF⟩:=bind_some hF
 refine W_region (mV (Pt g_0) rfl (L_bs rfl (parts4 rfl rfl rfl rfl) (bs_71_4_0_0_0_0 (I 4) (I 5) (I 3) (I 6) rfl rfl rfl rfl) Z (fun g18 w19 Z=>?_)))
 have Z:=litInts [4,5,3,6] 4 Z rfl rfl (by decide)
 have Z:=Z.get 2 rfl
 obtain ⟨H21b,l22,s23,z24,k25⟩:=Z.lend [_]
 have hb26 : (rS 3 RP.int).rel H21b [(Sl g18 4 4)] ([4,5,3,6]):=fz_own 0 z24 rfl
 refine L_call rfl Tryz.call45 (ops2 rfl rfl) (s_l17Rd_num_c (r_:=r_) (list:=[4,5,3,6]) s23 (RP.mono _ h0_0 l22) hb26 hx16) ?_
 rintro _ w27 ⟨rfl,Z⟩
 have Z:=k25 Z (cb c0)
 refine aI rfl (nq (W_seq ?_))
 obtain ⟨x37,hx37,hF⟩:=bind_some hF
 refine W_region (mV (Pt g_0) rfl (L_bs rfl (parts7 rfl rfl rfl rfl rfl rfl rfl) (bs_71_7_0_0_0_0_0_0_0 (I 4) (I 6) (I 3) (I 8) (I 2) (I 1) (I 0) rfl rfl rfl rfl rfl rfl rfl) Z (fun g39 w40 Z=>?_)))
 have Z:=litInts [4,6,3,8,2,1,0] 7 Z rfl rfl (by decide)
 have Z:=Z.get 1 rfl
 obtain ⟨H42b,l43,s44,z45,k46⟩:=Z.lend [_]
 have hb47 : (rS 3 RP.int).rel H42b [(Sl g39 7 7)] ([4,6,3,8,2,1,0]):=fz_own 0 z45 rfl
 refine L_call rfl Tryz.call45 (ops2 rfl rfl) (s_l17Rd_num_c (r_:=({ b:=r_.b,p:=x16.2 } : Rd)) (list:=[4,6,3,8,2,1,0]) s44 (RP.mono _ h0_0 l43) hb47 hx37) ?_
 rintro _ w48 ⟨rfl,Z⟩
 have Z:=k46 Z (cb c0)
 refine aI rfl (nn ?_)
 obtain ⟨j54,hL54,hF⟩:=bind_some hF
 obtain ⟨R54,hR54⟩:=exR fun f w_=>∃ out_50 : List Con,∃ i_52 : Int,∃ g_0_1_53 : Int,∃ v50_out : Value,j54 = .nx (out_50,i_52,g_0_1_53)∧f 3 = v50_out∧Star H w_ ([oS 37 (oCon 58) v50_out out_50,box g_0 68 #[v0_0,I g_0_1_53]])
 refine W_join R54 ?_ ?_
 refine W_block ?_
 obtain ⟨I54,hI54⟩:=exI fun n f w_=>∃ out_50 : List Con,∃ i_52 : Int,∃ g_0_1_53 : Int,∃ v50_out : Value,whileL (s_l3Problem_b1 r_ x16) n (out_50,i_52,g_0_1_53) = some j54∧f 0 = Pt g_0∧f 3 = v50_out∧f 4 = I x16.1∧f 5 = I i_52∧Star H w_ ([oS 37 (oCon 58) v50_out out_50,box g_0 68 #[v0_0,I g_0_1_53]])
 have Z:=Z.get 3 rfl
 have Z:=Star.recast (R:=(OR.frz (rCon 58))) (R':=(oCon 58)) rfl Z
 refine W_loop I54 (n:=fu) ?_ ?_
 exact ij hI54 ⟨[],x37.1,x37.2,(Sl g4 0 0),hL54,rfl,rfl,rfl,rfl,(Star.keepN 2 Z)⟩
 intro n54 f w_ hI
 obtain ⟨out_50,i_52,g_0_1_53,v50_out,hL54,sf0,sf3,sf4,sf5,Z⟩:=ik hI54 hI
 rcases n54 with _ | n54
 exact (while_zero hL54).elim
 obtain ⟨o54,hB54,hL54⟩:=while_succ hL54
 rw [s_l3Problem_b1] at hB54
 refine W_seq (sq (mF sf5 rfl (L_gtr rfl rfl rfl (nn (W_cond (b:=decide (i_52 > 0)) rfl (fun hc55=>?_) (fun hc55=>?_))))))
 have hB54:=(ite_t hc55).symm.trans hB54
 refine W_skip (W_seq (W_block ?_))
 obtain ⟨x61,hx61,hB54⟩:=bind_some hB54
 obtain ⟨x67,hx67,hB54⟩:=bind_some hB54
 refine W_region (mF sf3 rfl (mF sf0 rfl (mF sf4 rfl ?_)))
 have Z:=Z.get 1 rfl
 obtain ⟨H71b,l72,s73,z74,k75⟩:=Z.lend [_]
 refine L_call rfl Tryz.call46 (ops2 rfl rfl) (s_l1Draw_c (r_:=({ b:=r_.b,p:=g_0_1_53 } : Rd)) (most:=x16.1) s73 (RP.mono _ h0_0 l72) hx61) ?_
 rintro _ w76 ⟨r76_0,rfl,Z⟩
 have Z:=k75 Z (co closed_term (cb c0))
 refine L_bs rfl (parts1 rfl) (bs_23_1_2 (r76_0) (I x61.1.bound) ) Z (fun g78 w79 Z=>?_)
 have Z:=Z.get 1 rfl
 have Z:=oCon_close (c:=x61.1) Z
 have Z:=Star.mkRow (R:=(oCon 58)) [([r76_0,I x61.1.bound],x61.1)] [x61.1] 1 Z rfl rfl rfl (by decide)
 have Z:=Z.get 2 rfl
 refine L_appM (v:=v50_out) (u:=(Sl g78 1 1)) rfl et_23 rfl rfl Z hx67 (fun v81 w82 Z=>aV v81 rfl (nn (W_region (mF sf5 rfl (L_sub rfl rfl rfl (aI rfl (nn ?_)))))))
 obtain rfl:=so hB54
 show ∃ m,m < _∧I54 m _ _
 refine ⟨n54,Nat.lt_succ_self _,?_⟩
 exact ij hI54 ⟨x67,i64 (i_52 - 1),x61.2,v81,hL54,sf0,rfl,sf4,rfl,Z⟩
 have hB54:=(ite_f hc55).symm.trans hB54
 refine W_exit ?_
 obtain rfl:=so hB54
 obtain rfl:=so hL54
 exact rj hR54 ⟨out_50,i_52,g_0_1_53,v50_out,rfl,sf3,Z⟩
 intro f w_ hR
 obtain ⟨out_50,i_52,g_0_1_53,v50_out,rfl,sf3,Z⟩:=rk hR54 hR
 refine sq (mF sf3 rfl (aV v50_out rfl (nn (W_ret (retG1 (v1:=v50_out) Tryz.results25 rfl ?_)))))
 obtain rfl:=so hF
 exact ⟨v50_out,rfl,Z⟩
theorem s_l1Copy_c {c : Con} {v0_0 : Value} {H : FH} {w : World} (Z : Star H w []) (h0_0 : (rS 58 rTerm).rel H [v0_0] c.terms) {r : Con} (hF : s_l1Copy c = some r) :
 C Tryz.prog 62 #[.agg #[v0_0,I c.bound]] w fun v w'=>∃ (u1 : Value),v = .agg #[u1,I r.bound]∧Star H w' [oF 58 rTerm u1 r.terms]:=by
 unfold s_l1Copy at hF
 refine C_enter Tryz.func62 rfl Tryz.ntmps62 rfl (sq (L_box (v:=.agg #[v0_0,I c.bound]) (cs:=#[v0_0,I c.bound]) rfl rfl rfl Z (fun g5 w6 Z=>L_al (cs:=#[S0,I 0]) rfl Tryz.zeroValue37 rfl Z (fun g7 w8 Z=>nq ?_))))
 obtain ⟨x12,hx12,hF⟩:=bind_some hF
 refine W_drawS 6 [anyF,isV (Pt g5),isV (v0_0),anyF,isV (Pq g5 1),isV (I c.bound)] [box g7 37 #[S0,I 0],box g5 37 #[v0_0,I c.bound]] [.made 0 3 (fun v_=>oF 58 rTerm v_ ([])) (some 3),.made 3 6 (fun v_=>oF 58 rTerm v_ x12) none] ([]) [([],[0]),([],[]),([],[]),([0],[1]),([],[]),([],[])] (S:=[(some 0,[3],some 3),(some 3,[6],none)]) Tryz_mix (by kernel_rfl) rfl (by kernel_rfl) (amF_cons (mono_any) (amF_cons (mono_V _) (amF_cons (mono_V _) (amF_cons (mono_any) (amF_cons (mono_V _) (amF_cons (mono_V _) amF_nil)))))) Z ?_ (fun f w_ H17 hS17 hE17 hT17 Z=>?_)
 refine opsS_cons ?_ ?_
 intro f w_ H17 X17 hS17 hE17 hP17 Z
 refine L_bs rfl parts0 (bs_35_0  ) Z (fun g24 w25 Z=>?_)
 have Z:=Star.mkRow (R:=(OR.frz rTerm)) [] [] 0 Z rfl rfl rfl (by decide)
 have Z:=Z.gets [2,2] rfl
 exact L_nil ⟨rfl,_,_,rfl,Le.refl _,fun _ _=>trivial,Z⟩
 refine opsS_cons (fun f w_ _ _ s _ _ Z=>fA 0 fa_37_0 ((s 1 rfl).trans rfl) rfl (nO rfl rfl Z)) (opsS_cons (fun f w_ _ _ _ _ p Z=>ldB 1 Z Tryz.isAgg35 (p 1 4 rfl rfl) rfl rfl (nO rfl rfl Z)) (opsS_cons ?_ ?_))
 intro f w_ H17 X17 hS17 hE17 hP17 Z
 have Z : Star H17 w_ (box g7 37 #[S0,I 0] :: box g5 37 #[v0_0,I c.bound] :: oF 58 rTerm (f 3) ([]) :: X17):=Z
 have Z:=Z.get 2 rfl
 refine L_app (v:=(f 3)) (u:=v0_0) rfl et_35 rfl (hP17 2 5 rfl rfl) Z (RP.mono _ h0_0 hE17) hx12 (fun v28 w29 Z=>?_)
 have Z:=Z.gets [2,2] rfl
 exact L_nil ⟨rfl,_,_,rfl,Le.refl _,fun _ _=>trivial,Z⟩
 refine opsS_cons (fun f w_ _ _ s _ _ Z=>fA 1 fa_37_1 ((s 1 rfl).trans rfl) rfl (nO rfl rfl Z)) (opsS_cons (fun f w_ _ _ _ _ p Z=>ldB 1 Z Tryz.isAgg3 (p 4 7 rfl rfl) rfl rfl (nO rfl rfl Z)) (opsS_nil))
 have Z : Star H17 w_ ([box g7 37 #[S0,I 0],box g5 37 #[v0_0,I c.bound],oF 58 rTerm (f 6) x12]):=Z
 refine L_bld rfl (parts2 rfl (hT17 5 8 rfl rfl)) (bld_37_0_1 ((f 6)) (I c.bound) (one_len (Star.len 2 Z rfl)) rfl) (L_staB (vs:=#[(f 6),I c.bound]) (cs2:=#[(f 6),I c.bound]) 0 rfl Tryz.sizeOf37 ((hS17 2 rfl).trans rfl) rfl rfl (ones_cons (one_len (Star.len 2 Z rfl)) (ones_cons rfl ones_nil)) Z rfl (by show 0 + 2≤2; decide) rfl (fun w32 Z=>nn (W_ret (retG1 (v1:=.agg #[(f 6),I c.bound]) Tryz.results62 (resV_agg Tryz.isAgg37 Tryz.sizeOf37 ((hS17 2 rfl).trans rfl) (Star.blkAt 0 Z rfl) rfl) ?_))))
 obtain rfl:=so hF
 have Z:=Z.get 2 rfl
 exact ⟨(f 6),rfl,(Star.down (Star.keepN 1 Z) hE17 (co closed_term c0))⟩
theorem s_l1Mutate_c {r_ : Rd} {c : Con} {g_0 : Nat} {v0_0 : Value} {v1_0 : Value} {H : FH} {w : World} (Z : Star H w [box g_0 68 #[v0_0,I r_.p]]) (h0_0 : (rS 5 RP.u8).rel H [v0_0] r_.b) (h1_0 : (rS 58 rTerm).rel H [v1_0] c.terms) {r : Con × Int} (hF : s_l1Mutate r_ c = some r) :
 C Tryz.prog 50 #[Pt g_0,.agg #[v1_0,I c.bound]] w fun v w'=>∃ (u1 : Value),v = .agg #[u1,I r.1.bound]∧Star H w' [oF 58 rTerm u1 r.1.terms,box g_0 68 #[v0_0,I r.2]]:=by
 unfold s_l1Mutate at hF
 refine C_enter Tryz.func50 rfl Tryz.ntmps50 rfl (sq (L_box (v:=.agg #[v1_0,I c.bound]) (cs:=#[v1_0,I c.bound]) rfl rfl rfl Z (fun g5 w6 Z=>L_al (cs:=#[S0,I 0]) rfl Tryz.zeroValue37 rfl Z (fun g7 w8 Z=>nq ?_))))
 obtain ⟨x14,hx14,hF⟩:=bind_some hF
 refine W_region (L_lda (cs:=[v1_0,I c.bound]) rfl Tryz.isAgg37 Tryz.sizeOf37 rfl (At.sub0 (Blk.at (Star.blkAt 1 Z rfl)) 0 2) rfl ?_)
 obtain ⟨H20b,l21,s22,z23,k24⟩:=Z.borrow
 refine L_call rfl Tryz.call62 (ops1 rfl) (s_l1Copy_c (c:=c) s22 (RP.mono _ h1_0 l21) hx14) ?_
 rintro _ w25 ⟨r25_0,rfl,Z⟩
 have Z:=k24 Z (co closed_term c0)
 refine L_al (cs:=#[S0,I 0]) rfl Tryz.zeroValue37 rfl Z (fun g27 w28 Z=>L_staB (vs:=#[r25_0,I x14.bound]) (cs2:=#[r25_0,I x14.bound]) 0 rfl Tryz.sizeOf37 rfl rfl rfl (ones_cons (one_len (Star.len 1 Z rfl)) (ones_cons rfl ones_nil)) Z rfl (by show 0 + 2≤2; decide) rfl (fun w29 Z=>ns (fA 0 fa_37_0 rfl rfl (ldB 0 Z Tryz.isAgg35 rfl rfl rfl (L_len rfl Tryz.underlying35 rfl (Star.len 1 Z rfl) (aI rfl (nq (W_seq ?_))))))))
 obtain ⟨x35,hx35,hF⟩:=bind_some hF
 refine W_region (mV (Pt g_0) rfl ?_)
 have Z:=Z.get 4 rfl
 obtain ⟨H37b,l38,s39,z40,k41⟩:=Z.lend [_]
 refine L_call rfl Tryz.call43 (ops2 rfl rfl) (s_l17Rd_pick_c (r_:=r_) (n_:=40) s39 (RP.mono _ h0_0 l38) hx35) ?_
 rintro _ w42 ⟨rfl,Z⟩
 have Z:=k41 Z (cb c0)
 refine nn (W_block (sq (L_eql rfl rfl rfl (aB rfl (nn ?_)))))
 obtain ⟨⟨g_0_1_43,g27_0_44,g27_1_46⟩,hA49,hF⟩:=bind_some hF
 obtain ⟨R49,hR49⟩:=exR fun f w_=>∃ H47 : FH,∃ v44_g27_0 : Value,Le H H47∧f 4 = Pt g7∧f 5 = Pt g27∧Star H47 w_ ([box g_0 68 #[v0_0,I g_0_1_43],oF 58 rTerm v44_g27_0 g27_0_44,box g27 37 #[v44_g27_0,I g27_1_46],box g7 37 #[S0,I 0]])
 refine W_join R49 ?_ ?_
 refine W_cond (b:=(x35.1 == 0)) rfl (fun hc50=>?_) (fun hc50=>?_)
 have hA49:=(ite_t hc50).symm.trans hA49
 obtain ⟨x60,hx60,hA49⟩:=bind_some hA49
 refine W_region (mV (Pt g_0) rfl (L_bs rfl (parts3 rfl rfl rfl) (bs_71_3_0_0_0 (I (-1)) (I 20001) (I 9223372036854775807) rfl rfl rfl) Z (fun g63 w64 Z=>?_)))
 have Z:=litInts [(-1),20001,9223372036854775807] 3 Z rfl rfl (by decide)
 have Z:=Z.get 1 rfl
 obtain ⟨H66b,l67,s68,z69,k70⟩:=Z.lend [_]
 have hb71 : (rS 3 RP.int).rel H66b [(Sl g63 3 3)] ([(-1),20001,9223372036854775807]):=fz_own 0 z69 rfl
 refine L_call rfl Tryz.call45 (ops2 rfl rfl) (s_l17Rd_num_c (r_:=({ b:=r_.b,p:=x35.2 } : Rd)) (list:=[(-1),20001,9223372036854775807]) s68 (RP.mono _ h0_0 l67) hb71 hx60) ?_
 rintro _ w72 ⟨rfl,Z⟩
 have Z:=k70 Z (cb c0)
 refine fA 1 fa_37_1 rfl rfl (L_stB (v:=I x60.1) (cs2:=#[r25_0,I x60.1]) 2 rfl Tryz.sizeOf3 rfl rfl rfl Z rfl rfl rfl (fun w73 Z=>nn ?_))
 obtain ⟨rfl,rfl,rfl⟩:=so3 hA49
 have Z:=Z.gets [4,1,4,3] rfl
 exact rj hR49 ⟨H,r25_0,(Le.refl _),rfl,rfl,(Star.keepN 4 Z)⟩
 have hA49:=(ite_f hc50).symm.trans hA49
 refine sq (L_eql rfl rfl rfl (aB rfl (nn ?_)))
 obtain ⟨⟨g_0_1_74,g27_0_75⟩,hA79,hA49⟩:=bind_some hA49
 obtain ⟨R79,hR79⟩:=exR fun f w_=>∃ H77 : FH,∃ v75_g27_0 : Value,Le H H77∧f 4 = Pt g7∧f 5 = Pt g27∧Star H77 w_ ([box g_0 68 #[v0_0,I g_0_1_74],oF 58 rTerm v75_g27_0 g27_0_75,box g27 37 #[v75_g27_0,I x14.bound],box g7 37 #[S0,I 0]])
 refine W_join R79 ?_ ?_
 refine W_cond (b:=(x35.1 == 1)) rfl (fun hc80=>?_) (fun hc80=>?_)
 have hA79:=(ite_t hc80).symm.trans hA79
 refine sq (mI rfl (L_gtr rfl rfl rfl (nn ?_)))
 obtain ⟨⟨g_0_1_81,g27_0_82⟩,hA85,hA79⟩:=bind_some hA79
 obtain ⟨R85,hR85⟩:=exR fun f w_=>∃ H83 : FH,Le H H83∧f 4 = Pt g7∧f 5 = Pt g27∧Star H83 w_ ([box g_0 68 #[v0_0,I g_0_1_81],oF 58 rTerm r25_0 g27_0_82,box g27 37 #[r25_0,I x14.bound],box g7 37 #[S0,I 0]])
 refine W_join R85 ?_ ?_
 refine W_cond (b:=decide ((x14.terms.length : Int) > 0)) rfl (fun hc86=>?_) (fun hc86=>?_)
 have hA85:=(ite_t hc86).symm.trans hA85
 obtain ⟨x96,hx96,hA85⟩:=bind_some hA85
 obtain ⟨x98,hx98,hA85⟩:=bind_some hA85
 have Z:=Star.drop 4 Z rfl
 have Z:=Z.gets [3,3,3] rfl
 refine W_drawS 5 [isV (Pt g27),isV (r25_0),isV (Pt g_0),anyF,isV (I x96.1)] [box g27 37 #[r25_0,I x14.bound],oF 58 rTerm r25_0 x14.terms,box g7 37 #[S0,I 0]] [.base (box g_0 68 #[v0_0,I x35.2]) (some 4),.made 3 27 (fun v_=>oF 3 RP.int v_ ([0,(-1),1001])) none,.made 4 28 (fun v_=>box g_0 68 #[v0_0,I x96.2]) none] ([]) [([],[]),([],[]),([],[]),([],[1]),([0,1],[1,2])] (S:=[(none,[],some 4),(some 3,[27],none),(some 4,[28],none)]) Tryz_mix (by kernel_rfl) rfl (by kernel_rfl) (amF_cons (mono_V _) (amF_cons (mono_V _) (amF_cons (mono_V _) (amF_cons (mono_any) (amF_cons (mono_V _) amF_nil))))) Z ?_ (fun f w_ H102 hS102 hE102 hT102 Z=>?_)
 refine opsS_cons (fun f w_ _ _ s _ _ Z=>fA 0 fa_37_0 ((s 5 rfl).trans rfl) rfl (nO rfl rfl Z)) (opsS_cons (fun f w_ _ _ _ _ p Z=>ldB 0 Z Tryz.isAgg35 (p 0 24 rfl rfl) rfl rfl (nO rfl rfl Z)) (opsS_cons (fun f w_ _ _ s _ _ Z=>mF ((s 0 rfl).trans rfl) rfl (nO rfl rfl Z)) (opsS_cons ?_ ?_)))
 intro f w_ H102 X102 hS102 hE102 hP102 Z
 refine L_bs rfl (parts3 rfl rfl rfl) (bs_71_3_0_0_0 (I 0) (I (-1)) (I 1001) rfl rfl rfl) Z (fun g113 w114 Z=>?_)
 have Z:=litInts [0,(-1),1001] 3 Z rfl rfl (by decide)
 have Z:=Z.gets [3,3,3] rfl
 exact L_nil ⟨rfl,_,_,rfl,Le.refl _,fun _ _=>trivial,Z⟩
 refine opsS_cons ?_ ?_
 intro f w_ H102 X102 hS102 hE102 hP102 Z
 have Z : Star H102 w_ (box g27 37 #[r25_0,I x14.bound] :: oF 58 rTerm r25_0 x14.terms :: box g7 37 #[S0,I 0] :: box g_0 68 #[v0_0,I x35.2] :: oF 3 RP.int (f 27) ([0,(-1),1001]) :: X102):=Z
 have Z:=Z.get 3 rfl
 obtain ⟨H117b,l118,s119,z120,k121⟩:=Z.lend [_]
 have hb122 : (rS 3 RP.int).rel H117b [(f 27)] ([0,(-1),1001]):=fz_own 3 z120 rfl
 refine L_call rfl Tryz.call45 (ops2 (hP102 2 26 rfl rfl) rfl) (s_l17Rd_num_c (r_:=({ b:=r_.b,p:=x35.2 } : Rd)) (list:=[0,(-1),1001]) s119 (RP.mono _ h0_0 (Le.trans hE102 l118)) hb122 hx96) ?_
 rintro _ w123 ⟨rfl,Z⟩
 have Z:=k121 Z (cb c0)
 have Z:=Z.gets [4,4,4,4] rfl
 exact L_nil ⟨rfl,_,_,rfl,Le.refl _,fun _ _=>rfl,Z⟩
 exact opsS_nil
 have Z : Star H102 w_ ([box g27 37 #[r25_0,I x14.bound],oF 58 rTerm r25_0 x14.terms,box g7 37 #[S0,I 0],oF 3 RP.int (f 27) ([0,(-1),1001]),box g_0 68 #[v0_0,I x96.2]]):=Z
 obtain ⟨g124,cap_g124,hv125,_,_⟩:=Star.row 1 Z rfl hx98
 refine L_ixO (R:=(OR.frz rTerm)) (tb:=0) 0 rfl Tryz.underlying35 Tryz.sizeOf58 (hT102 1 25 rfl rfl) hv125 (by first | rfl | simp) rfl hx98 (fA (Int.toNat 0 * 2 + 0) fa_58_0 rfl rfl ?_)
 have Z:=Z.get 1 rfl
 refine L_stF (j:=0) (u:=I x96.1) (z:={ x98 with coef:=x96.1 }) rfl Tryz.sizeOf3 rfl rfl (hT102 4 28 rfl rfl) rfl hv125 Z hx98 fldF_rTerm_0 (fun w126 Z=>nn ?_)
 obtain ⟨rfl,rfl⟩:=so2 hA85
 have Z:=Z.gets [2,2,2,4] rfl
 exact rj hR85 ⟨H102,hE102,((hS102 4 rfl).trans rfl),((hS102 5 rfl).trans rfl),(Star.keepN 4 Z)⟩
 have hA85:=(ite_f hc86).symm.trans hA85
 refine W_skip ?_
 obtain ⟨rfl,rfl⟩:=so2 hA85
 have Z:=Z.gets [3,2,3,3] rfl
 exact rj hR85 ⟨H,(Le.refl _),rfl,rfl,(Star.keepN 4 Z)⟩
 intro f w_ hR
 obtain ⟨H83,l84,sf4,sf5,Z⟩:=rk hR85 hR
 obtain ⟨rfl,rfl⟩:=so2 hA79
 exact rj hR79 ⟨H83,r25_0,l84,sf4,sf5,Z⟩
 have hA79:=(ite_f hc80).symm.trans hA79
 refine sq (L_eql rfl rfl rfl (aB rfl (nn ?_)))
 obtain ⟨⟨g_0_1_127,g27_0_128⟩,hA132,hA79⟩:=bind_some hA79
 obtain ⟨R132,hR132⟩:=exR fun f w_=>∃ H130 : FH,∃ v128_g27_0 : Value,Le H H130∧f 4 = Pt g7∧f 5 = Pt g27∧Star H130 w_ ([box g_0 68 #[v0_0,I g_0_1_127],oF 58 rTerm v128_g27_0 g27_0_128,box g27 37 #[v128_g27_0,I x14.bound],box g7 37 #[S0,I 0]])
 refine W_join R132 ?_ ?_
 refine W_cond (b:=(x35.1 == 2)) rfl (fun hc133=>?_) (fun hc133=>?_)
 have hA132:=(ite_t hc133).symm.trans hA132
 refine sq (mI rfl (L_gtr rfl rfl rfl (nn ?_)))
 obtain ⟨⟨g_0_1_134,g27_0_135⟩,hA138,hA132⟩:=bind_some hA132
 obtain ⟨R138,hR138⟩:=exR fun f w_=>∃ H136 : FH,Le H H136∧f 4 = Pt g7∧f 5 = Pt g27∧Star H136 w_ ([box g_0 68 #[v0_0,I g_0_1_134],oF 58 rTerm r25_0 g27_0_135,box g27 37 #[r25_0,I x14.bound],box g7 37 #[S0,I 0]])
 refine W_join R138 ?_ ?_
 refine W_cond (b:=decide ((x14.terms.length : Int) > 0)) rfl (fun hc139=>?_) (fun hc139=>?_)
 have hA138:=(ite_t hc139).symm.trans hA138
 obtain ⟨x149,hx149,hA138⟩:=bind_some hA138
 obtain ⟨x151,hx151,hA138⟩:=bind_some hA138
 have Z:=Star.drop 4 Z rfl
 have Z:=Z.gets [3,3,3] rfl
 refine W_drawS 7 [isV (Pt g27),isV (r25_0),isV (I (x14.terms.length : Int)),isV (I (i64 ((x14.terms.length : Int) - 1))),isV (Pt g_0),anyF,isV (I x149.1)] [box g27 37 #[r25_0,I x14.bound],oF 58 rTerm r25_0 x14.terms,box g7 37 #[S0,I 0]] [.base (box g_0 68 #[v0_0,I x35.2]) (some 6),.made 5 40 (fun v_=>oF 3 RP.int v_ ([0,13,(-13),1,(-9223372036854775808)])) none,.made 6 41 (fun v_=>box g_0 68 #[v0_0,I x149.2]) none] ([]) [([],[]),([],[]),([],[]),([],[]),([],[]),([],[1]),([0,1],[1,2])] (S:=[(none,[],some 6),(some 5,[40],none),(some 6,[41],none)]) Tryz_mix (by kernel_rfl) rfl (by kernel_rfl) (amF_cons (mono_V _) (amF_cons (mono_V _) (amF_cons (mono_V _) (amF_cons (mono_V _) (amF_cons (mono_V _) (amF_cons (mono_any) (amF_cons (mono_V _) amF_nil))))))) Z ?_ (fun f w_ H155 hS155 hE155 hT155 Z=>?_)
 refine opsS_cons (fun f w_ _ _ s _ _ Z=>fA 0 fa_37_0 ((s 5 rfl).trans rfl) rfl (nO rfl rfl Z)) (opsS_cons (fun f w_ _ _ _ _ p Z=>ldB 0 Z Tryz.isAgg35 (p 0 35 rfl rfl) rfl rfl (nO rfl rfl Z)) (opsS_cons (fun f w_ _ _ s _ _ Z=>mF ((s 6 rfl).trans rfl) rfl (nO rfl rfl Z)) (opsS_cons (fun f w_ _ _ _ _ p Z=>L_sub rfl (p 2 37 rfl rfl) rfl (nO rfl rfl Z)) (opsS_cons (fun f w_ _ _ s _ _ Z=>mF ((s 0 rfl).trans rfl) rfl (nO rfl rfl Z)) (opsS_cons ?_ ?_)))))
 intro f w_ H155 X155 hS155 hE155 hP155 Z
 refine L_bs rfl (parts5 rfl rfl rfl rfl rfl) (bs_71_5_0_0_0_0_0 (I 0) (I 13) (I (-13)) (I 1) (I (-9223372036854775808)) rfl rfl rfl rfl rfl) Z (fun g166 w167 Z=>?_)
 have Z:=litInts [0,13,(-13),1,(-9223372036854775808)] 5 Z rfl rfl (by decide)
 have Z:=Z.gets [3,3,3] rfl
 exact L_nil ⟨rfl,_,_,rfl,Le.refl _,fun _ _=>trivial,Z⟩
 refine opsS_cons ?_ ?_
 intro f w_ H155 X155 hS155 hE155 hP155 Z
 have Z : Star H155 w_ (box g27 37 #[r25_0,I x14.bound] :: oF 58 rTerm r25_0 x14.terms :: box g7 37 #[S0,I 0] :: box g_0 68 #[v0_0,I x35.2] :: oF 3 RP.int (f 40) ([0,13,(-13),1,(-9223372036854775808)]) :: X155):=Z
 have Z:=Z.get 3 rfl
 obtain ⟨H170b,l171,s172,z173,k174⟩:=Z.lend [_]
 have hb175 : (rS 3 RP.int).rel H170b [(f 40)] ([0,13,(-13),1,(-9223372036854775808)]):=fz_own 3 z173 rfl
 refine L_call rfl Tryz.call45 (ops2 (hP155 4 39 rfl rfl) rfl) (s_l17Rd_num_c (r_:=({ b:=r_.b,p:=x35.2 } : Rd)) (list:=[0,13,(-13),1,(-9223372036854775808)]) s172 (RP.mono _ h0_0 (Le.trans hE155 l171)) hb175 hx149) ?_
 rintro _ w176 ⟨rfl,Z⟩
 have Z:=k174 Z (cb c0)
 have Z:=Z.gets [4,4,4,4] rfl
 exact L_nil ⟨rfl,_,_,rfl,Le.refl _,fun _ _=>rfl,Z⟩
 exact opsS_nil
 have Z : Star H155 w_ ([box g27 37 #[r25_0,I x14.bound],oF 58 rTerm r25_0 x14.terms,box g7 37 #[S0,I 0],oF 3 RP.int (f 40) ([0,13,(-13),1,(-9223372036854775808)]),box g_0 68 #[v0_0,I x149.2]]):=Z
 obtain ⟨g177,cap_g177,hv178,_,_⟩:=Star.row 1 Z rfl hx151
 refine L_ixO (R:=(OR.frz rTerm)) (tb:=0) 0 rfl Tryz.underlying35 Tryz.sizeOf58 (hT155 1 36 rfl rfl) hv178 (by first | rfl | simp) (hT155 3 38 rfl rfl) hx151 (fA (Int.toNat (i64 ((x14.terms.length : Int) - 1)) * 2 + 1) fa_58_1 rfl rfl ?_)
 have Z:=Z.get 1 rfl
 refine L_stF (j:=1) (u:=I x149.1) (z:={ x151 with lit:=x149.1 }) rfl Tryz.sizeOf3 rfl rfl (hT155 6 41 rfl rfl) rfl hv178 Z hx151 fldF_rTerm_1 (fun w179 Z=>nn ?_)
 obtain ⟨rfl,rfl⟩:=so2 hA138
 have Z:=Z.gets [2,2,2,4] rfl
 exact rj hR138 ⟨H155,hE155,((hS155 4 rfl).trans rfl),((hS155 5 rfl).trans rfl),(Star.keepN 4 Z)⟩
 have hA138:=(ite_f hc139).symm.trans hA138
 refine W_skip ?_
 obtain ⟨rfl,rfl⟩:=so2 hA138
 have Z:=Z.gets [3,2,3,3] rfl
 exact rj hR138 ⟨H,(Le.refl _),rfl,rfl,(Star.keepN 4 Z)⟩
 intro f w_ hR
 obtain ⟨H136,l137,sf4,sf5,Z⟩:=rk hR138 hR
 obtain ⟨rfl,rfl⟩:=so2 hA132
 exact rj hR132 ⟨H136,r25_0,l137,sf4,sf5,Z⟩
 have hA132:=(ite_f hc133).symm.trans hA132
 refine sq (L_eql rfl rfl rfl (aB rfl (nn ?_)))
 obtain ⟨g27_0_180,hA182,hA132⟩:=bind_some hA132
 obtain ⟨R182,hR182⟩:=exR fun f w_=>∃ v180_g27_0 : Value,f 4 = Pt g7∧f 5 = Pt g27∧Star H w_ ([box g_0 68 #[v0_0,I x35.2],oF 58 rTerm v180_g27_0 g27_0_180,box g27 37 #[v180_g27_0,I x14.bound],box g7 37 #[S0,I 0]])
 refine W_join R182 ?_ ?_
 refine W_cond (b:=(x35.1 == 3)) rfl (fun hc183=>?_) (fun hc183=>?_)
 have hA182:=(ite_t hc183).symm.trans hA182
 obtain ⟨x187,hx187,hA182⟩:=bind_some hA182
 refine W_region (fA 0 fa_37_0 rfl rfl (ldB 1 Z Tryz.isAgg35 rfl rfl rfl (L_bld rfl (parts2 rfl rfl) (bld_58_0_1 (I 1) (I 1) rfl rfl) (L_bs rfl (parts1 rfl) (bs_35_1_2 (I 1) (I 1) ) Z (fun g192 w193 Z=>?_)))))
 have Z:=Star.addF (r:=rTerm) (cs:=[I 1,I 1]) (x:=({ coef:=1,lit:=1 } : Term)) Z (rTerm_iff.2 rfl)
 have Z:=Star.mkRow (R:=(OR.frz rTerm)) [([I 1,I 1],({ coef:=1,lit:=1 } : Term))] [({ coef:=1,lit:=1 } : Term)] 1 Z rfl rfl rfl (by decide)
 have Z:=Z.get 3 rfl
 refine L_appM (v:=r25_0) (u:=(Sl g192 1 1)) rfl et_35 rfl rfl Z hx187 (fun v195 w196 Z=>fA 0 fa_37_0 rfl rfl (L_stB (v:=v195) (cs2:=#[v195,I x14.bound]) 2 rfl Tryz.sizeOf35 rfl rfl (one_len (Star.len 0 Z rfl)) Z rfl rfl rfl (fun w198 Z=>nn ?_)))
 obtain rfl:=so hA182
 have Z:=Z.gets [3,1,2,3] rfl
 exact rj hR182 ⟨v195,rfl,rfl,(Star.keepN 4 Z)⟩
 have hA182:=(ite_f hc183).symm.trans hA182
 refine W_skip ?_
 obtain rfl:=so hA182
 have Z:=Z.gets [3,2,3,3] rfl
 exact rj hR182 ⟨r25_0,rfl,rfl,(Star.keepN 4 Z)⟩
 intro f w_ hR
 obtain ⟨v180_g27_0,sf4,sf5,Z⟩:=rk hR182 hR
 obtain ⟨rfl,rfl⟩:=so2 hA132
 exact rj hR132 ⟨H,v180_g27_0,(Le.refl _),sf4,sf5,Z⟩
 intro f w_ hR
 obtain ⟨H130,v128_g27_0,l131,sf4,sf5,Z⟩:=rk hR132 hR
 obtain ⟨rfl,rfl⟩:=so2 hA79
 exact rj hR79 ⟨H130,v128_g27_0,l131,sf4,sf5,Z⟩
 intro f w_ hR
 obtain ⟨H77,v75_g27_0,l78,sf4,sf5,Z⟩:=rk hR79 hR
 obtain ⟨rfl,rfl,rfl⟩:=so3 hA49
 exact rj hR49 ⟨H77,v75_g27_0,l78,sf4,sf5,Z⟩
 intro f w_ hR
 obtain ⟨H47,v44_g27_0,l48,sf4,sf5,Z⟩:=rk hR49 hR
 refine sq (L_lda (cs:=[v44_g27_0,I g27_1_46]) rfl Tryz.isAgg37 Tryz.sizeOf37 sf5 (At.sub0 (Blk.at (Star.blkAt 2 Z rfl)) 0 2) rfl (L_staB (vs:=#[v44_g27_0,I g27_1_46]) (cs2:=#[v44_g27_0,I g27_1_46]) 3 rfl Tryz.sizeOf37 sf4 rfl rfl (ones_cons (one_len (Star.len 1 Z rfl)) (ones_cons rfl ones_nil)) Z rfl (by show 0 + 2≤2; decide) rfl (fun w200 Z=>nn (W_ret (retG1 (v1:=.agg #[v44_g27_0,I g27_1_46]) Tryz.results50 (resV_agg Tryz.isAgg37 Tryz.sizeOf37 sf4 (Star.blkAt 0 Z rfl) rfl) ?_)))))
 obtain rfl:=so hF
 have Z:=Z.gets [1,2] rfl
 exact ⟨v44_g27_0,rfl,(Star.down (Star.keepN 2 Z) l48 (co closed_term (cb c0)))⟩
theorem s_l3Mutate_c {r_ : Rd} {list : List Con} {g_0 : Nat} {v0_0 : Value} {v1 : Value} {H : FH} {w : World} {R : List Ass} (Z : Star H w (box g_0 68 #[v0_0,I r_.p] :: R)) (h0_0 : (rS 5 RP.u8).rel H [v0_0] r_.b) (h1 : (rS 37 (rCon 58)).rel H [v1] list) {r : (List Con) × Int} (hF : s_l3Mutate r_ list = some r) :
 C Tryz.prog 28 #[Pt g_0,v1] w fun v w'=>∃ H' : FH,Le H H'∧∃ (u1 : Value),v = u1∧Star H' w' (oF 37 (rCon 58) u1 r.1 :: box g_0 68 #[v0_0,I r.2] :: R):=by
 unfold s_l3Mutate at hF
 refine C_enter Tryz.func28 rfl Tryz.ntmps28 rfl (sq (aV S0 rfl (nq ?_)))
 obtain ⟨x4,hx4,hF⟩:=bind_some hF
 refine W_region (L_bs rfl parts0 (bs_23_0  ) Z (fun g8 w9 Z=>?_))
 have Z:=Star.mkRow (R:=(OR.frz (rCon 58))) [] [] 0 Z rfl rfl rfl (by decide)
 refine mV v1 rfl (L_app (v:=(Sl g8 0 0)) (u:=v1) rfl et_23 rfl rfl Z h1 hx4 (fun v11 w12 Z=>aV v11 rfl (nq (W_seq ?_))))
 obtain ⟨b21,hb21,hF⟩:=bind_some hF
 obtain ⟨R22,hR22⟩:=exR fun f w_=>f 0 = Pt g_0∧f 5 = v11∧f 17 = Bo b21.1∧Star H w_ (oF 37 (rCon 58) v11 x4 :: box g_0 68 #[v0_0,I b21.2] :: R)
 refine W_join R22 ?_ ?_
 refine W_region (mV v11 rfl (L_len rfl Tryz.underlying23 rfl (Star.len 0 Z rfl) (L_gtr rfl rfl rfl (mB rfl (L_split (d:=13) (b:=decide ((x4.length : Int) > 0)) rfl (fun hc23=>?_) (fun hc23=>?_))))))
 rw [ite_t hc23] at hb21
 obtain ⟨x19,hx19,hb21⟩:=bind_some hb21
 refine mV (Pt g_0) rfl ?_
 have Z:=Z.get 1 rfl
 obtain ⟨H24b,l25,s26,z27,k28⟩:=Z.lend [_]
 refine L_call rfl Tryz.call43 (ops2 rfl rfl) (s_l17Rd_pick_c (r_:=r_) (n_:=20) s26 (RP.mono _ h0_0 l25) hx19) ?_
 rintro _ w29 ⟨rfl,Z⟩
 have Z:=k28 Z (cb c0)
 refine L_eql rfl rfl rfl (L_pick (v:=Bo b21.1) rfl rfl (congrArg (fun z : Bool × Int=>Value.bool z.1) (so hb21)) ?_)
 have Z : Star H w29 (box g_0 68 #[v0_0,I b21.2] :: oF 37 (rCon 58) v11 x4 :: R):=by rw [← so hb21]; exact Z
 refine nn ?_
 have Z:=Z.get 1 rfl
 exact rj hR22 ⟨rfl,rfl,rfl,Z⟩
 rw [ite_f hc23] at hb21
 refine ps rfl (ps rfl (ps rfl (L_pick (v:=Bo b21.1) rfl rfl (congrArg (fun z : Bool × Int=>Value.bool z.1) (so hb21)) ?_)))
 have Z:=Z.get 1 rfl
 have Z : Star H w12 (box g_0 68 #[v0_0,I b21.2] :: oF 37 (rCon 58) v11 x4 :: R):=by rw [← so hb21]; exact Z
 refine nn ?_
 have Z:=Z.get 1 rfl
 exact rj hR22 ⟨rfl,rfl,rfl,Z⟩
 intro f w_ hR
 obtain ⟨sf0,sf5,sf17,Z⟩:=rk hR22 hR
 obtain ⟨⟨out_30,g_0_1_31⟩,hA34,hF⟩:=bind_some hF
 obtain ⟨R34,hR34⟩:=exR fun f w_=>∃ H32 : FH,Le H H32∧f 5 = v11∧Star H32 w_ (oF 37 (rCon 58) v11 out_30 :: box g_0 68 #[v0_0,I g_0_1_31] :: R)
 refine W_join R34 ?_ ?_
 refine W_cond (b:=b21.1) sf17 (fun hc35=>?_) (fun hc35=>?_)
 have hA34:=(ite_t hc35).symm.trans hA34
 refine W_seq ?_
 obtain ⟨x41,hx41,hA34⟩:=bind_some hA34
 refine W_region (mF sf0 rfl (mF sf5 rfl (L_len rfl Tryz.underlying23 rfl (Star.len 0 Z rfl) ?_)))
 have Z:=Z.get 1 rfl
 obtain ⟨H43b,l44,s45,z46,k47⟩:=Z.lend [_]
 refine L_call rfl Tryz.call43 (ops2 rfl rfl) (s_l17Rd_pick_c (r_:=({ b:=r_.b,p:=b21.2 } : Rd)) (n_:=(x4.length : Int)) s45 (RP.mono _ h0_0 l44) hx41) ?_
 rintro _ w48 ⟨rfl,Z⟩
 have Z:=k47 Z (cb c0)
 refine aI rfl (nn ?_)
 obtain ⟨x49,hx49,hA34⟩:=bind_some hA34
 obtain ⟨x59,hx59,hA34⟩:=bind_some hA34
 obtain ⟨x68,hx68,hA34⟩:=bind_some hA34
 obtain ⟨x77,hx77,hA34⟩:=bind_some hA34
 refine W_region (mF sf5 rfl (mI rfl (mF sf0 rfl (mF sf0 rfl (mF sf0 rfl (mF sf5 rfl (mI rfl ?_)))))))
 obtain ⟨g84,cap_g84,hv85,_,_⟩:=Star.row 1 Z rfl hx49
 refine L_ixO (R:=(OR.frz (rCon 58))) (tb:=0) 0 rfl Tryz.underlying23 Tryz.sizeOf37 rfl hv85 (by first | rfl | simp) rfl hx49 ?_
 obtain ⟨cs86,hr86,hat86⟩:=Star.eltF 1 Z rfl hv85 hx49
 obtain ⟨u87_0,rfl,hu87_0⟩:=rCon_iff.1 hr86
 refine L_lda (cs:=[u87_0,I x49.bound]) rfl Tryz.isAgg37 Tryz.sizeOf37 rfl (At.sub hat86 0 2) rfl ?_
 obtain ⟨H88b,l89,s90,z91,k92⟩:=Z.lend [_]
 refine L_call rfl Tryz.call50 (ops2 rfl rfl) (s_l1Mutate_c (r_:=({ b:=r_.b,p:=x41.2 } : Rd)) (c:=x49) s90 (RP.mono _ h0_0 l89) (RP.mono _ hu87_0 l89) hx59) ?_
 rintro _ w93 ⟨r93_0,rfl,Z⟩
 have Z:=k92 Z (co closed_term (cb c0))
 have Z:=Z.get 1 rfl
 obtain ⟨H95b,l96,s97,z98,k99⟩:=Z.lend [_]
 have hb100 : (rS 58 rTerm).rel H95b [r93_0] x59.1.terms:=fz_own 0 z98 rfl
 refine L_call rfl Tryz.call50 (ops2 rfl rfl) (s_l1Mutate_c (r_:=({ b:=r_.b,p:=x59.2 } : Rd)) (c:=x59.1) s97 (RP.mono _ h0_0 l96) hb100 hx68) ?_
 rintro _ w101 ⟨r101_0,rfl,Z⟩
 have Z:=k99 Z (co closed_term (cb c0))
 have Z:=Z.get 1 rfl
 obtain ⟨H103b,l104,s105,z106,k107⟩:=Z.lend [_]
 have hb108 : (rS 58 rTerm).rel H103b [r101_0] x68.1.terms:=fz_own 0 z106 rfl
 refine L_call rfl Tryz.call50 (ops2 rfl rfl) (s_l1Mutate_c (r_:=({ b:=r_.b,p:=x68.2 } : Rd)) (c:=x68.1) s105 (RP.mono _ h0_0 l104) hb108 hx77) ?_
 rintro _ w109 ⟨r109_0,rfl,Z⟩
 have Z:=k107 Z (co closed_term (cb c0))
 refine L_ixO (R:=(OR.frz (rCon 58))) (tb:=0) 0 rfl Tryz.underlying23 Tryz.sizeOf37 rfl hv85 (by first | rfl | simp) rfl hx49 ?_
 obtain ⟨H112,l113,Z,hz114⟩:=Star.freeze Z
 have hz114 : (rS 58 rTerm).rel H112 [r109_0] x77.1.terms:=hz114
 have Z:=Star.addF (r:=(rCon 58)) (cs:=[r109_0,I x77.1.bound]) (x:=x77.1) Z (rCon_iff.2 ⟨_,rfl,hz114⟩)
 have Z:=Z.gets [4,1] rfl
 refine L_stE (vs:=#[r109_0,I x77.1.bound]) rfl Tryz.sizeOf37 rfl rfl rfl hv85 Z hx49 (fun w111 Z=>nn ?_)
 obtain ⟨rfl,rfl⟩:=so2 hA34
 have Z:=Star.drop 2 Z rfl
 have Z:=Star.drop 2 Z rfl
 exact rj hR34 ⟨H112,l113,sf5,Z⟩
 have hA34:=(ite_f hc35).symm.trans hA34
 refine W_skip ?_
 obtain ⟨rfl,rfl⟩:=so2 hA34
 exact rj hR34 ⟨H,(Le.refl _),sf5,Z⟩
 intro f w_ hR
 obtain ⟨H32,l33,sf5,Z⟩:=rk hR34 hR
 refine sq (mF sf5 rfl (aV v11 rfl (nn (W_ret (retG1 (v1:=v11) Tryz.results28 rfl ?_)))))
 obtain rfl:=so hF
 exact ⟨H32,l33,v11,rfl,Z⟩
theorem s_DrawProblemValid_c {fu : Nat} {code : List UInt8} {v0 : Value} {H : FH} {w : World} {R : List Ass} (Z : Star H w R) (h0 : (rS 5 RP.u8).rel H [v0] code) {r : List Con} (hF : s_DrawProblemValid fu code = some r) :
 C Tryz.prog 13 #[v0] w fun v w'=>∃ H' : FH,Le H H'∧∃ (u1 : Value),v = u1∧Star H' w' (oF 37 (rCon 58) u1 r :: R):=by
 unfold s_DrawProblemValid at hF
 refine C_enter Tryz.func13 rfl Tryz.ntmps13 rfl (sq (aV S0 rfl (nq ?_)))
 obtain ⟨x1,hx1,hF⟩:=bind_some hF
 refine W_region (mV v0 rfl (L_call rfl Tryz.call23 (ops1 rfl) (s_l17Open_c (code:=code) Z h0 hx1) ?_))
 rintro _ w3 ⟨H3,l3,r3_0,r3_1,rfl,hr3_1,Z⟩
 refine aV (Pt r3_0) rfl (nq ?_)
 obtain ⟨x9,hx9,hF⟩:=bind_some hF
 obtain ⟨x15,hx15,hF⟩:=bind_some hF
 obtain ⟨x21,hx21,hF⟩:=bind_some hF
 refine W_region (mV (Pt r3_0) rfl (mV (Pt r3_0) rfl (mV (Pt r3_0) rfl ?_)))
 obtain ⟨H24b,l25,s26,z27,k28⟩:=Z.lend [_]
 refine L_call rfl Tryz.call25 (ops1 rfl) (s_l3Problem_c (r_:=x1) s26 (RP.mono _ hr3_1 l25) hx9) ?_
 rintro r29_0 w29 ⟨_,rfl,Z⟩
 have Z:=k28 Z (co closed_oCon (cb c0))
 obtain ⟨H31,l32,Z,hz33⟩:=Star.freeze Z
 have hz33 : (rS 37 (rCon 58)).rel H31 [r29_0] x9.1:=hz33
 refine L_call rfl Tryz.call28 (ops2 rfl rfl) (s_l3Mutate_c (r_:=({ b:=x1.b,p:=x9.2 } : Rd)) (list:=x9.1) Z (RP.mono _ hr3_1 l32) hz33 hx15) ?_
 rintro r34_0 w34 ⟨H34,l34,_,rfl,Z⟩
 obtain ⟨H36,l37,Z,hz38⟩:=Star.freeze Z
 have hz38 : (rS 37 (rCon 58)).rel H36 [r34_0] x15.1:=hz38
 refine L_call rfl Tryz.call28 (ops2 rfl rfl) (s_l3Mutate_c (r_:=({ b:=x1.b,p:=x15.2 } : Rd)) (list:=x15.1) Z (RP.mono _ hr3_1 (Le.trans (Le.trans l32 l34) l37)) hz38 hx21) ?_
 rintro r39_0 w39 ⟨H39,l39,_,rfl,Z⟩
 refine aV r39_0 rfl (nn (W_ret (retG1 (v1:=r39_0) Tryz.results13 rfl ?_)))
 obtain rfl:=so hF
 have Z:=Star.drop 1 Z rfl
 exact ⟨H39,(Le.trans (Le.trans (Le.trans (Le.trans l3 l32) l34) l37) l39),r39_0,rfl,Z⟩
theorem s_DrawFormatProblem_c {fu : Nat} {code : List UInt8} {v0 : Value} {H : FH} {w : World} {R : List Ass} (Z : Star H w R) (h0 : (rS 5 RP.u8).rel H [v0] code) {r : List Con} (hF : s_DrawFormatProblem fu code = some r) :
 C Tryz.prog 4 #[v0] w fun v w'=>∃ H' : FH,Le H H'∧∃ (u1 : Value),v = u1∧Star H' w' (oF 37 (rCon 58) u1 r :: R):=by
 unfold s_DrawFormatProblem at hF
 refine C_enter Tryz.func4 rfl Tryz.ntmps4 rfl (sq (aV S0 rfl (nq ?_)))
 obtain ⟨x1,hx1,hF⟩:=bind_some hF
 refine W_region (mV v0 rfl (L_call rfl Tryz.call13 (ops1 rfl) (s_DrawProblemValid_c (code:=code) Z h0 hx1) ?_))
 rintro r4_0 w4 ⟨H4,l4,_,rfl,Z⟩
 refine aV r4_0 rfl (nn (W_ret (retG1 (v1:=r4_0) Tryz.results4 rfl ?_)))
 obtain rfl:=so hF
 exact ⟨H4,l4,r4_0,rfl,Z⟩
theorem slices_IndexFunc_implConstraint_c {s : List Con} {f_ : (Con→Option Bool)} {v0 : Value} {v1 : Value} {H : FH} {w : World} (Z : Star H w []) (h0 : (rS 37 (rCon 58)).rel H [v0] s) (h1 : Fun1 Tryz.prog (rCon 58) true Value.bool f_ v1 H) {r : Int} (hF : slices_IndexFunc_implConstraint s f_ = some r) :
 C Tryz.prog 60 #[v0,v1] w fun v w'=>v = I r∧Star H w' []:=by
 unfold slices_IndexFunc_implConstraint at hF
 obtain ⟨fid_1,caps_1,rfl,hcall_1,hc_1⟩:=h1
 refine C_enter Tryz.func60 rfl Tryz.ntmps60 rfl (sq (aI rfl (nq (sq (mV v0 rfl (L_len rfl Tryz.underlying23 rfl (slice_len h0) (mI rfl (nn ?_))))))))
 have hlen2 : List.length s≤9223372036854775807:=len_le (slice_len h0)
 obtain ⟨j2,hL2,hF⟩:=bind_some hF
 obtain ⟨R2,hR2⟩:=exR fun f w_=>j2 = .nx ()∧Star H w_ ([])
 refine W_join R2 ?_ ?_
 refine W_block ?_
 obtain ⟨I2,hI2⟩:=exI fun n f w_=>∃ i_1 : Nat,∃ suf2 : List Con,n = suf2.length∧List.drop i_1 s = suf2∧i_1 + suf2.length = s.length∧rangeL (slices_IndexFunc_implConstraint_b1 f_) suf2 i_1 () = some j2∧f 0 = v0∧f 1 = .func (.func fid_1) #[] caps_1∧f 7 = I (s.length : Int)∧f 8 = I i_1∧Star H w_ ([])
 refine W_loop I2 (n:=s.length) ?_ ?_
 exact ij hI2 ⟨0,s,rfl,rfl,Nat.zero_add _,hL2,rfl,rfl,rfl,rfl,Z⟩
 intro n2 f w_ hI
 obtain ⟨i_1,suf2,rfl,hd2,hl2,hL2,sf0,sf1,sf7,sf8,Z⟩:=ik hI2 hI
 refine sq (L_lss rfl sf8 sf7 (nq (W_cond (b:=decide ((i_1 : Int) < (s.length : Int))) rfl (fun hc3=>?_) (fun hc3=>?_))))
 have hlt2:=of_decide_eq_true hc3
 rcases suf2 with _ | ⟨x_2,rest2⟩
 exact absurd hlt2 (by simp at hl2; omega)
 obtain ⟨o2,hB2,hL2⟩:=range_cons hL2
 rw [slices_IndexFunc_implConstraint_b1] at hB2
 have hix2:=drop_idx hd2
 refine W_skip (W_seq (W_block (sq (mF sf8 rfl (aI rfl (nq ?_))))))
 obtain ⟨x8,hx8,hB2⟩:=bind_some hB2
 refine W_region (mF sf1 rfl (mF sf0 rfl (mI rfl (L_ix (r:=(rCon 58)) rfl Tryz.underlying23 Tryz.sizeOf37 rfl h0 rfl hix2 (fun g15 o16 cs_g15 hrk_hat17 hat17=>?_)))))
 obtain ⟨u18_0,rfl,hu18_0⟩:=rCon_iff.1 hrk_hat17
 refine L_lda (cs:=[u18_0,I x_2.bound]) rfl Tryz.isAgg37 Tryz.sizeOf37 rfl (At.sub (AtH.at hat17 Z.sub) 0 2) rfl ?_
 obtain ⟨H19b,l20,s21,z22,k23⟩:=Z.borrow
 refine L_callv (args:=#[.agg #[u18_0,I x_2.bound]]) rfl hcall_1 rfl (ops1 rfl) (hc_1 _ _ l20 s21 [u18_0,I x_2.bound] _ _ _ (rCon_iff.2 ⟨_,rfl,(RP.mono _ hu18_0 l20)⟩) hx8 (args_app rfl)) ?_
 rintro _ w24 ⟨rfl,Z⟩
 have Z:=k23 Z c0
 refine nn (W_cond (b:=x8) rfl (fun hc25=>?_) (fun hc25=>?_))
 have hB2:=(ite_t hc25).symm.trans hB2
 refine sq (mI rfl (aI rfl (nn (W_ret (retG1 (v1:=I i_1) Tryz.results60 rfl ?_)))))
 obtain rfl:=so hB2
 obtain rfl:=so hL2
 obtain rfl:=so hF
 exact ⟨rfl,Z⟩
 have hB2:=(ite_f hc25).symm.trans hB2
 refine W_skip (W_region (L_add rfl sf8 rfl (mI rfl (nn ?_))))
 obtain rfl:=so hB2
 show ∃ m,m < _∧I2 m _ _
 refine ⟨rest2.length,by simp,?_⟩
 exact ij hI2 ⟨i_1 + 1,rest2,rfl,drop_next hd2,by simp at hl2; omega,hL2,sf0,sf1,sf7,(Eq.trans rfl (congrArg (Value.int .i64) (i64_succ (n:=s.length) (by simp at hl2; omega) hlen2))),Z⟩
 rcases suf2 with _ | ⟨_,_⟩
 obtain rfl:=range_nil hL2
 refine W_exit (rj hR2 ⟨rfl,Z⟩)
 exact absurd (of_decide_eq_false hc3) (by simp at hl2; omega)
 intro f w_ hR
 obtain ⟨rfl,Z⟩:=rk hR2 hR
 refine sq (aI rfl (nn (W_ret (retG1 (v1:=I (-1)) Tryz.results60 rfl ?_))))
 obtain rfl:=so hF
 exact ⟨rfl,Z⟩
theorem slices_ContainsFunc_implConstraint_c {s : List Con} {f_ : (Con→Option Bool)} {v0 : Value} {v1 : Value} {H : FH} {w : World} (Z : Star H w []) (h0 : (rS 37 (rCon 58)).rel H [v0] s) (h1 : Fun1 Tryz.prog (rCon 58) true Value.bool f_ v1 H) {r : Bool} (hF : slices_ContainsFunc_implConstraint s f_ = some r) :
 C Tryz.prog 38 #[v0,v1] w fun v w'=>v = Bo r∧Star H w' []:=by
 unfold slices_ContainsFunc_implConstraint at hF
 obtain ⟨fid_1,caps_1,rfl,hcall_1,hc_1⟩:=h1
 refine C_enter Tryz.func38 rfl Tryz.ntmps38 rfl (sq (aB rfl (nq ?_)))
 obtain ⟨x6,hx6,hF⟩:=bind_some hF
 refine W_region (mV v0 rfl (mV (.func (.func fid_1) #[] caps_1) rfl ?_))
 obtain ⟨H8b,l9,s10,z11,k12⟩:=Z.borrow
 refine L_call rfl Tryz.call60 (ops2 rfl rfl) (slices_IndexFunc_implConstraint_c (s:=s) (f_:=f_) s10 (RP.mono _ h0 l9) (Fun1.le ⟨_,_,rfl,hcall_1,hc_1⟩ l9) hx6) ?_
 rintro _ w13 ⟨rfl,Z⟩
 have Z:=k12 Z c0
 refine L_geq rfl rfl rfl (aB rfl (nn (W_ret (retG1 (v1:=Bo (decide (x6 ≥ 0))) Tryz.results38 rfl ?_))))
 obtain rfl:=so hF
 exact ⟨rfl,Z⟩
theorem i_within_c {n_ : Int} {low : Int} {high : Int} {H : FH} {w : World} (Z : Star H w []) {r : Bool} (hF : i_within n_ low high = some r) :
 C Tryz.prog 59 #[I n_,I low,I high] w fun v w'=>v = Bo r∧Star H w' []:=by
 unfold i_within at hF
 refine C_enter Tryz.func59 rfl Tryz.ntmps59 rfl (sq (aB rfl (nq ?_)))
 obtain ⟨R1,hR1⟩:=exR fun f w_=>f 6 = Bo ((decide (low≤n_)) && (decide (n_≤high)))∧Star H w_ ([])
 refine W_join R1 ?_ ?_
 refine W_region (mI rfl (mI rfl (L_leq rfl rfl rfl (mB rfl (L_split (d:=10) (b:=decide (low≤n_)) rfl (fun hc2=>?_) (fun hc2=>?_))))))
 refine mI rfl (mI rfl (L_leq rfl rfl rfl (L_pick (v:=Bo ((decide (low≤n_)) && (decide (n_≤high)))) rfl rfl (and_t hc2 rfl) (aB rfl (nn (rj hR1 ⟨rfl,Z⟩))))))
 refine ps rfl (ps rfl (ps rfl (L_pick (v:=Bo ((decide (low≤n_)) && (decide (n_≤high)))) rfl rfl (and_f hc2) (aB rfl (nn (rj hR1 ⟨rfl,Z⟩))))))
 intro f w_ hR
 obtain ⟨sf6,Z⟩:=rk hR1 hR
 refine W_ret (retG1 (v1:=Bo ((decide (low≤n_)) && (decide (n_≤high)))) Tryz.results59 sf6 ?_)
 obtain rfl:=so hF
 exact ⟨rfl,Z⟩
theorem i_isLiteral_c {l : Int} {H : FH} {w : World} (Z : Star H w []) {r : Bool} (hF : i_isLiteral l = some r) :
 C Tryz.prog 57 #[I l] w fun v w'=>v = Bo r∧Star H w' []:=by
 unfold i_isLiteral at hF
 refine C_enter Tryz.func57 rfl Tryz.ntmps57 rfl (sq (aB rfl (nq ?_)))
 obtain ⟨b8,hb8,hF⟩:=bind_some hF
 obtain ⟨R9,hR9⟩:=exR fun f w_=>f 2 = Bo b8∧Star H w_ ([])
 refine W_join R9 ?_ ?_
 refine W_region (mI rfl (L_neq rfl rfl rfl (mB rfl (L_split (d:=5) (b:=(l != 0)) rfl (fun hc10=>?_) (fun hc10=>?_)))))
 rw [ite_t hc10] at hb8
 obtain ⟨x6,hx6,hb8⟩:=bind_some hb8
 refine mI rfl ?_
 obtain ⟨H11b,l12,s13,z14,k15⟩:=Z.borrow
 refine L_call rfl Tryz.call59 (ops3 rfl rfl rfl) (i_within_c (n_:=l) (low:=(-12)) (high:=12) s13 hx6) ?_
 rintro _ w16 ⟨rfl,Z⟩
 have Z:=k15 Z c0
 refine L_pick (v:=Bo b8) rfl rfl (congrArg Value.bool (so hb8)) (aB rfl (nn (rj hR9 ⟨rfl,Z⟩)))
 rw [ite_f hc10] at hb8
 refine ps rfl (ps rfl (L_pick (v:=Bo b8) rfl rfl (congrArg Value.bool (so hb8)) (aB rfl (nn (rj hR9 ⟨rfl,Z⟩)))))
 intro f w_ hR
 obtain ⟨sf2,Z⟩:=rk hR9 hR
 refine W_ret (retG1 (v1:=Bo b8) Tryz.results57 sf2 ?_)
 obtain rfl:=so hF
 exact ⟨rfl,Z⟩
theorem i_variableOf_c {l : Int} {H : FH} {w : World} (Z : Star H w []) {r : Int} (hF : i_variableOf l = some r) :
 C Tryz.prog 58 #[I l] w fun v w'=>v = I r∧Star H w' []:=by
 unfold i_variableOf at hF
 refine C_enter Tryz.func58 rfl Tryz.ntmps58 rfl (sq (aI rfl (ns (mI rfl (mI rfl (L_neg rfl rfl (L_max rfl rfl rfl (aI rfl (nn (W_ret (retG1 (v1:=I (max l (i64 (-l)))) Tryz.results58 rfl ?_)))))))))))
 obtain rfl:=so hF
 exact ⟨rfl,Z⟩
theorem i_ConstraintValid_c {c : Con} {v0_0 : Value} {H : FH} {w : World} (Z : Star H w []) (h0_0 : (rS 58 rTerm).rel H [v0_0] c.terms) {r : Bool} (hF : i_ConstraintValid c = some r) :
 C Tryz.prog 35 #[.agg #[v0_0,I c.bound]] w fun v w'=>v = Bo r∧Star H w' []:=by
 unfold i_ConstraintValid at hF
 refine C_enter Tryz.func35 rfl Tryz.ntmps35 rfl (sq (L_box (v:=.agg #[v0_0,I c.bound]) (cs:=#[v0_0,I c.bound]) rfl rfl rfl Z (fun g3 w4 Z=>aB rfl (ns (aI rfl (nq (sq (fA 0 fa_37_0 rfl rfl (ldB 0 Z Tryz.isAgg35 rfl rfl rfl (L_len rfl Tryz.underlying35 rfl (slice_len h0_0) (mI rfl (nn ?_))))))))))))
 have hlen7 : List.length c.terms≤9223372036854775807:=len_le (slice_len h0_0)
 obtain ⟨j7,hL7,hF⟩:=bind_some hF
 obtain ⟨R7,hR7⟩:=exR fun f w_=>∃ before_6 : Int,j7 = .nx before_6∧f 1 = Pt g3∧Star H w_ ([box g3 37 #[v0_0,I c.bound]])
 refine W_join R7 ?_ ?_
 refine W_block ?_
 obtain ⟨I7,hI7⟩:=exI fun n f w_=>∃ i_5 : Nat,∃ suf7 : List Term,∃ before_6 : Int,n = suf7.length∧List.drop i_5 c.terms = suf7∧i_5 + suf7.length = c.terms.length∧rangeL i_ConstraintValid_b1 suf7 i_5 before_6 = some j7∧f 1 = Pt g3∧f 3 = I before_6∧f 7 = v0_0∧f 8 = I (c.terms.length : Int)∧f 9 = I i_5∧Star H w_ ([box g3 37 #[v0_0,I c.bound]])
 refine W_loop I7 (n:=c.terms.length) ?_ ?_
 exact ij hI7 ⟨0,c.terms,0,rfl,rfl,Nat.zero_add _,hL7,rfl,rfl,rfl,rfl,rfl,Z⟩
 intro n7 f w_ hI
 obtain ⟨i_5,suf7,before_6,rfl,hd7,hl7,hL7,sf1,sf3,sf7,sf8,sf9,Z⟩:=ik hI7 hI
 refine sq (L_lss rfl sf9 sf8 (nq (W_cond (b:=decide ((i_5 : Int) < (c.terms.length : Int))) rfl (fun hc8=>?_) (fun hc8=>?_))))
 have hlt7:=of_decide_eq_true hc8
 rcases suf7 with _ | ⟨x_7,rest7⟩
 exact absurd hlt7 (by simp at hl7; omega)
 obtain ⟨o7,hB7,hL7⟩:=range_cons hL7
 rw [i_ConstraintValid_b1] at hB7
 have hix7:=drop_idx hd7
 refine W_skip (W_seq (W_block (sq (L_ix (r:=rTerm) rfl Tryz.underlying35 Tryz.sizeOf58 sf7 h0_0 sf9 hix7 (fun g16 o17 cs_g16 hrk_hat18 hat18=>?_)))))
 obtain rfl:=rTerm_iff.1 hrk_hat18
 refine L_lda (cs:=[I x_7.coef,I x_7.lit]) rfl Tryz.isAgg58 Tryz.sizeOf58 rfl (At.sub (AtH.at hat18 Z.sub) 0 2) rfl (L_al (cs:=#[I 0,I 0]) rfl Tryz.zeroValue58 rfl Z (fun g20 w21 Z=>L_staB (vs:=#[I x_7.coef,I x_7.lit]) (cs2:=#[I x_7.coef,I x_7.lit]) 0 rfl Tryz.sizeOf58 rfl rfl rfl (ones_cons rfl (ones_cons rfl ones_nil)) Z rfl (by show 0 + 2≤2; decide) rfl (fun w22 Z=>nq (W_seq ?_))))
 obtain ⟨x28,hx28,hB7⟩:=bind_some hB7
 obtain ⟨b37,hb37,hB7⟩:=bind_some hB7
 obtain ⟨b45,hb45,hB7⟩:=bind_some hB7
 obtain ⟨R46,hR46⟩:=exR fun f w_=>f 1 = Pt g3∧f 5 = Pt g20∧f 7 = v0_0∧f 8 = I (c.terms.length : Int)∧f 9 = I i_5∧f 29 = Bo b45∧Star H w_ ([box g20 58 #[I x_7.coef,I x_7.lit],box g3 37 #[v0_0,I c.bound]])
 refine W_join R46 ?_ ?_
 refine W_region (fA 1 fa_58_1 rfl rfl (ldB 0 Z Tryz.isAgg3 rfl rfl rfl ?_))
 obtain ⟨H47b,l48,s49,z50,k51⟩:=Z.borrow
 refine L_call rfl Tryz.call57 (ops1 rfl) (i_isLiteral_c (l:=x_7.lit) s49 hx28) ?_
 rintro _ w52 ⟨rfl,Z⟩
 have Z:=k51 Z c0
 refine L_not_ rfl rfl (mB rfl (L_split (d:=17) (b:=(!x28)) rfl (fun hc53=>?_) (fun hc53=>?_)))
 rw [ite_t hc53] at hb37
 refine ps rfl (ps rfl (ps rfl (ps rfl (ps rfl (L_pick (v:=Bo b37) rfl rfl (congrArg Value.bool (so hb37)) (mB rfl (L_split (d:=24) (b:=b37) rfl (fun hc54=>?_) (fun hc54=>?_))))))))
 rw [ite_t hc54] at hb45
 refine ps rfl (ps rfl (ps rfl (ps rfl (L_pick (v:=Bo b45) rfl rfl (congrArg Value.bool (so hb45)) (nn (rj hR46 ⟨sf1,rfl,sf7,sf8,sf9,rfl,Z⟩))))))
 rw [ite_f hc54] at hb45
 obtain ⟨x43,hx43,hb45⟩:=bind_some hb45
 refine fA 0 fa_58_0 rfl rfl (ldB 0 Z Tryz.isAgg3 rfl rfl rfl ?_)
 obtain ⟨H55b,l56,s57,z58,k59⟩:=Z.borrow
 refine L_call rfl Tryz.call59 (ops3 rfl rfl rfl) (i_within_c (n_:=x_7.coef) (low:=1) (high:=1000) s57 hx43) ?_
 rintro _ w60 ⟨rfl,Z⟩
 have Z:=k59 Z c0
 refine L_not_ rfl rfl (L_pick (v:=Bo b45) rfl rfl (congrArg Value.bool (so hb45)) (nn (rj hR46 ⟨sf1,rfl,sf7,sf8,sf9,rfl,Z⟩)))
 rw [ite_f hc53] at hb37
 obtain ⟨x35,hx35,hb37⟩:=bind_some hb37
 refine fA 1 fa_58_1 rfl rfl (ldB 0 Z Tryz.isAgg3 rfl rfl rfl ?_)
 obtain ⟨H61b,l62,s63,z64,k65⟩:=Z.borrow
 refine L_call rfl Tryz.call58 (ops1 rfl) (i_variableOf_c (l:=x_7.lit) s63 hx35) ?_
 rintro _ w66 ⟨rfl,Z⟩
 have Z:=k65 Z c0
 refine mF sf3 rfl (L_leq rfl rfl rfl (L_pick (v:=Bo b37) rfl rfl (congrArg Value.bool (so hb37)) (mB rfl (L_split (d:=24) (b:=b37) rfl (fun hc67=>?_) (fun hc67=>?_)))))
 rw [ite_t hc67] at hb45
 refine ps rfl (ps rfl (ps rfl (ps rfl (L_pick (v:=Bo b45) rfl rfl (congrArg Value.bool (so hb45)) (nn (rj hR46 ⟨sf1,rfl,sf7,sf8,sf9,rfl,Z⟩))))))
 rw [ite_f hc67] at hb45
 obtain ⟨x43,hx43,hb45⟩:=bind_some hb45
 refine fA 0 fa_58_0 rfl rfl (ldB 0 Z Tryz.isAgg3 rfl rfl rfl ?_)
 obtain ⟨H68b,l69,s70,z71,k72⟩:=Z.borrow
 refine L_call rfl Tryz.call59 (ops3 rfl rfl rfl) (i_within_c (n_:=x_7.coef) (low:=1) (high:=1000) s70 hx43) ?_
 rintro _ w73 ⟨rfl,Z⟩
 have Z:=k72 Z c0
 refine L_not_ rfl rfl (L_pick (v:=Bo b45) rfl rfl (congrArg Value.bool (so hb45)) (nn (rj hR46 ⟨sf1,rfl,sf7,sf8,sf9,rfl,Z⟩)))
 intro f w_ hR
 obtain ⟨sf1,sf5,sf7,sf8,sf9,sf29,Z⟩:=rk hR46 hR
 refine W_cond (b:=b45) sf29 (fun hc74=>?_) (fun hc74=>?_)
 have hB7:=(ite_t hc74).symm.trans hB7
 refine sq (aB rfl (nn (W_ret (retG1 (v1:=Bo false) Tryz.results35 rfl ?_))))
 obtain rfl:=so hB7
 obtain rfl:=so hL7
 obtain rfl:=so hF
 exact ⟨rfl,(Star.keepN 0 Z)⟩
 have hB7:=(ite_f hc74).symm.trans hB7
 refine W_skip ?_
 obtain ⟨x80,hx80,hB7⟩:=bind_some hB7
 refine W_region (fA 1 fa_58_1 sf5 rfl (ldB 0 Z Tryz.isAgg3 rfl rfl rfl ?_))
 obtain ⟨H82b,l83,s84,z85,k86⟩:=Z.borrow
 refine L_call rfl Tryz.call58 (ops1 rfl) (i_variableOf_c (l:=x_7.lit) s84 hx80) ?_
 rintro _ w87 ⟨rfl,Z⟩
 have Z:=k86 Z c0
 refine aI rfl (nn (W_region (L_add rfl sf9 rfl (mI rfl (nn ?_)))))
 obtain rfl:=so hB7
 have Z:=Z.get 1 rfl
 show ∃ m,m < _∧I7 m _ _
 refine ⟨rest7.length,by simp,?_⟩
 exact ij hI7 ⟨i_5 + 1,rest7,x80,rfl,drop_next hd7,by simp at hl7; omega,hL7,sf1,rfl,sf7,sf8,(Eq.trans rfl (congrArg (Value.int .i64) (i64_succ (n:=c.terms.length) (by simp at hl7; omega) hlen7))),(Star.keepN 1 Z)⟩
 rcases suf7 with _ | ⟨_,_⟩
 obtain rfl:=range_nil hL7
 refine W_exit (rj hR7 ⟨before_6,rfl,sf1,Z⟩)
 exact absurd (of_decide_eq_false hc8) (by simp at hl7; omega)
 intro f w_ hR
 obtain ⟨before_6,rfl,sf1,Z⟩:=rk hR7 hR
 refine W_seq ?_
 obtain ⟨x93,hx93,hF⟩:=bind_some hF
 refine W_region (fA 1 fa_37_1 sf1 rfl (ldB 0 Z Tryz.isAgg3 rfl rfl rfl ?_))
 obtain ⟨H95b,l96,s97,z98,k99⟩:=Z.borrow
 refine L_call rfl Tryz.call59 (ops3 rfl rfl rfl) (i_within_c (n_:=c.bound) (low:=0) (high:=20000) s97 hx93) ?_
 rintro _ w100 ⟨rfl,Z⟩
 have Z:=k99 Z c0
 refine aB rfl (nn (W_ret (retG1 (v1:=Bo x93) Tryz.results35 rfl ?_)))
 obtain rfl:=so hF
 exact ⟨rfl,(Star.keepN 0 Z)⟩
theorem i_allValid_1_c {c : Con} {v0_0 : Value} {H : FH} {w : World} (Z : Star H w []) (h0_0 : (rS 58 rTerm).rel H [v0_0] c.terms) {r : Bool} (hF : i_allValid_1 c = some r) :
 C Tryz.prog 39 #[.agg #[v0_0,I c.bound]] w fun v w'=>v = Bo r∧Star H w' []:=by
 unfold i_allValid_1 at hF
 refine C_enter Tryz.func39 rfl Tryz.ntmps39 rfl (sq (L_box (v:=.agg #[v0_0,I c.bound]) (cs:=#[v0_0,I c.bound]) rfl rfl rfl Z (fun g3 w4 Z=>aB rfl (nq ?_))))
 obtain ⟨x10,hx10,hF⟩:=bind_some hF
 refine W_region (L_lda (cs:=[v0_0,I c.bound]) rfl Tryz.isAgg37 Tryz.sizeOf37 rfl (At.sub0 (Blk.at (Star.blkAt 0 Z rfl)) 0 2) rfl ?_)
 obtain ⟨H12b,l13,s14,z15,k16⟩:=Z.borrow
 refine L_call rfl Tryz.call35 (ops1 rfl) (i_ConstraintValid_c (c:=c) s14 (RP.mono _ h0_0 l13) hx10) ?_
 rintro _ w17 ⟨rfl,Z⟩
 have Z:=k16 Z c0
 refine L_not_ rfl rfl (aB rfl (nn (W_ret (retG1 (v1:=Bo (!x10)) Tryz.results39 rfl ?_))))
 obtain rfl:=so hF
 exact ⟨rfl,(Star.keepN 0 Z)⟩
theorem i_allValid_c {list : List Con} {v0 : Value} {H : FH} {w : World} (Z : Star H w []) (h0 : (rS 37 (rCon 58)).rel H [v0] list) {r : Bool} (hF : i_allValid list = some r) :
 C Tryz.prog 20 #[v0] w fun v w'=>v = Bo r∧Star H w' []:=by
 unfold i_allValid at hF
 refine C_enter Tryz.func20 rfl Tryz.ntmps20 rfl (sq (aB rfl (nq ?_)))
 obtain ⟨x6,hx6,hF⟩:=bind_some hF
 refine W_region (mV v0 rfl ?_)
 obtain ⟨H8b,l9,s10,z11,k12⟩:=Z.borrow
 have hf13 : Fun1 Tryz.prog (rCon 58) true Value.bool i_allValid_1 (.func (.func 39) #[] #[]) H8b:=by
   refine ⟨_,_,rfl,Tryz.call39,fun H_ w_ hE_ hs_ cs_ x_ y_ args_ hr_ hy_ ha_=>?_⟩
   obtain ⟨p_0,rfl,hp_0⟩:=rCon_iff.1 hr_
   obtain rfl:=args_of (b:=#[.agg #[p_0,I x_.bound]]) ha_
   exact i_allValid_1_c (c:=x_) hs_ hp_0 hy_
 refine L_call rfl Tryz.call38 (ops2 rfl rfl) (slices_ContainsFunc_implConstraint_c (s:=list) (f_:=i_allValid_1) s10 (RP.mono _ h0 l9) hf13 hx6) ?_
 rintro _ w14 ⟨rfl,Z⟩
 have Z:=k12 Z c0
 refine L_not_ rfl rfl (aB rfl (nn (W_ret (retG1 (v1:=Bo (!x6)) Tryz.results20 rfl ?_))))
 obtain rfl:=so hF
 exact ⟨rfl,Z⟩
theorem i_ProblemValid_c {list : List Con} {v0 : Value} {H : FH} {w : World} (Z : Star H w []) (h0 : (rS 37 (rCon 58)).rel H [v0] list) {r : Bool} (hF : i_ProblemValid list = some r) :
 C Tryz.prog 8 #[v0] w fun v w'=>v = Bo r∧Star H w' []:=by
 unfold i_ProblemValid at hF
 refine C_enter Tryz.func8 rfl Tryz.ntmps8 rfl (sq (aB rfl (nq ?_)))
 obtain ⟨b8,hb8,hF⟩:=bind_some hF
 obtain ⟨R9,hR9⟩:=exR fun f w_=>f 2 = Bo b8∧Star H w_ ([])
 refine W_join R9 ?_ ?_
 refine W_region (mV v0 rfl (L_len rfl Tryz.underlying23 rfl (slice_len h0) (L_leq rfl rfl rfl (mB rfl (L_split (d:=6) (b:=decide ((list.length : Int)≤400)) rfl (fun hc10=>?_) (fun hc10=>?_))))))
 rw [ite_t hc10] at hb8
 obtain ⟨x6,hx6,hb8⟩:=bind_some hb8
 refine mV v0 rfl ?_
 obtain ⟨H11b,l12,s13,z14,k15⟩:=Z.borrow
 refine L_call rfl Tryz.call20 (ops1 rfl) (i_allValid_c (list:=list) s13 (RP.mono _ h0 l12) hx6) ?_
 rintro _ w16 ⟨rfl,Z⟩
 have Z:=k15 Z c0
 refine L_pick (v:=Bo b8) rfl rfl (congrArg Value.bool (so hb8)) (aB rfl (nn (rj hR9 ⟨rfl,Z⟩)))
 rw [ite_f hc10] at hb8
 refine ps rfl (ps rfl (L_pick (v:=Bo b8) rfl rfl (congrArg Value.bool (so hb8)) (aB rfl (nn (rj hR9 ⟨rfl,Z⟩)))))
 intro f w_ hR
 obtain ⟨sf2,Z⟩:=rk hR9 hR
 refine W_ret (retG1 (v1:=Bo b8) Tryz.results8 sf2 ?_)
 obtain rfl:=so hF
 exact ⟨rfl,Z⟩
set_option maxRecDepth 100000 in
/-- a builder that has been written: its copy check turns nothing -/
theorem check_used (b : Nat) (w : World) (h0 : w.cell? ⟨b, 0, none⟩ = some (.pointer (some ⟨b, 0, none⟩))) :
    Calls Tryz.prog 29 #[.pointer (some ⟨b, 0, none⟩)] w fun e w' => e = .returned (.tuple #[]) ∧ w' = w := by
  obtain ⟨j, hj, _⟩ := Option.map_eq_some_iff.1 (show (Tryz.prog.info? 34).map (·.size) = some 2 by kernel_rfl)
  go_enter Tryz.func29, Tryz.ntmps29
  go_wp2
  rw [Lib.run_neq_ptr_same w _ Tryz.underlying32 hj]
  go_wp2
  go_end0
  exact ⟨rfl, rfl⟩
set_option maxHeartbeats 1000000 in
set_option maxRecDepth 100000 in
/-- a new builder: its copy check stores its own address -/
theorem check_new (b : Nat) (w : World) (h0 : w.cell? ⟨b, 0, none⟩ = some (.pointer none)) (hsh : w.shape? b = some (34, 2)) (hfz : w.frozen? ⟨b, 0, none⟩ = false) :
    Calls Tryz.prog 29 #[.pointer (some ⟨b, 0, none⟩)] w fun e w' => e = .returned (.tuple #[]) ∧ w' = w.setCell ⟨b, 0, none⟩ (.pointer (some ⟨b, 0, none⟩)) := by
  obtain ⟨j, hj, hjs⟩ := Option.map_eq_some_iff.1 (show (Tryz.prog.info? 34).map (·.size) = some 2 by kernel_rfl)
  have lies : liesAt Tryz.prog Tryz.prog.depth 34 (2 / Tryz.prog.cellsOf 34) 0 34 1 = true := by kernel_rfl
  go_enter Tryz.func29, Tryz.ntmps29
  go_wp2
  rw [Lib.run_to_unsafe w ⟨b, 0, none⟩ Tryz.underlying32 Tryz.underlying76 hj (by rw [hjs]; decide) hsh (Nat.zero_lt_succ 1)]
  simp only [Result.andThen]
  rw [Oper.upon_value]
  go_wp2
  rw [run_callFunc_extern Tryz.func51 (by kernel_rfl) (by kernel_rfl) (by kernel_rfl) (e := Extern.AbiNoEscape.same) (by kernel_rfl)]
  rw [Lib.run_noEscape]
  simp only [Result.andThen]
  rw [Oper.upon_value]
  go_wp2
  rw [Lib.run_from_unsafe w ⟨b, 0, none⟩ Tryz.underlying76 Tryz.underlying32 hj hsh lies]
  simp only [Result.andThen]
  rw [Oper.upon_value]
  go_wp2
  go_end0
  exact ⟨rfl, rfl⟩
theorem check_any (B b : Nat) (l : List Value) (w : World) (h : Lib.IsBuilderF 34 5 B b l w) :
    Calls Tryz.prog 29 #[.pointer (some ⟨b, 0, none⟩)] w fun e w' => e = .returned (.tuple #[]) ∧ (Lib.BuilderAtF 34 5 B b (.pointer (some ⟨b, 0, none⟩)) l w' ∧ Below B w w') := by
  rcases h with h | h
  · refine (check_new b w h.cell0 h.shape h.frozen0).mono ?_
    rintro e w' ⟨rfl, rfl⟩
    exact ⟨rfl, h.used _, (Below.refl B w).setCell (p := ⟨b, 0, none⟩) h.1 _⟩
  · refine (check_used b w h.cell0).mono ?_
    rintro e w' ⟨rfl, rfl⟩
    exact ⟨rfl, h, Below.refl B _⟩
set_option maxHeartbeats 2000000 in
set_option maxRecDepth 100000 in
/-- a text is put behind what a builder holds -/
theorem write_any (B b : Nat) (l : List Value) (s : ByteArray) (w : World) (h : Lib.IsBuilderF 34 5 B b l w) (hlen : l.length + s.size ≤ 140737488355328) (hBw : B ≤ w.heap.size) :
    Calls Tryz.prog 14 #[.pointer (some ⟨b, 0, none⟩), .string s] w fun e w' => e = .returned (.tuple #[.int .i64 s.size, .nilIface]) ∧ (Lib.BuilderAtF 34 5 B b (.pointer (some ⟨b, 0, none⟩)) (l ++ Lib.strCells s) w' ∧ Below B w w') := by
  obtain ⟨i0, hi, hz0, hz1, hz2⟩ := info_parts (show (Tryz.prog.info? 5).map (fun i => (i.zero, i.size, i.bytes)) = some (some (.int .u8 0), 1, 1) by kernel_rfl)
  go_enter Tryz.func14, Tryz.ntmps14
  go_wp2_with (go_at_call 29; refine (check_any B b l _ h).mono ?_)
  rintro e w1 ⟨rfl, ⟨hB, v, hbk, hown, hne⟩, hb1⟩
  have c0 : w1.cell? ⟨b, 0, none⟩ = some (.pointer (some ⟨b, 0, none⟩)) := by rw [Lib.cell_of_heap hbk]; rfl
  have c1 : w1.cell? ⟨b, 1, none⟩ = some v := by rw [Lib.cell_of_heap hbk]; rfl
  go_wp2_with (at_builtin; refine Lib.wpList_append_own_stringF _ rfl _ _ 22 9 rfl B 5 i0 Tryz.underlying22 Tryz.underlying9 hi hz0 hz1 hz2 _ _ _ rfl hown s rfl ?c3 ?c4 ?c5 ?_)
  case c3 => unfold maxLen; omega
  case c4 => omega
  case c5 => have := hb1.size; omega
  intro v' w2 hown' hgrow _
  have hlt : b < w1.heap.size := (Array.getElem?_eq_some_iff.1 hbk).1
  have hb2 : w2.heap[b]? = some (.cells #[.pointer (some ⟨b, 0, none⟩), v] 34 (0, 0)) := by
    rw [hgrow.block b hlt (fun e => hne e.symm)]
    exact hbk
  have d0 : w2.cell? ⟨b, 0, none⟩ = some (.pointer (some ⟨b, 0, none⟩)) := by rw [Lib.cell_of_heap hb2]; rfl
  have d1 : w2.cell? ⟨b, 1, none⟩ = some v := by rw [Lib.cell_of_heap hb2]; rfl
  have f1 : w2.frozen? ⟨b, 1, none⟩ = false := Lib.frozen_of_heap hb2 1
  obtain ⟨ao, n', cap, rfl⟩ : ∃ ao n' cap, v' = .slice ao n' cap := by
    rcases hown'.2 with ⟨hv, _⟩ | ⟨g, cap, cur, fz, hv, _⟩
    · exact ⟨_, _, _, hv⟩
    · exact ⟨_, _, _, hv⟩
  go_wp2
  go_ret2
  refine ⟨rfl, ?_, ?_⟩
  · exact Lib.BuilderAtF.put (T := 34) (e := 5) hB hb2 (bs' := l ++ Lib.strCells s) (by simpa [Lib.strCells_length] using hown') (by decide)
  · exact (hb1.grown hgrow (by have := hb1.size; omega) (fun k hk => (hown.lt k hk).1)).setCell (p := ⟨b, 1, none⟩) hB _
theorem strings_Builder_WriteString_c {B g : Nat} {e s : ByteArray} {H : FH} {w : World} (hB : ∀ k,B≤k→H.m k = none) (Z : Star H w [bld 34 5 B g e]) {r : ByteArray} (hF : catB e s = some r) :
 C Tryz.prog 14 #[Pt g,.string s] w fun v w'=>v = .tuple #[I (s.size : Int),.nilIface]∧Star H w' [bld 34 5 B g r]:=by
 obtain ⟨hl,rfl⟩:=bld_cat hF
 obtain ⟨hb,hB2⟩:=bld_is Z
 refine Calls.mono (write_any B g _ s w hb (by rw [Go.Lib.byteCells_length,Array.length_toList]; exact hl) hB2) ?_
 rintro e w' ⟨rfl,h1,h2⟩
 exact ⟨_,rfl,rfl,bld_star hB Z h2 (.inr (bld_app h1))⟩
theorem strconv_Itoa_c {x_ : Int} {H : FH} {w : World} (Z : Star H w []) {r : ByteArray} (hF : strconv_Itoa x_ = some r) :
 C Tryz.prog 30 #[I x_] w fun v w'=>v = .string r∧Star H w' []:=by
 obtain ⟨h0,h1,rfl⟩:=strconv_Itoa_some hF
 refine Calls.mono (Tryz.strconv_Itoa x_ h0 h1 w (Z.sub.var H.glob.tab)) ?_
 rintro e w' ⟨rfl,k,os,rfl⟩
 exact ⟨_,rfl,rfl,Star.ext Z (grown_drew w k os)⟩
theorem i_literalText_c {l : Int} {H : FH} {w : World} (Z : Star H w []) {r : ByteArray} (hF : i_literalText l = some r) :
 C Tryz.prog 31 #[I l] w fun v w'=>v = .string r∧Star H w' []:=by
 unfold i_literalText at hF
 refine C_enter Tryz.func31 rfl Tryz.ntmps31 rfl (sq (aV (.string (⟨#[]⟩ : ByteArray)) rfl (nq (sq (mI rfl (L_lss rfl rfl rfl (nn (W_cond (b:=decide (l < 0)) rfl (fun hc1=>?_) (fun hc1=>?_)))))))))
 have hF:=(ite_t hc1).symm.trans hF
 refine W_seq ?_
 obtain ⟨x7,hx7,hF⟩:=bind_some hF
 obtain ⟨x9,hx9,hF⟩:=bind_some hF
 refine W_region (mI rfl (L_neg rfl rfl ?_))
 obtain ⟨H10b,l11,s12,z13,k14⟩:=Z.borrow
 refine L_call rfl Tryz.call30 (ops1 rfl) (strconv_Itoa_c (x_:=i64 (-l)) s12 hx7) ?_
 rintro _ w15 ⟨rfl,Z⟩
 have Z:=k14 Z c0
 obtain ⟨hx9_l,hx9_e⟩:=cat_some hx9
 refine L_sadd (s:=(⟨#[126,120]⟩ : ByteArray)) (s':=x7) rfl rfl rfl hx9_l ?_
 rw [← hx9_e]
 refine aV (.string x9) rfl (nn (W_ret (retG1 (v1:=.string x9) Tryz.results31 rfl ?_)))
 obtain rfl:=so hF
 exact ⟨rfl,Z⟩
 have hF:=(ite_f hc1).symm.trans hF
 refine W_skip (W_seq ?_)
 obtain ⟨x21,hx21,hF⟩:=bind_some hF
 obtain ⟨x23,hx23,hF⟩:=bind_some hF
 refine W_region (mI rfl ?_)
 obtain ⟨H24b,l25,s26,z27,k28⟩:=Z.borrow
 refine L_call rfl Tryz.call30 (ops1 rfl) (strconv_Itoa_c (x_:=l) s26 hx21) ?_
 rintro _ w29 ⟨rfl,Z⟩
 have Z:=k28 Z c0
 obtain ⟨hx23_l,hx23_e⟩:=cat_some hx23
 refine L_sadd (s:=(⟨#[120]⟩ : ByteArray)) (s':=x21) rfl rfl rfl hx23_l ?_
 rw [← hx23_e]
 refine aV (.string x23) rfl (nn (W_ret (retG1 (v1:=.string x23) Tryz.results31 rfl ?_)))
 obtain rfl:=so hF
 exact ⟨rfl,Z⟩
theorem i_Constraint_text_c {c : Con} {v0_0 : Value} {H : FH} {w : World} (Z : Star H w []) (h0_0 : (rS 58 rTerm).rel H [v0_0] c.terms) {r : ByteArray} (hF : i_Constraint_text c = some r) :
 C Tryz.prog 15 #[.agg #[v0_0,I c.bound]] w fun v w'=>v = .string r∧Star H w' []:=by
 unfold i_Constraint_text at hF
 refine C_enter Tryz.func15 rfl Tryz.ntmps15 rfl (sq (L_box (v:=.agg #[v0_0,I c.bound]) (cs:=#[v0_0,I c.bound]) rfl rfl rfl Z (fun g3 w4 Z=>aV (.string (⟨#[]⟩ : ByteArray)) rfl (ns (aV (.string (⟨#[]⟩ : ByteArray)) rfl (nq (sq (fA 0 fa_37_0 rfl rfl (ldB 0 Z Tryz.isAgg35 rfl rfl rfl (L_len rfl Tryz.underlying35 rfl (slice_len h0_0) (mI rfl (nn ?_))))))))))))
 have hlen9 : List.length c.terms≤9223372036854775807:=len_le (slice_len h0_0)
 obtain ⟨j9,hL9,hF⟩:=bind_some hF
 obtain ⟨R9,hR9⟩:=exR fun f w_=>∃ out_6 : ByteArray,∃ H7 : FH,j9 = .nx out_6∧Le H H7∧f 1 = Pt g3∧f 3 = .string out_6∧Star H7 w_ ([box g3 37 #[v0_0,I c.bound]])
 refine W_join R9 ?_ ?_
 refine W_block ?_
 obtain ⟨I9,hI9⟩:=exI fun n f w_=>∃ i_5 : Nat,∃ suf9 : List Term,∃ out_6 : ByteArray,∃ H7 : FH,n = suf9.length∧List.drop i_5 c.terms = suf9∧i_5 + suf9.length = c.terms.length∧rangeL i_Constraint_text_b1 suf9 i_5 out_6 = some j9∧Le H H7∧f 1 = Pt g3∧f 3 = .string out_6∧f 7 = v0_0∧f 8 = I (c.terms.length : Int)∧f 9 = I i_5∧Star H7 w_ ([box g3 37 #[v0_0,I c.bound]])
 refine W_loop I9 (n:=c.terms.length) ?_ ?_
 exact ij hI9 ⟨0,c.terms,(⟨#[]⟩ : ByteArray),H,rfl,rfl,Nat.zero_add _,hL9,(Le.refl _),rfl,rfl,rfl,rfl,rfl,Z⟩
 intro n9 f w_ hI
 obtain ⟨i_5,suf9,out_6,H7,rfl,hd9,hl9,hL9,l8,sf1,sf3,sf7,sf8,sf9,Z⟩:=ik hI9 hI
 refine sq (L_lss rfl sf9 sf8 (nq (W_cond (b:=decide ((i_5 : Int) < (c.terms.length : Int))) rfl (fun hc10=>?_) (fun hc10=>?_))))
 have hlt9:=of_decide_eq_true hc10
 rcases suf9 with _ | ⟨x_9,rest9⟩
 exact absurd hlt9 (by simp at hl9; omega)
 obtain ⟨o9,hB9,hL9⟩:=range_cons hL9
 rw [i_Constraint_text_b1] at hB9
 have hix9:=drop_idx hd9
 refine W_skip (W_seq (W_block (sq (L_ix (r:=rTerm) rfl Tryz.underlying35 Tryz.sizeOf58 sf7 (RP.mono _ h0_0 l8) sf9 hix9 (fun g18 o19 cs_g18 hrk_hat20 hat20=>?_)))))
 obtain rfl:=rTerm_iff.1 hrk_hat20
 refine L_lda (cs:=[I x_9.coef,I x_9.lit]) rfl Tryz.isAgg58 Tryz.sizeOf58 rfl (At.sub (AtH.at hat20 Z.sub) 0 2) rfl (L_al (cs:=#[I 0,I 0]) rfl Tryz.zeroValue58 rfl Z (fun g22 w23 Z=>L_staB (vs:=#[I x_9.coef,I x_9.lit]) (cs2:=#[I x_9.coef,I x_9.lit]) 0 rfl Tryz.sizeOf58 rfl rfl rfl (ones_cons rfl (ones_cons rfl ones_nil)) Z rfl (by show 0 + 2≤2; decide) rfl (fun w24 Z=>nn ?_)))
 obtain ⟨x30,hx30,hB9⟩:=bind_some hB9
 obtain ⟨x32,hx32,hB9⟩:=bind_some hB9
 obtain ⟨x38,hx38,hB9⟩:=bind_some hB9
 obtain ⟨x40,hx40,hB9⟩:=bind_some hB9
 obtain ⟨x41,hx41,hB9⟩:=bind_some hB9
 obtain ⟨x42,hx42,hB9⟩:=bind_some hB9
 refine W_drawS 10 [isV (.string out_6),isV (Pt g22),isV (I x_9.coef),isV (.string x30),isV (.string x32),isV (Pq g22 1),isV (I x_9.lit),isV (.string x38),isV (.string x40),isV (.string x41)] [box g22 58 #[I x_9.coef,I x_9.lit],box g3 37 #[v0_0,I c.bound]] [] ([]) [([],[]),([],[]),([],[]),([],[]),([],[]),([],[]),([],[]),([],[]),([],[]),([],[])] (S:=[]) Tryz_mix (by kernel_rfl) rfl (by kernel_rfl) (amF_cons (mono_V _) (amF_cons (mono_V _) (amF_cons (mono_V _) (amF_cons (mono_V _) (amF_cons (mono_V _) (amF_cons (mono_V _) (amF_cons (mono_V _) (amF_cons (mono_V _) (amF_cons (mono_V _) (amF_cons (mono_V _) amF_nil)))))))))) Z ?_ (fun f w_ H43 hS43 hE43 hT43 Z=>?_)
 refine opsS_cons (fun f w_ _ _ s _ _ Z=>mF ((s 3 rfl).trans sf3) rfl (nO rfl rfl Z)) (opsS_cons (fun f w_ _ _ s _ _ Z=>fA 0 fa_58_0 ((s 5 rfl).trans rfl) rfl (nO rfl rfl Z)) (opsS_cons (fun f w_ _ _ _ _ p Z=>ldB 0 Z Tryz.isAgg3 (p 1 14 rfl rfl) rfl rfl (nO rfl rfl Z)) (opsS_cons ?_ ?_)))
 intro f w_ H43 X43 hS43 hE43 hP43 Z
 obtain ⟨H56b,l57,s58,z59,k60⟩:=Z.borrow
 refine L_call rfl Tryz.call30 (ops1 (hP43 2 15 rfl rfl)) (strconv_Itoa_c (x_:=x_9.coef) s58 hx30) ?_
 rintro _ w61 ⟨rfl,Z⟩
 have Z:=k60 Z c0
 exact L_nil ⟨rfl,_,_,rfl,Le.refl _,fun _ _=>rfl,Z⟩
 refine opsS_cons ?_ ?_
 intro f w_ H43 X43 hS43 hE43 hP43 Z
 obtain ⟨hx32_l,hx32_e⟩:=cat_some hx32
 refine L_sadd (s:=x30) (s':=(⟨#[32]⟩ : ByteArray)) rfl (hP43 3 16 rfl rfl) rfl hx32_l ?_
 rw [← hx32_e]
 exact L_nil ⟨rfl,_,_,rfl,Le.refl _,fun _ _=>rfl,Z⟩
 refine opsS_cons (fun f w_ _ _ s _ _ Z=>fA 1 fa_58_1 ((s 5 rfl).trans rfl) rfl (nO rfl rfl Z)) (opsS_cons (fun f w_ _ _ _ _ p Z=>ldB 0 Z Tryz.isAgg3 (p 5 18 rfl rfl) rfl rfl (nO rfl rfl Z)) (opsS_cons ?_ ?_))
 intro f w_ H43 X43 hS43 hE43 hP43 Z
 obtain ⟨H62b,l63,s64,z65,k66⟩:=Z.borrow
 refine L_call rfl Tryz.call31 (ops1 (hP43 6 19 rfl rfl)) (i_literalText_c (l:=x_9.lit) s64 hx38) ?_
 rintro _ w67 ⟨rfl,Z⟩
 have Z:=k66 Z c0
 exact L_nil ⟨rfl,_,_,rfl,Le.refl _,fun _ _=>rfl,Z⟩
 refine opsS_cons ?_ ?_
 intro f w_ H43 X43 hS43 hE43 hP43 Z
 obtain ⟨hx40_l,hx40_e⟩:=cat_some hx40
 refine L_sadd (s:=x32) (s':=x38) rfl (hP43 4 17 rfl rfl) (hP43 7 20 rfl rfl) hx40_l ?_
 rw [← hx40_e]
 exact L_nil ⟨rfl,_,_,rfl,Le.refl _,fun _ _=>rfl,Z⟩
 refine opsS_cons ?_ ?_
 intro f w_ H43 X43 hS43 hE43 hP43 Z
 obtain ⟨hx41_l,hx41_e⟩:=cat_some hx41
 refine L_sadd (s:=x40) (s':=(⟨#[32]⟩ : ByteArray)) rfl (hP43 8 21 rfl rfl) rfl hx41_l ?_
 rw [← hx41_e]
 exact L_nil ⟨rfl,_,_,rfl,Le.refl _,fun _ _=>rfl,Z⟩
 exact opsS_nil
 obtain ⟨hx42_l,hx42_e⟩:=cat_some hx42
 refine L_sadd (s:=out_6) (s':=x41) rfl (hT43 0 13 rfl rfl) (hT43 9 22 rfl rfl) hx42_l ?_
 rw [← hx42_e]
 refine aV (.string x42) rfl (nn (W_region (L_add rfl ((hS43 9 rfl).trans sf9) rfl (mI rfl (nn ?_)))))
 obtain rfl:=so hB9
 have Z:=Z.get 1 rfl
 show ∃ m,m < _∧I9 m _ _
 refine ⟨rest9.length,by simp,?_⟩
 exact ij hI9 ⟨i_5 + 1,rest9,x42,H43,rfl,drop_next hd9,by simp at hl9; omega,hL9,(Le.trans l8 hE43),((hS43 1 rfl).trans sf1),rfl,((hS43 7 rfl).trans sf7),((hS43 8 rfl).trans sf8),(Eq.trans rfl (congrArg (Value.int .i64) (i64_succ (n:=c.terms.length) (by simp at hl9; omega) hlen9))),(Star.keepN 1 Z)⟩
 rcases suf9 with _ | ⟨_,_⟩
 obtain rfl:=range_nil hL9
 refine W_exit (rj hR9 ⟨out_6,H7,rfl,l8,sf1,sf3,Z⟩)
 exact absurd (of_decide_eq_false hc10) (by simp at hl9; omega)
 intro f w_ hR
 obtain ⟨out_6,H7,rfl,l8,sf1,sf3,Z⟩:=rk hR9 hR
 refine W_seq ?_
 obtain ⟨x68,hx68,hF⟩:=bind_some hF
 obtain ⟨x74,hx74,hF⟩:=bind_some hF
 obtain ⟨x76,hx76,hF⟩:=bind_some hF
 refine W_region (mF sf3 rfl ?_)
 obtain ⟨hx68_l,hx68_e⟩:=cat_some hx68
 refine L_sadd (s:=out_6) (s':=(⟨#[62,61,32]⟩ : ByteArray)) rfl rfl rfl hx68_l ?_
 rw [← hx68_e]
 refine fA 1 fa_37_1 sf1 rfl (ldB 0 Z Tryz.isAgg3 rfl rfl rfl ?_)
 obtain ⟨H77b,l78,s79,z80,k81⟩:=Z.borrow
 refine L_call rfl Tryz.call30 (ops1 rfl) (strconv_Itoa_c (x_:=c.bound) s79 hx74) ?_
 rintro _ w82 ⟨rfl,Z⟩
 have Z:=k81 Z c0
 obtain ⟨hx76_l,hx76_e⟩:=cat_some hx76
 refine L_sadd (s:=x68) (s':=x74) rfl rfl rfl hx76_l ?_
 rw [← hx76_e]
 refine aV (.string x76) rfl (nn (W_ret (retG1 (v1:=.string x76) Tryz.results15 rfl ?_)))
 obtain rfl:=so hF
 exact ⟨rfl,(Star.down (Star.keepN 0 Z) l8 c0)⟩
theorem strings_Builder_String_c {B g : Nat} {e : ByteArray} {H : FH} {w : World} (hB : ∀ k,B≤k→H.m k = none) (Z : Star H w [bld 34 5 B g e]) :
 C Tryz.prog 16 #[Pt g] w fun v w'=>v = .string e∧Star H w' [bld 34 5 B g e]:=by
 obtain ⟨hb,hB2⟩:=bld_is Z
 refine Calls.mono (Tryz.Builder_String_any_f B g _ w hb hB2) ?_
 rintro e w' ⟨rfl,h1,h2⟩
 exact ⟨_,rfl,rfl,bld_star hB Z h2 h1⟩
theorem i_FormatProblem_c {list : List Con} {v0 : Value} {H : FH} {w : World} (Z : Star H w []) (h0 : (rS 37 (rCon 58)).rel H [v0] list) {r : ByteArray} (hF : i_FormatProblem list = some r) :
 C Tryz.prog 5 #[v0] w fun v w'=>v = .string r∧Star H w' []:=by
 unfold i_FormatProblem at hF
 refine C_enter Tryz.func5 rfl Tryz.ntmps5 rfl (sq (aV (.string (⟨#[]⟩ : ByteArray)) rfl (nq (W_seq ?_))))
 obtain ⟨x6,hx6,hF⟩:=bind_some hF
 refine W_region (mV v0 rfl ?_)
 obtain ⟨H8b,l9,s10,z11,k12⟩:=Z.borrow
 refine L_call rfl Tryz.call8 (ops1 rfl) (i_ProblemValid_c (list:=list) s10 (RP.mono _ h0 l9) hx6) ?_
 rintro _ w13 ⟨rfl,Z⟩
 have Z:=k12 Z c0
 refine L_not_ rfl rfl (nn (W_cond (b:=(!x6)) rfl (fun hc14=>?_) (fun hc14=>?_)))
 have hF:=(ite_t hc14).symm.trans hF
 refine sq (aV (.string (⟨#[]⟩ : ByteArray)) rfl (nn (W_ret (retG1 (v1:=.string (⟨#[]⟩ : ByteArray)) Tryz.results5 rfl ?_))))
 obtain rfl:=so hF
 exact ⟨rfl,Z⟩
 have hF:=(ite_f hc14).symm.trans hF
 refine W_skip (sq (L_alB (eb:=5) rfl Tryz.zeroValue34 rfl Z (fun g19 B21 w20 hB22 Z=>nq (sq (mV v0 rfl (L_len rfl Tryz.underlying23 rfl (slice_len h0) (mI rfl (nn ?_))))))))
 have hlen25 : List.length list≤9223372036854775807:=len_le (slice_len h0)
 obtain ⟨j25,hL25,hF⟩:=bind_some hF
 obtain ⟨R25,hR25⟩:=exR fun f w_=>∃ ag19_24 : ByteArray,j25 = .nx ag19_24∧f 3 = Pt g19∧Star H w_ ([bld 34 5 B21 g19 ag19_24])
 refine W_join R25 ?_ ?_
 refine W_block ?_
 obtain ⟨I25,hI25⟩:=exI fun n f w_=>∃ i_23 : Nat,∃ suf25 : List Con,∃ ag19_24 : ByteArray,n = suf25.length∧List.drop i_23 list = suf25∧i_23 + suf25.length = list.length∧rangeL i_FormatProblem_b1 suf25 i_23 ag19_24 = some j25∧f 3 = Pt g19∧f 9 = v0∧f 10 = I (list.length : Int)∧f 11 = I i_23∧Star H w_ ([bld 34 5 B21 g19 ag19_24])
 refine W_loop I25 (n:=list.length) ?_ ?_
 exact ij hI25 ⟨0,list,ByteArray.empty,rfl,rfl,Nat.zero_add _,hL25,rfl,rfl,rfl,rfl,Z⟩
 intro n25 f w_ hI
 obtain ⟨i_23,suf25,ag19_24,rfl,hd25,hl25,hL25,sf3,sf9,sf10,sf11,Z⟩:=ik hI25 hI
 refine sq (L_lss rfl sf11 sf10 (nq (W_cond (b:=decide ((i_23 : Int) < (list.length : Int))) rfl (fun hc26=>?_) (fun hc26=>?_))))
 have hlt25:=of_decide_eq_true hc26
 rcases suf25 with _ | ⟨x_25,rest25⟩
 exact absurd hlt25 (by simp at hl25; omega)
 obtain ⟨o25,hB25,hL25⟩:=range_cons hL25
 rw [i_FormatProblem_b1] at hB25
 have hix25:=drop_idx hd25
 refine W_skip (W_seq (W_block (sq (L_ix (r:=(rCon 58)) rfl Tryz.underlying23 Tryz.sizeOf37 sf9 h0 sf11 hix25 (fun g34 o35 cs_g34 hrk_hat36 hat36=>?_)))))
 obtain ⟨u37_0,rfl,hu37_0⟩:=rCon_iff.1 hrk_hat36
 refine L_lda (cs:=[u37_0,I x_25.bound]) rfl Tryz.isAgg37 Tryz.sizeOf37 rfl (At.sub (AtH.at hat36 Z.sub) 0 2) rfl (L_al (cs:=#[S0,I 0]) rfl Tryz.zeroValue37 rfl Z (fun g38 w39 Z=>L_staB (vs:=#[u37_0,I x_25.bound]) (cs2:=#[u37_0,I x_25.bound]) 0 rfl Tryz.sizeOf37 rfl rfl rfl (ones_cons (one_len (slice_len hu37_0)) (ones_cons rfl ones_nil)) Z rfl (by show 0 + 2≤2; decide) rfl (fun w40 Z=>nn ?_)))
 obtain ⟨x46,hx46,hB25⟩:=bind_some hB25
 obtain ⟨x48,hx48,hB25⟩:=bind_some hB25
 obtain ⟨x50,hx50,hB25⟩:=bind_some hB25
 refine W_region (L_lda (cs:=[u37_0,I x_25.bound]) rfl Tryz.isAgg37 Tryz.sizeOf37 rfl (At.sub0 (Blk.at (Star.blkAt 0 Z rfl)) 0 2) rfl ?_)
 obtain ⟨H51b,l52,s53,z54,k55⟩:=Z.borrow
 refine L_call rfl Tryz.call15 (ops1 rfl) (i_Constraint_text_c (c:=x_25) s53 (RP.mono _ hu37_0 l52) hx46) ?_
 rintro _ w56 ⟨rfl,Z⟩
 have Z:=k55 Z c0
 obtain ⟨hx48_l,hx48_e⟩:=cat_some hx48
 refine L_sadd (s:=x46) (s':=(⟨#[10]⟩ : ByteArray)) rfl rfl rfl hx48_l ?_
 rw [← hx48_e]
 have Z:=Star.drop 0 Z rfl
 refine L_call rfl Tryz.call14 (ops2 sf3 rfl) (strings_Builder_WriteString_c hB22 Z hx50) ?_
 rintro _ w57 ⟨rfl,Z⟩
 refine nn (W_region (L_add rfl sf11 rfl (mI rfl (nn ?_))))
 obtain rfl:=so hB25
 show ∃ m,m < _∧I25 m _ _
 refine ⟨rest25.length,by simp,?_⟩
 exact ij hI25 ⟨i_23 + 1,rest25,x50,rfl,drop_next hd25,by simp at hl25; omega,hL25,sf3,sf9,sf10,(Eq.trans rfl (congrArg (Value.int .i64) (i64_succ (n:=list.length) (by simp at hl25; omega) hlen25))),Z⟩
 rcases suf25 with _ | ⟨_,_⟩
 obtain rfl:=range_nil hL25
 refine W_exit (rj hR25 ⟨ag19_24,rfl,sf3,Z⟩)
 exact absurd (of_decide_eq_false hc26) (by simp at hl25; omega)
 intro f w_ hR
 obtain ⟨ag19_24,rfl,sf3,Z⟩:=rk hR25 hR
 refine sq (L_call rfl Tryz.call16 (ops1 sf3) (strings_Builder_String_c hB22 Z) ?_)
 rintro _ w59 ⟨rfl,Z⟩
 refine aV (.string ag19_24) rfl (nn (W_ret (retG1 (v1:=.string ag19_24) Tryz.results5 rfl ?_)))
 obtain rfl:=so hF
 exact ⟨rfl,(Star.keepN 0 Z)⟩
theorem strings_Split_c {x_ : ByteArray} {y_ : ByteArray} {H : FH} {w : World} (Z : Star H w []) {r : List ByteArray} (hF : strings_Split x_ y_ = some r) :
 C Tryz.prog 32 #[.string x_,.string y_] w fun v w'=>∃ u1 : Value,v = u1∧Star H w' [oF 9 RP.str u1 r]:=by
 obtain ⟨hs,hy,rfl⟩:=strings_Split_some hF
 obtain ⟨m,hm⟩:=H.glob.maxlen
 refine Calls.mono (Tryz.strings_Split x_ y_ m w hs (Z.sub.cell hm) hy) ?_
 rintro e w' ⟨rfl,rfl⟩
 exact ⟨_,rfl,_,rfl,split_star Z hs hy⟩
theorem i_linesOf_c {text : ByteArray} {most : Int} {H : FH} {w : World} {R : List Ass} (Z : Star H w R) {r : (List ByteArray) × Bool} (hF : i_linesOf text most = some r) :
 C Tryz.prog 17 #[.string text,I most] w fun v w'=>∃ H' : FH,Le H H'∧∃ (u1 : Value),v = .tuple #[u1,Bo r.2]∧(rS 9 RP.str).rel H' [u1] r.1∧Star H' w' (R):=by
 unfold i_linesOf at hF
 refine C_enter Tryz.func17 rfl Tryz.ntmps17 rfl (sq (aV S0 rfl (aB rfl (nq ?_))))
 obtain ⟨x6,hx6,hF⟩:=bind_some hF
 refine W_region (mV (.string text) rfl ?_)
 obtain ⟨H9b,l10,s11,z12,k13⟩:=Z.borrow
 refine L_call rfl Tryz.call32 (ops2 rfl rfl) (strings_Split_c (x_:=text) (y_:=(⟨#[10]⟩ : ByteArray)) s11 hx6) ?_
 rintro r14_0 w14 ⟨_,rfl,Z⟩
 have Z:=k13 Z (co closed_str c0)
 refine aV r14_0 rfl (ns (mV r14_0 rfl (L_len rfl Tryz.underlying43 rfl (Star.len 0 Z rfl) (L_sub rfl rfl rfl (aI rfl (nq ?_))))))
 obtain ⟨H16,l17,Z,hz18⟩:=Star.freeze Z
 have hz18 : (rS 9 RP.str).rel H16 [r14_0] x6:=hz18
 obtain ⟨x19,hx19,hF⟩:=bind_some hF
 obtain ⟨x22,hx22,hF⟩:=bind_some hF
 obtain ⟨R32,hR32⟩:=exR fun f w_=>∃ H30 : FH,∃ v28_t4 : Value,Le H16 H30∧f 4 = v28_t4∧f 5 = Bo ((ByteArray.toList x22 == ByteArray.toList (⟨#[]⟩ : ByteArray)) && (decide ((i64 ((x6.length : Int) - 1))≤most)))∧(rS 9 RP.str).rel H30 [v28_t4] x19∧Star H30 w_ (R)
 refine W_join R32 ?_ ?_
 rcases Bool.eq_false_or_eq_true (ByteArray.toList x22 == ByteArray.toList (⟨#[]⟩ : ByteArray)) with hc33 | hc33
 refine W_drawS 14 [isV (r14_0),isV (I (i64 ((x6.length : Int) - 1))),isData (rS 9 RP.str) x19,isV (r14_0),isV (I (i64 ((x6.length : Int) - 1))),isEl RP.str x22 0,isV (.string x22),isV (Bo (ByteArray.toList x22 == ByteArray.toList (⟨#[]⟩ : ByteArray))),isV (Bo (ByteArray.toList x22 == ByteArray.toList (⟨#[]⟩ : ByteArray))),isV (I (i64 ((x6.length : Int) - 1))),isV (I most),isV (Bo (decide ((i64 ((x6.length : Int) - 1))≤most))),isV (Bo ((ByteArray.toList x22 == ByteArray.toList (⟨#[]⟩ : ByteArray)) && (decide ((i64 ((x6.length : Int) - 1))≤most)))),isData (rS 9 RP.str) x19] [] [] (R) [([],[]),([],[]),([],[]),([],[]),([],[]),([],[]),([],[]),([],[]),([],[]),([],[]),([],[]),([],[]),([],[]),([],[])] (S:=[]) Tryz_mix (by kernel_rfl) rfl (by kernel_rfl) (amF_cons (mono_V _) (amF_cons (mono_V _) (amF_cons (mono_data _ _) (amF_cons (mono_V _) (amF_cons (mono_V _) (amF_cons (mono_el _ _ _) (amF_cons (mono_V _) (amF_cons (mono_V _) (amF_cons (mono_V _) (amF_cons (mono_V _) (amF_cons (mono_V _) (amF_cons (mono_V _) (amF_cons (mono_V _) (amF_cons (mono_data _ _) amF_nil)))))))))))))) Z ?_ (fun f w_ H27 hS27 hE27 hT27 Z=>?_)
 refine opsS_cons (fun f w_ _ _ s _ _ Z=>mF ((s 6 rfl).trans rfl) rfl (nO rfl rfl Z)) (opsS_cons (fun f w_ _ _ s _ _ Z=>mF ((s 7 rfl).trans rfl) rfl (nO rfl rfl Z)) (opsS_cons ?_ ?_))
 intro f w_ H27 X27 hS27 hE27 hP27 Z
 refine L_sl (a:=0) (b:=i64 ((x6.length : Int) - 1)) rfl et_43 (hP27 0 13 rfl rfl) (RP.mono _ hz18 hE27) rfl (hP27 1 14 rfl rfl) hx19 (fun v40 hs41=>L_nil ⟨rfl,_,_,rfl,Le.refl _,fun _ _=>hs41,Z⟩)
 refine opsS_cons (fun f w_ _ _ s _ _ Z=>mF ((s 6 rfl).trans rfl) rfl (nO rfl rfl Z)) (opsS_cons (fun f w_ _ _ s _ _ Z=>mF ((s 7 rfl).trans rfl) rfl (nO rfl rfl Z)) (opsS_cons ?_ ?_))
 intro f w_ H27 X27 hS27 hE27 hP27 Z
 refine L_ix (r:=RP.str) rfl Tryz.underlying43 Tryz.sizeOf9 (hP27 3 16 rfl rfl) (RP.mono _ hz18 hE27) (hP27 4 17 rfl rfl) hx22 (fun g42 o43 cs_g42 hrk_hat44 hat44=>?_)
 obtain rfl : _ = [_]:=hrk_hat44
 exact L_nil ⟨rfl,_,_,rfl,Le.refl _,fun _ _=>⟨_,_,_,rfl,rfl,hat44⟩,Z⟩
 refine opsS_cons ?_ ?_
 intro f w_ H27 X27 hS27 hE27 hP27 Z
 obtain ⟨g46,o46,cs46,hv46,hrk_hat46,hat46⟩:=(hP27 5 18 rfl rfl)
 obtain rfl : _ = [_]:=hrk_hat46
 refine L_ld rfl Tryz.isAgg9 hv46 (At.cell (AtH.at hat46 Z.sub) (j:=0) rfl) (L_nil ⟨rfl,_,_,rfl,Le.refl _,fun _ _=>rfl,Z⟩)
 refine opsS_cons (fun f w_ _ _ _ _ p Z=>L_seql (s:=x22) (s':=(⟨#[]⟩ : ByteArray)) rfl (p 6 19 rfl rfl) rfl (nO rfl rfl Z)) (opsS_cons (fun f w_ _ _ _ _ p Z=>mF (p 7 20 rfl rfl) rfl (nO rfl rfl Z)) (opsS_cons (fun f w_ _ _ s _ p Z=>L_mv (v:=I (i64 ((x6.length : Int) - 1))) (g_yes rfl (Eq.trans (p 8 21 rfl rfl) (congrArg Value.bool hc33)) rfl) ((s 7 rfl).trans rfl) (nO rfl rfl Z)) (opsS_cons (fun f w_ _ _ s _ p Z=>L_mv (v:=I most) (g_yes rfl (Eq.trans (p 8 21 rfl rfl) (congrArg Value.bool hc33)) rfl) ((s 1 rfl).trans rfl) (nO rfl rfl Z)) (opsS_cons (fun f w_ _ _ _ _ p Z=>L_leq (g_yes rfl (Eq.trans (p 8 21 rfl rfl) (congrArg Value.bool hc33)) rfl) (p 9 22 rfl rfl) (p 10 23 rfl rfl) (nO rfl rfl Z)) (opsS_cons (fun f w_ _ _ _ _ p Z=>pkT (v:=Bo ((ByteArray.toList x22 == ByteArray.toList (⟨#[]⟩ : ByteArray)) && (decide ((i64 ((x6.length : Int) - 1))≤most)))) (p 8 21 rfl rfl) hc33 rfl (and_t hc33 (p 11 24 rfl rfl)) (nO rfl rfl Z)) (opsS_cons ?_ ?_))))))
 intro f w_ H27 X27 hS27 hE27 hP27 Z
 have hd48 : (rS 9 RP.str).rel H27 [f 15] x19:=(hP27 2 15 rfl rfl)
 refine aV (f 15) rfl (L_nil ⟨rfl,_,_,rfl,Le.refl _,fun _ _=>hd48,Z⟩)
 exact opsS_nil
 have hd49 : (rS 9 RP.str).rel H27 [f 4] x19:=(hT27 13 4 rfl rfl)
 refine aF (hT27 12 25 rfl rfl) rfl (nn (rj hR32 ⟨H27,(f 4),hE27,rfl,rfl,hd49,Z⟩))
 refine W_drawS 14 [isV (r14_0),isV (I (i64 ((x6.length : Int) - 1))),isData (rS 9 RP.str) x19,isV (r14_0),isV (I (i64 ((x6.length : Int) - 1))),isEl RP.str x22 0,isV (.string x22),isV (Bo (ByteArray.toList x22 == ByteArray.toList (⟨#[]⟩ : ByteArray))),isV (Bo (ByteArray.toList x22 == ByteArray.toList (⟨#[]⟩ : ByteArray))),isV (undef),isV (undef),isV (undef),isV (Bo ((ByteArray.toList x22 == ByteArray.toList (⟨#[]⟩ : ByteArray)) && (decide ((i64 ((x6.length : Int) - 1))≤most)))),isData (rS 9 RP.str) x19] [] [] (R) [([],[]),([],[]),([],[]),([],[]),([],[]),([],[]),([],[]),([],[]),([],[]),([],[]),([],[]),([],[]),([],[]),([],[])] (S:=[]) Tryz_mix (by kernel_rfl) rfl (by kernel_rfl) (amF_cons (mono_V _) (amF_cons (mono_V _) (amF_cons (mono_data _ _) (amF_cons (mono_V _) (amF_cons (mono_V _) (amF_cons (mono_el _ _ _) (amF_cons (mono_V _) (amF_cons (mono_V _) (amF_cons (mono_V _) (amF_cons (mono_V _) (amF_cons (mono_V _) (amF_cons (mono_V _) (amF_cons (mono_V _) (amF_cons (mono_data _ _) amF_nil)))))))))))))) Z ?_ (fun f w_ H27 hS27 hE27 hT27 Z=>?_)
 refine opsS_cons (fun f w_ _ _ s _ _ Z=>mF ((s 6 rfl).trans rfl) rfl (nO rfl rfl Z)) (opsS_cons (fun f w_ _ _ s _ _ Z=>mF ((s 7 rfl).trans rfl) rfl (nO rfl rfl Z)) (opsS_cons ?_ ?_))
 intro f w_ H27 X27 hS27 hE27 hP27 Z
 refine L_sl (a:=0) (b:=i64 ((x6.length : Int) - 1)) rfl et_43 (hP27 0 13 rfl rfl) (RP.mono _ hz18 hE27) rfl (hP27 1 14 rfl rfl) hx19 (fun v56 hs57=>L_nil ⟨rfl,_,_,rfl,Le.refl _,fun _ _=>hs57,Z⟩)
 refine opsS_cons (fun f w_ _ _ s _ _ Z=>mF ((s 6 rfl).trans rfl) rfl (nO rfl rfl Z)) (opsS_cons (fun f w_ _ _ s _ _ Z=>mF ((s 7 rfl).trans rfl) rfl (nO rfl rfl Z)) (opsS_cons ?_ ?_))
 intro f w_ H27 X27 hS27 hE27 hP27 Z
 refine L_ix (r:=RP.str) rfl Tryz.underlying43 Tryz.sizeOf9 (hP27 3 16 rfl rfl) (RP.mono _ hz18 hE27) (hP27 4 17 rfl rfl) hx22 (fun g58 o59 cs_g58 hrk_hat60 hat60=>?_)
 obtain rfl : _ = [_]:=hrk_hat60
 exact L_nil ⟨rfl,_,_,rfl,Le.refl _,fun _ _=>⟨_,_,_,rfl,rfl,hat60⟩,Z⟩
 refine opsS_cons ?_ ?_
 intro f w_ H27 X27 hS27 hE27 hP27 Z
 obtain ⟨g62,o62,cs62,hv62,hrk_hat62,hat62⟩:=(hP27 5 18 rfl rfl)
 obtain rfl : _ = [_]:=hrk_hat62
 refine L_ld rfl Tryz.isAgg9 hv62 (At.cell (AtH.at hat62 Z.sub) (j:=0) rfl) (L_nil ⟨rfl,_,_,rfl,Le.refl _,fun _ _=>rfl,Z⟩)
 refine opsS_cons (fun f w_ _ _ _ _ p Z=>L_seql (s:=x22) (s':=(⟨#[]⟩ : ByteArray)) rfl (p 6 19 rfl rfl) rfl (nO rfl rfl Z)) (opsS_cons (fun f w_ _ _ _ _ p Z=>mF (p 7 20 rfl rfl) rfl (nO rfl rfl Z)) (oP (fun _ _ p=>gN (p 8 21 rfl rfl) hc33 rfl) (fun _=>rfl) (oP (fun _ _ p=>gN (p 8 21 rfl rfl) hc33 rfl) (fun _=>rfl) (oP (fun _ _ p=>gN (p 8 21 rfl rfl) hc33 rfl) (fun _=>rfl) (opsS_cons (fun f w_ _ _ _ _ p Z=>pkT (v:=Bo ((ByteArray.toList x22 == ByteArray.toList (⟨#[]⟩ : ByteArray)) && (decide ((i64 ((x6.length : Int) - 1))≤most)))) (p 8 21 rfl rfl) hc33 rfl (and_f hc33) (nO rfl rfl Z)) (opsS_cons ?_ ?_))))))
 intro f w_ H27 X27 hS27 hE27 hP27 Z
 have hd64 : (rS 9 RP.str).rel H27 [f 15] x19:=(hP27 2 15 rfl rfl)
 refine aV (f 15) rfl (L_nil ⟨rfl,_,_,rfl,Le.refl _,fun _ _=>hd64,Z⟩)
 exact opsS_nil
 have hd65 : (rS 9 RP.str).rel H27 [f 4] x19:=(hT27 13 4 rfl rfl)
 refine aF (hT27 12 25 rfl rfl) rfl (nn (rj hR32 ⟨H27,(f 4),hE27,rfl,rfl,hd65,Z⟩))
 intro f w_ hR
 obtain ⟨H30,v28_t4,l31,sf4,sf5,hv29_t4,Z⟩:=rk hR32 hR
 refine W_ret (retG2 (v1:=v28_t4) (v2:=Bo ((ByteArray.toList x22 == ByteArray.toList (⟨#[]⟩ : ByteArray)) && (decide ((i64 ((x6.length : Int) - 1))≤most)))) Tryz.results17 sf4 sf5 ?_)
 obtain rfl:=so hF
 exact ⟨H30,(Le.trans l17 l31),v28_t4,rfl,hv29_t4,Z⟩
theorem strconv_Atoi_c {x_ : ByteArray} {H : FH} {w : World} (Z : Star H w []) {r : Int × Bool} (hF : strconv_Atoi x_ = some r) :
 C Tryz.prog 54 #[.string x_] w fun v w'=>∃ u1 : Value,v = .tuple #[I r.1,u1]∧ErrIs u1 r.2∧Star H w' []:=by
 obtain ⟨hs,rfl⟩:=strconv_Atoi_some hF
 cases hn : Go.Lib.atoiAll x_.data.toList
 refine Calls.mono (Any.strconv_Atoi_ok Tryz.laysC172 x_ (by omega) _ hn w) ?_
 rintro e w' ⟨rfl,hw⟩
 refine ⟨_,rfl,_,rfl,rfl,Star.ext Z ?_⟩
 rcases hw with rfl | ⟨t,rfl⟩
 exact Below.refl _ _
 exact below_bytesWorld _ _ _
 obtain ⟨ev,hv,hev⟩:=H.glob.syn
 refine Calls.mono (Any.strconv_Atoi_syntax Tryz.laysC172 x_ (by omega) hn ev w (Z.sub.cell hv) hev) ?_
 rintro e w' ⟨N,rfl,_,_,hb⟩
 exact ⟨_,rfl,_,rfl,⟨_,_,rfl⟩,Star.ext Z hb⟩
 obtain ⟨ev,hv,hev⟩:=H.glob.rng
 refine Calls.mono (Any.strconv_Atoi_range Tryz.laysC172 x_ (by omega) hn ev w (Z.sub.cell hv) hev) ?_
 rintro e w' ⟨N,rfl,_,_,hb⟩
 exact ⟨_,rfl,_,rfl,⟨_,_,rfl⟩,Star.ext Z hb⟩
theorem i_number_c {s : ByteArray} {H : FH} {w : World} (Z : Star H w []) {r : Int} (hF : i_number s = some r) :
 C Tryz.prog 33 #[.string s] w fun v w'=>v = I r∧Star H w' []:=by
 unfold i_number at hF
 refine C_enter Tryz.func33 rfl Tryz.ntmps33 rfl (sq (aI rfl (nq ?_)))
 obtain ⟨x6,hx6,hF⟩:=bind_some hF
 refine W_region (mV (.string s) rfl ?_)
 obtain ⟨H8b,l9,s10,z11,k12⟩:=Z.borrow
 refine L_call rfl Tryz.call54 (ops1 rfl) (strconv_Atoi_c (x_:=s) s10 hx6) ?_
 rintro _ w13 ⟨r13_0,rfl,hr13_0,Z⟩
 have Z:=k12 Z c0
 refine mV (.tuple #[I x6.1,r13_0]) rfl (L_ex (v:=I x6.1) rfl rfl rfl (L_ex (v:=r13_0) rfl rfl rfl (aI rfl (aV r13_0 rfl (nq (sq (mV r13_0 rfl (L_ene rfl Tryz.underlying39 rfl rfl hr13_0 (nn (W_cond (b:=x6.2) rfl (fun hc14=>?_) (fun hc14=>?_)))))))))))
 have hF:=(ite_t hc14).symm.trans hF
 refine sq (aI rfl (nn (W_ret (retG1 (v1:=I 0) Tryz.results33 rfl ?_))))
 obtain rfl:=so hF
 exact ⟨rfl,Z⟩
 have hF:=(ite_f hc14).symm.trans hF
 refine W_skip (sq (mI rfl (aI rfl (nn (W_ret (retG1 (v1:=I x6.1) Tryz.results33 rfl ?_))))))
 obtain rfl:=so hF
 exact ⟨rfl,Z⟩
theorem strings_CutPrefix_c {x_ : ByteArray} {y_ : ByteArray} {H : FH} {w : World} (Z : Star H w []) {r : ByteArray × Bool} (hF : strings_CutPrefix x_ y_ = some r) :
 C Tryz.prog 55 #[.string x_,.string y_] w fun v w'=>v = .tuple #[.string r.1,Bo r.2]∧Star H w' []:=by
 cases hF
 refine Calls.mono (Tryz.strings_CutPrefix x_ y_ w) ?_
 rintro e w' ⟨rfl,rfl⟩
 exact ⟨_,rfl,rfl,Z⟩
theorem strings_TrimPrefix_c {x_ : ByteArray} {y_ : ByteArray} {H : FH} {w : World} (Z : Star H w []) {r : ByteArray} (hF : strings_TrimPrefix x_ y_ = some r) :
 C Tryz.prog 56 #[.string x_,.string y_] w fun v w'=>v = .string r∧Star H w' []:=by
 cases hF
 refine Calls.mono (Tryz.strings_TrimPrefix x_ y_ w) ?_
 rintro e w' ⟨rfl,rfl⟩
 exact ⟨_,rfl,rfl,Z⟩
theorem i_readLiteral_c {s : ByteArray} {H : FH} {w : World} (Z : Star H w []) {r : Int} (hF : i_readLiteral s = some r) :
 C Tryz.prog 34 #[.string s] w fun v w'=>v = I r∧Star H w' []:=by
 unfold i_readLiteral at hF
 refine C_enter Tryz.func34 rfl Tryz.ntmps34 rfl (sq (aI rfl (nq ?_)))
 obtain ⟨x6,hx6,hF⟩:=bind_some hF
 refine W_region (mV (.string s) rfl ?_)
 obtain ⟨H8b,l9,s10,z11,k12⟩:=Z.borrow
 refine L_call rfl Tryz.call55 (ops2 rfl rfl) (strings_CutPrefix_c (x_:=s) (y_:=(⟨#[126]⟩ : ByteArray)) s10 hx6) ?_
 rintro _ w13 ⟨rfl,Z⟩
 have Z:=k12 Z c0
 refine mV (.tuple #[.string x6.1,Bo x6.2]) rfl (L_ex (v:=.string x6.1) rfl rfl rfl (L_ex (v:=Bo x6.2) rfl rfl rfl (aV (.string x6.1) rfl (aB rfl (nq ?_)))))
 obtain ⟨x19,hx19,hF⟩:=bind_some hF
 obtain ⟨x26,hx26,hF⟩:=bind_some hF
 refine W_region (mV (.string x6.1) rfl ?_)
 obtain ⟨H28b,l29,s30,z31,k32⟩:=Z.borrow
 refine L_call rfl Tryz.call56 (ops2 rfl rfl) (strings_TrimPrefix_c (x_:=x6.1) (y_:=(⟨#[120]⟩ : ByteArray)) s30 hx19) ?_
 rintro _ w33 ⟨rfl,Z⟩
 have Z:=k32 Z c0
 obtain ⟨H34b,l35,s36,z37,k38⟩:=Z.borrow
 refine L_call rfl Tryz.call33 (ops1 rfl) (i_number_c (s:=x19) s36 hx26) ?_
 rintro _ w39 ⟨rfl,Z⟩
 have Z:=k38 Z c0
 refine aI rfl (nq (sq (mB rfl (nn ?_))))
 obtain ⟨l_40,hA41,hF⟩:=bind_some hF
 obtain ⟨R41,hR41⟩:=exR fun f w_=>f 0 = .string s∧f 5 = I l_40∧Star H w_ ([])
 refine W_join R41 ?_ ?_
 refine W_cond (b:=x6.2) rfl (fun hc42=>?_) (fun hc42=>?_)
 have hA41:=(ite_t hc42).symm.trans hA41
 refine W_region (mI rfl (L_neg rfl rfl (aI rfl (nn ?_))))
 obtain rfl:=so hA41
 exact rj hR41 ⟨rfl,rfl,Z⟩
 have hA41:=(ite_f hc42).symm.trans hA41
 refine W_skip ?_
 obtain rfl:=so hA41
 exact rj hR41 ⟨rfl,rfl,Z⟩
 intro f w_ hR
 obtain ⟨sf0,sf5,Z⟩:=rk hR41 hR
 refine W_seq (W_seq ?_)
 obtain ⟨x48,hx48,hF⟩:=bind_some hF
 obtain ⟨b57,hb57,hF⟩:=bind_some hF
 obtain ⟨R58,hR58⟩:=exR fun f w_=>f 5 = I l_40∧f 25 = Bo b57∧Star H w_ ([])
 refine W_join R58 ?_ ?_
 refine W_region (mF sf5 rfl ?_)
 obtain ⟨H59b,l60,s61,z62,k63⟩:=Z.borrow
 refine L_call rfl Tryz.call57 (ops1 rfl) (i_isLiteral_c (l:=l_40) s61 hx48) ?_
 rintro _ w64 ⟨rfl,Z⟩
 have Z:=k63 Z c0
 refine L_not_ rfl rfl (mB rfl (L_split (d:=20) (b:=(!x48)) rfl (fun hc65=>?_) (fun hc65=>?_)))
 rw [ite_t hc65] at hb57
 refine ps rfl (ps rfl (ps rfl (ps rfl (L_pick (v:=Bo b57) rfl rfl (congrArg Value.bool (so hb57)) (nn (rj hR58 ⟨sf5,rfl,Z⟩))))))
 rw [ite_f hc65] at hb57
 obtain ⟨x55,hx55,hb57⟩:=bind_some hb57
 refine mF sf5 rfl ?_
 obtain ⟨H66b,l67,s68,z69,k70⟩:=Z.borrow
 refine L_call rfl Tryz.call31 (ops1 rfl) (i_literalText_c (l:=l_40) s68 hx55) ?_
 rintro _ w71 ⟨rfl,Z⟩
 have Z:=k70 Z c0
 refine mF sf0 rfl (L_sneq (s:=x55) (s':=s) rfl rfl rfl (L_pick (v:=Bo b57) rfl rfl (congrArg Value.bool (so hb57)) (nn (rj hR58 ⟨sf5,rfl,Z⟩))))
 intro f w_ hR
 obtain ⟨sf5,sf25,Z⟩:=rk hR58 hR
 refine W_cond (b:=b57) sf25 (fun hc72=>?_) (fun hc72=>?_)
 have hF:=(ite_t hc72).symm.trans hF
 refine sq (aI rfl (nn (W_ret (retG1 (v1:=I 0) Tryz.results34 rfl ?_))))
 obtain rfl:=so hF
 exact ⟨rfl,Z⟩
 have hF:=(ite_f hc72).symm.trans hF
 refine W_skip (sq (mF sf5 rfl (aI rfl (nn (W_ret (retG1 (v1:=I l_40) Tryz.results34 rfl ?_))))))
 obtain rfl:=so hF
 exact ⟨rfl,Z⟩
theorem i_ParseConstraint_c {fu : Nat} {text : ByteArray} {H : FH} {w : World} (Z : Star H w []) {r : Con × Bool} (hF : i_ParseConstraint fu text = some r) :
 C Tryz.prog 18 #[.string text] w fun v w'=>∃ (u1 : Value),v = .tuple #[.agg #[u1,I r.1.bound],Bo r.2]∧Star H w' [oF 58 rTerm u1 r.1.terms]:=by
 unfold i_ParseConstraint at hF
 refine C_enter Tryz.func18 rfl Tryz.ntmps18 rfl (sq (L_al (cs:=#[S0,I 0]) rfl Tryz.zeroValue37 rfl Z (fun g3 w4 Z=>aB rfl (nq ?_))))
 obtain ⟨x10,hx10,hF⟩:=bind_some hF
 refine W_region (mV (.string text) rfl ?_)
 obtain ⟨H13b,l14,s15,z16,k17⟩:=Z.borrow
 refine L_call rfl Tryz.call32 (ops2 rfl rfl) (strings_Split_c (x_:=text) (y_:=(⟨#[32]⟩ : ByteArray)) s15 hx10) ?_
 rintro r18_0 w18 ⟨_,rfl,Z⟩
 have Z:=k17 Z (co closed_str c0)
 refine aV r18_0 rfl (ns (mV r18_0 rfl (L_len rfl Tryz.underlying43 rfl (Star.len 0 Z rfl) (L_sub rfl rfl rfl (aI rfl (nq (W_seq ?_)))))))
 obtain ⟨R20,hR20⟩:=exR fun f w_=>f 0 = .string text∧f 2 = Pt g3∧f 4 = r18_0∧f 5 = I (i64 ((x10.length : Int) - 2))∧f 23 = Bo (((decide ((i64 ((x10.length : Int) - 2)) < 0)) || (decide ((i64 ((x10.length : Int) - 2)) > 24))) || ((Int.tmod (i64 ((x10.length : Int) - 2)) 2) != 0))∧Star H w_ ([oF 9 RP.str r18_0 x10,box g3 37 #[S0,I 0]])
 refine W_join R20 ?_ ?_
 refine W_region (mI rfl (L_lss rfl rfl rfl (mB rfl (L_split (d:=15) (b:=decide ((i64 ((x10.length : Int) - 2)) < 0)) rfl (fun hc21=>?_) (fun hc21=>?_)))))
 refine ps rfl (ps rfl (L_pick (v:=Bo ((decide ((i64 ((x10.length : Int) - 2)) < 0)) || (decide ((i64 ((x10.length : Int) - 2)) > 24)))) rfl rfl (or_t hc21) (mB rfl (L_split (d:=19) (b:=((decide ((i64 ((x10.length : Int) - 2)) < 0)) || (decide ((i64 ((x10.length : Int) - 2)) > 24)))) rfl (fun hc22=>?_) (fun hc22=>?_)))))
 refine ps rfl (ps rfl (ps rfl (L_pick (v:=Bo (((decide ((i64 ((x10.length : Int) - 2)) < 0)) || (decide ((i64 ((x10.length : Int) - 2)) > 24))) || ((Int.tmod (i64 ((x10.length : Int) - 2)) 2) != 0))) rfl rfl (or_t hc22) (nn (rj hR20 ⟨rfl,rfl,rfl,rfl,rfl,Z⟩)))))
 refine mI rfl (L_rem (m:=i64 ((x10.length : Int) - 2)) (n:=2) rfl rfl rfl (by decide) (L_neq rfl rfl rfl (L_pick (v:=Bo (((decide ((i64 ((x10.length : Int) - 2)) < 0)) || (decide ((i64 ((x10.length : Int) - 2)) > 24))) || ((Int.tmod (i64 ((x10.length : Int) - 2)) 2) != 0))) rfl rfl (or_f hc22 rfl) (nn (rj hR20 ⟨rfl,rfl,rfl,rfl,rfl,Z⟩)))))
 refine mI rfl (L_gtr rfl rfl rfl (L_pick (v:=Bo ((decide ((i64 ((x10.length : Int) - 2)) < 0)) || (decide ((i64 ((x10.length : Int) - 2)) > 24)))) rfl rfl (or_f hc21 rfl) (mB rfl (L_split (d:=19) (b:=((decide ((i64 ((x10.length : Int) - 2)) < 0)) || (decide ((i64 ((x10.length : Int) - 2)) > 24)))) rfl (fun hc23=>?_) (fun hc23=>?_)))))
 refine ps rfl (ps rfl (ps rfl (L_pick (v:=Bo (((decide ((i64 ((x10.length : Int) - 2)) < 0)) || (decide ((i64 ((x10.length : Int) - 2)) > 24))) || ((Int.tmod (i64 ((x10.length : Int) - 2)) 2) != 0))) rfl rfl (or_t hc23) (nn (rj hR20 ⟨rfl,rfl,rfl,rfl,rfl,Z⟩)))))
 refine mI rfl (L_rem (m:=i64 ((x10.length : Int) - 2)) (n:=2) rfl rfl rfl (by decide) (L_neq rfl rfl rfl (L_pick (v:=Bo (((decide ((i64 ((x10.length : Int) - 2)) < 0)) || (decide ((i64 ((x10.length : Int) - 2)) > 24))) || ((Int.tmod (i64 ((x10.length : Int) - 2)) 2) != 0))) rfl rfl (or_f hc23 rfl) (nn (rj hR20 ⟨rfl,rfl,rfl,rfl,rfl,Z⟩)))))
 intro f w_ hR
 obtain ⟨sf0,sf2,sf4,sf5,sf23,Z⟩:=rk hR20 hR
 refine W_cond (b:=(((decide ((i64 ((x10.length : Int) - 2)) < 0)) || (decide ((i64 ((x10.length : Int) - 2)) > 24))) || ((Int.tmod (i64 ((x10.length : Int) - 2)) 2) != 0))) sf23 (fun hc24=>?_) (fun hc24=>?_)
 have hF:=(ite_t hc24).symm.trans hF
 refine sq (L_bld rfl (parts0 ) (bld_37_  ) (L_staB (vs:=#[S0,I 0]) (cs2:=#[S0,I 0]) 1 rfl Tryz.sizeOf37 sf2 rfl rfl (ones_cons rfl (ones_cons rfl ones_nil)) Z rfl (by show 0 + 2≤2; decide) rfl (fun w26 Z=>aB rfl (nn (W_ret (retG2 (v1:=.agg #[S0,I 0]) (v2:=Bo false) Tryz.results18 (resV_agg Tryz.isAgg37 Tryz.sizeOf37 sf2 (Star.blkAt 0 Z rfl) rfl) rfl ?_))))))
 obtain rfl:=so hF
 have Z:=Star.addNil (R:=(OR.frz rTerm)) (e:=58) Z
 exact ⟨S0,rfl,(Star.keepN 1 Z)⟩
 have hF:=(ite_f hc24).symm.trans hF
 refine W_skip (W_seq ?_)
 obtain ⟨x28,hx28,hF⟩:=bind_some hF
 obtain ⟨x38,hx38,hF⟩:=bind_some hF
 refine W_region (mF sf4 rfl (mF sf5 rfl (L_add rfl rfl rfl ?_)))
 obtain ⟨g43,cap_g43,hv44,_,_⟩:=Star.row 0 Z rfl hx28
 refine L_ixO (R:=(OR.frz RP.str)) (tb:=0) 0 rfl Tryz.underlying43 Tryz.sizeOf9 rfl hv44 (by first | rfl | simp) rfl hx28 ?_
 obtain ⟨cs45,hr45,hat45⟩:=Star.eltF 0 Z rfl hv44 hx28
 obtain rfl : _ = [_]:=hr45
 refine L_ld rfl Tryz.isAgg9 rfl (At.cell hat45 (j:=0) rfl) ?_
 obtain ⟨H47b,l48,s49,z50,k51⟩:=Z.borrow
 refine L_call rfl Tryz.call33 (ops1 rfl) (i_number_c (s:=x28) s49 hx38) ?_
 rintro _ w52 ⟨rfl,Z⟩
 have Z:=k51 Z c0
 refine L_bld rfl (parts1 rfl) (bld_37_1 (I x38) rfl) (L_al (cs:=#[S0,I 0]) rfl Tryz.zeroValue37 rfl Z (fun g53 w54 Z=>L_staB (vs:=#[S0,I x38]) (cs2:=#[S0,I x38]) 0 rfl Tryz.sizeOf37 rfl rfl rfl (ones_cons rfl (ones_cons rfl ones_nil)) Z rfl (by show 0 + 2≤2; decide) rfl (fun w55 Z=>nq (sq (aI rfl (nn ?_))))))
 obtain ⟨j62,hL62,hF⟩:=bind_some hF
 obtain ⟨R62,hR62⟩:=exR fun f w_=>∃ i_57 : Int,∃ g53_0_58 : List Term,∃ H60 : FH,∃ v58_g53_0 : Value,j62 = .nx (i_57,g53_0_58)∧Le H H60∧f 0 = .string text∧f 2 = Pt g3∧f 6 = Pt g53∧Star H60 w_ ([oF 58 rTerm v58_g53_0 g53_0_58,box g53 37 #[v58_g53_0,I x38],box g3 37 #[S0,I 0]])
 refine W_join R62 ?_ ?_
 refine W_block ?_
 obtain ⟨I62,hI62⟩:=exI fun n f w_=>∃ i_57 : Int,∃ g53_0_58 : List Term,∃ H60 : FH,∃ v58_g53_0 : Value,whileL (i_ParseConstraint_b1 x10) n (i_57,g53_0_58) = some j62∧Le H H60∧f 0 = .string text∧f 2 = Pt g3∧f 4 = r18_0∧f 5 = I (i64 ((x10.length : Int) - 2))∧f 6 = Pt g53∧f 7 = I i_57∧Star H60 w_ ([oF 9 RP.str r18_0 x10,oF 58 rTerm v58_g53_0 g53_0_58,box g53 37 #[v58_g53_0,I x38],box g3 37 #[S0,I 0]])
 have Z:=Star.addNil (R:=(OR.frz rTerm)) (e:=58) Z
 have Z:=Z.gets [3,2,2,3] rfl
 refine W_loop I62 (n:=fu) ?_ ?_
 exact ij hI62 ⟨0,[],H,S0,hL62,(Le.refl _),sf0,sf2,sf4,sf5,rfl,rfl,Z⟩
 intro n62 f w_ hI
 obtain ⟨i_57,g53_0_58,H60,v58_g53_0,hL62,l61,sf0,sf2,sf4,sf5,sf6,sf7,Z⟩:=ik hI62 hI
 rcases n62 with _ | n62
 exact (while_zero hL62).elim
 obtain ⟨o62,hB62,hL62⟩:=while_succ hL62
 rw [i_ParseConstraint_b1] at hB62
 refine W_seq (sq (mF sf7 rfl (mF sf5 rfl (L_lss rfl rfl rfl (nn (W_cond (b:=decide (i_57 < (i64 ((x10.length : Int) - 2)))) rfl (fun hc64=>?_) (fun hc64=>?_)))))))
 have hB62:=(ite_t hc64).symm.trans hB62
 refine W_skip (W_seq (W_block ?_))
 obtain ⟨x65,hx65,hB62⟩:=bind_some hB62
 obtain ⟨x75,hx75,hB62⟩:=bind_some hB62
 obtain ⟨x77,hx77,hB62⟩:=bind_some hB62
 obtain ⟨x85,hx85,hB62⟩:=bind_some hB62
 obtain ⟨x90,hx90,hB62⟩:=bind_some hB62
 obtain ⟨g96,cap_g96,hv97,_,_⟩:=Star.row 0 Z rfl hx65
 refine W_drawS 15 [isV (Pt g53),isV (v58_g53_0),isV (r18_0),isV (I i_57),isV (.pointer (some ⟨g96,Int.toNat i_57 * 1,none⟩)),isV (.string x65),isV (I x75),isV (r18_0),isV (I i_57),isV (I (i64 (i_57 + 1))),isV (.pointer (some ⟨g96,Int.toNat (i64 (i_57 + 1)) * 1,none⟩)),isV (.string x77),isV (I x85),isV (.agg #[I x75,I x85]),anyF] [oF 9 RP.str r18_0 x10,oF 58 rTerm v58_g53_0 g53_0_58,box g53 37 #[v58_g53_0,I x38],box g3 37 #[S0,I 0]] [.made 14 51 (fun v_=>oF 58 rTerm v_ ([({ coef:=x75,lit:=x85 } : Term)])) none] ([]) [([],[]),([],[]),([],[]),([],[]),([],[]),([],[]),([],[]),([],[]),([],[]),([],[]),([],[]),([],[]),([],[]),([],[]),([],[0])] (S:=[(some 14,[51],none)]) Tryz_mix (by kernel_rfl) rfl (by kernel_rfl) (amF_cons (mono_V _) (amF_cons (mono_V _) (amF_cons (mono_V _) (amF_cons (mono_V _) (amF_cons (mono_V _) (amF_cons (mono_V _) (amF_cons (mono_V _) (amF_cons (mono_V _) (amF_cons (mono_V _) (amF_cons (mono_V _) (amF_cons (mono_V _) (amF_cons (mono_V _) (amF_cons (mono_V _) (amF_cons (mono_V _) (amF_cons (mono_any) amF_nil))))))))))))))) Z ?_ (fun f w_ H95 hS95 hE95 hT95 Z=>?_)
 refine opsS_cons (fun f w_ _ _ s _ _ Z=>fA 0 fa_37_0 ((s 6 rfl).trans sf6) rfl (nO rfl rfl Z)) (opsS_cons (fun f w_ _ _ _ _ p Z=>ldB 2 Z Tryz.isAgg35 (p 0 37 rfl rfl) rfl rfl (nO rfl rfl Z)) (opsS_cons (fun f w_ _ _ s _ _ Z=>mF ((s 4 rfl).trans sf4) rfl (nO rfl rfl Z)) (opsS_cons (fun f w_ _ _ s _ _ Z=>mF ((s 7 rfl).trans sf7) rfl (nO rfl rfl Z)) (opsS_cons (fun f w_ _ _ _ _ p Z=>L_ixO (R:=(OR.frz RP.str)) (tb:=0) 0 rfl Tryz.underlying43 Tryz.sizeOf9 (p 2 39 rfl rfl) hv97 (by first | rfl | simp) (p 3 40 rfl rfl) hx65 (nO rfl rfl Z)) (opsS_cons ?_ ?_)))))
 intro f w_ H95 X95 hS95 hE95 hP95 Z
 obtain ⟨cs117,hr117,hat117⟩:=Star.eltF 0 Z rfl hv97 hx65
 obtain rfl : _ = [_]:=hr117
 refine L_ld rfl Tryz.isAgg9 (hP95 4 41 rfl rfl) (At.cell hat117 (j:=0) rfl) (L_nil ⟨rfl,_,_,rfl,Le.refl _,fun _ _=>rfl,Z⟩)
 refine opsS_cons ?_ ?_
 intro f w_ H95 X95 hS95 hE95 hP95 Z
 obtain ⟨H119b,l120,s121,z122,k123⟩:=Z.borrow
 refine L_call rfl Tryz.call33 (ops1 (hP95 5 42 rfl rfl)) (i_number_c (s:=x65) s121 hx75) ?_
 rintro _ w124 ⟨rfl,Z⟩
 have Z:=k123 Z c0
 exact L_nil ⟨rfl,_,_,rfl,Le.refl _,fun _ _=>rfl,Z⟩
 refine opsS_cons (fun f w_ _ _ s _ _ Z=>mF ((s 4 rfl).trans sf4) rfl (nO rfl rfl Z)) (opsS_cons (fun f w_ _ _ s _ _ Z=>mF ((s 7 rfl).trans sf7) rfl (nO rfl rfl Z)) (opsS_cons (fun f w_ _ _ _ _ p Z=>L_add rfl (p 8 45 rfl rfl) rfl (nO rfl rfl Z)) (opsS_cons (fun f w_ _ _ _ _ p Z=>L_ixO (R:=(OR.frz RP.str)) (tb:=0) 0 rfl Tryz.underlying43 Tryz.sizeOf9 (p 7 44 rfl rfl) hv97 (by first | rfl | simp) (p 9 46 rfl rfl) hx77 (nO rfl rfl Z)) (opsS_cons ?_ ?_))))
 intro f w_ H95 X95 hS95 hE95 hP95 Z
 obtain ⟨cs125,hr125,hat125⟩:=Star.eltF 0 Z rfl hv97 hx77
 obtain rfl : _ = [_]:=hr125
 refine L_ld rfl Tryz.isAgg9 (hP95 10 47 rfl rfl) (At.cell hat125 (j:=0) rfl) (L_nil ⟨rfl,_,_,rfl,Le.refl _,fun _ _=>rfl,Z⟩)
 refine opsS_cons ?_ ?_
 intro f w_ H95 X95 hS95 hE95 hP95 Z
 obtain ⟨H127b,l128,s129,z130,k131⟩:=Z.borrow
 refine L_call rfl Tryz.call34 (ops1 (hP95 11 48 rfl rfl)) (i_readLiteral_c (s:=x77) s129 hx85) ?_
 rintro _ w132 ⟨rfl,Z⟩
 have Z:=k131 Z c0
 exact L_nil ⟨rfl,_,_,rfl,Le.refl _,fun _ _=>rfl,Z⟩
 refine opsS_cons (fun f w_ _ _ _ _ p Z=>L_bld rfl (parts2 (p 6 43 rfl rfl) (p 12 49 rfl rfl)) (bld_58_0_1 (I x75) (I x85) rfl rfl) (nO rfl rfl Z)) (opsS_cons ?_ ?_)
 intro f w_ H95 X95 hS95 hE95 hP95 Z
 refine L_bs rfl (parts1 (hP95 13 50 rfl rfl)) (bs_35_1_2 (I x75) (I x85) ) Z (fun g133 w134 Z=>?_)
 have Z:=Star.addF (r:=rTerm) (cs:=[I x75,I x85]) (x:=({ coef:=x75,lit:=x85 } : Term)) Z (rTerm_iff.2 rfl)
 have Z:=Star.mkRow (R:=(OR.frz rTerm)) [([I x75,I x85],({ coef:=x75,lit:=x85 } : Term))] [({ coef:=x75,lit:=x85 } : Term)] 1 Z rfl rfl rfl (by decide)
 have Z:=Z.gets [4,4,4,4] rfl
 exact L_nil ⟨rfl,_,_,rfl,Le.refl _,fun _ _=>trivial,Z⟩
 exact opsS_nil
 have Z : Star H95 w_ ([oF 9 RP.str r18_0 x10,oF 58 rTerm v58_g53_0 g53_0_58,box g53 37 #[v58_g53_0,I x38],box g3 37 #[S0,I 0],oF 58 rTerm (f 51) ([({ coef:=x75,lit:=x85 } : Term)])]):=Z
 have Z:=Z.gets [4,2] rfl
 refine L_appM (v:=v58_g53_0) (u:=(f 51)) rfl et_35 (hT95 1 38 rfl rfl) rfl Z hx90 (fun v137 w138 Z=>fA 0 fa_37_0 ((hS95 6 rfl).trans sf6) rfl (L_stB (v:=v137) (cs2:=#[v137,I x38]) 2 rfl Tryz.sizeOf35 rfl rfl (one_len (Star.len 0 Z rfl)) Z rfl rfl rfl (fun w140 Z=>nn (W_region (mF ((hS95 7 rfl).trans sf7) rfl (L_add rfl rfl rfl (aI rfl (nn ?_))))))))
 obtain rfl:=so hB62
 have Z:=Z.gets [3,1,2,3] rfl
 show ∃ m,m < _∧I62 m _ _
 refine ⟨n62,Nat.lt_succ_self _,?_⟩
 exact ij hI62 ⟨i64 (i_57 + 2),x90,H95,v137,hL62,(Le.trans l61 hE95),((hS95 0 rfl).trans sf0),((hS95 2 rfl).trans sf2),((hS95 4 rfl).trans sf4),((hS95 5 rfl).trans sf5),((hS95 6 rfl).trans sf6),rfl,Z⟩
 have hB62:=(ite_f hc64).symm.trans hB62
 refine W_exit ?_
 obtain rfl:=so hB62
 obtain rfl:=so hL62
 have Z:=Z.gets [3,3,3] rfl
 exact rj hR62 ⟨i_57,g53_0_58,H60,v58_g53_0,rfl,l61,sf0,sf2,sf6,(Star.keepN 3 Z)⟩
 intro f w_ hR
 obtain ⟨i_57,g53_0_58,H60,v58_g53_0,rfl,l61,sf0,sf2,sf6,Z⟩:=rk hR62 hR
 refine W_seq (W_seq ?_)
 obtain ⟨x147,hx147,hF⟩:=bind_some hF
 obtain ⟨b157,hb157,hF⟩:=bind_some hF
 obtain ⟨R158,hR158⟩:=exR fun f w_=>f 2 = Pt g3∧f 6 = Pt g53∧f 62 = Bo b157∧Star H60 w_ ([oF 58 rTerm v58_g53_0 g53_0_58,box g53 37 #[v58_g53_0,I x38],box g3 37 #[S0,I 0]])
 refine W_join R158 ?_ ?_
 refine W_region (L_lda (cs:=[v58_g53_0,I x38]) rfl Tryz.isAgg37 Tryz.sizeOf37 sf6 (At.sub0 (Blk.at (Star.blkAt 1 Z rfl)) 0 2) rfl ?_)
 obtain ⟨H159b,l160,s161,z162,k163⟩:=Z.borrow
 have hb164 : (rS 58 rTerm).rel H159b [v58_g53_0] g53_0_58:=fz_own 0 z162 rfl
 refine L_call rfl Tryz.call35 (ops1 rfl) (i_ConstraintValid_c (c:=({ terms:=g53_0_58,bound:=x38 } : Con)) s161 hb164 hx147) ?_
 rintro _ w165 ⟨rfl,Z⟩
 have Z:=k163 Z c0
 refine L_not_ rfl rfl (mB rfl (L_split (d:=57) (b:=(!x147)) rfl (fun hc166=>?_) (fun hc166=>?_)))
 rw [ite_t hc166] at hb157
 refine ps rfl (ps rfl (ps rfl (ps rfl (L_pick (v:=Bo b157) rfl rfl (congrArg Value.bool (so hb157)) (nn (rj hR158 ⟨sf2,sf6,rfl,Z⟩))))))
 rw [ite_f hc166] at hb157
 obtain ⟨x155,hx155,hb157⟩:=bind_some hb157
 refine L_lda (cs:=[v58_g53_0,I x38]) rfl Tryz.isAgg37 Tryz.sizeOf37 sf6 (At.sub0 (Blk.at (Star.blkAt 1 Z rfl)) 0 2) rfl ?_
 obtain ⟨H167b,l168,s169,z170,k171⟩:=Z.borrow
 have hb172 : (rS 58 rTerm).rel H167b [v58_g53_0] g53_0_58:=fz_own 0 z170 rfl
 refine L_call rfl Tryz.call15 (ops1 rfl) (i_Constraint_text_c (c:=({ terms:=g53_0_58,bound:=x38 } : Con)) s169 hb172 hx155) ?_
 rintro _ w173 ⟨rfl,Z⟩
 have Z:=k171 Z c0
 refine mF sf0 rfl (L_sneq (s:=x155) (s':=text) rfl rfl rfl (L_pick (v:=Bo b157) rfl rfl (congrArg Value.bool (so hb157)) (nn (rj hR158 ⟨sf2,sf6,rfl,Z⟩))))
 intro f w_ hR
 obtain ⟨sf2,sf6,sf62,Z⟩:=rk hR158 hR
 refine W_cond (b:=b157) sf62 (fun hc174=>?_) (fun hc174=>?_)
 have hF:=(ite_t hc174).symm.trans hF
 refine sq (L_bld rfl (parts0 ) (bld_37_  ) (L_staB (vs:=#[S0,I 0]) (cs2:=#[S0,I 0]) 2 rfl Tryz.sizeOf37 sf2 rfl rfl (ones_cons rfl (ones_cons rfl ones_nil)) Z rfl (by show 0 + 2≤2; decide) rfl (fun w176 Z=>aB rfl (nn (W_ret (retG2 (v1:=.agg #[S0,I 0]) (v2:=Bo false) Tryz.results18 (resV_agg Tryz.isAgg37 Tryz.sizeOf37 sf2 (Star.blkAt 0 Z rfl) rfl) rfl ?_))))))
 obtain rfl:=so hF
 have Z:=Star.addNil (R:=(OR.frz rTerm)) (e:=58) Z
 exact ⟨S0,rfl,(Star.down (Star.keepN 1 Z) l61 (co closed_term c0))⟩
 have hF:=(ite_f hc174).symm.trans hF
 refine W_skip (sq (L_lda (cs:=[v58_g53_0,I x38]) rfl Tryz.isAgg37 Tryz.sizeOf37 sf6 (At.sub0 (Blk.at (Star.blkAt 1 Z rfl)) 0 2) rfl (L_staB (vs:=#[v58_g53_0,I x38]) (cs2:=#[v58_g53_0,I x38]) 2 rfl Tryz.sizeOf37 sf2 rfl rfl (ones_cons (one_len (Star.len 0 Z rfl)) (ones_cons rfl ones_nil)) Z rfl (by show 0 + 2≤2; decide) rfl (fun w179 Z=>aB rfl (nn (W_ret (retG2 (v1:=.agg #[v58_g53_0,I x38]) (v2:=Bo true) Tryz.results18 (resV_agg Tryz.isAgg37 Tryz.sizeOf37 sf2 (Star.blkAt 0 Z rfl) rfl) rfl ?_)))))))
 obtain rfl:=so hF
 have Z:=Z.get 1 rfl
 exact ⟨v58_g53_0,rfl,(Star.down (Star.keepN 1 Z) l61 (co closed_term c0))⟩
theorem i_ParseProblem_c {fu : Nat} {text : ByteArray} {H : FH} {w : World} (Z : Star H w []) {r : (List Con) × Bool} (hF : i_ParseProblem fu text = some r) :
 C Tryz.prog 6 #[.string text] w fun v w'=>∃ (u1 : Value),v = .tuple #[u1,Bo r.2]∧Star H w' [oS 37 (oCon 58) u1 r.1]:=by
 unfold i_ParseProblem at hF
 refine C_enter Tryz.func6 rfl Tryz.ntmps6 rfl (sq (aV S0 rfl (aB rfl (nq ?_))))
 obtain ⟨x1,hx1,hF⟩:=bind_some hF
 refine W_region (mV (.string text) rfl (L_call rfl Tryz.call17 (ops2 rfl rfl) (i_linesOf_c (text:=text) (most:=400) Z hx1) ?_))
 rintro _ w3 ⟨H3,l3,r3_0,rfl,hr3_0,Z⟩
 refine mV (.tuple #[r3_0,Bo x1.2]) rfl (L_ex (v:=r3_0) rfl rfl rfl (L_ex (v:=Bo x1.2) rfl rfl rfl (aV r3_0 rfl (aB rfl (nq (sq (mB rfl (L_not_ rfl rfl (nn (W_cond (b:=(!x1.2)) rfl (fun hc4=>?_) (fun hc4=>?_)))))))))))
 have hF:=(ite_t hc4).symm.trans hF
 refine sq (aV S0 rfl (aB rfl (nn (W_ret (retG2 (v1:=S0) (v2:=Bo false) Tryz.results6 rfl rfl ?_)))))
 obtain rfl:=so hF
 have Z:=Star.addNil (R:=(oCon 58)) (e:=37) Z
 exact ⟨S0,rfl,(Star.down Z l3 (co closed_oCon c0))⟩
 have hF:=(ite_f hc4).symm.trans hF
 refine W_skip (sq (aV S0 rfl (nq (sq (mV r3_0 rfl (L_len rfl Tryz.underlying43 rfl (slice_len hr3_0) (mI rfl (nn ?_))))))))
 have hlen9 : List.length x1.1≤9223372036854775807:=len_le (slice_len hr3_0)
 obtain ⟨j9,hL9,hF⟩:=bind_some hF
 obtain ⟨R9,hR9⟩:=exR fun f w_=>∃ list_7 : List Con,∃ v7_list : Value,j9 = .nx list_7∧f 6 = v7_list∧Star H3 w_ ([oS 37 (oCon 58) v7_list list_7])
 refine W_join R9 ?_ ?_
 refine W_block ?_
 obtain ⟨I9,hI9⟩:=exI fun n f w_=>∃ i_6 : Nat,∃ suf9 : List ByteArray,∃ list_7 : List Con,∃ v7_list : Value,n = suf9.length∧List.drop i_6 x1.1 = suf9∧i_6 + suf9.length = x1.1.length∧rangeL (i_ParseProblem_b1 fu) suf9 i_6 list_7 = some j9∧f 6 = v7_list∧f 18 = r3_0∧f 19 = I (x1.1.length : Int)∧f 20 = I i_6∧Star H3 w_ ([oS 37 (oCon 58) v7_list list_7])
 have Z:=Star.addNil (R:=(oCon 58)) (e:=37) Z
 refine W_loop I9 (n:=x1.1.length) ?_ ?_
 exact ij hI9 ⟨0,x1.1,[],S0,rfl,rfl,Nat.zero_add _,hL9,rfl,rfl,rfl,rfl,Z⟩
 intro n9 f w_ hI
 obtain ⟨i_6,suf9,list_7,v7_list,rfl,hd9,hl9,hL9,sf6,sf18,sf19,sf20,Z⟩:=ik hI9 hI
 refine sq (L_lss rfl sf20 sf19 (nq (W_cond (b:=decide ((i_6 : Int) < (x1.1.length : Int))) rfl (fun hc11=>?_) (fun hc11=>?_))))
 have hlt9:=of_decide_eq_true hc11
 rcases suf9 with _ | ⟨x_9,rest9⟩
 exact absurd hlt9 (by simp at hl9; omega)
 obtain ⟨o9,hB9,hL9⟩:=range_cons hL9
 rw [i_ParseProblem_b1] at hB9
 have hix9:=drop_idx hd9
 refine W_skip (W_seq (W_block (sq (L_ix (r:=RP.str) rfl Tryz.underlying43 Tryz.sizeOf9 sf18 hr3_0 sf20 hix9 (fun g16 o17 cs_g16 hrk_hat18 hat18=>?_)))))
 obtain rfl : _ = [_]:=hrk_hat18
 refine L_ld rfl Tryz.isAgg9 rfl (At.cell (AtH.at hat18 Z.sub) (j:=0) rfl) (aV (.string x_9) rfl (nq ?_))
 obtain ⟨x25,hx25,hB9⟩:=bind_some hB9
 refine W_region (mV (.string x_9) rfl ?_)
 obtain ⟨H31b,l32,s33,z34,k35⟩:=Z.borrow
 refine L_call rfl Tryz.call18 (ops1 rfl) (i_ParseConstraint_c (text:=x_9) s33 hx25) ?_
 rintro _ w36 ⟨r36_0,rfl,Z⟩
 have Z:=k35 Z (co closed_term c0)
 refine mV (.tuple #[.agg #[r36_0,I x25.1.bound],Bo x25.2]) rfl (L_ex (v:=.agg #[r36_0,I x25.1.bound]) rfl rfl rfl (L_ex (v:=Bo x25.2) rfl rfl rfl (L_al (cs:=#[S0,I 0]) rfl Tryz.zeroValue37 rfl Z (fun g38 w39 Z=>L_staB (vs:=#[r36_0,I x25.1.bound]) (cs2:=#[r36_0,I x25.1.bound]) 0 rfl Tryz.sizeOf37 rfl rfl rfl (ones_cons (one_len (Star.len 1 Z rfl)) (ones_cons rfl ones_nil)) Z rfl (by show 0 + 2≤2; decide) rfl (fun w40 Z=>aB rfl (nq (sq (mB rfl (L_not_ rfl rfl (nn (W_cond (b:=(!x25.2)) rfl (fun hc41=>?_) (fun hc41=>?_))))))))))))
 have hB9:=(ite_t hc41).symm.trans hB9
 refine sq (aV S0 rfl (aB rfl (nn (W_ret (retG2 (v1:=S0) (v2:=Bo false) Tryz.results6 rfl rfl ?_)))))
 obtain rfl:=so hB9
 obtain rfl:=so hL9
 obtain rfl:=so hF
 have Z:=Star.addNil (R:=(oCon 58)) (e:=37) Z
 exact ⟨S0,rfl,(Star.down (Star.keepN 1 Z) l3 (co closed_oCon c0))⟩
 have hB9:=(ite_f hc41).symm.trans hB9
 refine W_skip ?_
 obtain ⟨x46,hx46,hB9⟩:=bind_some hB9
 refine W_region (mF sf6 rfl (L_lda (cs:=[r36_0,I x25.1.bound]) rfl Tryz.isAgg37 Tryz.sizeOf37 rfl (At.sub0 (Blk.at (Star.blkAt 0 Z rfl)) 0 2) rfl (L_bs rfl (parts1 rfl) (bs_23_1_2 (r36_0) (I x25.1.bound) ) Z (fun g50 w51 Z=>?_))))
 have Z:=Z.get 2 rfl
 have Z:=oCon_close (c:=x25.1) Z
 have Z:=Star.mkRow (R:=(oCon 58)) [([r36_0,I x25.1.bound],x25.1)] [x25.1] 1 Z rfl rfl rfl (by decide)
 have Z:=Z.get 2 rfl
 refine L_appM (v:=v7_list) (u:=(Sl g50 1 1)) rfl et_23 rfl rfl Z hx46 (fun v53 w54 Z=>aV v53 rfl (nn (W_region (L_add rfl sf20 rfl (mI rfl (nn ?_))))))
 obtain rfl:=so hB9
 show ∃ m,m < _∧I9 m _ _
 refine ⟨rest9.length,by simp,?_⟩
 exact ij hI9 ⟨i_6 + 1,rest9,x46,v53,rfl,drop_next hd9,by simp at hl9; omega,hL9,rfl,sf18,sf19,(Eq.trans rfl (congrArg (Value.int .i64) (i64_succ (n:=x1.1.length) (by simp at hl9; omega) hlen9))),(Star.keepN 1 Z)⟩
 rcases suf9 with _ | ⟨_,_⟩
 obtain rfl:=range_nil hL9
 refine W_exit (rj hR9 ⟨list_7,v7_list,rfl,sf6,Z⟩)
 exact absurd (of_decide_eq_false hc11) (by simp at hl9; omega)
 intro f w_ hR
 obtain ⟨list_7,v7_list,rfl,sf6,Z⟩:=rk hR9 hR
 refine sq (mF sf6 rfl (aV v7_list rfl (aB rfl (nn (W_ret (retG2 (v1:=v7_list) (v2:=Bo true) Tryz.results6 rfl rfl ?_))))))
 obtain rfl:=so hF
 exact ⟨v7_list,rfl,(Star.down Z l3 (co closed_oCon c0))⟩
theorem s_l1Lit_c {n_ : Int} {H : FH} {w : World} (Z : Star H w []) {r : Bool} (hF : s_l1Lit n_ = some r) :
 C Tryz.prog 40 #[I n_] w fun v w'=>v = Bo r∧Star H w' []:=by
 unfold s_l1Lit at hF
 refine C_enter Tryz.func40 rfl Tryz.ntmps40 rfl (sq (aB rfl (nq ?_)))
 obtain ⟨R1,hR1⟩:=exR fun f w_=>f 2 = Bo (((n_ != 0) && (decide (n_ ≥ (-12)))) && (decide (n_≤12)))∧Star H w_ ([])
 refine W_join R1 ?_ ?_
 refine W_region (mI rfl (L_neq rfl rfl rfl (mB rfl (L_split (d:=5) (b:=(n_ != 0)) rfl (fun hc2=>?_) (fun hc2=>?_)))))
 refine mI rfl (L_geq rfl rfl rfl (L_pick (v:=Bo ((n_ != 0) && (decide (n_ ≥ (-12))))) rfl rfl (and_t hc2 rfl) (mB rfl (L_split (d:=9) (b:=((n_ != 0) && (decide (n_ ≥ (-12))))) rfl (fun hc3=>?_) (fun hc3=>?_)))))
 refine mI rfl (L_leq rfl rfl rfl (L_pick (v:=Bo (((n_ != 0) && (decide (n_ ≥ (-12)))) && (decide (n_≤12)))) rfl rfl (and_t hc3 rfl) (aB rfl (nn (rj hR1 ⟨rfl,Z⟩)))))
 refine ps rfl (ps rfl (L_pick (v:=Bo (((n_ != 0) && (decide (n_ ≥ (-12)))) && (decide (n_≤12)))) rfl rfl (and_f hc3) (aB rfl (nn (rj hR1 ⟨rfl,Z⟩)))))
 refine ps rfl (ps rfl (L_pick (v:=Bo ((n_ != 0) && (decide (n_ ≥ (-12))))) rfl rfl (and_f hc2) (mB rfl (L_split (d:=9) (b:=((n_ != 0) && (decide (n_ ≥ (-12))))) rfl (fun hc4=>?_) (fun hc4=>?_)))))
 refine mI rfl (L_leq rfl rfl rfl (L_pick (v:=Bo (((n_ != 0) && (decide (n_ ≥ (-12)))) && (decide (n_≤12)))) rfl rfl (and_t hc4 rfl) (aB rfl (nn (rj hR1 ⟨rfl,Z⟩)))))
 refine ps rfl (ps rfl (L_pick (v:=Bo (((n_ != 0) && (decide (n_ ≥ (-12)))) && (decide (n_≤12)))) rfl rfl (and_f hc4) (aB rfl (nn (rj hR1 ⟨rfl,Z⟩)))))
 intro f w_ hR
 obtain ⟨sf2,Z⟩:=rk hR1 hR
 refine W_ret (retG1 (v1:=Bo (((n_ != 0) && (decide (n_ ≥ (-12)))) && (decide (n_≤12)))) Tryz.results40 sf2 ?_)
 obtain rfl:=so hF
 exact ⟨rfl,Z⟩
theorem s_l1Abs_c {n_ : Int} {H : FH} {w : World} (Z : Star H w []) {r : Int} (hF : s_l1Abs n_ = some r) :
 C Tryz.prog 41 #[I n_] w fun v w'=>v = I r∧Star H w' []:=by
 unfold s_l1Abs at hF
 refine C_enter Tryz.func41 rfl Tryz.ntmps41 rfl (sq (aI rfl (nq (sq (mI rfl (L_lss rfl rfl rfl (nn (W_cond (b:=decide (n_ < 0)) rfl (fun hc1=>?_) (fun hc1=>?_)))))))))
 have hF:=(ite_t hc1).symm.trans hF
 refine sq (mI rfl (L_neg rfl rfl (aI rfl (nn (W_ret (retG1 (v1:=I (i64 (-n_))) Tryz.results41 rfl ?_))))))
 obtain rfl:=so hF
 exact ⟨rfl,Z⟩
 have hF:=(ite_f hc1).symm.trans hF
 refine W_skip (sq (mI rfl (aI rfl (nn (W_ret (retG1 (v1:=I n_) Tryz.results41 rfl ?_))))))
 obtain rfl:=so hF
 exact ⟨rfl,Z⟩
theorem s_ConstraintValid_c {c : Con} {v0_0 : Value} {H : FH} {w : World} (Z : Star H w []) (h0_0 : (rS 58 rTerm).rel H [v0_0] c.terms) {r : Bool} (hF : s_ConstraintValid c = some r) :
 C Tryz.prog 21 #[.agg #[v0_0,I c.bound]] w fun v w'=>v = Bo r∧Star H w' []:=by
 unfold s_ConstraintValid at hF
 refine C_enter Tryz.func21 rfl Tryz.ntmps21 rfl (sq (L_box (v:=.agg #[v0_0,I c.bound]) (cs:=#[v0_0,I c.bound]) rfl rfl rfl Z (fun g3 w4 Z=>aB rfl (nq (sq (aI rfl (nn ?_)))))))
 have hlen8 : List.length c.terms≤9223372036854775807:=len_le (slice_len h0_0)
 obtain ⟨j8,hL8,hF⟩:=bind_some hF
 obtain ⟨R8,hR8⟩:=exR fun f w_=>∃ H6 : FH,j8 = .nx ()∧Le H H6∧f 1 = Pt g3∧Star H6 w_ ([box g3 37 #[v0_0,I c.bound]])
 refine W_join R8 ?_ ?_
 refine W_block ?_
 obtain ⟨I8,hI8⟩:=exI fun n f w_=>∃ i_5 : Nat,∃ suf8 : List Term,∃ H6 : FH,n = suf8.length∧List.drop i_5 c.terms = suf8∧i_5 + suf8.length = c.terms.length∧rangeL (s_ConstraintValid_b1 c) suf8 i_5 () = some j8∧Le H H6∧f 1 = Pt g3∧f 3 = I i_5∧Star H6 w_ ([box g3 37 #[v0_0,I c.bound]])
 refine W_loop I8 (n:=c.terms.length) ?_ ?_
 exact ij hI8 ⟨0,c.terms,H,rfl,rfl,Nat.zero_add _,hL8,(Le.refl _),rfl,rfl,Z⟩
 intro n8 f w_ hI
 obtain ⟨i_5,suf8,H6,rfl,hd8,hl8,hL8,l7,sf1,sf3,Z⟩:=ik hI8 hI
 refine W_seq (sq (mF sf3 rfl (fA 0 fa_37_0 sf1 rfl (ldB 0 Z Tryz.isAgg35 rfl rfl rfl (L_len rfl Tryz.underlying35 rfl (slice_len (RP.mono _ h0_0 l7)) (L_lss rfl rfl rfl (nn (W_cond (b:=decide ((i_5 : Int) < (c.terms.length : Int))) rfl (fun hc9=>?_) (fun hc9=>?_)))))))))
 have hlt8:=of_decide_eq_true hc9
 rcases suf8 with _ | ⟨x_8,rest8⟩
 exact absurd hlt8 (by simp at hl8; omega)
 obtain ⟨o8,hB8,hL8⟩:=range_cons hL8
 rw [s_ConstraintValid_b1] at hB8
 have hix8:=drop_idx hd8
 refine W_skip (W_seq (W_block (sq (fA 0 fa_37_0 sf1 rfl (ldB 0 Z Tryz.isAgg35 rfl rfl rfl (mF sf3 rfl (L_ix (r:=rTerm) rfl Tryz.underlying35 Tryz.sizeOf58 rfl (RP.mono _ h0_0 l7) rfl hix8 (fun g17 o18 cs_g17 hrk_hat19 hat19=>?_))))))))
 obtain rfl:=rTerm_iff.1 hrk_hat19
 refine L_lda (cs:=[I x_8.coef,I x_8.lit]) rfl Tryz.isAgg58 Tryz.sizeOf58 rfl (At.sub (AtH.at hat19 Z.sub) 0 2) rfl (L_al (cs:=#[I 0,I 0]) rfl Tryz.zeroValue58 rfl Z (fun g21 w22 Z=>L_staB (vs:=#[I x_8.coef,I x_8.lit]) (cs2:=#[I x_8.coef,I x_8.lit]) 0 rfl Tryz.sizeOf58 rfl rfl rfl (ones_cons rfl (ones_cons rfl ones_nil)) Z rfl (by show 0 + 2≤2; decide) rfl (fun w23 Z=>nq ?_)))
 obtain ⟨x29,hx29,hB8⟩:=bind_some hB8
 obtain ⟨b51,hb51,hB8⟩:=bind_some hB8
 obtain ⟨R55,hR55⟩:=exR fun f w_=>∃ H53 : FH,Le H6 H53∧f 1 = Pt g3∧f 3 = I i_5∧f 48 = Bo b51∧Star H53 w_ ([box g3 37 #[v0_0,I c.bound]])
 refine W_join R55 ?_ ?_
 rcases Bool.eq_false_or_eq_true (!x29) with hc56 | hc56
 rcases Bool.eq_false_or_eq_true ((!x29) || (decide (x_8.coef < 1))) with hc57 | hc57
 rcases Bool.eq_false_or_eq_true (((!x29) || (decide (x_8.coef < 1))) || (decide (x_8.coef > 1000))) with hc58 | hc58
 rw [ite_t hc58] at hb51
 refine W_drawS 28 [isV (Pq g21 1),isV (I x_8.lit),isV (Bo x29),isV (Bo (!x29)),isV (Bo (!x29)),isV (undef),isV (undef),isV (undef),isV (Bo ((!x29) || (decide (x_8.coef < 1)))),isV (Bo ((!x29) || (decide (x_8.coef < 1)))),isV (undef),isV (undef),isV (undef),isV (Bo (((!x29) || (decide (x_8.coef < 1))) || (decide (x_8.coef > 1000)))),isV (Bo (((!x29) || (decide (x_8.coef < 1))) || (decide (x_8.coef > 1000)))),isV (undef),isV (undef),isV (undef),isV (undef),isV (undef),isV (undef),isV (undef),isV (undef),isV (undef),isV (undef),isV (undef),isV (undef),isV (undef)] [box g21 58 #[I x_8.coef,I x_8.lit],box g3 37 #[v0_0,I c.bound]] [] ([]) [([],[]),([],[]),([],[]),([],[]),([],[]),([],[]),([],[]),([],[]),([],[]),([],[]),([],[]),([],[]),([],[]),([],[]),([],[]),([],[]),([],[]),([],[]),([],[]),([],[]),([],[]),([],[]),([],[]),([],[]),([],[]),([],[]),([],[]),([],[])] (S:=[]) Tryz_mix (by kernel_rfl) rfl (by kernel_rfl) (amF_cons (mono_V _) (amF_cons (mono_V _) (amF_cons (mono_V _) (amF_cons (mono_V _) (amF_cons (mono_V _) (amF_cons (mono_V _) (amF_cons (mono_V _) (amF_cons (mono_V _) (amF_cons (mono_V _) (amF_cons (mono_V _) (amF_cons (mono_V _) (amF_cons (mono_V _) (amF_cons (mono_V _) (amF_cons (mono_V _) (amF_cons (mono_V _) (amF_cons (mono_V _) (amF_cons (mono_V _) (amF_cons (mono_V _) (amF_cons (mono_V _) (amF_cons (mono_V _) (amF_cons (mono_V _) (amF_cons (mono_V _) (amF_cons (mono_V _) (amF_cons (mono_V _) (amF_cons (mono_V _) (amF_cons (mono_V _) (amF_cons (mono_V _) (amF_cons (mono_V _) amF_nil)))))))))))))))))))))))))))) Z ?_ (fun f w_ H52 hS52 hE52 hT52 Z=>?_)
 refine opsS_cons (fun f w_ _ _ s _ _ Z=>fA 1 fa_58_1 ((s 4 rfl).trans rfl) rfl (nO rfl rfl Z)) (opsS_cons (fun f w_ _ _ _ _ p Z=>ldB 0 Z Tryz.isAgg3 (p 0 17 rfl rfl) rfl rfl (nO rfl rfl Z)) (opsS_cons ?_ ?_))
 intro f w_ H52 X52 hS52 hE52 hP52 Z
 obtain ⟨H65b,l66,s67,z68,k69⟩:=Z.borrow
 refine L_call rfl Tryz.call40 (ops1 (hP52 1 18 rfl rfl)) (s_l1Lit_c (n_:=x_8.lit) s67 hx29) ?_
 rintro _ w70 ⟨rfl,Z⟩
 have Z:=k69 Z c0
 exact L_nil ⟨rfl,_,_,rfl,Le.refl _,fun _ _=>rfl,Z⟩
 refine opsS_cons (fun f w_ _ _ _ _ p Z=>L_not_ rfl (p 2 19 rfl rfl) (nO rfl rfl Z)) (opsS_cons (fun f w_ _ _ _ _ p Z=>mF (p 3 20 rfl rfl) rfl (nO rfl rfl Z)) (oP (fun _ _ p=>gN (p 4 21 rfl rfl) hc56 rfl) (fun _=>rfl) (oP (fun _ _ p=>gN (p 4 21 rfl rfl) hc56 rfl) (fun _=>rfl) (oP (fun _ _ p=>gN (p 4 21 rfl rfl) hc56 rfl) (fun _=>rfl) (opsS_cons (fun f w_ _ _ _ _ p Z=>pkT (v:=Bo ((!x29) || (decide (x_8.coef < 1)))) (p 4 21 rfl rfl) hc56 rfl (or_t hc56) (nO rfl rfl Z)) (opsS_cons (fun f w_ _ _ _ _ p Z=>mF (p 8 25 rfl rfl) rfl (nO rfl rfl Z)) (oP (fun _ _ p=>gN (p 9 26 rfl rfl) hc57 rfl) (fun _=>rfl) (oP (fun _ _ p=>gN (p 9 26 rfl rfl) hc57 rfl) (fun _=>rfl) (oP (fun _ _ p=>gN (p 9 26 rfl rfl) hc57 rfl) (fun _=>rfl) (opsS_cons (fun f w_ _ _ _ _ p Z=>pkT (v:=Bo (((!x29) || (decide (x_8.coef < 1))) || (decide (x_8.coef > 1000)))) (p 9 26 rfl rfl) hc57 rfl (or_t hc57) (nO rfl rfl Z)) (opsS_cons (fun f w_ _ _ _ _ p Z=>mF (p 13 30 rfl rfl) rfl (nO rfl rfl Z)) (oP (fun _ _ p=>gN (p 14 31 rfl rfl) hc58 rfl) (fun _=>rfl) (oP (fun _ _ p=>gN (p 14 31 rfl rfl) hc58 rfl) (fun _=>rfl) (oP (fun _ _ p=>gN (p 14 31 rfl rfl) hc58 rfl) (fun _=>rfl) (oP (fun _ _ p=>g_undef rfl (p 17 34 rfl rfl) rfl) (fun _=>rfl) (oP (fun _ _ p=>g_undef rfl (p 17 34 rfl rfl) rfl) (fun _=>rfl) (oP (fun _ _ p=>g_undef rfl (p 17 34 rfl rfl) rfl) (fun _=>rfl) (oP (fun _ _ p=>g_undef rfl (p 17 34 rfl rfl) rfl) (fun _=>rfl) (oP (fun _ _ p=>g_undef rfl (p 17 34 rfl rfl) rfl) (fun _=>rfl) (oP (fun _ _ p=>g_undef rfl (p 17 34 rfl rfl) rfl) (fun _=>rfl) (oP (fun _ _ p=>g_undef rfl (p 17 34 rfl rfl) rfl) (fun _=>rfl) (oP (fun _ _ p=>g_undef rfl (p 17 34 rfl rfl) rfl) (fun _=>rfl) (oP (fun _ _ p=>g_undef rfl (p 17 34 rfl rfl) rfl) (fun _=>rfl) (oP (fun _ _ p=>g_undef rfl (p 17 34 rfl rfl) rfl) (fun _=>rfl) (opsS_nil)))))))))))))))))))))))))
 refine ps (g_undef rfl (hT52 17 34 rfl rfl) rfl) (ps (g_undef rfl (hT52 17 34 rfl rfl) rfl) (ps (g_no rfl (Eq.trans (hT52 14 31 rfl rfl) (congrArg Value.bool hc58)) rfl rfl) (L_pick (v:=Bo b51) rfl (Eq.trans (hT52 14 31 rfl rfl) (congrArg Value.bool hc58)) (congrArg Value.bool (so hb51)) (nn ?_))))
 have Z:=Z.get 1 rfl
 exact rj hR55 ⟨H52,hE52,((hS52 1 rfl).trans sf1),((hS52 3 rfl).trans sf3),rfl,(Star.keepN 1 Z)⟩
 rw [ite_f hc58] at hb51
 obtain ⟨b50,hb50,hb51⟩:=bind_some hb51
 rcases Bool.eq_false_or_eq_true (decide ((i_5 : Int) > 0)) with hc71 | hc71
 rw [ite_t hc71] at hb50
 obtain ⟨x31,hx31,hb50⟩:=bind_some hb50
 obtain ⟨x41,hx41,hb50⟩:=bind_some hb50
 obtain ⟨x48,hx48,hb50⟩:=bind_some hb50
 refine W_drawS 28 [isV (Pq g21 1),isV (I x_8.lit),isV (Bo x29),isV (Bo (!x29)),isV (Bo (!x29)),isV (undef),isV (undef),isV (undef),isV (Bo ((!x29) || (decide (x_8.coef < 1)))),isV (Bo ((!x29) || (decide (x_8.coef < 1)))),isV (undef),isV (undef),isV (undef),isV (Bo (((!x29) || (decide (x_8.coef < 1))) || (decide (x_8.coef > 1000)))),isV (Bo (((!x29) || (decide (x_8.coef < 1))) || (decide (x_8.coef > 1000)))),isV (I i_5),isV (Bo (decide ((i_5 : Int) > 0))),isV (Bo (decide ((i_5 : Int) > 0))),isV (Pt g3),isV (v0_0),isV (I i_5),isV (I (i64 ((i_5 : Int) - 1))),isEl rTerm x31 0,isEl rTerm x31 1,isV (I x31.lit),isV (I x41),isV (Pq g21 1),isV (I x_8.lit)] [box g21 58 #[I x_8.coef,I x_8.lit],box g3 37 #[v0_0,I c.bound]] [] ([]) [([],[]),([],[]),([],[]),([],[]),([],[]),([],[]),([],[]),([],[]),([],[]),([],[]),([],[]),([],[]),([],[]),([],[]),([],[]),([],[]),([],[]),([],[]),([],[]),([],[]),([],[]),([],[]),([],[]),([],[]),([],[]),([],[]),([],[]),([],[])] (S:=[]) Tryz_mix (by kernel_rfl) rfl (by kernel_rfl) (amF_cons (mono_V _) (amF_cons (mono_V _) (amF_cons (mono_V _) (amF_cons (mono_V _) (amF_cons (mono_V _) (amF_cons (mono_V _) (amF_cons (mono_V _) (amF_cons (mono_V _) (amF_cons (mono_V _) (amF_cons (mono_V _) (amF_cons (mono_V _) (amF_cons (mono_V _) (amF_cons (mono_V _) (amF_cons (mono_V _) (amF_cons (mono_V _) (amF_cons (mono_V _) (amF_cons (mono_V _) (amF_cons (mono_V _) (amF_cons (mono_V _) (amF_cons (mono_V _) (amF_cons (mono_V _) (amF_cons (mono_V _) (amF_cons (mono_el _ _ _) (amF_cons (mono_el _ _ _) (amF_cons (mono_V _) (amF_cons (mono_V _) (amF_cons (mono_V _) (amF_cons (mono_V _) amF_nil)))))))))))))))))))))))))))) Z ?_ (fun f w_ H52 hS52 hE52 hT52 Z=>?_)
 refine opsS_cons (fun f w_ _ _ s _ _ Z=>fA 1 fa_58_1 ((s 4 rfl).trans rfl) rfl (nO rfl rfl Z)) (opsS_cons (fun f w_ _ _ _ _ p Z=>ldB 0 Z Tryz.isAgg3 (p 0 17 rfl rfl) rfl rfl (nO rfl rfl Z)) (opsS_cons ?_ ?_))
 intro f w_ H52 X52 hS52 hE52 hP52 Z
 obtain ⟨H88b,l89,s90,z91,k92⟩:=Z.borrow
 refine L_call rfl Tryz.call40 (ops1 (hP52 1 18 rfl rfl)) (s_l1Lit_c (n_:=x_8.lit) s90 hx29) ?_
 rintro _ w93 ⟨rfl,Z⟩
 have Z:=k92 Z c0
 exact L_nil ⟨rfl,_,_,rfl,Le.refl _,fun _ _=>rfl,Z⟩
 refine opsS_cons (fun f w_ _ _ _ _ p Z=>L_not_ rfl (p 2 19 rfl rfl) (nO rfl rfl Z)) (opsS_cons (fun f w_ _ _ _ _ p Z=>mF (p 3 20 rfl rfl) rfl (nO rfl rfl Z)) (oP (fun _ _ p=>gN (p 4 21 rfl rfl) hc56 rfl) (fun _=>rfl) (oP (fun _ _ p=>gN (p 4 21 rfl rfl) hc56 rfl) (fun _=>rfl) (oP (fun _ _ p=>gN (p 4 21 rfl rfl) hc56 rfl) (fun _=>rfl) (opsS_cons (fun f w_ _ _ _ _ p Z=>pkT (v:=Bo ((!x29) || (decide (x_8.coef < 1)))) (p 4 21 rfl rfl) hc56 rfl (or_t hc56) (nO rfl rfl Z)) (opsS_cons (fun f w_ _ _ _ _ p Z=>mF (p 8 25 rfl rfl) rfl (nO rfl rfl Z)) (oP (fun _ _ p=>gN (p 9 26 rfl rfl) hc57 rfl) (fun _=>rfl) (oP (fun _ _ p=>gN (p 9 26 rfl rfl) hc57 rfl) (fun _=>rfl) (oP (fun _ _ p=>gN (p 9 26 rfl rfl) hc57 rfl) (fun _=>rfl) (opsS_cons (fun f w_ _ _ _ _ p Z=>pkT (v:=Bo (((!x29) || (decide (x_8.coef < 1))) || (decide (x_8.coef > 1000)))) (p 9 26 rfl rfl) hc57 rfl (or_t hc57) (nO rfl rfl Z)) (opsS_cons (fun f w_ _ _ _ _ p Z=>mF (p 13 30 rfl rfl) rfl (nO rfl rfl Z)) (opsS_cons (fun f w_ _ _ s _ p Z=>L_mv (v:=I i_5) (g_yes rfl (Eq.trans (p 14 31 rfl rfl) (congrArg Value.bool hc58)) rfl) ((s 3 rfl).trans sf3) (nO rfl rfl Z)) (opsS_cons (fun f w_ _ _ _ _ p Z=>L_gtr (g_yes rfl (Eq.trans (p 14 31 rfl rfl) (congrArg Value.bool hc58)) rfl) (p 15 32 rfl rfl) rfl (nO rfl rfl Z)) (opsS_cons (fun f w_ _ _ _ _ p Z=>L_mv (v:=Bo (decide ((i_5 : Int) > 0))) (g_yes rfl (Eq.trans (p 14 31 rfl rfl) (congrArg Value.bool hc58)) rfl) (p 16 33 rfl rfl) (nO rfl rfl Z)) (opsS_cons (fun f w_ _ _ s _ p Z=>L_fa (o':=0) (g_yes rfl (Eq.trans (p 17 34 rfl rfl) (congrArg Value.bool hc71)) rfl) fa_37_0 ((s 1 rfl).trans sf1) rfl (nO rfl rfl Z)) (opsS_cons (fun f w_ _ _ _ _ p Z=>L_ld (v:=v0_0) (g_yes rfl (Eq.trans (p 17 34 rfl rfl) (congrArg Value.bool hc71)) rfl) Tryz.isAgg35 (p 18 35 rfl rfl) (At.cell0 (Blk.at (Star.blkAt 1 Z rfl)) (j:=0) rfl) (nO rfl rfl Z)) (opsS_cons (fun f w_ _ _ s _ p Z=>L_mv (v:=I i_5) (g_yes rfl (Eq.trans (p 17 34 rfl rfl) (congrArg Value.bool hc71)) rfl) ((s 3 rfl).trans sf3) (nO rfl rfl Z)) (opsS_cons (fun f w_ _ _ _ _ p Z=>L_sub (g_yes rfl (Eq.trans (p 17 34 rfl rfl) (congrArg Value.bool hc71)) rfl) (p 20 37 rfl rfl) rfl (nO rfl rfl Z)) (opsS_cons ?_ ?_)))))))))))))))))))
 intro f w_ H52 X52 hS52 hE52 hP52 Z
 refine L_ix (r:=rTerm) (g_yes rfl (Eq.trans (hP52 17 34 rfl rfl) (congrArg Value.bool hc71)) rfl) Tryz.underlying35 Tryz.sizeOf58 (hP52 19 36 rfl rfl) (RP.mono _ h0_0 (Le.trans l7 hE52)) (hP52 21 38 rfl rfl) hx31 (fun g94 o95 cs_g94 hrk_hat96 hat96=>?_)
 obtain rfl:=rTerm_iff.1 hrk_hat96
 exact L_nil ⟨rfl,_,_,rfl,Le.refl _,fun _ _=>⟨_,_,_,rfl,hrk_hat96,hat96⟩,Z⟩
 refine opsS_cons ?_ ?_
 intro f w_ H52 X52 hS52 hE52 hP52 Z
 obtain ⟨g98,o98,cs98,hv98,hrk_hat98,hat98⟩:=(hP52 22 39 rfl rfl)
 obtain rfl:=rTerm_iff.1 hrk_hat98
 refine L_fa (o':=o98 + 1) (g_yes rfl (Eq.trans (hP52 17 34 rfl rfl) (congrArg Value.bool hc71)) rfl) fa_58_1 hv98 rfl (L_nil ⟨rfl,_,_,rfl,Le.refl _,fun _ _=>⟨_,_,_,rfl,hrk_hat98,hat98⟩,Z⟩)
 refine opsS_cons ?_ ?_
 intro f w_ H52 X52 hS52 hE52 hP52 Z
 obtain ⟨g100,o100,cs100,hv100,hrk_hat100,hat100⟩:=(hP52 23 40 rfl rfl)
 obtain rfl:=rTerm_iff.1 hrk_hat100
 refine L_ld (v:=I x31.lit) (g_yes rfl (Eq.trans (hP52 17 34 rfl rfl) (congrArg Value.bool hc71)) rfl) Tryz.isAgg3 hv100 (At.cell (AtH.at hat100 Z.sub) (j:=1) rfl) (L_nil ⟨rfl,_,_,rfl,Le.refl _,fun _ _=>rfl,Z⟩)
 refine opsS_cons ?_ ?_
 intro f w_ H52 X52 hS52 hE52 hP52 Z
 obtain ⟨H102b,l103,s104,z105,k106⟩:=Z.borrow
 refine L_call (g_yes rfl (Eq.trans (hP52 17 34 rfl rfl) (congrArg Value.bool hc71)) rfl) Tryz.call41 (ops1 (hP52 24 41 rfl rfl)) (s_l1Abs_c (n_:=x31.lit) s104 hx41) ?_
 rintro _ w107 ⟨rfl,Z⟩
 have Z:=k106 Z c0
 exact L_nil ⟨rfl,_,_,rfl,Le.refl _,fun _ _=>rfl,Z⟩
 refine opsS_cons (fun f w_ _ _ s _ p Z=>L_fa (o':=1) (g_yes rfl (Eq.trans (p 17 34 rfl rfl) (congrArg Value.bool hc71)) rfl) fa_58_1 ((s 4 rfl).trans rfl) rfl (nO rfl rfl Z)) (opsS_cons (fun f w_ _ _ _ _ p Z=>L_ld (v:=I x_8.lit) (g_yes rfl (Eq.trans (p 17 34 rfl rfl) (congrArg Value.bool hc71)) rfl) Tryz.isAgg3 (p 26 43 rfl rfl) (At.cell0 (Blk.at (Star.blkAt 0 Z rfl)) (j:=1) rfl) (nO rfl rfl Z)) (opsS_nil))
 obtain ⟨H108b,l109,s110,z111,k112⟩:=Z.borrow
 refine L_call (g_yes rfl (Eq.trans (hT52 17 34 rfl rfl) (congrArg Value.bool hc71)) rfl) Tryz.call41 (ops1 (hT52 27 44 rfl rfl)) (s_l1Abs_c (n_:=x_8.lit) s110 hx48) ?_
 rintro _ w113 ⟨rfl,Z⟩
 have Z:=k112 Z c0
 refine L_geq (g_yes rfl (Eq.trans (hT52 17 34 rfl rfl) (congrArg Value.bool hc71)) rfl) (hT52 25 42 rfl rfl) rfl (L_pick (v:=Bo b50) (g_yes rfl (Eq.trans (hT52 14 31 rfl rfl) (congrArg Value.bool hc58)) rfl) (Eq.trans (hT52 17 34 rfl rfl) (congrArg Value.bool hc71)) (congrArg Value.bool (so hb50)) (L_pick (v:=Bo b51) rfl (Eq.trans (hT52 14 31 rfl rfl) (congrArg Value.bool hc58)) (congrArg Value.bool (so hb51)) (nn ?_)))
 have Z:=Z.get 1 rfl
 exact rj hR55 ⟨H52,hE52,((hS52 1 rfl).trans sf1),((hS52 3 rfl).trans sf3),rfl,(Star.keepN 1 Z)⟩
 rw [ite_f hc71] at hb50
 refine W_drawS 28 [isV (Pq g21 1),isV (I x_8.lit),isV (Bo x29),isV (Bo (!x29)),isV (Bo (!x29)),isV (undef),isV (undef),isV (undef),isV (Bo ((!x29) || (decide (x_8.coef < 1)))),isV (Bo ((!x29) || (decide (x_8.coef < 1)))),isV (undef),isV (undef),isV (undef),isV (Bo (((!x29) || (decide (x_8.coef < 1))) || (decide (x_8.coef > 1000)))),isV (Bo (((!x29) || (decide (x_8.coef < 1))) || (decide (x_8.coef > 1000)))),isV (I i_5),isV (Bo (decide ((i_5 : Int) > 0))),isV (Bo (decide ((i_5 : Int) > 0))),isV (undef),isV (undef),isV (undef),isV (undef),isV (undef),isV (undef),isV (undef),isV (undef),isV (undef),isV (undef)] [box g21 58 #[I x_8.coef,I x_8.lit],box g3 37 #[v0_0,I c.bound]] [] ([]) [([],[]),([],[]),([],[]),([],[]),([],[]),([],[]),([],[]),([],[]),([],[]),([],[]),([],[]),([],[]),([],[]),([],[]),([],[]),([],[]),([],[]),([],[]),([],[]),([],[]),([],[]),([],[]),([],[]),([],[]),([],[]),([],[]),([],[]),([],[])] (S:=[]) Tryz_mix (by kernel_rfl) rfl (by kernel_rfl) (amF_cons (mono_V _) (amF_cons (mono_V _) (amF_cons (mono_V _) (amF_cons (mono_V _) (amF_cons (mono_V _) (amF_cons (mono_V _) (amF_cons (mono_V _) (amF_cons (mono_V _) (amF_cons (mono_V _) (amF_cons (mono_V _) (amF_cons (mono_V _) (amF_cons (mono_V _) (amF_cons (mono_V _) (amF_cons (mono_V _) (amF_cons (mono_V _) (amF_cons (mono_V _) (amF_cons (mono_V _) (amF_cons (mono_V _) (amF_cons (mono_V _) (amF_cons (mono_V _) (amF_cons (mono_V _) (amF_cons (mono_V _) (amF_cons (mono_V _) (amF_cons (mono_V _) (amF_cons (mono_V _) (amF_cons (mono_V _) (amF_cons (mono_V _) (amF_cons (mono_V _) amF_nil)))))))))))))))))))))))))))) Z ?_ (fun f w_ H52 hS52 hE52 hT52 Z=>?_)
 refine opsS_cons (fun f w_ _ _ s _ _ Z=>fA 1 fa_58_1 ((s 4 rfl).trans rfl) rfl (nO rfl rfl Z)) (opsS_cons (fun f w_ _ _ _ _ p Z=>ldB 0 Z Tryz.isAgg3 (p 0 17 rfl rfl) rfl rfl (nO rfl rfl Z)) (opsS_cons ?_ ?_))
 intro f w_ H52 X52 hS52 hE52 hP52 Z
 obtain ⟨H120b,l121,s122,z123,k124⟩:=Z.borrow
 refine L_call rfl Tryz.call40 (ops1 (hP52 1 18 rfl rfl)) (s_l1Lit_c (n_:=x_8.lit) s122 hx29) ?_
 rintro _ w125 ⟨rfl,Z⟩
 have Z:=k124 Z c0
 exact L_nil ⟨rfl,_,_,rfl,Le.refl _,fun _ _=>rfl,Z⟩
 refine opsS_cons (fun f w_ _ _ _ _ p Z=>L_not_ rfl (p 2 19 rfl rfl) (nO rfl rfl Z)) (opsS_cons (fun f w_ _ _ _ _ p Z=>mF (p 3 20 rfl rfl) rfl (nO rfl rfl Z)) (oP (fun _ _ p=>gN (p 4 21 rfl rfl) hc56 rfl) (fun _=>rfl) (oP (fun _ _ p=>gN (p 4 21 rfl rfl) hc56 rfl) (fun _=>rfl) (oP (fun _ _ p=>gN (p 4 21 rfl rfl) hc56 rfl) (fun _=>rfl) (opsS_cons (fun f w_ _ _ _ _ p Z=>pkT (v:=Bo ((!x29) || (decide (x_8.coef < 1)))) (p 4 21 rfl rfl) hc56 rfl (or_t hc56) (nO rfl rfl Z)) (opsS_cons (fun f w_ _ _ _ _ p Z=>mF (p 8 25 rfl rfl) rfl (nO rfl rfl Z)) (oP (fun _ _ p=>gN (p 9 26 rfl rfl) hc57 rfl) (fun _=>rfl) (oP (fun _ _ p=>gN (p 9 26 rfl rfl) hc57 rfl) (fun _=>rfl) (oP (fun _ _ p=>gN (p 9 26 rfl rfl) hc57 rfl) (fun _=>rfl) (opsS_cons (fun f w_ _ _ _ _ p Z=>pkT (v:=Bo (((!x29) || (decide (x_8.coef < 1))) || (decide (x_8.coef > 1000)))) (p 9 26 rfl rfl) hc57 rfl (or_t hc57) (nO rfl rfl Z)) (opsS_cons (fun f w_ _ _ _ _ p Z=>mF (p 13 30 rfl rfl) rfl (nO rfl rfl Z)) (opsS_cons (fun f w_ _ _ s _ p Z=>L_mv (v:=I i_5) (g_yes rfl (Eq.trans (p 14 31 rfl rfl) (congrArg Value.bool hc58)) rfl) ((s 3 rfl).trans sf3) (nO rfl rfl Z)) (opsS_cons (fun f w_ _ _ _ _ p Z=>L_gtr (g_yes rfl (Eq.trans (p 14 31 rfl rfl) (congrArg Value.bool hc58)) rfl) (p 15 32 rfl rfl) rfl (nO rfl rfl Z)) (opsS_cons (fun f w_ _ _ _ _ p Z=>L_mv (v:=Bo (decide ((i_5 : Int) > 0))) (g_yes rfl (Eq.trans (p 14 31 rfl rfl) (congrArg Value.bool hc58)) rfl) (p 16 33 rfl rfl) (nO rfl rfl Z)) (oP (fun _ _ p=>gN (p 17 34 rfl rfl) hc71 rfl) (fun _=>rfl) (oP (fun _ _ p=>gN (p 17 34 rfl rfl) hc71 rfl) (fun _=>rfl) (oP (fun _ _ p=>gN (p 17 34 rfl rfl) hc71 rfl) (fun _=>rfl) (oP (fun _ _ p=>gN (p 17 34 rfl rfl) hc71 rfl) (fun _=>rfl) (oP (fun _ _ p=>gN (p 17 34 rfl rfl) hc71 rfl) (fun _=>rfl) (oP (fun _ _ p=>gN (p 17 34 rfl rfl) hc71 rfl) (fun _=>rfl) (oP (fun _ _ p=>gN (p 17 34 rfl rfl) hc71 rfl) (fun _=>rfl) (oP (fun _ _ p=>gN (p 17 34 rfl rfl) hc71 rfl) (fun _=>rfl) (oP (fun _ _ p=>gN (p 17 34 rfl rfl) hc71 rfl) (fun _=>rfl) (oP (fun _ _ p=>gN (p 17 34 rfl rfl) hc71 rfl) (fun _=>rfl) (opsS_nil)))))))))))))))))))))))))
 refine ps (g_no rfl (Eq.trans (hT52 17 34 rfl rfl) (congrArg Value.bool hc71)) rfl rfl) (ps (g_no rfl (Eq.trans (hT52 17 34 rfl rfl) (congrArg Value.bool hc71)) rfl rfl) (L_pick (v:=Bo b50) (g_yes rfl (Eq.trans (hT52 14 31 rfl rfl) (congrArg Value.bool hc58)) rfl) (Eq.trans (hT52 17 34 rfl rfl) (congrArg Value.bool hc71)) (congrArg Value.bool (so hb50)) (L_pick (v:=Bo b51) rfl (Eq.trans (hT52 14 31 rfl rfl) (congrArg Value.bool hc58)) (congrArg Value.bool (so hb51)) (nn ?_))))
 have Z:=Z.get 1 rfl
 exact rj hR55 ⟨H52,hE52,((hS52 1 rfl).trans sf1),((hS52 3 rfl).trans sf3),rfl,(Star.keepN 1 Z)⟩
 rcases Bool.eq_false_or_eq_true (((!x29) || (decide (x_8.coef < 1))) || (decide (x_8.coef > 1000))) with hc126 | hc126
 rw [ite_t hc126] at hb51
 refine W_drawS 28 [isV (Pq g21 1),isV (I x_8.lit),isV (Bo x29),isV (Bo (!x29)),isV (Bo (!x29)),isV (undef),isV (undef),isV (undef),isV (Bo ((!x29) || (decide (x_8.coef < 1)))),isV (Bo ((!x29) || (decide (x_8.coef < 1)))),isV (Pt g21),isV (I x_8.coef),isV (Bo (decide (x_8.coef > 1000))),isV (Bo (((!x29) || (decide (x_8.coef < 1))) || (decide (x_8.coef > 1000)))),isV (Bo (((!x29) || (decide (x_8.coef < 1))) || (decide (x_8.coef > 1000)))),isV (undef),isV (undef),isV (undef),isV (undef),isV (undef),isV (undef),isV (undef),isV (undef),isV (undef),isV (undef),isV (undef),isV (undef),isV (undef)] [box g21 58 #[I x_8.coef,I x_8.lit],box g3 37 #[v0_0,I c.bound]] [] ([]) [([],[]),([],[]),([],[]),([],[]),([],[]),([],[]),([],[]),([],[]),([],[]),([],[]),([],[]),([],[]),([],[]),([],[]),([],[]),([],[]),([],[]),([],[]),([],[]),([],[]),([],[]),([],[]),([],[]),([],[]),([],[]),([],[]),([],[]),([],[])] (S:=[]) Tryz_mix (by kernel_rfl) rfl (by kernel_rfl) (amF_cons (mono_V _) (amF_cons (mono_V _) (amF_cons (mono_V _) (amF_cons (mono_V _) (amF_cons (mono_V _) (amF_cons (mono_V _) (amF_cons (mono_V _) (amF_cons (mono_V _) (amF_cons (mono_V _) (amF_cons (mono_V _) (amF_cons (mono_V _) (amF_cons (mono_V _) (amF_cons (mono_V _) (amF_cons (mono_V _) (amF_cons (mono_V _) (amF_cons (mono_V _) (amF_cons (mono_V _) (amF_cons (mono_V _) (amF_cons (mono_V _) (amF_cons (mono_V _) (amF_cons (mono_V _) (amF_cons (mono_V _) (amF_cons (mono_V _) (amF_cons (mono_V _) (amF_cons (mono_V _) (amF_cons (mono_V _) (amF_cons (mono_V _) (amF_cons (mono_V _) amF_nil)))))))))))))))))))))))))))) Z ?_ (fun f w_ H52 hS52 hE52 hT52 Z=>?_)
 refine opsS_cons (fun f w_ _ _ s _ _ Z=>fA 1 fa_58_1 ((s 4 rfl).trans rfl) rfl (nO rfl rfl Z)) (opsS_cons (fun f w_ _ _ _ _ p Z=>ldB 0 Z Tryz.isAgg3 (p 0 17 rfl rfl) rfl rfl (nO rfl rfl Z)) (opsS_cons ?_ ?_))
 intro f w_ H52 X52 hS52 hE52 hP52 Z
 obtain ⟨H133b,l134,s135,z136,k137⟩:=Z.borrow
 refine L_call rfl Tryz.call40 (ops1 (hP52 1 18 rfl rfl)) (s_l1Lit_c (n_:=x_8.lit) s135 hx29) ?_
 rintro _ w138 ⟨rfl,Z⟩
 have Z:=k137 Z c0
 exact L_nil ⟨rfl,_,_,rfl,Le.refl _,fun _ _=>rfl,Z⟩
 refine opsS_cons (fun f w_ _ _ _ _ p Z=>L_not_ rfl (p 2 19 rfl rfl) (nO rfl rfl Z)) (opsS_cons (fun f w_ _ _ _ _ p Z=>mF (p 3 20 rfl rfl) rfl (nO rfl rfl Z)) (oP (fun _ _ p=>gN (p 4 21 rfl rfl) hc56 rfl) (fun _=>rfl) (oP (fun _ _ p=>gN (p 4 21 rfl rfl) hc56 rfl) (fun _=>rfl) (oP (fun _ _ p=>gN (p 4 21 rfl rfl) hc56 rfl) (fun _=>rfl) (opsS_cons (fun f w_ _ _ _ _ p Z=>pkT (v:=Bo ((!x29) || (decide (x_8.coef < 1)))) (p 4 21 rfl rfl) hc56 rfl (or_t hc56) (nO rfl rfl Z)) (opsS_cons (fun f w_ _ _ _ _ p Z=>mF (p 8 25 rfl rfl) rfl (nO rfl rfl Z)) (opsS_cons (fun f w_ _ _ s _ p Z=>L_fa (o':=0) (g_yes rfl (Eq.trans (p 9 26 rfl rfl) (congrArg Value.bool hc57)) rfl) fa_58_0 ((s 4 rfl).trans rfl) rfl (nO rfl rfl Z)) (opsS_cons (fun f w_ _ _ _ _ p Z=>L_ld (v:=I x_8.coef) (g_yes rfl (Eq.trans (p 9 26 rfl rfl) (congrArg Value.bool hc57)) rfl) Tryz.isAgg3 (p 10 27 rfl rfl) (At.cell0 (Blk.at (Star.blkAt 0 Z rfl)) (j:=0) rfl) (nO rfl rfl Z)) (opsS_cons (fun f w_ _ _ _ _ p Z=>L_gtr (g_yes rfl (Eq.trans (p 9 26 rfl rfl) (congrArg Value.bool hc57)) rfl) (p 11 28 rfl rfl) rfl (nO rfl rfl Z)) (opsS_cons (fun f w_ _ _ _ _ p Z=>pkT (v:=Bo (((!x29) || (decide (x_8.coef < 1))) || (decide (x_8.coef > 1000)))) (p 9 26 rfl rfl) hc57 rfl (or_f hc57 (p 12 29 rfl rfl)) (nO rfl rfl Z)) (opsS_cons (fun f w_ _ _ _ _ p Z=>mF (p 13 30 rfl rfl) rfl (nO rfl rfl Z)) (oP (fun _ _ p=>gN (p 14 31 rfl rfl) hc126 rfl) (fun _=>rfl) (oP (fun _ _ p=>gN (p 14 31 rfl rfl) hc126 rfl) (fun _=>rfl) (oP (fun _ _ p=>gN (p 14 31 rfl rfl) hc126 rfl) (fun _=>rfl) (oP (fun _ _ p=>g_undef rfl (p 17 34 rfl rfl) rfl) (fun _=>rfl) (oP (fun _ _ p=>g_undef rfl (p 17 34 rfl rfl) rfl) (fun _=>rfl) (oP (fun _ _ p=>g_undef rfl (p 17 34 rfl rfl) rfl) (fun _=>rfl) (oP (fun _ _ p=>g_undef rfl (p 17 34 rfl rfl) rfl) (fun _=>rfl) (oP (fun _ _ p=>g_undef rfl (p 17 34 rfl rfl) rfl) (fun _=>rfl) (oP (fun _ _ p=>g_undef rfl (p 17 34 rfl rfl) rfl) (fun _=>rfl) (oP (fun _ _ p=>g_undef rfl (p 17 34 rfl rfl) rfl) (fun _=>rfl) (oP (fun _ _ p=>g_undef rfl (p 17 34 rfl rfl) rfl) (fun _=>rfl) (oP (fun _ _ p=>g_undef rfl (p 17 34 rfl rfl) rfl) (fun _=>rfl) (oP (fun _ _ p=>g_undef rfl (p 17 34 rfl rfl) rfl) (fun _=>rfl) (opsS_nil)))))))))))))))))))))))))
 refine ps (g_undef rfl (hT52 17 34 rfl rfl) rfl) (ps (g_undef rfl (hT52 17 34 rfl rfl) rfl) (ps (g_no rfl (Eq.trans (hT52 14 31 rfl rfl) (congrArg Value.bool hc126)) rfl rfl) (L_pick (v:=Bo b51) rfl (Eq.trans (hT52 14 31 rfl rfl) (congrArg Value.bool hc126)) (congrArg Value.bool (so hb51)) (nn ?_))))
 have Z:=Z.get 1 rfl
 exact rj hR55 ⟨H52,hE52,((hS52 1 rfl).trans sf1),((hS52 3 rfl).trans sf3),rfl,(Star.keepN 1 Z)⟩
 rw [ite_f hc126] at hb51
 obtain ⟨b50,hb50,hb51⟩:=bind_some hb51
 rcases Bool.eq_false_or_eq_true (decide ((i_5 : Int) > 0)) with hc139 | hc139
 rw [ite_t hc139] at hb50
 obtain ⟨x31,hx31,hb50⟩:=bind_some hb50
 obtain ⟨x41,hx41,hb50⟩:=bind_some hb50
 obtain ⟨x48,hx48,hb50⟩:=bind_some hb50
 refine W_drawS 28 [isV (Pq g21 1),isV (I x_8.lit),isV (Bo x29),isV (Bo (!x29)),isV (Bo (!x29)),isV (undef),isV (undef),isV (undef),isV (Bo ((!x29) || (decide (x_8.coef < 1)))),isV (Bo ((!x29) || (decide (x_8.coef < 1)))),isV (Pt g21),isV (I x_8.coef),isV (Bo (decide (x_8.coef > 1000))),isV (Bo (((!x29) || (decide (x_8.coef < 1))) || (decide (x_8.coef > 1000)))),isV (Bo (((!x29) || (decide (x_8.coef < 1))) || (decide (x_8.coef > 1000)))),isV (I i_5),isV (Bo (decide ((i_5 : Int) > 0))),isV (Bo (decide ((i_5 : Int) > 0))),isV (Pt g3),isV (v0_0),isV (I i_5),isV (I (i64 ((i_5 : Int) - 1))),isEl rTerm x31 0,isEl rTerm x31 1,isV (I x31.lit),isV (I x41),isV (Pq g21 1),isV (I x_8.lit)] [box g21 58 #[I x_8.coef,I x_8.lit],box g3 37 #[v0_0,I c.bound]] [] ([]) [([],[]),([],[]),([],[]),([],[]),([],[]),([],[]),([],[]),([],[]),([],[]),([],[]),([],[]),([],[]),([],[]),([],[]),([],[]),([],[]),([],[]),([],[]),([],[]),([],[]),([],[]),([],[]),([],[]),([],[]),([],[]),([],[]),([],[]),([],[])] (S:=[]) Tryz_mix (by kernel_rfl) rfl (by kernel_rfl) (amF_cons (mono_V _) (amF_cons (mono_V _) (amF_cons (mono_V _) (amF_cons (mono_V _) (amF_cons (mono_V _) (amF_cons (mono_V _) (amF_cons (mono_V _) (amF_cons (mono_V _) (amF_cons (mono_V _) (amF_cons (mono_V _) (amF_cons (mono_V _) (amF_cons (mono_V _) (amF_cons (mono_V _) (amF_cons (mono_V _) (amF_cons (mono_V _) (amF_cons (mono_V _) (amF_cons (mono_V _) (amF_cons (mono_V _) (amF_cons (mono_V _) (amF_cons (mono_V _) (amF_cons (mono_V _) (amF_cons (mono_V _) (amF_cons (mono_el _ _ _) (amF_cons (mono_el _ _ _) (amF_cons (mono_V _) (amF_cons (mono_V _) (amF_cons (mono_V _) (amF_cons (mono_V _) amF_nil)))))))))))))))))))))))))))) Z ?_ (fun f w_ H52 hS52 hE52 hT52 Z=>?_)
 refine opsS_cons (fun f w_ _ _ s _ _ Z=>fA 1 fa_58_1 ((s 4 rfl).trans rfl) rfl (nO rfl rfl Z)) (opsS_cons (fun f w_ _ _ _ _ p Z=>ldB 0 Z Tryz.isAgg3 (p 0 17 rfl rfl) rfl rfl (nO rfl rfl Z)) (opsS_cons ?_ ?_))
 intro f w_ H52 X52 hS52 hE52 hP52 Z
 obtain ⟨H156b,l157,s158,z159,k160⟩:=Z.borrow
 refine L_call rfl Tryz.call40 (ops1 (hP52 1 18 rfl rfl)) (s_l1Lit_c (n_:=x_8.lit) s158 hx29) ?_
 rintro _ w161 ⟨rfl,Z⟩
 have Z:=k160 Z c0
 exact L_nil ⟨rfl,_,_,rfl,Le.refl _,fun _ _=>rfl,Z⟩
 refine opsS_cons (fun f w_ _ _ _ _ p Z=>L_not_ rfl (p 2 19 rfl rfl) (nO rfl rfl Z)) (opsS_cons (fun f w_ _ _ _ _ p Z=>mF (p 3 20 rfl rfl) rfl (nO rfl rfl Z)) (oP (fun _ _ p=>gN (p 4 21 rfl rfl) hc56 rfl) (fun _=>rfl) (oP (fun _ _ p=>gN (p 4 21 rfl rfl) hc56 rfl) (fun _=>rfl) (oP (fun _ _ p=>gN (p 4 21 rfl rfl) hc56 rfl) (fun _=>rfl) (opsS_cons (fun f w_ _ _ _ _ p Z=>pkT (v:=Bo ((!x29) || (decide (x_8.coef < 1)))) (p 4 21 rfl rfl) hc56 rfl (or_t hc56) (nO rfl rfl Z)) (opsS_cons (fun f w_ _ _ _ _ p Z=>mF (p 8 25 rfl rfl) rfl (nO rfl rfl Z)) (opsS_cons (fun f w_ _ _ s _ p Z=>L_fa (o':=0) (g_yes rfl (Eq.trans (p 9 26 rfl rfl) (congrArg Value.bool hc57)) rfl) fa_58_0 ((s 4 rfl).trans rfl) rfl (nO rfl rfl Z)) (opsS_cons (fun f w_ _ _ _ _ p Z=>L_ld (v:=I x_8.coef) (g_yes rfl (Eq.trans (p 9 26 rfl rfl) (congrArg Value.bool hc57)) rfl) Tryz.isAgg3 (p 10 27 rfl rfl) (At.cell0 (Blk.at (Star.blkAt 0 Z rfl)) (j:=0) rfl) (nO rfl rfl Z)) (opsS_cons (fun f w_ _ _ _ _ p Z=>L_gtr (g_yes rfl (Eq.trans (p 9 26 rfl rfl) (congrArg Value.bool hc57)) rfl) (p 11 28 rfl rfl) rfl (nO rfl rfl Z)) (opsS_cons (fun f w_ _ _ _ _ p Z=>pkT (v:=Bo (((!x29) || (decide (x_8.coef < 1))) || (decide (x_8.coef > 1000)))) (p 9 26 rfl rfl) hc57 rfl (or_f hc57 (p 12 29 rfl rfl)) (nO rfl rfl Z)) (opsS_cons (fun f w_ _ _ _ _ p Z=>mF (p 13 30 rfl rfl) rfl (nO rfl rfl Z)) (opsS_cons (fun f w_ _ _ s _ p Z=>L_mv (v:=I i_5) (g_yes rfl (Eq.trans (p 14 31 rfl rfl) (congrArg Value.bool hc126)) rfl) ((s 3 rfl).trans sf3) (nO rfl rfl Z)) (opsS_cons (fun f w_ _ _ _ _ p Z=>L_gtr (g_yes rfl (Eq.trans (p 14 31 rfl rfl) (congrArg Value.bool hc126)) rfl) (p 15 32 rfl rfl) rfl (nO rfl rfl Z)) (opsS_cons (fun f w_ _ _ _ _ p Z=>L_mv (v:=Bo (decide ((i_5 : Int) > 0))) (g_yes rfl (Eq.trans (p 14 31 rfl rfl) (congrArg Value.bool hc126)) rfl) (p 16 33 rfl rfl) (nO rfl rfl Z)) (opsS_cons (fun f w_ _ _ s _ p Z=>L_fa (o':=0) (g_yes rfl (Eq.trans (p 17 34 rfl rfl) (congrArg Value.bool hc139)) rfl) fa_37_0 ((s 1 rfl).trans sf1) rfl (nO rfl rfl Z)) (opsS_cons (fun f w_ _ _ _ _ p Z=>L_ld (v:=v0_0) (g_yes rfl (Eq.trans (p 17 34 rfl rfl) (congrArg Value.bool hc139)) rfl) Tryz.isAgg35 (p 18 35 rfl rfl) (At.cell0 (Blk.at (Star.blkAt 1 Z rfl)) (j:=0) rfl) (nO rfl rfl Z)) (opsS_cons (fun f w_ _ _ s _ p Z=>L_mv (v:=I i_5) (g_yes rfl (Eq.trans (p 17 34 rfl rfl) (congrArg Value.bool hc139)) rfl) ((s 3 rfl).trans sf3) (nO rfl rfl Z)) (opsS_cons (fun f w_ _ _ _ _ p Z=>L_sub (g_yes rfl (Eq.trans (p 17 34 rfl rfl) (congrArg Value.bool hc139)) rfl) (p 20 37 rfl rfl) rfl (nO rfl rfl Z)) (opsS_cons ?_ ?_)))))))))))))))))))
 intro f w_ H52 X52 hS52 hE52 hP52 Z
 refine L_ix (r:=rTerm) (g_yes rfl (Eq.trans (hP52 17 34 rfl rfl) (congrArg Value.bool hc139)) rfl) Tryz.underlying35 Tryz.sizeOf58 (hP52 19 36 rfl rfl) (RP.mono _ h0_0 (Le.trans l7 hE52)) (hP52 21 38 rfl rfl) hx31 (fun g162 o163 cs_g162 hrk_hat164 hat164=>?_)
 obtain rfl:=rTerm_iff.1 hrk_hat164
 exact L_nil ⟨rfl,_,_,rfl,Le.refl _,fun _ _=>⟨_,_,_,rfl,hrk_hat164,hat164⟩,Z⟩
 refine opsS_cons ?_ ?_
 intro f w_ H52 X52 hS52 hE52 hP52 Z
 obtain ⟨g166,o166,cs166,hv166,hrk_hat166,hat166⟩:=(hP52 22 39 rfl rfl)
 obtain rfl:=rTerm_iff.1 hrk_hat166
 refine L_fa (o':=o166 + 1) (g_yes rfl (Eq.trans (hP52 17 34 rfl rfl) (congrArg Value.bool hc139)) rfl) fa_58_1 hv166 rfl (L_nil ⟨rfl,_,_,rfl,Le.refl _,fun _ _=>⟨_,_,_,rfl,hrk_hat166,hat166⟩,Z⟩)
 refine opsS_cons ?_ ?_
 intro f w_ H52 X52 hS52 hE52 hP52 Z
 obtain ⟨g168,o168,cs168,hv168,hrk_hat168,hat168⟩:=(hP52 23 40 rfl rfl)
 obtain rfl:=rTerm_iff.1 hrk_hat168
 refine L_ld (v:=I x31.lit) (g_yes rfl (Eq.trans (hP52 17 34 rfl rfl) (congrArg Value.bool hc139)) rfl) Tryz.isAgg3 hv168 (At.cell (AtH.at hat168 Z.sub) (j:=1) rfl) (L_nil ⟨rfl,_,_,rfl,Le.refl _,fun _ _=>rfl,Z⟩)
 refine opsS_cons ?_ ?_
 intro f w_ H52 X52 hS52 hE52 hP52 Z
 obtain ⟨H170b,l171,s172,z173,k174⟩:=Z.borrow
 refine L_call (g_yes rfl (Eq.trans (hP52 17 34 rfl rfl) (congrArg Value.bool hc139)) rfl) Tryz.call41 (ops1 (hP52 24 41 rfl rfl)) (s_l1Abs_c (n_:=x31.lit) s172 hx41) ?_
 rintro _ w175 ⟨rfl,Z⟩
 have Z:=k174 Z c0
 exact L_nil ⟨rfl,_,_,rfl,Le.refl _,fun _ _=>rfl,Z⟩
 refine opsS_cons (fun f w_ _ _ s _ p Z=>L_fa (o':=1) (g_yes rfl (Eq.trans (p 17 34 rfl rfl) (congrArg Value.bool hc139)) rfl) fa_58_1 ((s 4 rfl).trans rfl) rfl (nO rfl rfl Z)) (opsS_cons (fun f w_ _ _ _ _ p Z=>L_ld (v:=I x_8.lit) (g_yes rfl (Eq.trans (p 17 34 rfl rfl) (congrArg Value.bool hc139)) rfl) Tryz.isAgg3 (p 26 43 rfl rfl) (At.cell0 (Blk.at (Star.blkAt 0 Z rfl)) (j:=1) rfl) (nO rfl rfl Z)) (opsS_nil))
 obtain ⟨H176b,l177,s178,z179,k180⟩:=Z.borrow
 refine L_call (g_yes rfl (Eq.trans (hT52 17 34 rfl rfl) (congrArg Value.bool hc139)) rfl) Tryz.call41 (ops1 (hT52 27 44 rfl rfl)) (s_l1Abs_c (n_:=x_8.lit) s178 hx48) ?_
 rintro _ w181 ⟨rfl,Z⟩
 have Z:=k180 Z c0
 refine L_geq (g_yes rfl (Eq.trans (hT52 17 34 rfl rfl) (congrArg Value.bool hc139)) rfl) (hT52 25 42 rfl rfl) rfl (L_pick (v:=Bo b50) (g_yes rfl (Eq.trans (hT52 14 31 rfl rfl) (congrArg Value.bool hc126)) rfl) (Eq.trans (hT52 17 34 rfl rfl) (congrArg Value.bool hc139)) (congrArg Value.bool (so hb50)) (L_pick (v:=Bo b51) rfl (Eq.trans (hT52 14 31 rfl rfl) (congrArg Value.bool hc126)) (congrArg Value.bool (so hb51)) (nn ?_)))
 have Z:=Z.get 1 rfl
 exact rj hR55 ⟨H52,hE52,((hS52 1 rfl).trans sf1),((hS52 3 rfl).trans sf3),rfl,(Star.keepN 1 Z)⟩
 rw [ite_f hc139] at hb50
 refine W_drawS 28 [isV (Pq g21 1),isV (I x_8.lit),isV (Bo x29),isV (Bo (!x29)),isV (Bo (!x29)),isV (undef),isV (undef),isV (undef),isV (Bo ((!x29) || (decide (x_8.coef < 1)))),isV (Bo ((!x29) || (decide (x_8.coef < 1)))),isV (Pt g21),isV (I x_8.coef),isV (Bo (decide (x_8.coef > 1000))),isV (Bo (((!x29) || (decide (x_8.coef < 1))) || (decide (x_8.coef > 1000)))),isV (Bo (((!x29) || (decide (x_8.coef < 1))) || (decide (x_8.coef > 1000)))),isV (I i_5),isV (Bo (decide ((i_5 : Int) > 0))),isV (Bo (decide ((i_5 : Int) > 0))),isV (undef),isV (undef),isV (undef),isV (undef),isV (undef),isV (undef),isV (undef),isV (undef),isV (undef),isV (undef)] [box g21 58 #[I x_8.coef,I x_8.lit],box g3 37 #[v0_0,I c.bound]] [] ([]) [([],[]),([],[]),([],[]),([],[]),([],[]),([],[]),([],[]),([],[]),([],[]),([],[]),([],[]),([],[]),([],[]),([],[]),([],[]),([],[]),([],[]),([],[]),([],[]),([],[]),([],[]),([],[]),([],[]),([],[]),([],[]),([],[]),([],[]),([],[])] (S:=[]) Tryz_mix (by kernel_rfl) rfl (by kernel_rfl) (amF_cons (mono_V _) (amF_cons (mono_V _) (amF_cons (mono_V _) (amF_cons (mono_V _) (amF_cons (mono_V _) (amF_cons (mono_V _) (amF_cons (mono_V _) (amF_cons (mono_V _) (amF_cons (mono_V _) (amF_cons (mono_V _) (amF_cons (mono_V _) (amF_cons (mono_V _) (amF_cons (mono_V _) (amF_cons (mono_V _) (amF_cons (mono_V _) (amF_cons (mono_V _) (amF_cons (mono_V _) (amF_cons (mono_V _) (amF_cons (mono_V _) (amF_cons (mono_V _) (amF_cons (mono_V _) (amF_cons (mono_V _) (amF_cons (mono_V _) (amF_cons (mono_V _) (amF_cons (mono_V _) (amF_cons (mono_V _) (amF_cons (mono_V _) (amF_cons (mono_V _) amF_nil)))))))))))))))))))))))))))) Z ?_ (fun f w_ H52 hS52 hE52 hT52 Z=>?_)
 refine opsS_cons (fun f w_ _ _ s _ _ Z=>fA 1 fa_58_1 ((s 4 rfl).trans rfl) rfl (nO rfl rfl Z)) (opsS_cons (fun f w_ _ _ _ _ p Z=>ldB 0 Z Tryz.isAgg3 (p 0 17 rfl rfl) rfl rfl (nO rfl rfl Z)) (opsS_cons ?_ ?_))
 intro f w_ H52 X52 hS52 hE52 hP52 Z
 obtain ⟨H188b,l189,s190,z191,k192⟩:=Z.borrow
 refine L_call rfl Tryz.call40 (ops1 (hP52 1 18 rfl rfl)) (s_l1Lit_c (n_:=x_8.lit) s190 hx29) ?_
 rintro _ w193 ⟨rfl,Z⟩
 have Z:=k192 Z c0
 exact L_nil ⟨rfl,_,_,rfl,Le.refl _,fun _ _=>rfl,Z⟩
 refine opsS_cons (fun f w_ _ _ _ _ p Z=>L_not_ rfl (p 2 19 rfl rfl) (nO rfl rfl Z)) (opsS_cons (fun f w_ _ _ _ _ p Z=>mF (p 3 20 rfl rfl) rfl (nO rfl rfl Z)) (oP (fun _ _ p=>gN (p 4 21 rfl rfl) hc56 rfl) (fun _=>rfl) (oP (fun _ _ p=>gN (p 4 21 rfl rfl) hc56 rfl) (fun _=>rfl) (oP (fun _ _ p=>gN (p 4 21 rfl rfl) hc56 rfl) (fun _=>rfl) (opsS_cons (fun f w_ _ _ _ _ p Z=>pkT (v:=Bo ((!x29) || (decide (x_8.coef < 1)))) (p 4 21 rfl rfl) hc56 rfl (or_t hc56) (nO rfl rfl Z)) (opsS_cons (fun f w_ _ _ _ _ p Z=>mF (p 8 25 rfl rfl) rfl (nO rfl rfl Z)) (opsS_cons (fun f w_ _ _ s _ p Z=>L_fa (o':=0) (g_yes rfl (Eq.trans (p 9 26 rfl rfl) (congrArg Value.bool hc57)) rfl) fa_58_0 ((s 4 rfl).trans rfl) rfl (nO rfl rfl Z)) (opsS_cons (fun f w_ _ _ _ _ p Z=>L_ld (v:=I x_8.coef) (g_yes rfl (Eq.trans (p 9 26 rfl rfl) (congrArg Value.bool hc57)) rfl) Tryz.isAgg3 (p 10 27 rfl rfl) (At.cell0 (Blk.at (Star.blkAt 0 Z rfl)) (j:=0) rfl) (nO rfl rfl Z)) (opsS_cons (fun f w_ _ _ _ _ p Z=>L_gtr (g_yes rfl (Eq.trans (p 9 26 rfl rfl) (congrArg Value.bool hc57)) rfl) (p 11 28 rfl rfl) rfl (nO rfl rfl Z)) (opsS_cons (fun f w_ _ _ _ _ p Z=>pkT (v:=Bo (((!x29) || (decide (x_8.coef < 1))) || (decide (x_8.coef > 1000)))) (p 9 26 rfl rfl) hc57 rfl (or_f hc57 (p 12 29 rfl rfl)) (nO rfl rfl Z)) (opsS_cons (fun f w_ _ _ _ _ p Z=>mF (p 13 30 rfl rfl) rfl (nO rfl rfl Z)) (opsS_cons (fun f w_ _ _ s _ p Z=>L_mv (v:=I i_5) (g_yes rfl (Eq.trans (p 14 31 rfl rfl) (congrArg Value.bool hc126)) rfl) ((s 3 rfl).trans sf3) (nO rfl rfl Z)) (opsS_cons (fun f w_ _ _ _ _ p Z=>L_gtr (g_yes rfl (Eq.trans (p 14 31 rfl rfl) (congrArg Value.bool hc126)) rfl) (p 15 32 rfl rfl) rfl (nO rfl rfl Z)) (opsS_cons (fun f w_ _ _ _ _ p Z=>L_mv (v:=Bo (decide ((i_5 : Int) > 0))) (g_yes rfl (Eq.trans (p 14 31 rfl rfl) (congrArg Value.bool hc126)) rfl) (p 16 33 rfl rfl) (nO rfl rfl Z)) (oP (fun _ _ p=>gN (p 17 34 rfl rfl) hc139 rfl) (fun _=>rfl) (oP (fun _ _ p=>gN (p 17 34 rfl rfl) hc139 rfl) (fun _=>rfl) (oP (fun _ _ p=>gN (p 17 34 rfl rfl) hc139 rfl) (fun _=>rfl) (oP (fun _ _ p=>gN (p 17 34 rfl rfl) hc139 rfl) (fun _=>rfl) (oP (fun _ _ p=>gN (p 17 34 rfl rfl) hc139 rfl) (fun _=>rfl) (oP (fun _ _ p=>gN (p 17 34 rfl rfl) hc139 rfl) (fun _=>rfl) (oP (fun _ _ p=>gN (p 17 34 rfl rfl) hc139 rfl) (fun _=>rfl) (oP (fun _ _ p=>gN (p 17 34 rfl rfl) hc139 rfl) (fun _=>rfl) (oP (fun _ _ p=>gN (p 17 34 rfl rfl) hc139 rfl) (fun _=>rfl) (oP (fun _ _ p=>gN (p 17 34 rfl rfl) hc139 rfl) (fun _=>rfl) (opsS_nil)))))))))))))))))))))))))
 refine ps (g_no rfl (Eq.trans (hT52 17 34 rfl rfl) (congrArg Value.bool hc139)) rfl rfl) (ps (g_no rfl (Eq.trans (hT52 17 34 rfl rfl) (congrArg Value.bool hc139)) rfl rfl) (L_pick (v:=Bo b50) (g_yes rfl (Eq.trans (hT52 14 31 rfl rfl) (congrArg Value.bool hc126)) rfl) (Eq.trans (hT52 17 34 rfl rfl) (congrArg Value.bool hc139)) (congrArg Value.bool (so hb50)) (L_pick (v:=Bo b51) rfl (Eq.trans (hT52 14 31 rfl rfl) (congrArg Value.bool hc126)) (congrArg Value.bool (so hb51)) (nn ?_))))
 have Z:=Z.get 1 rfl
 exact rj hR55 ⟨H52,hE52,((hS52 1 rfl).trans sf1),((hS52 3 rfl).trans sf3),rfl,(Star.keepN 1 Z)⟩
 rcases Bool.eq_false_or_eq_true ((!x29) || (decide (x_8.coef < 1))) with hc194 | hc194
 rcases Bool.eq_false_or_eq_true (((!x29) || (decide (x_8.coef < 1))) || (decide (x_8.coef > 1000))) with hc195 | hc195
 rw [ite_t hc195] at hb51
 refine W_drawS 28 [isV (Pq g21 1),isV (I x_8.lit),isV (Bo x29),isV (Bo (!x29)),isV (Bo (!x29)),isV (Pt g21),isV (I x_8.coef),isV (Bo (decide (x_8.coef < 1))),isV (Bo ((!x29) || (decide (x_8.coef < 1)))),isV (Bo ((!x29) || (decide (x_8.coef < 1)))),isV (undef),isV (undef),isV (undef),isV (Bo (((!x29) || (decide (x_8.coef < 1))) || (decide (x_8.coef > 1000)))),isV (Bo (((!x29) || (decide (x_8.coef < 1))) || (decide (x_8.coef > 1000)))),isV (undef),isV (undef),isV (undef),isV (undef),isV (undef),isV (undef),isV (undef),isV (undef),isV (undef),isV (undef),isV (undef),isV (undef),isV (undef)] [box g21 58 #[I x_8.coef,I x_8.lit],box g3 37 #[v0_0,I c.bound]] [] ([]) [([],[]),([],[]),([],[]),([],[]),([],[]),([],[]),([],[]),([],[]),([],[]),([],[]),([],[]),([],[]),([],[]),([],[]),([],[]),([],[]),([],[]),([],[]),([],[]),([],[]),([],[]),([],[]),([],[]),([],[]),([],[]),([],[]),([],[]),([],[])] (S:=[]) Tryz_mix (by kernel_rfl) rfl (by kernel_rfl) (amF_cons (mono_V _) (amF_cons (mono_V _) (amF_cons (mono_V _) (amF_cons (mono_V _) (amF_cons (mono_V _) (amF_cons (mono_V _) (amF_cons (mono_V _) (amF_cons (mono_V _) (amF_cons (mono_V _) (amF_cons (mono_V _) (amF_cons (mono_V _) (amF_cons (mono_V _) (amF_cons (mono_V _) (amF_cons (mono_V _) (amF_cons (mono_V _) (amF_cons (mono_V _) (amF_cons (mono_V _) (amF_cons (mono_V _) (amF_cons (mono_V _) (amF_cons (mono_V _) (amF_cons (mono_V _) (amF_cons (mono_V _) (amF_cons (mono_V _) (amF_cons (mono_V _) (amF_cons (mono_V _) (amF_cons (mono_V _) (amF_cons (mono_V _) (amF_cons (mono_V _) amF_nil)))))))))))))))))))))))))))) Z ?_ (fun f w_ H52 hS52 hE52 hT52 Z=>?_)
 refine opsS_cons (fun f w_ _ _ s _ _ Z=>fA 1 fa_58_1 ((s 4 rfl).trans rfl) rfl (nO rfl rfl Z)) (opsS_cons (fun f w_ _ _ _ _ p Z=>ldB 0 Z Tryz.isAgg3 (p 0 17 rfl rfl) rfl rfl (nO rfl rfl Z)) (opsS_cons ?_ ?_))
 intro f w_ H52 X52 hS52 hE52 hP52 Z
 obtain ⟨H202b,l203,s204,z205,k206⟩:=Z.borrow
 refine L_call rfl Tryz.call40 (ops1 (hP52 1 18 rfl rfl)) (s_l1Lit_c (n_:=x_8.lit) s204 hx29) ?_
 rintro _ w207 ⟨rfl,Z⟩
 have Z:=k206 Z c0
 exact L_nil ⟨rfl,_,_,rfl,Le.refl _,fun _ _=>rfl,Z⟩
 refine opsS_cons (fun f w_ _ _ _ _ p Z=>L_not_ rfl (p 2 19 rfl rfl) (nO rfl rfl Z)) (opsS_cons (fun f w_ _ _ _ _ p Z=>mF (p 3 20 rfl rfl) rfl (nO rfl rfl Z)) (opsS_cons (fun f w_ _ _ s _ p Z=>L_fa (o':=0) (g_yes rfl (Eq.trans (p 4 21 rfl rfl) (congrArg Value.bool hc56)) rfl) fa_58_0 ((s 4 rfl).trans rfl) rfl (nO rfl rfl Z)) (opsS_cons (fun f w_ _ _ _ _ p Z=>L_ld (v:=I x_8.coef) (g_yes rfl (Eq.trans (p 4 21 rfl rfl) (congrArg Value.bool hc56)) rfl) Tryz.isAgg3 (p 5 22 rfl rfl) (At.cell0 (Blk.at (Star.blkAt 0 Z rfl)) (j:=0) rfl) (nO rfl rfl Z)) (opsS_cons (fun f w_ _ _ _ _ p Z=>L_lss (g_yes rfl (Eq.trans (p 4 21 rfl rfl) (congrArg Value.bool hc56)) rfl) (p 6 23 rfl rfl) rfl (nO rfl rfl Z)) (opsS_cons (fun f w_ _ _ _ _ p Z=>pkT (v:=Bo ((!x29) || (decide (x_8.coef < 1)))) (p 4 21 rfl rfl) hc56 rfl (or_f hc56 (p 7 24 rfl rfl)) (nO rfl rfl Z)) (opsS_cons (fun f w_ _ _ _ _ p Z=>mF (p 8 25 rfl rfl) rfl (nO rfl rfl Z)) (oP (fun _ _ p=>gN (p 9 26 rfl rfl) hc194 rfl) (fun _=>rfl) (oP (fun _ _ p=>gN (p 9 26 rfl rfl) hc194 rfl) (fun _=>rfl) (oP (fun _ _ p=>gN (p 9 26 rfl rfl) hc194 rfl) (fun _=>rfl) (opsS_cons (fun f w_ _ _ _ _ p Z=>pkT (v:=Bo (((!x29) || (decide (x_8.coef < 1))) || (decide (x_8.coef > 1000)))) (p 9 26 rfl rfl) hc194 rfl (or_t hc194) (nO rfl rfl Z)) (opsS_cons (fun f w_ _ _ _ _ p Z=>mF (p 13 30 rfl rfl) rfl (nO rfl rfl Z)) (oP (fun _ _ p=>gN (p 14 31 rfl rfl) hc195 rfl) (fun _=>rfl) (oP (fun _ _ p=>gN (p 14 31 rfl rfl) hc195 rfl) (fun _=>rfl) (oP (fun _ _ p=>gN (p 14 31 rfl rfl) hc195 rfl) (fun _=>rfl) (oP (fun _ _ p=>g_undef rfl (p 17 34 rfl rfl) rfl) (fun _=>rfl) (oP (fun _ _ p=>g_undef rfl (p 17 34 rfl rfl) rfl) (fun _=>rfl) (oP (fun _ _ p=>g_undef rfl (p 17 34 rfl rfl) rfl) (fun _=>rfl) (oP (fun _ _ p=>g_undef rfl (p 17 34 rfl rfl) rfl) (fun _=>rfl) (oP (fun _ _ p=>g_undef rfl (p 17 34 rfl rfl) rfl) (fun _=>rfl) (oP (fun _ _ p=>g_undef rfl (p 17 34 rfl rfl) rfl) (fun _=>rfl) (oP (fun _ _ p=>g_undef rfl (p 17 34 rfl rfl) rfl) (fun _=>rfl) (oP (fun _ _ p=>g_undef rfl (p 17 34 rfl rfl) rfl) (fun _=>rfl) (oP (fun _ _ p=>g_undef rfl (p 17 34 rfl rfl) rfl) (fun _=>rfl) (oP (fun _ _ p=>g_undef rfl (p 17 34 rfl rfl) rfl) (fun _=>rfl) (opsS_nil)))))))))))))))))))))))))
 refine ps (g_undef rfl (hT52 17 34 rfl rfl) rfl) (ps (g_undef rfl (hT52 17 34 rfl rfl) rfl) (ps (g_no rfl (Eq.trans (hT52 14 31 rfl rfl) (congrArg Value.bool hc195)) rfl rfl) (L_pick (v:=Bo b51) rfl (Eq.trans (hT52 14 31 rfl rfl) (congrArg Value.bool hc195)) (congrArg Value.bool (so hb51)) (nn ?_))))
 have Z:=Z.get 1 rfl
 exact rj hR55 ⟨H52,hE52,((hS52 1 rfl).trans sf1),((hS52 3 rfl).trans sf3),rfl,(Star.keepN 1 Z)⟩
 rw [ite_f hc195] at hb51
 obtain ⟨b50,hb50,hb51⟩:=bind_some hb51
 rcases Bool.eq_false_or_eq_true (decide ((i_5 : Int) > 0)) with hc208 | hc208
 rw [ite_t hc208] at hb50
 obtain ⟨x31,hx31,hb50⟩:=bind_some hb50
 obtain ⟨x41,hx41,hb50⟩:=bind_some hb50
 obtain ⟨x48,hx48,hb50⟩:=bind_some hb50
 refine W_drawS 28 [isV (Pq g21 1),isV (I x_8.lit),isV (Bo x29),isV (Bo (!x29)),isV (Bo (!x29)),isV (Pt g21),isV (I x_8.coef),isV (Bo (decide (x_8.coef < 1))),isV (Bo ((!x29) || (decide (x_8.coef < 1)))),isV (Bo ((!x29) || (decide (x_8.coef < 1)))),isV (undef),isV (undef),isV (undef),isV (Bo (((!x29) || (decide (x_8.coef < 1))) || (decide (x_8.coef > 1000)))),isV (Bo (((!x29) || (decide (x_8.coef < 1))) || (decide (x_8.coef > 1000)))),isV (I i_5),isV (Bo (decide ((i_5 : Int) > 0))),isV (Bo (decide ((i_5 : Int) > 0))),isV (Pt g3),isV (v0_0),isV (I i_5),isV (I (i64 ((i_5 : Int) - 1))),isEl rTerm x31 0,isEl rTerm x31 1,isV (I x31.lit),isV (I x41),isV (Pq g21 1),isV (I x_8.lit)] [box g21 58 #[I x_8.coef,I x_8.lit],box g3 37 #[v0_0,I c.bound]] [] ([]) [([],[]),([],[]),([],[]),([],[]),([],[]),([],[]),([],[]),([],[]),([],[]),([],[]),([],[]),([],[]),([],[]),([],[]),([],[]),([],[]),([],[]),([],[]),([],[]),([],[]),([],[]),([],[]),([],[]),([],[]),([],[]),([],[]),([],[]),([],[])] (S:=[]) Tryz_mix (by kernel_rfl) rfl (by kernel_rfl) (amF_cons (mono_V _) (amF_cons (mono_V _) (amF_cons (mono_V _) (amF_cons (mono_V _) (amF_cons (mono_V _) (amF_cons (mono_V _) (amF_cons (mono_V _) (amF_cons (mono_V _) (amF_cons (mono_V _) (amF_cons (mono_V _) (amF_cons (mono_V _) (amF_cons (mono_V _) (amF_cons (mono_V _) (amF_cons (mono_V _) (amF_cons (mono_V _) (amF_cons (mono_V _) (amF_cons (mono_V _) (amF_cons (mono_V _) (amF_cons (mono_V _) (amF_cons (mono_V _) (amF_cons (mono_V _) (amF_cons (mono_V _) (amF_cons (mono_el _ _ _) (amF_cons (mono_el _ _ _) (amF_cons (mono_V _) (amF_cons (mono_V _) (amF_cons (mono_V _) (amF_cons (mono_V _) amF_nil)))))))))))))))))))))))))))) Z ?_ (fun f w_ H52 hS52 hE52 hT52 Z=>?_)
 refine opsS_cons (fun f w_ _ _ s _ _ Z=>fA 1 fa_58_1 ((s 4 rfl).trans rfl) rfl (nO rfl rfl Z)) (opsS_cons (fun f w_ _ _ _ _ p Z=>ldB 0 Z Tryz.isAgg3 (p 0 17 rfl rfl) rfl rfl (nO rfl rfl Z)) (opsS_cons ?_ ?_))
 intro f w_ H52 X52 hS52 hE52 hP52 Z
 obtain ⟨H225b,l226,s227,z228,k229⟩:=Z.borrow
 refine L_call rfl Tryz.call40 (ops1 (hP52 1 18 rfl rfl)) (s_l1Lit_c (n_:=x_8.lit) s227 hx29) ?_
 rintro _ w230 ⟨rfl,Z⟩
 have Z:=k229 Z c0
 exact L_nil ⟨rfl,_,_,rfl,Le.refl _,fun _ _=>rfl,Z⟩
 refine opsS_cons (fun f w_ _ _ _ _ p Z=>L_not_ rfl (p 2 19 rfl rfl) (nO rfl rfl Z)) (opsS_cons (fun f w_ _ _ _ _ p Z=>mF (p 3 20 rfl rfl) rfl (nO rfl rfl Z)) (opsS_cons (fun f w_ _ _ s _ p Z=>L_fa (o':=0) (g_yes rfl (Eq.trans (p 4 21 rfl rfl) (congrArg Value.bool hc56)) rfl) fa_58_0 ((s 4 rfl).trans rfl) rfl (nO rfl rfl Z)) (opsS_cons (fun f w_ _ _ _ _ p Z=>L_ld (v:=I x_8.coef) (g_yes rfl (Eq.trans (p 4 21 rfl rfl) (congrArg Value.bool hc56)) rfl) Tryz.isAgg3 (p 5 22 rfl rfl) (At.cell0 (Blk.at (Star.blkAt 0 Z rfl)) (j:=0) rfl) (nO rfl rfl Z)) (opsS_cons (fun f w_ _ _ _ _ p Z=>L_lss (g_yes rfl (Eq.trans (p 4 21 rfl rfl) (congrArg Value.bool hc56)) rfl) (p 6 23 rfl rfl) rfl (nO rfl rfl Z)) (opsS_cons (fun f w_ _ _ _ _ p Z=>pkT (v:=Bo ((!x29) || (decide (x_8.coef < 1)))) (p 4 21 rfl rfl) hc56 rfl (or_f hc56 (p 7 24 rfl rfl)) (nO rfl rfl Z)) (opsS_cons (fun f w_ _ _ _ _ p Z=>mF (p 8 25 rfl rfl) rfl (nO rfl rfl Z)) (oP (fun _ _ p=>gN (p 9 26 rfl rfl) hc194 rfl) (fun _=>rfl) (oP (fun _ _ p=>gN (p 9 26 rfl rfl) hc194 rfl) (fun _=>rfl) (oP (fun _ _ p=>gN (p 9 26 rfl rfl) hc194 rfl) (fun _=>rfl) (opsS_cons (fun f w_ _ _ _ _ p Z=>pkT (v:=Bo (((!x29) || (decide (x_8.coef < 1))) || (decide (x_8.coef > 1000)))) (p 9 26 rfl rfl) hc194 rfl (or_t hc194) (nO rfl rfl Z)) (opsS_cons (fun f w_ _ _ _ _ p Z=>mF (p 13 30 rfl rfl) rfl (nO rfl rfl Z)) (opsS_cons (fun f w_ _ _ s _ p Z=>L_mv (v:=I i_5) (g_yes rfl (Eq.trans (p 14 31 rfl rfl) (congrArg Value.bool hc195)) rfl) ((s 3 rfl).trans sf3) (nO rfl rfl Z)) (opsS_cons (fun f w_ _ _ _ _ p Z=>L_gtr (g_yes rfl (Eq.trans (p 14 31 rfl rfl) (congrArg Value.bool hc195)) rfl) (p 15 32 rfl rfl) rfl (nO rfl rfl Z)) (opsS_cons (fun f w_ _ _ _ _ p Z=>L_mv (v:=Bo (decide ((i_5 : Int) > 0))) (g_yes rfl (Eq.trans (p 14 31 rfl rfl) (congrArg Value.bool hc195)) rfl) (p 16 33 rfl rfl) (nO rfl rfl Z)) (opsS_cons (fun f w_ _ _ s _ p Z=>L_fa (o':=0) (g_yes rfl (Eq.trans (p 17 34 rfl rfl) (congrArg Value.bool hc208)) rfl) fa_37_0 ((s 1 rfl).trans sf1) rfl (nO rfl rfl Z)) (opsS_cons (fun f w_ _ _ _ _ p Z=>L_ld (v:=v0_0) (g_yes rfl (Eq.trans (p 17 34 rfl rfl) (congrArg Value.bool hc208)) rfl) Tryz.isAgg35 (p 18 35 rfl rfl) (At.cell0 (Blk.at (Star.blkAt 1 Z rfl)) (j:=0) rfl) (nO rfl rfl Z)) (opsS_cons (fun f w_ _ _ s _ p Z=>L_mv (v:=I i_5) (g_yes rfl (Eq.trans (p 17 34 rfl rfl) (congrArg Value.bool hc208)) rfl) ((s 3 rfl).trans sf3) (nO rfl rfl Z)) (opsS_cons (fun f w_ _ _ _ _ p Z=>L_sub (g_yes rfl (Eq.trans (p 17 34 rfl rfl) (congrArg Value.bool hc208)) rfl) (p 20 37 rfl rfl) rfl (nO rfl rfl Z)) (opsS_cons ?_ ?_)))))))))))))))))))
 intro f w_ H52 X52 hS52 hE52 hP52 Z
 refine L_ix (r:=rTerm) (g_yes rfl (Eq.trans (hP52 17 34 rfl rfl) (congrArg Value.bool hc208)) rfl) Tryz.underlying35 Tryz.sizeOf58 (hP52 19 36 rfl rfl) (RP.mono _ h0_0 (Le.trans l7 hE52)) (hP52 21 38 rfl rfl) hx31 (fun g231 o232 cs_g231 hrk_hat233 hat233=>?_)
 obtain rfl:=rTerm_iff.1 hrk_hat233
 exact L_nil ⟨rfl,_,_,rfl,Le.refl _,fun _ _=>⟨_,_,_,rfl,hrk_hat233,hat233⟩,Z⟩
 refine opsS_cons ?_ ?_
 intro f w_ H52 X52 hS52 hE52 hP52 Z
 obtain ⟨g235,o235,cs235,hv235,hrk_hat235,hat235⟩:=(hP52 22 39 rfl rfl)
 obtain rfl:=rTerm_iff.1 hrk_hat235
 refine L_fa (o':=o235 + 1) (g_yes rfl (Eq.trans (hP52 17 34 rfl rfl) (congrArg Value.bool hc208)) rfl) fa_58_1 hv235 rfl (L_nil ⟨rfl,_,_,rfl,Le.refl _,fun _ _=>⟨_,_,_,rfl,hrk_hat235,hat235⟩,Z⟩)
 refine opsS_cons ?_ ?_
 intro f w_ H52 X52 hS52 hE52 hP52 Z
 obtain ⟨g237,o237,cs237,hv237,hrk_hat237,hat237⟩:=(hP52 23 40 rfl rfl)
 obtain rfl:=rTerm_iff.1 hrk_hat237
 refine L_ld (v:=I x31.lit) (g_yes rfl (Eq.trans (hP52 17 34 rfl rfl) (congrArg Value.bool hc208)) rfl) Tryz.isAgg3 hv237 (At.cell (AtH.at hat237 Z.sub) (j:=1) rfl) (L_nil ⟨rfl,_,_,rfl,Le.refl _,fun _ _=>rfl,Z⟩)
 refine opsS_cons ?_ ?_
 intro f w_ H52 X52 hS52 hE52 hP52 Z
 obtain ⟨H239b,l240,s241,z242,k243⟩:=Z.borrow
 refine L_call (g_yes rfl (Eq.trans (hP52 17 34 rfl rfl) (congrArg Value.bool hc208)) rfl) Tryz.call41 (ops1 (hP52 24 41 rfl rfl)) (s_l1Abs_c (n_:=x31.lit) s241 hx41) ?_
 rintro _ w244 ⟨rfl,Z⟩
 have Z:=k243 Z c0
 exact L_nil ⟨rfl,_,_,rfl,Le.refl _,fun _ _=>rfl,Z⟩
 refine opsS_cons (fun f w_ _ _ s _ p Z=>L_fa (o':=1) (g_yes rfl (Eq.trans (p 17 34 rfl rfl) (congrArg Value.bool hc208)) rfl) fa_58_1 ((s 4 rfl).trans rfl) rfl (nO rfl rfl Z)) (opsS_cons (fun f w_ _ _ _ _ p Z=>L_ld (v:=I x_8.lit) (g_yes rfl (Eq.trans (p 17 34 rfl rfl) (congrArg Value.bool hc208)) rfl) Tryz.isAgg3 (p 26 43 rfl rfl) (At.cell0 (Blk.at (Star.blkAt 0 Z rfl)) (j:=1) rfl) (nO rfl rfl Z)) (opsS_nil))
 obtain ⟨H245b,l246,s247,z248,k249⟩:=Z.borrow
 refine L_call (g_yes rfl (Eq.trans (hT52 17 34 rfl rfl) (congrArg Value.bool hc208)) rfl) Tryz.call41 (ops1 (hT52 27 44 rfl rfl)) (s_l1Abs_c (n_:=x_8.lit) s247 hx48) ?_
 rintro _ w250 ⟨rfl,Z⟩
 have Z:=k249 Z c0
 refine L_geq (g_yes rfl (Eq.trans (hT52 17 34 rfl rfl) (congrArg Value.bool hc208)) rfl) (hT52 25 42 rfl rfl) rfl (L_pick (v:=Bo b50) (g_yes rfl (Eq.trans (hT52 14 31 rfl rfl) (congrArg Value.bool hc195)) rfl) (Eq.trans (hT52 17 34 rfl rfl) (congrArg Value.bool hc208)) (congrArg Value.bool (so hb50)) (L_pick (v:=Bo b51) rfl (Eq.trans (hT52 14 31 rfl rfl) (congrArg Value.bool hc195)) (congrArg Value.bool (so hb51)) (nn ?_)))
 have Z:=Z.get 1 rfl
 exact rj hR55 ⟨H52,hE52,((hS52 1 rfl).trans sf1),((hS52 3 rfl).trans sf3),rfl,(Star.keepN 1 Z)⟩
 rw [ite_f hc208] at hb50
 refine W_drawS 28 [isV (Pq g21 1),isV (I x_8.lit),isV (Bo x29),isV (Bo (!x29)),isV (Bo (!x29)),isV (Pt g21),isV (I x_8.coef),isV (Bo (decide (x_8.coef < 1))),isV (Bo ((!x29) || (decide (x_8.coef < 1)))),isV (Bo ((!x29) || (decide (x_8.coef < 1)))),isV (undef),isV (undef),isV (undef),isV (Bo (((!x29) || (decide (x_8.coef < 1))) || (decide (x_8.coef > 1000)))),isV (Bo (((!x29) || (decide (x_8.coef < 1))) || (decide (x_8.coef > 1000)))),isV (I i_5),isV (Bo (decide ((i_5 : Int) > 0))),isV (Bo (decide ((i_5 : Int) > 0))),isV (undef),isV (undef),isV (undef),isV (undef),isV (undef),isV (undef),isV (undef),isV (undef),isV (undef),isV (undef)] [box g21 58 #[I x_8.coef,I x_8.lit],box g3 37 #[v0_0,I c.bound]] [] ([]) [([],[]),([],[]),([],[]),([],[]),([],[]),([],[]),([],[]),([],[]),([],[]),([],[]),([],[]),([],[]),([],[]),([],[]),([],[]),([],[]),([],[]),([],[]),([],[]),([],[]),([],[]),([],[]),([],[]),([],[]),([],[]),([],[]),([],[]),([],[])] (S:=[]) Tryz_mix (by kernel_rfl) rfl (by kernel_rfl) (amF_cons (mono_V _) (amF_cons (mono_V _) (amF_cons (mono_V _) (amF_cons (mono_V _) (amF_cons (mono_V _) (amF_cons (mono_V _) (amF_cons (mono_V _) (amF_cons (mono_V _) (amF_cons (mono_V _) (amF_cons (mono_V _) (amF_cons (mono_V _) (amF_cons (mono_V _) (amF_cons (mono_V _) (amF_cons (mono_V _) (amF_cons (mono_V _) (amF_cons (mono_V _) (amF_cons (mono_V _) (amF_cons (mono_V _) (amF_cons (mono_V _) (amF_cons (mono_V _) (amF_cons (mono_V _) (amF_cons (mono_V _) (amF_cons (mono_V _) (amF_cons (mono_V _) (amF_cons (mono_V _) (amF_cons (mono_V _) (amF_cons (mono_V _) (amF_cons (mono_V _) amF_nil)))))))))))))))))))))))))))) Z ?_ (fun f w_ H52 hS52 hE52 hT52 Z=>?_)
 refine opsS_cons (fun f w_ _ _ s _ _ Z=>fA 1 fa_58_1 ((s 4 rfl).trans rfl) rfl (nO rfl rfl Z)) (opsS_cons (fun f w_ _ _ _ _ p Z=>ldB 0 Z Tryz.isAgg3 (p 0 17 rfl rfl) rfl rfl (nO rfl rfl Z)) (opsS_cons ?_ ?_))
 intro f w_ H52 X52 hS52 hE52 hP52 Z
 obtain ⟨H257b,l258,s259,z260,k261⟩:=Z.borrow
 refine L_call rfl Tryz.call40 (ops1 (hP52 1 18 rfl rfl)) (s_l1Lit_c (n_:=x_8.lit) s259 hx29) ?_
 rintro _ w262 ⟨rfl,Z⟩
 have Z:=k261 Z c0
 exact L_nil ⟨rfl,_,_,rfl,Le.refl _,fun _ _=>rfl,Z⟩
 refine opsS_cons (fun f w_ _ _ _ _ p Z=>L_not_ rfl (p 2 19 rfl rfl) (nO rfl rfl Z)) (opsS_cons (fun f w_ _ _ _ _ p Z=>mF (p 3 20 rfl rfl) rfl (nO rfl rfl Z)) (opsS_cons (fun f w_ _ _ s _ p Z=>L_fa (o':=0) (g_yes rfl (Eq.trans (p 4 21 rfl rfl) (congrArg Value.bool hc56)) rfl) fa_58_0 ((s 4 rfl).trans rfl) rfl (nO rfl rfl Z)) (opsS_cons (fun f w_ _ _ _ _ p Z=>L_ld (v:=I x_8.coef) (g_yes rfl (Eq.trans (p 4 21 rfl rfl) (congrArg Value.bool hc56)) rfl) Tryz.isAgg3 (p 5 22 rfl rfl) (At.cell0 (Blk.at (Star.blkAt 0 Z rfl)) (j:=0) rfl) (nO rfl rfl Z)) (opsS_cons (fun f w_ _ _ _ _ p Z=>L_lss (g_yes rfl (Eq.trans (p 4 21 rfl rfl) (congrArg Value.bool hc56)) rfl) (p 6 23 rfl rfl) rfl (nO rfl rfl Z)) (opsS_cons (fun f w_ _ _ _ _ p Z=>pkT (v:=Bo ((!x29) || (decide (x_8.coef < 1)))) (p 4 21 rfl rfl) hc56 rfl (or_f hc56 (p 7 24 rfl rfl)) (nO rfl rfl Z)) (opsS_cons (fun f w_ _ _ _ _ p Z=>mF (p 8 25 rfl rfl) rfl (nO rfl rfl Z)) (oP (fun _ _ p=>gN (p 9 26 rfl rfl) hc194 rfl) (fun _=>rfl) (oP (fun _ _ p=>gN (p 9 26 rfl rfl) hc194 rfl) (fun _=>rfl) (oP (fun _ _ p=>gN (p 9 26 rfl rfl) hc194 rfl) (fun _=>rfl) (opsS_cons (fun f w_ _ _ _ _ p Z=>pkT (v:=Bo (((!x29) || (decide (x_8.coef < 1))) || (decide (x_8.coef > 1000)))) (p 9 26 rfl rfl) hc194 rfl (or_t hc194) (nO rfl rfl Z)) (opsS_cons (fun f w_ _ _ _ _ p Z=>mF (p 13 30 rfl rfl) rfl (nO rfl rfl Z)) (opsS_cons (fun f w_ _ _ s _ p Z=>L_mv (v:=I i_5) (g_yes rfl (Eq.trans (p 14 31 rfl rfl) (congrArg Value.bool hc195)) rfl) ((s 3 rfl).trans sf3) (nO rfl rfl Z)) (opsS_cons (fun f w_ _ _ _ _ p Z=>L_gtr (g_yes rfl (Eq.trans (p 14 31 rfl rfl) (congrArg Value.bool hc195)) rfl) (p 15 32 rfl rfl) rfl (nO rfl rfl Z)) (opsS_cons (fun f w_ _ _ _ _ p Z=>L_mv (v:=Bo (decide ((i_5 : Int) > 0))) (g_yes rfl (Eq.trans (p 14 31 rfl rfl) (congrArg Value.bool hc195)) rfl) (p 16 33 rfl rfl) (nO rfl rfl Z)) (oP (fun _ _ p=>gN (p 17 34 rfl rfl) hc208 rfl) (fun _=>rfl) (oP (fun _ _ p=>gN (p 17 34 rfl rfl) hc208 rfl) (fun _=>rfl) (oP (fun _ _ p=>gN (p 17 34 rfl rfl) hc208 rfl) (fun _=>rfl) (oP (fun _ _ p=>gN (p 17 34 rfl rfl) hc208 rfl) (fun _=>rfl) (oP (fun _ _ p=>gN (p 17 34 rfl rfl) hc208 rfl) (fun _=>rfl) (oP (fun _ _ p=>gN (p 17 34 rfl rfl) hc208 rfl) (fun _=>rfl) (oP (fun _ _ p=>gN (p 17 34 rfl rfl) hc208 rfl) (fun _=>rfl) (oP (fun _ _ p=>gN (p 17 34 rfl rfl) hc208 rfl) (fun _=>rfl) (oP (fun _ _ p=>gN (p 17 34 rfl rfl) hc208 rfl) (fun _=>rfl) (oP (fun _ _ p=>gN (p 17 34 rfl rfl) hc208 rfl) (fun _=>rfl) (opsS_nil)))))))))))))))))))))))))
 refine ps (g_no rfl (Eq.trans (hT52 17 34 rfl rfl) (congrArg Value.bool hc208)) rfl rfl) (ps (g_no rfl (Eq.trans (hT52 17 34 rfl rfl) (congrArg Value.bool hc208)) rfl rfl) (L_pick (v:=Bo b50) (g_yes rfl (Eq.trans (hT52 14 31 rfl rfl) (congrArg Value.bool hc195)) rfl) (Eq.trans (hT52 17 34 rfl rfl) (congrArg Value.bool hc208)) (congrArg Value.bool (so hb50)) (L_pick (v:=Bo b51) rfl (Eq.trans (hT52 14 31 rfl rfl) (congrArg Value.bool hc195)) (congrArg Value.bool (so hb51)) (nn ?_))))
 have Z:=Z.get 1 rfl
 exact rj hR55 ⟨H52,hE52,((hS52 1 rfl).trans sf1),((hS52 3 rfl).trans sf3),rfl,(Star.keepN 1 Z)⟩
 rcases Bool.eq_false_or_eq_true (((!x29) || (decide (x_8.coef < 1))) || (decide (x_8.coef > 1000))) with hc263 | hc263
 rw [ite_t hc263] at hb51
 refine W_drawS 28 [isV (Pq g21 1),isV (I x_8.lit),isV (Bo x29),isV (Bo (!x29)),isV (Bo (!x29)),isV (Pt g21),isV (I x_8.coef),isV (Bo (decide (x_8.coef < 1))),isV (Bo ((!x29) || (decide (x_8.coef < 1)))),isV (Bo ((!x29) || (decide (x_8.coef < 1)))),isV (Pt g21),isV (I x_8.coef),isV (Bo (decide (x_8.coef > 1000))),isV (Bo (((!x29) || (decide (x_8.coef < 1))) || (decide (x_8.coef > 1000)))),isV (Bo (((!x29) || (decide (x_8.coef < 1))) || (decide (x_8.coef > 1000)))),isV (undef),isV (undef),isV (undef),isV (undef),isV (undef),isV (undef),isV (undef),isV (undef),isV (undef),isV (undef),isV (undef),isV (undef),isV (undef)] [box g21 58 #[I x_8.coef,I x_8.lit],box g3 37 #[v0_0,I c.bound]] [] ([]) [([],[]),([],[]),([],[]),([],[]),([],[]),([],[]),([],[]),([],[]),([],[]),([],[]),([],[]),([],[]),([],[]),([],[]),([],[]),([],[]),([],[]),([],[]),([],[]),([],[]),([],[]),([],[]),([],[]),([],[]),([],[]),([],[]),([],[]),([],[])] (S:=[]) Tryz_mix (by kernel_rfl) rfl (by kernel_rfl) (amF_cons (mono_V _) (amF_cons (mono_V _) (amF_cons (mono_V _) (amF_cons (mono_V _) (amF_cons (mono_V _) (amF_cons (mono_V _) (amF_cons (mono_V _) (amF_cons (mono_V _) (amF_cons (mono_V _) (amF_cons (mono_V _) (amF_cons (mono_V _) (amF_cons (mono_V _) (amF_cons (mono_V _) (amF_cons (mono_V _) (amF_cons (mono_V _) (amF_cons (mono_V _) (amF_cons (mono_V _) (amF_cons (mono_V _) (amF_cons (mono_V _) (amF_cons (mono_V _) (amF_cons (mono_V _) (amF_cons (mono_V _) (amF_cons (mono_V _) (amF_cons (mono_V _) (amF_cons (mono_V _) (amF_cons (mono_V _) (amF_cons (mono_V _) (amF_cons (mono_V _) amF_nil)))))))))))))))))))))))))))) Z ?_ (fun f w_ H52 hS52 hE52 hT52 Z=>?_)
 refine opsS_cons (fun f w_ _ _ s _ _ Z=>fA 1 fa_58_1 ((s 4 rfl).trans rfl) rfl (nO rfl rfl Z)) (opsS_cons (fun f w_ _ _ _ _ p Z=>ldB 0 Z Tryz.isAgg3 (p 0 17 rfl rfl) rfl rfl (nO rfl rfl Z)) (opsS_cons ?_ ?_))
 intro f w_ H52 X52 hS52 hE52 hP52 Z
 obtain ⟨H270b,l271,s272,z273,k274⟩:=Z.borrow
 refine L_call rfl Tryz.call40 (ops1 (hP52 1 18 rfl rfl)) (s_l1Lit_c (n_:=x_8.lit) s272 hx29) ?_
 rintro _ w275 ⟨rfl,Z⟩
 have Z:=k274 Z c0
 exact L_nil ⟨rfl,_,_,rfl,Le.refl _,fun _ _=>rfl,Z⟩
 refine opsS_cons (fun f w_ _ _ _ _ p Z=>L_not_ rfl (p 2 19 rfl rfl) (nO rfl rfl Z)) (opsS_cons (fun f w_ _ _ _ _ p Z=>mF (p 3 20 rfl rfl) rfl (nO rfl rfl Z)) (opsS_cons (fun f w_ _ _ s _ p Z=>L_fa (o':=0) (g_yes rfl (Eq.trans (p 4 21 rfl rfl) (congrArg Value.bool hc56)) rfl) fa_58_0 ((s 4 rfl).trans rfl) rfl (nO rfl rfl Z)) (opsS_cons (fun f w_ _ _ _ _ p Z=>L_ld (v:=I x_8.coef) (g_yes rfl (Eq.trans (p 4 21 rfl rfl) (congrArg Value.bool hc56)) rfl) Tryz.isAgg3 (p 5 22 rfl rfl) (At.cell0 (Blk.at (Star.blkAt 0 Z rfl)) (j:=0) rfl) (nO rfl rfl Z)) (opsS_cons (fun f w_ _ _ _ _ p Z=>L_lss (g_yes rfl (Eq.trans (p 4 21 rfl rfl) (congrArg Value.bool hc56)) rfl) (p 6 23 rfl rfl) rfl (nO rfl rfl Z)) (opsS_cons (fun f w_ _ _ _ _ p Z=>pkT (v:=Bo ((!x29) || (decide (x_8.coef < 1)))) (p 4 21 rfl rfl) hc56 rfl (or_f hc56 (p 7 24 rfl rfl)) (nO rfl rfl Z)) (opsS_cons (fun f w_ _ _ _ _ p Z=>mF (p 8 25 rfl rfl) rfl (nO rfl rfl Z)) (opsS_cons (fun f w_ _ _ s _ p Z=>L_fa (o':=0) (g_yes rfl (Eq.trans (p 9 26 rfl rfl) (congrArg Value.bool hc194)) rfl) fa_58_0 ((s 4 rfl).trans rfl) rfl (nO rfl rfl Z)) (opsS_cons (fun f w_ _ _ _ _ p Z=>L_ld (v:=I x_8.coef) (g_yes rfl (Eq.trans (p 9 26 rfl rfl) (congrArg Value.bool hc194)) rfl) Tryz.isAgg3 (p 10 27 rfl rfl) (At.cell0 (Blk.at (Star.blkAt 0 Z rfl)) (j:=0) rfl) (nO rfl rfl Z)) (opsS_cons (fun f w_ _ _ _ _ p Z=>L_gtr (g_yes rfl (Eq.trans (p 9 26 rfl rfl) (congrArg Value.bool hc194)) rfl) (p 11 28 rfl rfl) rfl (nO rfl rfl Z)) (opsS_cons (fun f w_ _ _ _ _ p Z=>pkT (v:=Bo (((!x29) || (decide (x_8.coef < 1))) || (decide (x_8.coef > 1000)))) (p 9 26 rfl rfl) hc194 rfl (or_f hc194 (p 12 29 rfl rfl)) (nO rfl rfl Z)) (opsS_cons (fun f w_ _ _ _ _ p Z=>mF (p 13 30 rfl rfl) rfl (nO rfl rfl Z)) (oP (fun _ _ p=>gN (p 14 31 rfl rfl) hc263 rfl) (fun _=>rfl) (oP (fun _ _ p=>gN (p 14 31 rfl rfl) hc263 rfl) (fun _=>rfl) (oP (fun _ _ p=>gN (p 14 31 rfl rfl) hc263 rfl) (fun _=>rfl) (oP (fun _ _ p=>g_undef rfl (p 17 34 rfl rfl) rfl) (fun _=>rfl) (oP (fun _ _ p=>g_undef rfl (p 17 34 rfl rfl) rfl) (fun _=>rfl) (oP (fun _ _ p=>g_undef rfl (p 17 34 rfl rfl) rfl) (fun _=>rfl) (oP (fun _ _ p=>g_undef rfl (p 17 34 rfl rfl) rfl) (fun _=>rfl) (oP (fun _ _ p=>g_undef rfl (p 17 34 rfl rfl) rfl) (fun _=>rfl) (oP (fun _ _ p=>g_undef rfl (p 17 34 rfl rfl) rfl) (fun _=>rfl) (oP (fun _ _ p=>g_undef rfl (p 17 34 rfl rfl) rfl) (fun _=>rfl) (oP (fun _ _ p=>g_undef rfl (p 17 34 rfl rfl) rfl) (fun _=>rfl) (oP (fun _ _ p=>g_undef rfl (p 17 34 rfl rfl) rfl) (fun _=>rfl) (oP (fun _ _ p=>g_undef rfl (p 17 34 rfl rfl) rfl) (fun _=>rfl) (opsS_nil)))))))))))))))))))))))))
 refine ps (g_undef rfl (hT52 17 34 rfl rfl) rfl) (ps (g_undef rfl (hT52 17 34 rfl rfl) rfl) (ps (g_no rfl (Eq.trans (hT52 14 31 rfl rfl) (congrArg Value.bool hc263)) rfl rfl) (L_pick (v:=Bo b51) rfl (Eq.trans (hT52 14 31 rfl rfl) (congrArg Value.bool hc263)) (congrArg Value.bool (so hb51)) (nn ?_))))
 have Z:=Z.get 1 rfl
 exact rj hR55 ⟨H52,hE52,((hS52 1 rfl).trans sf1),((hS52 3 rfl).trans sf3),rfl,(Star.keepN 1 Z)⟩
 rw [ite_f hc263] at hb51
 obtain ⟨b50,hb50,hb51⟩:=bind_some hb51
 rcases Bool.eq_false_or_eq_true (decide ((i_5 : Int) > 0)) with hc276 | hc276
 rw [ite_t hc276] at hb50
 obtain ⟨x31,hx31,hb50⟩:=bind_some hb50
 obtain ⟨x41,hx41,hb50⟩:=bind_some hb50
 obtain ⟨x48,hx48,hb50⟩:=bind_some hb50
 refine W_drawS 28 [isV (Pq g21 1),isV (I x_8.lit),isV (Bo x29),isV (Bo (!x29)),isV (Bo (!x29)),isV (Pt g21),isV (I x_8.coef),isV (Bo (decide (x_8.coef < 1))),isV (Bo ((!x29) || (decide (x_8.coef < 1)))),isV (Bo ((!x29) || (decide (x_8.coef < 1)))),isV (Pt g21),isV (I x_8.coef),isV (Bo (decide (x_8.coef > 1000))),isV (Bo (((!x29) || (decide (x_8.coef < 1))) || (decide (x_8.coef > 1000)))),isV (Bo (((!x29) || (decide (x_8.coef < 1))) || (decide (x_8.coef > 1000)))),isV (I i_5),isV (Bo (decide ((i_5 : Int) > 0))),isV (Bo (decide ((i_5 : Int) > 0))),isV (Pt g3),isV (v0_0),isV (I i_5),isV (I (i64 ((i_5 : Int) - 1))),isEl rTerm x31 0,isEl rTerm x31 1,isV (I x31.lit),isV (I x41),isV (Pq g21 1),isV (I x_8.lit)] [box g21 58 #[I x_8.coef,I x_8.lit],box g3 37 #[v0_0,I c.bound]] [] ([]) [([],[]),([],[]),([],[]),([],[]),([],[]),([],[]),([],[]),([],[]),([],[]),([],[]),([],[]),([],[]),([],[]),([],[]),([],[]),([],[]),([],[]),([],[]),([],[]),([],[]),([],[]),([],[]),([],[]),([],[]),([],[]),([],[]),([],[]),([],[])] (S:=[]) Tryz_mix (by kernel_rfl) rfl (by kernel_rfl) (amF_cons (mono_V _) (amF_cons (mono_V _) (amF_cons (mono_V _) (amF_cons (mono_V _) (amF_cons (mono_V _) (amF_cons (mono_V _) (amF_cons (mono_V _) (amF_cons (mono_V _) (amF_cons (mono_V _) (amF_cons (mono_V _) (amF_cons (mono_V _) (amF_cons (mono_V _) (amF_cons (mono_V _) (amF_cons (mono_V _) (amF_cons (mono_V _) (amF_cons (mono_V _) (amF_cons (mono_V _) (amF_cons (mono_V _) (amF_cons (mono_V _) (amF_cons (mono_V _) (amF_cons (mono_V _) (amF_cons (mono_V _) (amF_cons (mono_el _ _ _) (amF_cons (mono_el _ _ _) (amF_cons (mono_V _) (amF_cons (mono_V _) (amF_cons (mono_V _) (amF_cons (mono_V _) amF_nil)))))))))))))))))))))))))))) Z ?_ (fun f w_ H52 hS52 hE52 hT52 Z=>?_)
 refine opsS_cons (fun f w_ _ _ s _ _ Z=>fA 1 fa_58_1 ((s 4 rfl).trans rfl) rfl (nO rfl rfl Z)) (opsS_cons (fun f w_ _ _ _ _ p Z=>ldB 0 Z Tryz.isAgg3 (p 0 17 rfl rfl) rfl rfl (nO rfl rfl Z)) (opsS_cons ?_ ?_))
 intro f w_ H52 X52 hS52 hE52 hP52 Z
 obtain ⟨H293b,l294,s295,z296,k297⟩:=Z.borrow
 refine L_call rfl Tryz.call40 (ops1 (hP52 1 18 rfl rfl)) (s_l1Lit_c (n_:=x_8.lit) s295 hx29) ?_
 rintro _ w298 ⟨rfl,Z⟩
 have Z:=k297 Z c0
 exact L_nil ⟨rfl,_,_,rfl,Le.refl _,fun _ _=>rfl,Z⟩
 refine opsS_cons (fun f w_ _ _ _ _ p Z=>L_not_ rfl (p 2 19 rfl rfl) (nO rfl rfl Z)) (opsS_cons (fun f w_ _ _ _ _ p Z=>mF (p 3 20 rfl rfl) rfl (nO rfl rfl Z)) (opsS_cons (fun f w_ _ _ s _ p Z=>L_fa (o':=0) (g_yes rfl (Eq.trans (p 4 21 rfl rfl) (congrArg Value.bool hc56)) rfl) fa_58_0 ((s 4 rfl).trans rfl) rfl (nO rfl rfl Z)) (opsS_cons (fun f w_ _ _ _ _ p Z=>L_ld (v:=I x_8.coef) (g_yes rfl (Eq.trans (p 4 21 rfl rfl) (congrArg Value.bool hc56)) rfl) Tryz.isAgg3 (p 5 22 rfl rfl) (At.cell0 (Blk.at (Star.blkAt 0 Z rfl)) (j:=0) rfl) (nO rfl rfl Z)) (opsS_cons (fun f w_ _ _ _ _ p Z=>L_lss (g_yes rfl (Eq.trans (p 4 21 rfl rfl) (congrArg Value.bool hc56)) rfl) (p 6 23 rfl rfl) rfl (nO rfl rfl Z)) (opsS_cons (fun f w_ _ _ _ _ p Z=>pkT (v:=Bo ((!x29) || (decide (x_8.coef < 1)))) (p 4 21 rfl rfl) hc56 rfl (or_f hc56 (p 7 24 rfl rfl)) (nO rfl rfl Z)) (opsS_cons (fun f w_ _ _ _ _ p Z=>mF (p 8 25 rfl rfl) rfl (nO rfl rfl Z)) (opsS_cons (fun f w_ _ _ s _ p Z=>L_fa (o':=0) (g_yes rfl (Eq.trans (p 9 26 rfl rfl) (congrArg Value.bool hc194)) rfl) fa_58_0 ((s 4 rfl).trans rfl) rfl (nO rfl rfl Z)) (opsS_cons (fun f w_ _ _ _ _ p Z=>L_ld (v:=I x_8.coef) (g_yes rfl (Eq.trans (p 9 26 rfl rfl) (congrArg Value.bool hc194)) rfl) Tryz.isAgg3 (p 10 27 rfl rfl) (At.cell0 (Blk.at (Star.blkAt 0 Z rfl)) (j:=0) rfl) (nO rfl rfl Z)) (opsS_cons (fun f w_ _ _ _ _ p Z=>L_gtr (g_yes rfl (Eq.trans (p 9 26 rfl rfl) (congrArg Value.bool hc194)) rfl) (p 11 28 rfl rfl) rfl (nO rfl rfl Z)) (opsS_cons (fun f w_ _ _ _ _ p Z=>pkT (v:=Bo (((!x29) || (decide (x_8.coef < 1))) || (decide (x_8.coef > 1000)))) (p 9 26 rfl rfl) hc194 rfl (or_f hc194 (p 12 29 rfl rfl)) (nO rfl rfl Z)) (opsS_cons (fun f w_ _ _ _ _ p Z=>mF (p 13 30 rfl rfl) rfl (nO rfl rfl Z)) (opsS_cons (fun f w_ _ _ s _ p Z=>L_mv (v:=I i_5) (g_yes rfl (Eq.trans (p 14 31 rfl rfl) (congrArg Value.bool hc263)) rfl) ((s 3 rfl).trans sf3) (nO rfl rfl Z)) (opsS_cons (fun f w_ _ _ _ _ p Z=>L_gtr (g_yes rfl (Eq.trans (p 14 31 rfl rfl) (congrArg Value.bool hc263)) rfl) (p 15 32 rfl rfl) rfl (nO rfl rfl Z)) (opsS_cons (fun f w_ _ _ _ _ p Z=>L_mv (v:=Bo (decide ((i_5 : Int) > 0))) (g_yes rfl (Eq.trans (p 14 31 rfl rfl) (congrArg Value.bool hc263)) rfl) (p 16 33 rfl rfl) (nO rfl rfl Z)) (opsS_cons (fun f w_ _ _ s _ p Z=>L_fa (o':=0) (g_yes rfl (Eq.trans (p 17 34 rfl rfl) (congrArg Value.bool hc276)) rfl) fa_37_0 ((s 1 rfl).trans sf1) rfl (nO rfl rfl Z)) (opsS_cons (fun f w_ _ _ _ _ p Z=>L_ld (v:=v0_0) (g_yes rfl (Eq.trans (p 17 34 rfl rfl) (congrArg Value.bool hc276)) rfl) Tryz.isAgg35 (p 18 35 rfl rfl) (At.cell0 (Blk.at (Star.blkAt 1 Z rfl)) (j:=0) rfl) (nO rfl rfl Z)) (opsS_cons (fun f w_ _ _ s _ p Z=>L_mv (v:=I i_5) (g_yes rfl (Eq.trans (p 17 34 rfl rfl) (congrArg Value.bool hc276)) rfl) ((s 3 rfl).trans sf3) (nO rfl rfl Z)) (opsS_cons (fun f w_ _ _ _ _ p Z=>L_sub (g_yes rfl (Eq.trans (p 17 34 rfl rfl) (congrArg Value.bool hc276)) rfl) (p 20 37 rfl rfl) rfl (nO rfl rfl Z)) (opsS_cons ?_ ?_)))))))))))))))))))
 intro f w_ H52 X52 hS52 hE52 hP52 Z
 refine L_ix (r:=rTerm) (g_yes rfl (Eq.trans (hP52 17 34 rfl rfl) (congrArg Value.bool hc276)) rfl) Tryz.underlying35 Tryz.sizeOf58 (hP52 19 36 rfl rfl) (RP.mono _ h0_0 (Le.trans l7 hE52)) (hP52 21 38 rfl rfl) hx31 (fun g299 o300 cs_g299 hrk_hat301 hat301=>?_)
 obtain rfl:=rTerm_iff.1 hrk_hat301
 exact L_nil ⟨rfl,_,_,rfl,Le.refl _,fun _ _=>⟨_,_,_,rfl,hrk_hat301,hat301⟩,Z⟩
 refine opsS_cons ?_ ?_
 intro f w_ H52 X52 hS52 hE52 hP52 Z
 obtain ⟨g303,o303,cs303,hv303,hrk_hat303,hat303⟩:=(hP52 22 39 rfl rfl)
 obtain rfl:=rTerm_iff.1 hrk_hat303
 refine L_fa (o':=o303 + 1) (g_yes rfl (Eq.trans (hP52 17 34 rfl rfl) (congrArg Value.bool hc276)) rfl) fa_58_1 hv303 rfl (L_nil ⟨rfl,_,_,rfl,Le.refl _,fun _ _=>⟨_,_,_,rfl,hrk_hat303,hat303⟩,Z⟩)
 refine opsS_cons ?_ ?_
 intro f w_ H52 X52 hS52 hE52 hP52 Z
 obtain ⟨g305,o305,cs305,hv305,hrk_hat305,hat305⟩:=(hP52 23 40 rfl rfl)
 obtain rfl:=rTerm_iff.1 hrk_hat305
 refine L_ld (v:=I x31.lit) (g_yes rfl (Eq.trans (hP52 17 34 rfl rfl) (congrArg Value.bool hc276)) rfl) Tryz.isAgg3 hv305 (At.cell (AtH.at hat305 Z.sub) (j:=1) rfl) (L_nil ⟨rfl,_,_,rfl,Le.refl _,fun _ _=>rfl,Z⟩)
 refine opsS_cons ?_ ?_
 intro f w_ H52 X52 hS52 hE52 hP52 Z
 obtain ⟨H307b,l308,s309,z310,k311⟩:=Z.borrow
 refine L_call (g_yes rfl (Eq.trans (hP52 17 34 rfl rfl) (congrArg Value.bool hc276)) rfl) Tryz.call41 (ops1 (hP52 24 41 rfl rfl)) (s_l1Abs_c (n_:=x31.lit) s309 hx41) ?_
 rintro _ w312 ⟨rfl,Z⟩
 have Z:=k311 Z c0
 exact L_nil ⟨rfl,_,_,rfl,Le.refl _,fun _ _=>rfl,Z⟩
 refine opsS_cons (fun f w_ _ _ s _ p Z=>L_fa (o':=1) (g_yes rfl (Eq.trans (p 17 34 rfl rfl) (congrArg Value.bool hc276)) rfl) fa_58_1 ((s 4 rfl).trans rfl) rfl (nO rfl rfl Z)) (opsS_cons (fun f w_ _ _ _ _ p Z=>L_ld (v:=I x_8.lit) (g_yes rfl (Eq.trans (p 17 34 rfl rfl) (congrArg Value.bool hc276)) rfl) Tryz.isAgg3 (p 26 43 rfl rfl) (At.cell0 (Blk.at (Star.blkAt 0 Z rfl)) (j:=1) rfl) (nO rfl rfl Z)) (opsS_nil))
 obtain ⟨H313b,l314,s315,z316,k317⟩:=Z.borrow
 refine L_call (g_yes rfl (Eq.trans (hT52 17 34 rfl rfl) (congrArg Value.bool hc276)) rfl) Tryz.call41 (ops1 (hT52 27 44 rfl rfl)) (s_l1Abs_c (n_:=x_8.lit) s315 hx48) ?_
 rintro _ w318 ⟨rfl,Z⟩
 have Z:=k317 Z c0
 refine L_geq (g_yes rfl (Eq.trans (hT52 17 34 rfl rfl) (congrArg Value.bool hc276)) rfl) (hT52 25 42 rfl rfl) rfl (L_pick (v:=Bo b50) (g_yes rfl (Eq.trans (hT52 14 31 rfl rfl) (congrArg Value.bool hc263)) rfl) (Eq.trans (hT52 17 34 rfl rfl) (congrArg Value.bool hc276)) (congrArg Value.bool (so hb50)) (L_pick (v:=Bo b51) rfl (Eq.trans (hT52 14 31 rfl rfl) (congrArg Value.bool hc263)) (congrArg Value.bool (so hb51)) (nn ?_)))
 have Z:=Z.get 1 rfl
 exact rj hR55 ⟨H52,hE52,((hS52 1 rfl).trans sf1),((hS52 3 rfl).trans sf3),rfl,(Star.keepN 1 Z)⟩
 rw [ite_f hc276] at hb50
 refine W_drawS 28 [isV (Pq g21 1),isV (I x_8.lit),isV (Bo x29),isV (Bo (!x29)),isV (Bo (!x29)),isV (Pt g21),isV (I x_8.coef),isV (Bo (decide (x_8.coef < 1))),isV (Bo ((!x29) || (decide (x_8.coef < 1)))),isV (Bo ((!x29) || (decide (x_8.coef < 1)))),isV (Pt g21),isV (I x_8.coef),isV (Bo (decide (x_8.coef > 1000))),isV (Bo (((!x29) || (decide (x_8.coef < 1))) || (decide (x_8.coef > 1000)))),isV (Bo (((!x29) || (decide (x_8.coef < 1))) || (decide (x_8.coef > 1000)))),isV (I i_5),isV (Bo (decide ((i_5 : Int) > 0))),isV (Bo (decide ((i_5 : Int) > 0))),isV (undef),isV (undef),isV (undef),isV (undef),isV (undef),isV (undef),isV (undef),isV (undef),isV (undef),isV (undef)] [box g21 58 #[I x_8.coef,I x_8.lit],box g3 37 #[v0_0,I c.bound]] [] ([]) [([],[]),([],[]),([],[]),([],[]),([],[]),([],[]),([],[]),([],[]),([],[]),([],[]),([],[]),([],[]),([],[]),([],[]),([],[]),([],[]),([],[]),([],[]),([],[]),([],[]),([],[]),([],[]),([],[]),([],[]),([],[]),([],[]),([],[]),([],[])] (S:=[]) Tryz_mix (by kernel_rfl) rfl (by kernel_rfl) (amF_cons (mono_V _) (amF_cons (mono_V _) (amF_cons (mono_V _) (amF_cons (mono_V _) (amF_cons (mono_V _) (amF_cons (mono_V _) (amF_cons (mono_V _) (amF_cons (mono_V _) (amF_cons (mono_V _) (amF_cons (mono_V _) (amF_cons (mono_V _) (amF_cons (mono_V _) (amF_cons (mono_V _) (amF_cons (mono_V _) (amF_cons (mono_V _) (amF_cons (mono_V _) (amF_cons (mono_V _) (amF_cons (mono_V _) (amF_cons (mono_V _) (amF_cons (mono_V _) (amF_cons (mono_V _) (amF_cons (mono_V _) (amF_cons (mono_V _) (amF_cons (mono_V _) (amF_cons (mono_V _) (amF_cons (mono_V _) (amF_cons (mono_V _) (amF_cons (mono_V _) amF_nil)))))))))))))))))))))))))))) Z ?_ (fun f w_ H52 hS52 hE52 hT52 Z=>?_)
 refine opsS_cons (fun f w_ _ _ s _ _ Z=>fA 1 fa_58_1 ((s 4 rfl).trans rfl) rfl (nO rfl rfl Z)) (opsS_cons (fun f w_ _ _ _ _ p Z=>ldB 0 Z Tryz.isAgg3 (p 0 17 rfl rfl) rfl rfl (nO rfl rfl Z)) (opsS_cons ?_ ?_))
 intro f w_ H52 X52 hS52 hE52 hP52 Z
 obtain ⟨H325b,l326,s327,z328,k329⟩:=Z.borrow
 refine L_call rfl Tryz.call40 (ops1 (hP52 1 18 rfl rfl)) (s_l1Lit_c (n_:=x_8.lit) s327 hx29) ?_
 rintro _ w330 ⟨rfl,Z⟩
 have Z:=k329 Z c0
 exact L_nil ⟨rfl,_,_,rfl,Le.refl _,fun _ _=>rfl,Z⟩
 refine opsS_cons (fun f w_ _ _ _ _ p Z=>L_not_ rfl (p 2 19 rfl rfl) (nO rfl rfl Z)) (opsS_cons (fun f w_ _ _ _ _ p Z=>mF (p 3 20 rfl rfl) rfl (nO rfl rfl Z)) (opsS_cons (fun f w_ _ _ s _ p Z=>L_fa (o':=0) (g_yes rfl (Eq.trans (p 4 21 rfl rfl) (congrArg Value.bool hc56)) rfl) fa_58_0 ((s 4 rfl).trans rfl) rfl (nO rfl rfl Z)) (opsS_cons (fun f w_ _ _ _ _ p Z=>L_ld (v:=I x_8.coef) (g_yes rfl (Eq.trans (p 4 21 rfl rfl) (congrArg Value.bool hc56)) rfl) Tryz.isAgg3 (p 5 22 rfl rfl) (At.cell0 (Blk.at (Star.blkAt 0 Z rfl)) (j:=0) rfl) (nO rfl rfl Z)) (opsS_cons (fun f w_ _ _ _ _ p Z=>L_lss (g_yes rfl (Eq.trans (p 4 21 rfl rfl) (congrArg Value.bool hc56)) rfl) (p 6 23 rfl rfl) rfl (nO rfl rfl Z)) (opsS_cons (fun f w_ _ _ _ _ p Z=>pkT (v:=Bo ((!x29) || (decide (x_8.coef < 1)))) (p 4 21 rfl rfl) hc56 rfl (or_f hc56 (p 7 24 rfl rfl)) (nO rfl rfl Z)) (opsS_cons (fun f w_ _ _ _ _ p Z=>mF (p 8 25 rfl rfl) rfl (nO rfl rfl Z)) (opsS_cons (fun f w_ _ _ s _ p Z=>L_fa (o':=0) (g_yes rfl (Eq.trans (p 9 26 rfl rfl) (congrArg Value.bool hc194)) rfl) fa_58_0 ((s 4 rfl).trans rfl) rfl (nO rfl rfl Z)) (opsS_cons (fun f w_ _ _ _ _ p Z=>L_ld (v:=I x_8.coef) (g_yes rfl (Eq.trans (p 9 26 rfl rfl) (congrArg Value.bool hc194)) rfl) Tryz.isAgg3 (p 10 27 rfl rfl) (At.cell0 (Blk.at (Star.blkAt 0 Z rfl)) (j:=0) rfl) (nO rfl rfl Z)) (opsS_cons (fun f w_ _ _ _ _ p Z=>L_gtr (g_yes rfl (Eq.trans (p 9 26 rfl rfl) (congrArg Value.bool hc194)) rfl) (p 11 28 rfl rfl) rfl (nO rfl rfl Z)) (opsS_cons (fun f w_ _ _ _ _ p Z=>pkT (v:=Bo (((!x29) || (decide (x_8.coef < 1))) || (decide (x_8.coef > 1000)))) (p 9 26 rfl rfl) hc194 rfl (or_f hc194 (p 12 29 rfl rfl)) (nO rfl rfl Z)) (opsS_cons (fun f w_ _ _ _ _ p Z=>mF (p 13 30 rfl rfl) rfl (nO rfl rfl Z)) (opsS_cons (fun f w_ _ _ s _ p Z=>L_mv (v:=I i_5) (g_yes rfl (Eq.trans (p 14 31 rfl rfl) (congrArg Value.bool hc263)) rfl) ((s 3 rfl).trans sf3) (nO rfl rfl Z)) (opsS_cons (fun f w_ _ _ _ _ p Z=>L_gtr (g_yes rfl (Eq.trans (p 14 31 rfl rfl) (congrArg Value.bool hc263)) rfl) (p 15 32 rfl rfl) rfl (nO rfl rfl Z)) (opsS_cons (fun f w_ _ _ _ _ p Z=>L_mv (v:=Bo (decide ((i_5 : Int) > 0))) (g_yes rfl (Eq.trans (p 14 31 rfl rfl) (congrArg Value.bool hc263)) rfl) (p 16 33 rfl rfl) (nO rfl rfl Z)) (oP (fun _ _ p=>gN (p 17 34 rfl rfl) hc276 rfl) (fun _=>rfl) (oP (fun _ _ p=>gN (p 17 34 rfl rfl) hc276 rfl) (fun _=>rfl) (oP (fun _ _ p=>gN (p 17 34 rfl rfl) hc276 rfl) (fun _=>rfl) (oP (fun _ _ p=>gN (p 17 34 rfl rfl) hc276 rfl) (fun _=>rfl) (oP (fun _ _ p=>gN (p 17 34 rfl rfl) hc276 rfl) (fun _=>rfl) (oP (fun _ _ p=>gN (p 17 34 rfl rfl) hc276 rfl) (fun _=>rfl) (oP (fun _ _ p=>gN (p 17 34 rfl rfl) hc276 rfl) (fun _=>rfl) (oP (fun _ _ p=>gN (p 17 34 rfl rfl) hc276 rfl) (fun _=>rfl) (oP (fun _ _ p=>gN (p 17 34 rfl rfl) hc276 rfl) (fun _=>rfl) (oP (fun _ _ p=>gN (p 17 34 rfl rfl) hc276 rfl) (fun _=>rfl) (opsS_nil)))))))))))))))))))))))))
 refine ps (g_no rfl (Eq.trans (hT52 17 34 rfl rfl) (congrArg Value.bool hc276)) rfl rfl) (ps (g_no rfl (Eq.trans (hT52 17 34 rfl rfl) (congrArg Value.bool hc276)) rfl rfl) (L_pick (v:=Bo b50) (g_yes rfl (Eq.trans (hT52 14 31 rfl rfl) (congrArg Value.bool hc263)) rfl) (Eq.trans (hT52 17 34 rfl rfl) (congrArg Value.bool hc276)) (congrArg Value.bool (so hb50)) (L_pick (v:=Bo b51) rfl (Eq.trans (hT52 14 31 rfl rfl) (congrArg Value.bool hc263)) (congrArg Value.bool (so hb51)) (nn ?_))))
 have Z:=Z.get 1 rfl
 exact rj hR55 ⟨H52,hE52,((hS52 1 rfl).trans sf1),((hS52 3 rfl).trans sf3),rfl,(Star.keepN 1 Z)⟩
 intro f w_ hR
 obtain ⟨H53,l54,sf1,sf3,sf48,Z⟩:=rk hR55 hR
 refine W_cond (b:=b51) sf48 (fun hc331=>?_) (fun hc331=>?_)
 have hB8:=(ite_t hc331).symm.trans hB8
 refine sq (aB rfl (nn (W_ret (retG1 (v1:=Bo false) Tryz.results21 rfl ?_))))
 obtain rfl:=so hB8
 obtain rfl:=so hL8
 obtain rfl:=so hF
 exact ⟨rfl,(Star.down (Star.keepN 0 Z) (Le.trans l7 l54) c0)⟩
 have hB8:=(ite_f hc331).symm.trans hB8
 refine W_skip (W_region (mF sf3 rfl (L_add rfl rfl rfl (aI rfl (nn ?_)))))
 obtain rfl:=so hB8
 show ∃ m,m < _∧I8 m _ _
 refine ⟨rest8.length,by simp,?_⟩
 exact ij hI8 ⟨i_5 + 1,rest8,H53,rfl,drop_next hd8,by simp at hl8; omega,hL8,(Le.trans l7 l54),sf1,(Eq.trans rfl (congrArg (Value.int .i64) (i64_succ (n:=c.terms.length) (by simp at hl8; omega) hlen8))),Z⟩
 rcases suf8 with _ | ⟨_,_⟩
 obtain rfl:=range_nil hL8
 refine W_exit (rj hR8 ⟨H6,rfl,l7,sf1,Z⟩)
 exact absurd (of_decide_eq_false hc9) (by simp at hl8; omega)
 intro f w_ hR
 obtain ⟨H6,rfl,l7,sf1,Z⟩:=rk hR8 hR
 refine W_seq ?_
 obtain ⟨R332,hR332⟩:=exR fun f w_=>f 2 = Bo ((decide (c.bound ≥ 0)) && (decide (c.bound≤20000)))∧Star H6 w_ ([])
 refine W_join R332 ?_ ?_
 refine W_region (fA 1 fa_37_1 sf1 rfl (ldB 0 Z Tryz.isAgg3 rfl rfl rfl (L_geq rfl rfl rfl (mB rfl (L_split (d:=52) (b:=decide (c.bound ≥ 0)) rfl (fun hc333=>?_) (fun hc333=>?_))))))
 refine fA 1 fa_37_1 sf1 rfl (ldB 0 Z Tryz.isAgg3 rfl rfl rfl (L_leq rfl rfl rfl (L_pick (v:=Bo ((decide (c.bound ≥ 0)) && (decide (c.bound≤20000)))) rfl rfl (and_t hc333 rfl) (aB rfl (nn (rj hR332 ⟨rfl,(Star.keepN 0 Z)⟩))))))
 refine ps rfl (ps rfl (ps rfl (L_pick (v:=Bo ((decide (c.bound ≥ 0)) && (decide (c.bound≤20000)))) rfl rfl (and_f hc333) (aB rfl (nn (rj hR332 ⟨rfl,(Star.keepN 0 Z)⟩))))))
 intro f w_ hR
 obtain ⟨sf2,Z⟩:=rk hR332 hR
 refine W_ret (retG1 (v1:=Bo ((decide (c.bound ≥ 0)) && (decide (c.bound≤20000)))) Tryz.results21 sf2 ?_)
 obtain rfl:=so hF
 exact ⟨rfl,(Star.down Z l7 c0)⟩
theorem s_ProblemValid_c {list : List Con} {v0 : Value} {H : FH} {w : World} (Z : Star H w []) (h0 : (rS 37 (rCon 58)).rel H [v0] list) {r : Bool} (hF : s_ProblemValid list = some r) :
 C Tryz.prog 9 #[v0] w fun v w'=>v = Bo r∧Star H w' []:=by
 unfold s_ProblemValid at hF
 refine C_enter Tryz.func9 rfl Tryz.ntmps9 rfl (sq (aB rfl (nq (sq (aI rfl (nn ?_))))))
 have hlen2 : List.length list≤9223372036854775807:=len_le (slice_len h0)
 obtain ⟨j2,hL2,hF⟩:=bind_some hF
 obtain ⟨R2,hR2⟩:=exR fun f w_=>j2 = .nx ()∧f 0 = v0∧Star H w_ ([])
 refine W_join R2 ?_ ?_
 refine W_block ?_
 obtain ⟨I2,hI2⟩:=exI fun n f w_=>∃ i_1 : Nat,∃ suf2 : List Con,n = suf2.length∧List.drop i_1 list = suf2∧i_1 + suf2.length = list.length∧rangeL s_ProblemValid_b1 suf2 i_1 () = some j2∧f 0 = v0∧f 3 = I i_1∧Star H w_ ([])
 refine W_loop I2 (n:=list.length) ?_ ?_
 exact ij hI2 ⟨0,list,rfl,rfl,Nat.zero_add _,hL2,rfl,rfl,Z⟩
 intro n2 f w_ hI
 obtain ⟨i_1,suf2,rfl,hd2,hl2,hL2,sf0,sf3,Z⟩:=ik hI2 hI
 refine W_seq (sq (mF sf3 rfl (mF sf0 rfl (L_len rfl Tryz.underlying23 rfl (slice_len h0) (L_lss rfl rfl rfl (nn (W_cond (b:=decide ((i_1 : Int) < (list.length : Int))) rfl (fun hc3=>?_) (fun hc3=>?_))))))))
 have hlt2:=of_decide_eq_true hc3
 rcases suf2 with _ | ⟨x_2,rest2⟩
 exact absurd hlt2 (by simp at hl2; omega)
 obtain ⟨o2,hB2,hL2⟩:=range_cons hL2
 rw [s_ProblemValid_b1] at hB2
 have hix2:=drop_idx hd2
 refine W_skip (W_seq (W_block (W_seq ?_)))
 obtain ⟨x13,hx13,hB2⟩:=bind_some hB2
 refine W_region (mF sf0 rfl (mF sf3 rfl (L_ix (r:=(rCon 58)) rfl Tryz.underlying23 Tryz.sizeOf37 rfl h0 rfl hix2 (fun g15 o16 cs_g15 hrk_hat17 hat17=>?_))))
 obtain ⟨u18_0,rfl,hu18_0⟩:=rCon_iff.1 hrk_hat17
 refine L_lda (cs:=[u18_0,I x_2.bound]) rfl Tryz.isAgg37 Tryz.sizeOf37 rfl (At.sub (AtH.at hat17 Z.sub) 0 2) rfl ?_
 obtain ⟨H19b,l20,s21,z22,k23⟩:=Z.borrow
 refine L_call rfl Tryz.call21 (ops1 rfl) (s_ConstraintValid_c (c:=x_2) s21 (RP.mono _ hu18_0 l20) hx13) ?_
 rintro _ w24 ⟨rfl,Z⟩
 have Z:=k23 Z c0
 refine L_not_ rfl rfl (nn (W_cond (b:=(!x13)) rfl (fun hc25=>?_) (fun hc25=>?_)))
 have hB2:=(ite_t hc25).symm.trans hB2
 refine sq (aB rfl (nn (W_ret (retG1 (v1:=Bo false) Tryz.results9 rfl ?_))))
 obtain rfl:=so hB2
 obtain rfl:=so hL2
 obtain rfl:=so hF
 exact ⟨rfl,Z⟩
 have hB2:=(ite_f hc25).symm.trans hB2
 refine W_skip (W_region (mF sf3 rfl (L_add rfl rfl rfl (aI rfl (nn ?_)))))
 obtain rfl:=so hB2
 show ∃ m,m < _∧I2 m _ _
 refine ⟨rest2.length,by simp,?_⟩
 exact ij hI2 ⟨i_1 + 1,rest2,rfl,drop_next hd2,by simp at hl2; omega,hL2,sf0,(Eq.trans rfl (congrArg (Value.int .i64) (i64_succ (n:=list.length) (by simp at hl2; omega) hlen2))),Z⟩
 rcases suf2 with _ | ⟨_,_⟩
 obtain rfl:=range_nil hL2
 refine W_exit (rj hR2 ⟨rfl,sf0,Z⟩)
 exact absurd (of_decide_eq_false hc3) (by simp at hl2; omega)
 intro f w_ hR
 obtain ⟨rfl,sf0,Z⟩:=rk hR2 hR
 refine sq (mF sf0 rfl (L_len rfl Tryz.underlying23 rfl (slice_len h0) (L_leq rfl rfl rfl (aB rfl (nn (W_ret (retG1 (v1:=Bo (decide ((list.length : Int)≤400))) Tryz.results9 rfl ?_)))))))
 obtain rfl:=so hF
 exact ⟨rfl,Z⟩
theorem s_l17Dec_F_c {fu : Nat} {rec_ : Int→Option ByteArray} (hrec : ∀ {n_ : Int} {H : FH} {w : World} (Z : Star H w []) {r : ByteArray} (hF : rec_ n_ = some r),C Tryz.prog 36 #[I n_] w fun v w'=>v = .string r∧Star H w' []) {n_ : Int} {H : FH} {w : World} (Z : Star H w []) {r : ByteArray} (hF : s_l17Dec_F fu rec_ n_ = some r) :
 C Tryz.prog 36 #[I n_] w fun v w'=>v = .string r∧Star H w' []:=by
 unfold s_l17Dec_F at hF
 refine C_enter Tryz.func36 rfl Tryz.ntmps36 rfl (sq (aV (.string (⟨#[]⟩ : ByteArray)) rfl (nq (sq (mI rfl (L_lss rfl rfl rfl (nn (W_cond (b:=decide (n_ < (-9223372036854775807))) rfl (fun hc1=>?_) (fun hc1=>?_)))))))))
 have hF:=(ite_t hc1).symm.trans hF
 refine sq (aV (.string (⟨#[45,57,50,50,51,51,55,50,48,51,54,56,53,52,55,55,53,56,48,56]⟩ : ByteArray)) rfl (nn (W_ret (retG1 (v1:=.string (⟨#[45,57,50,50,51,51,55,50,48,51,54,56,53,52,55,55,53,56,48,56]⟩ : ByteArray)) Tryz.results36 rfl ?_))))
 obtain rfl:=so hF
 exact ⟨rfl,Z⟩
 have hF:=(ite_f hc1).symm.trans hF
 refine W_skip (W_seq (sq (mI rfl (L_lss rfl rfl rfl (nn (W_cond (b:=decide (n_ < 0)) rfl (fun hc2=>?_) (fun hc2=>?_)))))))
 have hF:=(ite_t hc2).symm.trans hF
 refine W_seq ?_
 obtain ⟨x8,hx8,hF⟩:=bind_some hF
 obtain ⟨x10,hx10,hF⟩:=bind_some hF
 refine W_region (mI rfl (L_neg rfl rfl ?_))
 obtain ⟨H11b,l12,s13,z14,k15⟩:=Z.borrow
 refine L_call rfl Tryz.call36 (ops1 rfl) (hrec (n_:=i64 (-n_)) s13 hx8) ?_
 rintro _ w16 ⟨rfl,Z⟩
 have Z:=k15 Z c0
 obtain ⟨hx10_l,hx10_e⟩:=cat_some hx10
 refine L_sadd (s:=(⟨#[45]⟩ : ByteArray)) (s':=x8) rfl rfl rfl hx10_l ?_
 rw [← hx10_e]
 refine aV (.string x10) rfl (nn (W_ret (retG1 (v1:=.string x10) Tryz.results36 rfl ?_)))
 obtain rfl:=so hF
 exact ⟨rfl,Z⟩
 have hF:=(ite_f hc2).symm.trans hF
 refine W_skip (sq (aV (.string (⟨#[]⟩ : ByteArray)) rfl (nq ?_)))
 obtain ⟨j20,hL20,hF⟩:=bind_some hF
 obtain ⟨R20,hR20⟩:=exR fun f w_=>∃ n_18 : Int,∃ out_19 : ByteArray,j20 = .nx (n_18,out_19)∧f 0 = I n_18∧f 3 = .string out_19∧Star H w_ ([])
 refine W_join R20 ?_ ?_
 refine W_block ?_
 obtain ⟨I20,hI20⟩:=exI fun n f w_=>∃ n_18 : Int,∃ out_19 : ByteArray,whileL s_l17Dec_b1 n (n_18,out_19) = some j20∧f 0 = I n_18∧f 3 = .string out_19∧Star H w_ ([])
 refine W_loop I20 (n:=fu) ?_ ?_
 exact ij hI20 ⟨n_,(⟨#[]⟩ : ByteArray),hL20,rfl,rfl,Z⟩
 intro n20 f w_ hI
 obtain ⟨n_18,out_19,hL20,sf0,sf3,Z⟩:=ik hI20 hI
 rcases n20 with _ | n20
 exact (while_zero hL20).elim
 obtain ⟨o20,hB20,hL20⟩:=while_succ hL20
 rw [s_l17Dec_b1] at hB20
 refine W_seq (sq (mF sf0 rfl (L_gtr rfl rfl rfl (nn (W_cond (b:=decide (n_18 > 9)) rfl (fun hc21=>?_) (fun hc21=>?_))))))
 have hB20:=(ite_t hc21).symm.trans hB20
 refine W_skip (W_block (W_seq ?_))
 obtain ⟨x25,hx25,hB20⟩:=bind_some hB20
 refine W_region (mF sf0 rfl (L_rem (m:=n_18) (n:=10) rfl rfl rfl (by decide) (L_add rfl rfl rfl (L_cv8 (n:=i64 (48 + (Int.tmod n_18 10))) rfl rfl ⟨_,Tryz.underlying3⟩ Tryz.underlying5 (L_bs rfl (parts1 rfl) (bs_22_1_0 (.int .u8 ((u8w (i64 (48 + (Int.tmod n_18 10)))).toNat : Int)) rfl) Z (fun g26 w27 Z=>?_))))))
 have Z:=Star.addF (r:=RP.u8) (cs:=[.int .u8 ((u8w (i64 (48 + (Int.tmod n_18 10)))).toNat : Int)]) (x:=(u8w (i64 (48 + (Int.tmod n_18 10))))) Z rfl
 have Z:=Star.mkRow (R:=(OR.frz RP.u8)) [([.int .u8 ((u8w (i64 (48 + (Int.tmod n_18 10)))).toNat : Int)],(u8w (i64 (48 + (Int.tmod n_18 10)))))] [(u8w (i64 (48 + (Int.tmod n_18 10))))] 1 Z rfl rfl rfl (by decide)
 refine L_cvs (xs:=[(u8w (i64 (48 + (Int.tmod n_18 10))))]) 0 rfl Tryz.underlying22 Tryz.underlying5 Tryz.underlying9 rfl Z rfl (by simp) (mF sf3 rfl ?_)
 obtain ⟨hx25_l,hx25_e⟩:=cat_some hx25
 refine L_sadd (s:=(bs [(u8w (i64 (48 + (Int.tmod n_18 10))))])) (s':=out_19) rfl rfl rfl hx25_l ?_
 rw [← hx25_e]
 refine aV (.string x25) rfl (nn (W_region (mF sf0 rfl (L_quo (m:=n_18) (n:=10) rfl rfl rfl (by decide) (aI rfl (nn ?_))))))
 obtain rfl:=so hB20
 show ∃ m,m < _∧I20 m _ _
 refine ⟨n20,Nat.lt_succ_self _,?_⟩
 exact ij hI20 ⟨i64 (Int.tdiv n_18 10),x25,hL20,rfl,rfl,(Star.keepN 0 Z)⟩
 have hB20:=(ite_f hc21).symm.trans hB20
 refine W_exit ?_
 obtain rfl:=so hB20
 obtain rfl:=so hL20
 exact rj hR20 ⟨n_18,out_19,rfl,sf0,sf3,Z⟩
 intro f w_ hR
 obtain ⟨n_18,out_19,rfl,sf0,sf3,Z⟩:=rk hR20 hR
 refine W_seq ?_
 obtain ⟨x32,hx32,hF⟩:=bind_some hF
 refine W_region (mF sf0 rfl (L_add rfl rfl rfl (L_cv8 (n:=i64 (48 + n_18)) rfl rfl ⟨_,Tryz.underlying3⟩ Tryz.underlying5 (L_bs rfl (parts1 rfl) (bs_22_1_0 (.int .u8 ((u8w (i64 (48 + n_18))).toNat : Int)) rfl) Z (fun g33 w34 Z=>?_)))))
 have Z:=Star.addF (r:=RP.u8) (cs:=[.int .u8 ((u8w (i64 (48 + n_18))).toNat : Int)]) (x:=(u8w (i64 (48 + n_18)))) Z rfl
 have Z:=Star.mkRow (R:=(OR.frz RP.u8)) [([.int .u8 ((u8w (i64 (48 + n_18))).toNat : Int)],(u8w (i64 (48 + n_18))))] [(u8w (i64 (48 + n_18)))] 1 Z rfl rfl rfl (by decide)
 refine L_cvs (xs:=[(u8w (i64 (48 + n_18)))]) 0 rfl Tryz.underlying22 Tryz.underlying5 Tryz.underlying9 rfl Z rfl (by simp) (mF sf3 rfl ?_)
 obtain ⟨hx32_l,hx32_e⟩:=cat_some hx32
 refine L_sadd (s:=(bs [(u8w (i64 (48 + n_18)))])) (s':=out_19) rfl rfl rfl hx32_l ?_
 rw [← hx32_e]
 refine aV (.string x32) rfl (nn (W_ret (retG1 (v1:=.string x32) Tryz.results36 rfl ?_)))
 obtain rfl:=so hF
 exact ⟨rfl,(Star.keepN 0 Z)⟩
theorem s_l17Dec_R_c {fu : Nat} : ∀ (n : Nat) {n_ : Int} {H : FH} {w : World} (Z : Star H w []) {r : ByteArray} (hF : s_l17Dec_R fu n n_ = some r),C Tryz.prog 36 #[I n_] w fun v w'=>v = .string r∧Star H w' []:=by
 intro n
 induction n with
 | zero=>intros; rename_i hF; cases hF
 | succ n ih=>intros; rename_i Z _ hF; exact s_l17Dec_F_c ih Z hF
theorem s_l17Dec_c {fu : Nat} {n_ : Int} {H : FH} {w : World} (Z : Star H w []) {r : ByteArray} (hF : s_l17Dec fu n_ = some r) :
 C Tryz.prog 36 #[I n_] w fun v w'=>v = .string r∧Star H w' []:=s_l17Dec_R_c fu Z hF
theorem s_l1Name_c {fu : Nat} {lit : Int} {H : FH} {w : World} (Z : Star H w []) {r : ByteArray} (hF : s_l1Name fu lit = some r) :
 C Tryz.prog 37 #[I lit] w fun v w'=>v = .string r∧Star H w' []:=by
 unfold s_l1Name at hF
 refine C_enter Tryz.func37 rfl Tryz.ntmps37 rfl (sq (aV (.string (⟨#[]⟩ : ByteArray)) rfl (nq (sq (mI rfl (L_lss rfl rfl rfl (nn (W_cond (b:=decide (lit < 0)) rfl (fun hc1=>?_) (fun hc1=>?_)))))))))
 have hF:=(ite_t hc1).symm.trans hF
 refine W_seq ?_
 obtain ⟨x7,hx7,hF⟩:=bind_some hF
 obtain ⟨x9,hx9,hF⟩:=bind_some hF
 refine W_region (mI rfl (L_neg rfl rfl ?_))
 obtain ⟨H10b,l11,s12,z13,k14⟩:=Z.borrow
 refine L_call rfl Tryz.call36 (ops1 rfl) (s_l17Dec_c (n_:=i64 (-lit)) s12 hx7) ?_
 rintro _ w15 ⟨rfl,Z⟩
 have Z:=k14 Z c0
 obtain ⟨hx9_l,hx9_e⟩:=cat_some hx9
 refine L_sadd (s:=(⟨#[126,120]⟩ : ByteArray)) (s':=x7) rfl rfl rfl hx9_l ?_
 rw [← hx9_e]
 refine aV (.string x9) rfl (nn (W_ret (retG1 (v1:=.string x9) Tryz.results37 rfl ?_)))
 obtain rfl:=so hF
 exact ⟨rfl,Z⟩
 have hF:=(ite_f hc1).symm.trans hF
 refine W_skip (W_seq ?_)
 obtain ⟨x21,hx21,hF⟩:=bind_some hF
 obtain ⟨x23,hx23,hF⟩:=bind_some hF
 refine W_region (mI rfl ?_)
 obtain ⟨H24b,l25,s26,z27,k28⟩:=Z.borrow
 refine L_call rfl Tryz.call36 (ops1 rfl) (s_l17Dec_c (n_:=lit) s26 hx21) ?_
 rintro _ w29 ⟨rfl,Z⟩
 have Z:=k28 Z c0
 obtain ⟨hx23_l,hx23_e⟩:=cat_some hx23
 refine L_sadd (s:=(⟨#[120]⟩ : ByteArray)) (s':=x21) rfl rfl rfl hx23_l ?_
 rw [← hx23_e]
 refine aV (.string x23) rfl (nn (W_ret (retG1 (v1:=.string x23) Tryz.results37 rfl ?_)))
 obtain rfl:=so hF
 exact ⟨rfl,Z⟩
end Go.Proofs.YtnjcihhfoocdcaaGreatDoor

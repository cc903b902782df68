/- Part of a proof by program: W1. -/
import Derived.Test.YtbjllamkfmejlaaGreatD1
import Derived.Test.YtbjllamkfmejlaaGreatProg
import Derived.Test.YtbjllamkfmejlaaGreatBits
namespace Go.Proofs.YtbjllamkfmejlaaGreat
open Go Go.E Go.L Go.RowKit
set_option linter.unusedVariables false
set_option linter.unusedSimpArgs false
set_option maxRecDepth 100000
theorem Tryz_mix : Tryz.prog.follows .mixedOrders = true := by kernel_rfl
theorem fa_26_0 : FA Tryz.prog 26 0 0 := fa_of Tryz.underlying26 rfl Tryz.sizeOf23 rfl
theorem fa_26_1 : FA Tryz.prog 26 1 1 := fa_of Tryz.underlying26 rfl Tryz.sizeOf24 rfl
theorem fa_73_0 : FA Tryz.prog 73 0 0 := fa_of Tryz.underlying73 rfl Tryz.sizeOf71 rfl
theorem fa_73_1 : FA Tryz.prog 73 1 1 := fa_of Tryz.underlying73 rfl Tryz.sizeOf3 rfl
theorem fa_79_0 : FA Tryz.prog 79 0 0 := fa_of Tryz.underlying79 rfl Tryz.sizeOf3 rfl
theorem fa_79_1 : FA Tryz.prog 79 1 1 := fa_of Tryz.underlying79 rfl Tryz.sizeOf23 rfl
theorem fa_79_2 : FA Tryz.prog 79 2 2 := fa_of Tryz.underlying79 rfl Tryz.sizeOf23 rfl
theorem fa_79_3 : FA Tryz.prog 79 3 3 := fa_of Tryz.underlying79 rfl Tryz.sizeOf3 rfl
theorem fa_79_4 : FA Tryz.prog 79 4 4 := fa_of Tryz.underlying79 rfl Tryz.sizeOf77 rfl
theorem fa_122_0 : FA Tryz.prog 122 0 0 := fa_of Tryz.underlying122 rfl Tryz.sizeOf3 rfl
theorem fa_122_1 : FA Tryz.prog 122 1 1 := fa_of Tryz.underlying122 rfl Tryz.sizeOf3 rfl
theorem fa_136_0 : FA Tryz.prog 136 0 0 := fa_of Tryz.underlying136 rfl Tryz.sizeOf22 rfl
theorem fa_136_1 : FA Tryz.prog 136 1 1 := fa_of Tryz.underlying136 rfl Tryz.sizeOf3 rfl
theorem et_22 : ET Tryz.prog 22 5 1 := et_of Tryz.underlying22 (by decide) (by kernel_rfl)
theorem et_23 : ET Tryz.prog 23 3 1 := et_of Tryz.underlying23 (by decide) (by kernel_rfl)
theorem et_24 : ET Tryz.prog 24 79 5 := et_of Tryz.underlying24 (by decide) (by kernel_rfl)
theorem et_28 : ET Tryz.prog 28 73 2 := et_of Tryz.underlying28 (by decide) (by kernel_rfl)
theorem et_37 : ET Tryz.prog 37 4 1 := et_of Tryz.underlying37 (by decide) (by kernel_rfl)
theorem et_71 : ET Tryz.prog 71 122 2 := et_of Tryz.underlying71 (by decide) (by kernel_rfl)
theorem et_77 : ET Tryz.prog 77 23 1 := et_of Tryz.underlying77 (by decide) (by kernel_rfl)
theorem termEq_122 : TermEq Tryz.prog 122 := termEq_of (by kernel_rfl) Tryz.underlying122 rfl (by decide) (by decide) rfl rfl Tryz.underlying3 Tryz.underlying3 (by kernel_rfl)
theorem bld_122_0_1 (a0 a1 : Value) (ha0 : a0.oneCell' = true) (ha1 : a1.oneCell' = true) : ∀ w, (Instr.build 122 #[(0, a0), (1, a1)]).run Tryz.prog w = .ok (.agg #[a0, a1]) w := by
  intro w
  simp [Instr.build, Instr.fill, Tryz.zeroValue122, Tryz.runUnderlying122, Tryz.sizeOf3, cells_one ha0, cells_one ha1, cells_agg]
theorem bld_136_0 (a0 : Value) (ha0 : a0.oneCell' = true) : ∀ w, (Instr.build 136 #[(0, a0)]).run Tryz.prog w = .ok (.agg #[a0, .int .i64 0]) w := by
  intro w
  simp [Instr.build, Instr.fill, Tryz.zeroValue136, Tryz.runUnderlying136, Tryz.sizeOf3, Tryz.sizeOf22, cells_one ha0, cells_agg]
theorem bld_26_  : ∀ w, (Instr.build 26 #[]).run Tryz.prog w = .ok (.agg #[.slice none 0 0, .slice none 0 0]) w := by
  intro w
  simp [Instr.build, Instr.fill, Tryz.zeroValue26, Tryz.runUnderlying26, Tryz.sizeOf23, Tryz.sizeOf24, cells_agg]
theorem bld_26_0 (a0 : Value) (ha0 : a0.oneCell' = true) : ∀ w, (Instr.build 26 #[(0, a0)]).run Tryz.prog w = .ok (.agg #[a0, .slice none 0 0]) w := by
  intro w
  simp [Instr.build, Instr.fill, Tryz.zeroValue26, Tryz.runUnderlying26, Tryz.sizeOf23, Tryz.sizeOf24, cells_one ha0, cells_agg]
theorem bld_73_  : ∀ w, (Instr.build 73 #[]).run Tryz.prog w = .ok (.agg #[.slice none 0 0, .int .i64 0]) w := by
  intro w
  simp [Instr.build, Instr.fill, Tryz.zeroValue73, Tryz.runUnderlying73, Tryz.sizeOf3, Tryz.sizeOf71, cells_agg]
theorem bld_73_1 (a0 : Value) (ha0 : a0.oneCell' = true) : ∀ w, (Instr.build 73 #[(1, a0)]).run Tryz.prog w = .ok (.agg #[.slice none 0 0, a0]) w := by
  intro w
  simp [Instr.build, Instr.fill, Tryz.zeroValue73, Tryz.runUnderlying73, Tryz.sizeOf3, Tryz.sizeOf71, cells_one ha0, cells_agg]
theorem bld_79_0 (a0 : Value) (ha0 : a0.oneCell' = true) : ∀ w, (Instr.build 79 #[(0, a0)]).run Tryz.prog w = .ok (.agg #[a0, .slice none 0 0, .slice none 0 0, .int .i64 0, .slice none 0 0]) w := by
  intro w
  simp [Instr.build, Instr.fill, Tryz.zeroValue79, Tryz.runUnderlying79, Tryz.sizeOf3, Tryz.sizeOf23, Tryz.sizeOf77, cells_one ha0, cells_agg]
theorem bld_79_0_1_2_3 (a0 a1 a2 a3 : Value) (ha0 : a0.oneCell' = true) (ha1 : a1.oneCell' = true) (ha2 : a2.oneCell' = true) (ha3 : a3.oneCell' = true) : ∀ w, (Instr.build 79 #[(0, a0), (1, a1), (2, a2), (3, a3)]).run Tryz.prog w = .ok (.agg #[a0, a1, a2, a3, .slice none 0 0]) w := by
  intro w
  simp [Instr.build, Instr.fill, Tryz.zeroValue79, Tryz.runUnderlying79, Tryz.sizeOf3, Tryz.sizeOf23, Tryz.sizeOf77, cells_one ha0, cells_one ha1, cells_one ha2, cells_one ha3, cells_agg]
theorem bs_23_0  : ∀ w, (Instr.buildSlice 23 0 #[]).run Tryz.prog w = .ok (.slice (some ⟨w.heap.size, 0, none⟩) 0 0) (w.alloc (.cells #[] 3)) := by
  intro w
  simp [Instr.buildSlice, Instr.fill, newRow, Tryz.runUnderlying23, Tryz.sizeOf3, cells_agg, cells_int, cells_bool, cells_str, cells_sl, Array.range_succ, range0]
theorem bs_23_1_0 (a0 : Value) (ha0 : a0.oneCell' = true) : ∀ w, (Instr.buildSlice 23 1 #[(0, a0)]).run Tryz.prog w = .ok (.slice (some ⟨w.heap.size, 0, none⟩) 1 1) (w.alloc (.cells #[a0] 3)) := by
  intro w
  simp [Instr.buildSlice, Instr.fill, newRow, Tryz.zeroValue3, Tryz.runUnderlying23, Tryz.sizeOf3, cells_one ha0, cells_agg, cells_int, cells_bool, cells_str, cells_sl, Array.range_succ, range0]
theorem bs_23_3_0_0_0 (a0 a1 a2 : Value) (ha0 : a0.oneCell' = true) (ha1 : a1.oneCell' = true) (ha2 : a2.oneCell' = true) : ∀ w, (Instr.buildSlice 23 3 #[(0, a0), (1, a1), (2, a2)]).run Tryz.prog w = .ok (.slice (some ⟨w.heap.size, 0, none⟩) 3 3) (w.alloc (.cells #[a0, a1, a2] 3)) := by
  intro w
  simp [Instr.buildSlice, Instr.fill, newRow, Tryz.zeroValue3, Tryz.runUnderlying23, Tryz.sizeOf3, cells_one ha0, cells_one ha1, cells_one ha2, cells_agg, cells_int, cells_bool, cells_str, cells_sl, Array.range_succ, range0]
theorem bs_23_4_0_0_0_0 (a0 a1 a2 a3 : Value) (ha0 : a0.oneCell' = true) (ha1 : a1.oneCell' = true) (ha2 : a2.oneCell' = true) (ha3 : a3.oneCell' = true) : ∀ w, (Instr.buildSlice 23 4 #[(0, a0), (1, a1), (2, a2), (3, a3)]).run Tryz.prog w = .ok (.slice (some ⟨w.heap.size, 0, none⟩) 4 4) (w.alloc (.cells #[a0, a1, a2, a3] 3)) := by
  intro w
  simp [Instr.buildSlice, Instr.fill, newRow, Tryz.zeroValue3, Tryz.runUnderlying23, Tryz.sizeOf3, cells_one ha0, cells_one ha1, cells_one ha2, cells_one ha3, cells_agg, cells_int, cells_bool, cells_str, cells_sl, Array.range_succ, range0]
theorem bs_23_5_0_0_0_0_0 (a0 a1 a2 a3 a4 : Value) (ha0 : a0.oneCell' = true) (ha1 : a1.oneCell' = true) (ha2 : a2.oneCell' = true) (ha3 : a3.oneCell' = true) (ha4 : a4.oneCell' = true) : ∀ w, (Instr.buildSlice 23 5 #[(0, a0), (1, a1), (2, a2), (3, a3), (4, a4)]).run Tryz.prog w = .ok (.slice (some ⟨w.heap.size, 0, none⟩) 5 5) (w.alloc (.cells #[a0, a1, a2, a3, a4] 3)) := by
  intro w
  simp [Instr.buildSlice, Instr.fill, newRow, Tryz.zeroValue3, Tryz.runUnderlying23, Tryz.sizeOf3, cells_one ha0, cells_one ha1, cells_one ha2, cells_one ha3, cells_one ha4, cells_agg, cells_int, cells_bool, cells_str, cells_sl, Array.range_succ, range0]
theorem bs_23_6_0_0_0_0_0_0 (a0 a1 a2 a3 a4 a5 : Value) (ha0 : a0.oneCell' = true) (ha1 : a1.oneCell' = true) (ha2 : a2.oneCell' = true) (ha3 : a3.oneCell' = true) (ha4 : a4.oneCell' = true) (ha5 : a5.oneCell' = true) : ∀ w, (Instr.buildSlice 23 6 #[(0, a0), (1, a1), (2, a2), (3, a3), (4, a4), (5, a5)]).run Tryz.prog w = .ok (.slice (some ⟨w.heap.size, 0, none⟩) 6 6) (w.alloc (.cells #[a0, a1, a2, a3, a4, a5] 3)) := by
  intro w
  simp [Instr.buildSlice, Instr.fill, newRow, Tryz.zeroValue3, Tryz.runUnderlying23, Tryz.sizeOf3, cells_one ha0, cells_one ha1, cells_one ha2, cells_one ha3, cells_one ha4, cells_one ha5, cells_agg, cells_int, cells_bool, cells_str, cells_sl, Array.range_succ, range0]
theorem bs_23_7_0_0_0_0_0_0_0 (a0 a1 a2 a3 a4 a5 a6 : Value) (ha0 : a0.oneCell' = true) (ha1 : a1.oneCell' = true) (ha2 : a2.oneCell' = true) (ha3 : a3.oneCell' = true) (ha4 : a4.oneCell' = true) (ha5 : a5.oneCell' = true) (ha6 : a6.oneCell' = true) : ∀ w, (Instr.buildSlice 23 7 #[(0, a0), (1, a1), (2, a2), (3, a3), (4, a4), (5, a5), (6, a6)]).run Tryz.prog w = .ok (.slice (some ⟨w.heap.size, 0, none⟩) 7 7) (w.alloc (.cells #[a0, a1, a2, a3, a4, a5, a6] 3)) := by
  intro w
  simp [Instr.buildSlice, Instr.fill, newRow, Tryz.zeroValue3, Tryz.runUnderlying23, Tryz.sizeOf3, cells_one ha0, cells_one ha1, cells_one ha2, cells_one ha3, cells_one ha4, cells_one ha5, cells_one ha6, cells_agg, cells_int, cells_bool, cells_str, cells_sl, Array.range_succ, range0]
theorem bs_24_1_5 (a0 a1 a2 a3 a4 : Value)  : ∀ w, (Instr.buildSlice 24 1 #[(0, .agg #[a0, a1, a2, a3, a4])]).run Tryz.prog w = .ok (.slice (some ⟨w.heap.size, 0, none⟩) 1 1) (w.alloc (.cells #[a0, a1, a2, a3, a4] 79)) := by
  intro w
  simp [Instr.buildSlice, Instr.fill, newRow, Tryz.zeroValue79, Tryz.runUnderlying24, Tryz.sizeOf79, cells_agg, cells_int, cells_bool, cells_str, cells_sl, Array.range_succ, range0]
theorem bs_28_0  : ∀ w, (Instr.buildSlice 28 0 #[]).run Tryz.prog w = .ok (.slice (some ⟨w.heap.size, 0, none⟩) 0 0) (w.alloc (.cells #[] 73)) := by
  intro w
  simp [Instr.buildSlice, Instr.fill, newRow, Tryz.runUnderlying28, Tryz.sizeOf73, cells_agg, cells_int, cells_bool, cells_str, cells_sl, Array.range_succ, range0]
theorem bs_28_1_2 (a0 a1 : Value)  : ∀ w, (Instr.buildSlice 28 1 #[(0, .agg #[a0, a1])]).run Tryz.prog w = .ok (.slice (some ⟨w.heap.size, 0, none⟩) 1 1) (w.alloc (.cells #[a0, a1] 73)) := by
  intro w
  simp [Instr.buildSlice, Instr.fill, newRow, Tryz.zeroValue73, Tryz.runUnderlying28, Tryz.sizeOf73, cells_agg, cells_int, cells_bool, cells_str, cells_sl, Array.range_succ, range0]
theorem bs_28_2_2_2 (a0 a1 a2 a3 : Value)  : ∀ w, (Instr.buildSlice 28 2 #[(0, .agg #[a0, a1]), (1, .agg #[a2, a3])]).run Tryz.prog w = .ok (.slice (some ⟨w.heap.size, 0, none⟩) 2 2) (w.alloc (.cells #[a0, a1, a2, a3] 73)) := by
  intro w
  simp [Instr.buildSlice, Instr.fill, newRow, Tryz.zeroValue73, Tryz.runUnderlying28, Tryz.sizeOf73, cells_agg, cells_int, cells_bool, cells_str, cells_sl, Array.range_succ, range0]
theorem bs_71_1_2 (a0 a1 : Value)  : ∀ w, (Instr.buildSlice 71 1 #[(0, .agg #[a0, a1])]).run Tryz.prog w = .ok (.slice (some ⟨w.heap.size, 0, none⟩) 1 1) (w.alloc (.cells #[a0, a1] 122)) := by
  intro w
  simp [Instr.buildSlice, Instr.fill, newRow, Tryz.zeroValue122, Tryz.runUnderlying71, Tryz.sizeOf122, cells_agg, cells_int, cells_bool, cells_str, cells_sl, Array.range_succ, range0]
theorem bs_77_1_0 (a0 : Value) (ha0 : a0.oneCell' = true) : ∀ w, (Instr.buildSlice 77 1 #[(0, a0)]).run Tryz.prog w = .ok (.slice (some ⟨w.heap.size, 0, none⟩) 1 1) (w.alloc (.cells #[a0] 23)) := by
  intro w
  simp [Instr.buildSlice, Instr.fill, newRow, Tryz.zeroValue23, Tryz.runUnderlying77, Tryz.sizeOf23, cells_one ha0, cells_agg, cells_int, cells_bool, cells_str, cells_sl, Array.range_succ, range0]
theorem s_l17Open_c {code : List UInt8} {v0 : Value} {H : FH} {w : World} {R : List Ass} (Z : Star H w R) (h0 : (rS 5 RP.u8).rel H [v0] code) {r : Rd} (hF : s_l17Open code = some r) :
 C Tryz.prog 72 #[v0] w fun v w'=>∃ H' : FH,Le H H'∧∃ (u1 : Nat) (u2 : Value),v = Pt u1∧(rS 5 RP.u8).rel H' [u2] r.b∧Star H' w' (box u1 136 #[u2,I r.p] :: R):=by
 unfold s_l17Open at hF
 refine C_enter Tryz.func72 rfl Tryz.ntmps72 rfl (sq (aV (.pointer none) rfl (nq (sq (mV v0 rfl (L_len rfl Tryz.underlying22 rfl (slice_len h0) (L_gtr rfl rfl rfl (nn ?_))))))))
 obtain ⟨code_1,hA3,hF⟩:=bind_some hF
 obtain ⟨R3,hR3⟩:=exR fun f w_=>∃ v1_code : Value,f 0 = v1_code∧(rS 5 RP.u8).rel H [v1_code] code_1∧Star H w_ (R)
 refine W_join R3 ?_ ?_
 refine W_cond (b:=decide ((code.length : Int) > 2000)) rfl (fun hc4=>?_) (fun hc4=>?_)
 have hA3:=(ite_t hc4).symm.trans hA3
 obtain ⟨x5,hx5,hA3⟩:=bind_some hA3
 refine W_region (mV v0 rfl (L_sl (a:=0) (b:=2000) rfl et_22 rfl h0 rfl rfl hx5 (fun v8 hs9=>aV v8 rfl (nn ?_))))
 obtain rfl:=so hA3
 exact rj hR3 ⟨v8,rfl,hs9,Z⟩
 have hA3:=(ite_f hc4).symm.trans hA3
 refine W_skip ?_
 obtain rfl:=so hA3
 exact rj hR3 ⟨v0,rfl,h0,Z⟩
 intro f w_ hR
 obtain ⟨v1_code,sf0,hv2_code,Z⟩:=rk hR3 hR
 refine sq (mF sf0 rfl (L_bld rfl (parts1 rfl) (bld_136_0 (v1_code) (one_len (slice_len hv2_code))) (L_box (v:=.agg #[v1_code,I 0]) (cs:=#[v1_code,I 0]) rfl rfl rfl Z (fun g12 w13 Z=>aV (Pt g12) rfl (nn (W_ret (retG1 (v1:=Pt g12) Tryz.results72 rfl ?_)))))))
 obtain rfl:=so hF
 exact ⟨H,(Le.refl _),g12,v1_code,rfl,hv2_code,Z⟩
theorem s_l17Rd_pick_c {r_ : Rd} {n_ : Int} {g_0 : Nat} {v0_0 : Value} {H : FH} {w : World} (Z : Star H w [box g_0 136 #[v0_0,I r_.p]]) (h0_0 : (rS 5 RP.u8).rel H [v0_0] r_.b) {r : Int × Int} (hF : s_l17Rd_pick r_ n_ = some r) :
 C Tryz.prog 127 #[Pt g_0,I n_] w fun v w'=>v = I r.1∧Star H w' [box g_0 136 #[v0_0,I r.2]]:=by
 unfold s_l17Rd_pick at hF
 refine C_enter Tryz.func127 rfl Tryz.ntmps127 rfl (sq (aI rfl (ns (mV (Pt g_0) rfl (mV (Pt g_0) rfl (L_nc rfl rfl (fA 1 fa_136_1 rfl rfl (ldB 0 Z Tryz.isAgg3 rfl rfl rfl (L_add rfl rfl rfl (L_nc rfl rfl (fA 1 fa_136_1 rfl rfl (L_stB (v:=I (i64 (r_.p + 1))) (cs2:=#[v0_0,I (i64 (r_.p + 1))]) 0 rfl Tryz.sizeOf3 rfl rfl rfl Z rfl rfl rfl (fun w2 Z=>nq (W_seq ?_))))))))))))))
 obtain ⟨R3,hR3⟩:=exR fun f w_=>f 0 = Pt g_0∧f 1 = I n_∧f 24 = Bo ((decide (n_ < 1)) || ((r_.b.length : Int) == 0))∧Star H w_ ([box g_0 136 #[v0_0,I (i64 (r_.p + 1))]])
 refine W_join R3 ?_ ?_
 refine W_region (mI rfl (L_lss rfl rfl rfl (mB rfl (L_split (d:=17) (b:=decide (n_ < 1)) rfl (fun hc4=>?_) (fun hc4=>?_)))))
 refine ps rfl (ps rfl (ps rfl (ps rfl (ps rfl (ps rfl (L_pick (v:=Bo ((decide (n_ < 1)) || ((r_.b.length : Int) == 0))) rfl rfl (or_t hc4) (nn (rj hR3 ⟨rfl,rfl,rfl,Z⟩))))))))
 refine mV (Pt g_0) rfl (L_nc rfl rfl (fA 0 fa_136_0 rfl rfl (ldB 0 Z Tryz.isAgg22 rfl rfl rfl (L_len rfl Tryz.underlying22 rfl (slice_len h0_0) (L_eql rfl rfl rfl (L_pick (v:=Bo ((decide (n_ < 1)) || ((r_.b.length : Int) == 0))) rfl rfl (or_f hc4 rfl) (nn (rj hR3 ⟨rfl,rfl,rfl,Z⟩))))))))
 intro f w_ hR
 obtain ⟨sf0,sf1,sf24,Z⟩:=rk hR3 hR
 refine W_cond (b:=((decide (n_ < 1)) || ((r_.b.length : Int) == 0))) sf24 (fun hc5=>?_) (fun hc5=>?_)
 have hF:=(ite_t hc5).symm.trans hF
 refine sq (aI rfl (nn (W_ret (retG1 (v1:=I 0) Tryz.results127 rfl ?_))))
 obtain rfl:=so hF
 exact ⟨rfl,Z⟩
 have hF:=(ite_f hc5).symm.trans hF
 refine W_skip (sq (mF sf0 rfl (L_nc rfl rfl (fA 1 fa_136_1 rfl rfl (ldB 0 Z Tryz.isAgg3 rfl rfl rfl (L_sub rfl rfl rfl (aI rfl (nq (sq (mI rfl (mF sf0 rfl (L_nc rfl rfl (fA 0 fa_136_0 rfl rfl (ldB 0 Z Tryz.isAgg22 rfl rfl rfl (L_len rfl Tryz.underlying22 rfl (slice_len h0_0) (L_lss rfl rfl rfl (nn (W_cond (b:=decide ((i64 ((i64 (r_.p + 1)) - 1)) < (r_.b.length : Int))) rfl (fun hc6=>?_) (fun hc6=>?_)))))))))))))))))))
 have hF:=(ite_t hc6).symm.trans hF
 refine W_seq ?_
 obtain ⟨x7,hx7,hF⟩:=bind_some hF
 obtain ⟨q12,hq12,hF⟩:=bind_some hF
 refine W_region (mF sf0 rfl (L_nc rfl rfl (fA 0 fa_136_0 rfl rfl (ldB 0 Z Tryz.isAgg22 rfl rfl rfl (mI rfl (L_ix (r:=RP.u8) rfl Tryz.underlying22 Tryz.sizeOf5 rfl h0_0 rfl hx7 (fun g13 o14 cs_g13 hrk_hat15 hat15=>?_)))))))
 obtain rfl : _ = [_]:=hrk_hat15
 refine L_ld rfl Tryz.isAgg5 rfl (At.cell (AtH.at hat15 Z.sub) (j:=0) rfl) (L_cv (n:=(x7.toNat : Int)) rfl rfl ⟨_,Tryz.underlying5⟩ Tryz.underlying3 (mF sf1 rfl (L_rem (m:=i64 (x7.toNat : Int)) (n:=n_) rfl rfl rfl (fun he=>by rw [if_pos he] at hq12; cases hq12) (aI rfl (nn (W_ret (retG1 (v1:=I (Int.tmod (i64 (x7.toNat : Int)) n_)) Tryz.results127 rfl ?_)))))))
 obtain rfl:=so hF
 exact ⟨rfl,Z⟩
 have hF:=(ite_f hc6).symm.trans hF
 refine W_skip (W_seq ?_)
 obtain ⟨q17,hq17,hF⟩:=bind_some hF
 obtain ⟨x18,hx18,hF⟩:=bind_some hF
 obtain ⟨q23,hq23,hF⟩:=bind_some hF
 obtain ⟨x24,hx24,hF⟩:=bind_some hF
 obtain ⟨q29,hq29,hF⟩:=bind_some hF
 refine W_drawS 44 [isV (Pt g_0),isV (Pt g_0),isV (Pt g_0),isV (v0_0),isV (I (i64 ((i64 (r_.p + 1)) - 1))),isV (Pt g_0),isV (Pt g_0),isV (Pt g_0),isV (v0_0),isV (I (r_.b.length : Int)),isV (I (Int.tmod (i64 ((i64 (r_.p + 1)) - 1)) (r_.b.length : Int))),isEl RP.u8 x18 0,isV (.int .u8 (x18.toNat : Int)),isV (I (i64 (x18.toNat : Int))),isV (I (i64 ((i64 (x18.toNat : Int)) * 131))),isV (Pt g_0),isV (Pt g_0),isV (Pt g_0),isV (v0_0),isV (I (i64 ((i64 (r_.p + 1)) - 1))),isV (I (i64 ((i64 ((i64 (r_.p + 1)) - 1)) * 7))),isV (I (i64 ((i64 ((i64 ((i64 (r_.p + 1)) - 1)) * 7)) + 3))),isV (Pt g_0),isV (Pt g_0),isV (Pt g_0),isV (v0_0),isV (I (r_.b.length : Int)),isV (I (Int.tmod (i64 ((i64 ((i64 ((i64 (r_.p + 1)) - 1)) * 7)) + 3)) (r_.b.length : Int))),isEl RP.u8 x24 0,isV (.int .u8 (x24.toNat : Int)),isV (I (i64 (x24.toNat : Int))),isV (I (i64 ((i64 (x24.toNat : Int)) * 1117))),isV (I (i64 ((i64 ((i64 (x18.toNat : Int)) * 131)) + (i64 ((i64 (x24.toNat : Int)) * 1117))))),isV (I (i64 ((i64 (r_.p + 1)) - 1))),isV (I (i64 ((i64 ((i64 (r_.p + 1)) - 1)) * 29))),isV (I (i64 ((i64 ((i64 ((i64 (x18.toNat : Int)) * 131)) + (i64 ((i64 (x24.toNat : Int)) * 1117)))) + (i64 ((i64 ((i64 (r_.p + 1)) - 1)) * 29))))),isV (I (i64 ((i64 (r_.p + 1)) - 1))),isV (Pt g_0),isV (Pt g_0),isV (Pt g_0),isV (v0_0),isV (I (r_.b.length : Int)),isV (I (i64 (Int.tdiv (i64 ((i64 (r_.p + 1)) - 1)) (r_.b.length : Int)))),isV (I (i64 ((i64 (Int.tdiv (i64 ((i64 (r_.p + 1)) - 1)) (r_.b.length : Int))) * 53)))] [box g_0 136 #[v0_0,I (i64 (r_.p + 1))]] [] ([]) [([],[]),([],[]),([],[]),([],[]),([],[]),([],[]),([],[]),([],[]),([],[]),([],[]),([],[]),([],[]),([],[]),([],[]),([],[]),([],[]),([],[]),([],[]),([],[]),([],[]),([],[]),([],[]),([],[]),([],[]),([],[]),([],[]),([],[]),([],[]),([],[]),([],[]),([],[]),([],[]),([],[]),([],[]),([],[]),([],[]),([],[]),([],[]),([],[]),([],[]),([],[]),([],[]),([],[]),([],[])] (S:=[]) Tryz_mix (by kernel_rfl) rfl (by kernel_rfl) (amF_cons (mono_V _) (amF_cons (mono_V _) (amF_cons (mono_V _) (amF_cons (mono_V _) (amF_cons (mono_V _) (amF_cons (mono_V _) (amF_cons (mono_V _) (amF_cons (mono_V _) (amF_cons (mono_V _) (amF_cons (mono_V _) (amF_cons (mono_V _) (amF_cons (mono_el _ _ _) (amF_cons (mono_V _) (amF_cons (mono_V _) (amF_cons (mono_V _) (amF_cons (mono_V _) (amF_cons (mono_V _) (amF_cons (mono_V _) (amF_cons (mono_V _) (amF_cons (mono_V _) (amF_cons (mono_V _) (amF_cons (mono_V _) (amF_cons (mono_V _) (amF_cons (mono_V _) (amF_cons (mono_V _) (amF_cons (mono_V _) (amF_cons (mono_V _) (amF_cons (mono_V _) (amF_cons (mono_el _ _ _) (amF_cons (mono_V _) (amF_cons (mono_V _) (amF_cons (mono_V _) (amF_cons (mono_V _) (amF_cons (mono_V _) (amF_cons (mono_V _) (amF_cons (mono_V _) (amF_cons (mono_V _) (amF_cons (mono_V _) (amF_cons (mono_V _) (amF_cons (mono_V _) (amF_cons (mono_V _) (amF_cons (mono_V _) (amF_cons (mono_V _) (amF_cons (mono_V _) amF_nil)))))))))))))))))))))))))))))))))))))))))))) Z ?_ (fun f w_ H30 hS30 hE30 hT30 Z=>?_)
 refine opsS_cons (fun f w_ _ _ s _ _ Z=>mF ((s 0 rfl).trans sf0) rfl (nO rfl rfl Z)) (opsS_cons (fun f w_ _ _ _ _ p Z=>L_nc rfl (p 0 47 rfl rfl) (nO rfl rfl Z)) (opsS_cons (fun f w_ _ _ _ _ p Z=>fA 0 fa_136_0 (p 1 48 rfl rfl) rfl (nO rfl rfl Z)) (opsS_cons (fun f w_ _ _ _ _ p Z=>ldB 0 Z Tryz.isAgg22 (p 2 49 rfl rfl) rfl rfl (nO rfl rfl Z)) (opsS_cons (fun f w_ _ _ s _ _ Z=>mF ((s 5 rfl).trans rfl) rfl (nO rfl rfl Z)) (opsS_cons (fun f w_ _ _ s _ _ Z=>mF ((s 0 rfl).trans sf0) rfl (nO rfl rfl Z)) (opsS_cons (fun f w_ _ _ _ _ p Z=>L_nc rfl (p 5 52 rfl rfl) (nO rfl rfl Z)) (opsS_cons (fun f w_ _ _ _ _ p Z=>fA 0 fa_136_0 (p 6 53 rfl rfl) rfl (nO rfl rfl Z)) (opsS_cons (fun f w_ _ _ _ _ p Z=>ldB 0 Z Tryz.isAgg22 (p 7 54 rfl rfl) rfl rfl (nO rfl rfl Z)) (opsS_cons (fun f w_ _ _ _ hE30 p Z=>L_len rfl Tryz.underlying22 (p 8 55 rfl rfl) (slice_len (RP.mono _ h0_0 hE30)) (nO rfl rfl Z)) (opsS_cons (fun f w_ _ _ _ _ p Z=>L_rem (m:=i64 ((i64 (r_.p + 1)) - 1)) (n:=(r_.b.length : Int)) rfl (p 4 51 rfl rfl) (p 9 56 rfl rfl) (fun he=>by rw [if_pos he] at hq17; cases hq17) (nO rfl rfl Z)) (opsS_cons ?_ ?_)))))))))))
 intro f w_ H30 X30 hS30 hE30 hP30 Z
 refine L_ix (r:=RP.u8) rfl Tryz.underlying22 Tryz.sizeOf5 (hP30 3 50 rfl rfl) (RP.mono _ h0_0 hE30) (hP30 10 57 rfl rfl) hx18 (fun g39 o40 cs_g39 hrk_hat41 hat41=>?_)
 obtain rfl : _ = [_]:=hrk_hat41
 exact L_nil ⟨rfl,_,_,rfl,Le.refl _,fun _ _=>⟨_,_,_,rfl,rfl,hat41⟩,Z⟩
 refine opsS_cons ?_ ?_
 intro f w_ H30 X30 hS30 hE30 hP30 Z
 obtain ⟨g43,o43,cs43,hv43,hrk_hat43,hat43⟩:=(hP30 11 58 rfl rfl)
 obtain rfl : _ = [_]:=hrk_hat43
 refine L_ld rfl Tryz.isAgg5 hv43 (At.cell (AtH.at hat43 Z.sub) (j:=0) rfl) (L_nil ⟨rfl,_,_,rfl,Le.refl _,fun _ _=>rfl,Z⟩)
 refine opsS_cons (fun f w_ _ _ _ _ p Z=>L_cv (n:=(x18.toNat : Int)) rfl (p 12 59 rfl rfl) ⟨_,Tryz.underlying5⟩ Tryz.underlying3 (nO rfl rfl Z)) (opsS_cons (fun f w_ _ _ _ _ p Z=>L_mul rfl (p 13 60 rfl rfl) rfl (nO rfl rfl Z)) (opsS_cons (fun f w_ _ _ s _ _ Z=>mF ((s 0 rfl).trans sf0) rfl (nO rfl rfl Z)) (opsS_cons (fun f w_ _ _ _ _ p Z=>L_nc rfl (p 15 62 rfl rfl) (nO rfl rfl Z)) (opsS_cons (fun f w_ _ _ _ _ p Z=>fA 0 fa_136_0 (p 16 63 rfl rfl) rfl (nO rfl rfl Z)) (opsS_cons (fun f w_ _ _ _ _ p Z=>ldB 0 Z Tryz.isAgg22 (p 17 64 rfl rfl) rfl rfl (nO rfl rfl Z)) (opsS_cons (fun f w_ _ _ s _ _ Z=>mF ((s 5 rfl).trans rfl) rfl (nO rfl rfl Z)) (opsS_cons (fun f w_ _ _ _ _ p Z=>L_mul rfl (p 19 66 rfl rfl) rfl (nO rfl rfl Z)) (opsS_cons (fun f w_ _ _ _ _ p Z=>L_add rfl (p 20 67 rfl rfl) rfl (nO rfl rfl Z)) (opsS_cons (fun f w_ _ _ s _ _ Z=>mF ((s 0 rfl).trans sf0) rfl (nO rfl rfl Z)) (opsS_cons (fun f w_ _ _ _ _ p Z=>L_nc rfl (p 22 69 rfl rfl) (nO rfl rfl Z)) (opsS_cons (fun f w_ _ _ _ _ p Z=>fA 0 fa_136_0 (p 23 70 rfl rfl) rfl (nO rfl rfl Z)) (opsS_cons (fun f w_ _ _ _ _ p Z=>ldB 0 Z Tryz.isAgg22 (p 24 71 rfl rfl) rfl rfl (nO rfl rfl Z)) (opsS_cons (fun f w_ _ _ _ hE30 p Z=>L_len rfl Tryz.underlying22 (p 25 72 rfl rfl) (slice_len (RP.mono _ h0_0 hE30)) (nO rfl rfl Z)) (opsS_cons (fun f w_ _ _ _ _ p Z=>L_rem (m:=i64 ((i64 ((i64 ((i64 (r_.p + 1)) - 1)) * 7)) + 3)) (n:=(r_.b.length : Int)) rfl (p 21 68 rfl rfl) (p 26 73 rfl rfl) (fun he=>by rw [if_pos he] at hq23; cases hq23) (nO rfl rfl Z)) (opsS_cons ?_ ?_)))))))))))))))
 intro f w_ H30 X30 hS30 hE30 hP30 Z
 refine L_ix (r:=RP.u8) rfl Tryz.underlying22 Tryz.sizeOf5 (hP30 18 65 rfl rfl) (RP.mono _ h0_0 hE30) (hP30 27 74 rfl rfl) hx24 (fun g45 o46 cs_g45 hrk_hat47 hat47=>?_)
 obtain rfl : _ = [_]:=hrk_hat47
 exact L_nil ⟨rfl,_,_,rfl,Le.refl _,fun _ _=>⟨_,_,_,rfl,rfl,hat47⟩,Z⟩
 refine opsS_cons ?_ ?_
 intro f w_ H30 X30 hS30 hE30 hP30 Z
 obtain ⟨g49,o49,cs49,hv49,hrk_hat49,hat49⟩:=(hP30 28 75 rfl rfl)
 obtain rfl : _ = [_]:=hrk_hat49
 refine L_ld rfl Tryz.isAgg5 hv49 (At.cell (AtH.at hat49 Z.sub) (j:=0) rfl) (L_nil ⟨rfl,_,_,rfl,Le.refl _,fun _ _=>rfl,Z⟩)
 refine opsS_cons (fun f w_ _ _ _ _ p Z=>L_cv (n:=(x24.toNat : Int)) rfl (p 29 76 rfl rfl) ⟨_,Tryz.underlying5⟩ Tryz.underlying3 (nO rfl rfl Z)) (opsS_cons (fun f w_ _ _ _ _ p Z=>L_mul rfl (p 30 77 rfl rfl) rfl (nO rfl rfl Z)) (opsS_cons (fun f w_ _ _ _ _ p Z=>L_add rfl (p 14 61 rfl rfl) (p 31 78 rfl rfl) (nO rfl rfl Z)) (opsS_cons (fun f w_ _ _ s _ _ Z=>mF ((s 5 rfl).trans rfl) rfl (nO rfl rfl Z)) (opsS_cons (fun f w_ _ _ _ _ p Z=>L_mul rfl (p 33 80 rfl rfl) rfl (nO rfl rfl Z)) (opsS_cons (fun f w_ _ _ _ _ p Z=>L_add rfl (p 32 79 rfl rfl) (p 34 81 rfl rfl) (nO rfl rfl Z)) (opsS_cons (fun f w_ _ _ s _ _ Z=>mF ((s 5 rfl).trans rfl) rfl (nO rfl rfl Z)) (opsS_cons (fun f w_ _ _ s _ _ Z=>mF ((s 0 rfl).trans sf0) rfl (nO rfl rfl Z)) (opsS_cons (fun f w_ _ _ _ _ p Z=>L_nc rfl (p 37 84 rfl rfl) (nO rfl rfl Z)) (opsS_cons (fun f w_ _ _ _ _ p Z=>fA 0 fa_136_0 (p 38 85 rfl rfl) rfl (nO rfl rfl Z)) (opsS_cons (fun f w_ _ _ _ _ p Z=>ldB 0 Z Tryz.isAgg22 (p 39 86 rfl rfl) rfl rfl (nO rfl rfl Z)) (opsS_cons (fun f w_ _ _ _ hE30 p Z=>L_len rfl Tryz.underlying22 (p 40 87 rfl rfl) (slice_len (RP.mono _ h0_0 hE30)) (nO rfl rfl Z)) (opsS_cons (fun f w_ _ _ _ _ p Z=>L_quo (m:=i64 ((i64 (r_.p + 1)) - 1)) (n:=(r_.b.length : Int)) rfl (p 36 83 rfl rfl) (p 41 88 rfl rfl) (fun he=>by rw [if_pos he] at hq29; cases hq29) (nO rfl rfl Z)) (opsS_cons (fun f w_ _ _ _ _ p Z=>L_mul rfl (p 42 89 rfl rfl) rfl (nO rfl rfl Z)) (opsS_nil))))))))))))))
 refine L_add rfl (hT30 35 82 rfl rfl) (hT30 43 90 rfl rfl) (aI rfl (ns (mI rfl (mI rfl (L_quo (m:=i64 ((i64 ((i64 ((i64 ((i64 (x18.toNat : Int)) * 131)) + (i64 ((i64 (x24.toNat : Int)) * 1117)))) + (i64 ((i64 ((i64 (r_.p + 1)) - 1)) * 29)))) + (i64 ((i64 (Int.tdiv (i64 ((i64 (r_.p + 1)) - 1)) (r_.b.length : Int))) * 53)))) (n:=64) rfl rfl rfl (by decide) (L_xor (m:=i64 ((i64 ((i64 ((i64 ((i64 (x18.toNat : Int)) * 131)) + (i64 ((i64 (x24.toNat : Int)) * 1117)))) + (i64 ((i64 ((i64 (r_.p + 1)) - 1)) * 29)))) + (i64 ((i64 (Int.tdiv (i64 ((i64 (r_.p + 1)) - 1)) (r_.b.length : Int))) * 53)))) (n:=i64 (Int.tdiv (i64 ((i64 ((i64 ((i64 ((i64 (x18.toNat : Int)) * 131)) + (i64 ((i64 (x24.toNat : Int)) * 1117)))) + (i64 ((i64 ((i64 (r_.p + 1)) - 1)) * 29)))) + (i64 ((i64 (Int.tdiv (i64 ((i64 (r_.p + 1)) - 1)) (r_.b.length : Int))) * 53)))) 64)) rfl rfl rfl (aI rfl (nq ?_))))))))
 obtain ⟨q51,hq51,hF⟩:=bind_some hF
 refine W_region (mI rfl (mF ((hS30 1 rfl).trans sf1) rfl (L_rem (m:=(xorI .i64 (i64 ((i64 ((i64 ((i64 ((i64 (x18.toNat : Int)) * 131)) + (i64 ((i64 (x24.toNat : Int)) * 1117)))) + (i64 ((i64 ((i64 (r_.p + 1)) - 1)) * 29)))) + (i64 ((i64 (Int.tdiv (i64 ((i64 (r_.p + 1)) - 1)) (r_.b.length : Int))) * 53)))) (i64 (Int.tdiv (i64 ((i64 ((i64 ((i64 ((i64 (x18.toNat : Int)) * 131)) + (i64 ((i64 (x24.toNat : Int)) * 1117)))) + (i64 ((i64 ((i64 (r_.p + 1)) - 1)) * 29)))) + (i64 ((i64 (Int.tdiv (i64 ((i64 (r_.p + 1)) - 1)) (r_.b.length : Int))) * 53)))) 64)))) (n:=n_) rfl rfl rfl (fun he=>by rw [if_pos he] at hq51; cases hq51) (aI rfl (nn (W_ret (retG1 (v1:=I (Int.tmod (xorI .i64 (i64 ((i64 ((i64 ((i64 ((i64 (x18.toNat : Int)) * 131)) + (i64 ((i64 (x24.toNat : Int)) * 1117)))) + (i64 ((i64 ((i64 (r_.p + 1)) - 1)) * 29)))) + (i64 ((i64 (Int.tdiv (i64 ((i64 (r_.p + 1)) - 1)) (r_.b.length : Int))) * 53)))) (i64 (Int.tdiv (i64 ((i64 ((i64 ((i64 ((i64 (x18.toNat : Int)) * 131)) + (i64 ((i64 (x24.toNat : Int)) * 1117)))) + (i64 ((i64 ((i64 (r_.p + 1)) - 1)) * 29)))) + (i64 ((i64 (Int.tdiv (i64 ((i64 (r_.p + 1)) - 1)) (r_.b.length : Int))) * 53)))) 64))) n_)) Tryz.results127 rfl ?_)))))))
 obtain rfl:=so hF
 exact ⟨rfl,(Star.down Z hE30 (cb c0))⟩
theorem s_l17Rd_num_c {r_ : Rd} {list : List Int} {g_0 : Nat} {v0_0 : Value} {v1 : Value} {H : FH} {w : World} (Z : Star H w [box g_0 136 #[v0_0,I r_.p]]) (h0_0 : (rS 5 RP.u8).rel H [v0_0] r_.b) (h1 : (rS 3 RP.int).rel H [v1] list) {r : Int × Int} (hF : s_l17Rd_num r_ list = some r) :
 C Tryz.prog 75 #[Pt g_0,v1] w fun v w'=>v = I r.1∧Star H w' [box g_0 136 #[v0_0,I r.2]]:=by
 unfold s_l17Rd_num at hF
 refine C_enter Tryz.func75 rfl Tryz.ntmps75 rfl (sq (aI rfl (nq ?_)))
 obtain ⟨x6,hx6,hF⟩:=bind_some hF
 obtain ⟨x8,hx8,hF⟩:=bind_some hF
 refine W_region (mV v1 rfl (mV (Pt g_0) rfl (mV v1 rfl (L_len rfl Tryz.underlying23 rfl (slice_len h1) ?_))))
 obtain ⟨H13b,l14,s15,z16,k17⟩:=Z.lend [_]
 refine L_call rfl Tryz.call127 (ops2 rfl rfl) (s_l17Rd_pick_c (r_:=r_) (n_:=(list.length : Int)) s15 (RP.mono _ h0_0 l14) hx6) ?_
 rintro _ w18 ⟨rfl,Z⟩
 have Z:=k17 Z (cb c0)
 refine L_ix (r:=RP.int) rfl Tryz.underlying23 Tryz.sizeOf3 rfl h1 rfl hx8 (fun g19 o20 cs_g19 hrk_hat21 hat21=>?_)
 obtain rfl : _ = [_]:=hrk_hat21
 refine L_ld rfl Tryz.isAgg3 rfl (At.cell (AtH.at hat21 Z.sub) (j:=0) rfl) (aI rfl (nn (W_ret (retG1 (v1:=I x8) Tryz.results75 rfl ?_))))
 obtain rfl:=so hF
 exact ⟨rfl,Z⟩
theorem s_l6Copy_c {m : Model} {v0_0 : Value} {v0_1 : Value} {H : FH} {w : World} (Z : Star H w []) (h0_0 : (rS 3 RP.int).rel H [v0_0] m.sizes) (h0_1 : (rS 79 (rRule 3 23)).rel H [v0_1] m.rules) {r : Model} (hF : s_l6Copy m = some r) :
 C Tryz.prog 126 #[.agg #[v0_0,v0_1]] w fun v w'=>∃ (u1 : Value) (u2 : Value),v = .agg #[u1,u2]∧Star H w' [oF 3 RP.int u1 r.sizes,oS 79 (oRule 3 23) u2 r.rules]:=by
 unfold s_l6Copy at hF
 refine C_enter Tryz.func126 rfl Tryz.ntmps126 rfl (sq (L_box (v:=.agg #[v0_0,v0_1]) (cs:=#[v0_0,v0_1]) rfl rfl rfl Z (fun g5 w6 Z=>L_al (cs:=#[S0,S0]) rfl Tryz.zeroValue26 rfl Z (fun g7 w8 Z=>nq ?_))))
 obtain ⟨x12,hx12,hF⟩:=bind_some hF
 refine W_region (L_bs rfl parts0 (bs_23_0  ) Z (fun g19 w20 Z=>?_))
 have Z:=Star.mkRow (R:=(OR.frz RP.int)) [] [] 0 Z rfl rfl rfl (by decide)
 refine fA 0 fa_26_0 rfl rfl (ldB 2 Z Tryz.isAgg23 rfl rfl rfl (L_app (v:=(Sl g19 0 0)) (u:=v0_0) rfl et_23 rfl rfl Z h0_0 hx12 (fun v22 w23 Z=>L_bld rfl (parts1 rfl) (bld_26_0 (v22) (one_len (Star.len 0 Z rfl))) (L_al (cs:=#[S0,S0]) rfl Tryz.zeroValue26 rfl Z (fun g25 w26 Z=>L_staB (vs:=#[v22,S0]) (cs2:=#[v22,S0]) 0 rfl Tryz.sizeOf26 rfl rfl rfl (ones_cons (one_len (Star.len 1 Z rfl)) (ones_cons rfl ones_nil)) Z rfl (by show 0 + 2≤2; decide) rfl (fun w27 Z=>nq (sq (aI rfl (nn ?_)))))))))
 have hlen33 : List.length m.rules≤9223372036854775807:=len_le (slice_len h0_1)
 obtain ⟨j33,hL33,hF⟩:=bind_some hF
 obtain ⟨R33,hR33⟩:=exR fun f w_=>∃ g25_1_29 : List Rule,∃ H31 : FH,∃ v29_g25_1 : Value,j33 = .nx g25_1_29∧Le H H31∧f 2 = Pt g7∧f 3 = Pt g25∧Star H31 w_ ([oF 3 RP.int v22 x12,oS 79 (oRule 3 23) v29_g25_1 g25_1_29,box g25 26 #[v22,v29_g25_1],box g7 26 #[S0,S0]])
 refine W_join R33 ?_ ?_
 refine W_block ?_
 obtain ⟨I33,hI33⟩:=exI fun n f w_=>∃ i_28 : Nat,∃ suf33 : List Rule,∃ g25_1_29 : List Rule,∃ H31 : FH,∃ v29_g25_1 : Value,n = suf33.length∧List.drop i_28 m.rules = suf33∧i_28 + suf33.length = m.rules.length∧rangeL s_l6Copy_b1 suf33 i_28 g25_1_29 = some j33∧Le H H31∧f 1 = Pt g5∧f 2 = Pt g7∧f 3 = Pt g25∧f 4 = I i_28∧Star H31 w_ ([oF 3 RP.int v22 x12,oS 79 (oRule 3 23) v29_g25_1 g25_1_29,box g25 26 #[v22,v29_g25_1],box g7 26 #[S0,S0],box g5 26 #[v0_0,v0_1]])
 have Z:=Star.addNil (R:=(oRule 3 23)) (e:=79) Z
 have Z:=Z.gets [4,4,3,3,4] rfl
 refine W_loop I33 (n:=m.rules.length) ?_ ?_
 exact ij hI33 ⟨0,m.rules,[],H,S0,rfl,rfl,Nat.zero_add _,hL33,(Le.refl _),rfl,rfl,rfl,rfl,Z⟩
 intro n33 f w_ hI
 obtain ⟨i_28,suf33,g25_1_29,H31,v29_g25_1,rfl,hd33,hl33,hL33,l32,sf1,sf2,sf3,sf4,Z⟩:=ik hI33 hI
 refine W_seq (sq (mF sf4 rfl (fA 1 fa_26_1 sf1 rfl (ldB 4 Z Tryz.isAgg24 rfl rfl rfl (L_len rfl Tryz.underlying24 rfl (slice_len (RP.mono _ h0_1 l32)) (L_lss rfl rfl rfl (nn (W_cond (b:=decide ((i_28 : Int) < (m.rules.length : Int))) rfl (fun hc35=>?_) (fun hc35=>?_)))))))))
 have hlt33:=of_decide_eq_true hc35
 rcases suf33 with _ | ⟨x_33,rest33⟩
 exact absurd hlt33 (by simp at hl33; omega)
 obtain ⟨o33,hB33,hL33⟩:=range_cons hL33
 rw [s_l6Copy_b1] at hB33
 have hix33:=drop_idx hd33
 refine W_skip (W_seq (W_block (sq (fA 1 fa_26_1 sf1 rfl (ldB 4 Z Tryz.isAgg24 rfl rfl rfl (mF sf4 rfl (L_ix (r:=(rRule 3 23)) rfl Tryz.underlying24 Tryz.sizeOf79 rfl (RP.mono _ h0_1 l32) rfl hix33 (fun g43 o44 cs_g43 hrk_hat45 hat45=>?_))))))))
 obtain ⟨u46_0,u46_1,u46_2,rfl,hu46_0,hu46_1,hu46_2⟩:=rRule_iff.1 hrk_hat45
 refine L_lda (cs:=[I x_33.kind,u46_0,u46_1,I x_33.bound,u46_2]) rfl Tryz.isAgg79 Tryz.sizeOf79 rfl (At.sub (AtH.at hat45 Z.sub) 0 5) rfl (L_al (cs:=#[I 0,S0,S0,I 0,S0]) rfl Tryz.zeroValue79 rfl Z (fun g47 w48 Z=>L_staB (vs:=#[I x_33.kind,u46_0,u46_1,I x_33.bound,u46_2]) (cs2:=#[I x_33.kind,u46_0,u46_1,I x_33.bound,u46_2]) 0 rfl Tryz.sizeOf79 rfl rfl rfl (ones_cons rfl (ones_cons (one_len (slice_len hu46_0)) (ones_cons (one_len (slice_len hu46_1)) (ones_cons rfl (ones_cons (one_len (slice_len hu46_2)) ones_nil))))) Z rfl (by show 0 + 5≤5; decide) rfl (fun w49 Z=>nq ?_)))
 obtain ⟨x53,hx53,hB33⟩:=bind_some hB33
 obtain ⟨x60,hx60,hB33⟩:=bind_some hB33
 refine W_drawS 14 [isV (Pt g47),isV (I x_33.kind),anyF,isV (Pq g47 1),isV (u46_0),anyF,anyF,isV (Pq g47 2),isV (u46_1),anyF,isV (Pq g47 3),isV (I x_33.bound),exA fun u_1=>exA fun u_2=>isV (.agg #[I x_33.kind,u_1,u_2,I x_33.bound,S0]),anyF] [box g47 79 #[I x_33.kind,u46_0,u46_1,I x_33.bound,u46_2],oF 3 RP.int v22 x12,oS 79 (oRule 3 23) v29_g25_1 g25_1_29,box g25 26 #[v22,v29_g25_1],box g7 26 #[S0,S0],box g5 26 #[v0_0,v0_1]] [.made 2 27 (fun v_=>oF 3 RP.int v_ ([])) (some 5),.made 5 30 (fun v_=>oF 3 RP.int v_ x53) (some 12),.made 6 31 (fun v_=>oF 3 RP.int v_ ([])) (some 9),.made 9 34 (fun v_=>oF 3 RP.int v_ x60) (some 12),.made 12 37 (fun v_=>oF 3 RP.int (aggC v_ 1) x53) none,.made 12 37 (fun v_=>oF 3 RP.int (aggC v_ 2) x60) none,.made 13 6 (fun v_=>boxV v_ 79 #[I 0,S0,S0,I 0,S0]) none] ([]) [([],[]),([],[]),([],[0]),([],[]),([],[]),([0],[1]),([],[2]),([],[]),([],[]),([2],[3]),([],[]),([],[]),([1,3],[4,5]),([],[6])] (S:=[(some 2,[27],some 5),(some 5,[30],some 12),(some 6,[31],some 9),(some 9,[34],some 12),(some 12,[37],none),(some 12,[37],none),(some 13,[6],none)]) Tryz_mix (by kernel_rfl) rfl (by kernel_rfl) (amF_cons (mono_V _) (amF_cons (mono_V _) (amF_cons (mono_any) (amF_cons (mono_V _) (amF_cons (mono_V _) (amF_cons (mono_any) (amF_cons (mono_any) (amF_cons (mono_V _) (amF_cons (mono_V _) (amF_cons (mono_any) (amF_cons (mono_V _) (amF_cons (mono_V _) (amF_cons (mono_exA fun _=>mono_exA fun _=>mono_V _) (amF_cons (mono_any) amF_nil)))))))))))))) Z ?_ (fun f w_ H67 hS67 hE67 hT67 Z=>?_)
 refine opsS_cons (fun f w_ _ _ s _ _ Z=>fA 0 fa_79_0 ((s 5 rfl).trans rfl) rfl (nO rfl rfl Z)) (opsS_cons (fun f w_ _ _ _ _ p Z=>ldB 0 Z Tryz.isAgg3 (p 0 25 rfl rfl) rfl rfl (nO rfl rfl Z)) (opsS_cons ?_ ?_))
 intro f w_ H67 X67 hS67 hE67 hP67 Z
 refine L_bs rfl parts0 (bs_23_0  ) Z (fun g82 w83 Z=>?_)
 have Z:=Star.mkRow (R:=(OR.frz RP.int)) [] [] 0 Z rfl rfl rfl (by decide)
 have Z:=Z.gets [6,6,6,6,6,6] rfl
 exact L_nil ⟨rfl,_,_,rfl,Le.refl _,fun _ _=>trivial,Z⟩
 refine opsS_cons (fun f w_ _ _ s _ _ Z=>fA 1 fa_79_1 ((s 5 rfl).trans rfl) rfl (nO rfl rfl Z)) (opsS_cons (fun f w_ _ _ _ _ p Z=>ldB 0 Z Tryz.isAgg23 (p 3 28 rfl rfl) rfl rfl (nO rfl rfl Z)) (opsS_cons ?_ ?_))
 intro f w_ H67 X67 hS67 hE67 hP67 Z
 have Z : Star H67 w_ (box g47 79 #[I x_33.kind,u46_0,u46_1,I x_33.bound,u46_2] :: oF 3 RP.int v22 x12 :: oS 79 (oRule 3 23) v29_g25_1 g25_1_29 :: box g25 26 #[v22,v29_g25_1] :: box g7 26 #[S0,S0] :: box g5 26 #[v0_0,v0_1] :: oF 3 RP.int (f 27) ([]) :: X67):=Z
 have Z:=Z.get 6 rfl
 refine L_app (v:=(f 27)) (u:=u46_0) rfl et_23 rfl (hP67 4 29 rfl rfl) Z (RP.mono _ hu46_0 hE67) hx53 (fun v86 w87 Z=>?_)
 have Z:=Z.gets [6,6,6,6,6,6] rfl
 exact L_nil ⟨rfl,_,_,rfl,Le.refl _,fun _ _=>trivial,Z⟩
 refine opsS_cons ?_ ?_
 intro f w_ H67 X67 hS67 hE67 hP67 Z
 refine L_bs rfl parts0 (bs_23_0  ) Z (fun g89 w90 Z=>?_)
 have Z:=Star.mkRow (R:=(OR.frz RP.int)) [] [] 0 Z rfl rfl rfl (by decide)
 have Z:=Z.gets [6,6,6,6,6,6] rfl
 exact L_nil ⟨rfl,_,_,rfl,Le.refl _,fun _ _=>trivial,Z⟩
 refine opsS_cons (fun f w_ _ _ s _ _ Z=>fA 2 fa_79_2 ((s 5 rfl).trans rfl) rfl (nO rfl rfl Z)) (opsS_cons (fun f w_ _ _ _ _ p Z=>ldB 0 Z Tryz.isAgg23 (p 7 32 rfl rfl) rfl rfl (nO rfl rfl Z)) (opsS_cons ?_ ?_))
 intro f w_ H67 X67 hS67 hE67 hP67 Z
 have Z : Star H67 w_ (box g47 79 #[I x_33.kind,u46_0,u46_1,I x_33.bound,u46_2] :: oF 3 RP.int v22 x12 :: oS 79 (oRule 3 23) v29_g25_1 g25_1_29 :: box g25 26 #[v22,v29_g25_1] :: box g7 26 #[S0,S0] :: box g5 26 #[v0_0,v0_1] :: oF 3 RP.int (f 31) ([]) :: X67):=Z
 have Z:=Z.get 6 rfl
 refine L_app (v:=(f 31)) (u:=u46_1) rfl et_23 rfl (hP67 8 33 rfl rfl) Z (RP.mono _ hu46_1 hE67) hx60 (fun v93 w94 Z=>?_)
 have Z:=Z.gets [6,6,6,6,6,6] rfl
 exact L_nil ⟨rfl,_,_,rfl,Le.refl _,fun _ _=>trivial,Z⟩
 refine opsS_cons (fun f w_ _ _ s _ _ Z=>fA 3 fa_79_3 ((s 5 rfl).trans rfl) rfl (nO rfl rfl Z)) (opsS_cons (fun f w_ _ _ _ _ p Z=>ldB 0 Z Tryz.isAgg3 (p 10 35 rfl rfl) rfl rfl (nO rfl rfl Z)) (opsS_cons ?_ ?_))
 intro f w_ H67 X67 hS67 hE67 hP67 Z
 have Z : Star H67 w_ (box g47 79 #[I x_33.kind,u46_0,u46_1,I x_33.bound,u46_2] :: oF 3 RP.int v22 x12 :: oS 79 (oRule 3 23) v29_g25_1 g25_1_29 :: box g25 26 #[v22,v29_g25_1] :: box g7 26 #[S0,S0] :: box g5 26 #[v0_0,v0_1] :: oF 3 RP.int (f 30) x53 :: oF 3 RP.int (f 34) x60 :: X67):=Z
 refine L_bld rfl (parts4 (hP67 1 26 rfl rfl) rfl rfl (hP67 11 36 rfl rfl)) (bld_79_0_1_2_3 (I x_33.kind) ((f 30)) ((f 34)) (I x_33.bound) rfl (one_len (Star.len 6 Z rfl)) (one_len (Star.len 7 Z rfl)) rfl) (L_nil ⟨rfl,_,_,rfl,Le.refl _,fun _ _=>⟨_,_,rfl⟩,Z⟩)
 refine opsS_cons ?_ ?_
 intro f w_ H67 X67 hS67 hE67 hP67 Z
 refine L_al (cs:=#[I 0,S0,S0,I 0,S0]) rfl Tryz.zeroValue79 rfl Z (fun g98 w99 Z=>?_)
 have Z:=Z.gets [6,6,6,6,6,6,6] rfl
 have Z:=Star.boxV (v:=Pt g98) rfl Z
 have Z:=Z.gets [6,6,6,6,6,6] rfl
 exact L_nil ⟨rfl,_,_,rfl,Le.refl _,fun _ _=>trivial,Z⟩
 exact opsS_nil
 have Z : Star H67 w_ ([box g47 79 #[I x_33.kind,u46_0,u46_1,I x_33.bound,u46_2],oF 3 RP.int v22 x12,oS 79 (oRule 3 23) v29_g25_1 g25_1_29,box g25 26 #[v22,v29_g25_1],box g7 26 #[S0,S0],box g5 26 #[v0_0,v0_1],own (OR.ownS 3 (OR.frz RP.int)) [(aggC (f 37) 1)] x53,own (OR.ownS 3 (OR.frz RP.int)) [(aggC (f 37) 2)] x60,boxV (f 6) 79 #[I 0,S0,S0,I 0,S0]]):=Z
 obtain ⟨u100_1,u100_2,hv100⟩:=(hT67 12 37 rfl rfl)
 have hren : Star H67 w_ ([box g47 79 #[I x_33.kind,u46_0,u46_1,I x_33.bound,u46_2],oF 3 RP.int v22 x12,oS 79 (oRule 3 23) v29_g25_1 g25_1_29,box g25 26 #[v22,v29_g25_1],box g7 26 #[S0,S0],box g5 26 #[v0_0,v0_1],own (OR.ownS 3 (OR.frz RP.int)) [(aggC (f 37) 1)] x53,own (OR.ownS 3 (OR.frz RP.int)) [(aggC (f 37) 2)] x60,boxV (f 6) 79 #[I 0,S0,S0,I 0,S0]]):=Z
 rw [hv100] at hren
 have Z : Star H67 w_ ([box g47 79 #[I x_33.kind,u46_0,u46_1,I x_33.bound,u46_2],oF 3 RP.int v22 x12,oS 79 (oRule 3 23) v29_g25_1 g25_1_29,box g25 26 #[v22,v29_g25_1],box g7 26 #[S0,S0],box g5 26 #[v0_0,v0_1],oF 3 RP.int u100_1 x53,oF 3 RP.int u100_2 x60,boxV (f 6) 79 #[I 0,S0,S0,I 0,S0]]):=hren
 obtain ⟨g101,hv101,Z⟩:=Star.unboxV (Star.get 8 Z rfl)
 refine L_staB (vs:=#[I x_33.kind,u100_1,u100_2,I x_33.bound,S0]) (cs2:=#[I x_33.kind,u100_1,u100_2,I x_33.bound,S0]) 0 rfl Tryz.sizeOf79 hv101 hv100 rfl (ones_cons rfl (ones_cons (one_len (Star.len 7 Z rfl)) (ones_cons (one_len (Star.len 8 Z rfl)) (ones_cons rfl (ones_cons rfl ones_nil))))) Z rfl (by show 0 + 5≤5; decide) rfl (fun w102 Z=>L_nil (W_seq (sq (aI rfl (nn ?_)))))
 have hlen108 : List.length x_33.rows≤9223372036854775807:=len_le (slice_len (RP.mono _ hu46_2 hE67))
 obtain ⟨j108,hL108,hB33⟩:=bind_some hB33
 obtain ⟨R108,hR108⟩:=exR fun f w_=>∃ g101_4_104 : List (List Int),∃ H106 : FH,∃ v104_g101_4 : Value,j108 = .nx g101_4_104∧Le H67 H106∧f 1 = Pt g5∧f 2 = Pt g7∧f 3 = Pt g25∧f 4 = I i_28∧f 6 = Pt g101∧Star H106 w_ ([oF 3 RP.int u100_1 x53,oF 3 RP.int u100_2 x60,own (OR.ownS 23 (OR.ownS 3 (OR.frz RP.int))) [v104_g101_4] g101_4_104,box g101 79 #[I x_33.kind,u100_1,u100_2,I x_33.bound,v104_g101_4],oF 3 RP.int v22 x12,oS 79 (oRule 3 23) v29_g25_1 g25_1_29,box g25 26 #[v22,v29_g25_1],box g7 26 #[S0,S0],box g5 26 #[v0_0,v0_1]])
 refine W_join R108 ?_ ?_
 refine W_block ?_
 obtain ⟨I108,hI108⟩:=exI fun n f w_=>∃ i_103 : Nat,∃ suf108 : List (List Int),∃ g101_4_104 : List (List Int),∃ H106 : FH,∃ v104_g101_4 : Value,n = suf108.length∧List.drop i_103 x_33.rows = suf108∧i_103 + suf108.length = x_33.rows.length∧rangeL s_l6Copy_b2 suf108 i_103 g101_4_104 = some j108∧Le H67 H106∧f 1 = Pt g5∧f 2 = Pt g7∧f 3 = Pt g25∧f 4 = I i_28∧f 5 = Pt g47∧f 6 = Pt g101∧f 7 = I i_103∧Star H106 w_ ([oF 3 RP.int u100_1 x53,oF 3 RP.int u100_2 x60,own (OR.ownS 23 (OR.ownS 3 (OR.frz RP.int))) [v104_g101_4] g101_4_104,box g101 79 #[I x_33.kind,u100_1,u100_2,I x_33.bound,v104_g101_4],box g47 79 #[I x_33.kind,u46_0,u46_1,I x_33.bound,u46_2],oF 3 RP.int v22 x12,oS 79 (oRule 3 23) v29_g25_1 g25_1_29,box g25 26 #[v22,v29_g25_1],box g7 26 #[S0,S0],box g5 26 #[v0_0,v0_1]])
 have Z:=Star.addNil (R:=(OR.ownS 3 (OR.frz RP.int))) (e:=23) Z
 have Z:=Z.gets [7,7,7,7,7,7,7,7,9,9] rfl
 refine W_loop I108 (n:=x_33.rows.length) ?_ ?_
 exact ij hI108 ⟨0,x_33.rows,[],H67,S0,rfl,rfl,Nat.zero_add _,hL108,(Le.refl _),((hS67 1 rfl).trans sf1),((hS67 2 rfl).trans sf2),((hS67 3 rfl).trans sf3),((hS67 4 rfl).trans sf4),((hS67 5 rfl).trans rfl),hv101,rfl,Z⟩
 intro n108 f w_ hI
 obtain ⟨i_103,suf108,g101_4_104,H106,v104_g101_4,rfl,hd108,hl108,hL108,l107,sf1,sf2,sf3,sf4,sf5,sf6,sf7,Z⟩:=ik hI108 hI
 refine W_seq (sq (mF sf7 rfl (fA 4 fa_79_4 sf5 rfl (ldB 4 Z Tryz.isAgg77 rfl rfl rfl (L_len rfl Tryz.underlying77 rfl (slice_len (RP.mono _ hu46_2 (Le.trans hE67 l107))) (L_lss rfl rfl rfl (nn (W_cond (b:=decide ((i_103 : Int) < (x_33.rows.length : Int))) rfl (fun hc110=>?_) (fun hc110=>?_)))))))))
 have hlt108:=of_decide_eq_true hc110
 rcases suf108 with _ | ⟨x_108,rest108⟩
 exact absurd hlt108 (by simp at hl108; omega)
 obtain ⟨o108,hB108,hL108⟩:=range_cons hL108
 rw [s_l6Copy_b2] at hB108
 have hix108:=drop_idx hd108
 refine W_skip (W_seq (W_block ?_))
 obtain ⟨x118,hx118,hB108⟩:=bind_some hB108
 obtain ⟨x125,hx125,hB108⟩:=bind_some hB108
 refine W_drawS 10 [isV (Pq g101 4),isV (v104_g101_4),anyF,isV (Pq g47 4),isV (u46_2),isV (I i_103),isEl (rS 3 RP.int) x_108 0,isData (rS 3 RP.int) x_108,anyF,anyF] [oF 3 RP.int u100_1 x53,oF 3 RP.int u100_2 x60,own (OR.ownS 23 (OR.ownS 3 (OR.frz RP.int))) [v104_g101_4] g101_4_104,box g101 79 #[I x_33.kind,u100_1,u100_2,I x_33.bound,v104_g101_4],box g47 79 #[I x_33.kind,u46_0,u46_1,I x_33.bound,u46_2],oF 3 RP.int v22 x12,oS 79 (oRule 3 23) v29_g25_1 g25_1_29,box g25 26 #[v22,v29_g25_1],box g7 26 #[S0,S0],box g5 26 #[v0_0,v0_1]] [.made 2 47 (fun v_=>oF 3 RP.int v_ ([])) (some 8),.made 8 53 (fun v_=>oF 3 RP.int v_ x118) (some 9),.made 9 54 (fun v_=>own (OR.ownS 23 (OR.ownS 3 (OR.frz RP.int))) [v_] ([x118])) none] ([]) [([],[]),([],[]),([],[0]),([],[]),([],[]),([],[]),([],[]),([],[]),([0],[1]),([1],[2])] (S:=[(some 2,[47],some 8),(some 8,[53],some 9),(some 9,[54],none)]) Tryz_mix (by kernel_rfl) rfl (by kernel_rfl) (amF_cons (mono_V _) (amF_cons (mono_V _) (amF_cons (mono_any) (amF_cons (mono_V _) (amF_cons (mono_V _) (amF_cons (mono_V _) (amF_cons (mono_el _ _ _) (amF_cons (mono_data _ _) (amF_cons (mono_any) (amF_cons (mono_any) amF_nil)))))))))) Z ?_ (fun f w_ H130 hS130 hE130 hT130 Z=>?_)
 refine opsS_cons (fun f w_ _ _ s _ _ Z=>fA 4 fa_79_4 ((s 6 rfl).trans sf6) rfl (nO rfl rfl Z)) (opsS_cons (fun f w_ _ _ _ _ p Z=>ldB 3 Z Tryz.isAgg77 (p 0 45 rfl rfl) rfl rfl (nO rfl rfl Z)) (opsS_cons ?_ ?_))
 intro f w_ H130 X130 hS130 hE130 hP130 Z
 refine L_bs rfl parts0 (bs_23_0  ) Z (fun g144 w145 Z=>?_)
 have Z:=Star.mkRow (R:=(OR.frz RP.int)) [] [] 0 Z rfl rfl rfl (by decide)
 have Z:=Z.gets [10,10,10,10,10,10,10,10,10,10] rfl
 exact L_nil ⟨rfl,_,_,rfl,Le.refl _,fun _ _=>trivial,Z⟩
 refine opsS_cons (fun f w_ _ _ s _ _ Z=>fA 4 fa_79_4 ((s 5 rfl).trans sf5) rfl (nO rfl rfl Z)) (opsS_cons (fun f w_ _ _ _ _ p Z=>ldB 4 Z Tryz.isAgg77 (p 3 48 rfl rfl) rfl rfl (nO rfl rfl Z)) (opsS_cons (fun f w_ _ _ s _ _ Z=>mF ((s 7 rfl).trans sf7) rfl (nO rfl rfl Z)) (opsS_cons ?_ ?_)))
 intro f w_ H130 X130 hS130 hE130 hP130 Z
 refine L_ix (r:=(rS 3 RP.int)) rfl Tryz.underlying77 Tryz.sizeOf23 (hP130 4 49 rfl rfl) (RP.mono _ hu46_2 (Le.trans (Le.trans hE67 l107) hE130)) (hP130 5 50 rfl rfl) hix108 (fun g147 o148 cs_g147 hrk_hat149 hat149=>?_)
 obtain ⟨u150,rfl,hu150⟩:=slice1 hrk_hat149
 exact L_nil ⟨rfl,_,_,rfl,Le.refl _,fun _ _=>⟨_,_,_,rfl,hrk_hat149,hat149⟩,Z⟩
 refine opsS_cons ?_ ?_
 intro f w_ H130 X130 hS130 hE130 hP130 Z
 obtain ⟨g151,o151,cs151,hv151,hrk_hat151,hat151⟩:=(hP130 6 51 rfl rfl)
 obtain ⟨u152,rfl,hu152⟩:=slice1 hrk_hat151
 refine L_ld rfl Tryz.isAgg23 hv151 (At.cell (AtH.at hat151 Z.sub) (j:=0) rfl) (L_nil ⟨rfl,_,_,rfl,Le.refl _,fun _ _=>hu152,Z⟩)
 refine opsS_cons ?_ ?_
 intro f w_ H130 X130 hS130 hE130 hP130 Z
 have Z : Star H130 w_ (oF 3 RP.int u100_1 x53 :: oF 3 RP.int u100_2 x60 :: own (OR.ownS 23 (OR.ownS 3 (OR.frz RP.int))) [v104_g101_4] g101_4_104 :: box g101 79 #[I x_33.kind,u100_1,u100_2,I x_33.bound,v104_g101_4] :: box g47 79 #[I x_33.kind,u46_0,u46_1,I x_33.bound,u46_2] :: oF 3 RP.int v22 x12 :: oS 79 (oRule 3 23) v29_g25_1 g25_1_29 :: box g25 26 #[v22,v29_g25_1] :: box g7 26 #[S0,S0] :: box g5 26 #[v0_0,v0_1] :: oF 3 RP.int (f 47) ([]) :: X130):=Z
 have hd154 : (rS 3 RP.int).rel H130 [f 52] x_108:=(hP130 7 52 rfl rfl)
 have Z:=Z.get 10 rfl
 refine L_app (v:=(f 47)) (u:=(f 52)) rfl et_23 rfl rfl Z hd154 hx118 (fun v155 w156 Z=>?_)
 have Z:=Z.gets [10,10,10,10,10,10,10,10,10,10] rfl
 exact L_nil ⟨rfl,_,_,rfl,Le.refl _,fun _ _=>trivial,Z⟩
 refine opsS_cons ?_ ?_
 intro f w_ H130 X130 hS130 hE130 hP130 Z
 have Z : Star H130 w_ (oF 3 RP.int u100_1 x53 :: oF 3 RP.int u100_2 x60 :: own (OR.ownS 23 (OR.ownS 3 (OR.frz RP.int))) [v104_g101_4] g101_4_104 :: box g101 79 #[I x_33.kind,u100_1,u100_2,I x_33.bound,v104_g101_4] :: box g47 79 #[I x_33.kind,u46_0,u46_1,I x_33.bound,u46_2] :: oF 3 RP.int v22 x12 :: oS 79 (oRule 3 23) v29_g25_1 g25_1_29 :: box g25 26 #[v22,v29_g25_1] :: box g7 26 #[S0,S0] :: box g5 26 #[v0_0,v0_1] :: oF 3 RP.int (f 53) x118 :: X130):=Z
 refine L_bs rfl (parts1 rfl) (bs_77_1_0 ((f 53)) (one_len (Star.len 10 Z rfl))) Z (fun g159 w160 Z=>?_)
 have Z:=Z.get 11 rfl
 have Z:=Star.mkRow (R:=(OR.ownS 3 (OR.frz RP.int))) [([(f 53)],x118)] [x118] 1 Z rfl rfl rfl (by decide)
 have Z:=Z.gets [10,10,10,10,10,10,10,10,10,10] rfl
 exact L_nil ⟨rfl,_,_,rfl,Le.refl _,fun _ _=>trivial,Z⟩
 exact opsS_nil
 have Z : Star H130 w_ ([oF 3 RP.int u100_1 x53,oF 3 RP.int u100_2 x60,own (OR.ownS 23 (OR.ownS 3 (OR.frz RP.int))) [v104_g101_4] g101_4_104,box g101 79 #[I x_33.kind,u100_1,u100_2,I x_33.bound,v104_g101_4],box g47 79 #[I x_33.kind,u46_0,u46_1,I x_33.bound,u46_2],oF 3 RP.int v22 x12,oS 79 (oRule 3 23) v29_g25_1 g25_1_29,box g25 26 #[v22,v29_g25_1],box g7 26 #[S0,S0],box g5 26 #[v0_0,v0_1],own (OR.ownS 23 (OR.ownS 3 (OR.frz RP.int))) [(f 54)] ([x118])]):=Z
 have Z:=Z.gets [10,3] rfl
 refine L_appM (v:=v104_g101_4) (u:=(f 54)) rfl et_77 (hT130 1 46 rfl rfl) rfl Z hx125 (fun v163 w164 Z=>fA 4 fa_79_4 ((hS130 6 rfl).trans sf6) rfl (L_stB (v:=v163) (cs2:=#[I x_33.kind,u100_1,u100_2,I x_33.bound,v163]) 3 rfl Tryz.sizeOf77 rfl rfl (one_len (Star.len 0 Z rfl)) Z rfl rfl rfl (fun w166 Z=>nn (W_region (mF ((hS130 7 rfl).trans sf7) rfl (L_add rfl rfl rfl (aI rfl (nn ?_))))))))
 obtain rfl:=so hB108
 have Z:=Z.gets [9,9,9,9,9,9,6,7,9,9] rfl
 show ∃ m,m < _∧I108 m _ _
 refine ⟨rest108.length,by simp,?_⟩
 exact ij hI108 ⟨i_103 + 1,rest108,x125,H130,v163,rfl,drop_next hd108,by simp at hl108; omega,hL108,(Le.trans l107 hE130),((hS130 1 rfl).trans sf1),((hS130 2 rfl).trans sf2),((hS130 3 rfl).trans sf3),((hS130 4 rfl).trans sf4),((hS130 5 rfl).trans sf5),((hS130 6 rfl).trans sf6),(Eq.trans rfl (congrArg (Value.int .i64) (i64_succ (n:=x_33.rows.length) (by simp at hl108; omega) hlen108))),Z⟩
 rcases suf108 with _ | ⟨_,_⟩
 obtain rfl:=range_nil hL108
 refine W_exit ?_
 have Z:=Z.gets [9,9,9,9,9,8,8,8,8] rfl
 exact rj hR108 ⟨g101_4_104,H106,v104_g101_4,rfl,l107,sf1,sf2,sf3,sf4,sf6,(Star.keepN 9 Z)⟩
 exact absurd (of_decide_eq_false hc110) (by simp at hl108; omega)
 intro f w_ hR
 obtain ⟨g101_4_104,H106,v104_g101_4,rfl,l107,sf1,sf2,sf3,sf4,sf6,Z⟩:=rk hR108 hR
 obtain ⟨x170,hx170,hB33⟩:=bind_some hB33
 refine W_region (fA 1 fa_26_1 sf3 rfl (ldB 6 Z Tryz.isAgg24 rfl rfl rfl (L_lda (cs:=[I x_33.kind,u100_1,u100_2,I x_33.bound,v104_g101_4]) rfl Tryz.isAgg79 Tryz.sizeOf79 sf6 (At.sub0 (Blk.at (Star.blkAt 3 Z rfl)) 0 5) rfl (L_bs rfl (parts1 rfl) (bs_24_1_5 (I x_33.kind) (u100_1) (u100_2) (I x_33.bound) (v104_g101_4) ) Z (fun g175 w176 Z=>?_)))))
 have Z:=Z.gets [3,3,3] rfl
 have Z:=oRule_close (r:=({ kind:=x_33.kind,vars:=x53,coefs:=x60,bound:=x_33.bound,rows:=g101_4_104 } : Rule)) Z
 have Z:=Star.mkRow (R:=(oRule 3 23)) [([I x_33.kind,u100_1,u100_2,I x_33.bound,v104_g101_4],({ kind:=x_33.kind,vars:=x53,coefs:=x60,bound:=x_33.bound,rows:=g101_4_104 } : Rule))] [({ kind:=x_33.kind,vars:=x53,coefs:=x60,bound:=x_33.bound,rows:=g101_4_104 } : Rule)] 1 Z rfl rfl rfl (by decide)
 have Z:=Z.get 3 rfl
 refine L_appM (v:=v29_g25_1) (u:=(Sl g175 1 1)) rfl et_24 rfl rfl Z hx170 (fun v178 w179 Z=>fA 1 fa_26_1 sf3 rfl (L_stB (v:=v178) (cs2:=#[v22,v178]) 3 rfl Tryz.sizeOf24 rfl rfl (one_len (Star.len 0 Z rfl)) Z rfl rfl rfl (fun w181 Z=>nn (W_region (mF sf4 rfl (L_add rfl rfl rfl (aI rfl (nn ?_))))))))
 obtain rfl:=so hB33
 have Z:=Z.gets [5,5,2,3,5] rfl
 show ∃ m,m < _∧I33 m _ _
 refine ⟨rest33.length,by simp,?_⟩
 exact ij hI33 ⟨i_28 + 1,rest33,x170,H106,v178,rfl,drop_next hd33,by simp at hl33; omega,hL33,(Le.trans (Le.trans l32 hE67) l107),sf1,sf2,sf3,(Eq.trans rfl (congrArg (Value.int .i64) (i64_succ (n:=m.rules.length) (by simp at hl33; omega) hlen33))),(Star.keepN 5 Z)⟩
 rcases suf33 with _ | ⟨_,_⟩
 obtain rfl:=range_nil hL33
 refine W_exit (rj hR33 ⟨g25_1_29,H31,v29_g25_1,rfl,l32,sf2,sf3,(Star.keepN 4 Z)⟩)
 exact absurd (of_decide_eq_false hc35) (by simp at hl33; omega)
 intro f w_ hR
 obtain ⟨g25_1_29,H31,v29_g25_1,rfl,l32,sf2,sf3,Z⟩:=rk hR33 hR
 refine sq (L_lda (cs:=[v22,v29_g25_1]) rfl Tryz.isAgg26 Tryz.sizeOf26 sf3 (At.sub0 (Blk.at (Star.blkAt 2 Z rfl)) 0 2) rfl (L_staB (vs:=#[v22,v29_g25_1]) (cs2:=#[v22,v29_g25_1]) 3 rfl Tryz.sizeOf26 sf2 rfl rfl (ones_cons (one_len (Star.len 0 Z rfl)) (ones_cons (one_len (Star.len 1 Z rfl)) ones_nil)) Z rfl (by show 0 + 2≤2; decide) rfl (fun w183 Z=>nn (W_ret (retG1 (v1:=.agg #[v22,v29_g25_1]) Tryz.results126 (resV_agg Tryz.isAgg26 Tryz.sizeOf26 sf2 (Star.blkAt 0 Z rfl) rfl) ?_)))))
 obtain rfl:=so hF
 have Z:=Z.gets [2,2] rfl
 exact ⟨v22,v29_g25_1,rfl,(Star.down (Star.keepN 2 Z) l32 (co closed_int (co closed_oRule c0)))⟩
theorem s_l6Mutate_c {fu : Nat} {r_ : Rd} {m : Model} {g_0 : Nat} {v0_0 : Value} {v1_0 : Value} {v1_1 : Value} {H : FH} {w : World} {R : List Ass} (Z : Star H w (box g_0 136 #[v0_0,I r_.p] :: R)) (h0_0 : (rS 5 RP.u8).rel H [v0_0] r_.b) (h1_0 : (rS 3 RP.int).rel H [v1_0] m.sizes) (h1_1 : (rS 79 (rRule 3 23)).rel H [v1_1] m.rules) {r : Unit} (hF : s_l6Mutate fu r_ m = some r) :
 C Tryz.prog 73 #[Pt g_0,.agg #[v1_0,v1_1]] w fun v w'=>∃ o : Model × Int,(sModel o.1∧rdOk r_.p o.2)∧∃ H' : FH,Le H H'∧∃ (u1 : Value) (u2 : Value),v = .agg #[u1,u2]∧(rS 3 RP.int).rel H' [u1] o.1.sizes∧(rS 79 (rRule 3 23)).rel H' [u2] o.1.rules∧Star H' w' (box g_0 136 #[v0_0,I o.2] :: R):=by
 unfold s_l6Mutate at hF
 refine C_enter Tryz.func73 rfl Tryz.ntmps73 rfl (sq (L_box (v:=.agg #[v1_0,v1_1]) (cs:=#[v1_0,v1_1]) rfl rfl rfl Z (fun g5 w6 Z=>L_al (cs:=#[S0,S0]) rfl Tryz.zeroValue26 rfl Z (fun g7 w8 Z=>nq ?_))))
 obtain ⟨x14,hx14,hF⟩:=bind_some hF
 refine W_region (L_lda (cs:=[v1_0,v1_1]) rfl Tryz.isAgg26 Tryz.sizeOf26 rfl (At.sub0 (Blk.at (Star.blkAt 1 Z rfl)) 0 2) rfl ?_)
 obtain ⟨H21b,l22,s23,z24,k25⟩:=Z.borrow
 refine L_call rfl Tryz.call126 (ops1 rfl) (s_l6Copy_c (m:=m) s23 (RP.mono _ h1_0 l22) (RP.mono _ h1_1 l22) hx14) ?_
 rintro _ w26 ⟨r26_0,r26_1,rfl,Z⟩
 have Z:=k25 Z (co closed_int (co closed_oRule c0))
 refine L_al (cs:=#[S0,S0]) rfl Tryz.zeroValue26 rfl Z (fun g29 w30 Z=>L_staB (vs:=#[r26_0,r26_1]) (cs2:=#[r26_0,r26_1]) 0 rfl Tryz.sizeOf26 rfl rfl rfl (ones_cons (one_len (Star.len 1 Z rfl)) (ones_cons (one_len (Star.len 2 Z rfl)) ones_nil)) Z rfl (by show 0 + 2≤2; decide) rfl (fun w31 Z=>ns (fA 1 fa_26_1 rfl rfl (ldB 0 Z Tryz.isAgg24 rfl rfl rfl (L_len rfl Tryz.underlying24 rfl (Star.len 2 Z rfl) (aI rfl (nq (W_seq ?_))))))))
 obtain ⟨x37,hx37,hF⟩:=bind_some hF
 refine W_region (mV (Pt g_0) rfl ?_)
 have Z:=Z.get 5 rfl
 obtain ⟨H39b,l40,s41,z42,k43⟩:=Z.lend [_]
 refine L_call rfl Tryz.call127 (ops2 rfl rfl) (s_l17Rd_pick_c (r_:=r_) (n_:=50) s41 (RP.mono _ h0_0 l40) hx37) ?_
 rintro _ w44 ⟨rfl,Z⟩
 have Z:=k43 Z (cb c0)
 refine nn (W_block (sq (L_eql rfl rfl rfl (aB rfl (nn (W_cond (b:=(x37.1 == 0)) rfl (fun hc45=>?_) (fun hc45=>?_)))))))
 have hF:=(ite_t hc45).symm.trans hF
 refine sq (fA 0 fa_26_0 rfl rfl (ldB 1 Z Tryz.isAgg23 rfl rfl rfl (L_len rfl Tryz.underlying23 rfl (Star.len 2 Z rfl) (L_gtr rfl rfl rfl (nn (W_cond (b:=decide ((x14.sizes.length : Int) > 0)) rfl (fun hc46=>?_) (fun hc46=>?_)))))))
 have hF:=(ite_t hc46).symm.trans hF
 obtain ⟨x56,hx56,hF⟩:=bind_some hF
 obtain ⟨x58,hx58,hF⟩:=bind_some hF
 have Z:=Star.drop 5 Z rfl
 have Z:=Z.gets [4,4,4,4] rfl
 refine W_drawS 5 [isV (Pt g29),isV (r26_0),isV (Pt g_0),anyF,isV (I x56.1)] [box g29 26 #[r26_0,r26_1],oF 3 RP.int r26_0 x14.sizes,oS 79 (oRule 3 23) r26_1 x14.rules,box g7 26 #[S0,S0]] [.base (box g_0 136 #[v0_0,I x37.2]) (some 4),.made 3 23 (fun v_=>oF 3 RP.int v_ ([(-1),4,3,9223372036854775807])) none,.made 4 24 (fun v_=>box g_0 136 #[v0_0,I x56.2]) none] (R) [([],[]),([],[]),([],[]),([],[1]),([0,1],[1,2])] (S:=[(none,[],some 4),(some 3,[23],none),(some 4,[24],none)]) Tryz_mix (by kernel_rfl) rfl (by kernel_rfl) (amF_cons (mono_V _) (amF_cons (mono_V _) (amF_cons (mono_V _) (amF_cons (mono_any) (amF_cons (mono_V _) amF_nil))))) Z ?_ (fun f w_ H62 hS62 hE62 hT62 Z=>?_)
 refine opsS_cons (fun f w_ _ _ s _ _ Z=>fA 0 fa_26_0 ((s 5 rfl).trans rfl) rfl (nO rfl rfl Z)) (opsS_cons (fun f w_ _ _ _ _ p Z=>ldB 0 Z Tryz.isAgg23 (p 0 20 rfl rfl) rfl rfl (nO rfl rfl Z)) (opsS_cons (fun f w_ _ _ s _ _ Z=>mF ((s 0 rfl).trans rfl) rfl (nO rfl rfl Z)) (opsS_cons ?_ ?_)))
 intro f w_ H62 X62 hS62 hE62 hP62 Z
 refine L_bs rfl (parts4 rfl rfl rfl rfl) (bs_23_4_0_0_0_0 (I (-1)) (I 4) (I 3) (I 9223372036854775807) rfl rfl rfl rfl) Z (fun g73 w74 Z=>?_)
 have Z:=litInts [(-1),4,3,9223372036854775807] 4 Z rfl rfl (by decide)
 have Z:=Z.gets [4,4,4,4] rfl
 exact L_nil ⟨rfl,_,_,rfl,Le.refl _,fun _ _=>trivial,Z⟩
 refine opsS_cons ?_ ?_
 intro f w_ H62 X62 hS62 hE62 hP62 Z
 have Z : Star H62 w_ (box g29 26 #[r26_0,r26_1] :: oF 3 RP.int r26_0 x14.sizes :: oS 79 (oRule 3 23) r26_1 x14.rules :: box g7 26 #[S0,S0] :: box g_0 136 #[v0_0,I x37.2] :: oF 3 RP.int (f 23) ([(-1),4,3,9223372036854775807]) :: X62):=Z
 have Z:=Z.get 4 rfl
 obtain ⟨H77b,l78,s79,z80,k81⟩:=Z.lend [_]
 have hb82 : (rS 3 RP.int).rel H77b [(f 23)] ([(-1),4,3,9223372036854775807]):=fz_own 4 z80 rfl
 refine L_call rfl Tryz.call75 (ops2 (hP62 2 22 rfl rfl) rfl) (s_l17Rd_num_c (r_:=({ b:=r_.b,p:=x37.2 } : Rd)) (list:=[(-1),4,3,9223372036854775807]) s79 (RP.mono _ h0_0 (Le.trans hE62 l78)) hb82 hx56) ?_
 rintro _ w83 ⟨rfl,Z⟩
 have Z:=k81 Z (cb c0)
 have Z:=Z.gets [5,5,5,5,5] rfl
 exact L_nil ⟨rfl,_,_,rfl,Le.refl _,fun _ _=>rfl,Z⟩
 exact opsS_nil
 have Z : Star H62 w_ (box g29 26 #[r26_0,r26_1] :: oF 3 RP.int r26_0 x14.sizes :: oS 79 (oRule 3 23) r26_1 x14.rules :: box g7 26 #[S0,S0] :: oF 3 RP.int (f 23) ([(-1),4,3,9223372036854775807]) :: box g_0 136 #[v0_0,I x56.2] :: R):=Z
 obtain ⟨g84,cap_g84,hv85,_,_⟩:=Star.row 1 Z rfl hx58
 refine L_ixO (R:=(OR.frz RP.int)) (tb:=0) 0 rfl Tryz.underlying23 Tryz.sizeOf3 (hT62 1 21 rfl rfl) hv85 (by first | rfl | simp) rfl hx58 ?_
 have Z:=Star.addF (r:=RP.int) (cs:=[I x56.1]) (x:=x56.1) Z rfl
 have Z:=Z.gets [2,1] rfl
 refine L_stE1 (u:=I x56.1) rfl Tryz.sizeOf3 rfl rfl (hT62 4 24 rfl rfl) hv85 Z hx58 (fun w86 Z=>?_)
 refine L_nil (sq (L_lda (cs:=[r26_0,r26_1]) rfl Tryz.isAgg26 Tryz.sizeOf26 ((hS62 5 rfl).trans rfl) (At.sub0 (Blk.at (Star.blkAt 1 Z rfl)) 0 2) rfl (L_staB (vs:=#[r26_0,r26_1]) (cs2:=#[r26_0,r26_1]) 3 rfl Tryz.sizeOf26 ((hS62 4 rfl).trans rfl) rfl rfl (ones_cons (one_len (Star.len 0 Z rfl)) (ones_cons (one_len (Star.len 2 Z rfl)) ones_nil)) Z rfl (by show 0 + 2≤2; decide) rfl (fun w88 Z=>nn (W_ret (retG1 (v1:=.agg #[r26_0,r26_1]) Tryz.results73 (resV_agg Tryz.isAgg26 Tryz.sizeOf26 ((hS62 4 rfl).trans rfl) (Star.blkAt 0 Z rfl) rfl) ?_))))))
 have hG:=assertM_some hF
 have Z:=Z.get 1 rfl
 obtain ⟨H89,l90,Z,hz91⟩:=Star.freeze Z
 have hz91 : (rS 3 RP.int).rel H89 [r26_0] (x14.sizes.set (Int.toNat 0) x56.1):=hz91
 have Z:=Z.get 2 rfl
 obtain ⟨H92,l93,Z,hz94⟩:=Star.freeze Z
 have hz94 : (rS 79 (rRule 3 23)).rel H92 [r26_1] x14.rules:=hz94
 have Z:=Z.get 3 rfl
 have Z:=Star.drop 1 Z rfl
 have Z:=Star.drop 1 Z rfl
 have Z:=Star.drop 1 Z rfl
 exact ⟨(({ sizes:=(x14.sizes.set (Int.toNat 0) x56.1),rules:=x14.rules } : Model),x56.2),hG,H92,(Le.trans (Le.trans hE62 l90) l93),r26_0,r26_1,rfl,(RP.mono _ hz91 l93),hz94,Z⟩
 have hF:=(ite_f hc46).symm.trans hF
 refine W_skip (sq (L_lda (cs:=[r26_0,r26_1]) rfl Tryz.isAgg26 Tryz.sizeOf26 rfl (At.sub0 (Blk.at (Star.blkAt 1 Z rfl)) 0 2) rfl (L_staB (vs:=#[r26_0,r26_1]) (cs2:=#[r26_0,r26_1]) 4 rfl Tryz.sizeOf26 rfl rfl rfl (ones_cons (one_len (Star.len 2 Z rfl)) (ones_cons (one_len (Star.len 3 Z rfl)) ones_nil)) Z rfl (by show 0 + 2≤2; decide) rfl (fun w96 Z=>nn (W_ret (retG1 (v1:=.agg #[r26_0,r26_1]) Tryz.results73 (resV_agg Tryz.isAgg26 Tryz.sizeOf26 rfl (Star.blkAt 0 Z rfl) rfl) ?_))))))
 have hG:=assertM_some hF
 have Z:=Z.get 3 rfl
 obtain ⟨H97,l98,Z,hz99⟩:=Star.freeze Z
 have hz99 : (rS 3 RP.int).rel H97 [r26_0] x14.sizes:=hz99
 have Z:=Z.get 3 rfl
 obtain ⟨H100,l101,Z,hz102⟩:=Star.freeze Z
 have hz102 : (rS 79 (rRule 3 23)).rel H100 [r26_1] x14.rules:=hz102
 have Z:=Z.get 1 rfl
 have Z:=Star.drop 1 Z rfl
 have Z:=Star.drop 1 Z rfl
 have Z:=Star.drop 1 Z rfl
 exact ⟨(x14,x37.2),hG,H100,(Le.trans l98 l101),r26_0,r26_1,rfl,(RP.mono _ hz99 l101),hz102,Z⟩
 have hF:=(ite_f hc45).symm.trans hF
 refine sq (L_eql rfl rfl rfl (aB rfl (nn (W_cond (b:=(x37.1 == 1)) rfl (fun hc103=>?_) (fun hc103=>?_)))))
 have hF:=(ite_t hc103).symm.trans hF
 obtain ⟨j107,hL107,hF⟩:=bind_some hF
 obtain ⟨R107,hR107⟩:=exR fun f w_=>∃ g29_0_105 : List Int,∃ v105_g29_0 : Value,j107 = .nx g29_0_105∧f 4 = Pt g7∧f 5 = Pt g29∧Star H w_ (box g_0 136 #[v0_0,I x37.2] :: oF 3 RP.int v105_g29_0 g29_0_105 :: oS 79 (oRule 3 23) r26_1 x14.rules :: box g29 26 #[v105_g29_0,r26_1] :: box g7 26 #[S0,S0] :: R)
 refine W_join R107 ?_ ?_
 refine W_block ?_
 obtain ⟨I107,hI107⟩:=exI fun n f w_=>∃ g29_0_105 : List Int,∃ v105_g29_0 : Value,whileL s_l6Mutate_b1 n g29_0_105 = some j107∧f 4 = Pt g7∧f 5 = Pt g29∧Star H w_ (box g_0 136 #[v0_0,I x37.2] :: oF 3 RP.int v105_g29_0 g29_0_105 :: oS 79 (oRule 3 23) r26_1 x14.rules :: box g29 26 #[v105_g29_0,r26_1] :: box g7 26 #[S0,S0] :: R)
 have Z:=Z.gets [4,2,4,4,4] rfl
 have Z:=Star.drop 5 Z rfl
 refine W_loop I107 (n:=fu) ?_ ?_
 exact ij hI107 ⟨x14.sizes,r26_0,hL107,rfl,rfl,Z⟩
 intro n107 f w_ hI
 obtain ⟨g29_0_105,v105_g29_0,hL107,sf4,sf5,Z⟩:=ik hI107 hI
 rcases n107 with _ | n107
 exact (while_zero hL107).elim
 obtain ⟨o107,hB107,hL107⟩:=while_succ hL107
 rw [s_l6Mutate_b1] at hB107
 refine W_seq (sq (fA 0 fa_26_0 sf5 rfl (ldB 3 Z Tryz.isAgg23 rfl rfl rfl (L_len rfl Tryz.underlying23 rfl (Star.len 1 Z rfl) (L_leq rfl rfl rfl (nn (W_cond (b:=decide ((g29_0_105.length : Int)≤5)) rfl (fun hc108=>?_) (fun hc108=>?_))))))))
 have hB107:=(ite_t hc108).symm.trans hB107
 refine W_skip (W_block ?_)
 obtain ⟨x112,hx112,hB107⟩:=bind_some hB107
 refine W_region (fA 0 fa_26_0 sf5 rfl (ldB 3 Z Tryz.isAgg23 rfl rfl rfl (L_bs rfl (parts1 rfl) (bs_23_1_0 (I 0) rfl) Z (fun g117 w118 Z=>?_))))
 have Z:=litInts [0] 1 Z rfl rfl (by decide)
 have Z:=Z.get 2 rfl
 refine L_appM (v:=v105_g29_0) (u:=(Sl g117 1 1)) rfl et_23 rfl rfl Z hx112 (fun v120 w121 Z=>fA 0 fa_26_0 sf5 rfl (L_stB (v:=v120) (cs2:=#[v120,r26_1]) 3 rfl Tryz.sizeOf23 rfl rfl (one_len (Star.len 0 Z rfl)) Z rfl rfl rfl (fun w123 Z=>nn ?_)))
 obtain rfl:=so hB107
 have Z:=Z.gets [4,1,4,3,4] rfl
 show ∃ m,m < _∧I107 m _ _
 refine ⟨n107,Nat.lt_succ_self _,?_⟩
 exact ij hI107 ⟨x112,v120,hL107,sf4,sf5,Z⟩
 have hB107:=(ite_f hc108).symm.trans hB107
 refine W_exit ?_
 obtain rfl:=so hB107
 obtain rfl:=so hL107
 exact rj hR107 ⟨g29_0_105,v105_g29_0,rfl,sf4,sf5,Z⟩
 intro f w_ hR
 obtain ⟨g29_0_105,v105_g29_0,rfl,sf4,sf5,Z⟩:=rk hR107 hR
 refine sq (L_lda (cs:=[v105_g29_0,r26_1]) rfl Tryz.isAgg26 Tryz.sizeOf26 sf5 (At.sub0 (Blk.at (Star.blkAt 3 Z rfl)) 0 2) rfl (L_staB (vs:=#[v105_g29_0,r26_1]) (cs2:=#[v105_g29_0,r26_1]) 4 rfl Tryz.sizeOf26 sf4 rfl rfl (ones_cons (one_len (Star.len 1 Z rfl)) (ones_cons (one_len (Star.len 2 Z rfl)) ones_nil)) Z rfl (by show 0 + 2≤2; decide) rfl (fun w125 Z=>nn (W_ret (retG1 (v1:=.agg #[v105_g29_0,r26_1]) Tryz.results73 (resV_agg Tryz.isAgg26 Tryz.sizeOf26 sf4 (Star.blkAt 0 Z rfl) rfl) ?_)))))
 have hG:=assertM_some hF
 have Z:=Z.get 2 rfl
 obtain ⟨H126,l127,Z,hz128⟩:=Star.freeze Z
 have hz128 : (rS 3 RP.int).rel H126 [v105_g29_0] g29_0_105:=hz128
 have Z:=Z.get 2 rfl
 obtain ⟨H129,l130,Z,hz131⟩:=Star.freeze Z
 have hz131 : (rS 79 (rRule 3 23)).rel H129 [r26_1] x14.rules:=hz131
 have Z:=Z.get 1 rfl
 have Z:=Star.drop 1 Z rfl
 have Z:=Star.drop 1 Z rfl
 exact ⟨(({ sizes:=g29_0_105,rules:=x14.rules } : Model),x37.2),hG,H129,(Le.trans l127 l130),v105_g29_0,r26_1,rfl,(RP.mono _ hz128 l130),hz131,Z⟩
 have hF:=(ite_f hc103).symm.trans hF
 refine sq (L_eql rfl rfl rfl (aB rfl (nn (W_cond (b:=(x37.1 == 2)) rfl (fun hc132=>?_) (fun hc132=>?_)))))
 have hF:=(ite_t hc132).symm.trans hF
 refine sq (mI rfl (L_gtr rfl rfl rfl (nn (W_cond (b:=decide ((x14.rules.length : Int) > 0)) rfl (fun hc133=>?_) (fun hc133=>?_)))))
 have hF:=(ite_t hc133).symm.trans hF
 obtain ⟨x143,hx143,hF⟩:=bind_some hF
 obtain ⟨x145,hx145,hF⟩:=bind_some hF
 have Z:=Star.drop 5 Z rfl
 have Z:=Z.gets [4,4,4,4] rfl
 refine W_drawS 5 [isV (Pq g29 1),isV (r26_1),isV (Pt g_0),anyF,isV (I x143.1)] [box g29 26 #[r26_0,r26_1],oF 3 RP.int r26_0 x14.sizes,oS 79 (oRule 3 23) r26_1 x14.rules,box g7 26 #[S0,S0]] [.base (box g_0 136 #[v0_0,I x37.2]) (some 4),.made 3 44 (fun v_=>oF 3 RP.int v_ ([0,5,1,2,3])) none,.made 4 45 (fun v_=>box g_0 136 #[v0_0,I x143.2]) none] (R) [([],[]),([],[]),([],[]),([],[1]),([0,1],[1,2])] (S:=[(none,[],some 4),(some 3,[44],none),(some 4,[45],none)]) Tryz_mix (by kernel_rfl) rfl (by kernel_rfl) (amF_cons (mono_V _) (amF_cons (mono_V _) (amF_cons (mono_V _) (amF_cons (mono_any) (amF_cons (mono_V _) amF_nil))))) Z ?_ (fun f w_ H149 hS149 hE149 hT149 Z=>?_)
 refine opsS_cons (fun f w_ _ _ s _ _ Z=>fA 1 fa_26_1 ((s 5 rfl).trans rfl) rfl (nO rfl rfl Z)) (opsS_cons (fun f w_ _ _ _ _ p Z=>ldB 0 Z Tryz.isAgg24 (p 0 41 rfl rfl) rfl rfl (nO rfl rfl Z)) (opsS_cons (fun f w_ _ _ s _ _ Z=>mF ((s 0 rfl).trans rfl) rfl (nO rfl rfl Z)) (opsS_cons ?_ ?_)))
 intro f w_ H149 X149 hS149 hE149 hP149 Z
 refine L_bs rfl (parts5 rfl rfl rfl rfl rfl) (bs_23_5_0_0_0_0_0 (I 0) (I 5) (I 1) (I 2) (I 3) rfl rfl rfl rfl rfl) Z (fun g160 w161 Z=>?_)
 have Z:=litInts [0,5,1,2,3] 5 Z rfl rfl (by decide)
 have Z:=Z.gets [4,4,4,4] rfl
 exact L_nil ⟨rfl,_,_,rfl,Le.refl _,fun _ _=>trivial,Z⟩
 refine opsS_cons ?_ ?_
 intro f w_ H149 X149 hS149 hE149 hP149 Z
 have Z : Star H149 w_ (box g29 26 #[r26_0,r26_1] :: oF 3 RP.int r26_0 x14.sizes :: oS 79 (oRule 3 23) r26_1 x14.rules :: box g7 26 #[S0,S0] :: box g_0 136 #[v0_0,I x37.2] :: oF 3 RP.int (f 44) ([0,5,1,2,3]) :: X149):=Z
 have Z:=Z.get 4 rfl
 obtain ⟨H164b,l165,s166,z167,k168⟩:=Z.lend [_]
 have hb169 : (rS 3 RP.int).rel H164b [(f 44)] ([0,5,1,2,3]):=fz_own 4 z167 rfl
 refine L_call rfl Tryz.call75 (ops2 (hP149 2 43 rfl rfl) rfl) (s_l17Rd_num_c (r_:=({ b:=r_.b,p:=x37.2 } : Rd)) (list:=[0,5,1,2,3]) s166 (RP.mono _ h0_0 (Le.trans hE149 l165)) hb169 hx143) ?_
 rintro _ w170 ⟨rfl,Z⟩
 have Z:=k168 Z (cb c0)
 have Z:=Z.gets [5,5,5,5,5] rfl
 exact L_nil ⟨rfl,_,_,rfl,Le.refl _,fun _ _=>rfl,Z⟩
 exact opsS_nil
 have Z : Star H149 w_ (box g29 26 #[r26_0,r26_1] :: oF 3 RP.int r26_0 x14.sizes :: oS 79 (oRule 3 23) r26_1 x14.rules :: box g7 26 #[S0,S0] :: oF 3 RP.int (f 44) ([0,5,1,2,3]) :: box g_0 136 #[v0_0,I x143.2] :: R):=Z
 obtain ⟨g171,cap_g171,hv172,_,_⟩:=Star.row 2 Z rfl hx145
 refine L_ixO (R:=(oRule 3 23)) (tb:=0) 0 rfl Tryz.underlying24 Tryz.sizeOf79 (hT149 1 42 rfl rfl) hv172 (by first | rfl | simp) rfl hx145 (fA (Int.toNat 0 * 5 + 0) fa_79_0 rfl rfl ?_)
 have Z:=Z.get 2 rfl
 refine L_stF (j:=0) (u:=I x143.1) (z:={ x145 with kind:=x143.1 }) rfl Tryz.sizeOf3 rfl rfl (hT149 4 45 rfl rfl) rfl hv172 Z hx145 fld_oRule_0 (fun w173 Z=>L_nil (sq (L_lda (cs:=[r26_0,r26_1]) rfl Tryz.isAgg26 Tryz.sizeOf26 ((hS149 5 rfl).trans rfl) (At.sub0 (Blk.at (Star.blkAt 1 Z rfl)) 0 2) rfl (L_staB (vs:=#[r26_0,r26_1]) (cs2:=#[r26_0,r26_1]) 3 rfl Tryz.sizeOf26 ((hS149 4 rfl).trans rfl) rfl rfl (ones_cons (one_len (Star.len 2 Z rfl)) (ones_cons (one_len (Star.len 0 Z rfl)) ones_nil)) Z rfl (by show 0 + 2≤2; decide) rfl (fun w175 Z=>nn (W_ret (retG1 (v1:=.agg #[r26_0,r26_1]) Tryz.results73 (resV_agg Tryz.isAgg26 Tryz.sizeOf26 ((hS149 4 rfl).trans rfl) (Star.blkAt 0 Z rfl) rfl) ?_)))))))
 have hG:=assertM_some hF
 have Z:=Z.get 3 rfl
 obtain ⟨H176,l177,Z,hz178⟩:=Star.freeze Z
 have hz178 : (rS 3 RP.int).rel H176 [r26_0] x14.sizes:=hz178
 have Z:=Z.get 1 rfl
 obtain ⟨H179,l180,Z,hz181⟩:=Star.freeze Z
 have hz181 : (rS 79 (rRule 3 23)).rel H179 [r26_1] (x14.rules.set (Int.toNat 0) ({ x145 with kind:=x143.1 })):=hz181
 have Z:=Z.get 3 rfl
 have Z:=Star.drop 1 Z rfl
 have Z:=Star.drop 1 Z rfl
 have Z:=Star.drop 1 Z rfl
 exact ⟨(({ sizes:=x14.sizes,rules:=(x14.rules.set (Int.toNat 0) ({ x145 with kind:=x143.1 })) } : Model),x143.2),hG,H179,(Le.trans (Le.trans hE149 l177) l180),r26_0,r26_1,rfl,(RP.mono _ hz178 l180),hz181,Z⟩
 have hF:=(ite_f hc133).symm.trans hF
 refine W_skip (sq (L_lda (cs:=[r26_0,r26_1]) rfl Tryz.isAgg26 Tryz.sizeOf26 rfl (At.sub0 (Blk.at (Star.blkAt 1 Z rfl)) 0 2) rfl (L_staB (vs:=#[r26_0,r26_1]) (cs2:=#[r26_0,r26_1]) 4 rfl Tryz.sizeOf26 rfl rfl rfl (ones_cons (one_len (Star.len 2 Z rfl)) (ones_cons (one_len (Star.len 3 Z rfl)) ones_nil)) Z rfl (by show 0 + 2≤2; decide) rfl (fun w183 Z=>nn (W_ret (retG1 (v1:=.agg #[r26_0,r26_1]) Tryz.results73 (resV_agg Tryz.isAgg26 Tryz.sizeOf26 rfl (Star.blkAt 0 Z rfl) rfl) ?_))))))
 have hG:=assertM_some hF
 have Z:=Z.get 3 rfl
 obtain ⟨H184,l185,Z,hz186⟩:=Star.freeze Z
 have hz186 : (rS 3 RP.int).rel H184 [r26_0] x14.sizes:=hz186
 have Z:=Z.get 3 rfl
 obtain ⟨H187,l188,Z,hz189⟩:=Star.freeze Z
 have hz189 : (rS 79 (rRule 3 23)).rel H187 [r26_1] x14.rules:=hz189
 have Z:=Z.get 1 rfl
 have Z:=Star.drop 1 Z rfl
 have Z:=Star.drop 1 Z rfl
 have Z:=Star.drop 1 Z rfl
 exact ⟨(x14,x37.2),hG,H187,(Le.trans l185 l188),r26_0,r26_1,rfl,(RP.mono _ hz186 l188),hz189,Z⟩
 have hF:=(ite_f hc132).symm.trans hF
 refine sq (L_eql rfl rfl rfl (aB rfl (nn (W_cond (b:=(x37.1 == 3)) rfl (fun hc190=>?_) (fun hc190=>?_)))))
 have hF:=(ite_t hc190).symm.trans hF
 refine W_seq ?_
 obtain ⟨b195,hb195,hF⟩:=bind_some hF
 obtain ⟨R196,hR196⟩:=exR fun f w_=>f 0 = Pt g_0∧f 4 = Pt g7∧f 5 = Pt g29∧f 6 = I (x14.rules.length : Int)∧f 62 = Bo b195∧Star H w_ (box g_0 136 #[v0_0,I x37.2] :: oF 3 RP.int r26_0 x14.sizes :: oS 79 (oRule 3 23) r26_1 x14.rules :: box g29 26 #[r26_0,r26_1] :: box g7 26 #[S0,S0] :: R)
 refine W_join R196 ?_ ?_
 refine W_region (mI rfl (L_gtr rfl rfl rfl (mB rfl (L_split (d:=52) (b:=decide ((x14.rules.length : Int) > 0)) rfl (fun hc197=>?_) (fun hc197=>?_)))))
 rw [ite_t hc197] at hb195
 obtain ⟨x191,hx191,hb195⟩:=bind_some hb195
 refine fA 1 fa_26_1 rfl rfl (ldB 1 Z Tryz.isAgg24 rfl rfl rfl (mI rfl (L_sub rfl rfl rfl ?_)))
 obtain ⟨g198,cap_g198,hv199,_,_⟩:=Star.row 3 Z rfl hx191
 refine L_ixO (R:=(oRule 3 23)) (tb:=0) 0 rfl Tryz.underlying24 Tryz.sizeOf79 rfl hv199 (by first | rfl | simp) rfl hx191 (fA (Int.toNat (i64 ((x14.rules.length : Int) - 1)) * 5 + 1) fa_79_1 rfl rfl ?_)
 obtain ⟨G200,cs200,hr200,hat200⟩:=Star.elt 3 Z rfl hv199 hx191
 obtain ⟨u200_1,u200_2,u200_4,rfl,ln200_1,ln200_2,ln200_4⟩:=oRule_lens hr200
 refine L_ld rfl Tryz.isAgg23 rfl (At.cell hat200 (j:=1) rfl) (L_len rfl Tryz.underlying23 rfl ln200_1 (L_gtr rfl rfl rfl (L_pick (v:=Bo b195) rfl rfl (congrArg Value.bool (so hb195)) (nn ?_))))
 have Z:=Z.gets [4,2,4,4,4] rfl
 have Z:=Star.drop 5 Z rfl
 exact rj hR196 ⟨rfl,rfl,rfl,rfl,rfl,Z⟩
 rw [ite_f hc197] at hb195
 refine ps rfl (ps rfl (ps rfl (ps rfl (ps rfl (ps rfl (ps rfl (ps rfl (ps rfl (L_pick (v:=Bo b195) rfl rfl (congrArg Value.bool (so hb195)) (nn ?_))))))))))
 have Z:=Z.gets [4,2,4,4,4] rfl
 have Z:=Star.drop 5 Z rfl
 exact rj hR196 ⟨rfl,rfl,rfl,rfl,rfl,Z⟩
 intro f w_ hR
 obtain ⟨sf0,sf4,sf5,sf6,sf62,Z⟩:=rk hR196 hR
 refine W_cond (b:=b195) sf62 (fun hc201=>?_) (fun hc201=>?_)
 have hF:=(ite_t hc201).symm.trans hF
 obtain ⟨x202,hx202,hF⟩:=bind_some hF
 obtain ⟨x218,hx218,hF⟩:=bind_some hF
 obtain ⟨x220,hx220,hF⟩:=bind_some hF
 obtain ⟨g225,cap_g225,hv226,_,_⟩:=Star.row 2 Z rfl hx202
 have Z:=Z.gets [2,1,4,4,4] rfl
 refine W_drawS 10 [isV (Pq g29 1),isV (r26_1),isV (I (x14.rules.length : Int)),isV (I (i64 ((x14.rules.length : Int) - 1))),isV (.pointer (some ⟨g225,Int.toNat (i64 ((x14.rules.length : Int) - 1)) * 5,none⟩)),isV (.pointer (some ⟨g225,Int.toNat (i64 ((x14.rules.length : Int) - 1)) * 5 + 1,none⟩)),anyF,isV (Pt g_0),anyF,isV (I x218.1)] [oF 3 RP.int r26_0 x14.sizes,box g29 26 #[r26_0,r26_1],box g7 26 #[S0,S0]] [.base (box g_0 136 #[v0_0,I x37.2]) (some 9),.base (oS 79 (oRule 3 23) r26_1 x14.rules) (some 6),.made 6 69 (fun v_=>packA (fun (u_ : Value × Value)=>[hole 79 (oRule 3 23) r26_1 x14.rules (Int.toNat (i64 ((x14.rules.length : Int) - 1))) [I x202.kind,v_,u_.1,I x202.bound,u_.2],oF 3 RP.int u_.1 x202.coefs,own (OR.ownS 23 (OR.ownS 3 (OR.frz RP.int))) [u_.2] x202.rows])) none,.made 6 69 (fun v_=>oF 3 RP.int v_ x202.vars) none,.made 8 71 (fun v_=>oF 3 RP.int v_ ([(-1),5,1,0])) none,.made 9 72 (fun v_=>box g_0 136 #[v0_0,I x218.2]) none] (R) [([],[]),([],[]),([],[]),([],[]),([1],[1]),([],[]),([1],[2,3]),([],[]),([],[4]),([0,4],[4,5])] (S:=[(none,[],some 9),(none,[],some 6),(some 6,[69],none),(some 6,[69],none),(some 8,[71],none),(some 9,[72],none)]) Tryz_mix (by kernel_rfl) rfl (by kernel_rfl) (amF_cons (mono_V _) (amF_cons (mono_V _) (amF_cons (mono_V _) (amF_cons (mono_V _) (amF_cons (mono_V _) (amF_cons (mono_V _) (amF_cons (mono_any) (amF_cons (mono_V _) (amF_cons (mono_any) (amF_cons (mono_V _) amF_nil)))))))))) Z ?_ (fun f w_ H224 hS224 hE224 hT224 Z=>?_)
 refine opsS_cons (fun f w_ _ _ s _ _ Z=>fA 1 fa_26_1 ((s 5 rfl).trans sf5) rfl (nO rfl rfl Z)) (opsS_cons (fun f w_ _ _ _ _ p Z=>ldB 1 Z Tryz.isAgg24 (p 0 63 rfl rfl) rfl rfl (nO rfl rfl Z)) (opsS_cons (fun f w_ _ _ s _ _ Z=>mF ((s 6 rfl).trans sf6) rfl (nO rfl rfl Z)) (opsS_cons (fun f w_ _ _ _ _ p Z=>L_sub rfl (p 2 65 rfl rfl) rfl (nO rfl rfl Z)) (opsS_cons ?_ ?_))))
 intro f w_ H224 X224 hS224 hE224 hP224 Z
 have Z : Star H224 w_ (oF 3 RP.int r26_0 x14.sizes :: box g29 26 #[r26_0,r26_1] :: box g7 26 #[S0,S0] :: oS 79 (oRule 3 23) r26_1 x14.rules :: X224):=Z
 refine L_ixO (R:=(oRule 3 23)) (tb:=0) 0 rfl Tryz.underlying24 Tryz.sizeOf79 (hP224 1 64 rfl rfl) hv226 (by first | rfl | simp) (hP224 3 66 rfl rfl) hx202 (L_nil ⟨rfl,_,_,rfl,Le.refl _,fun _ _=>rfl,Z⟩)
 refine opsS_cons (fun f w_ _ _ _ _ p Z=>fA (Int.toNat (i64 ((x14.rules.length : Int) - 1)) * 5 + 1) fa_79_1 (p 4 67 rfl rfl) rfl (nO rfl rfl Z)) (opsS_cons ?_ ?_)
 intro f w_ H224 X224 hS224 hE224 hP224 Z
 have Z : Star H224 w_ (oF 3 RP.int r26_0 x14.sizes :: box g29 26 #[r26_0,r26_1] :: box g7 26 #[S0,S0] :: oS 79 (oRule 3 23) r26_1 x14.rules :: X224):=Z
 have Z:=Z.get 3 rfl
 obtain ⟨cs241,Z,hat241⟩:=Star.focus Z hx202
 have hat241:=hat241 _ _ _ hv226
 obtain ⟨u241_0,u241_1,u241_2,rfl,Z⟩:=oRule_open Z
 refine L_ld rfl Tryz.isAgg23 (hP224 5 68 rfl rfl) (At.cell hat241 (j:=1) rfl) ?_
 have Z:=Z.gets [2,2,3] rfl
 have Z:=Star.pack (fun (u_ : Value × Value)=>[hole 79 (oRule 3 23) r26_1 x14.rules (Int.toNat (i64 ((x14.rules.length : Int) - 1))) [I x202.kind,u241_0,u_.1,I x202.bound,u_.2],oF 3 RP.int u_.1 x202.coefs,own (OR.ownS 23 (OR.ownS 3 (OR.frz RP.int))) [u_.2] x202.rows]) (u241_1,u241_2) Z
 have Z:=Z.gets [1,1,4,4,4] rfl
 exact L_nil ⟨rfl,_,_,rfl,Le.refl _,fun _ _=>trivial,Z⟩
 refine opsS_cons (fun f w_ _ _ s _ _ Z=>mF ((s 0 rfl).trans sf0) rfl (nO rfl rfl Z)) (opsS_cons ?_ ?_)
 intro f w_ H224 X224 hS224 hE224 hP224 Z
 refine L_bs rfl (parts4 rfl rfl rfl rfl) (bs_23_4_0_0_0_0 (I (-1)) (I 5) (I 1) (I 0) rfl rfl rfl rfl) Z (fun g245 w246 Z=>?_)
 have Z:=litInts [(-1),5,1,0] 4 Z rfl rfl (by decide)
 have Z:=Z.gets [3,3,3] rfl
 exact L_nil ⟨rfl,_,_,rfl,Le.refl _,fun _ _=>trivial,Z⟩
 refine opsS_cons ?_ ?_
 intro f w_ H224 X224 hS224 hE224 hP224 Z
 have Z : Star H224 w_ (oF 3 RP.int r26_0 x14.sizes :: box g29 26 #[r26_0,r26_1] :: box g7 26 #[S0,S0] :: box g_0 136 #[v0_0,I x37.2] :: oF 3 RP.int (f 71) ([(-1),5,1,0]) :: X224):=Z
 have Z:=Z.get 3 rfl
 obtain ⟨H249b,l250,s251,z252,k253⟩:=Z.lend [_]
 have hb254 : (rS 3 RP.int).rel H249b [(f 71)] ([(-1),5,1,0]):=fz_own 3 z252 rfl
 refine L_call rfl Tryz.call75 (ops2 (hP224 7 70 rfl rfl) rfl) (s_l17Rd_num_c (r_:=({ b:=r_.b,p:=x37.2 } : Rd)) (list:=[(-1),5,1,0]) s251 (RP.mono _ h0_0 (Le.trans hE224 l250)) hb254 hx218) ?_
 rintro _ w255 ⟨rfl,Z⟩
 have Z:=k253 Z (cb c0)
 have Z:=Z.gets [4,4,4,4] rfl
 exact L_nil ⟨rfl,_,_,rfl,Le.refl _,fun _ _=>rfl,Z⟩
 exact opsS_nil
 have Z : Star H224 w_ (oF 3 RP.int r26_0 x14.sizes :: box g29 26 #[r26_0,r26_1] :: box g7 26 #[S0,S0] :: packA (fun (u_ : Value × Value)=>[hole 79 (oRule 3 23) r26_1 x14.rules (Int.toNat (i64 ((x14.rules.length : Int) - 1))) [I x202.kind,(f 69),u_.1,I x202.bound,u_.2],oF 3 RP.int u_.1 x202.coefs,own (OR.ownS 23 (OR.ownS 3 (OR.frz RP.int))) [u_.2] x202.rows]) :: oF 3 RP.int (f 69) x202.vars :: oF 3 RP.int (f 71) ([(-1),5,1,0]) :: box g_0 136 #[v0_0,I x218.2] :: R):=Z
 have Z:=Z.get 3 rfl
 obtain ⟨⟨u256_0,u257_1⟩,Z⟩:=Star.unpack Z
 have Z : Star H224 w_ (hole 79 (oRule 3 23) r26_1 x14.rules (Int.toNat (i64 ((x14.rules.length : Int) - 1))) [I x202.kind,(f 69),u256_0,I x202.bound,u257_1] :: oF 3 RP.int u256_0 x202.coefs :: own (OR.ownS 23 (OR.ownS 3 (OR.frz RP.int))) [u257_1] x202.rows :: oF 3 RP.int r26_0 x14.sizes :: box g29 26 #[r26_0,r26_1] :: box g7 26 #[S0,S0] :: oF 3 RP.int (f 69) x202.vars :: oF 3 RP.int (f 71) ([(-1),5,1,0]) :: box g_0 136 #[v0_0,I x218.2] :: R):=Z
 obtain ⟨g259,cap_g259,hv260,_,_⟩:=Star.row 6 Z rfl hx220
 refine L_ixO (R:=(OR.frz RP.int)) (tb:=0) 0 rfl Tryz.underlying23 Tryz.sizeOf3 rfl hv260 (by first | rfl | simp) rfl hx220 ?_
 have Z:=Star.addF (r:=RP.int) (cs:=[I x218.1]) (x:=x218.1) Z rfl
 have Z:=Z.gets [7,1] rfl
 refine L_stE1 (u:=I x218.1) rfl Tryz.sizeOf3 rfl rfl (hT224 9 72 rfl rfl) hv260 Z hx220 (fun w261 Z=>?_)
 refine L_nil (W_seq ?_)
 have Z:=Z.gets [1,3,3,3] rfl
 have Z:=oRule_close (r:=({ kind:=x202.kind,vars:=(x202.vars.set (Int.toNat 0) x218.1),coefs:=x202.coefs,bound:=x202.bound,rows:=x202.rows } : Rule)) Z
 have Z:=Star.unfocus (x':=({ kind:=x202.kind,vars:=(x202.vars.set (Int.toNat 0) x218.1),coefs:=x202.coefs,bound:=x202.bound,rows:=x202.rows } : Rule)) (idx_some hx202).2.2 Z
 refine W_region (L_lda (cs:=[r26_0,r26_1]) rfl Tryz.isAgg26 Tryz.sizeOf26 ((hS224 5 rfl).trans sf5) (At.sub0 (Blk.at (Star.blkAt 2 Z rfl)) 0 2) rfl (L_staB (vs:=#[r26_0,r26_1]) (cs2:=#[r26_0,r26_1]) 3 rfl Tryz.sizeOf26 ((hS224 4 rfl).trans sf4) rfl rfl (ones_cons (one_len (Star.len 1 Z rfl)) (ones_cons (one_len (Star.len 0 Z rfl)) ones_nil)) Z rfl (by show 0 + 2≤2; decide) rfl (fun w263 Z=>nn (W_ret (retG1 (v1:=.agg #[r26_0,r26_1]) Tryz.results73 (resV_agg Tryz.isAgg26 Tryz.sizeOf26 ((hS224 4 rfl).trans sf4) (Star.blkAt 0 Z rfl) rfl) ?_)))))
 have hG:=assertM_some hF
 have Z:=Z.get 2 rfl
 obtain ⟨H264,l265,Z,hz266⟩:=Star.freeze Z
 have hz266 : (rS 3 RP.int).rel H264 [r26_0] x14.sizes:=hz266
 have Z:=Z.get 1 rfl
 obtain ⟨H267,l268,Z,hz269⟩:=Star.freeze Z
 have hz269 : (rS 79 (rRule 3 23)).rel H267 [r26_1] (x14.rules.set (Int.toNat (i64 ((x14.rules.length : Int) - 1))) ({ kind:=x202.kind,vars:=(x202.vars.set (Int.toNat 0) x218.1),coefs:=x202.coefs,bound:=x202.bound,rows:=x202.rows } : Rule)):=hz269
 have Z:=Z.get 3 rfl
 have Z:=Star.drop 1 Z rfl
 have Z:=Star.drop 1 Z rfl
 have Z:=Star.drop 1 Z rfl
 exact ⟨(({ sizes:=x14.sizes,rules:=(x14.rules.set (Int.toNat (i64 ((x14.rules.length : Int) - 1))) ({ kind:=x202.kind,vars:=(x202.vars.set (Int.toNat 0) x218.1),coefs:=x202.coefs,bound:=x202.bound,rows:=x202.rows } : Rule)) } : Model),x218.2),hG,H267,(Le.trans (Le.trans hE224 l265) l268),r26_0,r26_1,rfl,(RP.mono _ hz266 l268),hz269,Z⟩
 have hF:=(ite_f hc201).symm.trans hF
 refine W_skip (sq (L_lda (cs:=[r26_0,r26_1]) rfl Tryz.isAgg26 Tryz.sizeOf26 sf5 (At.sub0 (Blk.at (Star.blkAt 3 Z rfl)) 0 2) rfl (L_staB (vs:=#[r26_0,r26_1]) (cs2:=#[r26_0,r26_1]) 4 rfl Tryz.sizeOf26 sf4 rfl rfl (ones_cons (one_len (Star.len 1 Z rfl)) (ones_cons (one_len (Star.len 2 Z rfl)) ones_nil)) Z rfl (by show 0 + 2≤2; decide) rfl (fun w271 Z=>nn (W_ret (retG1 (v1:=.agg #[r26_0,r26_1]) Tryz.results73 (resV_agg Tryz.isAgg26 Tryz.sizeOf26 sf4 (Star.blkAt 0 Z rfl) rfl) ?_))))))
 have hG:=assertM_some hF
 have Z:=Z.get 2 rfl
 obtain ⟨H272,l273,Z,hz274⟩:=Star.freeze Z
 have hz274 : (rS 3 RP.int).rel H272 [r26_0] x14.sizes:=hz274
 have Z:=Z.get 2 rfl
 obtain ⟨H275,l276,Z,hz277⟩:=Star.freeze Z
 have hz277 : (rS 79 (rRule 3 23)).rel H275 [r26_1] x14.rules:=hz277
 have Z:=Z.get 1 rfl
 have Z:=Star.drop 1 Z rfl
 have Z:=Star.drop 1 Z rfl
 exact ⟨(x14,x37.2),hG,H275,(Le.trans l273 l276),r26_0,r26_1,rfl,(RP.mono _ hz274 l276),hz277,Z⟩
 have hF:=(ite_f hc190).symm.trans hF
 refine sq (L_eql rfl rfl rfl (aB rfl (nn (W_cond (b:=(x37.1 == 4)) rfl (fun hc278=>?_) (fun hc278=>?_)))))
 have hF:=(ite_t hc278).symm.trans hF
 refine sq (mI rfl (L_gtr rfl rfl rfl (nn (W_cond (b:=decide ((x14.rules.length : Int) > 0)) rfl (fun hc279=>?_) (fun hc279=>?_)))))
 have hF:=(ite_t hc279).symm.trans hF
 obtain ⟨x289,hx289,hF⟩:=bind_some hF
 obtain ⟨x291,hx291,hF⟩:=bind_some hF
 have Z:=Star.drop 5 Z rfl
 have Z:=Z.gets [4,4,4,4] rfl
 refine W_drawS 5 [isV (Pq g29 1),isV (r26_1),isV (Pt g_0),anyF,isV (I x289.1)] [box g29 26 #[r26_0,r26_1],oF 3 RP.int r26_0 x14.sizes,oS 79 (oRule 3 23) r26_1 x14.rules,box g7 26 #[S0,S0]] [.base (box g_0 136 #[v0_0,I x37.2]) (some 4),.made 3 81 (fun v_=>oF 3 RP.int v_ ([1001,(-1001),1000])) none,.made 4 82 (fun v_=>box g_0 136 #[v0_0,I x289.2]) none] (R) [([],[]),([],[]),([],[]),([],[1]),([0,1],[1,2])] (S:=[(none,[],some 4),(some 3,[81],none),(some 4,[82],none)]) Tryz_mix (by kernel_rfl) rfl (by kernel_rfl) (amF_cons (mono_V _) (amF_cons (mono_V _) (amF_cons (mono_V _) (amF_cons (mono_any) (amF_cons (mono_V _) amF_nil))))) Z ?_ (fun f w_ H295 hS295 hE295 hT295 Z=>?_)
 refine opsS_cons (fun f w_ _ _ s _ _ Z=>fA 1 fa_26_1 ((s 5 rfl).trans rfl) rfl (nO rfl rfl Z)) (opsS_cons (fun f w_ _ _ _ _ p Z=>ldB 0 Z Tryz.isAgg24 (p 0 78 rfl rfl) rfl rfl (nO rfl rfl Z)) (opsS_cons (fun f w_ _ _ s _ _ Z=>mF ((s 0 rfl).trans rfl) rfl (nO rfl rfl Z)) (opsS_cons ?_ ?_)))
 intro f w_ H295 X295 hS295 hE295 hP295 Z
 refine L_bs rfl (parts3 rfl rfl rfl) (bs_23_3_0_0_0 (I 1001) (I (-1001)) (I 1000) rfl rfl rfl) Z (fun g306 w307 Z=>?_)
 have Z:=litInts [1001,(-1001),1000] 3 Z rfl rfl (by decide)
 have Z:=Z.gets [4,4,4,4] rfl
 exact L_nil ⟨rfl,_,_,rfl,Le.refl _,fun _ _=>trivial,Z⟩
 refine opsS_cons ?_ ?_
 intro f w_ H295 X295 hS295 hE295 hP295 Z
 have Z : Star H295 w_ (box g29 26 #[r26_0,r26_1] :: oF 3 RP.int r26_0 x14.sizes :: oS 79 (oRule 3 23) r26_1 x14.rules :: box g7 26 #[S0,S0] :: box g_0 136 #[v0_0,I x37.2] :: oF 3 RP.int (f 81) ([1001,(-1001),1000]) :: X295):=Z
 have Z:=Z.get 4 rfl
 obtain ⟨H310b,l311,s312,z313,k314⟩:=Z.lend [_]
 have hb315 : (rS 3 RP.int).rel H310b [(f 81)] ([1001,(-1001),1000]):=fz_own 4 z313 rfl
 refine L_call rfl Tryz.call75 (ops2 (hP295 2 80 rfl rfl) rfl) (s_l17Rd_num_c (r_:=({ b:=r_.b,p:=x37.2 } : Rd)) (list:=[1001,(-1001),1000]) s312 (RP.mono _ h0_0 (Le.trans hE295 l311)) hb315 hx289) ?_
 rintro _ w316 ⟨rfl,Z⟩
 have Z:=k314 Z (cb c0)
 have Z:=Z.gets [5,5,5,5,5] rfl
 exact L_nil ⟨rfl,_,_,rfl,Le.refl _,fun _ _=>rfl,Z⟩
 exact opsS_nil
 have Z : Star H295 w_ (box g29 26 #[r26_0,r26_1] :: oF 3 RP.int r26_0 x14.sizes :: oS 79 (oRule 3 23) r26_1 x14.rules :: box g7 26 #[S0,S0] :: oF 3 RP.int (f 81) ([1001,(-1001),1000]) :: box g_0 136 #[v0_0,I x289.2] :: R):=Z
 obtain ⟨g317,cap_g317,hv318,_,_⟩:=Star.row 2 Z rfl hx291
 refine L_ixO (R:=(oRule 3 23)) (tb:=0) 0 rfl Tryz.underlying24 Tryz.sizeOf79 (hT295 1 79 rfl rfl) hv318 (by first | rfl | simp) rfl hx291 (fA (Int.toNat 0 * 5 + 3) fa_79_3 rfl rfl ?_)
 have Z:=Z.get 2 rfl
 refine L_stF (j:=3) (u:=I x289.1) (z:={ x291 with bound:=x289.1 }) rfl Tryz.sizeOf3 rfl rfl (hT295 4 82 rfl rfl) rfl hv318 Z hx291 fld_oRule_3 (fun w319 Z=>L_nil (sq (L_lda (cs:=[r26_0,r26_1]) rfl Tryz.isAgg26 Tryz.sizeOf26 ((hS295 5 rfl).trans rfl) (At.sub0 (Blk.at (Star.blkAt 1 Z rfl)) 0 2) rfl (L_staB (vs:=#[r26_0,r26_1]) (cs2:=#[r26_0,r26_1]) 3 rfl Tryz.sizeOf26 ((hS295 4 rfl).trans rfl) rfl rfl (ones_cons (one_len (Star.len 2 Z rfl)) (ones_cons (one_len (Star.len 0 Z rfl)) ones_nil)) Z rfl (by show 0 + 2≤2; decide) rfl (fun w321 Z=>nn (W_ret (retG1 (v1:=.agg #[r26_0,r26_1]) Tryz.results73 (resV_agg Tryz.isAgg26 Tryz.sizeOf26 ((hS295 4 rfl).trans rfl) (Star.blkAt 0 Z rfl) rfl) ?_)))))))
 have hG:=assertM_some hF
 have Z:=Z.get 3 rfl
 obtain ⟨H322,l323,Z,hz324⟩:=Star.freeze Z
 have hz324 : (rS 3 RP.int).rel H322 [r26_0] x14.sizes:=hz324
 have Z:=Z.get 1 rfl
 obtain ⟨H325,l326,Z,hz327⟩:=Star.freeze Z
 have hz327 : (rS 79 (rRule 3 23)).rel H325 [r26_1] (x14.rules.set (Int.toNat 0) ({ x291 with bound:=x289.1 })):=hz327
 have Z:=Z.get 3 rfl
 have Z:=Star.drop 1 Z rfl
 have Z:=Star.drop 1 Z rfl
 have Z:=Star.drop 1 Z rfl
 exact ⟨(({ sizes:=x14.sizes,rules:=(x14.rules.set (Int.toNat 0) ({ x291 with bound:=x289.1 })) } : Model),x289.2),hG,H325,(Le.trans (Le.trans hE295 l323) l326),r26_0,r26_1,rfl,(RP.mono _ hz324 l326),hz327,Z⟩
 have hF:=(ite_f hc279).symm.trans hF
 refine W_skip (sq (L_lda (cs:=[r26_0,r26_1]) rfl Tryz.isAgg26 Tryz.sizeOf26 rfl (At.sub0 (Blk.at (Star.blkAt 1 Z rfl)) 0 2) rfl (L_staB (vs:=#[r26_0,r26_1]) (cs2:=#[r26_0,r26_1]) 4 rfl Tryz.sizeOf26 rfl rfl rfl (ones_cons (one_len (Star.len 2 Z rfl)) (ones_cons (one_len (Star.len 3 Z rfl)) ones_nil)) Z rfl (by show 0 + 2≤2; decide) rfl (fun w329 Z=>nn (W_ret (retG1 (v1:=.agg #[r26_0,r26_1]) Tryz.results73 (resV_agg Tryz.isAgg26 Tryz.sizeOf26 rfl (Star.blkAt 0 Z rfl) rfl) ?_))))))
 have hG:=assertM_some hF
 have Z:=Z.get 3 rfl
 obtain ⟨H330,l331,Z,hz332⟩:=Star.freeze Z
 have hz332 : (rS 3 RP.int).rel H330 [r26_0] x14.sizes:=hz332
 have Z:=Z.get 3 rfl
 obtain ⟨H333,l334,Z,hz335⟩:=Star.freeze Z
 have hz335 : (rS 79 (rRule 3 23)).rel H333 [r26_1] x14.rules:=hz335
 have Z:=Z.get 1 rfl
 have Z:=Star.drop 1 Z rfl
 have Z:=Star.drop 1 Z rfl
 have Z:=Star.drop 1 Z rfl
 exact ⟨(x14,x37.2),hG,H333,(Le.trans l331 l334),r26_0,r26_1,rfl,(RP.mono _ hz332 l334),hz335,Z⟩
 have hF:=(ite_f hc278).symm.trans hF
 refine sq (L_eql rfl rfl rfl (aB rfl (nn (W_cond (b:=(x37.1 == 5)) rfl (fun hc336=>?_) (fun hc336=>?_)))))
 have hF:=(ite_t hc336).symm.trans hF
 refine sq (L_bld rfl (parts0 ) (bld_26_  ) (L_staB (vs:=#[S0,S0]) (cs2:=#[S0,S0]) 4 rfl Tryz.sizeOf26 rfl rfl rfl (ones_cons rfl (ones_cons rfl ones_nil)) Z rfl (by show 0 + 2≤2; decide) rfl (fun w338 Z=>nn (W_ret (retG1 (v1:=.agg #[S0,S0]) Tryz.results73 (resV_agg Tryz.isAgg26 Tryz.sizeOf26 rfl (Star.blkAt 0 Z rfl) rfl) ?_)))))
 have hG:=assertM_some hF
 have Z:=Z.get 1 rfl
 have Z:=Star.drop 1 Z rfl
 have Z:=Star.drop 1 Z rfl
 have Z:=Star.drop 1 Z rfl
 have Z:=Star.drop 1 Z rfl
 have Z:=Star.drop 1 Z rfl
 exact ⟨(({ sizes:=[],rules:=[] } : Model),x37.2),hG,H,(Le.refl _),S0,S0,rfl,(rel_nil _ _ _),(rel_nil _ _ _),Z⟩
 have hF:=(ite_f hc336).symm.trans hF
 refine W_skip (sq (L_lda (cs:=[r26_0,r26_1]) rfl Tryz.isAgg26 Tryz.sizeOf26 rfl (At.sub0 (Blk.at (Star.blkAt 1 Z rfl)) 0 2) rfl (L_staB (vs:=#[r26_0,r26_1]) (cs2:=#[r26_0,r26_1]) 4 rfl Tryz.sizeOf26 rfl rfl rfl (ones_cons (one_len (Star.len 2 Z rfl)) (ones_cons (one_len (Star.len 3 Z rfl)) ones_nil)) Z rfl (by show 0 + 2≤2; decide) rfl (fun w340 Z=>nn (W_ret (retG1 (v1:=.agg #[r26_0,r26_1]) Tryz.results73 (resV_agg Tryz.isAgg26 Tryz.sizeOf26 rfl (Star.blkAt 0 Z rfl) rfl) ?_))))))
 have hG:=assertM_some hF
 have Z:=Z.get 3 rfl
 obtain ⟨H341,l342,Z,hz343⟩:=Star.freeze Z
 have hz343 : (rS 3 RP.int).rel H341 [r26_0] x14.sizes:=hz343
 have Z:=Z.get 3 rfl
 obtain ⟨H344,l345,Z,hz346⟩:=Star.freeze Z
 have hz346 : (rS 79 (rRule 3 23)).rel H344 [r26_1] x14.rules:=hz346
 have Z:=Z.get 1 rfl
 have Z:=Star.drop 1 Z rfl
 have Z:=Star.drop 1 Z rfl
 have Z:=Star.drop 1 Z rfl
 exact ⟨(x14,x37.2),hG,H344,(Le.trans l342 l345),r26_0,r26_1,rfl,(RP.mono _ hz343 l345),hz346,Z⟩
theorem s_l6Some_c {fu : Nat} {r_ : Rd} {m : Model} {least : Int} {g_0 : Nat} {v0_0 : Value} {v1_0 : Value} {v1_1 : Value} {H : FH} {w : World} (Z : Star H w [box g_0 136 #[v0_0,I r_.p]]) (h0_0 : (rS 5 RP.u8).rel H [v0_0] r_.b) (h1_0 : (rS 3 RP.int).rel H [v1_0] m.sizes) (h1_1 : (rS 79 (rRule 3 23)).rel H [v1_1] m.rules) {r : (List Int) × Int} (hF : s_l6Some fu r_ m least = some r) :
 C Tryz.prog 164 #[Pt g_0,.agg #[v1_0,v1_1],I least] w fun v w'=>∃ (u1 : Value),v = u1∧Star H w' [oF 3 RP.int u1 r.1,box g_0 136 #[v0_0,I r.2]]:=by
 unfold s_l6Some at hF
 refine C_enter Tryz.func164 rfl Tryz.ntmps164 rfl (sq (L_box (v:=.agg #[v1_0,v1_1]) (cs:=#[v1_0,v1_1]) rfl rfl rfl Z (fun g3 w4 Z=>aV S0 rfl (ns (L_bs rfl parts0 (bs_23_0  ) Z (fun g8 w9 Z=>?_))))))
 have Z:=Star.mkRow (R:=(OR.frz RP.int)) [] [] 0 Z rfl rfl rfl (by decide)
 refine aV (Sl g8 0 0) rfl (nq (sq (aI rfl (nn ?_))))
 have hlen15 : List.length m.sizes≤9223372036854775807:=len_le (slice_len h1_0)
 obtain ⟨j15,hL15,hF⟩:=bind_some hF
 obtain ⟨R15,hR15⟩:=exR fun f w_=>∃ out_12 : List Int,∃ g_0_1_14 : Int,∃ v12_out : Value,j15 = .nx (out_12,g_0_1_14)∧f 0 = Pt g_0∧f 2 = I least∧f 4 = Pt g3∧f 7 = v12_out∧Star H w_ ([oF 3 RP.int v12_out out_12,box g_0 136 #[v0_0,I g_0_1_14],box g3 26 #[v1_0,v1_1]])
 refine W_join R15 ?_ ?_
 refine W_block ?_
 obtain ⟨I15,hI15⟩:=exI fun n f w_=>∃ i_11 : Nat,∃ suf15 : List Int,∃ out_12 : List Int,∃ g_0_1_14 : Int,∃ v12_out : Value,n = suf15.length∧List.drop i_11 m.sizes = suf15∧i_11 + suf15.length = m.sizes.length∧rangeL (s_l6Some_b1 r_) suf15 i_11 (out_12,g_0_1_14) = some j15∧f 0 = Pt g_0∧f 2 = I least∧f 4 = Pt g3∧f 7 = v12_out∧f 8 = I i_11∧Star H w_ ([oF 3 RP.int v12_out out_12,box g_0 136 #[v0_0,I g_0_1_14],box g3 26 #[v1_0,v1_1]])
 have Z:=Z.gets [1,2,2] rfl
 refine W_loop I15 (n:=m.sizes.length) ?_ ?_
 exact ij hI15 ⟨0,m.sizes,[],r_.p,(Sl g8 0 0),rfl,rfl,Nat.zero_add _,hL15,rfl,rfl,rfl,rfl,rfl,Z⟩
 intro n15 f w_ hI
 obtain ⟨i_11,suf15,out_12,g_0_1_14,v12_out,rfl,hd15,hl15,hL15,sf0,sf2,sf4,sf7,sf8,Z⟩:=ik hI15 hI
 refine W_seq (sq (mF sf8 rfl (fA 0 fa_26_0 sf4 rfl (ldB 2 Z Tryz.isAgg23 rfl rfl rfl (L_len rfl Tryz.underlying23 rfl (slice_len h1_0) (L_lss rfl rfl rfl (nn (W_cond (b:=decide ((i_11 : Int) < (m.sizes.length : Int))) rfl (fun hc16=>?_) (fun hc16=>?_)))))))))
 have hlt15:=of_decide_eq_true hc16
 rcases suf15 with _ | ⟨x_15,rest15⟩
 exact absurd hlt15 (by simp at hl15; omega)
 obtain ⟨o15,hB15,hL15⟩:=range_cons hL15
 rw [s_l6Some_b1] at hB15
 have hix15:=drop_idx hd15
 refine W_skip (W_seq (W_block (W_seq ?_)))
 obtain ⟨x22,hx22,hB15⟩:=bind_some hB15
 refine W_region (mF sf0 rfl ?_)
 have Z:=Z.get 1 rfl
 obtain ⟨H24b,l25,s26,z27,k28⟩:=Z.lend [_]
 refine L_call rfl Tryz.call127 (ops2 rfl rfl) (s_l17Rd_pick_c (r_:=({ b:=r_.b,p:=g_0_1_14 } : Rd)) (n_:=3) s26 (RP.mono _ h0_0 l25) hx22) ?_
 rintro _ w29 ⟨rfl,Z⟩
 have Z:=k28 Z (cb c0)
 refine L_gtr rfl rfl rfl (nn ?_)
 obtain ⟨out_30,hA32,hB15⟩:=bind_some hB15
 obtain ⟨R32,hR32⟩:=exR fun f w_=>∃ v30_out : Value,f 0 = Pt g_0∧f 2 = I least∧f 4 = Pt g3∧f 7 = v30_out∧f 8 = I i_11∧Star H w_ ([oF 3 RP.int v30_out out_30,box g_0 136 #[v0_0,I x22.2],box g3 26 #[v1_0,v1_1]])
 refine W_join R32 ?_ ?_
 refine W_cond (b:=decide (x22.1 > 0)) rfl (fun hc33=>?_) (fun hc33=>?_)
 have hA32:=(ite_t hc33).symm.trans hA32
 obtain ⟨x37,hx37,hA32⟩:=bind_some hA32
 refine W_region (mF sf7 rfl (mF sf8 rfl (L_bs rfl (parts1 rfl) (bs_23_1_0 (I i_11) rfl) Z (fun g41 w42 Z=>?_))))
 have Z:=Star.addF (r:=RP.int) (cs:=[I i_11]) (x:=(i_11 : Int)) Z rfl
 have Z:=Star.mkRow (R:=(OR.frz RP.int)) [([I i_11],(i_11 : Int))] [(i_11 : Int)] 1 Z rfl rfl rfl (by decide)
 have Z:=Z.get 2 rfl
 refine L_appM (v:=v12_out) (u:=(Sl g41 1 1)) rfl et_23 rfl rfl Z hx37 (fun v44 w45 Z=>aV v44 rfl (nn ?_))
 obtain rfl:=so hA32
 exact rj hR32 ⟨v44,sf0,sf2,sf4,rfl,sf8,Z⟩
 have hA32:=(ite_f hc33).symm.trans hA32
 refine W_skip ?_
 obtain rfl:=so hA32
 have Z:=Z.gets [2,1,2] rfl
 exact rj hR32 ⟨v12_out,sf0,sf2,sf4,sf7,sf8,Z⟩
 intro f w_ hR
 obtain ⟨v30_out,sf0,sf2,sf4,sf7,sf8,Z⟩:=rk hR32 hR
 refine W_region (mF sf8 rfl (L_add rfl rfl rfl (aI rfl (nn ?_))))
 obtain rfl:=so hB15
 show ∃ m,m < _∧I15 m _ _
 refine ⟨rest15.length,by simp,?_⟩
 exact ij hI15 ⟨i_11 + 1,rest15,out_30,x22.2,v30_out,rfl,drop_next hd15,by simp at hl15; omega,hL15,sf0,sf2,sf4,sf7,(Eq.trans rfl (congrArg (Value.int .i64) (i64_succ (n:=m.sizes.length) (by simp at hl15; omega) hlen15))),Z⟩
 rcases suf15 with _ | ⟨_,_⟩
 obtain rfl:=range_nil hL15
 refine W_exit (rj hR15 ⟨out_12,g_0_1_14,v12_out,rfl,sf0,sf2,sf4,sf7,Z⟩)
 exact absurd (of_decide_eq_false hc16) (by simp at hl15; omega)
 intro f w_ hR
 obtain ⟨out_12,g_0_1_14,v12_out,rfl,sf0,sf2,sf4,sf7,Z⟩:=rk hR15 hR
 refine W_seq (sq (aI rfl (nn ?_)))
 obtain ⟨j53,hL53,hF⟩:=bind_some hF
 obtain ⟨R53,hR53⟩:=exR fun f w_=>∃ out_50 : List Int,∃ v_52 : Int,∃ v50_out : Value,j53 = .nx (out_50,v_52)∧f 0 = Pt g_0∧f 2 = I least∧f 7 = v50_out∧Star H w_ ([oF 3 RP.int v50_out out_50,box g_0 136 #[v0_0,I g_0_1_14]])
 refine W_join R53 ?_ ?_
 refine W_block ?_
 obtain ⟨I53,hI53⟩:=exI fun n f w_=>∃ out_50 : List Int,∃ v_52 : Int,∃ v50_out : Value,whileL (s_l6Some_b2 m least) n (out_50,v_52) = some j53∧f 0 = Pt g_0∧f 2 = I least∧f 4 = Pt g3∧f 7 = v50_out∧f 9 = I v_52∧Star H w_ ([oF 3 RP.int v50_out out_50,box g_0 136 #[v0_0,I g_0_1_14],box g3 26 #[v1_0,v1_1]])
 refine W_loop I53 (n:=fu) ?_ ?_
 exact ij hI53 ⟨out_12,0,v12_out,hL53,sf0,sf2,sf4,sf7,rfl,Z⟩
 intro n53 f w_ hI
 obtain ⟨out_50,v_52,v50_out,hL53,sf0,sf2,sf4,sf7,sf9,Z⟩:=ik hI53 hI
 rcases n53 with _ | n53
 exact (while_zero hL53).elim
 obtain ⟨o53,hB53,hL53⟩:=while_succ hL53
 rw [s_l6Some_b2] at hB53
 refine W_seq (W_seq ?_)
 obtain ⟨R54,hR54⟩:=exR fun f w_=>f 0 = Pt g_0∧f 2 = I least∧f 4 = Pt g3∧f 7 = v50_out∧f 9 = I v_52∧f 37 = Bo ((decide ((out_50.length : Int) < least)) && (decide (v_52 < (m.sizes.length : Int))))∧Star H w_ ([oF 3 RP.int v50_out out_50,box g_0 136 #[v0_0,I g_0_1_14],box g3 26 #[v1_0,v1_1]])
 refine W_join R54 ?_ ?_
 refine W_region (mF sf7 rfl (L_len rfl Tryz.underlying23 rfl (Star.len 0 Z rfl) (mF sf2 rfl (L_lss rfl rfl rfl (mB rfl (L_split (d:=31) (b:=decide ((out_50.length : Int) < least)) rfl (fun hc55=>?_) (fun hc55=>?_)))))))
 refine mF sf9 rfl (fA 0 fa_26_0 sf4 rfl (ldB 2 Z Tryz.isAgg23 rfl rfl rfl (L_len rfl Tryz.underlying23 rfl (slice_len h1_0) (L_lss rfl rfl rfl (L_pick (v:=Bo ((decide ((out_50.length : Int) < least)) && (decide (v_52 < (m.sizes.length : Int))))) rfl rfl (and_t hc55 rfl) (nn (rj hR54 ⟨sf0,sf2,sf4,sf7,sf9,rfl,Z⟩)))))))
 refine ps rfl (ps rfl (ps rfl (ps rfl (ps rfl (L_pick (v:=Bo ((decide ((out_50.length : Int) < least)) && (decide (v_52 < (m.sizes.length : Int))))) rfl rfl (and_f hc55) (nn (rj hR54 ⟨sf0,sf2,sf4,sf7,sf9,rfl,Z⟩)))))))
 intro f w_ hR
 obtain ⟨sf0,sf2,sf4,sf7,sf9,sf37,Z⟩:=rk hR54 hR
 refine W_cond (b:=((decide ((out_50.length : Int) < least)) && (decide (v_52 < (m.sizes.length : Int))))) sf37 (fun hc56=>?_) (fun hc56=>?_)
 have hB53:=(ite_t hc56).symm.trans hB53
 refine W_skip (W_seq (W_block (W_seq ?_)))
 obtain ⟨b62,hb62,hB53⟩:=bind_some hB53
 obtain ⟨R63,hR63⟩:=exR fun f w_=>f 0 = Pt g_0∧f 2 = I least∧f 4 = Pt g3∧f 7 = v50_out∧f 9 = I v_52∧f 52 = Bo b62∧Star H w_ ([oF 3 RP.int v50_out out_50,box g_0 136 #[v0_0,I g_0_1_14],box g3 26 #[v1_0,v1_1]])
 refine W_join R63 ?_ ?_
 refine W_region (mF sf7 rfl (L_len rfl Tryz.underlying23 rfl (Star.len 0 Z rfl) (L_eql rfl rfl rfl (mB rfl (L_split (d:=43) (b:=((out_50.length : Int) == 0)) rfl (fun hc64=>?_) (fun hc64=>?_))))))
 rw [ite_t hc64] at hb62
 refine ps rfl (ps rfl (ps rfl (ps rfl (ps rfl (ps rfl (ps rfl (ps rfl (L_pick (v:=Bo b62) rfl rfl (congrArg Value.bool (so hb62)) (nn (rj hR63 ⟨sf0,sf2,sf4,sf7,sf9,rfl,Z⟩))))))))))
 rw [ite_f hc64] at hb62
 obtain ⟨x57,hx57,hb62⟩:=bind_some hb62
 refine mF sf7 rfl (mF sf7 rfl (L_len rfl Tryz.underlying23 rfl (Star.len 0 Z rfl) (L_sub rfl rfl rfl ?_)))
 obtain ⟨g65,cap_g65,hv66,_,_⟩:=Star.row 0 Z rfl hx57
 refine L_ixO (R:=(OR.frz RP.int)) (tb:=0) 0 rfl Tryz.underlying23 Tryz.sizeOf3 rfl hv66 (by first | rfl | simp) rfl hx57 ?_
 obtain ⟨cs67,hr67,hat67⟩:=Star.eltF 0 Z rfl hv66 hx57
 obtain rfl : _ = [_]:=hr67
 refine L_ld rfl Tryz.isAgg3 rfl (At.cell hat67 (j:=0) rfl) (mF sf9 rfl (L_lss rfl rfl rfl (L_pick (v:=Bo b62) rfl rfl (congrArg Value.bool (so hb62)) (nn (rj hR63 ⟨sf0,sf2,sf4,sf7,sf9,rfl,Z⟩)))))
 intro f w_ hR
 obtain ⟨sf0,sf2,sf4,sf7,sf9,sf52,Z⟩:=rk hR63 hR
 obtain ⟨out_69,hA71,hB53⟩:=bind_some hB53
 obtain ⟨R71,hR71⟩:=exR fun f w_=>∃ v69_out : Value,f 0 = Pt g_0∧f 2 = I least∧f 4 = Pt g3∧f 7 = v69_out∧f 9 = I v_52∧Star H w_ ([oF 3 RP.int v69_out out_69,box g_0 136 #[v0_0,I g_0_1_14],box g3 26 #[v1_0,v1_1]])
 refine W_join R71 ?_ ?_
 refine W_cond (b:=b62) sf52 (fun hc72=>?_) (fun hc72=>?_)
 have hA71:=(ite_t hc72).symm.trans hA71
 obtain ⟨x76,hx76,hA71⟩:=bind_some hA71
 refine W_region (mF sf7 rfl (mF sf9 rfl (L_bs rfl (parts1 rfl) (bs_23_1_0 (I v_52) rfl) Z (fun g80 w81 Z=>?_))))
 have Z:=Star.addF (r:=RP.int) (cs:=[I v_52]) (x:=v_52) Z rfl
 have Z:=Star.mkRow (R:=(OR.frz RP.int)) [([I v_52],v_52)] [v_52] 1 Z rfl rfl rfl (by decide)
 have Z:=Z.get 1 rfl
 refine L_appM (v:=v50_out) (u:=(Sl g80 1 1)) rfl et_23 rfl rfl Z hx76 (fun v83 w84 Z=>aV v83 rfl (nn ?_))
 obtain rfl:=so hA71
 exact rj hR71 ⟨v83,sf0,sf2,sf4,rfl,sf9,Z⟩
 have hA71:=(ite_f hc72).symm.trans hA71
 refine W_skip ?_
 obtain rfl:=so hA71
 exact rj hR71 ⟨v50_out,sf0,sf2,sf4,sf7,sf9,Z⟩
 intro f w_ hR
 obtain ⟨v69_out,sf0,sf2,sf4,sf7,sf9,Z⟩:=rk hR71 hR
 refine W_region (mF sf9 rfl (L_add rfl rfl rfl (aI rfl (nn ?_))))
 obtain rfl:=so hB53
 show ∃ m,m < _∧I53 m _ _
 refine ⟨n53,Nat.lt_succ_self _,?_⟩
 exact ij hI53 ⟨out_69,i64 (v_52 + 1),v69_out,hL53,sf0,sf2,sf4,sf7,rfl,Z⟩
 have hB53:=(ite_f hc56).symm.trans hB53
 refine W_exit ?_
 obtain rfl:=so hB53
 obtain rfl:=so hL53
 exact rj hR53 ⟨out_50,v_52,v50_out,rfl,sf0,sf2,sf7,(Star.keepN 2 Z)⟩
 intro f w_ hR
 obtain ⟨out_50,v_52,v50_out,rfl,sf0,sf2,sf7,Z⟩:=rk hR53 hR
 refine W_seq (W_seq ?_)
 obtain ⟨R86,hR86⟩:=exR fun f w_=>f 0 = Pt g_0∧f 2 = I least∧f 7 = v50_out∧f 65 = Bo ((decide ((out_50.length : Int) < least)) || ((out_50.length : Int) == 0))∧Star H w_ ([oF 3 RP.int v50_out out_50,box g_0 136 #[v0_0,I g_0_1_14]])
 refine W_join R86 ?_ ?_
 refine W_region (mF sf7 rfl (L_len rfl Tryz.underlying23 rfl (Star.len 0 Z rfl) (mF sf2 rfl (L_lss rfl rfl rfl (mB rfl (L_split (d:=61) (b:=decide ((out_50.length : Int) < least)) rfl (fun hc87=>?_) (fun hc87=>?_)))))))
 refine ps rfl (ps rfl (ps rfl (L_pick (v:=Bo ((decide ((out_50.length : Int) < least)) || ((out_50.length : Int) == 0))) rfl rfl (or_t hc87) (nn (rj hR86 ⟨sf0,sf2,sf7,rfl,Z⟩)))))
 refine mF sf7 rfl (L_len rfl Tryz.underlying23 rfl (Star.len 0 Z rfl) (L_eql rfl rfl rfl (L_pick (v:=Bo ((decide ((out_50.length : Int) < least)) || ((out_50.length : Int) == 0))) rfl rfl (or_f hc87 rfl) (nn (rj hR86 ⟨sf0,sf2,sf7,rfl,Z⟩)))))
 intro f w_ hR
 obtain ⟨sf0,sf2,sf7,sf65,Z⟩:=rk hR86 hR
 obtain ⟨out_88,hA90,hF⟩:=bind_some hF
 obtain ⟨R90,hR90⟩:=exR fun f w_=>∃ v88_out : Value,f 0 = Pt g_0∧f 7 = v88_out∧Star H w_ ([oF 3 RP.int v88_out out_88,box g_0 136 #[v0_0,I g_0_1_14]])
 refine W_join R90 ?_ ?_
 refine W_cond (b:=((decide ((out_50.length : Int) < least)) || ((out_50.length : Int) == 0))) sf65 (fun hc91=>?_) (fun hc91=>?_)
 have hA90:=(ite_t hc91).symm.trans hA90
 refine sq (L_bs rfl parts0 (bs_23_0  ) Z (fun g95 w96 Z=>?_))
 have Z:=Star.mkRow (R:=(OR.frz RP.int)) [] [] 0 Z rfl rfl rfl (by decide)
 refine aV (Sl g95 0 0) rfl (ns (aI rfl (nn ?_)))
 obtain ⟨k102,hk102,hA90⟩:=bind_some hA90
 obtain ⟨j101,hL101,hA90⟩:=bind_some hA90
 obtain ⟨R101,hR101⟩:=exR fun f w_=>∃ out_99 : List Int,∃ v99_out : Value,j101 = .nx out_99∧f 0 = Pt g_0∧f 7 = v99_out∧Star H w_ ([oF 3 RP.int v99_out out_99,box g_0 136 #[v0_0,I g_0_1_14]])
 refine W_join R101 ?_ ?_
 refine W_block ?_
 obtain ⟨I101,hI101⟩:=exI fun n f w_=>∃ i_98 : Nat,∃ suf101 : Nat,∃ out_99 : List Int,∃ v99_out : Value,suf101 = n∧0≤i_98∧i_98 + suf101 = 0 + k102∧countL s_l6Some_b3 suf101 i_98 out_99 = some j101∧f 0 = Pt g_0∧f 2 = I least∧f 7 = v99_out∧f 10 = I i_98∧Star H w_ ([oF 3 RP.int v99_out out_99,box g_0 136 #[v0_0,I g_0_1_14]])
 have Z:=Z.gets [2,1] rfl
 refine W_loop I101 (n:=k102) ?_ ?_
 exact ij hI101 ⟨0,k102,[],(Sl g95 0 0),rfl,Nat.le_refl _,rfl,hL101,sf0,sf2,rfl,rfl,(Star.keepN 2 Z)⟩
 intro n101 f w_ hI
 obtain ⟨i_98,suf101,out_99,v99_out,rfl,hs101,hl101,hL101,sf0,sf2,sf7,sf10,Z⟩:=ik hI101 hI
 refine W_seq (sq (mF sf10 rfl (mF sf2 rfl (L_lss rfl rfl rfl (nn (W_cond (b:=decide ((i_98 : Int) < least)) rfl (fun hc103=>?_) (fun hc103=>?_)))))))
 have hlt101:=of_decide_eq_true hc103
 rcases suf101 with _ | rest101
 exact absurd hlt101 (cntF_no hl101 hk102)
 obtain ⟨o101,hB101,hL101⟩:=count_succ hL101
 rw [s_l6Some_b3] at hB101
 refine W_skip (W_seq (W_block ?_))
 obtain ⟨x107,hx107,hB101⟩:=bind_some hB101
 refine W_region (mF sf7 rfl (mF sf10 rfl (L_bs rfl (parts1 rfl) (bs_23_1_0 (I i_98) rfl) Z (fun g111 w112 Z=>?_))))
 have Z:=Star.addF (r:=RP.int) (cs:=[I i_98]) (x:=(i_98 : Int)) Z rfl
 have Z:=Star.mkRow (R:=(OR.frz RP.int)) [([I i_98],(i_98 : Int))] [(i_98 : Int)] 1 Z rfl rfl rfl (by decide)
 have Z:=Z.get 1 rfl
 refine L_appM (v:=v99_out) (u:=(Sl g111 1 1)) rfl et_23 rfl rfl Z hx107 (fun v114 w115 Z=>aV v114 rfl (nn (W_region (mF sf10 rfl (L_add rfl rfl rfl (aI rfl (nn ?_)))))))
 obtain rfl:=so hB101
 show ∃ m,m < _∧I101 m _ _
 refine ⟨rest101,Nat.lt_succ_self _,?_⟩
 exact ij hI101 ⟨i_98 + 1,rest101,x107,v114,rfl,by omega,by omega,hL101,sf0,sf2,rfl,(Eq.trans rfl (congrArg (Value.int .i64) (i64_succ (n:=0 + k102) (by omega) (cntF_le hk102)))),Z⟩
 rcases suf101 with _ | _
 obtain rfl:=count_zero hL101
 refine W_exit (rj hR101 ⟨out_99,v99_out,rfl,sf0,sf7,Z⟩)
 exact absurd (cntF_yes hs101 hl101 hk102) (of_decide_eq_false hc103)
 intro f w_ hR
 obtain ⟨out_99,v99_out,rfl,sf0,sf7,Z⟩:=rk hR101 hR
 obtain rfl:=so hA90
 exact rj hR90 ⟨v99_out,sf0,sf7,Z⟩
 have hA90:=(ite_f hc91).symm.trans hA90
 refine W_skip ?_
 obtain rfl:=so hA90
 exact rj hR90 ⟨v50_out,sf0,sf7,Z⟩
 intro f w_ hR
 obtain ⟨v88_out,sf0,sf7,Z⟩:=rk hR90 hR
 refine W_seq (W_seq ?_)
 obtain ⟨b124,hb124,hF⟩:=bind_some hF
 obtain ⟨R125,hR125⟩:=exR fun f w_=>f 7 = v88_out∧f 83 = Bo b124.1∧Star H w_ ([oF 3 RP.int v88_out out_88,box g_0 136 #[v0_0,I b124.2]])
 refine W_join R125 ?_ ?_
 refine W_region (mF sf7 rfl (L_len rfl Tryz.underlying23 rfl (Star.len 0 Z rfl) (L_gtr rfl rfl rfl (mB rfl (L_split (d:=79) (b:=decide ((out_88.length : Int) > 1)) rfl (fun hc126=>?_) (fun hc126=>?_))))))
 rw [ite_t hc126] at hb124
 obtain ⟨x122,hx122,hb124⟩:=bind_some hb124
 refine mF sf0 rfl ?_
 have Z:=Z.get 1 rfl
 obtain ⟨H127b,l128,s129,z130,k131⟩:=Z.lend [_]
 refine L_call rfl Tryz.call127 (ops2 rfl rfl) (s_l17Rd_pick_c (r_:=({ b:=r_.b,p:=g_0_1_14 } : Rd)) (n_:=3) s129 (RP.mono _ h0_0 l128) hx122) ?_
 rintro _ w132 ⟨rfl,Z⟩
 have Z:=k131 Z (cb c0)
 refine L_eql rfl rfl rfl (L_pick (v:=Bo b124.1) rfl rfl (congrArg (fun z : Bool × Int=>Value.bool z.1) (so hb124)) ?_)
 have Z : Star H w132 ([box g_0 136 #[v0_0,I b124.2],oF 3 RP.int v88_out out_88]):=by rw [← so hb124]; exact Z
 refine nn ?_
 have Z:=Z.get 1 rfl
 exact rj hR125 ⟨sf7,rfl,Z⟩
 rw [ite_f hc126] at hb124
 refine ps rfl (ps rfl (ps rfl (L_pick (v:=Bo b124.1) rfl rfl (congrArg (fun z : Bool × Int=>Value.bool z.1) (so hb124)) ?_)))
 have Z:=Z.get 1 rfl
 have Z : Star H w_ ([box g_0 136 #[v0_0,I b124.2],oF 3 RP.int v88_out out_88]):=by rw [← so hb124]; exact Z
 refine nn ?_
 have Z:=Z.get 1 rfl
 exact rj hR125 ⟨sf7,rfl,Z⟩
 intro f w_ hR
 obtain ⟨sf7,sf83,Z⟩:=rk hR125 hR
 obtain ⟨out_133,hA134,hF⟩:=bind_some hF
 obtain ⟨R134,hR134⟩:=exR fun f w_=>f 7 = v88_out∧Star H w_ ([oF 3 RP.int v88_out out_133,box g_0 136 #[v0_0,I b124.2]])
 refine W_join R134 ?_ ?_
 refine W_cond (b:=b124.1) sf83 (fun hc135=>?_) (fun hc135=>?_)
 have hA134:=(ite_t hc135).symm.trans hA134
 refine W_seq ?_
 obtain ⟨x136,hx136,hA134⟩:=bind_some hA134
 refine W_region (mF sf7 rfl ?_)
 obtain ⟨g141,cap_g141,hv142,_,_⟩:=Star.row 0 Z rfl hx136
 refine L_ixO (R:=(OR.frz RP.int)) (tb:=0) 0 rfl Tryz.underlying23 Tryz.sizeOf3 rfl hv142 (by first | rfl | simp) rfl hx136 ?_
 obtain ⟨cs143,hr143,hat143⟩:=Star.eltF 0 Z rfl hv142 hx136
 obtain rfl : _ = [_]:=hr143
 refine L_ld rfl Tryz.isAgg3 rfl (At.cell hat143 (j:=0) rfl) (aI rfl (nq ?_))
 obtain ⟨x145,hx145,hA134⟩:=bind_some hA134
 refine W_region (mF sf7 rfl (mF sf7 rfl (L_ixO (R:=(OR.frz RP.int)) (tb:=0) 0 rfl Tryz.underlying23 Tryz.sizeOf3 rfl hv142 (by first | rfl | simp) rfl hx145 ?_)))
 obtain ⟨cs149,hr149,hat149⟩:=Star.eltF 0 Z rfl hv142 hx145
 obtain rfl : _ = [_]:=hr149
 refine L_ld rfl Tryz.isAgg3 rfl (At.cell hat149 (j:=0) rfl) (L_ixO (R:=(OR.frz RP.int)) (tb:=0) 0 rfl Tryz.underlying23 Tryz.sizeOf3 rfl hv142 (by first | rfl | simp) rfl hx136 ?_)
 have Z:=Star.addF (r:=RP.int) (cs:=[I x145]) (x:=x145) Z rfl
 refine L_stE1 (u:=I x145) rfl Tryz.sizeOf3 rfl rfl rfl hv142 Z hx136 (fun w151 Z=>?_)
 refine nn ?_
 obtain ⟨x152,hx152,hA134⟩:=bind_some hA134
 refine W_region (mF sf7 rfl (mI rfl (L_ixO (R:=(OR.frz RP.int)) (tb:=0) 0 rfl Tryz.underlying23 Tryz.sizeOf3 rfl hv142 (by first | rfl | simp) rfl hx152 ?_)))
 have Z:=Star.addF (r:=RP.int) (cs:=[I x136]) (x:=x136) Z rfl
 refine L_stE1 (u:=I x136) rfl Tryz.sizeOf3 rfl rfl rfl hv142 Z hx152 (fun w154 Z=>?_)
 refine nn ?_
 obtain rfl:=so hA134
 exact rj hR134 ⟨sf7,Z⟩
 have hA134:=(ite_f hc135).symm.trans hA134
 refine W_skip ?_
 obtain rfl:=so hA134
 exact rj hR134 ⟨sf7,Z⟩
 intro f w_ hR
 obtain ⟨sf7,Z⟩:=rk hR134 hR
 refine sq (mF sf7 rfl (aV v88_out rfl (nn (W_ret (retG1 (v1:=v88_out) Tryz.results164 rfl ?_)))))
 obtain rfl:=so hF
 exact ⟨v88_out,rfl,Z⟩
theorem s_l6Draw_c {fu : Nat} {r_ : Rd} {m : Model} {g_0 : Nat} {v0_0 : Value} {v1_0 : Value} {v1_1 : Value} {H : FH} {w : World} (Z : Star H w [box g_0 136 #[v0_0,I r_.p]]) (h0_0 : (rS 5 RP.u8).rel H [v0_0] r_.b) (h1_0 : (rS 3 RP.int).rel H [v1_0] m.sizes) (h1_1 : (rS 79 (rRule 3 23)).rel H [v1_1] m.rules) {r : Rule × Int} (hF : s_l6Draw fu r_ m = some r) :
 C Tryz.prog 128 #[Pt g_0,.agg #[v1_0,v1_1]] w fun v w'=>∃ (u1 : Value) (u2 : Value) (u3 : Value),v = .agg #[I r.1.kind,u1,u2,I r.1.bound,u3]∧Star H w' [oF 3 RP.int u1 r.1.vars,oF 3 RP.int u2 r.1.coefs,own (OR.ownS 23 (OR.ownS 3 (OR.frz RP.int))) [u3] r.1.rows,box g_0 136 #[v0_0,I r.2]]:=by
 unfold s_l6Draw at hF
 refine C_enter Tryz.func128 rfl Tryz.ntmps128 rfl (sq (L_box (v:=.agg #[v1_0,v1_1]) (cs:=#[v1_0,v1_1]) rfl rfl rfl Z (fun g5 w6 Z=>L_al (cs:=#[I 0,S0,S0,I 0,S0]) rfl Tryz.zeroValue79 rfl Z (fun g7 w8 Z=>nq ?_))))
 obtain ⟨x18,hx18,hF⟩:=bind_some hF
 refine W_region (mV (Pt g_0) rfl (L_bs rfl (parts5 rfl rfl rfl rfl rfl) (bs_23_5_0_0_0_0_0 (I 1) (I 2) (I 3) (I 4) (I 1) rfl rfl rfl rfl rfl) Z (fun g23 w24 Z=>?_)))
 have Z:=litInts [1,2,3,4,1] 5 Z rfl rfl (by decide)
 have Z:=Z.get 3 rfl
 obtain ⟨H26b,l27,s28,z29,k30⟩:=Z.lend [_]
 have hb31 : (rS 3 RP.int).rel H26b [(Sl g23 5 5)] ([1,2,3,4,1]):=fz_own 0 z29 rfl
 refine L_call rfl Tryz.call75 (ops2 rfl rfl) (s_l17Rd_num_c (r_:=r_) (list:=[1,2,3,4,1]) s28 (RP.mono _ h0_0 l27) hb31 hx18) ?_
 rintro _ w32 ⟨rfl,Z⟩
 have Z:=k30 Z (cb c0)
 refine L_bld rfl (parts1 rfl) (bld_79_0 (I x18.1) rfl) (L_al (cs:=#[I 0,S0,S0,I 0,S0]) rfl Tryz.zeroValue79 rfl Z (fun g33 w34 Z=>L_staB (vs:=#[I x18.1,S0,S0,I 0,S0]) (cs2:=#[I x18.1,S0,S0,I 0,S0]) 0 rfl Tryz.sizeOf79 rfl rfl rfl (ones_cons rfl (ones_cons rfl (ones_cons rfl (ones_cons rfl (ones_cons rfl ones_nil))))) Z rfl (by show 0 + 5≤5; decide) rfl (fun w35 Z=>nq ?_)))
 obtain ⟨x41,hx41,hF⟩:=bind_some hF
 refine W_region (mV (Pt g_0) rfl (L_lda (cs:=[v1_0,v1_1]) rfl Tryz.isAgg26 Tryz.sizeOf26 rfl (At.sub0 (Blk.at (Star.blkAt 4 Z rfl)) 0 2) rfl ?_))
 have Z:=Z.get 1 rfl
 obtain ⟨H45b,l46,s47,z48,k49⟩:=Z.lend [_]
 refine L_call rfl Tryz.call164 (ops3 rfl rfl rfl) (s_l6Some_c (r_:=({ b:=r_.b,p:=x18.2 } : Rd)) (m:=m) (least:=1) s47 (RP.mono _ h0_0 l46) (RP.mono _ h1_0 l46) (RP.mono _ h1_1 l46) hx41) ?_
 rintro r50_0 w50 ⟨_,rfl,Z⟩
 have Z:=k49 Z (co closed_int (cb c0))
 refine fA 1 fa_79_1 rfl rfl (L_stB (v:=r50_0) (cs2:=#[I x18.1,r50_0,S0,I 0,S0]) 2 rfl Tryz.sizeOf23 rfl rfl (one_len (Star.len 0 Z rfl)) Z rfl rfl rfl (fun w52 Z=>nq (sq (fA 0 fa_79_0 rfl rfl (ldB 0 Z Tryz.isAgg3 rfl rfl rfl (nn (W_block (sq (L_eql rfl rfl rfl (aB rfl (nn ?_)))))))))))
 obtain ⟨⟨g_0_1_53,g33_1_54,g33_2_56,g33_3_58,g33_4_59⟩,hA63,hF⟩:=bind_some hF
 obtain ⟨R63,hR63⟩:=exR fun f w_=>∃ H61 : FH,∃ v54_g33_1 v56_g33_2 v59_g33_4 : Value,Le H H61∧f 4 = Pt g7∧f 5 = Pt g33∧Star H61 w_ ([box g_0 136 #[v0_0,I g_0_1_53],oF 3 RP.int v54_g33_1 g33_1_54,oF 3 RP.int v56_g33_2 g33_2_56,own (OR.ownS 23 (OR.ownS 3 (OR.frz RP.int))) [v59_g33_4] g33_4_59,box g33 79 #[I x18.1,v54_g33_1,v56_g33_2,I g33_3_58,v59_g33_4],box g7 79 #[I 0,S0,S0,I 0,S0]])
 refine W_join R63 ?_ ?_
 refine W_cond (b:=(x18.1 == 1)) rfl (fun hc64=>?_) (fun hc64=>?_)
 have hA63:=(ite_t hc64).symm.trans hA63
 refine W_seq (sq (aI rfl (nn ?_)))
 have hlen71 : List.length x41.1≤9223372036854775807:=len_le (Star.len 1 Z rfl)
 obtain ⟨j71,hL71,hA63⟩:=bind_some hA63
 obtain ⟨R71,hR71⟩:=exR fun f w_=>∃ g_0_1_66 : Int,∃ g33_2_67 : List Int,∃ H69 : FH,∃ v67_g33_2 : Value,j71 = .nx (g_0_1_66,g33_2_67)∧Le H H69∧f 0 = Pt g_0∧f 4 = Pt g7∧f 5 = Pt g33∧Star H69 w_ ([box g_0 136 #[v0_0,I g_0_1_66],oF 3 RP.int r50_0 x41.1,oF 3 RP.int v67_g33_2 g33_2_67,box g33 79 #[I x18.1,r50_0,v67_g33_2,I 0,S0],box g7 79 #[I 0,S0,S0,I 0,S0]])
 refine W_join R71 ?_ ?_
 refine W_block ?_
 obtain ⟨I71,hI71⟩:=exI fun n f w_=>∃ i_65 : Nat,∃ suf71 : List Int,∃ g_0_1_66 : Int,∃ g33_2_67 : List Int,∃ H69 : FH,∃ v67_g33_2 : Value,n = suf71.length∧List.drop i_65 x41.1 = suf71∧i_65 + suf71.length = x41.1.length∧rangeL (s_l6Draw_b1 r_) suf71 i_65 (g_0_1_66,g33_2_67) = some j71∧Le H H69∧f 0 = Pt g_0∧f 4 = Pt g7∧f 5 = Pt g33∧f 6 = I i_65∧Star H69 w_ ([box g_0 136 #[v0_0,I g_0_1_66],oF 3 RP.int r50_0 x41.1,oF 3 RP.int v67_g33_2 g33_2_67,box g33 79 #[I x18.1,r50_0,v67_g33_2,I 0,S0],box g7 79 #[I 0,S0,S0,I 0,S0]])
 have Z:=Star.addNil (R:=(OR.frz RP.int)) (e:=3) Z
 have Z:=Z.gets [5,2,2,3,4] rfl
 refine W_loop I71 (n:=x41.1.length) ?_ ?_
 exact ij hI71 ⟨0,x41.1,x41.2,[],H,S0,rfl,rfl,Nat.zero_add _,hL71,(Le.refl _),rfl,rfl,rfl,rfl,(Star.keepN 5 Z)⟩
 intro n71 f w_ hI
 obtain ⟨i_65,suf71,g_0_1_66,g33_2_67,H69,v67_g33_2,rfl,hd71,hl71,hL71,l70,sf0,sf4,sf5,sf6,Z⟩:=ik hI71 hI
 refine W_seq (sq (mF sf6 rfl (fA 1 fa_79_1 sf5 rfl (ldB 3 Z Tryz.isAgg23 rfl rfl rfl (L_len rfl Tryz.underlying23 rfl (Star.len 1 Z rfl) (L_lss rfl rfl rfl (nn (W_cond (b:=decide ((i_65 : Int) < (x41.1.length : Int))) rfl (fun hc73=>?_) (fun hc73=>?_)))))))))
 have hlt71:=of_decide_eq_true hc73
 rcases suf71 with _ | ⟨x_71,rest71⟩
 exact absurd hlt71 (by simp at hl71; omega)
 obtain ⟨o71,hB71,hL71⟩:=range_cons hL71
 rw [s_l6Draw_b1] at hB71
 have hix71:=drop_idx hd71
 refine W_skip (W_seq (W_block ?_))
 obtain ⟨x83,hx83,hB71⟩:=bind_some hB71
 obtain ⟨x88,hx88,hB71⟩:=bind_some hB71
 have Z:=Z.gets [4,4,4,4] rfl
 refine W_drawS 6 [isV (Pq g33 2),isV (v67_g33_2),isV (Pt g_0),anyF,isV (I x83.1),anyF] [oF 3 RP.int r50_0 x41.1,oF 3 RP.int v67_g33_2 g33_2_67,box g33 79 #[I x18.1,r50_0,v67_g33_2,I 0,S0],box g7 79 #[I 0,S0,S0,I 0,S0]] [.base (box g_0 136 #[v0_0,I g_0_1_66]) (some 4),.made 3 32 (fun v_=>oF 3 RP.int v_ ([1,(-1),2,1,(-2),3])) none,.made 4 33 (fun v_=>box g_0 136 #[v0_0,I x83.2]) none,.made 5 34 (fun v_=>oF 3 RP.int v_ ([x83.1])) none] ([]) [([],[]),([],[]),([],[]),([],[1]),([0,1],[1,2]),([],[3])] (S:=[(none,[],some 4),(some 3,[32],none),(some 4,[33],none),(some 5,[34],none)]) Tryz_mix (by kernel_rfl) rfl (by kernel_rfl) (amF_cons (mono_V _) (amF_cons (mono_V _) (amF_cons (mono_V _) (amF_cons (mono_any) (amF_cons (mono_V _) (amF_cons (mono_any) amF_nil)))))) Z ?_ (fun f w_ H93 hS93 hE93 hT93 Z=>?_)
 refine opsS_cons (fun f w_ _ _ s _ _ Z=>fA 2 fa_79_2 ((s 5 rfl).trans sf5) rfl (nO rfl rfl Z)) (opsS_cons (fun f w_ _ _ _ _ p Z=>ldB 2 Z Tryz.isAgg23 (p 0 29 rfl rfl) rfl rfl (nO rfl rfl Z)) (opsS_cons (fun f w_ _ _ s _ _ Z=>mF ((s 0 rfl).trans sf0) rfl (nO rfl rfl Z)) (opsS_cons ?_ ?_)))
 intro f w_ H93 X93 hS93 hE93 hP93 Z
 refine L_bs rfl (parts6 rfl rfl rfl rfl rfl rfl) (bs_23_6_0_0_0_0_0_0 (I 1) (I (-1)) (I 2) (I 1) (I (-2)) (I 3) rfl rfl rfl rfl rfl rfl) Z (fun g107 w108 Z=>?_)
 have Z:=litInts [1,(-1),2,1,(-2),3] 6 Z rfl rfl (by decide)
 have Z:=Z.gets [4,4,4,4] rfl
 exact L_nil ⟨rfl,_,_,rfl,Le.refl _,fun _ _=>trivial,Z⟩
 refine opsS_cons ?_ ?_
 intro f w_ H93 X93 hS93 hE93 hP93 Z
 have Z : Star H93 w_ (oF 3 RP.int r50_0 x41.1 :: oF 3 RP.int v67_g33_2 g33_2_67 :: box g33 79 #[I x18.1,r50_0,v67_g33_2,I 0,S0] :: box g7 79 #[I 0,S0,S0,I 0,S0] :: box g_0 136 #[v0_0,I g_0_1_66] :: oF 3 RP.int (f 32) ([1,(-1),2,1,(-2),3]) :: X93):=Z
 have Z:=Z.get 4 rfl
 obtain ⟨H111b,l112,s113,z114,k115⟩:=Z.lend [_]
 have hb116 : (rS 3 RP.int).rel H111b [(f 32)] ([1,(-1),2,1,(-2),3]):=fz_own 4 z114 rfl
 refine L_call rfl Tryz.call75 (ops2 (hP93 2 31 rfl rfl) rfl) (s_l17Rd_num_c (r_:=({ b:=r_.b,p:=g_0_1_66 } : Rd)) (list:=[1,(-1),2,1,(-2),3]) s113 (RP.mono _ h0_0 (Le.trans (Le.trans l70 hE93) l112)) hb116 hx83) ?_
 rintro _ w117 ⟨rfl,Z⟩
 have Z:=k115 Z (cb c0)
 have Z:=Z.gets [5,5,5,5,5] rfl
 exact L_nil ⟨rfl,_,_,rfl,Le.refl _,fun _ _=>rfl,Z⟩
 refine opsS_cons ?_ ?_
 intro f w_ H93 X93 hS93 hE93 hP93 Z
 refine L_bs rfl (parts1 (hP93 4 33 rfl rfl)) (bs_23_1_0 (I x83.1) rfl) Z (fun g118 w119 Z=>?_)
 have Z:=Star.addF (r:=RP.int) (cs:=[I x83.1]) (x:=x83.1) Z rfl
 have Z:=Star.mkRow (R:=(OR.frz RP.int)) [([I x83.1],x83.1)] [x83.1] 1 Z rfl rfl rfl (by decide)
 have Z:=Z.gets [4,4,4,4] rfl
 exact L_nil ⟨rfl,_,_,rfl,Le.refl _,fun _ _=>trivial,Z⟩
 exact opsS_nil
 have Z : Star H93 w_ ([oF 3 RP.int r50_0 x41.1,oF 3 RP.int v67_g33_2 g33_2_67,box g33 79 #[I x18.1,r50_0,v67_g33_2,I 0,S0],box g7 79 #[I 0,S0,S0,I 0,S0],oF 3 RP.int (f 32) ([1,(-1),2,1,(-2),3]),box g_0 136 #[v0_0,I x83.2],oF 3 RP.int (f 34) ([x83.1])]):=Z
 have Z:=Z.gets [6,2] rfl
 refine L_appM (v:=v67_g33_2) (u:=(f 34)) rfl et_23 (hT93 1 30 rfl rfl) rfl Z hx88 (fun v122 w123 Z=>fA 2 fa_79_2 ((hS93 5 rfl).trans sf5) rfl (L_stB (v:=v122) (cs2:=#[I x18.1,r50_0,v122,I 0,S0]) 2 rfl Tryz.sizeOf23 rfl rfl (one_len (Star.len 0 Z rfl)) Z rfl rfl rfl (fun w125 Z=>nn (W_region (mF ((hS93 6 rfl).trans sf6) rfl (L_add rfl rfl rfl (aI rfl (nn ?_))))))))
 obtain rfl:=so hB71
 have Z:=Z.gets [3,1,2,3,5] rfl
 show ∃ m,m < _∧I71 m _ _
 refine ⟨rest71.length,by simp,?_⟩
 exact ij hI71 ⟨i_65 + 1,rest71,x83.2,x88,H93,v122,rfl,drop_next hd71,by simp at hl71; omega,hL71,(Le.trans l70 hE93),((hS93 0 rfl).trans sf0),((hS93 4 rfl).trans sf4),((hS93 5 rfl).trans sf5),(Eq.trans rfl (congrArg (Value.int .i64) (i64_succ (n:=x41.1.length) (by simp at hl71; omega) hlen71))),(Star.keepN 5 Z)⟩
 rcases suf71 with _ | ⟨_,_⟩
 obtain rfl:=range_nil hL71
 refine W_exit (rj hR71 ⟨g_0_1_66,g33_2_67,H69,v67_g33_2,rfl,l70,sf0,sf4,sf5,Z⟩)
 exact absurd (of_decide_eq_false hc73) (by simp at hl71; omega)
 intro f w_ hR
 obtain ⟨g_0_1_66,g33_2_67,H69,v67_g33_2,rfl,l70,sf0,sf4,sf5,Z⟩:=rk hR71 hR
 obtain ⟨x135,hx135,hA63⟩:=bind_some hA63
 refine W_region (mF sf0 rfl (L_bs rfl (parts7 rfl rfl rfl rfl rfl rfl rfl) (bs_23_7_0_0_0_0_0_0_0 (I 1) (I 2) (I 0) (I (-1)) (I 3) (I (-3)) (I 4) rfl rfl rfl rfl rfl rfl rfl) Z (fun g138 w139 Z=>?_)))
 have Z:=litInts [1,2,0,(-1),3,(-3),4] 7 Z rfl rfl (by decide)
 have Z:=Z.get 1 rfl
 obtain ⟨H141b,l142,s143,z144,k145⟩:=Z.lend [_]
 have hb146 : (rS 3 RP.int).rel H141b [(Sl g138 7 7)] ([1,2,0,(-1),3,(-3),4]):=fz_own 0 z144 rfl
 refine L_call rfl Tryz.call75 (ops2 rfl rfl) (s_l17Rd_num_c (r_:=({ b:=r_.b,p:=g_0_1_66 } : Rd)) (list:=[1,2,0,(-1),3,(-3),4]) s143 (RP.mono _ h0_0 (Le.trans l70 l142)) hb146 hx135) ?_
 rintro _ w147 ⟨rfl,Z⟩
 have Z:=k145 Z (cb c0)
 refine fA 3 fa_79_3 sf5 rfl (L_stB (v:=I x135.1) (cs2:=#[I x18.1,r50_0,v67_g33_2,I x135.1,S0]) 4 rfl Tryz.sizeOf3 rfl rfl rfl Z rfl rfl rfl (fun w148 Z=>nn ?_))
 obtain ⟨rfl,rfl,rfl,rfl,rfl⟩:=so5 hA63
 have Z:=Star.addNil (R:=(OR.ownS 3 (OR.frz RP.int))) (e:=23) Z
 have Z:=Z.gets [6,2,2,6,6,5] rfl
 exact rj hR63 ⟨H69,r50_0,v67_g33_2,S0,l70,sf4,sf5,(Star.keepN 6 Z)⟩
 have hA63:=(ite_f hc64).symm.trans hA63
 refine sq (L_eql rfl rfl rfl (aB rfl (nn ?_)))
 obtain ⟨⟨g_0_1_150,g33_1_151,g33_4_153⟩,hA155,hA63⟩:=bind_some hA63
 obtain ⟨R155,hR155⟩:=exR fun f w_=>∃ v151_g33_1 v153_g33_4 : Value,f 4 = Pt g7∧f 5 = Pt g33∧Star H w_ ([box g_0 136 #[v0_0,I g_0_1_150],oF 3 RP.int v151_g33_1 g33_1_151,own (OR.ownS 23 (OR.ownS 3 (OR.frz RP.int))) [v153_g33_4] g33_4_153,box g33 79 #[I x18.1,v151_g33_1,S0,I 0,v153_g33_4],box g7 79 #[I 0,S0,S0,I 0,S0]])
 refine W_join R155 ?_ ?_
 refine W_cond (b:=(x18.1 == 3)) rfl (fun hc156=>?_) (fun hc156=>?_)
 have hA155:=(ite_t hc156).symm.trans hA155
 refine W_seq ?_
 obtain ⟨x166,hx166,hA155⟩:=bind_some hA155
 refine W_region (mV (Pt g_0) rfl (L_bs rfl (parts6 rfl rfl rfl rfl rfl rfl) (bs_23_6_0_0_0_0_0_0 (I 3) (I 4) (I 2) (I 6) (I 0) (I 8) rfl rfl rfl rfl rfl rfl) Z (fun g168 w169 Z=>?_)))
 have Z:=litInts [3,4,2,6,0,8] 6 Z rfl rfl (by decide)
 have Z:=Z.get 3 rfl
 obtain ⟨H171b,l172,s173,z174,k175⟩:=Z.lend [_]
 have hb176 : (rS 3 RP.int).rel H171b [(Sl g168 6 6)] ([3,4,2,6,0,8]):=fz_own 0 z174 rfl
 refine L_call rfl Tryz.call75 (ops2 rfl rfl) (s_l17Rd_num_c (r_:=({ b:=r_.b,p:=x41.2 } : Rd)) (list:=[3,4,2,6,0,8]) s173 (RP.mono _ h0_0 l172) hb176 hx166) ?_
 rintro _ w177 ⟨rfl,Z⟩
 have Z:=k175 Z (cb c0)
 refine aI rfl (nn ?_)
 obtain ⟨j183,hL183,hA155⟩:=bind_some hA155
 obtain ⟨R183,hR183⟩:=exR fun f w_=>∃ i_179 : Int,∃ g_0_1_180 : Int,∃ g33_4_181 : List (List Int),∃ v181_g33_4 : Value,j183 = .nx (i_179,g_0_1_180,g33_4_181)∧f 4 = Pt g7∧f 5 = Pt g33∧Star H w_ ([box g_0 136 #[v0_0,I g_0_1_180],oF 3 RP.int r50_0 x41.1,own (OR.ownS 23 (OR.ownS 3 (OR.frz RP.int))) [v181_g33_4] g33_4_181,box g33 79 #[I x18.1,r50_0,S0,I 0,v181_g33_4],box g7 79 #[I 0,S0,S0,I 0,S0]])
 refine W_join R183 ?_ ?_
 refine W_block ?_
 obtain ⟨I183,hI183⟩:=exI fun n f w_=>∃ i_179 : Int,∃ g_0_1_180 : Int,∃ g33_4_181 : List (List Int),∃ v181_g33_4 : Value,whileL (s_l6Draw_b2 r_ x41) n (i_179,g_0_1_180,g33_4_181) = some j183∧f 0 = Pt g_0∧f 4 = Pt g7∧f 5 = Pt g33∧f 7 = I i_179∧Star H w_ ([box g_0 136 #[v0_0,I g_0_1_180],oF 3 RP.int r50_0 x41.1,own (OR.ownS 23 (OR.ownS 3 (OR.frz RP.int))) [v181_g33_4] g33_4_181,box g33 79 #[I x18.1,r50_0,S0,I 0,v181_g33_4],box g7 79 #[I 0,S0,S0,I 0,S0]])
 have Z:=Star.addNil (R:=(OR.ownS 3 (OR.frz RP.int))) (e:=23) Z
 have Z:=Z.gets [6,4,2,5,4] rfl
 refine W_loop I183 (n:=fu) ?_ ?_
 exact ij hI183 ⟨x166.1,x166.2,[],S0,hL183,rfl,rfl,rfl,rfl,(Star.keepN 5 Z)⟩
 intro n183 f w_ hI
 obtain ⟨i_179,g_0_1_180,g33_4_181,v181_g33_4,hL183,sf0,sf4,sf5,sf7,Z⟩:=ik hI183 hI
 rcases n183 with _ | n183
 exact (while_zero hL183).elim
 obtain ⟨o183,hB183,hL183⟩:=while_succ hL183
 rw [s_l6Draw_b2] at hB183
 refine W_seq (sq (mF sf7 rfl (L_gtr rfl rfl rfl (nn (W_cond (b:=decide (i_179 > 0)) rfl (fun hc185=>?_) (fun hc185=>?_))))))
 have hB183:=(ite_t hc185).symm.trans hB183
 refine W_skip (W_seq (W_block (sq (L_bs rfl parts0 (bs_23_0  ) Z (fun g189 w190 Z=>?_)))))
 have Z:=Star.mkRow (R:=(OR.frz RP.int)) [] [] 0 Z rfl rfl rfl (by decide)
 refine aV (Sl g189 0 0) rfl (L_nil (W_seq (sq (aI rfl (nn ?_)))))
 have hlen196 : List.length x41.1≤9223372036854775807:=len_le (Star.len 2 Z rfl)
 obtain ⟨j196,hL196,hB183⟩:=bind_some hB183
 obtain ⟨R196,hR196⟩:=exR fun f w_=>∃ row_193 : List Int,∃ g_0_1_195 : Int,∃ v193_row : Value,j196 = .nx (row_193,g_0_1_195)∧f 0 = Pt g_0∧f 4 = Pt g7∧f 5 = Pt g33∧f 7 = I i_179∧f 8 = v193_row∧Star H w_ ([oF 3 RP.int v193_row row_193,box g_0 136 #[v0_0,I g_0_1_195],oF 3 RP.int r50_0 x41.1,own (OR.ownS 23 (OR.ownS 3 (OR.frz RP.int))) [v181_g33_4] g33_4_181,box g33 79 #[I x18.1,r50_0,S0,I 0,v181_g33_4],box g7 79 #[I 0,S0,S0,I 0,S0]])
 refine W_join R196 ?_ ?_
 refine W_block ?_
 obtain ⟨I196,hI196⟩:=exI fun n f w_=>∃ i_192 : Nat,∃ suf196 : List Int,∃ row_193 : List Int,∃ g_0_1_195 : Int,∃ v193_row : Value,n = suf196.length∧List.drop i_192 x41.1 = suf196∧i_192 + suf196.length = x41.1.length∧rangeL (s_l6Draw_b3 r_) suf196 i_192 (row_193,g_0_1_195) = some j196∧f 0 = Pt g_0∧f 4 = Pt g7∧f 5 = Pt g33∧f 7 = I i_179∧f 8 = v193_row∧f 9 = I i_192∧Star H w_ ([oF 3 RP.int v193_row row_193,box g_0 136 #[v0_0,I g_0_1_195],oF 3 RP.int r50_0 x41.1,own (OR.ownS 23 (OR.ownS 3 (OR.frz RP.int))) [v181_g33_4] g33_4_181,box g33 79 #[I x18.1,r50_0,S0,I 0,v181_g33_4],box g7 79 #[I 0,S0,S0,I 0,S0]])
 refine W_loop I196 (n:=x41.1.length) ?_ ?_
 exact ij hI196 ⟨0,x41.1,[],g_0_1_180,(Sl g189 0 0),rfl,rfl,Nat.zero_add _,hL196,sf0,sf4,sf5,sf7,rfl,rfl,Z⟩
 intro n196 f w_ hI
 obtain ⟨i_192,suf196,row_193,g_0_1_195,v193_row,rfl,hd196,hl196,hL196,sf0,sf4,sf5,sf7,sf8,sf9,Z⟩:=ik hI196 hI
 refine W_seq (sq (mF sf9 rfl (fA 1 fa_79_1 sf5 rfl (ldB 4 Z Tryz.isAgg23 rfl rfl rfl (L_len rfl Tryz.underlying23 rfl (Star.len 2 Z rfl) (L_lss rfl rfl rfl (nn (W_cond (b:=decide ((i_192 : Int) < (x41.1.length : Int))) rfl (fun hc197=>?_) (fun hc197=>?_)))))))))
 have hlt196:=of_decide_eq_true hc197
 rcases suf196 with _ | ⟨x_196,rest196⟩
 exact absurd hlt196 (by simp at hl196; omega)
 obtain ⟨o196,hB196,hL196⟩:=range_cons hL196
 rw [s_l6Draw_b3] at hB196
 have hix196:=drop_idx hd196
 refine W_skip (W_seq (W_block ?_))
 obtain ⟨x203,hx203,hB196⟩:=bind_some hB196
 obtain ⟨x208,hx208,hB196⟩:=bind_some hB196
 refine W_region (mF sf8 rfl (mF sf0 rfl ?_))
 have Z:=Z.get 1 rfl
 obtain ⟨H212b,l213,s214,z215,k216⟩:=Z.lend [_]
 refine L_call rfl Tryz.call127 (ops2 rfl rfl) (s_l17Rd_pick_c (r_:=({ b:=r_.b,p:=g_0_1_195 } : Rd)) (n_:=4) s214 (RP.mono _ h0_0 l213) hx203) ?_
 rintro _ w217 ⟨rfl,Z⟩
 have Z:=k216 Z (cb c0)
 refine L_bs rfl (parts1 rfl) (bs_23_1_0 (I x203.1) rfl) Z (fun g218 w219 Z=>?_)
 have Z:=Star.addF (r:=RP.int) (cs:=[I x203.1]) (x:=x203.1) Z rfl
 have Z:=Star.mkRow (R:=(OR.frz RP.int)) [([I x203.1],x203.1)] [x203.1] 1 Z rfl rfl rfl (by decide)
 have Z:=Z.get 2 rfl
 refine L_appM (v:=v193_row) (u:=(Sl g218 1 1)) rfl et_23 rfl rfl Z hx208 (fun v221 w222 Z=>aV v221 rfl (nn (W_region (mF sf9 rfl (L_add rfl rfl rfl (aI rfl (nn ?_)))))))
 obtain rfl:=so hB196
 show ∃ m,m < _∧I196 m _ _
 refine ⟨rest196.length,by simp,?_⟩
 exact ij hI196 ⟨i_192 + 1,rest196,x208,x203.2,v221,rfl,drop_next hd196,by simp at hl196; omega,hL196,sf0,sf4,sf5,sf7,rfl,(Eq.trans rfl (congrArg (Value.int .i64) (i64_succ (n:=x41.1.length) (by simp at hl196; omega) hlen196))),Z⟩
 rcases suf196 with _ | ⟨_,_⟩
 obtain rfl:=range_nil hL196
 refine W_exit (rj hR196 ⟨row_193,g_0_1_195,v193_row,rfl,sf0,sf4,sf5,sf7,sf8,Z⟩)
 exact absurd (of_decide_eq_false hc197) (by simp at hl196; omega)
 intro f w_ hR
 obtain ⟨row_193,g_0_1_195,v193_row,rfl,sf0,sf4,sf5,sf7,sf8,Z⟩:=rk hR196 hR
 obtain ⟨x227,hx227,hB183⟩:=bind_some hB183
 refine W_region (fA 4 fa_79_4 sf5 rfl (ldB 4 Z Tryz.isAgg77 rfl rfl rfl (mF sf8 rfl (L_bs rfl (parts1 rfl) (bs_77_1_0 (v193_row) (one_len (Star.len 0 Z rfl))) Z (fun g232 w233 Z=>?_)))))
 have Z:=Z.get 1 rfl
 have Z:=Star.mkRow (R:=(OR.ownS 3 (OR.frz RP.int))) [([v193_row],row_193)] [row_193] 1 Z rfl rfl rfl (by decide)
 have Z:=Z.get 3 rfl
 refine L_appM (v:=v181_g33_4) (u:=(Sl g232 1 1)) rfl et_77 rfl rfl Z hx227 (fun v235 w236 Z=>fA 4 fa_79_4 sf5 rfl (L_stB (v:=v235) (cs2:=#[I x18.1,r50_0,S0,I 0,v235]) 3 rfl Tryz.sizeOf77 rfl rfl (one_len (Star.len 0 Z rfl)) Z rfl rfl rfl (fun w238 Z=>nn (W_region (mF sf7 rfl (L_sub rfl rfl rfl (aI rfl (nn ?_))))))))
 obtain rfl:=so hB183
 have Z:=Z.gets [4,1,2,4,4] rfl
 show ∃ m,m < _∧I183 m _ _
 refine ⟨n183,Nat.lt_succ_self _,?_⟩
 exact ij hI183 ⟨i64 (i_179 - 1),g_0_1_195,x227,v235,hL183,sf0,sf4,sf5,rfl,Z⟩
 have hB183:=(ite_f hc185).symm.trans hB183
 refine W_exit ?_
 obtain rfl:=so hB183
 obtain rfl:=so hL183
 exact rj hR183 ⟨i_179,g_0_1_180,g33_4_181,v181_g33_4,rfl,sf4,sf5,Z⟩
 intro f w_ hR
 obtain ⟨i_179,g_0_1_180,g33_4_181,v181_g33_4,rfl,sf4,sf5,Z⟩:=rk hR183 hR
 obtain ⟨rfl,rfl,rfl⟩:=so3 hA155
 exact rj hR155 ⟨r50_0,v181_g33_4,sf4,sf5,Z⟩
 have hA155:=(ite_f hc156).symm.trans hA155
 refine sq (L_eql rfl rfl rfl (aB rfl (nn ?_)))
 obtain ⟨⟨g_0_1_239,g33_1_240⟩,hA242,hA155⟩:=bind_some hA155
 obtain ⟨R242,hR242⟩:=exR fun f w_=>∃ v240_g33_1 : Value,f 4 = Pt g7∧f 5 = Pt g33∧Star H w_ ([box g_0 136 #[v0_0,I g_0_1_239],oF 3 RP.int v240_g33_1 g33_1_240,box g33 79 #[I x18.1,v240_g33_1,S0,I 0,S0],box g7 79 #[I 0,S0,S0,I 0,S0]])
 refine W_join R242 ?_ ?_
 refine W_cond (b:=(x18.1 == 4)) rfl (fun hc243=>?_) (fun hc243=>?_)
 have hA242:=(ite_t hc243).symm.trans hA242
 obtain ⟨x249,hx249,hA242⟩:=bind_some hA242
 obtain ⟨x252,hx252,hA242⟩:=bind_some hA242
 refine W_region (mV (Pt g_0) rfl (L_lda (cs:=[v1_0,v1_1]) rfl Tryz.isAgg26 Tryz.sizeOf26 rfl (At.sub0 (Blk.at (Star.blkAt 5 Z rfl)) 0 2) rfl ?_))
 have Z:=Z.get 2 rfl
 obtain ⟨H256b,l257,s258,z259,k260⟩:=Z.lend [_]
 refine L_call rfl Tryz.call164 (ops3 rfl rfl rfl) (s_l6Some_c (r_:=({ b:=r_.b,p:=x41.2 } : Rd)) (m:=m) (least:=2) s258 (RP.mono _ h0_0 l257) (RP.mono _ h1_0 l257) (RP.mono _ h1_1 l257) hx249) ?_
 rintro r261_0 w261 ⟨_,rfl,Z⟩
 have Z:=k260 Z (co closed_int (cb c0))
 refine L_slO (R:=(OR.frz RP.int)) (b:=2) rfl et_23 rfl Z trivial rfl hx252 (fun v263 Z=>fA 1 fa_79_1 rfl rfl (L_stB (v:=v263) (cs2:=#[I x18.1,v263,S0,I 0,S0]) 2 rfl Tryz.sizeOf23 rfl rfl (one_len (Star.len 0 Z rfl)) Z rfl rfl rfl (fun w265 Z=>nn ?_)))
 obtain ⟨rfl,rfl⟩:=so2 hA242
 have Z:=Z.gets [5,1,2,3] rfl
 exact rj hR242 ⟨v263,rfl,rfl,(Star.keepN 4 Z)⟩
 have hA242:=(ite_f hc243).symm.trans hA242
 refine W_skip ?_
 obtain ⟨rfl,rfl⟩:=so2 hA242
 have Z:=Z.gets [4,1,2,3] rfl
 exact rj hR242 ⟨r50_0,rfl,rfl,(Star.keepN 4 Z)⟩
 intro f w_ hR
 obtain ⟨v240_g33_1,sf4,sf5,Z⟩:=rk hR242 hR
 obtain ⟨rfl,rfl,rfl⟩:=so3 hA155
 have Z:=Star.addNil (R:=(OR.ownS 3 (OR.frz RP.int))) (e:=23) Z
 have Z:=Z.gets [4,4,2,4,4] rfl
 exact rj hR155 ⟨v240_g33_1,S0,sf4,sf5,Z⟩
 intro f w_ hR
 obtain ⟨v151_g33_1,v153_g33_4,sf4,sf5,Z⟩:=rk hR155 hR
 obtain ⟨rfl,rfl,rfl,rfl,rfl⟩:=so5 hA63
 have Z:=Star.addNil (R:=(OR.frz RP.int)) (e:=3) Z
 have Z:=Z.gets [5,5,5,3,5,5] rfl
 exact rj hR63 ⟨H,v151_g33_1,S0,v153_g33_4,(Le.refl _),sf4,sf5,Z⟩
 intro f w_ hR
 obtain ⟨H61,v54_g33_1,v56_g33_2,v59_g33_4,l62,sf4,sf5,Z⟩:=rk hR63 hR
 refine sq (L_lda (cs:=[I x18.1,v54_g33_1,v56_g33_2,I g33_3_58,v59_g33_4]) rfl Tryz.isAgg79 Tryz.sizeOf79 sf5 (At.sub0 (Blk.at (Star.blkAt 4 Z rfl)) 0 5) rfl (L_staB (vs:=#[I x18.1,v54_g33_1,v56_g33_2,I g33_3_58,v59_g33_4]) (cs2:=#[I x18.1,v54_g33_1,v56_g33_2,I g33_3_58,v59_g33_4]) 5 rfl Tryz.sizeOf79 sf4 rfl rfl (ones_cons rfl (ones_cons (one_len (Star.len 1 Z rfl)) (ones_cons (one_len (Star.len 2 Z rfl)) (ones_cons rfl (ones_cons (one_len (Star.len 3 Z rfl)) ones_nil))))) Z rfl (by show 0 + 5≤5; decide) rfl (fun w269 Z=>nn (W_ret (retG1 (v1:=.agg #[I x18.1,v54_g33_1,v56_g33_2,I g33_3_58,v59_g33_4]) Tryz.results128 (resV_agg Tryz.isAgg79 Tryz.sizeOf79 sf4 (Star.blkAt 0 Z rfl) rfl) ?_)))))
 obtain rfl:=so hF
 have Z:=Z.gets [1,4,4,4] rfl
 exact ⟨v54_g33_1,v56_g33_2,v59_g33_4,rfl,(Star.down (Star.keepN 4 Z) l62 (co closed_int (co closed_int (cc (closed_own (OR.closed_ownS (OR.closed_ownS closed_int)) _ _) (cb c0)))))⟩
theorem s_l6Model_c {fu : Nat} {r_ : Rd} {g_0 : Nat} {v0_0 : Value} {H : FH} {w : World} {R : List Ass} (Z : Star H w (box g_0 136 #[v0_0,I r_.p] :: R)) (h0_0 : (rS 5 RP.u8).rel H [v0_0] r_.b) {r : Model × Int} (hF : s_l6Model fu r_ = some r) :
 C Tryz.prog 74 #[Pt g_0] w fun v w'=>∃ H' : FH,Le H H'∧∃ (u1 : Value) (u2 : Value),v = .agg #[u1,u2]∧(rS 3 RP.int).rel H' [u1] r.1.sizes∧Star H' w' (oS 79 (oRule 3 23) u2 r.1.rules :: box g_0 136 #[v0_0,I r.2] :: R):=by
 unfold s_l6Model at hF
 refine C_enter Tryz.func74 rfl Tryz.ntmps74 rfl (sq (L_al (cs:=#[S0,S0]) rfl Tryz.zeroValue26 rfl Z (fun g3 w4 Z=>ns (L_bld rfl (parts0 ) (bld_26_  ) (L_al (cs:=#[S0,S0]) rfl Tryz.zeroValue26 rfl Z (fun g8 w9 Z=>L_staB (vs:=#[S0,S0]) (cs2:=#[S0,S0]) 0 rfl Tryz.sizeOf26 rfl rfl rfl (ones_cons rfl (ones_cons rfl ones_nil)) Z rfl (by show 0 + 2≤2; decide) rfl (fun w10 Z=>nq (W_seq ?_))))))))
 obtain ⟨x20,hx20,hF⟩:=bind_some hF
 refine W_region (mV (Pt g_0) rfl (L_bs rfl (parts4 rfl rfl rfl rfl) (bs_23_4_0_0_0_0 (I 3) (I 2) (I 4) (I 3) rfl rfl rfl rfl) Z (fun g22 w23 Z=>?_)))
 have Z:=litInts [3,2,4,3] 4 Z rfl rfl (by decide)
 have Z:=Z.get 3 rfl
 obtain ⟨H25b,l26,s27,z28,k29⟩:=Z.lend [_]
 have hb30 : (rS 3 RP.int).rel H25b [(Sl g22 4 4)] ([3,2,4,3]):=fz_own 0 z28 rfl
 refine L_call rfl Tryz.call75 (ops2 rfl rfl) (s_l17Rd_num_c (r_:=r_) (list:=[3,2,4,3]) s27 (RP.mono _ h0_0 l26) hb30 hx20) ?_
 rintro _ w31 ⟨rfl,Z⟩
 have Z:=k29 Z (cb c0)
 refine aI rfl (nn ?_)
 obtain ⟨j39,hL39,hF⟩:=bind_some hF
 obtain ⟨R39,hR39⟩:=exR fun f w_=>∃ i_33 : Int,∃ g_0_1_34 : Int,∃ g8_0_35 : List Int,∃ H37 : FH,∃ v35_g8_0 : Value,j39 = .nx (i_33,g_0_1_34,g8_0_35)∧Le H H37∧f 0 = Pt g_0∧f 2 = Pt g3∧f 3 = Pt g8∧Star H37 w_ (box g_0 136 #[v0_0,I g_0_1_34] :: oF 3 RP.int v35_g8_0 g8_0_35 :: box g8 26 #[v35_g8_0,S0] :: box g3 26 #[S0,S0] :: R)
 refine W_join R39 ?_ ?_
 refine W_block ?_
 obtain ⟨I39,hI39⟩:=exI fun n f w_=>∃ i_33 : Int,∃ g_0_1_34 : Int,∃ g8_0_35 : List Int,∃ H37 : FH,∃ v35_g8_0 : Value,whileL (s_l6Model_b1 r_) n (i_33,g_0_1_34,g8_0_35) = some j39∧Le H H37∧f 0 = Pt g_0∧f 2 = Pt g3∧f 3 = Pt g8∧f 4 = I i_33∧Star H37 w_ (box g_0 136 #[v0_0,I g_0_1_34] :: oF 3 RP.int v35_g8_0 g8_0_35 :: box g8 26 #[v35_g8_0,S0] :: box g3 26 #[S0,S0] :: R)
 have Z:=Star.addNil (R:=(OR.frz RP.int)) (e:=3) Z
 have Z:=Z.gets [4,4,2,3] rfl
 have Z:=Star.drop 4 Z rfl
 refine W_loop I39 (n:=fu) ?_ ?_
 exact ij hI39 ⟨x20.1,x20.2,[],H,S0,hL39,(Le.refl _),rfl,rfl,rfl,rfl,Z⟩
 intro n39 f w_ hI
 obtain ⟨i_33,g_0_1_34,g8_0_35,H37,v35_g8_0,hL39,l38,sf0,sf2,sf3,sf4,Z⟩:=ik hI39 hI
 rcases n39 with _ | n39
 exact (while_zero hL39).elim
 obtain ⟨o39,hB39,hL39⟩:=while_succ hL39
 rw [s_l6Model_b1] at hB39
 refine W_seq (sq (mF sf4 rfl (L_gtr rfl rfl rfl (nn (W_cond (b:=decide (i_33 > 0)) rfl (fun hc41=>?_) (fun hc41=>?_))))))
 have hB39:=(ite_t hc41).symm.trans hB39
 refine W_skip (W_seq (W_block ?_))
 obtain ⟨x51,hx51,hB39⟩:=bind_some hB39
 obtain ⟨x56,hx56,hB39⟩:=bind_some hB39
 have Z:=Z.gets [3,3,3] rfl
 refine W_drawS 6 [isV (Pt g8),isV (v35_g8_0),isV (Pt g_0),anyF,isV (I x51.1),anyF] [oF 3 RP.int v35_g8_0 g8_0_35,box g8 26 #[v35_g8_0,S0],box g3 26 #[S0,S0]] [.base (box g_0 136 #[v0_0,I g_0_1_34]) (some 4),.made 3 19 (fun v_=>oF 3 RP.int v_ ([2,1,3,2,0])) none,.made 4 20 (fun v_=>box g_0 136 #[v0_0,I x51.2]) none,.made 5 21 (fun v_=>oF 3 RP.int v_ ([x51.1])) none] (R) [([],[]),([],[]),([],[]),([],[1]),([0,1],[1,2]),([],[3])] (S:=[(none,[],some 4),(some 3,[19],none),(some 4,[20],none),(some 5,[21],none)]) Tryz_mix (by kernel_rfl) rfl (by kernel_rfl) (amF_cons (mono_V _) (amF_cons (mono_V _) (amF_cons (mono_V _) (amF_cons (mono_any) (amF_cons (mono_V _) (amF_cons (mono_any) amF_nil)))))) Z ?_ (fun f w_ H61 hS61 hE61 hT61 Z=>?_)
 refine opsS_cons (fun f w_ _ _ s _ _ Z=>fA 0 fa_26_0 ((s 3 rfl).trans sf3) rfl (nO rfl rfl Z)) (opsS_cons (fun f w_ _ _ _ _ p Z=>ldB 1 Z Tryz.isAgg23 (p 0 16 rfl rfl) rfl rfl (nO rfl rfl Z)) (opsS_cons (fun f w_ _ _ s _ _ Z=>mF ((s 0 rfl).trans sf0) rfl (nO rfl rfl Z)) (opsS_cons ?_ ?_)))
 intro f w_ H61 X61 hS61 hE61 hP61 Z
 refine L_bs rfl (parts5 rfl rfl rfl rfl rfl) (bs_23_5_0_0_0_0_0 (I 2) (I 1) (I 3) (I 2) (I 0) rfl rfl rfl rfl rfl) Z (fun g75 w76 Z=>?_)
 have Z:=litInts [2,1,3,2,0] 5 Z rfl rfl (by decide)
 have Z:=Z.gets [3,3,3] rfl
 exact L_nil ⟨rfl,_,_,rfl,Le.refl _,fun _ _=>trivial,Z⟩
 refine opsS_cons ?_ ?_
 intro f w_ H61 X61 hS61 hE61 hP61 Z
 have Z : Star H61 w_ (oF 3 RP.int v35_g8_0 g8_0_35 :: box g8 26 #[v35_g8_0,S0] :: box g3 26 #[S0,S0] :: box g_0 136 #[v0_0,I g_0_1_34] :: oF 3 RP.int (f 19) ([2,1,3,2,0]) :: X61):=Z
 have Z:=Z.get 3 rfl
 obtain ⟨H79b,l80,s81,z82,k83⟩:=Z.lend [_]
 have hb84 : (rS 3 RP.int).rel H79b [(f 19)] ([2,1,3,2,0]):=fz_own 3 z82 rfl
 refine L_call rfl Tryz.call75 (ops2 (hP61 2 18 rfl rfl) rfl) (s_l17Rd_num_c (r_:=({ b:=r_.b,p:=g_0_1_34 } : Rd)) (list:=[2,1,3,2,0]) s81 (RP.mono _ h0_0 (Le.trans (Le.trans l38 hE61) l80)) hb84 hx51) ?_
 rintro _ w85 ⟨rfl,Z⟩
 have Z:=k83 Z (cb c0)
 have Z:=Z.gets [4,4,4,4] rfl
 exact L_nil ⟨rfl,_,_,rfl,Le.refl _,fun _ _=>rfl,Z⟩
 refine opsS_cons ?_ ?_
 intro f w_ H61 X61 hS61 hE61 hP61 Z
 refine L_bs rfl (parts1 (hP61 4 20 rfl rfl)) (bs_23_1_0 (I x51.1) rfl) Z (fun g86 w87 Z=>?_)
 have Z:=Star.addF (r:=RP.int) (cs:=[I x51.1]) (x:=x51.1) Z rfl
 have Z:=Star.mkRow (R:=(OR.frz RP.int)) [([I x51.1],x51.1)] [x51.1] 1 Z rfl rfl rfl (by decide)
 have Z:=Z.gets [3,3,3] rfl
 exact L_nil ⟨rfl,_,_,rfl,Le.refl _,fun _ _=>trivial,Z⟩
 exact opsS_nil
 have Z : Star H61 w_ (oF 3 RP.int v35_g8_0 g8_0_35 :: box g8 26 #[v35_g8_0,S0] :: box g3 26 #[S0,S0] :: oF 3 RP.int (f 19) ([2,1,3,2,0]) :: box g_0 136 #[v0_0,I x51.2] :: oF 3 RP.int (f 21) ([x51.1]) :: R):=Z
 have Z:=Z.gets [5,1] rfl
 refine L_appM (v:=v35_g8_0) (u:=(f 21)) rfl et_23 (hT61 1 17 rfl rfl) rfl Z hx56 (fun v90 w91 Z=>fA 0 fa_26_0 ((hS61 3 rfl).trans sf3) rfl (L_stB (v:=v90) (cs2:=#[v90,S0]) 1 rfl Tryz.sizeOf23 rfl rfl (one_len (Star.len 0 Z rfl)) Z rfl rfl rfl (fun w93 Z=>nn (W_region (mF ((hS61 4 rfl).trans sf4) rfl (L_sub rfl rfl rfl (aI rfl (nn ?_))))))))
 obtain rfl:=so hB39
 have Z:=Z.gets [2,1,2,4] rfl
 have Z:=Star.drop 4 Z rfl
 show ∃ m,m < _∧I39 m _ _
 refine ⟨n39,Nat.lt_succ_self _,?_⟩
 exact ij hI39 ⟨i64 (i_33 - 1),x51.2,x56,H61,v90,hL39,(Le.trans l38 hE61),((hS61 0 rfl).trans sf0),((hS61 2 rfl).trans sf2),((hS61 3 rfl).trans sf3),rfl,Z⟩
 have hB39:=(ite_f hc41).symm.trans hB39
 refine W_exit ?_
 obtain rfl:=so hB39
 obtain rfl:=so hL39
 exact rj hR39 ⟨i_33,g_0_1_34,g8_0_35,H37,v35_g8_0,rfl,l38,sf0,sf2,sf3,Z⟩
 intro f w_ hR
 obtain ⟨i_33,g_0_1_34,g8_0_35,H37,v35_g8_0,rfl,l38,sf0,sf2,sf3,Z⟩:=rk hR39 hR
 refine W_seq (sq (aI rfl (nn ?_)))
 obtain ⟨j100,hL100,hF⟩:=bind_some hF
 obtain ⟨R100,hR100⟩:=exR fun f w_=>∃ n_95 : Int,∃ g8_0_96 : List Int,∃ H98 : FH,∃ v96_g8_0 : Value,j100 = .nx (n_95,g8_0_96)∧Le H37 H98∧f 0 = Pt g_0∧f 2 = Pt g3∧f 3 = Pt g8∧(rS 3 RP.int).rel H98 [v96_g8_0] g8_0_96∧Star H98 w_ (box g_0 136 #[v0_0,I g_0_1_34] :: box g8 26 #[v96_g8_0,S0] :: box g3 26 #[S0,S0] :: R)
 refine W_join R100 ?_ ?_
 refine W_block ?_
 obtain ⟨I100,hI100⟩:=exI fun n f w_=>∃ n_95 : Int,∃ g8_0_96 : List Int,∃ H98 : FH,∃ v96_g8_0 : Value,whileL s_l6Model_b2 n (n_95,g8_0_96) = some j100∧Le H37 H98∧f 0 = Pt g_0∧f 2 = Pt g3∧f 3 = Pt g8∧f 5 = I n_95∧(rS 3 RP.int).rel H98 [v96_g8_0] g8_0_96∧Star H98 w_ (box g_0 136 #[v0_0,I g_0_1_34] :: box g8 26 #[v96_g8_0,S0] :: box g3 26 #[S0,S0] :: R)
 have Z:=Z.get 1 rfl
 obtain ⟨H101,l102,Z,hz103⟩:=Star.freeze Z
 have hz103 : (rS 3 RP.int).rel H101 [v35_g8_0] g8_0_35:=hz103
 refine W_loop I100 (n:=fu) ?_ ?_
 exact ij hI100 ⟨0,g8_0_35,H101,v35_g8_0,hL100,l102,sf0,sf2,sf3,rfl,hz103,Z⟩
 intro n100 f w_ hI
 obtain ⟨n_95,g8_0_96,H98,v96_g8_0,hL100,l99,sf0,sf2,sf3,sf5,hv97_g8_0,Z⟩:=ik hI100 hI
 rcases n100 with _ | n100
 exact (while_zero hL100).elim
 obtain ⟨o100,hB100,hL100⟩:=while_succ hL100
 rw [s_l6Model_b2] at hB100
 refine W_seq (sq (mF sf5 rfl (L_eql rfl rfl rfl (nn (W_cond (b:=(n_95 == 0)) rfl (fun hc104=>?_) (fun hc104=>?_))))))
 have hB100:=(ite_t hc104).symm.trans hB100
 refine W_skip (W_block (W_seq (sq (aI rfl (nn ?_)))))
 have hlen107 : List.length g8_0_96≤9223372036854775807:=len_le (slice_len hv97_g8_0)
 obtain ⟨j107,hL107,hB100⟩:=bind_some hB100
 obtain ⟨R107,hR107⟩:=exR fun f w_=>∃ n_106 : Int,j107 = .nx n_106∧f 0 = Pt g_0∧f 2 = Pt g3∧f 3 = Pt g8∧f 5 = I n_106∧Star H98 w_ (box g_0 136 #[v0_0,I g_0_1_34] :: box g8 26 #[v96_g8_0,S0] :: box g3 26 #[S0,S0] :: R)
 refine W_join R107 ?_ ?_
 refine W_block ?_
 obtain ⟨I107,hI107⟩:=exI fun n f w_=>∃ i_105 : Nat,∃ suf107 : List Int,∃ n_106 : Int,n = suf107.length∧List.drop i_105 g8_0_96 = suf107∧i_105 + suf107.length = g8_0_96.length∧rangeL s_l6Model_b3 suf107 i_105 n_106 = some j107∧f 0 = Pt g_0∧f 2 = Pt g3∧f 3 = Pt g8∧f 5 = I n_106∧f 6 = I i_105∧Star H98 w_ (box g_0 136 #[v0_0,I g_0_1_34] :: box g8 26 #[v96_g8_0,S0] :: box g3 26 #[S0,S0] :: R)
 refine W_loop I107 (n:=g8_0_96.length) ?_ ?_
 exact ij hI107 ⟨0,g8_0_96,n_95,rfl,rfl,Nat.zero_add _,hL107,sf0,sf2,sf3,sf5,rfl,Z⟩
 intro n107 f w_ hI
 obtain ⟨i_105,suf107,n_106,rfl,hd107,hl107,hL107,sf0,sf2,sf3,sf5,sf6,Z⟩:=ik hI107 hI
 refine W_seq (sq (mF sf6 rfl (fA 0 fa_26_0 sf3 rfl (ldB 1 Z Tryz.isAgg23 rfl rfl rfl (L_len rfl Tryz.underlying23 rfl (slice_len hv97_g8_0) (L_lss rfl rfl rfl (nn (W_cond (b:=decide ((i_105 : Int) < (g8_0_96.length : Int))) rfl (fun hc108=>?_) (fun hc108=>?_)))))))))
 have hlt107:=of_decide_eq_true hc108
 rcases suf107 with _ | ⟨x_107,rest107⟩
 exact absurd hlt107 (by simp at hl107; omega)
 obtain ⟨o107,hB107,hL107⟩:=range_cons hL107
 rw [s_l6Model_b3] at hB107
 have hix107:=drop_idx hd107
 refine W_skip (W_seq (W_block (W_region (mF sf5 rfl (fA 0 fa_26_0 sf3 rfl (ldB 1 Z Tryz.isAgg23 rfl rfl rfl (mF sf6 rfl (L_ix (r:=RP.int) rfl Tryz.underlying23 Tryz.sizeOf3 rfl hv97_g8_0 rfl hix107 (fun g113 o114 cs_g113 hrk_hat115 hat115=>?_)))))))))
 obtain rfl : _ = [_]:=hrk_hat115
 refine L_ld rfl Tryz.isAgg3 rfl (At.cell (AtH.at hat115 Z.sub) (j:=0) rfl) (L_add rfl rfl rfl (L_add rfl rfl rfl (aI rfl (nn (W_region (mF sf6 rfl (L_add rfl rfl rfl (aI rfl (nn ?_)))))))))
 obtain rfl:=so hB107
 show ∃ m,m < _∧I107 m _ _
 refine ⟨rest107.length,by simp,?_⟩
 exact ij hI107 ⟨i_105 + 1,rest107,i64 ((i64 (n_106 + x_107)) + 1),rfl,drop_next hd107,by simp at hl107; omega,hL107,sf0,sf2,sf3,rfl,(Eq.trans rfl (congrArg (Value.int .i64) (i64_succ (n:=g8_0_96.length) (by simp at hl107; omega) hlen107))),Z⟩
 rcases suf107 with _ | ⟨_,_⟩
 obtain rfl:=range_nil hL107
 refine W_exit (rj hR107 ⟨n_106,rfl,sf0,sf2,sf3,sf5,Z⟩)
 exact absurd (of_decide_eq_false hc108) (by simp at hl107; omega)
 intro f w_ hR
 obtain ⟨n_106,rfl,sf0,sf2,sf3,sf5,Z⟩:=rk hR107 hR
 refine sq (mF sf5 rfl (L_gtr rfl rfl rfl (nn ?_)))
 obtain ⟨⟨n_117,g8_0_118⟩,hA120,hB100⟩:=bind_some hB100
 obtain ⟨R120,hR120⟩:=exR fun f w_=>∃ v118_g8_0 : Value,f 0 = Pt g_0∧f 2 = Pt g3∧f 3 = Pt g8∧f 5 = I n_117∧(rS 3 RP.int).rel H98 [v118_g8_0] g8_0_118∧Star H98 w_ (box g_0 136 #[v0_0,I g_0_1_34] :: box g8 26 #[v118_g8_0,S0] :: box g3 26 #[S0,S0] :: R)
 refine W_join R120 ?_ ?_
 refine W_cond (b:=decide (n_106 > 12)) rfl (fun hc121=>?_) (fun hc121=>?_)
 have hA120:=(ite_t hc121).symm.trans hA120
 refine W_seq ?_
 obtain ⟨x122,hx122,hA120⟩:=bind_some hA120
 refine W_region (fA 0 fa_26_0 sf3 rfl (ldB 1 Z Tryz.isAgg23 rfl rfl rfl (fA 0 fa_26_0 sf3 rfl (ldB 1 Z Tryz.isAgg23 rfl rfl rfl (L_len rfl Tryz.underlying23 rfl (slice_len hv97_g8_0) (L_sub rfl rfl rfl (L_sl (a:=0) (b:=i64 ((g8_0_96.length : Int) - 1)) rfl et_23 rfl hv97_g8_0 rfl rfl hx122 (fun v126 hs127=>fA 0 fa_26_0 sf3 rfl (L_stB (v:=v126) (cs2:=#[v126,S0]) 1 rfl Tryz.sizeOf23 rfl rfl (one_len (slice_len hs127)) Z rfl rfl rfl (fun w128 Z=>nn (W_region (aI rfl (nn ?_)))))))))))))
 obtain ⟨rfl,rfl⟩:=so2 hA120
 have Z:=Z.gets [2,1,2] rfl
 exact rj hR120 ⟨v126,sf0,sf2,sf3,rfl,hs127,Z⟩
 have hA120:=(ite_f hc121).symm.trans hA120
 refine W_skip ?_
 obtain ⟨rfl,rfl⟩:=so2 hA120
 exact rj hR120 ⟨v96_g8_0,sf0,sf2,sf3,sf5,hv97_g8_0,Z⟩
 intro f w_ hR
 obtain ⟨v118_g8_0,sf0,sf2,sf3,sf5,hv119_g8_0,Z⟩:=rk hR120 hR
 obtain rfl:=so hB100
 show ∃ m,m < _∧I100 m _ _
 refine ⟨n100,Nat.lt_succ_self _,?_⟩
 exact ij hI100 ⟨n_117,g8_0_118,H98,v118_g8_0,hL100,l99,sf0,sf2,sf3,sf5,hv119_g8_0,Z⟩
 have hB100:=(ite_f hc104).symm.trans hB100
 refine W_exit ?_
 obtain rfl:=so hB100
 obtain rfl:=so hL100
 exact rj hR100 ⟨n_95,g8_0_96,H98,v96_g8_0,rfl,l99,sf0,sf2,sf3,hv97_g8_0,Z⟩
 intro f w_ hR
 obtain ⟨n_95,g8_0_96,H98,v96_g8_0,rfl,l99,sf0,sf2,sf3,hv97_g8_0,Z⟩:=rk hR100 hR
 refine W_seq (W_seq ?_)
 obtain ⟨x138,hx138,hF⟩:=bind_some hF
 refine W_region (mF sf0 rfl (L_bs rfl (parts5 rfl rfl rfl rfl rfl) (bs_23_5_0_0_0_0_0 (I 2) (I 3) (I 1) (I 4) (I 0) rfl rfl rfl rfl rfl) Z (fun g140 w141 Z=>?_)))
 have Z:=litInts [2,3,1,4,0] 5 Z rfl rfl (by decide)
 have Z:=Z.get 1 rfl
 obtain ⟨H143b,l144,s145,z146,k147⟩:=Z.lend [_]
 have hb148 : (rS 3 RP.int).rel H143b [(Sl g140 5 5)] ([2,3,1,4,0]):=fz_own 0 z146 rfl
 refine L_call rfl Tryz.call75 (ops2 rfl rfl) (s_l17Rd_num_c (r_:=({ b:=r_.b,p:=g_0_1_34 } : Rd)) (list:=[2,3,1,4,0]) s145 (RP.mono _ h0_0 (Le.trans (Le.trans l38 l99) l144)) hb148 hx138) ?_
 rintro _ w149 ⟨rfl,Z⟩
 have Z:=k147 Z (cb c0)
 refine aI rfl (nn ?_)
 obtain ⟨j157,hL157,hF⟩:=bind_some hF
 obtain ⟨R157,hR157⟩:=exR fun f w_=>∃ i_151 : Int,∃ g_0_1_152 : Int,∃ g8_1_153 : List Rule,∃ H155 : FH,∃ v153_g8_1 : Value,j157 = .nx (i_151,g_0_1_152,g8_1_153)∧Le H98 H155∧f 2 = Pt g3∧f 3 = Pt g8∧Star H155 w_ (box g_0 136 #[v0_0,I g_0_1_152] :: oS 79 (oRule 3 23) v153_g8_1 g8_1_153 :: box g8 26 #[v96_g8_0,v153_g8_1] :: box g3 26 #[S0,S0] :: R)
 refine W_join R157 ?_ ?_
 refine W_block ?_
 obtain ⟨I157,hI157⟩:=exI fun n f w_=>∃ i_151 : Int,∃ g_0_1_152 : Int,∃ g8_1_153 : List Rule,∃ H155 : FH,∃ v153_g8_1 : Value,whileL (s_l6Model_b4 fu r_ g8_0_96) n (i_151,g_0_1_152,g8_1_153) = some j157∧Le H98 H155∧f 0 = Pt g_0∧f 2 = Pt g3∧f 3 = Pt g8∧f 7 = I i_151∧Star H155 w_ (box g_0 136 #[v0_0,I g_0_1_152] :: oS 79 (oRule 3 23) v153_g8_1 g8_1_153 :: box g8 26 #[v96_g8_0,v153_g8_1] :: box g3 26 #[S0,S0] :: R)
 have Z:=Star.addNil (R:=(oRule 3 23)) (e:=79) Z
 have Z:=Z.gets [4,4,2,3] rfl
 have Z:=Star.drop 4 Z rfl
 refine W_loop I157 (n:=fu) ?_ ?_
 exact ij hI157 ⟨x138.1,x138.2,[],H98,S0,hL157,(Le.refl _),sf0,sf2,sf3,rfl,Z⟩
 intro n157 f w_ hI
 obtain ⟨i_151,g_0_1_152,g8_1_153,H155,v153_g8_1,hL157,l156,sf0,sf2,sf3,sf7,Z⟩:=ik hI157 hI
 rcases n157 with _ | n157
 exact (while_zero hL157).elim
 obtain ⟨o157,hB157,hL157⟩:=while_succ hL157
 rw [s_l6Model_b4] at hB157
 refine W_seq (sq (mF sf7 rfl (L_gtr rfl rfl rfl (nn (W_cond (b:=decide (i_151 > 0)) rfl (fun hc159=>?_) (fun hc159=>?_))))))
 have hB157:=(ite_t hc159).symm.trans hB157
 refine W_skip (W_seq (W_block ?_))
 obtain ⟨x166,hx166,hB157⟩:=bind_some hB157
 obtain ⟨x174,hx174,hB157⟩:=bind_some hB157
 have Z:=Z.gets [3,3,3] rfl
 refine W_drawS 6 [isV (Pq g8 1),isV (v153_g8_1),isV (Pt g_0),isV (.agg #[v96_g8_0,v153_g8_1]),exA fun u_1=>exA fun u_2=>exA fun u_4=>isV (.agg #[I x166.1.kind,u_1,u_2,I x166.1.bound,u_4]),anyF] [oS 79 (oRule 3 23) v153_g8_1 g8_1_153,box g8 26 #[v96_g8_0,v153_g8_1],box g3 26 #[S0,S0]] [.base (box g_0 136 #[v0_0,I g_0_1_152]) (some 4),.made 4 62 (fun v_=>oF 3 RP.int (aggC v_ 1) x166.1.vars) (some 5),.made 4 62 (fun v_=>oF 3 RP.int (aggC v_ 2) x166.1.coefs) (some 5),.made 4 62 (fun v_=>own (OR.ownS 23 (OR.ownS 3 (OR.frz RP.int))) [(aggC v_ 4)] x166.1.rows) (some 5),.made 4 62 (fun v_=>box g_0 136 #[v0_0,I x166.2]) none,.made 5 63 (fun v_=>oS 79 (oRule 3 23) v_ ([x166.1])) none] (R) [([],[]),([],[]),([],[]),([],[]),([0],[1,2,3,4]),([1,2,3],[5])] (S:=[(none,[],some 4),(some 4,[62],some 5),(some 4,[62],some 5),(some 4,[62],some 5),(some 4,[62],none),(some 5,[63],none)]) Tryz_mix (by kernel_rfl) rfl (by kernel_rfl) (amF_cons (mono_V _) (amF_cons (mono_V _) (amF_cons (mono_V _) (amF_cons (mono_V _) (amF_cons (mono_exA fun _=>mono_exA fun _=>mono_exA fun _=>mono_V _) (amF_cons (mono_any) amF_nil)))))) Z ?_ (fun f w_ H179 hS179 hE179 hT179 Z=>?_)
 refine opsS_cons (fun f w_ _ _ s _ _ Z=>fA 1 fa_26_1 ((s 3 rfl).trans sf3) rfl (nO rfl rfl Z)) (opsS_cons (fun f w_ _ _ _ _ p Z=>ldB 1 Z Tryz.isAgg24 (p 0 58 rfl rfl) rfl rfl (nO rfl rfl Z)) (opsS_cons (fun f w_ _ _ s _ _ Z=>mF ((s 0 rfl).trans sf0) rfl (nO rfl rfl Z)) (opsS_cons (fun f w_ _ _ s _ _ Z=>L_lda (cs:=[v96_g8_0,v153_g8_1]) rfl Tryz.isAgg26 Tryz.sizeOf26 ((s 3 rfl).trans sf3) (At.sub0 (Blk.at (Star.blkAt 1 Z rfl)) 0 2) rfl (nO rfl rfl Z)) (opsS_cons ?_ ?_))))
 intro f w_ H179 X179 hS179 hE179 hP179 Z
 have Z : Star H179 w_ (oS 79 (oRule 3 23) v153_g8_1 g8_1_153 :: box g8 26 #[v96_g8_0,v153_g8_1] :: box g3 26 #[S0,S0] :: box g_0 136 #[v0_0,I g_0_1_152] :: X179):=Z
 have Z:=Z.get 3 rfl
 obtain ⟨H193b,l194,s195,z196,k197⟩:=Z.lend [_]
 have hb198 : (rS 79 (rRule 3 23)).rel H193b [v153_g8_1] g8_1_153:=fz_own 0 z196 rfl
 refine L_call rfl Tryz.call128 (ops2 (hP179 2 60 rfl rfl) (hP179 3 61 rfl rfl)) (s_l6Draw_c (r_:=({ b:=r_.b,p:=g_0_1_152 } : Rd)) (m:=({ sizes:=g8_0_96,rules:=g8_1_153 } : Model)) s195 (RP.mono _ h0_0 (Le.trans (Le.trans (Le.trans (Le.trans l38 l99) l156) hE179) l194)) (RP.mono _ hv97_g8_0 (Le.trans (Le.trans l156 hE179) l194)) hb198 hx166) ?_
 rintro _ w199 ⟨r199_0,r199_1,r199_2,rfl,Z⟩
 have Z:=k197 Z (co closed_int (co closed_int (cc (closed_own (OR.closed_ownS (OR.closed_ownS closed_int)) _ _) (cb c0))))
 have Z:=Z.gets [3,3,3,3,6,6,6] rfl
 exact L_nil ⟨rfl,_,_,rfl,Le.refl _,fun _ _=>⟨_,_,_,rfl⟩,Z⟩
 refine opsS_cons ?_ ?_
 intro f w_ H179 X179 hS179 hE179 hP179 Z
 have Z : Star H179 w_ (oS 79 (oRule 3 23) v153_g8_1 g8_1_153 :: box g8 26 #[v96_g8_0,v153_g8_1] :: box g3 26 #[S0,S0] :: own (OR.ownS 3 (OR.frz RP.int)) [(aggC (f 62) 1)] x166.1.vars :: own (OR.ownS 3 (OR.frz RP.int)) [(aggC (f 62) 2)] x166.1.coefs :: own (OR.ownS 23 (OR.ownS 3 (OR.frz RP.int))) [(aggC (f 62) 4)] x166.1.rows :: X179):=Z
 obtain ⟨u203_1,u203_2,u203_4,hv203⟩:=(hP179 4 62 rfl rfl)
 have hren : Star H179 w_ (oS 79 (oRule 3 23) v153_g8_1 g8_1_153 :: box g8 26 #[v96_g8_0,v153_g8_1] :: box g3 26 #[S0,S0] :: own (OR.ownS 3 (OR.frz RP.int)) [(aggC (f 62) 1)] x166.1.vars :: own (OR.ownS 3 (OR.frz RP.int)) [(aggC (f 62) 2)] x166.1.coefs :: own (OR.ownS 23 (OR.ownS 3 (OR.frz RP.int))) [(aggC (f 62) 4)] x166.1.rows :: X179):=Z
 rw [hv203] at hren
 have Z : Star H179 w_ (oS 79 (oRule 3 23) v153_g8_1 g8_1_153 :: box g8 26 #[v96_g8_0,v153_g8_1] :: box g3 26 #[S0,S0] :: oF 3 RP.int u203_1 x166.1.vars :: oF 3 RP.int u203_2 x166.1.coefs :: own (OR.ownS 23 (OR.ownS 3 (OR.frz RP.int))) [u203_4] x166.1.rows :: X179):=hren
 refine L_bs rfl (parts1 hv203) (bs_24_1_5 (I x166.1.kind) (u203_1) (u203_2) (I x166.1.bound) (u203_4) ) Z (fun g204 w205 Z=>?_)
 have Z:=Z.gets [6,6,6] rfl
 have Z:=oRule_close (r:=x166.1) Z
 have Z:=Star.mkRow (R:=(oRule 3 23)) [([I x166.1.kind,u203_1,u203_2,I x166.1.bound,u203_4],x166.1)] [x166.1] 1 Z rfl rfl rfl (by decide)
 have Z:=Z.gets [3,3,3] rfl
 exact L_nil ⟨rfl,_,_,rfl,Le.refl _,fun _ _=>trivial,Z⟩
 exact opsS_nil
 have Z : Star H179 w_ (oS 79 (oRule 3 23) v153_g8_1 g8_1_153 :: box g8 26 #[v96_g8_0,v153_g8_1] :: box g3 26 #[S0,S0] :: box g_0 136 #[v0_0,I x166.2] :: oS 79 (oRule 3 23) (f 63) ([x166.1]) :: R):=Z
 have Z:=Z.gets [4,1] rfl
 refine L_appM (v:=v153_g8_1) (u:=(f 63)) rfl et_24 (hT179 1 59 rfl rfl) rfl Z hx174 (fun v208 w209 Z=>fA 1 fa_26_1 ((hS179 3 rfl).trans sf3) rfl (L_stB (v:=v208) (cs2:=#[v96_g8_0,v208]) 1 rfl Tryz.sizeOf24 rfl rfl (one_len (Star.len 0 Z rfl)) Z rfl rfl rfl (fun w211 Z=>nn (W_region (mF ((hS179 7 rfl).trans sf7) rfl (L_sub rfl rfl rfl (aI rfl (nn ?_))))))))
 obtain rfl:=so hB157
 have Z:=Z.gets [2,1,2,3] rfl
 show ∃ m,m < _∧I157 m _ _
 refine ⟨n157,Nat.lt_succ_self _,?_⟩
 exact ij hI157 ⟨i64 (i_151 - 1),x166.2,x174,H179,v208,hL157,(Le.trans l156 hE179),((hS179 0 rfl).trans sf0),((hS179 2 rfl).trans sf2),((hS179 3 rfl).trans sf3),rfl,Z⟩
 have hB157:=(ite_f hc159).symm.trans hB157
 refine W_exit ?_
 obtain rfl:=so hB157
 obtain rfl:=so hL157
 exact rj hR157 ⟨i_151,g_0_1_152,g8_1_153,H155,v153_g8_1,rfl,l156,sf2,sf3,Z⟩
 intro f w_ hR
 obtain ⟨i_151,g_0_1_152,g8_1_153,H155,v153_g8_1,rfl,l156,sf2,sf3,Z⟩:=rk hR157 hR
 refine sq (L_lda (cs:=[v96_g8_0,v153_g8_1]) rfl Tryz.isAgg26 Tryz.sizeOf26 sf3 (At.sub0 (Blk.at (Star.blkAt 2 Z rfl)) 0 2) rfl (L_staB (vs:=#[v96_g8_0,v153_g8_1]) (cs2:=#[v96_g8_0,v153_g8_1]) 3 rfl Tryz.sizeOf26 sf2 rfl rfl (ones_cons (one_len (slice_len (RP.mono _ hv97_g8_0 l156))) (ones_cons (one_len (Star.len 1 Z rfl)) ones_nil)) Z rfl (by show 0 + 2≤2; decide) rfl (fun w213 Z=>nn (W_ret (retG1 (v1:=.agg #[v96_g8_0,v153_g8_1]) Tryz.results74 (resV_agg Tryz.isAgg26 Tryz.sizeOf26 sf2 (Star.blkAt 0 Z rfl) rfl) ?_)))))
 obtain rfl:=so hF
 have Z:=Z.gets [1,2] rfl
 have Z:=Star.drop 2 Z rfl
 have Z:=Star.drop 2 Z rfl
 exact ⟨H155,(Le.trans (Le.trans l38 l99) l156),v96_g8_0,v153_g8_1,rfl,(RP.mono _ hv97_g8_0 l156),Z⟩
theorem s_DrawModelValid_c {fu : Nat} {code : List UInt8} {v0 : Value} {H : FH} {w : World} {R : List Ass} (Z : Star H w R) (h0 : (rS 5 RP.u8).rel H [v0] code) {r : Unit} (hF : s_DrawModelValid fu code = some r) :
 C Tryz.prog 45 #[v0] w fun v w'=>∃ o : Model,(sModel o)∧∃ H' : FH,Le H H'∧∃ (u1 : Value) (u2 : Value),v = .agg #[u1,u2]∧(rS 3 RP.int).rel H' [u1] o.sizes∧(rS 79 (rRule 3 23)).rel H' [u2] o.rules∧Star H' w' (R):=by
 unfold s_DrawModelValid at hF
 refine C_enter Tryz.func45 rfl Tryz.ntmps45 rfl (sq (L_al (cs:=#[S0,S0]) rfl Tryz.zeroValue26 rfl Z (fun g3 w4 Z=>nq ?_)))
 obtain ⟨x5,hx5,hF⟩:=bind_some hF
 refine W_region (mV v0 rfl (L_call rfl Tryz.call72 (ops1 rfl) (s_l17Open_c (code:=code) Z h0 hx5) ?_))
 rintro _ w7 ⟨H7,l7,r7_0,r7_1,rfl,hr7_1,Z⟩
 refine aV (Pt r7_0) rfl (nq ?_)
 obtain ⟨x8,hx8,hF⟩:=bind_some hF
 obtain ⟨hx14,hF⟩:=anyB_some hF
 refine W_region (mV (Pt r7_0) rfl (mV (Pt r7_0) rfl (L_call rfl Tryz.call74 (ops1 rfl) (s_l6Model_c (r_:=x5) Z hr7_1 hx8) ?_)))
 rintro _ w17 ⟨H17,l17,r17_0,r17_1,rfl,hr17_0,Z⟩
 obtain ⟨H19,l20,Z,hz21⟩:=Star.freeze Z
 have hz21 : (rS 79 (rRule 3 23)).rel H19 [r17_1] x8.1.rules:=hz21
 refine L_call rfl Tryz.call73 (ops2 rfl rfl) (s_l6Mutate_c (r_:=({ b:=x5.b,p:=x8.2 } : Rd)) (m:=x8.1) Z (RP.mono _ hr7_1 (Le.trans l17 l20)) (RP.mono _ hr17_0 l20) hz21 hx14) ?_
 rintro _ w22 ⟨x14,gd22,H22,l22,r22_0,r22_1,rfl,hr22_0,hr22_1,Z⟩
 have hF:=hF x14 gd22
 refine L_staB (vs:=#[r22_0,r22_1]) (cs2:=#[r22_0,r22_1]) 1 rfl Tryz.sizeOf26 rfl rfl rfl (ones_cons (one_len (slice_len hr22_0)) (ones_cons (one_len (slice_len hr22_1)) ones_nil)) Z rfl (by show 0 + 2≤2; decide) rfl (fun w23 Z=>nn (W_ret (retG1 (v1:=.agg #[r22_0,r22_1]) Tryz.results45 (resV_agg Tryz.isAgg26 Tryz.sizeOf26 rfl (Star.blkAt 0 Z rfl) rfl) ?_)))
 have hG:=assertM_some hF
 have Z:=Star.drop 0 Z rfl
 have Z:=Star.drop 0 Z rfl
 exact ⟨x14.1,hG,H22,(Le.trans (Le.trans (Le.trans l7 l17) l20) l22),r22_0,r22_1,rfl,hr22_0,hr22_1,Z⟩
theorem s_DrawEncodeModel_c {fu : Nat} {code : List UInt8} {v0 : Value} {H : FH} {w : World} {R : List Ass} (Z : Star H w R) (h0 : (rS 5 RP.u8).rel H [v0] code) {r : Unit} (hF : s_DrawEncodeModel fu code = some r) :
 C Tryz.prog 12 #[v0] w fun v w'=>∃ o : Model,(sModel o)∧∃ H' : FH,Le H H'∧∃ (u1 : Value) (u2 : Value),v = .agg #[u1,u2]∧(rS 3 RP.int).rel H' [u1] o.sizes∧(rS 79 (rRule 3 23)).rel H' [u2] o.rules∧Star H' w' (R):=by
 unfold s_DrawEncodeModel at hF
 refine C_enter Tryz.func12 rfl Tryz.ntmps12 rfl (sq (L_al (cs:=#[S0,S0]) rfl Tryz.zeroValue26 rfl Z (fun g3 w4 Z=>nq ?_)))
 obtain ⟨hx5,hF⟩:=anyB_some hF
 refine W_region (mV v0 rfl (L_call rfl Tryz.call45 (ops1 rfl) (s_DrawModelValid_c (code:=code) Z h0 hx5) ?_))
 rintro _ w8 ⟨x5,gd8,H8,l8,r8_0,r8_1,rfl,hr8_0,hr8_1,Z⟩
 have hF:=hF x5 gd8
 refine L_staB (vs:=#[r8_0,r8_1]) (cs2:=#[r8_0,r8_1]) 0 rfl Tryz.sizeOf26 rfl rfl rfl (ones_cons (one_len (slice_len hr8_0)) (ones_cons (one_len (slice_len hr8_1)) ones_nil)) Z rfl (by show 0 + 2≤2; decide) rfl (fun w9 Z=>nn (W_ret (retG1 (v1:=.agg #[r8_0,r8_1]) Tryz.results12 (resV_agg Tryz.isAgg26 Tryz.sizeOf26 rfl (Star.blkAt 0 Z rfl) rfl) ?_)))
 have hG:=assertM_some hF
 have Z:=Star.drop 0 Z rfl
 exact ⟨x5,hG,H8,l8,r8_0,r8_1,rfl,hr8_0,hr8_1,Z⟩
theorem i_within_c {n_ : Int} {low : Int} {high : Int} {H : FH} {w : World} (Z : Star H w []) {r : Bool} (hF : i_within n_ low high = some r) :
 C Tryz.prog 92 #[I n_,I low,I high] w fun v w'=>v = Bo r∧Star H w' []:=by
 unfold i_within at hF
 refine C_enter Tryz.func92 rfl Tryz.ntmps92 rfl (sq (aB rfl (nq ?_)))
 obtain ⟨R1,hR1⟩:=exR fun f w_=>f 6 = Bo ((decide (low≤n_)) && (decide (n_≤high)))∧Star H w_ ([])
 refine W_join R1 ?_ ?_
 refine W_region (mI rfl (mI rfl (L_leq rfl rfl rfl (mB rfl (L_split (d:=10) (b:=decide (low≤n_)) rfl (fun hc2=>?_) (fun hc2=>?_))))))
 refine mI rfl (mI rfl (L_leq rfl rfl rfl (L_pick (v:=Bo ((decide (low≤n_)) && (decide (n_≤high)))) rfl rfl (and_t hc2 rfl) (aB rfl (nn (rj hR1 ⟨rfl,Z⟩))))))
 refine ps rfl (ps rfl (ps rfl (L_pick (v:=Bo ((decide (low≤n_)) && (decide (n_≤high)))) rfl rfl (and_f hc2) (aB rfl (nn (rj hR1 ⟨rfl,Z⟩))))))
 intro f w_ hR
 obtain ⟨sf6,Z⟩:=rk hR1 hR
 refine W_ret (retG1 (v1:=Bo ((decide (low≤n_)) && (decide (n_≤high)))) Tryz.results92 sf6 ?_)
 obtain rfl:=so hF
 exact ⟨rfl,Z⟩
theorem slices_IndexFunc_implRule_c {s : List Rule} {f_ : (Rule→Option Bool)} {v0 : Value} {v1 : Value} {H : FH} {w : World} (Z : Star H w []) (h0 : (rS 79 (rRule 3 23)).rel H [v0] s) (h1 : Fun1 Tryz.prog (rRule 3 23) true Value.bool f_ v1 H) {r : Int} (hF : slices_IndexFunc_implRule s f_ = some r) :
 C Tryz.prog 136 #[v0,v1] w fun v w'=>v = I r∧Star H w' []:=by
 unfold slices_IndexFunc_implRule at hF
 obtain ⟨fid_1,caps_1,rfl,hcall_1,hc_1⟩:=h1
 refine C_enter Tryz.func136 rfl Tryz.ntmps136 rfl (sq (aI rfl (nq (sq (mV v0 rfl (L_len rfl Tryz.underlying24 rfl (slice_len h0) (mI rfl (nn ?_))))))))
 have hlen2 : List.length s≤9223372036854775807:=len_le (slice_len h0)
 obtain ⟨j2,hL2,hF⟩:=bind_some hF
 obtain ⟨R2,hR2⟩:=exR fun f w_=>j2 = .nx ()∧Star H w_ ([])
 refine W_join R2 ?_ ?_
 refine W_block ?_
 obtain ⟨I2,hI2⟩:=exI fun n f w_=>∃ i_1 : Nat,∃ suf2 : List Rule,n = suf2.length∧List.drop i_1 s = suf2∧i_1 + suf2.length = s.length∧rangeL (slices_IndexFunc_implRule_b1 f_) suf2 i_1 () = some j2∧f 0 = v0∧f 1 = .func (.func fid_1) #[] caps_1∧f 7 = I (s.length : Int)∧f 8 = I i_1∧Star H w_ ([])
 refine W_loop I2 (n:=s.length) ?_ ?_
 exact ij hI2 ⟨0,s,rfl,rfl,Nat.zero_add _,hL2,rfl,rfl,rfl,rfl,Z⟩
 intro n2 f w_ hI
 obtain ⟨i_1,suf2,rfl,hd2,hl2,hL2,sf0,sf1,sf7,sf8,Z⟩:=ik hI2 hI
 refine sq (L_lss rfl sf8 sf7 (nq (W_cond (b:=decide ((i_1 : Int) < (s.length : Int))) rfl (fun hc3=>?_) (fun hc3=>?_))))
 have hlt2:=of_decide_eq_true hc3
 rcases suf2 with _ | ⟨x_2,rest2⟩
 exact absurd hlt2 (by simp at hl2; omega)
 obtain ⟨o2,hB2,hL2⟩:=range_cons hL2
 rw [slices_IndexFunc_implRule_b1] at hB2
 have hix2:=drop_idx hd2
 refine W_skip (W_seq (W_block (sq (mF sf8 rfl (aI rfl (nq ?_))))))
 obtain ⟨x8,hx8,hB2⟩:=bind_some hB2
 refine W_region (mF sf1 rfl (mF sf0 rfl (mI rfl (L_ix (r:=(rRule 3 23)) rfl Tryz.underlying24 Tryz.sizeOf79 rfl h0 rfl hix2 (fun g15 o16 cs_g15 hrk_hat17 hat17=>?_)))))
 obtain ⟨u18_0,u18_1,u18_2,rfl,hu18_0,hu18_1,hu18_2⟩:=rRule_iff.1 hrk_hat17
 refine L_lda (cs:=[I x_2.kind,u18_0,u18_1,I x_2.bound,u18_2]) rfl Tryz.isAgg79 Tryz.sizeOf79 rfl (At.sub (AtH.at hat17 Z.sub) 0 5) rfl ?_
 obtain ⟨H19b,l20,s21,z22,k23⟩:=Z.borrow
 refine L_callv (args:=#[.agg #[I x_2.kind,u18_0,u18_1,I x_2.bound,u18_2]]) rfl hcall_1 rfl (ops1 rfl) (hc_1 _ _ l20 s21 [I x_2.kind,u18_0,u18_1,I x_2.bound,u18_2] _ _ _ (rRule_iff.2 ⟨_,_,_,rfl,(RP.mono _ hu18_0 l20),(RP.mono _ hu18_1 l20),(RP.mono _ hu18_2 l20)⟩) hx8 (args_app rfl)) ?_
 rintro _ w24 ⟨rfl,Z⟩
 have Z:=k23 Z c0
 refine nn (W_cond (b:=x8) rfl (fun hc25=>?_) (fun hc25=>?_))
 have hB2:=(ite_t hc25).symm.trans hB2
 refine sq (mI rfl (aI rfl (nn (W_ret (retG1 (v1:=I i_1) Tryz.results136 rfl ?_)))))
 obtain rfl:=so hB2
 obtain rfl:=so hL2
 obtain rfl:=so hF
 exact ⟨rfl,Z⟩
 have hB2:=(ite_f hc25).symm.trans hB2
 refine W_skip (W_region (L_add rfl sf8 rfl (mI rfl (nn ?_))))
 obtain rfl:=so hB2
 show ∃ m,m < _∧I2 m _ _
 refine ⟨rest2.length,by simp,?_⟩
 exact ij hI2 ⟨i_1 + 1,rest2,rfl,drop_next hd2,by simp at hl2; omega,hL2,sf0,sf1,sf7,(Eq.trans rfl (congrArg (Value.int .i64) (i64_succ (n:=s.length) (by simp at hl2; omega) hlen2))),Z⟩
 rcases suf2 with _ | ⟨_,_⟩
 obtain rfl:=range_nil hL2
 refine W_exit (rj hR2 ⟨rfl,Z⟩)
 exact absurd (of_decide_eq_false hc3) (by simp at hl2; omega)
 intro f w_ hR
 obtain ⟨rfl,Z⟩:=rk hR2 hR
 refine sq (aI rfl (nn (W_ret (retG1 (v1:=I (-1)) Tryz.results136 rfl ?_))))
 obtain rfl:=so hF
 exact ⟨rfl,Z⟩
theorem slices_ContainsFunc_implRule_c {s : List Rule} {f_ : (Rule→Option Bool)} {v0 : Value} {v1 : Value} {H : FH} {w : World} (Z : Star H w []) (h0 : (rS 79 (rRule 3 23)).rel H [v0] s) (h1 : Fun1 Tryz.prog (rRule 3 23) true Value.bool f_ v1 H) {r : Bool} (hF : slices_ContainsFunc_implRule s f_ = some r) :
 C Tryz.prog 93 #[v0,v1] w fun v w'=>v = Bo r∧Star H w' []:=by
 unfold slices_ContainsFunc_implRule at hF
 obtain ⟨fid_1,caps_1,rfl,hcall_1,hc_1⟩:=h1
 refine C_enter Tryz.func93 rfl Tryz.ntmps93 rfl (sq (aB rfl (nq ?_)))
 obtain ⟨x6,hx6,hF⟩:=bind_some hF
 refine W_region (mV v0 rfl (mV (.func (.func fid_1) #[] caps_1) rfl ?_))
 obtain ⟨H8b,l9,s10,z11,k12⟩:=Z.borrow
 refine L_call rfl Tryz.call136 (ops2 rfl rfl) (slices_IndexFunc_implRule_c (s:=s) (f_:=f_) s10 (RP.mono _ h0 l9) (Fun1.le ⟨_,_,rfl,hcall_1,hc_1⟩ l9) hx6) ?_
 rintro _ w13 ⟨rfl,Z⟩
 have Z:=k12 Z c0
 refine L_geq rfl rfl rfl (aB rfl (nn (W_ret (retG1 (v1:=Bo (decide (x6 ≥ 0))) Tryz.results93 rfl ?_))))
 obtain rfl:=so hF
 exact ⟨rfl,Z⟩
theorem slices_Index_int_c {s : List Int} {v_ : Int} {v0 : Value} {H : FH} {w : World} (Z : Star H w []) (h0 : (rS 3 RP.int).rel H [v0] s) {r : Int} (hF : slices_Index_int s v_ = some r) :
 C Tryz.prog 141 #[v0,I v_] w fun v w'=>v = I r∧Star H w' []:=by
 unfold slices_Index_int at hF
 refine C_enter Tryz.func141 rfl Tryz.ntmps141 rfl (sq (aI rfl (nq (sq (mV v0 rfl (L_len rfl Tryz.underlying23 rfl (slice_len h0) (mI rfl (nn ?_))))))))
 have hlen2 : List.length s≤9223372036854775807:=len_le (slice_len h0)
 obtain ⟨j2,hL2,hF⟩:=bind_some hF
 obtain ⟨R2,hR2⟩:=exR fun f w_=>j2 = .nx ()∧Star H w_ ([])
 refine W_join R2 ?_ ?_
 refine W_block ?_
 obtain ⟨I2,hI2⟩:=exI fun n f w_=>∃ i_1 : Nat,∃ suf2 : List Int,n = suf2.length∧List.drop i_1 s = suf2∧i_1 + suf2.length = s.length∧rangeL (slices_Index_int_b1 v_) suf2 i_1 () = some j2∧f 0 = v0∧f 1 = I v_∧f 7 = I (s.length : Int)∧f 8 = I i_1∧Star H w_ ([])
 refine W_loop I2 (n:=s.length) ?_ ?_
 exact ij hI2 ⟨0,s,rfl,rfl,Nat.zero_add _,hL2,rfl,rfl,rfl,rfl,Z⟩
 intro n2 f w_ hI
 obtain ⟨i_1,suf2,rfl,hd2,hl2,hL2,sf0,sf1,sf7,sf8,Z⟩:=ik hI2 hI
 refine sq (L_lss rfl sf8 sf7 (nq (W_cond (b:=decide ((i_1 : Int) < (s.length : Int))) rfl (fun hc3=>?_) (fun hc3=>?_))))
 have hlt2:=of_decide_eq_true hc3
 rcases suf2 with _ | ⟨x_2,rest2⟩
 exact absurd hlt2 (by simp at hl2; omega)
 obtain ⟨o2,hB2,hL2⟩:=range_cons hL2
 rw [slices_Index_int_b1] at hB2
 have hix2:=drop_idx hd2
 refine W_skip (W_seq (W_block (sq (mF sf8 rfl (aI rfl (ns (mF sf1 rfl (mF sf0 rfl (mI rfl (L_ix (r:=RP.int) rfl Tryz.underlying23 Tryz.sizeOf3 rfl h0 rfl hix2 (fun g8 o9 cs_g8 hrk_hat10 hat10=>?_)))))))))))
 obtain rfl : _ = [_]:=hrk_hat10
 refine L_ld rfl Tryz.isAgg3 rfl (At.cell (AtH.at hat10 Z.sub) (j:=0) rfl) (L_eql rfl rfl rfl (nn (W_cond (b:=(v_ == x_2)) rfl (fun hc12=>?_) (fun hc12=>?_))))
 have hB2:=(ite_t hc12).symm.trans hB2
 refine sq (mI rfl (aI rfl (nn (W_ret (retG1 (v1:=I i_1) Tryz.results141 rfl ?_)))))
 obtain rfl:=so hB2
 obtain rfl:=so hL2
 obtain rfl:=so hF
 exact ⟨rfl,Z⟩
 have hB2:=(ite_f hc12).symm.trans hB2
 refine W_skip (W_region (L_add rfl sf8 rfl (mI rfl (nn ?_))))
 obtain rfl:=so hB2
 show ∃ m,m < _∧I2 m _ _
 refine ⟨rest2.length,by simp,?_⟩
 exact ij hI2 ⟨i_1 + 1,rest2,rfl,drop_next hd2,by simp at hl2; omega,hL2,sf0,sf1,sf7,(Eq.trans rfl (congrArg (Value.int .i64) (i64_succ (n:=s.length) (by simp at hl2; omega) hlen2))),Z⟩
 rcases suf2 with _ | ⟨_,_⟩
 obtain rfl:=range_nil hL2
 refine W_exit (rj hR2 ⟨rfl,Z⟩)
 exact absurd (of_decide_eq_false hc3) (by simp at hl2; omega)
 intro f w_ hR
 obtain ⟨rfl,Z⟩:=rk hR2 hR
 refine sq (aI rfl (nn (W_ret (retG1 (v1:=I (-1)) Tryz.results141 rfl ?_))))
 obtain rfl:=so hF
 exact ⟨rfl,Z⟩
theorem slices_Contains_int_c {s : List Int} {v_ : Int} {v0 : Value} {H : FH} {w : World} (Z : Star H w []) (h0 : (rS 3 RP.int).rel H [v0] s) {r : Bool} (hF : slices_Contains_int s v_ = some r) :
 C Tryz.prog 97 #[v0,I v_] w fun v w'=>v = Bo r∧Star H w' []:=by
 unfold slices_Contains_int at hF
 refine C_enter Tryz.func97 rfl Tryz.ntmps97 rfl (sq (aB rfl (nq ?_)))
 obtain ⟨x6,hx6,hF⟩:=bind_some hF
 refine W_region (mV v0 rfl (mI rfl ?_))
 obtain ⟨H8b,l9,s10,z11,k12⟩:=Z.borrow
 refine L_call rfl Tryz.call141 (ops2 rfl rfl) (slices_Index_int_c (s:=s) (v_:=v_) s10 (RP.mono _ h0 l9) hx6) ?_
 rintro _ w13 ⟨rfl,Z⟩
 have Z:=k12 Z c0
 refine L_geq rfl rfl rfl (aB rfl (nn (W_ret (retG1 (v1:=Bo (decide (x6 ≥ 0))) Tryz.results97 rfl ?_))))
 obtain rfl:=so hF
 exact ⟨rfl,Z⟩
theorem slices_IndexFunc_int_c {s : List Int} {f_ : (Int→Option Bool)} {v0 : Value} {v1 : Value} {H : FH} {w : World} (Z : Star H w []) (h0 : (rS 3 RP.int).rel H [v0] s) (h1 : Fun1 Tryz.prog RP.int false Value.bool f_ v1 H) {r : Int} (hF : slices_IndexFunc_int s f_ = some r) :
 C Tryz.prog 157 #[v0,v1] w fun v w'=>v = I r∧Star H w' []:=by
 unfold slices_IndexFunc_int at hF
 obtain ⟨fid_1,caps_1,rfl,hcall_1,hc_1⟩:=h1
 refine C_enter Tryz.func157 rfl Tryz.ntmps157 rfl (sq (aI rfl (nq (sq (mV v0 rfl (L_len rfl Tryz.underlying23 rfl (slice_len h0) (mI rfl (nn ?_))))))))
 have hlen2 : List.length s≤9223372036854775807:=len_le (slice_len h0)
 obtain ⟨j2,hL2,hF⟩:=bind_some hF
 obtain ⟨R2,hR2⟩:=exR fun f w_=>j2 = .nx ()∧Star H w_ ([])
 refine W_join R2 ?_ ?_
 refine W_block ?_
 obtain ⟨I2,hI2⟩:=exI fun n f w_=>∃ i_1 : Nat,∃ suf2 : List Int,n = suf2.length∧List.drop i_1 s = suf2∧i_1 + suf2.length = s.length∧rangeL (slices_IndexFunc_int_b1 f_) suf2 i_1 () = some j2∧f 0 = v0∧f 1 = .func (.func fid_1) #[] caps_1∧f 7 = I (s.length : Int)∧f 8 = I i_1∧Star H w_ ([])
 refine W_loop I2 (n:=s.length) ?_ ?_
 exact ij hI2 ⟨0,s,rfl,rfl,Nat.zero_add _,hL2,rfl,rfl,rfl,rfl,Z⟩
 intro n2 f w_ hI
 obtain ⟨i_1,suf2,rfl,hd2,hl2,hL2,sf0,sf1,sf7,sf8,Z⟩:=ik hI2 hI
 refine sq (L_lss rfl sf8 sf7 (nq (W_cond (b:=decide ((i_1 : Int) < (s.length : Int))) rfl (fun hc3=>?_) (fun hc3=>?_))))
 have hlt2:=of_decide_eq_true hc3
 rcases suf2 with _ | ⟨x_2,rest2⟩
 exact absurd hlt2 (by simp at hl2; omega)
 obtain ⟨o2,hB2,hL2⟩:=range_cons hL2
 rw [slices_IndexFunc_int_b1] at hB2
 have hix2:=drop_idx hd2
 refine W_skip (W_seq (W_block (sq (mF sf8 rfl (aI rfl (nq ?_))))))
 obtain ⟨x8,hx8,hB2⟩:=bind_some hB2
 refine W_region (mF sf1 rfl (mF sf0 rfl (mI rfl (L_ix (r:=RP.int) rfl Tryz.underlying23 Tryz.sizeOf3 rfl h0 rfl hix2 (fun g15 o16 cs_g15 hrk_hat17 hat17=>?_)))))
 obtain rfl : _ = [_]:=hrk_hat17
 refine L_ld rfl Tryz.isAgg3 rfl (At.cell (AtH.at hat17 Z.sub) (j:=0) rfl) ?_
 obtain ⟨H19b,l20,s21,z22,k23⟩:=Z.borrow
 refine L_callv (args:=#[I x_2]) rfl hcall_1 rfl (ops1 rfl) (hc_1 _ _ l20 s21 [I x_2] _ _ _ rfl hx8 (args_app rfl)) ?_
 rintro _ w24 ⟨rfl,Z⟩
 have Z:=k23 Z c0
 refine nn (W_cond (b:=x8) rfl (fun hc25=>?_) (fun hc25=>?_))
 have hB2:=(ite_t hc25).symm.trans hB2
 refine sq (mI rfl (aI rfl (nn (W_ret (retG1 (v1:=I i_1) Tryz.results157 rfl ?_)))))
 obtain rfl:=so hB2
 obtain rfl:=so hL2
 obtain rfl:=so hF
 exact ⟨rfl,Z⟩
 have hB2:=(ite_f hc25).symm.trans hB2
 refine W_skip (W_region (L_add rfl sf8 rfl (mI rfl (nn ?_))))
 obtain rfl:=so hB2
 show ∃ m,m < _∧I2 m _ _
 refine ⟨rest2.length,by simp,?_⟩
 exact ij hI2 ⟨i_1 + 1,rest2,rfl,drop_next hd2,by simp at hl2; omega,hL2,sf0,sf1,sf7,(Eq.trans rfl (congrArg (Value.int .i64) (i64_succ (n:=s.length) (by simp at hl2; omega) hlen2))),Z⟩
 rcases suf2 with _ | ⟨_,_⟩
 obtain rfl:=range_nil hL2
 refine W_exit (rj hR2 ⟨rfl,Z⟩)
 exact absurd (of_decide_eq_false hc3) (by simp at hl2; omega)
 intro f w_ hR
 obtain ⟨rfl,Z⟩:=rk hR2 hR
 refine sq (aI rfl (nn (W_ret (retG1 (v1:=I (-1)) Tryz.results157 rfl ?_))))
 obtain rfl:=so hF
 exact ⟨rfl,Z⟩
theorem slices_ContainsFunc_int_c {s : List Int} {f_ : (Int→Option Bool)} {v0 : Value} {v1 : Value} {H : FH} {w : World} (Z : Star H w []) (h0 : (rS 3 RP.int).rel H [v0] s) (h1 : Fun1 Tryz.prog RP.int false Value.bool f_ v1 H) {r : Bool} (hF : slices_ContainsFunc_int s f_ = some r) :
 C Tryz.prog 113 #[v0,v1] w fun v w'=>v = Bo r∧Star H w' []:=by
 unfold slices_ContainsFunc_int at hF
 obtain ⟨fid_1,caps_1,rfl,hcall_1,hc_1⟩:=h1
 refine C_enter Tryz.func113 rfl Tryz.ntmps113 rfl (sq (aB rfl (nq ?_)))
 obtain ⟨x6,hx6,hF⟩:=bind_some hF
 refine W_region (mV v0 rfl (mV (.func (.func fid_1) #[] caps_1) rfl ?_))
 obtain ⟨H8b,l9,s10,z11,k12⟩:=Z.borrow
 refine L_call rfl Tryz.call157 (ops2 rfl rfl) (slices_IndexFunc_int_c (s:=s) (f_:=f_) s10 (RP.mono _ h0 l9) (Fun1.le ⟨_,_,rfl,hcall_1,hc_1⟩ l9) hx6) ?_
 rintro _ w13 ⟨rfl,Z⟩
 have Z:=k12 Z c0
 refine L_geq rfl rfl rfl (aB rfl (nn (W_ret (retG1 (v1:=Bo (decide (x6 ≥ 0))) Tryz.results113 rfl ?_))))
 obtain rfl:=so hF
 exact ⟨rfl,Z⟩
theorem i_ruleValid_1_c {n_ : Int} {H : FH} {w : World} (Z : Star H w []) {r : Bool} (hF : i_ruleValid_1 n_ = some r) :
 C Tryz.prog 137 #[I n_] w fun v w'=>v = Bo r∧Star H w' []:=by
 unfold i_ruleValid_1 at hF
 refine C_enter Tryz.func137 rfl Tryz.ntmps137 rfl (sq (aB rfl (nq ?_)))
 obtain ⟨b8,hb8,hF⟩:=bind_some hF
 obtain ⟨R9,hR9⟩:=exR fun f w_=>f 2 = Bo b8∧Star H w_ ([])
 refine W_join R9 ?_ ?_
 refine W_region (mI rfl (L_eql rfl rfl rfl (mB rfl (L_split (d:=5) (b:=(n_ == 0)) rfl (fun hc10=>?_) (fun hc10=>?_)))))
 rw [ite_t hc10] at hb8
 refine ps rfl (ps rfl (ps rfl (L_pick (v:=Bo b8) rfl rfl (congrArg Value.bool (so hb8)) (aB rfl (nn (rj hR9 ⟨rfl,Z⟩))))))
 rw [ite_f hc10] at hb8
 obtain ⟨x6,hx6,hb8⟩:=bind_some hb8
 refine mI rfl ?_
 obtain ⟨H11b,l12,s13,z14,k15⟩:=Z.borrow
 refine L_call rfl Tryz.call92 (ops3 rfl rfl rfl) (i_within_c (n_:=n_) (low:=(-9)) (high:=9) s13 hx6) ?_
 rintro _ w16 ⟨rfl,Z⟩
 have Z:=k15 Z c0
 refine L_not_ rfl rfl (L_pick (v:=Bo b8) rfl rfl (congrArg Value.bool (so hb8)) (aB rfl (nn (rj hR9 ⟨rfl,Z⟩))))
 intro f w_ hR
 obtain ⟨sf2,Z⟩:=rk hR9 hR
 refine W_ret (retG1 (v1:=Bo b8) Tryz.results137 sf2 ?_)
 obtain rfl:=so hF
 exact ⟨rfl,Z⟩
theorem slices_IndexFunc_Sint_c {s : List (List Int)} {f_ : ((List Int)→Option Bool)} {v0 : Value} {v1 : Value} {H : FH} {w : World} (Z : Star H w []) (h0 : (rS 23 (rS 3 RP.int)).rel H [v0] s) (h1 : Fun1 Tryz.prog (rS 3 RP.int) false Value.bool f_ v1 H) {r : Int} (hF : slices_IndexFunc_Sint s f_ = some r) :
 C Tryz.prog 169 #[v0,v1] w fun v w'=>v = I r∧Star H w' []:=by
 unfold slices_IndexFunc_Sint at hF
 obtain ⟨fid_1,caps_1,rfl,hcall_1,hc_1⟩:=h1
 refine C_enter Tryz.func169 rfl Tryz.ntmps169 rfl (sq (aI rfl (nq (sq (mV v0 rfl (L_len rfl Tryz.underlying77 rfl (slice_len h0) (mI rfl (nn ?_))))))))
 have hlen2 : List.length s≤9223372036854775807:=len_le (slice_len h0)
 obtain ⟨j2,hL2,hF⟩:=bind_some hF
 obtain ⟨R2,hR2⟩:=exR fun f w_=>j2 = .nx ()∧Star H w_ ([])
 refine W_join R2 ?_ ?_
 refine W_block ?_
 obtain ⟨I2,hI2⟩:=exI fun n f w_=>∃ i_1 : Nat,∃ suf2 : List (List Int),n = suf2.length∧List.drop i_1 s = suf2∧i_1 + suf2.length = s.length∧rangeL (slices_IndexFunc_Sint_b1 f_) suf2 i_1 () = some j2∧f 0 = v0∧f 1 = .func (.func fid_1) #[] caps_1∧f 7 = I (s.length : Int)∧f 8 = I i_1∧Star H w_ ([])
 refine W_loop I2 (n:=s.length) ?_ ?_
 exact ij hI2 ⟨0,s,rfl,rfl,Nat.zero_add _,hL2,rfl,rfl,rfl,rfl,Z⟩
 intro n2 f w_ hI
 obtain ⟨i_1,suf2,rfl,hd2,hl2,hL2,sf0,sf1,sf7,sf8,Z⟩:=ik hI2 hI
 refine sq (L_lss rfl sf8 sf7 (nq (W_cond (b:=decide ((i_1 : Int) < (s.length : Int))) rfl (fun hc3=>?_) (fun hc3=>?_))))
 have hlt2:=of_decide_eq_true hc3
 rcases suf2 with _ | ⟨x_2,rest2⟩
 exact absurd hlt2 (by simp at hl2; omega)
 obtain ⟨o2,hB2,hL2⟩:=range_cons hL2
 rw [slices_IndexFunc_Sint_b1] at hB2
 have hix2:=drop_idx hd2
 refine W_skip (W_seq (W_block (sq (mF sf8 rfl (aI rfl (nq ?_))))))
 obtain ⟨x8,hx8,hB2⟩:=bind_some hB2
 refine W_region (mF sf1 rfl (mF sf0 rfl (mI rfl (L_ix (r:=(rS 3 RP.int)) rfl Tryz.underlying77 Tryz.sizeOf23 rfl h0 rfl hix2 (fun g15 o16 cs_g15 hrk_hat17 hat17=>?_)))))
 obtain ⟨u18,rfl,hu18⟩:=slice1 hrk_hat17
 refine L_ld rfl Tryz.isAgg23 rfl (At.cell (AtH.at hat17 Z.sub) (j:=0) rfl) ?_
 obtain ⟨H19b,l20,s21,z22,k23⟩:=Z.borrow
 refine L_callv (args:=#[u18]) rfl hcall_1 rfl (ops1 rfl) (hc_1 _ _ l20 s21 [u18] _ _ _ (RP.mono _ hu18 l20) hx8 (args_app rfl)) ?_
 rintro _ w24 ⟨rfl,Z⟩
 have Z:=k23 Z c0
 refine nn (W_cond (b:=x8) rfl (fun hc25=>?_) (fun hc25=>?_))
 have hB2:=(ite_t hc25).symm.trans hB2
 refine sq (mI rfl (aI rfl (nn (W_ret (retG1 (v1:=I i_1) Tryz.results169 rfl ?_)))))
 obtain rfl:=so hB2
 obtain rfl:=so hL2
 obtain rfl:=so hF
 exact ⟨rfl,Z⟩
 have hB2:=(ite_f hc25).symm.trans hB2
 refine W_skip (W_region (L_add rfl sf8 rfl (mI rfl (nn ?_))))
 obtain rfl:=so hB2
 show ∃ m,m < _∧I2 m _ _
 refine ⟨rest2.length,by simp,?_⟩
 exact ij hI2 ⟨i_1 + 1,rest2,rfl,drop_next hd2,by simp at hl2; omega,hL2,sf0,sf1,sf7,(Eq.trans rfl (congrArg (Value.int .i64) (i64_succ (n:=s.length) (by simp at hl2; omega) hlen2))),Z⟩
 rcases suf2 with _ | ⟨_,_⟩
 obtain rfl:=range_nil hL2
 refine W_exit (rj hR2 ⟨rfl,Z⟩)
 exact absurd (of_decide_eq_false hc3) (by simp at hl2; omega)
 intro f w_ hR
 obtain ⟨rfl,Z⟩:=rk hR2 hR
 refine sq (aI rfl (nn (W_ret (retG1 (v1:=I (-1)) Tryz.results169 rfl ?_))))
 obtain rfl:=so hF
 exact ⟨rfl,Z⟩
theorem slices_ContainsFunc_Sint_c {s : List (List Int)} {f_ : ((List Int)→Option Bool)} {v0 : Value} {v1 : Value} {H : FH} {w : World} (Z : Star H w []) (h0 : (rS 23 (rS 3 RP.int)).rel H [v0] s) (h1 : Fun1 Tryz.prog (rS 3 RP.int) false Value.bool f_ v1 H) {r : Bool} (hF : slices_ContainsFunc_Sint s f_ = some r) :
 C Tryz.prog 138 #[v0,v1] w fun v w'=>v = Bo r∧Star H w' []:=by
 unfold slices_ContainsFunc_Sint at hF
 obtain ⟨fid_1,caps_1,rfl,hcall_1,hc_1⟩:=h1
 refine C_enter Tryz.func138 rfl Tryz.ntmps138 rfl (sq (aB rfl (nq ?_)))
 obtain ⟨x6,hx6,hF⟩:=bind_some hF
 refine W_region (mV v0 rfl (mV (.func (.func fid_1) #[] caps_1) rfl ?_))
 obtain ⟨H8b,l9,s10,z11,k12⟩:=Z.borrow
 refine L_call rfl Tryz.call169 (ops2 rfl rfl) (slices_IndexFunc_Sint_c (s:=s) (f_:=f_) s10 (RP.mono _ h0 l9) (Fun1.le ⟨_,_,rfl,hcall_1,hc_1⟩ l9) hx6) ?_
 rintro _ w13 ⟨rfl,Z⟩
 have Z:=k12 Z c0
 refine L_geq rfl rfl rfl (aB rfl (nn (W_ret (retG1 (v1:=Bo (decide (x6 ≥ 0))) Tryz.results138 rfl ?_))))
 obtain rfl:=so hF
 exact ⟨rfl,Z⟩
theorem i_ruleValid_2_1_c {n_ : Int} {H : FH} {w : World} (Z : Star H w []) {r : Bool} (hF : i_ruleValid_2_1 n_ = some r) :
 C Tryz.prog 140 #[I n_] w fun v w'=>v = Bo r∧Star H w' []:=by
 unfold i_ruleValid_2_1 at hF
 refine C_enter Tryz.func140 rfl Tryz.ntmps140 rfl (sq (aB rfl (nq ?_)))
 obtain ⟨x6,hx6,hF⟩:=bind_some hF
 refine W_region (mI rfl ?_)
 obtain ⟨H8b,l9,s10,z11,k12⟩:=Z.borrow
 refine L_call rfl Tryz.call92 (ops3 rfl rfl rfl) (i_within_c (n_:=n_) (low:=0) (high:=3) s10 hx6) ?_
 rintro _ w13 ⟨rfl,Z⟩
 have Z:=k12 Z c0
 refine L_not_ rfl rfl (aB rfl (nn (W_ret (retG1 (v1:=Bo (!x6)) Tryz.results140 rfl ?_))))
 obtain rfl:=so hF
 exact ⟨rfl,Z⟩
theorem i_ruleValid_2_c {c1 : Rule} {row : List Int} {v0 : Value} {g_c1 : Nat} {v1_1 : Value} {v1_2 : Value} {v1_4 : Value} {H : FH} {w : World} (Z : Star H w []) (h0 : (rS 3 RP.int).rel H [v0] row) (hat_g_c1 : AtH H g_c1 0 [I c1.kind,v1_1,v1_2,I c1.bound,v1_4]) (h1_1 : (rS 3 RP.int).rel H [v1_1] c1.vars) (h1_2 : (rS 3 RP.int).rel H [v1_2] c1.coefs) (h1_4 : (rS 23 (rS 3 RP.int)).rel H [v1_4] c1.rows) {r : Bool} (hF : i_ruleValid_2 c1 row = some r) :
 C Tryz.prog 139 #[v0,Pt g_c1] w fun v w'=>v = Bo r∧Star H w' []:=by
 unfold i_ruleValid_2 at hF
 refine C_enter Tryz.func139 rfl Tryz.ntmps139 rfl (sq (aB rfl (nq ?_)))
 obtain ⟨b8,hb8,hF⟩:=bind_some hF
 obtain ⟨R9,hR9⟩:=exR fun f w_=>f 3 = Bo b8∧Star H w_ ([])
 refine W_join R9 ?_ ?_
 refine W_region (mV v0 rfl (L_len rfl Tryz.underlying23 rfl (slice_len h0) (fA 1 fa_79_1 rfl rfl (L_ld rfl Tryz.isAgg23 rfl (At.cell0 (AtH.at hat_g_c1 Z.sub) (j:=1) rfl) (L_len rfl Tryz.underlying23 rfl (slice_len h1_1) (L_neq rfl rfl rfl (mB rfl (L_split (d:=10) (b:=((row.length : Int) != (c1.vars.length : Int))) rfl (fun hc10=>?_) (fun hc10=>?_)))))))))
 rw [ite_t hc10] at hb8
 refine ps rfl (ps rfl (L_pick (v:=Bo b8) rfl rfl (congrArg Value.bool (so hb8)) (aB rfl (nn (rj hR9 ⟨rfl,Z⟩)))))
 rw [ite_f hc10] at hb8
 obtain ⟨x6,hx6,hb8⟩:=bind_some hb8
 refine mV v0 rfl ?_
 obtain ⟨H11b,l12,s13,z14,k15⟩:=Z.borrow
 have hf16 : Fun1 Tryz.prog RP.int false Value.bool i_ruleValid_2_1 (.func (.func 140) #[] #[]) H11b:=by
   refine ⟨_,_,rfl,Tryz.call140,fun H_ w_ hE_ hs_ cs_ x_ y_ args_ hr_ hy_ ha_=>?_⟩
   obtain rfl : cs_ = [_]:=hr_
   obtain rfl:=args_of (b:=#[I x_]) ha_
   exact i_ruleValid_2_1_c (n_:=x_) hs_  hy_
 refine L_call rfl Tryz.call113 (ops2 rfl rfl) (slices_ContainsFunc_int_c (s:=row) (f_:=i_ruleValid_2_1) s13 (RP.mono _ h0 l12) hf16 hx6) ?_
 rintro _ w17 ⟨rfl,Z⟩
 have Z:=k15 Z c0
 refine L_pick (v:=Bo b8) rfl rfl (congrArg Value.bool (so hb8)) (aB rfl (nn (rj hR9 ⟨rfl,Z⟩)))
 intro f w_ hR
 obtain ⟨sf3,Z⟩:=rk hR9 hR
 refine W_ret (retG1 (v1:=Bo b8) Tryz.results139 sf3 ?_)
 obtain rfl:=so hF
 exact ⟨rfl,Z⟩
theorem i_ruleValid_c {r_ : Rule} {cells : Int} {v0_1 : Value} {v0_2 : Value} {v0_4 : Value} {H : FH} {w : World} (Z : Star H w []) (h0_1 : (rS 3 RP.int).rel H [v0_1] r_.vars) (h0_2 : (rS 3 RP.int).rel H [v0_2] r_.coefs) (h0_4 : (rS 23 (rS 3 RP.int)).rel H [v0_4] r_.rows) {r : Bool} (hF : i_ruleValid r_ cells = some r) :
 C Tryz.prog 95 #[.agg #[I r_.kind,v0_1,v0_2,I r_.bound,v0_4],I cells] w fun v w'=>v = Bo r∧Star H w' []:=by
 unfold i_ruleValid at hF
 refine C_enter Tryz.func95 rfl Tryz.ntmps95 rfl (sq (L_box (v:=.agg #[I r_.kind,v0_1,v0_2,I r_.bound,v0_4]) (cs:=#[I r_.kind,v0_1,v0_2,I r_.bound,v0_4]) rfl rfl rfl Z (fun g3 w4 Z=>aB rfl (nq (sq (fA 1 fa_79_1 rfl rfl (ldB 0 Z Tryz.isAgg23 rfl rfl rfl (L_len rfl Tryz.underlying23 rfl (slice_len h0_1) (mI rfl (nn ?_))))))))))
 have hlen6 : List.length r_.vars≤9223372036854775807:=len_le (slice_len h0_1)
 obtain ⟨j6,hL6,hF⟩:=bind_some hF
 obtain ⟨R6,hR6⟩:=exR fun f w_=>j6 = .nx ()∧f 2 = Pt g3∧Star H w_ ([box g3 79 #[I r_.kind,v0_1,v0_2,I r_.bound,v0_4]])
 refine W_join R6 ?_ ?_
 refine W_block ?_
 obtain ⟨I6,hI6⟩:=exI fun n f w_=>∃ i_5 : Nat,∃ suf6 : List Int,n = suf6.length∧List.drop i_5 r_.vars = suf6∧i_5 + suf6.length = r_.vars.length∧rangeL (i_ruleValid_b1 r_ cells) suf6 i_5 () = some j6∧f 1 = I cells∧f 2 = Pt g3∧f 8 = v0_1∧f 9 = I (r_.vars.length : Int)∧f 10 = I i_5∧Star H w_ ([box g3 79 #[I r_.kind,v0_1,v0_2,I r_.bound,v0_4]])
 refine W_loop I6 (n:=r_.vars.length) ?_ ?_
 exact ij hI6 ⟨0,r_.vars,rfl,rfl,Nat.zero_add _,hL6,rfl,rfl,rfl,rfl,rfl,Z⟩
 intro n6 f w_ hI
 obtain ⟨i_5,suf6,rfl,hd6,hl6,hL6,sf1,sf2,sf8,sf9,sf10,Z⟩:=ik hI6 hI
 refine sq (L_lss rfl sf10 sf9 (nq (W_cond (b:=decide ((i_5 : Int) < (r_.vars.length : Int))) rfl (fun hc7=>?_) (fun hc7=>?_))))
 have hlt6:=of_decide_eq_true hc7
 rcases suf6 with _ | ⟨x_6,rest6⟩
 exact absurd hlt6 (by simp at hl6; omega)
 obtain ⟨o6,hB6,hL6⟩:=range_cons hL6
 rw [i_ruleValid_b1] at hB6
 have hix6:=drop_idx hd6
 refine W_skip (W_seq (W_block (sq (mF sf10 rfl (L_ix (r:=RP.int) rfl Tryz.underlying23 Tryz.sizeOf3 sf8 h0_1 sf10 hix6 (fun g12 o13 cs_g12 hrk_hat14 hat14=>?_))))))
 obtain rfl : _ = [_]:=hrk_hat14
 refine L_ld rfl Tryz.isAgg3 rfl (At.cell (AtH.at hat14 Z.sub) (j:=0) rfl) (aI rfl (aI rfl (nq ?_)))
 obtain ⟨x21,hx21,hB6⟩:=bind_some hB6
 obtain ⟨b33,hb33,hB6⟩:=bind_some hB6
 obtain ⟨R34,hR34⟩:=exR fun f w_=>f 1 = I cells∧f 2 = Pt g3∧f 8 = v0_1∧f 9 = I (r_.vars.length : Int)∧f 10 = I i_5∧f 27 = Bo b33∧Star H w_ ([box g3 79 #[I r_.kind,v0_1,v0_2,I r_.bound,v0_4]])
 refine W_join R34 ?_ ?_
 refine W_region (mI rfl (mF sf1 rfl (L_sub rfl rfl rfl ?_)))
 obtain ⟨H35b,l36,s37,z38,k39⟩:=Z.borrow
 refine L_call rfl Tryz.call92 (ops3 rfl rfl rfl) (i_within_c (n_:=x_6) (low:=0) (high:=i64 (cells - 1)) s37 hx21) ?_
 rintro _ w40 ⟨rfl,Z⟩
 have Z:=k39 Z c0
 refine L_not_ rfl rfl (mB rfl (L_split (d:=20) (b:=(!x21)) rfl (fun hc41=>?_) (fun hc41=>?_)))
 rw [ite_t hc41] at hb33
 refine ps rfl (ps rfl (ps rfl (ps rfl (ps rfl (ps rfl (L_pick (v:=Bo b33) rfl rfl (congrArg Value.bool (so hb33)) (nn (rj hR34 ⟨sf1,sf2,sf8,sf9,sf10,rfl,Z⟩))))))))
 rw [ite_f hc41] at hb33
 obtain ⟨x23,hx23,hb33⟩:=bind_some hb33
 obtain ⟨x31,hx31,hb33⟩:=bind_some hb33
 refine fA 1 fa_79_1 sf2 rfl (ldB 0 Z Tryz.isAgg23 rfl rfl rfl (mI rfl (L_sl (a:=0) (b:=(i_5 : Int)) rfl et_23 rfl h0_1 rfl rfl hx23 (fun v42 hs43=>mI rfl ?_))))
 obtain ⟨H44b,l45,s46,z47,k48⟩:=Z.borrow
 refine L_call rfl Tryz.call97 (ops2 rfl rfl) (slices_Contains_int_c (s:=x23) (v_:=x_6) s46 (RP.mono _ hs43 l45) hx31) ?_
 rintro _ w49 ⟨rfl,Z⟩
 have Z:=k48 Z c0
 refine L_pick (v:=Bo b33) rfl rfl (congrArg Value.bool (so hb33)) (nn (rj hR34 ⟨sf1,sf2,sf8,sf9,sf10,rfl,Z⟩))
 intro f w_ hR
 obtain ⟨sf1,sf2,sf8,sf9,sf10,sf27,Z⟩:=rk hR34 hR
 refine W_cond (b:=b33) sf27 (fun hc50=>?_) (fun hc50=>?_)
 have hB6:=(ite_t hc50).symm.trans hB6
 refine sq (aB rfl (nn (W_ret (retG1 (v1:=Bo false) Tryz.results95 rfl ?_))))
 obtain rfl:=so hB6
 obtain rfl:=so hL6
 obtain rfl:=so hF
 exact ⟨rfl,(Star.keepN 0 Z)⟩
 have hB6:=(ite_f hc50).symm.trans hB6
 refine W_skip (W_region (L_add rfl sf10 rfl (mI rfl (nn ?_))))
 obtain rfl:=so hB6
 show ∃ m,m < _∧I6 m _ _
 refine ⟨rest6.length,by simp,?_⟩
 exact ij hI6 ⟨i_5 + 1,rest6,rfl,drop_next hd6,by simp at hl6; omega,hL6,sf1,sf2,sf8,sf9,(Eq.trans rfl (congrArg (Value.int .i64) (i64_succ (n:=r_.vars.length) (by simp at hl6; omega) hlen6))),Z⟩
 rcases suf6 with _ | ⟨_,_⟩
 obtain rfl:=range_nil hL6
 refine W_exit (rj hR6 ⟨rfl,sf2,Z⟩)
 exact absurd (of_decide_eq_false hc7) (by simp at hl6; omega)
 intro f w_ hR
 obtain ⟨rfl,sf2,Z⟩:=rk hR6 hR
 refine W_seq (W_seq ?_)
 obtain ⟨R51,hR51⟩:=exR fun f w_=>f 2 = Pt g3∧f 59 = Bo ((((r_.vars.length : Int) == 0) || ((r_.kind != 1) && ((decide ((r_.coefs.length : Int) > 0)) || (r_.bound != 0)))) || ((r_.kind != 3) && (decide ((r_.rows.length : Int) > 0))))∧Star H w_ ([box g3 79 #[I r_.kind,v0_1,v0_2,I r_.bound,v0_4]])
 refine W_join R51 ?_ ?_
 refine W_region (fA 1 fa_79_1 sf2 rfl (ldB 0 Z Tryz.isAgg23 rfl rfl rfl (L_len rfl Tryz.underlying23 rfl (slice_len h0_1) (L_eql rfl rfl rfl (mB rfl (L_split (d:=33) (b:=((r_.vars.length : Int) == 0)) rfl (fun hc52=>?_) (fun hc52=>?_)))))))
 refine ps rfl (ps rfl (ps rfl (ps rfl (ps rfl (ps rfl (ps rfl (ps rfl (ps rfl (ps rfl (ps rfl (ps rfl (ps rfl (ps rfl (L_pick (v:=Bo (((r_.vars.length : Int) == 0) || ((r_.kind != 1) && ((decide ((r_.coefs.length : Int) > 0)) || (r_.bound != 0))))) rfl rfl (or_t hc52) (mB rfl (L_split (d:=49) (b:=(((r_.vars.length : Int) == 0) || ((r_.kind != 1) && ((decide ((r_.coefs.length : Int) > 0)) || (r_.bound != 0))))) rfl (fun hc53=>?_) (fun hc53=>?_)))))))))))))))))
 refine ps rfl (ps rfl (ps rfl (ps rfl (ps rfl (ps rfl (ps rfl (ps rfl (ps rfl (L_pick (v:=Bo ((((r_.vars.length : Int) == 0) || ((r_.kind != 1) && ((decide ((r_.coefs.length : Int) > 0)) || (r_.bound != 0)))) || ((r_.kind != 3) && (decide ((r_.rows.length : Int) > 0))))) rfl rfl (or_t hc53) (nn (rj hR51 ⟨sf2,rfl,Z⟩)))))))))))
 refine fA 0 fa_79_0 sf2 rfl (ldB 0 Z Tryz.isAgg3 rfl rfl rfl (L_neq rfl rfl rfl (mB rfl (L_split (d:=53) (b:=(r_.kind != 3)) rfl (fun hc54=>?_) (fun hc54=>?_)))))
 refine fA 4 fa_79_4 sf2 rfl (ldB 0 Z Tryz.isAgg77 rfl rfl rfl (L_len rfl Tryz.underlying77 rfl (slice_len h0_4) (L_gtr rfl rfl rfl (L_pick (v:=Bo ((r_.kind != 3) && (decide ((r_.rows.length : Int) > 0)))) rfl rfl (and_t hc54 rfl) (L_pick (v:=Bo ((((r_.vars.length : Int) == 0) || ((r_.kind != 1) && ((decide ((r_.coefs.length : Int) > 0)) || (r_.bound != 0)))) || ((r_.kind != 3) && (decide ((r_.rows.length : Int) > 0))))) rfl rfl (or_f hc53 rfl) (nn (rj hR51 ⟨sf2,rfl,Z⟩)))))))
 refine ps rfl (ps rfl (ps rfl (ps rfl (L_pick (v:=Bo ((r_.kind != 3) && (decide ((r_.rows.length : Int) > 0)))) rfl rfl (and_f hc54) (L_pick (v:=Bo ((((r_.vars.length : Int) == 0) || ((r_.kind != 1) && ((decide ((r_.coefs.length : Int) > 0)) || (r_.bound != 0)))) || ((r_.kind != 3) && (decide ((r_.rows.length : Int) > 0))))) rfl rfl (or_f hc53 rfl) (nn (rj hR51 ⟨sf2,rfl,Z⟩)))))))
 refine fA 0 fa_79_0 sf2 rfl (ldB 0 Z Tryz.isAgg3 rfl rfl rfl (L_neq rfl rfl rfl (mB rfl (L_split (d:=37) (b:=(r_.kind != 1)) rfl (fun hc55=>?_) (fun hc55=>?_)))))
 refine fA 2 fa_79_2 sf2 rfl (ldB 0 Z Tryz.isAgg23 rfl rfl rfl (L_len rfl Tryz.underlying23 rfl (slice_len h0_2) (L_gtr rfl rfl rfl (mB rfl (L_split (d:=42) (b:=decide ((r_.coefs.length : Int) > 0)) rfl (fun hc56=>?_) (fun hc56=>?_))))))
 refine ps rfl (ps rfl (ps rfl (L_pick (v:=Bo ((decide ((r_.coefs.length : Int) > 0)) || (r_.bound != 0))) rfl rfl (or_t hc56) (L_pick (v:=Bo ((r_.kind != 1) && ((decide ((r_.coefs.length : Int) > 0)) || (r_.bound != 0)))) rfl rfl (and_t hc55 rfl) (L_pick (v:=Bo (((r_.vars.length : Int) == 0) || ((r_.kind != 1) && ((decide ((r_.coefs.length : Int) > 0)) || (r_.bound != 0))))) rfl rfl (or_f hc52 rfl) (mB rfl (L_split (d:=49) (b:=(((r_.vars.length : Int) == 0) || ((r_.kind != 1) && ((decide ((r_.coefs.length : Int) > 0)) || (r_.bound != 0))))) rfl (fun hc57=>?_) (fun hc57=>?_))))))))
 refine ps rfl (ps rfl (ps rfl (ps rfl (ps rfl (ps rfl (ps rfl (ps rfl (ps rfl (L_pick (v:=Bo ((((r_.vars.length : Int) == 0) || ((r_.kind != 1) && ((decide ((r_.coefs.length : Int) > 0)) || (r_.bound != 0)))) || ((r_.kind != 3) && (decide ((r_.rows.length : Int) > 0))))) rfl rfl (or_t hc57) (nn (rj hR51 ⟨sf2,rfl,Z⟩)))))))))))
 refine fA 0 fa_79_0 sf2 rfl (ldB 0 Z Tryz.isAgg3 rfl rfl rfl (L_neq rfl rfl rfl (mB rfl (L_split (d:=53) (b:=(r_.kind != 3)) rfl (fun hc58=>?_) (fun hc58=>?_)))))
 refine fA 4 fa_79_4 sf2 rfl (ldB 0 Z Tryz.isAgg77 rfl rfl rfl (L_len rfl Tryz.underlying77 rfl (slice_len h0_4) (L_gtr rfl rfl rfl (L_pick (v:=Bo ((r_.kind != 3) && (decide ((r_.rows.length : Int) > 0)))) rfl rfl (and_t hc58 rfl) (L_pick (v:=Bo ((((r_.vars.length : Int) == 0) || ((r_.kind != 1) && ((decide ((r_.coefs.length : Int) > 0)) || (r_.bound != 0)))) || ((r_.kind != 3) && (decide ((r_.rows.length : Int) > 0))))) rfl rfl (or_f hc57 rfl) (nn (rj hR51 ⟨sf2,rfl,Z⟩)))))))
 refine ps rfl (ps rfl (ps rfl (ps rfl (L_pick (v:=Bo ((r_.kind != 3) && (decide ((r_.rows.length : Int) > 0)))) rfl rfl (and_f hc58) (L_pick (v:=Bo ((((r_.vars.length : Int) == 0) || ((r_.kind != 1) && ((decide ((r_.coefs.length : Int) > 0)) || (r_.bound != 0)))) || ((r_.kind != 3) && (decide ((r_.rows.length : Int) > 0))))) rfl rfl (or_f hc57 rfl) (nn (rj hR51 ⟨sf2,rfl,Z⟩)))))))
 refine fA 3 fa_79_3 sf2 rfl (ldB 0 Z Tryz.isAgg3 rfl rfl rfl (L_neq rfl rfl rfl (L_pick (v:=Bo ((decide ((r_.coefs.length : Int) > 0)) || (r_.bound != 0))) rfl rfl (or_f hc56 rfl) (L_pick (v:=Bo ((r_.kind != 1) && ((decide ((r_.coefs.length : Int) > 0)) || (r_.bound != 0)))) rfl rfl (and_t hc55 rfl) (L_pick (v:=Bo (((r_.vars.length : Int) == 0) || ((r_.kind != 1) && ((decide ((r_.coefs.length : Int) > 0)) || (r_.bound != 0))))) rfl rfl (or_f hc52 rfl) (mB rfl (L_split (d:=49) (b:=(((r_.vars.length : Int) == 0) || ((r_.kind != 1) && ((decide ((r_.coefs.length : Int) > 0)) || (r_.bound != 0))))) rfl (fun hc59=>?_) (fun hc59=>?_))))))))
 refine ps rfl (ps rfl (ps rfl (ps rfl (ps rfl (ps rfl (ps rfl (ps rfl (ps rfl (L_pick (v:=Bo ((((r_.vars.length : Int) == 0) || ((r_.kind != 1) && ((decide ((r_.coefs.length : Int) > 0)) || (r_.bound != 0)))) || ((r_.kind != 3) && (decide ((r_.rows.length : Int) > 0))))) rfl rfl (or_t hc59) (nn (rj hR51 ⟨sf2,rfl,Z⟩)))))))))))
 refine fA 0 fa_79_0 sf2 rfl (ldB 0 Z Tryz.isAgg3 rfl rfl rfl (L_neq rfl rfl rfl (mB rfl (L_split (d:=53) (b:=(r_.kind != 3)) rfl (fun hc60=>?_) (fun hc60=>?_)))))
 refine fA 4 fa_79_4 sf2 rfl (ldB 0 Z Tryz.isAgg77 rfl rfl rfl (L_len rfl Tryz.underlying77 rfl (slice_len h0_4) (L_gtr rfl rfl rfl (L_pick (v:=Bo ((r_.kind != 3) && (decide ((r_.rows.length : Int) > 0)))) rfl rfl (and_t hc60 rfl) (L_pick (v:=Bo ((((r_.vars.length : Int) == 0) || ((r_.kind != 1) && ((decide ((r_.coefs.length : Int) > 0)) || (r_.bound != 0)))) || ((r_.kind != 3) && (decide ((r_.rows.length : Int) > 0))))) rfl rfl (or_f hc59 rfl) (nn (rj hR51 ⟨sf2,rfl,Z⟩)))))))
 refine ps rfl (ps rfl (ps rfl (ps rfl (L_pick (v:=Bo ((r_.kind != 3) && (decide ((r_.rows.length : Int) > 0)))) rfl rfl (and_f hc60) (L_pick (v:=Bo ((((r_.vars.length : Int) == 0) || ((r_.kind != 1) && ((decide ((r_.coefs.length : Int) > 0)) || (r_.bound != 0)))) || ((r_.kind != 3) && (decide ((r_.rows.length : Int) > 0))))) rfl rfl (or_f hc59 rfl) (nn (rj hR51 ⟨sf2,rfl,Z⟩)))))))
 refine ps rfl (ps rfl (ps rfl (ps rfl (ps rfl (ps rfl (ps rfl (ps rfl (ps rfl (L_pick (v:=Bo ((r_.kind != 1) && ((decide ((r_.coefs.length : Int) > 0)) || (r_.bound != 0)))) rfl rfl (and_f hc55) (L_pick (v:=Bo (((r_.vars.length : Int) == 0) || ((r_.kind != 1) && ((decide ((r_.coefs.length : Int) > 0)) || (r_.bound != 0))))) rfl rfl (or_f hc52 rfl) (mB rfl (L_split (d:=49) (b:=(((r_.vars.length : Int) == 0) || ((r_.kind != 1) && ((decide ((r_.coefs.length : Int) > 0)) || (r_.bound != 0))))) rfl (fun hc61=>?_) (fun hc61=>?_)))))))))))))
 refine ps rfl (ps rfl (ps rfl (ps rfl (ps rfl (ps rfl (ps rfl (ps rfl (ps rfl (L_pick (v:=Bo ((((r_.vars.length : Int) == 0) || ((r_.kind != 1) && ((decide ((r_.coefs.length : Int) > 0)) || (r_.bound != 0)))) || ((r_.kind != 3) && (decide ((r_.rows.length : Int) > 0))))) rfl rfl (or_t hc61) (nn (rj hR51 ⟨sf2,rfl,Z⟩)))))))))))
 refine fA 0 fa_79_0 sf2 rfl (ldB 0 Z Tryz.isAgg3 rfl rfl rfl (L_neq rfl rfl rfl (mB rfl (L_split (d:=53) (b:=(r_.kind != 3)) rfl (fun hc62=>?_) (fun hc62=>?_)))))
 refine fA 4 fa_79_4 sf2 rfl (ldB 0 Z Tryz.isAgg77 rfl rfl rfl (L_len rfl Tryz.underlying77 rfl (slice_len h0_4) (L_gtr rfl rfl rfl (L_pick (v:=Bo ((r_.kind != 3) && (decide ((r_.rows.length : Int) > 0)))) rfl rfl (and_t hc62 rfl) (L_pick (v:=Bo ((((r_.vars.length : Int) == 0) || ((r_.kind != 1) && ((decide ((r_.coefs.length : Int) > 0)) || (r_.bound != 0)))) || ((r_.kind != 3) && (decide ((r_.rows.length : Int) > 0))))) rfl rfl (or_f hc61 rfl) (nn (rj hR51 ⟨sf2,rfl,Z⟩)))))))
 refine ps rfl (ps rfl (ps rfl (ps rfl (L_pick (v:=Bo ((r_.kind != 3) && (decide ((r_.rows.length : Int) > 0)))) rfl rfl (and_f hc62) (L_pick (v:=Bo ((((r_.vars.length : Int) == 0) || ((r_.kind != 1) && ((decide ((r_.coefs.length : Int) > 0)) || (r_.bound != 0)))) || ((r_.kind != 3) && (decide ((r_.rows.length : Int) > 0))))) rfl rfl (or_f hc61 rfl) (nn (rj hR51 ⟨sf2,rfl,Z⟩)))))))
 intro f w_ hR
 obtain ⟨sf2,sf59,Z⟩:=rk hR51 hR
 refine W_cond (b:=((((r_.vars.length : Int) == 0) || ((r_.kind != 1) && ((decide ((r_.coefs.length : Int) > 0)) || (r_.bound != 0)))) || ((r_.kind != 3) && (decide ((r_.rows.length : Int) > 0))))) sf59 (fun hc63=>?_) (fun hc63=>?_)
 have hF:=(ite_t hc63).symm.trans hF
 refine sq (aB rfl (nn (W_ret (retG1 (v1:=Bo false) Tryz.results95 rfl ?_))))
 obtain rfl:=so hF
 exact ⟨rfl,(Star.keepN 0 Z)⟩
 have hF:=(ite_f hc63).symm.trans hF
 refine W_skip (W_seq (sq (fA 0 fa_79_0 sf2 rfl (ldB 0 Z Tryz.isAgg3 rfl rfl rfl (nn (W_block (sq (L_eql rfl rfl rfl (aB rfl (nn (W_cond (b:=(r_.kind == 1)) rfl (fun hc64=>?_) (fun hc64=>?_))))))))))))
 have hF:=(ite_t hc64).symm.trans hF
 refine W_seq ?_
 obtain ⟨b72,hb72,hF⟩:=bind_some hF
 obtain ⟨b80,hb80,hF⟩:=bind_some hF
 obtain ⟨R81,hR81⟩:=exR fun f w_=>f 4 = Bo b80∧Star H w_ ([])
 refine W_join R81 ?_ ?_
 refine W_region (fA 2 fa_79_2 sf2 rfl (ldB 0 Z Tryz.isAgg23 rfl rfl rfl (L_len rfl Tryz.underlying23 rfl (slice_len h0_2) (fA 1 fa_79_1 sf2 rfl (ldB 0 Z Tryz.isAgg23 rfl rfl rfl (L_len rfl Tryz.underlying23 rfl (slice_len h0_1) (L_eql rfl rfl rfl (mB rfl (L_split (d:=71) (b:=((r_.coefs.length : Int) == (r_.vars.length : Int))) rfl (fun hc82=>?_) (fun hc82=>?_))))))))))
 rw [ite_t hc82] at hb72
 obtain ⟨x70,hx70,hb72⟩:=bind_some hb72
 refine fA 3 fa_79_3 sf2 rfl (ldB 0 Z Tryz.isAgg3 rfl rfl rfl ?_)
 obtain ⟨H83b,l84,s85,z86,k87⟩:=Z.borrow
 refine L_call rfl Tryz.call92 (ops3 rfl rfl rfl) (i_within_c (n_:=r_.bound) (low:=(-1000)) (high:=1000) s85 hx70) ?_
 rintro _ w88 ⟨rfl,Z⟩
 have Z:=k87 Z c0
 refine L_pick (v:=Bo b72) rfl rfl (congrArg Value.bool (so hb72)) (mB rfl (L_split (d:=76) (b:=b72) rfl (fun hc89=>?_) (fun hc89=>?_)))
 rw [ite_t hc89] at hb80
 obtain ⟨x78,hx78,hb80⟩:=bind_some hb80
 refine fA 2 fa_79_2 sf2 rfl (ldB 0 Z Tryz.isAgg23 rfl rfl rfl ?_)
 obtain ⟨H90b,l91,s92,z93,k94⟩:=Z.borrow
 have hf95 : Fun1 Tryz.prog RP.int false Value.bool i_ruleValid_1 (.func (.func 137) #[] #[]) H90b:=by
   refine ⟨_,_,rfl,Tryz.call137,fun H_ w_ hE_ hs_ cs_ x_ y_ args_ hr_ hy_ ha_=>?_⟩
   obtain rfl : cs_ = [_]:=hr_
   obtain rfl:=args_of (b:=#[I x_]) ha_
   exact i_ruleValid_1_c (n_:=x_) hs_  hy_
 refine L_call rfl Tryz.call113 (ops2 rfl rfl) (slices_ContainsFunc_int_c (s:=r_.coefs) (f_:=i_ruleValid_1) s92 (RP.mono _ h0_2 l91) hf95 hx78) ?_
 rintro _ w96 ⟨rfl,Z⟩
 have Z:=k94 Z c0
 refine L_not_ rfl rfl (L_pick (v:=Bo b80) rfl rfl (congrArg Value.bool (so hb80)) (aB rfl (nn (rj hR81 ⟨rfl,(Star.keepN 0 Z)⟩))))
 rw [ite_f hc89] at hb80
 refine ps rfl (ps rfl (ps rfl (ps rfl (L_pick (v:=Bo b80) rfl rfl (congrArg Value.bool (so hb80)) (aB rfl (nn (rj hR81 ⟨rfl,(Star.keepN 0 Z)⟩)))))))
 rw [ite_f hc82] at hb72
 refine ps rfl (ps rfl (ps rfl (L_pick (v:=Bo b72) rfl rfl (congrArg Value.bool (so hb72)) (mB rfl (L_split (d:=76) (b:=b72) rfl (fun hc97=>?_) (fun hc97=>?_))))))
 rw [ite_t hc97] at hb80
 obtain ⟨x78,hx78,hb80⟩:=bind_some hb80
 refine fA 2 fa_79_2 sf2 rfl (ldB 0 Z Tryz.isAgg23 rfl rfl rfl ?_)
 obtain ⟨H98b,l99,s100,z101,k102⟩:=Z.borrow
 have hf103 : Fun1 Tryz.prog RP.int false Value.bool i_ruleValid_1 (.func (.func 137) #[] #[]) H98b:=by
   refine ⟨_,_,rfl,Tryz.call137,fun H_ w_ hE_ hs_ cs_ x_ y_ args_ hr_ hy_ ha_=>?_⟩
   obtain rfl : cs_ = [_]:=hr_
   obtain rfl:=args_of (b:=#[I x_]) ha_
   exact i_ruleValid_1_c (n_:=x_) hs_  hy_
 refine L_call rfl Tryz.call113 (ops2 rfl rfl) (slices_ContainsFunc_int_c (s:=r_.coefs) (f_:=i_ruleValid_1) s100 (RP.mono _ h0_2 l99) hf103 hx78) ?_
 rintro _ w104 ⟨rfl,Z⟩
 have Z:=k102 Z c0
 refine L_not_ rfl rfl (L_pick (v:=Bo b80) rfl rfl (congrArg Value.bool (so hb80)) (aB rfl (nn (rj hR81 ⟨rfl,(Star.keepN 0 Z)⟩))))
 rw [ite_f hc97] at hb80
 refine ps rfl (ps rfl (ps rfl (ps rfl (L_pick (v:=Bo b80) rfl rfl (congrArg Value.bool (so hb80)) (aB rfl (nn (rj hR81 ⟨rfl,(Star.keepN 0 Z)⟩)))))))
 intro f w_ hR
 obtain ⟨sf4,Z⟩:=rk hR81 hR
 refine W_ret (retG1 (v1:=Bo b80) Tryz.results95 sf4 ?_)
 obtain rfl:=so hF
 exact ⟨rfl,Z⟩
 have hF:=(ite_f hc64).symm.trans hF
 refine sq (L_eql rfl rfl rfl (aB rfl (nn (W_cond (b:=(r_.kind == 3)) rfl (fun hc105=>?_) (fun hc105=>?_)))))
 have hF:=(ite_t hc105).symm.trans hF
 refine W_seq ?_
 obtain ⟨b113,hb113,hF⟩:=bind_some hF
 obtain ⟨R114,hR114⟩:=exR fun f w_=>f 4 = Bo b113∧Star H w_ ([])
 refine W_join R114 ?_ ?_
 refine W_region (fA 4 fa_79_4 sf2 rfl (ldB 0 Z Tryz.isAgg77 rfl rfl rfl (L_len rfl Tryz.underlying77 rfl (slice_len h0_4) (L_leq rfl rfl rfl (mB rfl (L_split (d:=88) (b:=decide ((r_.rows.length : Int)≤8)) rfl (fun hc115=>?_) (fun hc115=>?_)))))))
 rw [ite_t hc115] at hb113
 obtain ⟨x111,hx111,hb113⟩:=bind_some hb113
 refine fA 4 fa_79_4 sf2 rfl (ldB 0 Z Tryz.isAgg77 rfl rfl rfl (L_mf rfl (ops1 sf2) ?_))
 obtain ⟨H116b,l117,s118,z119,k120⟩:=Z.borrow
 have hf121 : Fun1 Tryz.prog (rS 3 RP.int) false Value.bool (i_ruleValid_2 r_) (.func (.func 139) #[] #[Pt g3]) H116b:=by
   refine ⟨_,_,rfl,Tryz.call139,fun H_ w_ hE_ hs_ cs_ x_ y_ args_ hr_ hy_ ha_=>?_⟩
   obtain ⟨p_0,rfl,hp_0⟩:=slice1 hr_
   obtain rfl:=args_of (b:=#[p_0,Pt g3]) ha_
   exact i_ruleValid_2_c (c1:=r_) (row:=x_) hs_ hp_0 (AtH.le (AtH.of (fz_box 0 z119 rfl)) hE_) (RP.mono _ (RP.mono _ h0_1 l117) hE_) (RP.mono _ (RP.mono _ h0_2 l117) hE_) (RP.mono _ (RP.mono _ h0_4 l117) hE_) hy_
 refine L_call rfl Tryz.call138 (ops2 rfl rfl) (slices_ContainsFunc_Sint_c (s:=r_.rows) (f_:=(i_ruleValid_2 r_)) s118 (RP.mono _ h0_4 l117) hf121 hx111) ?_
 rintro _ w122 ⟨rfl,Z⟩
 have Z:=k120 Z c0
 refine L_not_ rfl rfl (L_pick (v:=Bo b113) rfl rfl (congrArg Value.bool (so hb113)) (aB rfl (nn (rj hR114 ⟨rfl,(Star.keepN 0 Z)⟩))))
 rw [ite_f hc115] at hb113
 refine ps rfl (ps rfl (ps rfl (ps rfl (ps rfl (L_pick (v:=Bo b113) rfl rfl (congrArg Value.bool (so hb113)) (aB rfl (nn (rj hR114 ⟨rfl,(Star.keepN 0 Z)⟩))))))))
 intro f w_ hR
 obtain ⟨sf4,Z⟩:=rk hR114 hR
 refine W_ret (retG1 (v1:=Bo b113) Tryz.results95 sf4 ?_)
 obtain rfl:=so hF
 exact ⟨rfl,Z⟩
 have hF:=(ite_f hc105).symm.trans hF
 refine sq (L_eql rfl rfl rfl (aB rfl (nn (W_cond (b:=(r_.kind == 4)) rfl (fun hc123=>?_) (fun hc123=>?_)))))
 have hF:=(ite_t hc123).symm.trans hF
 refine sq (fA 1 fa_79_1 sf2 rfl (ldB 0 Z Tryz.isAgg23 rfl rfl rfl (L_len rfl Tryz.underlying23 rfl (slice_len h0_1) (L_eql rfl rfl rfl (aB rfl (nn (W_ret (retG1 (v1:=Bo ((r_.vars.length : Int) == 2)) Tryz.results95 rfl ?_))))))))
 obtain rfl:=so hF
 exact ⟨rfl,(Star.keepN 0 Z)⟩
 have hF:=(ite_f hc123).symm.trans hF
 refine W_skip (sq (fA 0 fa_79_0 sf2 rfl (ldB 0 Z Tryz.isAgg3 rfl rfl rfl (L_eql rfl rfl rfl (aB rfl (nn (W_ret (retG1 (v1:=Bo (r_.kind == 2)) Tryz.results95 rfl ?_))))))))
 obtain rfl:=so hF
 exact ⟨rfl,(Star.keepN 0 Z)⟩
theorem i_ModelValid_1_c {c1 : Model} {r_ : Rule} {v0_1 : Value} {v0_2 : Value} {v0_4 : Value} {g_c1 : Nat} {v1_0 : Value} {v1_1 : Value} {H : FH} {w : World} (Z : Star H w []) (h0_1 : (rS 3 RP.int).rel H [v0_1] r_.vars) (h0_2 : (rS 3 RP.int).rel H [v0_2] r_.coefs) (h0_4 : (rS 23 (rS 3 RP.int)).rel H [v0_4] r_.rows) (hat_g_c1 : AtH H g_c1 0 [v1_0,v1_1]) (h1_0 : (rS 3 RP.int).rel H [v1_0] c1.sizes) (h1_1 : (rS 79 (rRule 3 23)).rel H [v1_1] c1.rules) {r : Bool} (hF : i_ModelValid_1 c1 r_ = some r) :
 C Tryz.prog 94 #[.agg #[I r_.kind,v0_1,v0_2,I r_.bound,v0_4],Pt g_c1] w fun v w'=>v = Bo r∧Star H w' []:=by
 unfold i_ModelValid_1 at hF
 refine C_enter Tryz.func94 rfl Tryz.ntmps94 rfl (sq (L_box (v:=.agg #[I r_.kind,v0_1,v0_2,I r_.bound,v0_4]) (cs:=#[I r_.kind,v0_1,v0_2,I r_.bound,v0_4]) rfl rfl rfl Z (fun g3 w4 Z=>aB rfl (nq ?_))))
 obtain ⟨x10,hx10,hF⟩:=bind_some hF
 refine W_region (L_lda (cs:=[I r_.kind,v0_1,v0_2,I r_.bound,v0_4]) rfl Tryz.isAgg79 Tryz.sizeOf79 rfl (At.sub0 (Blk.at (Star.blkAt 0 Z rfl)) 0 5) rfl (fA 0 fa_26_0 rfl rfl (L_ld rfl Tryz.isAgg23 rfl (At.cell0 (AtH.at hat_g_c1 Z.sub) (j:=0) rfl) (L_len rfl Tryz.underlying23 rfl (slice_len h1_0) ?_))))
 obtain ⟨H12b,l13,s14,z15,k16⟩:=Z.borrow
 refine L_call rfl Tryz.call95 (ops2 rfl rfl) (i_ruleValid_c (r_:=r_) (cells:=(c1.sizes.length : Int)) s14 (RP.mono _ h0_1 l13) (RP.mono _ h0_2 l13) (RP.mono _ h0_4 l13) hx10) ?_
 rintro _ w17 ⟨rfl,Z⟩
 have Z:=k16 Z c0
 refine L_not_ rfl rfl (aB rfl (nn (W_ret (retG1 (v1:=Bo (!x10)) Tryz.results94 rfl ?_))))
 obtain rfl:=so hF
 exact ⟨rfl,(Star.keepN 0 Z)⟩
theorem i_ModelValid_c {m : Model} {v0_0 : Value} {v0_1 : Value} {H : FH} {w : World} (Z : Star H w []) (h0_0 : (rS 3 RP.int).rel H [v0_0] m.sizes) (h0_1 : (rS 79 (rRule 3 23)).rel H [v0_1] m.rules) {r : Bool} (hF : i_ModelValid m = some r) :
 C Tryz.prog 46 #[.agg #[v0_0,v0_1]] w fun v w'=>v = Bo r∧Star H w' []:=by
 unfold i_ModelValid at hF
 refine C_enter Tryz.func46 rfl Tryz.ntmps46 rfl (sq (L_box (v:=.agg #[v0_0,v0_1]) (cs:=#[v0_0,v0_1]) rfl rfl rfl Z (fun g3 w4 Z=>aB rfl (nq (W_seq ?_)))))
 obtain ⟨x10,hx10,hF⟩:=bind_some hF
 obtain ⟨R12,hR12⟩:=exR fun f w_=>f 1 = Pt g3∧f 16 = Bo ((!x10) || (decide ((m.rules.length : Int) > 8)))∧Star H w_ ([box g3 26 #[v0_0,v0_1]])
 refine W_join R12 ?_ ?_
 refine W_region (fA 0 fa_26_0 rfl rfl (ldB 0 Z Tryz.isAgg23 rfl rfl rfl (L_len rfl Tryz.underlying23 rfl (slice_len h0_0) ?_)))
 obtain ⟨H13b,l14,s15,z16,k17⟩:=Z.borrow
 refine L_call rfl Tryz.call92 (ops3 rfl rfl rfl) (i_within_c (n_:=(m.sizes.length : Int)) (low:=1) (high:=5) s15 hx10) ?_
 rintro _ w18 ⟨rfl,Z⟩
 have Z:=k17 Z c0
 refine L_not_ rfl rfl (mB rfl (L_split (d:=11) (b:=(!x10)) rfl (fun hc19=>?_) (fun hc19=>?_)))
 refine ps rfl (ps rfl (ps rfl (ps rfl (L_pick (v:=Bo ((!x10) || (decide ((m.rules.length : Int) > 8)))) rfl rfl (or_t hc19) (nn (rj hR12 ⟨rfl,rfl,Z⟩))))))
 refine fA 1 fa_26_1 rfl rfl (ldB 0 Z Tryz.isAgg24 rfl rfl rfl (L_len rfl Tryz.underlying24 rfl (slice_len h0_1) (L_gtr rfl rfl rfl (L_pick (v:=Bo ((!x10) || (decide ((m.rules.length : Int) > 8)))) rfl rfl (or_f hc19 rfl) (nn (rj hR12 ⟨rfl,rfl,Z⟩))))))
 intro f w_ hR
 obtain ⟨sf1,sf16,Z⟩:=rk hR12 hR
 refine W_cond (b:=((!x10) || (decide ((m.rules.length : Int) > 8)))) sf16 (fun hc20=>?_) (fun hc20=>?_)
 have hF:=(ite_t hc20).symm.trans hF
 refine sq (aB rfl (nn (W_ret (retG1 (v1:=Bo false) Tryz.results46 rfl ?_))))
 obtain rfl:=so hF
 exact ⟨rfl,(Star.keepN 0 Z)⟩
 have hF:=(ite_f hc20).symm.trans hF
 refine W_skip (sq (aI rfl (nq (sq (fA 0 fa_26_0 sf1 rfl (ldB 0 Z Tryz.isAgg23 rfl rfl rfl (L_len rfl Tryz.underlying23 rfl (slice_len h0_0) (mI rfl (nn ?_)))))))))
 have hlen23 : List.length m.sizes≤9223372036854775807:=len_le (slice_len h0_0)
 obtain ⟨j23,hL23,hF⟩:=bind_some hF
 obtain ⟨R23,hR23⟩:=exR fun f w_=>∃ count_22 : Int,j23 = .nx count_22∧f 1 = Pt g3∧f 3 = I count_22∧Star H w_ ([box g3 26 #[v0_0,v0_1]])
 refine W_join R23 ?_ ?_
 refine W_block ?_
 obtain ⟨I23,hI23⟩:=exI fun n f w_=>∃ i_21 : Nat,∃ suf23 : List Int,∃ count_22 : Int,n = suf23.length∧List.drop i_21 m.sizes = suf23∧i_21 + suf23.length = m.sizes.length∧rangeL i_ModelValid_b1 suf23 i_21 count_22 = some j23∧f 1 = Pt g3∧f 3 = I count_22∧f 18 = v0_0∧f 19 = I (m.sizes.length : Int)∧f 20 = I i_21∧Star H w_ ([box g3 26 #[v0_0,v0_1]])
 refine W_loop I23 (n:=m.sizes.length) ?_ ?_
 exact ij hI23 ⟨0,m.sizes,0,rfl,rfl,Nat.zero_add _,hL23,sf1,rfl,rfl,rfl,rfl,Z⟩
 intro n23 f w_ hI
 obtain ⟨i_21,suf23,count_22,rfl,hd23,hl23,hL23,sf1,sf3,sf18,sf19,sf20,Z⟩:=ik hI23 hI
 refine sq (L_lss rfl sf20 sf19 (nq (W_cond (b:=decide ((i_21 : Int) < (m.sizes.length : Int))) rfl (fun hc24=>?_) (fun hc24=>?_))))
 have hlt23:=of_decide_eq_true hc24
 rcases suf23 with _ | ⟨x_23,rest23⟩
 exact absurd hlt23 (by simp at hl23; omega)
 obtain ⟨o23,hB23,hL23⟩:=range_cons hL23
 rw [i_ModelValid_b1] at hB23
 have hix23:=drop_idx hd23
 refine W_skip (W_seq (W_block (sq (L_ix (r:=RP.int) rfl Tryz.underlying23 Tryz.sizeOf3 sf18 h0_0 sf20 hix23 (fun g29 o30 cs_g29 hrk_hat31 hat31=>?_)))))
 obtain rfl : _ = [_]:=hrk_hat31
 refine L_ld rfl Tryz.isAgg3 rfl (At.cell (AtH.at hat31 Z.sub) (j:=0) rfl) (aI rfl (nq (W_seq ?_)))
 obtain ⟨x38,hx38,hB23⟩:=bind_some hB23
 refine W_region (mI rfl ?_)
 obtain ⟨H40b,l41,s42,z43,k44⟩:=Z.borrow
 refine L_call rfl Tryz.call92 (ops3 rfl rfl rfl) (i_within_c (n_:=x_23) (low:=0) (high:=3) s42 hx38) ?_
 rintro _ w45 ⟨rfl,Z⟩
 have Z:=k44 Z c0
 refine L_not_ rfl rfl (nn (W_cond (b:=(!x38)) rfl (fun hc46=>?_) (fun hc46=>?_)))
 have hB23:=(ite_t hc46).symm.trans hB23
 refine sq (aB rfl (nn (W_ret (retG1 (v1:=Bo false) Tryz.results46 rfl ?_))))
 obtain rfl:=so hB23
 obtain rfl:=so hL23
 obtain rfl:=so hF
 exact ⟨rfl,(Star.keepN 0 Z)⟩
 have hB23:=(ite_f hc46).symm.trans hB23
 refine W_skip (W_region (mF sf3 rfl (mI rfl (L_add rfl rfl rfl (L_add rfl rfl rfl (aI rfl (nn (W_region (L_add rfl sf20 rfl (mI rfl (nn ?_)))))))))))
 obtain rfl:=so hB23
 show ∃ m,m < _∧I23 m _ _
 refine ⟨rest23.length,by simp,?_⟩
 exact ij hI23 ⟨i_21 + 1,rest23,i64 (count_22 + (i64 (x_23 + 1))),rfl,drop_next hd23,by simp at hl23; omega,hL23,sf1,rfl,sf18,sf19,(Eq.trans rfl (congrArg (Value.int .i64) (i64_succ (n:=m.sizes.length) (by simp at hl23; omega) hlen23))),Z⟩
 rcases suf23 with _ | ⟨_,_⟩
 obtain rfl:=range_nil hL23
 refine W_exit (rj hR23 ⟨count_22,rfl,sf1,sf3,Z⟩)
 exact absurd (of_decide_eq_false hc24) (by simp at hl23; omega)
 intro f w_ hR
 obtain ⟨count_22,rfl,sf1,sf3,Z⟩:=rk hR23 hR
 refine W_seq ?_
 obtain ⟨b54,hb54,hF⟩:=bind_some hF
 obtain ⟨R55,hR55⟩:=exR fun f w_=>f 2 = Bo b54∧Star H w_ ([])
 refine W_join R55 ?_ ?_
 refine W_region (mF sf3 rfl (L_leq rfl rfl rfl (mB rfl (L_split (d:=34) (b:=decide (count_22≤12)) rfl (fun hc56=>?_) (fun hc56=>?_)))))
 rw [ite_t hc56] at hb54
 obtain ⟨x52,hx52,hb54⟩:=bind_some hb54
 refine fA 1 fa_26_1 sf1 rfl (ldB 0 Z Tryz.isAgg24 rfl rfl rfl (L_mf rfl (ops1 sf1) ?_))
 obtain ⟨H57b,l58,s59,z60,k61⟩:=Z.borrow
 have hf62 : Fun1 Tryz.prog (rRule 3 23) true Value.bool (i_ModelValid_1 m) (.func (.func 94) #[] #[Pt g3]) H57b:=by
   refine ⟨_,_,rfl,Tryz.call94,fun H_ w_ hE_ hs_ cs_ x_ y_ args_ hr_ hy_ ha_=>?_⟩
   obtain ⟨p_0,p_1,p_2,rfl,hp_0,hp_1,hp_2⟩:=rRule_iff.1 hr_
   obtain rfl:=args_of (b:=#[.agg #[I x_.kind,p_0,p_1,I x_.bound,p_2],Pt g3]) ha_
   exact i_ModelValid_1_c (c1:=m) (r_:=x_) hs_ hp_0 hp_1 hp_2 (AtH.le (AtH.of (fz_box 0 z60 rfl)) hE_) (RP.mono _ (RP.mono _ h0_0 l58) hE_) (RP.mono _ (RP.mono _ h0_1 l58) hE_) hy_
 refine L_call rfl Tryz.call93 (ops2 rfl rfl) (slices_ContainsFunc_implRule_c (s:=m.rules) (f_:=(i_ModelValid_1 m)) s59 (RP.mono _ h0_1 l58) hf62 hx52) ?_
 rintro _ w63 ⟨rfl,Z⟩
 have Z:=k61 Z c0
 refine L_not_ rfl rfl (L_pick (v:=Bo b54) rfl rfl (congrArg Value.bool (so hb54)) (aB rfl (nn (rj hR55 ⟨rfl,(Star.keepN 0 Z)⟩))))
 rw [ite_f hc56] at hb54
 refine ps rfl (ps rfl (ps rfl (ps rfl (ps rfl (L_pick (v:=Bo b54) rfl rfl (congrArg Value.bool (so hb54)) (aB rfl (nn (rj hR55 ⟨rfl,(Star.keepN 0 Z)⟩))))))))
 intro f w_ hR
 obtain ⟨sf2,Z⟩:=rk hR55 hR
 refine W_ret (retG1 (v1:=Bo b54) Tryz.results46 sf2 ?_)
 obtain rfl:=so hF
 exact ⟨rfl,Z⟩
theorem i_Model_boolVar_c {m : Model} {cell : Int} {value : Int} {v0_0 : Value} {v0_1 : Value} {H : FH} {w : World} (Z : Star H w []) (h0_0 : (rS 3 RP.int).rel H [v0_0] m.sizes) (h0_1 : (rS 79 (rRule 3 23)).rel H [v0_1] m.rules) {r : Int} (hF : i_Model_boolVar m cell value = some r) :
 C Tryz.prog 63 #[.agg #[v0_0,v0_1],I cell,I value] w fun v w'=>v = I r∧Star H w' []:=by
 unfold i_Model_boolVar at hF
 refine C_enter Tryz.func63 rfl Tryz.ntmps63 rfl (sq (L_box (v:=.agg #[v0_0,v0_1]) (cs:=#[v0_0,v0_1]) rfl rfl rfl Z (fun g3 w4 Z=>aI rfl (ns (mI rfl (L_add rfl rfl rfl (aI rfl (nq (W_seq ?_)))))))))
 obtain ⟨x5,hx5,hF⟩:=bind_some hF
 refine W_region (fA 0 fa_26_0 rfl rfl (ldB 0 Z Tryz.isAgg23 rfl rfl rfl (mI rfl (L_sl (a:=0) (b:=cell) rfl et_23 rfl h0_0 rfl rfl hx5 (fun v8 hs9=>L_len rfl Tryz.underlying23 rfl (slice_len hs9) (mI rfl (nn ?_)))))))
 have hlen12 : List.length x5≤9223372036854775807:=len_le (slice_len hs9)
 obtain ⟨j12,hL12,hF⟩:=bind_some hF
 obtain ⟨R12,hR12⟩:=exR fun f w_=>∃ v_11 : Int,j12 = .nx v_11∧f 7 = I v_11∧Star H w_ ([])
 refine W_join R12 ?_ ?_
 refine W_block ?_
 obtain ⟨I12,hI12⟩:=exI fun n f w_=>∃ i_10 : Nat,∃ suf12 : List Int,∃ v_11 : Int,n = suf12.length∧List.drop i_10 x5 = suf12∧i_10 + suf12.length = x5.length∧rangeL i_Model_boolVar_b1 suf12 i_10 v_11 = some j12∧f 7 = I v_11∧f 15 = v8∧f 16 = I (x5.length : Int)∧f 17 = I i_10∧Star H w_ ([])
 refine W_loop I12 (n:=x5.length) ?_ ?_
 exact ij hI12 ⟨0,x5,i64 (1 + value),rfl,rfl,Nat.zero_add _,hL12,rfl,rfl,rfl,rfl,(Star.keepN 0 Z)⟩
 intro n12 f w_ hI
 obtain ⟨i_10,suf12,v_11,rfl,hd12,hl12,hL12,sf7,sf15,sf16,sf17,Z⟩:=ik hI12 hI
 refine sq (L_lss rfl sf17 sf16 (nq (W_cond (b:=decide ((i_10 : Int) < (x5.length : Int))) rfl (fun hc13=>?_) (fun hc13=>?_))))
 have hlt12:=of_decide_eq_true hc13
 rcases suf12 with _ | ⟨x_12,rest12⟩
 exact absurd hlt12 (by simp at hl12; omega)
 obtain ⟨o12,hB12,hL12⟩:=range_cons hL12
 rw [i_Model_boolVar_b1] at hB12
 have hix12:=drop_idx hd12
 refine W_skip (W_seq (W_block (sq (L_ix (r:=RP.int) rfl Tryz.underlying23 Tryz.sizeOf3 sf15 hs9 sf17 hix12 (fun g18 o19 cs_g18 hrk_hat20 hat20=>?_)))))
 obtain rfl : _ = [_]:=hrk_hat20
 refine L_ld rfl Tryz.isAgg3 rfl (At.cell (AtH.at hat20 Z.sub) (j:=0) rfl) (aI rfl (nn (W_region (mF sf7 rfl (mI rfl (L_add rfl rfl rfl (L_add rfl rfl rfl (aI rfl (nn (W_region (L_add rfl sf17 rfl (mI rfl (nn ?_)))))))))))))
 obtain rfl:=so hB12
 show ∃ m,m < _∧I12 m _ _
 refine ⟨rest12.length,by simp,?_⟩
 exact ij hI12 ⟨i_10 + 1,rest12,i64 (v_11 + (i64 (x_12 + 1))),rfl,drop_next hd12,by simp at hl12; omega,hL12,rfl,sf15,sf16,(Eq.trans rfl (congrArg (Value.int .i64) (i64_succ (n:=x5.length) (by simp at hl12; omega) hlen12))),Z⟩
 rcases suf12 with _ | ⟨_,_⟩
 obtain rfl:=range_nil hL12
 refine W_exit (rj hR12 ⟨v_11,rfl,sf7,Z⟩)
 exact absurd (of_decide_eq_false hc13) (by simp at hl12; omega)
 intro f w_ hR
 obtain ⟨v_11,rfl,sf7,Z⟩:=rk hR12 hR
 refine sq (mF sf7 rfl (aI rfl (nn (W_ret (retG1 (v1:=I v_11) Tryz.results63 rfl ?_)))))
 obtain rfl:=so hF
 exact ⟨rfl,Z⟩
theorem i_Model_varsOf_c {m : Model} {cell : Int} {v0_0 : Value} {v0_1 : Value} {H : FH} {w : World} (Z : Star H w []) (h0_0 : (rS 3 RP.int).rel H [v0_0] m.sizes) (h0_1 : (rS 79 (rRule 3 23)).rel H [v0_1] m.rules) {r : List Int} (hF : i_Model_varsOf m cell = some r) :
 C Tryz.prog 47 #[.agg #[v0_0,v0_1],I cell] w fun v w'=>∃ (u1 : Value),v = u1∧Star H w' [oF 3 RP.int u1 r]:=by
 unfold i_Model_varsOf at hF
 refine C_enter Tryz.func47 rfl Tryz.ntmps47 rfl (sq (L_box (v:=.agg #[v0_0,v0_1]) (cs:=#[v0_0,v0_1]) rfl rfl rfl Z (fun g3 w4 Z=>aV S0 rfl (ns (aV S0 rfl (nq (W_seq ?_)))))))
 obtain ⟨x5,hx5,hF⟩:=bind_some hF
 refine W_region (fA 0 fa_26_0 rfl rfl (ldB 0 Z Tryz.isAgg23 rfl rfl rfl (mI rfl (L_ix (r:=RP.int) rfl Tryz.underlying23 Tryz.sizeOf3 rfl h0_0 rfl hx5 (fun g10 o11 cs_g10 hrk_hat12 hat12=>?_)))))
 obtain rfl : _ = [_]:=hrk_hat12
 refine L_ld rfl Tryz.isAgg3 rfl (At.cell (AtH.at hat12 Z.sub) (j:=0) rfl) (L_add rfl rfl rfl (mI rfl (nn ?_)))
 obtain ⟨k18,hk18,hF⟩:=bind_some hF
 obtain ⟨j17,hL17,hF⟩:=bind_some hF
 obtain ⟨R17,hR17⟩:=exR fun f w_=>∃ out_15 : List Int,∃ v15_out : Value,j17 = .nx out_15∧f 5 = v15_out∧Star H w_ ([oF 3 RP.int v15_out out_15])
 refine W_join R17 ?_ ?_
 refine W_block ?_
 obtain ⟨I17,hI17⟩:=exI fun n f w_=>∃ i_14 : Nat,∃ suf17 : Nat,∃ out_15 : List Int,∃ v15_out : Value,suf17 = n∧0≤i_14∧i_14 + suf17 = 0 + k18∧countL (i_Model_varsOf_b1 m cell) suf17 i_14 out_15 = some j17∧f 1 = I cell∧f 2 = Pt g3∧f 5 = v15_out∧f 12 = I (i64 (x5 + 1))∧f 13 = I i_14∧Star H w_ ([oF 3 RP.int v15_out out_15,box g3 26 #[v0_0,v0_1]])
 have Z:=Star.addNil (R:=(OR.frz RP.int)) (e:=3) Z
 refine W_loop I17 (n:=k18) ?_ ?_
 exact ij hI17 ⟨0,k18,[],S0,rfl,Nat.le_refl _,rfl,hL17,rfl,rfl,rfl,rfl,rfl,Z⟩
 intro n17 f w_ hI
 obtain ⟨i_14,suf17,out_15,v15_out,rfl,hs17,hl17,hL17,sf1,sf2,sf5,sf12,sf13,Z⟩:=ik hI17 hI
 refine sq (L_lss rfl sf13 sf12 (nq (W_cond (b:=decide ((i_14 : Int) < (i64 (x5 + 1)))) rfl (fun hc20=>?_) (fun hc20=>?_))))
 have hlt17:=of_decide_eq_true hc20
 rcases suf17 with _ | rest17
 exact absurd hlt17 (cntF_no hl17 hk18)
 obtain ⟨o17,hB17,hL17⟩:=count_succ hL17
 rw [i_Model_varsOf_b1] at hB17
 refine W_skip (W_seq (W_block (sq (mF sf13 rfl (aI rfl (nn ?_))))))
 obtain ⟨x26,hx26,hB17⟩:=bind_some hB17
 obtain ⟨x31,hx31,hB17⟩:=bind_some hB17
 refine W_region (mF sf5 rfl (L_lda (cs:=[v0_0,v0_1]) rfl Tryz.isAgg26 Tryz.sizeOf26 sf2 (At.sub0 (Blk.at (Star.blkAt 1 Z rfl)) 0 2) rfl (mF sf1 rfl (mI rfl ?_))))
 obtain ⟨H35b,l36,s37,z38,k39⟩:=Z.borrow
 refine L_call rfl Tryz.call63 (ops3 rfl rfl rfl) (i_Model_boolVar_c (m:=m) (cell:=cell) (value:=(i_14 : Int)) s37 (RP.mono _ h0_0 l36) (RP.mono _ h0_1 l36) hx26) ?_
 rintro _ w40 ⟨rfl,Z⟩
 have Z:=k39 Z c0
 refine L_bs rfl (parts1 rfl) (bs_23_1_0 (I x26) rfl) Z (fun g41 w42 Z=>?_)
 have Z:=Star.addF (r:=RP.int) (cs:=[I x26]) (x:=x26) Z rfl
 have Z:=Star.mkRow (R:=(OR.frz RP.int)) [([I x26],x26)] [x26] 1 Z rfl rfl rfl (by decide)
 have Z:=Z.get 1 rfl
 refine L_appM (v:=v15_out) (u:=(Sl g41 1 1)) rfl et_23 rfl rfl Z hx31 (fun v44 w45 Z=>aV v44 rfl (nn (W_region (L_add rfl sf13 rfl (mI rfl (nn ?_))))))
 obtain rfl:=so hB17
 show ∃ m,m < _∧I17 m _ _
 refine ⟨rest17,Nat.lt_succ_self _,?_⟩
 exact ij hI17 ⟨i_14 + 1,rest17,x31,v44,rfl,by omega,by omega,hL17,sf1,sf2,rfl,sf12,(Eq.trans rfl (congrArg (Value.int .i64) (i64_succ (n:=0 + k18) (by omega) (cntF_le hk18)))),Z⟩
 rcases suf17 with _ | _
 obtain rfl:=count_zero hL17
 refine W_exit (rj hR17 ⟨out_15,v15_out,rfl,sf5,(Star.keepN 1 Z)⟩)
 exact absurd (cntF_yes hs17 hl17 hk18) (of_decide_eq_false hc20)
 intro f w_ hR
 obtain ⟨out_15,v15_out,rfl,sf5,Z⟩:=rk hR17 hR
 refine sq (mF sf5 rfl (aV v15_out rfl (nn (W_ret (retG1 (v1:=v15_out) Tryz.results47 rfl ?_)))))
 obtain rfl:=so hF
 exact ⟨v15_out,rfl,Z⟩
theorem slices_Clone_int_c {s : List Int} {v0 : Value} {H : FH} {w : World} (Z : Star H w []) (h0 : (rS 3 RP.int).rel H [v0] s) {r : List Int} (hF : slices_Clone_int s = some r) :
 C Tryz.prog 62 #[v0] w fun v w'=>∃ (u1 : Value),v = u1∧Star H w' [oF 3 RP.int u1 r]:=by
 unfold slices_Clone_int at hF
 refine C_enter Tryz.func62 rfl Tryz.ntmps62 rfl (sq (aV S0 rfl (nq (sq (mV v0 rfl ?_)))))
 obtain ⟨a1,cap1,hsl1,_,_⟩:=(slice_len h0)
 refine L_nileq (a:=a1) rfl Tryz.underlying23 (Eq.trans rfl hsl1) rfl ?_
 rw [← hsl1]
 refine nn ?_
 rcases Bool.eq_false_or_eq_true (isNilS v0) with hn2 | hn2
 refine W_cond (b:=true) (Eq.trans rfl (congrArg Value.bool hn2)) (fun _=>?_) (fun h=>nomatch h)
 obtain rfl:=nil_of h0 hn2
 refine sq (aV S0 rfl (nn (W_ret (retG1 (v1:=S0) Tryz.results62 rfl ?_))))
 simp [app] at hF
 subst hF
 have Z:=Star.addNil (R:=(OR.frz RP.int)) (e:=3) Z
 exact ⟨S0,rfl,Z⟩
 refine W_cond (b:=false) (Eq.trans rfl (congrArg Value.bool hn2)) (fun h=>nomatch h) (fun _=>?_)
 refine W_skip (W_seq ?_)
 obtain ⟨x7,hx7,hF⟩:=bind_some hF
 refine W_region (L_bs rfl parts0 (bs_23_0  ) Z (fun g11 w12 Z=>?_))
 have Z:=Star.mkRow (R:=(OR.frz RP.int)) [] [] 0 Z rfl rfl rfl (by decide)
 refine mV v0 rfl (L_app (v:=(Sl g11 0 0)) (u:=v0) rfl et_23 rfl rfl Z h0 hx7 (fun v14 w15 Z=>aV v14 rfl (nn (W_ret (retG1 (v1:=v14) Tryz.results62 rfl ?_)))))
 obtain rfl:=so hF
 exact ⟨v14,rfl,Z⟩
theorem i_isLiteral_c {l : Int} {H : FH} {w : World} (Z : Star H w []) {r : Bool} (hF : i_isLiteral l = some r) :
 C Tryz.prog 96 #[I l] w fun v w'=>v = Bo r∧Star H w' []:=by
 unfold i_isLiteral at hF
 refine C_enter Tryz.func96 rfl Tryz.ntmps96 rfl (sq (aB rfl (nq ?_)))
 obtain ⟨b8,hb8,hF⟩:=bind_some hF
 obtain ⟨R9,hR9⟩:=exR fun f w_=>f 2 = Bo b8∧Star H w_ ([])
 refine W_join R9 ?_ ?_
 refine W_region (mI rfl (L_neq rfl rfl rfl (mB rfl (L_split (d:=5) (b:=(l != 0)) rfl (fun hc10=>?_) (fun hc10=>?_)))))
 rw [ite_t hc10] at hb8
 obtain ⟨x6,hx6,hb8⟩:=bind_some hb8
 refine mI rfl ?_
 obtain ⟨H11b,l12,s13,z14,k15⟩:=Z.borrow
 refine L_call rfl Tryz.call92 (ops3 rfl rfl rfl) (i_within_c (n_:=l) (low:=(-12)) (high:=12) s13 hx6) ?_
 rintro _ w16 ⟨rfl,Z⟩
 have Z:=k15 Z c0
 refine L_pick (v:=Bo b8) rfl rfl (congrArg Value.bool (so hb8)) (aB rfl (nn (rj hR9 ⟨rfl,Z⟩)))
 rw [ite_f hc10] at hb8
 refine ps rfl (ps rfl (L_pick (v:=Bo b8) rfl rfl (congrArg Value.bool (so hb8)) (aB rfl (nn (rj hR9 ⟨rfl,Z⟩)))))
 intro f w_ hR
 obtain ⟨sf2,Z⟩:=rk hR9 hR
 refine W_ret (retG1 (v1:=Bo b8) Tryz.results96 sf2 ?_)
 obtain rfl:=so hF
 exact ⟨rfl,Z⟩
theorem slices_insertionSortCmpFunc_int_c {fu : Nat} {data : List Int} {a : Int} {b : Int} {cmp : (Int→Int→Option Int)} {v0 : Value} {v3 : Value} {H : FH} {w : World} (Z : Star H w [oF 3 RP.int v0 data]) (h3 : Fun2 Tryz.prog RP.int RP.int false (Value.int .i64) cmp v3 H) {r : List Int} (hF : slices_insertionSortCmpFunc_int fu data a b cmp = some r) :
 C Tryz.prog 170 #[v0,I a,I b,v3] w fun v w'=>v = .tuple #[]∧Star H w' [oF 3 RP.int v0 r]:=by
 unfold slices_insertionSortCmpFunc_int at hF
 obtain ⟨fid_3,caps_3,rfl,hcall_3,hc_3⟩:=h3
 refine C_enter Tryz.func170 rfl Tryz.ntmps170 rfl (sq (mI rfl (L_add rfl rfl rfl (aI rfl (nn ?_)))))
 obtain ⟨j6,hL6,hF⟩:=bind_some hF
 obtain ⟨R6,hR6⟩:=exR fun f w_=>∃ data_2 : List Int,∃ i_3 : Int,∃ H4 : FH,j6 = .nx (data_2,i_3)∧Le H H4∧Star H4 w_ ([oF 3 RP.int v0 data_2])
 refine W_join R6 ?_ ?_
 refine W_block ?_
 obtain ⟨I6,hI6⟩:=exI fun n f w_=>∃ data_2 : List Int,∃ i_3 : Int,∃ H4 : FH,whileL (slices_insertionSortCmpFunc_int_b1 fu a b cmp) n (data_2,i_3) = some j6∧Le H H4∧f 0 = v0∧f 1 = I a∧f 2 = I b∧f 3 = .func (.func fid_3) #[] caps_3∧f 8 = I i_3∧Star H4 w_ ([oF 3 RP.int v0 data_2])
 refine W_loop I6 (n:=fu) ?_ ?_
 exact ij hI6 ⟨data,i64 (a + 1),H,hL6,(Le.refl _),rfl,rfl,rfl,rfl,rfl,Z⟩
 intro n6 f w_ hI
 obtain ⟨data_2,i_3,H4,hL6,l5,sf0,sf1,sf2,sf3,sf8,Z⟩:=ik hI6 hI
 rcases n6 with _ | n6
 exact (while_zero hL6).elim
 obtain ⟨o6,hB6,hL6⟩:=while_succ hL6
 rw [slices_insertionSortCmpFunc_int_b1] at hB6
 refine W_seq (sq (mF sf8 rfl (mF sf2 rfl (L_lss rfl rfl rfl (nn (W_cond (b:=decide (i_3 < b)) rfl (fun hc7=>?_) (fun hc7=>?_)))))))
 have hB6:=(ite_t hc7).symm.trans hB6
 refine W_skip (W_seq (W_block (sq (mF sf8 rfl (aI rfl (nn ?_))))))
 obtain ⟨j13,hL13,hB6⟩:=bind_some hB6
 obtain ⟨R13,hR13⟩:=exR fun f w_=>∃ data_9 : List Int,∃ j_10 : Int,∃ H11 : FH,j13 = .nx (data_9,j_10)∧Le H4 H11∧f 0 = v0∧f 1 = I a∧f 2 = I b∧f 3 = .func (.func fid_3) #[] caps_3∧f 8 = I i_3∧Star H11 w_ ([oF 3 RP.int v0 data_9])
 refine W_join R13 ?_ ?_
 refine W_block ?_
 obtain ⟨I13,hI13⟩:=exI fun n f w_=>∃ data_9 : List Int,∃ j_10 : Int,∃ H11 : FH,whileL (slices_insertionSortCmpFunc_int_b2 a cmp) n (data_9,j_10) = some j13∧Le H4 H11∧f 0 = v0∧f 1 = I a∧f 2 = I b∧f 3 = .func (.func fid_3) #[] caps_3∧f 8 = I i_3∧f 9 = I j_10∧Star H11 w_ ([oF 3 RP.int v0 data_9])
 refine W_loop I13 (n:=fu) ?_ ?_
 exact ij hI13 ⟨data_2,i_3,H4,hL13,(Le.refl _),sf0,sf1,sf2,sf3,sf8,rfl,Z⟩
 intro n13 f w_ hI
 obtain ⟨data_9,j_10,H11,hL13,l12,sf0,sf1,sf2,sf3,sf8,sf9,Z⟩:=ik hI13 hI
 rcases n13 with _ | n13
 exact (while_zero hL13).elim
 obtain ⟨o13,hB13,hL13⟩:=while_succ hL13
 rw [slices_insertionSortCmpFunc_int_b2] at hB13
 refine W_seq (W_seq ?_)
 obtain ⟨b29,hb29,hB13⟩:=bind_some hB13
 obtain ⟨R33,hR33⟩:=exR fun f w_=>∃ H31 : FH,Le H11 H31∧f 0 = v0∧f 1 = I a∧f 2 = I b∧f 3 = .func (.func fid_3) #[] caps_3∧f 8 = I i_3∧f 9 = I j_10∧f 34 = Bo b29∧Star H31 w_ ([oF 3 RP.int v0 data_9])
 refine W_join R33 ?_ ?_
 rcases Bool.eq_false_or_eq_true (decide (j_10 > a)) with hc34 | hc34
 rw [ite_t hc34] at hb29
 obtain ⟨x14,hx14,hb29⟩:=bind_some hb29
 obtain ⟨x19,hx19,hb29⟩:=bind_some hb29
 obtain ⟨x22,hx22,hb29⟩:=bind_some hb29
 obtain ⟨g35,cap_g35,hv36,_,_⟩:=Star.row 0 Z rfl hx14
 refine W_drawS 14 [isV (I j_10),isV (I a),isV (Bo (decide (j_10 > a))),isV (Bo (decide (j_10 > a))),isV (.func (.func fid_3) #[] caps_3),isV (v0),isV (I j_10),isV (.pointer (some ⟨g35,Int.toNat j_10 * 1,none⟩)),isV (I x14),isV (v0),isV (I j_10),isV (I (i64 (j_10 - 1))),isV (.pointer (some ⟨g35,Int.toNat (i64 (j_10 - 1)) * 1,none⟩)),isV (I x19)] [oF 3 RP.int v0 data_9] [] ([]) [([],[]),([],[]),([],[]),([],[]),([],[]),([],[]),([],[]),([],[]),([],[]),([],[]),([],[]),([],[]),([],[]),([],[])] (S:=[]) Tryz_mix (by kernel_rfl) rfl (by kernel_rfl) (amF_cons (mono_V _) (amF_cons (mono_V _) (amF_cons (mono_V _) (amF_cons (mono_V _) (amF_cons (mono_V _) (amF_cons (mono_V _) (amF_cons (mono_V _) (amF_cons (mono_V _) (amF_cons (mono_V _) (amF_cons (mono_V _) (amF_cons (mono_V _) (amF_cons (mono_V _) (amF_cons (mono_V _) (amF_cons (mono_V _) amF_nil)))))))))))))) Z ?_ (fun f w_ H30 hS30 hE30 hT30 Z=>?_)
 refine opsS_cons (fun f w_ _ _ s _ _ Z=>mF ((s 9 rfl).trans sf9) rfl (nO rfl rfl Z)) (opsS_cons (fun f w_ _ _ s _ _ Z=>mF ((s 1 rfl).trans sf1) rfl (nO rfl rfl Z)) (opsS_cons (fun f w_ _ _ _ _ p Z=>L_gtr rfl (p 0 18 rfl rfl) (p 1 19 rfl rfl) (nO rfl rfl Z)) (opsS_cons (fun f w_ _ _ _ _ p Z=>mF (p 2 20 rfl rfl) rfl (nO rfl rfl Z)) (opsS_cons (fun f w_ _ _ s _ p Z=>L_mv (v:=.func (.func fid_3) #[] caps_3) (g_yes rfl (Eq.trans (p 3 21 rfl rfl) (congrArg Value.bool hc34)) rfl) ((s 3 rfl).trans sf3) (nO rfl rfl Z)) (opsS_cons (fun f w_ _ _ s _ p Z=>L_mv (v:=v0) (g_yes rfl (Eq.trans (p 3 21 rfl rfl) (congrArg Value.bool hc34)) rfl) ((s 0 rfl).trans sf0) (nO rfl rfl Z)) (opsS_cons (fun f w_ _ _ s _ p Z=>L_mv (v:=I j_10) (g_yes rfl (Eq.trans (p 3 21 rfl rfl) (congrArg Value.bool hc34)) rfl) ((s 9 rfl).trans sf9) (nO rfl rfl Z)) (opsS_cons (fun f w_ _ _ _ _ p Z=>L_ixO (R:=(OR.frz RP.int)) (tb:=0) 0 (g_yes rfl (Eq.trans (p 3 21 rfl rfl) (congrArg Value.bool hc34)) rfl) Tryz.underlying23 Tryz.sizeOf3 (p 5 23 rfl rfl) hv36 (by first | rfl | simp) (p 6 24 rfl rfl) hx14 (nO rfl rfl Z)) (opsS_cons ?_ ?_))))))))
 intro f w_ H30 X30 hS30 hE30 hP30 Z
 obtain ⟨cs41,hr41,hat41⟩:=Star.eltF 0 Z rfl hv36 hx14
 obtain rfl : _ = [_]:=hr41
 refine L_ld (v:=I x14) (g_yes rfl (Eq.trans (hP30 3 21 rfl rfl) (congrArg Value.bool hc34)) rfl) Tryz.isAgg3 (hP30 7 25 rfl rfl) (At.cell hat41 (j:=0) rfl) (L_nil ⟨rfl,_,_,rfl,Le.refl _,fun _ _=>rfl,Z⟩)
 refine opsS_cons (fun f w_ _ _ s _ p Z=>L_mv (v:=v0) (g_yes rfl (Eq.trans (p 3 21 rfl rfl) (congrArg Value.bool hc34)) rfl) ((s 0 rfl).trans sf0) (nO rfl rfl Z)) (opsS_cons (fun f w_ _ _ s _ p Z=>L_mv (v:=I j_10) (g_yes rfl (Eq.trans (p 3 21 rfl rfl) (congrArg Value.bool hc34)) rfl) ((s 9 rfl).trans sf9) (nO rfl rfl Z)) (opsS_cons (fun f w_ _ _ _ _ p Z=>L_sub (g_yes rfl (Eq.trans (p 3 21 rfl rfl) (congrArg Value.bool hc34)) rfl) (p 10 28 rfl rfl) rfl (nO rfl rfl Z)) (opsS_cons (fun f w_ _ _ _ _ p Z=>L_ixO (R:=(OR.frz RP.int)) (tb:=0) 0 (g_yes rfl (Eq.trans (p 3 21 rfl rfl) (congrArg Value.bool hc34)) rfl) Tryz.underlying23 Tryz.sizeOf3 (p 9 27 rfl rfl) hv36 (by first | rfl | simp) (p 11 29 rfl rfl) hx19 (nO rfl rfl Z)) (opsS_cons ?_ ?_))))
 intro f w_ H30 X30 hS30 hE30 hP30 Z
 obtain ⟨cs43,hr43,hat43⟩:=Star.eltF 0 Z rfl hv36 hx19
 obtain rfl : _ = [_]:=hr43
 refine L_ld (v:=I x19) (g_yes rfl (Eq.trans (hP30 3 21 rfl rfl) (congrArg Value.bool hc34)) rfl) Tryz.isAgg3 (hP30 12 30 rfl rfl) (At.cell hat43 (j:=0) rfl) (L_nil ⟨rfl,_,_,rfl,Le.refl _,fun _ _=>rfl,Z⟩)
 exact opsS_nil
 obtain ⟨H45b,l46,s47,z48,k49⟩:=Z.borrow
 refine L_callv (args:=#[I x14,I x19]) (g_yes rfl (Eq.trans (hT30 3 21 rfl rfl) (congrArg Value.bool hc34)) rfl) hcall_3 (hT30 4 22 rfl rfl) (ops2 (hT30 8 26 rfl rfl) (hT30 13 31 rfl rfl)) (hc_3 _ _ (Le.trans (Le.trans (Le.trans l5 l12) hE30) l46) s47 [I x14] [I x19] _ _ _ _ rfl rfl hx22 (args_app rfl)) ?_
 rintro _ w50 ⟨rfl,Z⟩
 have Z:=k49 Z c0
 refine L_lss (g_yes rfl (Eq.trans (hT30 3 21 rfl rfl) (congrArg Value.bool hc34)) rfl) rfl rfl (L_pick (v:=Bo b29) rfl (Eq.trans (hT30 3 21 rfl rfl) (congrArg Value.bool hc34)) (congrArg Value.bool (so hb29)) (nn (rj hR33 ⟨H30,hE30,((hS30 0 rfl).trans sf0),((hS30 1 rfl).trans sf1),((hS30 2 rfl).trans sf2),((hS30 3 rfl).trans sf3),((hS30 8 rfl).trans sf8),((hS30 9 rfl).trans sf9),rfl,Z⟩)))
 rw [ite_f hc34] at hb29
 refine W_drawS 14 [isV (I j_10),isV (I a),isV (Bo (decide (j_10 > a))),isV (Bo (decide (j_10 > a))),isV (undef),isV (undef),isV (undef),isV (undef),isV (undef),isV (undef),isV (undef),isV (undef),isV (undef),isV (undef)] [oF 3 RP.int v0 data_9] [] ([]) [([],[]),([],[]),([],[]),([],[]),([],[]),([],[]),([],[]),([],[]),([],[]),([],[]),([],[]),([],[]),([],[]),([],[])] (S:=[]) Tryz_mix (by kernel_rfl) rfl (by kernel_rfl) (amF_cons (mono_V _) (amF_cons (mono_V _) (amF_cons (mono_V _) (amF_cons (mono_V _) (amF_cons (mono_V _) (amF_cons (mono_V _) (amF_cons (mono_V _) (amF_cons (mono_V _) (amF_cons (mono_V _) (amF_cons (mono_V _) (amF_cons (mono_V _) (amF_cons (mono_V _) (amF_cons (mono_V _) (amF_cons (mono_V _) amF_nil)))))))))))))) Z ?_ (fun f w_ H30 hS30 hE30 hT30 Z=>?_)
 refine opsS_cons (fun f w_ _ _ s _ _ Z=>mF ((s 9 rfl).trans sf9) rfl (nO rfl rfl Z)) (opsS_cons (fun f w_ _ _ s _ _ Z=>mF ((s 1 rfl).trans sf1) rfl (nO rfl rfl Z)) (opsS_cons (fun f w_ _ _ _ _ p Z=>L_gtr rfl (p 0 18 rfl rfl) (p 1 19 rfl rfl) (nO rfl rfl Z)) (opsS_cons (fun f w_ _ _ _ _ p Z=>mF (p 2 20 rfl rfl) rfl (nO rfl rfl Z)) (oP (fun _ _ p=>gN (p 3 21 rfl rfl) hc34 rfl) (fun _=>rfl) (oP (fun _ _ p=>gN (p 3 21 rfl rfl) hc34 rfl) (fun _=>rfl) (oP (fun _ _ p=>gN (p 3 21 rfl rfl) hc34 rfl) (fun _=>rfl) (oP (fun _ _ p=>gN (p 3 21 rfl rfl) hc34 rfl) (fun _=>rfl) (oP (fun _ _ p=>gN (p 3 21 rfl rfl) hc34 rfl) (fun _=>rfl) (oP (fun _ _ p=>gN (p 3 21 rfl rfl) hc34 rfl) (fun _=>rfl) (oP (fun _ _ p=>gN (p 3 21 rfl rfl) hc34 rfl) (fun _=>rfl) (oP (fun _ _ p=>gN (p 3 21 rfl rfl) hc34 rfl) (fun _=>rfl) (oP (fun _ _ p=>gN (p 3 21 rfl rfl) hc34 rfl) (fun _=>rfl) (oP (fun _ _ p=>gN (p 3 21 rfl rfl) hc34 rfl) (fun _=>rfl) (opsS_nil))))))))))))))
 refine ps (g_no rfl (Eq.trans (hT30 3 21 rfl rfl) (congrArg Value.bool hc34)) rfl rfl) (ps (g_no rfl (Eq.trans (hT30 3 21 rfl rfl) (congrArg Value.bool hc34)) rfl rfl) (L_pick (v:=Bo b29) rfl (Eq.trans (hT30 3 21 rfl rfl) (congrArg Value.bool hc34)) (congrArg Value.bool (so hb29)) (nn (rj hR33 ⟨H30,hE30,((hS30 0 rfl).trans sf0),((hS30 1 rfl).trans sf1),((hS30 2 rfl).trans sf2),((hS30 3 rfl).trans sf3),((hS30 8 rfl).trans sf8),((hS30 9 rfl).trans sf9),rfl,Z⟩))))
 intro f w_ hR
 obtain ⟨H31,l32,sf0,sf1,sf2,sf3,sf8,sf9,sf34,Z⟩:=rk hR33 hR
 refine W_cond (b:=b29) sf34 (fun hc51=>?_) (fun hc51=>?_)
 have hB13:=(ite_t hc51).symm.trans hB13
 refine W_skip (W_seq (W_block ?_))
 obtain ⟨x52,hx52,hB13⟩:=bind_some hB13
 obtain ⟨x57,hx57,hB13⟩:=bind_some hB13
 obtain ⟨x61,hx61,hB13⟩:=bind_some hB13
 obtain ⟨g64,cap_g64,hv65,_,_⟩:=Star.row 0 Z rfl hx52
 refine W_drawS 16 [isV (v0),isV (I j_10),isV (v0),isV (I j_10),isV (I (i64 (j_10 - 1))),isV (v0),isV (I j_10),isV (I (i64 (j_10 - 1))),isV (.pointer (some ⟨g64,Int.toNat (i64 (j_10 - 1)) * 1,none⟩)),isV (I x52),isV (v0),isV (I j_10),isV (.pointer (some ⟨g64,Int.toNat j_10 * 1,none⟩)),isV (I x57),isV (.pointer (some ⟨g64,Int.toNat j_10 * 1,none⟩)),anyF] [] [.base (oF 3 RP.int v0 data_9) (some 15),.madeN 15 [] (fun vs_=>oF 3 RP.int v0 (data_9.set (Int.toNat j_10) x52)) none] ([]) [([],[]),([],[]),([],[]),([],[]),([],[]),([],[]),([],[]),([],[]),([0],[0]),([0],[0]),([],[]),([],[]),([0],[0]),([0],[0]),([0],[0]),([0],[1])] (S:=[(none,[],some 15),(some 15,[],none)]) Tryz_mix (by kernel_rfl) rfl (by kernel_rfl) (amF_cons (mono_V _) (amF_cons (mono_V _) (amF_cons (mono_V _) (amF_cons (mono_V _) (amF_cons (mono_V _) (amF_cons (mono_V _) (amF_cons (mono_V _) (amF_cons (mono_V _) (amF_cons (mono_V _) (amF_cons (mono_V _) (amF_cons (mono_V _) (amF_cons (mono_V _) (amF_cons (mono_V _) (amF_cons (mono_V _) (amF_cons (mono_V _) (amF_cons (mono_any) amF_nil)))))))))))))))) Z ?_ (fun f w_ H63 hS63 hE63 hT63 Z=>?_)
 refine opsS_cons (fun f w_ _ _ s _ _ Z=>mF ((s 0 rfl).trans sf0) rfl (nO rfl rfl Z)) (opsS_cons (fun f w_ _ _ s _ _ Z=>mF ((s 9 rfl).trans sf9) rfl (nO rfl rfl Z)) (opsS_cons (fun f w_ _ _ s _ _ Z=>mF ((s 0 rfl).trans sf0) rfl (nO rfl rfl Z)) (opsS_cons (fun f w_ _ _ s _ _ Z=>mF ((s 9 rfl).trans sf9) rfl (nO rfl rfl Z)) (opsS_cons (fun f w_ _ _ _ _ p Z=>L_sub rfl (p 3 40 rfl rfl) rfl (nO rfl rfl Z)) (opsS_cons (fun f w_ _ _ s _ _ Z=>mF ((s 0 rfl).trans sf0) rfl (nO rfl rfl Z)) (opsS_cons (fun f w_ _ _ s _ _ Z=>mF ((s 9 rfl).trans sf9) rfl (nO rfl rfl Z)) (opsS_cons (fun f w_ _ _ _ _ p Z=>L_sub rfl (p 6 43 rfl rfl) rfl (nO rfl rfl Z)) (opsS_cons ?_ ?_))))))))
 intro f w_ H63 X63 hS63 hE63 hP63 Z
 have Z : Star H63 w_ (oF 3 RP.int v0 data_9 :: X63):=Z
 refine L_ixO (R:=(OR.frz RP.int)) (tb:=0) 0 rfl Tryz.underlying23 Tryz.sizeOf3 (hP63 5 42 rfl rfl) hv65 (by first | rfl | simp) (hP63 7 44 rfl rfl) hx52 (L_nil ⟨rfl,_,_,rfl,Le.refl _,fun _ _=>rfl,Z⟩)
 refine opsS_cons ?_ ?_
 intro f w_ H63 X63 hS63 hE63 hP63 Z
 have Z : Star H63 w_ (oF 3 RP.int v0 data_9 :: X63):=Z
 obtain ⟨cs71,hr71,hat71⟩:=Star.eltF 0 Z rfl hv65 hx52
 obtain rfl : _ = [_]:=hr71
 refine L_ld rfl Tryz.isAgg3 (hP63 8 45 rfl rfl) (At.cell hat71 (j:=0) rfl) (L_nil ⟨rfl,_,_,rfl,Le.refl _,fun _ _=>rfl,Z⟩)
 refine opsS_cons (fun f w_ _ _ s _ _ Z=>mF ((s 0 rfl).trans sf0) rfl (nO rfl rfl Z)) (opsS_cons (fun f w_ _ _ s _ _ Z=>mF ((s 9 rfl).trans sf9) rfl (nO rfl rfl Z)) (opsS_cons ?_ ?_))
 intro f w_ H63 X63 hS63 hE63 hP63 Z
 have Z : Star H63 w_ (oF 3 RP.int v0 data_9 :: X63):=Z
 refine L_ixO (R:=(OR.frz RP.int)) (tb:=0) 0 rfl Tryz.underlying23 Tryz.sizeOf3 (hP63 10 47 rfl rfl) hv65 (by first | rfl | simp) (hP63 11 48 rfl rfl) hx57 (L_nil ⟨rfl,_,_,rfl,Le.refl _,fun _ _=>rfl,Z⟩)
 refine opsS_cons ?_ ?_
 intro f w_ H63 X63 hS63 hE63 hP63 Z
 have Z : Star H63 w_ (oF 3 RP.int v0 data_9 :: X63):=Z
 obtain ⟨cs73,hr73,hat73⟩:=Star.eltF 0 Z rfl hv65 hx57
 obtain rfl : _ = [_]:=hr73
 refine L_ld rfl Tryz.isAgg3 (hP63 12 49 rfl rfl) (At.cell hat73 (j:=0) rfl) (L_nil ⟨rfl,_,_,rfl,Le.refl _,fun _ _=>rfl,Z⟩)
 refine opsS_cons ?_ ?_
 intro f w_ H63 X63 hS63 hE63 hP63 Z
 have Z : Star H63 w_ (oF 3 RP.int v0 data_9 :: X63):=Z
 refine L_ixO (R:=(OR.frz RP.int)) (tb:=0) 0 rfl Tryz.underlying23 Tryz.sizeOf3 (hP63 0 37 rfl rfl) hv65 (by first | rfl | simp) (hP63 1 38 rfl rfl) hx57 (L_nil ⟨rfl,_,_,rfl,Le.refl _,fun _ _=>rfl,Z⟩)
 refine opsS_cons ?_ ?_
 intro f w_ H63 X63 hS63 hE63 hP63 Z
 have Z : Star H63 w_ (oF 3 RP.int v0 data_9 :: X63):=Z
 have Z:=Star.addF (r:=RP.int) (cs:=[I x52]) (x:=x52) Z rfl
 refine L_stE1 (u:=I x52) rfl Tryz.sizeOf3 rfl (hP63 14 51 rfl rfl) (hP63 9 46 rfl rfl) hv65 Z hx57 (fun w75 Z=>?_)
 exact L_nil ⟨rfl,Bo false,_,rfl,Le.refl _,(fun _ h=>nomatch h),Z⟩
 exact opsS_nil
 have Z : Star H63 w_ ([oF 3 RP.int v0 (data_9.set (Int.toNat j_10) x52)]):=Z
 refine L_ixO (R:=(OR.frz RP.int)) (tb:=0) 0 rfl Tryz.underlying23 Tryz.sizeOf3 (hT63 2 39 rfl rfl) hv65 (by first | rfl | simp) (hT63 4 41 rfl rfl) hx61 ?_
 have Z:=Star.addF (r:=RP.int) (cs:=[I x57]) (x:=x57) Z rfl
 refine L_stE1 (u:=I x57) rfl Tryz.sizeOf3 rfl rfl (hT63 13 50 rfl rfl) hv65 Z hx61 (fun w76 Z=>?_)
 refine nn (W_region (mF ((hS63 9 rfl).trans sf9) rfl (L_sub rfl rfl rfl (aI rfl (nn ?_)))))
 obtain rfl:=so hB13
 show ∃ m,m < _∧I13 m _ _
 refine ⟨n13,Nat.lt_succ_self _,?_⟩
 exact ij hI13 ⟨((data_9.set (Int.toNat j_10) x52).set (Int.toNat (i64 (j_10 - 1))) x57),i64 (j_10 - 1),H63,hL13,(Le.trans (Le.trans l12 l32) hE63),((hS63 0 rfl).trans sf0),((hS63 1 rfl).trans sf1),((hS63 2 rfl).trans sf2),((hS63 3 rfl).trans sf3),((hS63 8 rfl).trans sf8),rfl,Z⟩
 have hB13:=(ite_f hc51).symm.trans hB13
 refine W_exit ?_
 obtain rfl:=so hB13
 obtain rfl:=so hL13
 exact rj hR13 ⟨data_9,j_10,H31,rfl,(Le.trans l12 l32),sf0,sf1,sf2,sf3,sf8,Z⟩
 intro f w_ hR
 obtain ⟨data_9,j_10,H11,rfl,l12,sf0,sf1,sf2,sf3,sf8,Z⟩:=rk hR13 hR
 refine W_region (mF sf8 rfl (L_add rfl rfl rfl (aI rfl (nn ?_))))
 obtain rfl:=so hB6
 show ∃ m,m < _∧I6 m _ _
 refine ⟨n6,Nat.lt_succ_self _,?_⟩
 exact ij hI6 ⟨data_9,i64 (i_3 + 1),H11,hL6,(Le.trans l5 l12),sf0,sf1,sf2,sf3,rfl,Z⟩
 have hB6:=(ite_f hc7).symm.trans hB6
 refine W_exit ?_
 obtain rfl:=so hB6
 obtain rfl:=so hL6
 exact rj hR6 ⟨data_2,i_3,H4,rfl,l5,Z⟩
 intro f w_ hR
 obtain ⟨data_2,i_3,H4,rfl,l5,Z⟩:=rk hR6 hR
 refine ret0 Tryz.results170 ?_
 obtain rfl:=so hF
 exact ⟨rfl,(Star.down Z l5 (co closed_int c0))⟩
theorem bits_Len_c {x_ : Int} {H : FH} {w : World} (Z : Star H w []) {r : Int} (hF : bits_Len x_ = some r) :
 C Tryz.prog 143 #[.int .u64 x_] w fun v w'=>v = I r∧Star H w' []:=by
 obtain ⟨h0,h1,rfl⟩:=bits_Len_some hF
 refine Calls.mono (Go.Proofs.Tryz.bits_Len x_ w h0 h1) ?_
 rintro e w' ⟨rfl,rfl⟩
 exact ⟨_,rfl,rfl,Z⟩
theorem slices_nextPowerOfTwo_c {length : Int} {H : FH} {w : World} (Z : Star H w []) {r : Int} (hF : slices_nextPowerOfTwo length = some r) :
 C Tryz.prog 204 #[I length] w fun v w'=>v = .int .u64 r∧Star H w' []:=by
 unfold slices_nextPowerOfTwo at hF
 refine C_enter Tryz.func204 rfl Tryz.ntmps204 rfl (sq (aV (.int .u64 0) rfl (nq ?_)))
 obtain ⟨x6,hx6,hF⟩:=bind_some hF
 obtain ⟨q8,hq8,hF⟩:=bind_some hF
 refine W_region (mI rfl (L_cv (n:=length) rfl rfl ⟨_,Tryz.underlying3⟩ Tryz.underlying148 ?_))
 obtain ⟨H9b,l10,s11,z12,k13⟩:=Z.borrow
 refine L_call rfl Tryz.call143 (ops1 rfl) (bits_Len_c (x_:=IntKind.u64.wrap length) s11 hx6) ?_
 rintro _ w14 ⟨rfl,Z⟩
 have Z:=k13 Z c0
 refine L_shl (m:=1) (n:=x6) rfl rfl rfl (Int.not_lt.1 fun he=>by rw [if_pos he] at hq8; cases hq8) (aV (.int .u64 (IntKind.u64.wrap (1 * 2 ^ (min (Int.toNat x6) (IntKind.bits .u64))))) rfl (nn (W_ret (retG1 (v1:=.int .u64 (IntKind.u64.wrap (1 * 2 ^ (min (Int.toNat x6) (IntKind.bits .u64))))) Tryz.results204 rfl ?_))))
 obtain rfl:=so hF
 exact ⟨rfl,Z⟩
theorem slices_pdqsortCmpFunc_int_c {fu : Nat} {data : List Int} {a : Int} {b : Int} {limit : Int} {cmp : (Int→Int→Option Int)} {v0 : Value} {v4 : Value} {H : FH} {w : World} (Z : Star H w [oF 3 RP.int v0 data]) (h4 : Fun2 Tryz.prog RP.int RP.int false (Value.int .i64) cmp v4 H) {r : List Int} (hF : slices_pdqsortCmpFunc_int fu data a b limit cmp = some r) :
 C Tryz.prog 142 #[v0,I a,I b,I limit,v4] w fun v w'=>v = .tuple #[]∧Star H w' [oF 3 RP.int v0 r]:=by
 unfold slices_pdqsortCmpFunc_int at hF
 obtain ⟨fid_4,caps_4,rfl,hcall_4,hc_4⟩:=h4
 refine C_enter Tryz.func142 rfl Tryz.ntmps142 rfl (sq (aB rfl (ns (aB rfl (nn ?_)))))
 obtain ⟨j2,hL2,hF⟩:=bind_some hF
 obtain ⟨R2,hR2⟩:=exR fun f w_=>j2 = .nx ()∧Star H w_ ([oF 3 RP.int v0 data])
 refine W_join R2 ?_ ?_
 refine W_block ?_
 obtain ⟨I2,hI2⟩:=exI fun n f w_=>whileL (slices_pdqsortCmpFunc_int_b1 fu data a b cmp) n () = some j2∧f 0 = v0∧f 1 = I a∧f 2 = I b∧f 4 = .func (.func fid_4) #[] caps_4∧Star H w_ ([oF 3 RP.int v0 data])
 refine W_loop I2 (n:=fu) ?_ ?_
 exact ij hI2 ⟨hL2,rfl,rfl,rfl,rfl,Z⟩
 intro n2 f w_ hI
 obtain ⟨hL2,sf0,sf1,sf2,sf4,Z⟩:=ik hI2 hI
 rcases n2 with _ | n2
 exact (while_zero hL2).elim
 obtain ⟨o2,hB2,hL2⟩:=while_succ hL2
 rw [slices_pdqsortCmpFunc_int_b1] at hB2
 refine W_block (sq (mF sf2 rfl (mF sf1 rfl (L_sub rfl rfl rfl (aI rfl (nq (sq (mI rfl (L_leq rfl rfl rfl (nn (W_cond (b:=decide ((i64 (b - a))≤12)) rfl (fun hc3=>?_) (fun hc3=>?_))))))))))))
 have hB2:=(ite_t hc3).symm.trans hB2
 refine W_seq ?_
 obtain ⟨x9,hx9,hB2⟩:=bind_some hB2
 refine W_region (mF sf0 rfl (mF sf1 rfl (mF sf2 rfl (mF sf4 rfl ?_))))
 obtain ⟨H11b,l12,s13,z14,k15⟩:=Z.lend [_]
 refine L_call rfl Tryz.call170 (ops4 rfl rfl rfl rfl) (slices_insertionSortCmpFunc_int_c (data:=data) (a:=a) (b:=b) (cmp:=cmp) s13 (Fun2.le ⟨_,_,rfl,hcall_4,hc_4⟩ l12) hx9) ?_
 rintro _ w16 ⟨rfl,Z⟩
 have Z:=k15 Z (co closed_int c0)
 refine nn (W_ret (ret0 Tryz.results142 ?_))
 obtain rfl:=so hB2
 obtain rfl:=so hL2
 obtain rfl:=so hF
 exact ⟨rfl,Z⟩
 have hB2:=(ite_f hc3).symm.trans hB2
 refine W_skip ?_
 cases hB2
 intro f w_ hR
 obtain ⟨rfl,Z⟩:=rk hR2 hR
 refine ret0 Tryz.results142 ?_
 obtain rfl:=so hF
 exact ⟨rfl,Z⟩
theorem slices_SortFunc_int_c {fu : Nat} {x : List Int} {cmp : (Int→Int→Option Int)} {v0 : Value} {v1 : Value} {H : FH} {w : World} (Z : Star H w [oF 3 RP.int v0 x]) (h1 : Fun2 Tryz.prog RP.int RP.int false (Value.int .i64) cmp v1 H) {r : List Int} (hF : slices_SortFunc_int fu x cmp = some r) :
 C Tryz.prog 98 #[v0,v1] w fun v w'=>v = .tuple #[]∧Star H w' [oF 3 RP.int v0 r]:=by
 unfold slices_SortFunc_int at hF
 obtain ⟨fid_1,caps_1,rfl,hcall_1,hc_1⟩:=h1
 refine C_enter Tryz.func98 rfl Tryz.ntmps98 rfl (sq (mV v0 rfl (L_len rfl Tryz.underlying23 rfl (Star.len 0 Z rfl) (aI rfl (nn ?_)))))
 obtain ⟨x6,hx6,hF⟩:=bind_some hF
 obtain ⟨x13,hx13,hF⟩:=bind_some hF
 refine W_region (mV v0 rfl (mI rfl (mI rfl (L_cv (n:=(x.length : Int)) rfl rfl ⟨_,Tryz.underlying3⟩ Tryz.underlying148 ?_))))
 obtain ⟨H15b,l16,s17,z18,k19⟩:=Z.borrow
 refine L_call rfl Tryz.call143 (ops1 rfl) (bits_Len_c (x_:=IntKind.u64.wrap (x.length : Int)) s17 hx6) ?_
 rintro _ w20 ⟨rfl,Z⟩
 have Z:=k19 Z c0
 refine mV (.func (.func fid_1) #[] caps_1) rfl ?_
 obtain ⟨H21b,l22,s23,z24,k25⟩:=Z.lend [_]
 refine L_call rfl Tryz.call142 (ops5 rfl rfl rfl rfl rfl) (slices_pdqsortCmpFunc_int_c (data:=x) (a:=0) (b:=(x.length : Int)) (limit:=x6) (cmp:=cmp) s23 (Fun2.le ⟨_,_,rfl,hcall_1,hc_1⟩ l22) hx13) ?_
 rintro _ w26 ⟨rfl,Z⟩
 have Z:=k25 Z (co closed_int c0)
 refine nn (ret0 Tryz.results98 ?_)
 obtain rfl:=so hF
 exact ⟨rfl,Z⟩
theorem i_variableOf_c {l : Int} {H : FH} {w : World} (Z : Star H w []) {r : Int} (hF : i_variableOf l = some r) :
 C Tryz.prog 100 #[I l] w fun v w'=>v = I r∧Star H w' []:=by
 unfold i_variableOf at hF
 refine C_enter Tryz.func100 rfl Tryz.ntmps100 rfl (sq (aI rfl (ns (mI rfl (mI rfl (L_neg rfl rfl (L_max rfl rfl rfl (aI rfl (nn (W_ret (retG1 (v1:=I (max l (i64 (-l)))) Tryz.results100 rfl ?_)))))))))))
 obtain rfl:=so hF
 exact ⟨rfl,Z⟩
theorem i_ClauseOf_1_c {a : Int} {b : Int} {H : FH} {w : World} (Z : Star H w []) {r : Int} (hF : i_ClauseOf_1 a b = some r) :
 C Tryz.prog 99 #[I a,I b] w fun v w'=>v = I r∧Star H w' []:=by
 unfold i_ClauseOf_1 at hF
 refine C_enter Tryz.func99 rfl Tryz.ntmps99 rfl (sq (aI rfl (nq ?_)))
 obtain ⟨x6,hx6,hF⟩:=bind_some hF
 obtain ⟨x13,hx13,hF⟩:=bind_some hF
 refine W_region (mI rfl ?_)
 obtain ⟨H15b,l16,s17,z18,k19⟩:=Z.borrow
 refine L_call rfl Tryz.call100 (ops1 rfl) (i_variableOf_c (l:=a) s17 hx6) ?_
 rintro _ w20 ⟨rfl,Z⟩
 have Z:=k19 Z c0
 refine mI rfl ?_
 obtain ⟨H21b,l22,s23,z24,k25⟩:=Z.borrow
 refine L_call rfl Tryz.call100 (ops1 rfl) (i_variableOf_c (l:=b) s23 hx13) ?_
 rintro _ w26 ⟨rfl,Z⟩
 have Z:=k25 Z c0
 refine L_sub rfl rfl rfl (aI rfl (nn (W_ret (retG1 (v1:=I (i64 (x6 - x13))) Tryz.results99 rfl ?_))))
 obtain rfl:=so hF
 exact ⟨rfl,Z⟩
theorem slices_Compact_int_c {s : List Int} {v0 : Value} {H : FH} {w : World} {R : List Ass} (Z : Star H w R) (h0 : (rS 3 RP.int).rel H [v0] s) {r : List Int} (hF : slices_Compact_int s = some r) :
 C Tryz.prog 101 #[v0] w fun v w'=>∃ H' : FH,Le H H'∧∃ (u1 : Value),v = u1∧(rS 3 RP.int).rel H' [u1] r∧Star H' w' (R):=by
 unfold slices_Compact_int at hF
 refine C_enter Tryz.func101 rfl Tryz.ntmps101 rfl (sq (aV S0 rfl (nq (sq (mV v0 rfl (L_len rfl Tryz.underlying23 rfl (slice_len h0) (L_lss rfl rfl rfl (nn (W_cond (b:=decide ((s.length : Int) < 2)) rfl (fun hc1=>?_) (fun hc1=>?_))))))))))
 have hF:=(ite_t hc1).symm.trans hF
 refine sq (mV v0 rfl (aV v0 rfl (nn (W_ret (retG1 (v1:=v0) Tryz.results101 rfl ?_)))))
 obtain rfl:=so hF
 exact ⟨H,(Le.refl _),v0,rfl,h0,Z⟩
 have hF:=(ite_f hc1).symm.trans hF
 refine W_skip (W_seq (sq (aI rfl (nn ?_))))
 obtain ⟨k6,hk6,hF⟩:=bind_some hF
 obtain ⟨j5,hL5,hF⟩:=bind_some hF
 obtain ⟨R5,hR5⟩:=exR fun f w_=>∃ H3 : FH,j5 = .nx ()∧Le H H3∧f 0 = v0∧Star H3 w_ (R)
 refine W_join R5 ?_ ?_
 refine W_block ?_
 obtain ⟨I5,hI5⟩:=exI fun n f w_=>∃ i_2 : Nat,∃ suf5 : Nat,∃ H3 : FH,suf5 = n∧1≤i_2∧i_2 + suf5 = 1 + k6∧countL (slices_Compact_int_b1 s) suf5 i_2 () = some j5∧Le H H3∧f 0 = v0∧f 3 = I i_2∧Star H3 w_ (R)
 refine W_loop I5 (n:=k6) ?_ ?_
 exact ij hI5 ⟨1,k6,H,rfl,Nat.le_refl _,rfl,hL5,(Le.refl _),rfl,rfl,Z⟩
 intro n5 f w_ hI
 obtain ⟨i_2,suf5,H3,rfl,hs5,hl5,hL5,l4,sf0,sf3,Z⟩:=ik hI5 hI
 refine W_seq (sq (mF sf3 rfl (mF sf0 rfl (L_len rfl Tryz.underlying23 rfl (slice_len (RP.mono _ h0 l4)) (L_lss rfl rfl rfl (nn (W_cond (b:=decide ((i_2 : Int) < (s.length : Int))) rfl (fun hc7=>?_) (fun hc7=>?_))))))))
 have hlt5:=of_decide_eq_true hc7
 rcases suf5 with _ | rest5
 exact absurd hlt5 (cntF_no hl5 hk6)
 obtain ⟨o5,hB5,hL5⟩:=count_succ hL5
 rw [slices_Compact_int_b1] at hB5
 refine W_skip (W_seq (W_block (W_seq ?_)))
 obtain ⟨x8,hx8,hB5⟩:=bind_some hB5
 obtain ⟨x13,hx13,hB5⟩:=bind_some hB5
 refine W_drawS 9 [isV (v0),isV (I i_2),isEl RP.int x8 0,isV (I x8),isV (v0),isV (I i_2),isV (I (i64 ((i_2 : Int) - 1))),isEl RP.int x13 0,isV (I x13)] [] [] (R) [([],[]),([],[]),([],[]),([],[]),([],[]),([],[]),([],[]),([],[]),([],[])] (S:=[]) Tryz_mix (by kernel_rfl) rfl (by kernel_rfl) (amF_cons (mono_V _) (amF_cons (mono_V _) (amF_cons (mono_el _ _ _) (amF_cons (mono_V _) (amF_cons (mono_V _) (amF_cons (mono_V _) (amF_cons (mono_V _) (amF_cons (mono_el _ _ _) (amF_cons (mono_V _) amF_nil))))))))) Z ?_ (fun f w_ H18 hS18 hE18 hT18 Z=>?_)
 refine opsS_cons (fun f w_ _ _ s _ _ Z=>mF ((s 0 rfl).trans sf0) rfl (nO rfl rfl Z)) (opsS_cons (fun f w_ _ _ s _ _ Z=>mF ((s 3 rfl).trans sf3) rfl (nO rfl rfl Z)) (opsS_cons ?_ ?_))
 intro f w_ H18 X18 hS18 hE18 hP18 Z
 refine L_ix (r:=RP.int) rfl Tryz.underlying23 Tryz.sizeOf3 (hP18 0 16 rfl rfl) (RP.mono _ h0 (Le.trans l4 hE18)) (hP18 1 17 rfl rfl) hx8 (fun g27 o28 cs_g27 hrk_hat29 hat29=>?_)
 obtain rfl : _ = [_]:=hrk_hat29
 exact L_nil ⟨rfl,_,_,rfl,Le.refl _,fun _ _=>⟨_,_,_,rfl,rfl,hat29⟩,Z⟩
 refine opsS_cons ?_ ?_
 intro f w_ H18 X18 hS18 hE18 hP18 Z
 obtain ⟨g31,o31,cs31,hv31,hrk_hat31,hat31⟩:=(hP18 2 18 rfl rfl)
 obtain rfl : _ = [_]:=hrk_hat31
 refine L_ld rfl Tryz.isAgg3 hv31 (At.cell (AtH.at hat31 Z.sub) (j:=0) rfl) (L_nil ⟨rfl,_,_,rfl,Le.refl _,fun _ _=>rfl,Z⟩)
 refine opsS_cons (fun f w_ _ _ s _ _ Z=>mF ((s 0 rfl).trans sf0) rfl (nO rfl rfl Z)) (opsS_cons (fun f w_ _ _ s _ _ Z=>mF ((s 3 rfl).trans sf3) rfl (nO rfl rfl Z)) (opsS_cons (fun f w_ _ _ _ _ p Z=>L_sub rfl (p 5 21 rfl rfl) rfl (nO rfl rfl Z)) (opsS_cons ?_ ?_)))
 intro f w_ H18 X18 hS18 hE18 hP18 Z
 refine L_ix (r:=RP.int) rfl Tryz.underlying23 Tryz.sizeOf3 (hP18 4 20 rfl rfl) (RP.mono _ h0 (Le.trans l4 hE18)) (hP18 6 22 rfl rfl) hx13 (fun g33 o34 cs_g33 hrk_hat35 hat35=>?_)
 obtain rfl : _ = [_]:=hrk_hat35
 exact L_nil ⟨rfl,_,_,rfl,Le.refl _,fun _ _=>⟨_,_,_,rfl,rfl,hat35⟩,Z⟩
 refine opsS_cons ?_ ?_
 intro f w_ H18 X18 hS18 hE18 hP18 Z
 obtain ⟨g37,o37,cs37,hv37,hrk_hat37,hat37⟩:=(hP18 7 23 rfl rfl)
 obtain rfl : _ = [_]:=hrk_hat37
 refine L_ld rfl Tryz.isAgg3 hv37 (At.cell (AtH.at hat37 Z.sub) (j:=0) rfl) (L_nil ⟨rfl,_,_,rfl,Le.refl _,fun _ _=>rfl,Z⟩)
 exact opsS_nil
 refine L_eql rfl (hT18 3 19 rfl rfl) (hT18 8 24 rfl rfl) (nn ?_)
 obtain ⟨_,hA39,hB5⟩:=bind_some hB5
 obtain ⟨R39,hR39⟩:=exR fun f w_=>f 0 = v0∧f 3 = I i_2∧Star H18 w_ (R)
 refine W_join R39 ?_ ?_
 refine W_cond (b:=(x8 == x13)) rfl (fun hc40=>?_) (fun hc40=>?_)
 have hA39:=(ite_t hc40).symm.trans hA39
 cases hA39
 have hA39:=(ite_f hc40).symm.trans hA39
 refine W_skip (rj hR39 ⟨((hS18 0 rfl).trans sf0),((hS18 3 rfl).trans sf3),Z⟩)
 intro f w_ hR
 obtain ⟨sf0,sf3,Z⟩:=rk hR39 hR
 refine W_region (mF sf3 rfl (L_add rfl rfl rfl (aI rfl (nn ?_))))
 obtain rfl:=so hB5
 show ∃ m,m < _∧I5 m _ _
 refine ⟨rest5,Nat.lt_succ_self _,?_⟩
 exact ij hI5 ⟨i_2 + 1,rest5,H18,rfl,by omega,by omega,hL5,(Le.trans l4 hE18),sf0,(Eq.trans rfl (congrArg (Value.int .i64) (i64_succ (n:=1 + k6) (by omega) (cntF_le hk6)))),Z⟩
 rcases suf5 with _ | _
 obtain rfl:=count_zero hL5
 refine W_exit (rj hR5 ⟨H3,rfl,l4,sf0,Z⟩)
 exact absurd (cntF_yes hs5 hl5 hk6) (of_decide_eq_false hc7)
 intro f w_ hR
 obtain ⟨H3,rfl,l4,sf0,Z⟩:=rk hR5 hR
 refine sq (mF sf0 rfl (aV v0 rfl (nn (W_ret (retG1 (v1:=v0) Tryz.results101 rfl ?_)))))
 obtain rfl:=so hF
 exact ⟨H3,l4,v0,rfl,(RP.mono _ h0 l4),Z⟩
end Go.Proofs.YtbjllamkfmejlaaGreat

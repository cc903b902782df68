/- Part of a proof by program: W1. -/
import Derived.Test.YtohpkefnmkdaeaaDoorD1
import Derived.Test.YtohpkefnmkdaeaaDoorProg
import Derived.Test.YtohpkefnmkdaeaaDoorShelf
import Derived.WalkKit
namespace Go.Proofs.YtohpkefnmkdaeaaDoor
open Go Go.E Go.L Go.RowKit
set_option linter.unusedVariables false
set_option linter.unusedSimpArgs false
set_option maxRecDepth 100000
theorem Tryd_mix : Tryd.prog.follows .mixedOrders = true := by kernel_rfl
theorem fa_26_0 : FA Tryd.prog 26 0 0 := fa_of Tryd.underlying26 rfl Tryd.sizeOf23 rfl
theorem fa_26_1 : FA Tryd.prog 26 1 1 := fa_of Tryd.underlying26 rfl Tryd.sizeOf24 rfl
theorem fa_54_0 : FA Tryd.prog 54 0 0 := fa_of Tryd.underlying54 rfl Tryd.sizeOf3 rfl
theorem fa_54_1 : FA Tryd.prog 54 1 1 := fa_of Tryd.underlying54 rfl Tryd.sizeOf23 rfl
theorem fa_54_2 : FA Tryd.prog 54 2 2 := fa_of Tryd.underlying54 rfl Tryd.sizeOf23 rfl
theorem fa_54_3 : FA Tryd.prog 54 3 3 := fa_of Tryd.underlying54 rfl Tryd.sizeOf3 rfl
theorem fa_54_4 : FA Tryd.prog 54 4 4 := fa_of Tryd.underlying54 rfl Tryd.sizeOf52 rfl
theorem fa_88_0 : FA Tryd.prog 88 0 0 := fa_of Tryd.underlying88 rfl Tryd.sizeOf22 rfl
theorem fa_88_1 : FA Tryd.prog 88 1 1 := fa_of Tryd.underlying88 rfl Tryd.sizeOf3 rfl
theorem et_22 : ET Tryd.prog 22 5 1 := et_of Tryd.underlying22 (by decide) (by kernel_rfl)
theorem et_23 : ET Tryd.prog 23 3 1 := et_of Tryd.underlying23 (by decide) (by kernel_rfl)
theorem et_24 : ET Tryd.prog 24 54 5 := et_of Tryd.underlying24 (by decide) (by kernel_rfl)
theorem et_52 : ET Tryd.prog 52 23 1 := et_of Tryd.underlying52 (by decide) (by kernel_rfl)
theorem bld_26_  : ∀ w, (Instr.build 26 #[]).run Tryd.prog w = .ok (.agg #[.slice none 0 0, .slice none 0 0]) w := by
  intro w
  simp [Instr.build, Instr.fill, Tryd.zeroValue26, Tryd.runUnderlying26, Tryd.sizeOf23, Tryd.sizeOf24, cells_agg]
theorem bld_26_0 (a0 : Value) (ha0 : a0.oneCell' = true) : ∀ w, (Instr.build 26 #[(0, a0)]).run Tryd.prog w = .ok (.agg #[a0, .slice none 0 0]) w := by
  intro w
  simp [Instr.build, Instr.fill, Tryd.zeroValue26, Tryd.runUnderlying26, Tryd.sizeOf23, Tryd.sizeOf24, cells_one ha0, cells_agg]
theorem bld_54_0 (a0 : Value) (ha0 : a0.oneCell' = true) : ∀ w, (Instr.build 54 #[(0, a0)]).run Tryd.prog w = .ok (.agg #[a0, .slice none 0 0, .slice none 0 0, .int .i64 0, .slice none 0 0]) w := by
  intro w
  simp [Instr.build, Instr.fill, Tryd.zeroValue54, Tryd.runUnderlying54, Tryd.sizeOf3, Tryd.sizeOf23, Tryd.sizeOf52, cells_one ha0, cells_agg]
theorem bld_54_0_1_2_3 (a0 a1 a2 a3 : Value) (ha0 : a0.oneCell' = true) (ha1 : a1.oneCell' = true) (ha2 : a2.oneCell' = true) (ha3 : a3.oneCell' = true) : ∀ w, (Instr.build 54 #[(0, a0), (1, a1), (2, a2), (3, a3)]).run Tryd.prog w = .ok (.agg #[a0, a1, a2, a3, .slice none 0 0]) w := by
  intro w
  simp [Instr.build, Instr.fill, Tryd.zeroValue54, Tryd.runUnderlying54, Tryd.sizeOf3, Tryd.sizeOf23, Tryd.sizeOf52, cells_one ha0, cells_one ha1, cells_one ha2, cells_one ha3, cells_agg]
theorem bld_88_0 (a0 : Value) (ha0 : a0.oneCell' = true) : ∀ w, (Instr.build 88 #[(0, a0)]).run Tryd.prog w = .ok (.agg #[a0, .int .i64 0]) w := by
  intro w
  simp [Instr.build, Instr.fill, Tryd.zeroValue88, Tryd.runUnderlying88, Tryd.sizeOf3, Tryd.sizeOf22, cells_one ha0, cells_agg]
theorem bs_104_5_0_0_0_0_0 (a0 a1 a2 a3 a4 : Value) (ha0 : a0.oneCell' = true) (ha1 : a1.oneCell' = true) (ha2 : a2.oneCell' = true) (ha3 : a3.oneCell' = true) (ha4 : a4.oneCell' = true) : ∀ w, (Instr.buildSlice 104 5 #[(0, a0), (1, a1), (2, a2), (3, a3), (4, a4)]).run Tryd.prog w = .ok (.slice (some ⟨w.heap.size, 0, none⟩) 5 5) (w.alloc (.cells #[a0, a1, a2, a3, a4] 9)) := by
  intro w
  simp [Instr.buildSlice, Instr.fill, newRow, Tryd.zeroValue9, Tryd.runUnderlying104, Tryd.sizeOf9, cells_one ha0, cells_one ha1, cells_one ha2, cells_one ha3, cells_one ha4, cells_agg, cells_int, cells_bool, cells_str, cells_sl, Array.range_succ, range0]
theorem bs_23_0  : ∀ w, (Instr.buildSlice 23 0 #[]).run Tryd.prog w = .ok (.slice (some ⟨w.heap.size, 0, none⟩) 0 0) (w.alloc (.cells #[] 3)) := by
  intro w
  simp [Instr.buildSlice, Instr.fill, newRow, Tryd.runUnderlying23, Tryd.sizeOf3, cells_agg, cells_int, cells_bool, cells_str, cells_sl, Array.range_succ, range0]
theorem bs_23_1_0 (a0 : Value) (ha0 : a0.oneCell' = true) : ∀ w, (Instr.buildSlice 23 1 #[(0, a0)]).run Tryd.prog w = .ok (.slice (some ⟨w.heap.size, 0, none⟩) 1 1) (w.alloc (.cells #[a0] 3)) := by
  intro w
  simp [Instr.buildSlice, Instr.fill, newRow, Tryd.zeroValue3, Tryd.runUnderlying23, Tryd.sizeOf3, cells_one ha0, cells_agg, cells_int, cells_bool, cells_str, cells_sl, Array.range_succ, range0]
theorem bs_23_3_0_0_0 (a0 a1 a2 : Value) (ha0 : a0.oneCell' = true) (ha1 : a1.oneCell' = true) (ha2 : a2.oneCell' = true) : ∀ w, (Instr.buildSlice 23 3 #[(0, a0), (1, a1), (2, a2)]).run Tryd.prog w = .ok (.slice (some ⟨w.heap.size, 0, none⟩) 3 3) (w.alloc (.cells #[a0, a1, a2] 3)) := by
  intro w
  simp [Instr.buildSlice, Instr.fill, newRow, Tryd.zeroValue3, Tryd.runUnderlying23, Tryd.sizeOf3, cells_one ha0, cells_one ha1, cells_one ha2, cells_agg, cells_int, cells_bool, cells_str, cells_sl, Array.range_succ, range0]
theorem bs_23_4_0_0_0_0 (a0 a1 a2 a3 : Value) (ha0 : a0.oneCell' = true) (ha1 : a1.oneCell' = true) (ha2 : a2.oneCell' = true) (ha3 : a3.oneCell' = true) : ∀ w, (Instr.buildSlice 23 4 #[(0, a0), (1, a1), (2, a2), (3, a3)]).run Tryd.prog w = .ok (.slice (some ⟨w.heap.size, 0, none⟩) 4 4) (w.alloc (.cells #[a0, a1, a2, a3] 3)) := by
  intro w
  simp [Instr.buildSlice, Instr.fill, newRow, Tryd.zeroValue3, Tryd.runUnderlying23, Tryd.sizeOf3, cells_one ha0, cells_one ha1, cells_one ha2, cells_one ha3, cells_agg, cells_int, cells_bool, cells_str, cells_sl, Array.range_succ, range0]
theorem bs_23_5_0_0_0_0_0 (a0 a1 a2 a3 a4 : Value) (ha0 : a0.oneCell' = true) (ha1 : a1.oneCell' = true) (ha2 : a2.oneCell' = true) (ha3 : a3.oneCell' = true) (ha4 : a4.oneCell' = true) : ∀ w, (Instr.buildSlice 23 5 #[(0, a0), (1, a1), (2, a2), (3, a3), (4, a4)]).run Tryd.prog w = .ok (.slice (some ⟨w.heap.size, 0, none⟩) 5 5) (w.alloc (.cells #[a0, a1, a2, a3, a4] 3)) := by
  intro w
  simp [Instr.buildSlice, Instr.fill, newRow, Tryd.zeroValue3, Tryd.runUnderlying23, Tryd.sizeOf3, cells_one ha0, cells_one ha1, cells_one ha2, cells_one ha3, cells_one ha4, cells_agg, cells_int, cells_bool, cells_str, cells_sl, Array.range_succ, range0]
theorem bs_23_6_0_0_0_0_0_0 (a0 a1 a2 a3 a4 a5 : Value) (ha0 : a0.oneCell' = true) (ha1 : a1.oneCell' = true) (ha2 : a2.oneCell' = true) (ha3 : a3.oneCell' = true) (ha4 : a4.oneCell' = true) (ha5 : a5.oneCell' = true) : ∀ w, (Instr.buildSlice 23 6 #[(0, a0), (1, a1), (2, a2), (3, a3), (4, a4), (5, a5)]).run Tryd.prog w = .ok (.slice (some ⟨w.heap.size, 0, none⟩) 6 6) (w.alloc (.cells #[a0, a1, a2, a3, a4, a5] 3)) := by
  intro w
  simp [Instr.buildSlice, Instr.fill, newRow, Tryd.zeroValue3, Tryd.runUnderlying23, Tryd.sizeOf3, cells_one ha0, cells_one ha1, cells_one ha2, cells_one ha3, cells_one ha4, cells_one ha5, cells_agg, cells_int, cells_bool, cells_str, cells_sl, Array.range_succ, range0]
theorem bs_23_7_0_0_0_0_0_0_0 (a0 a1 a2 a3 a4 a5 a6 : Value) (ha0 : a0.oneCell' = true) (ha1 : a1.oneCell' = true) (ha2 : a2.oneCell' = true) (ha3 : a3.oneCell' = true) (ha4 : a4.oneCell' = true) (ha5 : a5.oneCell' = true) (ha6 : a6.oneCell' = true) : ∀ w, (Instr.buildSlice 23 7 #[(0, a0), (1, a1), (2, a2), (3, a3), (4, a4), (5, a5), (6, a6)]).run Tryd.prog w = .ok (.slice (some ⟨w.heap.size, 0, none⟩) 7 7) (w.alloc (.cells #[a0, a1, a2, a3, a4, a5, a6] 3)) := by
  intro w
  simp [Instr.buildSlice, Instr.fill, newRow, Tryd.zeroValue3, Tryd.runUnderlying23, Tryd.sizeOf3, cells_one ha0, cells_one ha1, cells_one ha2, cells_one ha3, cells_one ha4, cells_one ha5, cells_one ha6, cells_agg, cells_int, cells_bool, cells_str, cells_sl, Array.range_succ, range0]
theorem bs_24_1_5 (a0 a1 a2 a3 a4 : Value)  : ∀ w, (Instr.buildSlice 24 1 #[(0, .agg #[a0, a1, a2, a3, a4])]).run Tryd.prog w = .ok (.slice (some ⟨w.heap.size, 0, none⟩) 1 1) (w.alloc (.cells #[a0, a1, a2, a3, a4] 54)) := by
  intro w
  simp [Instr.buildSlice, Instr.fill, newRow, Tryd.zeroValue54, Tryd.runUnderlying24, Tryd.sizeOf54, cells_agg, cells_int, cells_bool, cells_str, cells_sl, Array.range_succ, range0]
theorem bs_52_1_0 (a0 : Value) (ha0 : a0.oneCell' = true) : ∀ w, (Instr.buildSlice 52 1 #[(0, a0)]).run Tryd.prog w = .ok (.slice (some ⟨w.heap.size, 0, none⟩) 1 1) (w.alloc (.cells #[a0] 23)) := by
  intro w
  simp [Instr.buildSlice, Instr.fill, newRow, Tryd.zeroValue23, Tryd.runUnderlying52, Tryd.sizeOf23, cells_one ha0, cells_agg, cells_int, cells_bool, cells_str, cells_sl, Array.range_succ, range0]
theorem s_l17Open_c {code : List UInt8} {v0 : Value} {H : FH} {w : World} {R : List Ass} (Z : Star H w R) (h0 : (rS 5 RP.u8).rel H [v0] code) {r : Rd} (hF : s_l17Open code = some r) :
 C Tryd.prog 19 #[v0] w fun v w'=>∃ H' : FH,Le H H'∧∃ (u1 : Nat) (u2 : Value),v = Pt u1∧(rS 5 RP.u8).rel H' [u2] r.b∧Star H' w' (box u1 88 #[u2,I r.p] :: R):=by
 unfold s_l17Open at hF
 refine C_enter Tryd.func19 rfl Tryd.ntmps19 rfl (sq (aV (.pointer none) rfl (nq (sq (mV v0 rfl (L_len rfl Tryd.underlying22 rfl (slice_len h0) (L_gtr rfl rfl rfl (nn ?_))))))))
 obtain ⟨code_1,hA3,hF⟩:=bind_some hF
 obtain ⟨R3,hR3⟩:=exR fun f w_=>∃ v1_code : Value,f 0 = v1_code∧(rS 5 RP.u8).rel H [v1_code] code_1∧Star H w_ (R)
 refine W_join R3 ?_ ?_
 refine W_cond (b:=decide ((code.length : Int) > 2000)) rfl (fun hc4=>?_) (fun hc4=>?_)
 have hA3:=(ite_t hc4).symm.trans hA3
 obtain ⟨x5,hx5,hA3⟩:=bind_some hA3
 refine W_region (mV v0 rfl (L_sl (a:=0) (b:=2000) rfl et_22 rfl h0 rfl rfl hx5 (fun v8 hs9=>aV v8 rfl (nn ?_))))
 obtain rfl:=so hA3
 exact rj hR3 ⟨v8,rfl,hs9,Z⟩
 have hA3:=(ite_f hc4).symm.trans hA3
 refine W_skip ?_
 obtain rfl:=so hA3
 exact rj hR3 ⟨v0,rfl,h0,Z⟩
 intro f w_ hR
 obtain ⟨v1_code,sf0,hv2_code,Z⟩:=rk hR3 hR
 refine sq (mF sf0 rfl (L_bld rfl (parts1 rfl) (bld_88_0 (v1_code) (one_len (slice_len hv2_code))) (L_box (v:=.agg #[v1_code,I 0]) (cs:=#[v1_code,I 0]) rfl rfl rfl Z (fun g12 w13 Z=>aV (Pt g12) rfl (nn (W_ret (retG1 (v1:=Pt g12) Tryd.results19 rfl ?_)))))))
 obtain rfl:=so hF
 exact ⟨H,(Le.refl _),g12,v1_code,rfl,hv2_code,Z⟩
theorem s_l17Rd_pick_c {r_ : Rd} {n_ : Int} {g_0 : Nat} {v0_0 : Value} {H : FH} {w : World} (Z : Star H w [box g_0 88 #[v0_0,I r_.p]]) (h0_0 : (rS 5 RP.u8).rel H [v0_0] r_.b) {r : Int × Int} (hF : s_l17Rd_pick r_ n_ = some r) :
 C Tryd.prog 21 #[Pt g_0,I n_] w fun v w'=>v = I r.1∧Star H w' [box g_0 88 #[v0_0,I r.2]]:=by
 unfold s_l17Rd_pick at hF
 refine C_enter Tryd.func21 rfl Tryd.ntmps21 rfl (sq (aI rfl (ns (mV (Pt g_0) rfl (mV (Pt g_0) rfl (L_nc rfl rfl (fA 1 fa_88_1 rfl rfl (ldB 0 Z Tryd.isAgg3 rfl rfl rfl (L_add rfl rfl rfl (L_nc rfl rfl (fA 1 fa_88_1 rfl rfl (L_stB (v:=I (i64 (r_.p + 1))) (cs2:=#[v0_0,I (i64 (r_.p + 1))]) 0 rfl Tryd.sizeOf3 rfl rfl rfl Z rfl rfl rfl (fun w2 Z=>nq (W_seq ?_))))))))))))))
 obtain ⟨R3,hR3⟩:=exR fun f w_=>f 0 = Pt g_0∧f 1 = I n_∧f 24 = Bo ((decide (n_ < 1)) || ((r_.b.length : Int) == 0))∧Star H w_ ([box g_0 88 #[v0_0,I (i64 (r_.p + 1))]])
 refine W_join R3 ?_ ?_
 refine W_region (mI rfl (L_lss rfl rfl rfl (mB rfl (L_split (d:=17) (b:=decide (n_ < 1)) rfl (fun hc4=>?_) (fun hc4=>?_)))))
 refine ps rfl (ps rfl (ps rfl (ps rfl (ps rfl (ps rfl (L_pick (v:=Bo ((decide (n_ < 1)) || ((r_.b.length : Int) == 0))) rfl rfl (or_t hc4) (nn (rj hR3 ⟨rfl,rfl,rfl,Z⟩))))))))
 refine mV (Pt g_0) rfl (L_nc rfl rfl (fA 0 fa_88_0 rfl rfl (ldB 0 Z Tryd.isAgg22 rfl rfl rfl (L_len rfl Tryd.underlying22 rfl (slice_len h0_0) (L_eql rfl rfl rfl (L_pick (v:=Bo ((decide (n_ < 1)) || ((r_.b.length : Int) == 0))) rfl rfl (or_f hc4 rfl) (nn (rj hR3 ⟨rfl,rfl,rfl,Z⟩))))))))
 intro f w_ hR
 obtain ⟨sf0,sf1,sf24,Z⟩:=rk hR3 hR
 refine W_cond (b:=((decide (n_ < 1)) || ((r_.b.length : Int) == 0))) sf24 (fun hc5=>?_) (fun hc5=>?_)
 have hF:=(ite_t hc5).symm.trans hF
 refine sq (aI rfl (nn (W_ret (retG1 (v1:=I 0) Tryd.results21 rfl ?_))))
 obtain rfl:=so hF
 exact ⟨rfl,Z⟩
 have hF:=(ite_f hc5).symm.trans hF
 refine W_skip (sq (mF sf0 rfl (L_nc rfl rfl (fA 1 fa_88_1 rfl rfl (ldB 0 Z Tryd.isAgg3 rfl rfl rfl (L_sub rfl rfl rfl (aI rfl (nq (sq (mI rfl (mF sf0 rfl (L_nc rfl rfl (fA 0 fa_88_0 rfl rfl (ldB 0 Z Tryd.isAgg22 rfl rfl rfl (L_len rfl Tryd.underlying22 rfl (slice_len h0_0) (L_lss rfl rfl rfl (nn (W_cond (b:=decide ((i64 ((i64 (r_.p + 1)) - 1)) < (r_.b.length : Int))) rfl (fun hc6=>?_) (fun hc6=>?_)))))))))))))))))))
 have hF:=(ite_t hc6).symm.trans hF
 refine W_seq ?_
 obtain ⟨x7,hx7,hF⟩:=bind_some hF
 obtain ⟨q12,hq12,hF⟩:=bind_some hF
 refine W_region (mF sf0 rfl (L_nc rfl rfl (fA 0 fa_88_0 rfl rfl (ldB 0 Z Tryd.isAgg22 rfl rfl rfl (mI rfl (L_ix (r:=RP.u8) rfl Tryd.underlying22 Tryd.sizeOf5 rfl h0_0 rfl hx7 (fun g13 o14 cs_g13 hrk_hat15 hat15=>?_)))))))
 obtain rfl : _ = [_]:=hrk_hat15
 refine L_ld rfl Tryd.isAgg5 rfl (At.cell (AtH.at hat15 Z.sub) (j:=0) rfl) (L_cv (n:=(x7.toNat : Int)) rfl rfl ⟨_,Tryd.underlying5⟩ Tryd.underlying3 (mF sf1 rfl (L_rem (m:=i64 (x7.toNat : Int)) (n:=n_) rfl rfl rfl (fun he=>by rw [if_pos he] at hq12; cases hq12) (aI rfl (nn (W_ret (retG1 (v1:=I (Int.tmod (i64 (x7.toNat : Int)) n_)) Tryd.results21 rfl ?_)))))))
 obtain rfl:=so hF
 exact ⟨rfl,Z⟩
 have hF:=(ite_f hc6).symm.trans hF
 refine W_skip (W_seq ?_)
 obtain ⟨q17,hq17,hF⟩:=bind_some hF
 obtain ⟨x18,hx18,hF⟩:=bind_some hF
 obtain ⟨q23,hq23,hF⟩:=bind_some hF
 obtain ⟨x24,hx24,hF⟩:=bind_some hF
 obtain ⟨q29,hq29,hF⟩:=bind_some hF
 refine W_drawS 44 [isV (Pt g_0),isV (Pt g_0),isV (Pt g_0),isV (v0_0),isV (I (i64 ((i64 (r_.p + 1)) - 1))),isV (Pt g_0),isV (Pt g_0),isV (Pt g_0),isV (v0_0),isV (I (r_.b.length : Int)),isV (I (Int.tmod (i64 ((i64 (r_.p + 1)) - 1)) (r_.b.length : Int))),isEl RP.u8 x18 0,isV (.int .u8 (x18.toNat : Int)),isV (I (i64 (x18.toNat : Int))),isV (I (i64 ((i64 (x18.toNat : Int)) * 131))),isV (Pt g_0),isV (Pt g_0),isV (Pt g_0),isV (v0_0),isV (I (i64 ((i64 (r_.p + 1)) - 1))),isV (I (i64 ((i64 ((i64 (r_.p + 1)) - 1)) * 7))),isV (I (i64 ((i64 ((i64 ((i64 (r_.p + 1)) - 1)) * 7)) + 3))),isV (Pt g_0),isV (Pt g_0),isV (Pt g_0),isV (v0_0),isV (I (r_.b.length : Int)),isV (I (Int.tmod (i64 ((i64 ((i64 ((i64 (r_.p + 1)) - 1)) * 7)) + 3)) (r_.b.length : Int))),isEl RP.u8 x24 0,isV (.int .u8 (x24.toNat : Int)),isV (I (i64 (x24.toNat : Int))),isV (I (i64 ((i64 (x24.toNat : Int)) * 1117))),isV (I (i64 ((i64 ((i64 (x18.toNat : Int)) * 131)) + (i64 ((i64 (x24.toNat : Int)) * 1117))))),isV (I (i64 ((i64 (r_.p + 1)) - 1))),isV (I (i64 ((i64 ((i64 (r_.p + 1)) - 1)) * 29))),isV (I (i64 ((i64 ((i64 ((i64 (x18.toNat : Int)) * 131)) + (i64 ((i64 (x24.toNat : Int)) * 1117)))) + (i64 ((i64 ((i64 (r_.p + 1)) - 1)) * 29))))),isV (I (i64 ((i64 (r_.p + 1)) - 1))),isV (Pt g_0),isV (Pt g_0),isV (Pt g_0),isV (v0_0),isV (I (r_.b.length : Int)),isV (I (i64 (Int.tdiv (i64 ((i64 (r_.p + 1)) - 1)) (r_.b.length : Int)))),isV (I (i64 ((i64 (Int.tdiv (i64 ((i64 (r_.p + 1)) - 1)) (r_.b.length : Int))) * 53)))] [box g_0 88 #[v0_0,I (i64 (r_.p + 1))]] [] ([]) [([],[]),([],[]),([],[]),([],[]),([],[]),([],[]),([],[]),([],[]),([],[]),([],[]),([],[]),([],[]),([],[]),([],[]),([],[]),([],[]),([],[]),([],[]),([],[]),([],[]),([],[]),([],[]),([],[]),([],[]),([],[]),([],[]),([],[]),([],[]),([],[]),([],[]),([],[]),([],[]),([],[]),([],[]),([],[]),([],[]),([],[]),([],[]),([],[]),([],[]),([],[]),([],[]),([],[]),([],[])] (S:=[]) Tryd_mix (by kernel_rfl) rfl (by kernel_rfl) (amF_cons (mono_V _) (amF_cons (mono_V _) (amF_cons (mono_V _) (amF_cons (mono_V _) (amF_cons (mono_V _) (amF_cons (mono_V _) (amF_cons (mono_V _) (amF_cons (mono_V _) (amF_cons (mono_V _) (amF_cons (mono_V _) (amF_cons (mono_V _) (amF_cons (mono_el _ _ _) (amF_cons (mono_V _) (amF_cons (mono_V _) (amF_cons (mono_V _) (amF_cons (mono_V _) (amF_cons (mono_V _) (amF_cons (mono_V _) (amF_cons (mono_V _) (amF_cons (mono_V _) (amF_cons (mono_V _) (amF_cons (mono_V _) (amF_cons (mono_V _) (amF_cons (mono_V _) (amF_cons (mono_V _) (amF_cons (mono_V _) (amF_cons (mono_V _) (amF_cons (mono_V _) (amF_cons (mono_el _ _ _) (amF_cons (mono_V _) (amF_cons (mono_V _) (amF_cons (mono_V _) (amF_cons (mono_V _) (amF_cons (mono_V _) (amF_cons (mono_V _) (amF_cons (mono_V _) (amF_cons (mono_V _) (amF_cons (mono_V _) (amF_cons (mono_V _) (amF_cons (mono_V _) (amF_cons (mono_V _) (amF_cons (mono_V _) (amF_cons (mono_V _) (amF_cons (mono_V _) amF_nil)))))))))))))))))))))))))))))))))))))))))))) Z ?_ (fun f w_ H30 hS30 hE30 hT30 Z=>?_)
 refine opsS_cons (fun f w_ _ _ s _ _ Z=>mF ((s 0 rfl).trans sf0) rfl (nO rfl rfl Z)) (opsS_cons (fun f w_ _ _ _ _ p Z=>L_nc rfl (p 0 47 rfl rfl) (nO rfl rfl Z)) (opsS_cons (fun f w_ _ _ _ _ p Z=>fA 0 fa_88_0 (p 1 48 rfl rfl) rfl (nO rfl rfl Z)) (opsS_cons (fun f w_ _ _ _ _ p Z=>ldB 0 Z Tryd.isAgg22 (p 2 49 rfl rfl) rfl rfl (nO rfl rfl Z)) (opsS_cons (fun f w_ _ _ s _ _ Z=>mF ((s 5 rfl).trans rfl) rfl (nO rfl rfl Z)) (opsS_cons (fun f w_ _ _ s _ _ Z=>mF ((s 0 rfl).trans sf0) rfl (nO rfl rfl Z)) (opsS_cons (fun f w_ _ _ _ _ p Z=>L_nc rfl (p 5 52 rfl rfl) (nO rfl rfl Z)) (opsS_cons (fun f w_ _ _ _ _ p Z=>fA 0 fa_88_0 (p 6 53 rfl rfl) rfl (nO rfl rfl Z)) (opsS_cons (fun f w_ _ _ _ _ p Z=>ldB 0 Z Tryd.isAgg22 (p 7 54 rfl rfl) rfl rfl (nO rfl rfl Z)) (opsS_cons (fun f w_ _ _ _ hE30 p Z=>L_len rfl Tryd.underlying22 (p 8 55 rfl rfl) (slice_len (RP.mono _ h0_0 hE30)) (nO rfl rfl Z)) (opsS_cons (fun f w_ _ _ _ _ p Z=>L_rem (m:=i64 ((i64 (r_.p + 1)) - 1)) (n:=(r_.b.length : Int)) rfl (p 4 51 rfl rfl) (p 9 56 rfl rfl) (fun he=>by rw [if_pos he] at hq17; cases hq17) (nO rfl rfl Z)) (opsS_cons ?_ ?_)))))))))))
 intro f w_ H30 X30 hS30 hE30 hP30 Z
 refine L_ix (r:=RP.u8) rfl Tryd.underlying22 Tryd.sizeOf5 (hP30 3 50 rfl rfl) (RP.mono _ h0_0 hE30) (hP30 10 57 rfl rfl) hx18 (fun g39 o40 cs_g39 hrk_hat41 hat41=>?_)
 obtain rfl : _ = [_]:=hrk_hat41
 exact L_nil ⟨rfl,_,_,rfl,Le.refl _,fun _ _=>⟨_,_,_,rfl,rfl,hat41⟩,Z⟩
 refine opsS_cons ?_ ?_
 intro f w_ H30 X30 hS30 hE30 hP30 Z
 obtain ⟨g43,o43,cs43,hv43,hrk_hat43,hat43⟩:=(hP30 11 58 rfl rfl)
 obtain rfl : _ = [_]:=hrk_hat43
 refine L_ld rfl Tryd.isAgg5 hv43 (At.cell (AtH.at hat43 Z.sub) (j:=0) rfl) (L_nil ⟨rfl,_,_,rfl,Le.refl _,fun _ _=>rfl,Z⟩)
 refine opsS_cons (fun f w_ _ _ _ _ p Z=>L_cv (n:=(x18.toNat : Int)) rfl (p 12 59 rfl rfl) ⟨_,Tryd.underlying5⟩ Tryd.underlying3 (nO rfl rfl Z)) (opsS_cons (fun f w_ _ _ _ _ p Z=>L_mul rfl (p 13 60 rfl rfl) rfl (nO rfl rfl Z)) (opsS_cons (fun f w_ _ _ s _ _ Z=>mF ((s 0 rfl).trans sf0) rfl (nO rfl rfl Z)) (opsS_cons (fun f w_ _ _ _ _ p Z=>L_nc rfl (p 15 62 rfl rfl) (nO rfl rfl Z)) (opsS_cons (fun f w_ _ _ _ _ p Z=>fA 0 fa_88_0 (p 16 63 rfl rfl) rfl (nO rfl rfl Z)) (opsS_cons (fun f w_ _ _ _ _ p Z=>ldB 0 Z Tryd.isAgg22 (p 17 64 rfl rfl) rfl rfl (nO rfl rfl Z)) (opsS_cons (fun f w_ _ _ s _ _ Z=>mF ((s 5 rfl).trans rfl) rfl (nO rfl rfl Z)) (opsS_cons (fun f w_ _ _ _ _ p Z=>L_mul rfl (p 19 66 rfl rfl) rfl (nO rfl rfl Z)) (opsS_cons (fun f w_ _ _ _ _ p Z=>L_add rfl (p 20 67 rfl rfl) rfl (nO rfl rfl Z)) (opsS_cons (fun f w_ _ _ s _ _ Z=>mF ((s 0 rfl).trans sf0) rfl (nO rfl rfl Z)) (opsS_cons (fun f w_ _ _ _ _ p Z=>L_nc rfl (p 22 69 rfl rfl) (nO rfl rfl Z)) (opsS_cons (fun f w_ _ _ _ _ p Z=>fA 0 fa_88_0 (p 23 70 rfl rfl) rfl (nO rfl rfl Z)) (opsS_cons (fun f w_ _ _ _ _ p Z=>ldB 0 Z Tryd.isAgg22 (p 24 71 rfl rfl) rfl rfl (nO rfl rfl Z)) (opsS_cons (fun f w_ _ _ _ hE30 p Z=>L_len rfl Tryd.underlying22 (p 25 72 rfl rfl) (slice_len (RP.mono _ h0_0 hE30)) (nO rfl rfl Z)) (opsS_cons (fun f w_ _ _ _ _ p Z=>L_rem (m:=i64 ((i64 ((i64 ((i64 (r_.p + 1)) - 1)) * 7)) + 3)) (n:=(r_.b.length : Int)) rfl (p 21 68 rfl rfl) (p 26 73 rfl rfl) (fun he=>by rw [if_pos he] at hq23; cases hq23) (nO rfl rfl Z)) (opsS_cons ?_ ?_)))))))))))))))
 intro f w_ H30 X30 hS30 hE30 hP30 Z
 refine L_ix (r:=RP.u8) rfl Tryd.underlying22 Tryd.sizeOf5 (hP30 18 65 rfl rfl) (RP.mono _ h0_0 hE30) (hP30 27 74 rfl rfl) hx24 (fun g45 o46 cs_g45 hrk_hat47 hat47=>?_)
 obtain rfl : _ = [_]:=hrk_hat47
 exact L_nil ⟨rfl,_,_,rfl,Le.refl _,fun _ _=>⟨_,_,_,rfl,rfl,hat47⟩,Z⟩
 refine opsS_cons ?_ ?_
 intro f w_ H30 X30 hS30 hE30 hP30 Z
 obtain ⟨g49,o49,cs49,hv49,hrk_hat49,hat49⟩:=(hP30 28 75 rfl rfl)
 obtain rfl : _ = [_]:=hrk_hat49
 refine L_ld rfl Tryd.isAgg5 hv49 (At.cell (AtH.at hat49 Z.sub) (j:=0) rfl) (L_nil ⟨rfl,_,_,rfl,Le.refl _,fun _ _=>rfl,Z⟩)
 refine opsS_cons (fun f w_ _ _ _ _ p Z=>L_cv (n:=(x24.toNat : Int)) rfl (p 29 76 rfl rfl) ⟨_,Tryd.underlying5⟩ Tryd.underlying3 (nO rfl rfl Z)) (opsS_cons (fun f w_ _ _ _ _ p Z=>L_mul rfl (p 30 77 rfl rfl) rfl (nO rfl rfl Z)) (opsS_cons (fun f w_ _ _ _ _ p Z=>L_add rfl (p 14 61 rfl rfl) (p 31 78 rfl rfl) (nO rfl rfl Z)) (opsS_cons (fun f w_ _ _ s _ _ Z=>mF ((s 5 rfl).trans rfl) rfl (nO rfl rfl Z)) (opsS_cons (fun f w_ _ _ _ _ p Z=>L_mul rfl (p 33 80 rfl rfl) rfl (nO rfl rfl Z)) (opsS_cons (fun f w_ _ _ _ _ p Z=>L_add rfl (p 32 79 rfl rfl) (p 34 81 rfl rfl) (nO rfl rfl Z)) (opsS_cons (fun f w_ _ _ s _ _ Z=>mF ((s 5 rfl).trans rfl) rfl (nO rfl rfl Z)) (opsS_cons (fun f w_ _ _ s _ _ Z=>mF ((s 0 rfl).trans sf0) rfl (nO rfl rfl Z)) (opsS_cons (fun f w_ _ _ _ _ p Z=>L_nc rfl (p 37 84 rfl rfl) (nO rfl rfl Z)) (opsS_cons (fun f w_ _ _ _ _ p Z=>fA 0 fa_88_0 (p 38 85 rfl rfl) rfl (nO rfl rfl Z)) (opsS_cons (fun f w_ _ _ _ _ p Z=>ldB 0 Z Tryd.isAgg22 (p 39 86 rfl rfl) rfl rfl (nO rfl rfl Z)) (opsS_cons (fun f w_ _ _ _ hE30 p Z=>L_len rfl Tryd.underlying22 (p 40 87 rfl rfl) (slice_len (RP.mono _ h0_0 hE30)) (nO rfl rfl Z)) (opsS_cons (fun f w_ _ _ _ _ p Z=>L_quo (m:=i64 ((i64 (r_.p + 1)) - 1)) (n:=(r_.b.length : Int)) rfl (p 36 83 rfl rfl) (p 41 88 rfl rfl) (fun he=>by rw [if_pos he] at hq29; cases hq29) (nO rfl rfl Z)) (opsS_cons (fun f w_ _ _ _ _ p Z=>L_mul rfl (p 42 89 rfl rfl) rfl (nO rfl rfl Z)) (opsS_nil))))))))))))))
 refine L_add rfl (hT30 35 82 rfl rfl) (hT30 43 90 rfl rfl) (aI rfl (ns (mI rfl (mI rfl (L_quo (m:=i64 ((i64 ((i64 ((i64 ((i64 (x18.toNat : Int)) * 131)) + (i64 ((i64 (x24.toNat : Int)) * 1117)))) + (i64 ((i64 ((i64 (r_.p + 1)) - 1)) * 29)))) + (i64 ((i64 (Int.tdiv (i64 ((i64 (r_.p + 1)) - 1)) (r_.b.length : Int))) * 53)))) (n:=64) rfl rfl rfl (by decide) (L_xor (m:=i64 ((i64 ((i64 ((i64 ((i64 (x18.toNat : Int)) * 131)) + (i64 ((i64 (x24.toNat : Int)) * 1117)))) + (i64 ((i64 ((i64 (r_.p + 1)) - 1)) * 29)))) + (i64 ((i64 (Int.tdiv (i64 ((i64 (r_.p + 1)) - 1)) (r_.b.length : Int))) * 53)))) (n:=i64 (Int.tdiv (i64 ((i64 ((i64 ((i64 ((i64 (x18.toNat : Int)) * 131)) + (i64 ((i64 (x24.toNat : Int)) * 1117)))) + (i64 ((i64 ((i64 (r_.p + 1)) - 1)) * 29)))) + (i64 ((i64 (Int.tdiv (i64 ((i64 (r_.p + 1)) - 1)) (r_.b.length : Int))) * 53)))) 64)) rfl rfl rfl (aI rfl (nq ?_))))))))
 obtain ⟨q51,hq51,hF⟩:=bind_some hF
 refine W_region (mI rfl (mF ((hS30 1 rfl).trans sf1) rfl (L_rem (m:=(xorI .i64 (i64 ((i64 ((i64 ((i64 ((i64 (x18.toNat : Int)) * 131)) + (i64 ((i64 (x24.toNat : Int)) * 1117)))) + (i64 ((i64 ((i64 (r_.p + 1)) - 1)) * 29)))) + (i64 ((i64 (Int.tdiv (i64 ((i64 (r_.p + 1)) - 1)) (r_.b.length : Int))) * 53)))) (i64 (Int.tdiv (i64 ((i64 ((i64 ((i64 ((i64 (x18.toNat : Int)) * 131)) + (i64 ((i64 (x24.toNat : Int)) * 1117)))) + (i64 ((i64 ((i64 (r_.p + 1)) - 1)) * 29)))) + (i64 ((i64 (Int.tdiv (i64 ((i64 (r_.p + 1)) - 1)) (r_.b.length : Int))) * 53)))) 64)))) (n:=n_) rfl rfl rfl (fun he=>by rw [if_pos he] at hq51; cases hq51) (aI rfl (nn (W_ret (retG1 (v1:=I (Int.tmod (xorI .i64 (i64 ((i64 ((i64 ((i64 ((i64 (x18.toNat : Int)) * 131)) + (i64 ((i64 (x24.toNat : Int)) * 1117)))) + (i64 ((i64 ((i64 (r_.p + 1)) - 1)) * 29)))) + (i64 ((i64 (Int.tdiv (i64 ((i64 (r_.p + 1)) - 1)) (r_.b.length : Int))) * 53)))) (i64 (Int.tdiv (i64 ((i64 ((i64 ((i64 ((i64 (x18.toNat : Int)) * 131)) + (i64 ((i64 (x24.toNat : Int)) * 1117)))) + (i64 ((i64 ((i64 (r_.p + 1)) - 1)) * 29)))) + (i64 ((i64 (Int.tdiv (i64 ((i64 (r_.p + 1)) - 1)) (r_.b.length : Int))) * 53)))) 64))) n_)) Tryd.results21 rfl ?_)))))))
 obtain rfl:=so hF
 exact ⟨rfl,(Star.down Z hE30 (cb c0))⟩
theorem s_l17Rd_num_c {r_ : Rd} {list : List Int} {g_0 : Nat} {v0_0 : Value} {v1 : Value} {H : FH} {w : World} (Z : Star H w [box g_0 88 #[v0_0,I r_.p]]) (h0_0 : (rS 5 RP.u8).rel H [v0_0] r_.b) (h1 : (rS 3 RP.int).rel H [v1] list) {r : Int × Int} (hF : s_l17Rd_num r_ list = some r) :
 C Tryd.prog 47 #[Pt g_0,v1] w fun v w'=>v = I r.1∧Star H w' [box g_0 88 #[v0_0,I r.2]]:=by
 unfold s_l17Rd_num at hF
 refine C_enter Tryd.func47 rfl Tryd.ntmps47 rfl (sq (aI rfl (nq ?_)))
 obtain ⟨x6,hx6,hF⟩:=bind_some hF
 obtain ⟨x8,hx8,hF⟩:=bind_some hF
 refine W_region (mV v1 rfl (mV (Pt g_0) rfl (mV v1 rfl (L_len rfl Tryd.underlying23 rfl (slice_len h1) ?_))))
 obtain ⟨H13b,l14,s15,z16,k17⟩:=Z.lend [_]
 refine L_call rfl Tryd.call21 (ops2 rfl rfl) (s_l17Rd_pick_c (r_:=r_) (n_:=(list.length : Int)) s15 (RP.mono _ h0_0 l14) hx6) ?_
 rintro _ w18 ⟨rfl,Z⟩
 have Z:=k17 Z (cb c0)
 refine L_ix (r:=RP.int) rfl Tryd.underlying23 Tryd.sizeOf3 rfl h1 rfl hx8 (fun g19 o20 cs_g19 hrk_hat21 hat21=>?_)
 obtain rfl : _ = [_]:=hrk_hat21
 refine L_ld rfl Tryd.isAgg3 rfl (At.cell (AtH.at hat21 Z.sub) (j:=0) rfl) (aI rfl (nn (W_ret (retG1 (v1:=I x8) Tryd.results47 rfl ?_))))
 obtain rfl:=so hF
 exact ⟨rfl,Z⟩
theorem s_l6Some_c {fu : Nat} {r_ : Rd} {m : Model} {least : Int} {g_0 : Nat} {v0_0 : Value} {v1_0 : Value} {v1_1 : Value} {H : FH} {w : World} (Z : Star H w [box g_0 88 #[v0_0,I r_.p]]) (h0_0 : (rS 5 RP.u8).rel H [v0_0] r_.b) (h1_0 : (rS 3 RP.int).rel H [v1_0] m.sizes) (h1_1 : (rS 54 (rRule 3 23)).rel H [v1_1] m.rules) {r : (List Int) × Int} (hF : s_l6Some fu r_ m least = some r) :
 C Tryd.prog 81 #[Pt g_0,.agg #[v1_0,v1_1],I least] w fun v w'=>∃ (u1 : Value),v = u1∧Star H w' [oF 3 RP.int u1 r.1,box g_0 88 #[v0_0,I r.2]]:=by
 unfold s_l6Some at hF
 refine C_enter Tryd.func81 rfl Tryd.ntmps81 rfl (sq (L_box (v:=.agg #[v1_0,v1_1]) (cs:=#[v1_0,v1_1]) rfl rfl rfl Z (fun g3 w4 Z=>aV S0 rfl (ns (L_bs rfl parts0 (bs_23_0  ) Z (fun g8 w9 Z=>?_))))))
 have Z:=Star.mkRow (R:=(OR.frz RP.int)) [] [] 0 Z rfl rfl rfl (by decide)
 refine aV (Sl g8 0 0) rfl (nq (sq (aI rfl (nn ?_))))
 have hlen15 : List.length m.sizes≤9223372036854775807:=len_le (slice_len h1_0)
 obtain ⟨j15,hL15,hF⟩:=bind_some hF
 obtain ⟨R15,hR15⟩:=exR fun f w_=>∃ out_12 : List Int,∃ g_0_1_14 : Int,∃ v12_out : Value,j15 = .nx (out_12,g_0_1_14)∧f 0 = Pt g_0∧f 2 = I least∧f 4 = Pt g3∧f 7 = v12_out∧Star H w_ ([oF 3 RP.int v12_out out_12,box g_0 88 #[v0_0,I g_0_1_14],box g3 26 #[v1_0,v1_1]])
 refine W_join R15 ?_ ?_
 refine W_block ?_
 obtain ⟨I15,hI15⟩:=exI fun n f w_=>∃ i_11 : Nat,∃ suf15 : List Int,∃ out_12 : List Int,∃ g_0_1_14 : Int,∃ v12_out : Value,n = suf15.length∧List.drop i_11 m.sizes = suf15∧i_11 + suf15.length = m.sizes.length∧rangeL (s_l6Some_b1 r_) suf15 i_11 (out_12,g_0_1_14) = some j15∧f 0 = Pt g_0∧f 2 = I least∧f 4 = Pt g3∧f 7 = v12_out∧f 8 = I i_11∧Star H w_ ([oF 3 RP.int v12_out out_12,box g_0 88 #[v0_0,I g_0_1_14],box g3 26 #[v1_0,v1_1]])
 have Z:=Z.gets [1,2,2] rfl
 refine W_loop I15 (n:=m.sizes.length) ?_ ?_
 exact ij hI15 ⟨0,m.sizes,[],r_.p,(Sl g8 0 0),rfl,rfl,Nat.zero_add _,hL15,rfl,rfl,rfl,rfl,rfl,Z⟩
 intro n15 f w_ hI
 obtain ⟨i_11,suf15,out_12,g_0_1_14,v12_out,rfl,hd15,hl15,hL15,sf0,sf2,sf4,sf7,sf8,Z⟩:=ik hI15 hI
 refine W_seq (sq (mF sf8 rfl (fA 0 fa_26_0 sf4 rfl (ldB 2 Z Tryd.isAgg23 rfl rfl rfl (L_len rfl Tryd.underlying23 rfl (slice_len h1_0) (L_lss rfl rfl rfl (nn (W_cond (b:=decide ((i_11 : Int) < (m.sizes.length : Int))) rfl (fun hc16=>?_) (fun hc16=>?_)))))))))
 have hlt15:=of_decide_eq_true hc16
 rcases suf15 with _ | ⟨x_15,rest15⟩
 exact absurd hlt15 (by simp at hl15; omega)
 obtain ⟨o15,hB15,hL15⟩:=range_cons hL15
 rw [s_l6Some_b1] at hB15
 have hix15:=drop_idx hd15
 refine W_skip (W_seq (W_block (W_seq ?_)))
 obtain ⟨x22,hx22,hB15⟩:=bind_some hB15
 refine W_region (mF sf0 rfl ?_)
 have Z:=Z.get 1 rfl
 obtain ⟨H24b,l25,s26,z27,k28⟩:=Z.lend [_]
 refine L_call rfl Tryd.call21 (ops2 rfl rfl) (s_l17Rd_pick_c (r_:=({ b:=r_.b,p:=g_0_1_14 } : Rd)) (n_:=3) s26 (RP.mono _ h0_0 l25) hx22) ?_
 rintro _ w29 ⟨rfl,Z⟩
 have Z:=k28 Z (cb c0)
 refine L_gtr rfl rfl rfl (nn ?_)
 obtain ⟨out_30,hA32,hB15⟩:=bind_some hB15
 obtain ⟨R32,hR32⟩:=exR fun f w_=>∃ v30_out : Value,f 0 = Pt g_0∧f 2 = I least∧f 4 = Pt g3∧f 7 = v30_out∧f 8 = I i_11∧Star H w_ ([oF 3 RP.int v30_out out_30,box g_0 88 #[v0_0,I x22.2],box g3 26 #[v1_0,v1_1]])
 refine W_join R32 ?_ ?_
 refine W_cond (b:=decide (x22.1 > 0)) rfl (fun hc33=>?_) (fun hc33=>?_)
 have hA32:=(ite_t hc33).symm.trans hA32
 obtain ⟨x37,hx37,hA32⟩:=bind_some hA32
 refine W_region (mF sf7 rfl (mF sf8 rfl (L_bs rfl (parts1 rfl) (bs_23_1_0 (I i_11) rfl) Z (fun g41 w42 Z=>?_))))
 have Z:=Star.addF (r:=RP.int) (cs:=[I i_11]) (x:=(i_11 : Int)) Z rfl
 have Z:=Star.mkRow (R:=(OR.frz RP.int)) [([I i_11],(i_11 : Int))] [(i_11 : Int)] 1 Z rfl rfl rfl (by decide)
 have Z:=Z.get 2 rfl
 refine L_appM (v:=v12_out) (u:=(Sl g41 1 1)) rfl et_23 rfl rfl Z hx37 (fun v44 w45 Z=>aV v44 rfl (nn ?_))
 obtain rfl:=so hA32
 exact rj hR32 ⟨v44,sf0,sf2,sf4,rfl,sf8,Z⟩
 have hA32:=(ite_f hc33).symm.trans hA32
 refine W_skip ?_
 obtain rfl:=so hA32
 have Z:=Z.gets [2,1,2] rfl
 exact rj hR32 ⟨v12_out,sf0,sf2,sf4,sf7,sf8,Z⟩
 intro f w_ hR
 obtain ⟨v30_out,sf0,sf2,sf4,sf7,sf8,Z⟩:=rk hR32 hR
 refine W_region (mF sf8 rfl (L_add rfl rfl rfl (aI rfl (nn ?_))))
 obtain rfl:=so hB15
 show ∃ m,m < _∧I15 m _ _
 refine ⟨rest15.length,by simp,?_⟩
 exact ij hI15 ⟨i_11 + 1,rest15,out_30,x22.2,v30_out,rfl,drop_next hd15,by simp at hl15; omega,hL15,sf0,sf2,sf4,sf7,(Eq.trans rfl (congrArg (Value.int .i64) (i64_succ (n:=m.sizes.length) (by simp at hl15; omega) hlen15))),Z⟩
 rcases suf15 with _ | ⟨_,_⟩
 obtain rfl:=range_nil hL15
 refine W_exit (rj hR15 ⟨out_12,g_0_1_14,v12_out,rfl,sf0,sf2,sf4,sf7,Z⟩)
 exact absurd (of_decide_eq_false hc16) (by simp at hl15; omega)
 intro f w_ hR
 obtain ⟨out_12,g_0_1_14,v12_out,rfl,sf0,sf2,sf4,sf7,Z⟩:=rk hR15 hR
 refine W_seq (sq (aI rfl (nn ?_)))
 obtain ⟨j53,hL53,hF⟩:=bind_some hF
 obtain ⟨R53,hR53⟩:=exR fun f w_=>∃ out_50 : List Int,∃ v_52 : Int,∃ v50_out : Value,j53 = .nx (out_50,v_52)∧f 0 = Pt g_0∧f 2 = I least∧f 7 = v50_out∧Star H w_ ([oF 3 RP.int v50_out out_50,box g_0 88 #[v0_0,I g_0_1_14]])
 refine W_join R53 ?_ ?_
 refine W_block ?_
 obtain ⟨I53,hI53⟩:=exI fun n f w_=>∃ out_50 : List Int,∃ v_52 : Int,∃ v50_out : Value,whileL (s_l6Some_b2 m least) n (out_50,v_52) = some j53∧f 0 = Pt g_0∧f 2 = I least∧f 4 = Pt g3∧f 7 = v50_out∧f 9 = I v_52∧Star H w_ ([oF 3 RP.int v50_out out_50,box g_0 88 #[v0_0,I g_0_1_14],box g3 26 #[v1_0,v1_1]])
 refine W_loop I53 (n:=fu) ?_ ?_
 exact ij hI53 ⟨out_12,0,v12_out,hL53,sf0,sf2,sf4,sf7,rfl,Z⟩
 intro n53 f w_ hI
 obtain ⟨out_50,v_52,v50_out,hL53,sf0,sf2,sf4,sf7,sf9,Z⟩:=ik hI53 hI
 rcases n53 with _ | n53
 exact (while_zero hL53).elim
 obtain ⟨o53,hB53,hL53⟩:=while_succ hL53
 rw [s_l6Some_b2] at hB53
 refine W_seq (W_seq ?_)
 obtain ⟨R54,hR54⟩:=exR fun f w_=>f 0 = Pt g_0∧f 2 = I least∧f 4 = Pt g3∧f 7 = v50_out∧f 9 = I v_52∧f 37 = Bo ((decide ((out_50.length : Int) < least)) && (decide (v_52 < (m.sizes.length : Int))))∧Star H w_ ([oF 3 RP.int v50_out out_50,box g_0 88 #[v0_0,I g_0_1_14],box g3 26 #[v1_0,v1_1]])
 refine W_join R54 ?_ ?_
 refine W_region (mF sf7 rfl (L_len rfl Tryd.underlying23 rfl (Star.len 0 Z rfl) (mF sf2 rfl (L_lss rfl rfl rfl (mB rfl (L_split (d:=31) (b:=decide ((out_50.length : Int) < least)) rfl (fun hc55=>?_) (fun hc55=>?_)))))))
 refine mF sf9 rfl (fA 0 fa_26_0 sf4 rfl (ldB 2 Z Tryd.isAgg23 rfl rfl rfl (L_len rfl Tryd.underlying23 rfl (slice_len h1_0) (L_lss rfl rfl rfl (L_pick (v:=Bo ((decide ((out_50.length : Int) < least)) && (decide (v_52 < (m.sizes.length : Int))))) rfl rfl (and_t hc55 rfl) (nn (rj hR54 ⟨sf0,sf2,sf4,sf7,sf9,rfl,Z⟩)))))))
 refine ps rfl (ps rfl (ps rfl (ps rfl (ps rfl (L_pick (v:=Bo ((decide ((out_50.length : Int) < least)) && (decide (v_52 < (m.sizes.length : Int))))) rfl rfl (and_f hc55) (nn (rj hR54 ⟨sf0,sf2,sf4,sf7,sf9,rfl,Z⟩)))))))
 intro f w_ hR
 obtain ⟨sf0,sf2,sf4,sf7,sf9,sf37,Z⟩:=rk hR54 hR
 refine W_cond (b:=((decide ((out_50.length : Int) < least)) && (decide (v_52 < (m.sizes.length : Int))))) sf37 (fun hc56=>?_) (fun hc56=>?_)
 have hB53:=(ite_t hc56).symm.trans hB53
 refine W_skip (W_seq (W_block (W_seq ?_)))
 obtain ⟨b62,hb62,hB53⟩:=bind_some hB53
 obtain ⟨R63,hR63⟩:=exR fun f w_=>f 0 = Pt g_0∧f 2 = I least∧f 4 = Pt g3∧f 7 = v50_out∧f 9 = I v_52∧f 52 = Bo b62∧Star H w_ ([oF 3 RP.int v50_out out_50,box g_0 88 #[v0_0,I g_0_1_14],box g3 26 #[v1_0,v1_1]])
 refine W_join R63 ?_ ?_
 refine W_region (mF sf7 rfl (L_len rfl Tryd.underlying23 rfl (Star.len 0 Z rfl) (L_eql rfl rfl rfl (mB rfl (L_split (d:=43) (b:=((out_50.length : Int) == 0)) rfl (fun hc64=>?_) (fun hc64=>?_))))))
 rw [ite_t hc64] at hb62
 refine ps rfl (ps rfl (ps rfl (ps rfl (ps rfl (ps rfl (ps rfl (ps rfl (L_pick (v:=Bo b62) rfl rfl (congrArg Value.bool (so hb62)) (nn (rj hR63 ⟨sf0,sf2,sf4,sf7,sf9,rfl,Z⟩))))))))))
 rw [ite_f hc64] at hb62
 obtain ⟨x57,hx57,hb62⟩:=bind_some hb62
 refine mF sf7 rfl (mF sf7 rfl (L_len rfl Tryd.underlying23 rfl (Star.len 0 Z rfl) (L_sub rfl rfl rfl ?_)))
 obtain ⟨g65,cap_g65,hv66,_,_⟩:=Star.row 0 Z rfl hx57
 refine L_ixO (R:=(OR.frz RP.int)) (tb:=0) 0 rfl Tryd.underlying23 Tryd.sizeOf3 rfl hv66 (by first | rfl | simp) rfl hx57 ?_
 obtain ⟨cs67,hr67,hat67⟩:=Star.eltF 0 Z rfl hv66 hx57
 obtain rfl : _ = [_]:=hr67
 refine L_ld rfl Tryd.isAgg3 rfl (At.cell hat67 (j:=0) rfl) (mF sf9 rfl (L_lss rfl rfl rfl (L_pick (v:=Bo b62) rfl rfl (congrArg Value.bool (so hb62)) (nn (rj hR63 ⟨sf0,sf2,sf4,sf7,sf9,rfl,Z⟩)))))
 intro f w_ hR
 obtain ⟨sf0,sf2,sf4,sf7,sf9,sf52,Z⟩:=rk hR63 hR
 obtain ⟨out_69,hA71,hB53⟩:=bind_some hB53
 obtain ⟨R71,hR71⟩:=exR fun f w_=>∃ v69_out : Value,f 0 = Pt g_0∧f 2 = I least∧f 4 = Pt g3∧f 7 = v69_out∧f 9 = I v_52∧Star H w_ ([oF 3 RP.int v69_out out_69,box g_0 88 #[v0_0,I g_0_1_14],box g3 26 #[v1_0,v1_1]])
 refine W_join R71 ?_ ?_
 refine W_cond (b:=b62) sf52 (fun hc72=>?_) (fun hc72=>?_)
 have hA71:=(ite_t hc72).symm.trans hA71
 obtain ⟨x76,hx76,hA71⟩:=bind_some hA71
 refine W_region (mF sf7 rfl (mF sf9 rfl (L_bs rfl (parts1 rfl) (bs_23_1_0 (I v_52) rfl) Z (fun g80 w81 Z=>?_))))
 have Z:=Star.addF (r:=RP.int) (cs:=[I v_52]) (x:=v_52) Z rfl
 have Z:=Star.mkRow (R:=(OR.frz RP.int)) [([I v_52],v_52)] [v_52] 1 Z rfl rfl rfl (by decide)
 have Z:=Z.get 1 rfl
 refine L_appM (v:=v50_out) (u:=(Sl g80 1 1)) rfl et_23 rfl rfl Z hx76 (fun v83 w84 Z=>aV v83 rfl (nn ?_))
 obtain rfl:=so hA71
 exact rj hR71 ⟨v83,sf0,sf2,sf4,rfl,sf9,Z⟩
 have hA71:=(ite_f hc72).symm.trans hA71
 refine W_skip ?_
 obtain rfl:=so hA71
 exact rj hR71 ⟨v50_out,sf0,sf2,sf4,sf7,sf9,Z⟩
 intro f w_ hR
 obtain ⟨v69_out,sf0,sf2,sf4,sf7,sf9,Z⟩:=rk hR71 hR
 refine W_region (mF sf9 rfl (L_add rfl rfl rfl (aI rfl (nn ?_))))
 obtain rfl:=so hB53
 show ∃ m,m < _∧I53 m _ _
 refine ⟨n53,Nat.lt_succ_self _,?_⟩
 exact ij hI53 ⟨out_69,i64 (v_52 + 1),v69_out,hL53,sf0,sf2,sf4,sf7,rfl,Z⟩
 have hB53:=(ite_f hc56).symm.trans hB53
 refine W_exit ?_
 obtain rfl:=so hB53
 obtain rfl:=so hL53
 exact rj hR53 ⟨out_50,v_52,v50_out,rfl,sf0,sf2,sf7,(Star.keepN 2 Z)⟩
 intro f w_ hR
 obtain ⟨out_50,v_52,v50_out,rfl,sf0,sf2,sf7,Z⟩:=rk hR53 hR
 refine W_seq (W_seq ?_)
 obtain ⟨R86,hR86⟩:=exR fun f w_=>f 0 = Pt g_0∧f 2 = I least∧f 7 = v50_out∧f 65 = Bo ((decide ((out_50.length : Int) < least)) || ((out_50.length : Int) == 0))∧Star H w_ ([oF 3 RP.int v50_out out_50,box g_0 88 #[v0_0,I g_0_1_14]])
 refine W_join R86 ?_ ?_
 refine W_region (mF sf7 rfl (L_len rfl Tryd.underlying23 rfl (Star.len 0 Z rfl) (mF sf2 rfl (L_lss rfl rfl rfl (mB rfl (L_split (d:=61) (b:=decide ((out_50.length : Int) < least)) rfl (fun hc87=>?_) (fun hc87=>?_)))))))
 refine ps rfl (ps rfl (ps rfl (L_pick (v:=Bo ((decide ((out_50.length : Int) < least)) || ((out_50.length : Int) == 0))) rfl rfl (or_t hc87) (nn (rj hR86 ⟨sf0,sf2,sf7,rfl,Z⟩)))))
 refine mF sf7 rfl (L_len rfl Tryd.underlying23 rfl (Star.len 0 Z rfl) (L_eql rfl rfl rfl (L_pick (v:=Bo ((decide ((out_50.length : Int) < least)) || ((out_50.length : Int) == 0))) rfl rfl (or_f hc87 rfl) (nn (rj hR86 ⟨sf0,sf2,sf7,rfl,Z⟩)))))
 intro f w_ hR
 obtain ⟨sf0,sf2,sf7,sf65,Z⟩:=rk hR86 hR
 obtain ⟨out_88,hA90,hF⟩:=bind_some hF
 obtain ⟨R90,hR90⟩:=exR fun f w_=>∃ v88_out : Value,f 0 = Pt g_0∧f 7 = v88_out∧Star H w_ ([oF 3 RP.int v88_out out_88,box g_0 88 #[v0_0,I g_0_1_14]])
 refine W_join R90 ?_ ?_
 refine W_cond (b:=((decide ((out_50.length : Int) < least)) || ((out_50.length : Int) == 0))) sf65 (fun hc91=>?_) (fun hc91=>?_)
 have hA90:=(ite_t hc91).symm.trans hA90
 refine sq (L_bs rfl parts0 (bs_23_0  ) Z (fun g95 w96 Z=>?_))
 have Z:=Star.mkRow (R:=(OR.frz RP.int)) [] [] 0 Z rfl rfl rfl (by decide)
 refine aV (Sl g95 0 0) rfl (ns (aI rfl (nn ?_)))
 obtain ⟨k102,hk102,hA90⟩:=bind_some hA90
 obtain ⟨j101,hL101,hA90⟩:=bind_some hA90
 obtain ⟨R101,hR101⟩:=exR fun f w_=>∃ out_99 : List Int,∃ v99_out : Value,j101 = .nx out_99∧f 0 = Pt g_0∧f 7 = v99_out∧Star H w_ ([oF 3 RP.int v99_out out_99,box g_0 88 #[v0_0,I g_0_1_14]])
 refine W_join R101 ?_ ?_
 refine W_block ?_
 obtain ⟨I101,hI101⟩:=exI fun n f w_=>∃ i_98 : Nat,∃ suf101 : Nat,∃ out_99 : List Int,∃ v99_out : Value,suf101 = n∧0≤i_98∧i_98 + suf101 = 0 + k102∧countL s_l6Some_b3 suf101 i_98 out_99 = some j101∧f 0 = Pt g_0∧f 2 = I least∧f 7 = v99_out∧f 10 = I i_98∧Star H w_ ([oF 3 RP.int v99_out out_99,box g_0 88 #[v0_0,I g_0_1_14]])
 have Z:=Z.gets [2,1] rfl
 refine W_loop I101 (n:=k102) ?_ ?_
 exact ij hI101 ⟨0,k102,[],(Sl g95 0 0),rfl,Nat.le_refl _,rfl,hL101,sf0,sf2,rfl,rfl,(Star.keepN 2 Z)⟩
 intro n101 f w_ hI
 obtain ⟨i_98,suf101,out_99,v99_out,rfl,hs101,hl101,hL101,sf0,sf2,sf7,sf10,Z⟩:=ik hI101 hI
 refine W_seq (sq (mF sf10 rfl (mF sf2 rfl (L_lss rfl rfl rfl (nn (W_cond (b:=decide ((i_98 : Int) < least)) rfl (fun hc103=>?_) (fun hc103=>?_)))))))
 have hlt101:=of_decide_eq_true hc103
 rcases suf101 with _ | rest101
 exact absurd hlt101 (cntF_no hl101 hk102)
 obtain ⟨o101,hB101,hL101⟩:=count_succ hL101
 rw [s_l6Some_b3] at hB101
 refine W_skip (W_seq (W_block ?_))
 obtain ⟨x107,hx107,hB101⟩:=bind_some hB101
 refine W_region (mF sf7 rfl (mF sf10 rfl (L_bs rfl (parts1 rfl) (bs_23_1_0 (I i_98) rfl) Z (fun g111 w112 Z=>?_))))
 have Z:=Star.addF (r:=RP.int) (cs:=[I i_98]) (x:=(i_98 : Int)) Z rfl
 have Z:=Star.mkRow (R:=(OR.frz RP.int)) [([I i_98],(i_98 : Int))] [(i_98 : Int)] 1 Z rfl rfl rfl (by decide)
 have Z:=Z.get 1 rfl
 refine L_appM (v:=v99_out) (u:=(Sl g111 1 1)) rfl et_23 rfl rfl Z hx107 (fun v114 w115 Z=>aV v114 rfl (nn (W_region (mF sf10 rfl (L_add rfl rfl rfl (aI rfl (nn ?_)))))))
 obtain rfl:=so hB101
 show ∃ m,m < _∧I101 m _ _
 refine ⟨rest101,Nat.lt_succ_self _,?_⟩
 exact ij hI101 ⟨i_98 + 1,rest101,x107,v114,rfl,by omega,by omega,hL101,sf0,sf2,rfl,(Eq.trans rfl (congrArg (Value.int .i64) (i64_succ (n:=0 + k102) (by omega) (cntF_le hk102)))),Z⟩
 rcases suf101 with _ | _
 obtain rfl:=count_zero hL101
 refine W_exit (rj hR101 ⟨out_99,v99_out,rfl,sf0,sf7,Z⟩)
 exact absurd (cntF_yes hs101 hl101 hk102) (of_decide_eq_false hc103)
 intro f w_ hR
 obtain ⟨out_99,v99_out,rfl,sf0,sf7,Z⟩:=rk hR101 hR
 obtain rfl:=so hA90
 exact rj hR90 ⟨v99_out,sf0,sf7,Z⟩
 have hA90:=(ite_f hc91).symm.trans hA90
 refine W_skip ?_
 obtain rfl:=so hA90
 exact rj hR90 ⟨v50_out,sf0,sf7,Z⟩
 intro f w_ hR
 obtain ⟨v88_out,sf0,sf7,Z⟩:=rk hR90 hR
 refine W_seq (W_seq ?_)
 obtain ⟨b124,hb124,hF⟩:=bind_some hF
 obtain ⟨R125,hR125⟩:=exR fun f w_=>f 7 = v88_out∧f 83 = Bo b124.1∧Star H w_ ([oF 3 RP.int v88_out out_88,box g_0 88 #[v0_0,I b124.2]])
 refine W_join R125 ?_ ?_
 refine W_region (mF sf7 rfl (L_len rfl Tryd.underlying23 rfl (Star.len 0 Z rfl) (L_gtr rfl rfl rfl (mB rfl (L_split (d:=79) (b:=decide ((out_88.length : Int) > 1)) rfl (fun hc126=>?_) (fun hc126=>?_))))))
 rw [ite_t hc126] at hb124
 obtain ⟨x122,hx122,hb124⟩:=bind_some hb124
 refine mF sf0 rfl ?_
 have Z:=Z.get 1 rfl
 obtain ⟨H127b,l128,s129,z130,k131⟩:=Z.lend [_]
 refine L_call rfl Tryd.call21 (ops2 rfl rfl) (s_l17Rd_pick_c (r_:=({ b:=r_.b,p:=g_0_1_14 } : Rd)) (n_:=3) s129 (RP.mono _ h0_0 l128) hx122) ?_
 rintro _ w132 ⟨rfl,Z⟩
 have Z:=k131 Z (cb c0)
 refine L_eql rfl rfl rfl (L_pick (v:=Bo b124.1) rfl rfl (congrArg (fun z : Bool × Int=>Value.bool z.1) (so hb124)) ?_)
 have Z : Star H w132 ([box g_0 88 #[v0_0,I b124.2],oF 3 RP.int v88_out out_88]):=by rw [← so hb124]; exact Z
 refine nn ?_
 have Z:=Z.get 1 rfl
 exact rj hR125 ⟨sf7,rfl,Z⟩
 rw [ite_f hc126] at hb124
 refine ps rfl (ps rfl (ps rfl (L_pick (v:=Bo b124.1) rfl rfl (congrArg (fun z : Bool × Int=>Value.bool z.1) (so hb124)) ?_)))
 have Z:=Z.get 1 rfl
 have Z : Star H w_ ([box g_0 88 #[v0_0,I b124.2],oF 3 RP.int v88_out out_88]):=by rw [← so hb124]; exact Z
 refine nn ?_
 have Z:=Z.get 1 rfl
 exact rj hR125 ⟨sf7,rfl,Z⟩
 intro f w_ hR
 obtain ⟨sf7,sf83,Z⟩:=rk hR125 hR
 obtain ⟨out_133,hA134,hF⟩:=bind_some hF
 obtain ⟨R134,hR134⟩:=exR fun f w_=>f 7 = v88_out∧Star H w_ ([oF 3 RP.int v88_out out_133,box g_0 88 #[v0_0,I b124.2]])
 refine W_join R134 ?_ ?_
 refine W_cond (b:=b124.1) sf83 (fun hc135=>?_) (fun hc135=>?_)
 have hA134:=(ite_t hc135).symm.trans hA134
 refine W_seq ?_
 obtain ⟨x136,hx136,hA134⟩:=bind_some hA134
 refine W_region (mF sf7 rfl ?_)
 obtain ⟨g141,cap_g141,hv142,_,_⟩:=Star.row 0 Z rfl hx136
 refine L_ixO (R:=(OR.frz RP.int)) (tb:=0) 0 rfl Tryd.underlying23 Tryd.sizeOf3 rfl hv142 (by first | rfl | simp) rfl hx136 ?_
 obtain ⟨cs143,hr143,hat143⟩:=Star.eltF 0 Z rfl hv142 hx136
 obtain rfl : _ = [_]:=hr143
 refine L_ld rfl Tryd.isAgg3 rfl (At.cell hat143 (j:=0) rfl) (aI rfl (nq ?_))
 obtain ⟨x145,hx145,hA134⟩:=bind_some hA134
 refine W_region (mF sf7 rfl (mF sf7 rfl (L_ixO (R:=(OR.frz RP.int)) (tb:=0) 0 rfl Tryd.underlying23 Tryd.sizeOf3 rfl hv142 (by first | rfl | simp) rfl hx145 ?_)))
 obtain ⟨cs149,hr149,hat149⟩:=Star.eltF 0 Z rfl hv142 hx145
 obtain rfl : _ = [_]:=hr149
 refine L_ld rfl Tryd.isAgg3 rfl (At.cell hat149 (j:=0) rfl) (L_ixO (R:=(OR.frz RP.int)) (tb:=0) 0 rfl Tryd.underlying23 Tryd.sizeOf3 rfl hv142 (by first | rfl | simp) rfl hx136 ?_)
 have Z:=Star.addF (r:=RP.int) (cs:=[I x145]) (x:=x145) Z rfl
 refine L_stE1 (u:=I x145) rfl Tryd.sizeOf3 rfl rfl rfl hv142 Z hx136 (fun w151 Z=>?_)
 refine nn ?_
 obtain ⟨x152,hx152,hA134⟩:=bind_some hA134
 refine W_region (mF sf7 rfl (mI rfl (L_ixO (R:=(OR.frz RP.int)) (tb:=0) 0 rfl Tryd.underlying23 Tryd.sizeOf3 rfl hv142 (by first | rfl | simp) rfl hx152 ?_)))
 have Z:=Star.addF (r:=RP.int) (cs:=[I x136]) (x:=x136) Z rfl
 refine L_stE1 (u:=I x136) rfl Tryd.sizeOf3 rfl rfl rfl hv142 Z hx152 (fun w154 Z=>?_)
 refine nn ?_
 obtain rfl:=so hA134
 exact rj hR134 ⟨sf7,Z⟩
 have hA134:=(ite_f hc135).symm.trans hA134
 refine W_skip ?_
 obtain rfl:=so hA134
 exact rj hR134 ⟨sf7,Z⟩
 intro f w_ hR
 obtain ⟨sf7,Z⟩:=rk hR134 hR
 refine sq (mF sf7 rfl (aV v88_out rfl (nn (W_ret (retG1 (v1:=v88_out) Tryd.results81 rfl ?_)))))
 obtain rfl:=so hF
 exact ⟨v88_out,rfl,Z⟩
theorem s_l6Draw_c {fu : Nat} {r_ : Rd} {m : Model} {g_0 : Nat} {v0_0 : Value} {v1_0 : Value} {v1_1 : Value} {H : FH} {w : World} (Z : Star H w [box g_0 88 #[v0_0,I r_.p]]) (h0_0 : (rS 5 RP.u8).rel H [v0_0] r_.b) (h1_0 : (rS 3 RP.int).rel H [v1_0] m.sizes) (h1_1 : (rS 54 (rRule 3 23)).rel H [v1_1] m.rules) {r : Rule × Int} (hF : s_l6Draw fu r_ m = some r) :
 C Tryd.prog 48 #[Pt g_0,.agg #[v1_0,v1_1]] w fun v w'=>∃ (u1 : Value) (u2 : Value) (u3 : Value),v = .agg #[I r.1.kind,u1,u2,I r.1.bound,u3]∧Star H w' [oF 3 RP.int u1 r.1.vars,oF 3 RP.int u2 r.1.coefs,own (OR.ownS 23 (OR.ownS 3 (OR.frz RP.int))) [u3] r.1.rows,box g_0 88 #[v0_0,I r.2]]:=by
 unfold s_l6Draw at hF
 refine C_enter Tryd.func48 rfl Tryd.ntmps48 rfl (sq (L_box (v:=.agg #[v1_0,v1_1]) (cs:=#[v1_0,v1_1]) rfl rfl rfl Z (fun g5 w6 Z=>L_al (cs:=#[I 0,S0,S0,I 0,S0]) rfl Tryd.zeroValue54 rfl Z (fun g7 w8 Z=>nq ?_))))
 obtain ⟨x18,hx18,hF⟩:=bind_some hF
 refine W_region (mV (Pt g_0) rfl (L_bs rfl (parts5 rfl rfl rfl rfl rfl) (bs_23_5_0_0_0_0_0 (I 1) (I 2) (I 3) (I 4) (I 1) rfl rfl rfl rfl rfl) Z (fun g23 w24 Z=>?_)))
 have Z:=litInts [1,2,3,4,1] 5 Z rfl rfl (by decide)
 have Z:=Z.get 3 rfl
 obtain ⟨H26b,l27,s28,z29,k30⟩:=Z.lend [_]
 have hb31 : (rS 3 RP.int).rel H26b [(Sl g23 5 5)] ([1,2,3,4,1]):=fz_own 0 z29 rfl
 refine L_call rfl Tryd.call47 (ops2 rfl rfl) (s_l17Rd_num_c (r_:=r_) (list:=[1,2,3,4,1]) s28 (RP.mono _ h0_0 l27) hb31 hx18) ?_
 rintro _ w32 ⟨rfl,Z⟩
 have Z:=k30 Z (cb c0)
 refine L_bld rfl (parts1 rfl) (bld_54_0 (I x18.1) rfl) (L_al (cs:=#[I 0,S0,S0,I 0,S0]) rfl Tryd.zeroValue54 rfl Z (fun g33 w34 Z=>L_staB (vs:=#[I x18.1,S0,S0,I 0,S0]) (cs2:=#[I x18.1,S0,S0,I 0,S0]) 0 rfl Tryd.sizeOf54 rfl rfl rfl (ones_cons rfl (ones_cons rfl (ones_cons rfl (ones_cons rfl (ones_cons rfl ones_nil))))) Z rfl (by show 0 + 5≤5; decide) rfl (fun w35 Z=>nq ?_)))
 obtain ⟨x41,hx41,hF⟩:=bind_some hF
 refine W_region (mV (Pt g_0) rfl (L_lda (cs:=[v1_0,v1_1]) rfl Tryd.isAgg26 Tryd.sizeOf26 rfl (At.sub0 (Blk.at (Star.blkAt 4 Z rfl)) 0 2) rfl ?_))
 have Z:=Z.get 1 rfl
 obtain ⟨H45b,l46,s47,z48,k49⟩:=Z.lend [_]
 refine L_call rfl Tryd.call81 (ops3 rfl rfl rfl) (s_l6Some_c (r_:=({ b:=r_.b,p:=x18.2 } : Rd)) (m:=m) (least:=1) s47 (RP.mono _ h0_0 l46) (RP.mono _ h1_0 l46) (RP.mono _ h1_1 l46) hx41) ?_
 rintro r50_0 w50 ⟨_,rfl,Z⟩
 have Z:=k49 Z (co closed_int (cb c0))
 refine fA 1 fa_54_1 rfl rfl (L_stB (v:=r50_0) (cs2:=#[I x18.1,r50_0,S0,I 0,S0]) 2 rfl Tryd.sizeOf23 rfl rfl (one_len (Star.len 0 Z rfl)) Z rfl rfl rfl (fun w52 Z=>nq (sq (fA 0 fa_54_0 rfl rfl (ldB 0 Z Tryd.isAgg3 rfl rfl rfl (nn (W_block (sq (L_eql rfl rfl rfl (aB rfl (nn ?_)))))))))))
 obtain ⟨⟨g_0_1_53,g33_1_54,g33_2_56,g33_3_58,g33_4_59⟩,hA63,hF⟩:=bind_some hF
 obtain ⟨R63,hR63⟩:=exR fun f w_=>∃ H61 : FH,∃ v54_g33_1 v56_g33_2 v59_g33_4 : Value,Le H H61∧f 4 = Pt g7∧f 5 = Pt g33∧Star H61 w_ ([box g_0 88 #[v0_0,I g_0_1_53],oF 3 RP.int v54_g33_1 g33_1_54,oF 3 RP.int v56_g33_2 g33_2_56,own (OR.ownS 23 (OR.ownS 3 (OR.frz RP.int))) [v59_g33_4] g33_4_59,box g33 54 #[I x18.1,v54_g33_1,v56_g33_2,I g33_3_58,v59_g33_4],box g7 54 #[I 0,S0,S0,I 0,S0]])
 refine W_join R63 ?_ ?_
 refine W_cond (b:=(x18.1 == 1)) rfl (fun hc64=>?_) (fun hc64=>?_)
 have hA63:=(ite_t hc64).symm.trans hA63
 refine W_seq (sq (aI rfl (nn ?_)))
 have hlen71 : List.length x41.1≤9223372036854775807:=len_le (Star.len 1 Z rfl)
 obtain ⟨j71,hL71,hA63⟩:=bind_some hA63
 obtain ⟨R71,hR71⟩:=exR fun f w_=>∃ g_0_1_66 : Int,∃ g33_2_67 : List Int,∃ H69 : FH,∃ v67_g33_2 : Value,j71 = .nx (g_0_1_66,g33_2_67)∧Le H H69∧f 0 = Pt g_0∧f 4 = Pt g7∧f 5 = Pt g33∧Star H69 w_ ([box g_0 88 #[v0_0,I g_0_1_66],oF 3 RP.int r50_0 x41.1,oF 3 RP.int v67_g33_2 g33_2_67,box g33 54 #[I x18.1,r50_0,v67_g33_2,I 0,S0],box g7 54 #[I 0,S0,S0,I 0,S0]])
 refine W_join R71 ?_ ?_
 refine W_block ?_
 obtain ⟨I71,hI71⟩:=exI fun n f w_=>∃ i_65 : Nat,∃ suf71 : List Int,∃ g_0_1_66 : Int,∃ g33_2_67 : List Int,∃ H69 : FH,∃ v67_g33_2 : Value,n = suf71.length∧List.drop i_65 x41.1 = suf71∧i_65 + suf71.length = x41.1.length∧rangeL (s_l6Draw_b1 r_) suf71 i_65 (g_0_1_66,g33_2_67) = some j71∧Le H H69∧f 0 = Pt g_0∧f 4 = Pt g7∧f 5 = Pt g33∧f 6 = I i_65∧Star H69 w_ ([box g_0 88 #[v0_0,I g_0_1_66],oF 3 RP.int r50_0 x41.1,oF 3 RP.int v67_g33_2 g33_2_67,box g33 54 #[I x18.1,r50_0,v67_g33_2,I 0,S0],box g7 54 #[I 0,S0,S0,I 0,S0]])
 have Z:=Star.addNil (R:=(OR.frz RP.int)) (e:=3) Z
 have Z:=Z.gets [5,2,2,3,4] rfl
 refine W_loop I71 (n:=x41.1.length) ?_ ?_
 exact ij hI71 ⟨0,x41.1,x41.2,[],H,S0,rfl,rfl,Nat.zero_add _,hL71,(Le.refl _),rfl,rfl,rfl,rfl,(Star.keepN 5 Z)⟩
 intro n71 f w_ hI
 obtain ⟨i_65,suf71,g_0_1_66,g33_2_67,H69,v67_g33_2,rfl,hd71,hl71,hL71,l70,sf0,sf4,sf5,sf6,Z⟩:=ik hI71 hI
 refine W_seq (sq (mF sf6 rfl (fA 1 fa_54_1 sf5 rfl (ldB 3 Z Tryd.isAgg23 rfl rfl rfl (L_len rfl Tryd.underlying23 rfl (Star.len 1 Z rfl) (L_lss rfl rfl rfl (nn (W_cond (b:=decide ((i_65 : Int) < (x41.1.length : Int))) rfl (fun hc73=>?_) (fun hc73=>?_)))))))))
 have hlt71:=of_decide_eq_true hc73
 rcases suf71 with _ | ⟨x_71,rest71⟩
 exact absurd hlt71 (by simp at hl71; omega)
 obtain ⟨o71,hB71,hL71⟩:=range_cons hL71
 rw [s_l6Draw_b1] at hB71
 have hix71:=drop_idx hd71
 refine W_skip (W_seq (W_block ?_))
 obtain ⟨x83,hx83,hB71⟩:=bind_some hB71
 obtain ⟨x88,hx88,hB71⟩:=bind_some hB71
 have Z:=Z.gets [4,4,4,4] rfl
 refine W_drawS 6 [isV (Pq g33 2),isV (v67_g33_2),isV (Pt g_0),anyF,isV (I x83.1),anyF] [oF 3 RP.int r50_0 x41.1,oF 3 RP.int v67_g33_2 g33_2_67,box g33 54 #[I x18.1,r50_0,v67_g33_2,I 0,S0],box g7 54 #[I 0,S0,S0,I 0,S0]] [.base (box g_0 88 #[v0_0,I g_0_1_66]) (some 4),.made 3 32 (fun v_=>oF 3 RP.int v_ ([1,(-1),2,1,(-2),3])) none,.made 4 33 (fun v_=>box g_0 88 #[v0_0,I x83.2]) none,.made 5 34 (fun v_=>oF 3 RP.int v_ ([x83.1])) none] ([]) [([],[]),([],[]),([],[]),([],[1]),([0,1],[1,2]),([],[3])] (S:=[(none,[],some 4),(some 3,[32],none),(some 4,[33],none),(some 5,[34],none)]) Tryd_mix (by kernel_rfl) rfl (by kernel_rfl) (amF_cons (mono_V _) (amF_cons (mono_V _) (amF_cons (mono_V _) (amF_cons (mono_any) (amF_cons (mono_V _) (amF_cons (mono_any) amF_nil)))))) Z ?_ (fun f w_ H93 hS93 hE93 hT93 Z=>?_)
 refine opsS_cons (fun f w_ _ _ s _ _ Z=>fA 2 fa_54_2 ((s 5 rfl).trans sf5) rfl (nO rfl rfl Z)) (opsS_cons (fun f w_ _ _ _ _ p Z=>ldB 2 Z Tryd.isAgg23 (p 0 29 rfl rfl) rfl rfl (nO rfl rfl Z)) (opsS_cons (fun f w_ _ _ s _ _ Z=>mF ((s 0 rfl).trans sf0) rfl (nO rfl rfl Z)) (opsS_cons ?_ ?_)))
 intro f w_ H93 X93 hS93 hE93 hP93 Z
 refine L_bs rfl (parts6 rfl rfl rfl rfl rfl rfl) (bs_23_6_0_0_0_0_0_0 (I 1) (I (-1)) (I 2) (I 1) (I (-2)) (I 3) rfl rfl rfl rfl rfl rfl) Z (fun g107 w108 Z=>?_)
 have Z:=litInts [1,(-1),2,1,(-2),3] 6 Z rfl rfl (by decide)
 have Z:=Z.gets [4,4,4,4] rfl
 exact L_nil ⟨rfl,_,_,rfl,Le.refl _,fun _ _=>trivial,Z⟩
 refine opsS_cons ?_ ?_
 intro f w_ H93 X93 hS93 hE93 hP93 Z
 have Z : Star H93 w_ (oF 3 RP.int r50_0 x41.1 :: oF 3 RP.int v67_g33_2 g33_2_67 :: box g33 54 #[I x18.1,r50_0,v67_g33_2,I 0,S0] :: box g7 54 #[I 0,S0,S0,I 0,S0] :: box g_0 88 #[v0_0,I g_0_1_66] :: oF 3 RP.int (f 32) ([1,(-1),2,1,(-2),3]) :: X93):=Z
 have Z:=Z.get 4 rfl
 obtain ⟨H111b,l112,s113,z114,k115⟩:=Z.lend [_]
 have hb116 : (rS 3 RP.int).rel H111b [(f 32)] ([1,(-1),2,1,(-2),3]):=fz_own 4 z114 rfl
 refine L_call rfl Tryd.call47 (ops2 (hP93 2 31 rfl rfl) rfl) (s_l17Rd_num_c (r_:=({ b:=r_.b,p:=g_0_1_66 } : Rd)) (list:=[1,(-1),2,1,(-2),3]) s113 (RP.mono _ h0_0 (Le.trans (Le.trans l70 hE93) l112)) hb116 hx83) ?_
 rintro _ w117 ⟨rfl,Z⟩
 have Z:=k115 Z (cb c0)
 have Z:=Z.gets [5,5,5,5,5] rfl
 exact L_nil ⟨rfl,_,_,rfl,Le.refl _,fun _ _=>rfl,Z⟩
 refine opsS_cons ?_ ?_
 intro f w_ H93 X93 hS93 hE93 hP93 Z
 refine L_bs rfl (parts1 (hP93 4 33 rfl rfl)) (bs_23_1_0 (I x83.1) rfl) Z (fun g118 w119 Z=>?_)
 have Z:=Star.addF (r:=RP.int) (cs:=[I x83.1]) (x:=x83.1) Z rfl
 have Z:=Star.mkRow (R:=(OR.frz RP.int)) [([I x83.1],x83.1)] [x83.1] 1 Z rfl rfl rfl (by decide)
 have Z:=Z.gets [4,4,4,4] rfl
 exact L_nil ⟨rfl,_,_,rfl,Le.refl _,fun _ _=>trivial,Z⟩
 exact opsS_nil
 have Z : Star H93 w_ ([oF 3 RP.int r50_0 x41.1,oF 3 RP.int v67_g33_2 g33_2_67,box g33 54 #[I x18.1,r50_0,v67_g33_2,I 0,S0],box g7 54 #[I 0,S0,S0,I 0,S0],oF 3 RP.int (f 32) ([1,(-1),2,1,(-2),3]),box g_0 88 #[v0_0,I x83.2],oF 3 RP.int (f 34) ([x83.1])]):=Z
 have Z:=Z.gets [6,2] rfl
 refine L_appM (v:=v67_g33_2) (u:=(f 34)) rfl et_23 (hT93 1 30 rfl rfl) rfl Z hx88 (fun v122 w123 Z=>fA 2 fa_54_2 ((hS93 5 rfl).trans sf5) rfl (L_stB (v:=v122) (cs2:=#[I x18.1,r50_0,v122,I 0,S0]) 2 rfl Tryd.sizeOf23 rfl rfl (one_len (Star.len 0 Z rfl)) Z rfl rfl rfl (fun w125 Z=>nn (W_region (mF ((hS93 6 rfl).trans sf6) rfl (L_add rfl rfl rfl (aI rfl (nn ?_))))))))
 obtain rfl:=so hB71
 have Z:=Z.gets [3,1,2,3,5] rfl
 show ∃ m,m < _∧I71 m _ _
 refine ⟨rest71.length,by simp,?_⟩
 exact ij hI71 ⟨i_65 + 1,rest71,x83.2,x88,H93,v122,rfl,drop_next hd71,by simp at hl71; omega,hL71,(Le.trans l70 hE93),((hS93 0 rfl).trans sf0),((hS93 4 rfl).trans sf4),((hS93 5 rfl).trans sf5),(Eq.trans rfl (congrArg (Value.int .i64) (i64_succ (n:=x41.1.length) (by simp at hl71; omega) hlen71))),(Star.keepN 5 Z)⟩
 rcases suf71 with _ | ⟨_,_⟩
 obtain rfl:=range_nil hL71
 refine W_exit (rj hR71 ⟨g_0_1_66,g33_2_67,H69,v67_g33_2,rfl,l70,sf0,sf4,sf5,Z⟩)
 exact absurd (of_decide_eq_false hc73) (by simp at hl71; omega)
 intro f w_ hR
 obtain ⟨g_0_1_66,g33_2_67,H69,v67_g33_2,rfl,l70,sf0,sf4,sf5,Z⟩:=rk hR71 hR
 obtain ⟨x135,hx135,hA63⟩:=bind_some hA63
 refine W_region (mF sf0 rfl (L_bs rfl (parts7 rfl rfl rfl rfl rfl rfl rfl) (bs_23_7_0_0_0_0_0_0_0 (I 1) (I 2) (I 0) (I (-1)) (I 3) (I (-3)) (I 4) rfl rfl rfl rfl rfl rfl rfl) Z (fun g138 w139 Z=>?_)))
 have Z:=litInts [1,2,0,(-1),3,(-3),4] 7 Z rfl rfl (by decide)
 have Z:=Z.get 1 rfl
 obtain ⟨H141b,l142,s143,z144,k145⟩:=Z.lend [_]
 have hb146 : (rS 3 RP.int).rel H141b [(Sl g138 7 7)] ([1,2,0,(-1),3,(-3),4]):=fz_own 0 z144 rfl
 refine L_call rfl Tryd.call47 (ops2 rfl rfl) (s_l17Rd_num_c (r_:=({ b:=r_.b,p:=g_0_1_66 } : Rd)) (list:=[1,2,0,(-1),3,(-3),4]) s143 (RP.mono _ h0_0 (Le.trans l70 l142)) hb146 hx135) ?_
 rintro _ w147 ⟨rfl,Z⟩
 have Z:=k145 Z (cb c0)
 refine fA 3 fa_54_3 sf5 rfl (L_stB (v:=I x135.1) (cs2:=#[I x18.1,r50_0,v67_g33_2,I x135.1,S0]) 4 rfl Tryd.sizeOf3 rfl rfl rfl Z rfl rfl rfl (fun w148 Z=>nn ?_))
 obtain ⟨rfl,rfl,rfl,rfl,rfl⟩:=so5 hA63
 have Z:=Star.addNil (R:=(OR.ownS 3 (OR.frz RP.int))) (e:=23) Z
 have Z:=Z.gets [6,2,2,6,6,5] rfl
 exact rj hR63 ⟨H69,r50_0,v67_g33_2,S0,l70,sf4,sf5,(Star.keepN 6 Z)⟩
 have hA63:=(ite_f hc64).symm.trans hA63
 refine sq (L_eql rfl rfl rfl (aB rfl (nn ?_)))
 obtain ⟨⟨g_0_1_150,g33_1_151,g33_4_153⟩,hA155,hA63⟩:=bind_some hA63
 obtain ⟨R155,hR155⟩:=exR fun f w_=>∃ v151_g33_1 v153_g33_4 : Value,f 4 = Pt g7∧f 5 = Pt g33∧Star H w_ ([box g_0 88 #[v0_0,I g_0_1_150],oF 3 RP.int v151_g33_1 g33_1_151,own (OR.ownS 23 (OR.ownS 3 (OR.frz RP.int))) [v153_g33_4] g33_4_153,box g33 54 #[I x18.1,v151_g33_1,S0,I 0,v153_g33_4],box g7 54 #[I 0,S0,S0,I 0,S0]])
 refine W_join R155 ?_ ?_
 refine W_cond (b:=(x18.1 == 3)) rfl (fun hc156=>?_) (fun hc156=>?_)
 have hA155:=(ite_t hc156).symm.trans hA155
 refine W_seq ?_
 obtain ⟨x166,hx166,hA155⟩:=bind_some hA155
 refine W_region (mV (Pt g_0) rfl (L_bs rfl (parts6 rfl rfl rfl rfl rfl rfl) (bs_23_6_0_0_0_0_0_0 (I 3) (I 4) (I 2) (I 6) (I 0) (I 8) rfl rfl rfl rfl rfl rfl) Z (fun g168 w169 Z=>?_)))
 have Z:=litInts [3,4,2,6,0,8] 6 Z rfl rfl (by decide)
 have Z:=Z.get 3 rfl
 obtain ⟨H171b,l172,s173,z174,k175⟩:=Z.lend [_]
 have hb176 : (rS 3 RP.int).rel H171b [(Sl g168 6 6)] ([3,4,2,6,0,8]):=fz_own 0 z174 rfl
 refine L_call rfl Tryd.call47 (ops2 rfl rfl) (s_l17Rd_num_c (r_:=({ b:=r_.b,p:=x41.2 } : Rd)) (list:=[3,4,2,6,0,8]) s173 (RP.mono _ h0_0 l172) hb176 hx166) ?_
 rintro _ w177 ⟨rfl,Z⟩
 have Z:=k175 Z (cb c0)
 refine aI rfl (nn ?_)
 obtain ⟨j183,hL183,hA155⟩:=bind_some hA155
 obtain ⟨R183,hR183⟩:=exR fun f w_=>∃ i_179 : Int,∃ g_0_1_180 : Int,∃ g33_4_181 : List (List Int),∃ v181_g33_4 : Value,j183 = .nx (i_179,g_0_1_180,g33_4_181)∧f 4 = Pt g7∧f 5 = Pt g33∧Star H w_ ([box g_0 88 #[v0_0,I g_0_1_180],oF 3 RP.int r50_0 x41.1,own (OR.ownS 23 (OR.ownS 3 (OR.frz RP.int))) [v181_g33_4] g33_4_181,box g33 54 #[I x18.1,r50_0,S0,I 0,v181_g33_4],box g7 54 #[I 0,S0,S0,I 0,S0]])
 refine W_join R183 ?_ ?_
 refine W_block ?_
 obtain ⟨I183,hI183⟩:=exI fun n f w_=>∃ i_179 : Int,∃ g_0_1_180 : Int,∃ g33_4_181 : List (List Int),∃ v181_g33_4 : Value,whileL (s_l6Draw_b2 r_ x41) n (i_179,g_0_1_180,g33_4_181) = some j183∧f 0 = Pt g_0∧f 4 = Pt g7∧f 5 = Pt g33∧f 7 = I i_179∧Star H w_ ([box g_0 88 #[v0_0,I g_0_1_180],oF 3 RP.int r50_0 x41.1,own (OR.ownS 23 (OR.ownS 3 (OR.frz RP.int))) [v181_g33_4] g33_4_181,box g33 54 #[I x18.1,r50_0,S0,I 0,v181_g33_4],box g7 54 #[I 0,S0,S0,I 0,S0]])
 have Z:=Star.addNil (R:=(OR.ownS 3 (OR.frz RP.int))) (e:=23) Z
 have Z:=Z.gets [6,4,2,5,4] rfl
 refine W_loop I183 (n:=fu) ?_ ?_
 exact ij hI183 ⟨x166.1,x166.2,[],S0,hL183,rfl,rfl,rfl,rfl,(Star.keepN 5 Z)⟩
 intro n183 f w_ hI
 obtain ⟨i_179,g_0_1_180,g33_4_181,v181_g33_4,hL183,sf0,sf4,sf5,sf7,Z⟩:=ik hI183 hI
 rcases n183 with _ | n183
 exact (while_zero hL183).elim
 obtain ⟨o183,hB183,hL183⟩:=while_succ hL183
 rw [s_l6Draw_b2] at hB183
 refine W_seq (sq (mF sf7 rfl (L_gtr rfl rfl rfl (nn (W_cond (b:=decide (i_179 > 0)) rfl (fun hc185=>?_) (fun hc185=>?_))))))
 have hB183:=(ite_t hc185).symm.trans hB183
 refine W_skip (W_seq (W_block (sq (L_bs rfl parts0 (bs_23_0  ) Z (fun g189 w190 Z=>?_)))))
 have Z:=Star.mkRow (R:=(OR.frz RP.int)) [] [] 0 Z rfl rfl rfl (by decide)
 refine aV (Sl g189 0 0) rfl (L_nil (W_seq (sq (aI rfl (nn ?_)))))
 have hlen196 : List.length x41.1≤9223372036854775807:=len_le (Star.len 2 Z rfl)
 obtain ⟨j196,hL196,hB183⟩:=bind_some hB183
 obtain ⟨R196,hR196⟩:=exR fun f w_=>∃ row_193 : List Int,∃ g_0_1_195 : Int,∃ v193_row : Value,j196 = .nx (row_193,g_0_1_195)∧f 0 = Pt g_0∧f 4 = Pt g7∧f 5 = Pt g33∧f 7 = I i_179∧f 8 = v193_row∧Star H w_ ([oF 3 RP.int v193_row row_193,box g_0 88 #[v0_0,I g_0_1_195],oF 3 RP.int r50_0 x41.1,own (OR.ownS 23 (OR.ownS 3 (OR.frz RP.int))) [v181_g33_4] g33_4_181,box g33 54 #[I x18.1,r50_0,S0,I 0,v181_g33_4],box g7 54 #[I 0,S0,S0,I 0,S0]])
 refine W_join R196 ?_ ?_
 refine W_block ?_
 obtain ⟨I196,hI196⟩:=exI fun n f w_=>∃ i_192 : Nat,∃ suf196 : List Int,∃ row_193 : List Int,∃ g_0_1_195 : Int,∃ v193_row : Value,n = suf196.length∧List.drop i_192 x41.1 = suf196∧i_192 + suf196.length = x41.1.length∧rangeL (s_l6Draw_b3 r_) suf196 i_192 (row_193,g_0_1_195) = some j196∧f 0 = Pt g_0∧f 4 = Pt g7∧f 5 = Pt g33∧f 7 = I i_179∧f 8 = v193_row∧f 9 = I i_192∧Star H w_ ([oF 3 RP.int v193_row row_193,box g_0 88 #[v0_0,I g_0_1_195],oF 3 RP.int r50_0 x41.1,own (OR.ownS 23 (OR.ownS 3 (OR.frz RP.int))) [v181_g33_4] g33_4_181,box g33 54 #[I x18.1,r50_0,S0,I 0,v181_g33_4],box g7 54 #[I 0,S0,S0,I 0,S0]])
 refine W_loop I196 (n:=x41.1.length) ?_ ?_
 exact ij hI196 ⟨0,x41.1,[],g_0_1_180,(Sl g189 0 0),rfl,rfl,Nat.zero_add _,hL196,sf0,sf4,sf5,sf7,rfl,rfl,Z⟩
 intro n196 f w_ hI
 obtain ⟨i_192,suf196,row_193,g_0_1_195,v193_row,rfl,hd196,hl196,hL196,sf0,sf4,sf5,sf7,sf8,sf9,Z⟩:=ik hI196 hI
 refine W_seq (sq (mF sf9 rfl (fA 1 fa_54_1 sf5 rfl (ldB 4 Z Tryd.isAgg23 rfl rfl rfl (L_len rfl Tryd.underlying23 rfl (Star.len 2 Z rfl) (L_lss rfl rfl rfl (nn (W_cond (b:=decide ((i_192 : Int) < (x41.1.length : Int))) rfl (fun hc197=>?_) (fun hc197=>?_)))))))))
 have hlt196:=of_decide_eq_true hc197
 rcases suf196 with _ | ⟨x_196,rest196⟩
 exact absurd hlt196 (by simp at hl196; omega)
 obtain ⟨o196,hB196,hL196⟩:=range_cons hL196
 rw [s_l6Draw_b3] at hB196
 have hix196:=drop_idx hd196
 refine W_skip (W_seq (W_block ?_))
 obtain ⟨x203,hx203,hB196⟩:=bind_some hB196
 obtain ⟨x208,hx208,hB196⟩:=bind_some hB196
 refine W_region (mF sf8 rfl (mF sf0 rfl ?_))
 have Z:=Z.get 1 rfl
 obtain ⟨H212b,l213,s214,z215,k216⟩:=Z.lend [_]
 refine L_call rfl Tryd.call21 (ops2 rfl rfl) (s_l17Rd_pick_c (r_:=({ b:=r_.b,p:=g_0_1_195 } : Rd)) (n_:=4) s214 (RP.mono _ h0_0 l213) hx203) ?_
 rintro _ w217 ⟨rfl,Z⟩
 have Z:=k216 Z (cb c0)
 refine L_bs rfl (parts1 rfl) (bs_23_1_0 (I x203.1) rfl) Z (fun g218 w219 Z=>?_)
 have Z:=Star.addF (r:=RP.int) (cs:=[I x203.1]) (x:=x203.1) Z rfl
 have Z:=Star.mkRow (R:=(OR.frz RP.int)) [([I x203.1],x203.1)] [x203.1] 1 Z rfl rfl rfl (by decide)
 have Z:=Z.get 2 rfl
 refine L_appM (v:=v193_row) (u:=(Sl g218 1 1)) rfl et_23 rfl rfl Z hx208 (fun v221 w222 Z=>aV v221 rfl (nn (W_region (mF sf9 rfl (L_add rfl rfl rfl (aI rfl (nn ?_)))))))
 obtain rfl:=so hB196
 show ∃ m,m < _∧I196 m _ _
 refine ⟨rest196.length,by simp,?_⟩
 exact ij hI196 ⟨i_192 + 1,rest196,x208,x203.2,v221,rfl,drop_next hd196,by simp at hl196; omega,hL196,sf0,sf4,sf5,sf7,rfl,(Eq.trans rfl (congrArg (Value.int .i64) (i64_succ (n:=x41.1.length) (by simp at hl196; omega) hlen196))),Z⟩
 rcases suf196 with _ | ⟨_,_⟩
 obtain rfl:=range_nil hL196
 refine W_exit (rj hR196 ⟨row_193,g_0_1_195,v193_row,rfl,sf0,sf4,sf5,sf7,sf8,Z⟩)
 exact absurd (of_decide_eq_false hc197) (by simp at hl196; omega)
 intro f w_ hR
 obtain ⟨row_193,g_0_1_195,v193_row,rfl,sf0,sf4,sf5,sf7,sf8,Z⟩:=rk hR196 hR
 obtain ⟨x227,hx227,hB183⟩:=bind_some hB183
 refine W_region (fA 4 fa_54_4 sf5 rfl (ldB 4 Z Tryd.isAgg52 rfl rfl rfl (mF sf8 rfl (L_bs rfl (parts1 rfl) (bs_52_1_0 (v193_row) (one_len (Star.len 0 Z rfl))) Z (fun g232 w233 Z=>?_)))))
 have Z:=Z.get 1 rfl
 have Z:=Star.mkRow (R:=(OR.ownS 3 (OR.frz RP.int))) [([v193_row],row_193)] [row_193] 1 Z rfl rfl rfl (by decide)
 have Z:=Z.get 3 rfl
 refine L_appM (v:=v181_g33_4) (u:=(Sl g232 1 1)) rfl et_52 rfl rfl Z hx227 (fun v235 w236 Z=>fA 4 fa_54_4 sf5 rfl (L_stB (v:=v235) (cs2:=#[I x18.1,r50_0,S0,I 0,v235]) 3 rfl Tryd.sizeOf52 rfl rfl (one_len (Star.len 0 Z rfl)) Z rfl rfl rfl (fun w238 Z=>nn (W_region (mF sf7 rfl (L_sub rfl rfl rfl (aI rfl (nn ?_))))))))
 obtain rfl:=so hB183
 have Z:=Z.gets [4,1,2,4,4] rfl
 show ∃ m,m < _∧I183 m _ _
 refine ⟨n183,Nat.lt_succ_self _,?_⟩
 exact ij hI183 ⟨i64 (i_179 - 1),g_0_1_195,x227,v235,hL183,sf0,sf4,sf5,rfl,Z⟩
 have hB183:=(ite_f hc185).symm.trans hB183
 refine W_exit ?_
 obtain rfl:=so hB183
 obtain rfl:=so hL183
 exact rj hR183 ⟨i_179,g_0_1_180,g33_4_181,v181_g33_4,rfl,sf4,sf5,Z⟩
 intro f w_ hR
 obtain ⟨i_179,g_0_1_180,g33_4_181,v181_g33_4,rfl,sf4,sf5,Z⟩:=rk hR183 hR
 obtain ⟨rfl,rfl,rfl⟩:=so3 hA155
 exact rj hR155 ⟨r50_0,v181_g33_4,sf4,sf5,Z⟩
 have hA155:=(ite_f hc156).symm.trans hA155
 refine sq (L_eql rfl rfl rfl (aB rfl (nn ?_)))
 obtain ⟨⟨g_0_1_239,g33_1_240⟩,hA242,hA155⟩:=bind_some hA155
 obtain ⟨R242,hR242⟩:=exR fun f w_=>∃ v240_g33_1 : Value,f 4 = Pt g7∧f 5 = Pt g33∧Star H w_ ([box g_0 88 #[v0_0,I g_0_1_239],oF 3 RP.int v240_g33_1 g33_1_240,box g33 54 #[I x18.1,v240_g33_1,S0,I 0,S0],box g7 54 #[I 0,S0,S0,I 0,S0]])
 refine W_join R242 ?_ ?_
 refine W_cond (b:=(x18.1 == 4)) rfl (fun hc243=>?_) (fun hc243=>?_)
 have hA242:=(ite_t hc243).symm.trans hA242
 obtain ⟨x249,hx249,hA242⟩:=bind_some hA242
 obtain ⟨x252,hx252,hA242⟩:=bind_some hA242
 refine W_region (mV (Pt g_0) rfl (L_lda (cs:=[v1_0,v1_1]) rfl Tryd.isAgg26 Tryd.sizeOf26 rfl (At.sub0 (Blk.at (Star.blkAt 5 Z rfl)) 0 2) rfl ?_))
 have Z:=Z.get 2 rfl
 obtain ⟨H256b,l257,s258,z259,k260⟩:=Z.lend [_]
 refine L_call rfl Tryd.call81 (ops3 rfl rfl rfl) (s_l6Some_c (r_:=({ b:=r_.b,p:=x41.2 } : Rd)) (m:=m) (least:=2) s258 (RP.mono _ h0_0 l257) (RP.mono _ h1_0 l257) (RP.mono _ h1_1 l257) hx249) ?_
 rintro r261_0 w261 ⟨_,rfl,Z⟩
 have Z:=k260 Z (co closed_int (cb c0))
 refine L_slO (R:=(OR.frz RP.int)) (b:=2) rfl et_23 rfl Z trivial rfl hx252 (fun v263 Z=>fA 1 fa_54_1 rfl rfl (L_stB (v:=v263) (cs2:=#[I x18.1,v263,S0,I 0,S0]) 2 rfl Tryd.sizeOf23 rfl rfl (one_len (Star.len 0 Z rfl)) Z rfl rfl rfl (fun w265 Z=>nn ?_)))
 obtain ⟨rfl,rfl⟩:=so2 hA242
 have Z:=Z.gets [5,1,2,3] rfl
 exact rj hR242 ⟨v263,rfl,rfl,(Star.keepN 4 Z)⟩
 have hA242:=(ite_f hc243).symm.trans hA242
 refine W_skip ?_
 obtain ⟨rfl,rfl⟩:=so2 hA242
 have Z:=Z.gets [4,1,2,3] rfl
 exact rj hR242 ⟨r50_0,rfl,rfl,(Star.keepN 4 Z)⟩
 intro f w_ hR
 obtain ⟨v240_g33_1,sf4,sf5,Z⟩:=rk hR242 hR
 obtain ⟨rfl,rfl,rfl⟩:=so3 hA155
 have Z:=Star.addNil (R:=(OR.ownS 3 (OR.frz RP.int))) (e:=23) Z
 have Z:=Z.gets [4,4,2,4,4] rfl
 exact rj hR155 ⟨v240_g33_1,S0,sf4,sf5,Z⟩
 intro f w_ hR
 obtain ⟨v151_g33_1,v153_g33_4,sf4,sf5,Z⟩:=rk hR155 hR
 obtain ⟨rfl,rfl,rfl,rfl,rfl⟩:=so5 hA63
 have Z:=Star.addNil (R:=(OR.frz RP.int)) (e:=3) Z
 have Z:=Z.gets [5,5,5,3,5,5] rfl
 exact rj hR63 ⟨H,v151_g33_1,S0,v153_g33_4,(Le.refl _),sf4,sf5,Z⟩
 intro f w_ hR
 obtain ⟨H61,v54_g33_1,v56_g33_2,v59_g33_4,l62,sf4,sf5,Z⟩:=rk hR63 hR
 refine sq (L_lda (cs:=[I x18.1,v54_g33_1,v56_g33_2,I g33_3_58,v59_g33_4]) rfl Tryd.isAgg54 Tryd.sizeOf54 sf5 (At.sub0 (Blk.at (Star.blkAt 4 Z rfl)) 0 5) rfl (L_staB (vs:=#[I x18.1,v54_g33_1,v56_g33_2,I g33_3_58,v59_g33_4]) (cs2:=#[I x18.1,v54_g33_1,v56_g33_2,I g33_3_58,v59_g33_4]) 5 rfl Tryd.sizeOf54 sf4 rfl rfl (ones_cons rfl (ones_cons (one_len (Star.len 1 Z rfl)) (ones_cons (one_len (Star.len 2 Z rfl)) (ones_cons rfl (ones_cons (one_len (Star.len 3 Z rfl)) ones_nil))))) Z rfl (by show 0 + 5≤5; decide) rfl (fun w269 Z=>nn (W_ret (retG1 (v1:=.agg #[I x18.1,v54_g33_1,v56_g33_2,I g33_3_58,v59_g33_4]) Tryd.results48 (resV_agg Tryd.isAgg54 Tryd.sizeOf54 sf4 (Star.blkAt 0 Z rfl) rfl) ?_)))))
 obtain rfl:=so hF
 have Z:=Z.gets [1,4,4,4] rfl
 exact ⟨v54_g33_1,v56_g33_2,v59_g33_4,rfl,(Star.down (Star.keepN 4 Z) l62 (co closed_int (co closed_int (cc (closed_own (OR.closed_ownS (OR.closed_ownS closed_int)) _ _) (cb c0)))))⟩
theorem s_l6Model_c {fu : Nat} {r_ : Rd} {g_0 : Nat} {v0_0 : Value} {H : FH} {w : World} {R : List Ass} (Z : Star H w (box g_0 88 #[v0_0,I r_.p] :: R)) (h0_0 : (rS 5 RP.u8).rel H [v0_0] r_.b) {r : Model × Int} (hF : s_l6Model fu r_ = some r) :
 C Tryd.prog 20 #[Pt g_0] w fun v w'=>∃ H' : FH,Le H H'∧∃ (u1 : Value) (u2 : Value),v = .agg #[u1,u2]∧(rS 3 RP.int).rel H' [u1] r.1.sizes∧Star H' w' (oS 54 (oRule 3 23) u2 r.1.rules :: box g_0 88 #[v0_0,I r.2] :: R):=by
 unfold s_l6Model at hF
 refine C_enter Tryd.func20 rfl Tryd.ntmps20 rfl (sq (L_al (cs:=#[S0,S0]) rfl Tryd.zeroValue26 rfl Z (fun g3 w4 Z=>ns (L_bld rfl (parts0 ) (bld_26_  ) (L_al (cs:=#[S0,S0]) rfl Tryd.zeroValue26 rfl Z (fun g8 w9 Z=>L_staB (vs:=#[S0,S0]) (cs2:=#[S0,S0]) 0 rfl Tryd.sizeOf26 rfl rfl rfl (ones_cons rfl (ones_cons rfl ones_nil)) Z rfl (by show 0 + 2≤2; decide) rfl (fun w10 Z=>nq (W_seq ?_))))))))
 obtain ⟨x20,hx20,hF⟩:=bind_some hF
 refine W_region (mV (Pt g_0) rfl (L_bs rfl (parts4 rfl rfl rfl rfl) (bs_23_4_0_0_0_0 (I 3) (I 2) (I 4) (I 3) rfl rfl rfl rfl) Z (fun g22 w23 Z=>?_)))
 have Z:=litInts [3,2,4,3] 4 Z rfl rfl (by decide)
 have Z:=Z.get 3 rfl
 obtain ⟨H25b,l26,s27,z28,k29⟩:=Z.lend [_]
 have hb30 : (rS 3 RP.int).rel H25b [(Sl g22 4 4)] ([3,2,4,3]):=fz_own 0 z28 rfl
 refine L_call rfl Tryd.call47 (ops2 rfl rfl) (s_l17Rd_num_c (r_:=r_) (list:=[3,2,4,3]) s27 (RP.mono _ h0_0 l26) hb30 hx20) ?_
 rintro _ w31 ⟨rfl,Z⟩
 have Z:=k29 Z (cb c0)
 refine aI rfl (nn ?_)
 obtain ⟨j39,hL39,hF⟩:=bind_some hF
 obtain ⟨R39,hR39⟩:=exR fun f w_=>∃ i_33 : Int,∃ g_0_1_34 : Int,∃ g8_0_35 : List Int,∃ H37 : FH,∃ v35_g8_0 : Value,j39 = .nx (i_33,g_0_1_34,g8_0_35)∧Le H H37∧f 0 = Pt g_0∧f 2 = Pt g3∧f 3 = Pt g8∧Star H37 w_ (box g_0 88 #[v0_0,I g_0_1_34] :: oF 3 RP.int v35_g8_0 g8_0_35 :: box g8 26 #[v35_g8_0,S0] :: box g3 26 #[S0,S0] :: R)
 refine W_join R39 ?_ ?_
 refine W_block ?_
 obtain ⟨I39,hI39⟩:=exI fun n f w_=>∃ i_33 : Int,∃ g_0_1_34 : Int,∃ g8_0_35 : List Int,∃ H37 : FH,∃ v35_g8_0 : Value,whileL (s_l6Model_b1 r_) n (i_33,g_0_1_34,g8_0_35) = some j39∧Le H H37∧f 0 = Pt g_0∧f 2 = Pt g3∧f 3 = Pt g8∧f 4 = I i_33∧Star H37 w_ (box g_0 88 #[v0_0,I g_0_1_34] :: oF 3 RP.int v35_g8_0 g8_0_35 :: box g8 26 #[v35_g8_0,S0] :: box g3 26 #[S0,S0] :: R)
 have Z:=Star.addNil (R:=(OR.frz RP.int)) (e:=3) Z
 have Z:=Z.gets [4,4,2,3] rfl
 have Z:=Star.drop 4 Z rfl
 refine W_loop I39 (n:=fu) ?_ ?_
 exact ij hI39 ⟨x20.1,x20.2,[],H,S0,hL39,(Le.refl _),rfl,rfl,rfl,rfl,Z⟩
 intro n39 f w_ hI
 obtain ⟨i_33,g_0_1_34,g8_0_35,H37,v35_g8_0,hL39,l38,sf0,sf2,sf3,sf4,Z⟩:=ik hI39 hI
 rcases n39 with _ | n39
 exact (while_zero hL39).elim
 obtain ⟨o39,hB39,hL39⟩:=while_succ hL39
 rw [s_l6Model_b1] at hB39
 refine W_seq (sq (mF sf4 rfl (L_gtr rfl rfl rfl (nn (W_cond (b:=decide (i_33 > 0)) rfl (fun hc41=>?_) (fun hc41=>?_))))))
 have hB39:=(ite_t hc41).symm.trans hB39
 refine W_skip (W_seq (W_block ?_))
 obtain ⟨x51,hx51,hB39⟩:=bind_some hB39
 obtain ⟨x56,hx56,hB39⟩:=bind_some hB39
 have Z:=Z.gets [3,3,3] rfl
 refine W_drawS 6 [isV (Pt g8),isV (v35_g8_0),isV (Pt g_0),anyF,isV (I x51.1),anyF] [oF 3 RP.int v35_g8_0 g8_0_35,box g8 26 #[v35_g8_0,S0],box g3 26 #[S0,S0]] [.base (box g_0 88 #[v0_0,I g_0_1_34]) (some 4),.made 3 19 (fun v_=>oF 3 RP.int v_ ([2,1,3,2,0])) none,.made 4 20 (fun v_=>box g_0 88 #[v0_0,I x51.2]) none,.made 5 21 (fun v_=>oF 3 RP.int v_ ([x51.1])) none] (R) [([],[]),([],[]),([],[]),([],[1]),([0,1],[1,2]),([],[3])] (S:=[(none,[],some 4),(some 3,[19],none),(some 4,[20],none),(some 5,[21],none)]) Tryd_mix (by kernel_rfl) rfl (by kernel_rfl) (amF_cons (mono_V _) (amF_cons (mono_V _) (amF_cons (mono_V _) (amF_cons (mono_any) (amF_cons (mono_V _) (amF_cons (mono_any) amF_nil)))))) Z ?_ (fun f w_ H61 hS61 hE61 hT61 Z=>?_)
 refine opsS_cons (fun f w_ _ _ s _ _ Z=>fA 0 fa_26_0 ((s 3 rfl).trans sf3) rfl (nO rfl rfl Z)) (opsS_cons (fun f w_ _ _ _ _ p Z=>ldB 1 Z Tryd.isAgg23 (p 0 16 rfl rfl) rfl rfl (nO rfl rfl Z)) (opsS_cons (fun f w_ _ _ s _ _ Z=>mF ((s 0 rfl).trans sf0) rfl (nO rfl rfl Z)) (opsS_cons ?_ ?_)))
 intro f w_ H61 X61 hS61 hE61 hP61 Z
 refine L_bs rfl (parts5 rfl rfl rfl rfl rfl) (bs_23_5_0_0_0_0_0 (I 2) (I 1) (I 3) (I 2) (I 0) rfl rfl rfl rfl rfl) Z (fun g75 w76 Z=>?_)
 have Z:=litInts [2,1,3,2,0] 5 Z rfl rfl (by decide)
 have Z:=Z.gets [3,3,3] rfl
 exact L_nil ⟨rfl,_,_,rfl,Le.refl _,fun _ _=>trivial,Z⟩
 refine opsS_cons ?_ ?_
 intro f w_ H61 X61 hS61 hE61 hP61 Z
 have Z : Star H61 w_ (oF 3 RP.int v35_g8_0 g8_0_35 :: box g8 26 #[v35_g8_0,S0] :: box g3 26 #[S0,S0] :: box g_0 88 #[v0_0,I g_0_1_34] :: oF 3 RP.int (f 19) ([2,1,3,2,0]) :: X61):=Z
 have Z:=Z.get 3 rfl
 obtain ⟨H79b,l80,s81,z82,k83⟩:=Z.lend [_]
 have hb84 : (rS 3 RP.int).rel H79b [(f 19)] ([2,1,3,2,0]):=fz_own 3 z82 rfl
 refine L_call rfl Tryd.call47 (ops2 (hP61 2 18 rfl rfl) rfl) (s_l17Rd_num_c (r_:=({ b:=r_.b,p:=g_0_1_34 } : Rd)) (list:=[2,1,3,2,0]) s81 (RP.mono _ h0_0 (Le.trans (Le.trans l38 hE61) l80)) hb84 hx51) ?_
 rintro _ w85 ⟨rfl,Z⟩
 have Z:=k83 Z (cb c0)
 have Z:=Z.gets [4,4,4,4] rfl
 exact L_nil ⟨rfl,_,_,rfl,Le.refl _,fun _ _=>rfl,Z⟩
 refine opsS_cons ?_ ?_
 intro f w_ H61 X61 hS61 hE61 hP61 Z
 refine L_bs rfl (parts1 (hP61 4 20 rfl rfl)) (bs_23_1_0 (I x51.1) rfl) Z (fun g86 w87 Z=>?_)
 have Z:=Star.addF (r:=RP.int) (cs:=[I x51.1]) (x:=x51.1) Z rfl
 have Z:=Star.mkRow (R:=(OR.frz RP.int)) [([I x51.1],x51.1)] [x51.1] 1 Z rfl rfl rfl (by decide)
 have Z:=Z.gets [3,3,3] rfl
 exact L_nil ⟨rfl,_,_,rfl,Le.refl _,fun _ _=>trivial,Z⟩
 exact opsS_nil
 have Z : Star H61 w_ (oF 3 RP.int v35_g8_0 g8_0_35 :: box g8 26 #[v35_g8_0,S0] :: box g3 26 #[S0,S0] :: oF 3 RP.int (f 19) ([2,1,3,2,0]) :: box g_0 88 #[v0_0,I x51.2] :: oF 3 RP.int (f 21) ([x51.1]) :: R):=Z
 have Z:=Z.gets [5,1] rfl
 refine L_appM (v:=v35_g8_0) (u:=(f 21)) rfl et_23 (hT61 1 17 rfl rfl) rfl Z hx56 (fun v90 w91 Z=>fA 0 fa_26_0 ((hS61 3 rfl).trans sf3) rfl (L_stB (v:=v90) (cs2:=#[v90,S0]) 1 rfl Tryd.sizeOf23 rfl rfl (one_len (Star.len 0 Z rfl)) Z rfl rfl rfl (fun w93 Z=>nn (W_region (mF ((hS61 4 rfl).trans sf4) rfl (L_sub rfl rfl rfl (aI rfl (nn ?_))))))))
 obtain rfl:=so hB39
 have Z:=Z.gets [2,1,2,4] rfl
 have Z:=Star.drop 4 Z rfl
 show ∃ m,m < _∧I39 m _ _
 refine ⟨n39,Nat.lt_succ_self _,?_⟩
 exact ij hI39 ⟨i64 (i_33 - 1),x51.2,x56,H61,v90,hL39,(Le.trans l38 hE61),((hS61 0 rfl).trans sf0),((hS61 2 rfl).trans sf2),((hS61 3 rfl).trans sf3),rfl,Z⟩
 have hB39:=(ite_f hc41).symm.trans hB39
 refine W_exit ?_
 obtain rfl:=so hB39
 obtain rfl:=so hL39
 exact rj hR39 ⟨i_33,g_0_1_34,g8_0_35,H37,v35_g8_0,rfl,l38,sf0,sf2,sf3,Z⟩
 intro f w_ hR
 obtain ⟨i_33,g_0_1_34,g8_0_35,H37,v35_g8_0,rfl,l38,sf0,sf2,sf3,Z⟩:=rk hR39 hR
 refine W_seq (sq (aI rfl (nn ?_)))
 obtain ⟨j100,hL100,hF⟩:=bind_some hF
 obtain ⟨R100,hR100⟩:=exR fun f w_=>∃ n_95 : Int,∃ g8_0_96 : List Int,∃ H98 : FH,∃ v96_g8_0 : Value,j100 = .nx (n_95,g8_0_96)∧Le H37 H98∧f 0 = Pt g_0∧f 2 = Pt g3∧f 3 = Pt g8∧(rS 3 RP.int).rel H98 [v96_g8_0] g8_0_96∧Star H98 w_ (box g_0 88 #[v0_0,I g_0_1_34] :: box g8 26 #[v96_g8_0,S0] :: box g3 26 #[S0,S0] :: R)
 refine W_join R100 ?_ ?_
 refine W_block ?_
 obtain ⟨I100,hI100⟩:=exI fun n f w_=>∃ n_95 : Int,∃ g8_0_96 : List Int,∃ H98 : FH,∃ v96_g8_0 : Value,whileL s_l6Model_b2 n (n_95,g8_0_96) = some j100∧Le H37 H98∧f 0 = Pt g_0∧f 2 = Pt g3∧f 3 = Pt g8∧f 5 = I n_95∧(rS 3 RP.int).rel H98 [v96_g8_0] g8_0_96∧Star H98 w_ (box g_0 88 #[v0_0,I g_0_1_34] :: box g8 26 #[v96_g8_0,S0] :: box g3 26 #[S0,S0] :: R)
 have Z:=Z.get 1 rfl
 obtain ⟨H101,l102,Z,hz103⟩:=Star.freeze Z
 have hz103 : (rS 3 RP.int).rel H101 [v35_g8_0] g8_0_35:=hz103
 refine W_loop I100 (n:=fu) ?_ ?_
 exact ij hI100 ⟨0,g8_0_35,H101,v35_g8_0,hL100,l102,sf0,sf2,sf3,rfl,hz103,Z⟩
 intro n100 f w_ hI
 obtain ⟨n_95,g8_0_96,H98,v96_g8_0,hL100,l99,sf0,sf2,sf3,sf5,hv97_g8_0,Z⟩:=ik hI100 hI
 rcases n100 with _ | n100
 exact (while_zero hL100).elim
 obtain ⟨o100,hB100,hL100⟩:=while_succ hL100
 rw [s_l6Model_b2] at hB100
 refine W_seq (sq (mF sf5 rfl (L_eql rfl rfl rfl (nn (W_cond (b:=(n_95 == 0)) rfl (fun hc104=>?_) (fun hc104=>?_))))))
 have hB100:=(ite_t hc104).symm.trans hB100
 refine W_skip (W_block (W_seq (sq (aI rfl (nn ?_)))))
 have hlen107 : List.length g8_0_96≤9223372036854775807:=len_le (slice_len hv97_g8_0)
 obtain ⟨j107,hL107,hB100⟩:=bind_some hB100
 obtain ⟨R107,hR107⟩:=exR fun f w_=>∃ n_106 : Int,j107 = .nx n_106∧f 0 = Pt g_0∧f 2 = Pt g3∧f 3 = Pt g8∧f 5 = I n_106∧Star H98 w_ (box g_0 88 #[v0_0,I g_0_1_34] :: box g8 26 #[v96_g8_0,S0] :: box g3 26 #[S0,S0] :: R)
 refine W_join R107 ?_ ?_
 refine W_block ?_
 obtain ⟨I107,hI107⟩:=exI fun n f w_=>∃ i_105 : Nat,∃ suf107 : List Int,∃ n_106 : Int,n = suf107.length∧List.drop i_105 g8_0_96 = suf107∧i_105 + suf107.length = g8_0_96.length∧rangeL s_l6Model_b3 suf107 i_105 n_106 = some j107∧f 0 = Pt g_0∧f 2 = Pt g3∧f 3 = Pt g8∧f 5 = I n_106∧f 6 = I i_105∧Star H98 w_ (box g_0 88 #[v0_0,I g_0_1_34] :: box g8 26 #[v96_g8_0,S0] :: box g3 26 #[S0,S0] :: R)
 refine W_loop I107 (n:=g8_0_96.length) ?_ ?_
 exact ij hI107 ⟨0,g8_0_96,n_95,rfl,rfl,Nat.zero_add _,hL107,sf0,sf2,sf3,sf5,rfl,Z⟩
 intro n107 f w_ hI
 obtain ⟨i_105,suf107,n_106,rfl,hd107,hl107,hL107,sf0,sf2,sf3,sf5,sf6,Z⟩:=ik hI107 hI
 refine W_seq (sq (mF sf6 rfl (fA 0 fa_26_0 sf3 rfl (ldB 1 Z Tryd.isAgg23 rfl rfl rfl (L_len rfl Tryd.underlying23 rfl (slice_len hv97_g8_0) (L_lss rfl rfl rfl (nn (W_cond (b:=decide ((i_105 : Int) < (g8_0_96.length : Int))) rfl (fun hc108=>?_) (fun hc108=>?_)))))))))
 have hlt107:=of_decide_eq_true hc108
 rcases suf107 with _ | ⟨x_107,rest107⟩
 exact absurd hlt107 (by simp at hl107; omega)
 obtain ⟨o107,hB107,hL107⟩:=range_cons hL107
 rw [s_l6Model_b3] at hB107
 have hix107:=drop_idx hd107
 refine W_skip (W_seq (W_block (W_region (mF sf5 rfl (fA 0 fa_26_0 sf3 rfl (ldB 1 Z Tryd.isAgg23 rfl rfl rfl (mF sf6 rfl (L_ix (r:=RP.int) rfl Tryd.underlying23 Tryd.sizeOf3 rfl hv97_g8_0 rfl hix107 (fun g113 o114 cs_g113 hrk_hat115 hat115=>?_)))))))))
 obtain rfl : _ = [_]:=hrk_hat115
 refine L_ld rfl Tryd.isAgg3 rfl (At.cell (AtH.at hat115 Z.sub) (j:=0) rfl) (L_add rfl rfl rfl (L_add rfl rfl rfl (aI rfl (nn (W_region (mF sf6 rfl (L_add rfl rfl rfl (aI rfl (nn ?_)))))))))
 obtain rfl:=so hB107
 show ∃ m,m < _∧I107 m _ _
 refine ⟨rest107.length,by simp,?_⟩
 exact ij hI107 ⟨i_105 + 1,rest107,i64 ((i64 (n_106 + x_107)) + 1),rfl,drop_next hd107,by simp at hl107; omega,hL107,sf0,sf2,sf3,rfl,(Eq.trans rfl (congrArg (Value.int .i64) (i64_succ (n:=g8_0_96.length) (by simp at hl107; omega) hlen107))),Z⟩
 rcases suf107 with _ | ⟨_,_⟩
 obtain rfl:=range_nil hL107
 refine W_exit (rj hR107 ⟨n_106,rfl,sf0,sf2,sf3,sf5,Z⟩)
 exact absurd (of_decide_eq_false hc108) (by simp at hl107; omega)
 intro f w_ hR
 obtain ⟨n_106,rfl,sf0,sf2,sf3,sf5,Z⟩:=rk hR107 hR
 refine sq (mF sf5 rfl (L_gtr rfl rfl rfl (nn ?_)))
 obtain ⟨⟨n_117,g8_0_118⟩,hA120,hB100⟩:=bind_some hB100
 obtain ⟨R120,hR120⟩:=exR fun f w_=>∃ v118_g8_0 : Value,f 0 = Pt g_0∧f 2 = Pt g3∧f 3 = Pt g8∧f 5 = I n_117∧(rS 3 RP.int).rel H98 [v118_g8_0] g8_0_118∧Star H98 w_ (box g_0 88 #[v0_0,I g_0_1_34] :: box g8 26 #[v118_g8_0,S0] :: box g3 26 #[S0,S0] :: R)
 refine W_join R120 ?_ ?_
 refine W_cond (b:=decide (n_106 > 12)) rfl (fun hc121=>?_) (fun hc121=>?_)
 have hA120:=(ite_t hc121).symm.trans hA120
 refine W_seq ?_
 obtain ⟨x122,hx122,hA120⟩:=bind_some hA120
 refine W_region (fA 0 fa_26_0 sf3 rfl (ldB 1 Z Tryd.isAgg23 rfl rfl rfl (fA 0 fa_26_0 sf3 rfl (ldB 1 Z Tryd.isAgg23 rfl rfl rfl (L_len rfl Tryd.underlying23 rfl (slice_len hv97_g8_0) (L_sub rfl rfl rfl (L_sl (a:=0) (b:=i64 ((g8_0_96.length : Int) - 1)) rfl et_23 rfl hv97_g8_0 rfl rfl hx122 (fun v126 hs127=>fA 0 fa_26_0 sf3 rfl (L_stB (v:=v126) (cs2:=#[v126,S0]) 1 rfl Tryd.sizeOf23 rfl rfl (one_len (slice_len hs127)) Z rfl rfl rfl (fun w128 Z=>nn (W_region (aI rfl (nn ?_)))))))))))))
 obtain ⟨rfl,rfl⟩:=so2 hA120
 have Z:=Z.gets [2,1,2] rfl
 exact rj hR120 ⟨v126,sf0,sf2,sf3,rfl,hs127,Z⟩
 have hA120:=(ite_f hc121).symm.trans hA120
 refine W_skip ?_
 obtain ⟨rfl,rfl⟩:=so2 hA120
 exact rj hR120 ⟨v96_g8_0,sf0,sf2,sf3,sf5,hv97_g8_0,Z⟩
 intro f w_ hR
 obtain ⟨v118_g8_0,sf0,sf2,sf3,sf5,hv119_g8_0,Z⟩:=rk hR120 hR
 obtain rfl:=so hB100
 show ∃ m,m < _∧I100 m _ _
 refine ⟨n100,Nat.lt_succ_self _,?_⟩
 exact ij hI100 ⟨n_117,g8_0_118,H98,v118_g8_0,hL100,l99,sf0,sf2,sf3,sf5,hv119_g8_0,Z⟩
 have hB100:=(ite_f hc104).symm.trans hB100
 refine W_exit ?_
 obtain rfl:=so hB100
 obtain rfl:=so hL100
 exact rj hR100 ⟨n_95,g8_0_96,H98,v96_g8_0,rfl,l99,sf0,sf2,sf3,hv97_g8_0,Z⟩
 intro f w_ hR
 obtain ⟨n_95,g8_0_96,H98,v96_g8_0,rfl,l99,sf0,sf2,sf3,hv97_g8_0,Z⟩:=rk hR100 hR
 refine W_seq (W_seq ?_)
 obtain ⟨x138,hx138,hF⟩:=bind_some hF
 refine W_region (mF sf0 rfl (L_bs rfl (parts5 rfl rfl rfl rfl rfl) (bs_23_5_0_0_0_0_0 (I 2) (I 3) (I 1) (I 4) (I 0) rfl rfl rfl rfl rfl) Z (fun g140 w141 Z=>?_)))
 have Z:=litInts [2,3,1,4,0] 5 Z rfl rfl (by decide)
 have Z:=Z.get 1 rfl
 obtain ⟨H143b,l144,s145,z146,k147⟩:=Z.lend [_]
 have hb148 : (rS 3 RP.int).rel H143b [(Sl g140 5 5)] ([2,3,1,4,0]):=fz_own 0 z146 rfl
 refine L_call rfl Tryd.call47 (ops2 rfl rfl) (s_l17Rd_num_c (r_:=({ b:=r_.b,p:=g_0_1_34 } : Rd)) (list:=[2,3,1,4,0]) s145 (RP.mono _ h0_0 (Le.trans (Le.trans l38 l99) l144)) hb148 hx138) ?_
 rintro _ w149 ⟨rfl,Z⟩
 have Z:=k147 Z (cb c0)
 refine aI rfl (nn ?_)
 obtain ⟨j157,hL157,hF⟩:=bind_some hF
 obtain ⟨R157,hR157⟩:=exR fun f w_=>∃ i_151 : Int,∃ g_0_1_152 : Int,∃ g8_1_153 : List Rule,∃ H155 : FH,∃ v153_g8_1 : Value,j157 = .nx (i_151,g_0_1_152,g8_1_153)∧Le H98 H155∧f 2 = Pt g3∧f 3 = Pt g8∧Star H155 w_ (box g_0 88 #[v0_0,I g_0_1_152] :: oS 54 (oRule 3 23) v153_g8_1 g8_1_153 :: box g8 26 #[v96_g8_0,v153_g8_1] :: box g3 26 #[S0,S0] :: R)
 refine W_join R157 ?_ ?_
 refine W_block ?_
 obtain ⟨I157,hI157⟩:=exI fun n f w_=>∃ i_151 : Int,∃ g_0_1_152 : Int,∃ g8_1_153 : List Rule,∃ H155 : FH,∃ v153_g8_1 : Value,whileL (s_l6Model_b4 fu r_ g8_0_96) n (i_151,g_0_1_152,g8_1_153) = some j157∧Le H98 H155∧f 0 = Pt g_0∧f 2 = Pt g3∧f 3 = Pt g8∧f 7 = I i_151∧Star H155 w_ (box g_0 88 #[v0_0,I g_0_1_152] :: oS 54 (oRule 3 23) v153_g8_1 g8_1_153 :: box g8 26 #[v96_g8_0,v153_g8_1] :: box g3 26 #[S0,S0] :: R)
 have Z:=Star.addNil (R:=(oRule 3 23)) (e:=54) Z
 have Z:=Z.gets [4,4,2,3] rfl
 have Z:=Star.drop 4 Z rfl
 refine W_loop I157 (n:=fu) ?_ ?_
 exact ij hI157 ⟨x138.1,x138.2,[],H98,S0,hL157,(Le.refl _),sf0,sf2,sf3,rfl,Z⟩
 intro n157 f w_ hI
 obtain ⟨i_151,g_0_1_152,g8_1_153,H155,v153_g8_1,hL157,l156,sf0,sf2,sf3,sf7,Z⟩:=ik hI157 hI
 rcases n157 with _ | n157
 exact (while_zero hL157).elim
 obtain ⟨o157,hB157,hL157⟩:=while_succ hL157
 rw [s_l6Model_b4] at hB157
 refine W_seq (sq (mF sf7 rfl (L_gtr rfl rfl rfl (nn (W_cond (b:=decide (i_151 > 0)) rfl (fun hc159=>?_) (fun hc159=>?_))))))
 have hB157:=(ite_t hc159).symm.trans hB157
 refine W_skip (W_seq (W_block ?_))
 obtain ⟨x166,hx166,hB157⟩:=bind_some hB157
 obtain ⟨x174,hx174,hB157⟩:=bind_some hB157
 have Z:=Z.gets [3,3,3] rfl
 refine W_drawS 6 [isV (Pq g8 1),isV (v153_g8_1),isV (Pt g_0),isV (.agg #[v96_g8_0,v153_g8_1]),exA fun u_1=>exA fun u_2=>exA fun u_4=>isV (.agg #[I x166.1.kind,u_1,u_2,I x166.1.bound,u_4]),anyF] [oS 54 (oRule 3 23) v153_g8_1 g8_1_153,box g8 26 #[v96_g8_0,v153_g8_1],box g3 26 #[S0,S0]] [.base (box g_0 88 #[v0_0,I g_0_1_152]) (some 4),.made 4 62 (fun v_=>oF 3 RP.int (aggC v_ 1) x166.1.vars) (some 5),.made 4 62 (fun v_=>oF 3 RP.int (aggC v_ 2) x166.1.coefs) (some 5),.made 4 62 (fun v_=>own (OR.ownS 23 (OR.ownS 3 (OR.frz RP.int))) [(aggC v_ 4)] x166.1.rows) (some 5),.made 4 62 (fun v_=>box g_0 88 #[v0_0,I x166.2]) none,.made 5 63 (fun v_=>oS 54 (oRule 3 23) v_ ([x166.1])) none] (R) [([],[]),([],[]),([],[]),([],[]),([0],[1,2,3,4]),([1,2,3],[5])] (S:=[(none,[],some 4),(some 4,[62],some 5),(some 4,[62],some 5),(some 4,[62],some 5),(some 4,[62],none),(some 5,[63],none)]) Tryd_mix (by kernel_rfl) rfl (by kernel_rfl) (amF_cons (mono_V _) (amF_cons (mono_V _) (amF_cons (mono_V _) (amF_cons (mono_V _) (amF_cons (mono_exA fun _=>mono_exA fun _=>mono_exA fun _=>mono_V _) (amF_cons (mono_any) amF_nil)))))) Z ?_ (fun f w_ H179 hS179 hE179 hT179 Z=>?_)
 refine opsS_cons (fun f w_ _ _ s _ _ Z=>fA 1 fa_26_1 ((s 3 rfl).trans sf3) rfl (nO rfl rfl Z)) (opsS_cons (fun f w_ _ _ _ _ p Z=>ldB 1 Z Tryd.isAgg24 (p 0 58 rfl rfl) rfl rfl (nO rfl rfl Z)) (opsS_cons (fun f w_ _ _ s _ _ Z=>mF ((s 0 rfl).trans sf0) rfl (nO rfl rfl Z)) (opsS_cons (fun f w_ _ _ s _ _ Z=>L_lda (cs:=[v96_g8_0,v153_g8_1]) rfl Tryd.isAgg26 Tryd.sizeOf26 ((s 3 rfl).trans sf3) (At.sub0 (Blk.at (Star.blkAt 1 Z rfl)) 0 2) rfl (nO rfl rfl Z)) (opsS_cons ?_ ?_))))
 intro f w_ H179 X179 hS179 hE179 hP179 Z
 have Z : Star H179 w_ (oS 54 (oRule 3 23) v153_g8_1 g8_1_153 :: box g8 26 #[v96_g8_0,v153_g8_1] :: box g3 26 #[S0,S0] :: box g_0 88 #[v0_0,I g_0_1_152] :: X179):=Z
 have Z:=Z.get 3 rfl
 obtain ⟨H193b,l194,s195,z196,k197⟩:=Z.lend [_]
 have hb198 : (rS 54 (rRule 3 23)).rel H193b [v153_g8_1] g8_1_153:=fz_own 0 z196 rfl
 refine L_call rfl Tryd.call48 (ops2 (hP179 2 60 rfl rfl) (hP179 3 61 rfl rfl)) (s_l6Draw_c (r_:=({ b:=r_.b,p:=g_0_1_152 } : Rd)) (m:=({ sizes:=g8_0_96,rules:=g8_1_153 } : Model)) s195 (RP.mono _ h0_0 (Le.trans (Le.trans (Le.trans (Le.trans l38 l99) l156) hE179) l194)) (RP.mono _ hv97_g8_0 (Le.trans (Le.trans l156 hE179) l194)) hb198 hx166) ?_
 rintro _ w199 ⟨r199_0,r199_1,r199_2,rfl,Z⟩
 have Z:=k197 Z (co closed_int (co closed_int (cc (closed_own (OR.closed_ownS (OR.closed_ownS closed_int)) _ _) (cb c0))))
 have Z:=Z.gets [3,3,3,3,6,6,6] rfl
 exact L_nil ⟨rfl,_,_,rfl,Le.refl _,fun _ _=>⟨_,_,_,rfl⟩,Z⟩
 refine opsS_cons ?_ ?_
 intro f w_ H179 X179 hS179 hE179 hP179 Z
 have Z : Star H179 w_ (oS 54 (oRule 3 23) v153_g8_1 g8_1_153 :: box g8 26 #[v96_g8_0,v153_g8_1] :: box g3 26 #[S0,S0] :: own (OR.ownS 3 (OR.frz RP.int)) [(aggC (f 62) 1)] x166.1.vars :: own (OR.ownS 3 (OR.frz RP.int)) [(aggC (f 62) 2)] x166.1.coefs :: own (OR.ownS 23 (OR.ownS 3 (OR.frz RP.int))) [(aggC (f 62) 4)] x166.1.rows :: X179):=Z
 obtain ⟨u203_1,u203_2,u203_4,hv203⟩:=(hP179 4 62 rfl rfl)
 have hren : Star H179 w_ (oS 54 (oRule 3 23) v153_g8_1 g8_1_153 :: box g8 26 #[v96_g8_0,v153_g8_1] :: box g3 26 #[S0,S0] :: own (OR.ownS 3 (OR.frz RP.int)) [(aggC (f 62) 1)] x166.1.vars :: own (OR.ownS 3 (OR.frz RP.int)) [(aggC (f 62) 2)] x166.1.coefs :: own (OR.ownS 23 (OR.ownS 3 (OR.frz RP.int))) [(aggC (f 62) 4)] x166.1.rows :: X179):=Z
 rw [hv203] at hren
 have Z : Star H179 w_ (oS 54 (oRule 3 23) v153_g8_1 g8_1_153 :: box g8 26 #[v96_g8_0,v153_g8_1] :: box g3 26 #[S0,S0] :: oF 3 RP.int u203_1 x166.1.vars :: oF 3 RP.int u203_2 x166.1.coefs :: own (OR.ownS 23 (OR.ownS 3 (OR.frz RP.int))) [u203_4] x166.1.rows :: X179):=hren
 refine L_bs rfl (parts1 hv203) (bs_24_1_5 (I x166.1.kind) (u203_1) (u203_2) (I x166.1.bound) (u203_4) ) Z (fun g204 w205 Z=>?_)
 have Z:=Z.gets [6,6,6] rfl
 have Z:=oRule_close (r:=x166.1) Z
 have Z:=Star.mkRow (R:=(oRule 3 23)) [([I x166.1.kind,u203_1,u203_2,I x166.1.bound,u203_4],x166.1)] [x166.1] 1 Z rfl rfl rfl (by decide)
 have Z:=Z.gets [3,3,3] rfl
 exact L_nil ⟨rfl,_,_,rfl,Le.refl _,fun _ _=>trivial,Z⟩
 exact opsS_nil
 have Z : Star H179 w_ (oS 54 (oRule 3 23) v153_g8_1 g8_1_153 :: box g8 26 #[v96_g8_0,v153_g8_1] :: box g3 26 #[S0,S0] :: box g_0 88 #[v0_0,I x166.2] :: oS 54 (oRule 3 23) (f 63) ([x166.1]) :: R):=Z
 have Z:=Z.gets [4,1] rfl
 refine L_appM (v:=v153_g8_1) (u:=(f 63)) rfl et_24 (hT179 1 59 rfl rfl) rfl Z hx174 (fun v208 w209 Z=>fA 1 fa_26_1 ((hS179 3 rfl).trans sf3) rfl (L_stB (v:=v208) (cs2:=#[v96_g8_0,v208]) 1 rfl Tryd.sizeOf24 rfl rfl (one_len (Star.len 0 Z rfl)) Z rfl rfl rfl (fun w211 Z=>nn (W_region (mF ((hS179 7 rfl).trans sf7) rfl (L_sub rfl rfl rfl (aI rfl (nn ?_))))))))
 obtain rfl:=so hB157
 have Z:=Z.gets [2,1,2,3] rfl
 show ∃ m,m < _∧I157 m _ _
 refine ⟨n157,Nat.lt_succ_self _,?_⟩
 exact ij hI157 ⟨i64 (i_151 - 1),x166.2,x174,H179,v208,hL157,(Le.trans l156 hE179),((hS179 0 rfl).trans sf0),((hS179 2 rfl).trans sf2),((hS179 3 rfl).trans sf3),rfl,Z⟩
 have hB157:=(ite_f hc159).symm.trans hB157
 refine W_exit ?_
 obtain rfl:=so hB157
 obtain rfl:=so hL157
 exact rj hR157 ⟨i_151,g_0_1_152,g8_1_153,H155,v153_g8_1,rfl,l156,sf2,sf3,Z⟩
 intro f w_ hR
 obtain ⟨i_151,g_0_1_152,g8_1_153,H155,v153_g8_1,rfl,l156,sf2,sf3,Z⟩:=rk hR157 hR
 refine sq (L_lda (cs:=[v96_g8_0,v153_g8_1]) rfl Tryd.isAgg26 Tryd.sizeOf26 sf3 (At.sub0 (Blk.at (Star.blkAt 2 Z rfl)) 0 2) rfl (L_staB (vs:=#[v96_g8_0,v153_g8_1]) (cs2:=#[v96_g8_0,v153_g8_1]) 3 rfl Tryd.sizeOf26 sf2 rfl rfl (ones_cons (one_len (slice_len (RP.mono _ hv97_g8_0 l156))) (ones_cons (one_len (Star.len 1 Z rfl)) ones_nil)) Z rfl (by show 0 + 2≤2; decide) rfl (fun w213 Z=>nn (W_ret (retG1 (v1:=.agg #[v96_g8_0,v153_g8_1]) Tryd.results20 (resV_agg Tryd.isAgg26 Tryd.sizeOf26 sf2 (Star.blkAt 0 Z rfl) rfl) ?_)))))
 obtain rfl:=so hF
 have Z:=Z.gets [1,2] rfl
 have Z:=Star.drop 2 Z rfl
 have Z:=Star.drop 2 Z rfl
 exact ⟨H155,(Le.trans (Le.trans l38 l99) l156),v96_g8_0,v153_g8_1,rfl,(RP.mono _ hv97_g8_0 l156),Z⟩
theorem s_l6Copy_c {m : Model} {v0_0 : Value} {v0_1 : Value} {H : FH} {w : World} (Z : Star H w []) (h0_0 : (rS 3 RP.int).rel H [v0_0] m.sizes) (h0_1 : (rS 54 (rRule 3 23)).rel H [v0_1] m.rules) {r : Model} (hF : s_l6Copy m = some r) :
 C Tryd.prog 49 #[.agg #[v0_0,v0_1]] w fun v w'=>∃ (u1 : Value) (u2 : Value),v = .agg #[u1,u2]∧Star H w' [oF 3 RP.int u1 r.sizes,oS 54 (oRule 3 23) u2 r.rules]:=by
 unfold s_l6Copy at hF
 refine C_enter Tryd.func49 rfl Tryd.ntmps49 rfl (sq (L_box (v:=.agg #[v0_0,v0_1]) (cs:=#[v0_0,v0_1]) rfl rfl rfl Z (fun g5 w6 Z=>L_al (cs:=#[S0,S0]) rfl Tryd.zeroValue26 rfl Z (fun g7 w8 Z=>nq ?_))))
 obtain ⟨x12,hx12,hF⟩:=bind_some hF
 refine W_region (L_bs rfl parts0 (bs_23_0  ) Z (fun g19 w20 Z=>?_))
 have Z:=Star.mkRow (R:=(OR.frz RP.int)) [] [] 0 Z rfl rfl rfl (by decide)
 refine fA 0 fa_26_0 rfl rfl (ldB 2 Z Tryd.isAgg23 rfl rfl rfl (L_app (v:=(Sl g19 0 0)) (u:=v0_0) rfl et_23 rfl rfl Z h0_0 hx12 (fun v22 w23 Z=>L_bld rfl (parts1 rfl) (bld_26_0 (v22) (one_len (Star.len 0 Z rfl))) (L_al (cs:=#[S0,S0]) rfl Tryd.zeroValue26 rfl Z (fun g25 w26 Z=>L_staB (vs:=#[v22,S0]) (cs2:=#[v22,S0]) 0 rfl Tryd.sizeOf26 rfl rfl rfl (ones_cons (one_len (Star.len 1 Z rfl)) (ones_cons rfl ones_nil)) Z rfl (by show 0 + 2≤2; decide) rfl (fun w27 Z=>nq (sq (aI rfl (nn ?_)))))))))
 have hlen33 : List.length m.rules≤9223372036854775807:=len_le (slice_len h0_1)
 obtain ⟨j33,hL33,hF⟩:=bind_some hF
 obtain ⟨R33,hR33⟩:=exR fun f w_=>∃ g25_1_29 : List Rule,∃ H31 : FH,∃ v29_g25_1 : Value,j33 = .nx g25_1_29∧Le H H31∧f 2 = Pt g7∧f 3 = Pt g25∧Star H31 w_ ([oF 3 RP.int v22 x12,oS 54 (oRule 3 23) v29_g25_1 g25_1_29,box g25 26 #[v22,v29_g25_1],box g7 26 #[S0,S0]])
 refine W_join R33 ?_ ?_
 refine W_block ?_
 obtain ⟨I33,hI33⟩:=exI fun n f w_=>∃ i_28 : Nat,∃ suf33 : List Rule,∃ g25_1_29 : List Rule,∃ H31 : FH,∃ v29_g25_1 : Value,n = suf33.length∧List.drop i_28 m.rules = suf33∧i_28 + suf33.length = m.rules.length∧rangeL s_l6Copy_b1 suf33 i_28 g25_1_29 = some j33∧Le H H31∧f 1 = Pt g5∧f 2 = Pt g7∧f 3 = Pt g25∧f 4 = I i_28∧Star H31 w_ ([oF 3 RP.int v22 x12,oS 54 (oRule 3 23) v29_g25_1 g25_1_29,box g25 26 #[v22,v29_g25_1],box g7 26 #[S0,S0],box g5 26 #[v0_0,v0_1]])
 have Z:=Star.addNil (R:=(oRule 3 23)) (e:=54) Z
 have Z:=Z.gets [4,4,3,3,4] rfl
 refine W_loop I33 (n:=m.rules.length) ?_ ?_
 exact ij hI33 ⟨0,m.rules,[],H,S0,rfl,rfl,Nat.zero_add _,hL33,(Le.refl _),rfl,rfl,rfl,rfl,Z⟩
 intro n33 f w_ hI
 obtain ⟨i_28,suf33,g25_1_29,H31,v29_g25_1,rfl,hd33,hl33,hL33,l32,sf1,sf2,sf3,sf4,Z⟩:=ik hI33 hI
 refine W_seq (sq (mF sf4 rfl (fA 1 fa_26_1 sf1 rfl (ldB 4 Z Tryd.isAgg24 rfl rfl rfl (L_len rfl Tryd.underlying24 rfl (slice_len (RP.mono _ h0_1 l32)) (L_lss rfl rfl rfl (nn (W_cond (b:=decide ((i_28 : Int) < (m.rules.length : Int))) rfl (fun hc35=>?_) (fun hc35=>?_)))))))))
 have hlt33:=of_decide_eq_true hc35
 rcases suf33 with _ | ⟨x_33,rest33⟩
 exact absurd hlt33 (by simp at hl33; omega)
 obtain ⟨o33,hB33,hL33⟩:=range_cons hL33
 rw [s_l6Copy_b1] at hB33
 have hix33:=drop_idx hd33
 refine W_skip (W_seq (W_block (sq (fA 1 fa_26_1 sf1 rfl (ldB 4 Z Tryd.isAgg24 rfl rfl rfl (mF sf4 rfl (L_ix (r:=(rRule 3 23)) rfl Tryd.underlying24 Tryd.sizeOf54 rfl (RP.mono _ h0_1 l32) rfl hix33 (fun g43 o44 cs_g43 hrk_hat45 hat45=>?_))))))))
 obtain ⟨u46_0,u46_1,u46_2,rfl,hu46_0,hu46_1,hu46_2⟩:=rRule_iff.1 hrk_hat45
 refine L_lda (cs:=[I x_33.kind,u46_0,u46_1,I x_33.bound,u46_2]) rfl Tryd.isAgg54 Tryd.sizeOf54 rfl (At.sub (AtH.at hat45 Z.sub) 0 5) rfl (L_al (cs:=#[I 0,S0,S0,I 0,S0]) rfl Tryd.zeroValue54 rfl Z (fun g47 w48 Z=>L_staB (vs:=#[I x_33.kind,u46_0,u46_1,I x_33.bound,u46_2]) (cs2:=#[I x_33.kind,u46_0,u46_1,I x_33.bound,u46_2]) 0 rfl Tryd.sizeOf54 rfl rfl rfl (ones_cons rfl (ones_cons (one_len (slice_len hu46_0)) (ones_cons (one_len (slice_len hu46_1)) (ones_cons rfl (ones_cons (one_len (slice_len hu46_2)) ones_nil))))) Z rfl (by show 0 + 5≤5; decide) rfl (fun w49 Z=>nq ?_)))
 obtain ⟨x53,hx53,hB33⟩:=bind_some hB33
 obtain ⟨x60,hx60,hB33⟩:=bind_some hB33
 refine W_drawS 14 [isV (Pt g47),isV (I x_33.kind),anyF,isV (Pq g47 1),isV (u46_0),anyF,anyF,isV (Pq g47 2),isV (u46_1),anyF,isV (Pq g47 3),isV (I x_33.bound),exA fun u_1=>exA fun u_2=>isV (.agg #[I x_33.kind,u_1,u_2,I x_33.bound,S0]),anyF] [box g47 54 #[I x_33.kind,u46_0,u46_1,I x_33.bound,u46_2],oF 3 RP.int v22 x12,oS 54 (oRule 3 23) v29_g25_1 g25_1_29,box g25 26 #[v22,v29_g25_1],box g7 26 #[S0,S0],box g5 26 #[v0_0,v0_1]] [.made 2 27 (fun v_=>oF 3 RP.int v_ ([])) (some 5),.made 5 30 (fun v_=>oF 3 RP.int v_ x53) (some 12),.made 6 31 (fun v_=>oF 3 RP.int v_ ([])) (some 9),.made 9 34 (fun v_=>oF 3 RP.int v_ x60) (some 12),.made 12 37 (fun v_=>oF 3 RP.int (aggC v_ 1) x53) none,.made 12 37 (fun v_=>oF 3 RP.int (aggC v_ 2) x60) none,.made 13 6 (fun v_=>boxV v_ 54 #[I 0,S0,S0,I 0,S0]) none] ([]) [([],[]),([],[]),([],[0]),([],[]),([],[]),([0],[1]),([],[2]),([],[]),([],[]),([2],[3]),([],[]),([],[]),([1,3],[4,5]),([],[6])] (S:=[(some 2,[27],some 5),(some 5,[30],some 12),(some 6,[31],some 9),(some 9,[34],some 12),(some 12,[37],none),(some 12,[37],none),(some 13,[6],none)]) Tryd_mix (by kernel_rfl) rfl (by kernel_rfl) (amF_cons (mono_V _) (amF_cons (mono_V _) (amF_cons (mono_any) (amF_cons (mono_V _) (amF_cons (mono_V _) (amF_cons (mono_any) (amF_cons (mono_any) (amF_cons (mono_V _) (amF_cons (mono_V _) (amF_cons (mono_any) (amF_cons (mono_V _) (amF_cons (mono_V _) (amF_cons (mono_exA fun _=>mono_exA fun _=>mono_V _) (amF_cons (mono_any) amF_nil)))))))))))))) Z ?_ (fun f w_ H67 hS67 hE67 hT67 Z=>?_)
 refine opsS_cons (fun f w_ _ _ s _ _ Z=>fA 0 fa_54_0 ((s 5 rfl).trans rfl) rfl (nO rfl rfl Z)) (opsS_cons (fun f w_ _ _ _ _ p Z=>ldB 0 Z Tryd.isAgg3 (p 0 25 rfl rfl) rfl rfl (nO rfl rfl Z)) (opsS_cons ?_ ?_))
 intro f w_ H67 X67 hS67 hE67 hP67 Z
 refine L_bs rfl parts0 (bs_23_0  ) Z (fun g82 w83 Z=>?_)
 have Z:=Star.mkRow (R:=(OR.frz RP.int)) [] [] 0 Z rfl rfl rfl (by decide)
 have Z:=Z.gets [6,6,6,6,6,6] rfl
 exact L_nil ⟨rfl,_,_,rfl,Le.refl _,fun _ _=>trivial,Z⟩
 refine opsS_cons (fun f w_ _ _ s _ _ Z=>fA 1 fa_54_1 ((s 5 rfl).trans rfl) rfl (nO rfl rfl Z)) (opsS_cons (fun f w_ _ _ _ _ p Z=>ldB 0 Z Tryd.isAgg23 (p 3 28 rfl rfl) rfl rfl (nO rfl rfl Z)) (opsS_cons ?_ ?_))
 intro f w_ H67 X67 hS67 hE67 hP67 Z
 have Z : Star H67 w_ (box g47 54 #[I x_33.kind,u46_0,u46_1,I x_33.bound,u46_2] :: oF 3 RP.int v22 x12 :: oS 54 (oRule 3 23) v29_g25_1 g25_1_29 :: box g25 26 #[v22,v29_g25_1] :: box g7 26 #[S0,S0] :: box g5 26 #[v0_0,v0_1] :: oF 3 RP.int (f 27) ([]) :: X67):=Z
 have Z:=Z.get 6 rfl
 refine L_app (v:=(f 27)) (u:=u46_0) rfl et_23 rfl (hP67 4 29 rfl rfl) Z (RP.mono _ hu46_0 hE67) hx53 (fun v86 w87 Z=>?_)
 have Z:=Z.gets [6,6,6,6,6,6] rfl
 exact L_nil ⟨rfl,_,_,rfl,Le.refl _,fun _ _=>trivial,Z⟩
 refine opsS_cons ?_ ?_
 intro f w_ H67 X67 hS67 hE67 hP67 Z
 refine L_bs rfl parts0 (bs_23_0  ) Z (fun g89 w90 Z=>?_)
 have Z:=Star.mkRow (R:=(OR.frz RP.int)) [] [] 0 Z rfl rfl rfl (by decide)
 have Z:=Z.gets [6,6,6,6,6,6] rfl
 exact L_nil ⟨rfl,_,_,rfl,Le.refl _,fun _ _=>trivial,Z⟩
 refine opsS_cons (fun f w_ _ _ s _ _ Z=>fA 2 fa_54_2 ((s 5 rfl).trans rfl) rfl (nO rfl rfl Z)) (opsS_cons (fun f w_ _ _ _ _ p Z=>ldB 0 Z Tryd.isAgg23 (p 7 32 rfl rfl) rfl rfl (nO rfl rfl Z)) (opsS_cons ?_ ?_))
 intro f w_ H67 X67 hS67 hE67 hP67 Z
 have Z : Star H67 w_ (box g47 54 #[I x_33.kind,u46_0,u46_1,I x_33.bound,u46_2] :: oF 3 RP.int v22 x12 :: oS 54 (oRule 3 23) v29_g25_1 g25_1_29 :: box g25 26 #[v22,v29_g25_1] :: box g7 26 #[S0,S0] :: box g5 26 #[v0_0,v0_1] :: oF 3 RP.int (f 31) ([]) :: X67):=Z
 have Z:=Z.get 6 rfl
 refine L_app (v:=(f 31)) (u:=u46_1) rfl et_23 rfl (hP67 8 33 rfl rfl) Z (RP.mono _ hu46_1 hE67) hx60 (fun v93 w94 Z=>?_)
 have Z:=Z.gets [6,6,6,6,6,6] rfl
 exact L_nil ⟨rfl,_,_,rfl,Le.refl _,fun _ _=>trivial,Z⟩
 refine opsS_cons (fun f w_ _ _ s _ _ Z=>fA 3 fa_54_3 ((s 5 rfl).trans rfl) rfl (nO rfl rfl Z)) (opsS_cons (fun f w_ _ _ _ _ p Z=>ldB 0 Z Tryd.isAgg3 (p 10 35 rfl rfl) rfl rfl (nO rfl rfl Z)) (opsS_cons ?_ ?_))
 intro f w_ H67 X67 hS67 hE67 hP67 Z
 have Z : Star H67 w_ (box g47 54 #[I x_33.kind,u46_0,u46_1,I x_33.bound,u46_2] :: oF 3 RP.int v22 x12 :: oS 54 (oRule 3 23) v29_g25_1 g25_1_29 :: box g25 26 #[v22,v29_g25_1] :: box g7 26 #[S0,S0] :: box g5 26 #[v0_0,v0_1] :: oF 3 RP.int (f 30) x53 :: oF 3 RP.int (f 34) x60 :: X67):=Z
 refine L_bld rfl (parts4 (hP67 1 26 rfl rfl) rfl rfl (hP67 11 36 rfl rfl)) (bld_54_0_1_2_3 (I x_33.kind) ((f 30)) ((f 34)) (I x_33.bound) rfl (one_len (Star.len 6 Z rfl)) (one_len (Star.len 7 Z rfl)) rfl) (L_nil ⟨rfl,_,_,rfl,Le.refl _,fun _ _=>⟨_,_,rfl⟩,Z⟩)
 refine opsS_cons ?_ ?_
 intro f w_ H67 X67 hS67 hE67 hP67 Z
 refine L_al (cs:=#[I 0,S0,S0,I 0,S0]) rfl Tryd.zeroValue54 rfl Z (fun g98 w99 Z=>?_)
 have Z:=Z.gets [6,6,6,6,6,6,6] rfl
 have Z:=Star.boxV (v:=Pt g98) rfl Z
 have Z:=Z.gets [6,6,6,6,6,6] rfl
 exact L_nil ⟨rfl,_,_,rfl,Le.refl _,fun _ _=>trivial,Z⟩
 exact opsS_nil
 have Z : Star H67 w_ ([box g47 54 #[I x_33.kind,u46_0,u46_1,I x_33.bound,u46_2],oF 3 RP.int v22 x12,oS 54 (oRule 3 23) v29_g25_1 g25_1_29,box g25 26 #[v22,v29_g25_1],box g7 26 #[S0,S0],box g5 26 #[v0_0,v0_1],own (OR.ownS 3 (OR.frz RP.int)) [(aggC (f 37) 1)] x53,own (OR.ownS 3 (OR.frz RP.int)) [(aggC (f 37) 2)] x60,boxV (f 6) 54 #[I 0,S0,S0,I 0,S0]]):=Z
 obtain ⟨u100_1,u100_2,hv100⟩:=(hT67 12 37 rfl rfl)
 have hren : Star H67 w_ ([box g47 54 #[I x_33.kind,u46_0,u46_1,I x_33.bound,u46_2],oF 3 RP.int v22 x12,oS 54 (oRule 3 23) v29_g25_1 g25_1_29,box g25 26 #[v22,v29_g25_1],box g7 26 #[S0,S0],box g5 26 #[v0_0,v0_1],own (OR.ownS 3 (OR.frz RP.int)) [(aggC (f 37) 1)] x53,own (OR.ownS 3 (OR.frz RP.int)) [(aggC (f 37) 2)] x60,boxV (f 6) 54 #[I 0,S0,S0,I 0,S0]]):=Z
 rw [hv100] at hren
 have Z : Star H67 w_ ([box g47 54 #[I x_33.kind,u46_0,u46_1,I x_33.bound,u46_2],oF 3 RP.int v22 x12,oS 54 (oRule 3 23) v29_g25_1 g25_1_29,box g25 26 #[v22,v29_g25_1],box g7 26 #[S0,S0],box g5 26 #[v0_0,v0_1],oF 3 RP.int u100_1 x53,oF 3 RP.int u100_2 x60,boxV (f 6) 54 #[I 0,S0,S0,I 0,S0]]):=hren
 obtain ⟨g101,hv101,Z⟩:=Star.unboxV (Star.get 8 Z rfl)
 refine L_staB (vs:=#[I x_33.kind,u100_1,u100_2,I x_33.bound,S0]) (cs2:=#[I x_33.kind,u100_1,u100_2,I x_33.bound,S0]) 0 rfl Tryd.sizeOf54 hv101 hv100 rfl (ones_cons rfl (ones_cons (one_len (Star.len 7 Z rfl)) (ones_cons (one_len (Star.len 8 Z rfl)) (ones_cons rfl (ones_cons rfl ones_nil))))) Z rfl (by show 0 + 5≤5; decide) rfl (fun w102 Z=>L_nil (W_seq (sq (aI rfl (nn ?_)))))
 have hlen108 : List.length x_33.rows≤9223372036854775807:=len_le (slice_len (RP.mono _ hu46_2 hE67))
 obtain ⟨j108,hL108,hB33⟩:=bind_some hB33
 obtain ⟨R108,hR108⟩:=exR fun f w_=>∃ g101_4_104 : List (List Int),∃ H106 : FH,∃ v104_g101_4 : Value,j108 = .nx g101_4_104∧Le H67 H106∧f 1 = Pt g5∧f 2 = Pt g7∧f 3 = Pt g25∧f 4 = I i_28∧f 6 = Pt g101∧Star H106 w_ ([oF 3 RP.int u100_1 x53,oF 3 RP.int u100_2 x60,own (OR.ownS 23 (OR.ownS 3 (OR.frz RP.int))) [v104_g101_4] g101_4_104,box g101 54 #[I x_33.kind,u100_1,u100_2,I x_33.bound,v104_g101_4],oF 3 RP.int v22 x12,oS 54 (oRule 3 23) v29_g25_1 g25_1_29,box g25 26 #[v22,v29_g25_1],box g7 26 #[S0,S0],box g5 26 #[v0_0,v0_1]])
 refine W_join R108 ?_ ?_
 refine W_block ?_
 obtain ⟨I108,hI108⟩:=exI fun n f w_=>∃ i_103 : Nat,∃ suf108 : List (List Int),∃ g101_4_104 : List (List Int),∃ H106 : FH,∃ v104_g101_4 : Value,n = suf108.length∧List.drop i_103 x_33.rows = suf108∧i_103 + suf108.length = x_33.rows.length∧rangeL s_l6Copy_b2 suf108 i_103 g101_4_104 = some j108∧Le H67 H106∧f 1 = Pt g5∧f 2 = Pt g7∧f 3 = Pt g25∧f 4 = I i_28∧f 5 = Pt g47∧f 6 = Pt g101∧f 7 = I i_103∧Star H106 w_ ([oF 3 RP.int u100_1 x53,oF 3 RP.int u100_2 x60,own (OR.ownS 23 (OR.ownS 3 (OR.frz RP.int))) [v104_g101_4] g101_4_104,box g101 54 #[I x_33.kind,u100_1,u100_2,I x_33.bound,v104_g101_4],box g47 54 #[I x_33.kind,u46_0,u46_1,I x_33.bound,u46_2],oF 3 RP.int v22 x12,oS 54 (oRule 3 23) v29_g25_1 g25_1_29,box g25 26 #[v22,v29_g25_1],box g7 26 #[S0,S0],box g5 26 #[v0_0,v0_1]])
 have Z:=Star.addNil (R:=(OR.ownS 3 (OR.frz RP.int))) (e:=23) Z
 have Z:=Z.gets [7,7,7,7,7,7,7,7,9,9] rfl
 refine W_loop I108 (n:=x_33.rows.length) ?_ ?_
 exact ij hI108 ⟨0,x_33.rows,[],H67,S0,rfl,rfl,Nat.zero_add _,hL108,(Le.refl _),((hS67 1 rfl).trans sf1),((hS67 2 rfl).trans sf2),((hS67 3 rfl).trans sf3),((hS67 4 rfl).trans sf4),((hS67 5 rfl).trans rfl),hv101,rfl,Z⟩
 intro n108 f w_ hI
 obtain ⟨i_103,suf108,g101_4_104,H106,v104_g101_4,rfl,hd108,hl108,hL108,l107,sf1,sf2,sf3,sf4,sf5,sf6,sf7,Z⟩:=ik hI108 hI
 refine W_seq (sq (mF sf7 rfl (fA 4 fa_54_4 sf5 rfl (ldB 4 Z Tryd.isAgg52 rfl rfl rfl (L_len rfl Tryd.underlying52 rfl (slice_len (RP.mono _ hu46_2 (Le.trans hE67 l107))) (L_lss rfl rfl rfl (nn (W_cond (b:=decide ((i_103 : Int) < (x_33.rows.length : Int))) rfl (fun hc110=>?_) (fun hc110=>?_)))))))))
 have hlt108:=of_decide_eq_true hc110
 rcases suf108 with _ | ⟨x_108,rest108⟩
 exact absurd hlt108 (by simp at hl108; omega)
 obtain ⟨o108,hB108,hL108⟩:=range_cons hL108
 rw [s_l6Copy_b2] at hB108
 have hix108:=drop_idx hd108
 refine W_skip (W_seq (W_block ?_))
 obtain ⟨x118,hx118,hB108⟩:=bind_some hB108
 obtain ⟨x125,hx125,hB108⟩:=bind_some hB108
 refine W_drawS 10 [isV (Pq g101 4),isV (v104_g101_4),anyF,isV (Pq g47 4),isV (u46_2),isV (I i_103),isEl (rS 3 RP.int) x_108 0,isData (rS 3 RP.int) x_108,anyF,anyF] [oF 3 RP.int u100_1 x53,oF 3 RP.int u100_2 x60,own (OR.ownS 23 (OR.ownS 3 (OR.frz RP.int))) [v104_g101_4] g101_4_104,box g101 54 #[I x_33.kind,u100_1,u100_2,I x_33.bound,v104_g101_4],box g47 54 #[I x_33.kind,u46_0,u46_1,I x_33.bound,u46_2],oF 3 RP.int v22 x12,oS 54 (oRule 3 23) v29_g25_1 g25_1_29,box g25 26 #[v22,v29_g25_1],box g7 26 #[S0,S0],box g5 26 #[v0_0,v0_1]] [.made 2 47 (fun v_=>oF 3 RP.int v_ ([])) (some 8),.made 8 53 (fun v_=>oF 3 RP.int v_ x118) (some 9),.made 9 54 (fun v_=>own (OR.ownS 23 (OR.ownS 3 (OR.frz RP.int))) [v_] ([x118])) none] ([]) [([],[]),([],[]),([],[0]),([],[]),([],[]),([],[]),([],[]),([],[]),([0],[1]),([1],[2])] (S:=[(some 2,[47],some 8),(some 8,[53],some 9),(some 9,[54],none)]) Tryd_mix (by kernel_rfl) rfl (by kernel_rfl) (amF_cons (mono_V _) (amF_cons (mono_V _) (amF_cons (mono_any) (amF_cons (mono_V _) (amF_cons (mono_V _) (amF_cons (mono_V _) (amF_cons (mono_el _ _ _) (amF_cons (mono_data _ _) (amF_cons (mono_any) (amF_cons (mono_any) amF_nil)))))))))) Z ?_ (fun f w_ H130 hS130 hE130 hT130 Z=>?_)
 refine opsS_cons (fun f w_ _ _ s _ _ Z=>fA 4 fa_54_4 ((s 6 rfl).trans sf6) rfl (nO rfl rfl Z)) (opsS_cons (fun f w_ _ _ _ _ p Z=>ldB 3 Z Tryd.isAgg52 (p 0 45 rfl rfl) rfl rfl (nO rfl rfl Z)) (opsS_cons ?_ ?_))
 intro f w_ H130 X130 hS130 hE130 hP130 Z
 refine L_bs rfl parts0 (bs_23_0  ) Z (fun g144 w145 Z=>?_)
 have Z:=Star.mkRow (R:=(OR.frz RP.int)) [] [] 0 Z rfl rfl rfl (by decide)
 have Z:=Z.gets [10,10,10,10,10,10,10,10,10,10] rfl
 exact L_nil ⟨rfl,_,_,rfl,Le.refl _,fun _ _=>trivial,Z⟩
 refine opsS_cons (fun f w_ _ _ s _ _ Z=>fA 4 fa_54_4 ((s 5 rfl).trans sf5) rfl (nO rfl rfl Z)) (opsS_cons (fun f w_ _ _ _ _ p Z=>ldB 4 Z Tryd.isAgg52 (p 3 48 rfl rfl) rfl rfl (nO rfl rfl Z)) (opsS_cons (fun f w_ _ _ s _ _ Z=>mF ((s 7 rfl).trans sf7) rfl (nO rfl rfl Z)) (opsS_cons ?_ ?_)))
 intro f w_ H130 X130 hS130 hE130 hP130 Z
 refine L_ix (r:=(rS 3 RP.int)) rfl Tryd.underlying52 Tryd.sizeOf23 (hP130 4 49 rfl rfl) (RP.mono _ hu46_2 (Le.trans (Le.trans hE67 l107) hE130)) (hP130 5 50 rfl rfl) hix108 (fun g147 o148 cs_g147 hrk_hat149 hat149=>?_)
 obtain ⟨u150,rfl,hu150⟩:=slice1 hrk_hat149
 exact L_nil ⟨rfl,_,_,rfl,Le.refl _,fun _ _=>⟨_,_,_,rfl,hrk_hat149,hat149⟩,Z⟩
 refine opsS_cons ?_ ?_
 intro f w_ H130 X130 hS130 hE130 hP130 Z
 obtain ⟨g151,o151,cs151,hv151,hrk_hat151,hat151⟩:=(hP130 6 51 rfl rfl)
 obtain ⟨u152,rfl,hu152⟩:=slice1 hrk_hat151
 refine L_ld rfl Tryd.isAgg23 hv151 (At.cell (AtH.at hat151 Z.sub) (j:=0) rfl) (L_nil ⟨rfl,_,_,rfl,Le.refl _,fun _ _=>hu152,Z⟩)
 refine opsS_cons ?_ ?_
 intro f w_ H130 X130 hS130 hE130 hP130 Z
 have Z : Star H130 w_ (oF 3 RP.int u100_1 x53 :: oF 3 RP.int u100_2 x60 :: own (OR.ownS 23 (OR.ownS 3 (OR.frz RP.int))) [v104_g101_4] g101_4_104 :: box g101 54 #[I x_33.kind,u100_1,u100_2,I x_33.bound,v104_g101_4] :: box g47 54 #[I x_33.kind,u46_0,u46_1,I x_33.bound,u46_2] :: oF 3 RP.int v22 x12 :: oS 54 (oRule 3 23) v29_g25_1 g25_1_29 :: box g25 26 #[v22,v29_g25_1] :: box g7 26 #[S0,S0] :: box g5 26 #[v0_0,v0_1] :: oF 3 RP.int (f 47) ([]) :: X130):=Z
 have hd154 : (rS 3 RP.int).rel H130 [f 52] x_108:=(hP130 7 52 rfl rfl)
 have Z:=Z.get 10 rfl
 refine L_app (v:=(f 47)) (u:=(f 52)) rfl et_23 rfl rfl Z hd154 hx118 (fun v155 w156 Z=>?_)
 have Z:=Z.gets [10,10,10,10,10,10,10,10,10,10] rfl
 exact L_nil ⟨rfl,_,_,rfl,Le.refl _,fun _ _=>trivial,Z⟩
 refine opsS_cons ?_ ?_
 intro f w_ H130 X130 hS130 hE130 hP130 Z
 have Z : Star H130 w_ (oF 3 RP.int u100_1 x53 :: oF 3 RP.int u100_2 x60 :: own (OR.ownS 23 (OR.ownS 3 (OR.frz RP.int))) [v104_g101_4] g101_4_104 :: box g101 54 #[I x_33.kind,u100_1,u100_2,I x_33.bound,v104_g101_4] :: box g47 54 #[I x_33.kind,u46_0,u46_1,I x_33.bound,u46_2] :: oF 3 RP.int v22 x12 :: oS 54 (oRule 3 23) v29_g25_1 g25_1_29 :: box g25 26 #[v22,v29_g25_1] :: box g7 26 #[S0,S0] :: box g5 26 #[v0_0,v0_1] :: oF 3 RP.int (f 53) x118 :: X130):=Z
 refine L_bs rfl (parts1 rfl) (bs_52_1_0 ((f 53)) (one_len (Star.len 10 Z rfl))) Z (fun g159 w160 Z=>?_)
 have Z:=Z.get 11 rfl
 have Z:=Star.mkRow (R:=(OR.ownS 3 (OR.frz RP.int))) [([(f 53)],x118)] [x118] 1 Z rfl rfl rfl (by decide)
 have Z:=Z.gets [10,10,10,10,10,10,10,10,10,10] rfl
 exact L_nil ⟨rfl,_,_,rfl,Le.refl _,fun _ _=>trivial,Z⟩
 exact opsS_nil
 have Z : Star H130 w_ ([oF 3 RP.int u100_1 x53,oF 3 RP.int u100_2 x60,own (OR.ownS 23 (OR.ownS 3 (OR.frz RP.int))) [v104_g101_4] g101_4_104,box g101 54 #[I x_33.kind,u100_1,u100_2,I x_33.bound,v104_g101_4],box g47 54 #[I x_33.kind,u46_0,u46_1,I x_33.bound,u46_2],oF 3 RP.int v22 x12,oS 54 (oRule 3 23) v29_g25_1 g25_1_29,box g25 26 #[v22,v29_g25_1],box g7 26 #[S0,S0],box g5 26 #[v0_0,v0_1],own (OR.ownS 23 (OR.ownS 3 (OR.frz RP.int))) [(f 54)] ([x118])]):=Z
 have Z:=Z.gets [10,3] rfl
 refine L_appM (v:=v104_g101_4) (u:=(f 54)) rfl et_52 (hT130 1 46 rfl rfl) rfl Z hx125 (fun v163 w164 Z=>fA 4 fa_54_4 ((hS130 6 rfl).trans sf6) rfl (L_stB (v:=v163) (cs2:=#[I x_33.kind,u100_1,u100_2,I x_33.bound,v163]) 3 rfl Tryd.sizeOf52 rfl rfl (one_len (Star.len 0 Z rfl)) Z rfl rfl rfl (fun w166 Z=>nn (W_region (mF ((hS130 7 rfl).trans sf7) rfl (L_add rfl rfl rfl (aI rfl (nn ?_))))))))
 obtain rfl:=so hB108
 have Z:=Z.gets [9,9,9,9,9,9,6,7,9,9] rfl
 show ∃ m,m < _∧I108 m _ _
 refine ⟨rest108.length,by simp,?_⟩
 exact ij hI108 ⟨i_103 + 1,rest108,x125,H130,v163,rfl,drop_next hd108,by simp at hl108; omega,hL108,(Le.trans l107 hE130),((hS130 1 rfl).trans sf1),((hS130 2 rfl).trans sf2),((hS130 3 rfl).trans sf3),((hS130 4 rfl).trans sf4),((hS130 5 rfl).trans sf5),((hS130 6 rfl).trans sf6),(Eq.trans rfl (congrArg (Value.int .i64) (i64_succ (n:=x_33.rows.length) (by simp at hl108; omega) hlen108))),Z⟩
 rcases suf108 with _ | ⟨_,_⟩
 obtain rfl:=range_nil hL108
 refine W_exit ?_
 have Z:=Z.gets [9,9,9,9,9,8,8,8,8] rfl
 exact rj hR108 ⟨g101_4_104,H106,v104_g101_4,rfl,l107,sf1,sf2,sf3,sf4,sf6,(Star.keepN 9 Z)⟩
 exact absurd (of_decide_eq_false hc110) (by simp at hl108; omega)
 intro f w_ hR
 obtain ⟨g101_4_104,H106,v104_g101_4,rfl,l107,sf1,sf2,sf3,sf4,sf6,Z⟩:=rk hR108 hR
 obtain ⟨x170,hx170,hB33⟩:=bind_some hB33
 refine W_region (fA 1 fa_26_1 sf3 rfl (ldB 6 Z Tryd.isAgg24 rfl rfl rfl (L_lda (cs:=[I x_33.kind,u100_1,u100_2,I x_33.bound,v104_g101_4]) rfl Tryd.isAgg54 Tryd.sizeOf54 sf6 (At.sub0 (Blk.at (Star.blkAt 3 Z rfl)) 0 5) rfl (L_bs rfl (parts1 rfl) (bs_24_1_5 (I x_33.kind) (u100_1) (u100_2) (I x_33.bound) (v104_g101_4) ) Z (fun g175 w176 Z=>?_)))))
 have Z:=Z.gets [3,3,3] rfl
 have Z:=oRule_close (r:=({ kind:=x_33.kind,vars:=x53,coefs:=x60,bound:=x_33.bound,rows:=g101_4_104 } : Rule)) Z
 have Z:=Star.mkRow (R:=(oRule 3 23)) [([I x_33.kind,u100_1,u100_2,I x_33.bound,v104_g101_4],({ kind:=x_33.kind,vars:=x53,coefs:=x60,bound:=x_33.bound,rows:=g101_4_104 } : Rule))] [({ kind:=x_33.kind,vars:=x53,coefs:=x60,bound:=x_33.bound,rows:=g101_4_104 } : Rule)] 1 Z rfl rfl rfl (by decide)
 have Z:=Z.get 3 rfl
 refine L_appM (v:=v29_g25_1) (u:=(Sl g175 1 1)) rfl et_24 rfl rfl Z hx170 (fun v178 w179 Z=>fA 1 fa_26_1 sf3 rfl (L_stB (v:=v178) (cs2:=#[v22,v178]) 3 rfl Tryd.sizeOf24 rfl rfl (one_len (Star.len 0 Z rfl)) Z rfl rfl rfl (fun w181 Z=>nn (W_region (mF sf4 rfl (L_add rfl rfl rfl (aI rfl (nn ?_))))))))
 obtain rfl:=so hB33
 have Z:=Z.gets [5,5,2,3,5] rfl
 show ∃ m,m < _∧I33 m _ _
 refine ⟨rest33.length,by simp,?_⟩
 exact ij hI33 ⟨i_28 + 1,rest33,x170,H106,v178,rfl,drop_next hd33,by simp at hl33; omega,hL33,(Le.trans (Le.trans l32 hE67) l107),sf1,sf2,sf3,(Eq.trans rfl (congrArg (Value.int .i64) (i64_succ (n:=m.rules.length) (by simp at hl33; omega) hlen33))),(Star.keepN 5 Z)⟩
 rcases suf33 with _ | ⟨_,_⟩
 obtain rfl:=range_nil hL33
 refine W_exit (rj hR33 ⟨g25_1_29,H31,v29_g25_1,rfl,l32,sf2,sf3,(Star.keepN 4 Z)⟩)
 exact absurd (of_decide_eq_false hc35) (by simp at hl33; omega)
 intro f w_ hR
 obtain ⟨g25_1_29,H31,v29_g25_1,rfl,l32,sf2,sf3,Z⟩:=rk hR33 hR
 refine sq (L_lda (cs:=[v22,v29_g25_1]) rfl Tryd.isAgg26 Tryd.sizeOf26 sf3 (At.sub0 (Blk.at (Star.blkAt 2 Z rfl)) 0 2) rfl (L_staB (vs:=#[v22,v29_g25_1]) (cs2:=#[v22,v29_g25_1]) 3 rfl Tryd.sizeOf26 sf2 rfl rfl (ones_cons (one_len (Star.len 0 Z rfl)) (ones_cons (one_len (Star.len 1 Z rfl)) ones_nil)) Z rfl (by show 0 + 2≤2; decide) rfl (fun w183 Z=>nn (W_ret (retG1 (v1:=.agg #[v22,v29_g25_1]) Tryd.results49 (resV_agg Tryd.isAgg26 Tryd.sizeOf26 sf2 (Star.blkAt 0 Z rfl) rfl) ?_)))))
 obtain rfl:=so hF
 have Z:=Z.gets [2,2] rfl
 exact ⟨v22,v29_g25_1,rfl,(Star.down (Star.keepN 2 Z) l32 (co closed_int (co closed_oRule c0)))⟩
theorem s_l6Mutate_c {fu : Nat} {r_ : Rd} {m : Model} {g_0 : Nat} {v0_0 : Value} {v1_0 : Value} {v1_1 : Value} {H : FH} {w : World} (Z : Star H w [box g_0 88 #[v0_0,I r_.p]]) (h0_0 : (rS 5 RP.u8).rel H [v0_0] r_.b) (h1_0 : (rS 3 RP.int).rel H [v1_0] m.sizes) (h1_1 : (rS 54 (rRule 3 23)).rel H [v1_1] m.rules) {r : Model × Int} (hF : s_l6Mutate fu r_ m = some r) :
 C Tryd.prog 22 #[Pt g_0,.agg #[v1_0,v1_1]] w fun v w'=>∃ (u1 : Value) (u2 : Value),v = .agg #[u1,u2]∧Star H w' [oF 3 RP.int u1 r.1.sizes,oS 54 (oRule 3 23) u2 r.1.rules,box g_0 88 #[v0_0,I r.2]]:=by
 unfold s_l6Mutate at hF
 refine C_enter Tryd.func22 rfl Tryd.ntmps22 rfl (sq (L_box (v:=.agg #[v1_0,v1_1]) (cs:=#[v1_0,v1_1]) rfl rfl rfl Z (fun g5 w6 Z=>L_al (cs:=#[S0,S0]) rfl Tryd.zeroValue26 rfl Z (fun g7 w8 Z=>nq ?_))))
 obtain ⟨x14,hx14,hF⟩:=bind_some hF
 refine W_region (L_lda (cs:=[v1_0,v1_1]) rfl Tryd.isAgg26 Tryd.sizeOf26 rfl (At.sub0 (Blk.at (Star.blkAt 1 Z rfl)) 0 2) rfl ?_)
 obtain ⟨H21b,l22,s23,z24,k25⟩:=Z.borrow
 refine L_call rfl Tryd.call49 (ops1 rfl) (s_l6Copy_c (m:=m) s23 (RP.mono _ h1_0 l22) (RP.mono _ h1_1 l22) hx14) ?_
 rintro _ w26 ⟨r26_0,r26_1,rfl,Z⟩
 have Z:=k25 Z (co closed_int (co closed_oRule c0))
 refine L_al (cs:=#[S0,S0]) rfl Tryd.zeroValue26 rfl Z (fun g29 w30 Z=>L_staB (vs:=#[r26_0,r26_1]) (cs2:=#[r26_0,r26_1]) 0 rfl Tryd.sizeOf26 rfl rfl rfl (ones_cons (one_len (Star.len 1 Z rfl)) (ones_cons (one_len (Star.len 2 Z rfl)) ones_nil)) Z rfl (by show 0 + 2≤2; decide) rfl (fun w31 Z=>ns (fA 1 fa_26_1 rfl rfl (ldB 0 Z Tryd.isAgg24 rfl rfl rfl (L_len rfl Tryd.underlying24 rfl (Star.len 2 Z rfl) (aI rfl (nq (W_seq ?_))))))))
 obtain ⟨x37,hx37,hF⟩:=bind_some hF
 refine W_region (mV (Pt g_0) rfl ?_)
 have Z:=Z.get 5 rfl
 obtain ⟨H39b,l40,s41,z42,k43⟩:=Z.lend [_]
 refine L_call rfl Tryd.call21 (ops2 rfl rfl) (s_l17Rd_pick_c (r_:=r_) (n_:=50) s41 (RP.mono _ h0_0 l40) hx37) ?_
 rintro _ w44 ⟨rfl,Z⟩
 have Z:=k43 Z (cb c0)
 refine nn (W_block (sq (L_eql rfl rfl rfl (aB rfl (nn ?_)))))
 obtain ⟨j51,hA51,hF⟩:=bind_some hF
 obtain ⟨R51,hR51⟩:=exR fun f w_=>∃ g_0_1_45 : Int,∃ g29_0_46 : List Int,∃ g29_1_48 : List Rule,∃ H49 : FH,∃ v46_g29_0 : Value,j51 = .nx (g_0_1_45,g29_0_46,g29_1_48)∧Le H H49∧f 4 = Pt g7∧f 5 = Pt g29∧Star H49 w_ ([box g_0 88 #[v0_0,I g_0_1_45],oF 3 RP.int v46_g29_0 g29_0_46,oS 54 (oRule 3 23) r26_1 g29_1_48,box g29 26 #[v46_g29_0,r26_1],box g7 26 #[S0,S0]])
 refine W_join R51 ?_ ?_
 refine W_cond (b:=(x37.1 == 0)) rfl (fun hc52=>?_) (fun hc52=>?_)
 have hA51:=(ite_t hc52).symm.trans hA51
 refine sq (fA 0 fa_26_0 rfl rfl (ldB 1 Z Tryd.isAgg23 rfl rfl rfl (L_len rfl Tryd.underlying23 rfl (Star.len 2 Z rfl) (L_gtr rfl rfl rfl (nn ?_)))))
 obtain ⟨⟨g_0_1_53,g29_0_54⟩,hA57,hA51⟩:=bind_some hA51
 obtain ⟨R57,hR57⟩:=exR fun f w_=>∃ H55 : FH,Le H H55∧f 4 = Pt g7∧f 5 = Pt g29∧Star H55 w_ ([box g_0 88 #[v0_0,I g_0_1_53],oF 3 RP.int r26_0 g29_0_54,oS 54 (oRule 3 23) r26_1 x14.rules,box g29 26 #[r26_0,r26_1],box g7 26 #[S0,S0]])
 refine W_join R57 ?_ ?_
 refine W_cond (b:=decide ((x14.sizes.length : Int) > 0)) rfl (fun hc58=>?_) (fun hc58=>?_)
 have hA57:=(ite_t hc58).symm.trans hA57
 obtain ⟨x68,hx68,hA57⟩:=bind_some hA57
 obtain ⟨x70,hx70,hA57⟩:=bind_some hA57
 have Z:=Star.drop 5 Z rfl
 have Z:=Z.gets [4,4,4,4] rfl
 refine W_drawS 5 [isV (Pt g29),isV (r26_0),isV (Pt g_0),anyF,isV (I x68.1)] [box g29 26 #[r26_0,r26_1],oF 3 RP.int r26_0 x14.sizes,oS 54 (oRule 3 23) r26_1 x14.rules,box g7 26 #[S0,S0]] [.base (box g_0 88 #[v0_0,I x37.2]) (some 4),.made 3 23 (fun v_=>oF 3 RP.int v_ ([(-1),4,3,9223372036854775807])) none,.made 4 24 (fun v_=>box g_0 88 #[v0_0,I x68.2]) none] ([]) [([],[]),([],[]),([],[]),([],[1]),([0,1],[1,2])] (S:=[(none,[],some 4),(some 3,[23],none),(some 4,[24],none)]) Tryd_mix (by kernel_rfl) rfl (by kernel_rfl) (amF_cons (mono_V _) (amF_cons (mono_V _) (amF_cons (mono_V _) (amF_cons (mono_any) (amF_cons (mono_V _) amF_nil))))) Z ?_ (fun f w_ H74 hS74 hE74 hT74 Z=>?_)
 refine opsS_cons (fun f w_ _ _ s _ _ Z=>fA 0 fa_26_0 ((s 5 rfl).trans rfl) rfl (nO rfl rfl Z)) (opsS_cons (fun f w_ _ _ _ _ p Z=>ldB 0 Z Tryd.isAgg23 (p 0 20 rfl rfl) rfl rfl (nO rfl rfl Z)) (opsS_cons (fun f w_ _ _ s _ _ Z=>mF ((s 0 rfl).trans rfl) rfl (nO rfl rfl Z)) (opsS_cons ?_ ?_)))
 intro f w_ H74 X74 hS74 hE74 hP74 Z
 refine L_bs rfl (parts4 rfl rfl rfl rfl) (bs_23_4_0_0_0_0 (I (-1)) (I 4) (I 3) (I 9223372036854775807) rfl rfl rfl rfl) Z (fun g85 w86 Z=>?_)
 have Z:=litInts [(-1),4,3,9223372036854775807] 4 Z rfl rfl (by decide)
 have Z:=Z.gets [4,4,4,4] rfl
 exact L_nil ⟨rfl,_,_,rfl,Le.refl _,fun _ _=>trivial,Z⟩
 refine opsS_cons ?_ ?_
 intro f w_ H74 X74 hS74 hE74 hP74 Z
 have Z : Star H74 w_ (box g29 26 #[r26_0,r26_1] :: oF 3 RP.int r26_0 x14.sizes :: oS 54 (oRule 3 23) r26_1 x14.rules :: box g7 26 #[S0,S0] :: box g_0 88 #[v0_0,I x37.2] :: oF 3 RP.int (f 23) ([(-1),4,3,9223372036854775807]) :: X74):=Z
 have Z:=Z.get 4 rfl
 obtain ⟨H89b,l90,s91,z92,k93⟩:=Z.lend [_]
 have hb94 : (rS 3 RP.int).rel H89b [(f 23)] ([(-1),4,3,9223372036854775807]):=fz_own 4 z92 rfl
 refine L_call rfl Tryd.call47 (ops2 (hP74 2 22 rfl rfl) rfl) (s_l17Rd_num_c (r_:=({ b:=r_.b,p:=x37.2 } : Rd)) (list:=[(-1),4,3,9223372036854775807]) s91 (RP.mono _ h0_0 (Le.trans hE74 l90)) hb94 hx68) ?_
 rintro _ w95 ⟨rfl,Z⟩
 have Z:=k93 Z (cb c0)
 have Z:=Z.gets [5,5,5,5,5] rfl
 exact L_nil ⟨rfl,_,_,rfl,Le.refl _,fun _ _=>rfl,Z⟩
 exact opsS_nil
 have Z : Star H74 w_ ([box g29 26 #[r26_0,r26_1],oF 3 RP.int r26_0 x14.sizes,oS 54 (oRule 3 23) r26_1 x14.rules,box g7 26 #[S0,S0],oF 3 RP.int (f 23) ([(-1),4,3,9223372036854775807]),box g_0 88 #[v0_0,I x68.2]]):=Z
 obtain ⟨g96,cap_g96,hv97,_,_⟩:=Star.row 1 Z rfl hx70
 refine L_ixO (R:=(OR.frz RP.int)) (tb:=0) 0 rfl Tryd.underlying23 Tryd.sizeOf3 (hT74 1 21 rfl rfl) hv97 (by first | rfl | simp) rfl hx70 ?_
 have Z:=Star.addF (r:=RP.int) (cs:=[I x68.1]) (x:=x68.1) Z rfl
 have Z:=Z.gets [2,1] rfl
 refine L_stE1 (u:=I x68.1) rfl Tryd.sizeOf3 rfl rfl (hT74 4 24 rfl rfl) hv97 Z hx70 (fun w98 Z=>?_)
 refine nn ?_
 obtain ⟨rfl,rfl⟩:=so2 hA57
 have Z:=Z.gets [3,2,3,3,5] rfl
 exact rj hR57 ⟨H74,hE74,((hS74 4 rfl).trans rfl),((hS74 5 rfl).trans rfl),(Star.keepN 5 Z)⟩
 have hA57:=(ite_f hc58).symm.trans hA57
 refine W_skip ?_
 obtain ⟨rfl,rfl⟩:=so2 hA57
 have Z:=Z.gets [4,2,4,4,4] rfl
 exact rj hR57 ⟨H,(Le.refl _),rfl,rfl,(Star.keepN 5 Z)⟩
 intro f w_ hR
 obtain ⟨H55,l56,sf4,sf5,Z⟩:=rk hR57 hR
 obtain rfl:=so hA51
 exact rj hR51 ⟨g_0_1_53,g29_0_54,x14.rules,H55,r26_0,rfl,l56,sf4,sf5,Z⟩
 have hA51:=(ite_f hc52).symm.trans hA51
 refine sq (L_eql rfl rfl rfl (aB rfl (nn ?_)))
 obtain ⟨j105,hA105,hA51⟩:=bind_some hA51
 obtain ⟨R105,hR105⟩:=exR fun f w_=>∃ g_0_1_99 : Int,∃ g29_0_100 : List Int,∃ g29_1_102 : List Rule,∃ H103 : FH,∃ v100_g29_0 : Value,j105 = .nx (g_0_1_99,g29_0_100,g29_1_102)∧Le H H103∧f 4 = Pt g7∧f 5 = Pt g29∧Star H103 w_ ([box g_0 88 #[v0_0,I g_0_1_99],oF 3 RP.int v100_g29_0 g29_0_100,oS 54 (oRule 3 23) r26_1 g29_1_102,box g29 26 #[v100_g29_0,r26_1],box g7 26 #[S0,S0]])
 refine W_join R105 ?_ ?_
 refine W_cond (b:=(x37.1 == 1)) rfl (fun hc106=>?_) (fun hc106=>?_)
 have hA105:=(ite_t hc106).symm.trans hA105
 obtain ⟨j110,hL110,hA105⟩:=bind_some hA105
 obtain ⟨R110,hR110⟩:=exR fun f w_=>∃ g29_0_108 : List Int,∃ v108_g29_0 : Value,j110 = .nx g29_0_108∧f 4 = Pt g7∧f 5 = Pt g29∧Star H w_ ([box g_0 88 #[v0_0,I x37.2],oF 3 RP.int v108_g29_0 g29_0_108,oS 54 (oRule 3 23) r26_1 x14.rules,box g29 26 #[v108_g29_0,r26_1],box g7 26 #[S0,S0]])
 refine W_join R110 ?_ ?_
 refine W_block ?_
 obtain ⟨I110,hI110⟩:=exI fun n f w_=>∃ g29_0_108 : List Int,∃ v108_g29_0 : Value,whileL s_l6Mutate_b1 n g29_0_108 = some j110∧f 4 = Pt g7∧f 5 = Pt g29∧Star H w_ ([box g_0 88 #[v0_0,I x37.2],oF 3 RP.int v108_g29_0 g29_0_108,oS 54 (oRule 3 23) r26_1 x14.rules,box g29 26 #[v108_g29_0,r26_1],box g7 26 #[S0,S0]])
 have Z:=Z.gets [4,2,4,4,4] rfl
 refine W_loop I110 (n:=fu) ?_ ?_
 exact ij hI110 ⟨x14.sizes,r26_0,hL110,rfl,rfl,(Star.keepN 5 Z)⟩
 intro n110 f w_ hI
 obtain ⟨g29_0_108,v108_g29_0,hL110,sf4,sf5,Z⟩:=ik hI110 hI
 rcases n110 with _ | n110
 exact (while_zero hL110).elim
 obtain ⟨o110,hB110,hL110⟩:=while_succ hL110
 rw [s_l6Mutate_b1] at hB110
 refine W_seq (sq (fA 0 fa_26_0 sf5 rfl (ldB 3 Z Tryd.isAgg23 rfl rfl rfl (L_len rfl Tryd.underlying23 rfl (Star.len 1 Z rfl) (L_leq rfl rfl rfl (nn (W_cond (b:=decide ((g29_0_108.length : Int)≤5)) rfl (fun hc111=>?_) (fun hc111=>?_))))))))
 have hB110:=(ite_t hc111).symm.trans hB110
 refine W_skip (W_block ?_)
 obtain ⟨x115,hx115,hB110⟩:=bind_some hB110
 refine W_region (fA 0 fa_26_0 sf5 rfl (ldB 3 Z Tryd.isAgg23 rfl rfl rfl (L_bs rfl (parts1 rfl) (bs_23_1_0 (I 0) rfl) Z (fun g120 w121 Z=>?_))))
 have Z:=litInts [0] 1 Z rfl rfl (by decide)
 have Z:=Z.get 2 rfl
 refine L_appM (v:=v108_g29_0) (u:=(Sl g120 1 1)) rfl et_23 rfl rfl Z hx115 (fun v123 w124 Z=>fA 0 fa_26_0 sf5 rfl (L_stB (v:=v123) (cs2:=#[v123,r26_1]) 3 rfl Tryd.sizeOf23 rfl rfl (one_len (Star.len 0 Z rfl)) Z rfl rfl rfl (fun w126 Z=>nn ?_)))
 obtain rfl:=so hB110
 have Z:=Z.gets [4,1,4,3,4] rfl
 show ∃ m,m < _∧I110 m _ _
 refine ⟨n110,Nat.lt_succ_self _,?_⟩
 exact ij hI110 ⟨x115,v123,hL110,sf4,sf5,Z⟩
 have hB110:=(ite_f hc111).symm.trans hB110
 refine W_exit ?_
 obtain rfl:=so hB110
 obtain rfl:=so hL110
 exact rj hR110 ⟨g29_0_108,v108_g29_0,rfl,sf4,sf5,Z⟩
 intro f w_ hR
 obtain ⟨g29_0_108,v108_g29_0,rfl,sf4,sf5,Z⟩:=rk hR110 hR
 obtain rfl:=so hA105
 exact rj hR105 ⟨x37.2,g29_0_108,x14.rules,H,v108_g29_0,rfl,(Le.refl _),sf4,sf5,Z⟩
 have hA105:=(ite_f hc106).symm.trans hA105
 refine sq (L_eql rfl rfl rfl (aB rfl (nn ?_)))
 obtain ⟨j131,hA131,hA105⟩:=bind_some hA105
 obtain ⟨R131,hR131⟩:=exR fun f w_=>∃ g_0_1_127 : Int,∃ g29_1_128 : List Rule,∃ H129 : FH,j131 = .nx (g_0_1_127,g29_1_128)∧Le H H129∧f 4 = Pt g7∧f 5 = Pt g29∧Star H129 w_ ([box g_0 88 #[v0_0,I g_0_1_127],oF 3 RP.int r26_0 x14.sizes,oS 54 (oRule 3 23) r26_1 g29_1_128,box g29 26 #[r26_0,r26_1],box g7 26 #[S0,S0]])
 refine W_join R131 ?_ ?_
 refine W_cond (b:=(x37.1 == 2)) rfl (fun hc132=>?_) (fun hc132=>?_)
 have hA131:=(ite_t hc132).symm.trans hA131
 refine sq (mI rfl (L_gtr rfl rfl rfl (nn ?_)))
 obtain ⟨⟨g_0_1_133,g29_1_134⟩,hA137,hA131⟩:=bind_some hA131
 obtain ⟨R137,hR137⟩:=exR fun f w_=>∃ H135 : FH,Le H H135∧f 4 = Pt g7∧f 5 = Pt g29∧Star H135 w_ ([box g_0 88 #[v0_0,I g_0_1_133],oF 3 RP.int r26_0 x14.sizes,oS 54 (oRule 3 23) r26_1 g29_1_134,box g29 26 #[r26_0,r26_1],box g7 26 #[S0,S0]])
 refine W_join R137 ?_ ?_
 refine W_cond (b:=decide ((x14.rules.length : Int) > 0)) rfl (fun hc138=>?_) (fun hc138=>?_)
 have hA137:=(ite_t hc138).symm.trans hA137
 obtain ⟨x148,hx148,hA137⟩:=bind_some hA137
 obtain ⟨x150,hx150,hA137⟩:=bind_some hA137
 have Z:=Star.drop 5 Z rfl
 have Z:=Z.gets [4,4,4,4] rfl
 refine W_drawS 5 [isV (Pq g29 1),isV (r26_1),isV (Pt g_0),anyF,isV (I x148.1)] [box g29 26 #[r26_0,r26_1],oF 3 RP.int r26_0 x14.sizes,oS 54 (oRule 3 23) r26_1 x14.rules,box g7 26 #[S0,S0]] [.base (box g_0 88 #[v0_0,I x37.2]) (some 4),.made 3 44 (fun v_=>oF 3 RP.int v_ ([0,5,1,2,3])) none,.made 4 45 (fun v_=>box g_0 88 #[v0_0,I x148.2]) none] ([]) [([],[]),([],[]),([],[]),([],[1]),([0,1],[1,2])] (S:=[(none,[],some 4),(some 3,[44],none),(some 4,[45],none)]) Tryd_mix (by kernel_rfl) rfl (by kernel_rfl) (amF_cons (mono_V _) (amF_cons (mono_V _) (amF_cons (mono_V _) (amF_cons (mono_any) (amF_cons (mono_V _) amF_nil))))) Z ?_ (fun f w_ H154 hS154 hE154 hT154 Z=>?_)
 refine opsS_cons (fun f w_ _ _ s _ _ Z=>fA 1 fa_26_1 ((s 5 rfl).trans rfl) rfl (nO rfl rfl Z)) (opsS_cons (fun f w_ _ _ _ _ p Z=>ldB 0 Z Tryd.isAgg24 (p 0 41 rfl rfl) rfl rfl (nO rfl rfl Z)) (opsS_cons (fun f w_ _ _ s _ _ Z=>mF ((s 0 rfl).trans rfl) rfl (nO rfl rfl Z)) (opsS_cons ?_ ?_)))
 intro f w_ H154 X154 hS154 hE154 hP154 Z
 refine L_bs rfl (parts5 rfl rfl rfl rfl rfl) (bs_23_5_0_0_0_0_0 (I 0) (I 5) (I 1) (I 2) (I 3) rfl rfl rfl rfl rfl) Z (fun g165 w166 Z=>?_)
 have Z:=litInts [0,5,1,2,3] 5 Z rfl rfl (by decide)
 have Z:=Z.gets [4,4,4,4] rfl
 exact L_nil ⟨rfl,_,_,rfl,Le.refl _,fun _ _=>trivial,Z⟩
 refine opsS_cons ?_ ?_
 intro f w_ H154 X154 hS154 hE154 hP154 Z
 have Z : Star H154 w_ (box g29 26 #[r26_0,r26_1] :: oF 3 RP.int r26_0 x14.sizes :: oS 54 (oRule 3 23) r26_1 x14.rules :: box g7 26 #[S0,S0] :: box g_0 88 #[v0_0,I x37.2] :: oF 3 RP.int (f 44) ([0,5,1,2,3]) :: X154):=Z
 have Z:=Z.get 4 rfl
 obtain ⟨H169b,l170,s171,z172,k173⟩:=Z.lend [_]
 have hb174 : (rS 3 RP.int).rel H169b [(f 44)] ([0,5,1,2,3]):=fz_own 4 z172 rfl
 refine L_call rfl Tryd.call47 (ops2 (hP154 2 43 rfl rfl) rfl) (s_l17Rd_num_c (r_:=({ b:=r_.b,p:=x37.2 } : Rd)) (list:=[0,5,1,2,3]) s171 (RP.mono _ h0_0 (Le.trans hE154 l170)) hb174 hx148) ?_
 rintro _ w175 ⟨rfl,Z⟩
 have Z:=k173 Z (cb c0)
 have Z:=Z.gets [5,5,5,5,5] rfl
 exact L_nil ⟨rfl,_,_,rfl,Le.refl _,fun _ _=>rfl,Z⟩
 exact opsS_nil
 have Z : Star H154 w_ ([box g29 26 #[r26_0,r26_1],oF 3 RP.int r26_0 x14.sizes,oS 54 (oRule 3 23) r26_1 x14.rules,box g7 26 #[S0,S0],oF 3 RP.int (f 44) ([0,5,1,2,3]),box g_0 88 #[v0_0,I x148.2]]):=Z
 obtain ⟨g176,cap_g176,hv177,_,_⟩:=Star.row 2 Z rfl hx150
 refine L_ixO (R:=(oRule 3 23)) (tb:=0) 0 rfl Tryd.underlying24 Tryd.sizeOf54 (hT154 1 42 rfl rfl) hv177 (by first | rfl | simp) rfl hx150 (fA (Int.toNat 0 * 5 + 0) fa_54_0 rfl rfl ?_)
 have Z:=Z.get 2 rfl
 refine L_stF (j:=0) (u:=I x148.1) (z:={ x150 with kind:=x148.1 }) rfl Tryd.sizeOf3 rfl rfl (hT154 4 45 rfl rfl) rfl hv177 Z hx150 fld_oRule_0 (fun w178 Z=>nn ?_)
 obtain ⟨rfl,rfl⟩:=so2 hA137
 have Z:=Z.gets [3,2,2,3,5] rfl
 exact rj hR137 ⟨H154,hE154,((hS154 4 rfl).trans rfl),((hS154 5 rfl).trans rfl),(Star.keepN 5 Z)⟩
 have hA137:=(ite_f hc138).symm.trans hA137
 refine W_skip ?_
 obtain ⟨rfl,rfl⟩:=so2 hA137
 have Z:=Z.gets [4,2,4,4,4] rfl
 exact rj hR137 ⟨H,(Le.refl _),rfl,rfl,(Star.keepN 5 Z)⟩
 intro f w_ hR
 obtain ⟨H135,l136,sf4,sf5,Z⟩:=rk hR137 hR
 obtain rfl:=so hA131
 exact rj hR131 ⟨g_0_1_133,g29_1_134,H135,rfl,l136,sf4,sf5,Z⟩
 have hA131:=(ite_f hc132).symm.trans hA131
 refine sq (L_eql rfl rfl rfl (aB rfl (nn ?_)))
 obtain ⟨j183,hA183,hA131⟩:=bind_some hA131
 obtain ⟨R183,hR183⟩:=exR fun f w_=>∃ g_0_1_179 : Int,∃ g29_1_180 : List Rule,∃ H181 : FH,j183 = .nx (g_0_1_179,g29_1_180)∧Le H H181∧f 4 = Pt g7∧f 5 = Pt g29∧Star H181 w_ ([box g_0 88 #[v0_0,I g_0_1_179],oF 3 RP.int r26_0 x14.sizes,oS 54 (oRule 3 23) r26_1 g29_1_180,box g29 26 #[r26_0,r26_1],box g7 26 #[S0,S0]])
 refine W_join R183 ?_ ?_
 refine W_cond (b:=(x37.1 == 3)) rfl (fun hc184=>?_) (fun hc184=>?_)
 have hA183:=(ite_t hc184).symm.trans hA183
 refine W_seq ?_
 obtain ⟨b189,hb189,hA183⟩:=bind_some hA183
 obtain ⟨R190,hR190⟩:=exR fun f w_=>f 0 = Pt g_0∧f 4 = Pt g7∧f 5 = Pt g29∧f 6 = I (x14.rules.length : Int)∧f 62 = Bo b189∧Star H w_ ([box g_0 88 #[v0_0,I x37.2],oF 3 RP.int r26_0 x14.sizes,oS 54 (oRule 3 23) r26_1 x14.rules,box g29 26 #[r26_0,r26_1],box g7 26 #[S0,S0]])
 refine W_join R190 ?_ ?_
 refine W_region (mI rfl (L_gtr rfl rfl rfl (mB rfl (L_split (d:=52) (b:=decide ((x14.rules.length : Int) > 0)) rfl (fun hc191=>?_) (fun hc191=>?_)))))
 rw [ite_t hc191] at hb189
 obtain ⟨x185,hx185,hb189⟩:=bind_some hb189
 refine fA 1 fa_26_1 rfl rfl (ldB 1 Z Tryd.isAgg24 rfl rfl rfl (mI rfl (L_sub rfl rfl rfl ?_)))
 obtain ⟨g192,cap_g192,hv193,_,_⟩:=Star.row 3 Z rfl hx185
 refine L_ixO (R:=(oRule 3 23)) (tb:=0) 0 rfl Tryd.underlying24 Tryd.sizeOf54 rfl hv193 (by first | rfl | simp) rfl hx185 (fA (Int.toNat (i64 ((x14.rules.length : Int) - 1)) * 5 + 1) fa_54_1 rfl rfl ?_)
 obtain ⟨G194,cs194,hr194,hat194⟩:=Star.elt 3 Z rfl hv193 hx185
 obtain ⟨u194_1,u194_2,u194_4,rfl,ln194_1,ln194_2,ln194_4⟩:=oRule_lens hr194
 refine L_ld rfl Tryd.isAgg23 rfl (At.cell hat194 (j:=1) rfl) (L_len rfl Tryd.underlying23 rfl ln194_1 (L_gtr rfl rfl rfl (L_pick (v:=Bo b189) rfl rfl (congrArg Value.bool (so hb189)) (nn ?_))))
 have Z:=Z.gets [4,2,4,4,4] rfl
 exact rj hR190 ⟨rfl,rfl,rfl,rfl,rfl,(Star.keepN 5 Z)⟩
 rw [ite_f hc191] at hb189
 refine ps rfl (ps rfl (ps rfl (ps rfl (ps rfl (ps rfl (ps rfl (ps rfl (ps rfl (L_pick (v:=Bo b189) rfl rfl (congrArg Value.bool (so hb189)) (nn ?_))))))))))
 have Z:=Z.gets [4,2,4,4,4] rfl
 exact rj hR190 ⟨rfl,rfl,rfl,rfl,rfl,(Star.keepN 5 Z)⟩
 intro f w_ hR
 obtain ⟨sf0,sf4,sf5,sf6,sf62,Z⟩:=rk hR190 hR
 obtain ⟨⟨g_0_1_195,g29_1_196⟩,hA199,hA183⟩:=bind_some hA183
 obtain ⟨R199,hR199⟩:=exR fun f w_=>∃ H197 : FH,Le H H197∧f 4 = Pt g7∧f 5 = Pt g29∧Star H197 w_ ([box g_0 88 #[v0_0,I g_0_1_195],oF 3 RP.int r26_0 x14.sizes,oS 54 (oRule 3 23) r26_1 g29_1_196,box g29 26 #[r26_0,r26_1],box g7 26 #[S0,S0]])
 refine W_join R199 ?_ ?_
 refine W_cond (b:=b189) sf62 (fun hc200=>?_) (fun hc200=>?_)
 have hA199:=(ite_t hc200).symm.trans hA199
 obtain ⟨x201,hx201,hA199⟩:=bind_some hA199
 obtain ⟨x217,hx217,hA199⟩:=bind_some hA199
 obtain ⟨x219,hx219,hA199⟩:=bind_some hA199
 obtain ⟨g224,cap_g224,hv225,_,_⟩:=Star.row 2 Z rfl hx201
 have Z:=Z.gets [2,1,4,4,4] rfl
 refine W_drawS 10 [isV (Pq g29 1),isV (r26_1),isV (I (x14.rules.length : Int)),isV (I (i64 ((x14.rules.length : Int) - 1))),isV (.pointer (some ⟨g224,Int.toNat (i64 ((x14.rules.length : Int) - 1)) * 5,none⟩)),isV (.pointer (some ⟨g224,Int.toNat (i64 ((x14.rules.length : Int) - 1)) * 5 + 1,none⟩)),anyF,isV (Pt g_0),anyF,isV (I x217.1)] [oF 3 RP.int r26_0 x14.sizes,box g29 26 #[r26_0,r26_1],box g7 26 #[S0,S0]] [.base (box g_0 88 #[v0_0,I x37.2]) (some 9),.base (oS 54 (oRule 3 23) r26_1 x14.rules) (some 6),.made 6 69 (fun v_=>packA (fun (u_ : Value × Value)=>[hole 54 (oRule 3 23) r26_1 x14.rules (Int.toNat (i64 ((x14.rules.length : Int) - 1))) [I x201.kind,v_,u_.1,I x201.bound,u_.2],oF 3 RP.int u_.1 x201.coefs,own (OR.ownS 23 (OR.ownS 3 (OR.frz RP.int))) [u_.2] x201.rows])) none,.made 6 69 (fun v_=>oF 3 RP.int v_ x201.vars) none,.made 8 71 (fun v_=>oF 3 RP.int v_ ([(-1),5,1,0])) none,.made 9 72 (fun v_=>box g_0 88 #[v0_0,I x217.2]) none] ([]) [([],[]),([],[]),([],[]),([],[]),([1],[1]),([],[]),([1],[2,3]),([],[]),([],[4]),([0,4],[4,5])] (S:=[(none,[],some 9),(none,[],some 6),(some 6,[69],none),(some 6,[69],none),(some 8,[71],none),(some 9,[72],none)]) Tryd_mix (by kernel_rfl) rfl (by kernel_rfl) (amF_cons (mono_V _) (amF_cons (mono_V _) (amF_cons (mono_V _) (amF_cons (mono_V _) (amF_cons (mono_V _) (amF_cons (mono_V _) (amF_cons (mono_any) (amF_cons (mono_V _) (amF_cons (mono_any) (amF_cons (mono_V _) amF_nil)))))))))) Z ?_ (fun f w_ H223 hS223 hE223 hT223 Z=>?_)
 refine opsS_cons (fun f w_ _ _ s _ _ Z=>fA 1 fa_26_1 ((s 5 rfl).trans sf5) rfl (nO rfl rfl Z)) (opsS_cons (fun f w_ _ _ _ _ p Z=>ldB 1 Z Tryd.isAgg24 (p 0 63 rfl rfl) rfl rfl (nO rfl rfl Z)) (opsS_cons (fun f w_ _ _ s _ _ Z=>mF ((s 6 rfl).trans sf6) rfl (nO rfl rfl Z)) (opsS_cons (fun f w_ _ _ _ _ p Z=>L_sub rfl (p 2 65 rfl rfl) rfl (nO rfl rfl Z)) (opsS_cons ?_ ?_))))
 intro f w_ H223 X223 hS223 hE223 hP223 Z
 have Z : Star H223 w_ (oF 3 RP.int r26_0 x14.sizes :: box g29 26 #[r26_0,r26_1] :: box g7 26 #[S0,S0] :: oS 54 (oRule 3 23) r26_1 x14.rules :: X223):=Z
 refine L_ixO (R:=(oRule 3 23)) (tb:=0) 0 rfl Tryd.underlying24 Tryd.sizeOf54 (hP223 1 64 rfl rfl) hv225 (by first | rfl | simp) (hP223 3 66 rfl rfl) hx201 (L_nil ⟨rfl,_,_,rfl,Le.refl _,fun _ _=>rfl,Z⟩)
 refine opsS_cons (fun f w_ _ _ _ _ p Z=>fA (Int.toNat (i64 ((x14.rules.length : Int) - 1)) * 5 + 1) fa_54_1 (p 4 67 rfl rfl) rfl (nO rfl rfl Z)) (opsS_cons ?_ ?_)
 intro f w_ H223 X223 hS223 hE223 hP223 Z
 have Z : Star H223 w_ (oF 3 RP.int r26_0 x14.sizes :: box g29 26 #[r26_0,r26_1] :: box g7 26 #[S0,S0] :: oS 54 (oRule 3 23) r26_1 x14.rules :: X223):=Z
 have Z:=Z.get 3 rfl
 obtain ⟨cs240,Z,hat240⟩:=Star.focus Z hx201
 have hat240:=hat240 _ _ _ hv225
 obtain ⟨u240_0,u240_1,u240_2,rfl,Z⟩:=oRule_open Z
 refine L_ld rfl Tryd.isAgg23 (hP223 5 68 rfl rfl) (At.cell hat240 (j:=1) rfl) ?_
 have Z:=Z.gets [2,2,3] rfl
 have Z:=Star.pack (fun (u_ : Value × Value)=>[hole 54 (oRule 3 23) r26_1 x14.rules (Int.toNat (i64 ((x14.rules.length : Int) - 1))) [I x201.kind,u240_0,u_.1,I x201.bound,u_.2],oF 3 RP.int u_.1 x201.coefs,own (OR.ownS 23 (OR.ownS 3 (OR.frz RP.int))) [u_.2] x201.rows]) (u240_1,u240_2) Z
 have Z:=Z.gets [1,1,4,4,4] rfl
 exact L_nil ⟨rfl,_,_,rfl,Le.refl _,fun _ _=>trivial,Z⟩
 refine opsS_cons (fun f w_ _ _ s _ _ Z=>mF ((s 0 rfl).trans sf0) rfl (nO rfl rfl Z)) (opsS_cons ?_ ?_)
 intro f w_ H223 X223 hS223 hE223 hP223 Z
 refine L_bs rfl (parts4 rfl rfl rfl rfl) (bs_23_4_0_0_0_0 (I (-1)) (I 5) (I 1) (I 0) rfl rfl rfl rfl) Z (fun g244 w245 Z=>?_)
 have Z:=litInts [(-1),5,1,0] 4 Z rfl rfl (by decide)
 have Z:=Z.gets [3,3,3] rfl
 exact L_nil ⟨rfl,_,_,rfl,Le.refl _,fun _ _=>trivial,Z⟩
 refine opsS_cons ?_ ?_
 intro f w_ H223 X223 hS223 hE223 hP223 Z
 have Z : Star H223 w_ (oF 3 RP.int r26_0 x14.sizes :: box g29 26 #[r26_0,r26_1] :: box g7 26 #[S0,S0] :: box g_0 88 #[v0_0,I x37.2] :: oF 3 RP.int (f 71) ([(-1),5,1,0]) :: X223):=Z
 have Z:=Z.get 3 rfl
 obtain ⟨H248b,l249,s250,z251,k252⟩:=Z.lend [_]
 have hb253 : (rS 3 RP.int).rel H248b [(f 71)] ([(-1),5,1,0]):=fz_own 3 z251 rfl
 refine L_call rfl Tryd.call47 (ops2 (hP223 7 70 rfl rfl) rfl) (s_l17Rd_num_c (r_:=({ b:=r_.b,p:=x37.2 } : Rd)) (list:=[(-1),5,1,0]) s250 (RP.mono _ h0_0 (Le.trans hE223 l249)) hb253 hx217) ?_
 rintro _ w254 ⟨rfl,Z⟩
 have Z:=k252 Z (cb c0)
 have Z:=Z.gets [4,4,4,4] rfl
 exact L_nil ⟨rfl,_,_,rfl,Le.refl _,fun _ _=>rfl,Z⟩
 exact opsS_nil
 have Z : Star H223 w_ ([oF 3 RP.int r26_0 x14.sizes,box g29 26 #[r26_0,r26_1],box g7 26 #[S0,S0],packA (fun (u_ : Value × Value)=>[hole 54 (oRule 3 23) r26_1 x14.rules (Int.toNat (i64 ((x14.rules.length : Int) - 1))) [I x201.kind,(f 69),u_.1,I x201.bound,u_.2],oF 3 RP.int u_.1 x201.coefs,own (OR.ownS 23 (OR.ownS 3 (OR.frz RP.int))) [u_.2] x201.rows]),oF 3 RP.int (f 69) x201.vars,oF 3 RP.int (f 71) ([(-1),5,1,0]),box g_0 88 #[v0_0,I x217.2]]):=Z
 have Z:=Z.get 3 rfl
 obtain ⟨⟨u255_0,u256_1⟩,Z⟩:=Star.unpack Z
 have Z : Star H223 w_ ([hole 54 (oRule 3 23) r26_1 x14.rules (Int.toNat (i64 ((x14.rules.length : Int) - 1))) [I x201.kind,(f 69),u255_0,I x201.bound,u256_1],oF 3 RP.int u255_0 x201.coefs,own (OR.ownS 23 (OR.ownS 3 (OR.frz RP.int))) [u256_1] x201.rows,oF 3 RP.int r26_0 x14.sizes,box g29 26 #[r26_0,r26_1],box g7 26 #[S0,S0],oF 3 RP.int (f 69) x201.vars,oF 3 RP.int (f 71) ([(-1),5,1,0]),box g_0 88 #[v0_0,I x217.2]]):=Z
 obtain ⟨g258,cap_g258,hv259,_,_⟩:=Star.row 6 Z rfl hx219
 refine L_ixO (R:=(OR.frz RP.int)) (tb:=0) 0 rfl Tryd.underlying23 Tryd.sizeOf3 rfl hv259 (by first | rfl | simp) rfl hx219 ?_
 have Z:=Star.addF (r:=RP.int) (cs:=[I x217.1]) (x:=x217.1) Z rfl
 have Z:=Z.gets [7,1] rfl
 refine L_stE1 (u:=I x217.1) rfl Tryd.sizeOf3 rfl rfl (hT223 9 72 rfl rfl) hv259 Z hx219 (fun w260 Z=>?_)
 refine nn ?_
 obtain ⟨rfl,rfl⟩:=so2 hA199
 have Z:=Z.gets [1,3,3,3] rfl
 have Z:=oRule_close (r:=({ kind:=x201.kind,vars:=(x201.vars.set (Int.toNat 0) x217.1),coefs:=x201.coefs,bound:=x201.bound,rows:=x201.rows } : Rule)) Z
 have Z:=Star.unfocus (x':=({ kind:=x201.kind,vars:=(x201.vars.set (Int.toNat 0) x217.1),coefs:=x201.coefs,bound:=x201.bound,rows:=x201.rows } : Rule)) (idx_some hx201).2.2 Z
 have Z:=Z.gets [3,3,2,3,5] rfl
 exact rj hR199 ⟨H223,hE223,((hS223 4 rfl).trans sf4),((hS223 5 rfl).trans sf5),(Star.keepN 5 Z)⟩
 have hA199:=(ite_f hc200).symm.trans hA199
 refine W_skip ?_
 obtain ⟨rfl,rfl⟩:=so2 hA199
 exact rj hR199 ⟨H,(Le.refl _),sf4,sf5,Z⟩
 intro f w_ hR
 obtain ⟨H197,l198,sf4,sf5,Z⟩:=rk hR199 hR
 obtain rfl:=so hA183
 exact rj hR183 ⟨g_0_1_195,g29_1_196,H197,rfl,l198,sf4,sf5,Z⟩
 have hA183:=(ite_f hc184).symm.trans hA183
 refine sq (L_eql rfl rfl rfl (aB rfl (nn ?_)))
 obtain ⟨j265,hA265,hA183⟩:=bind_some hA183
 obtain ⟨R265,hR265⟩:=exR fun f w_=>∃ g_0_1_261 : Int,∃ g29_1_262 : List Rule,∃ H263 : FH,j265 = .nx (g_0_1_261,g29_1_262)∧Le H H263∧f 4 = Pt g7∧f 5 = Pt g29∧Star H263 w_ ([box g_0 88 #[v0_0,I g_0_1_261],oF 3 RP.int r26_0 x14.sizes,oS 54 (oRule 3 23) r26_1 g29_1_262,box g29 26 #[r26_0,r26_1],box g7 26 #[S0,S0]])
 refine W_join R265 ?_ ?_
 refine W_cond (b:=(x37.1 == 4)) rfl (fun hc266=>?_) (fun hc266=>?_)
 have hA265:=(ite_t hc266).symm.trans hA265
 refine sq (mI rfl (L_gtr rfl rfl rfl (nn ?_)))
 obtain ⟨⟨g_0_1_267,g29_1_268⟩,hA271,hA265⟩:=bind_some hA265
 obtain ⟨R271,hR271⟩:=exR fun f w_=>∃ H269 : FH,Le H H269∧f 4 = Pt g7∧f 5 = Pt g29∧Star H269 w_ ([box g_0 88 #[v0_0,I g_0_1_267],oF 3 RP.int r26_0 x14.sizes,oS 54 (oRule 3 23) r26_1 g29_1_268,box g29 26 #[r26_0,r26_1],box g7 26 #[S0,S0]])
 refine W_join R271 ?_ ?_
 refine W_cond (b:=decide ((x14.rules.length : Int) > 0)) rfl (fun hc272=>?_) (fun hc272=>?_)
 have hA271:=(ite_t hc272).symm.trans hA271
 obtain ⟨x282,hx282,hA271⟩:=bind_some hA271
 obtain ⟨x284,hx284,hA271⟩:=bind_some hA271
 have Z:=Star.drop 5 Z rfl
 have Z:=Z.gets [4,4,4,4] rfl
 refine W_drawS 5 [isV (Pq g29 1),isV (r26_1),isV (Pt g_0),anyF,isV (I x282.1)] [box g29 26 #[r26_0,r26_1],oF 3 RP.int r26_0 x14.sizes,oS 54 (oRule 3 23) r26_1 x14.rules,box g7 26 #[S0,S0]] [.base (box g_0 88 #[v0_0,I x37.2]) (some 4),.made 3 81 (fun v_=>oF 3 RP.int v_ ([1001,(-1001),1000])) none,.made 4 82 (fun v_=>box g_0 88 #[v0_0,I x282.2]) none] ([]) [([],[]),([],[]),([],[]),([],[1]),([0,1],[1,2])] (S:=[(none,[],some 4),(some 3,[81],none),(some 4,[82],none)]) Tryd_mix (by kernel_rfl) rfl (by kernel_rfl) (amF_cons (mono_V _) (amF_cons (mono_V _) (amF_cons (mono_V _) (amF_cons (mono_any) (amF_cons (mono_V _) amF_nil))))) Z ?_ (fun f w_ H288 hS288 hE288 hT288 Z=>?_)
 refine opsS_cons (fun f w_ _ _ s _ _ Z=>fA 1 fa_26_1 ((s 5 rfl).trans rfl) rfl (nO rfl rfl Z)) (opsS_cons (fun f w_ _ _ _ _ p Z=>ldB 0 Z Tryd.isAgg24 (p 0 78 rfl rfl) rfl rfl (nO rfl rfl Z)) (opsS_cons (fun f w_ _ _ s _ _ Z=>mF ((s 0 rfl).trans rfl) rfl (nO rfl rfl Z)) (opsS_cons ?_ ?_)))
 intro f w_ H288 X288 hS288 hE288 hP288 Z
 refine L_bs rfl (parts3 rfl rfl rfl) (bs_23_3_0_0_0 (I 1001) (I (-1001)) (I 1000) rfl rfl rfl) Z (fun g299 w300 Z=>?_)
 have Z:=litInts [1001,(-1001),1000] 3 Z rfl rfl (by decide)
 have Z:=Z.gets [4,4,4,4] rfl
 exact L_nil ⟨rfl,_,_,rfl,Le.refl _,fun _ _=>trivial,Z⟩
 refine opsS_cons ?_ ?_
 intro f w_ H288 X288 hS288 hE288 hP288 Z
 have Z : Star H288 w_ (box g29 26 #[r26_0,r26_1] :: oF 3 RP.int r26_0 x14.sizes :: oS 54 (oRule 3 23) r26_1 x14.rules :: box g7 26 #[S0,S0] :: box g_0 88 #[v0_0,I x37.2] :: oF 3 RP.int (f 81) ([1001,(-1001),1000]) :: X288):=Z
 have Z:=Z.get 4 rfl
 obtain ⟨H303b,l304,s305,z306,k307⟩:=Z.lend [_]
 have hb308 : (rS 3 RP.int).rel H303b [(f 81)] ([1001,(-1001),1000]):=fz_own 4 z306 rfl
 refine L_call rfl Tryd.call47 (ops2 (hP288 2 80 rfl rfl) rfl) (s_l17Rd_num_c (r_:=({ b:=r_.b,p:=x37.2 } : Rd)) (list:=[1001,(-1001),1000]) s305 (RP.mono _ h0_0 (Le.trans hE288 l304)) hb308 hx282) ?_
 rintro _ w309 ⟨rfl,Z⟩
 have Z:=k307 Z (cb c0)
 have Z:=Z.gets [5,5,5,5,5] rfl
 exact L_nil ⟨rfl,_,_,rfl,Le.refl _,fun _ _=>rfl,Z⟩
 exact opsS_nil
 have Z : Star H288 w_ ([box g29 26 #[r26_0,r26_1],oF 3 RP.int r26_0 x14.sizes,oS 54 (oRule 3 23) r26_1 x14.rules,box g7 26 #[S0,S0],oF 3 RP.int (f 81) ([1001,(-1001),1000]),box g_0 88 #[v0_0,I x282.2]]):=Z
 obtain ⟨g310,cap_g310,hv311,_,_⟩:=Star.row 2 Z rfl hx284
 refine L_ixO (R:=(oRule 3 23)) (tb:=0) 0 rfl Tryd.underlying24 Tryd.sizeOf54 (hT288 1 79 rfl rfl) hv311 (by first | rfl | simp) rfl hx284 (fA (Int.toNat 0 * 5 + 3) fa_54_3 rfl rfl ?_)
 have Z:=Z.get 2 rfl
 refine L_stF (j:=3) (u:=I x282.1) (z:={ x284 with bound:=x282.1 }) rfl Tryd.sizeOf3 rfl rfl (hT288 4 82 rfl rfl) rfl hv311 Z hx284 fld_oRule_3 (fun w312 Z=>nn ?_)
 obtain ⟨rfl,rfl⟩:=so2 hA271
 have Z:=Z.gets [3,2,2,3,5] rfl
 exact rj hR271 ⟨H288,hE288,((hS288 4 rfl).trans rfl),((hS288 5 rfl).trans rfl),(Star.keepN 5 Z)⟩
 have hA271:=(ite_f hc272).symm.trans hA271
 refine W_skip ?_
 obtain ⟨rfl,rfl⟩:=so2 hA271
 have Z:=Z.gets [4,2,4,4,4] rfl
 exact rj hR271 ⟨H,(Le.refl _),rfl,rfl,(Star.keepN 5 Z)⟩
 intro f w_ hR
 obtain ⟨H269,l270,sf4,sf5,Z⟩:=rk hR271 hR
 obtain rfl:=so hA265
 exact rj hR265 ⟨g_0_1_267,g29_1_268,H269,rfl,l270,sf4,sf5,Z⟩
 have hA265:=(ite_f hc266).symm.trans hA265
 refine sq (L_eql rfl rfl rfl (aB rfl (nn (W_cond (b:=(x37.1 == 5)) rfl (fun hc313=>?_) (fun hc313=>?_)))))
 have hA265:=(ite_t hc313).symm.trans hA265
 refine sq (L_bld rfl (parts0 ) (bld_26_  ) (L_staB (vs:=#[S0,S0]) (cs2:=#[S0,S0]) 4 rfl Tryd.sizeOf26 rfl rfl rfl (ones_cons rfl (ones_cons rfl ones_nil)) Z rfl (by show 0 + 2≤2; decide) rfl (fun w315 Z=>nn (W_ret (retG1 (v1:=.agg #[S0,S0]) Tryd.results22 (resV_agg Tryd.isAgg26 Tryd.sizeOf26 rfl (Star.blkAt 0 Z rfl) rfl) ?_)))))
 obtain rfl:=so hA265
 obtain rfl:=so hA183
 obtain rfl:=so hA131
 obtain rfl:=so hA105
 obtain rfl:=so hA51
 obtain rfl:=so hF
 have Z:=Star.addNil (R:=(OR.frz RP.int)) (e:=3) Z
 have Z:=Star.addNil (R:=(oRule 3 23)) (e:=54) Z
 have Z:=Z.gets [3,1,2] rfl
 exact ⟨S0,S0,rfl,(Star.keepN 3 Z)⟩
 have hA265:=(ite_f hc313).symm.trans hA265
 refine W_skip ?_
 obtain rfl:=so hA265
 have Z:=Z.gets [4,2,4,4,4] rfl
 exact rj hR265 ⟨x37.2,x14.rules,H,rfl,(Le.refl _),rfl,rfl,(Star.keepN 5 Z)⟩
 intro f w_ hR
 obtain ⟨g_0_1_261,g29_1_262,H263,rfl,l264,sf4,sf5,Z⟩:=rk hR265 hR
 obtain rfl:=so hA183
 exact rj hR183 ⟨g_0_1_261,g29_1_262,H263,rfl,l264,sf4,sf5,Z⟩
 intro f w_ hR
 obtain ⟨g_0_1_179,g29_1_180,H181,rfl,l182,sf4,sf5,Z⟩:=rk hR183 hR
 obtain rfl:=so hA131
 exact rj hR131 ⟨g_0_1_179,g29_1_180,H181,rfl,l182,sf4,sf5,Z⟩
 intro f w_ hR
 obtain ⟨g_0_1_127,g29_1_128,H129,rfl,l130,sf4,sf5,Z⟩:=rk hR131 hR
 obtain rfl:=so hA105
 exact rj hR105 ⟨g_0_1_127,x14.sizes,g29_1_128,H129,r26_0,rfl,l130,sf4,sf5,Z⟩
 intro f w_ hR
 obtain ⟨g_0_1_99,g29_0_100,g29_1_102,H103,v100_g29_0,rfl,l104,sf4,sf5,Z⟩:=rk hR105 hR
 obtain rfl:=so hA51
 exact rj hR51 ⟨g_0_1_99,g29_0_100,g29_1_102,H103,v100_g29_0,rfl,l104,sf4,sf5,Z⟩
 intro f w_ hR
 obtain ⟨g_0_1_45,g29_0_46,g29_1_48,H49,v46_g29_0,rfl,l50,sf4,sf5,Z⟩:=rk hR51 hR
 refine sq (L_lda (cs:=[v46_g29_0,r26_1]) rfl Tryd.isAgg26 Tryd.sizeOf26 sf5 (At.sub0 (Blk.at (Star.blkAt 3 Z rfl)) 0 2) rfl (L_staB (vs:=#[v46_g29_0,r26_1]) (cs2:=#[v46_g29_0,r26_1]) 4 rfl Tryd.sizeOf26 sf4 rfl rfl (ones_cons (one_len (Star.len 1 Z rfl)) (ones_cons (one_len (Star.len 2 Z rfl)) ones_nil)) Z rfl (by show 0 + 2≤2; decide) rfl (fun w319 Z=>nn (W_ret (retG1 (v1:=.agg #[v46_g29_0,r26_1]) Tryd.results22 (resV_agg Tryd.isAgg26 Tryd.sizeOf26 sf4 (Star.blkAt 0 Z rfl) rfl) ?_)))))
 obtain rfl:=so hF
 have Z:=Z.gets [1,3,3] rfl
 exact ⟨v46_g29_0,r26_1,rfl,(Star.down (Star.keepN 3 Z) l50 (co closed_int (co closed_oRule (cb c0))))⟩
theorem s_DrawModelSame_c {fu : Nat} {code : List UInt8} {v0 : Value} {H : FH} {w : World} {R : List Ass} (Z : Star H w R) (h0 : (rS 5 RP.u8).rel H [v0] code) {r : Model × Model} (hF : s_DrawModelSame fu code = some r) :
 C Tryd.prog 6 #[v0] w fun v w'=>∃ H' : FH,Le H H'∧∃ (u1 : Value) (u2 : Value) (u3 : Value) (u4 : Value),v = .tuple #[.agg #[u1,u2],.agg #[u3,u4]]∧(rS 3 RP.int).rel H' [u1] r.1.sizes∧(rS 3 RP.int).rel H' [u3] r.2.sizes∧Star H' w' (oS 54 (oRule 3 23) u2 r.1.rules :: oS 54 (oRule 3 23) u4 r.2.rules :: R):=by
 unfold s_DrawModelSame at hF
 refine C_enter Tryd.func6 rfl Tryd.ntmps6 rfl (sq (L_al (cs:=#[S0,S0]) rfl Tryd.zeroValue26 rfl Z (fun g5 w6 Z=>L_al (cs:=#[S0,S0]) rfl Tryd.zeroValue26 rfl Z (fun g7 w8 Z=>nq ?_))))
 obtain ⟨x9,hx9,hF⟩:=bind_some hF
 refine W_region (mV v0 rfl (L_call rfl Tryd.call19 (ops1 rfl) (s_l17Open_c (code:=code) Z h0 hx9) ?_))
 rintro _ w11 ⟨H11,l11,r11_0,r11_1,rfl,hr11_1,Z⟩
 refine aV (Pt r11_0) rfl (nq ?_)
 obtain ⟨x12,hx12,hF⟩:=bind_some hF
 refine W_region (mV (Pt r11_0) rfl (L_call rfl Tryd.call20 (ops1 rfl) (s_l6Model_c (r_:=x9) Z hr11_1 hx12) ?_))
 rintro _ w18 ⟨H18,l18,r18_0,r18_1,rfl,hr18_0,Z⟩
 refine L_al (cs:=#[S0,S0]) rfl Tryd.zeroValue26 rfl Z (fun g20 w21 Z=>L_staB (vs:=#[r18_0,r18_1]) (cs2:=#[r18_0,r18_1]) 0 rfl Tryd.sizeOf26 rfl rfl rfl (ones_cons (one_len (slice_len hr18_0)) (ones_cons (one_len (Star.len 1 Z rfl)) ones_nil)) Z rfl (by show 0 + 2≤2; decide) rfl (fun w22 Z=>nq (W_seq ?_)))
 obtain ⟨x28,hx28,hF⟩:=bind_some hF
 refine W_region (mV (Pt r11_0) rfl ?_)
 have Z:=Z.get 2 rfl
 obtain ⟨H30b,l31,s32,z33,k34⟩:=Z.lend [_]
 refine L_call rfl Tryd.call21 (ops2 rfl rfl) (s_l17Rd_pick_c (r_:=({ b:=x9.b,p:=x12.2 } : Rd)) (n_:=2) s32 (RP.mono _ hr11_1 (Le.trans l18 l31)) hx28) ?_
 rintro _ w35 ⟨rfl,Z⟩
 have Z:=k34 Z (cb c0)
 refine L_eql rfl rfl rfl (nn (W_cond (b:=(x28.1 == 0)) rfl (fun hc36=>?_) (fun hc36=>?_)))
 have hF:=(ite_t hc36).symm.trans hF
 refine W_seq ?_
 obtain ⟨x37,hx37,hF⟩:=bind_some hF
 have Z:=Z.gets [4,4,4,4] rfl
 refine W_drawS 3 [isV (.agg #[r18_0,r18_1]),isV (Pt r11_0),exD (isData (rS 3 RP.int) x37.1.sizes) fun u_0=>exA fun u_1=>isV (.agg #[u_0,u_1])] [box g20 26 #[r18_0,r18_1],oS 54 (oRule 3 23) r18_1 x12.1.rules,box g7 26 #[S0,S0],box g5 26 #[S0,S0]] [.base (box r11_0 88 #[r11_1,I x28.2]) (some 2),.made 2 15 (fun v_=>oS 54 (oRule 3 23) (aggC v_ 1) x37.1.rules) none,.made 2 15 (fun v_=>box r11_0 88 #[r11_1,I x37.2]) none] (R) [([],[]),([],[]),([0],[1,2])] (S:=[(none,[],some 2),(some 2,[15],none),(some 2,[15],none)]) Tryd_mix (by kernel_rfl) rfl (by kernel_rfl) (amF_cons (mono_V _) (amF_cons (mono_V _) (amF_cons (mono_exD (mono_data _ _) fun _=>mono_exA fun _=>mono_V _) amF_nil))) Z ?_ (fun f w_ H42 hS42 hE42 hT42 Z=>?_)
 refine opsS_cons (fun f w_ _ _ s _ _ Z=>L_lda (cs:=[r18_0,r18_1]) rfl Tryd.isAgg26 Tryd.sizeOf26 ((s 5 rfl).trans rfl) (At.sub0 (Blk.at (Star.blkAt 0 Z rfl)) 0 2) rfl (nO rfl rfl Z)) (opsS_cons (fun f w_ _ _ s _ _ Z=>mF ((s 4 rfl).trans rfl) rfl (nO rfl rfl Z)) (opsS_cons ?_ ?_))
 intro f w_ H42 X42 hS42 hE42 hP42 Z
 have Z : Star H42 w_ (box g20 26 #[r18_0,r18_1] :: oS 54 (oRule 3 23) r18_1 x12.1.rules :: box g7 26 #[S0,S0] :: box g5 26 #[S0,S0] :: box r11_0 88 #[r11_1,I x28.2] :: X42):=Z
 have Z:=Z.get 4 rfl
 refine L_call rfl Tryd.call20 (ops1 (hP42 1 14 rfl rfl)) (s_l6Model_c (r_:=({ b:=x9.b,p:=x28.2 } : Rd)) Z (RP.mono _ hr11_1 (Le.trans l18 hE42)) hx37) ?_
 rintro _ w45 ⟨H45,l45,r45_0,r45_1,rfl,hr45_0,Z⟩
 have Z:=Z.gets [1,1,5,5,5,5] rfl
 exact L_nil ⟨rfl,_,_,rfl,l45,fun _ _=>⟨_,hr45_0,_,rfl⟩,Z⟩
 exact opsS_nil
 have Z : Star H42 w_ (box g20 26 #[r18_0,r18_1] :: oS 54 (oRule 3 23) r18_1 x12.1.rules :: box g7 26 #[S0,S0] :: box g5 26 #[S0,S0] :: own (OR.ownS 54 (oRule 3 23)) [(aggC (f 15) 1)] x37.1.rules :: box r11_0 88 #[r11_1,I x37.2] :: R):=Z
 obtain ⟨u47_0,hu47_0,u47_1,hv47⟩:=(hT42 2 15 rfl rfl)
 have hren : Star H42 w_ (box g20 26 #[r18_0,r18_1] :: oS 54 (oRule 3 23) r18_1 x12.1.rules :: box g7 26 #[S0,S0] :: box g5 26 #[S0,S0] :: own (OR.ownS 54 (oRule 3 23)) [(aggC (f 15) 1)] x37.1.rules :: box r11_0 88 #[r11_1,I x37.2] :: R):=Z
 rw [hv47] at hren
 have Z : Star H42 w_ (box g20 26 #[r18_0,r18_1] :: oS 54 (oRule 3 23) r18_1 x12.1.rules :: box g7 26 #[S0,S0] :: box g5 26 #[S0,S0] :: oS 54 (oRule 3 23) u47_1 x37.1.rules :: box r11_0 88 #[r11_1,I x37.2] :: R):=hren
 refine L_staB (vs:=#[r18_0,r18_1]) (cs2:=#[r18_0,r18_1]) 3 rfl Tryd.sizeOf26 ((hS42 2 rfl).trans rfl) (hT42 0 13 rfl rfl) rfl (ones_cons (one_len (slice_len (RP.mono _ hr18_0 hE42))) (ones_cons (one_len (Star.len 1 Z rfl)) ones_nil)) Z rfl (by show 0 + 2≤2; decide) rfl (fun w48 Z=>L_staB (vs:=#[u47_0,u47_1]) (cs2:=#[u47_0,u47_1]) 3 rfl Tryd.sizeOf26 ((hS42 3 rfl).trans rfl) hv47 rfl (ones_cons (one_len (slice_len hu47_0)) (ones_cons (one_len (Star.len 4 Z rfl)) ones_nil)) Z rfl (by show 0 + 2≤2; decide) rfl (fun w49 Z=>nn (W_ret (retG2 (v1:=.agg #[r18_0,r18_1]) (v2:=.agg #[u47_0,u47_1]) Tryd.results6 (resV_agg Tryd.isAgg26 Tryd.sizeOf26 ((hS42 2 rfl).trans rfl) (Star.blkAt 1 Z rfl) rfl) (resV_agg Tryd.isAgg26 Tryd.sizeOf26 ((hS42 3 rfl).trans rfl) (Star.blkAt 0 Z rfl) rfl) ?_))))
 obtain rfl:=so hF
 have Z:=Z.gets [4,4] rfl
 have Z:=Star.drop 2 Z rfl
 have Z:=Star.drop 2 Z rfl
 have Z:=Star.drop 2 Z rfl
 have Z:=Star.drop 2 Z rfl
 exact ⟨H42,(Le.trans (Le.trans l11 l18) hE42),r18_0,r18_1,u47_0,u47_1,rfl,(RP.mono _ hr18_0 hE42),hu47_0,Z⟩
 have hF:=(ite_f hc36).symm.trans hF
 refine W_skip (W_seq ?_)
 obtain ⟨x56,hx56,hF⟩:=bind_some hF
 obtain ⟨x67,hx67,hF⟩:=bind_some hF
 obtain ⟨x78,hx78,hF⟩:=bind_some hF
 have Z:=Z.gets [4,4,4,4] rfl
 refine W_drawS 8 [isV (.agg #[r18_0,r18_1]),isV (Pt r11_0),isV (Pt r11_0),isV (Pt r11_0),isV (.agg #[r18_0,r18_1]),exA fun u_0=>exA fun u_1=>isV (.agg #[u_0,u_1]),exA fun u_0=>exA fun u_1=>isV (.agg #[u_0,u_1]),exA fun u_0=>exA fun u_1=>isV (.agg #[u_0,u_1])] [box g20 26 #[r18_0,r18_1],oS 54 (oRule 3 23) r18_1 x12.1.rules,box g7 26 #[S0,S0],box g5 26 #[S0,S0]] [.base (box r11_0 88 #[r11_1,I x28.2]) (some 5),.made 5 21 (fun v_=>oF 3 RP.int (aggC v_ 0) x56.1.sizes) none,.made 5 21 (fun v_=>oS 54 (oRule 3 23) (aggC v_ 1) x56.1.rules) none,.made 5 21 (fun v_=>box r11_0 88 #[r11_1,I x56.2]) (some 6),.made 6 22 (fun v_=>oF 3 RP.int (aggC v_ 0) x67.1.sizes) none,.made 6 22 (fun v_=>oS 54 (oRule 3 23) (aggC v_ 1) x67.1.rules) none,.made 6 22 (fun v_=>box r11_0 88 #[r11_1,I x67.2]) (some 7),.made 7 23 (fun v_=>oF 3 RP.int (aggC v_ 0) x78.1.sizes) none,.made 7 23 (fun v_=>oS 54 (oRule 3 23) (aggC v_ 1) x78.1.rules) none,.made 7 23 (fun v_=>box r11_0 88 #[r11_1,I x78.2]) none] (R) [([],[]),([],[]),([],[]),([],[]),([],[]),([0],[1,2,3]),([1,2,3],[1,2,4,5,6]),([4,5,6],[4,5,7,8,9])] (S:=[(none,[],some 5),(some 5,[21],none),(some 5,[21],none),(some 5,[21],some 6),(some 6,[22],none),(some 6,[22],none),(some 6,[22],some 7),(some 7,[23],none),(some 7,[23],none),(some 7,[23],none)]) Tryd_mix (by kernel_rfl) rfl (by kernel_rfl) (amF_cons (mono_V _) (amF_cons (mono_V _) (amF_cons (mono_V _) (amF_cons (mono_V _) (amF_cons (mono_V _) (amF_cons (mono_exA fun _=>mono_exA fun _=>mono_V _) (amF_cons (mono_exA fun _=>mono_exA fun _=>mono_V _) (amF_cons (mono_exA fun _=>mono_exA fun _=>mono_V _) amF_nil)))))))) Z ?_ (fun f w_ H84 hS84 hE84 hT84 Z=>?_)
 refine opsS_cons (fun f w_ _ _ s _ _ Z=>L_lda (cs:=[r18_0,r18_1]) rfl Tryd.isAgg26 Tryd.sizeOf26 ((s 5 rfl).trans rfl) (At.sub0 (Blk.at (Star.blkAt 0 Z rfl)) 0 2) rfl (nO rfl rfl Z)) (opsS_cons (fun f w_ _ _ s _ _ Z=>mF ((s 4 rfl).trans rfl) rfl (nO rfl rfl Z)) (opsS_cons (fun f w_ _ _ s _ _ Z=>mF ((s 4 rfl).trans rfl) rfl (nO rfl rfl Z)) (opsS_cons (fun f w_ _ _ s _ _ Z=>mF ((s 4 rfl).trans rfl) rfl (nO rfl rfl Z)) (opsS_cons (fun f w_ _ _ s _ _ Z=>L_lda (cs:=[r18_0,r18_1]) rfl Tryd.isAgg26 Tryd.sizeOf26 ((s 5 rfl).trans rfl) (At.sub0 (Blk.at (Star.blkAt 0 Z rfl)) 0 2) rfl (nO rfl rfl Z)) (opsS_cons ?_ ?_)))))
 intro f w_ H84 X84 hS84 hE84 hP84 Z
 have Z : Star H84 w_ (box g20 26 #[r18_0,r18_1] :: oS 54 (oRule 3 23) r18_1 x12.1.rules :: box g7 26 #[S0,S0] :: box g5 26 #[S0,S0] :: box r11_0 88 #[r11_1,I x28.2] :: X84):=Z
 have Z:=Z.get 4 rfl
 obtain ⟨H114b,l115,s116,z117,k118⟩:=Z.lend [_]
 have hb119 : (rS 54 (rRule 3 23)).rel H114b [r18_1] x12.1.rules:=fz_own 1 z117 rfl
 refine L_call rfl Tryd.call22 (ops2 (hP84 3 19 rfl rfl) (hP84 4 20 rfl rfl)) (s_l6Mutate_c (r_:=({ b:=x9.b,p:=x28.2 } : Rd)) (m:=x12.1) s116 (RP.mono _ hr11_1 (Le.trans (Le.trans l18 hE84) l115)) (RP.mono _ hr18_0 (Le.trans hE84 l115)) hb119 hx56) ?_
 rintro _ w120 ⟨r120_0,r120_1,rfl,Z⟩
 have Z:=k118 Z (co closed_int (co closed_oRule (cb c0)))
 have Z:=Z.gets [2,2,2,6,6,6,6] rfl
 exact L_nil ⟨rfl,_,_,rfl,Le.refl _,fun _ _=>⟨_,_,rfl⟩,Z⟩
 refine opsS_cons ?_ ?_
 intro f w_ H84 X84 hS84 hE84 hP84 Z
 have Z : Star H84 w_ (box g20 26 #[r18_0,r18_1] :: oS 54 (oRule 3 23) r18_1 x12.1.rules :: box g7 26 #[S0,S0] :: box g5 26 #[S0,S0] :: own (OR.ownS 3 (OR.frz RP.int)) [(aggC (f 21) 0)] x56.1.sizes :: own (OR.ownS 54 (oRule 3 23)) [(aggC (f 21) 1)] x56.1.rules :: box r11_0 88 #[r11_1,I x56.2] :: X84):=Z
 obtain ⟨u123_0,u123_1,hv123⟩:=(hP84 5 21 rfl rfl)
 have hren : Star H84 w_ (box g20 26 #[r18_0,r18_1] :: oS 54 (oRule 3 23) r18_1 x12.1.rules :: box g7 26 #[S0,S0] :: box g5 26 #[S0,S0] :: own (OR.ownS 3 (OR.frz RP.int)) [(aggC (f 21) 0)] x56.1.sizes :: own (OR.ownS 54 (oRule 3 23)) [(aggC (f 21) 1)] x56.1.rules :: box r11_0 88 #[r11_1,I x56.2] :: X84):=Z
 rw [hv123] at hren
 have Z : Star H84 w_ (box g20 26 #[r18_0,r18_1] :: oS 54 (oRule 3 23) r18_1 x12.1.rules :: box g7 26 #[S0,S0] :: box g5 26 #[S0,S0] :: oF 3 RP.int u123_0 x56.1.sizes :: oS 54 (oRule 3 23) u123_1 x56.1.rules :: box r11_0 88 #[r11_1,I x56.2] :: X84):=hren
 have Z:=Z.get 6 rfl
 obtain ⟨H124b,l125,s126,z127,k128⟩:=Z.lend [_]
 have hb129 : (rS 3 RP.int).rel H124b [u123_0] x56.1.sizes:=fz_own 4 z127 rfl
 have hb130 : (rS 54 (rRule 3 23)).rel H124b [u123_1] x56.1.rules:=fz_own 5 z127 rfl
 refine L_call rfl Tryd.call22 (ops2 (hP84 2 18 rfl rfl) hv123) (s_l6Mutate_c (r_:=({ b:=x9.b,p:=x56.2 } : Rd)) (m:=x56.1) s126 (RP.mono _ hr11_1 (Le.trans (Le.trans l18 hE84) l125)) hb129 hb130 hx67) ?_
 rintro _ w131 ⟨r131_0,r131_1,rfl,Z⟩
 have Z:=k128 Z (co closed_int (co closed_oRule (cb c0)))
 have Z:=Z.gets [2,2,2,8,8,8,8,8,8] rfl
 have Z : Star H84 w131 (box g20 26 #[r18_0,r18_1] :: oS 54 (oRule 3 23) r18_1 x12.1.rules :: box g7 26 #[S0,S0] :: box g5 26 #[S0,S0] :: own (OR.ownS 3 (OR.frz RP.int)) [(aggC (f 21) 0)] x56.1.sizes :: own (OR.ownS 54 (oRule 3 23)) [(aggC (f 21) 1)] x56.1.rules :: oF 3 RP.int r131_0 x67.1.sizes :: oS 54 (oRule 3 23) r131_1 x67.1.rules :: box r11_0 88 #[r11_1,I x67.2] :: X84):=by rw [hv123]; exact Z
 exact L_nil ⟨rfl,_,_,rfl,Le.refl _,fun _ _=>⟨_,_,rfl⟩,Z⟩
 refine opsS_cons ?_ ?_
 intro f w_ H84 X84 hS84 hE84 hP84 Z
 have Z : Star H84 w_ (box g20 26 #[r18_0,r18_1] :: oS 54 (oRule 3 23) r18_1 x12.1.rules :: box g7 26 #[S0,S0] :: box g5 26 #[S0,S0] :: own (OR.ownS 3 (OR.frz RP.int)) [(aggC (f 22) 0)] x67.1.sizes :: own (OR.ownS 54 (oRule 3 23)) [(aggC (f 22) 1)] x67.1.rules :: box r11_0 88 #[r11_1,I x67.2] :: X84):=Z
 obtain ⟨u134_0,u134_1,hv134⟩:=(hP84 6 22 rfl rfl)
 have hren : Star H84 w_ (box g20 26 #[r18_0,r18_1] :: oS 54 (oRule 3 23) r18_1 x12.1.rules :: box g7 26 #[S0,S0] :: box g5 26 #[S0,S0] :: own (OR.ownS 3 (OR.frz RP.int)) [(aggC (f 22) 0)] x67.1.sizes :: own (OR.ownS 54 (oRule 3 23)) [(aggC (f 22) 1)] x67.1.rules :: box r11_0 88 #[r11_1,I x67.2] :: X84):=Z
 rw [hv134] at hren
 have Z : Star H84 w_ (box g20 26 #[r18_0,r18_1] :: oS 54 (oRule 3 23) r18_1 x12.1.rules :: box g7 26 #[S0,S0] :: box g5 26 #[S0,S0] :: oF 3 RP.int u134_0 x67.1.sizes :: oS 54 (oRule 3 23) u134_1 x67.1.rules :: box r11_0 88 #[r11_1,I x67.2] :: X84):=hren
 have Z:=Z.get 6 rfl
 obtain ⟨H135b,l136,s137,z138,k139⟩:=Z.lend [_]
 have hb140 : (rS 3 RP.int).rel H135b [u134_0] x67.1.sizes:=fz_own 4 z138 rfl
 have hb141 : (rS 54 (rRule 3 23)).rel H135b [u134_1] x67.1.rules:=fz_own 5 z138 rfl
 refine L_call rfl Tryd.call22 (ops2 (hP84 1 17 rfl rfl) hv134) (s_l6Mutate_c (r_:=({ b:=x9.b,p:=x67.2 } : Rd)) (m:=x67.1) s137 (RP.mono _ hr11_1 (Le.trans (Le.trans l18 hE84) l136)) hb140 hb141 hx78) ?_
 rintro _ w142 ⟨r142_0,r142_1,rfl,Z⟩
 have Z:=k139 Z (co closed_int (co closed_oRule (cb c0)))
 have Z:=Z.gets [2,2,2,8,8,8,8,8,8] rfl
 have Z : Star H84 w142 (box g20 26 #[r18_0,r18_1] :: oS 54 (oRule 3 23) r18_1 x12.1.rules :: box g7 26 #[S0,S0] :: box g5 26 #[S0,S0] :: own (OR.ownS 3 (OR.frz RP.int)) [(aggC (f 22) 0)] x67.1.sizes :: own (OR.ownS 54 (oRule 3 23)) [(aggC (f 22) 1)] x67.1.rules :: oF 3 RP.int r142_0 x78.1.sizes :: oS 54 (oRule 3 23) r142_1 x78.1.rules :: box r11_0 88 #[r11_1,I x78.2] :: X84):=by rw [hv134]; exact Z
 exact L_nil ⟨rfl,_,_,rfl,Le.refl _,fun _ _=>⟨_,_,rfl⟩,Z⟩
 exact opsS_nil
 have Z : Star H84 w_ (box g20 26 #[r18_0,r18_1] :: oS 54 (oRule 3 23) r18_1 x12.1.rules :: box g7 26 #[S0,S0] :: box g5 26 #[S0,S0] :: own (OR.ownS 3 (OR.frz RP.int)) [(aggC (f 21) 0)] x56.1.sizes :: own (OR.ownS 54 (oRule 3 23)) [(aggC (f 21) 1)] x56.1.rules :: own (OR.ownS 3 (OR.frz RP.int)) [(aggC (f 22) 0)] x67.1.sizes :: own (OR.ownS 54 (oRule 3 23)) [(aggC (f 22) 1)] x67.1.rules :: own (OR.ownS 3 (OR.frz RP.int)) [(aggC (f 23) 0)] x78.1.sizes :: own (OR.ownS 54 (oRule 3 23)) [(aggC (f 23) 1)] x78.1.rules :: box r11_0 88 #[r11_1,I x78.2] :: R):=Z
 obtain ⟨u145_0,u145_1,hv145⟩:=(hT84 7 23 rfl rfl)
 have hren : Star H84 w_ (box g20 26 #[r18_0,r18_1] :: oS 54 (oRule 3 23) r18_1 x12.1.rules :: box g7 26 #[S0,S0] :: box g5 26 #[S0,S0] :: own (OR.ownS 3 (OR.frz RP.int)) [(aggC (f 21) 0)] x56.1.sizes :: own (OR.ownS 54 (oRule 3 23)) [(aggC (f 21) 1)] x56.1.rules :: own (OR.ownS 3 (OR.frz RP.int)) [(aggC (f 22) 0)] x67.1.sizes :: own (OR.ownS 54 (oRule 3 23)) [(aggC (f 22) 1)] x67.1.rules :: own (OR.ownS 3 (OR.frz RP.int)) [(aggC (f 23) 0)] x78.1.sizes :: own (OR.ownS 54 (oRule 3 23)) [(aggC (f 23) 1)] x78.1.rules :: box r11_0 88 #[r11_1,I x78.2] :: R):=Z
 rw [hv145] at hren
 have Z : Star H84 w_ (box g20 26 #[r18_0,r18_1] :: oS 54 (oRule 3 23) r18_1 x12.1.rules :: box g7 26 #[S0,S0] :: box g5 26 #[S0,S0] :: own (OR.ownS 3 (OR.frz RP.int)) [(aggC (f 21) 0)] x56.1.sizes :: own (OR.ownS 54 (oRule 3 23)) [(aggC (f 21) 1)] x56.1.rules :: own (OR.ownS 3 (OR.frz RP.int)) [(aggC (f 22) 0)] x67.1.sizes :: own (OR.ownS 54 (oRule 3 23)) [(aggC (f 22) 1)] x67.1.rules :: oF 3 RP.int u145_0 x78.1.sizes :: oS 54 (oRule 3 23) u145_1 x78.1.rules :: box r11_0 88 #[r11_1,I x78.2] :: R):=hren
 refine L_staB (vs:=#[r18_0,r18_1]) (cs2:=#[r18_0,r18_1]) 3 rfl Tryd.sizeOf26 ((hS84 2 rfl).trans rfl) (hT84 0 16 rfl rfl) rfl (ones_cons (one_len (slice_len (RP.mono _ hr18_0 hE84))) (ones_cons (one_len (Star.len 1 Z rfl)) ones_nil)) Z rfl (by show 0 + 2≤2; decide) rfl (fun w146 Z=>L_staB (vs:=#[u145_0,u145_1]) (cs2:=#[u145_0,u145_1]) 3 rfl Tryd.sizeOf26 ((hS84 3 rfl).trans rfl) hv145 rfl (ones_cons (one_len (Star.len 8 Z rfl)) (ones_cons (one_len (Star.len 9 Z rfl)) ones_nil)) Z rfl (by show 0 + 2≤2; decide) rfl (fun w147 Z=>nn (W_ret (retG2 (v1:=.agg #[r18_0,r18_1]) (v2:=.agg #[u145_0,u145_1]) Tryd.results6 (resV_agg Tryd.isAgg26 Tryd.sizeOf26 ((hS84 2 rfl).trans rfl) (Star.blkAt 1 Z rfl) rfl) (resV_agg Tryd.isAgg26 Tryd.sizeOf26 ((hS84 3 rfl).trans rfl) (Star.blkAt 0 Z rfl) rfl) ?_))))
 obtain rfl:=so hF
 have Z:=Z.get 8 rfl
 obtain ⟨H148,l149,Z,hz150⟩:=Star.freeze Z
 have hz150 : (rS 3 RP.int).rel H148 [u145_0] x78.1.sizes:=hz150
 have Z:=Z.gets [8,4] rfl
 have Z:=Star.drop 2 Z rfl
 have Z:=Star.drop 2 Z rfl
 have Z:=Star.drop 2 Z rfl
 have Z:=Star.drop 2 Z rfl
 have Z:=Star.drop 2 Z rfl
 have Z:=Star.drop 2 Z rfl
 have Z:=Star.drop 2 Z rfl
 have Z:=Star.drop 2 Z rfl
 exact ⟨H148,(Le.trans (Le.trans (Le.trans l11 l18) hE84) l149),r18_0,r18_1,u145_0,u145_1,rfl,(RP.mono _ hr18_0 (Le.trans hE84 l149)),hz150,Z⟩
theorem slices_Equal_int_c {s1 : List Int} {s2 : List Int} {v0 : Value} {v1 : Value} {H : FH} {w : World} (Z : Star H w []) (h0 : (rS 3 RP.int).rel H [v0] s1) (h1 : (rS 3 RP.int).rel H [v1] s2) {r : Bool} (hF : slices_Equal_int s1 s2 = some r) :
 C Tryd.prog 23 #[v0,v1] w fun v w'=>v = Bo r∧Star H w' []:=by
 unfold slices_Equal_int at hF
 refine C_enter Tryd.func23 rfl Tryd.ntmps23 rfl (sq (aB rfl (nq (sq (mV v0 rfl (L_len rfl Tryd.underlying23 rfl (slice_len h0) (mV v1 rfl (L_len rfl Tryd.underlying23 rfl (slice_len h1) (L_neq rfl rfl rfl (nn (W_cond (b:=((s1.length : Int) != (s2.length : Int))) rfl (fun hc1=>?_) (fun hc1=>?_))))))))))))
 have hF:=(ite_t hc1).symm.trans hF
 refine sq (aB rfl (nn (W_ret (retG1 (v1:=Bo false) Tryd.results23 rfl ?_))))
 obtain rfl:=so hF
 exact ⟨rfl,Z⟩
 have hF:=(ite_f hc1).symm.trans hF
 refine W_skip (W_seq (sq (mV v0 rfl (L_len rfl Tryd.underlying23 rfl (slice_len h0) (mI rfl (nn ?_))))))
 have hlen5 : List.length s1≤9223372036854775807:=len_le (slice_len h0)
 obtain ⟨j5,hL5,hF⟩:=bind_some hF
 obtain ⟨R5,hR5⟩:=exR fun f w_=>∃ H3 : FH,j5 = .nx ()∧Le H H3∧Star H3 w_ ([])
 refine W_join R5 ?_ ?_
 refine W_block ?_
 obtain ⟨I5,hI5⟩:=exI fun n f w_=>∃ i_2 : Nat,∃ suf5 : List Int,∃ H3 : FH,n = suf5.length∧List.drop i_2 s1 = suf5∧i_2 + suf5.length = s1.length∧rangeL (slices_Equal_int_b1 s2) suf5 i_2 () = some j5∧Le H H3∧f 0 = v0∧f 1 = v1∧f 12 = I (s1.length : Int)∧f 13 = I i_2∧Star H3 w_ ([])
 refine W_loop I5 (n:=s1.length) ?_ ?_
 exact ij hI5 ⟨0,s1,H,rfl,rfl,Nat.zero_add _,hL5,(Le.refl _),rfl,rfl,rfl,rfl,Z⟩
 intro n5 f w_ hI
 obtain ⟨i_2,suf5,H3,rfl,hd5,hl5,hL5,l4,sf0,sf1,sf12,sf13,Z⟩:=ik hI5 hI
 refine sq (L_lss rfl sf13 sf12 (nq (W_cond (b:=decide ((i_2 : Int) < (s1.length : Int))) rfl (fun hc6=>?_) (fun hc6=>?_))))
 have hlt5:=of_decide_eq_true hc6
 rcases suf5 with _ | ⟨x_5,rest5⟩
 exact absurd hlt5 (by simp at hl5; omega)
 obtain ⟨o5,hB5,hL5⟩:=range_cons hL5
 rw [slices_Equal_int_b1] at hB5
 have hix5:=drop_idx hd5
 refine W_skip (W_seq (W_block (sq (mF sf13 rfl (aI rfl (nq ?_))))))
 obtain ⟨x11,hx11,hB5⟩:=bind_some hB5
 refine W_drawS 8 [isV (v0),isV (I i_2),isEl RP.int x_5 0,isV (I x_5),isV (v1),isV (I i_2),isEl RP.int x11 0,isV (I x11)] [] [] ([]) [([],[]),([],[]),([],[]),([],[]),([],[]),([],[]),([],[]),([],[])] (S:=[]) Tryd_mix (by kernel_rfl) rfl (by kernel_rfl) (amF_cons (mono_V _) (amF_cons (mono_V _) (amF_cons (mono_el _ _ _) (amF_cons (mono_V _) (amF_cons (mono_V _) (amF_cons (mono_V _) (amF_cons (mono_el _ _ _) (amF_cons (mono_V _) amF_nil)))))))) Z ?_ (fun f w_ H16 hS16 hE16 hT16 Z=>?_)
 refine opsS_cons (fun f w_ _ _ s _ _ Z=>mF ((s 0 rfl).trans sf0) rfl (nO rfl rfl Z)) (opsS_cons (fun f w_ _ _ s _ _ Z=>mF ((s 5 rfl).trans rfl) rfl (nO rfl rfl Z)) (opsS_cons ?_ ?_))
 intro f w_ H16 X16 hS16 hE16 hP16 Z
 refine L_ix (r:=RP.int) rfl Tryd.underlying23 Tryd.sizeOf3 (hP16 0 16 rfl rfl) (RP.mono _ h0 (Le.trans l4 hE16)) (hP16 1 17 rfl rfl) hix5 (fun g25 o26 cs_g25 hrk_hat27 hat27=>?_)
 obtain rfl : _ = [_]:=hrk_hat27
 exact L_nil ⟨rfl,_,_,rfl,Le.refl _,fun _ _=>⟨_,_,_,rfl,rfl,hat27⟩,Z⟩
 refine opsS_cons ?_ ?_
 intro f w_ H16 X16 hS16 hE16 hP16 Z
 obtain ⟨g29,o29,cs29,hv29,hrk_hat29,hat29⟩:=(hP16 2 18 rfl rfl)
 obtain rfl : _ = [_]:=hrk_hat29
 refine L_ld rfl Tryd.isAgg3 hv29 (At.cell (AtH.at hat29 Z.sub) (j:=0) rfl) (L_nil ⟨rfl,_,_,rfl,Le.refl _,fun _ _=>rfl,Z⟩)
 refine opsS_cons (fun f w_ _ _ s _ _ Z=>mF ((s 1 rfl).trans sf1) rfl (nO rfl rfl Z)) (opsS_cons (fun f w_ _ _ s _ _ Z=>mF ((s 5 rfl).trans rfl) rfl (nO rfl rfl Z)) (opsS_cons ?_ ?_))
 intro f w_ H16 X16 hS16 hE16 hP16 Z
 refine L_ix (r:=RP.int) rfl Tryd.underlying23 Tryd.sizeOf3 (hP16 4 20 rfl rfl) (RP.mono _ h1 (Le.trans l4 hE16)) (hP16 5 21 rfl rfl) hx11 (fun g31 o32 cs_g31 hrk_hat33 hat33=>?_)
 obtain rfl : _ = [_]:=hrk_hat33
 exact L_nil ⟨rfl,_,_,rfl,Le.refl _,fun _ _=>⟨_,_,_,rfl,rfl,hat33⟩,Z⟩
 refine opsS_cons ?_ ?_
 intro f w_ H16 X16 hS16 hE16 hP16 Z
 obtain ⟨g35,o35,cs35,hv35,hrk_hat35,hat35⟩:=(hP16 6 22 rfl rfl)
 obtain rfl : _ = [_]:=hrk_hat35
 refine L_ld rfl Tryd.isAgg3 hv35 (At.cell (AtH.at hat35 Z.sub) (j:=0) rfl) (L_nil ⟨rfl,_,_,rfl,Le.refl _,fun _ _=>rfl,Z⟩)
 exact opsS_nil
 refine L_neq rfl (hT16 3 19 rfl rfl) (hT16 7 23 rfl rfl) (nn (W_cond (b:=(x_5 != x11)) rfl (fun hc37=>?_) (fun hc37=>?_)))
 have hB5:=(ite_t hc37).symm.trans hB5
 refine sq (aB rfl (nn (W_ret (retG1 (v1:=Bo false) Tryd.results23 rfl ?_))))
 obtain rfl:=so hB5
 obtain rfl:=so hL5
 obtain rfl:=so hF
 exact ⟨rfl,(Star.down Z (Le.trans l4 hE16) c0)⟩
 have hB5:=(ite_f hc37).symm.trans hB5
 refine W_skip (W_region (L_add rfl ((hS16 13 rfl).trans sf13) rfl (mI rfl (nn ?_))))
 obtain rfl:=so hB5
 show ∃ m,m < _∧I5 m _ _
 refine ⟨rest5.length,by simp,?_⟩
 exact ij hI5 ⟨i_2 + 1,rest5,H16,rfl,drop_next hd5,by simp at hl5; omega,hL5,(Le.trans l4 hE16),((hS16 0 rfl).trans sf0),((hS16 1 rfl).trans sf1),((hS16 12 rfl).trans sf12),(Eq.trans rfl (congrArg (Value.int .i64) (i64_succ (n:=s1.length) (by simp at hl5; omega) hlen5))),Z⟩
 rcases suf5 with _ | ⟨_,_⟩
 obtain rfl:=range_nil hL5
 refine W_exit (rj hR5 ⟨H3,rfl,l4,Z⟩)
 exact absurd (of_decide_eq_false hc6) (by simp at hl5; omega)
 intro f w_ hR
 obtain ⟨H3,rfl,l4,Z⟩:=rk hR5 hR
 refine sq (aB rfl (nn (W_ret (retG1 (v1:=Bo true) Tryd.results23 rfl ?_))))
 obtain rfl:=so hF
 exact ⟨rfl,(Star.down Z l4 c0)⟩
theorem slices_EqualFunc_implRule_c {s1 : List Rule} {s2 : List Rule} {eq : (Rule→Rule→Option Bool)} {v0 : Value} {v1 : Value} {v2 : Value} {H : FH} {w : World} (Z : Star H w []) (h0 : (rS 54 (rRule 3 23)).rel H [v0] s1) (h1 : (rS 54 (rRule 3 23)).rel H [v1] s2) (h2 : Fun2 Tryd.prog (rRule 3 23) (rRule 3 23) true Value.bool eq v2 H) {r : Bool} (hF : slices_EqualFunc_implRule s1 s2 eq = some r) :
 C Tryd.prog 24 #[v0,v1,v2] w fun v w'=>v = Bo r∧Star H w' []:=by
 unfold slices_EqualFunc_implRule at hF
 obtain ⟨fid_2,caps_2,rfl,hcall_2,hc_2⟩:=h2
 refine C_enter Tryd.func24 rfl Tryd.ntmps24 rfl (sq (aB rfl (nq (sq (mV v0 rfl (L_len rfl Tryd.underlying24 rfl (slice_len h0) (mV v1 rfl (L_len rfl Tryd.underlying24 rfl (slice_len h1) (L_neq rfl rfl rfl (nn (W_cond (b:=((s1.length : Int) != (s2.length : Int))) rfl (fun hc1=>?_) (fun hc1=>?_))))))))))))
 have hF:=(ite_t hc1).symm.trans hF
 refine sq (aB rfl (nn (W_ret (retG1 (v1:=Bo false) Tryd.results24 rfl ?_))))
 obtain rfl:=so hF
 exact ⟨rfl,Z⟩
 have hF:=(ite_f hc1).symm.trans hF
 refine W_skip (W_seq (sq (mV v0 rfl (L_len rfl Tryd.underlying24 rfl (slice_len h0) (mI rfl (nn ?_))))))
 have hlen3 : List.length s1≤9223372036854775807:=len_le (slice_len h0)
 obtain ⟨j3,hL3,hF⟩:=bind_some hF
 obtain ⟨R3,hR3⟩:=exR fun f w_=>j3 = .nx ()∧Star H w_ ([])
 refine W_join R3 ?_ ?_
 refine W_block ?_
 obtain ⟨I3,hI3⟩:=exI fun n f w_=>∃ i_2 : Nat,∃ suf3 : List Rule,n = suf3.length∧List.drop i_2 s1 = suf3∧i_2 + suf3.length = s1.length∧rangeL (slices_EqualFunc_implRule_b1 s2 eq) suf3 i_2 () = some j3∧f 1 = v1∧f 2 = .func (.func fid_2) #[] caps_2∧f 15 = v0∧f 16 = I (s1.length : Int)∧f 17 = I i_2∧Star H w_ ([])
 refine W_loop I3 (n:=s1.length) ?_ ?_
 exact ij hI3 ⟨0,s1,rfl,rfl,Nat.zero_add _,hL3,rfl,rfl,rfl,rfl,rfl,Z⟩
 intro n3 f w_ hI
 obtain ⟨i_2,suf3,rfl,hd3,hl3,hL3,sf1,sf2,sf15,sf16,sf17,Z⟩:=ik hI3 hI
 refine sq (L_lss rfl sf17 sf16 (nq (W_cond (b:=decide ((i_2 : Int) < (s1.length : Int))) rfl (fun hc4=>?_) (fun hc4=>?_))))
 have hlt3:=of_decide_eq_true hc4
 rcases suf3 with _ | ⟨x_3,rest3⟩
 exact absurd hlt3 (by simp at hl3; omega)
 obtain ⟨o3,hB3,hL3⟩:=range_cons hL3
 rw [slices_EqualFunc_implRule_b1] at hB3
 have hix3:=drop_idx hd3
 refine W_skip (W_seq (W_block (sq (mF sf17 rfl (L_ix (r:=(rRule 3 23)) rfl Tryd.underlying24 Tryd.sizeOf54 sf15 h0 sf17 hix3 (fun g12 o13 cs_g12 hrk_hat14 hat14=>?_))))))
 obtain ⟨u15_0,u15_1,u15_2,rfl,hu15_0,hu15_1,hu15_2⟩:=rRule_iff.1 hrk_hat14
 refine L_lda (cs:=[I x_3.kind,u15_0,u15_1,I x_3.bound,u15_2]) rfl Tryd.isAgg54 Tryd.sizeOf54 rfl (At.sub (AtH.at hat14 Z.sub) 0 5) rfl (L_al (cs:=#[I 0,S0,S0,I 0,S0]) rfl Tryd.zeroValue54 rfl Z (fun g16 w17 Z=>aI rfl (L_staB (vs:=#[I x_3.kind,u15_0,u15_1,I x_3.bound,u15_2]) (cs2:=#[I x_3.kind,u15_0,u15_1,I x_3.bound,u15_2]) 0 rfl Tryd.sizeOf54 rfl rfl rfl (ones_cons rfl (ones_cons (one_len (slice_len hu15_0)) (ones_cons (one_len (slice_len hu15_1)) (ones_cons rfl (ones_cons (one_len (slice_len hu15_2)) ones_nil))))) Z rfl (by show 0 + 5≤5; decide) rfl (fun w18 Z=>nq ?_))))
 obtain ⟨x19,hx19,hB3⟩:=bind_some hB3
 refine W_region (mF sf1 rfl (mI rfl (L_ix (r:=(rRule 3 23)) rfl Tryd.underlying24 Tryd.sizeOf54 rfl h1 rfl hx19 (fun g27 o28 cs_g27 hrk_hat29 hat29=>?_))))
 obtain ⟨u30_0,u30_1,u30_2,rfl,hu30_0,hu30_1,hu30_2⟩:=rRule_iff.1 hrk_hat29
 refine L_lda (cs:=[I x19.kind,u30_0,u30_1,I x19.bound,u30_2]) rfl Tryd.isAgg54 Tryd.sizeOf54 rfl (At.sub (AtH.at hat29 Z.sub) 0 5) rfl (L_al (cs:=#[I 0,S0,S0,I 0,S0]) rfl Tryd.zeroValue54 rfl Z (fun g31 w32 Z=>L_staB (vs:=#[I x19.kind,u30_0,u30_1,I x19.bound,u30_2]) (cs2:=#[I x19.kind,u30_0,u30_1,I x19.bound,u30_2]) 0 rfl Tryd.sizeOf54 rfl rfl rfl (ones_cons rfl (ones_cons (one_len (slice_len hu30_0)) (ones_cons (one_len (slice_len hu30_1)) (ones_cons rfl (ones_cons (one_len (slice_len hu30_2)) ones_nil))))) Z rfl (by show 0 + 5≤5; decide) rfl (fun w33 Z=>nq ?_)))
 obtain ⟨x34,hx34,hB3⟩:=bind_some hB3
 refine W_region (mF sf2 rfl (L_lda (cs:=[I x_3.kind,u15_0,u15_1,I x_3.bound,u15_2]) rfl Tryd.isAgg54 Tryd.sizeOf54 rfl (At.sub0 (Blk.at (Star.blkAt 1 Z rfl)) 0 5) rfl (L_lda (cs:=[I x19.kind,u30_0,u30_1,I x19.bound,u30_2]) rfl Tryd.isAgg54 Tryd.sizeOf54 rfl (At.sub0 (Blk.at (Star.blkAt 0 Z rfl)) 0 5) rfl ?_)))
 obtain ⟨H41b,l42,s43,z44,k45⟩:=Z.borrow
 refine L_callv (args:=#[.agg #[I x_3.kind,u15_0,u15_1,I x_3.bound,u15_2],.agg #[I x19.kind,u30_0,u30_1,I x19.bound,u30_2]]) rfl hcall_2 rfl (ops2 rfl rfl) (hc_2 _ _ l42 s43 [I x_3.kind,u15_0,u15_1,I x_3.bound,u15_2] [I x19.kind,u30_0,u30_1,I x19.bound,u30_2] _ _ _ _ (rRule_iff.2 ⟨_,_,_,rfl,(RP.mono _ hu15_0 l42),(RP.mono _ hu15_1 l42),(RP.mono _ hu15_2 l42)⟩) (rRule_iff.2 ⟨_,_,_,rfl,(RP.mono _ hu30_0 l42),(RP.mono _ hu30_1 l42),(RP.mono _ hu30_2 l42)⟩) hx34 (args_app rfl)) ?_
 rintro _ w46 ⟨rfl,Z⟩
 have Z:=k45 Z c0
 refine L_not_ rfl rfl (nn (W_cond (b:=(!x34)) rfl (fun hc47=>?_) (fun hc47=>?_)))
 have hB3:=(ite_t hc47).symm.trans hB3
 refine sq (aB rfl (nn (W_ret (retG1 (v1:=Bo false) Tryd.results24 rfl ?_))))
 obtain rfl:=so hB3
 obtain rfl:=so hL3
 obtain rfl:=so hF
 exact ⟨rfl,(Star.keepN 0 Z)⟩
 have hB3:=(ite_f hc47).symm.trans hB3
 refine W_skip (W_region (L_add rfl sf17 rfl (mI rfl (nn ?_))))
 obtain rfl:=so hB3
 show ∃ m,m < _∧I3 m _ _
 refine ⟨rest3.length,by simp,?_⟩
 exact ij hI3 ⟨i_2 + 1,rest3,rfl,drop_next hd3,by simp at hl3; omega,hL3,sf1,sf2,sf15,sf16,(Eq.trans rfl (congrArg (Value.int .i64) (i64_succ (n:=s1.length) (by simp at hl3; omega) hlen3))),(Star.keepN 0 Z)⟩
 rcases suf3 with _ | ⟨_,_⟩
 obtain rfl:=range_nil hL3
 refine W_exit (rj hR3 ⟨rfl,Z⟩)
 exact absurd (of_decide_eq_false hc4) (by simp at hl3; omega)
 intro f w_ hR
 obtain ⟨rfl,Z⟩:=rk hR3 hR
 refine sq (aB rfl (nn (W_ret (retG1 (v1:=Bo true) Tryd.results24 rfl ?_))))
 obtain rfl:=so hF
 exact ⟨rfl,Z⟩
theorem slices_EqualFunc_Sint_c {s1 : List (List Int)} {s2 : List (List Int)} {eq : ((List Int)→(List Int)→Option Bool)} {v0 : Value} {v1 : Value} {v2 : Value} {H : FH} {w : World} (Z : Star H w []) (h0 : (rS 23 (rS 3 RP.int)).rel H [v0] s1) (h1 : (rS 23 (rS 3 RP.int)).rel H [v1] s2) (h2 : Fun2 Tryd.prog (rS 3 RP.int) (rS 3 RP.int) false Value.bool eq v2 H) {r : Bool} (hF : slices_EqualFunc_Sint s1 s2 eq = some r) :
 C Tryd.prog 50 #[v0,v1,v2] w fun v w'=>v = Bo r∧Star H w' []:=by
 unfold slices_EqualFunc_Sint at hF
 obtain ⟨fid_2,caps_2,rfl,hcall_2,hc_2⟩:=h2
 refine C_enter Tryd.func50 rfl Tryd.ntmps50 rfl (sq (aB rfl (nq (sq (mV v0 rfl (L_len rfl Tryd.underlying52 rfl (slice_len h0) (mV v1 rfl (L_len rfl Tryd.underlying52 rfl (slice_len h1) (L_neq rfl rfl rfl (nn (W_cond (b:=((s1.length : Int) != (s2.length : Int))) rfl (fun hc1=>?_) (fun hc1=>?_))))))))))))
 have hF:=(ite_t hc1).symm.trans hF
 refine sq (aB rfl (nn (W_ret (retG1 (v1:=Bo false) Tryd.results50 rfl ?_))))
 obtain rfl:=so hF
 exact ⟨rfl,Z⟩
 have hF:=(ite_f hc1).symm.trans hF
 refine W_skip (W_seq (sq (mV v0 rfl (L_len rfl Tryd.underlying52 rfl (slice_len h0) (mI rfl (nn ?_))))))
 have hlen3 : List.length s1≤9223372036854775807:=len_le (slice_len h0)
 obtain ⟨j3,hL3,hF⟩:=bind_some hF
 obtain ⟨R3,hR3⟩:=exR fun f w_=>j3 = .nx ()∧Star H w_ ([])
 refine W_join R3 ?_ ?_
 refine W_block ?_
 obtain ⟨I3,hI3⟩:=exI fun n f w_=>∃ i_2 : Nat,∃ suf3 : List (List Int),n = suf3.length∧List.drop i_2 s1 = suf3∧i_2 + suf3.length = s1.length∧rangeL (slices_EqualFunc_Sint_b1 s2 eq) suf3 i_2 () = some j3∧f 1 = v1∧f 2 = .func (.func fid_2) #[] caps_2∧f 15 = v0∧f 16 = I (s1.length : Int)∧f 17 = I i_2∧Star H w_ ([])
 refine W_loop I3 (n:=s1.length) ?_ ?_
 exact ij hI3 ⟨0,s1,rfl,rfl,Nat.zero_add _,hL3,rfl,rfl,rfl,rfl,rfl,Z⟩
 intro n3 f w_ hI
 obtain ⟨i_2,suf3,rfl,hd3,hl3,hL3,sf1,sf2,sf15,sf16,sf17,Z⟩:=ik hI3 hI
 refine sq (L_lss rfl sf17 sf16 (nq (W_cond (b:=decide ((i_2 : Int) < (s1.length : Int))) rfl (fun hc4=>?_) (fun hc4=>?_))))
 have hlt3:=of_decide_eq_true hc4
 rcases suf3 with _ | ⟨x_3,rest3⟩
 exact absurd hlt3 (by simp at hl3; omega)
 obtain ⟨o3,hB3,hL3⟩:=range_cons hL3
 rw [slices_EqualFunc_Sint_b1] at hB3
 have hix3:=drop_idx hd3
 refine W_skip (W_seq (W_block (sq (mF sf17 rfl (L_ix (r:=(rS 3 RP.int)) rfl Tryd.underlying52 Tryd.sizeOf23 sf15 h0 sf17 hix3 (fun g9 o10 cs_g9 hrk_hat11 hat11=>?_))))))
 obtain ⟨u12,rfl,hu12⟩:=slice1 hrk_hat11
 refine L_ld rfl Tryd.isAgg23 rfl (At.cell (AtH.at hat11 Z.sub) (j:=0) rfl) (aI rfl (aV u12 rfl (nq ?_)))
 obtain ⟨x13,hx13,hB3⟩:=bind_some hB3
 refine W_region (mF sf1 rfl (mI rfl (L_ix (r:=(rS 3 RP.int)) rfl Tryd.underlying52 Tryd.sizeOf23 rfl h1 rfl hx13 (fun g18 o19 cs_g18 hrk_hat20 hat20=>?_))))
 obtain ⟨u21,rfl,hu21⟩:=slice1 hrk_hat20
 refine L_ld rfl Tryd.isAgg23 rfl (At.cell (AtH.at hat20 Z.sub) (j:=0) rfl) (aV u21 rfl (nq ?_))
 obtain ⟨x22,hx22,hB3⟩:=bind_some hB3
 refine W_region (mF sf2 rfl (mV u12 rfl (mV u21 rfl ?_)))
 obtain ⟨H29b,l30,s31,z32,k33⟩:=Z.borrow
 refine L_callv (args:=#[u12,u21]) rfl hcall_2 rfl (ops2 rfl rfl) (hc_2 _ _ l30 s31 [u12] [u21] _ _ _ _ (RP.mono _ hu12 l30) (RP.mono _ hu21 l30) hx22 (args_app rfl)) ?_
 rintro _ w34 ⟨rfl,Z⟩
 have Z:=k33 Z c0
 refine L_not_ rfl rfl (nn (W_cond (b:=(!x22)) rfl (fun hc35=>?_) (fun hc35=>?_)))
 have hB3:=(ite_t hc35).symm.trans hB3
 refine sq (aB rfl (nn (W_ret (retG1 (v1:=Bo false) Tryd.results50 rfl ?_))))
 obtain rfl:=so hB3
 obtain rfl:=so hL3
 obtain rfl:=so hF
 exact ⟨rfl,Z⟩
 have hB3:=(ite_f hc35).symm.trans hB3
 refine W_skip (W_region (L_add rfl sf17 rfl (mI rfl (nn ?_))))
 obtain rfl:=so hB3
 show ∃ m,m < _∧I3 m _ _
 refine ⟨rest3.length,by simp,?_⟩
 exact ij hI3 ⟨i_2 + 1,rest3,rfl,drop_next hd3,by simp at hl3; omega,hL3,sf1,sf2,sf15,sf16,(Eq.trans rfl (congrArg (Value.int .i64) (i64_succ (n:=s1.length) (by simp at hl3; omega) hlen3))),Z⟩
 rcases suf3 with _ | ⟨_,_⟩
 obtain rfl:=range_nil hL3
 refine W_exit (rj hR3 ⟨rfl,Z⟩)
 exact absurd (of_decide_eq_false hc4) (by simp at hl3; omega)
 intro f w_ hR
 obtain ⟨rfl,Z⟩:=rk hR3 hR
 refine sq (aB rfl (nn (W_ret (retG1 (v1:=Bo true) Tryd.results50 rfl ?_))))
 obtain rfl:=so hF
 exact ⟨rfl,Z⟩
theorem i_sameRule_c {a : Rule} {b : Rule} {v0_1 : Value} {v0_2 : Value} {v0_4 : Value} {v1_1 : Value} {v1_2 : Value} {v1_4 : Value} {H : FH} {w : World} (Z : Star H w []) (h0_1 : (rS 3 RP.int).rel H [v0_1] a.vars) (h0_2 : (rS 3 RP.int).rel H [v0_2] a.coefs) (h0_4 : (rS 23 (rS 3 RP.int)).rel H [v0_4] a.rows) (h1_1 : (rS 3 RP.int).rel H [v1_1] b.vars) (h1_2 : (rS 3 RP.int).rel H [v1_2] b.coefs) (h1_4 : (rS 23 (rS 3 RP.int)).rel H [v1_4] b.rows) {r : Bool} (hF : i_sameRule a b = some r) :
 C Tryd.prog 25 #[.agg #[I a.kind,v0_1,v0_2,I a.bound,v0_4],.agg #[I b.kind,v1_1,v1_2,I b.bound,v1_4]] w fun v w'=>v = Bo r∧Star H w' []:=by
 unfold i_sameRule at hF
 refine C_enter Tryd.func25 rfl Tryd.ntmps25 rfl (sq (L_box (v:=.agg #[I a.kind,v0_1,v0_2,I a.bound,v0_4]) (cs:=#[I a.kind,v0_1,v0_2,I a.bound,v0_4]) rfl rfl rfl Z (fun g5 w6 Z=>L_box (v:=.agg #[I b.kind,v1_1,v1_2,I b.bound,v1_4]) (cs:=#[I b.kind,v1_1,v1_2,I b.bound,v1_4]) rfl rfl rfl Z (fun g7 w8 Z=>aB rfl (nq ?_)))))
 obtain ⟨b16,hb16,hF⟩:=bind_some hF
 obtain ⟨b24,hb24,hF⟩:=bind_some hF
 obtain ⟨b32,hb32,hF⟩:=bind_some hF
 obtain ⟨R33,hR33⟩:=exR fun f w_=>f 4 = Bo b32∧Star H w_ ([])
 refine W_join R33 ?_ ?_
 refine W_region (fA 0 fa_54_0 rfl rfl (ldB 1 Z Tryd.isAgg3 rfl rfl rfl (fA 0 fa_54_0 rfl rfl (ldB 0 Z Tryd.isAgg3 rfl rfl rfl (L_eql rfl rfl rfl (mB rfl (L_split (d:=10) (b:=(a.kind == b.kind)) rfl (fun hc34=>?_) (fun hc34=>?_))))))))
 rw [ite_t hc34] at hb16
 obtain ⟨x14,hx14,hb16⟩:=bind_some hb16
 refine fA 1 fa_54_1 rfl rfl (ldB 1 Z Tryd.isAgg23 rfl rfl rfl (fA 1 fa_54_1 rfl rfl (ldB 0 Z Tryd.isAgg23 rfl rfl rfl ?_)))
 obtain ⟨H35b,l36,s37,z38,k39⟩:=Z.borrow
 refine L_call rfl Tryd.call23 (ops2 rfl rfl) (slices_Equal_int_c (s1:=a.vars) (s2:=b.vars) s37 (RP.mono _ h0_1 l36) (RP.mono _ h1_1 l36) hx14) ?_
 rintro _ w40 ⟨rfl,Z⟩
 have Z:=k39 Z c0
 refine L_pick (v:=Bo b16) rfl rfl (congrArg Value.bool (so hb16)) (mB rfl (L_split (d:=17) (b:=b16) rfl (fun hc41=>?_) (fun hc41=>?_)))
 rw [ite_t hc41] at hb24
 obtain ⟨x22,hx22,hb24⟩:=bind_some hb24
 refine fA 2 fa_54_2 rfl rfl (ldB 1 Z Tryd.isAgg23 rfl rfl rfl (fA 2 fa_54_2 rfl rfl (ldB 0 Z Tryd.isAgg23 rfl rfl rfl ?_)))
 obtain ⟨H42b,l43,s44,z45,k46⟩:=Z.borrow
 refine L_call rfl Tryd.call23 (ops2 rfl rfl) (slices_Equal_int_c (s1:=a.coefs) (s2:=b.coefs) s44 (RP.mono _ h0_2 l43) (RP.mono _ h1_2 l43) hx22) ?_
 rintro _ w47 ⟨rfl,Z⟩
 have Z:=k46 Z c0
 refine L_pick (v:=Bo b24) rfl rfl (congrArg Value.bool (so hb24)) (mB rfl (L_split (d:=24) (b:=b24) rfl (fun hc48=>?_) (fun hc48=>?_)))
 refine fA 3 fa_54_3 rfl rfl (ldB 1 Z Tryd.isAgg3 rfl rfl rfl (fA 3 fa_54_3 rfl rfl (ldB 0 Z Tryd.isAgg3 rfl rfl rfl (L_eql rfl rfl rfl (L_pick (v:=Bo (b24 && (a.bound == b.bound))) rfl rfl (and_t hc48 rfl) (mB rfl (L_split (d:=31) (b:=(b24 && (a.bound == b.bound))) rfl (fun hc49=>?_) (fun hc49=>?_))))))))
 rw [ite_t hc49] at hb32
 obtain ⟨x30,hx30,hb32⟩:=bind_some hb32
 refine fA 4 fa_54_4 rfl rfl (ldB 1 Z Tryd.isAgg52 rfl rfl rfl (fA 4 fa_54_4 rfl rfl (ldB 0 Z Tryd.isAgg52 rfl rfl rfl ?_)))
 obtain ⟨H50b,l51,s52,z53,k54⟩:=Z.borrow
 have hf55 : Fun2 Tryd.prog (rS 3 RP.int) (rS 3 RP.int) false Value.bool slices_Equal_int (.func (.func 23) #[] #[]) H50b:=by
   refine ⟨_,_,rfl,Tryd.call23,fun H_ w_ hE_ hs_ cs1_ cs2_ x1_ x2_ y_ args_ hr1_ hr2_ hy_ ha_=>?_⟩
   obtain ⟨p1_0,rfl,hp1_0⟩:=slice1 hr1_
   obtain ⟨p2_0,rfl,hp2_0⟩:=slice1 hr2_
   obtain rfl:=args_of (b:=#[p1_0,p2_0]) ha_
   exact slices_Equal_int_c (s1:=x1_) (s2:=x2_) hs_ hp1_0 hp2_0 hy_
 refine L_call rfl Tryd.call50 (ops3 rfl rfl rfl) (slices_EqualFunc_Sint_c (s1:=a.rows) (s2:=b.rows) (eq:=slices_Equal_int) s52 (RP.mono _ h0_4 l51) (RP.mono _ h1_4 l51) hf55 hx30) ?_
 rintro _ w56 ⟨rfl,Z⟩
 have Z:=k54 Z c0
 refine L_pick (v:=Bo b32) rfl rfl (congrArg Value.bool (so hb32)) (aB rfl (nn (rj hR33 ⟨rfl,(Star.keepN 0 Z)⟩)))
 rw [ite_f hc49] at hb32
 refine ps rfl (ps rfl (ps rfl (ps rfl (ps rfl (L_pick (v:=Bo b32) rfl rfl (congrArg Value.bool (so hb32)) (aB rfl (nn (rj hR33 ⟨rfl,(Star.keepN 0 Z)⟩))))))))
 refine ps rfl (ps rfl (ps rfl (ps rfl (ps rfl (L_pick (v:=Bo (b24 && (a.bound == b.bound))) rfl rfl (and_f hc48) (mB rfl (L_split (d:=31) (b:=(b24 && (a.bound == b.bound))) rfl (fun hc57=>?_) (fun hc57=>?_))))))))
 rw [ite_t hc57] at hb32
 obtain ⟨x30,hx30,hb32⟩:=bind_some hb32
 refine fA 4 fa_54_4 rfl rfl (ldB 1 Z Tryd.isAgg52 rfl rfl rfl (fA 4 fa_54_4 rfl rfl (ldB 0 Z Tryd.isAgg52 rfl rfl rfl ?_)))
 obtain ⟨H58b,l59,s60,z61,k62⟩:=Z.borrow
 have hf63 : Fun2 Tryd.prog (rS 3 RP.int) (rS 3 RP.int) false Value.bool slices_Equal_int (.func (.func 23) #[] #[]) H58b:=by
   refine ⟨_,_,rfl,Tryd.call23,fun H_ w_ hE_ hs_ cs1_ cs2_ x1_ x2_ y_ args_ hr1_ hr2_ hy_ ha_=>?_⟩
   obtain ⟨p1_0,rfl,hp1_0⟩:=slice1 hr1_
   obtain ⟨p2_0,rfl,hp2_0⟩:=slice1 hr2_
   obtain rfl:=args_of (b:=#[p1_0,p2_0]) ha_
   exact slices_Equal_int_c (s1:=x1_) (s2:=x2_) hs_ hp1_0 hp2_0 hy_
 refine L_call rfl Tryd.call50 (ops3 rfl rfl rfl) (slices_EqualFunc_Sint_c (s1:=a.rows) (s2:=b.rows) (eq:=slices_Equal_int) s60 (RP.mono _ h0_4 l59) (RP.mono _ h1_4 l59) hf63 hx30) ?_
 rintro _ w64 ⟨rfl,Z⟩
 have Z:=k62 Z c0
 refine L_pick (v:=Bo b32) rfl rfl (congrArg Value.bool (so hb32)) (aB rfl (nn (rj hR33 ⟨rfl,(Star.keepN 0 Z)⟩)))
 rw [ite_f hc57] at hb32
 refine ps rfl (ps rfl (ps rfl (ps rfl (ps rfl (L_pick (v:=Bo b32) rfl rfl (congrArg Value.bool (so hb32)) (aB rfl (nn (rj hR33 ⟨rfl,(Star.keepN 0 Z)⟩))))))))
 rw [ite_f hc41] at hb24
 refine ps rfl (ps rfl (ps rfl (ps rfl (ps rfl (L_pick (v:=Bo b24) rfl rfl (congrArg Value.bool (so hb24)) (mB rfl (L_split (d:=24) (b:=b24) rfl (fun hc65=>?_) (fun hc65=>?_))))))))
 refine fA 3 fa_54_3 rfl rfl (ldB 1 Z Tryd.isAgg3 rfl rfl rfl (fA 3 fa_54_3 rfl rfl (ldB 0 Z Tryd.isAgg3 rfl rfl rfl (L_eql rfl rfl rfl (L_pick (v:=Bo (b24 && (a.bound == b.bound))) rfl rfl (and_t hc65 rfl) (mB rfl (L_split (d:=31) (b:=(b24 && (a.bound == b.bound))) rfl (fun hc66=>?_) (fun hc66=>?_))))))))
 rw [ite_t hc66] at hb32
 obtain ⟨x30,hx30,hb32⟩:=bind_some hb32
 refine fA 4 fa_54_4 rfl rfl (ldB 1 Z Tryd.isAgg52 rfl rfl rfl (fA 4 fa_54_4 rfl rfl (ldB 0 Z Tryd.isAgg52 rfl rfl rfl ?_)))
 obtain ⟨H67b,l68,s69,z70,k71⟩:=Z.borrow
 have hf72 : Fun2 Tryd.prog (rS 3 RP.int) (rS 3 RP.int) false Value.bool slices_Equal_int (.func (.func 23) #[] #[]) H67b:=by
   refine ⟨_,_,rfl,Tryd.call23,fun H_ w_ hE_ hs_ cs1_ cs2_ x1_ x2_ y_ args_ hr1_ hr2_ hy_ ha_=>?_⟩
   obtain ⟨p1_0,rfl,hp1_0⟩:=slice1 hr1_
   obtain ⟨p2_0,rfl,hp2_0⟩:=slice1 hr2_
   obtain rfl:=args_of (b:=#[p1_0,p2_0]) ha_
   exact slices_Equal_int_c (s1:=x1_) (s2:=x2_) hs_ hp1_0 hp2_0 hy_
 refine L_call rfl Tryd.call50 (ops3 rfl rfl rfl) (slices_EqualFunc_Sint_c (s1:=a.rows) (s2:=b.rows) (eq:=slices_Equal_int) s69 (RP.mono _ h0_4 l68) (RP.mono _ h1_4 l68) hf72 hx30) ?_
 rintro _ w73 ⟨rfl,Z⟩
 have Z:=k71 Z c0
 refine L_pick (v:=Bo b32) rfl rfl (congrArg Value.bool (so hb32)) (aB rfl (nn (rj hR33 ⟨rfl,(Star.keepN 0 Z)⟩)))
 rw [ite_f hc66] at hb32
 refine ps rfl (ps rfl (ps rfl (ps rfl (ps rfl (L_pick (v:=Bo b32) rfl rfl (congrArg Value.bool (so hb32)) (aB rfl (nn (rj hR33 ⟨rfl,(Star.keepN 0 Z)⟩))))))))
 refine ps rfl (ps rfl (ps rfl (ps rfl (ps rfl (L_pick (v:=Bo (b24 && (a.bound == b.bound))) rfl rfl (and_f hc65) (mB rfl (L_split (d:=31) (b:=(b24 && (a.bound == b.bound))) rfl (fun hc74=>?_) (fun hc74=>?_))))))))
 rw [ite_t hc74] at hb32
 obtain ⟨x30,hx30,hb32⟩:=bind_some hb32
 refine fA 4 fa_54_4 rfl rfl (ldB 1 Z Tryd.isAgg52 rfl rfl rfl (fA 4 fa_54_4 rfl rfl (ldB 0 Z Tryd.isAgg52 rfl rfl rfl ?_)))
 obtain ⟨H75b,l76,s77,z78,k79⟩:=Z.borrow
 have hf80 : Fun2 Tryd.prog (rS 3 RP.int) (rS 3 RP.int) false Value.bool slices_Equal_int (.func (.func 23) #[] #[]) H75b:=by
   refine ⟨_,_,rfl,Tryd.call23,fun H_ w_ hE_ hs_ cs1_ cs2_ x1_ x2_ y_ args_ hr1_ hr2_ hy_ ha_=>?_⟩
   obtain ⟨p1_0,rfl,hp1_0⟩:=slice1 hr1_
   obtain ⟨p2_0,rfl,hp2_0⟩:=slice1 hr2_
   obtain rfl:=args_of (b:=#[p1_0,p2_0]) ha_
   exact slices_Equal_int_c (s1:=x1_) (s2:=x2_) hs_ hp1_0 hp2_0 hy_
 refine L_call rfl Tryd.call50 (ops3 rfl rfl rfl) (slices_EqualFunc_Sint_c (s1:=a.rows) (s2:=b.rows) (eq:=slices_Equal_int) s77 (RP.mono _ h0_4 l76) (RP.mono _ h1_4 l76) hf80 hx30) ?_
 rintro _ w81 ⟨rfl,Z⟩
 have Z:=k79 Z c0
 refine L_pick (v:=Bo b32) rfl rfl (congrArg Value.bool (so hb32)) (aB rfl (nn (rj hR33 ⟨rfl,(Star.keepN 0 Z)⟩)))
 rw [ite_f hc74] at hb32
 refine ps rfl (ps rfl (ps rfl (ps rfl (ps rfl (L_pick (v:=Bo b32) rfl rfl (congrArg Value.bool (so hb32)) (aB rfl (nn (rj hR33 ⟨rfl,(Star.keepN 0 Z)⟩))))))))
 rw [ite_f hc34] at hb16
 refine ps rfl (ps rfl (ps rfl (ps rfl (ps rfl (L_pick (v:=Bo b16) rfl rfl (congrArg Value.bool (so hb16)) (mB rfl (L_split (d:=17) (b:=b16) rfl (fun hc82=>?_) (fun hc82=>?_))))))))
 rw [ite_t hc82] at hb24
 obtain ⟨x22,hx22,hb24⟩:=bind_some hb24
 refine fA 2 fa_54_2 rfl rfl (ldB 1 Z Tryd.isAgg23 rfl rfl rfl (fA 2 fa_54_2 rfl rfl (ldB 0 Z Tryd.isAgg23 rfl rfl rfl ?_)))
 obtain ⟨H83b,l84,s85,z86,k87⟩:=Z.borrow
 refine L_call rfl Tryd.call23 (ops2 rfl rfl) (slices_Equal_int_c (s1:=a.coefs) (s2:=b.coefs) s85 (RP.mono _ h0_2 l84) (RP.mono _ h1_2 l84) hx22) ?_
 rintro _ w88 ⟨rfl,Z⟩
 have Z:=k87 Z c0
 refine L_pick (v:=Bo b24) rfl rfl (congrArg Value.bool (so hb24)) (mB rfl (L_split (d:=24) (b:=b24) rfl (fun hc89=>?_) (fun hc89=>?_)))
 refine fA 3 fa_54_3 rfl rfl (ldB 1 Z Tryd.isAgg3 rfl rfl rfl (fA 3 fa_54_3 rfl rfl (ldB 0 Z Tryd.isAgg3 rfl rfl rfl (L_eql rfl rfl rfl (L_pick (v:=Bo (b24 && (a.bound == b.bound))) rfl rfl (and_t hc89 rfl) (mB rfl (L_split (d:=31) (b:=(b24 && (a.bound == b.bound))) rfl (fun hc90=>?_) (fun hc90=>?_))))))))
 rw [ite_t hc90] at hb32
 obtain ⟨x30,hx30,hb32⟩:=bind_some hb32
 refine fA 4 fa_54_4 rfl rfl (ldB 1 Z Tryd.isAgg52 rfl rfl rfl (fA 4 fa_54_4 rfl rfl (ldB 0 Z Tryd.isAgg52 rfl rfl rfl ?_)))
 obtain ⟨H91b,l92,s93,z94,k95⟩:=Z.borrow
 have hf96 : Fun2 Tryd.prog (rS 3 RP.int) (rS 3 RP.int) false Value.bool slices_Equal_int (.func (.func 23) #[] #[]) H91b:=by
   refine ⟨_,_,rfl,Tryd.call23,fun H_ w_ hE_ hs_ cs1_ cs2_ x1_ x2_ y_ args_ hr1_ hr2_ hy_ ha_=>?_⟩
   obtain ⟨p1_0,rfl,hp1_0⟩:=slice1 hr1_
   obtain ⟨p2_0,rfl,hp2_0⟩:=slice1 hr2_
   obtain rfl:=args_of (b:=#[p1_0,p2_0]) ha_
   exact slices_Equal_int_c (s1:=x1_) (s2:=x2_) hs_ hp1_0 hp2_0 hy_
 refine L_call rfl Tryd.call50 (ops3 rfl rfl rfl) (slices_EqualFunc_Sint_c (s1:=a.rows) (s2:=b.rows) (eq:=slices_Equal_int) s93 (RP.mono _ h0_4 l92) (RP.mono _ h1_4 l92) hf96 hx30) ?_
 rintro _ w97 ⟨rfl,Z⟩
 have Z:=k95 Z c0
 refine L_pick (v:=Bo b32) rfl rfl (congrArg Value.bool (so hb32)) (aB rfl (nn (rj hR33 ⟨rfl,(Star.keepN 0 Z)⟩)))
 rw [ite_f hc90] at hb32
 refine ps rfl (ps rfl (ps rfl (ps rfl (ps rfl (L_pick (v:=Bo b32) rfl rfl (congrArg Value.bool (so hb32)) (aB rfl (nn (rj hR33 ⟨rfl,(Star.keepN 0 Z)⟩))))))))
 refine ps rfl (ps rfl (ps rfl (ps rfl (ps rfl (L_pick (v:=Bo (b24 && (a.bound == b.bound))) rfl rfl (and_f hc89) (mB rfl (L_split (d:=31) (b:=(b24 && (a.bound == b.bound))) rfl (fun hc98=>?_) (fun hc98=>?_))))))))
 rw [ite_t hc98] at hb32
 obtain ⟨x30,hx30,hb32⟩:=bind_some hb32
 refine fA 4 fa_54_4 rfl rfl (ldB 1 Z Tryd.isAgg52 rfl rfl rfl (fA 4 fa_54_4 rfl rfl (ldB 0 Z Tryd.isAgg52 rfl rfl rfl ?_)))
 obtain ⟨H99b,l100,s101,z102,k103⟩:=Z.borrow
 have hf104 : Fun2 Tryd.prog (rS 3 RP.int) (rS 3 RP.int) false Value.bool slices_Equal_int (.func (.func 23) #[] #[]) H99b:=by
   refine ⟨_,_,rfl,Tryd.call23,fun H_ w_ hE_ hs_ cs1_ cs2_ x1_ x2_ y_ args_ hr1_ hr2_ hy_ ha_=>?_⟩
   obtain ⟨p1_0,rfl,hp1_0⟩:=slice1 hr1_
   obtain ⟨p2_0,rfl,hp2_0⟩:=slice1 hr2_
   obtain rfl:=args_of (b:=#[p1_0,p2_0]) ha_
   exact slices_Equal_int_c (s1:=x1_) (s2:=x2_) hs_ hp1_0 hp2_0 hy_
 refine L_call rfl Tryd.call50 (ops3 rfl rfl rfl) (slices_EqualFunc_Sint_c (s1:=a.rows) (s2:=b.rows) (eq:=slices_Equal_int) s101 (RP.mono _ h0_4 l100) (RP.mono _ h1_4 l100) hf104 hx30) ?_
 rintro _ w105 ⟨rfl,Z⟩
 have Z:=k103 Z c0
 refine L_pick (v:=Bo b32) rfl rfl (congrArg Value.bool (so hb32)) (aB rfl (nn (rj hR33 ⟨rfl,(Star.keepN 0 Z)⟩)))
 rw [ite_f hc98] at hb32
 refine ps rfl (ps rfl (ps rfl (ps rfl (ps rfl (L_pick (v:=Bo b32) rfl rfl (congrArg Value.bool (so hb32)) (aB rfl (nn (rj hR33 ⟨rfl,(Star.keepN 0 Z)⟩))))))))
 rw [ite_f hc82] at hb24
 refine ps rfl (ps rfl (ps rfl (ps rfl (ps rfl (L_pick (v:=Bo b24) rfl rfl (congrArg Value.bool (so hb24)) (mB rfl (L_split (d:=24) (b:=b24) rfl (fun hc106=>?_) (fun hc106=>?_))))))))
 refine fA 3 fa_54_3 rfl rfl (ldB 1 Z Tryd.isAgg3 rfl rfl rfl (fA 3 fa_54_3 rfl rfl (ldB 0 Z Tryd.isAgg3 rfl rfl rfl (L_eql rfl rfl rfl (L_pick (v:=Bo (b24 && (a.bound == b.bound))) rfl rfl (and_t hc106 rfl) (mB rfl (L_split (d:=31) (b:=(b24 && (a.bound == b.bound))) rfl (fun hc107=>?_) (fun hc107=>?_))))))))
 rw [ite_t hc107] at hb32
 obtain ⟨x30,hx30,hb32⟩:=bind_some hb32
 refine fA 4 fa_54_4 rfl rfl (ldB 1 Z Tryd.isAgg52 rfl rfl rfl (fA 4 fa_54_4 rfl rfl (ldB 0 Z Tryd.isAgg52 rfl rfl rfl ?_)))
 obtain ⟨H108b,l109,s110,z111,k112⟩:=Z.borrow
 have hf113 : Fun2 Tryd.prog (rS 3 RP.int) (rS 3 RP.int) false Value.bool slices_Equal_int (.func (.func 23) #[] #[]) H108b:=by
   refine ⟨_,_,rfl,Tryd.call23,fun H_ w_ hE_ hs_ cs1_ cs2_ x1_ x2_ y_ args_ hr1_ hr2_ hy_ ha_=>?_⟩
   obtain ⟨p1_0,rfl,hp1_0⟩:=slice1 hr1_
   obtain ⟨p2_0,rfl,hp2_0⟩:=slice1 hr2_
   obtain rfl:=args_of (b:=#[p1_0,p2_0]) ha_
   exact slices_Equal_int_c (s1:=x1_) (s2:=x2_) hs_ hp1_0 hp2_0 hy_
 refine L_call rfl Tryd.call50 (ops3 rfl rfl rfl) (slices_EqualFunc_Sint_c (s1:=a.rows) (s2:=b.rows) (eq:=slices_Equal_int) s110 (RP.mono _ h0_4 l109) (RP.mono _ h1_4 l109) hf113 hx30) ?_
 rintro _ w114 ⟨rfl,Z⟩
 have Z:=k112 Z c0
 refine L_pick (v:=Bo b32) rfl rfl (congrArg Value.bool (so hb32)) (aB rfl (nn (rj hR33 ⟨rfl,(Star.keepN 0 Z)⟩)))
 rw [ite_f hc107] at hb32
 refine ps rfl (ps rfl (ps rfl (ps rfl (ps rfl (L_pick (v:=Bo b32) rfl rfl (congrArg Value.bool (so hb32)) (aB rfl (nn (rj hR33 ⟨rfl,(Star.keepN 0 Z)⟩))))))))
 refine ps rfl (ps rfl (ps rfl (ps rfl (ps rfl (L_pick (v:=Bo (b24 && (a.bound == b.bound))) rfl rfl (and_f hc106) (mB rfl (L_split (d:=31) (b:=(b24 && (a.bound == b.bound))) rfl (fun hc115=>?_) (fun hc115=>?_))))))))
 rw [ite_t hc115] at hb32
 obtain ⟨x30,hx30,hb32⟩:=bind_some hb32
 refine fA 4 fa_54_4 rfl rfl (ldB 1 Z Tryd.isAgg52 rfl rfl rfl (fA 4 fa_54_4 rfl rfl (ldB 0 Z Tryd.isAgg52 rfl rfl rfl ?_)))
 obtain ⟨H116b,l117,s118,z119,k120⟩:=Z.borrow
 have hf121 : Fun2 Tryd.prog (rS 3 RP.int) (rS 3 RP.int) false Value.bool slices_Equal_int (.func (.func 23) #[] #[]) H116b:=by
   refine ⟨_,_,rfl,Tryd.call23,fun H_ w_ hE_ hs_ cs1_ cs2_ x1_ x2_ y_ args_ hr1_ hr2_ hy_ ha_=>?_⟩
   obtain ⟨p1_0,rfl,hp1_0⟩:=slice1 hr1_
   obtain ⟨p2_0,rfl,hp2_0⟩:=slice1 hr2_
   obtain rfl:=args_of (b:=#[p1_0,p2_0]) ha_
   exact slices_Equal_int_c (s1:=x1_) (s2:=x2_) hs_ hp1_0 hp2_0 hy_
 refine L_call rfl Tryd.call50 (ops3 rfl rfl rfl) (slices_EqualFunc_Sint_c (s1:=a.rows) (s2:=b.rows) (eq:=slices_Equal_int) s118 (RP.mono _ h0_4 l117) (RP.mono _ h1_4 l117) hf121 hx30) ?_
 rintro _ w122 ⟨rfl,Z⟩
 have Z:=k120 Z c0
 refine L_pick (v:=Bo b32) rfl rfl (congrArg Value.bool (so hb32)) (aB rfl (nn (rj hR33 ⟨rfl,(Star.keepN 0 Z)⟩)))
 rw [ite_f hc115] at hb32
 refine ps rfl (ps rfl (ps rfl (ps rfl (ps rfl (L_pick (v:=Bo b32) rfl rfl (congrArg Value.bool (so hb32)) (aB rfl (nn (rj hR33 ⟨rfl,(Star.keepN 0 Z)⟩))))))))
 intro f w_ hR
 obtain ⟨sf4,Z⟩:=rk hR33 hR
 refine W_ret (retG1 (v1:=Bo b32) Tryd.results25 sf4 ?_)
 obtain rfl:=so hF
 exact ⟨rfl,Z⟩
theorem i_ModelSame_c {a : Model} {b : Model} {v0_0 : Value} {v0_1 : Value} {v1_0 : Value} {v1_1 : Value} {H : FH} {w : World} (Z : Star H w []) (h0_0 : (rS 3 RP.int).rel H [v0_0] a.sizes) (h0_1 : (rS 54 (rRule 3 23)).rel H [v0_1] a.rules) (h1_0 : (rS 3 RP.int).rel H [v1_0] b.sizes) (h1_1 : (rS 54 (rRule 3 23)).rel H [v1_1] b.rules) {r : Bool} (hF : i_ModelSame a b = some r) :
 C Tryd.prog 7 #[.agg #[v0_0,v0_1],.agg #[v1_0,v1_1]] w fun v w'=>v = Bo r∧Star H w' []:=by
 unfold i_ModelSame at hF
 refine C_enter Tryd.func7 rfl Tryd.ntmps7 rfl (sq (L_box (v:=.agg #[v0_0,v0_1]) (cs:=#[v0_0,v0_1]) rfl rfl rfl Z (fun g5 w6 Z=>L_box (v:=.agg #[v1_0,v1_1]) (cs:=#[v1_0,v1_1]) rfl rfl rfl Z (fun g7 w8 Z=>aB rfl (nq ?_)))))
 obtain ⟨x14,hx14,hF⟩:=bind_some hF
 obtain ⟨b23,hb23,hF⟩:=bind_some hF
 obtain ⟨R24,hR24⟩:=exR fun f w_=>f 4 = Bo b23∧Star H w_ ([])
 refine W_join R24 ?_ ?_
 refine W_region (fA 0 fa_26_0 rfl rfl (ldB 1 Z Tryd.isAgg23 rfl rfl rfl (fA 0 fa_26_0 rfl rfl (ldB 0 Z Tryd.isAgg23 rfl rfl rfl ?_))))
 obtain ⟨H25b,l26,s27,z28,k29⟩:=Z.borrow
 refine L_call rfl Tryd.call23 (ops2 rfl rfl) (slices_Equal_int_c (s1:=a.sizes) (s2:=b.sizes) s27 (RP.mono _ h0_0 l26) (RP.mono _ h1_0 l26) hx14) ?_
 rintro _ w30 ⟨rfl,Z⟩
 have Z:=k29 Z c0
 refine mB rfl (L_split (d:=10) (b:=x14) rfl (fun hc31=>?_) (fun hc31=>?_))
 rw [ite_t hc31] at hb23
 obtain ⟨x21,hx21,hb23⟩:=bind_some hb23
 refine fA 1 fa_26_1 rfl rfl (ldB 1 Z Tryd.isAgg24 rfl rfl rfl (fA 1 fa_26_1 rfl rfl (ldB 0 Z Tryd.isAgg24 rfl rfl rfl ?_)))
 obtain ⟨H32b,l33,s34,z35,k36⟩:=Z.borrow
 have hf37 : Fun2 Tryd.prog (rRule 3 23) (rRule 3 23) true Value.bool i_sameRule (.func (.func 25) #[] #[]) H32b:=by
   refine ⟨_,_,rfl,Tryd.call25,fun H_ w_ hE_ hs_ cs1_ cs2_ x1_ x2_ y_ args_ hr1_ hr2_ hy_ ha_=>?_⟩
   obtain ⟨p1_0,p1_1,p1_2,rfl,hp1_0,hp1_1,hp1_2⟩:=rRule_iff.1 hr1_
   obtain ⟨p2_0,p2_1,p2_2,rfl,hp2_0,hp2_1,hp2_2⟩:=rRule_iff.1 hr2_
   obtain rfl:=args_of (b:=#[.agg #[I x1_.kind,p1_0,p1_1,I x1_.bound,p1_2],.agg #[I x2_.kind,p2_0,p2_1,I x2_.bound,p2_2]]) ha_
   exact i_sameRule_c (a:=x1_) (b:=x2_) hs_ hp1_0 hp1_1 hp1_2 hp2_0 hp2_1 hp2_2 hy_
 refine L_call rfl Tryd.call24 (ops3 rfl rfl rfl) (slices_EqualFunc_implRule_c (s1:=a.rules) (s2:=b.rules) (eq:=i_sameRule) s34 (RP.mono _ h0_1 l33) (RP.mono _ h1_1 l33) hf37 hx21) ?_
 rintro _ w38 ⟨rfl,Z⟩
 have Z:=k36 Z c0
 refine L_pick (v:=Bo b23) rfl rfl (congrArg Value.bool (so hb23)) (aB rfl (nn (rj hR24 ⟨rfl,(Star.keepN 0 Z)⟩)))
 rw [ite_f hc31] at hb23
 refine ps rfl (ps rfl (ps rfl (ps rfl (ps rfl (L_pick (v:=Bo b23) rfl rfl (congrArg Value.bool (so hb23)) (aB rfl (nn (rj hR24 ⟨rfl,(Star.keepN 0 Z)⟩))))))))
 intro f w_ hR
 obtain ⟨sf4,Z⟩:=rk hR24 hR
 refine W_ret (retG1 (v1:=Bo b23) Tryd.results7 sf4 ?_)
 obtain rfl:=so hF
 exact ⟨rfl,Z⟩
theorem s_l6Ints_c {a : List Int} {b : List Int} {v0 : Value} {v1 : Value} {H : FH} {w : World} (Z : Star H w []) (h0 : (rS 3 RP.int).rel H [v0] a) (h1 : (rS 3 RP.int).rel H [v1] b) {r : Bool} (hF : s_l6Ints a b = some r) :
 C Tryd.prog 26 #[v0,v1] w fun v w'=>v = Bo r∧Star H w' []:=by
 unfold s_l6Ints at hF
 refine C_enter Tryd.func26 rfl Tryd.ntmps26 rfl (sq (aB rfl (nq (sq (mV v0 rfl (L_len rfl Tryd.underlying23 rfl (slice_len h0) (mV v1 rfl (L_len rfl Tryd.underlying23 rfl (slice_len h1) (L_neq rfl rfl rfl (nn (W_cond (b:=((a.length : Int) != (b.length : Int))) rfl (fun hc1=>?_) (fun hc1=>?_))))))))))))
 have hF:=(ite_t hc1).symm.trans hF
 refine sq (aB rfl (nn (W_ret (retG1 (v1:=Bo false) Tryd.results26 rfl ?_))))
 obtain rfl:=so hF
 exact ⟨rfl,Z⟩
 have hF:=(ite_f hc1).symm.trans hF
 refine W_skip (W_seq (sq (aI rfl (nn ?_))))
 have hlen5 : List.length a≤9223372036854775807:=len_le (slice_len h0)
 obtain ⟨j5,hL5,hF⟩:=bind_some hF
 obtain ⟨R5,hR5⟩:=exR fun f w_=>∃ H3 : FH,j5 = .nx ()∧Le H H3∧Star H3 w_ ([])
 refine W_join R5 ?_ ?_
 refine W_block ?_
 obtain ⟨I5,hI5⟩:=exI fun n f w_=>∃ i_2 : Nat,∃ suf5 : List Int,∃ H3 : FH,n = suf5.length∧List.drop i_2 a = suf5∧i_2 + suf5.length = a.length∧rangeL (s_l6Ints_b1 b) suf5 i_2 () = some j5∧Le H H3∧f 0 = v0∧f 1 = v1∧f 5 = I i_2∧Star H3 w_ ([])
 refine W_loop I5 (n:=a.length) ?_ ?_
 exact ij hI5 ⟨0,a,H,rfl,rfl,Nat.zero_add _,hL5,(Le.refl _),rfl,rfl,rfl,Z⟩
 intro n5 f w_ hI
 obtain ⟨i_2,suf5,H3,rfl,hd5,hl5,hL5,l4,sf0,sf1,sf5,Z⟩:=ik hI5 hI
 refine W_seq (sq (mF sf5 rfl (mF sf0 rfl (L_len rfl Tryd.underlying23 rfl (slice_len (RP.mono _ h0 l4)) (L_lss rfl rfl rfl (nn (W_cond (b:=decide ((i_2 : Int) < (a.length : Int))) rfl (fun hc6=>?_) (fun hc6=>?_))))))))
 have hlt5:=of_decide_eq_true hc6
 rcases suf5 with _ | ⟨x_5,rest5⟩
 exact absurd hlt5 (by simp at hl5; omega)
 obtain ⟨o5,hB5,hL5⟩:=range_cons hL5
 rw [s_l6Ints_b1] at hB5
 have hix5:=drop_idx hd5
 refine W_skip (W_seq (W_block (W_seq ?_)))
 obtain ⟨x11,hx11,hB5⟩:=bind_some hB5
 refine W_drawS 8 [isV (v0),isV (I i_2),isEl RP.int x_5 0,isV (I x_5),isV (v1),isV (I i_2),isEl RP.int x11 0,isV (I x11)] [] [] ([]) [([],[]),([],[]),([],[]),([],[]),([],[]),([],[]),([],[]),([],[])] (S:=[]) Tryd_mix (by kernel_rfl) rfl (by kernel_rfl) (amF_cons (mono_V _) (amF_cons (mono_V _) (amF_cons (mono_el _ _ _) (amF_cons (mono_V _) (amF_cons (mono_V _) (amF_cons (mono_V _) (amF_cons (mono_el _ _ _) (amF_cons (mono_V _) amF_nil)))))))) Z ?_ (fun f w_ H16 hS16 hE16 hT16 Z=>?_)
 refine opsS_cons (fun f w_ _ _ s _ _ Z=>mF ((s 0 rfl).trans sf0) rfl (nO rfl rfl Z)) (opsS_cons (fun f w_ _ _ s _ _ Z=>mF ((s 5 rfl).trans sf5) rfl (nO rfl rfl Z)) (opsS_cons ?_ ?_))
 intro f w_ H16 X16 hS16 hE16 hP16 Z
 refine L_ix (r:=RP.int) rfl Tryd.underlying23 Tryd.sizeOf3 (hP16 0 17 rfl rfl) (RP.mono _ h0 (Le.trans l4 hE16)) (hP16 1 18 rfl rfl) hix5 (fun g25 o26 cs_g25 hrk_hat27 hat27=>?_)
 obtain rfl : _ = [_]:=hrk_hat27
 exact L_nil ⟨rfl,_,_,rfl,Le.refl _,fun _ _=>⟨_,_,_,rfl,rfl,hat27⟩,Z⟩
 refine opsS_cons ?_ ?_
 intro f w_ H16 X16 hS16 hE16 hP16 Z
 obtain ⟨g29,o29,cs29,hv29,hrk_hat29,hat29⟩:=(hP16 2 19 rfl rfl)
 obtain rfl : _ = [_]:=hrk_hat29
 refine L_ld rfl Tryd.isAgg3 hv29 (At.cell (AtH.at hat29 Z.sub) (j:=0) rfl) (L_nil ⟨rfl,_,_,rfl,Le.refl _,fun _ _=>rfl,Z⟩)
 refine opsS_cons (fun f w_ _ _ s _ _ Z=>mF ((s 1 rfl).trans sf1) rfl (nO rfl rfl Z)) (opsS_cons (fun f w_ _ _ s _ _ Z=>mF ((s 5 rfl).trans sf5) rfl (nO rfl rfl Z)) (opsS_cons ?_ ?_))
 intro f w_ H16 X16 hS16 hE16 hP16 Z
 refine L_ix (r:=RP.int) rfl Tryd.underlying23 Tryd.sizeOf3 (hP16 4 21 rfl rfl) (RP.mono _ h1 (Le.trans l4 hE16)) (hP16 5 22 rfl rfl) hx11 (fun g31 o32 cs_g31 hrk_hat33 hat33=>?_)
 obtain rfl : _ = [_]:=hrk_hat33
 exact L_nil ⟨rfl,_,_,rfl,Le.refl _,fun _ _=>⟨_,_,_,rfl,rfl,hat33⟩,Z⟩
 refine opsS_cons ?_ ?_
 intro f w_ H16 X16 hS16 hE16 hP16 Z
 obtain ⟨g35,o35,cs35,hv35,hrk_hat35,hat35⟩:=(hP16 6 23 rfl rfl)
 obtain rfl : _ = [_]:=hrk_hat35
 refine L_ld rfl Tryd.isAgg3 hv35 (At.cell (AtH.at hat35 Z.sub) (j:=0) rfl) (L_nil ⟨rfl,_,_,rfl,Le.refl _,fun _ _=>rfl,Z⟩)
 exact opsS_nil
 refine L_neq rfl (hT16 3 20 rfl rfl) (hT16 7 24 rfl rfl) (nn (W_cond (b:=(x_5 != x11)) rfl (fun hc37=>?_) (fun hc37=>?_)))
 have hB5:=(ite_t hc37).symm.trans hB5
 refine sq (aB rfl (nn (W_ret (retG1 (v1:=Bo false) Tryd.results26 rfl ?_))))
 obtain rfl:=so hB5
 obtain rfl:=so hL5
 obtain rfl:=so hF
 exact ⟨rfl,(Star.down Z (Le.trans l4 hE16) c0)⟩
 have hB5:=(ite_f hc37).symm.trans hB5
 refine W_skip (W_region (mF ((hS16 5 rfl).trans sf5) rfl (L_add rfl rfl rfl (aI rfl (nn ?_)))))
 obtain rfl:=so hB5
 show ∃ m,m < _∧I5 m _ _
 refine ⟨rest5.length,by simp,?_⟩
 exact ij hI5 ⟨i_2 + 1,rest5,H16,rfl,drop_next hd5,by simp at hl5; omega,hL5,(Le.trans l4 hE16),((hS16 0 rfl).trans sf0),((hS16 1 rfl).trans sf1),(Eq.trans rfl (congrArg (Value.int .i64) (i64_succ (n:=a.length) (by simp at hl5; omega) hlen5))),Z⟩
 rcases suf5 with _ | ⟨_,_⟩
 obtain rfl:=range_nil hL5
 refine W_exit (rj hR5 ⟨H3,rfl,l4,Z⟩)
 exact absurd (of_decide_eq_false hc6) (by simp at hl5; omega)
 intro f w_ hR
 obtain ⟨H3,rfl,l4,Z⟩:=rk hR5 hR
 refine sq (aB rfl (nn (W_ret (retG1 (v1:=Bo true) Tryd.results26 rfl ?_))))
 obtain rfl:=so hF
 exact ⟨rfl,(Star.down Z l4 c0)⟩
theorem s_l6SameRule_c {a : Rule} {b : Rule} {v0_1 : Value} {v0_2 : Value} {v0_4 : Value} {v1_1 : Value} {v1_2 : Value} {v1_4 : Value} {H : FH} {w : World} (Z : Star H w []) (h0_1 : (rS 3 RP.int).rel H [v0_1] a.vars) (h0_2 : (rS 3 RP.int).rel H [v0_2] a.coefs) (h0_4 : (rS 23 (rS 3 RP.int)).rel H [v0_4] a.rows) (h1_1 : (rS 3 RP.int).rel H [v1_1] b.vars) (h1_2 : (rS 3 RP.int).rel H [v1_2] b.coefs) (h1_4 : (rS 23 (rS 3 RP.int)).rel H [v1_4] b.rows) {r : Bool} (hF : s_l6SameRule a b = some r) :
 C Tryd.prog 27 #[.agg #[I a.kind,v0_1,v0_2,I a.bound,v0_4],.agg #[I b.kind,v1_1,v1_2,I b.bound,v1_4]] w fun v w'=>v = Bo r∧Star H w' []:=by
 unfold s_l6SameRule at hF
 refine C_enter Tryd.func27 rfl Tryd.ntmps27 rfl (sq (L_box (v:=.agg #[I a.kind,v0_1,v0_2,I a.bound,v0_4]) (cs:=#[I a.kind,v0_1,v0_2,I a.bound,v0_4]) rfl rfl rfl Z (fun g5 w6 Z=>L_box (v:=.agg #[I b.kind,v1_1,v1_2,I b.bound,v1_4]) (cs:=#[I b.kind,v1_1,v1_2,I b.bound,v1_4]) rfl rfl rfl Z (fun g7 w8 Z=>aB rfl (nq (W_seq ?_))))))
 obtain ⟨b16,hb16,hF⟩:=bind_some hF
 obtain ⟨b24,hb24,hF⟩:=bind_some hF
 obtain ⟨R25,hR25⟩:=exR fun f w_=>f 2 = Pt g5∧f 3 = Pt g7∧f 42 = Bo (b24 || ((a.rows.length : Int) != (b.rows.length : Int)))∧Star H w_ ([box g7 54 #[I b.kind,v1_1,v1_2,I b.bound,v1_4],box g5 54 #[I a.kind,v0_1,v0_2,I a.bound,v0_4]])
 refine W_join R25 ?_ ?_
 refine W_region (fA 0 fa_54_0 rfl rfl (ldB 1 Z Tryd.isAgg3 rfl rfl rfl (fA 0 fa_54_0 rfl rfl (ldB 0 Z Tryd.isAgg3 rfl rfl rfl (L_neq rfl rfl rfl (mB rfl (L_split (d:=11) (b:=(a.kind != b.kind)) rfl (fun hc26=>?_) (fun hc26=>?_))))))))
 refine ps rfl (ps rfl (ps rfl (ps rfl (ps rfl (L_pick (v:=Bo ((a.kind != b.kind) || (a.bound != b.bound))) rfl rfl (or_t hc26) (mB rfl (L_split (d:=18) (b:=((a.kind != b.kind) || (a.bound != b.bound))) rfl (fun hc27=>?_) (fun hc27=>?_))))))))
 rw [ite_t hc27] at hb16
 refine ps rfl (ps rfl (ps rfl (ps rfl (ps rfl (ps rfl (L_pick (v:=Bo b16) rfl rfl (congrArg Value.bool (so hb16)) (mB rfl (L_split (d:=26) (b:=b16) rfl (fun hc28=>?_) (fun hc28=>?_)))))))))
 rw [ite_t hc28] at hb24
 refine ps rfl (ps rfl (ps rfl (ps rfl (ps rfl (ps rfl (L_pick (v:=Bo b24) rfl rfl (congrArg Value.bool (so hb24)) (mB rfl (L_split (d:=34) (b:=b24) rfl (fun hc29=>?_) (fun hc29=>?_)))))))))
 refine ps rfl (ps rfl (ps rfl (ps rfl (ps rfl (ps rfl (ps rfl (L_pick (v:=Bo (b24 || ((a.rows.length : Int) != (b.rows.length : Int)))) rfl rfl (or_t hc29) (nn (rj hR25 ⟨rfl,rfl,rfl,Z⟩)))))))))
 refine fA 4 fa_54_4 rfl rfl (ldB 1 Z Tryd.isAgg52 rfl rfl rfl (L_len rfl Tryd.underlying52 rfl (slice_len h0_4) (fA 4 fa_54_4 rfl rfl (ldB 0 Z Tryd.isAgg52 rfl rfl rfl (L_len rfl Tryd.underlying52 rfl (slice_len h1_4) (L_neq rfl rfl rfl (L_pick (v:=Bo (b24 || ((a.rows.length : Int) != (b.rows.length : Int)))) rfl rfl (or_f hc29 rfl) (nn (rj hR25 ⟨rfl,rfl,rfl,Z⟩)))))))))
 rw [ite_f hc28] at hb24
 obtain ⟨x22,hx22,hb24⟩:=bind_some hb24
 refine fA 2 fa_54_2 rfl rfl (ldB 1 Z Tryd.isAgg23 rfl rfl rfl (fA 2 fa_54_2 rfl rfl (ldB 0 Z Tryd.isAgg23 rfl rfl rfl ?_)))
 obtain ⟨H30b,l31,s32,z33,k34⟩:=Z.borrow
 refine L_call rfl Tryd.call26 (ops2 rfl rfl) (s_l6Ints_c (a:=a.coefs) (b:=b.coefs) s32 (RP.mono _ h0_2 l31) (RP.mono _ h1_2 l31) hx22) ?_
 rintro _ w35 ⟨rfl,Z⟩
 have Z:=k34 Z c0
 refine L_not_ rfl rfl (L_pick (v:=Bo b24) rfl rfl (congrArg Value.bool (so hb24)) (mB rfl (L_split (d:=34) (b:=b24) rfl (fun hc36=>?_) (fun hc36=>?_))))
 refine ps rfl (ps rfl (ps rfl (ps rfl (ps rfl (ps rfl (ps rfl (L_pick (v:=Bo (b24 || ((a.rows.length : Int) != (b.rows.length : Int)))) rfl rfl (or_t hc36) (nn (rj hR25 ⟨rfl,rfl,rfl,Z⟩)))))))))
 refine fA 4 fa_54_4 rfl rfl (ldB 1 Z Tryd.isAgg52 rfl rfl rfl (L_len rfl Tryd.underlying52 rfl (slice_len h0_4) (fA 4 fa_54_4 rfl rfl (ldB 0 Z Tryd.isAgg52 rfl rfl rfl (L_len rfl Tryd.underlying52 rfl (slice_len h1_4) (L_neq rfl rfl rfl (L_pick (v:=Bo (b24 || ((a.rows.length : Int) != (b.rows.length : Int)))) rfl rfl (or_f hc36 rfl) (nn (rj hR25 ⟨rfl,rfl,rfl,Z⟩)))))))))
 rw [ite_f hc27] at hb16
 obtain ⟨x14,hx14,hb16⟩:=bind_some hb16
 refine fA 1 fa_54_1 rfl rfl (ldB 1 Z Tryd.isAgg23 rfl rfl rfl (fA 1 fa_54_1 rfl rfl (ldB 0 Z Tryd.isAgg23 rfl rfl rfl ?_)))
 obtain ⟨H37b,l38,s39,z40,k41⟩:=Z.borrow
 refine L_call rfl Tryd.call26 (ops2 rfl rfl) (s_l6Ints_c (a:=a.vars) (b:=b.vars) s39 (RP.mono _ h0_1 l38) (RP.mono _ h1_1 l38) hx14) ?_
 rintro _ w42 ⟨rfl,Z⟩
 have Z:=k41 Z c0
 refine L_not_ rfl rfl (L_pick (v:=Bo b16) rfl rfl (congrArg Value.bool (so hb16)) (mB rfl (L_split (d:=26) (b:=b16) rfl (fun hc43=>?_) (fun hc43=>?_))))
 rw [ite_t hc43] at hb24
 refine ps rfl (ps rfl (ps rfl (ps rfl (ps rfl (ps rfl (L_pick (v:=Bo b24) rfl rfl (congrArg Value.bool (so hb24)) (mB rfl (L_split (d:=34) (b:=b24) rfl (fun hc44=>?_) (fun hc44=>?_)))))))))
 refine ps rfl (ps rfl (ps rfl (ps rfl (ps rfl (ps rfl (ps rfl (L_pick (v:=Bo (b24 || ((a.rows.length : Int) != (b.rows.length : Int)))) rfl rfl (or_t hc44) (nn (rj hR25 ⟨rfl,rfl,rfl,Z⟩)))))))))
 refine fA 4 fa_54_4 rfl rfl (ldB 1 Z Tryd.isAgg52 rfl rfl rfl (L_len rfl Tryd.underlying52 rfl (slice_len h0_4) (fA 4 fa_54_4 rfl rfl (ldB 0 Z Tryd.isAgg52 rfl rfl rfl (L_len rfl Tryd.underlying52 rfl (slice_len h1_4) (L_neq rfl rfl rfl (L_pick (v:=Bo (b24 || ((a.rows.length : Int) != (b.rows.length : Int)))) rfl rfl (or_f hc44 rfl) (nn (rj hR25 ⟨rfl,rfl,rfl,Z⟩)))))))))
 rw [ite_f hc43] at hb24
 obtain ⟨x22,hx22,hb24⟩:=bind_some hb24
 refine fA 2 fa_54_2 rfl rfl (ldB 1 Z Tryd.isAgg23 rfl rfl rfl (fA 2 fa_54_2 rfl rfl (ldB 0 Z Tryd.isAgg23 rfl rfl rfl ?_)))
 obtain ⟨H45b,l46,s47,z48,k49⟩:=Z.borrow
 refine L_call rfl Tryd.call26 (ops2 rfl rfl) (s_l6Ints_c (a:=a.coefs) (b:=b.coefs) s47 (RP.mono _ h0_2 l46) (RP.mono _ h1_2 l46) hx22) ?_
 rintro _ w50 ⟨rfl,Z⟩
 have Z:=k49 Z c0
 refine L_not_ rfl rfl (L_pick (v:=Bo b24) rfl rfl (congrArg Value.bool (so hb24)) (mB rfl (L_split (d:=34) (b:=b24) rfl (fun hc51=>?_) (fun hc51=>?_))))
 refine ps rfl (ps rfl (ps rfl (ps rfl (ps rfl (ps rfl (ps rfl (L_pick (v:=Bo (b24 || ((a.rows.length : Int) != (b.rows.length : Int)))) rfl rfl (or_t hc51) (nn (rj hR25 ⟨rfl,rfl,rfl,Z⟩)))))))))
 refine fA 4 fa_54_4 rfl rfl (ldB 1 Z Tryd.isAgg52 rfl rfl rfl (L_len rfl Tryd.underlying52 rfl (slice_len h0_4) (fA 4 fa_54_4 rfl rfl (ldB 0 Z Tryd.isAgg52 rfl rfl rfl (L_len rfl Tryd.underlying52 rfl (slice_len h1_4) (L_neq rfl rfl rfl (L_pick (v:=Bo (b24 || ((a.rows.length : Int) != (b.rows.length : Int)))) rfl rfl (or_f hc51 rfl) (nn (rj hR25 ⟨rfl,rfl,rfl,Z⟩)))))))))
 refine fA 3 fa_54_3 rfl rfl (ldB 1 Z Tryd.isAgg3 rfl rfl rfl (fA 3 fa_54_3 rfl rfl (ldB 0 Z Tryd.isAgg3 rfl rfl rfl (L_neq rfl rfl rfl (L_pick (v:=Bo ((a.kind != b.kind) || (a.bound != b.bound))) rfl rfl (or_f hc26 rfl) (mB rfl (L_split (d:=18) (b:=((a.kind != b.kind) || (a.bound != b.bound))) rfl (fun hc52=>?_) (fun hc52=>?_))))))))
 rw [ite_t hc52] at hb16
 refine ps rfl (ps rfl (ps rfl (ps rfl (ps rfl (ps rfl (L_pick (v:=Bo b16) rfl rfl (congrArg Value.bool (so hb16)) (mB rfl (L_split (d:=26) (b:=b16) rfl (fun hc53=>?_) (fun hc53=>?_)))))))))
 rw [ite_t hc53] at hb24
 refine ps rfl (ps rfl (ps rfl (ps rfl (ps rfl (ps rfl (L_pick (v:=Bo b24) rfl rfl (congrArg Value.bool (so hb24)) (mB rfl (L_split (d:=34) (b:=b24) rfl (fun hc54=>?_) (fun hc54=>?_)))))))))
 refine ps rfl (ps rfl (ps rfl (ps rfl (ps rfl (ps rfl (ps rfl (L_pick (v:=Bo (b24 || ((a.rows.length : Int) != (b.rows.length : Int)))) rfl rfl (or_t hc54) (nn (rj hR25 ⟨rfl,rfl,rfl,Z⟩)))))))))
 refine fA 4 fa_54_4 rfl rfl (ldB 1 Z Tryd.isAgg52 rfl rfl rfl (L_len rfl Tryd.underlying52 rfl (slice_len h0_4) (fA 4 fa_54_4 rfl rfl (ldB 0 Z Tryd.isAgg52 rfl rfl rfl (L_len rfl Tryd.underlying52 rfl (slice_len h1_4) (L_neq rfl rfl rfl (L_pick (v:=Bo (b24 || ((a.rows.length : Int) != (b.rows.length : Int)))) rfl rfl (or_f hc54 rfl) (nn (rj hR25 ⟨rfl,rfl,rfl,Z⟩)))))))))
 rw [ite_f hc53] at hb24
 obtain ⟨x22,hx22,hb24⟩:=bind_some hb24
 refine fA 2 fa_54_2 rfl rfl (ldB 1 Z Tryd.isAgg23 rfl rfl rfl (fA 2 fa_54_2 rfl rfl (ldB 0 Z Tryd.isAgg23 rfl rfl rfl ?_)))
 obtain ⟨H55b,l56,s57,z58,k59⟩:=Z.borrow
 refine L_call rfl Tryd.call26 (ops2 rfl rfl) (s_l6Ints_c (a:=a.coefs) (b:=b.coefs) s57 (RP.mono _ h0_2 l56) (RP.mono _ h1_2 l56) hx22) ?_
 rintro _ w60 ⟨rfl,Z⟩
 have Z:=k59 Z c0
 refine L_not_ rfl rfl (L_pick (v:=Bo b24) rfl rfl (congrArg Value.bool (so hb24)) (mB rfl (L_split (d:=34) (b:=b24) rfl (fun hc61=>?_) (fun hc61=>?_))))
 refine ps rfl (ps rfl (ps rfl (ps rfl (ps rfl (ps rfl (ps rfl (L_pick (v:=Bo (b24 || ((a.rows.length : Int) != (b.rows.length : Int)))) rfl rfl (or_t hc61) (nn (rj hR25 ⟨rfl,rfl,rfl,Z⟩)))))))))
 refine fA 4 fa_54_4 rfl rfl (ldB 1 Z Tryd.isAgg52 rfl rfl rfl (L_len rfl Tryd.underlying52 rfl (slice_len h0_4) (fA 4 fa_54_4 rfl rfl (ldB 0 Z Tryd.isAgg52 rfl rfl rfl (L_len rfl Tryd.underlying52 rfl (slice_len h1_4) (L_neq rfl rfl rfl (L_pick (v:=Bo (b24 || ((a.rows.length : Int) != (b.rows.length : Int)))) rfl rfl (or_f hc61 rfl) (nn (rj hR25 ⟨rfl,rfl,rfl,Z⟩)))))))))
 rw [ite_f hc52] at hb16
 obtain ⟨x14,hx14,hb16⟩:=bind_some hb16
 refine fA 1 fa_54_1 rfl rfl (ldB 1 Z Tryd.isAgg23 rfl rfl rfl (fA 1 fa_54_1 rfl rfl (ldB 0 Z Tryd.isAgg23 rfl rfl rfl ?_)))
 obtain ⟨H62b,l63,s64,z65,k66⟩:=Z.borrow
 refine L_call rfl Tryd.call26 (ops2 rfl rfl) (s_l6Ints_c (a:=a.vars) (b:=b.vars) s64 (RP.mono _ h0_1 l63) (RP.mono _ h1_1 l63) hx14) ?_
 rintro _ w67 ⟨rfl,Z⟩
 have Z:=k66 Z c0
 refine L_not_ rfl rfl (L_pick (v:=Bo b16) rfl rfl (congrArg Value.bool (so hb16)) (mB rfl (L_split (d:=26) (b:=b16) rfl (fun hc68=>?_) (fun hc68=>?_))))
 rw [ite_t hc68] at hb24
 refine ps rfl (ps rfl (ps rfl (ps rfl (ps rfl (ps rfl (L_pick (v:=Bo b24) rfl rfl (congrArg Value.bool (so hb24)) (mB rfl (L_split (d:=34) (b:=b24) rfl (fun hc69=>?_) (fun hc69=>?_)))))))))
 refine ps rfl (ps rfl (ps rfl (ps rfl (ps rfl (ps rfl (ps rfl (L_pick (v:=Bo (b24 || ((a.rows.length : Int) != (b.rows.length : Int)))) rfl rfl (or_t hc69) (nn (rj hR25 ⟨rfl,rfl,rfl,Z⟩)))))))))
 refine fA 4 fa_54_4 rfl rfl (ldB 1 Z Tryd.isAgg52 rfl rfl rfl (L_len rfl Tryd.underlying52 rfl (slice_len h0_4) (fA 4 fa_54_4 rfl rfl (ldB 0 Z Tryd.isAgg52 rfl rfl rfl (L_len rfl Tryd.underlying52 rfl (slice_len h1_4) (L_neq rfl rfl rfl (L_pick (v:=Bo (b24 || ((a.rows.length : Int) != (b.rows.length : Int)))) rfl rfl (or_f hc69 rfl) (nn (rj hR25 ⟨rfl,rfl,rfl,Z⟩)))))))))
 rw [ite_f hc68] at hb24
 obtain ⟨x22,hx22,hb24⟩:=bind_some hb24
 refine fA 2 fa_54_2 rfl rfl (ldB 1 Z Tryd.isAgg23 rfl rfl rfl (fA 2 fa_54_2 rfl rfl (ldB 0 Z Tryd.isAgg23 rfl rfl rfl ?_)))
 obtain ⟨H70b,l71,s72,z73,k74⟩:=Z.borrow
 refine L_call rfl Tryd.call26 (ops2 rfl rfl) (s_l6Ints_c (a:=a.coefs) (b:=b.coefs) s72 (RP.mono _ h0_2 l71) (RP.mono _ h1_2 l71) hx22) ?_
 rintro _ w75 ⟨rfl,Z⟩
 have Z:=k74 Z c0
 refine L_not_ rfl rfl (L_pick (v:=Bo b24) rfl rfl (congrArg Value.bool (so hb24)) (mB rfl (L_split (d:=34) (b:=b24) rfl (fun hc76=>?_) (fun hc76=>?_))))
 refine ps rfl (ps rfl (ps rfl (ps rfl (ps rfl (ps rfl (ps rfl (L_pick (v:=Bo (b24 || ((a.rows.length : Int) != (b.rows.length : Int)))) rfl rfl (or_t hc76) (nn (rj hR25 ⟨rfl,rfl,rfl,Z⟩)))))))))
 refine fA 4 fa_54_4 rfl rfl (ldB 1 Z Tryd.isAgg52 rfl rfl rfl (L_len rfl Tryd.underlying52 rfl (slice_len h0_4) (fA 4 fa_54_4 rfl rfl (ldB 0 Z Tryd.isAgg52 rfl rfl rfl (L_len rfl Tryd.underlying52 rfl (slice_len h1_4) (L_neq rfl rfl rfl (L_pick (v:=Bo (b24 || ((a.rows.length : Int) != (b.rows.length : Int)))) rfl rfl (or_f hc76 rfl) (nn (rj hR25 ⟨rfl,rfl,rfl,Z⟩)))))))))
 intro f w_ hR
 obtain ⟨sf2,sf3,sf42,Z⟩:=rk hR25 hR
 refine W_cond (b:=(b24 || ((a.rows.length : Int) != (b.rows.length : Int)))) sf42 (fun hc77=>?_) (fun hc77=>?_)
 have hF:=(ite_t hc77).symm.trans hF
 refine sq (aB rfl (nn (W_ret (retG1 (v1:=Bo false) Tryd.results27 rfl ?_))))
 obtain rfl:=so hF
 exact ⟨rfl,(Star.keepN 0 Z)⟩
 have hF:=(ite_f hc77).symm.trans hF
 refine W_skip (W_seq (sq (aI rfl (nn ?_))))
 have hlen81 : List.length a.rows≤9223372036854775807:=len_le (slice_len h0_4)
 obtain ⟨j81,hL81,hF⟩:=bind_some hF
 obtain ⟨R81,hR81⟩:=exR fun f w_=>∃ H79 : FH,j81 = .nx ()∧Le H H79∧Star H79 w_ ([])
 refine W_join R81 ?_ ?_
 refine W_block ?_
 obtain ⟨I81,hI81⟩:=exI fun n f w_=>∃ i_78 : Nat,∃ suf81 : List (List Int),∃ H79 : FH,n = suf81.length∧List.drop i_78 a.rows = suf81∧i_78 + suf81.length = a.rows.length∧rangeL (s_l6SameRule_b1 b) suf81 i_78 () = some j81∧Le H H79∧f 2 = Pt g5∧f 3 = Pt g7∧f 5 = I i_78∧Star H79 w_ ([box g7 54 #[I b.kind,v1_1,v1_2,I b.bound,v1_4],box g5 54 #[I a.kind,v0_1,v0_2,I a.bound,v0_4]])
 refine W_loop I81 (n:=a.rows.length) ?_ ?_
 exact ij hI81 ⟨0,a.rows,H,rfl,rfl,Nat.zero_add _,hL81,(Le.refl _),sf2,sf3,rfl,Z⟩
 intro n81 f w_ hI
 obtain ⟨i_78,suf81,H79,rfl,hd81,hl81,hL81,l80,sf2,sf3,sf5,Z⟩:=ik hI81 hI
 refine W_seq (sq (mF sf5 rfl (fA 4 fa_54_4 sf2 rfl (ldB 1 Z Tryd.isAgg52 rfl rfl rfl (L_len rfl Tryd.underlying52 rfl (slice_len (RP.mono _ h0_4 l80)) (L_lss rfl rfl rfl (nn (W_cond (b:=decide ((i_78 : Int) < (a.rows.length : Int))) rfl (fun hc82=>?_) (fun hc82=>?_)))))))))
 have hlt81:=of_decide_eq_true hc82
 rcases suf81 with _ | ⟨x_81,rest81⟩
 exact absurd hlt81 (by simp at hl81; omega)
 obtain ⟨o81,hB81,hL81⟩:=range_cons hL81
 rw [s_l6SameRule_b1] at hB81
 have hix81:=drop_idx hd81
 refine W_skip (W_seq (W_block (W_seq ?_)))
 obtain ⟨x87,hx87,hB81⟩:=bind_some hB81
 obtain ⟨x97,hx97,hB81⟩:=bind_some hB81
 refine W_drawS 10 [isV (Pq g5 4),isV (v0_4),isV (I i_78),isEl (rS 3 RP.int) x_81 0,isData (rS 3 RP.int) x_81,isV (Pq g7 4),isV (v1_4),isV (I i_78),isEl (rS 3 RP.int) x87 0,isData (rS 3 RP.int) x87] [box g7 54 #[I b.kind,v1_1,v1_2,I b.bound,v1_4],box g5 54 #[I a.kind,v0_1,v0_2,I a.bound,v0_4]] [] ([]) [([],[]),([],[]),([],[]),([],[]),([],[]),([],[]),([],[]),([],[]),([],[]),([],[])] (S:=[]) Tryd_mix (by kernel_rfl) rfl (by kernel_rfl) (amF_cons (mono_V _) (amF_cons (mono_V _) (amF_cons (mono_V _) (amF_cons (mono_el _ _ _) (amF_cons (mono_data _ _) (amF_cons (mono_V _) (amF_cons (mono_V _) (amF_cons (mono_V _) (amF_cons (mono_el _ _ _) (amF_cons (mono_data _ _) amF_nil)))))))))) Z ?_ (fun f w_ H99 hS99 hE99 hT99 Z=>?_)
 refine opsS_cons (fun f w_ _ _ s _ _ Z=>fA 4 fa_54_4 ((s 2 rfl).trans sf2) rfl (nO rfl rfl Z)) (opsS_cons (fun f w_ _ _ _ _ p Z=>ldB 1 Z Tryd.isAgg52 (p 0 50 rfl rfl) rfl rfl (nO rfl rfl Z)) (opsS_cons (fun f w_ _ _ s _ _ Z=>mF ((s 5 rfl).trans sf5) rfl (nO rfl rfl Z)) (opsS_cons ?_ ?_)))
 intro f w_ H99 X99 hS99 hE99 hP99 Z
 refine L_ix (r:=(rS 3 RP.int)) rfl Tryd.underlying52 Tryd.sizeOf23 (hP99 1 51 rfl rfl) (RP.mono _ h0_4 (Le.trans l80 hE99)) (hP99 2 52 rfl rfl) hix81 (fun g108 o109 cs_g108 hrk_hat110 hat110=>?_)
 obtain ⟨u111,rfl,hu111⟩:=slice1 hrk_hat110
 exact L_nil ⟨rfl,_,_,rfl,Le.refl _,fun _ _=>⟨_,_,_,rfl,hrk_hat110,hat110⟩,Z⟩
 refine opsS_cons ?_ ?_
 intro f w_ H99 X99 hS99 hE99 hP99 Z
 obtain ⟨g112,o112,cs112,hv112,hrk_hat112,hat112⟩:=(hP99 3 53 rfl rfl)
 obtain ⟨u113,rfl,hu113⟩:=slice1 hrk_hat112
 refine L_ld rfl Tryd.isAgg23 hv112 (At.cell (AtH.at hat112 Z.sub) (j:=0) rfl) (L_nil ⟨rfl,_,_,rfl,Le.refl _,fun _ _=>hu113,Z⟩)
 refine opsS_cons (fun f w_ _ _ s _ _ Z=>fA 4 fa_54_4 ((s 3 rfl).trans sf3) rfl (nO rfl rfl Z)) (opsS_cons (fun f w_ _ _ _ _ p Z=>ldB 0 Z Tryd.isAgg52 (p 5 55 rfl rfl) rfl rfl (nO rfl rfl Z)) (opsS_cons (fun f w_ _ _ s _ _ Z=>mF ((s 5 rfl).trans sf5) rfl (nO rfl rfl Z)) (opsS_cons ?_ ?_)))
 intro f w_ H99 X99 hS99 hE99 hP99 Z
 refine L_ix (r:=(rS 3 RP.int)) rfl Tryd.underlying52 Tryd.sizeOf23 (hP99 6 56 rfl rfl) (RP.mono _ h1_4 (Le.trans l80 hE99)) (hP99 7 57 rfl rfl) hx87 (fun g114 o115 cs_g114 hrk_hat116 hat116=>?_)
 obtain ⟨u117,rfl,hu117⟩:=slice1 hrk_hat116
 exact L_nil ⟨rfl,_,_,rfl,Le.refl _,fun _ _=>⟨_,_,_,rfl,hrk_hat116,hat116⟩,Z⟩
 refine opsS_cons ?_ ?_
 intro f w_ H99 X99 hS99 hE99 hP99 Z
 obtain ⟨g118,o118,cs118,hv118,hrk_hat118,hat118⟩:=(hP99 8 58 rfl rfl)
 obtain ⟨u119,rfl,hu119⟩:=slice1 hrk_hat118
 refine L_ld rfl Tryd.isAgg23 hv118 (At.cell (AtH.at hat118 Z.sub) (j:=0) rfl) (L_nil ⟨rfl,_,_,rfl,Le.refl _,fun _ _=>hu119,Z⟩)
 exact opsS_nil
 have hd120 : (rS 3 RP.int).rel H99 [f 54] x_81:=(hT99 4 54 rfl rfl)
 have hd121 : (rS 3 RP.int).rel H99 [f 59] x87:=(hT99 9 59 rfl rfl)
 obtain ⟨H122b,l123,s124,z125,k126⟩:=Z.borrow
 refine L_call rfl Tryd.call26 (ops2 rfl rfl) (s_l6Ints_c (a:=x_81) (b:=x87) s124 (RP.mono _ hd120 l123) (RP.mono _ hd121 l123) hx97) ?_
 rintro _ w127 ⟨rfl,Z⟩
 have Z:=k126 Z c0
 refine L_not_ rfl rfl (nn (W_cond (b:=(!x97)) rfl (fun hc128=>?_) (fun hc128=>?_)))
 have hB81:=(ite_t hc128).symm.trans hB81
 refine sq (aB rfl (nn (W_ret (retG1 (v1:=Bo false) Tryd.results27 rfl ?_))))
 obtain rfl:=so hB81
 obtain rfl:=so hL81
 obtain rfl:=so hF
 exact ⟨rfl,(Star.down (Star.keepN 0 Z) (Le.trans l80 hE99) c0)⟩
 have hB81:=(ite_f hc128).symm.trans hB81
 refine W_skip (W_region (mF ((hS99 5 rfl).trans sf5) rfl (L_add rfl rfl rfl (aI rfl (nn ?_)))))
 obtain rfl:=so hB81
 show ∃ m,m < _∧I81 m _ _
 refine ⟨rest81.length,by simp,?_⟩
 exact ij hI81 ⟨i_78 + 1,rest81,H99,rfl,drop_next hd81,by simp at hl81; omega,hL81,(Le.trans l80 hE99),((hS99 2 rfl).trans sf2),((hS99 3 rfl).trans sf3),(Eq.trans rfl (congrArg (Value.int .i64) (i64_succ (n:=a.rows.length) (by simp at hl81; omega) hlen81))),Z⟩
 rcases suf81 with _ | ⟨_,_⟩
 obtain rfl:=range_nil hL81
 refine W_exit (rj hR81 ⟨H79,rfl,l80,(Star.keepN 0 Z)⟩)
 exact absurd (of_decide_eq_false hc82) (by simp at hl81; omega)
 intro f w_ hR
 obtain ⟨H79,rfl,l80,Z⟩:=rk hR81 hR
 refine sq (aB rfl (nn (W_ret (retG1 (v1:=Bo true) Tryd.results27 rfl ?_))))
 obtain rfl:=so hF
 exact ⟨rfl,(Star.down Z l80 c0)⟩
theorem s_ModelSame_c {a : Model} {b : Model} {v0_0 : Value} {v0_1 : Value} {v1_0 : Value} {v1_1 : Value} {H : FH} {w : World} (Z : Star H w []) (h0_0 : (rS 3 RP.int).rel H [v0_0] a.sizes) (h0_1 : (rS 54 (rRule 3 23)).rel H [v0_1] a.rules) (h1_0 : (rS 3 RP.int).rel H [v1_0] b.sizes) (h1_1 : (rS 54 (rRule 3 23)).rel H [v1_1] b.rules) {r : Bool} (hF : s_ModelSame a b = some r) :
 C Tryd.prog 8 #[.agg #[v0_0,v0_1],.agg #[v1_0,v1_1]] w fun v w'=>v = Bo r∧Star H w' []:=by
 unfold s_ModelSame at hF
 refine C_enter Tryd.func8 rfl Tryd.ntmps8 rfl (sq (L_box (v:=.agg #[v0_0,v0_1]) (cs:=#[v0_0,v0_1]) rfl rfl rfl Z (fun g5 w6 Z=>L_box (v:=.agg #[v1_0,v1_1]) (cs:=#[v1_0,v1_1]) rfl rfl rfl Z (fun g7 w8 Z=>aB rfl (nq (W_seq ?_))))))
 obtain ⟨x14,hx14,hF⟩:=bind_some hF
 obtain ⟨R16,hR16⟩:=exR fun f w_=>f 2 = Pt g5∧f 3 = Pt g7∧f 20 = Bo ((!x14) || ((a.rules.length : Int) != (b.rules.length : Int)))∧Star H w_ ([box g7 26 #[v1_0,v1_1],box g5 26 #[v0_0,v0_1]])
 refine W_join R16 ?_ ?_
 refine W_region (fA 0 fa_26_0 rfl rfl (ldB 1 Z Tryd.isAgg23 rfl rfl rfl (fA 0 fa_26_0 rfl rfl (ldB 0 Z Tryd.isAgg23 rfl rfl rfl ?_))))
 obtain ⟨H17b,l18,s19,z20,k21⟩:=Z.borrow
 refine L_call rfl Tryd.call26 (ops2 rfl rfl) (s_l6Ints_c (a:=a.sizes) (b:=b.sizes) s19 (RP.mono _ h0_0 l18) (RP.mono _ h1_0 l18) hx14) ?_
 rintro _ w22 ⟨rfl,Z⟩
 have Z:=k21 Z c0
 refine L_not_ rfl rfl (mB rfl (L_split (d:=12) (b:=(!x14)) rfl (fun hc23=>?_) (fun hc23=>?_)))
 refine ps rfl (ps rfl (ps rfl (ps rfl (ps rfl (ps rfl (ps rfl (L_pick (v:=Bo ((!x14) || ((a.rules.length : Int) != (b.rules.length : Int)))) rfl rfl (or_t hc23) (nn (rj hR16 ⟨rfl,rfl,rfl,Z⟩)))))))))
 refine fA 1 fa_26_1 rfl rfl (ldB 1 Z Tryd.isAgg24 rfl rfl rfl (L_len rfl Tryd.underlying24 rfl (slice_len h0_1) (fA 1 fa_26_1 rfl rfl (ldB 0 Z Tryd.isAgg24 rfl rfl rfl (L_len rfl Tryd.underlying24 rfl (slice_len h1_1) (L_neq rfl rfl rfl (L_pick (v:=Bo ((!x14) || ((a.rules.length : Int) != (b.rules.length : Int)))) rfl rfl (or_f hc23 rfl) (nn (rj hR16 ⟨rfl,rfl,rfl,Z⟩)))))))))
 intro f w_ hR
 obtain ⟨sf2,sf3,sf20,Z⟩:=rk hR16 hR
 refine W_cond (b:=((!x14) || ((a.rules.length : Int) != (b.rules.length : Int)))) sf20 (fun hc24=>?_) (fun hc24=>?_)
 have hF:=(ite_t hc24).symm.trans hF
 refine sq (aB rfl (nn (W_ret (retG1 (v1:=Bo false) Tryd.results8 rfl ?_))))
 obtain rfl:=so hF
 exact ⟨rfl,(Star.keepN 0 Z)⟩
 have hF:=(ite_f hc24).symm.trans hF
 refine W_skip (W_seq (sq (aI rfl (nn ?_))))
 have hlen28 : List.length a.rules≤9223372036854775807:=len_le (slice_len h0_1)
 obtain ⟨j28,hL28,hF⟩:=bind_some hF
 obtain ⟨R28,hR28⟩:=exR fun f w_=>∃ H26 : FH,j28 = .nx ()∧Le H H26∧Star H26 w_ ([])
 refine W_join R28 ?_ ?_
 refine W_block ?_
 obtain ⟨I28,hI28⟩:=exI fun n f w_=>∃ i_25 : Nat,∃ suf28 : List Rule,∃ H26 : FH,n = suf28.length∧List.drop i_25 a.rules = suf28∧i_25 + suf28.length = a.rules.length∧rangeL (s_ModelSame_b1 b) suf28 i_25 () = some j28∧Le H H26∧f 2 = Pt g5∧f 3 = Pt g7∧f 5 = I i_25∧Star H26 w_ ([box g7 26 #[v1_0,v1_1],box g5 26 #[v0_0,v0_1]])
 refine W_loop I28 (n:=a.rules.length) ?_ ?_
 exact ij hI28 ⟨0,a.rules,H,rfl,rfl,Nat.zero_add _,hL28,(Le.refl _),sf2,sf3,rfl,Z⟩
 intro n28 f w_ hI
 obtain ⟨i_25,suf28,H26,rfl,hd28,hl28,hL28,l27,sf2,sf3,sf5,Z⟩:=ik hI28 hI
 refine W_seq (sq (mF sf5 rfl (fA 1 fa_26_1 sf2 rfl (ldB 1 Z Tryd.isAgg24 rfl rfl rfl (L_len rfl Tryd.underlying24 rfl (slice_len (RP.mono _ h0_1 l27)) (L_lss rfl rfl rfl (nn (W_cond (b:=decide ((i_25 : Int) < (a.rules.length : Int))) rfl (fun hc29=>?_) (fun hc29=>?_)))))))))
 have hlt28:=of_decide_eq_true hc29
 rcases suf28 with _ | ⟨x_28,rest28⟩
 exact absurd hlt28 (by simp at hl28; omega)
 obtain ⟨o28,hB28,hL28⟩:=range_cons hL28
 rw [s_ModelSame_b1] at hB28
 have hix28:=drop_idx hd28
 refine W_skip (W_seq (W_block (W_seq ?_)))
 obtain ⟨x34,hx34,hB28⟩:=bind_some hB28
 obtain ⟨x44,hx44,hB28⟩:=bind_some hB28
 refine W_drawS 10 [isV (Pq g5 1),isV (v0_1),isV (I i_25),isEl (rRule 3 23) x_28 0,exD (isData (rS 3 RP.int) x_28.vars) fun u_1=>exD (isData (rS 3 RP.int) x_28.coefs) fun u_2=>exD (isData (rS 23 (rS 3 RP.int)) x_28.rows) fun u_4=>isV (.agg #[I x_28.kind,u_1,u_2,I x_28.bound,u_4]),isV (Pq g7 1),isV (v1_1),isV (I i_25),isEl (rRule 3 23) x34 0,exD (isData (rS 3 RP.int) x34.vars) fun u_1=>exD (isData (rS 3 RP.int) x34.coefs) fun u_2=>exD (isData (rS 23 (rS 3 RP.int)) x34.rows) fun u_4=>isV (.agg #[I x34.kind,u_1,u_2,I x34.bound,u_4])] [box g7 26 #[v1_0,v1_1],box g5 26 #[v0_0,v0_1]] [] ([]) [([],[]),([],[]),([],[]),([],[]),([],[]),([],[]),([],[]),([],[]),([],[]),([],[])] (S:=[]) Tryd_mix (by kernel_rfl) rfl (by kernel_rfl) (amF_cons (mono_V _) (amF_cons (mono_V _) (amF_cons (mono_V _) (amF_cons (mono_el _ _ _) (amF_cons (mono_exD (mono_data _ _) fun _=>mono_exD (mono_data _ _) fun _=>mono_exD (mono_data _ _) fun _=>mono_V _) (amF_cons (mono_V _) (amF_cons (mono_V _) (amF_cons (mono_V _) (amF_cons (mono_el _ _ _) (amF_cons (mono_exD (mono_data _ _) fun _=>mono_exD (mono_data _ _) fun _=>mono_exD (mono_data _ _) fun _=>mono_V _) amF_nil)))))))))) Z ?_ (fun f w_ H46 hS46 hE46 hT46 Z=>?_)
 refine opsS_cons (fun f w_ _ _ s _ _ Z=>fA 1 fa_26_1 ((s 2 rfl).trans sf2) rfl (nO rfl rfl Z)) (opsS_cons (fun f w_ _ _ _ _ p Z=>ldB 1 Z Tryd.isAgg24 (p 0 28 rfl rfl) rfl rfl (nO rfl rfl Z)) (opsS_cons (fun f w_ _ _ s _ _ Z=>mF ((s 5 rfl).trans sf5) rfl (nO rfl rfl Z)) (opsS_cons ?_ ?_)))
 intro f w_ H46 X46 hS46 hE46 hP46 Z
 refine L_ix (r:=(rRule 3 23)) rfl Tryd.underlying24 Tryd.sizeOf54 (hP46 1 29 rfl rfl) (RP.mono _ h0_1 (Le.trans l27 hE46)) (hP46 2 30 rfl rfl) hix28 (fun g55 o56 cs_g55 hrk_hat57 hat57=>?_)
 obtain ⟨u58_0,u58_1,u58_2,rfl,hu58_0,hu58_1,hu58_2⟩:=rRule_iff.1 hrk_hat57
 exact L_nil ⟨rfl,_,_,rfl,Le.refl _,fun _ _=>⟨_,_,_,rfl,hrk_hat57,hat57⟩,Z⟩
 refine opsS_cons ?_ ?_
 intro f w_ H46 X46 hS46 hE46 hP46 Z
 obtain ⟨g59,o59,cs59,hv59,hrk_hat59,hat59⟩:=(hP46 3 31 rfl rfl)
 obtain ⟨u60_0,u60_1,u60_2,rfl,hu60_0,hu60_1,hu60_2⟩:=rRule_iff.1 hrk_hat59
 refine L_lda (cs:=[I x_28.kind,u60_0,u60_1,I x_28.bound,u60_2]) rfl Tryd.isAgg54 Tryd.sizeOf54 hv59 (At.sub (AtH.at hat59 Z.sub) 0 5) rfl (L_nil ⟨rfl,_,_,rfl,Le.refl _,fun _ _=>⟨_,hu60_0,_,hu60_1,_,hu60_2,rfl⟩,Z⟩)
 refine opsS_cons (fun f w_ _ _ s _ _ Z=>fA 1 fa_26_1 ((s 3 rfl).trans sf3) rfl (nO rfl rfl Z)) (opsS_cons (fun f w_ _ _ _ _ p Z=>ldB 0 Z Tryd.isAgg24 (p 5 33 rfl rfl) rfl rfl (nO rfl rfl Z)) (opsS_cons (fun f w_ _ _ s _ _ Z=>mF ((s 5 rfl).trans sf5) rfl (nO rfl rfl Z)) (opsS_cons ?_ ?_)))
 intro f w_ H46 X46 hS46 hE46 hP46 Z
 refine L_ix (r:=(rRule 3 23)) rfl Tryd.underlying24 Tryd.sizeOf54 (hP46 6 34 rfl rfl) (RP.mono _ h1_1 (Le.trans l27 hE46)) (hP46 7 35 rfl rfl) hx34 (fun g61 o62 cs_g61 hrk_hat63 hat63=>?_)
 obtain ⟨u64_0,u64_1,u64_2,rfl,hu64_0,hu64_1,hu64_2⟩:=rRule_iff.1 hrk_hat63
 exact L_nil ⟨rfl,_,_,rfl,Le.refl _,fun _ _=>⟨_,_,_,rfl,hrk_hat63,hat63⟩,Z⟩
 refine opsS_cons ?_ ?_
 intro f w_ H46 X46 hS46 hE46 hP46 Z
 obtain ⟨g65,o65,cs65,hv65,hrk_hat65,hat65⟩:=(hP46 8 36 rfl rfl)
 obtain ⟨u66_0,u66_1,u66_2,rfl,hu66_0,hu66_1,hu66_2⟩:=rRule_iff.1 hrk_hat65
 refine L_lda (cs:=[I x34.kind,u66_0,u66_1,I x34.bound,u66_2]) rfl Tryd.isAgg54 Tryd.sizeOf54 hv65 (At.sub (AtH.at hat65 Z.sub) 0 5) rfl (L_nil ⟨rfl,_,_,rfl,Le.refl _,fun _ _=>⟨_,hu66_0,_,hu66_1,_,hu66_2,rfl⟩,Z⟩)
 exact opsS_nil
 obtain ⟨u67_1,hu67_1,u67_2,hu67_2,u67_4,hu67_4,hv67⟩:=(hT46 4 32 rfl rfl)
 obtain ⟨u68_1,hu68_1,u68_2,hu68_2,u68_4,hu68_4,hv68⟩:=(hT46 9 37 rfl rfl)
 obtain ⟨H69b,l70,s71,z72,k73⟩:=Z.borrow
 refine L_call rfl Tryd.call27 (ops2 hv67 hv68) (s_l6SameRule_c (a:=x_28) (b:=x34) s71 (RP.mono _ hu67_1 l70) (RP.mono _ hu67_2 l70) (RP.mono _ hu67_4 l70) (RP.mono _ hu68_1 l70) (RP.mono _ hu68_2 l70) (RP.mono _ hu68_4 l70) hx44) ?_
 rintro _ w74 ⟨rfl,Z⟩
 have Z:=k73 Z c0
 refine L_not_ rfl rfl (nn (W_cond (b:=(!x44)) rfl (fun hc75=>?_) (fun hc75=>?_)))
 have hB28:=(ite_t hc75).symm.trans hB28
 refine sq (aB rfl (nn (W_ret (retG1 (v1:=Bo false) Tryd.results8 rfl ?_))))
 obtain rfl:=so hB28
 obtain rfl:=so hL28
 obtain rfl:=so hF
 exact ⟨rfl,(Star.down (Star.keepN 0 Z) (Le.trans l27 hE46) c0)⟩
 have hB28:=(ite_f hc75).symm.trans hB28
 refine W_skip (W_region (mF ((hS46 5 rfl).trans sf5) rfl (L_add rfl rfl rfl (aI rfl (nn ?_)))))
 obtain rfl:=so hB28
 show ∃ m,m < _∧I28 m _ _
 refine ⟨rest28.length,by simp,?_⟩
 exact ij hI28 ⟨i_25 + 1,rest28,H46,rfl,drop_next hd28,by simp at hl28; omega,hL28,(Le.trans l27 hE46),((hS46 2 rfl).trans sf2),((hS46 3 rfl).trans sf3),(Eq.trans rfl (congrArg (Value.int .i64) (i64_succ (n:=a.rules.length) (by simp at hl28; omega) hlen28))),Z⟩
 rcases suf28 with _ | ⟨_,_⟩
 obtain rfl:=range_nil hL28
 refine W_exit (rj hR28 ⟨H26,rfl,l27,(Star.keepN 0 Z)⟩)
 exact absurd (of_decide_eq_false hc29) (by simp at hl28; omega)
 intro f w_ hR
 obtain ⟨H26,rfl,l27,Z⟩:=rk hR28 hR
 refine sq (aB rfl (nn (W_ret (retG1 (v1:=Bo true) Tryd.results8 rfl ?_))))
 obtain rfl:=so hF
 exact ⟨rfl,(Star.down Z l27 c0)⟩
theorem i_within_c {n_ : Int} {low : Int} {high : Int} {H : FH} {w : World} (Z : Star H w []) {r : Bool} (hF : i_within n_ low high = some r) :
 C Tryd.prog 51 #[I n_,I low,I high] w fun v w'=>v = Bo r∧Star H w' []:=by
 unfold i_within at hF
 refine C_enter Tryd.func51 rfl Tryd.ntmps51 rfl (sq (aB rfl (nq ?_)))
 obtain ⟨R1,hR1⟩:=exR fun f w_=>f 6 = Bo ((decide (low≤n_)) && (decide (n_≤high)))∧Star H w_ ([])
 refine W_join R1 ?_ ?_
 refine W_region (mI rfl (mI rfl (L_leq rfl rfl rfl (mB rfl (L_split (d:=10) (b:=decide (low≤n_)) rfl (fun hc2=>?_) (fun hc2=>?_))))))
 refine mI rfl (mI rfl (L_leq rfl rfl rfl (L_pick (v:=Bo ((decide (low≤n_)) && (decide (n_≤high)))) rfl rfl (and_t hc2 rfl) (aB rfl (nn (rj hR1 ⟨rfl,Z⟩))))))
 refine ps rfl (ps rfl (ps rfl (L_pick (v:=Bo ((decide (low≤n_)) && (decide (n_≤high)))) rfl rfl (and_f hc2) (aB rfl (nn (rj hR1 ⟨rfl,Z⟩))))))
 intro f w_ hR
 obtain ⟨sf6,Z⟩:=rk hR1 hR
 refine W_ret (retG1 (v1:=Bo ((decide (low≤n_)) && (decide (n_≤high)))) Tryd.results51 sf6 ?_)
 obtain rfl:=so hF
 exact ⟨rfl,Z⟩
theorem slices_IndexFunc_implRule_c {s : List Rule} {f_ : (Rule→Option Bool)} {v0 : Value} {v1 : Value} {H : FH} {w : World} (Z : Star H w []) (h0 : (rS 54 (rRule 3 23)).rel H [v0] s) (h1 : Fun1 Tryd.prog (rRule 3 23) true Value.bool f_ v1 H) {r : Int} (hF : slices_IndexFunc_implRule s f_ = some r) :
 C Tryd.prog 82 #[v0,v1] w fun v w'=>v = I r∧Star H w' []:=by
 unfold slices_IndexFunc_implRule at hF
 obtain ⟨fid_1,caps_1,rfl,hcall_1,hc_1⟩:=h1
 refine C_enter Tryd.func82 rfl Tryd.ntmps82 rfl (sq (aI rfl (nq (sq (mV v0 rfl (L_len rfl Tryd.underlying24 rfl (slice_len h0) (mI rfl (nn ?_))))))))
 have hlen2 : List.length s≤9223372036854775807:=len_le (slice_len h0)
 obtain ⟨j2,hL2,hF⟩:=bind_some hF
 obtain ⟨R2,hR2⟩:=exR fun f w_=>j2 = .nx ()∧Star H w_ ([])
 refine W_join R2 ?_ ?_
 refine W_block ?_
 obtain ⟨I2,hI2⟩:=exI fun n f w_=>∃ i_1 : Nat,∃ suf2 : List Rule,n = suf2.length∧List.drop i_1 s = suf2∧i_1 + suf2.length = s.length∧rangeL (slices_IndexFunc_implRule_b1 f_) suf2 i_1 () = some j2∧f 0 = v0∧f 1 = .func (.func fid_1) #[] caps_1∧f 7 = I (s.length : Int)∧f 8 = I i_1∧Star H w_ ([])
 refine W_loop I2 (n:=s.length) ?_ ?_
 exact ij hI2 ⟨0,s,rfl,rfl,Nat.zero_add _,hL2,rfl,rfl,rfl,rfl,Z⟩
 intro n2 f w_ hI
 obtain ⟨i_1,suf2,rfl,hd2,hl2,hL2,sf0,sf1,sf7,sf8,Z⟩:=ik hI2 hI
 refine sq (L_lss rfl sf8 sf7 (nq (W_cond (b:=decide ((i_1 : Int) < (s.length : Int))) rfl (fun hc3=>?_) (fun hc3=>?_))))
 have hlt2:=of_decide_eq_true hc3
 rcases suf2 with _ | ⟨x_2,rest2⟩
 exact absurd hlt2 (by simp at hl2; omega)
 obtain ⟨o2,hB2,hL2⟩:=range_cons hL2
 rw [slices_IndexFunc_implRule_b1] at hB2
 have hix2:=drop_idx hd2
 refine W_skip (W_seq (W_block (sq (mF sf8 rfl (aI rfl (nq ?_))))))
 obtain ⟨x8,hx8,hB2⟩:=bind_some hB2
 refine W_region (mF sf1 rfl (mF sf0 rfl (mI rfl (L_ix (r:=(rRule 3 23)) rfl Tryd.underlying24 Tryd.sizeOf54 rfl h0 rfl hix2 (fun g15 o16 cs_g15 hrk_hat17 hat17=>?_)))))
 obtain ⟨u18_0,u18_1,u18_2,rfl,hu18_0,hu18_1,hu18_2⟩:=rRule_iff.1 hrk_hat17
 refine L_lda (cs:=[I x_2.kind,u18_0,u18_1,I x_2.bound,u18_2]) rfl Tryd.isAgg54 Tryd.sizeOf54 rfl (At.sub (AtH.at hat17 Z.sub) 0 5) rfl ?_
 obtain ⟨H19b,l20,s21,z22,k23⟩:=Z.borrow
 refine L_callv (args:=#[.agg #[I x_2.kind,u18_0,u18_1,I x_2.bound,u18_2]]) rfl hcall_1 rfl (ops1 rfl) (hc_1 _ _ l20 s21 [I x_2.kind,u18_0,u18_1,I x_2.bound,u18_2] _ _ _ (rRule_iff.2 ⟨_,_,_,rfl,(RP.mono _ hu18_0 l20),(RP.mono _ hu18_1 l20),(RP.mono _ hu18_2 l20)⟩) hx8 (args_app rfl)) ?_
 rintro _ w24 ⟨rfl,Z⟩
 have Z:=k23 Z c0
 refine nn (W_cond (b:=x8) rfl (fun hc25=>?_) (fun hc25=>?_))
 have hB2:=(ite_t hc25).symm.trans hB2
 refine sq (mI rfl (aI rfl (nn (W_ret (retG1 (v1:=I i_1) Tryd.results82 rfl ?_)))))
 obtain rfl:=so hB2
 obtain rfl:=so hL2
 obtain rfl:=so hF
 exact ⟨rfl,Z⟩
 have hB2:=(ite_f hc25).symm.trans hB2
 refine W_skip (W_region (L_add rfl sf8 rfl (mI rfl (nn ?_))))
 obtain rfl:=so hB2
 show ∃ m,m < _∧I2 m _ _
 refine ⟨rest2.length,by simp,?_⟩
 exact ij hI2 ⟨i_1 + 1,rest2,rfl,drop_next hd2,by simp at hl2; omega,hL2,sf0,sf1,sf7,(Eq.trans rfl (congrArg (Value.int .i64) (i64_succ (n:=s.length) (by simp at hl2; omega) hlen2))),Z⟩
 rcases suf2 with _ | ⟨_,_⟩
 obtain rfl:=range_nil hL2
 refine W_exit (rj hR2 ⟨rfl,Z⟩)
 exact absurd (of_decide_eq_false hc3) (by simp at hl2; omega)
 intro f w_ hR
 obtain ⟨rfl,Z⟩:=rk hR2 hR
 refine sq (aI rfl (nn (W_ret (retG1 (v1:=I (-1)) Tryd.results82 rfl ?_))))
 obtain rfl:=so hF
 exact ⟨rfl,Z⟩
theorem slices_ContainsFunc_implRule_c {s : List Rule} {f_ : (Rule→Option Bool)} {v0 : Value} {v1 : Value} {H : FH} {w : World} (Z : Star H w []) (h0 : (rS 54 (rRule 3 23)).rel H [v0] s) (h1 : Fun1 Tryd.prog (rRule 3 23) true Value.bool f_ v1 H) {r : Bool} (hF : slices_ContainsFunc_implRule s f_ = some r) :
 C Tryd.prog 52 #[v0,v1] w fun v w'=>v = Bo r∧Star H w' []:=by
 unfold slices_ContainsFunc_implRule at hF
 obtain ⟨fid_1,caps_1,rfl,hcall_1,hc_1⟩:=h1
 refine C_enter Tryd.func52 rfl Tryd.ntmps52 rfl (sq (aB rfl (nq ?_)))
 obtain ⟨x6,hx6,hF⟩:=bind_some hF
 refine W_region (mV v0 rfl (mV (.func (.func fid_1) #[] caps_1) rfl ?_))
 obtain ⟨H8b,l9,s10,z11,k12⟩:=Z.borrow
 refine L_call rfl Tryd.call82 (ops2 rfl rfl) (slices_IndexFunc_implRule_c (s:=s) (f_:=f_) s10 (RP.mono _ h0 l9) (Fun1.le ⟨_,_,rfl,hcall_1,hc_1⟩ l9) hx6) ?_
 rintro _ w13 ⟨rfl,Z⟩
 have Z:=k12 Z c0
 refine L_geq rfl rfl rfl (aB rfl (nn (W_ret (retG1 (v1:=Bo (decide (x6 ≥ 0))) Tryd.results52 rfl ?_))))
 obtain rfl:=so hF
 exact ⟨rfl,Z⟩
theorem slices_Index_int_c {s : List Int} {v_ : Int} {v0 : Value} {H : FH} {w : World} (Z : Star H w []) (h0 : (rS 3 RP.int).rel H [v0] s) {r : Int} (hF : slices_Index_int s v_ = some r) :
 C Tryd.prog 104 #[v0,I v_] w fun v w'=>v = I r∧Star H w' []:=by
 unfold slices_Index_int at hF
 refine C_enter Tryd.func104 rfl Tryd.ntmps104 rfl (sq (aI rfl (nq (sq (mV v0 rfl (L_len rfl Tryd.underlying23 rfl (slice_len h0) (mI rfl (nn ?_))))))))
 have hlen2 : List.length s≤9223372036854775807:=len_le (slice_len h0)
 obtain ⟨j2,hL2,hF⟩:=bind_some hF
 obtain ⟨R2,hR2⟩:=exR fun f w_=>j2 = .nx ()∧Star H w_ ([])
 refine W_join R2 ?_ ?_
 refine W_block ?_
 obtain ⟨I2,hI2⟩:=exI fun n f w_=>∃ i_1 : Nat,∃ suf2 : List Int,n = suf2.length∧List.drop i_1 s = suf2∧i_1 + suf2.length = s.length∧rangeL (slices_Index_int_b1 v_) suf2 i_1 () = some j2∧f 0 = v0∧f 1 = I v_∧f 7 = I (s.length : Int)∧f 8 = I i_1∧Star H w_ ([])
 refine W_loop I2 (n:=s.length) ?_ ?_
 exact ij hI2 ⟨0,s,rfl,rfl,Nat.zero_add _,hL2,rfl,rfl,rfl,rfl,Z⟩
 intro n2 f w_ hI
 obtain ⟨i_1,suf2,rfl,hd2,hl2,hL2,sf0,sf1,sf7,sf8,Z⟩:=ik hI2 hI
 refine sq (L_lss rfl sf8 sf7 (nq (W_cond (b:=decide ((i_1 : Int) < (s.length : Int))) rfl (fun hc3=>?_) (fun hc3=>?_))))
 have hlt2:=of_decide_eq_true hc3
 rcases suf2 with _ | ⟨x_2,rest2⟩
 exact absurd hlt2 (by simp at hl2; omega)
 obtain ⟨o2,hB2,hL2⟩:=range_cons hL2
 rw [slices_Index_int_b1] at hB2
 have hix2:=drop_idx hd2
 refine W_skip (W_seq (W_block (sq (mF sf8 rfl (aI rfl (ns (mF sf1 rfl (mF sf0 rfl (mI rfl (L_ix (r:=RP.int) rfl Tryd.underlying23 Tryd.sizeOf3 rfl h0 rfl hix2 (fun g8 o9 cs_g8 hrk_hat10 hat10=>?_)))))))))))
 obtain rfl : _ = [_]:=hrk_hat10
 refine L_ld rfl Tryd.isAgg3 rfl (At.cell (AtH.at hat10 Z.sub) (j:=0) rfl) (L_eql rfl rfl rfl (nn (W_cond (b:=(v_ == x_2)) rfl (fun hc12=>?_) (fun hc12=>?_))))
 have hB2:=(ite_t hc12).symm.trans hB2
 refine sq (mI rfl (aI rfl (nn (W_ret (retG1 (v1:=I i_1) Tryd.results104 rfl ?_)))))
 obtain rfl:=so hB2
 obtain rfl:=so hL2
 obtain rfl:=so hF
 exact ⟨rfl,Z⟩
 have hB2:=(ite_f hc12).symm.trans hB2
 refine W_skip (W_region (L_add rfl sf8 rfl (mI rfl (nn ?_))))
 obtain rfl:=so hB2
 show ∃ m,m < _∧I2 m _ _
 refine ⟨rest2.length,by simp,?_⟩
 exact ij hI2 ⟨i_1 + 1,rest2,rfl,drop_next hd2,by simp at hl2; omega,hL2,sf0,sf1,sf7,(Eq.trans rfl (congrArg (Value.int .i64) (i64_succ (n:=s.length) (by simp at hl2; omega) hlen2))),Z⟩
 rcases suf2 with _ | ⟨_,_⟩
 obtain rfl:=range_nil hL2
 refine W_exit (rj hR2 ⟨rfl,Z⟩)
 exact absurd (of_decide_eq_false hc3) (by simp at hl2; omega)
 intro f w_ hR
 obtain ⟨rfl,Z⟩:=rk hR2 hR
 refine sq (aI rfl (nn (W_ret (retG1 (v1:=I (-1)) Tryd.results104 rfl ?_))))
 obtain rfl:=so hF
 exact ⟨rfl,Z⟩
theorem slices_Contains_int_c {s : List Int} {v_ : Int} {v0 : Value} {H : FH} {w : World} (Z : Star H w []) (h0 : (rS 3 RP.int).rel H [v0] s) {r : Bool} (hF : slices_Contains_int s v_ = some r) :
 C Tryd.prog 83 #[v0,I v_] w fun v w'=>v = Bo r∧Star H w' []:=by
 unfold slices_Contains_int at hF
 refine C_enter Tryd.func83 rfl Tryd.ntmps83 rfl (sq (aB rfl (nq ?_)))
 obtain ⟨x6,hx6,hF⟩:=bind_some hF
 refine W_region (mV v0 rfl (mI rfl ?_))
 obtain ⟨H8b,l9,s10,z11,k12⟩:=Z.borrow
 refine L_call rfl Tryd.call104 (ops2 rfl rfl) (slices_Index_int_c (s:=s) (v_:=v_) s10 (RP.mono _ h0 l9) hx6) ?_
 rintro _ w13 ⟨rfl,Z⟩
 have Z:=k12 Z c0
 refine L_geq rfl rfl rfl (aB rfl (nn (W_ret (retG1 (v1:=Bo (decide (x6 ≥ 0))) Tryd.results83 rfl ?_))))
 obtain rfl:=so hF
 exact ⟨rfl,Z⟩
theorem slices_IndexFunc_int_c {s : List Int} {f_ : (Int→Option Bool)} {v0 : Value} {v1 : Value} {H : FH} {w : World} (Z : Star H w []) (h0 : (rS 3 RP.int).rel H [v0] s) (h1 : Fun1 Tryd.prog RP.int false Value.bool f_ v1 H) {r : Int} (hF : slices_IndexFunc_int s f_ = some r) :
 C Tryd.prog 105 #[v0,v1] w fun v w'=>v = I r∧Star H w' []:=by
 unfold slices_IndexFunc_int at hF
 obtain ⟨fid_1,caps_1,rfl,hcall_1,hc_1⟩:=h1
 refine C_enter Tryd.func105 rfl Tryd.ntmps105 rfl (sq (aI rfl (nq (sq (mV v0 rfl (L_len rfl Tryd.underlying23 rfl (slice_len h0) (mI rfl (nn ?_))))))))
 have hlen2 : List.length s≤9223372036854775807:=len_le (slice_len h0)
 obtain ⟨j2,hL2,hF⟩:=bind_some hF
 obtain ⟨R2,hR2⟩:=exR fun f w_=>j2 = .nx ()∧Star H w_ ([])
 refine W_join R2 ?_ ?_
 refine W_block ?_
 obtain ⟨I2,hI2⟩:=exI fun n f w_=>∃ i_1 : Nat,∃ suf2 : List Int,n = suf2.length∧List.drop i_1 s = suf2∧i_1 + suf2.length = s.length∧rangeL (slices_IndexFunc_int_b1 f_) suf2 i_1 () = some j2∧f 0 = v0∧f 1 = .func (.func fid_1) #[] caps_1∧f 7 = I (s.length : Int)∧f 8 = I i_1∧Star H w_ ([])
 refine W_loop I2 (n:=s.length) ?_ ?_
 exact ij hI2 ⟨0,s,rfl,rfl,Nat.zero_add _,hL2,rfl,rfl,rfl,rfl,Z⟩
 intro n2 f w_ hI
 obtain ⟨i_1,suf2,rfl,hd2,hl2,hL2,sf0,sf1,sf7,sf8,Z⟩:=ik hI2 hI
 refine sq (L_lss rfl sf8 sf7 (nq (W_cond (b:=decide ((i_1 : Int) < (s.length : Int))) rfl (fun hc3=>?_) (fun hc3=>?_))))
 have hlt2:=of_decide_eq_true hc3
 rcases suf2 with _ | ⟨x_2,rest2⟩
 exact absurd hlt2 (by simp at hl2; omega)
 obtain ⟨o2,hB2,hL2⟩:=range_cons hL2
 rw [slices_IndexFunc_int_b1] at hB2
 have hix2:=drop_idx hd2
 refine W_skip (W_seq (W_block (sq (mF sf8 rfl (aI rfl (nq ?_))))))
 obtain ⟨x8,hx8,hB2⟩:=bind_some hB2
 refine W_region (mF sf1 rfl (mF sf0 rfl (mI rfl (L_ix (r:=RP.int) rfl Tryd.underlying23 Tryd.sizeOf3 rfl h0 rfl hix2 (fun g15 o16 cs_g15 hrk_hat17 hat17=>?_)))))
 obtain rfl : _ = [_]:=hrk_hat17
 refine L_ld rfl Tryd.isAgg3 rfl (At.cell (AtH.at hat17 Z.sub) (j:=0) rfl) ?_
 obtain ⟨H19b,l20,s21,z22,k23⟩:=Z.borrow
 refine L_callv (args:=#[I x_2]) rfl hcall_1 rfl (ops1 rfl) (hc_1 _ _ l20 s21 [I x_2] _ _ _ rfl hx8 (args_app rfl)) ?_
 rintro _ w24 ⟨rfl,Z⟩
 have Z:=k23 Z c0
 refine nn (W_cond (b:=x8) rfl (fun hc25=>?_) (fun hc25=>?_))
 have hB2:=(ite_t hc25).symm.trans hB2
 refine sq (mI rfl (aI rfl (nn (W_ret (retG1 (v1:=I i_1) Tryd.results105 rfl ?_)))))
 obtain rfl:=so hB2
 obtain rfl:=so hL2
 obtain rfl:=so hF
 exact ⟨rfl,Z⟩
 have hB2:=(ite_f hc25).symm.trans hB2
 refine W_skip (W_region (L_add rfl sf8 rfl (mI rfl (nn ?_))))
 obtain rfl:=so hB2
 show ∃ m,m < _∧I2 m _ _
 refine ⟨rest2.length,by simp,?_⟩
 exact ij hI2 ⟨i_1 + 1,rest2,rfl,drop_next hd2,by simp at hl2; omega,hL2,sf0,sf1,sf7,(Eq.trans rfl (congrArg (Value.int .i64) (i64_succ (n:=s.length) (by simp at hl2; omega) hlen2))),Z⟩
 rcases suf2 with _ | ⟨_,_⟩
 obtain rfl:=range_nil hL2
 refine W_exit (rj hR2 ⟨rfl,Z⟩)
 exact absurd (of_decide_eq_false hc3) (by simp at hl2; omega)
 intro f w_ hR
 obtain ⟨rfl,Z⟩:=rk hR2 hR
 refine sq (aI rfl (nn (W_ret (retG1 (v1:=I (-1)) Tryd.results105 rfl ?_))))
 obtain rfl:=so hF
 exact ⟨rfl,Z⟩
theorem slices_ContainsFunc_int_c {s : List Int} {f_ : (Int→Option Bool)} {v0 : Value} {v1 : Value} {H : FH} {w : World} (Z : Star H w []) (h0 : (rS 3 RP.int).rel H [v0] s) (h1 : Fun1 Tryd.prog RP.int false Value.bool f_ v1 H) {r : Bool} (hF : slices_ContainsFunc_int s f_ = some r) :
 C Tryd.prog 84 #[v0,v1] w fun v w'=>v = Bo r∧Star H w' []:=by
 unfold slices_ContainsFunc_int at hF
 obtain ⟨fid_1,caps_1,rfl,hcall_1,hc_1⟩:=h1
 refine C_enter Tryd.func84 rfl Tryd.ntmps84 rfl (sq (aB rfl (nq ?_)))
 obtain ⟨x6,hx6,hF⟩:=bind_some hF
 refine W_region (mV v0 rfl (mV (.func (.func fid_1) #[] caps_1) rfl ?_))
 obtain ⟨H8b,l9,s10,z11,k12⟩:=Z.borrow
 refine L_call rfl Tryd.call105 (ops2 rfl rfl) (slices_IndexFunc_int_c (s:=s) (f_:=f_) s10 (RP.mono _ h0 l9) (Fun1.le ⟨_,_,rfl,hcall_1,hc_1⟩ l9) hx6) ?_
 rintro _ w13 ⟨rfl,Z⟩
 have Z:=k12 Z c0
 refine L_geq rfl rfl rfl (aB rfl (nn (W_ret (retG1 (v1:=Bo (decide (x6 ≥ 0))) Tryd.results84 rfl ?_))))
 obtain rfl:=so hF
 exact ⟨rfl,Z⟩
theorem i_ruleValid_1_c {n_ : Int} {H : FH} {w : World} (Z : Star H w []) {r : Bool} (hF : i_ruleValid_1 n_ = some r) :
 C Tryd.prog 85 #[I n_] w fun v w'=>v = Bo r∧Star H w' []:=by
 unfold i_ruleValid_1 at hF
 refine C_enter Tryd.func85 rfl Tryd.ntmps85 rfl (sq (aB rfl (nq ?_)))
 obtain ⟨b8,hb8,hF⟩:=bind_some hF
 obtain ⟨R9,hR9⟩:=exR fun f w_=>f 2 = Bo b8∧Star H w_ ([])
 refine W_join R9 ?_ ?_
 refine W_region (mI rfl (L_eql rfl rfl rfl (mB rfl (L_split (d:=5) (b:=(n_ == 0)) rfl (fun hc10=>?_) (fun hc10=>?_)))))
 rw [ite_t hc10] at hb8
 refine ps rfl (ps rfl (ps rfl (L_pick (v:=Bo b8) rfl rfl (congrArg Value.bool (so hb8)) (aB rfl (nn (rj hR9 ⟨rfl,Z⟩))))))
 rw [ite_f hc10] at hb8
 obtain ⟨x6,hx6,hb8⟩:=bind_some hb8
 refine mI rfl ?_
 obtain ⟨H11b,l12,s13,z14,k15⟩:=Z.borrow
 refine L_call rfl Tryd.call51 (ops3 rfl rfl rfl) (i_within_c (n_:=n_) (low:=(-9)) (high:=9) s13 hx6) ?_
 rintro _ w16 ⟨rfl,Z⟩
 have Z:=k15 Z c0
 refine L_not_ rfl rfl (L_pick (v:=Bo b8) rfl rfl (congrArg Value.bool (so hb8)) (aB rfl (nn (rj hR9 ⟨rfl,Z⟩))))
 intro f w_ hR
 obtain ⟨sf2,Z⟩:=rk hR9 hR
 refine W_ret (retG1 (v1:=Bo b8) Tryd.results85 sf2 ?_)
 obtain rfl:=so hF
 exact ⟨rfl,Z⟩
theorem slices_IndexFunc_Sint_c {s : List (List Int)} {f_ : ((List Int)→Option Bool)} {v0 : Value} {v1 : Value} {H : FH} {w : World} (Z : Star H w []) (h0 : (rS 23 (rS 3 RP.int)).rel H [v0] s) (h1 : Fun1 Tryd.prog (rS 3 RP.int) false Value.bool f_ v1 H) {r : Int} (hF : slices_IndexFunc_Sint s f_ = some r) :
 C Tryd.prog 106 #[v0,v1] w fun v w'=>v = I r∧Star H w' []:=by
 unfold slices_IndexFunc_Sint at hF
 obtain ⟨fid_1,caps_1,rfl,hcall_1,hc_1⟩:=h1
 refine C_enter Tryd.func106 rfl Tryd.ntmps106 rfl (sq (aI rfl (nq (sq (mV v0 rfl (L_len rfl Tryd.underlying52 rfl (slice_len h0) (mI rfl (nn ?_))))))))
 have hlen2 : List.length s≤9223372036854775807:=len_le (slice_len h0)
 obtain ⟨j2,hL2,hF⟩:=bind_some hF
 obtain ⟨R2,hR2⟩:=exR fun f w_=>j2 = .nx ()∧Star H w_ ([])
 refine W_join R2 ?_ ?_
 refine W_block ?_
 obtain ⟨I2,hI2⟩:=exI fun n f w_=>∃ i_1 : Nat,∃ suf2 : List (List Int),n = suf2.length∧List.drop i_1 s = suf2∧i_1 + suf2.length = s.length∧rangeL (slices_IndexFunc_Sint_b1 f_) suf2 i_1 () = some j2∧f 0 = v0∧f 1 = .func (.func fid_1) #[] caps_1∧f 7 = I (s.length : Int)∧f 8 = I i_1∧Star H w_ ([])
 refine W_loop I2 (n:=s.length) ?_ ?_
 exact ij hI2 ⟨0,s,rfl,rfl,Nat.zero_add _,hL2,rfl,rfl,rfl,rfl,Z⟩
 intro n2 f w_ hI
 obtain ⟨i_1,suf2,rfl,hd2,hl2,hL2,sf0,sf1,sf7,sf8,Z⟩:=ik hI2 hI
 refine sq (L_lss rfl sf8 sf7 (nq (W_cond (b:=decide ((i_1 : Int) < (s.length : Int))) rfl (fun hc3=>?_) (fun hc3=>?_))))
 have hlt2:=of_decide_eq_true hc3
 rcases suf2 with _ | ⟨x_2,rest2⟩
 exact absurd hlt2 (by simp at hl2; omega)
 obtain ⟨o2,hB2,hL2⟩:=range_cons hL2
 rw [slices_IndexFunc_Sint_b1] at hB2
 have hix2:=drop_idx hd2
 refine W_skip (W_seq (W_block (sq (mF sf8 rfl (aI rfl (nq ?_))))))
 obtain ⟨x8,hx8,hB2⟩:=bind_some hB2
 refine W_region (mF sf1 rfl (mF sf0 rfl (mI rfl (L_ix (r:=(rS 3 RP.int)) rfl Tryd.underlying52 Tryd.sizeOf23 rfl h0 rfl hix2 (fun g15 o16 cs_g15 hrk_hat17 hat17=>?_)))))
 obtain ⟨u18,rfl,hu18⟩:=slice1 hrk_hat17
 refine L_ld rfl Tryd.isAgg23 rfl (At.cell (AtH.at hat17 Z.sub) (j:=0) rfl) ?_
 obtain ⟨H19b,l20,s21,z22,k23⟩:=Z.borrow
 refine L_callv (args:=#[u18]) rfl hcall_1 rfl (ops1 rfl) (hc_1 _ _ l20 s21 [u18] _ _ _ (RP.mono _ hu18 l20) hx8 (args_app rfl)) ?_
 rintro _ w24 ⟨rfl,Z⟩
 have Z:=k23 Z c0
 refine nn (W_cond (b:=x8) rfl (fun hc25=>?_) (fun hc25=>?_))
 have hB2:=(ite_t hc25).symm.trans hB2
 refine sq (mI rfl (aI rfl (nn (W_ret (retG1 (v1:=I i_1) Tryd.results106 rfl ?_)))))
 obtain rfl:=so hB2
 obtain rfl:=so hL2
 obtain rfl:=so hF
 exact ⟨rfl,Z⟩
 have hB2:=(ite_f hc25).symm.trans hB2
 refine W_skip (W_region (L_add rfl sf8 rfl (mI rfl (nn ?_))))
 obtain rfl:=so hB2
 show ∃ m,m < _∧I2 m _ _
 refine ⟨rest2.length,by simp,?_⟩
 exact ij hI2 ⟨i_1 + 1,rest2,rfl,drop_next hd2,by simp at hl2; omega,hL2,sf0,sf1,sf7,(Eq.trans rfl (congrArg (Value.int .i64) (i64_succ (n:=s.length) (by simp at hl2; omega) hlen2))),Z⟩
 rcases suf2 with _ | ⟨_,_⟩
 obtain rfl:=range_nil hL2
 refine W_exit (rj hR2 ⟨rfl,Z⟩)
 exact absurd (of_decide_eq_false hc3) (by simp at hl2; omega)
 intro f w_ hR
 obtain ⟨rfl,Z⟩:=rk hR2 hR
 refine sq (aI rfl (nn (W_ret (retG1 (v1:=I (-1)) Tryd.results106 rfl ?_))))
 obtain rfl:=so hF
 exact ⟨rfl,Z⟩
end Go.Proofs.YtohpkefnmkdaeaaDoor

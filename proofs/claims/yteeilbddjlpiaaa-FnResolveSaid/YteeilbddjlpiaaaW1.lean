/- Part of a proof by program: W1. -/
import Derived.Test.YteeilbddjlpiaaaD1
import Derived.Test.YteeilbddjlpiaaaProg
import Derived.Test.YteeilbddjlpiaaaBits
import Derived.Test.YteeilbddjlpiaaaShelf
namespace Go.Proofs.Yteeilbddjlpiaaa
open Go Go.E Go.L Go.RowKit
set_option linter.unusedVariables false
set_option linter.unusedSimpArgs false
set_option maxRecDepth 100000
theorem Try_mix : Try.prog.follows .mixedOrders = true := by kernel_rfl
theorem fa_43_0 : FA Try.prog 43 0 0 := fa_of Try.underlying43 rfl Try.sizeOf41 rfl
theorem fa_43_1 : FA Try.prog 43 1 1 := fa_of Try.underlying43 rfl Try.sizeOf3 rfl
theorem fa_112_0 : FA Try.prog 112 0 0 := fa_of Try.underlying112 rfl Try.sizeOf3 rfl
theorem fa_112_1 : FA Try.prog 112 1 1 := fa_of Try.underlying112 rfl Try.sizeOf3 rfl
theorem fa_119_0 : FA Try.prog 119 0 0 := fa_of Try.underlying119 rfl Try.sizeOf22 rfl
theorem fa_119_1 : FA Try.prog 119 1 1 := fa_of Try.underlying119 rfl Try.sizeOf3 rfl
theorem et_22 : ET Try.prog 22 5 1 := et_of Try.underlying22 (by decide) (by kernel_rfl)
theorem et_41 : ET Try.prog 41 112 2 := et_of Try.underlying41 (by decide) (by kernel_rfl)
theorem et_65 : ET Try.prog 65 3 1 := et_of Try.underlying65 (by decide) (by kernel_rfl)
theorem termEq_112 : TermEq Try.prog 112 := termEq_of (by kernel_rfl) Try.underlying112 rfl (by decide) (by decide) rfl rfl Try.underlying3 Try.underlying3 (by kernel_rfl)
theorem bld_112_0_1 (a0 a1 : Value) (ha0 : a0.oneCell' = true) (ha1 : a1.oneCell' = true) : ∀ w, (Instr.build 112 #[(0, a0), (1, a1)]).run Try.prog w = .ok (.agg #[a0, a1]) w := by
  intro w
  simp [Instr.build, Instr.fill, Try.zeroValue112, Try.runUnderlying112, Try.sizeOf3, cells_one ha0, cells_one ha1, cells_agg]
theorem bld_119_0 (a0 : Value) (ha0 : a0.oneCell' = true) : ∀ w, (Instr.build 119 #[(0, a0)]).run Try.prog w = .ok (.agg #[a0, .int .i64 0]) w := by
  intro w
  simp [Instr.build, Instr.fill, Try.zeroValue119, Try.runUnderlying119, Try.sizeOf3, Try.sizeOf22, cells_one ha0, cells_agg]
theorem bld_43_  : ∀ w, (Instr.build 43 #[]).run Try.prog w = .ok (.agg #[.slice none 0 0, .int .i64 0]) w := by
  intro w
  simp [Instr.build, Instr.fill, Try.zeroValue43, Try.runUnderlying43, Try.sizeOf3, Try.sizeOf41, cells_agg]
theorem bld_43_1 (a0 : Value) (ha0 : a0.oneCell' = true) : ∀ w, (Instr.build 43 #[(1, a0)]).run Try.prog w = .ok (.agg #[.slice none 0 0, a0]) w := by
  intro w
  simp [Instr.build, Instr.fill, Try.zeroValue43, Try.runUnderlying43, Try.sizeOf3, Try.sizeOf41, cells_one ha0, cells_agg]
theorem bs_143_2_0_0 (a0 a1 : Value) (ha0 : a0.oneCell' = true) (ha1 : a1.oneCell' = true) : ∀ w, (Instr.buildSlice 143 2 #[(0, a0), (1, a1)]).run Try.prog w = .ok (.slice (some ⟨w.heap.size, 0, none⟩) 2 2) (w.alloc (.cells #[a0, a1] 41)) := by
  intro w
  simp [Instr.buildSlice, Instr.fill, newRow, Try.zeroValue41, Try.runUnderlying143, Try.sizeOf41, cells_one ha0, cells_one ha1, cells_agg, cells_int, cells_bool, cells_str, cells_sl, Array.range_succ, range0]
theorem bs_41_0  : ∀ w, (Instr.buildSlice 41 0 #[]).run Try.prog w = .ok (.slice (some ⟨w.heap.size, 0, none⟩) 0 0) (w.alloc (.cells #[] 112)) := by
  intro w
  simp [Instr.buildSlice, Instr.fill, newRow, Try.runUnderlying41, Try.sizeOf112, cells_agg, cells_int, cells_bool, cells_str, cells_sl, Array.range_succ, range0]
theorem bs_41_1_2 (a0 a1 : Value)  : ∀ w, (Instr.buildSlice 41 1 #[(0, .agg #[a0, a1])]).run Try.prog w = .ok (.slice (some ⟨w.heap.size, 0, none⟩) 1 1) (w.alloc (.cells #[a0, a1] 112)) := by
  intro w
  simp [Instr.buildSlice, Instr.fill, newRow, Try.zeroValue112, Try.runUnderlying41, Try.sizeOf112, cells_agg, cells_int, cells_bool, cells_str, cells_sl, Array.range_succ, range0]
theorem bs_65_0  : ∀ w, (Instr.buildSlice 65 0 #[]).run Try.prog w = .ok (.slice (some ⟨w.heap.size, 0, none⟩) 0 0) (w.alloc (.cells #[] 3)) := by
  intro w
  simp [Instr.buildSlice, Instr.fill, newRow, Try.runUnderlying65, Try.sizeOf3, cells_agg, cells_int, cells_bool, cells_str, cells_sl, Array.range_succ, range0]
theorem bs_65_1_0 (a0 : Value) (ha0 : a0.oneCell' = true) : ∀ w, (Instr.buildSlice 65 1 #[(0, a0)]).run Try.prog w = .ok (.slice (some ⟨w.heap.size, 0, none⟩) 1 1) (w.alloc (.cells #[a0] 3)) := by
  intro w
  simp [Instr.buildSlice, Instr.fill, newRow, Try.zeroValue3, Try.runUnderlying65, Try.sizeOf3, cells_one ha0, cells_agg, cells_int, cells_bool, cells_str, cells_sl, Array.range_succ, range0]
theorem bs_65_3_0_0_0 (a0 a1 a2 : Value) (ha0 : a0.oneCell' = true) (ha1 : a1.oneCell' = true) (ha2 : a2.oneCell' = true) : ∀ w, (Instr.buildSlice 65 3 #[(0, a0), (1, a1), (2, a2)]).run Try.prog w = .ok (.slice (some ⟨w.heap.size, 0, none⟩) 3 3) (w.alloc (.cells #[a0, a1, a2] 3)) := by
  intro w
  simp [Instr.buildSlice, Instr.fill, newRow, Try.zeroValue3, Try.runUnderlying65, Try.sizeOf3, cells_one ha0, cells_one ha1, cells_one ha2, cells_agg, cells_int, cells_bool, cells_str, cells_sl, Array.range_succ, range0]
theorem bs_65_6_0_0_0_0_0_0 (a0 a1 a2 a3 a4 a5 : Value) (ha0 : a0.oneCell' = true) (ha1 : a1.oneCell' = true) (ha2 : a2.oneCell' = true) (ha3 : a3.oneCell' = true) (ha4 : a4.oneCell' = true) (ha5 : a5.oneCell' = true) : ∀ w, (Instr.buildSlice 65 6 #[(0, a0), (1, a1), (2, a2), (3, a3), (4, a4), (5, a5)]).run Try.prog w = .ok (.slice (some ⟨w.heap.size, 0, none⟩) 6 6) (w.alloc (.cells #[a0, a1, a2, a3, a4, a5] 3)) := by
  intro w
  simp [Instr.buildSlice, Instr.fill, newRow, Try.zeroValue3, Try.runUnderlying65, Try.sizeOf3, cells_one ha0, cells_one ha1, cells_one ha2, cells_one ha3, cells_one ha4, cells_one ha5, cells_agg, cells_int, cells_bool, cells_str, cells_sl, Array.range_succ, range0]
theorem bs_65_9_0_0_0_0_0_0_0_0_0 (a0 a1 a2 a3 a4 a5 a6 a7 a8 : Value) (ha0 : a0.oneCell' = true) (ha1 : a1.oneCell' = true) (ha2 : a2.oneCell' = true) (ha3 : a3.oneCell' = true) (ha4 : a4.oneCell' = true) (ha5 : a5.oneCell' = true) (ha6 : a6.oneCell' = true) (ha7 : a7.oneCell' = true) (ha8 : a8.oneCell' = true) : ∀ w, (Instr.buildSlice 65 9 #[(0, a0), (1, a1), (2, a2), (3, a3), (4, a4), (5, a5), (6, a6), (7, a7), (8, a8)]).run Try.prog w = .ok (.slice (some ⟨w.heap.size, 0, none⟩) 9 9) (w.alloc (.cells #[a0, a1, a2, a3, a4, a5, a6, a7, a8] 3)) := by
  intro w
  simp [Instr.buildSlice, Instr.fill, newRow, Try.zeroValue3, Try.runUnderlying65, Try.sizeOf3, cells_one ha0, cells_one ha1, cells_one ha2, cells_one ha3, cells_one ha4, cells_one ha5, cells_one ha6, cells_one ha7, cells_one ha8, cells_agg, cells_int, cells_bool, cells_str, cells_sl, Array.range_succ, range0]
theorem s_l17Open_c {code : List UInt8} {v0 : Value} {H : FH} {w : World} {R : List Ass} (Z : Star H w R) (h0 : (rS 5 RP.u8).rel H [v0] code) {r : Rd} (hF : s_l17Open code = some r) :
 C Try.prog 53 #[v0] w fun v w'=>∃ H' : FH,Le H H'∧∃ (u1 : Nat) (u2 : Value),v = Pt u1∧(rS 5 RP.u8).rel H' [u2] r.b∧Star H' w' (box u1 119 #[u2,I r.p] :: R):=by
 unfold s_l17Open at hF
 refine C_enter Try.func53 rfl Try.ntmps53 rfl (sq (aV (.pointer none) rfl (nq (sq (mV v0 rfl (L_len rfl Try.underlying22 rfl (slice_len h0) (L_gtr rfl rfl rfl (nn ?_))))))))
 obtain ⟨code_1,hA3,hF⟩:=bind_some hF
 obtain ⟨R3,hR3⟩:=exR fun f w_=>∃ v1_code : Value,f 0 = v1_code∧(rS 5 RP.u8).rel H [v1_code] code_1∧Star H w_ (R)
 refine W_join R3 ?_ ?_
 refine W_cond (b:=decide ((code.length : Int) > 2000)) rfl (fun hc4=>?_) (fun hc4=>?_)
 have hA3:=(ite_t hc4).symm.trans hA3
 obtain ⟨x5,hx5,hA3⟩:=bind_some hA3
 refine W_region (mV v0 rfl (L_sl (a:=0) (b:=2000) rfl et_22 rfl h0 rfl rfl hx5 (fun v8 hs9=>aV v8 rfl (nn ?_))))
 obtain rfl:=so hA3
 exact rj hR3 ⟨v8,rfl,hs9,Z⟩
 have hA3:=(ite_f hc4).symm.trans hA3
 refine W_skip ?_
 obtain rfl:=so hA3
 exact rj hR3 ⟨v0,rfl,h0,Z⟩
 intro f w_ hR
 obtain ⟨v1_code,sf0,hv2_code,Z⟩:=rk hR3 hR
 refine sq (mF sf0 rfl (L_bld rfl (parts1 rfl) (bld_119_0 (v1_code) (one_len (slice_len hv2_code))) (L_box (v:=.agg #[v1_code,I 0]) (cs:=#[v1_code,I 0]) rfl rfl rfl Z (fun g12 w13 Z=>aV (Pt g12) rfl (nn (W_ret (retG1 (v1:=Pt g12) Try.results53 rfl ?_)))))))
 obtain rfl:=so hF
 exact ⟨H,(Le.refl _),g12,v1_code,rfl,hv2_code,Z⟩
theorem s_l17Rd_pick_c {r_ : Rd} {n_ : Int} {g_0 : Nat} {v0_0 : Value} {H : FH} {w : World} (Z : Star H w [box g_0 119 #[v0_0,I r_.p]]) (h0_0 : (rS 5 RP.u8).rel H [v0_0] r_.b) {r : Int × Int} (hF : s_l17Rd_pick r_ n_ = some r) :
 C Try.prog 57 #[Pt g_0,I n_] w fun v w'=>v = I r.1∧Star H w' [box g_0 119 #[v0_0,I r.2]]:=by
 unfold s_l17Rd_pick at hF
 refine C_enter Try.func57 rfl Try.ntmps57 rfl (sq (aI rfl (ns (mV (Pt g_0) rfl (mV (Pt g_0) rfl (L_nc rfl rfl (fA 1 fa_119_1 rfl rfl (ldB 0 Z Try.isAgg3 rfl rfl rfl (L_add rfl rfl rfl (L_nc rfl rfl (fA 1 fa_119_1 rfl rfl (L_stB (v:=I (i64 (r_.p + 1))) (cs2:=#[v0_0,I (i64 (r_.p + 1))]) 0 rfl Try.sizeOf3 rfl rfl rfl Z rfl rfl rfl (fun w2 Z=>nq (W_seq ?_))))))))))))))
 obtain ⟨R3,hR3⟩:=exR fun f w_=>f 0 = Pt g_0∧f 1 = I n_∧f 24 = Bo ((decide (n_ < 1)) || ((r_.b.length : Int) == 0))∧Star H w_ ([box g_0 119 #[v0_0,I (i64 (r_.p + 1))]])
 refine W_join R3 ?_ ?_
 refine W_region (mI rfl (L_lss rfl rfl rfl (mB rfl (L_split (d:=17) (b:=decide (n_ < 1)) rfl (fun hc4=>?_) (fun hc4=>?_)))))
 refine ps rfl (ps rfl (ps rfl (ps rfl (ps rfl (ps rfl (L_pick (v:=Bo ((decide (n_ < 1)) || ((r_.b.length : Int) == 0))) rfl rfl (or_t hc4) (nn (rj hR3 ⟨rfl,rfl,rfl,Z⟩))))))))
 refine mV (Pt g_0) rfl (L_nc rfl rfl (fA 0 fa_119_0 rfl rfl (ldB 0 Z Try.isAgg22 rfl rfl rfl (L_len rfl Try.underlying22 rfl (slice_len h0_0) (L_eql rfl rfl rfl (L_pick (v:=Bo ((decide (n_ < 1)) || ((r_.b.length : Int) == 0))) rfl rfl (or_f hc4 rfl) (nn (rj hR3 ⟨rfl,rfl,rfl,Z⟩))))))))
 intro f w_ hR
 obtain ⟨sf0,sf1,sf24,Z⟩:=rk hR3 hR
 refine W_cond (b:=((decide (n_ < 1)) || ((r_.b.length : Int) == 0))) sf24 (fun hc5=>?_) (fun hc5=>?_)
 have hF:=(ite_t hc5).symm.trans hF
 refine sq (aI rfl (nn (W_ret (retG1 (v1:=I 0) Try.results57 rfl ?_))))
 obtain rfl:=so hF
 exact ⟨rfl,Z⟩
 have hF:=(ite_f hc5).symm.trans hF
 refine W_skip (sq (mF sf0 rfl (L_nc rfl rfl (fA 1 fa_119_1 rfl rfl (ldB 0 Z Try.isAgg3 rfl rfl rfl (L_sub rfl rfl rfl (aI rfl (nq (sq (mI rfl (mF sf0 rfl (L_nc rfl rfl (fA 0 fa_119_0 rfl rfl (ldB 0 Z Try.isAgg22 rfl rfl rfl (L_len rfl Try.underlying22 rfl (slice_len h0_0) (L_lss rfl rfl rfl (nn (W_cond (b:=decide ((i64 ((i64 (r_.p + 1)) - 1)) < (r_.b.length : Int))) rfl (fun hc6=>?_) (fun hc6=>?_)))))))))))))))))))
 have hF:=(ite_t hc6).symm.trans hF
 refine W_seq ?_
 obtain ⟨x7,hx7,hF⟩:=bind_some hF
 obtain ⟨q12,hq12,hF⟩:=bind_some hF
 refine W_region (mF sf0 rfl (L_nc rfl rfl (fA 0 fa_119_0 rfl rfl (ldB 0 Z Try.isAgg22 rfl rfl rfl (mI rfl (L_ix (r:=RP.u8) rfl Try.underlying22 Try.sizeOf5 rfl h0_0 rfl hx7 (fun g13 o14 cs_g13 hrk_hat15 hat15=>?_)))))))
 obtain rfl : _ = [_]:=hrk_hat15
 refine L_ld rfl Try.isAgg5 rfl (At.cell (AtH.at hat15 Z.sub) (j:=0) rfl) (L_cv (n:=(x7.toNat : Int)) rfl rfl ⟨_,Try.underlying5⟩ Try.underlying3 (mF sf1 rfl (L_rem (m:=i64 (x7.toNat : Int)) (n:=n_) rfl rfl rfl (fun he=>by rw [if_pos he] at hq12; cases hq12) (aI rfl (nn (W_ret (retG1 (v1:=I (Int.tmod (i64 (x7.toNat : Int)) n_)) Try.results57 rfl ?_)))))))
 obtain rfl:=so hF
 exact ⟨rfl,Z⟩
 have hF:=(ite_f hc6).symm.trans hF
 refine W_skip (W_seq ?_)
 obtain ⟨q17,hq17,hF⟩:=bind_some hF
 obtain ⟨x18,hx18,hF⟩:=bind_some hF
 obtain ⟨q23,hq23,hF⟩:=bind_some hF
 obtain ⟨x24,hx24,hF⟩:=bind_some hF
 obtain ⟨q29,hq29,hF⟩:=bind_some hF
 refine W_drawS 44 [isV (Pt g_0),isV (Pt g_0),isV (Pt g_0),isV (v0_0),isV (I (i64 ((i64 (r_.p + 1)) - 1))),isV (Pt g_0),isV (Pt g_0),isV (Pt g_0),isV (v0_0),isV (I (r_.b.length : Int)),isV (I (Int.tmod (i64 ((i64 (r_.p + 1)) - 1)) (r_.b.length : Int))),isEl RP.u8 x18 0,isV (.int .u8 (x18.toNat : Int)),isV (I (i64 (x18.toNat : Int))),isV (I (i64 ((i64 (x18.toNat : Int)) * 131))),isV (Pt g_0),isV (Pt g_0),isV (Pt g_0),isV (v0_0),isV (I (i64 ((i64 (r_.p + 1)) - 1))),isV (I (i64 ((i64 ((i64 (r_.p + 1)) - 1)) * 7))),isV (I (i64 ((i64 ((i64 ((i64 (r_.p + 1)) - 1)) * 7)) + 3))),isV (Pt g_0),isV (Pt g_0),isV (Pt g_0),isV (v0_0),isV (I (r_.b.length : Int)),isV (I (Int.tmod (i64 ((i64 ((i64 ((i64 (r_.p + 1)) - 1)) * 7)) + 3)) (r_.b.length : Int))),isEl RP.u8 x24 0,isV (.int .u8 (x24.toNat : Int)),isV (I (i64 (x24.toNat : Int))),isV (I (i64 ((i64 (x24.toNat : Int)) * 1117))),isV (I (i64 ((i64 ((i64 (x18.toNat : Int)) * 131)) + (i64 ((i64 (x24.toNat : Int)) * 1117))))),isV (I (i64 ((i64 (r_.p + 1)) - 1))),isV (I (i64 ((i64 ((i64 (r_.p + 1)) - 1)) * 29))),isV (I (i64 ((i64 ((i64 ((i64 (x18.toNat : Int)) * 131)) + (i64 ((i64 (x24.toNat : Int)) * 1117)))) + (i64 ((i64 ((i64 (r_.p + 1)) - 1)) * 29))))),isV (I (i64 ((i64 (r_.p + 1)) - 1))),isV (Pt g_0),isV (Pt g_0),isV (Pt g_0),isV (v0_0),isV (I (r_.b.length : Int)),isV (I (i64 (Int.tdiv (i64 ((i64 (r_.p + 1)) - 1)) (r_.b.length : Int)))),isV (I (i64 ((i64 (Int.tdiv (i64 ((i64 (r_.p + 1)) - 1)) (r_.b.length : Int))) * 53)))] [box g_0 119 #[v0_0,I (i64 (r_.p + 1))]] [] ([]) [([],[]),([],[]),([],[]),([],[]),([],[]),([],[]),([],[]),([],[]),([],[]),([],[]),([],[]),([],[]),([],[]),([],[]),([],[]),([],[]),([],[]),([],[]),([],[]),([],[]),([],[]),([],[]),([],[]),([],[]),([],[]),([],[]),([],[]),([],[]),([],[]),([],[]),([],[]),([],[]),([],[]),([],[]),([],[]),([],[]),([],[]),([],[]),([],[]),([],[]),([],[]),([],[]),([],[]),([],[])] (S:=[]) Try_mix (by kernel_rfl) rfl (by kernel_rfl) (amF_cons (mono_V _) (amF_cons (mono_V _) (amF_cons (mono_V _) (amF_cons (mono_V _) (amF_cons (mono_V _) (amF_cons (mono_V _) (amF_cons (mono_V _) (amF_cons (mono_V _) (amF_cons (mono_V _) (amF_cons (mono_V _) (amF_cons (mono_V _) (amF_cons (mono_el _ _ _) (amF_cons (mono_V _) (amF_cons (mono_V _) (amF_cons (mono_V _) (amF_cons (mono_V _) (amF_cons (mono_V _) (amF_cons (mono_V _) (amF_cons (mono_V _) (amF_cons (mono_V _) (amF_cons (mono_V _) (amF_cons (mono_V _) (amF_cons (mono_V _) (amF_cons (mono_V _) (amF_cons (mono_V _) (amF_cons (mono_V _) (amF_cons (mono_V _) (amF_cons (mono_V _) (amF_cons (mono_el _ _ _) (amF_cons (mono_V _) (amF_cons (mono_V _) (amF_cons (mono_V _) (amF_cons (mono_V _) (amF_cons (mono_V _) (amF_cons (mono_V _) (amF_cons (mono_V _) (amF_cons (mono_V _) (amF_cons (mono_V _) (amF_cons (mono_V _) (amF_cons (mono_V _) (amF_cons (mono_V _) (amF_cons (mono_V _) (amF_cons (mono_V _) (amF_cons (mono_V _) amF_nil)))))))))))))))))))))))))))))))))))))))))))) Z ?_ (fun f w_ H30 hS30 hE30 hT30 Z=>?_)
 refine opsS_cons (fun f w_ _ _ s _ _ Z=>mF ((s 0 rfl).trans sf0) rfl (nO rfl rfl Z)) (opsS_cons (fun f w_ _ _ _ _ p Z=>L_nc rfl (p 0 47 rfl rfl) (nO rfl rfl Z)) (opsS_cons (fun f w_ _ _ _ _ p Z=>fA 0 fa_119_0 (p 1 48 rfl rfl) rfl (nO rfl rfl Z)) (opsS_cons (fun f w_ _ _ _ _ p Z=>ldB 0 Z Try.isAgg22 (p 2 49 rfl rfl) rfl rfl (nO rfl rfl Z)) (opsS_cons (fun f w_ _ _ s _ _ Z=>mF ((s 5 rfl).trans rfl) rfl (nO rfl rfl Z)) (opsS_cons (fun f w_ _ _ s _ _ Z=>mF ((s 0 rfl).trans sf0) rfl (nO rfl rfl Z)) (opsS_cons (fun f w_ _ _ _ _ p Z=>L_nc rfl (p 5 52 rfl rfl) (nO rfl rfl Z)) (opsS_cons (fun f w_ _ _ _ _ p Z=>fA 0 fa_119_0 (p 6 53 rfl rfl) rfl (nO rfl rfl Z)) (opsS_cons (fun f w_ _ _ _ _ p Z=>ldB 0 Z Try.isAgg22 (p 7 54 rfl rfl) rfl rfl (nO rfl rfl Z)) (opsS_cons (fun f w_ _ _ _ hE30 p Z=>L_len rfl Try.underlying22 (p 8 55 rfl rfl) (slice_len (RP.mono _ h0_0 hE30)) (nO rfl rfl Z)) (opsS_cons (fun f w_ _ _ _ _ p Z=>L_rem (m:=i64 ((i64 (r_.p + 1)) - 1)) (n:=(r_.b.length : Int)) rfl (p 4 51 rfl rfl) (p 9 56 rfl rfl) (fun he=>by rw [if_pos he] at hq17; cases hq17) (nO rfl rfl Z)) (opsS_cons ?_ ?_)))))))))))
 intro f w_ H30 X30 hS30 hE30 hP30 Z
 refine L_ix (r:=RP.u8) rfl Try.underlying22 Try.sizeOf5 (hP30 3 50 rfl rfl) (RP.mono _ h0_0 hE30) (hP30 10 57 rfl rfl) hx18 (fun g39 o40 cs_g39 hrk_hat41 hat41=>?_)
 obtain rfl : _ = [_]:=hrk_hat41
 exact L_nil ⟨rfl,_,_,rfl,Le.refl _,fun _ _=>⟨_,_,_,rfl,rfl,hat41⟩,Z⟩
 refine opsS_cons ?_ ?_
 intro f w_ H30 X30 hS30 hE30 hP30 Z
 obtain ⟨g43,o43,cs43,hv43,hrk_hat43,hat43⟩:=(hP30 11 58 rfl rfl)
 obtain rfl : _ = [_]:=hrk_hat43
 refine L_ld rfl Try.isAgg5 hv43 (At.cell (AtH.at hat43 Z.sub) (j:=0) rfl) (L_nil ⟨rfl,_,_,rfl,Le.refl _,fun _ _=>rfl,Z⟩)
 refine opsS_cons (fun f w_ _ _ _ _ p Z=>L_cv (n:=(x18.toNat : Int)) rfl (p 12 59 rfl rfl) ⟨_,Try.underlying5⟩ Try.underlying3 (nO rfl rfl Z)) (opsS_cons (fun f w_ _ _ _ _ p Z=>L_mul rfl (p 13 60 rfl rfl) rfl (nO rfl rfl Z)) (opsS_cons (fun f w_ _ _ s _ _ Z=>mF ((s 0 rfl).trans sf0) rfl (nO rfl rfl Z)) (opsS_cons (fun f w_ _ _ _ _ p Z=>L_nc rfl (p 15 62 rfl rfl) (nO rfl rfl Z)) (opsS_cons (fun f w_ _ _ _ _ p Z=>fA 0 fa_119_0 (p 16 63 rfl rfl) rfl (nO rfl rfl Z)) (opsS_cons (fun f w_ _ _ _ _ p Z=>ldB 0 Z Try.isAgg22 (p 17 64 rfl rfl) rfl rfl (nO rfl rfl Z)) (opsS_cons (fun f w_ _ _ s _ _ Z=>mF ((s 5 rfl).trans rfl) rfl (nO rfl rfl Z)) (opsS_cons (fun f w_ _ _ _ _ p Z=>L_mul rfl (p 19 66 rfl rfl) rfl (nO rfl rfl Z)) (opsS_cons (fun f w_ _ _ _ _ p Z=>L_add rfl (p 20 67 rfl rfl) rfl (nO rfl rfl Z)) (opsS_cons (fun f w_ _ _ s _ _ Z=>mF ((s 0 rfl).trans sf0) rfl (nO rfl rfl Z)) (opsS_cons (fun f w_ _ _ _ _ p Z=>L_nc rfl (p 22 69 rfl rfl) (nO rfl rfl Z)) (opsS_cons (fun f w_ _ _ _ _ p Z=>fA 0 fa_119_0 (p 23 70 rfl rfl) rfl (nO rfl rfl Z)) (opsS_cons (fun f w_ _ _ _ _ p Z=>ldB 0 Z Try.isAgg22 (p 24 71 rfl rfl) rfl rfl (nO rfl rfl Z)) (opsS_cons (fun f w_ _ _ _ hE30 p Z=>L_len rfl Try.underlying22 (p 25 72 rfl rfl) (slice_len (RP.mono _ h0_0 hE30)) (nO rfl rfl Z)) (opsS_cons (fun f w_ _ _ _ _ p Z=>L_rem (m:=i64 ((i64 ((i64 ((i64 (r_.p + 1)) - 1)) * 7)) + 3)) (n:=(r_.b.length : Int)) rfl (p 21 68 rfl rfl) (p 26 73 rfl rfl) (fun he=>by rw [if_pos he] at hq23; cases hq23) (nO rfl rfl Z)) (opsS_cons ?_ ?_)))))))))))))))
 intro f w_ H30 X30 hS30 hE30 hP30 Z
 refine L_ix (r:=RP.u8) rfl Try.underlying22 Try.sizeOf5 (hP30 18 65 rfl rfl) (RP.mono _ h0_0 hE30) (hP30 27 74 rfl rfl) hx24 (fun g45 o46 cs_g45 hrk_hat47 hat47=>?_)
 obtain rfl : _ = [_]:=hrk_hat47
 exact L_nil ⟨rfl,_,_,rfl,Le.refl _,fun _ _=>⟨_,_,_,rfl,rfl,hat47⟩,Z⟩
 refine opsS_cons ?_ ?_
 intro f w_ H30 X30 hS30 hE30 hP30 Z
 obtain ⟨g49,o49,cs49,hv49,hrk_hat49,hat49⟩:=(hP30 28 75 rfl rfl)
 obtain rfl : _ = [_]:=hrk_hat49
 refine L_ld rfl Try.isAgg5 hv49 (At.cell (AtH.at hat49 Z.sub) (j:=0) rfl) (L_nil ⟨rfl,_,_,rfl,Le.refl _,fun _ _=>rfl,Z⟩)
 refine opsS_cons (fun f w_ _ _ _ _ p Z=>L_cv (n:=(x24.toNat : Int)) rfl (p 29 76 rfl rfl) ⟨_,Try.underlying5⟩ Try.underlying3 (nO rfl rfl Z)) (opsS_cons (fun f w_ _ _ _ _ p Z=>L_mul rfl (p 30 77 rfl rfl) rfl (nO rfl rfl Z)) (opsS_cons (fun f w_ _ _ _ _ p Z=>L_add rfl (p 14 61 rfl rfl) (p 31 78 rfl rfl) (nO rfl rfl Z)) (opsS_cons (fun f w_ _ _ s _ _ Z=>mF ((s 5 rfl).trans rfl) rfl (nO rfl rfl Z)) (opsS_cons (fun f w_ _ _ _ _ p Z=>L_mul rfl (p 33 80 rfl rfl) rfl (nO rfl rfl Z)) (opsS_cons (fun f w_ _ _ _ _ p Z=>L_add rfl (p 32 79 rfl rfl) (p 34 81 rfl rfl) (nO rfl rfl Z)) (opsS_cons (fun f w_ _ _ s _ _ Z=>mF ((s 5 rfl).trans rfl) rfl (nO rfl rfl Z)) (opsS_cons (fun f w_ _ _ s _ _ Z=>mF ((s 0 rfl).trans sf0) rfl (nO rfl rfl Z)) (opsS_cons (fun f w_ _ _ _ _ p Z=>L_nc rfl (p 37 84 rfl rfl) (nO rfl rfl Z)) (opsS_cons (fun f w_ _ _ _ _ p Z=>fA 0 fa_119_0 (p 38 85 rfl rfl) rfl (nO rfl rfl Z)) (opsS_cons (fun f w_ _ _ _ _ p Z=>ldB 0 Z Try.isAgg22 (p 39 86 rfl rfl) rfl rfl (nO rfl rfl Z)) (opsS_cons (fun f w_ _ _ _ hE30 p Z=>L_len rfl Try.underlying22 (p 40 87 rfl rfl) (slice_len (RP.mono _ h0_0 hE30)) (nO rfl rfl Z)) (opsS_cons (fun f w_ _ _ _ _ p Z=>L_quo (m:=i64 ((i64 (r_.p + 1)) - 1)) (n:=(r_.b.length : Int)) rfl (p 36 83 rfl rfl) (p 41 88 rfl rfl) (fun he=>by rw [if_pos he] at hq29; cases hq29) (nO rfl rfl Z)) (opsS_cons (fun f w_ _ _ _ _ p Z=>L_mul rfl (p 42 89 rfl rfl) rfl (nO rfl rfl Z)) (opsS_nil))))))))))))))
 refine L_add rfl (hT30 35 82 rfl rfl) (hT30 43 90 rfl rfl) (aI rfl (ns (mI rfl (mI rfl (L_quo (m:=i64 ((i64 ((i64 ((i64 ((i64 (x18.toNat : Int)) * 131)) + (i64 ((i64 (x24.toNat : Int)) * 1117)))) + (i64 ((i64 ((i64 (r_.p + 1)) - 1)) * 29)))) + (i64 ((i64 (Int.tdiv (i64 ((i64 (r_.p + 1)) - 1)) (r_.b.length : Int))) * 53)))) (n:=64) rfl rfl rfl (by decide) (L_xor (m:=i64 ((i64 ((i64 ((i64 ((i64 (x18.toNat : Int)) * 131)) + (i64 ((i64 (x24.toNat : Int)) * 1117)))) + (i64 ((i64 ((i64 (r_.p + 1)) - 1)) * 29)))) + (i64 ((i64 (Int.tdiv (i64 ((i64 (r_.p + 1)) - 1)) (r_.b.length : Int))) * 53)))) (n:=i64 (Int.tdiv (i64 ((i64 ((i64 ((i64 ((i64 (x18.toNat : Int)) * 131)) + (i64 ((i64 (x24.toNat : Int)) * 1117)))) + (i64 ((i64 ((i64 (r_.p + 1)) - 1)) * 29)))) + (i64 ((i64 (Int.tdiv (i64 ((i64 (r_.p + 1)) - 1)) (r_.b.length : Int))) * 53)))) 64)) rfl rfl rfl (aI rfl (nq ?_))))))))
 obtain ⟨q51,hq51,hF⟩:=bind_some hF
 refine W_region (mI rfl (mF ((hS30 1 rfl).trans sf1) rfl (L_rem (m:=(xorI .i64 (i64 ((i64 ((i64 ((i64 ((i64 (x18.toNat : Int)) * 131)) + (i64 ((i64 (x24.toNat : Int)) * 1117)))) + (i64 ((i64 ((i64 (r_.p + 1)) - 1)) * 29)))) + (i64 ((i64 (Int.tdiv (i64 ((i64 (r_.p + 1)) - 1)) (r_.b.length : Int))) * 53)))) (i64 (Int.tdiv (i64 ((i64 ((i64 ((i64 ((i64 (x18.toNat : Int)) * 131)) + (i64 ((i64 (x24.toNat : Int)) * 1117)))) + (i64 ((i64 ((i64 (r_.p + 1)) - 1)) * 29)))) + (i64 ((i64 (Int.tdiv (i64 ((i64 (r_.p + 1)) - 1)) (r_.b.length : Int))) * 53)))) 64)))) (n:=n_) rfl rfl rfl (fun he=>by rw [if_pos he] at hq51; cases hq51) (aI rfl (nn (W_ret (retG1 (v1:=I (Int.tmod (xorI .i64 (i64 ((i64 ((i64 ((i64 ((i64 (x18.toNat : Int)) * 131)) + (i64 ((i64 (x24.toNat : Int)) * 1117)))) + (i64 ((i64 ((i64 (r_.p + 1)) - 1)) * 29)))) + (i64 ((i64 (Int.tdiv (i64 ((i64 (r_.p + 1)) - 1)) (r_.b.length : Int))) * 53)))) (i64 (Int.tdiv (i64 ((i64 ((i64 ((i64 ((i64 (x18.toNat : Int)) * 131)) + (i64 ((i64 (x24.toNat : Int)) * 1117)))) + (i64 ((i64 ((i64 (r_.p + 1)) - 1)) * 29)))) + (i64 ((i64 (Int.tdiv (i64 ((i64 (r_.p + 1)) - 1)) (r_.b.length : Int))) * 53)))) 64))) n_)) Try.results57 rfl ?_)))))))
 obtain rfl:=so hF
 exact ⟨rfl,(Star.down Z hE30 (cb c0))⟩
theorem s_l17Rd_num_c {r_ : Rd} {list : List Int} {g_0 : Nat} {v0_0 : Value} {v1 : Value} {H : FH} {w : World} (Z : Star H w [box g_0 119 #[v0_0,I r_.p]]) (h0_0 : (rS 5 RP.u8).rel H [v0_0] r_.b) (h1 : (rS 3 RP.int).rel H [v1] list) {r : Int × Int} (hF : s_l17Rd_num r_ list = some r) :
 C Try.prog 87 #[Pt g_0,v1] w fun v w'=>v = I r.1∧Star H w' [box g_0 119 #[v0_0,I r.2]]:=by
 unfold s_l17Rd_num at hF
 refine C_enter Try.func87 rfl Try.ntmps87 rfl (sq (aI rfl (nq ?_)))
 obtain ⟨x6,hx6,hF⟩:=bind_some hF
 obtain ⟨x8,hx8,hF⟩:=bind_some hF
 refine W_region (mV v1 rfl (mV (Pt g_0) rfl (mV v1 rfl (L_len rfl Try.underlying65 rfl (slice_len h1) ?_))))
 obtain ⟨H13b,l14,s15,z16,k17⟩:=Z.lend [_]
 refine L_call rfl Try.call57 (ops2 rfl rfl) (s_l17Rd_pick_c (r_:=r_) (n_:=(list.length : Int)) s15 (RP.mono _ h0_0 l14) hx6) ?_
 rintro _ w18 ⟨rfl,Z⟩
 have Z:=k17 Z (cb c0)
 refine L_ix (r:=RP.int) rfl Try.underlying65 Try.sizeOf3 rfl h1 rfl hx8 (fun g19 o20 cs_g19 hrk_hat21 hat21=>?_)
 obtain rfl : _ = [_]:=hrk_hat21
 refine L_ld rfl Try.isAgg3 rfl (At.cell (AtH.at hat21 Z.sub) (j:=0) rfl) (aI rfl (nn (W_ret (retG1 (v1:=I x8) Try.results87 rfl ?_))))
 obtain rfl:=so hF
 exact ⟨rfl,Z⟩
theorem i_within_c {n_ : Int} {low : Int} {high : Int} {H : FH} {w : World} (Z : Star H w []) {r : Bool} (hF : i_within n_ low high = some r) :
 C Try.prog 100 #[I n_,I low,I high] w fun v w'=>v = Bo r∧Star H w' []:=by
 unfold i_within at hF
 refine C_enter Try.func100 rfl Try.ntmps100 rfl (sq (aB rfl (nq ?_)))
 obtain ⟨R1,hR1⟩:=exR fun f w_=>f 6 = Bo ((decide (low≤n_)) && (decide (n_≤high)))∧Star H w_ ([])
 refine W_join R1 ?_ ?_
 refine W_region (mI rfl (mI rfl (L_leq rfl rfl rfl (mB rfl (L_split (d:=10) (b:=decide (low≤n_)) rfl (fun hc2=>?_) (fun hc2=>?_))))))
 refine mI rfl (mI rfl (L_leq rfl rfl rfl (L_pick (v:=Bo ((decide (low≤n_)) && (decide (n_≤high)))) rfl rfl (and_t hc2 rfl) (aB rfl (nn (rj hR1 ⟨rfl,Z⟩))))))
 refine ps rfl (ps rfl (ps rfl (L_pick (v:=Bo ((decide (low≤n_)) && (decide (n_≤high)))) rfl rfl (and_f hc2) (aB rfl (nn (rj hR1 ⟨rfl,Z⟩))))))
 intro f w_ hR
 obtain ⟨sf6,Z⟩:=rk hR1 hR
 refine W_ret (retG1 (v1:=Bo ((decide (low≤n_)) && (decide (n_≤high)))) Try.results100 sf6 ?_)
 obtain rfl:=so hF
 exact ⟨rfl,Z⟩
theorem i_isLiteral_c {l : Int} {H : FH} {w : World} (Z : Star H w []) {r : Bool} (hF : i_isLiteral l = some r) :
 C Try.prog 88 #[I l] w fun v w'=>v = Bo r∧Star H w' []:=by
 unfold i_isLiteral at hF
 refine C_enter Try.func88 rfl Try.ntmps88 rfl (sq (aB rfl (nq ?_)))
 obtain ⟨b8,hb8,hF⟩:=bind_some hF
 obtain ⟨R9,hR9⟩:=exR fun f w_=>f 2 = Bo b8∧Star H w_ ([])
 refine W_join R9 ?_ ?_
 refine W_region (mI rfl (L_neq rfl rfl rfl (mB rfl (L_split (d:=5) (b:=(l != 0)) rfl (fun hc10=>?_) (fun hc10=>?_)))))
 rw [ite_t hc10] at hb8
 obtain ⟨x6,hx6,hb8⟩:=bind_some hb8
 refine mI rfl ?_
 obtain ⟨H11b,l12,s13,z14,k15⟩:=Z.borrow
 refine L_call rfl Try.call100 (ops3 rfl rfl rfl) (i_within_c (n_:=l) (low:=(-12)) (high:=12) s13 hx6) ?_
 rintro _ w16 ⟨rfl,Z⟩
 have Z:=k15 Z c0
 refine L_pick (v:=Bo b8) rfl rfl (congrArg Value.bool (so hb8)) (aB rfl (nn (rj hR9 ⟨rfl,Z⟩)))
 rw [ite_f hc10] at hb8
 refine ps rfl (ps rfl (L_pick (v:=Bo b8) rfl rfl (congrArg Value.bool (so hb8)) (aB rfl (nn (rj hR9 ⟨rfl,Z⟩)))))
 intro f w_ hR
 obtain ⟨sf2,Z⟩:=rk hR9 hR
 refine W_ret (retG1 (v1:=Bo b8) Try.results88 sf2 ?_)
 obtain rfl:=so hF
 exact ⟨rfl,Z⟩
theorem i_variableOf_c {l : Int} {H : FH} {w : World} (Z : Star H w []) {r : Int} (hF : i_variableOf l = some r) :
 C Try.prog 93 #[I l] w fun v w'=>v = I r∧Star H w' []:=by
 unfold i_variableOf at hF
 refine C_enter Try.func93 rfl Try.ntmps93 rfl (sq (aI rfl (ns (mI rfl (mI rfl (L_neg rfl rfl (L_max rfl rfl rfl (aI rfl (nn (W_ret (retG1 (v1:=I (max l (i64 (-l)))) Try.results93 rfl ?_)))))))))))
 obtain rfl:=so hF
 exact ⟨rfl,Z⟩
theorem i_ConstraintValid_c {c : Con} {v0_0 : Value} {H : FH} {w : World} (Z : Star H w []) (h0_0 : (rS 112 rTerm).rel H [v0_0] c.terms) {r : Bool} (hF : i_ConstraintValid c = some r) :
 C Try.prog 52 #[.agg #[v0_0,I c.bound]] w fun v w'=>v = Bo r∧Star H w' []:=by
 unfold i_ConstraintValid at hF
 refine C_enter Try.func52 rfl Try.ntmps52 rfl (sq (L_box (v:=.agg #[v0_0,I c.bound]) (cs:=#[v0_0,I c.bound]) rfl rfl rfl Z (fun g3 w4 Z=>aB rfl (ns (aI rfl (nq (sq (fA 0 fa_43_0 rfl rfl (ldB 0 Z Try.isAgg41 rfl rfl rfl (L_len rfl Try.underlying41 rfl (slice_len h0_0) (mI rfl (nn ?_))))))))))))
 have hlen7 : List.length c.terms≤9223372036854775807:=len_le (slice_len h0_0)
 obtain ⟨j7,hL7,hF⟩:=bind_some hF
 obtain ⟨R7,hR7⟩:=exR fun f w_=>∃ before_6 : Int,j7 = .nx before_6∧f 1 = Pt g3∧Star H w_ ([box g3 43 #[v0_0,I c.bound]])
 refine W_join R7 ?_ ?_
 refine W_block ?_
 obtain ⟨I7,hI7⟩:=exI fun n f w_=>∃ i_5 : Nat,∃ suf7 : List Term,∃ before_6 : Int,n = suf7.length∧List.drop i_5 c.terms = suf7∧i_5 + suf7.length = c.terms.length∧rangeL i_ConstraintValid_b1 suf7 i_5 before_6 = some j7∧f 1 = Pt g3∧f 3 = I before_6∧f 7 = v0_0∧f 8 = I (c.terms.length : Int)∧f 9 = I i_5∧Star H w_ ([box g3 43 #[v0_0,I c.bound]])
 refine W_loop I7 (n:=c.terms.length) ?_ ?_
 exact ij hI7 ⟨0,c.terms,0,rfl,rfl,Nat.zero_add _,hL7,rfl,rfl,rfl,rfl,rfl,Z⟩
 intro n7 f w_ hI
 obtain ⟨i_5,suf7,before_6,rfl,hd7,hl7,hL7,sf1,sf3,sf7,sf8,sf9,Z⟩:=ik hI7 hI
 refine sq (L_lss rfl sf9 sf8 (nq (W_cond (b:=decide ((i_5 : Int) < (c.terms.length : Int))) rfl (fun hc8=>?_) (fun hc8=>?_))))
 have hlt7:=of_decide_eq_true hc8
 rcases suf7 with _ | ⟨x_7,rest7⟩
 exact absurd hlt7 (by simp at hl7; omega)
 obtain ⟨o7,hB7,hL7⟩:=range_cons hL7
 rw [i_ConstraintValid_b1] at hB7
 have hix7:=drop_idx hd7
 refine W_skip (W_seq (W_block (sq (L_ix (r:=rTerm) rfl Try.underlying41 Try.sizeOf112 sf7 h0_0 sf9 hix7 (fun g16 o17 cs_g16 hrk_hat18 hat18=>?_)))))
 obtain rfl:=rTerm_iff.1 hrk_hat18
 refine L_lda (cs:=[I x_7.coef,I x_7.lit]) rfl Try.isAgg112 Try.sizeOf112 rfl (At.sub (AtH.at hat18 Z.sub) 0 2) rfl (L_al (cs:=#[I 0,I 0]) rfl Try.zeroValue112 rfl Z (fun g20 w21 Z=>L_staB (vs:=#[I x_7.coef,I x_7.lit]) (cs2:=#[I x_7.coef,I x_7.lit]) 0 rfl Try.sizeOf112 rfl rfl rfl (ones_cons rfl (ones_cons rfl ones_nil)) Z rfl (by show 0 + 2≤2; decide) rfl (fun w22 Z=>nq (W_seq ?_))))
 obtain ⟨x28,hx28,hB7⟩:=bind_some hB7
 obtain ⟨b37,hb37,hB7⟩:=bind_some hB7
 obtain ⟨b45,hb45,hB7⟩:=bind_some hB7
 obtain ⟨R46,hR46⟩:=exR fun f w_=>f 1 = Pt g3∧f 5 = Pt g20∧f 7 = v0_0∧f 8 = I (c.terms.length : Int)∧f 9 = I i_5∧f 29 = Bo b45∧Star H w_ ([box g20 112 #[I x_7.coef,I x_7.lit],box g3 43 #[v0_0,I c.bound]])
 refine W_join R46 ?_ ?_
 refine W_region (fA 1 fa_112_1 rfl rfl (ldB 0 Z Try.isAgg3 rfl rfl rfl ?_))
 obtain ⟨H47b,l48,s49,z50,k51⟩:=Z.borrow
 refine L_call rfl Try.call88 (ops1 rfl) (i_isLiteral_c (l:=x_7.lit) s49 hx28) ?_
 rintro _ w52 ⟨rfl,Z⟩
 have Z:=k51 Z c0
 refine L_not_ rfl rfl (mB rfl (L_split (d:=17) (b:=(!x28)) rfl (fun hc53=>?_) (fun hc53=>?_)))
 rw [ite_t hc53] at hb37
 refine ps rfl (ps rfl (ps rfl (ps rfl (ps rfl (L_pick (v:=Bo b37) rfl rfl (congrArg Value.bool (so hb37)) (mB rfl (L_split (d:=24) (b:=b37) rfl (fun hc54=>?_) (fun hc54=>?_))))))))
 rw [ite_t hc54] at hb45
 refine ps rfl (ps rfl (ps rfl (ps rfl (L_pick (v:=Bo b45) rfl rfl (congrArg Value.bool (so hb45)) (nn (rj hR46 ⟨sf1,rfl,sf7,sf8,sf9,rfl,Z⟩))))))
 exact boolNo (so hb37).symm hc54
 rw [ite_f hc53] at hb37
 obtain ⟨x35,hx35,hb37⟩:=bind_some hb37
 refine fA 1 fa_112_1 rfl rfl (ldB 0 Z Try.isAgg3 rfl rfl rfl ?_)
 obtain ⟨H55b,l56,s57,z58,k59⟩:=Z.borrow
 refine L_call rfl Try.call93 (ops1 rfl) (i_variableOf_c (l:=x_7.lit) s57 hx35) ?_
 rintro _ w60 ⟨rfl,Z⟩
 have Z:=k59 Z c0
 refine mF sf3 rfl (L_leq rfl rfl rfl (L_pick (v:=Bo b37) rfl rfl (congrArg Value.bool (so hb37)) (mB rfl (L_split (d:=24) (b:=b37) rfl (fun hc61=>?_) (fun hc61=>?_)))))
 rw [ite_t hc61] at hb45
 refine ps rfl (ps rfl (ps rfl (ps rfl (L_pick (v:=Bo b45) rfl rfl (congrArg Value.bool (so hb45)) (nn (rj hR46 ⟨sf1,rfl,sf7,sf8,sf9,rfl,Z⟩))))))
 rw [ite_f hc61] at hb45
 obtain ⟨x43,hx43,hb45⟩:=bind_some hb45
 refine fA 0 fa_112_0 rfl rfl (ldB 0 Z Try.isAgg3 rfl rfl rfl ?_)
 obtain ⟨H62b,l63,s64,z65,k66⟩:=Z.borrow
 refine L_call rfl Try.call100 (ops3 rfl rfl rfl) (i_within_c (n_:=x_7.coef) (low:=1) (high:=1000) s64 hx43) ?_
 rintro _ w67 ⟨rfl,Z⟩
 have Z:=k66 Z c0
 refine L_not_ rfl rfl (L_pick (v:=Bo b45) rfl rfl (congrArg Value.bool (so hb45)) (nn (rj hR46 ⟨sf1,rfl,sf7,sf8,sf9,rfl,Z⟩)))
 intro f w_ hR
 obtain ⟨sf1,sf5,sf7,sf8,sf9,sf29,Z⟩:=rk hR46 hR
 refine W_cond (b:=b45) sf29 (fun hc68=>?_) (fun hc68=>?_)
 have hB7:=(ite_t hc68).symm.trans hB7
 refine sq (aB rfl (nn (W_ret (retG1 (v1:=Bo false) Try.results52 rfl ?_))))
 obtain rfl:=so hB7
 obtain rfl:=so hL7
 obtain rfl:=so hF
 exact ⟨rfl,(Star.keepN 0 Z)⟩
 have hB7:=(ite_f hc68).symm.trans hB7
 refine W_skip ?_
 obtain ⟨x74,hx74,hB7⟩:=bind_some hB7
 refine W_region (fA 1 fa_112_1 sf5 rfl (ldB 0 Z Try.isAgg3 rfl rfl rfl ?_))
 obtain ⟨H76b,l77,s78,z79,k80⟩:=Z.borrow
 refine L_call rfl Try.call93 (ops1 rfl) (i_variableOf_c (l:=x_7.lit) s78 hx74) ?_
 rintro _ w81 ⟨rfl,Z⟩
 have Z:=k80 Z c0
 refine aI rfl (nn (W_region (L_add rfl sf9 rfl (mI rfl (nn ?_)))))
 obtain rfl:=so hB7
 have Z:=Z.get 1 rfl
 show ∃ m,m < _∧I7 m _ _
 refine ⟨rest7.length,by simp,?_⟩
 exact ij hI7 ⟨i_5 + 1,rest7,x74,rfl,drop_next hd7,by simp at hl7; omega,hL7,sf1,rfl,sf7,sf8,(Eq.trans rfl (congrArg (Value.int .i64) (i64_succ (n:=c.terms.length) (by simp at hl7; omega) hlen7))),(Star.keepN 1 Z)⟩
 rcases suf7 with _ | ⟨_,_⟩
 obtain rfl:=range_nil hL7
 refine W_exit (rj hR7 ⟨before_6,rfl,sf1,Z⟩)
 exact absurd (of_decide_eq_false hc8) (by simp at hl7; omega)
 intro f w_ hR
 obtain ⟨before_6,rfl,sf1,Z⟩:=rk hR7 hR
 refine W_seq ?_
 obtain ⟨x87,hx87,hF⟩:=bind_some hF
 refine W_region (fA 1 fa_43_1 sf1 rfl (ldB 0 Z Try.isAgg3 rfl rfl rfl ?_))
 obtain ⟨H89b,l90,s91,z92,k93⟩:=Z.borrow
 refine L_call rfl Try.call100 (ops3 rfl rfl rfl) (i_within_c (n_:=c.bound) (low:=0) (high:=20000) s91 hx87) ?_
 rintro _ w94 ⟨rfl,Z⟩
 have Z:=k93 Z c0
 refine aB rfl (nn (W_ret (retG1 (v1:=Bo x87) Try.results52 rfl ?_)))
 obtain rfl:=so hF
 exact ⟨rfl,(Star.keepN 0 Z)⟩
theorem s_l1Lit_c {n_ : Int} {H : FH} {w : World} (Z : Star H w []) {r : Bool} (hF : s_l1Lit n_ = some r) :
 C Try.prog 95 #[I n_] w fun v w'=>v = Bo r∧Star H w' []:=by
 unfold s_l1Lit at hF
 refine C_enter Try.func95 rfl Try.ntmps95 rfl (sq (aB rfl (nq ?_)))
 obtain ⟨R1,hR1⟩:=exR fun f w_=>f 2 = Bo (((n_ != 0) && (decide (n_ ≥ (-12)))) && (decide (n_≤12)))∧Star H w_ ([])
 refine W_join R1 ?_ ?_
 refine W_region (mI rfl (L_neq rfl rfl rfl (mB rfl (L_split (d:=5) (b:=(n_ != 0)) rfl (fun hc2=>?_) (fun hc2=>?_)))))
 refine mI rfl (L_geq rfl rfl rfl (L_pick (v:=Bo ((n_ != 0) && (decide (n_ ≥ (-12))))) rfl rfl (and_t hc2 rfl) (mB rfl (L_split (d:=9) (b:=((n_ != 0) && (decide (n_ ≥ (-12))))) rfl (fun hc3=>?_) (fun hc3=>?_)))))
 refine mI rfl (L_leq rfl rfl rfl (L_pick (v:=Bo (((n_ != 0) && (decide (n_ ≥ (-12)))) && (decide (n_≤12)))) rfl rfl (and_t hc3 rfl) (aB rfl (nn (rj hR1 ⟨rfl,Z⟩)))))
 refine ps rfl (ps rfl (L_pick (v:=Bo (((n_ != 0) && (decide (n_ ≥ (-12)))) && (decide (n_≤12)))) rfl rfl (and_f hc3) (aB rfl (nn (rj hR1 ⟨rfl,Z⟩)))))
 refine ps rfl (ps rfl (L_pick (v:=Bo ((n_ != 0) && (decide (n_ ≥ (-12))))) rfl rfl (and_f hc2) (mB rfl (L_split (d:=9) (b:=((n_ != 0) && (decide (n_ ≥ (-12))))) rfl (fun hc4=>?_) (fun hc4=>?_)))))
 exact boolNo hc4 (andF hc2)
 refine ps rfl (ps rfl (L_pick (v:=Bo (((n_ != 0) && (decide (n_ ≥ (-12)))) && (decide (n_≤12)))) rfl rfl (and_f hc4) (aB rfl (nn (rj hR1 ⟨rfl,Z⟩)))))
 intro f w_ hR
 obtain ⟨sf2,Z⟩:=rk hR1 hR
 refine W_ret (retG1 (v1:=Bo (((n_ != 0) && (decide (n_ ≥ (-12)))) && (decide (n_≤12)))) Try.results95 sf2 ?_)
 obtain rfl:=so hF
 exact ⟨rfl,Z⟩
theorem s_l1Abs_c {n_ : Int} {H : FH} {w : World} (Z : Star H w []) {r : Int} (hF : s_l1Abs n_ = some r) :
 C Try.prog 96 #[I n_] w fun v w'=>v = I r∧Star H w' []:=by
 unfold s_l1Abs at hF
 refine C_enter Try.func96 rfl Try.ntmps96 rfl (sq (aI rfl (nq (sq (mI rfl (L_lss rfl rfl rfl (nn (W_cond (b:=decide (n_ < 0)) rfl (fun hc1=>?_) (fun hc1=>?_)))))))))
 have hF:=(ite_t hc1).symm.trans hF
 refine sq (mI rfl (L_neg rfl rfl (aI rfl (nn (W_ret (retG1 (v1:=I (i64 (-n_))) Try.results96 rfl ?_))))))
 obtain rfl:=so hF
 exact ⟨rfl,Z⟩
 have hF:=(ite_f hc1).symm.trans hF
 refine W_skip (sq (mI rfl (aI rfl (nn (W_ret (retG1 (v1:=I n_) Try.results96 rfl ?_))))))
 obtain rfl:=so hF
 exact ⟨rfl,Z⟩
theorem slices_Clone_int_c {s : List Int} {v0 : Value} {H : FH} {w : World} (Z : Star H w []) (h0 : (rS 3 RP.int).rel H [v0] s) {r : List Int} (hF : slices_Clone_int s = some r) :
 C Try.prog 90 #[v0] w fun v w'=>∃ (u1 : Value),v = u1∧Star H w' [oF 3 RP.int u1 r]:=by
 unfold slices_Clone_int at hF
 refine C_enter Try.func90 rfl Try.ntmps90 rfl (sq (aV S0 rfl (nq (sq (mV v0 rfl ?_)))))
 obtain ⟨a1,cap1,hsl1,_,_⟩:=(slice_len h0)
 refine L_nileq (a:=a1) rfl Try.underlying65 (Eq.trans rfl hsl1) rfl ?_
 rw [← hsl1]
 refine nn ?_
 rcases Bool.eq_false_or_eq_true (isNilS v0) with hn2 | hn2
 refine W_cond (b:=true) (Eq.trans rfl (congrArg Value.bool hn2)) (fun _=>?_) (fun h=>nomatch h)
 obtain rfl:=nil_of h0 hn2
 refine sq (aV S0 rfl (nn (W_ret (retG1 (v1:=S0) Try.results90 rfl ?_))))
 simp [app] at hF
 subst hF
 have Z:=Star.addNil (R:=(OR.frz RP.int)) (e:=3) Z
 exact ⟨S0,rfl,Z⟩
 refine W_cond (b:=false) (Eq.trans rfl (congrArg Value.bool hn2)) (fun h=>nomatch h) (fun _=>?_)
 refine W_skip (W_seq ?_)
 obtain ⟨x7,hx7,hF⟩:=bind_some hF
 refine W_region (L_bs rfl parts0 (bs_65_0  ) Z (fun g11 w12 Z=>?_))
 have Z:=Star.mkRow (R:=(OR.frz RP.int)) [] [] 0 Z rfl rfl rfl (by decide)
 refine mV v0 rfl (L_app (v:=(Sl g11 0 0)) (u:=v0) rfl et_65 rfl rfl Z h0 hx7 (fun v14 w15 Z=>aV v14 rfl (nn (W_ret (retG1 (v1:=v14) Try.results90 rfl ?_)))))
 obtain rfl:=so hF
 exact ⟨v14,rfl,Z⟩
theorem slices_Index_int_c {s : List Int} {v_ : Int} {v0 : Value} {H : FH} {w : World} (Z : Star H w []) (h0 : (rS 3 RP.int).rel H [v0] s) {r : Int} (hF : slices_Index_int s v_ = some r) :
 C Try.prog 122 #[v0,I v_] w fun v w'=>v = I r∧Star H w' []:=by
 unfold slices_Index_int at hF
 refine C_enter Try.func122 rfl Try.ntmps122 rfl (sq (aI rfl (nq (sq (mV v0 rfl (L_len rfl Try.underlying65 rfl (slice_len h0) (mI rfl (nn ?_))))))))
 have hlen2 : List.length s≤9223372036854775807:=len_le (slice_len h0)
 obtain ⟨j2,hL2,hF⟩:=bind_some hF
 obtain ⟨R2,hR2⟩:=exR fun f w_=>j2 = .nx ()∧Star H w_ ([])
 refine W_join R2 ?_ ?_
 refine W_block ?_
 obtain ⟨I2,hI2⟩:=exI fun n f w_=>∃ i_1 : Nat,∃ suf2 : List Int,n = suf2.length∧List.drop i_1 s = suf2∧i_1 + suf2.length = s.length∧rangeL (slices_Index_int_b1 v_) suf2 i_1 () = some j2∧f 0 = v0∧f 1 = I v_∧f 7 = I (s.length : Int)∧f 8 = I i_1∧Star H w_ ([])
 refine W_loop I2 (n:=s.length) ?_ ?_
 exact ij hI2 ⟨0,s,rfl,rfl,Nat.zero_add _,hL2,rfl,rfl,rfl,rfl,Z⟩
 intro n2 f w_ hI
 obtain ⟨i_1,suf2,rfl,hd2,hl2,hL2,sf0,sf1,sf7,sf8,Z⟩:=ik hI2 hI
 refine sq (L_lss rfl sf8 sf7 (nq (W_cond (b:=decide ((i_1 : Int) < (s.length : Int))) rfl (fun hc3=>?_) (fun hc3=>?_))))
 have hlt2:=of_decide_eq_true hc3
 rcases suf2 with _ | ⟨x_2,rest2⟩
 exact absurd hlt2 (by simp at hl2; omega)
 obtain ⟨o2,hB2,hL2⟩:=range_cons hL2
 rw [slices_Index_int_b1] at hB2
 have hix2:=drop_idx hd2
 refine W_skip (W_seq (W_block (sq (mF sf8 rfl (aI rfl (ns (mF sf1 rfl (mF sf0 rfl (mI rfl (L_ix (r:=RP.int) rfl Try.underlying65 Try.sizeOf3 rfl h0 rfl hix2 (fun g8 o9 cs_g8 hrk_hat10 hat10=>?_)))))))))))
 obtain rfl : _ = [_]:=hrk_hat10
 refine L_ld rfl Try.isAgg3 rfl (At.cell (AtH.at hat10 Z.sub) (j:=0) rfl) (L_eql rfl rfl rfl (nn (W_cond (b:=(v_ == x_2)) rfl (fun hc12=>?_) (fun hc12=>?_))))
 have hB2:=(ite_t hc12).symm.trans hB2
 refine sq (mI rfl (aI rfl (nn (W_ret (retG1 (v1:=I i_1) Try.results122 rfl ?_)))))
 obtain rfl:=so hB2
 obtain rfl:=so hL2
 obtain rfl:=so hF
 exact ⟨rfl,Z⟩
 have hB2:=(ite_f hc12).symm.trans hB2
 refine W_skip (W_region (L_add rfl sf8 rfl (mI rfl (nn ?_))))
 obtain rfl:=so hB2
 show ∃ m,m < _∧I2 m _ _
 refine ⟨rest2.length,by simp,?_⟩
 exact ij hI2 ⟨i_1 + 1,rest2,rfl,drop_next hd2,by simp at hl2; omega,hL2,sf0,sf1,sf7,(Eq.trans rfl (congrArg (Value.int .i64) (i64_succ (n:=s.length) (by simp at hl2; omega) hlen2))),Z⟩
 rcases suf2 with _ | ⟨_,_⟩
 obtain rfl:=range_nil hL2
 refine W_exit (rj hR2 ⟨rfl,Z⟩)
 exact absurd (of_decide_eq_false hc3) (by simp at hl2; omega)
 intro f w_ hR
 obtain ⟨rfl,Z⟩:=rk hR2 hR
 refine sq (aI rfl (nn (W_ret (retG1 (v1:=I (-1)) Try.results122 rfl ?_))))
 obtain rfl:=so hF
 exact ⟨rfl,Z⟩
theorem slices_Contains_int_c {s : List Int} {v_ : Int} {v0 : Value} {H : FH} {w : World} (Z : Star H w []) (h0 : (rS 3 RP.int).rel H [v0] s) {r : Bool} (hF : slices_Contains_int s v_ = some r) :
 C Try.prog 89 #[v0,I v_] w fun v w'=>v = Bo r∧Star H w' []:=by
 unfold slices_Contains_int at hF
 refine C_enter Try.func89 rfl Try.ntmps89 rfl (sq (aB rfl (nq ?_)))
 obtain ⟨x6,hx6,hF⟩:=bind_some hF
 refine W_region (mV v0 rfl (mI rfl ?_))
 obtain ⟨H8b,l9,s10,z11,k12⟩:=Z.borrow
 refine L_call rfl Try.call122 (ops2 rfl rfl) (slices_Index_int_c (s:=s) (v_:=v_) s10 (RP.mono _ h0 l9) hx6) ?_
 rintro _ w13 ⟨rfl,Z⟩
 have Z:=k12 Z c0
 refine L_geq rfl rfl rfl (aB rfl (nn (W_ret (retG1 (v1:=Bo (decide (x6 ≥ 0))) Try.results89 rfl ?_))))
 obtain rfl:=so hF
 exact ⟨rfl,Z⟩
theorem slices_insertionSortCmpFunc_int_c {fu : Nat} {data : List Int} {a : Int} {b : Int} {cmp : (Int→Int→Option Int)} {v0 : Value} {v3 : Value} {H : FH} {w : World} (Z : Star H w [oF 3 RP.int v0 data]) (h3 : Fun2 Try.prog RP.int RP.int false (Value.int .i64) cmp v3 H) {r : List Int} (hF : slices_insertionSortCmpFunc_int fu data a b cmp = some r) :
 C Try.prog 135 #[v0,I a,I b,v3] w fun v w'=>v = .tuple #[]∧Star H w' [oF 3 RP.int v0 r]:=by
 unfold slices_insertionSortCmpFunc_int at hF
 obtain ⟨fid_3,caps_3,rfl,hcall_3,hc_3⟩:=h3
 refine C_enter Try.func135 rfl Try.ntmps135 rfl (sq (mI rfl (L_add rfl rfl rfl (aI rfl (nn ?_)))))
 obtain ⟨j6,hL6,hF⟩:=bind_some hF
 obtain ⟨R6,hR6⟩:=exR fun f w_=>∃ data_2 : List Int,∃ i_3 : Int,∃ H4 : FH,j6 = .nx (data_2,i_3)∧Le H H4∧Star H4 w_ ([oF 3 RP.int v0 data_2])
 refine W_join R6 ?_ ?_
 refine W_block ?_
 obtain ⟨I6,hI6⟩:=exI fun n f w_=>∃ data_2 : List Int,∃ i_3 : Int,∃ H4 : FH,whileL (slices_insertionSortCmpFunc_int_b1 fu a b cmp) n (data_2,i_3) = some j6∧Le H H4∧f 0 = v0∧f 1 = I a∧f 2 = I b∧f 3 = .func (.func fid_3) #[] caps_3∧f 8 = I i_3∧Star H4 w_ ([oF 3 RP.int v0 data_2])
 refine W_loop I6 (n:=fu) ?_ ?_
 exact ij hI6 ⟨data,i64 (a + 1),H,hL6,(Le.refl _),rfl,rfl,rfl,rfl,rfl,Z⟩
 intro n6 f w_ hI
 obtain ⟨data_2,i_3,H4,hL6,l5,sf0,sf1,sf2,sf3,sf8,Z⟩:=ik hI6 hI
 rcases n6 with _ | n6
 exact (while_zero hL6).elim
 obtain ⟨o6,hB6,hL6⟩:=while_succ hL6
 rw [slices_insertionSortCmpFunc_int_b1] at hB6
 refine W_seq (sq (mF sf8 rfl (mF sf2 rfl (L_lss rfl rfl rfl (nn (W_cond (b:=decide (i_3 < b)) rfl (fun hc7=>?_) (fun hc7=>?_)))))))
 have hB6:=(ite_t hc7).symm.trans hB6
 refine W_skip (W_seq (W_block (sq (mF sf8 rfl (aI rfl (nn ?_))))))
 obtain ⟨j13,hL13,hB6⟩:=bind_some hB6
 obtain ⟨R13,hR13⟩:=exR fun f w_=>∃ data_9 : List Int,∃ j_10 : Int,∃ H11 : FH,j13 = .nx (data_9,j_10)∧Le H4 H11∧f 0 = v0∧f 1 = I a∧f 2 = I b∧f 3 = .func (.func fid_3) #[] caps_3∧f 8 = I i_3∧Star H11 w_ ([oF 3 RP.int v0 data_9])
 refine W_join R13 ?_ ?_
 refine W_block ?_
 obtain ⟨I13,hI13⟩:=exI fun n f w_=>∃ data_9 : List Int,∃ j_10 : Int,∃ H11 : FH,whileL (slices_insertionSortCmpFunc_int_b2 a cmp) n (data_9,j_10) = some j13∧Le H4 H11∧f 0 = v0∧f 1 = I a∧f 2 = I b∧f 3 = .func (.func fid_3) #[] caps_3∧f 8 = I i_3∧f 9 = I j_10∧Star H11 w_ ([oF 3 RP.int v0 data_9])
 refine W_loop I13 (n:=fu) ?_ ?_
 exact ij hI13 ⟨data_2,i_3,H4,hL13,(Le.refl _),sf0,sf1,sf2,sf3,sf8,rfl,Z⟩
 intro n13 f w_ hI
 obtain ⟨data_9,j_10,H11,hL13,l12,sf0,sf1,sf2,sf3,sf8,sf9,Z⟩:=ik hI13 hI
 rcases n13 with _ | n13
 exact (while_zero hL13).elim
 obtain ⟨o13,hB13,hL13⟩:=while_succ hL13
 rw [slices_insertionSortCmpFunc_int_b2] at hB13
 refine W_seq (W_seq ?_)
 obtain ⟨b29,hb29,hB13⟩:=bind_some hB13
 obtain ⟨R33,hR33⟩:=exR fun f w_=>∃ H31 : FH,Le H11 H31∧f 0 = v0∧f 1 = I a∧f 2 = I b∧f 3 = .func (.func fid_3) #[] caps_3∧f 8 = I i_3∧f 9 = I j_10∧f 34 = Bo b29∧Star H31 w_ ([oF 3 RP.int v0 data_9])
 refine W_join R33 ?_ ?_
 rcases Bool.eq_false_or_eq_true (decide (j_10 > a)) with hc34 | hc34
 rw [ite_t hc34] at hb29
 obtain ⟨x14,hx14,hb29⟩:=bind_some hb29
 obtain ⟨x19,hx19,hb29⟩:=bind_some hb29
 obtain ⟨x22,hx22,hb29⟩:=bind_some hb29
 obtain ⟨g35,cap_g35,hv36,_,_⟩:=Star.row 0 Z rfl hx14
 refine W_drawS 14 [isV (I j_10),isV (I a),isV (Bo (decide (j_10 > a))),isV (Bo (decide (j_10 > a))),isV (.func (.func fid_3) #[] caps_3),isV (v0),isV (I j_10),isV (.pointer (some ⟨g35,Int.toNat j_10 * 1,none⟩)),isV (I x14),isV (v0),isV (I j_10),isV (I (i64 (j_10 - 1))),isV (.pointer (some ⟨g35,Int.toNat (i64 (j_10 - 1)) * 1,none⟩)),isV (I x19)] [oF 3 RP.int v0 data_9] [] ([]) [([],[]),([],[]),([],[]),([],[]),([],[]),([],[]),([],[]),([],[]),([],[]),([],[]),([],[]),([],[]),([],[]),([],[])] (S:=[]) Try_mix (by kernel_rfl) rfl (by kernel_rfl) (amF_cons (mono_V _) (amF_cons (mono_V _) (amF_cons (mono_V _) (amF_cons (mono_V _) (amF_cons (mono_V _) (amF_cons (mono_V _) (amF_cons (mono_V _) (amF_cons (mono_V _) (amF_cons (mono_V _) (amF_cons (mono_V _) (amF_cons (mono_V _) (amF_cons (mono_V _) (amF_cons (mono_V _) (amF_cons (mono_V _) amF_nil)))))))))))))) Z ?_ (fun f w_ H30 hS30 hE30 hT30 Z=>?_)
 refine opsS_cons (fun f w_ _ _ s _ _ Z=>mF ((s 9 rfl).trans sf9) rfl (nO rfl rfl Z)) (opsS_cons (fun f w_ _ _ s _ _ Z=>mF ((s 1 rfl).trans sf1) rfl (nO rfl rfl Z)) (opsS_cons (fun f w_ _ _ _ _ p Z=>L_gtr rfl (p 0 18 rfl rfl) (p 1 19 rfl rfl) (nO rfl rfl Z)) (opsS_cons (fun f w_ _ _ _ _ p Z=>mF (p 2 20 rfl rfl) rfl (nO rfl rfl Z)) (opsS_cons (fun f w_ _ _ s _ p Z=>L_mv (v:=.func (.func fid_3) #[] caps_3) (g_yes rfl (Eq.trans (p 3 21 rfl rfl) (congrArg Value.bool hc34)) rfl) ((s 3 rfl).trans sf3) (nO rfl rfl Z)) (opsS_cons (fun f w_ _ _ s _ p Z=>L_mv (v:=v0) (g_yes rfl (Eq.trans (p 3 21 rfl rfl) (congrArg Value.bool hc34)) rfl) ((s 0 rfl).trans sf0) (nO rfl rfl Z)) (opsS_cons (fun f w_ _ _ s _ p Z=>L_mv (v:=I j_10) (g_yes rfl (Eq.trans (p 3 21 rfl rfl) (congrArg Value.bool hc34)) rfl) ((s 9 rfl).trans sf9) (nO rfl rfl Z)) (opsS_cons (fun f w_ _ _ _ _ p Z=>L_ixO (R:=(OR.frz RP.int)) (tb:=0) 0 (g_yes rfl (Eq.trans (p 3 21 rfl rfl) (congrArg Value.bool hc34)) rfl) Try.underlying65 Try.sizeOf3 (p 5 23 rfl rfl) hv36 (by first | rfl | simp) (p 6 24 rfl rfl) hx14 (nO rfl rfl Z)) (opsS_cons ?_ ?_))))))))
 intro f w_ H30 X30 hS30 hE30 hP30 Z
 obtain ⟨cs41,hr41,hat41⟩:=Star.eltF 0 Z rfl hv36 hx14
 obtain rfl : _ = [_]:=hr41
 refine L_ld (v:=I x14) (g_yes rfl (Eq.trans (hP30 3 21 rfl rfl) (congrArg Value.bool hc34)) rfl) Try.isAgg3 (hP30 7 25 rfl rfl) (At.cell hat41 (j:=0) rfl) (L_nil ⟨rfl,_,_,rfl,Le.refl _,fun _ _=>rfl,Z⟩)
 refine opsS_cons (fun f w_ _ _ s _ p Z=>L_mv (v:=v0) (g_yes rfl (Eq.trans (p 3 21 rfl rfl) (congrArg Value.bool hc34)) rfl) ((s 0 rfl).trans sf0) (nO rfl rfl Z)) (opsS_cons (fun f w_ _ _ s _ p Z=>L_mv (v:=I j_10) (g_yes rfl (Eq.trans (p 3 21 rfl rfl) (congrArg Value.bool hc34)) rfl) ((s 9 rfl).trans sf9) (nO rfl rfl Z)) (opsS_cons (fun f w_ _ _ _ _ p Z=>L_sub (g_yes rfl (Eq.trans (p 3 21 rfl rfl) (congrArg Value.bool hc34)) rfl) (p 10 28 rfl rfl) rfl (nO rfl rfl Z)) (opsS_cons (fun f w_ _ _ _ _ p Z=>L_ixO (R:=(OR.frz RP.int)) (tb:=0) 0 (g_yes rfl (Eq.trans (p 3 21 rfl rfl) (congrArg Value.bool hc34)) rfl) Try.underlying65 Try.sizeOf3 (p 9 27 rfl rfl) hv36 (by first | rfl | simp) (p 11 29 rfl rfl) hx19 (nO rfl rfl Z)) (opsS_cons ?_ ?_))))
 intro f w_ H30 X30 hS30 hE30 hP30 Z
 obtain ⟨cs43,hr43,hat43⟩:=Star.eltF 0 Z rfl hv36 hx19
 obtain rfl : _ = [_]:=hr43
 refine L_ld (v:=I x19) (g_yes rfl (Eq.trans (hP30 3 21 rfl rfl) (congrArg Value.bool hc34)) rfl) Try.isAgg3 (hP30 12 30 rfl rfl) (At.cell hat43 (j:=0) rfl) (L_nil ⟨rfl,_,_,rfl,Le.refl _,fun _ _=>rfl,Z⟩)
 exact opsS_nil
 obtain ⟨H45b,l46,s47,z48,k49⟩:=Z.borrow
 refine L_callv (args:=#[I x14,I x19]) (g_yes rfl (Eq.trans (hT30 3 21 rfl rfl) (congrArg Value.bool hc34)) rfl) hcall_3 (hT30 4 22 rfl rfl) (ops2 (hT30 8 26 rfl rfl) (hT30 13 31 rfl rfl)) (hc_3 _ _ (Le.trans (Le.trans (Le.trans l5 l12) hE30) l46) s47 [I x14] [I x19] _ _ _ _ rfl rfl hx22 (args_app rfl)) ?_
 rintro _ w50 ⟨rfl,Z⟩
 have Z:=k49 Z c0
 refine L_lss (g_yes rfl (Eq.trans (hT30 3 21 rfl rfl) (congrArg Value.bool hc34)) rfl) rfl rfl (L_pick (v:=Bo b29) rfl (Eq.trans (hT30 3 21 rfl rfl) (congrArg Value.bool hc34)) (congrArg Value.bool (so hb29)) (nn (rj hR33 ⟨H30,hE30,((hS30 0 rfl).trans sf0),((hS30 1 rfl).trans sf1),((hS30 2 rfl).trans sf2),((hS30 3 rfl).trans sf3),((hS30 8 rfl).trans sf8),((hS30 9 rfl).trans sf9),rfl,Z⟩)))
 rw [ite_f hc34] at hb29
 refine W_drawS 14 [isV (I j_10),isV (I a),isV (Bo (decide (j_10 > a))),isV (Bo (decide (j_10 > a))),isV (undef),isV (undef),isV (undef),isV (undef),isV (undef),isV (undef),isV (undef),isV (undef),isV (undef),isV (undef)] [oF 3 RP.int v0 data_9] [] ([]) [([],[]),([],[]),([],[]),([],[]),([],[]),([],[]),([],[]),([],[]),([],[]),([],[]),([],[]),([],[]),([],[]),([],[])] (S:=[]) Try_mix (by kernel_rfl) rfl (by kernel_rfl) (amF_cons (mono_V _) (amF_cons (mono_V _) (amF_cons (mono_V _) (amF_cons (mono_V _) (amF_cons (mono_V _) (amF_cons (mono_V _) (amF_cons (mono_V _) (amF_cons (mono_V _) (amF_cons (mono_V _) (amF_cons (mono_V _) (amF_cons (mono_V _) (amF_cons (mono_V _) (amF_cons (mono_V _) (amF_cons (mono_V _) amF_nil)))))))))))))) Z ?_ (fun f w_ H30 hS30 hE30 hT30 Z=>?_)
 refine opsS_cons (fun f w_ _ _ s _ _ Z=>mF ((s 9 rfl).trans sf9) rfl (nO rfl rfl Z)) (opsS_cons (fun f w_ _ _ s _ _ Z=>mF ((s 1 rfl).trans sf1) rfl (nO rfl rfl Z)) (opsS_cons (fun f w_ _ _ _ _ p Z=>L_gtr rfl (p 0 18 rfl rfl) (p 1 19 rfl rfl) (nO rfl rfl Z)) (opsS_cons (fun f w_ _ _ _ _ p Z=>mF (p 2 20 rfl rfl) rfl (nO rfl rfl Z)) (oP (fun _ _ p=>gN (p 3 21 rfl rfl) hc34 rfl) (fun _=>rfl) (oP (fun _ _ p=>gN (p 3 21 rfl rfl) hc34 rfl) (fun _=>rfl) (oP (fun _ _ p=>gN (p 3 21 rfl rfl) hc34 rfl) (fun _=>rfl) (oP (fun _ _ p=>gN (p 3 21 rfl rfl) hc34 rfl) (fun _=>rfl) (oP (fun _ _ p=>gN (p 3 21 rfl rfl) hc34 rfl) (fun _=>rfl) (oP (fun _ _ p=>gN (p 3 21 rfl rfl) hc34 rfl) (fun _=>rfl) (oP (fun _ _ p=>gN (p 3 21 rfl rfl) hc34 rfl) (fun _=>rfl) (oP (fun _ _ p=>gN (p 3 21 rfl rfl) hc34 rfl) (fun _=>rfl) (oP (fun _ _ p=>gN (p 3 21 rfl rfl) hc34 rfl) (fun _=>rfl) (oP (fun _ _ p=>gN (p 3 21 rfl rfl) hc34 rfl) (fun _=>rfl) (opsS_nil))))))))))))))
 refine ps (g_no rfl (Eq.trans (hT30 3 21 rfl rfl) (congrArg Value.bool hc34)) rfl rfl) (ps (g_no rfl (Eq.trans (hT30 3 21 rfl rfl) (congrArg Value.bool hc34)) rfl rfl) (L_pick (v:=Bo b29) rfl (Eq.trans (hT30 3 21 rfl rfl) (congrArg Value.bool hc34)) (congrArg Value.bool (so hb29)) (nn (rj hR33 ⟨H30,hE30,((hS30 0 rfl).trans sf0),((hS30 1 rfl).trans sf1),((hS30 2 rfl).trans sf2),((hS30 3 rfl).trans sf3),((hS30 8 rfl).trans sf8),((hS30 9 rfl).trans sf9),rfl,Z⟩))))
 intro f w_ hR
 obtain ⟨H31,l32,sf0,sf1,sf2,sf3,sf8,sf9,sf34,Z⟩:=rk hR33 hR
 refine W_cond (b:=b29) sf34 (fun hc51=>?_) (fun hc51=>?_)
 have hB13:=(ite_t hc51).symm.trans hB13
 refine W_skip (W_seq (W_block ?_))
 obtain ⟨x52,hx52,hB13⟩:=bind_some hB13
 obtain ⟨x57,hx57,hB13⟩:=bind_some hB13
 obtain ⟨x61,hx61,hB13⟩:=bind_some hB13
 obtain ⟨g64,cap_g64,hv65,_,_⟩:=Star.row 0 Z rfl hx52
 refine W_drawS 16 [isV (v0),isV (I j_10),isV (v0),isV (I j_10),isV (I (i64 (j_10 - 1))),isV (v0),isV (I j_10),isV (I (i64 (j_10 - 1))),isV (.pointer (some ⟨g64,Int.toNat (i64 (j_10 - 1)) * 1,none⟩)),isV (I x52),isV (v0),isV (I j_10),isV (.pointer (some ⟨g64,Int.toNat j_10 * 1,none⟩)),isV (I x57),isV (.pointer (some ⟨g64,Int.toNat j_10 * 1,none⟩)),anyF] [] [.base (oF 3 RP.int v0 data_9) (some 15),.madeN 15 [] (fun vs_=>oF 3 RP.int v0 (data_9.set (Int.toNat j_10) x52)) none] ([]) [([],[]),([],[]),([],[]),([],[]),([],[]),([],[]),([],[]),([],[]),([0],[0]),([0],[0]),([],[]),([],[]),([0],[0]),([0],[0]),([0],[0]),([0],[1])] (S:=[(none,[],some 15),(some 15,[],none)]) Try_mix (by kernel_rfl) rfl (by kernel_rfl) (amF_cons (mono_V _) (amF_cons (mono_V _) (amF_cons (mono_V _) (amF_cons (mono_V _) (amF_cons (mono_V _) (amF_cons (mono_V _) (amF_cons (mono_V _) (amF_cons (mono_V _) (amF_cons (mono_V _) (amF_cons (mono_V _) (amF_cons (mono_V _) (amF_cons (mono_V _) (amF_cons (mono_V _) (amF_cons (mono_V _) (amF_cons (mono_V _) (amF_cons (mono_any) amF_nil)))))))))))))))) Z ?_ (fun f w_ H63 hS63 hE63 hT63 Z=>?_)
 refine opsS_cons (fun f w_ _ _ s _ _ Z=>mF ((s 0 rfl).trans sf0) rfl (nO rfl rfl Z)) (opsS_cons (fun f w_ _ _ s _ _ Z=>mF ((s 9 rfl).trans sf9) rfl (nO rfl rfl Z)) (opsS_cons (fun f w_ _ _ s _ _ Z=>mF ((s 0 rfl).trans sf0) rfl (nO rfl rfl Z)) (opsS_cons (fun f w_ _ _ s _ _ Z=>mF ((s 9 rfl).trans sf9) rfl (nO rfl rfl Z)) (opsS_cons (fun f w_ _ _ _ _ p Z=>L_sub rfl (p 3 40 rfl rfl) rfl (nO rfl rfl Z)) (opsS_cons (fun f w_ _ _ s _ _ Z=>mF ((s 0 rfl).trans sf0) rfl (nO rfl rfl Z)) (opsS_cons (fun f w_ _ _ s _ _ Z=>mF ((s 9 rfl).trans sf9) rfl (nO rfl rfl Z)) (opsS_cons (fun f w_ _ _ _ _ p Z=>L_sub rfl (p 6 43 rfl rfl) rfl (nO rfl rfl Z)) (opsS_cons ?_ ?_))))))))
 intro f w_ H63 X63 hS63 hE63 hP63 Z
 have Z : Star H63 w_ (oF 3 RP.int v0 data_9 :: X63):=Z
 refine L_ixO (R:=(OR.frz RP.int)) (tb:=0) 0 rfl Try.underlying65 Try.sizeOf3 (hP63 5 42 rfl rfl) hv65 (by first | rfl | simp) (hP63 7 44 rfl rfl) hx52 (L_nil ⟨rfl,_,_,rfl,Le.refl _,fun _ _=>rfl,Z⟩)
 refine opsS_cons ?_ ?_
 intro f w_ H63 X63 hS63 hE63 hP63 Z
 have Z : Star H63 w_ (oF 3 RP.int v0 data_9 :: X63):=Z
 obtain ⟨cs71,hr71,hat71⟩:=Star.eltF 0 Z rfl hv65 hx52
 obtain rfl : _ = [_]:=hr71
 refine L_ld rfl Try.isAgg3 (hP63 8 45 rfl rfl) (At.cell hat71 (j:=0) rfl) (L_nil ⟨rfl,_,_,rfl,Le.refl _,fun _ _=>rfl,Z⟩)
 refine opsS_cons (fun f w_ _ _ s _ _ Z=>mF ((s 0 rfl).trans sf0) rfl (nO rfl rfl Z)) (opsS_cons (fun f w_ _ _ s _ _ Z=>mF ((s 9 rfl).trans sf9) rfl (nO rfl rfl Z)) (opsS_cons ?_ ?_))
 intro f w_ H63 X63 hS63 hE63 hP63 Z
 have Z : Star H63 w_ (oF 3 RP.int v0 data_9 :: X63):=Z
 refine L_ixO (R:=(OR.frz RP.int)) (tb:=0) 0 rfl Try.underlying65 Try.sizeOf3 (hP63 10 47 rfl rfl) hv65 (by first | rfl | simp) (hP63 11 48 rfl rfl) hx57 (L_nil ⟨rfl,_,_,rfl,Le.refl _,fun _ _=>rfl,Z⟩)
 refine opsS_cons ?_ ?_
 intro f w_ H63 X63 hS63 hE63 hP63 Z
 have Z : Star H63 w_ (oF 3 RP.int v0 data_9 :: X63):=Z
 obtain ⟨cs73,hr73,hat73⟩:=Star.eltF 0 Z rfl hv65 hx57
 obtain rfl : _ = [_]:=hr73
 refine L_ld rfl Try.isAgg3 (hP63 12 49 rfl rfl) (At.cell hat73 (j:=0) rfl) (L_nil ⟨rfl,_,_,rfl,Le.refl _,fun _ _=>rfl,Z⟩)
 refine opsS_cons ?_ ?_
 intro f w_ H63 X63 hS63 hE63 hP63 Z
 have Z : Star H63 w_ (oF 3 RP.int v0 data_9 :: X63):=Z
 refine L_ixO (R:=(OR.frz RP.int)) (tb:=0) 0 rfl Try.underlying65 Try.sizeOf3 (hP63 0 37 rfl rfl) hv65 (by first | rfl | simp) (hP63 1 38 rfl rfl) hx57 (L_nil ⟨rfl,_,_,rfl,Le.refl _,fun _ _=>rfl,Z⟩)
 refine opsS_cons ?_ ?_
 intro f w_ H63 X63 hS63 hE63 hP63 Z
 have Z : Star H63 w_ (oF 3 RP.int v0 data_9 :: X63):=Z
 have Z:=Star.addF (r:=RP.int) (cs:=[I x52]) (x:=x52) Z rfl
 refine L_stE1 (u:=I x52) rfl Try.sizeOf3 rfl (hP63 14 51 rfl rfl) (hP63 9 46 rfl rfl) hv65 Z hx57 (fun w75 Z=>?_)
 exact L_nil ⟨rfl,Bo false,_,rfl,Le.refl _,(fun _ h=>nomatch h),Z⟩
 exact opsS_nil
 have Z : Star H63 w_ ([oF 3 RP.int v0 (data_9.set (Int.toNat j_10) x52)]):=Z
 refine L_ixO (R:=(OR.frz RP.int)) (tb:=0) 0 rfl Try.underlying65 Try.sizeOf3 (hT63 2 39 rfl rfl) hv65 (by first | rfl | simp) (hT63 4 41 rfl rfl) hx61 ?_
 have Z:=Star.addF (r:=RP.int) (cs:=[I x57]) (x:=x57) Z rfl
 refine L_stE1 (u:=I x57) rfl Try.sizeOf3 rfl rfl (hT63 13 50 rfl rfl) hv65 Z hx61 (fun w76 Z=>?_)
 refine nn (W_region (mF ((hS63 9 rfl).trans sf9) rfl (L_sub rfl rfl rfl (aI rfl (nn ?_)))))
 obtain rfl:=so hB13
 show ∃ m,m < _∧I13 m _ _
 refine ⟨n13,Nat.lt_succ_self _,?_⟩
 exact ij hI13 ⟨((data_9.set (Int.toNat j_10) x52).set (Int.toNat (i64 (j_10 - 1))) x57),i64 (j_10 - 1),H63,hL13,(Le.trans (Le.trans l12 l32) hE63),((hS63 0 rfl).trans sf0),((hS63 1 rfl).trans sf1),((hS63 2 rfl).trans sf2),((hS63 3 rfl).trans sf3),((hS63 8 rfl).trans sf8),rfl,Z⟩
 have hB13:=(ite_f hc51).symm.trans hB13
 refine W_exit ?_
 obtain rfl:=so hB13
 obtain rfl:=so hL13
 exact rj hR13 ⟨data_9,j_10,H31,rfl,(Le.trans l12 l32),sf0,sf1,sf2,sf3,sf8,Z⟩
 intro f w_ hR
 obtain ⟨data_9,j_10,H11,rfl,l12,sf0,sf1,sf2,sf3,sf8,Z⟩:=rk hR13 hR
 refine W_region (mF sf8 rfl (L_add rfl rfl rfl (aI rfl (nn ?_))))
 obtain rfl:=so hB6
 show ∃ m,m < _∧I6 m _ _
 refine ⟨n6,Nat.lt_succ_self _,?_⟩
 exact ij hI6 ⟨data_9,i64 (i_3 + 1),H11,hL6,(Le.trans l5 l12),sf0,sf1,sf2,sf3,rfl,Z⟩
 have hB6:=(ite_f hc7).symm.trans hB6
 refine W_exit ?_
 obtain rfl:=so hB6
 obtain rfl:=so hL6
 exact rj hR6 ⟨data_2,i_3,H4,rfl,l5,Z⟩
 intro f w_ hR
 obtain ⟨data_2,i_3,H4,rfl,l5,Z⟩:=rk hR6 hR
 refine ret0 Try.results135 ?_
 obtain rfl:=so hF
 exact ⟨rfl,(Star.down Z l5 (co closed_int c0))⟩
theorem bits_Len_c {x_ : Int} {H : FH} {w : World} (Z : Star H w []) {r : Int} (hF : bits_Len x_ = some r) :
 C Try.prog 124 #[.int .u64 x_] w fun v w'=>v = I r∧Star H w' []:=by
 obtain ⟨h0,h1,rfl⟩:=bits_Len_some hF
 refine Calls.mono (Go.Proofs.Try.bits_Len x_ w h0 h1) ?_
 rintro e w' ⟨rfl,rfl⟩
 exact ⟨_,rfl,rfl,Z⟩
theorem slices_nextPowerOfTwo_c {length : Int} {H : FH} {w : World} (Z : Star H w []) {r : Int} (hF : slices_nextPowerOfTwo length = some r) :
 C Try.prog 149 #[I length] w fun v w'=>v = .int .u64 r∧Star H w' []:=by
 unfold slices_nextPowerOfTwo at hF
 refine C_enter Try.func149 rfl Try.ntmps149 rfl (sq (aV (.int .u64 0) rfl (nq ?_)))
 obtain ⟨x6,hx6,hF⟩:=bind_some hF
 obtain ⟨q8,hq8,hF⟩:=bind_some hF
 refine W_region (mI rfl (L_cv (n:=length) rfl rfl ⟨_,Try.underlying3⟩ Try.underlying140 ?_))
 obtain ⟨H9b,l10,s11,z12,k13⟩:=Z.borrow
 refine L_call rfl Try.call124 (ops1 rfl) (bits_Len_c (x_:=IntKind.u64.wrap length) s11 hx6) ?_
 rintro _ w14 ⟨rfl,Z⟩
 have Z:=k13 Z c0
 refine L_shl (m:=1) (n:=x6) rfl rfl rfl (Int.not_lt.1 fun he=>by rw [if_pos he] at hq8; cases hq8) (aV (.int .u64 (IntKind.u64.wrap (1 * 2 ^ (min (Int.toNat x6) (IntKind.bits .u64))))) rfl (nn (W_ret (retG1 (v1:=.int .u64 (IntKind.u64.wrap (1 * 2 ^ (min (Int.toNat x6) (IntKind.bits .u64))))) Try.results149 rfl ?_))))
 obtain rfl:=so hF
 exact ⟨rfl,Z⟩
theorem slices_pdqsortCmpFunc_int_c {fu : Nat} {data : List Int} {a : Int} {b : Int} {limit : Int} {cmp : (Int→Int→Option Int)} {v0 : Value} {v4 : Value} {H : FH} {w : World} (Z : Star H w [oF 3 RP.int v0 data]) (h4 : Fun2 Try.prog RP.int RP.int false (Value.int .i64) cmp v4 H) {r : List Int} (hF : slices_pdqsortCmpFunc_int fu data a b limit cmp = some r) :
 C Try.prog 123 #[v0,I a,I b,I limit,v4] w fun v w'=>v = .tuple #[]∧Star H w' [oF 3 RP.int v0 r]:=by
 unfold slices_pdqsortCmpFunc_int at hF
 obtain ⟨fid_4,caps_4,rfl,hcall_4,hc_4⟩:=h4
 refine C_enter Try.func123 rfl Try.ntmps123 rfl (sq (aB rfl (ns (aB rfl (nn ?_)))))
 obtain ⟨j2,hL2,hF⟩:=bind_some hF
 obtain ⟨R2,hR2⟩:=exR fun f w_=>j2 = .nx ()∧Star H w_ ([oF 3 RP.int v0 data])
 refine W_join R2 ?_ ?_
 refine W_block ?_
 obtain ⟨I2,hI2⟩:=exI fun n f w_=>whileL (slices_pdqsortCmpFunc_int_b1 fu data a b cmp) n () = some j2∧f 0 = v0∧f 1 = I a∧f 2 = I b∧f 4 = .func (.func fid_4) #[] caps_4∧Star H w_ ([oF 3 RP.int v0 data])
 refine W_loop I2 (n:=fu) ?_ ?_
 exact ij hI2 ⟨hL2,rfl,rfl,rfl,rfl,Z⟩
 intro n2 f w_ hI
 obtain ⟨hL2,sf0,sf1,sf2,sf4,Z⟩:=ik hI2 hI
 rcases n2 with _ | n2
 exact (while_zero hL2).elim
 obtain ⟨o2,hB2,hL2⟩:=while_succ hL2
 rw [slices_pdqsortCmpFunc_int_b1] at hB2
 refine W_block (sq (mF sf2 rfl (mF sf1 rfl (L_sub rfl rfl rfl (aI rfl (nq (sq (mI rfl (L_leq rfl rfl rfl (nn (W_cond (b:=decide ((i64 (b - a))≤12)) rfl (fun hc3=>?_) (fun hc3=>?_))))))))))))
 have hB2:=(ite_t hc3).symm.trans hB2
 refine W_seq ?_
 obtain ⟨x9,hx9,hB2⟩:=bind_some hB2
 refine W_region (mF sf0 rfl (mF sf1 rfl (mF sf2 rfl (mF sf4 rfl ?_))))
 obtain ⟨H11b,l12,s13,z14,k15⟩:=Z.lend [_]
 refine L_call rfl Try.call135 (ops4 rfl rfl rfl rfl) (slices_insertionSortCmpFunc_int_c (data:=data) (a:=a) (b:=b) (cmp:=cmp) s13 (Fun2.le ⟨_,_,rfl,hcall_4,hc_4⟩ l12) hx9) ?_
 rintro _ w16 ⟨rfl,Z⟩
 have Z:=k15 Z (co closed_int c0)
 refine nn (W_ret (ret0 Try.results123 ?_))
 obtain rfl:=so hB2
 obtain rfl:=so hL2
 obtain rfl:=so hF
 exact ⟨rfl,Z⟩
 have hB2:=(ite_f hc3).symm.trans hB2
 refine W_skip ?_
 cases hB2
 intro f w_ hR
 obtain ⟨rfl,Z⟩:=rk hR2 hR
 refine ret0 Try.results123 ?_
 obtain rfl:=so hF
 exact ⟨rfl,Z⟩
theorem slices_SortFunc_int_c {fu : Nat} {x : List Int} {cmp : (Int→Int→Option Int)} {v0 : Value} {v1 : Value} {H : FH} {w : World} (Z : Star H w [oF 3 RP.int v0 x]) (h1 : Fun2 Try.prog RP.int RP.int false (Value.int .i64) cmp v1 H) {r : List Int} (hF : slices_SortFunc_int fu x cmp = some r) :
 C Try.prog 91 #[v0,v1] w fun v w'=>v = .tuple #[]∧Star H w' [oF 3 RP.int v0 r]:=by
 unfold slices_SortFunc_int at hF
 obtain ⟨fid_1,caps_1,rfl,hcall_1,hc_1⟩:=h1
 refine C_enter Try.func91 rfl Try.ntmps91 rfl (sq (mV v0 rfl (L_len rfl Try.underlying65 rfl (Star.len 0 Z rfl) (aI rfl (nn ?_)))))
 obtain ⟨x6,hx6,hF⟩:=bind_some hF
 obtain ⟨x13,hx13,hF⟩:=bind_some hF
 refine W_region (mV v0 rfl (mI rfl (mI rfl (L_cv (n:=(x.length : Int)) rfl rfl ⟨_,Try.underlying3⟩ Try.underlying140 ?_))))
 obtain ⟨H15b,l16,s17,z18,k19⟩:=Z.borrow
 refine L_call rfl Try.call124 (ops1 rfl) (bits_Len_c (x_:=IntKind.u64.wrap (x.length : Int)) s17 hx6) ?_
 rintro _ w20 ⟨rfl,Z⟩
 have Z:=k19 Z c0
 refine mV (.func (.func fid_1) #[] caps_1) rfl ?_
 obtain ⟨H21b,l22,s23,z24,k25⟩:=Z.lend [_]
 refine L_call rfl Try.call123 (ops5 rfl rfl rfl rfl rfl) (slices_pdqsortCmpFunc_int_c (data:=x) (a:=0) (b:=(x.length : Int)) (limit:=x6) (cmp:=cmp) s23 (Fun2.le ⟨_,_,rfl,hcall_1,hc_1⟩ l22) hx13) ?_
 rintro _ w26 ⟨rfl,Z⟩
 have Z:=k25 Z (co closed_int c0)
 refine nn (ret0 Try.results91 ?_)
 obtain rfl:=so hF
 exact ⟨rfl,Z⟩
theorem i_ClauseOf_1_c {a : Int} {b : Int} {H : FH} {w : World} (Z : Star H w []) {r : Int} (hF : i_ClauseOf_1 a b = some r) :
 C Try.prog 92 #[I a,I b] w fun v w'=>v = I r∧Star H w' []:=by
 unfold i_ClauseOf_1 at hF
 refine C_enter Try.func92 rfl Try.ntmps92 rfl (sq (aI rfl (nq ?_)))
 obtain ⟨x6,hx6,hF⟩:=bind_some hF
 obtain ⟨x13,hx13,hF⟩:=bind_some hF
 refine W_region (mI rfl ?_)
 obtain ⟨H15b,l16,s17,z18,k19⟩:=Z.borrow
 refine L_call rfl Try.call93 (ops1 rfl) (i_variableOf_c (l:=a) s17 hx6) ?_
 rintro _ w20 ⟨rfl,Z⟩
 have Z:=k19 Z c0
 refine mI rfl ?_
 obtain ⟨H21b,l22,s23,z24,k25⟩:=Z.borrow
 refine L_call rfl Try.call93 (ops1 rfl) (i_variableOf_c (l:=b) s23 hx13) ?_
 rintro _ w26 ⟨rfl,Z⟩
 have Z:=k25 Z c0
 refine L_sub rfl rfl rfl (aI rfl (nn (W_ret (retG1 (v1:=I (i64 (x6 - x13))) Try.results92 rfl ?_))))
 obtain rfl:=so hF
 exact ⟨rfl,Z⟩
theorem slices_Compact_int_c {x_ : List Int} {v0 : Value} {H : FH} {w : World} (Z : Star H w [oF 3 RP.int v0 x_]) {r : List Int} (hF : slices_Compact_int x_ = some r) :
 C Try.prog 94 #[v0] w fun v w'=>∃ (u1 : Value),v = u1∧Star H w' [oF 3 RP.int u1 r]:=by
 obtain rfl : Go.Lib.compact x_ = r:=so hF
 refine Calls.mono (compact_own Go.Lib.compact compact_le rfl (fun blk off cap zs w=>Go.Proofs.Try.slices_Compact_int blk off cap zs w) (fun a cap w=>Go.Proofs.Try.slices_Compact_int_empty a cap w) Z) ?_
 rintro e w' ⟨v1,he,h⟩
 exact ⟨v1,he,v1,rfl,h⟩
theorem i_ClauseOf_c {fu : Nat} {lits : List Int} {v0 : Value} {H : FH} {w : World} (Z : Star H w []) (h0 : (rS 3 RP.int).rel H [v0] lits) {r : Con × Bool} (hF : i_ClauseOf fu lits = some r) :
 C Try.prog 46 #[v0] w fun v w'=>∃ (u1 : Value),v = .tuple #[.agg #[u1,I r.1.bound],Bo r.2]∧Star H w' [oF 112 rTerm u1 r.1.terms]:=by
 unfold i_ClauseOf at hF
 refine C_enter Try.func46 rfl Try.ntmps46 rfl (sq (L_al (cs:=#[S0,I 0]) rfl Try.zeroValue43 rfl Z (fun g3 w4 Z=>aB rfl (nq (sq (mV v0 rfl (L_len rfl Try.underlying65 rfl (slice_len h0) (L_gtr rfl rfl rfl (nn (W_cond (b:=decide ((lits.length : Int) > 40)) rfl (fun hc5=>?_) (fun hc5=>?_)))))))))))
 have hF:=(ite_t hc5).symm.trans hF
 refine sq (L_bld rfl (parts0 ) (bld_43_  ) (L_staB (vs:=#[S0,I 0]) (cs2:=#[S0,I 0]) 0 rfl Try.sizeOf43 rfl rfl rfl (ones_cons rfl (ones_cons rfl ones_nil)) Z rfl (by show 0 + 2≤2; decide) rfl (fun w7 Z=>aB rfl (nn (W_ret (retG2 (v1:=.agg #[S0,I 0]) (v2:=Bo false) Try.results46 (resV_agg Try.isAgg43 Try.sizeOf43 rfl (Star.blkAt 0 Z rfl) rfl) rfl ?_))))))
 obtain rfl:=so hF
 have Z:=Star.addNil (R:=(OR.frz rTerm)) (e:=112) Z
 exact ⟨S0,rfl,(Star.keepN 1 Z)⟩
 have hF:=(ite_f hc5).symm.trans hF
 refine W_skip (W_seq (sq (mV v0 rfl (L_len rfl Try.underlying65 rfl (slice_len h0) (mI rfl (nn ?_))))))
 have hlen10 : List.length lits≤9223372036854775807:=len_le (slice_len h0)
 obtain ⟨j10,hL10,hF⟩:=bind_some hF
 obtain ⟨R10,hR10⟩:=exR fun f w_=>j10 = .nx ()∧f 0 = v0∧f 2 = Pt g3∧Star H w_ ([box g3 43 #[S0,I 0]])
 refine W_join R10 ?_ ?_
 refine W_block ?_
 obtain ⟨I10,hI10⟩:=exI fun n f w_=>∃ i_9 : Nat,∃ suf10 : List Int,n = suf10.length∧List.drop i_9 lits = suf10∧i_9 + suf10.length = lits.length∧rangeL (i_ClauseOf_b1 lits) suf10 i_9 () = some j10∧f 0 = v0∧f 2 = Pt g3∧f 14 = v0∧f 15 = I (lits.length : Int)∧f 16 = I i_9∧Star H w_ ([box g3 43 #[S0,I 0]])
 refine W_loop I10 (n:=lits.length) ?_ ?_
 exact ij hI10 ⟨0,lits,rfl,rfl,Nat.zero_add _,hL10,rfl,rfl,rfl,rfl,rfl,Z⟩
 intro n10 f w_ hI
 obtain ⟨i_9,suf10,rfl,hd10,hl10,hL10,sf0,sf2,sf14,sf15,sf16,Z⟩:=ik hI10 hI
 refine sq (L_lss rfl sf16 sf15 (nq (W_cond (b:=decide ((i_9 : Int) < (lits.length : Int))) rfl (fun hc11=>?_) (fun hc11=>?_))))
 have hlt10:=of_decide_eq_true hc11
 rcases suf10 with _ | ⟨x_10,rest10⟩
 exact absurd hlt10 (by simp at hl10; omega)
 obtain ⟨o10,hB10,hL10⟩:=range_cons hL10
 rw [i_ClauseOf_b1] at hB10
 have hix10:=drop_idx hd10
 refine W_skip (W_seq (W_block (sq (L_ix (r:=RP.int) rfl Try.underlying65 Try.sizeOf3 sf14 h0 sf16 hix10 (fun g16 o17 cs_g16 hrk_hat18 hat18=>?_)))))
 obtain rfl : _ = [_]:=hrk_hat18
 refine L_ld rfl Try.isAgg3 rfl (At.cell (AtH.at hat18 Z.sub) (j:=0) rfl) (aI rfl (nq ?_))
 obtain ⟨x25,hx25,hB10⟩:=bind_some hB10
 obtain ⟨b34,hb34,hB10⟩:=bind_some hB10
 obtain ⟨R35,hR35⟩:=exR fun f w_=>f 0 = v0∧f 2 = Pt g3∧f 14 = v0∧f 15 = I (lits.length : Int)∧f 16 = I i_9∧f 28 = Bo b34∧Star H w_ ([box g3 43 #[S0,I 0]])
 refine W_join R35 ?_ ?_
 refine W_region (mI rfl ?_)
 obtain ⟨H36b,l37,s38,z39,k40⟩:=Z.borrow
 refine L_call rfl Try.call88 (ops1 rfl) (i_isLiteral_c (l:=x_10) s38 hx25) ?_
 rintro _ w41 ⟨rfl,Z⟩
 have Z:=k40 Z c0
 refine L_not_ rfl rfl (mB rfl (L_split (d:=23) (b:=(!x25)) rfl (fun hc42=>?_) (fun hc42=>?_)))
 rw [ite_t hc42] at hb34
 refine ps rfl (ps rfl (ps rfl (ps rfl (L_pick (v:=Bo b34) rfl rfl (congrArg Value.bool (so hb34)) (nn (rj hR35 ⟨sf0,sf2,sf14,sf15,sf16,rfl,Z⟩))))))
 rw [ite_f hc42] at hb34
 obtain ⟨x32,hx32,hb34⟩:=bind_some hb34
 refine mF sf0 rfl (mI rfl (L_neg rfl rfl ?_))
 obtain ⟨H43b,l44,s45,z46,k47⟩:=Z.borrow
 refine L_call rfl Try.call89 (ops2 rfl rfl) (slices_Contains_int_c (s:=lits) (v_:=i64 (-x_10)) s45 (RP.mono _ h0 l44) hx32) ?_
 rintro _ w48 ⟨rfl,Z⟩
 have Z:=k47 Z c0
 refine L_pick (v:=Bo b34) rfl rfl (congrArg Value.bool (so hb34)) (nn (rj hR35 ⟨sf0,sf2,sf14,sf15,sf16,rfl,Z⟩))
 intro f w_ hR
 obtain ⟨sf0,sf2,sf14,sf15,sf16,sf28,Z⟩:=rk hR35 hR
 refine W_cond (b:=b34) sf28 (fun hc49=>?_) (fun hc49=>?_)
 have hB10:=(ite_t hc49).symm.trans hB10
 refine sq (L_bld rfl (parts0 ) (bld_43_  ) (L_staB (vs:=#[S0,I 0]) (cs2:=#[S0,I 0]) 0 rfl Try.sizeOf43 sf2 rfl rfl (ones_cons rfl (ones_cons rfl ones_nil)) Z rfl (by show 0 + 2≤2; decide) rfl (fun w51 Z=>aB rfl (nn (W_ret (retG2 (v1:=.agg #[S0,I 0]) (v2:=Bo false) Try.results46 (resV_agg Try.isAgg43 Try.sizeOf43 sf2 (Star.blkAt 0 Z rfl) rfl) rfl ?_))))))
 obtain rfl:=so hB10
 obtain rfl:=so hL10
 obtain rfl:=so hF
 have Z:=Star.addNil (R:=(OR.frz rTerm)) (e:=112) Z
 exact ⟨S0,rfl,(Star.keepN 1 Z)⟩
 have hB10:=(ite_f hc49).symm.trans hB10
 refine W_skip (W_region (L_add rfl sf16 rfl (mI rfl (nn ?_))))
 obtain rfl:=so hB10
 show ∃ m,m < _∧I10 m _ _
 refine ⟨rest10.length,by simp,?_⟩
 exact ij hI10 ⟨i_9 + 1,rest10,rfl,drop_next hd10,by simp at hl10; omega,hL10,sf0,sf2,sf14,sf15,(Eq.trans rfl (congrArg (Value.int .i64) (i64_succ (n:=lits.length) (by simp at hl10; omega) hlen10))),Z⟩
 rcases suf10 with _ | ⟨_,_⟩
 obtain rfl:=range_nil hL10
 refine W_exit (rj hR10 ⟨rfl,sf0,sf2,Z⟩)
 exact absurd (of_decide_eq_false hc11) (by simp at hl10; omega)
 intro f w_ hR
 obtain ⟨rfl,sf0,sf2,Z⟩:=rk hR10 hR
 refine W_seq ?_
 obtain ⟨x58,hx58,hF⟩:=bind_some hF
 refine W_region (mF sf0 rfl ?_)
 obtain ⟨H61b,l62,s63,z64,k65⟩:=Z.borrow
 refine L_call rfl Try.call90 (ops1 rfl) (slices_Clone_int_c (s:=lits) s63 (RP.mono _ h0 l62) hx58) ?_
 rintro r66_0 w66 ⟨_,rfl,Z⟩
 have Z:=k65 Z (co closed_int c0)
 refine aV r66_0 rfl (nq ?_)
 obtain ⟨x73,hx73,hF⟩:=bind_some hF
 refine W_region (mV r66_0 rfl ?_)
 obtain ⟨H75b,l76,s77,z78,k79⟩:=Z.lend [_]
 have hf80 : Fun2 Try.prog RP.int RP.int false (Value.int .i64) i_ClauseOf_1 (.func (.func 92) #[] #[]) H75b:=by
   refine ⟨_,_,rfl,Try.call92,fun H_ w_ hE_ hs_ cs1_ cs2_ x1_ x2_ y_ args_ hr1_ hr2_ hy_ ha_=>?_⟩
   obtain rfl : cs1_ = [_]:=hr1_
   obtain rfl : cs2_ = [_]:=hr2_
   obtain rfl:=args_of (b:=#[I x1_,I x2_]) ha_
   exact i_ClauseOf_1_c (a:=x1_) (b:=x2_) hs_  hy_
 refine L_call rfl Try.call91 (ops2 rfl rfl) (slices_SortFunc_int_c (x:=x58) (cmp:=i_ClauseOf_1) s77 hf80 hx73) ?_
 rintro _ w81 ⟨rfl,Z⟩
 have Z:=k79 Z (co closed_int c0)
 refine ns (L_bld rfl (parts1 rfl) (bld_43_1 (I 1) rfl) (L_al (cs:=#[S0,I 0]) rfl Try.zeroValue43 rfl Z (fun g85 w86 Z=>L_staB (vs:=#[S0,I 1]) (cs2:=#[S0,I 1]) 0 rfl Try.sizeOf43 rfl rfl rfl (ones_cons rfl (ones_cons rfl ones_nil)) Z rfl (by show 0 + 2≤2; decide) rfl (fun w87 Z=>nq (W_seq ?_)))))
 obtain ⟨x93,hx93,hF⟩:=bind_some hF
 refine W_region (mV r66_0 rfl ?_)
 have Z:=Z.get 1 rfl
 obtain ⟨H96b,l97,s98,z99,k100⟩:=Z.lend [_]
 refine L_call rfl Try.call94 (ops1 rfl) (slices_Compact_int_c (x_:=x73) s98 hx93) ?_
 rintro r101_0 w101 ⟨_,rfl,Z⟩
 have Z:=k100 Z (co closed_int c0)
 refine L_len rfl Try.underlying65 rfl (Star.len 0 Z rfl) (mI rfl (nn ?_))
 have hlen106 : List.length x93≤9223372036854775807:=len_le (Star.len 0 Z rfl)
 obtain ⟨j106,hL106,hF⟩:=bind_some hF
 obtain ⟨R106,hR106⟩:=exR fun f w_=>∃ g85_0_104 : List Term,∃ v104_g85_0 : Value,j106 = .nx g85_0_104∧f 2 = Pt g3∧f 7 = Pt g85∧Star H w_ ([oF 112 rTerm v104_g85_0 g85_0_104,box g85 43 #[v104_g85_0,I 1],box g3 43 #[S0,I 0]])
 refine W_join R106 ?_ ?_
 refine W_block ?_
 obtain ⟨I106,hI106⟩:=exI fun n f w_=>∃ i_103 : Nat,∃ suf106 : List Int,∃ g85_0_104 : List Term,∃ v104_g85_0 : Value,n = suf106.length∧List.drop i_103 x93 = suf106∧i_103 + suf106.length = x93.length∧rangeL i_ClauseOf_b2 suf106 i_103 g85_0_104 = some j106∧f 2 = Pt g3∧f 7 = Pt g85∧f 37 = r101_0∧f 38 = I (x93.length : Int)∧f 39 = I i_103∧Star H w_ ([oF 3 RP.int r101_0 x93,oF 112 rTerm v104_g85_0 g85_0_104,box g85 43 #[v104_g85_0,I 1],box g3 43 #[S0,I 0]])
 have Z:=Star.addNil (R:=(OR.frz rTerm)) (e:=112) Z
 have Z:=Z.gets [3,3,2,3] rfl
 refine W_loop I106 (n:=x93.length) ?_ ?_
 exact ij hI106 ⟨0,x93,[],S0,rfl,rfl,Nat.zero_add _,hL106,sf2,rfl,rfl,rfl,rfl,Z⟩
 intro n106 f w_ hI
 obtain ⟨i_103,suf106,g85_0_104,v104_g85_0,rfl,hd106,hl106,hL106,sf2,sf7,sf37,sf38,sf39,Z⟩:=ik hI106 hI
 refine sq (L_lss rfl sf39 sf38 (nq (W_cond (b:=decide ((i_103 : Int) < (x93.length : Int))) rfl (fun hc108=>?_) (fun hc108=>?_))))
 have hlt106:=of_decide_eq_true hc108
 rcases suf106 with _ | ⟨x_106,rest106⟩
 exact absurd hlt106 (by simp at hl106; omega)
 obtain ⟨o106,hB106,hL106⟩:=range_cons hL106
 rw [i_ClauseOf_b2] at hB106
 have hix106:=drop_idx hd106
 refine W_skip (W_seq (W_block (sq ?_)))
 obtain ⟨g113,cap_g113,hv114,_,_⟩:=Star.row 0 Z rfl hix106
 refine L_ixO (R:=(OR.frz RP.int)) (tb:=0) 0 rfl Try.underlying65 Try.sizeOf3 sf37 hv114 (by first | rfl | simp) sf39 hix106 ?_
 obtain ⟨cs115,hr115,hat115⟩:=Star.eltF 0 Z rfl hv114 hix106
 obtain rfl : _ = [_]:=hr115
 refine L_ld rfl Try.isAgg3 rfl (At.cell hat115 (j:=0) rfl) (aI rfl (nn ?_))
 obtain ⟨x120,hx120,hB106⟩:=bind_some hB106
 refine W_region (fA 0 fa_43_0 sf7 rfl (ldB 2 Z Try.isAgg41 rfl rfl rfl (mI rfl (L_bld rfl (parts2 rfl rfl) (bld_112_0_1 (I 1) (I x_106) rfl rfl) (L_bs rfl (parts1 rfl) (bs_41_1_2 (I 1) (I x_106) ) Z (fun g125 w126 Z=>?_))))))
 have Z:=Star.addF (r:=rTerm) (cs:=[I 1,I x_106]) (x:=({ coef:=1,lit:=x_106 } : Term)) Z (rTerm_iff.2 rfl)
 have Z:=Star.mkRow (R:=(OR.frz rTerm)) [([I 1,I x_106],({ coef:=1,lit:=x_106 } : Term))] [({ coef:=1,lit:=x_106 } : Term)] 1 Z rfl rfl rfl (by decide)
 have Z:=Z.get 2 rfl
 refine L_appM (v:=v104_g85_0) (u:=(Sl g125 1 1)) rfl et_41 rfl rfl Z hx120 (fun v128 w129 Z=>fA 0 fa_43_0 sf7 rfl (L_stB (v:=v128) (cs2:=#[v128,I 1]) 2 rfl Try.sizeOf41 rfl rfl (one_len (Star.len 0 Z rfl)) Z rfl rfl rfl (fun w131 Z=>nn (W_region (L_add rfl sf39 rfl (mI rfl (nn ?_)))))))
 obtain rfl:=so hB106
 have Z:=Z.gets [3,1,2,3] rfl
 show ∃ m,m < _∧I106 m _ _
 refine ⟨rest106.length,by simp,?_⟩
 exact ij hI106 ⟨i_103 + 1,rest106,x120,v128,rfl,drop_next hd106,by simp at hl106; omega,hL106,sf2,sf7,sf37,sf38,(Eq.trans rfl (congrArg (Value.int .i64) (i64_succ (n:=x93.length) (by simp at hl106; omega) hlen106))),Z⟩
 rcases suf106 with _ | ⟨_,_⟩
 obtain rfl:=range_nil hL106
 refine W_exit ?_
 have Z:=Z.gets [3,3,3] rfl
 exact rj hR106 ⟨g85_0_104,v104_g85_0,rfl,sf2,sf7,(Star.keepN 3 Z)⟩
 exact absurd (of_decide_eq_false hc108) (by simp at hl106; omega)
 intro f w_ hR
 obtain ⟨g85_0_104,v104_g85_0,rfl,sf2,sf7,Z⟩:=rk hR106 hR
 refine sq (L_lda (cs:=[v104_g85_0,I 1]) rfl Try.isAgg43 Try.sizeOf43 sf7 (At.sub0 (Blk.at (Star.blkAt 1 Z rfl)) 0 2) rfl (L_staB (vs:=#[v104_g85_0,I 1]) (cs2:=#[v104_g85_0,I 1]) 2 rfl Try.sizeOf43 sf2 rfl rfl (ones_cons (one_len (Star.len 0 Z rfl)) (ones_cons rfl ones_nil)) Z rfl (by show 0 + 2≤2; decide) rfl (fun w133 Z=>aB rfl (nn (W_ret (retG2 (v1:=.agg #[v104_g85_0,I 1]) (v2:=Bo true) Try.results46 (resV_agg Try.isAgg43 Try.sizeOf43 sf2 (Star.blkAt 0 Z rfl) rfl) rfl ?_))))))
 obtain rfl:=so hF
 have Z:=Z.get 1 rfl
 exact ⟨v104_g85_0,rfl,(Star.keepN 1 Z)⟩
theorem slices_Clone_implTerm_c {s : List Term} {v0 : Value} {H : FH} {w : World} (Z : Star H w []) (h0 : (rS 112 rTerm).rel H [v0] s) {r : List Term} (hF : slices_Clone_implTerm s = some r) :
 C Try.prog 145 #[v0] w fun v w'=>∃ (u1 : Value),v = u1∧Star H w' [oF 112 rTerm u1 r]:=by
 unfold slices_Clone_implTerm at hF
 refine C_enter Try.func145 rfl Try.ntmps145 rfl (sq (aV S0 rfl (nq (sq (mV v0 rfl ?_)))))
 obtain ⟨a1,cap1,hsl1,_,_⟩:=(slice_len h0)
 refine L_nileq (a:=a1) rfl Try.underlying41 (Eq.trans rfl hsl1) rfl ?_
 rw [← hsl1]
 refine nn ?_
 rcases Bool.eq_false_or_eq_true (isNilS v0) with hn2 | hn2
 refine W_cond (b:=true) (Eq.trans rfl (congrArg Value.bool hn2)) (fun _=>?_) (fun h=>nomatch h)
 obtain rfl:=nil_of h0 hn2
 refine sq (aV S0 rfl (nn (W_ret (retG1 (v1:=S0) Try.results145 rfl ?_))))
 simp [app] at hF
 subst hF
 have Z:=Star.addNil (R:=(OR.frz rTerm)) (e:=112) Z
 exact ⟨S0,rfl,Z⟩
 refine W_cond (b:=false) (Eq.trans rfl (congrArg Value.bool hn2)) (fun h=>nomatch h) (fun _=>?_)
 refine W_skip (W_seq ?_)
 obtain ⟨x7,hx7,hF⟩:=bind_some hF
 refine W_region (L_bs rfl parts0 (bs_41_0  ) Z (fun g11 w12 Z=>?_))
 have Z:=Star.mkRow (R:=(OR.frz rTerm)) [] [] 0 Z rfl rfl rfl (by decide)
 refine mV v0 rfl (L_app (v:=(Sl g11 0 0)) (u:=v0) rfl et_41 rfl rfl Z h0 hx7 (fun v14 w15 Z=>aV v14 rfl (nn (W_ret (retG1 (v1:=v14) Try.results145 rfl ?_)))))
 obtain rfl:=so hF
 exact ⟨v14,rfl,Z⟩
theorem i_Constraint_own_c {c : Con} {v0_0 : Value} {H : FH} {w : World} (Z : Star H w []) (h0_0 : (rS 112 rTerm).rel H [v0_0] c.terms) {r : Con} (hF : i_Constraint_own c = some r) :
 C Try.prog 127 #[.agg #[v0_0,I c.bound]] w fun v w'=>∃ (u1 : Value),v = .agg #[u1,I r.bound]∧Star H w' [oF 112 rTerm u1 r.terms]:=by
 unfold i_Constraint_own at hF
 refine C_enter Try.func127 rfl Try.ntmps127 rfl (sq (L_box (v:=.agg #[v0_0,I c.bound]) (cs:=#[v0_0,I c.bound]) rfl rfl rfl Z (fun g5 w6 Z=>L_al (cs:=#[S0,I 0]) rfl Try.zeroValue43 rfl Z (fun g7 w8 Z=>nq ?_))))
 obtain ⟨x14,hx14,hF⟩:=bind_some hF
 refine W_region (fA 0 fa_43_0 rfl rfl (ldB 1 Z Try.isAgg41 rfl rfl rfl ?_))
 obtain ⟨H18b,l19,s20,z21,k22⟩:=Z.borrow
 refine L_call rfl Try.call145 (ops1 rfl) (slices_Clone_implTerm_c (s:=c.terms) s20 (RP.mono _ h0_0 l19) hx14) ?_
 rintro r23_0 w23 ⟨_,rfl,Z⟩
 have Z:=k22 Z (co closed_term c0)
 refine fA 0 fa_43_0 rfl rfl (L_stB (v:=r23_0) (cs2:=#[r23_0,I c.bound]) 2 rfl Try.sizeOf41 rfl rfl (one_len (Star.len 0 Z rfl)) Z rfl rfl rfl (fun w25 Z=>ns (L_lda (cs:=[r23_0,I c.bound]) rfl Try.isAgg43 Try.sizeOf43 rfl (At.sub0 (Blk.at (Star.blkAt 0 Z rfl)) 0 2) rfl (L_staB (vs:=#[r23_0,I c.bound]) (cs2:=#[r23_0,I c.bound]) 2 rfl Try.sizeOf43 rfl rfl rfl (ones_cons (one_len (Star.len 1 Z rfl)) (ones_cons rfl ones_nil)) Z rfl (by show 0 + 2≤2; decide) rfl (fun w27 Z=>nn (W_ret (retG1 (v1:=.agg #[r23_0,I c.bound]) Try.results127 (resV_agg Try.isAgg43 Try.sizeOf43 rfl (Star.blkAt 0 Z rfl) rfl) ?_)))))))
 obtain rfl:=so hF
 have Z:=Z.get 2 rfl
 exact ⟨r23_0,rfl,(Star.keepN 1 Z)⟩
theorem s_ClauseOf_c {lits : List Int} {v0 : Value} {H : FH} {w : World} (Z : Star H w []) (h0 : (rS 3 RP.int).rel H [v0] lits) {r : Con × Bool} (hF : s_ClauseOf lits = some r) :
 C Try.prog 47 #[v0] w fun v w'=>∃ (u1 : Value),v = .tuple #[.agg #[u1,I r.1.bound],Bo r.2]∧Star H w' [oF 112 rTerm u1 r.1.terms]:=by
 unfold s_ClauseOf at hF
 refine C_enter Try.func47 rfl Try.ntmps47 rfl (sq (L_al (cs:=#[S0,I 0]) rfl Try.zeroValue43 rfl Z (fun g3 w4 Z=>aB rfl (nq ?_))))
 obtain ⟨x5,hx5,hF⟩:=bind_some hF
 refine W_region (L_mk (R:=(OR.frz RP.int)) (z0:=0) (zc:=[I 0]) rfl et_65 (by kernel_rfl) (fun _ _=>⟨rfl,rfl⟩) rfl rfl hx5 Z (fun v9 w10 Z=>aV v9 rfl (nq (sq (mV v0 rfl (L_len rfl Try.underlying65 rfl (slice_len h0) (L_gtr rfl rfl rfl (nn (W_cond (b:=decide ((lits.length : Int) > 40)) rfl (fun hc12=>?_) (fun hc12=>?_))))))))))
 have hF:=(ite_t hc12).symm.trans hF
 refine sq (L_bld rfl (parts0 ) (bld_43_  ) (L_staB (vs:=#[S0,I 0]) (cs2:=#[S0,I 0]) 1 rfl Try.sizeOf43 rfl rfl rfl (ones_cons rfl (ones_cons rfl ones_nil)) Z rfl (by show 0 + 2≤2; decide) rfl (fun w14 Z=>aB rfl (nn (W_ret (retG2 (v1:=.agg #[S0,I 0]) (v2:=Bo false) Try.results47 (resV_agg Try.isAgg43 Try.sizeOf43 rfl (Star.blkAt 0 Z rfl) rfl) rfl ?_))))))
 obtain rfl:=so hF
 have Z:=Star.addNil (R:=(OR.frz rTerm)) (e:=112) Z
 exact ⟨S0,rfl,(Star.keepN 1 Z)⟩
 have hF:=(ite_f hc12).symm.trans hF
 refine W_skip (W_seq (sq (aI rfl (nn ?_))))
 have hlen20 : List.length lits≤9223372036854775807:=len_le (slice_len h0)
 obtain ⟨j20,hL20,hF⟩:=bind_some hF
 obtain ⟨R20,hR20⟩:=exR fun f w_=>∃ seen_17 : List Int,∃ H18 : FH,j20 = .nx seen_17∧Le H H18∧f 2 = Pt g3∧f 4 = v9∧Star H18 w_ ([oF 3 RP.int v9 seen_17,box g3 43 #[S0,I 0]])
 refine W_join R20 ?_ ?_
 refine W_block ?_
 obtain ⟨I20,hI20⟩:=exI fun n f w_=>∃ i_16 : Nat,∃ suf20 : List Int,∃ seen_17 : List Int,∃ H18 : FH,n = suf20.length∧List.drop i_16 lits = suf20∧i_16 + suf20.length = lits.length∧rangeL s_ClauseOf_b1 suf20 i_16 seen_17 = some j20∧Le H H18∧f 0 = v0∧f 2 = Pt g3∧f 4 = v9∧f 5 = I i_16∧Star H18 w_ ([oF 3 RP.int v9 seen_17,box g3 43 #[S0,I 0]])
 refine W_loop I20 (n:=lits.length) ?_ ?_
 exact ij hI20 ⟨0,lits,x5,H,rfl,rfl,Nat.zero_add _,hL20,(Le.refl _),rfl,rfl,rfl,rfl,Z⟩
 intro n20 f w_ hI
 obtain ⟨i_16,suf20,seen_17,H18,rfl,hd20,hl20,hL20,l19,sf0,sf2,sf4,sf5,Z⟩:=ik hI20 hI
 refine W_seq (sq (mF sf5 rfl (mF sf0 rfl (L_len rfl Try.underlying65 rfl (slice_len (RP.mono _ h0 l19)) (L_lss rfl rfl rfl (nn (W_cond (b:=decide ((i_16 : Int) < (lits.length : Int))) rfl (fun hc21=>?_) (fun hc21=>?_))))))))
 have hlt20:=of_decide_eq_true hc21
 rcases suf20 with _ | ⟨x_20,rest20⟩
 exact absurd hlt20 (by simp at hl20; omega)
 obtain ⟨o20,hB20,hL20⟩:=range_cons hL20
 rw [s_ClauseOf_b1] at hB20
 have hix20:=drop_idx hd20
 refine W_skip (W_seq (W_block (W_seq (W_seq ?_))))
 obtain ⟨x31,hx31,hB20⟩:=bind_some hB20
 refine W_region (mF sf0 rfl (mF sf5 rfl (L_ix (r:=RP.int) rfl Try.underlying65 Try.sizeOf3 rfl (RP.mono _ h0 l19) rfl hix20 (fun g33 o34 cs_g33 hrk_hat35 hat35=>?_))))
 obtain rfl : _ = [_]:=hrk_hat35
 refine L_ld rfl Try.isAgg3 rfl (At.cell (AtH.at hat35 Z.sub) (j:=0) rfl) ?_
 obtain ⟨H37b,l38,s39,z40,k41⟩:=Z.borrow
 refine L_call rfl Try.call95 (ops1 rfl) (s_l1Lit_c (n_:=x_20) s39 hx31) ?_
 rintro _ w42 ⟨rfl,Z⟩
 have Z:=k41 Z c0
 refine L_not_ rfl rfl (nn (W_cond (b:=(!x31)) rfl (fun hc43=>?_) (fun hc43=>?_)))
 have hB20:=(ite_t hc43).symm.trans hB20
 refine sq (L_bld rfl (parts0 ) (bld_43_  ) (L_staB (vs:=#[S0,I 0]) (cs2:=#[S0,I 0]) 1 rfl Try.sizeOf43 sf2 rfl rfl (ones_cons rfl (ones_cons rfl ones_nil)) Z rfl (by show 0 + 2≤2; decide) rfl (fun w45 Z=>aB rfl (nn (W_ret (retG2 (v1:=.agg #[S0,I 0]) (v2:=Bo false) Try.results47 (resV_agg Try.isAgg43 Try.sizeOf43 sf2 (Star.blkAt 0 Z rfl) rfl) rfl ?_))))))
 obtain rfl:=so hB20
 obtain rfl:=so hL20
 obtain rfl:=so hF
 have Z:=Star.addNil (R:=(OR.frz rTerm)) (e:=112) Z
 exact ⟨S0,rfl,(Star.down (Star.keepN 1 Z) l19 (co closed_term c0))⟩
 have hB20:=(ite_f hc43).symm.trans hB20
 refine W_skip (W_seq ?_)
 obtain ⟨x56,hx56,hB20⟩:=bind_some hB20
 refine W_region (mF sf0 rfl (mF sf5 rfl (L_ix (r:=RP.int) rfl Try.underlying65 Try.sizeOf3 rfl (RP.mono _ h0 l19) rfl hix20 (fun g58 o59 cs_g58 hrk_hat60 hat60=>?_))))
 obtain rfl : _ = [_]:=hrk_hat60
 refine L_ld rfl Try.isAgg3 rfl (At.cell (AtH.at hat60 Z.sub) (j:=0) rfl) ?_
 obtain ⟨H62b,l63,s64,z65,k66⟩:=Z.borrow
 refine L_call rfl Try.call96 (ops1 rfl) (s_l1Abs_c (n_:=x_20) s64 hx56) ?_
 rintro _ w67 ⟨rfl,Z⟩
 have Z:=k66 Z c0
 refine aI rfl (nq (W_seq ?_))
 obtain ⟨x68,hx68,hB20⟩:=bind_some hB20
 obtain ⟨g78,cap_g78,hv79,_,_⟩:=Star.row 0 Z rfl hx68
 refine W_drawS 9 [isV (v9),isV (I x56),isV (.pointer (some ⟨g78,Int.toNat x56 * 1,none⟩)),isV (I x68),isV (v0),isV (I i_16),isEl RP.int x_20 0,isV (I x_20),isV (I (i64 (-x_20)))] [oF 3 RP.int v9 seen_17,box g3 43 #[S0,I 0]] [] ([]) [([],[]),([],[]),([],[]),([],[]),([],[]),([],[]),([],[]),([],[]),([],[])] (S:=[]) Try_mix (by kernel_rfl) rfl (by kernel_rfl) (amF_cons (mono_V _) (amF_cons (mono_V _) (amF_cons (mono_V _) (amF_cons (mono_V _) (amF_cons (mono_V _) (amF_cons (mono_V _) (amF_cons (mono_el _ _ _) (amF_cons (mono_V _) (amF_cons (mono_V _) amF_nil))))))))) Z ?_ (fun f w_ H77 hS77 hE77 hT77 Z=>?_)
 refine opsS_cons (fun f w_ _ _ s _ _ Z=>mF ((s 4 rfl).trans sf4) rfl (nO rfl rfl Z)) (opsS_cons (fun f w_ _ _ s _ _ Z=>mF ((s 6 rfl).trans rfl) rfl (nO rfl rfl Z)) (opsS_cons (fun f w_ _ _ _ _ p Z=>L_ixO (R:=(OR.frz RP.int)) (tb:=0) 0 rfl Try.underlying65 Try.sizeOf3 (p 0 32 rfl rfl) hv79 (by first | rfl | simp) (p 1 33 rfl rfl) hx68 (nO rfl rfl Z)) (opsS_cons ?_ ?_)))
 intro f w_ H77 X77 hS77 hE77 hP77 Z
 obtain ⟨cs86,hr86,hat86⟩:=Star.eltF 0 Z rfl hv79 hx68
 obtain rfl : _ = [_]:=hr86
 refine L_ld rfl Try.isAgg3 (hP77 2 34 rfl rfl) (At.cell hat86 (j:=0) rfl) (L_nil ⟨rfl,_,_,rfl,Le.refl _,fun _ _=>rfl,Z⟩)
 refine opsS_cons (fun f w_ _ _ s _ _ Z=>mF ((s 0 rfl).trans sf0) rfl (nO rfl rfl Z)) (opsS_cons (fun f w_ _ _ s _ _ Z=>mF ((s 5 rfl).trans sf5) rfl (nO rfl rfl Z)) (opsS_cons ?_ ?_))
 intro f w_ H77 X77 hS77 hE77 hP77 Z
 refine L_ix (r:=RP.int) rfl Try.underlying65 Try.sizeOf3 (hP77 4 36 rfl rfl) (RP.mono _ h0 (Le.trans l19 hE77)) (hP77 5 37 rfl rfl) hix20 (fun g88 o89 cs_g88 hrk_hat90 hat90=>?_)
 obtain rfl : _ = [_]:=hrk_hat90
 exact L_nil ⟨rfl,_,_,rfl,Le.refl _,fun _ _=>⟨_,_,_,rfl,rfl,hat90⟩,Z⟩
 refine opsS_cons ?_ ?_
 intro f w_ H77 X77 hS77 hE77 hP77 Z
 obtain ⟨g92,o92,cs92,hv92,hrk_hat92,hat92⟩:=(hP77 6 38 rfl rfl)
 obtain rfl : _ = [_]:=hrk_hat92
 refine L_ld rfl Try.isAgg3 hv92 (At.cell (AtH.at hat92 Z.sub) (j:=0) rfl) (L_nil ⟨rfl,_,_,rfl,Le.refl _,fun _ _=>rfl,Z⟩)
 refine opsS_cons (fun f w_ _ _ _ _ p Z=>L_neg rfl (p 7 39 rfl rfl) (nO rfl rfl Z)) (opsS_nil)
 refine L_eql rfl (hT77 3 35 rfl rfl) (hT77 8 40 rfl rfl) (nn (W_cond (b:=(x68 == (i64 (-x_20)))) rfl (fun hc94=>?_) (fun hc94=>?_)))
 have hB20:=(ite_t hc94).symm.trans hB20
 refine sq (L_bld rfl (parts0 ) (bld_43_  ) (L_staB (vs:=#[S0,I 0]) (cs2:=#[S0,I 0]) 1 rfl Try.sizeOf43 ((hS77 2 rfl).trans sf2) rfl rfl (ones_cons rfl (ones_cons rfl ones_nil)) Z rfl (by show 0 + 2≤2; decide) rfl (fun w96 Z=>aB rfl (nn (W_ret (retG2 (v1:=.agg #[S0,I 0]) (v2:=Bo false) Try.results47 (resV_agg Try.isAgg43 Try.sizeOf43 ((hS77 2 rfl).trans sf2) (Star.blkAt 0 Z rfl) rfl) rfl ?_))))))
 obtain rfl:=so hB20
 obtain rfl:=so hL20
 obtain rfl:=so hF
 have Z:=Star.addNil (R:=(OR.frz rTerm)) (e:=112) Z
 exact ⟨S0,rfl,(Star.down (Star.keepN 1 Z) (Le.trans l19 hE77) (co closed_term c0))⟩
 have hB20:=(ite_f hc94).symm.trans hB20
 refine W_skip (W_region (mF ((hS77 4 rfl).trans sf4) rfl (mF ((hS77 6 rfl).trans rfl) rfl (mF ((hS77 0 rfl).trans sf0) rfl (mF ((hS77 5 rfl).trans sf5) rfl (L_ix (r:=RP.int) rfl Try.underlying65 Try.sizeOf3 rfl (RP.mono _ h0 (Le.trans l19 hE77)) rfl hix20 (fun g103 o104 cs_g103 hrk_hat105 hat105=>?_)))))))
 obtain rfl : _ = [_]:=hrk_hat105
 refine L_ld rfl Try.isAgg3 rfl (At.cell (AtH.at hat105 Z.sub) (j:=0) rfl) (L_ixO (R:=(OR.frz RP.int)) (tb:=0) 0 rfl Try.underlying65 Try.sizeOf3 rfl hv79 (by first | rfl | simp) rfl hx68 ?_)
 have Z:=Star.addF (r:=RP.int) (cs:=[I x_20]) (x:=x_20) Z rfl
 refine L_stE1 (u:=I x_20) rfl Try.sizeOf3 rfl rfl rfl hv79 Z hx68 (fun w107 Z=>?_)
 refine nn (W_region (mF ((hS77 5 rfl).trans sf5) rfl (L_add rfl rfl rfl (aI rfl (nn ?_)))))
 obtain rfl:=so hB20
 show ∃ m,m < _∧I20 m _ _
 refine ⟨rest20.length,by simp,?_⟩
 exact ij hI20 ⟨i_16 + 1,rest20,(seen_17.set (Int.toNat x56) x_20),H77,rfl,drop_next hd20,by simp at hl20; omega,hL20,(Le.trans l19 hE77),((hS77 0 rfl).trans sf0),((hS77 2 rfl).trans sf2),((hS77 4 rfl).trans sf4),(Eq.trans rfl (congrArg (Value.int .i64) (i64_succ (n:=lits.length) (by simp at hl20; omega) hlen20))),Z⟩
 rcases suf20 with _ | ⟨_,_⟩
 obtain rfl:=range_nil hL20
 refine W_exit (rj hR20 ⟨seen_17,H18,rfl,l19,sf2,sf4,Z⟩)
 exact absurd (of_decide_eq_false hc21) (by simp at hl20; omega)
 intro f w_ hR
 obtain ⟨seen_17,H18,rfl,l19,sf2,sf4,Z⟩:=rk hR20 hR
 refine sq (L_bld rfl (parts1 rfl) (bld_43_1 (I 1) rfl) (L_al (cs:=#[S0,I 0]) rfl Try.zeroValue43 rfl Z (fun g111 w112 Z=>L_staB (vs:=#[S0,I 1]) (cs2:=#[S0,I 1]) 0 rfl Try.sizeOf43 rfl rfl rfl (ones_cons rfl (ones_cons rfl ones_nil)) Z rfl (by show 0 + 2≤2; decide) rfl (fun w113 Z=>nq (sq (aI rfl (nn ?_)))))))
 obtain ⟨k120,hk120,hF⟩:=bind_some hF
 obtain ⟨j119,hL119,hF⟩:=bind_some hF
 obtain ⟨R119,hR119⟩:=exR fun f w_=>∃ g111_0_115 : List Term,∃ H117 : FH,∃ v115_g111_0 : Value,j119 = .nx g111_0_115∧Le H18 H117∧f 2 = Pt g3∧f 7 = Pt g111∧Star H117 w_ ([oF 112 rTerm v115_g111_0 g111_0_115,box g111 43 #[v115_g111_0,I 1],box g3 43 #[S0,I 0]])
 refine W_join R119 ?_ ?_
 refine W_block ?_
 obtain ⟨I119,hI119⟩:=exI fun n f w_=>∃ i_114 : Nat,∃ suf119 : Nat,∃ g111_0_115 : List Term,∃ H117 : FH,∃ v115_g111_0 : Value,suf119 = n∧1≤i_114∧i_114 + suf119 = 1 + k120∧countL (s_ClauseOf_b2 seen_17) suf119 i_114 g111_0_115 = some j119∧Le H18 H117∧f 2 = Pt g3∧f 4 = v9∧f 7 = Pt g111∧f 8 = I i_114∧Star H117 w_ ([oF 3 RP.int v9 seen_17,oF 112 rTerm v115_g111_0 g111_0_115,box g111 43 #[v115_g111_0,I 1],box g3 43 #[S0,I 0]])
 have Z:=Star.addNil (R:=(OR.frz rTerm)) (e:=112) Z
 have Z:=Z.gets [3,2,2,3] rfl
 refine W_loop I119 (n:=k120) ?_ ?_
 exact ij hI119 ⟨1,k120,[],H18,S0,rfl,Nat.le_refl _,rfl,hL119,(Le.refl _),sf2,sf4,rfl,rfl,Z⟩
 intro n119 f w_ hI
 obtain ⟨i_114,suf119,g111_0_115,H117,v115_g111_0,rfl,hs119,hl119,hL119,l118,sf2,sf4,sf7,sf8,Z⟩:=ik hI119 hI
 refine W_seq (sq (mF sf8 rfl (L_leq rfl rfl rfl (nn (W_cond (b:=decide ((i_114 : Int)≤12)) rfl (fun hc122=>?_) (fun hc122=>?_))))))
 have hlt119:=of_decide_eq_true hc122
 rcases suf119 with _ | rest119
 exact absurd hlt119 (cntF_noL hl119 hk120)
 obtain ⟨o119,hB119,hL119⟩:=count_succ hL119
 rw [s_ClauseOf_b2] at hB119
 refine W_skip (W_seq (W_block (W_seq ?_)))
 obtain ⟨x123,hx123,hB119⟩:=bind_some hB119
 refine W_region (mF sf4 rfl (mF sf8 rfl ?_))
 obtain ⟨g128,cap_g128,hv129,_,_⟩:=Star.row 0 Z rfl hx123
 refine L_ixO (R:=(OR.frz RP.int)) (tb:=0) 0 rfl Try.underlying65 Try.sizeOf3 rfl hv129 (by first | rfl | simp) rfl hx123 ?_
 obtain ⟨cs130,hr130,hat130⟩:=Star.eltF 0 Z rfl hv129 hx123
 obtain rfl : _ = [_]:=hr130
 refine L_ld rfl Try.isAgg3 rfl (At.cell hat130 (j:=0) rfl) (L_neq rfl rfl rfl (nn ?_))
 obtain ⟨g111_0_132,hA136,hB119⟩:=bind_some hB119
 obtain ⟨R136,hR136⟩:=exR fun f w_=>∃ H134 : FH,∃ v132_g111_0 : Value,Le H117 H134∧f 2 = Pt g3∧f 4 = v9∧f 7 = Pt g111∧f 8 = I i_114∧Star H134 w_ ([oF 3 RP.int v9 seen_17,oF 112 rTerm v132_g111_0 g111_0_132,box g111 43 #[v132_g111_0,I 1],box g3 43 #[S0,I 0]])
 refine W_join R136 ?_ ?_
 refine W_cond (b:=(x123 != 0)) rfl (fun hc137=>?_) (fun hc137=>?_)
 have hA136:=(ite_t hc137).symm.trans hA136
 obtain ⟨x143,hx143,hA136⟩:=bind_some hA136
 refine W_drawS 8 [isV (Pt g111),isV (v115_g111_0),isV (v9),isV (I i_114),isV (.pointer (some ⟨g128,Int.toNat (i_114 : Int) * 1,none⟩)),isV (I x123),isV (.agg #[I 1,I x123]),anyF] [oF 3 RP.int v9 seen_17,oF 112 rTerm v115_g111_0 g111_0_115,box g111 43 #[v115_g111_0,I 1],box g3 43 #[S0,I 0]] [.made 7 67 (fun v_=>oF 112 rTerm v_ ([({ coef:=1,lit:=x123 } : Term)])) none] ([]) [([],[]),([],[]),([],[]),([],[]),([],[]),([],[]),([],[]),([],[0])] (S:=[(some 7,[67],none)]) Try_mix (by kernel_rfl) rfl (by kernel_rfl) (amF_cons (mono_V _) (amF_cons (mono_V _) (amF_cons (mono_V _) (amF_cons (mono_V _) (amF_cons (mono_V _) (amF_cons (mono_V _) (amF_cons (mono_V _) (amF_cons (mono_any) amF_nil)))))))) Z ?_ (fun f w_ H148 hS148 hE148 hT148 Z=>?_)
 refine opsS_cons (fun f w_ _ _ s _ _ Z=>fA 0 fa_43_0 ((s 7 rfl).trans sf7) rfl (nO rfl rfl Z)) (opsS_cons (fun f w_ _ _ _ _ p Z=>ldB 2 Z Try.isAgg41 (p 0 60 rfl rfl) rfl rfl (nO rfl rfl Z)) (opsS_cons (fun f w_ _ _ s _ _ Z=>mF ((s 4 rfl).trans sf4) rfl (nO rfl rfl Z)) (opsS_cons (fun f w_ _ _ s _ _ Z=>mF ((s 8 rfl).trans sf8) rfl (nO rfl rfl Z)) (opsS_cons (fun f w_ _ _ _ _ p Z=>L_ixO (R:=(OR.frz RP.int)) (tb:=0) 0 rfl Try.underlying65 Try.sizeOf3 (p 2 62 rfl rfl) hv129 (by first | rfl | simp) (p 3 63 rfl rfl) hx123 (nO rfl rfl Z)) (opsS_cons ?_ ?_)))))
 intro f w_ H148 X148 hS148 hE148 hP148 Z
 obtain ⟨cs154,hr154,hat154⟩:=Star.eltF 0 Z rfl hv129 hx123
 obtain rfl : _ = [_]:=hr154
 refine L_ld rfl Try.isAgg3 (hP148 4 64 rfl rfl) (At.cell hat154 (j:=0) rfl) (L_nil ⟨rfl,_,_,rfl,Le.refl _,fun _ _=>rfl,Z⟩)
 refine opsS_cons (fun f w_ _ _ _ _ p Z=>L_bld rfl (parts2 rfl (p 5 65 rfl rfl)) (bld_112_0_1 (I 1) (I x123) rfl rfl) (nO rfl rfl Z)) (opsS_cons ?_ ?_)
 intro f w_ H148 X148 hS148 hE148 hP148 Z
 refine L_bs rfl (parts1 (hP148 6 66 rfl rfl)) (bs_41_1_2 (I 1) (I x123) ) Z (fun g156 w157 Z=>?_)
 have Z:=Star.addF (r:=rTerm) (cs:=[I 1,I x123]) (x:=({ coef:=1,lit:=x123 } : Term)) Z (rTerm_iff.2 rfl)
 have Z:=Star.mkRow (R:=(OR.frz rTerm)) [([I 1,I x123],({ coef:=1,lit:=x123 } : Term))] [({ coef:=1,lit:=x123 } : Term)] 1 Z rfl rfl rfl (by decide)
 have Z:=Z.gets [4,4,4,4] rfl
 exact L_nil ⟨rfl,_,_,rfl,Le.refl _,fun _ _=>trivial,Z⟩
 exact opsS_nil
 have Z : Star H148 w_ ([oF 3 RP.int v9 seen_17,oF 112 rTerm v115_g111_0 g111_0_115,box g111 43 #[v115_g111_0,I 1],box g3 43 #[S0,I 0],oF 112 rTerm (f 67) ([({ coef:=1,lit:=x123 } : Term)])]):=Z
 have Z:=Z.gets [4,2] rfl
 refine L_appM (v:=v115_g111_0) (u:=(f 67)) rfl et_41 (hT148 1 61 rfl rfl) rfl Z hx143 (fun v160 w161 Z=>fA 0 fa_43_0 ((hS148 7 rfl).trans sf7) rfl (L_stB (v:=v160) (cs2:=#[v160,I 1]) 2 rfl Try.sizeOf41 rfl rfl (one_len (Star.len 0 Z rfl)) Z rfl rfl rfl (fun w163 Z=>nn ?_)))
 obtain rfl:=so hA136
 have Z:=Z.gets [3,1,2,3] rfl
 exact rj hR136 ⟨H148,v160,hE148,((hS148 2 rfl).trans sf2),((hS148 4 rfl).trans sf4),((hS148 7 rfl).trans sf7),((hS148 8 rfl).trans sf8),Z⟩
 have hA136:=(ite_f hc137).symm.trans hA136
 refine W_skip ?_
 obtain rfl:=so hA136
 exact rj hR136 ⟨H117,v115_g111_0,(Le.refl _),sf2,sf4,sf7,sf8,Z⟩
 intro f w_ hR
 obtain ⟨H134,v132_g111_0,l135,sf2,sf4,sf7,sf8,Z⟩:=rk hR136 hR
 refine W_region (mF sf8 rfl (L_add rfl rfl rfl (aI rfl (nn ?_))))
 obtain rfl:=so hB119
 show ∃ m,m < _∧I119 m _ _
 refine ⟨rest119,Nat.lt_succ_self _,?_⟩
 exact ij hI119 ⟨i_114 + 1,rest119,g111_0_132,H134,v132_g111_0,rfl,by omega,by omega,hL119,(Le.trans l118 l135),sf2,sf4,sf7,(Eq.trans rfl (congrArg (Value.int .i64) (i64_succ (n:=1 + k120) (by omega) (cntF_le hk120)))),Z⟩
 rcases suf119 with _ | _
 obtain rfl:=count_zero hL119
 refine W_exit ?_
 have Z:=Z.gets [3,3,3] rfl
 exact rj hR119 ⟨g111_0_115,H117,v115_g111_0,rfl,l118,sf2,sf7,(Star.keepN 3 Z)⟩
 exact absurd (cntF_yesL hs119 hl119 hk120) (of_decide_eq_false hc122)
 intro f w_ hR
 obtain ⟨g111_0_115,H117,v115_g111_0,rfl,l118,sf2,sf7,Z⟩:=rk hR119 hR
 refine sq (L_lda (cs:=[v115_g111_0,I 1]) rfl Try.isAgg43 Try.sizeOf43 sf7 (At.sub0 (Blk.at (Star.blkAt 1 Z rfl)) 0 2) rfl (L_staB (vs:=#[v115_g111_0,I 1]) (cs2:=#[v115_g111_0,I 1]) 2 rfl Try.sizeOf43 sf2 rfl rfl (ones_cons (one_len (Star.len 0 Z rfl)) (ones_cons rfl ones_nil)) Z rfl (by show 0 + 2≤2; decide) rfl (fun w165 Z=>aB rfl (nn (W_ret (retG2 (v1:=.agg #[v115_g111_0,I 1]) (v2:=Bo true) Try.results47 (resV_agg Try.isAgg43 Try.sizeOf43 sf2 (Star.blkAt 0 Z rfl) rfl) rfl ?_))))))
 obtain rfl:=so hF
 have Z:=Z.get 1 rfl
 exact ⟨v115_g111_0,rfl,(Star.down (Star.keepN 1 Z) (Le.trans l19 l118) (co closed_term c0))⟩
theorem slices_Equal_implTerm_c {s1 : List Term} {s2 : List Term} {v0 : Value} {v1 : Value} {H : FH} {w : World} (Z : Star H w []) (h0 : (rS 112 rTerm).rel H [v0] s1) (h1 : (rS 112 rTerm).rel H [v1] s2) {r : Bool} (hF : slices_Equal_implTerm s1 s2 = some r) :
 C Try.prog 97 #[v0,v1] w fun v w'=>v = Bo r∧Star H w' []:=by
 unfold slices_Equal_implTerm at hF
 refine C_enter Try.func97 rfl Try.ntmps97 rfl (sq (aB rfl (nq (sq (mV v0 rfl (L_len rfl Try.underlying41 rfl (slice_len h0) (mV v1 rfl (L_len rfl Try.underlying41 rfl (slice_len h1) (L_neq rfl rfl rfl (nn (W_cond (b:=((s1.length : Int) != (s2.length : Int))) rfl (fun hc1=>?_) (fun hc1=>?_))))))))))))
 have hF:=(ite_t hc1).symm.trans hF
 refine sq (aB rfl (nn (W_ret (retG1 (v1:=Bo false) Try.results97 rfl ?_))))
 obtain rfl:=so hF
 exact ⟨rfl,Z⟩
 have hF:=(ite_f hc1).symm.trans hF
 refine W_skip (W_seq (sq (mV v0 rfl (L_len rfl Try.underlying41 rfl (slice_len h0) (mI rfl (nn ?_))))))
 have hlen5 : List.length s1≤9223372036854775807:=len_le (slice_len h0)
 obtain ⟨j5,hL5,hF⟩:=bind_some hF
 obtain ⟨R5,hR5⟩:=exR fun f w_=>∃ H3 : FH,j5 = .nx ()∧Le H H3∧Star H3 w_ ([])
 refine W_join R5 ?_ ?_
 refine W_block ?_
 obtain ⟨I5,hI5⟩:=exI fun n f w_=>∃ i_2 : Nat,∃ suf5 : List Term,∃ H3 : FH,n = suf5.length∧List.drop i_2 s1 = suf5∧i_2 + suf5.length = s1.length∧rangeL (slices_Equal_implTerm_b1 s2) suf5 i_2 () = some j5∧Le H H3∧f 0 = v0∧f 1 = v1∧f 12 = I (s1.length : Int)∧f 13 = I i_2∧Star H3 w_ ([])
 refine W_loop I5 (n:=s1.length) ?_ ?_
 exact ij hI5 ⟨0,s1,H,rfl,rfl,Nat.zero_add _,hL5,(Le.refl _),rfl,rfl,rfl,rfl,Z⟩
 intro n5 f w_ hI
 obtain ⟨i_2,suf5,H3,rfl,hd5,hl5,hL5,l4,sf0,sf1,sf12,sf13,Z⟩:=ik hI5 hI
 refine sq (L_lss rfl sf13 sf12 (nq (W_cond (b:=decide ((i_2 : Int) < (s1.length : Int))) rfl (fun hc6=>?_) (fun hc6=>?_))))
 have hlt5:=of_decide_eq_true hc6
 rcases suf5 with _ | ⟨x_5,rest5⟩
 exact absurd hlt5 (by simp at hl5; omega)
 obtain ⟨o5,hB5,hL5⟩:=range_cons hL5
 rw [slices_Equal_implTerm_b1] at hB5
 have hix5:=drop_idx hd5
 refine W_skip (W_seq (W_block (sq (mF sf13 rfl (aI rfl (nq ?_))))))
 obtain ⟨x11,hx11,hB5⟩:=bind_some hB5
 refine W_drawS 8 [isV (v0),isV (I i_2),isEl rTerm x_5 0,isV (.agg #[I x_5.coef,I x_5.lit]),isV (v1),isV (I i_2),isEl rTerm x11 0,isV (.agg #[I x11.coef,I x11.lit])] [] [] ([]) [([],[]),([],[]),([],[]),([],[]),([],[]),([],[]),([],[]),([],[])] (S:=[]) Try_mix (by kernel_rfl) rfl (by kernel_rfl) (amF_cons (mono_V _) (amF_cons (mono_V _) (amF_cons (mono_el _ _ _) (amF_cons (mono_V _) (amF_cons (mono_V _) (amF_cons (mono_V _) (amF_cons (mono_el _ _ _) (amF_cons (mono_V _) amF_nil)))))))) Z ?_ (fun f w_ H16 hS16 hE16 hT16 Z=>?_)
 refine opsS_cons (fun f w_ _ _ s _ _ Z=>mF ((s 0 rfl).trans sf0) rfl (nO rfl rfl Z)) (opsS_cons (fun f w_ _ _ s _ _ Z=>mF ((s 5 rfl).trans rfl) rfl (nO rfl rfl Z)) (opsS_cons ?_ ?_))
 intro f w_ H16 X16 hS16 hE16 hP16 Z
 refine L_ix (r:=rTerm) rfl Try.underlying41 Try.sizeOf112 (hP16 0 16 rfl rfl) (RP.mono _ h0 (Le.trans l4 hE16)) (hP16 1 17 rfl rfl) hix5 (fun g25 o26 cs_g25 hrk_hat27 hat27=>?_)
 obtain rfl:=rTerm_iff.1 hrk_hat27
 exact L_nil ⟨rfl,_,_,rfl,Le.refl _,fun _ _=>⟨_,_,_,rfl,hrk_hat27,hat27⟩,Z⟩
 refine opsS_cons ?_ ?_
 intro f w_ H16 X16 hS16 hE16 hP16 Z
 obtain ⟨g29,o29,cs29,hv29,hrk_hat29,hat29⟩:=(hP16 2 18 rfl rfl)
 obtain rfl:=rTerm_iff.1 hrk_hat29
 refine L_lda (cs:=[I x_5.coef,I x_5.lit]) rfl Try.isAgg112 Try.sizeOf112 hv29 (At.sub (AtH.at hat29 Z.sub) 0 2) rfl (L_nil ⟨rfl,_,_,rfl,Le.refl _,fun _ _=>rfl,Z⟩)
 refine opsS_cons (fun f w_ _ _ s _ _ Z=>mF ((s 1 rfl).trans sf1) rfl (nO rfl rfl Z)) (opsS_cons (fun f w_ _ _ s _ _ Z=>mF ((s 5 rfl).trans rfl) rfl (nO rfl rfl Z)) (opsS_cons ?_ ?_))
 intro f w_ H16 X16 hS16 hE16 hP16 Z
 refine L_ix (r:=rTerm) rfl Try.underlying41 Try.sizeOf112 (hP16 4 20 rfl rfl) (RP.mono _ h1 (Le.trans l4 hE16)) (hP16 5 21 rfl rfl) hx11 (fun g31 o32 cs_g31 hrk_hat33 hat33=>?_)
 obtain rfl:=rTerm_iff.1 hrk_hat33
 exact L_nil ⟨rfl,_,_,rfl,Le.refl _,fun _ _=>⟨_,_,_,rfl,hrk_hat33,hat33⟩,Z⟩
 refine opsS_cons ?_ ?_
 intro f w_ H16 X16 hS16 hE16 hP16 Z
 obtain ⟨g35,o35,cs35,hv35,hrk_hat35,hat35⟩:=(hP16 6 22 rfl rfl)
 obtain rfl:=rTerm_iff.1 hrk_hat35
 refine L_lda (cs:=[I x11.coef,I x11.lit]) rfl Try.isAgg112 Try.sizeOf112 hv35 (At.sub (AtH.at hat35 Z.sub) 0 2) rfl (L_nil ⟨rfl,_,_,rfl,Le.refl _,fun _ _=>rfl,Z⟩)
 exact opsS_nil
 refine L_tneq (x1:=x_5.coef) (x2:=x_5.lit) (y1:=x11.coef) (y2:=x11.lit) rfl termEq_112 (hT16 3 19 rfl rfl) (hT16 7 23 rfl rfl) (nn (W_cond (b:=(!(x_5 == x11))) rfl (fun hc37=>?_) (fun hc37=>?_)))
 have hB5:=(ite_t hc37).symm.trans hB5
 refine sq (aB rfl (nn (W_ret (retG1 (v1:=Bo false) Try.results97 rfl ?_))))
 obtain rfl:=so hB5
 obtain rfl:=so hL5
 obtain rfl:=so hF
 exact ⟨rfl,(Star.down Z (Le.trans l4 hE16) c0)⟩
 have hB5:=(ite_f hc37).symm.trans hB5
 refine W_skip (W_region (L_add rfl ((hS16 13 rfl).trans sf13) rfl (mI rfl (nn ?_))))
 obtain rfl:=so hB5
 show ∃ m,m < _∧I5 m _ _
 refine ⟨rest5.length,by simp,?_⟩
 exact ij hI5 ⟨i_2 + 1,rest5,H16,rfl,drop_next hd5,by simp at hl5; omega,hL5,(Le.trans l4 hE16),((hS16 0 rfl).trans sf0),((hS16 1 rfl).trans sf1),((hS16 12 rfl).trans sf12),(Eq.trans rfl (congrArg (Value.int .i64) (i64_succ (n:=s1.length) (by simp at hl5; omega) hlen5))),Z⟩
 rcases suf5 with _ | ⟨_,_⟩
 obtain rfl:=range_nil hL5
 refine W_exit (rj hR5 ⟨H3,rfl,l4,Z⟩)
 exact absurd (of_decide_eq_false hc6) (by simp at hl5; omega)
 intro f w_ hR
 obtain ⟨H3,rfl,l4,Z⟩:=rk hR5 hR
 refine sq (aB rfl (nn (W_ret (retG1 (v1:=Bo true) Try.results97 rfl ?_))))
 obtain rfl:=so hF
 exact ⟨rfl,(Star.down Z l4 c0)⟩
theorem i_ConstraintSame_c {a : Con} {b : Con} {v0_0 : Value} {v1_0 : Value} {H : FH} {w : World} (Z : Star H w []) (h0_0 : (rS 112 rTerm).rel H [v0_0] a.terms) (h1_0 : (rS 112 rTerm).rel H [v1_0] b.terms) {r : Bool} (hF : i_ConstraintSame a b = some r) :
 C Try.prog 48 #[.agg #[v0_0,I a.bound],.agg #[v1_0,I b.bound]] w fun v w'=>v = Bo r∧Star H w' []:=by
 unfold i_ConstraintSame at hF
 refine C_enter Try.func48 rfl Try.ntmps48 rfl (sq (L_box (v:=.agg #[v0_0,I a.bound]) (cs:=#[v0_0,I a.bound]) rfl rfl rfl Z (fun g5 w6 Z=>L_box (v:=.agg #[v1_0,I b.bound]) (cs:=#[v1_0,I b.bound]) rfl rfl rfl Z (fun g7 w8 Z=>aB rfl (nq ?_)))))
 obtain ⟨b16,hb16,hF⟩:=bind_some hF
 obtain ⟨R17,hR17⟩:=exR fun f w_=>f 4 = Bo b16∧Star H w_ ([])
 refine W_join R17 ?_ ?_
 refine W_region (fA 1 fa_43_1 rfl rfl (ldB 1 Z Try.isAgg3 rfl rfl rfl (fA 1 fa_43_1 rfl rfl (ldB 0 Z Try.isAgg3 rfl rfl rfl (L_eql rfl rfl rfl (mB rfl (L_split (d:=10) (b:=(a.bound == b.bound)) rfl (fun hc18=>?_) (fun hc18=>?_))))))))
 rw [ite_t hc18] at hb16
 obtain ⟨x14,hx14,hb16⟩:=bind_some hb16
 refine fA 0 fa_43_0 rfl rfl (ldB 1 Z Try.isAgg41 rfl rfl rfl (fA 0 fa_43_0 rfl rfl (ldB 0 Z Try.isAgg41 rfl rfl rfl ?_)))
 obtain ⟨H19b,l20,s21,z22,k23⟩:=Z.borrow
 refine L_call rfl Try.call97 (ops2 rfl rfl) (slices_Equal_implTerm_c (s1:=a.terms) (s2:=b.terms) s21 (RP.mono _ h0_0 l20) (RP.mono _ h1_0 l20) hx14) ?_
 rintro _ w24 ⟨rfl,Z⟩
 have Z:=k23 Z c0
 refine L_pick (v:=Bo b16) rfl rfl (congrArg Value.bool (so hb16)) (aB rfl (nn (rj hR17 ⟨rfl,(Star.keepN 0 Z)⟩)))
 rw [ite_f hc18] at hb16
 refine ps rfl (ps rfl (ps rfl (ps rfl (ps rfl (L_pick (v:=Bo b16) rfl rfl (congrArg Value.bool (so hb16)) (aB rfl (nn (rj hR17 ⟨rfl,(Star.keepN 0 Z)⟩))))))))
 intro f w_ hR
 obtain ⟨sf4,Z⟩:=rk hR17 hR
 refine W_ret (retG1 (v1:=Bo b16) Try.results48 sf4 ?_)
 obtain rfl:=so hF
 exact ⟨rfl,Z⟩
theorem s_DrawClauseOf_c {fu : Nat} {code : List UInt8} {v0 : Value} {H : FH} {w : World} (Z : Star H w []) (h0 : (rS 5 RP.u8).rel H [v0] code) {r : List Int} (hF : s_DrawClauseOf fu code = some r) :
 C Try.prog 45 #[v0] w fun v w'=>∃ (u1 : Value),v = u1∧Star H w' [oF 3 RP.int u1 r]:=by
 unfold s_DrawClauseOf at hF
 refine C_enter Try.func45 rfl Try.ntmps45 rfl (sq (aV S0 rfl (nq ?_)))
 obtain ⟨x1,hx1,hF⟩:=bind_some hF
 refine W_region (mV v0 rfl (L_call rfl Try.call53 (ops1 rfl) (s_l17Open_c (code:=code) Z h0 hx1) ?_))
 rintro _ w3 ⟨H3,l3,r3_0,r3_1,rfl,hr3_1,Z⟩
 refine aV (Pt r3_0) rfl (ns (L_bs rfl parts0 (bs_65_0  ) Z (fun g7 w8 Z=>?_)))
 have Z:=Star.mkRow (R:=(OR.frz RP.int)) [] [] 0 Z rfl rfl rfl (by decide)
 refine aV (Sl g7 0 0) rfl (nq (W_seq ?_))
 obtain ⟨x19,hx19,hF⟩:=bind_some hF
 refine W_region (mV (Pt r3_0) rfl (L_bs rfl (parts6 rfl rfl rfl rfl rfl rfl) (bs_65_6_0_0_0_0_0_0 (I 3) (I 2) (I 4) (I 1) (I 0) (I 6) rfl rfl rfl rfl rfl rfl) Z (fun g21 w22 Z=>?_)))
 have Z:=litInts [3,2,4,1,0,6] 6 Z rfl rfl (by decide)
 have Z:=Z.get 2 rfl
 obtain ⟨H24b,l25,s26,z27,k28⟩:=Z.lend [_]
 have hb29 : (rS 3 RP.int).rel H24b [(Sl g21 6 6)] ([3,2,4,1,0,6]):=fz_own 0 z27 rfl
 refine L_call rfl Try.call87 (ops2 rfl rfl) (s_l17Rd_num_c (r_:=x1) (list:=[3,2,4,1,0,6]) s26 (RP.mono _ hr3_1 l25) hb29 hx19) ?_
 rintro _ w30 ⟨rfl,Z⟩
 have Z:=k28 Z (cb c0)
 refine aI rfl (nn ?_)
 obtain ⟨j36,hL36,hF⟩:=bind_some hF
 obtain ⟨R36,hR36⟩:=exR fun f w_=>∃ out_32 : List Int,∃ i_34 : Int,∃ r3_0_1_35 : Int,∃ v32_out : Value,j36 = .nx (out_32,i_34,r3_0_1_35)∧f 3 = Pt r3_0∧f 4 = v32_out∧Star H3 w_ ([oF 3 RP.int v32_out out_32,box r3_0 119 #[r3_1,I r3_0_1_35]])
 refine W_join R36 ?_ ?_
 refine W_block ?_
 obtain ⟨I36,hI36⟩:=exI fun n f w_=>∃ out_32 : List Int,∃ i_34 : Int,∃ r3_0_1_35 : Int,∃ v32_out : Value,whileL (s_DrawClauseOf_b1 x1) n (out_32,i_34,r3_0_1_35) = some j36∧f 3 = Pt r3_0∧f 4 = v32_out∧f 5 = I i_34∧Star H3 w_ ([oF 3 RP.int v32_out out_32,box r3_0 119 #[r3_1,I r3_0_1_35]])
 have Z:=Z.get 2 rfl
 refine W_loop I36 (n:=fu) ?_ ?_
 exact ij hI36 ⟨[],x19.1,x19.2,(Sl g7 0 0),hL36,rfl,rfl,rfl,(Star.keepN 2 Z)⟩
 intro n36 f w_ hI
 obtain ⟨out_32,i_34,r3_0_1_35,v32_out,hL36,sf3,sf4,sf5,Z⟩:=ik hI36 hI
 rcases n36 with _ | n36
 exact (while_zero hL36).elim
 obtain ⟨o36,hB36,hL36⟩:=while_succ hL36
 rw [s_DrawClauseOf_b1] at hB36
 refine W_seq (sq (mF sf5 rfl (L_gtr rfl rfl rfl (nn (W_cond (b:=decide (i_34 > 0)) rfl (fun hc37=>?_) (fun hc37=>?_))))))
 have hB36:=(ite_t hc37).symm.trans hB36
 refine W_skip (W_seq (W_block ?_))
 obtain ⟨x47,hx47,hB36⟩:=bind_some hB36
 obtain ⟨x52,hx52,hB36⟩:=bind_some hB36
 refine W_region (mF sf4 rfl (mF sf3 rfl (L_bs rfl (parts9 rfl rfl rfl rfl rfl rfl rfl rfl rfl) (bs_65_9_0_0_0_0_0_0_0_0_0 (I 1) (I (-2)) (I 3) (I 2) (I (-1)) (I 4) (I 12) (I (-5)) (I 6) rfl rfl rfl rfl rfl rfl rfl rfl rfl) Z (fun g56 w57 Z=>?_))))
 have Z:=litInts [1,(-2),3,2,(-1),4,12,(-5),6] 9 Z rfl rfl (by decide)
 have Z:=Z.get 2 rfl
 obtain ⟨H59b,l60,s61,z62,k63⟩:=Z.lend [_]
 have hb64 : (rS 3 RP.int).rel H59b [(Sl g56 9 9)] ([1,(-2),3,2,(-1),4,12,(-5),6]):=fz_own 0 z62 rfl
 refine L_call rfl Try.call87 (ops2 rfl rfl) (s_l17Rd_num_c (r_:=({ b:=x1.b,p:=r3_0_1_35 } : Rd)) (list:=[1,(-2),3,2,(-1),4,12,(-5),6]) s61 (RP.mono _ hr3_1 l60) hb64 hx47) ?_
 rintro _ w65 ⟨rfl,Z⟩
 have Z:=k63 Z (cb c0)
 refine L_bs rfl (parts1 rfl) (bs_65_1_0 (I x47.1) rfl) Z (fun g66 w67 Z=>?_)
 have Z:=Star.addF (r:=RP.int) (cs:=[I x47.1]) (x:=x47.1) Z rfl
 have Z:=Star.mkRow (R:=(OR.frz RP.int)) [([I x47.1],x47.1)] [x47.1] 1 Z rfl rfl rfl (by decide)
 have Z:=Z.get 3 rfl
 refine L_appM (v:=v32_out) (u:=(Sl g66 1 1)) rfl et_65 rfl rfl Z hx52 (fun v69 w70 Z=>aV v69 rfl (nn (W_region (mF sf5 rfl (L_sub rfl rfl rfl (aI rfl (nn ?_)))))))
 obtain rfl:=so hB36
 show ∃ m,m < _∧I36 m _ _
 refine ⟨n36,Nat.lt_succ_self _,?_⟩
 exact ij hI36 ⟨x52,i64 (i_34 - 1),x47.2,v69,hL36,sf3,rfl,rfl,(Star.keepN 2 Z)⟩
 have hB36:=(ite_f hc37).symm.trans hB36
 refine W_exit ?_
 obtain rfl:=so hB36
 obtain rfl:=so hL36
 exact rj hR36 ⟨out_32,i_34,r3_0_1_35,v32_out,rfl,sf3,sf4,Z⟩
 intro f w_ hR
 obtain ⟨out_32,i_34,r3_0_1_35,v32_out,rfl,sf3,sf4,Z⟩:=rk hR36 hR
 refine W_seq (W_seq ?_)
 obtain ⟨b79,hb79,hF⟩:=bind_some hF
 obtain ⟨R80,hR80⟩:=exR fun f w_=>f 3 = Pt r3_0∧f 4 = v32_out∧f 29 = Bo b79.1∧Star H3 w_ ([oF 3 RP.int v32_out out_32,box r3_0 119 #[r3_1,I b79.2]])
 refine W_join R80 ?_ ?_
 refine W_region (mF sf4 rfl (L_len rfl Try.underlying65 rfl (Star.len 0 Z rfl) (L_gtr rfl rfl rfl (mB rfl (L_split (d:=25) (b:=decide ((out_32.length : Int) > 0)) rfl (fun hc81=>?_) (fun hc81=>?_))))))
 rw [ite_t hc81] at hb79
 obtain ⟨x77,hx77,hb79⟩:=bind_some hb79
 refine mF sf3 rfl ?_
 have Z:=Z.get 1 rfl
 obtain ⟨H82b,l83,s84,z85,k86⟩:=Z.lend [_]
 refine L_call rfl Try.call57 (ops2 rfl rfl) (s_l17Rd_pick_c (r_:=({ b:=x1.b,p:=r3_0_1_35 } : Rd)) (n_:=20) s84 (RP.mono _ hr3_1 l83) hx77) ?_
 rintro _ w87 ⟨rfl,Z⟩
 have Z:=k86 Z (cb c0)
 refine L_eql rfl rfl rfl (L_pick (v:=Bo b79.1) rfl rfl (congrArg (fun z : Bool × Int=>Value.bool z.1) (so hb79)) ?_)
 have Z : Star H3 w87 ([box r3_0 119 #[r3_1,I b79.2],oF 3 RP.int v32_out out_32]):=by rw [← so hb79]; exact Z
 refine nn ?_
 have Z:=Z.get 1 rfl
 exact rj hR80 ⟨sf3,sf4,rfl,Z⟩
 rw [ite_f hc81] at hb79
 refine ps rfl (ps rfl (ps rfl (L_pick (v:=Bo b79.1) rfl rfl (congrArg (fun z : Bool × Int=>Value.bool z.1) (so hb79)) ?_)))
 have Z:=Z.get 1 rfl
 have Z : Star H3 w_ ([box r3_0 119 #[r3_1,I b79.2],oF 3 RP.int v32_out out_32]):=by rw [← so hb79]; exact Z
 refine nn ?_
 have Z:=Z.get 1 rfl
 exact rj hR80 ⟨sf3,sf4,rfl,Z⟩
 intro f w_ hR
 obtain ⟨sf3,sf4,sf29,Z⟩:=rk hR80 hR
 obtain ⟨out_88,hA89,hF⟩:=bind_some hF
 obtain ⟨R89,hR89⟩:=exR fun f w_=>f 4 = v32_out∧Star H3 w_ ([oF 3 RP.int v32_out out_88])
 refine W_join R89 ?_ ?_
 refine W_cond (b:=b79.1) sf29 (fun hc90=>?_) (fun hc90=>?_)
 have hA89:=(ite_t hc90).symm.trans hA89
 obtain ⟨x100,hx100,hA89⟩:=bind_some hA89
 obtain ⟨x102,hx102,hA89⟩:=bind_some hA89
 refine W_region (mF sf4 rfl (mF sf3 rfl (L_bs rfl (parts3 rfl rfl rfl) (bs_65_3_0_0_0 (I 0) (I 13) (I (-9223372036854775808)) rfl rfl rfl) Z (fun g106 w107 Z=>?_))))
 have Z:=litInts [0,13,(-9223372036854775808)] 3 Z rfl rfl (by decide)
 have Z:=Z.get 2 rfl
 obtain ⟨H109b,l110,s111,z112,k113⟩:=Z.lend [_]
 have hb114 : (rS 3 RP.int).rel H109b [(Sl g106 3 3)] ([0,13,(-9223372036854775808)]):=fz_own 0 z112 rfl
 refine L_call rfl Try.call87 (ops2 rfl rfl) (s_l17Rd_num_c (r_:=({ b:=x1.b,p:=b79.2 } : Rd)) (list:=[0,13,(-9223372036854775808)]) s111 (RP.mono _ hr3_1 l110) hb114 hx100) ?_
 rintro _ w115 ⟨rfl,Z⟩
 have Z:=k113 Z (cb c0)
 obtain ⟨g116,cap_g116,hv117,_,_⟩:=Star.row 2 Z rfl hx102
 refine L_ixO (R:=(OR.frz RP.int)) (tb:=0) 0 rfl Try.underlying65 Try.sizeOf3 rfl hv117 (by first | rfl | simp) rfl hx102 ?_
 have Z:=Star.addF (r:=RP.int) (cs:=[I x100.1]) (x:=x100.1) Z rfl
 have Z:=Z.gets [3,1] rfl
 refine L_stE1 (u:=I x100.1) rfl Try.sizeOf3 rfl rfl rfl hv117 Z hx102 (fun w118 Z=>?_)
 refine nn ?_
 obtain rfl:=so hA89
 exact rj hR89 ⟨sf4,(Star.keepN 1 Z)⟩
 have hA89:=(ite_f hc90).symm.trans hA89
 refine W_skip ?_
 obtain rfl:=so hA89
 exact rj hR89 ⟨sf4,(Star.keepN 1 Z)⟩
 intro f w_ hR
 obtain ⟨sf4,Z⟩:=rk hR89 hR
 refine sq (mF sf4 rfl (aV v32_out rfl (nn (W_ret (retG1 (v1:=v32_out) Try.results45 rfl ?_)))))
 obtain rfl:=so hF
 exact ⟨v32_out,rfl,(Star.down Z l3 (co closed_int c0))⟩
theorem i_Constraint_valid_c {c : Con} {v0_0 : Value} {H : FH} {w : World} {R : List Ass} (Z : Star H w R) (h0_0 : (rS 112 rTerm).rel H [v0_0] c.terms) {r : Con × Bool} (hF : i_Constraint_valid c = some r) :
 C Try.prog 125 #[.agg #[v0_0,I c.bound]] w fun v w'=>∃ H' : FH,Le H H'∧∃ (u1 : Value),v = .tuple #[.agg #[u1,I r.1.bound],Bo r.2]∧(rS 112 rTerm).rel H' [u1] r.1.terms∧Star H' w' (R):=by
 unfold i_Constraint_valid at hF
 refine C_enter Try.func125 rfl Try.ntmps125 rfl (sq (L_box (v:=.agg #[v0_0,I c.bound]) (cs:=#[v0_0,I c.bound]) rfl rfl rfl Z (fun g5 w6 Z=>L_al (cs:=#[S0,I 0]) rfl Try.zeroValue43 rfl Z (fun g7 w8 Z=>aB rfl (nq (W_seq ?_))))))
 obtain ⟨x14,hx14,hF⟩:=bind_some hF
 refine W_region (L_lda (cs:=[v0_0,I c.bound]) rfl Try.isAgg43 Try.sizeOf43 rfl (At.sub0 (Blk.at (Star.blkAt 1 Z rfl)) 0 2) rfl ?_)
 obtain ⟨H16b,l17,s18,z19,k20⟩:=Z.borrow
 refine L_call rfl Try.call52 (ops1 rfl) (i_ConstraintValid_c (c:=c) s18 (RP.mono _ h0_0 l17) hx14) ?_
 rintro _ w21 ⟨rfl,Z⟩
 have Z:=k20 Z c0
 refine L_not_ rfl rfl (nn (W_cond (b:=(!x14)) rfl (fun hc22=>?_) (fun hc22=>?_)))
 have hF:=(ite_t hc22).symm.trans hF
 refine sq (L_bld rfl (parts0 ) (bld_43_  ) (L_staB (vs:=#[S0,I 0]) (cs2:=#[S0,I 0]) 0 rfl Try.sizeOf43 rfl rfl rfl (ones_cons rfl (ones_cons rfl ones_nil)) Z rfl (by show 0 + 2≤2; decide) rfl (fun w24 Z=>aB rfl (nn (W_ret (retG2 (v1:=.agg #[S0,I 0]) (v2:=Bo false) Try.results125 (resV_agg Try.isAgg43 Try.sizeOf43 rfl (Star.blkAt 0 Z rfl) rfl) rfl ?_))))))
 obtain rfl:=so hF
 have Z:=Star.drop 0 Z rfl
 have Z:=Star.drop 0 Z rfl
 exact ⟨H,(Le.refl _),S0,rfl,(rel_nil _ _ _),Z⟩
 have hF:=(ite_f hc22).symm.trans hF
 refine W_skip (sq (L_lda (cs:=[v0_0,I c.bound]) rfl Try.isAgg43 Try.sizeOf43 rfl (At.sub0 (Blk.at (Star.blkAt 1 Z rfl)) 0 2) rfl (L_staB (vs:=#[v0_0,I c.bound]) (cs2:=#[v0_0,I c.bound]) 0 rfl Try.sizeOf43 rfl rfl rfl (ones_cons (one_len (slice_len h0_0)) (ones_cons rfl ones_nil)) Z rfl (by show 0 + 2≤2; decide) rfl (fun w26 Z=>aB rfl (nn (W_ret (retG2 (v1:=.agg #[v0_0,I c.bound]) (v2:=Bo true) Try.results125 (resV_agg Try.isAgg43 Try.sizeOf43 rfl (Star.blkAt 0 Z rfl) rfl) rfl ?_)))))))
 obtain rfl:=so hF
 have Z:=Star.drop 0 Z rfl
 have Z:=Star.drop 0 Z rfl
 exact ⟨H,(Le.refl _),v0_0,rfl,h0_0,Z⟩
theorem i_normal_c {terms : List Term} {bound : Int} {v0 : Value} {H : FH} {w : World} {R : List Ass} (Z : Star H w R) (h0 : (rS 112 rTerm).rel H [v0] terms) {r : Con × Bool} (hF : i_normal terms bound = some r) :
 C Try.prog 98 #[v0,I bound] w fun v w'=>∃ H' : FH,Le H H'∧∃ (u1 : Value),v = .tuple #[.agg #[u1,I r.1.bound],Bo r.2]∧(rS 112 rTerm).rel H' [u1] r.1.terms∧Star H' w' (R):=by
 unfold i_normal at hF
 refine C_enter Try.func98 rfl Try.ntmps98 rfl (sq (L_al (cs:=#[S0,I 0]) rfl Try.zeroValue43 rfl Z (fun g3 w4 Z=>aB rfl (ns (L_al (cs:=arrC (List.replicate 13 (0 : Int))) rfl Try.zeroValue141 rfl Z (fun g11 w12 Z=>?_))))))
 have Z:=Star.toArr (List.replicate 13 (0 : Int)) 13 rfl rfl Z
 refine nq (sq (mV v0 rfl (L_len rfl Try.underlying41 rfl (slice_len h0) (mI rfl (nn ?_)))))
 have hlen18 : List.length terms≤9223372036854775807:=len_le (slice_len h0)
 obtain ⟨j18,hL18,hF⟩:=bind_some hF
 obtain ⟨R18,hR18⟩:=exR fun f w_=>∃ bound_14 : Int,∃ ag11_15 : List Int,∃ H16 : FH,j18 = .nx (bound_14,ag11_15)∧Le H H16∧f 1 = I bound_14∧f 4 = Pt g3∧f 6 = Pt g11∧Star H16 w_ (arr g11 141 13 ag11_15 :: box g3 43 #[S0,I 0] :: R)
 refine W_join R18 ?_ ?_
 refine W_block ?_
 obtain ⟨I18,hI18⟩:=exI fun n f w_=>∃ i_13 : Nat,∃ suf18 : List Term,∃ bound_14 : Int,∃ ag11_15 : List Int,∃ H16 : FH,n = suf18.length∧List.drop i_13 terms = suf18∧i_13 + suf18.length = terms.length∧rangeL i_normal_b1 suf18 i_13 (bound_14,ag11_15) = some j18∧Le H H16∧f 1 = I bound_14∧f 4 = Pt g3∧f 6 = Pt g11∧f 12 = v0∧f 13 = I (terms.length : Int)∧f 14 = I i_13∧Star H16 w_ (arr g11 141 13 ag11_15 :: box g3 43 #[S0,I 0] :: R)
 refine W_loop I18 (n:=terms.length) ?_ ?_
 exact ij hI18 ⟨0,terms,bound,(List.replicate 13 (0 : Int)),H,rfl,rfl,Nat.zero_add _,hL18,(Le.refl _),rfl,rfl,rfl,rfl,rfl,rfl,Z⟩
 intro n18 f w_ hI
 obtain ⟨i_13,suf18,bound_14,ag11_15,H16,rfl,hd18,hl18,hL18,l17,sf1,sf4,sf6,sf12,sf13,sf14,Z⟩:=ik hI18 hI
 refine sq (L_lss rfl sf14 sf13 (nq (W_cond (b:=decide ((i_13 : Int) < (terms.length : Int))) rfl (fun hc19=>?_) (fun hc19=>?_))))
 have hlt18:=of_decide_eq_true hc19
 rcases suf18 with _ | ⟨x_18,rest18⟩
 exact absurd hlt18 (by simp at hl18; omega)
 obtain ⟨o18,hB18,hL18⟩:=range_cons hL18
 rw [i_normal_b1] at hB18
 have hix18:=drop_idx hd18
 refine W_skip (W_seq (W_block (sq (L_ix (r:=rTerm) rfl Try.underlying41 Try.sizeOf112 sf12 (RP.mono _ h0 l17) sf14 hix18 (fun g27 o28 cs_g27 hrk_hat29 hat29=>?_)))))
 obtain rfl:=rTerm_iff.1 hrk_hat29
 refine L_lda (cs:=[I x_18.coef,I x_18.lit]) rfl Try.isAgg112 Try.sizeOf112 rfl (At.sub (AtH.at hat29 Z.sub) 0 2) rfl (L_al (cs:=#[I 0,I 0]) rfl Try.zeroValue112 rfl Z (fun g31 w32 Z=>L_staB (vs:=#[I x_18.coef,I x_18.lit]) (cs2:=#[I x_18.coef,I x_18.lit]) 0 rfl Try.sizeOf112 rfl rfl rfl (ones_cons rfl (ones_cons rfl ones_nil)) Z rfl (by show 0 + 2≤2; decide) rfl (fun w33 Z=>ns (fA 1 fa_112_1 rfl rfl (ldB 0 Z Try.isAgg3 rfl rfl rfl (L_lss rfl rfl rfl (nn ?_)))))))
 obtain ⟨⟨bound_34,ag11_35⟩,hA38,hB18⟩:=bind_some hB18
 obtain ⟨R38,hR38⟩:=exR fun f w_=>∃ H36 : FH,Le H16 H36∧f 1 = I bound_34∧f 4 = Pt g3∧f 6 = Pt g11∧f 12 = v0∧f 13 = I (terms.length : Int)∧f 14 = I i_13∧Star H36 w_ (arr g11 141 13 ag11_35 :: box g3 43 #[S0,I 0] :: R)
 refine W_join R38 ?_ ?_
 refine W_cond (b:=decide (x_18.lit < 0)) rfl (fun hc39=>?_) (fun hc39=>?_)
 have hA38:=(ite_t hc39).symm.trans hA38
 refine sq (mF sf1 rfl (fA 0 fa_112_0 rfl rfl (ldB 0 Z Try.isAgg3 rfl rfl rfl (L_sub rfl rfl rfl (aI rfl (nn ?_))))))
 obtain ⟨x40,hx40,hA38⟩:=bind_some hA38
 refine W_drawS 7 [isV (Pq g31 1),isV (I x_18.lit),isV (I (i64 (-x_18.lit))),isV (.pointer (some ⟨g11,Int.toNat (i64 (-x_18.lit)) * 1,none⟩)),isV (I x40),isV (Pt g31),isV (I x_18.coef)] [box g31 112 #[I x_18.coef,I x_18.lit],arr g11 141 13 ag11_15,box g3 43 #[S0,I 0]] [] (R) [([],[]),([],[]),([],[]),([],[]),([],[]),([],[]),([],[])] (S:=[]) Try_mix (by kernel_rfl) rfl (by kernel_rfl) (amF_cons (mono_V _) (amF_cons (mono_V _) (amF_cons (mono_V _) (amF_cons (mono_V _) (amF_cons (mono_V _) (amF_cons (mono_V _) (amF_cons (mono_V _) amF_nil))))))) Z ?_ (fun f w_ H42 hS42 hE42 hT42 Z=>?_)
 refine opsS_cons (fun f w_ _ _ s _ _ Z=>fA 1 fa_112_1 ((s 8 rfl).trans rfl) rfl (nO rfl rfl Z)) (opsS_cons (fun f w_ _ _ _ _ p Z=>ldB 0 Z Try.isAgg3 (p 0 25 rfl rfl) rfl rfl (nO rfl rfl Z)) (opsS_cons (fun f w_ _ _ _ _ p Z=>L_neg rfl (p 1 26 rfl rfl) (nO rfl rfl Z)) (opsS_cons (fun f w_ _ _ s _ p Z=>L_ixA 1 rfl Try.underlying141 Try.sizeOf3 ((s 6 rfl).trans sf6) (p 2 27 rfl rfl) Z rfl hx40 (nO rfl rfl Z)) (opsS_cons (fun f w_ _ _ _ _ p Z=>L_ldA 1 rfl Try.isAgg3 (p 3 28 rfl rfl) Z rfl hx40 (nO rfl rfl Z)) (opsS_cons (fun f w_ _ _ s _ _ Z=>fA 0 fa_112_0 ((s 8 rfl).trans rfl) rfl (nO rfl rfl Z)) (opsS_cons (fun f w_ _ _ _ _ p Z=>ldB 0 Z Try.isAgg3 (p 5 30 rfl rfl) rfl rfl (nO rfl rfl Z)) (opsS_nil)))))))
 refine L_sub rfl (hT42 4 29 rfl rfl) (hT42 6 31 rfl rfl) (L_ixA 1 rfl Try.underlying141 Try.sizeOf3 ((hS42 6 rfl).trans sf6) (hT42 2 27 rfl rfl) Z rfl hx40 ?_)
 have Z:=Z.get 1 rfl
 refine L_stA rfl Try.sizeOf3 rfl rfl Z hx40 (fun w43 Z=>nn ?_)
 obtain ⟨rfl,rfl⟩:=so2 hA38
 have Z:=Z.gets [2,1] rfl
 have Z:=Star.drop 2 Z rfl
 exact rj hR38 ⟨H42,hE42,((hS42 1 rfl).trans rfl),((hS42 4 rfl).trans sf4),((hS42 6 rfl).trans sf6),((hS42 12 rfl).trans sf12),((hS42 13 rfl).trans sf13),((hS42 14 rfl).trans sf14),Z⟩
 have hA38:=(ite_f hc39).symm.trans hA38
 obtain ⟨x44,hx44,hA38⟩:=bind_some hA38
 refine W_drawS 6 [isV (Pq g31 1),isV (I x_18.lit),isV (.pointer (some ⟨g11,Int.toNat x_18.lit * 1,none⟩)),isV (I x44),isV (Pt g31),isV (I x_18.coef)] [box g31 112 #[I x_18.coef,I x_18.lit],arr g11 141 13 ag11_15,box g3 43 #[S0,I 0]] [] (R) [([],[]),([],[]),([],[]),([],[]),([],[]),([],[])] (S:=[]) Try_mix (by kernel_rfl) rfl (by kernel_rfl) (amF_cons (mono_V _) (amF_cons (mono_V _) (amF_cons (mono_V _) (amF_cons (mono_V _) (amF_cons (mono_V _) (amF_cons (mono_V _) amF_nil)))))) Z ?_ (fun f w_ H46 hS46 hE46 hT46 Z=>?_)
 refine opsS_cons (fun f w_ _ _ s _ _ Z=>fA 1 fa_112_1 ((s 8 rfl).trans rfl) rfl (nO rfl rfl Z)) (opsS_cons (fun f w_ _ _ _ _ p Z=>ldB 0 Z Try.isAgg3 (p 0 34 rfl rfl) rfl rfl (nO rfl rfl Z)) (opsS_cons (fun f w_ _ _ s _ p Z=>L_ixA 1 rfl Try.underlying141 Try.sizeOf3 ((s 6 rfl).trans sf6) (p 1 35 rfl rfl) Z rfl hx44 (nO rfl rfl Z)) (opsS_cons (fun f w_ _ _ _ _ p Z=>L_ldA 1 rfl Try.isAgg3 (p 2 36 rfl rfl) Z rfl hx44 (nO rfl rfl Z)) (opsS_cons (fun f w_ _ _ s _ _ Z=>fA 0 fa_112_0 ((s 8 rfl).trans rfl) rfl (nO rfl rfl Z)) (opsS_cons (fun f w_ _ _ _ _ p Z=>ldB 0 Z Try.isAgg3 (p 4 38 rfl rfl) rfl rfl (nO rfl rfl Z)) (opsS_nil))))))
 refine L_add rfl (hT46 3 37 rfl rfl) (hT46 5 39 rfl rfl) (L_ixA 1 rfl Try.underlying141 Try.sizeOf3 ((hS46 6 rfl).trans sf6) (hT46 1 35 rfl rfl) Z rfl hx44 ?_)
 have Z:=Z.get 1 rfl
 refine L_stA rfl Try.sizeOf3 rfl rfl Z hx44 (fun w47 Z=>nn ?_)
 obtain ⟨rfl,rfl⟩:=so2 hA38
 have Z:=Z.gets [2,1] rfl
 have Z:=Star.drop 2 Z rfl
 exact rj hR38 ⟨H46,hE46,((hS46 1 rfl).trans sf1),((hS46 4 rfl).trans sf4),((hS46 6 rfl).trans sf6),((hS46 12 rfl).trans sf12),((hS46 13 rfl).trans sf13),((hS46 14 rfl).trans sf14),Z⟩
 intro f w_ hR
 obtain ⟨H36,l37,sf1,sf4,sf6,sf12,sf13,sf14,Z⟩:=rk hR38 hR
 refine W_region (L_add rfl sf14 rfl (mI rfl (nn ?_)))
 obtain rfl:=so hB18
 show ∃ m,m < _∧I18 m _ _
 refine ⟨rest18.length,by simp,?_⟩
 exact ij hI18 ⟨i_13 + 1,rest18,bound_34,ag11_35,H36,rfl,drop_next hd18,by simp at hl18; omega,hL18,(Le.trans l17 l37),sf1,sf4,sf6,sf12,sf13,(Eq.trans rfl (congrArg (Value.int .i64) (i64_succ (n:=terms.length) (by simp at hl18; omega) hlen18))),Z⟩
 rcases suf18 with _ | ⟨_,_⟩
 obtain rfl:=range_nil hL18
 refine W_exit (rj hR18 ⟨bound_14,ag11_15,H16,rfl,l17,sf1,sf4,sf6,Z⟩)
 exact absurd (of_decide_eq_false hc19) (by simp at hl18; omega)
 intro f w_ hR
 obtain ⟨bound_14,ag11_15,H16,rfl,l17,sf1,sf4,sf6,Z⟩:=rk hR18 hR
 refine sq (L_bld rfl (parts0 ) (bld_43_  ) (L_al (cs:=#[S0,I 0]) rfl Try.zeroValue43 rfl Z (fun g51 w52 Z=>L_staB (vs:=#[S0,I 0]) (cs2:=#[S0,I 0]) 0 rfl Try.sizeOf43 rfl rfl rfl (ones_cons rfl (ones_cons rfl ones_nil)) Z rfl (by show 0 + 2≤2; decide) rfl (fun w53 Z=>nq (sq ?_)))))
 have hla55:=(Star.arrAt 1 Z rfl).2
 refine L_ldAA 1 rfl Try.isAgg141 Try.sizeOf141 sf6 Z rfl (mI rfl (nn ?_))
 obtain ⟨k61,hk61,hF⟩:=bind_some hF
 obtain ⟨j60,hL60,hF⟩:=bind_some hF
 obtain ⟨R60,hR60⟩:=exR fun f w_=>∃ bound_57 : Int,∃ g51_0_58 : List Term,∃ v58_g51_0 : Value,j60 = .nx (bound_57,g51_0_58)∧f 1 = I bound_57∧f 4 = Pt g3∧f 9 = Pt g51∧Star H16 w_ (oF 112 rTerm v58_g51_0 g51_0_58 :: box g51 43 #[v58_g51_0,I 0] :: box g3 43 #[S0,I 0] :: R)
 refine W_join R60 ?_ ?_
 refine W_block ?_
 obtain ⟨I60,hI60⟩:=exI fun n f w_=>∃ i_56 : Nat,∃ suf60 : Nat,∃ bound_57 : Int,∃ g51_0_58 : List Term,∃ v58_g51_0 : Value,suf60 = n∧0≤i_56∧i_56 + suf60 = 0 + k61∧countL (i_normal_b2 ag11_15) suf60 i_56 (bound_57,g51_0_58) = some j60∧f 1 = I bound_57∧f 4 = Pt g3∧f 9 = Pt g51∧f 44 = (.agg (arrC ag11_15))∧f 45 = I i_56∧Star H16 w_ (oF 112 rTerm v58_g51_0 g51_0_58 :: box g51 43 #[v58_g51_0,I 0] :: box g3 43 #[S0,I 0] :: R)
 have Z:=Star.addNil (R:=(OR.frz rTerm)) (e:=112) Z
 have Z:=Z.gets [3,2,2] rfl
 have Z:=Star.drop 3 Z rfl
 refine W_loop I60 (n:=k61) ?_ ?_
 exact ij hI60 ⟨0,k61,bound_14,[],S0,rfl,Nat.le_refl _,rfl,hL60,sf1,sf4,rfl,rfl,rfl,Z⟩
 intro n60 f w_ hI
 obtain ⟨i_56,suf60,bound_57,g51_0_58,v58_g51_0,rfl,hs60,hl60,hL60,sf1,sf4,sf9,sf44,sf45,Z⟩:=ik hI60 hI
 refine sq (L_lss rfl sf45 rfl (nq (W_cond (b:=decide ((i_56 : Int) < 13)) rfl (fun hc63=>?_) (fun hc63=>?_))))
 have hlt60:=of_decide_eq_true hc63
 rcases suf60 with _ | rest60
 exact absurd hlt60 (cntF_no hl60 hk61)
 obtain ⟨o60,hB60,hL60⟩:=count_succ hL60
 rw [i_normal_b2] at hB60
 refine W_skip (W_seq (W_block (W_seq ?_)))
 obtain ⟨x64,hx64,hB60⟩:=bind_some hB60
 refine W_region (mF sf45 rfl (L_ixV rfl Try.underlying141 Try.sizeOf3 Try.isAgg3 sf44 sf45 hla55 hx64 (aI rfl (aI rfl (nn (W_block (sq (mI rfl (L_gtr rfl rfl rfl (aB rfl (nn ?_)))))))))))
 obtain ⟨⟨bound_65,g51_0_66⟩,hA68,hB60⟩:=bind_some hB60
 obtain ⟨R68,hR68⟩:=exR fun f w_=>∃ v66_g51_0 : Value,f 1 = I bound_65∧f 4 = Pt g3∧f 9 = Pt g51∧f 44 = (.agg (arrC ag11_15))∧f 45 = I i_56∧Star H16 w_ (oF 112 rTerm v66_g51_0 g51_0_66 :: box g51 43 #[v66_g51_0,I 0] :: box g3 43 #[S0,I 0] :: R)
 refine W_join R68 ?_ ?_
 refine W_cond (b:=decide (x64 > 0)) rfl (fun hc69=>?_) (fun hc69=>?_)
 have hA68:=(ite_t hc69).symm.trans hA68
 obtain ⟨x73,hx73,hA68⟩:=bind_some hA68
 refine W_region (fA 0 fa_43_0 sf9 rfl (ldB 1 Z Try.isAgg41 rfl rfl rfl (mI rfl (mI rfl (L_bld rfl (parts2 rfl rfl) (bld_112_0_1 (I x64) (I i_56) rfl rfl) (L_bs rfl (parts1 rfl) (bs_41_1_2 (I x64) (I i_56) ) Z (fun g78 w79 Z=>?_)))))))
 have Z:=Star.addF (r:=rTerm) (cs:=[I x64,I i_56]) (x:=({ coef:=x64,lit:=(i_56 : Int) } : Term)) Z (rTerm_iff.2 rfl)
 have Z:=Star.mkRow (R:=(OR.frz rTerm)) [([I x64,I i_56],({ coef:=x64,lit:=(i_56 : Int) } : Term))] [({ coef:=x64,lit:=(i_56 : Int) } : Term)] 1 Z rfl rfl rfl (by decide)
 have Z:=Z.get 1 rfl
 refine L_appM (v:=v58_g51_0) (u:=(Sl g78 1 1)) rfl et_41 rfl rfl Z hx73 (fun v81 w82 Z=>fA 0 fa_43_0 sf9 rfl (L_stB (v:=v81) (cs2:=#[v81,I 0]) 1 rfl Try.sizeOf41 rfl rfl (one_len (Star.len 0 Z rfl)) Z rfl rfl rfl (fun w84 Z=>nn ?_)))
 obtain ⟨rfl,rfl⟩:=so2 hA68
 have Z:=Z.gets [2,1,2] rfl
 exact rj hR68 ⟨v81,sf1,sf4,sf9,sf44,sf45,Z⟩
 have hA68:=(ite_f hc69).symm.trans hA68
 refine sq (mI rfl (L_lss rfl rfl rfl (aB rfl (nn ?_))))
 obtain ⟨⟨bound_85,g51_0_86⟩,hA88,hA68⟩:=bind_some hA68
 obtain ⟨R88,hR88⟩:=exR fun f w_=>∃ v86_g51_0 : Value,f 1 = I bound_85∧f 4 = Pt g3∧f 9 = Pt g51∧f 44 = (.agg (arrC ag11_15))∧f 45 = I i_56∧Star H16 w_ (oF 112 rTerm v86_g51_0 g51_0_86 :: box g51 43 #[v86_g51_0,I 0] :: box g3 43 #[S0,I 0] :: R)
 refine W_join R88 ?_ ?_
 refine W_cond (b:=decide (x64 < 0)) rfl (fun hc89=>?_) (fun hc89=>?_)
 have hA88:=(ite_t hc89).symm.trans hA88
 refine W_seq ?_
 obtain ⟨x93,hx93,hA88⟩:=bind_some hA88
 refine W_region (fA 0 fa_43_0 sf9 rfl (ldB 1 Z Try.isAgg41 rfl rfl rfl (mI rfl (L_neg rfl rfl (mI rfl (L_neg rfl rfl (L_bld rfl (parts2 rfl rfl) (bld_112_0_1 (I (i64 (-x64))) (I (i64 (-(i_56 : Int)))) rfl rfl) (L_bs rfl (parts1 rfl) (bs_41_1_2 (I (i64 (-x64))) (I (i64 (-(i_56 : Int)))) ) Z (fun g98 w99 Z=>?_)))))))))
 have Z:=Star.addF (r:=rTerm) (cs:=[I (i64 (-x64)),I (i64 (-(i_56 : Int)))]) (x:=({ coef:=i64 (-x64),lit:=i64 (-(i_56 : Int)) } : Term)) Z (rTerm_iff.2 rfl)
 have Z:=Star.mkRow (R:=(OR.frz rTerm)) [([I (i64 (-x64)),I (i64 (-(i_56 : Int)))],({ coef:=i64 (-x64),lit:=i64 (-(i_56 : Int)) } : Term))] [({ coef:=i64 (-x64),lit:=i64 (-(i_56 : Int)) } : Term)] 1 Z rfl rfl rfl (by decide)
 have Z:=Z.get 1 rfl
 refine L_appM (v:=v58_g51_0) (u:=(Sl g98 1 1)) rfl et_41 rfl rfl Z hx93 (fun v101 w102 Z=>fA 0 fa_43_0 sf9 rfl (L_stB (v:=v101) (cs2:=#[v101,I 0]) 1 rfl Try.sizeOf41 rfl rfl (one_len (Star.len 0 Z rfl)) Z rfl rfl rfl (fun w104 Z=>nn (W_region (mF sf1 rfl (mI rfl (L_sub rfl rfl rfl (aI rfl (nn ?_)))))))))
 obtain ⟨rfl,rfl⟩:=so2 hA88
 have Z:=Z.gets [2,1,2] rfl
 exact rj hR88 ⟨v101,rfl,sf4,sf9,sf44,sf45,Z⟩
 have hA88:=(ite_f hc89).symm.trans hA88
 refine W_skip ?_
 obtain ⟨rfl,rfl⟩:=so2 hA88
 exact rj hR88 ⟨v58_g51_0,sf1,sf4,sf9,sf44,sf45,Z⟩
 intro f w_ hR
 obtain ⟨v86_g51_0,sf1,sf4,sf9,sf44,sf45,Z⟩:=rk hR88 hR
 obtain ⟨rfl,rfl⟩:=so2 hA68
 exact rj hR68 ⟨v86_g51_0,sf1,sf4,sf9,sf44,sf45,Z⟩
 intro f w_ hR
 obtain ⟨v66_g51_0,sf1,sf4,sf9,sf44,sf45,Z⟩:=rk hR68 hR
 refine W_region (L_add rfl sf45 rfl (mI rfl (nn ?_)))
 obtain rfl:=so hB60
 show ∃ m,m < _∧I60 m _ _
 refine ⟨rest60,Nat.lt_succ_self _,?_⟩
 exact ij hI60 ⟨i_56 + 1,rest60,bound_65,g51_0_66,v66_g51_0,rfl,by omega,by omega,hL60,sf1,sf4,sf9,sf44,(Eq.trans rfl (congrArg (Value.int .i64) (i64_succ (n:=0 + k61) (by omega) (cntF_le hk61)))),Z⟩
 rcases suf60 with _ | _
 obtain rfl:=count_zero hL60
 refine W_exit (rj hR60 ⟨bound_57,g51_0_58,v58_g51_0,rfl,sf1,sf4,sf9,Z⟩)
 exact absurd (cntF_yes hs60 hl60 hk61) (of_decide_eq_false hc63)
 intro f w_ hR
 obtain ⟨bound_57,g51_0_58,v58_g51_0,rfl,sf1,sf4,sf9,Z⟩:=rk hR60 hR
 refine sq (mF sf1 rfl (L_max rfl rfl rfl (fA 1 fa_43_1 sf9 rfl (L_stB (v:=I (max 0 bound_57)) (cs2:=#[v58_g51_0,I (max 0 bound_57)]) 1 rfl Try.sizeOf3 rfl rfl rfl Z rfl rfl rfl (fun w106 Z=>nq ?_)))))
 obtain ⟨x110,hx110,hF⟩:=bind_some hF
 refine W_region (L_lda (cs:=[v58_g51_0,I (max 0 bound_57)]) rfl Try.isAgg43 Try.sizeOf43 sf9 (At.sub0 (Blk.at (Star.blkAt 0 Z rfl)) 0 2) rfl ?_)
 have Z:=Z.get 1 rfl
 obtain ⟨H113,l114,Z,hz115⟩:=Star.freeze Z
 have hz115 : (rS 112 rTerm).rel H113 [v58_g51_0] g51_0_58:=hz115
 refine L_call rfl Try.call125 (ops1 rfl) (i_Constraint_valid_c (c:=({ terms:=g51_0_58,bound:=max 0 bound_57 } : Con)) Z hz115 hx110) ?_
 rintro _ w116 ⟨H116,l116,r116_0,rfl,hr116_0,Z⟩
 refine L_ex (v:=.agg #[r116_0,I x110.1.bound]) rfl rfl rfl (L_ex (v:=Bo x110.2) rfl rfl rfl (L_staB (vs:=#[r116_0,I x110.1.bound]) (cs2:=#[r116_0,I x110.1.bound]) 1 rfl Try.sizeOf43 sf4 rfl rfl (ones_cons (one_len (slice_len hr116_0)) (ones_cons rfl ones_nil)) Z rfl (by show 0 + 2≤2; decide) rfl (fun w117 Z=>aB rfl (nn (W_ret (retG2 (v1:=.agg #[r116_0,I x110.1.bound]) (v2:=Bo x110.2) Try.results98 (resV_agg Try.isAgg43 Try.sizeOf43 sf4 (Star.blkAt 0 Z rfl) rfl) rfl ?_))))))
 obtain rfl:=so hF
 have Z:=Star.drop 0 Z rfl
 have Z:=Star.drop 0 Z rfl
 exact ⟨H116,(Le.trans (Le.trans l17 l114) l116),r116_0,rfl,hr116_0,Z⟩
theorem slices_Concat_implTerm_c {slices : List (List Term)} {v0 : Value} {H : FH} {w : World} (Z : Star H w []) (h0 : (rS 41 (rS 112 rTerm)).rel H [v0] slices) {r : List Term} (hF : slices_Concat_implTerm slices = some r) :
 C Try.prog 99 #[v0] w fun v w'=>∃ (u1 : Value),v = u1∧Star H w' [oF 112 rTerm u1 r]:=by
 unfold slices_Concat_implTerm at hF
 refine C_enter Try.func99 rfl Try.ntmps99 rfl (sq (aV S0 rfl (ns (aI rfl (nq (sq (mV v0 rfl (L_len rfl Try.underlying143 rfl (slice_len h0) (mI rfl (nn ?_))))))))))
 have hlen3 : List.length slices≤9223372036854775807:=len_le (slice_len h0)
 obtain ⟨j3,hL3,hF⟩:=bind_some hF
 obtain ⟨R3,hR3⟩:=exR fun f w_=>∃ size_2 : Int,j3 = .nx size_2∧f 0 = v0∧f 3 = I size_2∧Star H w_ ([])
 refine W_join R3 ?_ ?_
 refine W_block ?_
 obtain ⟨I3,hI3⟩:=exI fun n f w_=>∃ i_1 : Nat,∃ suf3 : List (List Term),∃ size_2 : Int,n = suf3.length∧List.drop i_1 slices = suf3∧i_1 + suf3.length = slices.length∧rangeL slices_Concat_implTerm_b1 suf3 i_1 size_2 = some j3∧f 0 = v0∧f 3 = I size_2∧f 9 = v0∧f 10 = I (slices.length : Int)∧f 11 = I i_1∧Star H w_ ([])
 refine W_loop I3 (n:=slices.length) ?_ ?_
 exact ij hI3 ⟨0,slices,0,rfl,rfl,Nat.zero_add _,hL3,rfl,rfl,rfl,rfl,rfl,Z⟩
 intro n3 f w_ hI
 obtain ⟨i_1,suf3,size_2,rfl,hd3,hl3,hL3,sf0,sf3,sf9,sf10,sf11,Z⟩:=ik hI3 hI
 refine sq (L_lss rfl sf11 sf10 (nq (W_cond (b:=decide ((i_1 : Int) < (slices.length : Int))) rfl (fun hc4=>?_) (fun hc4=>?_))))
 have hlt3:=of_decide_eq_true hc4
 rcases suf3 with _ | ⟨x_3,rest3⟩
 exact absurd hlt3 (by simp at hl3; omega)
 obtain ⟨o3,hB3,hL3⟩:=range_cons hL3
 rw [slices_Concat_implTerm_b1] at hB3
 have hix3:=drop_idx hd3
 refine W_skip (W_seq (W_block (sq (L_ix (r:=(rS 112 rTerm)) rfl Try.underlying143 Try.sizeOf41 sf9 h0 sf11 hix3 (fun g9 o10 cs_g9 hrk_hat11 hat11=>?_)))))
 obtain ⟨u12,rfl,hu12⟩:=slice1 hrk_hat11
 refine L_ld rfl Try.isAgg41 rfl (At.cell (AtH.at hat11 Z.sub) (j:=0) rfl) (aV u12 rfl (ns (mF sf3 rfl (mV u12 rfl (L_len rfl Try.underlying41 rfl (slice_len hu12) (L_add rfl rfl rfl (aI rfl (ns (mI rfl (L_lss rfl rfl rfl (nn ?_)))))))))))
 obtain ⟨_,hA13,hB3⟩:=bind_some hB3
 obtain ⟨R13,hR13⟩:=exR fun f w_=>f 0 = v0∧f 3 = I (i64 (size_2 + (x_3.length : Int)))∧f 9 = v0∧f 10 = I (slices.length : Int)∧f 11 = I i_1∧Star H w_ ([])
 refine W_join R13 ?_ ?_
 refine W_cond (b:=decide ((i64 (size_2 + (x_3.length : Int))) < 0)) rfl (fun hc14=>?_) (fun hc14=>?_)
 have hA13:=(ite_t hc14).symm.trans hA13
 cases hA13
 have hA13:=(ite_f hc14).symm.trans hA13
 refine W_skip (rj hR13 ⟨sf0,rfl,sf9,sf10,sf11,Z⟩)
 intro f w_ hR
 obtain ⟨sf0,sf3,sf9,sf10,sf11,Z⟩:=rk hR13 hR
 refine W_region (L_add rfl sf11 rfl (mI rfl (nn ?_)))
 obtain rfl:=so hB3
 show ∃ m,m < _∧I3 m _ _
 refine ⟨rest3.length,by simp,?_⟩
 exact ij hI3 ⟨i_1 + 1,rest3,i64 (size_2 + (x_3.length : Int)),rfl,drop_next hd3,by simp at hl3; omega,hL3,sf0,sf3,sf9,sf10,(Eq.trans rfl (congrArg (Value.int .i64) (i64_succ (n:=slices.length) (by simp at hl3; omega) hlen3))),Z⟩
 rcases suf3 with _ | ⟨_,_⟩
 obtain rfl:=range_nil hL3
 refine W_exit (rj hR3 ⟨size_2,rfl,sf0,sf3,Z⟩)
 exact absurd (of_decide_eq_false hc4) (by simp at hl3; omega)
 intro f w_ hR
 obtain ⟨size_2,rfl,sf0,sf3,Z⟩:=rk hR3 hR
 refine W_seq ?_
 obtain ⟨ret0_15,hI17,hF⟩:=bind_some hF
 refine W_region (mF sf3 rfl ?_)
 obtain ⟨R20,hR20⟩ : ∃ RV_ : Value→World→Prop,RV_ = fun v w_=>∃ v18_ret0 : Value,v = v18_ret0∧Star H w_ ([oF 112 rTerm v18_ret0 ret0_15]):=⟨_,rfl⟩
 refine L_call (args:=#[S0,I size_2]) (R:=R20) rfl Try.call126 (ops2 rfl rfl) ?_ ?_
 refine C_enter Try.func126 rfl Try.ntmps126 rfl ?_
 have hA20:=hI17
 unfold slices_Concat_implTerm_i2 at hA20
 refine sq (aV S0 rfl (nq (sq (mI rfl (L_lss rfl rfl rfl (nn ?_))))))
 obtain ⟨_,hA21,hA20⟩:=bind_some hA20
 obtain ⟨R21,hR21⟩:=exR fun f w_=>f 0 = S0∧f 1 = I size_2∧Star H w_ ([])
 refine W_join R21 ?_ ?_
 refine W_cond (b:=decide (size_2 < 0)) rfl (fun hc22=>?_) (fun hc22=>?_)
 have hA21:=(ite_t hc22).symm.trans hA21
 cases hA21
 have hA21:=(ite_f hc22).symm.trans hA21
 refine W_skip (rj hR21 ⟨rfl,rfl,Z⟩)
 intro f w_ hR
 obtain ⟨sf0,sf1,Z⟩:=rk hR21 hR
 refine W_seq (sq (mF sf1 rfl (mF sf0 rfl (L_capN rfl Try.underlying41 rfl (mF sf0 rfl (L_len rfl Try.underlying41 rfl (slice_len (r:=RP.int) (t:=0) (rel_nil _ _ H)) (L_sub rfl rfl rfl (L_sub rfl rfl rfl (aI rfl (ns (mI rfl (L_gtr rfl rfl rfl (nn ?_)))))))))))))
 obtain ⟨s_23,hA25,hA20⟩:=bind_some hA20
 obtain ⟨R25,hR25⟩:=exR fun f w_=>∃ v23_s : Value,f 0 = v23_s∧Star H w_ ([oF 112 rTerm v23_s s_23])
 refine W_join R25 ?_ ?_
 refine W_cond (b:=decide ((i64 (size_2 - (i64 (0 - 0)))) > 0)) rfl (fun hc26=>?_) (fun hc26=>?_)
 have hA25:=(ite_t hc26).symm.trans hA25
 obtain ⟨x27,hx27,hA25⟩:=bind_some hA25
 obtain ⟨x31,hx31,hA25⟩:=bind_some hA25
 refine W_region (mF sf0 rfl (mF sf0 rfl (L_capN rfl Try.underlying41 rfl (L_slN rfl et_41 rfl rfl (mI rfl (L_appZ (R:=(OR.frz rTerm)) (z0:=({ coef:=0,lit:=0 } : Term)) (zc:=[I 0,I 0]) rfl et_41 Try.underlying3 (by kernel_rfl) (fun _ _=>⟨rfl,rTerm_iff.2 rfl⟩) rfl rfl hx27 Z (fun v34 w35 Z=>mF sf0 rfl (L_len rfl Try.underlying41 rfl (slice_len (r:=RP.int) (t:=0) (rel_nil _ _ H)) (L_slO (R:=(OR.frz rTerm)) (b:=0) rfl et_41 rfl Z trivial rfl hx31 (fun v37 Z=>aV v37 rfl (nn ?_)))))))))))
 obtain rfl:=so hA25
 exact rj hR25 ⟨v37,rfl,Z⟩
 have hA25:=(ite_f hc26).symm.trans hA25
 refine W_skip ?_
 obtain rfl:=so hA25
 have Z:=Star.addNil (R:=(OR.frz rTerm)) (e:=112) Z
 exact rj hR25 ⟨S0,sf0,Z⟩
 intro f w_ hR
 obtain ⟨v23_s,sf0,Z⟩:=rk hR25 hR
 refine sq (mF sf0 rfl (aV v23_s rfl (nn (W_ret (retG1 (v1:=v23_s) Try.results126 rfl ?_)))))
 obtain rfl:=so hA20
 show R20 _ _
 rw [hR20]
 exact ⟨v23_s,rfl,Z⟩
 intro v_20 w_ hR
 rw [hR20] at hR
 obtain ⟨v18_ret0,hvr20,Z⟩:=hR
 obtain rfl:=hvr20.symm
 clear hR20
 refine aV v18_ret0 rfl (nq (sq (mF sf0 rfl (L_len rfl Try.underlying143 rfl (slice_len h0) (mI rfl (nn ?_))))))
 have hlen43 : List.length slices≤9223372036854775807:=len_le (slice_len h0)
 obtain ⟨j43,hL43,hF⟩:=bind_some hF
 obtain ⟨R43,hR43⟩:=exR fun f w_=>∃ newslice_41 : List Term,∃ v41_newslice : Value,j43 = .nx newslice_41∧f 6 = v41_newslice∧Star H w_ ([oF 112 rTerm v41_newslice newslice_41])
 refine W_join R43 ?_ ?_
 refine W_block ?_
 obtain ⟨I43,hI43⟩:=exI fun n f w_=>∃ i_40 : Nat,∃ suf43 : List (List Term),∃ newslice_41 : List Term,∃ v41_newslice : Value,n = suf43.length∧List.drop i_40 slices = suf43∧i_40 + suf43.length = slices.length∧rangeL slices_Concat_implTerm_b3 suf43 i_40 newslice_41 = some j43∧f 6 = v41_newslice∧f 25 = v0∧f 26 = I (slices.length : Int)∧f 27 = I i_40∧Star H w_ ([oF 112 rTerm v41_newslice newslice_41])
 refine W_loop I43 (n:=slices.length) ?_ ?_
 exact ij hI43 ⟨0,slices,ret0_15,v18_ret0,rfl,rfl,Nat.zero_add _,hL43,rfl,rfl,rfl,rfl,Z⟩
 intro n43 f w_ hI
 obtain ⟨i_40,suf43,newslice_41,v41_newslice,rfl,hd43,hl43,hL43,sf6,sf25,sf26,sf27,Z⟩:=ik hI43 hI
 refine sq (L_lss rfl sf27 sf26 (nq (W_cond (b:=decide ((i_40 : Int) < (slices.length : Int))) rfl (fun hc44=>?_) (fun hc44=>?_))))
 have hlt43:=of_decide_eq_true hc44
 rcases suf43 with _ | ⟨x_43,rest43⟩
 exact absurd hlt43 (by simp at hl43; omega)
 obtain ⟨o43,hB43,hL43⟩:=range_cons hL43
 rw [slices_Concat_implTerm_b3] at hB43
 have hix43:=drop_idx hd43
 refine W_skip (W_seq (W_block (sq (L_ix (r:=(rS 112 rTerm)) rfl Try.underlying143 Try.sizeOf41 sf25 h0 sf27 hix43 (fun g49 o50 cs_g49 hrk_hat51 hat51=>?_)))))
 obtain ⟨u52,rfl,hu52⟩:=slice1 hrk_hat51
 refine L_ld rfl Try.isAgg41 rfl (At.cell (AtH.at hat51 Z.sub) (j:=0) rfl) (aV u52 rfl (nn ?_))
 obtain ⟨x53,hx53,hB43⟩:=bind_some hB43
 refine W_region (mF sf6 rfl (mV u52 rfl (L_app (v:=v41_newslice) (u:=u52) rfl et_41 rfl rfl Z hu52 hx53 (fun v57 w58 Z=>aV v57 rfl (nn (W_region (L_add rfl sf27 rfl (mI rfl (nn ?_)))))))))
 obtain rfl:=so hB43
 show ∃ m,m < _∧I43 m _ _
 refine ⟨rest43.length,by simp,?_⟩
 exact ij hI43 ⟨i_40 + 1,rest43,x53,v57,rfl,drop_next hd43,by simp at hl43; omega,hL43,rfl,sf25,sf26,(Eq.trans rfl (congrArg (Value.int .i64) (i64_succ (n:=slices.length) (by simp at hl43; omega) hlen43))),Z⟩
 rcases suf43 with _ | ⟨_,_⟩
 obtain rfl:=range_nil hL43
 refine W_exit (rj hR43 ⟨newslice_41,v41_newslice,rfl,sf6,Z⟩)
 exact absurd (of_decide_eq_false hc44) (by simp at hl43; omega)
 intro f w_ hR
 obtain ⟨newslice_41,v41_newslice,rfl,sf6,Z⟩:=rk hR43 hR
 refine sq (mF sf6 rfl (aV v41_newslice rfl (nn (W_ret (retG1 (v1:=v41_newslice) Try.results99 rfl ?_)))))
 obtain rfl:=so hF
 exact ⟨v41_newslice,rfl,Z⟩
theorem i_AddConstraints_c {a : Con} {b : Con} {v0_0 : Value} {v1_0 : Value} {H : FH} {w : World} {R : List Ass} (Z : Star H w R) (h0_0 : (rS 112 rTerm).rel H [v0_0] a.terms) (h1_0 : (rS 112 rTerm).rel H [v1_0] b.terms) {r : Con × Bool} (hF : i_AddConstraints a b = some r) :
 C Try.prog 49 #[.agg #[v0_0,I a.bound],.agg #[v1_0,I b.bound]] w fun v w'=>∃ H' : FH,Le H H'∧∃ (u1 : Value),v = .tuple #[.agg #[u1,I r.1.bound],Bo r.2]∧(rS 112 rTerm).rel H' [u1] r.1.terms∧Star H' w' (R):=by
 unfold i_AddConstraints at hF
 refine C_enter Try.func49 rfl Try.ntmps49 rfl (sq (L_box (v:=.agg #[v0_0,I a.bound]) (cs:=#[v0_0,I a.bound]) rfl rfl rfl Z (fun g7 w8 Z=>L_box (v:=.agg #[v1_0,I b.bound]) (cs:=#[v1_0,I b.bound]) rfl rfl rfl Z (fun g9 w10 Z=>L_al (cs:=#[S0,I 0]) rfl Try.zeroValue43 rfl Z (fun g11 w12 Z=>aB rfl (nq (W_seq ?_)))))))
 obtain ⟨x18,hx18,hF⟩:=bind_some hF
 obtain ⟨b27,hb27,hF⟩:=bind_some hF
 obtain ⟨R28,hR28⟩:=exR fun f w_=>f 2 = Pt g7∧f 3 = Pt g9∧f 4 = Pt g11∧f 13 = Bo b27∧Star H w_ (box g11 43 #[S0,I 0] :: box g9 43 #[v1_0,I b.bound] :: box g7 43 #[v0_0,I a.bound] :: R)
 refine W_join R28 ?_ ?_
 refine W_region (L_lda (cs:=[v0_0,I a.bound]) rfl Try.isAgg43 Try.sizeOf43 rfl (At.sub0 (Blk.at (Star.blkAt 2 Z rfl)) 0 2) rfl ?_)
 obtain ⟨H29b,l30,s31,z32,k33⟩:=Z.borrow
 refine L_call rfl Try.call52 (ops1 rfl) (i_ConstraintValid_c (c:=a) s31 (RP.mono _ h0_0 l30) hx18) ?_
 rintro _ w34 ⟨rfl,Z⟩
 have Z:=k33 Z c0
 refine L_not_ rfl rfl (mB rfl (L_split (d:=9) (b:=(!x18)) rfl (fun hc35=>?_) (fun hc35=>?_)))
 rw [ite_t hc35] at hb27
 refine ps rfl (ps rfl (ps rfl (L_pick (v:=Bo b27) rfl rfl (congrArg Value.bool (so hb27)) (nn (rj hR28 ⟨rfl,rfl,rfl,rfl,Z⟩)))))
 rw [ite_f hc35] at hb27
 obtain ⟨x25,hx25,hb27⟩:=bind_some hb27
 refine L_lda (cs:=[v1_0,I b.bound]) rfl Try.isAgg43 Try.sizeOf43 rfl (At.sub0 (Blk.at (Star.blkAt 1 Z rfl)) 0 2) rfl ?_
 obtain ⟨H36b,l37,s38,z39,k40⟩:=Z.borrow
 refine L_call rfl Try.call52 (ops1 rfl) (i_ConstraintValid_c (c:=b) s38 (RP.mono _ h1_0 l37) hx25) ?_
 rintro _ w41 ⟨rfl,Z⟩
 have Z:=k40 Z c0
 refine L_not_ rfl rfl (L_pick (v:=Bo b27) rfl rfl (congrArg Value.bool (so hb27)) (nn (rj hR28 ⟨rfl,rfl,rfl,rfl,Z⟩)))
 intro f w_ hR
 obtain ⟨sf2,sf3,sf4,sf13,Z⟩:=rk hR28 hR
 refine W_cond (b:=b27) sf13 (fun hc42=>?_) (fun hc42=>?_)
 have hF:=(ite_t hc42).symm.trans hF
 refine sq (L_bld rfl (parts0 ) (bld_43_  ) (L_staB (vs:=#[S0,I 0]) (cs2:=#[S0,I 0]) 0 rfl Try.sizeOf43 sf4 rfl rfl (ones_cons rfl (ones_cons rfl ones_nil)) Z rfl (by show 0 + 2≤2; decide) rfl (fun w44 Z=>aB rfl (nn (W_ret (retG2 (v1:=.agg #[S0,I 0]) (v2:=Bo false) Try.results49 (resV_agg Try.isAgg43 Try.sizeOf43 sf4 (Star.blkAt 0 Z rfl) rfl) rfl ?_))))))
 obtain rfl:=so hF
 have Z:=Star.drop 0 Z rfl
 have Z:=Star.drop 0 Z rfl
 have Z:=Star.drop 0 Z rfl
 exact ⟨H,(Le.refl _),S0,rfl,(rel_nil _ _ _),Z⟩
 have hF:=(ite_f hc42).symm.trans hF
 refine W_skip (W_seq ?_)
 obtain ⟨x54,hx54,hF⟩:=bind_some hF
 obtain ⟨x60,hx60,hF⟩:=bind_some hF
 refine W_drawS 14 [isV (Pt g7),isV (v0_0),isV (Pt g9),isV (v1_0),anyF,anyF,isV (Pq g7 1),isV (I a.bound),isV (Pq g9 1),isV (I b.bound),isV (I (i64 (a.bound + b.bound))),tup2 (exD (isData (rS 112 rTerm) x60.1.terms) fun u_0=>isV (.agg #[u_0,I x60.1.bound])) (isV (Bo x60.2)),exD (isData (rS 112 rTerm) x60.1.terms) fun u_0=>isV (.agg #[u_0,I x60.1.bound]),isV (Bo x60.2)] [box g11 43 #[S0,I 0],box g9 43 #[v1_0,I b.bound],box g7 43 #[v0_0,I a.bound]] [.made 4 19 (fun v_=>oF 41 (rS 112 rTerm) v_ ([a.terms,b.terms])) none,.made 5 20 (fun v_=>oF 112 rTerm v_ x54) (some 11)] (R) [([],[]),([],[]),([],[]),([],[]),([],[0]),([0],[0,1]),([],[]),([],[]),([],[]),([],[]),([],[]),([1],[]),([],[]),([],[])] (S:=[(some 4,[19],none),(some 5,[20],some 11)]) Try_mix (by kernel_rfl) rfl (by kernel_rfl) (amF_cons (mono_V _) (amF_cons (mono_V _) (amF_cons (mono_V _) (amF_cons (mono_V _) (amF_cons (mono_any) (amF_cons (mono_any) (amF_cons (mono_V _) (amF_cons (mono_V _) (amF_cons (mono_V _) (amF_cons (mono_V _) (amF_cons (mono_V _) (amF_cons (mono_tup2 (mono_exD (mono_data _ _) fun _=>mono_V _) (mono_V _)) (amF_cons (mono_exD (mono_data _ _) fun _=>mono_V _) (amF_cons (mono_V _) amF_nil)))))))))))))) Z ?_ (fun f w_ H63 hS63 hE63 hT63 Z=>?_)
 refine opsS_cons (fun f w_ _ _ s _ _ Z=>fA 0 fa_43_0 ((s 2 rfl).trans sf2) rfl (nO rfl rfl Z)) (opsS_cons (fun f w_ _ _ _ _ p Z=>ldB 2 Z Try.isAgg41 (p 0 15 rfl rfl) rfl rfl (nO rfl rfl Z)) (opsS_cons (fun f w_ _ _ s _ _ Z=>fA 0 fa_43_0 ((s 3 rfl).trans sf3) rfl (nO rfl rfl Z)) (opsS_cons (fun f w_ _ _ _ _ p Z=>ldB 1 Z Try.isAgg41 (p 2 17 rfl rfl) rfl rfl (nO rfl rfl Z)) (opsS_cons ?_ ?_))))
 intro f w_ H63 X63 hS63 hE63 hP63 Z
 refine L_bs rfl (parts2 (hP63 1 16 rfl rfl) (hP63 3 18 rfl rfl)) (bs_143_2_0_0 (v0_0) (v1_0) (one_len (slice_len (RP.mono _ h0_0 hE63))) (one_len (slice_len (RP.mono _ h1_0 hE63)))) Z (fun g79 w80 Z=>?_)
 have Z:=Star.addF (r:=(rS 112 rTerm)) (cs:=[v1_0]) (x:=b.terms) Z (RP.mono _ h1_0 hE63)
 have Z:=Star.addF (r:=(rS 112 rTerm)) (cs:=[v0_0]) (x:=a.terms) Z (RP.mono _ h0_0 hE63)
 have Z:=Star.mkRow (R:=(OR.frz (rS 112 rTerm))) [([v0_0],a.terms),([v1_0],b.terms)] [a.terms,b.terms] 2 Z rfl rfl rfl (by decide)
 have Z:=Z.gets [3,3,3] rfl
 exact L_nil ⟨rfl,_,_,rfl,Le.refl _,fun _ _=>trivial,Z⟩
 refine opsS_cons ?_ ?_
 intro f w_ H63 X63 hS63 hE63 hP63 Z
 have Z : Star H63 w_ (box g11 43 #[S0,I 0] :: box g9 43 #[v1_0,I b.bound] :: box g7 43 #[v0_0,I a.bound] :: oF 41 (rS 112 rTerm) (f 19) ([a.terms,b.terms]) :: X63):=Z
 obtain ⟨H83b,l84,s85,z86,k87⟩:=Z.borrow
 have hb88 : (rS 41 (rS 112 rTerm)).rel H83b [(f 19)] ([a.terms,b.terms]):=fz_own 3 z86 rfl
 refine L_call rfl Try.call99 (ops1 rfl) (slices_Concat_implTerm_c (slices:=[a.terms,b.terms]) s85 hb88 hx54) ?_
 rintro r89_0 w89 ⟨_,rfl,Z⟩
 have Z:=k87 Z (co closed_term c0)
 have Z:=Z.gets [4,4,4,4] rfl
 exact L_nil ⟨rfl,_,_,rfl,Le.refl _,fun _ _=>trivial,Z⟩
 refine opsS_cons (fun f w_ _ _ s _ _ Z=>fA 1 fa_43_1 ((s 2 rfl).trans sf2) rfl (nO rfl rfl Z)) (opsS_cons (fun f w_ _ _ _ _ p Z=>ldB 2 Z Try.isAgg3 (p 6 21 rfl rfl) rfl rfl (nO rfl rfl Z)) (opsS_cons (fun f w_ _ _ s _ _ Z=>fA 1 fa_43_1 ((s 3 rfl).trans sf3) rfl (nO rfl rfl Z)) (opsS_cons (fun f w_ _ _ _ _ p Z=>ldB 1 Z Try.isAgg3 (p 8 23 rfl rfl) rfl rfl (nO rfl rfl Z)) (opsS_cons (fun f w_ _ _ _ _ p Z=>L_add rfl (p 7 22 rfl rfl) (p 9 24 rfl rfl) (nO rfl rfl Z)) (opsS_cons ?_ ?_)))))
 intro f w_ H63 X63 hS63 hE63 hP63 Z
 have Z : Star H63 w_ (box g11 43 #[S0,I 0] :: box g9 43 #[v1_0,I b.bound] :: box g7 43 #[v0_0,I a.bound] :: oF 112 rTerm (f 20) x54 :: X63):=Z
 have Z:=Z.get 3 rfl
 obtain ⟨H92,l93,Z,hz94⟩:=Star.freeze Z
 have hz94 : (rS 112 rTerm).rel H92 [(f 20)] x54:=hz94
 refine L_call rfl Try.call98 (ops2 rfl (hP63 10 25 rfl rfl)) (i_normal_c (terms:=x54) (bound:=i64 (a.bound + b.bound)) Z hz94 hx60) ?_
 rintro _ w95 ⟨H95,l95,r95_0,rfl,hr95_0,Z⟩
 exact L_nil ⟨rfl,_,_,rfl,(Le.trans l93 l95),fun _ _=>⟨_,_,rfl,⟨_,hr95_0,rfl⟩,rfl⟩,Z⟩
 refine opsS_cons ?_ ?_
 intro f w_ H63 X63 hS63 hE63 hP63 Z
 obtain ⟨a96_0,a96_1,hv96,ht96_0,ht96_1⟩:=(hP63 11 26 rfl rfl)
 obtain ⟨u97_0,hu97_0,rfl⟩:=ht96_0
 obtain rfl:=ht96_1
 refine L_ex (v:=.agg #[u97_0,I x60.1.bound]) rfl hv96 rfl (L_nil ⟨rfl,_,_,rfl,Le.refl _,fun _ _=>⟨_,hu97_0,rfl⟩,Z⟩)
 refine opsS_cons ?_ ?_
 intro f w_ H63 X63 hS63 hE63 hP63 Z
 obtain ⟨a98_0,a98_1,hv98,ht98_0,ht98_1⟩:=(hP63 11 26 rfl rfl)
 obtain ⟨u99_0,hu99_0,rfl⟩:=ht98_0
 obtain rfl:=ht98_1
 refine L_ex (v:=Bo x60.2) rfl hv98 rfl (L_nil ⟨rfl,_,_,rfl,Le.refl _,fun _ _=>rfl,Z⟩)
 exact opsS_nil
 have Z : Star H63 w_ (box g11 43 #[S0,I 0] :: box g9 43 #[v1_0,I b.bound] :: box g7 43 #[v0_0,I a.bound] :: oF 41 (rS 112 rTerm) (f 19) ([a.terms,b.terms]) :: R):=Z
 obtain ⟨u100_0,hu100_0,hv100⟩:=(hT63 12 27 rfl rfl)
 refine L_staB (vs:=#[u100_0,I x60.1.bound]) (cs2:=#[u100_0,I x60.1.bound]) 0 rfl Try.sizeOf43 ((hS63 4 rfl).trans sf4) hv100 rfl (ones_cons (one_len (slice_len hu100_0)) (ones_cons rfl ones_nil)) Z rfl (by show 0 + 2≤2; decide) rfl (fun w101 Z=>aF (hT63 13 28 rfl rfl) rfl (nn (W_ret (retG2 (v1:=.agg #[u100_0,I x60.1.bound]) (v2:=Bo x60.2) Try.results49 (resV_agg Try.isAgg43 Try.sizeOf43 ((hS63 4 rfl).trans sf4) (Star.blkAt 0 Z rfl) rfl) rfl ?_))))
 obtain rfl:=so hF
 have Z:=Star.drop 0 Z rfl
 have Z:=Star.drop 0 Z rfl
 have Z:=Star.drop 0 Z rfl
 have Z:=Star.drop 0 Z rfl
 exact ⟨H63,hE63,u100_0,rfl,hu100_0,Z⟩
theorem i_Constraint_changed_c {c : Con} {change : (Int→Option Int)} {v0_0 : Value} {v1 : Value} {H : FH} {w : World} {R : List Ass} (Z : Star H w R) (h0_0 : (rS 112 rTerm).rel H [v0_0] c.terms) (h1 : Fun1 Try.prog RP.int false (Value.int .i64) change v1 H) {r : Con × Bool} (hF : i_Constraint_changed c change = some r) :
 C Try.prog 101 #[.agg #[v0_0,I c.bound],v1] w fun v w'=>∃ H' : FH,Le H H'∧∃ (u1 : Value),v = .tuple #[.agg #[u1,I r.1.bound],Bo r.2]∧(rS 112 rTerm).rel H' [u1] r.1.terms∧Star H' w' (R):=by
 unfold i_Constraint_changed at hF
 obtain ⟨fid_1,caps_1,rfl,hcall_1,hc_1⟩:=h1
 refine C_enter Try.func101 rfl Try.ntmps101 rfl (sq (L_box (v:=.agg #[v0_0,I c.bound]) (cs:=#[v0_0,I c.bound]) rfl rfl rfl Z (fun g5 w6 Z=>L_al (cs:=#[S0,I 0]) rfl Try.zeroValue43 rfl Z (fun g7 w8 Z=>aB rfl (nq ?_)))))
 obtain ⟨x14,hx14,hF⟩:=bind_some hF
 refine W_region (L_lda (cs:=[v0_0,I c.bound]) rfl Try.isAgg43 Try.sizeOf43 rfl (At.sub0 (Blk.at (Star.blkAt 1 Z rfl)) 0 2) rfl ?_)
 obtain ⟨H20b,l21,s22,z23,k24⟩:=Z.borrow
 refine L_call rfl Try.call127 (ops1 rfl) (i_Constraint_own_c (c:=c) s22 (RP.mono _ h0_0 l21) hx14) ?_
 rintro _ w25 ⟨r25_0,rfl,Z⟩
 have Z:=k24 Z (co closed_term c0)
 refine L_al (cs:=#[S0,I 0]) rfl Try.zeroValue43 rfl Z (fun g27 w28 Z=>L_staB (vs:=#[r25_0,I x14.bound]) (cs2:=#[r25_0,I x14.bound]) 0 rfl Try.sizeOf43 rfl rfl rfl (ones_cons (one_len (Star.len 1 Z rfl)) (ones_cons rfl ones_nil)) Z rfl (by show 0 + 2≤2; decide) rfl (fun w29 Z=>nq ?_))
 obtain ⟨x30,hx30,hF⟩:=bind_some hF
 refine W_region (mV (.func (.func fid_1) #[] caps_1) rfl (fA 1 fa_43_1 rfl rfl (ldB 3 Z Try.isAgg3 rfl rfl rfl ?_)))
 obtain ⟨H38b,l39,s40,z41,k42⟩:=Z.borrow
 refine L_callv (args:=#[I c.bound]) rfl hcall_1 rfl (ops1 rfl) (hc_1 _ _ l39 s40 [I c.bound] _ _ _ rfl hx30 (args_app rfl)) ?_
 rintro _ w43 ⟨rfl,Z⟩
 have Z:=k42 Z c0
 refine fA 1 fa_43_1 rfl rfl (L_stB (v:=I x30) (cs2:=#[r25_0,I x30]) 0 rfl Try.sizeOf3 rfl rfl rfl Z rfl rfl rfl (fun w44 Z=>nq (sq (fA 0 fa_43_0 rfl rfl (ldB 0 Z Try.isAgg41 rfl rfl rfl (L_len rfl Try.underlying41 rfl (Star.len 1 Z rfl) (mI rfl (nn ?_))))))))
 have hlen49 : List.length x14.terms≤9223372036854775807:=len_le (Star.len 1 Z rfl)
 obtain ⟨j49,hL49,hF⟩:=bind_some hF
 obtain ⟨R49,hR49⟩:=exR fun f w_=>∃ g27_0_46 : List Term,∃ H47 : FH,j49 = .nx g27_0_46∧Le H H47∧f 4 = Pt g7∧f 6 = Pt g27∧Star H47 w_ (oF 112 rTerm r25_0 g27_0_46 :: box g27 43 #[r25_0,I x30] :: box g7 43 #[S0,I 0] :: R)
 refine W_join R49 ?_ ?_
 refine W_block ?_
 obtain ⟨I49,hI49⟩:=exI fun n f w_=>∃ i_45 : Nat,∃ suf49 : List Term,∃ g27_0_46 : List Term,∃ H47 : FH,n = suf49.length∧List.drop i_45 x14.terms = suf49∧i_45 + suf49.length = x14.terms.length∧rangeL (i_Constraint_changed_b1 change) suf49 i_45 g27_0_46 = some j49∧Le H H47∧f 1 = .func (.func fid_1) #[] caps_1∧f 4 = Pt g7∧f 6 = Pt g27∧f 17 = I (x14.terms.length : Int)∧f 18 = I i_45∧Star H47 w_ (oF 112 rTerm r25_0 g27_0_46 :: box g27 43 #[r25_0,I x30] :: box g7 43 #[S0,I 0] :: R)
 have Z:=Z.gets [2,1,2] rfl
 have Z:=Star.drop 3 Z rfl
 refine W_loop I49 (n:=x14.terms.length) ?_ ?_
 exact ij hI49 ⟨0,x14.terms,x14.terms,H,rfl,rfl,Nat.zero_add _,hL49,(Le.refl _),rfl,rfl,rfl,rfl,rfl,Z⟩
 intro n49 f w_ hI
 obtain ⟨i_45,suf49,g27_0_46,H47,rfl,hd49,hl49,hL49,l48,sf1,sf4,sf6,sf17,sf18,Z⟩:=ik hI49 hI
 refine sq (L_lss rfl sf18 sf17 (nq (W_cond (b:=decide ((i_45 : Int) < (x14.terms.length : Int))) rfl (fun hc50=>?_) (fun hc50=>?_))))
 have hlt49:=of_decide_eq_true hc50
 rcases suf49 with _ | ⟨x_49,rest49⟩
 exact absurd hlt49 (by simp at hl49; omega)
 obtain ⟨o49,hB49,hL49⟩:=range_cons hL49
 rw [i_Constraint_changed_b1] at hB49
 have hix49:=drop_idx hd49
 refine W_skip (W_seq (W_block (sq (mF sf18 rfl (aI rfl (nn ?_))))))
 obtain ⟨x51,hx51,hB49⟩:=bind_some hB49
 obtain ⟨x56,hx56,hB49⟩:=bind_some hB49
 obtain ⟨g65,cap_g65,hv66,_,_⟩:=Star.row 0 Z rfl hx51
 refine W_drawS 11 [isV (Pt g27),isV (r25_0),isV (I i_45),isV (.func (.func fid_1) #[] caps_1),isV (Pt g27),isV (r25_0),isV (I i_45),isV (.pointer (some ⟨g65,Int.toNat (i_45 : Int) * 2,none⟩)),isV (.pointer (some ⟨g65,Int.toNat (i_45 : Int) * 2 + 0,none⟩)),isV (I x51.coef),isV (I x56)] [oF 112 rTerm r25_0 g27_0_46,box g27 43 #[r25_0,I x30],box g7 43 #[S0,I 0]] [] (R) [([],[]),([],[]),([],[]),([],[]),([],[]),([],[]),([],[]),([],[]),([],[]),([],[]),([],[])] (S:=[]) Try_mix (by kernel_rfl) rfl (by kernel_rfl) (amF_cons (mono_V _) (amF_cons (mono_V _) (amF_cons (mono_V _) (amF_cons (mono_V _) (amF_cons (mono_V _) (amF_cons (mono_V _) (amF_cons (mono_V _) (amF_cons (mono_V _) (amF_cons (mono_V _) (amF_cons (mono_V _) (amF_cons (mono_V _) amF_nil))))))))))) Z ?_ (fun f w_ H64 hS64 hE64 hT64 Z=>?_)
 refine opsS_cons (fun f w_ _ _ s _ _ Z=>fA 0 fa_43_0 ((s 6 rfl).trans sf6) rfl (nO rfl rfl Z)) (opsS_cons (fun f w_ _ _ _ _ p Z=>ldB 1 Z Try.isAgg41 (p 0 21 rfl rfl) rfl rfl (nO rfl rfl Z)) (opsS_cons (fun f w_ _ _ s _ _ Z=>mF ((s 7 rfl).trans rfl) rfl (nO rfl rfl Z)) (opsS_cons (fun f w_ _ _ s _ _ Z=>mF ((s 1 rfl).trans sf1) rfl (nO rfl rfl Z)) (opsS_cons (fun f w_ _ _ s _ _ Z=>fA 0 fa_43_0 ((s 6 rfl).trans sf6) rfl (nO rfl rfl Z)) (opsS_cons (fun f w_ _ _ _ _ p Z=>ldB 1 Z Try.isAgg41 (p 4 25 rfl rfl) rfl rfl (nO rfl rfl Z)) (opsS_cons (fun f w_ _ _ s _ _ Z=>mF ((s 7 rfl).trans rfl) rfl (nO rfl rfl Z)) (opsS_cons (fun f w_ _ _ _ _ p Z=>L_ixO (R:=(OR.frz rTerm)) (tb:=0) 0 rfl Try.underlying41 Try.sizeOf112 (p 5 26 rfl rfl) hv66 (by first | rfl | simp) (p 6 27 rfl rfl) hx51 (nO rfl rfl Z)) (opsS_cons (fun f w_ _ _ _ _ p Z=>fA (Int.toNat (i_45 : Int) * 2 + 0) fa_112_0 (p 7 28 rfl rfl) rfl (nO rfl rfl Z)) (opsS_cons ?_ ?_)))))))))
 intro f w_ H64 X64 hS64 hE64 hP64 Z
 obtain ⟨cs75,hr75,hat75⟩:=Star.eltF 0 Z rfl hv66 hx51
 obtain rfl:=rTerm_iff.1 hr75
 refine L_ld rfl Try.isAgg3 (hP64 8 29 rfl rfl) (At.cell hat75 (j:=0) rfl) (L_nil ⟨rfl,_,_,rfl,Le.refl _,fun _ _=>rfl,Z⟩)
 refine opsS_cons ?_ ?_
 intro f w_ H64 X64 hS64 hE64 hP64 Z
 obtain ⟨H77b,l78,s79,z80,k81⟩:=Z.borrow
 refine L_callv (args:=#[I x51.coef]) rfl hcall_1 (hP64 3 24 rfl rfl) (ops1 (hP64 9 30 rfl rfl)) (hc_1 _ _ (Le.trans (Le.trans l48 hE64) l78) s79 [I x51.coef] _ _ _ rfl hx56 (args_app rfl)) ?_
 rintro _ w82 ⟨rfl,Z⟩
 have Z:=k81 Z c0
 exact L_nil ⟨rfl,_,_,rfl,Le.refl _,fun _ _=>rfl,Z⟩
 exact opsS_nil
 refine L_ixO (R:=(OR.frz rTerm)) (tb:=0) 0 rfl Try.underlying41 Try.sizeOf112 (hT64 1 22 rfl rfl) hv66 (by first | rfl | simp) (hT64 2 23 rfl rfl) hx51 (fA (Int.toNat (i_45 : Int) * 2 + 0) fa_112_0 rfl rfl (L_stF (j:=0) (u:=I x56) (z:={ x51 with coef:=x56 }) rfl Try.sizeOf3 rfl rfl (hT64 10 31 rfl rfl) rfl hv66 Z hx51 fldF_rTerm_0 (fun w83 Z=>nn (W_region (L_add rfl ((hS64 18 rfl).trans sf18) rfl (mI rfl (nn ?_)))))))
 obtain rfl:=so hB49
 show ∃ m,m < _∧I49 m _ _
 refine ⟨rest49.length,by simp,?_⟩
 exact ij hI49 ⟨i_45 + 1,rest49,(g27_0_46.set (Int.toNat (i_45 : Int)) ({ x51 with coef:=x56 })),H64,rfl,drop_next hd49,by simp at hl49; omega,hL49,(Le.trans l48 hE64),((hS64 1 rfl).trans sf1),((hS64 4 rfl).trans sf4),((hS64 6 rfl).trans sf6),((hS64 17 rfl).trans sf17),(Eq.trans rfl (congrArg (Value.int .i64) (i64_succ (n:=x14.terms.length) (by simp at hl49; omega) hlen49))),Z⟩
 rcases suf49 with _ | ⟨_,_⟩
 obtain rfl:=range_nil hL49
 refine W_exit (rj hR49 ⟨g27_0_46,H47,rfl,l48,sf4,sf6,Z⟩)
 exact absurd (of_decide_eq_false hc50) (by simp at hl49; omega)
 intro f w_ hR
 obtain ⟨g27_0_46,H47,rfl,l48,sf4,sf6,Z⟩:=rk hR49 hR
 refine W_seq ?_
 obtain ⟨x87,hx87,hF⟩:=bind_some hF
 refine W_region (L_lda (cs:=[r25_0,I x30]) rfl Try.isAgg43 Try.sizeOf43 sf6 (At.sub0 (Blk.at (Star.blkAt 1 Z rfl)) 0 2) rfl ?_)
 obtain ⟨H90,l91,Z,hz92⟩:=Star.freeze Z
 have hz92 : (rS 112 rTerm).rel H90 [r25_0] g27_0_46:=hz92
 refine L_call rfl Try.call125 (ops1 rfl) (i_Constraint_valid_c (c:=({ terms:=g27_0_46,bound:=x30 } : Con)) Z hz92 hx87) ?_
 rintro _ w93 ⟨H93,l93,r93_0,rfl,hr93_0,Z⟩
 refine L_ex (v:=.agg #[r93_0,I x87.1.bound]) rfl rfl rfl (L_ex (v:=Bo x87.2) rfl rfl rfl (L_staB (vs:=#[r93_0,I x87.1.bound]) (cs2:=#[r93_0,I x87.1.bound]) 1 rfl Try.sizeOf43 sf4 rfl rfl (ones_cons (one_len (slice_len hr93_0)) (ones_cons rfl ones_nil)) Z rfl (by show 0 + 2≤2; decide) rfl (fun w94 Z=>aB rfl (nn (W_ret (retG2 (v1:=.agg #[r93_0,I x87.1.bound]) (v2:=Bo x87.2) Try.results101 (resV_agg Try.isAgg43 Try.sizeOf43 sf4 (Star.blkAt 0 Z rfl) rfl) rfl ?_))))))
 obtain rfl:=so hF
 have Z:=Star.drop 0 Z rfl
 have Z:=Star.drop 0 Z rfl
 exact ⟨H93,(Le.trans (Le.trans l48 l91) l93),r93_0,rfl,hr93_0,Z⟩
theorem i_DivideConstraint_1_c {c1 : Int} {n_ : Int} {g_c1 : Nat} {H : FH} {w : World} (Z : Star H w []) (hat_g_c1 : AtH H g_c1 0 [I c1]) {r : Int} (hF : i_DivideConstraint_1 c1 n_ = some r) :
 C Try.prog 102 #[I n_,Pt g_c1] w fun v w'=>v = I r∧Star H w' []:=by
 unfold i_DivideConstraint_1 at hF
 refine C_enter Try.func102 rfl Try.ntmps102 rfl (sq (aI rfl (nq ?_)))
 obtain ⟨q1,hq1,hF⟩:=bind_some hF
 refine W_region (mI rfl (L_ld rfl Try.isAgg3 rfl (At.cell0 (AtH.at hat_g_c1 Z.sub) (j:=0) rfl) (L_add rfl rfl rfl (L_sub rfl rfl rfl (L_ld rfl Try.isAgg3 rfl (At.cell0 (AtH.at hat_g_c1 Z.sub) (j:=0) rfl) (L_quo (m:=i64 ((i64 (n_ + c1)) - 1)) (n:=c1) rfl rfl rfl (fun he=>by rw [if_pos he] at hq1; cases hq1) (aI rfl (nn (W_ret (retG1 (v1:=I (i64 (Int.tdiv (i64 ((i64 (n_ + c1)) - 1)) c1))) Try.results102 rfl ?_))))))))))
 obtain rfl:=so hF
 exact ⟨rfl,Z⟩
theorem i_DivideConstraint_c {c : Con} {k : Int} {v0_0 : Value} {H : FH} {w : World} {R : List Ass} (Z : Star H w R) (h0_0 : (rS 112 rTerm).rel H [v0_0] c.terms) {r : Con × Bool} (hF : i_DivideConstraint c k = some r) :
 C Try.prog 50 #[.agg #[v0_0,I c.bound],I k] w fun v w'=>∃ H' : FH,Le H H'∧∃ (u1 : Value),v = .tuple #[.agg #[u1,I r.1.bound],Bo r.2]∧(rS 112 rTerm).rel H' [u1] r.1.terms∧Star H' w' (R):=by
 unfold i_DivideConstraint at hF
 refine C_enter Try.func50 rfl Try.ntmps50 rfl (sq (L_box (v:=.agg #[v0_0,I c.bound]) (cs:=#[v0_0,I c.bound]) rfl rfl rfl Z (fun g7 w8 Z=>L_box (v:=I k) (cs:=#[I k]) rfl rfl rfl Z (fun g9 w10 Z=>L_al (cs:=#[S0,I 0]) rfl Try.zeroValue43 rfl Z (fun g11 w12 Z=>aB rfl (nq (W_seq ?_)))))))
 obtain ⟨x18,hx18,hF⟩:=bind_some hF
 obtain ⟨b27,hb27,hF⟩:=bind_some hF
 obtain ⟨R28,hR28⟩:=exR fun f w_=>f 2 = Pt g7∧f 3 = Pt g9∧f 4 = Pt g11∧f 13 = Bo b27∧Star H w_ (box g11 43 #[S0,I 0] :: box g9 3 #[I k] :: box g7 43 #[v0_0,I c.bound] :: R)
 refine W_join R28 ?_ ?_
 refine W_region (L_lda (cs:=[v0_0,I c.bound]) rfl Try.isAgg43 Try.sizeOf43 rfl (At.sub0 (Blk.at (Star.blkAt 2 Z rfl)) 0 2) rfl ?_)
 obtain ⟨H29b,l30,s31,z32,k33⟩:=Z.borrow
 refine L_call rfl Try.call52 (ops1 rfl) (i_ConstraintValid_c (c:=c) s31 (RP.mono _ h0_0 l30) hx18) ?_
 rintro _ w34 ⟨rfl,Z⟩
 have Z:=k33 Z c0
 refine L_not_ rfl rfl (mB rfl (L_split (d:=9) (b:=(!x18)) rfl (fun hc35=>?_) (fun hc35=>?_)))
 rw [ite_t hc35] at hb27
 refine ps rfl (ps rfl (ps rfl (L_pick (v:=Bo b27) rfl rfl (congrArg Value.bool (so hb27)) (nn (rj hR28 ⟨rfl,rfl,rfl,rfl,Z⟩)))))
 rw [ite_f hc35] at hb27
 obtain ⟨x25,hx25,hb27⟩:=bind_some hb27
 refine ldB 1 Z Try.isAgg3 rfl rfl rfl ?_
 obtain ⟨H36b,l37,s38,z39,k40⟩:=Z.borrow
 refine L_call rfl Try.call100 (ops3 rfl rfl rfl) (i_within_c (n_:=k) (low:=1) (high:=1000) s38 hx25) ?_
 rintro _ w41 ⟨rfl,Z⟩
 have Z:=k40 Z c0
 refine L_not_ rfl rfl (L_pick (v:=Bo b27) rfl rfl (congrArg Value.bool (so hb27)) (nn (rj hR28 ⟨rfl,rfl,rfl,rfl,Z⟩)))
 intro f w_ hR
 obtain ⟨sf2,sf3,sf4,sf13,Z⟩:=rk hR28 hR
 refine W_cond (b:=b27) sf13 (fun hc42=>?_) (fun hc42=>?_)
 have hF:=(ite_t hc42).symm.trans hF
 refine sq (L_bld rfl (parts0 ) (bld_43_  ) (L_staB (vs:=#[S0,I 0]) (cs2:=#[S0,I 0]) 0 rfl Try.sizeOf43 sf4 rfl rfl (ones_cons rfl (ones_cons rfl ones_nil)) Z rfl (by show 0 + 2≤2; decide) rfl (fun w44 Z=>aB rfl (nn (W_ret (retG2 (v1:=.agg #[S0,I 0]) (v2:=Bo false) Try.results50 (resV_agg Try.isAgg43 Try.sizeOf43 sf4 (Star.blkAt 0 Z rfl) rfl) rfl ?_))))))
 obtain rfl:=so hF
 have Z:=Star.drop 0 Z rfl
 have Z:=Star.drop 0 Z rfl
 have Z:=Star.drop 0 Z rfl
 exact ⟨H,(Le.refl _),S0,rfl,(rel_nil _ _ _),Z⟩
 have hF:=(ite_f hc42).symm.trans hF
 refine W_skip (W_seq ?_)
 obtain ⟨x48,hx48,hF⟩:=bind_some hF
 refine W_region (L_lda (cs:=[v0_0,I c.bound]) rfl Try.isAgg43 Try.sizeOf43 sf2 (At.sub0 (Blk.at (Star.blkAt 2 Z rfl)) 0 2) rfl (L_mf rfl (ops1 sf3) ?_))
 have Z:=Z.get 1 rfl
 obtain ⟨H51,l52,Z,hz_hat53⟩:=Star.freeze Z
 have hat53 : AtH H51 g9 0 [I k]:=AtH.of hz_hat53
 have hf54 : Fun1 Try.prog RP.int false (Value.int .i64) (i_DivideConstraint_1 k) (.func (.func 102) #[] #[Pt g9]) H51:=by
   refine ⟨_,_,rfl,Try.call102,fun H_ w_ hE_ hs_ cs_ x_ y_ args_ hr_ hy_ ha_=>?_⟩
   obtain rfl : cs_ = [_]:=hr_
   obtain rfl:=args_of (b:=#[I x_,Pt g9]) ha_
   exact i_DivideConstraint_1_c (c1:=k) (n_:=x_) hs_ (AtH.le (AtH.le hat53 (Le.refl _)) hE_) hy_
 refine L_call rfl Try.call101 (ops2 rfl rfl) (i_Constraint_changed_c (c:=c) (change:=(i_DivideConstraint_1 k)) Z (RP.mono _ h0_0 l52) hf54 hx48) ?_
 rintro _ w55 ⟨H55,l55,r55_0,rfl,hr55_0,Z⟩
 refine L_ex (v:=.agg #[r55_0,I x48.1.bound]) rfl rfl rfl (L_ex (v:=Bo x48.2) rfl rfl rfl (L_staB (vs:=#[r55_0,I x48.1.bound]) (cs2:=#[r55_0,I x48.1.bound]) 0 rfl Try.sizeOf43 sf4 rfl rfl (ones_cons (one_len (slice_len hr55_0)) (ones_cons rfl ones_nil)) Z rfl (by show 0 + 2≤2; decide) rfl (fun w56 Z=>aB rfl (nn (W_ret (retG2 (v1:=.agg #[r55_0,I x48.1.bound]) (v2:=Bo x48.2) Try.results50 (resV_agg Try.isAgg43 Try.sizeOf43 sf4 (Star.blkAt 0 Z rfl) rfl) rfl ?_))))))
 obtain rfl:=so hF
 have Z:=Star.drop 0 Z rfl
 have Z:=Star.drop 0 Z rfl
 exact ⟨H55,(Le.trans l52 l55),r55_0,rfl,hr55_0,Z⟩
theorem l_FnResolve_c {fu : Nat} {code : List UInt8} {v0 : Value} {H : FH} {w : World} (Z : Star H w []) (h0 : (rS 5 RP.u8).rel H [v0] code) {r : Bool} (hF : l_FnResolve fu code = some r) :
 C Try.prog 11 #[v0] w fun v w'=>v = Bo r∧Star H w' []:=by
 unfold l_FnResolve at hF
 refine C_enter Try.func11 rfl Try.ntmps11 rfl (sq (aB rfl (nq (sq (mV v0 rfl (L_len rfl Try.underlying22 rfl (slice_len h0) (L_gtr rfl rfl rfl (nn (W_cond (b:=decide ((code.length : Int) > 1048576)) rfl (fun hc1=>?_) (fun hc1=>?_))))))))))
 have hF:=(ite_t hc1).symm.trans hF
 refine sq (aB rfl (nn (W_ret (retG1 (v1:=Bo true) Try.results11 rfl ?_))))
 obtain rfl:=so hF
 exact ⟨rfl,Z⟩
 have hF:=(ite_f hc1).symm.trans hF
 refine W_skip (W_seq ?_)
 obtain ⟨x7,hx7,hF⟩:=bind_some hF
 refine W_region (mV v0 rfl ?_)
 obtain ⟨H10b,l11,s12,z13,k14⟩:=Z.borrow
 refine L_call rfl Try.call45 (ops1 rfl) (s_DrawClauseOf_c (code:=code) s12 (RP.mono _ h0 l11) hx7) ?_
 rintro r15_0 w15 ⟨_,rfl,Z⟩
 have Z:=k14 Z (co closed_int c0)
 refine aV r15_0 rfl (nq ?_)
 obtain ⟨x20,hx20,hF⟩:=bind_some hF
 obtain ⟨x30,hx30,hF⟩:=bind_some hF
 refine W_region (L_bs rfl (parts1 rfl) (bs_65_1_0 (I 11) rfl) Z (fun g36 w37 Z=>?_))
 have Z:=litInts [11] 1 Z rfl rfl (by decide)
 refine mV r15_0 rfl (L_appC (v:=(Sl g36 1 1)) (u:=r15_0) rfl et_65 rfl rfl Z hx20 (fun v39 w40 Z=>?_))
 obtain ⟨H42b,l43,s44,z45,k46⟩:=Z.borrow
 have hb47 : (rS 3 RP.int).rel H42b [v39] x20:=fz_own 0 z45 rfl
 refine L_call rfl Try.call46 (ops1 rfl) (i_ClauseOf_c (lits:=x20) s44 hb47 hx30) ?_
 rintro _ w48 ⟨r48_0,rfl,Z⟩
 have Z:=k46 Z (co closed_term c0)
 refine mV (.tuple #[.agg #[r48_0,I x30.1.bound],Bo x30.2]) rfl (L_ex (v:=.agg #[r48_0,I x30.1.bound]) rfl rfl rfl (L_ex (v:=Bo x30.2) rfl rfl rfl (L_al (cs:=#[S0,I 0]) rfl Try.zeroValue43 rfl Z (fun g50 w51 Z=>L_staB (vs:=#[r48_0,I x30.1.bound]) (cs2:=#[r48_0,I x30.1.bound]) 0 rfl Try.sizeOf43 rfl rfl rfl (ones_cons (one_len (Star.len 1 Z rfl)) (ones_cons rfl ones_nil)) Z rfl (by show 0 + 2≤2; decide) rfl (fun w52 Z=>aB rfl (nq ?_))))))
 obtain ⟨x56,hx56,hF⟩:=bind_some hF
 obtain ⟨x66,hx66,hF⟩:=bind_some hF
 refine W_region (L_bs rfl (parts1 rfl) (bs_65_1_0 (I 11) rfl) Z (fun g72 w73 Z=>?_))
 have Z:=litInts [11] 1 Z rfl rfl (by decide)
 refine mV r15_0 rfl ?_
 have Z:=Z.gets [4,1] rfl
 refine L_appC (v:=(Sl g72 1 1)) (u:=r15_0) rfl et_65 rfl rfl Z hx56 (fun v75 w76 Z=>?_)
 obtain ⟨H78b,l79,s80,z81,k82⟩:=Z.borrow
 have hb83 : (rS 3 RP.int).rel H78b [v75] x56:=fz_own 0 z81 rfl
 refine L_call rfl Try.call47 (ops1 rfl) (s_ClauseOf_c (lits:=x56) s80 hb83 hx66) ?_
 rintro _ w84 ⟨r84_0,rfl,Z⟩
 have Z:=k82 Z (co closed_term c0)
 refine mV (.tuple #[.agg #[r84_0,I x66.1.bound],Bo x66.2]) rfl (L_ex (v:=.agg #[r84_0,I x66.1.bound]) rfl rfl rfl (L_ex (v:=Bo x66.2) rfl rfl rfl (L_al (cs:=#[S0,I 0]) rfl Try.zeroValue43 rfl Z (fun g86 w87 Z=>L_staB (vs:=#[r84_0,I x66.1.bound]) (cs2:=#[r84_0,I x66.1.bound]) 0 rfl Try.sizeOf43 rfl rfl rfl (ones_cons (one_len (Star.len 1 Z rfl)) (ones_cons rfl ones_nil)) Z rfl (by show 0 + 2≤2; decide) rfl (fun w88 Z=>aB rfl (nq (W_seq ?_)))))))
 obtain ⟨b98,hb98,hF⟩:=bind_some hF
 obtain ⟨R99,hR99⟩:=exR fun f w_=>f 3 = r15_0∧f 4 = Pt g50∧f 5 = Bo x30.2∧f 6 = Pt g86∧f 7 = Bo x66.2∧f 47 = Bo (b98 || (!x30.2))∧Star H w_ ([oF 3 RP.int r15_0 x7,oF 112 rTerm r84_0 x66.1.terms,box g86 43 #[r84_0,I x66.1.bound],oF 112 rTerm r48_0 x30.1.terms,box g50 43 #[r48_0,I x30.1.bound]])
 refine W_join R99 ?_ ?_
 refine W_region (mB rfl (mB rfl (L_bneq (b:=x30.2) (c:=x66.2) rfl Try.underlying4 rfl rfl (mB rfl (L_split (d:=38) (b:=(x30.2 != x66.2)) rfl (fun hc100=>?_) (fun hc100=>?_))))))
 rw [ite_t hc100] at hb98
 refine ps rfl (ps rfl (ps rfl (ps rfl (L_pick (v:=Bo b98) rfl rfl (congrArg Value.bool (so hb98)) (mB rfl (L_split (d:=44) (b:=b98) rfl (fun hc101=>?_) (fun hc101=>?_)))))))
 refine ps rfl (ps rfl (L_pick (v:=Bo (b98 || (!x30.2))) rfl rfl (or_t hc101) (nn ?_)))
 have Z:=Z.gets [4,5,2,3,5] rfl
 exact rj hR99 ⟨rfl,rfl,rfl,rfl,rfl,rfl,(Star.keepN 5 Z)⟩
 exact boolNo (so hb98).symm hc101
 rw [ite_f hc100] at hb98
 obtain ⟨x96,hx96,hb98⟩:=bind_some hb98
 refine L_lda (cs:=[r48_0,I x30.1.bound]) rfl Try.isAgg43 Try.sizeOf43 rfl (At.sub0 (Blk.at (Star.blkAt 4 Z rfl)) 0 2) rfl (L_lda (cs:=[r84_0,I x66.1.bound]) rfl Try.isAgg43 Try.sizeOf43 rfl (At.sub0 (Blk.at (Star.blkAt 0 Z rfl)) 0 2) rfl ?_)
 obtain ⟨H102b,l103,s104,z105,k106⟩:=Z.borrow
 have hb107 : (rS 112 rTerm).rel H102b [r48_0] x30.1.terms:=fz_own 5 z105 rfl
 have hb108 : (rS 112 rTerm).rel H102b [r84_0] x66.1.terms:=fz_own 1 z105 rfl
 refine L_call rfl Try.call48 (ops2 rfl rfl) (i_ConstraintSame_c (a:=x30.1) (b:=x66.1) s104 hb107 hb108 hx96) ?_
 rintro _ w109 ⟨rfl,Z⟩
 have Z:=k106 Z c0
 refine L_not_ rfl rfl (L_pick (v:=Bo b98) rfl rfl (congrArg Value.bool (so hb98)) (mB rfl (L_split (d:=44) (b:=b98) rfl (fun hc110=>?_) (fun hc110=>?_))))
 refine ps rfl (ps rfl (L_pick (v:=Bo (b98 || (!x30.2))) rfl rfl (or_t hc110) (nn ?_)))
 have Z:=Z.gets [4,5,2,3,5] rfl
 exact rj hR99 ⟨rfl,rfl,rfl,rfl,rfl,rfl,(Star.keepN 5 Z)⟩
 refine mB rfl (L_not_ rfl rfl (L_pick (v:=Bo (b98 || (!x30.2))) rfl rfl (or_f hc110 rfl) (nn ?_)))
 have Z:=Z.gets [4,5,2,3,5] rfl
 exact rj hR99 ⟨rfl,rfl,rfl,rfl,rfl,rfl,(Star.keepN 5 Z)⟩
 intro f w_ hR
 obtain ⟨sf3,sf4,sf5,sf6,sf7,sf47,Z⟩:=rk hR99 hR
 refine W_cond (b:=(b98 || (!x30.2))) sf47 (fun hc111=>?_) (fun hc111=>?_)
 have hF:=(ite_t hc111).symm.trans hF
 refine W_seq ?_
 obtain ⟨b121,hb121,hF⟩:=bind_some hF
 obtain ⟨R122,hR122⟩:=exR fun f w_=>f 2 = Bo b121∧Star H w_ ([])
 refine W_join R122 ?_ ?_
 refine W_region (mF sf5 rfl (mF sf7 rfl (L_beql (b:=x30.2) (c:=x66.2) rfl Try.underlying4 rfl rfl (mB rfl (L_split (d:=51) (b:=(x30.2 == x66.2)) rfl (fun hc123=>?_) (fun hc123=>?_))))))
 rw [ite_t hc123] at hb121
 obtain ⟨x119,hx119,hb121⟩:=bind_some hb121
 refine L_lda (cs:=[r48_0,I x30.1.bound]) rfl Try.isAgg43 Try.sizeOf43 sf4 (At.sub0 (Blk.at (Star.blkAt 4 Z rfl)) 0 2) rfl (L_lda (cs:=[r84_0,I x66.1.bound]) rfl Try.isAgg43 Try.sizeOf43 sf6 (At.sub0 (Blk.at (Star.blkAt 2 Z rfl)) 0 2) rfl ?_)
 obtain ⟨H124b,l125,s126,z127,k128⟩:=Z.borrow
 have hb129 : (rS 112 rTerm).rel H124b [r48_0] x30.1.terms:=fz_own 3 z127 rfl
 have hb130 : (rS 112 rTerm).rel H124b [r84_0] x66.1.terms:=fz_own 1 z127 rfl
 refine L_call rfl Try.call48 (ops2 rfl rfl) (i_ConstraintSame_c (a:=x30.1) (b:=x66.1) s126 hb129 hb130 hx119) ?_
 rintro _ w131 ⟨rfl,Z⟩
 have Z:=k128 Z c0
 refine L_pick (v:=Bo b121) rfl rfl (congrArg Value.bool (so hb121)) (aB rfl (nn (rj hR122 ⟨rfl,(Star.keepN 0 Z)⟩)))
 rw [ite_f hc123] at hb121
 refine ps rfl (ps rfl (ps rfl (L_pick (v:=Bo b121) rfl rfl (congrArg Value.bool (so hb121)) (aB rfl (nn (rj hR122 ⟨rfl,(Star.keepN 0 Z)⟩))))))
 intro f w_ hR
 obtain ⟨sf2,Z⟩:=rk hR122 hR
 refine W_ret (retG1 (v1:=Bo b121) Try.results11 sf2 ?_)
 obtain rfl:=so hF
 exact ⟨rfl,Z⟩
 have hF:=(ite_f hc111).symm.trans hF
 refine W_skip (W_seq ?_)
 obtain ⟨x135,hx135,hF⟩:=bind_some hF
 obtain ⟨x145,hx145,hF⟩:=bind_some hF
 refine W_region (L_bs rfl (parts1 rfl) (bs_65_1_0 (I (-11)) rfl) Z (fun g151 w152 Z=>?_))
 have Z:=litInts [(-11)] 1 Z rfl rfl (by decide)
 refine mF sf3 rfl (L_appC (v:=(Sl g151 1 1)) (u:=r15_0) rfl et_65 rfl rfl Z hx135 (fun v154 w155 Z=>?_))
 obtain ⟨H157b,l158,s159,z160,k161⟩:=Z.borrow
 have hb162 : (rS 3 RP.int).rel H157b [v154] x135:=fz_own 0 z160 rfl
 refine L_call rfl Try.call46 (ops1 rfl) (i_ClauseOf_c (lits:=x135) s159 hb162 hx145) ?_
 rintro _ w163 ⟨r163_0,rfl,Z⟩
 have Z:=k161 Z (co closed_term c0)
 refine mV (.tuple #[.agg #[r163_0,I x145.1.bound],Bo x145.2]) rfl (L_ex (v:=.agg #[r163_0,I x145.1.bound]) rfl rfl rfl (L_ex (v:=Bo x145.2) rfl rfl rfl (L_al (cs:=#[S0,I 0]) rfl Try.zeroValue43 rfl Z (fun g165 w166 Z=>L_staB (vs:=#[r163_0,I x145.1.bound]) (cs2:=#[r163_0,I x145.1.bound]) 0 rfl Try.sizeOf43 rfl rfl rfl (ones_cons (one_len (Star.len 1 Z rfl)) (ones_cons rfl ones_nil)) Z rfl (by show 0 + 2≤2; decide) rfl (fun w167 Z=>aB rfl (nq (sq (mB rfl (L_not_ rfl rfl (nn (W_cond (b:=(!x145.2)) rfl (fun hc168=>?_) (fun hc168=>?_))))))))))))
 have hF:=(ite_t hc168).symm.trans hF
 refine sq (aB rfl (nn (W_ret (retG1 (v1:=Bo true) Try.results11 rfl ?_))))
 obtain rfl:=so hF
 exact ⟨rfl,(Star.keepN 0 Z)⟩
 have hF:=(ite_f hc168).symm.trans hF
 refine W_skip (W_seq ?_)
 obtain ⟨x175,hx175,hF⟩:=bind_some hF
 refine W_region (L_lda (cs:=[r48_0,I x30.1.bound]) rfl Try.isAgg43 Try.sizeOf43 sf4 (At.sub0 (Blk.at (Star.blkAt 7 Z rfl)) 0 2) rfl (L_lda (cs:=[r163_0,I x145.1.bound]) rfl Try.isAgg43 Try.sizeOf43 rfl (At.sub0 (Blk.at (Star.blkAt 0 Z rfl)) 0 2) rfl ?_))
 have Z:=Z.get 6 rfl
 obtain ⟨H180,l181,Z,hz182⟩:=Star.freeze Z
 have hz182 : (rS 112 rTerm).rel H180 [r48_0] x30.1.terms:=hz182
 have Z:=Z.get 1 rfl
 obtain ⟨H183,l184,Z,hz185⟩:=Star.freeze Z
 have hz185 : (rS 112 rTerm).rel H183 [r163_0] x145.1.terms:=hz185
 refine L_call rfl Try.call49 (ops2 rfl rfl) (i_AddConstraints_c (a:=x30.1) (b:=x145.1) Z (RP.mono _ hz182 l184) hz185 hx175) ?_
 rintro _ w186 ⟨H186,l186,r186_0,rfl,hr186_0,Z⟩
 refine mV (.tuple #[.agg #[r186_0,I x175.1.bound],Bo x175.2]) rfl (L_ex (v:=.agg #[r186_0,I x175.1.bound]) rfl rfl rfl (L_ex (v:=Bo x175.2) rfl rfl rfl (L_al (cs:=#[S0,I 0]) rfl Try.zeroValue43 rfl Z (fun g187 w188 Z=>L_staB (vs:=#[r186_0,I x175.1.bound]) (cs2:=#[r186_0,I x175.1.bound]) 0 rfl Try.sizeOf43 rfl rfl rfl (ones_cons (one_len (slice_len hr186_0)) (ones_cons rfl ones_nil)) Z rfl (by show 0 + 2≤2; decide) rfl (fun w189 Z=>aB rfl (nq ?_))))))
 obtain ⟨x190,hx190,hF⟩:=bind_some hF
 refine W_region (L_lda (cs:=[r186_0,I x175.1.bound]) rfl Try.isAgg43 Try.sizeOf43 rfl (At.sub0 (Blk.at (Star.blkAt 0 Z rfl)) 0 2) rfl (L_call rfl Try.call50 (ops2 rfl rfl) (i_DivideConstraint_c (c:=x175.1) (k:=2) Z hr186_0 hx190) ?_))
 rintro _ w195 ⟨H195,l195,r195_0,rfl,hr195_0,Z⟩
 refine mV (.tuple #[.agg #[r195_0,I x190.1.bound],Bo x190.2]) rfl (L_ex (v:=.agg #[r195_0,I x190.1.bound]) rfl rfl rfl (L_ex (v:=Bo x190.2) rfl rfl rfl (L_al (cs:=#[S0,I 0]) rfl Try.zeroValue43 rfl Z (fun g196 w197 Z=>L_staB (vs:=#[r195_0,I x190.1.bound]) (cs2:=#[r195_0,I x190.1.bound]) 0 rfl Try.sizeOf43 rfl rfl rfl (ones_cons (one_len (slice_len hr195_0)) (ones_cons rfl ones_nil)) Z rfl (by show 0 + 2≤2; decide) rfl (fun w198 Z=>aB rfl (nq ?_))))))
 obtain ⟨x205,hx205,hF⟩:=bind_some hF
 refine W_region (mF sf3 rfl ?_)
 obtain ⟨H211b,l212,s213,z214,k215⟩:=Z.borrow
 have hb216 : (rS 3 RP.int).rel H211b [r15_0] x7:=fz_own 4 z214 rfl
 refine L_call rfl Try.call46 (ops1 rfl) (i_ClauseOf_c (lits:=x7) s213 hb216 hx205) ?_
 rintro _ w217 ⟨r217_0,rfl,Z⟩
 have Z:=k215 Z (co closed_term c0)
 refine mV (.tuple #[.agg #[r217_0,I x205.1.bound],Bo x205.2]) rfl (L_ex (v:=.agg #[r217_0,I x205.1.bound]) rfl rfl rfl (L_ex (v:=Bo x205.2) rfl rfl rfl (L_al (cs:=#[S0,I 0]) rfl Try.zeroValue43 rfl Z (fun g219 w220 Z=>L_staB (vs:=#[r217_0,I x205.1.bound]) (cs2:=#[r217_0,I x205.1.bound]) 0 rfl Try.sizeOf43 rfl rfl rfl (ones_cons (one_len (Star.len 1 Z rfl)) (ones_cons rfl ones_nil)) Z rfl (by show 0 + 2≤2; decide) rfl (fun w221 Z=>aB rfl (nq ?_))))))
 obtain ⟨b230,hb230,hF⟩:=bind_some hF
 obtain ⟨R231,hR231⟩:=exR fun f w_=>f 2 = Bo b230∧Star H195 w_ ([])
 refine W_join R231 ?_ ?_
 refine W_region (mB rfl (mB rfl (L_split (d:=82) (b:=x175.2) rfl (fun hc232=>?_) (fun hc232=>?_))))
 refine mB rfl (L_pick (v:=Bo (x175.2 && x190.2)) rfl rfl (and_t hc232 rfl) (mB rfl (L_split (d:=85) (b:=(x175.2 && x190.2)) rfl (fun hc233=>?_) (fun hc233=>?_))))
 refine mB rfl (L_pick (v:=Bo ((x175.2 && x190.2) && x205.2)) rfl rfl (and_t hc233 rfl) (mB rfl (L_split (d:=88) (b:=((x175.2 && x190.2) && x205.2)) rfl (fun hc234=>?_) (fun hc234=>?_))))
 rw [ite_t hc234] at hb230
 obtain ⟨x228,hx228,hb230⟩:=bind_some hb230
 refine L_lda (cs:=[r195_0,I x190.1.bound]) rfl Try.isAgg43 Try.sizeOf43 rfl (At.sub0 (Blk.at (Star.blkAt 2 Z rfl)) 0 2) rfl (L_lda (cs:=[r217_0,I x205.1.bound]) rfl Try.isAgg43 Try.sizeOf43 rfl (At.sub0 (Blk.at (Star.blkAt 0 Z rfl)) 0 2) rfl ?_)
 obtain ⟨H235b,l236,s237,z238,k239⟩:=Z.borrow
 have hb240 : (rS 112 rTerm).rel H235b [r217_0] x205.1.terms:=fz_own 1 z238 rfl
 refine L_call rfl Try.call48 (ops2 rfl rfl) (i_ConstraintSame_c (a:=x190.1) (b:=x205.1) s237 (RP.mono _ hr195_0 l236) hb240 hx228) ?_
 rintro _ w241 ⟨rfl,Z⟩
 have Z:=k239 Z c0
 refine L_pick (v:=Bo b230) rfl rfl (congrArg Value.bool (so hb230)) (aB rfl (nn (rj hR231 ⟨rfl,(Star.keepN 0 Z)⟩)))
 rw [ite_f hc234] at hb230
 refine ps rfl (ps rfl (ps rfl (L_pick (v:=Bo b230) rfl rfl (congrArg Value.bool (so hb230)) (aB rfl (nn (rj hR231 ⟨rfl,(Star.keepN 0 Z)⟩))))))
 refine ps rfl (L_pick (v:=Bo ((x175.2 && x190.2) && x205.2)) rfl rfl (and_f hc233) (mB rfl (L_split (d:=88) (b:=((x175.2 && x190.2) && x205.2)) rfl (fun hc242=>?_) (fun hc242=>?_))))
 exact boolNo hc242 (andF hc233)
 rw [ite_f hc242] at hb230
 refine ps rfl (ps rfl (ps rfl (L_pick (v:=Bo b230) rfl rfl (congrArg Value.bool (so hb230)) (aB rfl (nn (rj hR231 ⟨rfl,(Star.keepN 0 Z)⟩))))))
 refine ps rfl (L_pick (v:=Bo (x175.2 && x190.2)) rfl rfl (and_f hc232) (mB rfl (L_split (d:=85) (b:=(x175.2 && x190.2)) rfl (fun hc243=>?_) (fun hc243=>?_))))
 exact boolNo hc243 (andF hc232)
 refine ps rfl (L_pick (v:=Bo ((x175.2 && x190.2) && x205.2)) rfl rfl (and_f hc243) (mB rfl (L_split (d:=88) (b:=((x175.2 && x190.2) && x205.2)) rfl (fun hc244=>?_) (fun hc244=>?_))))
 exact boolNo hc244 (andF hc243)
 rw [ite_f hc244] at hb230
 refine ps rfl (ps rfl (ps rfl (L_pick (v:=Bo b230) rfl rfl (congrArg Value.bool (so hb230)) (aB rfl (nn (rj hR231 ⟨rfl,(Star.keepN 0 Z)⟩))))))
 intro f w_ hR
 obtain ⟨sf2,Z⟩:=rk hR231 hR
 refine W_ret (retG1 (v1:=Bo b230) Try.results11 sf2 ?_)
 obtain rfl:=so hF
 exact ⟨rfl,(Star.down Z (Le.trans (Le.trans (Le.trans l181 l184) l186) l195) c0)⟩
end Go.Proofs.Yteeilbddjlpiaaa

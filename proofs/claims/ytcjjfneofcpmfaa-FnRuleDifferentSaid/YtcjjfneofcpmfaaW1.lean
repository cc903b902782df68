/- Part of a proof by program: W1. -/
import Derived.Test.YtcjjfneofcpmfaaD1
import Derived.Test.YtcjjfneofcpmfaaProg
namespace Go.Proofs.Ytcjjfneofcpmfaa
open Go Go.E Go.L Go.RowKit
set_option linter.unusedVariables false
set_option linter.unusedSimpArgs false
set_option maxRecDepth 100000

theorem Try_mix : Try.prog.follows .mixedOrders = true := by kernel_rfl
theorem fa_26_0 : FA Try.prog 26 0 0 := fa_of Try.underlying26 rfl Try.sizeOf23 rfl
theorem fa_26_1 : FA Try.prog 26 1 1 := fa_of Try.underlying26 rfl Try.sizeOf24 rfl
theorem fa_36_0 : FA Try.prog 36 0 0 := fa_of Try.underlying36 rfl Try.sizeOf3 rfl
theorem fa_36_1 : FA Try.prog 36 1 1 := fa_of Try.underlying36 rfl Try.sizeOf23 rfl
theorem fa_36_2 : FA Try.prog 36 2 2 := fa_of Try.underlying36 rfl Try.sizeOf23 rfl
theorem fa_36_3 : FA Try.prog 36 3 3 := fa_of Try.underlying36 rfl Try.sizeOf3 rfl
theorem fa_36_4 : FA Try.prog 36 4 4 := fa_of Try.underlying36 rfl Try.sizeOf34 rfl
theorem fa_55_0 : FA Try.prog 55 0 0 := fa_of Try.underlying55 rfl Try.sizeOf23 rfl
theorem fa_55_1 : FA Try.prog 55 1 1 := fa_of Try.underlying55 rfl Try.sizeOf53 rfl
theorem fa_86_0 : FA Try.prog 86 0 0 := fa_of Try.underlying86 rfl Try.sizeOf22 rfl
theorem fa_86_1 : FA Try.prog 86 1 1 := fa_of Try.underlying86 rfl Try.sizeOf3 rfl
theorem fa_96_0 : FA Try.prog 96 0 0 := fa_of Try.underlying96 rfl Try.sizeOf3 rfl
theorem fa_96_1 : FA Try.prog 96 1 1 := fa_of Try.underlying96 rfl Try.sizeOf23 rfl
theorem fa_96_2 : FA Try.prog 96 2 2 := fa_of Try.underlying96 rfl Try.sizeOf23 rfl
theorem fa_96_3 : FA Try.prog 96 3 3 := fa_of Try.underlying96 rfl Try.sizeOf3 rfl
theorem fa_96_4 : FA Try.prog 96 4 4 := fa_of Try.underlying96 rfl Try.sizeOf34 rfl
theorem et_22 : ET Try.prog 22 5 1 := et_of Try.underlying22 (by decide) (by kernel_rfl)
theorem et_23 : ET Try.prog 23 3 1 := et_of Try.underlying23 (by decide) (by kernel_rfl)
theorem et_24 : ET Try.prog 24 36 5 := et_of Try.underlying24 (by decide) (by kernel_rfl)
theorem et_34 : ET Try.prog 34 23 1 := et_of Try.underlying34 (by decide) (by kernel_rfl)
theorem et_44 : ET Try.prog 44 4 1 := et_of Try.underlying44 (by decide) (by kernel_rfl)
theorem et_53 : ET Try.prog 53 96 5 := et_of Try.underlying53 (by decide) (by kernel_rfl)
theorem bld_26_  : ∀ w, (Instr.build 26 #[]).run Try.prog w = .ok (.agg #[.slice none 0 0, .slice none 0 0]) w := by
  intro w
  simp [Instr.build, Instr.fill, Try.zeroValue26, Try.runUnderlying26, Try.sizeOf23, Try.sizeOf24, cells_agg]
theorem bld_26_0 (a0 : Value) (ha0 : a0.oneCell' = true) : ∀ w, (Instr.build 26 #[(0, a0)]).run Try.prog w = .ok (.agg #[a0, .slice none 0 0]) w := by
  intro w
  simp [Instr.build, Instr.fill, Try.zeroValue26, Try.runUnderlying26, Try.sizeOf23, Try.sizeOf24, cells_one ha0, cells_agg]
theorem bld_26_0_1 (a0 a1 : Value) (ha0 : a0.oneCell' = true) (ha1 : a1.oneCell' = true) : ∀ w, (Instr.build 26 #[(0, a0), (1, a1)]).run Try.prog w = .ok (.agg #[a0, a1]) w := by
  intro w
  simp [Instr.build, Instr.fill, Try.zeroValue26, Try.runUnderlying26, Try.sizeOf23, Try.sizeOf24, cells_one ha0, cells_one ha1, cells_agg]
theorem bld_36_0 (a0 : Value) (ha0 : a0.oneCell' = true) : ∀ w, (Instr.build 36 #[(0, a0)]).run Try.prog w = .ok (.agg #[a0, .slice none 0 0, .slice none 0 0, .int .i64 0, .slice none 0 0]) w := by
  intro w
  simp [Instr.build, Instr.fill, Try.zeroValue36, Try.runUnderlying36, Try.sizeOf3, Try.sizeOf23, Try.sizeOf34, cells_one ha0, cells_agg]
theorem bld_36_0_1 (a0 a1 : Value) (ha0 : a0.oneCell' = true) (ha1 : a1.oneCell' = true) : ∀ w, (Instr.build 36 #[(0, a0), (1, a1)]).run Try.prog w = .ok (.agg #[a0, a1, .slice none 0 0, .int .i64 0, .slice none 0 0]) w := by
  intro w
  simp [Instr.build, Instr.fill, Try.zeroValue36, Try.runUnderlying36, Try.sizeOf3, Try.sizeOf23, Try.sizeOf34, cells_one ha0, cells_one ha1, cells_agg]
theorem bld_36_0_1_2_3 (a0 a1 a2 a3 : Value) (ha0 : a0.oneCell' = true) (ha1 : a1.oneCell' = true) (ha2 : a2.oneCell' = true) (ha3 : a3.oneCell' = true) : ∀ w, (Instr.build 36 #[(0, a0), (1, a1), (2, a2), (3, a3)]).run Try.prog w = .ok (.agg #[a0, a1, a2, a3, .slice none 0 0]) w := by
  intro w
  simp [Instr.build, Instr.fill, Try.zeroValue36, Try.runUnderlying36, Try.sizeOf3, Try.sizeOf23, Try.sizeOf34, cells_one ha0, cells_one ha1, cells_one ha2, cells_one ha3, cells_agg]
theorem bld_36_0_1_3 (a0 a1 a2 : Value) (ha0 : a0.oneCell' = true) (ha1 : a1.oneCell' = true) (ha2 : a2.oneCell' = true) : ∀ w, (Instr.build 36 #[(0, a0), (1, a1), (3, a2)]).run Try.prog w = .ok (.agg #[a0, a1, .slice none 0 0, a2, .slice none 0 0]) w := by
  intro w
  simp [Instr.build, Instr.fill, Try.zeroValue36, Try.runUnderlying36, Try.sizeOf3, Try.sizeOf23, Try.sizeOf34, cells_one ha0, cells_one ha1, cells_one ha2, cells_agg]
theorem bld_36_0_1_4 (a0 a1 a2 : Value) (ha0 : a0.oneCell' = true) (ha1 : a1.oneCell' = true) (ha2 : a2.oneCell' = true) : ∀ w, (Instr.build 36 #[(0, a0), (1, a1), (4, a2)]).run Try.prog w = .ok (.agg #[a0, a1, .slice none 0 0, .int .i64 0, a2]) w := by
  intro w
  simp [Instr.build, Instr.fill, Try.zeroValue36, Try.runUnderlying36, Try.sizeOf3, Try.sizeOf23, Try.sizeOf34, cells_one ha0, cells_one ha1, cells_one ha2, cells_agg]
theorem bld_86_0 (a0 : Value) (ha0 : a0.oneCell' = true) : ∀ w, (Instr.build 86 #[(0, a0)]).run Try.prog w = .ok (.agg #[a0, .int .i64 0]) w := by
  intro w
  simp [Instr.build, Instr.fill, Try.zeroValue86, Try.runUnderlying86, Try.sizeOf3, Try.sizeOf22, cells_one ha0, cells_agg]
theorem bs_23_0  : ∀ w, (Instr.buildSlice 23 0 #[]).run Try.prog w = .ok (.slice (some ⟨w.heap.size, 0, none⟩) 0 0) (w.alloc (.cells #[] 3)) := by
  intro w
  simp [Instr.buildSlice, Instr.fill, newRow, Try.runUnderlying23, Try.sizeOf3, cells_agg, cells_int, cells_bool, cells_str, cells_sl, Array.range_succ, range0]
theorem bs_23_1_0 (a0 : Value) (ha0 : a0.oneCell' = true) : ∀ w, (Instr.buildSlice 23 1 #[(0, a0)]).run Try.prog w = .ok (.slice (some ⟨w.heap.size, 0, none⟩) 1 1) (w.alloc (.cells #[a0] 3)) := by
  intro w
  simp [Instr.buildSlice, Instr.fill, newRow, Try.zeroValue3, Try.runUnderlying23, Try.sizeOf3, cells_one ha0, cells_agg, cells_int, cells_bool, cells_str, cells_sl, Array.range_succ, range0]
theorem bs_23_2_0_0 (a0 a1 : Value) (ha0 : a0.oneCell' = true) (ha1 : a1.oneCell' = true) : ∀ w, (Instr.buildSlice 23 2 #[(0, a0), (1, a1)]).run Try.prog w = .ok (.slice (some ⟨w.heap.size, 0, none⟩) 2 2) (w.alloc (.cells #[a0, a1] 3)) := by
  intro w
  simp [Instr.buildSlice, Instr.fill, newRow, Try.zeroValue3, Try.runUnderlying23, Try.sizeOf3, cells_one ha0, cells_one ha1, cells_agg, cells_int, cells_bool, cells_str, cells_sl, Array.range_succ, range0]
theorem bs_23_3_0_0_0 (a0 a1 a2 : Value) (ha0 : a0.oneCell' = true) (ha1 : a1.oneCell' = true) (ha2 : a2.oneCell' = true) : ∀ w, (Instr.buildSlice 23 3 #[(0, a0), (1, a1), (2, a2)]).run Try.prog w = .ok (.slice (some ⟨w.heap.size, 0, none⟩) 3 3) (w.alloc (.cells #[a0, a1, a2] 3)) := by
  intro w
  simp [Instr.buildSlice, Instr.fill, newRow, Try.zeroValue3, Try.runUnderlying23, Try.sizeOf3, cells_one ha0, cells_one ha1, cells_one ha2, cells_agg, cells_int, cells_bool, cells_str, cells_sl, Array.range_succ, range0]
theorem bs_23_4_0_0_0_0 (a0 a1 a2 a3 : Value) (ha0 : a0.oneCell' = true) (ha1 : a1.oneCell' = true) (ha2 : a2.oneCell' = true) (ha3 : a3.oneCell' = true) : ∀ w, (Instr.buildSlice 23 4 #[(0, a0), (1, a1), (2, a2), (3, a3)]).run Try.prog w = .ok (.slice (some ⟨w.heap.size, 0, none⟩) 4 4) (w.alloc (.cells #[a0, a1, a2, a3] 3)) := by
  intro w
  simp [Instr.buildSlice, Instr.fill, newRow, Try.zeroValue3, Try.runUnderlying23, Try.sizeOf3, cells_one ha0, cells_one ha1, cells_one ha2, cells_one ha3, cells_agg, cells_int, cells_bool, cells_str, cells_sl, Array.range_succ, range0]
theorem bs_23_5_0_0_0_0_0 (a0 a1 a2 a3 a4 : Value) (ha0 : a0.oneCell' = true) (ha1 : a1.oneCell' = true) (ha2 : a2.oneCell' = true) (ha3 : a3.oneCell' = true) (ha4 : a4.oneCell' = true) : ∀ w, (Instr.buildSlice 23 5 #[(0, a0), (1, a1), (2, a2), (3, a3), (4, a4)]).run Try.prog w = .ok (.slice (some ⟨w.heap.size, 0, none⟩) 5 5) (w.alloc (.cells #[a0, a1, a2, a3, a4] 3)) := by
  intro w
  simp [Instr.buildSlice, Instr.fill, newRow, Try.zeroValue3, Try.runUnderlying23, Try.sizeOf3, cells_one ha0, cells_one ha1, cells_one ha2, cells_one ha3, cells_one ha4, cells_agg, cells_int, cells_bool, cells_str, cells_sl, Array.range_succ, range0]
theorem bs_23_6_0_0_0_0_0_0 (a0 a1 a2 a3 a4 a5 : Value) (ha0 : a0.oneCell' = true) (ha1 : a1.oneCell' = true) (ha2 : a2.oneCell' = true) (ha3 : a3.oneCell' = true) (ha4 : a4.oneCell' = true) (ha5 : a5.oneCell' = true) : ∀ w, (Instr.buildSlice 23 6 #[(0, a0), (1, a1), (2, a2), (3, a3), (4, a4), (5, a5)]).run Try.prog w = .ok (.slice (some ⟨w.heap.size, 0, none⟩) 6 6) (w.alloc (.cells #[a0, a1, a2, a3, a4, a5] 3)) := by
  intro w
  simp [Instr.buildSlice, Instr.fill, newRow, Try.zeroValue3, Try.runUnderlying23, Try.sizeOf3, cells_one ha0, cells_one ha1, cells_one ha2, cells_one ha3, cells_one ha4, cells_one ha5, cells_agg, cells_int, cells_bool, cells_str, cells_sl, Array.range_succ, range0]
theorem bs_23_7_0_0_0_0_0_0_0 (a0 a1 a2 a3 a4 a5 a6 : Value) (ha0 : a0.oneCell' = true) (ha1 : a1.oneCell' = true) (ha2 : a2.oneCell' = true) (ha3 : a3.oneCell' = true) (ha4 : a4.oneCell' = true) (ha5 : a5.oneCell' = true) (ha6 : a6.oneCell' = true) : ∀ w, (Instr.buildSlice 23 7 #[(0, a0), (1, a1), (2, a2), (3, a3), (4, a4), (5, a5), (6, a6)]).run Try.prog w = .ok (.slice (some ⟨w.heap.size, 0, none⟩) 7 7) (w.alloc (.cells #[a0, a1, a2, a3, a4, a5, a6] 3)) := by
  intro w
  simp [Instr.buildSlice, Instr.fill, newRow, Try.zeroValue3, Try.runUnderlying23, Try.sizeOf3, cells_one ha0, cells_one ha1, cells_one ha2, cells_one ha3, cells_one ha4, cells_one ha5, cells_one ha6, cells_agg, cells_int, cells_bool, cells_str, cells_sl, Array.range_succ, range0]
theorem bs_24_0  : ∀ w, (Instr.buildSlice 24 0 #[]).run Try.prog w = .ok (.slice (some ⟨w.heap.size, 0, none⟩) 0 0) (w.alloc (.cells #[] 36)) := by
  intro w
  simp [Instr.buildSlice, Instr.fill, newRow, Try.runUnderlying24, Try.sizeOf36, cells_agg, cells_int, cells_bool, cells_str, cells_sl, Array.range_succ, range0]
theorem bs_24_1_5 (a0 a1 a2 a3 a4 : Value)  : ∀ w, (Instr.buildSlice 24 1 #[(0, .agg #[a0, a1, a2, a3, a4])]).run Try.prog w = .ok (.slice (some ⟨w.heap.size, 0, none⟩) 1 1) (w.alloc (.cells #[a0, a1, a2, a3, a4] 36)) := by
  intro w
  simp [Instr.buildSlice, Instr.fill, newRow, Try.zeroValue36, Try.runUnderlying24, Try.sizeOf36, cells_agg, cells_int, cells_bool, cells_str, cells_sl, Array.range_succ, range0]
theorem bs_24_3_5_5_5 (a0 a1 a2 a3 a4 a5 a6 a7 a8 a9 a10 a11 a12 a13 a14 : Value)  : ∀ w, (Instr.buildSlice 24 3 #[(0, .agg #[a0, a1, a2, a3, a4]), (1, .agg #[a5, a6, a7, a8, a9]), (2, .agg #[a10, a11, a12, a13, a14])]).run Try.prog w = .ok (.slice (some ⟨w.heap.size, 0, none⟩) 3 3) (w.alloc (.cells #[a0, a1, a2, a3, a4, a5, a6, a7, a8, a9, a10, a11, a12, a13, a14] 36)) := by
  intro w
  simp [Instr.buildSlice, Instr.fill, newRow, Try.zeroValue36, Try.runUnderlying24, Try.sizeOf36, cells_agg, cells_int, cells_bool, cells_str, cells_sl, Array.range_succ, range0]
theorem bs_34_1_0 (a0 : Value) (ha0 : a0.oneCell' = true) : ∀ w, (Instr.buildSlice 34 1 #[(0, a0)]).run Try.prog w = .ok (.slice (some ⟨w.heap.size, 0, none⟩) 1 1) (w.alloc (.cells #[a0] 23)) := by
  intro w
  simp [Instr.buildSlice, Instr.fill, newRow, Try.zeroValue23, Try.runUnderlying34, Try.sizeOf23, cells_one ha0, cells_agg, cells_int, cells_bool, cells_str, cells_sl, Array.range_succ, range0]
theorem bs_44_0  : ∀ w, (Instr.buildSlice 44 0 #[]).run Try.prog w = .ok (.slice (some ⟨w.heap.size, 0, none⟩) 0 0) (w.alloc (.cells #[] 4)) := by
  intro w
  simp [Instr.buildSlice, Instr.fill, newRow, Try.runUnderlying44, Try.sizeOf4, cells_agg, cells_int, cells_bool, cells_str, cells_sl, Array.range_succ, range0]
theorem bs_44_1_0 (a0 : Value) (ha0 : a0.oneCell' = true) : ∀ w, (Instr.buildSlice 44 1 #[(0, a0)]).run Try.prog w = .ok (.slice (some ⟨w.heap.size, 0, none⟩) 1 1) (w.alloc (.cells #[a0] 4)) := by
  intro w
  simp [Instr.buildSlice, Instr.fill, newRow, Try.zeroValue4, Try.runUnderlying44, Try.sizeOf4, cells_one ha0, cells_agg, cells_int, cells_bool, cells_str, cells_sl, Array.range_succ, range0]
theorem s_l17Open_c {code : List UInt8} {v0 : Value} {H : FH} {w : World} {R : List Ass} (hst : Star H w R) (h0 : (RP.slice 5 RP.u8).rel H [v0] code) {r : Rd} (hF : s_l17Open code = some r) :
    C Try.prog 46 #[v0] w fun v w' => ∃ H' : FH, Le H H' ∧ ∃ (u1 : Nat) (u2 : Value), v = .pointer (some ⟨u1, 0, none⟩) ∧ (RP.slice 5 RP.u8).rel H' [u2] r.b ∧ Star H' w' (box u1 86 #[u2, .int .i64 r.p] :: R) := by
  unfold s_l17Open at hF
  refine C_enter Try.func46 rfl Try.ntmps46 rfl ?_
  refine W_seq ?_
  refine W_region ?_
  refine L_as (v := .pointer none) rfl rfl ?_
  refine L_nil ?_
  refine W_seq ?_
  refine W_seq ?_
  refine W_region ?_
  refine L_mv (v := v0) rfl rfl ?_
  refine L_len (v := v0) (n := List.length code) rfl Try.underlying22 rfl (slice_len h0) ?_
  refine L_gtr (m := (code.length : Int)) (n := 2000) rfl rfl rfl ?_
  refine L_nil ?_
  obtain ⟨code_1, hA3, hF⟩ := bind_some hF
  obtain ⟨R3, hR3⟩ : ∃ RR_ : Fr → World → Prop, RR_ = fun f w_ => ∃ v1_code : Value, f 0 = v1_code ∧ (RP.slice 5 RP.u8).rel H [v1_code] code_1 ∧ Star H w_ (R) := ⟨_, rfl⟩
  refine W_join R3 ?_ ?_
  ·
    refine W_cond (b := decide ((code.length : Int) > 2000)) rfl (fun hc4 => ?_) (fun hc4 => ?_)
    ·
      have hA3 := (ite_t hc4).symm.trans hA3
      obtain ⟨x5, hx5, hA3⟩ := bind_some hA3
      refine W_region ?_
      refine L_mv (v := v0) rfl rfl ?_
      refine L_sl (a := 0) (b := 2000) rfl et_22 rfl h0 rfl rfl hx5 ?_
      intro v8 hs9
      refine L_as (v := v8) rfl rfl ?_
      refine L_nil ?_
      obtain rfl := so hA3
      show R3 _ _
      rw [hR3]
      exact ⟨v8, rfl, hs9, hst⟩
    ·
      have hA3 := (ite_f hc4).symm.trans hA3
      refine W_skip ?_
      obtain rfl := so hA3
      show R3 _ _
      rw [hR3]
      exact ⟨v0, rfl, h0, hst⟩
  ·
    intro f w_ hR
    rw [hR3] at hR
    obtain ⟨v1_code, sf0, hv2_code, hst⟩ := hR
    clear hR3
    refine W_seq ?_
    refine W_region ?_
    refine L_mv (v := v1_code) rfl sf0 ?_
    refine L_bld rfl (parts1 rfl) (bld_86_0 (v1_code) (one_len (slice_len hv2_code))) ?_
    refine L_box (v := .agg #[v1_code, .int .i64 0]) (cs := #[v1_code, .int .i64 0]) rfl rfl rfl hst ?_
    intro g12 w13 hst
    refine L_as (v := .pointer (some ⟨g12, 0, none⟩)) rfl rfl ?_
    refine L_nil ?_
    refine W_ret ?_
    refine retG1 (v1 := .pointer (some ⟨g12, 0, none⟩)) Try.results46 rfl ?_
    obtain rfl := so hF
    exact ⟨H, (Le.refl _), g12, v1_code, rfl, hv2_code, hst⟩

theorem s_l17Rd_pick_c {r_ : Rd} {n_ : Int} {g_0 : Nat} {v0_0 : Value} {H : FH} {w : World} (hst : Star H w [box g_0 86 #[v0_0, .int .i64 r_.p]]) (h0_0 : (RP.slice 5 RP.u8).rel H [v0_0] r_.b) {r : Int × Int} (hF : s_l17Rd_pick r_ n_ = some r) :
    C Try.prog 70 #[.pointer (some ⟨g_0, 0, none⟩), .int .i64 n_] w fun v w' => v = .int .i64 r.1 ∧ Star H w' [box g_0 86 #[v0_0, .int .i64 r.2]] := by
  unfold s_l17Rd_pick at hF
  refine C_enter Try.func70 rfl Try.ntmps70 rfl ?_
  refine W_seq ?_
  refine W_region ?_
  refine L_as (v := .int .i64 0) rfl rfl ?_
  refine L_nil ?_
  refine W_seq ?_
  refine W_region ?_
  refine L_mv (v := .pointer (some ⟨g_0, 0, none⟩)) rfl rfl ?_
  refine L_mv (v := .pointer (some ⟨g_0, 0, none⟩)) rfl rfl ?_
  refine L_nc rfl rfl ?_
  refine L_fa (o' := 1) rfl fa_86_1 rfl rfl ?_
  refine L_ld (v := .int .i64 r_.p) rfl Try.isAgg3 rfl (At.cell0 (Blk.at (Star.blkAt 0 hst rfl)) (j := 1) rfl) ?_
  refine L_add (m := r_.p) (n := 1) rfl rfl rfl ?_
  refine L_nc rfl rfl ?_
  refine L_fa (o' := 1) rfl fa_86_1 rfl rfl ?_
  refine L_stB (v := .int .i64 (i64 (r_.p + 1))) (cs2 := #[v0_0, .int .i64 (i64 (r_.p + 1))]) 0 rfl Try.sizeOf3 rfl rfl rfl hst rfl rfl rfl ?_
  intro w2 hst
  refine L_nil ?_
  refine W_seq ?_
  refine W_seq ?_
  obtain ⟨R3, hR3⟩ : ∃ RR_ : Fr → World → Prop, RR_ = fun f w_ => f 0 = .pointer (some ⟨g_0, 0, none⟩) ∧ f 1 = .int .i64 n_ ∧ f 24 = .bool ((decide (n_ < 1)) || ((r_.b.length : Int) == 0)) ∧ Star H w_ ([box g_0 86 #[v0_0, .int .i64 (i64 (r_.p + 1))]]) := ⟨_, rfl⟩
  refine W_join R3 ?_ ?_
  ·
    refine W_region ?_
    refine L_mv (v := .int .i64 n_) rfl rfl ?_
    refine L_lss (m := n_) (n := 1) rfl rfl rfl ?_
    refine L_mv (v := .bool (decide (n_ < 1))) rfl rfl ?_
    refine L_split (d := 17) (b := decide (n_ < 1)) rfl (fun hc4 => ?_) (fun hc4 => ?_)
    ·
      refine L_pass rfl ?_
      refine L_pass rfl ?_
      refine L_pass rfl ?_
      refine L_pass rfl ?_
      refine L_pass rfl ?_
      refine L_pass rfl ?_
      refine L_pick (v := .bool ((decide (n_ < 1)) || ((r_.b.length : Int) == 0))) rfl rfl (or_t hc4) ?_
      refine L_nil ?_
      show R3 _ _
      rw [hR3]
      exact ⟨rfl, rfl, rfl, hst⟩
    ·
      refine L_mv (v := .pointer (some ⟨g_0, 0, none⟩)) rfl rfl ?_
      refine L_nc rfl rfl ?_
      refine L_fa (o' := 0) rfl fa_86_0 rfl rfl ?_
      refine L_ld (v := v0_0) rfl Try.isAgg22 rfl (At.cell0 (Blk.at (Star.blkAt 0 hst rfl)) (j := 0) rfl) ?_
      refine L_len (v := v0_0) (n := List.length r_.b) rfl Try.underlying22 rfl (slice_len h0_0) ?_
      refine L_eql (m := (r_.b.length : Int)) (n := 0) rfl rfl rfl ?_
      refine L_pick (v := .bool ((decide (n_ < 1)) || ((r_.b.length : Int) == 0))) rfl rfl (or_f hc4 rfl) ?_
      refine L_nil ?_
      show R3 _ _
      rw [hR3]
      exact ⟨rfl, rfl, rfl, hst⟩
  ·
    intro f w_ hR
    rw [hR3] at hR
    obtain ⟨sf0, sf1, sf24, hst⟩ := hR
    clear hR3
    refine W_cond (b := ((decide (n_ < 1)) || ((r_.b.length : Int) == 0))) sf24 (fun hc5 => ?_) (fun hc5 => ?_)
    ·
      have hF := (ite_t hc5).symm.trans hF
      refine W_seq ?_
      refine W_region ?_
      refine L_as (v := .int .i64 0) rfl rfl ?_
      refine L_nil ?_
      refine W_ret ?_
      refine retG1 (v1 := .int .i64 0) Try.results70 rfl ?_
      obtain rfl := so hF
      exact ⟨rfl, hst⟩
    ·
      have hF := (ite_f hc5).symm.trans hF
      refine W_skip ?_
      refine W_seq ?_
      refine W_region ?_
      refine L_mv (v := .pointer (some ⟨g_0, 0, none⟩)) rfl sf0 ?_
      refine L_nc rfl rfl ?_
      refine L_fa (o' := 1) rfl fa_86_1 rfl rfl ?_
      refine L_ld (v := .int .i64 (i64 (r_.p + 1))) rfl Try.isAgg3 rfl (At.cell0 (Blk.at (Star.blkAt 0 hst rfl)) (j := 1) rfl) ?_
      refine L_sub (m := i64 (r_.p + 1)) (n := 1) rfl rfl rfl ?_
      refine L_as (v := .int .i64 (i64 ((i64 (r_.p + 1)) - 1))) rfl rfl ?_
      refine L_nil ?_
      refine W_seq ?_
      refine W_seq ?_
      refine W_region ?_
      refine L_mv (v := .int .i64 (i64 ((i64 (r_.p + 1)) - 1))) rfl rfl ?_
      refine L_mv (v := .pointer (some ⟨g_0, 0, none⟩)) rfl sf0 ?_
      refine L_nc rfl rfl ?_
      refine L_fa (o' := 0) rfl fa_86_0 rfl rfl ?_
      refine L_ld (v := v0_0) rfl Try.isAgg22 rfl (At.cell0 (Blk.at (Star.blkAt 0 hst rfl)) (j := 0) rfl) ?_
      refine L_len (v := v0_0) (n := List.length r_.b) rfl Try.underlying22 rfl (slice_len h0_0) ?_
      refine L_lss (m := i64 ((i64 (r_.p + 1)) - 1)) (n := (r_.b.length : Int)) rfl rfl rfl ?_
      refine L_nil ?_
      refine W_cond (b := decide ((i64 ((i64 (r_.p + 1)) - 1)) < (r_.b.length : Int))) rfl (fun hc6 => ?_) (fun hc6 => ?_)
      ·
        have hF := (ite_t hc6).symm.trans hF
        refine W_seq ?_
        obtain ⟨x7, hx7, hF⟩ := bind_some hF
        obtain ⟨q12, hq12, hF⟩ := bind_some hF
        refine W_region ?_
        refine L_mv (v := .pointer (some ⟨g_0, 0, none⟩)) rfl sf0 ?_
        refine L_nc rfl rfl ?_
        refine L_fa (o' := 0) rfl fa_86_0 rfl rfl ?_
        refine L_ld (v := v0_0) rfl Try.isAgg22 rfl (At.cell0 (Blk.at (Star.blkAt 0 hst rfl)) (j := 0) rfl) ?_
        refine L_mv (v := .int .i64 (i64 ((i64 (r_.p + 1)) - 1))) rfl rfl ?_
        refine L_ix (r := RP.u8) rfl Try.underlying22 Try.sizeOf5 rfl h0_0 rfl hx7 ?_
        intro g13 o14 cs_g13 hrk_hat15 hat15
        obtain rfl : _ = [_] := hrk_hat15
        refine L_ld (v := .int .u8 (x7.toNat : Int)) rfl Try.isAgg5 rfl (At.cell (AtH.at hat15 hst.sub) (j := 0) rfl) ?_
        refine L_cv (n := (x7.toNat : Int)) rfl rfl ⟨_, Try.underlying5⟩ Try.underlying3 ?_
        refine L_mv (v := .int .i64 n_) rfl sf1 ?_
        refine L_rem (m := i64 (x7.toNat : Int)) (n := n_) rfl rfl rfl (fun he => by rw [if_pos he] at hq12; cases hq12) ?_
        refine L_as (v := .int .i64 (Int.tmod (i64 (x7.toNat : Int)) n_)) rfl rfl ?_
        refine L_nil ?_
        refine W_ret ?_
        refine retG1 (v1 := .int .i64 (Int.tmod (i64 (x7.toNat : Int)) n_)) Try.results70 rfl ?_
        obtain rfl := so hF
        exact ⟨rfl, hst⟩
      ·
        have hF := (ite_f hc6).symm.trans hF
        refine W_skip ?_
        refine W_seq ?_
        obtain ⟨q17, hq17, hF⟩ := bind_some hF
        obtain ⟨x18, hx18, hF⟩ := bind_some hF
        obtain ⟨q23, hq23, hF⟩ := bind_some hF
        obtain ⟨x24, hx24, hF⟩ := bind_some hF
        obtain ⟨q29, hq29, hF⟩ := bind_some hF
        refine W_drawS 44 [isV (.pointer (some ⟨g_0, 0, none⟩)), isV (.pointer (some ⟨g_0, 0, none⟩)), isV (.pointer (some ⟨g_0, 0, none⟩)), isV (v0_0), isV (.int .i64 (i64 ((i64 (r_.p + 1)) - 1))), isV (.pointer (some ⟨g_0, 0, none⟩)), isV (.pointer (some ⟨g_0, 0, none⟩)), isV (.pointer (some ⟨g_0, 0, none⟩)), isV (v0_0), isV (.int .i64 (r_.b.length : Int)), isV (.int .i64 (Int.tmod (i64 ((i64 (r_.p + 1)) - 1)) (r_.b.length : Int))), isEl RP.u8 x18 0, isV (.int .u8 (x18.toNat : Int)), isV (.int .i64 (i64 (x18.toNat : Int))), isV (.int .i64 (i64 ((i64 (x18.toNat : Int)) * 131))), isV (.pointer (some ⟨g_0, 0, none⟩)), isV (.pointer (some ⟨g_0, 0, none⟩)), isV (.pointer (some ⟨g_0, 0, none⟩)), isV (v0_0), isV (.int .i64 (i64 ((i64 (r_.p + 1)) - 1))), isV (.int .i64 (i64 ((i64 ((i64 (r_.p + 1)) - 1)) * 7))), isV (.int .i64 (i64 ((i64 ((i64 ((i64 (r_.p + 1)) - 1)) * 7)) + 3))), isV (.pointer (some ⟨g_0, 0, none⟩)), isV (.pointer (some ⟨g_0, 0, none⟩)), isV (.pointer (some ⟨g_0, 0, none⟩)), isV (v0_0), isV (.int .i64 (r_.b.length : Int)), isV (.int .i64 (Int.tmod (i64 ((i64 ((i64 ((i64 (r_.p + 1)) - 1)) * 7)) + 3)) (r_.b.length : Int))), isEl RP.u8 x24 0, isV (.int .u8 (x24.toNat : Int)), isV (.int .i64 (i64 (x24.toNat : Int))), isV (.int .i64 (i64 ((i64 (x24.toNat : Int)) * 1117))), isV (.int .i64 (i64 ((i64 ((i64 (x18.toNat : Int)) * 131)) + (i64 ((i64 (x24.toNat : Int)) * 1117))))), isV (.int .i64 (i64 ((i64 (r_.p + 1)) - 1))), isV (.int .i64 (i64 ((i64 ((i64 (r_.p + 1)) - 1)) * 29))), isV (.int .i64 (i64 ((i64 ((i64 ((i64 (x18.toNat : Int)) * 131)) + (i64 ((i64 (x24.toNat : Int)) * 1117)))) + (i64 ((i64 ((i64 (r_.p + 1)) - 1)) * 29))))), isV (.int .i64 (i64 ((i64 (r_.p + 1)) - 1))), isV (.pointer (some ⟨g_0, 0, none⟩)), isV (.pointer (some ⟨g_0, 0, none⟩)), isV (.pointer (some ⟨g_0, 0, none⟩)), isV (v0_0), isV (.int .i64 (r_.b.length : Int)), isV (.int .i64 (i64 (Int.tdiv (i64 ((i64 (r_.p + 1)) - 1)) (r_.b.length : Int)))), isV (.int .i64 (i64 ((i64 (Int.tdiv (i64 ((i64 (r_.p + 1)) - 1)) (r_.b.length : Int))) * 53)))] [box g_0 86 #[v0_0, .int .i64 (i64 (r_.p + 1))]] [] ([]) [([], []), ([], []), ([], []), ([], []), ([], []), ([], []), ([], []), ([], []), ([], []), ([], []), ([], []), ([], []), ([], []), ([], []), ([], []), ([], []), ([], []), ([], []), ([], []), ([], []), ([], []), ([], []), ([], []), ([], []), ([], []), ([], []), ([], []), ([], []), ([], []), ([], []), ([], []), ([], []), ([], []), ([], []), ([], []), ([], []), ([], []), ([], []), ([], []), ([], []), ([], []), ([], []), ([], []), ([], [])] (S := []) Try_mix (by kernel_rfl) rfl (by kernel_rfl) (amF_cons (mono_V _) (amF_cons (mono_V _) (amF_cons (mono_V _) (amF_cons (mono_V _) (amF_cons (mono_V _) (amF_cons (mono_V _) (amF_cons (mono_V _) (amF_cons (mono_V _) (amF_cons (mono_V _) (amF_cons (mono_V _) (amF_cons (mono_V _) (amF_cons (mono_el _ _ _) (amF_cons (mono_V _) (amF_cons (mono_V _) (amF_cons (mono_V _) (amF_cons (mono_V _) (amF_cons (mono_V _) (amF_cons (mono_V _) (amF_cons (mono_V _) (amF_cons (mono_V _) (amF_cons (mono_V _) (amF_cons (mono_V _) (amF_cons (mono_V _) (amF_cons (mono_V _) (amF_cons (mono_V _) (amF_cons (mono_V _) (amF_cons (mono_V _) (amF_cons (mono_V _) (amF_cons (mono_el _ _ _) (amF_cons (mono_V _) (amF_cons (mono_V _) (amF_cons (mono_V _) (amF_cons (mono_V _) (amF_cons (mono_V _) (amF_cons (mono_V _) (amF_cons (mono_V _) (amF_cons (mono_V _) (amF_cons (mono_V _) (amF_cons (mono_V _) (amF_cons (mono_V _) (amF_cons (mono_V _) (amF_cons (mono_V _) (amF_cons (mono_V _) (amF_cons (mono_V _) amF_nil)))))))))))))))))))))))))))))))))))))))))))) hst ?_ (fun f w_ H30 hS30 hE30 hT30 hst => ?_)
        ·
          refine opsS_cons ?_ ?_
          ·
            intro f w_ H30 X30 hS30 hE30 hP30 hst
            refine L_mv (v := .pointer (some ⟨g_0, 0, none⟩)) rfl ((hS30 0 rfl).trans sf0) ?_
            exact L_nil ⟨rfl, _, _, _, rfl, rfl, Le.refl _, rfl, hst⟩
          refine opsS_cons ?_ ?_
          ·
            intro f w_ H30 X30 hS30 hE30 hP30 hst
            refine L_nc rfl (hP30 0 47 rfl rfl) ?_
            exact L_nil ⟨rfl, _, _, _, rfl, rfl, Le.refl _, rfl, hst⟩
          refine opsS_cons ?_ ?_
          ·
            intro f w_ H30 X30 hS30 hE30 hP30 hst
            refine L_fa (o' := 0) rfl fa_86_0 (hP30 1 48 rfl rfl) rfl ?_
            exact L_nil ⟨rfl, _, _, _, rfl, rfl, Le.refl _, rfl, hst⟩
          refine opsS_cons ?_ ?_
          ·
            intro f w_ H30 X30 hS30 hE30 hP30 hst
            refine L_ld (v := v0_0) rfl Try.isAgg22 (hP30 2 49 rfl rfl) (At.cell0 (Blk.at (Star.blkAt 0 hst rfl)) (j := 0) rfl) ?_
            exact L_nil ⟨rfl, _, _, _, rfl, rfl, Le.refl _, rfl, hst⟩
          refine opsS_cons ?_ ?_
          ·
            intro f w_ H30 X30 hS30 hE30 hP30 hst
            refine L_mv (v := .int .i64 (i64 ((i64 (r_.p + 1)) - 1))) rfl ((hS30 5 rfl).trans rfl) ?_
            exact L_nil ⟨rfl, _, _, _, rfl, rfl, Le.refl _, rfl, hst⟩
          refine opsS_cons ?_ ?_
          ·
            intro f w_ H30 X30 hS30 hE30 hP30 hst
            refine L_mv (v := .pointer (some ⟨g_0, 0, none⟩)) rfl ((hS30 0 rfl).trans sf0) ?_
            exact L_nil ⟨rfl, _, _, _, rfl, rfl, Le.refl _, rfl, hst⟩
          refine opsS_cons ?_ ?_
          ·
            intro f w_ H30 X30 hS30 hE30 hP30 hst
            refine L_nc rfl (hP30 5 52 rfl rfl) ?_
            exact L_nil ⟨rfl, _, _, _, rfl, rfl, Le.refl _, rfl, hst⟩
          refine opsS_cons ?_ ?_
          ·
            intro f w_ H30 X30 hS30 hE30 hP30 hst
            refine L_fa (o' := 0) rfl fa_86_0 (hP30 6 53 rfl rfl) rfl ?_
            exact L_nil ⟨rfl, _, _, _, rfl, rfl, Le.refl _, rfl, hst⟩
          refine opsS_cons ?_ ?_
          ·
            intro f w_ H30 X30 hS30 hE30 hP30 hst
            refine L_ld (v := v0_0) rfl Try.isAgg22 (hP30 7 54 rfl rfl) (At.cell0 (Blk.at (Star.blkAt 0 hst rfl)) (j := 0) rfl) ?_
            exact L_nil ⟨rfl, _, _, _, rfl, rfl, Le.refl _, rfl, hst⟩
          refine opsS_cons ?_ ?_
          ·
            intro f w_ H30 X30 hS30 hE30 hP30 hst
            refine L_len (v := v0_0) (n := List.length r_.b) rfl Try.underlying22 (hP30 8 55 rfl rfl) (slice_len (RP.mono _ h0_0 hE30)) ?_
            exact L_nil ⟨rfl, _, _, _, rfl, rfl, Le.refl _, rfl, hst⟩
          refine opsS_cons ?_ ?_
          ·
            intro f w_ H30 X30 hS30 hE30 hP30 hst
            refine L_rem (m := i64 ((i64 (r_.p + 1)) - 1)) (n := (r_.b.length : Int)) rfl (hP30 4 51 rfl rfl) (hP30 9 56 rfl rfl) (fun he => by rw [if_pos he] at hq17; cases hq17) ?_
            exact L_nil ⟨rfl, _, _, _, rfl, rfl, Le.refl _, rfl, hst⟩
          refine opsS_cons ?_ ?_
          ·
            intro f w_ H30 X30 hS30 hE30 hP30 hst
            refine L_ix (r := RP.u8) rfl Try.underlying22 Try.sizeOf5 (hP30 3 50 rfl rfl) (RP.mono _ h0_0 hE30) (hP30 10 57 rfl rfl) hx18 ?_
            intro g39 o40 cs_g39 hrk_hat41 hat41
            obtain rfl : _ = [_] := hrk_hat41
            exact L_nil ⟨rfl, _, _, _, rfl, rfl, Le.refl _, ⟨_, _, _, rfl, rfl, hat41⟩, hst⟩
          refine opsS_cons ?_ ?_
          ·
            intro f w_ H30 X30 hS30 hE30 hP30 hst
            obtain ⟨g43, o43, cs43, hv43, hrk_hat43, hat43⟩ := (hP30 11 58 rfl rfl)
            obtain rfl : _ = [_] := hrk_hat43
            refine L_ld (v := .int .u8 (x18.toNat : Int)) rfl Try.isAgg5 hv43 (At.cell (AtH.at hat43 hst.sub) (j := 0) rfl) ?_
            exact L_nil ⟨rfl, _, _, _, rfl, rfl, Le.refl _, rfl, hst⟩
          refine opsS_cons ?_ ?_
          ·
            intro f w_ H30 X30 hS30 hE30 hP30 hst
            refine L_cv (n := (x18.toNat : Int)) rfl (hP30 12 59 rfl rfl) ⟨_, Try.underlying5⟩ Try.underlying3 ?_
            exact L_nil ⟨rfl, _, _, _, rfl, rfl, Le.refl _, rfl, hst⟩
          refine opsS_cons ?_ ?_
          ·
            intro f w_ H30 X30 hS30 hE30 hP30 hst
            refine L_mul (m := i64 (x18.toNat : Int)) (n := 131) rfl (hP30 13 60 rfl rfl) rfl ?_
            exact L_nil ⟨rfl, _, _, _, rfl, rfl, Le.refl _, rfl, hst⟩
          refine opsS_cons ?_ ?_
          ·
            intro f w_ H30 X30 hS30 hE30 hP30 hst
            refine L_mv (v := .pointer (some ⟨g_0, 0, none⟩)) rfl ((hS30 0 rfl).trans sf0) ?_
            exact L_nil ⟨rfl, _, _, _, rfl, rfl, Le.refl _, rfl, hst⟩
          refine opsS_cons ?_ ?_
          ·
            intro f w_ H30 X30 hS30 hE30 hP30 hst
            refine L_nc rfl (hP30 15 62 rfl rfl) ?_
            exact L_nil ⟨rfl, _, _, _, rfl, rfl, Le.refl _, rfl, hst⟩
          refine opsS_cons ?_ ?_
          ·
            intro f w_ H30 X30 hS30 hE30 hP30 hst
            refine L_fa (o' := 0) rfl fa_86_0 (hP30 16 63 rfl rfl) rfl ?_
            exact L_nil ⟨rfl, _, _, _, rfl, rfl, Le.refl _, rfl, hst⟩
          refine opsS_cons ?_ ?_
          ·
            intro f w_ H30 X30 hS30 hE30 hP30 hst
            refine L_ld (v := v0_0) rfl Try.isAgg22 (hP30 17 64 rfl rfl) (At.cell0 (Blk.at (Star.blkAt 0 hst rfl)) (j := 0) rfl) ?_
            exact L_nil ⟨rfl, _, _, _, rfl, rfl, Le.refl _, rfl, hst⟩
          refine opsS_cons ?_ ?_
          ·
            intro f w_ H30 X30 hS30 hE30 hP30 hst
            refine L_mv (v := .int .i64 (i64 ((i64 (r_.p + 1)) - 1))) rfl ((hS30 5 rfl).trans rfl) ?_
            exact L_nil ⟨rfl, _, _, _, rfl, rfl, Le.refl _, rfl, hst⟩
          refine opsS_cons ?_ ?_
          ·
            intro f w_ H30 X30 hS30 hE30 hP30 hst
            refine L_mul (m := i64 ((i64 (r_.p + 1)) - 1)) (n := 7) rfl (hP30 19 66 rfl rfl) rfl ?_
            exact L_nil ⟨rfl, _, _, _, rfl, rfl, Le.refl _, rfl, hst⟩
          refine opsS_cons ?_ ?_
          ·
            intro f w_ H30 X30 hS30 hE30 hP30 hst
            refine L_add (m := i64 ((i64 ((i64 (r_.p + 1)) - 1)) * 7)) (n := 3) rfl (hP30 20 67 rfl rfl) rfl ?_
            exact L_nil ⟨rfl, _, _, _, rfl, rfl, Le.refl _, rfl, hst⟩
          refine opsS_cons ?_ ?_
          ·
            intro f w_ H30 X30 hS30 hE30 hP30 hst
            refine L_mv (v := .pointer (some ⟨g_0, 0, none⟩)) rfl ((hS30 0 rfl).trans sf0) ?_
            exact L_nil ⟨rfl, _, _, _, rfl, rfl, Le.refl _, rfl, hst⟩
          refine opsS_cons ?_ ?_
          ·
            intro f w_ H30 X30 hS30 hE30 hP30 hst
            refine L_nc rfl (hP30 22 69 rfl rfl) ?_
            exact L_nil ⟨rfl, _, _, _, rfl, rfl, Le.refl _, rfl, hst⟩
          refine opsS_cons ?_ ?_
          ·
            intro f w_ H30 X30 hS30 hE30 hP30 hst
            refine L_fa (o' := 0) rfl fa_86_0 (hP30 23 70 rfl rfl) rfl ?_
            exact L_nil ⟨rfl, _, _, _, rfl, rfl, Le.refl _, rfl, hst⟩
          refine opsS_cons ?_ ?_
          ·
            intro f w_ H30 X30 hS30 hE30 hP30 hst
            refine L_ld (v := v0_0) rfl Try.isAgg22 (hP30 24 71 rfl rfl) (At.cell0 (Blk.at (Star.blkAt 0 hst rfl)) (j := 0) rfl) ?_
            exact L_nil ⟨rfl, _, _, _, rfl, rfl, Le.refl _, rfl, hst⟩
          refine opsS_cons ?_ ?_
          ·
            intro f w_ H30 X30 hS30 hE30 hP30 hst
            refine L_len (v := v0_0) (n := List.length r_.b) rfl Try.underlying22 (hP30 25 72 rfl rfl) (slice_len (RP.mono _ h0_0 hE30)) ?_
            exact L_nil ⟨rfl, _, _, _, rfl, rfl, Le.refl _, rfl, hst⟩
          refine opsS_cons ?_ ?_
          ·
            intro f w_ H30 X30 hS30 hE30 hP30 hst
            refine L_rem (m := i64 ((i64 ((i64 ((i64 (r_.p + 1)) - 1)) * 7)) + 3)) (n := (r_.b.length : Int)) rfl (hP30 21 68 rfl rfl) (hP30 26 73 rfl rfl) (fun he => by rw [if_pos he] at hq23; cases hq23) ?_
            exact L_nil ⟨rfl, _, _, _, rfl, rfl, Le.refl _, rfl, hst⟩
          refine opsS_cons ?_ ?_
          ·
            intro f w_ H30 X30 hS30 hE30 hP30 hst
            refine L_ix (r := RP.u8) rfl Try.underlying22 Try.sizeOf5 (hP30 18 65 rfl rfl) (RP.mono _ h0_0 hE30) (hP30 27 74 rfl rfl) hx24 ?_
            intro g45 o46 cs_g45 hrk_hat47 hat47
            obtain rfl : _ = [_] := hrk_hat47
            exact L_nil ⟨rfl, _, _, _, rfl, rfl, Le.refl _, ⟨_, _, _, rfl, rfl, hat47⟩, hst⟩
          refine opsS_cons ?_ ?_
          ·
            intro f w_ H30 X30 hS30 hE30 hP30 hst
            obtain ⟨g49, o49, cs49, hv49, hrk_hat49, hat49⟩ := (hP30 28 75 rfl rfl)
            obtain rfl : _ = [_] := hrk_hat49
            refine L_ld (v := .int .u8 (x24.toNat : Int)) rfl Try.isAgg5 hv49 (At.cell (AtH.at hat49 hst.sub) (j := 0) rfl) ?_
            exact L_nil ⟨rfl, _, _, _, rfl, rfl, Le.refl _, rfl, hst⟩
          refine opsS_cons ?_ ?_
          ·
            intro f w_ H30 X30 hS30 hE30 hP30 hst
            refine L_cv (n := (x24.toNat : Int)) rfl (hP30 29 76 rfl rfl) ⟨_, Try.underlying5⟩ Try.underlying3 ?_
            exact L_nil ⟨rfl, _, _, _, rfl, rfl, Le.refl _, rfl, hst⟩
          refine opsS_cons ?_ ?_
          ·
            intro f w_ H30 X30 hS30 hE30 hP30 hst
            refine L_mul (m := i64 (x24.toNat : Int)) (n := 1117) rfl (hP30 30 77 rfl rfl) rfl ?_
            exact L_nil ⟨rfl, _, _, _, rfl, rfl, Le.refl _, rfl, hst⟩
          refine opsS_cons ?_ ?_
          ·
            intro f w_ H30 X30 hS30 hE30 hP30 hst
            refine L_add (m := i64 ((i64 (x18.toNat : Int)) * 131)) (n := i64 ((i64 (x24.toNat : Int)) * 1117)) rfl (hP30 14 61 rfl rfl) (hP30 31 78 rfl rfl) ?_
            exact L_nil ⟨rfl, _, _, _, rfl, rfl, Le.refl _, rfl, hst⟩
          refine opsS_cons ?_ ?_
          ·
            intro f w_ H30 X30 hS30 hE30 hP30 hst
            refine L_mv (v := .int .i64 (i64 ((i64 (r_.p + 1)) - 1))) rfl ((hS30 5 rfl).trans rfl) ?_
            exact L_nil ⟨rfl, _, _, _, rfl, rfl, Le.refl _, rfl, hst⟩
          refine opsS_cons ?_ ?_
          ·
            intro f w_ H30 X30 hS30 hE30 hP30 hst
            refine L_mul (m := i64 ((i64 (r_.p + 1)) - 1)) (n := 29) rfl (hP30 33 80 rfl rfl) rfl ?_
            exact L_nil ⟨rfl, _, _, _, rfl, rfl, Le.refl _, rfl, hst⟩
          refine opsS_cons ?_ ?_
          ·
            intro f w_ H30 X30 hS30 hE30 hP30 hst
            refine L_add (m := i64 ((i64 ((i64 (x18.toNat : Int)) * 131)) + (i64 ((i64 (x24.toNat : Int)) * 1117)))) (n := i64 ((i64 ((i64 (r_.p + 1)) - 1)) * 29)) rfl (hP30 32 79 rfl rfl) (hP30 34 81 rfl rfl) ?_
            exact L_nil ⟨rfl, _, _, _, rfl, rfl, Le.refl _, rfl, hst⟩
          refine opsS_cons ?_ ?_
          ·
            intro f w_ H30 X30 hS30 hE30 hP30 hst
            refine L_mv (v := .int .i64 (i64 ((i64 (r_.p + 1)) - 1))) rfl ((hS30 5 rfl).trans rfl) ?_
            exact L_nil ⟨rfl, _, _, _, rfl, rfl, Le.refl _, rfl, hst⟩
          refine opsS_cons ?_ ?_
          ·
            intro f w_ H30 X30 hS30 hE30 hP30 hst
            refine L_mv (v := .pointer (some ⟨g_0, 0, none⟩)) rfl ((hS30 0 rfl).trans sf0) ?_
            exact L_nil ⟨rfl, _, _, _, rfl, rfl, Le.refl _, rfl, hst⟩
          refine opsS_cons ?_ ?_
          ·
            intro f w_ H30 X30 hS30 hE30 hP30 hst
            refine L_nc rfl (hP30 37 84 rfl rfl) ?_
            exact L_nil ⟨rfl, _, _, _, rfl, rfl, Le.refl _, rfl, hst⟩
          refine opsS_cons ?_ ?_
          ·
            intro f w_ H30 X30 hS30 hE30 hP30 hst
            refine L_fa (o' := 0) rfl fa_86_0 (hP30 38 85 rfl rfl) rfl ?_
            exact L_nil ⟨rfl, _, _, _, rfl, rfl, Le.refl _, rfl, hst⟩
          refine opsS_cons ?_ ?_
          ·
            intro f w_ H30 X30 hS30 hE30 hP30 hst
            refine L_ld (v := v0_0) rfl Try.isAgg22 (hP30 39 86 rfl rfl) (At.cell0 (Blk.at (Star.blkAt 0 hst rfl)) (j := 0) rfl) ?_
            exact L_nil ⟨rfl, _, _, _, rfl, rfl, Le.refl _, rfl, hst⟩
          refine opsS_cons ?_ ?_
          ·
            intro f w_ H30 X30 hS30 hE30 hP30 hst
            refine L_len (v := v0_0) (n := List.length r_.b) rfl Try.underlying22 (hP30 40 87 rfl rfl) (slice_len (RP.mono _ h0_0 hE30)) ?_
            exact L_nil ⟨rfl, _, _, _, rfl, rfl, Le.refl _, rfl, hst⟩
          refine opsS_cons ?_ ?_
          ·
            intro f w_ H30 X30 hS30 hE30 hP30 hst
            refine L_quo (m := i64 ((i64 (r_.p + 1)) - 1)) (n := (r_.b.length : Int)) rfl (hP30 36 83 rfl rfl) (hP30 41 88 rfl rfl) (fun he => by rw [if_pos he] at hq29; cases hq29) ?_
            exact L_nil ⟨rfl, _, _, _, rfl, rfl, Le.refl _, rfl, hst⟩
          refine opsS_cons ?_ ?_
          ·
            intro f w_ H30 X30 hS30 hE30 hP30 hst
            refine L_mul (m := i64 (Int.tdiv (i64 ((i64 (r_.p + 1)) - 1)) (r_.b.length : Int))) (n := 53) rfl (hP30 42 89 rfl rfl) rfl ?_
            exact L_nil ⟨rfl, _, _, _, rfl, rfl, Le.refl _, rfl, hst⟩
          exact opsS_nil
        ·
          refine L_add (m := i64 ((i64 ((i64 ((i64 (x18.toNat : Int)) * 131)) + (i64 ((i64 (x24.toNat : Int)) * 1117)))) + (i64 ((i64 ((i64 (r_.p + 1)) - 1)) * 29)))) (n := i64 ((i64 (Int.tdiv (i64 ((i64 (r_.p + 1)) - 1)) (r_.b.length : Int))) * 53)) rfl (hT30 35 82 rfl rfl) (hT30 43 90 rfl rfl) ?_
          refine L_as (v := .int .i64 (i64 ((i64 ((i64 ((i64 ((i64 (x18.toNat : Int)) * 131)) + (i64 ((i64 (x24.toNat : Int)) * 1117)))) + (i64 ((i64 ((i64 (r_.p + 1)) - 1)) * 29)))) + (i64 ((i64 (Int.tdiv (i64 ((i64 (r_.p + 1)) - 1)) (r_.b.length : Int))) * 53))))) rfl rfl ?_
          refine L_nil ?_
          refine W_seq ?_
          refine W_region ?_
          refine L_mv (v := .int .i64 (i64 ((i64 ((i64 ((i64 ((i64 (x18.toNat : Int)) * 131)) + (i64 ((i64 (x24.toNat : Int)) * 1117)))) + (i64 ((i64 ((i64 (r_.p + 1)) - 1)) * 29)))) + (i64 ((i64 (Int.tdiv (i64 ((i64 (r_.p + 1)) - 1)) (r_.b.length : Int))) * 53))))) rfl rfl ?_
          refine L_mv (v := .int .i64 (i64 ((i64 ((i64 ((i64 ((i64 (x18.toNat : Int)) * 131)) + (i64 ((i64 (x24.toNat : Int)) * 1117)))) + (i64 ((i64 ((i64 (r_.p + 1)) - 1)) * 29)))) + (i64 ((i64 (Int.tdiv (i64 ((i64 (r_.p + 1)) - 1)) (r_.b.length : Int))) * 53))))) rfl rfl ?_
          refine L_quo (m := i64 ((i64 ((i64 ((i64 ((i64 (x18.toNat : Int)) * 131)) + (i64 ((i64 (x24.toNat : Int)) * 1117)))) + (i64 ((i64 ((i64 (r_.p + 1)) - 1)) * 29)))) + (i64 ((i64 (Int.tdiv (i64 ((i64 (r_.p + 1)) - 1)) (r_.b.length : Int))) * 53)))) (n := 64) rfl rfl rfl (by decide) ?_
          refine L_xor (m := i64 ((i64 ((i64 ((i64 ((i64 (x18.toNat : Int)) * 131)) + (i64 ((i64 (x24.toNat : Int)) * 1117)))) + (i64 ((i64 ((i64 (r_.p + 1)) - 1)) * 29)))) + (i64 ((i64 (Int.tdiv (i64 ((i64 (r_.p + 1)) - 1)) (r_.b.length : Int))) * 53)))) (n := i64 (Int.tdiv (i64 ((i64 ((i64 ((i64 ((i64 (x18.toNat : Int)) * 131)) + (i64 ((i64 (x24.toNat : Int)) * 1117)))) + (i64 ((i64 ((i64 (r_.p + 1)) - 1)) * 29)))) + (i64 ((i64 (Int.tdiv (i64 ((i64 (r_.p + 1)) - 1)) (r_.b.length : Int))) * 53)))) 64)) rfl rfl rfl ?_
          refine L_as (v := .int .i64 (xorI .i64 (i64 ((i64 ((i64 ((i64 ((i64 (x18.toNat : Int)) * 131)) + (i64 ((i64 (x24.toNat : Int)) * 1117)))) + (i64 ((i64 ((i64 (r_.p + 1)) - 1)) * 29)))) + (i64 ((i64 (Int.tdiv (i64 ((i64 (r_.p + 1)) - 1)) (r_.b.length : Int))) * 53)))) (i64 (Int.tdiv (i64 ((i64 ((i64 ((i64 ((i64 (x18.toNat : Int)) * 131)) + (i64 ((i64 (x24.toNat : Int)) * 1117)))) + (i64 ((i64 ((i64 (r_.p + 1)) - 1)) * 29)))) + (i64 ((i64 (Int.tdiv (i64 ((i64 (r_.p + 1)) - 1)) (r_.b.length : Int))) * 53)))) 64)))) rfl rfl ?_
          refine L_nil ?_
          refine W_seq ?_
          obtain ⟨q51, hq51, hF⟩ := bind_some hF
          refine W_region ?_
          refine L_mv (v := .int .i64 (xorI .i64 (i64 ((i64 ((i64 ((i64 ((i64 (x18.toNat : Int)) * 131)) + (i64 ((i64 (x24.toNat : Int)) * 1117)))) + (i64 ((i64 ((i64 (r_.p + 1)) - 1)) * 29)))) + (i64 ((i64 (Int.tdiv (i64 ((i64 (r_.p + 1)) - 1)) (r_.b.length : Int))) * 53)))) (i64 (Int.tdiv (i64 ((i64 ((i64 ((i64 ((i64 (x18.toNat : Int)) * 131)) + (i64 ((i64 (x24.toNat : Int)) * 1117)))) + (i64 ((i64 ((i64 (r_.p + 1)) - 1)) * 29)))) + (i64 ((i64 (Int.tdiv (i64 ((i64 (r_.p + 1)) - 1)) (r_.b.length : Int))) * 53)))) 64)))) rfl rfl ?_
          refine L_mv (v := .int .i64 n_) rfl ((hS30 1 rfl).trans sf1) ?_
          refine L_rem (m := (xorI .i64 (i64 ((i64 ((i64 ((i64 ((i64 (x18.toNat : Int)) * 131)) + (i64 ((i64 (x24.toNat : Int)) * 1117)))) + (i64 ((i64 ((i64 (r_.p + 1)) - 1)) * 29)))) + (i64 ((i64 (Int.tdiv (i64 ((i64 (r_.p + 1)) - 1)) (r_.b.length : Int))) * 53)))) (i64 (Int.tdiv (i64 ((i64 ((i64 ((i64 ((i64 (x18.toNat : Int)) * 131)) + (i64 ((i64 (x24.toNat : Int)) * 1117)))) + (i64 ((i64 ((i64 (r_.p + 1)) - 1)) * 29)))) + (i64 ((i64 (Int.tdiv (i64 ((i64 (r_.p + 1)) - 1)) (r_.b.length : Int))) * 53)))) 64)))) (n := n_) rfl rfl rfl (fun he => by rw [if_pos he] at hq51; cases hq51) ?_
          refine L_as (v := .int .i64 (Int.tmod (xorI .i64 (i64 ((i64 ((i64 ((i64 ((i64 (x18.toNat : Int)) * 131)) + (i64 ((i64 (x24.toNat : Int)) * 1117)))) + (i64 ((i64 ((i64 (r_.p + 1)) - 1)) * 29)))) + (i64 ((i64 (Int.tdiv (i64 ((i64 (r_.p + 1)) - 1)) (r_.b.length : Int))) * 53)))) (i64 (Int.tdiv (i64 ((i64 ((i64 ((i64 ((i64 (x18.toNat : Int)) * 131)) + (i64 ((i64 (x24.toNat : Int)) * 1117)))) + (i64 ((i64 ((i64 (r_.p + 1)) - 1)) * 29)))) + (i64 ((i64 (Int.tdiv (i64 ((i64 (r_.p + 1)) - 1)) (r_.b.length : Int))) * 53)))) 64))) n_)) rfl rfl ?_
          refine L_nil ?_
          refine W_ret ?_
          refine retG1 (v1 := .int .i64 (Int.tmod (xorI .i64 (i64 ((i64 ((i64 ((i64 ((i64 (x18.toNat : Int)) * 131)) + (i64 ((i64 (x24.toNat : Int)) * 1117)))) + (i64 ((i64 ((i64 (r_.p + 1)) - 1)) * 29)))) + (i64 ((i64 (Int.tdiv (i64 ((i64 (r_.p + 1)) - 1)) (r_.b.length : Int))) * 53)))) (i64 (Int.tdiv (i64 ((i64 ((i64 ((i64 ((i64 (x18.toNat : Int)) * 131)) + (i64 ((i64 (x24.toNat : Int)) * 1117)))) + (i64 ((i64 ((i64 (r_.p + 1)) - 1)) * 29)))) + (i64 ((i64 (Int.tdiv (i64 ((i64 (r_.p + 1)) - 1)) (r_.b.length : Int))) * 53)))) 64))) n_)) Try.results70 rfl ?_
          obtain rfl := so hF
          exact ⟨rfl, (Star.down hst hE30 (closedL_cons (closed_box _ _ _) closedL_nil))⟩

theorem s_l17Rd_num_c {r_ : Rd} {list : List Int} {g_0 : Nat} {v0_0 : Value} {v1 : Value} {H : FH} {w : World} (hst : Star H w [box g_0 86 #[v0_0, .int .i64 r_.p]]) (h0_0 : (RP.slice 5 RP.u8).rel H [v0_0] r_.b) (h1 : (RP.slice 3 RP.int).rel H [v1] list) {r : Int × Int} (hF : s_l17Rd_num r_ list = some r) :
    C Try.prog 49 #[.pointer (some ⟨g_0, 0, none⟩), v1] w fun v w' => v = .int .i64 r.1 ∧ Star H w' [box g_0 86 #[v0_0, .int .i64 r.2]] := by
  unfold s_l17Rd_num at hF
  refine C_enter Try.func49 rfl Try.ntmps49 rfl ?_
  refine W_seq ?_
  refine W_region ?_
  refine L_as (v := .int .i64 0) rfl rfl ?_
  refine L_nil ?_
  refine W_seq ?_
  obtain ⟨x6, hx6, hF⟩ := bind_some hF
  obtain ⟨x8, hx8, hF⟩ := bind_some hF
  refine W_region ?_
  refine L_mv (v := v1) rfl rfl ?_
  refine L_mv (v := .pointer (some ⟨g_0, 0, none⟩)) rfl rfl ?_
  refine L_mv (v := v1) rfl rfl ?_
  refine L_len (v := v1) (n := List.length list) rfl Try.underlying23 rfl (slice_len h1) ?_
  obtain ⟨Hb13, hle14, hsb15, hfz16, hbk17⟩ := Star.lend [_] hst
  refine L_call (args := #[.pointer (some ⟨g_0, 0, none⟩), .int .i64 (list.length : Int)]) rfl Try.call70 (ops2 rfl rfl) (s_l17Rd_pick_c (r_ := r_) (n_ := (list.length : Int)) hsb15 (RP.mono _ h0_0 hle14) hx6) ?_
  rintro _ w18 ⟨rfl, hst⟩
  have hst := hbk17 hst (closedL_cons (closed_box _ _ _) closedL_nil)
  refine L_ix (r := RP.int) rfl Try.underlying23 Try.sizeOf3 rfl h1 rfl hx8 ?_
  intro g19 o20 cs_g19 hrk_hat21 hat21
  obtain rfl : _ = [_] := hrk_hat21
  refine L_ld (v := .int .i64 x8) rfl Try.isAgg3 rfl (At.cell (AtH.at hat21 hst.sub) (j := 0) rfl) ?_
  refine L_as (v := .int .i64 x8) rfl rfl ?_
  refine L_nil ?_
  refine W_ret ?_
  refine retG1 (v1 := .int .i64 x8) Try.results49 rfl ?_
  obtain rfl := so hF
  exact ⟨rfl, hst⟩

theorem s_l6Copy_c {m : Model} {v0_0 : Value} {v0_1 : Value} {H : FH} {w : World} (hst : Star H w []) (h0_0 : (RP.slice 3 RP.int).rel H [v0_0] m.sizes) (h0_1 : (RP.slice 36 (rRule 3 23)).rel H [v0_1] m.rules) {r : Model} (hF : s_l6Copy m = some r) :
    C Try.prog 80 #[.agg #[v0_0, v0_1]] w fun v w' => ∃ (u1 : Value) (u2 : Value), v = .agg #[u1, u2] ∧ Star H w' [own (OR.ownS 3 (OR.frz RP.int)) [u1] r.sizes, own (OR.ownS 36 (oRule 3 23)) [u2] r.rules] := by
  unfold s_l6Copy at hF
  refine C_enter Try.func80 rfl Try.ntmps80 rfl ?_
  refine W_seq ?_
  refine W_region ?_
  refine L_box (v := .agg #[v0_0, v0_1]) (cs := #[v0_0, v0_1]) rfl rfl rfl hst ?_
  intro g5 w6 hst
  refine L_al (cs := #[(.slice none 0 0), (.slice none 0 0)]) rfl Try.zeroValue26 rfl hst ?_
  intro g7 w8 hst
  refine L_nil ?_
  refine W_seq ?_
  obtain ⟨x12, hx12, hF⟩ := bind_some hF
  refine W_region ?_
  refine L_bs rfl parts0 (bs_23_0  ) hst ?_
  intro g19 w20 hst
  have hst := Star.mkRow (R := (OR.frz RP.int)) [] [] 0 hst rfl rfl rfl (by decide)
  refine L_fa (o' := 0) rfl fa_26_0 rfl rfl ?_
  refine L_ld (v := v0_0) rfl Try.isAgg23 rfl (At.cell0 (Blk.at (Star.blkAt 2 hst rfl)) (j := 0) rfl) ?_
  refine L_app (v := (.slice (some ⟨g19, 0, none⟩) 0 0)) (u := v0_0) rfl et_23 rfl rfl hst h0_0 hx12 ?_
  intro v22 w23 hst
  refine L_bld rfl (parts1 rfl) (bld_26_0 (v22) (one_len (Star.len 0 hst rfl))) ?_
  refine L_al (cs := #[(.slice none 0 0), (.slice none 0 0)]) rfl Try.zeroValue26 rfl hst ?_
  intro g25 w26 hst
  refine L_staB (vs := #[v22, (.slice none 0 0)]) (cs2 := #[v22, (.slice none 0 0)]) 0 rfl Try.sizeOf26 rfl rfl rfl (ones_cons (one_len (Star.len 1 hst rfl)) (ones_cons rfl ones_nil)) hst rfl (by decide) rfl ?_
  intro w27 hst
  refine L_nil ?_
  refine W_seq ?_
  refine W_seq ?_
  refine W_region ?_
  refine L_as (v := .int .i64 0) rfl rfl ?_
  refine L_nil ?_
  have hlen33 : List.length m.rules ≤ 9223372036854775807 := len_le (slice_len h0_1)
  obtain ⟨j33, hL33, hF⟩ := bind_some hF
  obtain ⟨R33, hR33⟩ : ∃ RR_ : Fr → World → Prop, RR_ = fun f w_ => ∃ g25_1_29 : List Rule, ∃ H31 : FH, ∃ v29_g25_1 : Value, j33 = .nx g25_1_29 ∧ Le H H31 ∧ f 2 = .pointer (some ⟨g7, 0, none⟩) ∧ f 3 = .pointer (some ⟨g25, 0, none⟩) ∧ Star H31 w_ ([own (OR.ownS 3 (OR.frz RP.int)) [v22] x12, own (OR.ownS 36 (oRule 3 23)) [v29_g25_1] g25_1_29, box g25 26 #[v22, v29_g25_1], box g7 26 #[(.slice none 0 0), (.slice none 0 0)]]) := ⟨_, rfl⟩
  refine W_join R33 ?_ ?_
  ·
    refine W_block ?_
    obtain ⟨I33, hI33⟩ : ∃ I : Nat → Fr → World → Prop, I = fun n f w_ => ∃ i_28 : Nat, ∃ suf33 : List Rule, ∃ g25_1_29 : List Rule, ∃ H31 : FH, ∃ v29_g25_1 : Value, n = suf33.length ∧ List.drop i_28 m.rules = suf33 ∧ i_28 + suf33.length = m.rules.length ∧ rangeL s_l6Copy_b1 suf33 i_28 g25_1_29 = some j33 ∧ Le H H31 ∧ f 1 = .pointer (some ⟨g5, 0, none⟩) ∧ f 2 = .pointer (some ⟨g7, 0, none⟩) ∧ f 3 = .pointer (some ⟨g25, 0, none⟩) ∧ f 4 = .int .i64 (i_28 : Int) ∧ Star H31 w_ ([own (OR.ownS 3 (OR.frz RP.int)) [v22] x12, own (OR.ownS 36 (oRule 3 23)) [v29_g25_1] g25_1_29, box g25 26 #[v22, v29_g25_1], box g7 26 #[(.slice none 0 0), (.slice none 0 0)], box g5 26 #[v0_0, v0_1]]) := ⟨_, rfl⟩
    have hst := Star.addNil (R := (oRule 3 23)) (e := 36) hst
    have hst := Star.get 4 hst rfl
    have hst := Star.get 4 hst rfl
    have hst := Star.get 3 hst rfl
    have hst := Star.get 3 hst rfl
    have hst := Star.get 4 hst rfl
    refine W_loop I33 (n := m.rules.length) ?_ ?_
    · rw [hI33]; exact ⟨0, m.rules, [], H, (.slice none 0 0), rfl, rfl, Nat.zero_add _, hL33, (Le.refl _), rfl, rfl, rfl, rfl, hst⟩
    ·
      clear hst
      intro n33 f w_ hI
      rw [hI33] at hI
      obtain ⟨i_28, suf33, g25_1_29, H31, v29_g25_1, rfl, hd33, hl33, hL33, hle32, sf1, sf2, sf3, sf4, hst⟩ := hI
      refine W_seq ?_
      refine W_seq ?_
      refine W_region ?_
      refine L_mv (v := .int .i64 (i_28 : Int)) rfl sf4 ?_
      refine L_fa (o' := 1) rfl fa_26_1 sf1 rfl ?_
      refine L_ld (v := v0_1) rfl Try.isAgg24 rfl (At.cell0 (Blk.at (Star.blkAt 4 hst rfl)) (j := 1) rfl) ?_
      refine L_len (v := v0_1) (n := List.length m.rules) rfl Try.underlying24 rfl (slice_len (RP.mono _ h0_1 hle32)) ?_
      refine L_lss (m := (i_28 : Int)) (n := (m.rules.length : Int)) rfl rfl rfl ?_
      refine L_nil ?_
      refine W_cond (b := decide ((i_28 : Int) < (m.rules.length : Int))) rfl (fun hc35 => ?_) (fun hc35 => ?_)
      ·
        have hlt33 := of_decide_eq_true hc35
        cases suf33 with
        | nil => exact absurd hlt33 (by simp at hl33; omega)
        | cons x_33 rest33 =>
          obtain ⟨o33, hB33, hL33⟩ := range_cons hL33
          rw [s_l6Copy_b1] at hB33
          have hix33 := drop_idx hd33
          refine W_skip ?_
          refine W_seq ?_
          refine W_block ?_
          refine W_seq ?_
          refine W_region ?_
          refine L_fa (o' := 1) rfl fa_26_1 sf1 rfl ?_
          refine L_ld (v := v0_1) rfl Try.isAgg24 rfl (At.cell0 (Blk.at (Star.blkAt 4 hst rfl)) (j := 1) rfl) ?_
          refine L_mv (v := .int .i64 (i_28 : Int)) rfl sf4 ?_
          refine L_ix (r := (rRule 3 23)) rfl Try.underlying24 Try.sizeOf36 rfl (RP.mono _ h0_1 hle32) rfl hix33 ?_
          intro g43 o44 cs_g43 hrk_hat45 hat45
          obtain ⟨u46_0, u46_1, u46_2, rfl, hu46_0, hu46_1, hu46_2⟩ := rRule_iff.1 hrk_hat45
          refine L_lda (cs := [.int .i64 x_33.kind, u46_0, u46_1, .int .i64 x_33.bound, u46_2]) rfl Try.isAgg36 Try.sizeOf36 rfl (At.sub (AtH.at hat45 hst.sub) 0 5) rfl ?_
          refine L_al (cs := #[.int .i64 0, (.slice none 0 0), (.slice none 0 0), .int .i64 0, (.slice none 0 0)]) rfl Try.zeroValue36 rfl hst ?_
          intro g47 w48 hst
          refine L_staB (vs := #[.int .i64 x_33.kind, u46_0, u46_1, .int .i64 x_33.bound, u46_2]) (cs2 := #[.int .i64 x_33.kind, u46_0, u46_1, .int .i64 x_33.bound, u46_2]) 0 rfl Try.sizeOf36 rfl rfl rfl (ones_cons rfl (ones_cons (one_len (slice_len hu46_0)) (ones_cons (one_len (slice_len hu46_1)) (ones_cons rfl (ones_cons (one_len (slice_len hu46_2)) ones_nil))))) hst rfl (by decide) rfl ?_
          intro w49 hst
          refine L_nil ?_
          refine W_seq ?_
          obtain ⟨x53, hx53, hB33⟩ := bind_some hB33
          obtain ⟨x60, hx60, hB33⟩ := bind_some hB33
          refine W_drawS 14 [isV (.pointer (some ⟨g47, 0, none⟩)), isV (.int .i64 x_33.kind), anyF, isV (.pointer (some ⟨g47, 1, none⟩)), isV (u46_0), anyF, anyF, isV (.pointer (some ⟨g47, 2, none⟩)), isV (u46_1), anyF, isV (.pointer (some ⟨g47, 3, none⟩)), isV (.int .i64 x_33.bound), exA fun u_1 => exA fun u_2 => isV (.agg #[.int .i64 x_33.kind, u_1, u_2, .int .i64 x_33.bound, (.slice none 0 0)]), anyF] [box g47 36 #[.int .i64 x_33.kind, u46_0, u46_1, .int .i64 x_33.bound, u46_2], own (OR.ownS 3 (OR.frz RP.int)) [v22] x12, own (OR.ownS 36 (oRule 3 23)) [v29_g25_1] g25_1_29, box g25 26 #[v22, v29_g25_1], box g7 26 #[(.slice none 0 0), (.slice none 0 0)], box g5 26 #[v0_0, v0_1]] [.made 2 27 (fun v_ => own (OR.ownS 3 (OR.frz RP.int)) [v_] ([])) (some 5), .made 5 30 (fun v_ => own (OR.ownS 3 (OR.frz RP.int)) [v_] x53) (some 12), .made 6 31 (fun v_ => own (OR.ownS 3 (OR.frz RP.int)) [v_] ([])) (some 9), .made 9 34 (fun v_ => own (OR.ownS 3 (OR.frz RP.int)) [v_] x60) (some 12), .made 12 37 (fun v_ => own (OR.ownS 3 (OR.frz RP.int)) [(aggC v_ 1)] x53) none, .made 12 37 (fun v_ => own (OR.ownS 3 (OR.frz RP.int)) [(aggC v_ 2)] x60) none, .made 13 6 (fun v_ => boxV v_ 36 #[.int .i64 0, (.slice none 0 0), (.slice none 0 0), .int .i64 0, (.slice none 0 0)]) none] ([]) [([], []), ([], []), ([], [0]), ([], []), ([], []), ([0], [1]), ([], [2]), ([], []), ([], []), ([2], [3]), ([], []), ([], []), ([1, 3], [4, 5]), ([], [6])] (S := [(some 2, some 27, some 5), (some 5, some 30, some 12), (some 6, some 31, some 9), (some 9, some 34, some 12), (some 12, some 37, none), (some 12, some 37, none), (some 13, some 6, none)]) Try_mix (by kernel_rfl) rfl (by kernel_rfl) (amF_cons (mono_V _) (amF_cons (mono_V _) (amF_cons (mono_any) (amF_cons (mono_V _) (amF_cons (mono_V _) (amF_cons (mono_any) (amF_cons (mono_any) (amF_cons (mono_V _) (amF_cons (mono_V _) (amF_cons (mono_any) (amF_cons (mono_V _) (amF_cons (mono_V _) (amF_cons (mono_exA fun _ => mono_exA fun _ => mono_V _) (amF_cons (mono_any) amF_nil)))))))))))))) hst ?_ (fun f w_ H67 hS67 hE67 hT67 hst => ?_)
          ·
            refine opsS_cons ?_ ?_
            ·
              intro f w_ H67 X67 hS67 hE67 hP67 hst
              refine L_fa (o' := 0) rfl fa_36_0 ((hS67 5 rfl).trans rfl) rfl ?_
              exact L_nil ⟨rfl, _, _, _, rfl, rfl, Le.refl _, rfl, hst⟩
            refine opsS_cons ?_ ?_
            ·
              intro f w_ H67 X67 hS67 hE67 hP67 hst
              refine L_ld (v := .int .i64 x_33.kind) rfl Try.isAgg3 (hP67 0 25 rfl rfl) (At.cell0 (Blk.at (Star.blkAt 0 hst rfl)) (j := 0) rfl) ?_
              exact L_nil ⟨rfl, _, _, _, rfl, rfl, Le.refl _, rfl, hst⟩
            refine opsS_cons ?_ ?_
            ·
              intro f w_ H67 X67 hS67 hE67 hP67 hst
              refine L_bs rfl parts0 (bs_23_0  ) hst ?_
              intro g82 w83 hst
              have hst := Star.mkRow (R := (OR.frz RP.int)) [] [] 0 hst rfl rfl rfl (by decide)
              have hst := Star.get 6 hst rfl
              have hst := Star.get 6 hst rfl
              have hst := Star.get 6 hst rfl
              have hst := Star.get 6 hst rfl
              have hst := Star.get 6 hst rfl
              have hst := Star.get 6 hst rfl
              exact L_nil ⟨rfl, _, _, _, rfl, rfl, Le.refl _, trivial, hst⟩
            refine opsS_cons ?_ ?_
            ·
              intro f w_ H67 X67 hS67 hE67 hP67 hst
              refine L_fa (o' := 1) rfl fa_36_1 ((hS67 5 rfl).trans rfl) rfl ?_
              exact L_nil ⟨rfl, _, _, _, rfl, rfl, Le.refl _, rfl, hst⟩
            refine opsS_cons ?_ ?_
            ·
              intro f w_ H67 X67 hS67 hE67 hP67 hst
              refine L_ld (v := u46_0) rfl Try.isAgg23 (hP67 3 28 rfl rfl) (At.cell0 (Blk.at (Star.blkAt 0 hst rfl)) (j := 1) rfl) ?_
              exact L_nil ⟨rfl, _, _, _, rfl, rfl, Le.refl _, rfl, hst⟩
            refine opsS_cons ?_ ?_
            ·
              intro f w_ H67 X67 hS67 hE67 hP67 hst
              have hst : Star H67 w_ (box g47 36 #[.int .i64 x_33.kind, u46_0, u46_1, .int .i64 x_33.bound, u46_2] :: own (OR.ownS 3 (OR.frz RP.int)) [v22] x12 :: own (OR.ownS 36 (oRule 3 23)) [v29_g25_1] g25_1_29 :: box g25 26 #[v22, v29_g25_1] :: box g7 26 #[(.slice none 0 0), (.slice none 0 0)] :: box g5 26 #[v0_0, v0_1] :: own (OR.ownS 3 (OR.frz RP.int)) [(f 27)] ([]) :: X67) := hst
              have hst := Star.get 6 hst rfl
              refine L_app (v := (f 27)) (u := u46_0) rfl et_23 rfl (hP67 4 29 rfl rfl) hst (RP.mono _ hu46_0 hE67) hx53 ?_
              intro v86 w87 hst
              have hst := Star.get 6 hst rfl
              have hst := Star.get 6 hst rfl
              have hst := Star.get 6 hst rfl
              have hst := Star.get 6 hst rfl
              have hst := Star.get 6 hst rfl
              have hst := Star.get 6 hst rfl
              exact L_nil ⟨rfl, _, _, _, rfl, rfl, Le.refl _, trivial, hst⟩
            refine opsS_cons ?_ ?_
            ·
              intro f w_ H67 X67 hS67 hE67 hP67 hst
              refine L_bs rfl parts0 (bs_23_0  ) hst ?_
              intro g89 w90 hst
              have hst := Star.mkRow (R := (OR.frz RP.int)) [] [] 0 hst rfl rfl rfl (by decide)
              have hst := Star.get 6 hst rfl
              have hst := Star.get 6 hst rfl
              have hst := Star.get 6 hst rfl
              have hst := Star.get 6 hst rfl
              have hst := Star.get 6 hst rfl
              have hst := Star.get 6 hst rfl
              exact L_nil ⟨rfl, _, _, _, rfl, rfl, Le.refl _, trivial, hst⟩
            refine opsS_cons ?_ ?_
            ·
              intro f w_ H67 X67 hS67 hE67 hP67 hst
              refine L_fa (o' := 2) rfl fa_36_2 ((hS67 5 rfl).trans rfl) rfl ?_
              exact L_nil ⟨rfl, _, _, _, rfl, rfl, Le.refl _, rfl, hst⟩
            refine opsS_cons ?_ ?_
            ·
              intro f w_ H67 X67 hS67 hE67 hP67 hst
              refine L_ld (v := u46_1) rfl Try.isAgg23 (hP67 7 32 rfl rfl) (At.cell0 (Blk.at (Star.blkAt 0 hst rfl)) (j := 2) rfl) ?_
              exact L_nil ⟨rfl, _, _, _, rfl, rfl, Le.refl _, rfl, hst⟩
            refine opsS_cons ?_ ?_
            ·
              intro f w_ H67 X67 hS67 hE67 hP67 hst
              have hst : Star H67 w_ (box g47 36 #[.int .i64 x_33.kind, u46_0, u46_1, .int .i64 x_33.bound, u46_2] :: own (OR.ownS 3 (OR.frz RP.int)) [v22] x12 :: own (OR.ownS 36 (oRule 3 23)) [v29_g25_1] g25_1_29 :: box g25 26 #[v22, v29_g25_1] :: box g7 26 #[(.slice none 0 0), (.slice none 0 0)] :: box g5 26 #[v0_0, v0_1] :: own (OR.ownS 3 (OR.frz RP.int)) [(f 31)] ([]) :: X67) := hst
              have hst := Star.get 6 hst rfl
              refine L_app (v := (f 31)) (u := u46_1) rfl et_23 rfl (hP67 8 33 rfl rfl) hst (RP.mono _ hu46_1 hE67) hx60 ?_
              intro v93 w94 hst
              have hst := Star.get 6 hst rfl
              have hst := Star.get 6 hst rfl
              have hst := Star.get 6 hst rfl
              have hst := Star.get 6 hst rfl
              have hst := Star.get 6 hst rfl
              have hst := Star.get 6 hst rfl
              exact L_nil ⟨rfl, _, _, _, rfl, rfl, Le.refl _, trivial, hst⟩
            refine opsS_cons ?_ ?_
            ·
              intro f w_ H67 X67 hS67 hE67 hP67 hst
              refine L_fa (o' := 3) rfl fa_36_3 ((hS67 5 rfl).trans rfl) rfl ?_
              exact L_nil ⟨rfl, _, _, _, rfl, rfl, Le.refl _, rfl, hst⟩
            refine opsS_cons ?_ ?_
            ·
              intro f w_ H67 X67 hS67 hE67 hP67 hst
              refine L_ld (v := .int .i64 x_33.bound) rfl Try.isAgg3 (hP67 10 35 rfl rfl) (At.cell0 (Blk.at (Star.blkAt 0 hst rfl)) (j := 3) rfl) ?_
              exact L_nil ⟨rfl, _, _, _, rfl, rfl, Le.refl _, rfl, hst⟩
            refine opsS_cons ?_ ?_
            ·
              intro f w_ H67 X67 hS67 hE67 hP67 hst
              have hst : Star H67 w_ (box g47 36 #[.int .i64 x_33.kind, u46_0, u46_1, .int .i64 x_33.bound, u46_2] :: own (OR.ownS 3 (OR.frz RP.int)) [v22] x12 :: own (OR.ownS 36 (oRule 3 23)) [v29_g25_1] g25_1_29 :: box g25 26 #[v22, v29_g25_1] :: box g7 26 #[(.slice none 0 0), (.slice none 0 0)] :: box g5 26 #[v0_0, v0_1] :: own (OR.ownS 3 (OR.frz RP.int)) [(f 30)] x53 :: own (OR.ownS 3 (OR.frz RP.int)) [(f 34)] x60 :: X67) := hst
              refine L_bld rfl (parts4 (hP67 1 26 rfl rfl) rfl rfl (hP67 11 36 rfl rfl)) (bld_36_0_1_2_3 (.int .i64 x_33.kind) ((f 30)) ((f 34)) (.int .i64 x_33.bound) rfl (one_len (Star.len 6 hst rfl)) (one_len (Star.len 7 hst rfl)) rfl) ?_
              exact L_nil ⟨rfl, _, _, _, rfl, rfl, Le.refl _, ⟨_, _, rfl⟩, hst⟩
            refine opsS_cons ?_ ?_
            ·
              intro f w_ H67 X67 hS67 hE67 hP67 hst
              refine L_al (cs := #[.int .i64 0, (.slice none 0 0), (.slice none 0 0), .int .i64 0, (.slice none 0 0)]) rfl Try.zeroValue36 rfl hst ?_
              intro g98 w99 hst
              have hst := Star.get 6 hst rfl
              have hst := Star.get 6 hst rfl
              have hst := Star.get 6 hst rfl
              have hst := Star.get 6 hst rfl
              have hst := Star.get 6 hst rfl
              have hst := Star.get 6 hst rfl
              have hst := Star.get 6 hst rfl
              have hst := Star.boxV (v := .pointer (some ⟨g98, 0, none⟩)) rfl hst
              have hst := Star.get 6 hst rfl
              have hst := Star.get 6 hst rfl
              have hst := Star.get 6 hst rfl
              have hst := Star.get 6 hst rfl
              have hst := Star.get 6 hst rfl
              have hst := Star.get 6 hst rfl
              exact L_nil ⟨rfl, _, _, _, rfl, rfl, Le.refl _, trivial, hst⟩
            exact opsS_nil
          ·
            have hst : Star H67 w_ ([box g47 36 #[.int .i64 x_33.kind, u46_0, u46_1, .int .i64 x_33.bound, u46_2], own (OR.ownS 3 (OR.frz RP.int)) [v22] x12, own (OR.ownS 36 (oRule 3 23)) [v29_g25_1] g25_1_29, box g25 26 #[v22, v29_g25_1], box g7 26 #[(.slice none 0 0), (.slice none 0 0)], box g5 26 #[v0_0, v0_1], own (OR.ownS 3 (OR.frz RP.int)) [(aggC (f 37) 1)] x53, own (OR.ownS 3 (OR.frz RP.int)) [(aggC (f 37) 2)] x60, boxV (f 6) 36 #[.int .i64 0, (.slice none 0 0), (.slice none 0 0), .int .i64 0, (.slice none 0 0)]]) := hst
            obtain ⟨u100_1, u100_2, hv100⟩ := (hT67 12 37 rfl rfl)
            have hren : Star H67 w_ ([box g47 36 #[.int .i64 x_33.kind, u46_0, u46_1, .int .i64 x_33.bound, u46_2], own (OR.ownS 3 (OR.frz RP.int)) [v22] x12, own (OR.ownS 36 (oRule 3 23)) [v29_g25_1] g25_1_29, box g25 26 #[v22, v29_g25_1], box g7 26 #[(.slice none 0 0), (.slice none 0 0)], box g5 26 #[v0_0, v0_1], own (OR.ownS 3 (OR.frz RP.int)) [(aggC (f 37) 1)] x53, own (OR.ownS 3 (OR.frz RP.int)) [(aggC (f 37) 2)] x60, boxV (f 6) 36 #[.int .i64 0, (.slice none 0 0), (.slice none 0 0), .int .i64 0, (.slice none 0 0)]]) := hst
            rw [hv100] at hren
            have hst : Star H67 w_ ([box g47 36 #[.int .i64 x_33.kind, u46_0, u46_1, .int .i64 x_33.bound, u46_2], own (OR.ownS 3 (OR.frz RP.int)) [v22] x12, own (OR.ownS 36 (oRule 3 23)) [v29_g25_1] g25_1_29, box g25 26 #[v22, v29_g25_1], box g7 26 #[(.slice none 0 0), (.slice none 0 0)], box g5 26 #[v0_0, v0_1], own (OR.ownS 3 (OR.frz RP.int)) [u100_1] x53, own (OR.ownS 3 (OR.frz RP.int)) [u100_2] x60, boxV (f 6) 36 #[.int .i64 0, (.slice none 0 0), (.slice none 0 0), .int .i64 0, (.slice none 0 0)]]) := hren
            obtain ⟨g101, hv101, hst⟩ := Star.unboxV (Star.get 8 hst rfl)
            refine L_staB (vs := #[.int .i64 x_33.kind, u100_1, u100_2, .int .i64 x_33.bound, (.slice none 0 0)]) (cs2 := #[.int .i64 x_33.kind, u100_1, u100_2, .int .i64 x_33.bound, (.slice none 0 0)]) 0 rfl Try.sizeOf36 hv101 hv100 rfl (ones_cons rfl (ones_cons (one_len (Star.len 7 hst rfl)) (ones_cons (one_len (Star.len 8 hst rfl)) (ones_cons rfl (ones_cons rfl ones_nil))))) hst rfl (by decide) rfl ?_
            intro w102 hst
            refine L_nil ?_
            refine W_seq ?_
            refine W_seq ?_
            refine W_region ?_
            refine L_as (v := .int .i64 0) rfl rfl ?_
            refine L_nil ?_
            have hlen108 : List.length x_33.rows ≤ 9223372036854775807 := len_le (slice_len (RP.mono _ hu46_2 hE67))
            obtain ⟨j108, hL108, hB33⟩ := bind_some hB33
            obtain ⟨R108, hR108⟩ : ∃ RR_ : Fr → World → Prop, RR_ = fun f w_ => ∃ g101_4_104 : List (List Int), ∃ H106 : FH, ∃ v104_g101_4 : Value, j108 = .nx g101_4_104 ∧ Le H67 H106 ∧ f 1 = .pointer (some ⟨g5, 0, none⟩) ∧ f 2 = .pointer (some ⟨g7, 0, none⟩) ∧ f 3 = .pointer (some ⟨g25, 0, none⟩) ∧ f 4 = .int .i64 (i_28 : Int) ∧ f 6 = .pointer (some ⟨g101, 0, none⟩) ∧ Star H106 w_ ([own (OR.ownS 3 (OR.frz RP.int)) [u100_1] x53, own (OR.ownS 3 (OR.frz RP.int)) [u100_2] x60, own (OR.ownS 23 (OR.ownS 3 (OR.frz RP.int))) [v104_g101_4] g101_4_104, box g101 36 #[.int .i64 x_33.kind, u100_1, u100_2, .int .i64 x_33.bound, v104_g101_4], own (OR.ownS 3 (OR.frz RP.int)) [v22] x12, own (OR.ownS 36 (oRule 3 23)) [v29_g25_1] g25_1_29, box g25 26 #[v22, v29_g25_1], box g7 26 #[(.slice none 0 0), (.slice none 0 0)], box g5 26 #[v0_0, v0_1]]) := ⟨_, rfl⟩
            refine W_join R108 ?_ ?_
            ·
              refine W_block ?_
              obtain ⟨I108, hI108⟩ : ∃ I : Nat → Fr → World → Prop, I = fun n f w_ => ∃ i_103 : Nat, ∃ suf108 : List (List Int), ∃ g101_4_104 : List (List Int), ∃ H106 : FH, ∃ v104_g101_4 : Value, n = suf108.length ∧ List.drop i_103 x_33.rows = suf108 ∧ i_103 + suf108.length = x_33.rows.length ∧ rangeL s_l6Copy_b2 suf108 i_103 g101_4_104 = some j108 ∧ Le H67 H106 ∧ f 1 = .pointer (some ⟨g5, 0, none⟩) ∧ f 2 = .pointer (some ⟨g7, 0, none⟩) ∧ f 3 = .pointer (some ⟨g25, 0, none⟩) ∧ f 4 = .int .i64 (i_28 : Int) ∧ f 5 = .pointer (some ⟨g47, 0, none⟩) ∧ f 6 = .pointer (some ⟨g101, 0, none⟩) ∧ f 7 = .int .i64 (i_103 : Int) ∧ Star H106 w_ ([own (OR.ownS 3 (OR.frz RP.int)) [u100_1] x53, own (OR.ownS 3 (OR.frz RP.int)) [u100_2] x60, own (OR.ownS 23 (OR.ownS 3 (OR.frz RP.int))) [v104_g101_4] g101_4_104, box g101 36 #[.int .i64 x_33.kind, u100_1, u100_2, .int .i64 x_33.bound, v104_g101_4], box g47 36 #[.int .i64 x_33.kind, u46_0, u46_1, .int .i64 x_33.bound, u46_2], own (OR.ownS 3 (OR.frz RP.int)) [v22] x12, own (OR.ownS 36 (oRule 3 23)) [v29_g25_1] g25_1_29, box g25 26 #[v22, v29_g25_1], box g7 26 #[(.slice none 0 0), (.slice none 0 0)], box g5 26 #[v0_0, v0_1]]) := ⟨_, rfl⟩
              have hst := Star.addNil (R := (OR.ownS 3 (OR.frz RP.int))) (e := 23) hst
              have hst := Star.get 7 hst rfl
              have hst := Star.get 7 hst rfl
              have hst := Star.get 7 hst rfl
              have hst := Star.get 7 hst rfl
              have hst := Star.get 7 hst rfl
              have hst := Star.get 7 hst rfl
              have hst := Star.get 7 hst rfl
              have hst := Star.get 7 hst rfl
              have hst := Star.get 9 hst rfl
              have hst := Star.get 9 hst rfl
              refine W_loop I108 (n := x_33.rows.length) ?_ ?_
              · rw [hI108]; exact ⟨0, x_33.rows, [], H67, (.slice none 0 0), rfl, rfl, Nat.zero_add _, hL108, (Le.refl _), ((hS67 1 rfl).trans sf1), ((hS67 2 rfl).trans sf2), ((hS67 3 rfl).trans sf3), ((hS67 4 rfl).trans sf4), ((hS67 5 rfl).trans rfl), hv101, rfl, hst⟩
              ·
                clear hst
                intro n108 f w_ hI
                rw [hI108] at hI
                obtain ⟨i_103, suf108, g101_4_104, H106, v104_g101_4, rfl, hd108, hl108, hL108, hle107, sf1, sf2, sf3, sf4, sf5, sf6, sf7, hst⟩ := hI
                refine W_seq ?_
                refine W_seq ?_
                refine W_region ?_
                refine L_mv (v := .int .i64 (i_103 : Int)) rfl sf7 ?_
                refine L_fa (o' := 4) rfl fa_36_4 sf5 rfl ?_
                refine L_ld (v := u46_2) rfl Try.isAgg34 rfl (At.cell0 (Blk.at (Star.blkAt 4 hst rfl)) (j := 4) rfl) ?_
                refine L_len (v := u46_2) (n := List.length x_33.rows) rfl Try.underlying34 rfl (slice_len (RP.mono _ hu46_2 (Le.trans hE67 hle107))) ?_
                refine L_lss (m := (i_103 : Int)) (n := (x_33.rows.length : Int)) rfl rfl rfl ?_
                refine L_nil ?_
                refine W_cond (b := decide ((i_103 : Int) < (x_33.rows.length : Int))) rfl (fun hc110 => ?_) (fun hc110 => ?_)
                ·
                  have hlt108 := of_decide_eq_true hc110
                  cases suf108 with
                  | nil => exact absurd hlt108 (by simp at hl108; omega)
                  | cons x_108 rest108 =>
                    obtain ⟨o108, hB108, hL108⟩ := range_cons hL108
                    rw [s_l6Copy_b2] at hB108
                    have hix108 := drop_idx hd108
                    refine W_skip ?_
                    refine W_seq ?_
                    refine W_block ?_
                    obtain ⟨x118, hx118, hB108⟩ := bind_some hB108
                    obtain ⟨x125, hx125, hB108⟩ := bind_some hB108
                    refine W_drawS 10 [isV (.pointer (some ⟨g101, 4, none⟩)), isV (v104_g101_4), anyF, isV (.pointer (some ⟨g47, 4, none⟩)), isV (u46_2), isV (.int .i64 (i_103 : Int)), isEl (RP.slice 3 RP.int) x_108 0, isData (RP.slice 3 RP.int) x_108, anyF, anyF] [own (OR.ownS 3 (OR.frz RP.int)) [u100_1] x53, own (OR.ownS 3 (OR.frz RP.int)) [u100_2] x60, own (OR.ownS 23 (OR.ownS 3 (OR.frz RP.int))) [v104_g101_4] g101_4_104, box g101 36 #[.int .i64 x_33.kind, u100_1, u100_2, .int .i64 x_33.bound, v104_g101_4], box g47 36 #[.int .i64 x_33.kind, u46_0, u46_1, .int .i64 x_33.bound, u46_2], own (OR.ownS 3 (OR.frz RP.int)) [v22] x12, own (OR.ownS 36 (oRule 3 23)) [v29_g25_1] g25_1_29, box g25 26 #[v22, v29_g25_1], box g7 26 #[(.slice none 0 0), (.slice none 0 0)], box g5 26 #[v0_0, v0_1]] [.made 2 47 (fun v_ => own (OR.ownS 3 (OR.frz RP.int)) [v_] ([])) (some 8), .made 8 53 (fun v_ => own (OR.ownS 3 (OR.frz RP.int)) [v_] x118) (some 9), .made 9 54 (fun v_ => own (OR.ownS 23 (OR.ownS 3 (OR.frz RP.int))) [v_] ([x118])) none] ([]) [([], []), ([], []), ([], [0]), ([], []), ([], []), ([], []), ([], []), ([], []), ([0], [1]), ([1], [2])] (S := [(some 2, some 47, some 8), (some 8, some 53, some 9), (some 9, some 54, none)]) Try_mix (by kernel_rfl) rfl (by kernel_rfl) (amF_cons (mono_V _) (amF_cons (mono_V _) (amF_cons (mono_any) (amF_cons (mono_V _) (amF_cons (mono_V _) (amF_cons (mono_V _) (amF_cons (mono_el _ _ _) (amF_cons (mono_data _ _) (amF_cons (mono_any) (amF_cons (mono_any) amF_nil)))))))))) hst ?_ (fun f w_ H130 hS130 hE130 hT130 hst => ?_)
                    ·
                      refine opsS_cons ?_ ?_
                      ·
                        intro f w_ H130 X130 hS130 hE130 hP130 hst
                        refine L_fa (o' := 4) rfl fa_36_4 ((hS130 6 rfl).trans sf6) rfl ?_
                        exact L_nil ⟨rfl, _, _, _, rfl, rfl, Le.refl _, rfl, hst⟩
                      refine opsS_cons ?_ ?_
                      ·
                        intro f w_ H130 X130 hS130 hE130 hP130 hst
                        refine L_ld (v := v104_g101_4) rfl Try.isAgg34 (hP130 0 45 rfl rfl) (At.cell0 (Blk.at (Star.blkAt 3 hst rfl)) (j := 4) rfl) ?_
                        exact L_nil ⟨rfl, _, _, _, rfl, rfl, Le.refl _, rfl, hst⟩
                      refine opsS_cons ?_ ?_
                      ·
                        intro f w_ H130 X130 hS130 hE130 hP130 hst
                        refine L_bs rfl parts0 (bs_23_0  ) hst ?_
                        intro g144 w145 hst
                        have hst := Star.mkRow (R := (OR.frz RP.int)) [] [] 0 hst rfl rfl rfl (by decide)
                        have hst := Star.get 10 hst rfl
                        have hst := Star.get 10 hst rfl
                        have hst := Star.get 10 hst rfl
                        have hst := Star.get 10 hst rfl
                        have hst := Star.get 10 hst rfl
                        have hst := Star.get 10 hst rfl
                        have hst := Star.get 10 hst rfl
                        have hst := Star.get 10 hst rfl
                        have hst := Star.get 10 hst rfl
                        have hst := Star.get 10 hst rfl
                        exact L_nil ⟨rfl, _, _, _, rfl, rfl, Le.refl _, trivial, hst⟩
                      refine opsS_cons ?_ ?_
                      ·
                        intro f w_ H130 X130 hS130 hE130 hP130 hst
                        refine L_fa (o' := 4) rfl fa_36_4 ((hS130 5 rfl).trans sf5) rfl ?_
                        exact L_nil ⟨rfl, _, _, _, rfl, rfl, Le.refl _, rfl, hst⟩
                      refine opsS_cons ?_ ?_
                      ·
                        intro f w_ H130 X130 hS130 hE130 hP130 hst
                        refine L_ld (v := u46_2) rfl Try.isAgg34 (hP130 3 48 rfl rfl) (At.cell0 (Blk.at (Star.blkAt 4 hst rfl)) (j := 4) rfl) ?_
                        exact L_nil ⟨rfl, _, _, _, rfl, rfl, Le.refl _, rfl, hst⟩
                      refine opsS_cons ?_ ?_
                      ·
                        intro f w_ H130 X130 hS130 hE130 hP130 hst
                        refine L_mv (v := .int .i64 (i_103 : Int)) rfl ((hS130 7 rfl).trans sf7) ?_
                        exact L_nil ⟨rfl, _, _, _, rfl, rfl, Le.refl _, rfl, hst⟩
                      refine opsS_cons ?_ ?_
                      ·
                        intro f w_ H130 X130 hS130 hE130 hP130 hst
                        refine L_ix (r := (RP.slice 3 RP.int)) rfl Try.underlying34 Try.sizeOf23 (hP130 4 49 rfl rfl) (RP.mono _ hu46_2 (Le.trans (Le.trans hE67 hle107) hE130)) (hP130 5 50 rfl rfl) hix108 ?_
                        intro g147 o148 cs_g147 hrk_hat149 hat149
                        obtain ⟨u150, rfl, hu150⟩ := slice1 hrk_hat149
                        exact L_nil ⟨rfl, _, _, _, rfl, rfl, Le.refl _, ⟨_, _, _, rfl, hrk_hat149, hat149⟩, hst⟩
                      refine opsS_cons ?_ ?_
                      ·
                        intro f w_ H130 X130 hS130 hE130 hP130 hst
                        obtain ⟨g151, o151, cs151, hv151, hrk_hat151, hat151⟩ := (hP130 6 51 rfl rfl)
                        obtain ⟨u152, rfl, hu152⟩ := slice1 hrk_hat151
                        refine L_ld (v := u152) rfl Try.isAgg23 hv151 (At.cell (AtH.at hat151 hst.sub) (j := 0) rfl) ?_
                        exact L_nil ⟨rfl, _, _, _, rfl, rfl, Le.refl _, hu152, hst⟩
                      refine opsS_cons ?_ ?_
                      ·
                        intro f w_ H130 X130 hS130 hE130 hP130 hst
                        have hst : Star H130 w_ (own (OR.ownS 3 (OR.frz RP.int)) [u100_1] x53 :: own (OR.ownS 3 (OR.frz RP.int)) [u100_2] x60 :: own (OR.ownS 23 (OR.ownS 3 (OR.frz RP.int))) [v104_g101_4] g101_4_104 :: box g101 36 #[.int .i64 x_33.kind, u100_1, u100_2, .int .i64 x_33.bound, v104_g101_4] :: box g47 36 #[.int .i64 x_33.kind, u46_0, u46_1, .int .i64 x_33.bound, u46_2] :: own (OR.ownS 3 (OR.frz RP.int)) [v22] x12 :: own (OR.ownS 36 (oRule 3 23)) [v29_g25_1] g25_1_29 :: box g25 26 #[v22, v29_g25_1] :: box g7 26 #[(.slice none 0 0), (.slice none 0 0)] :: box g5 26 #[v0_0, v0_1] :: own (OR.ownS 3 (OR.frz RP.int)) [(f 47)] ([]) :: X130) := hst
                        have hd154 : (RP.slice 3 RP.int).rel H130 [f 52] x_108 := (hP130 7 52 rfl rfl)
                        have hst := Star.get 10 hst rfl
                        refine L_app (v := (f 47)) (u := (f 52)) rfl et_23 rfl rfl hst hd154 hx118 ?_
                        intro v155 w156 hst
                        have hst := Star.get 10 hst rfl
                        have hst := Star.get 10 hst rfl
                        have hst := Star.get 10 hst rfl
                        have hst := Star.get 10 hst rfl
                        have hst := Star.get 10 hst rfl
                        have hst := Star.get 10 hst rfl
                        have hst := Star.get 10 hst rfl
                        have hst := Star.get 10 hst rfl
                        have hst := Star.get 10 hst rfl
                        have hst := Star.get 10 hst rfl
                        exact L_nil ⟨rfl, _, _, _, rfl, rfl, Le.refl _, trivial, hst⟩
                      refine opsS_cons ?_ ?_
                      ·
                        intro f w_ H130 X130 hS130 hE130 hP130 hst
                        have hst : Star H130 w_ (own (OR.ownS 3 (OR.frz RP.int)) [u100_1] x53 :: own (OR.ownS 3 (OR.frz RP.int)) [u100_2] x60 :: own (OR.ownS 23 (OR.ownS 3 (OR.frz RP.int))) [v104_g101_4] g101_4_104 :: box g101 36 #[.int .i64 x_33.kind, u100_1, u100_2, .int .i64 x_33.bound, v104_g101_4] :: box g47 36 #[.int .i64 x_33.kind, u46_0, u46_1, .int .i64 x_33.bound, u46_2] :: own (OR.ownS 3 (OR.frz RP.int)) [v22] x12 :: own (OR.ownS 36 (oRule 3 23)) [v29_g25_1] g25_1_29 :: box g25 26 #[v22, v29_g25_1] :: box g7 26 #[(.slice none 0 0), (.slice none 0 0)] :: box g5 26 #[v0_0, v0_1] :: own (OR.ownS 3 (OR.frz RP.int)) [(f 53)] x118 :: X130) := hst
                        refine L_bs rfl (parts1 rfl) (bs_34_1_0 ((f 53)) (one_len (Star.len 10 hst rfl))) hst ?_
                        intro g159 w160 hst
                        have hst := Star.get 11 hst rfl
                        have hst := Star.mkRow (R := (OR.ownS 3 (OR.frz RP.int))) [([(f 53)], x118)] [x118] 1 hst rfl rfl rfl (by decide)
                        have hst := Star.get 10 hst rfl
                        have hst := Star.get 10 hst rfl
                        have hst := Star.get 10 hst rfl
                        have hst := Star.get 10 hst rfl
                        have hst := Star.get 10 hst rfl
                        have hst := Star.get 10 hst rfl
                        have hst := Star.get 10 hst rfl
                        have hst := Star.get 10 hst rfl
                        have hst := Star.get 10 hst rfl
                        have hst := Star.get 10 hst rfl
                        exact L_nil ⟨rfl, _, _, _, rfl, rfl, Le.refl _, trivial, hst⟩
                      exact opsS_nil
                    ·
                      have hst : Star H130 w_ ([own (OR.ownS 3 (OR.frz RP.int)) [u100_1] x53, own (OR.ownS 3 (OR.frz RP.int)) [u100_2] x60, own (OR.ownS 23 (OR.ownS 3 (OR.frz RP.int))) [v104_g101_4] g101_4_104, box g101 36 #[.int .i64 x_33.kind, u100_1, u100_2, .int .i64 x_33.bound, v104_g101_4], box g47 36 #[.int .i64 x_33.kind, u46_0, u46_1, .int .i64 x_33.bound, u46_2], own (OR.ownS 3 (OR.frz RP.int)) [v22] x12, own (OR.ownS 36 (oRule 3 23)) [v29_g25_1] g25_1_29, box g25 26 #[v22, v29_g25_1], box g7 26 #[(.slice none 0 0), (.slice none 0 0)], box g5 26 #[v0_0, v0_1], own (OR.ownS 23 (OR.ownS 3 (OR.frz RP.int))) [(f 54)] ([x118])]) := hst
                      have hst := Star.get 10 hst rfl
                      have hst := Star.get 3 hst rfl
                      refine L_appM (v := v104_g101_4) (u := (f 54)) rfl et_34 (hT130 1 46 rfl rfl) rfl hst hx125 ?_
                      intro v163 w164 hst
                      refine L_fa (o' := 4) rfl fa_36_4 ((hS130 6 rfl).trans sf6) rfl ?_
                      refine L_stB (v := v163) (cs2 := #[.int .i64 x_33.kind, u100_1, u100_2, .int .i64 x_33.bound, v163]) 3 rfl Try.sizeOf34 rfl rfl (one_len (Star.len 0 hst rfl)) hst rfl rfl rfl ?_
                      intro w166 hst
                      refine L_nil ?_
                      refine W_region ?_
                      refine L_mv (v := .int .i64 (i_103 : Int)) rfl ((hS130 7 rfl).trans sf7) ?_
                      refine L_add (m := (i_103 : Int)) (n := 1) rfl rfl rfl ?_
                      refine L_as (v := .int .i64 (i64 ((i_103 : Int) + 1))) rfl rfl ?_
                      refine L_nil ?_
                      obtain rfl := so hB108
                      have hst := Star.get 9 hst rfl
                      have hst := Star.get 9 hst rfl
                      have hst := Star.get 9 hst rfl
                      have hst := Star.get 9 hst rfl
                      have hst := Star.get 9 hst rfl
                      have hst := Star.get 9 hst rfl
                      have hst := Star.get 6 hst rfl
                      have hst := Star.get 7 hst rfl
                      have hst := Star.get 9 hst rfl
                      have hst := Star.get 9 hst rfl
                      show ∃ m, m < _ ∧ I108 m _ _
                      refine ⟨rest108.length, by simp, ?_⟩
                      rw [hI108]
                      exact ⟨i_103 + 1, rest108, x125, H130, v163, rfl, drop_next hd108, by simp at hl108; omega, hL108, (Le.trans hle107 hE130), ((hS130 1 rfl).trans sf1), ((hS130 2 rfl).trans sf2), ((hS130 3 rfl).trans sf3), ((hS130 4 rfl).trans sf4), ((hS130 5 rfl).trans sf5), ((hS130 6 rfl).trans sf6), (Eq.trans rfl (congrArg (Value.int .i64) (i64_succ (n := x_33.rows.length) (by simp at hl108; omega) hlen108))), hst⟩
                ·
                  cases suf108 with
                  | cons _ _ => exact absurd (of_decide_eq_false hc110) (by simp at hl108; omega)
                  | nil =>
                    obtain rfl := range_nil hL108
                    refine W_exit ?_
                    have hst := Star.get 9 hst rfl
                    have hst := Star.get 9 hst rfl
                    have hst := Star.get 9 hst rfl
                    have hst := Star.get 9 hst rfl
                    have hst := Star.get 9 hst rfl
                    have hst := Star.get 8 hst rfl
                    have hst := Star.get 8 hst rfl
                    have hst := Star.get 8 hst rfl
                    have hst := Star.get 8 hst rfl
                    show R108 _ _
                    rw [hR108]
                    exact ⟨g101_4_104, H106, v104_g101_4, rfl, hle107, sf1, sf2, sf3, sf4, sf6, (Star.keepN 9 hst)⟩
            ·
              clear hst
              intro f w_ hR
              rw [hR108] at hR
              obtain ⟨g101_4_104, H106, v104_g101_4, rfl, hle107, sf1, sf2, sf3, sf4, sf6, hst⟩ := hR
              clear hR108
              obtain ⟨x170, hx170, hB33⟩ := bind_some hB33
              refine W_region ?_
              refine L_fa (o' := 1) rfl fa_26_1 sf3 rfl ?_
              refine L_ld (v := v29_g25_1) rfl Try.isAgg24 rfl (At.cell0 (Blk.at (Star.blkAt 6 hst rfl)) (j := 1) rfl) ?_
              refine L_lda (cs := [.int .i64 x_33.kind, u100_1, u100_2, .int .i64 x_33.bound, v104_g101_4]) rfl Try.isAgg36 Try.sizeOf36 sf6 (At.sub0 (Blk.at (Star.blkAt 3 hst rfl)) 0 5) rfl ?_
              refine L_bs rfl (parts1 rfl) (bs_24_1_5 (.int .i64 x_33.kind) (u100_1) (u100_2) (.int .i64 x_33.bound) (v104_g101_4) ) hst ?_
              intro g175 w176 hst
              have hst := Star.get 3 hst rfl
              have hst := Star.get 3 hst rfl
              have hst := Star.get 3 hst rfl
              have hst := oRule_close (r := ({ kind := x_33.kind, vars := x53, coefs := x60, bound := x_33.bound, rows := g101_4_104 } : Rule)) hst
              have hst := Star.mkRow (R := (oRule 3 23)) [([.int .i64 x_33.kind, u100_1, u100_2, .int .i64 x_33.bound, v104_g101_4], ({ kind := x_33.kind, vars := x53, coefs := x60, bound := x_33.bound, rows := g101_4_104 } : Rule))] [({ kind := x_33.kind, vars := x53, coefs := x60, bound := x_33.bound, rows := g101_4_104 } : Rule)] 1 hst rfl rfl rfl (by decide)
              have hst := Star.get 3 hst rfl
              refine L_appM (v := v29_g25_1) (u := (.slice (some ⟨g175, 0, none⟩) 1 1)) rfl et_24 rfl rfl hst hx170 ?_
              intro v178 w179 hst
              refine L_fa (o' := 1) rfl fa_26_1 sf3 rfl ?_
              refine L_stB (v := v178) (cs2 := #[v22, v178]) 3 rfl Try.sizeOf24 rfl rfl (one_len (Star.len 0 hst rfl)) hst rfl rfl rfl ?_
              intro w181 hst
              refine L_nil ?_
              refine W_region ?_
              refine L_mv (v := .int .i64 (i_28 : Int)) rfl sf4 ?_
              refine L_add (m := (i_28 : Int)) (n := 1) rfl rfl rfl ?_
              refine L_as (v := .int .i64 (i64 ((i_28 : Int) + 1))) rfl rfl ?_
              refine L_nil ?_
              obtain rfl := so hB33
              have hst := Star.get 5 hst rfl
              have hst := Star.get 5 hst rfl
              have hst := Star.get 2 hst rfl
              have hst := Star.get 3 hst rfl
              have hst := Star.get 5 hst rfl
              show ∃ m, m < _ ∧ I33 m _ _
              refine ⟨rest33.length, by simp, ?_⟩
              rw [hI33]
              exact ⟨i_28 + 1, rest33, x170, H106, v178, rfl, drop_next hd33, by simp at hl33; omega, hL33, (Le.trans (Le.trans hle32 hE67) hle107), sf1, sf2, sf3, (Eq.trans rfl (congrArg (Value.int .i64) (i64_succ (n := m.rules.length) (by simp at hl33; omega) hlen33))), (Star.keepN 5 hst)⟩
      ·
        cases suf33 with
        | cons _ _ => exact absurd (of_decide_eq_false hc35) (by simp at hl33; omega)
        | nil =>
          obtain rfl := range_nil hL33
          refine W_exit ?_
          show R33 _ _
          rw [hR33]
          exact ⟨g25_1_29, H31, v29_g25_1, rfl, hle32, sf2, sf3, (Star.keepN 4 hst)⟩
  ·
    clear hst
    intro f w_ hR
    rw [hR33] at hR
    obtain ⟨g25_1_29, H31, v29_g25_1, rfl, hle32, sf2, sf3, hst⟩ := hR
    clear hR33
    refine W_seq ?_
    refine W_region ?_
    refine L_lda (cs := [v22, v29_g25_1]) rfl Try.isAgg26 Try.sizeOf26 sf3 (At.sub0 (Blk.at (Star.blkAt 2 hst rfl)) 0 2) rfl ?_
    refine L_staB (vs := #[v22, v29_g25_1]) (cs2 := #[v22, v29_g25_1]) 3 rfl Try.sizeOf26 sf2 rfl rfl (ones_cons (one_len (Star.len 0 hst rfl)) (ones_cons (one_len (Star.len 1 hst rfl)) ones_nil)) hst rfl (by decide) rfl ?_
    intro w183 hst
    refine L_nil ?_
    refine W_ret ?_
    refine retG1 (v1 := .agg #[v22, v29_g25_1]) Try.results80 (resV_agg Try.isAgg26 Try.sizeOf26 sf2 (Star.blkAt 0 hst rfl) rfl) ?_
    obtain rfl := so hF
    have hst := Star.get 2 hst rfl
    have hst := Star.get 2 hst rfl
    exact ⟨v22, v29_g25_1, rfl, (Star.down (Star.keepN 2 hst) hle32 (closedL_cons (closed_own (OR.closed_ownS closed_int) _ _) (closedL_cons (closed_own (OR.closed_ownS closed_oRule) _ _) closedL_nil)))⟩

theorem s_l6Mutate_c {fu : Nat} {r_ : Rd} {m : Model} {g_0 : Nat} {v0_0 : Value} {v1_0 : Value} {v1_1 : Value} {H : FH} {w : World} {R : List Ass} (hst : Star H w (box g_0 86 #[v0_0, .int .i64 r_.p] :: R)) (h0_0 : (RP.slice 5 RP.u8).rel H [v0_0] r_.b) (h1_0 : (RP.slice 3 RP.int).rel H [v1_0] m.sizes) (h1_1 : (RP.slice 36 (rRule 3 23)).rel H [v1_1] m.rules) {r : Unit} (hF : s_l6Mutate fu r_ m = some r) :
    C Try.prog 47 #[.pointer (some ⟨g_0, 0, none⟩), .agg #[v1_0, v1_1]] w fun v w' => ∃ o : Model × Int, (sModel o.1 ∧ rdOk r_.p o.2) ∧ ∃ H' : FH, Le H H' ∧ ∃ (u1 : Value) (u2 : Value), v = .agg #[u1, u2] ∧ (RP.slice 3 RP.int).rel H' [u1] o.1.sizes ∧ (RP.slice 36 (rRule 3 23)).rel H' [u2] o.1.rules ∧ Star H' w' (box g_0 86 #[v0_0, .int .i64 o.2] :: R) := by
  unfold s_l6Mutate at hF
  refine C_enter Try.func47 rfl Try.ntmps47 rfl ?_
  refine W_seq ?_
  refine W_region ?_
  refine L_box (v := .agg #[v1_0, v1_1]) (cs := #[v1_0, v1_1]) rfl rfl rfl hst ?_
  intro g5 w6 hst
  refine L_al (cs := #[(.slice none 0 0), (.slice none 0 0)]) rfl Try.zeroValue26 rfl hst ?_
  intro g7 w8 hst
  refine L_nil ?_
  refine W_seq ?_
  obtain ⟨x14, hx14, hF⟩ := bind_some hF
  refine W_region ?_
  refine L_lda (cs := [v1_0, v1_1]) rfl Try.isAgg26 Try.sizeOf26 rfl (At.sub0 (Blk.at (Star.blkAt 1 hst rfl)) 0 2) rfl ?_
  obtain ⟨Hb21, hle22, hsb23, hfz24, hbk25⟩ := Star.borrow hst
  refine L_call (args := #[.agg #[v1_0, v1_1]]) rfl Try.call80 (ops1 rfl) (s_l6Copy_c (m := m) hsb23 (RP.mono _ h1_0 hle22) (RP.mono _ h1_1 hle22) hx14) ?_
  rintro _ w26 ⟨r26_0, r26_1, rfl, hst⟩
  have hst := hbk25 hst (closedL_cons (closed_own (OR.closed_ownS closed_int) _ _) (closedL_cons (closed_own (OR.closed_ownS closed_oRule) _ _) closedL_nil))
  refine L_al (cs := #[(.slice none 0 0), (.slice none 0 0)]) rfl Try.zeroValue26 rfl hst ?_
  intro g29 w30 hst
  refine L_staB (vs := #[r26_0, r26_1]) (cs2 := #[r26_0, r26_1]) 0 rfl Try.sizeOf26 rfl rfl rfl (ones_cons (one_len (Star.len 1 hst rfl)) (ones_cons (one_len (Star.len 2 hst rfl)) ones_nil)) hst rfl (by decide) rfl ?_
  intro w31 hst
  refine L_nil ?_
  refine W_seq ?_
  refine W_region ?_
  refine L_fa (o' := 1) rfl fa_26_1 rfl rfl ?_
  refine L_ld (v := r26_1) rfl Try.isAgg24 rfl (At.cell0 (Blk.at (Star.blkAt 0 hst rfl)) (j := 1) rfl) ?_
  refine L_len (v := r26_1) (n := List.length x14.rules) rfl Try.underlying24 rfl (Star.len 2 hst rfl) ?_
  refine L_as (v := .int .i64 (x14.rules.length : Int)) rfl rfl ?_
  refine L_nil ?_
  refine W_seq ?_
  refine W_seq ?_
  obtain ⟨x37, hx37, hF⟩ := bind_some hF
  refine W_region ?_
  refine L_mv (v := .pointer (some ⟨g_0, 0, none⟩)) rfl rfl ?_
  have hst := Star.get 5 hst rfl
  obtain ⟨Hb39, hle40, hsb41, hfz42, hbk43⟩ := Star.lend [_] hst
  refine L_call (args := #[.pointer (some ⟨g_0, 0, none⟩), .int .i64 50]) rfl Try.call70 (ops2 rfl rfl) (s_l17Rd_pick_c (r_ := r_) (n_ := 50) hsb41 (RP.mono _ h0_0 hle40) hx37) ?_
  rintro _ w44 ⟨rfl, hst⟩
  have hst := hbk43 hst (closedL_cons (closed_box _ _ _) closedL_nil)
  refine L_nil ?_
  refine W_block ?_
  refine W_seq ?_
  refine W_region ?_
  refine L_eql (m := x37.1) (n := 0) rfl rfl rfl ?_
  refine L_as (v := .bool (x37.1 == 0)) rfl rfl ?_
  refine L_nil ?_
  refine W_cond (b := (x37.1 == 0)) rfl (fun hc45 => ?_) (fun hc45 => ?_)
  ·
    have hF := (ite_t hc45).symm.trans hF
    refine W_seq ?_
    refine W_region ?_
    refine L_fa (o' := 0) rfl fa_26_0 rfl rfl ?_
    refine L_ld (v := r26_0) rfl Try.isAgg23 rfl (At.cell0 (Blk.at (Star.blkAt 1 hst rfl)) (j := 0) rfl) ?_
    refine L_len (v := r26_0) (n := List.length x14.sizes) rfl Try.underlying23 rfl (Star.len 2 hst rfl) ?_
    refine L_gtr (m := (x14.sizes.length : Int)) (n := 0) rfl rfl rfl ?_
    refine L_nil ?_
    refine W_cond (b := decide ((x14.sizes.length : Int) > 0)) rfl (fun hc46 => ?_) (fun hc46 => ?_)
    ·
      have hF := (ite_t hc46).symm.trans hF
      obtain ⟨x56, hx56, hF⟩ := bind_some hF
      obtain ⟨x58, hx58, hF⟩ := bind_some hF
      have hst := Star.drop 5 hst rfl
      have hst := Star.get 4 hst rfl
      have hst := Star.get 4 hst rfl
      have hst := Star.get 4 hst rfl
      have hst := Star.get 4 hst rfl
      refine W_drawS 5 [isV (.pointer (some ⟨g29, 0, none⟩)), isV (r26_0), isV (.pointer (some ⟨g_0, 0, none⟩)), anyF, isV (.int .i64 x56.1)] [box g29 26 #[r26_0, r26_1], own (OR.ownS 3 (OR.frz RP.int)) [r26_0] x14.sizes, own (OR.ownS 36 (oRule 3 23)) [r26_1] x14.rules, box g7 26 #[(.slice none 0 0), (.slice none 0 0)]] [.base (box g_0 86 #[v0_0, .int .i64 x37.2]) (some 4), .made 3 23 (fun v_ => own (OR.ownS 3 (OR.frz RP.int)) [v_] ([(-1), 4, 3, 9223372036854775807])) none, .made 4 24 (fun v_ => box g_0 86 #[v0_0, .int .i64 x56.2]) none] (R) [([], []), ([], []), ([], []), ([], [1]), ([0, 1], [1, 2])] (S := [(none, none, some 4), (some 3, some 23, none), (some 4, some 24, none)]) Try_mix (by kernel_rfl) rfl (by kernel_rfl) (amF_cons (mono_V _) (amF_cons (mono_V _) (amF_cons (mono_V _) (amF_cons (mono_any) (amF_cons (mono_V _) amF_nil))))) hst ?_ (fun f w_ H62 hS62 hE62 hT62 hst => ?_)
      ·
        refine opsS_cons ?_ ?_
        ·
          intro f w_ H62 X62 hS62 hE62 hP62 hst
          refine L_fa (o' := 0) rfl fa_26_0 ((hS62 5 rfl).trans rfl) rfl ?_
          exact L_nil ⟨rfl, _, _, _, rfl, rfl, Le.refl _, rfl, hst⟩
        refine opsS_cons ?_ ?_
        ·
          intro f w_ H62 X62 hS62 hE62 hP62 hst
          refine L_ld (v := r26_0) rfl Try.isAgg23 (hP62 0 20 rfl rfl) (At.cell0 (Blk.at (Star.blkAt 0 hst rfl)) (j := 0) rfl) ?_
          exact L_nil ⟨rfl, _, _, _, rfl, rfl, Le.refl _, rfl, hst⟩
        refine opsS_cons ?_ ?_
        ·
          intro f w_ H62 X62 hS62 hE62 hP62 hst
          refine L_mv (v := .pointer (some ⟨g_0, 0, none⟩)) rfl ((hS62 0 rfl).trans rfl) ?_
          exact L_nil ⟨rfl, _, _, _, rfl, rfl, Le.refl _, rfl, hst⟩
        refine opsS_cons ?_ ?_
        ·
          intro f w_ H62 X62 hS62 hE62 hP62 hst
          refine L_bs rfl (parts4 rfl rfl rfl rfl) (bs_23_4_0_0_0_0 (.int .i64 (-1)) (.int .i64 4) (.int .i64 3) (.int .i64 9223372036854775807) rfl rfl rfl rfl) hst ?_
          intro g73 w74 hst
          have hst := Star.addF (r := RP.int) (cs := [.int .i64 9223372036854775807]) (x := 9223372036854775807) hst rfl
          have hst := Star.addF (r := RP.int) (cs := [.int .i64 3]) (x := 3) hst rfl
          have hst := Star.addF (r := RP.int) (cs := [.int .i64 4]) (x := 4) hst rfl
          have hst := Star.addF (r := RP.int) (cs := [.int .i64 (-1)]) (x := (-1)) hst rfl
          have hst := Star.mkRow (R := (OR.frz RP.int)) [([.int .i64 (-1)], (-1)), ([.int .i64 4], 4), ([.int .i64 3], 3), ([.int .i64 9223372036854775807], 9223372036854775807)] [(-1), 4, 3, 9223372036854775807] 4 hst rfl rfl rfl (by decide)
          have hst := Star.get 4 hst rfl
          have hst := Star.get 4 hst rfl
          have hst := Star.get 4 hst rfl
          have hst := Star.get 4 hst rfl
          exact L_nil ⟨rfl, _, _, _, rfl, rfl, Le.refl _, trivial, hst⟩
        refine opsS_cons ?_ ?_
        ·
          intro f w_ H62 X62 hS62 hE62 hP62 hst
          have hst : Star H62 w_ (box g29 26 #[r26_0, r26_1] :: own (OR.ownS 3 (OR.frz RP.int)) [r26_0] x14.sizes :: own (OR.ownS 36 (oRule 3 23)) [r26_1] x14.rules :: box g7 26 #[(.slice none 0 0), (.slice none 0 0)] :: box g_0 86 #[v0_0, .int .i64 x37.2] :: own (OR.ownS 3 (OR.frz RP.int)) [(f 23)] ([(-1), 4, 3, 9223372036854775807]) :: X62) := hst
          have hst := Star.get 4 hst rfl
          obtain ⟨Hb77, hle78, hsb79, hfz80, hbk81⟩ := Star.lend [_] hst
          have hb82 : (RP.slice 3 RP.int).rel Hb77 [(f 23)] ([(-1), 4, 3, 9223372036854775807]) := fz_own 4 hfz80 rfl
          refine L_call (args := #[.pointer (some ⟨g_0, 0, none⟩), (f 23)]) rfl Try.call49 (ops2 (hP62 2 22 rfl rfl) rfl) (s_l17Rd_num_c (r_ := ({ b := r_.b, p := x37.2 } : Rd)) (list := [(-1), 4, 3, 9223372036854775807]) hsb79 (RP.mono _ h0_0 (Le.trans hE62 hle78)) hb82 hx56) ?_
          rintro _ w83 ⟨rfl, hst⟩
          have hst := hbk81 hst (closedL_cons (closed_box _ _ _) closedL_nil)
          have hst := Star.get 5 hst rfl
          have hst := Star.get 5 hst rfl
          have hst := Star.get 5 hst rfl
          have hst := Star.get 5 hst rfl
          have hst := Star.get 5 hst rfl
          exact L_nil ⟨rfl, _, _, _, rfl, rfl, Le.refl _, rfl, hst⟩
        exact opsS_nil
      ·
        have hst : Star H62 w_ (box g29 26 #[r26_0, r26_1] :: own (OR.ownS 3 (OR.frz RP.int)) [r26_0] x14.sizes :: own (OR.ownS 36 (oRule 3 23)) [r26_1] x14.rules :: box g7 26 #[(.slice none 0 0), (.slice none 0 0)] :: own (OR.ownS 3 (OR.frz RP.int)) [(f 23)] ([(-1), 4, 3, 9223372036854775807]) :: box g_0 86 #[v0_0, .int .i64 x56.2] :: R) := hst
        obtain ⟨g84, cap_g84, hv85, _, _⟩ := Star.row 1 hst rfl hx58
        refine L_ixO (R := (OR.frz RP.int)) (tb := 0) 0 rfl Try.underlying23 Try.sizeOf3 (hT62 1 21 rfl rfl) hv85 (by first | rfl | simp) rfl hx58 ?_
        have hst := Star.addF (r := RP.int) (cs := [.int .i64 x56.1]) (x := x56.1) hst rfl
        have hst := Star.get 2 hst rfl
        have hst := Star.get 1 hst rfl
        refine L_stE1 (u := .int .i64 x56.1) rfl Try.sizeOf3 rfl rfl (hT62 4 24 rfl rfl) hv85 hst hx58 ?_
        intro w86 hst
        refine L_nil ?_
        refine W_seq ?_
        refine W_region ?_
        refine L_lda (cs := [r26_0, r26_1]) rfl Try.isAgg26 Try.sizeOf26 ((hS62 5 rfl).trans rfl) (At.sub0 (Blk.at (Star.blkAt 1 hst rfl)) 0 2) rfl ?_
        refine L_staB (vs := #[r26_0, r26_1]) (cs2 := #[r26_0, r26_1]) 3 rfl Try.sizeOf26 ((hS62 4 rfl).trans rfl) rfl rfl (ones_cons (one_len (Star.len 0 hst rfl)) (ones_cons (one_len (Star.len 2 hst rfl)) ones_nil)) hst rfl (by decide) rfl ?_
        intro w88 hst
        refine L_nil ?_
        refine W_ret ?_
        refine retG1 (v1 := .agg #[r26_0, r26_1]) Try.results47 (resV_agg Try.isAgg26 Try.sizeOf26 ((hS62 4 rfl).trans rfl) (Star.blkAt 0 hst rfl) rfl) ?_
        have hG := assertM_some hF
        have hst := Star.get 1 hst rfl
        obtain ⟨H89, hle90, hst, hz91⟩ := Star.freeze hst
        have hz91 : (RP.slice 3 RP.int).rel H89 [r26_0] (x14.sizes.set (Int.toNat 0) x56.1) := hz91
        have hst := Star.get 2 hst rfl
        obtain ⟨H92, hle93, hst, hz94⟩ := Star.freeze hst
        have hz94 : (RP.slice 36 (rRule 3 23)).rel H92 [r26_1] x14.rules := hz94
        have hst := Star.get 3 hst rfl
        have hst := Star.drop 1 hst rfl
        have hst := Star.drop 1 hst rfl
        have hst := Star.drop 1 hst rfl
        exact ⟨(({ sizes := (x14.sizes.set (Int.toNat 0) x56.1), rules := x14.rules } : Model), x56.2), hG, H92, (Le.trans (Le.trans hE62 hle90) hle93), r26_0, r26_1, rfl, (RP.mono _ hz91 hle93), hz94, hst⟩
    ·
      have hF := (ite_f hc46).symm.trans hF
      refine W_skip ?_
      refine W_seq ?_
      refine W_region ?_
      refine L_lda (cs := [r26_0, r26_1]) rfl Try.isAgg26 Try.sizeOf26 rfl (At.sub0 (Blk.at (Star.blkAt 1 hst rfl)) 0 2) rfl ?_
      refine L_staB (vs := #[r26_0, r26_1]) (cs2 := #[r26_0, r26_1]) 4 rfl Try.sizeOf26 rfl rfl rfl (ones_cons (one_len (Star.len 2 hst rfl)) (ones_cons (one_len (Star.len 3 hst rfl)) ones_nil)) hst rfl (by decide) rfl ?_
      intro w96 hst
      refine L_nil ?_
      refine W_ret ?_
      refine retG1 (v1 := .agg #[r26_0, r26_1]) Try.results47 (resV_agg Try.isAgg26 Try.sizeOf26 rfl (Star.blkAt 0 hst rfl) rfl) ?_
      have hG := assertM_some hF
      have hst := Star.get 3 hst rfl
      obtain ⟨H97, hle98, hst, hz99⟩ := Star.freeze hst
      have hz99 : (RP.slice 3 RP.int).rel H97 [r26_0] x14.sizes := hz99
      have hst := Star.get 3 hst rfl
      obtain ⟨H100, hle101, hst, hz102⟩ := Star.freeze hst
      have hz102 : (RP.slice 36 (rRule 3 23)).rel H100 [r26_1] x14.rules := hz102
      have hst := Star.get 1 hst rfl
      have hst := Star.drop 1 hst rfl
      have hst := Star.drop 1 hst rfl
      have hst := Star.drop 1 hst rfl
      exact ⟨(x14, x37.2), hG, H100, (Le.trans hle98 hle101), r26_0, r26_1, rfl, (RP.mono _ hz99 hle101), hz102, hst⟩
  ·
    have hF := (ite_f hc45).symm.trans hF
    refine W_seq ?_
    refine W_region ?_
    refine L_eql (m := x37.1) (n := 1) rfl rfl rfl ?_
    refine L_as (v := .bool (x37.1 == 1)) rfl rfl ?_
    refine L_nil ?_
    refine W_cond (b := (x37.1 == 1)) rfl (fun hc103 => ?_) (fun hc103 => ?_)
    ·
      have hF := (ite_t hc103).symm.trans hF
      obtain ⟨j107, hL107, hF⟩ := bind_some hF
      obtain ⟨R107, hR107⟩ : ∃ RR_ : Fr → World → Prop, RR_ = fun f w_ => ∃ g29_0_105 : List Int, ∃ v105_g29_0 : Value, j107 = .nx g29_0_105 ∧ f 4 = .pointer (some ⟨g7, 0, none⟩) ∧ f 5 = .pointer (some ⟨g29, 0, none⟩) ∧ Star H w_ (box g_0 86 #[v0_0, .int .i64 x37.2] :: own (OR.ownS 3 (OR.frz RP.int)) [v105_g29_0] g29_0_105 :: own (OR.ownS 36 (oRule 3 23)) [r26_1] x14.rules :: box g29 26 #[v105_g29_0, r26_1] :: box g7 26 #[(.slice none 0 0), (.slice none 0 0)] :: R) := ⟨_, rfl⟩
      refine W_join R107 ?_ ?_
      ·
        refine W_block ?_
        obtain ⟨I107, hI107⟩ : ∃ I : Nat → Fr → World → Prop, I = fun n f w_ => ∃ g29_0_105 : List Int, ∃ v105_g29_0 : Value, whileL s_l6Mutate_b1 n g29_0_105 = some j107 ∧ f 4 = .pointer (some ⟨g7, 0, none⟩) ∧ f 5 = .pointer (some ⟨g29, 0, none⟩) ∧ Star H w_ (box g_0 86 #[v0_0, .int .i64 x37.2] :: own (OR.ownS 3 (OR.frz RP.int)) [v105_g29_0] g29_0_105 :: own (OR.ownS 36 (oRule 3 23)) [r26_1] x14.rules :: box g29 26 #[v105_g29_0, r26_1] :: box g7 26 #[(.slice none 0 0), (.slice none 0 0)] :: R) := ⟨_, rfl⟩
        have hst := Star.get 4 hst rfl
        have hst := Star.get 2 hst rfl
        have hst := Star.get 4 hst rfl
        have hst := Star.get 4 hst rfl
        have hst := Star.get 4 hst rfl
        have hst := Star.drop 5 hst rfl
        refine W_loop I107 (n := fu) ?_ ?_
        · rw [hI107]; exact ⟨x14.sizes, r26_0, hL107, rfl, rfl, hst⟩
        ·
          clear hst
          intro n107 f w_ hI
          rw [hI107] at hI
          obtain ⟨g29_0_105, v105_g29_0, hL107, sf4, sf5, hst⟩ := hI
          cases n107 with
          | zero => exact (while_zero hL107).elim
          | succ n107 =>
            obtain ⟨o107, hB107, hL107⟩ := while_succ hL107
            rw [s_l6Mutate_b1] at hB107
            refine W_seq ?_
            refine W_seq ?_
            refine W_region ?_
            refine L_fa (o' := 0) rfl fa_26_0 sf5 rfl ?_
            refine L_ld (v := v105_g29_0) rfl Try.isAgg23 rfl (At.cell0 (Blk.at (Star.blkAt 3 hst rfl)) (j := 0) rfl) ?_
            refine L_len (v := v105_g29_0) (n := List.length g29_0_105) rfl Try.underlying23 rfl (Star.len 1 hst rfl) ?_
            refine L_leq (m := (g29_0_105.length : Int)) (n := 5) rfl rfl rfl ?_
            refine L_nil ?_
            refine W_cond (b := decide ((g29_0_105.length : Int) ≤ 5)) rfl (fun hc108 => ?_) (fun hc108 => ?_)
            ·
              have hB107 := (ite_t hc108).symm.trans hB107
              refine W_skip ?_
              refine W_block ?_
              obtain ⟨x112, hx112, hB107⟩ := bind_some hB107
              refine W_region ?_
              refine L_fa (o' := 0) rfl fa_26_0 sf5 rfl ?_
              refine L_ld (v := v105_g29_0) rfl Try.isAgg23 rfl (At.cell0 (Blk.at (Star.blkAt 3 hst rfl)) (j := 0) rfl) ?_
              refine L_bs rfl (parts1 rfl) (bs_23_1_0 (.int .i64 0) rfl) hst ?_
              intro g117 w118 hst
              have hst := Star.addF (r := RP.int) (cs := [.int .i64 0]) (x := 0) hst rfl
              have hst := Star.mkRow (R := (OR.frz RP.int)) [([.int .i64 0], 0)] [0] 1 hst rfl rfl rfl (by decide)
              have hst := Star.get 2 hst rfl
              refine L_appM (v := v105_g29_0) (u := (.slice (some ⟨g117, 0, none⟩) 1 1)) rfl et_23 rfl rfl hst hx112 ?_
              intro v120 w121 hst
              refine L_fa (o' := 0) rfl fa_26_0 sf5 rfl ?_
              refine L_stB (v := v120) (cs2 := #[v120, r26_1]) 3 rfl Try.sizeOf23 rfl rfl (one_len (Star.len 0 hst rfl)) hst rfl rfl rfl ?_
              intro w123 hst
              refine L_nil ?_
              obtain rfl := so hB107
              have hst := Star.get 4 hst rfl
              have hst := Star.get 1 hst rfl
              have hst := Star.get 4 hst rfl
              have hst := Star.get 3 hst rfl
              have hst := Star.get 4 hst rfl
              show ∃ m, m < _ ∧ I107 m _ _
              refine ⟨n107, Nat.lt_succ_self _, ?_⟩
              rw [hI107]
              exact ⟨x112, v120, hL107, sf4, sf5, hst⟩
            ·
              have hB107 := (ite_f hc108).symm.trans hB107
              refine W_exit ?_
              obtain rfl := so hB107
              obtain rfl := so hL107
              show R107 _ _
              rw [hR107]
              exact ⟨g29_0_105, v105_g29_0, rfl, sf4, sf5, hst⟩
      ·
        clear hst
        intro f w_ hR
        rw [hR107] at hR
        obtain ⟨g29_0_105, v105_g29_0, rfl, sf4, sf5, hst⟩ := hR
        clear hR107
        refine W_seq ?_
        refine W_region ?_
        refine L_lda (cs := [v105_g29_0, r26_1]) rfl Try.isAgg26 Try.sizeOf26 sf5 (At.sub0 (Blk.at (Star.blkAt 3 hst rfl)) 0 2) rfl ?_
        refine L_staB (vs := #[v105_g29_0, r26_1]) (cs2 := #[v105_g29_0, r26_1]) 4 rfl Try.sizeOf26 sf4 rfl rfl (ones_cons (one_len (Star.len 1 hst rfl)) (ones_cons (one_len (Star.len 2 hst rfl)) ones_nil)) hst rfl (by decide) rfl ?_
        intro w125 hst
        refine L_nil ?_
        refine W_ret ?_
        refine retG1 (v1 := .agg #[v105_g29_0, r26_1]) Try.results47 (resV_agg Try.isAgg26 Try.sizeOf26 sf4 (Star.blkAt 0 hst rfl) rfl) ?_
        have hG := assertM_some hF
        have hst := Star.get 2 hst rfl
        obtain ⟨H126, hle127, hst, hz128⟩ := Star.freeze hst
        have hz128 : (RP.slice 3 RP.int).rel H126 [v105_g29_0] g29_0_105 := hz128
        have hst := Star.get 2 hst rfl
        obtain ⟨H129, hle130, hst, hz131⟩ := Star.freeze hst
        have hz131 : (RP.slice 36 (rRule 3 23)).rel H129 [r26_1] x14.rules := hz131
        have hst := Star.get 1 hst rfl
        have hst := Star.drop 1 hst rfl
        have hst := Star.drop 1 hst rfl
        exact ⟨(({ sizes := g29_0_105, rules := x14.rules } : Model), x37.2), hG, H129, (Le.trans hle127 hle130), v105_g29_0, r26_1, rfl, (RP.mono _ hz128 hle130), hz131, hst⟩
    ·
      have hF := (ite_f hc103).symm.trans hF
      refine W_seq ?_
      refine W_region ?_
      refine L_eql (m := x37.1) (n := 2) rfl rfl rfl ?_
      refine L_as (v := .bool (x37.1 == 2)) rfl rfl ?_
      refine L_nil ?_
      refine W_cond (b := (x37.1 == 2)) rfl (fun hc132 => ?_) (fun hc132 => ?_)
      ·
        have hF := (ite_t hc132).symm.trans hF
        refine W_seq ?_
        refine W_region ?_
        refine L_mv (v := .int .i64 (x14.rules.length : Int)) rfl rfl ?_
        refine L_gtr (m := (x14.rules.length : Int)) (n := 0) rfl rfl rfl ?_
        refine L_nil ?_
        refine W_cond (b := decide ((x14.rules.length : Int) > 0)) rfl (fun hc133 => ?_) (fun hc133 => ?_)
        ·
          have hF := (ite_t hc133).symm.trans hF
          obtain ⟨x143, hx143, hF⟩ := bind_some hF
          obtain ⟨x145, hx145, hF⟩ := bind_some hF
          have hst := Star.drop 5 hst rfl
          have hst := Star.get 4 hst rfl
          have hst := Star.get 4 hst rfl
          have hst := Star.get 4 hst rfl
          have hst := Star.get 4 hst rfl
          refine W_drawS 5 [isV (.pointer (some ⟨g29, 1, none⟩)), isV (r26_1), isV (.pointer (some ⟨g_0, 0, none⟩)), anyF, isV (.int .i64 x143.1)] [box g29 26 #[r26_0, r26_1], own (OR.ownS 3 (OR.frz RP.int)) [r26_0] x14.sizes, own (OR.ownS 36 (oRule 3 23)) [r26_1] x14.rules, box g7 26 #[(.slice none 0 0), (.slice none 0 0)]] [.base (box g_0 86 #[v0_0, .int .i64 x37.2]) (some 4), .made 3 44 (fun v_ => own (OR.ownS 3 (OR.frz RP.int)) [v_] ([0, 5, 1, 2, 3])) none, .made 4 45 (fun v_ => box g_0 86 #[v0_0, .int .i64 x143.2]) none] (R) [([], []), ([], []), ([], []), ([], [1]), ([0, 1], [1, 2])] (S := [(none, none, some 4), (some 3, some 44, none), (some 4, some 45, none)]) Try_mix (by kernel_rfl) rfl (by kernel_rfl) (amF_cons (mono_V _) (amF_cons (mono_V _) (amF_cons (mono_V _) (amF_cons (mono_any) (amF_cons (mono_V _) amF_nil))))) hst ?_ (fun f w_ H149 hS149 hE149 hT149 hst => ?_)
          ·
            refine opsS_cons ?_ ?_
            ·
              intro f w_ H149 X149 hS149 hE149 hP149 hst
              refine L_fa (o' := 1) rfl fa_26_1 ((hS149 5 rfl).trans rfl) rfl ?_
              exact L_nil ⟨rfl, _, _, _, rfl, rfl, Le.refl _, rfl, hst⟩
            refine opsS_cons ?_ ?_
            ·
              intro f w_ H149 X149 hS149 hE149 hP149 hst
              refine L_ld (v := r26_1) rfl Try.isAgg24 (hP149 0 41 rfl rfl) (At.cell0 (Blk.at (Star.blkAt 0 hst rfl)) (j := 1) rfl) ?_
              exact L_nil ⟨rfl, _, _, _, rfl, rfl, Le.refl _, rfl, hst⟩
            refine opsS_cons ?_ ?_
            ·
              intro f w_ H149 X149 hS149 hE149 hP149 hst
              refine L_mv (v := .pointer (some ⟨g_0, 0, none⟩)) rfl ((hS149 0 rfl).trans rfl) ?_
              exact L_nil ⟨rfl, _, _, _, rfl, rfl, Le.refl _, rfl, hst⟩
            refine opsS_cons ?_ ?_
            ·
              intro f w_ H149 X149 hS149 hE149 hP149 hst
              refine L_bs rfl (parts5 rfl rfl rfl rfl rfl) (bs_23_5_0_0_0_0_0 (.int .i64 0) (.int .i64 5) (.int .i64 1) (.int .i64 2) (.int .i64 3) rfl rfl rfl rfl rfl) hst ?_
              intro g160 w161 hst
              have hst := Star.addF (r := RP.int) (cs := [.int .i64 3]) (x := 3) hst rfl
              have hst := Star.addF (r := RP.int) (cs := [.int .i64 2]) (x := 2) hst rfl
              have hst := Star.addF (r := RP.int) (cs := [.int .i64 1]) (x := 1) hst rfl
              have hst := Star.addF (r := RP.int) (cs := [.int .i64 5]) (x := 5) hst rfl
              have hst := Star.addF (r := RP.int) (cs := [.int .i64 0]) (x := 0) hst rfl
              have hst := Star.mkRow (R := (OR.frz RP.int)) [([.int .i64 0], 0), ([.int .i64 5], 5), ([.int .i64 1], 1), ([.int .i64 2], 2), ([.int .i64 3], 3)] [0, 5, 1, 2, 3] 5 hst rfl rfl rfl (by decide)
              have hst := Star.get 4 hst rfl
              have hst := Star.get 4 hst rfl
              have hst := Star.get 4 hst rfl
              have hst := Star.get 4 hst rfl
              exact L_nil ⟨rfl, _, _, _, rfl, rfl, Le.refl _, trivial, hst⟩
            refine opsS_cons ?_ ?_
            ·
              intro f w_ H149 X149 hS149 hE149 hP149 hst
              have hst : Star H149 w_ (box g29 26 #[r26_0, r26_1] :: own (OR.ownS 3 (OR.frz RP.int)) [r26_0] x14.sizes :: own (OR.ownS 36 (oRule 3 23)) [r26_1] x14.rules :: box g7 26 #[(.slice none 0 0), (.slice none 0 0)] :: box g_0 86 #[v0_0, .int .i64 x37.2] :: own (OR.ownS 3 (OR.frz RP.int)) [(f 44)] ([0, 5, 1, 2, 3]) :: X149) := hst
              have hst := Star.get 4 hst rfl
              obtain ⟨Hb164, hle165, hsb166, hfz167, hbk168⟩ := Star.lend [_] hst
              have hb169 : (RP.slice 3 RP.int).rel Hb164 [(f 44)] ([0, 5, 1, 2, 3]) := fz_own 4 hfz167 rfl
              refine L_call (args := #[.pointer (some ⟨g_0, 0, none⟩), (f 44)]) rfl Try.call49 (ops2 (hP149 2 43 rfl rfl) rfl) (s_l17Rd_num_c (r_ := ({ b := r_.b, p := x37.2 } : Rd)) (list := [0, 5, 1, 2, 3]) hsb166 (RP.mono _ h0_0 (Le.trans hE149 hle165)) hb169 hx143) ?_
              rintro _ w170 ⟨rfl, hst⟩
              have hst := hbk168 hst (closedL_cons (closed_box _ _ _) closedL_nil)
              have hst := Star.get 5 hst rfl
              have hst := Star.get 5 hst rfl
              have hst := Star.get 5 hst rfl
              have hst := Star.get 5 hst rfl
              have hst := Star.get 5 hst rfl
              exact L_nil ⟨rfl, _, _, _, rfl, rfl, Le.refl _, rfl, hst⟩
            exact opsS_nil
          ·
            have hst : Star H149 w_ (box g29 26 #[r26_0, r26_1] :: own (OR.ownS 3 (OR.frz RP.int)) [r26_0] x14.sizes :: own (OR.ownS 36 (oRule 3 23)) [r26_1] x14.rules :: box g7 26 #[(.slice none 0 0), (.slice none 0 0)] :: own (OR.ownS 3 (OR.frz RP.int)) [(f 44)] ([0, 5, 1, 2, 3]) :: box g_0 86 #[v0_0, .int .i64 x143.2] :: R) := hst
            obtain ⟨g171, cap_g171, hv172, _, _⟩ := Star.row 2 hst rfl hx145
            refine L_ixO (R := (oRule 3 23)) (tb := 0) 0 rfl Try.underlying24 Try.sizeOf36 (hT149 1 42 rfl rfl) hv172 (by first | rfl | simp) rfl hx145 ?_
            refine L_fa (o' := Int.toNat 0 * 5 + 0) rfl fa_36_0 rfl rfl ?_
            have hst := Star.get 2 hst rfl
            refine L_stF (j := 0) (u := .int .i64 x143.1) (z := { x145 with kind := x143.1 }) rfl Try.sizeOf3 rfl rfl (hT149 4 45 rfl rfl) rfl hv172 hst hx145 fld_oRule_0 ?_
            intro w173 hst
            refine L_nil ?_
            refine W_seq ?_
            refine W_region ?_
            refine L_lda (cs := [r26_0, r26_1]) rfl Try.isAgg26 Try.sizeOf26 ((hS149 5 rfl).trans rfl) (At.sub0 (Blk.at (Star.blkAt 1 hst rfl)) 0 2) rfl ?_
            refine L_staB (vs := #[r26_0, r26_1]) (cs2 := #[r26_0, r26_1]) 3 rfl Try.sizeOf26 ((hS149 4 rfl).trans rfl) rfl rfl (ones_cons (one_len (Star.len 2 hst rfl)) (ones_cons (one_len (Star.len 0 hst rfl)) ones_nil)) hst rfl (by decide) rfl ?_
            intro w175 hst
            refine L_nil ?_
            refine W_ret ?_
            refine retG1 (v1 := .agg #[r26_0, r26_1]) Try.results47 (resV_agg Try.isAgg26 Try.sizeOf26 ((hS149 4 rfl).trans rfl) (Star.blkAt 0 hst rfl) rfl) ?_
            have hG := assertM_some hF
            have hst := Star.get 3 hst rfl
            obtain ⟨H176, hle177, hst, hz178⟩ := Star.freeze hst
            have hz178 : (RP.slice 3 RP.int).rel H176 [r26_0] x14.sizes := hz178
            have hst := Star.get 1 hst rfl
            obtain ⟨H179, hle180, hst, hz181⟩ := Star.freeze hst
            have hz181 : (RP.slice 36 (rRule 3 23)).rel H179 [r26_1] (x14.rules.set (Int.toNat 0) ({ x145 with kind := x143.1 })) := hz181
            have hst := Star.get 3 hst rfl
            have hst := Star.drop 1 hst rfl
            have hst := Star.drop 1 hst rfl
            have hst := Star.drop 1 hst rfl
            exact ⟨(({ sizes := x14.sizes, rules := (x14.rules.set (Int.toNat 0) ({ x145 with kind := x143.1 })) } : Model), x143.2), hG, H179, (Le.trans (Le.trans hE149 hle177) hle180), r26_0, r26_1, rfl, (RP.mono _ hz178 hle180), hz181, hst⟩
        ·
          have hF := (ite_f hc133).symm.trans hF
          refine W_skip ?_
          refine W_seq ?_
          refine W_region ?_
          refine L_lda (cs := [r26_0, r26_1]) rfl Try.isAgg26 Try.sizeOf26 rfl (At.sub0 (Blk.at (Star.blkAt 1 hst rfl)) 0 2) rfl ?_
          refine L_staB (vs := #[r26_0, r26_1]) (cs2 := #[r26_0, r26_1]) 4 rfl Try.sizeOf26 rfl rfl rfl (ones_cons (one_len (Star.len 2 hst rfl)) (ones_cons (one_len (Star.len 3 hst rfl)) ones_nil)) hst rfl (by decide) rfl ?_
          intro w183 hst
          refine L_nil ?_
          refine W_ret ?_
          refine retG1 (v1 := .agg #[r26_0, r26_1]) Try.results47 (resV_agg Try.isAgg26 Try.sizeOf26 rfl (Star.blkAt 0 hst rfl) rfl) ?_
          have hG := assertM_some hF
          have hst := Star.get 3 hst rfl
          obtain ⟨H184, hle185, hst, hz186⟩ := Star.freeze hst
          have hz186 : (RP.slice 3 RP.int).rel H184 [r26_0] x14.sizes := hz186
          have hst := Star.get 3 hst rfl
          obtain ⟨H187, hle188, hst, hz189⟩ := Star.freeze hst
          have hz189 : (RP.slice 36 (rRule 3 23)).rel H187 [r26_1] x14.rules := hz189
          have hst := Star.get 1 hst rfl
          have hst := Star.drop 1 hst rfl
          have hst := Star.drop 1 hst rfl
          have hst := Star.drop 1 hst rfl
          exact ⟨(x14, x37.2), hG, H187, (Le.trans hle185 hle188), r26_0, r26_1, rfl, (RP.mono _ hz186 hle188), hz189, hst⟩
      ·
        have hF := (ite_f hc132).symm.trans hF
        refine W_seq ?_
        refine W_region ?_
        refine L_eql (m := x37.1) (n := 3) rfl rfl rfl ?_
        refine L_as (v := .bool (x37.1 == 3)) rfl rfl ?_
        refine L_nil ?_
        refine W_cond (b := (x37.1 == 3)) rfl (fun hc190 => ?_) (fun hc190 => ?_)
        ·
          have hF := (ite_t hc190).symm.trans hF
          refine W_seq ?_
          obtain ⟨b195, hb195, hF⟩ := bind_some hF
          obtain ⟨R196, hR196⟩ : ∃ RR_ : Fr → World → Prop, RR_ = fun f w_ => f 0 = .pointer (some ⟨g_0, 0, none⟩) ∧ f 4 = .pointer (some ⟨g7, 0, none⟩) ∧ f 5 = .pointer (some ⟨g29, 0, none⟩) ∧ f 6 = .int .i64 (x14.rules.length : Int) ∧ f 62 = .bool b195 ∧ Star H w_ (box g_0 86 #[v0_0, .int .i64 x37.2] :: own (OR.ownS 3 (OR.frz RP.int)) [r26_0] x14.sizes :: own (OR.ownS 36 (oRule 3 23)) [r26_1] x14.rules :: box g29 26 #[r26_0, r26_1] :: box g7 26 #[(.slice none 0 0), (.slice none 0 0)] :: R) := ⟨_, rfl⟩
          refine W_join R196 ?_ ?_
          ·
            refine W_region ?_
            refine L_mv (v := .int .i64 (x14.rules.length : Int)) rfl rfl ?_
            refine L_gtr (m := (x14.rules.length : Int)) (n := 0) rfl rfl rfl ?_
            refine L_mv (v := .bool (decide ((x14.rules.length : Int) > 0))) rfl rfl ?_
            refine L_split (d := 52) (b := decide ((x14.rules.length : Int) > 0)) rfl (fun hc197 => ?_) (fun hc197 => ?_)
            ·
              rw [ite_t hc197] at hb195
              obtain ⟨x191, hx191, hb195⟩ := bind_some hb195
              refine L_fa (o' := 1) rfl fa_26_1 rfl rfl ?_
              refine L_ld (v := r26_1) rfl Try.isAgg24 rfl (At.cell0 (Blk.at (Star.blkAt 1 hst rfl)) (j := 1) rfl) ?_
              refine L_mv (v := .int .i64 (x14.rules.length : Int)) rfl rfl ?_
              refine L_sub (m := (x14.rules.length : Int)) (n := 1) rfl rfl rfl ?_
              obtain ⟨g198, cap_g198, hv199, _, _⟩ := Star.row 3 hst rfl hx191
              refine L_ixO (R := (oRule 3 23)) (tb := 0) 0 rfl Try.underlying24 Try.sizeOf36 rfl hv199 (by first | rfl | simp) rfl hx191 ?_
              refine L_fa (o' := Int.toNat (i64 ((x14.rules.length : Int) - 1)) * 5 + 1) rfl fa_36_1 rfl rfl ?_
              obtain ⟨G200, cs200, hr200, hat200⟩ := Star.elt 3 hst rfl hv199 hx191
              obtain ⟨u200_1, u200_2, u200_4, rfl, ln200_1, ln200_2, ln200_4⟩ := oRule_lens hr200
              refine L_ld (v := u200_1) rfl Try.isAgg23 rfl (At.cell hat200 (j := 1) rfl) ?_
              refine L_len (v := u200_1) (n := List.length x191.vars) rfl Try.underlying23 rfl ln200_1 ?_
              refine L_gtr (m := (x191.vars.length : Int)) (n := 0) rfl rfl rfl ?_
              refine L_pick (v := .bool b195) rfl rfl (congrArg Value.bool (so hb195)) ?_
              refine L_nil ?_
              have hst := Star.get 4 hst rfl
              have hst := Star.get 2 hst rfl
              have hst := Star.get 4 hst rfl
              have hst := Star.get 4 hst rfl
              have hst := Star.get 4 hst rfl
              have hst := Star.drop 5 hst rfl
              show R196 _ _
              rw [hR196]
              exact ⟨rfl, rfl, rfl, rfl, rfl, hst⟩
            ·
              rw [ite_f hc197] at hb195
              refine L_pass rfl ?_
              refine L_pass rfl ?_
              refine L_pass rfl ?_
              refine L_pass rfl ?_
              refine L_pass rfl ?_
              refine L_pass rfl ?_
              refine L_pass rfl ?_
              refine L_pass rfl ?_
              refine L_pass rfl ?_
              refine L_pick (v := .bool b195) rfl rfl (congrArg Value.bool (so hb195)) ?_
              refine L_nil ?_
              have hst := Star.get 4 hst rfl
              have hst := Star.get 2 hst rfl
              have hst := Star.get 4 hst rfl
              have hst := Star.get 4 hst rfl
              have hst := Star.get 4 hst rfl
              have hst := Star.drop 5 hst rfl
              show R196 _ _
              rw [hR196]
              exact ⟨rfl, rfl, rfl, rfl, rfl, hst⟩
          ·
            intro f w_ hR
            rw [hR196] at hR
            obtain ⟨sf0, sf4, sf5, sf6, sf62, hst⟩ := hR
            clear hR196
            refine W_cond (b := b195) sf62 (fun hc201 => ?_) (fun hc201 => ?_)
            ·
              have hF := (ite_t hc201).symm.trans hF
              obtain ⟨x202, hx202, hF⟩ := bind_some hF
              obtain ⟨x218, hx218, hF⟩ := bind_some hF
              obtain ⟨x220, hx220, hF⟩ := bind_some hF
              obtain ⟨g225, cap_g225, hv226, _, _⟩ := Star.row 2 hst rfl hx202
              have hst := Star.get 2 hst rfl
              have hst := Star.get 1 hst rfl
              have hst := Star.get 4 hst rfl
              have hst := Star.get 4 hst rfl
              have hst := Star.get 4 hst rfl
              refine W_drawS 10 [isV (.pointer (some ⟨g29, 1, none⟩)), isV (r26_1), isV (.int .i64 (x14.rules.length : Int)), isV (.int .i64 (i64 ((x14.rules.length : Int) - 1))), isV (.pointer (some ⟨g225, Int.toNat (i64 ((x14.rules.length : Int) - 1)) * 5, none⟩)), isV (.pointer (some ⟨g225, Int.toNat (i64 ((x14.rules.length : Int) - 1)) * 5 + 1, none⟩)), anyF, isV (.pointer (some ⟨g_0, 0, none⟩)), anyF, isV (.int .i64 x218.1)] [own (OR.ownS 3 (OR.frz RP.int)) [r26_0] x14.sizes, box g29 26 #[r26_0, r26_1], box g7 26 #[(.slice none 0 0), (.slice none 0 0)]] [.base (box g_0 86 #[v0_0, .int .i64 x37.2]) (some 9), .base (own (OR.ownS 36 (oRule 3 23)) [r26_1] x14.rules) (some 6), .made 6 69 (fun v_ => packA (fun (u_ : Value × Value) => [hole 36 (oRule 3 23) r26_1 x14.rules (Int.toNat (i64 ((x14.rules.length : Int) - 1))) [.int .i64 x202.kind, v_, u_.1, .int .i64 x202.bound, u_.2], own (OR.ownS 3 (OR.frz RP.int)) [u_.1] x202.coefs, own (OR.ownS 23 (OR.ownS 3 (OR.frz RP.int))) [u_.2] x202.rows])) none, .made 6 69 (fun v_ => own (OR.ownS 3 (OR.frz RP.int)) [v_] x202.vars) none, .made 8 71 (fun v_ => own (OR.ownS 3 (OR.frz RP.int)) [v_] ([(-1), 5, 1, 0])) none, .made 9 72 (fun v_ => box g_0 86 #[v0_0, .int .i64 x218.2]) none] (R) [([], []), ([], []), ([], []), ([], []), ([1], [1]), ([], []), ([1], [2, 3]), ([], []), ([], [4]), ([0, 4], [4, 5])] (S := [(none, none, some 9), (none, none, some 6), (some 6, some 69, none), (some 6, some 69, none), (some 8, some 71, none), (some 9, some 72, none)]) Try_mix (by kernel_rfl) rfl (by kernel_rfl) (amF_cons (mono_V _) (amF_cons (mono_V _) (amF_cons (mono_V _) (amF_cons (mono_V _) (amF_cons (mono_V _) (amF_cons (mono_V _) (amF_cons (mono_any) (amF_cons (mono_V _) (amF_cons (mono_any) (amF_cons (mono_V _) amF_nil)))))))))) hst ?_ (fun f w_ H224 hS224 hE224 hT224 hst => ?_)
              ·
                refine opsS_cons ?_ ?_
                ·
                  intro f w_ H224 X224 hS224 hE224 hP224 hst
                  refine L_fa (o' := 1) rfl fa_26_1 ((hS224 5 rfl).trans sf5) rfl ?_
                  exact L_nil ⟨rfl, _, _, _, rfl, rfl, Le.refl _, rfl, hst⟩
                refine opsS_cons ?_ ?_
                ·
                  intro f w_ H224 X224 hS224 hE224 hP224 hst
                  refine L_ld (v := r26_1) rfl Try.isAgg24 (hP224 0 63 rfl rfl) (At.cell0 (Blk.at (Star.blkAt 1 hst rfl)) (j := 1) rfl) ?_
                  exact L_nil ⟨rfl, _, _, _, rfl, rfl, Le.refl _, rfl, hst⟩
                refine opsS_cons ?_ ?_
                ·
                  intro f w_ H224 X224 hS224 hE224 hP224 hst
                  refine L_mv (v := .int .i64 (x14.rules.length : Int)) rfl ((hS224 6 rfl).trans sf6) ?_
                  exact L_nil ⟨rfl, _, _, _, rfl, rfl, Le.refl _, rfl, hst⟩
                refine opsS_cons ?_ ?_
                ·
                  intro f w_ H224 X224 hS224 hE224 hP224 hst
                  refine L_sub (m := (x14.rules.length : Int)) (n := 1) rfl (hP224 2 65 rfl rfl) rfl ?_
                  exact L_nil ⟨rfl, _, _, _, rfl, rfl, Le.refl _, rfl, hst⟩
                refine opsS_cons ?_ ?_
                ·
                  intro f w_ H224 X224 hS224 hE224 hP224 hst
                  have hst : Star H224 w_ (own (OR.ownS 3 (OR.frz RP.int)) [r26_0] x14.sizes :: box g29 26 #[r26_0, r26_1] :: box g7 26 #[(.slice none 0 0), (.slice none 0 0)] :: own (OR.ownS 36 (oRule 3 23)) [r26_1] x14.rules :: X224) := hst
                  refine L_ixO (R := (oRule 3 23)) (tb := 0) 0 rfl Try.underlying24 Try.sizeOf36 (hP224 1 64 rfl rfl) hv226 (by first | rfl | simp) (hP224 3 66 rfl rfl) hx202 ?_
                  exact L_nil ⟨rfl, _, _, _, rfl, rfl, Le.refl _, rfl, hst⟩
                refine opsS_cons ?_ ?_
                ·
                  intro f w_ H224 X224 hS224 hE224 hP224 hst
                  refine L_fa (o' := Int.toNat (i64 ((x14.rules.length : Int) - 1)) * 5 + 1) rfl fa_36_1 (hP224 4 67 rfl rfl) rfl ?_
                  exact L_nil ⟨rfl, _, _, _, rfl, rfl, Le.refl _, rfl, hst⟩
                refine opsS_cons ?_ ?_
                ·
                  intro f w_ H224 X224 hS224 hE224 hP224 hst
                  have hst : Star H224 w_ (own (OR.ownS 3 (OR.frz RP.int)) [r26_0] x14.sizes :: box g29 26 #[r26_0, r26_1] :: box g7 26 #[(.slice none 0 0), (.slice none 0 0)] :: own (OR.ownS 36 (oRule 3 23)) [r26_1] x14.rules :: X224) := hst
                  have hst := Star.get 3 hst rfl
                  obtain ⟨cs241, hst, hat241⟩ := Star.focus hst hx202
                  have hat241 := hat241 _ _ _ hv226
                  obtain ⟨u241_0, u241_1, u241_2, rfl, hst⟩ := oRule_open hst
                  refine L_ld (v := u241_0) rfl Try.isAgg23 (hP224 5 68 rfl rfl) (At.cell hat241 (j := 1) rfl) ?_
                  have hst := Star.get 2 hst rfl
                  have hst := Star.get 2 hst rfl
                  have hst := Star.get 3 hst rfl
                  have hst := Star.pack (fun (u_ : Value × Value) => [hole 36 (oRule 3 23) r26_1 x14.rules (Int.toNat (i64 ((x14.rules.length : Int) - 1))) [.int .i64 x202.kind, u241_0, u_.1, .int .i64 x202.bound, u_.2], own (OR.ownS 3 (OR.frz RP.int)) [u_.1] x202.coefs, own (OR.ownS 23 (OR.ownS 3 (OR.frz RP.int))) [u_.2] x202.rows]) (u241_1, u241_2) hst
                  have hst := Star.get 1 hst rfl
                  have hst := Star.get 1 hst rfl
                  have hst := Star.get 4 hst rfl
                  have hst := Star.get 4 hst rfl
                  have hst := Star.get 4 hst rfl
                  exact L_nil ⟨rfl, _, _, _, rfl, rfl, Le.refl _, trivial, hst⟩
                refine opsS_cons ?_ ?_
                ·
                  intro f w_ H224 X224 hS224 hE224 hP224 hst
                  refine L_mv (v := .pointer (some ⟨g_0, 0, none⟩)) rfl ((hS224 0 rfl).trans sf0) ?_
                  exact L_nil ⟨rfl, _, _, _, rfl, rfl, Le.refl _, rfl, hst⟩
                refine opsS_cons ?_ ?_
                ·
                  intro f w_ H224 X224 hS224 hE224 hP224 hst
                  refine L_bs rfl (parts4 rfl rfl rfl rfl) (bs_23_4_0_0_0_0 (.int .i64 (-1)) (.int .i64 5) (.int .i64 1) (.int .i64 0) rfl rfl rfl rfl) hst ?_
                  intro g245 w246 hst
                  have hst := Star.addF (r := RP.int) (cs := [.int .i64 0]) (x := 0) hst rfl
                  have hst := Star.addF (r := RP.int) (cs := [.int .i64 1]) (x := 1) hst rfl
                  have hst := Star.addF (r := RP.int) (cs := [.int .i64 5]) (x := 5) hst rfl
                  have hst := Star.addF (r := RP.int) (cs := [.int .i64 (-1)]) (x := (-1)) hst rfl
                  have hst := Star.mkRow (R := (OR.frz RP.int)) [([.int .i64 (-1)], (-1)), ([.int .i64 5], 5), ([.int .i64 1], 1), ([.int .i64 0], 0)] [(-1), 5, 1, 0] 4 hst rfl rfl rfl (by decide)
                  have hst := Star.get 3 hst rfl
                  have hst := Star.get 3 hst rfl
                  have hst := Star.get 3 hst rfl
                  exact L_nil ⟨rfl, _, _, _, rfl, rfl, Le.refl _, trivial, hst⟩
                refine opsS_cons ?_ ?_
                ·
                  intro f w_ H224 X224 hS224 hE224 hP224 hst
                  have hst : Star H224 w_ (own (OR.ownS 3 (OR.frz RP.int)) [r26_0] x14.sizes :: box g29 26 #[r26_0, r26_1] :: box g7 26 #[(.slice none 0 0), (.slice none 0 0)] :: box g_0 86 #[v0_0, .int .i64 x37.2] :: own (OR.ownS 3 (OR.frz RP.int)) [(f 71)] ([(-1), 5, 1, 0]) :: X224) := hst
                  have hst := Star.get 3 hst rfl
                  obtain ⟨Hb249, hle250, hsb251, hfz252, hbk253⟩ := Star.lend [_] hst
                  have hb254 : (RP.slice 3 RP.int).rel Hb249 [(f 71)] ([(-1), 5, 1, 0]) := fz_own 3 hfz252 rfl
                  refine L_call (args := #[.pointer (some ⟨g_0, 0, none⟩), (f 71)]) rfl Try.call49 (ops2 (hP224 7 70 rfl rfl) rfl) (s_l17Rd_num_c (r_ := ({ b := r_.b, p := x37.2 } : Rd)) (list := [(-1), 5, 1, 0]) hsb251 (RP.mono _ h0_0 (Le.trans hE224 hle250)) hb254 hx218) ?_
                  rintro _ w255 ⟨rfl, hst⟩
                  have hst := hbk253 hst (closedL_cons (closed_box _ _ _) closedL_nil)
                  have hst := Star.get 4 hst rfl
                  have hst := Star.get 4 hst rfl
                  have hst := Star.get 4 hst rfl
                  have hst := Star.get 4 hst rfl
                  exact L_nil ⟨rfl, _, _, _, rfl, rfl, Le.refl _, rfl, hst⟩
                exact opsS_nil
              ·
                have hst : Star H224 w_ (own (OR.ownS 3 (OR.frz RP.int)) [r26_0] x14.sizes :: box g29 26 #[r26_0, r26_1] :: box g7 26 #[(.slice none 0 0), (.slice none 0 0)] :: packA (fun (u_ : Value × Value) => [hole 36 (oRule 3 23) r26_1 x14.rules (Int.toNat (i64 ((x14.rules.length : Int) - 1))) [.int .i64 x202.kind, (f 69), u_.1, .int .i64 x202.bound, u_.2], own (OR.ownS 3 (OR.frz RP.int)) [u_.1] x202.coefs, own (OR.ownS 23 (OR.ownS 3 (OR.frz RP.int))) [u_.2] x202.rows]) :: own (OR.ownS 3 (OR.frz RP.int)) [(f 69)] x202.vars :: own (OR.ownS 3 (OR.frz RP.int)) [(f 71)] ([(-1), 5, 1, 0]) :: box g_0 86 #[v0_0, .int .i64 x218.2] :: R) := hst
                have hst := Star.get 3 hst rfl
                obtain ⟨⟨u256_0, u257_1⟩, hst⟩ := Star.unpack hst
                have hst : Star H224 w_ (hole 36 (oRule 3 23) r26_1 x14.rules (Int.toNat (i64 ((x14.rules.length : Int) - 1))) [.int .i64 x202.kind, (f 69), u256_0, .int .i64 x202.bound, u257_1] :: own (OR.ownS 3 (OR.frz RP.int)) [u256_0] x202.coefs :: own (OR.ownS 23 (OR.ownS 3 (OR.frz RP.int))) [u257_1] x202.rows :: own (OR.ownS 3 (OR.frz RP.int)) [r26_0] x14.sizes :: box g29 26 #[r26_0, r26_1] :: box g7 26 #[(.slice none 0 0), (.slice none 0 0)] :: own (OR.ownS 3 (OR.frz RP.int)) [(f 69)] x202.vars :: own (OR.ownS 3 (OR.frz RP.int)) [(f 71)] ([(-1), 5, 1, 0]) :: box g_0 86 #[v0_0, .int .i64 x218.2] :: R) := hst
                obtain ⟨g259, cap_g259, hv260, _, _⟩ := Star.row 6 hst rfl hx220
                refine L_ixO (R := (OR.frz RP.int)) (tb := 0) 0 rfl Try.underlying23 Try.sizeOf3 rfl hv260 (by first | rfl | simp) rfl hx220 ?_
                have hst := Star.addF (r := RP.int) (cs := [.int .i64 x218.1]) (x := x218.1) hst rfl
                have hst := Star.get 7 hst rfl
                have hst := Star.get 1 hst rfl
                refine L_stE1 (u := .int .i64 x218.1) rfl Try.sizeOf3 rfl rfl (hT224 9 72 rfl rfl) hv260 hst hx220 ?_
                intro w261 hst
                refine L_nil ?_
                refine W_seq ?_
                have hst := Star.get 1 hst rfl
                have hst := Star.get 3 hst rfl
                have hst := Star.get 3 hst rfl
                have hst := Star.get 3 hst rfl
                have hst := oRule_close (r := ({ kind := x202.kind, vars := (x202.vars.set (Int.toNat 0) x218.1), coefs := x202.coefs, bound := x202.bound, rows := x202.rows } : Rule)) hst
                have hst := Star.unfocus (x' := ({ kind := x202.kind, vars := (x202.vars.set (Int.toNat 0) x218.1), coefs := x202.coefs, bound := x202.bound, rows := x202.rows } : Rule)) (idx_some hx202).2.2 hst
                refine W_region ?_
                refine L_lda (cs := [r26_0, r26_1]) rfl Try.isAgg26 Try.sizeOf26 ((hS224 5 rfl).trans sf5) (At.sub0 (Blk.at (Star.blkAt 2 hst rfl)) 0 2) rfl ?_
                refine L_staB (vs := #[r26_0, r26_1]) (cs2 := #[r26_0, r26_1]) 3 rfl Try.sizeOf26 ((hS224 4 rfl).trans sf4) rfl rfl (ones_cons (one_len (Star.len 1 hst rfl)) (ones_cons (one_len (Star.len 0 hst rfl)) ones_nil)) hst rfl (by decide) rfl ?_
                intro w263 hst
                refine L_nil ?_
                refine W_ret ?_
                refine retG1 (v1 := .agg #[r26_0, r26_1]) Try.results47 (resV_agg Try.isAgg26 Try.sizeOf26 ((hS224 4 rfl).trans sf4) (Star.blkAt 0 hst rfl) rfl) ?_
                have hG := assertM_some hF
                have hst := Star.get 2 hst rfl
                obtain ⟨H264, hle265, hst, hz266⟩ := Star.freeze hst
                have hz266 : (RP.slice 3 RP.int).rel H264 [r26_0] x14.sizes := hz266
                have hst := Star.get 1 hst rfl
                obtain ⟨H267, hle268, hst, hz269⟩ := Star.freeze hst
                have hz269 : (RP.slice 36 (rRule 3 23)).rel H267 [r26_1] (x14.rules.set (Int.toNat (i64 ((x14.rules.length : Int) - 1))) ({ kind := x202.kind, vars := (x202.vars.set (Int.toNat 0) x218.1), coefs := x202.coefs, bound := x202.bound, rows := x202.rows } : Rule)) := hz269
                have hst := Star.get 3 hst rfl
                have hst := Star.drop 1 hst rfl
                have hst := Star.drop 1 hst rfl
                have hst := Star.drop 1 hst rfl
                exact ⟨(({ sizes := x14.sizes, rules := (x14.rules.set (Int.toNat (i64 ((x14.rules.length : Int) - 1))) ({ kind := x202.kind, vars := (x202.vars.set (Int.toNat 0) x218.1), coefs := x202.coefs, bound := x202.bound, rows := x202.rows } : Rule)) } : Model), x218.2), hG, H267, (Le.trans (Le.trans hE224 hle265) hle268), r26_0, r26_1, rfl, (RP.mono _ hz266 hle268), hz269, hst⟩
            ·
              have hF := (ite_f hc201).symm.trans hF
              refine W_skip ?_
              refine W_seq ?_
              refine W_region ?_
              refine L_lda (cs := [r26_0, r26_1]) rfl Try.isAgg26 Try.sizeOf26 sf5 (At.sub0 (Blk.at (Star.blkAt 3 hst rfl)) 0 2) rfl ?_
              refine L_staB (vs := #[r26_0, r26_1]) (cs2 := #[r26_0, r26_1]) 4 rfl Try.sizeOf26 sf4 rfl rfl (ones_cons (one_len (Star.len 1 hst rfl)) (ones_cons (one_len (Star.len 2 hst rfl)) ones_nil)) hst rfl (by decide) rfl ?_
              intro w271 hst
              refine L_nil ?_
              refine W_ret ?_
              refine retG1 (v1 := .agg #[r26_0, r26_1]) Try.results47 (resV_agg Try.isAgg26 Try.sizeOf26 sf4 (Star.blkAt 0 hst rfl) rfl) ?_
              have hG := assertM_some hF
              have hst := Star.get 2 hst rfl
              obtain ⟨H272, hle273, hst, hz274⟩ := Star.freeze hst
              have hz274 : (RP.slice 3 RP.int).rel H272 [r26_0] x14.sizes := hz274
              have hst := Star.get 2 hst rfl
              obtain ⟨H275, hle276, hst, hz277⟩ := Star.freeze hst
              have hz277 : (RP.slice 36 (rRule 3 23)).rel H275 [r26_1] x14.rules := hz277
              have hst := Star.get 1 hst rfl
              have hst := Star.drop 1 hst rfl
              have hst := Star.drop 1 hst rfl
              exact ⟨(x14, x37.2), hG, H275, (Le.trans hle273 hle276), r26_0, r26_1, rfl, (RP.mono _ hz274 hle276), hz277, hst⟩
        ·
          have hF := (ite_f hc190).symm.trans hF
          refine W_seq ?_
          refine W_region ?_
          refine L_eql (m := x37.1) (n := 4) rfl rfl rfl ?_
          refine L_as (v := .bool (x37.1 == 4)) rfl rfl ?_
          refine L_nil ?_
          refine W_cond (b := (x37.1 == 4)) rfl (fun hc278 => ?_) (fun hc278 => ?_)
          ·
            have hF := (ite_t hc278).symm.trans hF
            refine W_seq ?_
            refine W_region ?_
            refine L_mv (v := .int .i64 (x14.rules.length : Int)) rfl rfl ?_
            refine L_gtr (m := (x14.rules.length : Int)) (n := 0) rfl rfl rfl ?_
            refine L_nil ?_
            refine W_cond (b := decide ((x14.rules.length : Int) > 0)) rfl (fun hc279 => ?_) (fun hc279 => ?_)
            ·
              have hF := (ite_t hc279).symm.trans hF
              obtain ⟨x289, hx289, hF⟩ := bind_some hF
              obtain ⟨x291, hx291, hF⟩ := bind_some hF
              have hst := Star.drop 5 hst rfl
              have hst := Star.get 4 hst rfl
              have hst := Star.get 4 hst rfl
              have hst := Star.get 4 hst rfl
              have hst := Star.get 4 hst rfl
              refine W_drawS 5 [isV (.pointer (some ⟨g29, 1, none⟩)), isV (r26_1), isV (.pointer (some ⟨g_0, 0, none⟩)), anyF, isV (.int .i64 x289.1)] [box g29 26 #[r26_0, r26_1], own (OR.ownS 3 (OR.frz RP.int)) [r26_0] x14.sizes, own (OR.ownS 36 (oRule 3 23)) [r26_1] x14.rules, box g7 26 #[(.slice none 0 0), (.slice none 0 0)]] [.base (box g_0 86 #[v0_0, .int .i64 x37.2]) (some 4), .made 3 81 (fun v_ => own (OR.ownS 3 (OR.frz RP.int)) [v_] ([1001, (-1001), 1000])) none, .made 4 82 (fun v_ => box g_0 86 #[v0_0, .int .i64 x289.2]) none] (R) [([], []), ([], []), ([], []), ([], [1]), ([0, 1], [1, 2])] (S := [(none, none, some 4), (some 3, some 81, none), (some 4, some 82, none)]) Try_mix (by kernel_rfl) rfl (by kernel_rfl) (amF_cons (mono_V _) (amF_cons (mono_V _) (amF_cons (mono_V _) (amF_cons (mono_any) (amF_cons (mono_V _) amF_nil))))) hst ?_ (fun f w_ H295 hS295 hE295 hT295 hst => ?_)
              ·
                refine opsS_cons ?_ ?_
                ·
                  intro f w_ H295 X295 hS295 hE295 hP295 hst
                  refine L_fa (o' := 1) rfl fa_26_1 ((hS295 5 rfl).trans rfl) rfl ?_
                  exact L_nil ⟨rfl, _, _, _, rfl, rfl, Le.refl _, rfl, hst⟩
                refine opsS_cons ?_ ?_
                ·
                  intro f w_ H295 X295 hS295 hE295 hP295 hst
                  refine L_ld (v := r26_1) rfl Try.isAgg24 (hP295 0 78 rfl rfl) (At.cell0 (Blk.at (Star.blkAt 0 hst rfl)) (j := 1) rfl) ?_
                  exact L_nil ⟨rfl, _, _, _, rfl, rfl, Le.refl _, rfl, hst⟩
                refine opsS_cons ?_ ?_
                ·
                  intro f w_ H295 X295 hS295 hE295 hP295 hst
                  refine L_mv (v := .pointer (some ⟨g_0, 0, none⟩)) rfl ((hS295 0 rfl).trans rfl) ?_
                  exact L_nil ⟨rfl, _, _, _, rfl, rfl, Le.refl _, rfl, hst⟩
                refine opsS_cons ?_ ?_
                ·
                  intro f w_ H295 X295 hS295 hE295 hP295 hst
                  refine L_bs rfl (parts3 rfl rfl rfl) (bs_23_3_0_0_0 (.int .i64 1001) (.int .i64 (-1001)) (.int .i64 1000) rfl rfl rfl) hst ?_
                  intro g306 w307 hst
                  have hst := Star.addF (r := RP.int) (cs := [.int .i64 1000]) (x := 1000) hst rfl
                  have hst := Star.addF (r := RP.int) (cs := [.int .i64 (-1001)]) (x := (-1001)) hst rfl
                  have hst := Star.addF (r := RP.int) (cs := [.int .i64 1001]) (x := 1001) hst rfl
                  have hst := Star.mkRow (R := (OR.frz RP.int)) [([.int .i64 1001], 1001), ([.int .i64 (-1001)], (-1001)), ([.int .i64 1000], 1000)] [1001, (-1001), 1000] 3 hst rfl rfl rfl (by decide)
                  have hst := Star.get 4 hst rfl
                  have hst := Star.get 4 hst rfl
                  have hst := Star.get 4 hst rfl
                  have hst := Star.get 4 hst rfl
                  exact L_nil ⟨rfl, _, _, _, rfl, rfl, Le.refl _, trivial, hst⟩
                refine opsS_cons ?_ ?_
                ·
                  intro f w_ H295 X295 hS295 hE295 hP295 hst
                  have hst : Star H295 w_ (box g29 26 #[r26_0, r26_1] :: own (OR.ownS 3 (OR.frz RP.int)) [r26_0] x14.sizes :: own (OR.ownS 36 (oRule 3 23)) [r26_1] x14.rules :: box g7 26 #[(.slice none 0 0), (.slice none 0 0)] :: box g_0 86 #[v0_0, .int .i64 x37.2] :: own (OR.ownS 3 (OR.frz RP.int)) [(f 81)] ([1001, (-1001), 1000]) :: X295) := hst
                  have hst := Star.get 4 hst rfl
                  obtain ⟨Hb310, hle311, hsb312, hfz313, hbk314⟩ := Star.lend [_] hst
                  have hb315 : (RP.slice 3 RP.int).rel Hb310 [(f 81)] ([1001, (-1001), 1000]) := fz_own 4 hfz313 rfl
                  refine L_call (args := #[.pointer (some ⟨g_0, 0, none⟩), (f 81)]) rfl Try.call49 (ops2 (hP295 2 80 rfl rfl) rfl) (s_l17Rd_num_c (r_ := ({ b := r_.b, p := x37.2 } : Rd)) (list := [1001, (-1001), 1000]) hsb312 (RP.mono _ h0_0 (Le.trans hE295 hle311)) hb315 hx289) ?_
                  rintro _ w316 ⟨rfl, hst⟩
                  have hst := hbk314 hst (closedL_cons (closed_box _ _ _) closedL_nil)
                  have hst := Star.get 5 hst rfl
                  have hst := Star.get 5 hst rfl
                  have hst := Star.get 5 hst rfl
                  have hst := Star.get 5 hst rfl
                  have hst := Star.get 5 hst rfl
                  exact L_nil ⟨rfl, _, _, _, rfl, rfl, Le.refl _, rfl, hst⟩
                exact opsS_nil
              ·
                have hst : Star H295 w_ (box g29 26 #[r26_0, r26_1] :: own (OR.ownS 3 (OR.frz RP.int)) [r26_0] x14.sizes :: own (OR.ownS 36 (oRule 3 23)) [r26_1] x14.rules :: box g7 26 #[(.slice none 0 0), (.slice none 0 0)] :: own (OR.ownS 3 (OR.frz RP.int)) [(f 81)] ([1001, (-1001), 1000]) :: box g_0 86 #[v0_0, .int .i64 x289.2] :: R) := hst
                obtain ⟨g317, cap_g317, hv318, _, _⟩ := Star.row 2 hst rfl hx291
                refine L_ixO (R := (oRule 3 23)) (tb := 0) 0 rfl Try.underlying24 Try.sizeOf36 (hT295 1 79 rfl rfl) hv318 (by first | rfl | simp) rfl hx291 ?_
                refine L_fa (o' := Int.toNat 0 * 5 + 3) rfl fa_36_3 rfl rfl ?_
                have hst := Star.get 2 hst rfl
                refine L_stF (j := 3) (u := .int .i64 x289.1) (z := { x291 with bound := x289.1 }) rfl Try.sizeOf3 rfl rfl (hT295 4 82 rfl rfl) rfl hv318 hst hx291 fld_oRule_3 ?_
                intro w319 hst
                refine L_nil ?_
                refine W_seq ?_
                refine W_region ?_
                refine L_lda (cs := [r26_0, r26_1]) rfl Try.isAgg26 Try.sizeOf26 ((hS295 5 rfl).trans rfl) (At.sub0 (Blk.at (Star.blkAt 1 hst rfl)) 0 2) rfl ?_
                refine L_staB (vs := #[r26_0, r26_1]) (cs2 := #[r26_0, r26_1]) 3 rfl Try.sizeOf26 ((hS295 4 rfl).trans rfl) rfl rfl (ones_cons (one_len (Star.len 2 hst rfl)) (ones_cons (one_len (Star.len 0 hst rfl)) ones_nil)) hst rfl (by decide) rfl ?_
                intro w321 hst
                refine L_nil ?_
                refine W_ret ?_
                refine retG1 (v1 := .agg #[r26_0, r26_1]) Try.results47 (resV_agg Try.isAgg26 Try.sizeOf26 ((hS295 4 rfl).trans rfl) (Star.blkAt 0 hst rfl) rfl) ?_
                have hG := assertM_some hF
                have hst := Star.get 3 hst rfl
                obtain ⟨H322, hle323, hst, hz324⟩ := Star.freeze hst
                have hz324 : (RP.slice 3 RP.int).rel H322 [r26_0] x14.sizes := hz324
                have hst := Star.get 1 hst rfl
                obtain ⟨H325, hle326, hst, hz327⟩ := Star.freeze hst
                have hz327 : (RP.slice 36 (rRule 3 23)).rel H325 [r26_1] (x14.rules.set (Int.toNat 0) ({ x291 with bound := x289.1 })) := hz327
                have hst := Star.get 3 hst rfl
                have hst := Star.drop 1 hst rfl
                have hst := Star.drop 1 hst rfl
                have hst := Star.drop 1 hst rfl
                exact ⟨(({ sizes := x14.sizes, rules := (x14.rules.set (Int.toNat 0) ({ x291 with bound := x289.1 })) } : Model), x289.2), hG, H325, (Le.trans (Le.trans hE295 hle323) hle326), r26_0, r26_1, rfl, (RP.mono _ hz324 hle326), hz327, hst⟩
            ·
              have hF := (ite_f hc279).symm.trans hF
              refine W_skip ?_
              refine W_seq ?_
              refine W_region ?_
              refine L_lda (cs := [r26_0, r26_1]) rfl Try.isAgg26 Try.sizeOf26 rfl (At.sub0 (Blk.at (Star.blkAt 1 hst rfl)) 0 2) rfl ?_
              refine L_staB (vs := #[r26_0, r26_1]) (cs2 := #[r26_0, r26_1]) 4 rfl Try.sizeOf26 rfl rfl rfl (ones_cons (one_len (Star.len 2 hst rfl)) (ones_cons (one_len (Star.len 3 hst rfl)) ones_nil)) hst rfl (by decide) rfl ?_
              intro w329 hst
              refine L_nil ?_
              refine W_ret ?_
              refine retG1 (v1 := .agg #[r26_0, r26_1]) Try.results47 (resV_agg Try.isAgg26 Try.sizeOf26 rfl (Star.blkAt 0 hst rfl) rfl) ?_
              have hG := assertM_some hF
              have hst := Star.get 3 hst rfl
              obtain ⟨H330, hle331, hst, hz332⟩ := Star.freeze hst
              have hz332 : (RP.slice 3 RP.int).rel H330 [r26_0] x14.sizes := hz332
              have hst := Star.get 3 hst rfl
              obtain ⟨H333, hle334, hst, hz335⟩ := Star.freeze hst
              have hz335 : (RP.slice 36 (rRule 3 23)).rel H333 [r26_1] x14.rules := hz335
              have hst := Star.get 1 hst rfl
              have hst := Star.drop 1 hst rfl
              have hst := Star.drop 1 hst rfl
              have hst := Star.drop 1 hst rfl
              exact ⟨(x14, x37.2), hG, H333, (Le.trans hle331 hle334), r26_0, r26_1, rfl, (RP.mono _ hz332 hle334), hz335, hst⟩
          ·
            have hF := (ite_f hc278).symm.trans hF
            refine W_seq ?_
            refine W_region ?_
            refine L_eql (m := x37.1) (n := 5) rfl rfl rfl ?_
            refine L_as (v := .bool (x37.1 == 5)) rfl rfl ?_
            refine L_nil ?_
            refine W_cond (b := (x37.1 == 5)) rfl (fun hc336 => ?_) (fun hc336 => ?_)
            ·
              have hF := (ite_t hc336).symm.trans hF
              refine W_seq ?_
              refine W_region ?_
              refine L_bld rfl (parts0 ) (bld_26_  ) ?_
              refine L_staB (vs := #[(.slice none 0 0), (.slice none 0 0)]) (cs2 := #[(.slice none 0 0), (.slice none 0 0)]) 4 rfl Try.sizeOf26 rfl rfl rfl (ones_cons rfl (ones_cons rfl ones_nil)) hst rfl (by decide) rfl ?_
              intro w338 hst
              refine L_nil ?_
              refine W_ret ?_
              refine retG1 (v1 := .agg #[(.slice none 0 0), (.slice none 0 0)]) Try.results47 (resV_agg Try.isAgg26 Try.sizeOf26 rfl (Star.blkAt 0 hst rfl) rfl) ?_
              have hG := assertM_some hF
              have hst := Star.get 1 hst rfl
              have hst := Star.drop 1 hst rfl
              have hst := Star.drop 1 hst rfl
              have hst := Star.drop 1 hst rfl
              have hst := Star.drop 1 hst rfl
              have hst := Star.drop 1 hst rfl
              exact ⟨(({ sizes := [], rules := [] } : Model), x37.2), hG, H, (Le.refl _), (.slice none 0 0), (.slice none 0 0), rfl, (rel_nil _ _ _), (rel_nil _ _ _), hst⟩
            ·
              have hF := (ite_f hc336).symm.trans hF
              refine W_skip ?_
              refine W_seq ?_
              refine W_region ?_
              refine L_lda (cs := [r26_0, r26_1]) rfl Try.isAgg26 Try.sizeOf26 rfl (At.sub0 (Blk.at (Star.blkAt 1 hst rfl)) 0 2) rfl ?_
              refine L_staB (vs := #[r26_0, r26_1]) (cs2 := #[r26_0, r26_1]) 4 rfl Try.sizeOf26 rfl rfl rfl (ones_cons (one_len (Star.len 2 hst rfl)) (ones_cons (one_len (Star.len 3 hst rfl)) ones_nil)) hst rfl (by decide) rfl ?_
              intro w340 hst
              refine L_nil ?_
              refine W_ret ?_
              refine retG1 (v1 := .agg #[r26_0, r26_1]) Try.results47 (resV_agg Try.isAgg26 Try.sizeOf26 rfl (Star.blkAt 0 hst rfl) rfl) ?_
              have hG := assertM_some hF
              have hst := Star.get 3 hst rfl
              obtain ⟨H341, hle342, hst, hz343⟩ := Star.freeze hst
              have hz343 : (RP.slice 3 RP.int).rel H341 [r26_0] x14.sizes := hz343
              have hst := Star.get 3 hst rfl
              obtain ⟨H344, hle345, hst, hz346⟩ := Star.freeze hst
              have hz346 : (RP.slice 36 (rRule 3 23)).rel H344 [r26_1] x14.rules := hz346
              have hst := Star.get 1 hst rfl
              have hst := Star.drop 1 hst rfl
              have hst := Star.drop 1 hst rfl
              have hst := Star.drop 1 hst rfl
              exact ⟨(x14, x37.2), hG, H344, (Le.trans hle342 hle345), r26_0, r26_1, rfl, (RP.mono _ hz343 hle345), hz346, hst⟩

theorem s_l6Some_c {fu : Nat} {r_ : Rd} {m : Model} {least : Int} {g_0 : Nat} {v0_0 : Value} {v1_0 : Value} {v1_1 : Value} {H : FH} {w : World} (hst : Star H w [box g_0 86 #[v0_0, .int .i64 r_.p]]) (h0_0 : (RP.slice 5 RP.u8).rel H [v0_0] r_.b) (h1_0 : (RP.slice 3 RP.int).rel H [v1_0] m.sizes) (h1_1 : (RP.slice 36 (rRule 3 23)).rel H [v1_1] m.rules) {r : (List Int) × Int} (hF : s_l6Some fu r_ m least = some r) :
    C Try.prog 97 #[.pointer (some ⟨g_0, 0, none⟩), .agg #[v1_0, v1_1], .int .i64 least] w fun v w' => ∃ (u1 : Value), v = u1 ∧ Star H w' [own (OR.ownS 3 (OR.frz RP.int)) [u1] r.1, box g_0 86 #[v0_0, .int .i64 r.2]] := by
  unfold s_l6Some at hF
  refine C_enter Try.func97 rfl Try.ntmps97 rfl ?_
  refine W_seq ?_
  refine W_region ?_
  refine L_box (v := .agg #[v1_0, v1_1]) (cs := #[v1_0, v1_1]) rfl rfl rfl hst ?_
  intro g3 w4 hst
  refine L_as (v := (.slice none 0 0)) rfl rfl ?_
  refine L_nil ?_
  refine W_seq ?_
  refine W_region ?_
  refine L_bs rfl parts0 (bs_23_0  ) hst ?_
  intro g8 w9 hst
  have hst := Star.mkRow (R := (OR.frz RP.int)) [] [] 0 hst rfl rfl rfl (by decide)
  refine L_as (v := (.slice (some ⟨g8, 0, none⟩) 0 0)) rfl rfl ?_
  refine L_nil ?_
  refine W_seq ?_
  refine W_seq ?_
  refine W_region ?_
  refine L_as (v := .int .i64 0) rfl rfl ?_
  refine L_nil ?_
  have hlen15 : List.length m.sizes ≤ 9223372036854775807 := len_le (slice_len h1_0)
  obtain ⟨j15, hL15, hF⟩ := bind_some hF
  obtain ⟨R15, hR15⟩ : ∃ RR_ : Fr → World → Prop, RR_ = fun f w_ => ∃ out_12 : List Int, ∃ g_0_1_14 : Int, ∃ v12_out : Value, j15 = .nx (out_12, g_0_1_14) ∧ f 0 = .pointer (some ⟨g_0, 0, none⟩) ∧ f 2 = .int .i64 least ∧ f 4 = .pointer (some ⟨g3, 0, none⟩) ∧ f 7 = v12_out ∧ Star H w_ ([own (OR.ownS 3 (OR.frz RP.int)) [v12_out] out_12, box g_0 86 #[v0_0, .int .i64 g_0_1_14], box g3 26 #[v1_0, v1_1]]) := ⟨_, rfl⟩
  refine W_join R15 ?_ ?_
  ·
    refine W_block ?_
    obtain ⟨I15, hI15⟩ : ∃ I : Nat → Fr → World → Prop, I = fun n f w_ => ∃ i_11 : Nat, ∃ suf15 : List Int, ∃ out_12 : List Int, ∃ g_0_1_14 : Int, ∃ v12_out : Value, n = suf15.length ∧ List.drop i_11 m.sizes = suf15 ∧ i_11 + suf15.length = m.sizes.length ∧ rangeL (s_l6Some_b1 r_) suf15 i_11 (out_12, g_0_1_14) = some j15 ∧ f 0 = .pointer (some ⟨g_0, 0, none⟩) ∧ f 2 = .int .i64 least ∧ f 4 = .pointer (some ⟨g3, 0, none⟩) ∧ f 7 = v12_out ∧ f 8 = .int .i64 (i_11 : Int) ∧ Star H w_ ([own (OR.ownS 3 (OR.frz RP.int)) [v12_out] out_12, box g_0 86 #[v0_0, .int .i64 g_0_1_14], box g3 26 #[v1_0, v1_1]]) := ⟨_, rfl⟩
    have hst := Star.get 1 hst rfl
    have hst := Star.get 2 hst rfl
    have hst := Star.get 2 hst rfl
    refine W_loop I15 (n := m.sizes.length) ?_ ?_
    · rw [hI15]; exact ⟨0, m.sizes, [], r_.p, (.slice (some ⟨g8, 0, none⟩) 0 0), rfl, rfl, Nat.zero_add _, hL15, rfl, rfl, rfl, rfl, rfl, hst⟩
    ·
      clear hst
      intro n15 f w_ hI
      rw [hI15] at hI
      obtain ⟨i_11, suf15, out_12, g_0_1_14, v12_out, rfl, hd15, hl15, hL15, sf0, sf2, sf4, sf7, sf8, hst⟩ := hI
      refine W_seq ?_
      refine W_seq ?_
      refine W_region ?_
      refine L_mv (v := .int .i64 (i_11 : Int)) rfl sf8 ?_
      refine L_fa (o' := 0) rfl fa_26_0 sf4 rfl ?_
      refine L_ld (v := v1_0) rfl Try.isAgg23 rfl (At.cell0 (Blk.at (Star.blkAt 2 hst rfl)) (j := 0) rfl) ?_
      refine L_len (v := v1_0) (n := List.length m.sizes) rfl Try.underlying23 rfl (slice_len h1_0) ?_
      refine L_lss (m := (i_11 : Int)) (n := (m.sizes.length : Int)) rfl rfl rfl ?_
      refine L_nil ?_
      refine W_cond (b := decide ((i_11 : Int) < (m.sizes.length : Int))) rfl (fun hc16 => ?_) (fun hc16 => ?_)
      ·
        have hlt15 := of_decide_eq_true hc16
        cases suf15 with
        | nil => exact absurd hlt15 (by simp at hl15; omega)
        | cons x_15 rest15 =>
          obtain ⟨o15, hB15, hL15⟩ := range_cons hL15
          rw [s_l6Some_b1] at hB15
          have hix15 := drop_idx hd15
          refine W_skip ?_
          refine W_seq ?_
          refine W_block ?_
          refine W_seq ?_
          obtain ⟨x22, hx22, hB15⟩ := bind_some hB15
          refine W_region ?_
          refine L_mv (v := .pointer (some ⟨g_0, 0, none⟩)) rfl sf0 ?_
          have hst := Star.get 1 hst rfl
          obtain ⟨Hb24, hle25, hsb26, hfz27, hbk28⟩ := Star.lend [_] hst
          refine L_call (args := #[.pointer (some ⟨g_0, 0, none⟩), .int .i64 3]) rfl Try.call70 (ops2 rfl rfl) (s_l17Rd_pick_c (r_ := ({ b := r_.b, p := g_0_1_14 } : Rd)) (n_ := 3) hsb26 (RP.mono _ h0_0 hle25) hx22) ?_
          rintro _ w29 ⟨rfl, hst⟩
          have hst := hbk28 hst (closedL_cons (closed_box _ _ _) closedL_nil)
          refine L_gtr (m := x22.1) (n := 0) rfl rfl rfl ?_
          refine L_nil ?_
          obtain ⟨out_30, hA32, hB15⟩ := bind_some hB15
          obtain ⟨R32, hR32⟩ : ∃ RR_ : Fr → World → Prop, RR_ = fun f w_ => ∃ v30_out : Value, f 0 = .pointer (some ⟨g_0, 0, none⟩) ∧ f 2 = .int .i64 least ∧ f 4 = .pointer (some ⟨g3, 0, none⟩) ∧ f 7 = v30_out ∧ f 8 = .int .i64 (i_11 : Int) ∧ Star H w_ ([own (OR.ownS 3 (OR.frz RP.int)) [v30_out] out_30, box g_0 86 #[v0_0, .int .i64 x22.2], box g3 26 #[v1_0, v1_1]]) := ⟨_, rfl⟩
          refine W_join R32 ?_ ?_
          ·
            refine W_cond (b := decide (x22.1 > 0)) rfl (fun hc33 => ?_) (fun hc33 => ?_)
            ·
              have hA32 := (ite_t hc33).symm.trans hA32
              obtain ⟨x37, hx37, hA32⟩ := bind_some hA32
              refine W_region ?_
              refine L_mv (v := v12_out) rfl sf7 ?_
              refine L_mv (v := .int .i64 (i_11 : Int)) rfl sf8 ?_
              refine L_bs rfl (parts1 rfl) (bs_23_1_0 (.int .i64 (i_11 : Int)) rfl) hst ?_
              intro g41 w42 hst
              have hst := Star.addF (r := RP.int) (cs := [.int .i64 (i_11 : Int)]) (x := (i_11 : Int)) hst rfl
              have hst := Star.mkRow (R := (OR.frz RP.int)) [([.int .i64 (i_11 : Int)], (i_11 : Int))] [(i_11 : Int)] 1 hst rfl rfl rfl (by decide)
              have hst := Star.get 2 hst rfl
              refine L_appM (v := v12_out) (u := (.slice (some ⟨g41, 0, none⟩) 1 1)) rfl et_23 rfl rfl hst hx37 ?_
              intro v44 w45 hst
              refine L_as (v := v44) rfl rfl ?_
              refine L_nil ?_
              obtain rfl := so hA32
              show R32 _ _
              rw [hR32]
              exact ⟨v44, sf0, sf2, sf4, rfl, sf8, hst⟩
            ·
              have hA32 := (ite_f hc33).symm.trans hA32
              refine W_skip ?_
              obtain rfl := so hA32
              have hst := Star.get 2 hst rfl
              have hst := Star.get 1 hst rfl
              have hst := Star.get 2 hst rfl
              show R32 _ _
              rw [hR32]
              exact ⟨v12_out, sf0, sf2, sf4, sf7, sf8, hst⟩
          ·
            intro f w_ hR
            rw [hR32] at hR
            obtain ⟨v30_out, sf0, sf2, sf4, sf7, sf8, hst⟩ := hR
            clear hR32
            refine W_region ?_
            refine L_mv (v := .int .i64 (i_11 : Int)) rfl sf8 ?_
            refine L_add (m := (i_11 : Int)) (n := 1) rfl rfl rfl ?_
            refine L_as (v := .int .i64 (i64 ((i_11 : Int) + 1))) rfl rfl ?_
            refine L_nil ?_
            obtain rfl := so hB15
            show ∃ m, m < _ ∧ I15 m _ _
            refine ⟨rest15.length, by simp, ?_⟩
            rw [hI15]
            exact ⟨i_11 + 1, rest15, out_30, x22.2, v30_out, rfl, drop_next hd15, by simp at hl15; omega, hL15, sf0, sf2, sf4, sf7, (Eq.trans rfl (congrArg (Value.int .i64) (i64_succ (n := m.sizes.length) (by simp at hl15; omega) hlen15))), hst⟩
      ·
        cases suf15 with
        | cons _ _ => exact absurd (of_decide_eq_false hc16) (by simp at hl15; omega)
        | nil =>
          obtain rfl := range_nil hL15
          refine W_exit ?_
          show R15 _ _
          rw [hR15]
          exact ⟨out_12, g_0_1_14, v12_out, rfl, sf0, sf2, sf4, sf7, hst⟩
  ·
    clear hst
    intro f w_ hR
    rw [hR15] at hR
    obtain ⟨out_12, g_0_1_14, v12_out, rfl, sf0, sf2, sf4, sf7, hst⟩ := hR
    clear hR15
    refine W_seq ?_
    refine W_seq ?_
    refine W_region ?_
    refine L_as (v := .int .i64 0) rfl rfl ?_
    refine L_nil ?_
    obtain ⟨j53, hL53, hF⟩ := bind_some hF
    obtain ⟨R53, hR53⟩ : ∃ RR_ : Fr → World → Prop, RR_ = fun f w_ => ∃ out_50 : List Int, ∃ v_52 : Int, ∃ v50_out : Value, j53 = .nx (out_50, v_52) ∧ f 0 = .pointer (some ⟨g_0, 0, none⟩) ∧ f 2 = .int .i64 least ∧ f 7 = v50_out ∧ Star H w_ ([own (OR.ownS 3 (OR.frz RP.int)) [v50_out] out_50, box g_0 86 #[v0_0, .int .i64 g_0_1_14]]) := ⟨_, rfl⟩
    refine W_join R53 ?_ ?_
    ·
      refine W_block ?_
      obtain ⟨I53, hI53⟩ : ∃ I : Nat → Fr → World → Prop, I = fun n f w_ => ∃ out_50 : List Int, ∃ v_52 : Int, ∃ v50_out : Value, whileL (s_l6Some_b2 m least) n (out_50, v_52) = some j53 ∧ f 0 = .pointer (some ⟨g_0, 0, none⟩) ∧ f 2 = .int .i64 least ∧ f 4 = .pointer (some ⟨g3, 0, none⟩) ∧ f 7 = v50_out ∧ f 9 = .int .i64 v_52 ∧ Star H w_ ([own (OR.ownS 3 (OR.frz RP.int)) [v50_out] out_50, box g_0 86 #[v0_0, .int .i64 g_0_1_14], box g3 26 #[v1_0, v1_1]]) := ⟨_, rfl⟩
      refine W_loop I53 (n := fu) ?_ ?_
      · rw [hI53]; exact ⟨out_12, 0, v12_out, hL53, sf0, sf2, sf4, sf7, rfl, hst⟩
      ·
        clear hst
        intro n53 f w_ hI
        rw [hI53] at hI
        obtain ⟨out_50, v_52, v50_out, hL53, sf0, sf2, sf4, sf7, sf9, hst⟩ := hI
        cases n53 with
        | zero => exact (while_zero hL53).elim
        | succ n53 =>
          obtain ⟨o53, hB53, hL53⟩ := while_succ hL53
          rw [s_l6Some_b2] at hB53
          refine W_seq ?_
          refine W_seq ?_
          obtain ⟨R54, hR54⟩ : ∃ RR_ : Fr → World → Prop, RR_ = fun f w_ => f 0 = .pointer (some ⟨g_0, 0, none⟩) ∧ f 2 = .int .i64 least ∧ f 4 = .pointer (some ⟨g3, 0, none⟩) ∧ f 7 = v50_out ∧ f 9 = .int .i64 v_52 ∧ f 37 = .bool ((decide ((out_50.length : Int) < least)) && (decide (v_52 < (m.sizes.length : Int)))) ∧ Star H w_ ([own (OR.ownS 3 (OR.frz RP.int)) [v50_out] out_50, box g_0 86 #[v0_0, .int .i64 g_0_1_14], box g3 26 #[v1_0, v1_1]]) := ⟨_, rfl⟩
          refine W_join R54 ?_ ?_
          ·
            refine W_region ?_
            refine L_mv (v := v50_out) rfl sf7 ?_
            refine L_len (v := v50_out) (n := List.length out_50) rfl Try.underlying23 rfl (Star.len 0 hst rfl) ?_
            refine L_mv (v := .int .i64 least) rfl sf2 ?_
            refine L_lss (m := (out_50.length : Int)) (n := least) rfl rfl rfl ?_
            refine L_mv (v := .bool (decide ((out_50.length : Int) < least))) rfl rfl ?_
            refine L_split (d := 31) (b := decide ((out_50.length : Int) < least)) rfl (fun hc55 => ?_) (fun hc55 => ?_)
            ·
              refine L_mv (v := .int .i64 v_52) rfl sf9 ?_
              refine L_fa (o' := 0) rfl fa_26_0 sf4 rfl ?_
              refine L_ld (v := v1_0) rfl Try.isAgg23 rfl (At.cell0 (Blk.at (Star.blkAt 2 hst rfl)) (j := 0) rfl) ?_
              refine L_len (v := v1_0) (n := List.length m.sizes) rfl Try.underlying23 rfl (slice_len h1_0) ?_
              refine L_lss (m := v_52) (n := (m.sizes.length : Int)) rfl rfl rfl ?_
              refine L_pick (v := .bool ((decide ((out_50.length : Int) < least)) && (decide (v_52 < (m.sizes.length : Int))))) rfl rfl (and_t hc55 rfl) ?_
              refine L_nil ?_
              show R54 _ _
              rw [hR54]
              exact ⟨sf0, sf2, sf4, sf7, sf9, rfl, hst⟩
            ·
              refine L_pass rfl ?_
              refine L_pass rfl ?_
              refine L_pass rfl ?_
              refine L_pass rfl ?_
              refine L_pass rfl ?_
              refine L_pick (v := .bool ((decide ((out_50.length : Int) < least)) && (decide (v_52 < (m.sizes.length : Int))))) rfl rfl (and_f hc55) ?_
              refine L_nil ?_
              show R54 _ _
              rw [hR54]
              exact ⟨sf0, sf2, sf4, sf7, sf9, rfl, hst⟩
          ·
            intro f w_ hR
            rw [hR54] at hR
            obtain ⟨sf0, sf2, sf4, sf7, sf9, sf37, hst⟩ := hR
            clear hR54
            refine W_cond (b := ((decide ((out_50.length : Int) < least)) && (decide (v_52 < (m.sizes.length : Int))))) sf37 (fun hc56 => ?_) (fun hc56 => ?_)
            ·
              have hB53 := (ite_t hc56).symm.trans hB53
              refine W_skip ?_
              refine W_seq ?_
              refine W_block ?_
              refine W_seq ?_
              obtain ⟨b62, hb62, hB53⟩ := bind_some hB53
              obtain ⟨R63, hR63⟩ : ∃ RR_ : Fr → World → Prop, RR_ = fun f w_ => f 0 = .pointer (some ⟨g_0, 0, none⟩) ∧ f 2 = .int .i64 least ∧ f 4 = .pointer (some ⟨g3, 0, none⟩) ∧ f 7 = v50_out ∧ f 9 = .int .i64 v_52 ∧ f 52 = .bool b62 ∧ Star H w_ ([own (OR.ownS 3 (OR.frz RP.int)) [v50_out] out_50, box g_0 86 #[v0_0, .int .i64 g_0_1_14], box g3 26 #[v1_0, v1_1]]) := ⟨_, rfl⟩
              refine W_join R63 ?_ ?_
              ·
                refine W_region ?_
                refine L_mv (v := v50_out) rfl sf7 ?_
                refine L_len (v := v50_out) (n := List.length out_50) rfl Try.underlying23 rfl (Star.len 0 hst rfl) ?_
                refine L_eql (m := (out_50.length : Int)) (n := 0) rfl rfl rfl ?_
                refine L_mv (v := .bool ((out_50.length : Int) == 0)) rfl rfl ?_
                refine L_split (d := 43) (b := ((out_50.length : Int) == 0)) rfl (fun hc64 => ?_) (fun hc64 => ?_)
                ·
                  rw [ite_t hc64] at hb62
                  refine L_pass rfl ?_
                  refine L_pass rfl ?_
                  refine L_pass rfl ?_
                  refine L_pass rfl ?_
                  refine L_pass rfl ?_
                  refine L_pass rfl ?_
                  refine L_pass rfl ?_
                  refine L_pass rfl ?_
                  refine L_pick (v := .bool b62) rfl rfl (congrArg Value.bool (so hb62)) ?_
                  refine L_nil ?_
                  show R63 _ _
                  rw [hR63]
                  exact ⟨sf0, sf2, sf4, sf7, sf9, rfl, hst⟩
                ·
                  rw [ite_f hc64] at hb62
                  obtain ⟨x57, hx57, hb62⟩ := bind_some hb62
                  refine L_mv (v := v50_out) rfl sf7 ?_
                  refine L_mv (v := v50_out) rfl sf7 ?_
                  refine L_len (v := v50_out) (n := List.length out_50) rfl Try.underlying23 rfl (Star.len 0 hst rfl) ?_
                  refine L_sub (m := (out_50.length : Int)) (n := 1) rfl rfl rfl ?_
                  obtain ⟨g65, cap_g65, hv66, _, _⟩ := Star.row 0 hst rfl hx57
                  refine L_ixO (R := (OR.frz RP.int)) (tb := 0) 0 rfl Try.underlying23 Try.sizeOf3 rfl hv66 (by first | rfl | simp) rfl hx57 ?_
                  obtain ⟨cs67, hr67, hat67⟩ := Star.eltF 0 hst rfl hv66 hx57
                  obtain rfl : _ = [_] := hr67
                  refine L_ld (v := .int .i64 x57) rfl Try.isAgg3 rfl (At.cell hat67 (j := 0) rfl) ?_
                  refine L_mv (v := .int .i64 v_52) rfl sf9 ?_
                  refine L_lss (m := x57) (n := v_52) rfl rfl rfl ?_
                  refine L_pick (v := .bool b62) rfl rfl (congrArg Value.bool (so hb62)) ?_
                  refine L_nil ?_
                  show R63 _ _
                  rw [hR63]
                  exact ⟨sf0, sf2, sf4, sf7, sf9, rfl, hst⟩
              ·
                intro f w_ hR
                rw [hR63] at hR
                obtain ⟨sf0, sf2, sf4, sf7, sf9, sf52, hst⟩ := hR
                clear hR63
                obtain ⟨out_69, hA71, hB53⟩ := bind_some hB53
                obtain ⟨R71, hR71⟩ : ∃ RR_ : Fr → World → Prop, RR_ = fun f w_ => ∃ v69_out : Value, f 0 = .pointer (some ⟨g_0, 0, none⟩) ∧ f 2 = .int .i64 least ∧ f 4 = .pointer (some ⟨g3, 0, none⟩) ∧ f 7 = v69_out ∧ f 9 = .int .i64 v_52 ∧ Star H w_ ([own (OR.ownS 3 (OR.frz RP.int)) [v69_out] out_69, box g_0 86 #[v0_0, .int .i64 g_0_1_14], box g3 26 #[v1_0, v1_1]]) := ⟨_, rfl⟩
                refine W_join R71 ?_ ?_
                ·
                  refine W_cond (b := b62) sf52 (fun hc72 => ?_) (fun hc72 => ?_)
                  ·
                    have hA71 := (ite_t hc72).symm.trans hA71
                    obtain ⟨x76, hx76, hA71⟩ := bind_some hA71
                    refine W_region ?_
                    refine L_mv (v := v50_out) rfl sf7 ?_
                    refine L_mv (v := .int .i64 v_52) rfl sf9 ?_
                    refine L_bs rfl (parts1 rfl) (bs_23_1_0 (.int .i64 v_52) rfl) hst ?_
                    intro g80 w81 hst
                    have hst := Star.addF (r := RP.int) (cs := [.int .i64 v_52]) (x := v_52) hst rfl
                    have hst := Star.mkRow (R := (OR.frz RP.int)) [([.int .i64 v_52], v_52)] [v_52] 1 hst rfl rfl rfl (by decide)
                    have hst := Star.get 1 hst rfl
                    refine L_appM (v := v50_out) (u := (.slice (some ⟨g80, 0, none⟩) 1 1)) rfl et_23 rfl rfl hst hx76 ?_
                    intro v83 w84 hst
                    refine L_as (v := v83) rfl rfl ?_
                    refine L_nil ?_
                    obtain rfl := so hA71
                    show R71 _ _
                    rw [hR71]
                    exact ⟨v83, sf0, sf2, sf4, rfl, sf9, hst⟩
                  ·
                    have hA71 := (ite_f hc72).symm.trans hA71
                    refine W_skip ?_
                    obtain rfl := so hA71
                    show R71 _ _
                    rw [hR71]
                    exact ⟨v50_out, sf0, sf2, sf4, sf7, sf9, hst⟩
                ·
                  intro f w_ hR
                  rw [hR71] at hR
                  obtain ⟨v69_out, sf0, sf2, sf4, sf7, sf9, hst⟩ := hR
                  clear hR71
                  refine W_region ?_
                  refine L_mv (v := .int .i64 v_52) rfl sf9 ?_
                  refine L_add (m := v_52) (n := 1) rfl rfl rfl ?_
                  refine L_as (v := .int .i64 (i64 (v_52 + 1))) rfl rfl ?_
                  refine L_nil ?_
                  obtain rfl := so hB53
                  show ∃ m, m < _ ∧ I53 m _ _
                  refine ⟨n53, Nat.lt_succ_self _, ?_⟩
                  rw [hI53]
                  exact ⟨out_69, i64 (v_52 + 1), v69_out, hL53, sf0, sf2, sf4, sf7, rfl, hst⟩
            ·
              have hB53 := (ite_f hc56).symm.trans hB53
              refine W_exit ?_
              obtain rfl := so hB53
              obtain rfl := so hL53
              show R53 _ _
              rw [hR53]
              exact ⟨out_50, v_52, v50_out, rfl, sf0, sf2, sf7, (Star.keepN 2 hst)⟩
    ·
      clear hst
      intro f w_ hR
      rw [hR53] at hR
      obtain ⟨out_50, v_52, v50_out, rfl, sf0, sf2, sf7, hst⟩ := hR
      clear hR53
      refine W_seq ?_
      refine W_seq ?_
      obtain ⟨R86, hR86⟩ : ∃ RR_ : Fr → World → Prop, RR_ = fun f w_ => f 0 = .pointer (some ⟨g_0, 0, none⟩) ∧ f 2 = .int .i64 least ∧ f 7 = v50_out ∧ f 65 = .bool ((decide ((out_50.length : Int) < least)) || ((out_50.length : Int) == 0)) ∧ Star H w_ ([own (OR.ownS 3 (OR.frz RP.int)) [v50_out] out_50, box g_0 86 #[v0_0, .int .i64 g_0_1_14]]) := ⟨_, rfl⟩
      refine W_join R86 ?_ ?_
      ·
        refine W_region ?_
        refine L_mv (v := v50_out) rfl sf7 ?_
        refine L_len (v := v50_out) (n := List.length out_50) rfl Try.underlying23 rfl (Star.len 0 hst rfl) ?_
        refine L_mv (v := .int .i64 least) rfl sf2 ?_
        refine L_lss (m := (out_50.length : Int)) (n := least) rfl rfl rfl ?_
        refine L_mv (v := .bool (decide ((out_50.length : Int) < least))) rfl rfl ?_
        refine L_split (d := 61) (b := decide ((out_50.length : Int) < least)) rfl (fun hc87 => ?_) (fun hc87 => ?_)
        ·
          refine L_pass rfl ?_
          refine L_pass rfl ?_
          refine L_pass rfl ?_
          refine L_pick (v := .bool ((decide ((out_50.length : Int) < least)) || ((out_50.length : Int) == 0))) rfl rfl (or_t hc87) ?_
          refine L_nil ?_
          show R86 _ _
          rw [hR86]
          exact ⟨sf0, sf2, sf7, rfl, hst⟩
        ·
          refine L_mv (v := v50_out) rfl sf7 ?_
          refine L_len (v := v50_out) (n := List.length out_50) rfl Try.underlying23 rfl (Star.len 0 hst rfl) ?_
          refine L_eql (m := (out_50.length : Int)) (n := 0) rfl rfl rfl ?_
          refine L_pick (v := .bool ((decide ((out_50.length : Int) < least)) || ((out_50.length : Int) == 0))) rfl rfl (or_f hc87 rfl) ?_
          refine L_nil ?_
          show R86 _ _
          rw [hR86]
          exact ⟨sf0, sf2, sf7, rfl, hst⟩
      ·
        intro f w_ hR
        rw [hR86] at hR
        obtain ⟨sf0, sf2, sf7, sf65, hst⟩ := hR
        clear hR86
        obtain ⟨out_88, hA90, hF⟩ := bind_some hF
        obtain ⟨R90, hR90⟩ : ∃ RR_ : Fr → World → Prop, RR_ = fun f w_ => ∃ v88_out : Value, f 0 = .pointer (some ⟨g_0, 0, none⟩) ∧ f 7 = v88_out ∧ Star H w_ ([own (OR.ownS 3 (OR.frz RP.int)) [v88_out] out_88, box g_0 86 #[v0_0, .int .i64 g_0_1_14]]) := ⟨_, rfl⟩
        refine W_join R90 ?_ ?_
        ·
          refine W_cond (b := ((decide ((out_50.length : Int) < least)) || ((out_50.length : Int) == 0))) sf65 (fun hc91 => ?_) (fun hc91 => ?_)
          ·
            have hA90 := (ite_t hc91).symm.trans hA90
            refine W_seq ?_
            refine W_region ?_
            refine L_bs rfl parts0 (bs_23_0  ) hst ?_
            intro g95 w96 hst
            have hst := Star.mkRow (R := (OR.frz RP.int)) [] [] 0 hst rfl rfl rfl (by decide)
            refine L_as (v := (.slice (some ⟨g95, 0, none⟩) 0 0)) rfl rfl ?_
            refine L_nil ?_
            refine W_seq ?_
            refine W_region ?_
            refine L_as (v := .int .i64 0) rfl rfl ?_
            refine L_nil ?_
            obtain ⟨k102, hk102, hA90⟩ := bind_some hA90
            obtain ⟨j101, hL101, hA90⟩ := bind_some hA90
            obtain ⟨R101, hR101⟩ : ∃ RR_ : Fr → World → Prop, RR_ = fun f w_ => ∃ out_99 : List Int, ∃ v99_out : Value, j101 = .nx out_99 ∧ f 0 = .pointer (some ⟨g_0, 0, none⟩) ∧ f 7 = v99_out ∧ Star H w_ ([own (OR.ownS 3 (OR.frz RP.int)) [v99_out] out_99, box g_0 86 #[v0_0, .int .i64 g_0_1_14]]) := ⟨_, rfl⟩
            refine W_join R101 ?_ ?_
            ·
              refine W_block ?_
              obtain ⟨I101, hI101⟩ : ∃ I : Nat → Fr → World → Prop, I = fun n f w_ => ∃ i_98 : Nat, ∃ suf101 : Nat, ∃ out_99 : List Int, ∃ v99_out : Value, suf101 = n ∧ 0 ≤ i_98 ∧ i_98 + suf101 = 0 + k102 ∧ countL s_l6Some_b3 suf101 i_98 out_99 = some j101 ∧ f 0 = .pointer (some ⟨g_0, 0, none⟩) ∧ f 2 = .int .i64 least ∧ f 7 = v99_out ∧ f 10 = .int .i64 (i_98 : Int) ∧ Star H w_ ([own (OR.ownS 3 (OR.frz RP.int)) [v99_out] out_99, box g_0 86 #[v0_0, .int .i64 g_0_1_14]]) := ⟨_, rfl⟩
              have hst := Star.get 2 hst rfl
              have hst := Star.get 1 hst rfl
              refine W_loop I101 (n := k102) ?_ ?_
              · rw [hI101]; exact ⟨0, k102, [], (.slice (some ⟨g95, 0, none⟩) 0 0), rfl, Nat.le_refl _, rfl, hL101, sf0, sf2, rfl, rfl, (Star.keepN 2 hst)⟩
              ·
                clear hst
                intro n101 f w_ hI
                rw [hI101] at hI
                obtain ⟨i_98, suf101, out_99, v99_out, rfl, hs101, hl101, hL101, sf0, sf2, sf7, sf10, hst⟩ := hI
                refine W_seq ?_
                refine W_seq ?_
                refine W_region ?_
                refine L_mv (v := .int .i64 (i_98 : Int)) rfl sf10 ?_
                refine L_mv (v := .int .i64 least) rfl sf2 ?_
                refine L_lss (m := (i_98 : Int)) (n := least) rfl rfl rfl ?_
                refine L_nil ?_
                refine W_cond (b := decide ((i_98 : Int) < least)) rfl (fun hc103 => ?_) (fun hc103 => ?_)
                ·
                  have hlt101 := of_decide_eq_true hc103
                  cases suf101 with
                  | zero => exact absurd hlt101 (cntF_no hl101 hk102)
                  | succ rest101 =>
                    obtain ⟨o101, hB101, hL101⟩ := count_succ hL101
                    rw [s_l6Some_b3] at hB101
                    refine W_skip ?_
                    refine W_seq ?_
                    refine W_block ?_
                    obtain ⟨x107, hx107, hB101⟩ := bind_some hB101
                    refine W_region ?_
                    refine L_mv (v := v99_out) rfl sf7 ?_
                    refine L_mv (v := .int .i64 (i_98 : Int)) rfl sf10 ?_
                    refine L_bs rfl (parts1 rfl) (bs_23_1_0 (.int .i64 (i_98 : Int)) rfl) hst ?_
                    intro g111 w112 hst
                    have hst := Star.addF (r := RP.int) (cs := [.int .i64 (i_98 : Int)]) (x := (i_98 : Int)) hst rfl
                    have hst := Star.mkRow (R := (OR.frz RP.int)) [([.int .i64 (i_98 : Int)], (i_98 : Int))] [(i_98 : Int)] 1 hst rfl rfl rfl (by decide)
                    have hst := Star.get 1 hst rfl
                    refine L_appM (v := v99_out) (u := (.slice (some ⟨g111, 0, none⟩) 1 1)) rfl et_23 rfl rfl hst hx107 ?_
                    intro v114 w115 hst
                    refine L_as (v := v114) rfl rfl ?_
                    refine L_nil ?_
                    refine W_region ?_
                    refine L_mv (v := .int .i64 (i_98 : Int)) rfl sf10 ?_
                    refine L_add (m := (i_98 : Int)) (n := 1) rfl rfl rfl ?_
                    refine L_as (v := .int .i64 (i64 ((i_98 : Int) + 1))) rfl rfl ?_
                    refine L_nil ?_
                    obtain rfl := so hB101
                    show ∃ m, m < _ ∧ I101 m _ _
                    refine ⟨rest101, Nat.lt_succ_self _, ?_⟩
                    rw [hI101]
                    exact ⟨i_98 + 1, rest101, x107, v114, rfl, by omega, by omega, hL101, sf0, sf2, rfl, (Eq.trans rfl (congrArg (Value.int .i64) (i64_succ (n := 0 + k102) (by omega) (cntF_le hk102)))), hst⟩
                ·
                  cases suf101 with
                  | succ _ => exact absurd (cntF_yes hs101 hl101 hk102) (of_decide_eq_false hc103)
                  | zero =>
                    obtain rfl := count_zero hL101
                    refine W_exit ?_
                    show R101 _ _
                    rw [hR101]
                    exact ⟨out_99, v99_out, rfl, sf0, sf7, hst⟩
            ·
              clear hst
              intro f w_ hR
              rw [hR101] at hR
              obtain ⟨out_99, v99_out, rfl, sf0, sf7, hst⟩ := hR
              clear hR101
              obtain rfl := so hA90
              show R90 _ _
              rw [hR90]
              exact ⟨v99_out, sf0, sf7, hst⟩
          ·
            have hA90 := (ite_f hc91).symm.trans hA90
            refine W_skip ?_
            obtain rfl := so hA90
            show R90 _ _
            rw [hR90]
            exact ⟨v50_out, sf0, sf7, hst⟩
        ·
          intro f w_ hR
          rw [hR90] at hR
          obtain ⟨v88_out, sf0, sf7, hst⟩ := hR
          clear hR90
          refine W_seq ?_
          refine W_seq ?_
          obtain ⟨b124, hb124, hF⟩ := bind_some hF
          obtain ⟨R125, hR125⟩ : ∃ RR_ : Fr → World → Prop, RR_ = fun f w_ => f 7 = v88_out ∧ f 83 = .bool b124.1 ∧ Star H w_ ([own (OR.ownS 3 (OR.frz RP.int)) [v88_out] out_88, box g_0 86 #[v0_0, .int .i64 b124.2]]) := ⟨_, rfl⟩
          refine W_join R125 ?_ ?_
          ·
            refine W_region ?_
            refine L_mv (v := v88_out) rfl sf7 ?_
            refine L_len (v := v88_out) (n := List.length out_88) rfl Try.underlying23 rfl (Star.len 0 hst rfl) ?_
            refine L_gtr (m := (out_88.length : Int)) (n := 1) rfl rfl rfl ?_
            refine L_mv (v := .bool (decide ((out_88.length : Int) > 1))) rfl rfl ?_
            refine L_split (d := 79) (b := decide ((out_88.length : Int) > 1)) rfl (fun hc126 => ?_) (fun hc126 => ?_)
            ·
              rw [ite_t hc126] at hb124
              obtain ⟨x122, hx122, hb124⟩ := bind_some hb124
              refine L_mv (v := .pointer (some ⟨g_0, 0, none⟩)) rfl sf0 ?_
              have hst := Star.get 1 hst rfl
              obtain ⟨Hb127, hle128, hsb129, hfz130, hbk131⟩ := Star.lend [_] hst
              refine L_call (args := #[.pointer (some ⟨g_0, 0, none⟩), .int .i64 3]) rfl Try.call70 (ops2 rfl rfl) (s_l17Rd_pick_c (r_ := ({ b := r_.b, p := g_0_1_14 } : Rd)) (n_ := 3) hsb129 (RP.mono _ h0_0 hle128) hx122) ?_
              rintro _ w132 ⟨rfl, hst⟩
              have hst := hbk131 hst (closedL_cons (closed_box _ _ _) closedL_nil)
              refine L_eql (m := x122.1) (n := 0) rfl rfl rfl ?_
              refine L_pick (v := .bool b124.1) rfl rfl (congrArg (fun z : Bool × Int => Value.bool z.1) (so hb124)) ?_
              have hst : Star H w132 ([box g_0 86 #[v0_0, .int .i64 b124.2], own (OR.ownS 3 (OR.frz RP.int)) [v88_out] out_88]) := by rw [← so hb124]; exact hst
              refine L_nil ?_
              have hst := Star.get 1 hst rfl
              show R125 _ _
              rw [hR125]
              exact ⟨sf7, rfl, hst⟩
            ·
              rw [ite_f hc126] at hb124
              refine L_pass rfl ?_
              refine L_pass rfl ?_
              refine L_pass rfl ?_
              refine L_pick (v := .bool b124.1) rfl rfl (congrArg (fun z : Bool × Int => Value.bool z.1) (so hb124)) ?_
              have hst := Star.get 1 hst rfl
              have hst : Star H w_ ([box g_0 86 #[v0_0, .int .i64 b124.2], own (OR.ownS 3 (OR.frz RP.int)) [v88_out] out_88]) := by rw [← so hb124]; exact hst
              refine L_nil ?_
              have hst := Star.get 1 hst rfl
              show R125 _ _
              rw [hR125]
              exact ⟨sf7, rfl, hst⟩
          ·
            intro f w_ hR
            rw [hR125] at hR
            obtain ⟨sf7, sf83, hst⟩ := hR
            clear hR125
            obtain ⟨out_133, hA134, hF⟩ := bind_some hF
            obtain ⟨R134, hR134⟩ : ∃ RR_ : Fr → World → Prop, RR_ = fun f w_ => f 7 = v88_out ∧ Star H w_ ([own (OR.ownS 3 (OR.frz RP.int)) [v88_out] out_133, box g_0 86 #[v0_0, .int .i64 b124.2]]) := ⟨_, rfl⟩
            refine W_join R134 ?_ ?_
            ·
              refine W_cond (b := b124.1) sf83 (fun hc135 => ?_) (fun hc135 => ?_)
              ·
                have hA134 := (ite_t hc135).symm.trans hA134
                refine W_seq ?_
                obtain ⟨x136, hx136, hA134⟩ := bind_some hA134
                refine W_region ?_
                refine L_mv (v := v88_out) rfl sf7 ?_
                obtain ⟨g141, cap_g141, hv142, _, _⟩ := Star.row 0 hst rfl hx136
                refine L_ixO (R := (OR.frz RP.int)) (tb := 0) 0 rfl Try.underlying23 Try.sizeOf3 rfl hv142 (by first | rfl | simp) rfl hx136 ?_
                obtain ⟨cs143, hr143, hat143⟩ := Star.eltF 0 hst rfl hv142 hx136
                obtain rfl : _ = [_] := hr143
                refine L_ld (v := .int .i64 x136) rfl Try.isAgg3 rfl (At.cell hat143 (j := 0) rfl) ?_
                refine L_as (v := .int .i64 x136) rfl rfl ?_
                refine L_nil ?_
                refine W_seq ?_
                obtain ⟨x145, hx145, hA134⟩ := bind_some hA134
                refine W_region ?_
                refine L_mv (v := v88_out) rfl sf7 ?_
                refine L_mv (v := v88_out) rfl sf7 ?_
                refine L_ixO (R := (OR.frz RP.int)) (tb := 0) 0 rfl Try.underlying23 Try.sizeOf3 rfl hv142 (by first | rfl | simp) rfl hx145 ?_
                obtain ⟨cs149, hr149, hat149⟩ := Star.eltF 0 hst rfl hv142 hx145
                obtain rfl : _ = [_] := hr149
                refine L_ld (v := .int .i64 x145) rfl Try.isAgg3 rfl (At.cell hat149 (j := 0) rfl) ?_
                refine L_ixO (R := (OR.frz RP.int)) (tb := 0) 0 rfl Try.underlying23 Try.sizeOf3 rfl hv142 (by first | rfl | simp) rfl hx136 ?_
                have hst := Star.addF (r := RP.int) (cs := [.int .i64 x145]) (x := x145) hst rfl
                refine L_stE1 (u := .int .i64 x145) rfl Try.sizeOf3 rfl rfl rfl hv142 hst hx136 ?_
                intro w151 hst
                refine L_nil ?_
                obtain ⟨x152, hx152, hA134⟩ := bind_some hA134
                refine W_region ?_
                refine L_mv (v := v88_out) rfl sf7 ?_
                refine L_mv (v := .int .i64 x136) rfl rfl ?_
                refine L_ixO (R := (OR.frz RP.int)) (tb := 0) 0 rfl Try.underlying23 Try.sizeOf3 rfl hv142 (by first | rfl | simp) rfl hx152 ?_
                have hst := Star.addF (r := RP.int) (cs := [.int .i64 x136]) (x := x136) hst rfl
                refine L_stE1 (u := .int .i64 x136) rfl Try.sizeOf3 rfl rfl rfl hv142 hst hx152 ?_
                intro w154 hst
                refine L_nil ?_
                obtain rfl := so hA134
                show R134 _ _
                rw [hR134]
                exact ⟨sf7, hst⟩
              ·
                have hA134 := (ite_f hc135).symm.trans hA134
                refine W_skip ?_
                obtain rfl := so hA134
                show R134 _ _
                rw [hR134]
                exact ⟨sf7, hst⟩
            ·
              intro f w_ hR
              rw [hR134] at hR
              obtain ⟨sf7, hst⟩ := hR
              clear hR134
              refine W_seq ?_
              refine W_region ?_
              refine L_mv (v := v88_out) rfl sf7 ?_
              refine L_as (v := v88_out) rfl rfl ?_
              refine L_nil ?_
              refine W_ret ?_
              refine retG1 (v1 := v88_out) Try.results97 rfl ?_
              obtain rfl := so hF
              exact ⟨v88_out, rfl, hst⟩

theorem s_l6Draw_c {fu : Nat} {r_ : Rd} {m : Model} {g_0 : Nat} {v0_0 : Value} {v1_0 : Value} {v1_1 : Value} {H : FH} {w : World} (hst : Star H w [box g_0 86 #[v0_0, .int .i64 r_.p]]) (h0_0 : (RP.slice 5 RP.u8).rel H [v0_0] r_.b) (h1_0 : (RP.slice 3 RP.int).rel H [v1_0] m.sizes) (h1_1 : (RP.slice 36 (rRule 3 23)).rel H [v1_1] m.rules) {r : Rule × Int} (hF : s_l6Draw fu r_ m = some r) :
    C Try.prog 81 #[.pointer (some ⟨g_0, 0, none⟩), .agg #[v1_0, v1_1]] w fun v w' => ∃ (u1 : Value) (u2 : Value) (u3 : Value), v = .agg #[.int .i64 r.1.kind, u1, u2, .int .i64 r.1.bound, u3] ∧ Star H w' [own (OR.ownS 3 (OR.frz RP.int)) [u1] r.1.vars, own (OR.ownS 3 (OR.frz RP.int)) [u2] r.1.coefs, own (OR.ownS 23 (OR.ownS 3 (OR.frz RP.int))) [u3] r.1.rows, box g_0 86 #[v0_0, .int .i64 r.2]] := by
  unfold s_l6Draw at hF
  refine C_enter Try.func81 rfl Try.ntmps81 rfl ?_
  refine W_seq ?_
  refine W_region ?_
  refine L_box (v := .agg #[v1_0, v1_1]) (cs := #[v1_0, v1_1]) rfl rfl rfl hst ?_
  intro g5 w6 hst
  refine L_al (cs := #[.int .i64 0, (.slice none 0 0), (.slice none 0 0), .int .i64 0, (.slice none 0 0)]) rfl Try.zeroValue36 rfl hst ?_
  intro g7 w8 hst
  refine L_nil ?_
  refine W_seq ?_
  obtain ⟨x18, hx18, hF⟩ := bind_some hF
  refine W_region ?_
  refine L_mv (v := .pointer (some ⟨g_0, 0, none⟩)) rfl rfl ?_
  refine L_bs rfl (parts5 rfl rfl rfl rfl rfl) (bs_23_5_0_0_0_0_0 (.int .i64 1) (.int .i64 2) (.int .i64 3) (.int .i64 4) (.int .i64 1) rfl rfl rfl rfl rfl) hst ?_
  intro g23 w24 hst
  have hst := Star.addF (r := RP.int) (cs := [.int .i64 1]) (x := 1) hst rfl
  have hst := Star.addF (r := RP.int) (cs := [.int .i64 4]) (x := 4) hst rfl
  have hst := Star.addF (r := RP.int) (cs := [.int .i64 3]) (x := 3) hst rfl
  have hst := Star.addF (r := RP.int) (cs := [.int .i64 2]) (x := 2) hst rfl
  have hst := Star.addF (r := RP.int) (cs := [.int .i64 1]) (x := 1) hst rfl
  have hst := Star.mkRow (R := (OR.frz RP.int)) [([.int .i64 1], 1), ([.int .i64 2], 2), ([.int .i64 3], 3), ([.int .i64 4], 4), ([.int .i64 1], 1)] [1, 2, 3, 4, 1] 5 hst rfl rfl rfl (by decide)
  have hst := Star.get 3 hst rfl
  obtain ⟨Hb26, hle27, hsb28, hfz29, hbk30⟩ := Star.lend [_] hst
  have hb31 : (RP.slice 3 RP.int).rel Hb26 [(.slice (some ⟨g23, 0, none⟩) 5 5)] ([1, 2, 3, 4, 1]) := fz_own 0 hfz29 rfl
  refine L_call (args := #[.pointer (some ⟨g_0, 0, none⟩), (.slice (some ⟨g23, 0, none⟩) 5 5)]) rfl Try.call49 (ops2 rfl rfl) (s_l17Rd_num_c (r_ := r_) (list := [1, 2, 3, 4, 1]) hsb28 (RP.mono _ h0_0 hle27) hb31 hx18) ?_
  rintro _ w32 ⟨rfl, hst⟩
  have hst := hbk30 hst (closedL_cons (closed_box _ _ _) closedL_nil)
  refine L_bld rfl (parts1 rfl) (bld_36_0 (.int .i64 x18.1) rfl) ?_
  refine L_al (cs := #[.int .i64 0, (.slice none 0 0), (.slice none 0 0), .int .i64 0, (.slice none 0 0)]) rfl Try.zeroValue36 rfl hst ?_
  intro g33 w34 hst
  refine L_staB (vs := #[.int .i64 x18.1, (.slice none 0 0), (.slice none 0 0), .int .i64 0, (.slice none 0 0)]) (cs2 := #[.int .i64 x18.1, (.slice none 0 0), (.slice none 0 0), .int .i64 0, (.slice none 0 0)]) 0 rfl Try.sizeOf36 rfl rfl rfl (ones_cons rfl (ones_cons rfl (ones_cons rfl (ones_cons rfl (ones_cons rfl ones_nil))))) hst rfl (by decide) rfl ?_
  intro w35 hst
  refine L_nil ?_
  refine W_seq ?_
  obtain ⟨x41, hx41, hF⟩ := bind_some hF
  refine W_region ?_
  refine L_mv (v := .pointer (some ⟨g_0, 0, none⟩)) rfl rfl ?_
  refine L_lda (cs := [v1_0, v1_1]) rfl Try.isAgg26 Try.sizeOf26 rfl (At.sub0 (Blk.at (Star.blkAt 4 hst rfl)) 0 2) rfl ?_
  have hst := Star.get 1 hst rfl
  obtain ⟨Hb45, hle46, hsb47, hfz48, hbk49⟩ := Star.lend [_] hst
  refine L_call (args := #[.pointer (some ⟨g_0, 0, none⟩), .agg #[v1_0, v1_1], .int .i64 1]) rfl Try.call97 (ops3 rfl rfl rfl) (s_l6Some_c (r_ := ({ b := r_.b, p := x18.2 } : Rd)) (m := m) (least := 1) hsb47 (RP.mono _ h0_0 hle46) (RP.mono _ h1_0 hle46) (RP.mono _ h1_1 hle46) hx41) ?_
  rintro r50_0 w50 ⟨_, rfl, hst⟩
  have hst := hbk49 hst (closedL_cons (closed_own (OR.closed_ownS closed_int) _ _) (closedL_cons (closed_box _ _ _) closedL_nil))
  refine L_fa (o' := 1) rfl fa_36_1 rfl rfl ?_
  refine L_stB (v := r50_0) (cs2 := #[.int .i64 x18.1, r50_0, (.slice none 0 0), .int .i64 0, (.slice none 0 0)]) 2 rfl Try.sizeOf23 rfl rfl (one_len (Star.len 0 hst rfl)) hst rfl rfl rfl ?_
  intro w52 hst
  refine L_nil ?_
  refine W_seq ?_
  refine W_seq ?_
  refine W_region ?_
  refine L_fa (o' := 0) rfl fa_36_0 rfl rfl ?_
  refine L_ld (v := .int .i64 x18.1) rfl Try.isAgg3 rfl (At.cell0 (Blk.at (Star.blkAt 0 hst rfl)) (j := 0) rfl) ?_
  refine L_nil ?_
  refine W_block ?_
  refine W_seq ?_
  refine W_region ?_
  refine L_eql (m := x18.1) (n := 1) rfl rfl rfl ?_
  refine L_as (v := .bool (x18.1 == 1)) rfl rfl ?_
  refine L_nil ?_
  obtain ⟨⟨g_0_1_53, g33_1_54, g33_2_56, g33_3_58, g33_4_59⟩, hA63, hF⟩ := bind_some hF
  obtain ⟨R63, hR63⟩ : ∃ RR_ : Fr → World → Prop, RR_ = fun f w_ => ∃ H61 : FH, ∃ v54_g33_1 v56_g33_2 v59_g33_4 : Value, Le H H61 ∧ f 4 = .pointer (some ⟨g7, 0, none⟩) ∧ f 5 = .pointer (some ⟨g33, 0, none⟩) ∧ Star H61 w_ ([box g_0 86 #[v0_0, .int .i64 g_0_1_53], own (OR.ownS 3 (OR.frz RP.int)) [v54_g33_1] g33_1_54, own (OR.ownS 3 (OR.frz RP.int)) [v56_g33_2] g33_2_56, own (OR.ownS 23 (OR.ownS 3 (OR.frz RP.int))) [v59_g33_4] g33_4_59, box g33 36 #[.int .i64 x18.1, v54_g33_1, v56_g33_2, .int .i64 g33_3_58, v59_g33_4], box g7 36 #[.int .i64 0, (.slice none 0 0), (.slice none 0 0), .int .i64 0, (.slice none 0 0)]]) := ⟨_, rfl⟩
  refine W_join R63 ?_ ?_
  ·
    refine W_cond (b := (x18.1 == 1)) rfl (fun hc64 => ?_) (fun hc64 => ?_)
    ·
      have hA63 := (ite_t hc64).symm.trans hA63
      refine W_seq ?_
      refine W_seq ?_
      refine W_region ?_
      refine L_as (v := .int .i64 0) rfl rfl ?_
      refine L_nil ?_
      have hlen71 : List.length x41.1 ≤ 9223372036854775807 := len_le (Star.len 1 hst rfl)
      obtain ⟨j71, hL71, hA63⟩ := bind_some hA63
      obtain ⟨R71, hR71⟩ : ∃ RR_ : Fr → World → Prop, RR_ = fun f w_ => ∃ g_0_1_66 : Int, ∃ g33_2_67 : List Int, ∃ H69 : FH, ∃ v67_g33_2 : Value, j71 = .nx (g_0_1_66, g33_2_67) ∧ Le H H69 ∧ f 0 = .pointer (some ⟨g_0, 0, none⟩) ∧ f 4 = .pointer (some ⟨g7, 0, none⟩) ∧ f 5 = .pointer (some ⟨g33, 0, none⟩) ∧ Star H69 w_ ([box g_0 86 #[v0_0, .int .i64 g_0_1_66], own (OR.ownS 3 (OR.frz RP.int)) [r50_0] x41.1, own (OR.ownS 3 (OR.frz RP.int)) [v67_g33_2] g33_2_67, box g33 36 #[.int .i64 x18.1, r50_0, v67_g33_2, .int .i64 0, (.slice none 0 0)], box g7 36 #[.int .i64 0, (.slice none 0 0), (.slice none 0 0), .int .i64 0, (.slice none 0 0)]]) := ⟨_, rfl⟩
      refine W_join R71 ?_ ?_
      ·
        refine W_block ?_
        obtain ⟨I71, hI71⟩ : ∃ I : Nat → Fr → World → Prop, I = fun n f w_ => ∃ i_65 : Nat, ∃ suf71 : List Int, ∃ g_0_1_66 : Int, ∃ g33_2_67 : List Int, ∃ H69 : FH, ∃ v67_g33_2 : Value, n = suf71.length ∧ List.drop i_65 x41.1 = suf71 ∧ i_65 + suf71.length = x41.1.length ∧ rangeL (s_l6Draw_b1 r_) suf71 i_65 (g_0_1_66, g33_2_67) = some j71 ∧ Le H H69 ∧ f 0 = .pointer (some ⟨g_0, 0, none⟩) ∧ f 4 = .pointer (some ⟨g7, 0, none⟩) ∧ f 5 = .pointer (some ⟨g33, 0, none⟩) ∧ f 6 = .int .i64 (i_65 : Int) ∧ Star H69 w_ ([box g_0 86 #[v0_0, .int .i64 g_0_1_66], own (OR.ownS 3 (OR.frz RP.int)) [r50_0] x41.1, own (OR.ownS 3 (OR.frz RP.int)) [v67_g33_2] g33_2_67, box g33 36 #[.int .i64 x18.1, r50_0, v67_g33_2, .int .i64 0, (.slice none 0 0)], box g7 36 #[.int .i64 0, (.slice none 0 0), (.slice none 0 0), .int .i64 0, (.slice none 0 0)]]) := ⟨_, rfl⟩
        have hst := Star.addNil (R := (OR.frz RP.int)) (e := 3) hst
        have hst := Star.get 5 hst rfl
        have hst := Star.get 2 hst rfl
        have hst := Star.get 2 hst rfl
        have hst := Star.get 3 hst rfl
        have hst := Star.get 4 hst rfl
        refine W_loop I71 (n := x41.1.length) ?_ ?_
        · rw [hI71]; exact ⟨0, x41.1, x41.2, [], H, (.slice none 0 0), rfl, rfl, Nat.zero_add _, hL71, (Le.refl _), rfl, rfl, rfl, rfl, (Star.keepN 5 hst)⟩
        ·
          clear hst
          intro n71 f w_ hI
          rw [hI71] at hI
          obtain ⟨i_65, suf71, g_0_1_66, g33_2_67, H69, v67_g33_2, rfl, hd71, hl71, hL71, hle70, sf0, sf4, sf5, sf6, hst⟩ := hI
          refine W_seq ?_
          refine W_seq ?_
          refine W_region ?_
          refine L_mv (v := .int .i64 (i_65 : Int)) rfl sf6 ?_
          refine L_fa (o' := 1) rfl fa_36_1 sf5 rfl ?_
          refine L_ld (v := r50_0) rfl Try.isAgg23 rfl (At.cell0 (Blk.at (Star.blkAt 3 hst rfl)) (j := 1) rfl) ?_
          refine L_len (v := r50_0) (n := List.length x41.1) rfl Try.underlying23 rfl (Star.len 1 hst rfl) ?_
          refine L_lss (m := (i_65 : Int)) (n := (x41.1.length : Int)) rfl rfl rfl ?_
          refine L_nil ?_
          refine W_cond (b := decide ((i_65 : Int) < (x41.1.length : Int))) rfl (fun hc73 => ?_) (fun hc73 => ?_)
          ·
            have hlt71 := of_decide_eq_true hc73
            cases suf71 with
            | nil => exact absurd hlt71 (by simp at hl71; omega)
            | cons x_71 rest71 =>
              obtain ⟨o71, hB71, hL71⟩ := range_cons hL71
              rw [s_l6Draw_b1] at hB71
              have hix71 := drop_idx hd71
              refine W_skip ?_
              refine W_seq ?_
              refine W_block ?_
              obtain ⟨x83, hx83, hB71⟩ := bind_some hB71
              obtain ⟨x88, hx88, hB71⟩ := bind_some hB71
              have hst := Star.get 4 hst rfl
              have hst := Star.get 4 hst rfl
              have hst := Star.get 4 hst rfl
              have hst := Star.get 4 hst rfl
              refine W_drawS 6 [isV (.pointer (some ⟨g33, 2, none⟩)), isV (v67_g33_2), isV (.pointer (some ⟨g_0, 0, none⟩)), anyF, isV (.int .i64 x83.1), anyF] [own (OR.ownS 3 (OR.frz RP.int)) [r50_0] x41.1, own (OR.ownS 3 (OR.frz RP.int)) [v67_g33_2] g33_2_67, box g33 36 #[.int .i64 x18.1, r50_0, v67_g33_2, .int .i64 0, (.slice none 0 0)], box g7 36 #[.int .i64 0, (.slice none 0 0), (.slice none 0 0), .int .i64 0, (.slice none 0 0)]] [.base (box g_0 86 #[v0_0, .int .i64 g_0_1_66]) (some 4), .made 3 32 (fun v_ => own (OR.ownS 3 (OR.frz RP.int)) [v_] ([1, (-1), 2, 1, (-2), 3])) none, .made 4 33 (fun v_ => box g_0 86 #[v0_0, .int .i64 x83.2]) none, .made 5 34 (fun v_ => own (OR.ownS 3 (OR.frz RP.int)) [v_] ([x83.1])) none] ([]) [([], []), ([], []), ([], []), ([], [1]), ([0, 1], [1, 2]), ([], [3])] (S := [(none, none, some 4), (some 3, some 32, none), (some 4, some 33, none), (some 5, some 34, none)]) Try_mix (by kernel_rfl) rfl (by kernel_rfl) (amF_cons (mono_V _) (amF_cons (mono_V _) (amF_cons (mono_V _) (amF_cons (mono_any) (amF_cons (mono_V _) (amF_cons (mono_any) amF_nil)))))) hst ?_ (fun f w_ H93 hS93 hE93 hT93 hst => ?_)
              ·
                refine opsS_cons ?_ ?_
                ·
                  intro f w_ H93 X93 hS93 hE93 hP93 hst
                  refine L_fa (o' := 2) rfl fa_36_2 ((hS93 5 rfl).trans sf5) rfl ?_
                  exact L_nil ⟨rfl, _, _, _, rfl, rfl, Le.refl _, rfl, hst⟩
                refine opsS_cons ?_ ?_
                ·
                  intro f w_ H93 X93 hS93 hE93 hP93 hst
                  refine L_ld (v := v67_g33_2) rfl Try.isAgg23 (hP93 0 29 rfl rfl) (At.cell0 (Blk.at (Star.blkAt 2 hst rfl)) (j := 2) rfl) ?_
                  exact L_nil ⟨rfl, _, _, _, rfl, rfl, Le.refl _, rfl, hst⟩
                refine opsS_cons ?_ ?_
                ·
                  intro f w_ H93 X93 hS93 hE93 hP93 hst
                  refine L_mv (v := .pointer (some ⟨g_0, 0, none⟩)) rfl ((hS93 0 rfl).trans sf0) ?_
                  exact L_nil ⟨rfl, _, _, _, rfl, rfl, Le.refl _, rfl, hst⟩
                refine opsS_cons ?_ ?_
                ·
                  intro f w_ H93 X93 hS93 hE93 hP93 hst
                  refine L_bs rfl (parts6 rfl rfl rfl rfl rfl rfl) (bs_23_6_0_0_0_0_0_0 (.int .i64 1) (.int .i64 (-1)) (.int .i64 2) (.int .i64 1) (.int .i64 (-2)) (.int .i64 3) rfl rfl rfl rfl rfl rfl) hst ?_
                  intro g107 w108 hst
                  have hst := Star.addF (r := RP.int) (cs := [.int .i64 3]) (x := 3) hst rfl
                  have hst := Star.addF (r := RP.int) (cs := [.int .i64 (-2)]) (x := (-2)) hst rfl
                  have hst := Star.addF (r := RP.int) (cs := [.int .i64 1]) (x := 1) hst rfl
                  have hst := Star.addF (r := RP.int) (cs := [.int .i64 2]) (x := 2) hst rfl
                  have hst := Star.addF (r := RP.int) (cs := [.int .i64 (-1)]) (x := (-1)) hst rfl
                  have hst := Star.addF (r := RP.int) (cs := [.int .i64 1]) (x := 1) hst rfl
                  have hst := Star.mkRow (R := (OR.frz RP.int)) [([.int .i64 1], 1), ([.int .i64 (-1)], (-1)), ([.int .i64 2], 2), ([.int .i64 1], 1), ([.int .i64 (-2)], (-2)), ([.int .i64 3], 3)] [1, (-1), 2, 1, (-2), 3] 6 hst rfl rfl rfl (by decide)
                  have hst := Star.get 4 hst rfl
                  have hst := Star.get 4 hst rfl
                  have hst := Star.get 4 hst rfl
                  have hst := Star.get 4 hst rfl
                  exact L_nil ⟨rfl, _, _, _, rfl, rfl, Le.refl _, trivial, hst⟩
                refine opsS_cons ?_ ?_
                ·
                  intro f w_ H93 X93 hS93 hE93 hP93 hst
                  have hst : Star H93 w_ (own (OR.ownS 3 (OR.frz RP.int)) [r50_0] x41.1 :: own (OR.ownS 3 (OR.frz RP.int)) [v67_g33_2] g33_2_67 :: box g33 36 #[.int .i64 x18.1, r50_0, v67_g33_2, .int .i64 0, (.slice none 0 0)] :: box g7 36 #[.int .i64 0, (.slice none 0 0), (.slice none 0 0), .int .i64 0, (.slice none 0 0)] :: box g_0 86 #[v0_0, .int .i64 g_0_1_66] :: own (OR.ownS 3 (OR.frz RP.int)) [(f 32)] ([1, (-1), 2, 1, (-2), 3]) :: X93) := hst
                  have hst := Star.get 4 hst rfl
                  obtain ⟨Hb111, hle112, hsb113, hfz114, hbk115⟩ := Star.lend [_] hst
                  have hb116 : (RP.slice 3 RP.int).rel Hb111 [(f 32)] ([1, (-1), 2, 1, (-2), 3]) := fz_own 4 hfz114 rfl
                  refine L_call (args := #[.pointer (some ⟨g_0, 0, none⟩), (f 32)]) rfl Try.call49 (ops2 (hP93 2 31 rfl rfl) rfl) (s_l17Rd_num_c (r_ := ({ b := r_.b, p := g_0_1_66 } : Rd)) (list := [1, (-1), 2, 1, (-2), 3]) hsb113 (RP.mono _ h0_0 (Le.trans (Le.trans hle70 hE93) hle112)) hb116 hx83) ?_
                  rintro _ w117 ⟨rfl, hst⟩
                  have hst := hbk115 hst (closedL_cons (closed_box _ _ _) closedL_nil)
                  have hst := Star.get 5 hst rfl
                  have hst := Star.get 5 hst rfl
                  have hst := Star.get 5 hst rfl
                  have hst := Star.get 5 hst rfl
                  have hst := Star.get 5 hst rfl
                  exact L_nil ⟨rfl, _, _, _, rfl, rfl, Le.refl _, rfl, hst⟩
                refine opsS_cons ?_ ?_
                ·
                  intro f w_ H93 X93 hS93 hE93 hP93 hst
                  refine L_bs rfl (parts1 (hP93 4 33 rfl rfl)) (bs_23_1_0 (.int .i64 x83.1) rfl) hst ?_
                  intro g118 w119 hst
                  have hst := Star.addF (r := RP.int) (cs := [.int .i64 x83.1]) (x := x83.1) hst rfl
                  have hst := Star.mkRow (R := (OR.frz RP.int)) [([.int .i64 x83.1], x83.1)] [x83.1] 1 hst rfl rfl rfl (by decide)
                  have hst := Star.get 4 hst rfl
                  have hst := Star.get 4 hst rfl
                  have hst := Star.get 4 hst rfl
                  have hst := Star.get 4 hst rfl
                  exact L_nil ⟨rfl, _, _, _, rfl, rfl, Le.refl _, trivial, hst⟩
                exact opsS_nil
              ·
                have hst : Star H93 w_ ([own (OR.ownS 3 (OR.frz RP.int)) [r50_0] x41.1, own (OR.ownS 3 (OR.frz RP.int)) [v67_g33_2] g33_2_67, box g33 36 #[.int .i64 x18.1, r50_0, v67_g33_2, .int .i64 0, (.slice none 0 0)], box g7 36 #[.int .i64 0, (.slice none 0 0), (.slice none 0 0), .int .i64 0, (.slice none 0 0)], own (OR.ownS 3 (OR.frz RP.int)) [(f 32)] ([1, (-1), 2, 1, (-2), 3]), box g_0 86 #[v0_0, .int .i64 x83.2], own (OR.ownS 3 (OR.frz RP.int)) [(f 34)] ([x83.1])]) := hst
                have hst := Star.get 6 hst rfl
                have hst := Star.get 2 hst rfl
                refine L_appM (v := v67_g33_2) (u := (f 34)) rfl et_23 (hT93 1 30 rfl rfl) rfl hst hx88 ?_
                intro v122 w123 hst
                refine L_fa (o' := 2) rfl fa_36_2 ((hS93 5 rfl).trans sf5) rfl ?_
                refine L_stB (v := v122) (cs2 := #[.int .i64 x18.1, r50_0, v122, .int .i64 0, (.slice none 0 0)]) 2 rfl Try.sizeOf23 rfl rfl (one_len (Star.len 0 hst rfl)) hst rfl rfl rfl ?_
                intro w125 hst
                refine L_nil ?_
                refine W_region ?_
                refine L_mv (v := .int .i64 (i_65 : Int)) rfl ((hS93 6 rfl).trans sf6) ?_
                refine L_add (m := (i_65 : Int)) (n := 1) rfl rfl rfl ?_
                refine L_as (v := .int .i64 (i64 ((i_65 : Int) + 1))) rfl rfl ?_
                refine L_nil ?_
                obtain rfl := so hB71
                have hst := Star.get 3 hst rfl
                have hst := Star.get 1 hst rfl
                have hst := Star.get 2 hst rfl
                have hst := Star.get 3 hst rfl
                have hst := Star.get 5 hst rfl
                show ∃ m, m < _ ∧ I71 m _ _
                refine ⟨rest71.length, by simp, ?_⟩
                rw [hI71]
                exact ⟨i_65 + 1, rest71, x83.2, x88, H93, v122, rfl, drop_next hd71, by simp at hl71; omega, hL71, (Le.trans hle70 hE93), ((hS93 0 rfl).trans sf0), ((hS93 4 rfl).trans sf4), ((hS93 5 rfl).trans sf5), (Eq.trans rfl (congrArg (Value.int .i64) (i64_succ (n := x41.1.length) (by simp at hl71; omega) hlen71))), (Star.keepN 5 hst)⟩
          ·
            cases suf71 with
            | cons _ _ => exact absurd (of_decide_eq_false hc73) (by simp at hl71; omega)
            | nil =>
              obtain rfl := range_nil hL71
              refine W_exit ?_
              show R71 _ _
              rw [hR71]
              exact ⟨g_0_1_66, g33_2_67, H69, v67_g33_2, rfl, hle70, sf0, sf4, sf5, hst⟩
      ·
        clear hst
        intro f w_ hR
        rw [hR71] at hR
        obtain ⟨g_0_1_66, g33_2_67, H69, v67_g33_2, rfl, hle70, sf0, sf4, sf5, hst⟩ := hR
        clear hR71
        obtain ⟨x135, hx135, hA63⟩ := bind_some hA63
        refine W_region ?_
        refine L_mv (v := .pointer (some ⟨g_0, 0, none⟩)) rfl sf0 ?_
        refine L_bs rfl (parts7 rfl rfl rfl rfl rfl rfl rfl) (bs_23_7_0_0_0_0_0_0_0 (.int .i64 1) (.int .i64 2) (.int .i64 0) (.int .i64 (-1)) (.int .i64 3) (.int .i64 (-3)) (.int .i64 4) rfl rfl rfl rfl rfl rfl rfl) hst ?_
        intro g138 w139 hst
        have hst := Star.addF (r := RP.int) (cs := [.int .i64 4]) (x := 4) hst rfl
        have hst := Star.addF (r := RP.int) (cs := [.int .i64 (-3)]) (x := (-3)) hst rfl
        have hst := Star.addF (r := RP.int) (cs := [.int .i64 3]) (x := 3) hst rfl
        have hst := Star.addF (r := RP.int) (cs := [.int .i64 (-1)]) (x := (-1)) hst rfl
        have hst := Star.addF (r := RP.int) (cs := [.int .i64 0]) (x := 0) hst rfl
        have hst := Star.addF (r := RP.int) (cs := [.int .i64 2]) (x := 2) hst rfl
        have hst := Star.addF (r := RP.int) (cs := [.int .i64 1]) (x := 1) hst rfl
        have hst := Star.mkRow (R := (OR.frz RP.int)) [([.int .i64 1], 1), ([.int .i64 2], 2), ([.int .i64 0], 0), ([.int .i64 (-1)], (-1)), ([.int .i64 3], 3), ([.int .i64 (-3)], (-3)), ([.int .i64 4], 4)] [1, 2, 0, (-1), 3, (-3), 4] 7 hst rfl rfl rfl (by decide)
        have hst := Star.get 1 hst rfl
        obtain ⟨Hb141, hle142, hsb143, hfz144, hbk145⟩ := Star.lend [_] hst
        have hb146 : (RP.slice 3 RP.int).rel Hb141 [(.slice (some ⟨g138, 0, none⟩) 7 7)] ([1, 2, 0, (-1), 3, (-3), 4]) := fz_own 0 hfz144 rfl
        refine L_call (args := #[.pointer (some ⟨g_0, 0, none⟩), (.slice (some ⟨g138, 0, none⟩) 7 7)]) rfl Try.call49 (ops2 rfl rfl) (s_l17Rd_num_c (r_ := ({ b := r_.b, p := g_0_1_66 } : Rd)) (list := [1, 2, 0, (-1), 3, (-3), 4]) hsb143 (RP.mono _ h0_0 (Le.trans hle70 hle142)) hb146 hx135) ?_
        rintro _ w147 ⟨rfl, hst⟩
        have hst := hbk145 hst (closedL_cons (closed_box _ _ _) closedL_nil)
        refine L_fa (o' := 3) rfl fa_36_3 sf5 rfl ?_
        refine L_stB (v := .int .i64 x135.1) (cs2 := #[.int .i64 x18.1, r50_0, v67_g33_2, .int .i64 x135.1, (.slice none 0 0)]) 4 rfl Try.sizeOf3 rfl rfl rfl hst rfl rfl rfl ?_
        intro w148 hst
        refine L_nil ?_
        obtain ⟨rfl, rfl, rfl, rfl, rfl⟩ := so5 hA63
        have hst := Star.addNil (R := (OR.ownS 3 (OR.frz RP.int))) (e := 23) hst
        have hst := Star.get 6 hst rfl
        have hst := Star.get 2 hst rfl
        have hst := Star.get 2 hst rfl
        have hst := Star.get 6 hst rfl
        have hst := Star.get 6 hst rfl
        have hst := Star.get 5 hst rfl
        show R63 _ _
        rw [hR63]
        exact ⟨H69, r50_0, v67_g33_2, (.slice none 0 0), hle70, sf4, sf5, (Star.keepN 6 hst)⟩
    ·
      have hA63 := (ite_f hc64).symm.trans hA63
      refine W_seq ?_
      refine W_region ?_
      refine L_eql (m := x18.1) (n := 3) rfl rfl rfl ?_
      refine L_as (v := .bool (x18.1 == 3)) rfl rfl ?_
      refine L_nil ?_
      obtain ⟨⟨g_0_1_150, g33_1_151, g33_4_153⟩, hA155, hA63⟩ := bind_some hA63
      obtain ⟨R155, hR155⟩ : ∃ RR_ : Fr → World → Prop, RR_ = fun f w_ => ∃ v151_g33_1 v153_g33_4 : Value, f 4 = .pointer (some ⟨g7, 0, none⟩) ∧ f 5 = .pointer (some ⟨g33, 0, none⟩) ∧ Star H w_ ([box g_0 86 #[v0_0, .int .i64 g_0_1_150], own (OR.ownS 3 (OR.frz RP.int)) [v151_g33_1] g33_1_151, own (OR.ownS 23 (OR.ownS 3 (OR.frz RP.int))) [v153_g33_4] g33_4_153, box g33 36 #[.int .i64 x18.1, v151_g33_1, (.slice none 0 0), .int .i64 0, v153_g33_4], box g7 36 #[.int .i64 0, (.slice none 0 0), (.slice none 0 0), .int .i64 0, (.slice none 0 0)]]) := ⟨_, rfl⟩
      refine W_join R155 ?_ ?_
      ·
        refine W_cond (b := (x18.1 == 3)) rfl (fun hc156 => ?_) (fun hc156 => ?_)
        ·
          have hA155 := (ite_t hc156).symm.trans hA155
          refine W_seq ?_
          obtain ⟨x166, hx166, hA155⟩ := bind_some hA155
          refine W_region ?_
          refine L_mv (v := .pointer (some ⟨g_0, 0, none⟩)) rfl rfl ?_
          refine L_bs rfl (parts6 rfl rfl rfl rfl rfl rfl) (bs_23_6_0_0_0_0_0_0 (.int .i64 3) (.int .i64 4) (.int .i64 2) (.int .i64 6) (.int .i64 0) (.int .i64 8) rfl rfl rfl rfl rfl rfl) hst ?_
          intro g168 w169 hst
          have hst := Star.addF (r := RP.int) (cs := [.int .i64 8]) (x := 8) hst rfl
          have hst := Star.addF (r := RP.int) (cs := [.int .i64 0]) (x := 0) hst rfl
          have hst := Star.addF (r := RP.int) (cs := [.int .i64 6]) (x := 6) hst rfl
          have hst := Star.addF (r := RP.int) (cs := [.int .i64 2]) (x := 2) hst rfl
          have hst := Star.addF (r := RP.int) (cs := [.int .i64 4]) (x := 4) hst rfl
          have hst := Star.addF (r := RP.int) (cs := [.int .i64 3]) (x := 3) hst rfl
          have hst := Star.mkRow (R := (OR.frz RP.int)) [([.int .i64 3], 3), ([.int .i64 4], 4), ([.int .i64 2], 2), ([.int .i64 6], 6), ([.int .i64 0], 0), ([.int .i64 8], 8)] [3, 4, 2, 6, 0, 8] 6 hst rfl rfl rfl (by decide)
          have hst := Star.get 3 hst rfl
          obtain ⟨Hb171, hle172, hsb173, hfz174, hbk175⟩ := Star.lend [_] hst
          have hb176 : (RP.slice 3 RP.int).rel Hb171 [(.slice (some ⟨g168, 0, none⟩) 6 6)] ([3, 4, 2, 6, 0, 8]) := fz_own 0 hfz174 rfl
          refine L_call (args := #[.pointer (some ⟨g_0, 0, none⟩), (.slice (some ⟨g168, 0, none⟩) 6 6)]) rfl Try.call49 (ops2 rfl rfl) (s_l17Rd_num_c (r_ := ({ b := r_.b, p := x41.2 } : Rd)) (list := [3, 4, 2, 6, 0, 8]) hsb173 (RP.mono _ h0_0 hle172) hb176 hx166) ?_
          rintro _ w177 ⟨rfl, hst⟩
          have hst := hbk175 hst (closedL_cons (closed_box _ _ _) closedL_nil)
          refine L_as (v := .int .i64 x166.1) rfl rfl ?_
          refine L_nil ?_
          obtain ⟨j183, hL183, hA155⟩ := bind_some hA155
          obtain ⟨R183, hR183⟩ : ∃ RR_ : Fr → World → Prop, RR_ = fun f w_ => ∃ i_179 : Int, ∃ g_0_1_180 : Int, ∃ g33_4_181 : List (List Int), ∃ v181_g33_4 : Value, j183 = .nx (i_179, g_0_1_180, g33_4_181) ∧ f 4 = .pointer (some ⟨g7, 0, none⟩) ∧ f 5 = .pointer (some ⟨g33, 0, none⟩) ∧ Star H w_ ([box g_0 86 #[v0_0, .int .i64 g_0_1_180], own (OR.ownS 3 (OR.frz RP.int)) [r50_0] x41.1, own (OR.ownS 23 (OR.ownS 3 (OR.frz RP.int))) [v181_g33_4] g33_4_181, box g33 36 #[.int .i64 x18.1, r50_0, (.slice none 0 0), .int .i64 0, v181_g33_4], box g7 36 #[.int .i64 0, (.slice none 0 0), (.slice none 0 0), .int .i64 0, (.slice none 0 0)]]) := ⟨_, rfl⟩
          refine W_join R183 ?_ ?_
          ·
            refine W_block ?_
            obtain ⟨I183, hI183⟩ : ∃ I : Nat → Fr → World → Prop, I = fun n f w_ => ∃ i_179 : Int, ∃ g_0_1_180 : Int, ∃ g33_4_181 : List (List Int), ∃ v181_g33_4 : Value, whileL (s_l6Draw_b2 r_ x41) n (i_179, g_0_1_180, g33_4_181) = some j183 ∧ f 0 = .pointer (some ⟨g_0, 0, none⟩) ∧ f 4 = .pointer (some ⟨g7, 0, none⟩) ∧ f 5 = .pointer (some ⟨g33, 0, none⟩) ∧ f 7 = .int .i64 i_179 ∧ Star H w_ ([box g_0 86 #[v0_0, .int .i64 g_0_1_180], own (OR.ownS 3 (OR.frz RP.int)) [r50_0] x41.1, own (OR.ownS 23 (OR.ownS 3 (OR.frz RP.int))) [v181_g33_4] g33_4_181, box g33 36 #[.int .i64 x18.1, r50_0, (.slice none 0 0), .int .i64 0, v181_g33_4], box g7 36 #[.int .i64 0, (.slice none 0 0), (.slice none 0 0), .int .i64 0, (.slice none 0 0)]]) := ⟨_, rfl⟩
            have hst := Star.addNil (R := (OR.ownS 3 (OR.frz RP.int))) (e := 23) hst
            have hst := Star.get 6 hst rfl
            have hst := Star.get 4 hst rfl
            have hst := Star.get 2 hst rfl
            have hst := Star.get 5 hst rfl
            have hst := Star.get 4 hst rfl
            refine W_loop I183 (n := fu) ?_ ?_
            · rw [hI183]; exact ⟨x166.1, x166.2, [], (.slice none 0 0), hL183, rfl, rfl, rfl, rfl, (Star.keepN 5 hst)⟩
            ·
              clear hst
              intro n183 f w_ hI
              rw [hI183] at hI
              obtain ⟨i_179, g_0_1_180, g33_4_181, v181_g33_4, hL183, sf0, sf4, sf5, sf7, hst⟩ := hI
              cases n183 with
              | zero => exact (while_zero hL183).elim
              | succ n183 =>
                obtain ⟨o183, hB183, hL183⟩ := while_succ hL183
                rw [s_l6Draw_b2] at hB183
                refine W_seq ?_
                refine W_seq ?_
                refine W_region ?_
                refine L_mv (v := .int .i64 i_179) rfl sf7 ?_
                refine L_gtr (m := i_179) (n := 0) rfl rfl rfl ?_
                refine L_nil ?_
                refine W_cond (b := decide (i_179 > 0)) rfl (fun hc185 => ?_) (fun hc185 => ?_)
                ·
                  have hB183 := (ite_t hc185).symm.trans hB183
                  refine W_skip ?_
                  refine W_seq ?_
                  refine W_block ?_
                  refine W_seq ?_
                  refine W_region ?_
                  refine L_bs rfl parts0 (bs_23_0  ) hst ?_
                  intro g189 w190 hst
                  have hst := Star.mkRow (R := (OR.frz RP.int)) [] [] 0 hst rfl rfl rfl (by decide)
                  refine L_as (v := (.slice (some ⟨g189, 0, none⟩) 0 0)) rfl rfl ?_
                  refine L_nil ?_
                  refine W_seq ?_
                  refine W_seq ?_
                  refine W_region ?_
                  refine L_as (v := .int .i64 0) rfl rfl ?_
                  refine L_nil ?_
                  have hlen196 : List.length x41.1 ≤ 9223372036854775807 := len_le (Star.len 2 hst rfl)
                  obtain ⟨j196, hL196, hB183⟩ := bind_some hB183
                  obtain ⟨R196, hR196⟩ : ∃ RR_ : Fr → World → Prop, RR_ = fun f w_ => ∃ row_193 : List Int, ∃ g_0_1_195 : Int, ∃ v193_row : Value, j196 = .nx (row_193, g_0_1_195) ∧ f 0 = .pointer (some ⟨g_0, 0, none⟩) ∧ f 4 = .pointer (some ⟨g7, 0, none⟩) ∧ f 5 = .pointer (some ⟨g33, 0, none⟩) ∧ f 7 = .int .i64 i_179 ∧ f 8 = v193_row ∧ Star H w_ ([own (OR.ownS 3 (OR.frz RP.int)) [v193_row] row_193, box g_0 86 #[v0_0, .int .i64 g_0_1_195], own (OR.ownS 3 (OR.frz RP.int)) [r50_0] x41.1, own (OR.ownS 23 (OR.ownS 3 (OR.frz RP.int))) [v181_g33_4] g33_4_181, box g33 36 #[.int .i64 x18.1, r50_0, (.slice none 0 0), .int .i64 0, v181_g33_4], box g7 36 #[.int .i64 0, (.slice none 0 0), (.slice none 0 0), .int .i64 0, (.slice none 0 0)]]) := ⟨_, rfl⟩
                  refine W_join R196 ?_ ?_
                  ·
                    refine W_block ?_
                    obtain ⟨I196, hI196⟩ : ∃ I : Nat → Fr → World → Prop, I = fun n f w_ => ∃ i_192 : Nat, ∃ suf196 : List Int, ∃ row_193 : List Int, ∃ g_0_1_195 : Int, ∃ v193_row : Value, n = suf196.length ∧ List.drop i_192 x41.1 = suf196 ∧ i_192 + suf196.length = x41.1.length ∧ rangeL (s_l6Draw_b3 r_) suf196 i_192 (row_193, g_0_1_195) = some j196 ∧ f 0 = .pointer (some ⟨g_0, 0, none⟩) ∧ f 4 = .pointer (some ⟨g7, 0, none⟩) ∧ f 5 = .pointer (some ⟨g33, 0, none⟩) ∧ f 7 = .int .i64 i_179 ∧ f 8 = v193_row ∧ f 9 = .int .i64 (i_192 : Int) ∧ Star H w_ ([own (OR.ownS 3 (OR.frz RP.int)) [v193_row] row_193, box g_0 86 #[v0_0, .int .i64 g_0_1_195], own (OR.ownS 3 (OR.frz RP.int)) [r50_0] x41.1, own (OR.ownS 23 (OR.ownS 3 (OR.frz RP.int))) [v181_g33_4] g33_4_181, box g33 36 #[.int .i64 x18.1, r50_0, (.slice none 0 0), .int .i64 0, v181_g33_4], box g7 36 #[.int .i64 0, (.slice none 0 0), (.slice none 0 0), .int .i64 0, (.slice none 0 0)]]) := ⟨_, rfl⟩
                    refine W_loop I196 (n := x41.1.length) ?_ ?_
                    · rw [hI196]; exact ⟨0, x41.1, [], g_0_1_180, (.slice (some ⟨g189, 0, none⟩) 0 0), rfl, rfl, Nat.zero_add _, hL196, sf0, sf4, sf5, sf7, rfl, rfl, hst⟩
                    ·
                      clear hst
                      intro n196 f w_ hI
                      rw [hI196] at hI
                      obtain ⟨i_192, suf196, row_193, g_0_1_195, v193_row, rfl, hd196, hl196, hL196, sf0, sf4, sf5, sf7, sf8, sf9, hst⟩ := hI
                      refine W_seq ?_
                      refine W_seq ?_
                      refine W_region ?_
                      refine L_mv (v := .int .i64 (i_192 : Int)) rfl sf9 ?_
                      refine L_fa (o' := 1) rfl fa_36_1 sf5 rfl ?_
                      refine L_ld (v := r50_0) rfl Try.isAgg23 rfl (At.cell0 (Blk.at (Star.blkAt 4 hst rfl)) (j := 1) rfl) ?_
                      refine L_len (v := r50_0) (n := List.length x41.1) rfl Try.underlying23 rfl (Star.len 2 hst rfl) ?_
                      refine L_lss (m := (i_192 : Int)) (n := (x41.1.length : Int)) rfl rfl rfl ?_
                      refine L_nil ?_
                      refine W_cond (b := decide ((i_192 : Int) < (x41.1.length : Int))) rfl (fun hc197 => ?_) (fun hc197 => ?_)
                      ·
                        have hlt196 := of_decide_eq_true hc197
                        cases suf196 with
                        | nil => exact absurd hlt196 (by simp at hl196; omega)
                        | cons x_196 rest196 =>
                          obtain ⟨o196, hB196, hL196⟩ := range_cons hL196
                          rw [s_l6Draw_b3] at hB196
                          have hix196 := drop_idx hd196
                          refine W_skip ?_
                          refine W_seq ?_
                          refine W_block ?_
                          obtain ⟨x203, hx203, hB196⟩ := bind_some hB196
                          obtain ⟨x208, hx208, hB196⟩ := bind_some hB196
                          refine W_region ?_
                          refine L_mv (v := v193_row) rfl sf8 ?_
                          refine L_mv (v := .pointer (some ⟨g_0, 0, none⟩)) rfl sf0 ?_
                          have hst := Star.get 1 hst rfl
                          obtain ⟨Hb212, hle213, hsb214, hfz215, hbk216⟩ := Star.lend [_] hst
                          refine L_call (args := #[.pointer (some ⟨g_0, 0, none⟩), .int .i64 4]) rfl Try.call70 (ops2 rfl rfl) (s_l17Rd_pick_c (r_ := ({ b := r_.b, p := g_0_1_195 } : Rd)) (n_ := 4) hsb214 (RP.mono _ h0_0 hle213) hx203) ?_
                          rintro _ w217 ⟨rfl, hst⟩
                          have hst := hbk216 hst (closedL_cons (closed_box _ _ _) closedL_nil)
                          refine L_bs rfl (parts1 rfl) (bs_23_1_0 (.int .i64 x203.1) rfl) hst ?_
                          intro g218 w219 hst
                          have hst := Star.addF (r := RP.int) (cs := [.int .i64 x203.1]) (x := x203.1) hst rfl
                          have hst := Star.mkRow (R := (OR.frz RP.int)) [([.int .i64 x203.1], x203.1)] [x203.1] 1 hst rfl rfl rfl (by decide)
                          have hst := Star.get 2 hst rfl
                          refine L_appM (v := v193_row) (u := (.slice (some ⟨g218, 0, none⟩) 1 1)) rfl et_23 rfl rfl hst hx208 ?_
                          intro v221 w222 hst
                          refine L_as (v := v221) rfl rfl ?_
                          refine L_nil ?_
                          refine W_region ?_
                          refine L_mv (v := .int .i64 (i_192 : Int)) rfl sf9 ?_
                          refine L_add (m := (i_192 : Int)) (n := 1) rfl rfl rfl ?_
                          refine L_as (v := .int .i64 (i64 ((i_192 : Int) + 1))) rfl rfl ?_
                          refine L_nil ?_
                          obtain rfl := so hB196
                          show ∃ m, m < _ ∧ I196 m _ _
                          refine ⟨rest196.length, by simp, ?_⟩
                          rw [hI196]
                          exact ⟨i_192 + 1, rest196, x208, x203.2, v221, rfl, drop_next hd196, by simp at hl196; omega, hL196, sf0, sf4, sf5, sf7, rfl, (Eq.trans rfl (congrArg (Value.int .i64) (i64_succ (n := x41.1.length) (by simp at hl196; omega) hlen196))), hst⟩
                      ·
                        cases suf196 with
                        | cons _ _ => exact absurd (of_decide_eq_false hc197) (by simp at hl196; omega)
                        | nil =>
                          obtain rfl := range_nil hL196
                          refine W_exit ?_
                          show R196 _ _
                          rw [hR196]
                          exact ⟨row_193, g_0_1_195, v193_row, rfl, sf0, sf4, sf5, sf7, sf8, hst⟩
                  ·
                    clear hst
                    intro f w_ hR
                    rw [hR196] at hR
                    obtain ⟨row_193, g_0_1_195, v193_row, rfl, sf0, sf4, sf5, sf7, sf8, hst⟩ := hR
                    clear hR196
                    obtain ⟨x227, hx227, hB183⟩ := bind_some hB183
                    refine W_region ?_
                    refine L_fa (o' := 4) rfl fa_36_4 sf5 rfl ?_
                    refine L_ld (v := v181_g33_4) rfl Try.isAgg34 rfl (At.cell0 (Blk.at (Star.blkAt 4 hst rfl)) (j := 4) rfl) ?_
                    refine L_mv (v := v193_row) rfl sf8 ?_
                    refine L_bs rfl (parts1 rfl) (bs_34_1_0 (v193_row) (one_len (Star.len 0 hst rfl))) hst ?_
                    intro g232 w233 hst
                    have hst := Star.get 1 hst rfl
                    have hst := Star.mkRow (R := (OR.ownS 3 (OR.frz RP.int))) [([v193_row], row_193)] [row_193] 1 hst rfl rfl rfl (by decide)
                    have hst := Star.get 3 hst rfl
                    refine L_appM (v := v181_g33_4) (u := (.slice (some ⟨g232, 0, none⟩) 1 1)) rfl et_34 rfl rfl hst hx227 ?_
                    intro v235 w236 hst
                    refine L_fa (o' := 4) rfl fa_36_4 sf5 rfl ?_
                    refine L_stB (v := v235) (cs2 := #[.int .i64 x18.1, r50_0, (.slice none 0 0), .int .i64 0, v235]) 3 rfl Try.sizeOf34 rfl rfl (one_len (Star.len 0 hst rfl)) hst rfl rfl rfl ?_
                    intro w238 hst
                    refine L_nil ?_
                    refine W_region ?_
                    refine L_mv (v := .int .i64 i_179) rfl sf7 ?_
                    refine L_sub (m := i_179) (n := 1) rfl rfl rfl ?_
                    refine L_as (v := .int .i64 (i64 (i_179 - 1))) rfl rfl ?_
                    refine L_nil ?_
                    obtain rfl := so hB183
                    have hst := Star.get 4 hst rfl
                    have hst := Star.get 1 hst rfl
                    have hst := Star.get 2 hst rfl
                    have hst := Star.get 4 hst rfl
                    have hst := Star.get 4 hst rfl
                    show ∃ m, m < _ ∧ I183 m _ _
                    refine ⟨n183, Nat.lt_succ_self _, ?_⟩
                    rw [hI183]
                    exact ⟨i64 (i_179 - 1), g_0_1_195, x227, v235, hL183, sf0, sf4, sf5, rfl, hst⟩
                ·
                  have hB183 := (ite_f hc185).symm.trans hB183
                  refine W_exit ?_
                  obtain rfl := so hB183
                  obtain rfl := so hL183
                  show R183 _ _
                  rw [hR183]
                  exact ⟨i_179, g_0_1_180, g33_4_181, v181_g33_4, rfl, sf4, sf5, hst⟩
          ·
            clear hst
            intro f w_ hR
            rw [hR183] at hR
            obtain ⟨i_179, g_0_1_180, g33_4_181, v181_g33_4, rfl, sf4, sf5, hst⟩ := hR
            clear hR183
            obtain ⟨rfl, rfl, rfl⟩ := so3 hA155
            show R155 _ _
            rw [hR155]
            exact ⟨r50_0, v181_g33_4, sf4, sf5, hst⟩
        ·
          have hA155 := (ite_f hc156).symm.trans hA155
          refine W_seq ?_
          refine W_region ?_
          refine L_eql (m := x18.1) (n := 4) rfl rfl rfl ?_
          refine L_as (v := .bool (x18.1 == 4)) rfl rfl ?_
          refine L_nil ?_
          obtain ⟨⟨g_0_1_239, g33_1_240⟩, hA242, hA155⟩ := bind_some hA155
          obtain ⟨R242, hR242⟩ : ∃ RR_ : Fr → World → Prop, RR_ = fun f w_ => ∃ v240_g33_1 : Value, f 4 = .pointer (some ⟨g7, 0, none⟩) ∧ f 5 = .pointer (some ⟨g33, 0, none⟩) ∧ Star H w_ ([box g_0 86 #[v0_0, .int .i64 g_0_1_239], own (OR.ownS 3 (OR.frz RP.int)) [v240_g33_1] g33_1_240, box g33 36 #[.int .i64 x18.1, v240_g33_1, (.slice none 0 0), .int .i64 0, (.slice none 0 0)], box g7 36 #[.int .i64 0, (.slice none 0 0), (.slice none 0 0), .int .i64 0, (.slice none 0 0)]]) := ⟨_, rfl⟩
          refine W_join R242 ?_ ?_
          ·
            refine W_cond (b := (x18.1 == 4)) rfl (fun hc243 => ?_) (fun hc243 => ?_)
            ·
              have hA242 := (ite_t hc243).symm.trans hA242
              obtain ⟨x249, hx249, hA242⟩ := bind_some hA242
              obtain ⟨x252, hx252, hA242⟩ := bind_some hA242
              refine W_region ?_
              refine L_mv (v := .pointer (some ⟨g_0, 0, none⟩)) rfl rfl ?_
              refine L_lda (cs := [v1_0, v1_1]) rfl Try.isAgg26 Try.sizeOf26 rfl (At.sub0 (Blk.at (Star.blkAt 5 hst rfl)) 0 2) rfl ?_
              have hst := Star.get 2 hst rfl
              obtain ⟨Hb256, hle257, hsb258, hfz259, hbk260⟩ := Star.lend [_] hst
              refine L_call (args := #[.pointer (some ⟨g_0, 0, none⟩), .agg #[v1_0, v1_1], .int .i64 2]) rfl Try.call97 (ops3 rfl rfl rfl) (s_l6Some_c (r_ := ({ b := r_.b, p := x41.2 } : Rd)) (m := m) (least := 2) hsb258 (RP.mono _ h0_0 hle257) (RP.mono _ h1_0 hle257) (RP.mono _ h1_1 hle257) hx249) ?_
              rintro r261_0 w261 ⟨_, rfl, hst⟩
              have hst := hbk260 hst (closedL_cons (closed_own (OR.closed_ownS closed_int) _ _) (closedL_cons (closed_box _ _ _) closedL_nil))
              refine L_slO (R := (OR.frz RP.int)) (b := 2) rfl et_23 rfl hst trivial rfl hx252 ?_
              intro v263 hst
              refine L_fa (o' := 1) rfl fa_36_1 rfl rfl ?_
              refine L_stB (v := v263) (cs2 := #[.int .i64 x18.1, v263, (.slice none 0 0), .int .i64 0, (.slice none 0 0)]) 2 rfl Try.sizeOf23 rfl rfl (one_len (Star.len 0 hst rfl)) hst rfl rfl rfl ?_
              intro w265 hst
              refine L_nil ?_
              obtain ⟨rfl, rfl⟩ := so2 hA242
              have hst := Star.get 5 hst rfl
              have hst := Star.get 1 hst rfl
              have hst := Star.get 2 hst rfl
              have hst := Star.get 3 hst rfl
              show R242 _ _
              rw [hR242]
              exact ⟨v263, rfl, rfl, (Star.keepN 4 hst)⟩
            ·
              have hA242 := (ite_f hc243).symm.trans hA242
              refine W_skip ?_
              obtain ⟨rfl, rfl⟩ := so2 hA242
              have hst := Star.get 4 hst rfl
              have hst := Star.get 1 hst rfl
              have hst := Star.get 2 hst rfl
              have hst := Star.get 3 hst rfl
              show R242 _ _
              rw [hR242]
              exact ⟨r50_0, rfl, rfl, (Star.keepN 4 hst)⟩
          ·
            intro f w_ hR
            rw [hR242] at hR
            obtain ⟨v240_g33_1, sf4, sf5, hst⟩ := hR
            clear hR242
            obtain ⟨rfl, rfl, rfl⟩ := so3 hA155
            have hst := Star.addNil (R := (OR.ownS 3 (OR.frz RP.int))) (e := 23) hst
            have hst := Star.get 4 hst rfl
            have hst := Star.get 4 hst rfl
            have hst := Star.get 2 hst rfl
            have hst := Star.get 4 hst rfl
            have hst := Star.get 4 hst rfl
            show R155 _ _
            rw [hR155]
            exact ⟨v240_g33_1, (.slice none 0 0), sf4, sf5, hst⟩
      ·
        intro f w_ hR
        rw [hR155] at hR
        obtain ⟨v151_g33_1, v153_g33_4, sf4, sf5, hst⟩ := hR
        clear hR155
        obtain ⟨rfl, rfl, rfl, rfl, rfl⟩ := so5 hA63
        have hst := Star.addNil (R := (OR.frz RP.int)) (e := 3) hst
        have hst := Star.get 5 hst rfl
        have hst := Star.get 5 hst rfl
        have hst := Star.get 5 hst rfl
        have hst := Star.get 3 hst rfl
        have hst := Star.get 5 hst rfl
        have hst := Star.get 5 hst rfl
        show R63 _ _
        rw [hR63]
        exact ⟨H, v151_g33_1, (.slice none 0 0), v153_g33_4, (Le.refl _), sf4, sf5, hst⟩
  ·
    intro f w_ hR
    rw [hR63] at hR
    obtain ⟨H61, v54_g33_1, v56_g33_2, v59_g33_4, hle62, sf4, sf5, hst⟩ := hR
    clear hR63
    refine W_seq ?_
    refine W_region ?_
    refine L_lda (cs := [.int .i64 x18.1, v54_g33_1, v56_g33_2, .int .i64 g33_3_58, v59_g33_4]) rfl Try.isAgg36 Try.sizeOf36 sf5 (At.sub0 (Blk.at (Star.blkAt 4 hst rfl)) 0 5) rfl ?_
    refine L_staB (vs := #[.int .i64 x18.1, v54_g33_1, v56_g33_2, .int .i64 g33_3_58, v59_g33_4]) (cs2 := #[.int .i64 x18.1, v54_g33_1, v56_g33_2, .int .i64 g33_3_58, v59_g33_4]) 5 rfl Try.sizeOf36 sf4 rfl rfl (ones_cons rfl (ones_cons (one_len (Star.len 1 hst rfl)) (ones_cons (one_len (Star.len 2 hst rfl)) (ones_cons rfl (ones_cons (one_len (Star.len 3 hst rfl)) ones_nil))))) hst rfl (by decide) rfl ?_
    intro w269 hst
    refine L_nil ?_
    refine W_ret ?_
    refine retG1 (v1 := .agg #[.int .i64 x18.1, v54_g33_1, v56_g33_2, .int .i64 g33_3_58, v59_g33_4]) Try.results81 (resV_agg Try.isAgg36 Try.sizeOf36 sf4 (Star.blkAt 0 hst rfl) rfl) ?_
    obtain rfl := so hF
    have hst := Star.get 1 hst rfl
    have hst := Star.get 4 hst rfl
    have hst := Star.get 4 hst rfl
    have hst := Star.get 4 hst rfl
    exact ⟨v54_g33_1, v56_g33_2, v59_g33_4, rfl, (Star.down (Star.keepN 4 hst) hle62 (closedL_cons (closed_own (OR.closed_ownS closed_int) _ _) (closedL_cons (closed_own (OR.closed_ownS closed_int) _ _) (closedL_cons (closed_own (OR.closed_ownS (OR.closed_ownS closed_int)) _ _) (closedL_cons (closed_box _ _ _) closedL_nil)))))⟩

end Go.Proofs.Ytcjjfneofcpmfaa

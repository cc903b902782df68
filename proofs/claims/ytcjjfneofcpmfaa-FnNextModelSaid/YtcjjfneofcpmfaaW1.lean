/- Part of a proof by program: W1. -/
import Derived.Test.YtcjjfneofcpmfaaD1
import Derived.Test.YtcjjfneofcpmfaaProg
namespace Go.Proofs.Ytcjjfneofcpmfaa
open Go Go.E Go.L Go.RowKit
set_option linter.unusedVariables false
set_option linter.unusedSimpArgs false
set_option maxRecDepth 100000

theorem Try_mix : Try.prog.follows .mixedOrders = true := by kernel_rfl
theorem fa_26_0 : FA Try.prog 26 0 0 := fa_of Try.underlying26 rfl Try.sizeOf23 rfl
theorem fa_26_1 : FA Try.prog 26 1 1 := fa_of Try.underlying26 rfl Try.sizeOf24 rfl
theorem fa_36_0 : FA Try.prog 36 0 0 := fa_of Try.underlying36 rfl Try.sizeOf3 rfl
theorem fa_36_1 : FA Try.prog 36 1 1 := fa_of Try.underlying36 rfl Try.sizeOf23 rfl
theorem fa_36_2 : FA Try.prog 36 2 2 := fa_of Try.underlying36 rfl Try.sizeOf23 rfl
theorem fa_36_3 : FA Try.prog 36 3 3 := fa_of Try.underlying36 rfl Try.sizeOf3 rfl
theorem fa_36_4 : FA Try.prog 36 4 4 := fa_of Try.underlying36 rfl Try.sizeOf34 rfl
theorem fa_55_0 : FA Try.prog 55 0 0 := fa_of Try.underlying55 rfl Try.sizeOf23 rfl
theorem fa_55_1 : FA Try.prog 55 1 1 := fa_of Try.underlying55 rfl Try.sizeOf53 rfl
theorem fa_86_0 : FA Try.prog 86 0 0 := fa_of Try.underlying86 rfl Try.sizeOf22 rfl
theorem fa_86_1 : FA Try.prog 86 1 1 := fa_of Try.underlying86 rfl Try.sizeOf3 rfl
theorem fa_96_0 : FA Try.prog 96 0 0 := fa_of Try.underlying96 rfl Try.sizeOf3 rfl
theorem fa_96_1 : FA Try.prog 96 1 1 := fa_of Try.underlying96 rfl Try.sizeOf23 rfl
theorem fa_96_2 : FA Try.prog 96 2 2 := fa_of Try.underlying96 rfl Try.sizeOf23 rfl
theorem fa_96_3 : FA Try.prog 96 3 3 := fa_of Try.underlying96 rfl Try.sizeOf3 rfl
theorem fa_96_4 : FA Try.prog 96 4 4 := fa_of Try.underlying96 rfl Try.sizeOf34 rfl
theorem et_22 : ET Try.prog 22 5 1 := et_of Try.underlying22 (by decide) (by kernel_rfl)
theorem et_23 : ET Try.prog 23 3 1 := et_of Try.underlying23 (by decide) (by kernel_rfl)
theorem et_24 : ET Try.prog 24 36 5 := et_of Try.underlying24 (by decide) (by kernel_rfl)
theorem et_34 : ET Try.prog 34 23 1 := et_of Try.underlying34 (by decide) (by kernel_rfl)
theorem et_44 : ET Try.prog 44 4 1 := et_of Try.underlying44 (by decide) (by kernel_rfl)
theorem et_53 : ET Try.prog 53 96 5 := et_of Try.underlying53 (by decide) (by kernel_rfl)
theorem bld_26_  : ∀ w, (Instr.build 26 #[]).run Try.prog w = .ok (.agg #[.slice none 0 0, .slice none 0 0]) w := by
  intro w
  simp [Instr.build, Instr.fill, Try.zeroValue26, Try.runUnderlying26, Try.sizeOf23, Try.sizeOf24, cells_agg]
theorem bld_26_0 (a0 : Value) (ha0 : a0.oneCell' = true) : ∀ w, (Instr.build 26 #[(0, a0)]).run Try.prog w = .ok (.agg #[a0, .slice none 0 0]) w := by
  intro w
  simp [Instr.build, Instr.fill, Try.zeroValue26, Try.runUnderlying26, Try.sizeOf23, Try.sizeOf24, cells_one ha0, cells_agg]
theorem bld_26_0_1 (a0 a1 : Value) (ha0 : a0.oneCell' = true) (ha1 : a1.oneCell' = true) : ∀ w, (Instr.build 26 #[(0, a0), (1, a1)]).run Try.prog w = .ok (.agg #[a0, a1]) w := by
  intro w
  simp [Instr.build, Instr.fill, Try.zeroValue26, Try.runUnderlying26, Try.sizeOf23, Try.sizeOf24, cells_one ha0, cells_one ha1, cells_agg]
theorem bld_36_0 (a0 : Value) (ha0 : a0.oneCell' = true) : ∀ w, (Instr.build 36 #[(0, a0)]).run Try.prog w = .ok (.agg #[a0, .slice none 0 0, .slice none 0 0, .int .i64 0, .slice none 0 0]) w := by
  intro w
  simp [Instr.build, Instr.fill, Try.zeroValue36, Try.runUnderlying36, Try.sizeOf3, Try.sizeOf23, Try.sizeOf34, cells_one ha0, cells_agg]
theorem bld_36_0_1 (a0 a1 : Value) (ha0 : a0.oneCell' = true) (ha1 : a1.oneCell' = true) : ∀ w, (Instr.build 36 #[(0, a0), (1, a1)]).run Try.prog w = .ok (.agg #[a0, a1, .slice none 0 0, .int .i64 0, .slice none 0 0]) w := by
  intro w
  simp [Instr.build, Instr.fill, Try.zeroValue36, Try.runUnderlying36, Try.sizeOf3, Try.sizeOf23, Try.sizeOf34, cells_one ha0, cells_one ha1, cells_agg]
theorem bld_36_0_1_2_3 (a0 a1 a2 a3 : Value) (ha0 : a0.oneCell' = true) (ha1 : a1.oneCell' = true) (ha2 : a2.oneCell' = true) (ha3 : a3.oneCell' = true) : ∀ w, (Instr.build 36 #[(0, a0), (1, a1), (2, a2), (3, a3)]).run Try.prog w = .ok (.agg #[a0, a1, a2, a3, .slice none 0 0]) w := by
  intro w
  simp [Instr.build, Instr.fill, Try.zeroValue36, Try.runUnderlying36, Try.sizeOf3, Try.sizeOf23, Try.sizeOf34, cells_one ha0, cells_one ha1, cells_one ha2, cells_one ha3, cells_agg]
theorem bld_36_0_1_3 (a0 a1 a2 : Value) (ha0 : a0.oneCell' = true) (ha1 : a1.oneCell' = true) (ha2 : a2.oneCell' = true) : ∀ w, (Instr.build 36 #[(0, a0), (1, a1), (3, a2)]).run Try.prog w = .ok (.agg #[a0, a1, .slice none 0 0, a2, .slice none 0 0]) w := by
  intro w
  simp [Instr.build, Instr.fill, Try.zeroValue36, Try.runUnderlying36, Try.sizeOf3, Try.sizeOf23, Try.sizeOf34, cells_one ha0, cells_one ha1, cells_one ha2, cells_agg]
theorem bld_36_0_1_4 (a0 a1 a2 : Value) (ha0 : a0.oneCell' = true) (ha1 : a1.oneCell' = true) (ha2 : a2.oneCell' = true) : ∀ w, (Instr.build 36 #[(0, a0), (1, a1), (4, a2)]).run Try.prog w = .ok (.agg #[a0, a1, .slice none 0 0, .int .i64 0, a2]) w := by
  intro w
  simp [Instr.build, Instr.fill, Try.zeroValue36, Try.runUnderlying36, Try.sizeOf3, Try.sizeOf23, Try.sizeOf34, cells_one ha0, cells_one ha1, cells_one ha2, cells_agg]
theorem bld_86_0 (a0 : Value) (ha0 : a0.oneCell' = true) : ∀ w, (Instr.build 86 #[(0, a0)]).run Try.prog w = .ok (.agg #[a0, .int .i64 0]) w := by
  intro w
  simp [Instr.build, Instr.fill, Try.zeroValue86, Try.runUnderlying86, Try.sizeOf3, Try.sizeOf22, cells_one ha0, cells_agg]
theorem bs_23_0  : ∀ w, (Instr.buildSlice 23 0 #[]).run Try.prog w = .ok (.slice (some ⟨w.heap.size, 0, none⟩) 0 0) (w.alloc (.cells #[] 3)) := by
  intro w
  simp [Instr.buildSlice, Instr.fill, newRow, Try.runUnderlying23, Try.sizeOf3, cells_agg, cells_int, cells_bool, cells_str, cells_sl, Array.range_succ, range0]
theorem bs_23_1_0 (a0 : Value) (ha0 : a0.oneCell' = true) : ∀ w, (Instr.buildSlice 23 1 #[(0, a0)]).run Try.prog w = .ok (.slice (some ⟨w.heap.size, 0, none⟩) 1 1) (w.alloc (.cells #[a0] 3)) := by
  intro w
  simp [Instr.buildSlice, Instr.fill, newRow, Try.zeroValue3, Try.runUnderlying23, Try.sizeOf3, cells_one ha0, cells_agg, cells_int, cells_bool, cells_str, cells_sl, Array.range_succ, range0]
theorem bs_23_2_0_0 (a0 a1 : Value) (ha0 : a0.oneCell' = true) (ha1 : a1.oneCell' = true) : ∀ w, (Instr.buildSlice 23 2 #[(0, a0), (1, a1)]).run Try.prog w = .ok (.slice (some ⟨w.heap.size, 0, none⟩) 2 2) (w.alloc (.cells #[a0, a1] 3)) := by
  intro w
  simp [Instr.buildSlice, Instr.fill, newRow, Try.zeroValue3, Try.runUnderlying23, Try.sizeOf3, cells_one ha0, cells_one ha1, cells_agg, cells_int, cells_bool, cells_str, cells_sl, Array.range_succ, range0]
theorem bs_23_3_0_0_0 (a0 a1 a2 : Value) (ha0 : a0.oneCell' = true) (ha1 : a1.oneCell' = true) (ha2 : a2.oneCell' = true) : ∀ w, (Instr.buildSlice 23 3 #[(0, a0), (1, a1), (2, a2)]).run Try.prog w = .ok (.slice (some ⟨w.heap.size, 0, none⟩) 3 3) (w.alloc (.cells #[a0, a1, a2] 3)) := by
  intro w
  simp [Instr.buildSlice, Instr.fill, newRow, Try.zeroValue3, Try.runUnderlying23, Try.sizeOf3, cells_one ha0, cells_one ha1, cells_one ha2, cells_agg, cells_int, cells_bool, cells_str, cells_sl, Array.range_succ, range0]
theorem bs_23_4_0_0_0_0 (a0 a1 a2 a3 : Value) (ha0 : a0.oneCell' = true) (ha1 : a1.oneCell' = true) (ha2 : a2.oneCell' = true) (ha3 : a3.oneCell' = true) : ∀ w, (Instr.buildSlice 23 4 #[(0, a0), (1, a1), (2, a2), (3, a3)]).run Try.prog w = .ok (.slice (some ⟨w.heap.size, 0, none⟩) 4 4) (w.alloc (.cells #[a0, a1, a2, a3] 3)) := by
  intro w
  simp [Instr.buildSlice, Instr.fill, newRow, Try.zeroValue3, Try.runUnderlying23, Try.sizeOf3, cells_one ha0, cells_one ha1, cells_one ha2, cells_one ha3, cells_agg, cells_int, cells_bool, cells_str, cells_sl, Array.range_succ, range0]
theorem bs_23_5_0_0_0_0_0 (a0 a1 a2 a3 a4 : Value) (ha0 : a0.oneCell' = true) (ha1 : a1.oneCell' = true) (ha2 : a2.oneCell' = true) (ha3 : a3.oneCell' = true) (ha4 : a4.oneCell' = true) : ∀ w, (Instr.buildSlice 23 5 #[(0, a0), (1, a1), (2, a2), (3, a3), (4, a4)]).run Try.prog w = .ok (.slice (some ⟨w.heap.size, 0, none⟩) 5 5) (w.alloc (.cells #[a0, a1, a2, a3, a4] 3)) := by
  intro w
  simp [Instr.buildSlice, Instr.fill, newRow, Try.zeroValue3, Try.runUnderlying23, Try.sizeOf3, cells_one ha0, cells_one ha1, cells_one ha2, cells_one ha3, cells_one ha4, cells_agg, cells_int, cells_bool, cells_str, cells_sl, Array.range_succ, range0]
theorem bs_23_6_0_0_0_0_0_0 (a0 a1 a2 a3 a4 a5 : Value) (ha0 : a0.oneCell' = true) (ha1 : a1.oneCell' = true) (ha2 : a2.oneCell' = true) (ha3 : a3.oneCell' = true) (ha4 : a4.oneCell' = true) (ha5 : a5.oneCell' = true) : ∀ w, (Instr.buildSlice 23 6 #[(0, a0), (1, a1), (2, a2), (3, a3), (4, a4), (5, a5)]).run Try.prog w = .ok (.slice (some ⟨w.heap.size, 0, none⟩) 6 6) (w.alloc (.cells #[a0, a1, a2, a3, a4, a5] 3)) := by
  intro w
  simp [Instr.buildSlice, Instr.fill, newRow, Try.zeroValue3, Try.runUnderlying23, Try.sizeOf3, cells_one ha0, cells_one ha1, cells_one ha2, cells_one ha3, cells_one ha4, cells_one ha5, cells_agg, cells_int, cells_bool, cells_str, cells_sl, Array.range_succ, range0]
theorem bs_23_7_0_0_0_0_0_0_0 (a0 a1 a2 a3 a4 a5 a6 : Value) (ha0 : a0.oneCell' = true) (ha1 : a1.oneCell' = true) (ha2 : a2.oneCell' = true) (ha3 : a3.oneCell' = true) (ha4 : a4.oneCell' = true) (ha5 : a5.oneCell' = true) (ha6 : a6.oneCell' = true) : ∀ w, (Instr.buildSlice 23 7 #[(0, a0), (1, a1), (2, a2), (3, a3), (4, a4), (5, a5), (6, a6)]).run Try.prog w = .ok (.slice (some ⟨w.heap.size, 0, none⟩) 7 7) (w.alloc (.cells #[a0, a1, a2, a3, a4, a5, a6] 3)) := by
  intro w
  simp [Instr.buildSlice, Instr.fill, newRow, Try.zeroValue3, Try.runUnderlying23, Try.sizeOf3, cells_one ha0, cells_one ha1, cells_one ha2, cells_one ha3, cells_one ha4, cells_one ha5, cells_one ha6, cells_agg, cells_int, cells_bool, cells_str, cells_sl, Array.range_succ, range0]
theorem bs_24_0  : ∀ w, (Instr.buildSlice 24 0 #[]).run Try.prog w = .ok (.slice (some ⟨w.heap.size, 0, none⟩) 0 0) (w.alloc (.cells #[] 36)) := by
  intro w
  simp [Instr.buildSlice, Instr.fill, newRow, Try.runUnderlying24, Try.sizeOf36, cells_agg, cells_int, cells_bool, cells_str, cells_sl, Array.range_succ, range0]
theorem bs_24_1_5 (a0 a1 a2 a3 a4 : Value)  : ∀ w, (Instr.buildSlice 24 1 #[(0, .agg #[a0, a1, a2, a3, a4])]).run Try.prog w = .ok (.slice (some ⟨w.heap.size, 0, none⟩) 1 1) (w.alloc (.cells #[a0, a1, a2, a3, a4] 36)) := by
  intro w
  simp [Instr.buildSlice, Instr.fill, newRow, Try.zeroValue36, Try.runUnderlying24, Try.sizeOf36, cells_agg, cells_int, cells_bool, cells_str, cells_sl, Array.range_succ, range0]
theorem bs_24_3_5_5_5 (a0 a1 a2 a3 a4 a5 a6 a7 a8 a9 a10 a11 a12 a13 a14 : Value)  : ∀ w, (Instr.buildSlice 24 3 #[(0, .agg #[a0, a1, a2, a3, a4]), (1, .agg #[a5, a6, a7, a8, a9]), (2, .agg #[a10, a11, a12, a13, a14])]).run Try.prog w = .ok (.slice (some ⟨w.heap.size, 0, none⟩) 3 3) (w.alloc (.cells #[a0, a1, a2, a3, a4, a5, a6, a7, a8, a9, a10, a11, a12, a13, a14] 36)) := by
  intro w
  simp [Instr.buildSlice, Instr.fill, newRow, Try.zeroValue36, Try.runUnderlying24, Try.sizeOf36, cells_agg, cells_int, cells_bool, cells_str, cells_sl, Array.range_succ, range0]
theorem bs_34_1_0 (a0 : Value) (ha0 : a0.oneCell' = true) : ∀ w, (Instr.buildSlice 34 1 #[(0, a0)]).run Try.prog w = .ok (.slice (some ⟨w.heap.size, 0, none⟩) 1 1) (w.alloc (.cells #[a0] 23)) := by
  intro w
  simp [Instr.buildSlice, Instr.fill, newRow, Try.zeroValue23, Try.runUnderlying34, Try.sizeOf23, cells_one ha0, cells_agg, cells_int, cells_bool, cells_str, cells_sl, Array.range_succ, range0]
theorem bs_44_0  : ∀ w, (Instr.buildSlice 44 0 #[]).run Try.prog w = .ok (.slice (some ⟨w.heap.size, 0, none⟩) 0 0) (w.alloc (.cells #[] 4)) := by
  intro w
  simp [Instr.buildSlice, Instr.fill, newRow, Try.runUnderlying44, Try.sizeOf4, cells_agg, cells_int, cells_bool, cells_str, cells_sl, Array.range_succ, range0]
theorem bs_44_1_0 (a0 : Value) (ha0 : a0.oneCell' = true) : ∀ w, (Instr.buildSlice 44 1 #[(0, a0)]).run Try.prog w = .ok (.slice (some ⟨w.heap.size, 0, none⟩) 1 1) (w.alloc (.cells #[a0] 4)) := by
  intro w
  simp [Instr.buildSlice, Instr.fill, newRow, Try.zeroValue4, Try.runUnderlying44, Try.sizeOf4, cells_one ha0, cells_agg, cells_int, cells_bool, cells_str, cells_sl, Array.range_succ, range0]
theorem s_l17Open_c {code : List UInt8} {v0 : Value} {w : World} {B : Nat} (hB : B ≤ w.heap.size) (h0 : (RP.slice 5 RP.u8).rel B w.heap.size w [v0] code) {r : Rd} (hF : s_l17Open code = some r) :
    C Try.prog 46 #[v0] w fun v w' => (∃ (g : Nat) (u : Value), v = .pointer (some ⟨g, 0, none⟩) ∧ w.heap.size ≤ g ∧ Blk w' g 86 #[u, .int .i64 (r).p] ∧ (RP.slice 5 RP.u8).rel B w'.heap.size w' [u] (r).b) ∧ Ext w w' := by
  unfold s_l17Open at hF
  have hx := ext_refl w
  refine C_enter Try.func46 rfl Try.ntmps46 rfl ?_
  refine W_seq ?_
  refine W_region ?_
  refine L_as (v := .pointer none) rfl rfl ?_
  refine L_nil ?_
  refine W_seq ?_
  refine W_seq ?_
  refine W_region ?_
  refine L_mv (v := v0) rfl rfl ?_
  refine L_len (v := v0) rfl Try.underlying22 rfl h0 ?_
  refine L_gtr (m := (code.length : Int)) (n := 2000) rfl rfl rfl ?_
  refine L_nil ?_
  obtain ⟨code_1, hA2, hF⟩ := bind_some hF
  obtain ⟨R2, hR2⟩ : ∃ R : Fr → World → Prop, R = fun f w_ => ∃ v1_code : Value, f 0 = v1_code ∧ (RP.slice 5 RP.u8).rel B w.heap.size w_ [v1_code] code_1 ∧ Ext w w_ := ⟨_, rfl⟩
  refine W_join R2 ?_ ?_
  ·
    refine W_cond (b := decide ((code.length : Int) > 2000)) rfl (fun hc3 => ?_) (fun hc3 => ?_)
    ·
      have hA2 := (ite_t hc3).symm.trans hA2
      obtain ⟨x4, hx4, hA2⟩ := bind_some hA2
      refine W_region ?_
      refine L_mv (v := v0) rfl rfl ?_
      refine L_sl (a := 0) (b := 2000) rfl et_22 rfl h0 rfl rfl hx4 ?_
      intro v6 hs6
      refine L_as (v := v6) rfl rfl ?_
      refine L_nil ?_
      obtain rfl := so hA2
      show R2 _ _
      rw [hR2]
      exact ⟨v6, rfl, hs6, hx⟩
    ·
      have hA2 := (ite_f hc3).symm.trans hA2
      refine W_skip ?_
      obtain rfl := so hA2
      show R2 _ _
      rw [hR2]
      exact ⟨v0, rfl, h0, hx⟩
  ·
    intro f w_ hR
    rw [hR2] at hR
    obtain ⟨v1_code, sf0, hv1_code, hx⟩ := hR
    clear hR2
    refine W_seq ?_
    refine W_region ?_
    refine L_mv (v := v1_code) rfl sf0 ?_
    refine L_bld rfl (parts1 rfl) (bld_86_0 (v1_code) (one_of hv1_code)) ?_
    refine L_box (v := .agg #[v1_code, .int .i64 0]) (cs := #[v1_code, .int .i64 0]) rfl rfl rfl ?_
    intro g9 w10 hn10
    have hge_g9 := hn10.geS hx.size
    have hb_g9 := hn10.blk
    have hv1_code := RP.ext hv1_code hn10.ext
    have hx := ext_trans hx hn10.ext
    refine L_as (v := .pointer (some ⟨g9, 0, none⟩)) rfl rfl ?_
    refine L_nil ?_
    refine W_ret ?_
    obtain rfl := so hF
    refine ret1 Try.results46 ?_
    exact ⟨⟨_, _, rfl, hge_g9, hb_g9, (rel0 hv1_code)⟩, hx⟩

theorem s_l17Rd_pick_c {r_ : Rd} {n_ : Int} {g_r : Nat} {v_r : Value} {w : World} {B : Nat} (hB : B ≤ w.heap.size) (hb_g_r : Blk w g_r 86 #[v_r, .int .i64 r_.p]) (hrb : (RP.slice 5 RP.u8).rel B w.heap.size w [v_r] r_.b) (hrB : B ≤ g_r) {r : Int × Int} (hF : s_l17Rd_pick r_ n_ = some r) :
    C Try.prog 70 #[.pointer (some ⟨g_r, 0, none⟩), .int .i64 n_] w fun v w' => ((v = .int .i64 r.1) ∧ Blk w' g_r 86 #[v_r, .int .i64 r.2]) ∧ Mut g_r (some g_r) 86 w w' := by
  unfold s_l17Rd_pick at hF
  have hgl := hb_g_r.lt
  have hx := fr1_refl hb_g_r
  refine C_enter Try.func70 rfl Try.ntmps70 rfl ?_
  refine W_seq ?_
  refine W_region ?_
  refine L_as (v := .int .i64 0) rfl rfl ?_
  refine L_nil ?_
  refine W_seq ?_
  refine W_region ?_
  refine L_mv (v := .pointer (some ⟨g_r, 0, none⟩)) rfl rfl ?_
  refine L_mv (v := .pointer (some ⟨g_r, 0, none⟩)) rfl rfl ?_
  refine L_nc rfl rfl ?_
  refine L_fa (o' := 1) rfl fa_86_1 rfl rfl ?_
  refine L_ld (v := .int .i64 r_.p) rfl Try.isAgg3 rfl (hb_g_r.cell (j := 1) rfl) ?_
  refine L_add (m := r_.p) (n := 1) rfl rfl rfl ?_
  refine L_nc rfl rfl ?_
  refine L_fa (o' := 1) rfl fa_86_1 rfl rfl ?_
  refine L_st (v := .int .i64 (i64 (r_.p + 1))) rfl Try.sizeOf3 rfl rfl rfl hb_g_r rfl ?_
  intro w2 hp2
  have hrb := hp2.mu.rel hrb (by decide) hrB
  have hx := fr1_trans hx hp2.mu
  have hb_g_r : Blk w2 g_r 86 #[v_r, .int .i64 (i64 (r_.p + 1))] := hp2.blk
  refine L_nil ?_
  refine W_seq ?_
  refine W_seq ?_
  obtain ⟨R3, hR3⟩ : ∃ R : Fr → World → Prop, R = fun f w_ => f 0 = .pointer (some ⟨g_r, 0, none⟩) ∧ f 1 = .int .i64 n_ ∧ f 24 = .bool ((decide (n_ < 1)) || ((r_.b.length : Int) == 0)) ∧ (RP.slice 5 RP.u8).rel B w.heap.size w_ [v_r] r_.b ∧ Blk w_ g_r 86 #[v_r, .int .i64 (i64 (r_.p + 1))] ∧ Mut g_r (some g_r) 86 w w_ := ⟨_, rfl⟩
  refine W_join R3 ?_ ?_
  ·
    refine W_region ?_
    refine L_mv (v := .int .i64 n_) rfl rfl ?_
    refine L_lss (m := n_) (n := 1) rfl rfl rfl ?_
    refine L_mv (v := .bool (decide (n_ < 1))) rfl rfl ?_
    refine L_split (d := 17) (b := decide (n_ < 1)) rfl (fun hc4 => ?_) (fun hc4 => ?_)
    ·
      refine L_pass rfl ?_
      refine L_pass rfl ?_
      refine L_pass rfl ?_
      refine L_pass rfl ?_
      refine L_pass rfl ?_
      refine L_pass rfl ?_
      refine L_pick (v := .bool ((decide (n_ < 1)) || ((r_.b.length : Int) == 0))) rfl rfl (or_t hc4) ?_
      refine L_nil ?_
      show R3 _ _
      rw [hR3]
      exact ⟨rfl, rfl, rfl, hrb, hb_g_r, hx⟩
    ·
      refine L_mv (v := .pointer (some ⟨g_r, 0, none⟩)) rfl rfl ?_
      refine L_nc rfl rfl ?_
      refine L_fa (o' := 0) rfl fa_86_0 rfl rfl ?_
      refine L_ld (v := v_r) rfl Try.isAgg22 rfl (hb_g_r.cell (j := 0) rfl) ?_
      refine L_len (v := v_r) rfl Try.underlying22 rfl hrb ?_
      refine L_eql (m := (r_.b.length : Int)) (n := 0) rfl rfl rfl ?_
      refine L_pick (v := .bool ((decide (n_ < 1)) || ((r_.b.length : Int) == 0))) rfl rfl (or_f hc4 rfl) ?_
      refine L_nil ?_
      show R3 _ _
      rw [hR3]
      exact ⟨rfl, rfl, rfl, hrb, hb_g_r, hx⟩
  ·
    intro f w_ hR
    rw [hR3] at hR
    obtain ⟨sf0, sf1, sf24, hrb, hb_g_r, hx⟩ := hR
    clear hR3
    refine W_cond (b := ((decide (n_ < 1)) || ((r_.b.length : Int) == 0))) sf24 (fun hc5 => ?_) (fun hc5 => ?_)
    ·
      have hF := (ite_t hc5).symm.trans hF
      refine W_seq ?_
      refine W_region ?_
      refine L_as (v := .int .i64 0) rfl rfl ?_
      refine L_nil ?_
      refine W_ret ?_
      obtain rfl := so hF
      refine ret1 Try.results70 ?_
      exact ⟨⟨rfl, hb_g_r⟩, hx⟩
    ·
      have hF := (ite_f hc5).symm.trans hF
      refine W_skip ?_
      refine W_seq ?_
      refine W_region ?_
      refine L_mv (v := .pointer (some ⟨g_r, 0, none⟩)) rfl sf0 ?_
      refine L_nc rfl rfl ?_
      refine L_fa (o' := 1) rfl fa_86_1 rfl rfl ?_
      refine L_ld (v := .int .i64 (i64 (r_.p + 1))) rfl Try.isAgg3 rfl (hb_g_r.cell (j := 1) rfl) ?_
      refine L_sub (m := i64 (r_.p + 1)) (n := 1) rfl rfl rfl ?_
      refine L_as (v := .int .i64 (i64 ((i64 (r_.p + 1)) - 1))) rfl rfl ?_
      refine L_nil ?_
      refine W_seq ?_
      refine W_seq ?_
      refine W_region ?_
      refine L_mv (v := .int .i64 (i64 ((i64 (r_.p + 1)) - 1))) rfl rfl ?_
      refine L_mv (v := .pointer (some ⟨g_r, 0, none⟩)) rfl sf0 ?_
      refine L_nc rfl rfl ?_
      refine L_fa (o' := 0) rfl fa_86_0 rfl rfl ?_
      refine L_ld (v := v_r) rfl Try.isAgg22 rfl (hb_g_r.cell (j := 0) rfl) ?_
      refine L_len (v := v_r) rfl Try.underlying22 rfl hrb ?_
      refine L_lss (m := i64 ((i64 (r_.p + 1)) - 1)) (n := (r_.b.length : Int)) rfl rfl rfl ?_
      refine L_nil ?_
      refine W_cond (b := decide ((i64 ((i64 (r_.p + 1)) - 1)) < (r_.b.length : Int))) rfl (fun hc6 => ?_) (fun hc6 => ?_)
      ·
        have hF := (ite_t hc6).symm.trans hF
        refine W_seq ?_
        obtain ⟨x7, hx7, hF⟩ := bind_some hF
        obtain ⟨q10, hq10, hF⟩ := bind_some hF
        refine W_region ?_
        refine L_mv (v := .pointer (some ⟨g_r, 0, none⟩)) rfl sf0 ?_
        refine L_nc rfl rfl ?_
        refine L_fa (o' := 0) rfl fa_86_0 rfl rfl ?_
        refine L_ld (v := v_r) rfl Try.isAgg22 rfl (hb_g_r.cell (j := 0) rfl) ?_
        refine L_mv (v := .int .i64 (i64 ((i64 (r_.p + 1)) - 1))) rfl rfl ?_
        refine L_ix (r := RP.u8) rfl Try.underlying22 Try.sizeOf5 rfl hrb rfl hx7 ?_
        intro g11 o12 cs12 hr12 hat12
        obtain rfl : _ = [_] := hr12
        refine L_ld (v := .int .u8 (x7.toNat : Int)) rfl Try.isAgg5 rfl (hat12.cell (j := 0) rfl) ?_
        refine L_cv (n := (x7.toNat : Int)) rfl rfl ⟨_, Try.underlying5⟩ Try.underlying3 ?_
        refine L_mv (v := .int .i64 n_) rfl sf1 ?_
        refine L_rem (m := i64 (x7.toNat : Int)) (n := n_) rfl rfl rfl (fun he => by rw [if_pos he] at hq10; cases hq10) ?_
        refine L_as (v := .int .i64 (Int.tmod (i64 (x7.toNat : Int)) n_)) rfl rfl ?_
        refine L_nil ?_
        refine W_ret ?_
        obtain rfl := so hF
        refine ret1 Try.results70 ?_
        exact ⟨⟨rfl, hb_g_r⟩, hx⟩
      ·
        have hF := (ite_f hc6).symm.trans hF
        refine W_skip ?_
        refine W_seq ?_
        obtain ⟨q13, hq13, hF⟩ := bind_some hF
        obtain ⟨x14, hx14, hF⟩ := bind_some hF
        obtain ⟨q17, hq17, hF⟩ := bind_some hF
        obtain ⟨x18, hx18, hF⟩ := bind_some hF
        obtain ⟨q21, hq21, hF⟩ := bind_some hF
        refine W_drawL 44 [isV (.pointer (some ⟨g_r, 0, none⟩)), isV (.pointer (some ⟨g_r, 0, none⟩)), isV (.pointer (some ⟨g_r, 0, none⟩)), isV (v_r), isV (.int .i64 (i64 ((i64 (r_.p + 1)) - 1))), isV (.pointer (some ⟨g_r, 0, none⟩)), isV (.pointer (some ⟨g_r, 0, none⟩)), isV (.pointer (some ⟨g_r, 0, none⟩)), isV (v_r), isV (.int .i64 (r_.b.length : Int)), isV (.int .i64 (Int.tmod (i64 ((i64 (r_.p + 1)) - 1)) (r_.b.length : Int))), isEl B RP.u8 x14 0, isV (.int .u8 (x14.toNat : Int)), isV (.int .i64 (i64 (x14.toNat : Int))), isV (.int .i64 (i64 ((i64 (x14.toNat : Int)) * 131))), isV (.pointer (some ⟨g_r, 0, none⟩)), isV (.pointer (some ⟨g_r, 0, none⟩)), isV (.pointer (some ⟨g_r, 0, none⟩)), isV (v_r), isV (.int .i64 (i64 ((i64 (r_.p + 1)) - 1))), isV (.int .i64 (i64 ((i64 ((i64 (r_.p + 1)) - 1)) * 7))), isV (.int .i64 (i64 ((i64 ((i64 ((i64 (r_.p + 1)) - 1)) * 7)) + 3))), isV (.pointer (some ⟨g_r, 0, none⟩)), isV (.pointer (some ⟨g_r, 0, none⟩)), isV (.pointer (some ⟨g_r, 0, none⟩)), isV (v_r), isV (.int .i64 (r_.b.length : Int)), isV (.int .i64 (Int.tmod (i64 ((i64 ((i64 ((i64 (r_.p + 1)) - 1)) * 7)) + 3)) (r_.b.length : Int))), isEl B RP.u8 x18 0, isV (.int .u8 (x18.toNat : Int)), isV (.int .i64 (i64 (x18.toNat : Int))), isV (.int .i64 (i64 ((i64 (x18.toNat : Int)) * 1117))), isV (.int .i64 (i64 ((i64 ((i64 (x14.toNat : Int)) * 131)) + (i64 ((i64 (x18.toNat : Int)) * 1117))))), isV (.int .i64 (i64 ((i64 (r_.p + 1)) - 1))), isV (.int .i64 (i64 ((i64 ((i64 (r_.p + 1)) - 1)) * 29))), isV (.int .i64 (i64 ((i64 ((i64 ((i64 (x14.toNat : Int)) * 131)) + (i64 ((i64 (x18.toNat : Int)) * 1117)))) + (i64 ((i64 ((i64 (r_.p + 1)) - 1)) * 29))))), isV (.int .i64 (i64 ((i64 (r_.p + 1)) - 1))), isV (.pointer (some ⟨g_r, 0, none⟩)), isV (.pointer (some ⟨g_r, 0, none⟩)), isV (.pointer (some ⟨g_r, 0, none⟩)), isV (v_r), isV (.int .i64 (r_.b.length : Int)), isV (.int .i64 (i64 (Int.tdiv (i64 ((i64 (r_.p + 1)) - 1)) (r_.b.length : Int)))), isV (.int .i64 (i64 ((i64 (Int.tdiv (i64 ((i64 (r_.p + 1)) - 1)) (r_.b.length : Int))) * 53)))] Try_mix (by kernel_rfl) (am_cons (mono_V _) (am_cons (mono_V _) (am_cons (mono_V _) (am_cons (mono_V _) (am_cons (mono_V _) (am_cons (mono_V _) (am_cons (mono_V _) (am_cons (mono_V _) (am_cons (mono_V _) (am_cons (mono_V _) (am_cons (mono_V _) (am_cons (mono_el _ _ _ _) (am_cons (mono_V _) (am_cons (mono_V _) (am_cons (mono_V _) (am_cons (mono_V _) (am_cons (mono_V _) (am_cons (mono_V _) (am_cons (mono_V _) (am_cons (mono_V _) (am_cons (mono_V _) (am_cons (mono_V _) (am_cons (mono_V _) (am_cons (mono_V _) (am_cons (mono_V _) (am_cons (mono_V _) (am_cons (mono_V _) (am_cons (mono_V _) (am_cons (mono_el _ _ _ _) (am_cons (mono_V _) (am_cons (mono_V _) (am_cons (mono_V _) (am_cons (mono_V _) (am_cons (mono_V _) (am_cons (mono_V _) (am_cons (mono_V _) (am_cons (mono_V _) (am_cons (mono_V _) (am_cons (mono_V _) (am_cons (mono_V _) (am_cons (mono_V _) (am_cons (mono_V _) (am_cons (mono_V _) (am_cons (mono_V _) am_nil)))))))))))))))))))))))))))))))))))))))))))) ?_ (fun f w_ hS22 hE22 hT22 => ?_)
        ·
          refine ops_cons (fun f w_ hS22 hE22 hP22 => ?_) ?_
          ·
            have hx := fr1_ext hx hE22 hgl
            have hrb := RP.ext hrb hE22
            have hb_g_r := Blk.ext hb_g_r hE22
            refine L_mv (v := .pointer (some ⟨g_r, 0, none⟩)) rfl ((hS22 0 rfl).trans sf0) ?_
            exact L_nil ⟨rfl, (ext_refl _), _, _, rfl, rfl, rfl⟩
          refine ops_cons (fun f w_ hS22 hE22 hP22 => ?_) ?_
          ·
            have hx := fr1_ext hx hE22 hgl
            have hrb := RP.ext hrb hE22
            have hb_g_r := Blk.ext hb_g_r hE22
            refine L_nc rfl (hP22 0 47 rfl rfl) ?_
            exact L_nil ⟨rfl, (ext_refl _), _, _, rfl, rfl, rfl⟩
          refine ops_cons (fun f w_ hS22 hE22 hP22 => ?_) ?_
          ·
            have hx := fr1_ext hx hE22 hgl
            have hrb := RP.ext hrb hE22
            have hb_g_r := Blk.ext hb_g_r hE22
            refine L_fa (o' := 0) rfl fa_86_0 (hP22 1 48 rfl rfl) rfl ?_
            exact L_nil ⟨rfl, (ext_refl _), _, _, rfl, rfl, rfl⟩
          refine ops_cons (fun f w_ hS22 hE22 hP22 => ?_) ?_
          ·
            have hx := fr1_ext hx hE22 hgl
            have hrb := RP.ext hrb hE22
            have hb_g_r := Blk.ext hb_g_r hE22
            refine L_ld (v := v_r) rfl Try.isAgg22 (hP22 2 49 rfl rfl) (hb_g_r.cell (j := 0) rfl) ?_
            exact L_nil ⟨rfl, (ext_refl _), _, _, rfl, rfl, rfl⟩
          refine ops_cons (fun f w_ hS22 hE22 hP22 => ?_) ?_
          ·
            have hx := fr1_ext hx hE22 hgl
            refine L_mv (v := .int .i64 (i64 ((i64 (r_.p + 1)) - 1))) rfl ((hS22 5 rfl).trans rfl) ?_
            exact L_nil ⟨rfl, (ext_refl _), _, _, rfl, rfl, rfl⟩
          refine ops_cons (fun f w_ hS22 hE22 hP22 => ?_) ?_
          ·
            have hx := fr1_ext hx hE22 hgl
            have hrb := RP.ext hrb hE22
            have hb_g_r := Blk.ext hb_g_r hE22
            refine L_mv (v := .pointer (some ⟨g_r, 0, none⟩)) rfl ((hS22 0 rfl).trans sf0) ?_
            exact L_nil ⟨rfl, (ext_refl _), _, _, rfl, rfl, rfl⟩
          refine ops_cons (fun f w_ hS22 hE22 hP22 => ?_) ?_
          ·
            have hx := fr1_ext hx hE22 hgl
            have hrb := RP.ext hrb hE22
            have hb_g_r := Blk.ext hb_g_r hE22
            refine L_nc rfl (hP22 5 52 rfl rfl) ?_
            exact L_nil ⟨rfl, (ext_refl _), _, _, rfl, rfl, rfl⟩
          refine ops_cons (fun f w_ hS22 hE22 hP22 => ?_) ?_
          ·
            have hx := fr1_ext hx hE22 hgl
            have hrb := RP.ext hrb hE22
            have hb_g_r := Blk.ext hb_g_r hE22
            refine L_fa (o' := 0) rfl fa_86_0 (hP22 6 53 rfl rfl) rfl ?_
            exact L_nil ⟨rfl, (ext_refl _), _, _, rfl, rfl, rfl⟩
          refine ops_cons (fun f w_ hS22 hE22 hP22 => ?_) ?_
          ·
            have hx := fr1_ext hx hE22 hgl
            have hrb := RP.ext hrb hE22
            have hb_g_r := Blk.ext hb_g_r hE22
            refine L_ld (v := v_r) rfl Try.isAgg22 (hP22 7 54 rfl rfl) (hb_g_r.cell (j := 0) rfl) ?_
            exact L_nil ⟨rfl, (ext_refl _), _, _, rfl, rfl, rfl⟩
          refine ops_cons (fun f w_ hS22 hE22 hP22 => ?_) ?_
          ·
            have hx := fr1_ext hx hE22 hgl
            have hrb := RP.ext hrb hE22
            refine L_len (v := v_r) rfl Try.underlying22 (hP22 8 55 rfl rfl) hrb ?_
            exact L_nil ⟨rfl, (ext_refl _), _, _, rfl, rfl, rfl⟩
          refine ops_cons (fun f w_ hS22 hE22 hP22 => ?_) ?_
          ·
            have hx := fr1_ext hx hE22 hgl
            refine L_rem (m := i64 ((i64 (r_.p + 1)) - 1)) (n := (r_.b.length : Int)) rfl (hP22 4 51 rfl rfl) (hP22 9 56 rfl rfl) (fun he => by rw [if_pos he] at hq13; cases hq13) ?_
            exact L_nil ⟨rfl, (ext_refl _), _, _, rfl, rfl, rfl⟩
          refine ops_cons (fun f w_ hS22 hE22 hP22 => ?_) ?_
          ·
            have hx := fr1_ext hx hE22 hgl
            have hrb := RP.ext hrb hE22
            refine L_ix (r := RP.u8) rfl Try.underlying22 Try.sizeOf5 (hP22 3 50 rfl rfl) hrb (hP22 10 57 rfl rfl) hx14 ?_
            intro g27 o28 cs28 hr28 hat28
            obtain rfl : _ = [_] := hr28
            exact L_nil ⟨rfl, (ext_refl _), _, _, rfl, rfl, ⟨_, _, _, rfl, rfl, hat28⟩⟩
          refine ops_cons (fun f w_ hS22 hE22 hP22 => ?_) ?_
          ·
            have hx := fr1_ext hx hE22 hgl
            obtain ⟨g29, o29, cs29, hv29, hr29, hat29⟩ := (hP22 11 58 rfl rfl)
            obtain rfl : _ = [_] := hr29
            refine L_ld (v := .int .u8 (x14.toNat : Int)) rfl Try.isAgg5 hv29 (hat29.cell (j := 0) rfl) ?_
            exact L_nil ⟨rfl, (ext_refl _), _, _, rfl, rfl, rfl⟩
          refine ops_cons (fun f w_ hS22 hE22 hP22 => ?_) ?_
          ·
            have hx := fr1_ext hx hE22 hgl
            refine L_cv (n := (x14.toNat : Int)) rfl (hP22 12 59 rfl rfl) ⟨_, Try.underlying5⟩ Try.underlying3 ?_
            exact L_nil ⟨rfl, (ext_refl _), _, _, rfl, rfl, rfl⟩
          refine ops_cons (fun f w_ hS22 hE22 hP22 => ?_) ?_
          ·
            have hx := fr1_ext hx hE22 hgl
            refine L_mul (m := i64 (x14.toNat : Int)) (n := 131) rfl (hP22 13 60 rfl rfl) rfl ?_
            exact L_nil ⟨rfl, (ext_refl _), _, _, rfl, rfl, rfl⟩
          refine ops_cons (fun f w_ hS22 hE22 hP22 => ?_) ?_
          ·
            have hx := fr1_ext hx hE22 hgl
            have hrb := RP.ext hrb hE22
            have hb_g_r := Blk.ext hb_g_r hE22
            refine L_mv (v := .pointer (some ⟨g_r, 0, none⟩)) rfl ((hS22 0 rfl).trans sf0) ?_
            exact L_nil ⟨rfl, (ext_refl _), _, _, rfl, rfl, rfl⟩
          refine ops_cons (fun f w_ hS22 hE22 hP22 => ?_) ?_
          ·
            have hx := fr1_ext hx hE22 hgl
            have hrb := RP.ext hrb hE22
            have hb_g_r := Blk.ext hb_g_r hE22
            refine L_nc rfl (hP22 15 62 rfl rfl) ?_
            exact L_nil ⟨rfl, (ext_refl _), _, _, rfl, rfl, rfl⟩
          refine ops_cons (fun f w_ hS22 hE22 hP22 => ?_) ?_
          ·
            have hx := fr1_ext hx hE22 hgl
            have hrb := RP.ext hrb hE22
            have hb_g_r := Blk.ext hb_g_r hE22
            refine L_fa (o' := 0) rfl fa_86_0 (hP22 16 63 rfl rfl) rfl ?_
            exact L_nil ⟨rfl, (ext_refl _), _, _, rfl, rfl, rfl⟩
          refine ops_cons (fun f w_ hS22 hE22 hP22 => ?_) ?_
          ·
            have hx := fr1_ext hx hE22 hgl
            have hrb := RP.ext hrb hE22
            have hb_g_r := Blk.ext hb_g_r hE22
            refine L_ld (v := v_r) rfl Try.isAgg22 (hP22 17 64 rfl rfl) (hb_g_r.cell (j := 0) rfl) ?_
            exact L_nil ⟨rfl, (ext_refl _), _, _, rfl, rfl, rfl⟩
          refine ops_cons (fun f w_ hS22 hE22 hP22 => ?_) ?_
          ·
            have hx := fr1_ext hx hE22 hgl
            refine L_mv (v := .int .i64 (i64 ((i64 (r_.p + 1)) - 1))) rfl ((hS22 5 rfl).trans rfl) ?_
            exact L_nil ⟨rfl, (ext_refl _), _, _, rfl, rfl, rfl⟩
          refine ops_cons (fun f w_ hS22 hE22 hP22 => ?_) ?_
          ·
            have hx := fr1_ext hx hE22 hgl
            refine L_mul (m := i64 ((i64 (r_.p + 1)) - 1)) (n := 7) rfl (hP22 19 66 rfl rfl) rfl ?_
            exact L_nil ⟨rfl, (ext_refl _), _, _, rfl, rfl, rfl⟩
          refine ops_cons (fun f w_ hS22 hE22 hP22 => ?_) ?_
          ·
            have hx := fr1_ext hx hE22 hgl
            refine L_add (m := i64 ((i64 ((i64 (r_.p + 1)) - 1)) * 7)) (n := 3) rfl (hP22 20 67 rfl rfl) rfl ?_
            exact L_nil ⟨rfl, (ext_refl _), _, _, rfl, rfl, rfl⟩
          refine ops_cons (fun f w_ hS22 hE22 hP22 => ?_) ?_
          ·
            have hx := fr1_ext hx hE22 hgl
            have hrb := RP.ext hrb hE22
            have hb_g_r := Blk.ext hb_g_r hE22
            refine L_mv (v := .pointer (some ⟨g_r, 0, none⟩)) rfl ((hS22 0 rfl).trans sf0) ?_
            exact L_nil ⟨rfl, (ext_refl _), _, _, rfl, rfl, rfl⟩
          refine ops_cons (fun f w_ hS22 hE22 hP22 => ?_) ?_
          ·
            have hx := fr1_ext hx hE22 hgl
            have hrb := RP.ext hrb hE22
            have hb_g_r := Blk.ext hb_g_r hE22
            refine L_nc rfl (hP22 22 69 rfl rfl) ?_
            exact L_nil ⟨rfl, (ext_refl _), _, _, rfl, rfl, rfl⟩
          refine ops_cons (fun f w_ hS22 hE22 hP22 => ?_) ?_
          ·
            have hx := fr1_ext hx hE22 hgl
            have hrb := RP.ext hrb hE22
            have hb_g_r := Blk.ext hb_g_r hE22
            refine L_fa (o' := 0) rfl fa_86_0 (hP22 23 70 rfl rfl) rfl ?_
            exact L_nil ⟨rfl, (ext_refl _), _, _, rfl, rfl, rfl⟩
          refine ops_cons (fun f w_ hS22 hE22 hP22 => ?_) ?_
          ·
            have hx := fr1_ext hx hE22 hgl
            have hrb := RP.ext hrb hE22
            have hb_g_r := Blk.ext hb_g_r hE22
            refine L_ld (v := v_r) rfl Try.isAgg22 (hP22 24 71 rfl rfl) (hb_g_r.cell (j := 0) rfl) ?_
            exact L_nil ⟨rfl, (ext_refl _), _, _, rfl, rfl, rfl⟩
          refine ops_cons (fun f w_ hS22 hE22 hP22 => ?_) ?_
          ·
            have hx := fr1_ext hx hE22 hgl
            have hrb := RP.ext hrb hE22
            refine L_len (v := v_r) rfl Try.underlying22 (hP22 25 72 rfl rfl) hrb ?_
            exact L_nil ⟨rfl, (ext_refl _), _, _, rfl, rfl, rfl⟩
          refine ops_cons (fun f w_ hS22 hE22 hP22 => ?_) ?_
          ·
            have hx := fr1_ext hx hE22 hgl
            refine L_rem (m := i64 ((i64 ((i64 ((i64 (r_.p + 1)) - 1)) * 7)) + 3)) (n := (r_.b.length : Int)) rfl (hP22 21 68 rfl rfl) (hP22 26 73 rfl rfl) (fun he => by rw [if_pos he] at hq17; cases hq17) ?_
            exact L_nil ⟨rfl, (ext_refl _), _, _, rfl, rfl, rfl⟩
          refine ops_cons (fun f w_ hS22 hE22 hP22 => ?_) ?_
          ·
            have hx := fr1_ext hx hE22 hgl
            have hrb := RP.ext hrb hE22
            refine L_ix (r := RP.u8) rfl Try.underlying22 Try.sizeOf5 (hP22 18 65 rfl rfl) hrb (hP22 27 74 rfl rfl) hx18 ?_
            intro g30 o31 cs31 hr31 hat31
            obtain rfl : _ = [_] := hr31
            exact L_nil ⟨rfl, (ext_refl _), _, _, rfl, rfl, ⟨_, _, _, rfl, rfl, hat31⟩⟩
          refine ops_cons (fun f w_ hS22 hE22 hP22 => ?_) ?_
          ·
            have hx := fr1_ext hx hE22 hgl
            obtain ⟨g32, o32, cs32, hv32, hr32, hat32⟩ := (hP22 28 75 rfl rfl)
            obtain rfl : _ = [_] := hr32
            refine L_ld (v := .int .u8 (x18.toNat : Int)) rfl Try.isAgg5 hv32 (hat32.cell (j := 0) rfl) ?_
            exact L_nil ⟨rfl, (ext_refl _), _, _, rfl, rfl, rfl⟩
          refine ops_cons (fun f w_ hS22 hE22 hP22 => ?_) ?_
          ·
            have hx := fr1_ext hx hE22 hgl
            refine L_cv (n := (x18.toNat : Int)) rfl (hP22 29 76 rfl rfl) ⟨_, Try.underlying5⟩ Try.underlying3 ?_
            exact L_nil ⟨rfl, (ext_refl _), _, _, rfl, rfl, rfl⟩
          refine ops_cons (fun f w_ hS22 hE22 hP22 => ?_) ?_
          ·
            have hx := fr1_ext hx hE22 hgl
            refine L_mul (m := i64 (x18.toNat : Int)) (n := 1117) rfl (hP22 30 77 rfl rfl) rfl ?_
            exact L_nil ⟨rfl, (ext_refl _), _, _, rfl, rfl, rfl⟩
          refine ops_cons (fun f w_ hS22 hE22 hP22 => ?_) ?_
          ·
            have hx := fr1_ext hx hE22 hgl
            refine L_add (m := i64 ((i64 (x14.toNat : Int)) * 131)) (n := i64 ((i64 (x18.toNat : Int)) * 1117)) rfl (hP22 14 61 rfl rfl) (hP22 31 78 rfl rfl) ?_
            exact L_nil ⟨rfl, (ext_refl _), _, _, rfl, rfl, rfl⟩
          refine ops_cons (fun f w_ hS22 hE22 hP22 => ?_) ?_
          ·
            have hx := fr1_ext hx hE22 hgl
            refine L_mv (v := .int .i64 (i64 ((i64 (r_.p + 1)) - 1))) rfl ((hS22 5 rfl).trans rfl) ?_
            exact L_nil ⟨rfl, (ext_refl _), _, _, rfl, rfl, rfl⟩
          refine ops_cons (fun f w_ hS22 hE22 hP22 => ?_) ?_
          ·
            have hx := fr1_ext hx hE22 hgl
            refine L_mul (m := i64 ((i64 (r_.p + 1)) - 1)) (n := 29) rfl (hP22 33 80 rfl rfl) rfl ?_
            exact L_nil ⟨rfl, (ext_refl _), _, _, rfl, rfl, rfl⟩
          refine ops_cons (fun f w_ hS22 hE22 hP22 => ?_) ?_
          ·
            have hx := fr1_ext hx hE22 hgl
            refine L_add (m := i64 ((i64 ((i64 (x14.toNat : Int)) * 131)) + (i64 ((i64 (x18.toNat : Int)) * 1117)))) (n := i64 ((i64 ((i64 (r_.p + 1)) - 1)) * 29)) rfl (hP22 32 79 rfl rfl) (hP22 34 81 rfl rfl) ?_
            exact L_nil ⟨rfl, (ext_refl _), _, _, rfl, rfl, rfl⟩
          refine ops_cons (fun f w_ hS22 hE22 hP22 => ?_) ?_
          ·
            have hx := fr1_ext hx hE22 hgl
            refine L_mv (v := .int .i64 (i64 ((i64 (r_.p + 1)) - 1))) rfl ((hS22 5 rfl).trans rfl) ?_
            exact L_nil ⟨rfl, (ext_refl _), _, _, rfl, rfl, rfl⟩
          refine ops_cons (fun f w_ hS22 hE22 hP22 => ?_) ?_
          ·
            have hx := fr1_ext hx hE22 hgl
            have hrb := RP.ext hrb hE22
            have hb_g_r := Blk.ext hb_g_r hE22
            refine L_mv (v := .pointer (some ⟨g_r, 0, none⟩)) rfl ((hS22 0 rfl).trans sf0) ?_
            exact L_nil ⟨rfl, (ext_refl _), _, _, rfl, rfl, rfl⟩
          refine ops_cons (fun f w_ hS22 hE22 hP22 => ?_) ?_
          ·
            have hx := fr1_ext hx hE22 hgl
            have hrb := RP.ext hrb hE22
            have hb_g_r := Blk.ext hb_g_r hE22
            refine L_nc rfl (hP22 37 84 rfl rfl) ?_
            exact L_nil ⟨rfl, (ext_refl _), _, _, rfl, rfl, rfl⟩
          refine ops_cons (fun f w_ hS22 hE22 hP22 => ?_) ?_
          ·
            have hx := fr1_ext hx hE22 hgl
            have hrb := RP.ext hrb hE22
            have hb_g_r := Blk.ext hb_g_r hE22
            refine L_fa (o' := 0) rfl fa_86_0 (hP22 38 85 rfl rfl) rfl ?_
            exact L_nil ⟨rfl, (ext_refl _), _, _, rfl, rfl, rfl⟩
          refine ops_cons (fun f w_ hS22 hE22 hP22 => ?_) ?_
          ·
            have hx := fr1_ext hx hE22 hgl
            have hrb := RP.ext hrb hE22
            have hb_g_r := Blk.ext hb_g_r hE22
            refine L_ld (v := v_r) rfl Try.isAgg22 (hP22 39 86 rfl rfl) (hb_g_r.cell (j := 0) rfl) ?_
            exact L_nil ⟨rfl, (ext_refl _), _, _, rfl, rfl, rfl⟩
          refine ops_cons (fun f w_ hS22 hE22 hP22 => ?_) ?_
          ·
            have hx := fr1_ext hx hE22 hgl
            have hrb := RP.ext hrb hE22
            refine L_len (v := v_r) rfl Try.underlying22 (hP22 40 87 rfl rfl) hrb ?_
            exact L_nil ⟨rfl, (ext_refl _), _, _, rfl, rfl, rfl⟩
          refine ops_cons (fun f w_ hS22 hE22 hP22 => ?_) ?_
          ·
            have hx := fr1_ext hx hE22 hgl
            refine L_quo (m := i64 ((i64 (r_.p + 1)) - 1)) (n := (r_.b.length : Int)) rfl (hP22 36 83 rfl rfl) (hP22 41 88 rfl rfl) (fun he => by rw [if_pos he] at hq21; cases hq21) ?_
            exact L_nil ⟨rfl, (ext_refl _), _, _, rfl, rfl, rfl⟩
          refine ops_cons (fun f w_ hS22 hE22 hP22 => ?_) ?_
          ·
            have hx := fr1_ext hx hE22 hgl
            refine L_mul (m := i64 (Int.tdiv (i64 ((i64 (r_.p + 1)) - 1)) (r_.b.length : Int))) (n := 53) rfl (hP22 42 89 rfl rfl) rfl ?_
            exact L_nil ⟨rfl, (ext_refl _), _, _, rfl, rfl, rfl⟩
          exact ops_nil
        ·
          have hrb := RP.ext hrb hE22
          have hb_g_r := Blk.ext hb_g_r hE22
          have hx := fr1_ext hx hE22 hgl
          refine L_add (m := i64 ((i64 ((i64 ((i64 (x14.toNat : Int)) * 131)) + (i64 ((i64 (x18.toNat : Int)) * 1117)))) + (i64 ((i64 ((i64 (r_.p + 1)) - 1)) * 29)))) (n := i64 ((i64 (Int.tdiv (i64 ((i64 (r_.p + 1)) - 1)) (r_.b.length : Int))) * 53)) rfl (hT22 35 82 rfl rfl) (hT22 43 90 rfl rfl) ?_
          refine L_as (v := .int .i64 (i64 ((i64 ((i64 ((i64 ((i64 (x14.toNat : Int)) * 131)) + (i64 ((i64 (x18.toNat : Int)) * 1117)))) + (i64 ((i64 ((i64 (r_.p + 1)) - 1)) * 29)))) + (i64 ((i64 (Int.tdiv (i64 ((i64 (r_.p + 1)) - 1)) (r_.b.length : Int))) * 53))))) rfl rfl ?_
          refine L_nil ?_
          refine W_seq ?_
          refine W_region ?_
          refine L_mv (v := .int .i64 (i64 ((i64 ((i64 ((i64 ((i64 (x14.toNat : Int)) * 131)) + (i64 ((i64 (x18.toNat : Int)) * 1117)))) + (i64 ((i64 ((i64 (r_.p + 1)) - 1)) * 29)))) + (i64 ((i64 (Int.tdiv (i64 ((i64 (r_.p + 1)) - 1)) (r_.b.length : Int))) * 53))))) rfl rfl ?_
          refine L_mv (v := .int .i64 (i64 ((i64 ((i64 ((i64 ((i64 (x14.toNat : Int)) * 131)) + (i64 ((i64 (x18.toNat : Int)) * 1117)))) + (i64 ((i64 ((i64 (r_.p + 1)) - 1)) * 29)))) + (i64 ((i64 (Int.tdiv (i64 ((i64 (r_.p + 1)) - 1)) (r_.b.length : Int))) * 53))))) rfl rfl ?_
          refine L_quo (m := i64 ((i64 ((i64 ((i64 ((i64 (x14.toNat : Int)) * 131)) + (i64 ((i64 (x18.toNat : Int)) * 1117)))) + (i64 ((i64 ((i64 (r_.p + 1)) - 1)) * 29)))) + (i64 ((i64 (Int.tdiv (i64 ((i64 (r_.p + 1)) - 1)) (r_.b.length : Int))) * 53)))) (n := 64) rfl rfl rfl (by decide) ?_
          refine L_xor (m := i64 ((i64 ((i64 ((i64 ((i64 (x14.toNat : Int)) * 131)) + (i64 ((i64 (x18.toNat : Int)) * 1117)))) + (i64 ((i64 ((i64 (r_.p + 1)) - 1)) * 29)))) + (i64 ((i64 (Int.tdiv (i64 ((i64 (r_.p + 1)) - 1)) (r_.b.length : Int))) * 53)))) (n := i64 (Int.tdiv (i64 ((i64 ((i64 ((i64 ((i64 (x14.toNat : Int)) * 131)) + (i64 ((i64 (x18.toNat : Int)) * 1117)))) + (i64 ((i64 ((i64 (r_.p + 1)) - 1)) * 29)))) + (i64 ((i64 (Int.tdiv (i64 ((i64 (r_.p + 1)) - 1)) (r_.b.length : Int))) * 53)))) 64)) rfl rfl rfl ?_
          refine L_as (v := .int .i64 (xorI .i64 (i64 ((i64 ((i64 ((i64 ((i64 (x14.toNat : Int)) * 131)) + (i64 ((i64 (x18.toNat : Int)) * 1117)))) + (i64 ((i64 ((i64 (r_.p + 1)) - 1)) * 29)))) + (i64 ((i64 (Int.tdiv (i64 ((i64 (r_.p + 1)) - 1)) (r_.b.length : Int))) * 53)))) (i64 (Int.tdiv (i64 ((i64 ((i64 ((i64 ((i64 (x14.toNat : Int)) * 131)) + (i64 ((i64 (x18.toNat : Int)) * 1117)))) + (i64 ((i64 ((i64 (r_.p + 1)) - 1)) * 29)))) + (i64 ((i64 (Int.tdiv (i64 ((i64 (r_.p + 1)) - 1)) (r_.b.length : Int))) * 53)))) 64)))) rfl rfl ?_
          refine L_nil ?_
          refine W_seq ?_
          obtain ⟨q33, hq33, hF⟩ := bind_some hF
          refine W_region ?_
          refine L_mv (v := .int .i64 (xorI .i64 (i64 ((i64 ((i64 ((i64 ((i64 (x14.toNat : Int)) * 131)) + (i64 ((i64 (x18.toNat : Int)) * 1117)))) + (i64 ((i64 ((i64 (r_.p + 1)) - 1)) * 29)))) + (i64 ((i64 (Int.tdiv (i64 ((i64 (r_.p + 1)) - 1)) (r_.b.length : Int))) * 53)))) (i64 (Int.tdiv (i64 ((i64 ((i64 ((i64 ((i64 (x14.toNat : Int)) * 131)) + (i64 ((i64 (x18.toNat : Int)) * 1117)))) + (i64 ((i64 ((i64 (r_.p + 1)) - 1)) * 29)))) + (i64 ((i64 (Int.tdiv (i64 ((i64 (r_.p + 1)) - 1)) (r_.b.length : Int))) * 53)))) 64)))) rfl rfl ?_
          refine L_mv (v := .int .i64 n_) rfl ((hS22 1 rfl).trans sf1) ?_
          refine L_rem (m := (xorI .i64 (i64 ((i64 ((i64 ((i64 ((i64 (x14.toNat : Int)) * 131)) + (i64 ((i64 (x18.toNat : Int)) * 1117)))) + (i64 ((i64 ((i64 (r_.p + 1)) - 1)) * 29)))) + (i64 ((i64 (Int.tdiv (i64 ((i64 (r_.p + 1)) - 1)) (r_.b.length : Int))) * 53)))) (i64 (Int.tdiv (i64 ((i64 ((i64 ((i64 ((i64 (x14.toNat : Int)) * 131)) + (i64 ((i64 (x18.toNat : Int)) * 1117)))) + (i64 ((i64 ((i64 (r_.p + 1)) - 1)) * 29)))) + (i64 ((i64 (Int.tdiv (i64 ((i64 (r_.p + 1)) - 1)) (r_.b.length : Int))) * 53)))) 64)))) (n := n_) rfl rfl rfl (fun he => by rw [if_pos he] at hq33; cases hq33) ?_
          refine L_as (v := .int .i64 (Int.tmod (xorI .i64 (i64 ((i64 ((i64 ((i64 ((i64 (x14.toNat : Int)) * 131)) + (i64 ((i64 (x18.toNat : Int)) * 1117)))) + (i64 ((i64 ((i64 (r_.p + 1)) - 1)) * 29)))) + (i64 ((i64 (Int.tdiv (i64 ((i64 (r_.p + 1)) - 1)) (r_.b.length : Int))) * 53)))) (i64 (Int.tdiv (i64 ((i64 ((i64 ((i64 ((i64 (x14.toNat : Int)) * 131)) + (i64 ((i64 (x18.toNat : Int)) * 1117)))) + (i64 ((i64 ((i64 (r_.p + 1)) - 1)) * 29)))) + (i64 ((i64 (Int.tdiv (i64 ((i64 (r_.p + 1)) - 1)) (r_.b.length : Int))) * 53)))) 64))) n_)) rfl rfl ?_
          refine L_nil ?_
          refine W_ret ?_
          obtain rfl := so hF
          refine ret1 Try.results70 ?_
          exact ⟨⟨rfl, hb_g_r⟩, hx⟩

theorem s_l17Rd_num_c {r_ : Rd} {list : List Int} {g_r : Nat} {v_r : Value} {v1 : Value} {w : World} {B : Nat} (hB : B ≤ w.heap.size) (hb_g_r : Blk w g_r 86 #[v_r, .int .i64 r_.p]) (hrb : (RP.slice 5 RP.u8).rel B w.heap.size w [v_r] r_.b) (hrB : B ≤ g_r) (h1 : (RP.slice 3 RP.int).rel B w.heap.size w [v1] list) {r : Int × Int} (hF : s_l17Rd_num r_ list = some r) :
    C Try.prog 49 #[.pointer (some ⟨g_r, 0, none⟩), v1] w fun v w' => ((v = .int .i64 r.1) ∧ Blk w' g_r 86 #[v_r, .int .i64 r.2]) ∧ Mut g_r (some g_r) 86 w w' := by
  unfold s_l17Rd_num at hF
  have hgl := hb_g_r.lt
  have hx := fr1_refl hb_g_r
  refine C_enter Try.func49 rfl Try.ntmps49 rfl ?_
  refine W_seq ?_
  refine W_region ?_
  refine L_as (v := .int .i64 0) rfl rfl ?_
  refine L_nil ?_
  refine W_seq ?_
  obtain ⟨x1, hx1, hF⟩ := bind_some hF
  obtain ⟨x3, hx3, hF⟩ := bind_some hF
  refine W_region ?_
  refine L_mv (v := v1) rfl rfl ?_
  refine L_mv (v := .pointer (some ⟨g_r, 0, none⟩)) rfl rfl ?_
  refine L_mv (v := v1) rfl rfl ?_
  refine L_len (v := v1) rfl Try.underlying23 rfl h1 ?_
  refine L_call (args := #[.pointer (some ⟨g_r, 0, none⟩), .int .i64 (list.length : Int)]) rfl Try.call70 (ops2 rfl rfl) (s_l17Rd_pick_c (r_ := r_) (n_ := (list.length : Int)) (Nat.le_trans hB hx.size) hb_g_r (rel0 hrb) hrB hx1) ?_
  rintro _ w6 ⟨⟨rfl, hbn6⟩, he6⟩
  have hrb := he6.rel hrb (by decide) hrB
  have h1 := he6.rel h1 (by decide) hrB
  have hx := fr1_trans hx he6
  have hb_g_r := hbn6
  refine L_ix (r := RP.int) rfl Try.underlying23 Try.sizeOf3 rfl h1 rfl hx3 ?_
  intro g7 o8 cs8 hr8 hat8
  obtain rfl : _ = [_] := hr8
  refine L_ld (v := .int .i64 x3) rfl Try.isAgg3 rfl (hat8.cell (j := 0) rfl) ?_
  refine L_as (v := .int .i64 x3) rfl rfl ?_
  refine L_nil ?_
  refine W_ret ?_
  obtain rfl := so hF
  refine ret1 Try.results49 ?_
  exact ⟨⟨rfl, hb_g_r⟩, hx⟩

theorem s_l6Copy_c {m : Model} {v0_0 : Value} {v0_1 : Value} {w : World} {B : Nat} (hB : B ≤ w.heap.size) (h0_0 : (RP.slice 3 RP.int).rel B w.heap.size w [v0_0] m.sizes) (h0_1 : (RP.slice 36 (rRule 3 23)).rel B w.heap.size w [v0_1] m.rules) {r : Model} (hF : s_l6Copy m = some r) :
    C Try.prog 80 #[.agg #[v0_0, v0_1]] w fun v w' => (∃ u1 u2 : Value, v = .agg #[u1, u2] ∧ Own RP.int 3 w.heap.size B w' u1 r.sizes ∧ Own (rRule 3 23) 36 w.heap.size B w' u2 r.rules) ∧ Ext w w' := by
  unfold s_l6Copy at hF
  have hx := ext_refl w
  refine C_enter Try.func80 rfl Try.ntmps80 rfl ?_
  refine W_seq ?_
  refine W_region ?_
  refine L_box (v := .agg #[v0_0, v0_1]) (cs := #[v0_0, v0_1]) rfl rfl rfl ?_
  intro g6 w7 hn7
  have hge_g6 := hn7.geS hx.size
  have hb_g6 := hn7.blk
  have h0_0 := RP.ext h0_0 hn7.ext
  have h0_1 := RP.ext h0_1 hn7.ext
  have hx := ext_trans hx hn7.ext
  refine L_al (cs := #[(.slice none 0 0), (.slice none 0 0)]) rfl Try.zeroValue26 rfl ?_
  intro g8 w9 hn9
  have hge_g8 := hn9.geS hx.size
  have hb_g8 := hn9.blk
  have ap10 := ap_bb hb_g6 hn9
  have h0_0 := RP.ext h0_0 hn9.ext
  have h0_1 := RP.ext h0_1 hn9.ext
  have hb_g6 := Blk.ext hb_g6 hn9.ext
  have hx := ext_trans hx hn9.ext
  refine L_nil ?_
  refine W_seq ?_
  obtain ⟨x13, hx13, hF⟩ := bind_some hF
  refine W_region ?_
  refine L_bs rfl parts0 (bs_23_0  ) ?_
  intro g20 w21 hn21
  have ho21 : Own RP.int 3 w.heap.size B w21 _ _ := own_new0 hn21 hx.size
  have hz21 := zero_new hn21 hx.size
  have h0_0 := RP.ext h0_0 hn21.ext
  have h0_1 := RP.ext h0_1 hn21.ext
  have hb_g6 := Blk.ext hb_g6 hn21.ext
  have hb_g8 := Blk.ext hb_g8 hn21.ext
  have hx := ext_trans hx hn21.ext
  refine L_fa (o' := 0) rfl fa_26_0 rfl rfl ?_
  refine L_ld (v := v0_0) rfl Try.isAgg23 rfl (hb_g6.cell (j := 0) rfl) ?_
  refine L_app (v := (.slice (some ⟨g20, 0, none⟩) 0 0)) (u := v0_0) rfl et_23 (by decide) rfl rfl ho21 (rel0 h0_0) hx13 hx.size hB ?_
  intro v22 w22 ho22 hm22 hb22
  have h0_0 := hm22.rel_lo h0_0 (Nat.le_refl _)
  have h0_1 := hm22.rel_lo h0_1 (Nat.le_refl _)
  have hb_g6 := hm22.blk hb_g6 (by decide)
  have hb_g8 := hm22.blk hb_g8 (by decide)
  have hx := ext_mut hx hm22 (Nat.le_refl _)
  refine L_bld rfl (parts1 rfl) (bld_26_0 (v22) (one_of (Own.rel ho22))) ?_
  refine L_al (cs := #[(.slice none 0 0), (.slice none 0 0)]) rfl Try.zeroValue26 rfl ?_
  intro g23 w24 hn24
  have hge_g23 := hn24.geS hx.size
  have hb_g23 := hn24.blk
  have ap25 := ap_bb hb_g6 hn24
  have ap26 := ap_bb hb_g8 hn24
  have h0_0 := RP.ext h0_0 hn24.ext
  have h0_1 := RP.ext h0_1 hn24.ext
  have hb_g6 := Blk.ext hb_g6 hn24.ext
  have hb_g8 := Blk.ext hb_g8 hn24.ext
  have ho22 := Own.ext ho22 hn24.ext
  have hx := ext_trans hx hn24.ext
  refine L_sta (vs := #[v22, (.slice none 0 0)]) rfl Try.sizeOf26 rfl rfl rfl (ones_cons (one_of (Own.rel ho22)) (ones_cons rfl ones_nil)) hb_g23 rfl ?_
  intro w27 hp27
  have h0_0 := hp27.mu.rel h0_0 (by decide) (Nat.le_trans hB hge_g23)
  have h0_1 := hp27.mu.rel h0_1 (by decide) (Nat.le_trans hB hge_g23)
  have hb_g6 := hp27.mu.blkA hb_g6 (Ap.symm ap25)
  have hb_g8 := hp27.mu.blkA hb_g8 (Ap.symm ap26)
  have ho22 := hp27.mu.ownT ho22 (by decide) (by decide) (Nat.le_trans hB hge_g23)
  have hx := ext_mut hx hp27.mu hge_g23
  have hb_g23 : Blk w27 g23 26 #[v22, (.slice none 0 0)] := hp27.blk
  refine L_nil ?_
  refine W_seq ?_
  refine W_seq ?_
  refine W_region ?_
  refine L_as (v := .int .i64 0) rfl rfl ?_
  refine L_nil ?_
  have hlen30 := len_le h0_1
  obtain ⟨j30, hL30, hF⟩ := bind_some hF
  obtain ⟨R30, hR30⟩ : ∃ R : Fr → World → Prop, R = fun f w_ => ∃ g23_1_29 : List Rule, ∃ v29_g23_1 : Value, j30 = .nx g23_1_29 ∧ f 2 = .pointer (some ⟨g8, 0, none⟩) ∧ f 3 = .pointer (some ⟨g23, 0, none⟩) ∧ Own RP.int 3 w.heap.size B w_ v22 x13 ∧ Own (rRule 3 23) 36 w.heap.size B w_ v29_g23_1 g23_1_29 ∧ Blk w_ g23 26 #[v22, v29_g23_1] ∧ Blk w_ g8 26 #[(.slice none 0 0), (.slice none 0 0)] ∧ Ext w w_ := ⟨_, rfl⟩
  refine W_join R30 ?_ ?_
  ·
    refine W_block ?_
    obtain ⟨I30, hI30⟩ : ∃ I : Nat → Fr → World → Prop, I = fun n f w_ => ∃ i_28 : Nat, ∃ suf30 : List Rule, ∃ g23_1_29 : List Rule, ∃ v29_g23_1 : Value, n = suf30.length ∧ List.drop i_28 m.rules = suf30 ∧ i_28 + suf30.length = m.rules.length ∧ rangeL s_l6Copy_b1 suf30 i_28 g23_1_29 = some j30 ∧ f 1 = .pointer (some ⟨g6, 0, none⟩) ∧ f 2 = .pointer (some ⟨g8, 0, none⟩) ∧ f 3 = .pointer (some ⟨g23, 0, none⟩) ∧ f 4 = .int .i64 (i_28 : Int) ∧ Own RP.int 3 w.heap.size B w_ v22 x13 ∧ Own (rRule 3 23) 36 w.heap.size B w_ v29_g23_1 g23_1_29 ∧ Blk w_ g23 26 #[v22, v29_g23_1] ∧ Blk w_ g8 26 #[(.slice none 0 0), (.slice none 0 0)] ∧ (RP.slice 3 RP.int).rel B w.heap.size w_ [v0_0] m.sizes ∧ (RP.slice 36 (rRule 3 23)).rel B w.heap.size w_ [v0_1] m.rules ∧ Blk w_ g6 26 #[v0_0, v0_1] ∧ Ext w w_ := ⟨_, rfl⟩
    refine W_loop I30 (n := m.rules.length) ?_ ?_
    · rw [hI30]; exact ⟨0, m.rules, [], (.slice none 0 0), rfl, rfl, Nat.zero_add _, hL30, rfl, rfl, rfl, rfl, ho22, (Own.nil _ _ _ _ _), hb_g23, hb_g8, h0_0, h0_1, hb_g6, hx⟩
    ·
      intro n30 f w_ hI
      rw [hI30] at hI
      obtain ⟨i_28, suf30, g23_1_29, v29_g23_1, rfl, hd30, hl30, hL30, sf1, sf2, sf3, sf4, ho22, hv29_g23_1, hb_g23, hb_g8, h0_0, h0_1, hb_g6, hx⟩ := hI
      refine W_seq ?_
      refine W_seq ?_
      refine W_region ?_
      refine L_mv (v := .int .i64 (i_28 : Int)) rfl sf4 ?_
      refine L_fa (o' := 1) rfl fa_26_1 sf1 rfl ?_
      refine L_ld (v := v0_1) rfl Try.isAgg24 rfl (hb_g6.cell (j := 1) rfl) ?_
      refine L_len (v := v0_1) rfl Try.underlying24 rfl h0_1 ?_
      refine L_lss (m := (i_28 : Int)) (n := (m.rules.length : Int)) rfl rfl rfl ?_
      refine L_nil ?_
      refine W_cond (b := decide ((i_28 : Int) < (m.rules.length : Int))) rfl (fun hc31 => ?_) (fun hc31 => ?_)
      ·
        have hlt30 := of_decide_eq_true hc31
        cases suf30 with
        | nil => exact absurd hlt30 (by simp at hl30; omega)
        | cons x_30 rest30 =>
          obtain ⟨o30, hB30, hL30⟩ := range_cons hL30
          rw [s_l6Copy_b1] at hB30
          have hix30 := drop_idx hd30
          refine W_skip ?_
          refine W_seq ?_
          refine W_block ?_
          refine W_seq ?_
          obtain ⟨wL32, hwL32⟩ : ∃ x, x = w_ := ⟨_, rfl⟩
          subst hwL32
          have ho22_s32 := ho22
          have ho22 := rel0 (Own.rel ho22)
          have hv29_g23_1_s32 := hv29_g23_1
          have hv29_g23_1 := rel0 (Own.rel hv29_g23_1)
          have hb_g23_s32 := hb_g23
          have hb_g8_s32 := hb_g8
          have h0_0_s32 := h0_0
          have h0_0 := rel0 h0_0
          have h0_1_s32 := h0_1
          have h0_1 := rel0 h0_1
          have hb_g6_s32 := hb_g6
          have hx_s32 := hx
          have hB_s32 := hB
          have hB : B ≤ wL32.heap.size := Nat.le_trans hB hx.size
          have hx := ext_refl wL32
          refine W_region ?_
          refine L_fa (o' := 1) rfl fa_26_1 sf1 rfl ?_
          refine L_ld (v := v0_1) rfl Try.isAgg24 rfl (hb_g6.cell (j := 1) rfl) ?_
          refine L_mv (v := .int .i64 (i_28 : Int)) rfl sf4 ?_
          refine L_ix (r := (rRule 3 23)) rfl Try.underlying24 Try.sizeOf36 rfl h0_1 rfl hix30 ?_
          intro g38 o39 cs39 hr39 hat39
          obtain ⟨u39_0, u39_1, u39_2, rfl, hu39_0, hu39_1, hu39_2⟩ := rRule_iff.1 hr39
          refine L_lda (cs := [.int .i64 x_30.kind, u39_0, u39_1, .int .i64 x_30.bound, u39_2]) rfl Try.isAgg36 Try.sizeOf36 rfl (At.sub hat39 0 5) rfl ?_
          refine L_al (cs := #[.int .i64 0, (.slice none 0 0), (.slice none 0 0), .int .i64 0, (.slice none 0 0)]) rfl Try.zeroValue36 rfl ?_
          intro g40 w41 hn41
          have hge_g40 := hn41.geS hx.size
          have hb_g40 := hn41.blk
          have ho22 := RP.ext ho22 hn41.ext
          have hv29_g23_1 := RP.ext hv29_g23_1 hn41.ext
          have hb_g23 := Blk.ext hb_g23 hn41.ext
          have hb_g8 := Blk.ext hb_g8 hn41.ext
          have h0_0 := RP.ext h0_0 hn41.ext
          have h0_1 := RP.ext h0_1 hn41.ext
          have hb_g6 := Blk.ext hb_g6 hn41.ext
          have hu39_0 := RP.ext hu39_0 hn41.ext
          have hu39_1 := RP.ext hu39_1 hn41.ext
          have hu39_2 := RP.ext hu39_2 hn41.ext
          have hx := ext_trans hx hn41.ext
          refine L_sta (vs := #[.int .i64 x_30.kind, u39_0, u39_1, .int .i64 x_30.bound, u39_2]) rfl Try.sizeOf36 rfl rfl rfl (ones_cons rfl (ones_cons (one_of hu39_0) (ones_cons (one_of hu39_1) (ones_cons rfl (ones_cons (one_of hu39_2) ones_nil))))) hb_g40 rfl ?_
          intro w42 hp42
          have ho22 := hp42.mu.rel ho22 (by decide) (Nat.le_trans hB hge_g40)
          have hv29_g23_1 := hp42.mu.rel_lo hv29_g23_1 hge_g40
          have hb_g23 := hp42.mu.blk hb_g23 (by decide)
          have hb_g8 := hp42.mu.blk hb_g8 (by decide)
          have h0_0 := hp42.mu.rel h0_0 (by decide) (Nat.le_trans hB hge_g40)
          have h0_1 := hp42.mu.rel_lo h0_1 hge_g40
          have hb_g6 := hp42.mu.blk hb_g6 (by decide)
          have hu39_0 := hp42.mu.rel hu39_0 (by decide) (Nat.le_trans hB hge_g40)
          have hu39_1 := hp42.mu.rel hu39_1 (by decide) (Nat.le_trans hB hge_g40)
          have hu39_2 := hp42.mu.rel hu39_2 (by decide) (Nat.le_trans hB hge_g40)
          have hx := ext_mut hx hp42.mu hge_g40
          have hb_g40 : Blk w42 g40 36 #[.int .i64 x_30.kind, u39_0, u39_1, .int .i64 x_30.bound, u39_2] := hp42.blk
          refine L_nil ?_
          refine W_seq ?_
          obtain ⟨x45, hx45, hB30⟩ := bind_some hB30
          obtain ⟨x51, hx51, hB30⟩ := bind_some hB30
          have hszR := hx.size
          have hlt70 := hb_g40.lt
          refine W_drawL 14 [isV (.pointer (some ⟨g40, 0, none⟩)), isV (.int .i64 x_30.kind), isZero 3 wL32.heap.size, isV (.pointer (some ⟨g40, 1, none⟩)), isV (u39_0), isData B (RP.slice 3 RP.int) x45, isZero 3 wL32.heap.size, isV (.pointer (some ⟨g40, 2, none⟩)), isV (u39_1), isData B (RP.slice 3 RP.int) x51, isV (.pointer (some ⟨g40, 3, none⟩)), isV (.int .i64 x_30.bound), exD (isData B (RP.slice 3 RP.int) x45) fun u_1 => exD (isData B (RP.slice 3 RP.int) x51) fun u_2 => isV (.agg #[.int .i64 x_30.kind, u_1, u_2, .int .i64 x_30.bound, (.slice none 0 0)]), isNew 36 w42.heap.size #[.int .i64 0, (.slice none 0 0), (.slice none 0 0), .int .i64 0, (.slice none 0 0)]] Try_mix (by kernel_rfl) (am_cons (mono_V _) (am_cons (mono_V _) (am_cons (mono_zero _ _) (am_cons (mono_V _) (am_cons (mono_V _) (am_cons (mono_data _ _ _) (am_cons (mono_zero _ _) (am_cons (mono_V _) (am_cons (mono_V _) (am_cons (mono_data _ _ _) (am_cons (mono_V _) (am_cons (mono_V _) (am_cons (mono_exD (mono_data _ _ _) fun _ => mono_exD (mono_data _ _ _) fun _ => mono_V _) (am_cons (mono_new _ _ _) am_nil)))))))))))))) ?_ (fun f w_ hS59 hE59 hT59 => ?_)
          ·
            refine ops_cons (fun f w_ hS59 hE59 hP59 => ?_) ?_
            ·
              have hx := ext_trans hx hE59
              have hu39_0 := RP.ext hu39_0 hE59
              have hu39_1 := RP.ext hu39_1 hE59
              have hu39_2 := RP.ext hu39_2 hE59
              have hb_g40 := Blk.ext hb_g40 hE59
              refine L_fa (o' := 0) rfl fa_36_0 ((hS59 5 rfl).trans rfl) rfl ?_
              exact L_nil ⟨rfl, (ext_refl _), _, _, rfl, rfl, rfl⟩
            refine ops_cons (fun f w_ hS59 hE59 hP59 => ?_) ?_
            ·
              have hx := ext_trans hx hE59
              have hu39_0 := RP.ext hu39_0 hE59
              have hu39_1 := RP.ext hu39_1 hE59
              have hu39_2 := RP.ext hu39_2 hE59
              have hb_g40 := Blk.ext hb_g40 hE59
              refine L_ld (v := .int .i64 x_30.kind) rfl Try.isAgg3 (hP59 0 25 rfl rfl) (hb_g40.cell (j := 0) rfl) ?_
              exact L_nil ⟨rfl, (ext_refl _), _, _, rfl, rfl, rfl⟩
            refine ops_cons (fun f w_ hS59 hE59 hP59 => ?_) ?_
            ·
              have hx := ext_trans hx hE59
              refine L_bs rfl parts0 (bs_23_0  ) ?_
              intro g71 w72 hn72
              have ho72 : Own RP.int 3 wL32.heap.size B w72 _ _ := own_new0 hn72 hx.size
              have hz72 := zero_new hn72 hx.size
              have hx := ext_trans hx hn72.ext
              exact L_nil ⟨rfl, hn72.ext, _, _, rfl, rfl, hz72⟩
            refine ops_cons (fun f w_ hS59 hE59 hP59 => ?_) ?_
            ·
              have hx := ext_trans hx hE59
              have hu39_0 := RP.ext hu39_0 hE59
              have hu39_1 := RP.ext hu39_1 hE59
              have hu39_2 := RP.ext hu39_2 hE59
              have hb_g40 := Blk.ext hb_g40 hE59
              refine L_fa (o' := 1) rfl fa_36_1 ((hS59 5 rfl).trans rfl) rfl ?_
              exact L_nil ⟨rfl, (ext_refl _), _, _, rfl, rfl, rfl⟩
            refine ops_cons (fun f w_ hS59 hE59 hP59 => ?_) ?_
            ·
              have hx := ext_trans hx hE59
              have hu39_0 := RP.ext hu39_0 hE59
              have hu39_1 := RP.ext hu39_1 hE59
              have hu39_2 := RP.ext hu39_2 hE59
              have hb_g40 := Blk.ext hb_g40 hE59
              refine L_ld (v := u39_0) rfl Try.isAgg23 (hP59 3 28 rfl rfl) (hb_g40.cell (j := 1) rfl) ?_
              exact L_nil ⟨rfl, (ext_refl _), _, _, rfl, rfl, rfl⟩
            refine ops_cons (fun f w_ hS59 hE59 hP59 => ?_) ?_
            ·
              have hx := ext_trans hx hE59
              have hu39_0 := RP.ext hu39_0 hE59
              have hz73 := (hP59 2 27 rfl rfl)
              have hz73o := own_zero (r := RP.int) (B := B) hz73
              refine L_appZ (v := (f 27)) (u := u39_0) (B := B) rfl et_23 (by decide) rfl (hP59 4 29 rfl rfl) (.inr hz73) (rel0 hu39_0) hx45 hx.size (Nat.le_trans hB hx.size) ?_
              intro v74 w74 ho74 he74
              have hu39_0 := RP.ext hu39_0 he74
              have hz73o := Own.ext hz73o he74
              have hx := ext_trans hx he74
              exact L_nil ⟨rfl, he74, _, _, rfl, rfl, (rel0 ho74)⟩
            refine ops_cons (fun f w_ hS59 hE59 hP59 => ?_) ?_
            ·
              have hx := ext_trans hx hE59
              refine L_bs rfl parts0 (bs_23_0  ) ?_
              intro g75 w76 hn76
              have ho76 : Own RP.int 3 wL32.heap.size B w76 _ _ := own_new0 hn76 hx.size
              have hz76 := zero_new hn76 hx.size
              have hx := ext_trans hx hn76.ext
              exact L_nil ⟨rfl, hn76.ext, _, _, rfl, rfl, hz76⟩
            refine ops_cons (fun f w_ hS59 hE59 hP59 => ?_) ?_
            ·
              have hx := ext_trans hx hE59
              have hu39_0 := RP.ext hu39_0 hE59
              have hu39_1 := RP.ext hu39_1 hE59
              have hu39_2 := RP.ext hu39_2 hE59
              have hb_g40 := Blk.ext hb_g40 hE59
              refine L_fa (o' := 2) rfl fa_36_2 ((hS59 5 rfl).trans rfl) rfl ?_
              exact L_nil ⟨rfl, (ext_refl _), _, _, rfl, rfl, rfl⟩
            refine ops_cons (fun f w_ hS59 hE59 hP59 => ?_) ?_
            ·
              have hx := ext_trans hx hE59
              have hu39_0 := RP.ext hu39_0 hE59
              have hu39_1 := RP.ext hu39_1 hE59
              have hu39_2 := RP.ext hu39_2 hE59
              have hb_g40 := Blk.ext hb_g40 hE59
              refine L_ld (v := u39_1) rfl Try.isAgg23 (hP59 7 32 rfl rfl) (hb_g40.cell (j := 2) rfl) ?_
              exact L_nil ⟨rfl, (ext_refl _), _, _, rfl, rfl, rfl⟩
            refine ops_cons (fun f w_ hS59 hE59 hP59 => ?_) ?_
            ·
              have hx := ext_trans hx hE59
              have hu39_1 := RP.ext hu39_1 hE59
              have hz77 := (hP59 6 31 rfl rfl)
              have hz77o := own_zero (r := RP.int) (B := B) hz77
              refine L_appZ (v := (f 31)) (u := u39_1) (B := B) rfl et_23 (by decide) rfl (hP59 8 33 rfl rfl) (.inr hz77) (rel0 hu39_1) hx51 hx.size (Nat.le_trans hB hx.size) ?_
              intro v78 w78 ho78 he78
              have hu39_1 := RP.ext hu39_1 he78
              have hz77o := Own.ext hz77o he78
              have hx := ext_trans hx he78
              exact L_nil ⟨rfl, he78, _, _, rfl, rfl, (rel0 ho78)⟩
            refine ops_cons (fun f w_ hS59 hE59 hP59 => ?_) ?_
            ·
              have hx := ext_trans hx hE59
              have hu39_0 := RP.ext hu39_0 hE59
              have hu39_1 := RP.ext hu39_1 hE59
              have hu39_2 := RP.ext hu39_2 hE59
              have hb_g40 := Blk.ext hb_g40 hE59
              refine L_fa (o' := 3) rfl fa_36_3 ((hS59 5 rfl).trans rfl) rfl ?_
              exact L_nil ⟨rfl, (ext_refl _), _, _, rfl, rfl, rfl⟩
            refine ops_cons (fun f w_ hS59 hE59 hP59 => ?_) ?_
            ·
              have hx := ext_trans hx hE59
              have hu39_0 := RP.ext hu39_0 hE59
              have hu39_1 := RP.ext hu39_1 hE59
              have hu39_2 := RP.ext hu39_2 hE59
              have hb_g40 := Blk.ext hb_g40 hE59
              refine L_ld (v := .int .i64 x_30.bound) rfl Try.isAgg3 (hP59 10 35 rfl rfl) (hb_g40.cell (j := 3) rfl) ?_
              exact L_nil ⟨rfl, (ext_refl _), _, _, rfl, rfl, rfl⟩
            refine ops_cons (fun f w_ hS59 hE59 hP59 => ?_) ?_
            ·
              have hx := ext_trans hx hE59
              have hd79 := (hP59 9 34 rfl rfl)
              have hd80 := (hP59 5 30 rfl rfl)
              refine L_bld rfl (parts4 (hP59 1 26 rfl rfl) rfl rfl (hP59 11 36 rfl rfl)) (bld_36_0_1_2_3 (.int .i64 x_30.kind) ((f 30)) ((f 34)) (.int .i64 x_30.bound) rfl (one_of hd80) (one_of hd79) rfl) ?_
              exact L_nil ⟨rfl, (ext_refl _), _, _, rfl, rfl, ⟨_, (rel0 hd80), _, (rel0 hd79), rfl⟩⟩
            refine ops_cons (fun f w_ hS59 hE59 hP59 => ?_) ?_
            ·
              have hx := ext_trans hx hE59
              refine L_al (cs := #[.int .i64 0, (.slice none 0 0), (.slice none 0 0), .int .i64 0, (.slice none 0 0)]) rfl Try.zeroValue36 rfl ?_
              intro g81 w82 hn82
              have hge_g81 := hn82.geS hx.size
              have hb_g81 := hn82.blk
              have hx := ext_trans hx hn82.ext
              exact L_nil ⟨rfl, hn82.ext, _, _, rfl, rfl, ⟨_, rfl, Nat.le_trans hE59.size (hn82.geS (Nat.le_refl _)), hb_g81⟩⟩
            exact ops_nil
          ·
            have ho22 := RP.ext ho22 hE59
            have hv29_g23_1 := RP.ext hv29_g23_1 hE59
            have hb_g23 := Blk.ext hb_g23 hE59
            have hb_g8 := Blk.ext hb_g8 hE59
            have h0_0 := RP.ext h0_0 hE59
            have h0_1 := RP.ext h0_1 hE59
            have hb_g6 := Blk.ext hb_g6 hE59
            have hu39_0 := RP.ext hu39_0 hE59
            have hu39_1 := RP.ext hu39_1 hE59
            have hu39_2 := RP.ext hu39_2 hE59
            have hb_g40 := Blk.ext hb_g40 hE59
            have hx := ext_trans hx hE59
            obtain ⟨u83_1, hu83_1, u83_2, hu83_2, hv83⟩ := (hT59 12 37 rfl rfl)
            obtain ⟨g84, hv84, hgz84, hb_g84⟩ := (hT59 13 6 rfl rfl)
            have hge_g84 := Nat.le_trans hszR hgz84
            have ap85 := ap_lt hlt70 hgz84
            refine L_sta (vs := #[.int .i64 x_30.kind, u83_1, u83_2, .int .i64 x_30.bound, (.slice none 0 0)]) rfl Try.sizeOf36 hv84 hv83 rfl (ones_cons rfl (ones_cons (one_of hu83_1) (ones_cons (one_of hu83_2) (ones_cons rfl (ones_cons rfl ones_nil))))) hb_g84 rfl ?_
            intro w86 hp86
            have ho22 := hp86.mu.rel ho22 (by decide) (Nat.le_trans hB hge_g84)
            have hv29_g23_1 := hp86.mu.rel_lo hv29_g23_1 hge_g84
            have hb_g23 := hp86.mu.blk hb_g23 (by decide)
            have hb_g8 := hp86.mu.blk hb_g8 (by decide)
            have h0_0 := hp86.mu.rel h0_0 (by decide) (Nat.le_trans hB hge_g84)
            have h0_1 := hp86.mu.rel_lo h0_1 hge_g84
            have hb_g6 := hp86.mu.blk hb_g6 (by decide)
            have hu39_0 := hp86.mu.rel hu39_0 (by decide) (Nat.le_trans hB hge_g84)
            have hu39_1 := hp86.mu.rel hu39_1 (by decide) (Nat.le_trans hB hge_g84)
            have hu39_2 := hp86.mu.rel hu39_2 (by decide) (Nat.le_trans hB hge_g84)
            have hb_g40 := hp86.mu.blkA hb_g40 (Ap.symm ap85)
            have hu83_1 := hp86.mu.rel hu83_1 (by decide) (Nat.le_trans hB hge_g84)
            have hu83_2 := hp86.mu.rel hu83_2 (by decide) (Nat.le_trans hB hge_g84)
            have hx := ext_mut hx hp86.mu hge_g84
            have hb_g84 : Blk w86 g84 36 #[.int .i64 x_30.kind, u83_1, u83_2, .int .i64 x_30.bound, (.slice none 0 0)] := hp86.blk
            refine L_nil ?_
            refine W_seq ?_
            refine W_seq ?_
            refine W_region ?_
            refine L_as (v := .int .i64 0) rfl rfl ?_
            refine L_nil ?_
            have hlen89 := len_le hu39_2
            obtain ⟨j89, hL89, hB30⟩ := bind_some hB30
            obtain ⟨R89, hR89⟩ : ∃ R : Fr → World → Prop, R = fun f w_ => ∃ g84_4_88 : List (List Int), ∃ v88_g84_4 : Value, j89 = .nx g84_4_88 ∧ f 1 = .pointer (some ⟨g6, 0, none⟩) ∧ f 2 = .pointer (some ⟨g8, 0, none⟩) ∧ f 3 = .pointer (some ⟨g23, 0, none⟩) ∧ f 4 = .int .i64 (i_28 : Int) ∧ f 6 = .pointer (some ⟨g84, 0, none⟩) ∧ (RP.slice 3 RP.int).rel B w_.heap.size w_ [u83_1] x45 ∧ (RP.slice 3 RP.int).rel B w_.heap.size w_ [u83_2] x51 ∧ Own (RP.slice 3 RP.int) 23 wL32.heap.size B w_ v88_g84_4 g84_4_88 ∧ Blk w_ g84 36 #[.int .i64 x_30.kind, u83_1, u83_2, .int .i64 x_30.bound, v88_g84_4] ∧ (RP.slice 3 RP.int).rel B wL32.heap.size w_ [v22] x13 ∧ (RP.slice 36 (rRule 3 23)).rel B wL32.heap.size w_ [v29_g23_1] g23_1_29 ∧ Blk w_ g23 26 #[v22, v29_g23_1] ∧ Blk w_ g8 26 #[(.slice none 0 0), (.slice none 0 0)] ∧ (RP.slice 3 RP.int).rel B wL32.heap.size w_ [v0_0] m.sizes ∧ (RP.slice 36 (rRule 3 23)).rel B wL32.heap.size w_ [v0_1] m.rules ∧ Blk w_ g6 26 #[v0_0, v0_1] ∧ Ext wL32 w_ := ⟨_, rfl⟩
            refine W_join R89 ?_ ?_
            ·
              refine W_block ?_
              obtain ⟨I89, hI89⟩ : ∃ I : Nat → Fr → World → Prop, I = fun n f w_ => ∃ i_87 : Nat, ∃ suf89 : List (List Int), ∃ g84_4_88 : List (List Int), ∃ v88_g84_4 : Value, n = suf89.length ∧ List.drop i_87 x_30.rows = suf89 ∧ i_87 + suf89.length = x_30.rows.length ∧ rangeL s_l6Copy_b2 suf89 i_87 g84_4_88 = some j89 ∧ f 1 = .pointer (some ⟨g6, 0, none⟩) ∧ f 2 = .pointer (some ⟨g8, 0, none⟩) ∧ f 3 = .pointer (some ⟨g23, 0, none⟩) ∧ f 4 = .int .i64 (i_28 : Int) ∧ f 5 = .pointer (some ⟨g40, 0, none⟩) ∧ f 6 = .pointer (some ⟨g84, 0, none⟩) ∧ f 7 = .int .i64 (i_87 : Int) ∧ (RP.slice 3 RP.int).rel B w_.heap.size w_ [u83_1] x45 ∧ (RP.slice 3 RP.int).rel B w_.heap.size w_ [u83_2] x51 ∧ Own (RP.slice 3 RP.int) 23 wL32.heap.size B w_ v88_g84_4 g84_4_88 ∧ Blk w_ g84 36 #[.int .i64 x_30.kind, u83_1, u83_2, .int .i64 x_30.bound, v88_g84_4] ∧ (RP.slice 3 RP.int).rel B wL32.heap.size w_ [u39_0] x_30.vars ∧ (RP.slice 3 RP.int).rel B wL32.heap.size w_ [u39_1] x_30.coefs ∧ (RP.slice 23 (RP.slice 3 RP.int)).rel B wL32.heap.size w_ [u39_2] x_30.rows ∧ Blk w_ g40 36 #[.int .i64 x_30.kind, u39_0, u39_1, .int .i64 x_30.bound, u39_2] ∧ (RP.slice 3 RP.int).rel B wL32.heap.size w_ [v22] x13 ∧ (RP.slice 36 (rRule 3 23)).rel B wL32.heap.size w_ [v29_g23_1] g23_1_29 ∧ Blk w_ g23 26 #[v22, v29_g23_1] ∧ Blk w_ g8 26 #[(.slice none 0 0), (.slice none 0 0)] ∧ (RP.slice 3 RP.int).rel B wL32.heap.size w_ [v0_0] m.sizes ∧ (RP.slice 36 (rRule 3 23)).rel B wL32.heap.size w_ [v0_1] m.rules ∧ Blk w_ g6 26 #[v0_0, v0_1] ∧ Ext wL32 w_ := ⟨_, rfl⟩
              refine W_loop I89 (n := x_30.rows.length) ?_ ?_
              · rw [hI89]; exact ⟨0, x_30.rows, [], (.slice none 0 0), rfl, rfl, Nat.zero_add _, hL89, ((hS59 1 rfl).trans sf1), ((hS59 2 rfl).trans sf2), ((hS59 3 rfl).trans sf3), ((hS59 4 rfl).trans sf4), ((hS59 5 rfl).trans rfl), hv84, rfl, (rel0 hu83_1), (rel0 hu83_2), (Own.nil _ _ _ _ _), hb_g84, hu39_0, hu39_1, hu39_2, hb_g40, ho22, hv29_g23_1, hb_g23, hb_g8, h0_0, h0_1, hb_g6, hx⟩
              ·
                intro n89 f w_ hI
                rw [hI89] at hI
                obtain ⟨i_87, suf89, g84_4_88, v88_g84_4, rfl, hd89, hl89, hL89, sf1, sf2, sf3, sf4, sf5, sf6, sf7, hu83_1, hu83_2, hv88_g84_4, hb_g84, hu39_0, hu39_1, hu39_2, hb_g40, ho22, hv29_g23_1, hb_g23, hb_g8, h0_0, h0_1, hb_g6, hx⟩ := hI
                refine W_seq ?_
                refine W_seq ?_
                refine W_region ?_
                refine L_mv (v := .int .i64 (i_87 : Int)) rfl sf7 ?_
                refine L_fa (o' := 4) rfl fa_36_4 sf5 rfl ?_
                refine L_ld (v := u39_2) rfl Try.isAgg34 rfl (hb_g40.cell (j := 4) rfl) ?_
                refine L_len (v := u39_2) rfl Try.underlying34 rfl hu39_2 ?_
                refine L_lss (m := (i_87 : Int)) (n := (x_30.rows.length : Int)) rfl rfl rfl ?_
                refine L_nil ?_
                refine W_cond (b := decide ((i_87 : Int) < (x_30.rows.length : Int))) rfl (fun hc90 => ?_) (fun hc90 => ?_)
                ·
                  have hlt89 := of_decide_eq_true hc90
                  cases suf89 with
                  | nil => exact absurd hlt89 (by simp at hl89; omega)
                  | cons x_89 rest89 =>
                    obtain ⟨o89, hB89, hL89⟩ := range_cons hL89
                    rw [s_l6Copy_b2] at hB89
                    have hix89 := drop_idx hd89
                    refine W_skip ?_
                    refine W_seq ?_
                    refine W_block ?_
                    obtain ⟨x95, hx95, hB89⟩ := bind_some hB89
                    obtain ⟨x100, hx100, hB89⟩ := bind_some hB89
                    refine W_drawL 10 [isV (.pointer (some ⟨g84, 4, none⟩)), isV (v88_g84_4), isZero 3 wL32.heap.size, isV (.pointer (some ⟨g40, 4, none⟩)), isV (u39_2), isV (.int .i64 (i_87 : Int)), isEl B (RP.slice 3 RP.int) x_89 0, isData B (RP.slice 3 RP.int) x_89, isData B (RP.slice 3 RP.int) x95, isOwn B (RP.slice 3 RP.int) 23 wL32.heap.size ([x95])] Try_mix (by kernel_rfl) (am_cons (mono_V _) (am_cons (mono_V _) (am_cons (mono_zero _ _) (am_cons (mono_V _) (am_cons (mono_V _) (am_cons (mono_V _) (am_cons (mono_el _ _ _ _) (am_cons (mono_data _ _ _) (am_cons (mono_data _ _ _) (am_cons (mono_own _ _ _ _ _) am_nil)))))))))) ?_ (fun f w_ hS104 hE104 hT104 => ?_)
                    ·
                      refine ops_cons (fun f w_ hS104 hE104 hP104 => ?_) ?_
                      ·
                        have hx := ext_trans hx hE104
                        have hu83_1 := RP.ext hu83_1 hE104
                        have hu83_2 := RP.ext hu83_2 hE104
                        have hv88_g84_4 := Own.ext hv88_g84_4 hE104
                        have hb_g84 := Blk.ext hb_g84 hE104
                        refine L_fa (o' := 4) rfl fa_36_4 ((hS104 6 rfl).trans sf6) rfl ?_
                        exact L_nil ⟨rfl, (ext_refl _), _, _, rfl, rfl, rfl⟩
                      refine ops_cons (fun f w_ hS104 hE104 hP104 => ?_) ?_
                      ·
                        have hx := ext_trans hx hE104
                        have hu83_1 := RP.ext hu83_1 hE104
                        have hu83_2 := RP.ext hu83_2 hE104
                        have hv88_g84_4 := Own.ext hv88_g84_4 hE104
                        have hb_g84 := Blk.ext hb_g84 hE104
                        refine L_ld (v := v88_g84_4) rfl Try.isAgg34 (hP104 0 45 rfl rfl) (hb_g84.cell (j := 4) rfl) ?_
                        exact L_nil ⟨rfl, (ext_refl _), _, _, rfl, rfl, rfl⟩
                      refine ops_cons (fun f w_ hS104 hE104 hP104 => ?_) ?_
                      ·
                        have hx := ext_trans hx hE104
                        refine L_bs rfl parts0 (bs_23_0  ) ?_
                        intro g113 w114 hn114
                        have ho114 : Own RP.int 3 wL32.heap.size B w114 _ _ := own_new0 hn114 hx.size
                        have hz114 := zero_new hn114 hx.size
                        have hx := ext_trans hx hn114.ext
                        exact L_nil ⟨rfl, hn114.ext, _, _, rfl, rfl, hz114⟩
                      refine ops_cons (fun f w_ hS104 hE104 hP104 => ?_) ?_
                      ·
                        have hx := ext_trans hx hE104
                        have hu39_0 := RP.ext hu39_0 hE104
                        have hu39_1 := RP.ext hu39_1 hE104
                        have hu39_2 := RP.ext hu39_2 hE104
                        have hb_g40 := Blk.ext hb_g40 hE104
                        refine L_fa (o' := 4) rfl fa_36_4 ((hS104 5 rfl).trans sf5) rfl ?_
                        exact L_nil ⟨rfl, (ext_refl _), _, _, rfl, rfl, rfl⟩
                      refine ops_cons (fun f w_ hS104 hE104 hP104 => ?_) ?_
                      ·
                        have hx := ext_trans hx hE104
                        have hu39_0 := RP.ext hu39_0 hE104
                        have hu39_1 := RP.ext hu39_1 hE104
                        have hu39_2 := RP.ext hu39_2 hE104
                        have hb_g40 := Blk.ext hb_g40 hE104
                        refine L_ld (v := u39_2) rfl Try.isAgg34 (hP104 3 48 rfl rfl) (hb_g40.cell (j := 4) rfl) ?_
                        exact L_nil ⟨rfl, (ext_refl _), _, _, rfl, rfl, rfl⟩
                      refine ops_cons (fun f w_ hS104 hE104 hP104 => ?_) ?_
                      ·
                        have hx := ext_trans hx hE104
                        refine L_mv (v := .int .i64 (i_87 : Int)) rfl ((hS104 7 rfl).trans sf7) ?_
                        exact L_nil ⟨rfl, (ext_refl _), _, _, rfl, rfl, rfl⟩
                      refine ops_cons (fun f w_ hS104 hE104 hP104 => ?_) ?_
                      ·
                        have hx := ext_trans hx hE104
                        have hu39_2 := RP.ext hu39_2 hE104
                        refine L_ix (r := (RP.slice 3 RP.int)) rfl Try.underlying34 Try.sizeOf23 (hP104 4 49 rfl rfl) hu39_2 (hP104 5 50 rfl rfl) hix89 ?_
                        intro g115 o116 cs116 hr116 hat116
                        obtain ⟨u116, rfl, hu116⟩ := slice1 hr116
                        exact L_nil ⟨rfl, (ext_refl _), _, _, rfl, rfl, ⟨_, _, _, rfl, (rel0 hr116), hat116⟩⟩
                      refine ops_cons (fun f w_ hS104 hE104 hP104 => ?_) ?_
                      ·
                        have hx := ext_trans hx hE104
                        obtain ⟨g117, o117, cs117, hv117, hr117, hat117⟩ := (hP104 6 51 rfl rfl)
                        obtain ⟨u117, rfl, hu117⟩ := slice1 hr117
                        refine L_ld (v := u117) rfl Try.isAgg23 hv117 (hat117.cell (j := 0) rfl) ?_
                        exact L_nil ⟨rfl, (ext_refl _), _, _, rfl, rfl, (rel0 hu117)⟩
                      refine ops_cons (fun f w_ hS104 hE104 hP104 => ?_) ?_
                      ·
                        have hx := ext_trans hx hE104
                        have hd118 := (hP104 7 52 rfl rfl)
                        have hz119 := (hP104 2 47 rfl rfl)
                        have hz119o := own_zero (r := RP.int) (B := B) hz119
                        refine L_appZ (v := (f 47)) (u := (f 52)) (B := B) rfl et_23 (by decide) rfl rfl (.inr hz119) (rel0 hd118) hx95 hx.size (Nat.le_trans hB hx.size) ?_
                        intro v120 w120 ho120 he120
                        have hd118 := RP.ext hd118 he120
                        have hz119o := Own.ext hz119o he120
                        have hx := ext_trans hx he120
                        exact L_nil ⟨rfl, he120, _, _, rfl, rfl, (rel0 ho120)⟩
                      refine ops_cons (fun f w_ hS104 hE104 hP104 => ?_) ?_
                      ·
                        have hx := ext_trans hx hE104
                        have hd121 := (hP104 8 53 rfl rfl)
                        refine L_bs rfl (parts1 rfl) (bs_34_1_0 ((f 53)) (one_of hd121)) ?_
                        intro g122 w123 hn123
                        have ho123 : Own (RP.slice 3 RP.int) 23 wL32.heap.size B w123 _ [x95] := own_new1 hn123 hx.size (rel0 hd121)
                        have hd121 := RP.ext hd121 hn123.ext
                        have hx := ext_trans hx hn123.ext
                        exact L_nil ⟨rfl, hn123.ext, _, _, rfl, rfl, ho123⟩
                      exact ops_nil
                    ·
                      have hu83_1 := RP.ext hu83_1 hE104
                      have hu83_2 := RP.ext hu83_2 hE104
                      have hv88_g84_4 := Own.ext hv88_g84_4 hE104
                      have hb_g84 := Blk.ext hb_g84 hE104
                      have hu39_0 := RP.ext hu39_0 hE104
                      have hu39_1 := RP.ext hu39_1 hE104
                      have hu39_2 := RP.ext hu39_2 hE104
                      have hb_g40 := Blk.ext hb_g40 hE104
                      have ho22 := RP.ext ho22 hE104
                      have hv29_g23_1 := RP.ext hv29_g23_1 hE104
                      have hb_g23 := Blk.ext hb_g23 hE104
                      have hb_g8 := Blk.ext hb_g8 hE104
                      have h0_0 := RP.ext h0_0 hE104
                      have h0_1 := RP.ext h0_1 hE104
                      have hb_g6 := Blk.ext hb_g6 hE104
                      have hx := ext_trans hx hE104
                      have hd124 := (hT104 9 54 rfl rfl)
                      refine L_app (v := v88_g84_4) (u := (f 54)) rfl et_34 (by decide) (hT104 1 46 rfl rfl) rfl hv88_g84_4 (rel0 (Own.rel hd124)) hx100 hx.size hB ?_
                      intro v125 w125 ho125 hm125 hb125
                      have hu83_1 := hm125.rel hu83_1 (by decide) (Nat.le_trans hB (Nat.le_refl _))
                      have hu83_2 := hm125.rel hu83_2 (by decide) (Nat.le_trans hB (Nat.le_refl _))
                      have hb_g84 := hm125.blk hb_g84 (by decide)
                      have hu39_0 := hm125.rel hu39_0 (by decide) (Nat.le_trans hB (Nat.le_refl _))
                      have hu39_1 := hm125.rel hu39_1 (by decide) (Nat.le_trans hB (Nat.le_refl _))
                      have hu39_2 := hm125.rel_lo hu39_2 (Nat.le_refl _)
                      have hb_g40 := hm125.blk hb_g40 (by decide)
                      have ho22 := hm125.rel ho22 (by decide) (Nat.le_trans hB (Nat.le_refl _))
                      have hv29_g23_1 := hm125.rel_lo hv29_g23_1 (Nat.le_refl _)
                      have hb_g23 := hm125.blk hb_g23 (by decide)
                      have hb_g8 := hm125.blk hb_g8 (by decide)
                      have h0_0 := hm125.rel h0_0 (by decide) (Nat.le_trans hB (Nat.le_refl _))
                      have h0_1 := hm125.rel_lo h0_1 (Nat.le_refl _)
                      have hb_g6 := hm125.blk hb_g6 (by decide)
                      have hx := ext_mut hx hm125 (Nat.le_refl _)
                      refine L_fa (o' := 4) rfl fa_36_4 ((hS104 6 rfl).trans sf6) rfl ?_
                      refine L_st (v := v125) rfl Try.sizeOf34 rfl rfl (one_of (Own.rel ho125)) hb_g84 rfl ?_
                      intro w126 hp126
                      have hu83_1 := hp126.mu.rel hu83_1 (by decide) (Nat.le_trans hB hge_g84)
                      have hu83_2 := hp126.mu.rel hu83_2 (by decide) (Nat.le_trans hB hge_g84)
                      have hu39_0 := hp126.mu.rel hu39_0 (by decide) (Nat.le_trans hB hge_g84)
                      have hu39_1 := hp126.mu.rel hu39_1 (by decide) (Nat.le_trans hB hge_g84)
                      have hu39_2 := hp126.mu.rel hu39_2 (by decide) (Nat.le_trans hB hge_g84)
                      have hb_g40 := hp126.mu.blkA hb_g40 (Ap.symm ap85)
                      have ho22 := hp126.mu.rel ho22 (by decide) (Nat.le_trans hB hge_g84)
                      have hv29_g23_1 := hp126.mu.rel_lo hv29_g23_1 hge_g84
                      have hb_g23 := hp126.mu.blk hb_g23 (by decide)
                      have hb_g8 := hp126.mu.blk hb_g8 (by decide)
                      have h0_0 := hp126.mu.rel h0_0 (by decide) (Nat.le_trans hB hge_g84)
                      have h0_1 := hp126.mu.rel_lo h0_1 hge_g84
                      have hb_g6 := hp126.mu.blk hb_g6 (by decide)
                      have ho125 := hp126.mu.ownT ho125 (by decide) (by decide) (Nat.le_trans hB hge_g84)
                      have hx := ext_mut hx hp126.mu hge_g84
                      have hb_g84 : Blk w126 g84 36 #[.int .i64 x_30.kind, u83_1, u83_2, .int .i64 x_30.bound, v125] := hp126.blk
                      refine L_nil ?_
                      refine W_region ?_
                      refine L_mv (v := .int .i64 (i_87 : Int)) rfl ((hS104 7 rfl).trans sf7) ?_
                      refine L_add (m := (i_87 : Int)) (n := 1) rfl rfl rfl ?_
                      refine L_as (v := .int .i64 (i64 ((i_87 : Int) + 1))) rfl rfl ?_
                      refine L_nil ?_
                      obtain rfl := so hB89
                      show ∃ m, m < _ ∧ I89 m _ _
                      refine ⟨rest89.length, by simp, ?_⟩
                      rw [hI89]
                      exact ⟨i_87 + 1, rest89, x100, v125, rfl, drop_next hd89, by simp at hl89; omega, hL89, ((hS104 1 rfl).trans sf1), ((hS104 2 rfl).trans sf2), ((hS104 3 rfl).trans sf3), ((hS104 4 rfl).trans sf4), ((hS104 5 rfl).trans sf5), ((hS104 6 rfl).trans sf6), (Eq.trans rfl (congrArg (Value.int .i64) (i64_succ (n := x_30.rows.length) (by simp at hl89; omega) hlen89))), (rel0 hu83_1), (rel0 hu83_2), ho125, hb_g84, hu39_0, hu39_1, hu39_2, hb_g40, ho22, hv29_g23_1, hb_g23, hb_g8, h0_0, h0_1, hb_g6, hx⟩
                ·
                  cases suf89 with
                  | cons _ _ => exact absurd (of_decide_eq_false hc90) (by simp at hl89; omega)
                  | nil =>
                    obtain rfl := range_nil hL89
                    refine W_exit ?_
                    show R89 _ _
                    rw [hR89]
                    exact ⟨g84_4_88, v88_g84_4, rfl, sf1, sf2, sf3, sf4, sf6, (rel0 hu83_1), (rel0 hu83_2), hv88_g84_4, hb_g84, ho22, hv29_g23_1, hb_g23, hb_g8, h0_0, h0_1, hb_g6, hx⟩
            ·
              intro f w_ hR
              rw [hR89] at hR
              obtain ⟨g84_4_88, v88_g84_4, rfl, sf1, sf2, sf3, sf4, sf6, hu83_1, hu83_2, hv88_g84_4, hb_g84, ho22, hv29_g23_1, hb_g23, hb_g8, h0_0, h0_1, hb_g6, hx⟩ := hR
              clear hR89
              have hL32 := hx
              have ho22 := Own.ext ho22_s32 hL32
              have hv29_g23_1 := Own.ext hv29_g23_1_s32 hL32
              have hb_g23 := Blk.ext hb_g23_s32 hL32
              have hb_g8 := Blk.ext hb_g8_s32 hL32
              have h0_0 := RP.ext h0_0_s32 hL32
              have h0_1 := RP.ext h0_1_s32 hL32
              have hb_g6 := Blk.ext hb_g6_s32 hL32
              have hv88_g84_4 := hv88_g84_4.wide hx_s32.size (Nat.le_refl _)
              have ap127 := ap_ltO (fun k h => (hv29_g23_1_s32.lt k h).2) hge_g84
              have hge_g84 := Nat.le_trans hx_s32.size hge_g84
              have hx := ext_trans hx_s32 hL32
              have hB := hB_s32
              obtain ⟨x132, hx132, hB30⟩ := bind_some hB30
              refine W_region ?_
              refine L_fa (o' := 1) rfl fa_26_1 sf3 rfl ?_
              refine L_ld (v := v29_g23_1) rfl Try.isAgg24 rfl (hb_g23.cell (j := 1) rfl) ?_
              refine L_lda (cs := [.int .i64 x_30.kind, u83_1, u83_2, .int .i64 x_30.bound, v88_g84_4]) rfl Try.isAgg36 Try.sizeOf36 sf6 (Blk.sub hb_g84 0 5) rfl ?_
              refine L_bs rfl (parts1 rfl) (bs_24_1_5 (.int .i64 x_30.kind) (u83_1) (u83_2) (.int .i64 x_30.bound) (v88_g84_4) ) ?_
              intro g137 w138 hn138
              have ho138 : Own (rRule 3 23) 36 w.heap.size B w138 _ [({ kind := x_30.kind, vars := x45, coefs := x51, bound := x_30.bound, rows := g84_4_88 } : Rule)] := own_new1 hn138 hx.size (rRule_iff.2 ⟨_, _, _, rfl, (rel0 hu83_1), (rel0 hu83_2), (rel0 (Own.rel hv88_g84_4))⟩)
              have ap139 := ap_ob hv29_g23_1 hn138
              have ho22 := Own.ext ho22 hn138.ext
              have hv29_g23_1 := Own.ext hv29_g23_1 hn138.ext
              have hb_g23 := Blk.ext hb_g23 hn138.ext
              have hb_g8 := Blk.ext hb_g8 hn138.ext
              have h0_0 := RP.ext h0_0 hn138.ext
              have h0_1 := RP.ext h0_1 hn138.ext
              have hb_g6 := Blk.ext hb_g6 hn138.ext
              have hu83_1 := RP.ext hu83_1 hn138.ext
              have hu83_2 := RP.ext hu83_2 hn138.ext
              have hv88_g84_4 := Own.ext hv88_g84_4 hn138.ext
              have hx := ext_trans hx hn138.ext
              refine L_app (v := v29_g23_1) (u := (.slice (some ⟨g137, 0, none⟩) 1 1)) rfl et_24 (by decide) rfl rfl hv29_g23_1 (rel0 (Own.rel ho138)) hx132 hx.size hB ?_
              intro v140 w140 ho140 hm140 hb140
              have ho22 := hm140.ownT ho22 (by decide) (by decide) (Nat.le_trans hB (Nat.le_refl _))
              have hb_g23 := hm140.blk hb_g23 (by decide)
              have hb_g8 := hm140.blk hb_g8 (by decide)
              have h0_0 := hm140.rel h0_0 (by decide) (Nat.le_trans hB (Nat.le_refl _))
              have h0_1 := hm140.rel_lo h0_1 (Nat.le_refl _)
              have hb_g6 := hm140.blk hb_g6 (by decide)
              have hx := ext_mut hx hm140 (Nat.le_refl _)
              refine L_fa (o' := 1) rfl fa_26_1 sf3 rfl ?_
              refine L_st (v := v140) rfl Try.sizeOf24 rfl rfl (one_of (Own.rel ho140)) hb_g23 rfl ?_
              intro w141 hp141
              have ho22 := hp141.mu.ownT ho22 (by decide) (by decide) (Nat.le_trans hB hge_g23)
              have hb_g8 := hp141.mu.blkA hb_g8 (Ap.symm ap26)
              have h0_0 := hp141.mu.rel h0_0 (by decide) (Nat.le_trans hB hge_g23)
              have h0_1 := hp141.mu.rel h0_1 (by decide) (Nat.le_trans hB hge_g23)
              have hb_g6 := hp141.mu.blkA hb_g6 (Ap.symm ap25)
              have ho140 := hp141.mu.ownT ho140 (by decide) (by decide) (Nat.le_trans hB hge_g23)
              have hx := ext_mut hx hp141.mu hge_g23
              have hb_g23 : Blk w141 g23 26 #[v22, v140] := hp141.blk
              refine L_nil ?_
              refine W_region ?_
              refine L_mv (v := .int .i64 (i_28 : Int)) rfl sf4 ?_
              refine L_add (m := (i_28 : Int)) (n := 1) rfl rfl rfl ?_
              refine L_as (v := .int .i64 (i64 ((i_28 : Int) + 1))) rfl rfl ?_
              refine L_nil ?_
              obtain rfl := so hB30
              show ∃ m, m < _ ∧ I30 m _ _
              refine ⟨rest30.length, by simp, ?_⟩
              rw [hI30]
              exact ⟨i_28 + 1, rest30, x132, v140, rfl, drop_next hd30, by simp at hl30; omega, hL30, sf1, sf2, sf3, (Eq.trans rfl (congrArg (Value.int .i64) (i64_succ (n := m.rules.length) (by simp at hl30; omega) hlen30))), ho22, ho140, hb_g23, hb_g8, h0_0, h0_1, hb_g6, hx⟩
      ·
        cases suf30 with
        | cons _ _ => exact absurd (of_decide_eq_false hc31) (by simp at hl30; omega)
        | nil =>
          obtain rfl := range_nil hL30
          refine W_exit ?_
          show R30 _ _
          rw [hR30]
          exact ⟨g23_1_29, v29_g23_1, rfl, sf2, sf3, ho22, hv29_g23_1, hb_g23, hb_g8, hx⟩
  ·
    intro f w_ hR
    rw [hR30] at hR
    obtain ⟨g23_1_29, v29_g23_1, rfl, sf2, sf3, ho22, hv29_g23_1, hb_g23, hb_g8, hx⟩ := hR
    clear hR30
    refine W_seq ?_
    refine W_region ?_
    refine L_lda (cs := [v22, v29_g23_1]) rfl Try.isAgg26 Try.sizeOf26 sf3 (Blk.sub hb_g23 0 2) rfl ?_
    refine L_sta (vs := #[v22, v29_g23_1]) rfl Try.sizeOf26 sf2 rfl rfl (ones_cons (one_of (Own.rel ho22)) (ones_cons (one_of (Own.rel hv29_g23_1)) ones_nil)) hb_g8 rfl ?_
    intro w143 hp143
    have ho22 := hp143.mu.ownT ho22 (by decide) (by decide) (Nat.le_trans hB hge_g8)
    have hv29_g23_1 := hp143.mu.ownT hv29_g23_1 (by decide) (by decide) (Nat.le_trans hB hge_g8)
    have hx := ext_mut hx hp143.mu hge_g8
    have hb_g8 : Blk w143 g8 26 #[v22, v29_g23_1] := hp143.blk
    refine L_nil ?_
    refine W_ret ?_
    obtain rfl := so hF
    refine retc Try.results80 Try.isAgg26 Try.sizeOf26 sf2 hb_g8 rfl ?_
    exact ⟨⟨v22, v29_g23_1, rfl, ho22, hv29_g23_1⟩, hx⟩
theorem s_l6Copy_cN {m : Model} {v0_0 : Value} {v0_1 : Value} {w : World} {B : Nat} (hB : B ≤ w.heap.size) (h0_0 : (RP.slice 3 RP.int).rel B w.heap.size w [v0_0] m.sizes) (h0_1 : (RP.slice 36 (rRule 3 23)).rel B w.heap.size w [v0_1] m.rules) {r : Model} (hF : s_l6Copy m = some r) :
    C Try.prog 80 #[.agg #[v0_0, v0_1]] w fun v w' => (∃ u1 u2 : Value, ∃ L : Nat, w.heap.size ≤ L ∧ (∀ k, u1.ownBlock = some k → k < L) ∧ v = .agg #[u1, u2] ∧ Own RP.int 3 w.heap.size B w' u1 r.sizes ∧ Own (rRuleN L 3 23) 36 w.heap.size B w' u2 r.rules) ∧ Ext w w' := by
  unfold s_l6Copy at hF
  have hx := ext_refl w
  refine C_enter Try.func80 rfl Try.ntmps80 rfl ?_
  refine W_seq ?_
  refine W_region ?_
  refine L_box (v := .agg #[v0_0, v0_1]) (cs := #[v0_0, v0_1]) rfl rfl rfl ?_
  intro g6 w7 hn7
  have hge_g6 := hn7.geS hx.size
  have hb_g6 := hn7.blk
  have h0_0 := RP.ext h0_0 hn7.ext
  have h0_1 := RP.ext h0_1 hn7.ext
  have hx := ext_trans hx hn7.ext
  refine L_al (cs := #[(.slice none 0 0), (.slice none 0 0)]) rfl Try.zeroValue26 rfl ?_
  intro g8 w9 hn9
  have hge_g8 := hn9.geS hx.size
  have hb_g8 := hn9.blk
  have ap10 := ap_bb hb_g6 hn9
  have h0_0 := RP.ext h0_0 hn9.ext
  have h0_1 := RP.ext h0_1 hn9.ext
  have hb_g6 := Blk.ext hb_g6 hn9.ext
  have hx := ext_trans hx hn9.ext
  refine L_nil ?_
  refine W_seq ?_
  obtain ⟨x13, hx13, hF⟩ := bind_some hF
  refine W_region ?_
  refine L_bs rfl parts0 (bs_23_0  ) ?_
  intro g20 w21 hn21
  have ho21 : Own RP.int 3 w.heap.size B w21 _ _ := own_new0 hn21 hx.size
  have hz21 := zero_new hn21 hx.size
  have h0_0 := RP.ext h0_0 hn21.ext
  have h0_1 := RP.ext h0_1 hn21.ext
  have hb_g6 := Blk.ext hb_g6 hn21.ext
  have hb_g8 := Blk.ext hb_g8 hn21.ext
  have hx := ext_trans hx hn21.ext
  refine L_fa (o' := 0) rfl fa_26_0 rfl rfl ?_
  refine L_ld (v := v0_0) rfl Try.isAgg23 rfl (hb_g6.cell (j := 0) rfl) ?_
  refine L_app (v := (.slice (some ⟨g20, 0, none⟩) 0 0)) (u := v0_0) rfl et_23 (by first | decide | (rw [rRuleN_ts]; decide) | (rw [sliceN_ts, int_ts]; decide) | (rw [sliceN_ts, sliceN_ts, int_ts]; decide)) rfl rfl ho21 (rel0 h0_0) hx13 hx.size hB ?_
  intro v22 w22 ho22 hm22 hb22
  have h0_0 := hm22.rel_lo h0_0 (Nat.le_refl _)
  have h0_1 := hm22.rel_lo h0_1 (Nat.le_refl _)
  have hb_g6 := hm22.blk hb_g6 (by first | decide | (rw [rRuleN_ts]; decide) | (rw [sliceN_ts, int_ts]; decide) | (rw [sliceN_ts, sliceN_ts, int_ts]; decide))
  have hb_g8 := hm22.blk hb_g8 (by first | decide | (rw [rRuleN_ts]; decide) | (rw [sliceN_ts, int_ts]; decide) | (rw [sliceN_ts, sliceN_ts, int_ts]; decide))
  have hx := ext_mut hx hm22 (Nat.le_refl _)
  refine L_bld rfl (parts1 rfl) (bld_26_0 (v22) (one_of (Own.rel ho22))) ?_
  refine L_al (cs := #[(.slice none 0 0), (.slice none 0 0)]) rfl Try.zeroValue26 rfl ?_
  intro g23 w24 hn24
  have hLN2 : ∀ k, _ = some k → k < g23 := fun k hk => by have h1 := (ho22.lt k hk).2; have h2 := hn24.geS (Nat.le_refl _); omega
  have hge_g23 := hn24.geS hx.size
  have hb_g23 := hn24.blk
  have ap25 := ap_bb hb_g6 hn24
  have ap26 := ap_bb hb_g8 hn24
  have h0_0 := RP.ext h0_0 hn24.ext
  have h0_1 := RP.ext h0_1 hn24.ext
  have hb_g6 := Blk.ext hb_g6 hn24.ext
  have hb_g8 := Blk.ext hb_g8 hn24.ext
  have ho22 := Own.ext ho22 hn24.ext
  have hx := ext_trans hx hn24.ext
  refine L_sta (vs := #[v22, (.slice none 0 0)]) rfl Try.sizeOf26 rfl rfl rfl (ones_cons (one_of (Own.rel ho22)) (ones_cons rfl ones_nil)) hb_g23 rfl ?_
  intro w27 hp27
  have h0_0 := hp27.mu.rel h0_0 (by first | decide | (rw [rRuleN_ts]; decide) | (rw [sliceN_ts, int_ts]; decide) | (rw [sliceN_ts, sliceN_ts, int_ts]; decide)) (Nat.le_trans hB hge_g23)
  have h0_1 := hp27.mu.rel h0_1 (by first | decide | (rw [rRuleN_ts]; decide) | (rw [sliceN_ts, int_ts]; decide) | (rw [sliceN_ts, sliceN_ts, int_ts]; decide)) (Nat.le_trans hB hge_g23)
  have hb_g6 := hp27.mu.blkA hb_g6 (Ap.symm ap25)
  have hb_g8 := hp27.mu.blkA hb_g8 (Ap.symm ap26)
  have ho22 := hp27.mu.ownT ho22 (by first | decide | (rw [rRuleN_ts]; decide) | (rw [sliceN_ts, int_ts]; decide) | (rw [sliceN_ts, sliceN_ts, int_ts]; decide)) (by first | decide | (rw [rRuleN_ts]; decide) | (rw [sliceN_ts, int_ts]; decide) | (rw [sliceN_ts, sliceN_ts, int_ts]; decide)) (Nat.le_trans hB hge_g23)
  have hx := ext_mut hx hp27.mu hge_g23
  have hb_g23 : Blk w27 g23 26 #[v22, (.slice none 0 0)] := hp27.blk
  refine L_nil ?_
  refine W_seq ?_
  refine W_seq ?_
  refine W_region ?_
  refine L_as (v := .int .i64 0) rfl rfl ?_
  refine L_nil ?_
  have hlen30 := len_le h0_1
  obtain ⟨j30, hL30, hF⟩ := bind_some hF
  obtain ⟨R30, hR30⟩ : ∃ R : Fr → World → Prop, R = fun f w_ => ∃ g23_1_29 : List Rule, ∃ v29_g23_1 : Value, j30 = .nx g23_1_29 ∧ f 2 = .pointer (some ⟨g8, 0, none⟩) ∧ f 3 = .pointer (some ⟨g23, 0, none⟩) ∧ Own RP.int 3 w.heap.size B w_ v22 x13 ∧ Own (rRuleN g23 3 23) 36 w.heap.size B w_ v29_g23_1 g23_1_29 ∧ Blk w_ g23 26 #[v22, v29_g23_1] ∧ Blk w_ g8 26 #[(.slice none 0 0), (.slice none 0 0)] ∧ Ext w w_ := ⟨_, rfl⟩
  refine W_join R30 ?_ ?_
  ·
    refine W_block ?_
    obtain ⟨I30, hI30⟩ : ∃ I : Nat → Fr → World → Prop, I = fun n f w_ => ∃ i_28 : Nat, ∃ suf30 : List Rule, ∃ g23_1_29 : List Rule, ∃ v29_g23_1 : Value, n = suf30.length ∧ List.drop i_28 m.rules = suf30 ∧ i_28 + suf30.length = m.rules.length ∧ rangeL s_l6Copy_b1 suf30 i_28 g23_1_29 = some j30 ∧ f 1 = .pointer (some ⟨g6, 0, none⟩) ∧ f 2 = .pointer (some ⟨g8, 0, none⟩) ∧ f 3 = .pointer (some ⟨g23, 0, none⟩) ∧ f 4 = .int .i64 (i_28 : Int) ∧ Own RP.int 3 w.heap.size B w_ v22 x13 ∧ Own (rRuleN g23 3 23) 36 w.heap.size B w_ v29_g23_1 g23_1_29 ∧ Blk w_ g23 26 #[v22, v29_g23_1] ∧ Blk w_ g8 26 #[(.slice none 0 0), (.slice none 0 0)] ∧ (RP.slice 3 RP.int).rel B w.heap.size w_ [v0_0] m.sizes ∧ (RP.slice 36 (rRule 3 23)).rel B w.heap.size w_ [v0_1] m.rules ∧ Blk w_ g6 26 #[v0_0, v0_1] ∧ Ext w w_ := ⟨_, rfl⟩
    refine W_loop I30 (n := m.rules.length) ?_ ?_
    · rw [hI30]; exact ⟨0, m.rules, [], (.slice none 0 0), rfl, rfl, Nat.zero_add _, hL30, rfl, rfl, rfl, rfl, ho22, (Own.nil _ _ _ _ _), hb_g23, hb_g8, h0_0, h0_1, hb_g6, hx⟩
    ·
      intro n30 f w_ hI
      rw [hI30] at hI
      obtain ⟨i_28, suf30, g23_1_29, v29_g23_1, rfl, hd30, hl30, hL30, sf1, sf2, sf3, sf4, ho22, hv29_g23_1, hb_g23, hb_g8, h0_0, h0_1, hb_g6, hx⟩ := hI
      refine W_seq ?_
      refine W_seq ?_
      refine W_region ?_
      refine L_mv (v := .int .i64 (i_28 : Int)) rfl sf4 ?_
      refine L_fa (o' := 1) rfl fa_26_1 sf1 rfl ?_
      refine L_ld (v := v0_1) rfl Try.isAgg24 rfl (hb_g6.cell (j := 1) rfl) ?_
      refine L_len (v := v0_1) rfl Try.underlying24 rfl h0_1 ?_
      refine L_lss (m := (i_28 : Int)) (n := (m.rules.length : Int)) rfl rfl rfl ?_
      refine L_nil ?_
      refine W_cond (b := decide ((i_28 : Int) < (m.rules.length : Int))) rfl (fun hc31 => ?_) (fun hc31 => ?_)
      ·
        have hlt30 := of_decide_eq_true hc31
        cases suf30 with
        | nil => exact absurd hlt30 (by simp at hl30; omega)
        | cons x_30 rest30 =>
          obtain ⟨o30, hB30, hL30⟩ := range_cons hL30
          rw [s_l6Copy_b1] at hB30
          have hix30 := drop_idx hd30
          refine W_skip ?_
          refine W_seq ?_
          refine W_block ?_
          refine W_seq ?_
          obtain ⟨wL32, hwL32⟩ : ∃ x, x = w_ := ⟨_, rfl⟩
          subst hwL32
          have ho22_s32 := ho22
          have ho22 := rel0 (Own.rel ho22)
          have hv29_g23_1_s32 := hv29_g23_1
          have hv29_g23_1 := rel0 (ownR hv29_g23_1)
          have hb_g23_s32 := hb_g23
          have hb_g8_s32 := hb_g8
          have h0_0_s32 := h0_0
          have h0_0 := rel0 h0_0
          have h0_1_s32 := h0_1
          have h0_1 := rel0 h0_1
          have hb_g6_s32 := hb_g6
          have hx_s32 := hx
          have hB_s32 := hB
          have hB : B ≤ wL32.heap.size := Nat.le_trans hB hx.size
          have hx := ext_refl wL32
          refine W_region ?_
          refine L_fa (o' := 1) rfl fa_26_1 sf1 rfl ?_
          refine L_ld (v := v0_1) rfl Try.isAgg24 rfl (hb_g6.cell (j := 1) rfl) ?_
          refine L_mv (v := .int .i64 (i_28 : Int)) rfl sf4 ?_
          refine L_ix (r := (rRule 3 23)) rfl Try.underlying24 Try.sizeOf36 rfl h0_1 rfl hix30 ?_
          intro g38 o39 cs39 hr39 hat39
          obtain ⟨u39_0, u39_1, u39_2, rfl, hu39_0, hu39_1, hu39_2⟩ := rRule_iff.1 hr39
          refine L_lda (cs := [.int .i64 x_30.kind, u39_0, u39_1, .int .i64 x_30.bound, u39_2]) rfl Try.isAgg36 Try.sizeOf36 rfl (At.sub hat39 0 5) rfl ?_
          refine L_al (cs := #[.int .i64 0, (.slice none 0 0), (.slice none 0 0), .int .i64 0, (.slice none 0 0)]) rfl Try.zeroValue36 rfl ?_
          intro g40 w41 hn41
          have hge_g40 := hn41.geS hx.size
          have hb_g40 := hn41.blk
          have ho22 := RP.ext ho22 hn41.ext
          have hv29_g23_1 := RP.ext hv29_g23_1 hn41.ext
          have hb_g23 := Blk.ext hb_g23 hn41.ext
          have hb_g8 := Blk.ext hb_g8 hn41.ext
          have h0_0 := RP.ext h0_0 hn41.ext
          have h0_1 := RP.ext h0_1 hn41.ext
          have hb_g6 := Blk.ext hb_g6 hn41.ext
          have hu39_0 := RP.ext hu39_0 hn41.ext
          have hu39_1 := RP.ext hu39_1 hn41.ext
          have hu39_2 := RP.ext hu39_2 hn41.ext
          have hx := ext_trans hx hn41.ext
          refine L_sta (vs := #[.int .i64 x_30.kind, u39_0, u39_1, .int .i64 x_30.bound, u39_2]) rfl Try.sizeOf36 rfl rfl rfl (ones_cons rfl (ones_cons (one_of hu39_0) (ones_cons (one_of hu39_1) (ones_cons rfl (ones_cons (one_of hu39_2) ones_nil))))) hb_g40 rfl ?_
          intro w42 hp42
          have ho22 := hp42.mu.rel ho22 (by first | decide | (rw [rRuleN_ts]; decide) | (rw [sliceN_ts, int_ts]; decide) | (rw [sliceN_ts, sliceN_ts, int_ts]; decide)) (Nat.le_trans hB hge_g40)
          have hv29_g23_1 := hp42.mu.rel_lo hv29_g23_1 hge_g40
          have hb_g23 := hp42.mu.blk hb_g23 (by first | decide | (rw [rRuleN_ts]; decide) | (rw [sliceN_ts, int_ts]; decide) | (rw [sliceN_ts, sliceN_ts, int_ts]; decide))
          have hb_g8 := hp42.mu.blk hb_g8 (by first | decide | (rw [rRuleN_ts]; decide) | (rw [sliceN_ts, int_ts]; decide) | (rw [sliceN_ts, sliceN_ts, int_ts]; decide))
          have h0_0 := hp42.mu.rel h0_0 (by first | decide | (rw [rRuleN_ts]; decide) | (rw [sliceN_ts, int_ts]; decide) | (rw [sliceN_ts, sliceN_ts, int_ts]; decide)) (Nat.le_trans hB hge_g40)
          have h0_1 := hp42.mu.rel_lo h0_1 hge_g40
          have hb_g6 := hp42.mu.blk hb_g6 (by first | decide | (rw [rRuleN_ts]; decide) | (rw [sliceN_ts, int_ts]; decide) | (rw [sliceN_ts, sliceN_ts, int_ts]; decide))
          have hu39_0 := hp42.mu.rel hu39_0 (by first | decide | (rw [rRuleN_ts]; decide) | (rw [sliceN_ts, int_ts]; decide) | (rw [sliceN_ts, sliceN_ts, int_ts]; decide)) (Nat.le_trans hB hge_g40)
          have hu39_1 := hp42.mu.rel hu39_1 (by first | decide | (rw [rRuleN_ts]; decide) | (rw [sliceN_ts, int_ts]; decide) | (rw [sliceN_ts, sliceN_ts, int_ts]; decide)) (Nat.le_trans hB hge_g40)
          have hu39_2 := hp42.mu.rel hu39_2 (by first | decide | (rw [rRuleN_ts]; decide) | (rw [sliceN_ts, int_ts]; decide) | (rw [sliceN_ts, sliceN_ts, int_ts]; decide)) (Nat.le_trans hB hge_g40)
          have hx := ext_mut hx hp42.mu hge_g40
          have hb_g40 : Blk w42 g40 36 #[.int .i64 x_30.kind, u39_0, u39_1, .int .i64 x_30.bound, u39_2] := hp42.blk
          refine L_nil ?_
          refine W_seq ?_
          obtain ⟨x45, hx45, hB30⟩ := bind_some hB30
          obtain ⟨x51, hx51, hB30⟩ := bind_some hB30
          have hszR := hx.size
          have hlt70 := hb_g40.lt
          refine W_drawL 14 [isV (.pointer (some ⟨g40, 0, none⟩)), isV (.int .i64 x_30.kind), isZero 3 wL32.heap.size, isV (.pointer (some ⟨g40, 1, none⟩)), isV (u39_0), isData B (RP.sliceN g23 3 RP.int) x45, isZero 3 wL32.heap.size, isV (.pointer (some ⟨g40, 2, none⟩)), isV (u39_1), isData B (RP.sliceN g23 3 RP.int) x51, isV (.pointer (some ⟨g40, 3, none⟩)), isV (.int .i64 x_30.bound), exD (isData B (RP.sliceN g23 3 RP.int) x45) fun u_1 => exD (isData B (RP.sliceN g23 3 RP.int) x51) fun u_2 => isV (.agg #[.int .i64 x_30.kind, u_1, u_2, .int .i64 x_30.bound, (.slice none 0 0)]), isNew 36 w42.heap.size #[.int .i64 0, (.slice none 0 0), (.slice none 0 0), .int .i64 0, (.slice none 0 0)]] Try_mix (by kernel_rfl) (am_cons (mono_V _) (am_cons (mono_V _) (am_cons (mono_zero _ _) (am_cons (mono_V _) (am_cons (mono_V _) (am_cons (mono_data _ _ _) (am_cons (mono_zero _ _) (am_cons (mono_V _) (am_cons (mono_V _) (am_cons (mono_data _ _ _) (am_cons (mono_V _) (am_cons (mono_V _) (am_cons (mono_exD (mono_data _ _ _) fun _ => mono_exD (mono_data _ _ _) fun _ => mono_V _) (am_cons (mono_new _ _ _) am_nil)))))))))))))) ?_ (fun f w_ hS59 hE59 hT59 => ?_)
          ·
            refine ops_cons (fun f w_ hS59 hE59 hP59 => ?_) ?_
            ·
              have hx := ext_trans hx hE59
              have hu39_0 := RP.ext hu39_0 hE59
              have hu39_1 := RP.ext hu39_1 hE59
              have hu39_2 := RP.ext hu39_2 hE59
              have hb_g40 := Blk.ext hb_g40 hE59
              refine L_fa (o' := 0) rfl fa_36_0 ((hS59 5 rfl).trans rfl) rfl ?_
              exact L_nil ⟨rfl, (ext_refl _), _, _, rfl, rfl, rfl⟩
            refine ops_cons (fun f w_ hS59 hE59 hP59 => ?_) ?_
            ·
              have hx := ext_trans hx hE59
              have hu39_0 := RP.ext hu39_0 hE59
              have hu39_1 := RP.ext hu39_1 hE59
              have hu39_2 := RP.ext hu39_2 hE59
              have hb_g40 := Blk.ext hb_g40 hE59
              refine L_ld (v := .int .i64 x_30.kind) rfl Try.isAgg3 (hP59 0 25 rfl rfl) (hb_g40.cell (j := 0) rfl) ?_
              exact L_nil ⟨rfl, (ext_refl _), _, _, rfl, rfl, rfl⟩
            refine ops_cons (fun f w_ hS59 hE59 hP59 => ?_) ?_
            ·
              have hx := ext_trans hx hE59
              refine L_bs rfl parts0 (bs_23_0  ) ?_
              intro g71 w72 hn72
              have ho72 : Own RP.int 3 wL32.heap.size B w72 _ _ := own_new0 hn72 hx.size
              have hz72 := zero_new hn72 hx.size
              have hx := ext_trans hx hn72.ext
              exact L_nil ⟨rfl, hn72.ext, _, _, rfl, rfl, hz72⟩
            refine ops_cons (fun f w_ hS59 hE59 hP59 => ?_) ?_
            ·
              have hx := ext_trans hx hE59
              have hu39_0 := RP.ext hu39_0 hE59
              have hu39_1 := RP.ext hu39_1 hE59
              have hu39_2 := RP.ext hu39_2 hE59
              have hb_g40 := Blk.ext hb_g40 hE59
              refine L_fa (o' := 1) rfl fa_36_1 ((hS59 5 rfl).trans rfl) rfl ?_
              exact L_nil ⟨rfl, (ext_refl _), _, _, rfl, rfl, rfl⟩
            refine ops_cons (fun f w_ hS59 hE59 hP59 => ?_) ?_
            ·
              have hx := ext_trans hx hE59
              have hu39_0 := RP.ext hu39_0 hE59
              have hu39_1 := RP.ext hu39_1 hE59
              have hu39_2 := RP.ext hu39_2 hE59
              have hb_g40 := Blk.ext hb_g40 hE59
              refine L_ld (v := u39_0) rfl Try.isAgg23 (hP59 3 28 rfl rfl) (hb_g40.cell (j := 1) rfl) ?_
              exact L_nil ⟨rfl, (ext_refl _), _, _, rfl, rfl, rfl⟩
            refine ops_cons (fun f w_ hS59 hE59 hP59 => ?_) ?_
            ·
              have hx := ext_trans hx hE59
              have hu39_0 := RP.ext hu39_0 hE59
              have hz73 := (hP59 2 27 rfl rfl)
              have hz73o := own_zero (r := RP.int) (B := B) hz73
              refine L_appZN (v := (f 27)) (u := u39_0) (B := B) rfl et_23 (by first | decide | (rw [rRuleN_ts]; decide) | (rw [sliceN_ts, int_ts]; decide) | (rw [sliceN_ts, sliceN_ts, int_ts]; decide)) rfl (hP59 4 29 rfl rfl) (.inr hz73) (rel0 hu39_0) hx45 hx.size (Nat.le_trans hB hx.size) ?_
              intro v74 w74 ho74 he74
              have hu39_0 := RP.ext hu39_0 he74
              have hz73o := Own.ext hz73o he74
              have hx := ext_trans hx he74
              have ho74 := sliceN_mono ho74 (Nat.le_of_lt hb_g23_s32.lt)
              exact L_nil ⟨rfl, he74, _, _, rfl, rfl, (rel0 ho74)⟩
            refine ops_cons (fun f w_ hS59 hE59 hP59 => ?_) ?_
            ·
              have hx := ext_trans hx hE59
              refine L_bs rfl parts0 (bs_23_0  ) ?_
              intro g75 w76 hn76
              have ho76 : Own RP.int 3 wL32.heap.size B w76 _ _ := own_new0 hn76 hx.size
              have hz76 := zero_new hn76 hx.size
              have hx := ext_trans hx hn76.ext
              exact L_nil ⟨rfl, hn76.ext, _, _, rfl, rfl, hz76⟩
            refine ops_cons (fun f w_ hS59 hE59 hP59 => ?_) ?_
            ·
              have hx := ext_trans hx hE59
              have hu39_0 := RP.ext hu39_0 hE59
              have hu39_1 := RP.ext hu39_1 hE59
              have hu39_2 := RP.ext hu39_2 hE59
              have hb_g40 := Blk.ext hb_g40 hE59
              refine L_fa (o' := 2) rfl fa_36_2 ((hS59 5 rfl).trans rfl) rfl ?_
              exact L_nil ⟨rfl, (ext_refl _), _, _, rfl, rfl, rfl⟩
            refine ops_cons (fun f w_ hS59 hE59 hP59 => ?_) ?_
            ·
              have hx := ext_trans hx hE59
              have hu39_0 := RP.ext hu39_0 hE59
              have hu39_1 := RP.ext hu39_1 hE59
              have hu39_2 := RP.ext hu39_2 hE59
              have hb_g40 := Blk.ext hb_g40 hE59
              refine L_ld (v := u39_1) rfl Try.isAgg23 (hP59 7 32 rfl rfl) (hb_g40.cell (j := 2) rfl) ?_
              exact L_nil ⟨rfl, (ext_refl _), _, _, rfl, rfl, rfl⟩
            refine ops_cons (fun f w_ hS59 hE59 hP59 => ?_) ?_
            ·
              have hx := ext_trans hx hE59
              have hu39_1 := RP.ext hu39_1 hE59
              have hz77 := (hP59 6 31 rfl rfl)
              have hz77o := own_zero (r := RP.int) (B := B) hz77
              refine L_appZN (v := (f 31)) (u := u39_1) (B := B) rfl et_23 (by first | decide | (rw [rRuleN_ts]; decide) | (rw [sliceN_ts, int_ts]; decide) | (rw [sliceN_ts, sliceN_ts, int_ts]; decide)) rfl (hP59 8 33 rfl rfl) (.inr hz77) (rel0 hu39_1) hx51 hx.size (Nat.le_trans hB hx.size) ?_
              intro v78 w78 ho78 he78
              have hu39_1 := RP.ext hu39_1 he78
              have hz77o := Own.ext hz77o he78
              have hx := ext_trans hx he78
              have ho78 := sliceN_mono ho78 (Nat.le_of_lt hb_g23_s32.lt)
              exact L_nil ⟨rfl, he78, _, _, rfl, rfl, (rel0 ho78)⟩
            refine ops_cons (fun f w_ hS59 hE59 hP59 => ?_) ?_
            ·
              have hx := ext_trans hx hE59
              have hu39_0 := RP.ext hu39_0 hE59
              have hu39_1 := RP.ext hu39_1 hE59
              have hu39_2 := RP.ext hu39_2 hE59
              have hb_g40 := Blk.ext hb_g40 hE59
              refine L_fa (o' := 3) rfl fa_36_3 ((hS59 5 rfl).trans rfl) rfl ?_
              exact L_nil ⟨rfl, (ext_refl _), _, _, rfl, rfl, rfl⟩
            refine ops_cons (fun f w_ hS59 hE59 hP59 => ?_) ?_
            ·
              have hx := ext_trans hx hE59
              have hu39_0 := RP.ext hu39_0 hE59
              have hu39_1 := RP.ext hu39_1 hE59
              have hu39_2 := RP.ext hu39_2 hE59
              have hb_g40 := Blk.ext hb_g40 hE59
              refine L_ld (v := .int .i64 x_30.bound) rfl Try.isAgg3 (hP59 10 35 rfl rfl) (hb_g40.cell (j := 3) rfl) ?_
              exact L_nil ⟨rfl, (ext_refl _), _, _, rfl, rfl, rfl⟩
            refine ops_cons (fun f w_ hS59 hE59 hP59 => ?_) ?_
            ·
              have hx := ext_trans hx hE59
              have hd79 := (hP59 9 34 rfl rfl)
              have hd80 := (hP59 5 30 rfl rfl)
              refine L_bld rfl (parts4 (hP59 1 26 rfl rfl) rfl rfl (hP59 11 36 rfl rfl)) (bld_36_0_1_2_3 (.int .i64 x_30.kind) ((f 30)) ((f 34)) (.int .i64 x_30.bound) rfl (one_of (And.left hd80)) (one_of (And.left hd79)) rfl) ?_
              exact L_nil ⟨rfl, (ext_refl _), _, _, rfl, rfl, ⟨_, (rel0 hd80), _, (rel0 hd79), rfl⟩⟩
            refine ops_cons (fun f w_ hS59 hE59 hP59 => ?_) ?_
            ·
              have hx := ext_trans hx hE59
              refine L_al (cs := #[.int .i64 0, (.slice none 0 0), (.slice none 0 0), .int .i64 0, (.slice none 0 0)]) rfl Try.zeroValue36 rfl ?_
              intro g81 w82 hn82
              have hge_g81 := hn82.geS hx.size
              have hb_g81 := hn82.blk
              have hx := ext_trans hx hn82.ext
              exact L_nil ⟨rfl, hn82.ext, _, _, rfl, rfl, ⟨_, rfl, Nat.le_trans hE59.size (hn82.geS (Nat.le_refl _)), hb_g81⟩⟩
            exact ops_nil
          ·
            have ho22 := RP.ext ho22 hE59
            have hv29_g23_1 := RP.ext hv29_g23_1 hE59
            have hb_g23 := Blk.ext hb_g23 hE59
            have hb_g8 := Blk.ext hb_g8 hE59
            have h0_0 := RP.ext h0_0 hE59
            have h0_1 := RP.ext h0_1 hE59
            have hb_g6 := Blk.ext hb_g6 hE59
            have hu39_0 := RP.ext hu39_0 hE59
            have hu39_1 := RP.ext hu39_1 hE59
            have hu39_2 := RP.ext hu39_2 hE59
            have hb_g40 := Blk.ext hb_g40 hE59
            have hx := ext_trans hx hE59
            obtain ⟨u83_1, hu83_1, u83_2, hu83_2, hv83⟩ := (hT59 12 37 rfl rfl)
            obtain ⟨g84, hv84, hgz84, hb_g84⟩ := (hT59 13 6 rfl rfl)
            have hge_g84 := Nat.le_trans hszR hgz84
            have ap85 := ap_lt hlt70 hgz84
            refine L_sta (vs := #[.int .i64 x_30.kind, u83_1, u83_2, .int .i64 x_30.bound, (.slice none 0 0)]) rfl Try.sizeOf36 hv84 hv83 rfl (ones_cons rfl (ones_cons (one_of (And.left hu83_1)) (ones_cons (one_of (And.left hu83_2)) (ones_cons rfl (ones_cons rfl ones_nil))))) hb_g84 rfl ?_
            intro w86 hp86
            have ho22 := hp86.mu.rel ho22 (by first | decide | (rw [rRuleN_ts]; decide) | (rw [sliceN_ts, int_ts]; decide) | (rw [sliceN_ts, sliceN_ts, int_ts]; decide)) (Nat.le_trans hB hge_g84)
            have hv29_g23_1 := hp86.mu.rel_lo hv29_g23_1 hge_g84
            have hb_g23 := hp86.mu.blk hb_g23 (by first | decide | (rw [rRuleN_ts]; decide) | (rw [sliceN_ts, int_ts]; decide) | (rw [sliceN_ts, sliceN_ts, int_ts]; decide))
            have hb_g8 := hp86.mu.blk hb_g8 (by first | decide | (rw [rRuleN_ts]; decide) | (rw [sliceN_ts, int_ts]; decide) | (rw [sliceN_ts, sliceN_ts, int_ts]; decide))
            have h0_0 := hp86.mu.rel h0_0 (by first | decide | (rw [rRuleN_ts]; decide) | (rw [sliceN_ts, int_ts]; decide) | (rw [sliceN_ts, sliceN_ts, int_ts]; decide)) (Nat.le_trans hB hge_g84)
            have h0_1 := hp86.mu.rel_lo h0_1 hge_g84
            have hb_g6 := hp86.mu.blk hb_g6 (by first | decide | (rw [rRuleN_ts]; decide) | (rw [sliceN_ts, int_ts]; decide) | (rw [sliceN_ts, sliceN_ts, int_ts]; decide))
            have hu39_0 := hp86.mu.rel hu39_0 (by first | decide | (rw [rRuleN_ts]; decide) | (rw [sliceN_ts, int_ts]; decide) | (rw [sliceN_ts, sliceN_ts, int_ts]; decide)) (Nat.le_trans hB hge_g84)
            have hu39_1 := hp86.mu.rel hu39_1 (by first | decide | (rw [rRuleN_ts]; decide) | (rw [sliceN_ts, int_ts]; decide) | (rw [sliceN_ts, sliceN_ts, int_ts]; decide)) (Nat.le_trans hB hge_g84)
            have hu39_2 := hp86.mu.rel hu39_2 (by first | decide | (rw [rRuleN_ts]; decide) | (rw [sliceN_ts, int_ts]; decide) | (rw [sliceN_ts, sliceN_ts, int_ts]; decide)) (Nat.le_trans hB hge_g84)
            have hb_g40 := hp86.mu.blkA hb_g40 (Ap.symm ap85)
            have hu83_1 := hp86.mu.rel hu83_1 (by first | decide | (rw [rRuleN_ts]; decide) | (rw [sliceN_ts, int_ts]; decide) | (rw [sliceN_ts, sliceN_ts, int_ts]; decide)) (Nat.le_trans hB hge_g84)
            have hu83_2 := hp86.mu.rel hu83_2 (by first | decide | (rw [rRuleN_ts]; decide) | (rw [sliceN_ts, int_ts]; decide) | (rw [sliceN_ts, sliceN_ts, int_ts]; decide)) (Nat.le_trans hB hge_g84)
            have hx := ext_mut hx hp86.mu hge_g84
            have hb_g84 : Blk w86 g84 36 #[.int .i64 x_30.kind, u83_1, u83_2, .int .i64 x_30.bound, (.slice none 0 0)] := hp86.blk
            refine L_nil ?_
            refine W_seq ?_
            refine W_seq ?_
            refine W_region ?_
            refine L_as (v := .int .i64 0) rfl rfl ?_
            refine L_nil ?_
            have hlen89 := len_le hu39_2
            obtain ⟨j89, hL89, hB30⟩ := bind_some hB30
            obtain ⟨R89, hR89⟩ : ∃ R : Fr → World → Prop, R = fun f w_ => ∃ g84_4_88 : List (List Int), ∃ v88_g84_4 : Value, j89 = .nx g84_4_88 ∧ f 1 = .pointer (some ⟨g6, 0, none⟩) ∧ f 2 = .pointer (some ⟨g8, 0, none⟩) ∧ f 3 = .pointer (some ⟨g23, 0, none⟩) ∧ f 4 = .int .i64 (i_28 : Int) ∧ f 6 = .pointer (some ⟨g84, 0, none⟩) ∧ (RP.sliceN g23 3 RP.int).rel B w_.heap.size w_ [u83_1] x45 ∧ (RP.sliceN g23 3 RP.int).rel B w_.heap.size w_ [u83_2] x51 ∧ Own (RP.sliceN g23 3 RP.int) 23 wL32.heap.size B w_ v88_g84_4 g84_4_88 ∧ Blk w_ g84 36 #[.int .i64 x_30.kind, u83_1, u83_2, .int .i64 x_30.bound, v88_g84_4] ∧ (RP.slice 3 RP.int).rel B wL32.heap.size w_ [v22] x13 ∧ (RP.slice 36 (rRule 3 23)).rel B wL32.heap.size w_ [v29_g23_1] g23_1_29 ∧ Blk w_ g23 26 #[v22, v29_g23_1] ∧ Blk w_ g8 26 #[(.slice none 0 0), (.slice none 0 0)] ∧ (RP.slice 3 RP.int).rel B wL32.heap.size w_ [v0_0] m.sizes ∧ (RP.slice 36 (rRule 3 23)).rel B wL32.heap.size w_ [v0_1] m.rules ∧ Blk w_ g6 26 #[v0_0, v0_1] ∧ Ext wL32 w_ := ⟨_, rfl⟩
            refine W_join R89 ?_ ?_
            ·
              refine W_block ?_
              obtain ⟨I89, hI89⟩ : ∃ I : Nat → Fr → World → Prop, I = fun n f w_ => ∃ i_87 : Nat, ∃ suf89 : List (List Int), ∃ g84_4_88 : List (List Int), ∃ v88_g84_4 : Value, n = suf89.length ∧ List.drop i_87 x_30.rows = suf89 ∧ i_87 + suf89.length = x_30.rows.length ∧ rangeL s_l6Copy_b2 suf89 i_87 g84_4_88 = some j89 ∧ f 1 = .pointer (some ⟨g6, 0, none⟩) ∧ f 2 = .pointer (some ⟨g8, 0, none⟩) ∧ f 3 = .pointer (some ⟨g23, 0, none⟩) ∧ f 4 = .int .i64 (i_28 : Int) ∧ f 5 = .pointer (some ⟨g40, 0, none⟩) ∧ f 6 = .pointer (some ⟨g84, 0, none⟩) ∧ f 7 = .int .i64 (i_87 : Int) ∧ (RP.sliceN g23 3 RP.int).rel B w_.heap.size w_ [u83_1] x45 ∧ (RP.sliceN g23 3 RP.int).rel B w_.heap.size w_ [u83_2] x51 ∧ Own (RP.sliceN g23 3 RP.int) 23 wL32.heap.size B w_ v88_g84_4 g84_4_88 ∧ Blk w_ g84 36 #[.int .i64 x_30.kind, u83_1, u83_2, .int .i64 x_30.bound, v88_g84_4] ∧ (RP.slice 3 RP.int).rel B wL32.heap.size w_ [u39_0] x_30.vars ∧ (RP.slice 3 RP.int).rel B wL32.heap.size w_ [u39_1] x_30.coefs ∧ (RP.slice 23 (RP.slice 3 RP.int)).rel B wL32.heap.size w_ [u39_2] x_30.rows ∧ Blk w_ g40 36 #[.int .i64 x_30.kind, u39_0, u39_1, .int .i64 x_30.bound, u39_2] ∧ (RP.slice 3 RP.int).rel B wL32.heap.size w_ [v22] x13 ∧ (RP.slice 36 (rRule 3 23)).rel B wL32.heap.size w_ [v29_g23_1] g23_1_29 ∧ Blk w_ g23 26 #[v22, v29_g23_1] ∧ Blk w_ g8 26 #[(.slice none 0 0), (.slice none 0 0)] ∧ (RP.slice 3 RP.int).rel B wL32.heap.size w_ [v0_0] m.sizes ∧ (RP.slice 36 (rRule 3 23)).rel B wL32.heap.size w_ [v0_1] m.rules ∧ Blk w_ g6 26 #[v0_0, v0_1] ∧ Ext wL32 w_ := ⟨_, rfl⟩
              refine W_loop I89 (n := x_30.rows.length) ?_ ?_
              · rw [hI89]; exact ⟨0, x_30.rows, [], (.slice none 0 0), rfl, rfl, Nat.zero_add _, hL89, ((hS59 1 rfl).trans sf1), ((hS59 2 rfl).trans sf2), ((hS59 3 rfl).trans sf3), ((hS59 4 rfl).trans sf4), ((hS59 5 rfl).trans rfl), hv84, rfl, (rel0 hu83_1), (rel0 hu83_2), (Own.nil _ _ _ _ _), hb_g84, hu39_0, hu39_1, hu39_2, hb_g40, ho22, hv29_g23_1, hb_g23, hb_g8, h0_0, h0_1, hb_g6, hx⟩
              ·
                intro n89 f w_ hI
                rw [hI89] at hI
                obtain ⟨i_87, suf89, g84_4_88, v88_g84_4, rfl, hd89, hl89, hL89, sf1, sf2, sf3, sf4, sf5, sf6, sf7, hu83_1, hu83_2, hv88_g84_4, hb_g84, hu39_0, hu39_1, hu39_2, hb_g40, ho22, hv29_g23_1, hb_g23, hb_g8, h0_0, h0_1, hb_g6, hx⟩ := hI
                refine W_seq ?_
                refine W_seq ?_
                refine W_region ?_
                refine L_mv (v := .int .i64 (i_87 : Int)) rfl sf7 ?_
                refine L_fa (o' := 4) rfl fa_36_4 sf5 rfl ?_
                refine L_ld (v := u39_2) rfl Try.isAgg34 rfl (hb_g40.cell (j := 4) rfl) ?_
                refine L_len (v := u39_2) rfl Try.underlying34 rfl hu39_2 ?_
                refine L_lss (m := (i_87 : Int)) (n := (x_30.rows.length : Int)) rfl rfl rfl ?_
                refine L_nil ?_
                refine W_cond (b := decide ((i_87 : Int) < (x_30.rows.length : Int))) rfl (fun hc90 => ?_) (fun hc90 => ?_)
                ·
                  have hlt89 := of_decide_eq_true hc90
                  cases suf89 with
                  | nil => exact absurd hlt89 (by simp at hl89; omega)
                  | cons x_89 rest89 =>
                    obtain ⟨o89, hB89, hL89⟩ := range_cons hL89
                    rw [s_l6Copy_b2] at hB89
                    have hix89 := drop_idx hd89
                    refine W_skip ?_
                    refine W_seq ?_
                    refine W_block ?_
                    obtain ⟨x95, hx95, hB89⟩ := bind_some hB89
                    obtain ⟨x100, hx100, hB89⟩ := bind_some hB89
                    refine W_drawL 10 [isV (.pointer (some ⟨g84, 4, none⟩)), isV (v88_g84_4), isZero 3 wL32.heap.size, isV (.pointer (some ⟨g40, 4, none⟩)), isV (u39_2), isV (.int .i64 (i_87 : Int)), isEl B (RP.slice 3 RP.int) x_89 0, isData B (RP.slice 3 RP.int) x_89, isData B (RP.sliceN g23 3 RP.int) x95, isOwn B (RP.sliceN g23 3 RP.int) 23 wL32.heap.size ([x95])] Try_mix (by kernel_rfl) (am_cons (mono_V _) (am_cons (mono_V _) (am_cons (mono_zero _ _) (am_cons (mono_V _) (am_cons (mono_V _) (am_cons (mono_V _) (am_cons (mono_el _ _ _ _) (am_cons (mono_data _ _ _) (am_cons (mono_data _ _ _) (am_cons (mono_own _ _ _ _ _) am_nil)))))))))) ?_ (fun f w_ hS104 hE104 hT104 => ?_)
                    ·
                      refine ops_cons (fun f w_ hS104 hE104 hP104 => ?_) ?_
                      ·
                        have hx := ext_trans hx hE104
                        have hu83_1 := RP.ext hu83_1 hE104
                        have hu83_2 := RP.ext hu83_2 hE104
                        have hv88_g84_4 := Own.ext hv88_g84_4 hE104
                        have hb_g84 := Blk.ext hb_g84 hE104
                        refine L_fa (o' := 4) rfl fa_36_4 ((hS104 6 rfl).trans sf6) rfl ?_
                        exact L_nil ⟨rfl, (ext_refl _), _, _, rfl, rfl, rfl⟩
                      refine ops_cons (fun f w_ hS104 hE104 hP104 => ?_) ?_
                      ·
                        have hx := ext_trans hx hE104
                        have hu83_1 := RP.ext hu83_1 hE104
                        have hu83_2 := RP.ext hu83_2 hE104
                        have hv88_g84_4 := Own.ext hv88_g84_4 hE104
                        have hb_g84 := Blk.ext hb_g84 hE104
                        refine L_ld (v := v88_g84_4) rfl Try.isAgg34 (hP104 0 45 rfl rfl) (hb_g84.cell (j := 4) rfl) ?_
                        exact L_nil ⟨rfl, (ext_refl _), _, _, rfl, rfl, rfl⟩
                      refine ops_cons (fun f w_ hS104 hE104 hP104 => ?_) ?_
                      ·
                        have hx := ext_trans hx hE104
                        refine L_bs rfl parts0 (bs_23_0  ) ?_
                        intro g113 w114 hn114
                        have ho114 : Own RP.int 3 wL32.heap.size B w114 _ _ := own_new0 hn114 hx.size
                        have hz114 := zero_new hn114 hx.size
                        have hx := ext_trans hx hn114.ext
                        exact L_nil ⟨rfl, hn114.ext, _, _, rfl, rfl, hz114⟩
                      refine ops_cons (fun f w_ hS104 hE104 hP104 => ?_) ?_
                      ·
                        have hx := ext_trans hx hE104
                        have hu39_0 := RP.ext hu39_0 hE104
                        have hu39_1 := RP.ext hu39_1 hE104
                        have hu39_2 := RP.ext hu39_2 hE104
                        have hb_g40 := Blk.ext hb_g40 hE104
                        refine L_fa (o' := 4) rfl fa_36_4 ((hS104 5 rfl).trans sf5) rfl ?_
                        exact L_nil ⟨rfl, (ext_refl _), _, _, rfl, rfl, rfl⟩
                      refine ops_cons (fun f w_ hS104 hE104 hP104 => ?_) ?_
                      ·
                        have hx := ext_trans hx hE104
                        have hu39_0 := RP.ext hu39_0 hE104
                        have hu39_1 := RP.ext hu39_1 hE104
                        have hu39_2 := RP.ext hu39_2 hE104
                        have hb_g40 := Blk.ext hb_g40 hE104
                        refine L_ld (v := u39_2) rfl Try.isAgg34 (hP104 3 48 rfl rfl) (hb_g40.cell (j := 4) rfl) ?_
                        exact L_nil ⟨rfl, (ext_refl _), _, _, rfl, rfl, rfl⟩
                      refine ops_cons (fun f w_ hS104 hE104 hP104 => ?_) ?_
                      ·
                        have hx := ext_trans hx hE104
                        refine L_mv (v := .int .i64 (i_87 : Int)) rfl ((hS104 7 rfl).trans sf7) ?_
                        exact L_nil ⟨rfl, (ext_refl _), _, _, rfl, rfl, rfl⟩
                      refine ops_cons (fun f w_ hS104 hE104 hP104 => ?_) ?_
                      ·
                        have hx := ext_trans hx hE104
                        have hu39_2 := RP.ext hu39_2 hE104
                        refine L_ix (r := (RP.slice 3 RP.int)) rfl Try.underlying34 Try.sizeOf23 (hP104 4 49 rfl rfl) hu39_2 (hP104 5 50 rfl rfl) hix89 ?_
                        intro g115 o116 cs116 hr116 hat116
                        obtain ⟨u116, rfl, hu116⟩ := slice1 hr116
                        exact L_nil ⟨rfl, (ext_refl _), _, _, rfl, rfl, ⟨_, _, _, rfl, (rel0 hr116), hat116⟩⟩
                      refine ops_cons (fun f w_ hS104 hE104 hP104 => ?_) ?_
                      ·
                        have hx := ext_trans hx hE104
                        obtain ⟨g117, o117, cs117, hv117, hr117, hat117⟩ := (hP104 6 51 rfl rfl)
                        obtain ⟨u117, rfl, hu117⟩ := slice1 hr117
                        refine L_ld (v := u117) rfl Try.isAgg23 hv117 (hat117.cell (j := 0) rfl) ?_
                        exact L_nil ⟨rfl, (ext_refl _), _, _, rfl, rfl, (rel0 hu117)⟩
                      refine ops_cons (fun f w_ hS104 hE104 hP104 => ?_) ?_
                      ·
                        have hx := ext_trans hx hE104
                        have hd118 := (hP104 7 52 rfl rfl)
                        have hz119 := (hP104 2 47 rfl rfl)
                        have hz119o := own_zero (r := RP.int) (B := B) hz119
                        refine L_appZN (v := (f 47)) (u := (f 52)) (B := B) rfl et_23 (by first | decide | (rw [rRuleN_ts]; decide) | (rw [sliceN_ts, int_ts]; decide) | (rw [sliceN_ts, sliceN_ts, int_ts]; decide)) rfl rfl (.inr hz119) (rel0 hd118) hx95 hx.size (Nat.le_trans hB hx.size) ?_
                        intro v120 w120 ho120 he120
                        have hd118 := RP.ext hd118 he120
                        have hz119o := Own.ext hz119o he120
                        have hx := ext_trans hx he120
                        have ho120 := sliceN_mono ho120 (Nat.le_of_lt hb_g23_s32.lt)
                        exact L_nil ⟨rfl, he120, _, _, rfl, rfl, (rel0 ho120)⟩
                      refine ops_cons (fun f w_ hS104 hE104 hP104 => ?_) ?_
                      ·
                        have hx := ext_trans hx hE104
                        have hd121 := (hP104 8 53 rfl rfl)
                        refine L_bs rfl (parts1 rfl) (bs_34_1_0 ((f 53)) (one_of (And.left hd121))) ?_
                        intro g122 w123 hn123
                        have ho123 : Own (RP.sliceN g23 3 RP.int) 23 wL32.heap.size B w123 _ [x95] := own_new1 hn123 hx.size (rel0 hd121)
                        have hd121 := RP.ext hd121 hn123.ext
                        have hx := ext_trans hx hn123.ext
                        exact L_nil ⟨rfl, hn123.ext, _, _, rfl, rfl, ho123⟩
                      exact ops_nil
                    ·
                      have hu83_1 := RP.ext hu83_1 hE104
                      have hu83_2 := RP.ext hu83_2 hE104
                      have hv88_g84_4 := Own.ext hv88_g84_4 hE104
                      have hb_g84 := Blk.ext hb_g84 hE104
                      have hu39_0 := RP.ext hu39_0 hE104
                      have hu39_1 := RP.ext hu39_1 hE104
                      have hu39_2 := RP.ext hu39_2 hE104
                      have hb_g40 := Blk.ext hb_g40 hE104
                      have ho22 := RP.ext ho22 hE104
                      have hv29_g23_1 := RP.ext hv29_g23_1 hE104
                      have hb_g23 := Blk.ext hb_g23 hE104
                      have hb_g8 := Blk.ext hb_g8 hE104
                      have h0_0 := RP.ext h0_0 hE104
                      have h0_1 := RP.ext h0_1 hE104
                      have hb_g6 := Blk.ext hb_g6 hE104
                      have hx := ext_trans hx hE104
                      have hd124 := (hT104 9 54 rfl rfl)
                      refine L_app (v := v88_g84_4) (u := (f 54)) rfl et_34 (by first | decide | (rw [rRuleN_ts]; decide) | (rw [sliceN_ts, int_ts]; decide) | (rw [sliceN_ts, sliceN_ts, int_ts]; decide)) (hT104 1 46 rfl rfl) rfl hv88_g84_4 (rel0 (Own.rel hd124)) hx100 hx.size hB ?_
                      intro v125 w125 ho125 hm125 hb125
                      have hu83_1 := hm125.rel hu83_1 (by first | decide | (rw [rRuleN_ts]; decide) | (rw [sliceN_ts, int_ts]; decide) | (rw [sliceN_ts, sliceN_ts, int_ts]; decide)) (Nat.le_trans hB (Nat.le_refl _))
                      have hu83_2 := hm125.rel hu83_2 (by first | decide | (rw [rRuleN_ts]; decide) | (rw [sliceN_ts, int_ts]; decide) | (rw [sliceN_ts, sliceN_ts, int_ts]; decide)) (Nat.le_trans hB (Nat.le_refl _))
                      have hb_g84 := hm125.blk hb_g84 (by first | decide | (rw [rRuleN_ts]; decide) | (rw [sliceN_ts, int_ts]; decide) | (rw [sliceN_ts, sliceN_ts, int_ts]; decide))
                      have hu39_0 := hm125.rel hu39_0 (by first | decide | (rw [rRuleN_ts]; decide) | (rw [sliceN_ts, int_ts]; decide) | (rw [sliceN_ts, sliceN_ts, int_ts]; decide)) (Nat.le_trans hB (Nat.le_refl _))
                      have hu39_1 := hm125.rel hu39_1 (by first | decide | (rw [rRuleN_ts]; decide) | (rw [sliceN_ts, int_ts]; decide) | (rw [sliceN_ts, sliceN_ts, int_ts]; decide)) (Nat.le_trans hB (Nat.le_refl _))
                      have hu39_2 := hm125.rel_lo hu39_2 (Nat.le_refl _)
                      have hb_g40 := hm125.blk hb_g40 (by first | decide | (rw [rRuleN_ts]; decide) | (rw [sliceN_ts, int_ts]; decide) | (rw [sliceN_ts, sliceN_ts, int_ts]; decide))
                      have ho22 := hm125.rel ho22 (by first | decide | (rw [rRuleN_ts]; decide) | (rw [sliceN_ts, int_ts]; decide) | (rw [sliceN_ts, sliceN_ts, int_ts]; decide)) (Nat.le_trans hB (Nat.le_refl _))
                      have hv29_g23_1 := hm125.rel_lo hv29_g23_1 (Nat.le_refl _)
                      have hb_g23 := hm125.blk hb_g23 (by first | decide | (rw [rRuleN_ts]; decide) | (rw [sliceN_ts, int_ts]; decide) | (rw [sliceN_ts, sliceN_ts, int_ts]; decide))
                      have hb_g8 := hm125.blk hb_g8 (by first | decide | (rw [rRuleN_ts]; decide) | (rw [sliceN_ts, int_ts]; decide) | (rw [sliceN_ts, sliceN_ts, int_ts]; decide))
                      have h0_0 := hm125.rel h0_0 (by first | decide | (rw [rRuleN_ts]; decide) | (rw [sliceN_ts, int_ts]; decide) | (rw [sliceN_ts, sliceN_ts, int_ts]; decide)) (Nat.le_trans hB (Nat.le_refl _))
                      have h0_1 := hm125.rel_lo h0_1 (Nat.le_refl _)
                      have hb_g6 := hm125.blk hb_g6 (by first | decide | (rw [rRuleN_ts]; decide) | (rw [sliceN_ts, int_ts]; decide) | (rw [sliceN_ts, sliceN_ts, int_ts]; decide))
                      have hx := ext_mut hx hm125 (Nat.le_refl _)
                      refine L_fa (o' := 4) rfl fa_36_4 ((hS104 6 rfl).trans sf6) rfl ?_
                      refine L_st (v := v125) rfl Try.sizeOf34 rfl rfl (one_of (Own.rel ho125)) hb_g84 rfl ?_
                      intro w126 hp126
                      have hu83_1 := hp126.mu.rel hu83_1 (by first | decide | (rw [rRuleN_ts]; decide) | (rw [sliceN_ts, int_ts]; decide) | (rw [sliceN_ts, sliceN_ts, int_ts]; decide)) (Nat.le_trans hB hge_g84)
                      have hu83_2 := hp126.mu.rel hu83_2 (by first | decide | (rw [rRuleN_ts]; decide) | (rw [sliceN_ts, int_ts]; decide) | (rw [sliceN_ts, sliceN_ts, int_ts]; decide)) (Nat.le_trans hB hge_g84)
                      have hu39_0 := hp126.mu.rel hu39_0 (by first | decide | (rw [rRuleN_ts]; decide) | (rw [sliceN_ts, int_ts]; decide) | (rw [sliceN_ts, sliceN_ts, int_ts]; decide)) (Nat.le_trans hB hge_g84)
                      have hu39_1 := hp126.mu.rel hu39_1 (by first | decide | (rw [rRuleN_ts]; decide) | (rw [sliceN_ts, int_ts]; decide) | (rw [sliceN_ts, sliceN_ts, int_ts]; decide)) (Nat.le_trans hB hge_g84)
                      have hu39_2 := hp126.mu.rel hu39_2 (by first | decide | (rw [rRuleN_ts]; decide) | (rw [sliceN_ts, int_ts]; decide) | (rw [sliceN_ts, sliceN_ts, int_ts]; decide)) (Nat.le_trans hB hge_g84)
                      have hb_g40 := hp126.mu.blkA hb_g40 (Ap.symm ap85)
                      have ho22 := hp126.mu.rel ho22 (by first | decide | (rw [rRuleN_ts]; decide) | (rw [sliceN_ts, int_ts]; decide) | (rw [sliceN_ts, sliceN_ts, int_ts]; decide)) (Nat.le_trans hB hge_g84)
                      have hv29_g23_1 := hp126.mu.rel_lo hv29_g23_1 hge_g84
                      have hb_g23 := hp126.mu.blk hb_g23 (by first | decide | (rw [rRuleN_ts]; decide) | (rw [sliceN_ts, int_ts]; decide) | (rw [sliceN_ts, sliceN_ts, int_ts]; decide))
                      have hb_g8 := hp126.mu.blk hb_g8 (by first | decide | (rw [rRuleN_ts]; decide) | (rw [sliceN_ts, int_ts]; decide) | (rw [sliceN_ts, sliceN_ts, int_ts]; decide))
                      have h0_0 := hp126.mu.rel h0_0 (by first | decide | (rw [rRuleN_ts]; decide) | (rw [sliceN_ts, int_ts]; decide) | (rw [sliceN_ts, sliceN_ts, int_ts]; decide)) (Nat.le_trans hB hge_g84)
                      have h0_1 := hp126.mu.rel_lo h0_1 hge_g84
                      have hb_g6 := hp126.mu.blk hb_g6 (by first | decide | (rw [rRuleN_ts]; decide) | (rw [sliceN_ts, int_ts]; decide) | (rw [sliceN_ts, sliceN_ts, int_ts]; decide))
                      have ho125 := hp126.mu.ownT ho125 (by first | decide | (rw [rRuleN_ts]; decide) | (rw [sliceN_ts, int_ts]; decide) | (rw [sliceN_ts, sliceN_ts, int_ts]; decide)) (by first | decide | (rw [rRuleN_ts]; decide) | (rw [sliceN_ts, int_ts]; decide) | (rw [sliceN_ts, sliceN_ts, int_ts]; decide)) (Nat.le_trans hB hge_g84)
                      have hx := ext_mut hx hp126.mu hge_g84
                      have hb_g84 : Blk w126 g84 36 #[.int .i64 x_30.kind, u83_1, u83_2, .int .i64 x_30.bound, v125] := hp126.blk
                      refine L_nil ?_
                      refine W_region ?_
                      refine L_mv (v := .int .i64 (i_87 : Int)) rfl ((hS104 7 rfl).trans sf7) ?_
                      refine L_add (m := (i_87 : Int)) (n := 1) rfl rfl rfl ?_
                      refine L_as (v := .int .i64 (i64 ((i_87 : Int) + 1))) rfl rfl ?_
                      refine L_nil ?_
                      obtain rfl := so hB89
                      show ∃ m, m < _ ∧ I89 m _ _
                      refine ⟨rest89.length, by simp, ?_⟩
                      rw [hI89]
                      exact ⟨i_87 + 1, rest89, x100, v125, rfl, drop_next hd89, by simp at hl89; omega, hL89, ((hS104 1 rfl).trans sf1), ((hS104 2 rfl).trans sf2), ((hS104 3 rfl).trans sf3), ((hS104 4 rfl).trans sf4), ((hS104 5 rfl).trans sf5), ((hS104 6 rfl).trans sf6), (Eq.trans rfl (congrArg (Value.int .i64) (i64_succ (n := x_30.rows.length) (by simp at hl89; omega) hlen89))), (rel0 hu83_1), (rel0 hu83_2), ho125, hb_g84, hu39_0, hu39_1, hu39_2, hb_g40, ho22, hv29_g23_1, hb_g23, hb_g8, h0_0, h0_1, hb_g6, hx⟩
                ·
                  cases suf89 with
                  | cons _ _ => exact absurd (of_decide_eq_false hc90) (by simp at hl89; omega)
                  | nil =>
                    obtain rfl := range_nil hL89
                    refine W_exit ?_
                    show R89 _ _
                    rw [hR89]
                    exact ⟨g84_4_88, v88_g84_4, rfl, sf1, sf2, sf3, sf4, sf6, (rel0 hu83_1), (rel0 hu83_2), hv88_g84_4, hb_g84, ho22, hv29_g23_1, hb_g23, hb_g8, h0_0, h0_1, hb_g6, hx⟩
            ·
              intro f w_ hR
              rw [hR89] at hR
              obtain ⟨g84_4_88, v88_g84_4, rfl, sf1, sf2, sf3, sf4, sf6, hu83_1, hu83_2, hv88_g84_4, hb_g84, ho22, hv29_g23_1, hb_g23, hb_g8, h0_0, h0_1, hb_g6, hx⟩ := hR
              clear hR89
              have hL32 := hx
              have ho22 := Own.ext ho22_s32 hL32
              have hv29_g23_1 := Own.ext hv29_g23_1_s32 hL32
              have hb_g23 := Blk.ext hb_g23_s32 hL32
              have hb_g8 := Blk.ext hb_g8_s32 hL32
              have h0_0 := RP.ext h0_0_s32 hL32
              have h0_1 := RP.ext h0_1_s32 hL32
              have hb_g6 := Blk.ext hb_g6_s32 hL32
              have hv88_g84_4 := ownN hv88_g84_4 (Nat.le_of_lt hb_g23_s32.lt)
              have ap127 := ap_ltO (fun k h => (hv29_g23_1_s32.lt k h).2) hge_g84
              have hge_g84 := Nat.le_trans hx_s32.size hge_g84
              have hx := ext_trans hx_s32 hL32
              have hB := hB_s32
              obtain ⟨x132, hx132, hB30⟩ := bind_some hB30
              refine W_region ?_
              refine L_fa (o' := 1) rfl fa_26_1 sf3 rfl ?_
              refine L_ld (v := v29_g23_1) rfl Try.isAgg24 rfl (hb_g23.cell (j := 1) rfl) ?_
              refine L_lda (cs := [.int .i64 x_30.kind, u83_1, u83_2, .int .i64 x_30.bound, v88_g84_4]) rfl Try.isAgg36 Try.sizeOf36 sf6 (Blk.sub hb_g84 0 5) rfl ?_
              refine L_bs rfl (parts1 rfl) (bs_24_1_5 (.int .i64 x_30.kind) (u83_1) (u83_2) (.int .i64 x_30.bound) (v88_g84_4) ) ?_
              intro g137 w138 hn138
              have ho138 : Own (rRuleN g23 3 23) 36 w.heap.size B w138 _ [({ kind := x_30.kind, vars := x45, coefs := x51, bound := x_30.bound, rows := g84_4_88 } : Rule)] := own_new1 hn138 hx.size (rRuleN_iff.2 ⟨_, _, _, rfl, (rel0 hu83_1), (rel0 hu83_2), (rel0 hv88_g84_4)⟩)
              have ap139 := ap_ob hv29_g23_1 hn138
              have ho22 := Own.ext ho22 hn138.ext
              have hv29_g23_1 := Own.ext hv29_g23_1 hn138.ext
              have hb_g23 := Blk.ext hb_g23 hn138.ext
              have hb_g8 := Blk.ext hb_g8 hn138.ext
              have h0_0 := RP.ext h0_0 hn138.ext
              have h0_1 := RP.ext h0_1 hn138.ext
              have hb_g6 := Blk.ext hb_g6 hn138.ext
              have hu83_1 := RP.ext hu83_1 hn138.ext
              have hu83_2 := RP.ext hu83_2 hn138.ext
              have hv88_g84_4 := RP.ext hv88_g84_4 hn138.ext
              have hx := ext_trans hx hn138.ext
              refine L_app (v := v29_g23_1) (u := (.slice (some ⟨g137, 0, none⟩) 1 1)) rfl et_24 (by first | decide | (rw [rRuleN_ts]; decide) | (rw [sliceN_ts, int_ts]; decide) | (rw [sliceN_ts, sliceN_ts, int_ts]; decide)) rfl rfl hv29_g23_1 (rel0 (Own.rel ho138)) hx132 hx.size hB ?_
              intro v140 w140 ho140 hm140 hb140
              have ho22 := hm140.ownT ho22 (by first | decide | (rw [rRuleN_ts]; decide) | (rw [sliceN_ts, int_ts]; decide) | (rw [sliceN_ts, sliceN_ts, int_ts]; decide)) (by first | decide | (rw [rRuleN_ts]; decide) | (rw [sliceN_ts, int_ts]; decide) | (rw [sliceN_ts, sliceN_ts, int_ts]; decide)) (Nat.le_trans hB (Nat.le_refl _))
              have hb_g23 := hm140.blk hb_g23 (by first | decide | (rw [rRuleN_ts]; decide) | (rw [sliceN_ts, int_ts]; decide) | (rw [sliceN_ts, sliceN_ts, int_ts]; decide))
              have hb_g8 := hm140.blk hb_g8 (by first | decide | (rw [rRuleN_ts]; decide) | (rw [sliceN_ts, int_ts]; decide) | (rw [sliceN_ts, sliceN_ts, int_ts]; decide))
              have h0_0 := hm140.rel h0_0 (by first | decide | (rw [rRuleN_ts]; decide) | (rw [sliceN_ts, int_ts]; decide) | (rw [sliceN_ts, sliceN_ts, int_ts]; decide)) (Nat.le_trans hB (Nat.le_refl _))
              have h0_1 := hm140.rel_lo h0_1 (Nat.le_refl _)
              have hb_g6 := hm140.blk hb_g6 (by first | decide | (rw [rRuleN_ts]; decide) | (rw [sliceN_ts, int_ts]; decide) | (rw [sliceN_ts, sliceN_ts, int_ts]; decide))
              have hx := ext_mut hx hm140 (Nat.le_refl _)
              refine L_fa (o' := 1) rfl fa_26_1 sf3 rfl ?_
              refine L_st (v := v140) rfl Try.sizeOf24 rfl rfl (one_of (ownR ho140)) hb_g23 rfl ?_
              intro w141 hp141
              have ho22 := hp141.mu.ownT ho22 (by first | decide | (rw [rRuleN_ts]; decide) | (rw [sliceN_ts, int_ts]; decide) | (rw [sliceN_ts, sliceN_ts, int_ts]; decide)) (by first | decide | (rw [rRuleN_ts]; decide) | (rw [sliceN_ts, int_ts]; decide) | (rw [sliceN_ts, sliceN_ts, int_ts]; decide)) (Nat.le_trans hB hge_g23)
              have hb_g8 := hp141.mu.blkA hb_g8 (Ap.symm ap26)
              have h0_0 := hp141.mu.rel h0_0 (by first | decide | (rw [rRuleN_ts]; decide) | (rw [sliceN_ts, int_ts]; decide) | (rw [sliceN_ts, sliceN_ts, int_ts]; decide)) (Nat.le_trans hB hge_g23)
              have h0_1 := hp141.mu.rel h0_1 (by first | decide | (rw [rRuleN_ts]; decide) | (rw [sliceN_ts, int_ts]; decide) | (rw [sliceN_ts, sliceN_ts, int_ts]; decide)) (Nat.le_trans hB hge_g23)
              have hb_g6 := hp141.mu.blkA hb_g6 (Ap.symm ap25)
              have ho140 := hp141.mu.ownT ho140 (by first | decide | (rw [rRuleN_ts]; decide) | (rw [sliceN_ts, int_ts]; decide) | (rw [sliceN_ts, sliceN_ts, int_ts]; decide)) (by first | decide | (rw [rRuleN_ts]; decide) | (rw [sliceN_ts, int_ts]; decide) | (rw [sliceN_ts, sliceN_ts, int_ts]; decide)) (Nat.le_trans hB hge_g23)
              have hx := ext_mut hx hp141.mu hge_g23
              have hb_g23 : Blk w141 g23 26 #[v22, v140] := hp141.blk
              refine L_nil ?_
              refine W_region ?_
              refine L_mv (v := .int .i64 (i_28 : Int)) rfl sf4 ?_
              refine L_add (m := (i_28 : Int)) (n := 1) rfl rfl rfl ?_
              refine L_as (v := .int .i64 (i64 ((i_28 : Int) + 1))) rfl rfl ?_
              refine L_nil ?_
              obtain rfl := so hB30
              show ∃ m, m < _ ∧ I30 m _ _
              refine ⟨rest30.length, by simp, ?_⟩
              rw [hI30]
              exact ⟨i_28 + 1, rest30, x132, v140, rfl, drop_next hd30, by simp at hl30; omega, hL30, sf1, sf2, sf3, (Eq.trans rfl (congrArg (Value.int .i64) (i64_succ (n := m.rules.length) (by simp at hl30; omega) hlen30))), ho22, ho140, hb_g23, hb_g8, h0_0, h0_1, hb_g6, hx⟩
      ·
        cases suf30 with
        | cons _ _ => exact absurd (of_decide_eq_false hc31) (by simp at hl30; omega)
        | nil =>
          obtain rfl := range_nil hL30
          refine W_exit ?_
          show R30 _ _
          rw [hR30]
          exact ⟨g23_1_29, v29_g23_1, rfl, sf2, sf3, ho22, hv29_g23_1, hb_g23, hb_g8, hx⟩
  ·
    intro f w_ hR
    rw [hR30] at hR
    obtain ⟨g23_1_29, v29_g23_1, rfl, sf2, sf3, ho22, hv29_g23_1, hb_g23, hb_g8, hx⟩ := hR
    clear hR30
    refine W_seq ?_
    refine W_region ?_
    refine L_lda (cs := [v22, v29_g23_1]) rfl Try.isAgg26 Try.sizeOf26 sf3 (Blk.sub hb_g23 0 2) rfl ?_
    refine L_sta (vs := #[v22, v29_g23_1]) rfl Try.sizeOf26 sf2 rfl rfl (ones_cons (one_of (Own.rel ho22)) (ones_cons (one_of (ownR hv29_g23_1)) ones_nil)) hb_g8 rfl ?_
    intro w143 hp143
    have ho22 := hp143.mu.ownT ho22 (by first | decide | (rw [rRuleN_ts]; decide) | (rw [sliceN_ts, int_ts]; decide) | (rw [sliceN_ts, sliceN_ts, int_ts]; decide)) (by first | decide | (rw [rRuleN_ts]; decide) | (rw [sliceN_ts, int_ts]; decide) | (rw [sliceN_ts, sliceN_ts, int_ts]; decide)) (Nat.le_trans hB hge_g8)
    have hv29_g23_1 := hp143.mu.ownT hv29_g23_1 (by first | decide | (rw [rRuleN_ts]; decide) | (rw [sliceN_ts, int_ts]; decide) | (rw [sliceN_ts, sliceN_ts, int_ts]; decide)) (by first | decide | (rw [rRuleN_ts]; decide) | (rw [sliceN_ts, int_ts]; decide) | (rw [sliceN_ts, sliceN_ts, int_ts]; decide)) (Nat.le_trans hB hge_g8)
    have hx := ext_mut hx hp143.mu hge_g8
    have hb_g8 : Blk w143 g8 26 #[v22, v29_g23_1] := hp143.blk
    refine L_nil ?_
    refine W_ret ?_
    obtain rfl := so hF
    refine retc Try.results80 Try.isAgg26 Try.sizeOf26 sf2 hb_g8 rfl ?_
    exact ⟨⟨v22, v29_g23_1, g23, hge_g23, hLN2, rfl, ho22, hv29_g23_1⟩, hx⟩

theorem s_l6Mutate_c {fu : Nat} {r_ : Rd} {m : Model} {g_r : Nat} {v_r : Value} {v1_0 : Value} {v1_1 : Value} {w : World} {B : Nat} (hB : B ≤ w.heap.size) (hb_g_r : Blk w g_r 86 #[v_r, .int .i64 r_.p]) (hrb : (RP.slice 5 RP.u8).rel B w.heap.size w [v_r] r_.b) (hrB : B ≤ g_r) (h1_0 : (RP.slice 3 RP.int).rel B w.heap.size w [v1_0] m.sizes) (h1_1 : (RP.slice 36 (rRule 3 23)).rel B w.heap.size w [v1_1] m.rules) {r : Unit} (hF : s_l6Mutate fu r_ m = some r) :
    C Try.prog 47 #[.pointer (some ⟨g_r, 0, none⟩), .agg #[v1_0, v1_1]] w fun v w' => (∃ o : Model × Int, (sModel o.1 ∧ rdOk r_.p o.2) ∧ (∃ u1 u2 : Value, v = .agg #[u1, u2] ∧ (RP.slice 3 RP.int).rel B w'.heap.size w' [u1] o.1.sizes ∧ (RP.slice 36 (rRule 3 23)).rel B w'.heap.size w' [u2] o.1.rules) ∧ Blk w' g_r 86 #[v_r, .int .i64 o.2]) ∧ Mut g_r (some g_r) 86 w w' := by
  unfold s_l6Mutate at hF
  have hgl := hb_g_r.lt
  have hx := fr1_refl hb_g_r
  refine C_enter Try.func47 rfl Try.ntmps47 rfl ?_
  refine W_seq ?_
  refine W_region ?_
  refine L_box (v := .agg #[v1_0, v1_1]) (cs := #[v1_0, v1_1]) rfl rfl rfl ?_
  intro g6 w7 hn7
  have hge_g6 := hn7.geS hx.size
  have hb_g6 := hn7.blk
  have hrb := RP.ext hrb hn7.ext
  have hb_g_r := Blk.ext hb_g_r hn7.ext
  have h1_0 := RP.ext h1_0 hn7.ext
  have h1_1 := RP.ext h1_1 hn7.ext
  have hx := fr1_ext hx hn7.ext hgl
  refine L_al (cs := #[(.slice none 0 0), (.slice none 0 0)]) rfl Try.zeroValue26 rfl ?_
  intro g8 w9 hn9
  have hge_g8 := hn9.geS hx.size
  have hb_g8 := hn9.blk
  have ap10 := ap_bb hb_g6 hn9
  have hrb := RP.ext hrb hn9.ext
  have hb_g_r := Blk.ext hb_g_r hn9.ext
  have h1_0 := RP.ext h1_0 hn9.ext
  have h1_1 := RP.ext h1_1 hn9.ext
  have hb_g6 := Blk.ext hb_g6 hn9.ext
  have hx := fr1_ext hx hn9.ext hgl
  refine L_nil ?_
  refine W_seq ?_
  obtain ⟨x11, hx11, hF⟩ := bind_some hF
  refine W_region ?_
  refine L_lda (cs := [v1_0, v1_1]) rfl Try.isAgg26 Try.sizeOf26 rfl (Blk.sub hb_g6 0 2) rfl ?_
  refine L_call (args := #[.agg #[v1_0, v1_1]]) rfl Try.call80 (ops1 rfl) (s_l6Copy_cN (m := m) (Nat.le_trans hB hx.size) (rel0 h1_0) (rel0 h1_1) hx11) ?_
  rintro _ w18 ⟨⟨r18_0, r18_1, LN, hLN1, hLN2, rfl, hr18_0, hr18_1⟩, he18⟩
  have hr18_0 : Own _ _ w.heap.size B _ _ _ := hr18_0.wide hx.size (Nat.le_refl _)
  have hr18_1 : Own _ _ w.heap.size B _ _ _ := hr18_1.wide hx.size (Nat.le_refl _)
  have hLN1 := Nat.le_trans hx.size hLN1
  have hrb := RP.ext hrb he18
  have hb_g_r := Blk.ext hb_g_r he18
  have h1_0 := RP.ext h1_0 he18
  have h1_1 := RP.ext h1_1 he18
  have hb_g8 := Blk.ext hb_g8 he18
  have hx := fr1_ext hx he18 hgl
  refine L_al (cs := #[(.slice none 0 0), (.slice none 0 0)]) rfl Try.zeroValue26 rfl ?_
  intro g19 w20 hn20
  have hge_g19 := hn20.geS hx.size
  have hb_g19 := hn20.blk
  have ap21 := ap_bb hb_g8 hn20
  have hrb := RP.ext hrb hn20.ext
  have hb_g_r := Blk.ext hb_g_r hn20.ext
  have hb_g8 := Blk.ext hb_g8 hn20.ext
  have hr18_0 := Own.ext hr18_0 hn20.ext
  have hr18_1 := Own.ext hr18_1 hn20.ext
  have hx := fr1_ext hx hn20.ext hgl
  refine L_sta (vs := #[r18_0, r18_1]) rfl Try.sizeOf26 rfl rfl rfl (ones_cons (one_of (Own.rel hr18_0)) (ones_cons (one_of (ownR hr18_1)) ones_nil)) hb_g19 rfl ?_
  intro w22 hp22
  have hrb := hp22.mu.rel hrb (by first | decide | (rw [rRuleN_ts]; decide) | (rw [sliceN_ts, int_ts]; decide) | (rw [sliceN_ts, sliceN_ts, int_ts]; decide)) (Nat.le_trans hB hge_g19)
  have hb_g_r := hp22.mu.blk hb_g_r (by first | decide | (rw [rRuleN_ts]; decide) | (rw [sliceN_ts, int_ts]; decide) | (rw [sliceN_ts, sliceN_ts, int_ts]; decide))
  have hb_g8 := hp22.mu.blkA hb_g8 (Ap.symm ap21)
  have hr18_0 := hp22.mu.ownT hr18_0 (by first | decide | (rw [rRuleN_ts]; decide) | (rw [sliceN_ts, int_ts]; decide) | (rw [sliceN_ts, sliceN_ts, int_ts]; decide)) (by first | decide | (rw [rRuleN_ts]; decide) | (rw [sliceN_ts, int_ts]; decide) | (rw [sliceN_ts, sliceN_ts, int_ts]; decide)) (Nat.le_trans hB hge_g19)
  have hr18_1 := hp22.mu.ownT hr18_1 (by first | decide | (rw [rRuleN_ts]; decide) | (rw [sliceN_ts, int_ts]; decide) | (rw [sliceN_ts, sliceN_ts, int_ts]; decide)) (by first | decide | (rw [rRuleN_ts]; decide) | (rw [sliceN_ts, int_ts]; decide) | (rw [sliceN_ts, sliceN_ts, int_ts]; decide)) (Nat.le_trans hB hge_g19)
  have hx := fr1_mut hx hp22.mu hge_g19 hgl
  have hb_g19 : Blk w22 g19 26 #[r18_0, r18_1] := hp22.blk
  refine L_nil ?_
  refine W_seq ?_
  refine W_region ?_
  refine L_fa (o' := 1) rfl fa_26_1 rfl rfl ?_
  refine L_ld (v := r18_1) rfl Try.isAgg24 rfl (hb_g19.cell (j := 1) rfl) ?_
  refine L_len (v := r18_1) rfl Try.underlying24 rfl (ownR hr18_1) ?_
  refine L_as (v := .int .i64 (x11.rules.length : Int)) rfl rfl ?_
  refine L_nil ?_
  refine W_seq ?_
  refine W_seq ?_
  obtain ⟨x23, hx23, hF⟩ := bind_some hF
  refine W_region ?_
  refine L_mv (v := .pointer (some ⟨g_r, 0, none⟩)) rfl rfl ?_
  refine L_call (args := #[.pointer (some ⟨g_r, 0, none⟩), .int .i64 50]) rfl Try.call70 (ops2 rfl rfl) (s_l17Rd_pick_c (r_ := r_) (n_ := 50) (Nat.le_trans hB hx.size) hb_g_r (rel0 hrb) hrB hx23) ?_
  rintro _ w25 ⟨⟨rfl, hbn25⟩, he25⟩
  have hrb := he25.rel hrb (by first | decide | (rw [rRuleN_ts]; decide) | (rw [sliceN_ts, int_ts]; decide) | (rw [sliceN_ts, sliceN_ts, int_ts]; decide)) hrB
  have hb_g8 := he25.blk hb_g8 (by first | decide | (rw [rRuleN_ts]; decide) | (rw [sliceN_ts, int_ts]; decide) | (rw [sliceN_ts, sliceN_ts, int_ts]; decide))
  have hr18_0 := he25.ownT hr18_0 (by first | decide | (rw [rRuleN_ts]; decide) | (rw [sliceN_ts, int_ts]; decide) | (rw [sliceN_ts, sliceN_ts, int_ts]; decide)) (by first | decide | (rw [rRuleN_ts]; decide) | (rw [sliceN_ts, int_ts]; decide) | (rw [sliceN_ts, sliceN_ts, int_ts]; decide)) hrB
  have hr18_1 := he25.ownT hr18_1 (by first | decide | (rw [rRuleN_ts]; decide) | (rw [sliceN_ts, int_ts]; decide) | (rw [sliceN_ts, sliceN_ts, int_ts]; decide)) (by first | decide | (rw [rRuleN_ts]; decide) | (rw [sliceN_ts, int_ts]; decide) | (rw [sliceN_ts, sliceN_ts, int_ts]; decide)) hrB
  have hb_g19 := he25.blk hb_g19 (by first | decide | (rw [rRuleN_ts]; decide) | (rw [sliceN_ts, int_ts]; decide) | (rw [sliceN_ts, sliceN_ts, int_ts]; decide))
  have hx := fr1_trans hx he25
  have hb_g_r := hbn25
  refine L_nil ?_
  refine W_block ?_
  refine W_seq ?_
  refine W_region ?_
  refine L_eql (m := x23.1) (n := 0) rfl rfl rfl ?_
  refine L_as (v := .bool (x23.1 == 0)) rfl rfl ?_
  refine L_nil ?_
  refine W_cond (b := (x23.1 == 0)) rfl (fun hc26 => ?_) (fun hc26 => ?_)
  ·
    have hF := (ite_t hc26).symm.trans hF
    refine W_seq ?_
    refine W_region ?_
    refine L_fa (o' := 0) rfl fa_26_0 rfl rfl ?_
    refine L_ld (v := r18_0) rfl Try.isAgg23 rfl (hb_g19.cell (j := 0) rfl) ?_
    refine L_len (v := r18_0) rfl Try.underlying23 rfl (Own.rel hr18_0) ?_
    refine L_gtr (m := (x11.sizes.length : Int)) (n := 0) rfl rfl rfl ?_
    refine L_nil ?_
    refine W_cond (b := decide ((x11.sizes.length : Int) > 0)) rfl (fun hc27 => ?_) (fun hc27 => ?_)
    ·
      have hF := (ite_t hc27).symm.trans hF
      obtain ⟨x31, hx31, hF⟩ := bind_some hF
      obtain ⟨x33, hx33, hF⟩ := bind_some hF
      obtain ⟨q36, hq36, hF⟩ := bind_some hF
      have hF := anyM_some hF
      refine W_drawR 5 [isV (.pointer (some ⟨g19, 0, none⟩)), isV (r18_0), isV (.pointer (some ⟨g_r, 0, none⟩)), isOwn B RP.int 3 w.heap.size ([(-1), 4, 3, 9223372036854775807]), isV (.int .i64 x31.1)] g_r 86 (fun k => match k with | 0 => #[v_r, .int .i64 x23.2] | _ => #[v_r, .int .i64 x31.2]) [4] Try_mix (by kernel_rfl) (by first | decide | (rw [rRuleN_ts]; decide) | (rw [sliceN_ts, int_ts]; decide) | (rw [sliceN_ts, sliceN_ts, int_ts]; decide)) (by first | decide | (rw [rRuleN_ts]; decide) | (rw [sliceN_ts, int_ts]; decide) | (rw [sliceN_ts, sliceN_ts, int_ts]; decide)) (amR_cons (monoR_V _) (amR_cons (monoR_V _) (amR_cons (monoR_V _) (amR_cons (monoR_own (by first | decide | (rw [rRuleN_ts]; decide) | (rw [sliceN_ts, int_ts]; decide) | (rw [sliceN_ts, sliceN_ts, int_ts]; decide)) (by first | decide | (rw [rRuleN_ts]; decide) | (rw [sliceN_ts, int_ts]; decide) | (rw [sliceN_ts, sliceN_ts, int_ts]; decide)) hrB) (amR_cons (monoR_V _) amR_nil))))) hb_g_r ?_ (fun f w_ hS38 hE38 hbr38 hT38 => ?_)
      ·
        refine opsR_cons (by first | decide | (rw [rRuleN_ts]; decide) | (rw [sliceN_ts, int_ts]; decide) | (rw [sliceN_ts, sliceN_ts, int_ts]; decide)) (fun f w_ hS38 hE38 hbr38 hP38 => ?_) ?_
        ·
          have hx := fr1_trans hx hE38
          have hr18_0 := hE38.ownT hr18_0 (by first | decide | (rw [rRuleN_ts]; decide) | (rw [sliceN_ts, int_ts]; decide) | (rw [sliceN_ts, sliceN_ts, int_ts]; decide)) (by first | decide | (rw [rRuleN_ts]; decide) | (rw [sliceN_ts, int_ts]; decide) | (rw [sliceN_ts, sliceN_ts, int_ts]; decide)) hrB
          have hr18_1 := hE38.ownT hr18_1 (by first | decide | (rw [rRuleN_ts]; decide) | (rw [sliceN_ts, int_ts]; decide) | (rw [sliceN_ts, sliceN_ts, int_ts]; decide)) (by first | decide | (rw [rRuleN_ts]; decide) | (rw [sliceN_ts, int_ts]; decide) | (rw [sliceN_ts, sliceN_ts, int_ts]; decide)) hrB
          have hb_g19 := hE38.blk hb_g19 (by first | decide | (rw [rRuleN_ts]; decide) | (rw [sliceN_ts, int_ts]; decide) | (rw [sliceN_ts, sliceN_ts, int_ts]; decide))
          refine L_fa (o' := 0) rfl fa_26_0 ((hS38 5 rfl).trans rfl) rfl ?_
          exact L_nil ⟨rfl, (ext_refl _), _, _, rfl, rfl, rfl⟩
        refine opsR_cons (by first | decide | (rw [rRuleN_ts]; decide) | (rw [sliceN_ts, int_ts]; decide) | (rw [sliceN_ts, sliceN_ts, int_ts]; decide)) (fun f w_ hS38 hE38 hbr38 hP38 => ?_) ?_
        ·
          have hx := fr1_trans hx hE38
          have hr18_0 := hE38.ownT hr18_0 (by first | decide | (rw [rRuleN_ts]; decide) | (rw [sliceN_ts, int_ts]; decide) | (rw [sliceN_ts, sliceN_ts, int_ts]; decide)) (by first | decide | (rw [rRuleN_ts]; decide) | (rw [sliceN_ts, int_ts]; decide) | (rw [sliceN_ts, sliceN_ts, int_ts]; decide)) hrB
          have hr18_1 := hE38.ownT hr18_1 (by first | decide | (rw [rRuleN_ts]; decide) | (rw [sliceN_ts, int_ts]; decide) | (rw [sliceN_ts, sliceN_ts, int_ts]; decide)) (by first | decide | (rw [rRuleN_ts]; decide) | (rw [sliceN_ts, int_ts]; decide) | (rw [sliceN_ts, sliceN_ts, int_ts]; decide)) hrB
          have hb_g19 := hE38.blk hb_g19 (by first | decide | (rw [rRuleN_ts]; decide) | (rw [sliceN_ts, int_ts]; decide) | (rw [sliceN_ts, sliceN_ts, int_ts]; decide))
          refine L_ld (v := r18_0) rfl Try.isAgg23 (hP38 0 20 rfl rfl) (hb_g19.cell (j := 0) rfl) ?_
          exact L_nil ⟨rfl, (ext_refl _), _, _, rfl, rfl, rfl⟩
        refine opsR_cons (by first | decide | (rw [rRuleN_ts]; decide) | (rw [sliceN_ts, int_ts]; decide) | (rw [sliceN_ts, sliceN_ts, int_ts]; decide)) (fun f w_ hS38 hE38 hbr38 hP38 => ?_) ?_
        ·
          have hx := fr1_trans hx hE38
          refine L_mv (v := .pointer (some ⟨g_r, 0, none⟩)) rfl ((hS38 0 rfl).trans rfl) ?_
          exact L_nil ⟨rfl, (ext_refl _), _, _, rfl, rfl, rfl⟩
        refine opsR_cons (by first | decide | (rw [rRuleN_ts]; decide) | (rw [sliceN_ts, int_ts]; decide) | (rw [sliceN_ts, sliceN_ts, int_ts]; decide)) (fun f w_ hS38 hE38 hbr38 hP38 => ?_) ?_
        ·
          have hx := fr1_trans hx hE38
          refine L_bs rfl (parts4 rfl rfl rfl rfl) (bs_23_4_0_0_0_0 (.int .i64 (-1)) (.int .i64 4) (.int .i64 3) (.int .i64 9223372036854775807) rfl rfl rfl rfl) ?_
          intro g43 w44 hn44
          have ho44 : Own RP.int 3 w.heap.size B w44 _ [(-1), 4, 3, 9223372036854775807] := own_lit rfl hn44 rfl (by first | decide | (rw [rRuleN_ts]; decide) | (rw [sliceN_ts, int_ts]; decide) | (rw [sliceN_ts, sliceN_ts, int_ts]; decide)) hx.size (by intro i z hz; rcases i with _ | _ | _ | _ | i <;> simp at hz <;> subst hz <;> rfl)
          have hx := fr1_ext hx hn44.ext hgl
          exact L_nil ⟨rfl, hn44.ext, _, _, rfl, rfl, ho44⟩
        refine opsR_draw 0 rfl (by first | exact .inl rfl | exact .inr ⟨_, rfl, by decide⟩) (fun f w_ hS38 hE38 hbr38 hP38 => ?_) ?_
        ·
          have hx := fr1_trans hx hE38
          have hrb := hE38.rel hrb (by first | decide | (rw [rRuleN_ts]; decide) | (rw [sliceN_ts, int_ts]; decide) | (rw [sliceN_ts, sliceN_ts, int_ts]; decide)) hrB
          have hb_g_r : Blk w_ g_r 86 #[v_r, .int .i64 x23.2] := hbr38
          have hd45 := (hP38 3 23 rfl rfl)
          refine L_call (args := #[.pointer (some ⟨g_r, 0, none⟩), (f 23)]) rfl Try.call49 (ops2 (hP38 2 22 rfl rfl) rfl) (s_l17Rd_num_c (r_ := ({ b := r_.b, p := x23.2 } : Rd)) (list := [(-1), 4, 3, 9223372036854775807]) (Nat.le_trans hB hx.size) hb_g_r (rel0 hrb) hrB (rel0 (Own.rel hd45)) hx31) ?_
          rintro _ w46 ⟨⟨rfl, hbn46⟩, he46⟩
          have hrb := he46.rel hrb (by first | decide | (rw [rRuleN_ts]; decide) | (rw [sliceN_ts, int_ts]; decide) | (rw [sliceN_ts, sliceN_ts, int_ts]; decide)) hrB
          have hd45 := he46.ownT hd45 (by first | decide | (rw [rRuleN_ts]; decide) | (rw [sliceN_ts, int_ts]; decide) | (rw [sliceN_ts, sliceN_ts, int_ts]; decide)) (by first | decide | (rw [rRuleN_ts]; decide) | (rw [sliceN_ts, int_ts]; decide) | (rw [sliceN_ts, sliceN_ts, int_ts]; decide)) hrB
          have hx := fr1_trans hx he46
          have hb_g_r := hbn46
          exact L_nil ⟨rfl, he46, hb_g_r, _, _, rfl, rfl, rfl⟩
        exact opsR_nil
      ·
        have hrb := hE38.rel hrb (by first | decide | (rw [rRuleN_ts]; decide) | (rw [sliceN_ts, int_ts]; decide) | (rw [sliceN_ts, sliceN_ts, int_ts]; decide)) hrB
        have hb_g8 := hE38.blk hb_g8 (by first | decide | (rw [rRuleN_ts]; decide) | (rw [sliceN_ts, int_ts]; decide) | (rw [sliceN_ts, sliceN_ts, int_ts]; decide))
        have hr18_0 := hE38.ownT hr18_0 (by first | decide | (rw [rRuleN_ts]; decide) | (rw [sliceN_ts, int_ts]; decide) | (rw [sliceN_ts, sliceN_ts, int_ts]; decide)) (by first | decide | (rw [rRuleN_ts]; decide) | (rw [sliceN_ts, int_ts]; decide) | (rw [sliceN_ts, sliceN_ts, int_ts]; decide)) hrB
        have hr18_1 := hE38.ownT hr18_1 (by first | decide | (rw [rRuleN_ts]; decide) | (rw [sliceN_ts, int_ts]; decide) | (rw [sliceN_ts, sliceN_ts, int_ts]; decide)) (by first | decide | (rw [rRuleN_ts]; decide) | (rw [sliceN_ts, int_ts]; decide) | (rw [sliceN_ts, sliceN_ts, int_ts]; decide)) hrB
        have hb_g19 := hE38.blk hb_g19 (by first | decide | (rw [rRuleN_ts]; decide) | (rw [sliceN_ts, int_ts]; decide) | (rw [sliceN_ts, sliceN_ts, int_ts]; decide))
        have hx := fr1_trans hx hE38
        have hb_g_r : Blk w_ g_r 86 #[v_r, .int .i64 x31.2] := hbr38
        refine L_ixN rfl Try.underlying23 Try.sizeOf3 (hT38 1 21 rfl rfl) (ownN hr18_0 (Nat.le_refl _)) rfl hx33 ?_
        intro g47 o48 c48 hL48 hb48 hc48
        refine L_st (v := .int .i64 x31.1) rfl Try.sizeOf3 rfl (hT38 4 24 rfl rfl) rfl hb48 hc48 ?_
        intro w49 hp49
        have hsf49 : Soft w.heap.size 3 x31.1 w_ w49 := ⟨_, _, _, _, hL48, hb48, hc48, hp49⟩
        obtain ⟨ga49_0, ga49_1⟩ := assertM_some hq36
        obtain ⟨xo49_0, ho49_0, gb49_0⟩ := soft_own_ints hsf49 hr18_0 ga49_0
        obtain ⟨xo49_1, ho49_1, gb49_1⟩ := soft_own (by first | decide | (rw [rRuleN_ts]; decide) | (rw [sliceN_ts, int_ts]; decide) | (rw [sliceN_ts, sliceN_ts, int_ts]; decide)) (softR_rule (by first | decide | (rw [rRuleN_ts]; decide) | (rw [sliceN_ts, int_ts]; decide) | (rw [sliceN_ts, sliceN_ts, int_ts]; decide))) hsf49 hB (ownW hr18_1) ga49_1
        obtain ⟨x37, hr18_0, hr18_1, hgx49⟩ : ∃ o : (List Int) × (List Rule), (RP.slice 3 RP.int).rel B w49.heap.size w49 [r18_0] o.1 ∧ (RP.slice 36 (rRule 3 23)).rel B w49.heap.size w49 [r18_1] o.2 ∧ (sInts o.1 ∧ sRules o.2) := ⟨(xo49_0, xo49_1), Own.rel ho49_0, Own.rel ho49_1, gb49_0, gb49_1⟩
        have hF := hF x37 hgx49
        have hrb := hp49.mu.rel hrb (by first | decide | (rw [rRuleN_ts]; decide) | (rw [sliceN_ts, int_ts]; decide) | (rw [sliceN_ts, sliceN_ts, int_ts]; decide)) (Nat.le_trans hB hL48)
        have hb_g_r := hp49.mu.blk hb_g_r (by first | decide | (rw [rRuleN_ts]; decide) | (rw [sliceN_ts, int_ts]; decide) | (rw [sliceN_ts, sliceN_ts, int_ts]; decide))
        have hb_g8 := hp49.mu.blk hb_g8 (by first | decide | (rw [rRuleN_ts]; decide) | (rw [sliceN_ts, int_ts]; decide) | (rw [sliceN_ts, sliceN_ts, int_ts]; decide))
        have hb_g19 := hp49.mu.blk hb_g19 (by first | decide | (rw [rRuleN_ts]; decide) | (rw [sliceN_ts, int_ts]; decide) | (rw [sliceN_ts, sliceN_ts, int_ts]; decide))
        have hx := fr1_mut hx hp49.mu hL48 hgl
        refine L_nil ?_
        refine W_seq ?_
        refine W_region ?_
        refine L_lda (cs := [r18_0, r18_1]) rfl Try.isAgg26 Try.sizeOf26 ((hS38 5 rfl).trans rfl) (Blk.sub hb_g19 0 2) rfl ?_
        refine L_sta (vs := #[r18_0, r18_1]) rfl Try.sizeOf26 ((hS38 4 rfl).trans rfl) rfl rfl (ones_cons (one_of hr18_0) (ones_cons (one_of hr18_1) ones_nil)) hb_g8 rfl ?_
        intro w51 hp51
        have hrb := hp51.mu.rel hrb (by first | decide | (rw [rRuleN_ts]; decide) | (rw [sliceN_ts, int_ts]; decide) | (rw [sliceN_ts, sliceN_ts, int_ts]; decide)) (Nat.le_trans hB hge_g8)
        have hb_g_r := hp51.mu.blk hb_g_r (by first | decide | (rw [rRuleN_ts]; decide) | (rw [sliceN_ts, int_ts]; decide) | (rw [sliceN_ts, sliceN_ts, int_ts]; decide))
        have hr18_0 := hp51.mu.rel hr18_0 (by first | decide | (rw [rRuleN_ts]; decide) | (rw [sliceN_ts, int_ts]; decide) | (rw [sliceN_ts, sliceN_ts, int_ts]; decide)) (Nat.le_trans hB hge_g8)
        have hr18_1 := hp51.mu.rel hr18_1 (by first | decide | (rw [rRuleN_ts]; decide) | (rw [sliceN_ts, int_ts]; decide) | (rw [sliceN_ts, sliceN_ts, int_ts]; decide)) (Nat.le_trans hB hge_g8)
        have hx := fr1_mut hx hp51.mu hge_g8 hgl
        have hb_g8 : Blk w51 g8 26 #[r18_0, r18_1] := hp51.blk
        refine L_nil ?_
        refine W_ret ?_
        have hG := assertM_some hF
        refine retc Try.results47 Try.isAgg26 Try.sizeOf26 ((hS38 4 rfl).trans rfl) hb_g8 rfl ?_
        exact ⟨⟨(({ sizes := x37.1, rules := x37.2 } : Model), x31.2), hG, ⟨⟨r18_0, r18_1, rfl, (rel0 hr18_0), (rel0 hr18_1)⟩, hb_g_r⟩⟩, hx⟩
    ·
      have hF := (ite_f hc27).symm.trans hF
      refine W_skip ?_
      refine W_seq ?_
      refine W_region ?_
      refine L_lda (cs := [r18_0, r18_1]) rfl Try.isAgg26 Try.sizeOf26 rfl (Blk.sub hb_g19 0 2) rfl ?_
      refine L_sta (vs := #[r18_0, r18_1]) rfl Try.sizeOf26 rfl rfl rfl (ones_cons (one_of (Own.rel hr18_0)) (ones_cons (one_of (ownR hr18_1)) ones_nil)) hb_g8 rfl ?_
      intro w53 hp53
      have hrb := hp53.mu.rel hrb (by first | decide | (rw [rRuleN_ts]; decide) | (rw [sliceN_ts, int_ts]; decide) | (rw [sliceN_ts, sliceN_ts, int_ts]; decide)) (Nat.le_trans hB hge_g8)
      have hb_g_r := hp53.mu.blk hb_g_r (by first | decide | (rw [rRuleN_ts]; decide) | (rw [sliceN_ts, int_ts]; decide) | (rw [sliceN_ts, sliceN_ts, int_ts]; decide))
      have hr18_0 := hp53.mu.ownT hr18_0 (by first | decide | (rw [rRuleN_ts]; decide) | (rw [sliceN_ts, int_ts]; decide) | (rw [sliceN_ts, sliceN_ts, int_ts]; decide)) (by first | decide | (rw [rRuleN_ts]; decide) | (rw [sliceN_ts, int_ts]; decide) | (rw [sliceN_ts, sliceN_ts, int_ts]; decide)) (Nat.le_trans hB hge_g8)
      have hr18_1 := hp53.mu.ownT hr18_1 (by first | decide | (rw [rRuleN_ts]; decide) | (rw [sliceN_ts, int_ts]; decide) | (rw [sliceN_ts, sliceN_ts, int_ts]; decide)) (by first | decide | (rw [rRuleN_ts]; decide) | (rw [sliceN_ts, int_ts]; decide) | (rw [sliceN_ts, sliceN_ts, int_ts]; decide)) (Nat.le_trans hB hge_g8)
      have hx := fr1_mut hx hp53.mu hge_g8 hgl
      have hb_g8 : Blk w53 g8 26 #[r18_0, r18_1] := hp53.blk
      refine L_nil ?_
      refine W_ret ?_
      have hG := assertM_some hF
      refine retc Try.results47 Try.isAgg26 Try.sizeOf26 rfl hb_g8 rfl ?_
      exact ⟨⟨(x11, x23.2), hG, ⟨⟨r18_0, r18_1, rfl, (rel0 (Own.rel hr18_0)), (rel0 (ownR hr18_1))⟩, hb_g_r⟩⟩, hx⟩
  ·
    have hF := (ite_f hc26).symm.trans hF
    refine W_seq ?_
    refine W_region ?_
    refine L_eql (m := x23.1) (n := 1) rfl rfl rfl ?_
    refine L_as (v := .bool (x23.1 == 1)) rfl rfl ?_
    refine L_nil ?_
    refine W_cond (b := (x23.1 == 1)) rfl (fun hc54 => ?_) (fun hc54 => ?_)
    ·
      have hF := (ite_t hc54).symm.trans hF
      obtain ⟨hiS, hhiS⟩ : ∃ x, x = w25.heap.size := ⟨_, rfl⟩
      have hr18_1 := sep_rules hr18_1 hr18_0 hLN2 (by first | decide | (rw [rRuleN_ts]; decide) | (rw [sliceN_ts, int_ts]; decide) | (rw [sliceN_ts, sliceN_ts, int_ts]; decide))
      rw [← hhiS] at hr18_1
      obtain ⟨j57, hL57, hF⟩ := bind_some hF
      obtain ⟨R57, hR57⟩ : ∃ R : Fr → World → Prop, R = fun f w_ => ∃ g19_0_56 : List Int, ∃ v56_g19_0 : Value, j57 = .nx g19_0_56 ∧ f 4 = .pointer (some ⟨g8, 0, none⟩) ∧ f 5 = .pointer (some ⟨g19, 0, none⟩) ∧ (RP.slice 5 RP.u8).rel B w.heap.size w_ [v_r] r_.b ∧ Blk w_ g_r 86 #[v_r, .int .i64 x23.2] ∧ Own RP.int 3 w.heap.size B w_ v56_g19_0 g19_0_56 ∧ SepR (RP.slice 36 (rRule 3 23)) v56_g19_0.ownBlock B hiS w_ [r18_1] x11.rules ∧ Blk w_ g19 26 #[v56_g19_0, r18_1] ∧ Blk w_ g8 26 #[(.slice none 0 0), (.slice none 0 0)] ∧ Mut g_r (some g_r) 86 w w_ := ⟨_, rfl⟩
      refine W_join R57 ?_ ?_
      ·
        refine W_block ?_
        obtain ⟨I57, hI57⟩ : ∃ I : Nat → Fr → World → Prop, I = fun n f w_ => ∃ g19_0_56 : List Int, ∃ v56_g19_0 : Value, whileL s_l6Mutate_b1 n g19_0_56 = some j57 ∧ f 4 = .pointer (some ⟨g8, 0, none⟩) ∧ f 5 = .pointer (some ⟨g19, 0, none⟩) ∧ (RP.slice 5 RP.u8).rel B w.heap.size w_ [v_r] r_.b ∧ Blk w_ g_r 86 #[v_r, .int .i64 x23.2] ∧ Own RP.int 3 w.heap.size B w_ v56_g19_0 g19_0_56 ∧ SepR (RP.slice 36 (rRule 3 23)) v56_g19_0.ownBlock B hiS w_ [r18_1] x11.rules ∧ Blk w_ g19 26 #[v56_g19_0, r18_1] ∧ Blk w_ g8 26 #[(.slice none 0 0), (.slice none 0 0)] ∧ Mut g_r (some g_r) 86 w w_ := ⟨_, rfl⟩
        refine W_loop I57 (n := fu) ?_ ?_
        · rw [hI57]; exact ⟨x11.sizes, r18_0, hL57, rfl, rfl, hrb, hb_g_r, hr18_0, hr18_1, hb_g19, hb_g8, hx⟩
        ·
          intro n57 f w_ hI
          rw [hI57] at hI
          obtain ⟨g19_0_56, v56_g19_0, hL57, sf4, sf5, hrb, hb_g_r, hv56_g19_0, hr18_1, hb_g19, hb_g8, hx⟩ := hI
          cases n57 with
          | zero => exact (while_zero hL57).elim
          | succ n57 =>
            obtain ⟨o57, hB57, hL57⟩ := while_succ hL57
            rw [s_l6Mutate_b1] at hB57
            refine W_seq ?_
            refine W_seq ?_
            refine W_region ?_
            refine L_fa (o' := 0) rfl fa_26_0 sf5 rfl ?_
            refine L_ld (v := v56_g19_0) rfl Try.isAgg23 rfl (hb_g19.cell (j := 0) rfl) ?_
            refine L_len (v := v56_g19_0) rfl Try.underlying23 rfl (Own.rel hv56_g19_0) ?_
            refine L_leq (m := (g19_0_56.length : Int)) (n := 5) rfl rfl rfl ?_
            refine L_nil ?_
            refine W_cond (b := decide ((g19_0_56.length : Int) ≤ 5)) rfl (fun hc58 => ?_) (fun hc58 => ?_)
            ·
              have hB57 := (ite_t hc58).symm.trans hB57
              refine W_skip ?_
              refine W_block ?_
              obtain ⟨x62, hx62, hB57⟩ := bind_some hB57
              refine W_region ?_
              refine L_fa (o' := 0) rfl fa_26_0 sf5 rfl ?_
              refine L_ld (v := v56_g19_0) rfl Try.isAgg23 rfl (hb_g19.cell (j := 0) rfl) ?_
              refine L_bs rfl (parts1 rfl) (bs_23_1_0 (.int .i64 0) rfl) ?_
              intro g66 w67 hn67
              have ho67 : Own RP.int 3 w.heap.size B w67 _ [0] := own_new1 hn67 hx.size rfl
              have ap68 := ap_ob hv56_g19_0 hn67
              have hrb := RP.ext hrb hn67.ext
              have hb_g_r := Blk.ext hb_g_r hn67.ext
              have hv56_g19_0 := Own.ext hv56_g19_0 hn67.ext
              have hr18_1 := SepR.ext hr18_1 hn67.ext
              have hb_g19 := Blk.ext hb_g19 hn67.ext
              have hb_g8 := Blk.ext hb_g8 hn67.ext
              have hx := fr1_ext hx hn67.ext hgl
              refine L_app (v := v56_g19_0) (u := (.slice (some ⟨g66, 0, none⟩) 1 1)) rfl et_23 (by first | decide | (rw [rRuleN_ts]; decide) | (rw [sliceN_ts, int_ts]; decide) | (rw [sliceN_ts, sliceN_ts, int_ts]; decide)) rfl rfl hv56_g19_0 (rel0 (Own.rel ho67)) hx62 hx.size hB ?_
              intro v69 w69 ho69 hm69 hb69
              have hrb := hm69.rel hrb (by first | decide | (rw [rRuleN_ts]; decide) | (rw [sliceN_ts, int_ts]; decide) | (rw [sliceN_ts, sliceN_ts, int_ts]; decide)) (Nat.le_trans hB (Nat.le_refl _))
              have hb_g_r := hm69.blk hb_g_r (by first | decide | (rw [rRuleN_ts]; decide) | (rw [sliceN_ts, int_ts]; decide) | (rw [sliceN_ts, sliceN_ts, int_ts]; decide))
              have hr18_1 := SepR.app hr18_1 hm69 hb69
              have hb_g19 := hm69.blk hb_g19 (by first | decide | (rw [rRuleN_ts]; decide) | (rw [sliceN_ts, int_ts]; decide) | (rw [sliceN_ts, sliceN_ts, int_ts]; decide))
              have hb_g8 := hm69.blk hb_g8 (by first | decide | (rw [rRuleN_ts]; decide) | (rw [sliceN_ts, int_ts]; decide) | (rw [sliceN_ts, sliceN_ts, int_ts]; decide))
              have hx := fr1_mut hx hm69 (Nat.le_refl _) hgl
              refine L_fa (o' := 0) rfl fa_26_0 sf5 rfl ?_
              refine L_st (v := v69) rfl Try.sizeOf23 rfl rfl (one_of (Own.rel ho69)) hb_g19 rfl ?_
              intro w70 hp70
              have hrb := hp70.mu.rel hrb (by first | decide | (rw [rRuleN_ts]; decide) | (rw [sliceN_ts, int_ts]; decide) | (rw [sliceN_ts, sliceN_ts, int_ts]; decide)) (Nat.le_trans hB hge_g19)
              have hb_g_r := hp70.mu.blk hb_g_r (by first | decide | (rw [rRuleN_ts]; decide) | (rw [sliceN_ts, int_ts]; decide) | (rw [sliceN_ts, sliceN_ts, int_ts]; decide))
              have hr18_1 := SepR.mut hr18_1 hp70.mu (by first | decide | (rw [rRuleN_ts]; decide) | (rw [sliceN_ts, int_ts]; decide) | (rw [sliceN_ts, sliceN_ts, int_ts]; decide)) (Nat.le_trans hB hge_g19)
              have hb_g8 := hp70.mu.blkA hb_g8 (Ap.symm ap21)
              have ho69 := hp70.mu.ownT ho69 (by first | decide | (rw [rRuleN_ts]; decide) | (rw [sliceN_ts, int_ts]; decide) | (rw [sliceN_ts, sliceN_ts, int_ts]; decide)) (by first | decide | (rw [rRuleN_ts]; decide) | (rw [sliceN_ts, int_ts]; decide) | (rw [sliceN_ts, sliceN_ts, int_ts]; decide)) (Nat.le_trans hB hge_g19)
              have hx := fr1_mut hx hp70.mu hge_g19 hgl
              have hb_g19 : Blk w70 g19 26 #[v69, r18_1] := hp70.blk
              refine L_nil ?_
              obtain rfl := so hB57
              show ∃ m, m < _ ∧ I57 m _ _
              refine ⟨n57, Nat.lt_succ_self _, ?_⟩
              rw [hI57]
              exact ⟨x62, v69, hL57, sf4, sf5, hrb, hb_g_r, ho69, hr18_1, hb_g19, hb_g8, hx⟩
            ·
              have hB57 := (ite_f hc58).symm.trans hB57
              refine W_exit ?_
              obtain rfl := so hB57
              obtain rfl := so hL57
              show R57 _ _
              rw [hR57]
              exact ⟨g19_0_56, v56_g19_0, rfl, sf4, sf5, hrb, hb_g_r, hv56_g19_0, hr18_1, hb_g19, hb_g8, hx⟩
      ·
        intro f w_ hR
        rw [hR57] at hR
        obtain ⟨g19_0_56, v56_g19_0, rfl, sf4, sf5, hrb, hb_g_r, hv56_g19_0, hr18_1, hb_g19, hb_g8, hx⟩ := hR
        clear hR57
        refine W_seq ?_
        refine W_region ?_
        refine L_lda (cs := [v56_g19_0, r18_1]) rfl Try.isAgg26 Try.sizeOf26 sf5 (Blk.sub hb_g19 0 2) rfl ?_
        refine L_sta (vs := #[v56_g19_0, r18_1]) rfl Try.sizeOf26 sf4 rfl rfl (ones_cons (one_of (Own.rel hv56_g19_0)) (ones_cons (one_of (SepR.rel hr18_1)) ones_nil)) hb_g8 rfl ?_
        intro w72 hp72
        have hrb := hp72.mu.rel hrb (by first | decide | (rw [rRuleN_ts]; decide) | (rw [sliceN_ts, int_ts]; decide) | (rw [sliceN_ts, sliceN_ts, int_ts]; decide)) (Nat.le_trans hB hge_g8)
        have hb_g_r := hp72.mu.blk hb_g_r (by first | decide | (rw [rRuleN_ts]; decide) | (rw [sliceN_ts, int_ts]; decide) | (rw [sliceN_ts, sliceN_ts, int_ts]; decide))
        have hv56_g19_0 := hp72.mu.ownT hv56_g19_0 (by first | decide | (rw [rRuleN_ts]; decide) | (rw [sliceN_ts, int_ts]; decide) | (rw [sliceN_ts, sliceN_ts, int_ts]; decide)) (by first | decide | (rw [rRuleN_ts]; decide) | (rw [sliceN_ts, int_ts]; decide) | (rw [sliceN_ts, sliceN_ts, int_ts]; decide)) (Nat.le_trans hB hge_g8)
        have hr18_1 := SepR.mut hr18_1 hp72.mu (by first | decide | (rw [rRuleN_ts]; decide) | (rw [sliceN_ts, int_ts]; decide) | (rw [sliceN_ts, sliceN_ts, int_ts]; decide)) (Nat.le_trans hB hge_g8)
        have hx := fr1_mut hx hp72.mu hge_g8 hgl
        have hb_g8 : Blk w72 g8 26 #[v56_g19_0, r18_1] := hp72.blk
        refine L_nil ?_
        refine W_ret ?_
        have hG := assertM_some hF
        refine retc Try.results47 Try.isAgg26 Try.sizeOf26 sf4 hb_g8 rfl ?_
        exact ⟨⟨(({ sizes := g19_0_56, rules := x11.rules } : Model), x23.2), hG, ⟨⟨v56_g19_0, r18_1, rfl, (rel0 (Own.rel hv56_g19_0)), (rel0 (SepR.rel hr18_1))⟩, hb_g_r⟩⟩, hx⟩
    ·
      have hF := (ite_f hc54).symm.trans hF
      refine W_seq ?_
      refine W_region ?_
      refine L_eql (m := x23.1) (n := 2) rfl rfl rfl ?_
      refine L_as (v := .bool (x23.1 == 2)) rfl rfl ?_
      refine L_nil ?_
      refine W_cond (b := (x23.1 == 2)) rfl (fun hc73 => ?_) (fun hc73 => ?_)
      ·
        have hF := (ite_t hc73).symm.trans hF
        refine W_seq ?_
        refine W_region ?_
        refine L_mv (v := .int .i64 (x11.rules.length : Int)) rfl rfl ?_
        refine L_gtr (m := (x11.rules.length : Int)) (n := 0) rfl rfl rfl ?_
        refine L_nil ?_
        refine W_cond (b := decide ((x11.rules.length : Int) > 0)) rfl (fun hc74 => ?_) (fun hc74 => ?_)
        ·
          have hF := (ite_t hc74).symm.trans hF
          obtain ⟨x78, hx78, hF⟩ := bind_some hF
          obtain ⟨x80, hx80, hF⟩ := bind_some hF
          refine W_drawR 5 [isV (.pointer (some ⟨g19, 1, none⟩)), isV (r18_1), isV (.pointer (some ⟨g_r, 0, none⟩)), isOwn B RP.int 3 w.heap.size ([0, 5, 1, 2, 3]), isV (.int .i64 x78.1)] g_r 86 (fun k => match k with | 0 => #[v_r, .int .i64 x23.2] | _ => #[v_r, .int .i64 x78.2]) [4] Try_mix (by kernel_rfl) (by first | decide | (rw [rRuleN_ts]; decide) | (rw [sliceN_ts, int_ts]; decide) | (rw [sliceN_ts, sliceN_ts, int_ts]; decide)) (by first | decide | (rw [rRuleN_ts]; decide) | (rw [sliceN_ts, int_ts]; decide) | (rw [sliceN_ts, sliceN_ts, int_ts]; decide)) (amR_cons (monoR_V _) (amR_cons (monoR_V _) (amR_cons (monoR_V _) (amR_cons (monoR_own (by first | decide | (rw [rRuleN_ts]; decide) | (rw [sliceN_ts, int_ts]; decide) | (rw [sliceN_ts, sliceN_ts, int_ts]; decide)) (by first | decide | (rw [rRuleN_ts]; decide) | (rw [sliceN_ts, int_ts]; decide) | (rw [sliceN_ts, sliceN_ts, int_ts]; decide)) hrB) (amR_cons (monoR_V _) amR_nil))))) hb_g_r ?_ (fun f w_ hS84 hE84 hbr84 hT84 => ?_)
          ·
            refine opsR_cons (by first | decide | (rw [rRuleN_ts]; decide) | (rw [sliceN_ts, int_ts]; decide) | (rw [sliceN_ts, sliceN_ts, int_ts]; decide)) (fun f w_ hS84 hE84 hbr84 hP84 => ?_) ?_
            ·
              have hx := fr1_trans hx hE84
              have hr18_0 := hE84.ownT hr18_0 (by first | decide | (rw [rRuleN_ts]; decide) | (rw [sliceN_ts, int_ts]; decide) | (rw [sliceN_ts, sliceN_ts, int_ts]; decide)) (by first | decide | (rw [rRuleN_ts]; decide) | (rw [sliceN_ts, int_ts]; decide) | (rw [sliceN_ts, sliceN_ts, int_ts]; decide)) hrB
              have hr18_1 := hE84.ownT hr18_1 (by first | decide | (rw [rRuleN_ts]; decide) | (rw [sliceN_ts, int_ts]; decide) | (rw [sliceN_ts, sliceN_ts, int_ts]; decide)) (by first | decide | (rw [rRuleN_ts]; decide) | (rw [sliceN_ts, int_ts]; decide) | (rw [sliceN_ts, sliceN_ts, int_ts]; decide)) hrB
              have hb_g19 := hE84.blk hb_g19 (by first | decide | (rw [rRuleN_ts]; decide) | (rw [sliceN_ts, int_ts]; decide) | (rw [sliceN_ts, sliceN_ts, int_ts]; decide))
              refine L_fa (o' := 1) rfl fa_26_1 ((hS84 5 rfl).trans rfl) rfl ?_
              exact L_nil ⟨rfl, (ext_refl _), _, _, rfl, rfl, rfl⟩
            refine opsR_cons (by first | decide | (rw [rRuleN_ts]; decide) | (rw [sliceN_ts, int_ts]; decide) | (rw [sliceN_ts, sliceN_ts, int_ts]; decide)) (fun f w_ hS84 hE84 hbr84 hP84 => ?_) ?_
            ·
              have hx := fr1_trans hx hE84
              have hr18_0 := hE84.ownT hr18_0 (by first | decide | (rw [rRuleN_ts]; decide) | (rw [sliceN_ts, int_ts]; decide) | (rw [sliceN_ts, sliceN_ts, int_ts]; decide)) (by first | decide | (rw [rRuleN_ts]; decide) | (rw [sliceN_ts, int_ts]; decide) | (rw [sliceN_ts, sliceN_ts, int_ts]; decide)) hrB
              have hr18_1 := hE84.ownT hr18_1 (by first | decide | (rw [rRuleN_ts]; decide) | (rw [sliceN_ts, int_ts]; decide) | (rw [sliceN_ts, sliceN_ts, int_ts]; decide)) (by first | decide | (rw [rRuleN_ts]; decide) | (rw [sliceN_ts, int_ts]; decide) | (rw [sliceN_ts, sliceN_ts, int_ts]; decide)) hrB
              have hb_g19 := hE84.blk hb_g19 (by first | decide | (rw [rRuleN_ts]; decide) | (rw [sliceN_ts, int_ts]; decide) | (rw [sliceN_ts, sliceN_ts, int_ts]; decide))
              refine L_ld (v := r18_1) rfl Try.isAgg24 (hP84 0 41 rfl rfl) (hb_g19.cell (j := 1) rfl) ?_
              exact L_nil ⟨rfl, (ext_refl _), _, _, rfl, rfl, rfl⟩
            refine opsR_cons (by first | decide | (rw [rRuleN_ts]; decide) | (rw [sliceN_ts, int_ts]; decide) | (rw [sliceN_ts, sliceN_ts, int_ts]; decide)) (fun f w_ hS84 hE84 hbr84 hP84 => ?_) ?_
            ·
              have hx := fr1_trans hx hE84
              refine L_mv (v := .pointer (some ⟨g_r, 0, none⟩)) rfl ((hS84 0 rfl).trans rfl) ?_
              exact L_nil ⟨rfl, (ext_refl _), _, _, rfl, rfl, rfl⟩
            refine opsR_cons (by first | decide | (rw [rRuleN_ts]; decide) | (rw [sliceN_ts, int_ts]; decide) | (rw [sliceN_ts, sliceN_ts, int_ts]; decide)) (fun f w_ hS84 hE84 hbr84 hP84 => ?_) ?_
            ·
              have hx := fr1_trans hx hE84
              refine L_bs rfl (parts5 rfl rfl rfl rfl rfl) (bs_23_5_0_0_0_0_0 (.int .i64 0) (.int .i64 5) (.int .i64 1) (.int .i64 2) (.int .i64 3) rfl rfl rfl rfl rfl) ?_
              intro g89 w90 hn90
              have ho90 : Own RP.int 3 w.heap.size B w90 _ [0, 5, 1, 2, 3] := own_lit rfl hn90 rfl (by first | decide | (rw [rRuleN_ts]; decide) | (rw [sliceN_ts, int_ts]; decide) | (rw [sliceN_ts, sliceN_ts, int_ts]; decide)) hx.size (by intro i z hz; rcases i with _ | _ | _ | _ | _ | i <;> simp at hz <;> subst hz <;> rfl)
              have hx := fr1_ext hx hn90.ext hgl
              exact L_nil ⟨rfl, hn90.ext, _, _, rfl, rfl, ho90⟩
            refine opsR_draw 0 rfl (by first | exact .inl rfl | exact .inr ⟨_, rfl, by decide⟩) (fun f w_ hS84 hE84 hbr84 hP84 => ?_) ?_
            ·
              have hx := fr1_trans hx hE84
              have hrb := hE84.rel hrb (by first | decide | (rw [rRuleN_ts]; decide) | (rw [sliceN_ts, int_ts]; decide) | (rw [sliceN_ts, sliceN_ts, int_ts]; decide)) hrB
              have hb_g_r : Blk w_ g_r 86 #[v_r, .int .i64 x23.2] := hbr84
              have hd91 := (hP84 3 44 rfl rfl)
              refine L_call (args := #[.pointer (some ⟨g_r, 0, none⟩), (f 44)]) rfl Try.call49 (ops2 (hP84 2 43 rfl rfl) rfl) (s_l17Rd_num_c (r_ := ({ b := r_.b, p := x23.2 } : Rd)) (list := [0, 5, 1, 2, 3]) (Nat.le_trans hB hx.size) hb_g_r (rel0 hrb) hrB (rel0 (Own.rel hd91)) hx78) ?_
              rintro _ w92 ⟨⟨rfl, hbn92⟩, he92⟩
              have hrb := he92.rel hrb (by first | decide | (rw [rRuleN_ts]; decide) | (rw [sliceN_ts, int_ts]; decide) | (rw [sliceN_ts, sliceN_ts, int_ts]; decide)) hrB
              have hd91 := he92.ownT hd91 (by first | decide | (rw [rRuleN_ts]; decide) | (rw [sliceN_ts, int_ts]; decide) | (rw [sliceN_ts, sliceN_ts, int_ts]; decide)) (by first | decide | (rw [rRuleN_ts]; decide) | (rw [sliceN_ts, int_ts]; decide) | (rw [sliceN_ts, sliceN_ts, int_ts]; decide)) hrB
              have hx := fr1_trans hx he92
              have hb_g_r := hbn92
              exact L_nil ⟨rfl, he92, hb_g_r, _, _, rfl, rfl, rfl⟩
            exact opsR_nil
          ·
            have hrb := hE84.rel hrb (by first | decide | (rw [rRuleN_ts]; decide) | (rw [sliceN_ts, int_ts]; decide) | (rw [sliceN_ts, sliceN_ts, int_ts]; decide)) hrB
            have hb_g8 := hE84.blk hb_g8 (by first | decide | (rw [rRuleN_ts]; decide) | (rw [sliceN_ts, int_ts]; decide) | (rw [sliceN_ts, sliceN_ts, int_ts]; decide))
            have hr18_0 := hE84.ownT hr18_0 (by first | decide | (rw [rRuleN_ts]; decide) | (rw [sliceN_ts, int_ts]; decide) | (rw [sliceN_ts, sliceN_ts, int_ts]; decide)) (by first | decide | (rw [rRuleN_ts]; decide) | (rw [sliceN_ts, int_ts]; decide) | (rw [sliceN_ts, sliceN_ts, int_ts]; decide)) hrB
            have hr18_1 := hE84.ownT hr18_1 (by first | decide | (rw [rRuleN_ts]; decide) | (rw [sliceN_ts, int_ts]; decide) | (rw [sliceN_ts, sliceN_ts, int_ts]; decide)) (by first | decide | (rw [rRuleN_ts]; decide) | (rw [sliceN_ts, int_ts]; decide) | (rw [sliceN_ts, sliceN_ts, int_ts]; decide)) hrB
            have hb_g19 := hE84.blk hb_g19 (by first | decide | (rw [rRuleN_ts]; decide) | (rw [sliceN_ts, int_ts]; decide) | (rw [sliceN_ts, sliceN_ts, int_ts]; decide))
            have hx := fr1_trans hx hE84
            have hb_g_r : Blk w_ g_r 86 #[v_r, .int .i64 x78.2] := hbr84
            refine L_ixo (r := (rRuleN LN 3 23)) rfl et_24 (hT84 1 42 rfl rfl) hr18_1 rfl hx80 ?_
            intro g93 c94 cs94 hg94 hl94 hc94 hr94 hj94
            refine L_fa (o' := Int.toNat 0 * 5 + 0) rfl fa_36_0 rfl rfl ?_
            obtain ⟨u94_0, u94_1, u94_2, rfl, hu94_0, hu94_1, hu94_2⟩ := rRuleN_iff.1 hr94
            refine L_st (v := .int .i64 x78.1) rfl Try.sizeOf3 rfl (hT84 4 45 rfl rfl) rfl hc94 (hj94 0 _ rfl) ?_
            intro w95 hp95
            have hr18_1_n : Own (rRuleN LN 3 23) 36 _ B w95 _ (x11.rules.set (Int.toNat 0) ({ kind := x78.1, vars := x80.vars, coefs := x80.coefs, bound := x80.bound, rows := x80.rows } : Rule)) := own_setF (j := 0) hr18_1 hg94 (by first | decide | (rw [rRuleN_ts]; decide) | (rw [sliceN_ts, int_ts]; decide) | (rw [sliceN_ts, sliceN_ts, int_ts]; decide)) (idx_some hx80).2.2 hc94 hp95 hj94 (by simp) (rRuleN_iff.2 ⟨_, _, _, rfl, (rel0 hu94_0), (rel0 hu94_1), (rel0 hu94_2)⟩) hB
            have hrb := hp95.mu.rel hrb (by first | decide | (rw [rRuleN_ts]; decide) | (rw [sliceN_ts, int_ts]; decide) | (rw [sliceN_ts, sliceN_ts, int_ts]; decide)) (Nat.le_trans hB hl94)
            have hb_g_r := hp95.mu.blk hb_g_r (by first | decide | (rw [rRuleN_ts]; decide) | (rw [sliceN_ts, int_ts]; decide) | (rw [sliceN_ts, sliceN_ts, int_ts]; decide))
            have hb_g8 := hp95.mu.blk hb_g8 (by first | decide | (rw [rRuleN_ts]; decide) | (rw [sliceN_ts, int_ts]; decide) | (rw [sliceN_ts, sliceN_ts, int_ts]; decide))
            have hr18_0 := hp95.mu.ownT hr18_0 (by first | decide | (rw [rRuleN_ts]; decide) | (rw [sliceN_ts, int_ts]; decide) | (rw [sliceN_ts, sliceN_ts, int_ts]; decide)) (by first | decide | (rw [rRuleN_ts]; decide) | (rw [sliceN_ts, int_ts]; decide) | (rw [sliceN_ts, sliceN_ts, int_ts]; decide)) (Nat.le_trans hB hl94)
            have hb_g19 := hp95.mu.blk hb_g19 (by first | decide | (rw [rRuleN_ts]; decide) | (rw [sliceN_ts, int_ts]; decide) | (rw [sliceN_ts, sliceN_ts, int_ts]; decide))
            have hx := fr1_mut hx hp95.mu hl94 hgl
            have hr18_1 := hr18_1_n
            refine L_nil ?_
            refine W_seq ?_
            refine W_region ?_
            refine L_lda (cs := [r18_0, r18_1]) rfl Try.isAgg26 Try.sizeOf26 ((hS84 5 rfl).trans rfl) (Blk.sub hb_g19 0 2) rfl ?_
            refine L_sta (vs := #[r18_0, r18_1]) rfl Try.sizeOf26 ((hS84 4 rfl).trans rfl) rfl rfl (ones_cons (one_of (Own.rel hr18_0)) (ones_cons (one_of (ownR hr18_1)) ones_nil)) hb_g8 rfl ?_
            intro w97 hp97
            have hrb := hp97.mu.rel hrb (by first | decide | (rw [rRuleN_ts]; decide) | (rw [sliceN_ts, int_ts]; decide) | (rw [sliceN_ts, sliceN_ts, int_ts]; decide)) (Nat.le_trans hB hge_g8)
            have hb_g_r := hp97.mu.blk hb_g_r (by first | decide | (rw [rRuleN_ts]; decide) | (rw [sliceN_ts, int_ts]; decide) | (rw [sliceN_ts, sliceN_ts, int_ts]; decide))
            have hr18_0 := hp97.mu.ownT hr18_0 (by first | decide | (rw [rRuleN_ts]; decide) | (rw [sliceN_ts, int_ts]; decide) | (rw [sliceN_ts, sliceN_ts, int_ts]; decide)) (by first | decide | (rw [rRuleN_ts]; decide) | (rw [sliceN_ts, int_ts]; decide) | (rw [sliceN_ts, sliceN_ts, int_ts]; decide)) (Nat.le_trans hB hge_g8)
            have hr18_1 := hp97.mu.ownT hr18_1 (by first | decide | (rw [rRuleN_ts]; decide) | (rw [sliceN_ts, int_ts]; decide) | (rw [sliceN_ts, sliceN_ts, int_ts]; decide)) (by first | decide | (rw [rRuleN_ts]; decide) | (rw [sliceN_ts, int_ts]; decide) | (rw [sliceN_ts, sliceN_ts, int_ts]; decide)) (Nat.le_trans hB hge_g8)
            have hx := fr1_mut hx hp97.mu hge_g8 hgl
            have hb_g8 : Blk w97 g8 26 #[r18_0, r18_1] := hp97.blk
            refine L_nil ?_
            refine W_ret ?_
            have hG := assertM_some hF
            refine retc Try.results47 Try.isAgg26 Try.sizeOf26 ((hS84 4 rfl).trans rfl) hb_g8 rfl ?_
            exact ⟨⟨(({ sizes := x11.sizes, rules := (x11.rules.set (Int.toNat 0) ({ kind := x78.1, vars := x80.vars, coefs := x80.coefs, bound := x80.bound, rows := x80.rows } : Rule)) } : Model), x78.2), hG, ⟨⟨r18_0, r18_1, rfl, (rel0 (Own.rel hr18_0)), (rel0 (ownR hr18_1))⟩, hb_g_r⟩⟩, hx⟩
        ·
          have hF := (ite_f hc74).symm.trans hF
          refine W_skip ?_
          refine W_seq ?_
          refine W_region ?_
          refine L_lda (cs := [r18_0, r18_1]) rfl Try.isAgg26 Try.sizeOf26 rfl (Blk.sub hb_g19 0 2) rfl ?_
          refine L_sta (vs := #[r18_0, r18_1]) rfl Try.sizeOf26 rfl rfl rfl (ones_cons (one_of (Own.rel hr18_0)) (ones_cons (one_of (ownR hr18_1)) ones_nil)) hb_g8 rfl ?_
          intro w99 hp99
          have hrb := hp99.mu.rel hrb (by first | decide | (rw [rRuleN_ts]; decide) | (rw [sliceN_ts, int_ts]; decide) | (rw [sliceN_ts, sliceN_ts, int_ts]; decide)) (Nat.le_trans hB hge_g8)
          have hb_g_r := hp99.mu.blk hb_g_r (by first | decide | (rw [rRuleN_ts]; decide) | (rw [sliceN_ts, int_ts]; decide) | (rw [sliceN_ts, sliceN_ts, int_ts]; decide))
          have hr18_0 := hp99.mu.ownT hr18_0 (by first | decide | (rw [rRuleN_ts]; decide) | (rw [sliceN_ts, int_ts]; decide) | (rw [sliceN_ts, sliceN_ts, int_ts]; decide)) (by first | decide | (rw [rRuleN_ts]; decide) | (rw [sliceN_ts, int_ts]; decide) | (rw [sliceN_ts, sliceN_ts, int_ts]; decide)) (Nat.le_trans hB hge_g8)
          have hr18_1 := hp99.mu.ownT hr18_1 (by first | decide | (rw [rRuleN_ts]; decide) | (rw [sliceN_ts, int_ts]; decide) | (rw [sliceN_ts, sliceN_ts, int_ts]; decide)) (by first | decide | (rw [rRuleN_ts]; decide) | (rw [sliceN_ts, int_ts]; decide) | (rw [sliceN_ts, sliceN_ts, int_ts]; decide)) (Nat.le_trans hB hge_g8)
          have hx := fr1_mut hx hp99.mu hge_g8 hgl
          have hb_g8 : Blk w99 g8 26 #[r18_0, r18_1] := hp99.blk
          refine L_nil ?_
          refine W_ret ?_
          have hG := assertM_some hF
          refine retc Try.results47 Try.isAgg26 Try.sizeOf26 rfl hb_g8 rfl ?_
          exact ⟨⟨(x11, x23.2), hG, ⟨⟨r18_0, r18_1, rfl, (rel0 (Own.rel hr18_0)), (rel0 (ownR hr18_1))⟩, hb_g_r⟩⟩, hx⟩
      ·
        have hF := (ite_f hc73).symm.trans hF
        refine W_seq ?_
        refine W_region ?_
        refine L_eql (m := x23.1) (n := 3) rfl rfl rfl ?_
        refine L_as (v := .bool (x23.1 == 3)) rfl rfl ?_
        refine L_nil ?_
        refine W_cond (b := (x23.1 == 3)) rfl (fun hc100 => ?_) (fun hc100 => ?_)
        ·
          have hF := (ite_t hc100).symm.trans hF
          refine W_seq ?_
          obtain ⟨b104, hb104, hF⟩ := bind_some hF
          obtain ⟨R105, hR105⟩ : ∃ R : Fr → World → Prop, R = fun f w_ => f 0 = .pointer (some ⟨g_r, 0, none⟩) ∧ f 4 = .pointer (some ⟨g8, 0, none⟩) ∧ f 5 = .pointer (some ⟨g19, 0, none⟩) ∧ f 6 = .int .i64 (x11.rules.length : Int) ∧ f 62 = .bool b104 ∧ (RP.slice 5 RP.u8).rel B w.heap.size w_ [v_r] r_.b ∧ Blk w_ g_r 86 #[v_r, .int .i64 x23.2] ∧ Own RP.int 3 w.heap.size B w_ r18_0 x11.sizes ∧ Own (rRuleN LN 3 23) 36 w.heap.size B w_ r18_1 x11.rules ∧ Blk w_ g19 26 #[r18_0, r18_1] ∧ Blk w_ g8 26 #[(.slice none 0 0), (.slice none 0 0)] ∧ Mut g_r (some g_r) 86 w w_ := ⟨_, rfl⟩
          refine W_join R105 ?_ ?_
          ·
            refine W_region ?_
            refine L_mv (v := .int .i64 (x11.rules.length : Int)) rfl rfl ?_
            refine L_gtr (m := (x11.rules.length : Int)) (n := 0) rfl rfl rfl ?_
            refine L_mv (v := .bool (decide ((x11.rules.length : Int) > 0))) rfl rfl ?_
            refine L_split (d := 52) (b := decide ((x11.rules.length : Int) > 0)) rfl (fun hc106 => ?_) (fun hc106 => ?_)
            ·
              rw [ite_t hc106] at hb104
              obtain ⟨x101, hx101, hb104⟩ := bind_some hb104
              refine L_fa (o' := 1) rfl fa_26_1 rfl rfl ?_
              refine L_ld (v := r18_1) rfl Try.isAgg24 rfl (hb_g19.cell (j := 1) rfl) ?_
              refine L_mv (v := .int .i64 (x11.rules.length : Int)) rfl rfl ?_
              refine L_sub (m := (x11.rules.length : Int)) (n := 1) rfl rfl rfl ?_
              refine L_ix (r := (rRuleN LN 3 23)) rfl Try.underlying24 Try.sizeOf36 rfl (Own.rel hr18_1) rfl hx101 ?_
              intro g107 o108 cs108 hr108 hat108
              obtain ⟨u108_0, u108_1, u108_2, rfl, hu108_0, hu108_1, hu108_2⟩ := rRuleN_iff.1 hr108
              refine L_fa (o' := o108 + 1) rfl fa_36_1 rfl rfl ?_
              refine L_ld (v := u108_0) rfl Try.isAgg23 rfl (hat108.cell (j := 1) rfl) ?_
              refine L_len (v := u108_0) rfl Try.underlying23 rfl (And.left hu108_0) ?_
              refine L_gtr (m := (x101.vars.length : Int)) (n := 0) rfl rfl rfl ?_
              refine L_pick (v := .bool b104) rfl rfl (congrArg Value.bool (so hb104)) ?_
              refine L_nil ?_
              show R105 _ _
              rw [hR105]
              exact ⟨rfl, rfl, rfl, rfl, rfl, hrb, hb_g_r, hr18_0, hr18_1, hb_g19, hb_g8, hx⟩
            ·
              rw [ite_f hc106] at hb104
              refine L_pass rfl ?_
              refine L_pass rfl ?_
              refine L_pass rfl ?_
              refine L_pass rfl ?_
              refine L_pass rfl ?_
              refine L_pass rfl ?_
              refine L_pass rfl ?_
              refine L_pass rfl ?_
              refine L_pass rfl ?_
              refine L_pick (v := .bool b104) rfl rfl (congrArg Value.bool (so hb104)) ?_
              refine L_nil ?_
              show R105 _ _
              rw [hR105]
              exact ⟨rfl, rfl, rfl, rfl, rfl, hrb, hb_g_r, hr18_0, hr18_1, hb_g19, hb_g8, hx⟩
          ·
            intro f w_ hR
            rw [hR105] at hR
            obtain ⟨sf0, sf4, sf5, sf6, sf62, hrb, hb_g_r, hr18_0, hr18_1, hb_g19, hb_g8, hx⟩ := hR
            clear hR105
            refine W_cond (b := b104) sf62 (fun hc109 => ?_) (fun hc109 => ?_)
            ·
              have hF := (ite_t hc109).symm.trans hF
              obtain ⟨x110, hx110, hF⟩ := bind_some hF
              obtain ⟨x116, hx116, hF⟩ := bind_some hF
              obtain ⟨x118, hx118, hF⟩ := bind_some hF
              obtain ⟨q121, hq121, hF⟩ := bind_some hF
              have hF := anyM_some hF
              refine W_drawR 10 [isV (.pointer (some ⟨g19, 1, none⟩)), isV (r18_1), isV (.int .i64 (x11.rules.length : Int)), isV (.int .i64 (i64 ((x11.rules.length : Int) - 1))), isElT B (rRuleN LN 3 23) 36 x110 0, isElT B (rRuleN LN 3 23) 36 x110 1, isData B (RP.sliceN LN 3 RP.int) x110.vars, isV (.pointer (some ⟨g_r, 0, none⟩)), isOwn B RP.int 3 w.heap.size ([(-1), 5, 1, 0]), isV (.int .i64 x116.1)] g_r 86 (fun k => match k with | 0 => #[v_r, .int .i64 x23.2] | _ => #[v_r, .int .i64 x116.2]) [9] Try_mix (by kernel_rfl) (by first | decide | (rw [rRuleN_ts]; decide) | (rw [sliceN_ts, int_ts]; decide) | (rw [sliceN_ts, sliceN_ts, int_ts]; decide)) (by first | decide | (rw [rRuleN_ts]; decide) | (rw [sliceN_ts, int_ts]; decide) | (rw [sliceN_ts, sliceN_ts, int_ts]; decide)) (amR_cons (monoR_V _) (amR_cons (monoR_V _) (amR_cons (monoR_V _) (amR_cons (monoR_V _) (amR_cons (monoR_elT (by first | decide | (rw [rRuleN_ts]; decide) | (rw [sliceN_ts, int_ts]; decide) | (rw [sliceN_ts, sliceN_ts, int_ts]; decide)) (by first | decide | (rw [rRuleN_ts]; decide) | (rw [sliceN_ts, int_ts]; decide) | (rw [sliceN_ts, sliceN_ts, int_ts]; decide)) hrB) (amR_cons (monoR_elT (by first | decide | (rw [rRuleN_ts]; decide) | (rw [sliceN_ts, int_ts]; decide) | (rw [sliceN_ts, sliceN_ts, int_ts]; decide)) (by first | decide | (rw [rRuleN_ts]; decide) | (rw [sliceN_ts, int_ts]; decide) | (rw [sliceN_ts, sliceN_ts, int_ts]; decide)) hrB) (amR_cons (monoR_data (by first | decide | (rw [rRuleN_ts]; decide) | (rw [sliceN_ts, int_ts]; decide) | (rw [sliceN_ts, sliceN_ts, int_ts]; decide)) hrB) (amR_cons (monoR_V _) (amR_cons (monoR_own (by first | decide | (rw [rRuleN_ts]; decide) | (rw [sliceN_ts, int_ts]; decide) | (rw [sliceN_ts, sliceN_ts, int_ts]; decide)) (by first | decide | (rw [rRuleN_ts]; decide) | (rw [sliceN_ts, int_ts]; decide) | (rw [sliceN_ts, sliceN_ts, int_ts]; decide)) hrB) (amR_cons (monoR_V _) amR_nil)))))))))) hb_g_r ?_ (fun f w_ hS123 hE123 hbr123 hT123 => ?_)
              ·
                refine opsR_cons (by first | decide | (rw [rRuleN_ts]; decide) | (rw [sliceN_ts, int_ts]; decide) | (rw [sliceN_ts, sliceN_ts, int_ts]; decide)) (fun f w_ hS123 hE123 hbr123 hP123 => ?_) ?_
                ·
                  have hx := fr1_trans hx hE123
                  have hr18_0 := hE123.ownT hr18_0 (by first | decide | (rw [rRuleN_ts]; decide) | (rw [sliceN_ts, int_ts]; decide) | (rw [sliceN_ts, sliceN_ts, int_ts]; decide)) (by first | decide | (rw [rRuleN_ts]; decide) | (rw [sliceN_ts, int_ts]; decide) | (rw [sliceN_ts, sliceN_ts, int_ts]; decide)) hrB
                  have hr18_1 := hE123.ownT hr18_1 (by first | decide | (rw [rRuleN_ts]; decide) | (rw [sliceN_ts, int_ts]; decide) | (rw [sliceN_ts, sliceN_ts, int_ts]; decide)) (by first | decide | (rw [rRuleN_ts]; decide) | (rw [sliceN_ts, int_ts]; decide) | (rw [sliceN_ts, sliceN_ts, int_ts]; decide)) hrB
                  have hb_g19 := hE123.blk hb_g19 (by first | decide | (rw [rRuleN_ts]; decide) | (rw [sliceN_ts, int_ts]; decide) | (rw [sliceN_ts, sliceN_ts, int_ts]; decide))
                  refine L_fa (o' := 1) rfl fa_26_1 ((hS123 5 rfl).trans sf5) rfl ?_
                  exact L_nil ⟨rfl, (ext_refl _), _, _, rfl, rfl, rfl⟩
                refine opsR_cons (by first | decide | (rw [rRuleN_ts]; decide) | (rw [sliceN_ts, int_ts]; decide) | (rw [sliceN_ts, sliceN_ts, int_ts]; decide)) (fun f w_ hS123 hE123 hbr123 hP123 => ?_) ?_
                ·
                  have hx := fr1_trans hx hE123
                  have hr18_0 := hE123.ownT hr18_0 (by first | decide | (rw [rRuleN_ts]; decide) | (rw [sliceN_ts, int_ts]; decide) | (rw [sliceN_ts, sliceN_ts, int_ts]; decide)) (by first | decide | (rw [rRuleN_ts]; decide) | (rw [sliceN_ts, int_ts]; decide) | (rw [sliceN_ts, sliceN_ts, int_ts]; decide)) hrB
                  have hr18_1 := hE123.ownT hr18_1 (by first | decide | (rw [rRuleN_ts]; decide) | (rw [sliceN_ts, int_ts]; decide) | (rw [sliceN_ts, sliceN_ts, int_ts]; decide)) (by first | decide | (rw [rRuleN_ts]; decide) | (rw [sliceN_ts, int_ts]; decide) | (rw [sliceN_ts, sliceN_ts, int_ts]; decide)) hrB
                  have hb_g19 := hE123.blk hb_g19 (by first | decide | (rw [rRuleN_ts]; decide) | (rw [sliceN_ts, int_ts]; decide) | (rw [sliceN_ts, sliceN_ts, int_ts]; decide))
                  refine L_ld (v := r18_1) rfl Try.isAgg24 (hP123 0 63 rfl rfl) (hb_g19.cell (j := 1) rfl) ?_
                  exact L_nil ⟨rfl, (ext_refl _), _, _, rfl, rfl, rfl⟩
                refine opsR_cons (by first | decide | (rw [rRuleN_ts]; decide) | (rw [sliceN_ts, int_ts]; decide) | (rw [sliceN_ts, sliceN_ts, int_ts]; decide)) (fun f w_ hS123 hE123 hbr123 hP123 => ?_) ?_
                ·
                  have hx := fr1_trans hx hE123
                  refine L_mv (v := .int .i64 (x11.rules.length : Int)) rfl ((hS123 6 rfl).trans sf6) ?_
                  exact L_nil ⟨rfl, (ext_refl _), _, _, rfl, rfl, rfl⟩
                refine opsR_cons (by first | decide | (rw [rRuleN_ts]; decide) | (rw [sliceN_ts, int_ts]; decide) | (rw [sliceN_ts, sliceN_ts, int_ts]; decide)) (fun f w_ hS123 hE123 hbr123 hP123 => ?_) ?_
                ·
                  have hx := fr1_trans hx hE123
                  refine L_sub (m := (x11.rules.length : Int)) (n := 1) rfl (hP123 2 65 rfl rfl) rfl ?_
                  exact L_nil ⟨rfl, (ext_refl _), _, _, rfl, rfl, rfl⟩
                refine opsR_cons (by first | decide | (rw [rRuleN_ts]; decide) | (rw [sliceN_ts, int_ts]; decide) | (rw [sliceN_ts, sliceN_ts, int_ts]; decide)) (fun f w_ hS123 hE123 hbr123 hP123 => ?_) ?_
                ·
                  have hx := fr1_trans hx hE123
                  have hr18_1 := hE123.ownT hr18_1 (by first | decide | (rw [rRuleN_ts]; decide) | (rw [sliceN_ts, int_ts]; decide) | (rw [sliceN_ts, sliceN_ts, int_ts]; decide)) (by first | decide | (rw [rRuleN_ts]; decide) | (rw [sliceN_ts, int_ts]; decide) | (rw [sliceN_ts, sliceN_ts, int_ts]; decide)) hrB
                  refine L_ixT (r := (rRuleN LN 3 23)) rfl Try.underlying24 Try.sizeOf36 (hP123 1 64 rfl rfl) (Own.rel hr18_1) (hP123 3 66 rfl rfl) hx110 ?_
                  intro g130 o131 cs131 hr131 hatT131
                  have hat131 := hatT131.at
                  obtain ⟨u131_0, u131_1, u131_2, rfl, hu131_0, hu131_1, hu131_2⟩ := rRuleN_iff.1 hr131
                  exact L_nil ⟨rfl, (ext_refl _), _, _, rfl, rfl, ⟨_, _, _, rfl, (rel0 hr131), hatT131⟩⟩
                refine opsR_cons (by first | decide | (rw [rRuleN_ts]; decide) | (rw [sliceN_ts, int_ts]; decide) | (rw [sliceN_ts, sliceN_ts, int_ts]; decide)) (fun f w_ hS123 hE123 hbr123 hP123 => ?_) ?_
                ·
                  have hx := fr1_trans hx hE123
                  obtain ⟨g132, o132, cs132, hv132, hr132, hatT132⟩ := (hP123 4 67 rfl rfl)
                  have hat132 := hatT132.at
                  obtain ⟨u132_0, u132_1, u132_2, rfl, hu132_0, hu132_1, hu132_2⟩ := rRuleN_iff.1 hr132
                  refine L_fa (o' := o132 + 1) rfl fa_36_1 hv132 rfl ?_
                  exact L_nil ⟨rfl, (ext_refl _), _, _, rfl, rfl, ⟨_, _, _, rfl, (rel0 hr132), hatT132⟩⟩
                refine opsR_cons (by first | decide | (rw [rRuleN_ts]; decide) | (rw [sliceN_ts, int_ts]; decide) | (rw [sliceN_ts, sliceN_ts, int_ts]; decide)) (fun f w_ hS123 hE123 hbr123 hP123 => ?_) ?_
                ·
                  have hx := fr1_trans hx hE123
                  obtain ⟨g133, o133, cs133, hv133, hr133, hatT133⟩ := (hP123 5 68 rfl rfl)
                  have hat133 := hatT133.at
                  obtain ⟨u133_0, u133_1, u133_2, rfl, hu133_0, hu133_1, hu133_2⟩ := rRuleN_iff.1 hr133
                  refine L_ld (v := u133_0) rfl Try.isAgg23 hv133 (hat133.cell (j := 1) rfl) ?_
                  exact L_nil ⟨rfl, (ext_refl _), _, _, rfl, rfl, (rel0 hu133_0)⟩
                refine opsR_cons (by first | decide | (rw [rRuleN_ts]; decide) | (rw [sliceN_ts, int_ts]; decide) | (rw [sliceN_ts, sliceN_ts, int_ts]; decide)) (fun f w_ hS123 hE123 hbr123 hP123 => ?_) ?_
                ·
                  have hx := fr1_trans hx hE123
                  refine L_mv (v := .pointer (some ⟨g_r, 0, none⟩)) rfl ((hS123 0 rfl).trans sf0) ?_
                  exact L_nil ⟨rfl, (ext_refl _), _, _, rfl, rfl, rfl⟩
                refine opsR_cons (by first | decide | (rw [rRuleN_ts]; decide) | (rw [sliceN_ts, int_ts]; decide) | (rw [sliceN_ts, sliceN_ts, int_ts]; decide)) (fun f w_ hS123 hE123 hbr123 hP123 => ?_) ?_
                ·
                  have hx := fr1_trans hx hE123
                  refine L_bs rfl (parts4 rfl rfl rfl rfl) (bs_23_4_0_0_0_0 (.int .i64 (-1)) (.int .i64 5) (.int .i64 1) (.int .i64 0) rfl rfl rfl rfl) ?_
                  intro g134 w135 hn135
                  have ho135 : Own RP.int 3 w.heap.size B w135 _ [(-1), 5, 1, 0] := own_lit rfl hn135 rfl (by first | decide | (rw [rRuleN_ts]; decide) | (rw [sliceN_ts, int_ts]; decide) | (rw [sliceN_ts, sliceN_ts, int_ts]; decide)) hx.size (by intro i z hz; rcases i with _ | _ | _ | _ | i <;> simp at hz <;> subst hz <;> rfl)
                  have hx := fr1_ext hx hn135.ext hgl
                  exact L_nil ⟨rfl, hn135.ext, _, _, rfl, rfl, ho135⟩
                refine opsR_draw 0 rfl (by first | exact .inl rfl | exact .inr ⟨_, rfl, by decide⟩) (fun f w_ hS123 hE123 hbr123 hP123 => ?_) ?_
                ·
                  have hx := fr1_trans hx hE123
                  have hrb := hE123.rel hrb (by first | decide | (rw [rRuleN_ts]; decide) | (rw [sliceN_ts, int_ts]; decide) | (rw [sliceN_ts, sliceN_ts, int_ts]; decide)) hrB
                  have hb_g_r : Blk w_ g_r 86 #[v_r, .int .i64 x23.2] := hbr123
                  have hd136 := (hP123 8 71 rfl rfl)
                  refine L_call (args := #[.pointer (some ⟨g_r, 0, none⟩), (f 71)]) rfl Try.call49 (ops2 (hP123 7 70 rfl rfl) rfl) (s_l17Rd_num_c (r_ := ({ b := r_.b, p := x23.2 } : Rd)) (list := [(-1), 5, 1, 0]) (Nat.le_trans hB hx.size) hb_g_r (rel0 hrb) hrB (rel0 (Own.rel hd136)) hx116) ?_
                  rintro _ w137 ⟨⟨rfl, hbn137⟩, he137⟩
                  have hrb := he137.rel hrb (by first | decide | (rw [rRuleN_ts]; decide) | (rw [sliceN_ts, int_ts]; decide) | (rw [sliceN_ts, sliceN_ts, int_ts]; decide)) hrB
                  have hd136 := he137.ownT hd136 (by first | decide | (rw [rRuleN_ts]; decide) | (rw [sliceN_ts, int_ts]; decide) | (rw [sliceN_ts, sliceN_ts, int_ts]; decide)) (by first | decide | (rw [rRuleN_ts]; decide) | (rw [sliceN_ts, int_ts]; decide) | (rw [sliceN_ts, sliceN_ts, int_ts]; decide)) hrB
                  have hx := fr1_trans hx he137
                  have hb_g_r := hbn137
                  exact L_nil ⟨rfl, he137, hb_g_r, _, _, rfl, rfl, rfl⟩
                exact opsR_nil
              ·
                have hrb := hE123.rel hrb (by first | decide | (rw [rRuleN_ts]; decide) | (rw [sliceN_ts, int_ts]; decide) | (rw [sliceN_ts, sliceN_ts, int_ts]; decide)) hrB
                have hr18_0 := hE123.ownT hr18_0 (by first | decide | (rw [rRuleN_ts]; decide) | (rw [sliceN_ts, int_ts]; decide) | (rw [sliceN_ts, sliceN_ts, int_ts]; decide)) (by first | decide | (rw [rRuleN_ts]; decide) | (rw [sliceN_ts, int_ts]; decide) | (rw [sliceN_ts, sliceN_ts, int_ts]; decide)) hrB
                have hr18_1 := hE123.ownT hr18_1 (by first | decide | (rw [rRuleN_ts]; decide) | (rw [sliceN_ts, int_ts]; decide) | (rw [sliceN_ts, sliceN_ts, int_ts]; decide)) (by first | decide | (rw [rRuleN_ts]; decide) | (rw [sliceN_ts, int_ts]; decide) | (rw [sliceN_ts, sliceN_ts, int_ts]; decide)) hrB
                have hb_g19 := hE123.blk hb_g19 (by first | decide | (rw [rRuleN_ts]; decide) | (rw [sliceN_ts, int_ts]; decide) | (rw [sliceN_ts, sliceN_ts, int_ts]; decide))
                have hb_g8 := hE123.blk hb_g8 (by first | decide | (rw [rRuleN_ts]; decide) | (rw [sliceN_ts, int_ts]; decide) | (rw [sliceN_ts, sliceN_ts, int_ts]; decide))
                have hx := fr1_trans hx hE123
                have hb_g_r : Blk w_ g_r 86 #[v_r, .int .i64 x116.2] := hbr123
                have hd138 := (hT123 6 69 rfl rfl)
                refine L_ixN rfl Try.underlying23 Try.sizeOf3 rfl hd138 rfl hx118 ?_
                intro g139 o140 c140 hL140 hb140 hc140
                have hL140 := Nat.le_trans hLN1 hL140
                refine L_st (v := .int .i64 x116.1) rfl Try.sizeOf3 rfl (hT123 9 72 rfl rfl) rfl hb140 hc140 ?_
                intro w141 hp141
                have hsf141 : Soft w.heap.size 3 x116.1 w_ w141 := ⟨_, _, _, _, hL140, hb140, hc140, hp141⟩
                obtain ⟨ga141_0, ga141_1⟩ := assertM_some hq121
                obtain ⟨xo141_0, ho141_0, gb141_0⟩ := soft_own_ints hsf141 hr18_0 ga141_0
                obtain ⟨xo141_1, ho141_1, gb141_1⟩ := soft_own (by first | decide | (rw [rRuleN_ts]; decide) | (rw [sliceN_ts, int_ts]; decide) | (rw [sliceN_ts, sliceN_ts, int_ts]; decide)) (softR_rule (by first | decide | (rw [rRuleN_ts]; decide) | (rw [sliceN_ts, int_ts]; decide) | (rw [sliceN_ts, sliceN_ts, int_ts]; decide))) hsf141 hB (ownW hr18_1) ga141_1
                obtain ⟨x122, hr18_0, hr18_1, hgx141⟩ : ∃ o : (List Int) × (List Rule), (RP.slice 3 RP.int).rel B w141.heap.size w141 [r18_0] o.1 ∧ (RP.slice 36 (rRule 3 23)).rel B w141.heap.size w141 [r18_1] o.2 ∧ (sInts o.1 ∧ sRules o.2) := ⟨(xo141_0, xo141_1), Own.rel ho141_0, Own.rel ho141_1, gb141_0, gb141_1⟩
                have hF := hF x122 hgx141
                have hrb := hp141.mu.rel hrb (by first | decide | (rw [rRuleN_ts]; decide) | (rw [sliceN_ts, int_ts]; decide) | (rw [sliceN_ts, sliceN_ts, int_ts]; decide)) (Nat.le_trans hB hL140)
                have hb_g_r := hp141.mu.blk hb_g_r (by first | decide | (rw [rRuleN_ts]; decide) | (rw [sliceN_ts, int_ts]; decide) | (rw [sliceN_ts, sliceN_ts, int_ts]; decide))
                have hb_g19 := hp141.mu.blk hb_g19 (by first | decide | (rw [rRuleN_ts]; decide) | (rw [sliceN_ts, int_ts]; decide) | (rw [sliceN_ts, sliceN_ts, int_ts]; decide))
                have hb_g8 := hp141.mu.blk hb_g8 (by first | decide | (rw [rRuleN_ts]; decide) | (rw [sliceN_ts, int_ts]; decide) | (rw [sliceN_ts, sliceN_ts, int_ts]; decide))
                have hx := fr1_mut hx hp141.mu hL140 hgl
                refine L_nil ?_
                refine W_seq ?_
                refine W_region ?_
                refine L_lda (cs := [r18_0, r18_1]) rfl Try.isAgg26 Try.sizeOf26 ((hS123 5 rfl).trans sf5) (Blk.sub hb_g19 0 2) rfl ?_
                refine L_sta (vs := #[r18_0, r18_1]) rfl Try.sizeOf26 ((hS123 4 rfl).trans sf4) rfl rfl (ones_cons (one_of hr18_0) (ones_cons (one_of hr18_1) ones_nil)) hb_g8 rfl ?_
                intro w143 hp143
                have hrb := hp143.mu.rel hrb (by first | decide | (rw [rRuleN_ts]; decide) | (rw [sliceN_ts, int_ts]; decide) | (rw [sliceN_ts, sliceN_ts, int_ts]; decide)) (Nat.le_trans hB hge_g8)
                have hb_g_r := hp143.mu.blk hb_g_r (by first | decide | (rw [rRuleN_ts]; decide) | (rw [sliceN_ts, int_ts]; decide) | (rw [sliceN_ts, sliceN_ts, int_ts]; decide))
                have hr18_0 := hp143.mu.rel hr18_0 (by first | decide | (rw [rRuleN_ts]; decide) | (rw [sliceN_ts, int_ts]; decide) | (rw [sliceN_ts, sliceN_ts, int_ts]; decide)) (Nat.le_trans hB hge_g8)
                have hr18_1 := hp143.mu.rel hr18_1 (by first | decide | (rw [rRuleN_ts]; decide) | (rw [sliceN_ts, int_ts]; decide) | (rw [sliceN_ts, sliceN_ts, int_ts]; decide)) (Nat.le_trans hB hge_g8)
                have hx := fr1_mut hx hp143.mu hge_g8 hgl
                have hb_g8 : Blk w143 g8 26 #[r18_0, r18_1] := hp143.blk
                refine L_nil ?_
                refine W_ret ?_
                have hG := assertM_some hF
                refine retc Try.results47 Try.isAgg26 Try.sizeOf26 ((hS123 4 rfl).trans sf4) hb_g8 rfl ?_
                exact ⟨⟨(({ sizes := x122.1, rules := x122.2 } : Model), x116.2), hG, ⟨⟨r18_0, r18_1, rfl, (rel0 hr18_0), (rel0 hr18_1)⟩, hb_g_r⟩⟩, hx⟩
            ·
              have hF := (ite_f hc109).symm.trans hF
              refine W_skip ?_
              refine W_seq ?_
              refine W_region ?_
              refine L_lda (cs := [r18_0, r18_1]) rfl Try.isAgg26 Try.sizeOf26 sf5 (Blk.sub hb_g19 0 2) rfl ?_
              refine L_sta (vs := #[r18_0, r18_1]) rfl Try.sizeOf26 sf4 rfl rfl (ones_cons (one_of (Own.rel hr18_0)) (ones_cons (one_of (ownR hr18_1)) ones_nil)) hb_g8 rfl ?_
              intro w145 hp145
              have hrb := hp145.mu.rel hrb (by first | decide | (rw [rRuleN_ts]; decide) | (rw [sliceN_ts, int_ts]; decide) | (rw [sliceN_ts, sliceN_ts, int_ts]; decide)) (Nat.le_trans hB hge_g8)
              have hb_g_r := hp145.mu.blk hb_g_r (by first | decide | (rw [rRuleN_ts]; decide) | (rw [sliceN_ts, int_ts]; decide) | (rw [sliceN_ts, sliceN_ts, int_ts]; decide))
              have hr18_0 := hp145.mu.ownT hr18_0 (by first | decide | (rw [rRuleN_ts]; decide) | (rw [sliceN_ts, int_ts]; decide) | (rw [sliceN_ts, sliceN_ts, int_ts]; decide)) (by first | decide | (rw [rRuleN_ts]; decide) | (rw [sliceN_ts, int_ts]; decide) | (rw [sliceN_ts, sliceN_ts, int_ts]; decide)) (Nat.le_trans hB hge_g8)
              have hr18_1 := hp145.mu.ownT hr18_1 (by first | decide | (rw [rRuleN_ts]; decide) | (rw [sliceN_ts, int_ts]; decide) | (rw [sliceN_ts, sliceN_ts, int_ts]; decide)) (by first | decide | (rw [rRuleN_ts]; decide) | (rw [sliceN_ts, int_ts]; decide) | (rw [sliceN_ts, sliceN_ts, int_ts]; decide)) (Nat.le_trans hB hge_g8)
              have hx := fr1_mut hx hp145.mu hge_g8 hgl
              have hb_g8 : Blk w145 g8 26 #[r18_0, r18_1] := hp145.blk
              refine L_nil ?_
              refine W_ret ?_
              have hG := assertM_some hF
              refine retc Try.results47 Try.isAgg26 Try.sizeOf26 sf4 hb_g8 rfl ?_
              exact ⟨⟨(x11, x23.2), hG, ⟨⟨r18_0, r18_1, rfl, (rel0 (Own.rel hr18_0)), (rel0 (ownR hr18_1))⟩, hb_g_r⟩⟩, hx⟩
        ·
          have hF := (ite_f hc100).symm.trans hF
          refine W_seq ?_
          refine W_region ?_
          refine L_eql (m := x23.1) (n := 4) rfl rfl rfl ?_
          refine L_as (v := .bool (x23.1 == 4)) rfl rfl ?_
          refine L_nil ?_
          refine W_cond (b := (x23.1 == 4)) rfl (fun hc146 => ?_) (fun hc146 => ?_)
          ·
            have hF := (ite_t hc146).symm.trans hF
            refine W_seq ?_
            refine W_region ?_
            refine L_mv (v := .int .i64 (x11.rules.length : Int)) rfl rfl ?_
            refine L_gtr (m := (x11.rules.length : Int)) (n := 0) rfl rfl rfl ?_
            refine L_nil ?_
            refine W_cond (b := decide ((x11.rules.length : Int) > 0)) rfl (fun hc147 => ?_) (fun hc147 => ?_)
            ·
              have hF := (ite_t hc147).symm.trans hF
              obtain ⟨x151, hx151, hF⟩ := bind_some hF
              obtain ⟨x153, hx153, hF⟩ := bind_some hF
              refine W_drawR 5 [isV (.pointer (some ⟨g19, 1, none⟩)), isV (r18_1), isV (.pointer (some ⟨g_r, 0, none⟩)), isOwn B RP.int 3 w.heap.size ([1001, (-1001), 1000]), isV (.int .i64 x151.1)] g_r 86 (fun k => match k with | 0 => #[v_r, .int .i64 x23.2] | _ => #[v_r, .int .i64 x151.2]) [4] Try_mix (by kernel_rfl) (by first | decide | (rw [rRuleN_ts]; decide) | (rw [sliceN_ts, int_ts]; decide) | (rw [sliceN_ts, sliceN_ts, int_ts]; decide)) (by first | decide | (rw [rRuleN_ts]; decide) | (rw [sliceN_ts, int_ts]; decide) | (rw [sliceN_ts, sliceN_ts, int_ts]; decide)) (amR_cons (monoR_V _) (amR_cons (monoR_V _) (amR_cons (monoR_V _) (amR_cons (monoR_own (by first | decide | (rw [rRuleN_ts]; decide) | (rw [sliceN_ts, int_ts]; decide) | (rw [sliceN_ts, sliceN_ts, int_ts]; decide)) (by first | decide | (rw [rRuleN_ts]; decide) | (rw [sliceN_ts, int_ts]; decide) | (rw [sliceN_ts, sliceN_ts, int_ts]; decide)) hrB) (amR_cons (monoR_V _) amR_nil))))) hb_g_r ?_ (fun f w_ hS157 hE157 hbr157 hT157 => ?_)
              ·
                refine opsR_cons (by first | decide | (rw [rRuleN_ts]; decide) | (rw [sliceN_ts, int_ts]; decide) | (rw [sliceN_ts, sliceN_ts, int_ts]; decide)) (fun f w_ hS157 hE157 hbr157 hP157 => ?_) ?_
                ·
                  have hx := fr1_trans hx hE157
                  have hr18_0 := hE157.ownT hr18_0 (by first | decide | (rw [rRuleN_ts]; decide) | (rw [sliceN_ts, int_ts]; decide) | (rw [sliceN_ts, sliceN_ts, int_ts]; decide)) (by first | decide | (rw [rRuleN_ts]; decide) | (rw [sliceN_ts, int_ts]; decide) | (rw [sliceN_ts, sliceN_ts, int_ts]; decide)) hrB
                  have hr18_1 := hE157.ownT hr18_1 (by first | decide | (rw [rRuleN_ts]; decide) | (rw [sliceN_ts, int_ts]; decide) | (rw [sliceN_ts, sliceN_ts, int_ts]; decide)) (by first | decide | (rw [rRuleN_ts]; decide) | (rw [sliceN_ts, int_ts]; decide) | (rw [sliceN_ts, sliceN_ts, int_ts]; decide)) hrB
                  have hb_g19 := hE157.blk hb_g19 (by first | decide | (rw [rRuleN_ts]; decide) | (rw [sliceN_ts, int_ts]; decide) | (rw [sliceN_ts, sliceN_ts, int_ts]; decide))
                  refine L_fa (o' := 1) rfl fa_26_1 ((hS157 5 rfl).trans rfl) rfl ?_
                  exact L_nil ⟨rfl, (ext_refl _), _, _, rfl, rfl, rfl⟩
                refine opsR_cons (by first | decide | (rw [rRuleN_ts]; decide) | (rw [sliceN_ts, int_ts]; decide) | (rw [sliceN_ts, sliceN_ts, int_ts]; decide)) (fun f w_ hS157 hE157 hbr157 hP157 => ?_) ?_
                ·
                  have hx := fr1_trans hx hE157
                  have hr18_0 := hE157.ownT hr18_0 (by first | decide | (rw [rRuleN_ts]; decide) | (rw [sliceN_ts, int_ts]; decide) | (rw [sliceN_ts, sliceN_ts, int_ts]; decide)) (by first | decide | (rw [rRuleN_ts]; decide) | (rw [sliceN_ts, int_ts]; decide) | (rw [sliceN_ts, sliceN_ts, int_ts]; decide)) hrB
                  have hr18_1 := hE157.ownT hr18_1 (by first | decide | (rw [rRuleN_ts]; decide) | (rw [sliceN_ts, int_ts]; decide) | (rw [sliceN_ts, sliceN_ts, int_ts]; decide)) (by first | decide | (rw [rRuleN_ts]; decide) | (rw [sliceN_ts, int_ts]; decide) | (rw [sliceN_ts, sliceN_ts, int_ts]; decide)) hrB
                  have hb_g19 := hE157.blk hb_g19 (by first | decide | (rw [rRuleN_ts]; decide) | (rw [sliceN_ts, int_ts]; decide) | (rw [sliceN_ts, sliceN_ts, int_ts]; decide))
                  refine L_ld (v := r18_1) rfl Try.isAgg24 (hP157 0 78 rfl rfl) (hb_g19.cell (j := 1) rfl) ?_
                  exact L_nil ⟨rfl, (ext_refl _), _, _, rfl, rfl, rfl⟩
                refine opsR_cons (by first | decide | (rw [rRuleN_ts]; decide) | (rw [sliceN_ts, int_ts]; decide) | (rw [sliceN_ts, sliceN_ts, int_ts]; decide)) (fun f w_ hS157 hE157 hbr157 hP157 => ?_) ?_
                ·
                  have hx := fr1_trans hx hE157
                  refine L_mv (v := .pointer (some ⟨g_r, 0, none⟩)) rfl ((hS157 0 rfl).trans rfl) ?_
                  exact L_nil ⟨rfl, (ext_refl _), _, _, rfl, rfl, rfl⟩
                refine opsR_cons (by first | decide | (rw [rRuleN_ts]; decide) | (rw [sliceN_ts, int_ts]; decide) | (rw [sliceN_ts, sliceN_ts, int_ts]; decide)) (fun f w_ hS157 hE157 hbr157 hP157 => ?_) ?_
                ·
                  have hx := fr1_trans hx hE157
                  refine L_bs rfl (parts3 rfl rfl rfl) (bs_23_3_0_0_0 (.int .i64 1001) (.int .i64 (-1001)) (.int .i64 1000) rfl rfl rfl) ?_
                  intro g162 w163 hn163
                  have ho163 : Own RP.int 3 w.heap.size B w163 _ [1001, (-1001), 1000] := own_lit rfl hn163 rfl (by first | decide | (rw [rRuleN_ts]; decide) | (rw [sliceN_ts, int_ts]; decide) | (rw [sliceN_ts, sliceN_ts, int_ts]; decide)) hx.size (by intro i z hz; rcases i with _ | _ | _ | i <;> simp at hz <;> subst hz <;> rfl)
                  have hx := fr1_ext hx hn163.ext hgl
                  exact L_nil ⟨rfl, hn163.ext, _, _, rfl, rfl, ho163⟩
                refine opsR_draw 0 rfl (by first | exact .inl rfl | exact .inr ⟨_, rfl, by decide⟩) (fun f w_ hS157 hE157 hbr157 hP157 => ?_) ?_
                ·
                  have hx := fr1_trans hx hE157
                  have hrb := hE157.rel hrb (by first | decide | (rw [rRuleN_ts]; decide) | (rw [sliceN_ts, int_ts]; decide) | (rw [sliceN_ts, sliceN_ts, int_ts]; decide)) hrB
                  have hb_g_r : Blk w_ g_r 86 #[v_r, .int .i64 x23.2] := hbr157
                  have hd164 := (hP157 3 81 rfl rfl)
                  refine L_call (args := #[.pointer (some ⟨g_r, 0, none⟩), (f 81)]) rfl Try.call49 (ops2 (hP157 2 80 rfl rfl) rfl) (s_l17Rd_num_c (r_ := ({ b := r_.b, p := x23.2 } : Rd)) (list := [1001, (-1001), 1000]) (Nat.le_trans hB hx.size) hb_g_r (rel0 hrb) hrB (rel0 (Own.rel hd164)) hx151) ?_
                  rintro _ w165 ⟨⟨rfl, hbn165⟩, he165⟩
                  have hrb := he165.rel hrb (by first | decide | (rw [rRuleN_ts]; decide) | (rw [sliceN_ts, int_ts]; decide) | (rw [sliceN_ts, sliceN_ts, int_ts]; decide)) hrB
                  have hd164 := he165.ownT hd164 (by first | decide | (rw [rRuleN_ts]; decide) | (rw [sliceN_ts, int_ts]; decide) | (rw [sliceN_ts, sliceN_ts, int_ts]; decide)) (by first | decide | (rw [rRuleN_ts]; decide) | (rw [sliceN_ts, int_ts]; decide) | (rw [sliceN_ts, sliceN_ts, int_ts]; decide)) hrB
                  have hx := fr1_trans hx he165
                  have hb_g_r := hbn165
                  exact L_nil ⟨rfl, he165, hb_g_r, _, _, rfl, rfl, rfl⟩
                exact opsR_nil
              ·
                have hrb := hE157.rel hrb (by first | decide | (rw [rRuleN_ts]; decide) | (rw [sliceN_ts, int_ts]; decide) | (rw [sliceN_ts, sliceN_ts, int_ts]; decide)) hrB
                have hb_g8 := hE157.blk hb_g8 (by first | decide | (rw [rRuleN_ts]; decide) | (rw [sliceN_ts, int_ts]; decide) | (rw [sliceN_ts, sliceN_ts, int_ts]; decide))
                have hr18_0 := hE157.ownT hr18_0 (by first | decide | (rw [rRuleN_ts]; decide) | (rw [sliceN_ts, int_ts]; decide) | (rw [sliceN_ts, sliceN_ts, int_ts]; decide)) (by first | decide | (rw [rRuleN_ts]; decide) | (rw [sliceN_ts, int_ts]; decide) | (rw [sliceN_ts, sliceN_ts, int_ts]; decide)) hrB
                have hr18_1 := hE157.ownT hr18_1 (by first | decide | (rw [rRuleN_ts]; decide) | (rw [sliceN_ts, int_ts]; decide) | (rw [sliceN_ts, sliceN_ts, int_ts]; decide)) (by first | decide | (rw [rRuleN_ts]; decide) | (rw [sliceN_ts, int_ts]; decide) | (rw [sliceN_ts, sliceN_ts, int_ts]; decide)) hrB
                have hb_g19 := hE157.blk hb_g19 (by first | decide | (rw [rRuleN_ts]; decide) | (rw [sliceN_ts, int_ts]; decide) | (rw [sliceN_ts, sliceN_ts, int_ts]; decide))
                have hx := fr1_trans hx hE157
                have hb_g_r : Blk w_ g_r 86 #[v_r, .int .i64 x151.2] := hbr157
                refine L_ixo (r := (rRuleN LN 3 23)) rfl et_24 (hT157 1 79 rfl rfl) hr18_1 rfl hx153 ?_
                intro g166 c167 cs167 hg167 hl167 hc167 hr167 hj167
                refine L_fa (o' := Int.toNat 0 * 5 + 3) rfl fa_36_3 rfl rfl ?_
                obtain ⟨u167_0, u167_1, u167_2, rfl, hu167_0, hu167_1, hu167_2⟩ := rRuleN_iff.1 hr167
                refine L_st (v := .int .i64 x151.1) rfl Try.sizeOf3 rfl (hT157 4 82 rfl rfl) rfl hc167 (hj167 3 _ rfl) ?_
                intro w168 hp168
                have hr18_1_n : Own (rRuleN LN 3 23) 36 _ B w168 _ (x11.rules.set (Int.toNat 0) ({ kind := x153.kind, vars := x153.vars, coefs := x153.coefs, bound := x151.1, rows := x153.rows } : Rule)) := own_setF (j := 3) hr18_1 hg167 (by first | decide | (rw [rRuleN_ts]; decide) | (rw [sliceN_ts, int_ts]; decide) | (rw [sliceN_ts, sliceN_ts, int_ts]; decide)) (idx_some hx153).2.2 hc167 hp168 hj167 (by simp) (rRuleN_iff.2 ⟨_, _, _, rfl, (rel0 hu167_0), (rel0 hu167_1), (rel0 hu167_2)⟩) hB
                have hrb := hp168.mu.rel hrb (by first | decide | (rw [rRuleN_ts]; decide) | (rw [sliceN_ts, int_ts]; decide) | (rw [sliceN_ts, sliceN_ts, int_ts]; decide)) (Nat.le_trans hB hl167)
                have hb_g_r := hp168.mu.blk hb_g_r (by first | decide | (rw [rRuleN_ts]; decide) | (rw [sliceN_ts, int_ts]; decide) | (rw [sliceN_ts, sliceN_ts, int_ts]; decide))
                have hb_g8 := hp168.mu.blk hb_g8 (by first | decide | (rw [rRuleN_ts]; decide) | (rw [sliceN_ts, int_ts]; decide) | (rw [sliceN_ts, sliceN_ts, int_ts]; decide))
                have hr18_0 := hp168.mu.ownT hr18_0 (by first | decide | (rw [rRuleN_ts]; decide) | (rw [sliceN_ts, int_ts]; decide) | (rw [sliceN_ts, sliceN_ts, int_ts]; decide)) (by first | decide | (rw [rRuleN_ts]; decide) | (rw [sliceN_ts, int_ts]; decide) | (rw [sliceN_ts, sliceN_ts, int_ts]; decide)) (Nat.le_trans hB hl167)
                have hb_g19 := hp168.mu.blk hb_g19 (by first | decide | (rw [rRuleN_ts]; decide) | (rw [sliceN_ts, int_ts]; decide) | (rw [sliceN_ts, sliceN_ts, int_ts]; decide))
                have hx := fr1_mut hx hp168.mu hl167 hgl
                have hr18_1 := hr18_1_n
                refine L_nil ?_
                refine W_seq ?_
                refine W_region ?_
                refine L_lda (cs := [r18_0, r18_1]) rfl Try.isAgg26 Try.sizeOf26 ((hS157 5 rfl).trans rfl) (Blk.sub hb_g19 0 2) rfl ?_
                refine L_sta (vs := #[r18_0, r18_1]) rfl Try.sizeOf26 ((hS157 4 rfl).trans rfl) rfl rfl (ones_cons (one_of (Own.rel hr18_0)) (ones_cons (one_of (ownR hr18_1)) ones_nil)) hb_g8 rfl ?_
                intro w170 hp170
                have hrb := hp170.mu.rel hrb (by first | decide | (rw [rRuleN_ts]; decide) | (rw [sliceN_ts, int_ts]; decide) | (rw [sliceN_ts, sliceN_ts, int_ts]; decide)) (Nat.le_trans hB hge_g8)
                have hb_g_r := hp170.mu.blk hb_g_r (by first | decide | (rw [rRuleN_ts]; decide) | (rw [sliceN_ts, int_ts]; decide) | (rw [sliceN_ts, sliceN_ts, int_ts]; decide))
                have hr18_0 := hp170.mu.ownT hr18_0 (by first | decide | (rw [rRuleN_ts]; decide) | (rw [sliceN_ts, int_ts]; decide) | (rw [sliceN_ts, sliceN_ts, int_ts]; decide)) (by first | decide | (rw [rRuleN_ts]; decide) | (rw [sliceN_ts, int_ts]; decide) | (rw [sliceN_ts, sliceN_ts, int_ts]; decide)) (Nat.le_trans hB hge_g8)
                have hr18_1 := hp170.mu.ownT hr18_1 (by first | decide | (rw [rRuleN_ts]; decide) | (rw [sliceN_ts, int_ts]; decide) | (rw [sliceN_ts, sliceN_ts, int_ts]; decide)) (by first | decide | (rw [rRuleN_ts]; decide) | (rw [sliceN_ts, int_ts]; decide) | (rw [sliceN_ts, sliceN_ts, int_ts]; decide)) (Nat.le_trans hB hge_g8)
                have hx := fr1_mut hx hp170.mu hge_g8 hgl
                have hb_g8 : Blk w170 g8 26 #[r18_0, r18_1] := hp170.blk
                refine L_nil ?_
                refine W_ret ?_
                have hG := assertM_some hF
                refine retc Try.results47 Try.isAgg26 Try.sizeOf26 ((hS157 4 rfl).trans rfl) hb_g8 rfl ?_
                exact ⟨⟨(({ sizes := x11.sizes, rules := (x11.rules.set (Int.toNat 0) ({ kind := x153.kind, vars := x153.vars, coefs := x153.coefs, bound := x151.1, rows := x153.rows } : Rule)) } : Model), x151.2), hG, ⟨⟨r18_0, r18_1, rfl, (rel0 (Own.rel hr18_0)), (rel0 (ownR hr18_1))⟩, hb_g_r⟩⟩, hx⟩
            ·
              have hF := (ite_f hc147).symm.trans hF
              refine W_skip ?_
              refine W_seq ?_
              refine W_region ?_
              refine L_lda (cs := [r18_0, r18_1]) rfl Try.isAgg26 Try.sizeOf26 rfl (Blk.sub hb_g19 0 2) rfl ?_
              refine L_sta (vs := #[r18_0, r18_1]) rfl Try.sizeOf26 rfl rfl rfl (ones_cons (one_of (Own.rel hr18_0)) (ones_cons (one_of (ownR hr18_1)) ones_nil)) hb_g8 rfl ?_
              intro w172 hp172
              have hrb := hp172.mu.rel hrb (by first | decide | (rw [rRuleN_ts]; decide) | (rw [sliceN_ts, int_ts]; decide) | (rw [sliceN_ts, sliceN_ts, int_ts]; decide)) (Nat.le_trans hB hge_g8)
              have hb_g_r := hp172.mu.blk hb_g_r (by first | decide | (rw [rRuleN_ts]; decide) | (rw [sliceN_ts, int_ts]; decide) | (rw [sliceN_ts, sliceN_ts, int_ts]; decide))
              have hr18_0 := hp172.mu.ownT hr18_0 (by first | decide | (rw [rRuleN_ts]; decide) | (rw [sliceN_ts, int_ts]; decide) | (rw [sliceN_ts, sliceN_ts, int_ts]; decide)) (by first | decide | (rw [rRuleN_ts]; decide) | (rw [sliceN_ts, int_ts]; decide) | (rw [sliceN_ts, sliceN_ts, int_ts]; decide)) (Nat.le_trans hB hge_g8)
              have hr18_1 := hp172.mu.ownT hr18_1 (by first | decide | (rw [rRuleN_ts]; decide) | (rw [sliceN_ts, int_ts]; decide) | (rw [sliceN_ts, sliceN_ts, int_ts]; decide)) (by first | decide | (rw [rRuleN_ts]; decide) | (rw [sliceN_ts, int_ts]; decide) | (rw [sliceN_ts, sliceN_ts, int_ts]; decide)) (Nat.le_trans hB hge_g8)
              have hx := fr1_mut hx hp172.mu hge_g8 hgl
              have hb_g8 : Blk w172 g8 26 #[r18_0, r18_1] := hp172.blk
              refine L_nil ?_
              refine W_ret ?_
              have hG := assertM_some hF
              refine retc Try.results47 Try.isAgg26 Try.sizeOf26 rfl hb_g8 rfl ?_
              exact ⟨⟨(x11, x23.2), hG, ⟨⟨r18_0, r18_1, rfl, (rel0 (Own.rel hr18_0)), (rel0 (ownR hr18_1))⟩, hb_g_r⟩⟩, hx⟩
          ·
            have hF := (ite_f hc146).symm.trans hF
            refine W_seq ?_
            refine W_region ?_
            refine L_eql (m := x23.1) (n := 5) rfl rfl rfl ?_
            refine L_as (v := .bool (x23.1 == 5)) rfl rfl ?_
            refine L_nil ?_
            refine W_cond (b := (x23.1 == 5)) rfl (fun hc173 => ?_) (fun hc173 => ?_)
            ·
              have hF := (ite_t hc173).symm.trans hF
              refine W_seq ?_
              refine W_region ?_
              refine L_bld rfl (parts0 ) (bld_26_  ) ?_
              refine L_sta (vs := #[(.slice none 0 0), (.slice none 0 0)]) rfl Try.sizeOf26 rfl rfl rfl (ones_cons rfl (ones_cons rfl ones_nil)) hb_g8 rfl ?_
              intro w175 hp175
              have hrb := hp175.mu.rel hrb (by first | decide | (rw [rRuleN_ts]; decide) | (rw [sliceN_ts, int_ts]; decide) | (rw [sliceN_ts, sliceN_ts, int_ts]; decide)) (Nat.le_trans hB hge_g8)
              have hb_g_r := hp175.mu.blk hb_g_r (by first | decide | (rw [rRuleN_ts]; decide) | (rw [sliceN_ts, int_ts]; decide) | (rw [sliceN_ts, sliceN_ts, int_ts]; decide))
              have hx := fr1_mut hx hp175.mu hge_g8 hgl
              have hb_g8 : Blk w175 g8 26 #[(.slice none 0 0), (.slice none 0 0)] := hp175.blk
              refine L_nil ?_
              refine W_ret ?_
              have hG := assertM_some hF
              refine retc Try.results47 Try.isAgg26 Try.sizeOf26 rfl hb_g8 rfl ?_
              exact ⟨⟨(({ sizes := [], rules := [] } : Model), x23.2), hG, ⟨⟨(.slice none 0 0), (.slice none 0 0), rfl, (rel_nil _ _ _ _ _), (rel_nil _ _ _ _ _)⟩, hb_g_r⟩⟩, hx⟩
            ·
              have hF := (ite_f hc173).symm.trans hF
              refine W_skip ?_
              refine W_seq ?_
              refine W_region ?_
              refine L_lda (cs := [r18_0, r18_1]) rfl Try.isAgg26 Try.sizeOf26 rfl (Blk.sub hb_g19 0 2) rfl ?_
              refine L_sta (vs := #[r18_0, r18_1]) rfl Try.sizeOf26 rfl rfl rfl (ones_cons (one_of (Own.rel hr18_0)) (ones_cons (one_of (ownR hr18_1)) ones_nil)) hb_g8 rfl ?_
              intro w177 hp177
              have hrb := hp177.mu.rel hrb (by first | decide | (rw [rRuleN_ts]; decide) | (rw [sliceN_ts, int_ts]; decide) | (rw [sliceN_ts, sliceN_ts, int_ts]; decide)) (Nat.le_trans hB hge_g8)
              have hb_g_r := hp177.mu.blk hb_g_r (by first | decide | (rw [rRuleN_ts]; decide) | (rw [sliceN_ts, int_ts]; decide) | (rw [sliceN_ts, sliceN_ts, int_ts]; decide))
              have hr18_0 := hp177.mu.ownT hr18_0 (by first | decide | (rw [rRuleN_ts]; decide) | (rw [sliceN_ts, int_ts]; decide) | (rw [sliceN_ts, sliceN_ts, int_ts]; decide)) (by first | decide | (rw [rRuleN_ts]; decide) | (rw [sliceN_ts, int_ts]; decide) | (rw [sliceN_ts, sliceN_ts, int_ts]; decide)) (Nat.le_trans hB hge_g8)
              have hr18_1 := hp177.mu.ownT hr18_1 (by first | decide | (rw [rRuleN_ts]; decide) | (rw [sliceN_ts, int_ts]; decide) | (rw [sliceN_ts, sliceN_ts, int_ts]; decide)) (by first | decide | (rw [rRuleN_ts]; decide) | (rw [sliceN_ts, int_ts]; decide) | (rw [sliceN_ts, sliceN_ts, int_ts]; decide)) (Nat.le_trans hB hge_g8)
              have hx := fr1_mut hx hp177.mu hge_g8 hgl
              have hb_g8 : Blk w177 g8 26 #[r18_0, r18_1] := hp177.blk
              refine L_nil ?_
              refine W_ret ?_
              have hG := assertM_some hF
              refine retc Try.results47 Try.isAgg26 Try.sizeOf26 rfl hb_g8 rfl ?_
              exact ⟨⟨(x11, x23.2), hG, ⟨⟨r18_0, r18_1, rfl, (rel0 (Own.rel hr18_0)), (rel0 (ownR hr18_1))⟩, hb_g_r⟩⟩, hx⟩

end Go.Proofs.Ytcjjfneofcpmfaa

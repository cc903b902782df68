/- Part of a proof by program: W1. -/
import Derived.Test.YteojddfaiomfmaaD1
import Derived.Test.YteojddfaiomfmaaProg
namespace Go.Proofs.Yteojddfaiomfmaa
open Go Go.E Go.L Go.RowKit
set_option linter.unusedVariables false
set_option linter.unusedSimpArgs false
set_option maxRecDepth 100000

theorem Try_mix : Try.prog.follows .mixedOrders = true := by kernel_rfl
theorem fa_25_0 : FA Try.prog 25 0 0 := fa_of Try.underlying25 rfl Try.sizeOf22 rfl
theorem fa_25_1 : FA Try.prog 25 1 1 := fa_of Try.underlying25 rfl Try.sizeOf23 rfl
theorem fa_30_0 : FA Try.prog 30 0 0 := fa_of Try.underlying30 rfl Try.sizeOf22 rfl
theorem fa_30_1 : FA Try.prog 30 1 1 := fa_of Try.underlying30 rfl Try.sizeOf28 rfl
theorem fa_68_0 : FA Try.prog 68 0 0 := fa_of Try.underlying68 rfl Try.sizeOf3 rfl
theorem fa_68_1 : FA Try.prog 68 1 1 := fa_of Try.underlying68 rfl Try.sizeOf22 rfl
theorem fa_68_2 : FA Try.prog 68 2 2 := fa_of Try.underlying68 rfl Try.sizeOf22 rfl
theorem fa_68_3 : FA Try.prog 68 3 3 := fa_of Try.underlying68 rfl Try.sizeOf3 rfl
theorem fa_68_4 : FA Try.prog 68 4 4 := fa_of Try.underlying68 rfl Try.sizeOf66 rfl
theorem fa_76_0 : FA Try.prog 76 0 0 := fa_of Try.underlying76 rfl Try.sizeOf3 rfl
theorem fa_76_1 : FA Try.prog 76 1 1 := fa_of Try.underlying76 rfl Try.sizeOf22 rfl
theorem fa_76_2 : FA Try.prog 76 2 2 := fa_of Try.underlying76 rfl Try.sizeOf22 rfl
theorem fa_76_3 : FA Try.prog 76 3 3 := fa_of Try.underlying76 rfl Try.sizeOf3 rfl
theorem fa_76_4 : FA Try.prog 76 4 4 := fa_of Try.underlying76 rfl Try.sizeOf66 rfl
theorem et_22 : ET Try.prog 22 3 1 := et_of Try.underlying22 (by decide) (by kernel_rfl)
theorem et_23 : ET Try.prog 23 76 5 := et_of Try.underlying23 (by decide) (by kernel_rfl)
theorem et_28 : ET Try.prog 28 68 5 := et_of Try.underlying28 (by decide) (by kernel_rfl)
theorem et_36 : ET Try.prog 36 46 1 := et_of Try.underlying36 (by decide) (by kernel_rfl)
theorem et_46 : ET Try.prog 46 4 1 := et_of Try.underlying46 (by decide) (by kernel_rfl)
theorem et_66 : ET Try.prog 66 22 1 := et_of Try.underlying66 (by decide) (by kernel_rfl)
theorem bs_22_0  : ∀ w, (Instr.buildSlice 22 0 #[]).run Try.prog w = .ok (.slice (some ⟨w.heap.size, 0, none⟩) 0 0) (w.alloc (.cells #[] 3)) := by
  intro w
  simp [Instr.buildSlice, Instr.fill, newRow, Try.runUnderlying22, Try.sizeOf3, cells_agg, cells_int, cells_bool, cells_str, cells_sl, Array.range_succ, range0]
theorem bs_22_1_0 (a0 : Value) (ha0 : a0.oneCell' = true) : ∀ w, (Instr.buildSlice 22 1 #[(0, a0)]).run Try.prog w = .ok (.slice (some ⟨w.heap.size, 0, none⟩) 1 1) (w.alloc (.cells #[a0] 3)) := by
  intro w
  simp [Instr.buildSlice, Instr.fill, newRow, Try.zeroValue3, Try.runUnderlying22, Try.sizeOf3, cells_one ha0, cells_agg, cells_int, cells_bool, cells_str, cells_sl, Array.range_succ, range0]
theorem bs_46_0  : ∀ w, (Instr.buildSlice 46 0 #[]).run Try.prog w = .ok (.slice (some ⟨w.heap.size, 0, none⟩) 0 0) (w.alloc (.cells #[] 4)) := by
  intro w
  simp [Instr.buildSlice, Instr.fill, newRow, Try.runUnderlying46, Try.sizeOf4, cells_agg, cells_int, cells_bool, cells_str, cells_sl, Array.range_succ, range0]
theorem l_szIntS_c {a : List Int} {left : Int} {v0 : Value} {w : World} {B : Nat} (hB : B ≤ w.heap.size) (h0 : (RP.slice 3 RP.int).rel B w.heap.size w [v0] a) {r : Int} (hF : l_szIntS a left = some r) :
    C Try.prog 42 #[v0, .int .i64 left] w fun v w' => (v = .int .i64 r) ∧ Ext w w' := by
  unfold l_szIntS at hF
  have hx := ext_refl w
  refine C_enter Try.func42 rfl Try.ntmps42 rfl ?_
  refine W_seq ?_
  refine W_region ?_
  refine L_as (v := .int .i64 0) rfl rfl ?_
  refine L_nil ?_
  refine W_seq ?_
  refine W_region ?_
  refine L_mv (v := .int .i64 left) rfl rfl ?_
  refine L_mv (v := v0) rfl rfl ?_
  refine L_len (v := v0) rfl Try.underlying22 rfl h0 ?_
  refine L_sub (m := left) (n := (a.length : Int)) rfl rfl rfl ?_
  refine L_as (v := .int .i64 (i64 (left - (a.length : Int)))) rfl rfl ?_
  refine L_nil ?_
  refine W_seq ?_
  refine W_seq ?_
  refine W_region ?_
  refine L_mv (v := .int .i64 (i64 (left - (a.length : Int)))) rfl rfl ?_
  refine L_lss (m := i64 (left - (a.length : Int))) (n := 0) rfl rfl rfl ?_
  refine L_nil ?_
  refine W_cond (b := decide ((i64 (left - (a.length : Int))) < 0)) rfl (fun hc1 => ?_) (fun hc1 => ?_)
  ·
    have hF := (ite_t hc1).symm.trans hF
    refine W_seq ?_
    refine W_region ?_
    refine L_as (v := .int .i64 (-1)) rfl rfl ?_
    refine L_nil ?_
    refine W_ret ?_
    obtain rfl := so hF
    refine ret1 Try.results42 ?_
    exact ⟨rfl, hx⟩
  ·
    have hF := (ite_f hc1).symm.trans hF
    refine W_skip ?_
    refine W_seq ?_
    refine W_region ?_
    refine L_mv (v := .int .i64 (i64 (left - (a.length : Int)))) rfl rfl ?_
    refine L_as (v := .int .i64 (i64 (left - (a.length : Int)))) rfl rfl ?_
    refine L_nil ?_
    refine W_ret ?_
    obtain rfl := so hF
    refine ret1 Try.results42 ?_
    exact ⟨rfl, hx⟩

theorem l_szIntSS_c {fu : Nat} {a : List (List Int)} {left : Int} {v0 : Value} {w : World} {B : Nat} (hB : B ≤ w.heap.size) (h0 : (RP.slice 22 (RP.slice 3 RP.int)).rel B w.heap.size w [v0] a) {r : Int} (hF : l_szIntSS fu a left = some r) :
    C Try.prog 78 #[v0, .int .i64 left] w fun v w' => (v = .int .i64 r) ∧ Ext w w' := by
  unfold l_szIntSS at hF
  have hx := ext_refl w
  refine C_enter Try.func78 rfl Try.ntmps78 rfl ?_
  refine W_seq ?_
  refine W_region ?_
  refine L_as (v := .int .i64 0) rfl rfl ?_
  refine L_nil ?_
  refine W_seq ?_
  refine W_region ?_
  refine L_mv (v := .int .i64 left) rfl rfl ?_
  refine L_mv (v := v0) rfl rfl ?_
  refine L_len (v := v0) rfl Try.underlying66 rfl h0 ?_
  refine L_sub (m := left) (n := (a.length : Int)) rfl rfl rfl ?_
  refine L_as (v := .int .i64 (i64 (left - (a.length : Int)))) rfl rfl ?_
  refine L_nil ?_
  refine W_seq ?_
  refine W_seq ?_
  refine W_region ?_
  refine L_mv (v := .int .i64 (i64 (left - (a.length : Int)))) rfl rfl ?_
  refine L_lss (m := i64 (left - (a.length : Int))) (n := 0) rfl rfl rfl ?_
  refine L_nil ?_
  refine W_cond (b := decide ((i64 (left - (a.length : Int))) < 0)) rfl (fun hc1 => ?_) (fun hc1 => ?_)
  ·
    have hF := (ite_t hc1).symm.trans hF
    refine W_seq ?_
    refine W_region ?_
    refine L_as (v := .int .i64 (-1)) rfl rfl ?_
    refine L_nil ?_
    refine W_ret ?_
    obtain rfl := so hF
    refine ret1 Try.results78 ?_
    exact ⟨rfl, hx⟩
  ·
    have hF := (ite_f hc1).symm.trans hF
    refine W_skip ?_
    refine W_seq ?_
    refine W_seq ?_
    refine W_region ?_
    refine L_as (v := .int .i64 0) rfl rfl ?_
    refine L_nil ?_
    obtain ⟨j5, hL5, hF⟩ := bind_some hF
    obtain ⟨R5, hR5⟩ : ∃ R : Fr → World → Prop, R = fun f w_ => ∃ left_3 : Int, ∃ i_4 : Int, j5 = .nx (left_3, i_4) ∧ f 1 = .int .i64 left_3 ∧ Ext w w_ := ⟨_, rfl⟩
    refine W_join R5 ?_ ?_
    ·
      refine W_block ?_
      obtain ⟨I5, hI5⟩ : ∃ I : Nat → Fr → World → Prop, I = fun n f w_ => ∃ left_3 : Int, ∃ i_4 : Int, whileL (l_szIntSS_b1 a) n (left_3, i_4) = some j5 ∧ f 0 = v0 ∧ f 1 = .int .i64 left_3 ∧ f 5 = .int .i64 i_4 ∧ (RP.slice 22 (RP.slice 3 RP.int)).rel B w.heap.size w_ [v0] a ∧ Ext w w_ := ⟨_, rfl⟩
      refine W_loop I5 (n := fu) ?_ ?_
      · rw [hI5]; exact ⟨i64 (left - (a.length : Int)), 0, hL5, rfl, rfl, rfl, h0, hx⟩
      ·
        intro n5 f w_ hI
        rw [hI5] at hI
        obtain ⟨left_3, i_4, hL5, sf0, sf1, sf5, h0, hx⟩ := hI
        cases n5 with
        | zero => exact (while_zero hL5).elim
        | succ n5 =>
          obtain ⟨o5, hB5, hL5⟩ := while_succ hL5
          rw [l_szIntSS_b1] at hB5
          refine W_seq ?_
          refine W_seq ?_
          refine W_region ?_
          refine L_mv (v := .int .i64 i_4) rfl sf5 ?_
          refine L_mv (v := v0) rfl sf0 ?_
          refine L_len (v := v0) rfl Try.underlying66 rfl h0 ?_
          refine L_lss (m := i_4) (n := (a.length : Int)) rfl rfl rfl ?_
          refine L_nil ?_
          refine W_cond (b := decide (i_4 < (a.length : Int))) rfl (fun hc6 => ?_) (fun hc6 => ?_)
          ·
            have hB5 := (ite_t hc6).symm.trans hB5
            refine W_skip ?_
            refine W_seq ?_
            refine W_block ?_
            refine W_seq ?_
            obtain ⟨x7, hx7, hB5⟩ := bind_some hB5
            obtain ⟨x10, hx10, hB5⟩ := bind_some hB5
            refine W_region ?_
            refine L_mv (v := v0) rfl sf0 ?_
            refine L_mv (v := .int .i64 i_4) rfl sf5 ?_
            refine L_ix (r := (RP.slice 3 RP.int)) rfl Try.underlying66 Try.sizeOf22 rfl h0 rfl hx7 ?_
            intro g12 o13 cs13 hr13 hat13
            obtain ⟨u13, rfl, hu13⟩ := slice1 hr13
            refine L_ld (v := u13) rfl Try.isAgg22 rfl (hat13.cell (j := 0) rfl) ?_
            refine L_mv (v := .int .i64 left_3) rfl sf1 ?_
            refine L_call (args := #[u13, .int .i64 left_3]) rfl Try.call42 (ops2 rfl rfl) (l_szIntS_c (a := x7) (left := left_3) (Nat.le_trans hB hx.size) (rel0 hu13) hx10) ?_
            rintro _ w14 ⟨rfl, he14⟩
            have h0 := RP.ext h0 he14
            have hu13 := RP.ext hu13 he14
            have hx := ext_trans hx he14
            refine L_as (v := .int .i64 x10) rfl rfl ?_
            refine L_nil ?_
            refine W_seq ?_
            refine W_region ?_
            refine L_mv (v := .int .i64 x10) rfl rfl ?_
            refine L_lss (m := x10) (n := 0) rfl rfl rfl ?_
            refine L_nil ?_
            refine W_cond (b := decide (x10 < 0)) rfl (fun hc15 => ?_) (fun hc15 => ?_)
            ·
              have hB5 := (ite_t hc15).symm.trans hB5
              refine W_seq ?_
              refine W_region ?_
              refine L_as (v := .int .i64 (-1)) rfl rfl ?_
              refine L_nil ?_
              refine W_ret ?_
              obtain rfl := so hB5
              obtain rfl := so hL5
              obtain rfl := so hF
              refine ret1 Try.results78 ?_
              exact ⟨rfl, hx⟩
            ·
              have hB5 := (ite_f hc15).symm.trans hB5
              refine W_skip ?_
              refine W_region ?_
              refine L_mv (v := .int .i64 i_4) rfl sf5 ?_
              refine L_add (m := i_4) (n := 1) rfl rfl rfl ?_
              refine L_as (v := .int .i64 (i64 (i_4 + 1))) rfl rfl ?_
              refine L_nil ?_
              obtain rfl := so hB5
              show ∃ m, m < _ ∧ I5 m _ _
              refine ⟨n5, Nat.lt_succ_self _, ?_⟩
              rw [hI5]
              exact ⟨x10, i64 (i_4 + 1), hL5, sf0, rfl, rfl, h0, hx⟩
          ·
            have hB5 := (ite_f hc6).symm.trans hB5
            refine W_exit ?_
            obtain rfl := so hB5
            obtain rfl := so hL5
            show R5 _ _
            rw [hR5]
            exact ⟨left_3, i_4, rfl, sf1, hx⟩
    ·
      intro f w_ hR
      rw [hR5] at hR
      obtain ⟨left_3, i_4, rfl, sf1, hx⟩ := hR
      clear hR5
      refine W_seq ?_
      refine W_region ?_
      refine L_mv (v := .int .i64 left_3) rfl sf1 ?_
      refine L_as (v := .int .i64 left_3) rfl rfl ?_
      refine L_nil ?_
      refine W_ret ?_
      obtain rfl := so hF
      refine ret1 Try.results78 ?_
      exact ⟨rfl, hx⟩

theorem l_szRule_c {fu : Nat} {a : Rule} {left : Int} {v0_1 : Value} {v0_2 : Value} {v0_4 : Value} {w : World} {B : Nat} (hB : B ≤ w.heap.size) (h0_1 : (RP.slice 3 RP.int).rel B w.heap.size w [v0_1] a.vars) (h0_2 : (RP.slice 3 RP.int).rel B w.heap.size w [v0_2] a.coefs) (h0_4 : (RP.slice 22 (RP.slice 3 RP.int)).rel B w.heap.size w [v0_4] a.rows) {r : Int} (hF : l_szRule fu a left = some r) :
    C Try.prog 65 #[.agg #[.int .i64 a.kind, v0_1, v0_2, .int .i64 a.bound, v0_4], .int .i64 left] w fun v w' => (v = .int .i64 r) ∧ Ext w w' := by
  unfold l_szRule at hF
  have hx := ext_refl w
  refine C_enter Try.func65 rfl Try.ntmps65 rfl ?_
  refine W_seq ?_
  refine W_region ?_
  refine L_box (v := .agg #[.int .i64 a.kind, v0_1, v0_2, .int .i64 a.bound, v0_4]) (cs := #[.int .i64 a.kind, v0_1, v0_2, .int .i64 a.bound, v0_4]) rfl rfl rfl ?_
  intro g3 w4 hn4
  have hge_g3 := hn4.ge hx
  have hb_g3 := hn4.blk
  have h0_1 := RP.ext h0_1 hn4.ext
  have h0_2 := RP.ext h0_2 hn4.ext
  have h0_4 := RP.ext h0_4 hn4.ext
  have hx := ext_trans hx hn4.ext
  refine L_as (v := .int .i64 0) rfl rfl ?_
  refine L_nil ?_
  refine W_seq ?_
  obtain ⟨x5, hx5, hF⟩ := bind_some hF
  refine W_region ?_
  refine L_fa (o' := 1) rfl fa_76_1 rfl rfl ?_
  refine L_ld (v := v0_1) rfl Try.isAgg22 rfl (hb_g3.cell (j := 1) rfl) ?_
  refine L_mv (v := .int .i64 left) rfl rfl ?_
  refine L_call (args := #[v0_1, .int .i64 left]) rfl Try.call42 (ops2 rfl rfl) (l_szIntS_c (a := a.vars) (left := left) (Nat.le_trans hB hx.size) (rel0 h0_1) hx5) ?_
  rintro _ w7 ⟨rfl, he7⟩
  have h0_1 := RP.ext h0_1 he7
  have h0_2 := RP.ext h0_2 he7
  have h0_4 := RP.ext h0_4 he7
  have hb_g3 := Blk.ext hb_g3 he7
  have hx := ext_trans hx he7
  refine L_as (v := .int .i64 x5) rfl rfl ?_
  refine L_nil ?_
  refine W_seq ?_
  refine W_seq ?_
  refine W_region ?_
  refine L_mv (v := .int .i64 x5) rfl rfl ?_
  refine L_lss (m := x5) (n := 0) rfl rfl rfl ?_
  refine L_nil ?_
  refine W_cond (b := decide (x5 < 0)) rfl (fun hc8 => ?_) (fun hc8 => ?_)
  ·
    have hF := (ite_t hc8).symm.trans hF
    refine W_seq ?_
    refine W_region ?_
    refine L_as (v := .int .i64 (-1)) rfl rfl ?_
    refine L_nil ?_
    refine W_ret ?_
    obtain rfl := so hF
    refine ret1 Try.results65 ?_
    exact ⟨rfl, hx⟩
  ·
    have hF := (ite_f hc8).symm.trans hF
    refine W_skip ?_
    refine W_seq ?_
    obtain ⟨x9, hx9, hF⟩ := bind_some hF
    refine W_region ?_
    refine L_fa (o' := 2) rfl fa_76_2 rfl rfl ?_
    refine L_ld (v := v0_2) rfl Try.isAgg22 rfl (hb_g3.cell (j := 2) rfl) ?_
    refine L_mv (v := .int .i64 x5) rfl rfl ?_
    refine L_call (args := #[v0_2, .int .i64 x5]) rfl Try.call42 (ops2 rfl rfl) (l_szIntS_c (a := a.coefs) (left := x5) (Nat.le_trans hB hx.size) (rel0 h0_2) hx9) ?_
    rintro _ w11 ⟨rfl, he11⟩
    have h0_1 := RP.ext h0_1 he11
    have h0_2 := RP.ext h0_2 he11
    have h0_4 := RP.ext h0_4 he11
    have hb_g3 := Blk.ext hb_g3 he11
    have hx := ext_trans hx he11
    refine L_as (v := .int .i64 x9) rfl rfl ?_
    refine L_nil ?_
    refine W_seq ?_
    refine W_seq ?_
    refine W_region ?_
    refine L_mv (v := .int .i64 x9) rfl rfl ?_
    refine L_lss (m := x9) (n := 0) rfl rfl rfl ?_
    refine L_nil ?_
    refine W_cond (b := decide (x9 < 0)) rfl (fun hc12 => ?_) (fun hc12 => ?_)
    ·
      have hF := (ite_t hc12).symm.trans hF
      refine W_seq ?_
      refine W_region ?_
      refine L_as (v := .int .i64 (-1)) rfl rfl ?_
      refine L_nil ?_
      refine W_ret ?_
      obtain rfl := so hF
      refine ret1 Try.results65 ?_
      exact ⟨rfl, hx⟩
    ·
      have hF := (ite_f hc12).symm.trans hF
      refine W_skip ?_
      refine W_seq ?_
      obtain ⟨x13, hx13, hF⟩ := bind_some hF
      refine W_region ?_
      refine L_fa (o' := 4) rfl fa_76_4 rfl rfl ?_
      refine L_ld (v := v0_4) rfl Try.isAgg66 rfl (hb_g3.cell (j := 4) rfl) ?_
      refine L_mv (v := .int .i64 x9) rfl rfl ?_
      refine L_call (args := #[v0_4, .int .i64 x9]) rfl Try.call78 (ops2 rfl rfl) (l_szIntSS_c (a := a.rows) (left := x9) (Nat.le_trans hB hx.size) (rel0 h0_4) hx13) ?_
      rintro _ w15 ⟨rfl, he15⟩
      have h0_4 := RP.ext h0_4 he15
      have hx := ext_trans hx he15
      refine L_as (v := .int .i64 x13) rfl rfl ?_
      refine L_nil ?_
      refine W_seq ?_
      refine W_seq ?_
      refine W_region ?_
      refine L_mv (v := .int .i64 x13) rfl rfl ?_
      refine L_lss (m := x13) (n := 0) rfl rfl rfl ?_
      refine L_nil ?_
      refine W_cond (b := decide (x13 < 0)) rfl (fun hc16 => ?_) (fun hc16 => ?_)
      ·
        have hF := (ite_t hc16).symm.trans hF
        refine W_seq ?_
        refine W_region ?_
        refine L_as (v := .int .i64 (-1)) rfl rfl ?_
        refine L_nil ?_
        refine W_ret ?_
        obtain rfl := so hF
        refine ret1 Try.results65 ?_
        exact ⟨rfl, hx⟩
      ·
        have hF := (ite_f hc16).symm.trans hF
        refine W_skip ?_
        refine W_seq ?_
        refine W_region ?_
        refine L_mv (v := .int .i64 x13) rfl rfl ?_
        refine L_as (v := .int .i64 x13) rfl rfl ?_
        refine L_nil ?_
        refine W_ret ?_
        obtain rfl := so hF
        refine ret1 Try.results65 ?_
        exact ⟨rfl, hx⟩

theorem l_szRuleS_c {fu : Nat} {a : List Rule} {left : Int} {v0 : Value} {w : World} {B : Nat} (hB : B ≤ w.heap.size) (h0 : (RP.slice 76 (rRule 3 22)).rel B w.heap.size w [v0] a) {r : Int} (hF : l_szRuleS fu a left = some r) :
    C Try.prog 43 #[v0, .int .i64 left] w fun v w' => (v = .int .i64 r) ∧ Ext w w' := by
  unfold l_szRuleS at hF
  have hx := ext_refl w
  refine C_enter Try.func43 rfl Try.ntmps43 rfl ?_
  refine W_seq ?_
  refine W_region ?_
  refine L_as (v := .int .i64 0) rfl rfl ?_
  refine L_nil ?_
  refine W_seq ?_
  refine W_region ?_
  refine L_mv (v := .int .i64 left) rfl rfl ?_
  refine L_mv (v := v0) rfl rfl ?_
  refine L_len (v := v0) rfl Try.underlying23 rfl h0 ?_
  refine L_sub (m := left) (n := (a.length : Int)) rfl rfl rfl ?_
  refine L_as (v := .int .i64 (i64 (left - (a.length : Int)))) rfl rfl ?_
  refine L_nil ?_
  refine W_seq ?_
  refine W_seq ?_
  refine W_region ?_
  refine L_mv (v := .int .i64 (i64 (left - (a.length : Int)))) rfl rfl ?_
  refine L_lss (m := i64 (left - (a.length : Int))) (n := 0) rfl rfl rfl ?_
  refine L_nil ?_
  refine W_cond (b := decide ((i64 (left - (a.length : Int))) < 0)) rfl (fun hc1 => ?_) (fun hc1 => ?_)
  ·
    have hF := (ite_t hc1).symm.trans hF
    refine W_seq ?_
    refine W_region ?_
    refine L_as (v := .int .i64 (-1)) rfl rfl ?_
    refine L_nil ?_
    refine W_ret ?_
    obtain rfl := so hF
    refine ret1 Try.results43 ?_
    exact ⟨rfl, hx⟩
  ·
    have hF := (ite_f hc1).symm.trans hF
    refine W_skip ?_
    refine W_seq ?_
    refine W_seq ?_
    refine W_region ?_
    refine L_as (v := .int .i64 0) rfl rfl ?_
    refine L_nil ?_
    obtain ⟨j5, hL5, hF⟩ := bind_some hF
    obtain ⟨R5, hR5⟩ : ∃ R : Fr → World → Prop, R = fun f w_ => ∃ left_3 : Int, ∃ i_4 : Int, j5 = .nx (left_3, i_4) ∧ f 1 = .int .i64 left_3 ∧ Ext w w_ := ⟨_, rfl⟩
    refine W_join R5 ?_ ?_
    ·
      refine W_block ?_
      obtain ⟨I5, hI5⟩ : ∃ I : Nat → Fr → World → Prop, I = fun n f w_ => ∃ left_3 : Int, ∃ i_4 : Int, whileL (l_szRuleS_b1 fu a) n (left_3, i_4) = some j5 ∧ f 0 = v0 ∧ f 1 = .int .i64 left_3 ∧ f 5 = .int .i64 i_4 ∧ (RP.slice 76 (rRule 3 22)).rel B w.heap.size w_ [v0] a ∧ Ext w w_ := ⟨_, rfl⟩
      refine W_loop I5 (n := fu) ?_ ?_
      · rw [hI5]; exact ⟨i64 (left - (a.length : Int)), 0, hL5, rfl, rfl, rfl, h0, hx⟩
      ·
        intro n5 f w_ hI
        rw [hI5] at hI
        obtain ⟨left_3, i_4, hL5, sf0, sf1, sf5, h0, hx⟩ := hI
        cases n5 with
        | zero => exact (while_zero hL5).elim
        | succ n5 =>
          obtain ⟨o5, hB5, hL5⟩ := while_succ hL5
          rw [l_szRuleS_b1] at hB5
          refine W_seq ?_
          refine W_seq ?_
          refine W_region ?_
          refine L_mv (v := .int .i64 i_4) rfl sf5 ?_
          refine L_mv (v := v0) rfl sf0 ?_
          refine L_len (v := v0) rfl Try.underlying23 rfl h0 ?_
          refine L_lss (m := i_4) (n := (a.length : Int)) rfl rfl rfl ?_
          refine L_nil ?_
          refine W_cond (b := decide (i_4 < (a.length : Int))) rfl (fun hc6 => ?_) (fun hc6 => ?_)
          ·
            have hB5 := (ite_t hc6).symm.trans hB5
            refine W_skip ?_
            refine W_seq ?_
            refine W_block ?_
            refine W_seq ?_
            obtain ⟨x7, hx7, hB5⟩ := bind_some hB5
            obtain ⟨x10, hx10, hB5⟩ := bind_some hB5
            refine W_region ?_
            refine L_mv (v := v0) rfl sf0 ?_
            refine L_mv (v := .int .i64 i_4) rfl sf5 ?_
            refine L_ix (r := (rRule 3 22)) rfl Try.underlying23 Try.sizeOf76 rfl h0 rfl hx7 ?_
            intro g12 o13 cs13 hr13 hat13
            obtain ⟨u13_0, u13_1, u13_2, rfl, hu13_0, hu13_1, hu13_2⟩ := rRule_iff.1 hr13
            refine L_lda (cs := [.int .i64 x7.kind, u13_0, u13_1, .int .i64 x7.bound, u13_2]) rfl Try.isAgg76 Try.sizeOf76 rfl (At.sub hat13 0 5) rfl ?_
            refine L_mv (v := .int .i64 left_3) rfl sf1 ?_
            refine L_call (args := #[.agg #[.int .i64 x7.kind, u13_0, u13_1, .int .i64 x7.bound, u13_2], .int .i64 left_3]) rfl Try.call65 (ops2 rfl rfl) (l_szRule_c (a := x7) (left := left_3) (Nat.le_trans hB hx.size) (rel0 hu13_0) (rel0 hu13_1) (rel0 hu13_2) hx10) ?_
            rintro _ w14 ⟨rfl, he14⟩
            have h0 := RP.ext h0 he14
            have hu13_0 := RP.ext hu13_0 he14
            have hu13_1 := RP.ext hu13_1 he14
            have hu13_2 := RP.ext hu13_2 he14
            have hx := ext_trans hx he14
            refine L_as (v := .int .i64 x10) rfl rfl ?_
            refine L_nil ?_
            refine W_seq ?_
            refine W_region ?_
            refine L_mv (v := .int .i64 x10) rfl rfl ?_
            refine L_lss (m := x10) (n := 0) rfl rfl rfl ?_
            refine L_nil ?_
            refine W_cond (b := decide (x10 < 0)) rfl (fun hc15 => ?_) (fun hc15 => ?_)
            ·
              have hB5 := (ite_t hc15).symm.trans hB5
              refine W_seq ?_
              refine W_region ?_
              refine L_as (v := .int .i64 (-1)) rfl rfl ?_
              refine L_nil ?_
              refine W_ret ?_
              obtain rfl := so hB5
              obtain rfl := so hL5
              obtain rfl := so hF
              refine ret1 Try.results43 ?_
              exact ⟨rfl, hx⟩
            ·
              have hB5 := (ite_f hc15).symm.trans hB5
              refine W_skip ?_
              refine W_region ?_
              refine L_mv (v := .int .i64 i_4) rfl sf5 ?_
              refine L_add (m := i_4) (n := 1) rfl rfl rfl ?_
              refine L_as (v := .int .i64 (i64 (i_4 + 1))) rfl rfl ?_
              refine L_nil ?_
              obtain rfl := so hB5
              show ∃ m, m < _ ∧ I5 m _ _
              refine ⟨n5, Nat.lt_succ_self _, ?_⟩
              rw [hI5]
              exact ⟨x10, i64 (i_4 + 1), hL5, sf0, rfl, rfl, h0, hx⟩
          ·
            have hB5 := (ite_f hc6).symm.trans hB5
            refine W_exit ?_
            obtain rfl := so hB5
            obtain rfl := so hL5
            show R5 _ _
            rw [hR5]
            exact ⟨left_3, i_4, rfl, sf1, hx⟩
    ·
      intro f w_ hR
      rw [hR5] at hR
      obtain ⟨left_3, i_4, rfl, sf1, hx⟩ := hR
      clear hR5
      refine W_seq ?_
      refine W_region ?_
      refine L_mv (v := .int .i64 left_3) rfl sf1 ?_
      refine L_as (v := .int .i64 left_3) rfl rfl ?_
      refine L_nil ?_
      refine W_ret ?_
      obtain rfl := so hF
      refine ret1 Try.results43 ?_
      exact ⟨rfl, hx⟩

theorem l_szModel_c {fu : Nat} {a : Model} {left : Int} {v0_0 : Value} {v0_1 : Value} {w : World} {B : Nat} (hB : B ≤ w.heap.size) (h0_0 : (RP.slice 3 RP.int).rel B w.heap.size w [v0_0] a.sizes) (h0_1 : (RP.slice 76 (rRule 3 22)).rel B w.heap.size w [v0_1] a.rules) {r : Int} (hF : l_szModel fu a left = some r) :
    C Try.prog 11 #[.agg #[v0_0, v0_1], .int .i64 left] w fun v w' => (v = .int .i64 r) ∧ Ext w w' := by
  unfold l_szModel at hF
  have hx := ext_refl w
  refine C_enter Try.func11 rfl Try.ntmps11 rfl ?_
  refine W_seq ?_
  refine W_region ?_
  refine L_box (v := .agg #[v0_0, v0_1]) (cs := #[v0_0, v0_1]) rfl rfl rfl ?_
  intro g3 w4 hn4
  have hge_g3 := hn4.ge hx
  have hb_g3 := hn4.blk
  have h0_0 := RP.ext h0_0 hn4.ext
  have h0_1 := RP.ext h0_1 hn4.ext
  have hx := ext_trans hx hn4.ext
  refine L_as (v := .int .i64 0) rfl rfl ?_
  refine L_nil ?_
  refine W_seq ?_
  obtain ⟨x5, hx5, hF⟩ := bind_some hF
  refine W_region ?_
  refine L_fa (o' := 0) rfl fa_25_0 rfl rfl ?_
  refine L_ld (v := v0_0) rfl Try.isAgg22 rfl (hb_g3.cell (j := 0) rfl) ?_
  refine L_mv (v := .int .i64 left) rfl rfl ?_
  refine L_call (args := #[v0_0, .int .i64 left]) rfl Try.call42 (ops2 rfl rfl) (l_szIntS_c (a := a.sizes) (left := left) (Nat.le_trans hB hx.size) (rel0 h0_0) hx5) ?_
  rintro _ w7 ⟨rfl, he7⟩
  have h0_0 := RP.ext h0_0 he7
  have h0_1 := RP.ext h0_1 he7
  have hb_g3 := Blk.ext hb_g3 he7
  have hx := ext_trans hx he7
  refine L_as (v := .int .i64 x5) rfl rfl ?_
  refine L_nil ?_
  refine W_seq ?_
  refine W_seq ?_
  refine W_region ?_
  refine L_mv (v := .int .i64 x5) rfl rfl ?_
  refine L_lss (m := x5) (n := 0) rfl rfl rfl ?_
  refine L_nil ?_
  refine W_cond (b := decide (x5 < 0)) rfl (fun hc8 => ?_) (fun hc8 => ?_)
  ·
    have hF := (ite_t hc8).symm.trans hF
    refine W_seq ?_
    refine W_region ?_
    refine L_as (v := .int .i64 (-1)) rfl rfl ?_
    refine L_nil ?_
    refine W_ret ?_
    obtain rfl := so hF
    refine ret1 Try.results11 ?_
    exact ⟨rfl, hx⟩
  ·
    have hF := (ite_f hc8).symm.trans hF
    refine W_skip ?_
    refine W_seq ?_
    obtain ⟨x9, hx9, hF⟩ := bind_some hF
    refine W_region ?_
    refine L_fa (o' := 1) rfl fa_25_1 rfl rfl ?_
    refine L_ld (v := v0_1) rfl Try.isAgg23 rfl (hb_g3.cell (j := 1) rfl) ?_
    refine L_mv (v := .int .i64 x5) rfl rfl ?_
    refine L_call (args := #[v0_1, .int .i64 x5]) rfl Try.call43 (ops2 rfl rfl) (l_szRuleS_c (a := a.rules) (left := x5) (Nat.le_trans hB hx.size) (rel0 h0_1) hx9) ?_
    rintro _ w11 ⟨rfl, he11⟩
    have h0_1 := RP.ext h0_1 he11
    have hx := ext_trans hx he11
    refine L_as (v := .int .i64 x9) rfl rfl ?_
    refine L_nil ?_
    refine W_seq ?_
    refine W_seq ?_
    refine W_region ?_
    refine L_mv (v := .int .i64 x9) rfl rfl ?_
    refine L_lss (m := x9) (n := 0) rfl rfl rfl ?_
    refine L_nil ?_
    refine W_cond (b := decide (x9 < 0)) rfl (fun hc12 => ?_) (fun hc12 => ?_)
    ·
      have hF := (ite_t hc12).symm.trans hF
      refine W_seq ?_
      refine W_region ?_
      refine L_as (v := .int .i64 (-1)) rfl rfl ?_
      refine L_nil ?_
      refine W_ret ?_
      obtain rfl := so hF
      refine ret1 Try.results11 ?_
      exact ⟨rfl, hx⟩
    ·
      have hF := (ite_f hc12).symm.trans hF
      refine W_skip ?_
      refine W_seq ?_
      refine W_region ?_
      refine L_mv (v := .int .i64 x9) rfl rfl ?_
      refine L_as (v := .int .i64 x9) rfl rfl ?_
      refine L_nil ?_
      refine W_ret ?_
      obtain rfl := so hF
      refine ret1 Try.results11 ?_
      exact ⟨rfl, hx⟩

theorem s_l6Vars_c {fu : Nat} {m : Model} {list : List Int} {v0_0 : Value} {v0_1 : Value} {v1 : Value} {w : World} {B : Nat} (hB : B ≤ w.heap.size) (h0_0 : (RP.slice 3 RP.int).rel B w.heap.size w [v0_0] m.sizes) (h0_1 : (RP.slice 68 (rRule 3 22)).rel B w.heap.size w [v0_1] m.rules) (h1 : (RP.slice 3 RP.int).rel B w.heap.size w [v1] list) {r : Bool} (hF : s_l6Vars fu m list = some r) :
    C Try.prog 79 #[.agg #[v0_0, v0_1], v1] w fun v w' => (v = .bool r) ∧ Ext w w' := by
  unfold s_l6Vars at hF
  have hx := ext_refl w
  refine C_enter Try.func79 rfl Try.ntmps79 rfl ?_
  refine W_seq ?_
  refine W_region ?_
  refine L_box (v := .agg #[v0_0, v0_1]) (cs := #[v0_0, v0_1]) rfl rfl rfl ?_
  intro g3 w4 hn4
  have hge_g3 := hn4.ge hx
  have hb_g3 := hn4.blk
  have h0_0 := RP.ext h0_0 hn4.ext
  have h0_1 := RP.ext h0_1 hn4.ext
  have h1 := RP.ext h1 hn4.ext
  have hx := ext_trans hx hn4.ext
  refine L_as (v := .bool false) rfl rfl ?_
  refine L_nil ?_
  refine W_seq ?_
  refine W_seq ?_
  refine W_region ?_
  refine L_as (v := .int .i64 0) rfl rfl ?_
  refine L_nil ?_
  obtain ⟨j7, hL7, hF⟩ := bind_some hF
  obtain ⟨R7, hR7⟩ : ∃ R : Fr → World → Prop, R = fun f w_ => ∃ i_6 : Int, j7 = .nx i_6 ∧ f 1 = v1 ∧ (RP.slice 3 RP.int).rel B w.heap.size w_ [v1] list ∧ Ext w w_ := ⟨_, rfl⟩
  refine W_join R7 ?_ ?_
  ·
    refine W_block ?_
    obtain ⟨I7, hI7⟩ : ∃ I : Nat → Fr → World → Prop, I = fun n f w_ => ∃ i_6 : Int, whileL (s_l6Vars_b1 fu m list) n i_6 = some j7 ∧ f 1 = v1 ∧ f 2 = .pointer (some ⟨g3, 0, none⟩) ∧ f 5 = .int .i64 i_6 ∧ (RP.slice 3 RP.int).rel B w.heap.size w_ [v1] list ∧ (RP.slice 3 RP.int).rel B w.heap.size w_ [v0_0] m.sizes ∧ (RP.slice 68 (rRule 3 22)).rel B w.heap.size w_ [v0_1] m.rules ∧ Blk w_ g3 30 #[v0_0, v0_1] ∧ Ext w w_ := ⟨_, rfl⟩
    refine W_loop I7 (n := fu) ?_ ?_
    · rw [hI7]; exact ⟨0, hL7, rfl, rfl, rfl, h1, h0_0, h0_1, hb_g3, hx⟩
    ·
      intro n7 f w_ hI
      rw [hI7] at hI
      obtain ⟨i_6, hL7, sf1, sf2, sf5, h1, h0_0, h0_1, hb_g3, hx⟩ := hI
      cases n7 with
      | zero => exact (while_zero hL7).elim
      | succ n7 =>
        obtain ⟨o7, hB7, hL7⟩ := while_succ hL7
        rw [s_l6Vars_b1] at hB7
        refine W_seq ?_
        refine W_seq ?_
        refine W_region ?_
        refine L_mv (v := .int .i64 i_6) rfl sf5 ?_
        refine L_mv (v := v1) rfl sf1 ?_
        refine L_len (v := v1) rfl Try.underlying22 rfl h1 ?_
        refine L_lss (m := i_6) (n := (list.length : Int)) rfl rfl rfl ?_
        refine L_nil ?_
        refine W_cond (b := decide (i_6 < (list.length : Int))) rfl (fun hc8 => ?_) (fun hc8 => ?_)
        ·
          have hB7 := (ite_t hc8).symm.trans hB7
          refine W_skip ?_
          refine W_seq ?_
          refine W_block ?_
          refine W_seq ?_
          refine W_seq ?_
          obtain ⟨x9, hx9, hB7⟩ := bind_some hB7
          obtain ⟨R14, hR14⟩ : ∃ R : Fr → World → Prop, R = fun f w_ => f 1 = v1 ∧ f 2 = .pointer (some ⟨g3, 0, none⟩) ∧ f 5 = .int .i64 i_6 ∧ f 27 = .bool ((decide (x9 < 0)) || (decide (x9 ≥ (m.sizes.length : Int)))) ∧ (RP.slice 3 RP.int).rel B w.heap.size w_ [v1] list ∧ (RP.slice 3 RP.int).rel B w.heap.size w_ [v0_0] m.sizes ∧ (RP.slice 68 (rRule 3 22)).rel B w.heap.size w_ [v0_1] m.rules ∧ Blk w_ g3 30 #[v0_0, v0_1] ∧ Ext w w_ := ⟨_, rfl⟩
          refine W_join R14 ?_ ?_
          ·
            rcases Bool.eq_false_or_eq_true (decide (x9 < 0)) with hc15 | hc15
            ·
              refine W_drawL 13 [isV (v1), isV (.int .i64 i_6), isEl B RP.int x9 0, isV (.int .i64 x9), isV (.bool (decide (x9 < 0))), isV (.bool (decide (x9 < 0))), isV (undef), isV (undef), isV (undef), isV (undef), isV (undef), isV (undef), isV (undef)] Try_mix (by kernel_rfl) (am_cons (mono_V _) (am_cons (mono_V _) (am_cons (mono_el _ _ _ _) (am_cons (mono_V _) (am_cons (mono_V _) (am_cons (mono_V _) (am_cons (mono_V _) (am_cons (mono_V _) (am_cons (mono_V _) (am_cons (mono_V _) (am_cons (mono_V _) (am_cons (mono_V _) (am_cons (mono_V _) am_nil))))))))))))) ?_ (fun f w_ hS hE hT => ?_)
              ·
                refine ops_cons (fun f w_ hS hE hP => ?_) ?_
                ·
                  have hx := ext_trans hx hE
                  have h1 := RP.ext h1 hE
                  refine L_mv (v := v1) rfl ((hS 1 rfl).trans sf1) ?_
                  exact L_nil ⟨rfl, (ext_refl _), _, _, rfl, rfl, rfl⟩
                refine ops_cons (fun f w_ hS hE hP => ?_) ?_
                ·
                  have hx := ext_trans hx hE
                  refine L_mv (v := .int .i64 i_6) rfl ((hS 5 rfl).trans sf5) ?_
                  exact L_nil ⟨rfl, (ext_refl _), _, _, rfl, rfl, rfl⟩
                refine ops_cons (fun f w_ hS hE hP => ?_) ?_
                ·
                  have hx := ext_trans hx hE
                  have h1 := RP.ext h1 hE
                  refine L_ix (r := RP.int) rfl Try.underlying22 Try.sizeOf3 (hP 0 13 rfl rfl) h1 (hP 1 14 rfl rfl) hx9 ?_
                  intro g18 o19 cs19 hr19 hat19
                  obtain rfl : _ = [_] := hr19
                  exact L_nil ⟨rfl, (ext_refl _), _, _, rfl, rfl, ⟨_, _, _, rfl, rfl, hat19⟩⟩
                refine ops_cons (fun f w_ hS hE hP => ?_) ?_
                ·
                  have hx := ext_trans hx hE
                  obtain ⟨g20, o20, cs20, hv20, hr20, hat20⟩ := (hP 2 15 rfl rfl)
                  obtain rfl : _ = [_] := hr20
                  refine L_ld (v := .int .i64 x9) rfl Try.isAgg3 hv20 (hat20.cell (j := 0) rfl) ?_
                  exact L_nil ⟨rfl, (ext_refl _), _, _, rfl, rfl, rfl⟩
                refine ops_cons (fun f w_ hS hE hP => ?_) ?_
                ·
                  have hx := ext_trans hx hE
                  refine L_lss (m := x9) (n := 0) rfl (hP 3 16 rfl rfl) rfl ?_
                  exact L_nil ⟨rfl, (ext_refl _), _, _, rfl, rfl, rfl⟩
                refine ops_cons (fun f w_ hS hE hP => ?_) ?_
                ·
                  have hx := ext_trans hx hE
                  refine L_mv (v := .bool (decide (x9 < 0))) rfl (hP 4 17 rfl rfl) ?_
                  exact L_nil ⟨rfl, (ext_refl _), _, _, rfl, rfl, rfl⟩
                refine ops_cons (fun f w_ hS hE hP => ?_) ?_
                ·
                  have hx := ext_trans hx hE
                  have h1 := RP.ext h1 hE
                  refine L_pass (g_no rfl (Eq.trans (hP 5 18 rfl rfl) (congrArg Value.bool hc15)) rfl rfl) ?_
                  exact L_nil ⟨rfl, (ext_refl _), _, _, rfl, rfl, rfl⟩
                refine ops_cons (fun f w_ hS hE hP => ?_) ?_
                ·
                  have hx := ext_trans hx hE
                  refine L_pass (g_no rfl (Eq.trans (hP 5 18 rfl rfl) (congrArg Value.bool hc15)) rfl rfl) ?_
                  exact L_nil ⟨rfl, (ext_refl _), _, _, rfl, rfl, rfl⟩
                refine ops_cons (fun f w_ hS hE hP => ?_) ?_
                ·
                  have hx := ext_trans hx hE
                  refine L_pass (g_no rfl (Eq.trans (hP 5 18 rfl rfl) (congrArg Value.bool hc15)) rfl rfl) ?_
                  exact L_nil ⟨rfl, (ext_refl _), _, _, rfl, rfl, rfl⟩
                refine ops_cons (fun f w_ hS hE hP => ?_) ?_
                ·
                  have hx := ext_trans hx hE
                  refine L_pass (g_no rfl (Eq.trans (hP 5 18 rfl rfl) (congrArg Value.bool hc15)) rfl rfl) ?_
                  exact L_nil ⟨rfl, (ext_refl _), _, _, rfl, rfl, rfl⟩
                refine ops_cons (fun f w_ hS hE hP => ?_) ?_
                ·
                  have hx := ext_trans hx hE
                  have h0_0 := RP.ext h0_0 hE
                  have h0_1 := RP.ext h0_1 hE
                  have hb_g3 := Blk.ext hb_g3 hE
                  refine L_pass (g_no rfl (Eq.trans (hP 5 18 rfl rfl) (congrArg Value.bool hc15)) rfl rfl) ?_
                  exact L_nil ⟨rfl, (ext_refl _), _, _, rfl, rfl, rfl⟩
                refine ops_cons (fun f w_ hS hE hP => ?_) ?_
                ·
                  have hx := ext_trans hx hE
                  refine L_pass (g_no rfl (Eq.trans (hP 5 18 rfl rfl) (congrArg Value.bool hc15)) rfl rfl) ?_
                  exact L_nil ⟨rfl, (ext_refl _), _, _, rfl, rfl, rfl⟩
                refine ops_cons (fun f w_ hS hE hP => ?_) ?_
                ·
                  have hx := ext_trans hx hE
                  refine L_pass (g_no rfl (Eq.trans (hP 5 18 rfl rfl) (congrArg Value.bool hc15)) rfl rfl) ?_
                  exact L_nil ⟨rfl, (ext_refl _), _, _, rfl, rfl, rfl⟩
                exact ops_nil
              ·
                have h1 := RP.ext h1 hE
                have h0_0 := RP.ext h0_0 hE
                have h0_1 := RP.ext h0_1 hE
                have hb_g3 := Blk.ext hb_g3 hE
                have hx := ext_trans hx hE
                refine L_pass (g_no rfl (Eq.trans (hT 5 18 rfl rfl) (congrArg Value.bool hc15)) rfl rfl) ?_
                refine L_pick (v := .bool ((decide (x9 < 0)) || (decide (x9 ≥ (m.sizes.length : Int))))) rfl (Eq.trans (hT 5 18 rfl rfl) (congrArg Value.bool hc15)) (or_t hc15) ?_
                refine L_nil ?_
                show R14 _ _
                rw [hR14]
                exact ⟨((hS 1 rfl).trans sf1), ((hS 2 rfl).trans sf2), ((hS 5 rfl).trans sf5), rfl, h1, h0_0, h0_1, hb_g3, hx⟩
            ·
              refine W_drawL 13 [isV (v1), isV (.int .i64 i_6), isEl B RP.int x9 0, isV (.int .i64 x9), isV (.bool (decide (x9 < 0))), isV (.bool (decide (x9 < 0))), isV (v1), isV (.int .i64 i_6), isEl B RP.int x9 0, isV (.int .i64 x9), isV (.pointer (some ⟨g3, 0, none⟩)), isV (v0_0), isV (.int .i64 (m.sizes.length : Int))] Try_mix (by kernel_rfl) (am_cons (mono_V _) (am_cons (mono_V _) (am_cons (mono_el _ _ _ _) (am_cons (mono_V _) (am_cons (mono_V _) (am_cons (mono_V _) (am_cons (mono_V _) (am_cons (mono_V _) (am_cons (mono_el _ _ _ _) (am_cons (mono_V _) (am_cons (mono_V _) (am_cons (mono_V _) (am_cons (mono_V _) am_nil))))))))))))) ?_ (fun f w_ hS hE hT => ?_)
              ·
                refine ops_cons (fun f w_ hS hE hP => ?_) ?_
                ·
                  have hx := ext_trans hx hE
                  have h1 := RP.ext h1 hE
                  refine L_mv (v := v1) rfl ((hS 1 rfl).trans sf1) ?_
                  exact L_nil ⟨rfl, (ext_refl _), _, _, rfl, rfl, rfl⟩
                refine ops_cons (fun f w_ hS hE hP => ?_) ?_
                ·
                  have hx := ext_trans hx hE
                  refine L_mv (v := .int .i64 i_6) rfl ((hS 5 rfl).trans sf5) ?_
                  exact L_nil ⟨rfl, (ext_refl _), _, _, rfl, rfl, rfl⟩
                refine ops_cons (fun f w_ hS hE hP => ?_) ?_
                ·
                  have hx := ext_trans hx hE
                  have h1 := RP.ext h1 hE
                  refine L_ix (r := RP.int) rfl Try.underlying22 Try.sizeOf3 (hP 0 13 rfl rfl) h1 (hP 1 14 rfl rfl) hx9 ?_
                  intro g25 o26 cs26 hr26 hat26
                  obtain rfl : _ = [_] := hr26
                  exact L_nil ⟨rfl, (ext_refl _), _, _, rfl, rfl, ⟨_, _, _, rfl, rfl, hat26⟩⟩
                refine ops_cons (fun f w_ hS hE hP => ?_) ?_
                ·
                  have hx := ext_trans hx hE
                  obtain ⟨g27, o27, cs27, hv27, hr27, hat27⟩ := (hP 2 15 rfl rfl)
                  obtain rfl : _ = [_] := hr27
                  refine L_ld (v := .int .i64 x9) rfl Try.isAgg3 hv27 (hat27.cell (j := 0) rfl) ?_
                  exact L_nil ⟨rfl, (ext_refl _), _, _, rfl, rfl, rfl⟩
                refine ops_cons (fun f w_ hS hE hP => ?_) ?_
                ·
                  have hx := ext_trans hx hE
                  refine L_lss (m := x9) (n := 0) rfl (hP 3 16 rfl rfl) rfl ?_
                  exact L_nil ⟨rfl, (ext_refl _), _, _, rfl, rfl, rfl⟩
                refine ops_cons (fun f w_ hS hE hP => ?_) ?_
                ·
                  have hx := ext_trans hx hE
                  refine L_mv (v := .bool (decide (x9 < 0))) rfl (hP 4 17 rfl rfl) ?_
                  exact L_nil ⟨rfl, (ext_refl _), _, _, rfl, rfl, rfl⟩
                refine ops_cons (fun f w_ hS hE hP => ?_) ?_
                ·
                  have hx := ext_trans hx hE
                  have h1 := RP.ext h1 hE
                  refine L_mv (v := v1) (g_yes rfl (Eq.trans (hP 5 18 rfl rfl) (congrArg Value.bool hc15)) rfl) ((hS 1 rfl).trans sf1) ?_
                  exact L_nil ⟨rfl, (ext_refl _), _, _, rfl, rfl, rfl⟩
                refine ops_cons (fun f w_ hS hE hP => ?_) ?_
                ·
                  have hx := ext_trans hx hE
                  refine L_mv (v := .int .i64 i_6) (g_yes rfl (Eq.trans (hP 5 18 rfl rfl) (congrArg Value.bool hc15)) rfl) ((hS 5 rfl).trans sf5) ?_
                  exact L_nil ⟨rfl, (ext_refl _), _, _, rfl, rfl, rfl⟩
                refine ops_cons (fun f w_ hS hE hP => ?_) ?_
                ·
                  have hx := ext_trans hx hE
                  have h1 := RP.ext h1 hE
                  refine L_ix (r := RP.int) (g_yes rfl (Eq.trans (hP 5 18 rfl rfl) (congrArg Value.bool hc15)) rfl) Try.underlying22 Try.sizeOf3 (hP 6 19 rfl rfl) h1 (hP 7 20 rfl rfl) hx9 ?_
                  intro g28 o29 cs29 hr29 hat29
                  obtain rfl : _ = [_] := hr29
                  exact L_nil ⟨rfl, (ext_refl _), _, _, rfl, rfl, ⟨_, _, _, rfl, rfl, hat29⟩⟩
                refine ops_cons (fun f w_ hS hE hP => ?_) ?_
                ·
                  have hx := ext_trans hx hE
                  obtain ⟨g30, o30, cs30, hv30, hr30, hat30⟩ := (hP 8 21 rfl rfl)
                  obtain rfl : _ = [_] := hr30
                  refine L_ld (v := .int .i64 x9) (g_yes rfl (Eq.trans (hP 5 18 rfl rfl) (congrArg Value.bool hc15)) rfl) Try.isAgg3 hv30 (hat30.cell (j := 0) rfl) ?_
                  exact L_nil ⟨rfl, (ext_refl _), _, _, rfl, rfl, rfl⟩
                refine ops_cons (fun f w_ hS hE hP => ?_) ?_
                ·
                  have hx := ext_trans hx hE
                  have h0_0 := RP.ext h0_0 hE
                  have h0_1 := RP.ext h0_1 hE
                  have hb_g3 := Blk.ext hb_g3 hE
                  refine L_fa (o' := 0) (g_yes rfl (Eq.trans (hP 5 18 rfl rfl) (congrArg Value.bool hc15)) rfl) fa_30_0 ((hS 2 rfl).trans sf2) rfl ?_
                  exact L_nil ⟨rfl, (ext_refl _), _, _, rfl, rfl, rfl⟩
                refine ops_cons (fun f w_ hS hE hP => ?_) ?_
                ·
                  have hx := ext_trans hx hE
                  have h0_0 := RP.ext h0_0 hE
                  have h0_1 := RP.ext h0_1 hE
                  have hb_g3 := Blk.ext hb_g3 hE
                  refine L_ld (v := v0_0) (g_yes rfl (Eq.trans (hP 5 18 rfl rfl) (congrArg Value.bool hc15)) rfl) Try.isAgg22 (hP 10 23 rfl rfl) (hb_g3.cell (j := 0) rfl) ?_
                  exact L_nil ⟨rfl, (ext_refl _), _, _, rfl, rfl, rfl⟩
                refine ops_cons (fun f w_ hS hE hP => ?_) ?_
                ·
                  have hx := ext_trans hx hE
                  have h0_0 := RP.ext h0_0 hE
                  refine L_len (v := v0_0) (g_yes rfl (Eq.trans (hP 5 18 rfl rfl) (congrArg Value.bool hc15)) rfl) Try.underlying22 (hP 11 24 rfl rfl) h0_0 ?_
                  exact L_nil ⟨rfl, (ext_refl _), _, _, rfl, rfl, rfl⟩
                exact ops_nil
              ·
                have h1 := RP.ext h1 hE
                have h0_0 := RP.ext h0_0 hE
                have h0_1 := RP.ext h0_1 hE
                have hb_g3 := Blk.ext hb_g3 hE
                have hx := ext_trans hx hE
                refine L_geq (m := x9) (n := (m.sizes.length : Int)) (g_yes rfl (Eq.trans (hT 5 18 rfl rfl) (congrArg Value.bool hc15)) rfl) (hT 9 22 rfl rfl) (hT 12 25 rfl rfl) ?_
                refine L_pick (v := .bool ((decide (x9 < 0)) || (decide (x9 ≥ (m.sizes.length : Int))))) rfl (Eq.trans (hT 5 18 rfl rfl) (congrArg Value.bool hc15)) (or_f hc15 rfl) ?_
                refine L_nil ?_
                show R14 _ _
                rw [hR14]
                exact ⟨((hS 1 rfl).trans sf1), ((hS 2 rfl).trans sf2), ((hS 5 rfl).trans sf5), rfl, h1, h0_0, h0_1, hb_g3, hx⟩
          ·
            intro f w_ hR
            rw [hR14] at hR
            obtain ⟨sf1, sf2, sf5, sf27, h1, h0_0, h0_1, hb_g3, hx⟩ := hR
            clear hR14
            refine W_cond (b := ((decide (x9 < 0)) || (decide (x9 ≥ (m.sizes.length : Int))))) sf27 (fun hc31 => ?_) (fun hc31 => ?_)
            ·
              have hB7 := (ite_t hc31).symm.trans hB7
              refine W_seq ?_
              refine W_region ?_
              refine L_as (v := .bool false) rfl rfl ?_
              refine L_nil ?_
              refine W_ret ?_
              obtain rfl := so hB7
              obtain rfl := so hL7
              obtain rfl := so hF
              refine ret1 Try.results79 ?_
              exact ⟨rfl, hx⟩
            ·
              have hB7 := (ite_f hc31).symm.trans hB7
              refine W_skip ?_
              refine W_seq ?_
              refine W_region ?_
              refine L_as (v := .int .i64 0) rfl rfl ?_
              refine L_nil ?_
              obtain ⟨j34, hL34, hB7⟩ := bind_some hB7
              obtain ⟨R34, hR34⟩ : ∃ R : Fr → World → Prop, R = fun f w_ => ∃ k_33 : Int, j34 = .nx k_33 ∧ f 1 = v1 ∧ f 2 = .pointer (some ⟨g3, 0, none⟩) ∧ f 5 = .int .i64 i_6 ∧ (RP.slice 3 RP.int).rel B w.heap.size w_ [v1] list ∧ (RP.slice 3 RP.int).rel B w.heap.size w_ [v0_0] m.sizes ∧ (RP.slice 68 (rRule 3 22)).rel B w.heap.size w_ [v0_1] m.rules ∧ Blk w_ g3 30 #[v0_0, v0_1] ∧ Ext w w_ := ⟨_, rfl⟩
              refine W_join R34 ?_ ?_
              ·
                refine W_block ?_
                obtain ⟨I34, hI34⟩ : ∃ I : Nat → Fr → World → Prop, I = fun n f w_ => ∃ k_33 : Int, whileL (s_l6Vars_b2 list i_6 x9) n k_33 = some j34 ∧ f 1 = v1 ∧ f 2 = .pointer (some ⟨g3, 0, none⟩) ∧ f 5 = .int .i64 i_6 ∧ f 6 = .int .i64 k_33 ∧ (RP.slice 3 RP.int).rel B w.heap.size w_ [v1] list ∧ (RP.slice 3 RP.int).rel B w.heap.size w_ [v0_0] m.sizes ∧ (RP.slice 68 (rRule 3 22)).rel B w.heap.size w_ [v0_1] m.rules ∧ Blk w_ g3 30 #[v0_0, v0_1] ∧ Ext w w_ := ⟨_, rfl⟩
                refine W_loop I34 (n := fu) ?_ ?_
                · rw [hI34]; exact ⟨0, hL34, sf1, sf2, sf5, rfl, h1, h0_0, h0_1, hb_g3, hx⟩
                ·
                  intro n34 f w_ hI
                  rw [hI34] at hI
                  obtain ⟨k_33, hL34, sf1, sf2, sf5, sf6, h1, h0_0, h0_1, hb_g3, hx⟩ := hI
                  cases n34 with
                  | zero => exact (while_zero hL34).elim
                  | succ n34 =>
                    obtain ⟨o34, hB34, hL34⟩ := while_succ hL34
                    rw [s_l6Vars_b2] at hB34
                    refine W_seq ?_
                    refine W_seq ?_
                    refine W_region ?_
                    refine L_mv (v := .int .i64 k_33) rfl sf6 ?_
                    refine L_mv (v := .int .i64 i_6) rfl sf5 ?_
                    refine L_lss (m := k_33) (n := i_6) rfl rfl rfl ?_
                    refine L_nil ?_
                    refine W_cond (b := decide (k_33 < i_6)) rfl (fun hc35 => ?_) (fun hc35 => ?_)
                    ·
                      have hB34 := (ite_t hc35).symm.trans hB34
                      refine W_skip ?_
                      refine W_seq ?_
                      refine W_block ?_
                      refine W_seq ?_
                      obtain ⟨x36, hx36, hB34⟩ := bind_some hB34
                      refine W_drawL 8 [isV (v1), isV (.int .i64 k_33), isEl B RP.int x36 0, isV (.int .i64 x36), isV (v1), isV (.int .i64 i_6), isEl B RP.int x9 0, isV (.int .i64 x9)] Try_mix (by kernel_rfl) (am_cons (mono_V _) (am_cons (mono_V _) (am_cons (mono_el _ _ _ _) (am_cons (mono_V _) (am_cons (mono_V _) (am_cons (mono_V _) (am_cons (mono_el _ _ _ _) (am_cons (mono_V _) am_nil)))))))) ?_ (fun f w_ hS hE hT => ?_)
                      ·
                        refine ops_cons (fun f w_ hS hE hP => ?_) ?_
                        ·
                          have hx := ext_trans hx hE
                          have h1 := RP.ext h1 hE
                          refine L_mv (v := v1) rfl ((hS 1 rfl).trans sf1) ?_
                          exact L_nil ⟨rfl, (ext_refl _), _, _, rfl, rfl, rfl⟩
                        refine ops_cons (fun f w_ hS hE hP => ?_) ?_
                        ·
                          have hx := ext_trans hx hE
                          refine L_mv (v := .int .i64 k_33) rfl ((hS 6 rfl).trans sf6) ?_
                          exact L_nil ⟨rfl, (ext_refl _), _, _, rfl, rfl, rfl⟩
                        refine ops_cons (fun f w_ hS hE hP => ?_) ?_
                        ·
                          have hx := ext_trans hx hE
                          have h1 := RP.ext h1 hE
                          refine L_ix (r := RP.int) rfl Try.underlying22 Try.sizeOf3 (hP 0 33 rfl rfl) h1 (hP 1 34 rfl rfl) hx36 ?_
                          intro g45 o46 cs46 hr46 hat46
                          obtain rfl : _ = [_] := hr46
                          exact L_nil ⟨rfl, (ext_refl _), _, _, rfl, rfl, ⟨_, _, _, rfl, rfl, hat46⟩⟩
                        refine ops_cons (fun f w_ hS hE hP => ?_) ?_
                        ·
                          have hx := ext_trans hx hE
                          obtain ⟨g47, o47, cs47, hv47, hr47, hat47⟩ := (hP 2 35 rfl rfl)
                          obtain rfl : _ = [_] := hr47
                          refine L_ld (v := .int .i64 x36) rfl Try.isAgg3 hv47 (hat47.cell (j := 0) rfl) ?_
                          exact L_nil ⟨rfl, (ext_refl _), _, _, rfl, rfl, rfl⟩
                        refine ops_cons (fun f w_ hS hE hP => ?_) ?_
                        ·
                          have hx := ext_trans hx hE
                          have h1 := RP.ext h1 hE
                          refine L_mv (v := v1) rfl ((hS 1 rfl).trans sf1) ?_
                          exact L_nil ⟨rfl, (ext_refl _), _, _, rfl, rfl, rfl⟩
                        refine ops_cons (fun f w_ hS hE hP => ?_) ?_
                        ·
                          have hx := ext_trans hx hE
                          refine L_mv (v := .int .i64 i_6) rfl ((hS 5 rfl).trans sf5) ?_
                          exact L_nil ⟨rfl, (ext_refl _), _, _, rfl, rfl, rfl⟩
                        refine ops_cons (fun f w_ hS hE hP => ?_) ?_
                        ·
                          have hx := ext_trans hx hE
                          have h1 := RP.ext h1 hE
                          refine L_ix (r := RP.int) rfl Try.underlying22 Try.sizeOf3 (hP 4 37 rfl rfl) h1 (hP 5 38 rfl rfl) hx9 ?_
                          intro g48 o49 cs49 hr49 hat49
                          obtain rfl : _ = [_] := hr49
                          exact L_nil ⟨rfl, (ext_refl _), _, _, rfl, rfl, ⟨_, _, _, rfl, rfl, hat49⟩⟩
                        refine ops_cons (fun f w_ hS hE hP => ?_) ?_
                        ·
                          have hx := ext_trans hx hE
                          obtain ⟨g50, o50, cs50, hv50, hr50, hat50⟩ := (hP 6 39 rfl rfl)
                          obtain rfl : _ = [_] := hr50
                          refine L_ld (v := .int .i64 x9) rfl Try.isAgg3 hv50 (hat50.cell (j := 0) rfl) ?_
                          exact L_nil ⟨rfl, (ext_refl _), _, _, rfl, rfl, rfl⟩
                        exact ops_nil
                      ·
                        have h1 := RP.ext h1 hE
                        have h0_0 := RP.ext h0_0 hE
                        have h0_1 := RP.ext h0_1 hE
                        have hb_g3 := Blk.ext hb_g3 hE
                        have hx := ext_trans hx hE
                        refine L_eql (m := x36) (n := x9) rfl (hT 3 36 rfl rfl) (hT 7 40 rfl rfl) ?_
                        refine L_nil ?_
                        refine W_cond (b := (x36 == x9)) rfl (fun hc51 => ?_) (fun hc51 => ?_)
                        ·
                          have hB34 := (ite_t hc51).symm.trans hB34
                          refine W_seq ?_
                          refine W_region ?_
                          refine L_as (v := .bool false) rfl rfl ?_
                          refine L_nil ?_
                          refine W_ret ?_
                          obtain rfl := so hB34
                          obtain rfl := so hL34
                          obtain rfl := so hB7
                          obtain rfl := so hL7
                          obtain rfl := so hF
                          refine ret1 Try.results79 ?_
                          exact ⟨rfl, hx⟩
                        ·
                          have hB34 := (ite_f hc51).symm.trans hB34
                          refine W_skip ?_
                          refine W_region ?_
                          refine L_mv (v := .int .i64 k_33) rfl ((hS 6 rfl).trans sf6) ?_
                          refine L_add (m := k_33) (n := 1) rfl rfl rfl ?_
                          refine L_as (v := .int .i64 (i64 (k_33 + 1))) rfl rfl ?_
                          refine L_nil ?_
                          obtain rfl := so hB34
                          show ∃ m, m < _ ∧ I34 m _ _
                          refine ⟨n34, Nat.lt_succ_self _, ?_⟩
                          rw [hI34]
                          exact ⟨i64 (k_33 + 1), hL34, ((hS 1 rfl).trans sf1), ((hS 2 rfl).trans sf2), ((hS 5 rfl).trans sf5), rfl, h1, h0_0, h0_1, hb_g3, hx⟩
                    ·
                      have hB34 := (ite_f hc35).symm.trans hB34
                      refine W_exit ?_
                      obtain rfl := so hB34
                      obtain rfl := so hL34
                      show R34 _ _
                      rw [hR34]
                      exact ⟨k_33, rfl, sf1, sf2, sf5, h1, h0_0, h0_1, hb_g3, hx⟩
              ·
                intro f w_ hR
                rw [hR34] at hR
                obtain ⟨k_33, rfl, sf1, sf2, sf5, h1, h0_0, h0_1, hb_g3, hx⟩ := hR
                clear hR34
                refine W_region ?_
                refine L_mv (v := .int .i64 i_6) rfl sf5 ?_
                refine L_add (m := i_6) (n := 1) rfl rfl rfl ?_
                refine L_as (v := .int .i64 (i64 (i_6 + 1))) rfl rfl ?_
                refine L_nil ?_
                obtain rfl := so hB7
                show ∃ m, m < _ ∧ I7 m _ _
                refine ⟨n7, Nat.lt_succ_self _, ?_⟩
                rw [hI7]
                exact ⟨i64 (i_6 + 1), hL7, sf1, sf2, rfl, h1, h0_0, h0_1, hb_g3, hx⟩
        ·
          have hB7 := (ite_f hc8).symm.trans hB7
          refine W_exit ?_
          obtain rfl := so hB7
          obtain rfl := so hL7
          show R7 _ _
          rw [hR7]
          exact ⟨i_6, rfl, sf1, h1, hx⟩
  ·
    intro f w_ hR
    rw [hR7] at hR
    obtain ⟨i_6, rfl, sf1, h1, hx⟩ := hR
    clear hR7
    refine W_seq ?_
    refine W_region ?_
    refine L_mv (v := v1) rfl sf1 ?_
    refine L_len (v := v1) rfl Try.underlying22 rfl h1 ?_
    refine L_geq (m := (list.length : Int)) (n := 1) rfl rfl rfl ?_
    refine L_as (v := .bool (decide ((list.length : Int) ≥ 1))) rfl rfl ?_
    refine L_nil ?_
    refine W_ret ?_
    obtain rfl := so hF
    refine ret1 Try.results79 ?_
    exact ⟨rfl, hx⟩

theorem s_l6Linear_c {fu : Nat} {r_ : Rule} {v0_1 : Value} {v0_2 : Value} {v0_4 : Value} {w : World} {B : Nat} (hB : B ≤ w.heap.size) (h0_1 : (RP.slice 3 RP.int).rel B w.heap.size w [v0_1] r_.vars) (h0_2 : (RP.slice 3 RP.int).rel B w.heap.size w [v0_2] r_.coefs) (h0_4 : (RP.slice 22 (RP.slice 3 RP.int)).rel B w.heap.size w [v0_4] r_.rows) {r : Bool} (hF : s_l6Linear fu r_ = some r) :
    C Try.prog 80 #[.agg #[.int .i64 r_.kind, v0_1, v0_2, .int .i64 r_.bound, v0_4]] w fun v w' => (v = .bool r) ∧ Ext w w' := by
  unfold s_l6Linear at hF
  have hx := ext_refl w
  refine C_enter Try.func80 rfl Try.ntmps80 rfl ?_
  refine W_seq ?_
  refine W_region ?_
  refine L_box (v := .agg #[.int .i64 r_.kind, v0_1, v0_2, .int .i64 r_.bound, v0_4]) (cs := #[.int .i64 r_.kind, v0_1, v0_2, .int .i64 r_.bound, v0_4]) rfl rfl rfl ?_
  intro g3 w4 hn4
  have hge_g3 := hn4.ge hx
  have hb_g3 := hn4.blk
  have h0_1 := RP.ext h0_1 hn4.ext
  have h0_2 := RP.ext h0_2 hn4.ext
  have h0_4 := RP.ext h0_4 hn4.ext
  have hx := ext_trans hx hn4.ext
  refine L_as (v := .bool false) rfl rfl ?_
  refine L_nil ?_
  refine W_seq ?_
  refine W_seq ?_
  refine W_region ?_
  refine L_as (v := .int .i64 0) rfl rfl ?_
  refine L_nil ?_
  obtain ⟨j7, hL7, hF⟩ := bind_some hF
  obtain ⟨R7, hR7⟩ : ∃ R : Fr → World → Prop, R = fun f w_ => ∃ i_6 : Int, j7 = .nx i_6 ∧ f 1 = .pointer (some ⟨g3, 0, none⟩) ∧ (RP.slice 3 RP.int).rel B w.heap.size w_ [v0_1] r_.vars ∧ (RP.slice 3 RP.int).rel B w.heap.size w_ [v0_2] r_.coefs ∧ (RP.slice 22 (RP.slice 3 RP.int)).rel B w.heap.size w_ [v0_4] r_.rows ∧ Blk w_ g3 68 #[.int .i64 r_.kind, v0_1, v0_2, .int .i64 r_.bound, v0_4] ∧ Ext w w_ := ⟨_, rfl⟩
  refine W_join R7 ?_ ?_
  ·
    refine W_block ?_
    obtain ⟨I7, hI7⟩ : ∃ I : Nat → Fr → World → Prop, I = fun n f w_ => ∃ i_6 : Int, whileL (s_l6Linear_b1 r_) n i_6 = some j7 ∧ f 1 = .pointer (some ⟨g3, 0, none⟩) ∧ f 3 = .int .i64 i_6 ∧ (RP.slice 3 RP.int).rel B w.heap.size w_ [v0_1] r_.vars ∧ (RP.slice 3 RP.int).rel B w.heap.size w_ [v0_2] r_.coefs ∧ (RP.slice 22 (RP.slice 3 RP.int)).rel B w.heap.size w_ [v0_4] r_.rows ∧ Blk w_ g3 68 #[.int .i64 r_.kind, v0_1, v0_2, .int .i64 r_.bound, v0_4] ∧ Ext w w_ := ⟨_, rfl⟩
    refine W_loop I7 (n := fu) ?_ ?_
    · rw [hI7]; exact ⟨0, hL7, rfl, rfl, h0_1, h0_2, h0_4, hb_g3, hx⟩
    ·
      intro n7 f w_ hI
      rw [hI7] at hI
      obtain ⟨i_6, hL7, sf1, sf3, h0_1, h0_2, h0_4, hb_g3, hx⟩ := hI
      cases n7 with
      | zero => exact (while_zero hL7).elim
      | succ n7 =>
        obtain ⟨o7, hB7, hL7⟩ := while_succ hL7
        rw [s_l6Linear_b1] at hB7
        refine W_seq ?_
        refine W_seq ?_
        refine W_region ?_
        refine L_mv (v := .int .i64 i_6) rfl sf3 ?_
        refine L_fa (o' := 2) rfl fa_68_2 sf1 rfl ?_
        refine L_ld (v := v0_2) rfl Try.isAgg22 rfl (hb_g3.cell (j := 2) rfl) ?_
        refine L_len (v := v0_2) rfl Try.underlying22 rfl h0_2 ?_
        refine L_lss (m := i_6) (n := (r_.coefs.length : Int)) rfl rfl rfl ?_
        refine L_nil ?_
        refine W_cond (b := decide (i_6 < (r_.coefs.length : Int))) rfl (fun hc8 => ?_) (fun hc8 => ?_)
        ·
          have hB7 := (ite_t hc8).symm.trans hB7
          refine W_skip ?_
          refine W_seq ?_
          refine W_block ?_
          refine W_seq ?_
          obtain ⟨x9, hx9, hB7⟩ := bind_some hB7
          obtain ⟨R16, hR16⟩ : ∃ R : Fr → World → Prop, R = fun f w_ => f 1 = .pointer (some ⟨g3, 0, none⟩) ∧ f 3 = .int .i64 i_6 ∧ f 32 = .bool (((decide (x9 < (-9))) || (decide (x9 > 9))) || (x9 == 0)) ∧ (RP.slice 3 RP.int).rel B w.heap.size w_ [v0_1] r_.vars ∧ (RP.slice 3 RP.int).rel B w.heap.size w_ [v0_2] r_.coefs ∧ (RP.slice 22 (RP.slice 3 RP.int)).rel B w.heap.size w_ [v0_4] r_.rows ∧ Blk w_ g3 68 #[.int .i64 r_.kind, v0_1, v0_2, .int .i64 r_.bound, v0_4] ∧ Ext w w_ := ⟨_, rfl⟩
          refine W_join R16 ?_ ?_
          ·
            refine W_region ?_
            refine L_fa (o' := 2) rfl fa_68_2 sf1 rfl ?_
            refine L_ld (v := v0_2) rfl Try.isAgg22 rfl (hb_g3.cell (j := 2) rfl) ?_
            refine L_mv (v := .int .i64 i_6) rfl sf3 ?_
            refine L_ix (r := RP.int) rfl Try.underlying22 Try.sizeOf3 rfl h0_2 rfl hx9 ?_
            intro g17 o18 cs18 hr18 hat18
            obtain rfl : _ = [_] := hr18
            refine L_ld (v := .int .i64 x9) rfl Try.isAgg3 rfl (hat18.cell (j := 0) rfl) ?_
            refine L_lss (m := x9) (n := (-9)) rfl rfl rfl ?_
            refine L_mv (v := .bool (decide (x9 < (-9)))) rfl rfl ?_
            refine L_split (d := 17) (b := decide (x9 < (-9))) rfl (fun hc19 => ?_) (fun hc19 => ?_)
            ·
              refine L_pass rfl ?_
              refine L_pass rfl ?_
              refine L_pass rfl ?_
              refine L_pass rfl ?_
              refine L_pass rfl ?_
              refine L_pass rfl ?_
              refine L_pick (v := .bool ((decide (x9 < (-9))) || (decide (x9 > 9)))) rfl rfl (or_t hc19) ?_
              refine L_mv (v := .bool ((decide (x9 < (-9))) || (decide (x9 > 9)))) rfl rfl ?_
              refine L_split (d := 25) (b := ((decide (x9 < (-9))) || (decide (x9 > 9)))) rfl (fun hc20 => ?_) (fun hc20 => ?_)
              ·
                refine L_pass rfl ?_
                refine L_pass rfl ?_
                refine L_pass rfl ?_
                refine L_pass rfl ?_
                refine L_pass rfl ?_
                refine L_pass rfl ?_
                refine L_pick (v := .bool (((decide (x9 < (-9))) || (decide (x9 > 9))) || (x9 == 0))) rfl rfl (or_t hc20) ?_
                refine L_nil ?_
                show R16 _ _
                rw [hR16]
                exact ⟨sf1, sf3, rfl, h0_1, h0_2, h0_4, hb_g3, hx⟩
              ·
                refine L_fa (o' := 2) rfl fa_68_2 sf1 rfl ?_
                refine L_ld (v := v0_2) rfl Try.isAgg22 rfl (hb_g3.cell (j := 2) rfl) ?_
                refine L_mv (v := .int .i64 i_6) rfl sf3 ?_
                refine L_ix (r := RP.int) rfl Try.underlying22 Try.sizeOf3 rfl h0_2 rfl hx9 ?_
                intro g21 o22 cs22 hr22 hat22
                obtain rfl : _ = [_] := hr22
                refine L_ld (v := .int .i64 x9) rfl Try.isAgg3 rfl (hat22.cell (j := 0) rfl) ?_
                refine L_eql (m := x9) (n := 0) rfl rfl rfl ?_
                refine L_pick (v := .bool (((decide (x9 < (-9))) || (decide (x9 > 9))) || (x9 == 0))) rfl rfl (or_f hc20 rfl) ?_
                refine L_nil ?_
                show R16 _ _
                rw [hR16]
                exact ⟨sf1, sf3, rfl, h0_1, h0_2, h0_4, hb_g3, hx⟩
            ·
              refine L_fa (o' := 2) rfl fa_68_2 sf1 rfl ?_
              refine L_ld (v := v0_2) rfl Try.isAgg22 rfl (hb_g3.cell (j := 2) rfl) ?_
              refine L_mv (v := .int .i64 i_6) rfl sf3 ?_
              refine L_ix (r := RP.int) rfl Try.underlying22 Try.sizeOf3 rfl h0_2 rfl hx9 ?_
              intro g23 o24 cs24 hr24 hat24
              obtain rfl : _ = [_] := hr24
              refine L_ld (v := .int .i64 x9) rfl Try.isAgg3 rfl (hat24.cell (j := 0) rfl) ?_
              refine L_gtr (m := x9) (n := 9) rfl rfl rfl ?_
              refine L_pick (v := .bool ((decide (x9 < (-9))) || (decide (x9 > 9)))) rfl rfl (or_f hc19 rfl) ?_
              refine L_mv (v := .bool ((decide (x9 < (-9))) || (decide (x9 > 9)))) rfl rfl ?_
              refine L_split (d := 25) (b := ((decide (x9 < (-9))) || (decide (x9 > 9)))) rfl (fun hc25 => ?_) (fun hc25 => ?_)
              ·
                refine L_pass rfl ?_
                refine L_pass rfl ?_
                refine L_pass rfl ?_
                refine L_pass rfl ?_
                refine L_pass rfl ?_
                refine L_pass rfl ?_
                refine L_pick (v := .bool (((decide (x9 < (-9))) || (decide (x9 > 9))) || (x9 == 0))) rfl rfl (or_t hc25) ?_
                refine L_nil ?_
                show R16 _ _
                rw [hR16]
                exact ⟨sf1, sf3, rfl, h0_1, h0_2, h0_4, hb_g3, hx⟩
              ·
                refine L_fa (o' := 2) rfl fa_68_2 sf1 rfl ?_
                refine L_ld (v := v0_2) rfl Try.isAgg22 rfl (hb_g3.cell (j := 2) rfl) ?_
                refine L_mv (v := .int .i64 i_6) rfl sf3 ?_
                refine L_ix (r := RP.int) rfl Try.underlying22 Try.sizeOf3 rfl h0_2 rfl hx9 ?_
                intro g26 o27 cs27 hr27 hat27
                obtain rfl : _ = [_] := hr27
                refine L_ld (v := .int .i64 x9) rfl Try.isAgg3 rfl (hat27.cell (j := 0) rfl) ?_
                refine L_eql (m := x9) (n := 0) rfl rfl rfl ?_
                refine L_pick (v := .bool (((decide (x9 < (-9))) || (decide (x9 > 9))) || (x9 == 0))) rfl rfl (or_f hc25 rfl) ?_
                refine L_nil ?_
                show R16 _ _
                rw [hR16]
                exact ⟨sf1, sf3, rfl, h0_1, h0_2, h0_4, hb_g3, hx⟩
          ·
            intro f w_ hR
            rw [hR16] at hR
            obtain ⟨sf1, sf3, sf32, h0_1, h0_2, h0_4, hb_g3, hx⟩ := hR
            clear hR16
            refine W_cond (b := (((decide (x9 < (-9))) || (decide (x9 > 9))) || (x9 == 0))) sf32 (fun hc28 => ?_) (fun hc28 => ?_)
            ·
              have hB7 := (ite_t hc28).symm.trans hB7
              refine W_seq ?_
              refine W_region ?_
              refine L_as (v := .bool false) rfl rfl ?_
              refine L_nil ?_
              refine W_ret ?_
              obtain rfl := so hB7
              obtain rfl := so hL7
              obtain rfl := so hF
              refine ret1 Try.results80 ?_
              exact ⟨rfl, hx⟩
            ·
              have hB7 := (ite_f hc28).symm.trans hB7
              refine W_skip ?_
              refine W_region ?_
              refine L_mv (v := .int .i64 i_6) rfl sf3 ?_
              refine L_add (m := i_6) (n := 1) rfl rfl rfl ?_
              refine L_as (v := .int .i64 (i64 (i_6 + 1))) rfl rfl ?_
              refine L_nil ?_
              obtain rfl := so hB7
              show ∃ m, m < _ ∧ I7 m _ _
              refine ⟨n7, Nat.lt_succ_self _, ?_⟩
              rw [hI7]
              exact ⟨i64 (i_6 + 1), hL7, sf1, rfl, h0_1, h0_2, h0_4, hb_g3, hx⟩
        ·
          have hB7 := (ite_f hc8).symm.trans hB7
          refine W_exit ?_
          obtain rfl := so hB7
          obtain rfl := so hL7
          show R7 _ _
          rw [hR7]
          exact ⟨i_6, rfl, sf1, h0_1, h0_2, h0_4, hb_g3, hx⟩
  ·
    intro f w_ hR
    rw [hR7] at hR
    obtain ⟨i_6, rfl, sf1, h0_1, h0_2, h0_4, hb_g3, hx⟩ := hR
    clear hR7
    refine W_seq ?_
    obtain ⟨R29, hR29⟩ : ∃ R : Fr → World → Prop, R = fun f w_ => f 2 = .bool ((((r_.coefs.length : Int) == (r_.vars.length : Int)) && (decide (r_.bound ≥ (-1000)))) && (decide (r_.bound ≤ 1000))) ∧ Ext w w_ := ⟨_, rfl⟩
    refine W_join R29 ?_ ?_
    ·
      refine W_region ?_
      refine L_fa (o' := 2) rfl fa_68_2 sf1 rfl ?_
      refine L_ld (v := v0_2) rfl Try.isAgg22 rfl (hb_g3.cell (j := 2) rfl) ?_
      refine L_len (v := v0_2) rfl Try.underlying22 rfl h0_2 ?_
      refine L_fa (o' := 1) rfl fa_68_1 sf1 rfl ?_
      refine L_ld (v := v0_1) rfl Try.isAgg22 rfl (hb_g3.cell (j := 1) rfl) ?_
      refine L_len (v := v0_1) rfl Try.underlying22 rfl h0_1 ?_
      refine L_eql (m := (r_.coefs.length : Int)) (n := (r_.vars.length : Int)) rfl rfl rfl ?_
      refine L_mv (v := .bool ((r_.coefs.length : Int) == (r_.vars.length : Int))) rfl rfl ?_
      refine L_split (d := 40) (b := ((r_.coefs.length : Int) == (r_.vars.length : Int))) rfl (fun hc30 => ?_) (fun hc30 => ?_)
      ·
        refine L_fa (o' := 3) rfl fa_68_3 sf1 rfl ?_
        refine L_ld (v := .int .i64 r_.bound) rfl Try.isAgg3 rfl (hb_g3.cell (j := 3) rfl) ?_
        refine L_geq (m := r_.bound) (n := (-1000)) rfl rfl rfl ?_
        refine L_pick (v := .bool (((r_.coefs.length : Int) == (r_.vars.length : Int)) && (decide (r_.bound ≥ (-1000))))) rfl rfl (and_t hc30 rfl) ?_
        refine L_mv (v := .bool (((r_.coefs.length : Int) == (r_.vars.length : Int)) && (decide (r_.bound ≥ (-1000))))) rfl rfl ?_
        refine L_split (d := 45) (b := (((r_.coefs.length : Int) == (r_.vars.length : Int)) && (decide (r_.bound ≥ (-1000))))) rfl (fun hc31 => ?_) (fun hc31 => ?_)
        ·
          refine L_fa (o' := 3) rfl fa_68_3 sf1 rfl ?_
          refine L_ld (v := .int .i64 r_.bound) rfl Try.isAgg3 rfl (hb_g3.cell (j := 3) rfl) ?_
          refine L_leq (m := r_.bound) (n := 1000) rfl rfl rfl ?_
          refine L_pick (v := .bool ((((r_.coefs.length : Int) == (r_.vars.length : Int)) && (decide (r_.bound ≥ (-1000)))) && (decide (r_.bound ≤ 1000)))) rfl rfl (and_t hc31 rfl) ?_
          refine L_as (v := .bool ((((r_.coefs.length : Int) == (r_.vars.length : Int)) && (decide (r_.bound ≥ (-1000)))) && (decide (r_.bound ≤ 1000)))) rfl rfl ?_
          refine L_nil ?_
          show R29 _ _
          rw [hR29]
          exact ⟨rfl, hx⟩
        ·
          refine L_pass rfl ?_
          refine L_pass rfl ?_
          refine L_pass rfl ?_
          refine L_pick (v := .bool ((((r_.coefs.length : Int) == (r_.vars.length : Int)) && (decide (r_.bound ≥ (-1000)))) && (decide (r_.bound ≤ 1000)))) rfl rfl (and_f hc31) ?_
          refine L_as (v := .bool ((((r_.coefs.length : Int) == (r_.vars.length : Int)) && (decide (r_.bound ≥ (-1000)))) && (decide (r_.bound ≤ 1000)))) rfl rfl ?_
          refine L_nil ?_
          show R29 _ _
          rw [hR29]
          exact ⟨rfl, hx⟩
      ·
        refine L_pass rfl ?_
        refine L_pass rfl ?_
        refine L_pass rfl ?_
        refine L_pick (v := .bool (((r_.coefs.length : Int) == (r_.vars.length : Int)) && (decide (r_.bound ≥ (-1000))))) rfl rfl (and_f hc30) ?_
        refine L_mv (v := .bool (((r_.coefs.length : Int) == (r_.vars.length : Int)) && (decide (r_.bound ≥ (-1000))))) rfl rfl ?_
        refine L_split (d := 45) (b := (((r_.coefs.length : Int) == (r_.vars.length : Int)) && (decide (r_.bound ≥ (-1000))))) rfl (fun hc32 => ?_) (fun hc32 => ?_)
        ·
          refine L_fa (o' := 3) rfl fa_68_3 sf1 rfl ?_
          refine L_ld (v := .int .i64 r_.bound) rfl Try.isAgg3 rfl (hb_g3.cell (j := 3) rfl) ?_
          refine L_leq (m := r_.bound) (n := 1000) rfl rfl rfl ?_
          refine L_pick (v := .bool ((((r_.coefs.length : Int) == (r_.vars.length : Int)) && (decide (r_.bound ≥ (-1000)))) && (decide (r_.bound ≤ 1000)))) rfl rfl (and_t hc32 rfl) ?_
          refine L_as (v := .bool ((((r_.coefs.length : Int) == (r_.vars.length : Int)) && (decide (r_.bound ≥ (-1000)))) && (decide (r_.bound ≤ 1000)))) rfl rfl ?_
          refine L_nil ?_
          show R29 _ _
          rw [hR29]
          exact ⟨rfl, hx⟩
        ·
          refine L_pass rfl ?_
          refine L_pass rfl ?_
          refine L_pass rfl ?_
          refine L_pick (v := .bool ((((r_.coefs.length : Int) == (r_.vars.length : Int)) && (decide (r_.bound ≥ (-1000)))) && (decide (r_.bound ≤ 1000)))) rfl rfl (and_f hc32) ?_
          refine L_as (v := .bool ((((r_.coefs.length : Int) == (r_.vars.length : Int)) && (decide (r_.bound ≥ (-1000)))) && (decide (r_.bound ≤ 1000)))) rfl rfl ?_
          refine L_nil ?_
          show R29 _ _
          rw [hR29]
          exact ⟨rfl, hx⟩
    ·
      intro f w_ hR
      rw [hR29] at hR
      obtain ⟨sf2, hx⟩ := hR
      clear hR29
      refine W_ret ?_
      obtain rfl := so hF
      refine ret1 Try.results80 ?_
      exact ⟨sf2, hx⟩

theorem s_l6Table_c {fu : Nat} {r_ : Rule} {v0_1 : Value} {v0_2 : Value} {v0_4 : Value} {w : World} {B : Nat} (hB : B ≤ w.heap.size) (h0_1 : (RP.slice 3 RP.int).rel B w.heap.size w [v0_1] r_.vars) (h0_2 : (RP.slice 3 RP.int).rel B w.heap.size w [v0_2] r_.coefs) (h0_4 : (RP.slice 22 (RP.slice 3 RP.int)).rel B w.heap.size w [v0_4] r_.rows) {r : Bool} (hF : s_l6Table fu r_ = some r) :
    C Try.prog 81 #[.agg #[.int .i64 r_.kind, v0_1, v0_2, .int .i64 r_.bound, v0_4]] w fun v w' => (v = .bool r) ∧ Ext w w' := by
  unfold s_l6Table at hF
  have hx := ext_refl w
  refine C_enter Try.func81 rfl Try.ntmps81 rfl ?_
  refine W_seq ?_
  refine W_region ?_
  refine L_box (v := .agg #[.int .i64 r_.kind, v0_1, v0_2, .int .i64 r_.bound, v0_4]) (cs := #[.int .i64 r_.kind, v0_1, v0_2, .int .i64 r_.bound, v0_4]) rfl rfl rfl ?_
  intro g3 w4 hn4
  have hge_g3 := hn4.ge hx
  have hb_g3 := hn4.blk
  have h0_1 := RP.ext h0_1 hn4.ext
  have h0_2 := RP.ext h0_2 hn4.ext
  have h0_4 := RP.ext h0_4 hn4.ext
  have hx := ext_trans hx hn4.ext
  refine L_as (v := .bool false) rfl rfl ?_
  refine L_nil ?_
  refine W_seq ?_
  refine W_seq ?_
  refine W_region ?_
  refine L_as (v := .int .i64 0) rfl rfl ?_
  refine L_nil ?_
  obtain ⟨j7, hL7, hF⟩ := bind_some hF
  obtain ⟨R7, hR7⟩ : ∃ R : Fr → World → Prop, R = fun f w_ => ∃ i_6 : Int, j7 = .nx i_6 ∧ f 1 = .pointer (some ⟨g3, 0, none⟩) ∧ (RP.slice 3 RP.int).rel B w.heap.size w_ [v0_1] r_.vars ∧ (RP.slice 3 RP.int).rel B w.heap.size w_ [v0_2] r_.coefs ∧ (RP.slice 22 (RP.slice 3 RP.int)).rel B w.heap.size w_ [v0_4] r_.rows ∧ Blk w_ g3 68 #[.int .i64 r_.kind, v0_1, v0_2, .int .i64 r_.bound, v0_4] ∧ Ext w w_ := ⟨_, rfl⟩
  refine W_join R7 ?_ ?_
  ·
    refine W_block ?_
    obtain ⟨I7, hI7⟩ : ∃ I : Nat → Fr → World → Prop, I = fun n f w_ => ∃ i_6 : Int, whileL (s_l6Table_b1 fu r_) n i_6 = some j7 ∧ f 1 = .pointer (some ⟨g3, 0, none⟩) ∧ f 3 = .int .i64 i_6 ∧ (RP.slice 3 RP.int).rel B w.heap.size w_ [v0_1] r_.vars ∧ (RP.slice 3 RP.int).rel B w.heap.size w_ [v0_2] r_.coefs ∧ (RP.slice 22 (RP.slice 3 RP.int)).rel B w.heap.size w_ [v0_4] r_.rows ∧ Blk w_ g3 68 #[.int .i64 r_.kind, v0_1, v0_2, .int .i64 r_.bound, v0_4] ∧ Ext w w_ := ⟨_, rfl⟩
    refine W_loop I7 (n := fu) ?_ ?_
    · rw [hI7]; exact ⟨0, hL7, rfl, rfl, h0_1, h0_2, h0_4, hb_g3, hx⟩
    ·
      intro n7 f w_ hI
      rw [hI7] at hI
      obtain ⟨i_6, hL7, sf1, sf3, h0_1, h0_2, h0_4, hb_g3, hx⟩ := hI
      cases n7 with
      | zero => exact (while_zero hL7).elim
      | succ n7 =>
        obtain ⟨o7, hB7, hL7⟩ := while_succ hL7
        rw [s_l6Table_b1] at hB7
        refine W_seq ?_
        refine W_seq ?_
        refine W_region ?_
        refine L_mv (v := .int .i64 i_6) rfl sf3 ?_
        refine L_fa (o' := 4) rfl fa_68_4 sf1 rfl ?_
        refine L_ld (v := v0_4) rfl Try.isAgg66 rfl (hb_g3.cell (j := 4) rfl) ?_
        refine L_len (v := v0_4) rfl Try.underlying66 rfl h0_4 ?_
        refine L_lss (m := i_6) (n := (r_.rows.length : Int)) rfl rfl rfl ?_
        refine L_nil ?_
        refine W_cond (b := decide (i_6 < (r_.rows.length : Int))) rfl (fun hc8 => ?_) (fun hc8 => ?_)
        ·
          have hB7 := (ite_t hc8).symm.trans hB7
          refine W_skip ?_
          refine W_seq ?_
          refine W_block ?_
          refine W_seq ?_
          refine W_seq ?_
          obtain ⟨x9, hx9, hB7⟩ := bind_some hB7
          refine W_drawL 9 [isV (.pointer (some ⟨g3, 4, none⟩)), isV (v0_4), isV (.int .i64 i_6), isEl B (RP.slice 3 RP.int) x9 0, isData B (RP.slice 3 RP.int) x9, isV (.int .i64 (x9.length : Int)), isV (.pointer (some ⟨g3, 1, none⟩)), isV (v0_1), isV (.int .i64 (r_.vars.length : Int))] Try_mix (by kernel_rfl) (am_cons (mono_V _) (am_cons (mono_V _) (am_cons (mono_V _) (am_cons (mono_el _ _ _ _) (am_cons (mono_data _ _ _) (am_cons (mono_V _) (am_cons (mono_V _) (am_cons (mono_V _) (am_cons (mono_V _) am_nil))))))))) ?_ (fun f w_ hS hE hT => ?_)
          ·
            refine ops_cons (fun f w_ hS hE hP => ?_) ?_
            ·
              have hx := ext_trans hx hE
              have h0_1 := RP.ext h0_1 hE
              have h0_2 := RP.ext h0_2 hE
              have h0_4 := RP.ext h0_4 hE
              have hb_g3 := Blk.ext hb_g3 hE
              refine L_fa (o' := 4) rfl fa_68_4 ((hS 1 rfl).trans sf1) rfl ?_
              exact L_nil ⟨rfl, (ext_refl _), _, _, rfl, rfl, rfl⟩
            refine ops_cons (fun f w_ hS hE hP => ?_) ?_
            ·
              have hx := ext_trans hx hE
              have h0_1 := RP.ext h0_1 hE
              have h0_2 := RP.ext h0_2 hE
              have h0_4 := RP.ext h0_4 hE
              have hb_g3 := Blk.ext hb_g3 hE
              refine L_ld (v := v0_4) rfl Try.isAgg66 (hP 0 12 rfl rfl) (hb_g3.cell (j := 4) rfl) ?_
              exact L_nil ⟨rfl, (ext_refl _), _, _, rfl, rfl, rfl⟩
            refine ops_cons (fun f w_ hS hE hP => ?_) ?_
            ·
              have hx := ext_trans hx hE
              refine L_mv (v := .int .i64 i_6) rfl ((hS 3 rfl).trans sf3) ?_
              exact L_nil ⟨rfl, (ext_refl _), _, _, rfl, rfl, rfl⟩
            refine ops_cons (fun f w_ hS hE hP => ?_) ?_
            ·
              have hx := ext_trans hx hE
              have h0_4 := RP.ext h0_4 hE
              refine L_ix (r := (RP.slice 3 RP.int)) rfl Try.underlying66 Try.sizeOf22 (hP 1 13 rfl rfl) h0_4 (hP 2 14 rfl rfl) hx9 ?_
              intro g14 o15 cs15 hr15 hat15
              obtain ⟨u15, rfl, hu15⟩ := slice1 hr15
              exact L_nil ⟨rfl, (ext_refl _), _, _, rfl, rfl, ⟨_, _, _, rfl, (rel0 hr15), hat15⟩⟩
            refine ops_cons (fun f w_ hS hE hP => ?_) ?_
            ·
              have hx := ext_trans hx hE
              obtain ⟨g16, o16, cs16, hv16, hr16, hat16⟩ := (hP 3 15 rfl rfl)
              obtain ⟨u16, rfl, hu16⟩ := slice1 hr16
              refine L_ld (v := u16) rfl Try.isAgg22 hv16 (hat16.cell (j := 0) rfl) ?_
              exact L_nil ⟨rfl, (ext_refl _), _, _, rfl, rfl, (rel0 hu16)⟩
            refine ops_cons (fun f w_ hS hE hP => ?_) ?_
            ·
              have hx := ext_trans hx hE
              have hd17 := (hP 4 16 rfl rfl)
              refine L_len (v := (f 16)) rfl Try.underlying22 rfl hd17 ?_
              exact L_nil ⟨rfl, (ext_refl _), _, _, rfl, rfl, rfl⟩
            refine ops_cons (fun f w_ hS hE hP => ?_) ?_
            ·
              have hx := ext_trans hx hE
              have h0_1 := RP.ext h0_1 hE
              have h0_2 := RP.ext h0_2 hE
              have h0_4 := RP.ext h0_4 hE
              have hb_g3 := Blk.ext hb_g3 hE
              refine L_fa (o' := 1) rfl fa_68_1 ((hS 1 rfl).trans sf1) rfl ?_
              exact L_nil ⟨rfl, (ext_refl _), _, _, rfl, rfl, rfl⟩
            refine ops_cons (fun f w_ hS hE hP => ?_) ?_
            ·
              have hx := ext_trans hx hE
              have h0_1 := RP.ext h0_1 hE
              have h0_2 := RP.ext h0_2 hE
              have h0_4 := RP.ext h0_4 hE
              have hb_g3 := Blk.ext hb_g3 hE
              refine L_ld (v := v0_1) rfl Try.isAgg22 (hP 6 18 rfl rfl) (hb_g3.cell (j := 1) rfl) ?_
              exact L_nil ⟨rfl, (ext_refl _), _, _, rfl, rfl, rfl⟩
            refine ops_cons (fun f w_ hS hE hP => ?_) ?_
            ·
              have hx := ext_trans hx hE
              have h0_1 := RP.ext h0_1 hE
              refine L_len (v := v0_1) rfl Try.underlying22 (hP 7 19 rfl rfl) h0_1 ?_
              exact L_nil ⟨rfl, (ext_refl _), _, _, rfl, rfl, rfl⟩
            exact ops_nil
          ·
            have h0_1 := RP.ext h0_1 hE
            have h0_2 := RP.ext h0_2 hE
            have h0_4 := RP.ext h0_4 hE
            have hb_g3 := Blk.ext hb_g3 hE
            have hx := ext_trans hx hE
            refine L_neq (m := (x9.length : Int)) (n := (r_.vars.length : Int)) rfl (hT 5 17 rfl rfl) (hT 8 20 rfl rfl) ?_
            refine L_nil ?_
            refine W_cond (b := ((x9.length : Int) != (r_.vars.length : Int))) rfl (fun hc18 => ?_) (fun hc18 => ?_)
            ·
              have hB7 := (ite_t hc18).symm.trans hB7
              refine W_seq ?_
              refine W_region ?_
              refine L_as (v := .bool false) rfl rfl ?_
              refine L_nil ?_
              refine W_ret ?_
              obtain rfl := so hB7
              obtain rfl := so hL7
              obtain rfl := so hF
              refine ret1 Try.results81 ?_
              exact ⟨rfl, hx⟩
            ·
              have hB7 := (ite_f hc18).symm.trans hB7
              refine W_skip ?_
              refine W_seq ?_
              refine W_region ?_
              refine L_as (v := .int .i64 0) rfl rfl ?_
              refine L_nil ?_
              obtain ⟨j21, hL21, hB7⟩ := bind_some hB7
              obtain ⟨R21, hR21⟩ : ∃ R : Fr → World → Prop, R = fun f w_ => ∃ k_20 : Int, j21 = .nx k_20 ∧ f 1 = .pointer (some ⟨g3, 0, none⟩) ∧ f 3 = .int .i64 i_6 ∧ (RP.slice 3 RP.int).rel B w.heap.size w_ [v0_1] r_.vars ∧ (RP.slice 3 RP.int).rel B w.heap.size w_ [v0_2] r_.coefs ∧ (RP.slice 22 (RP.slice 3 RP.int)).rel B w.heap.size w_ [v0_4] r_.rows ∧ Blk w_ g3 68 #[.int .i64 r_.kind, v0_1, v0_2, .int .i64 r_.bound, v0_4] ∧ Ext w w_ := ⟨_, rfl⟩
              refine W_join R21 ?_ ?_
              ·
                refine W_block ?_
                obtain ⟨I21, hI21⟩ : ∃ I : Nat → Fr → World → Prop, I = fun n f w_ => ∃ k_20 : Int, whileL (s_l6Table_b2 x9) n k_20 = some j21 ∧ f 1 = .pointer (some ⟨g3, 0, none⟩) ∧ f 3 = .int .i64 i_6 ∧ f 4 = .int .i64 k_20 ∧ (RP.slice 3 RP.int).rel B w.heap.size w_ [v0_1] r_.vars ∧ (RP.slice 3 RP.int).rel B w.heap.size w_ [v0_2] r_.coefs ∧ (RP.slice 22 (RP.slice 3 RP.int)).rel B w.heap.size w_ [v0_4] r_.rows ∧ Blk w_ g3 68 #[.int .i64 r_.kind, v0_1, v0_2, .int .i64 r_.bound, v0_4] ∧ Ext w w_ := ⟨_, rfl⟩
                refine W_loop I21 (n := fu) ?_ ?_
                · rw [hI21]; exact ⟨0, hL21, ((hS 1 rfl).trans sf1), ((hS 3 rfl).trans sf3), rfl, h0_1, h0_2, h0_4, hb_g3, hx⟩
                ·
                  intro n21 f w_ hI
                  rw [hI21] at hI
                  obtain ⟨k_20, hL21, sf1, sf3, sf4, h0_1, h0_2, h0_4, hb_g3, hx⟩ := hI
                  cases n21 with
                  | zero => exact (while_zero hL21).elim
                  | succ n21 =>
                    obtain ⟨o21, hB21, hL21⟩ := while_succ hL21
                    rw [s_l6Table_b2] at hB21
                    refine W_seq ?_
                    refine W_seq ?_
                    refine W_region ?_
                    refine L_mv (v := .int .i64 k_20) rfl sf4 ?_
                    refine L_fa (o' := 4) rfl fa_68_4 sf1 rfl ?_
                    refine L_ld (v := v0_4) rfl Try.isAgg66 rfl (hb_g3.cell (j := 4) rfl) ?_
                    refine L_mv (v := .int .i64 i_6) rfl sf3 ?_
                    refine L_ix (r := (RP.slice 3 RP.int)) rfl Try.underlying66 Try.sizeOf22 rfl h0_4 rfl hx9 ?_
                    intro g24 o25 cs25 hr25 hat25
                    obtain ⟨u25, rfl, hu25⟩ := slice1 hr25
                    refine L_ld (v := u25) rfl Try.isAgg22 rfl (hat25.cell (j := 0) rfl) ?_
                    refine L_len (v := u25) rfl Try.underlying22 rfl hu25 ?_
                    refine L_lss (m := k_20) (n := (x9.length : Int)) rfl rfl rfl ?_
                    refine L_nil ?_
                    refine W_cond (b := decide (k_20 < (x9.length : Int))) rfl (fun hc26 => ?_) (fun hc26 => ?_)
                    ·
                      have hB21 := (ite_t hc26).symm.trans hB21
                      refine W_skip ?_
                      refine W_seq ?_
                      refine W_block ?_
                      refine W_seq ?_
                      obtain ⟨x29, hx29, hB21⟩ := bind_some hB21
                      obtain ⟨R36, hR36⟩ : ∃ R : Fr → World → Prop, R = fun f w_ => f 1 = .pointer (some ⟨g3, 0, none⟩) ∧ f 3 = .int .i64 i_6 ∧ f 4 = .int .i64 k_20 ∧ f 51 = .bool ((decide (x29 < 0)) || (decide (x29 > 3))) ∧ (RP.slice 3 RP.int).rel B w.heap.size w_ [v0_1] r_.vars ∧ (RP.slice 3 RP.int).rel B w.heap.size w_ [v0_2] r_.coefs ∧ (RP.slice 22 (RP.slice 3 RP.int)).rel B w.heap.size w_ [v0_4] r_.rows ∧ Blk w_ g3 68 #[.int .i64 r_.kind, v0_1, v0_2, .int .i64 r_.bound, v0_4] ∧ Ext w w_ := ⟨_, rfl⟩
                      refine W_join R36 ?_ ?_
                      ·
                        refine W_region ?_
                        refine L_fa (o' := 4) rfl fa_68_4 sf1 rfl ?_
                        refine L_ld (v := v0_4) rfl Try.isAgg66 rfl (hb_g3.cell (j := 4) rfl) ?_
                        refine L_mv (v := .int .i64 i_6) rfl sf3 ?_
                        refine L_ix (r := (RP.slice 3 RP.int)) rfl Try.underlying66 Try.sizeOf22 rfl h0_4 rfl hx9 ?_
                        intro g37 o38 cs38 hr38 hat38
                        obtain ⟨u38, rfl, hu38⟩ := slice1 hr38
                        refine L_ld (v := u38) rfl Try.isAgg22 rfl (hat38.cell (j := 0) rfl) ?_
                        refine L_mv (v := .int .i64 k_20) rfl sf4 ?_
                        refine L_ix (r := RP.int) rfl Try.underlying22 Try.sizeOf3 rfl hu38 rfl hx29 ?_
                        intro g39 o40 cs40 hr40 hat40
                        obtain rfl : _ = [_] := hr40
                        refine L_ld (v := .int .i64 x29) rfl Try.isAgg3 rfl (hat40.cell (j := 0) rfl) ?_
                        refine L_lss (m := x29) (n := 0) rfl rfl rfl ?_
                        refine L_mv (v := .bool (decide (x29 < 0))) rfl rfl ?_
                        refine L_split (d := 41) (b := decide (x29 < 0)) rfl (fun hc41 => ?_) (fun hc41 => ?_)
                        ·
                          refine L_pass rfl ?_
                          refine L_pass rfl ?_
                          refine L_pass rfl ?_
                          refine L_pass rfl ?_
                          refine L_pass rfl ?_
                          refine L_pass rfl ?_
                          refine L_pass rfl ?_
                          refine L_pass rfl ?_
                          refine L_pass rfl ?_
                          refine L_pick (v := .bool ((decide (x29 < 0)) || (decide (x29 > 3)))) rfl rfl (or_t hc41) ?_
                          refine L_nil ?_
                          show R36 _ _
                          rw [hR36]
                          exact ⟨sf1, sf3, sf4, rfl, h0_1, h0_2, h0_4, hb_g3, hx⟩
                        ·
                          refine L_fa (o' := 4) rfl fa_68_4 sf1 rfl ?_
                          refine L_ld (v := v0_4) rfl Try.isAgg66 rfl (hb_g3.cell (j := 4) rfl) ?_
                          refine L_mv (v := .int .i64 i_6) rfl sf3 ?_
                          refine L_ix (r := (RP.slice 3 RP.int)) rfl Try.underlying66 Try.sizeOf22 rfl h0_4 rfl hx9 ?_
                          intro g42 o43 cs43 hr43 hat43
                          obtain ⟨u43, rfl, hu43⟩ := slice1 hr43
                          refine L_ld (v := u43) rfl Try.isAgg22 rfl (hat43.cell (j := 0) rfl) ?_
                          refine L_mv (v := .int .i64 k_20) rfl sf4 ?_
                          refine L_ix (r := RP.int) rfl Try.underlying22 Try.sizeOf3 rfl hu43 rfl hx29 ?_
                          intro g44 o45 cs45 hr45 hat45
                          obtain rfl : _ = [_] := hr45
                          refine L_ld (v := .int .i64 x29) rfl Try.isAgg3 rfl (hat45.cell (j := 0) rfl) ?_
                          refine L_gtr (m := x29) (n := 3) rfl rfl rfl ?_
                          refine L_pick (v := .bool ((decide (x29 < 0)) || (decide (x29 > 3)))) rfl rfl (or_f hc41 rfl) ?_
                          refine L_nil ?_
                          show R36 _ _
                          rw [hR36]
                          exact ⟨sf1, sf3, sf4, rfl, h0_1, h0_2, h0_4, hb_g3, hx⟩
                      ·
                        intro f w_ hR
                        rw [hR36] at hR
                        obtain ⟨sf1, sf3, sf4, sf51, h0_1, h0_2, h0_4, hb_g3, hx⟩ := hR
                        clear hR36
                        refine W_cond (b := ((decide (x29 < 0)) || (decide (x29 > 3)))) sf51 (fun hc46 => ?_) (fun hc46 => ?_)
                        ·
                          have hB21 := (ite_t hc46).symm.trans hB21
                          refine W_seq ?_
                          refine W_region ?_
                          refine L_as (v := .bool false) rfl rfl ?_
                          refine L_nil ?_
                          refine W_ret ?_
                          obtain rfl := so hB21
                          obtain rfl := so hL21
                          obtain rfl := so hB7
                          obtain rfl := so hL7
                          obtain rfl := so hF
                          refine ret1 Try.results81 ?_
                          exact ⟨rfl, hx⟩
                        ·
                          have hB21 := (ite_f hc46).symm.trans hB21
                          refine W_skip ?_
                          refine W_region ?_
                          refine L_mv (v := .int .i64 k_20) rfl sf4 ?_
                          refine L_add (m := k_20) (n := 1) rfl rfl rfl ?_
                          refine L_as (v := .int .i64 (i64 (k_20 + 1))) rfl rfl ?_
                          refine L_nil ?_
                          obtain rfl := so hB21
                          show ∃ m, m < _ ∧ I21 m _ _
                          refine ⟨n21, Nat.lt_succ_self _, ?_⟩
                          rw [hI21]
                          exact ⟨i64 (k_20 + 1), hL21, sf1, sf3, rfl, h0_1, h0_2, h0_4, hb_g3, hx⟩
                    ·
                      have hB21 := (ite_f hc26).symm.trans hB21
                      refine W_exit ?_
                      obtain rfl := so hB21
                      obtain rfl := so hL21
                      show R21 _ _
                      rw [hR21]
                      exact ⟨k_20, rfl, sf1, sf3, h0_1, h0_2, h0_4, hb_g3, hx⟩
              ·
                intro f w_ hR
                rw [hR21] at hR
                obtain ⟨k_20, rfl, sf1, sf3, h0_1, h0_2, h0_4, hb_g3, hx⟩ := hR
                clear hR21
                refine W_region ?_
                refine L_mv (v := .int .i64 i_6) rfl sf3 ?_
                refine L_add (m := i_6) (n := 1) rfl rfl rfl ?_
                refine L_as (v := .int .i64 (i64 (i_6 + 1))) rfl rfl ?_
                refine L_nil ?_
                obtain rfl := so hB7
                show ∃ m, m < _ ∧ I7 m _ _
                refine ⟨n7, Nat.lt_succ_self _, ?_⟩
                rw [hI7]
                exact ⟨i64 (i_6 + 1), hL7, sf1, rfl, h0_1, h0_2, h0_4, hb_g3, hx⟩
        ·
          have hB7 := (ite_f hc8).symm.trans hB7
          refine W_exit ?_
          obtain rfl := so hB7
          obtain rfl := so hL7
          show R7 _ _
          rw [hR7]
          exact ⟨i_6, rfl, sf1, h0_1, h0_2, h0_4, hb_g3, hx⟩
  ·
    intro f w_ hR
    rw [hR7] at hR
    obtain ⟨i_6, rfl, sf1, h0_1, h0_2, h0_4, hb_g3, hx⟩ := hR
    clear hR7
    refine W_seq ?_
    refine W_region ?_
    refine L_fa (o' := 4) rfl fa_68_4 sf1 rfl ?_
    refine L_ld (v := v0_4) rfl Try.isAgg66 rfl (hb_g3.cell (j := 4) rfl) ?_
    refine L_len (v := v0_4) rfl Try.underlying66 rfl h0_4 ?_
    refine L_leq (m := (r_.rows.length : Int)) (n := 8) rfl rfl rfl ?_
    refine L_as (v := .bool (decide ((r_.rows.length : Int) ≤ 8))) rfl rfl ?_
    refine L_nil ?_
    refine W_ret ?_
    obtain rfl := so hF
    refine ret1 Try.results81 ?_
    exact ⟨rfl, hx⟩

theorem s_l6Rule_c {fu : Nat} {m : Model} {r_ : Rule} {v0_0 : Value} {v0_1 : Value} {v1_1 : Value} {v1_2 : Value} {v1_4 : Value} {w : World} {B : Nat} (hB : B ≤ w.heap.size) (h0_0 : (RP.slice 3 RP.int).rel B w.heap.size w [v0_0] m.sizes) (h0_1 : (RP.slice 68 (rRule 3 22)).rel B w.heap.size w [v0_1] m.rules) (h1_1 : (RP.slice 3 RP.int).rel B w.heap.size w [v1_1] r_.vars) (h1_2 : (RP.slice 3 RP.int).rel B w.heap.size w [v1_2] r_.coefs) (h1_4 : (RP.slice 22 (RP.slice 3 RP.int)).rel B w.heap.size w [v1_4] r_.rows) {r : Bool} (hF : s_l6Rule fu m r_ = some r) :
    C Try.prog 66 #[.agg #[v0_0, v0_1], .agg #[.int .i64 r_.kind, v1_1, v1_2, .int .i64 r_.bound, v1_4]] w fun v w' => (v = .bool r) ∧ Ext w w' := by
  unfold s_l6Rule at hF
  have hx := ext_refl w
  refine C_enter Try.func66 rfl Try.ntmps66 rfl ?_
  refine W_seq ?_
  refine W_region ?_
  refine L_box (v := .agg #[v0_0, v0_1]) (cs := #[v0_0, v0_1]) rfl rfl rfl ?_
  intro g5 w6 hn6
  have hge_g5 := hn6.ge hx
  have hb_g5 := hn6.blk
  have h0_0 := RP.ext h0_0 hn6.ext
  have h0_1 := RP.ext h0_1 hn6.ext
  have h1_1 := RP.ext h1_1 hn6.ext
  have h1_2 := RP.ext h1_2 hn6.ext
  have h1_4 := RP.ext h1_4 hn6.ext
  have hx := ext_trans hx hn6.ext
  refine L_box (v := .agg #[.int .i64 r_.kind, v1_1, v1_2, .int .i64 r_.bound, v1_4]) (cs := #[.int .i64 r_.kind, v1_1, v1_2, .int .i64 r_.bound, v1_4]) rfl rfl rfl ?_
  intro g7 w8 hn8
  have hge_g7 := hn8.ge hx
  have hb_g7 := hn8.blk
  have h0_0 := RP.ext h0_0 hn8.ext
  have h0_1 := RP.ext h0_1 hn8.ext
  have h1_1 := RP.ext h1_1 hn8.ext
  have h1_2 := RP.ext h1_2 hn8.ext
  have h1_4 := RP.ext h1_4 hn8.ext
  have hb_g5 := Blk.ext hb_g5 hn8.ext
  have hx := ext_trans hx hn8.ext
  refine L_as (v := .bool false) rfl rfl ?_
  refine L_nil ?_
  refine W_seq ?_
  refine W_seq ?_
  obtain ⟨x9, hx9, hF⟩ := bind_some hF
  obtain ⟨R11, hR11⟩ : ∃ R : Fr → World → Prop, R = fun f w_ => f 3 = .pointer (some ⟨g7, 0, none⟩) ∧ f 36 = .bool (((!x9) || ((r_.kind != 1) && (((r_.coefs.length : Int) != 0) || (r_.bound != 0)))) || ((r_.kind != 3) && ((r_.rows.length : Int) != 0))) ∧ (RP.slice 3 RP.int).rel B w.heap.size w_ [v1_1] r_.vars ∧ (RP.slice 3 RP.int).rel B w.heap.size w_ [v1_2] r_.coefs ∧ (RP.slice 22 (RP.slice 3 RP.int)).rel B w.heap.size w_ [v1_4] r_.rows ∧ Blk w_ g7 68 #[.int .i64 r_.kind, v1_1, v1_2, .int .i64 r_.bound, v1_4] ∧ Ext w w_ := ⟨_, rfl⟩
  refine W_join R11 ?_ ?_
  ·
    refine W_region ?_
    refine L_lda (cs := [v0_0, v0_1]) rfl Try.isAgg30 Try.sizeOf30 rfl (Blk.sub hb_g5 0 2) rfl ?_
    refine L_fa (o' := 1) rfl fa_68_1 rfl rfl ?_
    refine L_ld (v := v1_1) rfl Try.isAgg22 rfl (hb_g7.cell (j := 1) rfl) ?_
    refine L_call (args := #[.agg #[v0_0, v0_1], v1_1]) rfl Try.call79 (ops2 rfl rfl) (s_l6Vars_c (m := m) (list := r_.vars) (Nat.le_trans hB hx.size) (rel0 h0_0) (rel0 h0_1) (rel0 h1_1) hx9) ?_
    rintro _ w12 ⟨rfl, he12⟩
    have h0_0 := RP.ext h0_0 he12
    have h0_1 := RP.ext h0_1 he12
    have h1_1 := RP.ext h1_1 he12
    have h1_2 := RP.ext h1_2 he12
    have h1_4 := RP.ext h1_4 he12
    have hb_g7 := Blk.ext hb_g7 he12
    have hx := ext_trans hx he12
    refine L_not_ (b := x9) rfl rfl ?_
    refine L_mv (v := .bool (!x9)) rfl rfl ?_
    refine L_split (d := 10) (b := (!x9)) rfl (fun hc13 => ?_) (fun hc13 => ?_)
    ·
      refine L_pass rfl ?_
      refine L_pass rfl ?_
      refine L_pass rfl ?_
      refine L_pass rfl ?_
      refine L_pass rfl ?_
      refine L_pass rfl ?_
      refine L_pass rfl ?_
      refine L_pass rfl ?_
      refine L_pass rfl ?_
      refine L_pass rfl ?_
      refine L_pass rfl ?_
      refine L_pass rfl ?_
      refine L_pass rfl ?_
      refine L_pass rfl ?_
      refine L_pick (v := .bool ((!x9) || ((r_.kind != 1) && (((r_.coefs.length : Int) != 0) || (r_.bound != 0))))) rfl rfl (or_t hc13) ?_
      refine L_mv (v := .bool ((!x9) || ((r_.kind != 1) && (((r_.coefs.length : Int) != 0) || (r_.bound != 0))))) rfl rfl ?_
      refine L_split (d := 26) (b := ((!x9) || ((r_.kind != 1) && (((r_.coefs.length : Int) != 0) || (r_.bound != 0))))) rfl (fun hc14 => ?_) (fun hc14 => ?_)
      ·
        refine L_pass rfl ?_
        refine L_pass rfl ?_
        refine L_pass rfl ?_
        refine L_pass rfl ?_
        refine L_pass rfl ?_
        refine L_pass rfl ?_
        refine L_pass rfl ?_
        refine L_pass rfl ?_
        refine L_pass rfl ?_
        refine L_pick (v := .bool (((!x9) || ((r_.kind != 1) && (((r_.coefs.length : Int) != 0) || (r_.bound != 0)))) || ((r_.kind != 3) && ((r_.rows.length : Int) != 0)))) rfl rfl (or_t hc14) ?_
        refine L_nil ?_
        show R11 _ _
        rw [hR11]
        exact ⟨rfl, rfl, h1_1, h1_2, h1_4, hb_g7, hx⟩
      ·
        refine L_fa (o' := 0) rfl fa_68_0 rfl rfl ?_
        refine L_ld (v := .int .i64 r_.kind) rfl Try.isAgg3 rfl (hb_g7.cell (j := 0) rfl) ?_
        refine L_neq (m := r_.kind) (n := 3) rfl rfl rfl ?_
        refine L_mv (v := .bool (r_.kind != 3)) rfl rfl ?_
        refine L_split (d := 30) (b := (r_.kind != 3)) rfl (fun hc15 => ?_) (fun hc15 => ?_)
        ·
          refine L_fa (o' := 4) rfl fa_68_4 rfl rfl ?_
          refine L_ld (v := v1_4) rfl Try.isAgg66 rfl (hb_g7.cell (j := 4) rfl) ?_
          refine L_len (v := v1_4) rfl Try.underlying66 rfl h1_4 ?_
          refine L_neq (m := (r_.rows.length : Int)) (n := 0) rfl rfl rfl ?_
          refine L_pick (v := .bool ((r_.kind != 3) && ((r_.rows.length : Int) != 0))) rfl rfl (and_t hc15 rfl) ?_
          refine L_pick (v := .bool (((!x9) || ((r_.kind != 1) && (((r_.coefs.length : Int) != 0) || (r_.bound != 0)))) || ((r_.kind != 3) && ((r_.rows.length : Int) != 0)))) rfl rfl (or_f hc14 rfl) ?_
          refine L_nil ?_
          show R11 _ _
          rw [hR11]
          exact ⟨rfl, rfl, h1_1, h1_2, h1_4, hb_g7, hx⟩
        ·
          refine L_pass rfl ?_
          refine L_pass rfl ?_
          refine L_pass rfl ?_
          refine L_pass rfl ?_
          refine L_pick (v := .bool ((r_.kind != 3) && ((r_.rows.length : Int) != 0))) rfl rfl (and_f hc15) ?_
          refine L_pick (v := .bool (((!x9) || ((r_.kind != 1) && (((r_.coefs.length : Int) != 0) || (r_.bound != 0)))) || ((r_.kind != 3) && ((r_.rows.length : Int) != 0)))) rfl rfl (or_f hc14 rfl) ?_
          refine L_nil ?_
          show R11 _ _
          rw [hR11]
          exact ⟨rfl, rfl, h1_1, h1_2, h1_4, hb_g7, hx⟩
    ·
      refine L_fa (o' := 0) rfl fa_68_0 rfl rfl ?_
      refine L_ld (v := .int .i64 r_.kind) rfl Try.isAgg3 rfl (hb_g7.cell (j := 0) rfl) ?_
      refine L_neq (m := r_.kind) (n := 1) rfl rfl rfl ?_
      refine L_mv (v := .bool (r_.kind != 1)) rfl rfl ?_
      refine L_split (d := 14) (b := (r_.kind != 1)) rfl (fun hc16 => ?_) (fun hc16 => ?_)
      ·
        refine L_fa (o' := 2) rfl fa_68_2 rfl rfl ?_
        refine L_ld (v := v1_2) rfl Try.isAgg22 rfl (hb_g7.cell (j := 2) rfl) ?_
        refine L_len (v := v1_2) rfl Try.underlying22 rfl h1_2 ?_
        refine L_neq (m := (r_.coefs.length : Int)) (n := 0) rfl rfl rfl ?_
        refine L_mv (v := .bool ((r_.coefs.length : Int) != 0)) rfl rfl ?_
        refine L_split (d := 19) (b := ((r_.coefs.length : Int) != 0)) rfl (fun hc17 => ?_) (fun hc17 => ?_)
        ·
          refine L_pass rfl ?_
          refine L_pass rfl ?_
          refine L_pass rfl ?_
          refine L_pick (v := .bool (((r_.coefs.length : Int) != 0) || (r_.bound != 0))) rfl rfl (or_t hc17) ?_
          refine L_pick (v := .bool ((r_.kind != 1) && (((r_.coefs.length : Int) != 0) || (r_.bound != 0)))) rfl rfl (and_t hc16 rfl) ?_
          refine L_pick (v := .bool ((!x9) || ((r_.kind != 1) && (((r_.coefs.length : Int) != 0) || (r_.bound != 0))))) rfl rfl (or_f hc13 rfl) ?_
          refine L_mv (v := .bool ((!x9) || ((r_.kind != 1) && (((r_.coefs.length : Int) != 0) || (r_.bound != 0))))) rfl rfl ?_
          refine L_split (d := 26) (b := ((!x9) || ((r_.kind != 1) && (((r_.coefs.length : Int) != 0) || (r_.bound != 0))))) rfl (fun hc18 => ?_) (fun hc18 => ?_)
          ·
            refine L_pass rfl ?_
            refine L_pass rfl ?_
            refine L_pass rfl ?_
            refine L_pass rfl ?_
            refine L_pass rfl ?_
            refine L_pass rfl ?_
            refine L_pass rfl ?_
            refine L_pass rfl ?_
            refine L_pass rfl ?_
            refine L_pick (v := .bool (((!x9) || ((r_.kind != 1) && (((r_.coefs.length : Int) != 0) || (r_.bound != 0)))) || ((r_.kind != 3) && ((r_.rows.length : Int) != 0)))) rfl rfl (or_t hc18) ?_
            refine L_nil ?_
            show R11 _ _
            rw [hR11]
            exact ⟨rfl, rfl, h1_1, h1_2, h1_4, hb_g7, hx⟩
          ·
            refine L_fa (o' := 0) rfl fa_68_0 rfl rfl ?_
            refine L_ld (v := .int .i64 r_.kind) rfl Try.isAgg3 rfl (hb_g7.cell (j := 0) rfl) ?_
            refine L_neq (m := r_.kind) (n := 3) rfl rfl rfl ?_
            refine L_mv (v := .bool (r_.kind != 3)) rfl rfl ?_
            refine L_split (d := 30) (b := (r_.kind != 3)) rfl (fun hc19 => ?_) (fun hc19 => ?_)
            ·
              refine L_fa (o' := 4) rfl fa_68_4 rfl rfl ?_
              refine L_ld (v := v1_4) rfl Try.isAgg66 rfl (hb_g7.cell (j := 4) rfl) ?_
              refine L_len (v := v1_4) rfl Try.underlying66 rfl h1_4 ?_
              refine L_neq (m := (r_.rows.length : Int)) (n := 0) rfl rfl rfl ?_
              refine L_pick (v := .bool ((r_.kind != 3) && ((r_.rows.length : Int) != 0))) rfl rfl (and_t hc19 rfl) ?_
              refine L_pick (v := .bool (((!x9) || ((r_.kind != 1) && (((r_.coefs.length : Int) != 0) || (r_.bound != 0)))) || ((r_.kind != 3) && ((r_.rows.length : Int) != 0)))) rfl rfl (or_f hc18 rfl) ?_
              refine L_nil ?_
              show R11 _ _
              rw [hR11]
              exact ⟨rfl, rfl, h1_1, h1_2, h1_4, hb_g7, hx⟩
            ·
              refine L_pass rfl ?_
              refine L_pass rfl ?_
              refine L_pass rfl ?_
              refine L_pass rfl ?_
              refine L_pick (v := .bool ((r_.kind != 3) && ((r_.rows.length : Int) != 0))) rfl rfl (and_f hc19) ?_
              refine L_pick (v := .bool (((!x9) || ((r_.kind != 1) && (((r_.coefs.length : Int) != 0) || (r_.bound != 0)))) || ((r_.kind != 3) && ((r_.rows.length : Int) != 0)))) rfl rfl (or_f hc18 rfl) ?_
              refine L_nil ?_
              show R11 _ _
              rw [hR11]
              exact ⟨rfl, rfl, h1_1, h1_2, h1_4, hb_g7, hx⟩
        ·
          refine L_fa (o' := 3) rfl fa_68_3 rfl rfl ?_
          refine L_ld (v := .int .i64 r_.bound) rfl Try.isAgg3 rfl (hb_g7.cell (j := 3) rfl) ?_
          refine L_neq (m := r_.bound) (n := 0) rfl rfl rfl ?_
          refine L_pick (v := .bool (((r_.coefs.length : Int) != 0) || (r_.bound != 0))) rfl rfl (or_f hc17 rfl) ?_
          refine L_pick (v := .bool ((r_.kind != 1) && (((r_.coefs.length : Int) != 0) || (r_.bound != 0)))) rfl rfl (and_t hc16 rfl) ?_
          refine L_pick (v := .bool ((!x9) || ((r_.kind != 1) && (((r_.coefs.length : Int) != 0) || (r_.bound != 0))))) rfl rfl (or_f hc13 rfl) ?_
          refine L_mv (v := .bool ((!x9) || ((r_.kind != 1) && (((r_.coefs.length : Int) != 0) || (r_.bound != 0))))) rfl rfl ?_
          refine L_split (d := 26) (b := ((!x9) || ((r_.kind != 1) && (((r_.coefs.length : Int) != 0) || (r_.bound != 0))))) rfl (fun hc20 => ?_) (fun hc20 => ?_)
          ·
            refine L_pass rfl ?_
            refine L_pass rfl ?_
            refine L_pass rfl ?_
            refine L_pass rfl ?_
            refine L_pass rfl ?_
            refine L_pass rfl ?_
            refine L_pass rfl ?_
            refine L_pass rfl ?_
            refine L_pass rfl ?_
            refine L_pick (v := .bool (((!x9) || ((r_.kind != 1) && (((r_.coefs.length : Int) != 0) || (r_.bound != 0)))) || ((r_.kind != 3) && ((r_.rows.length : Int) != 0)))) rfl rfl (or_t hc20) ?_
            refine L_nil ?_
            show R11 _ _
            rw [hR11]
            exact ⟨rfl, rfl, h1_1, h1_2, h1_4, hb_g7, hx⟩
          ·
            refine L_fa (o' := 0) rfl fa_68_0 rfl rfl ?_
            refine L_ld (v := .int .i64 r_.kind) rfl Try.isAgg3 rfl (hb_g7.cell (j := 0) rfl) ?_
            refine L_neq (m := r_.kind) (n := 3) rfl rfl rfl ?_
            refine L_mv (v := .bool (r_.kind != 3)) rfl rfl ?_
            refine L_split (d := 30) (b := (r_.kind != 3)) rfl (fun hc21 => ?_) (fun hc21 => ?_)
            ·
              refine L_fa (o' := 4) rfl fa_68_4 rfl rfl ?_
              refine L_ld (v := v1_4) rfl Try.isAgg66 rfl (hb_g7.cell (j := 4) rfl) ?_
              refine L_len (v := v1_4) rfl Try.underlying66 rfl h1_4 ?_
              refine L_neq (m := (r_.rows.length : Int)) (n := 0) rfl rfl rfl ?_
              refine L_pick (v := .bool ((r_.kind != 3) && ((r_.rows.length : Int) != 0))) rfl rfl (and_t hc21 rfl) ?_
              refine L_pick (v := .bool (((!x9) || ((r_.kind != 1) && (((r_.coefs.length : Int) != 0) || (r_.bound != 0)))) || ((r_.kind != 3) && ((r_.rows.length : Int) != 0)))) rfl rfl (or_f hc20 rfl) ?_
              refine L_nil ?_
              show R11 _ _
              rw [hR11]
              exact ⟨rfl, rfl, h1_1, h1_2, h1_4, hb_g7, hx⟩
            ·
              refine L_pass rfl ?_
              refine L_pass rfl ?_
              refine L_pass rfl ?_
              refine L_pass rfl ?_
              refine L_pick (v := .bool ((r_.kind != 3) && ((r_.rows.length : Int) != 0))) rfl rfl (and_f hc21) ?_
              refine L_pick (v := .bool (((!x9) || ((r_.kind != 1) && (((r_.coefs.length : Int) != 0) || (r_.bound != 0)))) || ((r_.kind != 3) && ((r_.rows.length : Int) != 0)))) rfl rfl (or_f hc20 rfl) ?_
              refine L_nil ?_
              show R11 _ _
              rw [hR11]
              exact ⟨rfl, rfl, h1_1, h1_2, h1_4, hb_g7, hx⟩
      ·
        refine L_pass rfl ?_
        refine L_pass rfl ?_
        refine L_pass rfl ?_
        refine L_pass rfl ?_
        refine L_pass rfl ?_
        refine L_pass rfl ?_
        refine L_pass rfl ?_
        refine L_pass rfl ?_
        refine L_pass rfl ?_
        refine L_pick (v := .bool ((r_.kind != 1) && (((r_.coefs.length : Int) != 0) || (r_.bound != 0)))) rfl rfl (and_f hc16) ?_
        refine L_pick (v := .bool ((!x9) || ((r_.kind != 1) && (((r_.coefs.length : Int) != 0) || (r_.bound != 0))))) rfl rfl (or_f hc13 rfl) ?_
        refine L_mv (v := .bool ((!x9) || ((r_.kind != 1) && (((r_.coefs.length : Int) != 0) || (r_.bound != 0))))) rfl rfl ?_
        refine L_split (d := 26) (b := ((!x9) || ((r_.kind != 1) && (((r_.coefs.length : Int) != 0) || (r_.bound != 0))))) rfl (fun hc22 => ?_) (fun hc22 => ?_)
        ·
          refine L_pass rfl ?_
          refine L_pass rfl ?_
          refine L_pass rfl ?_
          refine L_pass rfl ?_
          refine L_pass rfl ?_
          refine L_pass rfl ?_
          refine L_pass rfl ?_
          refine L_pass rfl ?_
          refine L_pass rfl ?_
          refine L_pick (v := .bool (((!x9) || ((r_.kind != 1) && (((r_.coefs.length : Int) != 0) || (r_.bound != 0)))) || ((r_.kind != 3) && ((r_.rows.length : Int) != 0)))) rfl rfl (or_t hc22) ?_
          refine L_nil ?_
          show R11 _ _
          rw [hR11]
          exact ⟨rfl, rfl, h1_1, h1_2, h1_4, hb_g7, hx⟩
        ·
          refine L_fa (o' := 0) rfl fa_68_0 rfl rfl ?_
          refine L_ld (v := .int .i64 r_.kind) rfl Try.isAgg3 rfl (hb_g7.cell (j := 0) rfl) ?_
          refine L_neq (m := r_.kind) (n := 3) rfl rfl rfl ?_
          refine L_mv (v := .bool (r_.kind != 3)) rfl rfl ?_
          refine L_split (d := 30) (b := (r_.kind != 3)) rfl (fun hc23 => ?_) (fun hc23 => ?_)
          ·
            refine L_fa (o' := 4) rfl fa_68_4 rfl rfl ?_
            refine L_ld (v := v1_4) rfl Try.isAgg66 rfl (hb_g7.cell (j := 4) rfl) ?_
            refine L_len (v := v1_4) rfl Try.underlying66 rfl h1_4 ?_
            refine L_neq (m := (r_.rows.length : Int)) (n := 0) rfl rfl rfl ?_
            refine L_pick (v := .bool ((r_.kind != 3) && ((r_.rows.length : Int) != 0))) rfl rfl (and_t hc23 rfl) ?_
            refine L_pick (v := .bool (((!x9) || ((r_.kind != 1) && (((r_.coefs.length : Int) != 0) || (r_.bound != 0)))) || ((r_.kind != 3) && ((r_.rows.length : Int) != 0)))) rfl rfl (or_f hc22 rfl) ?_
            refine L_nil ?_
            show R11 _ _
            rw [hR11]
            exact ⟨rfl, rfl, h1_1, h1_2, h1_4, hb_g7, hx⟩
          ·
            refine L_pass rfl ?_
            refine L_pass rfl ?_
            refine L_pass rfl ?_
            refine L_pass rfl ?_
            refine L_pick (v := .bool ((r_.kind != 3) && ((r_.rows.length : Int) != 0))) rfl rfl (and_f hc23) ?_
            refine L_pick (v := .bool (((!x9) || ((r_.kind != 1) && (((r_.coefs.length : Int) != 0) || (r_.bound != 0)))) || ((r_.kind != 3) && ((r_.rows.length : Int) != 0)))) rfl rfl (or_f hc22 rfl) ?_
            refine L_nil ?_
            show R11 _ _
            rw [hR11]
            exact ⟨rfl, rfl, h1_1, h1_2, h1_4, hb_g7, hx⟩
  ·
    intro f w_ hR
    rw [hR11] at hR
    obtain ⟨sf3, sf36, h1_1, h1_2, h1_4, hb_g7, hx⟩ := hR
    clear hR11
    refine W_cond (b := (((!x9) || ((r_.kind != 1) && (((r_.coefs.length : Int) != 0) || (r_.bound != 0)))) || ((r_.kind != 3) && ((r_.rows.length : Int) != 0)))) sf36 (fun hc24 => ?_) (fun hc24 => ?_)
    ·
      have hF := (ite_t hc24).symm.trans hF
      refine W_seq ?_
      refine W_region ?_
      refine L_as (v := .bool false) rfl rfl ?_
      refine L_nil ?_
      refine W_ret ?_
      obtain rfl := so hF
      refine ret1 Try.results66 ?_
      exact ⟨rfl, hx⟩
    ·
      have hF := (ite_f hc24).symm.trans hF
      refine W_skip ?_
      refine W_seq ?_
      refine W_seq ?_
      refine W_region ?_
      refine L_fa (o' := 0) rfl fa_68_0 sf3 rfl ?_
      refine L_ld (v := .int .i64 r_.kind) rfl Try.isAgg3 rfl (hb_g7.cell (j := 0) rfl) ?_
      refine L_nil ?_
      refine W_block ?_
      refine W_seq ?_
      refine W_region ?_
      refine L_eql (m := r_.kind) (n := 1) rfl rfl rfl ?_
      refine L_as (v := .bool (r_.kind == 1)) rfl rfl ?_
      refine L_nil ?_
      refine W_cond (b := (r_.kind == 1)) rfl (fun hc25 => ?_) (fun hc25 => ?_)
      ·
        have hF := (ite_t hc25).symm.trans hF
        refine W_seq ?_
        obtain ⟨x26, hx26, hF⟩ := bind_some hF
        refine W_region ?_
        refine L_lda (cs := [.int .i64 r_.kind, v1_1, v1_2, .int .i64 r_.bound, v1_4]) rfl Try.isAgg68 Try.sizeOf68 sf3 (Blk.sub hb_g7 0 5) rfl ?_
        refine L_call (args := #[.agg #[.int .i64 r_.kind, v1_1, v1_2, .int .i64 r_.bound, v1_4]]) rfl Try.call80 (ops1 rfl) (s_l6Linear_c (r_ := r_) (Nat.le_trans hB hx.size) (rel0 h1_1) (rel0 h1_2) (rel0 h1_4) hx26) ?_
        rintro _ w28 ⟨rfl, he28⟩
        have h1_1 := RP.ext h1_1 he28
        have h1_2 := RP.ext h1_2 he28
        have h1_4 := RP.ext h1_4 he28
        have hx := ext_trans hx he28
        refine L_as (v := .bool x26) rfl rfl ?_
        refine L_nil ?_
        refine W_ret ?_
        obtain rfl := so hF
        refine ret1 Try.results66 ?_
        exact ⟨rfl, hx⟩
      ·
        have hF := (ite_f hc25).symm.trans hF
        refine W_seq ?_
        refine W_region ?_
        refine L_eql (m := r_.kind) (n := 2) rfl rfl rfl ?_
        refine L_as (v := .bool (r_.kind == 2)) rfl rfl ?_
        refine L_nil ?_
        refine W_cond (b := (r_.kind == 2)) rfl (fun hc29 => ?_) (fun hc29 => ?_)
        ·
          have hF := (ite_t hc29).symm.trans hF
          refine W_seq ?_
          refine W_region ?_
          refine L_as (v := .bool true) rfl rfl ?_
          refine L_nil ?_
          refine W_ret ?_
          obtain rfl := so hF
          refine ret1 Try.results66 ?_
          exact ⟨rfl, hx⟩
        ·
          have hF := (ite_f hc29).symm.trans hF
          refine W_seq ?_
          refine W_region ?_
          refine L_eql (m := r_.kind) (n := 3) rfl rfl rfl ?_
          refine L_as (v := .bool (r_.kind == 3)) rfl rfl ?_
          refine L_nil ?_
          refine W_cond (b := (r_.kind == 3)) rfl (fun hc30 => ?_) (fun hc30 => ?_)
          ·
            have hF := (ite_t hc30).symm.trans hF
            refine W_seq ?_
            obtain ⟨x31, hx31, hF⟩ := bind_some hF
            refine W_region ?_
            refine L_lda (cs := [.int .i64 r_.kind, v1_1, v1_2, .int .i64 r_.bound, v1_4]) rfl Try.isAgg68 Try.sizeOf68 sf3 (Blk.sub hb_g7 0 5) rfl ?_
            refine L_call (args := #[.agg #[.int .i64 r_.kind, v1_1, v1_2, .int .i64 r_.bound, v1_4]]) rfl Try.call81 (ops1 rfl) (s_l6Table_c (r_ := r_) (Nat.le_trans hB hx.size) (rel0 h1_1) (rel0 h1_2) (rel0 h1_4) hx31) ?_
            rintro _ w33 ⟨rfl, he33⟩
            have h1_1 := RP.ext h1_1 he33
            have h1_2 := RP.ext h1_2 he33
            have h1_4 := RP.ext h1_4 he33
            have hx := ext_trans hx he33
            refine L_as (v := .bool x31) rfl rfl ?_
            refine L_nil ?_
            refine W_ret ?_
            obtain rfl := so hF
            refine ret1 Try.results66 ?_
            exact ⟨rfl, hx⟩
          ·
            have hF := (ite_f hc30).symm.trans hF
            refine W_seq ?_
            refine W_region ?_
            refine L_eql (m := r_.kind) (n := 4) rfl rfl rfl ?_
            refine L_as (v := .bool (r_.kind == 4)) rfl rfl ?_
            refine L_nil ?_
            refine W_cond (b := (r_.kind == 4)) rfl (fun hc34 => ?_) (fun hc34 => ?_)
            ·
              have hF := (ite_t hc34).symm.trans hF
              refine W_seq ?_
              refine W_region ?_
              refine L_fa (o' := 1) rfl fa_68_1 sf3 rfl ?_
              refine L_ld (v := v1_1) rfl Try.isAgg22 rfl (hb_g7.cell (j := 1) rfl) ?_
              refine L_len (v := v1_1) rfl Try.underlying22 rfl h1_1 ?_
              refine L_eql (m := (r_.vars.length : Int)) (n := 2) rfl rfl rfl ?_
              refine L_as (v := .bool ((r_.vars.length : Int) == 2)) rfl rfl ?_
              refine L_nil ?_
              refine W_ret ?_
              obtain rfl := so hF
              refine ret1 Try.results66 ?_
              exact ⟨rfl, hx⟩
            ·
              have hF := (ite_f hc34).symm.trans hF
              refine W_skip ?_
              refine W_seq ?_
              refine W_region ?_
              refine L_as (v := .bool false) rfl rfl ?_
              refine L_nil ?_
              refine W_ret ?_
              obtain rfl := so hF
              refine ret1 Try.results66 ?_
              exact ⟨rfl, hx⟩

theorem s_ModelValid_c {fu : Nat} {m : Model} {v0_0 : Value} {v0_1 : Value} {w : World} {B : Nat} (hB : B ≤ w.heap.size) (h0_0 : (RP.slice 3 RP.int).rel B w.heap.size w [v0_0] m.sizes) (h0_1 : (RP.slice 68 (rRule 3 22)).rel B w.heap.size w [v0_1] m.rules) {r : Bool} (hF : s_ModelValid fu m = some r) :
    C Try.prog 44 #[.agg #[v0_0, v0_1]] w fun v w' => (v = .bool r) ∧ Ext w w' := by
  unfold s_ModelValid at hF
  have hx := ext_refl w
  refine C_enter Try.func44 rfl Try.ntmps44 rfl ?_
  refine W_seq ?_
  refine W_region ?_
  refine L_box (v := .agg #[v0_0, v0_1]) (cs := #[v0_0, v0_1]) rfl rfl rfl ?_
  intro g3 w4 hn4
  have hge_g3 := hn4.ge hx
  have hb_g3 := hn4.blk
  have h0_0 := RP.ext h0_0 hn4.ext
  have h0_1 := RP.ext h0_1 hn4.ext
  have hx := ext_trans hx hn4.ext
  refine L_as (v := .bool false) rfl rfl ?_
  refine L_nil ?_
  refine W_seq ?_
  refine W_region ?_
  refine L_as (v := .int .i64 0) rfl rfl ?_
  refine L_nil ?_
  refine W_seq ?_
  refine W_seq ?_
  refine W_region ?_
  refine L_as (v := .int .i64 0) rfl rfl ?_
  refine L_nil ?_
  obtain ⟨j8, hL8, hF⟩ := bind_some hF
  obtain ⟨R8, hR8⟩ : ∃ R : Fr → World → Prop, R = fun f w_ => ∃ n_6 : Int, ∃ i_7 : Int, j8 = .nx (n_6, i_7) ∧ f 1 = .pointer (some ⟨g3, 0, none⟩) ∧ f 3 = .int .i64 n_6 ∧ (RP.slice 3 RP.int).rel B w.heap.size w_ [v0_0] m.sizes ∧ (RP.slice 68 (rRule 3 22)).rel B w.heap.size w_ [v0_1] m.rules ∧ Blk w_ g3 30 #[v0_0, v0_1] ∧ Ext w w_ := ⟨_, rfl⟩
  refine W_join R8 ?_ ?_
  ·
    refine W_block ?_
    obtain ⟨I8, hI8⟩ : ∃ I : Nat → Fr → World → Prop, I = fun n f w_ => ∃ n_6 : Int, ∃ i_7 : Int, whileL (s_ModelValid_b1 m) n (n_6, i_7) = some j8 ∧ f 1 = .pointer (some ⟨g3, 0, none⟩) ∧ f 3 = .int .i64 n_6 ∧ f 4 = .int .i64 i_7 ∧ (RP.slice 3 RP.int).rel B w.heap.size w_ [v0_0] m.sizes ∧ (RP.slice 68 (rRule 3 22)).rel B w.heap.size w_ [v0_1] m.rules ∧ Blk w_ g3 30 #[v0_0, v0_1] ∧ Ext w w_ := ⟨_, rfl⟩
    refine W_loop I8 (n := fu) ?_ ?_
    · rw [hI8]; exact ⟨0, 0, hL8, rfl, rfl, rfl, h0_0, h0_1, hb_g3, hx⟩
    ·
      intro n8 f w_ hI
      rw [hI8] at hI
      obtain ⟨n_6, i_7, hL8, sf1, sf3, sf4, h0_0, h0_1, hb_g3, hx⟩ := hI
      cases n8 with
      | zero => exact (while_zero hL8).elim
      | succ n8 =>
        obtain ⟨o8, hB8, hL8⟩ := while_succ hL8
        rw [s_ModelValid_b1] at hB8
        refine W_seq ?_
        refine W_seq ?_
        obtain ⟨R9, hR9⟩ : ∃ R : Fr → World → Prop, R = fun f w_ => f 1 = .pointer (some ⟨g3, 0, none⟩) ∧ f 3 = .int .i64 n_6 ∧ f 4 = .int .i64 i_7 ∧ f 14 = .bool ((decide (i_7 < (m.sizes.length : Int))) && (decide (i_7 < 5))) ∧ (RP.slice 3 RP.int).rel B w.heap.size w_ [v0_0] m.sizes ∧ (RP.slice 68 (rRule 3 22)).rel B w.heap.size w_ [v0_1] m.rules ∧ Blk w_ g3 30 #[v0_0, v0_1] ∧ Ext w w_ := ⟨_, rfl⟩
        refine W_join R9 ?_ ?_
        ·
          refine W_region ?_
          refine L_mv (v := .int .i64 i_7) rfl sf4 ?_
          refine L_fa (o' := 0) rfl fa_30_0 sf1 rfl ?_
          refine L_ld (v := v0_0) rfl Try.isAgg22 rfl (hb_g3.cell (j := 0) rfl) ?_
          refine L_len (v := v0_0) rfl Try.underlying22 rfl h0_0 ?_
          refine L_lss (m := i_7) (n := (m.sizes.length : Int)) rfl rfl rfl ?_
          refine L_mv (v := .bool (decide (i_7 < (m.sizes.length : Int)))) rfl rfl ?_
          refine L_split (d := 11) (b := decide (i_7 < (m.sizes.length : Int))) rfl (fun hc10 => ?_) (fun hc10 => ?_)
          ·
            refine L_mv (v := .int .i64 i_7) rfl sf4 ?_
            refine L_lss (m := i_7) (n := 5) rfl rfl rfl ?_
            refine L_pick (v := .bool ((decide (i_7 < (m.sizes.length : Int))) && (decide (i_7 < 5)))) rfl rfl (and_t hc10 rfl) ?_
            refine L_nil ?_
            show R9 _ _
            rw [hR9]
            exact ⟨sf1, sf3, sf4, rfl, h0_0, h0_1, hb_g3, hx⟩
          ·
            refine L_pass rfl ?_
            refine L_pass rfl ?_
            refine L_pick (v := .bool ((decide (i_7 < (m.sizes.length : Int))) && (decide (i_7 < 5)))) rfl rfl (and_f hc10) ?_
            refine L_nil ?_
            show R9 _ _
            rw [hR9]
            exact ⟨sf1, sf3, sf4, rfl, h0_0, h0_1, hb_g3, hx⟩
        ·
          intro f w_ hR
          rw [hR9] at hR
          obtain ⟨sf1, sf3, sf4, sf14, h0_0, h0_1, hb_g3, hx⟩ := hR
          clear hR9
          refine W_cond (b := ((decide (i_7 < (m.sizes.length : Int))) && (decide (i_7 < 5)))) sf14 (fun hc11 => ?_) (fun hc11 => ?_)
          ·
            have hB8 := (ite_t hc11).symm.trans hB8
            refine W_skip ?_
            refine W_seq ?_
            refine W_block ?_
            refine W_seq ?_
            refine W_seq ?_
            obtain ⟨x12, hx12, hB8⟩ := bind_some hB8
            obtain ⟨R17, hR17⟩ : ∃ R : Fr → World → Prop, R = fun f w_ => f 1 = .pointer (some ⟨g3, 0, none⟩) ∧ f 3 = .int .i64 n_6 ∧ f 4 = .int .i64 i_7 ∧ f 30 = .bool ((decide (x12 < 0)) || (decide (x12 > 3))) ∧ (RP.slice 3 RP.int).rel B w.heap.size w_ [v0_0] m.sizes ∧ (RP.slice 68 (rRule 3 22)).rel B w.heap.size w_ [v0_1] m.rules ∧ Blk w_ g3 30 #[v0_0, v0_1] ∧ Ext w w_ := ⟨_, rfl⟩
            refine W_join R17 ?_ ?_
            ·
              refine W_region ?_
              refine L_fa (o' := 0) rfl fa_30_0 sf1 rfl ?_
              refine L_ld (v := v0_0) rfl Try.isAgg22 rfl (hb_g3.cell (j := 0) rfl) ?_
              refine L_mv (v := .int .i64 i_7) rfl sf4 ?_
              refine L_ix (r := RP.int) rfl Try.underlying22 Try.sizeOf3 rfl h0_0 rfl hx12 ?_
              intro g18 o19 cs19 hr19 hat19
              obtain rfl : _ = [_] := hr19
              refine L_ld (v := .int .i64 x12) rfl Try.isAgg3 rfl (hat19.cell (j := 0) rfl) ?_
              refine L_lss (m := x12) (n := 0) rfl rfl rfl ?_
              refine L_mv (v := .bool (decide (x12 < 0))) rfl rfl ?_
              refine L_split (d := 23) (b := decide (x12 < 0)) rfl (fun hc20 => ?_) (fun hc20 => ?_)
              ·
                refine L_pass rfl ?_
                refine L_pass rfl ?_
                refine L_pass rfl ?_
                refine L_pass rfl ?_
                refine L_pass rfl ?_
                refine L_pass rfl ?_
                refine L_pick (v := .bool ((decide (x12 < 0)) || (decide (x12 > 3)))) rfl rfl (or_t hc20) ?_
                refine L_nil ?_
                show R17 _ _
                rw [hR17]
                exact ⟨sf1, sf3, sf4, rfl, h0_0, h0_1, hb_g3, hx⟩
              ·
                refine L_fa (o' := 0) rfl fa_30_0 sf1 rfl ?_
                refine L_ld (v := v0_0) rfl Try.isAgg22 rfl (hb_g3.cell (j := 0) rfl) ?_
                refine L_mv (v := .int .i64 i_7) rfl sf4 ?_
                refine L_ix (r := RP.int) rfl Try.underlying22 Try.sizeOf3 rfl h0_0 rfl hx12 ?_
                intro g21 o22 cs22 hr22 hat22
                obtain rfl : _ = [_] := hr22
                refine L_ld (v := .int .i64 x12) rfl Try.isAgg3 rfl (hat22.cell (j := 0) rfl) ?_
                refine L_gtr (m := x12) (n := 3) rfl rfl rfl ?_
                refine L_pick (v := .bool ((decide (x12 < 0)) || (decide (x12 > 3)))) rfl rfl (or_f hc20 rfl) ?_
                refine L_nil ?_
                show R17 _ _
                rw [hR17]
                exact ⟨sf1, sf3, sf4, rfl, h0_0, h0_1, hb_g3, hx⟩
            ·
              intro f w_ hR
              rw [hR17] at hR
              obtain ⟨sf1, sf3, sf4, sf30, h0_0, h0_1, hb_g3, hx⟩ := hR
              clear hR17
              refine W_cond (b := ((decide (x12 < 0)) || (decide (x12 > 3)))) sf30 (fun hc23 => ?_) (fun hc23 => ?_)
              ·
                have hB8 := (ite_t hc23).symm.trans hB8
                refine W_seq ?_
                refine W_region ?_
                refine L_as (v := .bool false) rfl rfl ?_
                refine L_nil ?_
                refine W_ret ?_
                obtain rfl := so hB8
                obtain rfl := so hL8
                obtain rfl := so hF
                refine ret1 Try.results44 ?_
                exact ⟨rfl, hx⟩
              ·
                have hB8 := (ite_f hc23).symm.trans hB8
                refine W_skip ?_
                refine W_region ?_
                refine L_mv (v := .int .i64 n_6) rfl sf3 ?_
                refine L_fa (o' := 0) rfl fa_30_0 sf1 rfl ?_
                refine L_ld (v := v0_0) rfl Try.isAgg22 rfl (hb_g3.cell (j := 0) rfl) ?_
                refine L_mv (v := .int .i64 i_7) rfl sf4 ?_
                refine L_ix (r := RP.int) rfl Try.underlying22 Try.sizeOf3 rfl h0_0 rfl hx12 ?_
                intro g26 o27 cs27 hr27 hat27
                obtain rfl : _ = [_] := hr27
                refine L_ld (v := .int .i64 x12) rfl Try.isAgg3 rfl (hat27.cell (j := 0) rfl) ?_
                refine L_add (m := n_6) (n := x12) rfl rfl rfl ?_
                refine L_add (m := i64 (n_6 + x12)) (n := 1) rfl rfl rfl ?_
                refine L_as (v := .int .i64 (i64 ((i64 (n_6 + x12)) + 1))) rfl rfl ?_
                refine L_nil ?_
                refine W_region ?_
                refine L_mv (v := .int .i64 i_7) rfl sf4 ?_
                refine L_add (m := i_7) (n := 1) rfl rfl rfl ?_
                refine L_as (v := .int .i64 (i64 (i_7 + 1))) rfl rfl ?_
                refine L_nil ?_
                obtain rfl := so hB8
                show ∃ m, m < _ ∧ I8 m _ _
                refine ⟨n8, Nat.lt_succ_self _, ?_⟩
                rw [hI8]
                exact ⟨i64 ((i64 (n_6 + x12)) + 1), i64 (i_7 + 1), hL8, sf1, rfl, rfl, h0_0, h0_1, hb_g3, hx⟩
          ·
            have hB8 := (ite_f hc11).symm.trans hB8
            refine W_exit ?_
            obtain rfl := so hB8
            obtain rfl := so hL8
            show R8 _ _
            rw [hR8]
            exact ⟨n_6, i_7, rfl, sf1, sf3, h0_0, h0_1, hb_g3, hx⟩
  ·
    intro f w_ hR
    rw [hR8] at hR
    obtain ⟨n_6, i_7, rfl, sf1, sf3, h0_0, h0_1, hb_g3, hx⟩ := hR
    clear hR8
    refine W_seq ?_
    refine W_seq ?_
    obtain ⟨R28, hR28⟩ : ∃ R : Fr → World → Prop, R = fun f w_ => f 1 = .pointer (some ⟨g3, 0, none⟩) ∧ f 58 = .bool ((((decide ((m.sizes.length : Int) < 1)) || (decide ((m.sizes.length : Int) > 5))) || (decide (n_6 > 12))) || (decide ((m.rules.length : Int) > 8))) ∧ (RP.slice 3 RP.int).rel B w.heap.size w_ [v0_0] m.sizes ∧ (RP.slice 68 (rRule 3 22)).rel B w.heap.size w_ [v0_1] m.rules ∧ Blk w_ g3 30 #[v0_0, v0_1] ∧ Ext w w_ := ⟨_, rfl⟩
    refine W_join R28 ?_ ?_
    ·
      refine W_region ?_
      refine L_fa (o' := 0) rfl fa_30_0 sf1 rfl ?_
      refine L_ld (v := v0_0) rfl Try.isAgg22 rfl (hb_g3.cell (j := 0) rfl) ?_
      refine L_len (v := v0_0) rfl Try.underlying22 rfl h0_0 ?_
      refine L_lss (m := (m.sizes.length : Int)) (n := 1) rfl rfl rfl ?_
      refine L_mv (v := .bool (decide ((m.sizes.length : Int) < 1))) rfl rfl ?_
      refine L_split (d := 43) (b := decide ((m.sizes.length : Int) < 1)) rfl (fun hc29 => ?_) (fun hc29 => ?_)
      ·
        refine L_pass rfl ?_
        refine L_pass rfl ?_
        refine L_pass rfl ?_
        refine L_pass rfl ?_
        refine L_pick (v := .bool ((decide ((m.sizes.length : Int) < 1)) || (decide ((m.sizes.length : Int) > 5)))) rfl rfl (or_t hc29) ?_
        refine L_mv (v := .bool ((decide ((m.sizes.length : Int) < 1)) || (decide ((m.sizes.length : Int) > 5)))) rfl rfl ?_
        refine L_split (d := 49) (b := ((decide ((m.sizes.length : Int) < 1)) || (decide ((m.sizes.length : Int) > 5)))) rfl (fun hc30 => ?_) (fun hc30 => ?_)
        ·
          refine L_pass rfl ?_
          refine L_pass rfl ?_
          refine L_pick (v := .bool (((decide ((m.sizes.length : Int) < 1)) || (decide ((m.sizes.length : Int) > 5))) || (decide (n_6 > 12)))) rfl rfl (or_t hc30) ?_
          refine L_mv (v := .bool (((decide ((m.sizes.length : Int) < 1)) || (decide ((m.sizes.length : Int) > 5))) || (decide (n_6 > 12)))) rfl rfl ?_
          refine L_split (d := 53) (b := (((decide ((m.sizes.length : Int) < 1)) || (decide ((m.sizes.length : Int) > 5))) || (decide (n_6 > 12)))) rfl (fun hc31 => ?_) (fun hc31 => ?_)
          ·
            refine L_pass rfl ?_
            refine L_pass rfl ?_
            refine L_pass rfl ?_
            refine L_pass rfl ?_
            refine L_pick (v := .bool ((((decide ((m.sizes.length : Int) < 1)) || (decide ((m.sizes.length : Int) > 5))) || (decide (n_6 > 12))) || (decide ((m.rules.length : Int) > 8)))) rfl rfl (or_t hc31) ?_
            refine L_nil ?_
            show R28 _ _
            rw [hR28]
            exact ⟨sf1, rfl, h0_0, h0_1, hb_g3, hx⟩
          ·
            refine L_fa (o' := 1) rfl fa_30_1 sf1 rfl ?_
            refine L_ld (v := v0_1) rfl Try.isAgg28 rfl (hb_g3.cell (j := 1) rfl) ?_
            refine L_len (v := v0_1) rfl Try.underlying28 rfl h0_1 ?_
            refine L_gtr (m := (m.rules.length : Int)) (n := 8) rfl rfl rfl ?_
            refine L_pick (v := .bool ((((decide ((m.sizes.length : Int) < 1)) || (decide ((m.sizes.length : Int) > 5))) || (decide (n_6 > 12))) || (decide ((m.rules.length : Int) > 8)))) rfl rfl (or_f hc31 rfl) ?_
            refine L_nil ?_
            show R28 _ _
            rw [hR28]
            exact ⟨sf1, rfl, h0_0, h0_1, hb_g3, hx⟩
        ·
          refine L_mv (v := .int .i64 n_6) rfl sf3 ?_
          refine L_gtr (m := n_6) (n := 12) rfl rfl rfl ?_
          refine L_pick (v := .bool (((decide ((m.sizes.length : Int) < 1)) || (decide ((m.sizes.length : Int) > 5))) || (decide (n_6 > 12)))) rfl rfl (or_f hc30 rfl) ?_
          refine L_mv (v := .bool (((decide ((m.sizes.length : Int) < 1)) || (decide ((m.sizes.length : Int) > 5))) || (decide (n_6 > 12)))) rfl rfl ?_
          refine L_split (d := 53) (b := (((decide ((m.sizes.length : Int) < 1)) || (decide ((m.sizes.length : Int) > 5))) || (decide (n_6 > 12)))) rfl (fun hc32 => ?_) (fun hc32 => ?_)
          ·
            refine L_pass rfl ?_
            refine L_pass rfl ?_
            refine L_pass rfl ?_
            refine L_pass rfl ?_
            refine L_pick (v := .bool ((((decide ((m.sizes.length : Int) < 1)) || (decide ((m.sizes.length : Int) > 5))) || (decide (n_6 > 12))) || (decide ((m.rules.length : Int) > 8)))) rfl rfl (or_t hc32) ?_
            refine L_nil ?_
            show R28 _ _
            rw [hR28]
            exact ⟨sf1, rfl, h0_0, h0_1, hb_g3, hx⟩
          ·
            refine L_fa (o' := 1) rfl fa_30_1 sf1 rfl ?_
            refine L_ld (v := v0_1) rfl Try.isAgg28 rfl (hb_g3.cell (j := 1) rfl) ?_
            refine L_len (v := v0_1) rfl Try.underlying28 rfl h0_1 ?_
            refine L_gtr (m := (m.rules.length : Int)) (n := 8) rfl rfl rfl ?_
            refine L_pick (v := .bool ((((decide ((m.sizes.length : Int) < 1)) || (decide ((m.sizes.length : Int) > 5))) || (decide (n_6 > 12))) || (decide ((m.rules.length : Int) > 8)))) rfl rfl (or_f hc32 rfl) ?_
            refine L_nil ?_
            show R28 _ _
            rw [hR28]
            exact ⟨sf1, rfl, h0_0, h0_1, hb_g3, hx⟩
      ·
        refine L_fa (o' := 0) rfl fa_30_0 sf1 rfl ?_
        refine L_ld (v := v0_0) rfl Try.isAgg22 rfl (hb_g3.cell (j := 0) rfl) ?_
        refine L_len (v := v0_0) rfl Try.underlying22 rfl h0_0 ?_
        refine L_gtr (m := (m.sizes.length : Int)) (n := 5) rfl rfl rfl ?_
        refine L_pick (v := .bool ((decide ((m.sizes.length : Int) < 1)) || (decide ((m.sizes.length : Int) > 5)))) rfl rfl (or_f hc29 rfl) ?_
        refine L_mv (v := .bool ((decide ((m.sizes.length : Int) < 1)) || (decide ((m.sizes.length : Int) > 5)))) rfl rfl ?_
        refine L_split (d := 49) (b := ((decide ((m.sizes.length : Int) < 1)) || (decide ((m.sizes.length : Int) > 5)))) rfl (fun hc33 => ?_) (fun hc33 => ?_)
        ·
          refine L_pass rfl ?_
          refine L_pass rfl ?_
          refine L_pick (v := .bool (((decide ((m.sizes.length : Int) < 1)) || (decide ((m.sizes.length : Int) > 5))) || (decide (n_6 > 12)))) rfl rfl (or_t hc33) ?_
          refine L_mv (v := .bool (((decide ((m.sizes.length : Int) < 1)) || (decide ((m.sizes.length : Int) > 5))) || (decide (n_6 > 12)))) rfl rfl ?_
          refine L_split (d := 53) (b := (((decide ((m.sizes.length : Int) < 1)) || (decide ((m.sizes.length : Int) > 5))) || (decide (n_6 > 12)))) rfl (fun hc34 => ?_) (fun hc34 => ?_)
          ·
            refine L_pass rfl ?_
            refine L_pass rfl ?_
            refine L_pass rfl ?_
            refine L_pass rfl ?_
            refine L_pick (v := .bool ((((decide ((m.sizes.length : Int) < 1)) || (decide ((m.sizes.length : Int) > 5))) || (decide (n_6 > 12))) || (decide ((m.rules.length : Int) > 8)))) rfl rfl (or_t hc34) ?_
            refine L_nil ?_
            show R28 _ _
            rw [hR28]
            exact ⟨sf1, rfl, h0_0, h0_1, hb_g3, hx⟩
          ·
            refine L_fa (o' := 1) rfl fa_30_1 sf1 rfl ?_
            refine L_ld (v := v0_1) rfl Try.isAgg28 rfl (hb_g3.cell (j := 1) rfl) ?_
            refine L_len (v := v0_1) rfl Try.underlying28 rfl h0_1 ?_
            refine L_gtr (m := (m.rules.length : Int)) (n := 8) rfl rfl rfl ?_
            refine L_pick (v := .bool ((((decide ((m.sizes.length : Int) < 1)) || (decide ((m.sizes.length : Int) > 5))) || (decide (n_6 > 12))) || (decide ((m.rules.length : Int) > 8)))) rfl rfl (or_f hc34 rfl) ?_
            refine L_nil ?_
            show R28 _ _
            rw [hR28]
            exact ⟨sf1, rfl, h0_0, h0_1, hb_g3, hx⟩
        ·
          refine L_mv (v := .int .i64 n_6) rfl sf3 ?_
          refine L_gtr (m := n_6) (n := 12) rfl rfl rfl ?_
          refine L_pick (v := .bool (((decide ((m.sizes.length : Int) < 1)) || (decide ((m.sizes.length : Int) > 5))) || (decide (n_6 > 12)))) rfl rfl (or_f hc33 rfl) ?_
          refine L_mv (v := .bool (((decide ((m.sizes.length : Int) < 1)) || (decide ((m.sizes.length : Int) > 5))) || (decide (n_6 > 12)))) rfl rfl ?_
          refine L_split (d := 53) (b := (((decide ((m.sizes.length : Int) < 1)) || (decide ((m.sizes.length : Int) > 5))) || (decide (n_6 > 12)))) rfl (fun hc35 => ?_) (fun hc35 => ?_)
          ·
            refine L_pass rfl ?_
            refine L_pass rfl ?_
            refine L_pass rfl ?_
            refine L_pass rfl ?_
            refine L_pick (v := .bool ((((decide ((m.sizes.length : Int) < 1)) || (decide ((m.sizes.length : Int) > 5))) || (decide (n_6 > 12))) || (decide ((m.rules.length : Int) > 8)))) rfl rfl (or_t hc35) ?_
            refine L_nil ?_
            show R28 _ _
            rw [hR28]
            exact ⟨sf1, rfl, h0_0, h0_1, hb_g3, hx⟩
          ·
            refine L_fa (o' := 1) rfl fa_30_1 sf1 rfl ?_
            refine L_ld (v := v0_1) rfl Try.isAgg28 rfl (hb_g3.cell (j := 1) rfl) ?_
            refine L_len (v := v0_1) rfl Try.underlying28 rfl h0_1 ?_
            refine L_gtr (m := (m.rules.length : Int)) (n := 8) rfl rfl rfl ?_
            refine L_pick (v := .bool ((((decide ((m.sizes.length : Int) < 1)) || (decide ((m.sizes.length : Int) > 5))) || (decide (n_6 > 12))) || (decide ((m.rules.length : Int) > 8)))) rfl rfl (or_f hc35 rfl) ?_
            refine L_nil ?_
            show R28 _ _
            rw [hR28]
            exact ⟨sf1, rfl, h0_0, h0_1, hb_g3, hx⟩
    ·
      intro f w_ hR
      rw [hR28] at hR
      obtain ⟨sf1, sf58, h0_0, h0_1, hb_g3, hx⟩ := hR
      clear hR28
      refine W_cond (b := ((((decide ((m.sizes.length : Int) < 1)) || (decide ((m.sizes.length : Int) > 5))) || (decide (n_6 > 12))) || (decide ((m.rules.length : Int) > 8)))) sf58 (fun hc36 => ?_) (fun hc36 => ?_)
      ·
        have hF := (ite_t hc36).symm.trans hF
        refine W_seq ?_
        refine W_region ?_
        refine L_as (v := .bool false) rfl rfl ?_
        refine L_nil ?_
        refine W_ret ?_
        obtain rfl := so hF
        refine ret1 Try.results44 ?_
        exact ⟨rfl, hx⟩
      ·
        have hF := (ite_f hc36).symm.trans hF
        refine W_skip ?_
        refine W_seq ?_
        refine W_seq ?_
        refine W_region ?_
        refine L_as (v := .int .i64 0) rfl rfl ?_
        refine L_nil ?_
        obtain ⟨j39, hL39, hF⟩ := bind_some hF
        obtain ⟨R39, hR39⟩ : ∃ R : Fr → World → Prop, R = fun f w_ => ∃ i_38 : Int, j39 = .nx i_38 ∧ Ext w w_ := ⟨_, rfl⟩
        refine W_join R39 ?_ ?_
        ·
          refine W_block ?_
          obtain ⟨I39, hI39⟩ : ∃ I : Nat → Fr → World → Prop, I = fun n f w_ => ∃ i_38 : Int, whileL (s_ModelValid_b2 fu m) n i_38 = some j39 ∧ f 1 = .pointer (some ⟨g3, 0, none⟩) ∧ f 5 = .int .i64 i_38 ∧ (RP.slice 3 RP.int).rel B w.heap.size w_ [v0_0] m.sizes ∧ (RP.slice 68 (rRule 3 22)).rel B w.heap.size w_ [v0_1] m.rules ∧ Blk w_ g3 30 #[v0_0, v0_1] ∧ Ext w w_ := ⟨_, rfl⟩
          refine W_loop I39 (n := fu) ?_ ?_
          · rw [hI39]; exact ⟨0, hL39, sf1, rfl, h0_0, h0_1, hb_g3, hx⟩
          ·
            intro n39 f w_ hI
            rw [hI39] at hI
            obtain ⟨i_38, hL39, sf1, sf5, h0_0, h0_1, hb_g3, hx⟩ := hI
            cases n39 with
            | zero => exact (while_zero hL39).elim
            | succ n39 =>
              obtain ⟨o39, hB39, hL39⟩ := while_succ hL39
              rw [s_ModelValid_b2] at hB39
              refine W_seq ?_
              refine W_seq ?_
              refine W_region ?_
              refine L_mv (v := .int .i64 i_38) rfl sf5 ?_
              refine L_fa (o' := 1) rfl fa_30_1 sf1 rfl ?_
              refine L_ld (v := v0_1) rfl Try.isAgg28 rfl (hb_g3.cell (j := 1) rfl) ?_
              refine L_len (v := v0_1) rfl Try.underlying28 rfl h0_1 ?_
              refine L_lss (m := i_38) (n := (m.rules.length : Int)) rfl rfl rfl ?_
              refine L_nil ?_
              refine W_cond (b := decide (i_38 < (m.rules.length : Int))) rfl (fun hc40 => ?_) (fun hc40 => ?_)
              ·
                have hB39 := (ite_t hc40).symm.trans hB39
                refine W_skip ?_
                refine W_seq ?_
                refine W_block ?_
                refine W_seq ?_
                obtain ⟨x41, hx41, hB39⟩ := bind_some hB39
                obtain ⟨x44, hx44, hB39⟩ := bind_some hB39
                refine W_drawL 6 [isV (.agg #[v0_0, v0_1]), isV (.pointer (some ⟨g3, 1, none⟩)), isV (v0_1), isV (.int .i64 i_38), isEl B (rRule 3 22) x41 0, isAgg_ B (rRule 3 22) x41] Try_mix (by kernel_rfl) (am_cons (mono_V _) (am_cons (mono_V _) (am_cons (mono_V _) (am_cons (mono_V _) (am_cons (mono_el _ _ _ _) (am_cons (mono_agg _ _ _) am_nil)))))) ?_ (fun f w_ hS hE hT => ?_)
                ·
                  refine ops_cons (fun f w_ hS hE hP => ?_) ?_
                  ·
                    have hx := ext_trans hx hE
                    have h0_0 := RP.ext h0_0 hE
                    have h0_1 := RP.ext h0_1 hE
                    have hb_g3 := Blk.ext hb_g3 hE
                    refine L_lda (cs := [v0_0, v0_1]) rfl Try.isAgg30 Try.sizeOf30 ((hS 1 rfl).trans sf1) (Blk.sub hb_g3 0 2) rfl ?_
                    exact L_nil ⟨rfl, (ext_refl _), _, _, rfl, rfl, rfl⟩
                  refine ops_cons (fun f w_ hS hE hP => ?_) ?_
                  ·
                    have hx := ext_trans hx hE
                    have h0_0 := RP.ext h0_0 hE
                    have h0_1 := RP.ext h0_1 hE
                    have hb_g3 := Blk.ext hb_g3 hE
                    refine L_fa (o' := 1) rfl fa_30_1 ((hS 1 rfl).trans sf1) rfl ?_
                    exact L_nil ⟨rfl, (ext_refl _), _, _, rfl, rfl, rfl⟩
                  refine ops_cons (fun f w_ hS hE hP => ?_) ?_
                  ·
                    have hx := ext_trans hx hE
                    have h0_0 := RP.ext h0_0 hE
                    have h0_1 := RP.ext h0_1 hE
                    have hb_g3 := Blk.ext hb_g3 hE
                    refine L_ld (v := v0_1) rfl Try.isAgg28 (hP 1 67 rfl rfl) (hb_g3.cell (j := 1) rfl) ?_
                    exact L_nil ⟨rfl, (ext_refl _), _, _, rfl, rfl, rfl⟩
                  refine ops_cons (fun f w_ hS hE hP => ?_) ?_
                  ·
                    have hx := ext_trans hx hE
                    refine L_mv (v := .int .i64 i_38) rfl ((hS 5 rfl).trans sf5) ?_
                    exact L_nil ⟨rfl, (ext_refl _), _, _, rfl, rfl, rfl⟩
                  refine ops_cons (fun f w_ hS hE hP => ?_) ?_
                  ·
                    have hx := ext_trans hx hE
                    have h0_1 := RP.ext h0_1 hE
                    refine L_ix (r := (rRule 3 22)) rfl Try.underlying28 Try.sizeOf68 (hP 2 68 rfl rfl) h0_1 (hP 3 69 rfl rfl) hx41 ?_
                    intro g48 o49 cs49 hr49 hat49
                    obtain ⟨u49_0, u49_1, u49_2, rfl, hu49_0, hu49_1, hu49_2⟩ := rRule_iff.1 hr49
                    exact L_nil ⟨rfl, (ext_refl _), _, _, rfl, rfl, ⟨_, _, _, rfl, (rel0 hr49), hat49⟩⟩
                  refine ops_cons (fun f w_ hS hE hP => ?_) ?_
                  ·
                    have hx := ext_trans hx hE
                    obtain ⟨g50, o50, cs50, hv50, hr50, hat50⟩ := (hP 4 70 rfl rfl)
                    obtain ⟨u50_0, u50_1, u50_2, rfl, hu50_0, hu50_1, hu50_2⟩ := rRule_iff.1 hr50
                    refine L_lda (cs := [.int .i64 x41.kind, u50_0, u50_1, .int .i64 x41.bound, u50_2]) rfl Try.isAgg68 Try.sizeOf68 hv50 (At.sub hat50 0 5) rfl ?_
                    exact L_nil ⟨rfl, (ext_refl _), _, _, rfl, rfl, ⟨[.int .i64 x41.kind, u50_0, u50_1, .int .i64 x41.bound, u50_2], rfl, (rRule_iff.2 ⟨_, _, _, rfl, (rel0 hu50_0), (rel0 hu50_1), (rel0 hu50_2)⟩)⟩⟩
                  exact ops_nil
                ·
                  have h0_0 := RP.ext h0_0 hE
                  have h0_1 := RP.ext h0_1 hE
                  have hb_g3 := Blk.ext hb_g3 hE
                  have hx := ext_trans hx hE
                  obtain ⟨cs51, hv51, hr51⟩ := (hT 5 71 rfl rfl)
                  obtain ⟨u51_0, u51_1, u51_2, rfl, hu51_0, hu51_1, hu51_2⟩ := rRule_iff.1 hr51
                  refine L_call (args := #[.agg #[v0_0, v0_1], .agg #[.int .i64 x41.kind, u51_0, u51_1, .int .i64 x41.bound, u51_2]]) rfl Try.call66 (ops2 (hT 0 66 rfl rfl) hv51) (s_l6Rule_c (m := m) (r_ := x41) (Nat.le_trans hB hx.size) (rel0 h0_0) (rel0 h0_1) (rel0 hu51_0) (rel0 hu51_1) (rel0 hu51_2) hx44) ?_
                  rintro _ w52 ⟨rfl, he52⟩
                  have h0_0 := RP.ext h0_0 he52
                  have h0_1 := RP.ext h0_1 he52
                  have hb_g3 := Blk.ext hb_g3 he52
                  have hu51_0 := RP.ext hu51_0 he52
                  have hu51_1 := RP.ext hu51_1 he52
                  have hu51_2 := RP.ext hu51_2 he52
                  have hx := ext_trans hx he52
                  refine L_not_ (b := x44) rfl rfl ?_
                  refine L_nil ?_
                  refine W_cond (b := (!x44)) rfl (fun hc53 => ?_) (fun hc53 => ?_)
                  ·
                    have hB39 := (ite_t hc53).symm.trans hB39
                    refine W_seq ?_
                    refine W_region ?_
                    refine L_as (v := .bool false) rfl rfl ?_
                    refine L_nil ?_
                    refine W_ret ?_
                    obtain rfl := so hB39
                    obtain rfl := so hL39
                    obtain rfl := so hF
                    refine ret1 Try.results44 ?_
                    exact ⟨rfl, hx⟩
                  ·
                    have hB39 := (ite_f hc53).symm.trans hB39
                    refine W_skip ?_
                    refine W_region ?_
                    refine L_mv (v := .int .i64 i_38) rfl ((hS 5 rfl).trans sf5) ?_
                    refine L_add (m := i_38) (n := 1) rfl rfl rfl ?_
                    refine L_as (v := .int .i64 (i64 (i_38 + 1))) rfl rfl ?_
                    refine L_nil ?_
                    obtain rfl := so hB39
                    show ∃ m, m < _ ∧ I39 m _ _
                    refine ⟨n39, Nat.lt_succ_self _, ?_⟩
                    rw [hI39]
                    exact ⟨i64 (i_38 + 1), hL39, ((hS 1 rfl).trans sf1), rfl, h0_0, h0_1, hb_g3, hx⟩
              ·
                have hB39 := (ite_f hc40).symm.trans hB39
                refine W_exit ?_
                obtain rfl := so hB39
                obtain rfl := so hL39
                show R39 _ _
                rw [hR39]
                exact ⟨i_38, rfl, hx⟩
        ·
          intro f w_ hR
          rw [hR39] at hR
          obtain ⟨i_38, rfl, hx⟩ := hR
          clear hR39
          refine W_seq ?_
          refine W_region ?_
          refine L_as (v := .bool true) rfl rfl ?_
          refine L_nil ?_
          refine W_ret ?_
          obtain rfl := so hF
          refine ret1 Try.results44 ?_
          exact ⟨rfl, hx⟩

theorem s_l7Var_c {fu : Nat} {m : Model} {cell : Int} {value : Int} {v0_0 : Value} {v0_1 : Value} {w : World} {B : Nat} (hB : B ≤ w.heap.size) (h0_0 : (RP.slice 3 RP.int).rel B w.heap.size w [v0_0] m.sizes) (h0_1 : (RP.slice 68 (rRule 3 22)).rel B w.heap.size w [v0_1] m.rules) {r : Int} (hF : s_l7Var fu m cell value = some r) :
    C Try.prog 45 #[.agg #[v0_0, v0_1], .int .i64 cell, .int .i64 value] w fun v w' => (v = .int .i64 r) ∧ Ext w w' := by
  unfold s_l7Var at hF
  have hx := ext_refl w
  refine C_enter Try.func45 rfl Try.ntmps45 rfl ?_
  refine W_seq ?_
  refine W_region ?_
  refine L_box (v := .agg #[v0_0, v0_1]) (cs := #[v0_0, v0_1]) rfl rfl rfl ?_
  intro g3 w4 hn4
  have hge_g3 := hn4.ge hx
  have hb_g3 := hn4.blk
  have h0_0 := RP.ext h0_0 hn4.ext
  have h0_1 := RP.ext h0_1 hn4.ext
  have hx := ext_trans hx hn4.ext
  refine L_as (v := .int .i64 0) rfl rfl ?_
  refine L_nil ?_
  refine W_seq ?_
  refine W_region ?_
  refine L_mv (v := .int .i64 value) rfl rfl ?_
  refine L_add (m := 1) (n := value) rfl rfl rfl ?_
  refine L_as (v := .int .i64 (i64 (1 + value))) rfl rfl ?_
  refine L_nil ?_
  refine W_seq ?_
  refine W_seq ?_
  refine W_region ?_
  refine L_as (v := .int .i64 0) rfl rfl ?_
  refine L_nil ?_
  obtain ⟨j8, hL8, hF⟩ := bind_some hF
  obtain ⟨R8, hR8⟩ : ∃ R : Fr → World → Prop, R = fun f w_ => ∃ n_6 : Int, ∃ i_7 : Int, j8 = .nx (n_6, i_7) ∧ f 7 = .int .i64 n_6 ∧ Ext w w_ := ⟨_, rfl⟩
  refine W_join R8 ?_ ?_
  ·
    refine W_block ?_
    obtain ⟨I8, hI8⟩ : ∃ I : Nat → Fr → World → Prop, I = fun n f w_ => ∃ n_6 : Int, ∃ i_7 : Int, whileL (s_l7Var_b1 m cell) n (n_6, i_7) = some j8 ∧ f 1 = .int .i64 cell ∧ f 3 = .pointer (some ⟨g3, 0, none⟩) ∧ f 7 = .int .i64 n_6 ∧ f 8 = .int .i64 i_7 ∧ (RP.slice 3 RP.int).rel B w.heap.size w_ [v0_0] m.sizes ∧ (RP.slice 68 (rRule 3 22)).rel B w.heap.size w_ [v0_1] m.rules ∧ Blk w_ g3 30 #[v0_0, v0_1] ∧ Ext w w_ := ⟨_, rfl⟩
    refine W_loop I8 (n := fu) ?_ ?_
    · rw [hI8]; exact ⟨i64 (1 + value), 0, hL8, rfl, rfl, rfl, rfl, h0_0, h0_1, hb_g3, hx⟩
    ·
      intro n8 f w_ hI
      rw [hI8] at hI
      obtain ⟨n_6, i_7, hL8, sf1, sf3, sf7, sf8, h0_0, h0_1, hb_g3, hx⟩ := hI
      cases n8 with
      | zero => exact (while_zero hL8).elim
      | succ n8 =>
        obtain ⟨o8, hB8, hL8⟩ := while_succ hL8
        rw [s_l7Var_b1] at hB8
        refine W_seq ?_
        refine W_seq ?_
        refine W_region ?_
        refine L_mv (v := .int .i64 i_7) rfl sf8 ?_
        refine L_mv (v := .int .i64 cell) rfl sf1 ?_
        refine L_lss (m := i_7) (n := cell) rfl rfl rfl ?_
        refine L_nil ?_
        refine W_cond (b := decide (i_7 < cell)) rfl (fun hc9 => ?_) (fun hc9 => ?_)
        ·
          have hB8 := (ite_t hc9).symm.trans hB8
          refine W_skip ?_
          refine W_seq ?_
          refine W_block ?_
          obtain ⟨x10, hx10, hB8⟩ := bind_some hB8
          refine W_region ?_
          refine L_mv (v := .int .i64 n_6) rfl sf7 ?_
          refine L_fa (o' := 0) rfl fa_30_0 sf3 rfl ?_
          refine L_ld (v := v0_0) rfl Try.isAgg22 rfl (hb_g3.cell (j := 0) rfl) ?_
          refine L_mv (v := .int .i64 i_7) rfl sf8 ?_
          refine L_ix (r := RP.int) rfl Try.underlying22 Try.sizeOf3 rfl h0_0 rfl hx10 ?_
          intro g13 o14 cs14 hr14 hat14
          obtain rfl : _ = [_] := hr14
          refine L_ld (v := .int .i64 x10) rfl Try.isAgg3 rfl (hat14.cell (j := 0) rfl) ?_
          refine L_add (m := n_6) (n := x10) rfl rfl rfl ?_
          refine L_add (m := i64 (n_6 + x10)) (n := 1) rfl rfl rfl ?_
          refine L_as (v := .int .i64 (i64 ((i64 (n_6 + x10)) + 1))) rfl rfl ?_
          refine L_nil ?_
          refine W_region ?_
          refine L_mv (v := .int .i64 i_7) rfl sf8 ?_
          refine L_add (m := i_7) (n := 1) rfl rfl rfl ?_
          refine L_as (v := .int .i64 (i64 (i_7 + 1))) rfl rfl ?_
          refine L_nil ?_
          obtain rfl := so hB8
          show ∃ m, m < _ ∧ I8 m _ _
          refine ⟨n8, Nat.lt_succ_self _, ?_⟩
          rw [hI8]
          exact ⟨i64 ((i64 (n_6 + x10)) + 1), i64 (i_7 + 1), hL8, sf1, sf3, rfl, rfl, h0_0, h0_1, hb_g3, hx⟩
        ·
          have hB8 := (ite_f hc9).symm.trans hB8
          refine W_exit ?_
          obtain rfl := so hB8
          obtain rfl := so hL8
          show R8 _ _
          rw [hR8]
          exact ⟨n_6, i_7, rfl, sf7, hx⟩
  ·
    intro f w_ hR
    rw [hR8] at hR
    obtain ⟨n_6, i_7, rfl, sf7, hx⟩ := hR
    clear hR8
    refine W_seq ?_
    refine W_region ?_
    refine L_mv (v := .int .i64 n_6) rfl sf7 ?_
    refine L_as (v := .int .i64 n_6) rfl rfl ?_
    refine L_nil ?_
    refine W_ret ?_
    obtain rfl := so hF
    refine ret1 Try.results45 ?_
    exact ⟨rfl, hx⟩

theorem s_BoolVar_c {fu : Nat} {m : Model} {cell : Int} {value : Int} {v0_0 : Value} {v0_1 : Value} {w : World} {B : Nat} (hB : B ≤ w.heap.size) (h0_0 : (RP.slice 3 RP.int).rel B w.heap.size w [v0_0] m.sizes) (h0_1 : (RP.slice 68 (rRule 3 22)).rel B w.heap.size w [v0_1] m.rules) {r : Int} (hF : s_BoolVar fu m cell value = some r) :
    C Try.prog 12 #[.agg #[v0_0, v0_1], .int .i64 cell, .int .i64 value] w fun v w' => (v = .int .i64 r) ∧ Ext w w' := by
  unfold s_BoolVar at hF
  have hx := ext_refl w
  refine C_enter Try.func12 rfl Try.ntmps12 rfl ?_
  refine W_seq ?_
  refine W_region ?_
  refine L_box (v := .agg #[v0_0, v0_1]) (cs := #[v0_0, v0_1]) rfl rfl rfl ?_
  intro g3 w4 hn4
  have hge_g3 := hn4.ge hx
  have hb_g3 := hn4.blk
  have h0_0 := RP.ext h0_0 hn4.ext
  have h0_1 := RP.ext h0_1 hn4.ext
  have hx := ext_trans hx hn4.ext
  refine L_as (v := .int .i64 0) rfl rfl ?_
  refine L_nil ?_
  refine W_seq ?_
  refine W_seq ?_
  obtain ⟨x5, hx5, hF⟩ := bind_some hF
  obtain ⟨b10, hb10, hF⟩ := bind_some hF
  obtain ⟨R11, hR11⟩ : ∃ R : Fr → World → Prop, R = fun f w_ => f 1 = .int .i64 cell ∧ f 2 = .int .i64 value ∧ f 3 = .pointer (some ⟨g3, 0, none⟩) ∧ f 33 = .bool b10 ∧ (RP.slice 3 RP.int).rel B w.heap.size w_ [v0_0] m.sizes ∧ (RP.slice 68 (rRule 3 22)).rel B w.heap.size w_ [v0_1] m.rules ∧ Blk w_ g3 30 #[v0_0, v0_1] ∧ Ext w w_ := ⟨_, rfl⟩
  refine W_join R11 ?_ ?_
  ·
    refine W_region ?_
    refine L_lda (cs := [v0_0, v0_1]) rfl Try.isAgg30 Try.sizeOf30 rfl (Blk.sub hb_g3 0 2) rfl ?_
    refine L_call (args := #[.agg #[v0_0, v0_1]]) rfl Try.call44 (ops1 rfl) (s_ModelValid_c (m := m) (Nat.le_trans hB hx.size) (rel0 h0_0) (rel0 h0_1) hx5) ?_
    rintro _ w12 ⟨rfl, he12⟩
    have h0_0 := RP.ext h0_0 he12
    have h0_1 := RP.ext h0_1 he12
    have hb_g3 := Blk.ext hb_g3 he12
    have hx := ext_trans hx he12
    refine L_not_ (b := x5) rfl rfl ?_
    refine L_mv (v := .bool (!x5)) rfl rfl ?_
    refine L_split (d := 10) (b := (!x5)) rfl (fun hc13 => ?_) (fun hc13 => ?_)
    ·
      refine L_pass rfl ?_
      refine L_pass rfl ?_
      refine L_pick (v := .bool ((!x5) || (decide (cell < 0)))) rfl rfl (or_t hc13) ?_
      refine L_mv (v := .bool ((!x5) || (decide (cell < 0)))) rfl rfl ?_
      refine L_split (d := 14) (b := ((!x5) || (decide (cell < 0)))) rfl (fun hc14 => ?_) (fun hc14 => ?_)
      ·
        refine L_pass rfl ?_
        refine L_pass rfl ?_
        refine L_pass rfl ?_
        refine L_pass rfl ?_
        refine L_pass rfl ?_
        refine L_pick (v := .bool (((!x5) || (decide (cell < 0))) || (decide (cell ≥ (m.sizes.length : Int))))) rfl rfl (or_t hc14) ?_
        refine L_mv (v := .bool (((!x5) || (decide (cell < 0))) || (decide (cell ≥ (m.sizes.length : Int))))) rfl rfl ?_
        refine L_split (d := 21) (b := (((!x5) || (decide (cell < 0))) || (decide (cell ≥ (m.sizes.length : Int))))) rfl (fun hc15 => ?_) (fun hc15 => ?_)
        ·
          refine L_pass rfl ?_
          refine L_pass rfl ?_
          refine L_pick (v := .bool ((((!x5) || (decide (cell < 0))) || (decide (cell ≥ (m.sizes.length : Int)))) || (decide (value < 0)))) rfl rfl (or_t hc15) ?_
          refine L_mv (v := .bool ((((!x5) || (decide (cell < 0))) || (decide (cell ≥ (m.sizes.length : Int)))) || (decide (value < 0)))) rfl rfl ?_
          refine L_split (d := 25) (b := ((((!x5) || (decide (cell < 0))) || (decide (cell ≥ (m.sizes.length : Int)))) || (decide (value < 0)))) rfl (fun hc16 => ?_) (fun hc16 => ?_)
          ·
            rw [ite_t hc16] at hb10
            refine L_pass rfl ?_
            refine L_pass rfl ?_
            refine L_pass rfl ?_
            refine L_pass rfl ?_
            refine L_pass rfl ?_
            refine L_pass rfl ?_
            refine L_pass rfl ?_
            refine L_pick (v := .bool b10) rfl rfl (congrArg Value.bool (so hb10)) ?_
            refine L_nil ?_
            show R11 _ _
            rw [hR11]
            exact ⟨rfl, rfl, rfl, rfl, h0_0, h0_1, hb_g3, hx⟩
          ·
            rw [ite_f hc16] at hb10
            obtain ⟨x7, hx7, hb10⟩ := bind_some hb10
            refine L_mv (v := .int .i64 value) rfl rfl ?_
            refine L_fa (o' := 0) rfl fa_30_0 rfl rfl ?_
            refine L_ld (v := v0_0) rfl Try.isAgg22 rfl (hb_g3.cell (j := 0) rfl) ?_
            refine L_mv (v := .int .i64 cell) rfl rfl ?_
            refine L_ix (r := RP.int) rfl Try.underlying22 Try.sizeOf3 rfl h0_0 rfl hx7 ?_
            intro g17 o18 cs18 hr18 hat18
            obtain rfl : _ = [_] := hr18
            refine L_ld (v := .int .i64 x7) rfl Try.isAgg3 rfl (hat18.cell (j := 0) rfl) ?_
            refine L_gtr (m := value) (n := x7) rfl rfl rfl ?_
            refine L_pick (v := .bool b10) rfl rfl (congrArg Value.bool (so hb10)) ?_
            refine L_nil ?_
            show R11 _ _
            rw [hR11]
            exact ⟨rfl, rfl, rfl, rfl, h0_0, h0_1, hb_g3, hx⟩
        ·
          refine L_mv (v := .int .i64 value) rfl rfl ?_
          refine L_lss (m := value) (n := 0) rfl rfl rfl ?_
          refine L_pick (v := .bool ((((!x5) || (decide (cell < 0))) || (decide (cell ≥ (m.sizes.length : Int)))) || (decide (value < 0)))) rfl rfl (or_f hc15 rfl) ?_
          refine L_mv (v := .bool ((((!x5) || (decide (cell < 0))) || (decide (cell ≥ (m.sizes.length : Int)))) || (decide (value < 0)))) rfl rfl ?_
          refine L_split (d := 25) (b := ((((!x5) || (decide (cell < 0))) || (decide (cell ≥ (m.sizes.length : Int)))) || (decide (value < 0)))) rfl (fun hc19 => ?_) (fun hc19 => ?_)
          ·
            rw [ite_t hc19] at hb10
            refine L_pass rfl ?_
            refine L_pass rfl ?_
            refine L_pass rfl ?_
            refine L_pass rfl ?_
            refine L_pass rfl ?_
            refine L_pass rfl ?_
            refine L_pass rfl ?_
            refine L_pick (v := .bool b10) rfl rfl (congrArg Value.bool (so hb10)) ?_
            refine L_nil ?_
            show R11 _ _
            rw [hR11]
            exact ⟨rfl, rfl, rfl, rfl, h0_0, h0_1, hb_g3, hx⟩
          ·
            rw [ite_f hc19] at hb10
            obtain ⟨x7, hx7, hb10⟩ := bind_some hb10
            refine L_mv (v := .int .i64 value) rfl rfl ?_
            refine L_fa (o' := 0) rfl fa_30_0 rfl rfl ?_
            refine L_ld (v := v0_0) rfl Try.isAgg22 rfl (hb_g3.cell (j := 0) rfl) ?_
            refine L_mv (v := .int .i64 cell) rfl rfl ?_
            refine L_ix (r := RP.int) rfl Try.underlying22 Try.sizeOf3 rfl h0_0 rfl hx7 ?_
            intro g20 o21 cs21 hr21 hat21
            obtain rfl : _ = [_] := hr21
            refine L_ld (v := .int .i64 x7) rfl Try.isAgg3 rfl (hat21.cell (j := 0) rfl) ?_
            refine L_gtr (m := value) (n := x7) rfl rfl rfl ?_
            refine L_pick (v := .bool b10) rfl rfl (congrArg Value.bool (so hb10)) ?_
            refine L_nil ?_
            show R11 _ _
            rw [hR11]
            exact ⟨rfl, rfl, rfl, rfl, h0_0, h0_1, hb_g3, hx⟩
      ·
        refine L_mv (v := .int .i64 cell) rfl rfl ?_
        refine L_fa (o' := 0) rfl fa_30_0 rfl rfl ?_
        refine L_ld (v := v0_0) rfl Try.isAgg22 rfl (hb_g3.cell (j := 0) rfl) ?_
        refine L_len (v := v0_0) rfl Try.underlying22 rfl h0_0 ?_
        refine L_geq (m := cell) (n := (m.sizes.length : Int)) rfl rfl rfl ?_
        refine L_pick (v := .bool (((!x5) || (decide (cell < 0))) || (decide (cell ≥ (m.sizes.length : Int))))) rfl rfl (or_f hc14 rfl) ?_
        refine L_mv (v := .bool (((!x5) || (decide (cell < 0))) || (decide (cell ≥ (m.sizes.length : Int))))) rfl rfl ?_
        refine L_split (d := 21) (b := (((!x5) || (decide (cell < 0))) || (decide (cell ≥ (m.sizes.length : Int))))) rfl (fun hc22 => ?_) (fun hc22 => ?_)
        ·
          refine L_pass rfl ?_
          refine L_pass rfl ?_
          refine L_pick (v := .bool ((((!x5) || (decide (cell < 0))) || (decide (cell ≥ (m.sizes.length : Int)))) || (decide (value < 0)))) rfl rfl (or_t hc22) ?_
          refine L_mv (v := .bool ((((!x5) || (decide (cell < 0))) || (decide (cell ≥ (m.sizes.length : Int)))) || (decide (value < 0)))) rfl rfl ?_
          refine L_split (d := 25) (b := ((((!x5) || (decide (cell < 0))) || (decide (cell ≥ (m.sizes.length : Int)))) || (decide (value < 0)))) rfl (fun hc23 => ?_) (fun hc23 => ?_)
          ·
            rw [ite_t hc23] at hb10
            refine L_pass rfl ?_
            refine L_pass rfl ?_
            refine L_pass rfl ?_
            refine L_pass rfl ?_
            refine L_pass rfl ?_
            refine L_pass rfl ?_
            refine L_pass rfl ?_
            refine L_pick (v := .bool b10) rfl rfl (congrArg Value.bool (so hb10)) ?_
            refine L_nil ?_
            show R11 _ _
            rw [hR11]
            exact ⟨rfl, rfl, rfl, rfl, h0_0, h0_1, hb_g3, hx⟩
          ·
            rw [ite_f hc23] at hb10
            obtain ⟨x7, hx7, hb10⟩ := bind_some hb10
            refine L_mv (v := .int .i64 value) rfl rfl ?_
            refine L_fa (o' := 0) rfl fa_30_0 rfl rfl ?_
            refine L_ld (v := v0_0) rfl Try.isAgg22 rfl (hb_g3.cell (j := 0) rfl) ?_
            refine L_mv (v := .int .i64 cell) rfl rfl ?_
            refine L_ix (r := RP.int) rfl Try.underlying22 Try.sizeOf3 rfl h0_0 rfl hx7 ?_
            intro g24 o25 cs25 hr25 hat25
            obtain rfl : _ = [_] := hr25
            refine L_ld (v := .int .i64 x7) rfl Try.isAgg3 rfl (hat25.cell (j := 0) rfl) ?_
            refine L_gtr (m := value) (n := x7) rfl rfl rfl ?_
            refine L_pick (v := .bool b10) rfl rfl (congrArg Value.bool (so hb10)) ?_
            refine L_nil ?_
            show R11 _ _
            rw [hR11]
            exact ⟨rfl, rfl, rfl, rfl, h0_0, h0_1, hb_g3, hx⟩
        ·
          refine L_mv (v := .int .i64 value) rfl rfl ?_
          refine L_lss (m := value) (n := 0) rfl rfl rfl ?_
          refine L_pick (v := .bool ((((!x5) || (decide (cell < 0))) || (decide (cell ≥ (m.sizes.length : Int)))) || (decide (value < 0)))) rfl rfl (or_f hc22 rfl) ?_
          refine L_mv (v := .bool ((((!x5) || (decide (cell < 0))) || (decide (cell ≥ (m.sizes.length : Int)))) || (decide (value < 0)))) rfl rfl ?_
          refine L_split (d := 25) (b := ((((!x5) || (decide (cell < 0))) || (decide (cell ≥ (m.sizes.length : Int)))) || (decide (value < 0)))) rfl (fun hc26 => ?_) (fun hc26 => ?_)
          ·
            rw [ite_t hc26] at hb10
            refine L_pass rfl ?_
            refine L_pass rfl ?_
            refine L_pass rfl ?_
            refine L_pass rfl ?_
            refine L_pass rfl ?_
            refine L_pass rfl ?_
            refine L_pass rfl ?_
            refine L_pick (v := .bool b10) rfl rfl (congrArg Value.bool (so hb10)) ?_
            refine L_nil ?_
            show R11 _ _
            rw [hR11]
            exact ⟨rfl, rfl, rfl, rfl, h0_0, h0_1, hb_g3, hx⟩
          ·
            rw [ite_f hc26] at hb10
            obtain ⟨x7, hx7, hb10⟩ := bind_some hb10
            refine L_mv (v := .int .i64 value) rfl rfl ?_
            refine L_fa (o' := 0) rfl fa_30_0 rfl rfl ?_
            refine L_ld (v := v0_0) rfl Try.isAgg22 rfl (hb_g3.cell (j := 0) rfl) ?_
            refine L_mv (v := .int .i64 cell) rfl rfl ?_
            refine L_ix (r := RP.int) rfl Try.underlying22 Try.sizeOf3 rfl h0_0 rfl hx7 ?_
            intro g27 o28 cs28 hr28 hat28
            obtain rfl : _ = [_] := hr28
            refine L_ld (v := .int .i64 x7) rfl Try.isAgg3 rfl (hat28.cell (j := 0) rfl) ?_
            refine L_gtr (m := value) (n := x7) rfl rfl rfl ?_
            refine L_pick (v := .bool b10) rfl rfl (congrArg Value.bool (so hb10)) ?_
            refine L_nil ?_
            show R11 _ _
            rw [hR11]
            exact ⟨rfl, rfl, rfl, rfl, h0_0, h0_1, hb_g3, hx⟩
    ·
      refine L_mv (v := .int .i64 cell) rfl rfl ?_
      refine L_lss (m := cell) (n := 0) rfl rfl rfl ?_
      refine L_pick (v := .bool ((!x5) || (decide (cell < 0)))) rfl rfl (or_f hc13 rfl) ?_
      refine L_mv (v := .bool ((!x5) || (decide (cell < 0)))) rfl rfl ?_
      refine L_split (d := 14) (b := ((!x5) || (decide (cell < 0)))) rfl (fun hc29 => ?_) (fun hc29 => ?_)
      ·
        refine L_pass rfl ?_
        refine L_pass rfl ?_
        refine L_pass rfl ?_
        refine L_pass rfl ?_
        refine L_pass rfl ?_
        refine L_pick (v := .bool (((!x5) || (decide (cell < 0))) || (decide (cell ≥ (m.sizes.length : Int))))) rfl rfl (or_t hc29) ?_
        refine L_mv (v := .bool (((!x5) || (decide (cell < 0))) || (decide (cell ≥ (m.sizes.length : Int))))) rfl rfl ?_
        refine L_split (d := 21) (b := (((!x5) || (decide (cell < 0))) || (decide (cell ≥ (m.sizes.length : Int))))) rfl (fun hc30 => ?_) (fun hc30 => ?_)
        ·
          refine L_pass rfl ?_
          refine L_pass rfl ?_
          refine L_pick (v := .bool ((((!x5) || (decide (cell < 0))) || (decide (cell ≥ (m.sizes.length : Int)))) || (decide (value < 0)))) rfl rfl (or_t hc30) ?_
          refine L_mv (v := .bool ((((!x5) || (decide (cell < 0))) || (decide (cell ≥ (m.sizes.length : Int)))) || (decide (value < 0)))) rfl rfl ?_
          refine L_split (d := 25) (b := ((((!x5) || (decide (cell < 0))) || (decide (cell ≥ (m.sizes.length : Int)))) || (decide (value < 0)))) rfl (fun hc31 => ?_) (fun hc31 => ?_)
          ·
            rw [ite_t hc31] at hb10
            refine L_pass rfl ?_
            refine L_pass rfl ?_
            refine L_pass rfl ?_
            refine L_pass rfl ?_
            refine L_pass rfl ?_
            refine L_pass rfl ?_
            refine L_pass rfl ?_
            refine L_pick (v := .bool b10) rfl rfl (congrArg Value.bool (so hb10)) ?_
            refine L_nil ?_
            show R11 _ _
            rw [hR11]
            exact ⟨rfl, rfl, rfl, rfl, h0_0, h0_1, hb_g3, hx⟩
          ·
            rw [ite_f hc31] at hb10
            obtain ⟨x7, hx7, hb10⟩ := bind_some hb10
            refine L_mv (v := .int .i64 value) rfl rfl ?_
            refine L_fa (o' := 0) rfl fa_30_0 rfl rfl ?_
            refine L_ld (v := v0_0) rfl Try.isAgg22 rfl (hb_g3.cell (j := 0) rfl) ?_
            refine L_mv (v := .int .i64 cell) rfl rfl ?_
            refine L_ix (r := RP.int) rfl Try.underlying22 Try.sizeOf3 rfl h0_0 rfl hx7 ?_
            intro g32 o33 cs33 hr33 hat33
            obtain rfl : _ = [_] := hr33
            refine L_ld (v := .int .i64 x7) rfl Try.isAgg3 rfl (hat33.cell (j := 0) rfl) ?_
            refine L_gtr (m := value) (n := x7) rfl rfl rfl ?_
            refine L_pick (v := .bool b10) rfl rfl (congrArg Value.bool (so hb10)) ?_
            refine L_nil ?_
            show R11 _ _
            rw [hR11]
            exact ⟨rfl, rfl, rfl, rfl, h0_0, h0_1, hb_g3, hx⟩
        ·
          refine L_mv (v := .int .i64 value) rfl rfl ?_
          refine L_lss (m := value) (n := 0) rfl rfl rfl ?_
          refine L_pick (v := .bool ((((!x5) || (decide (cell < 0))) || (decide (cell ≥ (m.sizes.length : Int)))) || (decide (value < 0)))) rfl rfl (or_f hc30 rfl) ?_
          refine L_mv (v := .bool ((((!x5) || (decide (cell < 0))) || (decide (cell ≥ (m.sizes.length : Int)))) || (decide (value < 0)))) rfl rfl ?_
          refine L_split (d := 25) (b := ((((!x5) || (decide (cell < 0))) || (decide (cell ≥ (m.sizes.length : Int)))) || (decide (value < 0)))) rfl (fun hc34 => ?_) (fun hc34 => ?_)
          ·
            rw [ite_t hc34] at hb10
            refine L_pass rfl ?_
            refine L_pass rfl ?_
            refine L_pass rfl ?_
            refine L_pass rfl ?_
            refine L_pass rfl ?_
            refine L_pass rfl ?_
            refine L_pass rfl ?_
            refine L_pick (v := .bool b10) rfl rfl (congrArg Value.bool (so hb10)) ?_
            refine L_nil ?_
            show R11 _ _
            rw [hR11]
            exact ⟨rfl, rfl, rfl, rfl, h0_0, h0_1, hb_g3, hx⟩
          ·
            rw [ite_f hc34] at hb10
            obtain ⟨x7, hx7, hb10⟩ := bind_some hb10
            refine L_mv (v := .int .i64 value) rfl rfl ?_
            refine L_fa (o' := 0) rfl fa_30_0 rfl rfl ?_
            refine L_ld (v := v0_0) rfl Try.isAgg22 rfl (hb_g3.cell (j := 0) rfl) ?_
            refine L_mv (v := .int .i64 cell) rfl rfl ?_
            refine L_ix (r := RP.int) rfl Try.underlying22 Try.sizeOf3 rfl h0_0 rfl hx7 ?_
            intro g35 o36 cs36 hr36 hat36
            obtain rfl : _ = [_] := hr36
            refine L_ld (v := .int .i64 x7) rfl Try.isAgg3 rfl (hat36.cell (j := 0) rfl) ?_
            refine L_gtr (m := value) (n := x7) rfl rfl rfl ?_
            refine L_pick (v := .bool b10) rfl rfl (congrArg Value.bool (so hb10)) ?_
            refine L_nil ?_
            show R11 _ _
            rw [hR11]
            exact ⟨rfl, rfl, rfl, rfl, h0_0, h0_1, hb_g3, hx⟩
      ·
        refine L_mv (v := .int .i64 cell) rfl rfl ?_
        refine L_fa (o' := 0) rfl fa_30_0 rfl rfl ?_
        refine L_ld (v := v0_0) rfl Try.isAgg22 rfl (hb_g3.cell (j := 0) rfl) ?_
        refine L_len (v := v0_0) rfl Try.underlying22 rfl h0_0 ?_
        refine L_geq (m := cell) (n := (m.sizes.length : Int)) rfl rfl rfl ?_
        refine L_pick (v := .bool (((!x5) || (decide (cell < 0))) || (decide (cell ≥ (m.sizes.length : Int))))) rfl rfl (or_f hc29 rfl) ?_
        refine L_mv (v := .bool (((!x5) || (decide (cell < 0))) || (decide (cell ≥ (m.sizes.length : Int))))) rfl rfl ?_
        refine L_split (d := 21) (b := (((!x5) || (decide (cell < 0))) || (decide (cell ≥ (m.sizes.length : Int))))) rfl (fun hc37 => ?_) (fun hc37 => ?_)
        ·
          refine L_pass rfl ?_
          refine L_pass rfl ?_
          refine L_pick (v := .bool ((((!x5) || (decide (cell < 0))) || (decide (cell ≥ (m.sizes.length : Int)))) || (decide (value < 0)))) rfl rfl (or_t hc37) ?_
          refine L_mv (v := .bool ((((!x5) || (decide (cell < 0))) || (decide (cell ≥ (m.sizes.length : Int)))) || (decide (value < 0)))) rfl rfl ?_
          refine L_split (d := 25) (b := ((((!x5) || (decide (cell < 0))) || (decide (cell ≥ (m.sizes.length : Int)))) || (decide (value < 0)))) rfl (fun hc38 => ?_) (fun hc38 => ?_)
          ·
            rw [ite_t hc38] at hb10
            refine L_pass rfl ?_
            refine L_pass rfl ?_
            refine L_pass rfl ?_
            refine L_pass rfl ?_
            refine L_pass rfl ?_
            refine L_pass rfl ?_
            refine L_pass rfl ?_
            refine L_pick (v := .bool b10) rfl rfl (congrArg Value.bool (so hb10)) ?_
            refine L_nil ?_
            show R11 _ _
            rw [hR11]
            exact ⟨rfl, rfl, rfl, rfl, h0_0, h0_1, hb_g3, hx⟩
          ·
            rw [ite_f hc38] at hb10
            obtain ⟨x7, hx7, hb10⟩ := bind_some hb10
            refine L_mv (v := .int .i64 value) rfl rfl ?_
            refine L_fa (o' := 0) rfl fa_30_0 rfl rfl ?_
            refine L_ld (v := v0_0) rfl Try.isAgg22 rfl (hb_g3.cell (j := 0) rfl) ?_
            refine L_mv (v := .int .i64 cell) rfl rfl ?_
            refine L_ix (r := RP.int) rfl Try.underlying22 Try.sizeOf3 rfl h0_0 rfl hx7 ?_
            intro g39 o40 cs40 hr40 hat40
            obtain rfl : _ = [_] := hr40
            refine L_ld (v := .int .i64 x7) rfl Try.isAgg3 rfl (hat40.cell (j := 0) rfl) ?_
            refine L_gtr (m := value) (n := x7) rfl rfl rfl ?_
            refine L_pick (v := .bool b10) rfl rfl (congrArg Value.bool (so hb10)) ?_
            refine L_nil ?_
            show R11 _ _
            rw [hR11]
            exact ⟨rfl, rfl, rfl, rfl, h0_0, h0_1, hb_g3, hx⟩
        ·
          refine L_mv (v := .int .i64 value) rfl rfl ?_
          refine L_lss (m := value) (n := 0) rfl rfl rfl ?_
          refine L_pick (v := .bool ((((!x5) || (decide (cell < 0))) || (decide (cell ≥ (m.sizes.length : Int)))) || (decide (value < 0)))) rfl rfl (or_f hc37 rfl) ?_
          refine L_mv (v := .bool ((((!x5) || (decide (cell < 0))) || (decide (cell ≥ (m.sizes.length : Int)))) || (decide (value < 0)))) rfl rfl ?_
          refine L_split (d := 25) (b := ((((!x5) || (decide (cell < 0))) || (decide (cell ≥ (m.sizes.length : Int)))) || (decide (value < 0)))) rfl (fun hc41 => ?_) (fun hc41 => ?_)
          ·
            rw [ite_t hc41] at hb10
            refine L_pass rfl ?_
            refine L_pass rfl ?_
            refine L_pass rfl ?_
            refine L_pass rfl ?_
            refine L_pass rfl ?_
            refine L_pass rfl ?_
            refine L_pass rfl ?_
            refine L_pick (v := .bool b10) rfl rfl (congrArg Value.bool (so hb10)) ?_
            refine L_nil ?_
            show R11 _ _
            rw [hR11]
            exact ⟨rfl, rfl, rfl, rfl, h0_0, h0_1, hb_g3, hx⟩
          ·
            rw [ite_f hc41] at hb10
            obtain ⟨x7, hx7, hb10⟩ := bind_some hb10
            refine L_mv (v := .int .i64 value) rfl rfl ?_
            refine L_fa (o' := 0) rfl fa_30_0 rfl rfl ?_
            refine L_ld (v := v0_0) rfl Try.isAgg22 rfl (hb_g3.cell (j := 0) rfl) ?_
            refine L_mv (v := .int .i64 cell) rfl rfl ?_
            refine L_ix (r := RP.int) rfl Try.underlying22 Try.sizeOf3 rfl h0_0 rfl hx7 ?_
            intro g42 o43 cs43 hr43 hat43
            obtain rfl : _ = [_] := hr43
            refine L_ld (v := .int .i64 x7) rfl Try.isAgg3 rfl (hat43.cell (j := 0) rfl) ?_
            refine L_gtr (m := value) (n := x7) rfl rfl rfl ?_
            refine L_pick (v := .bool b10) rfl rfl (congrArg Value.bool (so hb10)) ?_
            refine L_nil ?_
            show R11 _ _
            rw [hR11]
            exact ⟨rfl, rfl, rfl, rfl, h0_0, h0_1, hb_g3, hx⟩
  ·
    intro f w_ hR
    rw [hR11] at hR
    obtain ⟨sf1, sf2, sf3, sf33, h0_0, h0_1, hb_g3, hx⟩ := hR
    clear hR11
    refine W_cond (b := b10) sf33 (fun hc44 => ?_) (fun hc44 => ?_)
    ·
      have hF := (ite_t hc44).symm.trans hF
      refine W_seq ?_
      refine W_region ?_
      refine L_as (v := .int .i64 0) rfl rfl ?_
      refine L_nil ?_
      refine W_ret ?_
      obtain rfl := so hF
      refine ret1 Try.results12 ?_
      exact ⟨rfl, hx⟩
    ·
      have hF := (ite_f hc44).symm.trans hF
      refine W_skip ?_
      refine W_seq ?_
      obtain ⟨x45, hx45, hF⟩ := bind_some hF
      refine W_region ?_
      refine L_lda (cs := [v0_0, v0_1]) rfl Try.isAgg30 Try.sizeOf30 sf3 (Blk.sub hb_g3 0 2) rfl ?_
      refine L_mv (v := .int .i64 cell) rfl sf1 ?_
      refine L_mv (v := .int .i64 value) rfl sf2 ?_
      refine L_call (args := #[.agg #[v0_0, v0_1], .int .i64 cell, .int .i64 value]) rfl Try.call45 (ops3 rfl rfl rfl) (s_l7Var_c (m := m) (cell := cell) (value := value) (Nat.le_trans hB hx.size) (rel0 h0_0) (rel0 h0_1) hx45) ?_
      rintro _ w47 ⟨rfl, he47⟩
      have h0_0 := RP.ext h0_0 he47
      have h0_1 := RP.ext h0_1 he47
      have hx := ext_trans hx he47
      refine L_as (v := .int .i64 x45) rfl rfl ?_
      refine L_nil ?_
      refine W_ret ?_
      obtain rfl := so hF
      refine ret1 Try.results12 ?_
      exact ⟨rfl, hx⟩

theorem l_toIntS_c {fu : Nat} {a : List Int} {v0 : Value} {w : World} {B : Nat} (hB : B ≤ w.heap.size) (h0 : (RP.slice 3 RP.int).rel B w.heap.size w [v0] a) {r : List Int} (hF : l_toIntS fu a = some r) :
    C Try.prog 24 #[v0] w fun v w' => (∃ u1 : Value, v = u1 ∧ Own RP.int 3 w.heap.size B w' u1 r) ∧ Ext w w' := by
  unfold l_toIntS at hF
  have hx := ext_refl w
  refine C_enter Try.func24 rfl Try.ntmps24 rfl ?_
  refine W_seq ?_
  refine W_region ?_
  refine L_as (v := (.slice none 0 0)) rfl rfl ?_
  refine L_nil ?_
  refine W_seq ?_
  obtain ⟨x1, hx1, hF⟩ := bind_some hF
  refine W_region ?_
  refine L_mv (v := v0) rfl rfl ?_
  refine L_len (v := v0) rfl Try.underlying22 rfl h0 ?_
  refine L_mk (el := B) (r := RP.int) (z0 := 0) (zc := [.int .i64 0]) rfl et_22 (by kernel_rfl) (fun w => rfl) rfl rfl hx1 hx.size ?_
  intro v3 w3 ho3 he3 hb3
  have h0 := RP.ext h0 he3
  have hx := ext_trans hx he3
  refine L_as (v := v3) rfl rfl ?_
  refine L_nil ?_
  refine W_seq ?_
  refine W_seq ?_
  refine W_region ?_
  refine L_as (v := .int .i64 0) rfl rfl ?_
  refine L_nil ?_
  obtain ⟨j7, hL7, hF⟩ := bind_some hF
  obtain ⟨R7, hR7⟩ : ∃ R : Fr → World → Prop, R = fun f w_ => ∃ out_5 : List Int, ∃ i_6 : Int, ∃ v5_out : Value, j7 = .nx (out_5, i_6) ∧ f 3 = v5_out ∧ Own RP.int 3 w.heap.size B w_ v5_out out_5 ∧ Ext w w_ := ⟨_, rfl⟩
  refine W_join R7 ?_ ?_
  ·
    refine W_block ?_
    obtain ⟨I7, hI7⟩ : ∃ I : Nat → Fr → World → Prop, I = fun n f w_ => ∃ out_5 : List Int, ∃ i_6 : Int, ∃ v5_out : Value, whileL (l_toIntS_b1 a) n (out_5, i_6) = some j7 ∧ f 0 = v0 ∧ f 3 = v5_out ∧ f 4 = .int .i64 i_6 ∧ (RP.slice 3 RP.int).rel B w.heap.size w_ [v0] a ∧ Own RP.int 3 w.heap.size B w_ v5_out out_5 ∧ Ext w w_ := ⟨_, rfl⟩
    refine W_loop I7 (n := fu) ?_ ?_
    · rw [hI7]; exact ⟨x1, 0, v3, hL7, rfl, rfl, rfl, h0, ho3, hx⟩
    ·
      intro n7 f w_ hI
      rw [hI7] at hI
      obtain ⟨out_5, i_6, v5_out, hL7, sf0, sf3, sf4, h0, hv5_out, hx⟩ := hI
      cases n7 with
      | zero => exact (while_zero hL7).elim
      | succ n7 =>
        obtain ⟨o7, hB7, hL7⟩ := while_succ hL7
        rw [l_toIntS_b1] at hB7
        refine W_seq ?_
        refine W_seq ?_
        refine W_region ?_
        refine L_mv (v := .int .i64 i_6) rfl sf4 ?_
        refine L_mv (v := v0) rfl sf0 ?_
        refine L_len (v := v0) rfl Try.underlying22 rfl h0 ?_
        refine L_lss (m := i_6) (n := (a.length : Int)) rfl rfl rfl ?_
        refine L_nil ?_
        refine W_cond (b := decide (i_6 < (a.length : Int))) rfl (fun hc8 => ?_) (fun hc8 => ?_)
        ·
          have hB7 := (ite_t hc8).symm.trans hB7
          refine W_skip ?_
          refine W_seq ?_
          refine W_block ?_
          obtain ⟨x9, hx9, hB7⟩ := bind_some hB7
          obtain ⟨x12, hx12, hB7⟩ := bind_some hB7
          refine W_region ?_
          refine L_mv (v := v5_out) rfl sf3 ?_
          refine L_mv (v := .int .i64 i_6) rfl sf4 ?_
          refine L_mv (v := v0) rfl sf0 ?_
          refine L_mv (v := .int .i64 i_6) rfl sf4 ?_
          refine L_ix (r := RP.int) rfl Try.underlying22 Try.sizeOf3 rfl h0 rfl hx9 ?_
          intro g16 o17 cs17 hr17 hat17
          obtain rfl : _ = [_] := hr17
          refine L_ld (v := .int .i64 x9) rfl Try.isAgg3 rfl (hat17.cell (j := 0) rfl) ?_
          refine L_ixo (r := RP.int) rfl et_22 rfl hv5_out rfl hx12 ?_
          intro g18 c19 cs19 hg19 hl19 hc19 hr19 hj19
          obtain rfl : cs19 = [_] := hr19
          refine L_st (v := .int .i64 x9) rfl Try.sizeOf3 rfl rfl rfl hc19 (hj19 0 _ rfl) ?_
          intro w20 hp20
          have hv5_out_n : Own RP.int 3 _ B w20 _ (out_5.set (Int.toNat i_6) x9) := own_set hv5_out hg19 rfl (by decide) (idx_some hx12).2.2 hc19 hp20 rfl hB
          have h0 := hp20.mu.rel_lo h0 hl19
          have hx := ext_mut hx hp20.mu hl19
          have hv5_out := hv5_out_n
          refine L_nil ?_
          refine W_region ?_
          refine L_mv (v := .int .i64 i_6) rfl sf4 ?_
          refine L_add (m := i_6) (n := 1) rfl rfl rfl ?_
          refine L_as (v := .int .i64 (i64 (i_6 + 1))) rfl rfl ?_
          refine L_nil ?_
          obtain rfl := so hB7
          show ∃ m, m < _ ∧ I7 m _ _
          refine ⟨n7, Nat.lt_succ_self _, ?_⟩
          rw [hI7]
          exact ⟨(out_5.set (Int.toNat i_6) x9), i64 (i_6 + 1), v5_out, hL7, sf0, sf3, rfl, h0, hv5_out, hx⟩
        ·
          have hB7 := (ite_f hc8).symm.trans hB7
          refine W_exit ?_
          obtain rfl := so hB7
          obtain rfl := so hL7
          show R7 _ _
          rw [hR7]
          exact ⟨out_5, i_6, v5_out, rfl, sf3, hv5_out, hx⟩
  ·
    intro f w_ hR
    rw [hR7] at hR
    obtain ⟨out_5, i_6, v5_out, rfl, sf3, hv5_out, hx⟩ := hR
    clear hR7
    refine W_seq ?_
    refine W_region ?_
    refine L_mv (v := v5_out) rfl sf3 ?_
    refine L_as (v := v5_out) rfl rfl ?_
    refine L_nil ?_
    refine W_ret ?_
    obtain rfl := so hF
    refine ret1 Try.results24 ?_
    exact ⟨⟨v5_out, rfl, hv5_out⟩, hx⟩

theorem l_toIntSS_c {fu : Nat} {a : List (List Int)} {v0 : Value} {w : World} {B : Nat} (hB : B ≤ w.heap.size) (h0 : (RP.slice 22 (RP.slice 3 RP.int)).rel B w.heap.size w [v0] a) {r : List (List Int)} (hF : l_toIntSS fu a = some r) :
    C Try.prog 82 #[v0] w fun v w' => (∃ u1 : Value, v = u1 ∧ Own (RP.slice 3 RP.int) 22 w.heap.size B w' u1 r) ∧ Ext w w' := by
  unfold l_toIntSS at hF
  have hx := ext_refl w
  refine C_enter Try.func82 rfl Try.ntmps82 rfl ?_
  refine W_seq ?_
  refine W_region ?_
  refine L_as (v := (.slice none 0 0)) rfl rfl ?_
  refine L_nil ?_
  refine W_seq ?_
  obtain ⟨x1, hx1, hF⟩ := bind_some hF
  refine W_region ?_
  refine L_mv (v := v0) rfl rfl ?_
  refine L_len (v := v0) rfl Try.underlying66 rfl h0 ?_
  refine L_mk (el := B) (r := (RP.slice 3 RP.int)) (z0 := []) (zc := [(.slice none 0 0)]) rfl et_66 (by kernel_rfl) (fun w => rel_nil _ _ _ _ _) rfl rfl hx1 hx.size ?_
  intro v3 w3 ho3 he3 hb3
  have h0 := RP.ext h0 he3
  have hx := ext_trans hx he3
  refine L_as (v := v3) rfl rfl ?_
  refine L_nil ?_
  refine W_seq ?_
  refine W_seq ?_
  refine W_region ?_
  refine L_as (v := .int .i64 0) rfl rfl ?_
  refine L_nil ?_
  obtain ⟨j7, hL7, hF⟩ := bind_some hF
  obtain ⟨R7, hR7⟩ : ∃ R : Fr → World → Prop, R = fun f w_ => ∃ out_5 : List (List Int), ∃ i_6 : Int, ∃ v5_out : Value, j7 = .nx (out_5, i_6) ∧ f 3 = v5_out ∧ Own (RP.slice 3 RP.int) 22 w.heap.size B w_ v5_out out_5 ∧ Ext w w_ := ⟨_, rfl⟩
  refine W_join R7 ?_ ?_
  ·
    refine W_block ?_
    obtain ⟨I7, hI7⟩ : ∃ I : Nat → Fr → World → Prop, I = fun n f w_ => ∃ out_5 : List (List Int), ∃ i_6 : Int, ∃ v5_out : Value, whileL (l_toIntSS_b1 fu a) n (out_5, i_6) = some j7 ∧ f 0 = v0 ∧ f 3 = v5_out ∧ f 4 = .int .i64 i_6 ∧ (RP.slice 22 (RP.slice 3 RP.int)).rel B w.heap.size w_ [v0] a ∧ Own (RP.slice 3 RP.int) 22 w.heap.size B w_ v5_out out_5 ∧ Ext w w_ := ⟨_, rfl⟩
    refine W_loop I7 (n := fu) ?_ ?_
    · rw [hI7]; exact ⟨x1, 0, v3, hL7, rfl, rfl, rfl, h0, ho3, hx⟩
    ·
      intro n7 f w_ hI
      rw [hI7] at hI
      obtain ⟨out_5, i_6, v5_out, hL7, sf0, sf3, sf4, h0, hv5_out, hx⟩ := hI
      cases n7 with
      | zero => exact (while_zero hL7).elim
      | succ n7 =>
        obtain ⟨o7, hB7, hL7⟩ := while_succ hL7
        rw [l_toIntSS_b1] at hB7
        refine W_seq ?_
        refine W_seq ?_
        refine W_region ?_
        refine L_mv (v := .int .i64 i_6) rfl sf4 ?_
        refine L_mv (v := v0) rfl sf0 ?_
        refine L_len (v := v0) rfl Try.underlying66 rfl h0 ?_
        refine L_lss (m := i_6) (n := (a.length : Int)) rfl rfl rfl ?_
        refine L_nil ?_
        refine W_cond (b := decide (i_6 < (a.length : Int))) rfl (fun hc8 => ?_) (fun hc8 => ?_)
        ·
          have hB7 := (ite_t hc8).symm.trans hB7
          refine W_skip ?_
          refine W_seq ?_
          refine W_block ?_
          obtain ⟨x9, hx9, hB7⟩ := bind_some hB7
          obtain ⟨x12, hx12, hB7⟩ := bind_some hB7
          obtain ⟨x14, hx14, hB7⟩ := bind_some hB7
          refine W_region ?_
          refine L_mv (v := v5_out) rfl sf3 ?_
          refine L_mv (v := .int .i64 i_6) rfl sf4 ?_
          refine L_mv (v := v0) rfl sf0 ?_
          refine L_mv (v := .int .i64 i_6) rfl sf4 ?_
          refine L_ix (r := (RP.slice 3 RP.int)) rfl Try.underlying66 Try.sizeOf22 rfl h0 rfl hx9 ?_
          intro g18 o19 cs19 hr19 hat19
          obtain ⟨u19, rfl, hu19⟩ := slice1 hr19
          refine L_ld (v := u19) rfl Try.isAgg22 rfl (hat19.cell (j := 0) rfl) ?_
          refine L_call (args := #[u19]) rfl Try.call24 (ops1 rfl) (l_toIntS_c (a := x9) (Nat.le_trans hB hx.size) (rel0 hu19) hx12) ?_
          rintro r20_0 w20 ⟨⟨_, rfl, hr20_0⟩, he20⟩
          have hr20_0 : Own _ _ w.heap.size B _ _ _ := hr20_0.wide hx.size (Nat.le_refl _)
          have h0 := RP.ext h0 he20
          have hv5_out := Own.ext hv5_out he20
          have hu19 := RP.ext hu19 he20
          have hx := ext_trans hx he20
          refine L_ixo (r := (RP.slice 3 RP.int)) rfl et_66 rfl hv5_out rfl hx14 ?_
          intro g21 c22 cs22 hg22 hl22 hc22 hr22 hj22
          obtain ⟨uo22, rfl, _⟩ := slice1 hr22
          refine L_st (v := r20_0) rfl Try.sizeOf22 rfl rfl (one_of (Own.rel hr20_0)) hc22 (hj22 0 _ rfl) ?_
          intro w23 hp23
          have hv5_out_n : Own (RP.slice 3 RP.int) 22 _ B w23 _ (out_5.set (Int.toNat i_6) x12) := own_set hv5_out hg22 rfl (by decide) (idx_some hx14).2.2 hc22 hp23 (rel0 (Own.rel hr20_0)) hB
          have h0 := hp23.mu.rel_lo h0 hl22
          have hr20_0 := hp23.mu.ownT hr20_0 (by decide) (by decide) (Nat.le_trans hB hl22)
          have hx := ext_mut hx hp23.mu hl22
          have hv5_out := hv5_out_n
          refine L_nil ?_
          refine W_region ?_
          refine L_mv (v := .int .i64 i_6) rfl sf4 ?_
          refine L_add (m := i_6) (n := 1) rfl rfl rfl ?_
          refine L_as (v := .int .i64 (i64 (i_6 + 1))) rfl rfl ?_
          refine L_nil ?_
          obtain rfl := so hB7
          show ∃ m, m < _ ∧ I7 m _ _
          refine ⟨n7, Nat.lt_succ_self _, ?_⟩
          rw [hI7]
          exact ⟨(out_5.set (Int.toNat i_6) x12), i64 (i_6 + 1), v5_out, hL7, sf0, sf3, rfl, h0, hv5_out, hx⟩
        ·
          have hB7 := (ite_f hc8).symm.trans hB7
          refine W_exit ?_
          obtain rfl := so hB7
          obtain rfl := so hL7
          show R7 _ _
          rw [hR7]
          exact ⟨out_5, i_6, v5_out, rfl, sf3, hv5_out, hx⟩
  ·
    intro f w_ hR
    rw [hR7] at hR
    obtain ⟨out_5, i_6, v5_out, rfl, sf3, hv5_out, hx⟩ := hR
    clear hR7
    refine W_seq ?_
    refine W_region ?_
    refine L_mv (v := v5_out) rfl sf3 ?_
    refine L_as (v := v5_out) rfl rfl ?_
    refine L_nil ?_
    refine W_ret ?_
    obtain rfl := so hF
    refine ret1 Try.results82 ?_
    exact ⟨⟨v5_out, rfl, hv5_out⟩, hx⟩

theorem l_toRule_c {fu : Nat} {a : Rule} {v0_1 : Value} {v0_2 : Value} {v0_4 : Value} {w : World} {B : Nat} (hB : B ≤ w.heap.size) (h0_1 : (RP.slice 3 RP.int).rel B w.heap.size w [v0_1] a.vars) (h0_2 : (RP.slice 3 RP.int).rel B w.heap.size w [v0_2] a.coefs) (h0_4 : (RP.slice 22 (RP.slice 3 RP.int)).rel B w.heap.size w [v0_4] a.rows) {r : Rule} (hF : l_toRule fu a = some r) :
    C Try.prog 67 #[.agg #[.int .i64 a.kind, v0_1, v0_2, .int .i64 a.bound, v0_4]] w fun v w' => (∃ u1 u2 u3 : Value, v = .agg #[.int .i64 r.kind, u1, u2, .int .i64 r.bound, u3] ∧ Own RP.int 3 w.heap.size B w' u1 r.vars ∧ Own RP.int 3 w.heap.size B w' u2 r.coefs ∧ Own (RP.slice 3 RP.int) 22 w.heap.size B w' u3 r.rows) ∧ Ext w w' := by
  unfold l_toRule at hF
  have hx := ext_refl w
  refine C_enter Try.func67 rfl Try.ntmps67 rfl ?_
  refine W_seq ?_
  refine W_region ?_
  refine L_box (v := .agg #[.int .i64 a.kind, v0_1, v0_2, .int .i64 a.bound, v0_4]) (cs := #[.int .i64 a.kind, v0_1, v0_2, .int .i64 a.bound, v0_4]) rfl rfl rfl ?_
  intro g5 w6 hn6
  have hge_g5 := hn6.ge hx
  have hb_g5 := hn6.blk
  have h0_1 := RP.ext h0_1 hn6.ext
  have h0_2 := RP.ext h0_2 hn6.ext
  have h0_4 := RP.ext h0_4 hn6.ext
  have hx := ext_trans hx hn6.ext
  refine L_al (cs := #[.int .i64 0, (.slice none 0 0), (.slice none 0 0), .int .i64 0, (.slice none 0 0)]) rfl Try.zeroValue68 rfl ?_
  intro g7 w8 hn8
  have hge_g7 := hn8.ge hx
  have hb_g7 := hn8.blk
  have h0_1 := RP.ext h0_1 hn8.ext
  have h0_2 := RP.ext h0_2 hn8.ext
  have h0_4 := RP.ext h0_4 hn8.ext
  have hb_g5 := Blk.ext hb_g5 hn8.ext
  have hx := ext_trans hx hn8.ext
  refine L_nil ?_
  refine W_seq ?_
  refine W_region ?_
  refine L_al (cs := #[.int .i64 0, (.slice none 0 0), (.slice none 0 0), .int .i64 0, (.slice none 0 0)]) rfl Try.zeroValue68 rfl ?_
  intro g12 w13 hn13
  have hge_g12 := hn13.ge hx
  have hb_g12 := hn13.blk
  have ap14 := ap_bb hb_g7 hn13
  have h0_1 := RP.ext h0_1 hn13.ext
  have h0_2 := RP.ext h0_2 hn13.ext
  have h0_4 := RP.ext h0_4 hn13.ext
  have hb_g5 := Blk.ext hb_g5 hn13.ext
  have hb_g7 := Blk.ext hb_g7 hn13.ext
  have hx := ext_trans hx hn13.ext
  refine L_nil ?_
  refine W_seq ?_
  refine W_region ?_
  refine L_fa (o' := 0) rfl fa_76_0 rfl rfl ?_
  refine L_ld (v := .int .i64 a.kind) rfl Try.isAgg3 rfl (hb_g5.cell (j := 0) rfl) ?_
  refine L_fa (o' := 0) rfl fa_68_0 rfl rfl ?_
  refine L_st (v := .int .i64 a.kind) rfl Try.sizeOf3 rfl rfl rfl hb_g12 rfl ?_
  intro w16 hp16
  have h0_1 := hp16.mu.rel h0_1 (by decide) (Nat.le_trans hB hge_g12)
  have h0_2 := hp16.mu.rel h0_2 (by decide) (Nat.le_trans hB hge_g12)
  have h0_4 := hp16.mu.rel h0_4 (by decide) (Nat.le_trans hB hge_g12)
  have hb_g5 := hp16.mu.blk hb_g5 (by decide)
  have hb_g7 := hp16.mu.blkA hb_g7 (Ap.symm ap14)
  have hx := ext_mut hx hp16.mu hge_g12
  have hb_g12 : Blk w16 g12 68 #[.int .i64 a.kind, (.slice none 0 0), (.slice none 0 0), .int .i64 0, (.slice none 0 0)] := hp16.blk
  refine L_nil ?_
  refine W_seq ?_
  obtain ⟨x17, hx17, hF⟩ := bind_some hF
  refine W_region ?_
  refine L_fa (o' := 1) rfl fa_76_1 rfl rfl ?_
  refine L_ld (v := v0_1) rfl Try.isAgg22 rfl (hb_g5.cell (j := 1) rfl) ?_
  refine L_call (args := #[v0_1]) rfl Try.call24 (ops1 rfl) (l_toIntS_c (a := a.vars) (Nat.le_trans hB hx.size) (rel0 h0_1) hx17) ?_
  rintro r20_0 w20 ⟨⟨_, rfl, hr20_0⟩, he20⟩
  have hr20_0 : Own _ _ w.heap.size B _ _ _ := hr20_0.wide hx.size (Nat.le_refl _)
  have h0_1 := RP.ext h0_1 he20
  have h0_2 := RP.ext h0_2 he20
  have h0_4 := RP.ext h0_4 he20
  have hb_g5 := Blk.ext hb_g5 he20
  have hb_g7 := Blk.ext hb_g7 he20
  have hb_g12 := Blk.ext hb_g12 he20
  have hx := ext_trans hx he20
  refine L_fa (o' := 1) rfl fa_68_1 rfl rfl ?_
  refine L_st (v := r20_0) rfl Try.sizeOf22 rfl rfl (one_of (Own.rel hr20_0)) hb_g12 rfl ?_
  intro w21 hp21
  have h0_1 := hp21.mu.rel h0_1 (by decide) (Nat.le_trans hB hge_g12)
  have h0_2 := hp21.mu.rel h0_2 (by decide) (Nat.le_trans hB hge_g12)
  have h0_4 := hp21.mu.rel h0_4 (by decide) (Nat.le_trans hB hge_g12)
  have hb_g5 := hp21.mu.blk hb_g5 (by decide)
  have hb_g7 := hp21.mu.blkA hb_g7 (Ap.symm ap14)
  have hr20_0 := hp21.mu.ownT hr20_0 (by decide) (by decide) (Nat.le_trans hB hge_g12)
  have hx := ext_mut hx hp21.mu hge_g12
  have hb_g12 : Blk w21 g12 68 #[.int .i64 a.kind, r20_0, (.slice none 0 0), .int .i64 0, (.slice none 0 0)] := hp21.blk
  refine L_nil ?_
  refine W_seq ?_
  obtain ⟨x22, hx22, hF⟩ := bind_some hF
  refine W_region ?_
  refine L_fa (o' := 2) rfl fa_76_2 rfl rfl ?_
  refine L_ld (v := v0_2) rfl Try.isAgg22 rfl (hb_g5.cell (j := 2) rfl) ?_
  refine L_call (args := #[v0_2]) rfl Try.call24 (ops1 rfl) (l_toIntS_c (a := a.coefs) (Nat.le_trans hB hx.size) (rel0 h0_2) hx22) ?_
  rintro r26_0 w26 ⟨⟨_, rfl, hr26_0⟩, he26⟩
  have ap27 := ap_oc hr20_0 hr26_0
  have hr26_0 : Own _ _ w.heap.size B _ _ _ := hr26_0.wide hx.size (Nat.le_refl _)
  have h0_1 := RP.ext h0_1 he26
  have h0_2 := RP.ext h0_2 he26
  have h0_4 := RP.ext h0_4 he26
  have hb_g5 := Blk.ext hb_g5 he26
  have hb_g7 := Blk.ext hb_g7 he26
  have hb_g12 := Blk.ext hb_g12 he26
  have hr20_0 := Own.ext hr20_0 he26
  have hx := ext_trans hx he26
  refine L_fa (o' := 2) rfl fa_68_2 rfl rfl ?_
  refine L_st (v := r26_0) rfl Try.sizeOf22 rfl rfl (one_of (Own.rel hr26_0)) hb_g12 rfl ?_
  intro w28 hp28
  have h0_1 := hp28.mu.rel h0_1 (by decide) (Nat.le_trans hB hge_g12)
  have h0_2 := hp28.mu.rel h0_2 (by decide) (Nat.le_trans hB hge_g12)
  have h0_4 := hp28.mu.rel h0_4 (by decide) (Nat.le_trans hB hge_g12)
  have hb_g5 := hp28.mu.blk hb_g5 (by decide)
  have hb_g7 := hp28.mu.blkA hb_g7 (Ap.symm ap14)
  have hr20_0 := hp28.mu.ownT hr20_0 (by decide) (by decide) (Nat.le_trans hB hge_g12)
  have hr26_0 := hp28.mu.ownT hr26_0 (by decide) (by decide) (Nat.le_trans hB hge_g12)
  have hx := ext_mut hx hp28.mu hge_g12
  have hb_g12 : Blk w28 g12 68 #[.int .i64 a.kind, r20_0, r26_0, .int .i64 0, (.slice none 0 0)] := hp28.blk
  refine L_nil ?_
  refine W_seq ?_
  refine W_region ?_
  refine L_fa (o' := 3) rfl fa_76_3 rfl rfl ?_
  refine L_ld (v := .int .i64 a.bound) rfl Try.isAgg3 rfl (hb_g5.cell (j := 3) rfl) ?_
  refine L_fa (o' := 3) rfl fa_68_3 rfl rfl ?_
  refine L_st (v := .int .i64 a.bound) rfl Try.sizeOf3 rfl rfl rfl hb_g12 rfl ?_
  intro w30 hp30
  have h0_1 := hp30.mu.rel h0_1 (by decide) (Nat.le_trans hB hge_g12)
  have h0_2 := hp30.mu.rel h0_2 (by decide) (Nat.le_trans hB hge_g12)
  have h0_4 := hp30.mu.rel h0_4 (by decide) (Nat.le_trans hB hge_g12)
  have hb_g5 := hp30.mu.blk hb_g5 (by decide)
  have hb_g7 := hp30.mu.blkA hb_g7 (Ap.symm ap14)
  have hr20_0 := hp30.mu.ownT hr20_0 (by decide) (by decide) (Nat.le_trans hB hge_g12)
  have hr26_0 := hp30.mu.ownT hr26_0 (by decide) (by decide) (Nat.le_trans hB hge_g12)
  have hx := ext_mut hx hp30.mu hge_g12
  have hb_g12 : Blk w30 g12 68 #[.int .i64 a.kind, r20_0, r26_0, .int .i64 a.bound, (.slice none 0 0)] := hp30.blk
  refine L_nil ?_
  refine W_seq ?_
  obtain ⟨x31, hx31, hF⟩ := bind_some hF
  refine W_region ?_
  refine L_fa (o' := 4) rfl fa_76_4 rfl rfl ?_
  refine L_ld (v := v0_4) rfl Try.isAgg66 rfl (hb_g5.cell (j := 4) rfl) ?_
  refine L_call (args := #[v0_4]) rfl Try.call82 (ops1 rfl) (l_toIntSS_c (a := a.rows) (Nat.le_trans hB hx.size) (rel0 h0_4) hx31) ?_
  rintro r34_0 w34 ⟨⟨_, rfl, hr34_0⟩, he34⟩
  have hr34_0 : Own _ _ w.heap.size B _ _ _ := hr34_0.wide hx.size (Nat.le_refl _)
  have h0_4 := RP.ext h0_4 he34
  have hb_g7 := Blk.ext hb_g7 he34
  have hb_g12 := Blk.ext hb_g12 he34
  have hr20_0 := Own.ext hr20_0 he34
  have hr26_0 := Own.ext hr26_0 he34
  have hx := ext_trans hx he34
  refine L_fa (o' := 4) rfl fa_68_4 rfl rfl ?_
  refine L_st (v := r34_0) rfl Try.sizeOf66 rfl rfl (one_of (Own.rel hr34_0)) hb_g12 rfl ?_
  intro w35 hp35
  have hb_g7 := hp35.mu.blkA hb_g7 (Ap.symm ap14)
  have hr20_0 := hp35.mu.ownT hr20_0 (by decide) (by decide) (Nat.le_trans hB hge_g12)
  have hr26_0 := hp35.mu.ownT hr26_0 (by decide) (by decide) (Nat.le_trans hB hge_g12)
  have hr34_0 := hp35.mu.ownT hr34_0 (by decide) (by decide) (Nat.le_trans hB hge_g12)
  have hx := ext_mut hx hp35.mu hge_g12
  have hb_g12 : Blk w35 g12 68 #[.int .i64 a.kind, r20_0, r26_0, .int .i64 a.bound, r34_0] := hp35.blk
  refine L_nil ?_
  refine W_seq ?_
  refine W_region ?_
  refine L_lda (cs := [.int .i64 a.kind, r20_0, r26_0, .int .i64 a.bound, r34_0]) rfl Try.isAgg68 Try.sizeOf68 rfl (Blk.sub hb_g12 0 5) rfl ?_
  refine L_sta (vs := #[.int .i64 a.kind, r20_0, r26_0, .int .i64 a.bound, r34_0]) rfl Try.sizeOf68 rfl rfl rfl (ones_cons rfl (ones_cons (one_of (Own.rel hr20_0)) (ones_cons (one_of (Own.rel hr26_0)) (ones_cons rfl (ones_cons (one_of (Own.rel hr34_0)) ones_nil))))) hb_g7 rfl ?_
  intro w37 hp37
  have hr20_0 := hp37.mu.ownT hr20_0 (by decide) (by decide) (Nat.le_trans hB hge_g7)
  have hr26_0 := hp37.mu.ownT hr26_0 (by decide) (by decide) (Nat.le_trans hB hge_g7)
  have hr34_0 := hp37.mu.ownT hr34_0 (by decide) (by decide) (Nat.le_trans hB hge_g7)
  have hx := ext_mut hx hp37.mu hge_g7
  have hb_g7 : Blk w37 g7 68 #[.int .i64 a.kind, r20_0, r26_0, .int .i64 a.bound, r34_0] := hp37.blk
  refine L_nil ?_
  refine W_ret ?_
  obtain rfl := so hF
  refine retc Try.results67 Try.isAgg68 Try.sizeOf68 rfl hb_g7 rfl ?_
  exact ⟨⟨r20_0, r26_0, r34_0, rfl, hr20_0, hr26_0, hr34_0⟩, hx⟩

theorem l_toRuleS_c {fu : Nat} {a : List Rule} {v0 : Value} {w : World} {B : Nat} (hB : B ≤ w.heap.size) (h0 : (RP.slice 76 (rRule 3 22)).rel B w.heap.size w [v0] a) {r : List Rule} (hF : l_toRuleS fu a = some r) :
    C Try.prog 46 #[v0] w fun v w' => (∃ u1 : Value, v = u1 ∧ Own (rRule 3 22) 68 w.heap.size B w' u1 r) ∧ Ext w w' := by
  unfold l_toRuleS at hF
  have hx := ext_refl w
  refine C_enter Try.func46 rfl Try.ntmps46 rfl ?_
  refine W_seq ?_
  refine W_region ?_
  refine L_as (v := (.slice none 0 0)) rfl rfl ?_
  refine L_nil ?_
  refine W_seq ?_
  obtain ⟨x1, hx1, hF⟩ := bind_some hF
  refine W_region ?_
  refine L_mv (v := v0) rfl rfl ?_
  refine L_len (v := v0) rfl Try.underlying23 rfl h0 ?_
  refine L_mk (el := B) (r := (rRule 3 22)) (z0 := ({ kind := 0, vars := [], coefs := [], bound := 0, rows := [] } : Rule)) (zc := [.int .i64 0, (.slice none 0 0), (.slice none 0 0), .int .i64 0, (.slice none 0 0)]) rfl et_28 (by kernel_rfl) (fun w => rRule_iff.2 ⟨_, _, _, rfl, rel_nil _ _ _ _ _, rel_nil _ _ _ _ _, rel_nil _ _ _ _ _⟩) rfl rfl hx1 hx.size ?_
  intro v3 w3 ho3 he3 hb3
  have h0 := RP.ext h0 he3
  have hx := ext_trans hx he3
  refine L_as (v := v3) rfl rfl ?_
  refine L_nil ?_
  refine W_seq ?_
  refine W_seq ?_
  refine W_region ?_
  refine L_as (v := .int .i64 0) rfl rfl ?_
  refine L_nil ?_
  obtain ⟨j7, hL7, hF⟩ := bind_some hF
  obtain ⟨R7, hR7⟩ : ∃ R : Fr → World → Prop, R = fun f w_ => ∃ out_5 : List Rule, ∃ i_6 : Int, ∃ v5_out : Value, j7 = .nx (out_5, i_6) ∧ f 3 = v5_out ∧ Own (rRule 3 22) 68 w.heap.size B w_ v5_out out_5 ∧ Ext w w_ := ⟨_, rfl⟩
  refine W_join R7 ?_ ?_
  ·
    refine W_block ?_
    obtain ⟨I7, hI7⟩ : ∃ I : Nat → Fr → World → Prop, I = fun n f w_ => ∃ out_5 : List Rule, ∃ i_6 : Int, ∃ v5_out : Value, whileL (l_toRuleS_b1 fu a) n (out_5, i_6) = some j7 ∧ f 0 = v0 ∧ f 3 = v5_out ∧ f 4 = .int .i64 i_6 ∧ (RP.slice 76 (rRule 3 22)).rel B w.heap.size w_ [v0] a ∧ Own (rRule 3 22) 68 w.heap.size B w_ v5_out out_5 ∧ Ext w w_ := ⟨_, rfl⟩
    refine W_loop I7 (n := fu) ?_ ?_
    · rw [hI7]; exact ⟨x1, 0, v3, hL7, rfl, rfl, rfl, h0, ho3, hx⟩
    ·
      intro n7 f w_ hI
      rw [hI7] at hI
      obtain ⟨out_5, i_6, v5_out, hL7, sf0, sf3, sf4, h0, hv5_out, hx⟩ := hI
      cases n7 with
      | zero => exact (while_zero hL7).elim
      | succ n7 =>
        obtain ⟨o7, hB7, hL7⟩ := while_succ hL7
        rw [l_toRuleS_b1] at hB7
        refine W_seq ?_
        refine W_seq ?_
        refine W_region ?_
        refine L_mv (v := .int .i64 i_6) rfl sf4 ?_
        refine L_mv (v := v0) rfl sf0 ?_
        refine L_len (v := v0) rfl Try.underlying23 rfl h0 ?_
        refine L_lss (m := i_6) (n := (a.length : Int)) rfl rfl rfl ?_
        refine L_nil ?_
        refine W_cond (b := decide (i_6 < (a.length : Int))) rfl (fun hc8 => ?_) (fun hc8 => ?_)
        ·
          have hB7 := (ite_t hc8).symm.trans hB7
          refine W_skip ?_
          refine W_seq ?_
          refine W_block ?_
          obtain ⟨x9, hx9, hB7⟩ := bind_some hB7
          obtain ⟨x12, hx12, hB7⟩ := bind_some hB7
          obtain ⟨x14, hx14, hB7⟩ := bind_some hB7
          refine W_region ?_
          refine L_mv (v := v5_out) rfl sf3 ?_
          refine L_mv (v := .int .i64 i_6) rfl sf4 ?_
          refine L_mv (v := v0) rfl sf0 ?_
          refine L_mv (v := .int .i64 i_6) rfl sf4 ?_
          refine L_ix (r := (rRule 3 22)) rfl Try.underlying23 Try.sizeOf76 rfl h0 rfl hx9 ?_
          intro g18 o19 cs19 hr19 hat19
          obtain ⟨u19_0, u19_1, u19_2, rfl, hu19_0, hu19_1, hu19_2⟩ := rRule_iff.1 hr19
          refine L_lda (cs := [.int .i64 x9.kind, u19_0, u19_1, .int .i64 x9.bound, u19_2]) rfl Try.isAgg76 Try.sizeOf76 rfl (At.sub hat19 0 5) rfl ?_
          refine L_call (args := #[.agg #[.int .i64 x9.kind, u19_0, u19_1, .int .i64 x9.bound, u19_2]]) rfl Try.call67 (ops1 rfl) (l_toRule_c (a := x9) (Nat.le_trans hB hx.size) (rel0 hu19_0) (rel0 hu19_1) (rel0 hu19_2) hx12) ?_
          rintro _ w20 ⟨⟨r20_0, r20_1, r20_2, rfl, hr20_0, hr20_1, hr20_2⟩, he20⟩
          have hr20_0 : Own _ _ w.heap.size B _ _ _ := hr20_0.wide hx.size (Nat.le_refl _)
          have hr20_1 : Own _ _ w.heap.size B _ _ _ := hr20_1.wide hx.size (Nat.le_refl _)
          have hr20_2 : Own _ _ w.heap.size B _ _ _ := hr20_2.wide hx.size (Nat.le_refl _)
          have h0 := RP.ext h0 he20
          have hv5_out := Own.ext hv5_out he20
          have hu19_0 := RP.ext hu19_0 he20
          have hu19_1 := RP.ext hu19_1 he20
          have hu19_2 := RP.ext hu19_2 he20
          have hx := ext_trans hx he20
          refine L_ixo (r := (rRule 3 22)) rfl et_28 rfl hv5_out rfl hx14 ?_
          intro g21 c22 cs22 hg22 hl22 hc22 hr22 hj22
          refine L_stp (vs := #[.int .i64 x12.kind, r20_0, r20_1, .int .i64 x12.bound, r20_2]) rfl Try.sizeOf68 rfl rfl rfl (ones_cons rfl (ones_cons (one_of (Own.rel hr20_0)) (ones_cons (one_of (Own.rel hr20_1)) (ones_cons rfl (ones_cons (one_of (Own.rel hr20_2)) ones_nil))))) hc22 (own_fit hv5_out hg22 (idx_some hx14).2.2 hc22) ?_
          intro w23 cz22 hp23 hz22 hi22 hu22
          have hv5_out_n : Own (rRule 3 22) 68 _ B w23 _ (out_5.set (Int.toNat i_6) x12) := own_setN hv5_out hg22 (by decide) (idx_some hx14).2.2 hc22 hp23 hz22 hi22 hu22 (rRule_iff.2 ⟨_, _, _, rfl, (rel0 (Own.rel hr20_0)), (rel0 (Own.rel hr20_1)), (rel0 (Own.rel hr20_2))⟩) hB
          have h0 := hp23.mu.rel h0 (by decide) (Nat.le_trans hB hl22)
          have hr20_0 := hp23.mu.ownT hr20_0 (by decide) (by decide) (Nat.le_trans hB hl22)
          have hr20_1 := hp23.mu.ownT hr20_1 (by decide) (by decide) (Nat.le_trans hB hl22)
          have hr20_2 := hp23.mu.ownT hr20_2 (by decide) (by decide) (Nat.le_trans hB hl22)
          have hx := ext_mut hx hp23.mu hl22
          have hv5_out := hv5_out_n
          refine L_nil ?_
          refine W_region ?_
          refine L_mv (v := .int .i64 i_6) rfl sf4 ?_
          refine L_add (m := i_6) (n := 1) rfl rfl rfl ?_
          refine L_as (v := .int .i64 (i64 (i_6 + 1))) rfl rfl ?_
          refine L_nil ?_
          obtain rfl := so hB7
          show ∃ m, m < _ ∧ I7 m _ _
          refine ⟨n7, Nat.lt_succ_self _, ?_⟩
          rw [hI7]
          exact ⟨(out_5.set (Int.toNat i_6) x12), i64 (i_6 + 1), v5_out, hL7, sf0, sf3, rfl, h0, hv5_out, hx⟩
        ·
          have hB7 := (ite_f hc8).symm.trans hB7
          refine W_exit ?_
          obtain rfl := so hB7
          obtain rfl := so hL7
          show R7 _ _
          rw [hR7]
          exact ⟨out_5, i_6, v5_out, rfl, sf3, hv5_out, hx⟩
  ·
    intro f w_ hR
    rw [hR7] at hR
    obtain ⟨out_5, i_6, v5_out, rfl, sf3, hv5_out, hx⟩ := hR
    clear hR7
    refine W_seq ?_
    refine W_region ?_
    refine L_mv (v := v5_out) rfl sf3 ?_
    refine L_as (v := v5_out) rfl rfl ?_
    refine L_nil ?_
    refine W_ret ?_
    obtain rfl := so hF
    refine ret1 Try.results46 ?_
    exact ⟨⟨v5_out, rfl, hv5_out⟩, hx⟩

theorem l_toModel_c {fu : Nat} {a : Model} {v0_0 : Value} {v0_1 : Value} {w : World} {B : Nat} (hB : B ≤ w.heap.size) (h0_0 : (RP.slice 3 RP.int).rel B w.heap.size w [v0_0] a.sizes) (h0_1 : (RP.slice 76 (rRule 3 22)).rel B w.heap.size w [v0_1] a.rules) {r : Model} (hF : l_toModel fu a = some r) :
    C Try.prog 13 #[.agg #[v0_0, v0_1]] w fun v w' => (∃ u1 u2 : Value, v = .agg #[u1, u2] ∧ Own RP.int 3 w.heap.size B w' u1 r.sizes ∧ Own (rRule 3 22) 68 w.heap.size B w' u2 r.rules) ∧ Ext w w' := by
  unfold l_toModel at hF
  have hx := ext_refl w
  refine C_enter Try.func13 rfl Try.ntmps13 rfl ?_
  refine W_seq ?_
  refine W_region ?_
  refine L_box (v := .agg #[v0_0, v0_1]) (cs := #[v0_0, v0_1]) rfl rfl rfl ?_
  intro g5 w6 hn6
  have hge_g5 := hn6.ge hx
  have hb_g5 := hn6.blk
  have h0_0 := RP.ext h0_0 hn6.ext
  have h0_1 := RP.ext h0_1 hn6.ext
  have hx := ext_trans hx hn6.ext
  refine L_al (cs := #[(.slice none 0 0), (.slice none 0 0)]) rfl Try.zeroValue30 rfl ?_
  intro g7 w8 hn8
  have hge_g7 := hn8.ge hx
  have hb_g7 := hn8.blk
  have h0_0 := RP.ext h0_0 hn8.ext
  have h0_1 := RP.ext h0_1 hn8.ext
  have hb_g5 := Blk.ext hb_g5 hn8.ext
  have hx := ext_trans hx hn8.ext
  refine L_nil ?_
  refine W_seq ?_
  refine W_region ?_
  refine L_al (cs := #[(.slice none 0 0), (.slice none 0 0)]) rfl Try.zeroValue30 rfl ?_
  intro g12 w13 hn13
  have hge_g12 := hn13.ge hx
  have hb_g12 := hn13.blk
  have ap14 := ap_bb hb_g7 hn13
  have h0_0 := RP.ext h0_0 hn13.ext
  have h0_1 := RP.ext h0_1 hn13.ext
  have hb_g5 := Blk.ext hb_g5 hn13.ext
  have hb_g7 := Blk.ext hb_g7 hn13.ext
  have hx := ext_trans hx hn13.ext
  refine L_nil ?_
  refine W_seq ?_
  obtain ⟨x15, hx15, hF⟩ := bind_some hF
  refine W_region ?_
  refine L_fa (o' := 0) rfl fa_25_0 rfl rfl ?_
  refine L_ld (v := v0_0) rfl Try.isAgg22 rfl (hb_g5.cell (j := 0) rfl) ?_
  refine L_call (args := #[v0_0]) rfl Try.call24 (ops1 rfl) (l_toIntS_c (a := a.sizes) (Nat.le_trans hB hx.size) (rel0 h0_0) hx15) ?_
  rintro r18_0 w18 ⟨⟨_, rfl, hr18_0⟩, he18⟩
  have hr18_0 : Own _ _ w.heap.size B _ _ _ := hr18_0.wide hx.size (Nat.le_refl _)
  have h0_0 := RP.ext h0_0 he18
  have h0_1 := RP.ext h0_1 he18
  have hb_g5 := Blk.ext hb_g5 he18
  have hb_g7 := Blk.ext hb_g7 he18
  have hb_g12 := Blk.ext hb_g12 he18
  have hx := ext_trans hx he18
  refine L_fa (o' := 0) rfl fa_30_0 rfl rfl ?_
  refine L_st (v := r18_0) rfl Try.sizeOf22 rfl rfl (one_of (Own.rel hr18_0)) hb_g12 rfl ?_
  intro w19 hp19
  have h0_0 := hp19.mu.rel h0_0 (by decide) (Nat.le_trans hB hge_g12)
  have h0_1 := hp19.mu.rel h0_1 (by decide) (Nat.le_trans hB hge_g12)
  have hb_g5 := hp19.mu.blk hb_g5 (by decide)
  have hb_g7 := hp19.mu.blkA hb_g7 (Ap.symm ap14)
  have hr18_0 := hp19.mu.ownT hr18_0 (by decide) (by decide) (Nat.le_trans hB hge_g12)
  have hx := ext_mut hx hp19.mu hge_g12
  have hb_g12 : Blk w19 g12 30 #[r18_0, (.slice none 0 0)] := hp19.blk
  refine L_nil ?_
  refine W_seq ?_
  obtain ⟨x20, hx20, hF⟩ := bind_some hF
  refine W_region ?_
  refine L_fa (o' := 1) rfl fa_25_1 rfl rfl ?_
  refine L_ld (v := v0_1) rfl Try.isAgg23 rfl (hb_g5.cell (j := 1) rfl) ?_
  refine L_call (args := #[v0_1]) rfl Try.call46 (ops1 rfl) (l_toRuleS_c (a := a.rules) (Nat.le_trans hB hx.size) (rel0 h0_1) hx20) ?_
  rintro r23_0 w23 ⟨⟨_, rfl, hr23_0⟩, he23⟩
  have hr23_0 : Own _ _ w.heap.size B _ _ _ := hr23_0.wide hx.size (Nat.le_refl _)
  have h0_1 := RP.ext h0_1 he23
  have hb_g7 := Blk.ext hb_g7 he23
  have hb_g12 := Blk.ext hb_g12 he23
  have hr18_0 := Own.ext hr18_0 he23
  have hx := ext_trans hx he23
  refine L_fa (o' := 1) rfl fa_30_1 rfl rfl ?_
  refine L_st (v := r23_0) rfl Try.sizeOf28 rfl rfl (one_of (Own.rel hr23_0)) hb_g12 rfl ?_
  intro w24 hp24
  have hb_g7 := hp24.mu.blkA hb_g7 (Ap.symm ap14)
  have hr18_0 := hp24.mu.ownT hr18_0 (by decide) (by decide) (Nat.le_trans hB hge_g12)
  have hr23_0 := hp24.mu.ownT hr23_0 (by decide) (by decide) (Nat.le_trans hB hge_g12)
  have hx := ext_mut hx hp24.mu hge_g12
  have hb_g12 : Blk w24 g12 30 #[r18_0, r23_0] := hp24.blk
  refine L_nil ?_
  refine W_seq ?_
  refine W_region ?_
  refine L_lda (cs := [r18_0, r23_0]) rfl Try.isAgg30 Try.sizeOf30 rfl (Blk.sub hb_g12 0 2) rfl ?_
  refine L_sta (vs := #[r18_0, r23_0]) rfl Try.sizeOf30 rfl rfl rfl (ones_cons (one_of (Own.rel hr18_0)) (ones_cons (one_of (Own.rel hr23_0)) ones_nil)) hb_g7 rfl ?_
  intro w26 hp26
  have hr18_0 := hp26.mu.ownT hr18_0 (by decide) (by decide) (Nat.le_trans hB hge_g7)
  have hr23_0 := hp26.mu.ownT hr23_0 (by decide) (by decide) (Nat.le_trans hB hge_g7)
  have hx := ext_mut hx hp26.mu hge_g7
  have hb_g7 : Blk w26 g7 30 #[r18_0, r23_0] := hp26.blk
  refine L_nil ?_
  refine W_ret ?_
  obtain rfl := so hF
  refine retc Try.results13 Try.isAgg30 Try.sizeOf30 rfl hb_g7 rfl ?_
  exact ⟨⟨r18_0, r23_0, rfl, hr18_0, hr23_0⟩, hx⟩

theorem i_within_c {n_ : Int} {low : Int} {high : Int} {w : World} {B : Nat} (hB : B ≤ w.heap.size) {r : Bool} (hF : i_within n_ low high = some r) :
    C Try.prog 48 #[.int .i64 n_, .int .i64 low, .int .i64 high] w fun v w' => (v = .bool r) ∧ Ext w w' := by
  unfold i_within at hF
  have hx := ext_refl w
  refine C_enter Try.func48 rfl Try.ntmps48 rfl ?_
  refine W_seq ?_
  refine W_region ?_
  refine L_as (v := .bool false) rfl rfl ?_
  refine L_nil ?_
  refine W_seq ?_
  obtain ⟨R1, hR1⟩ : ∃ R : Fr → World → Prop, R = fun f w_ => f 6 = .bool ((decide (low ≤ n_)) && (decide (n_ ≤ high))) ∧ Ext w w_ := ⟨_, rfl⟩
  refine W_join R1 ?_ ?_
  ·
    refine W_region ?_
    refine L_mv (v := .int .i64 low) rfl rfl ?_
    refine L_mv (v := .int .i64 n_) rfl rfl ?_
    refine L_leq (m := low) (n := n_) rfl rfl rfl ?_
    refine L_mv (v := .bool (decide (low ≤ n_))) rfl rfl ?_
    refine L_split (d := 10) (b := decide (low ≤ n_)) rfl (fun hc2 => ?_) (fun hc2 => ?_)
    ·
      refine L_mv (v := .int .i64 n_) rfl rfl ?_
      refine L_mv (v := .int .i64 high) rfl rfl ?_
      refine L_leq (m := n_) (n := high) rfl rfl rfl ?_
      refine L_pick (v := .bool ((decide (low ≤ n_)) && (decide (n_ ≤ high)))) rfl rfl (and_t hc2 rfl) ?_
      refine L_as (v := .bool ((decide (low ≤ n_)) && (decide (n_ ≤ high)))) rfl rfl ?_
      refine L_nil ?_
      show R1 _ _
      rw [hR1]
      exact ⟨rfl, hx⟩
    ·
      refine L_pass rfl ?_
      refine L_pass rfl ?_
      refine L_pass rfl ?_
      refine L_pick (v := .bool ((decide (low ≤ n_)) && (decide (n_ ≤ high)))) rfl rfl (and_f hc2) ?_
      refine L_as (v := .bool ((decide (low ≤ n_)) && (decide (n_ ≤ high)))) rfl rfl ?_
      refine L_nil ?_
      show R1 _ _
      rw [hR1]
      exact ⟨rfl, hx⟩
  ·
    intro f w_ hR
    rw [hR1] at hR
    obtain ⟨sf6, hx⟩ := hR
    clear hR1
    refine W_ret ?_
    obtain rfl := so hF
    refine ret1 Try.results48 ?_
    exact ⟨sf6, hx⟩

theorem slices_IndexFunc_implRule_c {s : List Rule} {f_ : (Rule → Option Bool)} {v0 : Value} {v1 : Value} {w : World} {B : Nat} (hB : B ≤ w.heap.size) (h0 : (RP.slice 68 (rRule 3 22)).rel B w.heap.size w [v0] s) (h1 : Fun1 Try.prog B (rRule 3 22) true Value.bool f_ v1 w) {r : Int} (hF : slices_IndexFunc_implRule s f_ = some r) :
    C Try.prog 83 #[v0, v1] w fun v w' => (v = .int .i64 r) ∧ Ext w w' := by
  unfold slices_IndexFunc_implRule at hF
  obtain ⟨fid_1, caps_1, rfl, hcall_1, hc_1⟩ := h1
  have hx := ext_refl w
  refine C_enter Try.func83 rfl Try.ntmps83 rfl ?_
  refine W_seq ?_
  refine W_region ?_
  refine L_as (v := .int .i64 0) rfl rfl ?_
  refine L_nil ?_
  refine W_seq ?_
  refine W_seq ?_
  refine W_region ?_
  refine L_mv (v := v0) rfl rfl ?_
  refine L_len (v := v0) rfl Try.underlying28 rfl h0 ?_
  refine L_mv (v := .int .i64 0) rfl rfl ?_
  refine L_nil ?_
  have hlen2 := len_le h0
  obtain ⟨j2, hL2, hF⟩ := bind_some hF
  obtain ⟨R2, hR2⟩ : ∃ R : Fr → World → Prop, R = fun f w_ => j2 = .nx () ∧ Ext w w_ := ⟨_, rfl⟩
  refine W_join R2 ?_ ?_
  ·
    refine W_block ?_
    obtain ⟨I2, hI2⟩ : ∃ I : Nat → Fr → World → Prop, I = fun n f w_ => ∃ i_1 : Nat, ∃ suf2 : List Rule, n = suf2.length ∧ List.drop i_1 s = suf2 ∧ i_1 + suf2.length = s.length ∧ rangeL (slices_IndexFunc_implRule_b1 f_) suf2 i_1 () = some j2 ∧ f 0 = v0 ∧ f 1 = .func (.func fid_1) #[] caps_1 ∧ f 7 = .int .i64 (s.length : Int) ∧ f 8 = .int .i64 (i_1 : Int) ∧ (RP.slice 68 (rRule 3 22)).rel B w.heap.size w_ [v0] s ∧ Ext w w_ := ⟨_, rfl⟩
    refine W_loop I2 (n := s.length) ?_ ?_
    · rw [hI2]; exact ⟨0, s, rfl, rfl, Nat.zero_add _, hL2, rfl, rfl, rfl, rfl, h0, hx⟩
    ·
      intro n2 f w_ hI
      rw [hI2] at hI
      obtain ⟨i_1, suf2, rfl, hd2, hl2, hL2, sf0, sf1, sf7, sf8, h0, hx⟩ := hI
      refine W_seq ?_
      refine W_region ?_
      refine L_lss (m := (i_1 : Int)) (n := (s.length : Int)) rfl sf8 sf7 ?_
      refine L_nil ?_
      refine W_seq ?_
      refine W_cond (b := decide ((i_1 : Int) < (s.length : Int))) rfl (fun hc3 => ?_) (fun hc3 => ?_)
      ·
        have hlt2 := of_decide_eq_true hc3
        cases suf2 with
        | nil => exact absurd hlt2 (by simp at hl2; omega)
        | cons x_2 rest2 =>
          obtain ⟨o2, hB2, hL2⟩ := range_cons hL2
          rw [slices_IndexFunc_implRule_b1] at hB2
          have hix2 := drop_idx hd2
          refine W_skip ?_
          refine W_seq ?_
          refine W_block ?_
          refine W_seq ?_
          refine W_region ?_
          refine L_mv (v := .int .i64 (i_1 : Int)) rfl sf8 ?_
          refine L_as (v := .int .i64 (i_1 : Int)) rfl rfl ?_
          refine L_nil ?_
          refine W_seq ?_
          obtain ⟨x6, hx6, hB2⟩ := bind_some hB2
          refine W_region ?_
          refine L_mv (v := .func (.func fid_1) #[] caps_1) rfl sf1 ?_
          refine L_mv (v := v0) rfl sf0 ?_
          refine L_mv (v := .int .i64 (i_1 : Int)) rfl rfl ?_
          refine L_ix (r := (rRule 3 22)) rfl Try.underlying28 Try.sizeOf68 rfl h0 rfl hix2 ?_
          intro g7 o8 cs8 hr8 hat8
          obtain ⟨u8_0, u8_1, u8_2, rfl, hu8_0, hu8_1, hu8_2⟩ := rRule_iff.1 hr8
          refine L_lda (cs := [.int .i64 x_2.kind, u8_0, u8_1, .int .i64 x_2.bound, u8_2]) rfl Try.isAgg68 Try.sizeOf68 rfl (At.sub hat8 0 5) rfl ?_
          refine L_callv (args := #[.agg #[.int .i64 x_2.kind, u8_0, u8_1, .int .i64 x_2.bound, u8_2]]) rfl hcall_1 rfl (ops1 rfl) (hc_1 _ hx [.int .i64 x_2.kind, u8_0, u8_1, .int .i64 x_2.bound, u8_2] _ _ _ (rRule_iff.2 ⟨_, _, _, rfl, (rel0 hu8_0), (rel0 hu8_1), (rel0 hu8_2)⟩) hx6 (args_app rfl)) ?_
          rintro _ w9 ⟨rfl, he9⟩
          have h0 := RP.ext h0 he9
          have hu8_0 := RP.ext hu8_0 he9
          have hu8_1 := RP.ext hu8_1 he9
          have hu8_2 := RP.ext hu8_2 he9
          have hx := ext_trans hx he9
          refine L_nil ?_
          refine W_cond (b := x6) rfl (fun hc10 => ?_) (fun hc10 => ?_)
          ·
            have hB2 := (ite_t hc10).symm.trans hB2
            refine W_seq ?_
            refine W_region ?_
            refine L_mv (v := .int .i64 (i_1 : Int)) rfl rfl ?_
            refine L_as (v := .int .i64 (i_1 : Int)) rfl rfl ?_
            refine L_nil ?_
            refine W_ret ?_
            obtain rfl := so hB2
            obtain rfl := so hL2
            obtain rfl := so hF
            refine ret1 Try.results83 ?_
            exact ⟨rfl, hx⟩
          ·
            have hB2 := (ite_f hc10).symm.trans hB2
            refine W_skip ?_
            refine W_region ?_
            refine L_add (m := (i_1 : Int)) (n := 1) rfl sf8 rfl ?_
            refine L_mv (v := .int .i64 (i64 ((i_1 : Int) + 1))) rfl rfl ?_
            refine L_nil ?_
            obtain rfl := so hB2
            show ∃ m, m < _ ∧ I2 m _ _
            refine ⟨rest2.length, by simp, ?_⟩
            rw [hI2]
            exact ⟨i_1 + 1, rest2, rfl, drop_next hd2, by simp at hl2; omega, hL2, sf0, sf1, sf7, (Eq.trans rfl (congrArg (Value.int .i64) (i64_succ (n := s.length) (by simp at hl2; omega) hlen2))), h0, hx⟩
      ·
        cases suf2 with
        | cons _ _ => exact absurd (of_decide_eq_false hc3) (by simp at hl2; omega)
        | nil =>
          obtain rfl := range_nil hL2
          refine W_exit ?_
          show R2 _ _
          rw [hR2]
          exact ⟨rfl, hx⟩
  ·
    intro f w_ hR
    rw [hR2] at hR
    obtain ⟨rfl, hx⟩ := hR
    clear hR2
    refine W_seq ?_
    refine W_region ?_
    refine L_as (v := .int .i64 (-1)) rfl rfl ?_
    refine L_nil ?_
    refine W_ret ?_
    obtain rfl := so hF
    refine ret1 Try.results83 ?_
    exact ⟨rfl, hx⟩

theorem slices_ContainsFunc_implRule_c {s : List Rule} {f_ : (Rule → Option Bool)} {v0 : Value} {v1 : Value} {w : World} {B : Nat} (hB : B ≤ w.heap.size) (h0 : (RP.slice 68 (rRule 3 22)).rel B w.heap.size w [v0] s) (h1 : Fun1 Try.prog B (rRule 3 22) true Value.bool f_ v1 w) {r : Bool} (hF : slices_ContainsFunc_implRule s f_ = some r) :
    C Try.prog 68 #[v0, v1] w fun v w' => (v = .bool r) ∧ Ext w w' := by
  unfold slices_ContainsFunc_implRule at hF
  obtain ⟨fid_1, caps_1, rfl, hcall_1, hc_1⟩ := h1
  have hx := ext_refl w
  refine C_enter Try.func68 rfl Try.ntmps68 rfl ?_
  refine W_seq ?_
  refine W_region ?_
  refine L_as (v := .bool false) rfl rfl ?_
  refine L_nil ?_
  refine W_seq ?_
  obtain ⟨x1, hx1, hF⟩ := bind_some hF
  refine W_region ?_
  refine L_mv (v := v0) rfl rfl ?_
  refine L_mv (v := .func (.func fid_1) #[] caps_1) rfl rfl ?_
  refine L_call (args := #[v0, .func (.func fid_1) #[] caps_1]) rfl Try.call83 (ops2 rfl rfl) (slices_IndexFunc_implRule_c (s := s) (f_ := f_) (Nat.le_trans hB hx.size) (rel0 h0) ⟨_, _, rfl, hcall_1, fun w_ hE_ => hc_1 w_ (ext_trans hx hE_)⟩ hx1) ?_
  rintro _ w3 ⟨rfl, he3⟩
  have h0 := RP.ext h0 he3
  have hx := ext_trans hx he3
  refine L_geq (m := x1) (n := 0) rfl rfl rfl ?_
  refine L_as (v := .bool (decide (x1 ≥ 0))) rfl rfl ?_
  refine L_nil ?_
  refine W_ret ?_
  obtain rfl := so hF
  refine ret1 Try.results68 ?_
  exact ⟨rfl, hx⟩

theorem slices_Index_int_c {s : List Int} {v_ : Int} {v0 : Value} {w : World} {B : Nat} (hB : B ≤ w.heap.size) (h0 : (RP.slice 3 RP.int).rel B w.heap.size w [v0] s) {r : Int} (hF : slices_Index_int s v_ = some r) :
    C Try.prog 93 #[v0, .int .i64 v_] w fun v w' => (v = .int .i64 r) ∧ Ext w w' := by
  unfold slices_Index_int at hF
  have hx := ext_refl w
  refine C_enter Try.func93 rfl Try.ntmps93 rfl ?_
  refine W_seq ?_
  refine W_region ?_
  refine L_as (v := .int .i64 0) rfl rfl ?_
  refine L_nil ?_
  refine W_seq ?_
  refine W_seq ?_
  refine W_region ?_
  refine L_mv (v := v0) rfl rfl ?_
  refine L_len (v := v0) rfl Try.underlying22 rfl h0 ?_
  refine L_mv (v := .int .i64 0) rfl rfl ?_
  refine L_nil ?_
  have hlen2 := len_le h0
  obtain ⟨j2, hL2, hF⟩ := bind_some hF
  obtain ⟨R2, hR2⟩ : ∃ R : Fr → World → Prop, R = fun f w_ => j2 = .nx () ∧ Ext w w_ := ⟨_, rfl⟩
  refine W_join R2 ?_ ?_
  ·
    refine W_block ?_
    obtain ⟨I2, hI2⟩ : ∃ I : Nat → Fr → World → Prop, I = fun n f w_ => ∃ i_1 : Nat, ∃ suf2 : List Int, n = suf2.length ∧ List.drop i_1 s = suf2 ∧ i_1 + suf2.length = s.length ∧ rangeL (slices_Index_int_b1 v_) suf2 i_1 () = some j2 ∧ f 0 = v0 ∧ f 1 = .int .i64 v_ ∧ f 7 = .int .i64 (s.length : Int) ∧ f 8 = .int .i64 (i_1 : Int) ∧ (RP.slice 3 RP.int).rel B w.heap.size w_ [v0] s ∧ Ext w w_ := ⟨_, rfl⟩
    refine W_loop I2 (n := s.length) ?_ ?_
    · rw [hI2]; exact ⟨0, s, rfl, rfl, Nat.zero_add _, hL2, rfl, rfl, rfl, rfl, h0, hx⟩
    ·
      intro n2 f w_ hI
      rw [hI2] at hI
      obtain ⟨i_1, suf2, rfl, hd2, hl2, hL2, sf0, sf1, sf7, sf8, h0, hx⟩ := hI
      refine W_seq ?_
      refine W_region ?_
      refine L_lss (m := (i_1 : Int)) (n := (s.length : Int)) rfl sf8 sf7 ?_
      refine L_nil ?_
      refine W_seq ?_
      refine W_cond (b := decide ((i_1 : Int) < (s.length : Int))) rfl (fun hc3 => ?_) (fun hc3 => ?_)
      ·
        have hlt2 := of_decide_eq_true hc3
        cases suf2 with
        | nil => exact absurd hlt2 (by simp at hl2; omega)
        | cons x_2 rest2 =>
          obtain ⟨o2, hB2, hL2⟩ := range_cons hL2
          rw [slices_Index_int_b1] at hB2
          have hix2 := drop_idx hd2
          refine W_skip ?_
          refine W_seq ?_
          refine W_block ?_
          refine W_seq ?_
          refine W_region ?_
          refine L_mv (v := .int .i64 (i_1 : Int)) rfl sf8 ?_
          refine L_as (v := .int .i64 (i_1 : Int)) rfl rfl ?_
          refine L_nil ?_
          refine W_seq ?_
          refine W_region ?_
          refine L_mv (v := .int .i64 v_) rfl sf1 ?_
          refine L_mv (v := v0) rfl sf0 ?_
          refine L_mv (v := .int .i64 (i_1 : Int)) rfl rfl ?_
          refine L_ix (r := RP.int) rfl Try.underlying22 Try.sizeOf3 rfl h0 rfl hix2 ?_
          intro g6 o7 cs7 hr7 hat7
          obtain rfl : _ = [_] := hr7
          refine L_ld (v := .int .i64 x_2) rfl Try.isAgg3 rfl (hat7.cell (j := 0) rfl) ?_
          refine L_eql (m := v_) (n := x_2) rfl rfl rfl ?_
          refine L_nil ?_
          refine W_cond (b := (v_ == x_2)) rfl (fun hc8 => ?_) (fun hc8 => ?_)
          ·
            have hB2 := (ite_t hc8).symm.trans hB2
            refine W_seq ?_
            refine W_region ?_
            refine L_mv (v := .int .i64 (i_1 : Int)) rfl rfl ?_
            refine L_as (v := .int .i64 (i_1 : Int)) rfl rfl ?_
            refine L_nil ?_
            refine W_ret ?_
            obtain rfl := so hB2
            obtain rfl := so hL2
            obtain rfl := so hF
            refine ret1 Try.results93 ?_
            exact ⟨rfl, hx⟩
          ·
            have hB2 := (ite_f hc8).symm.trans hB2
            refine W_skip ?_
            refine W_region ?_
            refine L_add (m := (i_1 : Int)) (n := 1) rfl sf8 rfl ?_
            refine L_mv (v := .int .i64 (i64 ((i_1 : Int) + 1))) rfl rfl ?_
            refine L_nil ?_
            obtain rfl := so hB2
            show ∃ m, m < _ ∧ I2 m _ _
            refine ⟨rest2.length, by simp, ?_⟩
            rw [hI2]
            exact ⟨i_1 + 1, rest2, rfl, drop_next hd2, by simp at hl2; omega, hL2, sf0, sf1, sf7, (Eq.trans rfl (congrArg (Value.int .i64) (i64_succ (n := s.length) (by simp at hl2; omega) hlen2))), h0, hx⟩
      ·
        cases suf2 with
        | cons _ _ => exact absurd (of_decide_eq_false hc3) (by simp at hl2; omega)
        | nil =>
          obtain rfl := range_nil hL2
          refine W_exit ?_
          show R2 _ _
          rw [hR2]
          exact ⟨rfl, hx⟩
  ·
    intro f w_ hR
    rw [hR2] at hR
    obtain ⟨rfl, hx⟩ := hR
    clear hR2
    refine W_seq ?_
    refine W_region ?_
    refine L_as (v := .int .i64 (-1)) rfl rfl ?_
    refine L_nil ?_
    refine W_ret ?_
    obtain rfl := so hF
    refine ret1 Try.results93 ?_
    exact ⟨rfl, hx⟩

theorem slices_Contains_int_c {s : List Int} {v_ : Int} {v0 : Value} {w : World} {B : Nat} (hB : B ≤ w.heap.size) (h0 : (RP.slice 3 RP.int).rel B w.heap.size w [v0] s) {r : Bool} (hF : slices_Contains_int s v_ = some r) :
    C Try.prog 84 #[v0, .int .i64 v_] w fun v w' => (v = .bool r) ∧ Ext w w' := by
  unfold slices_Contains_int at hF
  have hx := ext_refl w
  refine C_enter Try.func84 rfl Try.ntmps84 rfl ?_
  refine W_seq ?_
  refine W_region ?_
  refine L_as (v := .bool false) rfl rfl ?_
  refine L_nil ?_
  refine W_seq ?_
  obtain ⟨x1, hx1, hF⟩ := bind_some hF
  refine W_region ?_
  refine L_mv (v := v0) rfl rfl ?_
  refine L_mv (v := .int .i64 v_) rfl rfl ?_
  refine L_call (args := #[v0, .int .i64 v_]) rfl Try.call93 (ops2 rfl rfl) (slices_Index_int_c (s := s) (v_ := v_) (Nat.le_trans hB hx.size) (rel0 h0) hx1) ?_
  rintro _ w3 ⟨rfl, he3⟩
  have h0 := RP.ext h0 he3
  have hx := ext_trans hx he3
  refine L_geq (m := x1) (n := 0) rfl rfl rfl ?_
  refine L_as (v := .bool (decide (x1 ≥ 0))) rfl rfl ?_
  refine L_nil ?_
  refine W_ret ?_
  obtain rfl := so hF
  refine ret1 Try.results84 ?_
  exact ⟨rfl, hx⟩

theorem slices_IndexFunc_int_c {s : List Int} {f_ : (Int → Option Bool)} {v0 : Value} {v1 : Value} {w : World} {B : Nat} (hB : B ≤ w.heap.size) (h0 : (RP.slice 3 RP.int).rel B w.heap.size w [v0] s) (h1 : Fun1 Try.prog B RP.int false Value.bool f_ v1 w) {r : Int} (hF : slices_IndexFunc_int s f_ = some r) :
    C Try.prog 94 #[v0, v1] w fun v w' => (v = .int .i64 r) ∧ Ext w w' := by
  unfold slices_IndexFunc_int at hF
  obtain ⟨fid_1, caps_1, rfl, hcall_1, hc_1⟩ := h1
  have hx := ext_refl w
  refine C_enter Try.func94 rfl Try.ntmps94 rfl ?_
  refine W_seq ?_
  refine W_region ?_
  refine L_as (v := .int .i64 0) rfl rfl ?_
  refine L_nil ?_
  refine W_seq ?_
  refine W_seq ?_
  refine W_region ?_
  refine L_mv (v := v0) rfl rfl ?_
  refine L_len (v := v0) rfl Try.underlying22 rfl h0 ?_
  refine L_mv (v := .int .i64 0) rfl rfl ?_
  refine L_nil ?_
  have hlen2 := len_le h0
  obtain ⟨j2, hL2, hF⟩ := bind_some hF
  obtain ⟨R2, hR2⟩ : ∃ R : Fr → World → Prop, R = fun f w_ => j2 = .nx () ∧ Ext w w_ := ⟨_, rfl⟩
  refine W_join R2 ?_ ?_
  ·
    refine W_block ?_
    obtain ⟨I2, hI2⟩ : ∃ I : Nat → Fr → World → Prop, I = fun n f w_ => ∃ i_1 : Nat, ∃ suf2 : List Int, n = suf2.length ∧ List.drop i_1 s = suf2 ∧ i_1 + suf2.length = s.length ∧ rangeL (slices_IndexFunc_int_b1 f_) suf2 i_1 () = some j2 ∧ f 0 = v0 ∧ f 1 = .func (.func fid_1) #[] caps_1 ∧ f 7 = .int .i64 (s.length : Int) ∧ f 8 = .int .i64 (i_1 : Int) ∧ (RP.slice 3 RP.int).rel B w.heap.size w_ [v0] s ∧ Ext w w_ := ⟨_, rfl⟩
    refine W_loop I2 (n := s.length) ?_ ?_
    · rw [hI2]; exact ⟨0, s, rfl, rfl, Nat.zero_add _, hL2, rfl, rfl, rfl, rfl, h0, hx⟩
    ·
      intro n2 f w_ hI
      rw [hI2] at hI
      obtain ⟨i_1, suf2, rfl, hd2, hl2, hL2, sf0, sf1, sf7, sf8, h0, hx⟩ := hI
      refine W_seq ?_
      refine W_region ?_
      refine L_lss (m := (i_1 : Int)) (n := (s.length : Int)) rfl sf8 sf7 ?_
      refine L_nil ?_
      refine W_seq ?_
      refine W_cond (b := decide ((i_1 : Int) < (s.length : Int))) rfl (fun hc3 => ?_) (fun hc3 => ?_)
      ·
        have hlt2 := of_decide_eq_true hc3
        cases suf2 with
        | nil => exact absurd hlt2 (by simp at hl2; omega)
        | cons x_2 rest2 =>
          obtain ⟨o2, hB2, hL2⟩ := range_cons hL2
          rw [slices_IndexFunc_int_b1] at hB2
          have hix2 := drop_idx hd2
          refine W_skip ?_
          refine W_seq ?_
          refine W_block ?_
          refine W_seq ?_
          refine W_region ?_
          refine L_mv (v := .int .i64 (i_1 : Int)) rfl sf8 ?_
          refine L_as (v := .int .i64 (i_1 : Int)) rfl rfl ?_
          refine L_nil ?_
          refine W_seq ?_
          obtain ⟨x6, hx6, hB2⟩ := bind_some hB2
          refine W_region ?_
          refine L_mv (v := .func (.func fid_1) #[] caps_1) rfl sf1 ?_
          refine L_mv (v := v0) rfl sf0 ?_
          refine L_mv (v := .int .i64 (i_1 : Int)) rfl rfl ?_
          refine L_ix (r := RP.int) rfl Try.underlying22 Try.sizeOf3 rfl h0 rfl hix2 ?_
          intro g7 o8 cs8 hr8 hat8
          obtain rfl : _ = [_] := hr8
          refine L_ld (v := .int .i64 x_2) rfl Try.isAgg3 rfl (hat8.cell (j := 0) rfl) ?_
          refine L_callv (args := #[.int .i64 x_2]) rfl hcall_1 rfl (ops1 rfl) (hc_1 _ hx [.int .i64 x_2] _ _ _ rfl hx6 (args_app rfl)) ?_
          rintro _ w9 ⟨rfl, he9⟩
          have h0 := RP.ext h0 he9
          have hx := ext_trans hx he9
          refine L_nil ?_
          refine W_cond (b := x6) rfl (fun hc10 => ?_) (fun hc10 => ?_)
          ·
            have hB2 := (ite_t hc10).symm.trans hB2
            refine W_seq ?_
            refine W_region ?_
            refine L_mv (v := .int .i64 (i_1 : Int)) rfl rfl ?_
            refine L_as (v := .int .i64 (i_1 : Int)) rfl rfl ?_
            refine L_nil ?_
            refine W_ret ?_
            obtain rfl := so hB2
            obtain rfl := so hL2
            obtain rfl := so hF
            refine ret1 Try.results94 ?_
            exact ⟨rfl, hx⟩
          ·
            have hB2 := (ite_f hc10).symm.trans hB2
            refine W_skip ?_
            refine W_region ?_
            refine L_add (m := (i_1 : Int)) (n := 1) rfl sf8 rfl ?_
            refine L_mv (v := .int .i64 (i64 ((i_1 : Int) + 1))) rfl rfl ?_
            refine L_nil ?_
            obtain rfl := so hB2
            show ∃ m, m < _ ∧ I2 m _ _
            refine ⟨rest2.length, by simp, ?_⟩
            rw [hI2]
            exact ⟨i_1 + 1, rest2, rfl, drop_next hd2, by simp at hl2; omega, hL2, sf0, sf1, sf7, (Eq.trans rfl (congrArg (Value.int .i64) (i64_succ (n := s.length) (by simp at hl2; omega) hlen2))), h0, hx⟩
      ·
        cases suf2 with
        | cons _ _ => exact absurd (of_decide_eq_false hc3) (by simp at hl2; omega)
        | nil =>
          obtain rfl := range_nil hL2
          refine W_exit ?_
          show R2 _ _
          rw [hR2]
          exact ⟨rfl, hx⟩
  ·
    intro f w_ hR
    rw [hR2] at hR
    obtain ⟨rfl, hx⟩ := hR
    clear hR2
    refine W_seq ?_
    refine W_region ?_
    refine L_as (v := .int .i64 (-1)) rfl rfl ?_
    refine L_nil ?_
    refine W_ret ?_
    obtain rfl := so hF
    refine ret1 Try.results94 ?_
    exact ⟨rfl, hx⟩

theorem slices_ContainsFunc_int_c {s : List Int} {f_ : (Int → Option Bool)} {v0 : Value} {v1 : Value} {w : World} {B : Nat} (hB : B ≤ w.heap.size) (h0 : (RP.slice 3 RP.int).rel B w.heap.size w [v0] s) (h1 : Fun1 Try.prog B RP.int false Value.bool f_ v1 w) {r : Bool} (hF : slices_ContainsFunc_int s f_ = some r) :
    C Try.prog 85 #[v0, v1] w fun v w' => (v = .bool r) ∧ Ext w w' := by
  unfold slices_ContainsFunc_int at hF
  obtain ⟨fid_1, caps_1, rfl, hcall_1, hc_1⟩ := h1
  have hx := ext_refl w
  refine C_enter Try.func85 rfl Try.ntmps85 rfl ?_
  refine W_seq ?_
  refine W_region ?_
  refine L_as (v := .bool false) rfl rfl ?_
  refine L_nil ?_
  refine W_seq ?_
  obtain ⟨x1, hx1, hF⟩ := bind_some hF
  refine W_region ?_
  refine L_mv (v := v0) rfl rfl ?_
  refine L_mv (v := .func (.func fid_1) #[] caps_1) rfl rfl ?_
  refine L_call (args := #[v0, .func (.func fid_1) #[] caps_1]) rfl Try.call94 (ops2 rfl rfl) (slices_IndexFunc_int_c (s := s) (f_ := f_) (Nat.le_trans hB hx.size) (rel0 h0) ⟨_, _, rfl, hcall_1, fun w_ hE_ => hc_1 w_ (ext_trans hx hE_)⟩ hx1) ?_
  rintro _ w3 ⟨rfl, he3⟩
  have h0 := RP.ext h0 he3
  have hx := ext_trans hx he3
  refine L_geq (m := x1) (n := 0) rfl rfl rfl ?_
  refine L_as (v := .bool (decide (x1 ≥ 0))) rfl rfl ?_
  refine L_nil ?_
  refine W_ret ?_
  obtain rfl := so hF
  refine ret1 Try.results85 ?_
  exact ⟨rfl, hx⟩

theorem i_ruleValid_1_c {n_ : Int} {w : World} {B : Nat} (hB : B ≤ w.heap.size) {r : Bool} (hF : i_ruleValid_1 n_ = some r) :
    C Try.prog 86 #[.int .i64 n_] w fun v w' => (v = .bool r) ∧ Ext w w' := by
  unfold i_ruleValid_1 at hF
  have hx := ext_refl w
  refine C_enter Try.func86 rfl Try.ntmps86 rfl ?_
  refine W_seq ?_
  refine W_region ?_
  refine L_as (v := .bool false) rfl rfl ?_
  refine L_nil ?_
  refine W_seq ?_
  obtain ⟨b3, hb3, hF⟩ := bind_some hF
  obtain ⟨R4, hR4⟩ : ∃ R : Fr → World → Prop, R = fun f w_ => f 2 = .bool b3 ∧ Ext w w_ := ⟨_, rfl⟩
  refine W_join R4 ?_ ?_
  ·
    refine W_region ?_
    refine L_mv (v := .int .i64 n_) rfl rfl ?_
    refine L_eql (m := n_) (n := 0) rfl rfl rfl ?_
    refine L_mv (v := .bool (n_ == 0)) rfl rfl ?_
    refine L_split (d := 5) (b := (n_ == 0)) rfl (fun hc5 => ?_) (fun hc5 => ?_)
    ·
      rw [ite_t hc5] at hb3
      refine L_pass rfl ?_
      refine L_pass rfl ?_
      refine L_pass rfl ?_
      refine L_pick (v := .bool b3) rfl rfl (congrArg Value.bool (so hb3)) ?_
      refine L_as (v := .bool b3) rfl rfl ?_
      refine L_nil ?_
      show R4 _ _
      rw [hR4]
      exact ⟨rfl, hx⟩
    ·
      rw [ite_f hc5] at hb3
      obtain ⟨x1, hx1, hb3⟩ := bind_some hb3
      refine L_mv (v := .int .i64 n_) rfl rfl ?_
      refine L_call (args := #[.int .i64 n_, .int .i64 (-9), .int .i64 9]) rfl Try.call48 (ops3 rfl rfl rfl) (i_within_c (n_ := n_) (low := (-9)) (high := 9) (Nat.le_trans hB hx.size) hx1) ?_
      rintro _ w6 ⟨rfl, he6⟩
      have hx := ext_trans hx he6
      refine L_not_ (b := x1) rfl rfl ?_
      refine L_pick (v := .bool b3) rfl rfl (congrArg Value.bool (so hb3)) ?_
      refine L_as (v := .bool b3) rfl rfl ?_
      refine L_nil ?_
      show R4 _ _
      rw [hR4]
      exact ⟨rfl, hx⟩
  ·
    intro f w_ hR
    rw [hR4] at hR
    obtain ⟨sf2, hx⟩ := hR
    clear hR4
    refine W_ret ?_
    obtain rfl := so hF
    refine ret1 Try.results86 ?_
    exact ⟨sf2, hx⟩

theorem slices_IndexFunc_Sint_c {s : List (List Int)} {f_ : (List Int → Option Bool)} {v0 : Value} {v1 : Value} {w : World} {B : Nat} (hB : B ≤ w.heap.size) (h0 : (RP.slice 22 (RP.slice 3 RP.int)).rel B w.heap.size w [v0] s) (h1 : Fun1 Try.prog B (RP.slice 3 RP.int) false Value.bool f_ v1 w) {r : Int} (hF : slices_IndexFunc_Sint s f_ = some r) :
    C Try.prog 95 #[v0, v1] w fun v w' => (v = .int .i64 r) ∧ Ext w w' := by
  unfold slices_IndexFunc_Sint at hF
  obtain ⟨fid_1, caps_1, rfl, hcall_1, hc_1⟩ := h1
  have hx := ext_refl w
  refine C_enter Try.func95 rfl Try.ntmps95 rfl ?_
  refine W_seq ?_
  refine W_region ?_
  refine L_as (v := .int .i64 0) rfl rfl ?_
  refine L_nil ?_
  refine W_seq ?_
  refine W_seq ?_
  refine W_region ?_
  refine L_mv (v := v0) rfl rfl ?_
  refine L_len (v := v0) rfl Try.underlying66 rfl h0 ?_
  refine L_mv (v := .int .i64 0) rfl rfl ?_
  refine L_nil ?_
  have hlen2 := len_le h0
  obtain ⟨j2, hL2, hF⟩ := bind_some hF
  obtain ⟨R2, hR2⟩ : ∃ R : Fr → World → Prop, R = fun f w_ => j2 = .nx () ∧ Ext w w_ := ⟨_, rfl⟩
  refine W_join R2 ?_ ?_
  ·
    refine W_block ?_
    obtain ⟨I2, hI2⟩ : ∃ I : Nat → Fr → World → Prop, I = fun n f w_ => ∃ i_1 : Nat, ∃ suf2 : List (List Int), n = suf2.length ∧ List.drop i_1 s = suf2 ∧ i_1 + suf2.length = s.length ∧ rangeL (slices_IndexFunc_Sint_b1 f_) suf2 i_1 () = some j2 ∧ f 0 = v0 ∧ f 1 = .func (.func fid_1) #[] caps_1 ∧ f 7 = .int .i64 (s.length : Int) ∧ f 8 = .int .i64 (i_1 : Int) ∧ (RP.slice 22 (RP.slice 3 RP.int)).rel B w.heap.size w_ [v0] s ∧ Ext w w_ := ⟨_, rfl⟩
    refine W_loop I2 (n := s.length) ?_ ?_
    · rw [hI2]; exact ⟨0, s, rfl, rfl, Nat.zero_add _, hL2, rfl, rfl, rfl, rfl, h0, hx⟩
    ·
      intro n2 f w_ hI
      rw [hI2] at hI
      obtain ⟨i_1, suf2, rfl, hd2, hl2, hL2, sf0, sf1, sf7, sf8, h0, hx⟩ := hI
      refine W_seq ?_
      refine W_region ?_
      refine L_lss (m := (i_1 : Int)) (n := (s.length : Int)) rfl sf8 sf7 ?_
      refine L_nil ?_
      refine W_seq ?_
      refine W_cond (b := decide ((i_1 : Int) < (s.length : Int))) rfl (fun hc3 => ?_) (fun hc3 => ?_)
      ·
        have hlt2 := of_decide_eq_true hc3
        cases suf2 with
        | nil => exact absurd hlt2 (by simp at hl2; omega)
        | cons x_2 rest2 =>
          obtain ⟨o2, hB2, hL2⟩ := range_cons hL2
          rw [slices_IndexFunc_Sint_b1] at hB2
          have hix2 := drop_idx hd2
          refine W_skip ?_
          refine W_seq ?_
          refine W_block ?_
          refine W_seq ?_
          refine W_region ?_
          refine L_mv (v := .int .i64 (i_1 : Int)) rfl sf8 ?_
          refine L_as (v := .int .i64 (i_1 : Int)) rfl rfl ?_
          refine L_nil ?_
          refine W_seq ?_
          obtain ⟨x6, hx6, hB2⟩ := bind_some hB2
          refine W_region ?_
          refine L_mv (v := .func (.func fid_1) #[] caps_1) rfl sf1 ?_
          refine L_mv (v := v0) rfl sf0 ?_
          refine L_mv (v := .int .i64 (i_1 : Int)) rfl rfl ?_
          refine L_ix (r := (RP.slice 3 RP.int)) rfl Try.underlying66 Try.sizeOf22 rfl h0 rfl hix2 ?_
          intro g7 o8 cs8 hr8 hat8
          obtain ⟨u8, rfl, hu8⟩ := slice1 hr8
          refine L_ld (v := u8) rfl Try.isAgg22 rfl (hat8.cell (j := 0) rfl) ?_
          refine L_callv (args := #[u8]) rfl hcall_1 rfl (ops1 rfl) (hc_1 _ hx [u8] _ _ _ (rel0 hu8) hx6 (args_app rfl)) ?_
          rintro _ w9 ⟨rfl, he9⟩
          have h0 := RP.ext h0 he9
          have hu8 := RP.ext hu8 he9
          have hx := ext_trans hx he9
          refine L_nil ?_
          refine W_cond (b := x6) rfl (fun hc10 => ?_) (fun hc10 => ?_)
          ·
            have hB2 := (ite_t hc10).symm.trans hB2
            refine W_seq ?_
            refine W_region ?_
            refine L_mv (v := .int .i64 (i_1 : Int)) rfl rfl ?_
            refine L_as (v := .int .i64 (i_1 : Int)) rfl rfl ?_
            refine L_nil ?_
            refine W_ret ?_
            obtain rfl := so hB2
            obtain rfl := so hL2
            obtain rfl := so hF
            refine ret1 Try.results95 ?_
            exact ⟨rfl, hx⟩
          ·
            have hB2 := (ite_f hc10).symm.trans hB2
            refine W_skip ?_
            refine W_region ?_
            refine L_add (m := (i_1 : Int)) (n := 1) rfl sf8 rfl ?_
            refine L_mv (v := .int .i64 (i64 ((i_1 : Int) + 1))) rfl rfl ?_
            refine L_nil ?_
            obtain rfl := so hB2
            show ∃ m, m < _ ∧ I2 m _ _
            refine ⟨rest2.length, by simp, ?_⟩
            rw [hI2]
            exact ⟨i_1 + 1, rest2, rfl, drop_next hd2, by simp at hl2; omega, hL2, sf0, sf1, sf7, (Eq.trans rfl (congrArg (Value.int .i64) (i64_succ (n := s.length) (by simp at hl2; omega) hlen2))), h0, hx⟩
      ·
        cases suf2 with
        | cons _ _ => exact absurd (of_decide_eq_false hc3) (by simp at hl2; omega)
        | nil =>
          obtain rfl := range_nil hL2
          refine W_exit ?_
          show R2 _ _
          rw [hR2]
          exact ⟨rfl, hx⟩
  ·
    intro f w_ hR
    rw [hR2] at hR
    obtain ⟨rfl, hx⟩ := hR
    clear hR2
    refine W_seq ?_
    refine W_region ?_
    refine L_as (v := .int .i64 (-1)) rfl rfl ?_
    refine L_nil ?_
    refine W_ret ?_
    obtain rfl := so hF
    refine ret1 Try.results95 ?_
    exact ⟨rfl, hx⟩

theorem slices_ContainsFunc_Sint_c {s : List (List Int)} {f_ : (List Int → Option Bool)} {v0 : Value} {v1 : Value} {w : World} {B : Nat} (hB : B ≤ w.heap.size) (h0 : (RP.slice 22 (RP.slice 3 RP.int)).rel B w.heap.size w [v0] s) (h1 : Fun1 Try.prog B (RP.slice 3 RP.int) false Value.bool f_ v1 w) {r : Bool} (hF : slices_ContainsFunc_Sint s f_ = some r) :
    C Try.prog 87 #[v0, v1] w fun v w' => (v = .bool r) ∧ Ext w w' := by
  unfold slices_ContainsFunc_Sint at hF
  obtain ⟨fid_1, caps_1, rfl, hcall_1, hc_1⟩ := h1
  have hx := ext_refl w
  refine C_enter Try.func87 rfl Try.ntmps87 rfl ?_
  refine W_seq ?_
  refine W_region ?_
  refine L_as (v := .bool false) rfl rfl ?_
  refine L_nil ?_
  refine W_seq ?_
  obtain ⟨x1, hx1, hF⟩ := bind_some hF
  refine W_region ?_
  refine L_mv (v := v0) rfl rfl ?_
  refine L_mv (v := .func (.func fid_1) #[] caps_1) rfl rfl ?_
  refine L_call (args := #[v0, .func (.func fid_1) #[] caps_1]) rfl Try.call95 (ops2 rfl rfl) (slices_IndexFunc_Sint_c (s := s) (f_ := f_) (Nat.le_trans hB hx.size) (rel0 h0) ⟨_, _, rfl, hcall_1, fun w_ hE_ => hc_1 w_ (ext_trans hx hE_)⟩ hx1) ?_
  rintro _ w3 ⟨rfl, he3⟩
  have h0 := RP.ext h0 he3
  have hx := ext_trans hx he3
  refine L_geq (m := x1) (n := 0) rfl rfl rfl ?_
  refine L_as (v := .bool (decide (x1 ≥ 0))) rfl rfl ?_
  refine L_nil ?_
  refine W_ret ?_
  obtain rfl := so hF
  refine ret1 Try.results87 ?_
  exact ⟨rfl, hx⟩

theorem i_ruleValid_2_1_c {n_ : Int} {w : World} {B : Nat} (hB : B ≤ w.heap.size) {r : Bool} (hF : i_ruleValid_2_1 n_ = some r) :
    C Try.prog 89 #[.int .i64 n_] w fun v w' => (v = .bool r) ∧ Ext w w' := by
  unfold i_ruleValid_2_1 at hF
  have hx := ext_refl w
  refine C_enter Try.func89 rfl Try.ntmps89 rfl ?_
  refine W_seq ?_
  refine W_region ?_
  refine L_as (v := .bool false) rfl rfl ?_
  refine L_nil ?_
  refine W_seq ?_
  obtain ⟨x1, hx1, hF⟩ := bind_some hF
  refine W_region ?_
  refine L_mv (v := .int .i64 n_) rfl rfl ?_
  refine L_call (args := #[.int .i64 n_, .int .i64 0, .int .i64 3]) rfl Try.call48 (ops3 rfl rfl rfl) (i_within_c (n_ := n_) (low := 0) (high := 3) (Nat.le_trans hB hx.size) hx1) ?_
  rintro _ w3 ⟨rfl, he3⟩
  have hx := ext_trans hx he3
  refine L_not_ (b := x1) rfl rfl ?_
  refine L_as (v := .bool (!x1)) rfl rfl ?_
  refine L_nil ?_
  refine W_ret ?_
  obtain rfl := so hF
  refine ret1 Try.results89 ?_
  exact ⟨rfl, hx⟩

theorem i_ruleValid_2_c {c1 : Rule} {row : List Int} {v0 : Value} {g_c1 : Nat} {v1_1 : Value} {v1_2 : Value} {v1_4 : Value} {w : World} {B : Nat} (hB : B ≤ w.heap.size) (h0 : (RP.slice 3 RP.int).rel B w.heap.size w [v0] row) (hat_g_c1 : At w g_c1 0 [.int .i64 c1.kind, v1_1, v1_2, .int .i64 c1.bound, v1_4]) (h1_1 : (RP.slice 3 RP.int).rel B w.heap.size w [v1_1] c1.vars) (h1_2 : (RP.slice 3 RP.int).rel B w.heap.size w [v1_2] c1.coefs) (h1_4 : (RP.slice 22 (RP.slice 3 RP.int)).rel B w.heap.size w [v1_4] c1.rows) {r : Bool} (hF : i_ruleValid_2 c1 row = some r) :
    C Try.prog 88 #[v0, .pointer (some ⟨g_c1, 0, none⟩)] w fun v w' => (v = .bool r) ∧ Ext w w' := by
  unfold i_ruleValid_2 at hF
  have hlt_g_c1 := hat_g_c1.lt
  have hx := ext_refl w
  refine C_enter Try.func88 rfl Try.ntmps88 rfl ?_
  refine W_seq ?_
  refine W_region ?_
  refine L_as (v := .bool false) rfl rfl ?_
  refine L_nil ?_
  refine W_seq ?_
  obtain ⟨b3, hb3, hF⟩ := bind_some hF
  obtain ⟨R4, hR4⟩ : ∃ R : Fr → World → Prop, R = fun f w_ => f 3 = .bool b3 ∧ Ext w w_ := ⟨_, rfl⟩
  refine W_join R4 ?_ ?_
  ·
    refine W_region ?_
    refine L_mv (v := v0) rfl rfl ?_
    refine L_len (v := v0) rfl Try.underlying22 rfl h0 ?_
    refine L_fa (o' := 0 + 1) rfl fa_68_1 rfl rfl ?_
    refine L_ld (v := v1_1) rfl Try.isAgg22 rfl (hat_g_c1.cell (j := 1) rfl) ?_
    refine L_len (v := v1_1) rfl Try.underlying22 rfl h1_1 ?_
    refine L_neq (m := (row.length : Int)) (n := (c1.vars.length : Int)) rfl rfl rfl ?_
    refine L_mv (v := .bool ((row.length : Int) != (c1.vars.length : Int))) rfl rfl ?_
    refine L_split (d := 10) (b := ((row.length : Int) != (c1.vars.length : Int))) rfl (fun hc5 => ?_) (fun hc5 => ?_)
    ·
      rw [ite_t hc5] at hb3
      refine L_pass rfl ?_
      refine L_pass rfl ?_
      refine L_pick (v := .bool b3) rfl rfl (congrArg Value.bool (so hb3)) ?_
      refine L_as (v := .bool b3) rfl rfl ?_
      refine L_nil ?_
      show R4 _ _
      rw [hR4]
      exact ⟨rfl, hx⟩
    ·
      rw [ite_f hc5] at hb3
      obtain ⟨x1, hx1, hb3⟩ := bind_some hb3
      refine L_mv (v := v0) rfl rfl ?_
      have hf6 : Fun1 Try.prog B RP.int false Value.bool i_ruleValid_2_1 (.func (.func 89) #[] #[]) w := by
        refine ⟨_, _, rfl, Try.call89, fun w_ hE_ cs_ x_ y_ args_ hr_ hy_ ha_ => ?_⟩
        obtain rfl : cs_ = [_] := hr_
        obtain rfl := args_of (b := #[.int .i64 x_]) ha_
        exact i_ruleValid_2_1_c (n_ := x_) (Nat.le_trans hB (ext_trans hx hE_).size) hy_
      refine L_call (args := #[v0, .func (.func 89) #[] #[]]) rfl Try.call85 (ops2 rfl rfl) (slices_ContainsFunc_int_c (s := row) (f_ := i_ruleValid_2_1) (Nat.le_trans hB hx.size) (rel0 h0) hf6 hx1) ?_
      rintro _ w7 ⟨rfl, he7⟩
      have h0 := RP.ext h0 he7
      have hx := ext_trans hx he7
      refine L_pick (v := .bool b3) rfl rfl (congrArg Value.bool (so hb3)) ?_
      refine L_as (v := .bool b3) rfl rfl ?_
      refine L_nil ?_
      show R4 _ _
      rw [hR4]
      exact ⟨rfl, hx⟩
  ·
    intro f w_ hR
    rw [hR4] at hR
    obtain ⟨sf3, hx⟩ := hR
    clear hR4
    refine W_ret ?_
    obtain rfl := so hF
    refine ret1 Try.results88 ?_
    exact ⟨sf3, hx⟩

end Go.Proofs.Yteojddfaiomfmaa

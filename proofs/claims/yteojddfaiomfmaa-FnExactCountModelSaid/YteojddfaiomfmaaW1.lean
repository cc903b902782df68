/- Part of a proof by program: W1. -/
import Derived.Test.YteojddfaiomfmaaD1
import Derived.Test.YteojddfaiomfmaaProg
namespace Go.Proofs.Yteojddfaiomfmaa
open Go Go.E Go.L Go.RowKit
set_option linter.unusedVariables false
set_option linter.unusedSimpArgs false
set_option maxRecDepth 100000

theorem Try_mix : Try.prog.follows .mixedOrders = true := by kernel_rfl
theorem fa_25_0 : FA Try.prog 25 0 0 := fa_of Try.underlying25 rfl Try.sizeOf22 rfl
theorem fa_25_1 : FA Try.prog 25 1 1 := fa_of Try.underlying25 rfl Try.sizeOf23 rfl
theorem fa_30_0 : FA Try.prog 30 0 0 := fa_of Try.underlying30 rfl Try.sizeOf22 rfl
theorem fa_30_1 : FA Try.prog 30 1 1 := fa_of Try.underlying30 rfl Try.sizeOf28 rfl
theorem fa_68_0 : FA Try.prog 68 0 0 := fa_of Try.underlying68 rfl Try.sizeOf3 rfl
theorem fa_68_1 : FA Try.prog 68 1 1 := fa_of Try.underlying68 rfl Try.sizeOf22 rfl
theorem fa_68_2 : FA Try.prog 68 2 2 := fa_of Try.underlying68 rfl Try.sizeOf22 rfl
theorem fa_68_3 : FA Try.prog 68 3 3 := fa_of Try.underlying68 rfl Try.sizeOf3 rfl
theorem fa_68_4 : FA Try.prog 68 4 4 := fa_of Try.underlying68 rfl Try.sizeOf66 rfl
theorem fa_76_0 : FA Try.prog 76 0 0 := fa_of Try.underlying76 rfl Try.sizeOf3 rfl
theorem fa_76_1 : FA Try.prog 76 1 1 := fa_of Try.underlying76 rfl Try.sizeOf22 rfl
theorem fa_76_2 : FA Try.prog 76 2 2 := fa_of Try.underlying76 rfl Try.sizeOf22 rfl
theorem fa_76_3 : FA Try.prog 76 3 3 := fa_of Try.underlying76 rfl Try.sizeOf3 rfl
theorem fa_76_4 : FA Try.prog 76 4 4 := fa_of Try.underlying76 rfl Try.sizeOf66 rfl
theorem et_22 : ET Try.prog 22 3 1 := et_of Try.underlying22 (by decide) (by kernel_rfl)
theorem et_23 : ET Try.prog 23 76 5 := et_of Try.underlying23 (by decide) (by kernel_rfl)
theorem et_28 : ET Try.prog 28 68 5 := et_of Try.underlying28 (by decide) (by kernel_rfl)
theorem et_36 : ET Try.prog 36 46 1 := et_of Try.underlying36 (by decide) (by kernel_rfl)
theorem et_46 : ET Try.prog 46 4 1 := et_of Try.underlying46 (by decide) (by kernel_rfl)
theorem et_66 : ET Try.prog 66 22 1 := et_of Try.underlying66 (by decide) (by kernel_rfl)
theorem bs_22_0  : ∀ w, (Instr.buildSlice 22 0 #[]).run Try.prog w = .ok (.slice (some ⟨w.heap.size, 0, none⟩) 0 0) (w.alloc (.cells #[] 3)) := by
  intro w
  simp [Instr.buildSlice, Instr.fill, newRow, Try.runUnderlying22, Try.sizeOf3, cells_agg, cells_int, cells_bool, cells_str, cells_sl, Array.range_succ, range0]
theorem bs_22_1_0 (a0 : Value) (ha0 : a0.oneCell' = true) : ∀ w, (Instr.buildSlice 22 1 #[(0, a0)]).run Try.prog w = .ok (.slice (some ⟨w.heap.size, 0, none⟩) 1 1) (w.alloc (.cells #[a0] 3)) := by
  intro w
  simp [Instr.buildSlice, Instr.fill, newRow, Try.zeroValue3, Try.runUnderlying22, Try.sizeOf3, cells_one ha0, cells_agg, cells_int, cells_bool, cells_str, cells_sl, Array.range_succ, range0]
theorem bs_46_0  : ∀ w, (Instr.buildSlice 46 0 #[]).run Try.prog w = .ok (.slice (some ⟨w.heap.size, 0, none⟩) 0 0) (w.alloc (.cells #[] 4)) := by
  intro w
  simp [Instr.buildSlice, Instr.fill, newRow, Try.runUnderlying46, Try.sizeOf4, cells_agg, cells_int, cells_bool, cells_str, cells_sl, Array.range_succ, range0]
theorem l_szIntS_c {a : List Int} {left : Int} {v0 : Value} {w : World} {B : Nat} (hB : B ≤ w.heap.size) (h0 : (RP.slice 3 RP.int).rel B w.heap.size w [v0] a) {r : Int} (hF : l_szIntS a left = some r) :
    C Try.prog 42 #[v0, .int .i64 left] w fun v w' => (v = .int .i64 r) ∧ Ext w w' := by
  unfold l_szIntS at hF
  have hx := ext_refl w
  refine C_enter Try.func42 rfl Try.ntmps42 rfl ?_
  refine W_seq ?_
  refine W_region ?_
  refine L_as (v := .int .i64 0) rfl rfl ?_
  refine L_nil ?_
  refine W_seq ?_
  refine W_region ?_
  refine L_mv (v := .int .i64 left) rfl rfl ?_
  refine L_mv (v := v0) rfl rfl ?_
  refine L_len (v := v0) rfl Try.underlying22 rfl h0 ?_
  refine L_sub (m := left) (n := (a.length : Int)) rfl rfl rfl ?_
  refine L_as (v := .int .i64 (i64 (left - (a.length : Int)))) rfl rfl ?_
  refine L_nil ?_
  refine W_seq ?_
  refine W_seq ?_
  refine W_region ?_
  refine L_mv (v := .int .i64 (i64 (left - (a.length : Int)))) rfl rfl ?_
  refine L_lss (m := i64 (left - (a.length : Int))) (n := 0) rfl rfl rfl ?_
  refine L_nil ?_
  refine W_cond (b := decide ((i64 (left - (a.length : Int))) < 0)) rfl (fun hc1 => ?_) (fun hc1 => ?_)
  ·
    have hF := (ite_t hc1).symm.trans hF
    refine W_seq ?_
    refine W_region ?_
    refine L_as (v := .int .i64 (-1)) rfl rfl ?_
    refine L_nil ?_
    refine W_ret ?_
    obtain rfl := so hF
    refine ret1 Try.results42 ?_
    exact ⟨rfl, hx⟩
  ·
    have hF := (ite_f hc1).symm.trans hF
    refine W_skip ?_
    refine W_seq ?_
    refine W_region ?_
    refine L_mv (v := .int .i64 (i64 (left - (a.length : Int)))) rfl rfl ?_
    refine L_as (v := .int .i64 (i64 (left - (a.length : Int)))) rfl rfl ?_
    refine L_nil ?_
    refine W_ret ?_
    obtain rfl := so hF
    refine ret1 Try.results42 ?_
    exact ⟨rfl, hx⟩

theorem l_szIntSS_c {a : List (List Int)} {left : Int} {v0 : Value} {w : World} {B : Nat} (hB : B ≤ w.heap.size) (h0 : (RP.slice 22 (RP.slice 3 RP.int)).rel B w.heap.size w [v0] a) {r : Int} (hF : l_szIntSS a left = some r) :
    C Try.prog 78 #[v0, .int .i64 left] w fun v w' => (v = .int .i64 r) ∧ Ext w w' := by
  unfold l_szIntSS at hF
  have hx := ext_refl w
  refine C_enter Try.func78 rfl Try.ntmps78 rfl ?_
  refine W_seq ?_
  refine W_region ?_
  refine L_as (v := .int .i64 0) rfl rfl ?_
  refine L_nil ?_
  refine W_seq ?_
  refine W_region ?_
  refine L_mv (v := .int .i64 left) rfl rfl ?_
  refine L_mv (v := v0) rfl rfl ?_
  refine L_len (v := v0) rfl Try.underlying66 rfl h0 ?_
  refine L_sub (m := left) (n := (a.length : Int)) rfl rfl rfl ?_
  refine L_as (v := .int .i64 (i64 (left - (a.length : Int)))) rfl rfl ?_
  refine L_nil ?_
  refine W_seq ?_
  refine W_seq ?_
  refine W_region ?_
  refine L_mv (v := .int .i64 (i64 (left - (a.length : Int)))) rfl rfl ?_
  refine L_lss (m := i64 (left - (a.length : Int))) (n := 0) rfl rfl rfl ?_
  refine L_nil ?_
  refine W_cond (b := decide ((i64 (left - (a.length : Int))) < 0)) rfl (fun hc1 => ?_) (fun hc1 => ?_)
  ·
    have hF := (ite_t hc1).symm.trans hF
    refine W_seq ?_
    refine W_region ?_
    refine L_as (v := .int .i64 (-1)) rfl rfl ?_
    refine L_nil ?_
    refine W_ret ?_
    obtain rfl := so hF
    refine ret1 Try.results78 ?_
    exact ⟨rfl, hx⟩
  ·
    have hF := (ite_f hc1).symm.trans hF
    refine W_skip ?_
    refine W_seq ?_
    refine W_seq ?_
    refine W_region ?_
    refine L_as (v := .int .i64 0) rfl rfl ?_
    refine L_nil ?_
    have hlen4 := len_le h0
    obtain ⟨j4, hL4, hF⟩ := bind_some hF
    obtain ⟨R4, hR4⟩ : ∃ R : Fr → World → Prop, R = fun f w_ => ∃ left_3 : Int, j4 = .nx left_3 ∧ f 1 = .int .i64 left_3 ∧ Ext w w_ := ⟨_, rfl⟩
    refine W_join R4 ?_ ?_
    ·
      refine W_block ?_
      obtain ⟨I4, hI4⟩ : ∃ I : Nat → Fr → World → Prop, I = fun n f w_ => ∃ i_2 : Nat, ∃ suf4 : List (List Int), ∃ left_3 : Int, n = suf4.length ∧ List.drop i_2 a = suf4 ∧ i_2 + suf4.length = a.length ∧ rangeL l_szIntSS_b1 suf4 i_2 left_3 = some j4 ∧ f 0 = v0 ∧ f 1 = .int .i64 left_3 ∧ f 5 = .int .i64 (i_2 : Int) ∧ (RP.slice 22 (RP.slice 3 RP.int)).rel B w.heap.size w_ [v0] a ∧ Ext w w_ := ⟨_, rfl⟩
      refine W_loop I4 (n := a.length) ?_ ?_
      · rw [hI4]; exact ⟨0, a, i64 (left - (a.length : Int)), rfl, rfl, Nat.zero_add _, hL4, rfl, rfl, rfl, h0, hx⟩
      ·
        intro n4 f w_ hI
        rw [hI4] at hI
        obtain ⟨i_2, suf4, left_3, rfl, hd4, hl4, hL4, sf0, sf1, sf5, h0, hx⟩ := hI
        refine W_seq ?_
        refine W_seq ?_
        refine W_region ?_
        refine L_mv (v := .int .i64 (i_2 : Int)) rfl sf5 ?_
        refine L_mv (v := v0) rfl sf0 ?_
        refine L_len (v := v0) rfl Try.underlying66 rfl h0 ?_
        refine L_lss (m := (i_2 : Int)) (n := (a.length : Int)) rfl rfl rfl ?_
        refine L_nil ?_
        refine W_cond (b := decide ((i_2 : Int) < (a.length : Int))) rfl (fun hc5 => ?_) (fun hc5 => ?_)
        ·
          have hlt4 := of_decide_eq_true hc5
          cases suf4 with
          | nil => exact absurd hlt4 (by simp at hl4; omega)
          | cons x_4 rest4 =>
            obtain ⟨o4, hB4, hL4⟩ := range_cons hL4
            rw [l_szIntSS_b1] at hB4
            have hix4 := drop_idx hd4
            refine W_skip ?_
            refine W_seq ?_
            refine W_block ?_
            refine W_seq ?_
            obtain ⟨x8, hx8, hB4⟩ := bind_some hB4
            refine W_region ?_
            refine L_mv (v := v0) rfl sf0 ?_
            refine L_mv (v := .int .i64 (i_2 : Int)) rfl sf5 ?_
            refine L_ix (r := (RP.slice 3 RP.int)) rfl Try.underlying66 Try.sizeOf22 rfl h0 rfl hix4 ?_
            intro g10 o11 cs11 hr11 hat11
            obtain ⟨u11, rfl, hu11⟩ := slice1 hr11
            refine L_ld (v := u11) rfl Try.isAgg22 rfl (hat11.cell (j := 0) rfl) ?_
            refine L_mv (v := .int .i64 left_3) rfl sf1 ?_
            refine L_call (args := #[u11, .int .i64 left_3]) rfl Try.call42 (ops2 rfl rfl) (l_szIntS_c (a := x_4) (left := left_3) (Nat.le_trans hB hx.size) (rel0 hu11) hx8) ?_
            rintro _ w12 ⟨rfl, he12⟩
            have h0 := RP.ext h0 he12
            have hu11 := RP.ext hu11 he12
            have hx := ext_trans hx he12
            refine L_as (v := .int .i64 x8) rfl rfl ?_
            refine L_nil ?_
            refine W_seq ?_
            refine W_region ?_
            refine L_mv (v := .int .i64 x8) rfl rfl ?_
            refine L_lss (m := x8) (n := 0) rfl rfl rfl ?_
            refine L_nil ?_
            refine W_cond (b := decide (x8 < 0)) rfl (fun hc13 => ?_) (fun hc13 => ?_)
            ·
              have hB4 := (ite_t hc13).symm.trans hB4
              refine W_seq ?_
              refine W_region ?_
              refine L_as (v := .int .i64 (-1)) rfl rfl ?_
              refine L_nil ?_
              refine W_ret ?_
              obtain rfl := so hB4
              obtain rfl := so hL4
              obtain rfl := so hF
              refine ret1 Try.results78 ?_
              exact ⟨rfl, hx⟩
            ·
              have hB4 := (ite_f hc13).symm.trans hB4
              refine W_skip ?_
              refine W_region ?_
              refine L_mv (v := .int .i64 (i_2 : Int)) rfl sf5 ?_
              refine L_add (m := (i_2 : Int)) (n := 1) rfl rfl rfl ?_
              refine L_as (v := .int .i64 (i64 ((i_2 : Int) + 1))) rfl rfl ?_
              refine L_nil ?_
              obtain rfl := so hB4
              show ∃ m, m < _ ∧ I4 m _ _
              refine ⟨rest4.length, by simp, ?_⟩
              rw [hI4]
              exact ⟨i_2 + 1, rest4, x8, rfl, drop_next hd4, by simp at hl4; omega, hL4, sf0, rfl, (Eq.trans rfl (congrArg (Value.int .i64) (i64_succ (n := a.length) (by simp at hl4; omega) hlen4))), h0, hx⟩
        ·
          cases suf4 with
          | cons _ _ => exact absurd (of_decide_eq_false hc5) (by simp at hl4; omega)
          | nil =>
            obtain rfl := range_nil hL4
            refine W_exit ?_
            show R4 _ _
            rw [hR4]
            exact ⟨left_3, rfl, sf1, hx⟩
    ·
      intro f w_ hR
      rw [hR4] at hR
      obtain ⟨left_3, rfl, sf1, hx⟩ := hR
      clear hR4
      refine W_seq ?_
      refine W_region ?_
      refine L_mv (v := .int .i64 left_3) rfl sf1 ?_
      refine L_as (v := .int .i64 left_3) rfl rfl ?_
      refine L_nil ?_
      refine W_ret ?_
      obtain rfl := so hF
      refine ret1 Try.results78 ?_
      exact ⟨rfl, hx⟩

theorem l_szRule_c {a : Rule} {left : Int} {v0_1 : Value} {v0_2 : Value} {v0_4 : Value} {w : World} {B : Nat} (hB : B ≤ w.heap.size) (h0_1 : (RP.slice 3 RP.int).rel B w.heap.size w [v0_1] a.vars) (h0_2 : (RP.slice 3 RP.int).rel B w.heap.size w [v0_2] a.coefs) (h0_4 : (RP.slice 22 (RP.slice 3 RP.int)).rel B w.heap.size w [v0_4] a.rows) {r : Int} (hF : l_szRule a left = some r) :
    C Try.prog 65 #[.agg #[.int .i64 a.kind, v0_1, v0_2, .int .i64 a.bound, v0_4], .int .i64 left] w fun v w' => (v = .int .i64 r) ∧ Ext w w' := by
  unfold l_szRule at hF
  have hx := ext_refl w
  refine C_enter Try.func65 rfl Try.ntmps65 rfl ?_
  refine W_seq ?_
  refine W_region ?_
  refine L_box (v := .agg #[.int .i64 a.kind, v0_1, v0_2, .int .i64 a.bound, v0_4]) (cs := #[.int .i64 a.kind, v0_1, v0_2, .int .i64 a.bound, v0_4]) rfl rfl rfl ?_
  intro g3 w4 hn4
  have hge_g3 := hn4.geS hx.size
  have hb_g3 := hn4.blk
  have h0_1 := RP.ext h0_1 hn4.ext
  have h0_2 := RP.ext h0_2 hn4.ext
  have h0_4 := RP.ext h0_4 hn4.ext
  have hx := ext_trans hx hn4.ext
  refine L_as (v := .int .i64 0) rfl rfl ?_
  refine L_nil ?_
  refine W_seq ?_
  obtain ⟨x5, hx5, hF⟩ := bind_some hF
  refine W_region ?_
  refine L_fa (o' := 1) rfl fa_76_1 rfl rfl ?_
  refine L_ld (v := v0_1) rfl Try.isAgg22 rfl (hb_g3.cell (j := 1) rfl) ?_
  refine L_mv (v := .int .i64 left) rfl rfl ?_
  refine L_call (args := #[v0_1, .int .i64 left]) rfl Try.call42 (ops2 rfl rfl) (l_szIntS_c (a := a.vars) (left := left) (Nat.le_trans hB hx.size) (rel0 h0_1) hx5) ?_
  rintro _ w7 ⟨rfl, he7⟩
  have h0_1 := RP.ext h0_1 he7
  have h0_2 := RP.ext h0_2 he7
  have h0_4 := RP.ext h0_4 he7
  have hb_g3 := Blk.ext hb_g3 he7
  have hx := ext_trans hx he7
  refine L_as (v := .int .i64 x5) rfl rfl ?_
  refine L_nil ?_
  refine W_seq ?_
  refine W_seq ?_
  refine W_region ?_
  refine L_mv (v := .int .i64 x5) rfl rfl ?_
  refine L_lss (m := x5) (n := 0) rfl rfl rfl ?_
  refine L_nil ?_
  refine W_cond (b := decide (x5 < 0)) rfl (fun hc8 => ?_) (fun hc8 => ?_)
  ·
    have hF := (ite_t hc8).symm.trans hF
    refine W_seq ?_
    refine W_region ?_
    refine L_as (v := .int .i64 (-1)) rfl rfl ?_
    refine L_nil ?_
    refine W_ret ?_
    obtain rfl := so hF
    refine ret1 Try.results65 ?_
    exact ⟨rfl, hx⟩
  ·
    have hF := (ite_f hc8).symm.trans hF
    refine W_skip ?_
    refine W_seq ?_
    obtain ⟨x9, hx9, hF⟩ := bind_some hF
    refine W_region ?_
    refine L_fa (o' := 2) rfl fa_76_2 rfl rfl ?_
    refine L_ld (v := v0_2) rfl Try.isAgg22 rfl (hb_g3.cell (j := 2) rfl) ?_
    refine L_mv (v := .int .i64 x5) rfl rfl ?_
    refine L_call (args := #[v0_2, .int .i64 x5]) rfl Try.call42 (ops2 rfl rfl) (l_szIntS_c (a := a.coefs) (left := x5) (Nat.le_trans hB hx.size) (rel0 h0_2) hx9) ?_
    rintro _ w11 ⟨rfl, he11⟩
    have h0_1 := RP.ext h0_1 he11
    have h0_2 := RP.ext h0_2 he11
    have h0_4 := RP.ext h0_4 he11
    have hb_g3 := Blk.ext hb_g3 he11
    have hx := ext_trans hx he11
    refine L_as (v := .int .i64 x9) rfl rfl ?_
    refine L_nil ?_
    refine W_seq ?_
    refine W_seq ?_
    refine W_region ?_
    refine L_mv (v := .int .i64 x9) rfl rfl ?_
    refine L_lss (m := x9) (n := 0) rfl rfl rfl ?_
    refine L_nil ?_
    refine W_cond (b := decide (x9 < 0)) rfl (fun hc12 => ?_) (fun hc12 => ?_)
    ·
      have hF := (ite_t hc12).symm.trans hF
      refine W_seq ?_
      refine W_region ?_
      refine L_as (v := .int .i64 (-1)) rfl rfl ?_
      refine L_nil ?_
      refine W_ret ?_
      obtain rfl := so hF
      refine ret1 Try.results65 ?_
      exact ⟨rfl, hx⟩
    ·
      have hF := (ite_f hc12).symm.trans hF
      refine W_skip ?_
      refine W_seq ?_
      obtain ⟨x13, hx13, hF⟩ := bind_some hF
      refine W_region ?_
      refine L_fa (o' := 4) rfl fa_76_4 rfl rfl ?_
      refine L_ld (v := v0_4) rfl Try.isAgg66 rfl (hb_g3.cell (j := 4) rfl) ?_
      refine L_mv (v := .int .i64 x9) rfl rfl ?_
      refine L_call (args := #[v0_4, .int .i64 x9]) rfl Try.call78 (ops2 rfl rfl) (l_szIntSS_c (a := a.rows) (left := x9) (Nat.le_trans hB hx.size) (rel0 h0_4) hx13) ?_
      rintro _ w15 ⟨rfl, he15⟩
      have h0_4 := RP.ext h0_4 he15
      have hx := ext_trans hx he15
      refine L_as (v := .int .i64 x13) rfl rfl ?_
      refine L_nil ?_
      refine W_seq ?_
      refine W_seq ?_
      refine W_region ?_
      refine L_mv (v := .int .i64 x13) rfl rfl ?_
      refine L_lss (m := x13) (n := 0) rfl rfl rfl ?_
      refine L_nil ?_
      refine W_cond (b := decide (x13 < 0)) rfl (fun hc16 => ?_) (fun hc16 => ?_)
      ·
        have hF := (ite_t hc16).symm.trans hF
        refine W_seq ?_
        refine W_region ?_
        refine L_as (v := .int .i64 (-1)) rfl rfl ?_
        refine L_nil ?_
        refine W_ret ?_
        obtain rfl := so hF
        refine ret1 Try.results65 ?_
        exact ⟨rfl, hx⟩
      ·
        have hF := (ite_f hc16).symm.trans hF
        refine W_skip ?_
        refine W_seq ?_
        refine W_region ?_
        refine L_mv (v := .int .i64 x13) rfl rfl ?_
        refine L_as (v := .int .i64 x13) rfl rfl ?_
        refine L_nil ?_
        refine W_ret ?_
        obtain rfl := so hF
        refine ret1 Try.results65 ?_
        exact ⟨rfl, hx⟩

theorem l_szRuleS_c {a : List Rule} {left : Int} {v0 : Value} {w : World} {B : Nat} (hB : B ≤ w.heap.size) (h0 : (RP.slice 76 (rRule 3 22)).rel B w.heap.size w [v0] a) {r : Int} (hF : l_szRuleS a left = some r) :
    C Try.prog 43 #[v0, .int .i64 left] w fun v w' => (v = .int .i64 r) ∧ Ext w w' := by
  unfold l_szRuleS at hF
  have hx := ext_refl w
  refine C_enter Try.func43 rfl Try.ntmps43 rfl ?_
  refine W_seq ?_
  refine W_region ?_
  refine L_as (v := .int .i64 0) rfl rfl ?_
  refine L_nil ?_
  refine W_seq ?_
  refine W_region ?_
  refine L_mv (v := .int .i64 left) rfl rfl ?_
  refine L_mv (v := v0) rfl rfl ?_
  refine L_len (v := v0) rfl Try.underlying23 rfl h0 ?_
  refine L_sub (m := left) (n := (a.length : Int)) rfl rfl rfl ?_
  refine L_as (v := .int .i64 (i64 (left - (a.length : Int)))) rfl rfl ?_
  refine L_nil ?_
  refine W_seq ?_
  refine W_seq ?_
  refine W_region ?_
  refine L_mv (v := .int .i64 (i64 (left - (a.length : Int)))) rfl rfl ?_
  refine L_lss (m := i64 (left - (a.length : Int))) (n := 0) rfl rfl rfl ?_
  refine L_nil ?_
  refine W_cond (b := decide ((i64 (left - (a.length : Int))) < 0)) rfl (fun hc1 => ?_) (fun hc1 => ?_)
  ·
    have hF := (ite_t hc1).symm.trans hF
    refine W_seq ?_
    refine W_region ?_
    refine L_as (v := .int .i64 (-1)) rfl rfl ?_
    refine L_nil ?_
    refine W_ret ?_
    obtain rfl := so hF
    refine ret1 Try.results43 ?_
    exact ⟨rfl, hx⟩
  ·
    have hF := (ite_f hc1).symm.trans hF
    refine W_skip ?_
    refine W_seq ?_
    refine W_seq ?_
    refine W_region ?_
    refine L_as (v := .int .i64 0) rfl rfl ?_
    refine L_nil ?_
    have hlen4 := len_le h0
    obtain ⟨j4, hL4, hF⟩ := bind_some hF
    obtain ⟨R4, hR4⟩ : ∃ R : Fr → World → Prop, R = fun f w_ => ∃ left_3 : Int, j4 = .nx left_3 ∧ f 1 = .int .i64 left_3 ∧ Ext w w_ := ⟨_, rfl⟩
    refine W_join R4 ?_ ?_
    ·
      refine W_block ?_
      obtain ⟨I4, hI4⟩ : ∃ I : Nat → Fr → World → Prop, I = fun n f w_ => ∃ i_2 : Nat, ∃ suf4 : List Rule, ∃ left_3 : Int, n = suf4.length ∧ List.drop i_2 a = suf4 ∧ i_2 + suf4.length = a.length ∧ rangeL l_szRuleS_b1 suf4 i_2 left_3 = some j4 ∧ f 0 = v0 ∧ f 1 = .int .i64 left_3 ∧ f 5 = .int .i64 (i_2 : Int) ∧ (RP.slice 76 (rRule 3 22)).rel B w.heap.size w_ [v0] a ∧ Ext w w_ := ⟨_, rfl⟩
      refine W_loop I4 (n := a.length) ?_ ?_
      · rw [hI4]; exact ⟨0, a, i64 (left - (a.length : Int)), rfl, rfl, Nat.zero_add _, hL4, rfl, rfl, rfl, h0, hx⟩
      ·
        intro n4 f w_ hI
        rw [hI4] at hI
        obtain ⟨i_2, suf4, left_3, rfl, hd4, hl4, hL4, sf0, sf1, sf5, h0, hx⟩ := hI
        refine W_seq ?_
        refine W_seq ?_
        refine W_region ?_
        refine L_mv (v := .int .i64 (i_2 : Int)) rfl sf5 ?_
        refine L_mv (v := v0) rfl sf0 ?_
        refine L_len (v := v0) rfl Try.underlying23 rfl h0 ?_
        refine L_lss (m := (i_2 : Int)) (n := (a.length : Int)) rfl rfl rfl ?_
        refine L_nil ?_
        refine W_cond (b := decide ((i_2 : Int) < (a.length : Int))) rfl (fun hc5 => ?_) (fun hc5 => ?_)
        ·
          have hlt4 := of_decide_eq_true hc5
          cases suf4 with
          | nil => exact absurd hlt4 (by simp at hl4; omega)
          | cons x_4 rest4 =>
            obtain ⟨o4, hB4, hL4⟩ := range_cons hL4
            rw [l_szRuleS_b1] at hB4
            have hix4 := drop_idx hd4
            refine W_skip ?_
            refine W_seq ?_
            refine W_block ?_
            refine W_seq ?_
            obtain ⟨x8, hx8, hB4⟩ := bind_some hB4
            refine W_region ?_
            refine L_mv (v := v0) rfl sf0 ?_
            refine L_mv (v := .int .i64 (i_2 : Int)) rfl sf5 ?_
            refine L_ix (r := (rRule 3 22)) rfl Try.underlying23 Try.sizeOf76 rfl h0 rfl hix4 ?_
            intro g10 o11 cs11 hr11 hat11
            obtain ⟨u11_0, u11_1, u11_2, rfl, hu11_0, hu11_1, hu11_2⟩ := rRule_iff.1 hr11
            refine L_lda (cs := [.int .i64 x_4.kind, u11_0, u11_1, .int .i64 x_4.bound, u11_2]) rfl Try.isAgg76 Try.sizeOf76 rfl (At.sub hat11 0 5) rfl ?_
            refine L_mv (v := .int .i64 left_3) rfl sf1 ?_
            refine L_call (args := #[.agg #[.int .i64 x_4.kind, u11_0, u11_1, .int .i64 x_4.bound, u11_2], .int .i64 left_3]) rfl Try.call65 (ops2 rfl rfl) (l_szRule_c (a := x_4) (left := left_3) (Nat.le_trans hB hx.size) (rel0 hu11_0) (rel0 hu11_1) (rel0 hu11_2) hx8) ?_
            rintro _ w12 ⟨rfl, he12⟩
            have h0 := RP.ext h0 he12
            have hu11_0 := RP.ext hu11_0 he12
            have hu11_1 := RP.ext hu11_1 he12
            have hu11_2 := RP.ext hu11_2 he12
            have hx := ext_trans hx he12
            refine L_as (v := .int .i64 x8) rfl rfl ?_
            refine L_nil ?_
            refine W_seq ?_
            refine W_region ?_
            refine L_mv (v := .int .i64 x8) rfl rfl ?_
            refine L_lss (m := x8) (n := 0) rfl rfl rfl ?_
            refine L_nil ?_
            refine W_cond (b := decide (x8 < 0)) rfl (fun hc13 => ?_) (fun hc13 => ?_)
            ·
              have hB4 := (ite_t hc13).symm.trans hB4
              refine W_seq ?_
              refine W_region ?_
              refine L_as (v := .int .i64 (-1)) rfl rfl ?_
              refine L_nil ?_
              refine W_ret ?_
              obtain rfl := so hB4
              obtain rfl := so hL4
              obtain rfl := so hF
              refine ret1 Try.results43 ?_
              exact ⟨rfl, hx⟩
            ·
              have hB4 := (ite_f hc13).symm.trans hB4
              refine W_skip ?_
              refine W_region ?_
              refine L_mv (v := .int .i64 (i_2 : Int)) rfl sf5 ?_
              refine L_add (m := (i_2 : Int)) (n := 1) rfl rfl rfl ?_
              refine L_as (v := .int .i64 (i64 ((i_2 : Int) + 1))) rfl rfl ?_
              refine L_nil ?_
              obtain rfl := so hB4
              show ∃ m, m < _ ∧ I4 m _ _
              refine ⟨rest4.length, by simp, ?_⟩
              rw [hI4]
              exact ⟨i_2 + 1, rest4, x8, rfl, drop_next hd4, by simp at hl4; omega, hL4, sf0, rfl, (Eq.trans rfl (congrArg (Value.int .i64) (i64_succ (n := a.length) (by simp at hl4; omega) hlen4))), h0, hx⟩
        ·
          cases suf4 with
          | cons _ _ => exact absurd (of_decide_eq_false hc5) (by simp at hl4; omega)
          | nil =>
            obtain rfl := range_nil hL4
            refine W_exit ?_
            show R4 _ _
            rw [hR4]
            exact ⟨left_3, rfl, sf1, hx⟩
    ·
      intro f w_ hR
      rw [hR4] at hR
      obtain ⟨left_3, rfl, sf1, hx⟩ := hR
      clear hR4
      refine W_seq ?_
      refine W_region ?_
      refine L_mv (v := .int .i64 left_3) rfl sf1 ?_
      refine L_as (v := .int .i64 left_3) rfl rfl ?_
      refine L_nil ?_
      refine W_ret ?_
      obtain rfl := so hF
      refine ret1 Try.results43 ?_
      exact ⟨rfl, hx⟩

theorem l_szModel_c {a : Model} {left : Int} {v0_0 : Value} {v0_1 : Value} {w : World} {B : Nat} (hB : B ≤ w.heap.size) (h0_0 : (RP.slice 3 RP.int).rel B w.heap.size w [v0_0] a.sizes) (h0_1 : (RP.slice 76 (rRule 3 22)).rel B w.heap.size w [v0_1] a.rules) {r : Int} (hF : l_szModel a left = some r) :
    C Try.prog 11 #[.agg #[v0_0, v0_1], .int .i64 left] w fun v w' => (v = .int .i64 r) ∧ Ext w w' := by
  unfold l_szModel at hF
  have hx := ext_refl w
  refine C_enter Try.func11 rfl Try.ntmps11 rfl ?_
  refine W_seq ?_
  refine W_region ?_
  refine L_box (v := .agg #[v0_0, v0_1]) (cs := #[v0_0, v0_1]) rfl rfl rfl ?_
  intro g3 w4 hn4
  have hge_g3 := hn4.geS hx.size
  have hb_g3 := hn4.blk
  have h0_0 := RP.ext h0_0 hn4.ext
  have h0_1 := RP.ext h0_1 hn4.ext
  have hx := ext_trans hx hn4.ext
  refine L_as (v := .int .i64 0) rfl rfl ?_
  refine L_nil ?_
  refine W_seq ?_
  obtain ⟨x5, hx5, hF⟩ := bind_some hF
  refine W_region ?_
  refine L_fa (o' := 0) rfl fa_25_0 rfl rfl ?_
  refine L_ld (v := v0_0) rfl Try.isAgg22 rfl (hb_g3.cell (j := 0) rfl) ?_
  refine L_mv (v := .int .i64 left) rfl rfl ?_
  refine L_call (args := #[v0_0, .int .i64 left]) rfl Try.call42 (ops2 rfl rfl) (l_szIntS_c (a := a.sizes) (left := left) (Nat.le_trans hB hx.size) (rel0 h0_0) hx5) ?_
  rintro _ w7 ⟨rfl, he7⟩
  have h0_0 := RP.ext h0_0 he7
  have h0_1 := RP.ext h0_1 he7
  have hb_g3 := Blk.ext hb_g3 he7
  have hx := ext_trans hx he7
  refine L_as (v := .int .i64 x5) rfl rfl ?_
  refine L_nil ?_
  refine W_seq ?_
  refine W_seq ?_
  refine W_region ?_
  refine L_mv (v := .int .i64 x5) rfl rfl ?_
  refine L_lss (m := x5) (n := 0) rfl rfl rfl ?_
  refine L_nil ?_
  refine W_cond (b := decide (x5 < 0)) rfl (fun hc8 => ?_) (fun hc8 => ?_)
  ·
    have hF := (ite_t hc8).symm.trans hF
    refine W_seq ?_
    refine W_region ?_
    refine L_as (v := .int .i64 (-1)) rfl rfl ?_
    refine L_nil ?_
    refine W_ret ?_
    obtain rfl := so hF
    refine ret1 Try.results11 ?_
    exact ⟨rfl, hx⟩
  ·
    have hF := (ite_f hc8).symm.trans hF
    refine W_skip ?_
    refine W_seq ?_
    obtain ⟨x9, hx9, hF⟩ := bind_some hF
    refine W_region ?_
    refine L_fa (o' := 1) rfl fa_25_1 rfl rfl ?_
    refine L_ld (v := v0_1) rfl Try.isAgg23 rfl (hb_g3.cell (j := 1) rfl) ?_
    refine L_mv (v := .int .i64 x5) rfl rfl ?_
    refine L_call (args := #[v0_1, .int .i64 x5]) rfl Try.call43 (ops2 rfl rfl) (l_szRuleS_c (a := a.rules) (left := x5) (Nat.le_trans hB hx.size) (rel0 h0_1) hx9) ?_
    rintro _ w11 ⟨rfl, he11⟩
    have h0_1 := RP.ext h0_1 he11
    have hx := ext_trans hx he11
    refine L_as (v := .int .i64 x9) rfl rfl ?_
    refine L_nil ?_
    refine W_seq ?_
    refine W_seq ?_
    refine W_region ?_
    refine L_mv (v := .int .i64 x9) rfl rfl ?_
    refine L_lss (m := x9) (n := 0) rfl rfl rfl ?_
    refine L_nil ?_
    refine W_cond (b := decide (x9 < 0)) rfl (fun hc12 => ?_) (fun hc12 => ?_)
    ·
      have hF := (ite_t hc12).symm.trans hF
      refine W_seq ?_
      refine W_region ?_
      refine L_as (v := .int .i64 (-1)) rfl rfl ?_
      refine L_nil ?_
      refine W_ret ?_
      obtain rfl := so hF
      refine ret1 Try.results11 ?_
      exact ⟨rfl, hx⟩
    ·
      have hF := (ite_f hc12).symm.trans hF
      refine W_skip ?_
      refine W_seq ?_
      refine W_region ?_
      refine L_mv (v := .int .i64 x9) rfl rfl ?_
      refine L_as (v := .int .i64 x9) rfl rfl ?_
      refine L_nil ?_
      refine W_ret ?_
      obtain rfl := so hF
      refine ret1 Try.results11 ?_
      exact ⟨rfl, hx⟩

theorem s_l6Vars_c {m : Model} {list : List Int} {v0_0 : Value} {v0_1 : Value} {v1 : Value} {w : World} {B : Nat} (hB : B ≤ w.heap.size) (h0_0 : (RP.slice 3 RP.int).rel B w.heap.size w [v0_0] m.sizes) (h0_1 : (RP.slice 68 (rRule 3 22)).rel B w.heap.size w [v0_1] m.rules) (h1 : (RP.slice 3 RP.int).rel B w.heap.size w [v1] list) {r : Bool} (hF : s_l6Vars m list = some r) :
    C Try.prog 79 #[.agg #[v0_0, v0_1], v1] w fun v w' => (v = .bool r) ∧ Ext w w' := by
  unfold s_l6Vars at hF
  have hx := ext_refl w
  refine C_enter Try.func79 rfl Try.ntmps79 rfl ?_
  refine W_seq ?_
  refine W_region ?_
  refine L_box (v := .agg #[v0_0, v0_1]) (cs := #[v0_0, v0_1]) rfl rfl rfl ?_
  intro g3 w4 hn4
  have hge_g3 := hn4.geS hx.size
  have hb_g3 := hn4.blk
  have h0_0 := RP.ext h0_0 hn4.ext
  have h0_1 := RP.ext h0_1 hn4.ext
  have h1 := RP.ext h1 hn4.ext
  have hx := ext_trans hx hn4.ext
  refine L_as (v := .bool false) rfl rfl ?_
  refine L_nil ?_
  refine W_seq ?_
  refine W_seq ?_
  refine W_region ?_
  refine L_as (v := .int .i64 0) rfl rfl ?_
  refine L_nil ?_
  have hlen6 := len_le h1
  obtain ⟨j6, hL6, hF⟩ := bind_some hF
  obtain ⟨R6, hR6⟩ : ∃ R : Fr → World → Prop, R = fun f w_ => j6 = .nx () ∧ f 1 = v1 ∧ (RP.slice 3 RP.int).rel B w.heap.size w_ [v1] list ∧ Ext w w_ := ⟨_, rfl⟩
  refine W_join R6 ?_ ?_
  ·
    refine W_block ?_
    obtain ⟨I6, hI6⟩ : ∃ I : Nat → Fr → World → Prop, I = fun n f w_ => ∃ i_5 : Nat, ∃ suf6 : List Int, n = suf6.length ∧ List.drop i_5 list = suf6 ∧ i_5 + suf6.length = list.length ∧ rangeL (s_l6Vars_b1 m list) suf6 i_5 () = some j6 ∧ f 1 = v1 ∧ f 2 = .pointer (some ⟨g3, 0, none⟩) ∧ f 5 = .int .i64 (i_5 : Int) ∧ (RP.slice 3 RP.int).rel B w.heap.size w_ [v1] list ∧ (RP.slice 3 RP.int).rel B w.heap.size w_ [v0_0] m.sizes ∧ (RP.slice 68 (rRule 3 22)).rel B w.heap.size w_ [v0_1] m.rules ∧ Blk w_ g3 30 #[v0_0, v0_1] ∧ Ext w w_ := ⟨_, rfl⟩
    refine W_loop I6 (n := list.length) ?_ ?_
    · rw [hI6]; exact ⟨0, list, rfl, rfl, Nat.zero_add _, hL6, rfl, rfl, rfl, h1, h0_0, h0_1, hb_g3, hx⟩
    ·
      intro n6 f w_ hI
      rw [hI6] at hI
      obtain ⟨i_5, suf6, rfl, hd6, hl6, hL6, sf1, sf2, sf5, h1, h0_0, h0_1, hb_g3, hx⟩ := hI
      refine W_seq ?_
      refine W_seq ?_
      refine W_region ?_
      refine L_mv (v := .int .i64 (i_5 : Int)) rfl sf5 ?_
      refine L_mv (v := v1) rfl sf1 ?_
      refine L_len (v := v1) rfl Try.underlying22 rfl h1 ?_
      refine L_lss (m := (i_5 : Int)) (n := (list.length : Int)) rfl rfl rfl ?_
      refine L_nil ?_
      refine W_cond (b := decide ((i_5 : Int) < (list.length : Int))) rfl (fun hc7 => ?_) (fun hc7 => ?_)
      ·
        have hlt6 := of_decide_eq_true hc7
        cases suf6 with
        | nil => exact absurd hlt6 (by simp at hl6; omega)
        | cons x_6 rest6 =>
          obtain ⟨o6, hB6, hL6⟩ := range_cons hL6
          rw [s_l6Vars_b1] at hB6
          have hix6 := drop_idx hd6
          refine W_skip ?_
          refine W_seq ?_
          refine W_block ?_
          refine W_seq ?_
          refine W_seq ?_
          obtain ⟨R13, hR13⟩ : ∃ R : Fr → World → Prop, R = fun f w_ => f 1 = v1 ∧ f 2 = .pointer (some ⟨g3, 0, none⟩) ∧ f 5 = .int .i64 (i_5 : Int) ∧ f 27 = .bool ((decide (x_6 < 0)) || (decide (x_6 ≥ (m.sizes.length : Int)))) ∧ (RP.slice 3 RP.int).rel B w.heap.size w_ [v1] list ∧ (RP.slice 3 RP.int).rel B w.heap.size w_ [v0_0] m.sizes ∧ (RP.slice 68 (rRule 3 22)).rel B w.heap.size w_ [v0_1] m.rules ∧ Blk w_ g3 30 #[v0_0, v0_1] ∧ Ext w w_ := ⟨_, rfl⟩
          refine W_join R13 ?_ ?_
          ·
            rcases Bool.eq_false_or_eq_true (decide (x_6 < 0)) with hc14 | hc14
            ·
              refine W_drawL 13 [isV (v1), isV (.int .i64 (i_5 : Int)), isEl B RP.int x_6 0, isV (.int .i64 x_6), isV (.bool (decide (x_6 < 0))), isV (.bool (decide (x_6 < 0))), isV (undef), isV (undef), isV (undef), isV (undef), isV (undef), isV (undef), isV (undef)] Try_mix (by kernel_rfl) (am_cons (mono_V _) (am_cons (mono_V _) (am_cons (mono_el _ _ _ _) (am_cons (mono_V _) (am_cons (mono_V _) (am_cons (mono_V _) (am_cons (mono_V _) (am_cons (mono_V _) (am_cons (mono_V _) (am_cons (mono_V _) (am_cons (mono_V _) (am_cons (mono_V _) (am_cons (mono_V _) am_nil))))))))))))) ?_ (fun f w_ hS12 hE12 hT12 => ?_)
              ·
                refine ops_cons (fun f w_ hS12 hE12 hP12 => ?_) ?_
                ·
                  have hx := ext_trans hx hE12
                  have h1 := RP.ext h1 hE12
                  refine L_mv (v := v1) rfl ((hS12 1 rfl).trans sf1) ?_
                  exact L_nil ⟨rfl, (ext_refl _), _, _, rfl, rfl, rfl⟩
                refine ops_cons (fun f w_ hS12 hE12 hP12 => ?_) ?_
                ·
                  have hx := ext_trans hx hE12
                  refine L_mv (v := .int .i64 (i_5 : Int)) rfl ((hS12 5 rfl).trans sf5) ?_
                  exact L_nil ⟨rfl, (ext_refl _), _, _, rfl, rfl, rfl⟩
                refine ops_cons (fun f w_ hS12 hE12 hP12 => ?_) ?_
                ·
                  have hx := ext_trans hx hE12
                  have h1 := RP.ext h1 hE12
                  refine L_ix (r := RP.int) rfl Try.underlying22 Try.sizeOf3 (hP12 0 13 rfl rfl) h1 (hP12 1 14 rfl rfl) hix6 ?_
                  intro g17 o18 cs18 hr18 hat18
                  obtain rfl : _ = [_] := hr18
                  exact L_nil ⟨rfl, (ext_refl _), _, _, rfl, rfl, ⟨_, _, _, rfl, rfl, hat18⟩⟩
                refine ops_cons (fun f w_ hS12 hE12 hP12 => ?_) ?_
                ·
                  have hx := ext_trans hx hE12
                  obtain ⟨g19, o19, cs19, hv19, hr19, hat19⟩ := (hP12 2 15 rfl rfl)
                  obtain rfl : _ = [_] := hr19
                  refine L_ld (v := .int .i64 x_6) rfl Try.isAgg3 hv19 (hat19.cell (j := 0) rfl) ?_
                  exact L_nil ⟨rfl, (ext_refl _), _, _, rfl, rfl, rfl⟩
                refine ops_cons (fun f w_ hS12 hE12 hP12 => ?_) ?_
                ·
                  have hx := ext_trans hx hE12
                  refine L_lss (m := x_6) (n := 0) rfl (hP12 3 16 rfl rfl) rfl ?_
                  exact L_nil ⟨rfl, (ext_refl _), _, _, rfl, rfl, rfl⟩
                refine ops_cons (fun f w_ hS12 hE12 hP12 => ?_) ?_
                ·
                  have hx := ext_trans hx hE12
                  refine L_mv (v := .bool (decide (x_6 < 0))) rfl (hP12 4 17 rfl rfl) ?_
                  exact L_nil ⟨rfl, (ext_refl _), _, _, rfl, rfl, rfl⟩
                refine ops_cons (fun f w_ hS12 hE12 hP12 => ?_) ?_
                ·
                  have hx := ext_trans hx hE12
                  have h1 := RP.ext h1 hE12
                  refine L_pass (g_no rfl (Eq.trans (hP12 5 18 rfl rfl) (congrArg Value.bool hc14)) rfl rfl) ?_
                  exact L_nil ⟨rfl, (ext_refl _), _, _, rfl, rfl, rfl⟩
                refine ops_cons (fun f w_ hS12 hE12 hP12 => ?_) ?_
                ·
                  have hx := ext_trans hx hE12
                  refine L_pass (g_no rfl (Eq.trans (hP12 5 18 rfl rfl) (congrArg Value.bool hc14)) rfl rfl) ?_
                  exact L_nil ⟨rfl, (ext_refl _), _, _, rfl, rfl, rfl⟩
                refine ops_cons (fun f w_ hS12 hE12 hP12 => ?_) ?_
                ·
                  have hx := ext_trans hx hE12
                  refine L_pass (g_no rfl (Eq.trans (hP12 5 18 rfl rfl) (congrArg Value.bool hc14)) rfl rfl) ?_
                  exact L_nil ⟨rfl, (ext_refl _), _, _, rfl, rfl, rfl⟩
                refine ops_cons (fun f w_ hS12 hE12 hP12 => ?_) ?_
                ·
                  have hx := ext_trans hx hE12
                  refine L_pass (g_no rfl (Eq.trans (hP12 5 18 rfl rfl) (congrArg Value.bool hc14)) rfl rfl) ?_
                  exact L_nil ⟨rfl, (ext_refl _), _, _, rfl, rfl, rfl⟩
                refine ops_cons (fun f w_ hS12 hE12 hP12 => ?_) ?_
                ·
                  have hx := ext_trans hx hE12
                  have h0_0 := RP.ext h0_0 hE12
                  have h0_1 := RP.ext h0_1 hE12
                  have hb_g3 := Blk.ext hb_g3 hE12
                  refine L_pass (g_no rfl (Eq.trans (hP12 5 18 rfl rfl) (congrArg Value.bool hc14)) rfl rfl) ?_
                  exact L_nil ⟨rfl, (ext_refl _), _, _, rfl, rfl, rfl⟩
                refine ops_cons (fun f w_ hS12 hE12 hP12 => ?_) ?_
                ·
                  have hx := ext_trans hx hE12
                  refine L_pass (g_no rfl (Eq.trans (hP12 5 18 rfl rfl) (congrArg Value.bool hc14)) rfl rfl) ?_
                  exact L_nil ⟨rfl, (ext_refl _), _, _, rfl, rfl, rfl⟩
                refine ops_cons (fun f w_ hS12 hE12 hP12 => ?_) ?_
                ·
                  have hx := ext_trans hx hE12
                  refine L_pass (g_no rfl (Eq.trans (hP12 5 18 rfl rfl) (congrArg Value.bool hc14)) rfl rfl) ?_
                  exact L_nil ⟨rfl, (ext_refl _), _, _, rfl, rfl, rfl⟩
                exact ops_nil
              ·
                have h1 := RP.ext h1 hE12
                have h0_0 := RP.ext h0_0 hE12
                have h0_1 := RP.ext h0_1 hE12
                have hb_g3 := Blk.ext hb_g3 hE12
                have hx := ext_trans hx hE12
                refine L_pass (g_no rfl (Eq.trans (hT12 5 18 rfl rfl) (congrArg Value.bool hc14)) rfl rfl) ?_
                refine L_pick (v := .bool ((decide (x_6 < 0)) || (decide (x_6 ≥ (m.sizes.length : Int))))) rfl (Eq.trans (hT12 5 18 rfl rfl) (congrArg Value.bool hc14)) (or_t hc14) ?_
                refine L_nil ?_
                show R13 _ _
                rw [hR13]
                exact ⟨((hS12 1 rfl).trans sf1), ((hS12 2 rfl).trans sf2), ((hS12 5 rfl).trans sf5), rfl, h1, h0_0, h0_1, hb_g3, hx⟩
            ·
              refine W_drawL 13 [isV (v1), isV (.int .i64 (i_5 : Int)), isEl B RP.int x_6 0, isV (.int .i64 x_6), isV (.bool (decide (x_6 < 0))), isV (.bool (decide (x_6 < 0))), isV (v1), isV (.int .i64 (i_5 : Int)), isEl B RP.int x_6 0, isV (.int .i64 x_6), isV (.pointer (some ⟨g3, 0, none⟩)), isV (v0_0), isV (.int .i64 (m.sizes.length : Int))] Try_mix (by kernel_rfl) (am_cons (mono_V _) (am_cons (mono_V _) (am_cons (mono_el _ _ _ _) (am_cons (mono_V _) (am_cons (mono_V _) (am_cons (mono_V _) (am_cons (mono_V _) (am_cons (mono_V _) (am_cons (mono_el _ _ _ _) (am_cons (mono_V _) (am_cons (mono_V _) (am_cons (mono_V _) (am_cons (mono_V _) am_nil))))))))))))) ?_ (fun f w_ hS12 hE12 hT12 => ?_)
              ·
                refine ops_cons (fun f w_ hS12 hE12 hP12 => ?_) ?_
                ·
                  have hx := ext_trans hx hE12
                  have h1 := RP.ext h1 hE12
                  refine L_mv (v := v1) rfl ((hS12 1 rfl).trans sf1) ?_
                  exact L_nil ⟨rfl, (ext_refl _), _, _, rfl, rfl, rfl⟩
                refine ops_cons (fun f w_ hS12 hE12 hP12 => ?_) ?_
                ·
                  have hx := ext_trans hx hE12
                  refine L_mv (v := .int .i64 (i_5 : Int)) rfl ((hS12 5 rfl).trans sf5) ?_
                  exact L_nil ⟨rfl, (ext_refl _), _, _, rfl, rfl, rfl⟩
                refine ops_cons (fun f w_ hS12 hE12 hP12 => ?_) ?_
                ·
                  have hx := ext_trans hx hE12
                  have h1 := RP.ext h1 hE12
                  refine L_ix (r := RP.int) rfl Try.underlying22 Try.sizeOf3 (hP12 0 13 rfl rfl) h1 (hP12 1 14 rfl rfl) hix6 ?_
                  intro g24 o25 cs25 hr25 hat25
                  obtain rfl : _ = [_] := hr25
                  exact L_nil ⟨rfl, (ext_refl _), _, _, rfl, rfl, ⟨_, _, _, rfl, rfl, hat25⟩⟩
                refine ops_cons (fun f w_ hS12 hE12 hP12 => ?_) ?_
                ·
                  have hx := ext_trans hx hE12
                  obtain ⟨g26, o26, cs26, hv26, hr26, hat26⟩ := (hP12 2 15 rfl rfl)
                  obtain rfl : _ = [_] := hr26
                  refine L_ld (v := .int .i64 x_6) rfl Try.isAgg3 hv26 (hat26.cell (j := 0) rfl) ?_
                  exact L_nil ⟨rfl, (ext_refl _), _, _, rfl, rfl, rfl⟩
                refine ops_cons (fun f w_ hS12 hE12 hP12 => ?_) ?_
                ·
                  have hx := ext_trans hx hE12
                  refine L_lss (m := x_6) (n := 0) rfl (hP12 3 16 rfl rfl) rfl ?_
                  exact L_nil ⟨rfl, (ext_refl _), _, _, rfl, rfl, rfl⟩
                refine ops_cons (fun f w_ hS12 hE12 hP12 => ?_) ?_
                ·
                  have hx := ext_trans hx hE12
                  refine L_mv (v := .bool (decide (x_6 < 0))) rfl (hP12 4 17 rfl rfl) ?_
                  exact L_nil ⟨rfl, (ext_refl _), _, _, rfl, rfl, rfl⟩
                refine ops_cons (fun f w_ hS12 hE12 hP12 => ?_) ?_
                ·
                  have hx := ext_trans hx hE12
                  have h1 := RP.ext h1 hE12
                  refine L_mv (v := v1) (g_yes rfl (Eq.trans (hP12 5 18 rfl rfl) (congrArg Value.bool hc14)) rfl) ((hS12 1 rfl).trans sf1) ?_
                  exact L_nil ⟨rfl, (ext_refl _), _, _, rfl, rfl, rfl⟩
                refine ops_cons (fun f w_ hS12 hE12 hP12 => ?_) ?_
                ·
                  have hx := ext_trans hx hE12
                  refine L_mv (v := .int .i64 (i_5 : Int)) (g_yes rfl (Eq.trans (hP12 5 18 rfl rfl) (congrArg Value.bool hc14)) rfl) ((hS12 5 rfl).trans sf5) ?_
                  exact L_nil ⟨rfl, (ext_refl _), _, _, rfl, rfl, rfl⟩
                refine ops_cons (fun f w_ hS12 hE12 hP12 => ?_) ?_
                ·
                  have hx := ext_trans hx hE12
                  have h1 := RP.ext h1 hE12
                  refine L_ix (r := RP.int) (g_yes rfl (Eq.trans (hP12 5 18 rfl rfl) (congrArg Value.bool hc14)) rfl) Try.underlying22 Try.sizeOf3 (hP12 6 19 rfl rfl) h1 (hP12 7 20 rfl rfl) hix6 ?_
                  intro g27 o28 cs28 hr28 hat28
                  obtain rfl : _ = [_] := hr28
                  exact L_nil ⟨rfl, (ext_refl _), _, _, rfl, rfl, ⟨_, _, _, rfl, rfl, hat28⟩⟩
                refine ops_cons (fun f w_ hS12 hE12 hP12 => ?_) ?_
                ·
                  have hx := ext_trans hx hE12
                  obtain ⟨g29, o29, cs29, hv29, hr29, hat29⟩ := (hP12 8 21 rfl rfl)
                  obtain rfl : _ = [_] := hr29
                  refine L_ld (v := .int .i64 x_6) (g_yes rfl (Eq.trans (hP12 5 18 rfl rfl) (congrArg Value.bool hc14)) rfl) Try.isAgg3 hv29 (hat29.cell (j := 0) rfl) ?_
                  exact L_nil ⟨rfl, (ext_refl _), _, _, rfl, rfl, rfl⟩
                refine ops_cons (fun f w_ hS12 hE12 hP12 => ?_) ?_
                ·
                  have hx := ext_trans hx hE12
                  have h0_0 := RP.ext h0_0 hE12
                  have h0_1 := RP.ext h0_1 hE12
                  have hb_g3 := Blk.ext hb_g3 hE12
                  refine L_fa (o' := 0) (g_yes rfl (Eq.trans (hP12 5 18 rfl rfl) (congrArg Value.bool hc14)) rfl) fa_30_0 ((hS12 2 rfl).trans sf2) rfl ?_
                  exact L_nil ⟨rfl, (ext_refl _), _, _, rfl, rfl, rfl⟩
                refine ops_cons (fun f w_ hS12 hE12 hP12 => ?_) ?_
                ·
                  have hx := ext_trans hx hE12
                  have h0_0 := RP.ext h0_0 hE12
                  have h0_1 := RP.ext h0_1 hE12
                  have hb_g3 := Blk.ext hb_g3 hE12
                  refine L_ld (v := v0_0) (g_yes rfl (Eq.trans (hP12 5 18 rfl rfl) (congrArg Value.bool hc14)) rfl) Try.isAgg22 (hP12 10 23 rfl rfl) (hb_g3.cell (j := 0) rfl) ?_
                  exact L_nil ⟨rfl, (ext_refl _), _, _, rfl, rfl, rfl⟩
                refine ops_cons (fun f w_ hS12 hE12 hP12 => ?_) ?_
                ·
                  have hx := ext_trans hx hE12
                  have h0_0 := RP.ext h0_0 hE12
                  refine L_len (v := v0_0) (g_yes rfl (Eq.trans (hP12 5 18 rfl rfl) (congrArg Value.bool hc14)) rfl) Try.underlying22 (hP12 11 24 rfl rfl) h0_0 ?_
                  exact L_nil ⟨rfl, (ext_refl _), _, _, rfl, rfl, rfl⟩
                exact ops_nil
              ·
                have h1 := RP.ext h1 hE12
                have h0_0 := RP.ext h0_0 hE12
                have h0_1 := RP.ext h0_1 hE12
                have hb_g3 := Blk.ext hb_g3 hE12
                have hx := ext_trans hx hE12
                refine L_geq (m := x_6) (n := (m.sizes.length : Int)) (g_yes rfl (Eq.trans (hT12 5 18 rfl rfl) (congrArg Value.bool hc14)) rfl) (hT12 9 22 rfl rfl) (hT12 12 25 rfl rfl) ?_
                refine L_pick (v := .bool ((decide (x_6 < 0)) || (decide (x_6 ≥ (m.sizes.length : Int))))) rfl (Eq.trans (hT12 5 18 rfl rfl) (congrArg Value.bool hc14)) (or_f hc14 rfl) ?_
                refine L_nil ?_
                show R13 _ _
                rw [hR13]
                exact ⟨((hS12 1 rfl).trans sf1), ((hS12 2 rfl).trans sf2), ((hS12 5 rfl).trans sf5), rfl, h1, h0_0, h0_1, hb_g3, hx⟩
          ·
            intro f w_ hR
            rw [hR13] at hR
            obtain ⟨sf1, sf2, sf5, sf27, h1, h0_0, h0_1, hb_g3, hx⟩ := hR
            clear hR13
            refine W_cond (b := ((decide (x_6 < 0)) || (decide (x_6 ≥ (m.sizes.length : Int))))) sf27 (fun hc30 => ?_) (fun hc30 => ?_)
            ·
              have hB6 := (ite_t hc30).symm.trans hB6
              refine W_seq ?_
              refine W_region ?_
              refine L_as (v := .bool false) rfl rfl ?_
              refine L_nil ?_
              refine W_ret ?_
              obtain rfl := so hB6
              obtain rfl := so hL6
              obtain rfl := so hF
              refine ret1 Try.results79 ?_
              exact ⟨rfl, hx⟩
            ·
              have hB6 := (ite_f hc30).symm.trans hB6
              refine W_skip ?_
              refine W_seq ?_
              refine W_region ?_
              refine L_as (v := .int .i64 0) rfl rfl ?_
              refine L_nil ?_
              obtain ⟨k33, hk33, hB6⟩ := bind_some hB6
              obtain ⟨j32, hL32, hB6⟩ := bind_some hB6
              obtain ⟨R32, hR32⟩ : ∃ R : Fr → World → Prop, R = fun f w_ => j32 = .nx () ∧ f 1 = v1 ∧ f 2 = .pointer (some ⟨g3, 0, none⟩) ∧ f 5 = .int .i64 (i_5 : Int) ∧ (RP.slice 3 RP.int).rel B w.heap.size w_ [v1] list ∧ (RP.slice 3 RP.int).rel B w.heap.size w_ [v0_0] m.sizes ∧ (RP.slice 68 (rRule 3 22)).rel B w.heap.size w_ [v0_1] m.rules ∧ Blk w_ g3 30 #[v0_0, v0_1] ∧ Ext w w_ := ⟨_, rfl⟩
              refine W_join R32 ?_ ?_
              ·
                refine W_block ?_
                obtain ⟨I32, hI32⟩ : ∃ I : Nat → Fr → World → Prop, I = fun n f w_ => ∃ i_31 : Nat, ∃ suf32 : Nat, suf32 = n ∧ 0 ≤ i_31 ∧ i_31 + suf32 = 0 + k33 ∧ countL (s_l6Vars_b2 list x_6) suf32 i_31 () = some j32 ∧ f 1 = v1 ∧ f 2 = .pointer (some ⟨g3, 0, none⟩) ∧ f 5 = .int .i64 (i_5 : Int) ∧ f 6 = .int .i64 (i_31 : Int) ∧ (RP.slice 3 RP.int).rel B w.heap.size w_ [v1] list ∧ (RP.slice 3 RP.int).rel B w.heap.size w_ [v0_0] m.sizes ∧ (RP.slice 68 (rRule 3 22)).rel B w.heap.size w_ [v0_1] m.rules ∧ Blk w_ g3 30 #[v0_0, v0_1] ∧ Ext w w_ := ⟨_, rfl⟩
                refine W_loop I32 (n := k33) ?_ ?_
                · rw [hI32]; exact ⟨0, k33, rfl, Nat.le_refl _, rfl, hL32, sf1, sf2, sf5, rfl, h1, h0_0, h0_1, hb_g3, hx⟩
                ·
                  intro n32 f w_ hI
                  rw [hI32] at hI
                  obtain ⟨i_31, suf32, rfl, hs32, hl32, hL32, sf1, sf2, sf5, sf6, h1, h0_0, h0_1, hb_g3, hx⟩ := hI
                  refine W_seq ?_
                  refine W_seq ?_
                  refine W_region ?_
                  refine L_mv (v := .int .i64 (i_31 : Int)) rfl sf6 ?_
                  refine L_mv (v := .int .i64 (i_5 : Int)) rfl sf5 ?_
                  refine L_lss (m := (i_31 : Int)) (n := (i_5 : Int)) rfl rfl rfl ?_
                  refine L_nil ?_
                  refine W_cond (b := decide ((i_31 : Int) < (i_5 : Int))) rfl (fun hc34 => ?_) (fun hc34 => ?_)
                  ·
                    have hlt32 := of_decide_eq_true hc34
                    cases suf32 with
                    | zero => exact absurd hlt32 (cntF_no hl32 hk33)
                    | succ rest32 =>
                      obtain ⟨o32, hB32, hL32⟩ := count_succ hL32
                      rw [s_l6Vars_b2] at hB32
                      refine W_skip ?_
                      refine W_seq ?_
                      refine W_block ?_
                      refine W_seq ?_
                      obtain ⟨x35, hx35, hB32⟩ := bind_some hB32
                      refine W_drawL 8 [isV (v1), isV (.int .i64 (i_31 : Int)), isEl B RP.int x35 0, isV (.int .i64 x35), isV (v1), isV (.int .i64 (i_5 : Int)), isEl B RP.int x_6 0, isV (.int .i64 x_6)] Try_mix (by kernel_rfl) (am_cons (mono_V _) (am_cons (mono_V _) (am_cons (mono_el _ _ _ _) (am_cons (mono_V _) (am_cons (mono_V _) (am_cons (mono_V _) (am_cons (mono_el _ _ _ _) (am_cons (mono_V _) am_nil)))))))) ?_ (fun f w_ hS40 hE40 hT40 => ?_)
                      ·
                        refine ops_cons (fun f w_ hS40 hE40 hP40 => ?_) ?_
                        ·
                          have hx := ext_trans hx hE40
                          have h1 := RP.ext h1 hE40
                          refine L_mv (v := v1) rfl ((hS40 1 rfl).trans sf1) ?_
                          exact L_nil ⟨rfl, (ext_refl _), _, _, rfl, rfl, rfl⟩
                        refine ops_cons (fun f w_ hS40 hE40 hP40 => ?_) ?_
                        ·
                          have hx := ext_trans hx hE40
                          refine L_mv (v := .int .i64 (i_31 : Int)) rfl ((hS40 6 rfl).trans sf6) ?_
                          exact L_nil ⟨rfl, (ext_refl _), _, _, rfl, rfl, rfl⟩
                        refine ops_cons (fun f w_ hS40 hE40 hP40 => ?_) ?_
                        ·
                          have hx := ext_trans hx hE40
                          have h1 := RP.ext h1 hE40
                          refine L_ix (r := RP.int) rfl Try.underlying22 Try.sizeOf3 (hP40 0 33 rfl rfl) h1 (hP40 1 34 rfl rfl) hx35 ?_
                          intro g45 o46 cs46 hr46 hat46
                          obtain rfl : _ = [_] := hr46
                          exact L_nil ⟨rfl, (ext_refl _), _, _, rfl, rfl, ⟨_, _, _, rfl, rfl, hat46⟩⟩
                        refine ops_cons (fun f w_ hS40 hE40 hP40 => ?_) ?_
                        ·
                          have hx := ext_trans hx hE40
                          obtain ⟨g47, o47, cs47, hv47, hr47, hat47⟩ := (hP40 2 35 rfl rfl)
                          obtain rfl : _ = [_] := hr47
                          refine L_ld (v := .int .i64 x35) rfl Try.isAgg3 hv47 (hat47.cell (j := 0) rfl) ?_
                          exact L_nil ⟨rfl, (ext_refl _), _, _, rfl, rfl, rfl⟩
                        refine ops_cons (fun f w_ hS40 hE40 hP40 => ?_) ?_
                        ·
                          have hx := ext_trans hx hE40
                          have h1 := RP.ext h1 hE40
                          refine L_mv (v := v1) rfl ((hS40 1 rfl).trans sf1) ?_
                          exact L_nil ⟨rfl, (ext_refl _), _, _, rfl, rfl, rfl⟩
                        refine ops_cons (fun f w_ hS40 hE40 hP40 => ?_) ?_
                        ·
                          have hx := ext_trans hx hE40
                          refine L_mv (v := .int .i64 (i_5 : Int)) rfl ((hS40 5 rfl).trans sf5) ?_
                          exact L_nil ⟨rfl, (ext_refl _), _, _, rfl, rfl, rfl⟩
                        refine ops_cons (fun f w_ hS40 hE40 hP40 => ?_) ?_
                        ·
                          have hx := ext_trans hx hE40
                          have h1 := RP.ext h1 hE40
                          refine L_ix (r := RP.int) rfl Try.underlying22 Try.sizeOf3 (hP40 4 37 rfl rfl) h1 (hP40 5 38 rfl rfl) hix6 ?_
                          intro g48 o49 cs49 hr49 hat49
                          obtain rfl : _ = [_] := hr49
                          exact L_nil ⟨rfl, (ext_refl _), _, _, rfl, rfl, ⟨_, _, _, rfl, rfl, hat49⟩⟩
                        refine ops_cons (fun f w_ hS40 hE40 hP40 => ?_) ?_
                        ·
                          have hx := ext_trans hx hE40
                          obtain ⟨g50, o50, cs50, hv50, hr50, hat50⟩ := (hP40 6 39 rfl rfl)
                          obtain rfl : _ = [_] := hr50
                          refine L_ld (v := .int .i64 x_6) rfl Try.isAgg3 hv50 (hat50.cell (j := 0) rfl) ?_
                          exact L_nil ⟨rfl, (ext_refl _), _, _, rfl, rfl, rfl⟩
                        exact ops_nil
                      ·
                        have h1 := RP.ext h1 hE40
                        have h0_0 := RP.ext h0_0 hE40
                        have h0_1 := RP.ext h0_1 hE40
                        have hb_g3 := Blk.ext hb_g3 hE40
                        have hx := ext_trans hx hE40
                        refine L_eql (m := x35) (n := x_6) rfl (hT40 3 36 rfl rfl) (hT40 7 40 rfl rfl) ?_
                        refine L_nil ?_
                        refine W_cond (b := (x35 == x_6)) rfl (fun hc51 => ?_) (fun hc51 => ?_)
                        ·
                          have hB32 := (ite_t hc51).symm.trans hB32
                          refine W_seq ?_
                          refine W_region ?_
                          refine L_as (v := .bool false) rfl rfl ?_
                          refine L_nil ?_
                          refine W_ret ?_
                          obtain rfl := so hB32
                          obtain rfl := so hL32
                          obtain rfl := so hB6
                          obtain rfl := so hL6
                          obtain rfl := so hF
                          refine ret1 Try.results79 ?_
                          exact ⟨rfl, hx⟩
                        ·
                          have hB32 := (ite_f hc51).symm.trans hB32
                          refine W_skip ?_
                          refine W_region ?_
                          refine L_mv (v := .int .i64 (i_31 : Int)) rfl ((hS40 6 rfl).trans sf6) ?_
                          refine L_add (m := (i_31 : Int)) (n := 1) rfl rfl rfl ?_
                          refine L_as (v := .int .i64 (i64 ((i_31 : Int) + 1))) rfl rfl ?_
                          refine L_nil ?_
                          obtain rfl := so hB32
                          show ∃ m, m < _ ∧ I32 m _ _
                          refine ⟨rest32, Nat.lt_succ_self _, ?_⟩
                          rw [hI32]
                          exact ⟨i_31 + 1, rest32, rfl, by omega, by omega, hL32, ((hS40 1 rfl).trans sf1), ((hS40 2 rfl).trans sf2), ((hS40 5 rfl).trans sf5), (Eq.trans rfl (congrArg (Value.int .i64) (i64_succ (n := 0 + k33) (by omega) (cntF_le hk33)))), h1, h0_0, h0_1, hb_g3, hx⟩
                  ·
                    cases suf32 with
                    | succ _ => exact absurd (cntF_yes hs32 hl32 hk33) (of_decide_eq_false hc34)
                    | zero =>
                      obtain rfl := count_zero hL32
                      refine W_exit ?_
                      show R32 _ _
                      rw [hR32]
                      exact ⟨rfl, sf1, sf2, sf5, h1, h0_0, h0_1, hb_g3, hx⟩
              ·
                intro f w_ hR
                rw [hR32] at hR
                obtain ⟨rfl, sf1, sf2, sf5, h1, h0_0, h0_1, hb_g3, hx⟩ := hR
                clear hR32
                refine W_region ?_
                refine L_mv (v := .int .i64 (i_5 : Int)) rfl sf5 ?_
                refine L_add (m := (i_5 : Int)) (n := 1) rfl rfl rfl ?_
                refine L_as (v := .int .i64 (i64 ((i_5 : Int) + 1))) rfl rfl ?_
                refine L_nil ?_
                obtain rfl := so hB6
                show ∃ m, m < _ ∧ I6 m _ _
                refine ⟨rest6.length, by simp, ?_⟩
                rw [hI6]
                exact ⟨i_5 + 1, rest6, rfl, drop_next hd6, by simp at hl6; omega, hL6, sf1, sf2, (Eq.trans rfl (congrArg (Value.int .i64) (i64_succ (n := list.length) (by simp at hl6; omega) hlen6))), h1, h0_0, h0_1, hb_g3, hx⟩
      ·
        cases suf6 with
        | cons _ _ => exact absurd (of_decide_eq_false hc7) (by simp at hl6; omega)
        | nil =>
          obtain rfl := range_nil hL6
          refine W_exit ?_
          show R6 _ _
          rw [hR6]
          exact ⟨rfl, sf1, h1, hx⟩
  ·
    intro f w_ hR
    rw [hR6] at hR
    obtain ⟨rfl, sf1, h1, hx⟩ := hR
    clear hR6
    refine W_seq ?_
    refine W_region ?_
    refine L_mv (v := v1) rfl sf1 ?_
    refine L_len (v := v1) rfl Try.underlying22 rfl h1 ?_
    refine L_geq (m := (list.length : Int)) (n := 1) rfl rfl rfl ?_
    refine L_as (v := .bool (decide ((list.length : Int) ≥ 1))) rfl rfl ?_
    refine L_nil ?_
    refine W_ret ?_
    obtain rfl := so hF
    refine ret1 Try.results79 ?_
    exact ⟨rfl, hx⟩

theorem s_l6Linear_c {r_ : Rule} {v0_1 : Value} {v0_2 : Value} {v0_4 : Value} {w : World} {B : Nat} (hB : B ≤ w.heap.size) (h0_1 : (RP.slice 3 RP.int).rel B w.heap.size w [v0_1] r_.vars) (h0_2 : (RP.slice 3 RP.int).rel B w.heap.size w [v0_2] r_.coefs) (h0_4 : (RP.slice 22 (RP.slice 3 RP.int)).rel B w.heap.size w [v0_4] r_.rows) {r : Bool} (hF : s_l6Linear r_ = some r) :
    C Try.prog 80 #[.agg #[.int .i64 r_.kind, v0_1, v0_2, .int .i64 r_.bound, v0_4]] w fun v w' => (v = .bool r) ∧ Ext w w' := by
  unfold s_l6Linear at hF
  have hx := ext_refl w
  refine C_enter Try.func80 rfl Try.ntmps80 rfl ?_
  refine W_seq ?_
  refine W_region ?_
  refine L_box (v := .agg #[.int .i64 r_.kind, v0_1, v0_2, .int .i64 r_.bound, v0_4]) (cs := #[.int .i64 r_.kind, v0_1, v0_2, .int .i64 r_.bound, v0_4]) rfl rfl rfl ?_
  intro g3 w4 hn4
  have hge_g3 := hn4.geS hx.size
  have hb_g3 := hn4.blk
  have h0_1 := RP.ext h0_1 hn4.ext
  have h0_2 := RP.ext h0_2 hn4.ext
  have h0_4 := RP.ext h0_4 hn4.ext
  have hx := ext_trans hx hn4.ext
  refine L_as (v := .bool false) rfl rfl ?_
  refine L_nil ?_
  refine W_seq ?_
  refine W_seq ?_
  refine W_region ?_
  refine L_as (v := .int .i64 0) rfl rfl ?_
  refine L_nil ?_
  have hlen6 := len_le h0_2
  obtain ⟨j6, hL6, hF⟩ := bind_some hF
  obtain ⟨R6, hR6⟩ : ∃ R : Fr → World → Prop, R = fun f w_ => j6 = .nx () ∧ f 1 = .pointer (some ⟨g3, 0, none⟩) ∧ (RP.slice 3 RP.int).rel B w.heap.size w_ [v0_1] r_.vars ∧ (RP.slice 3 RP.int).rel B w.heap.size w_ [v0_2] r_.coefs ∧ (RP.slice 22 (RP.slice 3 RP.int)).rel B w.heap.size w_ [v0_4] r_.rows ∧ Blk w_ g3 68 #[.int .i64 r_.kind, v0_1, v0_2, .int .i64 r_.bound, v0_4] ∧ Ext w w_ := ⟨_, rfl⟩
  refine W_join R6 ?_ ?_
  ·
    refine W_block ?_
    obtain ⟨I6, hI6⟩ : ∃ I : Nat → Fr → World → Prop, I = fun n f w_ => ∃ i_5 : Nat, ∃ suf6 : List Int, n = suf6.length ∧ List.drop i_5 r_.coefs = suf6 ∧ i_5 + suf6.length = r_.coefs.length ∧ rangeL s_l6Linear_b1 suf6 i_5 () = some j6 ∧ f 1 = .pointer (some ⟨g3, 0, none⟩) ∧ f 3 = .int .i64 (i_5 : Int) ∧ (RP.slice 3 RP.int).rel B w.heap.size w_ [v0_1] r_.vars ∧ (RP.slice 3 RP.int).rel B w.heap.size w_ [v0_2] r_.coefs ∧ (RP.slice 22 (RP.slice 3 RP.int)).rel B w.heap.size w_ [v0_4] r_.rows ∧ Blk w_ g3 68 #[.int .i64 r_.kind, v0_1, v0_2, .int .i64 r_.bound, v0_4] ∧ Ext w w_ := ⟨_, rfl⟩
    refine W_loop I6 (n := r_.coefs.length) ?_ ?_
    · rw [hI6]; exact ⟨0, r_.coefs, rfl, rfl, Nat.zero_add _, hL6, rfl, rfl, h0_1, h0_2, h0_4, hb_g3, hx⟩
    ·
      intro n6 f w_ hI
      rw [hI6] at hI
      obtain ⟨i_5, suf6, rfl, hd6, hl6, hL6, sf1, sf3, h0_1, h0_2, h0_4, hb_g3, hx⟩ := hI
      refine W_seq ?_
      refine W_seq ?_
      refine W_region ?_
      refine L_mv (v := .int .i64 (i_5 : Int)) rfl sf3 ?_
      refine L_fa (o' := 2) rfl fa_68_2 sf1 rfl ?_
      refine L_ld (v := v0_2) rfl Try.isAgg22 rfl (hb_g3.cell (j := 2) rfl) ?_
      refine L_len (v := v0_2) rfl Try.underlying22 rfl h0_2 ?_
      refine L_lss (m := (i_5 : Int)) (n := (r_.coefs.length : Int)) rfl rfl rfl ?_
      refine L_nil ?_
      refine W_cond (b := decide ((i_5 : Int) < (r_.coefs.length : Int))) rfl (fun hc7 => ?_) (fun hc7 => ?_)
      ·
        have hlt6 := of_decide_eq_true hc7
        cases suf6 with
        | nil => exact absurd hlt6 (by simp at hl6; omega)
        | cons x_6 rest6 =>
          obtain ⟨o6, hB6, hL6⟩ := range_cons hL6
          rw [s_l6Linear_b1] at hB6
          have hix6 := drop_idx hd6
          refine W_skip ?_
          refine W_seq ?_
          refine W_block ?_
          refine W_seq ?_
          obtain ⟨R14, hR14⟩ : ∃ R : Fr → World → Prop, R = fun f w_ => f 1 = .pointer (some ⟨g3, 0, none⟩) ∧ f 3 = .int .i64 (i_5 : Int) ∧ f 32 = .bool (((decide (x_6 < (-9))) || (decide (x_6 > 9))) || (x_6 == 0)) ∧ (RP.slice 3 RP.int).rel B w.heap.size w_ [v0_1] r_.vars ∧ (RP.slice 3 RP.int).rel B w.heap.size w_ [v0_2] r_.coefs ∧ (RP.slice 22 (RP.slice 3 RP.int)).rel B w.heap.size w_ [v0_4] r_.rows ∧ Blk w_ g3 68 #[.int .i64 r_.kind, v0_1, v0_2, .int .i64 r_.bound, v0_4] ∧ Ext w w_ := ⟨_, rfl⟩
          refine W_join R14 ?_ ?_
          ·
            refine W_region ?_
            refine L_fa (o' := 2) rfl fa_68_2 sf1 rfl ?_
            refine L_ld (v := v0_2) rfl Try.isAgg22 rfl (hb_g3.cell (j := 2) rfl) ?_
            refine L_mv (v := .int .i64 (i_5 : Int)) rfl sf3 ?_
            refine L_ix (r := RP.int) rfl Try.underlying22 Try.sizeOf3 rfl h0_2 rfl hix6 ?_
            intro g15 o16 cs16 hr16 hat16
            obtain rfl : _ = [_] := hr16
            refine L_ld (v := .int .i64 x_6) rfl Try.isAgg3 rfl (hat16.cell (j := 0) rfl) ?_
            refine L_lss (m := x_6) (n := (-9)) rfl rfl rfl ?_
            refine L_mv (v := .bool (decide (x_6 < (-9)))) rfl rfl ?_
            refine L_split (d := 17) (b := decide (x_6 < (-9))) rfl (fun hc17 => ?_) (fun hc17 => ?_)
            ·
              refine L_pass rfl ?_
              refine L_pass rfl ?_
              refine L_pass rfl ?_
              refine L_pass rfl ?_
              refine L_pass rfl ?_
              refine L_pass rfl ?_
              refine L_pick (v := .bool ((decide (x_6 < (-9))) || (decide (x_6 > 9)))) rfl rfl (or_t hc17) ?_
              refine L_mv (v := .bool ((decide (x_6 < (-9))) || (decide (x_6 > 9)))) rfl rfl ?_
              refine L_split (d := 25) (b := ((decide (x_6 < (-9))) || (decide (x_6 > 9)))) rfl (fun hc18 => ?_) (fun hc18 => ?_)
              ·
                refine L_pass rfl ?_
                refine L_pass rfl ?_
                refine L_pass rfl ?_
                refine L_pass rfl ?_
                refine L_pass rfl ?_
                refine L_pass rfl ?_
                refine L_pick (v := .bool (((decide (x_6 < (-9))) || (decide (x_6 > 9))) || (x_6 == 0))) rfl rfl (or_t hc18) ?_
                refine L_nil ?_
                show R14 _ _
                rw [hR14]
                exact ⟨sf1, sf3, rfl, h0_1, h0_2, h0_4, hb_g3, hx⟩
              ·
                refine L_fa (o' := 2) rfl fa_68_2 sf1 rfl ?_
                refine L_ld (v := v0_2) rfl Try.isAgg22 rfl (hb_g3.cell (j := 2) rfl) ?_
                refine L_mv (v := .int .i64 (i_5 : Int)) rfl sf3 ?_
                refine L_ix (r := RP.int) rfl Try.underlying22 Try.sizeOf3 rfl h0_2 rfl hix6 ?_
                intro g19 o20 cs20 hr20 hat20
                obtain rfl : _ = [_] := hr20
                refine L_ld (v := .int .i64 x_6) rfl Try.isAgg3 rfl (hat20.cell (j := 0) rfl) ?_
                refine L_eql (m := x_6) (n := 0) rfl rfl rfl ?_
                refine L_pick (v := .bool (((decide (x_6 < (-9))) || (decide (x_6 > 9))) || (x_6 == 0))) rfl rfl (or_f hc18 rfl) ?_
                refine L_nil ?_
                show R14 _ _
                rw [hR14]
                exact ⟨sf1, sf3, rfl, h0_1, h0_2, h0_4, hb_g3, hx⟩
            ·
              refine L_fa (o' := 2) rfl fa_68_2 sf1 rfl ?_
              refine L_ld (v := v0_2) rfl Try.isAgg22 rfl (hb_g3.cell (j := 2) rfl) ?_
              refine L_mv (v := .int .i64 (i_5 : Int)) rfl sf3 ?_
              refine L_ix (r := RP.int) rfl Try.underlying22 Try.sizeOf3 rfl h0_2 rfl hix6 ?_
              intro g21 o22 cs22 hr22 hat22
              obtain rfl : _ = [_] := hr22
              refine L_ld (v := .int .i64 x_6) rfl Try.isAgg3 rfl (hat22.cell (j := 0) rfl) ?_
              refine L_gtr (m := x_6) (n := 9) rfl rfl rfl ?_
              refine L_pick (v := .bool ((decide (x_6 < (-9))) || (decide (x_6 > 9)))) rfl rfl (or_f hc17 rfl) ?_
              refine L_mv (v := .bool ((decide (x_6 < (-9))) || (decide (x_6 > 9)))) rfl rfl ?_
              refine L_split (d := 25) (b := ((decide (x_6 < (-9))) || (decide (x_6 > 9)))) rfl (fun hc23 => ?_) (fun hc23 => ?_)
              ·
                refine L_pass rfl ?_
                refine L_pass rfl ?_
                refine L_pass rfl ?_
                refine L_pass rfl ?_
                refine L_pass rfl ?_
                refine L_pass rfl ?_
                refine L_pick (v := .bool (((decide (x_6 < (-9))) || (decide (x_6 > 9))) || (x_6 == 0))) rfl rfl (or_t hc23) ?_
                refine L_nil ?_
                show R14 _ _
                rw [hR14]
                exact ⟨sf1, sf3, rfl, h0_1, h0_2, h0_4, hb_g3, hx⟩
              ·
                refine L_fa (o' := 2) rfl fa_68_2 sf1 rfl ?_
                refine L_ld (v := v0_2) rfl Try.isAgg22 rfl (hb_g3.cell (j := 2) rfl) ?_
                refine L_mv (v := .int .i64 (i_5 : Int)) rfl sf3 ?_
                refine L_ix (r := RP.int) rfl Try.underlying22 Try.sizeOf3 rfl h0_2 rfl hix6 ?_
                intro g24 o25 cs25 hr25 hat25
                obtain rfl : _ = [_] := hr25
                refine L_ld (v := .int .i64 x_6) rfl Try.isAgg3 rfl (hat25.cell (j := 0) rfl) ?_
                refine L_eql (m := x_6) (n := 0) rfl rfl rfl ?_
                refine L_pick (v := .bool (((decide (x_6 < (-9))) || (decide (x_6 > 9))) || (x_6 == 0))) rfl rfl (or_f hc23 rfl) ?_
                refine L_nil ?_
                show R14 _ _
                rw [hR14]
                exact ⟨sf1, sf3, rfl, h0_1, h0_2, h0_4, hb_g3, hx⟩
          ·
            intro f w_ hR
            rw [hR14] at hR
            obtain ⟨sf1, sf3, sf32, h0_1, h0_2, h0_4, hb_g3, hx⟩ := hR
            clear hR14
            refine W_cond (b := (((decide (x_6 < (-9))) || (decide (x_6 > 9))) || (x_6 == 0))) sf32 (fun hc26 => ?_) (fun hc26 => ?_)
            ·
              have hB6 := (ite_t hc26).symm.trans hB6
              refine W_seq ?_
              refine W_region ?_
              refine L_as (v := .bool false) rfl rfl ?_
              refine L_nil ?_
              refine W_ret ?_
              obtain rfl := so hB6
              obtain rfl := so hL6
              obtain rfl := so hF
              refine ret1 Try.results80 ?_
              exact ⟨rfl, hx⟩
            ·
              have hB6 := (ite_f hc26).symm.trans hB6
              refine W_skip ?_
              refine W_region ?_
              refine L_mv (v := .int .i64 (i_5 : Int)) rfl sf3 ?_
              refine L_add (m := (i_5 : Int)) (n := 1) rfl rfl rfl ?_
              refine L_as (v := .int .i64 (i64 ((i_5 : Int) + 1))) rfl rfl ?_
              refine L_nil ?_
              obtain rfl := so hB6
              show ∃ m, m < _ ∧ I6 m _ _
              refine ⟨rest6.length, by simp, ?_⟩
              rw [hI6]
              exact ⟨i_5 + 1, rest6, rfl, drop_next hd6, by simp at hl6; omega, hL6, sf1, (Eq.trans rfl (congrArg (Value.int .i64) (i64_succ (n := r_.coefs.length) (by simp at hl6; omega) hlen6))), h0_1, h0_2, h0_4, hb_g3, hx⟩
      ·
        cases suf6 with
        | cons _ _ => exact absurd (of_decide_eq_false hc7) (by simp at hl6; omega)
        | nil =>
          obtain rfl := range_nil hL6
          refine W_exit ?_
          show R6 _ _
          rw [hR6]
          exact ⟨rfl, sf1, h0_1, h0_2, h0_4, hb_g3, hx⟩
  ·
    intro f w_ hR
    rw [hR6] at hR
    obtain ⟨rfl, sf1, h0_1, h0_2, h0_4, hb_g3, hx⟩ := hR
    clear hR6
    refine W_seq ?_
    obtain ⟨R27, hR27⟩ : ∃ R : Fr → World → Prop, R = fun f w_ => f 2 = .bool ((((r_.coefs.length : Int) == (r_.vars.length : Int)) && (decide (r_.bound ≥ (-1000)))) && (decide (r_.bound ≤ 1000))) ∧ Ext w w_ := ⟨_, rfl⟩
    refine W_join R27 ?_ ?_
    ·
      refine W_region ?_
      refine L_fa (o' := 2) rfl fa_68_2 sf1 rfl ?_
      refine L_ld (v := v0_2) rfl Try.isAgg22 rfl (hb_g3.cell (j := 2) rfl) ?_
      refine L_len (v := v0_2) rfl Try.underlying22 rfl h0_2 ?_
      refine L_fa (o' := 1) rfl fa_68_1 sf1 rfl ?_
      refine L_ld (v := v0_1) rfl Try.isAgg22 rfl (hb_g3.cell (j := 1) rfl) ?_
      refine L_len (v := v0_1) rfl Try.underlying22 rfl h0_1 ?_
      refine L_eql (m := (r_.coefs.length : Int)) (n := (r_.vars.length : Int)) rfl rfl rfl ?_
      refine L_mv (v := .bool ((r_.coefs.length : Int) == (r_.vars.length : Int))) rfl rfl ?_
      refine L_split (d := 40) (b := ((r_.coefs.length : Int) == (r_.vars.length : Int))) rfl (fun hc28 => ?_) (fun hc28 => ?_)
      ·
        refine L_fa (o' := 3) rfl fa_68_3 sf1 rfl ?_
        refine L_ld (v := .int .i64 r_.bound) rfl Try.isAgg3 rfl (hb_g3.cell (j := 3) rfl) ?_
        refine L_geq (m := r_.bound) (n := (-1000)) rfl rfl rfl ?_
        refine L_pick (v := .bool (((r_.coefs.length : Int) == (r_.vars.length : Int)) && (decide (r_.bound ≥ (-1000))))) rfl rfl (and_t hc28 rfl) ?_
        refine L_mv (v := .bool (((r_.coefs.length : Int) == (r_.vars.length : Int)) && (decide (r_.bound ≥ (-1000))))) rfl rfl ?_
        refine L_split (d := 45) (b := (((r_.coefs.length : Int) == (r_.vars.length : Int)) && (decide (r_.bound ≥ (-1000))))) rfl (fun hc29 => ?_) (fun hc29 => ?_)
        ·
          refine L_fa (o' := 3) rfl fa_68_3 sf1 rfl ?_
          refine L_ld (v := .int .i64 r_.bound) rfl Try.isAgg3 rfl (hb_g3.cell (j := 3) rfl) ?_
          refine L_leq (m := r_.bound) (n := 1000) rfl rfl rfl ?_
          refine L_pick (v := .bool ((((r_.coefs.length : Int) == (r_.vars.length : Int)) && (decide (r_.bound ≥ (-1000)))) && (decide (r_.bound ≤ 1000)))) rfl rfl (and_t hc29 rfl) ?_
          refine L_as (v := .bool ((((r_.coefs.length : Int) == (r_.vars.length : Int)) && (decide (r_.bound ≥ (-1000)))) && (decide (r_.bound ≤ 1000)))) rfl rfl ?_
          refine L_nil ?_
          show R27 _ _
          rw [hR27]
          exact ⟨rfl, hx⟩
        ·
          refine L_pass rfl ?_
          refine L_pass rfl ?_
          refine L_pass rfl ?_
          refine L_pick (v := .bool ((((r_.coefs.length : Int) == (r_.vars.length : Int)) && (decide (r_.bound ≥ (-1000)))) && (decide (r_.bound ≤ 1000)))) rfl rfl (and_f hc29) ?_
          refine L_as (v := .bool ((((r_.coefs.length : Int) == (r_.vars.length : Int)) && (decide (r_.bound ≥ (-1000)))) && (decide (r_.bound ≤ 1000)))) rfl rfl ?_
          refine L_nil ?_
          show R27 _ _
          rw [hR27]
          exact ⟨rfl, hx⟩
      ·
        refine L_pass rfl ?_
        refine L_pass rfl ?_
        refine L_pass rfl ?_
        refine L_pick (v := .bool (((r_.coefs.length : Int) == (r_.vars.length : Int)) && (decide (r_.bound ≥ (-1000))))) rfl rfl (and_f hc28) ?_
        refine L_mv (v := .bool (((r_.coefs.length : Int) == (r_.vars.length : Int)) && (decide (r_.bound ≥ (-1000))))) rfl rfl ?_
        refine L_split (d := 45) (b := (((r_.coefs.length : Int) == (r_.vars.length : Int)) && (decide (r_.bound ≥ (-1000))))) rfl (fun hc30 => ?_) (fun hc30 => ?_)
        ·
          refine L_fa (o' := 3) rfl fa_68_3 sf1 rfl ?_
          refine L_ld (v := .int .i64 r_.bound) rfl Try.isAgg3 rfl (hb_g3.cell (j := 3) rfl) ?_
          refine L_leq (m := r_.bound) (n := 1000) rfl rfl rfl ?_
          refine L_pick (v := .bool ((((r_.coefs.length : Int) == (r_.vars.length : Int)) && (decide (r_.bound ≥ (-1000)))) && (decide (r_.bound ≤ 1000)))) rfl rfl (and_t hc30 rfl) ?_
          refine L_as (v := .bool ((((r_.coefs.length : Int) == (r_.vars.length : Int)) && (decide (r_.bound ≥ (-1000)))) && (decide (r_.bound ≤ 1000)))) rfl rfl ?_
          refine L_nil ?_
          show R27 _ _
          rw [hR27]
          exact ⟨rfl, hx⟩
        ·
          refine L_pass rfl ?_
          refine L_pass rfl ?_
          refine L_pass rfl ?_
          refine L_pick (v := .bool ((((r_.coefs.length : Int) == (r_.vars.length : Int)) && (decide (r_.bound ≥ (-1000)))) && (decide (r_.bound ≤ 1000)))) rfl rfl (and_f hc30) ?_
          refine L_as (v := .bool ((((r_.coefs.length : Int) == (r_.vars.length : Int)) && (decide (r_.bound ≥ (-1000)))) && (decide (r_.bound ≤ 1000)))) rfl rfl ?_
          refine L_nil ?_
          show R27 _ _
          rw [hR27]
          exact ⟨rfl, hx⟩
    ·
      intro f w_ hR
      rw [hR27] at hR
      obtain ⟨sf2, hx⟩ := hR
      clear hR27
      refine W_ret ?_
      obtain rfl := so hF
      refine ret1 Try.results80 ?_
      exact ⟨sf2, hx⟩

theorem s_l6Table_c {r_ : Rule} {v0_1 : Value} {v0_2 : Value} {v0_4 : Value} {w : World} {B : Nat} (hB : B ≤ w.heap.size) (h0_1 : (RP.slice 3 RP.int).rel B w.heap.size w [v0_1] r_.vars) (h0_2 : (RP.slice 3 RP.int).rel B w.heap.size w [v0_2] r_.coefs) (h0_4 : (RP.slice 22 (RP.slice 3 RP.int)).rel B w.heap.size w [v0_4] r_.rows) {r : Bool} (hF : s_l6Table r_ = some r) :
    C Try.prog 81 #[.agg #[.int .i64 r_.kind, v0_1, v0_2, .int .i64 r_.bound, v0_4]] w fun v w' => (v = .bool r) ∧ Ext w w' := by
  unfold s_l6Table at hF
  have hx := ext_refl w
  refine C_enter Try.func81 rfl Try.ntmps81 rfl ?_
  refine W_seq ?_
  refine W_region ?_
  refine L_box (v := .agg #[.int .i64 r_.kind, v0_1, v0_2, .int .i64 r_.bound, v0_4]) (cs := #[.int .i64 r_.kind, v0_1, v0_2, .int .i64 r_.bound, v0_4]) rfl rfl rfl ?_
  intro g3 w4 hn4
  have hge_g3 := hn4.geS hx.size
  have hb_g3 := hn4.blk
  have h0_1 := RP.ext h0_1 hn4.ext
  have h0_2 := RP.ext h0_2 hn4.ext
  have h0_4 := RP.ext h0_4 hn4.ext
  have hx := ext_trans hx hn4.ext
  refine L_as (v := .bool false) rfl rfl ?_
  refine L_nil ?_
  refine W_seq ?_
  refine W_seq ?_
  refine W_region ?_
  refine L_as (v := .int .i64 0) rfl rfl ?_
  refine L_nil ?_
  have hlen6 := len_le h0_4
  obtain ⟨j6, hL6, hF⟩ := bind_some hF
  obtain ⟨R6, hR6⟩ : ∃ R : Fr → World → Prop, R = fun f w_ => j6 = .nx () ∧ f 1 = .pointer (some ⟨g3, 0, none⟩) ∧ (RP.slice 3 RP.int).rel B w.heap.size w_ [v0_1] r_.vars ∧ (RP.slice 3 RP.int).rel B w.heap.size w_ [v0_2] r_.coefs ∧ (RP.slice 22 (RP.slice 3 RP.int)).rel B w.heap.size w_ [v0_4] r_.rows ∧ Blk w_ g3 68 #[.int .i64 r_.kind, v0_1, v0_2, .int .i64 r_.bound, v0_4] ∧ Ext w w_ := ⟨_, rfl⟩
  refine W_join R6 ?_ ?_
  ·
    refine W_block ?_
    obtain ⟨I6, hI6⟩ : ∃ I : Nat → Fr → World → Prop, I = fun n f w_ => ∃ i_5 : Nat, ∃ suf6 : List (List Int), n = suf6.length ∧ List.drop i_5 r_.rows = suf6 ∧ i_5 + suf6.length = r_.rows.length ∧ rangeL (s_l6Table_b1 r_) suf6 i_5 () = some j6 ∧ f 1 = .pointer (some ⟨g3, 0, none⟩) ∧ f 3 = .int .i64 (i_5 : Int) ∧ (RP.slice 3 RP.int).rel B w.heap.size w_ [v0_1] r_.vars ∧ (RP.slice 3 RP.int).rel B w.heap.size w_ [v0_2] r_.coefs ∧ (RP.slice 22 (RP.slice 3 RP.int)).rel B w.heap.size w_ [v0_4] r_.rows ∧ Blk w_ g3 68 #[.int .i64 r_.kind, v0_1, v0_2, .int .i64 r_.bound, v0_4] ∧ Ext w w_ := ⟨_, rfl⟩
    refine W_loop I6 (n := r_.rows.length) ?_ ?_
    · rw [hI6]; exact ⟨0, r_.rows, rfl, rfl, Nat.zero_add _, hL6, rfl, rfl, h0_1, h0_2, h0_4, hb_g3, hx⟩
    ·
      intro n6 f w_ hI
      rw [hI6] at hI
      obtain ⟨i_5, suf6, rfl, hd6, hl6, hL6, sf1, sf3, h0_1, h0_2, h0_4, hb_g3, hx⟩ := hI
      refine W_seq ?_
      refine W_seq ?_
      refine W_region ?_
      refine L_mv (v := .int .i64 (i_5 : Int)) rfl sf3 ?_
      refine L_fa (o' := 4) rfl fa_68_4 sf1 rfl ?_
      refine L_ld (v := v0_4) rfl Try.isAgg66 rfl (hb_g3.cell (j := 4) rfl) ?_
      refine L_len (v := v0_4) rfl Try.underlying66 rfl h0_4 ?_
      refine L_lss (m := (i_5 : Int)) (n := (r_.rows.length : Int)) rfl rfl rfl ?_
      refine L_nil ?_
      refine W_cond (b := decide ((i_5 : Int) < (r_.rows.length : Int))) rfl (fun hc7 => ?_) (fun hc7 => ?_)
      ·
        have hlt6 := of_decide_eq_true hc7
        cases suf6 with
        | nil => exact absurd hlt6 (by simp at hl6; omega)
        | cons x_6 rest6 =>
          obtain ⟨o6, hB6, hL6⟩ := range_cons hL6
          rw [s_l6Table_b1] at hB6
          have hix6 := drop_idx hd6
          refine W_skip ?_
          refine W_seq ?_
          refine W_block ?_
          refine W_seq ?_
          refine W_seq ?_
          refine W_drawL 9 [isV (.pointer (some ⟨g3, 4, none⟩)), isV (v0_4), isV (.int .i64 (i_5 : Int)), isEl B (RP.slice 3 RP.int) x_6 0, isData B (RP.slice 3 RP.int) x_6, isV (.int .i64 (x_6.length : Int)), isV (.pointer (some ⟨g3, 1, none⟩)), isV (v0_1), isV (.int .i64 (r_.vars.length : Int))] Try_mix (by kernel_rfl) (am_cons (mono_V _) (am_cons (mono_V _) (am_cons (mono_V _) (am_cons (mono_el _ _ _ _) (am_cons (mono_data _ _ _) (am_cons (mono_V _) (am_cons (mono_V _) (am_cons (mono_V _) (am_cons (mono_V _) am_nil))))))))) ?_ (fun f w_ hS10 hE10 hT10 => ?_)
          ·
            refine ops_cons (fun f w_ hS10 hE10 hP10 => ?_) ?_
            ·
              have hx := ext_trans hx hE10
              have h0_1 := RP.ext h0_1 hE10
              have h0_2 := RP.ext h0_2 hE10
              have h0_4 := RP.ext h0_4 hE10
              have hb_g3 := Blk.ext hb_g3 hE10
              refine L_fa (o' := 4) rfl fa_68_4 ((hS10 1 rfl).trans sf1) rfl ?_
              exact L_nil ⟨rfl, (ext_refl _), _, _, rfl, rfl, rfl⟩
            refine ops_cons (fun f w_ hS10 hE10 hP10 => ?_) ?_
            ·
              have hx := ext_trans hx hE10
              have h0_1 := RP.ext h0_1 hE10
              have h0_2 := RP.ext h0_2 hE10
              have h0_4 := RP.ext h0_4 hE10
              have hb_g3 := Blk.ext hb_g3 hE10
              refine L_ld (v := v0_4) rfl Try.isAgg66 (hP10 0 12 rfl rfl) (hb_g3.cell (j := 4) rfl) ?_
              exact L_nil ⟨rfl, (ext_refl _), _, _, rfl, rfl, rfl⟩
            refine ops_cons (fun f w_ hS10 hE10 hP10 => ?_) ?_
            ·
              have hx := ext_trans hx hE10
              refine L_mv (v := .int .i64 (i_5 : Int)) rfl ((hS10 3 rfl).trans sf3) ?_
              exact L_nil ⟨rfl, (ext_refl _), _, _, rfl, rfl, rfl⟩
            refine ops_cons (fun f w_ hS10 hE10 hP10 => ?_) ?_
            ·
              have hx := ext_trans hx hE10
              have h0_4 := RP.ext h0_4 hE10
              refine L_ix (r := (RP.slice 3 RP.int)) rfl Try.underlying66 Try.sizeOf22 (hP10 1 13 rfl rfl) h0_4 (hP10 2 14 rfl rfl) hix6 ?_
              intro g13 o14 cs14 hr14 hat14
              obtain ⟨u14, rfl, hu14⟩ := slice1 hr14
              exact L_nil ⟨rfl, (ext_refl _), _, _, rfl, rfl, ⟨_, _, _, rfl, (rel0 hr14), hat14⟩⟩
            refine ops_cons (fun f w_ hS10 hE10 hP10 => ?_) ?_
            ·
              have hx := ext_trans hx hE10
              obtain ⟨g15, o15, cs15, hv15, hr15, hat15⟩ := (hP10 3 15 rfl rfl)
              obtain ⟨u15, rfl, hu15⟩ := slice1 hr15
              refine L_ld (v := u15) rfl Try.isAgg22 hv15 (hat15.cell (j := 0) rfl) ?_
              exact L_nil ⟨rfl, (ext_refl _), _, _, rfl, rfl, (rel0 hu15)⟩
            refine ops_cons (fun f w_ hS10 hE10 hP10 => ?_) ?_
            ·
              have hx := ext_trans hx hE10
              have hd16 := (hP10 4 16 rfl rfl)
              refine L_len (v := (f 16)) rfl Try.underlying22 rfl hd16 ?_
              exact L_nil ⟨rfl, (ext_refl _), _, _, rfl, rfl, rfl⟩
            refine ops_cons (fun f w_ hS10 hE10 hP10 => ?_) ?_
            ·
              have hx := ext_trans hx hE10
              have h0_1 := RP.ext h0_1 hE10
              have h0_2 := RP.ext h0_2 hE10
              have h0_4 := RP.ext h0_4 hE10
              have hb_g3 := Blk.ext hb_g3 hE10
              refine L_fa (o' := 1) rfl fa_68_1 ((hS10 1 rfl).trans sf1) rfl ?_
              exact L_nil ⟨rfl, (ext_refl _), _, _, rfl, rfl, rfl⟩
            refine ops_cons (fun f w_ hS10 hE10 hP10 => ?_) ?_
            ·
              have hx := ext_trans hx hE10
              have h0_1 := RP.ext h0_1 hE10
              have h0_2 := RP.ext h0_2 hE10
              have h0_4 := RP.ext h0_4 hE10
              have hb_g3 := Blk.ext hb_g3 hE10
              refine L_ld (v := v0_1) rfl Try.isAgg22 (hP10 6 18 rfl rfl) (hb_g3.cell (j := 1) rfl) ?_
              exact L_nil ⟨rfl, (ext_refl _), _, _, rfl, rfl, rfl⟩
            refine ops_cons (fun f w_ hS10 hE10 hP10 => ?_) ?_
            ·
              have hx := ext_trans hx hE10
              have h0_1 := RP.ext h0_1 hE10
              refine L_len (v := v0_1) rfl Try.underlying22 (hP10 7 19 rfl rfl) h0_1 ?_
              exact L_nil ⟨rfl, (ext_refl _), _, _, rfl, rfl, rfl⟩
            exact ops_nil
          ·
            have h0_1 := RP.ext h0_1 hE10
            have h0_2 := RP.ext h0_2 hE10
            have h0_4 := RP.ext h0_4 hE10
            have hb_g3 := Blk.ext hb_g3 hE10
            have hx := ext_trans hx hE10
            refine L_neq (m := (x_6.length : Int)) (n := (r_.vars.length : Int)) rfl (hT10 5 17 rfl rfl) (hT10 8 20 rfl rfl) ?_
            refine L_nil ?_
            refine W_cond (b := ((x_6.length : Int) != (r_.vars.length : Int))) rfl (fun hc17 => ?_) (fun hc17 => ?_)
            ·
              have hB6 := (ite_t hc17).symm.trans hB6
              refine W_seq ?_
              refine W_region ?_
              refine L_as (v := .bool false) rfl rfl ?_
              refine L_nil ?_
              refine W_ret ?_
              obtain rfl := so hB6
              obtain rfl := so hL6
              obtain rfl := so hF
              refine ret1 Try.results81 ?_
              exact ⟨rfl, hx⟩
            ·
              have hB6 := (ite_f hc17).symm.trans hB6
              refine W_skip ?_
              refine W_seq ?_
              refine W_region ?_
              refine L_as (v := .int .i64 0) rfl rfl ?_
              refine L_nil ?_
              obtain ⟨k20, hk20, hB6⟩ := bind_some hB6
              obtain ⟨j19, hL19, hB6⟩ := bind_some hB6
              obtain ⟨R19, hR19⟩ : ∃ R : Fr → World → Prop, R = fun f w_ => j19 = .nx () ∧ f 1 = .pointer (some ⟨g3, 0, none⟩) ∧ f 3 = .int .i64 (i_5 : Int) ∧ (RP.slice 3 RP.int).rel B w.heap.size w_ [v0_1] r_.vars ∧ (RP.slice 3 RP.int).rel B w.heap.size w_ [v0_2] r_.coefs ∧ (RP.slice 22 (RP.slice 3 RP.int)).rel B w.heap.size w_ [v0_4] r_.rows ∧ Blk w_ g3 68 #[.int .i64 r_.kind, v0_1, v0_2, .int .i64 r_.bound, v0_4] ∧ Ext w w_ := ⟨_, rfl⟩
              refine W_join R19 ?_ ?_
              ·
                refine W_block ?_
                obtain ⟨I19, hI19⟩ : ∃ I : Nat → Fr → World → Prop, I = fun n f w_ => ∃ i_18 : Nat, ∃ suf19 : Nat, suf19 = n ∧ 0 ≤ i_18 ∧ i_18 + suf19 = 0 + k20 ∧ countL (s_l6Table_b2 x_6) suf19 i_18 () = some j19 ∧ f 1 = .pointer (some ⟨g3, 0, none⟩) ∧ f 3 = .int .i64 (i_5 : Int) ∧ f 4 = .int .i64 (i_18 : Int) ∧ (RP.slice 3 RP.int).rel B w.heap.size w_ [v0_1] r_.vars ∧ (RP.slice 3 RP.int).rel B w.heap.size w_ [v0_2] r_.coefs ∧ (RP.slice 22 (RP.slice 3 RP.int)).rel B w.heap.size w_ [v0_4] r_.rows ∧ Blk w_ g3 68 #[.int .i64 r_.kind, v0_1, v0_2, .int .i64 r_.bound, v0_4] ∧ Ext w w_ := ⟨_, rfl⟩
                refine W_loop I19 (n := k20) ?_ ?_
                · rw [hI19]; exact ⟨0, k20, rfl, Nat.le_refl _, rfl, hL19, ((hS10 1 rfl).trans sf1), ((hS10 3 rfl).trans sf3), rfl, h0_1, h0_2, h0_4, hb_g3, hx⟩
                ·
                  intro n19 f w_ hI
                  rw [hI19] at hI
                  obtain ⟨i_18, suf19, rfl, hs19, hl19, hL19, sf1, sf3, sf4, h0_1, h0_2, h0_4, hb_g3, hx⟩ := hI
                  refine W_seq ?_
                  refine W_seq ?_
                  refine W_region ?_
                  refine L_mv (v := .int .i64 (i_18 : Int)) rfl sf4 ?_
                  refine L_fa (o' := 4) rfl fa_68_4 sf1 rfl ?_
                  refine L_ld (v := v0_4) rfl Try.isAgg66 rfl (hb_g3.cell (j := 4) rfl) ?_
                  refine L_mv (v := .int .i64 (i_5 : Int)) rfl sf3 ?_
                  refine L_ix (r := (RP.slice 3 RP.int)) rfl Try.underlying66 Try.sizeOf22 rfl h0_4 rfl hix6 ?_
                  intro g23 o24 cs24 hr24 hat24
                  obtain ⟨u24, rfl, hu24⟩ := slice1 hr24
                  refine L_ld (v := u24) rfl Try.isAgg22 rfl (hat24.cell (j := 0) rfl) ?_
                  refine L_len (v := u24) rfl Try.underlying22 rfl hu24 ?_
                  refine L_lss (m := (i_18 : Int)) (n := (x_6.length : Int)) rfl rfl rfl ?_
                  refine L_nil ?_
                  refine W_cond (b := decide ((i_18 : Int) < (x_6.length : Int))) rfl (fun hc25 => ?_) (fun hc25 => ?_)
                  ·
                    have hlt19 := of_decide_eq_true hc25
                    cases suf19 with
                    | zero => exact absurd hlt19 (cntF_no hl19 hk20)
                    | succ rest19 =>
                      obtain ⟨o19, hB19, hL19⟩ := count_succ hL19
                      rw [s_l6Table_b2] at hB19
                      refine W_skip ?_
                      refine W_seq ?_
                      refine W_block ?_
                      refine W_seq ?_
                      obtain ⟨x28, hx28, hB19⟩ := bind_some hB19
                      obtain ⟨R35, hR35⟩ : ∃ R : Fr → World → Prop, R = fun f w_ => f 1 = .pointer (some ⟨g3, 0, none⟩) ∧ f 3 = .int .i64 (i_5 : Int) ∧ f 4 = .int .i64 (i_18 : Int) ∧ f 51 = .bool ((decide (x28 < 0)) || (decide (x28 > 3))) ∧ (RP.slice 3 RP.int).rel B w.heap.size w_ [v0_1] r_.vars ∧ (RP.slice 3 RP.int).rel B w.heap.size w_ [v0_2] r_.coefs ∧ (RP.slice 22 (RP.slice 3 RP.int)).rel B w.heap.size w_ [v0_4] r_.rows ∧ Blk w_ g3 68 #[.int .i64 r_.kind, v0_1, v0_2, .int .i64 r_.bound, v0_4] ∧ Ext w w_ := ⟨_, rfl⟩
                      refine W_join R35 ?_ ?_
                      ·
                        refine W_region ?_
                        refine L_fa (o' := 4) rfl fa_68_4 sf1 rfl ?_
                        refine L_ld (v := v0_4) rfl Try.isAgg66 rfl (hb_g3.cell (j := 4) rfl) ?_
                        refine L_mv (v := .int .i64 (i_5 : Int)) rfl sf3 ?_
                        refine L_ix (r := (RP.slice 3 RP.int)) rfl Try.underlying66 Try.sizeOf22 rfl h0_4 rfl hix6 ?_
                        intro g36 o37 cs37 hr37 hat37
                        obtain ⟨u37, rfl, hu37⟩ := slice1 hr37
                        refine L_ld (v := u37) rfl Try.isAgg22 rfl (hat37.cell (j := 0) rfl) ?_
                        refine L_mv (v := .int .i64 (i_18 : Int)) rfl sf4 ?_
                        refine L_ix (r := RP.int) rfl Try.underlying22 Try.sizeOf3 rfl hu37 rfl hx28 ?_
                        intro g38 o39 cs39 hr39 hat39
                        obtain rfl : _ = [_] := hr39
                        refine L_ld (v := .int .i64 x28) rfl Try.isAgg3 rfl (hat39.cell (j := 0) rfl) ?_
                        refine L_lss (m := x28) (n := 0) rfl rfl rfl ?_
                        refine L_mv (v := .bool (decide (x28 < 0))) rfl rfl ?_
                        refine L_split (d := 41) (b := decide (x28 < 0)) rfl (fun hc40 => ?_) (fun hc40 => ?_)
                        ·
                          refine L_pass rfl ?_
                          refine L_pass rfl ?_
                          refine L_pass rfl ?_
                          refine L_pass rfl ?_
                          refine L_pass rfl ?_
                          refine L_pass rfl ?_
                          refine L_pass rfl ?_
                          refine L_pass rfl ?_
                          refine L_pass rfl ?_
                          refine L_pick (v := .bool ((decide (x28 < 0)) || (decide (x28 > 3)))) rfl rfl (or_t hc40) ?_
                          refine L_nil ?_
                          show R35 _ _
                          rw [hR35]
                          exact ⟨sf1, sf3, sf4, rfl, h0_1, h0_2, h0_4, hb_g3, hx⟩
                        ·
                          refine L_fa (o' := 4) rfl fa_68_4 sf1 rfl ?_
                          refine L_ld (v := v0_4) rfl Try.isAgg66 rfl (hb_g3.cell (j := 4) rfl) ?_
                          refine L_mv (v := .int .i64 (i_5 : Int)) rfl sf3 ?_
                          refine L_ix (r := (RP.slice 3 RP.int)) rfl Try.underlying66 Try.sizeOf22 rfl h0_4 rfl hix6 ?_
                          intro g41 o42 cs42 hr42 hat42
                          obtain ⟨u42, rfl, hu42⟩ := slice1 hr42
                          refine L_ld (v := u42) rfl Try.isAgg22 rfl (hat42.cell (j := 0) rfl) ?_
                          refine L_mv (v := .int .i64 (i_18 : Int)) rfl sf4 ?_
                          refine L_ix (r := RP.int) rfl Try.underlying22 Try.sizeOf3 rfl hu42 rfl hx28 ?_
                          intro g43 o44 cs44 hr44 hat44
                          obtain rfl : _ = [_] := hr44
                          refine L_ld (v := .int .i64 x28) rfl Try.isAgg3 rfl (hat44.cell (j := 0) rfl) ?_
                          refine L_gtr (m := x28) (n := 3) rfl rfl rfl ?_
                          refine L_pick (v := .bool ((decide (x28 < 0)) || (decide (x28 > 3)))) rfl rfl (or_f hc40 rfl) ?_
                          refine L_nil ?_
                          show R35 _ _
                          rw [hR35]
                          exact ⟨sf1, sf3, sf4, rfl, h0_1, h0_2, h0_4, hb_g3, hx⟩
                      ·
                        intro f w_ hR
                        rw [hR35] at hR
                        obtain ⟨sf1, sf3, sf4, sf51, h0_1, h0_2, h0_4, hb_g3, hx⟩ := hR
                        clear hR35
                        refine W_cond (b := ((decide (x28 < 0)) || (decide (x28 > 3)))) sf51 (fun hc45 => ?_) (fun hc45 => ?_)
                        ·
                          have hB19 := (ite_t hc45).symm.trans hB19
                          refine W_seq ?_
                          refine W_region ?_
                          refine L_as (v := .bool false) rfl rfl ?_
                          refine L_nil ?_
                          refine W_ret ?_
                          obtain rfl := so hB19
                          obtain rfl := so hL19
                          obtain rfl := so hB6
                          obtain rfl := so hL6
                          obtain rfl := so hF
                          refine ret1 Try.results81 ?_
                          exact ⟨rfl, hx⟩
                        ·
                          have hB19 := (ite_f hc45).symm.trans hB19
                          refine W_skip ?_
                          refine W_region ?_
                          refine L_mv (v := .int .i64 (i_18 : Int)) rfl sf4 ?_
                          refine L_add (m := (i_18 : Int)) (n := 1) rfl rfl rfl ?_
                          refine L_as (v := .int .i64 (i64 ((i_18 : Int) + 1))) rfl rfl ?_
                          refine L_nil ?_
                          obtain rfl := so hB19
                          show ∃ m, m < _ ∧ I19 m _ _
                          refine ⟨rest19, Nat.lt_succ_self _, ?_⟩
                          rw [hI19]
                          exact ⟨i_18 + 1, rest19, rfl, by omega, by omega, hL19, sf1, sf3, (Eq.trans rfl (congrArg (Value.int .i64) (i64_succ (n := 0 + k20) (by omega) (cntF_le hk20)))), h0_1, h0_2, h0_4, hb_g3, hx⟩
                  ·
                    cases suf19 with
                    | succ _ => exact absurd (cntF_yes hs19 hl19 hk20) (of_decide_eq_false hc25)
                    | zero =>
                      obtain rfl := count_zero hL19
                      refine W_exit ?_
                      show R19 _ _
                      rw [hR19]
                      exact ⟨rfl, sf1, sf3, h0_1, h0_2, h0_4, hb_g3, hx⟩
              ·
                intro f w_ hR
                rw [hR19] at hR
                obtain ⟨rfl, sf1, sf3, h0_1, h0_2, h0_4, hb_g3, hx⟩ := hR
                clear hR19
                refine W_region ?_
                refine L_mv (v := .int .i64 (i_5 : Int)) rfl sf3 ?_
                refine L_add (m := (i_5 : Int)) (n := 1) rfl rfl rfl ?_
                refine L_as (v := .int .i64 (i64 ((i_5 : Int) + 1))) rfl rfl ?_
                refine L_nil ?_
                obtain rfl := so hB6
                show ∃ m, m < _ ∧ I6 m _ _
                refine ⟨rest6.length, by simp, ?_⟩
                rw [hI6]
                exact ⟨i_5 + 1, rest6, rfl, drop_next hd6, by simp at hl6; omega, hL6, sf1, (Eq.trans rfl (congrArg (Value.int .i64) (i64_succ (n := r_.rows.length) (by simp at hl6; omega) hlen6))), h0_1, h0_2, h0_4, hb_g3, hx⟩
      ·
        cases suf6 with
        | cons _ _ => exact absurd (of_decide_eq_false hc7) (by simp at hl6; omega)
        | nil =>
          obtain rfl := range_nil hL6
          refine W_exit ?_
          show R6 _ _
          rw [hR6]
          exact ⟨rfl, sf1, h0_1, h0_2, h0_4, hb_g3, hx⟩
  ·
    intro f w_ hR
    rw [hR6] at hR
    obtain ⟨rfl, sf1, h0_1, h0_2, h0_4, hb_g3, hx⟩ := hR
    clear hR6
    refine W_seq ?_
    refine W_region ?_
    refine L_fa (o' := 4) rfl fa_68_4 sf1 rfl ?_
    refine L_ld (v := v0_4) rfl Try.isAgg66 rfl (hb_g3.cell (j := 4) rfl) ?_
    refine L_len (v := v0_4) rfl Try.underlying66 rfl h0_4 ?_
    refine L_leq (m := (r_.rows.length : Int)) (n := 8) rfl rfl rfl ?_
    refine L_as (v := .bool (decide ((r_.rows.length : Int) ≤ 8))) rfl rfl ?_
    refine L_nil ?_
    refine W_ret ?_
    obtain rfl := so hF
    refine ret1 Try.results81 ?_
    exact ⟨rfl, hx⟩

theorem s_l6Rule_c {m : Model} {r_ : Rule} {v0_0 : Value} {v0_1 : Value} {v1_1 : Value} {v1_2 : Value} {v1_4 : Value} {w : World} {B : Nat} (hB : B ≤ w.heap.size) (h0_0 : (RP.slice 3 RP.int).rel B w.heap.size w [v0_0] m.sizes) (h0_1 : (RP.slice 68 (rRule 3 22)).rel B w.heap.size w [v0_1] m.rules) (h1_1 : (RP.slice 3 RP.int).rel B w.heap.size w [v1_1] r_.vars) (h1_2 : (RP.slice 3 RP.int).rel B w.heap.size w [v1_2] r_.coefs) (h1_4 : (RP.slice 22 (RP.slice 3 RP.int)).rel B w.heap.size w [v1_4] r_.rows) {r : Bool} (hF : s_l6Rule m r_ = some r) :
    C Try.prog 66 #[.agg #[v0_0, v0_1], .agg #[.int .i64 r_.kind, v1_1, v1_2, .int .i64 r_.bound, v1_4]] w fun v w' => (v = .bool r) ∧ Ext w w' := by
  unfold s_l6Rule at hF
  have hx := ext_refl w
  refine C_enter Try.func66 rfl Try.ntmps66 rfl ?_
  refine W_seq ?_
  refine W_region ?_
  refine L_box (v := .agg #[v0_0, v0_1]) (cs := #[v0_0, v0_1]) rfl rfl rfl ?_
  intro g5 w6 hn6
  have hge_g5 := hn6.geS hx.size
  have hb_g5 := hn6.blk
  have h0_0 := RP.ext h0_0 hn6.ext
  have h0_1 := RP.ext h0_1 hn6.ext
  have h1_1 := RP.ext h1_1 hn6.ext
  have h1_2 := RP.ext h1_2 hn6.ext
  have h1_4 := RP.ext h1_4 hn6.ext
  have hx := ext_trans hx hn6.ext
  refine L_box (v := .agg #[.int .i64 r_.kind, v1_1, v1_2, .int .i64 r_.bound, v1_4]) (cs := #[.int .i64 r_.kind, v1_1, v1_2, .int .i64 r_.bound, v1_4]) rfl rfl rfl ?_
  intro g7 w8 hn8
  have hge_g7 := hn8.geS hx.size
  have hb_g7 := hn8.blk
  have h0_0 := RP.ext h0_0 hn8.ext
  have h0_1 := RP.ext h0_1 hn8.ext
  have h1_1 := RP.ext h1_1 hn8.ext
  have h1_2 := RP.ext h1_2 hn8.ext
  have h1_4 := RP.ext h1_4 hn8.ext
  have hb_g5 := Blk.ext hb_g5 hn8.ext
  have hx := ext_trans hx hn8.ext
  refine L_as (v := .bool false) rfl rfl ?_
  refine L_nil ?_
  refine W_seq ?_
  refine W_seq ?_
  obtain ⟨x9, hx9, hF⟩ := bind_some hF
  obtain ⟨R11, hR11⟩ : ∃ R : Fr → World → Prop, R = fun f w_ => f 3 = .pointer (some ⟨g7, 0, none⟩) ∧ f 36 = .bool (((!x9) || ((r_.kind != 1) && (((r_.coefs.length : Int) != 0) || (r_.bound != 0)))) || ((r_.kind != 3) && ((r_.rows.length : Int) != 0))) ∧ (RP.slice 3 RP.int).rel B w.heap.size w_ [v1_1] r_.vars ∧ (RP.slice 3 RP.int).rel B w.heap.size w_ [v1_2] r_.coefs ∧ (RP.slice 22 (RP.slice 3 RP.int)).rel B w.heap.size w_ [v1_4] r_.rows ∧ Blk w_ g7 68 #[.int .i64 r_.kind, v1_1, v1_2, .int .i64 r_.bound, v1_4] ∧ Ext w w_ := ⟨_, rfl⟩
  refine W_join R11 ?_ ?_
  ·
    refine W_region ?_
    refine L_lda (cs := [v0_0, v0_1]) rfl Try.isAgg30 Try.sizeOf30 rfl (Blk.sub hb_g5 0 2) rfl ?_
    refine L_fa (o' := 1) rfl fa_68_1 rfl rfl ?_
    refine L_ld (v := v1_1) rfl Try.isAgg22 rfl (hb_g7.cell (j := 1) rfl) ?_
    refine L_call (args := #[.agg #[v0_0, v0_1], v1_1]) rfl Try.call79 (ops2 rfl rfl) (s_l6Vars_c (m := m) (list := r_.vars) (Nat.le_trans hB hx.size) (rel0 h0_0) (rel0 h0_1) (rel0 h1_1) hx9) ?_
    rintro _ w12 ⟨rfl, he12⟩
    have h0_0 := RP.ext h0_0 he12
    have h0_1 := RP.ext h0_1 he12
    have h1_1 := RP.ext h1_1 he12
    have h1_2 := RP.ext h1_2 he12
    have h1_4 := RP.ext h1_4 he12
    have hb_g7 := Blk.ext hb_g7 he12
    have hx := ext_trans hx he12
    refine L_not_ (b := x9) rfl rfl ?_
    refine L_mv (v := .bool (!x9)) rfl rfl ?_
    refine L_split (d := 10) (b := (!x9)) rfl (fun hc13 => ?_) (fun hc13 => ?_)
    ·
      refine L_pass rfl ?_
      refine L_pass rfl ?_
      refine L_pass rfl ?_
      refine L_pass rfl ?_
      refine L_pass rfl ?_
      refine L_pass rfl ?_
      refine L_pass rfl ?_
      refine L_pass rfl ?_
      refine L_pass rfl ?_
      refine L_pass rfl ?_
      refine L_pass rfl ?_
      refine L_pass rfl ?_
      refine L_pass rfl ?_
      refine L_pass rfl ?_
      refine L_pick (v := .bool ((!x9) || ((r_.kind != 1) && (((r_.coefs.length : Int) != 0) || (r_.bound != 0))))) rfl rfl (or_t hc13) ?_
      refine L_mv (v := .bool ((!x9) || ((r_.kind != 1) && (((r_.coefs.length : Int) != 0) || (r_.bound != 0))))) rfl rfl ?_
      refine L_split (d := 26) (b := ((!x9) || ((r_.kind != 1) && (((r_.coefs.length : Int) != 0) || (r_.bound != 0))))) rfl (fun hc14 => ?_) (fun hc14 => ?_)
      ·
        refine L_pass rfl ?_
        refine L_pass rfl ?_
        refine L_pass rfl ?_
        refine L_pass rfl ?_
        refine L_pass rfl ?_
        refine L_pass rfl ?_
        refine L_pass rfl ?_
        refine L_pass rfl ?_
        refine L_pass rfl ?_
        refine L_pick (v := .bool (((!x9) || ((r_.kind != 1) && (((r_.coefs.length : Int) != 0) || (r_.bound != 0)))) || ((r_.kind != 3) && ((r_.rows.length : Int) != 0)))) rfl rfl (or_t hc14) ?_
        refine L_nil ?_
        show R11 _ _
        rw [hR11]
        exact ⟨rfl, rfl, h1_1, h1_2, h1_4, hb_g7, hx⟩
      ·
        refine L_fa (o' := 0) rfl fa_68_0 rfl rfl ?_
        refine L_ld (v := .int .i64 r_.kind) rfl Try.isAgg3 rfl (hb_g7.cell (j := 0) rfl) ?_
        refine L_neq (m := r_.kind) (n := 3) rfl rfl rfl ?_
        refine L_mv (v := .bool (r_.kind != 3)) rfl rfl ?_
        refine L_split (d := 30) (b := (r_.kind != 3)) rfl (fun hc15 => ?_) (fun hc15 => ?_)
        ·
          refine L_fa (o' := 4) rfl fa_68_4 rfl rfl ?_
          refine L_ld (v := v1_4) rfl Try.isAgg66 rfl (hb_g7.cell (j := 4) rfl) ?_
          refine L_len (v := v1_4) rfl Try.underlying66 rfl h1_4 ?_
          refine L_neq (m := (r_.rows.length : Int)) (n := 0) rfl rfl rfl ?_
          refine L_pick (v := .bool ((r_.kind != 3) && ((r_.rows.length : Int) != 0))) rfl rfl (and_t hc15 rfl) ?_
          refine L_pick (v := .bool (((!x9) || ((r_.kind != 1) && (((r_.coefs.length : Int) != 0) || (r_.bound != 0)))) || ((r_.kind != 3) && ((r_.rows.length : Int) != 0)))) rfl rfl (or_f hc14 rfl) ?_
          refine L_nil ?_
          show R11 _ _
          rw [hR11]
          exact ⟨rfl, rfl, h1_1, h1_2, h1_4, hb_g7, hx⟩
        ·
          refine L_pass rfl ?_
          refine L_pass rfl ?_
          refine L_pass rfl ?_
          refine L_pass rfl ?_
          refine L_pick (v := .bool ((r_.kind != 3) && ((r_.rows.length : Int) != 0))) rfl rfl (and_f hc15) ?_
          refine L_pick (v := .bool (((!x9) || ((r_.kind != 1) && (((r_.coefs.length : Int) != 0) || (r_.bound != 0)))) || ((r_.kind != 3) && ((r_.rows.length : Int) != 0)))) rfl rfl (or_f hc14 rfl) ?_
          refine L_nil ?_
          show R11 _ _
          rw [hR11]
          exact ⟨rfl, rfl, h1_1, h1_2, h1_4, hb_g7, hx⟩
    ·
      refine L_fa (o' := 0) rfl fa_68_0 rfl rfl ?_
      refine L_ld (v := .int .i64 r_.kind) rfl Try.isAgg3 rfl (hb_g7.cell (j := 0) rfl) ?_
      refine L_neq (m := r_.kind) (n := 1) rfl rfl rfl ?_
      refine L_mv (v := .bool (r_.kind != 1)) rfl rfl ?_
      refine L_split (d := 14) (b := (r_.kind != 1)) rfl (fun hc16 => ?_) (fun hc16 => ?_)
      ·
        refine L_fa (o' := 2) rfl fa_68_2 rfl rfl ?_
        refine L_ld (v := v1_2) rfl Try.isAgg22 rfl (hb_g7.cell (j := 2) rfl) ?_
        refine L_len (v := v1_2) rfl Try.underlying22 rfl h1_2 ?_
        refine L_neq (m := (r_.coefs.length : Int)) (n := 0) rfl rfl rfl ?_
        refine L_mv (v := .bool ((r_.coefs.length : Int) != 0)) rfl rfl ?_
        refine L_split (d := 19) (b := ((r_.coefs.length : Int) != 0)) rfl (fun hc17 => ?_) (fun hc17 => ?_)
        ·
          refine L_pass rfl ?_
          refine L_pass rfl ?_
          refine L_pass rfl ?_
          refine L_pick (v := .bool (((r_.coefs.length : Int) != 0) || (r_.bound != 0))) rfl rfl (or_t hc17) ?_
          refine L_pick (v := .bool ((r_.kind != 1) && (((r_.coefs.length : Int) != 0) || (r_.bound != 0)))) rfl rfl (and_t hc16 rfl) ?_
          refine L_pick (v := .bool ((!x9) || ((r_.kind != 1) && (((r_.coefs.length : Int) != 0) || (r_.bound != 0))))) rfl rfl (or_f hc13 rfl) ?_
          refine L_mv (v := .bool ((!x9) || ((r_.kind != 1) && (((r_.coefs.length : Int) != 0) || (r_.bound != 0))))) rfl rfl ?_
          refine L_split (d := 26) (b := ((!x9) || ((r_.kind != 1) && (((r_.coefs.length : Int) != 0) || (r_.bound != 0))))) rfl (fun hc18 => ?_) (fun hc18 => ?_)
          ·
            refine L_pass rfl ?_
            refine L_pass rfl ?_
            refine L_pass rfl ?_
            refine L_pass rfl ?_
            refine L_pass rfl ?_
            refine L_pass rfl ?_
            refine L_pass rfl ?_
            refine L_pass rfl ?_
            refine L_pass rfl ?_
            refine L_pick (v := .bool (((!x9) || ((r_.kind != 1) && (((r_.coefs.length : Int) != 0) || (r_.bound != 0)))) || ((r_.kind != 3) && ((r_.rows.length : Int) != 0)))) rfl rfl (or_t hc18) ?_
            refine L_nil ?_
            show R11 _ _
            rw [hR11]
            exact ⟨rfl, rfl, h1_1, h1_2, h1_4, hb_g7, hx⟩
          ·
            refine L_fa (o' := 0) rfl fa_68_0 rfl rfl ?_
            refine L_ld (v := .int .i64 r_.kind) rfl Try.isAgg3 rfl (hb_g7.cell (j := 0) rfl) ?_
            refine L_neq (m := r_.kind) (n := 3) rfl rfl rfl ?_
            refine L_mv (v := .bool (r_.kind != 3)) rfl rfl ?_
            refine L_split (d := 30) (b := (r_.kind != 3)) rfl (fun hc19 => ?_) (fun hc19 => ?_)
            ·
              refine L_fa (o' := 4) rfl fa_68_4 rfl rfl ?_
              refine L_ld (v := v1_4) rfl Try.isAgg66 rfl (hb_g7.cell (j := 4) rfl) ?_
              refine L_len (v := v1_4) rfl Try.underlying66 rfl h1_4 ?_
              refine L_neq (m := (r_.rows.length : Int)) (n := 0) rfl rfl rfl ?_
              refine L_pick (v := .bool ((r_.kind != 3) && ((r_.rows.length : Int) != 0))) rfl rfl (and_t hc19 rfl) ?_
              refine L_pick (v := .bool (((!x9) || ((r_.kind != 1) && (((r_.coefs.length : Int) != 0) || (r_.bound != 0)))) || ((r_.kind != 3) && ((r_.rows.length : Int) != 0)))) rfl rfl (or_f hc18 rfl) ?_
              refine L_nil ?_
              show R11 _ _
              rw [hR11]
              exact ⟨rfl, rfl, h1_1, h1_2, h1_4, hb_g7, hx⟩
            ·
              refine L_pass rfl ?_
              refine L_pass rfl ?_
              refine L_pass rfl ?_
              refine L_pass rfl ?_
              refine L_pick (v := .bool ((r_.kind != 3) && ((r_.rows.length : Int) != 0))) rfl rfl (and_f hc19) ?_
              refine L_pick (v := .bool (((!x9) || ((r_.kind != 1) && (((r_.coefs.length : Int) != 0) || (r_.bound != 0)))) || ((r_.kind != 3) && ((r_.rows.length : Int) != 0)))) rfl rfl (or_f hc18 rfl) ?_
              refine L_nil ?_
              show R11 _ _
              rw [hR11]
              exact ⟨rfl, rfl, h1_1, h1_2, h1_4, hb_g7, hx⟩
        ·
          refine L_fa (o' := 3) rfl fa_68_3 rfl rfl ?_
          refine L_ld (v := .int .i64 r_.bound) rfl Try.isAgg3 rfl (hb_g7.cell (j := 3) rfl) ?_
          refine L_neq (m := r_.bound) (n := 0) rfl rfl rfl ?_
          refine L_pick (v := .bool (((r_.coefs.length : Int) != 0) || (r_.bound != 0))) rfl rfl (or_f hc17 rfl) ?_
          refine L_pick (v := .bool ((r_.kind != 1) && (((r_.coefs.length : Int) != 0) || (r_.bound != 0)))) rfl rfl (and_t hc16 rfl) ?_
          refine L_pick (v := .bool ((!x9) || ((r_.kind != 1) && (((r_.coefs.length : Int) != 0) || (r_.bound != 0))))) rfl rfl (or_f hc13 rfl) ?_
          refine L_mv (v := .bool ((!x9) || ((r_.kind != 1) && (((r_.coefs.length : Int) != 0) || (r_.bound != 0))))) rfl rfl ?_
          refine L_split (d := 26) (b := ((!x9) || ((r_.kind != 1) && (((r_.coefs.length : Int) != 0) || (r_.bound != 0))))) rfl (fun hc20 => ?_) (fun hc20 => ?_)
          ·
            refine L_pass rfl ?_
            refine L_pass rfl ?_
            refine L_pass rfl ?_
            refine L_pass rfl ?_
            refine L_pass rfl ?_
            refine L_pass rfl ?_
            refine L_pass rfl ?_
            refine L_pass rfl ?_
            refine L_pass rfl ?_
            refine L_pick (v := .bool (((!x9) || ((r_.kind != 1) && (((r_.coefs.length : Int) != 0) || (r_.bound != 0)))) || ((r_.kind != 3) && ((r_.rows.length : Int) != 0)))) rfl rfl (or_t hc20) ?_
            refine L_nil ?_
            show R11 _ _
            rw [hR11]
            exact ⟨rfl, rfl, h1_1, h1_2, h1_4, hb_g7, hx⟩
          ·
            refine L_fa (o' := 0) rfl fa_68_0 rfl rfl ?_
            refine L_ld (v := .int .i64 r_.kind) rfl Try.isAgg3 rfl (hb_g7.cell (j := 0) rfl) ?_
            refine L_neq (m := r_.kind) (n := 3) rfl rfl rfl ?_
            refine L_mv (v := .bool (r_.kind != 3)) rfl rfl ?_
            refine L_split (d := 30) (b := (r_.kind != 3)) rfl (fun hc21 => ?_) (fun hc21 => ?_)
            ·
              refine L_fa (o' := 4) rfl fa_68_4 rfl rfl ?_
              refine L_ld (v := v1_4) rfl Try.isAgg66 rfl (hb_g7.cell (j := 4) rfl) ?_
              refine L_len (v := v1_4) rfl Try.underlying66 rfl h1_4 ?_
              refine L_neq (m := (r_.rows.length : Int)) (n := 0) rfl rfl rfl ?_
              refine L_pick (v := .bool ((r_.kind != 3) && ((r_.rows.length : Int) != 0))) rfl rfl (and_t hc21 rfl) ?_
              refine L_pick (v := .bool (((!x9) || ((r_.kind != 1) && (((r_.coefs.length : Int) != 0) || (r_.bound != 0)))) || ((r_.kind != 3) && ((r_.rows.length : Int) != 0)))) rfl rfl (or_f hc20 rfl) ?_
              refine L_nil ?_
              show R11 _ _
              rw [hR11]
              exact ⟨rfl, rfl, h1_1, h1_2, h1_4, hb_g7, hx⟩
            ·
              refine L_pass rfl ?_
              refine L_pass rfl ?_
              refine L_pass rfl ?_
              refine L_pass rfl ?_
              refine L_pick (v := .bool ((r_.kind != 3) && ((r_.rows.length : Int) != 0))) rfl rfl (and_f hc21) ?_
              refine L_pick (v := .bool (((!x9) || ((r_.kind != 1) && (((r_.coefs.length : Int) != 0) || (r_.bound != 0)))) || ((r_.kind != 3) && ((r_.rows.length : Int) != 0)))) rfl rfl (or_f hc20 rfl) ?_
              refine L_nil ?_
              show R11 _ _
              rw [hR11]
              exact ⟨rfl, rfl, h1_1, h1_2, h1_4, hb_g7, hx⟩
      ·
        refine L_pass rfl ?_
        refine L_pass rfl ?_
        refine L_pass rfl ?_
        refine L_pass rfl ?_
        refine L_pass rfl ?_
        refine L_pass rfl ?_
        refine L_pass rfl ?_
        refine L_pass rfl ?_
        refine L_pass rfl ?_
        refine L_pick (v := .bool ((r_.kind != 1) && (((r_.coefs.length : Int) != 0) || (r_.bound != 0)))) rfl rfl (and_f hc16) ?_
        refine L_pick (v := .bool ((!x9) || ((r_.kind != 1) && (((r_.coefs.length : Int) != 0) || (r_.bound != 0))))) rfl rfl (or_f hc13 rfl) ?_
        refine L_mv (v := .bool ((!x9) || ((r_.kind != 1) && (((r_.coefs.length : Int) != 0) || (r_.bound != 0))))) rfl rfl ?_
        refine L_split (d := 26) (b := ((!x9) || ((r_.kind != 1) && (((r_.coefs.length : Int) != 0) || (r_.bound != 0))))) rfl (fun hc22 => ?_) (fun hc22 => ?_)
        ·
          refine L_pass rfl ?_
          refine L_pass rfl ?_
          refine L_pass rfl ?_
          refine L_pass rfl ?_
          refine L_pass rfl ?_
          refine L_pass rfl ?_
          refine L_pass rfl ?_
          refine L_pass rfl ?_
          refine L_pass rfl ?_
          refine L_pick (v := .bool (((!x9) || ((r_.kind != 1) && (((r_.coefs.length : Int) != 0) || (r_.bound != 0)))) || ((r_.kind != 3) && ((r_.rows.length : Int) != 0)))) rfl rfl (or_t hc22) ?_
          refine L_nil ?_
          show R11 _ _
          rw [hR11]
          exact ⟨rfl, rfl, h1_1, h1_2, h1_4, hb_g7, hx⟩
        ·
          refine L_fa (o' := 0) rfl fa_68_0 rfl rfl ?_
          refine L_ld (v := .int .i64 r_.kind) rfl Try.isAgg3 rfl (hb_g7.cell (j := 0) rfl) ?_
          refine L_neq (m := r_.kind) (n := 3) rfl rfl rfl ?_
          refine L_mv (v := .bool (r_.kind != 3)) rfl rfl ?_
          refine L_split (d := 30) (b := (r_.kind != 3)) rfl (fun hc23 => ?_) (fun hc23 => ?_)
          ·
            refine L_fa (o' := 4) rfl fa_68_4 rfl rfl ?_
            refine L_ld (v := v1_4) rfl Try.isAgg66 rfl (hb_g7.cell (j := 4) rfl) ?_
            refine L_len (v := v1_4) rfl Try.underlying66 rfl h1_4 ?_
            refine L_neq (m := (r_.rows.length : Int)) (n := 0) rfl rfl rfl ?_
            refine L_pick (v := .bool ((r_.kind != 3) && ((r_.rows.length : Int) != 0))) rfl rfl (and_t hc23 rfl) ?_
            refine L_pick (v := .bool (((!x9) || ((r_.kind != 1) && (((r_.coefs.length : Int) != 0) || (r_.bound != 0)))) || ((r_.kind != 3) && ((r_.rows.length : Int) != 0)))) rfl rfl (or_f hc22 rfl) ?_
            refine L_nil ?_
            show R11 _ _
            rw [hR11]
            exact ⟨rfl, rfl, h1_1, h1_2, h1_4, hb_g7, hx⟩
          ·
            refine L_pass rfl ?_
            refine L_pass rfl ?_
            refine L_pass rfl ?_
            refine L_pass rfl ?_
            refine L_pick (v := .bool ((r_.kind != 3) && ((r_.rows.length : Int) != 0))) rfl rfl (and_f hc23) ?_
            refine L_pick (v := .bool (((!x9) || ((r_.kind != 1) && (((r_.coefs.length : Int) != 0) || (r_.bound != 0)))) || ((r_.kind != 3) && ((r_.rows.length : Int) != 0)))) rfl rfl (or_f hc22 rfl) ?_
            refine L_nil ?_
            show R11 _ _
            rw [hR11]
            exact ⟨rfl, rfl, h1_1, h1_2, h1_4, hb_g7, hx⟩
  ·
    intro f w_ hR
    rw [hR11] at hR
    obtain ⟨sf3, sf36, h1_1, h1_2, h1_4, hb_g7, hx⟩ := hR
    clear hR11
    refine W_cond (b := (((!x9) || ((r_.kind != 1) && (((r_.coefs.length : Int) != 0) || (r_.bound != 0)))) || ((r_.kind != 3) && ((r_.rows.length : Int) != 0)))) sf36 (fun hc24 => ?_) (fun hc24 => ?_)
    ·
      have hF := (ite_t hc24).symm.trans hF
      refine W_seq ?_
      refine W_region ?_
      refine L_as (v := .bool false) rfl rfl ?_
      refine L_nil ?_
      refine W_ret ?_
      obtain rfl := so hF
      refine ret1 Try.results66 ?_
      exact ⟨rfl, hx⟩
    ·
      have hF := (ite_f hc24).symm.trans hF
      refine W_skip ?_
      refine W_seq ?_
      refine W_seq ?_
      refine W_region ?_
      refine L_fa (o' := 0) rfl fa_68_0 sf3 rfl ?_
      refine L_ld (v := .int .i64 r_.kind) rfl Try.isAgg3 rfl (hb_g7.cell (j := 0) rfl) ?_
      refine L_nil ?_
      refine W_block ?_
      refine W_seq ?_
      refine W_region ?_
      refine L_eql (m := r_.kind) (n := 1) rfl rfl rfl ?_
      refine L_as (v := .bool (r_.kind == 1)) rfl rfl ?_
      refine L_nil ?_
      refine W_cond (b := (r_.kind == 1)) rfl (fun hc25 => ?_) (fun hc25 => ?_)
      ·
        have hF := (ite_t hc25).symm.trans hF
        refine W_seq ?_
        obtain ⟨x26, hx26, hF⟩ := bind_some hF
        refine W_region ?_
        refine L_lda (cs := [.int .i64 r_.kind, v1_1, v1_2, .int .i64 r_.bound, v1_4]) rfl Try.isAgg68 Try.sizeOf68 sf3 (Blk.sub hb_g7 0 5) rfl ?_
        refine L_call (args := #[.agg #[.int .i64 r_.kind, v1_1, v1_2, .int .i64 r_.bound, v1_4]]) rfl Try.call80 (ops1 rfl) (s_l6Linear_c (r_ := r_) (Nat.le_trans hB hx.size) (rel0 h1_1) (rel0 h1_2) (rel0 h1_4) hx26) ?_
        rintro _ w28 ⟨rfl, he28⟩
        have h1_1 := RP.ext h1_1 he28
        have h1_2 := RP.ext h1_2 he28
        have h1_4 := RP.ext h1_4 he28
        have hx := ext_trans hx he28
        refine L_as (v := .bool x26) rfl rfl ?_
        refine L_nil ?_
        refine W_ret ?_
        obtain rfl := so hF
        refine ret1 Try.results66 ?_
        exact ⟨rfl, hx⟩
      ·
        have hF := (ite_f hc25).symm.trans hF
        refine W_seq ?_
        refine W_region ?_
        refine L_eql (m := r_.kind) (n := 2) rfl rfl rfl ?_
        refine L_as (v := .bool (r_.kind == 2)) rfl rfl ?_
        refine L_nil ?_
        refine W_cond (b := (r_.kind == 2)) rfl (fun hc29 => ?_) (fun hc29 => ?_)
        ·
          have hF := (ite_t hc29).symm.trans hF
          refine W_seq ?_
          refine W_region ?_
          refine L_as (v := .bool true) rfl rfl ?_
          refine L_nil ?_
          refine W_ret ?_
          obtain rfl := so hF
          refine ret1 Try.results66 ?_
          exact ⟨rfl, hx⟩
        ·
          have hF := (ite_f hc29).symm.trans hF
          refine W_seq ?_
          refine W_region ?_
          refine L_eql (m := r_.kind) (n := 3) rfl rfl rfl ?_
          refine L_as (v := .bool (r_.kind == 3)) rfl rfl ?_
          refine L_nil ?_
          refine W_cond (b := (r_.kind == 3)) rfl (fun hc30 => ?_) (fun hc30 => ?_)
          ·
            have hF := (ite_t hc30).symm.trans hF
            refine W_seq ?_
            obtain ⟨x31, hx31, hF⟩ := bind_some hF
            refine W_region ?_
            refine L_lda (cs := [.int .i64 r_.kind, v1_1, v1_2, .int .i64 r_.bound, v1_4]) rfl Try.isAgg68 Try.sizeOf68 sf3 (Blk.sub hb_g7 0 5) rfl ?_
            refine L_call (args := #[.agg #[.int .i64 r_.kind, v1_1, v1_2, .int .i64 r_.bound, v1_4]]) rfl Try.call81 (ops1 rfl) (s_l6Table_c (r_ := r_) (Nat.le_trans hB hx.size) (rel0 h1_1) (rel0 h1_2) (rel0 h1_4) hx31) ?_
            rintro _ w33 ⟨rfl, he33⟩
            have h1_1 := RP.ext h1_1 he33
            have h1_2 := RP.ext h1_2 he33
            have h1_4 := RP.ext h1_4 he33
            have hx := ext_trans hx he33
            refine L_as (v := .bool x31) rfl rfl ?_
            refine L_nil ?_
            refine W_ret ?_
            obtain rfl := so hF
            refine ret1 Try.results66 ?_
            exact ⟨rfl, hx⟩
          ·
            have hF := (ite_f hc30).symm.trans hF
            refine W_seq ?_
            refine W_region ?_
            refine L_eql (m := r_.kind) (n := 4) rfl rfl rfl ?_
            refine L_as (v := .bool (r_.kind == 4)) rfl rfl ?_
            refine L_nil ?_
            refine W_cond (b := (r_.kind == 4)) rfl (fun hc34 => ?_) (fun hc34 => ?_)
            ·
              have hF := (ite_t hc34).symm.trans hF
              refine W_seq ?_
              refine W_region ?_
              refine L_fa (o' := 1) rfl fa_68_1 sf3 rfl ?_
              refine L_ld (v := v1_1) rfl Try.isAgg22 rfl (hb_g7.cell (j := 1) rfl) ?_
              refine L_len (v := v1_1) rfl Try.underlying22 rfl h1_1 ?_
              refine L_eql (m := (r_.vars.length : Int)) (n := 2) rfl rfl rfl ?_
              refine L_as (v := .bool ((r_.vars.length : Int) == 2)) rfl rfl ?_
              refine L_nil ?_
              refine W_ret ?_
              obtain rfl := so hF
              refine ret1 Try.results66 ?_
              exact ⟨rfl, hx⟩
            ·
              have hF := (ite_f hc34).symm.trans hF
              refine W_skip ?_
              refine W_seq ?_
              refine W_region ?_
              refine L_as (v := .bool false) rfl rfl ?_
              refine L_nil ?_
              refine W_ret ?_
              obtain rfl := so hF
              refine ret1 Try.results66 ?_
              exact ⟨rfl, hx⟩

theorem s_ModelValid_c {fu : Nat} {m : Model} {v0_0 : Value} {v0_1 : Value} {w : World} {B : Nat} (hB : B ≤ w.heap.size) (h0_0 : (RP.slice 3 RP.int).rel B w.heap.size w [v0_0] m.sizes) (h0_1 : (RP.slice 68 (rRule 3 22)).rel B w.heap.size w [v0_1] m.rules) {r : Bool} (hF : s_ModelValid fu m = some r) :
    C Try.prog 44 #[.agg #[v0_0, v0_1]] w fun v w' => (v = .bool r) ∧ Ext w w' := by
  unfold s_ModelValid at hF
  have hx := ext_refl w
  refine C_enter Try.func44 rfl Try.ntmps44 rfl ?_
  refine W_seq ?_
  refine W_region ?_
  refine L_box (v := .agg #[v0_0, v0_1]) (cs := #[v0_0, v0_1]) rfl rfl rfl ?_
  intro g3 w4 hn4
  have hge_g3 := hn4.geS hx.size
  have hb_g3 := hn4.blk
  have h0_0 := RP.ext h0_0 hn4.ext
  have h0_1 := RP.ext h0_1 hn4.ext
  have hx := ext_trans hx hn4.ext
  refine L_as (v := .bool false) rfl rfl ?_
  refine L_nil ?_
  refine W_seq ?_
  refine W_region ?_
  refine L_as (v := .int .i64 0) rfl rfl ?_
  refine L_nil ?_
  refine W_seq ?_
  refine W_seq ?_
  refine W_region ?_
  refine L_as (v := .int .i64 0) rfl rfl ?_
  refine L_nil ?_
  obtain ⟨j10, hL10, hF⟩ := bind_some hF
  obtain ⟨R10, hR10⟩ : ∃ R : Fr → World → Prop, R = fun f w_ => ∃ n_8 : Int, ∃ i_9 : Int, j10 = .nx (n_8, i_9) ∧ f 1 = .pointer (some ⟨g3, 0, none⟩) ∧ f 3 = .int .i64 n_8 ∧ (RP.slice 3 RP.int).rel B w.heap.size w_ [v0_0] m.sizes ∧ (RP.slice 68 (rRule 3 22)).rel B w.heap.size w_ [v0_1] m.rules ∧ Blk w_ g3 30 #[v0_0, v0_1] ∧ Ext w w_ := ⟨_, rfl⟩
  refine W_join R10 ?_ ?_
  ·
    refine W_block ?_
    obtain ⟨I10, hI10⟩ : ∃ I : Nat → Fr → World → Prop, I = fun n f w_ => ∃ n_8 : Int, ∃ i_9 : Int, whileL (s_ModelValid_b1 m) n (n_8, i_9) = some j10 ∧ f 1 = .pointer (some ⟨g3, 0, none⟩) ∧ f 3 = .int .i64 n_8 ∧ f 4 = .int .i64 i_9 ∧ (RP.slice 3 RP.int).rel B w.heap.size w_ [v0_0] m.sizes ∧ (RP.slice 68 (rRule 3 22)).rel B w.heap.size w_ [v0_1] m.rules ∧ Blk w_ g3 30 #[v0_0, v0_1] ∧ Ext w w_ := ⟨_, rfl⟩
    refine W_loop I10 (n := fu) ?_ ?_
    · rw [hI10]; exact ⟨0, 0, hL10, rfl, rfl, rfl, h0_0, h0_1, hb_g3, hx⟩
    ·
      intro n10 f w_ hI
      rw [hI10] at hI
      obtain ⟨n_8, i_9, hL10, sf1, sf3, sf4, h0_0, h0_1, hb_g3, hx⟩ := hI
      cases n10 with
      | zero => exact (while_zero hL10).elim
      | succ n10 =>
        obtain ⟨o10, hB10, hL10⟩ := while_succ hL10
        rw [s_ModelValid_b1] at hB10
        refine W_seq ?_
        refine W_seq ?_
        obtain ⟨R11, hR11⟩ : ∃ R : Fr → World → Prop, R = fun f w_ => f 1 = .pointer (some ⟨g3, 0, none⟩) ∧ f 3 = .int .i64 n_8 ∧ f 4 = .int .i64 i_9 ∧ f 14 = .bool ((decide (i_9 < (m.sizes.length : Int))) && (decide (i_9 < 5))) ∧ (RP.slice 3 RP.int).rel B w.heap.size w_ [v0_0] m.sizes ∧ (RP.slice 68 (rRule 3 22)).rel B w.heap.size w_ [v0_1] m.rules ∧ Blk w_ g3 30 #[v0_0, v0_1] ∧ Ext w w_ := ⟨_, rfl⟩
        refine W_join R11 ?_ ?_
        ·
          refine W_region ?_
          refine L_mv (v := .int .i64 i_9) rfl sf4 ?_
          refine L_fa (o' := 0) rfl fa_30_0 sf1 rfl ?_
          refine L_ld (v := v0_0) rfl Try.isAgg22 rfl (hb_g3.cell (j := 0) rfl) ?_
          refine L_len (v := v0_0) rfl Try.underlying22 rfl h0_0 ?_
          refine L_lss (m := i_9) (n := (m.sizes.length : Int)) rfl rfl rfl ?_
          refine L_mv (v := .bool (decide (i_9 < (m.sizes.length : Int)))) rfl rfl ?_
          refine L_split (d := 11) (b := decide (i_9 < (m.sizes.length : Int))) rfl (fun hc12 => ?_) (fun hc12 => ?_)
          ·
            refine L_mv (v := .int .i64 i_9) rfl sf4 ?_
            refine L_lss (m := i_9) (n := 5) rfl rfl rfl ?_
            refine L_pick (v := .bool ((decide (i_9 < (m.sizes.length : Int))) && (decide (i_9 < 5)))) rfl rfl (and_t hc12 rfl) ?_
            refine L_nil ?_
            show R11 _ _
            rw [hR11]
            exact ⟨sf1, sf3, sf4, rfl, h0_0, h0_1, hb_g3, hx⟩
          ·
            refine L_pass rfl ?_
            refine L_pass rfl ?_
            refine L_pick (v := .bool ((decide (i_9 < (m.sizes.length : Int))) && (decide (i_9 < 5)))) rfl rfl (and_f hc12) ?_
            refine L_nil ?_
            show R11 _ _
            rw [hR11]
            exact ⟨sf1, sf3, sf4, rfl, h0_0, h0_1, hb_g3, hx⟩
        ·
          intro f w_ hR
          rw [hR11] at hR
          obtain ⟨sf1, sf3, sf4, sf14, h0_0, h0_1, hb_g3, hx⟩ := hR
          clear hR11
          refine W_cond (b := ((decide (i_9 < (m.sizes.length : Int))) && (decide (i_9 < 5)))) sf14 (fun hc13 => ?_) (fun hc13 => ?_)
          ·
            have hB10 := (ite_t hc13).symm.trans hB10
            refine W_skip ?_
            refine W_seq ?_
            refine W_block ?_
            refine W_seq ?_
            refine W_seq ?_
            obtain ⟨x14, hx14, hB10⟩ := bind_some hB10
            obtain ⟨R19, hR19⟩ : ∃ R : Fr → World → Prop, R = fun f w_ => f 1 = .pointer (some ⟨g3, 0, none⟩) ∧ f 3 = .int .i64 n_8 ∧ f 4 = .int .i64 i_9 ∧ f 30 = .bool ((decide (x14 < 0)) || (decide (x14 > 3))) ∧ (RP.slice 3 RP.int).rel B w.heap.size w_ [v0_0] m.sizes ∧ (RP.slice 68 (rRule 3 22)).rel B w.heap.size w_ [v0_1] m.rules ∧ Blk w_ g3 30 #[v0_0, v0_1] ∧ Ext w w_ := ⟨_, rfl⟩
            refine W_join R19 ?_ ?_
            ·
              refine W_region ?_
              refine L_fa (o' := 0) rfl fa_30_0 sf1 rfl ?_
              refine L_ld (v := v0_0) rfl Try.isAgg22 rfl (hb_g3.cell (j := 0) rfl) ?_
              refine L_mv (v := .int .i64 i_9) rfl sf4 ?_
              refine L_ix (r := RP.int) rfl Try.underlying22 Try.sizeOf3 rfl h0_0 rfl hx14 ?_
              intro g20 o21 cs21 hr21 hat21
              obtain rfl : _ = [_] := hr21
              refine L_ld (v := .int .i64 x14) rfl Try.isAgg3 rfl (hat21.cell (j := 0) rfl) ?_
              refine L_lss (m := x14) (n := 0) rfl rfl rfl ?_
              refine L_mv (v := .bool (decide (x14 < 0))) rfl rfl ?_
              refine L_split (d := 23) (b := decide (x14 < 0)) rfl (fun hc22 => ?_) (fun hc22 => ?_)
              ·
                refine L_pass rfl ?_
                refine L_pass rfl ?_
                refine L_pass rfl ?_
                refine L_pass rfl ?_
                refine L_pass rfl ?_
                refine L_pass rfl ?_
                refine L_pick (v := .bool ((decide (x14 < 0)) || (decide (x14 > 3)))) rfl rfl (or_t hc22) ?_
                refine L_nil ?_
                show R19 _ _
                rw [hR19]
                exact ⟨sf1, sf3, sf4, rfl, h0_0, h0_1, hb_g3, hx⟩
              ·
                refine L_fa (o' := 0) rfl fa_30_0 sf1 rfl ?_
                refine L_ld (v := v0_0) rfl Try.isAgg22 rfl (hb_g3.cell (j := 0) rfl) ?_
                refine L_mv (v := .int .i64 i_9) rfl sf4 ?_
                refine L_ix (r := RP.int) rfl Try.underlying22 Try.sizeOf3 rfl h0_0 rfl hx14 ?_
                intro g23 o24 cs24 hr24 hat24
                obtain rfl : _ = [_] := hr24
                refine L_ld (v := .int .i64 x14) rfl Try.isAgg3 rfl (hat24.cell (j := 0) rfl) ?_
                refine L_gtr (m := x14) (n := 3) rfl rfl rfl ?_
                refine L_pick (v := .bool ((decide (x14 < 0)) || (decide (x14 > 3)))) rfl rfl (or_f hc22 rfl) ?_
                refine L_nil ?_
                show R19 _ _
                rw [hR19]
                exact ⟨sf1, sf3, sf4, rfl, h0_0, h0_1, hb_g3, hx⟩
            ·
              intro f w_ hR
              rw [hR19] at hR
              obtain ⟨sf1, sf3, sf4, sf30, h0_0, h0_1, hb_g3, hx⟩ := hR
              clear hR19
              refine W_cond (b := ((decide (x14 < 0)) || (decide (x14 > 3)))) sf30 (fun hc25 => ?_) (fun hc25 => ?_)
              ·
                have hB10 := (ite_t hc25).symm.trans hB10
                refine W_seq ?_
                refine W_region ?_
                refine L_as (v := .bool false) rfl rfl ?_
                refine L_nil ?_
                refine W_ret ?_
                obtain rfl := so hB10
                obtain rfl := so hL10
                obtain rfl := so hF
                refine ret1 Try.results44 ?_
                exact ⟨rfl, hx⟩
              ·
                have hB10 := (ite_f hc25).symm.trans hB10
                refine W_skip ?_
                refine W_region ?_
                refine L_mv (v := .int .i64 n_8) rfl sf3 ?_
                refine L_fa (o' := 0) rfl fa_30_0 sf1 rfl ?_
                refine L_ld (v := v0_0) rfl Try.isAgg22 rfl (hb_g3.cell (j := 0) rfl) ?_
                refine L_mv (v := .int .i64 i_9) rfl sf4 ?_
                refine L_ix (r := RP.int) rfl Try.underlying22 Try.sizeOf3 rfl h0_0 rfl hx14 ?_
                intro g28 o29 cs29 hr29 hat29
                obtain rfl : _ = [_] := hr29
                refine L_ld (v := .int .i64 x14) rfl Try.isAgg3 rfl (hat29.cell (j := 0) rfl) ?_
                refine L_add (m := n_8) (n := x14) rfl rfl rfl ?_
                refine L_add (m := i64 (n_8 + x14)) (n := 1) rfl rfl rfl ?_
                refine L_as (v := .int .i64 (i64 ((i64 (n_8 + x14)) + 1))) rfl rfl ?_
                refine L_nil ?_
                refine W_region ?_
                refine L_mv (v := .int .i64 i_9) rfl sf4 ?_
                refine L_add (m := i_9) (n := 1) rfl rfl rfl ?_
                refine L_as (v := .int .i64 (i64 (i_9 + 1))) rfl rfl ?_
                refine L_nil ?_
                obtain rfl := so hB10
                show ∃ m, m < _ ∧ I10 m _ _
                refine ⟨n10, Nat.lt_succ_self _, ?_⟩
                rw [hI10]
                exact ⟨i64 ((i64 (n_8 + x14)) + 1), i64 (i_9 + 1), hL10, sf1, rfl, rfl, h0_0, h0_1, hb_g3, hx⟩
          ·
            have hB10 := (ite_f hc13).symm.trans hB10
            refine W_exit ?_
            obtain rfl := so hB10
            obtain rfl := so hL10
            show R10 _ _
            rw [hR10]
            exact ⟨n_8, i_9, rfl, sf1, sf3, h0_0, h0_1, hb_g3, hx⟩
  ·
    intro f w_ hR
    rw [hR10] at hR
    obtain ⟨n_8, i_9, rfl, sf1, sf3, h0_0, h0_1, hb_g3, hx⟩ := hR
    clear hR10
    refine W_seq ?_
    refine W_seq ?_
    obtain ⟨R30, hR30⟩ : ∃ R : Fr → World → Prop, R = fun f w_ => f 1 = .pointer (some ⟨g3, 0, none⟩) ∧ f 58 = .bool ((((decide ((m.sizes.length : Int) < 1)) || (decide ((m.sizes.length : Int) > 5))) || (decide (n_8 > 12))) || (decide ((m.rules.length : Int) > 8))) ∧ (RP.slice 3 RP.int).rel B w.heap.size w_ [v0_0] m.sizes ∧ (RP.slice 68 (rRule 3 22)).rel B w.heap.size w_ [v0_1] m.rules ∧ Blk w_ g3 30 #[v0_0, v0_1] ∧ Ext w w_ := ⟨_, rfl⟩
    refine W_join R30 ?_ ?_
    ·
      refine W_region ?_
      refine L_fa (o' := 0) rfl fa_30_0 sf1 rfl ?_
      refine L_ld (v := v0_0) rfl Try.isAgg22 rfl (hb_g3.cell (j := 0) rfl) ?_
      refine L_len (v := v0_0) rfl Try.underlying22 rfl h0_0 ?_
      refine L_lss (m := (m.sizes.length : Int)) (n := 1) rfl rfl rfl ?_
      refine L_mv (v := .bool (decide ((m.sizes.length : Int) < 1))) rfl rfl ?_
      refine L_split (d := 43) (b := decide ((m.sizes.length : Int) < 1)) rfl (fun hc31 => ?_) (fun hc31 => ?_)
      ·
        refine L_pass rfl ?_
        refine L_pass rfl ?_
        refine L_pass rfl ?_
        refine L_pass rfl ?_
        refine L_pick (v := .bool ((decide ((m.sizes.length : Int) < 1)) || (decide ((m.sizes.length : Int) > 5)))) rfl rfl (or_t hc31) ?_
        refine L_mv (v := .bool ((decide ((m.sizes.length : Int) < 1)) || (decide ((m.sizes.length : Int) > 5)))) rfl rfl ?_
        refine L_split (d := 49) (b := ((decide ((m.sizes.length : Int) < 1)) || (decide ((m.sizes.length : Int) > 5)))) rfl (fun hc32 => ?_) (fun hc32 => ?_)
        ·
          refine L_pass rfl ?_
          refine L_pass rfl ?_
          refine L_pick (v := .bool (((decide ((m.sizes.length : Int) < 1)) || (decide ((m.sizes.length : Int) > 5))) || (decide (n_8 > 12)))) rfl rfl (or_t hc32) ?_
          refine L_mv (v := .bool (((decide ((m.sizes.length : Int) < 1)) || (decide ((m.sizes.length : Int) > 5))) || (decide (n_8 > 12)))) rfl rfl ?_
          refine L_split (d := 53) (b := (((decide ((m.sizes.length : Int) < 1)) || (decide ((m.sizes.length : Int) > 5))) || (decide (n_8 > 12)))) rfl (fun hc33 => ?_) (fun hc33 => ?_)
          ·
            refine L_pass rfl ?_
            refine L_pass rfl ?_
            refine L_pass rfl ?_
            refine L_pass rfl ?_
            refine L_pick (v := .bool ((((decide ((m.sizes.length : Int) < 1)) || (decide ((m.sizes.length : Int) > 5))) || (decide (n_8 > 12))) || (decide ((m.rules.length : Int) > 8)))) rfl rfl (or_t hc33) ?_
            refine L_nil ?_
            show R30 _ _
            rw [hR30]
            exact ⟨sf1, rfl, h0_0, h0_1, hb_g3, hx⟩
          ·
            refine L_fa (o' := 1) rfl fa_30_1 sf1 rfl ?_
            refine L_ld (v := v0_1) rfl Try.isAgg28 rfl (hb_g3.cell (j := 1) rfl) ?_
            refine L_len (v := v0_1) rfl Try.underlying28 rfl h0_1 ?_
            refine L_gtr (m := (m.rules.length : Int)) (n := 8) rfl rfl rfl ?_
            refine L_pick (v := .bool ((((decide ((m.sizes.length : Int) < 1)) || (decide ((m.sizes.length : Int) > 5))) || (decide (n_8 > 12))) || (decide ((m.rules.length : Int) > 8)))) rfl rfl (or_f hc33 rfl) ?_
            refine L_nil ?_
            show R30 _ _
            rw [hR30]
            exact ⟨sf1, rfl, h0_0, h0_1, hb_g3, hx⟩
        ·
          refine L_mv (v := .int .i64 n_8) rfl sf3 ?_
          refine L_gtr (m := n_8) (n := 12) rfl rfl rfl ?_
          refine L_pick (v := .bool (((decide ((m.sizes.length : Int) < 1)) || (decide ((m.sizes.length : Int) > 5))) || (decide (n_8 > 12)))) rfl rfl (or_f hc32 rfl) ?_
          refine L_mv (v := .bool (((decide ((m.sizes.length : Int) < 1)) || (decide ((m.sizes.length : Int) > 5))) || (decide (n_8 > 12)))) rfl rfl ?_
          refine L_split (d := 53) (b := (((decide ((m.sizes.length : Int) < 1)) || (decide ((m.sizes.length : Int) > 5))) || (decide (n_8 > 12)))) rfl (fun hc34 => ?_) (fun hc34 => ?_)
          ·
            refine L_pass rfl ?_
            refine L_pass rfl ?_
            refine L_pass rfl ?_
            refine L_pass rfl ?_
            refine L_pick (v := .bool ((((decide ((m.sizes.length : Int) < 1)) || (decide ((m.sizes.length : Int) > 5))) || (decide (n_8 > 12))) || (decide ((m.rules.length : Int) > 8)))) rfl rfl (or_t hc34) ?_
            refine L_nil ?_
            show R30 _ _
            rw [hR30]
            exact ⟨sf1, rfl, h0_0, h0_1, hb_g3, hx⟩
          ·
            refine L_fa (o' := 1) rfl fa_30_1 sf1 rfl ?_
            refine L_ld (v := v0_1) rfl Try.isAgg28 rfl (hb_g3.cell (j := 1) rfl) ?_
            refine L_len (v := v0_1) rfl Try.underlying28 rfl h0_1 ?_
            refine L_gtr (m := (m.rules.length : Int)) (n := 8) rfl rfl rfl ?_
            refine L_pick (v := .bool ((((decide ((m.sizes.length : Int) < 1)) || (decide ((m.sizes.length : Int) > 5))) || (decide (n_8 > 12))) || (decide ((m.rules.length : Int) > 8)))) rfl rfl (or_f hc34 rfl) ?_
            refine L_nil ?_
            show R30 _ _
            rw [hR30]
            exact ⟨sf1, rfl, h0_0, h0_1, hb_g3, hx⟩
      ·
        refine L_fa (o' := 0) rfl fa_30_0 sf1 rfl ?_
        refine L_ld (v := v0_0) rfl Try.isAgg22 rfl (hb_g3.cell (j := 0) rfl) ?_
        refine L_len (v := v0_0) rfl Try.underlying22 rfl h0_0 ?_
        refine L_gtr (m := (m.sizes.length : Int)) (n := 5) rfl rfl rfl ?_
        refine L_pick (v := .bool ((decide ((m.sizes.length : Int) < 1)) || (decide ((m.sizes.length : Int) > 5)))) rfl rfl (or_f hc31 rfl) ?_
        refine L_mv (v := .bool ((decide ((m.sizes.length : Int) < 1)) || (decide ((m.sizes.length : Int) > 5)))) rfl rfl ?_
        refine L_split (d := 49) (b := ((decide ((m.sizes.length : Int) < 1)) || (decide ((m.sizes.length : Int) > 5)))) rfl (fun hc35 => ?_) (fun hc35 => ?_)
        ·
          refine L_pass rfl ?_
          refine L_pass rfl ?_
          refine L_pick (v := .bool (((decide ((m.sizes.length : Int) < 1)) || (decide ((m.sizes.length : Int) > 5))) || (decide (n_8 > 12)))) rfl rfl (or_t hc35) ?_
          refine L_mv (v := .bool (((decide ((m.sizes.length : Int) < 1)) || (decide ((m.sizes.length : Int) > 5))) || (decide (n_8 > 12)))) rfl rfl ?_
          refine L_split (d := 53) (b := (((decide ((m.sizes.length : Int) < 1)) || (decide ((m.sizes.length : Int) > 5))) || (decide (n_8 > 12)))) rfl (fun hc36 => ?_) (fun hc36 => ?_)
          ·
            refine L_pass rfl ?_
            refine L_pass rfl ?_
            refine L_pass rfl ?_
            refine L_pass rfl ?_
            refine L_pick (v := .bool ((((decide ((m.sizes.length : Int) < 1)) || (decide ((m.sizes.length : Int) > 5))) || (decide (n_8 > 12))) || (decide ((m.rules.length : Int) > 8)))) rfl rfl (or_t hc36) ?_
            refine L_nil ?_
            show R30 _ _
            rw [hR30]
            exact ⟨sf1, rfl, h0_0, h0_1, hb_g3, hx⟩
          ·
            refine L_fa (o' := 1) rfl fa_30_1 sf1 rfl ?_
            refine L_ld (v := v0_1) rfl Try.isAgg28 rfl (hb_g3.cell (j := 1) rfl) ?_
            refine L_len (v := v0_1) rfl Try.underlying28 rfl h0_1 ?_
            refine L_gtr (m := (m.rules.length : Int)) (n := 8) rfl rfl rfl ?_
            refine L_pick (v := .bool ((((decide ((m.sizes.length : Int) < 1)) || (decide ((m.sizes.length : Int) > 5))) || (decide (n_8 > 12))) || (decide ((m.rules.length : Int) > 8)))) rfl rfl (or_f hc36 rfl) ?_
            refine L_nil ?_
            show R30 _ _
            rw [hR30]
            exact ⟨sf1, rfl, h0_0, h0_1, hb_g3, hx⟩
        ·
          refine L_mv (v := .int .i64 n_8) rfl sf3 ?_
          refine L_gtr (m := n_8) (n := 12) rfl rfl rfl ?_
          refine L_pick (v := .bool (((decide ((m.sizes.length : Int) < 1)) || (decide ((m.sizes.length : Int) > 5))) || (decide (n_8 > 12)))) rfl rfl (or_f hc35 rfl) ?_
          refine L_mv (v := .bool (((decide ((m.sizes.length : Int) < 1)) || (decide ((m.sizes.length : Int) > 5))) || (decide (n_8 > 12)))) rfl rfl ?_
          refine L_split (d := 53) (b := (((decide ((m.sizes.length : Int) < 1)) || (decide ((m.sizes.length : Int) > 5))) || (decide (n_8 > 12)))) rfl (fun hc37 => ?_) (fun hc37 => ?_)
          ·
            refine L_pass rfl ?_
            refine L_pass rfl ?_
            refine L_pass rfl ?_
            refine L_pass rfl ?_
            refine L_pick (v := .bool ((((decide ((m.sizes.length : Int) < 1)) || (decide ((m.sizes.length : Int) > 5))) || (decide (n_8 > 12))) || (decide ((m.rules.length : Int) > 8)))) rfl rfl (or_t hc37) ?_
            refine L_nil ?_
            show R30 _ _
            rw [hR30]
            exact ⟨sf1, rfl, h0_0, h0_1, hb_g3, hx⟩
          ·
            refine L_fa (o' := 1) rfl fa_30_1 sf1 rfl ?_
            refine L_ld (v := v0_1) rfl Try.isAgg28 rfl (hb_g3.cell (j := 1) rfl) ?_
            refine L_len (v := v0_1) rfl Try.underlying28 rfl h0_1 ?_
            refine L_gtr (m := (m.rules.length : Int)) (n := 8) rfl rfl rfl ?_
            refine L_pick (v := .bool ((((decide ((m.sizes.length : Int) < 1)) || (decide ((m.sizes.length : Int) > 5))) || (decide (n_8 > 12))) || (decide ((m.rules.length : Int) > 8)))) rfl rfl (or_f hc37 rfl) ?_
            refine L_nil ?_
            show R30 _ _
            rw [hR30]
            exact ⟨sf1, rfl, h0_0, h0_1, hb_g3, hx⟩
    ·
      intro f w_ hR
      rw [hR30] at hR
      obtain ⟨sf1, sf58, h0_0, h0_1, hb_g3, hx⟩ := hR
      clear hR30
      refine W_cond (b := ((((decide ((m.sizes.length : Int) < 1)) || (decide ((m.sizes.length : Int) > 5))) || (decide (n_8 > 12))) || (decide ((m.rules.length : Int) > 8)))) sf58 (fun hc38 => ?_) (fun hc38 => ?_)
      ·
        have hF := (ite_t hc38).symm.trans hF
        refine W_seq ?_
        refine W_region ?_
        refine L_as (v := .bool false) rfl rfl ?_
        refine L_nil ?_
        refine W_ret ?_
        obtain rfl := so hF
        refine ret1 Try.results44 ?_
        exact ⟨rfl, hx⟩
      ·
        have hF := (ite_f hc38).symm.trans hF
        refine W_skip ?_
        refine W_seq ?_
        refine W_seq ?_
        refine W_region ?_
        refine L_as (v := .int .i64 0) rfl rfl ?_
        refine L_nil ?_
        have hlen40 := len_le h0_1
        obtain ⟨j40, hL40, hF⟩ := bind_some hF
        obtain ⟨R40, hR40⟩ : ∃ R : Fr → World → Prop, R = fun f w_ => j40 = .nx () ∧ Ext w w_ := ⟨_, rfl⟩
        refine W_join R40 ?_ ?_
        ·
          refine W_block ?_
          obtain ⟨I40, hI40⟩ : ∃ I : Nat → Fr → World → Prop, I = fun n f w_ => ∃ i_39 : Nat, ∃ suf40 : List Rule, n = suf40.length ∧ List.drop i_39 m.rules = suf40 ∧ i_39 + suf40.length = m.rules.length ∧ rangeL (s_ModelValid_b2 m) suf40 i_39 () = some j40 ∧ f 1 = .pointer (some ⟨g3, 0, none⟩) ∧ f 5 = .int .i64 (i_39 : Int) ∧ (RP.slice 3 RP.int).rel B w.heap.size w_ [v0_0] m.sizes ∧ (RP.slice 68 (rRule 3 22)).rel B w.heap.size w_ [v0_1] m.rules ∧ Blk w_ g3 30 #[v0_0, v0_1] ∧ Ext w w_ := ⟨_, rfl⟩
          refine W_loop I40 (n := m.rules.length) ?_ ?_
          · rw [hI40]; exact ⟨0, m.rules, rfl, rfl, Nat.zero_add _, hL40, sf1, rfl, h0_0, h0_1, hb_g3, hx⟩
          ·
            intro n40 f w_ hI
            rw [hI40] at hI
            obtain ⟨i_39, suf40, rfl, hd40, hl40, hL40, sf1, sf5, h0_0, h0_1, hb_g3, hx⟩ := hI
            refine W_seq ?_
            refine W_seq ?_
            refine W_region ?_
            refine L_mv (v := .int .i64 (i_39 : Int)) rfl sf5 ?_
            refine L_fa (o' := 1) rfl fa_30_1 sf1 rfl ?_
            refine L_ld (v := v0_1) rfl Try.isAgg28 rfl (hb_g3.cell (j := 1) rfl) ?_
            refine L_len (v := v0_1) rfl Try.underlying28 rfl h0_1 ?_
            refine L_lss (m := (i_39 : Int)) (n := (m.rules.length : Int)) rfl rfl rfl ?_
            refine L_nil ?_
            refine W_cond (b := decide ((i_39 : Int) < (m.rules.length : Int))) rfl (fun hc41 => ?_) (fun hc41 => ?_)
            ·
              have hlt40 := of_decide_eq_true hc41
              cases suf40 with
              | nil => exact absurd hlt40 (by simp at hl40; omega)
              | cons x_40 rest40 =>
                obtain ⟨o40, hB40, hL40⟩ := range_cons hL40
                rw [s_ModelValid_b2] at hB40
                have hix40 := drop_idx hd40
                refine W_skip ?_
                refine W_seq ?_
                refine W_block ?_
                refine W_seq ?_
                obtain ⟨x44, hx44, hB40⟩ := bind_some hB40
                refine W_drawL 6 [isV (.agg #[v0_0, v0_1]), isV (.pointer (some ⟨g3, 1, none⟩)), isV (v0_1), isV (.int .i64 (i_39 : Int)), isEl B (rRule 3 22) x_40 0, exD (isData B (RP.slice 3 RP.int) x_40.vars) fun u_1 => exD (isData B (RP.slice 3 RP.int) x_40.coefs) fun u_2 => exD (isData B (RP.slice 22 (RP.slice 3 RP.int)) x_40.rows) fun u_4 => isV (.agg #[.int .i64 x_40.kind, u_1, u_2, .int .i64 x_40.bound, u_4])] Try_mix (by kernel_rfl) (am_cons (mono_V _) (am_cons (mono_V _) (am_cons (mono_V _) (am_cons (mono_V _) (am_cons (mono_el _ _ _ _) (am_cons (mono_exD (mono_data _ _ _) fun _ => mono_exD (mono_data _ _ _) fun _ => mono_exD (mono_data _ _ _) fun _ => mono_V _) am_nil)))))) ?_ (fun f w_ hS46 hE46 hT46 => ?_)
                ·
                  refine ops_cons (fun f w_ hS46 hE46 hP46 => ?_) ?_
                  ·
                    have hx := ext_trans hx hE46
                    have h0_0 := RP.ext h0_0 hE46
                    have h0_1 := RP.ext h0_1 hE46
                    have hb_g3 := Blk.ext hb_g3 hE46
                    refine L_lda (cs := [v0_0, v0_1]) rfl Try.isAgg30 Try.sizeOf30 ((hS46 1 rfl).trans sf1) (Blk.sub hb_g3 0 2) rfl ?_
                    exact L_nil ⟨rfl, (ext_refl _), _, _, rfl, rfl, rfl⟩
                  refine ops_cons (fun f w_ hS46 hE46 hP46 => ?_) ?_
                  ·
                    have hx := ext_trans hx hE46
                    have h0_0 := RP.ext h0_0 hE46
                    have h0_1 := RP.ext h0_1 hE46
                    have hb_g3 := Blk.ext hb_g3 hE46
                    refine L_fa (o' := 1) rfl fa_30_1 ((hS46 1 rfl).trans sf1) rfl ?_
                    exact L_nil ⟨rfl, (ext_refl _), _, _, rfl, rfl, rfl⟩
                  refine ops_cons (fun f w_ hS46 hE46 hP46 => ?_) ?_
                  ·
                    have hx := ext_trans hx hE46
                    have h0_0 := RP.ext h0_0 hE46
                    have h0_1 := RP.ext h0_1 hE46
                    have hb_g3 := Blk.ext hb_g3 hE46
                    refine L_ld (v := v0_1) rfl Try.isAgg28 (hP46 1 67 rfl rfl) (hb_g3.cell (j := 1) rfl) ?_
                    exact L_nil ⟨rfl, (ext_refl _), _, _, rfl, rfl, rfl⟩
                  refine ops_cons (fun f w_ hS46 hE46 hP46 => ?_) ?_
                  ·
                    have hx := ext_trans hx hE46
                    refine L_mv (v := .int .i64 (i_39 : Int)) rfl ((hS46 5 rfl).trans sf5) ?_
                    exact L_nil ⟨rfl, (ext_refl _), _, _, rfl, rfl, rfl⟩
                  refine ops_cons (fun f w_ hS46 hE46 hP46 => ?_) ?_
                  ·
                    have hx := ext_trans hx hE46
                    have h0_1 := RP.ext h0_1 hE46
                    refine L_ix (r := (rRule 3 22)) rfl Try.underlying28 Try.sizeOf68 (hP46 2 68 rfl rfl) h0_1 (hP46 3 69 rfl rfl) hix40 ?_
                    intro g49 o50 cs50 hr50 hat50
                    obtain ⟨u50_0, u50_1, u50_2, rfl, hu50_0, hu50_1, hu50_2⟩ := rRule_iff.1 hr50
                    exact L_nil ⟨rfl, (ext_refl _), _, _, rfl, rfl, ⟨_, _, _, rfl, (rel0 hr50), hat50⟩⟩
                  refine ops_cons (fun f w_ hS46 hE46 hP46 => ?_) ?_
                  ·
                    have hx := ext_trans hx hE46
                    obtain ⟨g51, o51, cs51, hv51, hr51, hat51⟩ := (hP46 4 70 rfl rfl)
                    obtain ⟨u51_0, u51_1, u51_2, rfl, hu51_0, hu51_1, hu51_2⟩ := rRule_iff.1 hr51
                    refine L_lda (cs := [.int .i64 x_40.kind, u51_0, u51_1, .int .i64 x_40.bound, u51_2]) rfl Try.isAgg68 Try.sizeOf68 hv51 (At.sub hat51 0 5) rfl ?_
                    exact L_nil ⟨rfl, (ext_refl _), _, _, rfl, rfl, ⟨_, (rel0 hu51_0), _, (rel0 hu51_1), _, (rel0 hu51_2), rfl⟩⟩
                  exact ops_nil
                ·
                  have h0_0 := RP.ext h0_0 hE46
                  have h0_1 := RP.ext h0_1 hE46
                  have hb_g3 := Blk.ext hb_g3 hE46
                  have hx := ext_trans hx hE46
                  obtain ⟨u52_1, hu52_1, u52_2, hu52_2, u52_4, hu52_4, hv52⟩ := (hT46 5 71 rfl rfl)
                  refine L_call (args := #[.agg #[v0_0, v0_1], .agg #[.int .i64 x_40.kind, u52_1, u52_2, .int .i64 x_40.bound, u52_4]]) rfl Try.call66 (ops2 (hT46 0 66 rfl rfl) hv52) (s_l6Rule_c (m := m) (r_ := x_40) (Nat.le_trans hB hx.size) (rel0 h0_0) (rel0 h0_1) (rel0 hu52_1) (rel0 hu52_2) (rel0 hu52_4) hx44) ?_
                  rintro _ w53 ⟨rfl, he53⟩
                  have h0_0 := RP.ext h0_0 he53
                  have h0_1 := RP.ext h0_1 he53
                  have hb_g3 := Blk.ext hb_g3 he53
                  have hu52_1 := RP.ext hu52_1 he53
                  have hu52_2 := RP.ext hu52_2 he53
                  have hu52_4 := RP.ext hu52_4 he53
                  have hx := ext_trans hx he53
                  refine L_not_ (b := x44) rfl rfl ?_
                  refine L_nil ?_
                  refine W_cond (b := (!x44)) rfl (fun hc54 => ?_) (fun hc54 => ?_)
                  ·
                    have hB40 := (ite_t hc54).symm.trans hB40
                    refine W_seq ?_
                    refine W_region ?_
                    refine L_as (v := .bool false) rfl rfl ?_
                    refine L_nil ?_
                    refine W_ret ?_
                    obtain rfl := so hB40
                    obtain rfl := so hL40
                    obtain rfl := so hF
                    refine ret1 Try.results44 ?_
                    exact ⟨rfl, hx⟩
                  ·
                    have hB40 := (ite_f hc54).symm.trans hB40
                    refine W_skip ?_
                    refine W_region ?_
                    refine L_mv (v := .int .i64 (i_39 : Int)) rfl ((hS46 5 rfl).trans sf5) ?_
                    refine L_add (m := (i_39 : Int)) (n := 1) rfl rfl rfl ?_
                    refine L_as (v := .int .i64 (i64 ((i_39 : Int) + 1))) rfl rfl ?_
                    refine L_nil ?_
                    obtain rfl := so hB40
                    show ∃ m, m < _ ∧ I40 m _ _
                    refine ⟨rest40.length, by simp, ?_⟩
                    rw [hI40]
                    exact ⟨i_39 + 1, rest40, rfl, drop_next hd40, by simp at hl40; omega, hL40, ((hS46 1 rfl).trans sf1), (Eq.trans rfl (congrArg (Value.int .i64) (i64_succ (n := m.rules.length) (by simp at hl40; omega) hlen40))), h0_0, h0_1, hb_g3, hx⟩
            ·
              cases suf40 with
              | cons _ _ => exact absurd (of_decide_eq_false hc41) (by simp at hl40; omega)
              | nil =>
                obtain rfl := range_nil hL40
                refine W_exit ?_
                show R40 _ _
                rw [hR40]
                exact ⟨rfl, hx⟩
        ·
          intro f w_ hR
          rw [hR40] at hR
          obtain ⟨rfl, hx⟩ := hR
          clear hR40
          refine W_seq ?_
          refine W_region ?_
          refine L_as (v := .bool true) rfl rfl ?_
          refine L_nil ?_
          refine W_ret ?_
          obtain rfl := so hF
          refine ret1 Try.results44 ?_
          exact ⟨rfl, hx⟩

theorem l_toIntS_c {a : List Int} {v0 : Value} {w : World} {B : Nat} (hB : B ≤ w.heap.size) (h0 : (RP.slice 3 RP.int).rel B w.heap.size w [v0] a) {r : List Int} (hF : l_toIntS a = some r) :
    C Try.prog 24 #[v0] w fun v w' => (∃ u1 : Value, v = u1 ∧ Own RP.int 3 w.heap.size B w' u1 r) ∧ Ext w w' := by
  unfold l_toIntS at hF
  have hx := ext_refl w
  refine C_enter Try.func24 rfl Try.ntmps24 rfl ?_
  refine W_seq ?_
  refine W_region ?_
  refine L_as (v := (.slice none 0 0)) rfl rfl ?_
  refine L_nil ?_
  refine W_seq ?_
  obtain ⟨x1, hx1, hF⟩ := bind_some hF
  refine W_region ?_
  refine L_mv (v := v0) rfl rfl ?_
  refine L_len (v := v0) rfl Try.underlying22 rfl h0 ?_
  refine L_mk (el := B) (r := RP.int) (z0 := 0) (zc := [.int .i64 0]) rfl et_22 (by kernel_rfl) (fun w => rfl) rfl rfl hx1 hx.size ?_
  intro v3 w3 ho3 he3 hb3
  have h0 := RP.ext h0 he3
  have hx := ext_trans hx he3
  refine L_as (v := v3) rfl rfl ?_
  refine L_nil ?_
  refine W_seq ?_
  refine W_seq ?_
  refine W_region ?_
  refine L_as (v := .int .i64 0) rfl rfl ?_
  refine L_nil ?_
  have hlen6 := len_le h0
  obtain ⟨j6, hL6, hF⟩ := bind_some hF
  obtain ⟨R6, hR6⟩ : ∃ R : Fr → World → Prop, R = fun f w_ => ∃ out_5 : List Int, ∃ v5_out : Value, j6 = .nx out_5 ∧ f 3 = v5_out ∧ Own RP.int 3 w.heap.size B w_ v5_out out_5 ∧ Ext w w_ := ⟨_, rfl⟩
  refine W_join R6 ?_ ?_
  ·
    refine W_block ?_
    obtain ⟨I6, hI6⟩ : ∃ I : Nat → Fr → World → Prop, I = fun n f w_ => ∃ i_4 : Nat, ∃ suf6 : List Int, ∃ out_5 : List Int, ∃ v5_out : Value, n = suf6.length ∧ List.drop i_4 a = suf6 ∧ i_4 + suf6.length = a.length ∧ rangeL l_toIntS_b1 suf6 i_4 out_5 = some j6 ∧ f 0 = v0 ∧ f 3 = v5_out ∧ f 4 = .int .i64 (i_4 : Int) ∧ (RP.slice 3 RP.int).rel B w.heap.size w_ [v0] a ∧ Own RP.int 3 w.heap.size B w_ v5_out out_5 ∧ Ext w w_ := ⟨_, rfl⟩
    refine W_loop I6 (n := a.length) ?_ ?_
    · rw [hI6]; exact ⟨0, a, x1, v3, rfl, rfl, Nat.zero_add _, hL6, rfl, rfl, rfl, h0, ho3, hx⟩
    ·
      intro n6 f w_ hI
      rw [hI6] at hI
      obtain ⟨i_4, suf6, out_5, v5_out, rfl, hd6, hl6, hL6, sf0, sf3, sf4, h0, hv5_out, hx⟩ := hI
      refine W_seq ?_
      refine W_seq ?_
      refine W_region ?_
      refine L_mv (v := .int .i64 (i_4 : Int)) rfl sf4 ?_
      refine L_mv (v := v0) rfl sf0 ?_
      refine L_len (v := v0) rfl Try.underlying22 rfl h0 ?_
      refine L_lss (m := (i_4 : Int)) (n := (a.length : Int)) rfl rfl rfl ?_
      refine L_nil ?_
      refine W_cond (b := decide ((i_4 : Int) < (a.length : Int))) rfl (fun hc7 => ?_) (fun hc7 => ?_)
      ·
        have hlt6 := of_decide_eq_true hc7
        cases suf6 with
        | nil => exact absurd hlt6 (by simp at hl6; omega)
        | cons x_6 rest6 =>
          obtain ⟨o6, hB6, hL6⟩ := range_cons hL6
          rw [l_toIntS_b1] at hB6
          have hix6 := drop_idx hd6
          refine W_skip ?_
          refine W_seq ?_
          refine W_block ?_
          obtain ⟨x10, hx10, hB6⟩ := bind_some hB6
          refine W_region ?_
          refine L_mv (v := v5_out) rfl sf3 ?_
          refine L_mv (v := .int .i64 (i_4 : Int)) rfl sf4 ?_
          refine L_mv (v := v0) rfl sf0 ?_
          refine L_mv (v := .int .i64 (i_4 : Int)) rfl sf4 ?_
          refine L_ix (r := RP.int) rfl Try.underlying22 Try.sizeOf3 rfl h0 rfl hix6 ?_
          intro g14 o15 cs15 hr15 hat15
          obtain rfl : _ = [_] := hr15
          refine L_ld (v := .int .i64 x_6) rfl Try.isAgg3 rfl (hat15.cell (j := 0) rfl) ?_
          refine L_ixo (r := RP.int) rfl et_22 rfl hv5_out rfl hx10 ?_
          intro g16 c17 cs17 hg17 hl17 hc17 hr17 hj17
          obtain rfl : cs17 = [_] := hr17
          refine L_st (v := .int .i64 x_6) rfl Try.sizeOf3 rfl rfl rfl hc17 (hj17 0 _ rfl) ?_
          intro w18 hp18
          have hv5_out_n : Own RP.int 3 _ B w18 _ (out_5.set (Int.toNat (i_4 : Int)) x_6) := own_set hv5_out hg17 rfl (by decide) (idx_some hx10).2.2 hc17 hp18 rfl hB
          have h0 := hp18.mu.rel_lo h0 hl17
          have hx := ext_mut hx hp18.mu hl17
          have hv5_out := hv5_out_n
          refine L_nil ?_
          refine W_region ?_
          refine L_mv (v := .int .i64 (i_4 : Int)) rfl sf4 ?_
          refine L_add (m := (i_4 : Int)) (n := 1) rfl rfl rfl ?_
          refine L_as (v := .int .i64 (i64 ((i_4 : Int) + 1))) rfl rfl ?_
          refine L_nil ?_
          obtain rfl := so hB6
          show ∃ m, m < _ ∧ I6 m _ _
          refine ⟨rest6.length, by simp, ?_⟩
          rw [hI6]
          exact ⟨i_4 + 1, rest6, (out_5.set (Int.toNat (i_4 : Int)) x_6), v5_out, rfl, drop_next hd6, by simp at hl6; omega, hL6, sf0, sf3, (Eq.trans rfl (congrArg (Value.int .i64) (i64_succ (n := a.length) (by simp at hl6; omega) hlen6))), h0, hv5_out, hx⟩
      ·
        cases suf6 with
        | cons _ _ => exact absurd (of_decide_eq_false hc7) (by simp at hl6; omega)
        | nil =>
          obtain rfl := range_nil hL6
          refine W_exit ?_
          show R6 _ _
          rw [hR6]
          exact ⟨out_5, v5_out, rfl, sf3, hv5_out, hx⟩
  ·
    intro f w_ hR
    rw [hR6] at hR
    obtain ⟨out_5, v5_out, rfl, sf3, hv5_out, hx⟩ := hR
    clear hR6
    refine W_seq ?_
    refine W_region ?_
    refine L_mv (v := v5_out) rfl sf3 ?_
    refine L_as (v := v5_out) rfl rfl ?_
    refine L_nil ?_
    refine W_ret ?_
    obtain rfl := so hF
    refine ret1 Try.results24 ?_
    exact ⟨⟨v5_out, rfl, hv5_out⟩, hx⟩

theorem l_toIntSS_c {a : List (List Int)} {v0 : Value} {w : World} {B : Nat} (hB : B ≤ w.heap.size) (h0 : (RP.slice 22 (RP.slice 3 RP.int)).rel B w.heap.size w [v0] a) {r : List (List Int)} (hF : l_toIntSS a = some r) :
    C Try.prog 82 #[v0] w fun v w' => (∃ u1 : Value, v = u1 ∧ Own (RP.slice 3 RP.int) 22 w.heap.size B w' u1 r) ∧ Ext w w' := by
  unfold l_toIntSS at hF
  have hx := ext_refl w
  refine C_enter Try.func82 rfl Try.ntmps82 rfl ?_
  refine W_seq ?_
  refine W_region ?_
  refine L_as (v := (.slice none 0 0)) rfl rfl ?_
  refine L_nil ?_
  refine W_seq ?_
  obtain ⟨x1, hx1, hF⟩ := bind_some hF
  refine W_region ?_
  refine L_mv (v := v0) rfl rfl ?_
  refine L_len (v := v0) rfl Try.underlying66 rfl h0 ?_
  refine L_mk (el := B) (r := (RP.slice 3 RP.int)) (z0 := []) (zc := [(.slice none 0 0)]) rfl et_66 (by kernel_rfl) (fun w => rel_nil _ _ _ _ _) rfl rfl hx1 hx.size ?_
  intro v3 w3 ho3 he3 hb3
  have h0 := RP.ext h0 he3
  have hx := ext_trans hx he3
  refine L_as (v := v3) rfl rfl ?_
  refine L_nil ?_
  refine W_seq ?_
  refine W_seq ?_
  refine W_region ?_
  refine L_as (v := .int .i64 0) rfl rfl ?_
  refine L_nil ?_
  have hlen6 := len_le h0
  obtain ⟨j6, hL6, hF⟩ := bind_some hF
  obtain ⟨R6, hR6⟩ : ∃ R : Fr → World → Prop, R = fun f w_ => ∃ out_5 : List (List Int), ∃ v5_out : Value, j6 = .nx out_5 ∧ f 3 = v5_out ∧ Own (RP.slice 3 RP.int) 22 w.heap.size B w_ v5_out out_5 ∧ Ext w w_ := ⟨_, rfl⟩
  refine W_join R6 ?_ ?_
  ·
    refine W_block ?_
    obtain ⟨I6, hI6⟩ : ∃ I : Nat → Fr → World → Prop, I = fun n f w_ => ∃ i_4 : Nat, ∃ suf6 : List (List Int), ∃ out_5 : List (List Int), ∃ v5_out : Value, n = suf6.length ∧ List.drop i_4 a = suf6 ∧ i_4 + suf6.length = a.length ∧ rangeL l_toIntSS_b1 suf6 i_4 out_5 = some j6 ∧ f 0 = v0 ∧ f 3 = v5_out ∧ f 4 = .int .i64 (i_4 : Int) ∧ (RP.slice 22 (RP.slice 3 RP.int)).rel B w.heap.size w_ [v0] a ∧ Own (RP.slice 3 RP.int) 22 w.heap.size B w_ v5_out out_5 ∧ Ext w w_ := ⟨_, rfl⟩
    refine W_loop I6 (n := a.length) ?_ ?_
    · rw [hI6]; exact ⟨0, a, x1, v3, rfl, rfl, Nat.zero_add _, hL6, rfl, rfl, rfl, h0, ho3, hx⟩
    ·
      intro n6 f w_ hI
      rw [hI6] at hI
      obtain ⟨i_4, suf6, out_5, v5_out, rfl, hd6, hl6, hL6, sf0, sf3, sf4, h0, hv5_out, hx⟩ := hI
      refine W_seq ?_
      refine W_seq ?_
      refine W_region ?_
      refine L_mv (v := .int .i64 (i_4 : Int)) rfl sf4 ?_
      refine L_mv (v := v0) rfl sf0 ?_
      refine L_len (v := v0) rfl Try.underlying66 rfl h0 ?_
      refine L_lss (m := (i_4 : Int)) (n := (a.length : Int)) rfl rfl rfl ?_
      refine L_nil ?_
      refine W_cond (b := decide ((i_4 : Int) < (a.length : Int))) rfl (fun hc7 => ?_) (fun hc7 => ?_)
      ·
        have hlt6 := of_decide_eq_true hc7
        cases suf6 with
        | nil => exact absurd hlt6 (by simp at hl6; omega)
        | cons x_6 rest6 =>
          obtain ⟨o6, hB6, hL6⟩ := range_cons hL6
          rw [l_toIntSS_b1] at hB6
          have hix6 := drop_idx hd6
          refine W_skip ?_
          refine W_seq ?_
          refine W_block ?_
          obtain ⟨x10, hx10, hB6⟩ := bind_some hB6
          obtain ⟨x12, hx12, hB6⟩ := bind_some hB6
          refine W_region ?_
          refine L_mv (v := v5_out) rfl sf3 ?_
          refine L_mv (v := .int .i64 (i_4 : Int)) rfl sf4 ?_
          refine L_mv (v := v0) rfl sf0 ?_
          refine L_mv (v := .int .i64 (i_4 : Int)) rfl sf4 ?_
          refine L_ix (r := (RP.slice 3 RP.int)) rfl Try.underlying66 Try.sizeOf22 rfl h0 rfl hix6 ?_
          intro g16 o17 cs17 hr17 hat17
          obtain ⟨u17, rfl, hu17⟩ := slice1 hr17
          refine L_ld (v := u17) rfl Try.isAgg22 rfl (hat17.cell (j := 0) rfl) ?_
          refine L_call (args := #[u17]) rfl Try.call24 (ops1 rfl) (l_toIntS_c (a := x_6) (Nat.le_trans hB hx.size) (rel0 hu17) hx10) ?_
          rintro r18_0 w18 ⟨⟨_, rfl, hr18_0⟩, he18⟩
          have hr18_0 : Own _ _ w.heap.size B _ _ _ := hr18_0.wide hx.size (Nat.le_refl _)
          have h0 := RP.ext h0 he18
          have hv5_out := Own.ext hv5_out he18
          have hu17 := RP.ext hu17 he18
          have hx := ext_trans hx he18
          refine L_ixo (r := (RP.slice 3 RP.int)) rfl et_66 rfl hv5_out rfl hx12 ?_
          intro g19 c20 cs20 hg20 hl20 hc20 hr20 hj20
          obtain ⟨uo20, rfl, _⟩ := slice1 hr20
          refine L_st (v := r18_0) rfl Try.sizeOf22 rfl rfl (one_of (Own.rel hr18_0)) hc20 (hj20 0 _ rfl) ?_
          intro w21 hp21
          have hv5_out_n : Own (RP.slice 3 RP.int) 22 _ B w21 _ (out_5.set (Int.toNat (i_4 : Int)) x10) := own_set hv5_out hg20 rfl (by decide) (idx_some hx12).2.2 hc20 hp21 (rel0 (Own.rel hr18_0)) hB
          have h0 := hp21.mu.rel_lo h0 hl20
          have hr18_0 := hp21.mu.ownT hr18_0 (by decide) (by decide) (Nat.le_trans hB hl20)
          have hx := ext_mut hx hp21.mu hl20
          have hv5_out := hv5_out_n
          refine L_nil ?_
          refine W_region ?_
          refine L_mv (v := .int .i64 (i_4 : Int)) rfl sf4 ?_
          refine L_add (m := (i_4 : Int)) (n := 1) rfl rfl rfl ?_
          refine L_as (v := .int .i64 (i64 ((i_4 : Int) + 1))) rfl rfl ?_
          refine L_nil ?_
          obtain rfl := so hB6
          show ∃ m, m < _ ∧ I6 m _ _
          refine ⟨rest6.length, by simp, ?_⟩
          rw [hI6]
          exact ⟨i_4 + 1, rest6, (out_5.set (Int.toNat (i_4 : Int)) x10), v5_out, rfl, drop_next hd6, by simp at hl6; omega, hL6, sf0, sf3, (Eq.trans rfl (congrArg (Value.int .i64) (i64_succ (n := a.length) (by simp at hl6; omega) hlen6))), h0, hv5_out, hx⟩
      ·
        cases suf6 with
        | cons _ _ => exact absurd (of_decide_eq_false hc7) (by simp at hl6; omega)
        | nil =>
          obtain rfl := range_nil hL6
          refine W_exit ?_
          show R6 _ _
          rw [hR6]
          exact ⟨out_5, v5_out, rfl, sf3, hv5_out, hx⟩
  ·
    intro f w_ hR
    rw [hR6] at hR
    obtain ⟨out_5, v5_out, rfl, sf3, hv5_out, hx⟩ := hR
    clear hR6
    refine W_seq ?_
    refine W_region ?_
    refine L_mv (v := v5_out) rfl sf3 ?_
    refine L_as (v := v5_out) rfl rfl ?_
    refine L_nil ?_
    refine W_ret ?_
    obtain rfl := so hF
    refine ret1 Try.results82 ?_
    exact ⟨⟨v5_out, rfl, hv5_out⟩, hx⟩

theorem l_toRule_c {a : Rule} {v0_1 : Value} {v0_2 : Value} {v0_4 : Value} {w : World} {B : Nat} (hB : B ≤ w.heap.size) (h0_1 : (RP.slice 3 RP.int).rel B w.heap.size w [v0_1] a.vars) (h0_2 : (RP.slice 3 RP.int).rel B w.heap.size w [v0_2] a.coefs) (h0_4 : (RP.slice 22 (RP.slice 3 RP.int)).rel B w.heap.size w [v0_4] a.rows) {r : Rule} (hF : l_toRule a = some r) :
    C Try.prog 67 #[.agg #[.int .i64 a.kind, v0_1, v0_2, .int .i64 a.bound, v0_4]] w fun v w' => (∃ u1 u2 u3 : Value, v = .agg #[.int .i64 r.kind, u1, u2, .int .i64 r.bound, u3] ∧ Own RP.int 3 w.heap.size B w' u1 r.vars ∧ Own RP.int 3 w.heap.size B w' u2 r.coefs ∧ Own (RP.slice 3 RP.int) 22 w.heap.size B w' u3 r.rows) ∧ Ext w w' := by
  unfold l_toRule at hF
  have hx := ext_refl w
  refine C_enter Try.func67 rfl Try.ntmps67 rfl ?_
  refine W_seq ?_
  refine W_region ?_
  refine L_box (v := .agg #[.int .i64 a.kind, v0_1, v0_2, .int .i64 a.bound, v0_4]) (cs := #[.int .i64 a.kind, v0_1, v0_2, .int .i64 a.bound, v0_4]) rfl rfl rfl ?_
  intro g5 w6 hn6
  have hge_g5 := hn6.geS hx.size
  have hb_g5 := hn6.blk
  have h0_1 := RP.ext h0_1 hn6.ext
  have h0_2 := RP.ext h0_2 hn6.ext
  have h0_4 := RP.ext h0_4 hn6.ext
  have hx := ext_trans hx hn6.ext
  refine L_al (cs := #[.int .i64 0, (.slice none 0 0), (.slice none 0 0), .int .i64 0, (.slice none 0 0)]) rfl Try.zeroValue68 rfl ?_
  intro g7 w8 hn8
  have hge_g7 := hn8.geS hx.size
  have hb_g7 := hn8.blk
  have h0_1 := RP.ext h0_1 hn8.ext
  have h0_2 := RP.ext h0_2 hn8.ext
  have h0_4 := RP.ext h0_4 hn8.ext
  have hb_g5 := Blk.ext hb_g5 hn8.ext
  have hx := ext_trans hx hn8.ext
  refine L_nil ?_
  refine W_seq ?_
  refine W_region ?_
  refine L_al (cs := #[.int .i64 0, (.slice none 0 0), (.slice none 0 0), .int .i64 0, (.slice none 0 0)]) rfl Try.zeroValue68 rfl ?_
  intro g12 w13 hn13
  have hge_g12 := hn13.geS hx.size
  have hb_g12 := hn13.blk
  have ap14 := ap_bb hb_g7 hn13
  have h0_1 := RP.ext h0_1 hn13.ext
  have h0_2 := RP.ext h0_2 hn13.ext
  have h0_4 := RP.ext h0_4 hn13.ext
  have hb_g5 := Blk.ext hb_g5 hn13.ext
  have hb_g7 := Blk.ext hb_g7 hn13.ext
  have hx := ext_trans hx hn13.ext
  refine L_nil ?_
  refine W_seq ?_
  refine W_region ?_
  refine L_fa (o' := 0) rfl fa_76_0 rfl rfl ?_
  refine L_ld (v := .int .i64 a.kind) rfl Try.isAgg3 rfl (hb_g5.cell (j := 0) rfl) ?_
  refine L_fa (o' := 0) rfl fa_68_0 rfl rfl ?_
  refine L_st (v := .int .i64 a.kind) rfl Try.sizeOf3 rfl rfl rfl hb_g12 rfl ?_
  intro w16 hp16
  have h0_1 := hp16.mu.rel h0_1 (by decide) (Nat.le_trans hB hge_g12)
  have h0_2 := hp16.mu.rel h0_2 (by decide) (Nat.le_trans hB hge_g12)
  have h0_4 := hp16.mu.rel h0_4 (by decide) (Nat.le_trans hB hge_g12)
  have hb_g5 := hp16.mu.blk hb_g5 (by decide)
  have hb_g7 := hp16.mu.blkA hb_g7 (Ap.symm ap14)
  have hx := ext_mut hx hp16.mu hge_g12
  have hb_g12 : Blk w16 g12 68 #[.int .i64 a.kind, (.slice none 0 0), (.slice none 0 0), .int .i64 0, (.slice none 0 0)] := hp16.blk
  refine L_nil ?_
  refine W_seq ?_
  obtain ⟨x17, hx17, hF⟩ := bind_some hF
  refine W_region ?_
  refine L_fa (o' := 1) rfl fa_76_1 rfl rfl ?_
  refine L_ld (v := v0_1) rfl Try.isAgg22 rfl (hb_g5.cell (j := 1) rfl) ?_
  refine L_call (args := #[v0_1]) rfl Try.call24 (ops1 rfl) (l_toIntS_c (a := a.vars) (Nat.le_trans hB hx.size) (rel0 h0_1) hx17) ?_
  rintro r20_0 w20 ⟨⟨_, rfl, hr20_0⟩, he20⟩
  have hr20_0 : Own _ _ w.heap.size B _ _ _ := hr20_0.wide hx.size (Nat.le_refl _)
  have h0_1 := RP.ext h0_1 he20
  have h0_2 := RP.ext h0_2 he20
  have h0_4 := RP.ext h0_4 he20
  have hb_g5 := Blk.ext hb_g5 he20
  have hb_g7 := Blk.ext hb_g7 he20
  have hb_g12 := Blk.ext hb_g12 he20
  have hx := ext_trans hx he20
  refine L_fa (o' := 1) rfl fa_68_1 rfl rfl ?_
  refine L_st (v := r20_0) rfl Try.sizeOf22 rfl rfl (one_of (Own.rel hr20_0)) hb_g12 rfl ?_
  intro w21 hp21
  have h0_1 := hp21.mu.rel h0_1 (by decide) (Nat.le_trans hB hge_g12)
  have h0_2 := hp21.mu.rel h0_2 (by decide) (Nat.le_trans hB hge_g12)
  have h0_4 := hp21.mu.rel h0_4 (by decide) (Nat.le_trans hB hge_g12)
  have hb_g5 := hp21.mu.blk hb_g5 (by decide)
  have hb_g7 := hp21.mu.blkA hb_g7 (Ap.symm ap14)
  have hr20_0 := hp21.mu.ownT hr20_0 (by decide) (by decide) (Nat.le_trans hB hge_g12)
  have hx := ext_mut hx hp21.mu hge_g12
  have hb_g12 : Blk w21 g12 68 #[.int .i64 a.kind, r20_0, (.slice none 0 0), .int .i64 0, (.slice none 0 0)] := hp21.blk
  refine L_nil ?_
  refine W_seq ?_
  obtain ⟨x22, hx22, hF⟩ := bind_some hF
  refine W_region ?_
  refine L_fa (o' := 2) rfl fa_76_2 rfl rfl ?_
  refine L_ld (v := v0_2) rfl Try.isAgg22 rfl (hb_g5.cell (j := 2) rfl) ?_
  refine L_call (args := #[v0_2]) rfl Try.call24 (ops1 rfl) (l_toIntS_c (a := a.coefs) (Nat.le_trans hB hx.size) (rel0 h0_2) hx22) ?_
  rintro r26_0 w26 ⟨⟨_, rfl, hr26_0⟩, he26⟩
  have ap27 := ap_oc hr20_0 hr26_0
  have hr26_0 : Own _ _ w.heap.size B _ _ _ := hr26_0.wide hx.size (Nat.le_refl _)
  have h0_1 := RP.ext h0_1 he26
  have h0_2 := RP.ext h0_2 he26
  have h0_4 := RP.ext h0_4 he26
  have hb_g5 := Blk.ext hb_g5 he26
  have hb_g7 := Blk.ext hb_g7 he26
  have hb_g12 := Blk.ext hb_g12 he26
  have hr20_0 := Own.ext hr20_0 he26
  have hx := ext_trans hx he26
  refine L_fa (o' := 2) rfl fa_68_2 rfl rfl ?_
  refine L_st (v := r26_0) rfl Try.sizeOf22 rfl rfl (one_of (Own.rel hr26_0)) hb_g12 rfl ?_
  intro w28 hp28
  have h0_1 := hp28.mu.rel h0_1 (by decide) (Nat.le_trans hB hge_g12)
  have h0_2 := hp28.mu.rel h0_2 (by decide) (Nat.le_trans hB hge_g12)
  have h0_4 := hp28.mu.rel h0_4 (by decide) (Nat.le_trans hB hge_g12)
  have hb_g5 := hp28.mu.blk hb_g5 (by decide)
  have hb_g7 := hp28.mu.blkA hb_g7 (Ap.symm ap14)
  have hr20_0 := hp28.mu.ownT hr20_0 (by decide) (by decide) (Nat.le_trans hB hge_g12)
  have hr26_0 := hp28.mu.ownT hr26_0 (by decide) (by decide) (Nat.le_trans hB hge_g12)
  have hx := ext_mut hx hp28.mu hge_g12
  have hb_g12 : Blk w28 g12 68 #[.int .i64 a.kind, r20_0, r26_0, .int .i64 0, (.slice none 0 0)] := hp28.blk
  refine L_nil ?_
  refine W_seq ?_
  refine W_region ?_
  refine L_fa (o' := 3) rfl fa_76_3 rfl rfl ?_
  refine L_ld (v := .int .i64 a.bound) rfl Try.isAgg3 rfl (hb_g5.cell (j := 3) rfl) ?_
  refine L_fa (o' := 3) rfl fa_68_3 rfl rfl ?_
  refine L_st (v := .int .i64 a.bound) rfl Try.sizeOf3 rfl rfl rfl hb_g12 rfl ?_
  intro w30 hp30
  have h0_1 := hp30.mu.rel h0_1 (by decide) (Nat.le_trans hB hge_g12)
  have h0_2 := hp30.mu.rel h0_2 (by decide) (Nat.le_trans hB hge_g12)
  have h0_4 := hp30.mu.rel h0_4 (by decide) (Nat.le_trans hB hge_g12)
  have hb_g5 := hp30.mu.blk hb_g5 (by decide)
  have hb_g7 := hp30.mu.blkA hb_g7 (Ap.symm ap14)
  have hr20_0 := hp30.mu.ownT hr20_0 (by decide) (by decide) (Nat.le_trans hB hge_g12)
  have hr26_0 := hp30.mu.ownT hr26_0 (by decide) (by decide) (Nat.le_trans hB hge_g12)
  have hx := ext_mut hx hp30.mu hge_g12
  have hb_g12 : Blk w30 g12 68 #[.int .i64 a.kind, r20_0, r26_0, .int .i64 a.bound, (.slice none 0 0)] := hp30.blk
  refine L_nil ?_
  refine W_seq ?_
  obtain ⟨x31, hx31, hF⟩ := bind_some hF
  refine W_region ?_
  refine L_fa (o' := 4) rfl fa_76_4 rfl rfl ?_
  refine L_ld (v := v0_4) rfl Try.isAgg66 rfl (hb_g5.cell (j := 4) rfl) ?_
  refine L_call (args := #[v0_4]) rfl Try.call82 (ops1 rfl) (l_toIntSS_c (a := a.rows) (Nat.le_trans hB hx.size) (rel0 h0_4) hx31) ?_
  rintro r34_0 w34 ⟨⟨_, rfl, hr34_0⟩, he34⟩
  have hr34_0 : Own _ _ w.heap.size B _ _ _ := hr34_0.wide hx.size (Nat.le_refl _)
  have h0_4 := RP.ext h0_4 he34
  have hb_g7 := Blk.ext hb_g7 he34
  have hb_g12 := Blk.ext hb_g12 he34
  have hr20_0 := Own.ext hr20_0 he34
  have hr26_0 := Own.ext hr26_0 he34
  have hx := ext_trans hx he34
  refine L_fa (o' := 4) rfl fa_68_4 rfl rfl ?_
  refine L_st (v := r34_0) rfl Try.sizeOf66 rfl rfl (one_of (Own.rel hr34_0)) hb_g12 rfl ?_
  intro w35 hp35
  have hb_g7 := hp35.mu.blkA hb_g7 (Ap.symm ap14)
  have hr20_0 := hp35.mu.ownT hr20_0 (by decide) (by decide) (Nat.le_trans hB hge_g12)
  have hr26_0 := hp35.mu.ownT hr26_0 (by decide) (by decide) (Nat.le_trans hB hge_g12)
  have hr34_0 := hp35.mu.ownT hr34_0 (by decide) (by decide) (Nat.le_trans hB hge_g12)
  have hx := ext_mut hx hp35.mu hge_g12
  have hb_g12 : Blk w35 g12 68 #[.int .i64 a.kind, r20_0, r26_0, .int .i64 a.bound, r34_0] := hp35.blk
  refine L_nil ?_
  refine W_seq ?_
  refine W_region ?_
  refine L_lda (cs := [.int .i64 a.kind, r20_0, r26_0, .int .i64 a.bound, r34_0]) rfl Try.isAgg68 Try.sizeOf68 rfl (Blk.sub hb_g12 0 5) rfl ?_
  refine L_sta (vs := #[.int .i64 a.kind, r20_0, r26_0, .int .i64 a.bound, r34_0]) rfl Try.sizeOf68 rfl rfl rfl (ones_cons rfl (ones_cons (one_of (Own.rel hr20_0)) (ones_cons (one_of (Own.rel hr26_0)) (ones_cons rfl (ones_cons (one_of (Own.rel hr34_0)) ones_nil))))) hb_g7 rfl ?_
  intro w37 hp37
  have hr20_0 := hp37.mu.ownT hr20_0 (by decide) (by decide) (Nat.le_trans hB hge_g7)
  have hr26_0 := hp37.mu.ownT hr26_0 (by decide) (by decide) (Nat.le_trans hB hge_g7)
  have hr34_0 := hp37.mu.ownT hr34_0 (by decide) (by decide) (Nat.le_trans hB hge_g7)
  have hx := ext_mut hx hp37.mu hge_g7
  have hb_g7 : Blk w37 g7 68 #[.int .i64 a.kind, r20_0, r26_0, .int .i64 a.bound, r34_0] := hp37.blk
  refine L_nil ?_
  refine W_ret ?_
  obtain rfl := so hF
  refine retc Try.results67 Try.isAgg68 Try.sizeOf68 rfl hb_g7 rfl ?_
  exact ⟨⟨r20_0, r26_0, r34_0, rfl, hr20_0, hr26_0, hr34_0⟩, hx⟩

theorem l_toRuleS_c {a : List Rule} {v0 : Value} {w : World} {B : Nat} (hB : B ≤ w.heap.size) (h0 : (RP.slice 76 (rRule 3 22)).rel B w.heap.size w [v0] a) {r : List Rule} (hF : l_toRuleS a = some r) :
    C Try.prog 46 #[v0] w fun v w' => (∃ u1 : Value, v = u1 ∧ Own (rRule 3 22) 68 w.heap.size B w' u1 r) ∧ Ext w w' := by
  unfold l_toRuleS at hF
  have hx := ext_refl w
  refine C_enter Try.func46 rfl Try.ntmps46 rfl ?_
  refine W_seq ?_
  refine W_region ?_
  refine L_as (v := (.slice none 0 0)) rfl rfl ?_
  refine L_nil ?_
  refine W_seq ?_
  obtain ⟨x1, hx1, hF⟩ := bind_some hF
  refine W_region ?_
  refine L_mv (v := v0) rfl rfl ?_
  refine L_len (v := v0) rfl Try.underlying23 rfl h0 ?_
  refine L_mk (el := B) (r := (rRule 3 22)) (z0 := ({ kind := 0, vars := [], coefs := [], bound := 0, rows := [] } : Rule)) (zc := [.int .i64 0, (.slice none 0 0), (.slice none 0 0), .int .i64 0, (.slice none 0 0)]) rfl et_28 (by kernel_rfl) (fun w => rRule_iff.2 ⟨_, _, _, rfl, rel_nil _ _ _ _ _, rel_nil _ _ _ _ _, rel_nil _ _ _ _ _⟩) rfl rfl hx1 hx.size ?_
  intro v3 w3 ho3 he3 hb3
  have h0 := RP.ext h0 he3
  have hx := ext_trans hx he3
  refine L_as (v := v3) rfl rfl ?_
  refine L_nil ?_
  refine W_seq ?_
  refine W_seq ?_
  refine W_region ?_
  refine L_as (v := .int .i64 0) rfl rfl ?_
  refine L_nil ?_
  have hlen6 := len_le h0
  obtain ⟨j6, hL6, hF⟩ := bind_some hF
  obtain ⟨R6, hR6⟩ : ∃ R : Fr → World → Prop, R = fun f w_ => ∃ out_5 : List Rule, ∃ v5_out : Value, j6 = .nx out_5 ∧ f 3 = v5_out ∧ Own (rRule 3 22) 68 w.heap.size B w_ v5_out out_5 ∧ Ext w w_ := ⟨_, rfl⟩
  refine W_join R6 ?_ ?_
  ·
    refine W_block ?_
    obtain ⟨I6, hI6⟩ : ∃ I : Nat → Fr → World → Prop, I = fun n f w_ => ∃ i_4 : Nat, ∃ suf6 : List Rule, ∃ out_5 : List Rule, ∃ v5_out : Value, n = suf6.length ∧ List.drop i_4 a = suf6 ∧ i_4 + suf6.length = a.length ∧ rangeL l_toRuleS_b1 suf6 i_4 out_5 = some j6 ∧ f 0 = v0 ∧ f 3 = v5_out ∧ f 4 = .int .i64 (i_4 : Int) ∧ (RP.slice 76 (rRule 3 22)).rel B w.heap.size w_ [v0] a ∧ Own (rRule 3 22) 68 w.heap.size B w_ v5_out out_5 ∧ Ext w w_ := ⟨_, rfl⟩
    refine W_loop I6 (n := a.length) ?_ ?_
    · rw [hI6]; exact ⟨0, a, x1, v3, rfl, rfl, Nat.zero_add _, hL6, rfl, rfl, rfl, h0, ho3, hx⟩
    ·
      intro n6 f w_ hI
      rw [hI6] at hI
      obtain ⟨i_4, suf6, out_5, v5_out, rfl, hd6, hl6, hL6, sf0, sf3, sf4, h0, hv5_out, hx⟩ := hI
      refine W_seq ?_
      refine W_seq ?_
      refine W_region ?_
      refine L_mv (v := .int .i64 (i_4 : Int)) rfl sf4 ?_
      refine L_mv (v := v0) rfl sf0 ?_
      refine L_len (v := v0) rfl Try.underlying23 rfl h0 ?_
      refine L_lss (m := (i_4 : Int)) (n := (a.length : Int)) rfl rfl rfl ?_
      refine L_nil ?_
      refine W_cond (b := decide ((i_4 : Int) < (a.length : Int))) rfl (fun hc7 => ?_) (fun hc7 => ?_)
      ·
        have hlt6 := of_decide_eq_true hc7
        cases suf6 with
        | nil => exact absurd hlt6 (by simp at hl6; omega)
        | cons x_6 rest6 =>
          obtain ⟨o6, hB6, hL6⟩ := range_cons hL6
          rw [l_toRuleS_b1] at hB6
          have hix6 := drop_idx hd6
          refine W_skip ?_
          refine W_seq ?_
          refine W_block ?_
          obtain ⟨x10, hx10, hB6⟩ := bind_some hB6
          obtain ⟨x12, hx12, hB6⟩ := bind_some hB6
          refine W_region ?_
          refine L_mv (v := v5_out) rfl sf3 ?_
          refine L_mv (v := .int .i64 (i_4 : Int)) rfl sf4 ?_
          refine L_mv (v := v0) rfl sf0 ?_
          refine L_mv (v := .int .i64 (i_4 : Int)) rfl sf4 ?_
          refine L_ix (r := (rRule 3 22)) rfl Try.underlying23 Try.sizeOf76 rfl h0 rfl hix6 ?_
          intro g16 o17 cs17 hr17 hat17
          obtain ⟨u17_0, u17_1, u17_2, rfl, hu17_0, hu17_1, hu17_2⟩ := rRule_iff.1 hr17
          refine L_lda (cs := [.int .i64 x_6.kind, u17_0, u17_1, .int .i64 x_6.bound, u17_2]) rfl Try.isAgg76 Try.sizeOf76 rfl (At.sub hat17 0 5) rfl ?_
          refine L_call (args := #[.agg #[.int .i64 x_6.kind, u17_0, u17_1, .int .i64 x_6.bound, u17_2]]) rfl Try.call67 (ops1 rfl) (l_toRule_c (a := x_6) (Nat.le_trans hB hx.size) (rel0 hu17_0) (rel0 hu17_1) (rel0 hu17_2) hx10) ?_
          rintro _ w18 ⟨⟨r18_0, r18_1, r18_2, rfl, hr18_0, hr18_1, hr18_2⟩, he18⟩
          have hr18_0 : Own _ _ w.heap.size B _ _ _ := hr18_0.wide hx.size (Nat.le_refl _)
          have hr18_1 : Own _ _ w.heap.size B _ _ _ := hr18_1.wide hx.size (Nat.le_refl _)
          have hr18_2 : Own _ _ w.heap.size B _ _ _ := hr18_2.wide hx.size (Nat.le_refl _)
          have h0 := RP.ext h0 he18
          have hv5_out := Own.ext hv5_out he18
          have hu17_0 := RP.ext hu17_0 he18
          have hu17_1 := RP.ext hu17_1 he18
          have hu17_2 := RP.ext hu17_2 he18
          have hx := ext_trans hx he18
          refine L_ixo (r := (rRule 3 22)) rfl et_28 rfl hv5_out rfl hx12 ?_
          intro g19 c20 cs20 hg20 hl20 hc20 hr20 hj20
          refine L_stp (vs := #[.int .i64 x10.kind, r18_0, r18_1, .int .i64 x10.bound, r18_2]) rfl Try.sizeOf68 rfl rfl rfl (ones_cons rfl (ones_cons (one_of (Own.rel hr18_0)) (ones_cons (one_of (Own.rel hr18_1)) (ones_cons rfl (ones_cons (one_of (Own.rel hr18_2)) ones_nil))))) hc20 (own_fit hv5_out hg20 (idx_some hx12).2.2 hc20) ?_
          intro w21 cz20 hp21 hz20 hi20 hu20
          have hv5_out_n : Own (rRule 3 22) 68 _ B w21 _ (out_5.set (Int.toNat (i_4 : Int)) x10) := own_setN hv5_out hg20 (by decide) (idx_some hx12).2.2 hc20 hp21 hz20 hi20 hu20 (rRule_iff.2 ⟨_, _, _, rfl, (rel0 (Own.rel hr18_0)), (rel0 (Own.rel hr18_1)), (rel0 (Own.rel hr18_2))⟩) hB
          have h0 := hp21.mu.rel h0 (by decide) (Nat.le_trans hB hl20)
          have hr18_0 := hp21.mu.ownT hr18_0 (by decide) (by decide) (Nat.le_trans hB hl20)
          have hr18_1 := hp21.mu.ownT hr18_1 (by decide) (by decide) (Nat.le_trans hB hl20)
          have hr18_2 := hp21.mu.ownT hr18_2 (by decide) (by decide) (Nat.le_trans hB hl20)
          have hx := ext_mut hx hp21.mu hl20
          have hv5_out := hv5_out_n
          refine L_nil ?_
          refine W_region ?_
          refine L_mv (v := .int .i64 (i_4 : Int)) rfl sf4 ?_
          refine L_add (m := (i_4 : Int)) (n := 1) rfl rfl rfl ?_
          refine L_as (v := .int .i64 (i64 ((i_4 : Int) + 1))) rfl rfl ?_
          refine L_nil ?_
          obtain rfl := so hB6
          show ∃ m, m < _ ∧ I6 m _ _
          refine ⟨rest6.length, by simp, ?_⟩
          rw [hI6]
          exact ⟨i_4 + 1, rest6, (out_5.set (Int.toNat (i_4 : Int)) x10), v5_out, rfl, drop_next hd6, by simp at hl6; omega, hL6, sf0, sf3, (Eq.trans rfl (congrArg (Value.int .i64) (i64_succ (n := a.length) (by simp at hl6; omega) hlen6))), h0, hv5_out, hx⟩
      ·
        cases suf6 with
        | cons _ _ => exact absurd (of_decide_eq_false hc7) (by simp at hl6; omega)
        | nil =>
          obtain rfl := range_nil hL6
          refine W_exit ?_
          show R6 _ _
          rw [hR6]
          exact ⟨out_5, v5_out, rfl, sf3, hv5_out, hx⟩
  ·
    intro f w_ hR
    rw [hR6] at hR
    obtain ⟨out_5, v5_out, rfl, sf3, hv5_out, hx⟩ := hR
    clear hR6
    refine W_seq ?_
    refine W_region ?_
    refine L_mv (v := v5_out) rfl sf3 ?_
    refine L_as (v := v5_out) rfl rfl ?_
    refine L_nil ?_
    refine W_ret ?_
    obtain rfl := so hF
    refine ret1 Try.results46 ?_
    exact ⟨⟨v5_out, rfl, hv5_out⟩, hx⟩

theorem l_toModel_c {a : Model} {v0_0 : Value} {v0_1 : Value} {w : World} {B : Nat} (hB : B ≤ w.heap.size) (h0_0 : (RP.slice 3 RP.int).rel B w.heap.size w [v0_0] a.sizes) (h0_1 : (RP.slice 76 (rRule 3 22)).rel B w.heap.size w [v0_1] a.rules) {r : Model} (hF : l_toModel a = some r) :
    C Try.prog 13 #[.agg #[v0_0, v0_1]] w fun v w' => (∃ u1 u2 : Value, v = .agg #[u1, u2] ∧ Own RP.int 3 w.heap.size B w' u1 r.sizes ∧ Own (rRule 3 22) 68 w.heap.size B w' u2 r.rules) ∧ Ext w w' := by
  unfold l_toModel at hF
  have hx := ext_refl w
  refine C_enter Try.func13 rfl Try.ntmps13 rfl ?_
  refine W_seq ?_
  refine W_region ?_
  refine L_box (v := .agg #[v0_0, v0_1]) (cs := #[v0_0, v0_1]) rfl rfl rfl ?_
  intro g5 w6 hn6
  have hge_g5 := hn6.geS hx.size
  have hb_g5 := hn6.blk
  have h0_0 := RP.ext h0_0 hn6.ext
  have h0_1 := RP.ext h0_1 hn6.ext
  have hx := ext_trans hx hn6.ext
  refine L_al (cs := #[(.slice none 0 0), (.slice none 0 0)]) rfl Try.zeroValue30 rfl ?_
  intro g7 w8 hn8
  have hge_g7 := hn8.geS hx.size
  have hb_g7 := hn8.blk
  have h0_0 := RP.ext h0_0 hn8.ext
  have h0_1 := RP.ext h0_1 hn8.ext
  have hb_g5 := Blk.ext hb_g5 hn8.ext
  have hx := ext_trans hx hn8.ext
  refine L_nil ?_
  refine W_seq ?_
  refine W_region ?_
  refine L_al (cs := #[(.slice none 0 0), (.slice none 0 0)]) rfl Try.zeroValue30 rfl ?_
  intro g12 w13 hn13
  have hge_g12 := hn13.geS hx.size
  have hb_g12 := hn13.blk
  have ap14 := ap_bb hb_g7 hn13
  have h0_0 := RP.ext h0_0 hn13.ext
  have h0_1 := RP.ext h0_1 hn13.ext
  have hb_g5 := Blk.ext hb_g5 hn13.ext
  have hb_g7 := Blk.ext hb_g7 hn13.ext
  have hx := ext_trans hx hn13.ext
  refine L_nil ?_
  refine W_seq ?_
  obtain ⟨x15, hx15, hF⟩ := bind_some hF
  refine W_region ?_
  refine L_fa (o' := 0) rfl fa_25_0 rfl rfl ?_
  refine L_ld (v := v0_0) rfl Try.isAgg22 rfl (hb_g5.cell (j := 0) rfl) ?_
  refine L_call (args := #[v0_0]) rfl Try.call24 (ops1 rfl) (l_toIntS_c (a := a.sizes) (Nat.le_trans hB hx.size) (rel0 h0_0) hx15) ?_
  rintro r18_0 w18 ⟨⟨_, rfl, hr18_0⟩, he18⟩
  have hr18_0 : Own _ _ w.heap.size B _ _ _ := hr18_0.wide hx.size (Nat.le_refl _)
  have h0_0 := RP.ext h0_0 he18
  have h0_1 := RP.ext h0_1 he18
  have hb_g5 := Blk.ext hb_g5 he18
  have hb_g7 := Blk.ext hb_g7 he18
  have hb_g12 := Blk.ext hb_g12 he18
  have hx := ext_trans hx he18
  refine L_fa (o' := 0) rfl fa_30_0 rfl rfl ?_
  refine L_st (v := r18_0) rfl Try.sizeOf22 rfl rfl (one_of (Own.rel hr18_0)) hb_g12 rfl ?_
  intro w19 hp19
  have h0_0 := hp19.mu.rel h0_0 (by decide) (Nat.le_trans hB hge_g12)
  have h0_1 := hp19.mu.rel h0_1 (by decide) (Nat.le_trans hB hge_g12)
  have hb_g5 := hp19.mu.blk hb_g5 (by decide)
  have hb_g7 := hp19.mu.blkA hb_g7 (Ap.symm ap14)
  have hr18_0 := hp19.mu.ownT hr18_0 (by decide) (by decide) (Nat.le_trans hB hge_g12)
  have hx := ext_mut hx hp19.mu hge_g12
  have hb_g12 : Blk w19 g12 30 #[r18_0, (.slice none 0 0)] := hp19.blk
  refine L_nil ?_
  refine W_seq ?_
  obtain ⟨x20, hx20, hF⟩ := bind_some hF
  refine W_region ?_
  refine L_fa (o' := 1) rfl fa_25_1 rfl rfl ?_
  refine L_ld (v := v0_1) rfl Try.isAgg23 rfl (hb_g5.cell (j := 1) rfl) ?_
  refine L_call (args := #[v0_1]) rfl Try.call46 (ops1 rfl) (l_toRuleS_c (a := a.rules) (Nat.le_trans hB hx.size) (rel0 h0_1) hx20) ?_
  rintro r23_0 w23 ⟨⟨_, rfl, hr23_0⟩, he23⟩
  have hr23_0 : Own _ _ w.heap.size B _ _ _ := hr23_0.wide hx.size (Nat.le_refl _)
  have h0_1 := RP.ext h0_1 he23
  have hb_g7 := Blk.ext hb_g7 he23
  have hb_g12 := Blk.ext hb_g12 he23
  have hr18_0 := Own.ext hr18_0 he23
  have hx := ext_trans hx he23
  refine L_fa (o' := 1) rfl fa_30_1 rfl rfl ?_
  refine L_st (v := r23_0) rfl Try.sizeOf28 rfl rfl (one_of (Own.rel hr23_0)) hb_g12 rfl ?_
  intro w24 hp24
  have hb_g7 := hp24.mu.blkA hb_g7 (Ap.symm ap14)
  have hr18_0 := hp24.mu.ownT hr18_0 (by decide) (by decide) (Nat.le_trans hB hge_g12)
  have hr23_0 := hp24.mu.ownT hr23_0 (by decide) (by decide) (Nat.le_trans hB hge_g12)
  have hx := ext_mut hx hp24.mu hge_g12
  have hb_g12 : Blk w24 g12 30 #[r18_0, r23_0] := hp24.blk
  refine L_nil ?_
  refine W_seq ?_
  refine W_region ?_
  refine L_lda (cs := [r18_0, r23_0]) rfl Try.isAgg30 Try.sizeOf30 rfl (Blk.sub hb_g12 0 2) rfl ?_
  refine L_sta (vs := #[r18_0, r23_0]) rfl Try.sizeOf30 rfl rfl rfl (ones_cons (one_of (Own.rel hr18_0)) (ones_cons (one_of (Own.rel hr23_0)) ones_nil)) hb_g7 rfl ?_
  intro w26 hp26
  have hr18_0 := hp26.mu.ownT hr18_0 (by decide) (by decide) (Nat.le_trans hB hge_g7)
  have hr23_0 := hp26.mu.ownT hr23_0 (by decide) (by decide) (Nat.le_trans hB hge_g7)
  have hx := ext_mut hx hp26.mu hge_g7
  have hb_g7 : Blk w26 g7 30 #[r18_0, r23_0] := hp26.blk
  refine L_nil ?_
  refine W_ret ?_
  obtain rfl := so hF
  refine retc Try.results13 Try.isAgg30 Try.sizeOf30 rfl hb_g7 rfl ?_
  exact ⟨⟨r18_0, r23_0, rfl, hr18_0, hr23_0⟩, hx⟩

theorem i_within_c {n_ : Int} {low : Int} {high : Int} {w : World} {B : Nat} (hB : B ≤ w.heap.size) {r : Bool} (hF : i_within n_ low high = some r) :
    C Try.prog 48 #[.int .i64 n_, .int .i64 low, .int .i64 high] w fun v w' => (v = .bool r) ∧ Ext w w' := by
  unfold i_within at hF
  have hx := ext_refl w
  refine C_enter Try.func48 rfl Try.ntmps48 rfl ?_
  refine W_seq ?_
  refine W_region ?_
  refine L_as (v := .bool false) rfl rfl ?_
  refine L_nil ?_
  refine W_seq ?_
  obtain ⟨R1, hR1⟩ : ∃ R : Fr → World → Prop, R = fun f w_ => f 6 = .bool ((decide (low ≤ n_)) && (decide (n_ ≤ high))) ∧ Ext w w_ := ⟨_, rfl⟩
  refine W_join R1 ?_ ?_
  ·
    refine W_region ?_
    refine L_mv (v := .int .i64 low) rfl rfl ?_
    refine L_mv (v := .int .i64 n_) rfl rfl ?_
    refine L_leq (m := low) (n := n_) rfl rfl rfl ?_
    refine L_mv (v := .bool (decide (low ≤ n_))) rfl rfl ?_
    refine L_split (d := 10) (b := decide (low ≤ n_)) rfl (fun hc2 => ?_) (fun hc2 => ?_)
    ·
      refine L_mv (v := .int .i64 n_) rfl rfl ?_
      refine L_mv (v := .int .i64 high) rfl rfl ?_
      refine L_leq (m := n_) (n := high) rfl rfl rfl ?_
      refine L_pick (v := .bool ((decide (low ≤ n_)) && (decide (n_ ≤ high)))) rfl rfl (and_t hc2 rfl) ?_
      refine L_as (v := .bool ((decide (low ≤ n_)) && (decide (n_ ≤ high)))) rfl rfl ?_
      refine L_nil ?_
      show R1 _ _
      rw [hR1]
      exact ⟨rfl, hx⟩
    ·
      refine L_pass rfl ?_
      refine L_pass rfl ?_
      refine L_pass rfl ?_
      refine L_pick (v := .bool ((decide (low ≤ n_)) && (decide (n_ ≤ high)))) rfl rfl (and_f hc2) ?_
      refine L_as (v := .bool ((decide (low ≤ n_)) && (decide (n_ ≤ high)))) rfl rfl ?_
      refine L_nil ?_
      show R1 _ _
      rw [hR1]
      exact ⟨rfl, hx⟩
  ·
    intro f w_ hR
    rw [hR1] at hR
    obtain ⟨sf6, hx⟩ := hR
    clear hR1
    refine W_ret ?_
    obtain rfl := so hF
    refine ret1 Try.results48 ?_
    exact ⟨sf6, hx⟩

theorem slices_IndexFunc_implRule_c {s : List Rule} {f_ : (Rule → Option Bool)} {v0 : Value} {v1 : Value} {w : World} {B : Nat} (hB : B ≤ w.heap.size) (h0 : (RP.slice 68 (rRule 3 22)).rel B w.heap.size w [v0] s) (h1 : Fun1 Try.prog B (rRule 3 22) true Value.bool f_ v1 w) {r : Int} (hF : slices_IndexFunc_implRule s f_ = some r) :
    C Try.prog 83 #[v0, v1] w fun v w' => (v = .int .i64 r) ∧ Ext w w' := by
  unfold slices_IndexFunc_implRule at hF
  obtain ⟨fid_1, caps_1, rfl, hcall_1, hc_1⟩ := h1
  have hx := ext_refl w
  refine C_enter Try.func83 rfl Try.ntmps83 rfl ?_
  refine W_seq ?_
  refine W_region ?_
  refine L_as (v := .int .i64 0) rfl rfl ?_
  refine L_nil ?_
  refine W_seq ?_
  refine W_seq ?_
  refine W_region ?_
  refine L_mv (v := v0) rfl rfl ?_
  refine L_len (v := v0) rfl Try.underlying28 rfl h0 ?_
  refine L_mv (v := .int .i64 0) rfl rfl ?_
  refine L_nil ?_
  have hlen2 := len_le h0
  obtain ⟨j2, hL2, hF⟩ := bind_some hF
  obtain ⟨R2, hR2⟩ : ∃ R : Fr → World → Prop, R = fun f w_ => j2 = .nx () ∧ Ext w w_ := ⟨_, rfl⟩
  refine W_join R2 ?_ ?_
  ·
    refine W_block ?_
    obtain ⟨I2, hI2⟩ : ∃ I : Nat → Fr → World → Prop, I = fun n f w_ => ∃ i_1 : Nat, ∃ suf2 : List Rule, n = suf2.length ∧ List.drop i_1 s = suf2 ∧ i_1 + suf2.length = s.length ∧ rangeL (slices_IndexFunc_implRule_b1 f_) suf2 i_1 () = some j2 ∧ f 0 = v0 ∧ f 1 = .func (.func fid_1) #[] caps_1 ∧ f 7 = .int .i64 (s.length : Int) ∧ f 8 = .int .i64 (i_1 : Int) ∧ (RP.slice 68 (rRule 3 22)).rel B w.heap.size w_ [v0] s ∧ Ext w w_ := ⟨_, rfl⟩
    refine W_loop I2 (n := s.length) ?_ ?_
    · rw [hI2]; exact ⟨0, s, rfl, rfl, Nat.zero_add _, hL2, rfl, rfl, rfl, rfl, h0, hx⟩
    ·
      intro n2 f w_ hI
      rw [hI2] at hI
      obtain ⟨i_1, suf2, rfl, hd2, hl2, hL2, sf0, sf1, sf7, sf8, h0, hx⟩ := hI
      refine W_seq ?_
      refine W_region ?_
      refine L_lss (m := (i_1 : Int)) (n := (s.length : Int)) rfl sf8 sf7 ?_
      refine L_nil ?_
      refine W_seq ?_
      refine W_cond (b := decide ((i_1 : Int) < (s.length : Int))) rfl (fun hc3 => ?_) (fun hc3 => ?_)
      ·
        have hlt2 := of_decide_eq_true hc3
        cases suf2 with
        | nil => exact absurd hlt2 (by simp at hl2; omega)
        | cons x_2 rest2 =>
          obtain ⟨o2, hB2, hL2⟩ := range_cons hL2
          rw [slices_IndexFunc_implRule_b1] at hB2
          have hix2 := drop_idx hd2
          refine W_skip ?_
          refine W_seq ?_
          refine W_block ?_
          refine W_seq ?_
          refine W_region ?_
          refine L_mv (v := .int .i64 (i_1 : Int)) rfl sf8 ?_
          refine L_as (v := .int .i64 (i_1 : Int)) rfl rfl ?_
          refine L_nil ?_
          refine W_seq ?_
          obtain ⟨x6, hx6, hB2⟩ := bind_some hB2
          refine W_region ?_
          refine L_mv (v := .func (.func fid_1) #[] caps_1) rfl sf1 ?_
          refine L_mv (v := v0) rfl sf0 ?_
          refine L_mv (v := .int .i64 (i_1 : Int)) rfl rfl ?_
          refine L_ix (r := (rRule 3 22)) rfl Try.underlying28 Try.sizeOf68 rfl h0 rfl hix2 ?_
          intro g7 o8 cs8 hr8 hat8
          obtain ⟨u8_0, u8_1, u8_2, rfl, hu8_0, hu8_1, hu8_2⟩ := rRule_iff.1 hr8
          refine L_lda (cs := [.int .i64 x_2.kind, u8_0, u8_1, .int .i64 x_2.bound, u8_2]) rfl Try.isAgg68 Try.sizeOf68 rfl (At.sub hat8 0 5) rfl ?_
          refine L_callv (args := #[.agg #[.int .i64 x_2.kind, u8_0, u8_1, .int .i64 x_2.bound, u8_2]]) rfl hcall_1 rfl (ops1 rfl) (hc_1 _ hx [.int .i64 x_2.kind, u8_0, u8_1, .int .i64 x_2.bound, u8_2] _ _ _ (rRule_iff.2 ⟨_, _, _, rfl, (rel0 hu8_0), (rel0 hu8_1), (rel0 hu8_2)⟩) hx6 (args_app rfl)) ?_
          rintro _ w9 ⟨rfl, he9⟩
          have h0 := RP.ext h0 he9
          have hu8_0 := RP.ext hu8_0 he9
          have hu8_1 := RP.ext hu8_1 he9
          have hu8_2 := RP.ext hu8_2 he9
          have hx := ext_trans hx he9
          refine L_nil ?_
          refine W_cond (b := x6) rfl (fun hc10 => ?_) (fun hc10 => ?_)
          ·
            have hB2 := (ite_t hc10).symm.trans hB2
            refine W_seq ?_
            refine W_region ?_
            refine L_mv (v := .int .i64 (i_1 : Int)) rfl rfl ?_
            refine L_as (v := .int .i64 (i_1 : Int)) rfl rfl ?_
            refine L_nil ?_
            refine W_ret ?_
            obtain rfl := so hB2
            obtain rfl := so hL2
            obtain rfl := so hF
            refine ret1 Try.results83 ?_
            exact ⟨rfl, hx⟩
          ·
            have hB2 := (ite_f hc10).symm.trans hB2
            refine W_skip ?_
            refine W_region ?_
            refine L_add (m := (i_1 : Int)) (n := 1) rfl sf8 rfl ?_
            refine L_mv (v := .int .i64 (i64 ((i_1 : Int) + 1))) rfl rfl ?_
            refine L_nil ?_
            obtain rfl := so hB2
            show ∃ m, m < _ ∧ I2 m _ _
            refine ⟨rest2.length, by simp, ?_⟩
            rw [hI2]
            exact ⟨i_1 + 1, rest2, rfl, drop_next hd2, by simp at hl2; omega, hL2, sf0, sf1, sf7, (Eq.trans rfl (congrArg (Value.int .i64) (i64_succ (n := s.length) (by simp at hl2; omega) hlen2))), h0, hx⟩
      ·
        cases suf2 with
        | cons _ _ => exact absurd (of_decide_eq_false hc3) (by simp at hl2; omega)
        | nil =>
          obtain rfl := range_nil hL2
          refine W_exit ?_
          show R2 _ _
          rw [hR2]
          exact ⟨rfl, hx⟩
  ·
    intro f w_ hR
    rw [hR2] at hR
    obtain ⟨rfl, hx⟩ := hR
    clear hR2
    refine W_seq ?_
    refine W_region ?_
    refine L_as (v := .int .i64 (-1)) rfl rfl ?_
    refine L_nil ?_
    refine W_ret ?_
    obtain rfl := so hF
    refine ret1 Try.results83 ?_
    exact ⟨rfl, hx⟩

theorem slices_ContainsFunc_implRule_c {s : List Rule} {f_ : (Rule → Option Bool)} {v0 : Value} {v1 : Value} {w : World} {B : Nat} (hB : B ≤ w.heap.size) (h0 : (RP.slice 68 (rRule 3 22)).rel B w.heap.size w [v0] s) (h1 : Fun1 Try.prog B (rRule 3 22) true Value.bool f_ v1 w) {r : Bool} (hF : slices_ContainsFunc_implRule s f_ = some r) :
    C Try.prog 68 #[v0, v1] w fun v w' => (v = .bool r) ∧ Ext w w' := by
  unfold slices_ContainsFunc_implRule at hF
  obtain ⟨fid_1, caps_1, rfl, hcall_1, hc_1⟩ := h1
  have hx := ext_refl w
  refine C_enter Try.func68 rfl Try.ntmps68 rfl ?_
  refine W_seq ?_
  refine W_region ?_
  refine L_as (v := .bool false) rfl rfl ?_
  refine L_nil ?_
  refine W_seq ?_
  obtain ⟨x1, hx1, hF⟩ := bind_some hF
  refine W_region ?_
  refine L_mv (v := v0) rfl rfl ?_
  refine L_mv (v := .func (.func fid_1) #[] caps_1) rfl rfl ?_
  refine L_call (args := #[v0, .func (.func fid_1) #[] caps_1]) rfl Try.call83 (ops2 rfl rfl) (slices_IndexFunc_implRule_c (s := s) (f_ := f_) (Nat.le_trans hB hx.size) (rel0 h0) ⟨_, _, rfl, hcall_1, fun w_ hE_ => hc_1 w_ (ext_trans hx hE_)⟩ hx1) ?_
  rintro _ w3 ⟨rfl, he3⟩
  have h0 := RP.ext h0 he3
  have hx := ext_trans hx he3
  refine L_geq (m := x1) (n := 0) rfl rfl rfl ?_
  refine L_as (v := .bool (decide (x1 ≥ 0))) rfl rfl ?_
  refine L_nil ?_
  refine W_ret ?_
  obtain rfl := so hF
  refine ret1 Try.results68 ?_
  exact ⟨rfl, hx⟩

theorem slices_Index_int_c {s : List Int} {v_ : Int} {v0 : Value} {w : World} {B : Nat} (hB : B ≤ w.heap.size) (h0 : (RP.slice 3 RP.int).rel B w.heap.size w [v0] s) {r : Int} (hF : slices_Index_int s v_ = some r) :
    C Try.prog 93 #[v0, .int .i64 v_] w fun v w' => (v = .int .i64 r) ∧ Ext w w' := by
  unfold slices_Index_int at hF
  have hx := ext_refl w
  refine C_enter Try.func93 rfl Try.ntmps93 rfl ?_
  refine W_seq ?_
  refine W_region ?_
  refine L_as (v := .int .i64 0) rfl rfl ?_
  refine L_nil ?_
  refine W_seq ?_
  refine W_seq ?_
  refine W_region ?_
  refine L_mv (v := v0) rfl rfl ?_
  refine L_len (v := v0) rfl Try.underlying22 rfl h0 ?_
  refine L_mv (v := .int .i64 0) rfl rfl ?_
  refine L_nil ?_
  have hlen2 := len_le h0
  obtain ⟨j2, hL2, hF⟩ := bind_some hF
  obtain ⟨R2, hR2⟩ : ∃ R : Fr → World → Prop, R = fun f w_ => j2 = .nx () ∧ Ext w w_ := ⟨_, rfl⟩
  refine W_join R2 ?_ ?_
  ·
    refine W_block ?_
    obtain ⟨I2, hI2⟩ : ∃ I : Nat → Fr → World → Prop, I = fun n f w_ => ∃ i_1 : Nat, ∃ suf2 : List Int, n = suf2.length ∧ List.drop i_1 s = suf2 ∧ i_1 + suf2.length = s.length ∧ rangeL (slices_Index_int_b1 v_) suf2 i_1 () = some j2 ∧ f 0 = v0 ∧ f 1 = .int .i64 v_ ∧ f 7 = .int .i64 (s.length : Int) ∧ f 8 = .int .i64 (i_1 : Int) ∧ (RP.slice 3 RP.int).rel B w.heap.size w_ [v0] s ∧ Ext w w_ := ⟨_, rfl⟩
    refine W_loop I2 (n := s.length) ?_ ?_
    · rw [hI2]; exact ⟨0, s, rfl, rfl, Nat.zero_add _, hL2, rfl, rfl, rfl, rfl, h0, hx⟩
    ·
      intro n2 f w_ hI
      rw [hI2] at hI
      obtain ⟨i_1, suf2, rfl, hd2, hl2, hL2, sf0, sf1, sf7, sf8, h0, hx⟩ := hI
      refine W_seq ?_
      refine W_region ?_
      refine L_lss (m := (i_1 : Int)) (n := (s.length : Int)) rfl sf8 sf7 ?_
      refine L_nil ?_
      refine W_seq ?_
      refine W_cond (b := decide ((i_1 : Int) < (s.length : Int))) rfl (fun hc3 => ?_) (fun hc3 => ?_)
      ·
        have hlt2 := of_decide_eq_true hc3
        cases suf2 with
        | nil => exact absurd hlt2 (by simp at hl2; omega)
        | cons x_2 rest2 =>
          obtain ⟨o2, hB2, hL2⟩ := range_cons hL2
          rw [slices_Index_int_b1] at hB2
          have hix2 := drop_idx hd2
          refine W_skip ?_
          refine W_seq ?_
          refine W_block ?_
          refine W_seq ?_
          refine W_region ?_
          refine L_mv (v := .int .i64 (i_1 : Int)) rfl sf8 ?_
          refine L_as (v := .int .i64 (i_1 : Int)) rfl rfl ?_
          refine L_nil ?_
          refine W_seq ?_
          refine W_region ?_
          refine L_mv (v := .int .i64 v_) rfl sf1 ?_
          refine L_mv (v := v0) rfl sf0 ?_
          refine L_mv (v := .int .i64 (i_1 : Int)) rfl rfl ?_
          refine L_ix (r := RP.int) rfl Try.underlying22 Try.sizeOf3 rfl h0 rfl hix2 ?_
          intro g6 o7 cs7 hr7 hat7
          obtain rfl : _ = [_] := hr7
          refine L_ld (v := .int .i64 x_2) rfl Try.isAgg3 rfl (hat7.cell (j := 0) rfl) ?_
          refine L_eql (m := v_) (n := x_2) rfl rfl rfl ?_
          refine L_nil ?_
          refine W_cond (b := (v_ == x_2)) rfl (fun hc8 => ?_) (fun hc8 => ?_)
          ·
            have hB2 := (ite_t hc8).symm.trans hB2
            refine W_seq ?_
            refine W_region ?_
            refine L_mv (v := .int .i64 (i_1 : Int)) rfl rfl ?_
            refine L_as (v := .int .i64 (i_1 : Int)) rfl rfl ?_
            refine L_nil ?_
            refine W_ret ?_
            obtain rfl := so hB2
            obtain rfl := so hL2
            obtain rfl := so hF
            refine ret1 Try.results93 ?_
            exact ⟨rfl, hx⟩
          ·
            have hB2 := (ite_f hc8).symm.trans hB2
            refine W_skip ?_
            refine W_region ?_
            refine L_add (m := (i_1 : Int)) (n := 1) rfl sf8 rfl ?_
            refine L_mv (v := .int .i64 (i64 ((i_1 : Int) + 1))) rfl rfl ?_
            refine L_nil ?_
            obtain rfl := so hB2
            show ∃ m, m < _ ∧ I2 m _ _
            refine ⟨rest2.length, by simp, ?_⟩
            rw [hI2]
            exact ⟨i_1 + 1, rest2, rfl, drop_next hd2, by simp at hl2; omega, hL2, sf0, sf1, sf7, (Eq.trans rfl (congrArg (Value.int .i64) (i64_succ (n := s.length) (by simp at hl2; omega) hlen2))), h0, hx⟩
      ·
        cases suf2 with
        | cons _ _ => exact absurd (of_decide_eq_false hc3) (by simp at hl2; omega)
        | nil =>
          obtain rfl := range_nil hL2
          refine W_exit ?_
          show R2 _ _
          rw [hR2]
          exact ⟨rfl, hx⟩
  ·
    intro f w_ hR
    rw [hR2] at hR
    obtain ⟨rfl, hx⟩ := hR
    clear hR2
    refine W_seq ?_
    refine W_region ?_
    refine L_as (v := .int .i64 (-1)) rfl rfl ?_
    refine L_nil ?_
    refine W_ret ?_
    obtain rfl := so hF
    refine ret1 Try.results93 ?_
    exact ⟨rfl, hx⟩

theorem slices_Contains_int_c {s : List Int} {v_ : Int} {v0 : Value} {w : World} {B : Nat} (hB : B ≤ w.heap.size) (h0 : (RP.slice 3 RP.int).rel B w.heap.size w [v0] s) {r : Bool} (hF : slices_Contains_int s v_ = some r) :
    C Try.prog 84 #[v0, .int .i64 v_] w fun v w' => (v = .bool r) ∧ Ext w w' := by
  unfold slices_Contains_int at hF
  have hx := ext_refl w
  refine C_enter Try.func84 rfl Try.ntmps84 rfl ?_
  refine W_seq ?_
  refine W_region ?_
  refine L_as (v := .bool false) rfl rfl ?_
  refine L_nil ?_
  refine W_seq ?_
  obtain ⟨x1, hx1, hF⟩ := bind_some hF
  refine W_region ?_
  refine L_mv (v := v0) rfl rfl ?_
  refine L_mv (v := .int .i64 v_) rfl rfl ?_
  refine L_call (args := #[v0, .int .i64 v_]) rfl Try.call93 (ops2 rfl rfl) (slices_Index_int_c (s := s) (v_ := v_) (Nat.le_trans hB hx.size) (rel0 h0) hx1) ?_
  rintro _ w3 ⟨rfl, he3⟩
  have h0 := RP.ext h0 he3
  have hx := ext_trans hx he3
  refine L_geq (m := x1) (n := 0) rfl rfl rfl ?_
  refine L_as (v := .bool (decide (x1 ≥ 0))) rfl rfl ?_
  refine L_nil ?_
  refine W_ret ?_
  obtain rfl := so hF
  refine ret1 Try.results84 ?_
  exact ⟨rfl, hx⟩

theorem slices_IndexFunc_int_c {s : List Int} {f_ : (Int → Option Bool)} {v0 : Value} {v1 : Value} {w : World} {B : Nat} (hB : B ≤ w.heap.size) (h0 : (RP.slice 3 RP.int).rel B w.heap.size w [v0] s) (h1 : Fun1 Try.prog B RP.int false Value.bool f_ v1 w) {r : Int} (hF : slices_IndexFunc_int s f_ = some r) :
    C Try.prog 94 #[v0, v1] w fun v w' => (v = .int .i64 r) ∧ Ext w w' := by
  unfold slices_IndexFunc_int at hF
  obtain ⟨fid_1, caps_1, rfl, hcall_1, hc_1⟩ := h1
  have hx := ext_refl w
  refine C_enter Try.func94 rfl Try.ntmps94 rfl ?_
  refine W_seq ?_
  refine W_region ?_
  refine L_as (v := .int .i64 0) rfl rfl ?_
  refine L_nil ?_
  refine W_seq ?_
  refine W_seq ?_
  refine W_region ?_
  refine L_mv (v := v0) rfl rfl ?_
  refine L_len (v := v0) rfl Try.underlying22 rfl h0 ?_
  refine L_mv (v := .int .i64 0) rfl rfl ?_
  refine L_nil ?_
  have hlen2 := len_le h0
  obtain ⟨j2, hL2, hF⟩ := bind_some hF
  obtain ⟨R2, hR2⟩ : ∃ R : Fr → World → Prop, R = fun f w_ => j2 = .nx () ∧ Ext w w_ := ⟨_, rfl⟩
  refine W_join R2 ?_ ?_
  ·
    refine W_block ?_
    obtain ⟨I2, hI2⟩ : ∃ I : Nat → Fr → World → Prop, I = fun n f w_ => ∃ i_1 : Nat, ∃ suf2 : List Int, n = suf2.length ∧ List.drop i_1 s = suf2 ∧ i_1 + suf2.length = s.length ∧ rangeL (slices_IndexFunc_int_b1 f_) suf2 i_1 () = some j2 ∧ f 0 = v0 ∧ f 1 = .func (.func fid_1) #[] caps_1 ∧ f 7 = .int .i64 (s.length : Int) ∧ f 8 = .int .i64 (i_1 : Int) ∧ (RP.slice 3 RP.int).rel B w.heap.size w_ [v0] s ∧ Ext w w_ := ⟨_, rfl⟩
    refine W_loop I2 (n := s.length) ?_ ?_
    · rw [hI2]; exact ⟨0, s, rfl, rfl, Nat.zero_add _, hL2, rfl, rfl, rfl, rfl, h0, hx⟩
    ·
      intro n2 f w_ hI
      rw [hI2] at hI
      obtain ⟨i_1, suf2, rfl, hd2, hl2, hL2, sf0, sf1, sf7, sf8, h0, hx⟩ := hI
      refine W_seq ?_
      refine W_region ?_
      refine L_lss (m := (i_1 : Int)) (n := (s.length : Int)) rfl sf8 sf7 ?_
      refine L_nil ?_
      refine W_seq ?_
      refine W_cond (b := decide ((i_1 : Int) < (s.length : Int))) rfl (fun hc3 => ?_) (fun hc3 => ?_)
      ·
        have hlt2 := of_decide_eq_true hc3
        cases suf2 with
        | nil => exact absurd hlt2 (by simp at hl2; omega)
        | cons x_2 rest2 =>
          obtain ⟨o2, hB2, hL2⟩ := range_cons hL2
          rw [slices_IndexFunc_int_b1] at hB2
          have hix2 := drop_idx hd2
          refine W_skip ?_
          refine W_seq ?_
          refine W_block ?_
          refine W_seq ?_
          refine W_region ?_
          refine L_mv (v := .int .i64 (i_1 : Int)) rfl sf8 ?_
          refine L_as (v := .int .i64 (i_1 : Int)) rfl rfl ?_
          refine L_nil ?_
          refine W_seq ?_
          obtain ⟨x6, hx6, hB2⟩ := bind_some hB2
          refine W_region ?_
          refine L_mv (v := .func (.func fid_1) #[] caps_1) rfl sf1 ?_
          refine L_mv (v := v0) rfl sf0 ?_
          refine L_mv (v := .int .i64 (i_1 : Int)) rfl rfl ?_
          refine L_ix (r := RP.int) rfl Try.underlying22 Try.sizeOf3 rfl h0 rfl hix2 ?_
          intro g7 o8 cs8 hr8 hat8
          obtain rfl : _ = [_] := hr8
          refine L_ld (v := .int .i64 x_2) rfl Try.isAgg3 rfl (hat8.cell (j := 0) rfl) ?_
          refine L_callv (args := #[.int .i64 x_2]) rfl hcall_1 rfl (ops1 rfl) (hc_1 _ hx [.int .i64 x_2] _ _ _ rfl hx6 (args_app rfl)) ?_
          rintro _ w9 ⟨rfl, he9⟩
          have h0 := RP.ext h0 he9
          have hx := ext_trans hx he9
          refine L_nil ?_
          refine W_cond (b := x6) rfl (fun hc10 => ?_) (fun hc10 => ?_)
          ·
            have hB2 := (ite_t hc10).symm.trans hB2
            refine W_seq ?_
            refine W_region ?_
            refine L_mv (v := .int .i64 (i_1 : Int)) rfl rfl ?_
            refine L_as (v := .int .i64 (i_1 : Int)) rfl rfl ?_
            refine L_nil ?_
            refine W_ret ?_
            obtain rfl := so hB2
            obtain rfl := so hL2
            obtain rfl := so hF
            refine ret1 Try.results94 ?_
            exact ⟨rfl, hx⟩
          ·
            have hB2 := (ite_f hc10).symm.trans hB2
            refine W_skip ?_
            refine W_region ?_
            refine L_add (m := (i_1 : Int)) (n := 1) rfl sf8 rfl ?_
            refine L_mv (v := .int .i64 (i64 ((i_1 : Int) + 1))) rfl rfl ?_
            refine L_nil ?_
            obtain rfl := so hB2
            show ∃ m, m < _ ∧ I2 m _ _
            refine ⟨rest2.length, by simp, ?_⟩
            rw [hI2]
            exact ⟨i_1 + 1, rest2, rfl, drop_next hd2, by simp at hl2; omega, hL2, sf0, sf1, sf7, (Eq.trans rfl (congrArg (Value.int .i64) (i64_succ (n := s.length) (by simp at hl2; omega) hlen2))), h0, hx⟩
      ·
        cases suf2 with
        | cons _ _ => exact absurd (of_decide_eq_false hc3) (by simp at hl2; omega)
        | nil =>
          obtain rfl := range_nil hL2
          refine W_exit ?_
          show R2 _ _
          rw [hR2]
          exact ⟨rfl, hx⟩
  ·
    intro f w_ hR
    rw [hR2] at hR
    obtain ⟨rfl, hx⟩ := hR
    clear hR2
    refine W_seq ?_
    refine W_region ?_
    refine L_as (v := .int .i64 (-1)) rfl rfl ?_
    refine L_nil ?_
    refine W_ret ?_
    obtain rfl := so hF
    refine ret1 Try.results94 ?_
    exact ⟨rfl, hx⟩

theorem slices_ContainsFunc_int_c {s : List Int} {f_ : (Int → Option Bool)} {v0 : Value} {v1 : Value} {w : World} {B : Nat} (hB : B ≤ w.heap.size) (h0 : (RP.slice 3 RP.int).rel B w.heap.size w [v0] s) (h1 : Fun1 Try.prog B RP.int false Value.bool f_ v1 w) {r : Bool} (hF : slices_ContainsFunc_int s f_ = some r) :
    C Try.prog 85 #[v0, v1] w fun v w' => (v = .bool r) ∧ Ext w w' := by
  unfold slices_ContainsFunc_int at hF
  obtain ⟨fid_1, caps_1, rfl, hcall_1, hc_1⟩ := h1
  have hx := ext_refl w
  refine C_enter Try.func85 rfl Try.ntmps85 rfl ?_
  refine W_seq ?_
  refine W_region ?_
  refine L_as (v := .bool false) rfl rfl ?_
  refine L_nil ?_
  refine W_seq ?_
  obtain ⟨x1, hx1, hF⟩ := bind_some hF
  refine W_region ?_
  refine L_mv (v := v0) rfl rfl ?_
  refine L_mv (v := .func (.func fid_1) #[] caps_1) rfl rfl ?_
  refine L_call (args := #[v0, .func (.func fid_1) #[] caps_1]) rfl Try.call94 (ops2 rfl rfl) (slices_IndexFunc_int_c (s := s) (f_ := f_) (Nat.le_trans hB hx.size) (rel0 h0) ⟨_, _, rfl, hcall_1, fun w_ hE_ => hc_1 w_ (ext_trans hx hE_)⟩ hx1) ?_
  rintro _ w3 ⟨rfl, he3⟩
  have h0 := RP.ext h0 he3
  have hx := ext_trans hx he3
  refine L_geq (m := x1) (n := 0) rfl rfl rfl ?_
  refine L_as (v := .bool (decide (x1 ≥ 0))) rfl rfl ?_
  refine L_nil ?_
  refine W_ret ?_
  obtain rfl := so hF
  refine ret1 Try.results85 ?_
  exact ⟨rfl, hx⟩

theorem i_ruleValid_1_c {n_ : Int} {w : World} {B : Nat} (hB : B ≤ w.heap.size) {r : Bool} (hF : i_ruleValid_1 n_ = some r) :
    C Try.prog 86 #[.int .i64 n_] w fun v w' => (v = .bool r) ∧ Ext w w' := by
  unfold i_ruleValid_1 at hF
  have hx := ext_refl w
  refine C_enter Try.func86 rfl Try.ntmps86 rfl ?_
  refine W_seq ?_
  refine W_region ?_
  refine L_as (v := .bool false) rfl rfl ?_
  refine L_nil ?_
  refine W_seq ?_
  obtain ⟨b3, hb3, hF⟩ := bind_some hF
  obtain ⟨R4, hR4⟩ : ∃ R : Fr → World → Prop, R = fun f w_ => f 2 = .bool b3 ∧ Ext w w_ := ⟨_, rfl⟩
  refine W_join R4 ?_ ?_
  ·
    refine W_region ?_
    refine L_mv (v := .int .i64 n_) rfl rfl ?_
    refine L_eql (m := n_) (n := 0) rfl rfl rfl ?_
    refine L_mv (v := .bool (n_ == 0)) rfl rfl ?_
    refine L_split (d := 5) (b := (n_ == 0)) rfl (fun hc5 => ?_) (fun hc5 => ?_)
    ·
      rw [ite_t hc5] at hb3
      refine L_pass rfl ?_
      refine L_pass rfl ?_
      refine L_pass rfl ?_
      refine L_pick (v := .bool b3) rfl rfl (congrArg Value.bool (so hb3)) ?_
      refine L_as (v := .bool b3) rfl rfl ?_
      refine L_nil ?_
      show R4 _ _
      rw [hR4]
      exact ⟨rfl, hx⟩
    ·
      rw [ite_f hc5] at hb3
      obtain ⟨x1, hx1, hb3⟩ := bind_some hb3
      refine L_mv (v := .int .i64 n_) rfl rfl ?_
      refine L_call (args := #[.int .i64 n_, .int .i64 (-9), .int .i64 9]) rfl Try.call48 (ops3 rfl rfl rfl) (i_within_c (n_ := n_) (low := (-9)) (high := 9) (Nat.le_trans hB hx.size) hx1) ?_
      rintro _ w6 ⟨rfl, he6⟩
      have hx := ext_trans hx he6
      refine L_not_ (b := x1) rfl rfl ?_
      refine L_pick (v := .bool b3) rfl rfl (congrArg Value.bool (so hb3)) ?_
      refine L_as (v := .bool b3) rfl rfl ?_
      refine L_nil ?_
      show R4 _ _
      rw [hR4]
      exact ⟨rfl, hx⟩
  ·
    intro f w_ hR
    rw [hR4] at hR
    obtain ⟨sf2, hx⟩ := hR
    clear hR4
    refine W_ret ?_
    obtain rfl := so hF
    refine ret1 Try.results86 ?_
    exact ⟨sf2, hx⟩

theorem slices_IndexFunc_Sint_c {s : List (List Int)} {f_ : (List Int → Option Bool)} {v0 : Value} {v1 : Value} {w : World} {B : Nat} (hB : B ≤ w.heap.size) (h0 : (RP.slice 22 (RP.slice 3 RP.int)).rel B w.heap.size w [v0] s) (h1 : Fun1 Try.prog B (RP.slice 3 RP.int) false Value.bool f_ v1 w) {r : Int} (hF : slices_IndexFunc_Sint s f_ = some r) :
    C Try.prog 95 #[v0, v1] w fun v w' => (v = .int .i64 r) ∧ Ext w w' := by
  unfold slices_IndexFunc_Sint at hF
  obtain ⟨fid_1, caps_1, rfl, hcall_1, hc_1⟩ := h1
  have hx := ext_refl w
  refine C_enter Try.func95 rfl Try.ntmps95 rfl ?_
  refine W_seq ?_
  refine W_region ?_
  refine L_as (v := .int .i64 0) rfl rfl ?_
  refine L_nil ?_
  refine W_seq ?_
  refine W_seq ?_
  refine W_region ?_
  refine L_mv (v := v0) rfl rfl ?_
  refine L_len (v := v0) rfl Try.underlying66 rfl h0 ?_
  refine L_mv (v := .int .i64 0) rfl rfl ?_
  refine L_nil ?_
  have hlen2 := len_le h0
  obtain ⟨j2, hL2, hF⟩ := bind_some hF
  obtain ⟨R2, hR2⟩ : ∃ R : Fr → World → Prop, R = fun f w_ => j2 = .nx () ∧ Ext w w_ := ⟨_, rfl⟩
  refine W_join R2 ?_ ?_
  ·
    refine W_block ?_
    obtain ⟨I2, hI2⟩ : ∃ I : Nat → Fr → World → Prop, I = fun n f w_ => ∃ i_1 : Nat, ∃ suf2 : List (List Int), n = suf2.length ∧ List.drop i_1 s = suf2 ∧ i_1 + suf2.length = s.length ∧ rangeL (slices_IndexFunc_Sint_b1 f_) suf2 i_1 () = some j2 ∧ f 0 = v0 ∧ f 1 = .func (.func fid_1) #[] caps_1 ∧ f 7 = .int .i64 (s.length : Int) ∧ f 8 = .int .i64 (i_1 : Int) ∧ (RP.slice 22 (RP.slice 3 RP.int)).rel B w.heap.size w_ [v0] s ∧ Ext w w_ := ⟨_, rfl⟩
    refine W_loop I2 (n := s.length) ?_ ?_
    · rw [hI2]; exact ⟨0, s, rfl, rfl, Nat.zero_add _, hL2, rfl, rfl, rfl, rfl, h0, hx⟩
    ·
      intro n2 f w_ hI
      rw [hI2] at hI
      obtain ⟨i_1, suf2, rfl, hd2, hl2, hL2, sf0, sf1, sf7, sf8, h0, hx⟩ := hI
      refine W_seq ?_
      refine W_region ?_
      refine L_lss (m := (i_1 : Int)) (n := (s.length : Int)) rfl sf8 sf7 ?_
      refine L_nil ?_
      refine W_seq ?_
      refine W_cond (b := decide ((i_1 : Int) < (s.length : Int))) rfl (fun hc3 => ?_) (fun hc3 => ?_)
      ·
        have hlt2 := of_decide_eq_true hc3
        cases suf2 with
        | nil => exact absurd hlt2 (by simp at hl2; omega)
        | cons x_2 rest2 =>
          obtain ⟨o2, hB2, hL2⟩ := range_cons hL2
          rw [slices_IndexFunc_Sint_b1] at hB2
          have hix2 := drop_idx hd2
          refine W_skip ?_
          refine W_seq ?_
          refine W_block ?_
          refine W_seq ?_
          refine W_region ?_
          refine L_mv (v := .int .i64 (i_1 : Int)) rfl sf8 ?_
          refine L_as (v := .int .i64 (i_1 : Int)) rfl rfl ?_
          refine L_nil ?_
          refine W_seq ?_
          obtain ⟨x6, hx6, hB2⟩ := bind_some hB2
          refine W_region ?_
          refine L_mv (v := .func (.func fid_1) #[] caps_1) rfl sf1 ?_
          refine L_mv (v := v0) rfl sf0 ?_
          refine L_mv (v := .int .i64 (i_1 : Int)) rfl rfl ?_
          refine L_ix (r := (RP.slice 3 RP.int)) rfl Try.underlying66 Try.sizeOf22 rfl h0 rfl hix2 ?_
          intro g7 o8 cs8 hr8 hat8
          obtain ⟨u8, rfl, hu8⟩ := slice1 hr8
          refine L_ld (v := u8) rfl Try.isAgg22 rfl (hat8.cell (j := 0) rfl) ?_
          refine L_callv (args := #[u8]) rfl hcall_1 rfl (ops1 rfl) (hc_1 _ hx [u8] _ _ _ (rel0 hu8) hx6 (args_app rfl)) ?_
          rintro _ w9 ⟨rfl, he9⟩
          have h0 := RP.ext h0 he9
          have hu8 := RP.ext hu8 he9
          have hx := ext_trans hx he9
          refine L_nil ?_
          refine W_cond (b := x6) rfl (fun hc10 => ?_) (fun hc10 => ?_)
          ·
            have hB2 := (ite_t hc10).symm.trans hB2
            refine W_seq ?_
            refine W_region ?_
            refine L_mv (v := .int .i64 (i_1 : Int)) rfl rfl ?_
            refine L_as (v := .int .i64 (i_1 : Int)) rfl rfl ?_
            refine L_nil ?_
            refine W_ret ?_
            obtain rfl := so hB2
            obtain rfl := so hL2
            obtain rfl := so hF
            refine ret1 Try.results95 ?_
            exact ⟨rfl, hx⟩
          ·
            have hB2 := (ite_f hc10).symm.trans hB2
            refine W_skip ?_
            refine W_region ?_
            refine L_add (m := (i_1 : Int)) (n := 1) rfl sf8 rfl ?_
            refine L_mv (v := .int .i64 (i64 ((i_1 : Int) + 1))) rfl rfl ?_
            refine L_nil ?_
            obtain rfl := so hB2
            show ∃ m, m < _ ∧ I2 m _ _
            refine ⟨rest2.length, by simp, ?_⟩
            rw [hI2]
            exact ⟨i_1 + 1, rest2, rfl, drop_next hd2, by simp at hl2; omega, hL2, sf0, sf1, sf7, (Eq.trans rfl (congrArg (Value.int .i64) (i64_succ (n := s.length) (by simp at hl2; omega) hlen2))), h0, hx⟩
      ·
        cases suf2 with
        | cons _ _ => exact absurd (of_decide_eq_false hc3) (by simp at hl2; omega)
        | nil =>
          obtain rfl := range_nil hL2
          refine W_exit ?_
          show R2 _ _
          rw [hR2]
          exact ⟨rfl, hx⟩
  ·
    intro f w_ hR
    rw [hR2] at hR
    obtain ⟨rfl, hx⟩ := hR
    clear hR2
    refine W_seq ?_
    refine W_region ?_
    refine L_as (v := .int .i64 (-1)) rfl rfl ?_
    refine L_nil ?_
    refine W_ret ?_
    obtain rfl := so hF
    refine ret1 Try.results95 ?_
    exact ⟨rfl, hx⟩

theorem slices_ContainsFunc_Sint_c {s : List (List Int)} {f_ : (List Int → Option Bool)} {v0 : Value} {v1 : Value} {w : World} {B : Nat} (hB : B ≤ w.heap.size) (h0 : (RP.slice 22 (RP.slice 3 RP.int)).rel B w.heap.size w [v0] s) (h1 : Fun1 Try.prog B (RP.slice 3 RP.int) false Value.bool f_ v1 w) {r : Bool} (hF : slices_ContainsFunc_Sint s f_ = some r) :
    C Try.prog 87 #[v0, v1] w fun v w' => (v = .bool r) ∧ Ext w w' := by
  unfold slices_ContainsFunc_Sint at hF
  obtain ⟨fid_1, caps_1, rfl, hcall_1, hc_1⟩ := h1
  have hx := ext_refl w
  refine C_enter Try.func87 rfl Try.ntmps87 rfl ?_
  refine W_seq ?_
  refine W_region ?_
  refine L_as (v := .bool false) rfl rfl ?_
  refine L_nil ?_
  refine W_seq ?_
  obtain ⟨x1, hx1, hF⟩ := bind_some hF
  refine W_region ?_
  refine L_mv (v := v0) rfl rfl ?_
  refine L_mv (v := .func (.func fid_1) #[] caps_1) rfl rfl ?_
  refine L_call (args := #[v0, .func (.func fid_1) #[] caps_1]) rfl Try.call95 (ops2 rfl rfl) (slices_IndexFunc_Sint_c (s := s) (f_ := f_) (Nat.le_trans hB hx.size) (rel0 h0) ⟨_, _, rfl, hcall_1, fun w_ hE_ => hc_1 w_ (ext_trans hx hE_)⟩ hx1) ?_
  rintro _ w3 ⟨rfl, he3⟩
  have h0 := RP.ext h0 he3
  have hx := ext_trans hx he3
  refine L_geq (m := x1) (n := 0) rfl rfl rfl ?_
  refine L_as (v := .bool (decide (x1 ≥ 0))) rfl rfl ?_
  refine L_nil ?_
  refine W_ret ?_
  obtain rfl := so hF
  refine ret1 Try.results87 ?_
  exact ⟨rfl, hx⟩

theorem i_ruleValid_2_1_c {n_ : Int} {w : World} {B : Nat} (hB : B ≤ w.heap.size) {r : Bool} (hF : i_ruleValid_2_1 n_ = some r) :
    C Try.prog 89 #[.int .i64 n_] w fun v w' => (v = .bool r) ∧ Ext w w' := by
  unfold i_ruleValid_2_1 at hF
  have hx := ext_refl w
  refine C_enter Try.func89 rfl Try.ntmps89 rfl ?_
  refine W_seq ?_
  refine W_region ?_
  refine L_as (v := .bool false) rfl rfl ?_
  refine L_nil ?_
  refine W_seq ?_
  obtain ⟨x1, hx1, hF⟩ := bind_some hF
  refine W_region ?_
  refine L_mv (v := .int .i64 n_) rfl rfl ?_
  refine L_call (args := #[.int .i64 n_, .int .i64 0, .int .i64 3]) rfl Try.call48 (ops3 rfl rfl rfl) (i_within_c (n_ := n_) (low := 0) (high := 3) (Nat.le_trans hB hx.size) hx1) ?_
  rintro _ w3 ⟨rfl, he3⟩
  have hx := ext_trans hx he3
  refine L_not_ (b := x1) rfl rfl ?_
  refine L_as (v := .bool (!x1)) rfl rfl ?_
  refine L_nil ?_
  refine W_ret ?_
  obtain rfl := so hF
  refine ret1 Try.results89 ?_
  exact ⟨rfl, hx⟩

theorem i_ruleValid_2_c {c1 : Rule} {row : List Int} {v0 : Value} {g_c1 : Nat} {v1_1 : Value} {v1_2 : Value} {v1_4 : Value} {w : World} {B : Nat} (hB : B ≤ w.heap.size) (h0 : (RP.slice 3 RP.int).rel B w.heap.size w [v0] row) (hat_g_c1 : At w g_c1 0 [.int .i64 c1.kind, v1_1, v1_2, .int .i64 c1.bound, v1_4]) (h1_1 : (RP.slice 3 RP.int).rel B w.heap.size w [v1_1] c1.vars) (h1_2 : (RP.slice 3 RP.int).rel B w.heap.size w [v1_2] c1.coefs) (h1_4 : (RP.slice 22 (RP.slice 3 RP.int)).rel B w.heap.size w [v1_4] c1.rows) {r : Bool} (hF : i_ruleValid_2 c1 row = some r) :
    C Try.prog 88 #[v0, .pointer (some ⟨g_c1, 0, none⟩)] w fun v w' => (v = .bool r) ∧ Ext w w' := by
  unfold i_ruleValid_2 at hF
  have hlt_g_c1 := hat_g_c1.lt
  have hx := ext_refl w
  refine C_enter Try.func88 rfl Try.ntmps88 rfl ?_
  refine W_seq ?_
  refine W_region ?_
  refine L_as (v := .bool false) rfl rfl ?_
  refine L_nil ?_
  refine W_seq ?_
  obtain ⟨b3, hb3, hF⟩ := bind_some hF
  obtain ⟨R4, hR4⟩ : ∃ R : Fr → World → Prop, R = fun f w_ => f 3 = .bool b3 ∧ Ext w w_ := ⟨_, rfl⟩
  refine W_join R4 ?_ ?_
  ·
    refine W_region ?_
    refine L_mv (v := v0) rfl rfl ?_
    refine L_len (v := v0) rfl Try.underlying22 rfl h0 ?_
    refine L_fa (o' := 0 + 1) rfl fa_68_1 rfl rfl ?_
    refine L_ld (v := v1_1) rfl Try.isAgg22 rfl (hat_g_c1.cell (j := 1) rfl) ?_
    refine L_len (v := v1_1) rfl Try.underlying22 rfl h1_1 ?_
    refine L_neq (m := (row.length : Int)) (n := (c1.vars.length : Int)) rfl rfl rfl ?_
    refine L_mv (v := .bool ((row.length : Int) != (c1.vars.length : Int))) rfl rfl ?_
    refine L_split (d := 10) (b := ((row.length : Int) != (c1.vars.length : Int))) rfl (fun hc5 => ?_) (fun hc5 => ?_)
    ·
      rw [ite_t hc5] at hb3
      refine L_pass rfl ?_
      refine L_pass rfl ?_
      refine L_pick (v := .bool b3) rfl rfl (congrArg Value.bool (so hb3)) ?_
      refine L_as (v := .bool b3) rfl rfl ?_
      refine L_nil ?_
      show R4 _ _
      rw [hR4]
      exact ⟨rfl, hx⟩
    ·
      rw [ite_f hc5] at hb3
      obtain ⟨x1, hx1, hb3⟩ := bind_some hb3
      refine L_mv (v := v0) rfl rfl ?_
      have hf6 : Fun1 Try.prog B RP.int false Value.bool i_ruleValid_2_1 (.func (.func 89) #[] #[]) w := by
        refine ⟨_, _, rfl, Try.call89, fun w_ hE_ cs_ x_ y_ args_ hr_ hy_ ha_ => ?_⟩
        obtain rfl : cs_ = [_] := hr_
        obtain rfl := args_of (b := #[.int .i64 x_]) ha_
        exact i_ruleValid_2_1_c (n_ := x_) (Nat.le_trans hB (ext_trans hx hE_).size) hy_
      refine L_call (args := #[v0, .func (.func 89) #[] #[]]) rfl Try.call85 (ops2 rfl rfl) (slices_ContainsFunc_int_c (s := row) (f_ := i_ruleValid_2_1) (Nat.le_trans hB hx.size) (rel0 h0) hf6 hx1) ?_
      rintro _ w7 ⟨rfl, he7⟩
      have h0 := RP.ext h0 he7
      have hx := ext_trans hx he7
      refine L_pick (v := .bool b3) rfl rfl (congrArg Value.bool (so hb3)) ?_
      refine L_as (v := .bool b3) rfl rfl ?_
      refine L_nil ?_
      show R4 _ _
      rw [hR4]
      exact ⟨rfl, hx⟩
  ·
    intro f w_ hR
    rw [hR4] at hR
    obtain ⟨sf3, hx⟩ := hR
    clear hR4
    refine W_ret ?_
    obtain rfl := so hF
    refine ret1 Try.results88 ?_
    exact ⟨sf3, hx⟩

end Go.Proofs.Yteojddfaiomfmaa

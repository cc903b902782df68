/- Part of a proof by program: W1. -/
import Derived.Test.YteojddfaiomfmaaD1
import Derived.Test.YteojddfaiomfmaaProg
namespace Go.Proofs.Yteojddfaiomfmaa
open Go Go.E Go.L Go.RowKit
set_option linter.unusedVariables false
set_option linter.unusedSimpArgs false
set_option maxRecDepth 100000

theorem Try_mix : Try.prog.follows .mixedOrders = true := by kernel_rfl
theorem fa_25_0 : FA Try.prog 25 0 0 := fa_of Try.underlying25 rfl Try.sizeOf22 rfl
theorem fa_25_1 : FA Try.prog 25 1 1 := fa_of Try.underlying25 rfl Try.sizeOf23 rfl
theorem fa_30_0 : FA Try.prog 30 0 0 := fa_of Try.underlying30 rfl Try.sizeOf22 rfl
theorem fa_30_1 : FA Try.prog 30 1 1 := fa_of Try.underlying30 rfl Try.sizeOf28 rfl
theorem fa_68_0 : FA Try.prog 68 0 0 := fa_of Try.underlying68 rfl Try.sizeOf3 rfl
theorem fa_68_1 : FA Try.prog 68 1 1 := fa_of Try.underlying68 rfl Try.sizeOf22 rfl
theorem fa_68_2 : FA Try.prog 68 2 2 := fa_of Try.underlying68 rfl Try.sizeOf22 rfl
theorem fa_68_3 : FA Try.prog 68 3 3 := fa_of Try.underlying68 rfl Try.sizeOf3 rfl
theorem fa_68_4 : FA Try.prog 68 4 4 := fa_of Try.underlying68 rfl Try.sizeOf66 rfl
theorem fa_76_0 : FA Try.prog 76 0 0 := fa_of Try.underlying76 rfl Try.sizeOf3 rfl
theorem fa_76_1 : FA Try.prog 76 1 1 := fa_of Try.underlying76 rfl Try.sizeOf22 rfl
theorem fa_76_2 : FA Try.prog 76 2 2 := fa_of Try.underlying76 rfl Try.sizeOf22 rfl
theorem fa_76_3 : FA Try.prog 76 3 3 := fa_of Try.underlying76 rfl Try.sizeOf3 rfl
theorem fa_76_4 : FA Try.prog 76 4 4 := fa_of Try.underlying76 rfl Try.sizeOf66 rfl
theorem et_22 : ET Try.prog 22 3 1 := et_of Try.underlying22 (by decide) (by kernel_rfl)
theorem et_23 : ET Try.prog 23 76 5 := et_of Try.underlying23 (by decide) (by kernel_rfl)
theorem et_28 : ET Try.prog 28 68 5 := et_of Try.underlying28 (by decide) (by kernel_rfl)
theorem et_36 : ET Try.prog 36 46 1 := et_of Try.underlying36 (by decide) (by kernel_rfl)
theorem et_46 : ET Try.prog 46 4 1 := et_of Try.underlying46 (by decide) (by kernel_rfl)
theorem et_66 : ET Try.prog 66 22 1 := et_of Try.underlying66 (by decide) (by kernel_rfl)
theorem bs_22_0  : ∀ w, (Instr.buildSlice 22 0 #[]).run Try.prog w = .ok (.slice (some ⟨w.heap.size, 0, none⟩) 0 0) (w.alloc (.cells #[] 3)) := by
  intro w
  simp [Instr.buildSlice, Instr.fill, newRow, Try.runUnderlying22, Try.sizeOf3, cells_agg, cells_int, cells_bool, cells_str, cells_sl, Array.range_succ, range0]
theorem bs_22_1_0 (a0 : Value) (ha0 : a0.oneCell' = true) : ∀ w, (Instr.buildSlice 22 1 #[(0, a0)]).run Try.prog w = .ok (.slice (some ⟨w.heap.size, 0, none⟩) 1 1) (w.alloc (.cells #[a0] 3)) := by
  intro w
  simp [Instr.buildSlice, Instr.fill, newRow, Try.zeroValue3, Try.runUnderlying22, Try.sizeOf3, cells_one ha0, cells_agg, cells_int, cells_bool, cells_str, cells_sl, Array.range_succ, range0]
theorem bs_46_0  : ∀ w, (Instr.buildSlice 46 0 #[]).run Try.prog w = .ok (.slice (some ⟨w.heap.size, 0, none⟩) 0 0) (w.alloc (.cells #[] 4)) := by
  intro w
  simp [Instr.buildSlice, Instr.fill, newRow, Try.runUnderlying46, Try.sizeOf4, cells_agg, cells_int, cells_bool, cells_str, cells_sl, Array.range_succ, range0]
theorem l_szIntS_c {a : List Int} {left : Int} {v0 : Value} {H : FH} {w : World} (hst : Star H w []) (h0 : (RP.slice 3 RP.int).rel H [v0] a) {r : Int} (hF : l_szIntS a left = some r) :
    C Try.prog 42 #[v0, .int .i64 left] w fun v w' => v = .int .i64 r ∧ Star H w' [] := by
  unfold l_szIntS at hF
  refine C_enter Try.func42 rfl Try.ntmps42 rfl ?_
  refine W_seq ?_
  refine W_region ?_
  refine L_as (v := .int .i64 0) rfl rfl ?_
  refine L_nil ?_
  refine W_seq ?_
  refine W_region ?_
  refine L_mv (v := .int .i64 left) rfl rfl ?_
  refine L_mv (v := v0) rfl rfl ?_
  refine L_len (v := v0) (n := List.length a) rfl Try.underlying22 rfl (slice_len h0) ?_
  refine L_sub (m := left) (n := (a.length : Int)) rfl rfl rfl ?_
  refine L_as (v := .int .i64 (i64 (left - (a.length : Int)))) rfl rfl ?_
  refine L_nil ?_
  refine W_seq ?_
  refine W_seq ?_
  refine W_region ?_
  refine L_mv (v := .int .i64 (i64 (left - (a.length : Int)))) rfl rfl ?_
  refine L_lss (m := i64 (left - (a.length : Int))) (n := 0) rfl rfl rfl ?_
  refine L_nil ?_
  refine W_cond (b := decide ((i64 (left - (a.length : Int))) < 0)) rfl (fun hc1 => ?_) (fun hc1 => ?_)
  ·
    have hF := (ite_t hc1).symm.trans hF
    refine W_seq ?_
    refine W_region ?_
    refine L_as (v := .int .i64 (-1)) rfl rfl ?_
    refine L_nil ?_
    refine W_ret ?_
    refine retG1 (v1 := .int .i64 (-1)) Try.results42 rfl ?_
    obtain rfl := so hF
    exact ⟨rfl, hst⟩
  ·
    have hF := (ite_f hc1).symm.trans hF
    refine W_skip ?_
    refine W_seq ?_
    refine W_region ?_
    refine L_mv (v := .int .i64 (i64 (left - (a.length : Int)))) rfl rfl ?_
    refine L_as (v := .int .i64 (i64 (left - (a.length : Int)))) rfl rfl ?_
    refine L_nil ?_
    refine W_ret ?_
    refine retG1 (v1 := .int .i64 (i64 (left - (a.length : Int)))) Try.results42 rfl ?_
    obtain rfl := so hF
    exact ⟨rfl, hst⟩

theorem l_szIntSS_c {a : List (List Int)} {left : Int} {v0 : Value} {H : FH} {w : World} (hst : Star H w []) (h0 : (RP.slice 22 (RP.slice 3 RP.int)).rel H [v0] a) {r : Int} (hF : l_szIntSS a left = some r) :
    C Try.prog 78 #[v0, .int .i64 left] w fun v w' => v = .int .i64 r ∧ Star H w' [] := by
  unfold l_szIntSS at hF
  refine C_enter Try.func78 rfl Try.ntmps78 rfl ?_
  refine W_seq ?_
  refine W_region ?_
  refine L_as (v := .int .i64 0) rfl rfl ?_
  refine L_nil ?_
  refine W_seq ?_
  refine W_region ?_
  refine L_mv (v := .int .i64 left) rfl rfl ?_
  refine L_mv (v := v0) rfl rfl ?_
  refine L_len (v := v0) (n := List.length a) rfl Try.underlying66 rfl (slice_len h0) ?_
  refine L_sub (m := left) (n := (a.length : Int)) rfl rfl rfl ?_
  refine L_as (v := .int .i64 (i64 (left - (a.length : Int)))) rfl rfl ?_
  refine L_nil ?_
  refine W_seq ?_
  refine W_seq ?_
  refine W_region ?_
  refine L_mv (v := .int .i64 (i64 (left - (a.length : Int)))) rfl rfl ?_
  refine L_lss (m := i64 (left - (a.length : Int))) (n := 0) rfl rfl rfl ?_
  refine L_nil ?_
  refine W_cond (b := decide ((i64 (left - (a.length : Int))) < 0)) rfl (fun hc1 => ?_) (fun hc1 => ?_)
  ·
    have hF := (ite_t hc1).symm.trans hF
    refine W_seq ?_
    refine W_region ?_
    refine L_as (v := .int .i64 (-1)) rfl rfl ?_
    refine L_nil ?_
    refine W_ret ?_
    refine retG1 (v1 := .int .i64 (-1)) Try.results78 rfl ?_
    obtain rfl := so hF
    exact ⟨rfl, hst⟩
  ·
    have hF := (ite_f hc1).symm.trans hF
    refine W_skip ?_
    refine W_seq ?_
    refine W_seq ?_
    refine W_region ?_
    refine L_as (v := .int .i64 0) rfl rfl ?_
    refine L_nil ?_
    have hlen4 : List.length a ≤ 9223372036854775807 := len_le (slice_len h0)
    obtain ⟨j4, hL4, hF⟩ := bind_some hF
    obtain ⟨R4, hR4⟩ : ∃ R : Fr → World → Prop, R = fun f w_ => ∃ left_3 : Int, j4 = .nx left_3 ∧ f 1 = .int .i64 left_3 ∧ Star H w_ ([]) := ⟨_, rfl⟩
    refine W_join R4 ?_ ?_
    ·
      refine W_block ?_
      obtain ⟨I4, hI4⟩ : ∃ I : Nat → Fr → World → Prop, I = fun n f w_ => ∃ i_2 : Nat, ∃ suf4 : List (List Int), ∃ left_3 : Int, n = suf4.length ∧ List.drop i_2 a = suf4 ∧ i_2 + suf4.length = a.length ∧ rangeL l_szIntSS_b1 suf4 i_2 left_3 = some j4 ∧ f 0 = v0 ∧ f 1 = .int .i64 left_3 ∧ f 5 = .int .i64 (i_2 : Int) ∧ Star H w_ ([]) := ⟨_, rfl⟩
      refine W_loop I4 (n := a.length) ?_ ?_
      · rw [hI4]; exact ⟨0, a, i64 (left - (a.length : Int)), rfl, rfl, Nat.zero_add _, hL4, rfl, rfl, rfl, hst⟩
      ·
        clear hst
        intro n4 f w_ hI
        rw [hI4] at hI
        obtain ⟨i_2, suf4, left_3, rfl, hd4, hl4, hL4, sf0, sf1, sf5, hst⟩ := hI
        refine W_seq ?_
        refine W_seq ?_
        refine W_region ?_
        refine L_mv (v := .int .i64 (i_2 : Int)) rfl sf5 ?_
        refine L_mv (v := v0) rfl sf0 ?_
        refine L_len (v := v0) (n := List.length a) rfl Try.underlying66 rfl (slice_len h0) ?_
        refine L_lss (m := (i_2 : Int)) (n := (a.length : Int)) rfl rfl rfl ?_
        refine L_nil ?_
        refine W_cond (b := decide ((i_2 : Int) < (a.length : Int))) rfl (fun hc5 => ?_) (fun hc5 => ?_)
        ·
          have hlt4 := of_decide_eq_true hc5
          cases suf4 with
          | nil => exact absurd hlt4 (by simp at hl4; omega)
          | cons x_4 rest4 =>
            obtain ⟨o4, hB4, hL4⟩ := range_cons hL4
            rw [l_szIntSS_b1] at hB4
            have hix4 := drop_idx hd4
            refine W_skip ?_
            refine W_seq ?_
            refine W_block ?_
            refine W_seq ?_
            obtain ⟨x15, hx15, hB4⟩ := bind_some hB4
            refine W_region ?_
            refine L_mv (v := v0) rfl sf0 ?_
            refine L_mv (v := .int .i64 (i_2 : Int)) rfl sf5 ?_
            refine L_ix (r := (RP.slice 3 RP.int)) rfl Try.underlying66 Try.sizeOf22 rfl h0 rfl hix4 ?_
            intro g17 o18 cs_g17 hrk_hat19 hat19
            obtain ⟨u20, rfl, hu20⟩ := slice1 hrk_hat19
            refine L_ld (v := u20) rfl Try.isAgg22 rfl (At.cell (AtH.at hat19 hst.sub) (j := 0) rfl) ?_
            refine L_mv (v := .int .i64 left_3) rfl sf1 ?_
            obtain ⟨Hb21, hle22, hsb23, hfz24, hbk25⟩ := Star.borrow hst
            refine L_call (args := #[u20, .int .i64 left_3]) rfl Try.call42 (ops2 rfl rfl) (l_szIntS_c (a := x_4) (left := left_3) hsb23 (RP.mono _ hu20 hle22) hx15) ?_
            rintro _ w26 ⟨rfl, hst⟩
            have hst := hbk25 hst closedL_nil
            refine L_as (v := .int .i64 x15) rfl rfl ?_
            refine L_nil ?_
            refine W_seq ?_
            refine W_region ?_
            refine L_mv (v := .int .i64 x15) rfl rfl ?_
            refine L_lss (m := x15) (n := 0) rfl rfl rfl ?_
            refine L_nil ?_
            refine W_cond (b := decide (x15 < 0)) rfl (fun hc27 => ?_) (fun hc27 => ?_)
            ·
              have hB4 := (ite_t hc27).symm.trans hB4
              refine W_seq ?_
              refine W_region ?_
              refine L_as (v := .int .i64 (-1)) rfl rfl ?_
              refine L_nil ?_
              refine W_ret ?_
              refine retG1 (v1 := .int .i64 (-1)) Try.results78 rfl ?_
              obtain rfl := so hB4
              obtain rfl := so hL4
              obtain rfl := so hF
              exact ⟨rfl, hst⟩
            ·
              have hB4 := (ite_f hc27).symm.trans hB4
              refine W_skip ?_
              refine W_region ?_
              refine L_mv (v := .int .i64 (i_2 : Int)) rfl sf5 ?_
              refine L_add (m := (i_2 : Int)) (n := 1) rfl rfl rfl ?_
              refine L_as (v := .int .i64 (i64 ((i_2 : Int) + 1))) rfl rfl ?_
              refine L_nil ?_
              obtain rfl := so hB4
              show ∃ m, m < _ ∧ I4 m _ _
              refine ⟨rest4.length, by simp, ?_⟩
              rw [hI4]
              exact ⟨i_2 + 1, rest4, x15, rfl, drop_next hd4, by simp at hl4; omega, hL4, sf0, rfl, (Eq.trans rfl (congrArg (Value.int .i64) (i64_succ (n := a.length) (by simp at hl4; omega) hlen4))), hst⟩
        ·
          cases suf4 with
          | cons _ _ => exact absurd (of_decide_eq_false hc5) (by simp at hl4; omega)
          | nil =>
            obtain rfl := range_nil hL4
            refine W_exit ?_
            show R4 _ _
            rw [hR4]
            exact ⟨left_3, rfl, sf1, hst⟩
    ·
      clear hst
      intro f w_ hR
      rw [hR4] at hR
      obtain ⟨left_3, rfl, sf1, hst⟩ := hR
      clear hR4
      refine W_seq ?_
      refine W_region ?_
      refine L_mv (v := .int .i64 left_3) rfl sf1 ?_
      refine L_as (v := .int .i64 left_3) rfl rfl ?_
      refine L_nil ?_
      refine W_ret ?_
      refine retG1 (v1 := .int .i64 left_3) Try.results78 rfl ?_
      obtain rfl := so hF
      exact ⟨rfl, hst⟩

theorem l_szRule_c {a : Rule} {left : Int} {v0_1 : Value} {v0_2 : Value} {v0_4 : Value} {H : FH} {w : World} (hst : Star H w []) (h0_1 : (RP.slice 3 RP.int).rel H [v0_1] a.vars) (h0_2 : (RP.slice 3 RP.int).rel H [v0_2] a.coefs) (h0_4 : (RP.slice 22 (RP.slice 3 RP.int)).rel H [v0_4] a.rows) {r : Int} (hF : l_szRule a left = some r) :
    C Try.prog 65 #[.agg #[.int .i64 a.kind, v0_1, v0_2, .int .i64 a.bound, v0_4], .int .i64 left] w fun v w' => v = .int .i64 r ∧ Star H w' [] := by
  unfold l_szRule at hF
  refine C_enter Try.func65 rfl Try.ntmps65 rfl ?_
  refine W_seq ?_
  refine W_region ?_
  refine L_box (v := .agg #[.int .i64 a.kind, v0_1, v0_2, .int .i64 a.bound, v0_4]) (cs := #[.int .i64 a.kind, v0_1, v0_2, .int .i64 a.bound, v0_4]) rfl rfl rfl hst ?_
  intro g3 w4 hst
  refine L_as (v := .int .i64 0) rfl rfl ?_
  refine L_nil ?_
  refine W_seq ?_
  obtain ⟨x10, hx10, hF⟩ := bind_some hF
  refine W_region ?_
  refine L_fa (o' := 1) rfl fa_76_1 rfl rfl ?_
  refine L_ld (v := v0_1) rfl Try.isAgg22 rfl (At.cell0 (Blk.at (Star.blkAt 0 hst rfl)) (j := 1) rfl) ?_
  refine L_mv (v := .int .i64 left) rfl rfl ?_
  obtain ⟨Hb12, hle13, hsb14, hfz15, hbk16⟩ := Star.borrow hst
  refine L_call (args := #[v0_1, .int .i64 left]) rfl Try.call42 (ops2 rfl rfl) (l_szIntS_c (a := a.vars) (left := left) hsb14 (RP.mono _ h0_1 hle13) hx10) ?_
  rintro _ w17 ⟨rfl, hst⟩
  have hst := hbk16 hst closedL_nil
  refine L_as (v := .int .i64 x10) rfl rfl ?_
  refine L_nil ?_
  refine W_seq ?_
  refine W_seq ?_
  refine W_region ?_
  refine L_mv (v := .int .i64 x10) rfl rfl ?_
  refine L_lss (m := x10) (n := 0) rfl rfl rfl ?_
  refine L_nil ?_
  refine W_cond (b := decide (x10 < 0)) rfl (fun hc18 => ?_) (fun hc18 => ?_)
  ·
    have hF := (ite_t hc18).symm.trans hF
    refine W_seq ?_
    refine W_region ?_
    refine L_as (v := .int .i64 (-1)) rfl rfl ?_
    refine L_nil ?_
    refine W_ret ?_
    refine retG1 (v1 := .int .i64 (-1)) Try.results65 rfl ?_
    obtain rfl := so hF
    exact ⟨rfl, (Star.keepN 0 hst)⟩
  ·
    have hF := (ite_f hc18).symm.trans hF
    refine W_skip ?_
    refine W_seq ?_
    obtain ⟨x24, hx24, hF⟩ := bind_some hF
    refine W_region ?_
    refine L_fa (o' := 2) rfl fa_76_2 rfl rfl ?_
    refine L_ld (v := v0_2) rfl Try.isAgg22 rfl (At.cell0 (Blk.at (Star.blkAt 0 hst rfl)) (j := 2) rfl) ?_
    refine L_mv (v := .int .i64 x10) rfl rfl ?_
    obtain ⟨Hb26, hle27, hsb28, hfz29, hbk30⟩ := Star.borrow hst
    refine L_call (args := #[v0_2, .int .i64 x10]) rfl Try.call42 (ops2 rfl rfl) (l_szIntS_c (a := a.coefs) (left := x10) hsb28 (RP.mono _ h0_2 hle27) hx24) ?_
    rintro _ w31 ⟨rfl, hst⟩
    have hst := hbk30 hst closedL_nil
    refine L_as (v := .int .i64 x24) rfl rfl ?_
    refine L_nil ?_
    refine W_seq ?_
    refine W_seq ?_
    refine W_region ?_
    refine L_mv (v := .int .i64 x24) rfl rfl ?_
    refine L_lss (m := x24) (n := 0) rfl rfl rfl ?_
    refine L_nil ?_
    refine W_cond (b := decide (x24 < 0)) rfl (fun hc32 => ?_) (fun hc32 => ?_)
    ·
      have hF := (ite_t hc32).symm.trans hF
      refine W_seq ?_
      refine W_region ?_
      refine L_as (v := .int .i64 (-1)) rfl rfl ?_
      refine L_nil ?_
      refine W_ret ?_
      refine retG1 (v1 := .int .i64 (-1)) Try.results65 rfl ?_
      obtain rfl := so hF
      exact ⟨rfl, (Star.keepN 0 hst)⟩
    ·
      have hF := (ite_f hc32).symm.trans hF
      refine W_skip ?_
      refine W_seq ?_
      obtain ⟨x38, hx38, hF⟩ := bind_some hF
      refine W_region ?_
      refine L_fa (o' := 4) rfl fa_76_4 rfl rfl ?_
      refine L_ld (v := v0_4) rfl Try.isAgg66 rfl (At.cell0 (Blk.at (Star.blkAt 0 hst rfl)) (j := 4) rfl) ?_
      refine L_mv (v := .int .i64 x24) rfl rfl ?_
      obtain ⟨Hb40, hle41, hsb42, hfz43, hbk44⟩ := Star.borrow hst
      refine L_call (args := #[v0_4, .int .i64 x24]) rfl Try.call78 (ops2 rfl rfl) (l_szIntSS_c (a := a.rows) (left := x24) hsb42 (RP.mono _ h0_4 hle41) hx38) ?_
      rintro _ w45 ⟨rfl, hst⟩
      have hst := hbk44 hst closedL_nil
      refine L_as (v := .int .i64 x38) rfl rfl ?_
      refine L_nil ?_
      refine W_seq ?_
      refine W_seq ?_
      refine W_region ?_
      refine L_mv (v := .int .i64 x38) rfl rfl ?_
      refine L_lss (m := x38) (n := 0) rfl rfl rfl ?_
      refine L_nil ?_
      refine W_cond (b := decide (x38 < 0)) rfl (fun hc46 => ?_) (fun hc46 => ?_)
      ·
        have hF := (ite_t hc46).symm.trans hF
        refine W_seq ?_
        refine W_region ?_
        refine L_as (v := .int .i64 (-1)) rfl rfl ?_
        refine L_nil ?_
        refine W_ret ?_
        refine retG1 (v1 := .int .i64 (-1)) Try.results65 rfl ?_
        obtain rfl := so hF
        exact ⟨rfl, (Star.keepN 0 hst)⟩
      ·
        have hF := (ite_f hc46).symm.trans hF
        refine W_skip ?_
        refine W_seq ?_
        refine W_region ?_
        refine L_mv (v := .int .i64 x38) rfl rfl ?_
        refine L_as (v := .int .i64 x38) rfl rfl ?_
        refine L_nil ?_
        refine W_ret ?_
        refine retG1 (v1 := .int .i64 x38) Try.results65 rfl ?_
        obtain rfl := so hF
        exact ⟨rfl, (Star.keepN 0 hst)⟩

theorem l_szRuleS_c {a : List Rule} {left : Int} {v0 : Value} {H : FH} {w : World} (hst : Star H w []) (h0 : (RP.slice 76 (rRule 3 22)).rel H [v0] a) {r : Int} (hF : l_szRuleS a left = some r) :
    C Try.prog 43 #[v0, .int .i64 left] w fun v w' => v = .int .i64 r ∧ Star H w' [] := by
  unfold l_szRuleS at hF
  refine C_enter Try.func43 rfl Try.ntmps43 rfl ?_
  refine W_seq ?_
  refine W_region ?_
  refine L_as (v := .int .i64 0) rfl rfl ?_
  refine L_nil ?_
  refine W_seq ?_
  refine W_region ?_
  refine L_mv (v := .int .i64 left) rfl rfl ?_
  refine L_mv (v := v0) rfl rfl ?_
  refine L_len (v := v0) (n := List.length a) rfl Try.underlying23 rfl (slice_len h0) ?_
  refine L_sub (m := left) (n := (a.length : Int)) rfl rfl rfl ?_
  refine L_as (v := .int .i64 (i64 (left - (a.length : Int)))) rfl rfl ?_
  refine L_nil ?_
  refine W_seq ?_
  refine W_seq ?_
  refine W_region ?_
  refine L_mv (v := .int .i64 (i64 (left - (a.length : Int)))) rfl rfl ?_
  refine L_lss (m := i64 (left - (a.length : Int))) (n := 0) rfl rfl rfl ?_
  refine L_nil ?_
  refine W_cond (b := decide ((i64 (left - (a.length : Int))) < 0)) rfl (fun hc1 => ?_) (fun hc1 => ?_)
  ·
    have hF := (ite_t hc1).symm.trans hF
    refine W_seq ?_
    refine W_region ?_
    refine L_as (v := .int .i64 (-1)) rfl rfl ?_
    refine L_nil ?_
    refine W_ret ?_
    refine retG1 (v1 := .int .i64 (-1)) Try.results43 rfl ?_
    obtain rfl := so hF
    exact ⟨rfl, hst⟩
  ·
    have hF := (ite_f hc1).symm.trans hF
    refine W_skip ?_
    refine W_seq ?_
    refine W_seq ?_
    refine W_region ?_
    refine L_as (v := .int .i64 0) rfl rfl ?_
    refine L_nil ?_
    have hlen4 : List.length a ≤ 9223372036854775807 := len_le (slice_len h0)
    obtain ⟨j4, hL4, hF⟩ := bind_some hF
    obtain ⟨R4, hR4⟩ : ∃ R : Fr → World → Prop, R = fun f w_ => ∃ left_3 : Int, j4 = .nx left_3 ∧ f 1 = .int .i64 left_3 ∧ Star H w_ ([]) := ⟨_, rfl⟩
    refine W_join R4 ?_ ?_
    ·
      refine W_block ?_
      obtain ⟨I4, hI4⟩ : ∃ I : Nat → Fr → World → Prop, I = fun n f w_ => ∃ i_2 : Nat, ∃ suf4 : List Rule, ∃ left_3 : Int, n = suf4.length ∧ List.drop i_2 a = suf4 ∧ i_2 + suf4.length = a.length ∧ rangeL l_szRuleS_b1 suf4 i_2 left_3 = some j4 ∧ f 0 = v0 ∧ f 1 = .int .i64 left_3 ∧ f 5 = .int .i64 (i_2 : Int) ∧ Star H w_ ([]) := ⟨_, rfl⟩
      refine W_loop I4 (n := a.length) ?_ ?_
      · rw [hI4]; exact ⟨0, a, i64 (left - (a.length : Int)), rfl, rfl, Nat.zero_add _, hL4, rfl, rfl, rfl, hst⟩
      ·
        clear hst
        intro n4 f w_ hI
        rw [hI4] at hI
        obtain ⟨i_2, suf4, left_3, rfl, hd4, hl4, hL4, sf0, sf1, sf5, hst⟩ := hI
        refine W_seq ?_
        refine W_seq ?_
        refine W_region ?_
        refine L_mv (v := .int .i64 (i_2 : Int)) rfl sf5 ?_
        refine L_mv (v := v0) rfl sf0 ?_
        refine L_len (v := v0) (n := List.length a) rfl Try.underlying23 rfl (slice_len h0) ?_
        refine L_lss (m := (i_2 : Int)) (n := (a.length : Int)) rfl rfl rfl ?_
        refine L_nil ?_
        refine W_cond (b := decide ((i_2 : Int) < (a.length : Int))) rfl (fun hc5 => ?_) (fun hc5 => ?_)
        ·
          have hlt4 := of_decide_eq_true hc5
          cases suf4 with
          | nil => exact absurd hlt4 (by simp at hl4; omega)
          | cons x_4 rest4 =>
            obtain ⟨o4, hB4, hL4⟩ := range_cons hL4
            rw [l_szRuleS_b1] at hB4
            have hix4 := drop_idx hd4
            refine W_skip ?_
            refine W_seq ?_
            refine W_block ?_
            refine W_seq ?_
            obtain ⟨x15, hx15, hB4⟩ := bind_some hB4
            refine W_region ?_
            refine L_mv (v := v0) rfl sf0 ?_
            refine L_mv (v := .int .i64 (i_2 : Int)) rfl sf5 ?_
            refine L_ix (r := (rRule 3 22)) rfl Try.underlying23 Try.sizeOf76 rfl h0 rfl hix4 ?_
            intro g17 o18 cs_g17 hrk_hat19 hat19
            obtain ⟨u20_0, u20_1, u20_2, rfl, hu20_0, hu20_1, hu20_2⟩ := rRule_iff.1 hrk_hat19
            refine L_lda (cs := [.int .i64 x_4.kind, u20_0, u20_1, .int .i64 x_4.bound, u20_2]) rfl Try.isAgg76 Try.sizeOf76 rfl (At.sub (AtH.at hat19 hst.sub) 0 5) rfl ?_
            refine L_mv (v := .int .i64 left_3) rfl sf1 ?_
            obtain ⟨Hb21, hle22, hsb23, hfz24, hbk25⟩ := Star.borrow hst
            refine L_call (args := #[.agg #[.int .i64 x_4.kind, u20_0, u20_1, .int .i64 x_4.bound, u20_2], .int .i64 left_3]) rfl Try.call65 (ops2 rfl rfl) (l_szRule_c (a := x_4) (left := left_3) hsb23 (RP.mono _ hu20_0 hle22) (RP.mono _ hu20_1 hle22) (RP.mono _ hu20_2 hle22) hx15) ?_
            rintro _ w26 ⟨rfl, hst⟩
            have hst := hbk25 hst closedL_nil
            refine L_as (v := .int .i64 x15) rfl rfl ?_
            refine L_nil ?_
            refine W_seq ?_
            refine W_region ?_
            refine L_mv (v := .int .i64 x15) rfl rfl ?_
            refine L_lss (m := x15) (n := 0) rfl rfl rfl ?_
            refine L_nil ?_
            refine W_cond (b := decide (x15 < 0)) rfl (fun hc27 => ?_) (fun hc27 => ?_)
            ·
              have hB4 := (ite_t hc27).symm.trans hB4
              refine W_seq ?_
              refine W_region ?_
              refine L_as (v := .int .i64 (-1)) rfl rfl ?_
              refine L_nil ?_
              refine W_ret ?_
              refine retG1 (v1 := .int .i64 (-1)) Try.results43 rfl ?_
              obtain rfl := so hB4
              obtain rfl := so hL4
              obtain rfl := so hF
              exact ⟨rfl, hst⟩
            ·
              have hB4 := (ite_f hc27).symm.trans hB4
              refine W_skip ?_
              refine W_region ?_
              refine L_mv (v := .int .i64 (i_2 : Int)) rfl sf5 ?_
              refine L_add (m := (i_2 : Int)) (n := 1) rfl rfl rfl ?_
              refine L_as (v := .int .i64 (i64 ((i_2 : Int) + 1))) rfl rfl ?_
              refine L_nil ?_
              obtain rfl := so hB4
              show ∃ m, m < _ ∧ I4 m _ _
              refine ⟨rest4.length, by simp, ?_⟩
              rw [hI4]
              exact ⟨i_2 + 1, rest4, x15, rfl, drop_next hd4, by simp at hl4; omega, hL4, sf0, rfl, (Eq.trans rfl (congrArg (Value.int .i64) (i64_succ (n := a.length) (by simp at hl4; omega) hlen4))), hst⟩
        ·
          cases suf4 with
          | cons _ _ => exact absurd (of_decide_eq_false hc5) (by simp at hl4; omega)
          | nil =>
            obtain rfl := range_nil hL4
            refine W_exit ?_
            show R4 _ _
            rw [hR4]
            exact ⟨left_3, rfl, sf1, hst⟩
    ·
      clear hst
      intro f w_ hR
      rw [hR4] at hR
      obtain ⟨left_3, rfl, sf1, hst⟩ := hR
      clear hR4
      refine W_seq ?_
      refine W_region ?_
      refine L_mv (v := .int .i64 left_3) rfl sf1 ?_
      refine L_as (v := .int .i64 left_3) rfl rfl ?_
      refine L_nil ?_
      refine W_ret ?_
      refine retG1 (v1 := .int .i64 left_3) Try.results43 rfl ?_
      obtain rfl := so hF
      exact ⟨rfl, hst⟩

theorem l_szModel_c {a : Model} {left : Int} {v0_0 : Value} {v0_1 : Value} {H : FH} {w : World} (hst : Star H w []) (h0_0 : (RP.slice 3 RP.int).rel H [v0_0] a.sizes) (h0_1 : (RP.slice 76 (rRule 3 22)).rel H [v0_1] a.rules) {r : Int} (hF : l_szModel a left = some r) :
    C Try.prog 11 #[.agg #[v0_0, v0_1], .int .i64 left] w fun v w' => v = .int .i64 r ∧ Star H w' [] := by
  unfold l_szModel at hF
  refine C_enter Try.func11 rfl Try.ntmps11 rfl ?_
  refine W_seq ?_
  refine W_region ?_
  refine L_box (v := .agg #[v0_0, v0_1]) (cs := #[v0_0, v0_1]) rfl rfl rfl hst ?_
  intro g3 w4 hst
  refine L_as (v := .int .i64 0) rfl rfl ?_
  refine L_nil ?_
  refine W_seq ?_
  obtain ⟨x10, hx10, hF⟩ := bind_some hF
  refine W_region ?_
  refine L_fa (o' := 0) rfl fa_25_0 rfl rfl ?_
  refine L_ld (v := v0_0) rfl Try.isAgg22 rfl (At.cell0 (Blk.at (Star.blkAt 0 hst rfl)) (j := 0) rfl) ?_
  refine L_mv (v := .int .i64 left) rfl rfl ?_
  obtain ⟨Hb12, hle13, hsb14, hfz15, hbk16⟩ := Star.borrow hst
  refine L_call (args := #[v0_0, .int .i64 left]) rfl Try.call42 (ops2 rfl rfl) (l_szIntS_c (a := a.sizes) (left := left) hsb14 (RP.mono _ h0_0 hle13) hx10) ?_
  rintro _ w17 ⟨rfl, hst⟩
  have hst := hbk16 hst closedL_nil
  refine L_as (v := .int .i64 x10) rfl rfl ?_
  refine L_nil ?_
  refine W_seq ?_
  refine W_seq ?_
  refine W_region ?_
  refine L_mv (v := .int .i64 x10) rfl rfl ?_
  refine L_lss (m := x10) (n := 0) rfl rfl rfl ?_
  refine L_nil ?_
  refine W_cond (b := decide (x10 < 0)) rfl (fun hc18 => ?_) (fun hc18 => ?_)
  ·
    have hF := (ite_t hc18).symm.trans hF
    refine W_seq ?_
    refine W_region ?_
    refine L_as (v := .int .i64 (-1)) rfl rfl ?_
    refine L_nil ?_
    refine W_ret ?_
    refine retG1 (v1 := .int .i64 (-1)) Try.results11 rfl ?_
    obtain rfl := so hF
    exact ⟨rfl, (Star.keepN 0 hst)⟩
  ·
    have hF := (ite_f hc18).symm.trans hF
    refine W_skip ?_
    refine W_seq ?_
    obtain ⟨x24, hx24, hF⟩ := bind_some hF
    refine W_region ?_
    refine L_fa (o' := 1) rfl fa_25_1 rfl rfl ?_
    refine L_ld (v := v0_1) rfl Try.isAgg23 rfl (At.cell0 (Blk.at (Star.blkAt 0 hst rfl)) (j := 1) rfl) ?_
    refine L_mv (v := .int .i64 x10) rfl rfl ?_
    obtain ⟨Hb26, hle27, hsb28, hfz29, hbk30⟩ := Star.borrow hst
    refine L_call (args := #[v0_1, .int .i64 x10]) rfl Try.call43 (ops2 rfl rfl) (l_szRuleS_c (a := a.rules) (left := x10) hsb28 (RP.mono _ h0_1 hle27) hx24) ?_
    rintro _ w31 ⟨rfl, hst⟩
    have hst := hbk30 hst closedL_nil
    refine L_as (v := .int .i64 x24) rfl rfl ?_
    refine L_nil ?_
    refine W_seq ?_
    refine W_seq ?_
    refine W_region ?_
    refine L_mv (v := .int .i64 x24) rfl rfl ?_
    refine L_lss (m := x24) (n := 0) rfl rfl rfl ?_
    refine L_nil ?_
    refine W_cond (b := decide (x24 < 0)) rfl (fun hc32 => ?_) (fun hc32 => ?_)
    ·
      have hF := (ite_t hc32).symm.trans hF
      refine W_seq ?_
      refine W_region ?_
      refine L_as (v := .int .i64 (-1)) rfl rfl ?_
      refine L_nil ?_
      refine W_ret ?_
      refine retG1 (v1 := .int .i64 (-1)) Try.results11 rfl ?_
      obtain rfl := so hF
      exact ⟨rfl, (Star.keepN 0 hst)⟩
    ·
      have hF := (ite_f hc32).symm.trans hF
      refine W_skip ?_
      refine W_seq ?_
      refine W_region ?_
      refine L_mv (v := .int .i64 x24) rfl rfl ?_
      refine L_as (v := .int .i64 x24) rfl rfl ?_
      refine L_nil ?_
      refine W_ret ?_
      refine retG1 (v1 := .int .i64 x24) Try.results11 rfl ?_
      obtain rfl := so hF
      exact ⟨rfl, (Star.keepN 0 hst)⟩

theorem s_l6Vars_c {m : Model} {list : List Int} {v0_0 : Value} {v0_1 : Value} {v1 : Value} {H : FH} {w : World} (hst : Star H w []) (h0_0 : (RP.slice 3 RP.int).rel H [v0_0] m.sizes) (h0_1 : (RP.slice 68 (rRule 3 22)).rel H [v0_1] m.rules) (h1 : (RP.slice 3 RP.int).rel H [v1] list) {r : Bool} (hF : s_l6Vars m list = some r) :
    C Try.prog 79 #[.agg #[v0_0, v0_1], v1] w fun v w' => v = .bool r ∧ Star H w' [] := by
  unfold s_l6Vars at hF
  refine C_enter Try.func79 rfl Try.ntmps79 rfl ?_
  refine W_seq ?_
  refine W_region ?_
  refine L_box (v := .agg #[v0_0, v0_1]) (cs := #[v0_0, v0_1]) rfl rfl rfl hst ?_
  intro g3 w4 hst
  refine L_as (v := .bool false) rfl rfl ?_
  refine L_nil ?_
  refine W_seq ?_
  refine W_seq ?_
  refine W_region ?_
  refine L_as (v := .int .i64 0) rfl rfl ?_
  refine L_nil ?_
  have hlen8 : List.length list ≤ 9223372036854775807 := len_le (slice_len h1)
  obtain ⟨j8, hL8, hF⟩ := bind_some hF
  obtain ⟨R8, hR8⟩ : ∃ R : Fr → World → Prop, R = fun f w_ => ∃ H6 : FH, j8 = .nx () ∧ Le H H6 ∧ f 1 = v1 ∧ Star H6 w_ ([]) := ⟨_, rfl⟩
  refine W_join R8 ?_ ?_
  ·
    refine W_block ?_
    obtain ⟨I8, hI8⟩ : ∃ I : Nat → Fr → World → Prop, I = fun n f w_ => ∃ i_5 : Nat, ∃ suf8 : List Int, ∃ H6 : FH, n = suf8.length ∧ List.drop i_5 list = suf8 ∧ i_5 + suf8.length = list.length ∧ rangeL (s_l6Vars_b1 m list) suf8 i_5 () = some j8 ∧ Le H H6 ∧ f 1 = v1 ∧ f 2 = .pointer (some ⟨g3, 0, none⟩) ∧ f 5 = .int .i64 (i_5 : Int) ∧ Star H6 w_ ([box g3 30 #[v0_0, v0_1]]) := ⟨_, rfl⟩
    refine W_loop I8 (n := list.length) ?_ ?_
    · rw [hI8]; exact ⟨0, list, H, rfl, rfl, Nat.zero_add _, hL8, (Le.refl _), rfl, rfl, rfl, hst⟩
    ·
      clear hst
      intro n8 f w_ hI
      rw [hI8] at hI
      obtain ⟨i_5, suf8, H6, rfl, hd8, hl8, hL8, hle7, sf1, sf2, sf5, hst⟩ := hI
      refine W_seq ?_
      refine W_seq ?_
      refine W_region ?_
      refine L_mv (v := .int .i64 (i_5 : Int)) rfl sf5 ?_
      refine L_mv (v := v1) rfl sf1 ?_
      refine L_len (v := v1) (n := List.length list) rfl Try.underlying22 rfl (slice_len (RP.mono _ h1 hle7)) ?_
      refine L_lss (m := (i_5 : Int)) (n := (list.length : Int)) rfl rfl rfl ?_
      refine L_nil ?_
      refine W_cond (b := decide ((i_5 : Int) < (list.length : Int))) rfl (fun hc9 => ?_) (fun hc9 => ?_)
      ·
        have hlt8 := of_decide_eq_true hc9
        cases suf8 with
        | nil => exact absurd hlt8 (by simp at hl8; omega)
        | cons x_8 rest8 =>
          obtain ⟨o8, hB8, hL8⟩ := range_cons hL8
          rw [s_l6Vars_b1] at hB8
          have hix8 := drop_idx hd8
          refine W_skip ?_
          refine W_seq ?_
          refine W_block ?_
          refine W_seq ?_
          refine W_seq ?_
          obtain ⟨R21, hR21⟩ : ∃ R : Fr → World → Prop, R = fun f w_ => ∃ H19 : FH, Le H6 H19 ∧ f 1 = v1 ∧ f 2 = .pointer (some ⟨g3, 0, none⟩) ∧ f 5 = .int .i64 (i_5 : Int) ∧ f 27 = .bool ((decide (x_8 < 0)) || (decide (x_8 ≥ (m.sizes.length : Int)))) ∧ Star H19 w_ ([box g3 30 #[v0_0, v0_1]]) := ⟨_, rfl⟩
          refine W_join R21 ?_ ?_
          ·
            rcases Bool.eq_false_or_eq_true (decide (x_8 < 0)) with hc22 | hc22
            ·
              refine W_drawS 13 [isV (v1), isV (.int .i64 (i_5 : Int)), isEl RP.int x_8 0, isV (.int .i64 x_8), isV (.bool (decide (x_8 < 0))), isV (.bool (decide (x_8 < 0))), isV (undef), isV (undef), isV (undef), isV (undef), isV (undef), isV (undef), isV (undef)] [box g3 30 #[v0_0, v0_1]] [] ([]) [([], []), ([], []), ([], []), ([], []), ([], []), ([], []), ([], []), ([], []), ([], []), ([], []), ([], []), ([], []), ([], [])] (S := []) Try_mix (by kernel_rfl) rfl (by kernel_rfl) (amF_cons (mono_V _) (amF_cons (mono_V _) (amF_cons (mono_el _ _ _) (amF_cons (mono_V _) (amF_cons (mono_V _) (amF_cons (mono_V _) (amF_cons (mono_V _) (amF_cons (mono_V _) (amF_cons (mono_V _) (amF_cons (mono_V _) (amF_cons (mono_V _) (amF_cons (mono_V _) (amF_cons (mono_V _) amF_nil))))))))))))) hst ?_ (fun f w_ H18 hS18 hE18 hT18 hst => ?_)
              ·
                refine opsS_cons ?_ ?_
                ·
                  intro f w_ H18 X18 hS18 hE18 hP18 hst
                  refine L_mv (v := v1) rfl ((hS18 1 rfl).trans sf1) ?_
                  exact L_nil ⟨rfl, _, _, _, rfl, rfl, Le.refl _, rfl, hst⟩
                refine opsS_cons ?_ ?_
                ·
                  intro f w_ H18 X18 hS18 hE18 hP18 hst
                  refine L_mv (v := .int .i64 (i_5 : Int)) rfl ((hS18 5 rfl).trans sf5) ?_
                  exact L_nil ⟨rfl, _, _, _, rfl, rfl, Le.refl _, rfl, hst⟩
                refine opsS_cons ?_ ?_
                ·
                  intro f w_ H18 X18 hS18 hE18 hP18 hst
                  refine L_ix (r := RP.int) rfl Try.underlying22 Try.sizeOf3 (hP18 0 13 rfl rfl) (RP.mono _ h1 (Le.trans hle7 hE18)) (hP18 1 14 rfl rfl) hix8 ?_
                  intro g27 o28 cs_g27 hrk_hat29 hat29
                  obtain rfl : _ = [_] := hrk_hat29
                  exact L_nil ⟨rfl, _, _, _, rfl, rfl, Le.refl _, ⟨_, _, _, rfl, rfl, hat29⟩, hst⟩
                refine opsS_cons ?_ ?_
                ·
                  intro f w_ H18 X18 hS18 hE18 hP18 hst
                  obtain ⟨g31, o31, cs31, hv31, hrk_hat31, hat31⟩ := (hP18 2 15 rfl rfl)
                  obtain rfl : _ = [_] := hrk_hat31
                  refine L_ld (v := .int .i64 x_8) rfl Try.isAgg3 hv31 (At.cell (AtH.at hat31 hst.sub) (j := 0) rfl) ?_
                  exact L_nil ⟨rfl, _, _, _, rfl, rfl, Le.refl _, rfl, hst⟩
                refine opsS_cons ?_ ?_
                ·
                  intro f w_ H18 X18 hS18 hE18 hP18 hst
                  refine L_lss (m := x_8) (n := 0) rfl (hP18 3 16 rfl rfl) rfl ?_
                  exact L_nil ⟨rfl, _, _, _, rfl, rfl, Le.refl _, rfl, hst⟩
                refine opsS_cons ?_ ?_
                ·
                  intro f w_ H18 X18 hS18 hE18 hP18 hst
                  refine L_mv (v := .bool (decide (x_8 < 0))) rfl (hP18 4 17 rfl rfl) ?_
                  exact L_nil ⟨rfl, _, _, _, rfl, rfl, Le.refl _, rfl, hst⟩
                refine opsS_cons ?_ ?_
                ·
                  intro f w_ H18 X18 hS18 hE18 hP18 hst
                  refine L_pass (g_no rfl (Eq.trans (hP18 5 18 rfl rfl) (congrArg Value.bool hc22)) rfl rfl) ?_
                  exact L_nil ⟨rfl, _, _, _, rfl, rfl, Le.refl _, rfl, hst⟩
                refine opsS_cons ?_ ?_
                ·
                  intro f w_ H18 X18 hS18 hE18 hP18 hst
                  refine L_pass (g_no rfl (Eq.trans (hP18 5 18 rfl rfl) (congrArg Value.bool hc22)) rfl rfl) ?_
                  exact L_nil ⟨rfl, _, _, _, rfl, rfl, Le.refl _, rfl, hst⟩
                refine opsS_cons ?_ ?_
                ·
                  intro f w_ H18 X18 hS18 hE18 hP18 hst
                  refine L_pass (g_no rfl (Eq.trans (hP18 5 18 rfl rfl) (congrArg Value.bool hc22)) rfl rfl) ?_
                  exact L_nil ⟨rfl, _, _, _, rfl, rfl, Le.refl _, rfl, hst⟩
                refine opsS_cons ?_ ?_
                ·
                  intro f w_ H18 X18 hS18 hE18 hP18 hst
                  refine L_pass (g_no rfl (Eq.trans (hP18 5 18 rfl rfl) (congrArg Value.bool hc22)) rfl rfl) ?_
                  exact L_nil ⟨rfl, _, _, _, rfl, rfl, Le.refl _, rfl, hst⟩
                refine opsS_cons ?_ ?_
                ·
                  intro f w_ H18 X18 hS18 hE18 hP18 hst
                  refine L_pass (g_no rfl (Eq.trans (hP18 5 18 rfl rfl) (congrArg Value.bool hc22)) rfl rfl) ?_
                  exact L_nil ⟨rfl, _, _, _, rfl, rfl, Le.refl _, rfl, hst⟩
                refine opsS_cons ?_ ?_
                ·
                  intro f w_ H18 X18 hS18 hE18 hP18 hst
                  refine L_pass (g_no rfl (Eq.trans (hP18 5 18 rfl rfl) (congrArg Value.bool hc22)) rfl rfl) ?_
                  exact L_nil ⟨rfl, _, _, _, rfl, rfl, Le.refl _, rfl, hst⟩
                refine opsS_cons ?_ ?_
                ·
                  intro f w_ H18 X18 hS18 hE18 hP18 hst
                  refine L_pass (g_no rfl (Eq.trans (hP18 5 18 rfl rfl) (congrArg Value.bool hc22)) rfl rfl) ?_
                  exact L_nil ⟨rfl, _, _, _, rfl, rfl, Le.refl _, rfl, hst⟩
                exact opsS_nil
              ·
                refine L_pass (g_no rfl (Eq.trans (hT18 5 18 rfl rfl) (congrArg Value.bool hc22)) rfl rfl) ?_
                refine L_pick (v := .bool ((decide (x_8 < 0)) || (decide (x_8 ≥ (m.sizes.length : Int))))) rfl (Eq.trans (hT18 5 18 rfl rfl) (congrArg Value.bool hc22)) (or_t hc22) ?_
                refine L_nil ?_
                show R21 _ _
                rw [hR21]
                exact ⟨H18, hE18, ((hS18 1 rfl).trans sf1), ((hS18 2 rfl).trans sf2), ((hS18 5 rfl).trans sf5), rfl, hst⟩
            ·
              refine W_drawS 13 [isV (v1), isV (.int .i64 (i_5 : Int)), isEl RP.int x_8 0, isV (.int .i64 x_8), isV (.bool (decide (x_8 < 0))), isV (.bool (decide (x_8 < 0))), isV (v1), isV (.int .i64 (i_5 : Int)), isEl RP.int x_8 0, isV (.int .i64 x_8), isV (.pointer (some ⟨g3, 0, none⟩)), isV (v0_0), isV (.int .i64 (m.sizes.length : Int))] [box g3 30 #[v0_0, v0_1]] [] ([]) [([], []), ([], []), ([], []), ([], []), ([], []), ([], []), ([], []), ([], []), ([], []), ([], []), ([], []), ([], []), ([], [])] (S := []) Try_mix (by kernel_rfl) rfl (by kernel_rfl) (amF_cons (mono_V _) (amF_cons (mono_V _) (amF_cons (mono_el _ _ _) (amF_cons (mono_V _) (amF_cons (mono_V _) (amF_cons (mono_V _) (amF_cons (mono_V _) (amF_cons (mono_V _) (amF_cons (mono_el _ _ _) (amF_cons (mono_V _) (amF_cons (mono_V _) (amF_cons (mono_V _) (amF_cons (mono_V _) amF_nil))))))))))))) hst ?_ (fun f w_ H18 hS18 hE18 hT18 hst => ?_)
              ·
                refine opsS_cons ?_ ?_
                ·
                  intro f w_ H18 X18 hS18 hE18 hP18 hst
                  refine L_mv (v := v1) rfl ((hS18 1 rfl).trans sf1) ?_
                  exact L_nil ⟨rfl, _, _, _, rfl, rfl, Le.refl _, rfl, hst⟩
                refine opsS_cons ?_ ?_
                ·
                  intro f w_ H18 X18 hS18 hE18 hP18 hst
                  refine L_mv (v := .int .i64 (i_5 : Int)) rfl ((hS18 5 rfl).trans sf5) ?_
                  exact L_nil ⟨rfl, _, _, _, rfl, rfl, Le.refl _, rfl, hst⟩
                refine opsS_cons ?_ ?_
                ·
                  intro f w_ H18 X18 hS18 hE18 hP18 hst
                  refine L_ix (r := RP.int) rfl Try.underlying22 Try.sizeOf3 (hP18 0 13 rfl rfl) (RP.mono _ h1 (Le.trans hle7 hE18)) (hP18 1 14 rfl rfl) hix8 ?_
                  intro g41 o42 cs_g41 hrk_hat43 hat43
                  obtain rfl : _ = [_] := hrk_hat43
                  exact L_nil ⟨rfl, _, _, _, rfl, rfl, Le.refl _, ⟨_, _, _, rfl, rfl, hat43⟩, hst⟩
                refine opsS_cons ?_ ?_
                ·
                  intro f w_ H18 X18 hS18 hE18 hP18 hst
                  obtain ⟨g45, o45, cs45, hv45, hrk_hat45, hat45⟩ := (hP18 2 15 rfl rfl)
                  obtain rfl : _ = [_] := hrk_hat45
                  refine L_ld (v := .int .i64 x_8) rfl Try.isAgg3 hv45 (At.cell (AtH.at hat45 hst.sub) (j := 0) rfl) ?_
                  exact L_nil ⟨rfl, _, _, _, rfl, rfl, Le.refl _, rfl, hst⟩
                refine opsS_cons ?_ ?_
                ·
                  intro f w_ H18 X18 hS18 hE18 hP18 hst
                  refine L_lss (m := x_8) (n := 0) rfl (hP18 3 16 rfl rfl) rfl ?_
                  exact L_nil ⟨rfl, _, _, _, rfl, rfl, Le.refl _, rfl, hst⟩
                refine opsS_cons ?_ ?_
                ·
                  intro f w_ H18 X18 hS18 hE18 hP18 hst
                  refine L_mv (v := .bool (decide (x_8 < 0))) rfl (hP18 4 17 rfl rfl) ?_
                  exact L_nil ⟨rfl, _, _, _, rfl, rfl, Le.refl _, rfl, hst⟩
                refine opsS_cons ?_ ?_
                ·
                  intro f w_ H18 X18 hS18 hE18 hP18 hst
                  refine L_mv (v := v1) (g_yes rfl (Eq.trans (hP18 5 18 rfl rfl) (congrArg Value.bool hc22)) rfl) ((hS18 1 rfl).trans sf1) ?_
                  exact L_nil ⟨rfl, _, _, _, rfl, rfl, Le.refl _, rfl, hst⟩
                refine opsS_cons ?_ ?_
                ·
                  intro f w_ H18 X18 hS18 hE18 hP18 hst
                  refine L_mv (v := .int .i64 (i_5 : Int)) (g_yes rfl (Eq.trans (hP18 5 18 rfl rfl) (congrArg Value.bool hc22)) rfl) ((hS18 5 rfl).trans sf5) ?_
                  exact L_nil ⟨rfl, _, _, _, rfl, rfl, Le.refl _, rfl, hst⟩
                refine opsS_cons ?_ ?_
                ·
                  intro f w_ H18 X18 hS18 hE18 hP18 hst
                  refine L_ix (r := RP.int) (g_yes rfl (Eq.trans (hP18 5 18 rfl rfl) (congrArg Value.bool hc22)) rfl) Try.underlying22 Try.sizeOf3 (hP18 6 19 rfl rfl) (RP.mono _ h1 (Le.trans hle7 hE18)) (hP18 7 20 rfl rfl) hix8 ?_
                  intro g47 o48 cs_g47 hrk_hat49 hat49
                  obtain rfl : _ = [_] := hrk_hat49
                  exact L_nil ⟨rfl, _, _, _, rfl, rfl, Le.refl _, ⟨_, _, _, rfl, rfl, hat49⟩, hst⟩
                refine opsS_cons ?_ ?_
                ·
                  intro f w_ H18 X18 hS18 hE18 hP18 hst
                  obtain ⟨g51, o51, cs51, hv51, hrk_hat51, hat51⟩ := (hP18 8 21 rfl rfl)
                  obtain rfl : _ = [_] := hrk_hat51
                  refine L_ld (v := .int .i64 x_8) (g_yes rfl (Eq.trans (hP18 5 18 rfl rfl) (congrArg Value.bool hc22)) rfl) Try.isAgg3 hv51 (At.cell (AtH.at hat51 hst.sub) (j := 0) rfl) ?_
                  exact L_nil ⟨rfl, _, _, _, rfl, rfl, Le.refl _, rfl, hst⟩
                refine opsS_cons ?_ ?_
                ·
                  intro f w_ H18 X18 hS18 hE18 hP18 hst
                  refine L_fa (o' := 0) (g_yes rfl (Eq.trans (hP18 5 18 rfl rfl) (congrArg Value.bool hc22)) rfl) fa_30_0 ((hS18 2 rfl).trans sf2) rfl ?_
                  exact L_nil ⟨rfl, _, _, _, rfl, rfl, Le.refl _, rfl, hst⟩
                refine opsS_cons ?_ ?_
                ·
                  intro f w_ H18 X18 hS18 hE18 hP18 hst
                  refine L_ld (v := v0_0) (g_yes rfl (Eq.trans (hP18 5 18 rfl rfl) (congrArg Value.bool hc22)) rfl) Try.isAgg22 (hP18 10 23 rfl rfl) (At.cell0 (Blk.at (Star.blkAt 0 hst rfl)) (j := 0) rfl) ?_
                  exact L_nil ⟨rfl, _, _, _, rfl, rfl, Le.refl _, rfl, hst⟩
                refine opsS_cons ?_ ?_
                ·
                  intro f w_ H18 X18 hS18 hE18 hP18 hst
                  refine L_len (v := v0_0) (n := List.length m.sizes) (g_yes rfl (Eq.trans (hP18 5 18 rfl rfl) (congrArg Value.bool hc22)) rfl) Try.underlying22 (hP18 11 24 rfl rfl) (slice_len (RP.mono _ h0_0 (Le.trans hle7 hE18))) ?_
                  exact L_nil ⟨rfl, _, _, _, rfl, rfl, Le.refl _, rfl, hst⟩
                exact opsS_nil
              ·
                refine L_geq (m := x_8) (n := (m.sizes.length : Int)) (g_yes rfl (Eq.trans (hT18 5 18 rfl rfl) (congrArg Value.bool hc22)) rfl) (hT18 9 22 rfl rfl) (hT18 12 25 rfl rfl) ?_
                refine L_pick (v := .bool ((decide (x_8 < 0)) || (decide (x_8 ≥ (m.sizes.length : Int))))) rfl (Eq.trans (hT18 5 18 rfl rfl) (congrArg Value.bool hc22)) (or_f hc22 rfl) ?_
                refine L_nil ?_
                show R21 _ _
                rw [hR21]
                exact ⟨H18, hE18, ((hS18 1 rfl).trans sf1), ((hS18 2 rfl).trans sf2), ((hS18 5 rfl).trans sf5), rfl, hst⟩
          ·
            intro f w_ hR
            rw [hR21] at hR
            obtain ⟨H19, hle20, sf1, sf2, sf5, sf27, hst⟩ := hR
            clear hR21
            refine W_cond (b := ((decide (x_8 < 0)) || (decide (x_8 ≥ (m.sizes.length : Int))))) sf27 (fun hc53 => ?_) (fun hc53 => ?_)
            ·
              have hB8 := (ite_t hc53).symm.trans hB8
              refine W_seq ?_
              refine W_region ?_
              refine L_as (v := .bool false) rfl rfl ?_
              refine L_nil ?_
              refine W_ret ?_
              refine retG1 (v1 := .bool false) Try.results79 rfl ?_
              obtain rfl := so hB8
              obtain rfl := so hL8
              obtain rfl := so hF
              exact ⟨rfl, (Star.down (Star.keepN 0 hst) (Le.trans hle7 hle20) closedL_nil)⟩
            ·
              have hB8 := (ite_f hc53).symm.trans hB8
              refine W_skip ?_
              refine W_seq ?_
              refine W_region ?_
              refine L_as (v := .int .i64 0) rfl rfl ?_
              refine L_nil ?_
              obtain ⟨k58, hk58, hB8⟩ := bind_some hB8
              obtain ⟨j57, hL57, hB8⟩ := bind_some hB8
              obtain ⟨R57, hR57⟩ : ∃ R : Fr → World → Prop, R = fun f w_ => ∃ H55 : FH, j57 = .nx () ∧ Le H19 H55 ∧ f 1 = v1 ∧ f 2 = .pointer (some ⟨g3, 0, none⟩) ∧ f 5 = .int .i64 (i_5 : Int) ∧ Star H55 w_ ([box g3 30 #[v0_0, v0_1]]) := ⟨_, rfl⟩
              refine W_join R57 ?_ ?_
              ·
                refine W_block ?_
                obtain ⟨I57, hI57⟩ : ∃ I : Nat → Fr → World → Prop, I = fun n f w_ => ∃ i_54 : Nat, ∃ suf57 : Nat, ∃ H55 : FH, suf57 = n ∧ 0 ≤ i_54 ∧ i_54 + suf57 = 0 + k58 ∧ countL (s_l6Vars_b2 list x_8) suf57 i_54 () = some j57 ∧ Le H19 H55 ∧ f 1 = v1 ∧ f 2 = .pointer (some ⟨g3, 0, none⟩) ∧ f 5 = .int .i64 (i_5 : Int) ∧ f 6 = .int .i64 (i_54 : Int) ∧ Star H55 w_ ([box g3 30 #[v0_0, v0_1]]) := ⟨_, rfl⟩
                refine W_loop I57 (n := k58) ?_ ?_
                · rw [hI57]; exact ⟨0, k58, H19, rfl, Nat.le_refl _, rfl, hL57, (Le.refl _), sf1, sf2, sf5, rfl, hst⟩
                ·
                  clear hst
                  intro n57 f w_ hI
                  rw [hI57] at hI
                  obtain ⟨i_54, suf57, H55, rfl, hs57, hl57, hL57, hle56, sf1, sf2, sf5, sf6, hst⟩ := hI
                  refine W_seq ?_
                  refine W_seq ?_
                  refine W_region ?_
                  refine L_mv (v := .int .i64 (i_54 : Int)) rfl sf6 ?_
                  refine L_mv (v := .int .i64 (i_5 : Int)) rfl sf5 ?_
                  refine L_lss (m := (i_54 : Int)) (n := (i_5 : Int)) rfl rfl rfl ?_
                  refine L_nil ?_
                  refine W_cond (b := decide ((i_54 : Int) < (i_5 : Int))) rfl (fun hc59 => ?_) (fun hc59 => ?_)
                  ·
                    have hlt57 := of_decide_eq_true hc59
                    cases suf57 with
                    | zero => exact absurd hlt57 (cntF_no hl57 hk58)
                    | succ rest57 =>
                      obtain ⟨o57, hB57, hL57⟩ := count_succ hL57
                      rw [s_l6Vars_b2] at hB57
                      refine W_skip ?_
                      refine W_seq ?_
                      refine W_block ?_
                      refine W_seq ?_
                      obtain ⟨x60, hx60, hB57⟩ := bind_some hB57
                      refine W_drawS 8 [isV (v1), isV (.int .i64 (i_54 : Int)), isEl RP.int x60 0, isV (.int .i64 x60), isV (v1), isV (.int .i64 (i_5 : Int)), isEl RP.int x_8 0, isV (.int .i64 x_8)] [box g3 30 #[v0_0, v0_1]] [] ([]) [([], []), ([], []), ([], []), ([], []), ([], []), ([], []), ([], []), ([], [])] (S := []) Try_mix (by kernel_rfl) rfl (by kernel_rfl) (amF_cons (mono_V _) (amF_cons (mono_V _) (amF_cons (mono_el _ _ _) (amF_cons (mono_V _) (amF_cons (mono_V _) (amF_cons (mono_V _) (amF_cons (mono_el _ _ _) (amF_cons (mono_V _) amF_nil)))))))) hst ?_ (fun f w_ H69 hS69 hE69 hT69 hst => ?_)
                      ·
                        refine opsS_cons ?_ ?_
                        ·
                          intro f w_ H69 X69 hS69 hE69 hP69 hst
                          refine L_mv (v := v1) rfl ((hS69 1 rfl).trans sf1) ?_
                          exact L_nil ⟨rfl, _, _, _, rfl, rfl, Le.refl _, rfl, hst⟩
                        refine opsS_cons ?_ ?_
                        ·
                          intro f w_ H69 X69 hS69 hE69 hP69 hst
                          refine L_mv (v := .int .i64 (i_54 : Int)) rfl ((hS69 6 rfl).trans sf6) ?_
                          exact L_nil ⟨rfl, _, _, _, rfl, rfl, Le.refl _, rfl, hst⟩
                        refine opsS_cons ?_ ?_
                        ·
                          intro f w_ H69 X69 hS69 hE69 hP69 hst
                          refine L_ix (r := RP.int) rfl Try.underlying22 Try.sizeOf3 (hP69 0 33 rfl rfl) (RP.mono _ h1 (Le.trans (Le.trans (Le.trans hle7 hle20) hle56) hE69)) (hP69 1 34 rfl rfl) hx60 ?_
                          intro g78 o79 cs_g78 hrk_hat80 hat80
                          obtain rfl : _ = [_] := hrk_hat80
                          exact L_nil ⟨rfl, _, _, _, rfl, rfl, Le.refl _, ⟨_, _, _, rfl, rfl, hat80⟩, hst⟩
                        refine opsS_cons ?_ ?_
                        ·
                          intro f w_ H69 X69 hS69 hE69 hP69 hst
                          obtain ⟨g82, o82, cs82, hv82, hrk_hat82, hat82⟩ := (hP69 2 35 rfl rfl)
                          obtain rfl : _ = [_] := hrk_hat82
                          refine L_ld (v := .int .i64 x60) rfl Try.isAgg3 hv82 (At.cell (AtH.at hat82 hst.sub) (j := 0) rfl) ?_
                          exact L_nil ⟨rfl, _, _, _, rfl, rfl, Le.refl _, rfl, hst⟩
                        refine opsS_cons ?_ ?_
                        ·
                          intro f w_ H69 X69 hS69 hE69 hP69 hst
                          refine L_mv (v := v1) rfl ((hS69 1 rfl).trans sf1) ?_
                          exact L_nil ⟨rfl, _, _, _, rfl, rfl, Le.refl _, rfl, hst⟩
                        refine opsS_cons ?_ ?_
                        ·
                          intro f w_ H69 X69 hS69 hE69 hP69 hst
                          refine L_mv (v := .int .i64 (i_5 : Int)) rfl ((hS69 5 rfl).trans sf5) ?_
                          exact L_nil ⟨rfl, _, _, _, rfl, rfl, Le.refl _, rfl, hst⟩
                        refine opsS_cons ?_ ?_
                        ·
                          intro f w_ H69 X69 hS69 hE69 hP69 hst
                          refine L_ix (r := RP.int) rfl Try.underlying22 Try.sizeOf3 (hP69 4 37 rfl rfl) (RP.mono _ h1 (Le.trans (Le.trans (Le.trans hle7 hle20) hle56) hE69)) (hP69 5 38 rfl rfl) hix8 ?_
                          intro g84 o85 cs_g84 hrk_hat86 hat86
                          obtain rfl : _ = [_] := hrk_hat86
                          exact L_nil ⟨rfl, _, _, _, rfl, rfl, Le.refl _, ⟨_, _, _, rfl, rfl, hat86⟩, hst⟩
                        refine opsS_cons ?_ ?_
                        ·
                          intro f w_ H69 X69 hS69 hE69 hP69 hst
                          obtain ⟨g88, o88, cs88, hv88, hrk_hat88, hat88⟩ := (hP69 6 39 rfl rfl)
                          obtain rfl : _ = [_] := hrk_hat88
                          refine L_ld (v := .int .i64 x_8) rfl Try.isAgg3 hv88 (At.cell (AtH.at hat88 hst.sub) (j := 0) rfl) ?_
                          exact L_nil ⟨rfl, _, _, _, rfl, rfl, Le.refl _, rfl, hst⟩
                        exact opsS_nil
                      ·
                        refine L_eql (m := x60) (n := x_8) rfl (hT69 3 36 rfl rfl) (hT69 7 40 rfl rfl) ?_
                        refine L_nil ?_
                        refine W_cond (b := (x60 == x_8)) rfl (fun hc90 => ?_) (fun hc90 => ?_)
                        ·
                          have hB57 := (ite_t hc90).symm.trans hB57
                          refine W_seq ?_
                          refine W_region ?_
                          refine L_as (v := .bool false) rfl rfl ?_
                          refine L_nil ?_
                          refine W_ret ?_
                          refine retG1 (v1 := .bool false) Try.results79 rfl ?_
                          obtain rfl := so hB57
                          obtain rfl := so hL57
                          obtain rfl := so hB8
                          obtain rfl := so hL8
                          obtain rfl := so hF
                          exact ⟨rfl, (Star.down (Star.keepN 0 hst) (Le.trans (Le.trans (Le.trans hle7 hle20) hle56) hE69) closedL_nil)⟩
                        ·
                          have hB57 := (ite_f hc90).symm.trans hB57
                          refine W_skip ?_
                          refine W_region ?_
                          refine L_mv (v := .int .i64 (i_54 : Int)) rfl ((hS69 6 rfl).trans sf6) ?_
                          refine L_add (m := (i_54 : Int)) (n := 1) rfl rfl rfl ?_
                          refine L_as (v := .int .i64 (i64 ((i_54 : Int) + 1))) rfl rfl ?_
                          refine L_nil ?_
                          obtain rfl := so hB57
                          show ∃ m, m < _ ∧ I57 m _ _
                          refine ⟨rest57, Nat.lt_succ_self _, ?_⟩
                          rw [hI57]
                          exact ⟨i_54 + 1, rest57, H69, rfl, by omega, by omega, hL57, (Le.trans hle56 hE69), ((hS69 1 rfl).trans sf1), ((hS69 2 rfl).trans sf2), ((hS69 5 rfl).trans sf5), (Eq.trans rfl (congrArg (Value.int .i64) (i64_succ (n := 0 + k58) (by omega) (cntF_le hk58)))), hst⟩
                  ·
                    cases suf57 with
                    | succ _ => exact absurd (cntF_yes hs57 hl57 hk58) (of_decide_eq_false hc59)
                    | zero =>
                      obtain rfl := count_zero hL57
                      refine W_exit ?_
                      show R57 _ _
                      rw [hR57]
                      exact ⟨H55, rfl, hle56, sf1, sf2, sf5, hst⟩
              ·
                clear hst
                intro f w_ hR
                rw [hR57] at hR
                obtain ⟨H55, rfl, hle56, sf1, sf2, sf5, hst⟩ := hR
                clear hR57
                refine W_region ?_
                refine L_mv (v := .int .i64 (i_5 : Int)) rfl sf5 ?_
                refine L_add (m := (i_5 : Int)) (n := 1) rfl rfl rfl ?_
                refine L_as (v := .int .i64 (i64 ((i_5 : Int) + 1))) rfl rfl ?_
                refine L_nil ?_
                obtain rfl := so hB8
                show ∃ m, m < _ ∧ I8 m _ _
                refine ⟨rest8.length, by simp, ?_⟩
                rw [hI8]
                exact ⟨i_5 + 1, rest8, H55, rfl, drop_next hd8, by simp at hl8; omega, hL8, (Le.trans (Le.trans hle7 hle20) hle56), sf1, sf2, (Eq.trans rfl (congrArg (Value.int .i64) (i64_succ (n := list.length) (by simp at hl8; omega) hlen8))), hst⟩
      ·
        cases suf8 with
        | cons _ _ => exact absurd (of_decide_eq_false hc9) (by simp at hl8; omega)
        | nil =>
          obtain rfl := range_nil hL8
          refine W_exit ?_
          show R8 _ _
          rw [hR8]
          exact ⟨H6, rfl, hle7, sf1, (Star.keepN 0 hst)⟩
  ·
    clear hst
    intro f w_ hR
    rw [hR8] at hR
    obtain ⟨H6, rfl, hle7, sf1, hst⟩ := hR
    clear hR8
    refine W_seq ?_
    refine W_region ?_
    refine L_mv (v := v1) rfl sf1 ?_
    refine L_len (v := v1) (n := List.length list) rfl Try.underlying22 rfl (slice_len (RP.mono _ h1 hle7)) ?_
    refine L_geq (m := (list.length : Int)) (n := 1) rfl rfl rfl ?_
    refine L_as (v := .bool (decide ((list.length : Int) ≥ 1))) rfl rfl ?_
    refine L_nil ?_
    refine W_ret ?_
    refine retG1 (v1 := .bool (decide ((list.length : Int) ≥ 1))) Try.results79 rfl ?_
    obtain rfl := so hF
    exact ⟨rfl, (Star.down hst hle7 closedL_nil)⟩

theorem s_l6Linear_c {r_ : Rule} {v0_1 : Value} {v0_2 : Value} {v0_4 : Value} {H : FH} {w : World} (hst : Star H w []) (h0_1 : (RP.slice 3 RP.int).rel H [v0_1] r_.vars) (h0_2 : (RP.slice 3 RP.int).rel H [v0_2] r_.coefs) (h0_4 : (RP.slice 22 (RP.slice 3 RP.int)).rel H [v0_4] r_.rows) {r : Bool} (hF : s_l6Linear r_ = some r) :
    C Try.prog 80 #[.agg #[.int .i64 r_.kind, v0_1, v0_2, .int .i64 r_.bound, v0_4]] w fun v w' => v = .bool r ∧ Star H w' [] := by
  unfold s_l6Linear at hF
  refine C_enter Try.func80 rfl Try.ntmps80 rfl ?_
  refine W_seq ?_
  refine W_region ?_
  refine L_box (v := .agg #[.int .i64 r_.kind, v0_1, v0_2, .int .i64 r_.bound, v0_4]) (cs := #[.int .i64 r_.kind, v0_1, v0_2, .int .i64 r_.bound, v0_4]) rfl rfl rfl hst ?_
  intro g3 w4 hst
  refine L_as (v := .bool false) rfl rfl ?_
  refine L_nil ?_
  refine W_seq ?_
  refine W_seq ?_
  refine W_region ?_
  refine L_as (v := .int .i64 0) rfl rfl ?_
  refine L_nil ?_
  have hlen6 : List.length r_.coefs ≤ 9223372036854775807 := len_le (slice_len h0_2)
  obtain ⟨j6, hL6, hF⟩ := bind_some hF
  obtain ⟨R6, hR6⟩ : ∃ R : Fr → World → Prop, R = fun f w_ => j6 = .nx () ∧ f 1 = .pointer (some ⟨g3, 0, none⟩) ∧ Star H w_ ([box g3 68 #[.int .i64 r_.kind, v0_1, v0_2, .int .i64 r_.bound, v0_4]]) := ⟨_, rfl⟩
  refine W_join R6 ?_ ?_
  ·
    refine W_block ?_
    obtain ⟨I6, hI6⟩ : ∃ I : Nat → Fr → World → Prop, I = fun n f w_ => ∃ i_5 : Nat, ∃ suf6 : List Int, n = suf6.length ∧ List.drop i_5 r_.coefs = suf6 ∧ i_5 + suf6.length = r_.coefs.length ∧ rangeL s_l6Linear_b1 suf6 i_5 () = some j6 ∧ f 1 = .pointer (some ⟨g3, 0, none⟩) ∧ f 3 = .int .i64 (i_5 : Int) ∧ Star H w_ ([box g3 68 #[.int .i64 r_.kind, v0_1, v0_2, .int .i64 r_.bound, v0_4]]) := ⟨_, rfl⟩
    refine W_loop I6 (n := r_.coefs.length) ?_ ?_
    · rw [hI6]; exact ⟨0, r_.coefs, rfl, rfl, Nat.zero_add _, hL6, rfl, rfl, hst⟩
    ·
      clear hst
      intro n6 f w_ hI
      rw [hI6] at hI
      obtain ⟨i_5, suf6, rfl, hd6, hl6, hL6, sf1, sf3, hst⟩ := hI
      refine W_seq ?_
      refine W_seq ?_
      refine W_region ?_
      refine L_mv (v := .int .i64 (i_5 : Int)) rfl sf3 ?_
      refine L_fa (o' := 2) rfl fa_68_2 sf1 rfl ?_
      refine L_ld (v := v0_2) rfl Try.isAgg22 rfl (At.cell0 (Blk.at (Star.blkAt 0 hst rfl)) (j := 2) rfl) ?_
      refine L_len (v := v0_2) (n := List.length r_.coefs) rfl Try.underlying22 rfl (slice_len h0_2) ?_
      refine L_lss (m := (i_5 : Int)) (n := (r_.coefs.length : Int)) rfl rfl rfl ?_
      refine L_nil ?_
      refine W_cond (b := decide ((i_5 : Int) < (r_.coefs.length : Int))) rfl (fun hc7 => ?_) (fun hc7 => ?_)
      ·
        have hlt6 := of_decide_eq_true hc7
        cases suf6 with
        | nil => exact absurd hlt6 (by simp at hl6; omega)
        | cons x_6 rest6 =>
          obtain ⟨o6, hB6, hL6⟩ := range_cons hL6
          rw [s_l6Linear_b1] at hB6
          have hix6 := drop_idx hd6
          refine W_skip ?_
          refine W_seq ?_
          refine W_block ?_
          refine W_seq ?_
          obtain ⟨R20, hR20⟩ : ∃ R : Fr → World → Prop, R = fun f w_ => f 1 = .pointer (some ⟨g3, 0, none⟩) ∧ f 3 = .int .i64 (i_5 : Int) ∧ f 32 = .bool (((decide (x_6 < (-9))) || (decide (x_6 > 9))) || (x_6 == 0)) ∧ Star H w_ ([box g3 68 #[.int .i64 r_.kind, v0_1, v0_2, .int .i64 r_.bound, v0_4]]) := ⟨_, rfl⟩
          refine W_join R20 ?_ ?_
          ·
            refine W_region ?_
            refine L_fa (o' := 2) rfl fa_68_2 sf1 rfl ?_
            refine L_ld (v := v0_2) rfl Try.isAgg22 rfl (At.cell0 (Blk.at (Star.blkAt 0 hst rfl)) (j := 2) rfl) ?_
            refine L_mv (v := .int .i64 (i_5 : Int)) rfl sf3 ?_
            refine L_ix (r := RP.int) rfl Try.underlying22 Try.sizeOf3 rfl h0_2 rfl hix6 ?_
            intro g21 o22 cs_g21 hrk_hat23 hat23
            obtain rfl : _ = [_] := hrk_hat23
            refine L_ld (v := .int .i64 x_6) rfl Try.isAgg3 rfl (At.cell (AtH.at hat23 hst.sub) (j := 0) rfl) ?_
            refine L_lss (m := x_6) (n := (-9)) rfl rfl rfl ?_
            refine L_mv (v := .bool (decide (x_6 < (-9)))) rfl rfl ?_
            refine L_split (d := 17) (b := decide (x_6 < (-9))) rfl (fun hc25 => ?_) (fun hc25 => ?_)
            ·
              refine L_pass rfl ?_
              refine L_pass rfl ?_
              refine L_pass rfl ?_
              refine L_pass rfl ?_
              refine L_pass rfl ?_
              refine L_pass rfl ?_
              refine L_pick (v := .bool ((decide (x_6 < (-9))) || (decide (x_6 > 9)))) rfl rfl (or_t hc25) ?_
              refine L_mv (v := .bool ((decide (x_6 < (-9))) || (decide (x_6 > 9)))) rfl rfl ?_
              refine L_split (d := 25) (b := ((decide (x_6 < (-9))) || (decide (x_6 > 9)))) rfl (fun hc26 => ?_) (fun hc26 => ?_)
              ·
                refine L_pass rfl ?_
                refine L_pass rfl ?_
                refine L_pass rfl ?_
                refine L_pass rfl ?_
                refine L_pass rfl ?_
                refine L_pass rfl ?_
                refine L_pick (v := .bool (((decide (x_6 < (-9))) || (decide (x_6 > 9))) || (x_6 == 0))) rfl rfl (or_t hc26) ?_
                refine L_nil ?_
                show R20 _ _
                rw [hR20]
                exact ⟨sf1, sf3, rfl, hst⟩
              ·
                refine L_fa (o' := 2) rfl fa_68_2 sf1 rfl ?_
                refine L_ld (v := v0_2) rfl Try.isAgg22 rfl (At.cell0 (Blk.at (Star.blkAt 0 hst rfl)) (j := 2) rfl) ?_
                refine L_mv (v := .int .i64 (i_5 : Int)) rfl sf3 ?_
                refine L_ix (r := RP.int) rfl Try.underlying22 Try.sizeOf3 rfl h0_2 rfl hix6 ?_
                intro g27 o28 cs_g27 hrk_hat29 hat29
                obtain rfl : _ = [_] := hrk_hat29
                refine L_ld (v := .int .i64 x_6) rfl Try.isAgg3 rfl (At.cell (AtH.at hat29 hst.sub) (j := 0) rfl) ?_
                refine L_eql (m := x_6) (n := 0) rfl rfl rfl ?_
                refine L_pick (v := .bool (((decide (x_6 < (-9))) || (decide (x_6 > 9))) || (x_6 == 0))) rfl rfl (or_f hc26 rfl) ?_
                refine L_nil ?_
                show R20 _ _
                rw [hR20]
                exact ⟨sf1, sf3, rfl, hst⟩
            ·
              refine L_fa (o' := 2) rfl fa_68_2 sf1 rfl ?_
              refine L_ld (v := v0_2) rfl Try.isAgg22 rfl (At.cell0 (Blk.at (Star.blkAt 0 hst rfl)) (j := 2) rfl) ?_
              refine L_mv (v := .int .i64 (i_5 : Int)) rfl sf3 ?_
              refine L_ix (r := RP.int) rfl Try.underlying22 Try.sizeOf3 rfl h0_2 rfl hix6 ?_
              intro g31 o32 cs_g31 hrk_hat33 hat33
              obtain rfl : _ = [_] := hrk_hat33
              refine L_ld (v := .int .i64 x_6) rfl Try.isAgg3 rfl (At.cell (AtH.at hat33 hst.sub) (j := 0) rfl) ?_
              refine L_gtr (m := x_6) (n := 9) rfl rfl rfl ?_
              refine L_pick (v := .bool ((decide (x_6 < (-9))) || (decide (x_6 > 9)))) rfl rfl (or_f hc25 rfl) ?_
              refine L_mv (v := .bool ((decide (x_6 < (-9))) || (decide (x_6 > 9)))) rfl rfl ?_
              refine L_split (d := 25) (b := ((decide (x_6 < (-9))) || (decide (x_6 > 9)))) rfl (fun hc35 => ?_) (fun hc35 => ?_)
              ·
                refine L_pass rfl ?_
                refine L_pass rfl ?_
                refine L_pass rfl ?_
                refine L_pass rfl ?_
                refine L_pass rfl ?_
                refine L_pass rfl ?_
                refine L_pick (v := .bool (((decide (x_6 < (-9))) || (decide (x_6 > 9))) || (x_6 == 0))) rfl rfl (or_t hc35) ?_
                refine L_nil ?_
                show R20 _ _
                rw [hR20]
                exact ⟨sf1, sf3, rfl, hst⟩
              ·
                refine L_fa (o' := 2) rfl fa_68_2 sf1 rfl ?_
                refine L_ld (v := v0_2) rfl Try.isAgg22 rfl (At.cell0 (Blk.at (Star.blkAt 0 hst rfl)) (j := 2) rfl) ?_
                refine L_mv (v := .int .i64 (i_5 : Int)) rfl sf3 ?_
                refine L_ix (r := RP.int) rfl Try.underlying22 Try.sizeOf3 rfl h0_2 rfl hix6 ?_
                intro g36 o37 cs_g36 hrk_hat38 hat38
                obtain rfl : _ = [_] := hrk_hat38
                refine L_ld (v := .int .i64 x_6) rfl Try.isAgg3 rfl (At.cell (AtH.at hat38 hst.sub) (j := 0) rfl) ?_
                refine L_eql (m := x_6) (n := 0) rfl rfl rfl ?_
                refine L_pick (v := .bool (((decide (x_6 < (-9))) || (decide (x_6 > 9))) || (x_6 == 0))) rfl rfl (or_f hc35 rfl) ?_
                refine L_nil ?_
                show R20 _ _
                rw [hR20]
                exact ⟨sf1, sf3, rfl, hst⟩
          ·
            intro f w_ hR
            rw [hR20] at hR
            obtain ⟨sf1, sf3, sf32, hst⟩ := hR
            clear hR20
            refine W_cond (b := (((decide (x_6 < (-9))) || (decide (x_6 > 9))) || (x_6 == 0))) sf32 (fun hc40 => ?_) (fun hc40 => ?_)
            ·
              have hB6 := (ite_t hc40).symm.trans hB6
              refine W_seq ?_
              refine W_region ?_
              refine L_as (v := .bool false) rfl rfl ?_
              refine L_nil ?_
              refine W_ret ?_
              refine retG1 (v1 := .bool false) Try.results80 rfl ?_
              obtain rfl := so hB6
              obtain rfl := so hL6
              obtain rfl := so hF
              exact ⟨rfl, (Star.keepN 0 hst)⟩
            ·
              have hB6 := (ite_f hc40).symm.trans hB6
              refine W_skip ?_
              refine W_region ?_
              refine L_mv (v := .int .i64 (i_5 : Int)) rfl sf3 ?_
              refine L_add (m := (i_5 : Int)) (n := 1) rfl rfl rfl ?_
              refine L_as (v := .int .i64 (i64 ((i_5 : Int) + 1))) rfl rfl ?_
              refine L_nil ?_
              obtain rfl := so hB6
              show ∃ m, m < _ ∧ I6 m _ _
              refine ⟨rest6.length, by simp, ?_⟩
              rw [hI6]
              exact ⟨i_5 + 1, rest6, rfl, drop_next hd6, by simp at hl6; omega, hL6, sf1, (Eq.trans rfl (congrArg (Value.int .i64) (i64_succ (n := r_.coefs.length) (by simp at hl6; omega) hlen6))), hst⟩
      ·
        cases suf6 with
        | cons _ _ => exact absurd (of_decide_eq_false hc7) (by simp at hl6; omega)
        | nil =>
          obtain rfl := range_nil hL6
          refine W_exit ?_
          show R6 _ _
          rw [hR6]
          exact ⟨rfl, sf1, hst⟩
  ·
    clear hst
    intro f w_ hR
    rw [hR6] at hR
    obtain ⟨rfl, sf1, hst⟩ := hR
    clear hR6
    refine W_seq ?_
    obtain ⟨R41, hR41⟩ : ∃ R : Fr → World → Prop, R = fun f w_ => f 2 = .bool ((((r_.coefs.length : Int) == (r_.vars.length : Int)) && (decide (r_.bound ≥ (-1000)))) && (decide (r_.bound ≤ 1000))) ∧ Star H w_ ([]) := ⟨_, rfl⟩
    refine W_join R41 ?_ ?_
    ·
      refine W_region ?_
      refine L_fa (o' := 2) rfl fa_68_2 sf1 rfl ?_
      refine L_ld (v := v0_2) rfl Try.isAgg22 rfl (At.cell0 (Blk.at (Star.blkAt 0 hst rfl)) (j := 2) rfl) ?_
      refine L_len (v := v0_2) (n := List.length r_.coefs) rfl Try.underlying22 rfl (slice_len h0_2) ?_
      refine L_fa (o' := 1) rfl fa_68_1 sf1 rfl ?_
      refine L_ld (v := v0_1) rfl Try.isAgg22 rfl (At.cell0 (Blk.at (Star.blkAt 0 hst rfl)) (j := 1) rfl) ?_
      refine L_len (v := v0_1) (n := List.length r_.vars) rfl Try.underlying22 rfl (slice_len h0_1) ?_
      refine L_eql (m := (r_.coefs.length : Int)) (n := (r_.vars.length : Int)) rfl rfl rfl ?_
      refine L_mv (v := .bool ((r_.coefs.length : Int) == (r_.vars.length : Int))) rfl rfl ?_
      refine L_split (d := 40) (b := ((r_.coefs.length : Int) == (r_.vars.length : Int))) rfl (fun hc42 => ?_) (fun hc42 => ?_)
      ·
        refine L_fa (o' := 3) rfl fa_68_3 sf1 rfl ?_
        refine L_ld (v := .int .i64 r_.bound) rfl Try.isAgg3 rfl (At.cell0 (Blk.at (Star.blkAt 0 hst rfl)) (j := 3) rfl) ?_
        refine L_geq (m := r_.bound) (n := (-1000)) rfl rfl rfl ?_
        refine L_pick (v := .bool (((r_.coefs.length : Int) == (r_.vars.length : Int)) && (decide (r_.bound ≥ (-1000))))) rfl rfl (and_t hc42 rfl) ?_
        refine L_mv (v := .bool (((r_.coefs.length : Int) == (r_.vars.length : Int)) && (decide (r_.bound ≥ (-1000))))) rfl rfl ?_
        refine L_split (d := 45) (b := (((r_.coefs.length : Int) == (r_.vars.length : Int)) && (decide (r_.bound ≥ (-1000))))) rfl (fun hc43 => ?_) (fun hc43 => ?_)
        ·
          refine L_fa (o' := 3) rfl fa_68_3 sf1 rfl ?_
          refine L_ld (v := .int .i64 r_.bound) rfl Try.isAgg3 rfl (At.cell0 (Blk.at (Star.blkAt 0 hst rfl)) (j := 3) rfl) ?_
          refine L_leq (m := r_.bound) (n := 1000) rfl rfl rfl ?_
          refine L_pick (v := .bool ((((r_.coefs.length : Int) == (r_.vars.length : Int)) && (decide (r_.bound ≥ (-1000)))) && (decide (r_.bound ≤ 1000)))) rfl rfl (and_t hc43 rfl) ?_
          refine L_as (v := .bool ((((r_.coefs.length : Int) == (r_.vars.length : Int)) && (decide (r_.bound ≥ (-1000)))) && (decide (r_.bound ≤ 1000)))) rfl rfl ?_
          refine L_nil ?_
          show R41 _ _
          rw [hR41]
          exact ⟨rfl, (Star.keepN 0 hst)⟩
        ·
          refine L_pass rfl ?_
          refine L_pass rfl ?_
          refine L_pass rfl ?_
          refine L_pick (v := .bool ((((r_.coefs.length : Int) == (r_.vars.length : Int)) && (decide (r_.bound ≥ (-1000)))) && (decide (r_.bound ≤ 1000)))) rfl rfl (and_f hc43) ?_
          refine L_as (v := .bool ((((r_.coefs.length : Int) == (r_.vars.length : Int)) && (decide (r_.bound ≥ (-1000)))) && (decide (r_.bound ≤ 1000)))) rfl rfl ?_
          refine L_nil ?_
          show R41 _ _
          rw [hR41]
          exact ⟨rfl, (Star.keepN 0 hst)⟩
      ·
        refine L_pass rfl ?_
        refine L_pass rfl ?_
        refine L_pass rfl ?_
        refine L_pick (v := .bool (((r_.coefs.length : Int) == (r_.vars.length : Int)) && (decide (r_.bound ≥ (-1000))))) rfl rfl (and_f hc42) ?_
        refine L_mv (v := .bool (((r_.coefs.length : Int) == (r_.vars.length : Int)) && (decide (r_.bound ≥ (-1000))))) rfl rfl ?_
        refine L_split (d := 45) (b := (((r_.coefs.length : Int) == (r_.vars.length : Int)) && (decide (r_.bound ≥ (-1000))))) rfl (fun hc44 => ?_) (fun hc44 => ?_)
        ·
          refine L_fa (o' := 3) rfl fa_68_3 sf1 rfl ?_
          refine L_ld (v := .int .i64 r_.bound) rfl Try.isAgg3 rfl (At.cell0 (Blk.at (Star.blkAt 0 hst rfl)) (j := 3) rfl) ?_
          refine L_leq (m := r_.bound) (n := 1000) rfl rfl rfl ?_
          refine L_pick (v := .bool ((((r_.coefs.length : Int) == (r_.vars.length : Int)) && (decide (r_.bound ≥ (-1000)))) && (decide (r_.bound ≤ 1000)))) rfl rfl (and_t hc44 rfl) ?_
          refine L_as (v := .bool ((((r_.coefs.length : Int) == (r_.vars.length : Int)) && (decide (r_.bound ≥ (-1000)))) && (decide (r_.bound ≤ 1000)))) rfl rfl ?_
          refine L_nil ?_
          show R41 _ _
          rw [hR41]
          exact ⟨rfl, (Star.keepN 0 hst)⟩
        ·
          refine L_pass rfl ?_
          refine L_pass rfl ?_
          refine L_pass rfl ?_
          refine L_pick (v := .bool ((((r_.coefs.length : Int) == (r_.vars.length : Int)) && (decide (r_.bound ≥ (-1000)))) && (decide (r_.bound ≤ 1000)))) rfl rfl (and_f hc44) ?_
          refine L_as (v := .bool ((((r_.coefs.length : Int) == (r_.vars.length : Int)) && (decide (r_.bound ≥ (-1000)))) && (decide (r_.bound ≤ 1000)))) rfl rfl ?_
          refine L_nil ?_
          show R41 _ _
          rw [hR41]
          exact ⟨rfl, (Star.keepN 0 hst)⟩
    ·
      intro f w_ hR
      rw [hR41] at hR
      obtain ⟨sf2, hst⟩ := hR
      clear hR41
      refine W_ret ?_
      refine retG1 (v1 := .bool ((((r_.coefs.length : Int) == (r_.vars.length : Int)) && (decide (r_.bound ≥ (-1000)))) && (decide (r_.bound ≤ 1000)))) Try.results80 sf2 ?_
      obtain rfl := so hF
      exact ⟨rfl, hst⟩

theorem s_l6Table_c {r_ : Rule} {v0_1 : Value} {v0_2 : Value} {v0_4 : Value} {H : FH} {w : World} (hst : Star H w []) (h0_1 : (RP.slice 3 RP.int).rel H [v0_1] r_.vars) (h0_2 : (RP.slice 3 RP.int).rel H [v0_2] r_.coefs) (h0_4 : (RP.slice 22 (RP.slice 3 RP.int)).rel H [v0_4] r_.rows) {r : Bool} (hF : s_l6Table r_ = some r) :
    C Try.prog 81 #[.agg #[.int .i64 r_.kind, v0_1, v0_2, .int .i64 r_.bound, v0_4]] w fun v w' => v = .bool r ∧ Star H w' [] := by
  unfold s_l6Table at hF
  refine C_enter Try.func81 rfl Try.ntmps81 rfl ?_
  refine W_seq ?_
  refine W_region ?_
  refine L_box (v := .agg #[.int .i64 r_.kind, v0_1, v0_2, .int .i64 r_.bound, v0_4]) (cs := #[.int .i64 r_.kind, v0_1, v0_2, .int .i64 r_.bound, v0_4]) rfl rfl rfl hst ?_
  intro g3 w4 hst
  refine L_as (v := .bool false) rfl rfl ?_
  refine L_nil ?_
  refine W_seq ?_
  refine W_seq ?_
  refine W_region ?_
  refine L_as (v := .int .i64 0) rfl rfl ?_
  refine L_nil ?_
  have hlen8 : List.length r_.rows ≤ 9223372036854775807 := len_le (slice_len h0_4)
  obtain ⟨j8, hL8, hF⟩ := bind_some hF
  obtain ⟨R8, hR8⟩ : ∃ R : Fr → World → Prop, R = fun f w_ => ∃ H6 : FH, j8 = .nx () ∧ Le H H6 ∧ f 1 = .pointer (some ⟨g3, 0, none⟩) ∧ Star H6 w_ ([box g3 68 #[.int .i64 r_.kind, v0_1, v0_2, .int .i64 r_.bound, v0_4]]) := ⟨_, rfl⟩
  refine W_join R8 ?_ ?_
  ·
    refine W_block ?_
    obtain ⟨I8, hI8⟩ : ∃ I : Nat → Fr → World → Prop, I = fun n f w_ => ∃ i_5 : Nat, ∃ suf8 : List (List Int), ∃ H6 : FH, n = suf8.length ∧ List.drop i_5 r_.rows = suf8 ∧ i_5 + suf8.length = r_.rows.length ∧ rangeL (s_l6Table_b1 r_) suf8 i_5 () = some j8 ∧ Le H H6 ∧ f 1 = .pointer (some ⟨g3, 0, none⟩) ∧ f 3 = .int .i64 (i_5 : Int) ∧ Star H6 w_ ([box g3 68 #[.int .i64 r_.kind, v0_1, v0_2, .int .i64 r_.bound, v0_4]]) := ⟨_, rfl⟩
    refine W_loop I8 (n := r_.rows.length) ?_ ?_
    · rw [hI8]; exact ⟨0, r_.rows, H, rfl, rfl, Nat.zero_add _, hL8, (Le.refl _), rfl, rfl, hst⟩
    ·
      clear hst
      intro n8 f w_ hI
      rw [hI8] at hI
      obtain ⟨i_5, suf8, H6, rfl, hd8, hl8, hL8, hle7, sf1, sf3, hst⟩ := hI
      refine W_seq ?_
      refine W_seq ?_
      refine W_region ?_
      refine L_mv (v := .int .i64 (i_5 : Int)) rfl sf3 ?_
      refine L_fa (o' := 4) rfl fa_68_4 sf1 rfl ?_
      refine L_ld (v := v0_4) rfl Try.isAgg66 rfl (At.cell0 (Blk.at (Star.blkAt 0 hst rfl)) (j := 4) rfl) ?_
      refine L_len (v := v0_4) (n := List.length r_.rows) rfl Try.underlying66 rfl (slice_len (RP.mono _ h0_4 hle7)) ?_
      refine L_lss (m := (i_5 : Int)) (n := (r_.rows.length : Int)) rfl rfl rfl ?_
      refine L_nil ?_
      refine W_cond (b := decide ((i_5 : Int) < (r_.rows.length : Int))) rfl (fun hc9 => ?_) (fun hc9 => ?_)
      ·
        have hlt8 := of_decide_eq_true hc9
        cases suf8 with
        | nil => exact absurd hlt8 (by simp at hl8; omega)
        | cons x_8 rest8 =>
          obtain ⟨o8, hB8, hL8⟩ := range_cons hL8
          rw [s_l6Table_b1] at hB8
          have hix8 := drop_idx hd8
          refine W_skip ?_
          refine W_seq ?_
          refine W_block ?_
          refine W_seq ?_
          refine W_seq ?_
          refine W_drawS 9 [isV (.pointer (some ⟨g3, 4, none⟩)), isV (v0_4), isV (.int .i64 (i_5 : Int)), isEl (RP.slice 3 RP.int) x_8 0, isData (RP.slice 3 RP.int) x_8, isV (.int .i64 (x_8.length : Int)), isV (.pointer (some ⟨g3, 1, none⟩)), isV (v0_1), isV (.int .i64 (r_.vars.length : Int))] [box g3 68 #[.int .i64 r_.kind, v0_1, v0_2, .int .i64 r_.bound, v0_4]] [] ([]) [([], []), ([], []), ([], []), ([], []), ([], []), ([], []), ([], []), ([], []), ([], [])] (S := []) Try_mix (by kernel_rfl) rfl (by kernel_rfl) (amF_cons (mono_V _) (amF_cons (mono_V _) (amF_cons (mono_V _) (amF_cons (mono_el _ _ _) (amF_cons (mono_data _ _) (amF_cons (mono_V _) (amF_cons (mono_V _) (amF_cons (mono_V _) (amF_cons (mono_V _) amF_nil))))))))) hst ?_ (fun f w_ H14 hS14 hE14 hT14 hst => ?_)
          ·
            refine opsS_cons ?_ ?_
            ·
              intro f w_ H14 X14 hS14 hE14 hP14 hst
              refine L_fa (o' := 4) rfl fa_68_4 ((hS14 1 rfl).trans sf1) rfl ?_
              exact L_nil ⟨rfl, _, _, _, rfl, rfl, Le.refl _, rfl, hst⟩
            refine opsS_cons ?_ ?_
            ·
              intro f w_ H14 X14 hS14 hE14 hP14 hst
              refine L_ld (v := v0_4) rfl Try.isAgg66 (hP14 0 12 rfl rfl) (At.cell0 (Blk.at (Star.blkAt 0 hst rfl)) (j := 4) rfl) ?_
              exact L_nil ⟨rfl, _, _, _, rfl, rfl, Le.refl _, rfl, hst⟩
            refine opsS_cons ?_ ?_
            ·
              intro f w_ H14 X14 hS14 hE14 hP14 hst
              refine L_mv (v := .int .i64 (i_5 : Int)) rfl ((hS14 3 rfl).trans sf3) ?_
              exact L_nil ⟨rfl, _, _, _, rfl, rfl, Le.refl _, rfl, hst⟩
            refine opsS_cons ?_ ?_
            ·
              intro f w_ H14 X14 hS14 hE14 hP14 hst
              refine L_ix (r := (RP.slice 3 RP.int)) rfl Try.underlying66 Try.sizeOf22 (hP14 1 13 rfl rfl) (RP.mono _ h0_4 (Le.trans hle7 hE14)) (hP14 2 14 rfl rfl) hix8 ?_
              intro g19 o20 cs_g19 hrk_hat21 hat21
              obtain ⟨u22, rfl, hu22⟩ := slice1 hrk_hat21
              exact L_nil ⟨rfl, _, _, _, rfl, rfl, Le.refl _, ⟨_, _, _, rfl, hrk_hat21, hat21⟩, hst⟩
            refine opsS_cons ?_ ?_
            ·
              intro f w_ H14 X14 hS14 hE14 hP14 hst
              obtain ⟨g23, o23, cs23, hv23, hrk_hat23, hat23⟩ := (hP14 3 15 rfl rfl)
              obtain ⟨u24, rfl, hu24⟩ := slice1 hrk_hat23
              refine L_ld (v := u24) rfl Try.isAgg22 hv23 (At.cell (AtH.at hat23 hst.sub) (j := 0) rfl) ?_
              exact L_nil ⟨rfl, _, _, _, rfl, rfl, Le.refl _, hu24, hst⟩
            refine opsS_cons ?_ ?_
            ·
              intro f w_ H14 X14 hS14 hE14 hP14 hst
              have hd25 : (RP.slice 3 RP.int).rel H14 [f 16] x_8 := (hP14 4 16 rfl rfl)
              refine L_len (v := (f 16)) (n := List.length x_8) rfl Try.underlying22 rfl (slice_len hd25) ?_
              exact L_nil ⟨rfl, _, _, _, rfl, rfl, Le.refl _, rfl, hst⟩
            refine opsS_cons ?_ ?_
            ·
              intro f w_ H14 X14 hS14 hE14 hP14 hst
              refine L_fa (o' := 1) rfl fa_68_1 ((hS14 1 rfl).trans sf1) rfl ?_
              exact L_nil ⟨rfl, _, _, _, rfl, rfl, Le.refl _, rfl, hst⟩
            refine opsS_cons ?_ ?_
            ·
              intro f w_ H14 X14 hS14 hE14 hP14 hst
              refine L_ld (v := v0_1) rfl Try.isAgg22 (hP14 6 18 rfl rfl) (At.cell0 (Blk.at (Star.blkAt 0 hst rfl)) (j := 1) rfl) ?_
              exact L_nil ⟨rfl, _, _, _, rfl, rfl, Le.refl _, rfl, hst⟩
            refine opsS_cons ?_ ?_
            ·
              intro f w_ H14 X14 hS14 hE14 hP14 hst
              refine L_len (v := v0_1) (n := List.length r_.vars) rfl Try.underlying22 (hP14 7 19 rfl rfl) (slice_len (RP.mono _ h0_1 (Le.trans hle7 hE14))) ?_
              exact L_nil ⟨rfl, _, _, _, rfl, rfl, Le.refl _, rfl, hst⟩
            exact opsS_nil
          ·
            refine L_neq (m := (x_8.length : Int)) (n := (r_.vars.length : Int)) rfl (hT14 5 17 rfl rfl) (hT14 8 20 rfl rfl) ?_
            refine L_nil ?_
            refine W_cond (b := ((x_8.length : Int) != (r_.vars.length : Int))) rfl (fun hc26 => ?_) (fun hc26 => ?_)
            ·
              have hB8 := (ite_t hc26).symm.trans hB8
              refine W_seq ?_
              refine W_region ?_
              refine L_as (v := .bool false) rfl rfl ?_
              refine L_nil ?_
              refine W_ret ?_
              refine retG1 (v1 := .bool false) Try.results81 rfl ?_
              obtain rfl := so hB8
              obtain rfl := so hL8
              obtain rfl := so hF
              exact ⟨rfl, (Star.down (Star.keepN 0 hst) (Le.trans hle7 hE14) closedL_nil)⟩
            ·
              have hB8 := (ite_f hc26).symm.trans hB8
              refine W_skip ?_
              refine W_seq ?_
              refine W_region ?_
              refine L_as (v := .int .i64 0) rfl rfl ?_
              refine L_nil ?_
              obtain ⟨k29, hk29, hB8⟩ := bind_some hB8
              obtain ⟨j28, hL28, hB8⟩ := bind_some hB8
              obtain ⟨R28, hR28⟩ : ∃ R : Fr → World → Prop, R = fun f w_ => j28 = .nx () ∧ f 1 = .pointer (some ⟨g3, 0, none⟩) ∧ f 3 = .int .i64 (i_5 : Int) ∧ Star H14 w_ ([box g3 68 #[.int .i64 r_.kind, v0_1, v0_2, .int .i64 r_.bound, v0_4]]) := ⟨_, rfl⟩
              refine W_join R28 ?_ ?_
              ·
                refine W_block ?_
                obtain ⟨I28, hI28⟩ : ∃ I : Nat → Fr → World → Prop, I = fun n f w_ => ∃ i_27 : Nat, ∃ suf28 : Nat, suf28 = n ∧ 0 ≤ i_27 ∧ i_27 + suf28 = 0 + k29 ∧ countL (s_l6Table_b2 x_8) suf28 i_27 () = some j28 ∧ f 1 = .pointer (some ⟨g3, 0, none⟩) ∧ f 3 = .int .i64 (i_5 : Int) ∧ f 4 = .int .i64 (i_27 : Int) ∧ Star H14 w_ ([box g3 68 #[.int .i64 r_.kind, v0_1, v0_2, .int .i64 r_.bound, v0_4]]) := ⟨_, rfl⟩
                refine W_loop I28 (n := k29) ?_ ?_
                · rw [hI28]; exact ⟨0, k29, rfl, Nat.le_refl _, rfl, hL28, ((hS14 1 rfl).trans sf1), ((hS14 3 rfl).trans sf3), rfl, hst⟩
                ·
                  clear hst
                  intro n28 f w_ hI
                  rw [hI28] at hI
                  obtain ⟨i_27, suf28, rfl, hs28, hl28, hL28, sf1, sf3, sf4, hst⟩ := hI
                  refine W_seq ?_
                  refine W_seq ?_
                  refine W_region ?_
                  refine L_mv (v := .int .i64 (i_27 : Int)) rfl sf4 ?_
                  refine L_fa (o' := 4) rfl fa_68_4 sf1 rfl ?_
                  refine L_ld (v := v0_4) rfl Try.isAgg66 rfl (At.cell0 (Blk.at (Star.blkAt 0 hst rfl)) (j := 4) rfl) ?_
                  refine L_mv (v := .int .i64 (i_5 : Int)) rfl sf3 ?_
                  refine L_ix (r := (RP.slice 3 RP.int)) rfl Try.underlying66 Try.sizeOf22 rfl (RP.mono _ h0_4 (Le.trans hle7 hE14)) rfl hix8 ?_
                  intro g34 o35 cs_g34 hrk_hat36 hat36
                  obtain ⟨u37, rfl, hu37⟩ := slice1 hrk_hat36
                  refine L_ld (v := u37) rfl Try.isAgg22 rfl (At.cell (AtH.at hat36 hst.sub) (j := 0) rfl) ?_
                  refine L_len (v := u37) (n := List.length x_8) rfl Try.underlying22 rfl (slice_len hu37) ?_
                  refine L_lss (m := (i_27 : Int)) (n := (x_8.length : Int)) rfl rfl rfl ?_
                  refine L_nil ?_
                  refine W_cond (b := decide ((i_27 : Int) < (x_8.length : Int))) rfl (fun hc38 => ?_) (fun hc38 => ?_)
                  ·
                    have hlt28 := of_decide_eq_true hc38
                    cases suf28 with
                    | zero => exact absurd hlt28 (cntF_no hl28 hk29)
                    | succ rest28 =>
                      obtain ⟨o28, hB28, hL28⟩ := count_succ hL28
                      rw [s_l6Table_b2] at hB28
                      refine W_skip ?_
                      refine W_seq ?_
                      refine W_block ?_
                      refine W_seq ?_
                      obtain ⟨x43, hx43, hB28⟩ := bind_some hB28
                      obtain ⟨R56, hR56⟩ : ∃ R : Fr → World → Prop, R = fun f w_ => f 1 = .pointer (some ⟨g3, 0, none⟩) ∧ f 3 = .int .i64 (i_5 : Int) ∧ f 4 = .int .i64 (i_27 : Int) ∧ f 51 = .bool ((decide (x43 < 0)) || (decide (x43 > 3))) ∧ Star H14 w_ ([box g3 68 #[.int .i64 r_.kind, v0_1, v0_2, .int .i64 r_.bound, v0_4]]) := ⟨_, rfl⟩
                      refine W_join R56 ?_ ?_
                      ·
                        refine W_region ?_
                        refine L_fa (o' := 4) rfl fa_68_4 sf1 rfl ?_
                        refine L_ld (v := v0_4) rfl Try.isAgg66 rfl (At.cell0 (Blk.at (Star.blkAt 0 hst rfl)) (j := 4) rfl) ?_
                        refine L_mv (v := .int .i64 (i_5 : Int)) rfl sf3 ?_
                        refine L_ix (r := (RP.slice 3 RP.int)) rfl Try.underlying66 Try.sizeOf22 rfl (RP.mono _ h0_4 (Le.trans hle7 hE14)) rfl hix8 ?_
                        intro g57 o58 cs_g57 hrk_hat59 hat59
                        obtain ⟨u60, rfl, hu60⟩ := slice1 hrk_hat59
                        refine L_ld (v := u60) rfl Try.isAgg22 rfl (At.cell (AtH.at hat59 hst.sub) (j := 0) rfl) ?_
                        refine L_mv (v := .int .i64 (i_27 : Int)) rfl sf4 ?_
                        refine L_ix (r := RP.int) rfl Try.underlying22 Try.sizeOf3 rfl hu60 rfl hx43 ?_
                        intro g61 o62 cs_g61 hrk_hat63 hat63
                        obtain rfl : _ = [_] := hrk_hat63
                        refine L_ld (v := .int .i64 x43) rfl Try.isAgg3 rfl (At.cell (AtH.at hat63 hst.sub) (j := 0) rfl) ?_
                        refine L_lss (m := x43) (n := 0) rfl rfl rfl ?_
                        refine L_mv (v := .bool (decide (x43 < 0))) rfl rfl ?_
                        refine L_split (d := 41) (b := decide (x43 < 0)) rfl (fun hc65 => ?_) (fun hc65 => ?_)
                        ·
                          refine L_pass rfl ?_
                          refine L_pass rfl ?_
                          refine L_pass rfl ?_
                          refine L_pass rfl ?_
                          refine L_pass rfl ?_
                          refine L_pass rfl ?_
                          refine L_pass rfl ?_
                          refine L_pass rfl ?_
                          refine L_pass rfl ?_
                          refine L_pick (v := .bool ((decide (x43 < 0)) || (decide (x43 > 3)))) rfl rfl (or_t hc65) ?_
                          refine L_nil ?_
                          show R56 _ _
                          rw [hR56]
                          exact ⟨sf1, sf3, sf4, rfl, hst⟩
                        ·
                          refine L_fa (o' := 4) rfl fa_68_4 sf1 rfl ?_
                          refine L_ld (v := v0_4) rfl Try.isAgg66 rfl (At.cell0 (Blk.at (Star.blkAt 0 hst rfl)) (j := 4) rfl) ?_
                          refine L_mv (v := .int .i64 (i_5 : Int)) rfl sf3 ?_
                          refine L_ix (r := (RP.slice 3 RP.int)) rfl Try.underlying66 Try.sizeOf22 rfl (RP.mono _ h0_4 (Le.trans hle7 hE14)) rfl hix8 ?_
                          intro g66 o67 cs_g66 hrk_hat68 hat68
                          obtain ⟨u69, rfl, hu69⟩ := slice1 hrk_hat68
                          refine L_ld (v := u69) rfl Try.isAgg22 rfl (At.cell (AtH.at hat68 hst.sub) (j := 0) rfl) ?_
                          refine L_mv (v := .int .i64 (i_27 : Int)) rfl sf4 ?_
                          refine L_ix (r := RP.int) rfl Try.underlying22 Try.sizeOf3 rfl hu69 rfl hx43 ?_
                          intro g70 o71 cs_g70 hrk_hat72 hat72
                          obtain rfl : _ = [_] := hrk_hat72
                          refine L_ld (v := .int .i64 x43) rfl Try.isAgg3 rfl (At.cell (AtH.at hat72 hst.sub) (j := 0) rfl) ?_
                          refine L_gtr (m := x43) (n := 3) rfl rfl rfl ?_
                          refine L_pick (v := .bool ((decide (x43 < 0)) || (decide (x43 > 3)))) rfl rfl (or_f hc65 rfl) ?_
                          refine L_nil ?_
                          show R56 _ _
                          rw [hR56]
                          exact ⟨sf1, sf3, sf4, rfl, hst⟩
                      ·
                        intro f w_ hR
                        rw [hR56] at hR
                        obtain ⟨sf1, sf3, sf4, sf51, hst⟩ := hR
                        clear hR56
                        refine W_cond (b := ((decide (x43 < 0)) || (decide (x43 > 3)))) sf51 (fun hc74 => ?_) (fun hc74 => ?_)
                        ·
                          have hB28 := (ite_t hc74).symm.trans hB28
                          refine W_seq ?_
                          refine W_region ?_
                          refine L_as (v := .bool false) rfl rfl ?_
                          refine L_nil ?_
                          refine W_ret ?_
                          refine retG1 (v1 := .bool false) Try.results81 rfl ?_
                          obtain rfl := so hB28
                          obtain rfl := so hL28
                          obtain rfl := so hB8
                          obtain rfl := so hL8
                          obtain rfl := so hF
                          exact ⟨rfl, (Star.down (Star.keepN 0 hst) (Le.trans hle7 hE14) closedL_nil)⟩
                        ·
                          have hB28 := (ite_f hc74).symm.trans hB28
                          refine W_skip ?_
                          refine W_region ?_
                          refine L_mv (v := .int .i64 (i_27 : Int)) rfl sf4 ?_
                          refine L_add (m := (i_27 : Int)) (n := 1) rfl rfl rfl ?_
                          refine L_as (v := .int .i64 (i64 ((i_27 : Int) + 1))) rfl rfl ?_
                          refine L_nil ?_
                          obtain rfl := so hB28
                          show ∃ m, m < _ ∧ I28 m _ _
                          refine ⟨rest28, Nat.lt_succ_self _, ?_⟩
                          rw [hI28]
                          exact ⟨i_27 + 1, rest28, rfl, by omega, by omega, hL28, sf1, sf3, (Eq.trans rfl (congrArg (Value.int .i64) (i64_succ (n := 0 + k29) (by omega) (cntF_le hk29)))), hst⟩
                  ·
                    cases suf28 with
                    | succ _ => exact absurd (cntF_yes hs28 hl28 hk29) (of_decide_eq_false hc38)
                    | zero =>
                      obtain rfl := count_zero hL28
                      refine W_exit ?_
                      show R28 _ _
                      rw [hR28]
                      exact ⟨rfl, sf1, sf3, hst⟩
              ·
                clear hst
                intro f w_ hR
                rw [hR28] at hR
                obtain ⟨rfl, sf1, sf3, hst⟩ := hR
                clear hR28
                refine W_region ?_
                refine L_mv (v := .int .i64 (i_5 : Int)) rfl sf3 ?_
                refine L_add (m := (i_5 : Int)) (n := 1) rfl rfl rfl ?_
                refine L_as (v := .int .i64 (i64 ((i_5 : Int) + 1))) rfl rfl ?_
                refine L_nil ?_
                obtain rfl := so hB8
                show ∃ m, m < _ ∧ I8 m _ _
                refine ⟨rest8.length, by simp, ?_⟩
                rw [hI8]
                exact ⟨i_5 + 1, rest8, H14, rfl, drop_next hd8, by simp at hl8; omega, hL8, (Le.trans hle7 hE14), sf1, (Eq.trans rfl (congrArg (Value.int .i64) (i64_succ (n := r_.rows.length) (by simp at hl8; omega) hlen8))), hst⟩
      ·
        cases suf8 with
        | cons _ _ => exact absurd (of_decide_eq_false hc9) (by simp at hl8; omega)
        | nil =>
          obtain rfl := range_nil hL8
          refine W_exit ?_
          show R8 _ _
          rw [hR8]
          exact ⟨H6, rfl, hle7, sf1, hst⟩
  ·
    clear hst
    intro f w_ hR
    rw [hR8] at hR
    obtain ⟨H6, rfl, hle7, sf1, hst⟩ := hR
    clear hR8
    refine W_seq ?_
    refine W_region ?_
    refine L_fa (o' := 4) rfl fa_68_4 sf1 rfl ?_
    refine L_ld (v := v0_4) rfl Try.isAgg66 rfl (At.cell0 (Blk.at (Star.blkAt 0 hst rfl)) (j := 4) rfl) ?_
    refine L_len (v := v0_4) (n := List.length r_.rows) rfl Try.underlying66 rfl (slice_len (RP.mono _ h0_4 hle7)) ?_
    refine L_leq (m := (r_.rows.length : Int)) (n := 8) rfl rfl rfl ?_
    refine L_as (v := .bool (decide ((r_.rows.length : Int) ≤ 8))) rfl rfl ?_
    refine L_nil ?_
    refine W_ret ?_
    refine retG1 (v1 := .bool (decide ((r_.rows.length : Int) ≤ 8))) Try.results81 rfl ?_
    obtain rfl := so hF
    exact ⟨rfl, (Star.down (Star.keepN 0 hst) hle7 closedL_nil)⟩

theorem s_l6Rule_c {m : Model} {r_ : Rule} {v0_0 : Value} {v0_1 : Value} {v1_1 : Value} {v1_2 : Value} {v1_4 : Value} {H : FH} {w : World} (hst : Star H w []) (h0_0 : (RP.slice 3 RP.int).rel H [v0_0] m.sizes) (h0_1 : (RP.slice 68 (rRule 3 22)).rel H [v0_1] m.rules) (h1_1 : (RP.slice 3 RP.int).rel H [v1_1] r_.vars) (h1_2 : (RP.slice 3 RP.int).rel H [v1_2] r_.coefs) (h1_4 : (RP.slice 22 (RP.slice 3 RP.int)).rel H [v1_4] r_.rows) {r : Bool} (hF : s_l6Rule m r_ = some r) :
    C Try.prog 66 #[.agg #[v0_0, v0_1], .agg #[.int .i64 r_.kind, v1_1, v1_2, .int .i64 r_.bound, v1_4]] w fun v w' => v = .bool r ∧ Star H w' [] := by
  unfold s_l6Rule at hF
  refine C_enter Try.func66 rfl Try.ntmps66 rfl ?_
  refine W_seq ?_
  refine W_region ?_
  refine L_box (v := .agg #[v0_0, v0_1]) (cs := #[v0_0, v0_1]) rfl rfl rfl hst ?_
  intro g5 w6 hst
  refine L_box (v := .agg #[.int .i64 r_.kind, v1_1, v1_2, .int .i64 r_.bound, v1_4]) (cs := #[.int .i64 r_.kind, v1_1, v1_2, .int .i64 r_.bound, v1_4]) rfl rfl rfl hst ?_
  intro g7 w8 hst
  refine L_as (v := .bool false) rfl rfl ?_
  refine L_nil ?_
  refine W_seq ?_
  refine W_seq ?_
  obtain ⟨x14, hx14, hF⟩ := bind_some hF
  obtain ⟨R16, hR16⟩ : ∃ R : Fr → World → Prop, R = fun f w_ => f 3 = .pointer (some ⟨g7, 0, none⟩) ∧ f 36 = .bool (((!x14) || ((r_.kind != 1) && (((r_.coefs.length : Int) != 0) || (r_.bound != 0)))) || ((r_.kind != 3) && ((r_.rows.length : Int) != 0))) ∧ Star H w_ ([box g7 68 #[.int .i64 r_.kind, v1_1, v1_2, .int .i64 r_.bound, v1_4]]) := ⟨_, rfl⟩
  refine W_join R16 ?_ ?_
  ·
    refine W_region ?_
    refine L_lda (cs := [v0_0, v0_1]) rfl Try.isAgg30 Try.sizeOf30 rfl (At.sub0 (Blk.at (Star.blkAt 1 hst rfl)) 0 2) rfl ?_
    refine L_fa (o' := 1) rfl fa_68_1 rfl rfl ?_
    refine L_ld (v := v1_1) rfl Try.isAgg22 rfl (At.cell0 (Blk.at (Star.blkAt 0 hst rfl)) (j := 1) rfl) ?_
    obtain ⟨Hb17, hle18, hsb19, hfz20, hbk21⟩ := Star.borrow hst
    refine L_call (args := #[.agg #[v0_0, v0_1], v1_1]) rfl Try.call79 (ops2 rfl rfl) (s_l6Vars_c (m := m) (list := r_.vars) hsb19 (RP.mono _ h0_0 hle18) (RP.mono _ h0_1 hle18) (RP.mono _ h1_1 hle18) hx14) ?_
    rintro _ w22 ⟨rfl, hst⟩
    have hst := hbk21 hst closedL_nil
    refine L_not_ (b := x14) rfl rfl ?_
    refine L_mv (v := .bool (!x14)) rfl rfl ?_
    refine L_split (d := 10) (b := (!x14)) rfl (fun hc23 => ?_) (fun hc23 => ?_)
    ·
      refine L_pass rfl ?_
      refine L_pass rfl ?_
      refine L_pass rfl ?_
      refine L_pass rfl ?_
      refine L_pass rfl ?_
      refine L_pass rfl ?_
      refine L_pass rfl ?_
      refine L_pass rfl ?_
      refine L_pass rfl ?_
      refine L_pass rfl ?_
      refine L_pass rfl ?_
      refine L_pass rfl ?_
      refine L_pass rfl ?_
      refine L_pass rfl ?_
      refine L_pick (v := .bool ((!x14) || ((r_.kind != 1) && (((r_.coefs.length : Int) != 0) || (r_.bound != 0))))) rfl rfl (or_t hc23) ?_
      refine L_mv (v := .bool ((!x14) || ((r_.kind != 1) && (((r_.coefs.length : Int) != 0) || (r_.bound != 0))))) rfl rfl ?_
      refine L_split (d := 26) (b := ((!x14) || ((r_.kind != 1) && (((r_.coefs.length : Int) != 0) || (r_.bound != 0))))) rfl (fun hc24 => ?_) (fun hc24 => ?_)
      ·
        refine L_pass rfl ?_
        refine L_pass rfl ?_
        refine L_pass rfl ?_
        refine L_pass rfl ?_
        refine L_pass rfl ?_
        refine L_pass rfl ?_
        refine L_pass rfl ?_
        refine L_pass rfl ?_
        refine L_pass rfl ?_
        refine L_pick (v := .bool (((!x14) || ((r_.kind != 1) && (((r_.coefs.length : Int) != 0) || (r_.bound != 0)))) || ((r_.kind != 3) && ((r_.rows.length : Int) != 0)))) rfl rfl (or_t hc24) ?_
        refine L_nil ?_
        show R16 _ _
        rw [hR16]
        exact ⟨rfl, rfl, (Star.keepN 1 hst)⟩
      ·
        refine L_fa (o' := 0) rfl fa_68_0 rfl rfl ?_
        refine L_ld (v := .int .i64 r_.kind) rfl Try.isAgg3 rfl (At.cell0 (Blk.at (Star.blkAt 0 hst rfl)) (j := 0) rfl) ?_
        refine L_neq (m := r_.kind) (n := 3) rfl rfl rfl ?_
        refine L_mv (v := .bool (r_.kind != 3)) rfl rfl ?_
        refine L_split (d := 30) (b := (r_.kind != 3)) rfl (fun hc25 => ?_) (fun hc25 => ?_)
        ·
          refine L_fa (o' := 4) rfl fa_68_4 rfl rfl ?_
          refine L_ld (v := v1_4) rfl Try.isAgg66 rfl (At.cell0 (Blk.at (Star.blkAt 0 hst rfl)) (j := 4) rfl) ?_
          refine L_len (v := v1_4) (n := List.length r_.rows) rfl Try.underlying66 rfl (slice_len h1_4) ?_
          refine L_neq (m := (r_.rows.length : Int)) (n := 0) rfl rfl rfl ?_
          refine L_pick (v := .bool ((r_.kind != 3) && ((r_.rows.length : Int) != 0))) rfl rfl (and_t hc25 rfl) ?_
          refine L_pick (v := .bool (((!x14) || ((r_.kind != 1) && (((r_.coefs.length : Int) != 0) || (r_.bound != 0)))) || ((r_.kind != 3) && ((r_.rows.length : Int) != 0)))) rfl rfl (or_f hc24 rfl) ?_
          refine L_nil ?_
          show R16 _ _
          rw [hR16]
          exact ⟨rfl, rfl, (Star.keepN 1 hst)⟩
        ·
          refine L_pass rfl ?_
          refine L_pass rfl ?_
          refine L_pass rfl ?_
          refine L_pass rfl ?_
          refine L_pick (v := .bool ((r_.kind != 3) && ((r_.rows.length : Int) != 0))) rfl rfl (and_f hc25) ?_
          refine L_pick (v := .bool (((!x14) || ((r_.kind != 1) && (((r_.coefs.length : Int) != 0) || (r_.bound != 0)))) || ((r_.kind != 3) && ((r_.rows.length : Int) != 0)))) rfl rfl (or_f hc24 rfl) ?_
          refine L_nil ?_
          show R16 _ _
          rw [hR16]
          exact ⟨rfl, rfl, (Star.keepN 1 hst)⟩
    ·
      refine L_fa (o' := 0) rfl fa_68_0 rfl rfl ?_
      refine L_ld (v := .int .i64 r_.kind) rfl Try.isAgg3 rfl (At.cell0 (Blk.at (Star.blkAt 0 hst rfl)) (j := 0) rfl) ?_
      refine L_neq (m := r_.kind) (n := 1) rfl rfl rfl ?_
      refine L_mv (v := .bool (r_.kind != 1)) rfl rfl ?_
      refine L_split (d := 14) (b := (r_.kind != 1)) rfl (fun hc26 => ?_) (fun hc26 => ?_)
      ·
        refine L_fa (o' := 2) rfl fa_68_2 rfl rfl ?_
        refine L_ld (v := v1_2) rfl Try.isAgg22 rfl (At.cell0 (Blk.at (Star.blkAt 0 hst rfl)) (j := 2) rfl) ?_
        refine L_len (v := v1_2) (n := List.length r_.coefs) rfl Try.underlying22 rfl (slice_len h1_2) ?_
        refine L_neq (m := (r_.coefs.length : Int)) (n := 0) rfl rfl rfl ?_
        refine L_mv (v := .bool ((r_.coefs.length : Int) != 0)) rfl rfl ?_
        refine L_split (d := 19) (b := ((r_.coefs.length : Int) != 0)) rfl (fun hc27 => ?_) (fun hc27 => ?_)
        ·
          refine L_pass rfl ?_
          refine L_pass rfl ?_
          refine L_pass rfl ?_
          refine L_pick (v := .bool (((r_.coefs.length : Int) != 0) || (r_.bound != 0))) rfl rfl (or_t hc27) ?_
          refine L_pick (v := .bool ((r_.kind != 1) && (((r_.coefs.length : Int) != 0) || (r_.bound != 0)))) rfl rfl (and_t hc26 rfl) ?_
          refine L_pick (v := .bool ((!x14) || ((r_.kind != 1) && (((r_.coefs.length : Int) != 0) || (r_.bound != 0))))) rfl rfl (or_f hc23 rfl) ?_
          refine L_mv (v := .bool ((!x14) || ((r_.kind != 1) && (((r_.coefs.length : Int) != 0) || (r_.bound != 0))))) rfl rfl ?_
          refine L_split (d := 26) (b := ((!x14) || ((r_.kind != 1) && (((r_.coefs.length : Int) != 0) || (r_.bound != 0))))) rfl (fun hc28 => ?_) (fun hc28 => ?_)
          ·
            refine L_pass rfl ?_
            refine L_pass rfl ?_
            refine L_pass rfl ?_
            refine L_pass rfl ?_
            refine L_pass rfl ?_
            refine L_pass rfl ?_
            refine L_pass rfl ?_
            refine L_pass rfl ?_
            refine L_pass rfl ?_
            refine L_pick (v := .bool (((!x14) || ((r_.kind != 1) && (((r_.coefs.length : Int) != 0) || (r_.bound != 0)))) || ((r_.kind != 3) && ((r_.rows.length : Int) != 0)))) rfl rfl (or_t hc28) ?_
            refine L_nil ?_
            show R16 _ _
            rw [hR16]
            exact ⟨rfl, rfl, (Star.keepN 1 hst)⟩
          ·
            refine L_fa (o' := 0) rfl fa_68_0 rfl rfl ?_
            refine L_ld (v := .int .i64 r_.kind) rfl Try.isAgg3 rfl (At.cell0 (Blk.at (Star.blkAt 0 hst rfl)) (j := 0) rfl) ?_
            refine L_neq (m := r_.kind) (n := 3) rfl rfl rfl ?_
            refine L_mv (v := .bool (r_.kind != 3)) rfl rfl ?_
            refine L_split (d := 30) (b := (r_.kind != 3)) rfl (fun hc29 => ?_) (fun hc29 => ?_)
            ·
              refine L_fa (o' := 4) rfl fa_68_4 rfl rfl ?_
              refine L_ld (v := v1_4) rfl Try.isAgg66 rfl (At.cell0 (Blk.at (Star.blkAt 0 hst rfl)) (j := 4) rfl) ?_
              refine L_len (v := v1_4) (n := List.length r_.rows) rfl Try.underlying66 rfl (slice_len h1_4) ?_
              refine L_neq (m := (r_.rows.length : Int)) (n := 0) rfl rfl rfl ?_
              refine L_pick (v := .bool ((r_.kind != 3) && ((r_.rows.length : Int) != 0))) rfl rfl (and_t hc29 rfl) ?_
              refine L_pick (v := .bool (((!x14) || ((r_.kind != 1) && (((r_.coefs.length : Int) != 0) || (r_.bound != 0)))) || ((r_.kind != 3) && ((r_.rows.length : Int) != 0)))) rfl rfl (or_f hc28 rfl) ?_
              refine L_nil ?_
              show R16 _ _
              rw [hR16]
              exact ⟨rfl, rfl, (Star.keepN 1 hst)⟩
            ·
              refine L_pass rfl ?_
              refine L_pass rfl ?_
              refine L_pass rfl ?_
              refine L_pass rfl ?_
              refine L_pick (v := .bool ((r_.kind != 3) && ((r_.rows.length : Int) != 0))) rfl rfl (and_f hc29) ?_
              refine L_pick (v := .bool (((!x14) || ((r_.kind != 1) && (((r_.coefs.length : Int) != 0) || (r_.bound != 0)))) || ((r_.kind != 3) && ((r_.rows.length : Int) != 0)))) rfl rfl (or_f hc28 rfl) ?_
              refine L_nil ?_
              show R16 _ _
              rw [hR16]
              exact ⟨rfl, rfl, (Star.keepN 1 hst)⟩
        ·
          refine L_fa (o' := 3) rfl fa_68_3 rfl rfl ?_
          refine L_ld (v := .int .i64 r_.bound) rfl Try.isAgg3 rfl (At.cell0 (Blk.at (Star.blkAt 0 hst rfl)) (j := 3) rfl) ?_
          refine L_neq (m := r_.bound) (n := 0) rfl rfl rfl ?_
          refine L_pick (v := .bool (((r_.coefs.length : Int) != 0) || (r_.bound != 0))) rfl rfl (or_f hc27 rfl) ?_
          refine L_pick (v := .bool ((r_.kind != 1) && (((r_.coefs.length : Int) != 0) || (r_.bound != 0)))) rfl rfl (and_t hc26 rfl) ?_
          refine L_pick (v := .bool ((!x14) || ((r_.kind != 1) && (((r_.coefs.length : Int) != 0) || (r_.bound != 0))))) rfl rfl (or_f hc23 rfl) ?_
          refine L_mv (v := .bool ((!x14) || ((r_.kind != 1) && (((r_.coefs.length : Int) != 0) || (r_.bound != 0))))) rfl rfl ?_
          refine L_split (d := 26) (b := ((!x14) || ((r_.kind != 1) && (((r_.coefs.length : Int) != 0) || (r_.bound != 0))))) rfl (fun hc30 => ?_) (fun hc30 => ?_)
          ·
            refine L_pass rfl ?_
            refine L_pass rfl ?_
            refine L_pass rfl ?_
            refine L_pass rfl ?_
            refine L_pass rfl ?_
            refine L_pass rfl ?_
            refine L_pass rfl ?_
            refine L_pass rfl ?_
            refine L_pass rfl ?_
            refine L_pick (v := .bool (((!x14) || ((r_.kind != 1) && (((r_.coefs.length : Int) != 0) || (r_.bound != 0)))) || ((r_.kind != 3) && ((r_.rows.length : Int) != 0)))) rfl rfl (or_t hc30) ?_
            refine L_nil ?_
            show R16 _ _
            rw [hR16]
            exact ⟨rfl, rfl, (Star.keepN 1 hst)⟩
          ·
            refine L_fa (o' := 0) rfl fa_68_0 rfl rfl ?_
            refine L_ld (v := .int .i64 r_.kind) rfl Try.isAgg3 rfl (At.cell0 (Blk.at (Star.blkAt 0 hst rfl)) (j := 0) rfl) ?_
            refine L_neq (m := r_.kind) (n := 3) rfl rfl rfl ?_
            refine L_mv (v := .bool (r_.kind != 3)) rfl rfl ?_
            refine L_split (d := 30) (b := (r_.kind != 3)) rfl (fun hc31 => ?_) (fun hc31 => ?_)
            ·
              refine L_fa (o' := 4) rfl fa_68_4 rfl rfl ?_
              refine L_ld (v := v1_4) rfl Try.isAgg66 rfl (At.cell0 (Blk.at (Star.blkAt 0 hst rfl)) (j := 4) rfl) ?_
              refine L_len (v := v1_4) (n := List.length r_.rows) rfl Try.underlying66 rfl (slice_len h1_4) ?_
              refine L_neq (m := (r_.rows.length : Int)) (n := 0) rfl rfl rfl ?_
              refine L_pick (v := .bool ((r_.kind != 3) && ((r_.rows.length : Int) != 0))) rfl rfl (and_t hc31 rfl) ?_
              refine L_pick (v := .bool (((!x14) || ((r_.kind != 1) && (((r_.coefs.length : Int) != 0) || (r_.bound != 0)))) || ((r_.kind != 3) && ((r_.rows.length : Int) != 0)))) rfl rfl (or_f hc30 rfl) ?_
              refine L_nil ?_
              show R16 _ _
              rw [hR16]
              exact ⟨rfl, rfl, (Star.keepN 1 hst)⟩
            ·
              refine L_pass rfl ?_
              refine L_pass rfl ?_
              refine L_pass rfl ?_
              refine L_pass rfl ?_
              refine L_pick (v := .bool ((r_.kind != 3) && ((r_.rows.length : Int) != 0))) rfl rfl (and_f hc31) ?_
              refine L_pick (v := .bool (((!x14) || ((r_.kind != 1) && (((r_.coefs.length : Int) != 0) || (r_.bound != 0)))) || ((r_.kind != 3) && ((r_.rows.length : Int) != 0)))) rfl rfl (or_f hc30 rfl) ?_
              refine L_nil ?_
              show R16 _ _
              rw [hR16]
              exact ⟨rfl, rfl, (Star.keepN 1 hst)⟩
      ·
        refine L_pass rfl ?_
        refine L_pass rfl ?_
        refine L_pass rfl ?_
        refine L_pass rfl ?_
        refine L_pass rfl ?_
        refine L_pass rfl ?_
        refine L_pass rfl ?_
        refine L_pass rfl ?_
        refine L_pass rfl ?_
        refine L_pick (v := .bool ((r_.kind != 1) && (((r_.coefs.length : Int) != 0) || (r_.bound != 0)))) rfl rfl (and_f hc26) ?_
        refine L_pick (v := .bool ((!x14) || ((r_.kind != 1) && (((r_.coefs.length : Int) != 0) || (r_.bound != 0))))) rfl rfl (or_f hc23 rfl) ?_
        refine L_mv (v := .bool ((!x14) || ((r_.kind != 1) && (((r_.coefs.length : Int) != 0) || (r_.bound != 0))))) rfl rfl ?_
        refine L_split (d := 26) (b := ((!x14) || ((r_.kind != 1) && (((r_.coefs.length : Int) != 0) || (r_.bound != 0))))) rfl (fun hc32 => ?_) (fun hc32 => ?_)
        ·
          refine L_pass rfl ?_
          refine L_pass rfl ?_
          refine L_pass rfl ?_
          refine L_pass rfl ?_
          refine L_pass rfl ?_
          refine L_pass rfl ?_
          refine L_pass rfl ?_
          refine L_pass rfl ?_
          refine L_pass rfl ?_
          refine L_pick (v := .bool (((!x14) || ((r_.kind != 1) && (((r_.coefs.length : Int) != 0) || (r_.bound != 0)))) || ((r_.kind != 3) && ((r_.rows.length : Int) != 0)))) rfl rfl (or_t hc32) ?_
          refine L_nil ?_
          show R16 _ _
          rw [hR16]
          exact ⟨rfl, rfl, (Star.keepN 1 hst)⟩
        ·
          refine L_fa (o' := 0) rfl fa_68_0 rfl rfl ?_
          refine L_ld (v := .int .i64 r_.kind) rfl Try.isAgg3 rfl (At.cell0 (Blk.at (Star.blkAt 0 hst rfl)) (j := 0) rfl) ?_
          refine L_neq (m := r_.kind) (n := 3) rfl rfl rfl ?_
          refine L_mv (v := .bool (r_.kind != 3)) rfl rfl ?_
          refine L_split (d := 30) (b := (r_.kind != 3)) rfl (fun hc33 => ?_) (fun hc33 => ?_)
          ·
            refine L_fa (o' := 4) rfl fa_68_4 rfl rfl ?_
            refine L_ld (v := v1_4) rfl Try.isAgg66 rfl (At.cell0 (Blk.at (Star.blkAt 0 hst rfl)) (j := 4) rfl) ?_
            refine L_len (v := v1_4) (n := List.length r_.rows) rfl Try.underlying66 rfl (slice_len h1_4) ?_
            refine L_neq (m := (r_.rows.length : Int)) (n := 0) rfl rfl rfl ?_
            refine L_pick (v := .bool ((r_.kind != 3) && ((r_.rows.length : Int) != 0))) rfl rfl (and_t hc33 rfl) ?_
            refine L_pick (v := .bool (((!x14) || ((r_.kind != 1) && (((r_.coefs.length : Int) != 0) || (r_.bound != 0)))) || ((r_.kind != 3) && ((r_.rows.length : Int) != 0)))) rfl rfl (or_f hc32 rfl) ?_
            refine L_nil ?_
            show R16 _ _
            rw [hR16]
            exact ⟨rfl, rfl, (Star.keepN 1 hst)⟩
          ·
            refine L_pass rfl ?_
            refine L_pass rfl ?_
            refine L_pass rfl ?_
            refine L_pass rfl ?_
            refine L_pick (v := .bool ((r_.kind != 3) && ((r_.rows.length : Int) != 0))) rfl rfl (and_f hc33) ?_
            refine L_pick (v := .bool (((!x14) || ((r_.kind != 1) && (((r_.coefs.length : Int) != 0) || (r_.bound != 0)))) || ((r_.kind != 3) && ((r_.rows.length : Int) != 0)))) rfl rfl (or_f hc32 rfl) ?_
            refine L_nil ?_
            show R16 _ _
            rw [hR16]
            exact ⟨rfl, rfl, (Star.keepN 1 hst)⟩
  ·
    intro f w_ hR
    rw [hR16] at hR
    obtain ⟨sf3, sf36, hst⟩ := hR
    clear hR16
    refine W_cond (b := (((!x14) || ((r_.kind != 1) && (((r_.coefs.length : Int) != 0) || (r_.bound != 0)))) || ((r_.kind != 3) && ((r_.rows.length : Int) != 0)))) sf36 (fun hc34 => ?_) (fun hc34 => ?_)
    ·
      have hF := (ite_t hc34).symm.trans hF
      refine W_seq ?_
      refine W_region ?_
      refine L_as (v := .bool false) rfl rfl ?_
      refine L_nil ?_
      refine W_ret ?_
      refine retG1 (v1 := .bool false) Try.results66 rfl ?_
      obtain rfl := so hF
      exact ⟨rfl, (Star.keepN 0 hst)⟩
    ·
      have hF := (ite_f hc34).symm.trans hF
      refine W_skip ?_
      refine W_seq ?_
      refine W_seq ?_
      refine W_region ?_
      refine L_fa (o' := 0) rfl fa_68_0 sf3 rfl ?_
      refine L_ld (v := .int .i64 r_.kind) rfl Try.isAgg3 rfl (At.cell0 (Blk.at (Star.blkAt 0 hst rfl)) (j := 0) rfl) ?_
      refine L_nil ?_
      refine W_block ?_
      refine W_seq ?_
      refine W_region ?_
      refine L_eql (m := r_.kind) (n := 1) rfl rfl rfl ?_
      refine L_as (v := .bool (r_.kind == 1)) rfl rfl ?_
      refine L_nil ?_
      refine W_cond (b := (r_.kind == 1)) rfl (fun hc35 => ?_) (fun hc35 => ?_)
      ·
        have hF := (ite_t hc35).symm.trans hF
        refine W_seq ?_
        obtain ⟨x41, hx41, hF⟩ := bind_some hF
        refine W_region ?_
        refine L_lda (cs := [.int .i64 r_.kind, v1_1, v1_2, .int .i64 r_.bound, v1_4]) rfl Try.isAgg68 Try.sizeOf68 sf3 (At.sub0 (Blk.at (Star.blkAt 0 hst rfl)) 0 5) rfl ?_
        obtain ⟨Hb43, hle44, hsb45, hfz46, hbk47⟩ := Star.borrow hst
        refine L_call (args := #[.agg #[.int .i64 r_.kind, v1_1, v1_2, .int .i64 r_.bound, v1_4]]) rfl Try.call80 (ops1 rfl) (s_l6Linear_c (r_ := r_) hsb45 (RP.mono _ h1_1 hle44) (RP.mono _ h1_2 hle44) (RP.mono _ h1_4 hle44) hx41) ?_
        rintro _ w48 ⟨rfl, hst⟩
        have hst := hbk47 hst closedL_nil
        refine L_as (v := .bool x41) rfl rfl ?_
        refine L_nil ?_
        refine W_ret ?_
        refine retG1 (v1 := .bool x41) Try.results66 rfl ?_
        obtain rfl := so hF
        exact ⟨rfl, (Star.keepN 0 hst)⟩
      ·
        have hF := (ite_f hc35).symm.trans hF
        refine W_seq ?_
        refine W_region ?_
        refine L_eql (m := r_.kind) (n := 2) rfl rfl rfl ?_
        refine L_as (v := .bool (r_.kind == 2)) rfl rfl ?_
        refine L_nil ?_
        refine W_cond (b := (r_.kind == 2)) rfl (fun hc49 => ?_) (fun hc49 => ?_)
        ·
          have hF := (ite_t hc49).symm.trans hF
          refine W_seq ?_
          refine W_region ?_
          refine L_as (v := .bool true) rfl rfl ?_
          refine L_nil ?_
          refine W_ret ?_
          refine retG1 (v1 := .bool true) Try.results66 rfl ?_
          obtain rfl := so hF
          exact ⟨rfl, (Star.keepN 0 hst)⟩
        ·
          have hF := (ite_f hc49).symm.trans hF
          refine W_seq ?_
          refine W_region ?_
          refine L_eql (m := r_.kind) (n := 3) rfl rfl rfl ?_
          refine L_as (v := .bool (r_.kind == 3)) rfl rfl ?_
          refine L_nil ?_
          refine W_cond (b := (r_.kind == 3)) rfl (fun hc50 => ?_) (fun hc50 => ?_)
          ·
            have hF := (ite_t hc50).symm.trans hF
            refine W_seq ?_
            obtain ⟨x56, hx56, hF⟩ := bind_some hF
            refine W_region ?_
            refine L_lda (cs := [.int .i64 r_.kind, v1_1, v1_2, .int .i64 r_.bound, v1_4]) rfl Try.isAgg68 Try.sizeOf68 sf3 (At.sub0 (Blk.at (Star.blkAt 0 hst rfl)) 0 5) rfl ?_
            obtain ⟨Hb58, hle59, hsb60, hfz61, hbk62⟩ := Star.borrow hst
            refine L_call (args := #[.agg #[.int .i64 r_.kind, v1_1, v1_2, .int .i64 r_.bound, v1_4]]) rfl Try.call81 (ops1 rfl) (s_l6Table_c (r_ := r_) hsb60 (RP.mono _ h1_1 hle59) (RP.mono _ h1_2 hle59) (RP.mono _ h1_4 hle59) hx56) ?_
            rintro _ w63 ⟨rfl, hst⟩
            have hst := hbk62 hst closedL_nil
            refine L_as (v := .bool x56) rfl rfl ?_
            refine L_nil ?_
            refine W_ret ?_
            refine retG1 (v1 := .bool x56) Try.results66 rfl ?_
            obtain rfl := so hF
            exact ⟨rfl, (Star.keepN 0 hst)⟩
          ·
            have hF := (ite_f hc50).symm.trans hF
            refine W_seq ?_
            refine W_region ?_
            refine L_eql (m := r_.kind) (n := 4) rfl rfl rfl ?_
            refine L_as (v := .bool (r_.kind == 4)) rfl rfl ?_
            refine L_nil ?_
            refine W_cond (b := (r_.kind == 4)) rfl (fun hc64 => ?_) (fun hc64 => ?_)
            ·
              have hF := (ite_t hc64).symm.trans hF
              refine W_seq ?_
              refine W_region ?_
              refine L_fa (o' := 1) rfl fa_68_1 sf3 rfl ?_
              refine L_ld (v := v1_1) rfl Try.isAgg22 rfl (At.cell0 (Blk.at (Star.blkAt 0 hst rfl)) (j := 1) rfl) ?_
              refine L_len (v := v1_1) (n := List.length r_.vars) rfl Try.underlying22 rfl (slice_len h1_1) ?_
              refine L_eql (m := (r_.vars.length : Int)) (n := 2) rfl rfl rfl ?_
              refine L_as (v := .bool ((r_.vars.length : Int) == 2)) rfl rfl ?_
              refine L_nil ?_
              refine W_ret ?_
              refine retG1 (v1 := .bool ((r_.vars.length : Int) == 2)) Try.results66 rfl ?_
              obtain rfl := so hF
              exact ⟨rfl, (Star.keepN 0 hst)⟩
            ·
              have hF := (ite_f hc64).symm.trans hF
              refine W_skip ?_
              refine W_seq ?_
              refine W_region ?_
              refine L_as (v := .bool false) rfl rfl ?_
              refine L_nil ?_
              refine W_ret ?_
              refine retG1 (v1 := .bool false) Try.results66 rfl ?_
              obtain rfl := so hF
              exact ⟨rfl, (Star.keepN 0 hst)⟩

theorem s_ModelValid_c {fu : Nat} {m : Model} {v0_0 : Value} {v0_1 : Value} {H : FH} {w : World} (hst : Star H w []) (h0_0 : (RP.slice 3 RP.int).rel H [v0_0] m.sizes) (h0_1 : (RP.slice 68 (rRule 3 22)).rel H [v0_1] m.rules) {r : Bool} (hF : s_ModelValid fu m = some r) :
    C Try.prog 44 #[.agg #[v0_0, v0_1]] w fun v w' => v = .bool r ∧ Star H w' [] := by
  unfold s_ModelValid at hF
  refine C_enter Try.func44 rfl Try.ntmps44 rfl ?_
  refine W_seq ?_
  refine W_region ?_
  refine L_box (v := .agg #[v0_0, v0_1]) (cs := #[v0_0, v0_1]) rfl rfl rfl hst ?_
  intro g3 w4 hst
  refine L_as (v := .bool false) rfl rfl ?_
  refine L_nil ?_
  refine W_seq ?_
  refine W_region ?_
  refine L_as (v := .int .i64 0) rfl rfl ?_
  refine L_nil ?_
  refine W_seq ?_
  refine W_seq ?_
  refine W_region ?_
  refine L_as (v := .int .i64 0) rfl rfl ?_
  refine L_nil ?_
  obtain ⟨j10, hL10, hF⟩ := bind_some hF
  obtain ⟨R10, hR10⟩ : ∃ R : Fr → World → Prop, R = fun f w_ => ∃ n_8 : Int, ∃ i_9 : Int, j10 = .nx (n_8, i_9) ∧ f 1 = .pointer (some ⟨g3, 0, none⟩) ∧ f 3 = .int .i64 n_8 ∧ Star H w_ ([box g3 30 #[v0_0, v0_1]]) := ⟨_, rfl⟩
  refine W_join R10 ?_ ?_
  ·
    refine W_block ?_
    obtain ⟨I10, hI10⟩ : ∃ I : Nat → Fr → World → Prop, I = fun n f w_ => ∃ n_8 : Int, ∃ i_9 : Int, whileL (s_ModelValid_b1 m) n (n_8, i_9) = some j10 ∧ f 1 = .pointer (some ⟨g3, 0, none⟩) ∧ f 3 = .int .i64 n_8 ∧ f 4 = .int .i64 i_9 ∧ Star H w_ ([box g3 30 #[v0_0, v0_1]]) := ⟨_, rfl⟩
    refine W_loop I10 (n := fu) ?_ ?_
    · rw [hI10]; exact ⟨0, 0, hL10, rfl, rfl, rfl, hst⟩
    ·
      clear hst
      intro n10 f w_ hI
      rw [hI10] at hI
      obtain ⟨n_8, i_9, hL10, sf1, sf3, sf4, hst⟩ := hI
      cases n10 with
      | zero => exact (while_zero hL10).elim
      | succ n10 =>
        obtain ⟨o10, hB10, hL10⟩ := while_succ hL10
        rw [s_ModelValid_b1] at hB10
        refine W_seq ?_
        refine W_seq ?_
        obtain ⟨R11, hR11⟩ : ∃ R : Fr → World → Prop, R = fun f w_ => f 1 = .pointer (some ⟨g3, 0, none⟩) ∧ f 3 = .int .i64 n_8 ∧ f 4 = .int .i64 i_9 ∧ f 14 = .bool ((decide (i_9 < (m.sizes.length : Int))) && (decide (i_9 < 5))) ∧ Star H w_ ([box g3 30 #[v0_0, v0_1]]) := ⟨_, rfl⟩
        refine W_join R11 ?_ ?_
        ·
          refine W_region ?_
          refine L_mv (v := .int .i64 i_9) rfl sf4 ?_
          refine L_fa (o' := 0) rfl fa_30_0 sf1 rfl ?_
          refine L_ld (v := v0_0) rfl Try.isAgg22 rfl (At.cell0 (Blk.at (Star.blkAt 0 hst rfl)) (j := 0) rfl) ?_
          refine L_len (v := v0_0) (n := List.length m.sizes) rfl Try.underlying22 rfl (slice_len h0_0) ?_
          refine L_lss (m := i_9) (n := (m.sizes.length : Int)) rfl rfl rfl ?_
          refine L_mv (v := .bool (decide (i_9 < (m.sizes.length : Int)))) rfl rfl ?_
          refine L_split (d := 11) (b := decide (i_9 < (m.sizes.length : Int))) rfl (fun hc12 => ?_) (fun hc12 => ?_)
          ·
            refine L_mv (v := .int .i64 i_9) rfl sf4 ?_
            refine L_lss (m := i_9) (n := 5) rfl rfl rfl ?_
            refine L_pick (v := .bool ((decide (i_9 < (m.sizes.length : Int))) && (decide (i_9 < 5)))) rfl rfl (and_t hc12 rfl) ?_
            refine L_nil ?_
            show R11 _ _
            rw [hR11]
            exact ⟨sf1, sf3, sf4, rfl, hst⟩
          ·
            refine L_pass rfl ?_
            refine L_pass rfl ?_
            refine L_pick (v := .bool ((decide (i_9 < (m.sizes.length : Int))) && (decide (i_9 < 5)))) rfl rfl (and_f hc12) ?_
            refine L_nil ?_
            show R11 _ _
            rw [hR11]
            exact ⟨sf1, sf3, sf4, rfl, hst⟩
        ·
          intro f w_ hR
          rw [hR11] at hR
          obtain ⟨sf1, sf3, sf4, sf14, hst⟩ := hR
          clear hR11
          refine W_cond (b := ((decide (i_9 < (m.sizes.length : Int))) && (decide (i_9 < 5)))) sf14 (fun hc13 => ?_) (fun hc13 => ?_)
          ·
            have hB10 := (ite_t hc13).symm.trans hB10
            refine W_skip ?_
            refine W_seq ?_
            refine W_block ?_
            refine W_seq ?_
            refine W_seq ?_
            obtain ⟨x14, hx14, hB10⟩ := bind_some hB10
            obtain ⟨R23, hR23⟩ : ∃ R : Fr → World → Prop, R = fun f w_ => f 1 = .pointer (some ⟨g3, 0, none⟩) ∧ f 3 = .int .i64 n_8 ∧ f 4 = .int .i64 i_9 ∧ f 30 = .bool ((decide (x14 < 0)) || (decide (x14 > 3))) ∧ Star H w_ ([box g3 30 #[v0_0, v0_1]]) := ⟨_, rfl⟩
            refine W_join R23 ?_ ?_
            ·
              refine W_region ?_
              refine L_fa (o' := 0) rfl fa_30_0 sf1 rfl ?_
              refine L_ld (v := v0_0) rfl Try.isAgg22 rfl (At.cell0 (Blk.at (Star.blkAt 0 hst rfl)) (j := 0) rfl) ?_
              refine L_mv (v := .int .i64 i_9) rfl sf4 ?_
              refine L_ix (r := RP.int) rfl Try.underlying22 Try.sizeOf3 rfl h0_0 rfl hx14 ?_
              intro g24 o25 cs_g24 hrk_hat26 hat26
              obtain rfl : _ = [_] := hrk_hat26
              refine L_ld (v := .int .i64 x14) rfl Try.isAgg3 rfl (At.cell (AtH.at hat26 hst.sub) (j := 0) rfl) ?_
              refine L_lss (m := x14) (n := 0) rfl rfl rfl ?_
              refine L_mv (v := .bool (decide (x14 < 0))) rfl rfl ?_
              refine L_split (d := 23) (b := decide (x14 < 0)) rfl (fun hc28 => ?_) (fun hc28 => ?_)
              ·
                refine L_pass rfl ?_
                refine L_pass rfl ?_
                refine L_pass rfl ?_
                refine L_pass rfl ?_
                refine L_pass rfl ?_
                refine L_pass rfl ?_
                refine L_pick (v := .bool ((decide (x14 < 0)) || (decide (x14 > 3)))) rfl rfl (or_t hc28) ?_
                refine L_nil ?_
                show R23 _ _
                rw [hR23]
                exact ⟨sf1, sf3, sf4, rfl, hst⟩
              ·
                refine L_fa (o' := 0) rfl fa_30_0 sf1 rfl ?_
                refine L_ld (v := v0_0) rfl Try.isAgg22 rfl (At.cell0 (Blk.at (Star.blkAt 0 hst rfl)) (j := 0) rfl) ?_
                refine L_mv (v := .int .i64 i_9) rfl sf4 ?_
                refine L_ix (r := RP.int) rfl Try.underlying22 Try.sizeOf3 rfl h0_0 rfl hx14 ?_
                intro g29 o30 cs_g29 hrk_hat31 hat31
                obtain rfl : _ = [_] := hrk_hat31
                refine L_ld (v := .int .i64 x14) rfl Try.isAgg3 rfl (At.cell (AtH.at hat31 hst.sub) (j := 0) rfl) ?_
                refine L_gtr (m := x14) (n := 3) rfl rfl rfl ?_
                refine L_pick (v := .bool ((decide (x14 < 0)) || (decide (x14 > 3)))) rfl rfl (or_f hc28 rfl) ?_
                refine L_nil ?_
                show R23 _ _
                rw [hR23]
                exact ⟨sf1, sf3, sf4, rfl, hst⟩
            ·
              intro f w_ hR
              rw [hR23] at hR
              obtain ⟨sf1, sf3, sf4, sf30, hst⟩ := hR
              clear hR23
              refine W_cond (b := ((decide (x14 < 0)) || (decide (x14 > 3)))) sf30 (fun hc33 => ?_) (fun hc33 => ?_)
              ·
                have hB10 := (ite_t hc33).symm.trans hB10
                refine W_seq ?_
                refine W_region ?_
                refine L_as (v := .bool false) rfl rfl ?_
                refine L_nil ?_
                refine W_ret ?_
                refine retG1 (v1 := .bool false) Try.results44 rfl ?_
                obtain rfl := so hB10
                obtain rfl := so hL10
                obtain rfl := so hF
                exact ⟨rfl, (Star.keepN 0 hst)⟩
              ·
                have hB10 := (ite_f hc33).symm.trans hB10
                refine W_skip ?_
                refine W_region ?_
                refine L_mv (v := .int .i64 n_8) rfl sf3 ?_
                refine L_fa (o' := 0) rfl fa_30_0 sf1 rfl ?_
                refine L_ld (v := v0_0) rfl Try.isAgg22 rfl (At.cell0 (Blk.at (Star.blkAt 0 hst rfl)) (j := 0) rfl) ?_
                refine L_mv (v := .int .i64 i_9) rfl sf4 ?_
                refine L_ix (r := RP.int) rfl Try.underlying22 Try.sizeOf3 rfl h0_0 rfl hx14 ?_
                intro g38 o39 cs_g38 hrk_hat40 hat40
                obtain rfl : _ = [_] := hrk_hat40
                refine L_ld (v := .int .i64 x14) rfl Try.isAgg3 rfl (At.cell (AtH.at hat40 hst.sub) (j := 0) rfl) ?_
                refine L_add (m := n_8) (n := x14) rfl rfl rfl ?_
                refine L_add (m := i64 (n_8 + x14)) (n := 1) rfl rfl rfl ?_
                refine L_as (v := .int .i64 (i64 ((i64 (n_8 + x14)) + 1))) rfl rfl ?_
                refine L_nil ?_
                refine W_region ?_
                refine L_mv (v := .int .i64 i_9) rfl sf4 ?_
                refine L_add (m := i_9) (n := 1) rfl rfl rfl ?_
                refine L_as (v := .int .i64 (i64 (i_9 + 1))) rfl rfl ?_
                refine L_nil ?_
                obtain rfl := so hB10
                show ∃ m, m < _ ∧ I10 m _ _
                refine ⟨n10, Nat.lt_succ_self _, ?_⟩
                rw [hI10]
                exact ⟨i64 ((i64 (n_8 + x14)) + 1), i64 (i_9 + 1), hL10, sf1, rfl, rfl, hst⟩
          ·
            have hB10 := (ite_f hc13).symm.trans hB10
            refine W_exit ?_
            obtain rfl := so hB10
            obtain rfl := so hL10
            show R10 _ _
            rw [hR10]
            exact ⟨n_8, i_9, rfl, sf1, sf3, hst⟩
  ·
    clear hst
    intro f w_ hR
    rw [hR10] at hR
    obtain ⟨n_8, i_9, rfl, sf1, sf3, hst⟩ := hR
    clear hR10
    refine W_seq ?_
    refine W_seq ?_
    obtain ⟨R42, hR42⟩ : ∃ R : Fr → World → Prop, R = fun f w_ => f 1 = .pointer (some ⟨g3, 0, none⟩) ∧ f 58 = .bool ((((decide ((m.sizes.length : Int) < 1)) || (decide ((m.sizes.length : Int) > 5))) || (decide (n_8 > 12))) || (decide ((m.rules.length : Int) > 8))) ∧ Star H w_ ([box g3 30 #[v0_0, v0_1]]) := ⟨_, rfl⟩
    refine W_join R42 ?_ ?_
    ·
      refine W_region ?_
      refine L_fa (o' := 0) rfl fa_30_0 sf1 rfl ?_
      refine L_ld (v := v0_0) rfl Try.isAgg22 rfl (At.cell0 (Blk.at (Star.blkAt 0 hst rfl)) (j := 0) rfl) ?_
      refine L_len (v := v0_0) (n := List.length m.sizes) rfl Try.underlying22 rfl (slice_len h0_0) ?_
      refine L_lss (m := (m.sizes.length : Int)) (n := 1) rfl rfl rfl ?_
      refine L_mv (v := .bool (decide ((m.sizes.length : Int) < 1))) rfl rfl ?_
      refine L_split (d := 43) (b := decide ((m.sizes.length : Int) < 1)) rfl (fun hc43 => ?_) (fun hc43 => ?_)
      ·
        refine L_pass rfl ?_
        refine L_pass rfl ?_
        refine L_pass rfl ?_
        refine L_pass rfl ?_
        refine L_pick (v := .bool ((decide ((m.sizes.length : Int) < 1)) || (decide ((m.sizes.length : Int) > 5)))) rfl rfl (or_t hc43) ?_
        refine L_mv (v := .bool ((decide ((m.sizes.length : Int) < 1)) || (decide ((m.sizes.length : Int) > 5)))) rfl rfl ?_
        refine L_split (d := 49) (b := ((decide ((m.sizes.length : Int) < 1)) || (decide ((m.sizes.length : Int) > 5)))) rfl (fun hc44 => ?_) (fun hc44 => ?_)
        ·
          refine L_pass rfl ?_
          refine L_pass rfl ?_
          refine L_pick (v := .bool (((decide ((m.sizes.length : Int) < 1)) || (decide ((m.sizes.length : Int) > 5))) || (decide (n_8 > 12)))) rfl rfl (or_t hc44) ?_
          refine L_mv (v := .bool (((decide ((m.sizes.length : Int) < 1)) || (decide ((m.sizes.length : Int) > 5))) || (decide (n_8 > 12)))) rfl rfl ?_
          refine L_split (d := 53) (b := (((decide ((m.sizes.length : Int) < 1)) || (decide ((m.sizes.length : Int) > 5))) || (decide (n_8 > 12)))) rfl (fun hc45 => ?_) (fun hc45 => ?_)
          ·
            refine L_pass rfl ?_
            refine L_pass rfl ?_
            refine L_pass rfl ?_
            refine L_pass rfl ?_
            refine L_pick (v := .bool ((((decide ((m.sizes.length : Int) < 1)) || (decide ((m.sizes.length : Int) > 5))) || (decide (n_8 > 12))) || (decide ((m.rules.length : Int) > 8)))) rfl rfl (or_t hc45) ?_
            refine L_nil ?_
            show R42 _ _
            rw [hR42]
            exact ⟨sf1, rfl, hst⟩
          ·
            refine L_fa (o' := 1) rfl fa_30_1 sf1 rfl ?_
            refine L_ld (v := v0_1) rfl Try.isAgg28 rfl (At.cell0 (Blk.at (Star.blkAt 0 hst rfl)) (j := 1) rfl) ?_
            refine L_len (v := v0_1) (n := List.length m.rules) rfl Try.underlying28 rfl (slice_len h0_1) ?_
            refine L_gtr (m := (m.rules.length : Int)) (n := 8) rfl rfl rfl ?_
            refine L_pick (v := .bool ((((decide ((m.sizes.length : Int) < 1)) || (decide ((m.sizes.length : Int) > 5))) || (decide (n_8 > 12))) || (decide ((m.rules.length : Int) > 8)))) rfl rfl (or_f hc45 rfl) ?_
            refine L_nil ?_
            show R42 _ _
            rw [hR42]
            exact ⟨sf1, rfl, hst⟩
        ·
          refine L_mv (v := .int .i64 n_8) rfl sf3 ?_
          refine L_gtr (m := n_8) (n := 12) rfl rfl rfl ?_
          refine L_pick (v := .bool (((decide ((m.sizes.length : Int) < 1)) || (decide ((m.sizes.length : Int) > 5))) || (decide (n_8 > 12)))) rfl rfl (or_f hc44 rfl) ?_
          refine L_mv (v := .bool (((decide ((m.sizes.length : Int) < 1)) || (decide ((m.sizes.length : Int) > 5))) || (decide (n_8 > 12)))) rfl rfl ?_
          refine L_split (d := 53) (b := (((decide ((m.sizes.length : Int) < 1)) || (decide ((m.sizes.length : Int) > 5))) || (decide (n_8 > 12)))) rfl (fun hc46 => ?_) (fun hc46 => ?_)
          ·
            refine L_pass rfl ?_
            refine L_pass rfl ?_
            refine L_pass rfl ?_
            refine L_pass rfl ?_
            refine L_pick (v := .bool ((((decide ((m.sizes.length : Int) < 1)) || (decide ((m.sizes.length : Int) > 5))) || (decide (n_8 > 12))) || (decide ((m.rules.length : Int) > 8)))) rfl rfl (or_t hc46) ?_
            refine L_nil ?_
            show R42 _ _
            rw [hR42]
            exact ⟨sf1, rfl, hst⟩
          ·
            refine L_fa (o' := 1) rfl fa_30_1 sf1 rfl ?_
            refine L_ld (v := v0_1) rfl Try.isAgg28 rfl (At.cell0 (Blk.at (Star.blkAt 0 hst rfl)) (j := 1) rfl) ?_
            refine L_len (v := v0_1) (n := List.length m.rules) rfl Try.underlying28 rfl (slice_len h0_1) ?_
            refine L_gtr (m := (m.rules.length : Int)) (n := 8) rfl rfl rfl ?_
            refine L_pick (v := .bool ((((decide ((m.sizes.length : Int) < 1)) || (decide ((m.sizes.length : Int) > 5))) || (decide (n_8 > 12))) || (decide ((m.rules.length : Int) > 8)))) rfl rfl (or_f hc46 rfl) ?_
            refine L_nil ?_
            show R42 _ _
            rw [hR42]
            exact ⟨sf1, rfl, hst⟩
      ·
        refine L_fa (o' := 0) rfl fa_30_0 sf1 rfl ?_
        refine L_ld (v := v0_0) rfl Try.isAgg22 rfl (At.cell0 (Blk.at (Star.blkAt 0 hst rfl)) (j := 0) rfl) ?_
        refine L_len (v := v0_0) (n := List.length m.sizes) rfl Try.underlying22 rfl (slice_len h0_0) ?_
        refine L_gtr (m := (m.sizes.length : Int)) (n := 5) rfl rfl rfl ?_
        refine L_pick (v := .bool ((decide ((m.sizes.length : Int) < 1)) || (decide ((m.sizes.length : Int) > 5)))) rfl rfl (or_f hc43 rfl) ?_
        refine L_mv (v := .bool ((decide ((m.sizes.length : Int) < 1)) || (decide ((m.sizes.length : Int) > 5)))) rfl rfl ?_
        refine L_split (d := 49) (b := ((decide ((m.sizes.length : Int) < 1)) || (decide ((m.sizes.length : Int) > 5)))) rfl (fun hc47 => ?_) (fun hc47 => ?_)
        ·
          refine L_pass rfl ?_
          refine L_pass rfl ?_
          refine L_pick (v := .bool (((decide ((m.sizes.length : Int) < 1)) || (decide ((m.sizes.length : Int) > 5))) || (decide (n_8 > 12)))) rfl rfl (or_t hc47) ?_
          refine L_mv (v := .bool (((decide ((m.sizes.length : Int) < 1)) || (decide ((m.sizes.length : Int) > 5))) || (decide (n_8 > 12)))) rfl rfl ?_
          refine L_split (d := 53) (b := (((decide ((m.sizes.length : Int) < 1)) || (decide ((m.sizes.length : Int) > 5))) || (decide (n_8 > 12)))) rfl (fun hc48 => ?_) (fun hc48 => ?_)
          ·
            refine L_pass rfl ?_
            refine L_pass rfl ?_
            refine L_pass rfl ?_
            refine L_pass rfl ?_
            refine L_pick (v := .bool ((((decide ((m.sizes.length : Int) < 1)) || (decide ((m.sizes.length : Int) > 5))) || (decide (n_8 > 12))) || (decide ((m.rules.length : Int) > 8)))) rfl rfl (or_t hc48) ?_
            refine L_nil ?_
            show R42 _ _
            rw [hR42]
            exact ⟨sf1, rfl, hst⟩
          ·
            refine L_fa (o' := 1) rfl fa_30_1 sf1 rfl ?_
            refine L_ld (v := v0_1) rfl Try.isAgg28 rfl (At.cell0 (Blk.at (Star.blkAt 0 hst rfl)) (j := 1) rfl) ?_
            refine L_len (v := v0_1) (n := List.length m.rules) rfl Try.underlying28 rfl (slice_len h0_1) ?_
            refine L_gtr (m := (m.rules.length : Int)) (n := 8) rfl rfl rfl ?_
            refine L_pick (v := .bool ((((decide ((m.sizes.length : Int) < 1)) || (decide ((m.sizes.length : Int) > 5))) || (decide (n_8 > 12))) || (decide ((m.rules.length : Int) > 8)))) rfl rfl (or_f hc48 rfl) ?_
            refine L_nil ?_
            show R42 _ _
            rw [hR42]
            exact ⟨sf1, rfl, hst⟩
        ·
          refine L_mv (v := .int .i64 n_8) rfl sf3 ?_
          refine L_gtr (m := n_8) (n := 12) rfl rfl rfl ?_
          refine L_pick (v := .bool (((decide ((m.sizes.length : Int) < 1)) || (decide ((m.sizes.length : Int) > 5))) || (decide (n_8 > 12)))) rfl rfl (or_f hc47 rfl) ?_
          refine L_mv (v := .bool (((decide ((m.sizes.length : Int) < 1)) || (decide ((m.sizes.length : Int) > 5))) || (decide (n_8 > 12)))) rfl rfl ?_
          refine L_split (d := 53) (b := (((decide ((m.sizes.length : Int) < 1)) || (decide ((m.sizes.length : Int) > 5))) || (decide (n_8 > 12)))) rfl (fun hc49 => ?_) (fun hc49 => ?_)
          ·
            refine L_pass rfl ?_
            refine L_pass rfl ?_
            refine L_pass rfl ?_
            refine L_pass rfl ?_
            refine L_pick (v := .bool ((((decide ((m.sizes.length : Int) < 1)) || (decide ((m.sizes.length : Int) > 5))) || (decide (n_8 > 12))) || (decide ((m.rules.length : Int) > 8)))) rfl rfl (or_t hc49) ?_
            refine L_nil ?_
            show R42 _ _
            rw [hR42]
            exact ⟨sf1, rfl, hst⟩
          ·
            refine L_fa (o' := 1) rfl fa_30_1 sf1 rfl ?_
            refine L_ld (v := v0_1) rfl Try.isAgg28 rfl (At.cell0 (Blk.at (Star.blkAt 0 hst rfl)) (j := 1) rfl) ?_
            refine L_len (v := v0_1) (n := List.length m.rules) rfl Try.underlying28 rfl (slice_len h0_1) ?_
            refine L_gtr (m := (m.rules.length : Int)) (n := 8) rfl rfl rfl ?_
            refine L_pick (v := .bool ((((decide ((m.sizes.length : Int) < 1)) || (decide ((m.sizes.length : Int) > 5))) || (decide (n_8 > 12))) || (decide ((m.rules.length : Int) > 8)))) rfl rfl (or_f hc49 rfl) ?_
            refine L_nil ?_
            show R42 _ _
            rw [hR42]
            exact ⟨sf1, rfl, hst⟩
    ·
      intro f w_ hR
      rw [hR42] at hR
      obtain ⟨sf1, sf58, hst⟩ := hR
      clear hR42
      refine W_cond (b := ((((decide ((m.sizes.length : Int) < 1)) || (decide ((m.sizes.length : Int) > 5))) || (decide (n_8 > 12))) || (decide ((m.rules.length : Int) > 8)))) sf58 (fun hc50 => ?_) (fun hc50 => ?_)
      ·
        have hF := (ite_t hc50).symm.trans hF
        refine W_seq ?_
        refine W_region ?_
        refine L_as (v := .bool false) rfl rfl ?_
        refine L_nil ?_
        refine W_ret ?_
        refine retG1 (v1 := .bool false) Try.results44 rfl ?_
        obtain rfl := so hF
        exact ⟨rfl, (Star.keepN 0 hst)⟩
      ·
        have hF := (ite_f hc50).symm.trans hF
        refine W_skip ?_
        refine W_seq ?_
        refine W_seq ?_
        refine W_region ?_
        refine L_as (v := .int .i64 0) rfl rfl ?_
        refine L_nil ?_
        have hlen54 : List.length m.rules ≤ 9223372036854775807 := len_le (slice_len h0_1)
        obtain ⟨j54, hL54, hF⟩ := bind_some hF
        obtain ⟨R54, hR54⟩ : ∃ R : Fr → World → Prop, R = fun f w_ => ∃ H52 : FH, j54 = .nx () ∧ Le H H52 ∧ Star H52 w_ ([]) := ⟨_, rfl⟩
        refine W_join R54 ?_ ?_
        ·
          refine W_block ?_
          obtain ⟨I54, hI54⟩ : ∃ I : Nat → Fr → World → Prop, I = fun n f w_ => ∃ i_51 : Nat, ∃ suf54 : List Rule, ∃ H52 : FH, n = suf54.length ∧ List.drop i_51 m.rules = suf54 ∧ i_51 + suf54.length = m.rules.length ∧ rangeL (s_ModelValid_b2 m) suf54 i_51 () = some j54 ∧ Le H H52 ∧ f 1 = .pointer (some ⟨g3, 0, none⟩) ∧ f 5 = .int .i64 (i_51 : Int) ∧ Star H52 w_ ([box g3 30 #[v0_0, v0_1]]) := ⟨_, rfl⟩
          refine W_loop I54 (n := m.rules.length) ?_ ?_
          · rw [hI54]; exact ⟨0, m.rules, H, rfl, rfl, Nat.zero_add _, hL54, (Le.refl _), sf1, rfl, hst⟩
          ·
            clear hst
            intro n54 f w_ hI
            rw [hI54] at hI
            obtain ⟨i_51, suf54, H52, rfl, hd54, hl54, hL54, hle53, sf1, sf5, hst⟩ := hI
            refine W_seq ?_
            refine W_seq ?_
            refine W_region ?_
            refine L_mv (v := .int .i64 (i_51 : Int)) rfl sf5 ?_
            refine L_fa (o' := 1) rfl fa_30_1 sf1 rfl ?_
            refine L_ld (v := v0_1) rfl Try.isAgg28 rfl (At.cell0 (Blk.at (Star.blkAt 0 hst rfl)) (j := 1) rfl) ?_
            refine L_len (v := v0_1) (n := List.length m.rules) rfl Try.underlying28 rfl (slice_len (RP.mono _ h0_1 hle53)) ?_
            refine L_lss (m := (i_51 : Int)) (n := (m.rules.length : Int)) rfl rfl rfl ?_
            refine L_nil ?_
            refine W_cond (b := decide ((i_51 : Int) < (m.rules.length : Int))) rfl (fun hc55 => ?_) (fun hc55 => ?_)
            ·
              have hlt54 := of_decide_eq_true hc55
              cases suf54 with
              | nil => exact absurd hlt54 (by simp at hl54; omega)
              | cons x_54 rest54 =>
                obtain ⟨o54, hB54, hL54⟩ := range_cons hL54
                rw [s_ModelValid_b2] at hB54
                have hix54 := drop_idx hd54
                refine W_skip ?_
                refine W_seq ?_
                refine W_block ?_
                refine W_seq ?_
                obtain ⟨x65, hx65, hB54⟩ := bind_some hB54
                refine W_drawS 6 [isV (.agg #[v0_0, v0_1]), isV (.pointer (some ⟨g3, 1, none⟩)), isV (v0_1), isV (.int .i64 (i_51 : Int)), isEl (rRule 3 22) x_54 0, exD (isData (RP.slice 3 RP.int) x_54.vars) fun u_1 => exD (isData (RP.slice 3 RP.int) x_54.coefs) fun u_2 => exD (isData (RP.slice 22 (RP.slice 3 RP.int)) x_54.rows) fun u_4 => isV (.agg #[.int .i64 x_54.kind, u_1, u_2, .int .i64 x_54.bound, u_4])] [box g3 30 #[v0_0, v0_1]] [] ([]) [([], []), ([], []), ([], []), ([], []), ([], []), ([], [])] (S := []) Try_mix (by kernel_rfl) rfl (by kernel_rfl) (amF_cons (mono_V _) (amF_cons (mono_V _) (amF_cons (mono_V _) (amF_cons (mono_V _) (amF_cons (mono_el _ _ _) (amF_cons (mono_exD (mono_data _ _) fun _ => mono_exD (mono_data _ _) fun _ => mono_exD (mono_data _ _) fun _ => mono_V _) amF_nil)))))) hst ?_ (fun f w_ H67 hS67 hE67 hT67 hst => ?_)
                ·
                  refine opsS_cons ?_ ?_
                  ·
                    intro f w_ H67 X67 hS67 hE67 hP67 hst
                    refine L_lda (cs := [v0_0, v0_1]) rfl Try.isAgg30 Try.sizeOf30 ((hS67 1 rfl).trans sf1) (At.sub0 (Blk.at (Star.blkAt 0 hst rfl)) 0 2) rfl ?_
                    exact L_nil ⟨rfl, _, _, _, rfl, rfl, Le.refl _, rfl, hst⟩
                  refine opsS_cons ?_ ?_
                  ·
                    intro f w_ H67 X67 hS67 hE67 hP67 hst
                    refine L_fa (o' := 1) rfl fa_30_1 ((hS67 1 rfl).trans sf1) rfl ?_
                    exact L_nil ⟨rfl, _, _, _, rfl, rfl, Le.refl _, rfl, hst⟩
                  refine opsS_cons ?_ ?_
                  ·
                    intro f w_ H67 X67 hS67 hE67 hP67 hst
                    refine L_ld (v := v0_1) rfl Try.isAgg28 (hP67 1 67 rfl rfl) (At.cell0 (Blk.at (Star.blkAt 0 hst rfl)) (j := 1) rfl) ?_
                    exact L_nil ⟨rfl, _, _, _, rfl, rfl, Le.refl _, rfl, hst⟩
                  refine opsS_cons ?_ ?_
                  ·
                    intro f w_ H67 X67 hS67 hE67 hP67 hst
                    refine L_mv (v := .int .i64 (i_51 : Int)) rfl ((hS67 5 rfl).trans sf5) ?_
                    exact L_nil ⟨rfl, _, _, _, rfl, rfl, Le.refl _, rfl, hst⟩
                  refine opsS_cons ?_ ?_
                  ·
                    intro f w_ H67 X67 hS67 hE67 hP67 hst
                    refine L_ix (r := (rRule 3 22)) rfl Try.underlying28 Try.sizeOf68 (hP67 2 68 rfl rfl) (RP.mono _ h0_1 (Le.trans hle53 hE67)) (hP67 3 69 rfl rfl) hix54 ?_
                    intro g72 o73 cs_g72 hrk_hat74 hat74
                    obtain ⟨u75_0, u75_1, u75_2, rfl, hu75_0, hu75_1, hu75_2⟩ := rRule_iff.1 hrk_hat74
                    exact L_nil ⟨rfl, _, _, _, rfl, rfl, Le.refl _, ⟨_, _, _, rfl, hrk_hat74, hat74⟩, hst⟩
                  refine opsS_cons ?_ ?_
                  ·
                    intro f w_ H67 X67 hS67 hE67 hP67 hst
                    obtain ⟨g76, o76, cs76, hv76, hrk_hat76, hat76⟩ := (hP67 4 70 rfl rfl)
                    obtain ⟨u77_0, u77_1, u77_2, rfl, hu77_0, hu77_1, hu77_2⟩ := rRule_iff.1 hrk_hat76
                    refine L_lda (cs := [.int .i64 x_54.kind, u77_0, u77_1, .int .i64 x_54.bound, u77_2]) rfl Try.isAgg68 Try.sizeOf68 hv76 (At.sub (AtH.at hat76 hst.sub) 0 5) rfl ?_
                    exact L_nil ⟨rfl, _, _, _, rfl, rfl, Le.refl _, ⟨_, hu77_0, _, hu77_1, _, hu77_2, rfl⟩, hst⟩
                  exact opsS_nil
                ·
                  obtain ⟨u78_1, hu78_1, u78_2, hu78_2, u78_4, hu78_4, hv78⟩ := (hT67 5 71 rfl rfl)
                  obtain ⟨Hb79, hle80, hsb81, hfz82, hbk83⟩ := Star.borrow hst
                  refine L_call (args := #[.agg #[v0_0, v0_1], .agg #[.int .i64 x_54.kind, u78_1, u78_2, .int .i64 x_54.bound, u78_4]]) rfl Try.call66 (ops2 (hT67 0 66 rfl rfl) hv78) (s_l6Rule_c (m := m) (r_ := x_54) hsb81 (RP.mono _ h0_0 (Le.trans (Le.trans hle53 hE67) hle80)) (RP.mono _ h0_1 (Le.trans (Le.trans hle53 hE67) hle80)) (RP.mono _ hu78_1 hle80) (RP.mono _ hu78_2 hle80) (RP.mono _ hu78_4 hle80) hx65) ?_
                  rintro _ w84 ⟨rfl, hst⟩
                  have hst := hbk83 hst closedL_nil
                  refine L_not_ (b := x65) rfl rfl ?_
                  refine L_nil ?_
                  refine W_cond (b := (!x65)) rfl (fun hc85 => ?_) (fun hc85 => ?_)
                  ·
                    have hB54 := (ite_t hc85).symm.trans hB54
                    refine W_seq ?_
                    refine W_region ?_
                    refine L_as (v := .bool false) rfl rfl ?_
                    refine L_nil ?_
                    refine W_ret ?_
                    refine retG1 (v1 := .bool false) Try.results44 rfl ?_
                    obtain rfl := so hB54
                    obtain rfl := so hL54
                    obtain rfl := so hF
                    exact ⟨rfl, (Star.down (Star.keepN 0 hst) (Le.trans hle53 hE67) closedL_nil)⟩
                  ·
                    have hB54 := (ite_f hc85).symm.trans hB54
                    refine W_skip ?_
                    refine W_region ?_
                    refine L_mv (v := .int .i64 (i_51 : Int)) rfl ((hS67 5 rfl).trans sf5) ?_
                    refine L_add (m := (i_51 : Int)) (n := 1) rfl rfl rfl ?_
                    refine L_as (v := .int .i64 (i64 ((i_51 : Int) + 1))) rfl rfl ?_
                    refine L_nil ?_
                    obtain rfl := so hB54
                    show ∃ m, m < _ ∧ I54 m _ _
                    refine ⟨rest54.length, by simp, ?_⟩
                    rw [hI54]
                    exact ⟨i_51 + 1, rest54, H67, rfl, drop_next hd54, by simp at hl54; omega, hL54, (Le.trans hle53 hE67), ((hS67 1 rfl).trans sf1), (Eq.trans rfl (congrArg (Value.int .i64) (i64_succ (n := m.rules.length) (by simp at hl54; omega) hlen54))), hst⟩
            ·
              cases suf54 with
              | cons _ _ => exact absurd (of_decide_eq_false hc55) (by simp at hl54; omega)
              | nil =>
                obtain rfl := range_nil hL54
                refine W_exit ?_
                show R54 _ _
                rw [hR54]
                exact ⟨H52, rfl, hle53, (Star.keepN 0 hst)⟩
        ·
          clear hst
          intro f w_ hR
          rw [hR54] at hR
          obtain ⟨H52, rfl, hle53, hst⟩ := hR
          clear hR54
          refine W_seq ?_
          refine W_region ?_
          refine L_as (v := .bool true) rfl rfl ?_
          refine L_nil ?_
          refine W_ret ?_
          refine retG1 (v1 := .bool true) Try.results44 rfl ?_
          obtain rfl := so hF
          exact ⟨rfl, (Star.down hst hle53 closedL_nil)⟩

theorem s_l7Var_c {m : Model} {cell : Int} {value : Int} {v0_0 : Value} {v0_1 : Value} {H : FH} {w : World} (hst : Star H w []) (h0_0 : (RP.slice 3 RP.int).rel H [v0_0] m.sizes) (h0_1 : (RP.slice 68 (rRule 3 22)).rel H [v0_1] m.rules) {r : Int} (hF : s_l7Var m cell value = some r) :
    C Try.prog 45 #[.agg #[v0_0, v0_1], .int .i64 cell, .int .i64 value] w fun v w' => v = .int .i64 r ∧ Star H w' [] := by
  unfold s_l7Var at hF
  refine C_enter Try.func45 rfl Try.ntmps45 rfl ?_
  refine W_seq ?_
  refine W_region ?_
  refine L_box (v := .agg #[v0_0, v0_1]) (cs := #[v0_0, v0_1]) rfl rfl rfl hst ?_
  intro g3 w4 hst
  refine L_as (v := .int .i64 0) rfl rfl ?_
  refine L_nil ?_
  refine W_seq ?_
  refine W_region ?_
  refine L_mv (v := .int .i64 value) rfl rfl ?_
  refine L_add (m := 1) (n := value) rfl rfl rfl ?_
  refine L_as (v := .int .i64 (i64 (1 + value))) rfl rfl ?_
  refine L_nil ?_
  refine W_seq ?_
  refine W_seq ?_
  refine W_region ?_
  refine L_as (v := .int .i64 0) rfl rfl ?_
  refine L_nil ?_
  obtain ⟨k8, hk8, hF⟩ := bind_some hF
  obtain ⟨j7, hL7, hF⟩ := bind_some hF
  obtain ⟨R7, hR7⟩ : ∃ R : Fr → World → Prop, R = fun f w_ => ∃ n_6 : Int, j7 = .nx n_6 ∧ f 7 = .int .i64 n_6 ∧ Star H w_ ([]) := ⟨_, rfl⟩
  refine W_join R7 ?_ ?_
  ·
    refine W_block ?_
    obtain ⟨I7, hI7⟩ : ∃ I : Nat → Fr → World → Prop, I = fun n f w_ => ∃ i_5 : Nat, ∃ suf7 : Nat, ∃ n_6 : Int, suf7 = n ∧ 0 ≤ i_5 ∧ i_5 + suf7 = 0 + k8 ∧ countL (s_l7Var_b1 m) suf7 i_5 n_6 = some j7 ∧ f 1 = .int .i64 cell ∧ f 3 = .pointer (some ⟨g3, 0, none⟩) ∧ f 7 = .int .i64 n_6 ∧ f 8 = .int .i64 (i_5 : Int) ∧ Star H w_ ([box g3 30 #[v0_0, v0_1]]) := ⟨_, rfl⟩
    refine W_loop I7 (n := k8) ?_ ?_
    · rw [hI7]; exact ⟨0, k8, i64 (1 + value), rfl, Nat.le_refl _, rfl, hL7, rfl, rfl, rfl, rfl, hst⟩
    ·
      clear hst
      intro n7 f w_ hI
      rw [hI7] at hI
      obtain ⟨i_5, suf7, n_6, rfl, hs7, hl7, hL7, sf1, sf3, sf7, sf8, hst⟩ := hI
      refine W_seq ?_
      refine W_seq ?_
      refine W_region ?_
      refine L_mv (v := .int .i64 (i_5 : Int)) rfl sf8 ?_
      refine L_mv (v := .int .i64 cell) rfl sf1 ?_
      refine L_lss (m := (i_5 : Int)) (n := cell) rfl rfl rfl ?_
      refine L_nil ?_
      refine W_cond (b := decide ((i_5 : Int) < cell)) rfl (fun hc9 => ?_) (fun hc9 => ?_)
      ·
        have hlt7 := of_decide_eq_true hc9
        cases suf7 with
        | zero => exact absurd hlt7 (cntF_no hl7 hk8)
        | succ rest7 =>
          obtain ⟨o7, hB7, hL7⟩ := count_succ hL7
          rw [s_l7Var_b1] at hB7
          refine W_skip ?_
          refine W_seq ?_
          refine W_block ?_
          obtain ⟨x10, hx10, hB7⟩ := bind_some hB7
          refine W_region ?_
          refine L_mv (v := .int .i64 n_6) rfl sf7 ?_
          refine L_fa (o' := 0) rfl fa_30_0 sf3 rfl ?_
          refine L_ld (v := v0_0) rfl Try.isAgg22 rfl (At.cell0 (Blk.at (Star.blkAt 0 hst rfl)) (j := 0) rfl) ?_
          refine L_mv (v := .int .i64 (i_5 : Int)) rfl sf8 ?_
          refine L_ix (r := RP.int) rfl Try.underlying22 Try.sizeOf3 rfl h0_0 rfl hx10 ?_
          intro g15 o16 cs_g15 hrk_hat17 hat17
          obtain rfl : _ = [_] := hrk_hat17
          refine L_ld (v := .int .i64 x10) rfl Try.isAgg3 rfl (At.cell (AtH.at hat17 hst.sub) (j := 0) rfl) ?_
          refine L_add (m := n_6) (n := x10) rfl rfl rfl ?_
          refine L_add (m := i64 (n_6 + x10)) (n := 1) rfl rfl rfl ?_
          refine L_as (v := .int .i64 (i64 ((i64 (n_6 + x10)) + 1))) rfl rfl ?_
          refine L_nil ?_
          refine W_region ?_
          refine L_mv (v := .int .i64 (i_5 : Int)) rfl sf8 ?_
          refine L_add (m := (i_5 : Int)) (n := 1) rfl rfl rfl ?_
          refine L_as (v := .int .i64 (i64 ((i_5 : Int) + 1))) rfl rfl ?_
          refine L_nil ?_
          obtain rfl := so hB7
          show ∃ m, m < _ ∧ I7 m _ _
          refine ⟨rest7, Nat.lt_succ_self _, ?_⟩
          rw [hI7]
          exact ⟨i_5 + 1, rest7, i64 ((i64 (n_6 + x10)) + 1), rfl, by omega, by omega, hL7, sf1, sf3, rfl, (Eq.trans rfl (congrArg (Value.int .i64) (i64_succ (n := 0 + k8) (by omega) (cntF_le hk8)))), hst⟩
      ·
        cases suf7 with
        | succ _ => exact absurd (cntF_yes hs7 hl7 hk8) (of_decide_eq_false hc9)
        | zero =>
          obtain rfl := count_zero hL7
          refine W_exit ?_
          show R7 _ _
          rw [hR7]
          exact ⟨n_6, rfl, sf7, (Star.keepN 0 hst)⟩
  ·
    clear hst
    intro f w_ hR
    rw [hR7] at hR
    obtain ⟨n_6, rfl, sf7, hst⟩ := hR
    clear hR7
    refine W_seq ?_
    refine W_region ?_
    refine L_mv (v := .int .i64 n_6) rfl sf7 ?_
    refine L_as (v := .int .i64 n_6) rfl rfl ?_
    refine L_nil ?_
    refine W_ret ?_
    refine retG1 (v1 := .int .i64 n_6) Try.results45 rfl ?_
    obtain rfl := so hF
    exact ⟨rfl, hst⟩

theorem l_toIntS_c {a : List Int} {v0 : Value} {H : FH} {w : World} (hst : Star H w []) (h0 : (RP.slice 3 RP.int).rel H [v0] a) {r : List Int} (hF : l_toIntS a = some r) :
    C Try.prog 24 #[v0] w fun v w' => ∃ (u1 : Value), v = u1 ∧ Star H w' [own (OR.ownS 3 (OR.frz RP.int)) [u1] r] := by
  unfold l_toIntS at hF
  refine C_enter Try.func24 rfl Try.ntmps24 rfl ?_
  refine W_seq ?_
  refine W_region ?_
  refine L_as (v := (.slice none 0 0)) rfl rfl ?_
  refine L_nil ?_
  refine W_seq ?_
  obtain ⟨x1, hx1, hF⟩ := bind_some hF
  refine W_region ?_
  refine L_mv (v := v0) rfl rfl ?_
  refine L_len (v := v0) (n := List.length a) rfl Try.underlying22 rfl (slice_len h0) ?_
  refine L_mk (R := (OR.frz RP.int)) (z0 := 0) (zc := [.int .i64 0]) rfl et_22 (by kernel_rfl) (fun _ _ => ⟨rfl, rfl⟩) rfl rfl hx1 hst ?_
  intro v5 w6 hst
  refine L_as (v := v5) rfl rfl ?_
  refine L_nil ?_
  refine W_seq ?_
  refine W_seq ?_
  refine W_region ?_
  refine L_as (v := .int .i64 0) rfl rfl ?_
  refine L_nil ?_
  have hlen10 : List.length a ≤ 9223372036854775807 := len_le (slice_len h0)
  obtain ⟨j10, hL10, hF⟩ := bind_some hF
  obtain ⟨R10, hR10⟩ : ∃ R : Fr → World → Prop, R = fun f w_ => ∃ out_9 : List Int, j10 = .nx out_9 ∧ f 3 = v5 ∧ Star H w_ ([own (OR.ownS 3 (OR.frz RP.int)) [v5] out_9]) := ⟨_, rfl⟩
  refine W_join R10 ?_ ?_
  ·
    refine W_block ?_
    obtain ⟨I10, hI10⟩ : ∃ I : Nat → Fr → World → Prop, I = fun n f w_ => ∃ i_8 : Nat, ∃ suf10 : List Int, ∃ out_9 : List Int, n = suf10.length ∧ List.drop i_8 a = suf10 ∧ i_8 + suf10.length = a.length ∧ rangeL l_toIntS_b1 suf10 i_8 out_9 = some j10 ∧ f 0 = v0 ∧ f 3 = v5 ∧ f 4 = .int .i64 (i_8 : Int) ∧ Star H w_ ([own (OR.ownS 3 (OR.frz RP.int)) [v5] out_9]) := ⟨_, rfl⟩
    refine W_loop I10 (n := a.length) ?_ ?_
    · rw [hI10]; exact ⟨0, a, x1, rfl, rfl, Nat.zero_add _, hL10, rfl, rfl, rfl, hst⟩
    ·
      clear hst
      intro n10 f w_ hI
      rw [hI10] at hI
      obtain ⟨i_8, suf10, out_9, rfl, hd10, hl10, hL10, sf0, sf3, sf4, hst⟩ := hI
      refine W_seq ?_
      refine W_seq ?_
      refine W_region ?_
      refine L_mv (v := .int .i64 (i_8 : Int)) rfl sf4 ?_
      refine L_mv (v := v0) rfl sf0 ?_
      refine L_len (v := v0) (n := List.length a) rfl Try.underlying22 rfl (slice_len h0) ?_
      refine L_lss (m := (i_8 : Int)) (n := (a.length : Int)) rfl rfl rfl ?_
      refine L_nil ?_
      refine W_cond (b := decide ((i_8 : Int) < (a.length : Int))) rfl (fun hc11 => ?_) (fun hc11 => ?_)
      ·
        have hlt10 := of_decide_eq_true hc11
        cases suf10 with
        | nil => exact absurd hlt10 (by simp at hl10; omega)
        | cons x_10 rest10 =>
          obtain ⟨o10, hB10, hL10⟩ := range_cons hL10
          rw [l_toIntS_b1] at hB10
          have hix10 := drop_idx hd10
          refine W_skip ?_
          refine W_seq ?_
          refine W_block ?_
          obtain ⟨x16, hx16, hB10⟩ := bind_some hB10
          refine W_region ?_
          refine L_mv (v := v5) rfl sf3 ?_
          refine L_mv (v := .int .i64 (i_8 : Int)) rfl sf4 ?_
          refine L_mv (v := v0) rfl sf0 ?_
          refine L_mv (v := .int .i64 (i_8 : Int)) rfl sf4 ?_
          refine L_ix (r := RP.int) rfl Try.underlying22 Try.sizeOf3 rfl h0 rfl hix10 ?_
          intro g20 o21 cs_g20 hrk_hat22 hat22
          obtain rfl : _ = [_] := hrk_hat22
          refine L_ld (v := .int .i64 x_10) rfl Try.isAgg3 rfl (At.cell (AtH.at hat22 hst.sub) (j := 0) rfl) ?_
          obtain ⟨g24, cap_g24, hv25, _, _⟩ := Star.row 0 hst rfl hx16
          refine L_ixO (R := (OR.frz RP.int)) (tb := 0) 0 rfl Try.underlying22 Try.sizeOf3 rfl hv25 (by first | rfl | simp) rfl hx16 ?_
          have hst := Star.addF (r := RP.int) (cs := [.int .i64 x_10]) (x := x_10) hst rfl
          refine L_stE1 (u := .int .i64 x_10) rfl Try.sizeOf3 rfl rfl rfl hv25 hst hx16 ?_
          intro w26 hst
          refine L_nil ?_
          refine W_region ?_
          refine L_mv (v := .int .i64 (i_8 : Int)) rfl sf4 ?_
          refine L_add (m := (i_8 : Int)) (n := 1) rfl rfl rfl ?_
          refine L_as (v := .int .i64 (i64 ((i_8 : Int) + 1))) rfl rfl ?_
          refine L_nil ?_
          obtain rfl := so hB10
          show ∃ m, m < _ ∧ I10 m _ _
          refine ⟨rest10.length, by simp, ?_⟩
          rw [hI10]
          exact ⟨i_8 + 1, rest10, (out_9.set (Int.toNat (i_8 : Int)) x_10), rfl, drop_next hd10, by simp at hl10; omega, hL10, sf0, sf3, (Eq.trans rfl (congrArg (Value.int .i64) (i64_succ (n := a.length) (by simp at hl10; omega) hlen10))), hst⟩
      ·
        cases suf10 with
        | cons _ _ => exact absurd (of_decide_eq_false hc11) (by simp at hl10; omega)
        | nil =>
          obtain rfl := range_nil hL10
          refine W_exit ?_
          show R10 _ _
          rw [hR10]
          exact ⟨out_9, rfl, sf3, hst⟩
  ·
    clear hst
    intro f w_ hR
    rw [hR10] at hR
    obtain ⟨out_9, rfl, sf3, hst⟩ := hR
    clear hR10
    refine W_seq ?_
    refine W_region ?_
    refine L_mv (v := v5) rfl sf3 ?_
    refine L_as (v := v5) rfl rfl ?_
    refine L_nil ?_
    refine W_ret ?_
    refine retG1 (v1 := v5) Try.results24 rfl ?_
    obtain rfl := so hF
    exact ⟨v5, rfl, hst⟩

theorem l_toIntSS_c {a : List (List Int)} {v0 : Value} {H : FH} {w : World} (hst : Star H w []) (h0 : (RP.slice 22 (RP.slice 3 RP.int)).rel H [v0] a) {r : List (List Int)} (hF : l_toIntSS a = some r) :
    C Try.prog 82 #[v0] w fun v w' => ∃ (u1 : Value), v = u1 ∧ Star H w' [own (OR.ownS 22 (OR.ownS 3 (OR.frz RP.int))) [u1] r] := by
  unfold l_toIntSS at hF
  refine C_enter Try.func82 rfl Try.ntmps82 rfl ?_
  refine W_seq ?_
  refine W_region ?_
  refine L_as (v := (.slice none 0 0)) rfl rfl ?_
  refine L_nil ?_
  refine W_seq ?_
  obtain ⟨x1, hx1, hF⟩ := bind_some hF
  refine W_region ?_
  refine L_mv (v := v0) rfl rfl ?_
  refine L_len (v := v0) (n := List.length a) rfl Try.underlying66 rfl (slice_len h0) ?_
  refine L_mk (R := (OR.ownS 3 (OR.frz RP.int))) (z0 := []) (zc := [(.slice none 0 0)]) rfl et_66 (by kernel_rfl) (fun _ _ => .inl ⟨rfl, rfl, rfl⟩) rfl rfl hx1 hst ?_
  intro v5 w6 hst
  refine L_as (v := v5) rfl rfl ?_
  refine L_nil ?_
  refine W_seq ?_
  refine W_seq ?_
  refine W_region ?_
  refine L_as (v := .int .i64 0) rfl rfl ?_
  refine L_nil ?_
  have hlen10 : List.length a ≤ 9223372036854775807 := len_le (slice_len h0)
  obtain ⟨j10, hL10, hF⟩ := bind_some hF
  obtain ⟨R10, hR10⟩ : ∃ R : Fr → World → Prop, R = fun f w_ => ∃ out_9 : List (List Int), j10 = .nx out_9 ∧ f 3 = v5 ∧ Star H w_ ([own (OR.ownS 22 (OR.ownS 3 (OR.frz RP.int))) [v5] out_9]) := ⟨_, rfl⟩
  refine W_join R10 ?_ ?_
  ·
    refine W_block ?_
    obtain ⟨I10, hI10⟩ : ∃ I : Nat → Fr → World → Prop, I = fun n f w_ => ∃ i_8 : Nat, ∃ suf10 : List (List Int), ∃ out_9 : List (List Int), n = suf10.length ∧ List.drop i_8 a = suf10 ∧ i_8 + suf10.length = a.length ∧ rangeL l_toIntSS_b1 suf10 i_8 out_9 = some j10 ∧ f 0 = v0 ∧ f 3 = v5 ∧ f 4 = .int .i64 (i_8 : Int) ∧ Star H w_ ([own (OR.ownS 22 (OR.ownS 3 (OR.frz RP.int))) [v5] out_9]) := ⟨_, rfl⟩
    refine W_loop I10 (n := a.length) ?_ ?_
    · rw [hI10]; exact ⟨0, a, x1, rfl, rfl, Nat.zero_add _, hL10, rfl, rfl, rfl, hst⟩
    ·
      clear hst
      intro n10 f w_ hI
      rw [hI10] at hI
      obtain ⟨i_8, suf10, out_9, rfl, hd10, hl10, hL10, sf0, sf3, sf4, hst⟩ := hI
      refine W_seq ?_
      refine W_seq ?_
      refine W_region ?_
      refine L_mv (v := .int .i64 (i_8 : Int)) rfl sf4 ?_
      refine L_mv (v := v0) rfl sf0 ?_
      refine L_len (v := v0) (n := List.length a) rfl Try.underlying66 rfl (slice_len h0) ?_
      refine L_lss (m := (i_8 : Int)) (n := (a.length : Int)) rfl rfl rfl ?_
      refine L_nil ?_
      refine W_cond (b := decide ((i_8 : Int) < (a.length : Int))) rfl (fun hc11 => ?_) (fun hc11 => ?_)
      ·
        have hlt10 := of_decide_eq_true hc11
        cases suf10 with
        | nil => exact absurd hlt10 (by simp at hl10; omega)
        | cons x_10 rest10 =>
          obtain ⟨o10, hB10, hL10⟩ := range_cons hL10
          rw [l_toIntSS_b1] at hB10
          have hix10 := drop_idx hd10
          refine W_skip ?_
          refine W_seq ?_
          refine W_block ?_
          obtain ⟨x21, hx21, hB10⟩ := bind_some hB10
          obtain ⟨x24, hx24, hB10⟩ := bind_some hB10
          refine W_region ?_
          refine L_mv (v := v5) rfl sf3 ?_
          refine L_mv (v := .int .i64 (i_8 : Int)) rfl sf4 ?_
          refine L_mv (v := v0) rfl sf0 ?_
          refine L_mv (v := .int .i64 (i_8 : Int)) rfl sf4 ?_
          refine L_ix (r := (RP.slice 3 RP.int)) rfl Try.underlying66 Try.sizeOf22 rfl h0 rfl hix10 ?_
          intro g28 o29 cs_g28 hrk_hat30 hat30
          obtain ⟨u31, rfl, hu31⟩ := slice1 hrk_hat30
          refine L_ld (v := u31) rfl Try.isAgg22 rfl (At.cell (AtH.at hat30 hst.sub) (j := 0) rfl) ?_
          obtain ⟨Hb32, hle33, hsb34, hfz35, hbk36⟩ := Star.borrow hst
          refine L_call (args := #[u31]) rfl Try.call24 (ops1 rfl) (l_toIntS_c (a := x_10) hsb34 (RP.mono _ hu31 hle33) hx21) ?_
          rintro r37_0 w37 ⟨_, rfl, hst⟩
          have hst := hbk36 hst (closedL_cons (closed_own (OR.closed_ownS closed_int) _ _) closedL_nil)
          obtain ⟨g39, cap_g39, hv40, _, _⟩ := Star.row 1 hst rfl hx24
          refine L_ixO (R := (OR.ownS 3 (OR.frz RP.int))) (tb := 0) 0 rfl Try.underlying66 Try.sizeOf22 rfl hv40 (by first | rfl | simp) rfl hx24 ?_
          refine L_stE1 (u := r37_0) rfl Try.sizeOf22 rfl rfl rfl hv40 hst hx24 ?_
          intro w41 hst
          refine L_nil ?_
          refine W_region ?_
          refine L_mv (v := .int .i64 (i_8 : Int)) rfl sf4 ?_
          refine L_add (m := (i_8 : Int)) (n := 1) rfl rfl rfl ?_
          refine L_as (v := .int .i64 (i64 ((i_8 : Int) + 1))) rfl rfl ?_
          refine L_nil ?_
          obtain rfl := so hB10
          show ∃ m, m < _ ∧ I10 m _ _
          refine ⟨rest10.length, by simp, ?_⟩
          rw [hI10]
          exact ⟨i_8 + 1, rest10, (out_9.set (Int.toNat (i_8 : Int)) x21), rfl, drop_next hd10, by simp at hl10; omega, hL10, sf0, sf3, (Eq.trans rfl (congrArg (Value.int .i64) (i64_succ (n := a.length) (by simp at hl10; omega) hlen10))), hst⟩
      ·
        cases suf10 with
        | cons _ _ => exact absurd (of_decide_eq_false hc11) (by simp at hl10; omega)
        | nil =>
          obtain rfl := range_nil hL10
          refine W_exit ?_
          show R10 _ _
          rw [hR10]
          exact ⟨out_9, rfl, sf3, hst⟩
  ·
    clear hst
    intro f w_ hR
    rw [hR10] at hR
    obtain ⟨out_9, rfl, sf3, hst⟩ := hR
    clear hR10
    refine W_seq ?_
    refine W_region ?_
    refine L_mv (v := v5) rfl sf3 ?_
    refine L_as (v := v5) rfl rfl ?_
    refine L_nil ?_
    refine W_ret ?_
    refine retG1 (v1 := v5) Try.results82 rfl ?_
    obtain rfl := so hF
    exact ⟨v5, rfl, hst⟩

theorem l_toRule_c {a : Rule} {v0_1 : Value} {v0_2 : Value} {v0_4 : Value} {H : FH} {w : World} (hst : Star H w []) (h0_1 : (RP.slice 3 RP.int).rel H [v0_1] a.vars) (h0_2 : (RP.slice 3 RP.int).rel H [v0_2] a.coefs) (h0_4 : (RP.slice 22 (RP.slice 3 RP.int)).rel H [v0_4] a.rows) {r : Rule} (hF : l_toRule a = some r) :
    C Try.prog 67 #[.agg #[.int .i64 a.kind, v0_1, v0_2, .int .i64 a.bound, v0_4]] w fun v w' => ∃ (u1 : Value) (u2 : Value) (u3 : Value), v = .agg #[.int .i64 r.kind, u1, u2, .int .i64 r.bound, u3] ∧ Star H w' [own (OR.ownS 3 (OR.frz RP.int)) [u1] r.vars, own (OR.ownS 3 (OR.frz RP.int)) [u2] r.coefs, own (OR.ownS 22 (OR.ownS 3 (OR.frz RP.int))) [u3] r.rows] := by
  unfold l_toRule at hF
  refine C_enter Try.func67 rfl Try.ntmps67 rfl ?_
  refine W_seq ?_
  refine W_region ?_
  refine L_box (v := .agg #[.int .i64 a.kind, v0_1, v0_2, .int .i64 a.bound, v0_4]) (cs := #[.int .i64 a.kind, v0_1, v0_2, .int .i64 a.bound, v0_4]) rfl rfl rfl hst ?_
  intro g5 w6 hst
  refine L_al (cs := #[.int .i64 0, (.slice none 0 0), (.slice none 0 0), .int .i64 0, (.slice none 0 0)]) rfl Try.zeroValue68 rfl hst ?_
  intro g7 w8 hst
  refine L_nil ?_
  refine W_seq ?_
  refine W_region ?_
  refine L_al (cs := #[.int .i64 0, (.slice none 0 0), (.slice none 0 0), .int .i64 0, (.slice none 0 0)]) rfl Try.zeroValue68 rfl hst ?_
  intro g11 w12 hst
  refine L_nil ?_
  refine W_seq ?_
  refine W_region ?_
  refine L_fa (o' := 0) rfl fa_76_0 rfl rfl ?_
  refine L_ld (v := .int .i64 a.kind) rfl Try.isAgg3 rfl (At.cell0 (Blk.at (Star.blkAt 2 hst rfl)) (j := 0) rfl) ?_
  refine L_fa (o' := 0) rfl fa_68_0 rfl rfl ?_
  refine L_stB (v := .int .i64 a.kind) (cs2 := #[.int .i64 a.kind, (.slice none 0 0), (.slice none 0 0), .int .i64 0, (.slice none 0 0)]) 0 rfl Try.sizeOf3 rfl rfl rfl hst rfl rfl rfl ?_
  intro w14 hst
  refine L_nil ?_
  refine W_seq ?_
  obtain ⟨x20, hx20, hF⟩ := bind_some hF
  refine W_region ?_
  refine L_fa (o' := 1) rfl fa_76_1 rfl rfl ?_
  refine L_ld (v := v0_1) rfl Try.isAgg22 rfl (At.cell0 (Blk.at (Star.blkAt 2 hst rfl)) (j := 1) rfl) ?_
  obtain ⟨Hb24, hle25, hsb26, hfz27, hbk28⟩ := Star.borrow hst
  refine L_call (args := #[v0_1]) rfl Try.call24 (ops1 rfl) (l_toIntS_c (a := a.vars) hsb26 (RP.mono _ h0_1 hle25) hx20) ?_
  rintro r29_0 w29 ⟨_, rfl, hst⟩
  have hst := hbk28 hst (closedL_cons (closed_own (OR.closed_ownS closed_int) _ _) closedL_nil)
  refine L_fa (o' := 1) rfl fa_68_1 rfl rfl ?_
  refine L_stB (v := r29_0) (cs2 := #[.int .i64 a.kind, r29_0, (.slice none 0 0), .int .i64 0, (.slice none 0 0)]) 1 rfl Try.sizeOf22 rfl rfl (one_len (Star.len 0 hst rfl)) hst rfl rfl rfl ?_
  intro w31 hst
  refine L_nil ?_
  refine W_seq ?_
  obtain ⟨x37, hx37, hF⟩ := bind_some hF
  refine W_region ?_
  refine L_fa (o' := 2) rfl fa_76_2 rfl rfl ?_
  refine L_ld (v := v0_2) rfl Try.isAgg22 rfl (At.cell0 (Blk.at (Star.blkAt 3 hst rfl)) (j := 2) rfl) ?_
  obtain ⟨Hb41, hle42, hsb43, hfz44, hbk45⟩ := Star.borrow hst
  refine L_call (args := #[v0_2]) rfl Try.call24 (ops1 rfl) (l_toIntS_c (a := a.coefs) hsb43 (RP.mono _ h0_2 hle42) hx37) ?_
  rintro r46_0 w46 ⟨_, rfl, hst⟩
  have hst := hbk45 hst (closedL_cons (closed_own (OR.closed_ownS closed_int) _ _) closedL_nil)
  refine L_fa (o' := 2) rfl fa_68_2 rfl rfl ?_
  refine L_stB (v := r46_0) (cs2 := #[.int .i64 a.kind, r29_0, r46_0, .int .i64 0, (.slice none 0 0)]) 1 rfl Try.sizeOf22 rfl rfl (one_len (Star.len 0 hst rfl)) hst rfl rfl rfl ?_
  intro w48 hst
  refine L_nil ?_
  refine W_seq ?_
  refine W_region ?_
  refine L_fa (o' := 3) rfl fa_76_3 rfl rfl ?_
  refine L_ld (v := .int .i64 a.bound) rfl Try.isAgg3 rfl (At.cell0 (Blk.at (Star.blkAt 4 hst rfl)) (j := 3) rfl) ?_
  refine L_fa (o' := 3) rfl fa_68_3 rfl rfl ?_
  refine L_stB (v := .int .i64 a.bound) (cs2 := #[.int .i64 a.kind, r29_0, r46_0, .int .i64 a.bound, (.slice none 0 0)]) 0 rfl Try.sizeOf3 rfl rfl rfl hst rfl rfl rfl ?_
  intro w50 hst
  refine L_nil ?_
  refine W_seq ?_
  obtain ⟨x56, hx56, hF⟩ := bind_some hF
  refine W_region ?_
  refine L_fa (o' := 4) rfl fa_76_4 rfl rfl ?_
  refine L_ld (v := v0_4) rfl Try.isAgg66 rfl (At.cell0 (Blk.at (Star.blkAt 4 hst rfl)) (j := 4) rfl) ?_
  obtain ⟨Hb60, hle61, hsb62, hfz63, hbk64⟩ := Star.borrow hst
  refine L_call (args := #[v0_4]) rfl Try.call82 (ops1 rfl) (l_toIntSS_c (a := a.rows) hsb62 (RP.mono _ h0_4 hle61) hx56) ?_
  rintro r65_0 w65 ⟨_, rfl, hst⟩
  have hst := hbk64 hst (closedL_cons (closed_own (OR.closed_ownS (OR.closed_ownS closed_int)) _ _) closedL_nil)
  refine L_fa (o' := 4) rfl fa_68_4 rfl rfl ?_
  refine L_stB (v := r65_0) (cs2 := #[.int .i64 a.kind, r29_0, r46_0, .int .i64 a.bound, r65_0]) 1 rfl Try.sizeOf66 rfl rfl (one_len (Star.len 0 hst rfl)) hst rfl rfl rfl ?_
  intro w67 hst
  refine L_nil ?_
  refine W_seq ?_
  refine W_region ?_
  refine L_lda (cs := [.int .i64 a.kind, r29_0, r46_0, .int .i64 a.bound, r65_0]) rfl Try.isAgg68 Try.sizeOf68 rfl (At.sub0 (Blk.at (Star.blkAt 0 hst rfl)) 0 5) rfl ?_
  refine L_staB (vs := #[.int .i64 a.kind, r29_0, r46_0, .int .i64 a.bound, r65_0]) (cs2 := #[.int .i64 a.kind, r29_0, r46_0, .int .i64 a.bound, r65_0]) 4 rfl Try.sizeOf68 rfl rfl rfl (ones_cons rfl (ones_cons (one_len (Star.len 3 hst rfl)) (ones_cons (one_len (Star.len 2 hst rfl)) (ones_cons rfl (ones_cons (one_len (Star.len 1 hst rfl)) ones_nil))))) hst rfl (by decide) rfl ?_
  intro w69 hst
  refine L_nil ?_
  refine W_ret ?_
  refine retG1 (v1 := .agg #[.int .i64 a.kind, r29_0, r46_0, .int .i64 a.bound, r65_0]) Try.results67 (resV_agg Try.isAgg68 Try.sizeOf68 rfl (Star.blkAt 0 hst rfl) rfl) ?_
  obtain rfl := so hF
  have hst := Star.get 2 hst rfl
  have hst := Star.get 3 hst rfl
  have hst := Star.get 4 hst rfl
  exact ⟨r29_0, r46_0, r65_0, rfl, (Star.keepN 3 hst)⟩

theorem l_toRuleS_c {a : List Rule} {v0 : Value} {H : FH} {w : World} (hst : Star H w []) (h0 : (RP.slice 76 (rRule 3 22)).rel H [v0] a) {r : List Rule} (hF : l_toRuleS a = some r) :
    C Try.prog 46 #[v0] w fun v w' => ∃ (u1 : Value), v = u1 ∧ Star H w' [own (OR.ownS 68 (oRule 3 22)) [u1] r] := by
  unfold l_toRuleS at hF
  refine C_enter Try.func46 rfl Try.ntmps46 rfl ?_
  refine W_seq ?_
  refine W_region ?_
  refine L_as (v := (.slice none 0 0)) rfl rfl ?_
  refine L_nil ?_
  refine W_seq ?_
  obtain ⟨x1, hx1, hF⟩ := bind_some hF
  refine W_region ?_
  refine L_mv (v := v0) rfl rfl ?_
  refine L_len (v := v0) (n := List.length a) rfl Try.underlying23 rfl (slice_len h0) ?_
  refine L_mk (R := (oRule 3 22)) (z0 := ({ kind := 0, vars := [], coefs := [], bound := 0, rows := [] } : Rule)) (zc := [.int .i64 0, (.slice none 0 0), (.slice none 0 0), .int .i64 0, (.slice none 0 0)]) rfl et_28 (by kernel_rfl) (fun _ _ => oRule_zero) rfl rfl hx1 hst ?_
  intro v5 w6 hst
  refine L_as (v := v5) rfl rfl ?_
  refine L_nil ?_
  refine W_seq ?_
  refine W_seq ?_
  refine W_region ?_
  refine L_as (v := .int .i64 0) rfl rfl ?_
  refine L_nil ?_
  have hlen10 : List.length a ≤ 9223372036854775807 := len_le (slice_len h0)
  obtain ⟨j10, hL10, hF⟩ := bind_some hF
  obtain ⟨R10, hR10⟩ : ∃ R : Fr → World → Prop, R = fun f w_ => ∃ out_9 : List Rule, j10 = .nx out_9 ∧ f 3 = v5 ∧ Star H w_ ([own (OR.ownS 68 (oRule 3 22)) [v5] out_9]) := ⟨_, rfl⟩
  refine W_join R10 ?_ ?_
  ·
    refine W_block ?_
    obtain ⟨I10, hI10⟩ : ∃ I : Nat → Fr → World → Prop, I = fun n f w_ => ∃ i_8 : Nat, ∃ suf10 : List Rule, ∃ out_9 : List Rule, n = suf10.length ∧ List.drop i_8 a = suf10 ∧ i_8 + suf10.length = a.length ∧ rangeL l_toRuleS_b1 suf10 i_8 out_9 = some j10 ∧ f 0 = v0 ∧ f 3 = v5 ∧ f 4 = .int .i64 (i_8 : Int) ∧ Star H w_ ([own (OR.ownS 68 (oRule 3 22)) [v5] out_9]) := ⟨_, rfl⟩
    refine W_loop I10 (n := a.length) ?_ ?_
    · rw [hI10]; exact ⟨0, a, x1, rfl, rfl, Nat.zero_add _, hL10, rfl, rfl, rfl, hst⟩
    ·
      clear hst
      intro n10 f w_ hI
      rw [hI10] at hI
      obtain ⟨i_8, suf10, out_9, rfl, hd10, hl10, hL10, sf0, sf3, sf4, hst⟩ := hI
      refine W_seq ?_
      refine W_seq ?_
      refine W_region ?_
      refine L_mv (v := .int .i64 (i_8 : Int)) rfl sf4 ?_
      refine L_mv (v := v0) rfl sf0 ?_
      refine L_len (v := v0) (n := List.length a) rfl Try.underlying23 rfl (slice_len h0) ?_
      refine L_lss (m := (i_8 : Int)) (n := (a.length : Int)) rfl rfl rfl ?_
      refine L_nil ?_
      refine W_cond (b := decide ((i_8 : Int) < (a.length : Int))) rfl (fun hc11 => ?_) (fun hc11 => ?_)
      ·
        have hlt10 := of_decide_eq_true hc11
        cases suf10 with
        | nil => exact absurd hlt10 (by simp at hl10; omega)
        | cons x_10 rest10 =>
          obtain ⟨o10, hB10, hL10⟩ := range_cons hL10
          rw [l_toRuleS_b1] at hB10
          have hix10 := drop_idx hd10
          refine W_skip ?_
          refine W_seq ?_
          refine W_block ?_
          obtain ⟨x21, hx21, hB10⟩ := bind_some hB10
          obtain ⟨x26, hx26, hB10⟩ := bind_some hB10
          refine W_region ?_
          refine L_mv (v := v5) rfl sf3 ?_
          refine L_mv (v := .int .i64 (i_8 : Int)) rfl sf4 ?_
          refine L_mv (v := v0) rfl sf0 ?_
          refine L_mv (v := .int .i64 (i_8 : Int)) rfl sf4 ?_
          refine L_ix (r := (rRule 3 22)) rfl Try.underlying23 Try.sizeOf76 rfl h0 rfl hix10 ?_
          intro g30 o31 cs_g30 hrk_hat32 hat32
          obtain ⟨u33_0, u33_1, u33_2, rfl, hu33_0, hu33_1, hu33_2⟩ := rRule_iff.1 hrk_hat32
          refine L_lda (cs := [.int .i64 x_10.kind, u33_0, u33_1, .int .i64 x_10.bound, u33_2]) rfl Try.isAgg76 Try.sizeOf76 rfl (At.sub (AtH.at hat32 hst.sub) 0 5) rfl ?_
          obtain ⟨Hb34, hle35, hsb36, hfz37, hbk38⟩ := Star.borrow hst
          refine L_call (args := #[.agg #[.int .i64 x_10.kind, u33_0, u33_1, .int .i64 x_10.bound, u33_2]]) rfl Try.call67 (ops1 rfl) (l_toRule_c (a := x_10) hsb36 (RP.mono _ hu33_0 hle35) (RP.mono _ hu33_1 hle35) (RP.mono _ hu33_2 hle35) hx21) ?_
          rintro _ w39 ⟨r39_0, r39_1, r39_2, rfl, hst⟩
          have hst := hbk38 hst (closedL_cons (closed_own (OR.closed_ownS closed_int) _ _) (closedL_cons (closed_own (OR.closed_ownS closed_int) _ _) (closedL_cons (closed_own (OR.closed_ownS (OR.closed_ownS closed_int)) _ _) closedL_nil)))
          obtain ⟨g43, cap_g43, hv44, _, _⟩ := Star.row 3 hst rfl hx26
          refine L_ixO (R := (oRule 3 22)) (tb := 0) 0 rfl Try.underlying28 Try.sizeOf68 rfl hv44 (by first | rfl | simp) rfl hx26 ?_
          have hst := oRule_close (r := x21) hst
          refine L_stE (vs := #[.int .i64 x21.kind, r39_0, r39_1, .int .i64 x21.bound, r39_2]) rfl Try.sizeOf68 rfl rfl rfl hv44 hst hx26 ?_
          intro w45 hst
          refine L_nil ?_
          refine W_region ?_
          refine L_mv (v := .int .i64 (i_8 : Int)) rfl sf4 ?_
          refine L_add (m := (i_8 : Int)) (n := 1) rfl rfl rfl ?_
          refine L_as (v := .int .i64 (i64 ((i_8 : Int) + 1))) rfl rfl ?_
          refine L_nil ?_
          obtain rfl := so hB10
          show ∃ m, m < _ ∧ I10 m _ _
          refine ⟨rest10.length, by simp, ?_⟩
          rw [hI10]
          exact ⟨i_8 + 1, rest10, (out_9.set (Int.toNat (i_8 : Int)) x21), rfl, drop_next hd10, by simp at hl10; omega, hL10, sf0, sf3, (Eq.trans rfl (congrArg (Value.int .i64) (i64_succ (n := a.length) (by simp at hl10; omega) hlen10))), hst⟩
      ·
        cases suf10 with
        | cons _ _ => exact absurd (of_decide_eq_false hc11) (by simp at hl10; omega)
        | nil =>
          obtain rfl := range_nil hL10
          refine W_exit ?_
          show R10 _ _
          rw [hR10]
          exact ⟨out_9, rfl, sf3, hst⟩
  ·
    clear hst
    intro f w_ hR
    rw [hR10] at hR
    obtain ⟨out_9, rfl, sf3, hst⟩ := hR
    clear hR10
    refine W_seq ?_
    refine W_region ?_
    refine L_mv (v := v5) rfl sf3 ?_
    refine L_as (v := v5) rfl rfl ?_
    refine L_nil ?_
    refine W_ret ?_
    refine retG1 (v1 := v5) Try.results46 rfl ?_
    obtain rfl := so hF
    exact ⟨v5, rfl, hst⟩

theorem l_toModel_c {a : Model} {v0_0 : Value} {v0_1 : Value} {H : FH} {w : World} (hst : Star H w []) (h0_0 : (RP.slice 3 RP.int).rel H [v0_0] a.sizes) (h0_1 : (RP.slice 76 (rRule 3 22)).rel H [v0_1] a.rules) {r : Model} (hF : l_toModel a = some r) :
    C Try.prog 13 #[.agg #[v0_0, v0_1]] w fun v w' => ∃ (u1 : Value) (u2 : Value), v = .agg #[u1, u2] ∧ Star H w' [own (OR.ownS 3 (OR.frz RP.int)) [u1] r.sizes, own (OR.ownS 68 (oRule 3 22)) [u2] r.rules] := by
  unfold l_toModel at hF
  refine C_enter Try.func13 rfl Try.ntmps13 rfl ?_
  refine W_seq ?_
  refine W_region ?_
  refine L_box (v := .agg #[v0_0, v0_1]) (cs := #[v0_0, v0_1]) rfl rfl rfl hst ?_
  intro g5 w6 hst
  refine L_al (cs := #[(.slice none 0 0), (.slice none 0 0)]) rfl Try.zeroValue30 rfl hst ?_
  intro g7 w8 hst
  refine L_nil ?_
  refine W_seq ?_
  refine W_region ?_
  refine L_al (cs := #[(.slice none 0 0), (.slice none 0 0)]) rfl Try.zeroValue30 rfl hst ?_
  intro g11 w12 hst
  refine L_nil ?_
  refine W_seq ?_
  obtain ⟨x18, hx18, hF⟩ := bind_some hF
  refine W_region ?_
  refine L_fa (o' := 0) rfl fa_25_0 rfl rfl ?_
  refine L_ld (v := v0_0) rfl Try.isAgg22 rfl (At.cell0 (Blk.at (Star.blkAt 2 hst rfl)) (j := 0) rfl) ?_
  obtain ⟨Hb22, hle23, hsb24, hfz25, hbk26⟩ := Star.borrow hst
  refine L_call (args := #[v0_0]) rfl Try.call24 (ops1 rfl) (l_toIntS_c (a := a.sizes) hsb24 (RP.mono _ h0_0 hle23) hx18) ?_
  rintro r27_0 w27 ⟨_, rfl, hst⟩
  have hst := hbk26 hst (closedL_cons (closed_own (OR.closed_ownS closed_int) _ _) closedL_nil)
  refine L_fa (o' := 0) rfl fa_30_0 rfl rfl ?_
  refine L_stB (v := r27_0) (cs2 := #[r27_0, (.slice none 0 0)]) 1 rfl Try.sizeOf22 rfl rfl (one_len (Star.len 0 hst rfl)) hst rfl rfl rfl ?_
  intro w29 hst
  refine L_nil ?_
  refine W_seq ?_
  obtain ⟨x35, hx35, hF⟩ := bind_some hF
  refine W_region ?_
  refine L_fa (o' := 1) rfl fa_25_1 rfl rfl ?_
  refine L_ld (v := v0_1) rfl Try.isAgg23 rfl (At.cell0 (Blk.at (Star.blkAt 3 hst rfl)) (j := 1) rfl) ?_
  obtain ⟨Hb39, hle40, hsb41, hfz42, hbk43⟩ := Star.borrow hst
  refine L_call (args := #[v0_1]) rfl Try.call46 (ops1 rfl) (l_toRuleS_c (a := a.rules) hsb41 (RP.mono _ h0_1 hle40) hx35) ?_
  rintro r44_0 w44 ⟨_, rfl, hst⟩
  have hst := hbk43 hst (closedL_cons (closed_own (OR.closed_ownS closed_oRule) _ _) closedL_nil)
  refine L_fa (o' := 1) rfl fa_30_1 rfl rfl ?_
  refine L_stB (v := r44_0) (cs2 := #[r27_0, r44_0]) 1 rfl Try.sizeOf28 rfl rfl (one_len (Star.len 0 hst rfl)) hst rfl rfl rfl ?_
  intro w46 hst
  refine L_nil ?_
  refine W_seq ?_
  refine W_region ?_
  refine L_lda (cs := [r27_0, r44_0]) rfl Try.isAgg30 Try.sizeOf30 rfl (At.sub0 (Blk.at (Star.blkAt 0 hst rfl)) 0 2) rfl ?_
  refine L_staB (vs := #[r27_0, r44_0]) (cs2 := #[r27_0, r44_0]) 3 rfl Try.sizeOf30 rfl rfl rfl (ones_cons (one_len (Star.len 2 hst rfl)) (ones_cons (one_len (Star.len 1 hst rfl)) ones_nil)) hst rfl (by decide) rfl ?_
  intro w48 hst
  refine L_nil ?_
  refine W_ret ?_
  refine retG1 (v1 := .agg #[r27_0, r44_0]) Try.results13 (resV_agg Try.isAgg30 Try.sizeOf30 rfl (Star.blkAt 0 hst rfl) rfl) ?_
  obtain rfl := so hF
  have hst := Star.get 2 hst rfl
  have hst := Star.get 3 hst rfl
  exact ⟨r27_0, r44_0, rfl, (Star.keepN 2 hst)⟩

theorem i_within_c {n_ : Int} {low : Int} {high : Int} {H : FH} {w : World} (hst : Star H w []) {r : Bool} (hF : i_within n_ low high = some r) :
    C Try.prog 48 #[.int .i64 n_, .int .i64 low, .int .i64 high] w fun v w' => v = .bool r ∧ Star H w' [] := by
  unfold i_within at hF
  refine C_enter Try.func48 rfl Try.ntmps48 rfl ?_
  refine W_seq ?_
  refine W_region ?_
  refine L_as (v := .bool false) rfl rfl ?_
  refine L_nil ?_
  refine W_seq ?_
  obtain ⟨R1, hR1⟩ : ∃ R : Fr → World → Prop, R = fun f w_ => f 6 = .bool ((decide (low ≤ n_)) && (decide (n_ ≤ high))) ∧ Star H w_ ([]) := ⟨_, rfl⟩
  refine W_join R1 ?_ ?_
  ·
    refine W_region ?_
    refine L_mv (v := .int .i64 low) rfl rfl ?_
    refine L_mv (v := .int .i64 n_) rfl rfl ?_
    refine L_leq (m := low) (n := n_) rfl rfl rfl ?_
    refine L_mv (v := .bool (decide (low ≤ n_))) rfl rfl ?_
    refine L_split (d := 10) (b := decide (low ≤ n_)) rfl (fun hc2 => ?_) (fun hc2 => ?_)
    ·
      refine L_mv (v := .int .i64 n_) rfl rfl ?_
      refine L_mv (v := .int .i64 high) rfl rfl ?_
      refine L_leq (m := n_) (n := high) rfl rfl rfl ?_
      refine L_pick (v := .bool ((decide (low ≤ n_)) && (decide (n_ ≤ high)))) rfl rfl (and_t hc2 rfl) ?_
      refine L_as (v := .bool ((decide (low ≤ n_)) && (decide (n_ ≤ high)))) rfl rfl ?_
      refine L_nil ?_
      show R1 _ _
      rw [hR1]
      exact ⟨rfl, hst⟩
    ·
      refine L_pass rfl ?_
      refine L_pass rfl ?_
      refine L_pass rfl ?_
      refine L_pick (v := .bool ((decide (low ≤ n_)) && (decide (n_ ≤ high)))) rfl rfl (and_f hc2) ?_
      refine L_as (v := .bool ((decide (low ≤ n_)) && (decide (n_ ≤ high)))) rfl rfl ?_
      refine L_nil ?_
      show R1 _ _
      rw [hR1]
      exact ⟨rfl, hst⟩
  ·
    intro f w_ hR
    rw [hR1] at hR
    obtain ⟨sf6, hst⟩ := hR
    clear hR1
    refine W_ret ?_
    refine retG1 (v1 := .bool ((decide (low ≤ n_)) && (decide (n_ ≤ high)))) Try.results48 sf6 ?_
    obtain rfl := so hF
    exact ⟨rfl, hst⟩

theorem slices_IndexFunc_implRule_c {s : List Rule} {f_ : (Rule → Option Bool)} {v0 : Value} {v1 : Value} {H : FH} {w : World} (hst : Star H w []) (h0 : (RP.slice 68 (rRule 3 22)).rel H [v0] s) (h1 : Fun1 Try.prog (rRule 3 22) true Value.bool f_ v1 H) {r : Int} (hF : slices_IndexFunc_implRule s f_ = some r) :
    C Try.prog 83 #[v0, v1] w fun v w' => v = .int .i64 r ∧ Star H w' [] := by
  unfold slices_IndexFunc_implRule at hF
  obtain ⟨fid_1, caps_1, rfl, hcall_1, hc_1⟩ := h1
  refine C_enter Try.func83 rfl Try.ntmps83 rfl ?_
  refine W_seq ?_
  refine W_region ?_
  refine L_as (v := .int .i64 0) rfl rfl ?_
  refine L_nil ?_
  refine W_seq ?_
  refine W_seq ?_
  refine W_region ?_
  refine L_mv (v := v0) rfl rfl ?_
  refine L_len (v := v0) (n := List.length s) rfl Try.underlying28 rfl (slice_len h0) ?_
  refine L_mv (v := .int .i64 0) rfl rfl ?_
  refine L_nil ?_
  have hlen2 : List.length s ≤ 9223372036854775807 := len_le (slice_len h0)
  obtain ⟨j2, hL2, hF⟩ := bind_some hF
  obtain ⟨R2, hR2⟩ : ∃ R : Fr → World → Prop, R = fun f w_ => j2 = .nx () ∧ Star H w_ ([]) := ⟨_, rfl⟩
  refine W_join R2 ?_ ?_
  ·
    refine W_block ?_
    obtain ⟨I2, hI2⟩ : ∃ I : Nat → Fr → World → Prop, I = fun n f w_ => ∃ i_1 : Nat, ∃ suf2 : List Rule, n = suf2.length ∧ List.drop i_1 s = suf2 ∧ i_1 + suf2.length = s.length ∧ rangeL (slices_IndexFunc_implRule_b1 f_) suf2 i_1 () = some j2 ∧ f 0 = v0 ∧ f 1 = .func (.func fid_1) #[] caps_1 ∧ f 7 = .int .i64 (s.length : Int) ∧ f 8 = .int .i64 (i_1 : Int) ∧ Star H w_ ([]) := ⟨_, rfl⟩
    refine W_loop I2 (n := s.length) ?_ ?_
    · rw [hI2]; exact ⟨0, s, rfl, rfl, Nat.zero_add _, hL2, rfl, rfl, rfl, rfl, hst⟩
    ·
      clear hst
      intro n2 f w_ hI
      rw [hI2] at hI
      obtain ⟨i_1, suf2, rfl, hd2, hl2, hL2, sf0, sf1, sf7, sf8, hst⟩ := hI
      refine W_seq ?_
      refine W_region ?_
      refine L_lss (m := (i_1 : Int)) (n := (s.length : Int)) rfl sf8 sf7 ?_
      refine L_nil ?_
      refine W_seq ?_
      refine W_cond (b := decide ((i_1 : Int) < (s.length : Int))) rfl (fun hc3 => ?_) (fun hc3 => ?_)
      ·
        have hlt2 := of_decide_eq_true hc3
        cases suf2 with
        | nil => exact absurd hlt2 (by simp at hl2; omega)
        | cons x_2 rest2 =>
          obtain ⟨o2, hB2, hL2⟩ := range_cons hL2
          rw [slices_IndexFunc_implRule_b1] at hB2
          have hix2 := drop_idx hd2
          refine W_skip ?_
          refine W_seq ?_
          refine W_block ?_
          refine W_seq ?_
          refine W_region ?_
          refine L_mv (v := .int .i64 (i_1 : Int)) rfl sf8 ?_
          refine L_as (v := .int .i64 (i_1 : Int)) rfl rfl ?_
          refine L_nil ?_
          refine W_seq ?_
          obtain ⟨x8, hx8, hB2⟩ := bind_some hB2
          refine W_region ?_
          refine L_mv (v := .func (.func fid_1) #[] caps_1) rfl sf1 ?_
          refine L_mv (v := v0) rfl sf0 ?_
          refine L_mv (v := .int .i64 (i_1 : Int)) rfl rfl ?_
          refine L_ix (r := (rRule 3 22)) rfl Try.underlying28 Try.sizeOf68 rfl h0 rfl hix2 ?_
          intro g15 o16 cs_g15 hrk_hat17 hat17
          obtain ⟨u18_0, u18_1, u18_2, rfl, hu18_0, hu18_1, hu18_2⟩ := rRule_iff.1 hrk_hat17
          refine L_lda (cs := [.int .i64 x_2.kind, u18_0, u18_1, .int .i64 x_2.bound, u18_2]) rfl Try.isAgg68 Try.sizeOf68 rfl (At.sub (AtH.at hat17 hst.sub) 0 5) rfl ?_
          obtain ⟨Hb19, hle20, hsb21, hfz22, hbk23⟩ := Star.borrow hst
          refine L_callv (args := #[.agg #[.int .i64 x_2.kind, u18_0, u18_1, .int .i64 x_2.bound, u18_2]]) rfl hcall_1 rfl (ops1 rfl) (hc_1 _ _ hle20 hsb21 [.int .i64 x_2.kind, u18_0, u18_1, .int .i64 x_2.bound, u18_2] _ _ _ (rRule_iff.2 ⟨_, _, _, rfl, (RP.mono _ hu18_0 hle20), (RP.mono _ hu18_1 hle20), (RP.mono _ hu18_2 hle20)⟩) hx8 (args_app rfl)) ?_
          rintro _ w24 ⟨rfl, hst⟩
          have hst := hbk23 hst closedL_nil
          refine L_nil ?_
          refine W_cond (b := x8) rfl (fun hc25 => ?_) (fun hc25 => ?_)
          ·
            have hB2 := (ite_t hc25).symm.trans hB2
            refine W_seq ?_
            refine W_region ?_
            refine L_mv (v := .int .i64 (i_1 : Int)) rfl rfl ?_
            refine L_as (v := .int .i64 (i_1 : Int)) rfl rfl ?_
            refine L_nil ?_
            refine W_ret ?_
            refine retG1 (v1 := .int .i64 (i_1 : Int)) Try.results83 rfl ?_
            obtain rfl := so hB2
            obtain rfl := so hL2
            obtain rfl := so hF
            exact ⟨rfl, hst⟩
          ·
            have hB2 := (ite_f hc25).symm.trans hB2
            refine W_skip ?_
            refine W_region ?_
            refine L_add (m := (i_1 : Int)) (n := 1) rfl sf8 rfl ?_
            refine L_mv (v := .int .i64 (i64 ((i_1 : Int) + 1))) rfl rfl ?_
            refine L_nil ?_
            obtain rfl := so hB2
            show ∃ m, m < _ ∧ I2 m _ _
            refine ⟨rest2.length, by simp, ?_⟩
            rw [hI2]
            exact ⟨i_1 + 1, rest2, rfl, drop_next hd2, by simp at hl2; omega, hL2, sf0, sf1, sf7, (Eq.trans rfl (congrArg (Value.int .i64) (i64_succ (n := s.length) (by simp at hl2; omega) hlen2))), hst⟩
      ·
        cases suf2 with
        | cons _ _ => exact absurd (of_decide_eq_false hc3) (by simp at hl2; omega)
        | nil =>
          obtain rfl := range_nil hL2
          refine W_exit ?_
          show R2 _ _
          rw [hR2]
          exact ⟨rfl, hst⟩
  ·
    clear hst
    intro f w_ hR
    rw [hR2] at hR
    obtain ⟨rfl, hst⟩ := hR
    clear hR2
    refine W_seq ?_
    refine W_region ?_
    refine L_as (v := .int .i64 (-1)) rfl rfl ?_
    refine L_nil ?_
    refine W_ret ?_
    refine retG1 (v1 := .int .i64 (-1)) Try.results83 rfl ?_
    obtain rfl := so hF
    exact ⟨rfl, hst⟩

theorem slices_ContainsFunc_implRule_c {s : List Rule} {f_ : (Rule → Option Bool)} {v0 : Value} {v1 : Value} {H : FH} {w : World} (hst : Star H w []) (h0 : (RP.slice 68 (rRule 3 22)).rel H [v0] s) (h1 : Fun1 Try.prog (rRule 3 22) true Value.bool f_ v1 H) {r : Bool} (hF : slices_ContainsFunc_implRule s f_ = some r) :
    C Try.prog 68 #[v0, v1] w fun v w' => v = .bool r ∧ Star H w' [] := by
  unfold slices_ContainsFunc_implRule at hF
  obtain ⟨fid_1, caps_1, rfl, hcall_1, hc_1⟩ := h1
  refine C_enter Try.func68 rfl Try.ntmps68 rfl ?_
  refine W_seq ?_
  refine W_region ?_
  refine L_as (v := .bool false) rfl rfl ?_
  refine L_nil ?_
  refine W_seq ?_
  obtain ⟨x6, hx6, hF⟩ := bind_some hF
  refine W_region ?_
  refine L_mv (v := v0) rfl rfl ?_
  refine L_mv (v := .func (.func fid_1) #[] caps_1) rfl rfl ?_
  obtain ⟨Hb8, hle9, hsb10, hfz11, hbk12⟩ := Star.borrow hst
  refine L_call (args := #[v0, .func (.func fid_1) #[] caps_1]) rfl Try.call83 (ops2 rfl rfl) (slices_IndexFunc_implRule_c (s := s) (f_ := f_) hsb10 (RP.mono _ h0 hle9) (Fun1.le ⟨_, _, rfl, hcall_1, hc_1⟩ hle9) hx6) ?_
  rintro _ w13 ⟨rfl, hst⟩
  have hst := hbk12 hst closedL_nil
  refine L_geq (m := x6) (n := 0) rfl rfl rfl ?_
  refine L_as (v := .bool (decide (x6 ≥ 0))) rfl rfl ?_
  refine L_nil ?_
  refine W_ret ?_
  refine retG1 (v1 := .bool (decide (x6 ≥ 0))) Try.results68 rfl ?_
  obtain rfl := so hF
  exact ⟨rfl, hst⟩

theorem slices_Index_int_c {s : List Int} {v_ : Int} {v0 : Value} {H : FH} {w : World} (hst : Star H w []) (h0 : (RP.slice 3 RP.int).rel H [v0] s) {r : Int} (hF : slices_Index_int s v_ = some r) :
    C Try.prog 93 #[v0, .int .i64 v_] w fun v w' => v = .int .i64 r ∧ Star H w' [] := by
  unfold slices_Index_int at hF
  refine C_enter Try.func93 rfl Try.ntmps93 rfl ?_
  refine W_seq ?_
  refine W_region ?_
  refine L_as (v := .int .i64 0) rfl rfl ?_
  refine L_nil ?_
  refine W_seq ?_
  refine W_seq ?_
  refine W_region ?_
  refine L_mv (v := v0) rfl rfl ?_
  refine L_len (v := v0) (n := List.length s) rfl Try.underlying22 rfl (slice_len h0) ?_
  refine L_mv (v := .int .i64 0) rfl rfl ?_
  refine L_nil ?_
  have hlen2 : List.length s ≤ 9223372036854775807 := len_le (slice_len h0)
  obtain ⟨j2, hL2, hF⟩ := bind_some hF
  obtain ⟨R2, hR2⟩ : ∃ R : Fr → World → Prop, R = fun f w_ => j2 = .nx () ∧ Star H w_ ([]) := ⟨_, rfl⟩
  refine W_join R2 ?_ ?_
  ·
    refine W_block ?_
    obtain ⟨I2, hI2⟩ : ∃ I : Nat → Fr → World → Prop, I = fun n f w_ => ∃ i_1 : Nat, ∃ suf2 : List Int, n = suf2.length ∧ List.drop i_1 s = suf2 ∧ i_1 + suf2.length = s.length ∧ rangeL (slices_Index_int_b1 v_) suf2 i_1 () = some j2 ∧ f 0 = v0 ∧ f 1 = .int .i64 v_ ∧ f 7 = .int .i64 (s.length : Int) ∧ f 8 = .int .i64 (i_1 : Int) ∧ Star H w_ ([]) := ⟨_, rfl⟩
    refine W_loop I2 (n := s.length) ?_ ?_
    · rw [hI2]; exact ⟨0, s, rfl, rfl, Nat.zero_add _, hL2, rfl, rfl, rfl, rfl, hst⟩
    ·
      clear hst
      intro n2 f w_ hI
      rw [hI2] at hI
      obtain ⟨i_1, suf2, rfl, hd2, hl2, hL2, sf0, sf1, sf7, sf8, hst⟩ := hI
      refine W_seq ?_
      refine W_region ?_
      refine L_lss (m := (i_1 : Int)) (n := (s.length : Int)) rfl sf8 sf7 ?_
      refine L_nil ?_
      refine W_seq ?_
      refine W_cond (b := decide ((i_1 : Int) < (s.length : Int))) rfl (fun hc3 => ?_) (fun hc3 => ?_)
      ·
        have hlt2 := of_decide_eq_true hc3
        cases suf2 with
        | nil => exact absurd hlt2 (by simp at hl2; omega)
        | cons x_2 rest2 =>
          obtain ⟨o2, hB2, hL2⟩ := range_cons hL2
          rw [slices_Index_int_b1] at hB2
          have hix2 := drop_idx hd2
          refine W_skip ?_
          refine W_seq ?_
          refine W_block ?_
          refine W_seq ?_
          refine W_region ?_
          refine L_mv (v := .int .i64 (i_1 : Int)) rfl sf8 ?_
          refine L_as (v := .int .i64 (i_1 : Int)) rfl rfl ?_
          refine L_nil ?_
          refine W_seq ?_
          refine W_region ?_
          refine L_mv (v := .int .i64 v_) rfl sf1 ?_
          refine L_mv (v := v0) rfl sf0 ?_
          refine L_mv (v := .int .i64 (i_1 : Int)) rfl rfl ?_
          refine L_ix (r := RP.int) rfl Try.underlying22 Try.sizeOf3 rfl h0 rfl hix2 ?_
          intro g8 o9 cs_g8 hrk_hat10 hat10
          obtain rfl : _ = [_] := hrk_hat10
          refine L_ld (v := .int .i64 x_2) rfl Try.isAgg3 rfl (At.cell (AtH.at hat10 hst.sub) (j := 0) rfl) ?_
          refine L_eql (m := v_) (n := x_2) rfl rfl rfl ?_
          refine L_nil ?_
          refine W_cond (b := (v_ == x_2)) rfl (fun hc12 => ?_) (fun hc12 => ?_)
          ·
            have hB2 := (ite_t hc12).symm.trans hB2
            refine W_seq ?_
            refine W_region ?_
            refine L_mv (v := .int .i64 (i_1 : Int)) rfl rfl ?_
            refine L_as (v := .int .i64 (i_1 : Int)) rfl rfl ?_
            refine L_nil ?_
            refine W_ret ?_
            refine retG1 (v1 := .int .i64 (i_1 : Int)) Try.results93 rfl ?_
            obtain rfl := so hB2
            obtain rfl := so hL2
            obtain rfl := so hF
            exact ⟨rfl, hst⟩
          ·
            have hB2 := (ite_f hc12).symm.trans hB2
            refine W_skip ?_
            refine W_region ?_
            refine L_add (m := (i_1 : Int)) (n := 1) rfl sf8 rfl ?_
            refine L_mv (v := .int .i64 (i64 ((i_1 : Int) + 1))) rfl rfl ?_
            refine L_nil ?_
            obtain rfl := so hB2
            show ∃ m, m < _ ∧ I2 m _ _
            refine ⟨rest2.length, by simp, ?_⟩
            rw [hI2]
            exact ⟨i_1 + 1, rest2, rfl, drop_next hd2, by simp at hl2; omega, hL2, sf0, sf1, sf7, (Eq.trans rfl (congrArg (Value.int .i64) (i64_succ (n := s.length) (by simp at hl2; omega) hlen2))), hst⟩
      ·
        cases suf2 with
        | cons _ _ => exact absurd (of_decide_eq_false hc3) (by simp at hl2; omega)
        | nil =>
          obtain rfl := range_nil hL2
          refine W_exit ?_
          show R2 _ _
          rw [hR2]
          exact ⟨rfl, hst⟩
  ·
    clear hst
    intro f w_ hR
    rw [hR2] at hR
    obtain ⟨rfl, hst⟩ := hR
    clear hR2
    refine W_seq ?_
    refine W_region ?_
    refine L_as (v := .int .i64 (-1)) rfl rfl ?_
    refine L_nil ?_
    refine W_ret ?_
    refine retG1 (v1 := .int .i64 (-1)) Try.results93 rfl ?_
    obtain rfl := so hF
    exact ⟨rfl, hst⟩

theorem slices_Contains_int_c {s : List Int} {v_ : Int} {v0 : Value} {H : FH} {w : World} (hst : Star H w []) (h0 : (RP.slice 3 RP.int).rel H [v0] s) {r : Bool} (hF : slices_Contains_int s v_ = some r) :
    C Try.prog 84 #[v0, .int .i64 v_] w fun v w' => v = .bool r ∧ Star H w' [] := by
  unfold slices_Contains_int at hF
  refine C_enter Try.func84 rfl Try.ntmps84 rfl ?_
  refine W_seq ?_
  refine W_region ?_
  refine L_as (v := .bool false) rfl rfl ?_
  refine L_nil ?_
  refine W_seq ?_
  obtain ⟨x6, hx6, hF⟩ := bind_some hF
  refine W_region ?_
  refine L_mv (v := v0) rfl rfl ?_
  refine L_mv (v := .int .i64 v_) rfl rfl ?_
  obtain ⟨Hb8, hle9, hsb10, hfz11, hbk12⟩ := Star.borrow hst
  refine L_call (args := #[v0, .int .i64 v_]) rfl Try.call93 (ops2 rfl rfl) (slices_Index_int_c (s := s) (v_ := v_) hsb10 (RP.mono _ h0 hle9) hx6) ?_
  rintro _ w13 ⟨rfl, hst⟩
  have hst := hbk12 hst closedL_nil
  refine L_geq (m := x6) (n := 0) rfl rfl rfl ?_
  refine L_as (v := .bool (decide (x6 ≥ 0))) rfl rfl ?_
  refine L_nil ?_
  refine W_ret ?_
  refine retG1 (v1 := .bool (decide (x6 ≥ 0))) Try.results84 rfl ?_
  obtain rfl := so hF
  exact ⟨rfl, hst⟩

theorem slices_IndexFunc_int_c {s : List Int} {f_ : (Int → Option Bool)} {v0 : Value} {v1 : Value} {H : FH} {w : World} (hst : Star H w []) (h0 : (RP.slice 3 RP.int).rel H [v0] s) (h1 : Fun1 Try.prog RP.int false Value.bool f_ v1 H) {r : Int} (hF : slices_IndexFunc_int s f_ = some r) :
    C Try.prog 94 #[v0, v1] w fun v w' => v = .int .i64 r ∧ Star H w' [] := by
  unfold slices_IndexFunc_int at hF
  obtain ⟨fid_1, caps_1, rfl, hcall_1, hc_1⟩ := h1
  refine C_enter Try.func94 rfl Try.ntmps94 rfl ?_
  refine W_seq ?_
  refine W_region ?_
  refine L_as (v := .int .i64 0) rfl rfl ?_
  refine L_nil ?_
  refine W_seq ?_
  refine W_seq ?_
  refine W_region ?_
  refine L_mv (v := v0) rfl rfl ?_
  refine L_len (v := v0) (n := List.length s) rfl Try.underlying22 rfl (slice_len h0) ?_
  refine L_mv (v := .int .i64 0) rfl rfl ?_
  refine L_nil ?_
  have hlen2 : List.length s ≤ 9223372036854775807 := len_le (slice_len h0)
  obtain ⟨j2, hL2, hF⟩ := bind_some hF
  obtain ⟨R2, hR2⟩ : ∃ R : Fr → World → Prop, R = fun f w_ => j2 = .nx () ∧ Star H w_ ([]) := ⟨_, rfl⟩
  refine W_join R2 ?_ ?_
  ·
    refine W_block ?_
    obtain ⟨I2, hI2⟩ : ∃ I : Nat → Fr → World → Prop, I = fun n f w_ => ∃ i_1 : Nat, ∃ suf2 : List Int, n = suf2.length ∧ List.drop i_1 s = suf2 ∧ i_1 + suf2.length = s.length ∧ rangeL (slices_IndexFunc_int_b1 f_) suf2 i_1 () = some j2 ∧ f 0 = v0 ∧ f 1 = .func (.func fid_1) #[] caps_1 ∧ f 7 = .int .i64 (s.length : Int) ∧ f 8 = .int .i64 (i_1 : Int) ∧ Star H w_ ([]) := ⟨_, rfl⟩
    refine W_loop I2 (n := s.length) ?_ ?_
    · rw [hI2]; exact ⟨0, s, rfl, rfl, Nat.zero_add _, hL2, rfl, rfl, rfl, rfl, hst⟩
    ·
      clear hst
      intro n2 f w_ hI
      rw [hI2] at hI
      obtain ⟨i_1, suf2, rfl, hd2, hl2, hL2, sf0, sf1, sf7, sf8, hst⟩ := hI
      refine W_seq ?_
      refine W_region ?_
      refine L_lss (m := (i_1 : Int)) (n := (s.length : Int)) rfl sf8 sf7 ?_
      refine L_nil ?_
      refine W_seq ?_
      refine W_cond (b := decide ((i_1 : Int) < (s.length : Int))) rfl (fun hc3 => ?_) (fun hc3 => ?_)
      ·
        have hlt2 := of_decide_eq_true hc3
        cases suf2 with
        | nil => exact absurd hlt2 (by simp at hl2; omega)
        | cons x_2 rest2 =>
          obtain ⟨o2, hB2, hL2⟩ := range_cons hL2
          rw [slices_IndexFunc_int_b1] at hB2
          have hix2 := drop_idx hd2
          refine W_skip ?_
          refine W_seq ?_
          refine W_block ?_
          refine W_seq ?_
          refine W_region ?_
          refine L_mv (v := .int .i64 (i_1 : Int)) rfl sf8 ?_
          refine L_as (v := .int .i64 (i_1 : Int)) rfl rfl ?_
          refine L_nil ?_
          refine W_seq ?_
          obtain ⟨x8, hx8, hB2⟩ := bind_some hB2
          refine W_region ?_
          refine L_mv (v := .func (.func fid_1) #[] caps_1) rfl sf1 ?_
          refine L_mv (v := v0) rfl sf0 ?_
          refine L_mv (v := .int .i64 (i_1 : Int)) rfl rfl ?_
          refine L_ix (r := RP.int) rfl Try.underlying22 Try.sizeOf3 rfl h0 rfl hix2 ?_
          intro g15 o16 cs_g15 hrk_hat17 hat17
          obtain rfl : _ = [_] := hrk_hat17
          refine L_ld (v := .int .i64 x_2) rfl Try.isAgg3 rfl (At.cell (AtH.at hat17 hst.sub) (j := 0) rfl) ?_
          obtain ⟨Hb19, hle20, hsb21, hfz22, hbk23⟩ := Star.borrow hst
          refine L_callv (args := #[.int .i64 x_2]) rfl hcall_1 rfl (ops1 rfl) (hc_1 _ _ hle20 hsb21 [.int .i64 x_2] _ _ _ rfl hx8 (args_app rfl)) ?_
          rintro _ w24 ⟨rfl, hst⟩
          have hst := hbk23 hst closedL_nil
          refine L_nil ?_
          refine W_cond (b := x8) rfl (fun hc25 => ?_) (fun hc25 => ?_)
          ·
            have hB2 := (ite_t hc25).symm.trans hB2
            refine W_seq ?_
            refine W_region ?_
            refine L_mv (v := .int .i64 (i_1 : Int)) rfl rfl ?_
            refine L_as (v := .int .i64 (i_1 : Int)) rfl rfl ?_
            refine L_nil ?_
            refine W_ret ?_
            refine retG1 (v1 := .int .i64 (i_1 : Int)) Try.results94 rfl ?_
            obtain rfl := so hB2
            obtain rfl := so hL2
            obtain rfl := so hF
            exact ⟨rfl, hst⟩
          ·
            have hB2 := (ite_f hc25).symm.trans hB2
            refine W_skip ?_
            refine W_region ?_
            refine L_add (m := (i_1 : Int)) (n := 1) rfl sf8 rfl ?_
            refine L_mv (v := .int .i64 (i64 ((i_1 : Int) + 1))) rfl rfl ?_
            refine L_nil ?_
            obtain rfl := so hB2
            show ∃ m, m < _ ∧ I2 m _ _
            refine ⟨rest2.length, by simp, ?_⟩
            rw [hI2]
            exact ⟨i_1 + 1, rest2, rfl, drop_next hd2, by simp at hl2; omega, hL2, sf0, sf1, sf7, (Eq.trans rfl (congrArg (Value.int .i64) (i64_succ (n := s.length) (by simp at hl2; omega) hlen2))), hst⟩
      ·
        cases suf2 with
        | cons _ _ => exact absurd (of_decide_eq_false hc3) (by simp at hl2; omega)
        | nil =>
          obtain rfl := range_nil hL2
          refine W_exit ?_
          show R2 _ _
          rw [hR2]
          exact ⟨rfl, hst⟩
  ·
    clear hst
    intro f w_ hR
    rw [hR2] at hR
    obtain ⟨rfl, hst⟩ := hR
    clear hR2
    refine W_seq ?_
    refine W_region ?_
    refine L_as (v := .int .i64 (-1)) rfl rfl ?_
    refine L_nil ?_
    refine W_ret ?_
    refine retG1 (v1 := .int .i64 (-1)) Try.results94 rfl ?_
    obtain rfl := so hF
    exact ⟨rfl, hst⟩

theorem slices_ContainsFunc_int_c {s : List Int} {f_ : (Int → Option Bool)} {v0 : Value} {v1 : Value} {H : FH} {w : World} (hst : Star H w []) (h0 : (RP.slice 3 RP.int).rel H [v0] s) (h1 : Fun1 Try.prog RP.int false Value.bool f_ v1 H) {r : Bool} (hF : slices_ContainsFunc_int s f_ = some r) :
    C Try.prog 85 #[v0, v1] w fun v w' => v = .bool r ∧ Star H w' [] := by
  unfold slices_ContainsFunc_int at hF
  obtain ⟨fid_1, caps_1, rfl, hcall_1, hc_1⟩ := h1
  refine C_enter Try.func85 rfl Try.ntmps85 rfl ?_
  refine W_seq ?_
  refine W_region ?_
  refine L_as (v := .bool false) rfl rfl ?_
  refine L_nil ?_
  refine W_seq ?_
  obtain ⟨x6, hx6, hF⟩ := bind_some hF
  refine W_region ?_
  refine L_mv (v := v0) rfl rfl ?_
  refine L_mv (v := .func (.func fid_1) #[] caps_1) rfl rfl ?_
  obtain ⟨Hb8, hle9, hsb10, hfz11, hbk12⟩ := Star.borrow hst
  refine L_call (args := #[v0, .func (.func fid_1) #[] caps_1]) rfl Try.call94 (ops2 rfl rfl) (slices_IndexFunc_int_c (s := s) (f_ := f_) hsb10 (RP.mono _ h0 hle9) (Fun1.le ⟨_, _, rfl, hcall_1, hc_1⟩ hle9) hx6) ?_
  rintro _ w13 ⟨rfl, hst⟩
  have hst := hbk12 hst closedL_nil
  refine L_geq (m := x6) (n := 0) rfl rfl rfl ?_
  refine L_as (v := .bool (decide (x6 ≥ 0))) rfl rfl ?_
  refine L_nil ?_
  refine W_ret ?_
  refine retG1 (v1 := .bool (decide (x6 ≥ 0))) Try.results85 rfl ?_
  obtain rfl := so hF
  exact ⟨rfl, hst⟩

theorem i_ruleValid_1_c {n_ : Int} {H : FH} {w : World} (hst : Star H w []) {r : Bool} (hF : i_ruleValid_1 n_ = some r) :
    C Try.prog 86 #[.int .i64 n_] w fun v w' => v = .bool r ∧ Star H w' [] := by
  unfold i_ruleValid_1 at hF
  refine C_enter Try.func86 rfl Try.ntmps86 rfl ?_
  refine W_seq ?_
  refine W_region ?_
  refine L_as (v := .bool false) rfl rfl ?_
  refine L_nil ?_
  refine W_seq ?_
  obtain ⟨b8, hb8, hF⟩ := bind_some hF
  obtain ⟨R9, hR9⟩ : ∃ R : Fr → World → Prop, R = fun f w_ => f 2 = .bool b8 ∧ Star H w_ ([]) := ⟨_, rfl⟩
  refine W_join R9 ?_ ?_
  ·
    refine W_region ?_
    refine L_mv (v := .int .i64 n_) rfl rfl ?_
    refine L_eql (m := n_) (n := 0) rfl rfl rfl ?_
    refine L_mv (v := .bool (n_ == 0)) rfl rfl ?_
    refine L_split (d := 5) (b := (n_ == 0)) rfl (fun hc10 => ?_) (fun hc10 => ?_)
    ·
      rw [ite_t hc10] at hb8
      refine L_pass rfl ?_
      refine L_pass rfl ?_
      refine L_pass rfl ?_
      refine L_pick (v := .bool b8) rfl rfl (congrArg Value.bool (so hb8)) ?_
      refine L_as (v := .bool b8) rfl rfl ?_
      refine L_nil ?_
      show R9 _ _
      rw [hR9]
      exact ⟨rfl, hst⟩
    ·
      rw [ite_f hc10] at hb8
      obtain ⟨x6, hx6, hb8⟩ := bind_some hb8
      refine L_mv (v := .int .i64 n_) rfl rfl ?_
      obtain ⟨Hb11, hle12, hsb13, hfz14, hbk15⟩ := Star.borrow hst
      refine L_call (args := #[.int .i64 n_, .int .i64 (-9), .int .i64 9]) rfl Try.call48 (ops3 rfl rfl rfl) (i_within_c (n_ := n_) (low := (-9)) (high := 9) hsb13 hx6) ?_
      rintro _ w16 ⟨rfl, hst⟩
      have hst := hbk15 hst closedL_nil
      refine L_not_ (b := x6) rfl rfl ?_
      refine L_pick (v := .bool b8) rfl rfl (congrArg Value.bool (so hb8)) ?_
      refine L_as (v := .bool b8) rfl rfl ?_
      refine L_nil ?_
      show R9 _ _
      rw [hR9]
      exact ⟨rfl, hst⟩
  ·
    intro f w_ hR
    rw [hR9] at hR
    obtain ⟨sf2, hst⟩ := hR
    clear hR9
    refine W_ret ?_
    refine retG1 (v1 := .bool b8) Try.results86 sf2 ?_
    obtain rfl := so hF
    exact ⟨rfl, hst⟩

theorem slices_IndexFunc_Sint_c {s : List (List Int)} {f_ : ((List Int) → Option Bool)} {v0 : Value} {v1 : Value} {H : FH} {w : World} (hst : Star H w []) (h0 : (RP.slice 22 (RP.slice 3 RP.int)).rel H [v0] s) (h1 : Fun1 Try.prog (RP.slice 3 RP.int) false Value.bool f_ v1 H) {r : Int} (hF : slices_IndexFunc_Sint s f_ = some r) :
    C Try.prog 95 #[v0, v1] w fun v w' => v = .int .i64 r ∧ Star H w' [] := by
  unfold slices_IndexFunc_Sint at hF
  obtain ⟨fid_1, caps_1, rfl, hcall_1, hc_1⟩ := h1
  refine C_enter Try.func95 rfl Try.ntmps95 rfl ?_
  refine W_seq ?_
  refine W_region ?_
  refine L_as (v := .int .i64 0) rfl rfl ?_
  refine L_nil ?_
  refine W_seq ?_
  refine W_seq ?_
  refine W_region ?_
  refine L_mv (v := v0) rfl rfl ?_
  refine L_len (v := v0) (n := List.length s) rfl Try.underlying66 rfl (slice_len h0) ?_
  refine L_mv (v := .int .i64 0) rfl rfl ?_
  refine L_nil ?_
  have hlen2 : List.length s ≤ 9223372036854775807 := len_le (slice_len h0)
  obtain ⟨j2, hL2, hF⟩ := bind_some hF
  obtain ⟨R2, hR2⟩ : ∃ R : Fr → World → Prop, R = fun f w_ => j2 = .nx () ∧ Star H w_ ([]) := ⟨_, rfl⟩
  refine W_join R2 ?_ ?_
  ·
    refine W_block ?_
    obtain ⟨I2, hI2⟩ : ∃ I : Nat → Fr → World → Prop, I = fun n f w_ => ∃ i_1 : Nat, ∃ suf2 : List (List Int), n = suf2.length ∧ List.drop i_1 s = suf2 ∧ i_1 + suf2.length = s.length ∧ rangeL (slices_IndexFunc_Sint_b1 f_) suf2 i_1 () = some j2 ∧ f 0 = v0 ∧ f 1 = .func (.func fid_1) #[] caps_1 ∧ f 7 = .int .i64 (s.length : Int) ∧ f 8 = .int .i64 (i_1 : Int) ∧ Star H w_ ([]) := ⟨_, rfl⟩
    refine W_loop I2 (n := s.length) ?_ ?_
    · rw [hI2]; exact ⟨0, s, rfl, rfl, Nat.zero_add _, hL2, rfl, rfl, rfl, rfl, hst⟩
    ·
      clear hst
      intro n2 f w_ hI
      rw [hI2] at hI
      obtain ⟨i_1, suf2, rfl, hd2, hl2, hL2, sf0, sf1, sf7, sf8, hst⟩ := hI
      refine W_seq ?_
      refine W_region ?_
      refine L_lss (m := (i_1 : Int)) (n := (s.length : Int)) rfl sf8 sf7 ?_
      refine L_nil ?_
      refine W_seq ?_
      refine W_cond (b := decide ((i_1 : Int) < (s.length : Int))) rfl (fun hc3 => ?_) (fun hc3 => ?_)
      ·
        have hlt2 := of_decide_eq_true hc3
        cases suf2 with
        | nil => exact absurd hlt2 (by simp at hl2; omega)
        | cons x_2 rest2 =>
          obtain ⟨o2, hB2, hL2⟩ := range_cons hL2
          rw [slices_IndexFunc_Sint_b1] at hB2
          have hix2 := drop_idx hd2
          refine W_skip ?_
          refine W_seq ?_
          refine W_block ?_
          refine W_seq ?_
          refine W_region ?_
          refine L_mv (v := .int .i64 (i_1 : Int)) rfl sf8 ?_
          refine L_as (v := .int .i64 (i_1 : Int)) rfl rfl ?_
          refine L_nil ?_
          refine W_seq ?_
          obtain ⟨x8, hx8, hB2⟩ := bind_some hB2
          refine W_region ?_
          refine L_mv (v := .func (.func fid_1) #[] caps_1) rfl sf1 ?_
          refine L_mv (v := v0) rfl sf0 ?_
          refine L_mv (v := .int .i64 (i_1 : Int)) rfl rfl ?_
          refine L_ix (r := (RP.slice 3 RP.int)) rfl Try.underlying66 Try.sizeOf22 rfl h0 rfl hix2 ?_
          intro g15 o16 cs_g15 hrk_hat17 hat17
          obtain ⟨u18, rfl, hu18⟩ := slice1 hrk_hat17
          refine L_ld (v := u18) rfl Try.isAgg22 rfl (At.cell (AtH.at hat17 hst.sub) (j := 0) rfl) ?_
          obtain ⟨Hb19, hle20, hsb21, hfz22, hbk23⟩ := Star.borrow hst
          refine L_callv (args := #[u18]) rfl hcall_1 rfl (ops1 rfl) (hc_1 _ _ hle20 hsb21 [u18] _ _ _ (RP.mono _ hu18 hle20) hx8 (args_app rfl)) ?_
          rintro _ w24 ⟨rfl, hst⟩
          have hst := hbk23 hst closedL_nil
          refine L_nil ?_
          refine W_cond (b := x8) rfl (fun hc25 => ?_) (fun hc25 => ?_)
          ·
            have hB2 := (ite_t hc25).symm.trans hB2
            refine W_seq ?_
            refine W_region ?_
            refine L_mv (v := .int .i64 (i_1 : Int)) rfl rfl ?_
            refine L_as (v := .int .i64 (i_1 : Int)) rfl rfl ?_
            refine L_nil ?_
            refine W_ret ?_
            refine retG1 (v1 := .int .i64 (i_1 : Int)) Try.results95 rfl ?_
            obtain rfl := so hB2
            obtain rfl := so hL2
            obtain rfl := so hF
            exact ⟨rfl, hst⟩
          ·
            have hB2 := (ite_f hc25).symm.trans hB2
            refine W_skip ?_
            refine W_region ?_
            refine L_add (m := (i_1 : Int)) (n := 1) rfl sf8 rfl ?_
            refine L_mv (v := .int .i64 (i64 ((i_1 : Int) + 1))) rfl rfl ?_
            refine L_nil ?_
            obtain rfl := so hB2
            show ∃ m, m < _ ∧ I2 m _ _
            refine ⟨rest2.length, by simp, ?_⟩
            rw [hI2]
            exact ⟨i_1 + 1, rest2, rfl, drop_next hd2, by simp at hl2; omega, hL2, sf0, sf1, sf7, (Eq.trans rfl (congrArg (Value.int .i64) (i64_succ (n := s.length) (by simp at hl2; omega) hlen2))), hst⟩
      ·
        cases suf2 with
        | cons _ _ => exact absurd (of_decide_eq_false hc3) (by simp at hl2; omega)
        | nil =>
          obtain rfl := range_nil hL2
          refine W_exit ?_
          show R2 _ _
          rw [hR2]
          exact ⟨rfl, hst⟩
  ·
    clear hst
    intro f w_ hR
    rw [hR2] at hR
    obtain ⟨rfl, hst⟩ := hR
    clear hR2
    refine W_seq ?_
    refine W_region ?_
    refine L_as (v := .int .i64 (-1)) rfl rfl ?_
    refine L_nil ?_
    refine W_ret ?_
    refine retG1 (v1 := .int .i64 (-1)) Try.results95 rfl ?_
    obtain rfl := so hF
    exact ⟨rfl, hst⟩

theorem slices_ContainsFunc_Sint_c {s : List (List Int)} {f_ : ((List Int) → Option Bool)} {v0 : Value} {v1 : Value} {H : FH} {w : World} (hst : Star H w []) (h0 : (RP.slice 22 (RP.slice 3 RP.int)).rel H [v0] s) (h1 : Fun1 Try.prog (RP.slice 3 RP.int) false Value.bool f_ v1 H) {r : Bool} (hF : slices_ContainsFunc_Sint s f_ = some r) :
    C Try.prog 87 #[v0, v1] w fun v w' => v = .bool r ∧ Star H w' [] := by
  unfold slices_ContainsFunc_Sint at hF
  obtain ⟨fid_1, caps_1, rfl, hcall_1, hc_1⟩ := h1
  refine C_enter Try.func87 rfl Try.ntmps87 rfl ?_
  refine W_seq ?_
  refine W_region ?_
  refine L_as (v := .bool false) rfl rfl ?_
  refine L_nil ?_
  refine W_seq ?_
  obtain ⟨x6, hx6, hF⟩ := bind_some hF
  refine W_region ?_
  refine L_mv (v := v0) rfl rfl ?_
  refine L_mv (v := .func (.func fid_1) #[] caps_1) rfl rfl ?_
  obtain ⟨Hb8, hle9, hsb10, hfz11, hbk12⟩ := Star.borrow hst
  refine L_call (args := #[v0, .func (.func fid_1) #[] caps_1]) rfl Try.call95 (ops2 rfl rfl) (slices_IndexFunc_Sint_c (s := s) (f_ := f_) hsb10 (RP.mono _ h0 hle9) (Fun1.le ⟨_, _, rfl, hcall_1, hc_1⟩ hle9) hx6) ?_
  rintro _ w13 ⟨rfl, hst⟩
  have hst := hbk12 hst closedL_nil
  refine L_geq (m := x6) (n := 0) rfl rfl rfl ?_
  refine L_as (v := .bool (decide (x6 ≥ 0))) rfl rfl ?_
  refine L_nil ?_
  refine W_ret ?_
  refine retG1 (v1 := .bool (decide (x6 ≥ 0))) Try.results87 rfl ?_
  obtain rfl := so hF
  exact ⟨rfl, hst⟩

theorem i_ruleValid_2_1_c {n_ : Int} {H : FH} {w : World} (hst : Star H w []) {r : Bool} (hF : i_ruleValid_2_1 n_ = some r) :
    C Try.prog 89 #[.int .i64 n_] w fun v w' => v = .bool r ∧ Star H w' [] := by
  unfold i_ruleValid_2_1 at hF
  refine C_enter Try.func89 rfl Try.ntmps89 rfl ?_
  refine W_seq ?_
  refine W_region ?_
  refine L_as (v := .bool false) rfl rfl ?_
  refine L_nil ?_
  refine W_seq ?_
  obtain ⟨x6, hx6, hF⟩ := bind_some hF
  refine W_region ?_
  refine L_mv (v := .int .i64 n_) rfl rfl ?_
  obtain ⟨Hb8, hle9, hsb10, hfz11, hbk12⟩ := Star.borrow hst
  refine L_call (args := #[.int .i64 n_, .int .i64 0, .int .i64 3]) rfl Try.call48 (ops3 rfl rfl rfl) (i_within_c (n_ := n_) (low := 0) (high := 3) hsb10 hx6) ?_
  rintro _ w13 ⟨rfl, hst⟩
  have hst := hbk12 hst closedL_nil
  refine L_not_ (b := x6) rfl rfl ?_
  refine L_as (v := .bool (!x6)) rfl rfl ?_
  refine L_nil ?_
  refine W_ret ?_
  refine retG1 (v1 := .bool (!x6)) Try.results89 rfl ?_
  obtain rfl := so hF
  exact ⟨rfl, hst⟩

theorem i_ruleValid_2_c {c1 : Rule} {row : List Int} {v0 : Value} {g_c1 : Nat} {v1_1 : Value} {v1_2 : Value} {v1_4 : Value} {H : FH} {w : World} (hst : Star H w []) (h0 : (RP.slice 3 RP.int).rel H [v0] row) (hat_g_c1 : AtH H g_c1 0 [.int .i64 c1.kind, v1_1, v1_2, .int .i64 c1.bound, v1_4]) (h1_1 : (RP.slice 3 RP.int).rel H [v1_1] c1.vars) (h1_2 : (RP.slice 3 RP.int).rel H [v1_2] c1.coefs) (h1_4 : (RP.slice 22 (RP.slice 3 RP.int)).rel H [v1_4] c1.rows) {r : Bool} (hF : i_ruleValid_2 c1 row = some r) :
    C Try.prog 88 #[v0, .pointer (some ⟨g_c1, 0, none⟩)] w fun v w' => v = .bool r ∧ Star H w' [] := by
  unfold i_ruleValid_2 at hF
  refine C_enter Try.func88 rfl Try.ntmps88 rfl ?_
  refine W_seq ?_
  refine W_region ?_
  refine L_as (v := .bool false) rfl rfl ?_
  refine L_nil ?_
  refine W_seq ?_
  obtain ⟨b8, hb8, hF⟩ := bind_some hF
  obtain ⟨R9, hR9⟩ : ∃ R : Fr → World → Prop, R = fun f w_ => f 3 = .bool b8 ∧ Star H w_ ([]) := ⟨_, rfl⟩
  refine W_join R9 ?_ ?_
  ·
    refine W_region ?_
    refine L_mv (v := v0) rfl rfl ?_
    refine L_len (v := v0) (n := List.length row) rfl Try.underlying22 rfl (slice_len h0) ?_
    refine L_fa (o' := 1) rfl fa_68_1 rfl rfl ?_
    refine L_ld (v := v1_1) rfl Try.isAgg22 rfl (At.cell0 (AtH.at hat_g_c1 hst.sub) (j := 1) rfl) ?_
    refine L_len (v := v1_1) (n := List.length c1.vars) rfl Try.underlying22 rfl (slice_len h1_1) ?_
    refine L_neq (m := (row.length : Int)) (n := (c1.vars.length : Int)) rfl rfl rfl ?_
    refine L_mv (v := .bool ((row.length : Int) != (c1.vars.length : Int))) rfl rfl ?_
    refine L_split (d := 10) (b := ((row.length : Int) != (c1.vars.length : Int))) rfl (fun hc10 => ?_) (fun hc10 => ?_)
    ·
      rw [ite_t hc10] at hb8
      refine L_pass rfl ?_
      refine L_pass rfl ?_
      refine L_pick (v := .bool b8) rfl rfl (congrArg Value.bool (so hb8)) ?_
      refine L_as (v := .bool b8) rfl rfl ?_
      refine L_nil ?_
      show R9 _ _
      rw [hR9]
      exact ⟨rfl, hst⟩
    ·
      rw [ite_f hc10] at hb8
      obtain ⟨x6, hx6, hb8⟩ := bind_some hb8
      refine L_mv (v := v0) rfl rfl ?_
      obtain ⟨Hb11, hle12, hsb13, hfz14, hbk15⟩ := Star.borrow hst
      have hf16 : Fun1 Try.prog RP.int false Value.bool i_ruleValid_2_1 (.func (.func 89) #[] #[]) Hb11 := by
        refine ⟨_, _, rfl, Try.call89, fun H_ w_ hE_ hs_ cs_ x_ y_ args_ hr_ hy_ ha_ => ?_⟩
        obtain rfl : cs_ = [_] := hr_
        obtain rfl := args_of (b := #[.int .i64 x_]) ha_
        exact i_ruleValid_2_1_c (n_ := x_) hs_  hy_
      refine L_call (args := #[v0, .func (.func 89) #[] #[]]) rfl Try.call85 (ops2 rfl rfl) (slices_ContainsFunc_int_c (s := row) (f_ := i_ruleValid_2_1) hsb13 (RP.mono _ h0 hle12) hf16 hx6) ?_
      rintro _ w17 ⟨rfl, hst⟩
      have hst := hbk15 hst closedL_nil
      refine L_pick (v := .bool b8) rfl rfl (congrArg Value.bool (so hb8)) ?_
      refine L_as (v := .bool b8) rfl rfl ?_
      refine L_nil ?_
      show R9 _ _
      rw [hR9]
      exact ⟨rfl, hst⟩
  ·
    intro f w_ hR
    rw [hR9] at hR
    obtain ⟨sf3, hst⟩ := hR
    clear hR9
    refine W_ret ?_
    refine retG1 (v1 := .bool b8) Try.results88 sf3 ?_
    obtain rfl := so hF
    exact ⟨rfl, hst⟩

end Go.Proofs.Yteojddfaiomfmaa

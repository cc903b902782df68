/- Part of a proof by program: W2. -/
import Derived.Test.YteojddfaiomfmaaD1
import Derived.Test.YteojddfaiomfmaaW1
namespace Go.Proofs.Yteojddfaiomfmaa
open Go Go.E Go.L Go.RowKit
set_option linter.unusedVariables false
set_option linter.unusedSimpArgs false
set_option maxRecDepth 100000

theorem i_ruleValid_c {r_ : Rule} {cells : Int} {v0_1 : Value} {v0_2 : Value} {v0_4 : Value} {H : FH} {w : World} (hst : Star H w []) (h0_1 : (RP.slice 3 RP.int).rel H [v0_1] r_.vars) (h0_2 : (RP.slice 3 RP.int).rel H [v0_2] r_.coefs) (h0_4 : (RP.slice 22 (RP.slice 3 RP.int)).rel H [v0_4] r_.rows) {r : Bool} (hF : i_ruleValid r_ cells = some r) :
    C Try.prog 70 #[.agg #[.int .i64 r_.kind, v0_1, v0_2, .int .i64 r_.bound, v0_4], .int .i64 cells] w fun v w' => v = .bool r ∧ Star H w' [] := by
  unfold i_ruleValid at hF
  refine C_enter Try.func70 rfl Try.ntmps70 rfl ?_
  refine W_seq ?_
  refine W_region ?_
  refine L_box (v := .agg #[.int .i64 r_.kind, v0_1, v0_2, .int .i64 r_.bound, v0_4]) (cs := #[.int .i64 r_.kind, v0_1, v0_2, .int .i64 r_.bound, v0_4]) rfl rfl rfl hst ?_
  intro g3 w4 hst
  refine L_as (v := .bool false) rfl rfl ?_
  refine L_nil ?_
  refine W_seq ?_
  refine W_seq ?_
  refine W_region ?_
  refine L_fa (o' := 1) rfl fa_68_1 rfl rfl ?_
  refine L_ld (v := v0_1) rfl Try.isAgg22 rfl (At.cell0 (Blk.at (Star.blkAt 0 hst rfl)) (j := 1) rfl) ?_
  refine L_len (v := v0_1) (n := List.length r_.vars) rfl Try.underlying22 rfl (slice_len h0_1) ?_
  refine L_mv (v := .int .i64 0) rfl rfl ?_
  refine L_nil ?_
  have hlen6 : List.length r_.vars ≤ 9223372036854775807 := len_le (slice_len h0_1)
  obtain ⟨j6, hL6, hF⟩ := bind_some hF
  obtain ⟨R6, hR6⟩ : ∃ R : Fr → World → Prop, R = fun f w_ => j6 = .nx () ∧ f 2 = .pointer (some ⟨g3, 0, none⟩) ∧ Star H w_ ([box g3 68 #[.int .i64 r_.kind, v0_1, v0_2, .int .i64 r_.bound, v0_4]]) := ⟨_, rfl⟩
  refine W_join R6 ?_ ?_
  ·
    refine W_block ?_
    obtain ⟨I6, hI6⟩ : ∃ I : Nat → Fr → World → Prop, I = fun n f w_ => ∃ i_5 : Nat, ∃ suf6 : List Int, n = suf6.length ∧ List.drop i_5 r_.vars = suf6 ∧ i_5 + suf6.length = r_.vars.length ∧ rangeL (i_ruleValid_b1 r_ cells) suf6 i_5 () = some j6 ∧ f 1 = .int .i64 cells ∧ f 2 = .pointer (some ⟨g3, 0, none⟩) ∧ f 8 = v0_1 ∧ f 9 = .int .i64 (r_.vars.length : Int) ∧ f 10 = .int .i64 (i_5 : Int) ∧ Star H w_ ([box g3 68 #[.int .i64 r_.kind, v0_1, v0_2, .int .i64 r_.bound, v0_4]]) := ⟨_, rfl⟩
    refine W_loop I6 (n := r_.vars.length) ?_ ?_
    · rw [hI6]; exact ⟨0, r_.vars, rfl, rfl, Nat.zero_add _, hL6, rfl, rfl, rfl, rfl, rfl, hst⟩
    ·
      clear hst
      intro n6 f w_ hI
      rw [hI6] at hI
      obtain ⟨i_5, suf6, rfl, hd6, hl6, hL6, sf1, sf2, sf8, sf9, sf10, hst⟩ := hI
      refine W_seq ?_
      refine W_region ?_
      refine L_lss (m := (i_5 : Int)) (n := (r_.vars.length : Int)) rfl sf10 sf9 ?_
      refine L_nil ?_
      refine W_seq ?_
      refine W_cond (b := decide ((i_5 : Int) < (r_.vars.length : Int))) rfl (fun hc7 => ?_) (fun hc7 => ?_)
      ·
        have hlt6 := of_decide_eq_true hc7
        cases suf6 with
        | nil => exact absurd hlt6 (by simp at hl6; omega)
        | cons x_6 rest6 =>
          obtain ⟨o6, hB6, hL6⟩ := range_cons hL6
          rw [i_ruleValid_b1] at hB6
          have hix6 := drop_idx hd6
          refine W_skip ?_
          refine W_seq ?_
          refine W_block ?_
          refine W_seq ?_
          refine W_region ?_
          refine L_mv (v := .int .i64 (i_5 : Int)) rfl sf10 ?_
          refine L_ix (r := RP.int) rfl Try.underlying22 Try.sizeOf3 sf8 h0_1 sf10 hix6 ?_
          intro g12 o13 cs_g12 hrk_hat14 hat14
          obtain rfl : _ = [_] := hrk_hat14
          refine L_ld (v := .int .i64 x_6) rfl Try.isAgg3 rfl (At.cell (AtH.at hat14 hst.sub) (j := 0) rfl) ?_
          refine L_as (v := .int .i64 (i_5 : Int)) rfl rfl ?_
          refine L_as (v := .int .i64 x_6) rfl rfl ?_
          refine L_nil ?_
          refine W_seq ?_
          obtain ⟨x21, hx21, hB6⟩ := bind_some hB6
          obtain ⟨b33, hb33, hB6⟩ := bind_some hB6
          obtain ⟨R34, hR34⟩ : ∃ R : Fr → World → Prop, R = fun f w_ => f 1 = .int .i64 cells ∧ f 2 = .pointer (some ⟨g3, 0, none⟩) ∧ f 8 = v0_1 ∧ f 9 = .int .i64 (r_.vars.length : Int) ∧ f 10 = .int .i64 (i_5 : Int) ∧ f 27 = .bool b33 ∧ Star H w_ ([box g3 68 #[.int .i64 r_.kind, v0_1, v0_2, .int .i64 r_.bound, v0_4]]) := ⟨_, rfl⟩
          refine W_join R34 ?_ ?_
          ·
            refine W_region ?_
            refine L_mv (v := .int .i64 x_6) rfl rfl ?_
            refine L_mv (v := .int .i64 cells) rfl sf1 ?_
            refine L_sub (m := cells) (n := 1) rfl rfl rfl ?_
            obtain ⟨Hb35, hle36, hsb37, hfz38, hbk39⟩ := Star.borrow hst
            refine L_call (args := #[.int .i64 x_6, .int .i64 0, .int .i64 (i64 (cells - 1))]) rfl Try.call48 (ops3 rfl rfl rfl) (i_within_c (n_ := x_6) (low := 0) (high := i64 (cells - 1)) hsb37 hx21) ?_
            rintro _ w40 ⟨rfl, hst⟩
            have hst := hbk39 hst closedL_nil
            refine L_not_ (b := x21) rfl rfl ?_
            refine L_mv (v := .bool (!x21)) rfl rfl ?_
            refine L_split (d := 20) (b := (!x21)) rfl (fun hc41 => ?_) (fun hc41 => ?_)
            ·
              rw [ite_t hc41] at hb33
              refine L_pass rfl ?_
              refine L_pass rfl ?_
              refine L_pass rfl ?_
              refine L_pass rfl ?_
              refine L_pass rfl ?_
              refine L_pass rfl ?_
              refine L_pick (v := .bool b33) rfl rfl (congrArg Value.bool (so hb33)) ?_
              refine L_nil ?_
              show R34 _ _
              rw [hR34]
              exact ⟨sf1, sf2, sf8, sf9, sf10, rfl, hst⟩
            ·
              rw [ite_f hc41] at hb33
              obtain ⟨x23, hx23, hb33⟩ := bind_some hb33
              obtain ⟨x31, hx31, hb33⟩ := bind_some hb33
              refine L_fa (o' := 1) rfl fa_68_1 sf2 rfl ?_
              refine L_ld (v := v0_1) rfl Try.isAgg22 rfl (At.cell0 (Blk.at (Star.blkAt 0 hst rfl)) (j := 1) rfl) ?_
              refine L_mv (v := .int .i64 (i_5 : Int)) rfl rfl ?_
              refine L_sl (a := 0) (b := (i_5 : Int)) rfl et_22 rfl h0_1 rfl rfl hx23 ?_
              intro v42 hs43
              refine L_mv (v := .int .i64 x_6) rfl rfl ?_
              obtain ⟨Hb44, hle45, hsb46, hfz47, hbk48⟩ := Star.borrow hst
              refine L_call (args := #[v42, .int .i64 x_6]) rfl Try.call84 (ops2 rfl rfl) (slices_Contains_int_c (s := x23) (v_ := x_6) hsb46 (RP.mono _ hs43 hle45) hx31) ?_
              rintro _ w49 ⟨rfl, hst⟩
              have hst := hbk48 hst closedL_nil
              refine L_pick (v := .bool b33) rfl rfl (congrArg Value.bool (so hb33)) ?_
              refine L_nil ?_
              show R34 _ _
              rw [hR34]
              exact ⟨sf1, sf2, sf8, sf9, sf10, rfl, hst⟩
          ·
            intro f w_ hR
            rw [hR34] at hR
            obtain ⟨sf1, sf2, sf8, sf9, sf10, sf27, hst⟩ := hR
            clear hR34
            refine W_cond (b := b33) sf27 (fun hc50 => ?_) (fun hc50 => ?_)
            ·
              have hB6 := (ite_t hc50).symm.trans hB6
              refine W_seq ?_
              refine W_region ?_
              refine L_as (v := .bool false) rfl rfl ?_
              refine L_nil ?_
              refine W_ret ?_
              refine retG1 (v1 := .bool false) Try.results70 rfl ?_
              obtain rfl := so hB6
              obtain rfl := so hL6
              obtain rfl := so hF
              exact ⟨rfl, (Star.keepN 0 hst)⟩
            ·
              have hB6 := (ite_f hc50).symm.trans hB6
              refine W_skip ?_
              refine W_region ?_
              refine L_add (m := (i_5 : Int)) (n := 1) rfl sf10 rfl ?_
              refine L_mv (v := .int .i64 (i64 ((i_5 : Int) + 1))) rfl rfl ?_
              refine L_nil ?_
              obtain rfl := so hB6
              show ∃ m, m < _ ∧ I6 m _ _
              refine ⟨rest6.length, by simp, ?_⟩
              rw [hI6]
              exact ⟨i_5 + 1, rest6, rfl, drop_next hd6, by simp at hl6; omega, hL6, sf1, sf2, sf8, sf9, (Eq.trans rfl (congrArg (Value.int .i64) (i64_succ (n := r_.vars.length) (by simp at hl6; omega) hlen6))), hst⟩
      ·
        cases suf6 with
        | cons _ _ => exact absurd (of_decide_eq_false hc7) (by simp at hl6; omega)
        | nil =>
          obtain rfl := range_nil hL6
          refine W_exit ?_
          show R6 _ _
          rw [hR6]
          exact ⟨rfl, sf2, hst⟩
  ·
    clear hst
    intro f w_ hR
    rw [hR6] at hR
    obtain ⟨rfl, sf2, hst⟩ := hR
    clear hR6
    refine W_seq ?_
    refine W_seq ?_
    obtain ⟨R51, hR51⟩ : ∃ R : Fr → World → Prop, R = fun f w_ => f 2 = .pointer (some ⟨g3, 0, none⟩) ∧ f 59 = .bool ((((r_.vars.length : Int) == 0) || ((r_.kind != 1) && ((decide ((r_.coefs.length : Int) > 0)) || (r_.bound != 0)))) || ((r_.kind != 3) && (decide ((r_.rows.length : Int) > 0)))) ∧ Star H w_ ([box g3 68 #[.int .i64 r_.kind, v0_1, v0_2, .int .i64 r_.bound, v0_4]]) := ⟨_, rfl⟩
    refine W_join R51 ?_ ?_
    ·
      refine W_region ?_
      refine L_fa (o' := 1) rfl fa_68_1 sf2 rfl ?_
      refine L_ld (v := v0_1) rfl Try.isAgg22 rfl (At.cell0 (Blk.at (Star.blkAt 0 hst rfl)) (j := 1) rfl) ?_
      refine L_len (v := v0_1) (n := List.length r_.vars) rfl Try.underlying22 rfl (slice_len h0_1) ?_
      refine L_eql (m := (r_.vars.length : Int)) (n := 0) rfl rfl rfl ?_
      refine L_mv (v := .bool ((r_.vars.length : Int) == 0)) rfl rfl ?_
      refine L_split (d := 33) (b := ((r_.vars.length : Int) == 0)) rfl (fun hc52 => ?_) (fun hc52 => ?_)
      ·
        refine L_pass rfl ?_
        refine L_pass rfl ?_
        refine L_pass rfl ?_
        refine L_pass rfl ?_
        refine L_pass rfl ?_
        refine L_pass rfl ?_
        refine L_pass rfl ?_
        refine L_pass rfl ?_
        refine L_pass rfl ?_
        refine L_pass rfl ?_
        refine L_pass rfl ?_
        refine L_pass rfl ?_
        refine L_pass rfl ?_
        refine L_pass rfl ?_
        refine L_pick (v := .bool (((r_.vars.length : Int) == 0) || ((r_.kind != 1) && ((decide ((r_.coefs.length : Int) > 0)) || (r_.bound != 0))))) rfl rfl (or_t hc52) ?_
        refine L_mv (v := .bool (((r_.vars.length : Int) == 0) || ((r_.kind != 1) && ((decide ((r_.coefs.length : Int) > 0)) || (r_.bound != 0))))) rfl rfl ?_
        refine L_split (d := 49) (b := (((r_.vars.length : Int) == 0) || ((r_.kind != 1) && ((decide ((r_.coefs.length : Int) > 0)) || (r_.bound != 0))))) rfl (fun hc53 => ?_) (fun hc53 => ?_)
        ·
          refine L_pass rfl ?_
          refine L_pass rfl ?_
          refine L_pass rfl ?_
          refine L_pass rfl ?_
          refine L_pass rfl ?_
          refine L_pass rfl ?_
          refine L_pass rfl ?_
          refine L_pass rfl ?_
          refine L_pass rfl ?_
          refine L_pick (v := .bool ((((r_.vars.length : Int) == 0) || ((r_.kind != 1) && ((decide ((r_.coefs.length : Int) > 0)) || (r_.bound != 0)))) || ((r_.kind != 3) && (decide ((r_.rows.length : Int) > 0))))) rfl rfl (or_t hc53) ?_
          refine L_nil ?_
          show R51 _ _
          rw [hR51]
          exact ⟨sf2, rfl, hst⟩
        ·
          refine L_fa (o' := 0) rfl fa_68_0 sf2 rfl ?_
          refine L_ld (v := .int .i64 r_.kind) rfl Try.isAgg3 rfl (At.cell0 (Blk.at (Star.blkAt 0 hst rfl)) (j := 0) rfl) ?_
          refine L_neq (m := r_.kind) (n := 3) rfl rfl rfl ?_
          refine L_mv (v := .bool (r_.kind != 3)) rfl rfl ?_
          refine L_split (d := 53) (b := (r_.kind != 3)) rfl (fun hc54 => ?_) (fun hc54 => ?_)
          ·
            refine L_fa (o' := 4) rfl fa_68_4 sf2 rfl ?_
            refine L_ld (v := v0_4) rfl Try.isAgg66 rfl (At.cell0 (Blk.at (Star.blkAt 0 hst rfl)) (j := 4) rfl) ?_
            refine L_len (v := v0_4) (n := List.length r_.rows) rfl Try.underlying66 rfl (slice_len h0_4) ?_
            refine L_gtr (m := (r_.rows.length : Int)) (n := 0) rfl rfl rfl ?_
            refine L_pick (v := .bool ((r_.kind != 3) && (decide ((r_.rows.length : Int) > 0)))) rfl rfl (and_t hc54 rfl) ?_
            refine L_pick (v := .bool ((((r_.vars.length : Int) == 0) || ((r_.kind != 1) && ((decide ((r_.coefs.length : Int) > 0)) || (r_.bound != 0)))) || ((r_.kind != 3) && (decide ((r_.rows.length : Int) > 0))))) rfl rfl (or_f hc53 rfl) ?_
            refine L_nil ?_
            show R51 _ _
            rw [hR51]
            exact ⟨sf2, rfl, hst⟩
          ·
            refine L_pass rfl ?_
            refine L_pass rfl ?_
            refine L_pass rfl ?_
            refine L_pass rfl ?_
            refine L_pick (v := .bool ((r_.kind != 3) && (decide ((r_.rows.length : Int) > 0)))) rfl rfl (and_f hc54) ?_
            refine L_pick (v := .bool ((((r_.vars.length : Int) == 0) || ((r_.kind != 1) && ((decide ((r_.coefs.length : Int) > 0)) || (r_.bound != 0)))) || ((r_.kind != 3) && (decide ((r_.rows.length : Int) > 0))))) rfl rfl (or_f hc53 rfl) ?_
            refine L_nil ?_
            show R51 _ _
            rw [hR51]
            exact ⟨sf2, rfl, hst⟩
      ·
        refine L_fa (o' := 0) rfl fa_68_0 sf2 rfl ?_
        refine L_ld (v := .int .i64 r_.kind) rfl Try.isAgg3 rfl (At.cell0 (Blk.at (Star.blkAt 0 hst rfl)) (j := 0) rfl) ?_
        refine L_neq (m := r_.kind) (n := 1) rfl rfl rfl ?_
        refine L_mv (v := .bool (r_.kind != 1)) rfl rfl ?_
        refine L_split (d := 37) (b := (r_.kind != 1)) rfl (fun hc55 => ?_) (fun hc55 => ?_)
        ·
          refine L_fa (o' := 2) rfl fa_68_2 sf2 rfl ?_
          refine L_ld (v := v0_2) rfl Try.isAgg22 rfl (At.cell0 (Blk.at (Star.blkAt 0 hst rfl)) (j := 2) rfl) ?_
          refine L_len (v := v0_2) (n := List.length r_.coefs) rfl Try.underlying22 rfl (slice_len h0_2) ?_
          refine L_gtr (m := (r_.coefs.length : Int)) (n := 0) rfl rfl rfl ?_
          refine L_mv (v := .bool (decide ((r_.coefs.length : Int) > 0))) rfl rfl ?_
          refine L_split (d := 42) (b := decide ((r_.coefs.length : Int) > 0)) rfl (fun hc56 => ?_) (fun hc56 => ?_)
          ·
            refine L_pass rfl ?_
            refine L_pass rfl ?_
            refine L_pass rfl ?_
            refine L_pick (v := .bool ((decide ((r_.coefs.length : Int) > 0)) || (r_.bound != 0))) rfl rfl (or_t hc56) ?_
            refine L_pick (v := .bool ((r_.kind != 1) && ((decide ((r_.coefs.length : Int) > 0)) || (r_.bound != 0)))) rfl rfl (and_t hc55 rfl) ?_
            refine L_pick (v := .bool (((r_.vars.length : Int) == 0) || ((r_.kind != 1) && ((decide ((r_.coefs.length : Int) > 0)) || (r_.bound != 0))))) rfl rfl (or_f hc52 rfl) ?_
            refine L_mv (v := .bool (((r_.vars.length : Int) == 0) || ((r_.kind != 1) && ((decide ((r_.coefs.length : Int) > 0)) || (r_.bound != 0))))) rfl rfl ?_
            refine L_split (d := 49) (b := (((r_.vars.length : Int) == 0) || ((r_.kind != 1) && ((decide ((r_.coefs.length : Int) > 0)) || (r_.bound != 0))))) rfl (fun hc57 => ?_) (fun hc57 => ?_)
            ·
              refine L_pass rfl ?_
              refine L_pass rfl ?_
              refine L_pass rfl ?_
              refine L_pass rfl ?_
              refine L_pass rfl ?_
              refine L_pass rfl ?_
              refine L_pass rfl ?_
              refine L_pass rfl ?_
              refine L_pass rfl ?_
              refine L_pick (v := .bool ((((r_.vars.length : Int) == 0) || ((r_.kind != 1) && ((decide ((r_.coefs.length : Int) > 0)) || (r_.bound != 0)))) || ((r_.kind != 3) && (decide ((r_.rows.length : Int) > 0))))) rfl rfl (or_t hc57) ?_
              refine L_nil ?_
              show R51 _ _
              rw [hR51]
              exact ⟨sf2, rfl, hst⟩
            ·
              refine L_fa (o' := 0) rfl fa_68_0 sf2 rfl ?_
              refine L_ld (v := .int .i64 r_.kind) rfl Try.isAgg3 rfl (At.cell0 (Blk.at (Star.blkAt 0 hst rfl)) (j := 0) rfl) ?_
              refine L_neq (m := r_.kind) (n := 3) rfl rfl rfl ?_
              refine L_mv (v := .bool (r_.kind != 3)) rfl rfl ?_
              refine L_split (d := 53) (b := (r_.kind != 3)) rfl (fun hc58 => ?_) (fun hc58 => ?_)
              ·
                refine L_fa (o' := 4) rfl fa_68_4 sf2 rfl ?_
                refine L_ld (v := v0_4) rfl Try.isAgg66 rfl (At.cell0 (Blk.at (Star.blkAt 0 hst rfl)) (j := 4) rfl) ?_
                refine L_len (v := v0_4) (n := List.length r_.rows) rfl Try.underlying66 rfl (slice_len h0_4) ?_
                refine L_gtr (m := (r_.rows.length : Int)) (n := 0) rfl rfl rfl ?_
                refine L_pick (v := .bool ((r_.kind != 3) && (decide ((r_.rows.length : Int) > 0)))) rfl rfl (and_t hc58 rfl) ?_
                refine L_pick (v := .bool ((((r_.vars.length : Int) == 0) || ((r_.kind != 1) && ((decide ((r_.coefs.length : Int) > 0)) || (r_.bound != 0)))) || ((r_.kind != 3) && (decide ((r_.rows.length : Int) > 0))))) rfl rfl (or_f hc57 rfl) ?_
                refine L_nil ?_
                show R51 _ _
                rw [hR51]
                exact ⟨sf2, rfl, hst⟩
              ·
                refine L_pass rfl ?_
                refine L_pass rfl ?_
                refine L_pass rfl ?_
                refine L_pass rfl ?_
                refine L_pick (v := .bool ((r_.kind != 3) && (decide ((r_.rows.length : Int) > 0)))) rfl rfl (and_f hc58) ?_
                refine L_pick (v := .bool ((((r_.vars.length : Int) == 0) || ((r_.kind != 1) && ((decide ((r_.coefs.length : Int) > 0)) || (r_.bound != 0)))) || ((r_.kind != 3) && (decide ((r_.rows.length : Int) > 0))))) rfl rfl (or_f hc57 rfl) ?_
                refine L_nil ?_
                show R51 _ _
                rw [hR51]
                exact ⟨sf2, rfl, hst⟩
          ·
            refine L_fa (o' := 3) rfl fa_68_3 sf2 rfl ?_
            refine L_ld (v := .int .i64 r_.bound) rfl Try.isAgg3 rfl (At.cell0 (Blk.at (Star.blkAt 0 hst rfl)) (j := 3) rfl) ?_
            refine L_neq (m := r_.bound) (n := 0) rfl rfl rfl ?_
            refine L_pick (v := .bool ((decide ((r_.coefs.length : Int) > 0)) || (r_.bound != 0))) rfl rfl (or_f hc56 rfl) ?_
            refine L_pick (v := .bool ((r_.kind != 1) && ((decide ((r_.coefs.length : Int) > 0)) || (r_.bound != 0)))) rfl rfl (and_t hc55 rfl) ?_
            refine L_pick (v := .bool (((r_.vars.length : Int) == 0) || ((r_.kind != 1) && ((decide ((r_.coefs.length : Int) > 0)) || (r_.bound != 0))))) rfl rfl (or_f hc52 rfl) ?_
            refine L_mv (v := .bool (((r_.vars.length : Int) == 0) || ((r_.kind != 1) && ((decide ((r_.coefs.length : Int) > 0)) || (r_.bound != 0))))) rfl rfl ?_
            refine L_split (d := 49) (b := (((r_.vars.length : Int) == 0) || ((r_.kind != 1) && ((decide ((r_.coefs.length : Int) > 0)) || (r_.bound != 0))))) rfl (fun hc59 => ?_) (fun hc59 => ?_)
            ·
              refine L_pass rfl ?_
              refine L_pass rfl ?_
              refine L_pass rfl ?_
              refine L_pass rfl ?_
              refine L_pass rfl ?_
              refine L_pass rfl ?_
              refine L_pass rfl ?_
              refine L_pass rfl ?_
              refine L_pass rfl ?_
              refine L_pick (v := .bool ((((r_.vars.length : Int) == 0) || ((r_.kind != 1) && ((decide ((r_.coefs.length : Int) > 0)) || (r_.bound != 0)))) || ((r_.kind != 3) && (decide ((r_.rows.length : Int) > 0))))) rfl rfl (or_t hc59) ?_
              refine L_nil ?_
              show R51 _ _
              rw [hR51]
              exact ⟨sf2, rfl, hst⟩
            ·
              refine L_fa (o' := 0) rfl fa_68_0 sf2 rfl ?_
              refine L_ld (v := .int .i64 r_.kind) rfl Try.isAgg3 rfl (At.cell0 (Blk.at (Star.blkAt 0 hst rfl)) (j := 0) rfl) ?_
              refine L_neq (m := r_.kind) (n := 3) rfl rfl rfl ?_
              refine L_mv (v := .bool (r_.kind != 3)) rfl rfl ?_
              refine L_split (d := 53) (b := (r_.kind != 3)) rfl (fun hc60 => ?_) (fun hc60 => ?_)
              ·
                refine L_fa (o' := 4) rfl fa_68_4 sf2 rfl ?_
                refine L_ld (v := v0_4) rfl Try.isAgg66 rfl (At.cell0 (Blk.at (Star.blkAt 0 hst rfl)) (j := 4) rfl) ?_
                refine L_len (v := v0_4) (n := List.length r_.rows) rfl Try.underlying66 rfl (slice_len h0_4) ?_
                refine L_gtr (m := (r_.rows.length : Int)) (n := 0) rfl rfl rfl ?_
                refine L_pick (v := .bool ((r_.kind != 3) && (decide ((r_.rows.length : Int) > 0)))) rfl rfl (and_t hc60 rfl) ?_
                refine L_pick (v := .bool ((((r_.vars.length : Int) == 0) || ((r_.kind != 1) && ((decide ((r_.coefs.length : Int) > 0)) || (r_.bound != 0)))) || ((r_.kind != 3) && (decide ((r_.rows.length : Int) > 0))))) rfl rfl (or_f hc59 rfl) ?_
                refine L_nil ?_
                show R51 _ _
                rw [hR51]
                exact ⟨sf2, rfl, hst⟩
              ·
                refine L_pass rfl ?_
                refine L_pass rfl ?_
                refine L_pass rfl ?_
                refine L_pass rfl ?_
                refine L_pick (v := .bool ((r_.kind != 3) && (decide ((r_.rows.length : Int) > 0)))) rfl rfl (and_f hc60) ?_
                refine L_pick (v := .bool ((((r_.vars.length : Int) == 0) || ((r_.kind != 1) && ((decide ((r_.coefs.length : Int) > 0)) || (r_.bound != 0)))) || ((r_.kind != 3) && (decide ((r_.rows.length : Int) > 0))))) rfl rfl (or_f hc59 rfl) ?_
                refine L_nil ?_
                show R51 _ _
                rw [hR51]
                exact ⟨sf2, rfl, hst⟩
        ·
          refine L_pass rfl ?_
          refine L_pass rfl ?_
          refine L_pass rfl ?_
          refine L_pass rfl ?_
          refine L_pass rfl ?_
          refine L_pass rfl ?_
          refine L_pass rfl ?_
          refine L_pass rfl ?_
          refine L_pass rfl ?_
          refine L_pick (v := .bool ((r_.kind != 1) && ((decide ((r_.coefs.length : Int) > 0)) || (r_.bound != 0)))) rfl rfl (and_f hc55) ?_
          refine L_pick (v := .bool (((r_.vars.length : Int) == 0) || ((r_.kind != 1) && ((decide ((r_.coefs.length : Int) > 0)) || (r_.bound != 0))))) rfl rfl (or_f hc52 rfl) ?_
          refine L_mv (v := .bool (((r_.vars.length : Int) == 0) || ((r_.kind != 1) && ((decide ((r_.coefs.length : Int) > 0)) || (r_.bound != 0))))) rfl rfl ?_
          refine L_split (d := 49) (b := (((r_.vars.length : Int) == 0) || ((r_.kind != 1) && ((decide ((r_.coefs.length : Int) > 0)) || (r_.bound != 0))))) rfl (fun hc61 => ?_) (fun hc61 => ?_)
          ·
            refine L_pass rfl ?_
            refine L_pass rfl ?_
            refine L_pass rfl ?_
            refine L_pass rfl ?_
            refine L_pass rfl ?_
            refine L_pass rfl ?_
            refine L_pass rfl ?_
            refine L_pass rfl ?_
            refine L_pass rfl ?_
            refine L_pick (v := .bool ((((r_.vars.length : Int) == 0) || ((r_.kind != 1) && ((decide ((r_.coefs.length : Int) > 0)) || (r_.bound != 0)))) || ((r_.kind != 3) && (decide ((r_.rows.length : Int) > 0))))) rfl rfl (or_t hc61) ?_
            refine L_nil ?_
            show R51 _ _
            rw [hR51]
            exact ⟨sf2, rfl, hst⟩
          ·
            refine L_fa (o' := 0) rfl fa_68_0 sf2 rfl ?_
            refine L_ld (v := .int .i64 r_.kind) rfl Try.isAgg3 rfl (At.cell0 (Blk.at (Star.blkAt 0 hst rfl)) (j := 0) rfl) ?_
            refine L_neq (m := r_.kind) (n := 3) rfl rfl rfl ?_
            refine L_mv (v := .bool (r_.kind != 3)) rfl rfl ?_
            refine L_split (d := 53) (b := (r_.kind != 3)) rfl (fun hc62 => ?_) (fun hc62 => ?_)
            ·
              refine L_fa (o' := 4) rfl fa_68_4 sf2 rfl ?_
              refine L_ld (v := v0_4) rfl Try.isAgg66 rfl (At.cell0 (Blk.at (Star.blkAt 0 hst rfl)) (j := 4) rfl) ?_
              refine L_len (v := v0_4) (n := List.length r_.rows) rfl Try.underlying66 rfl (slice_len h0_4) ?_
              refine L_gtr (m := (r_.rows.length : Int)) (n := 0) rfl rfl rfl ?_
              refine L_pick (v := .bool ((r_.kind != 3) && (decide ((r_.rows.length : Int) > 0)))) rfl rfl (and_t hc62 rfl) ?_
              refine L_pick (v := .bool ((((r_.vars.length : Int) == 0) || ((r_.kind != 1) && ((decide ((r_.coefs.length : Int) > 0)) || (r_.bound != 0)))) || ((r_.kind != 3) && (decide ((r_.rows.length : Int) > 0))))) rfl rfl (or_f hc61 rfl) ?_
              refine L_nil ?_
              show R51 _ _
              rw [hR51]
              exact ⟨sf2, rfl, hst⟩
            ·
              refine L_pass rfl ?_
              refine L_pass rfl ?_
              refine L_pass rfl ?_
              refine L_pass rfl ?_
              refine L_pick (v := .bool ((r_.kind != 3) && (decide ((r_.rows.length : Int) > 0)))) rfl rfl (and_f hc62) ?_
              refine L_pick (v := .bool ((((r_.vars.length : Int) == 0) || ((r_.kind != 1) && ((decide ((r_.coefs.length : Int) > 0)) || (r_.bound != 0)))) || ((r_.kind != 3) && (decide ((r_.rows.length : Int) > 0))))) rfl rfl (or_f hc61 rfl) ?_
              refine L_nil ?_
              show R51 _ _
              rw [hR51]
              exact ⟨sf2, rfl, hst⟩
    ·
      intro f w_ hR
      rw [hR51] at hR
      obtain ⟨sf2, sf59, hst⟩ := hR
      clear hR51
      refine W_cond (b := ((((r_.vars.length : Int) == 0) || ((r_.kind != 1) && ((decide ((r_.coefs.length : Int) > 0)) || (r_.bound != 0)))) || ((r_.kind != 3) && (decide ((r_.rows.length : Int) > 0))))) sf59 (fun hc63 => ?_) (fun hc63 => ?_)
      ·
        have hF := (ite_t hc63).symm.trans hF
        refine W_seq ?_
        refine W_region ?_
        refine L_as (v := .bool false) rfl rfl ?_
        refine L_nil ?_
        refine W_ret ?_
        refine retG1 (v1 := .bool false) Try.results70 rfl ?_
        obtain rfl := so hF
        exact ⟨rfl, (Star.keepN 0 hst)⟩
      ·
        have hF := (ite_f hc63).symm.trans hF
        refine W_skip ?_
        refine W_seq ?_
        refine W_seq ?_
        refine W_region ?_
        refine L_fa (o' := 0) rfl fa_68_0 sf2 rfl ?_
        refine L_ld (v := .int .i64 r_.kind) rfl Try.isAgg3 rfl (At.cell0 (Blk.at (Star.blkAt 0 hst rfl)) (j := 0) rfl) ?_
        refine L_nil ?_
        refine W_block ?_
        refine W_seq ?_
        refine W_region ?_
        refine L_eql (m := r_.kind) (n := 1) rfl rfl rfl ?_
        refine L_as (v := .bool (r_.kind == 1)) rfl rfl ?_
        refine L_nil ?_
        refine W_cond (b := (r_.kind == 1)) rfl (fun hc64 => ?_) (fun hc64 => ?_)
        ·
          have hF := (ite_t hc64).symm.trans hF
          refine W_seq ?_
          obtain ⟨b72, hb72, hF⟩ := bind_some hF
          obtain ⟨b80, hb80, hF⟩ := bind_some hF
          obtain ⟨R81, hR81⟩ : ∃ R : Fr → World → Prop, R = fun f w_ => f 4 = .bool b80 ∧ Star H w_ ([]) := ⟨_, rfl⟩
          refine W_join R81 ?_ ?_
          ·
            refine W_region ?_
            refine L_fa (o' := 2) rfl fa_68_2 sf2 rfl ?_
            refine L_ld (v := v0_2) rfl Try.isAgg22 rfl (At.cell0 (Blk.at (Star.blkAt 0 hst rfl)) (j := 2) rfl) ?_
            refine L_len (v := v0_2) (n := List.length r_.coefs) rfl Try.underlying22 rfl (slice_len h0_2) ?_
            refine L_fa (o' := 1) rfl fa_68_1 sf2 rfl ?_
            refine L_ld (v := v0_1) rfl Try.isAgg22 rfl (At.cell0 (Blk.at (Star.blkAt 0 hst rfl)) (j := 1) rfl) ?_
            refine L_len (v := v0_1) (n := List.length r_.vars) rfl Try.underlying22 rfl (slice_len h0_1) ?_
            refine L_eql (m := (r_.coefs.length : Int)) (n := (r_.vars.length : Int)) rfl rfl rfl ?_
            refine L_mv (v := .bool ((r_.coefs.length : Int) == (r_.vars.length : Int))) rfl rfl ?_
            refine L_split (d := 71) (b := ((r_.coefs.length : Int) == (r_.vars.length : Int))) rfl (fun hc82 => ?_) (fun hc82 => ?_)
            ·
              rw [ite_t hc82] at hb72
              obtain ⟨x70, hx70, hb72⟩ := bind_some hb72
              refine L_fa (o' := 3) rfl fa_68_3 sf2 rfl ?_
              refine L_ld (v := .int .i64 r_.bound) rfl Try.isAgg3 rfl (At.cell0 (Blk.at (Star.blkAt 0 hst rfl)) (j := 3) rfl) ?_
              obtain ⟨Hb83, hle84, hsb85, hfz86, hbk87⟩ := Star.borrow hst
              refine L_call (args := #[.int .i64 r_.bound, .int .i64 (-1000), .int .i64 1000]) rfl Try.call48 (ops3 rfl rfl rfl) (i_within_c (n_ := r_.bound) (low := (-1000)) (high := 1000) hsb85 hx70) ?_
              rintro _ w88 ⟨rfl, hst⟩
              have hst := hbk87 hst closedL_nil
              refine L_pick (v := .bool b72) rfl rfl (congrArg Value.bool (so hb72)) ?_
              refine L_mv (v := .bool b72) rfl rfl ?_
              refine L_split (d := 76) (b := b72) rfl (fun hc89 => ?_) (fun hc89 => ?_)
              ·
                rw [ite_t hc89] at hb80
                obtain ⟨x78, hx78, hb80⟩ := bind_some hb80
                refine L_fa (o' := 2) rfl fa_68_2 sf2 rfl ?_
                refine L_ld (v := v0_2) rfl Try.isAgg22 rfl (At.cell0 (Blk.at (Star.blkAt 0 hst rfl)) (j := 2) rfl) ?_
                obtain ⟨Hb90, hle91, hsb92, hfz93, hbk94⟩ := Star.borrow hst
                have hf95 : Fun1 Try.prog RP.int false Value.bool i_ruleValid_1 (.func (.func 86) #[] #[]) Hb90 := by
                  refine ⟨_, _, rfl, Try.call86, fun H_ w_ hE_ hs_ cs_ x_ y_ args_ hr_ hy_ ha_ => ?_⟩
                  obtain rfl : cs_ = [_] := hr_
                  obtain rfl := args_of (b := #[.int .i64 x_]) ha_
                  exact i_ruleValid_1_c (n_ := x_) hs_  hy_
                refine L_call (args := #[v0_2, .func (.func 86) #[] #[]]) rfl Try.call85 (ops2 rfl rfl) (slices_ContainsFunc_int_c (s := r_.coefs) (f_ := i_ruleValid_1) hsb92 (RP.mono _ h0_2 hle91) hf95 hx78) ?_
                rintro _ w96 ⟨rfl, hst⟩
                have hst := hbk94 hst closedL_nil
                refine L_not_ (b := x78) rfl rfl ?_
                refine L_pick (v := .bool b80) rfl rfl (congrArg Value.bool (so hb80)) ?_
                refine L_as (v := .bool b80) rfl rfl ?_
                refine L_nil ?_
                show R81 _ _
                rw [hR81]
                exact ⟨rfl, (Star.keepN 0 hst)⟩
              ·
                rw [ite_f hc89] at hb80
                refine L_pass rfl ?_
                refine L_pass rfl ?_
                refine L_pass rfl ?_
                refine L_pass rfl ?_
                refine L_pick (v := .bool b80) rfl rfl (congrArg Value.bool (so hb80)) ?_
                refine L_as (v := .bool b80) rfl rfl ?_
                refine L_nil ?_
                show R81 _ _
                rw [hR81]
                exact ⟨rfl, (Star.keepN 0 hst)⟩
            ·
              rw [ite_f hc82] at hb72
              refine L_pass rfl ?_
              refine L_pass rfl ?_
              refine L_pass rfl ?_
              refine L_pick (v := .bool b72) rfl rfl (congrArg Value.bool (so hb72)) ?_
              refine L_mv (v := .bool b72) rfl rfl ?_
              refine L_split (d := 76) (b := b72) rfl (fun hc97 => ?_) (fun hc97 => ?_)
              ·
                rw [ite_t hc97] at hb80
                obtain ⟨x78, hx78, hb80⟩ := bind_some hb80
                refine L_fa (o' := 2) rfl fa_68_2 sf2 rfl ?_
                refine L_ld (v := v0_2) rfl Try.isAgg22 rfl (At.cell0 (Blk.at (Star.blkAt 0 hst rfl)) (j := 2) rfl) ?_
                obtain ⟨Hb98, hle99, hsb100, hfz101, hbk102⟩ := Star.borrow hst
                have hf103 : Fun1 Try.prog RP.int false Value.bool i_ruleValid_1 (.func (.func 86) #[] #[]) Hb98 := by
                  refine ⟨_, _, rfl, Try.call86, fun H_ w_ hE_ hs_ cs_ x_ y_ args_ hr_ hy_ ha_ => ?_⟩
                  obtain rfl : cs_ = [_] := hr_
                  obtain rfl := args_of (b := #[.int .i64 x_]) ha_
                  exact i_ruleValid_1_c (n_ := x_) hs_  hy_
                refine L_call (args := #[v0_2, .func (.func 86) #[] #[]]) rfl Try.call85 (ops2 rfl rfl) (slices_ContainsFunc_int_c (s := r_.coefs) (f_ := i_ruleValid_1) hsb100 (RP.mono _ h0_2 hle99) hf103 hx78) ?_
                rintro _ w104 ⟨rfl, hst⟩
                have hst := hbk102 hst closedL_nil
                refine L_not_ (b := x78) rfl rfl ?_
                refine L_pick (v := .bool b80) rfl rfl (congrArg Value.bool (so hb80)) ?_
                refine L_as (v := .bool b80) rfl rfl ?_
                refine L_nil ?_
                show R81 _ _
                rw [hR81]
                exact ⟨rfl, (Star.keepN 0 hst)⟩
              ·
                rw [ite_f hc97] at hb80
                refine L_pass rfl ?_
                refine L_pass rfl ?_
                refine L_pass rfl ?_
                refine L_pass rfl ?_
                refine L_pick (v := .bool b80) rfl rfl (congrArg Value.bool (so hb80)) ?_
                refine L_as (v := .bool b80) rfl rfl ?_
                refine L_nil ?_
                show R81 _ _
                rw [hR81]
                exact ⟨rfl, (Star.keepN 0 hst)⟩
          ·
            intro f w_ hR
            rw [hR81] at hR
            obtain ⟨sf4, hst⟩ := hR
            clear hR81
            refine W_ret ?_
            refine retG1 (v1 := .bool b80) Try.results70 sf4 ?_
            obtain rfl := so hF
            exact ⟨rfl, hst⟩
        ·
          have hF := (ite_f hc64).symm.trans hF
          refine W_seq ?_
          refine W_region ?_
          refine L_eql (m := r_.kind) (n := 3) rfl rfl rfl ?_
          refine L_as (v := .bool (r_.kind == 3)) rfl rfl ?_
          refine L_nil ?_
          refine W_cond (b := (r_.kind == 3)) rfl (fun hc105 => ?_) (fun hc105 => ?_)
          ·
            have hF := (ite_t hc105).symm.trans hF
            refine W_seq ?_
            obtain ⟨b113, hb113, hF⟩ := bind_some hF
            obtain ⟨R114, hR114⟩ : ∃ R : Fr → World → Prop, R = fun f w_ => f 4 = .bool b113 ∧ Star H w_ ([]) := ⟨_, rfl⟩
            refine W_join R114 ?_ ?_
            ·
              refine W_region ?_
              refine L_fa (o' := 4) rfl fa_68_4 sf2 rfl ?_
              refine L_ld (v := v0_4) rfl Try.isAgg66 rfl (At.cell0 (Blk.at (Star.blkAt 0 hst rfl)) (j := 4) rfl) ?_
              refine L_len (v := v0_4) (n := List.length r_.rows) rfl Try.underlying66 rfl (slice_len h0_4) ?_
              refine L_leq (m := (r_.rows.length : Int)) (n := 8) rfl rfl rfl ?_
              refine L_mv (v := .bool (decide ((r_.rows.length : Int) ≤ 8))) rfl rfl ?_
              refine L_split (d := 88) (b := decide ((r_.rows.length : Int) ≤ 8)) rfl (fun hc115 => ?_) (fun hc115 => ?_)
              ·
                rw [ite_t hc115] at hb113
                obtain ⟨x111, hx111, hb113⟩ := bind_some hb113
                refine L_fa (o' := 4) rfl fa_68_4 sf2 rfl ?_
                refine L_ld (v := v0_4) rfl Try.isAgg66 rfl (At.cell0 (Blk.at (Star.blkAt 0 hst rfl)) (j := 4) rfl) ?_
                refine L_mf rfl (ops1 sf2) ?_
                obtain ⟨Hb116, hle117, hsb118, hfz119, hbk120⟩ := Star.borrow hst
                have hf121 : Fun1 Try.prog (RP.slice 3 RP.int) false Value.bool (i_ruleValid_2 r_) (.func (.func 88) #[] #[.pointer (some ⟨g3, 0, none⟩)]) Hb116 := by
                  refine ⟨_, _, rfl, Try.call88, fun H_ w_ hE_ hs_ cs_ x_ y_ args_ hr_ hy_ ha_ => ?_⟩
                  obtain ⟨p_0, rfl, hp_0⟩ := slice1 hr_
                  obtain rfl := args_of (b := #[p_0, .pointer (some ⟨g3, 0, none⟩)]) ha_
                  exact i_ruleValid_2_c (c1 := r_) (row := x_) hs_ hp_0 (AtH.le (AtH.of (fz_box 0 hfz119 rfl)) hE_) (RP.mono _ (RP.mono _ h0_1 hle117) hE_) (RP.mono _ (RP.mono _ h0_2 hle117) hE_) (RP.mono _ (RP.mono _ h0_4 hle117) hE_) hy_
                refine L_call (args := #[v0_4, .func (.func 88) #[] #[.pointer (some ⟨g3, 0, none⟩)]]) rfl Try.call87 (ops2 rfl rfl) (slices_ContainsFunc_Sint_c (s := r_.rows) (f_ := (i_ruleValid_2 r_)) hsb118 (RP.mono _ h0_4 hle117) hf121 hx111) ?_
                rintro _ w122 ⟨rfl, hst⟩
                have hst := hbk120 hst closedL_nil
                refine L_not_ (b := x111) rfl rfl ?_
                refine L_pick (v := .bool b113) rfl rfl (congrArg Value.bool (so hb113)) ?_
                refine L_as (v := .bool b113) rfl rfl ?_
                refine L_nil ?_
                show R114 _ _
                rw [hR114]
                exact ⟨rfl, (Star.keepN 0 hst)⟩
              ·
                rw [ite_f hc115] at hb113
                refine L_pass rfl ?_
                refine L_pass rfl ?_
                refine L_pass rfl ?_
                refine L_pass rfl ?_
                refine L_pass rfl ?_
                refine L_pick (v := .bool b113) rfl rfl (congrArg Value.bool (so hb113)) ?_
                refine L_as (v := .bool b113) rfl rfl ?_
                refine L_nil ?_
                show R114 _ _
                rw [hR114]
                exact ⟨rfl, (Star.keepN 0 hst)⟩
            ·
              intro f w_ hR
              rw [hR114] at hR
              obtain ⟨sf4, hst⟩ := hR
              clear hR114
              refine W_ret ?_
              refine retG1 (v1 := .bool b113) Try.results70 sf4 ?_
              obtain rfl := so hF
              exact ⟨rfl, hst⟩
          ·
            have hF := (ite_f hc105).symm.trans hF
            refine W_seq ?_
            refine W_region ?_
            refine L_eql (m := r_.kind) (n := 4) rfl rfl rfl ?_
            refine L_as (v := .bool (r_.kind == 4)) rfl rfl ?_
            refine L_nil ?_
            refine W_cond (b := (r_.kind == 4)) rfl (fun hc123 => ?_) (fun hc123 => ?_)
            ·
              have hF := (ite_t hc123).symm.trans hF
              refine W_seq ?_
              refine W_region ?_
              refine L_fa (o' := 1) rfl fa_68_1 sf2 rfl ?_
              refine L_ld (v := v0_1) rfl Try.isAgg22 rfl (At.cell0 (Blk.at (Star.blkAt 0 hst rfl)) (j := 1) rfl) ?_
              refine L_len (v := v0_1) (n := List.length r_.vars) rfl Try.underlying22 rfl (slice_len h0_1) ?_
              refine L_eql (m := (r_.vars.length : Int)) (n := 2) rfl rfl rfl ?_
              refine L_as (v := .bool ((r_.vars.length : Int) == 2)) rfl rfl ?_
              refine L_nil ?_
              refine W_ret ?_
              refine retG1 (v1 := .bool ((r_.vars.length : Int) == 2)) Try.results70 rfl ?_
              obtain rfl := so hF
              exact ⟨rfl, (Star.keepN 0 hst)⟩
            ·
              have hF := (ite_f hc123).symm.trans hF
              refine W_skip ?_
              refine W_seq ?_
              refine W_region ?_
              refine L_fa (o' := 0) rfl fa_68_0 sf2 rfl ?_
              refine L_ld (v := .int .i64 r_.kind) rfl Try.isAgg3 rfl (At.cell0 (Blk.at (Star.blkAt 0 hst rfl)) (j := 0) rfl) ?_
              refine L_eql (m := r_.kind) (n := 2) rfl rfl rfl ?_
              refine L_as (v := .bool (r_.kind == 2)) rfl rfl ?_
              refine L_nil ?_
              refine W_ret ?_
              refine retG1 (v1 := .bool (r_.kind == 2)) Try.results70 rfl ?_
              obtain rfl := so hF
              exact ⟨rfl, (Star.keepN 0 hst)⟩

theorem i_ModelValid_1_c {c1 : Model} {r_ : Rule} {v0_1 : Value} {v0_2 : Value} {v0_4 : Value} {g_c1 : Nat} {v1_0 : Value} {v1_1 : Value} {H : FH} {w : World} (hst : Star H w []) (h0_1 : (RP.slice 3 RP.int).rel H [v0_1] r_.vars) (h0_2 : (RP.slice 3 RP.int).rel H [v0_2] r_.coefs) (h0_4 : (RP.slice 22 (RP.slice 3 RP.int)).rel H [v0_4] r_.rows) (hat_g_c1 : AtH H g_c1 0 [v1_0, v1_1]) (h1_0 : (RP.slice 3 RP.int).rel H [v1_0] c1.sizes) (h1_1 : (RP.slice 68 (rRule 3 22)).rel H [v1_1] c1.rules) {r : Bool} (hF : i_ModelValid_1 c1 r_ = some r) :
    C Try.prog 69 #[.agg #[.int .i64 r_.kind, v0_1, v0_2, .int .i64 r_.bound, v0_4], .pointer (some ⟨g_c1, 0, none⟩)] w fun v w' => v = .bool r ∧ Star H w' [] := by
  unfold i_ModelValid_1 at hF
  refine C_enter Try.func69 rfl Try.ntmps69 rfl ?_
  refine W_seq ?_
  refine W_region ?_
  refine L_box (v := .agg #[.int .i64 r_.kind, v0_1, v0_2, .int .i64 r_.bound, v0_4]) (cs := #[.int .i64 r_.kind, v0_1, v0_2, .int .i64 r_.bound, v0_4]) rfl rfl rfl hst ?_
  intro g3 w4 hst
  refine L_as (v := .bool false) rfl rfl ?_
  refine L_nil ?_
  refine W_seq ?_
  obtain ⟨x10, hx10, hF⟩ := bind_some hF
  refine W_region ?_
  refine L_lda (cs := [.int .i64 r_.kind, v0_1, v0_2, .int .i64 r_.bound, v0_4]) rfl Try.isAgg68 Try.sizeOf68 rfl (At.sub0 (Blk.at (Star.blkAt 0 hst rfl)) 0 5) rfl ?_
  refine L_fa (o' := 0) rfl fa_30_0 rfl rfl ?_
  refine L_ld (v := v1_0) rfl Try.isAgg22 rfl (At.cell0 (AtH.at hat_g_c1 hst.sub) (j := 0) rfl) ?_
  refine L_len (v := v1_0) (n := List.length c1.sizes) rfl Try.underlying22 rfl (slice_len h1_0) ?_
  obtain ⟨Hb12, hle13, hsb14, hfz15, hbk16⟩ := Star.borrow hst
  refine L_call (args := #[.agg #[.int .i64 r_.kind, v0_1, v0_2, .int .i64 r_.bound, v0_4], .int .i64 (c1.sizes.length : Int)]) rfl Try.call70 (ops2 rfl rfl) (i_ruleValid_c (r_ := r_) (cells := (c1.sizes.length : Int)) hsb14 (RP.mono _ h0_1 hle13) (RP.mono _ h0_2 hle13) (RP.mono _ h0_4 hle13) hx10) ?_
  rintro _ w17 ⟨rfl, hst⟩
  have hst := hbk16 hst closedL_nil
  refine L_not_ (b := x10) rfl rfl ?_
  refine L_as (v := .bool (!x10)) rfl rfl ?_
  refine L_nil ?_
  refine W_ret ?_
  refine retG1 (v1 := .bool (!x10)) Try.results69 rfl ?_
  obtain rfl := so hF
  exact ⟨rfl, (Star.keepN 0 hst)⟩

theorem i_ModelValid_c {m : Model} {v0_0 : Value} {v0_1 : Value} {H : FH} {w : World} (hst : Star H w []) (h0_0 : (RP.slice 3 RP.int).rel H [v0_0] m.sizes) (h0_1 : (RP.slice 68 (rRule 3 22)).rel H [v0_1] m.rules) {r : Bool} (hF : i_ModelValid m = some r) :
    C Try.prog 47 #[.agg #[v0_0, v0_1]] w fun v w' => v = .bool r ∧ Star H w' [] := by
  unfold i_ModelValid at hF
  refine C_enter Try.func47 rfl Try.ntmps47 rfl ?_
  refine W_seq ?_
  refine W_region ?_
  refine L_box (v := .agg #[v0_0, v0_1]) (cs := #[v0_0, v0_1]) rfl rfl rfl hst ?_
  intro g3 w4 hst
  refine L_as (v := .bool false) rfl rfl ?_
  refine L_nil ?_
  refine W_seq ?_
  refine W_seq ?_
  obtain ⟨x10, hx10, hF⟩ := bind_some hF
  obtain ⟨R12, hR12⟩ : ∃ R : Fr → World → Prop, R = fun f w_ => f 1 = .pointer (some ⟨g3, 0, none⟩) ∧ f 16 = .bool ((!x10) || (decide ((m.rules.length : Int) > 8))) ∧ Star H w_ ([box g3 30 #[v0_0, v0_1]]) := ⟨_, rfl⟩
  refine W_join R12 ?_ ?_
  ·
    refine W_region ?_
    refine L_fa (o' := 0) rfl fa_30_0 rfl rfl ?_
    refine L_ld (v := v0_0) rfl Try.isAgg22 rfl (At.cell0 (Blk.at (Star.blkAt 0 hst rfl)) (j := 0) rfl) ?_
    refine L_len (v := v0_0) (n := List.length m.sizes) rfl Try.underlying22 rfl (slice_len h0_0) ?_
    obtain ⟨Hb13, hle14, hsb15, hfz16, hbk17⟩ := Star.borrow hst
    refine L_call (args := #[.int .i64 (m.sizes.length : Int), .int .i64 1, .int .i64 5]) rfl Try.call48 (ops3 rfl rfl rfl) (i_within_c (n_ := (m.sizes.length : Int)) (low := 1) (high := 5) hsb15 hx10) ?_
    rintro _ w18 ⟨rfl, hst⟩
    have hst := hbk17 hst closedL_nil
    refine L_not_ (b := x10) rfl rfl ?_
    refine L_mv (v := .bool (!x10)) rfl rfl ?_
    refine L_split (d := 11) (b := (!x10)) rfl (fun hc19 => ?_) (fun hc19 => ?_)
    ·
      refine L_pass rfl ?_
      refine L_pass rfl ?_
      refine L_pass rfl ?_
      refine L_pass rfl ?_
      refine L_pick (v := .bool ((!x10) || (decide ((m.rules.length : Int) > 8)))) rfl rfl (or_t hc19) ?_
      refine L_nil ?_
      show R12 _ _
      rw [hR12]
      exact ⟨rfl, rfl, hst⟩
    ·
      refine L_fa (o' := 1) rfl fa_30_1 rfl rfl ?_
      refine L_ld (v := v0_1) rfl Try.isAgg28 rfl (At.cell0 (Blk.at (Star.blkAt 0 hst rfl)) (j := 1) rfl) ?_
      refine L_len (v := v0_1) (n := List.length m.rules) rfl Try.underlying28 rfl (slice_len h0_1) ?_
      refine L_gtr (m := (m.rules.length : Int)) (n := 8) rfl rfl rfl ?_
      refine L_pick (v := .bool ((!x10) || (decide ((m.rules.length : Int) > 8)))) rfl rfl (or_f hc19 rfl) ?_
      refine L_nil ?_
      show R12 _ _
      rw [hR12]
      exact ⟨rfl, rfl, hst⟩
  ·
    intro f w_ hR
    rw [hR12] at hR
    obtain ⟨sf1, sf16, hst⟩ := hR
    clear hR12
    refine W_cond (b := ((!x10) || (decide ((m.rules.length : Int) > 8)))) sf16 (fun hc20 => ?_) (fun hc20 => ?_)
    ·
      have hF := (ite_t hc20).symm.trans hF
      refine W_seq ?_
      refine W_region ?_
      refine L_as (v := .bool false) rfl rfl ?_
      refine L_nil ?_
      refine W_ret ?_
      refine retG1 (v1 := .bool false) Try.results47 rfl ?_
      obtain rfl := so hF
      exact ⟨rfl, (Star.keepN 0 hst)⟩
    ·
      have hF := (ite_f hc20).symm.trans hF
      refine W_skip ?_
      refine W_seq ?_
      refine W_region ?_
      refine L_as (v := .int .i64 0) rfl rfl ?_
      refine L_nil ?_
      refine W_seq ?_
      refine W_seq ?_
      refine W_region ?_
      refine L_fa (o' := 0) rfl fa_30_0 sf1 rfl ?_
      refine L_ld (v := v0_0) rfl Try.isAgg22 rfl (At.cell0 (Blk.at (Star.blkAt 0 hst rfl)) (j := 0) rfl) ?_
      refine L_len (v := v0_0) (n := List.length m.sizes) rfl Try.underlying22 rfl (slice_len h0_0) ?_
      refine L_mv (v := .int .i64 0) rfl rfl ?_
      refine L_nil ?_
      have hlen23 : List.length m.sizes ≤ 9223372036854775807 := len_le (slice_len h0_0)
      obtain ⟨j23, hL23, hF⟩ := bind_some hF
      obtain ⟨R23, hR23⟩ : ∃ R : Fr → World → Prop, R = fun f w_ => ∃ count_22 : Int, j23 = .nx count_22 ∧ f 1 = .pointer (some ⟨g3, 0, none⟩) ∧ f 3 = .int .i64 count_22 ∧ Star H w_ ([box g3 30 #[v0_0, v0_1]]) := ⟨_, rfl⟩
      refine W_join R23 ?_ ?_
      ·
        refine W_block ?_
        obtain ⟨I23, hI23⟩ : ∃ I : Nat → Fr → World → Prop, I = fun n f w_ => ∃ i_21 : Nat, ∃ suf23 : List Int, ∃ count_22 : Int, n = suf23.length ∧ List.drop i_21 m.sizes = suf23 ∧ i_21 + suf23.length = m.sizes.length ∧ rangeL i_ModelValid_b1 suf23 i_21 count_22 = some j23 ∧ f 1 = .pointer (some ⟨g3, 0, none⟩) ∧ f 3 = .int .i64 count_22 ∧ f 18 = v0_0 ∧ f 19 = .int .i64 (m.sizes.length : Int) ∧ f 20 = .int .i64 (i_21 : Int) ∧ Star H w_ ([box g3 30 #[v0_0, v0_1]]) := ⟨_, rfl⟩
        refine W_loop I23 (n := m.sizes.length) ?_ ?_
        · rw [hI23]; exact ⟨0, m.sizes, 0, rfl, rfl, Nat.zero_add _, hL23, sf1, rfl, rfl, rfl, rfl, hst⟩
        ·
          clear hst
          intro n23 f w_ hI
          rw [hI23] at hI
          obtain ⟨i_21, suf23, count_22, rfl, hd23, hl23, hL23, sf1, sf3, sf18, sf19, sf20, hst⟩ := hI
          refine W_seq ?_
          refine W_region ?_
          refine L_lss (m := (i_21 : Int)) (n := (m.sizes.length : Int)) rfl sf20 sf19 ?_
          refine L_nil ?_
          refine W_seq ?_
          refine W_cond (b := decide ((i_21 : Int) < (m.sizes.length : Int))) rfl (fun hc24 => ?_) (fun hc24 => ?_)
          ·
            have hlt23 := of_decide_eq_true hc24
            cases suf23 with
            | nil => exact absurd hlt23 (by simp at hl23; omega)
            | cons x_23 rest23 =>
              obtain ⟨o23, hB23, hL23⟩ := range_cons hL23
              rw [i_ModelValid_b1] at hB23
              have hix23 := drop_idx hd23
              refine W_skip ?_
              refine W_seq ?_
              refine W_block ?_
              refine W_seq ?_
              refine W_region ?_
              refine L_ix (r := RP.int) rfl Try.underlying22 Try.sizeOf3 sf18 h0_0 sf20 hix23 ?_
              intro g29 o30 cs_g29 hrk_hat31 hat31
              obtain rfl : _ = [_] := hrk_hat31
              refine L_ld (v := .int .i64 x_23) rfl Try.isAgg3 rfl (At.cell (AtH.at hat31 hst.sub) (j := 0) rfl) ?_
              refine L_as (v := .int .i64 x_23) rfl rfl ?_
              refine L_nil ?_
              refine W_seq ?_
              refine W_seq ?_
              obtain ⟨x38, hx38, hB23⟩ := bind_some hB23
              refine W_region ?_
              refine L_mv (v := .int .i64 x_23) rfl rfl ?_
              obtain ⟨Hb40, hle41, hsb42, hfz43, hbk44⟩ := Star.borrow hst
              refine L_call (args := #[.int .i64 x_23, .int .i64 0, .int .i64 3]) rfl Try.call48 (ops3 rfl rfl rfl) (i_within_c (n_ := x_23) (low := 0) (high := 3) hsb42 hx38) ?_
              rintro _ w45 ⟨rfl, hst⟩
              have hst := hbk44 hst closedL_nil
              refine L_not_ (b := x38) rfl rfl ?_
              refine L_nil ?_
              refine W_cond (b := (!x38)) rfl (fun hc46 => ?_) (fun hc46 => ?_)
              ·
                have hB23 := (ite_t hc46).symm.trans hB23
                refine W_seq ?_
                refine W_region ?_
                refine L_as (v := .bool false) rfl rfl ?_
                refine L_nil ?_
                refine W_ret ?_
                refine retG1 (v1 := .bool false) Try.results47 rfl ?_
                obtain rfl := so hB23
                obtain rfl := so hL23
                obtain rfl := so hF
                exact ⟨rfl, (Star.keepN 0 hst)⟩
              ·
                have hB23 := (ite_f hc46).symm.trans hB23
                refine W_skip ?_
                refine W_region ?_
                refine L_mv (v := .int .i64 count_22) rfl sf3 ?_
                refine L_mv (v := .int .i64 x_23) rfl rfl ?_
                refine L_add (m := x_23) (n := 1) rfl rfl rfl ?_
                refine L_add (m := count_22) (n := i64 (x_23 + 1)) rfl rfl rfl ?_
                refine L_as (v := .int .i64 (i64 (count_22 + (i64 (x_23 + 1))))) rfl rfl ?_
                refine L_nil ?_
                refine W_region ?_
                refine L_add (m := (i_21 : Int)) (n := 1) rfl sf20 rfl ?_
                refine L_mv (v := .int .i64 (i64 ((i_21 : Int) + 1))) rfl rfl ?_
                refine L_nil ?_
                obtain rfl := so hB23
                show ∃ m, m < _ ∧ I23 m _ _
                refine ⟨rest23.length, by simp, ?_⟩
                rw [hI23]
                exact ⟨i_21 + 1, rest23, i64 (count_22 + (i64 (x_23 + 1))), rfl, drop_next hd23, by simp at hl23; omega, hL23, sf1, rfl, sf18, sf19, (Eq.trans rfl (congrArg (Value.int .i64) (i64_succ (n := m.sizes.length) (by simp at hl23; omega) hlen23))), hst⟩
          ·
            cases suf23 with
            | cons _ _ => exact absurd (of_decide_eq_false hc24) (by simp at hl23; omega)
            | nil =>
              obtain rfl := range_nil hL23
              refine W_exit ?_
              show R23 _ _
              rw [hR23]
              exact ⟨count_22, rfl, sf1, sf3, hst⟩
      ·
        clear hst
        intro f w_ hR
        rw [hR23] at hR
        obtain ⟨count_22, rfl, sf1, sf3, hst⟩ := hR
        clear hR23
        refine W_seq ?_
        obtain ⟨b54, hb54, hF⟩ := bind_some hF
        obtain ⟨R55, hR55⟩ : ∃ R : Fr → World → Prop, R = fun f w_ => f 2 = .bool b54 ∧ Star H w_ ([]) := ⟨_, rfl⟩
        refine W_join R55 ?_ ?_
        ·
          refine W_region ?_
          refine L_mv (v := .int .i64 count_22) rfl sf3 ?_
          refine L_leq (m := count_22) (n := 12) rfl rfl rfl ?_
          refine L_mv (v := .bool (decide (count_22 ≤ 12))) rfl rfl ?_
          refine L_split (d := 34) (b := decide (count_22 ≤ 12)) rfl (fun hc56 => ?_) (fun hc56 => ?_)
          ·
            rw [ite_t hc56] at hb54
            obtain ⟨x52, hx52, hb54⟩ := bind_some hb54
            refine L_fa (o' := 1) rfl fa_30_1 sf1 rfl ?_
            refine L_ld (v := v0_1) rfl Try.isAgg28 rfl (At.cell0 (Blk.at (Star.blkAt 0 hst rfl)) (j := 1) rfl) ?_
            refine L_mf rfl (ops1 sf1) ?_
            obtain ⟨Hb57, hle58, hsb59, hfz60, hbk61⟩ := Star.borrow hst
            have hf62 : Fun1 Try.prog (rRule 3 22) true Value.bool (i_ModelValid_1 m) (.func (.func 69) #[] #[.pointer (some ⟨g3, 0, none⟩)]) Hb57 := by
              refine ⟨_, _, rfl, Try.call69, fun H_ w_ hE_ hs_ cs_ x_ y_ args_ hr_ hy_ ha_ => ?_⟩
              obtain ⟨p_0, p_1, p_2, rfl, hp_0, hp_1, hp_2⟩ := rRule_iff.1 hr_
              obtain rfl := args_of (b := #[.agg #[.int .i64 x_.kind, p_0, p_1, .int .i64 x_.bound, p_2], .pointer (some ⟨g3, 0, none⟩)]) ha_
              exact i_ModelValid_1_c (c1 := m) (r_ := x_) hs_ hp_0 hp_1 hp_2 (AtH.le (AtH.of (fz_box 0 hfz60 rfl)) hE_) (RP.mono _ (RP.mono _ h0_0 hle58) hE_) (RP.mono _ (RP.mono _ h0_1 hle58) hE_) hy_
            refine L_call (args := #[v0_1, .func (.func 69) #[] #[.pointer (some ⟨g3, 0, none⟩)]]) rfl Try.call68 (ops2 rfl rfl) (slices_ContainsFunc_implRule_c (s := m.rules) (f_ := (i_ModelValid_1 m)) hsb59 (RP.mono _ h0_1 hle58) hf62 hx52) ?_
            rintro _ w63 ⟨rfl, hst⟩
            have hst := hbk61 hst closedL_nil
            refine L_not_ (b := x52) rfl rfl ?_
            refine L_pick (v := .bool b54) rfl rfl (congrArg Value.bool (so hb54)) ?_
            refine L_as (v := .bool b54) rfl rfl ?_
            refine L_nil ?_
            show R55 _ _
            rw [hR55]
            exact ⟨rfl, (Star.keepN 0 hst)⟩
          ·
            rw [ite_f hc56] at hb54
            refine L_pass rfl ?_
            refine L_pass rfl ?_
            refine L_pass rfl ?_
            refine L_pass rfl ?_
            refine L_pass rfl ?_
            refine L_pick (v := .bool b54) rfl rfl (congrArg Value.bool (so hb54)) ?_
            refine L_as (v := .bool b54) rfl rfl ?_
            refine L_nil ?_
            show R55 _ _
            rw [hR55]
            exact ⟨rfl, (Star.keepN 0 hst)⟩
        ·
          intro f w_ hR
          rw [hR55] at hR
          obtain ⟨sf2, hst⟩ := hR
          clear hR55
          refine W_ret ?_
          refine retG1 (v1 := .bool b54) Try.results47 sf2 ?_
          obtain rfl := so hF
          exact ⟨rfl, hst⟩

theorem i_Model_boolVar_c {m : Model} {cell : Int} {value : Int} {v0_0 : Value} {v0_1 : Value} {H : FH} {w : World} (hst : Star H w []) (h0_0 : (RP.slice 3 RP.int).rel H [v0_0] m.sizes) (h0_1 : (RP.slice 68 (rRule 3 22)).rel H [v0_1] m.rules) {r : Int} (hF : i_Model_boolVar m cell value = some r) :
    C Try.prog 49 #[.agg #[v0_0, v0_1], .int .i64 cell, .int .i64 value] w fun v w' => v = .int .i64 r ∧ Star H w' [] := by
  unfold i_Model_boolVar at hF
  refine C_enter Try.func49 rfl Try.ntmps49 rfl ?_
  refine W_seq ?_
  refine W_region ?_
  refine L_box (v := .agg #[v0_0, v0_1]) (cs := #[v0_0, v0_1]) rfl rfl rfl hst ?_
  intro g3 w4 hst
  refine L_as (v := .int .i64 0) rfl rfl ?_
  refine L_nil ?_
  refine W_seq ?_
  refine W_region ?_
  refine L_mv (v := .int .i64 value) rfl rfl ?_
  refine L_add (m := 1) (n := value) rfl rfl rfl ?_
  refine L_as (v := .int .i64 (i64 (1 + value))) rfl rfl ?_
  refine L_nil ?_
  refine W_seq ?_
  refine W_seq ?_
  obtain ⟨x5, hx5, hF⟩ := bind_some hF
  refine W_region ?_
  refine L_fa (o' := 0) rfl fa_30_0 rfl rfl ?_
  refine L_ld (v := v0_0) rfl Try.isAgg22 rfl (At.cell0 (Blk.at (Star.blkAt 0 hst rfl)) (j := 0) rfl) ?_
  refine L_mv (v := .int .i64 cell) rfl rfl ?_
  refine L_sl (a := 0) (b := cell) rfl et_22 rfl h0_0 rfl rfl hx5 ?_
  intro v8 hs9
  refine L_len (v := v8) (n := List.length x5) rfl Try.underlying22 rfl (slice_len hs9) ?_
  refine L_mv (v := .int .i64 0) rfl rfl ?_
  refine L_nil ?_
  have hlen12 : List.length x5 ≤ 9223372036854775807 := len_le (slice_len hs9)
  obtain ⟨j12, hL12, hF⟩ := bind_some hF
  obtain ⟨R12, hR12⟩ : ∃ R : Fr → World → Prop, R = fun f w_ => ∃ v_11 : Int, j12 = .nx v_11 ∧ f 7 = .int .i64 v_11 ∧ Star H w_ ([]) := ⟨_, rfl⟩
  refine W_join R12 ?_ ?_
  ·
    refine W_block ?_
    obtain ⟨I12, hI12⟩ : ∃ I : Nat → Fr → World → Prop, I = fun n f w_ => ∃ i_10 : Nat, ∃ suf12 : List Int, ∃ v_11 : Int, n = suf12.length ∧ List.drop i_10 x5 = suf12 ∧ i_10 + suf12.length = x5.length ∧ rangeL i_Model_boolVar_b1 suf12 i_10 v_11 = some j12 ∧ f 7 = .int .i64 v_11 ∧ f 15 = v8 ∧ f 16 = .int .i64 (x5.length : Int) ∧ f 17 = .int .i64 (i_10 : Int) ∧ Star H w_ ([]) := ⟨_, rfl⟩
    refine W_loop I12 (n := x5.length) ?_ ?_
    · rw [hI12]; exact ⟨0, x5, i64 (1 + value), rfl, rfl, Nat.zero_add _, hL12, rfl, rfl, rfl, rfl, (Star.keepN 0 hst)⟩
    ·
      clear hst
      intro n12 f w_ hI
      rw [hI12] at hI
      obtain ⟨i_10, suf12, v_11, rfl, hd12, hl12, hL12, sf7, sf15, sf16, sf17, hst⟩ := hI
      refine W_seq ?_
      refine W_region ?_
      refine L_lss (m := (i_10 : Int)) (n := (x5.length : Int)) rfl sf17 sf16 ?_
      refine L_nil ?_
      refine W_seq ?_
      refine W_cond (b := decide ((i_10 : Int) < (x5.length : Int))) rfl (fun hc13 => ?_) (fun hc13 => ?_)
      ·
        have hlt12 := of_decide_eq_true hc13
        cases suf12 with
        | nil => exact absurd hlt12 (by simp at hl12; omega)
        | cons x_12 rest12 =>
          obtain ⟨o12, hB12, hL12⟩ := range_cons hL12
          rw [i_Model_boolVar_b1] at hB12
          have hix12 := drop_idx hd12
          refine W_skip ?_
          refine W_seq ?_
          refine W_block ?_
          refine W_seq ?_
          refine W_region ?_
          refine L_ix (r := RP.int) rfl Try.underlying22 Try.sizeOf3 sf15 hs9 sf17 hix12 ?_
          intro g18 o19 cs_g18 hrk_hat20 hat20
          obtain rfl : _ = [_] := hrk_hat20
          refine L_ld (v := .int .i64 x_12) rfl Try.isAgg3 rfl (At.cell (AtH.at hat20 hst.sub) (j := 0) rfl) ?_
          refine L_as (v := .int .i64 x_12) rfl rfl ?_
          refine L_nil ?_
          refine W_region ?_
          refine L_mv (v := .int .i64 v_11) rfl sf7 ?_
          refine L_mv (v := .int .i64 x_12) rfl rfl ?_
          refine L_add (m := x_12) (n := 1) rfl rfl rfl ?_
          refine L_add (m := v_11) (n := i64 (x_12 + 1)) rfl rfl rfl ?_
          refine L_as (v := .int .i64 (i64 (v_11 + (i64 (x_12 + 1))))) rfl rfl ?_
          refine L_nil ?_
          refine W_region ?_
          refine L_add (m := (i_10 : Int)) (n := 1) rfl sf17 rfl ?_
          refine L_mv (v := .int .i64 (i64 ((i_10 : Int) + 1))) rfl rfl ?_
          refine L_nil ?_
          obtain rfl := so hB12
          show ∃ m, m < _ ∧ I12 m _ _
          refine ⟨rest12.length, by simp, ?_⟩
          rw [hI12]
          exact ⟨i_10 + 1, rest12, i64 (v_11 + (i64 (x_12 + 1))), rfl, drop_next hd12, by simp at hl12; omega, hL12, rfl, sf15, sf16, (Eq.trans rfl (congrArg (Value.int .i64) (i64_succ (n := x5.length) (by simp at hl12; omega) hlen12))), hst⟩
      ·
        cases suf12 with
        | cons _ _ => exact absurd (of_decide_eq_false hc13) (by simp at hl12; omega)
        | nil =>
          obtain rfl := range_nil hL12
          refine W_exit ?_
          show R12 _ _
          rw [hR12]
          exact ⟨v_11, rfl, sf7, hst⟩
  ·
    clear hst
    intro f w_ hR
    rw [hR12] at hR
    obtain ⟨v_11, rfl, sf7, hst⟩ := hR
    clear hR12
    refine W_seq ?_
    refine W_region ?_
    refine L_mv (v := .int .i64 v_11) rfl sf7 ?_
    refine L_as (v := .int .i64 v_11) rfl rfl ?_
    refine L_nil ?_
    refine W_ret ?_
    refine retG1 (v1 := .int .i64 v_11) Try.results49 rfl ?_
    obtain rfl := so hF
    exact ⟨rfl, hst⟩

theorem l_eqIntS_c {a : List Int} {b : List Int} {v0 : Value} {v1 : Value} {H : FH} {w : World} (hst : Star H w []) (h0 : (RP.slice 3 RP.int).rel H [v0] a) (h1 : (RP.slice 3 RP.int).rel H [v1] b) {r : Bool} (hF : l_eqIntS a b = some r) :
    C Try.prog 26 #[v0, v1] w fun v w' => v = .bool r ∧ Star H w' [] := by
  unfold l_eqIntS at hF
  refine C_enter Try.func26 rfl Try.ntmps26 rfl ?_
  refine W_seq ?_
  refine W_region ?_
  refine L_as (v := .bool false) rfl rfl ?_
  refine L_nil ?_
  refine W_seq ?_
  refine W_seq ?_
  refine W_region ?_
  refine L_mv (v := v0) rfl rfl ?_
  refine L_len (v := v0) (n := List.length a) rfl Try.underlying22 rfl (slice_len h0) ?_
  refine L_mv (v := v1) rfl rfl ?_
  refine L_len (v := v1) (n := List.length b) rfl Try.underlying22 rfl (slice_len h1) ?_
  refine L_neq (m := (a.length : Int)) (n := (b.length : Int)) rfl rfl rfl ?_
  refine L_nil ?_
  refine W_cond (b := ((a.length : Int) != (b.length : Int))) rfl (fun hc1 => ?_) (fun hc1 => ?_)
  ·
    have hF := (ite_t hc1).symm.trans hF
    refine W_seq ?_
    refine W_region ?_
    refine L_as (v := .bool false) rfl rfl ?_
    refine L_nil ?_
    refine W_ret ?_
    refine retG1 (v1 := .bool false) Try.results26 rfl ?_
    obtain rfl := so hF
    exact ⟨rfl, hst⟩
  ·
    have hF := (ite_f hc1).symm.trans hF
    refine W_skip ?_
    refine W_seq ?_
    refine W_seq ?_
    refine W_region ?_
    refine L_as (v := .int .i64 0) rfl rfl ?_
    refine L_nil ?_
    have hlen5 : List.length a ≤ 9223372036854775807 := len_le (slice_len h0)
    obtain ⟨j5, hL5, hF⟩ := bind_some hF
    obtain ⟨R5, hR5⟩ : ∃ R : Fr → World → Prop, R = fun f w_ => ∃ H3 : FH, j5 = .nx () ∧ Le H H3 ∧ Star H3 w_ ([]) := ⟨_, rfl⟩
    refine W_join R5 ?_ ?_
    ·
      refine W_block ?_
      obtain ⟨I5, hI5⟩ : ∃ I : Nat → Fr → World → Prop, I = fun n f w_ => ∃ i_2 : Nat, ∃ suf5 : List Int, ∃ H3 : FH, n = suf5.length ∧ List.drop i_2 a = suf5 ∧ i_2 + suf5.length = a.length ∧ rangeL (l_eqIntS_b1 b) suf5 i_2 () = some j5 ∧ Le H H3 ∧ f 0 = v0 ∧ f 1 = v1 ∧ f 5 = .int .i64 (i_2 : Int) ∧ Star H3 w_ ([]) := ⟨_, rfl⟩
      refine W_loop I5 (n := a.length) ?_ ?_
      · rw [hI5]; exact ⟨0, a, H, rfl, rfl, Nat.zero_add _, hL5, (Le.refl _), rfl, rfl, rfl, hst⟩
      ·
        clear hst
        intro n5 f w_ hI
        rw [hI5] at hI
        obtain ⟨i_2, suf5, H3, rfl, hd5, hl5, hL5, hle4, sf0, sf1, sf5, hst⟩ := hI
        refine W_seq ?_
        refine W_seq ?_
        refine W_region ?_
        refine L_mv (v := .int .i64 (i_2 : Int)) rfl sf5 ?_
        refine L_mv (v := v0) rfl sf0 ?_
        refine L_len (v := v0) (n := List.length a) rfl Try.underlying22 rfl (slice_len (RP.mono _ h0 hle4)) ?_
        refine L_lss (m := (i_2 : Int)) (n := (a.length : Int)) rfl rfl rfl ?_
        refine L_nil ?_
        refine W_cond (b := decide ((i_2 : Int) < (a.length : Int))) rfl (fun hc6 => ?_) (fun hc6 => ?_)
        ·
          have hlt5 := of_decide_eq_true hc6
          cases suf5 with
          | nil => exact absurd hlt5 (by simp at hl5; omega)
          | cons x_5 rest5 =>
            obtain ⟨o5, hB5, hL5⟩ := range_cons hL5
            rw [l_eqIntS_b1] at hB5
            have hix5 := drop_idx hd5
            refine W_skip ?_
            refine W_seq ?_
            refine W_block ?_
            refine W_seq ?_
            obtain ⟨x11, hx11, hB5⟩ := bind_some hB5
            refine W_drawS 8 [isV (v0), isV (.int .i64 (i_2 : Int)), isEl RP.int x_5 0, isV (.int .i64 x_5), isV (v1), isV (.int .i64 (i_2 : Int)), isEl RP.int x11 0, isV (.int .i64 x11)] [] [] ([]) [([], []), ([], []), ([], []), ([], []), ([], []), ([], []), ([], []), ([], [])] (S := []) Try_mix (by kernel_rfl) rfl (by kernel_rfl) (amF_cons (mono_V _) (amF_cons (mono_V _) (amF_cons (mono_el _ _ _) (amF_cons (mono_V _) (amF_cons (mono_V _) (amF_cons (mono_V _) (amF_cons (mono_el _ _ _) (amF_cons (mono_V _) amF_nil)))))))) hst ?_ (fun f w_ H16 hS16 hE16 hT16 hst => ?_)
            ·
              refine opsS_cons ?_ ?_
              ·
                intro f w_ H16 X16 hS16 hE16 hP16 hst
                refine L_mv (v := v0) rfl ((hS16 0 rfl).trans sf0) ?_
                exact L_nil ⟨rfl, _, _, _, rfl, rfl, Le.refl _, rfl, hst⟩
              refine opsS_cons ?_ ?_
              ·
                intro f w_ H16 X16 hS16 hE16 hP16 hst
                refine L_mv (v := .int .i64 (i_2 : Int)) rfl ((hS16 5 rfl).trans sf5) ?_
                exact L_nil ⟨rfl, _, _, _, rfl, rfl, Le.refl _, rfl, hst⟩
              refine opsS_cons ?_ ?_
              ·
                intro f w_ H16 X16 hS16 hE16 hP16 hst
                refine L_ix (r := RP.int) rfl Try.underlying22 Try.sizeOf3 (hP16 0 17 rfl rfl) (RP.mono _ h0 (Le.trans hle4 hE16)) (hP16 1 18 rfl rfl) hix5 ?_
                intro g25 o26 cs_g25 hrk_hat27 hat27
                obtain rfl : _ = [_] := hrk_hat27
                exact L_nil ⟨rfl, _, _, _, rfl, rfl, Le.refl _, ⟨_, _, _, rfl, rfl, hat27⟩, hst⟩
              refine opsS_cons ?_ ?_
              ·
                intro f w_ H16 X16 hS16 hE16 hP16 hst
                obtain ⟨g29, o29, cs29, hv29, hrk_hat29, hat29⟩ := (hP16 2 19 rfl rfl)
                obtain rfl : _ = [_] := hrk_hat29
                refine L_ld (v := .int .i64 x_5) rfl Try.isAgg3 hv29 (At.cell (AtH.at hat29 hst.sub) (j := 0) rfl) ?_
                exact L_nil ⟨rfl, _, _, _, rfl, rfl, Le.refl _, rfl, hst⟩
              refine opsS_cons ?_ ?_
              ·
                intro f w_ H16 X16 hS16 hE16 hP16 hst
                refine L_mv (v := v1) rfl ((hS16 1 rfl).trans sf1) ?_
                exact L_nil ⟨rfl, _, _, _, rfl, rfl, Le.refl _, rfl, hst⟩
              refine opsS_cons ?_ ?_
              ·
                intro f w_ H16 X16 hS16 hE16 hP16 hst
                refine L_mv (v := .int .i64 (i_2 : Int)) rfl ((hS16 5 rfl).trans sf5) ?_
                exact L_nil ⟨rfl, _, _, _, rfl, rfl, Le.refl _, rfl, hst⟩
              refine opsS_cons ?_ ?_
              ·
                intro f w_ H16 X16 hS16 hE16 hP16 hst
                refine L_ix (r := RP.int) rfl Try.underlying22 Try.sizeOf3 (hP16 4 21 rfl rfl) (RP.mono _ h1 (Le.trans hle4 hE16)) (hP16 5 22 rfl rfl) hx11 ?_
                intro g31 o32 cs_g31 hrk_hat33 hat33
                obtain rfl : _ = [_] := hrk_hat33
                exact L_nil ⟨rfl, _, _, _, rfl, rfl, Le.refl _, ⟨_, _, _, rfl, rfl, hat33⟩, hst⟩
              refine opsS_cons ?_ ?_
              ·
                intro f w_ H16 X16 hS16 hE16 hP16 hst
                obtain ⟨g35, o35, cs35, hv35, hrk_hat35, hat35⟩ := (hP16 6 23 rfl rfl)
                obtain rfl : _ = [_] := hrk_hat35
                refine L_ld (v := .int .i64 x11) rfl Try.isAgg3 hv35 (At.cell (AtH.at hat35 hst.sub) (j := 0) rfl) ?_
                exact L_nil ⟨rfl, _, _, _, rfl, rfl, Le.refl _, rfl, hst⟩
              exact opsS_nil
            ·
              refine L_neq (m := x_5) (n := x11) rfl (hT16 3 20 rfl rfl) (hT16 7 24 rfl rfl) ?_
              refine L_nil ?_
              refine W_cond (b := (x_5 != x11)) rfl (fun hc37 => ?_) (fun hc37 => ?_)
              ·
                have hB5 := (ite_t hc37).symm.trans hB5
                refine W_seq ?_
                refine W_region ?_
                refine L_as (v := .bool false) rfl rfl ?_
                refine L_nil ?_
                refine W_ret ?_
                refine retG1 (v1 := .bool false) Try.results26 rfl ?_
                obtain rfl := so hB5
                obtain rfl := so hL5
                obtain rfl := so hF
                exact ⟨rfl, (Star.down hst (Le.trans hle4 hE16) closedL_nil)⟩
              ·
                have hB5 := (ite_f hc37).symm.trans hB5
                refine W_skip ?_
                refine W_region ?_
                refine L_mv (v := .int .i64 (i_2 : Int)) rfl ((hS16 5 rfl).trans sf5) ?_
                refine L_add (m := (i_2 : Int)) (n := 1) rfl rfl rfl ?_
                refine L_as (v := .int .i64 (i64 ((i_2 : Int) + 1))) rfl rfl ?_
                refine L_nil ?_
                obtain rfl := so hB5
                show ∃ m, m < _ ∧ I5 m _ _
                refine ⟨rest5.length, by simp, ?_⟩
                rw [hI5]
                exact ⟨i_2 + 1, rest5, H16, rfl, drop_next hd5, by simp at hl5; omega, hL5, (Le.trans hle4 hE16), ((hS16 0 rfl).trans sf0), ((hS16 1 rfl).trans sf1), (Eq.trans rfl (congrArg (Value.int .i64) (i64_succ (n := a.length) (by simp at hl5; omega) hlen5))), hst⟩
        ·
          cases suf5 with
          | cons _ _ => exact absurd (of_decide_eq_false hc6) (by simp at hl5; omega)
          | nil =>
            obtain rfl := range_nil hL5
            refine W_exit ?_
            show R5 _ _
            rw [hR5]
            exact ⟨H3, rfl, hle4, hst⟩
    ·
      clear hst
      intro f w_ hR
      rw [hR5] at hR
      obtain ⟨H3, rfl, hle4, hst⟩ := hR
      clear hR5
      refine W_seq ?_
      refine W_region ?_
      refine L_as (v := .bool true) rfl rfl ?_
      refine L_nil ?_
      refine W_ret ?_
      refine retG1 (v1 := .bool true) Try.results26 rfl ?_
      obtain rfl := so hF
      exact ⟨rfl, (Star.down hst hle4 closedL_nil)⟩

theorem l_eqIntSS_c {a : List (List Int)} {b : List (List Int)} {v0 : Value} {v1 : Value} {H : FH} {w : World} (hst : Star H w []) (h0 : (RP.slice 22 (RP.slice 3 RP.int)).rel H [v0] a) (h1 : (RP.slice 22 (RP.slice 3 RP.int)).rel H [v1] b) {r : Bool} (hF : l_eqIntSS a b = some r) :
    C Try.prog 90 #[v0, v1] w fun v w' => v = .bool r ∧ Star H w' [] := by
  unfold l_eqIntSS at hF
  refine C_enter Try.func90 rfl Try.ntmps90 rfl ?_
  refine W_seq ?_
  refine W_region ?_
  refine L_as (v := .bool false) rfl rfl ?_
  refine L_nil ?_
  refine W_seq ?_
  refine W_seq ?_
  refine W_region ?_
  refine L_mv (v := v0) rfl rfl ?_
  refine L_len (v := v0) (n := List.length a) rfl Try.underlying66 rfl (slice_len h0) ?_
  refine L_mv (v := v1) rfl rfl ?_
  refine L_len (v := v1) (n := List.length b) rfl Try.underlying66 rfl (slice_len h1) ?_
  refine L_neq (m := (a.length : Int)) (n := (b.length : Int)) rfl rfl rfl ?_
  refine L_nil ?_
  refine W_cond (b := ((a.length : Int) != (b.length : Int))) rfl (fun hc1 => ?_) (fun hc1 => ?_)
  ·
    have hF := (ite_t hc1).symm.trans hF
    refine W_seq ?_
    refine W_region ?_
    refine L_as (v := .bool false) rfl rfl ?_
    refine L_nil ?_
    refine W_ret ?_
    refine retG1 (v1 := .bool false) Try.results90 rfl ?_
    obtain rfl := so hF
    exact ⟨rfl, hst⟩
  ·
    have hF := (ite_f hc1).symm.trans hF
    refine W_skip ?_
    refine W_seq ?_
    refine W_seq ?_
    refine W_region ?_
    refine L_as (v := .int .i64 0) rfl rfl ?_
    refine L_nil ?_
    have hlen5 : List.length a ≤ 9223372036854775807 := len_le (slice_len h0)
    obtain ⟨j5, hL5, hF⟩ := bind_some hF
    obtain ⟨R5, hR5⟩ : ∃ R : Fr → World → Prop, R = fun f w_ => ∃ H3 : FH, j5 = .nx () ∧ Le H H3 ∧ Star H3 w_ ([]) := ⟨_, rfl⟩
    refine W_join R5 ?_ ?_
    ·
      refine W_block ?_
      obtain ⟨I5, hI5⟩ : ∃ I : Nat → Fr → World → Prop, I = fun n f w_ => ∃ i_2 : Nat, ∃ suf5 : List (List Int), ∃ H3 : FH, n = suf5.length ∧ List.drop i_2 a = suf5 ∧ i_2 + suf5.length = a.length ∧ rangeL (l_eqIntSS_b1 b) suf5 i_2 () = some j5 ∧ Le H H3 ∧ f 0 = v0 ∧ f 1 = v1 ∧ f 5 = .int .i64 (i_2 : Int) ∧ Star H3 w_ ([]) := ⟨_, rfl⟩
      refine W_loop I5 (n := a.length) ?_ ?_
      · rw [hI5]; exact ⟨0, a, H, rfl, rfl, Nat.zero_add _, hL5, (Le.refl _), rfl, rfl, rfl, hst⟩
      ·
        clear hst
        intro n5 f w_ hI
        rw [hI5] at hI
        obtain ⟨i_2, suf5, H3, rfl, hd5, hl5, hL5, hle4, sf0, sf1, sf5, hst⟩ := hI
        refine W_seq ?_
        refine W_seq ?_
        refine W_region ?_
        refine L_mv (v := .int .i64 (i_2 : Int)) rfl sf5 ?_
        refine L_mv (v := v0) rfl sf0 ?_
        refine L_len (v := v0) (n := List.length a) rfl Try.underlying66 rfl (slice_len (RP.mono _ h0 hle4)) ?_
        refine L_lss (m := (i_2 : Int)) (n := (a.length : Int)) rfl rfl rfl ?_
        refine L_nil ?_
        refine W_cond (b := decide ((i_2 : Int) < (a.length : Int))) rfl (fun hc6 => ?_) (fun hc6 => ?_)
        ·
          have hlt5 := of_decide_eq_true hc6
          cases suf5 with
          | nil => exact absurd hlt5 (by simp at hl5; omega)
          | cons x_5 rest5 =>
            obtain ⟨o5, hB5, hL5⟩ := range_cons hL5
            rw [l_eqIntSS_b1] at hB5
            have hix5 := drop_idx hd5
            refine W_skip ?_
            refine W_seq ?_
            refine W_block ?_
            refine W_seq ?_
            obtain ⟨x11, hx11, hB5⟩ := bind_some hB5
            obtain ⟨x21, hx21, hB5⟩ := bind_some hB5
            refine W_drawS 8 [isV (v0), isV (.int .i64 (i_2 : Int)), isEl (RP.slice 3 RP.int) x_5 0, isData (RP.slice 3 RP.int) x_5, isV (v1), isV (.int .i64 (i_2 : Int)), isEl (RP.slice 3 RP.int) x11 0, isData (RP.slice 3 RP.int) x11] [] [] ([]) [([], []), ([], []), ([], []), ([], []), ([], []), ([], []), ([], []), ([], [])] (S := []) Try_mix (by kernel_rfl) rfl (by kernel_rfl) (amF_cons (mono_V _) (amF_cons (mono_V _) (amF_cons (mono_el _ _ _) (amF_cons (mono_data _ _) (amF_cons (mono_V _) (amF_cons (mono_V _) (amF_cons (mono_el _ _ _) (amF_cons (mono_data _ _) amF_nil)))))))) hst ?_ (fun f w_ H23 hS23 hE23 hT23 hst => ?_)
            ·
              refine opsS_cons ?_ ?_
              ·
                intro f w_ H23 X23 hS23 hE23 hP23 hst
                refine L_mv (v := v0) rfl ((hS23 0 rfl).trans sf0) ?_
                exact L_nil ⟨rfl, _, _, _, rfl, rfl, Le.refl _, rfl, hst⟩
              refine opsS_cons ?_ ?_
              ·
                intro f w_ H23 X23 hS23 hE23 hP23 hst
                refine L_mv (v := .int .i64 (i_2 : Int)) rfl ((hS23 5 rfl).trans sf5) ?_
                exact L_nil ⟨rfl, _, _, _, rfl, rfl, Le.refl _, rfl, hst⟩
              refine opsS_cons ?_ ?_
              ·
                intro f w_ H23 X23 hS23 hE23 hP23 hst
                refine L_ix (r := (RP.slice 3 RP.int)) rfl Try.underlying66 Try.sizeOf22 (hP23 0 17 rfl rfl) (RP.mono _ h0 (Le.trans hle4 hE23)) (hP23 1 18 rfl rfl) hix5 ?_
                intro g32 o33 cs_g32 hrk_hat34 hat34
                obtain ⟨u35, rfl, hu35⟩ := slice1 hrk_hat34
                exact L_nil ⟨rfl, _, _, _, rfl, rfl, Le.refl _, ⟨_, _, _, rfl, hrk_hat34, hat34⟩, hst⟩
              refine opsS_cons ?_ ?_
              ·
                intro f w_ H23 X23 hS23 hE23 hP23 hst
                obtain ⟨g36, o36, cs36, hv36, hrk_hat36, hat36⟩ := (hP23 2 19 rfl rfl)
                obtain ⟨u37, rfl, hu37⟩ := slice1 hrk_hat36
                refine L_ld (v := u37) rfl Try.isAgg22 hv36 (At.cell (AtH.at hat36 hst.sub) (j := 0) rfl) ?_
                exact L_nil ⟨rfl, _, _, _, rfl, rfl, Le.refl _, hu37, hst⟩
              refine opsS_cons ?_ ?_
              ·
                intro f w_ H23 X23 hS23 hE23 hP23 hst
                refine L_mv (v := v1) rfl ((hS23 1 rfl).trans sf1) ?_
                exact L_nil ⟨rfl, _, _, _, rfl, rfl, Le.refl _, rfl, hst⟩
              refine opsS_cons ?_ ?_
              ·
                intro f w_ H23 X23 hS23 hE23 hP23 hst
                refine L_mv (v := .int .i64 (i_2 : Int)) rfl ((hS23 5 rfl).trans sf5) ?_
                exact L_nil ⟨rfl, _, _, _, rfl, rfl, Le.refl _, rfl, hst⟩
              refine opsS_cons ?_ ?_
              ·
                intro f w_ H23 X23 hS23 hE23 hP23 hst
                refine L_ix (r := (RP.slice 3 RP.int)) rfl Try.underlying66 Try.sizeOf22 (hP23 4 21 rfl rfl) (RP.mono _ h1 (Le.trans hle4 hE23)) (hP23 5 22 rfl rfl) hx11 ?_
                intro g38 o39 cs_g38 hrk_hat40 hat40
                obtain ⟨u41, rfl, hu41⟩ := slice1 hrk_hat40
                exact L_nil ⟨rfl, _, _, _, rfl, rfl, Le.refl _, ⟨_, _, _, rfl, hrk_hat40, hat40⟩, hst⟩
              refine opsS_cons ?_ ?_
              ·
                intro f w_ H23 X23 hS23 hE23 hP23 hst
                obtain ⟨g42, o42, cs42, hv42, hrk_hat42, hat42⟩ := (hP23 6 23 rfl rfl)
                obtain ⟨u43, rfl, hu43⟩ := slice1 hrk_hat42
                refine L_ld (v := u43) rfl Try.isAgg22 hv42 (At.cell (AtH.at hat42 hst.sub) (j := 0) rfl) ?_
                exact L_nil ⟨rfl, _, _, _, rfl, rfl, Le.refl _, hu43, hst⟩
              exact opsS_nil
            ·
              have hd44 : (RP.slice 3 RP.int).rel H23 [f 20] x_5 := (hT23 3 20 rfl rfl)
              have hd45 : (RP.slice 3 RP.int).rel H23 [f 24] x11 := (hT23 7 24 rfl rfl)
              obtain ⟨Hb46, hle47, hsb48, hfz49, hbk50⟩ := Star.borrow hst
              refine L_call (args := #[(f 20), (f 24)]) rfl Try.call26 (ops2 rfl rfl) (l_eqIntS_c (a := x_5) (b := x11) hsb48 (RP.mono _ hd44 hle47) (RP.mono _ hd45 hle47) hx21) ?_
              rintro _ w51 ⟨rfl, hst⟩
              have hst := hbk50 hst closedL_nil
              refine L_not_ (b := x21) rfl rfl ?_
              refine L_nil ?_
              refine W_cond (b := (!x21)) rfl (fun hc52 => ?_) (fun hc52 => ?_)
              ·
                have hB5 := (ite_t hc52).symm.trans hB5
                refine W_seq ?_
                refine W_region ?_
                refine L_as (v := .bool false) rfl rfl ?_
                refine L_nil ?_
                refine W_ret ?_
                refine retG1 (v1 := .bool false) Try.results90 rfl ?_
                obtain rfl := so hB5
                obtain rfl := so hL5
                obtain rfl := so hF
                exact ⟨rfl, (Star.down hst (Le.trans hle4 hE23) closedL_nil)⟩
              ·
                have hB5 := (ite_f hc52).symm.trans hB5
                refine W_skip ?_
                refine W_region ?_
                refine L_mv (v := .int .i64 (i_2 : Int)) rfl ((hS23 5 rfl).trans sf5) ?_
                refine L_add (m := (i_2 : Int)) (n := 1) rfl rfl rfl ?_
                refine L_as (v := .int .i64 (i64 ((i_2 : Int) + 1))) rfl rfl ?_
                refine L_nil ?_
                obtain rfl := so hB5
                show ∃ m, m < _ ∧ I5 m _ _
                refine ⟨rest5.length, by simp, ?_⟩
                rw [hI5]
                exact ⟨i_2 + 1, rest5, H23, rfl, drop_next hd5, by simp at hl5; omega, hL5, (Le.trans hle4 hE23), ((hS23 0 rfl).trans sf0), ((hS23 1 rfl).trans sf1), (Eq.trans rfl (congrArg (Value.int .i64) (i64_succ (n := a.length) (by simp at hl5; omega) hlen5))), hst⟩
        ·
          cases suf5 with
          | cons _ _ => exact absurd (of_decide_eq_false hc6) (by simp at hl5; omega)
          | nil =>
            obtain rfl := range_nil hL5
            refine W_exit ?_
            show R5 _ _
            rw [hR5]
            exact ⟨H3, rfl, hle4, hst⟩
    ·
      clear hst
      intro f w_ hR
      rw [hR5] at hR
      obtain ⟨H3, rfl, hle4, hst⟩ := hR
      clear hR5
      refine W_seq ?_
      refine W_region ?_
      refine L_as (v := .bool true) rfl rfl ?_
      refine L_nil ?_
      refine W_ret ?_
      refine retG1 (v1 := .bool true) Try.results90 rfl ?_
      obtain rfl := so hF
      exact ⟨rfl, (Star.down hst hle4 closedL_nil)⟩

theorem l_eqRule_c {a : Rule} {b : Rule} {v0_1 : Value} {v0_2 : Value} {v0_4 : Value} {v1_1 : Value} {v1_2 : Value} {v1_4 : Value} {H : FH} {w : World} (hst : Star H w []) (h0_1 : (RP.slice 3 RP.int).rel H [v0_1] a.vars) (h0_2 : (RP.slice 3 RP.int).rel H [v0_2] a.coefs) (h0_4 : (RP.slice 22 (RP.slice 3 RP.int)).rel H [v0_4] a.rows) (h1_1 : (RP.slice 3 RP.int).rel H [v1_1] b.vars) (h1_2 : (RP.slice 3 RP.int).rel H [v1_2] b.coefs) (h1_4 : (RP.slice 22 (RP.slice 3 RP.int)).rel H [v1_4] b.rows) {r : Bool} (hF : l_eqRule a b = some r) :
    C Try.prog 71 #[.agg #[.int .i64 a.kind, v0_1, v0_2, .int .i64 a.bound, v0_4], .agg #[.int .i64 b.kind, v1_1, v1_2, .int .i64 b.bound, v1_4]] w fun v w' => v = .bool r ∧ Star H w' [] := by
  unfold l_eqRule at hF
  refine C_enter Try.func71 rfl Try.ntmps71 rfl ?_
  refine W_seq ?_
  refine W_region ?_
  refine L_box (v := .agg #[.int .i64 a.kind, v0_1, v0_2, .int .i64 a.bound, v0_4]) (cs := #[.int .i64 a.kind, v0_1, v0_2, .int .i64 a.bound, v0_4]) rfl rfl rfl hst ?_
  intro g5 w6 hst
  refine L_box (v := .agg #[.int .i64 b.kind, v1_1, v1_2, .int .i64 b.bound, v1_4]) (cs := #[.int .i64 b.kind, v1_1, v1_2, .int .i64 b.bound, v1_4]) rfl rfl rfl hst ?_
  intro g7 w8 hst
  refine L_as (v := .bool false) rfl rfl ?_
  refine L_nil ?_
  refine W_seq ?_
  refine W_seq ?_
  refine W_region ?_
  refine L_fa (o' := 0) rfl fa_68_0 rfl rfl ?_
  refine L_ld (v := .int .i64 a.kind) rfl Try.isAgg3 rfl (At.cell0 (Blk.at (Star.blkAt 1 hst rfl)) (j := 0) rfl) ?_
  refine L_fa (o' := 0) rfl fa_68_0 rfl rfl ?_
  refine L_ld (v := .int .i64 b.kind) rfl Try.isAgg3 rfl (At.cell0 (Blk.at (Star.blkAt 0 hst rfl)) (j := 0) rfl) ?_
  refine L_neq (m := a.kind) (n := b.kind) rfl rfl rfl ?_
  refine L_nil ?_
  refine W_cond (b := (a.kind != b.kind)) rfl (fun hc9 => ?_) (fun hc9 => ?_)
  ·
    have hF := (ite_t hc9).symm.trans hF
    refine W_seq ?_
    refine W_region ?_
    refine L_as (v := .bool false) rfl rfl ?_
    refine L_nil ?_
    refine W_ret ?_
    refine retG1 (v1 := .bool false) Try.results71 rfl ?_
    obtain rfl := so hF
    exact ⟨rfl, (Star.keepN 0 hst)⟩
  ·
    have hF := (ite_f hc9).symm.trans hF
    refine W_skip ?_
    refine W_seq ?_
    refine W_seq ?_
    obtain ⟨x15, hx15, hF⟩ := bind_some hF
    refine W_region ?_
    refine L_fa (o' := 1) rfl fa_68_1 rfl rfl ?_
    refine L_ld (v := v0_1) rfl Try.isAgg22 rfl (At.cell0 (Blk.at (Star.blkAt 1 hst rfl)) (j := 1) rfl) ?_
    refine L_fa (o' := 1) rfl fa_68_1 rfl rfl ?_
    refine L_ld (v := v1_1) rfl Try.isAgg22 rfl (At.cell0 (Blk.at (Star.blkAt 0 hst rfl)) (j := 1) rfl) ?_
    obtain ⟨Hb17, hle18, hsb19, hfz20, hbk21⟩ := Star.borrow hst
    refine L_call (args := #[v0_1, v1_1]) rfl Try.call26 (ops2 rfl rfl) (l_eqIntS_c (a := a.vars) (b := b.vars) hsb19 (RP.mono _ h0_1 hle18) (RP.mono _ h1_1 hle18) hx15) ?_
    rintro _ w22 ⟨rfl, hst⟩
    have hst := hbk21 hst closedL_nil
    refine L_not_ (b := x15) rfl rfl ?_
    refine L_nil ?_
    refine W_cond (b := (!x15)) rfl (fun hc23 => ?_) (fun hc23 => ?_)
    ·
      have hF := (ite_t hc23).symm.trans hF
      refine W_seq ?_
      refine W_region ?_
      refine L_as (v := .bool false) rfl rfl ?_
      refine L_nil ?_
      refine W_ret ?_
      refine retG1 (v1 := .bool false) Try.results71 rfl ?_
      obtain rfl := so hF
      exact ⟨rfl, (Star.keepN 0 hst)⟩
    ·
      have hF := (ite_f hc23).symm.trans hF
      refine W_skip ?_
      refine W_seq ?_
      refine W_seq ?_
      obtain ⟨x29, hx29, hF⟩ := bind_some hF
      refine W_region ?_
      refine L_fa (o' := 2) rfl fa_68_2 rfl rfl ?_
      refine L_ld (v := v0_2) rfl Try.isAgg22 rfl (At.cell0 (Blk.at (Star.blkAt 1 hst rfl)) (j := 2) rfl) ?_
      refine L_fa (o' := 2) rfl fa_68_2 rfl rfl ?_
      refine L_ld (v := v1_2) rfl Try.isAgg22 rfl (At.cell0 (Blk.at (Star.blkAt 0 hst rfl)) (j := 2) rfl) ?_
      obtain ⟨Hb31, hle32, hsb33, hfz34, hbk35⟩ := Star.borrow hst
      refine L_call (args := #[v0_2, v1_2]) rfl Try.call26 (ops2 rfl rfl) (l_eqIntS_c (a := a.coefs) (b := b.coefs) hsb33 (RP.mono _ h0_2 hle32) (RP.mono _ h1_2 hle32) hx29) ?_
      rintro _ w36 ⟨rfl, hst⟩
      have hst := hbk35 hst closedL_nil
      refine L_not_ (b := x29) rfl rfl ?_
      refine L_nil ?_
      refine W_cond (b := (!x29)) rfl (fun hc37 => ?_) (fun hc37 => ?_)
      ·
        have hF := (ite_t hc37).symm.trans hF
        refine W_seq ?_
        refine W_region ?_
        refine L_as (v := .bool false) rfl rfl ?_
        refine L_nil ?_
        refine W_ret ?_
        refine retG1 (v1 := .bool false) Try.results71 rfl ?_
        obtain rfl := so hF
        exact ⟨rfl, (Star.keepN 0 hst)⟩
      ·
        have hF := (ite_f hc37).symm.trans hF
        refine W_skip ?_
        refine W_seq ?_
        refine W_seq ?_
        refine W_region ?_
        refine L_fa (o' := 3) rfl fa_68_3 rfl rfl ?_
        refine L_ld (v := .int .i64 a.bound) rfl Try.isAgg3 rfl (At.cell0 (Blk.at (Star.blkAt 1 hst rfl)) (j := 3) rfl) ?_
        refine L_fa (o' := 3) rfl fa_68_3 rfl rfl ?_
        refine L_ld (v := .int .i64 b.bound) rfl Try.isAgg3 rfl (At.cell0 (Blk.at (Star.blkAt 0 hst rfl)) (j := 3) rfl) ?_
        refine L_neq (m := a.bound) (n := b.bound) rfl rfl rfl ?_
        refine L_nil ?_
        refine W_cond (b := (a.bound != b.bound)) rfl (fun hc38 => ?_) (fun hc38 => ?_)
        ·
          have hF := (ite_t hc38).symm.trans hF
          refine W_seq ?_
          refine W_region ?_
          refine L_as (v := .bool false) rfl rfl ?_
          refine L_nil ?_
          refine W_ret ?_
          refine retG1 (v1 := .bool false) Try.results71 rfl ?_
          obtain rfl := so hF
          exact ⟨rfl, (Star.keepN 0 hst)⟩
        ·
          have hF := (ite_f hc38).symm.trans hF
          refine W_skip ?_
          refine W_seq ?_
          refine W_seq ?_
          obtain ⟨x44, hx44, hF⟩ := bind_some hF
          refine W_region ?_
          refine L_fa (o' := 4) rfl fa_68_4 rfl rfl ?_
          refine L_ld (v := v0_4) rfl Try.isAgg66 rfl (At.cell0 (Blk.at (Star.blkAt 1 hst rfl)) (j := 4) rfl) ?_
          refine L_fa (o' := 4) rfl fa_68_4 rfl rfl ?_
          refine L_ld (v := v1_4) rfl Try.isAgg66 rfl (At.cell0 (Blk.at (Star.blkAt 0 hst rfl)) (j := 4) rfl) ?_
          obtain ⟨Hb46, hle47, hsb48, hfz49, hbk50⟩ := Star.borrow hst
          refine L_call (args := #[v0_4, v1_4]) rfl Try.call90 (ops2 rfl rfl) (l_eqIntSS_c (a := a.rows) (b := b.rows) hsb48 (RP.mono _ h0_4 hle47) (RP.mono _ h1_4 hle47) hx44) ?_
          rintro _ w51 ⟨rfl, hst⟩
          have hst := hbk50 hst closedL_nil
          refine L_not_ (b := x44) rfl rfl ?_
          refine L_nil ?_
          refine W_cond (b := (!x44)) rfl (fun hc52 => ?_) (fun hc52 => ?_)
          ·
            have hF := (ite_t hc52).symm.trans hF
            refine W_seq ?_
            refine W_region ?_
            refine L_as (v := .bool false) rfl rfl ?_
            refine L_nil ?_
            refine W_ret ?_
            refine retG1 (v1 := .bool false) Try.results71 rfl ?_
            obtain rfl := so hF
            exact ⟨rfl, (Star.keepN 0 hst)⟩
          ·
            have hF := (ite_f hc52).symm.trans hF
            refine W_skip ?_
            refine W_seq ?_
            refine W_region ?_
            refine L_as (v := .bool true) rfl rfl ?_
            refine L_nil ?_
            refine W_ret ?_
            refine retG1 (v1 := .bool true) Try.results71 rfl ?_
            obtain rfl := so hF
            exact ⟨rfl, (Star.keepN 0 hst)⟩

theorem l_eqRuleS_c {a : List Rule} {b : List Rule} {v0 : Value} {v1 : Value} {H : FH} {w : World} (hst : Star H w []) (h0 : (RP.slice 68 (rRule 3 22)).rel H [v0] a) (h1 : (RP.slice 68 (rRule 3 22)).rel H [v1] b) {r : Bool} (hF : l_eqRuleS a b = some r) :
    C Try.prog 50 #[v0, v1] w fun v w' => v = .bool r ∧ Star H w' [] := by
  unfold l_eqRuleS at hF
  refine C_enter Try.func50 rfl Try.ntmps50 rfl ?_
  refine W_seq ?_
  refine W_region ?_
  refine L_as (v := .bool false) rfl rfl ?_
  refine L_nil ?_
  refine W_seq ?_
  refine W_seq ?_
  refine W_region ?_
  refine L_mv (v := v0) rfl rfl ?_
  refine L_len (v := v0) (n := List.length a) rfl Try.underlying28 rfl (slice_len h0) ?_
  refine L_mv (v := v1) rfl rfl ?_
  refine L_len (v := v1) (n := List.length b) rfl Try.underlying28 rfl (slice_len h1) ?_
  refine L_neq (m := (a.length : Int)) (n := (b.length : Int)) rfl rfl rfl ?_
  refine L_nil ?_
  refine W_cond (b := ((a.length : Int) != (b.length : Int))) rfl (fun hc1 => ?_) (fun hc1 => ?_)
  ·
    have hF := (ite_t hc1).symm.trans hF
    refine W_seq ?_
    refine W_region ?_
    refine L_as (v := .bool false) rfl rfl ?_
    refine L_nil ?_
    refine W_ret ?_
    refine retG1 (v1 := .bool false) Try.results50 rfl ?_
    obtain rfl := so hF
    exact ⟨rfl, hst⟩
  ·
    have hF := (ite_f hc1).symm.trans hF
    refine W_skip ?_
    refine W_seq ?_
    refine W_seq ?_
    refine W_region ?_
    refine L_as (v := .int .i64 0) rfl rfl ?_
    refine L_nil ?_
    have hlen5 : List.length a ≤ 9223372036854775807 := len_le (slice_len h0)
    obtain ⟨j5, hL5, hF⟩ := bind_some hF
    obtain ⟨R5, hR5⟩ : ∃ R : Fr → World → Prop, R = fun f w_ => ∃ H3 : FH, j5 = .nx () ∧ Le H H3 ∧ Star H3 w_ ([]) := ⟨_, rfl⟩
    refine W_join R5 ?_ ?_
    ·
      refine W_block ?_
      obtain ⟨I5, hI5⟩ : ∃ I : Nat → Fr → World → Prop, I = fun n f w_ => ∃ i_2 : Nat, ∃ suf5 : List Rule, ∃ H3 : FH, n = suf5.length ∧ List.drop i_2 a = suf5 ∧ i_2 + suf5.length = a.length ∧ rangeL (l_eqRuleS_b1 b) suf5 i_2 () = some j5 ∧ Le H H3 ∧ f 0 = v0 ∧ f 1 = v1 ∧ f 5 = .int .i64 (i_2 : Int) ∧ Star H3 w_ ([]) := ⟨_, rfl⟩
      refine W_loop I5 (n := a.length) ?_ ?_
      · rw [hI5]; exact ⟨0, a, H, rfl, rfl, Nat.zero_add _, hL5, (Le.refl _), rfl, rfl, rfl, hst⟩
      ·
        clear hst
        intro n5 f w_ hI
        rw [hI5] at hI
        obtain ⟨i_2, suf5, H3, rfl, hd5, hl5, hL5, hle4, sf0, sf1, sf5, hst⟩ := hI
        refine W_seq ?_
        refine W_seq ?_
        refine W_region ?_
        refine L_mv (v := .int .i64 (i_2 : Int)) rfl sf5 ?_
        refine L_mv (v := v0) rfl sf0 ?_
        refine L_len (v := v0) (n := List.length a) rfl Try.underlying28 rfl (slice_len (RP.mono _ h0 hle4)) ?_
        refine L_lss (m := (i_2 : Int)) (n := (a.length : Int)) rfl rfl rfl ?_
        refine L_nil ?_
        refine W_cond (b := decide ((i_2 : Int) < (a.length : Int))) rfl (fun hc6 => ?_) (fun hc6 => ?_)
        ·
          have hlt5 := of_decide_eq_true hc6
          cases suf5 with
          | nil => exact absurd hlt5 (by simp at hl5; omega)
          | cons x_5 rest5 =>
            obtain ⟨o5, hB5, hL5⟩ := range_cons hL5
            rw [l_eqRuleS_b1] at hB5
            have hix5 := drop_idx hd5
            refine W_skip ?_
            refine W_seq ?_
            refine W_block ?_
            refine W_seq ?_
            obtain ⟨x11, hx11, hB5⟩ := bind_some hB5
            obtain ⟨x21, hx21, hB5⟩ := bind_some hB5
            refine W_drawS 8 [isV (v0), isV (.int .i64 (i_2 : Int)), isEl (rRule 3 22) x_5 0, exD (isData (RP.slice 3 RP.int) x_5.vars) fun u_1 => exD (isData (RP.slice 3 RP.int) x_5.coefs) fun u_2 => exD (isData (RP.slice 22 (RP.slice 3 RP.int)) x_5.rows) fun u_4 => isV (.agg #[.int .i64 x_5.kind, u_1, u_2, .int .i64 x_5.bound, u_4]), isV (v1), isV (.int .i64 (i_2 : Int)), isEl (rRule 3 22) x11 0, exD (isData (RP.slice 3 RP.int) x11.vars) fun u_1 => exD (isData (RP.slice 3 RP.int) x11.coefs) fun u_2 => exD (isData (RP.slice 22 (RP.slice 3 RP.int)) x11.rows) fun u_4 => isV (.agg #[.int .i64 x11.kind, u_1, u_2, .int .i64 x11.bound, u_4])] [] [] ([]) [([], []), ([], []), ([], []), ([], []), ([], []), ([], []), ([], []), ([], [])] (S := []) Try_mix (by kernel_rfl) rfl (by kernel_rfl) (amF_cons (mono_V _) (amF_cons (mono_V _) (amF_cons (mono_el _ _ _) (amF_cons (mono_exD (mono_data _ _) fun _ => mono_exD (mono_data _ _) fun _ => mono_exD (mono_data _ _) fun _ => mono_V _) (amF_cons (mono_V _) (amF_cons (mono_V _) (amF_cons (mono_el _ _ _) (amF_cons (mono_exD (mono_data _ _) fun _ => mono_exD (mono_data _ _) fun _ => mono_exD (mono_data _ _) fun _ => mono_V _) amF_nil)))))))) hst ?_ (fun f w_ H23 hS23 hE23 hT23 hst => ?_)
            ·
              refine opsS_cons ?_ ?_
              ·
                intro f w_ H23 X23 hS23 hE23 hP23 hst
                refine L_mv (v := v0) rfl ((hS23 0 rfl).trans sf0) ?_
                exact L_nil ⟨rfl, _, _, _, rfl, rfl, Le.refl _, rfl, hst⟩
              refine opsS_cons ?_ ?_
              ·
                intro f w_ H23 X23 hS23 hE23 hP23 hst
                refine L_mv (v := .int .i64 (i_2 : Int)) rfl ((hS23 5 rfl).trans sf5) ?_
                exact L_nil ⟨rfl, _, _, _, rfl, rfl, Le.refl _, rfl, hst⟩
              refine opsS_cons ?_ ?_
              ·
                intro f w_ H23 X23 hS23 hE23 hP23 hst
                refine L_ix (r := (rRule 3 22)) rfl Try.underlying28 Try.sizeOf68 (hP23 0 17 rfl rfl) (RP.mono _ h0 (Le.trans hle4 hE23)) (hP23 1 18 rfl rfl) hix5 ?_
                intro g32 o33 cs_g32 hrk_hat34 hat34
                obtain ⟨u35_0, u35_1, u35_2, rfl, hu35_0, hu35_1, hu35_2⟩ := rRule_iff.1 hrk_hat34
                exact L_nil ⟨rfl, _, _, _, rfl, rfl, Le.refl _, ⟨_, _, _, rfl, hrk_hat34, hat34⟩, hst⟩
              refine opsS_cons ?_ ?_
              ·
                intro f w_ H23 X23 hS23 hE23 hP23 hst
                obtain ⟨g36, o36, cs36, hv36, hrk_hat36, hat36⟩ := (hP23 2 19 rfl rfl)
                obtain ⟨u37_0, u37_1, u37_2, rfl, hu37_0, hu37_1, hu37_2⟩ := rRule_iff.1 hrk_hat36
                refine L_lda (cs := [.int .i64 x_5.kind, u37_0, u37_1, .int .i64 x_5.bound, u37_2]) rfl Try.isAgg68 Try.sizeOf68 hv36 (At.sub (AtH.at hat36 hst.sub) 0 5) rfl ?_
                exact L_nil ⟨rfl, _, _, _, rfl, rfl, Le.refl _, ⟨_, hu37_0, _, hu37_1, _, hu37_2, rfl⟩, hst⟩
              refine opsS_cons ?_ ?_
              ·
                intro f w_ H23 X23 hS23 hE23 hP23 hst
                refine L_mv (v := v1) rfl ((hS23 1 rfl).trans sf1) ?_
                exact L_nil ⟨rfl, _, _, _, rfl, rfl, Le.refl _, rfl, hst⟩
              refine opsS_cons ?_ ?_
              ·
                intro f w_ H23 X23 hS23 hE23 hP23 hst
                refine L_mv (v := .int .i64 (i_2 : Int)) rfl ((hS23 5 rfl).trans sf5) ?_
                exact L_nil ⟨rfl, _, _, _, rfl, rfl, Le.refl _, rfl, hst⟩
              refine opsS_cons ?_ ?_
              ·
                intro f w_ H23 X23 hS23 hE23 hP23 hst
                refine L_ix (r := (rRule 3 22)) rfl Try.underlying28 Try.sizeOf68 (hP23 4 21 rfl rfl) (RP.mono _ h1 (Le.trans hle4 hE23)) (hP23 5 22 rfl rfl) hx11 ?_
                intro g38 o39 cs_g38 hrk_hat40 hat40
                obtain ⟨u41_0, u41_1, u41_2, rfl, hu41_0, hu41_1, hu41_2⟩ := rRule_iff.1 hrk_hat40
                exact L_nil ⟨rfl, _, _, _, rfl, rfl, Le.refl _, ⟨_, _, _, rfl, hrk_hat40, hat40⟩, hst⟩
              refine opsS_cons ?_ ?_
              ·
                intro f w_ H23 X23 hS23 hE23 hP23 hst
                obtain ⟨g42, o42, cs42, hv42, hrk_hat42, hat42⟩ := (hP23 6 23 rfl rfl)
                obtain ⟨u43_0, u43_1, u43_2, rfl, hu43_0, hu43_1, hu43_2⟩ := rRule_iff.1 hrk_hat42
                refine L_lda (cs := [.int .i64 x11.kind, u43_0, u43_1, .int .i64 x11.bound, u43_2]) rfl Try.isAgg68 Try.sizeOf68 hv42 (At.sub (AtH.at hat42 hst.sub) 0 5) rfl ?_
                exact L_nil ⟨rfl, _, _, _, rfl, rfl, Le.refl _, ⟨_, hu43_0, _, hu43_1, _, hu43_2, rfl⟩, hst⟩
              exact opsS_nil
            ·
              obtain ⟨u44_1, hu44_1, u44_2, hu44_2, u44_4, hu44_4, hv44⟩ := (hT23 3 20 rfl rfl)
              obtain ⟨u45_1, hu45_1, u45_2, hu45_2, u45_4, hu45_4, hv45⟩ := (hT23 7 24 rfl rfl)
              obtain ⟨Hb46, hle47, hsb48, hfz49, hbk50⟩ := Star.borrow hst
              refine L_call (args := #[.agg #[.int .i64 x_5.kind, u44_1, u44_2, .int .i64 x_5.bound, u44_4], .agg #[.int .i64 x11.kind, u45_1, u45_2, .int .i64 x11.bound, u45_4]]) rfl Try.call71 (ops2 hv44 hv45) (l_eqRule_c (a := x_5) (b := x11) hsb48 (RP.mono _ hu44_1 hle47) (RP.mono _ hu44_2 hle47) (RP.mono _ hu44_4 hle47) (RP.mono _ hu45_1 hle47) (RP.mono _ hu45_2 hle47) (RP.mono _ hu45_4 hle47) hx21) ?_
              rintro _ w51 ⟨rfl, hst⟩
              have hst := hbk50 hst closedL_nil
              refine L_not_ (b := x21) rfl rfl ?_
              refine L_nil ?_
              refine W_cond (b := (!x21)) rfl (fun hc52 => ?_) (fun hc52 => ?_)
              ·
                have hB5 := (ite_t hc52).symm.trans hB5
                refine W_seq ?_
                refine W_region ?_
                refine L_as (v := .bool false) rfl rfl ?_
                refine L_nil ?_
                refine W_ret ?_
                refine retG1 (v1 := .bool false) Try.results50 rfl ?_
                obtain rfl := so hB5
                obtain rfl := so hL5
                obtain rfl := so hF
                exact ⟨rfl, (Star.down hst (Le.trans hle4 hE23) closedL_nil)⟩
              ·
                have hB5 := (ite_f hc52).symm.trans hB5
                refine W_skip ?_
                refine W_region ?_
                refine L_mv (v := .int .i64 (i_2 : Int)) rfl ((hS23 5 rfl).trans sf5) ?_
                refine L_add (m := (i_2 : Int)) (n := 1) rfl rfl rfl ?_
                refine L_as (v := .int .i64 (i64 ((i_2 : Int) + 1))) rfl rfl ?_
                refine L_nil ?_
                obtain rfl := so hB5
                show ∃ m, m < _ ∧ I5 m _ _
                refine ⟨rest5.length, by simp, ?_⟩
                rw [hI5]
                exact ⟨i_2 + 1, rest5, H23, rfl, drop_next hd5, by simp at hl5; omega, hL5, (Le.trans hle4 hE23), ((hS23 0 rfl).trans sf0), ((hS23 1 rfl).trans sf1), (Eq.trans rfl (congrArg (Value.int .i64) (i64_succ (n := a.length) (by simp at hl5; omega) hlen5))), hst⟩
        ·
          cases suf5 with
          | cons _ _ => exact absurd (of_decide_eq_false hc6) (by simp at hl5; omega)
          | nil =>
            obtain rfl := range_nil hL5
            refine W_exit ?_
            show R5 _ _
            rw [hR5]
            exact ⟨H3, rfl, hle4, hst⟩
    ·
      clear hst
      intro f w_ hR
      rw [hR5] at hR
      obtain ⟨H3, rfl, hle4, hst⟩ := hR
      clear hR5
      refine W_seq ?_
      refine W_region ?_
      refine L_as (v := .bool true) rfl rfl ?_
      refine L_nil ?_
      refine W_ret ?_
      refine retG1 (v1 := .bool true) Try.results50 rfl ?_
      obtain rfl := so hF
      exact ⟨rfl, (Star.down hst hle4 closedL_nil)⟩

theorem l_eqModel_c {a : Model} {b : Model} {v0_0 : Value} {v0_1 : Value} {v1_0 : Value} {v1_1 : Value} {H : FH} {w : World} (hst : Star H w []) (h0_0 : (RP.slice 3 RP.int).rel H [v0_0] a.sizes) (h0_1 : (RP.slice 68 (rRule 3 22)).rel H [v0_1] a.rules) (h1_0 : (RP.slice 3 RP.int).rel H [v1_0] b.sizes) (h1_1 : (RP.slice 68 (rRule 3 22)).rel H [v1_1] b.rules) {r : Bool} (hF : l_eqModel a b = some r) :
    C Try.prog 15 #[.agg #[v0_0, v0_1], .agg #[v1_0, v1_1]] w fun v w' => v = .bool r ∧ Star H w' [] := by
  unfold l_eqModel at hF
  refine C_enter Try.func15 rfl Try.ntmps15 rfl ?_
  refine W_seq ?_
  refine W_region ?_
  refine L_box (v := .agg #[v0_0, v0_1]) (cs := #[v0_0, v0_1]) rfl rfl rfl hst ?_
  intro g5 w6 hst
  refine L_box (v := .agg #[v1_0, v1_1]) (cs := #[v1_0, v1_1]) rfl rfl rfl hst ?_
  intro g7 w8 hst
  refine L_as (v := .bool false) rfl rfl ?_
  refine L_nil ?_
  refine W_seq ?_
  refine W_seq ?_
  obtain ⟨x14, hx14, hF⟩ := bind_some hF
  refine W_region ?_
  refine L_fa (o' := 0) rfl fa_30_0 rfl rfl ?_
  refine L_ld (v := v0_0) rfl Try.isAgg22 rfl (At.cell0 (Blk.at (Star.blkAt 1 hst rfl)) (j := 0) rfl) ?_
  refine L_fa (o' := 0) rfl fa_30_0 rfl rfl ?_
  refine L_ld (v := v1_0) rfl Try.isAgg22 rfl (At.cell0 (Blk.at (Star.blkAt 0 hst rfl)) (j := 0) rfl) ?_
  obtain ⟨Hb16, hle17, hsb18, hfz19, hbk20⟩ := Star.borrow hst
  refine L_call (args := #[v0_0, v1_0]) rfl Try.call26 (ops2 rfl rfl) (l_eqIntS_c (a := a.sizes) (b := b.sizes) hsb18 (RP.mono _ h0_0 hle17) (RP.mono _ h1_0 hle17) hx14) ?_
  rintro _ w21 ⟨rfl, hst⟩
  have hst := hbk20 hst closedL_nil
  refine L_not_ (b := x14) rfl rfl ?_
  refine L_nil ?_
  refine W_cond (b := (!x14)) rfl (fun hc22 => ?_) (fun hc22 => ?_)
  ·
    have hF := (ite_t hc22).symm.trans hF
    refine W_seq ?_
    refine W_region ?_
    refine L_as (v := .bool false) rfl rfl ?_
    refine L_nil ?_
    refine W_ret ?_
    refine retG1 (v1 := .bool false) Try.results15 rfl ?_
    obtain rfl := so hF
    exact ⟨rfl, (Star.keepN 0 hst)⟩
  ·
    have hF := (ite_f hc22).symm.trans hF
    refine W_skip ?_
    refine W_seq ?_
    refine W_seq ?_
    obtain ⟨x28, hx28, hF⟩ := bind_some hF
    refine W_region ?_
    refine L_fa (o' := 1) rfl fa_30_1 rfl rfl ?_
    refine L_ld (v := v0_1) rfl Try.isAgg28 rfl (At.cell0 (Blk.at (Star.blkAt 1 hst rfl)) (j := 1) rfl) ?_
    refine L_fa (o' := 1) rfl fa_30_1 rfl rfl ?_
    refine L_ld (v := v1_1) rfl Try.isAgg28 rfl (At.cell0 (Blk.at (Star.blkAt 0 hst rfl)) (j := 1) rfl) ?_
    obtain ⟨Hb30, hle31, hsb32, hfz33, hbk34⟩ := Star.borrow hst
    refine L_call (args := #[v0_1, v1_1]) rfl Try.call50 (ops2 rfl rfl) (l_eqRuleS_c (a := a.rules) (b := b.rules) hsb32 (RP.mono _ h0_1 hle31) (RP.mono _ h1_1 hle31) hx28) ?_
    rintro _ w35 ⟨rfl, hst⟩
    have hst := hbk34 hst closedL_nil
    refine L_not_ (b := x28) rfl rfl ?_
    refine L_nil ?_
    refine W_cond (b := (!x28)) rfl (fun hc36 => ?_) (fun hc36 => ?_)
    ·
      have hF := (ite_t hc36).symm.trans hF
      refine W_seq ?_
      refine W_region ?_
      refine L_as (v := .bool false) rfl rfl ?_
      refine L_nil ?_
      refine W_ret ?_
      refine retG1 (v1 := .bool false) Try.results15 rfl ?_
      obtain rfl := so hF
      exact ⟨rfl, (Star.keepN 0 hst)⟩
    ·
      have hF := (ite_f hc36).symm.trans hF
      refine W_skip ?_
      refine W_seq ?_
      refine W_region ?_
      refine L_as (v := .bool true) rfl rfl ?_
      refine L_nil ?_
      refine W_ret ?_
      refine retG1 (v1 := .bool true) Try.results15 rfl ?_
      obtain rfl := so hF
      exact ⟨rfl, (Star.keepN 0 hst)⟩

theorem l_toBoolS_c {a : List Bool} {v0 : Value} {H : FH} {w : World} (hst : Star H w []) (h0 : (RP.slice 4 RP.bool).rel H [v0] a) {r : List Bool} (hF : l_toBoolS a = some r) :
    C Try.prog 37 #[v0] w fun v w' => ∃ (u1 : Value), v = u1 ∧ Star H w' [own (OR.ownS 4 (OR.frz RP.bool)) [u1] r] := by
  unfold l_toBoolS at hF
  refine C_enter Try.func37 rfl Try.ntmps37 rfl ?_
  refine W_seq ?_
  refine W_region ?_
  refine L_as (v := (.slice none 0 0)) rfl rfl ?_
  refine L_nil ?_
  refine W_seq ?_
  obtain ⟨x1, hx1, hF⟩ := bind_some hF
  refine W_region ?_
  refine L_mv (v := v0) rfl rfl ?_
  refine L_len (v := v0) (n := List.length a) rfl Try.underlying46 rfl (slice_len h0) ?_
  refine L_mk (R := (OR.frz RP.bool)) (z0 := false) (zc := [.bool false]) rfl et_46 (by kernel_rfl) (fun _ _ => ⟨rfl, rfl⟩) rfl rfl hx1 hst ?_
  intro v5 w6 hst
  refine L_as (v := v5) rfl rfl ?_
  refine L_nil ?_
  refine W_seq ?_
  refine W_seq ?_
  refine W_region ?_
  refine L_as (v := .int .i64 0) rfl rfl ?_
  refine L_nil ?_
  have hlen10 : List.length a ≤ 9223372036854775807 := len_le (slice_len h0)
  obtain ⟨j10, hL10, hF⟩ := bind_some hF
  obtain ⟨R10, hR10⟩ : ∃ R : Fr → World → Prop, R = fun f w_ => ∃ out_9 : List Bool, j10 = .nx out_9 ∧ f 3 = v5 ∧ Star H w_ ([own (OR.ownS 4 (OR.frz RP.bool)) [v5] out_9]) := ⟨_, rfl⟩
  refine W_join R10 ?_ ?_
  ·
    refine W_block ?_
    obtain ⟨I10, hI10⟩ : ∃ I : Nat → Fr → World → Prop, I = fun n f w_ => ∃ i_8 : Nat, ∃ suf10 : List Bool, ∃ out_9 : List Bool, n = suf10.length ∧ List.drop i_8 a = suf10 ∧ i_8 + suf10.length = a.length ∧ rangeL l_toBoolS_b1 suf10 i_8 out_9 = some j10 ∧ f 0 = v0 ∧ f 3 = v5 ∧ f 4 = .int .i64 (i_8 : Int) ∧ Star H w_ ([own (OR.ownS 4 (OR.frz RP.bool)) [v5] out_9]) := ⟨_, rfl⟩
    refine W_loop I10 (n := a.length) ?_ ?_
    · rw [hI10]; exact ⟨0, a, x1, rfl, rfl, Nat.zero_add _, hL10, rfl, rfl, rfl, hst⟩
    ·
      clear hst
      intro n10 f w_ hI
      rw [hI10] at hI
      obtain ⟨i_8, suf10, out_9, rfl, hd10, hl10, hL10, sf0, sf3, sf4, hst⟩ := hI
      refine W_seq ?_
      refine W_seq ?_
      refine W_region ?_
      refine L_mv (v := .int .i64 (i_8 : Int)) rfl sf4 ?_
      refine L_mv (v := v0) rfl sf0 ?_
      refine L_len (v := v0) (n := List.length a) rfl Try.underlying46 rfl (slice_len h0) ?_
      refine L_lss (m := (i_8 : Int)) (n := (a.length : Int)) rfl rfl rfl ?_
      refine L_nil ?_
      refine W_cond (b := decide ((i_8 : Int) < (a.length : Int))) rfl (fun hc11 => ?_) (fun hc11 => ?_)
      ·
        have hlt10 := of_decide_eq_true hc11
        cases suf10 with
        | nil => exact absurd hlt10 (by simp at hl10; omega)
        | cons x_10 rest10 =>
          obtain ⟨o10, hB10, hL10⟩ := range_cons hL10
          rw [l_toBoolS_b1] at hB10
          have hix10 := drop_idx hd10
          refine W_skip ?_
          refine W_seq ?_
          refine W_block ?_
          obtain ⟨x16, hx16, hB10⟩ := bind_some hB10
          refine W_region ?_
          refine L_mv (v := v5) rfl sf3 ?_
          refine L_mv (v := .int .i64 (i_8 : Int)) rfl sf4 ?_
          refine L_mv (v := v0) rfl sf0 ?_
          refine L_mv (v := .int .i64 (i_8 : Int)) rfl sf4 ?_
          refine L_ix (r := RP.bool) rfl Try.underlying46 Try.sizeOf4 rfl h0 rfl hix10 ?_
          intro g20 o21 cs_g20 hrk_hat22 hat22
          obtain rfl : _ = [_] := hrk_hat22
          refine L_ld (v := .bool x_10) rfl Try.isAgg4 rfl (At.cell (AtH.at hat22 hst.sub) (j := 0) rfl) ?_
          obtain ⟨g24, cap_g24, hv25, _, _⟩ := Star.row 0 hst rfl hx16
          refine L_ixO (R := (OR.frz RP.bool)) (tb := 0) 0 rfl Try.underlying46 Try.sizeOf4 rfl hv25 (by first | rfl | simp) rfl hx16 ?_
          have hst := Star.addF (r := RP.bool) (cs := [.bool x_10]) (x := x_10) hst rfl
          refine L_stE1 (u := .bool x_10) rfl Try.sizeOf4 rfl rfl rfl hv25 hst hx16 ?_
          intro w26 hst
          refine L_nil ?_
          refine W_region ?_
          refine L_mv (v := .int .i64 (i_8 : Int)) rfl sf4 ?_
          refine L_add (m := (i_8 : Int)) (n := 1) rfl rfl rfl ?_
          refine L_as (v := .int .i64 (i64 ((i_8 : Int) + 1))) rfl rfl ?_
          refine L_nil ?_
          obtain rfl := so hB10
          show ∃ m, m < _ ∧ I10 m _ _
          refine ⟨rest10.length, by simp, ?_⟩
          rw [hI10]
          exact ⟨i_8 + 1, rest10, (out_9.set (Int.toNat (i_8 : Int)) x_10), rfl, drop_next hd10, by simp at hl10; omega, hL10, sf0, sf3, (Eq.trans rfl (congrArg (Value.int .i64) (i64_succ (n := a.length) (by simp at hl10; omega) hlen10))), hst⟩
      ·
        cases suf10 with
        | cons _ _ => exact absurd (of_decide_eq_false hc11) (by simp at hl10; omega)
        | nil =>
          obtain rfl := range_nil hL10
          refine W_exit ?_
          show R10 _ _
          rw [hR10]
          exact ⟨out_9, rfl, sf3, hst⟩
  ·
    clear hst
    intro f w_ hR
    rw [hR10] at hR
    obtain ⟨out_9, rfl, sf3, hst⟩ := hR
    clear hR10
    refine W_seq ?_
    refine W_region ?_
    refine L_mv (v := v5) rfl sf3 ?_
    refine L_as (v := v5) rfl rfl ?_
    refine L_nil ?_
    refine W_ret ?_
    refine retG1 (v1 := v5) Try.results37 rfl ?_
    obtain rfl := so hF
    exact ⟨v5, rfl, hst⟩

theorem l_eqBoolS_c {a : List Bool} {b : List Bool} {v0 : Value} {v1 : Value} {H : FH} {w : World} (hst : Star H w []) (h0 : (RP.slice 4 RP.bool).rel H [v0] a) (h1 : (RP.slice 4 RP.bool).rel H [v1] b) {r : Bool} (hF : l_eqBoolS a b = some r) :
    C Try.prog 29 #[v0, v1] w fun v w' => v = .bool r ∧ Star H w' [] := by
  unfold l_eqBoolS at hF
  refine C_enter Try.func29 rfl Try.ntmps29 rfl ?_
  refine W_seq ?_
  refine W_region ?_
  refine L_as (v := .bool false) rfl rfl ?_
  refine L_nil ?_
  refine W_seq ?_
  refine W_seq ?_
  refine W_region ?_
  refine L_mv (v := v0) rfl rfl ?_
  refine L_len (v := v0) (n := List.length a) rfl Try.underlying46 rfl (slice_len h0) ?_
  refine L_mv (v := v1) rfl rfl ?_
  refine L_len (v := v1) (n := List.length b) rfl Try.underlying46 rfl (slice_len h1) ?_
  refine L_neq (m := (a.length : Int)) (n := (b.length : Int)) rfl rfl rfl ?_
  refine L_nil ?_
  refine W_cond (b := ((a.length : Int) != (b.length : Int))) rfl (fun hc1 => ?_) (fun hc1 => ?_)
  ·
    have hF := (ite_t hc1).symm.trans hF
    refine W_seq ?_
    refine W_region ?_
    refine L_as (v := .bool false) rfl rfl ?_
    refine L_nil ?_
    refine W_ret ?_
    refine retG1 (v1 := .bool false) Try.results29 rfl ?_
    obtain rfl := so hF
    exact ⟨rfl, hst⟩
  ·
    have hF := (ite_f hc1).symm.trans hF
    refine W_skip ?_
    refine W_seq ?_
    refine W_seq ?_
    refine W_region ?_
    refine L_as (v := .int .i64 0) rfl rfl ?_
    refine L_nil ?_
    have hlen5 : List.length a ≤ 9223372036854775807 := len_le (slice_len h0)
    obtain ⟨j5, hL5, hF⟩ := bind_some hF
    obtain ⟨R5, hR5⟩ : ∃ R : Fr → World → Prop, R = fun f w_ => ∃ H3 : FH, j5 = .nx () ∧ Le H H3 ∧ Star H3 w_ ([]) := ⟨_, rfl⟩
    refine W_join R5 ?_ ?_
    ·
      refine W_block ?_
      obtain ⟨I5, hI5⟩ : ∃ I : Nat → Fr → World → Prop, I = fun n f w_ => ∃ i_2 : Nat, ∃ suf5 : List Bool, ∃ H3 : FH, n = suf5.length ∧ List.drop i_2 a = suf5 ∧ i_2 + suf5.length = a.length ∧ rangeL (l_eqBoolS_b1 b) suf5 i_2 () = some j5 ∧ Le H H3 ∧ f 0 = v0 ∧ f 1 = v1 ∧ f 5 = .int .i64 (i_2 : Int) ∧ Star H3 w_ ([]) := ⟨_, rfl⟩
      refine W_loop I5 (n := a.length) ?_ ?_
      · rw [hI5]; exact ⟨0, a, H, rfl, rfl, Nat.zero_add _, hL5, (Le.refl _), rfl, rfl, rfl, hst⟩
      ·
        clear hst
        intro n5 f w_ hI
        rw [hI5] at hI
        obtain ⟨i_2, suf5, H3, rfl, hd5, hl5, hL5, hle4, sf0, sf1, sf5, hst⟩ := hI
        refine W_seq ?_
        refine W_seq ?_
        refine W_region ?_
        refine L_mv (v := .int .i64 (i_2 : Int)) rfl sf5 ?_
        refine L_mv (v := v0) rfl sf0 ?_
        refine L_len (v := v0) (n := List.length a) rfl Try.underlying46 rfl (slice_len (RP.mono _ h0 hle4)) ?_
        refine L_lss (m := (i_2 : Int)) (n := (a.length : Int)) rfl rfl rfl ?_
        refine L_nil ?_
        refine W_cond (b := decide ((i_2 : Int) < (a.length : Int))) rfl (fun hc6 => ?_) (fun hc6 => ?_)
        ·
          have hlt5 := of_decide_eq_true hc6
          cases suf5 with
          | nil => exact absurd hlt5 (by simp at hl5; omega)
          | cons x_5 rest5 =>
            obtain ⟨o5, hB5, hL5⟩ := range_cons hL5
            rw [l_eqBoolS_b1] at hB5
            have hix5 := drop_idx hd5
            refine W_skip ?_
            refine W_seq ?_
            refine W_block ?_
            refine W_seq ?_
            obtain ⟨x11, hx11, hB5⟩ := bind_some hB5
            refine W_drawS 8 [isV (v0), isV (.int .i64 (i_2 : Int)), isEl RP.bool x_5 0, isV (.bool x_5), isV (v1), isV (.int .i64 (i_2 : Int)), isEl RP.bool x11 0, isV (.bool x11)] [] [] ([]) [([], []), ([], []), ([], []), ([], []), ([], []), ([], []), ([], []), ([], [])] (S := []) Try_mix (by kernel_rfl) rfl (by kernel_rfl) (amF_cons (mono_V _) (amF_cons (mono_V _) (amF_cons (mono_el _ _ _) (amF_cons (mono_V _) (amF_cons (mono_V _) (amF_cons (mono_V _) (amF_cons (mono_el _ _ _) (amF_cons (mono_V _) amF_nil)))))))) hst ?_ (fun f w_ H16 hS16 hE16 hT16 hst => ?_)
            ·
              refine opsS_cons ?_ ?_
              ·
                intro f w_ H16 X16 hS16 hE16 hP16 hst
                refine L_mv (v := v0) rfl ((hS16 0 rfl).trans sf0) ?_
                exact L_nil ⟨rfl, _, _, _, rfl, rfl, Le.refl _, rfl, hst⟩
              refine opsS_cons ?_ ?_
              ·
                intro f w_ H16 X16 hS16 hE16 hP16 hst
                refine L_mv (v := .int .i64 (i_2 : Int)) rfl ((hS16 5 rfl).trans sf5) ?_
                exact L_nil ⟨rfl, _, _, _, rfl, rfl, Le.refl _, rfl, hst⟩
              refine opsS_cons ?_ ?_
              ·
                intro f w_ H16 X16 hS16 hE16 hP16 hst
                refine L_ix (r := RP.bool) rfl Try.underlying46 Try.sizeOf4 (hP16 0 17 rfl rfl) (RP.mono _ h0 (Le.trans hle4 hE16)) (hP16 1 18 rfl rfl) hix5 ?_
                intro g25 o26 cs_g25 hrk_hat27 hat27
                obtain rfl : _ = [_] := hrk_hat27
                exact L_nil ⟨rfl, _, _, _, rfl, rfl, Le.refl _, ⟨_, _, _, rfl, rfl, hat27⟩, hst⟩
              refine opsS_cons ?_ ?_
              ·
                intro f w_ H16 X16 hS16 hE16 hP16 hst
                obtain ⟨g29, o29, cs29, hv29, hrk_hat29, hat29⟩ := (hP16 2 19 rfl rfl)
                obtain rfl : _ = [_] := hrk_hat29
                refine L_ld (v := .bool x_5) rfl Try.isAgg4 hv29 (At.cell (AtH.at hat29 hst.sub) (j := 0) rfl) ?_
                exact L_nil ⟨rfl, _, _, _, rfl, rfl, Le.refl _, rfl, hst⟩
              refine opsS_cons ?_ ?_
              ·
                intro f w_ H16 X16 hS16 hE16 hP16 hst
                refine L_mv (v := v1) rfl ((hS16 1 rfl).trans sf1) ?_
                exact L_nil ⟨rfl, _, _, _, rfl, rfl, Le.refl _, rfl, hst⟩
              refine opsS_cons ?_ ?_
              ·
                intro f w_ H16 X16 hS16 hE16 hP16 hst
                refine L_mv (v := .int .i64 (i_2 : Int)) rfl ((hS16 5 rfl).trans sf5) ?_
                exact L_nil ⟨rfl, _, _, _, rfl, rfl, Le.refl _, rfl, hst⟩
              refine opsS_cons ?_ ?_
              ·
                intro f w_ H16 X16 hS16 hE16 hP16 hst
                refine L_ix (r := RP.bool) rfl Try.underlying46 Try.sizeOf4 (hP16 4 21 rfl rfl) (RP.mono _ h1 (Le.trans hle4 hE16)) (hP16 5 22 rfl rfl) hx11 ?_
                intro g31 o32 cs_g31 hrk_hat33 hat33
                obtain rfl : _ = [_] := hrk_hat33
                exact L_nil ⟨rfl, _, _, _, rfl, rfl, Le.refl _, ⟨_, _, _, rfl, rfl, hat33⟩, hst⟩
              refine opsS_cons ?_ ?_
              ·
                intro f w_ H16 X16 hS16 hE16 hP16 hst
                obtain ⟨g35, o35, cs35, hv35, hrk_hat35, hat35⟩ := (hP16 6 23 rfl rfl)
                obtain rfl : _ = [_] := hrk_hat35
                refine L_ld (v := .bool x11) rfl Try.isAgg4 hv35 (At.cell (AtH.at hat35 hst.sub) (j := 0) rfl) ?_
                exact L_nil ⟨rfl, _, _, _, rfl, rfl, Le.refl _, rfl, hst⟩
              exact opsS_nil
            ·
              refine L_bneq (b := x_5) (c := x11) rfl Try.underlying4 (hT16 3 20 rfl rfl) (hT16 7 24 rfl rfl) ?_
              refine L_nil ?_
              refine W_cond (b := (x_5 != x11)) rfl (fun hc37 => ?_) (fun hc37 => ?_)
              ·
                have hB5 := (ite_t hc37).symm.trans hB5
                refine W_seq ?_
                refine W_region ?_
                refine L_as (v := .bool false) rfl rfl ?_
                refine L_nil ?_
                refine W_ret ?_
                refine retG1 (v1 := .bool false) Try.results29 rfl ?_
                obtain rfl := so hB5
                obtain rfl := so hL5
                obtain rfl := so hF
                exact ⟨rfl, (Star.down hst (Le.trans hle4 hE16) closedL_nil)⟩
              ·
                have hB5 := (ite_f hc37).symm.trans hB5
                refine W_skip ?_
                refine W_region ?_
                refine L_mv (v := .int .i64 (i_2 : Int)) rfl ((hS16 5 rfl).trans sf5) ?_
                refine L_add (m := (i_2 : Int)) (n := 1) rfl rfl rfl ?_
                refine L_as (v := .int .i64 (i64 ((i_2 : Int) + 1))) rfl rfl ?_
                refine L_nil ?_
                obtain rfl := so hB5
                show ∃ m, m < _ ∧ I5 m _ _
                refine ⟨rest5.length, by simp, ?_⟩
                rw [hI5]
                exact ⟨i_2 + 1, rest5, H16, rfl, drop_next hd5, by simp at hl5; omega, hL5, (Le.trans hle4 hE16), ((hS16 0 rfl).trans sf0), ((hS16 1 rfl).trans sf1), (Eq.trans rfl (congrArg (Value.int .i64) (i64_succ (n := a.length) (by simp at hl5; omega) hlen5))), hst⟩
        ·
          cases suf5 with
          | cons _ _ => exact absurd (of_decide_eq_false hc6) (by simp at hl5; omega)
          | nil =>
            obtain rfl := range_nil hL5
            refine W_exit ?_
            show R5 _ _
            rw [hR5]
            exact ⟨H3, rfl, hle4, hst⟩
    ·
      clear hst
      intro f w_ hR
      rw [hR5] at hR
      obtain ⟨H3, rfl, hle4, hst⟩ := hR
      clear hR5
      refine W_seq ?_
      refine W_region ?_
      refine L_as (v := .bool true) rfl rfl ?_
      refine L_nil ?_
      refine W_ret ?_
      refine retG1 (v1 := .bool true) Try.results29 rfl ?_
      obtain rfl := so hF
      exact ⟨rfl, (Star.down hst hle4 closedL_nil)⟩

theorem s_l6Cells_c {m : Model} {cells : List Int} {v0_0 : Value} {v0_1 : Value} {v1 : Value} {H : FH} {w : World} (hst : Star H w []) (h0_0 : (RP.slice 3 RP.int).rel H [v0_0] m.sizes) (h0_1 : (RP.slice 68 (rRule 3 22)).rel H [v0_1] m.rules) (h1 : (RP.slice 3 RP.int).rel H [v1] cells) {r : Bool} (hF : s_l6Cells m cells = some r) :
    C Try.prog 72 #[.agg #[v0_0, v0_1], v1] w fun v w' => v = .bool r ∧ Star H w' [] := by
  unfold s_l6Cells at hF
  refine C_enter Try.func72 rfl Try.ntmps72 rfl ?_
  refine W_seq ?_
  refine W_region ?_
  refine L_box (v := .agg #[v0_0, v0_1]) (cs := #[v0_0, v0_1]) rfl rfl rfl hst ?_
  intro g3 w4 hst
  refine L_as (v := .bool false) rfl rfl ?_
  refine L_nil ?_
  refine W_seq ?_
  refine W_seq ?_
  refine W_region ?_
  refine L_mv (v := v1) rfl rfl ?_
  refine L_len (v := v1) (n := List.length cells) rfl Try.underlying22 rfl (slice_len h1) ?_
  refine L_fa (o' := 0) rfl fa_30_0 rfl rfl ?_
  refine L_ld (v := v0_0) rfl Try.isAgg22 rfl (At.cell0 (Blk.at (Star.blkAt 0 hst rfl)) (j := 0) rfl) ?_
  refine L_len (v := v0_0) (n := List.length m.sizes) rfl Try.underlying22 rfl (slice_len h0_0) ?_
  refine L_neq (m := (cells.length : Int)) (n := (m.sizes.length : Int)) rfl rfl rfl ?_
  refine L_nil ?_
  refine W_cond (b := ((cells.length : Int) != (m.sizes.length : Int))) rfl (fun hc5 => ?_) (fun hc5 => ?_)
  ·
    have hF := (ite_t hc5).symm.trans hF
    refine W_seq ?_
    refine W_region ?_
    refine L_as (v := .bool false) rfl rfl ?_
    refine L_nil ?_
    refine W_ret ?_
    refine retG1 (v1 := .bool false) Try.results72 rfl ?_
    obtain rfl := so hF
    exact ⟨rfl, (Star.keepN 0 hst)⟩
  ·
    have hF := (ite_f hc5).symm.trans hF
    refine W_skip ?_
    refine W_seq ?_
    refine W_seq ?_
    refine W_region ?_
    refine L_as (v := .int .i64 0) rfl rfl ?_
    refine L_nil ?_
    have hlen9 : List.length cells ≤ 9223372036854775807 := len_le (slice_len h1)
    obtain ⟨j9, hL9, hF⟩ := bind_some hF
    obtain ⟨R9, hR9⟩ : ∃ R : Fr → World → Prop, R = fun f w_ => ∃ H7 : FH, j9 = .nx () ∧ Le H H7 ∧ Star H7 w_ ([]) := ⟨_, rfl⟩
    refine W_join R9 ?_ ?_
    ·
      refine W_block ?_
      obtain ⟨I9, hI9⟩ : ∃ I : Nat → Fr → World → Prop, I = fun n f w_ => ∃ i_6 : Nat, ∃ suf9 : List Int, ∃ H7 : FH, n = suf9.length ∧ List.drop i_6 cells = suf9 ∧ i_6 + suf9.length = cells.length ∧ rangeL (s_l6Cells_b1 m) suf9 i_6 () = some j9 ∧ Le H H7 ∧ f 1 = v1 ∧ f 2 = .pointer (some ⟨g3, 0, none⟩) ∧ f 5 = .int .i64 (i_6 : Int) ∧ Star H7 w_ ([box g3 30 #[v0_0, v0_1]]) := ⟨_, rfl⟩
      refine W_loop I9 (n := cells.length) ?_ ?_
      · rw [hI9]; exact ⟨0, cells, H, rfl, rfl, Nat.zero_add _, hL9, (Le.refl _), rfl, rfl, rfl, hst⟩
      ·
        clear hst
        intro n9 f w_ hI
        rw [hI9] at hI
        obtain ⟨i_6, suf9, H7, rfl, hd9, hl9, hL9, hle8, sf1, sf2, sf5, hst⟩ := hI
        refine W_seq ?_
        refine W_seq ?_
        refine W_region ?_
        refine L_mv (v := .int .i64 (i_6 : Int)) rfl sf5 ?_
        refine L_mv (v := v1) rfl sf1 ?_
        refine L_len (v := v1) (n := List.length cells) rfl Try.underlying22 rfl (slice_len (RP.mono _ h1 hle8)) ?_
        refine L_lss (m := (i_6 : Int)) (n := (cells.length : Int)) rfl rfl rfl ?_
        refine L_nil ?_
        refine W_cond (b := decide ((i_6 : Int) < (cells.length : Int))) rfl (fun hc10 => ?_) (fun hc10 => ?_)
        ·
          have hlt9 := of_decide_eq_true hc10
          cases suf9 with
          | nil => exact absurd hlt9 (by simp at hl9; omega)
          | cons x_9 rest9 =>
            obtain ⟨o9, hB9, hL9⟩ := range_cons hL9
            rw [s_l6Cells_b1] at hB9
            have hix9 := drop_idx hd9
            refine W_skip ?_
            refine W_seq ?_
            refine W_block ?_
            refine W_seq ?_
            obtain ⟨b24, hb24, hB9⟩ := bind_some hB9
            obtain ⟨R28, hR28⟩ : ∃ R : Fr → World → Prop, R = fun f w_ => ∃ H26 : FH, Le H7 H26 ∧ f 1 = v1 ∧ f 2 = .pointer (some ⟨g3, 0, none⟩) ∧ f 5 = .int .i64 (i_6 : Int) ∧ f 34 = .bool b24 ∧ Star H26 w_ ([box g3 30 #[v0_0, v0_1]]) := ⟨_, rfl⟩
            refine W_join R28 ?_ ?_
            ·
              rcases Bool.eq_false_or_eq_true (decide (x_9 < 0)) with hc29 | hc29
              ·
                rw [ite_t hc29] at hb24
                refine W_drawS 15 [isV (v1), isV (.int .i64 (i_6 : Int)), isEl RP.int x_9 0, isV (.int .i64 x_9), isV (.bool (decide (x_9 < 0))), isV (.bool (decide (x_9 < 0))), isV (undef), isV (undef), isV (undef), isV (undef), isV (undef), isV (undef), isV (undef), isV (undef), isV (undef)] [box g3 30 #[v0_0, v0_1]] [] ([]) [([], []), ([], []), ([], []), ([], []), ([], []), ([], []), ([], []), ([], []), ([], []), ([], []), ([], []), ([], []), ([], []), ([], []), ([], [])] (S := []) Try_mix (by kernel_rfl) rfl (by kernel_rfl) (amF_cons (mono_V _) (amF_cons (mono_V _) (amF_cons (mono_el _ _ _) (amF_cons (mono_V _) (amF_cons (mono_V _) (amF_cons (mono_V _) (amF_cons (mono_V _) (amF_cons (mono_V _) (amF_cons (mono_V _) (amF_cons (mono_V _) (amF_cons (mono_V _) (amF_cons (mono_V _) (amF_cons (mono_V _) (amF_cons (mono_V _) (amF_cons (mono_V _) amF_nil))))))))))))))) hst ?_ (fun f w_ H25 hS25 hE25 hT25 hst => ?_)
                ·
                  refine opsS_cons ?_ ?_
                  ·
                    intro f w_ H25 X25 hS25 hE25 hP25 hst
                    refine L_mv (v := v1) rfl ((hS25 1 rfl).trans sf1) ?_
                    exact L_nil ⟨rfl, _, _, _, rfl, rfl, Le.refl _, rfl, hst⟩
                  refine opsS_cons ?_ ?_
                  ·
                    intro f w_ H25 X25 hS25 hE25 hP25 hst
                    refine L_mv (v := .int .i64 (i_6 : Int)) rfl ((hS25 5 rfl).trans sf5) ?_
                    exact L_nil ⟨rfl, _, _, _, rfl, rfl, Le.refl _, rfl, hst⟩
                  refine opsS_cons ?_ ?_
                  ·
                    intro f w_ H25 X25 hS25 hE25 hP25 hst
                    refine L_ix (r := RP.int) rfl Try.underlying22 Try.sizeOf3 (hP25 0 18 rfl rfl) (RP.mono _ h1 (Le.trans hle8 hE25)) (hP25 1 19 rfl rfl) hix9 ?_
                    intro g34 o35 cs_g34 hrk_hat36 hat36
                    obtain rfl : _ = [_] := hrk_hat36
                    exact L_nil ⟨rfl, _, _, _, rfl, rfl, Le.refl _, ⟨_, _, _, rfl, rfl, hat36⟩, hst⟩
                  refine opsS_cons ?_ ?_
                  ·
                    intro f w_ H25 X25 hS25 hE25 hP25 hst
                    obtain ⟨g38, o38, cs38, hv38, hrk_hat38, hat38⟩ := (hP25 2 20 rfl rfl)
                    obtain rfl : _ = [_] := hrk_hat38
                    refine L_ld (v := .int .i64 x_9) rfl Try.isAgg3 hv38 (At.cell (AtH.at hat38 hst.sub) (j := 0) rfl) ?_
                    exact L_nil ⟨rfl, _, _, _, rfl, rfl, Le.refl _, rfl, hst⟩
                  refine opsS_cons ?_ ?_
                  ·
                    intro f w_ H25 X25 hS25 hE25 hP25 hst
                    refine L_lss (m := x_9) (n := 0) rfl (hP25 3 21 rfl rfl) rfl ?_
                    exact L_nil ⟨rfl, _, _, _, rfl, rfl, Le.refl _, rfl, hst⟩
                  refine opsS_cons ?_ ?_
                  ·
                    intro f w_ H25 X25 hS25 hE25 hP25 hst
                    refine L_mv (v := .bool (decide (x_9 < 0))) rfl (hP25 4 22 rfl rfl) ?_
                    exact L_nil ⟨rfl, _, _, _, rfl, rfl, Le.refl _, rfl, hst⟩
                  refine opsS_cons ?_ ?_
                  ·
                    intro f w_ H25 X25 hS25 hE25 hP25 hst
                    refine L_pass (g_no rfl (Eq.trans (hP25 5 23 rfl rfl) (congrArg Value.bool hc29)) rfl rfl) ?_
                    exact L_nil ⟨rfl, _, _, _, rfl, rfl, Le.refl _, rfl, hst⟩
                  refine opsS_cons ?_ ?_
                  ·
                    intro f w_ H25 X25 hS25 hE25 hP25 hst
                    refine L_pass (g_no rfl (Eq.trans (hP25 5 23 rfl rfl) (congrArg Value.bool hc29)) rfl rfl) ?_
                    exact L_nil ⟨rfl, _, _, _, rfl, rfl, Le.refl _, rfl, hst⟩
                  refine opsS_cons ?_ ?_
                  ·
                    intro f w_ H25 X25 hS25 hE25 hP25 hst
                    refine L_pass (g_no rfl (Eq.trans (hP25 5 23 rfl rfl) (congrArg Value.bool hc29)) rfl rfl) ?_
                    exact L_nil ⟨rfl, _, _, _, rfl, rfl, Le.refl _, rfl, hst⟩
                  refine opsS_cons ?_ ?_
                  ·
                    intro f w_ H25 X25 hS25 hE25 hP25 hst
                    refine L_pass (g_no rfl (Eq.trans (hP25 5 23 rfl rfl) (congrArg Value.bool hc29)) rfl rfl) ?_
                    exact L_nil ⟨rfl, _, _, _, rfl, rfl, Le.refl _, rfl, hst⟩
                  refine opsS_cons ?_ ?_
                  ·
                    intro f w_ H25 X25 hS25 hE25 hP25 hst
                    refine L_pass (g_no rfl (Eq.trans (hP25 5 23 rfl rfl) (congrArg Value.bool hc29)) rfl rfl) ?_
                    exact L_nil ⟨rfl, _, _, _, rfl, rfl, Le.refl _, rfl, hst⟩
                  refine opsS_cons ?_ ?_
                  ·
                    intro f w_ H25 X25 hS25 hE25 hP25 hst
                    refine L_pass (g_no rfl (Eq.trans (hP25 5 23 rfl rfl) (congrArg Value.bool hc29)) rfl rfl) ?_
                    exact L_nil ⟨rfl, _, _, _, rfl, rfl, Le.refl _, rfl, hst⟩
                  refine opsS_cons ?_ ?_
                  ·
                    intro f w_ H25 X25 hS25 hE25 hP25 hst
                    refine L_pass (g_no rfl (Eq.trans (hP25 5 23 rfl rfl) (congrArg Value.bool hc29)) rfl rfl) ?_
                    exact L_nil ⟨rfl, _, _, _, rfl, rfl, Le.refl _, rfl, hst⟩
                  refine opsS_cons ?_ ?_
                  ·
                    intro f w_ H25 X25 hS25 hE25 hP25 hst
                    refine L_pass (g_no rfl (Eq.trans (hP25 5 23 rfl rfl) (congrArg Value.bool hc29)) rfl rfl) ?_
                    exact L_nil ⟨rfl, _, _, _, rfl, rfl, Le.refl _, rfl, hst⟩
                  refine opsS_cons ?_ ?_
                  ·
                    intro f w_ H25 X25 hS25 hE25 hP25 hst
                    refine L_pass (g_no rfl (Eq.trans (hP25 5 23 rfl rfl) (congrArg Value.bool hc29)) rfl rfl) ?_
                    exact L_nil ⟨rfl, _, _, _, rfl, rfl, Le.refl _, rfl, hst⟩
                  exact opsS_nil
                ·
                  refine L_pass (g_no rfl (Eq.trans (hT25 5 23 rfl rfl) (congrArg Value.bool hc29)) rfl rfl) ?_
                  refine L_pick (v := .bool b24) rfl (Eq.trans (hT25 5 23 rfl rfl) (congrArg Value.bool hc29)) (congrArg Value.bool (so hb24)) ?_
                  refine L_nil ?_
                  show R28 _ _
                  rw [hR28]
                  exact ⟨H25, hE25, ((hS25 1 rfl).trans sf1), ((hS25 2 rfl).trans sf2), ((hS25 5 rfl).trans sf5), rfl, hst⟩
              ·
                rw [ite_f hc29] at hb24
                obtain ⟨x19, hx19, hb24⟩ := bind_some hb24
                refine W_drawS 15 [isV (v1), isV (.int .i64 (i_6 : Int)), isEl RP.int x_9 0, isV (.int .i64 x_9), isV (.bool (decide (x_9 < 0))), isV (.bool (decide (x_9 < 0))), isV (v1), isV (.int .i64 (i_6 : Int)), isEl RP.int x_9 0, isV (.int .i64 x_9), isV (.pointer (some ⟨g3, 0, none⟩)), isV (v0_0), isV (.int .i64 (i_6 : Int)), isEl RP.int x19 0, isV (.int .i64 x19)] [box g3 30 #[v0_0, v0_1]] [] ([]) [([], []), ([], []), ([], []), ([], []), ([], []), ([], []), ([], []), ([], []), ([], []), ([], []), ([], []), ([], []), ([], []), ([], []), ([], [])] (S := []) Try_mix (by kernel_rfl) rfl (by kernel_rfl) (amF_cons (mono_V _) (amF_cons (mono_V _) (amF_cons (mono_el _ _ _) (amF_cons (mono_V _) (amF_cons (mono_V _) (amF_cons (mono_V _) (amF_cons (mono_V _) (amF_cons (mono_V _) (amF_cons (mono_el _ _ _) (amF_cons (mono_V _) (amF_cons (mono_V _) (amF_cons (mono_V _) (amF_cons (mono_V _) (amF_cons (mono_el _ _ _) (amF_cons (mono_V _) amF_nil))))))))))))))) hst ?_ (fun f w_ H25 hS25 hE25 hT25 hst => ?_)
                ·
                  refine opsS_cons ?_ ?_
                  ·
                    intro f w_ H25 X25 hS25 hE25 hP25 hst
                    refine L_mv (v := v1) rfl ((hS25 1 rfl).trans sf1) ?_
                    exact L_nil ⟨rfl, _, _, _, rfl, rfl, Le.refl _, rfl, hst⟩
                  refine opsS_cons ?_ ?_
                  ·
                    intro f w_ H25 X25 hS25 hE25 hP25 hst
                    refine L_mv (v := .int .i64 (i_6 : Int)) rfl ((hS25 5 rfl).trans sf5) ?_
                    exact L_nil ⟨rfl, _, _, _, rfl, rfl, Le.refl _, rfl, hst⟩
                  refine opsS_cons ?_ ?_
                  ·
                    intro f w_ H25 X25 hS25 hE25 hP25 hst
                    refine L_ix (r := RP.int) rfl Try.underlying22 Try.sizeOf3 (hP25 0 18 rfl rfl) (RP.mono _ h1 (Le.trans hle8 hE25)) (hP25 1 19 rfl rfl) hix9 ?_
                    intro g52 o53 cs_g52 hrk_hat54 hat54
                    obtain rfl : _ = [_] := hrk_hat54
                    exact L_nil ⟨rfl, _, _, _, rfl, rfl, Le.refl _, ⟨_, _, _, rfl, rfl, hat54⟩, hst⟩
                  refine opsS_cons ?_ ?_
                  ·
                    intro f w_ H25 X25 hS25 hE25 hP25 hst
                    obtain ⟨g56, o56, cs56, hv56, hrk_hat56, hat56⟩ := (hP25 2 20 rfl rfl)
                    obtain rfl : _ = [_] := hrk_hat56
                    refine L_ld (v := .int .i64 x_9) rfl Try.isAgg3 hv56 (At.cell (AtH.at hat56 hst.sub) (j := 0) rfl) ?_
                    exact L_nil ⟨rfl, _, _, _, rfl, rfl, Le.refl _, rfl, hst⟩
                  refine opsS_cons ?_ ?_
                  ·
                    intro f w_ H25 X25 hS25 hE25 hP25 hst
                    refine L_lss (m := x_9) (n := 0) rfl (hP25 3 21 rfl rfl) rfl ?_
                    exact L_nil ⟨rfl, _, _, _, rfl, rfl, Le.refl _, rfl, hst⟩
                  refine opsS_cons ?_ ?_
                  ·
                    intro f w_ H25 X25 hS25 hE25 hP25 hst
                    refine L_mv (v := .bool (decide (x_9 < 0))) rfl (hP25 4 22 rfl rfl) ?_
                    exact L_nil ⟨rfl, _, _, _, rfl, rfl, Le.refl _, rfl, hst⟩
                  refine opsS_cons ?_ ?_
                  ·
                    intro f w_ H25 X25 hS25 hE25 hP25 hst
                    refine L_mv (v := v1) (g_yes rfl (Eq.trans (hP25 5 23 rfl rfl) (congrArg Value.bool hc29)) rfl) ((hS25 1 rfl).trans sf1) ?_
                    exact L_nil ⟨rfl, _, _, _, rfl, rfl, Le.refl _, rfl, hst⟩
                  refine opsS_cons ?_ ?_
                  ·
                    intro f w_ H25 X25 hS25 hE25 hP25 hst
                    refine L_mv (v := .int .i64 (i_6 : Int)) (g_yes rfl (Eq.trans (hP25 5 23 rfl rfl) (congrArg Value.bool hc29)) rfl) ((hS25 5 rfl).trans sf5) ?_
                    exact L_nil ⟨rfl, _, _, _, rfl, rfl, Le.refl _, rfl, hst⟩
                  refine opsS_cons ?_ ?_
                  ·
                    intro f w_ H25 X25 hS25 hE25 hP25 hst
                    refine L_ix (r := RP.int) (g_yes rfl (Eq.trans (hP25 5 23 rfl rfl) (congrArg Value.bool hc29)) rfl) Try.underlying22 Try.sizeOf3 (hP25 6 24 rfl rfl) (RP.mono _ h1 (Le.trans hle8 hE25)) (hP25 7 25 rfl rfl) hix9 ?_
                    intro g58 o59 cs_g58 hrk_hat60 hat60
                    obtain rfl : _ = [_] := hrk_hat60
                    exact L_nil ⟨rfl, _, _, _, rfl, rfl, Le.refl _, ⟨_, _, _, rfl, rfl, hat60⟩, hst⟩
                  refine opsS_cons ?_ ?_
                  ·
                    intro f w_ H25 X25 hS25 hE25 hP25 hst
                    obtain ⟨g62, o62, cs62, hv62, hrk_hat62, hat62⟩ := (hP25 8 26 rfl rfl)
                    obtain rfl : _ = [_] := hrk_hat62
                    refine L_ld (v := .int .i64 x_9) (g_yes rfl (Eq.trans (hP25 5 23 rfl rfl) (congrArg Value.bool hc29)) rfl) Try.isAgg3 hv62 (At.cell (AtH.at hat62 hst.sub) (j := 0) rfl) ?_
                    exact L_nil ⟨rfl, _, _, _, rfl, rfl, Le.refl _, rfl, hst⟩
                  refine opsS_cons ?_ ?_
                  ·
                    intro f w_ H25 X25 hS25 hE25 hP25 hst
                    refine L_fa (o' := 0) (g_yes rfl (Eq.trans (hP25 5 23 rfl rfl) (congrArg Value.bool hc29)) rfl) fa_30_0 ((hS25 2 rfl).trans sf2) rfl ?_
                    exact L_nil ⟨rfl, _, _, _, rfl, rfl, Le.refl _, rfl, hst⟩
                  refine opsS_cons ?_ ?_
                  ·
                    intro f w_ H25 X25 hS25 hE25 hP25 hst
                    refine L_ld (v := v0_0) (g_yes rfl (Eq.trans (hP25 5 23 rfl rfl) (congrArg Value.bool hc29)) rfl) Try.isAgg22 (hP25 10 28 rfl rfl) (At.cell0 (Blk.at (Star.blkAt 0 hst rfl)) (j := 0) rfl) ?_
                    exact L_nil ⟨rfl, _, _, _, rfl, rfl, Le.refl _, rfl, hst⟩
                  refine opsS_cons ?_ ?_
                  ·
                    intro f w_ H25 X25 hS25 hE25 hP25 hst
                    refine L_mv (v := .int .i64 (i_6 : Int)) (g_yes rfl (Eq.trans (hP25 5 23 rfl rfl) (congrArg Value.bool hc29)) rfl) ((hS25 5 rfl).trans sf5) ?_
                    exact L_nil ⟨rfl, _, _, _, rfl, rfl, Le.refl _, rfl, hst⟩
                  refine opsS_cons ?_ ?_
                  ·
                    intro f w_ H25 X25 hS25 hE25 hP25 hst
                    refine L_ix (r := RP.int) (g_yes rfl (Eq.trans (hP25 5 23 rfl rfl) (congrArg Value.bool hc29)) rfl) Try.underlying22 Try.sizeOf3 (hP25 11 29 rfl rfl) (RP.mono _ h0_0 (Le.trans hle8 hE25)) (hP25 12 30 rfl rfl) hx19 ?_
                    intro g64 o65 cs_g64 hrk_hat66 hat66
                    obtain rfl : _ = [_] := hrk_hat66
                    exact L_nil ⟨rfl, _, _, _, rfl, rfl, Le.refl _, ⟨_, _, _, rfl, rfl, hat66⟩, hst⟩
                  refine opsS_cons ?_ ?_
                  ·
                    intro f w_ H25 X25 hS25 hE25 hP25 hst
                    obtain ⟨g68, o68, cs68, hv68, hrk_hat68, hat68⟩ := (hP25 13 31 rfl rfl)
                    obtain rfl : _ = [_] := hrk_hat68
                    refine L_ld (v := .int .i64 x19) (g_yes rfl (Eq.trans (hP25 5 23 rfl rfl) (congrArg Value.bool hc29)) rfl) Try.isAgg3 hv68 (At.cell (AtH.at hat68 hst.sub) (j := 0) rfl) ?_
                    exact L_nil ⟨rfl, _, _, _, rfl, rfl, Le.refl _, rfl, hst⟩
                  exact opsS_nil
                ·
                  refine L_gtr (m := x_9) (n := x19) (g_yes rfl (Eq.trans (hT25 5 23 rfl rfl) (congrArg Value.bool hc29)) rfl) (hT25 9 27 rfl rfl) (hT25 14 32 rfl rfl) ?_
                  refine L_pick (v := .bool b24) rfl (Eq.trans (hT25 5 23 rfl rfl) (congrArg Value.bool hc29)) (congrArg Value.bool (so hb24)) ?_
                  refine L_nil ?_
                  show R28 _ _
                  rw [hR28]
                  exact ⟨H25, hE25, ((hS25 1 rfl).trans sf1), ((hS25 2 rfl).trans sf2), ((hS25 5 rfl).trans sf5), rfl, hst⟩
            ·
              intro f w_ hR
              rw [hR28] at hR
              obtain ⟨H26, hle27, sf1, sf2, sf5, sf34, hst⟩ := hR
              clear hR28
              refine W_cond (b := b24) sf34 (fun hc70 => ?_) (fun hc70 => ?_)
              ·
                have hB9 := (ite_t hc70).symm.trans hB9
                refine W_seq ?_
                refine W_region ?_
                refine L_as (v := .bool false) rfl rfl ?_
                refine L_nil ?_
                refine W_ret ?_
                refine retG1 (v1 := .bool false) Try.results72 rfl ?_
                obtain rfl := so hB9
                obtain rfl := so hL9
                obtain rfl := so hF
                exact ⟨rfl, (Star.down (Star.keepN 0 hst) (Le.trans hle8 hle27) closedL_nil)⟩
              ·
                have hB9 := (ite_f hc70).symm.trans hB9
                refine W_skip ?_
                refine W_region ?_
                refine L_mv (v := .int .i64 (i_6 : Int)) rfl sf5 ?_
                refine L_add (m := (i_6 : Int)) (n := 1) rfl rfl rfl ?_
                refine L_as (v := .int .i64 (i64 ((i_6 : Int) + 1))) rfl rfl ?_
                refine L_nil ?_
                obtain rfl := so hB9
                show ∃ m, m < _ ∧ I9 m _ _
                refine ⟨rest9.length, by simp, ?_⟩
                rw [hI9]
                exact ⟨i_6 + 1, rest9, H26, rfl, drop_next hd9, by simp at hl9; omega, hL9, (Le.trans hle8 hle27), sf1, sf2, (Eq.trans rfl (congrArg (Value.int .i64) (i64_succ (n := cells.length) (by simp at hl9; omega) hlen9))), hst⟩
        ·
          cases suf9 with
          | cons _ _ => exact absurd (of_decide_eq_false hc10) (by simp at hl9; omega)
          | nil =>
            obtain rfl := range_nil hL9
            refine W_exit ?_
            show R9 _ _
            rw [hR9]
            exact ⟨H7, rfl, hle8, (Star.keepN 0 hst)⟩
    ·
      clear hst
      intro f w_ hR
      rw [hR9] at hR
      obtain ⟨H7, rfl, hle8, hst⟩ := hR
      clear hR9
      refine W_seq ?_
      refine W_region ?_
      refine L_as (v := .bool true) rfl rfl ?_
      refine L_nil ?_
      refine W_ret ?_
      refine retG1 (v1 := .bool true) Try.results72 rfl ?_
      obtain rfl := so hF
      exact ⟨rfl, (Star.down hst hle8 closedL_nil)⟩

theorem s_CellsValid_c {fu : Nat} {m : Model} {cells : List Int} {v0_0 : Value} {v0_1 : Value} {v1 : Value} {H : FH} {w : World} (hst : Star H w []) (h0_0 : (RP.slice 3 RP.int).rel H [v0_0] m.sizes) (h0_1 : (RP.slice 68 (rRule 3 22)).rel H [v0_1] m.rules) (h1 : (RP.slice 3 RP.int).rel H [v1] cells) {r : Bool} (hF : s_CellsValid fu m cells = some r) :
    C Try.prog 53 #[.agg #[v0_0, v0_1], v1] w fun v w' => v = .bool r ∧ Star H w' [] := by
  unfold s_CellsValid at hF
  refine C_enter Try.func53 rfl Try.ntmps53 rfl ?_
  refine W_seq ?_
  refine W_region ?_
  refine L_box (v := .agg #[v0_0, v0_1]) (cs := #[v0_0, v0_1]) rfl rfl rfl hst ?_
  intro g3 w4 hst
  refine L_as (v := .bool false) rfl rfl ?_
  refine L_nil ?_
  refine W_seq ?_
  obtain ⟨x10, hx10, hF⟩ := bind_some hF
  obtain ⟨b19, hb19, hF⟩ := bind_some hF
  obtain ⟨R20, hR20⟩ : ∃ R : Fr → World → Prop, R = fun f w_ => f 4 = .bool b19 ∧ Star H w_ ([]) := ⟨_, rfl⟩
  refine W_join R20 ?_ ?_
  ·
    refine W_region ?_
    refine L_lda (cs := [v0_0, v0_1]) rfl Try.isAgg30 Try.sizeOf30 rfl (At.sub0 (Blk.at (Star.blkAt 0 hst rfl)) 0 2) rfl ?_
    obtain ⟨Hb21, hle22, hsb23, hfz24, hbk25⟩ := Star.borrow hst
    refine L_call (args := #[.agg #[v0_0, v0_1]]) rfl Try.call44 (ops1 rfl) (s_ModelValid_c (m := m) hsb23 (RP.mono _ h0_0 hle22) (RP.mono _ h0_1 hle22) hx10) ?_
    rintro _ w26 ⟨rfl, hst⟩
    have hst := hbk25 hst closedL_nil
    refine L_mv (v := .bool x10) rfl rfl ?_
    refine L_split (d := 7) (b := x10) rfl (fun hc27 => ?_) (fun hc27 => ?_)
    ·
      rw [ite_t hc27] at hb19
      obtain ⟨x17, hx17, hb19⟩ := bind_some hb19
      refine L_lda (cs := [v0_0, v0_1]) rfl Try.isAgg30 Try.sizeOf30 rfl (At.sub0 (Blk.at (Star.blkAt 0 hst rfl)) 0 2) rfl ?_
      refine L_mv (v := v1) rfl rfl ?_
      obtain ⟨Hb28, hle29, hsb30, hfz31, hbk32⟩ := Star.borrow hst
      refine L_call (args := #[.agg #[v0_0, v0_1], v1]) rfl Try.call72 (ops2 rfl rfl) (s_l6Cells_c (m := m) (cells := cells) hsb30 (RP.mono _ h0_0 hle29) (RP.mono _ h0_1 hle29) (RP.mono _ h1 hle29) hx17) ?_
      rintro _ w33 ⟨rfl, hst⟩
      have hst := hbk32 hst closedL_nil
      refine L_pick (v := .bool b19) rfl rfl (congrArg Value.bool (so hb19)) ?_
      refine L_as (v := .bool b19) rfl rfl ?_
      refine L_nil ?_
      show R20 _ _
      rw [hR20]
      exact ⟨rfl, (Star.keepN 0 hst)⟩
    ·
      rw [ite_f hc27] at hb19
      refine L_pass rfl ?_
      refine L_pass rfl ?_
      refine L_pass rfl ?_
      refine L_pick (v := .bool b19) rfl rfl (congrArg Value.bool (so hb19)) ?_
      refine L_as (v := .bool b19) rfl rfl ?_
      refine L_nil ?_
      show R20 _ _
      rw [hR20]
      exact ⟨rfl, (Star.keepN 0 hst)⟩
  ·
    intro f w_ hR
    rw [hR20] at hR
    obtain ⟨sf4, hst⟩ := hR
    clear hR20
    refine W_ret ?_
    refine retG1 (v1 := .bool b19) Try.results53 sf4 ?_
    obtain rfl := so hF
    exact ⟨rfl, hst⟩

theorem i_CellsValid_c {m : Model} {cells : List Int} {v0_0 : Value} {v0_1 : Value} {v1 : Value} {H : FH} {w : World} (hst : Star H w []) (h0_0 : (RP.slice 3 RP.int).rel H [v0_0] m.sizes) (h0_1 : (RP.slice 68 (rRule 3 22)).rel H [v0_1] m.rules) (h1 : (RP.slice 3 RP.int).rel H [v1] cells) {r : Bool} (hF : i_CellsValid m cells = some r) :
    C Try.prog 55 #[.agg #[v0_0, v0_1], v1] w fun v w' => v = .bool r ∧ Star H w' [] := by
  unfold i_CellsValid at hF
  refine C_enter Try.func55 rfl Try.ntmps55 rfl ?_
  refine W_seq ?_
  refine W_region ?_
  refine L_box (v := .agg #[v0_0, v0_1]) (cs := #[v0_0, v0_1]) rfl rfl rfl hst ?_
  intro g3 w4 hst
  refine L_as (v := .bool false) rfl rfl ?_
  refine L_nil ?_
  refine W_seq ?_
  refine W_seq ?_
  obtain ⟨x10, hx10, hF⟩ := bind_some hF
  obtain ⟨R12, hR12⟩ : ∃ R : Fr → World → Prop, R = fun f w_ => f 1 = v1 ∧ f 2 = .pointer (some ⟨g3, 0, none⟩) ∧ f 17 = .bool ((!x10) || ((cells.length : Int) != (m.sizes.length : Int))) ∧ Star H w_ ([box g3 30 #[v0_0, v0_1]]) := ⟨_, rfl⟩
  refine W_join R12 ?_ ?_
  ·
    refine W_region ?_
    refine L_lda (cs := [v0_0, v0_1]) rfl Try.isAgg30 Try.sizeOf30 rfl (At.sub0 (Blk.at (Star.blkAt 0 hst rfl)) 0 2) rfl ?_
    obtain ⟨Hb13, hle14, hsb15, hfz16, hbk17⟩ := Star.borrow hst
    refine L_call (args := #[.agg #[v0_0, v0_1]]) rfl Try.call47 (ops1 rfl) (i_ModelValid_c (m := m) hsb15 (RP.mono _ h0_0 hle14) (RP.mono _ h0_1 hle14) hx10) ?_
    rintro _ w18 ⟨rfl, hst⟩
    have hst := hbk17 hst closedL_nil
    refine L_not_ (b := x10) rfl rfl ?_
    refine L_mv (v := .bool (!x10)) rfl rfl ?_
    refine L_split (d := 10) (b := (!x10)) rfl (fun hc19 => ?_) (fun hc19 => ?_)
    ·
      refine L_pass rfl ?_
      refine L_pass rfl ?_
      refine L_pass rfl ?_
      refine L_pass rfl ?_
      refine L_pass rfl ?_
      refine L_pass rfl ?_
      refine L_pick (v := .bool ((!x10) || ((cells.length : Int) != (m.sizes.length : Int)))) rfl rfl (or_t hc19) ?_
      refine L_nil ?_
      show R12 _ _
      rw [hR12]
      exact ⟨rfl, rfl, rfl, hst⟩
    ·
      refine L_mv (v := v1) rfl rfl ?_
      refine L_len (v := v1) (n := List.length cells) rfl Try.underlying22 rfl (slice_len h1) ?_
      refine L_fa (o' := 0) rfl fa_30_0 rfl rfl ?_
      refine L_ld (v := v0_0) rfl Try.isAgg22 rfl (At.cell0 (Blk.at (Star.blkAt 0 hst rfl)) (j := 0) rfl) ?_
      refine L_len (v := v0_0) (n := List.length m.sizes) rfl Try.underlying22 rfl (slice_len h0_0) ?_
      refine L_neq (m := (cells.length : Int)) (n := (m.sizes.length : Int)) rfl rfl rfl ?_
      refine L_pick (v := .bool ((!x10) || ((cells.length : Int) != (m.sizes.length : Int)))) rfl rfl (or_f hc19 rfl) ?_
      refine L_nil ?_
      show R12 _ _
      rw [hR12]
      exact ⟨rfl, rfl, rfl, hst⟩
  ·
    intro f w_ hR
    rw [hR12] at hR
    obtain ⟨sf1, sf2, sf17, hst⟩ := hR
    clear hR12
    refine W_cond (b := ((!x10) || ((cells.length : Int) != (m.sizes.length : Int)))) sf17 (fun hc20 => ?_) (fun hc20 => ?_)
    ·
      have hF := (ite_t hc20).symm.trans hF
      refine W_seq ?_
      refine W_region ?_
      refine L_as (v := .bool false) rfl rfl ?_
      refine L_nil ?_
      refine W_ret ?_
      refine retG1 (v1 := .bool false) Try.results55 rfl ?_
      obtain rfl := so hF
      exact ⟨rfl, (Star.keepN 0 hst)⟩
    ·
      have hF := (ite_f hc20).symm.trans hF
      refine W_skip ?_
      refine W_seq ?_
      refine W_seq ?_
      refine W_region ?_
      refine L_mv (v := v1) rfl sf1 ?_
      refine L_len (v := v1) (n := List.length cells) rfl Try.underlying22 rfl (slice_len h1) ?_
      refine L_mv (v := .int .i64 0) rfl rfl ?_
      refine L_nil ?_
      have hlen22 : List.length cells ≤ 9223372036854775807 := len_le (slice_len h1)
      obtain ⟨j22, hL22, hF⟩ := bind_some hF
      obtain ⟨R22, hR22⟩ : ∃ R : Fr → World → Prop, R = fun f w_ => j22 = .nx () ∧ Star H w_ ([]) := ⟨_, rfl⟩
      refine W_join R22 ?_ ?_
      ·
        refine W_block ?_
        obtain ⟨I22, hI22⟩ : ∃ I : Nat → Fr → World → Prop, I = fun n f w_ => ∃ i_21 : Nat, ∃ suf22 : List Int, n = suf22.length ∧ List.drop i_21 cells = suf22 ∧ i_21 + suf22.length = cells.length ∧ rangeL (i_CellsValid_b1 m) suf22 i_21 () = some j22 ∧ f 2 = .pointer (some ⟨g3, 0, none⟩) ∧ f 18 = v1 ∧ f 19 = .int .i64 (cells.length : Int) ∧ f 20 = .int .i64 (i_21 : Int) ∧ Star H w_ ([box g3 30 #[v0_0, v0_1]]) := ⟨_, rfl⟩
        refine W_loop I22 (n := cells.length) ?_ ?_
        · rw [hI22]; exact ⟨0, cells, rfl, rfl, Nat.zero_add _, hL22, sf2, rfl, rfl, rfl, hst⟩
        ·
          clear hst
          intro n22 f w_ hI
          rw [hI22] at hI
          obtain ⟨i_21, suf22, rfl, hd22, hl22, hL22, sf2, sf18, sf19, sf20, hst⟩ := hI
          refine W_seq ?_
          refine W_region ?_
          refine L_lss (m := (i_21 : Int)) (n := (cells.length : Int)) rfl sf20 sf19 ?_
          refine L_nil ?_
          refine W_seq ?_
          refine W_cond (b := decide ((i_21 : Int) < (cells.length : Int))) rfl (fun hc23 => ?_) (fun hc23 => ?_)
          ·
            have hlt22 := of_decide_eq_true hc23
            cases suf22 with
            | nil => exact absurd hlt22 (by simp at hl22; omega)
            | cons x_22 rest22 =>
              obtain ⟨o22, hB22, hL22⟩ := range_cons hL22
              rw [i_CellsValid_b1] at hB22
              have hix22 := drop_idx hd22
              refine W_skip ?_
              refine W_seq ?_
              refine W_block ?_
              refine W_seq ?_
              refine W_region ?_
              refine L_mv (v := .int .i64 (i_21 : Int)) rfl sf20 ?_
              refine L_ix (r := RP.int) rfl Try.underlying22 Try.sizeOf3 sf18 h1 sf20 hix22 ?_
              intro g28 o29 cs_g28 hrk_hat30 hat30
              obtain rfl : _ = [_] := hrk_hat30
              refine L_ld (v := .int .i64 x_22) rfl Try.isAgg3 rfl (At.cell (AtH.at hat30 hst.sub) (j := 0) rfl) ?_
              refine L_as (v := .int .i64 (i_21 : Int)) rfl rfl ?_
              refine L_as (v := .int .i64 x_22) rfl rfl ?_
              refine L_nil ?_
              refine W_seq ?_
              obtain ⟨x32, hx32, hB22⟩ := bind_some hB22
              obtain ⟨x42, hx42, hB22⟩ := bind_some hB22
              refine W_region ?_
              refine L_mv (v := .int .i64 x_22) rfl rfl ?_
              refine L_fa (o' := 0) rfl fa_30_0 sf2 rfl ?_
              refine L_ld (v := v0_0) rfl Try.isAgg22 rfl (At.cell0 (Blk.at (Star.blkAt 0 hst rfl)) (j := 0) rfl) ?_
              refine L_mv (v := .int .i64 (i_21 : Int)) rfl rfl ?_
              refine L_ix (r := RP.int) rfl Try.underlying22 Try.sizeOf3 rfl h0_0 rfl hx32 ?_
              intro g44 o45 cs_g44 hrk_hat46 hat46
              obtain rfl : _ = [_] := hrk_hat46
              refine L_ld (v := .int .i64 x32) rfl Try.isAgg3 rfl (At.cell (AtH.at hat46 hst.sub) (j := 0) rfl) ?_
              obtain ⟨Hb48, hle49, hsb50, hfz51, hbk52⟩ := Star.borrow hst
              refine L_call (args := #[.int .i64 x_22, .int .i64 0, .int .i64 x32]) rfl Try.call48 (ops3 rfl rfl rfl) (i_within_c (n_ := x_22) (low := 0) (high := x32) hsb50 hx42) ?_
              rintro _ w53 ⟨rfl, hst⟩
              have hst := hbk52 hst closedL_nil
              refine L_not_ (b := x42) rfl rfl ?_
              refine L_nil ?_
              refine W_cond (b := (!x42)) rfl (fun hc54 => ?_) (fun hc54 => ?_)
              ·
                have hB22 := (ite_t hc54).symm.trans hB22
                refine W_seq ?_
                refine W_region ?_
                refine L_as (v := .bool false) rfl rfl ?_
                refine L_nil ?_
                refine W_ret ?_
                refine retG1 (v1 := .bool false) Try.results55 rfl ?_
                obtain rfl := so hB22
                obtain rfl := so hL22
                obtain rfl := so hF
                exact ⟨rfl, (Star.keepN 0 hst)⟩
              ·
                have hB22 := (ite_f hc54).symm.trans hB22
                refine W_skip ?_
                refine W_region ?_
                refine L_add (m := (i_21 : Int)) (n := 1) rfl sf20 rfl ?_
                refine L_mv (v := .int .i64 (i64 ((i_21 : Int) + 1))) rfl rfl ?_
                refine L_nil ?_
                obtain rfl := so hB22
                show ∃ m, m < _ ∧ I22 m _ _
                refine ⟨rest22.length, by simp, ?_⟩
                rw [hI22]
                exact ⟨i_21 + 1, rest22, rfl, drop_next hd22, by simp at hl22; omega, hL22, sf2, sf18, sf19, (Eq.trans rfl (congrArg (Value.int .i64) (i64_succ (n := cells.length) (by simp at hl22; omega) hlen22))), hst⟩
          ·
            cases suf22 with
            | cons _ _ => exact absurd (of_decide_eq_false hc23) (by simp at hl22; omega)
            | nil =>
              obtain rfl := range_nil hL22
              refine W_exit ?_
              show R22 _ _
              rw [hR22]
              exact ⟨rfl, (Star.keepN 0 hst)⟩
      ·
        clear hst
        intro f w_ hR
        rw [hR22] at hR
        obtain ⟨rfl, hst⟩ := hR
        clear hR22
        refine W_seq ?_
        refine W_region ?_
        refine L_as (v := .bool true) rfl rfl ?_
        refine L_nil ?_
        refine W_ret ?_
        refine retG1 (v1 := .bool true) Try.results55 rfl ?_
        obtain rfl := so hF
        exact ⟨rfl, hst⟩

theorem s_EncodeCells_c {fu : Nat} {m : Model} {cells : List Int} {v0_0 : Value} {v0_1 : Value} {v1 : Value} {H : FH} {w : World} (hst : Star H w []) (h0_0 : (RP.slice 3 RP.int).rel H [v0_0] m.sizes) (h0_1 : (RP.slice 68 (rRule 3 22)).rel H [v0_1] m.rules) (h1 : (RP.slice 3 RP.int).rel H [v1] cells) {r : (List Bool) × Bool} (hF : s_EncodeCells fu m cells = some r) :
    C Try.prog 27 #[.agg #[v0_0, v0_1], v1] w fun v w' => ∃ (u1 : Value), v = .tuple #[u1, .bool r.2] ∧ Star H w' [own (OR.ownS 4 (OR.frz RP.bool)) [u1] r.1] := by
  unfold s_EncodeCells at hF
  refine C_enter Try.func27 rfl Try.ntmps27 rfl ?_
  refine W_seq ?_
  refine W_region ?_
  refine L_box (v := .agg #[v0_0, v0_1]) (cs := #[v0_0, v0_1]) rfl rfl rfl hst ?_
  intro g3 w4 hst
  refine L_as (v := (.slice none 0 0)) rfl rfl ?_
  refine L_as (v := .bool false) rfl rfl ?_
  refine L_nil ?_
  refine W_seq ?_
  refine W_seq ?_
  obtain ⟨x10, hx10, hF⟩ := bind_some hF
  refine W_region ?_
  refine L_lda (cs := [v0_0, v0_1]) rfl Try.isAgg30 Try.sizeOf30 rfl (At.sub0 (Blk.at (Star.blkAt 0 hst rfl)) 0 2) rfl ?_
  refine L_mv (v := v1) rfl rfl ?_
  obtain ⟨Hb12, hle13, hsb14, hfz15, hbk16⟩ := Star.borrow hst
  refine L_call (args := #[.agg #[v0_0, v0_1], v1]) rfl Try.call53 (ops2 rfl rfl) (s_CellsValid_c (m := m) (cells := cells) hsb14 (RP.mono _ h0_0 hle13) (RP.mono _ h0_1 hle13) (RP.mono _ h1 hle13) hx10) ?_
  rintro _ w17 ⟨rfl, hst⟩
  have hst := hbk16 hst closedL_nil
  refine L_not_ (b := x10) rfl rfl ?_
  refine L_nil ?_
  refine W_cond (b := (!x10)) rfl (fun hc18 => ?_) (fun hc18 => ?_)
  ·
    have hF := (ite_t hc18).symm.trans hF
    refine W_seq ?_
    refine W_region ?_
    refine L_bs rfl parts0 (bs_46_0  ) hst ?_
    intro g22 w23 hst
    have hst := Star.mkRow (R := (OR.frz RP.bool)) [] [] 0 hst rfl rfl rfl (by decide)
    refine L_as (v := (.slice (some ⟨g22, 0, none⟩) 0 0)) rfl rfl ?_
    refine L_as (v := .bool false) rfl rfl ?_
    refine L_nil ?_
    refine W_ret ?_
    refine retG2 (v1 := (.slice (some ⟨g22, 0, none⟩) 0 0)) (v2 := .bool false) Try.results27 rfl rfl ?_
    obtain rfl := so hF
    exact ⟨(.slice (some ⟨g22, 0, none⟩) 0 0), rfl, (Star.keepN 1 hst)⟩
  ·
    have hF := (ite_f hc18).symm.trans hF
    refine W_skip ?_
    refine W_seq ?_
    obtain ⟨x25, hx25, hF⟩ := bind_some hF
    refine W_region ?_
    refine L_mk (R := (OR.frz RP.bool)) (z0 := false) (zc := [.bool false]) rfl et_46 (by kernel_rfl) (fun _ _ => ⟨rfl, rfl⟩) rfl rfl hx25 hst ?_
    intro v29 w30 hst
    refine L_as (v := v29) rfl rfl ?_
    refine L_nil ?_
    refine W_seq ?_
    refine W_seq ?_
    refine W_region ?_
    refine L_as (v := .int .i64 0) rfl rfl ?_
    refine L_nil ?_
    have hlen36 : List.length cells ≤ 9223372036854775807 := len_le (slice_len h1)
    obtain ⟨j36, hL36, hF⟩ := bind_some hF
    obtain ⟨R36, hR36⟩ : ∃ R : Fr → World → Prop, R = fun f w_ => ∃ out_33 : List Bool, ∃ H34 : FH, j36 = .nx out_33 ∧ Le H H34 ∧ f 6 = v29 ∧ Star H34 w_ ([own (OR.ownS 4 (OR.frz RP.bool)) [v29] out_33]) := ⟨_, rfl⟩
    refine W_join R36 ?_ ?_
    ·
      refine W_block ?_
      obtain ⟨I36, hI36⟩ : ∃ I : Nat → Fr → World → Prop, I = fun n f w_ => ∃ i_32 : Nat, ∃ suf36 : List Int, ∃ out_33 : List Bool, ∃ H34 : FH, n = suf36.length ∧ List.drop i_32 cells = suf36 ∧ i_32 + suf36.length = cells.length ∧ rangeL (s_EncodeCells_b1 m) suf36 i_32 out_33 = some j36 ∧ Le H H34 ∧ f 1 = v1 ∧ f 2 = .pointer (some ⟨g3, 0, none⟩) ∧ f 6 = v29 ∧ f 7 = .int .i64 (i_32 : Int) ∧ Star H34 w_ ([own (OR.ownS 4 (OR.frz RP.bool)) [v29] out_33, box g3 30 #[v0_0, v0_1]]) := ⟨_, rfl⟩
      refine W_loop I36 (n := cells.length) ?_ ?_
      · rw [hI36]; exact ⟨0, cells, x25, H, rfl, rfl, Nat.zero_add _, hL36, (Le.refl _), rfl, rfl, rfl, rfl, hst⟩
      ·
        clear hst
        intro n36 f w_ hI
        rw [hI36] at hI
        obtain ⟨i_32, suf36, out_33, H34, rfl, hd36, hl36, hL36, hle35, sf1, sf2, sf6, sf7, hst⟩ := hI
        refine W_seq ?_
        refine W_seq ?_
        refine W_region ?_
        refine L_mv (v := .int .i64 (i_32 : Int)) rfl sf7 ?_
        refine L_mv (v := v1) rfl sf1 ?_
        refine L_len (v := v1) (n := List.length cells) rfl Try.underlying22 rfl (slice_len (RP.mono _ h1 hle35)) ?_
        refine L_lss (m := (i_32 : Int)) (n := (cells.length : Int)) rfl rfl rfl ?_
        refine L_nil ?_
        refine W_cond (b := decide ((i_32 : Int) < (cells.length : Int))) rfl (fun hc37 => ?_) (fun hc37 => ?_)
        ·
          have hlt36 := of_decide_eq_true hc37
          cases suf36 with
          | nil => exact absurd hlt36 (by simp at hl36; omega)
          | cons x_36 rest36 =>
            obtain ⟨o36, hB36, hL36⟩ := range_cons hL36
            rw [s_EncodeCells_b1] at hB36
            have hix36 := drop_idx hd36
            refine W_skip ?_
            refine W_seq ?_
            refine W_block ?_
            obtain ⟨x47, hx47, hB36⟩ := bind_some hB36
            obtain ⟨x49, hx49, hB36⟩ := bind_some hB36
            refine W_drawS 9 [isV (v29), isV (.agg #[v0_0, v0_1]), isV (.int .i64 (i_32 : Int)), isV (v1), isV (.int .i64 (i_32 : Int)), isEl RP.int x_36 0, isV (.int .i64 x_36), isV (.int .i64 x47), isV (.int .i64 (i64 (x47 - 1)))] [own (OR.ownS 4 (OR.frz RP.bool)) [v29] out_33, box g3 30 #[v0_0, v0_1]] [] ([]) [([], []), ([], []), ([], []), ([], []), ([], []), ([], []), ([], []), ([], []), ([], [])] (S := []) Try_mix (by kernel_rfl) rfl (by kernel_rfl) (amF_cons (mono_V _) (amF_cons (mono_V _) (amF_cons (mono_V _) (amF_cons (mono_V _) (amF_cons (mono_V _) (amF_cons (mono_el _ _ _) (amF_cons (mono_V _) (amF_cons (mono_V _) (amF_cons (mono_V _) amF_nil))))))))) hst ?_ (fun f w_ H53 hS53 hE53 hT53 hst => ?_)
            ·
              refine opsS_cons ?_ ?_
              ·
                intro f w_ H53 X53 hS53 hE53 hP53 hst
                refine L_mv (v := v29) rfl ((hS53 6 rfl).trans sf6) ?_
                exact L_nil ⟨rfl, _, _, _, rfl, rfl, Le.refl _, rfl, hst⟩
              refine opsS_cons ?_ ?_
              ·
                intro f w_ H53 X53 hS53 hE53 hP53 hst
                refine L_lda (cs := [v0_0, v0_1]) rfl Try.isAgg30 Try.sizeOf30 ((hS53 2 rfl).trans sf2) (At.sub0 (Blk.at (Star.blkAt 1 hst rfl)) 0 2) rfl ?_
                exact L_nil ⟨rfl, _, _, _, rfl, rfl, Le.refl _, rfl, hst⟩
              refine opsS_cons ?_ ?_
              ·
                intro f w_ H53 X53 hS53 hE53 hP53 hst
                refine L_mv (v := .int .i64 (i_32 : Int)) rfl ((hS53 7 rfl).trans sf7) ?_
                exact L_nil ⟨rfl, _, _, _, rfl, rfl, Le.refl _, rfl, hst⟩
              refine opsS_cons ?_ ?_
              ·
                intro f w_ H53 X53 hS53 hE53 hP53 hst
                refine L_mv (v := v1) rfl ((hS53 1 rfl).trans sf1) ?_
                exact L_nil ⟨rfl, _, _, _, rfl, rfl, Le.refl _, rfl, hst⟩
              refine opsS_cons ?_ ?_
              ·
                intro f w_ H53 X53 hS53 hE53 hP53 hst
                refine L_mv (v := .int .i64 (i_32 : Int)) rfl ((hS53 7 rfl).trans sf7) ?_
                exact L_nil ⟨rfl, _, _, _, rfl, rfl, Le.refl _, rfl, hst⟩
              refine opsS_cons ?_ ?_
              ·
                intro f w_ H53 X53 hS53 hE53 hP53 hst
                refine L_ix (r := RP.int) rfl Try.underlying22 Try.sizeOf3 (hP53 3 23 rfl rfl) (RP.mono _ h1 (Le.trans hle35 hE53)) (hP53 4 24 rfl rfl) hix36 ?_
                intro g64 o65 cs_g64 hrk_hat66 hat66
                obtain rfl : _ = [_] := hrk_hat66
                exact L_nil ⟨rfl, _, _, _, rfl, rfl, Le.refl _, ⟨_, _, _, rfl, rfl, hat66⟩, hst⟩
              refine opsS_cons ?_ ?_
              ·
                intro f w_ H53 X53 hS53 hE53 hP53 hst
                obtain ⟨g68, o68, cs68, hv68, hrk_hat68, hat68⟩ := (hP53 5 25 rfl rfl)
                obtain rfl : _ = [_] := hrk_hat68
                refine L_ld (v := .int .i64 x_36) rfl Try.isAgg3 hv68 (At.cell (AtH.at hat68 hst.sub) (j := 0) rfl) ?_
                exact L_nil ⟨rfl, _, _, _, rfl, rfl, Le.refl _, rfl, hst⟩
              refine opsS_cons ?_ ?_
              ·
                intro f w_ H53 X53 hS53 hE53 hP53 hst
                obtain ⟨Hb70, hle71, hsb72, hfz73, hbk74⟩ := Star.borrow hst
                refine L_call (args := #[.agg #[v0_0, v0_1], .int .i64 (i_32 : Int), .int .i64 x_36]) rfl Try.call45 (ops3 (hP53 1 21 rfl rfl) (hP53 2 22 rfl rfl) (hP53 6 26 rfl rfl)) (s_l7Var_c (m := m) (cell := (i_32 : Int)) (value := x_36) hsb72 (RP.mono _ h0_0 (Le.trans (Le.trans hle35 hE53) hle71)) (RP.mono _ h0_1 (Le.trans (Le.trans hle35 hE53) hle71)) hx47) ?_
                rintro _ w75 ⟨rfl, hst⟩
                have hst := hbk74 hst closedL_nil
                exact L_nil ⟨rfl, _, _, _, rfl, rfl, Le.refl _, rfl, hst⟩
              refine opsS_cons ?_ ?_
              ·
                intro f w_ H53 X53 hS53 hE53 hP53 hst
                refine L_sub (m := x47) (n := 1) rfl (hP53 7 27 rfl rfl) rfl ?_
                exact L_nil ⟨rfl, _, _, _, rfl, rfl, Le.refl _, rfl, hst⟩
              exact opsS_nil
            ·
              obtain ⟨g76, cap_g76, hv77, _, _⟩ := Star.row 0 hst rfl hx49
              refine L_ixO (R := (OR.frz RP.bool)) (tb := 0) 0 rfl Try.underlying46 Try.sizeOf4 (hT53 0 20 rfl rfl) hv77 (by first | rfl | simp) (hT53 8 28 rfl rfl) hx49 ?_
              have hst := Star.addF (r := RP.bool) (cs := [.bool true]) (x := true) hst rfl
              refine L_stE1 (u := .bool true) rfl Try.sizeOf4 rfl rfl rfl hv77 hst hx49 ?_
              intro w78 hst
              refine L_nil ?_
              refine W_region ?_
              refine L_mv (v := .int .i64 (i_32 : Int)) rfl ((hS53 7 rfl).trans sf7) ?_
              refine L_add (m := (i_32 : Int)) (n := 1) rfl rfl rfl ?_
              refine L_as (v := .int .i64 (i64 ((i_32 : Int) + 1))) rfl rfl ?_
              refine L_nil ?_
              obtain rfl := so hB36
              show ∃ m, m < _ ∧ I36 m _ _
              refine ⟨rest36.length, by simp, ?_⟩
              rw [hI36]
              exact ⟨i_32 + 1, rest36, (out_33.set (Int.toNat (i64 (x47 - 1))) true), H53, rfl, drop_next hd36, by simp at hl36; omega, hL36, (Le.trans hle35 hE53), ((hS53 1 rfl).trans sf1), ((hS53 2 rfl).trans sf2), ((hS53 6 rfl).trans sf6), (Eq.trans rfl (congrArg (Value.int .i64) (i64_succ (n := cells.length) (by simp at hl36; omega) hlen36))), hst⟩
        ·
          cases suf36 with
          | cons _ _ => exact absurd (of_decide_eq_false hc37) (by simp at hl36; omega)
          | nil =>
            obtain rfl := range_nil hL36
            refine W_exit ?_
            show R36 _ _
            rw [hR36]
            exact ⟨out_33, H34, rfl, hle35, sf6, (Star.keepN 1 hst)⟩
    ·
      clear hst
      intro f w_ hR
      rw [hR36] at hR
      obtain ⟨out_33, H34, rfl, hle35, sf6, hst⟩ := hR
      clear hR36
      refine W_seq ?_
      refine W_region ?_
      refine L_mv (v := v29) rfl sf6 ?_
      refine L_as (v := v29) rfl rfl ?_
      refine L_as (v := .bool true) rfl rfl ?_
      refine L_nil ?_
      refine W_ret ?_
      refine retG2 (v1 := v29) (v2 := .bool true) Try.results27 rfl rfl ?_
      obtain rfl := so hF
      exact ⟨v29, rfl, (Star.down hst hle35 (closedL_cons (closed_own (OR.closed_ownS closed_bool) _ _) closedL_nil))⟩

theorem i_EncodeCells_c {m : Model} {cells : List Int} {v0_0 : Value} {v0_1 : Value} {v1 : Value} {H : FH} {w : World} (hst : Star H w []) (h0_0 : (RP.slice 3 RP.int).rel H [v0_0] m.sizes) (h0_1 : (RP.slice 68 (rRule 3 22)).rel H [v0_1] m.rules) (h1 : (RP.slice 3 RP.int).rel H [v1] cells) {r : (List Bool) × Bool} (hF : i_EncodeCells m cells = some r) :
    C Try.prog 28 #[.agg #[v0_0, v0_1], v1] w fun v w' => ∃ (u1 : Value), v = .tuple #[u1, .bool r.2] ∧ Star H w' [own (OR.ownS 4 (OR.frz RP.bool)) [u1] r.1] := by
  unfold i_EncodeCells at hF
  refine C_enter Try.func28 rfl Try.ntmps28 rfl ?_
  refine W_seq ?_
  refine W_region ?_
  refine L_box (v := .agg #[v0_0, v0_1]) (cs := #[v0_0, v0_1]) rfl rfl rfl hst ?_
  intro g3 w4 hst
  refine L_as (v := (.slice none 0 0)) rfl rfl ?_
  refine L_as (v := .bool false) rfl rfl ?_
  refine L_nil ?_
  refine W_seq ?_
  refine W_seq ?_
  obtain ⟨x10, hx10, hF⟩ := bind_some hF
  refine W_region ?_
  refine L_lda (cs := [v0_0, v0_1]) rfl Try.isAgg30 Try.sizeOf30 rfl (At.sub0 (Blk.at (Star.blkAt 0 hst rfl)) 0 2) rfl ?_
  refine L_mv (v := v1) rfl rfl ?_
  obtain ⟨Hb12, hle13, hsb14, hfz15, hbk16⟩ := Star.borrow hst
  refine L_call (args := #[.agg #[v0_0, v0_1], v1]) rfl Try.call55 (ops2 rfl rfl) (i_CellsValid_c (m := m) (cells := cells) hsb14 (RP.mono _ h0_0 hle13) (RP.mono _ h0_1 hle13) (RP.mono _ h1 hle13) hx10) ?_
  rintro _ w17 ⟨rfl, hst⟩
  have hst := hbk16 hst closedL_nil
  refine L_not_ (b := x10) rfl rfl ?_
  refine L_nil ?_
  refine W_cond (b := (!x10)) rfl (fun hc18 => ?_) (fun hc18 => ?_)
  ·
    have hF := (ite_t hc18).symm.trans hF
    refine W_seq ?_
    refine W_region ?_
    refine L_as (v := (.slice none 0 0)) rfl rfl ?_
    refine L_as (v := .bool false) rfl rfl ?_
    refine L_nil ?_
    refine W_ret ?_
    refine retG2 (v1 := (.slice none 0 0)) (v2 := .bool false) Try.results28 rfl rfl ?_
    obtain rfl := so hF
    have hst := Star.addNil (R := (OR.frz RP.bool)) (e := 4) hst
    exact ⟨(.slice none 0 0), rfl, (Star.keepN 1 hst)⟩
  ·
    have hF := (ite_f hc18).symm.trans hF
    refine W_skip ?_
    refine W_seq ?_
    obtain ⟨x20, hx20, hF⟩ := bind_some hF
    refine W_region ?_
    refine L_mk (R := (OR.frz RP.bool)) (z0 := false) (zc := [.bool false]) rfl et_46 (by kernel_rfl) (fun _ _ => ⟨rfl, rfl⟩) rfl rfl hx20 hst ?_
    intro v24 w25 hst
    refine L_as (v := v24) rfl rfl ?_
    refine L_nil ?_
    refine W_seq ?_
    refine W_seq ?_
    refine W_region ?_
    refine L_mv (v := v1) rfl rfl ?_
    refine L_len (v := v1) (n := List.length cells) rfl Try.underlying22 rfl (slice_len h1) ?_
    refine L_mv (v := .int .i64 0) rfl rfl ?_
    refine L_nil ?_
    have hlen29 : List.length cells ≤ 9223372036854775807 := len_le (slice_len h1)
    obtain ⟨j29, hL29, hF⟩ := bind_some hF
    obtain ⟨R29, hR29⟩ : ∃ R : Fr → World → Prop, R = fun f w_ => ∃ out_28 : List Bool, j29 = .nx out_28 ∧ f 6 = v24 ∧ Star H w_ ([own (OR.ownS 4 (OR.frz RP.bool)) [v24] out_28]) := ⟨_, rfl⟩
    refine W_join R29 ?_ ?_
    ·
      refine W_block ?_
      obtain ⟨I29, hI29⟩ : ∃ I : Nat → Fr → World → Prop, I = fun n f w_ => ∃ i_27 : Nat, ∃ suf29 : List Int, ∃ out_28 : List Bool, n = suf29.length ∧ List.drop i_27 cells = suf29 ∧ i_27 + suf29.length = cells.length ∧ rangeL (i_EncodeCells_b1 m) suf29 i_27 out_28 = some j29 ∧ f 2 = .pointer (some ⟨g3, 0, none⟩) ∧ f 6 = v24 ∧ f 14 = v1 ∧ f 15 = .int .i64 (cells.length : Int) ∧ f 16 = .int .i64 (i_27 : Int) ∧ Star H w_ ([own (OR.ownS 4 (OR.frz RP.bool)) [v24] out_28, box g3 30 #[v0_0, v0_1]]) := ⟨_, rfl⟩
      refine W_loop I29 (n := cells.length) ?_ ?_
      · rw [hI29]; exact ⟨0, cells, x20, rfl, rfl, Nat.zero_add _, hL29, rfl, rfl, rfl, rfl, rfl, hst⟩
      ·
        clear hst
        intro n29 f w_ hI
        rw [hI29] at hI
        obtain ⟨i_27, suf29, out_28, rfl, hd29, hl29, hL29, sf2, sf6, sf14, sf15, sf16, hst⟩ := hI
        refine W_seq ?_
        refine W_region ?_
        refine L_lss (m := (i_27 : Int)) (n := (cells.length : Int)) rfl sf16 sf15 ?_
        refine L_nil ?_
        refine W_seq ?_
        refine W_cond (b := decide ((i_27 : Int) < (cells.length : Int))) rfl (fun hc30 => ?_) (fun hc30 => ?_)
        ·
          have hlt29 := of_decide_eq_true hc30
          cases suf29 with
          | nil => exact absurd hlt29 (by simp at hl29; omega)
          | cons x_29 rest29 =>
            obtain ⟨o29, hB29, hL29⟩ := range_cons hL29
            rw [i_EncodeCells_b1] at hB29
            have hix29 := drop_idx hd29
            refine W_skip ?_
            refine W_seq ?_
            refine W_block ?_
            refine W_seq ?_
            refine W_region ?_
            refine L_mv (v := .int .i64 (i_27 : Int)) rfl sf16 ?_
            refine L_ix (r := RP.int) rfl Try.underlying22 Try.sizeOf3 sf14 h1 sf16 hix29 ?_
            intro g35 o36 cs_g35 hrk_hat37 hat37
            obtain rfl : _ = [_] := hrk_hat37
            refine L_ld (v := .int .i64 x_29) rfl Try.isAgg3 rfl (At.cell (AtH.at hat37 hst.sub) (j := 0) rfl) ?_
            refine L_as (v := .int .i64 (i_27 : Int)) rfl rfl ?_
            refine L_as (v := .int .i64 x_29) rfl rfl ?_
            refine L_nil ?_
            obtain ⟨x44, hx44, hB29⟩ := bind_some hB29
            obtain ⟨x46, hx46, hB29⟩ := bind_some hB29
            refine W_region ?_
            refine L_mv (v := v24) rfl sf6 ?_
            refine L_lda (cs := [v0_0, v0_1]) rfl Try.isAgg30 Try.sizeOf30 sf2 (At.sub0 (Blk.at (Star.blkAt 1 hst rfl)) 0 2) rfl ?_
            refine L_mv (v := .int .i64 (i_27 : Int)) rfl rfl ?_
            refine L_mv (v := .int .i64 x_29) rfl rfl ?_
            obtain ⟨Hb50, hle51, hsb52, hfz53, hbk54⟩ := Star.borrow hst
            refine L_call (args := #[.agg #[v0_0, v0_1], .int .i64 (i_27 : Int), .int .i64 x_29]) rfl Try.call49 (ops3 rfl rfl rfl) (i_Model_boolVar_c (m := m) (cell := (i_27 : Int)) (value := x_29) hsb52 (RP.mono _ h0_0 hle51) (RP.mono _ h0_1 hle51) hx44) ?_
            rintro _ w55 ⟨rfl, hst⟩
            have hst := hbk54 hst closedL_nil
            refine L_sub (m := x44) (n := 1) rfl rfl rfl ?_
            obtain ⟨g56, cap_g56, hv57, _, _⟩ := Star.row 0 hst rfl hx46
            refine L_ixO (R := (OR.frz RP.bool)) (tb := 0) 0 rfl Try.underlying46 Try.sizeOf4 rfl hv57 (by first | rfl | simp) rfl hx46 ?_
            have hst := Star.addF (r := RP.bool) (cs := [.bool true]) (x := true) hst rfl
            refine L_stE1 (u := .bool true) rfl Try.sizeOf4 rfl rfl rfl hv57 hst hx46 ?_
            intro w58 hst
            refine L_nil ?_
            refine W_region ?_
            refine L_add (m := (i_27 : Int)) (n := 1) rfl sf16 rfl ?_
            refine L_mv (v := .int .i64 (i64 ((i_27 : Int) + 1))) rfl rfl ?_
            refine L_nil ?_
            obtain rfl := so hB29
            show ∃ m, m < _ ∧ I29 m _ _
            refine ⟨rest29.length, by simp, ?_⟩
            rw [hI29]
            exact ⟨i_27 + 1, rest29, (out_28.set (Int.toNat (i64 (x44 - 1))) true), rfl, drop_next hd29, by simp at hl29; omega, hL29, sf2, sf6, sf14, sf15, (Eq.trans rfl (congrArg (Value.int .i64) (i64_succ (n := cells.length) (by simp at hl29; omega) hlen29))), hst⟩
        ·
          cases suf29 with
          | cons _ _ => exact absurd (of_decide_eq_false hc30) (by simp at hl29; omega)
          | nil =>
            obtain rfl := range_nil hL29
            refine W_exit ?_
            show R29 _ _
            rw [hR29]
            exact ⟨out_28, rfl, sf6, (Star.keepN 1 hst)⟩
    ·
      clear hst
      intro f w_ hR
      rw [hR29] at hR
      obtain ⟨out_28, rfl, sf6, hst⟩ := hR
      clear hR29
      refine W_seq ?_
      refine W_region ?_
      refine L_mv (v := v24) rfl sf6 ?_
      refine L_as (v := v24) rfl rfl ?_
      refine L_as (v := .bool true) rfl rfl ?_
      refine L_nil ?_
      refine W_ret ?_
      refine retG2 (v1 := v24) (v2 := .bool true) Try.results28 rfl rfl ?_
      obtain rfl := so hF
      exact ⟨v24, rfl, hst⟩

theorem l_markIntS_c {fu : Nat} {a : List Int} {k : Int} {v0 : Value} {H : FH} {w : World} (hst : Star H w [own (OR.ownS 3 (OR.frz RP.int)) [v0] a]) {r : Int × (List Int)} (hF : l_markIntS fu a k = some r) :
    C Try.prog 31 #[v0, .int .i64 k] w fun v w' => v = .int .i64 r.1 ∧ Star H w' [own (OR.ownS 3 (OR.frz RP.int)) [v0] r.2] := by
  unfold l_markIntS at hF
  refine C_enter Try.func31 rfl Try.ntmps31 rfl ?_
  refine W_seq ?_
  refine W_region ?_
  refine L_as (v := .int .i64 0) rfl rfl ?_
  refine L_nil ?_
  refine W_seq ?_
  refine W_seq ?_
  refine W_region ?_
  refine L_as (v := .int .i64 0) rfl rfl ?_
  refine L_nil ?_
  obtain ⟨j8, hL8, hF⟩ := bind_some hF
  obtain ⟨R8, hR8⟩ : ∃ R : Fr → World → Prop, R = fun f w_ => ∃ a_5 : List Int, ∃ k_6 : Int, ∃ i_7 : Int, j8 = .nx (a_5, k_6, i_7) ∧ f 1 = .int .i64 k_6 ∧ Star H w_ ([own (OR.ownS 3 (OR.frz RP.int)) [v0] a_5]) := ⟨_, rfl⟩
  refine W_join R8 ?_ ?_
  ·
    refine W_block ?_
    obtain ⟨I8, hI8⟩ : ∃ I : Nat → Fr → World → Prop, I = fun n f w_ => ∃ a_5 : List Int, ∃ k_6 : Int, ∃ i_7 : Int, whileL l_markIntS_b1 n (a_5, k_6, i_7) = some j8 ∧ f 0 = v0 ∧ f 1 = .int .i64 k_6 ∧ f 5 = .int .i64 i_7 ∧ Star H w_ ([own (OR.ownS 3 (OR.frz RP.int)) [v0] a_5]) := ⟨_, rfl⟩
    refine W_loop I8 (n := fu) ?_ ?_
    · rw [hI8]; exact ⟨a, k, 0, hL8, rfl, rfl, rfl, hst⟩
    ·
      clear hst
      intro n8 f w_ hI
      rw [hI8] at hI
      obtain ⟨a_5, k_6, i_7, hL8, sf0, sf1, sf5, hst⟩ := hI
      cases n8 with
      | zero => exact (while_zero hL8).elim
      | succ n8 =>
        obtain ⟨o8, hB8, hL8⟩ := while_succ hL8
        rw [l_markIntS_b1] at hB8
        refine W_seq ?_
        refine W_seq ?_
        refine W_region ?_
        refine L_mv (v := .int .i64 i_7) rfl sf5 ?_
        refine L_mv (v := v0) rfl sf0 ?_
        refine L_len (v := v0) (n := List.length a_5) rfl Try.underlying22 rfl (Star.len 0 hst rfl) ?_
        refine L_lss (m := i_7) (n := (a_5.length : Int)) rfl rfl rfl ?_
        refine L_nil ?_
        refine W_cond (b := decide (i_7 < (a_5.length : Int))) rfl (fun hc9 => ?_) (fun hc9 => ?_)
        ·
          have hB8 := (ite_t hc9).symm.trans hB8
          refine W_skip ?_
          refine W_seq ?_
          refine W_block ?_
          refine W_seq ?_
          obtain ⟨x10, hx10, hB8⟩ := bind_some hB8
          refine W_region ?_
          refine L_mv (v := v0) rfl sf0 ?_
          refine L_mv (v := .int .i64 i_7) rfl sf5 ?_
          refine L_mv (v := .int .i64 k_6) rfl sf1 ?_
          obtain ⟨g14, cap_g14, hv15, _, _⟩ := Star.row 0 hst rfl hx10
          refine L_ixO (R := (OR.frz RP.int)) (tb := 0) 0 rfl Try.underlying22 Try.sizeOf3 rfl hv15 (by first | rfl | simp) rfl hx10 ?_
          have hst := Star.addF (r := RP.int) (cs := [.int .i64 k_6]) (x := k_6) hst rfl
          refine L_stE1 (u := .int .i64 k_6) rfl Try.sizeOf3 rfl rfl rfl hv15 hst hx10 ?_
          intro w16 hst
          refine L_nil ?_
          refine W_region ?_
          refine L_mv (v := .int .i64 k_6) rfl sf1 ?_
          refine L_add (m := k_6) (n := 1) rfl rfl rfl ?_
          refine L_as (v := .int .i64 (i64 (k_6 + 1))) rfl rfl ?_
          refine L_nil ?_
          refine W_region ?_
          refine L_mv (v := .int .i64 i_7) rfl sf5 ?_
          refine L_add (m := i_7) (n := 1) rfl rfl rfl ?_
          refine L_as (v := .int .i64 (i64 (i_7 + 1))) rfl rfl ?_
          refine L_nil ?_
          obtain rfl := so hB8
          show ∃ m, m < _ ∧ I8 m _ _
          refine ⟨n8, Nat.lt_succ_self _, ?_⟩
          rw [hI8]
          exact ⟨(a_5.set (Int.toNat i_7) k_6), i64 (k_6 + 1), i64 (i_7 + 1), hL8, sf0, rfl, rfl, hst⟩
        ·
          have hB8 := (ite_f hc9).symm.trans hB8
          refine W_exit ?_
          obtain rfl := so hB8
          obtain rfl := so hL8
          show R8 _ _
          rw [hR8]
          exact ⟨a_5, k_6, i_7, rfl, sf1, hst⟩
  ·
    clear hst
    intro f w_ hR
    rw [hR8] at hR
    obtain ⟨a_5, k_6, i_7, rfl, sf1, hst⟩ := hR
    clear hR8
    refine W_seq ?_
    refine W_region ?_
    refine L_mv (v := .int .i64 k_6) rfl sf1 ?_
    refine L_as (v := .int .i64 k_6) rfl rfl ?_
    refine L_nil ?_
    refine W_ret ?_
    refine retG1 (v1 := .int .i64 k_6) Try.results31 rfl ?_
    obtain rfl := so hF
    exact ⟨rfl, hst⟩

theorem l_markIntSS_c {fu : Nat} {a : List (List Int)} {k : Int} {v0 : Value} {H : FH} {w : World} (hst : Star H w [own (OR.ownS 22 (OR.ownS 3 (OR.frz RP.int))) [v0] a]) {r : Int × (List (List Int))} (hF : l_markIntSS fu a k = some r) :
    C Try.prog 75 #[v0, .int .i64 k] w fun v w' => v = .int .i64 r.1 ∧ Star H w' [own (OR.ownS 22 (OR.ownS 3 (OR.frz RP.int))) [v0] r.2] := by
  unfold l_markIntSS at hF
  refine C_enter Try.func75 rfl Try.ntmps75 rfl ?_
  refine W_seq ?_
  refine W_region ?_
  refine L_as (v := .int .i64 0) rfl rfl ?_
  refine L_nil ?_
  refine W_seq ?_
  refine W_seq ?_
  refine W_region ?_
  refine L_as (v := .int .i64 0) rfl rfl ?_
  refine L_nil ?_
  obtain ⟨j8, hL8, hF⟩ := bind_some hF
  obtain ⟨R8, hR8⟩ : ∃ R : Fr → World → Prop, R = fun f w_ => ∃ a_5 : List (List Int), ∃ k_6 : Int, ∃ i_7 : Int, j8 = .nx (a_5, k_6, i_7) ∧ f 1 = .int .i64 k_6 ∧ Star H w_ ([own (OR.ownS 22 (OR.ownS 3 (OR.frz RP.int))) [v0] a_5]) := ⟨_, rfl⟩
  refine W_join R8 ?_ ?_
  ·
    refine W_block ?_
    obtain ⟨I8, hI8⟩ : ∃ I : Nat → Fr → World → Prop, I = fun n f w_ => ∃ a_5 : List (List Int), ∃ k_6 : Int, ∃ i_7 : Int, whileL (l_markIntSS_b1 fu) n (a_5, k_6, i_7) = some j8 ∧ f 0 = v0 ∧ f 1 = .int .i64 k_6 ∧ f 5 = .int .i64 i_7 ∧ Star H w_ ([own (OR.ownS 22 (OR.ownS 3 (OR.frz RP.int))) [v0] a_5]) := ⟨_, rfl⟩
    refine W_loop I8 (n := fu) ?_ ?_
    · rw [hI8]; exact ⟨a, k, 0, hL8, rfl, rfl, rfl, hst⟩
    ·
      clear hst
      intro n8 f w_ hI
      rw [hI8] at hI
      obtain ⟨a_5, k_6, i_7, hL8, sf0, sf1, sf5, hst⟩ := hI
      cases n8 with
      | zero => exact (while_zero hL8).elim
      | succ n8 =>
        obtain ⟨o8, hB8, hL8⟩ := while_succ hL8
        rw [l_markIntSS_b1] at hB8
        refine W_seq ?_
        refine W_seq ?_
        refine W_region ?_
        refine L_mv (v := .int .i64 i_7) rfl sf5 ?_
        refine L_mv (v := v0) rfl sf0 ?_
        refine L_len (v := v0) (n := List.length a_5) rfl Try.underlying66 rfl (Star.len 0 hst rfl) ?_
        refine L_lss (m := i_7) (n := (a_5.length : Int)) rfl rfl rfl ?_
        refine L_nil ?_
        refine W_cond (b := decide (i_7 < (a_5.length : Int))) rfl (fun hc9 => ?_) (fun hc9 => ?_)
        ·
          have hB8 := (ite_t hc9).symm.trans hB8
          refine W_skip ?_
          refine W_seq ?_
          refine W_block ?_
          obtain ⟨x10, hx10, hB8⟩ := bind_some hB8
          obtain ⟨x20, hx20, hB8⟩ := bind_some hB8
          refine W_region ?_
          refine L_mv (v := v0) rfl sf0 ?_
          refine L_mv (v := .int .i64 i_7) rfl sf5 ?_
          obtain ⟨g22, cap_g22, hv23, _, _⟩ := Star.row 0 hst rfl hx10
          refine L_ixO (R := (OR.ownS 3 (OR.frz RP.int))) (tb := 0) 0 rfl Try.underlying66 Try.sizeOf22 rfl hv23 (by first | rfl | simp) rfl hx10 ?_
          obtain ⟨cs24, hst, hat24⟩ := Star.focus hst hx10
          have hat24 := hat24 _ _ _ hv23
          obtain ⟨u24_0, rfl⟩ := own1 rfl hst
          refine L_ld (v := u24_0) rfl Try.isAgg22 rfl (At.cell hat24 (j := 0) rfl) ?_
          refine L_mv (v := .int .i64 k_6) rfl sf1 ?_
          obtain ⟨Hb26, hle27, hsb28, hfz29, hbk30⟩ := Star.lend [_] hst
          refine L_call (args := #[u24_0, .int .i64 k_6]) rfl Try.call31 (ops2 rfl rfl) (l_markIntS_c (a := x10) (k := k_6) hsb28 hx20) ?_
          rintro _ w31 ⟨rfl, hst⟩
          have hst := hbk30 hst (closedL_cons (closed_own (OR.closed_ownS closed_int) _ _) closedL_nil)
          refine L_as (v := .int .i64 x20.1) rfl rfl ?_
          refine L_nil ?_
          refine W_region ?_
          refine L_mv (v := .int .i64 i_7) rfl sf5 ?_
          refine L_add (m := i_7) (n := 1) rfl rfl rfl ?_
          refine L_as (v := .int .i64 (i64 (i_7 + 1))) rfl rfl ?_
          refine L_nil ?_
          obtain rfl := so hB8
          have hst := Star.unfocus (x' := x20.2) (idx_some hx10).2.2 hst
          show ∃ m, m < _ ∧ I8 m _ _
          refine ⟨n8, Nat.lt_succ_self _, ?_⟩
          rw [hI8]
          exact ⟨(a_5.set (Int.toNat i_7) x20.2), x20.1, i64 (i_7 + 1), hL8, sf0, rfl, rfl, hst⟩
        ·
          have hB8 := (ite_f hc9).symm.trans hB8
          refine W_exit ?_
          obtain rfl := so hB8
          obtain rfl := so hL8
          show R8 _ _
          rw [hR8]
          exact ⟨a_5, k_6, i_7, rfl, sf1, hst⟩
  ·
    clear hst
    intro f w_ hR
    rw [hR8] at hR
    obtain ⟨a_5, k_6, i_7, rfl, sf1, hst⟩ := hR
    clear hR8
    refine W_seq ?_
    refine W_region ?_
    refine L_mv (v := .int .i64 k_6) rfl sf1 ?_
    refine L_as (v := .int .i64 k_6) rfl rfl ?_
    refine L_nil ?_
    refine W_ret ?_
    refine retG1 (v1 := .int .i64 k_6) Try.results75 rfl ?_
    obtain rfl := so hF
    exact ⟨rfl, hst⟩

theorem l_markRuleS_c {fu : Nat} {a : List Rule} {k : Int} {v0 : Value} {H : FH} {w : World} (hst : Star H w [own (OR.ownS 68 (oRule 3 22)) [v0] a]) {r : Int × (List Rule)} (hF : l_markRuleS fu a k = some r) :
    C Try.prog 58 #[v0, .int .i64 k] w fun v w' => v = .int .i64 r.1 ∧ Star H w' [own (OR.ownS 68 (oRule 3 22)) [v0] r.2] := by
  unfold l_markRuleS at hF
  refine C_enter Try.func58 rfl Try.ntmps58 rfl ?_
  refine W_seq ?_
  refine W_region ?_
  refine L_as (v := .int .i64 0) rfl rfl ?_
  refine L_nil ?_
  refine W_seq ?_
  refine W_seq ?_
  refine W_region ?_
  refine L_as (v := .int .i64 0) rfl rfl ?_
  refine L_nil ?_
  obtain ⟨j8, hL8, hF⟩ := bind_some hF
  obtain ⟨R8, hR8⟩ : ∃ R : Fr → World → Prop, R = fun f w_ => ∃ a_5 : List Rule, ∃ k_6 : Int, ∃ i_7 : Int, j8 = .nx (a_5, k_6, i_7) ∧ f 1 = .int .i64 k_6 ∧ Star H w_ ([own (OR.ownS 68 (oRule 3 22)) [v0] a_5]) := ⟨_, rfl⟩
  refine W_join R8 ?_ ?_
  ·
    refine W_block ?_
    obtain ⟨I8, hI8⟩ : ∃ I : Nat → Fr → World → Prop, I = fun n f w_ => ∃ a_5 : List Rule, ∃ k_6 : Int, ∃ i_7 : Int, whileL (l_markRuleS_b1 fu) n (a_5, k_6, i_7) = some j8 ∧ f 0 = v0 ∧ f 1 = .int .i64 k_6 ∧ f 5 = .int .i64 i_7 ∧ Star H w_ ([own (OR.ownS 68 (oRule 3 22)) [v0] a_5]) := ⟨_, rfl⟩
    refine W_loop I8 (n := fu) ?_ ?_
    · rw [hI8]; exact ⟨a, k, 0, hL8, rfl, rfl, rfl, hst⟩
    ·
      clear hst
      intro n8 f w_ hI
      rw [hI8] at hI
      obtain ⟨a_5, k_6, i_7, hL8, sf0, sf1, sf5, hst⟩ := hI
      cases n8 with
      | zero => exact (while_zero hL8).elim
      | succ n8 =>
        obtain ⟨o8, hB8, hL8⟩ := while_succ hL8
        rw [l_markRuleS_b1] at hB8
        refine W_seq ?_
        refine W_seq ?_
        refine W_region ?_
        refine L_mv (v := .int .i64 i_7) rfl sf5 ?_
        refine L_mv (v := v0) rfl sf0 ?_
        refine L_len (v := v0) (n := List.length a_5) rfl Try.underlying28 rfl (Star.len 0 hst rfl) ?_
        refine L_lss (m := i_7) (n := (a_5.length : Int)) rfl rfl rfl ?_
        refine L_nil ?_
        refine W_cond (b := decide (i_7 < (a_5.length : Int))) rfl (fun hc9 => ?_) (fun hc9 => ?_)
        ·
          have hB8 := (ite_t hc9).symm.trans hB8
          refine W_skip ?_
          refine W_seq ?_
          refine W_block ?_
          refine W_seq ?_
          obtain ⟨x10, hx10, hB8⟩ := bind_some hB8
          refine W_region ?_
          refine L_mv (v := v0) rfl sf0 ?_
          refine L_mv (v := .int .i64 i_7) rfl sf5 ?_
          refine L_mv (v := .int .i64 k_6) rfl sf1 ?_
          obtain ⟨g14, cap_g14, hv15, _, _⟩ := Star.row 0 hst rfl hx10
          refine L_ixO (R := (oRule 3 22)) (tb := 0) 0 rfl Try.underlying28 Try.sizeOf68 rfl hv15 (by first | rfl | simp) rfl hx10 ?_
          refine L_fa (o' := Int.toNat i_7 * 5 + 0) rfl fa_68_0 rfl rfl ?_
          refine L_stF (j := 0) (u := .int .i64 k_6) (z := { x10 with kind := k_6 }) rfl Try.sizeOf3 rfl rfl rfl rfl hv15 hst hx10 fld_oRule_0 ?_
          intro w16 hst
          refine L_nil ?_
          refine W_seq ?_
          refine W_region ?_
          refine L_mv (v := .int .i64 k_6) rfl sf1 ?_
          refine L_add (m := k_6) (n := 1) rfl rfl rfl ?_
          refine L_as (v := .int .i64 (i64 (k_6 + 1))) rfl rfl ?_
          refine L_nil ?_
          refine W_seq ?_
          obtain ⟨x17, hx17, hB8⟩ := bind_some hB8
          obtain ⟨x27, hx27, hB8⟩ := bind_some hB8
          refine W_region ?_
          refine L_mv (v := v0) rfl sf0 ?_
          refine L_mv (v := .int .i64 i_7) rfl sf5 ?_
          refine L_ixO (R := (oRule 3 22)) (tb := 0) 0 rfl Try.underlying28 Try.sizeOf68 rfl hv15 (by first | rfl | simp) rfl hx17 ?_
          refine L_fa (o' := Int.toNat i_7 * 5 + 1) rfl fa_68_1 rfl rfl ?_
          obtain ⟨cs29, hst, hat29⟩ := Star.focus hst hx17
          have hat29 := hat29 _ _ _ hv15
          obtain ⟨u29_0, u29_1, u29_2, rfl, hst⟩ := oRule_open hst
          refine L_ld (v := u29_0) rfl Try.isAgg22 rfl (At.cell hat29 (j := 1) rfl) ?_
          refine L_mv (v := .int .i64 (i64 (k_6 + 1))) rfl rfl ?_
          obtain ⟨Hb33, hle34, hsb35, hfz36, hbk37⟩ := Star.lend [_] hst
          refine L_call (args := #[u29_0, .int .i64 (i64 (k_6 + 1))]) rfl Try.call31 (ops2 rfl rfl) (l_markIntS_c (a := x17.vars) (k := i64 (k_6 + 1)) hsb35 hx27) ?_
          rintro _ w38 ⟨rfl, hst⟩
          have hst := hbk37 hst (closedL_cons (closed_own (OR.closed_ownS closed_int) _ _) closedL_nil)
          refine L_as (v := .int .i64 x27.1) rfl rfl ?_
          refine L_nil ?_
          refine W_seq ?_
          obtain ⟨x39, hx39, hB8⟩ := bind_some hB8
          obtain ⟨x49, hx49, hB8⟩ := bind_some hB8
          refine W_region ?_
          refine L_mv (v := v0) rfl sf0 ?_
          refine L_mv (v := .int .i64 i_7) rfl sf5 ?_
          have hst := oRule_close (r := ({ kind := x17.kind, vars := x27.2, coefs := x17.coefs, bound := x17.bound, rows := x17.rows } : Rule)) hst
          have hst := Star.unfocus (x' := ({ kind := x17.kind, vars := x27.2, coefs := x17.coefs, bound := x17.bound, rows := x17.rows } : Rule)) (idx_some hx17).2.2 hst
          refine L_ixO (R := (oRule 3 22)) (tb := 0) 0 rfl Try.underlying28 Try.sizeOf68 rfl hv15 (by first | rfl | simp) rfl hx39 ?_
          refine L_fa (o' := Int.toNat i_7 * 5 + 2) rfl fa_68_2 rfl rfl ?_
          obtain ⟨cs51, hst, hat51⟩ := Star.focus hst hx39
          have hat51 := hat51 _ _ _ hv15
          obtain ⟨u51_0, u51_1, u51_2, rfl, hst⟩ := oRule_open hst
          refine L_ld (v := u51_1) rfl Try.isAgg22 rfl (At.cell hat51 (j := 2) rfl) ?_
          refine L_mv (v := .int .i64 x27.1) rfl rfl ?_
          have hst := Star.get 1 hst rfl
          obtain ⟨Hb55, hle56, hsb57, hfz58, hbk59⟩ := Star.lend [_] hst
          refine L_call (args := #[u51_1, .int .i64 x27.1]) rfl Try.call31 (ops2 rfl rfl) (l_markIntS_c (a := x39.coefs) (k := x27.1) hsb57 hx49) ?_
          rintro _ w60 ⟨rfl, hst⟩
          have hst := hbk59 hst (closedL_cons (closed_own (OR.closed_ownS closed_int) _ _) closedL_nil)
          refine L_as (v := .int .i64 x49.1) rfl rfl ?_
          refine L_nil ?_
          refine W_seq ?_
          obtain ⟨x61, hx61, hB8⟩ := bind_some hB8
          refine W_region ?_
          refine L_mv (v := v0) rfl sf0 ?_
          refine L_mv (v := .int .i64 i_7) rfl sf5 ?_
          refine L_mv (v := .int .i64 x49.1) rfl rfl ?_
          have hst := Star.get 3 hst rfl
          have hst := Star.get 3 hst rfl
          have hst := Star.get 2 hst rfl
          have hst := Star.get 3 hst rfl
          have hst := oRule_close (r := ({ kind := x39.kind, vars := x39.vars, coefs := x49.2, bound := x39.bound, rows := x39.rows } : Rule)) hst
          have hst := Star.unfocus (x' := ({ kind := x39.kind, vars := x39.vars, coefs := x49.2, bound := x39.bound, rows := x39.rows } : Rule)) (idx_some hx39).2.2 hst
          refine L_ixO (R := (oRule 3 22)) (tb := 0) 0 rfl Try.underlying28 Try.sizeOf68 rfl hv15 (by first | rfl | simp) rfl hx61 ?_
          refine L_fa (o' := Int.toNat i_7 * 5 + 3) rfl fa_68_3 rfl rfl ?_
          refine L_stF (j := 3) (u := .int .i64 x49.1) (z := { x61 with bound := x49.1 }) rfl Try.sizeOf3 rfl rfl rfl rfl hv15 hst hx61 fld_oRule_3 ?_
          intro w63 hst
          refine L_nil ?_
          refine W_seq ?_
          refine W_region ?_
          refine L_mv (v := .int .i64 x49.1) rfl rfl ?_
          refine L_add (m := x49.1) (n := 1) rfl rfl rfl ?_
          refine L_as (v := .int .i64 (i64 (x49.1 + 1))) rfl rfl ?_
          refine L_nil ?_
          obtain ⟨x64, hx64, hB8⟩ := bind_some hB8
          obtain ⟨x74, hx74, hB8⟩ := bind_some hB8
          refine W_region ?_
          refine L_mv (v := v0) rfl sf0 ?_
          refine L_mv (v := .int .i64 i_7) rfl sf5 ?_
          refine L_ixO (R := (oRule 3 22)) (tb := 0) 0 rfl Try.underlying28 Try.sizeOf68 rfl hv15 (by first | rfl | simp) rfl hx64 ?_
          refine L_fa (o' := Int.toNat i_7 * 5 + 4) rfl fa_68_4 rfl rfl ?_
          obtain ⟨cs76, hst, hat76⟩ := Star.focus hst hx64
          have hat76 := hat76 _ _ _ hv15
          obtain ⟨u76_0, u76_1, u76_2, rfl, hst⟩ := oRule_open hst
          refine L_ld (v := u76_2) rfl Try.isAgg66 rfl (At.cell hat76 (j := 4) rfl) ?_
          refine L_mv (v := .int .i64 (i64 (x49.1 + 1))) rfl rfl ?_
          have hst := Star.get 2 hst rfl
          obtain ⟨Hb80, hle81, hsb82, hfz83, hbk84⟩ := Star.lend [_] hst
          refine L_call (args := #[u76_2, .int .i64 (i64 (x49.1 + 1))]) rfl Try.call75 (ops2 rfl rfl) (l_markIntSS_c (a := x64.rows) (k := i64 (x49.1 + 1)) hsb82 hx74) ?_
          rintro _ w85 ⟨rfl, hst⟩
          have hst := hbk84 hst (closedL_cons (closed_own (OR.closed_ownS (OR.closed_ownS closed_int)) _ _) closedL_nil)
          refine L_as (v := .int .i64 x74.1) rfl rfl ?_
          refine L_nil ?_
          refine W_region ?_
          refine L_mv (v := .int .i64 i_7) rfl sf5 ?_
          refine L_add (m := i_7) (n := 1) rfl rfl rfl ?_
          refine L_as (v := .int .i64 (i64 (i_7 + 1))) rfl rfl ?_
          refine L_nil ?_
          obtain rfl := so hB8
          have hst := Star.get 3 hst rfl
          have hst := Star.get 1 hst rfl
          have hst := Star.get 3 hst rfl
          have hst := Star.get 3 hst rfl
          have hst := oRule_close (r := ({ kind := x64.kind, vars := x64.vars, coefs := x64.coefs, bound := x64.bound, rows := x74.2 } : Rule)) hst
          have hst := Star.unfocus (x' := ({ kind := x64.kind, vars := x64.vars, coefs := x64.coefs, bound := x64.bound, rows := x74.2 } : Rule)) (idx_some hx64).2.2 hst
          show ∃ m, m < _ ∧ I8 m _ _
          refine ⟨n8, Nat.lt_succ_self _, ?_⟩
          rw [hI8]
          exact ⟨(((((a_5.set (Int.toNat i_7) ({ x10 with kind := k_6 })).set (Int.toNat i_7) ({ kind := x17.kind, vars := x27.2, coefs := x17.coefs, bound := x17.bound, rows := x17.rows } : Rule)).set (Int.toNat i_7) ({ kind := x39.kind, vars := x39.vars, coefs := x49.2, bound := x39.bound, rows := x39.rows } : Rule)).set (Int.toNat i_7) ({ x61 with bound := x49.1 })).set (Int.toNat i_7) ({ kind := x64.kind, vars := x64.vars, coefs := x64.coefs, bound := x64.bound, rows := x74.2 } : Rule)), x74.1, i64 (i_7 + 1), hL8, sf0, rfl, rfl, hst⟩
        ·
          have hB8 := (ite_f hc9).symm.trans hB8
          refine W_exit ?_
          obtain rfl := so hB8
          obtain rfl := so hL8
          show R8 _ _
          rw [hR8]
          exact ⟨a_5, k_6, i_7, rfl, sf1, hst⟩
  ·
    clear hst
    intro f w_ hR
    rw [hR8] at hR
    obtain ⟨a_5, k_6, i_7, rfl, sf1, hst⟩ := hR
    clear hR8
    refine W_seq ?_
    refine W_region ?_
    refine L_mv (v := .int .i64 k_6) rfl sf1 ?_
    refine L_as (v := .int .i64 k_6) rfl rfl ?_
    refine L_nil ?_
    refine W_ret ?_
    refine retG1 (v1 := .int .i64 k_6) Try.results58 rfl ?_
    obtain rfl := so hF
    exact ⟨rfl, hst⟩

theorem l_markModel_c {fu : Nat} {a : Model} {k : Int} {v0_0 : Value} {v0_1 : Value} {H : FH} {w : World} (hst : Star H w [own (OR.ownS 3 (OR.frz RP.int)) [v0_0] a.sizes, own (OR.ownS 68 (oRule 3 22)) [v0_1] a.rules]) {r : Int × Model} (hF : l_markModel fu a k = some r) :
    C Try.prog 30 #[.agg #[v0_0, v0_1], .int .i64 k] w fun v w' => v = .int .i64 r.1 ∧ Star H w' [own (OR.ownS 3 (OR.frz RP.int)) [v0_0] r.2.sizes, own (OR.ownS 68 (oRule 3 22)) [v0_1] r.2.rules] := by
  unfold l_markModel at hF
  refine C_enter Try.func30 rfl Try.ntmps30 rfl ?_
  refine W_seq ?_
  refine W_region ?_
  refine L_box (v := .agg #[v0_0, v0_1]) (cs := #[v0_0, v0_1]) rfl rfl rfl hst ?_
  intro g3 w4 hst
  refine L_as (v := .int .i64 0) rfl rfl ?_
  refine L_nil ?_
  refine W_seq ?_
  obtain ⟨x10, hx10, hF⟩ := bind_some hF
  refine W_region ?_
  refine L_fa (o' := 0) rfl fa_30_0 rfl rfl ?_
  refine L_ld (v := v0_0) rfl Try.isAgg22 rfl (At.cell0 (Blk.at (Star.blkAt 0 hst rfl)) (j := 0) rfl) ?_
  refine L_mv (v := .int .i64 k) rfl rfl ?_
  have hst := Star.get 1 hst rfl
  obtain ⟨Hb12, hle13, hsb14, hfz15, hbk16⟩ := Star.lend [_] hst
  refine L_call (args := #[v0_0, .int .i64 k]) rfl Try.call31 (ops2 rfl rfl) (l_markIntS_c (a := a.sizes) (k := k) hsb14 hx10) ?_
  rintro _ w17 ⟨rfl, hst⟩
  have hst := hbk16 hst (closedL_cons (closed_own (OR.closed_ownS closed_int) _ _) closedL_nil)
  refine L_as (v := .int .i64 x10.1) rfl rfl ?_
  refine L_nil ?_
  refine W_seq ?_
  obtain ⟨x23, hx23, hF⟩ := bind_some hF
  refine W_region ?_
  refine L_fa (o' := 1) rfl fa_30_1 rfl rfl ?_
  refine L_ld (v := v0_1) rfl Try.isAgg28 rfl (At.cell0 (Blk.at (Star.blkAt 1 hst rfl)) (j := 1) rfl) ?_
  refine L_mv (v := .int .i64 x10.1) rfl rfl ?_
  have hst := Star.get 2 hst rfl
  obtain ⟨Hb25, hle26, hsb27, hfz28, hbk29⟩ := Star.lend [_] hst
  refine L_call (args := #[v0_1, .int .i64 x10.1]) rfl Try.call58 (ops2 rfl rfl) (l_markRuleS_c (a := a.rules) (k := x10.1) hsb27 hx23) ?_
  rintro _ w30 ⟨rfl, hst⟩
  have hst := hbk29 hst (closedL_cons (closed_own (OR.closed_ownS closed_oRule) _ _) closedL_nil)
  refine L_as (v := .int .i64 x23.1) rfl rfl ?_
  refine L_nil ?_
  refine W_seq ?_
  refine W_region ?_
  refine L_mv (v := .int .i64 x23.1) rfl rfl ?_
  refine L_as (v := .int .i64 x23.1) rfl rfl ?_
  refine L_nil ?_
  refine W_ret ?_
  refine retG1 (v1 := .int .i64 x23.1) Try.results30 rfl ?_
  obtain rfl := so hF
  have hst := Star.get 1 hst rfl
  exact ⟨rfl, (Star.keepN 2 hst)⟩

theorem l_markBoolS_c {fu : Nat} {a : List Bool} {k : Int} {v0 : Value} {H : FH} {w : World} (hst : Star H w [own (OR.ownS 4 (OR.frz RP.bool)) [v0] a]) {r : Int × (List Bool)} (hF : l_markBoolS fu a k = some r) :
    C Try.prog 32 #[v0, .int .i64 k] w fun v w' => v = .int .i64 r.1 ∧ Star H w' [own (OR.ownS 4 (OR.frz RP.bool)) [v0] r.2] := by
  unfold l_markBoolS at hF
  refine C_enter Try.func32 rfl Try.ntmps32 rfl ?_
  refine W_seq ?_
  refine W_region ?_
  refine L_as (v := .int .i64 0) rfl rfl ?_
  refine L_nil ?_
  refine W_seq ?_
  refine W_seq ?_
  refine W_region ?_
  refine L_as (v := .int .i64 0) rfl rfl ?_
  refine L_nil ?_
  obtain ⟨j8, hL8, hF⟩ := bind_some hF
  obtain ⟨R8, hR8⟩ : ∃ R : Fr → World → Prop, R = fun f w_ => ∃ a_5 : List Bool, ∃ k_6 : Int, ∃ i_7 : Int, j8 = .nx (a_5, k_6, i_7) ∧ f 1 = .int .i64 k_6 ∧ Star H w_ ([own (OR.ownS 4 (OR.frz RP.bool)) [v0] a_5]) := ⟨_, rfl⟩
  refine W_join R8 ?_ ?_
  ·
    refine W_block ?_
    obtain ⟨I8, hI8⟩ : ∃ I : Nat → Fr → World → Prop, I = fun n f w_ => ∃ a_5 : List Bool, ∃ k_6 : Int, ∃ i_7 : Int, whileL l_markBoolS_b1 n (a_5, k_6, i_7) = some j8 ∧ f 0 = v0 ∧ f 1 = .int .i64 k_6 ∧ f 5 = .int .i64 i_7 ∧ Star H w_ ([own (OR.ownS 4 (OR.frz RP.bool)) [v0] a_5]) := ⟨_, rfl⟩
    refine W_loop I8 (n := fu) ?_ ?_
    · rw [hI8]; exact ⟨a, k, 0, hL8, rfl, rfl, rfl, hst⟩
    ·
      clear hst
      intro n8 f w_ hI
      rw [hI8] at hI
      obtain ⟨a_5, k_6, i_7, hL8, sf0, sf1, sf5, hst⟩ := hI
      cases n8 with
      | zero => exact (while_zero hL8).elim
      | succ n8 =>
        obtain ⟨o8, hB8, hL8⟩ := while_succ hL8
        rw [l_markBoolS_b1] at hB8
        refine W_seq ?_
        refine W_seq ?_
        refine W_region ?_
        refine L_mv (v := .int .i64 i_7) rfl sf5 ?_
        refine L_mv (v := v0) rfl sf0 ?_
        refine L_len (v := v0) (n := List.length a_5) rfl Try.underlying46 rfl (Star.len 0 hst rfl) ?_
        refine L_lss (m := i_7) (n := (a_5.length : Int)) rfl rfl rfl ?_
        refine L_nil ?_
        refine W_cond (b := decide (i_7 < (a_5.length : Int))) rfl (fun hc9 => ?_) (fun hc9 => ?_)
        ·
          have hB8 := (ite_t hc9).symm.trans hB8
          refine W_skip ?_
          refine W_seq ?_
          refine W_block ?_
          refine W_seq ?_
          obtain ⟨x10, hx10, hB8⟩ := bind_some hB8
          refine W_region ?_
          refine L_mv (v := v0) rfl sf0 ?_
          refine L_mv (v := .int .i64 i_7) rfl sf5 ?_
          refine L_mv (v := .int .i64 k_6) rfl sf1 ?_
          refine L_rem (m := k_6) (n := 3) rfl rfl rfl (by decide) ?_
          refine L_eql (m := Int.tmod k_6 3) (n := 0) rfl rfl rfl ?_
          obtain ⟨g14, cap_g14, hv15, _, _⟩ := Star.row 0 hst rfl hx10
          refine L_ixO (R := (OR.frz RP.bool)) (tb := 0) 0 rfl Try.underlying46 Try.sizeOf4 rfl hv15 (by first | rfl | simp) rfl hx10 ?_
          have hst := Star.addF (r := RP.bool) (cs := [.bool ((Int.tmod k_6 3) == 0)]) (x := ((Int.tmod k_6 3) == 0)) hst rfl
          refine L_stE1 (u := .bool ((Int.tmod k_6 3) == 0)) rfl Try.sizeOf4 rfl rfl rfl hv15 hst hx10 ?_
          intro w16 hst
          refine L_nil ?_
          refine W_region ?_
          refine L_mv (v := .int .i64 k_6) rfl sf1 ?_
          refine L_add (m := k_6) (n := 1) rfl rfl rfl ?_
          refine L_as (v := .int .i64 (i64 (k_6 + 1))) rfl rfl ?_
          refine L_nil ?_
          refine W_region ?_
          refine L_mv (v := .int .i64 i_7) rfl sf5 ?_
          refine L_add (m := i_7) (n := 1) rfl rfl rfl ?_
          refine L_as (v := .int .i64 (i64 (i_7 + 1))) rfl rfl ?_
          refine L_nil ?_
          obtain rfl := so hB8
          show ∃ m, m < _ ∧ I8 m _ _
          refine ⟨n8, Nat.lt_succ_self _, ?_⟩
          rw [hI8]
          exact ⟨(a_5.set (Int.toNat i_7) ((Int.tmod k_6 3) == 0)), i64 (k_6 + 1), i64 (i_7 + 1), hL8, sf0, rfl, rfl, hst⟩
        ·
          have hB8 := (ite_f hc9).symm.trans hB8
          refine W_exit ?_
          obtain rfl := so hB8
          obtain rfl := so hL8
          show R8 _ _
          rw [hR8]
          exact ⟨a_5, k_6, i_7, rfl, sf1, hst⟩
  ·
    clear hst
    intro f w_ hR
    rw [hR8] at hR
    obtain ⟨a_5, k_6, i_7, rfl, sf1, hst⟩ := hR
    clear hR8
    refine W_seq ?_
    refine W_region ?_
    refine L_mv (v := .int .i64 k_6) rfl sf1 ?_
    refine L_as (v := .int .i64 k_6) rfl rfl ?_
    refine L_nil ?_
    refine W_ret ?_
    refine retG1 (v1 := .int .i64 k_6) Try.results32 rfl ?_
    obtain rfl := so hF
    exact ⟨rfl, hst⟩

theorem l_heldBoolS_c {a : List Bool} {k : Int} {v0 : Value} {H : FH} {w : World} (hst : Star H w []) (h0 : (RP.slice 4 RP.bool).rel H [v0] a) {r : Int} (hF : l_heldBoolS a k = some r) :
    C Try.prog 33 #[v0, .int .i64 k] w fun v w' => v = .int .i64 r ∧ Star H w' [] := by
  unfold l_heldBoolS at hF
  refine C_enter Try.func33 rfl Try.ntmps33 rfl ?_
  refine W_seq ?_
  refine W_region ?_
  refine L_as (v := .int .i64 0) rfl rfl ?_
  refine L_nil ?_
  refine W_seq ?_
  refine W_seq ?_
  refine W_region ?_
  refine L_as (v := .int .i64 0) rfl rfl ?_
  refine L_nil ?_
  have hlen3 : List.length a ≤ 9223372036854775807 := len_le (slice_len h0)
  obtain ⟨j3, hL3, hF⟩ := bind_some hF
  obtain ⟨R3, hR3⟩ : ∃ R : Fr → World → Prop, R = fun f w_ => ∃ k_2 : Int, j3 = .nx k_2 ∧ f 1 = .int .i64 k_2 ∧ Star H w_ ([]) := ⟨_, rfl⟩
  refine W_join R3 ?_ ?_
  ·
    refine W_block ?_
    obtain ⟨I3, hI3⟩ : ∃ I : Nat → Fr → World → Prop, I = fun n f w_ => ∃ i_1 : Nat, ∃ suf3 : List Bool, ∃ k_2 : Int, n = suf3.length ∧ List.drop i_1 a = suf3 ∧ i_1 + suf3.length = a.length ∧ rangeL l_heldBoolS_b1 suf3 i_1 k_2 = some j3 ∧ f 0 = v0 ∧ f 1 = .int .i64 k_2 ∧ f 5 = .int .i64 (i_1 : Int) ∧ Star H w_ ([]) := ⟨_, rfl⟩
    refine W_loop I3 (n := a.length) ?_ ?_
    · rw [hI3]; exact ⟨0, a, k, rfl, rfl, Nat.zero_add _, hL3, rfl, rfl, rfl, hst⟩
    ·
      clear hst
      intro n3 f w_ hI
      rw [hI3] at hI
      obtain ⟨i_1, suf3, k_2, rfl, hd3, hl3, hL3, sf0, sf1, sf5, hst⟩ := hI
      refine W_seq ?_
      refine W_seq ?_
      refine W_region ?_
      refine L_mv (v := .int .i64 (i_1 : Int)) rfl sf5 ?_
      refine L_mv (v := v0) rfl sf0 ?_
      refine L_len (v := v0) (n := List.length a) rfl Try.underlying46 rfl (slice_len h0) ?_
      refine L_lss (m := (i_1 : Int)) (n := (a.length : Int)) rfl rfl rfl ?_
      refine L_nil ?_
      refine W_cond (b := decide ((i_1 : Int) < (a.length : Int))) rfl (fun hc4 => ?_) (fun hc4 => ?_)
      ·
        have hlt3 := of_decide_eq_true hc4
        cases suf3 with
        | nil => exact absurd hlt3 (by simp at hl3; omega)
        | cons x_3 rest3 =>
          obtain ⟨o3, hB3, hL3⟩ := range_cons hL3
          rw [l_heldBoolS_b1] at hB3
          have hix3 := drop_idx hd3
          refine W_skip ?_
          refine W_seq ?_
          refine W_block ?_
          refine W_seq ?_
          refine W_seq ?_
          refine W_region ?_
          refine L_mv (v := v0) rfl sf0 ?_
          refine L_mv (v := .int .i64 (i_1 : Int)) rfl sf5 ?_
          refine L_ix (r := RP.bool) rfl Try.underlying46 Try.sizeOf4 rfl h0 rfl hix3 ?_
          intro g9 o10 cs_g9 hrk_hat11 hat11
          obtain rfl : _ = [_] := hrk_hat11
          refine L_ld (v := .bool x_3) rfl Try.isAgg4 rfl (At.cell (AtH.at hat11 hst.sub) (j := 0) rfl) ?_
          refine L_mv (v := .int .i64 k_2) rfl sf1 ?_
          refine L_rem (m := k_2) (n := 3) rfl rfl rfl (by decide) ?_
          refine L_eql (m := Int.tmod k_2 3) (n := 0) rfl rfl rfl ?_
          refine L_bneq (b := x_3) (c := ((Int.tmod k_2 3) == 0)) rfl Try.underlying4 rfl rfl ?_
          refine L_nil ?_
          refine W_cond (b := (x_3 != ((Int.tmod k_2 3) == 0))) rfl (fun hc13 => ?_) (fun hc13 => ?_)
          ·
            have hB3 := (ite_t hc13).symm.trans hB3
            refine W_seq ?_
            refine W_region ?_
            refine L_as (v := .int .i64 (-1)) rfl rfl ?_
            refine L_nil ?_
            refine W_ret ?_
            refine retG1 (v1 := .int .i64 (-1)) Try.results33 rfl ?_
            obtain rfl := so hB3
            obtain rfl := so hL3
            obtain rfl := so hF
            exact ⟨rfl, hst⟩
          ·
            have hB3 := (ite_f hc13).symm.trans hB3
            refine W_skip ?_
            refine W_region ?_
            refine L_mv (v := .int .i64 k_2) rfl sf1 ?_
            refine L_add (m := k_2) (n := 1) rfl rfl rfl ?_
            refine L_as (v := .int .i64 (i64 (k_2 + 1))) rfl rfl ?_
            refine L_nil ?_
            refine W_region ?_
            refine L_mv (v := .int .i64 (i_1 : Int)) rfl sf5 ?_
            refine L_add (m := (i_1 : Int)) (n := 1) rfl rfl rfl ?_
            refine L_as (v := .int .i64 (i64 ((i_1 : Int) + 1))) rfl rfl ?_
            refine L_nil ?_
            obtain rfl := so hB3
            show ∃ m, m < _ ∧ I3 m _ _
            refine ⟨rest3.length, by simp, ?_⟩
            rw [hI3]
            exact ⟨i_1 + 1, rest3, i64 (k_2 + 1), rfl, drop_next hd3, by simp at hl3; omega, hL3, sf0, rfl, (Eq.trans rfl (congrArg (Value.int .i64) (i64_succ (n := a.length) (by simp at hl3; omega) hlen3))), hst⟩
      ·
        cases suf3 with
        | cons _ _ => exact absurd (of_decide_eq_false hc4) (by simp at hl3; omega)
        | nil =>
          obtain rfl := range_nil hL3
          refine W_exit ?_
          show R3 _ _
          rw [hR3]
          exact ⟨k_2, rfl, sf1, hst⟩
  ·
    clear hst
    intro f w_ hR
    rw [hR3] at hR
    obtain ⟨k_2, rfl, sf1, hst⟩ := hR
    clear hR3
    refine W_seq ?_
    refine W_region ?_
    refine L_mv (v := .int .i64 k_2) rfl sf1 ?_
    refine L_as (v := .int .i64 k_2) rfl rfl ?_
    refine L_nil ?_
    refine W_ret ?_
    refine retG1 (v1 := .int .i64 k_2) Try.results33 rfl ?_
    obtain rfl := so hF
    exact ⟨rfl, hst⟩

end Go.Proofs.Yteojddfaiomfmaa

/- Part of a proof by program: W2. -/
import Derived.Test.YteojddfaiomfmaaD1
import Derived.Test.YteojddfaiomfmaaW1
namespace Go.Proofs.Yteojddfaiomfmaa
open Go Go.E Go.L Go.RowKit
set_option linter.unusedVariables false
set_option linter.unusedSimpArgs false
set_option maxRecDepth 100000

theorem i_ruleValid_c {r_ : Rule} {cells : Int} {v0_1 : Value} {v0_2 : Value} {v0_4 : Value} {w : World} {B : Nat} (hB : B ≤ w.heap.size) (h0_1 : (RP.slice 3 RP.int).rel B w.heap.size w [v0_1] r_.vars) (h0_2 : (RP.slice 3 RP.int).rel B w.heap.size w [v0_2] r_.coefs) (h0_4 : (RP.slice 22 (RP.slice 3 RP.int)).rel B w.heap.size w [v0_4] r_.rows) {r : Bool} (hF : i_ruleValid r_ cells = some r) :
    C Try.prog 70 #[.agg #[.int .i64 r_.kind, v0_1, v0_2, .int .i64 r_.bound, v0_4], .int .i64 cells] w fun v w' => (v = .bool r) ∧ Ext w w' := by
  unfold i_ruleValid at hF
  have hx := ext_refl w
  refine C_enter Try.func70 rfl Try.ntmps70 rfl ?_
  refine W_seq ?_
  refine W_region ?_
  refine L_box (v := .agg #[.int .i64 r_.kind, v0_1, v0_2, .int .i64 r_.bound, v0_4]) (cs := #[.int .i64 r_.kind, v0_1, v0_2, .int .i64 r_.bound, v0_4]) rfl rfl rfl ?_
  intro g3 w4 hn4
  have hge_g3 := hn4.geS hx.size
  have hb_g3 := hn4.blk
  have h0_1 := RP.ext h0_1 hn4.ext
  have h0_2 := RP.ext h0_2 hn4.ext
  have h0_4 := RP.ext h0_4 hn4.ext
  have hx := ext_trans hx hn4.ext
  refine L_as (v := .bool false) rfl rfl ?_
  refine L_nil ?_
  refine W_seq ?_
  refine W_seq ?_
  refine W_region ?_
  refine L_fa (o' := 1) rfl fa_68_1 rfl rfl ?_
  refine L_ld (v := v0_1) rfl Try.isAgg22 rfl (hb_g3.cell (j := 1) rfl) ?_
  refine L_len (v := v0_1) rfl Try.underlying22 rfl h0_1 ?_
  refine L_mv (v := .int .i64 0) rfl rfl ?_
  refine L_nil ?_
  have hlen6 := len_le h0_1
  obtain ⟨j6, hL6, hF⟩ := bind_some hF
  obtain ⟨R6, hR6⟩ : ∃ R : Fr → World → Prop, R = fun f w_ => j6 = .nx () ∧ f 2 = .pointer (some ⟨g3, 0, none⟩) ∧ (RP.slice 3 RP.int).rel B w.heap.size w_ [v0_1] r_.vars ∧ (RP.slice 3 RP.int).rel B w.heap.size w_ [v0_2] r_.coefs ∧ (RP.slice 22 (RP.slice 3 RP.int)).rel B w.heap.size w_ [v0_4] r_.rows ∧ Blk w_ g3 68 #[.int .i64 r_.kind, v0_1, v0_2, .int .i64 r_.bound, v0_4] ∧ Ext w w_ := ⟨_, rfl⟩
  refine W_join R6 ?_ ?_
  ·
    refine W_block ?_
    obtain ⟨I6, hI6⟩ : ∃ I : Nat → Fr → World → Prop, I = fun n f w_ => ∃ i_5 : Nat, ∃ suf6 : List Int, n = suf6.length ∧ List.drop i_5 r_.vars = suf6 ∧ i_5 + suf6.length = r_.vars.length ∧ rangeL (i_ruleValid_b1 r_ cells) suf6 i_5 () = some j6 ∧ f 1 = .int .i64 cells ∧ f 2 = .pointer (some ⟨g3, 0, none⟩) ∧ f 8 = v0_1 ∧ f 9 = .int .i64 (r_.vars.length : Int) ∧ f 10 = .int .i64 (i_5 : Int) ∧ (RP.slice 3 RP.int).rel B w.heap.size w_ [v0_1] r_.vars ∧ (RP.slice 3 RP.int).rel B w.heap.size w_ [v0_2] r_.coefs ∧ (RP.slice 22 (RP.slice 3 RP.int)).rel B w.heap.size w_ [v0_4] r_.rows ∧ Blk w_ g3 68 #[.int .i64 r_.kind, v0_1, v0_2, .int .i64 r_.bound, v0_4] ∧ Ext w w_ := ⟨_, rfl⟩
    refine W_loop I6 (n := r_.vars.length) ?_ ?_
    · rw [hI6]; exact ⟨0, r_.vars, rfl, rfl, Nat.zero_add _, hL6, rfl, rfl, rfl, rfl, rfl, h0_1, h0_2, h0_4, hb_g3, hx⟩
    ·
      intro n6 f w_ hI
      rw [hI6] at hI
      obtain ⟨i_5, suf6, rfl, hd6, hl6, hL6, sf1, sf2, sf8, sf9, sf10, h0_1, h0_2, h0_4, hb_g3, hx⟩ := hI
      refine W_seq ?_
      refine W_region ?_
      refine L_lss (m := (i_5 : Int)) (n := (r_.vars.length : Int)) rfl sf10 sf9 ?_
      refine L_nil ?_
      refine W_seq ?_
      refine W_cond (b := decide ((i_5 : Int) < (r_.vars.length : Int))) rfl (fun hc7 => ?_) (fun hc7 => ?_)
      ·
        have hlt6 := of_decide_eq_true hc7
        cases suf6 with
        | nil => exact absurd hlt6 (by simp at hl6; omega)
        | cons x_6 rest6 =>
          obtain ⟨o6, hB6, hL6⟩ := range_cons hL6
          rw [i_ruleValid_b1] at hB6
          have hix6 := drop_idx hd6
          refine W_skip ?_
          refine W_seq ?_
          refine W_block ?_
          refine W_seq ?_
          refine W_region ?_
          refine L_mv (v := .int .i64 (i_5 : Int)) rfl sf10 ?_
          refine L_ix (r := RP.int) rfl Try.underlying22 Try.sizeOf3 sf8 h0_1 sf10 hix6 ?_
          intro g10 o11 cs11 hr11 hat11
          obtain rfl : _ = [_] := hr11
          refine L_ld (v := .int .i64 x_6) rfl Try.isAgg3 rfl (hat11.cell (j := 0) rfl) ?_
          refine L_as (v := .int .i64 (i_5 : Int)) rfl rfl ?_
          refine L_as (v := .int .i64 x_6) rfl rfl ?_
          refine L_nil ?_
          refine W_seq ?_
          obtain ⟨x12, hx12, hB6⟩ := bind_some hB6
          obtain ⟨b18, hb18, hB6⟩ := bind_some hB6
          obtain ⟨R19, hR19⟩ : ∃ R : Fr → World → Prop, R = fun f w_ => f 1 = .int .i64 cells ∧ f 2 = .pointer (some ⟨g3, 0, none⟩) ∧ f 8 = v0_1 ∧ f 9 = .int .i64 (r_.vars.length : Int) ∧ f 10 = .int .i64 (i_5 : Int) ∧ f 27 = .bool b18 ∧ (RP.slice 3 RP.int).rel B w.heap.size w_ [v0_1] r_.vars ∧ (RP.slice 3 RP.int).rel B w.heap.size w_ [v0_2] r_.coefs ∧ (RP.slice 22 (RP.slice 3 RP.int)).rel B w.heap.size w_ [v0_4] r_.rows ∧ Blk w_ g3 68 #[.int .i64 r_.kind, v0_1, v0_2, .int .i64 r_.bound, v0_4] ∧ Ext w w_ := ⟨_, rfl⟩
          refine W_join R19 ?_ ?_
          ·
            refine W_region ?_
            refine L_mv (v := .int .i64 x_6) rfl rfl ?_
            refine L_mv (v := .int .i64 cells) rfl sf1 ?_
            refine L_sub (m := cells) (n := 1) rfl rfl rfl ?_
            refine L_call (args := #[.int .i64 x_6, .int .i64 0, .int .i64 (i64 (cells - 1))]) rfl Try.call48 (ops3 rfl rfl rfl) (i_within_c (n_ := x_6) (low := 0) (high := i64 (cells - 1)) (Nat.le_trans hB hx.size) hx12) ?_
            rintro _ w20 ⟨rfl, he20⟩
            have h0_1 := RP.ext h0_1 he20
            have h0_2 := RP.ext h0_2 he20
            have h0_4 := RP.ext h0_4 he20
            have hb_g3 := Blk.ext hb_g3 he20
            have hx := ext_trans hx he20
            refine L_not_ (b := x12) rfl rfl ?_
            refine L_mv (v := .bool (!x12)) rfl rfl ?_
            refine L_split (d := 20) (b := (!x12)) rfl (fun hc21 => ?_) (fun hc21 => ?_)
            ·
              rw [ite_t hc21] at hb18
              refine L_pass rfl ?_
              refine L_pass rfl ?_
              refine L_pass rfl ?_
              refine L_pass rfl ?_
              refine L_pass rfl ?_
              refine L_pass rfl ?_
              refine L_pick (v := .bool b18) rfl rfl (congrArg Value.bool (so hb18)) ?_
              refine L_nil ?_
              show R19 _ _
              rw [hR19]
              exact ⟨sf1, sf2, sf8, sf9, sf10, rfl, h0_1, h0_2, h0_4, hb_g3, hx⟩
            ·
              rw [ite_f hc21] at hb18
              obtain ⟨x14, hx14, hb18⟩ := bind_some hb18
              obtain ⟨x16, hx16, hb18⟩ := bind_some hb18
              refine L_fa (o' := 1) rfl fa_68_1 sf2 rfl ?_
              refine L_ld (v := v0_1) rfl Try.isAgg22 rfl (hb_g3.cell (j := 1) rfl) ?_
              refine L_mv (v := .int .i64 (i_5 : Int)) rfl rfl ?_
              refine L_sl (a := 0) (b := (i_5 : Int)) rfl et_22 rfl h0_1 rfl rfl hx14 ?_
              intro v22 hs22
              refine L_mv (v := .int .i64 x_6) rfl rfl ?_
              refine L_call (args := #[v22, .int .i64 x_6]) rfl Try.call84 (ops2 rfl rfl) (slices_Contains_int_c (s := x14) (v_ := x_6) (Nat.le_trans hB hx.size) (rel0 hs22) hx16) ?_
              rintro _ w23 ⟨rfl, he23⟩
              have h0_1 := RP.ext h0_1 he23
              have h0_2 := RP.ext h0_2 he23
              have h0_4 := RP.ext h0_4 he23
              have hb_g3 := Blk.ext hb_g3 he23
              have hs22 := RP.ext hs22 he23
              have hx := ext_trans hx he23
              refine L_pick (v := .bool b18) rfl rfl (congrArg Value.bool (so hb18)) ?_
              refine L_nil ?_
              show R19 _ _
              rw [hR19]
              exact ⟨sf1, sf2, sf8, sf9, sf10, rfl, h0_1, h0_2, h0_4, hb_g3, hx⟩
          ·
            intro f w_ hR
            rw [hR19] at hR
            obtain ⟨sf1, sf2, sf8, sf9, sf10, sf27, h0_1, h0_2, h0_4, hb_g3, hx⟩ := hR
            clear hR19
            refine W_cond (b := b18) sf27 (fun hc24 => ?_) (fun hc24 => ?_)
            ·
              have hB6 := (ite_t hc24).symm.trans hB6
              refine W_seq ?_
              refine W_region ?_
              refine L_as (v := .bool false) rfl rfl ?_
              refine L_nil ?_
              refine W_ret ?_
              obtain rfl := so hB6
              obtain rfl := so hL6
              obtain rfl := so hF
              refine ret1 Try.results70 ?_
              exact ⟨rfl, hx⟩
            ·
              have hB6 := (ite_f hc24).symm.trans hB6
              refine W_skip ?_
              refine W_region ?_
              refine L_add (m := (i_5 : Int)) (n := 1) rfl sf10 rfl ?_
              refine L_mv (v := .int .i64 (i64 ((i_5 : Int) + 1))) rfl rfl ?_
              refine L_nil ?_
              obtain rfl := so hB6
              show ∃ m, m < _ ∧ I6 m _ _
              refine ⟨rest6.length, by simp, ?_⟩
              rw [hI6]
              exact ⟨i_5 + 1, rest6, rfl, drop_next hd6, by simp at hl6; omega, hL6, sf1, sf2, sf8, sf9, (Eq.trans rfl (congrArg (Value.int .i64) (i64_succ (n := r_.vars.length) (by simp at hl6; omega) hlen6))), h0_1, h0_2, h0_4, hb_g3, hx⟩
      ·
        cases suf6 with
        | cons _ _ => exact absurd (of_decide_eq_false hc7) (by simp at hl6; omega)
        | nil =>
          obtain rfl := range_nil hL6
          refine W_exit ?_
          show R6 _ _
          rw [hR6]
          exact ⟨rfl, sf2, h0_1, h0_2, h0_4, hb_g3, hx⟩
  ·
    intro f w_ hR
    rw [hR6] at hR
    obtain ⟨rfl, sf2, h0_1, h0_2, h0_4, hb_g3, hx⟩ := hR
    clear hR6
    refine W_seq ?_
    refine W_seq ?_
    obtain ⟨R25, hR25⟩ : ∃ R : Fr → World → Prop, R = fun f w_ => f 2 = .pointer (some ⟨g3, 0, none⟩) ∧ f 59 = .bool ((((r_.vars.length : Int) == 0) || ((r_.kind != 1) && ((decide ((r_.coefs.length : Int) > 0)) || (r_.bound != 0)))) || ((r_.kind != 3) && (decide ((r_.rows.length : Int) > 0)))) ∧ (RP.slice 3 RP.int).rel B w.heap.size w_ [v0_1] r_.vars ∧ (RP.slice 3 RP.int).rel B w.heap.size w_ [v0_2] r_.coefs ∧ (RP.slice 22 (RP.slice 3 RP.int)).rel B w.heap.size w_ [v0_4] r_.rows ∧ Blk w_ g3 68 #[.int .i64 r_.kind, v0_1, v0_2, .int .i64 r_.bound, v0_4] ∧ Ext w w_ := ⟨_, rfl⟩
    refine W_join R25 ?_ ?_
    ·
      refine W_region ?_
      refine L_fa (o' := 1) rfl fa_68_1 sf2 rfl ?_
      refine L_ld (v := v0_1) rfl Try.isAgg22 rfl (hb_g3.cell (j := 1) rfl) ?_
      refine L_len (v := v0_1) rfl Try.underlying22 rfl h0_1 ?_
      refine L_eql (m := (r_.vars.length : Int)) (n := 0) rfl rfl rfl ?_
      refine L_mv (v := .bool ((r_.vars.length : Int) == 0)) rfl rfl ?_
      refine L_split (d := 33) (b := ((r_.vars.length : Int) == 0)) rfl (fun hc26 => ?_) (fun hc26 => ?_)
      ·
        refine L_pass rfl ?_
        refine L_pass rfl ?_
        refine L_pass rfl ?_
        refine L_pass rfl ?_
        refine L_pass rfl ?_
        refine L_pass rfl ?_
        refine L_pass rfl ?_
        refine L_pass rfl ?_
        refine L_pass rfl ?_
        refine L_pass rfl ?_
        refine L_pass rfl ?_
        refine L_pass rfl ?_
        refine L_pass rfl ?_
        refine L_pass rfl ?_
        refine L_pick (v := .bool (((r_.vars.length : Int) == 0) || ((r_.kind != 1) && ((decide ((r_.coefs.length : Int) > 0)) || (r_.bound != 0))))) rfl rfl (or_t hc26) ?_
        refine L_mv (v := .bool (((r_.vars.length : Int) == 0) || ((r_.kind != 1) && ((decide ((r_.coefs.length : Int) > 0)) || (r_.bound != 0))))) rfl rfl ?_
        refine L_split (d := 49) (b := (((r_.vars.length : Int) == 0) || ((r_.kind != 1) && ((decide ((r_.coefs.length : Int) > 0)) || (r_.bound != 0))))) rfl (fun hc27 => ?_) (fun hc27 => ?_)
        ·
          refine L_pass rfl ?_
          refine L_pass rfl ?_
          refine L_pass rfl ?_
          refine L_pass rfl ?_
          refine L_pass rfl ?_
          refine L_pass rfl ?_
          refine L_pass rfl ?_
          refine L_pass rfl ?_
          refine L_pass rfl ?_
          refine L_pick (v := .bool ((((r_.vars.length : Int) == 0) || ((r_.kind != 1) && ((decide ((r_.coefs.length : Int) > 0)) || (r_.bound != 0)))) || ((r_.kind != 3) && (decide ((r_.rows.length : Int) > 0))))) rfl rfl (or_t hc27) ?_
          refine L_nil ?_
          show R25 _ _
          rw [hR25]
          exact ⟨sf2, rfl, h0_1, h0_2, h0_4, hb_g3, hx⟩
        ·
          refine L_fa (o' := 0) rfl fa_68_0 sf2 rfl ?_
          refine L_ld (v := .int .i64 r_.kind) rfl Try.isAgg3 rfl (hb_g3.cell (j := 0) rfl) ?_
          refine L_neq (m := r_.kind) (n := 3) rfl rfl rfl ?_
          refine L_mv (v := .bool (r_.kind != 3)) rfl rfl ?_
          refine L_split (d := 53) (b := (r_.kind != 3)) rfl (fun hc28 => ?_) (fun hc28 => ?_)
          ·
            refine L_fa (o' := 4) rfl fa_68_4 sf2 rfl ?_
            refine L_ld (v := v0_4) rfl Try.isAgg66 rfl (hb_g3.cell (j := 4) rfl) ?_
            refine L_len (v := v0_4) rfl Try.underlying66 rfl h0_4 ?_
            refine L_gtr (m := (r_.rows.length : Int)) (n := 0) rfl rfl rfl ?_
            refine L_pick (v := .bool ((r_.kind != 3) && (decide ((r_.rows.length : Int) > 0)))) rfl rfl (and_t hc28 rfl) ?_
            refine L_pick (v := .bool ((((r_.vars.length : Int) == 0) || ((r_.kind != 1) && ((decide ((r_.coefs.length : Int) > 0)) || (r_.bound != 0)))) || ((r_.kind != 3) && (decide ((r_.rows.length : Int) > 0))))) rfl rfl (or_f hc27 rfl) ?_
            refine L_nil ?_
            show R25 _ _
            rw [hR25]
            exact ⟨sf2, rfl, h0_1, h0_2, h0_4, hb_g3, hx⟩
          ·
            refine L_pass rfl ?_
            refine L_pass rfl ?_
            refine L_pass rfl ?_
            refine L_pass rfl ?_
            refine L_pick (v := .bool ((r_.kind != 3) && (decide ((r_.rows.length : Int) > 0)))) rfl rfl (and_f hc28) ?_
            refine L_pick (v := .bool ((((r_.vars.length : Int) == 0) || ((r_.kind != 1) && ((decide ((r_.coefs.length : Int) > 0)) || (r_.bound != 0)))) || ((r_.kind != 3) && (decide ((r_.rows.length : Int) > 0))))) rfl rfl (or_f hc27 rfl) ?_
            refine L_nil ?_
            show R25 _ _
            rw [hR25]
            exact ⟨sf2, rfl, h0_1, h0_2, h0_4, hb_g3, hx⟩
      ·
        refine L_fa (o' := 0) rfl fa_68_0 sf2 rfl ?_
        refine L_ld (v := .int .i64 r_.kind) rfl Try.isAgg3 rfl (hb_g3.cell (j := 0) rfl) ?_
        refine L_neq (m := r_.kind) (n := 1) rfl rfl rfl ?_
        refine L_mv (v := .bool (r_.kind != 1)) rfl rfl ?_
        refine L_split (d := 37) (b := (r_.kind != 1)) rfl (fun hc29 => ?_) (fun hc29 => ?_)
        ·
          refine L_fa (o' := 2) rfl fa_68_2 sf2 rfl ?_
          refine L_ld (v := v0_2) rfl Try.isAgg22 rfl (hb_g3.cell (j := 2) rfl) ?_
          refine L_len (v := v0_2) rfl Try.underlying22 rfl h0_2 ?_
          refine L_gtr (m := (r_.coefs.length : Int)) (n := 0) rfl rfl rfl ?_
          refine L_mv (v := .bool (decide ((r_.coefs.length : Int) > 0))) rfl rfl ?_
          refine L_split (d := 42) (b := decide ((r_.coefs.length : Int) > 0)) rfl (fun hc30 => ?_) (fun hc30 => ?_)
          ·
            refine L_pass rfl ?_
            refine L_pass rfl ?_
            refine L_pass rfl ?_
            refine L_pick (v := .bool ((decide ((r_.coefs.length : Int) > 0)) || (r_.bound != 0))) rfl rfl (or_t hc30) ?_
            refine L_pick (v := .bool ((r_.kind != 1) && ((decide ((r_.coefs.length : Int) > 0)) || (r_.bound != 0)))) rfl rfl (and_t hc29 rfl) ?_
            refine L_pick (v := .bool (((r_.vars.length : Int) == 0) || ((r_.kind != 1) && ((decide ((r_.coefs.length : Int) > 0)) || (r_.bound != 0))))) rfl rfl (or_f hc26 rfl) ?_
            refine L_mv (v := .bool (((r_.vars.length : Int) == 0) || ((r_.kind != 1) && ((decide ((r_.coefs.length : Int) > 0)) || (r_.bound != 0))))) rfl rfl ?_
            refine L_split (d := 49) (b := (((r_.vars.length : Int) == 0) || ((r_.kind != 1) && ((decide ((r_.coefs.length : Int) > 0)) || (r_.bound != 0))))) rfl (fun hc31 => ?_) (fun hc31 => ?_)
            ·
              refine L_pass rfl ?_
              refine L_pass rfl ?_
              refine L_pass rfl ?_
              refine L_pass rfl ?_
              refine L_pass rfl ?_
              refine L_pass rfl ?_
              refine L_pass rfl ?_
              refine L_pass rfl ?_
              refine L_pass rfl ?_
              refine L_pick (v := .bool ((((r_.vars.length : Int) == 0) || ((r_.kind != 1) && ((decide ((r_.coefs.length : Int) > 0)) || (r_.bound != 0)))) || ((r_.kind != 3) && (decide ((r_.rows.length : Int) > 0))))) rfl rfl (or_t hc31) ?_
              refine L_nil ?_
              show R25 _ _
              rw [hR25]
              exact ⟨sf2, rfl, h0_1, h0_2, h0_4, hb_g3, hx⟩
            ·
              refine L_fa (o' := 0) rfl fa_68_0 sf2 rfl ?_
              refine L_ld (v := .int .i64 r_.kind) rfl Try.isAgg3 rfl (hb_g3.cell (j := 0) rfl) ?_
              refine L_neq (m := r_.kind) (n := 3) rfl rfl rfl ?_
              refine L_mv (v := .bool (r_.kind != 3)) rfl rfl ?_
              refine L_split (d := 53) (b := (r_.kind != 3)) rfl (fun hc32 => ?_) (fun hc32 => ?_)
              ·
                refine L_fa (o' := 4) rfl fa_68_4 sf2 rfl ?_
                refine L_ld (v := v0_4) rfl Try.isAgg66 rfl (hb_g3.cell (j := 4) rfl) ?_
                refine L_len (v := v0_4) rfl Try.underlying66 rfl h0_4 ?_
                refine L_gtr (m := (r_.rows.length : Int)) (n := 0) rfl rfl rfl ?_
                refine L_pick (v := .bool ((r_.kind != 3) && (decide ((r_.rows.length : Int) > 0)))) rfl rfl (and_t hc32 rfl) ?_
                refine L_pick (v := .bool ((((r_.vars.length : Int) == 0) || ((r_.kind != 1) && ((decide ((r_.coefs.length : Int) > 0)) || (r_.bound != 0)))) || ((r_.kind != 3) && (decide ((r_.rows.length : Int) > 0))))) rfl rfl (or_f hc31 rfl) ?_
                refine L_nil ?_
                show R25 _ _
                rw [hR25]
                exact ⟨sf2, rfl, h0_1, h0_2, h0_4, hb_g3, hx⟩
              ·
                refine L_pass rfl ?_
                refine L_pass rfl ?_
                refine L_pass rfl ?_
                refine L_pass rfl ?_
                refine L_pick (v := .bool ((r_.kind != 3) && (decide ((r_.rows.length : Int) > 0)))) rfl rfl (and_f hc32) ?_
                refine L_pick (v := .bool ((((r_.vars.length : Int) == 0) || ((r_.kind != 1) && ((decide ((r_.coefs.length : Int) > 0)) || (r_.bound != 0)))) || ((r_.kind != 3) && (decide ((r_.rows.length : Int) > 0))))) rfl rfl (or_f hc31 rfl) ?_
                refine L_nil ?_
                show R25 _ _
                rw [hR25]
                exact ⟨sf2, rfl, h0_1, h0_2, h0_4, hb_g3, hx⟩
          ·
            refine L_fa (o' := 3) rfl fa_68_3 sf2 rfl ?_
            refine L_ld (v := .int .i64 r_.bound) rfl Try.isAgg3 rfl (hb_g3.cell (j := 3) rfl) ?_
            refine L_neq (m := r_.bound) (n := 0) rfl rfl rfl ?_
            refine L_pick (v := .bool ((decide ((r_.coefs.length : Int) > 0)) || (r_.bound != 0))) rfl rfl (or_f hc30 rfl) ?_
            refine L_pick (v := .bool ((r_.kind != 1) && ((decide ((r_.coefs.length : Int) > 0)) || (r_.bound != 0)))) rfl rfl (and_t hc29 rfl) ?_
            refine L_pick (v := .bool (((r_.vars.length : Int) == 0) || ((r_.kind != 1) && ((decide ((r_.coefs.length : Int) > 0)) || (r_.bound != 0))))) rfl rfl (or_f hc26 rfl) ?_
            refine L_mv (v := .bool (((r_.vars.length : Int) == 0) || ((r_.kind != 1) && ((decide ((r_.coefs.length : Int) > 0)) || (r_.bound != 0))))) rfl rfl ?_
            refine L_split (d := 49) (b := (((r_.vars.length : Int) == 0) || ((r_.kind != 1) && ((decide ((r_.coefs.length : Int) > 0)) || (r_.bound != 0))))) rfl (fun hc33 => ?_) (fun hc33 => ?_)
            ·
              refine L_pass rfl ?_
              refine L_pass rfl ?_
              refine L_pass rfl ?_
              refine L_pass rfl ?_
              refine L_pass rfl ?_
              refine L_pass rfl ?_
              refine L_pass rfl ?_
              refine L_pass rfl ?_
              refine L_pass rfl ?_
              refine L_pick (v := .bool ((((r_.vars.length : Int) == 0) || ((r_.kind != 1) && ((decide ((r_.coefs.length : Int) > 0)) || (r_.bound != 0)))) || ((r_.kind != 3) && (decide ((r_.rows.length : Int) > 0))))) rfl rfl (or_t hc33) ?_
              refine L_nil ?_
              show R25 _ _
              rw [hR25]
              exact ⟨sf2, rfl, h0_1, h0_2, h0_4, hb_g3, hx⟩
            ·
              refine L_fa (o' := 0) rfl fa_68_0 sf2 rfl ?_
              refine L_ld (v := .int .i64 r_.kind) rfl Try.isAgg3 rfl (hb_g3.cell (j := 0) rfl) ?_
              refine L_neq (m := r_.kind) (n := 3) rfl rfl rfl ?_
              refine L_mv (v := .bool (r_.kind != 3)) rfl rfl ?_
              refine L_split (d := 53) (b := (r_.kind != 3)) rfl (fun hc34 => ?_) (fun hc34 => ?_)
              ·
                refine L_fa (o' := 4) rfl fa_68_4 sf2 rfl ?_
                refine L_ld (v := v0_4) rfl Try.isAgg66 rfl (hb_g3.cell (j := 4) rfl) ?_
                refine L_len (v := v0_4) rfl Try.underlying66 rfl h0_4 ?_
                refine L_gtr (m := (r_.rows.length : Int)) (n := 0) rfl rfl rfl ?_
                refine L_pick (v := .bool ((r_.kind != 3) && (decide ((r_.rows.length : Int) > 0)))) rfl rfl (and_t hc34 rfl) ?_
                refine L_pick (v := .bool ((((r_.vars.length : Int) == 0) || ((r_.kind != 1) && ((decide ((r_.coefs.length : Int) > 0)) || (r_.bound != 0)))) || ((r_.kind != 3) && (decide ((r_.rows.length : Int) > 0))))) rfl rfl (or_f hc33 rfl) ?_
                refine L_nil ?_
                show R25 _ _
                rw [hR25]
                exact ⟨sf2, rfl, h0_1, h0_2, h0_4, hb_g3, hx⟩
              ·
                refine L_pass rfl ?_
                refine L_pass rfl ?_
                refine L_pass rfl ?_
                refine L_pass rfl ?_
                refine L_pick (v := .bool ((r_.kind != 3) && (decide ((r_.rows.length : Int) > 0)))) rfl rfl (and_f hc34) ?_
                refine L_pick (v := .bool ((((r_.vars.length : Int) == 0) || ((r_.kind != 1) && ((decide ((r_.coefs.length : Int) > 0)) || (r_.bound != 0)))) || ((r_.kind != 3) && (decide ((r_.rows.length : Int) > 0))))) rfl rfl (or_f hc33 rfl) ?_
                refine L_nil ?_
                show R25 _ _
                rw [hR25]
                exact ⟨sf2, rfl, h0_1, h0_2, h0_4, hb_g3, hx⟩
        ·
          refine L_pass rfl ?_
          refine L_pass rfl ?_
          refine L_pass rfl ?_
          refine L_pass rfl ?_
          refine L_pass rfl ?_
          refine L_pass rfl ?_
          refine L_pass rfl ?_
          refine L_pass rfl ?_
          refine L_pass rfl ?_
          refine L_pick (v := .bool ((r_.kind != 1) && ((decide ((r_.coefs.length : Int) > 0)) || (r_.bound != 0)))) rfl rfl (and_f hc29) ?_
          refine L_pick (v := .bool (((r_.vars.length : Int) == 0) || ((r_.kind != 1) && ((decide ((r_.coefs.length : Int) > 0)) || (r_.bound != 0))))) rfl rfl (or_f hc26 rfl) ?_
          refine L_mv (v := .bool (((r_.vars.length : Int) == 0) || ((r_.kind != 1) && ((decide ((r_.coefs.length : Int) > 0)) || (r_.bound != 0))))) rfl rfl ?_
          refine L_split (d := 49) (b := (((r_.vars.length : Int) == 0) || ((r_.kind != 1) && ((decide ((r_.coefs.length : Int) > 0)) || (r_.bound != 0))))) rfl (fun hc35 => ?_) (fun hc35 => ?_)
          ·
            refine L_pass rfl ?_
            refine L_pass rfl ?_
            refine L_pass rfl ?_
            refine L_pass rfl ?_
            refine L_pass rfl ?_
            refine L_pass rfl ?_
            refine L_pass rfl ?_
            refine L_pass rfl ?_
            refine L_pass rfl ?_
            refine L_pick (v := .bool ((((r_.vars.length : Int) == 0) || ((r_.kind != 1) && ((decide ((r_.coefs.length : Int) > 0)) || (r_.bound != 0)))) || ((r_.kind != 3) && (decide ((r_.rows.length : Int) > 0))))) rfl rfl (or_t hc35) ?_
            refine L_nil ?_
            show R25 _ _
            rw [hR25]
            exact ⟨sf2, rfl, h0_1, h0_2, h0_4, hb_g3, hx⟩
          ·
            refine L_fa (o' := 0) rfl fa_68_0 sf2 rfl ?_
            refine L_ld (v := .int .i64 r_.kind) rfl Try.isAgg3 rfl (hb_g3.cell (j := 0) rfl) ?_
            refine L_neq (m := r_.kind) (n := 3) rfl rfl rfl ?_
            refine L_mv (v := .bool (r_.kind != 3)) rfl rfl ?_
            refine L_split (d := 53) (b := (r_.kind != 3)) rfl (fun hc36 => ?_) (fun hc36 => ?_)
            ·
              refine L_fa (o' := 4) rfl fa_68_4 sf2 rfl ?_
              refine L_ld (v := v0_4) rfl Try.isAgg66 rfl (hb_g3.cell (j := 4) rfl) ?_
              refine L_len (v := v0_4) rfl Try.underlying66 rfl h0_4 ?_
              refine L_gtr (m := (r_.rows.length : Int)) (n := 0) rfl rfl rfl ?_
              refine L_pick (v := .bool ((r_.kind != 3) && (decide ((r_.rows.length : Int) > 0)))) rfl rfl (and_t hc36 rfl) ?_
              refine L_pick (v := .bool ((((r_.vars.length : Int) == 0) || ((r_.kind != 1) && ((decide ((r_.coefs.length : Int) > 0)) || (r_.bound != 0)))) || ((r_.kind != 3) && (decide ((r_.rows.length : Int) > 0))))) rfl rfl (or_f hc35 rfl) ?_
              refine L_nil ?_
              show R25 _ _
              rw [hR25]
              exact ⟨sf2, rfl, h0_1, h0_2, h0_4, hb_g3, hx⟩
            ·
              refine L_pass rfl ?_
              refine L_pass rfl ?_
              refine L_pass rfl ?_
              refine L_pass rfl ?_
              refine L_pick (v := .bool ((r_.kind != 3) && (decide ((r_.rows.length : Int) > 0)))) rfl rfl (and_f hc36) ?_
              refine L_pick (v := .bool ((((r_.vars.length : Int) == 0) || ((r_.kind != 1) && ((decide ((r_.coefs.length : Int) > 0)) || (r_.bound != 0)))) || ((r_.kind != 3) && (decide ((r_.rows.length : Int) > 0))))) rfl rfl (or_f hc35 rfl) ?_
              refine L_nil ?_
              show R25 _ _
              rw [hR25]
              exact ⟨sf2, rfl, h0_1, h0_2, h0_4, hb_g3, hx⟩
    ·
      intro f w_ hR
      rw [hR25] at hR
      obtain ⟨sf2, sf59, h0_1, h0_2, h0_4, hb_g3, hx⟩ := hR
      clear hR25
      refine W_cond (b := ((((r_.vars.length : Int) == 0) || ((r_.kind != 1) && ((decide ((r_.coefs.length : Int) > 0)) || (r_.bound != 0)))) || ((r_.kind != 3) && (decide ((r_.rows.length : Int) > 0))))) sf59 (fun hc37 => ?_) (fun hc37 => ?_)
      ·
        have hF := (ite_t hc37).symm.trans hF
        refine W_seq ?_
        refine W_region ?_
        refine L_as (v := .bool false) rfl rfl ?_
        refine L_nil ?_
        refine W_ret ?_
        obtain rfl := so hF
        refine ret1 Try.results70 ?_
        exact ⟨rfl, hx⟩
      ·
        have hF := (ite_f hc37).symm.trans hF
        refine W_skip ?_
        refine W_seq ?_
        refine W_seq ?_
        refine W_region ?_
        refine L_fa (o' := 0) rfl fa_68_0 sf2 rfl ?_
        refine L_ld (v := .int .i64 r_.kind) rfl Try.isAgg3 rfl (hb_g3.cell (j := 0) rfl) ?_
        refine L_nil ?_
        refine W_block ?_
        refine W_seq ?_
        refine W_region ?_
        refine L_eql (m := r_.kind) (n := 1) rfl rfl rfl ?_
        refine L_as (v := .bool (r_.kind == 1)) rfl rfl ?_
        refine L_nil ?_
        refine W_cond (b := (r_.kind == 1)) rfl (fun hc38 => ?_) (fun hc38 => ?_)
        ·
          have hF := (ite_t hc38).symm.trans hF
          refine W_seq ?_
          obtain ⟨b41, hb41, hF⟩ := bind_some hF
          obtain ⟨b44, hb44, hF⟩ := bind_some hF
          obtain ⟨R45, hR45⟩ : ∃ R : Fr → World → Prop, R = fun f w_ => f 4 = .bool b44 ∧ Ext w w_ := ⟨_, rfl⟩
          refine W_join R45 ?_ ?_
          ·
            refine W_region ?_
            refine L_fa (o' := 2) rfl fa_68_2 sf2 rfl ?_
            refine L_ld (v := v0_2) rfl Try.isAgg22 rfl (hb_g3.cell (j := 2) rfl) ?_
            refine L_len (v := v0_2) rfl Try.underlying22 rfl h0_2 ?_
            refine L_fa (o' := 1) rfl fa_68_1 sf2 rfl ?_
            refine L_ld (v := v0_1) rfl Try.isAgg22 rfl (hb_g3.cell (j := 1) rfl) ?_
            refine L_len (v := v0_1) rfl Try.underlying22 rfl h0_1 ?_
            refine L_eql (m := (r_.coefs.length : Int)) (n := (r_.vars.length : Int)) rfl rfl rfl ?_
            refine L_mv (v := .bool ((r_.coefs.length : Int) == (r_.vars.length : Int))) rfl rfl ?_
            refine L_split (d := 71) (b := ((r_.coefs.length : Int) == (r_.vars.length : Int))) rfl (fun hc46 => ?_) (fun hc46 => ?_)
            ·
              rw [ite_t hc46] at hb41
              obtain ⟨x39, hx39, hb41⟩ := bind_some hb41
              refine L_fa (o' := 3) rfl fa_68_3 sf2 rfl ?_
              refine L_ld (v := .int .i64 r_.bound) rfl Try.isAgg3 rfl (hb_g3.cell (j := 3) rfl) ?_
              refine L_call (args := #[.int .i64 r_.bound, .int .i64 (-1000), .int .i64 1000]) rfl Try.call48 (ops3 rfl rfl rfl) (i_within_c (n_ := r_.bound) (low := (-1000)) (high := 1000) (Nat.le_trans hB hx.size) hx39) ?_
              rintro _ w47 ⟨rfl, he47⟩
              have h0_1 := RP.ext h0_1 he47
              have h0_2 := RP.ext h0_2 he47
              have h0_4 := RP.ext h0_4 he47
              have hb_g3 := Blk.ext hb_g3 he47
              have hx := ext_trans hx he47
              refine L_pick (v := .bool b41) rfl rfl (congrArg Value.bool (so hb41)) ?_
              refine L_mv (v := .bool b41) rfl rfl ?_
              refine L_split (d := 76) (b := b41) rfl (fun hc48 => ?_) (fun hc48 => ?_)
              ·
                rw [ite_t hc48] at hb44
                obtain ⟨x42, hx42, hb44⟩ := bind_some hb44
                refine L_fa (o' := 2) rfl fa_68_2 sf2 rfl ?_
                refine L_ld (v := v0_2) rfl Try.isAgg22 rfl (hb_g3.cell (j := 2) rfl) ?_
                have hf49 : Fun1 Try.prog B RP.int false Value.bool i_ruleValid_1 (.func (.func 86) #[] #[]) w47 := by
                  refine ⟨_, _, rfl, Try.call86, fun w_ hE_ cs_ x_ y_ args_ hr_ hy_ ha_ => ?_⟩
                  obtain rfl : cs_ = [_] := hr_
                  obtain rfl := args_of (b := #[.int .i64 x_]) ha_
                  exact i_ruleValid_1_c (n_ := x_) (Nat.le_trans hB (ext_trans hx hE_).size) hy_
                refine L_call (args := #[v0_2, .func (.func 86) #[] #[]]) rfl Try.call85 (ops2 rfl rfl) (slices_ContainsFunc_int_c (s := r_.coefs) (f_ := i_ruleValid_1) (Nat.le_trans hB hx.size) (rel0 h0_2) hf49 hx42) ?_
                rintro _ w50 ⟨rfl, he50⟩
                have h0_2 := RP.ext h0_2 he50
                have hx := ext_trans hx he50
                refine L_not_ (b := x42) rfl rfl ?_
                refine L_pick (v := .bool b44) rfl rfl (congrArg Value.bool (so hb44)) ?_
                refine L_as (v := .bool b44) rfl rfl ?_
                refine L_nil ?_
                show R45 _ _
                rw [hR45]
                exact ⟨rfl, hx⟩
              ·
                rw [ite_f hc48] at hb44
                refine L_pass rfl ?_
                refine L_pass rfl ?_
                refine L_pass rfl ?_
                refine L_pass rfl ?_
                refine L_pick (v := .bool b44) rfl rfl (congrArg Value.bool (so hb44)) ?_
                refine L_as (v := .bool b44) rfl rfl ?_
                refine L_nil ?_
                show R45 _ _
                rw [hR45]
                exact ⟨rfl, hx⟩
            ·
              rw [ite_f hc46] at hb41
              refine L_pass rfl ?_
              refine L_pass rfl ?_
              refine L_pass rfl ?_
              refine L_pick (v := .bool b41) rfl rfl (congrArg Value.bool (so hb41)) ?_
              refine L_mv (v := .bool b41) rfl rfl ?_
              refine L_split (d := 76) (b := b41) rfl (fun hc51 => ?_) (fun hc51 => ?_)
              ·
                rw [ite_t hc51] at hb44
                obtain ⟨x42, hx42, hb44⟩ := bind_some hb44
                refine L_fa (o' := 2) rfl fa_68_2 sf2 rfl ?_
                refine L_ld (v := v0_2) rfl Try.isAgg22 rfl (hb_g3.cell (j := 2) rfl) ?_
                have hf52 : Fun1 Try.prog B RP.int false Value.bool i_ruleValid_1 (.func (.func 86) #[] #[]) w_ := by
                  refine ⟨_, _, rfl, Try.call86, fun w_ hE_ cs_ x_ y_ args_ hr_ hy_ ha_ => ?_⟩
                  obtain rfl : cs_ = [_] := hr_
                  obtain rfl := args_of (b := #[.int .i64 x_]) ha_
                  exact i_ruleValid_1_c (n_ := x_) (Nat.le_trans hB (ext_trans hx hE_).size) hy_
                refine L_call (args := #[v0_2, .func (.func 86) #[] #[]]) rfl Try.call85 (ops2 rfl rfl) (slices_ContainsFunc_int_c (s := r_.coefs) (f_ := i_ruleValid_1) (Nat.le_trans hB hx.size) (rel0 h0_2) hf52 hx42) ?_
                rintro _ w53 ⟨rfl, he53⟩
                have h0_2 := RP.ext h0_2 he53
                have hx := ext_trans hx he53
                refine L_not_ (b := x42) rfl rfl ?_
                refine L_pick (v := .bool b44) rfl rfl (congrArg Value.bool (so hb44)) ?_
                refine L_as (v := .bool b44) rfl rfl ?_
                refine L_nil ?_
                show R45 _ _
                rw [hR45]
                exact ⟨rfl, hx⟩
              ·
                rw [ite_f hc51] at hb44
                refine L_pass rfl ?_
                refine L_pass rfl ?_
                refine L_pass rfl ?_
                refine L_pass rfl ?_
                refine L_pick (v := .bool b44) rfl rfl (congrArg Value.bool (so hb44)) ?_
                refine L_as (v := .bool b44) rfl rfl ?_
                refine L_nil ?_
                show R45 _ _
                rw [hR45]
                exact ⟨rfl, hx⟩
          ·
            intro f w_ hR
            rw [hR45] at hR
            obtain ⟨sf4, hx⟩ := hR
            clear hR45
            refine W_ret ?_
            obtain rfl := so hF
            refine ret1 Try.results70 ?_
            exact ⟨sf4, hx⟩
        ·
          have hF := (ite_f hc38).symm.trans hF
          refine W_seq ?_
          refine W_region ?_
          refine L_eql (m := r_.kind) (n := 3) rfl rfl rfl ?_
          refine L_as (v := .bool (r_.kind == 3)) rfl rfl ?_
          refine L_nil ?_
          refine W_cond (b := (r_.kind == 3)) rfl (fun hc54 => ?_) (fun hc54 => ?_)
          ·
            have hF := (ite_t hc54).symm.trans hF
            refine W_seq ?_
            obtain ⟨b57, hb57, hF⟩ := bind_some hF
            obtain ⟨R58, hR58⟩ : ∃ R : Fr → World → Prop, R = fun f w_ => f 4 = .bool b57 ∧ Ext w w_ := ⟨_, rfl⟩
            refine W_join R58 ?_ ?_
            ·
              refine W_region ?_
              refine L_fa (o' := 4) rfl fa_68_4 sf2 rfl ?_
              refine L_ld (v := v0_4) rfl Try.isAgg66 rfl (hb_g3.cell (j := 4) rfl) ?_
              refine L_len (v := v0_4) rfl Try.underlying66 rfl h0_4 ?_
              refine L_leq (m := (r_.rows.length : Int)) (n := 8) rfl rfl rfl ?_
              refine L_mv (v := .bool (decide ((r_.rows.length : Int) ≤ 8))) rfl rfl ?_
              refine L_split (d := 88) (b := decide ((r_.rows.length : Int) ≤ 8)) rfl (fun hc59 => ?_) (fun hc59 => ?_)
              ·
                rw [ite_t hc59] at hb57
                obtain ⟨x55, hx55, hb57⟩ := bind_some hb57
                refine L_fa (o' := 4) rfl fa_68_4 sf2 rfl ?_
                refine L_ld (v := v0_4) rfl Try.isAgg66 rfl (hb_g3.cell (j := 4) rfl) ?_
                refine L_mf rfl (ops1 sf2) ?_
                have hf60 : Fun1 Try.prog B (RP.slice 3 RP.int) false Value.bool (i_ruleValid_2 r_) (.func (.func 88) #[] #[.pointer (some ⟨g3, 0, none⟩)]) w_ := by
                  refine ⟨_, _, rfl, Try.call88, fun w_ hE_ cs_ x_ y_ args_ hr_ hy_ ha_ => ?_⟩
                  obtain ⟨p0, rfl, hp0⟩ := slice1 hr_
                  obtain rfl := args_of (b := #[p0, .pointer (some ⟨g3, 0, none⟩)]) ha_
                  exact i_ruleValid_2_c (c1 := r_) (row := x_) (Nat.le_trans hB (ext_trans hx hE_).size) hp0 (At.ext (Blk.at hb_g3) hE_) (rel0 (RP.ext h0_1 hE_)) (rel0 (RP.ext h0_2 hE_)) (rel0 (RP.ext h0_4 hE_)) hy_
                refine L_call (args := #[v0_4, .func (.func 88) #[] #[.pointer (some ⟨g3, 0, none⟩)]]) rfl Try.call87 (ops2 rfl rfl) (slices_ContainsFunc_Sint_c (s := r_.rows) (f_ := (i_ruleValid_2 r_)) (Nat.le_trans hB hx.size) (rel0 h0_4) hf60 hx55) ?_
                rintro _ w61 ⟨rfl, he61⟩
                have h0_1 := RP.ext h0_1 he61
                have h0_2 := RP.ext h0_2 he61
                have h0_4 := RP.ext h0_4 he61
                have hb_g3 := Blk.ext hb_g3 he61
                have hx := ext_trans hx he61
                refine L_not_ (b := x55) rfl rfl ?_
                refine L_pick (v := .bool b57) rfl rfl (congrArg Value.bool (so hb57)) ?_
                refine L_as (v := .bool b57) rfl rfl ?_
                refine L_nil ?_
                show R58 _ _
                rw [hR58]
                exact ⟨rfl, hx⟩
              ·
                rw [ite_f hc59] at hb57
                refine L_pass rfl ?_
                refine L_pass rfl ?_
                refine L_pass rfl ?_
                refine L_pass rfl ?_
                refine L_pass rfl ?_
                refine L_pick (v := .bool b57) rfl rfl (congrArg Value.bool (so hb57)) ?_
                refine L_as (v := .bool b57) rfl rfl ?_
                refine L_nil ?_
                show R58 _ _
                rw [hR58]
                exact ⟨rfl, hx⟩
            ·
              intro f w_ hR
              rw [hR58] at hR
              obtain ⟨sf4, hx⟩ := hR
              clear hR58
              refine W_ret ?_
              obtain rfl := so hF
              refine ret1 Try.results70 ?_
              exact ⟨sf4, hx⟩
          ·
            have hF := (ite_f hc54).symm.trans hF
            refine W_seq ?_
            refine W_region ?_
            refine L_eql (m := r_.kind) (n := 4) rfl rfl rfl ?_
            refine L_as (v := .bool (r_.kind == 4)) rfl rfl ?_
            refine L_nil ?_
            refine W_cond (b := (r_.kind == 4)) rfl (fun hc62 => ?_) (fun hc62 => ?_)
            ·
              have hF := (ite_t hc62).symm.trans hF
              refine W_seq ?_
              refine W_region ?_
              refine L_fa (o' := 1) rfl fa_68_1 sf2 rfl ?_
              refine L_ld (v := v0_1) rfl Try.isAgg22 rfl (hb_g3.cell (j := 1) rfl) ?_
              refine L_len (v := v0_1) rfl Try.underlying22 rfl h0_1 ?_
              refine L_eql (m := (r_.vars.length : Int)) (n := 2) rfl rfl rfl ?_
              refine L_as (v := .bool ((r_.vars.length : Int) == 2)) rfl rfl ?_
              refine L_nil ?_
              refine W_ret ?_
              obtain rfl := so hF
              refine ret1 Try.results70 ?_
              exact ⟨rfl, hx⟩
            ·
              have hF := (ite_f hc62).symm.trans hF
              refine W_skip ?_
              refine W_seq ?_
              refine W_region ?_
              refine L_fa (o' := 0) rfl fa_68_0 sf2 rfl ?_
              refine L_ld (v := .int .i64 r_.kind) rfl Try.isAgg3 rfl (hb_g3.cell (j := 0) rfl) ?_
              refine L_eql (m := r_.kind) (n := 2) rfl rfl rfl ?_
              refine L_as (v := .bool (r_.kind == 2)) rfl rfl ?_
              refine L_nil ?_
              refine W_ret ?_
              obtain rfl := so hF
              refine ret1 Try.results70 ?_
              exact ⟨rfl, hx⟩

theorem i_ModelValid_1_c {c1 : Model} {r_ : Rule} {v0_1 : Value} {v0_2 : Value} {v0_4 : Value} {g_c1 : Nat} {v1_0 : Value} {v1_1 : Value} {w : World} {B : Nat} (hB : B ≤ w.heap.size) (h0_1 : (RP.slice 3 RP.int).rel B w.heap.size w [v0_1] r_.vars) (h0_2 : (RP.slice 3 RP.int).rel B w.heap.size w [v0_2] r_.coefs) (h0_4 : (RP.slice 22 (RP.slice 3 RP.int)).rel B w.heap.size w [v0_4] r_.rows) (hat_g_c1 : At w g_c1 0 [v1_0, v1_1]) (h1_0 : (RP.slice 3 RP.int).rel B w.heap.size w [v1_0] c1.sizes) (h1_1 : (RP.slice 68 (rRule 3 22)).rel B w.heap.size w [v1_1] c1.rules) {r : Bool} (hF : i_ModelValid_1 c1 r_ = some r) :
    C Try.prog 69 #[.agg #[.int .i64 r_.kind, v0_1, v0_2, .int .i64 r_.bound, v0_4], .pointer (some ⟨g_c1, 0, none⟩)] w fun v w' => (v = .bool r) ∧ Ext w w' := by
  unfold i_ModelValid_1 at hF
  have hlt_g_c1 := hat_g_c1.lt
  have hx := ext_refl w
  refine C_enter Try.func69 rfl Try.ntmps69 rfl ?_
  refine W_seq ?_
  refine W_region ?_
  refine L_box (v := .agg #[.int .i64 r_.kind, v0_1, v0_2, .int .i64 r_.bound, v0_4]) (cs := #[.int .i64 r_.kind, v0_1, v0_2, .int .i64 r_.bound, v0_4]) rfl rfl rfl ?_
  intro g3 w4 hn4
  have hge_g3 := hn4.geS hx.size
  have hb_g3 := hn4.blk
  have h0_1 := RP.ext h0_1 hn4.ext
  have h0_2 := RP.ext h0_2 hn4.ext
  have h0_4 := RP.ext h0_4 hn4.ext
  have h1_0 := RP.ext h1_0 hn4.ext
  have h1_1 := RP.ext h1_1 hn4.ext
  have hat_g_c1 := At.ext hat_g_c1 hn4.ext
  have hx := ext_trans hx hn4.ext
  refine L_as (v := .bool false) rfl rfl ?_
  refine L_nil ?_
  refine W_seq ?_
  obtain ⟨x5, hx5, hF⟩ := bind_some hF
  refine W_region ?_
  refine L_lda (cs := [.int .i64 r_.kind, v0_1, v0_2, .int .i64 r_.bound, v0_4]) rfl Try.isAgg68 Try.sizeOf68 rfl (Blk.sub hb_g3 0 5) rfl ?_
  refine L_fa (o' := 0) rfl fa_30_0 rfl rfl ?_
  refine L_ld (v := v1_0) rfl Try.isAgg22 rfl (hat_g_c1.cell (j := 0) rfl) ?_
  refine L_len (v := v1_0) rfl Try.underlying22 rfl h1_0 ?_
  refine L_call (args := #[.agg #[.int .i64 r_.kind, v0_1, v0_2, .int .i64 r_.bound, v0_4], .int .i64 (c1.sizes.length : Int)]) rfl Try.call70 (ops2 rfl rfl) (i_ruleValid_c (r_ := r_) (cells := (c1.sizes.length : Int)) (Nat.le_trans hB hx.size) (rel0 h0_1) (rel0 h0_2) (rel0 h0_4) hx5) ?_
  rintro _ w7 ⟨rfl, he7⟩
  have h0_1 := RP.ext h0_1 he7
  have h0_2 := RP.ext h0_2 he7
  have h0_4 := RP.ext h0_4 he7
  have hx := ext_trans hx he7
  refine L_not_ (b := x5) rfl rfl ?_
  refine L_as (v := .bool (!x5)) rfl rfl ?_
  refine L_nil ?_
  refine W_ret ?_
  obtain rfl := so hF
  refine ret1 Try.results69 ?_
  exact ⟨rfl, hx⟩

theorem i_ModelValid_c {m : Model} {v0_0 : Value} {v0_1 : Value} {w : World} {B : Nat} (hB : B ≤ w.heap.size) (h0_0 : (RP.slice 3 RP.int).rel B w.heap.size w [v0_0] m.sizes) (h0_1 : (RP.slice 68 (rRule 3 22)).rel B w.heap.size w [v0_1] m.rules) {r : Bool} (hF : i_ModelValid m = some r) :
    C Try.prog 47 #[.agg #[v0_0, v0_1]] w fun v w' => (v = .bool r) ∧ Ext w w' := by
  unfold i_ModelValid at hF
  have hx := ext_refl w
  refine C_enter Try.func47 rfl Try.ntmps47 rfl ?_
  refine W_seq ?_
  refine W_region ?_
  refine L_box (v := .agg #[v0_0, v0_1]) (cs := #[v0_0, v0_1]) rfl rfl rfl ?_
  intro g3 w4 hn4
  have hge_g3 := hn4.geS hx.size
  have hb_g3 := hn4.blk
  have h0_0 := RP.ext h0_0 hn4.ext
  have h0_1 := RP.ext h0_1 hn4.ext
  have hx := ext_trans hx hn4.ext
  refine L_as (v := .bool false) rfl rfl ?_
  refine L_nil ?_
  refine W_seq ?_
  refine W_seq ?_
  obtain ⟨x5, hx5, hF⟩ := bind_some hF
  obtain ⟨R7, hR7⟩ : ∃ R : Fr → World → Prop, R = fun f w_ => f 1 = .pointer (some ⟨g3, 0, none⟩) ∧ f 16 = .bool ((!x5) || (decide ((m.rules.length : Int) > 8))) ∧ (RP.slice 3 RP.int).rel B w.heap.size w_ [v0_0] m.sizes ∧ (RP.slice 68 (rRule 3 22)).rel B w.heap.size w_ [v0_1] m.rules ∧ Blk w_ g3 30 #[v0_0, v0_1] ∧ Ext w w_ := ⟨_, rfl⟩
  refine W_join R7 ?_ ?_
  ·
    refine W_region ?_
    refine L_fa (o' := 0) rfl fa_30_0 rfl rfl ?_
    refine L_ld (v := v0_0) rfl Try.isAgg22 rfl (hb_g3.cell (j := 0) rfl) ?_
    refine L_len (v := v0_0) rfl Try.underlying22 rfl h0_0 ?_
    refine L_call (args := #[.int .i64 (m.sizes.length : Int), .int .i64 1, .int .i64 5]) rfl Try.call48 (ops3 rfl rfl rfl) (i_within_c (n_ := (m.sizes.length : Int)) (low := 1) (high := 5) (Nat.le_trans hB hx.size) hx5) ?_
    rintro _ w8 ⟨rfl, he8⟩
    have h0_0 := RP.ext h0_0 he8
    have h0_1 := RP.ext h0_1 he8
    have hb_g3 := Blk.ext hb_g3 he8
    have hx := ext_trans hx he8
    refine L_not_ (b := x5) rfl rfl ?_
    refine L_mv (v := .bool (!x5)) rfl rfl ?_
    refine L_split (d := 11) (b := (!x5)) rfl (fun hc9 => ?_) (fun hc9 => ?_)
    ·
      refine L_pass rfl ?_
      refine L_pass rfl ?_
      refine L_pass rfl ?_
      refine L_pass rfl ?_
      refine L_pick (v := .bool ((!x5) || (decide ((m.rules.length : Int) > 8)))) rfl rfl (or_t hc9) ?_
      refine L_nil ?_
      show R7 _ _
      rw [hR7]
      exact ⟨rfl, rfl, h0_0, h0_1, hb_g3, hx⟩
    ·
      refine L_fa (o' := 1) rfl fa_30_1 rfl rfl ?_
      refine L_ld (v := v0_1) rfl Try.isAgg28 rfl (hb_g3.cell (j := 1) rfl) ?_
      refine L_len (v := v0_1) rfl Try.underlying28 rfl h0_1 ?_
      refine L_gtr (m := (m.rules.length : Int)) (n := 8) rfl rfl rfl ?_
      refine L_pick (v := .bool ((!x5) || (decide ((m.rules.length : Int) > 8)))) rfl rfl (or_f hc9 rfl) ?_
      refine L_nil ?_
      show R7 _ _
      rw [hR7]
      exact ⟨rfl, rfl, h0_0, h0_1, hb_g3, hx⟩
  ·
    intro f w_ hR
    rw [hR7] at hR
    obtain ⟨sf1, sf16, h0_0, h0_1, hb_g3, hx⟩ := hR
    clear hR7
    refine W_cond (b := ((!x5) || (decide ((m.rules.length : Int) > 8)))) sf16 (fun hc10 => ?_) (fun hc10 => ?_)
    ·
      have hF := (ite_t hc10).symm.trans hF
      refine W_seq ?_
      refine W_region ?_
      refine L_as (v := .bool false) rfl rfl ?_
      refine L_nil ?_
      refine W_ret ?_
      obtain rfl := so hF
      refine ret1 Try.results47 ?_
      exact ⟨rfl, hx⟩
    ·
      have hF := (ite_f hc10).symm.trans hF
      refine W_skip ?_
      refine W_seq ?_
      refine W_region ?_
      refine L_as (v := .int .i64 0) rfl rfl ?_
      refine L_nil ?_
      refine W_seq ?_
      refine W_seq ?_
      refine W_region ?_
      refine L_fa (o' := 0) rfl fa_30_0 sf1 rfl ?_
      refine L_ld (v := v0_0) rfl Try.isAgg22 rfl (hb_g3.cell (j := 0) rfl) ?_
      refine L_len (v := v0_0) rfl Try.underlying22 rfl h0_0 ?_
      refine L_mv (v := .int .i64 0) rfl rfl ?_
      refine L_nil ?_
      have hlen13 := len_le h0_0
      obtain ⟨j13, hL13, hF⟩ := bind_some hF
      obtain ⟨R13, hR13⟩ : ∃ R : Fr → World → Prop, R = fun f w_ => ∃ count_12 : Int, j13 = .nx count_12 ∧ f 1 = .pointer (some ⟨g3, 0, none⟩) ∧ f 3 = .int .i64 count_12 ∧ (RP.slice 3 RP.int).rel B w.heap.size w_ [v0_0] m.sizes ∧ (RP.slice 68 (rRule 3 22)).rel B w.heap.size w_ [v0_1] m.rules ∧ Blk w_ g3 30 #[v0_0, v0_1] ∧ Ext w w_ := ⟨_, rfl⟩
      refine W_join R13 ?_ ?_
      ·
        refine W_block ?_
        obtain ⟨I13, hI13⟩ : ∃ I : Nat → Fr → World → Prop, I = fun n f w_ => ∃ i_11 : Nat, ∃ suf13 : List Int, ∃ count_12 : Int, n = suf13.length ∧ List.drop i_11 m.sizes = suf13 ∧ i_11 + suf13.length = m.sizes.length ∧ rangeL i_ModelValid_b1 suf13 i_11 count_12 = some j13 ∧ f 1 = .pointer (some ⟨g3, 0, none⟩) ∧ f 3 = .int .i64 count_12 ∧ f 18 = v0_0 ∧ f 19 = .int .i64 (m.sizes.length : Int) ∧ f 20 = .int .i64 (i_11 : Int) ∧ (RP.slice 3 RP.int).rel B w.heap.size w_ [v0_0] m.sizes ∧ (RP.slice 68 (rRule 3 22)).rel B w.heap.size w_ [v0_1] m.rules ∧ Blk w_ g3 30 #[v0_0, v0_1] ∧ Ext w w_ := ⟨_, rfl⟩
        refine W_loop I13 (n := m.sizes.length) ?_ ?_
        · rw [hI13]; exact ⟨0, m.sizes, 0, rfl, rfl, Nat.zero_add _, hL13, sf1, rfl, rfl, rfl, rfl, h0_0, h0_1, hb_g3, hx⟩
        ·
          intro n13 f w_ hI
          rw [hI13] at hI
          obtain ⟨i_11, suf13, count_12, rfl, hd13, hl13, hL13, sf1, sf3, sf18, sf19, sf20, h0_0, h0_1, hb_g3, hx⟩ := hI
          refine W_seq ?_
          refine W_region ?_
          refine L_lss (m := (i_11 : Int)) (n := (m.sizes.length : Int)) rfl sf20 sf19 ?_
          refine L_nil ?_
          refine W_seq ?_
          refine W_cond (b := decide ((i_11 : Int) < (m.sizes.length : Int))) rfl (fun hc14 => ?_) (fun hc14 => ?_)
          ·
            have hlt13 := of_decide_eq_true hc14
            cases suf13 with
            | nil => exact absurd hlt13 (by simp at hl13; omega)
            | cons x_13 rest13 =>
              obtain ⟨o13, hB13, hL13⟩ := range_cons hL13
              rw [i_ModelValid_b1] at hB13
              have hix13 := drop_idx hd13
              refine W_skip ?_
              refine W_seq ?_
              refine W_block ?_
              refine W_seq ?_
              refine W_region ?_
              refine L_ix (r := RP.int) rfl Try.underlying22 Try.sizeOf3 sf18 h0_0 sf20 hix13 ?_
              intro g17 o18 cs18 hr18 hat18
              obtain rfl : _ = [_] := hr18
              refine L_ld (v := .int .i64 x_13) rfl Try.isAgg3 rfl (hat18.cell (j := 0) rfl) ?_
              refine L_as (v := .int .i64 x_13) rfl rfl ?_
              refine L_nil ?_
              refine W_seq ?_
              refine W_seq ?_
              obtain ⟨x19, hx19, hB13⟩ := bind_some hB13
              refine W_region ?_
              refine L_mv (v := .int .i64 x_13) rfl rfl ?_
              refine L_call (args := #[.int .i64 x_13, .int .i64 0, .int .i64 3]) rfl Try.call48 (ops3 rfl rfl rfl) (i_within_c (n_ := x_13) (low := 0) (high := 3) (Nat.le_trans hB hx.size) hx19) ?_
              rintro _ w21 ⟨rfl, he21⟩
              have h0_0 := RP.ext h0_0 he21
              have h0_1 := RP.ext h0_1 he21
              have hb_g3 := Blk.ext hb_g3 he21
              have hx := ext_trans hx he21
              refine L_not_ (b := x19) rfl rfl ?_
              refine L_nil ?_
              refine W_cond (b := (!x19)) rfl (fun hc22 => ?_) (fun hc22 => ?_)
              ·
                have hB13 := (ite_t hc22).symm.trans hB13
                refine W_seq ?_
                refine W_region ?_
                refine L_as (v := .bool false) rfl rfl ?_
                refine L_nil ?_
                refine W_ret ?_
                obtain rfl := so hB13
                obtain rfl := so hL13
                obtain rfl := so hF
                refine ret1 Try.results47 ?_
                exact ⟨rfl, hx⟩
              ·
                have hB13 := (ite_f hc22).symm.trans hB13
                refine W_skip ?_
                refine W_region ?_
                refine L_mv (v := .int .i64 count_12) rfl sf3 ?_
                refine L_mv (v := .int .i64 x_13) rfl rfl ?_
                refine L_add (m := x_13) (n := 1) rfl rfl rfl ?_
                refine L_add (m := count_12) (n := i64 (x_13 + 1)) rfl rfl rfl ?_
                refine L_as (v := .int .i64 (i64 (count_12 + (i64 (x_13 + 1))))) rfl rfl ?_
                refine L_nil ?_
                refine W_region ?_
                refine L_add (m := (i_11 : Int)) (n := 1) rfl sf20 rfl ?_
                refine L_mv (v := .int .i64 (i64 ((i_11 : Int) + 1))) rfl rfl ?_
                refine L_nil ?_
                obtain rfl := so hB13
                show ∃ m, m < _ ∧ I13 m _ _
                refine ⟨rest13.length, by simp, ?_⟩
                rw [hI13]
                exact ⟨i_11 + 1, rest13, i64 (count_12 + (i64 (x_13 + 1))), rfl, drop_next hd13, by simp at hl13; omega, hL13, sf1, rfl, sf18, sf19, (Eq.trans rfl (congrArg (Value.int .i64) (i64_succ (n := m.sizes.length) (by simp at hl13; omega) hlen13))), h0_0, h0_1, hb_g3, hx⟩
          ·
            cases suf13 with
            | cons _ _ => exact absurd (of_decide_eq_false hc14) (by simp at hl13; omega)
            | nil =>
              obtain rfl := range_nil hL13
              refine W_exit ?_
              show R13 _ _
              rw [hR13]
              exact ⟨count_12, rfl, sf1, sf3, h0_0, h0_1, hb_g3, hx⟩
      ·
        intro f w_ hR
        rw [hR13] at hR
        obtain ⟨count_12, rfl, sf1, sf3, h0_0, h0_1, hb_g3, hx⟩ := hR
        clear hR13
        refine W_seq ?_
        obtain ⟨b25, hb25, hF⟩ := bind_some hF
        obtain ⟨R26, hR26⟩ : ∃ R : Fr → World → Prop, R = fun f w_ => f 2 = .bool b25 ∧ Ext w w_ := ⟨_, rfl⟩
        refine W_join R26 ?_ ?_
        ·
          refine W_region ?_
          refine L_mv (v := .int .i64 count_12) rfl sf3 ?_
          refine L_leq (m := count_12) (n := 12) rfl rfl rfl ?_
          refine L_mv (v := .bool (decide (count_12 ≤ 12))) rfl rfl ?_
          refine L_split (d := 34) (b := decide (count_12 ≤ 12)) rfl (fun hc27 => ?_) (fun hc27 => ?_)
          ·
            rw [ite_t hc27] at hb25
            obtain ⟨x23, hx23, hb25⟩ := bind_some hb25
            refine L_fa (o' := 1) rfl fa_30_1 sf1 rfl ?_
            refine L_ld (v := v0_1) rfl Try.isAgg28 rfl (hb_g3.cell (j := 1) rfl) ?_
            refine L_mf rfl (ops1 sf1) ?_
            have hf28 : Fun1 Try.prog B (rRule 3 22) true Value.bool (i_ModelValid_1 m) (.func (.func 69) #[] #[.pointer (some ⟨g3, 0, none⟩)]) w_ := by
              refine ⟨_, _, rfl, Try.call69, fun w_ hE_ cs_ x_ y_ args_ hr_ hy_ ha_ => ?_⟩
              obtain ⟨p0, p1, p2, rfl, hp0, hp1, hp2⟩ := rRule_iff.1 hr_
              obtain rfl := args_of (b := #[.agg #[.int .i64 x_.kind, p0, p1, .int .i64 x_.bound, p2], .pointer (some ⟨g3, 0, none⟩)]) ha_
              exact i_ModelValid_1_c (c1 := m) (r_ := x_) (Nat.le_trans hB (ext_trans hx hE_).size) hp0 hp1 hp2 (At.ext (Blk.at hb_g3) hE_) (rel0 (RP.ext h0_0 hE_)) (rel0 (RP.ext h0_1 hE_)) hy_
            refine L_call (args := #[v0_1, .func (.func 69) #[] #[.pointer (some ⟨g3, 0, none⟩)]]) rfl Try.call68 (ops2 rfl rfl) (slices_ContainsFunc_implRule_c (s := m.rules) (f_ := (i_ModelValid_1 m)) (Nat.le_trans hB hx.size) (rel0 h0_1) hf28 hx23) ?_
            rintro _ w29 ⟨rfl, he29⟩
            have h0_0 := RP.ext h0_0 he29
            have h0_1 := RP.ext h0_1 he29
            have hb_g3 := Blk.ext hb_g3 he29
            have hx := ext_trans hx he29
            refine L_not_ (b := x23) rfl rfl ?_
            refine L_pick (v := .bool b25) rfl rfl (congrArg Value.bool (so hb25)) ?_
            refine L_as (v := .bool b25) rfl rfl ?_
            refine L_nil ?_
            show R26 _ _
            rw [hR26]
            exact ⟨rfl, hx⟩
          ·
            rw [ite_f hc27] at hb25
            refine L_pass rfl ?_
            refine L_pass rfl ?_
            refine L_pass rfl ?_
            refine L_pass rfl ?_
            refine L_pass rfl ?_
            refine L_pick (v := .bool b25) rfl rfl (congrArg Value.bool (so hb25)) ?_
            refine L_as (v := .bool b25) rfl rfl ?_
            refine L_nil ?_
            show R26 _ _
            rw [hR26]
            exact ⟨rfl, hx⟩
        ·
          intro f w_ hR
          rw [hR26] at hR
          obtain ⟨sf2, hx⟩ := hR
          clear hR26
          refine W_ret ?_
          obtain rfl := so hF
          refine ret1 Try.results47 ?_
          exact ⟨sf2, hx⟩

theorem l_eqIntS_c {a : List Int} {b : List Int} {v0 : Value} {v1 : Value} {w : World} {B : Nat} (hB : B ≤ w.heap.size) (h0 : (RP.slice 3 RP.int).rel B w.heap.size w [v0] a) (h1 : (RP.slice 3 RP.int).rel B w.heap.size w [v1] b) {r : Bool} (hF : l_eqIntS a b = some r) :
    C Try.prog 26 #[v0, v1] w fun v w' => (v = .bool r) ∧ Ext w w' := by
  unfold l_eqIntS at hF
  have hx := ext_refl w
  refine C_enter Try.func26 rfl Try.ntmps26 rfl ?_
  refine W_seq ?_
  refine W_region ?_
  refine L_as (v := .bool false) rfl rfl ?_
  refine L_nil ?_
  refine W_seq ?_
  refine W_seq ?_
  refine W_region ?_
  refine L_mv (v := v0) rfl rfl ?_
  refine L_len (v := v0) rfl Try.underlying22 rfl h0 ?_
  refine L_mv (v := v1) rfl rfl ?_
  refine L_len (v := v1) rfl Try.underlying22 rfl h1 ?_
  refine L_neq (m := (a.length : Int)) (n := (b.length : Int)) rfl rfl rfl ?_
  refine L_nil ?_
  refine W_cond (b := ((a.length : Int) != (b.length : Int))) rfl (fun hc1 => ?_) (fun hc1 => ?_)
  ·
    have hF := (ite_t hc1).symm.trans hF
    refine W_seq ?_
    refine W_region ?_
    refine L_as (v := .bool false) rfl rfl ?_
    refine L_nil ?_
    refine W_ret ?_
    obtain rfl := so hF
    refine ret1 Try.results26 ?_
    exact ⟨rfl, hx⟩
  ·
    have hF := (ite_f hc1).symm.trans hF
    refine W_skip ?_
    refine W_seq ?_
    refine W_seq ?_
    refine W_region ?_
    refine L_as (v := .int .i64 0) rfl rfl ?_
    refine L_nil ?_
    have hlen3 := len_le h0
    obtain ⟨j3, hL3, hF⟩ := bind_some hF
    obtain ⟨R3, hR3⟩ : ∃ R : Fr → World → Prop, R = fun f w_ => j3 = .nx () ∧ Ext w w_ := ⟨_, rfl⟩
    refine W_join R3 ?_ ?_
    ·
      refine W_block ?_
      obtain ⟨I3, hI3⟩ : ∃ I : Nat → Fr → World → Prop, I = fun n f w_ => ∃ i_2 : Nat, ∃ suf3 : List Int, n = suf3.length ∧ List.drop i_2 a = suf3 ∧ i_2 + suf3.length = a.length ∧ rangeL (l_eqIntS_b1 b) suf3 i_2 () = some j3 ∧ f 0 = v0 ∧ f 1 = v1 ∧ f 5 = .int .i64 (i_2 : Int) ∧ (RP.slice 3 RP.int).rel B w.heap.size w_ [v0] a ∧ (RP.slice 3 RP.int).rel B w.heap.size w_ [v1] b ∧ Ext w w_ := ⟨_, rfl⟩
      refine W_loop I3 (n := a.length) ?_ ?_
      · rw [hI3]; exact ⟨0, a, rfl, rfl, Nat.zero_add _, hL3, rfl, rfl, rfl, h0, h1, hx⟩
      ·
        intro n3 f w_ hI
        rw [hI3] at hI
        obtain ⟨i_2, suf3, rfl, hd3, hl3, hL3, sf0, sf1, sf5, h0, h1, hx⟩ := hI
        refine W_seq ?_
        refine W_seq ?_
        refine W_region ?_
        refine L_mv (v := .int .i64 (i_2 : Int)) rfl sf5 ?_
        refine L_mv (v := v0) rfl sf0 ?_
        refine L_len (v := v0) rfl Try.underlying22 rfl h0 ?_
        refine L_lss (m := (i_2 : Int)) (n := (a.length : Int)) rfl rfl rfl ?_
        refine L_nil ?_
        refine W_cond (b := decide ((i_2 : Int) < (a.length : Int))) rfl (fun hc4 => ?_) (fun hc4 => ?_)
        ·
          have hlt3 := of_decide_eq_true hc4
          cases suf3 with
          | nil => exact absurd hlt3 (by simp at hl3; omega)
          | cons x_3 rest3 =>
            obtain ⟨o3, hB3, hL3⟩ := range_cons hL3
            rw [l_eqIntS_b1] at hB3
            have hix3 := drop_idx hd3
            refine W_skip ?_
            refine W_seq ?_
            refine W_block ?_
            refine W_seq ?_
            obtain ⟨x7, hx7, hB3⟩ := bind_some hB3
            refine W_drawL 8 [isV (v0), isV (.int .i64 (i_2 : Int)), isEl B RP.int x_3 0, isV (.int .i64 x_3), isV (v1), isV (.int .i64 (i_2 : Int)), isEl B RP.int x7 0, isV (.int .i64 x7)] Try_mix (by kernel_rfl) (am_cons (mono_V _) (am_cons (mono_V _) (am_cons (mono_el _ _ _ _) (am_cons (mono_V _) (am_cons (mono_V _) (am_cons (mono_V _) (am_cons (mono_el _ _ _ _) (am_cons (mono_V _) am_nil)))))))) ?_ (fun f w_ hS10 hE10 hT10 => ?_)
            ·
              refine ops_cons (fun f w_ hS10 hE10 hP10 => ?_) ?_
              ·
                have hx := ext_trans hx hE10
                have h0 := RP.ext h0 hE10
                refine L_mv (v := v0) rfl ((hS10 0 rfl).trans sf0) ?_
                exact L_nil ⟨rfl, (ext_refl _), _, _, rfl, rfl, rfl⟩
              refine ops_cons (fun f w_ hS10 hE10 hP10 => ?_) ?_
              ·
                have hx := ext_trans hx hE10
                refine L_mv (v := .int .i64 (i_2 : Int)) rfl ((hS10 5 rfl).trans sf5) ?_
                exact L_nil ⟨rfl, (ext_refl _), _, _, rfl, rfl, rfl⟩
              refine ops_cons (fun f w_ hS10 hE10 hP10 => ?_) ?_
              ·
                have hx := ext_trans hx hE10
                have h0 := RP.ext h0 hE10
                refine L_ix (r := RP.int) rfl Try.underlying22 Try.sizeOf3 (hP10 0 17 rfl rfl) h0 (hP10 1 18 rfl rfl) hix3 ?_
                intro g15 o16 cs16 hr16 hat16
                obtain rfl : _ = [_] := hr16
                exact L_nil ⟨rfl, (ext_refl _), _, _, rfl, rfl, ⟨_, _, _, rfl, rfl, hat16⟩⟩
              refine ops_cons (fun f w_ hS10 hE10 hP10 => ?_) ?_
              ·
                have hx := ext_trans hx hE10
                obtain ⟨g17, o17, cs17, hv17, hr17, hat17⟩ := (hP10 2 19 rfl rfl)
                obtain rfl : _ = [_] := hr17
                refine L_ld (v := .int .i64 x_3) rfl Try.isAgg3 hv17 (hat17.cell (j := 0) rfl) ?_
                exact L_nil ⟨rfl, (ext_refl _), _, _, rfl, rfl, rfl⟩
              refine ops_cons (fun f w_ hS10 hE10 hP10 => ?_) ?_
              ·
                have hx := ext_trans hx hE10
                have h1 := RP.ext h1 hE10
                refine L_mv (v := v1) rfl ((hS10 1 rfl).trans sf1) ?_
                exact L_nil ⟨rfl, (ext_refl _), _, _, rfl, rfl, rfl⟩
              refine ops_cons (fun f w_ hS10 hE10 hP10 => ?_) ?_
              ·
                have hx := ext_trans hx hE10
                refine L_mv (v := .int .i64 (i_2 : Int)) rfl ((hS10 5 rfl).trans sf5) ?_
                exact L_nil ⟨rfl, (ext_refl _), _, _, rfl, rfl, rfl⟩
              refine ops_cons (fun f w_ hS10 hE10 hP10 => ?_) ?_
              ·
                have hx := ext_trans hx hE10
                have h1 := RP.ext h1 hE10
                refine L_ix (r := RP.int) rfl Try.underlying22 Try.sizeOf3 (hP10 4 21 rfl rfl) h1 (hP10 5 22 rfl rfl) hx7 ?_
                intro g18 o19 cs19 hr19 hat19
                obtain rfl : _ = [_] := hr19
                exact L_nil ⟨rfl, (ext_refl _), _, _, rfl, rfl, ⟨_, _, _, rfl, rfl, hat19⟩⟩
              refine ops_cons (fun f w_ hS10 hE10 hP10 => ?_) ?_
              ·
                have hx := ext_trans hx hE10
                obtain ⟨g20, o20, cs20, hv20, hr20, hat20⟩ := (hP10 6 23 rfl rfl)
                obtain rfl : _ = [_] := hr20
                refine L_ld (v := .int .i64 x7) rfl Try.isAgg3 hv20 (hat20.cell (j := 0) rfl) ?_
                exact L_nil ⟨rfl, (ext_refl _), _, _, rfl, rfl, rfl⟩
              exact ops_nil
            ·
              have h0 := RP.ext h0 hE10
              have h1 := RP.ext h1 hE10
              have hx := ext_trans hx hE10
              refine L_neq (m := x_3) (n := x7) rfl (hT10 3 20 rfl rfl) (hT10 7 24 rfl rfl) ?_
              refine L_nil ?_
              refine W_cond (b := (x_3 != x7)) rfl (fun hc21 => ?_) (fun hc21 => ?_)
              ·
                have hB3 := (ite_t hc21).symm.trans hB3
                refine W_seq ?_
                refine W_region ?_
                refine L_as (v := .bool false) rfl rfl ?_
                refine L_nil ?_
                refine W_ret ?_
                obtain rfl := so hB3
                obtain rfl := so hL3
                obtain rfl := so hF
                refine ret1 Try.results26 ?_
                exact ⟨rfl, hx⟩
              ·
                have hB3 := (ite_f hc21).symm.trans hB3
                refine W_skip ?_
                refine W_region ?_
                refine L_mv (v := .int .i64 (i_2 : Int)) rfl ((hS10 5 rfl).trans sf5) ?_
                refine L_add (m := (i_2 : Int)) (n := 1) rfl rfl rfl ?_
                refine L_as (v := .int .i64 (i64 ((i_2 : Int) + 1))) rfl rfl ?_
                refine L_nil ?_
                obtain rfl := so hB3
                show ∃ m, m < _ ∧ I3 m _ _
                refine ⟨rest3.length, by simp, ?_⟩
                rw [hI3]
                exact ⟨i_2 + 1, rest3, rfl, drop_next hd3, by simp at hl3; omega, hL3, ((hS10 0 rfl).trans sf0), ((hS10 1 rfl).trans sf1), (Eq.trans rfl (congrArg (Value.int .i64) (i64_succ (n := a.length) (by simp at hl3; omega) hlen3))), h0, h1, hx⟩
        ·
          cases suf3 with
          | cons _ _ => exact absurd (of_decide_eq_false hc4) (by simp at hl3; omega)
          | nil =>
            obtain rfl := range_nil hL3
            refine W_exit ?_
            show R3 _ _
            rw [hR3]
            exact ⟨rfl, hx⟩
    ·
      intro f w_ hR
      rw [hR3] at hR
      obtain ⟨rfl, hx⟩ := hR
      clear hR3
      refine W_seq ?_
      refine W_region ?_
      refine L_as (v := .bool true) rfl rfl ?_
      refine L_nil ?_
      refine W_ret ?_
      obtain rfl := so hF
      refine ret1 Try.results26 ?_
      exact ⟨rfl, hx⟩

theorem l_eqIntSS_c {a : List (List Int)} {b : List (List Int)} {v0 : Value} {v1 : Value} {w : World} {B : Nat} (hB : B ≤ w.heap.size) (h0 : (RP.slice 22 (RP.slice 3 RP.int)).rel B w.heap.size w [v0] a) (h1 : (RP.slice 22 (RP.slice 3 RP.int)).rel B w.heap.size w [v1] b) {r : Bool} (hF : l_eqIntSS a b = some r) :
    C Try.prog 90 #[v0, v1] w fun v w' => (v = .bool r) ∧ Ext w w' := by
  unfold l_eqIntSS at hF
  have hx := ext_refl w
  refine C_enter Try.func90 rfl Try.ntmps90 rfl ?_
  refine W_seq ?_
  refine W_region ?_
  refine L_as (v := .bool false) rfl rfl ?_
  refine L_nil ?_
  refine W_seq ?_
  refine W_seq ?_
  refine W_region ?_
  refine L_mv (v := v0) rfl rfl ?_
  refine L_len (v := v0) rfl Try.underlying66 rfl h0 ?_
  refine L_mv (v := v1) rfl rfl ?_
  refine L_len (v := v1) rfl Try.underlying66 rfl h1 ?_
  refine L_neq (m := (a.length : Int)) (n := (b.length : Int)) rfl rfl rfl ?_
  refine L_nil ?_
  refine W_cond (b := ((a.length : Int) != (b.length : Int))) rfl (fun hc1 => ?_) (fun hc1 => ?_)
  ·
    have hF := (ite_t hc1).symm.trans hF
    refine W_seq ?_
    refine W_region ?_
    refine L_as (v := .bool false) rfl rfl ?_
    refine L_nil ?_
    refine W_ret ?_
    obtain rfl := so hF
    refine ret1 Try.results90 ?_
    exact ⟨rfl, hx⟩
  ·
    have hF := (ite_f hc1).symm.trans hF
    refine W_skip ?_
    refine W_seq ?_
    refine W_seq ?_
    refine W_region ?_
    refine L_as (v := .int .i64 0) rfl rfl ?_
    refine L_nil ?_
    have hlen3 := len_le h0
    obtain ⟨j3, hL3, hF⟩ := bind_some hF
    obtain ⟨R3, hR3⟩ : ∃ R : Fr → World → Prop, R = fun f w_ => j3 = .nx () ∧ Ext w w_ := ⟨_, rfl⟩
    refine W_join R3 ?_ ?_
    ·
      refine W_block ?_
      obtain ⟨I3, hI3⟩ : ∃ I : Nat → Fr → World → Prop, I = fun n f w_ => ∃ i_2 : Nat, ∃ suf3 : List (List Int), n = suf3.length ∧ List.drop i_2 a = suf3 ∧ i_2 + suf3.length = a.length ∧ rangeL (l_eqIntSS_b1 b) suf3 i_2 () = some j3 ∧ f 0 = v0 ∧ f 1 = v1 ∧ f 5 = .int .i64 (i_2 : Int) ∧ (RP.slice 22 (RP.slice 3 RP.int)).rel B w.heap.size w_ [v0] a ∧ (RP.slice 22 (RP.slice 3 RP.int)).rel B w.heap.size w_ [v1] b ∧ Ext w w_ := ⟨_, rfl⟩
      refine W_loop I3 (n := a.length) ?_ ?_
      · rw [hI3]; exact ⟨0, a, rfl, rfl, Nat.zero_add _, hL3, rfl, rfl, rfl, h0, h1, hx⟩
      ·
        intro n3 f w_ hI
        rw [hI3] at hI
        obtain ⟨i_2, suf3, rfl, hd3, hl3, hL3, sf0, sf1, sf5, h0, h1, hx⟩ := hI
        refine W_seq ?_
        refine W_seq ?_
        refine W_region ?_
        refine L_mv (v := .int .i64 (i_2 : Int)) rfl sf5 ?_
        refine L_mv (v := v0) rfl sf0 ?_
        refine L_len (v := v0) rfl Try.underlying66 rfl h0 ?_
        refine L_lss (m := (i_2 : Int)) (n := (a.length : Int)) rfl rfl rfl ?_
        refine L_nil ?_
        refine W_cond (b := decide ((i_2 : Int) < (a.length : Int))) rfl (fun hc4 => ?_) (fun hc4 => ?_)
        ·
          have hlt3 := of_decide_eq_true hc4
          cases suf3 with
          | nil => exact absurd hlt3 (by simp at hl3; omega)
          | cons x_3 rest3 =>
            obtain ⟨o3, hB3, hL3⟩ := range_cons hL3
            rw [l_eqIntSS_b1] at hB3
            have hix3 := drop_idx hd3
            refine W_skip ?_
            refine W_seq ?_
            refine W_block ?_
            refine W_seq ?_
            obtain ⟨x7, hx7, hB3⟩ := bind_some hB3
            obtain ⟨x10, hx10, hB3⟩ := bind_some hB3
            refine W_drawL 8 [isV (v0), isV (.int .i64 (i_2 : Int)), isEl B (RP.slice 3 RP.int) x_3 0, isData B (RP.slice 3 RP.int) x_3, isV (v1), isV (.int .i64 (i_2 : Int)), isEl B (RP.slice 3 RP.int) x7 0, isData B (RP.slice 3 RP.int) x7] Try_mix (by kernel_rfl) (am_cons (mono_V _) (am_cons (mono_V _) (am_cons (mono_el _ _ _ _) (am_cons (mono_data _ _ _) (am_cons (mono_V _) (am_cons (mono_V _) (am_cons (mono_el _ _ _ _) (am_cons (mono_data _ _ _) am_nil)))))))) ?_ (fun f w_ hS12 hE12 hT12 => ?_)
            ·
              refine ops_cons (fun f w_ hS12 hE12 hP12 => ?_) ?_
              ·
                have hx := ext_trans hx hE12
                have h0 := RP.ext h0 hE12
                refine L_mv (v := v0) rfl ((hS12 0 rfl).trans sf0) ?_
                exact L_nil ⟨rfl, (ext_refl _), _, _, rfl, rfl, rfl⟩
              refine ops_cons (fun f w_ hS12 hE12 hP12 => ?_) ?_
              ·
                have hx := ext_trans hx hE12
                refine L_mv (v := .int .i64 (i_2 : Int)) rfl ((hS12 5 rfl).trans sf5) ?_
                exact L_nil ⟨rfl, (ext_refl _), _, _, rfl, rfl, rfl⟩
              refine ops_cons (fun f w_ hS12 hE12 hP12 => ?_) ?_
              ·
                have hx := ext_trans hx hE12
                have h0 := RP.ext h0 hE12
                refine L_ix (r := (RP.slice 3 RP.int)) rfl Try.underlying66 Try.sizeOf22 (hP12 0 17 rfl rfl) h0 (hP12 1 18 rfl rfl) hix3 ?_
                intro g17 o18 cs18 hr18 hat18
                obtain ⟨u18, rfl, hu18⟩ := slice1 hr18
                exact L_nil ⟨rfl, (ext_refl _), _, _, rfl, rfl, ⟨_, _, _, rfl, (rel0 hr18), hat18⟩⟩
              refine ops_cons (fun f w_ hS12 hE12 hP12 => ?_) ?_
              ·
                have hx := ext_trans hx hE12
                obtain ⟨g19, o19, cs19, hv19, hr19, hat19⟩ := (hP12 2 19 rfl rfl)
                obtain ⟨u19, rfl, hu19⟩ := slice1 hr19
                refine L_ld (v := u19) rfl Try.isAgg22 hv19 (hat19.cell (j := 0) rfl) ?_
                exact L_nil ⟨rfl, (ext_refl _), _, _, rfl, rfl, (rel0 hu19)⟩
              refine ops_cons (fun f w_ hS12 hE12 hP12 => ?_) ?_
              ·
                have hx := ext_trans hx hE12
                have h1 := RP.ext h1 hE12
                refine L_mv (v := v1) rfl ((hS12 1 rfl).trans sf1) ?_
                exact L_nil ⟨rfl, (ext_refl _), _, _, rfl, rfl, rfl⟩
              refine ops_cons (fun f w_ hS12 hE12 hP12 => ?_) ?_
              ·
                have hx := ext_trans hx hE12
                refine L_mv (v := .int .i64 (i_2 : Int)) rfl ((hS12 5 rfl).trans sf5) ?_
                exact L_nil ⟨rfl, (ext_refl _), _, _, rfl, rfl, rfl⟩
              refine ops_cons (fun f w_ hS12 hE12 hP12 => ?_) ?_
              ·
                have hx := ext_trans hx hE12
                have h1 := RP.ext h1 hE12
                refine L_ix (r := (RP.slice 3 RP.int)) rfl Try.underlying66 Try.sizeOf22 (hP12 4 21 rfl rfl) h1 (hP12 5 22 rfl rfl) hx7 ?_
                intro g20 o21 cs21 hr21 hat21
                obtain ⟨u21, rfl, hu21⟩ := slice1 hr21
                exact L_nil ⟨rfl, (ext_refl _), _, _, rfl, rfl, ⟨_, _, _, rfl, (rel0 hr21), hat21⟩⟩
              refine ops_cons (fun f w_ hS12 hE12 hP12 => ?_) ?_
              ·
                have hx := ext_trans hx hE12
                obtain ⟨g22, o22, cs22, hv22, hr22, hat22⟩ := (hP12 6 23 rfl rfl)
                obtain ⟨u22, rfl, hu22⟩ := slice1 hr22
                refine L_ld (v := u22) rfl Try.isAgg22 hv22 (hat22.cell (j := 0) rfl) ?_
                exact L_nil ⟨rfl, (ext_refl _), _, _, rfl, rfl, (rel0 hu22)⟩
              exact ops_nil
            ·
              have h0 := RP.ext h0 hE12
              have h1 := RP.ext h1 hE12
              have hx := ext_trans hx hE12
              have hd23 := (hT12 3 20 rfl rfl)
              have hd24 := (hT12 7 24 rfl rfl)
              refine L_call (args := #[(f 20), (f 24)]) rfl Try.call26 (ops2 rfl rfl) (l_eqIntS_c (a := x_3) (b := x7) (Nat.le_trans hB hx.size) (rel0 hd23) (rel0 hd24) hx10) ?_
              rintro _ w25 ⟨rfl, he25⟩
              have h0 := RP.ext h0 he25
              have h1 := RP.ext h1 he25
              have hd23 := RP.ext hd23 he25
              have hd24 := RP.ext hd24 he25
              have hx := ext_trans hx he25
              refine L_not_ (b := x10) rfl rfl ?_
              refine L_nil ?_
              refine W_cond (b := (!x10)) rfl (fun hc26 => ?_) (fun hc26 => ?_)
              ·
                have hB3 := (ite_t hc26).symm.trans hB3
                refine W_seq ?_
                refine W_region ?_
                refine L_as (v := .bool false) rfl rfl ?_
                refine L_nil ?_
                refine W_ret ?_
                obtain rfl := so hB3
                obtain rfl := so hL3
                obtain rfl := so hF
                refine ret1 Try.results90 ?_
                exact ⟨rfl, hx⟩
              ·
                have hB3 := (ite_f hc26).symm.trans hB3
                refine W_skip ?_
                refine W_region ?_
                refine L_mv (v := .int .i64 (i_2 : Int)) rfl ((hS12 5 rfl).trans sf5) ?_
                refine L_add (m := (i_2 : Int)) (n := 1) rfl rfl rfl ?_
                refine L_as (v := .int .i64 (i64 ((i_2 : Int) + 1))) rfl rfl ?_
                refine L_nil ?_
                obtain rfl := so hB3
                show ∃ m, m < _ ∧ I3 m _ _
                refine ⟨rest3.length, by simp, ?_⟩
                rw [hI3]
                exact ⟨i_2 + 1, rest3, rfl, drop_next hd3, by simp at hl3; omega, hL3, ((hS12 0 rfl).trans sf0), ((hS12 1 rfl).trans sf1), (Eq.trans rfl (congrArg (Value.int .i64) (i64_succ (n := a.length) (by simp at hl3; omega) hlen3))), h0, h1, hx⟩
        ·
          cases suf3 with
          | cons _ _ => exact absurd (of_decide_eq_false hc4) (by simp at hl3; omega)
          | nil =>
            obtain rfl := range_nil hL3
            refine W_exit ?_
            show R3 _ _
            rw [hR3]
            exact ⟨rfl, hx⟩
    ·
      intro f w_ hR
      rw [hR3] at hR
      obtain ⟨rfl, hx⟩ := hR
      clear hR3
      refine W_seq ?_
      refine W_region ?_
      refine L_as (v := .bool true) rfl rfl ?_
      refine L_nil ?_
      refine W_ret ?_
      obtain rfl := so hF
      refine ret1 Try.results90 ?_
      exact ⟨rfl, hx⟩

theorem l_eqRule_c {a : Rule} {b : Rule} {v0_1 : Value} {v0_2 : Value} {v0_4 : Value} {v1_1 : Value} {v1_2 : Value} {v1_4 : Value} {w : World} {B : Nat} (hB : B ≤ w.heap.size) (h0_1 : (RP.slice 3 RP.int).rel B w.heap.size w [v0_1] a.vars) (h0_2 : (RP.slice 3 RP.int).rel B w.heap.size w [v0_2] a.coefs) (h0_4 : (RP.slice 22 (RP.slice 3 RP.int)).rel B w.heap.size w [v0_4] a.rows) (h1_1 : (RP.slice 3 RP.int).rel B w.heap.size w [v1_1] b.vars) (h1_2 : (RP.slice 3 RP.int).rel B w.heap.size w [v1_2] b.coefs) (h1_4 : (RP.slice 22 (RP.slice 3 RP.int)).rel B w.heap.size w [v1_4] b.rows) {r : Bool} (hF : l_eqRule a b = some r) :
    C Try.prog 71 #[.agg #[.int .i64 a.kind, v0_1, v0_2, .int .i64 a.bound, v0_4], .agg #[.int .i64 b.kind, v1_1, v1_2, .int .i64 b.bound, v1_4]] w fun v w' => (v = .bool r) ∧ Ext w w' := by
  unfold l_eqRule at hF
  have hx := ext_refl w
  refine C_enter Try.func71 rfl Try.ntmps71 rfl ?_
  refine W_seq ?_
  refine W_region ?_
  refine L_box (v := .agg #[.int .i64 a.kind, v0_1, v0_2, .int .i64 a.bound, v0_4]) (cs := #[.int .i64 a.kind, v0_1, v0_2, .int .i64 a.bound, v0_4]) rfl rfl rfl ?_
  intro g6 w7 hn7
  have hge_g6 := hn7.geS hx.size
  have hb_g6 := hn7.blk
  have h0_1 := RP.ext h0_1 hn7.ext
  have h0_2 := RP.ext h0_2 hn7.ext
  have h0_4 := RP.ext h0_4 hn7.ext
  have h1_1 := RP.ext h1_1 hn7.ext
  have h1_2 := RP.ext h1_2 hn7.ext
  have h1_4 := RP.ext h1_4 hn7.ext
  have hx := ext_trans hx hn7.ext
  refine L_box (v := .agg #[.int .i64 b.kind, v1_1, v1_2, .int .i64 b.bound, v1_4]) (cs := #[.int .i64 b.kind, v1_1, v1_2, .int .i64 b.bound, v1_4]) rfl rfl rfl ?_
  intro g8 w9 hn9
  have hge_g8 := hn9.geS hx.size
  have hb_g8 := hn9.blk
  have ap10 := ap_bb hb_g6 hn9
  have h0_1 := RP.ext h0_1 hn9.ext
  have h0_2 := RP.ext h0_2 hn9.ext
  have h0_4 := RP.ext h0_4 hn9.ext
  have h1_1 := RP.ext h1_1 hn9.ext
  have h1_2 := RP.ext h1_2 hn9.ext
  have h1_4 := RP.ext h1_4 hn9.ext
  have hb_g6 := Blk.ext hb_g6 hn9.ext
  have hx := ext_trans hx hn9.ext
  refine L_as (v := .bool false) rfl rfl ?_
  refine L_nil ?_
  refine W_seq ?_
  refine W_seq ?_
  refine W_region ?_
  refine L_fa (o' := 0) rfl fa_68_0 rfl rfl ?_
  refine L_ld (v := .int .i64 a.kind) rfl Try.isAgg3 rfl (hb_g6.cell (j := 0) rfl) ?_
  refine L_fa (o' := 0) rfl fa_68_0 rfl rfl ?_
  refine L_ld (v := .int .i64 b.kind) rfl Try.isAgg3 rfl (hb_g8.cell (j := 0) rfl) ?_
  refine L_neq (m := a.kind) (n := b.kind) rfl rfl rfl ?_
  refine L_nil ?_
  refine W_cond (b := (a.kind != b.kind)) rfl (fun hc11 => ?_) (fun hc11 => ?_)
  ·
    have hF := (ite_t hc11).symm.trans hF
    refine W_seq ?_
    refine W_region ?_
    refine L_as (v := .bool false) rfl rfl ?_
    refine L_nil ?_
    refine W_ret ?_
    obtain rfl := so hF
    refine ret1 Try.results71 ?_
    exact ⟨rfl, hx⟩
  ·
    have hF := (ite_f hc11).symm.trans hF
    refine W_skip ?_
    refine W_seq ?_
    refine W_seq ?_
    obtain ⟨x12, hx12, hF⟩ := bind_some hF
    refine W_region ?_
    refine L_fa (o' := 1) rfl fa_68_1 rfl rfl ?_
    refine L_ld (v := v0_1) rfl Try.isAgg22 rfl (hb_g6.cell (j := 1) rfl) ?_
    refine L_fa (o' := 1) rfl fa_68_1 rfl rfl ?_
    refine L_ld (v := v1_1) rfl Try.isAgg22 rfl (hb_g8.cell (j := 1) rfl) ?_
    refine L_call (args := #[v0_1, v1_1]) rfl Try.call26 (ops2 rfl rfl) (l_eqIntS_c (a := a.vars) (b := b.vars) (Nat.le_trans hB hx.size) (rel0 h0_1) (rel0 h1_1) hx12) ?_
    rintro _ w14 ⟨rfl, he14⟩
    have h0_1 := RP.ext h0_1 he14
    have h0_2 := RP.ext h0_2 he14
    have h0_4 := RP.ext h0_4 he14
    have h1_1 := RP.ext h1_1 he14
    have h1_2 := RP.ext h1_2 he14
    have h1_4 := RP.ext h1_4 he14
    have hb_g6 := Blk.ext hb_g6 he14
    have hb_g8 := Blk.ext hb_g8 he14
    have hx := ext_trans hx he14
    refine L_not_ (b := x12) rfl rfl ?_
    refine L_nil ?_
    refine W_cond (b := (!x12)) rfl (fun hc15 => ?_) (fun hc15 => ?_)
    ·
      have hF := (ite_t hc15).symm.trans hF
      refine W_seq ?_
      refine W_region ?_
      refine L_as (v := .bool false) rfl rfl ?_
      refine L_nil ?_
      refine W_ret ?_
      obtain rfl := so hF
      refine ret1 Try.results71 ?_
      exact ⟨rfl, hx⟩
    ·
      have hF := (ite_f hc15).symm.trans hF
      refine W_skip ?_
      refine W_seq ?_
      refine W_seq ?_
      obtain ⟨x16, hx16, hF⟩ := bind_some hF
      refine W_region ?_
      refine L_fa (o' := 2) rfl fa_68_2 rfl rfl ?_
      refine L_ld (v := v0_2) rfl Try.isAgg22 rfl (hb_g6.cell (j := 2) rfl) ?_
      refine L_fa (o' := 2) rfl fa_68_2 rfl rfl ?_
      refine L_ld (v := v1_2) rfl Try.isAgg22 rfl (hb_g8.cell (j := 2) rfl) ?_
      refine L_call (args := #[v0_2, v1_2]) rfl Try.call26 (ops2 rfl rfl) (l_eqIntS_c (a := a.coefs) (b := b.coefs) (Nat.le_trans hB hx.size) (rel0 h0_2) (rel0 h1_2) hx16) ?_
      rintro _ w18 ⟨rfl, he18⟩
      have h0_1 := RP.ext h0_1 he18
      have h0_2 := RP.ext h0_2 he18
      have h0_4 := RP.ext h0_4 he18
      have h1_1 := RP.ext h1_1 he18
      have h1_2 := RP.ext h1_2 he18
      have h1_4 := RP.ext h1_4 he18
      have hb_g6 := Blk.ext hb_g6 he18
      have hb_g8 := Blk.ext hb_g8 he18
      have hx := ext_trans hx he18
      refine L_not_ (b := x16) rfl rfl ?_
      refine L_nil ?_
      refine W_cond (b := (!x16)) rfl (fun hc19 => ?_) (fun hc19 => ?_)
      ·
        have hF := (ite_t hc19).symm.trans hF
        refine W_seq ?_
        refine W_region ?_
        refine L_as (v := .bool false) rfl rfl ?_
        refine L_nil ?_
        refine W_ret ?_
        obtain rfl := so hF
        refine ret1 Try.results71 ?_
        exact ⟨rfl, hx⟩
      ·
        have hF := (ite_f hc19).symm.trans hF
        refine W_skip ?_
        refine W_seq ?_
        refine W_seq ?_
        refine W_region ?_
        refine L_fa (o' := 3) rfl fa_68_3 rfl rfl ?_
        refine L_ld (v := .int .i64 a.bound) rfl Try.isAgg3 rfl (hb_g6.cell (j := 3) rfl) ?_
        refine L_fa (o' := 3) rfl fa_68_3 rfl rfl ?_
        refine L_ld (v := .int .i64 b.bound) rfl Try.isAgg3 rfl (hb_g8.cell (j := 3) rfl) ?_
        refine L_neq (m := a.bound) (n := b.bound) rfl rfl rfl ?_
        refine L_nil ?_
        refine W_cond (b := (a.bound != b.bound)) rfl (fun hc20 => ?_) (fun hc20 => ?_)
        ·
          have hF := (ite_t hc20).symm.trans hF
          refine W_seq ?_
          refine W_region ?_
          refine L_as (v := .bool false) rfl rfl ?_
          refine L_nil ?_
          refine W_ret ?_
          obtain rfl := so hF
          refine ret1 Try.results71 ?_
          exact ⟨rfl, hx⟩
        ·
          have hF := (ite_f hc20).symm.trans hF
          refine W_skip ?_
          refine W_seq ?_
          refine W_seq ?_
          obtain ⟨x21, hx21, hF⟩ := bind_some hF
          refine W_region ?_
          refine L_fa (o' := 4) rfl fa_68_4 rfl rfl ?_
          refine L_ld (v := v0_4) rfl Try.isAgg66 rfl (hb_g6.cell (j := 4) rfl) ?_
          refine L_fa (o' := 4) rfl fa_68_4 rfl rfl ?_
          refine L_ld (v := v1_4) rfl Try.isAgg66 rfl (hb_g8.cell (j := 4) rfl) ?_
          refine L_call (args := #[v0_4, v1_4]) rfl Try.call90 (ops2 rfl rfl) (l_eqIntSS_c (a := a.rows) (b := b.rows) (Nat.le_trans hB hx.size) (rel0 h0_4) (rel0 h1_4) hx21) ?_
          rintro _ w23 ⟨rfl, he23⟩
          have h0_4 := RP.ext h0_4 he23
          have h1_4 := RP.ext h1_4 he23
          have hx := ext_trans hx he23
          refine L_not_ (b := x21) rfl rfl ?_
          refine L_nil ?_
          refine W_cond (b := (!x21)) rfl (fun hc24 => ?_) (fun hc24 => ?_)
          ·
            have hF := (ite_t hc24).symm.trans hF
            refine W_seq ?_
            refine W_region ?_
            refine L_as (v := .bool false) rfl rfl ?_
            refine L_nil ?_
            refine W_ret ?_
            obtain rfl := so hF
            refine ret1 Try.results71 ?_
            exact ⟨rfl, hx⟩
          ·
            have hF := (ite_f hc24).symm.trans hF
            refine W_skip ?_
            refine W_seq ?_
            refine W_region ?_
            refine L_as (v := .bool true) rfl rfl ?_
            refine L_nil ?_
            refine W_ret ?_
            obtain rfl := so hF
            refine ret1 Try.results71 ?_
            exact ⟨rfl, hx⟩

theorem l_eqRuleS_c {a : List Rule} {b : List Rule} {v0 : Value} {v1 : Value} {w : World} {B : Nat} (hB : B ≤ w.heap.size) (h0 : (RP.slice 68 (rRule 3 22)).rel B w.heap.size w [v0] a) (h1 : (RP.slice 68 (rRule 3 22)).rel B w.heap.size w [v1] b) {r : Bool} (hF : l_eqRuleS a b = some r) :
    C Try.prog 50 #[v0, v1] w fun v w' => (v = .bool r) ∧ Ext w w' := by
  unfold l_eqRuleS at hF
  have hx := ext_refl w
  refine C_enter Try.func50 rfl Try.ntmps50 rfl ?_
  refine W_seq ?_
  refine W_region ?_
  refine L_as (v := .bool false) rfl rfl ?_
  refine L_nil ?_
  refine W_seq ?_
  refine W_seq ?_
  refine W_region ?_
  refine L_mv (v := v0) rfl rfl ?_
  refine L_len (v := v0) rfl Try.underlying28 rfl h0 ?_
  refine L_mv (v := v1) rfl rfl ?_
  refine L_len (v := v1) rfl Try.underlying28 rfl h1 ?_
  refine L_neq (m := (a.length : Int)) (n := (b.length : Int)) rfl rfl rfl ?_
  refine L_nil ?_
  refine W_cond (b := ((a.length : Int) != (b.length : Int))) rfl (fun hc1 => ?_) (fun hc1 => ?_)
  ·
    have hF := (ite_t hc1).symm.trans hF
    refine W_seq ?_
    refine W_region ?_
    refine L_as (v := .bool false) rfl rfl ?_
    refine L_nil ?_
    refine W_ret ?_
    obtain rfl := so hF
    refine ret1 Try.results50 ?_
    exact ⟨rfl, hx⟩
  ·
    have hF := (ite_f hc1).symm.trans hF
    refine W_skip ?_
    refine W_seq ?_
    refine W_seq ?_
    refine W_region ?_
    refine L_as (v := .int .i64 0) rfl rfl ?_
    refine L_nil ?_
    have hlen3 := len_le h0
    obtain ⟨j3, hL3, hF⟩ := bind_some hF
    obtain ⟨R3, hR3⟩ : ∃ R : Fr → World → Prop, R = fun f w_ => j3 = .nx () ∧ Ext w w_ := ⟨_, rfl⟩
    refine W_join R3 ?_ ?_
    ·
      refine W_block ?_
      obtain ⟨I3, hI3⟩ : ∃ I : Nat → Fr → World → Prop, I = fun n f w_ => ∃ i_2 : Nat, ∃ suf3 : List Rule, n = suf3.length ∧ List.drop i_2 a = suf3 ∧ i_2 + suf3.length = a.length ∧ rangeL (l_eqRuleS_b1 b) suf3 i_2 () = some j3 ∧ f 0 = v0 ∧ f 1 = v1 ∧ f 5 = .int .i64 (i_2 : Int) ∧ (RP.slice 68 (rRule 3 22)).rel B w.heap.size w_ [v0] a ∧ (RP.slice 68 (rRule 3 22)).rel B w.heap.size w_ [v1] b ∧ Ext w w_ := ⟨_, rfl⟩
      refine W_loop I3 (n := a.length) ?_ ?_
      · rw [hI3]; exact ⟨0, a, rfl, rfl, Nat.zero_add _, hL3, rfl, rfl, rfl, h0, h1, hx⟩
      ·
        intro n3 f w_ hI
        rw [hI3] at hI
        obtain ⟨i_2, suf3, rfl, hd3, hl3, hL3, sf0, sf1, sf5, h0, h1, hx⟩ := hI
        refine W_seq ?_
        refine W_seq ?_
        refine W_region ?_
        refine L_mv (v := .int .i64 (i_2 : Int)) rfl sf5 ?_
        refine L_mv (v := v0) rfl sf0 ?_
        refine L_len (v := v0) rfl Try.underlying28 rfl h0 ?_
        refine L_lss (m := (i_2 : Int)) (n := (a.length : Int)) rfl rfl rfl ?_
        refine L_nil ?_
        refine W_cond (b := decide ((i_2 : Int) < (a.length : Int))) rfl (fun hc4 => ?_) (fun hc4 => ?_)
        ·
          have hlt3 := of_decide_eq_true hc4
          cases suf3 with
          | nil => exact absurd hlt3 (by simp at hl3; omega)
          | cons x_3 rest3 =>
            obtain ⟨o3, hB3, hL3⟩ := range_cons hL3
            rw [l_eqRuleS_b1] at hB3
            have hix3 := drop_idx hd3
            refine W_skip ?_
            refine W_seq ?_
            refine W_block ?_
            refine W_seq ?_
            obtain ⟨x7, hx7, hB3⟩ := bind_some hB3
            obtain ⟨x10, hx10, hB3⟩ := bind_some hB3
            refine W_drawL 8 [isV (v0), isV (.int .i64 (i_2 : Int)), isEl B (rRule 3 22) x_3 0, exD (isData B (RP.slice 3 RP.int) x_3.vars) fun u_1 => exD (isData B (RP.slice 3 RP.int) x_3.coefs) fun u_2 => exD (isData B (RP.slice 22 (RP.slice 3 RP.int)) x_3.rows) fun u_4 => isV (.agg #[.int .i64 x_3.kind, u_1, u_2, .int .i64 x_3.bound, u_4]), isV (v1), isV (.int .i64 (i_2 : Int)), isEl B (rRule 3 22) x7 0, exD (isData B (RP.slice 3 RP.int) x7.vars) fun u_1 => exD (isData B (RP.slice 3 RP.int) x7.coefs) fun u_2 => exD (isData B (RP.slice 22 (RP.slice 3 RP.int)) x7.rows) fun u_4 => isV (.agg #[.int .i64 x7.kind, u_1, u_2, .int .i64 x7.bound, u_4])] Try_mix (by kernel_rfl) (am_cons (mono_V _) (am_cons (mono_V _) (am_cons (mono_el _ _ _ _) (am_cons (mono_exD (mono_data _ _ _) fun _ => mono_exD (mono_data _ _ _) fun _ => mono_exD (mono_data _ _ _) fun _ => mono_V _) (am_cons (mono_V _) (am_cons (mono_V _) (am_cons (mono_el _ _ _ _) (am_cons (mono_exD (mono_data _ _ _) fun _ => mono_exD (mono_data _ _ _) fun _ => mono_exD (mono_data _ _ _) fun _ => mono_V _) am_nil)))))))) ?_ (fun f w_ hS12 hE12 hT12 => ?_)
            ·
              refine ops_cons (fun f w_ hS12 hE12 hP12 => ?_) ?_
              ·
                have hx := ext_trans hx hE12
                have h0 := RP.ext h0 hE12
                refine L_mv (v := v0) rfl ((hS12 0 rfl).trans sf0) ?_
                exact L_nil ⟨rfl, (ext_refl _), _, _, rfl, rfl, rfl⟩
              refine ops_cons (fun f w_ hS12 hE12 hP12 => ?_) ?_
              ·
                have hx := ext_trans hx hE12
                refine L_mv (v := .int .i64 (i_2 : Int)) rfl ((hS12 5 rfl).trans sf5) ?_
                exact L_nil ⟨rfl, (ext_refl _), _, _, rfl, rfl, rfl⟩
              refine ops_cons (fun f w_ hS12 hE12 hP12 => ?_) ?_
              ·
                have hx := ext_trans hx hE12
                have h0 := RP.ext h0 hE12
                refine L_ix (r := (rRule 3 22)) rfl Try.underlying28 Try.sizeOf68 (hP12 0 17 rfl rfl) h0 (hP12 1 18 rfl rfl) hix3 ?_
                intro g17 o18 cs18 hr18 hat18
                obtain ⟨u18_0, u18_1, u18_2, rfl, hu18_0, hu18_1, hu18_2⟩ := rRule_iff.1 hr18
                exact L_nil ⟨rfl, (ext_refl _), _, _, rfl, rfl, ⟨_, _, _, rfl, (rel0 hr18), hat18⟩⟩
              refine ops_cons (fun f w_ hS12 hE12 hP12 => ?_) ?_
              ·
                have hx := ext_trans hx hE12
                obtain ⟨g19, o19, cs19, hv19, hr19, hat19⟩ := (hP12 2 19 rfl rfl)
                obtain ⟨u19_0, u19_1, u19_2, rfl, hu19_0, hu19_1, hu19_2⟩ := rRule_iff.1 hr19
                refine L_lda (cs := [.int .i64 x_3.kind, u19_0, u19_1, .int .i64 x_3.bound, u19_2]) rfl Try.isAgg68 Try.sizeOf68 hv19 (At.sub hat19 0 5) rfl ?_
                exact L_nil ⟨rfl, (ext_refl _), _, _, rfl, rfl, ⟨_, (rel0 hu19_0), _, (rel0 hu19_1), _, (rel0 hu19_2), rfl⟩⟩
              refine ops_cons (fun f w_ hS12 hE12 hP12 => ?_) ?_
              ·
                have hx := ext_trans hx hE12
                have h1 := RP.ext h1 hE12
                refine L_mv (v := v1) rfl ((hS12 1 rfl).trans sf1) ?_
                exact L_nil ⟨rfl, (ext_refl _), _, _, rfl, rfl, rfl⟩
              refine ops_cons (fun f w_ hS12 hE12 hP12 => ?_) ?_
              ·
                have hx := ext_trans hx hE12
                refine L_mv (v := .int .i64 (i_2 : Int)) rfl ((hS12 5 rfl).trans sf5) ?_
                exact L_nil ⟨rfl, (ext_refl _), _, _, rfl, rfl, rfl⟩
              refine ops_cons (fun f w_ hS12 hE12 hP12 => ?_) ?_
              ·
                have hx := ext_trans hx hE12
                have h1 := RP.ext h1 hE12
                refine L_ix (r := (rRule 3 22)) rfl Try.underlying28 Try.sizeOf68 (hP12 4 21 rfl rfl) h1 (hP12 5 22 rfl rfl) hx7 ?_
                intro g20 o21 cs21 hr21 hat21
                obtain ⟨u21_0, u21_1, u21_2, rfl, hu21_0, hu21_1, hu21_2⟩ := rRule_iff.1 hr21
                exact L_nil ⟨rfl, (ext_refl _), _, _, rfl, rfl, ⟨_, _, _, rfl, (rel0 hr21), hat21⟩⟩
              refine ops_cons (fun f w_ hS12 hE12 hP12 => ?_) ?_
              ·
                have hx := ext_trans hx hE12
                obtain ⟨g22, o22, cs22, hv22, hr22, hat22⟩ := (hP12 6 23 rfl rfl)
                obtain ⟨u22_0, u22_1, u22_2, rfl, hu22_0, hu22_1, hu22_2⟩ := rRule_iff.1 hr22
                refine L_lda (cs := [.int .i64 x7.kind, u22_0, u22_1, .int .i64 x7.bound, u22_2]) rfl Try.isAgg68 Try.sizeOf68 hv22 (At.sub hat22 0 5) rfl ?_
                exact L_nil ⟨rfl, (ext_refl _), _, _, rfl, rfl, ⟨_, (rel0 hu22_0), _, (rel0 hu22_1), _, (rel0 hu22_2), rfl⟩⟩
              exact ops_nil
            ·
              have h0 := RP.ext h0 hE12
              have h1 := RP.ext h1 hE12
              have hx := ext_trans hx hE12
              obtain ⟨u23_1, hu23_1, u23_2, hu23_2, u23_4, hu23_4, hv23⟩ := (hT12 3 20 rfl rfl)
              obtain ⟨u24_1, hu24_1, u24_2, hu24_2, u24_4, hu24_4, hv24⟩ := (hT12 7 24 rfl rfl)
              refine L_call (args := #[.agg #[.int .i64 x_3.kind, u23_1, u23_2, .int .i64 x_3.bound, u23_4], .agg #[.int .i64 x7.kind, u24_1, u24_2, .int .i64 x7.bound, u24_4]]) rfl Try.call71 (ops2 hv23 hv24) (l_eqRule_c (a := x_3) (b := x7) (Nat.le_trans hB hx.size) (rel0 hu23_1) (rel0 hu23_2) (rel0 hu23_4) (rel0 hu24_1) (rel0 hu24_2) (rel0 hu24_4) hx10) ?_
              rintro _ w25 ⟨rfl, he25⟩
              have h0 := RP.ext h0 he25
              have h1 := RP.ext h1 he25
              have hu23_1 := RP.ext hu23_1 he25
              have hu23_2 := RP.ext hu23_2 he25
              have hu23_4 := RP.ext hu23_4 he25
              have hu24_1 := RP.ext hu24_1 he25
              have hu24_2 := RP.ext hu24_2 he25
              have hu24_4 := RP.ext hu24_4 he25
              have hx := ext_trans hx he25
              refine L_not_ (b := x10) rfl rfl ?_
              refine L_nil ?_
              refine W_cond (b := (!x10)) rfl (fun hc26 => ?_) (fun hc26 => ?_)
              ·
                have hB3 := (ite_t hc26).symm.trans hB3
                refine W_seq ?_
                refine W_region ?_
                refine L_as (v := .bool false) rfl rfl ?_
                refine L_nil ?_
                refine W_ret ?_
                obtain rfl := so hB3
                obtain rfl := so hL3
                obtain rfl := so hF
                refine ret1 Try.results50 ?_
                exact ⟨rfl, hx⟩
              ·
                have hB3 := (ite_f hc26).symm.trans hB3
                refine W_skip ?_
                refine W_region ?_
                refine L_mv (v := .int .i64 (i_2 : Int)) rfl ((hS12 5 rfl).trans sf5) ?_
                refine L_add (m := (i_2 : Int)) (n := 1) rfl rfl rfl ?_
                refine L_as (v := .int .i64 (i64 ((i_2 : Int) + 1))) rfl rfl ?_
                refine L_nil ?_
                obtain rfl := so hB3
                show ∃ m, m < _ ∧ I3 m _ _
                refine ⟨rest3.length, by simp, ?_⟩
                rw [hI3]
                exact ⟨i_2 + 1, rest3, rfl, drop_next hd3, by simp at hl3; omega, hL3, ((hS12 0 rfl).trans sf0), ((hS12 1 rfl).trans sf1), (Eq.trans rfl (congrArg (Value.int .i64) (i64_succ (n := a.length) (by simp at hl3; omega) hlen3))), h0, h1, hx⟩
        ·
          cases suf3 with
          | cons _ _ => exact absurd (of_decide_eq_false hc4) (by simp at hl3; omega)
          | nil =>
            obtain rfl := range_nil hL3
            refine W_exit ?_
            show R3 _ _
            rw [hR3]
            exact ⟨rfl, hx⟩
    ·
      intro f w_ hR
      rw [hR3] at hR
      obtain ⟨rfl, hx⟩ := hR
      clear hR3
      refine W_seq ?_
      refine W_region ?_
      refine L_as (v := .bool true) rfl rfl ?_
      refine L_nil ?_
      refine W_ret ?_
      obtain rfl := so hF
      refine ret1 Try.results50 ?_
      exact ⟨rfl, hx⟩

theorem l_eqModel_c {a : Model} {b : Model} {v0_0 : Value} {v0_1 : Value} {v1_0 : Value} {v1_1 : Value} {w : World} {B : Nat} (hB : B ≤ w.heap.size) (h0_0 : (RP.slice 3 RP.int).rel B w.heap.size w [v0_0] a.sizes) (h0_1 : (RP.slice 68 (rRule 3 22)).rel B w.heap.size w [v0_1] a.rules) (h1_0 : (RP.slice 3 RP.int).rel B w.heap.size w [v1_0] b.sizes) (h1_1 : (RP.slice 68 (rRule 3 22)).rel B w.heap.size w [v1_1] b.rules) {r : Bool} (hF : l_eqModel a b = some r) :
    C Try.prog 15 #[.agg #[v0_0, v0_1], .agg #[v1_0, v1_1]] w fun v w' => (v = .bool r) ∧ Ext w w' := by
  unfold l_eqModel at hF
  have hx := ext_refl w
  refine C_enter Try.func15 rfl Try.ntmps15 rfl ?_
  refine W_seq ?_
  refine W_region ?_
  refine L_box (v := .agg #[v0_0, v0_1]) (cs := #[v0_0, v0_1]) rfl rfl rfl ?_
  intro g6 w7 hn7
  have hge_g6 := hn7.geS hx.size
  have hb_g6 := hn7.blk
  have h0_0 := RP.ext h0_0 hn7.ext
  have h0_1 := RP.ext h0_1 hn7.ext
  have h1_0 := RP.ext h1_0 hn7.ext
  have h1_1 := RP.ext h1_1 hn7.ext
  have hx := ext_trans hx hn7.ext
  refine L_box (v := .agg #[v1_0, v1_1]) (cs := #[v1_0, v1_1]) rfl rfl rfl ?_
  intro g8 w9 hn9
  have hge_g8 := hn9.geS hx.size
  have hb_g8 := hn9.blk
  have ap10 := ap_bb hb_g6 hn9
  have h0_0 := RP.ext h0_0 hn9.ext
  have h0_1 := RP.ext h0_1 hn9.ext
  have h1_0 := RP.ext h1_0 hn9.ext
  have h1_1 := RP.ext h1_1 hn9.ext
  have hb_g6 := Blk.ext hb_g6 hn9.ext
  have hx := ext_trans hx hn9.ext
  refine L_as (v := .bool false) rfl rfl ?_
  refine L_nil ?_
  refine W_seq ?_
  refine W_seq ?_
  obtain ⟨x11, hx11, hF⟩ := bind_some hF
  refine W_region ?_
  refine L_fa (o' := 0) rfl fa_30_0 rfl rfl ?_
  refine L_ld (v := v0_0) rfl Try.isAgg22 rfl (hb_g6.cell (j := 0) rfl) ?_
  refine L_fa (o' := 0) rfl fa_30_0 rfl rfl ?_
  refine L_ld (v := v1_0) rfl Try.isAgg22 rfl (hb_g8.cell (j := 0) rfl) ?_
  refine L_call (args := #[v0_0, v1_0]) rfl Try.call26 (ops2 rfl rfl) (l_eqIntS_c (a := a.sizes) (b := b.sizes) (Nat.le_trans hB hx.size) (rel0 h0_0) (rel0 h1_0) hx11) ?_
  rintro _ w13 ⟨rfl, he13⟩
  have h0_0 := RP.ext h0_0 he13
  have h0_1 := RP.ext h0_1 he13
  have h1_0 := RP.ext h1_0 he13
  have h1_1 := RP.ext h1_1 he13
  have hb_g6 := Blk.ext hb_g6 he13
  have hb_g8 := Blk.ext hb_g8 he13
  have hx := ext_trans hx he13
  refine L_not_ (b := x11) rfl rfl ?_
  refine L_nil ?_
  refine W_cond (b := (!x11)) rfl (fun hc14 => ?_) (fun hc14 => ?_)
  ·
    have hF := (ite_t hc14).symm.trans hF
    refine W_seq ?_
    refine W_region ?_
    refine L_as (v := .bool false) rfl rfl ?_
    refine L_nil ?_
    refine W_ret ?_
    obtain rfl := so hF
    refine ret1 Try.results15 ?_
    exact ⟨rfl, hx⟩
  ·
    have hF := (ite_f hc14).symm.trans hF
    refine W_skip ?_
    refine W_seq ?_
    refine W_seq ?_
    obtain ⟨x15, hx15, hF⟩ := bind_some hF
    refine W_region ?_
    refine L_fa (o' := 1) rfl fa_30_1 rfl rfl ?_
    refine L_ld (v := v0_1) rfl Try.isAgg28 rfl (hb_g6.cell (j := 1) rfl) ?_
    refine L_fa (o' := 1) rfl fa_30_1 rfl rfl ?_
    refine L_ld (v := v1_1) rfl Try.isAgg28 rfl (hb_g8.cell (j := 1) rfl) ?_
    refine L_call (args := #[v0_1, v1_1]) rfl Try.call50 (ops2 rfl rfl) (l_eqRuleS_c (a := a.rules) (b := b.rules) (Nat.le_trans hB hx.size) (rel0 h0_1) (rel0 h1_1) hx15) ?_
    rintro _ w17 ⟨rfl, he17⟩
    have h0_1 := RP.ext h0_1 he17
    have h1_1 := RP.ext h1_1 he17
    have hx := ext_trans hx he17
    refine L_not_ (b := x15) rfl rfl ?_
    refine L_nil ?_
    refine W_cond (b := (!x15)) rfl (fun hc18 => ?_) (fun hc18 => ?_)
    ·
      have hF := (ite_t hc18).symm.trans hF
      refine W_seq ?_
      refine W_region ?_
      refine L_as (v := .bool false) rfl rfl ?_
      refine L_nil ?_
      refine W_ret ?_
      obtain rfl := so hF
      refine ret1 Try.results15 ?_
      exact ⟨rfl, hx⟩
    ·
      have hF := (ite_f hc18).symm.trans hF
      refine W_skip ?_
      refine W_seq ?_
      refine W_region ?_
      refine L_as (v := .bool true) rfl rfl ?_
      refine L_nil ?_
      refine W_ret ?_
      obtain rfl := so hF
      refine ret1 Try.results15 ?_
      exact ⟨rfl, hx⟩

theorem s_l6Ints_c {a : List Int} {b : List Int} {v0 : Value} {v1 : Value} {w : World} {B : Nat} (hB : B ≤ w.heap.size) (h0 : (RP.slice 3 RP.int).rel B w.heap.size w [v0] a) (h1 : (RP.slice 3 RP.int).rel B w.heap.size w [v1] b) {r : Bool} (hF : s_l6Ints a b = some r) :
    C Try.prog 73 #[v0, v1] w fun v w' => (v = .bool r) ∧ Ext w w' := by
  unfold s_l6Ints at hF
  have hx := ext_refl w
  refine C_enter Try.func73 rfl Try.ntmps73 rfl ?_
  refine W_seq ?_
  refine W_region ?_
  refine L_as (v := .bool false) rfl rfl ?_
  refine L_nil ?_
  refine W_seq ?_
  refine W_seq ?_
  refine W_region ?_
  refine L_mv (v := v0) rfl rfl ?_
  refine L_len (v := v0) rfl Try.underlying22 rfl h0 ?_
  refine L_mv (v := v1) rfl rfl ?_
  refine L_len (v := v1) rfl Try.underlying22 rfl h1 ?_
  refine L_neq (m := (a.length : Int)) (n := (b.length : Int)) rfl rfl rfl ?_
  refine L_nil ?_
  refine W_cond (b := ((a.length : Int) != (b.length : Int))) rfl (fun hc1 => ?_) (fun hc1 => ?_)
  ·
    have hF := (ite_t hc1).symm.trans hF
    refine W_seq ?_
    refine W_region ?_
    refine L_as (v := .bool false) rfl rfl ?_
    refine L_nil ?_
    refine W_ret ?_
    obtain rfl := so hF
    refine ret1 Try.results73 ?_
    exact ⟨rfl, hx⟩
  ·
    have hF := (ite_f hc1).symm.trans hF
    refine W_skip ?_
    refine W_seq ?_
    refine W_seq ?_
    refine W_region ?_
    refine L_as (v := .int .i64 0) rfl rfl ?_
    refine L_nil ?_
    have hlen3 := len_le h0
    obtain ⟨j3, hL3, hF⟩ := bind_some hF
    obtain ⟨R3, hR3⟩ : ∃ R : Fr → World → Prop, R = fun f w_ => j3 = .nx () ∧ Ext w w_ := ⟨_, rfl⟩
    refine W_join R3 ?_ ?_
    ·
      refine W_block ?_
      obtain ⟨I3, hI3⟩ : ∃ I : Nat → Fr → World → Prop, I = fun n f w_ => ∃ i_2 : Nat, ∃ suf3 : List Int, n = suf3.length ∧ List.drop i_2 a = suf3 ∧ i_2 + suf3.length = a.length ∧ rangeL (s_l6Ints_b1 b) suf3 i_2 () = some j3 ∧ f 0 = v0 ∧ f 1 = v1 ∧ f 5 = .int .i64 (i_2 : Int) ∧ (RP.slice 3 RP.int).rel B w.heap.size w_ [v0] a ∧ (RP.slice 3 RP.int).rel B w.heap.size w_ [v1] b ∧ Ext w w_ := ⟨_, rfl⟩
      refine W_loop I3 (n := a.length) ?_ ?_
      · rw [hI3]; exact ⟨0, a, rfl, rfl, Nat.zero_add _, hL3, rfl, rfl, rfl, h0, h1, hx⟩
      ·
        intro n3 f w_ hI
        rw [hI3] at hI
        obtain ⟨i_2, suf3, rfl, hd3, hl3, hL3, sf0, sf1, sf5, h0, h1, hx⟩ := hI
        refine W_seq ?_
        refine W_seq ?_
        refine W_region ?_
        refine L_mv (v := .int .i64 (i_2 : Int)) rfl sf5 ?_
        refine L_mv (v := v0) rfl sf0 ?_
        refine L_len (v := v0) rfl Try.underlying22 rfl h0 ?_
        refine L_lss (m := (i_2 : Int)) (n := (a.length : Int)) rfl rfl rfl ?_
        refine L_nil ?_
        refine W_cond (b := decide ((i_2 : Int) < (a.length : Int))) rfl (fun hc4 => ?_) (fun hc4 => ?_)
        ·
          have hlt3 := of_decide_eq_true hc4
          cases suf3 with
          | nil => exact absurd hlt3 (by simp at hl3; omega)
          | cons x_3 rest3 =>
            obtain ⟨o3, hB3, hL3⟩ := range_cons hL3
            rw [s_l6Ints_b1] at hB3
            have hix3 := drop_idx hd3
            refine W_skip ?_
            refine W_seq ?_
            refine W_block ?_
            refine W_seq ?_
            obtain ⟨x7, hx7, hB3⟩ := bind_some hB3
            refine W_drawL 8 [isV (v0), isV (.int .i64 (i_2 : Int)), isEl B RP.int x_3 0, isV (.int .i64 x_3), isV (v1), isV (.int .i64 (i_2 : Int)), isEl B RP.int x7 0, isV (.int .i64 x7)] Try_mix (by kernel_rfl) (am_cons (mono_V _) (am_cons (mono_V _) (am_cons (mono_el _ _ _ _) (am_cons (mono_V _) (am_cons (mono_V _) (am_cons (mono_V _) (am_cons (mono_el _ _ _ _) (am_cons (mono_V _) am_nil)))))))) ?_ (fun f w_ hS10 hE10 hT10 => ?_)
            ·
              refine ops_cons (fun f w_ hS10 hE10 hP10 => ?_) ?_
              ·
                have hx := ext_trans hx hE10
                have h0 := RP.ext h0 hE10
                refine L_mv (v := v0) rfl ((hS10 0 rfl).trans sf0) ?_
                exact L_nil ⟨rfl, (ext_refl _), _, _, rfl, rfl, rfl⟩
              refine ops_cons (fun f w_ hS10 hE10 hP10 => ?_) ?_
              ·
                have hx := ext_trans hx hE10
                refine L_mv (v := .int .i64 (i_2 : Int)) rfl ((hS10 5 rfl).trans sf5) ?_
                exact L_nil ⟨rfl, (ext_refl _), _, _, rfl, rfl, rfl⟩
              refine ops_cons (fun f w_ hS10 hE10 hP10 => ?_) ?_
              ·
                have hx := ext_trans hx hE10
                have h0 := RP.ext h0 hE10
                refine L_ix (r := RP.int) rfl Try.underlying22 Try.sizeOf3 (hP10 0 17 rfl rfl) h0 (hP10 1 18 rfl rfl) hix3 ?_
                intro g15 o16 cs16 hr16 hat16
                obtain rfl : _ = [_] := hr16
                exact L_nil ⟨rfl, (ext_refl _), _, _, rfl, rfl, ⟨_, _, _, rfl, rfl, hat16⟩⟩
              refine ops_cons (fun f w_ hS10 hE10 hP10 => ?_) ?_
              ·
                have hx := ext_trans hx hE10
                obtain ⟨g17, o17, cs17, hv17, hr17, hat17⟩ := (hP10 2 19 rfl rfl)
                obtain rfl : _ = [_] := hr17
                refine L_ld (v := .int .i64 x_3) rfl Try.isAgg3 hv17 (hat17.cell (j := 0) rfl) ?_
                exact L_nil ⟨rfl, (ext_refl _), _, _, rfl, rfl, rfl⟩
              refine ops_cons (fun f w_ hS10 hE10 hP10 => ?_) ?_
              ·
                have hx := ext_trans hx hE10
                have h1 := RP.ext h1 hE10
                refine L_mv (v := v1) rfl ((hS10 1 rfl).trans sf1) ?_
                exact L_nil ⟨rfl, (ext_refl _), _, _, rfl, rfl, rfl⟩
              refine ops_cons (fun f w_ hS10 hE10 hP10 => ?_) ?_
              ·
                have hx := ext_trans hx hE10
                refine L_mv (v := .int .i64 (i_2 : Int)) rfl ((hS10 5 rfl).trans sf5) ?_
                exact L_nil ⟨rfl, (ext_refl _), _, _, rfl, rfl, rfl⟩
              refine ops_cons (fun f w_ hS10 hE10 hP10 => ?_) ?_
              ·
                have hx := ext_trans hx hE10
                have h1 := RP.ext h1 hE10
                refine L_ix (r := RP.int) rfl Try.underlying22 Try.sizeOf3 (hP10 4 21 rfl rfl) h1 (hP10 5 22 rfl rfl) hx7 ?_
                intro g18 o19 cs19 hr19 hat19
                obtain rfl : _ = [_] := hr19
                exact L_nil ⟨rfl, (ext_refl _), _, _, rfl, rfl, ⟨_, _, _, rfl, rfl, hat19⟩⟩
              refine ops_cons (fun f w_ hS10 hE10 hP10 => ?_) ?_
              ·
                have hx := ext_trans hx hE10
                obtain ⟨g20, o20, cs20, hv20, hr20, hat20⟩ := (hP10 6 23 rfl rfl)
                obtain rfl : _ = [_] := hr20
                refine L_ld (v := .int .i64 x7) rfl Try.isAgg3 hv20 (hat20.cell (j := 0) rfl) ?_
                exact L_nil ⟨rfl, (ext_refl _), _, _, rfl, rfl, rfl⟩
              exact ops_nil
            ·
              have h0 := RP.ext h0 hE10
              have h1 := RP.ext h1 hE10
              have hx := ext_trans hx hE10
              refine L_neq (m := x_3) (n := x7) rfl (hT10 3 20 rfl rfl) (hT10 7 24 rfl rfl) ?_
              refine L_nil ?_
              refine W_cond (b := (x_3 != x7)) rfl (fun hc21 => ?_) (fun hc21 => ?_)
              ·
                have hB3 := (ite_t hc21).symm.trans hB3
                refine W_seq ?_
                refine W_region ?_
                refine L_as (v := .bool false) rfl rfl ?_
                refine L_nil ?_
                refine W_ret ?_
                obtain rfl := so hB3
                obtain rfl := so hL3
                obtain rfl := so hF
                refine ret1 Try.results73 ?_
                exact ⟨rfl, hx⟩
              ·
                have hB3 := (ite_f hc21).symm.trans hB3
                refine W_skip ?_
                refine W_region ?_
                refine L_mv (v := .int .i64 (i_2 : Int)) rfl ((hS10 5 rfl).trans sf5) ?_
                refine L_add (m := (i_2 : Int)) (n := 1) rfl rfl rfl ?_
                refine L_as (v := .int .i64 (i64 ((i_2 : Int) + 1))) rfl rfl ?_
                refine L_nil ?_
                obtain rfl := so hB3
                show ∃ m, m < _ ∧ I3 m _ _
                refine ⟨rest3.length, by simp, ?_⟩
                rw [hI3]
                exact ⟨i_2 + 1, rest3, rfl, drop_next hd3, by simp at hl3; omega, hL3, ((hS10 0 rfl).trans sf0), ((hS10 1 rfl).trans sf1), (Eq.trans rfl (congrArg (Value.int .i64) (i64_succ (n := a.length) (by simp at hl3; omega) hlen3))), h0, h1, hx⟩
        ·
          cases suf3 with
          | cons _ _ => exact absurd (of_decide_eq_false hc4) (by simp at hl3; omega)
          | nil =>
            obtain rfl := range_nil hL3
            refine W_exit ?_
            show R3 _ _
            rw [hR3]
            exact ⟨rfl, hx⟩
    ·
      intro f w_ hR
      rw [hR3] at hR
      obtain ⟨rfl, hx⟩ := hR
      clear hR3
      refine W_seq ?_
      refine W_region ?_
      refine L_as (v := .bool true) rfl rfl ?_
      refine L_nil ?_
      refine W_ret ?_
      obtain rfl := so hF
      refine ret1 Try.results73 ?_
      exact ⟨rfl, hx⟩

theorem s_l6Holds_c {r_ : Rule} {cells : List Int} {v0_1 : Value} {v0_2 : Value} {v0_4 : Value} {v1 : Value} {w : World} {B : Nat} (hB : B ≤ w.heap.size) (h0_1 : (RP.slice 3 RP.int).rel B w.heap.size w [v0_1] r_.vars) (h0_2 : (RP.slice 3 RP.int).rel B w.heap.size w [v0_2] r_.coefs) (h0_4 : (RP.slice 22 (RP.slice 3 RP.int)).rel B w.heap.size w [v0_4] r_.rows) (h1 : (RP.slice 3 RP.int).rel B w.heap.size w [v1] cells) {r : Bool} (hF : s_l6Holds r_ cells = some r) :
    C Try.prog 54 #[.agg #[.int .i64 r_.kind, v0_1, v0_2, .int .i64 r_.bound, v0_4], v1] w fun v w' => (v = .bool r) ∧ Ext w w' := by
  unfold s_l6Holds at hF
  have hx := ext_refl w
  refine C_enter Try.func54 rfl Try.ntmps54 rfl ?_
  refine W_seq ?_
  refine W_region ?_
  refine L_box (v := .agg #[.int .i64 r_.kind, v0_1, v0_2, .int .i64 r_.bound, v0_4]) (cs := #[.int .i64 r_.kind, v0_1, v0_2, .int .i64 r_.bound, v0_4]) rfl rfl rfl ?_
  intro g3 w4 hn4
  have hge_g3 := hn4.geS hx.size
  have hb_g3 := hn4.blk
  have h0_1 := RP.ext h0_1 hn4.ext
  have h0_2 := RP.ext h0_2 hn4.ext
  have h0_4 := RP.ext h0_4 hn4.ext
  have h1 := RP.ext h1 hn4.ext
  have hx := ext_trans hx hn4.ext
  refine L_as (v := .bool false) rfl rfl ?_
  refine L_nil ?_
  refine W_seq ?_
  refine W_region ?_
  refine L_bs rfl parts0 (bs_22_0  ) ?_
  intro g7 w8 hn8
  have ho8 : Own RP.int 3 w.heap.size B w8 _ _ := own_new0 hn8 hx.size
  have hz8 := zero_new hn8 hx.size
  have h0_1 := RP.ext h0_1 hn8.ext
  have h0_2 := RP.ext h0_2 hn8.ext
  have h0_4 := RP.ext h0_4 hn8.ext
  have h1 := RP.ext h1 hn8.ext
  have hb_g3 := Blk.ext hb_g3 hn8.ext
  have hx := ext_trans hx hn8.ext
  refine L_as (v := (.slice (some ⟨g7, 0, none⟩) 0 0)) rfl rfl ?_
  refine L_nil ?_
  refine W_seq ?_
  refine W_seq ?_
  refine W_region ?_
  refine L_as (v := .int .i64 0) rfl rfl ?_
  refine L_nil ?_
  have hlen11 := len_le h0_1
  obtain ⟨j11, hL11, hF⟩ := bind_some hF
  obtain ⟨R11, hR11⟩ : ∃ R : Fr → World → Prop, R = fun f w_ => ∃ list_10 : List Int, ∃ v10_list : Value, j11 = .nx list_10 ∧ f 2 = .pointer (some ⟨g3, 0, none⟩) ∧ f 5 = v10_list ∧ Own RP.int 3 w.heap.size B w_ v10_list list_10 ∧ (RP.slice 3 RP.int).rel B w.heap.size w_ [v0_1] r_.vars ∧ (RP.slice 3 RP.int).rel B w.heap.size w_ [v0_2] r_.coefs ∧ (RP.slice 22 (RP.slice 3 RP.int)).rel B w.heap.size w_ [v0_4] r_.rows ∧ Blk w_ g3 68 #[.int .i64 r_.kind, v0_1, v0_2, .int .i64 r_.bound, v0_4] ∧ Ext w w_ := ⟨_, rfl⟩
  refine W_join R11 ?_ ?_
  ·
    refine W_block ?_
    obtain ⟨I11, hI11⟩ : ∃ I : Nat → Fr → World → Prop, I = fun n f w_ => ∃ i_9 : Nat, ∃ suf11 : List Int, ∃ list_10 : List Int, ∃ v10_list : Value, n = suf11.length ∧ List.drop i_9 r_.vars = suf11 ∧ i_9 + suf11.length = r_.vars.length ∧ rangeL (s_l6Holds_b1 cells) suf11 i_9 list_10 = some j11 ∧ f 1 = v1 ∧ f 2 = .pointer (some ⟨g3, 0, none⟩) ∧ f 5 = v10_list ∧ f 6 = .int .i64 (i_9 : Int) ∧ (RP.slice 3 RP.int).rel B w.heap.size w_ [v1] cells ∧ Own RP.int 3 w.heap.size B w_ v10_list list_10 ∧ (RP.slice 3 RP.int).rel B w.heap.size w_ [v0_1] r_.vars ∧ (RP.slice 3 RP.int).rel B w.heap.size w_ [v0_2] r_.coefs ∧ (RP.slice 22 (RP.slice 3 RP.int)).rel B w.heap.size w_ [v0_4] r_.rows ∧ Blk w_ g3 68 #[.int .i64 r_.kind, v0_1, v0_2, .int .i64 r_.bound, v0_4] ∧ Ext w w_ := ⟨_, rfl⟩
    refine W_loop I11 (n := r_.vars.length) ?_ ?_
    · rw [hI11]; exact ⟨0, r_.vars, [], (.slice (some ⟨g7, 0, none⟩) 0 0), rfl, rfl, Nat.zero_add _, hL11, rfl, rfl, rfl, rfl, h1, ho8, h0_1, h0_2, h0_4, hb_g3, hx⟩
    ·
      intro n11 f w_ hI
      rw [hI11] at hI
      obtain ⟨i_9, suf11, list_10, v10_list, rfl, hd11, hl11, hL11, sf1, sf2, sf5, sf6, h1, hv10_list, h0_1, h0_2, h0_4, hb_g3, hx⟩ := hI
      refine W_seq ?_
      refine W_seq ?_
      refine W_region ?_
      refine L_mv (v := .int .i64 (i_9 : Int)) rfl sf6 ?_
      refine L_fa (o' := 1) rfl fa_68_1 sf2 rfl ?_
      refine L_ld (v := v0_1) rfl Try.isAgg22 rfl (hb_g3.cell (j := 1) rfl) ?_
      refine L_len (v := v0_1) rfl Try.underlying22 rfl h0_1 ?_
      refine L_lss (m := (i_9 : Int)) (n := (r_.vars.length : Int)) rfl rfl rfl ?_
      refine L_nil ?_
      refine W_cond (b := decide ((i_9 : Int) < (r_.vars.length : Int))) rfl (fun hc12 => ?_) (fun hc12 => ?_)
      ·
        have hlt11 := of_decide_eq_true hc12
        cases suf11 with
        | nil => exact absurd hlt11 (by simp at hl11; omega)
        | cons x_11 rest11 =>
          obtain ⟨o11, hB11, hL11⟩ := range_cons hL11
          rw [s_l6Holds_b1] at hB11
          have hix11 := drop_idx hd11
          refine W_skip ?_
          refine W_seq ?_
          refine W_block ?_
          obtain ⟨x15, hx15, hB11⟩ := bind_some hB11
          obtain ⟨x21, hx21, hB11⟩ := bind_some hB11
          refine W_region ?_
          refine L_mv (v := v10_list) rfl sf5 ?_
          refine L_mv (v := v1) rfl sf1 ?_
          refine L_fa (o' := 1) rfl fa_68_1 sf2 rfl ?_
          refine L_ld (v := v0_1) rfl Try.isAgg22 rfl (hb_g3.cell (j := 1) rfl) ?_
          refine L_mv (v := .int .i64 (i_9 : Int)) rfl sf6 ?_
          refine L_ix (r := RP.int) rfl Try.underlying22 Try.sizeOf3 rfl h0_1 rfl hix11 ?_
          intro g24 o25 cs25 hr25 hat25
          obtain rfl : _ = [_] := hr25
          refine L_ld (v := .int .i64 x_11) rfl Try.isAgg3 rfl (hat25.cell (j := 0) rfl) ?_
          refine L_ix (r := RP.int) rfl Try.underlying22 Try.sizeOf3 rfl h1 rfl hx15 ?_
          intro g26 o27 cs27 hr27 hat27
          obtain rfl : _ = [_] := hr27
          refine L_ld (v := .int .i64 x15) rfl Try.isAgg3 rfl (hat27.cell (j := 0) rfl) ?_
          refine L_bs rfl (parts1 rfl) (bs_22_1_0 (.int .i64 x15) rfl) ?_
          intro g28 w29 hn29
          have ho29 : Own RP.int 3 w.heap.size B w29 _ [x15] := own_new1 hn29 hx.size rfl
          have ap30 := ap_ob hv10_list hn29
          have h1 := RP.ext h1 hn29.ext
          have hv10_list := Own.ext hv10_list hn29.ext
          have h0_1 := RP.ext h0_1 hn29.ext
          have h0_2 := RP.ext h0_2 hn29.ext
          have h0_4 := RP.ext h0_4 hn29.ext
          have hb_g3 := Blk.ext hb_g3 hn29.ext
          have hx := ext_trans hx hn29.ext
          refine L_app (v := v10_list) (u := (.slice (some ⟨g28, 0, none⟩) 1 1)) rfl et_22 (by decide) rfl rfl hv10_list (rel0 (Own.rel ho29)) hx21 hx.size hB ?_
          intro v31 w31 ho31 hm31 hb31
          have h1 := hm31.rel_lo h1 (Nat.le_refl _)
          have h0_1 := hm31.rel_lo h0_1 (Nat.le_refl _)
          have h0_2 := hm31.rel_lo h0_2 (Nat.le_refl _)
          have h0_4 := hm31.rel_lo h0_4 (Nat.le_refl _)
          have hb_g3 := hm31.blk hb_g3 (by decide)
          have hx := ext_mut hx hm31 (Nat.le_refl _)
          refine L_as (v := v31) rfl rfl ?_
          refine L_nil ?_
          refine W_region ?_
          refine L_mv (v := .int .i64 (i_9 : Int)) rfl sf6 ?_
          refine L_add (m := (i_9 : Int)) (n := 1) rfl rfl rfl ?_
          refine L_as (v := .int .i64 (i64 ((i_9 : Int) + 1))) rfl rfl ?_
          refine L_nil ?_
          obtain rfl := so hB11
          show ∃ m, m < _ ∧ I11 m _ _
          refine ⟨rest11.length, by simp, ?_⟩
          rw [hI11]
          exact ⟨i_9 + 1, rest11, x21, v31, rfl, drop_next hd11, by simp at hl11; omega, hL11, sf1, sf2, rfl, (Eq.trans rfl (congrArg (Value.int .i64) (i64_succ (n := r_.vars.length) (by simp at hl11; omega) hlen11))), h1, ho31, h0_1, h0_2, h0_4, hb_g3, hx⟩
      ·
        cases suf11 with
        | cons _ _ => exact absurd (of_decide_eq_false hc12) (by simp at hl11; omega)
        | nil =>
          obtain rfl := range_nil hL11
          refine W_exit ?_
          show R11 _ _
          rw [hR11]
          exact ⟨list_10, v10_list, rfl, sf2, sf5, hv10_list, h0_1, h0_2, h0_4, hb_g3, hx⟩
  ·
    intro f w_ hR
    rw [hR11] at hR
    obtain ⟨list_10, v10_list, rfl, sf2, sf5, hv10_list, h0_1, h0_2, h0_4, hb_g3, hx⟩ := hR
    clear hR11
    refine W_seq ?_
    refine W_seq ?_
    refine W_region ?_
    refine L_fa (o' := 0) rfl fa_68_0 sf2 rfl ?_
    refine L_ld (v := .int .i64 r_.kind) rfl Try.isAgg3 rfl (hb_g3.cell (j := 0) rfl) ?_
    refine L_nil ?_
    refine W_block ?_
    refine W_seq ?_
    refine W_region ?_
    refine L_eql (m := r_.kind) (n := 1) rfl rfl rfl ?_
    refine L_as (v := .bool (r_.kind == 1)) rfl rfl ?_
    refine L_nil ?_
    refine W_cond (b := (r_.kind == 1)) rfl (fun hc32 => ?_) (fun hc32 => ?_)
    ·
      have hF := (ite_t hc32).symm.trans hF
      refine W_seq ?_
      refine W_region ?_
      refine L_as (v := .int .i64 0) rfl rfl ?_
      refine L_nil ?_
      refine W_seq ?_
      refine W_seq ?_
      refine W_region ?_
      refine L_as (v := .int .i64 0) rfl rfl ?_
      refine L_nil ?_
      have hlen35 := len_le (Own.rel hv10_list)
      obtain ⟨j35, hL35, hF⟩ := bind_some hF
      obtain ⟨R35, hR35⟩ : ∃ R : Fr → World → Prop, R = fun f w_ => ∃ n_34 : Int, j35 = .nx n_34 ∧ f 2 = .pointer (some ⟨g3, 0, none⟩) ∧ f 7 = .int .i64 n_34 ∧ (RP.slice 3 RP.int).rel B w.heap.size w_ [v0_1] r_.vars ∧ (RP.slice 3 RP.int).rel B w.heap.size w_ [v0_2] r_.coefs ∧ (RP.slice 22 (RP.slice 3 RP.int)).rel B w.heap.size w_ [v0_4] r_.rows ∧ Blk w_ g3 68 #[.int .i64 r_.kind, v0_1, v0_2, .int .i64 r_.bound, v0_4] ∧ Ext w w_ := ⟨_, rfl⟩
      refine W_join R35 ?_ ?_
      ·
        refine W_block ?_
        obtain ⟨I35, hI35⟩ : ∃ I : Nat → Fr → World → Prop, I = fun n f w_ => ∃ i_33 : Nat, ∃ suf35 : List Int, ∃ n_34 : Int, n = suf35.length ∧ List.drop i_33 list_10 = suf35 ∧ i_33 + suf35.length = list_10.length ∧ rangeL (s_l6Holds_b2 r_) suf35 i_33 n_34 = some j35 ∧ f 2 = .pointer (some ⟨g3, 0, none⟩) ∧ f 5 = v10_list ∧ f 7 = .int .i64 n_34 ∧ f 8 = .int .i64 (i_33 : Int) ∧ Own RP.int 3 w.heap.size B w_ v10_list list_10 ∧ (RP.slice 3 RP.int).rel B w.heap.size w_ [v0_1] r_.vars ∧ (RP.slice 3 RP.int).rel B w.heap.size w_ [v0_2] r_.coefs ∧ (RP.slice 22 (RP.slice 3 RP.int)).rel B w.heap.size w_ [v0_4] r_.rows ∧ Blk w_ g3 68 #[.int .i64 r_.kind, v0_1, v0_2, .int .i64 r_.bound, v0_4] ∧ Ext w w_ := ⟨_, rfl⟩
        refine W_loop I35 (n := list_10.length) ?_ ?_
        · rw [hI35]; exact ⟨0, list_10, 0, rfl, rfl, Nat.zero_add _, hL35, sf2, sf5, rfl, rfl, hv10_list, h0_1, h0_2, h0_4, hb_g3, hx⟩
        ·
          intro n35 f w_ hI
          rw [hI35] at hI
          obtain ⟨i_33, suf35, n_34, rfl, hd35, hl35, hL35, sf2, sf5, sf7, sf8, hv10_list, h0_1, h0_2, h0_4, hb_g3, hx⟩ := hI
          refine W_seq ?_
          refine W_seq ?_
          refine W_region ?_
          refine L_mv (v := .int .i64 (i_33 : Int)) rfl sf8 ?_
          refine L_mv (v := v10_list) rfl sf5 ?_
          refine L_len (v := v10_list) rfl Try.underlying22 rfl (Own.rel hv10_list) ?_
          refine L_lss (m := (i_33 : Int)) (n := (list_10.length : Int)) rfl rfl rfl ?_
          refine L_nil ?_
          refine W_cond (b := decide ((i_33 : Int) < (list_10.length : Int))) rfl (fun hc36 => ?_) (fun hc36 => ?_)
          ·
            have hlt35 := of_decide_eq_true hc36
            cases suf35 with
            | nil => exact absurd hlt35 (by simp at hl35; omega)
            | cons x_35 rest35 =>
              obtain ⟨o35, hB35, hL35⟩ := range_cons hL35
              rw [s_l6Holds_b2] at hB35
              have hix35 := drop_idx hd35
              refine W_skip ?_
              refine W_seq ?_
              refine W_block ?_
              obtain ⟨x37, hx37, hB35⟩ := bind_some hB35
              refine W_drawL 11 [isV (.int .i64 n_34), isV (.pointer (some ⟨g3, 2, none⟩)), isV (v0_2), isV (.int .i64 (i_33 : Int)), isEl B RP.int x37 0, isV (.int .i64 x37), isV (v10_list), isV (.int .i64 (i_33 : Int)), isEl B RP.int x_35 0, isV (.int .i64 x_35), isV (.int .i64 (i64 (x37 * x_35)))] Try_mix (by kernel_rfl) (am_cons (mono_V _) (am_cons (mono_V _) (am_cons (mono_V _) (am_cons (mono_V _) (am_cons (mono_el _ _ _ _) (am_cons (mono_V _) (am_cons (mono_V _) (am_cons (mono_V _) (am_cons (mono_el _ _ _ _) (am_cons (mono_V _) (am_cons (mono_V _) am_nil))))))))))) ?_ (fun f w_ hS42 hE42 hT42 => ?_)
              ·
                refine ops_cons (fun f w_ hS42 hE42 hP42 => ?_) ?_
                ·
                  have hx := ext_trans hx hE42
                  refine L_mv (v := .int .i64 n_34) rfl ((hS42 7 rfl).trans sf7) ?_
                  exact L_nil ⟨rfl, (ext_refl _), _, _, rfl, rfl, rfl⟩
                refine ops_cons (fun f w_ hS42 hE42 hP42 => ?_) ?_
                ·
                  have hx := ext_trans hx hE42
                  have h0_1 := RP.ext h0_1 hE42
                  have h0_2 := RP.ext h0_2 hE42
                  have h0_4 := RP.ext h0_4 hE42
                  have hb_g3 := Blk.ext hb_g3 hE42
                  refine L_fa (o' := 2) rfl fa_68_2 ((hS42 2 rfl).trans sf2) rfl ?_
                  exact L_nil ⟨rfl, (ext_refl _), _, _, rfl, rfl, rfl⟩
                refine ops_cons (fun f w_ hS42 hE42 hP42 => ?_) ?_
                ·
                  have hx := ext_trans hx hE42
                  have h0_1 := RP.ext h0_1 hE42
                  have h0_2 := RP.ext h0_2 hE42
                  have h0_4 := RP.ext h0_4 hE42
                  have hb_g3 := Blk.ext hb_g3 hE42
                  refine L_ld (v := v0_2) rfl Try.isAgg22 (hP42 1 42 rfl rfl) (hb_g3.cell (j := 2) rfl) ?_
                  exact L_nil ⟨rfl, (ext_refl _), _, _, rfl, rfl, rfl⟩
                refine ops_cons (fun f w_ hS42 hE42 hP42 => ?_) ?_
                ·
                  have hx := ext_trans hx hE42
                  refine L_mv (v := .int .i64 (i_33 : Int)) rfl ((hS42 8 rfl).trans sf8) ?_
                  exact L_nil ⟨rfl, (ext_refl _), _, _, rfl, rfl, rfl⟩
                refine ops_cons (fun f w_ hS42 hE42 hP42 => ?_) ?_
                ·
                  have hx := ext_trans hx hE42
                  have h0_2 := RP.ext h0_2 hE42
                  refine L_ix (r := RP.int) rfl Try.underlying22 Try.sizeOf3 (hP42 2 43 rfl rfl) h0_2 (hP42 3 44 rfl rfl) hx37 ?_
                  intro g47 o48 cs48 hr48 hat48
                  obtain rfl : _ = [_] := hr48
                  exact L_nil ⟨rfl, (ext_refl _), _, _, rfl, rfl, ⟨_, _, _, rfl, rfl, hat48⟩⟩
                refine ops_cons (fun f w_ hS42 hE42 hP42 => ?_) ?_
                ·
                  have hx := ext_trans hx hE42
                  obtain ⟨g49, o49, cs49, hv49, hr49, hat49⟩ := (hP42 4 45 rfl rfl)
                  obtain rfl : _ = [_] := hr49
                  refine L_ld (v := .int .i64 x37) rfl Try.isAgg3 hv49 (hat49.cell (j := 0) rfl) ?_
                  exact L_nil ⟨rfl, (ext_refl _), _, _, rfl, rfl, rfl⟩
                refine ops_cons (fun f w_ hS42 hE42 hP42 => ?_) ?_
                ·
                  have hx := ext_trans hx hE42
                  have hv10_list := Own.ext hv10_list hE42
                  refine L_mv (v := v10_list) rfl ((hS42 5 rfl).trans sf5) ?_
                  exact L_nil ⟨rfl, (ext_refl _), _, _, rfl, rfl, rfl⟩
                refine ops_cons (fun f w_ hS42 hE42 hP42 => ?_) ?_
                ·
                  have hx := ext_trans hx hE42
                  refine L_mv (v := .int .i64 (i_33 : Int)) rfl ((hS42 8 rfl).trans sf8) ?_
                  exact L_nil ⟨rfl, (ext_refl _), _, _, rfl, rfl, rfl⟩
                refine ops_cons (fun f w_ hS42 hE42 hP42 => ?_) ?_
                ·
                  have hx := ext_trans hx hE42
                  have hv10_list := Own.ext hv10_list hE42
                  refine L_ix (r := RP.int) rfl Try.underlying22 Try.sizeOf3 (hP42 6 47 rfl rfl) (Own.rel hv10_list) (hP42 7 48 rfl rfl) hix35 ?_
                  intro g50 o51 cs51 hr51 hat51
                  obtain rfl : _ = [_] := hr51
                  exact L_nil ⟨rfl, (ext_refl _), _, _, rfl, rfl, ⟨_, _, _, rfl, rfl, hat51⟩⟩
                refine ops_cons (fun f w_ hS42 hE42 hP42 => ?_) ?_
                ·
                  have hx := ext_trans hx hE42
                  obtain ⟨g52, o52, cs52, hv52, hr52, hat52⟩ := (hP42 8 49 rfl rfl)
                  obtain rfl : _ = [_] := hr52
                  refine L_ld (v := .int .i64 x_35) rfl Try.isAgg3 hv52 (hat52.cell (j := 0) rfl) ?_
                  exact L_nil ⟨rfl, (ext_refl _), _, _, rfl, rfl, rfl⟩
                refine ops_cons (fun f w_ hS42 hE42 hP42 => ?_) ?_
                ·
                  have hx := ext_trans hx hE42
                  refine L_mul (m := x37) (n := x_35) rfl (hP42 5 46 rfl rfl) (hP42 9 50 rfl rfl) ?_
                  exact L_nil ⟨rfl, (ext_refl _), _, _, rfl, rfl, rfl⟩
                exact ops_nil
              ·
                have hv10_list := Own.ext hv10_list hE42
                have h0_1 := RP.ext h0_1 hE42
                have h0_2 := RP.ext h0_2 hE42
                have h0_4 := RP.ext h0_4 hE42
                have hb_g3 := Blk.ext hb_g3 hE42
                have hx := ext_trans hx hE42
                refine L_add (m := n_34) (n := i64 (x37 * x_35)) rfl (hT42 0 41 rfl rfl) (hT42 10 51 rfl rfl) ?_
                refine L_as (v := .int .i64 (i64 (n_34 + (i64 (x37 * x_35))))) rfl rfl ?_
                refine L_nil ?_
                refine W_region ?_
                refine L_mv (v := .int .i64 (i_33 : Int)) rfl ((hS42 8 rfl).trans sf8) ?_
                refine L_add (m := (i_33 : Int)) (n := 1) rfl rfl rfl ?_
                refine L_as (v := .int .i64 (i64 ((i_33 : Int) + 1))) rfl rfl ?_
                refine L_nil ?_
                obtain rfl := so hB35
                show ∃ m, m < _ ∧ I35 m _ _
                refine ⟨rest35.length, by simp, ?_⟩
                rw [hI35]
                exact ⟨i_33 + 1, rest35, i64 (n_34 + (i64 (x37 * x_35))), rfl, drop_next hd35, by simp at hl35; omega, hL35, ((hS42 2 rfl).trans sf2), ((hS42 5 rfl).trans sf5), rfl, (Eq.trans rfl (congrArg (Value.int .i64) (i64_succ (n := list_10.length) (by simp at hl35; omega) hlen35))), hv10_list, h0_1, h0_2, h0_4, hb_g3, hx⟩
          ·
            cases suf35 with
            | cons _ _ => exact absurd (of_decide_eq_false hc36) (by simp at hl35; omega)
            | nil =>
              obtain rfl := range_nil hL35
              refine W_exit ?_
              show R35 _ _
              rw [hR35]
              exact ⟨n_34, rfl, sf2, sf7, h0_1, h0_2, h0_4, hb_g3, hx⟩
      ·
        intro f w_ hR
        rw [hR35] at hR
        obtain ⟨n_34, rfl, sf2, sf7, h0_1, h0_2, h0_4, hb_g3, hx⟩ := hR
        clear hR35
        refine W_seq ?_
        refine W_region ?_
        refine L_mv (v := .int .i64 n_34) rfl sf7 ?_
        refine L_fa (o' := 3) rfl fa_68_3 sf2 rfl ?_
        refine L_ld (v := .int .i64 r_.bound) rfl Try.isAgg3 rfl (hb_g3.cell (j := 3) rfl) ?_
        refine L_geq (m := n_34) (n := r_.bound) rfl rfl rfl ?_
        refine L_as (v := .bool (decide (n_34 ≥ r_.bound))) rfl rfl ?_
        refine L_nil ?_
        refine W_ret ?_
        obtain rfl := so hF
        refine ret1 Try.results54 ?_
        exact ⟨rfl, hx⟩
    ·
      have hF := (ite_f hc32).symm.trans hF
      refine W_seq ?_
      refine W_region ?_
      refine L_eql (m := r_.kind) (n := 2) rfl rfl rfl ?_
      refine L_as (v := .bool (r_.kind == 2)) rfl rfl ?_
      refine L_nil ?_
      refine W_cond (b := (r_.kind == 2)) rfl (fun hc53 => ?_) (fun hc53 => ?_)
      ·
        have hF := (ite_t hc53).symm.trans hF
        refine W_seq ?_
        refine W_seq ?_
        refine W_region ?_
        refine L_as (v := .int .i64 0) rfl rfl ?_
        refine L_nil ?_
        have hlen55 := len_le (Own.rel hv10_list)
        obtain ⟨j55, hL55, hF⟩ := bind_some hF
        obtain ⟨R55, hR55⟩ : ∃ R : Fr → World → Prop, R = fun f w_ => j55 = .nx () ∧ Ext w w_ := ⟨_, rfl⟩
        refine W_join R55 ?_ ?_
        ·
          refine W_block ?_
          obtain ⟨I55, hI55⟩ : ∃ I : Nat → Fr → World → Prop, I = fun n f w_ => ∃ i_54 : Nat, ∃ suf55 : List Int, n = suf55.length ∧ List.drop i_54 list_10 = suf55 ∧ i_54 + suf55.length = list_10.length ∧ rangeL (s_l6Holds_b3 list_10) suf55 i_54 () = some j55 ∧ f 5 = v10_list ∧ f 9 = .int .i64 (i_54 : Int) ∧ Own RP.int 3 w.heap.size B w_ v10_list list_10 ∧ Ext w w_ := ⟨_, rfl⟩
          refine W_loop I55 (n := list_10.length) ?_ ?_
          · rw [hI55]; exact ⟨0, list_10, rfl, rfl, Nat.zero_add _, hL55, sf5, rfl, hv10_list, hx⟩
          ·
            intro n55 f w_ hI
            rw [hI55] at hI
            obtain ⟨i_54, suf55, rfl, hd55, hl55, hL55, sf5, sf9, hv10_list, hx⟩ := hI
            refine W_seq ?_
            refine W_seq ?_
            refine W_region ?_
            refine L_mv (v := .int .i64 (i_54 : Int)) rfl sf9 ?_
            refine L_mv (v := v10_list) rfl sf5 ?_
            refine L_len (v := v10_list) rfl Try.underlying22 rfl (Own.rel hv10_list) ?_
            refine L_lss (m := (i_54 : Int)) (n := (list_10.length : Int)) rfl rfl rfl ?_
            refine L_nil ?_
            refine W_cond (b := decide ((i_54 : Int) < (list_10.length : Int))) rfl (fun hc56 => ?_) (fun hc56 => ?_)
            ·
              have hlt55 := of_decide_eq_true hc56
              cases suf55 with
              | nil => exact absurd hlt55 (by simp at hl55; omega)
              | cons x_55 rest55 =>
                obtain ⟨o55, hB55, hL55⟩ := range_cons hL55
                rw [s_l6Holds_b3] at hB55
                have hix55 := drop_idx hd55
                refine W_skip ?_
                refine W_seq ?_
                refine W_block ?_
                refine W_seq ?_
                refine W_region ?_
                refine L_as (v := .int .i64 0) rfl rfl ?_
                refine L_nil ?_
                obtain ⟨k59, hk59, hB55⟩ := bind_some hB55
                obtain ⟨j58, hL58, hB55⟩ := bind_some hB55
                obtain ⟨R58, hR58⟩ : ∃ R : Fr → World → Prop, R = fun f w_ => j58 = .nx () ∧ f 5 = v10_list ∧ f 9 = .int .i64 (i_54 : Int) ∧ Own RP.int 3 w.heap.size B w_ v10_list list_10 ∧ Ext w w_ := ⟨_, rfl⟩
                refine W_join R58 ?_ ?_
                ·
                  refine W_block ?_
                  obtain ⟨I58, hI58⟩ : ∃ I : Nat → Fr → World → Prop, I = fun n f w_ => ∃ i_57 : Nat, ∃ suf58 : Nat, suf58 = n ∧ 0 ≤ i_57 ∧ i_57 + suf58 = 0 + k59 ∧ countL (s_l6Holds_b4 list_10 x_55) suf58 i_57 () = some j58 ∧ f 5 = v10_list ∧ f 9 = .int .i64 (i_54 : Int) ∧ f 10 = .int .i64 (i_57 : Int) ∧ Own RP.int 3 w.heap.size B w_ v10_list list_10 ∧ Ext w w_ := ⟨_, rfl⟩
                  refine W_loop I58 (n := k59) ?_ ?_
                  · rw [hI58]; exact ⟨0, k59, rfl, Nat.le_refl _, rfl, hL58, sf5, sf9, rfl, hv10_list, hx⟩
                  ·
                    intro n58 f w_ hI
                    rw [hI58] at hI
                    obtain ⟨i_57, suf58, rfl, hs58, hl58, hL58, sf5, sf9, sf10, hv10_list, hx⟩ := hI
                    refine W_seq ?_
                    refine W_seq ?_
                    refine W_region ?_
                    refine L_mv (v := .int .i64 (i_57 : Int)) rfl sf10 ?_
                    refine L_mv (v := .int .i64 (i_54 : Int)) rfl sf9 ?_
                    refine L_lss (m := (i_57 : Int)) (n := (i_54 : Int)) rfl rfl rfl ?_
                    refine L_nil ?_
                    refine W_cond (b := decide ((i_57 : Int) < (i_54 : Int))) rfl (fun hc60 => ?_) (fun hc60 => ?_)
                    ·
                      have hlt58 := of_decide_eq_true hc60
                      cases suf58 with
                      | zero => exact absurd hlt58 (cntF_no hl58 hk59)
                      | succ rest58 =>
                        obtain ⟨o58, hB58, hL58⟩ := count_succ hL58
                        rw [s_l6Holds_b4] at hB58
                        refine W_skip ?_
                        refine W_seq ?_
                        refine W_block ?_
                        refine W_seq ?_
                        obtain ⟨x61, hx61, hB58⟩ := bind_some hB58
                        refine W_drawL 8 [isV (v10_list), isV (.int .i64 (i_57 : Int)), isEl B RP.int x61 0, isV (.int .i64 x61), isV (v10_list), isV (.int .i64 (i_54 : Int)), isEl B RP.int x_55 0, isV (.int .i64 x_55)] Try_mix (by kernel_rfl) (am_cons (mono_V _) (am_cons (mono_V _) (am_cons (mono_el _ _ _ _) (am_cons (mono_V _) (am_cons (mono_V _) (am_cons (mono_V _) (am_cons (mono_el _ _ _ _) (am_cons (mono_V _) am_nil)))))))) ?_ (fun f w_ hS66 hE66 hT66 => ?_)
                        ·
                          refine ops_cons (fun f w_ hS66 hE66 hP66 => ?_) ?_
                          ·
                            have hx := ext_trans hx hE66
                            have hv10_list := Own.ext hv10_list hE66
                            refine L_mv (v := v10_list) rfl ((hS66 5 rfl).trans sf5) ?_
                            exact L_nil ⟨rfl, (ext_refl _), _, _, rfl, rfl, rfl⟩
                          refine ops_cons (fun f w_ hS66 hE66 hP66 => ?_) ?_
                          ·
                            have hx := ext_trans hx hE66
                            refine L_mv (v := .int .i64 (i_57 : Int)) rfl ((hS66 10 rfl).trans sf10) ?_
                            exact L_nil ⟨rfl, (ext_refl _), _, _, rfl, rfl, rfl⟩
                          refine ops_cons (fun f w_ hS66 hE66 hP66 => ?_) ?_
                          ·
                            have hx := ext_trans hx hE66
                            have hv10_list := Own.ext hv10_list hE66
                            refine L_ix (r := RP.int) rfl Try.underlying22 Try.sizeOf3 (hP66 0 70 rfl rfl) (Own.rel hv10_list) (hP66 1 71 rfl rfl) hx61 ?_
                            intro g71 o72 cs72 hr72 hat72
                            obtain rfl : _ = [_] := hr72
                            exact L_nil ⟨rfl, (ext_refl _), _, _, rfl, rfl, ⟨_, _, _, rfl, rfl, hat72⟩⟩
                          refine ops_cons (fun f w_ hS66 hE66 hP66 => ?_) ?_
                          ·
                            have hx := ext_trans hx hE66
                            obtain ⟨g73, o73, cs73, hv73, hr73, hat73⟩ := (hP66 2 72 rfl rfl)
                            obtain rfl : _ = [_] := hr73
                            refine L_ld (v := .int .i64 x61) rfl Try.isAgg3 hv73 (hat73.cell (j := 0) rfl) ?_
                            exact L_nil ⟨rfl, (ext_refl _), _, _, rfl, rfl, rfl⟩
                          refine ops_cons (fun f w_ hS66 hE66 hP66 => ?_) ?_
                          ·
                            have hx := ext_trans hx hE66
                            have hv10_list := Own.ext hv10_list hE66
                            refine L_mv (v := v10_list) rfl ((hS66 5 rfl).trans sf5) ?_
                            exact L_nil ⟨rfl, (ext_refl _), _, _, rfl, rfl, rfl⟩
                          refine ops_cons (fun f w_ hS66 hE66 hP66 => ?_) ?_
                          ·
                            have hx := ext_trans hx hE66
                            refine L_mv (v := .int .i64 (i_54 : Int)) rfl ((hS66 9 rfl).trans sf9) ?_
                            exact L_nil ⟨rfl, (ext_refl _), _, _, rfl, rfl, rfl⟩
                          refine ops_cons (fun f w_ hS66 hE66 hP66 => ?_) ?_
                          ·
                            have hx := ext_trans hx hE66
                            have hv10_list := Own.ext hv10_list hE66
                            refine L_ix (r := RP.int) rfl Try.underlying22 Try.sizeOf3 (hP66 4 74 rfl rfl) (Own.rel hv10_list) (hP66 5 75 rfl rfl) hix55 ?_
                            intro g74 o75 cs75 hr75 hat75
                            obtain rfl : _ = [_] := hr75
                            exact L_nil ⟨rfl, (ext_refl _), _, _, rfl, rfl, ⟨_, _, _, rfl, rfl, hat75⟩⟩
                          refine ops_cons (fun f w_ hS66 hE66 hP66 => ?_) ?_
                          ·
                            have hx := ext_trans hx hE66
                            obtain ⟨g76, o76, cs76, hv76, hr76, hat76⟩ := (hP66 6 76 rfl rfl)
                            obtain rfl : _ = [_] := hr76
                            refine L_ld (v := .int .i64 x_55) rfl Try.isAgg3 hv76 (hat76.cell (j := 0) rfl) ?_
                            exact L_nil ⟨rfl, (ext_refl _), _, _, rfl, rfl, rfl⟩
                          exact ops_nil
                        ·
                          have hv10_list := Own.ext hv10_list hE66
                          have hx := ext_trans hx hE66
                          refine L_eql (m := x61) (n := x_55) rfl (hT66 3 73 rfl rfl) (hT66 7 77 rfl rfl) ?_
                          refine L_nil ?_
                          refine W_cond (b := (x61 == x_55)) rfl (fun hc77 => ?_) (fun hc77 => ?_)
                          ·
                            have hB58 := (ite_t hc77).symm.trans hB58
                            refine W_seq ?_
                            refine W_region ?_
                            refine L_as (v := .bool false) rfl rfl ?_
                            refine L_nil ?_
                            refine W_ret ?_
                            obtain rfl := so hB58
                            obtain rfl := so hL58
                            obtain rfl := so hB55
                            obtain rfl := so hL55
                            obtain rfl := so hF
                            refine ret1 Try.results54 ?_
                            exact ⟨rfl, hx⟩
                          ·
                            have hB58 := (ite_f hc77).symm.trans hB58
                            refine W_skip ?_
                            refine W_region ?_
                            refine L_mv (v := .int .i64 (i_57 : Int)) rfl ((hS66 10 rfl).trans sf10) ?_
                            refine L_add (m := (i_57 : Int)) (n := 1) rfl rfl rfl ?_
                            refine L_as (v := .int .i64 (i64 ((i_57 : Int) + 1))) rfl rfl ?_
                            refine L_nil ?_
                            obtain rfl := so hB58
                            show ∃ m, m < _ ∧ I58 m _ _
                            refine ⟨rest58, Nat.lt_succ_self _, ?_⟩
                            rw [hI58]
                            exact ⟨i_57 + 1, rest58, rfl, by omega, by omega, hL58, ((hS66 5 rfl).trans sf5), ((hS66 9 rfl).trans sf9), (Eq.trans rfl (congrArg (Value.int .i64) (i64_succ (n := 0 + k59) (by omega) (cntF_le hk59)))), hv10_list, hx⟩
                    ·
                      cases suf58 with
                      | succ _ => exact absurd (cntF_yes hs58 hl58 hk59) (of_decide_eq_false hc60)
                      | zero =>
                        obtain rfl := count_zero hL58
                        refine W_exit ?_
                        show R58 _ _
                        rw [hR58]
                        exact ⟨rfl, sf5, sf9, hv10_list, hx⟩
                ·
                  intro f w_ hR
                  rw [hR58] at hR
                  obtain ⟨rfl, sf5, sf9, hv10_list, hx⟩ := hR
                  clear hR58
                  refine W_region ?_
                  refine L_mv (v := .int .i64 (i_54 : Int)) rfl sf9 ?_
                  refine L_add (m := (i_54 : Int)) (n := 1) rfl rfl rfl ?_
                  refine L_as (v := .int .i64 (i64 ((i_54 : Int) + 1))) rfl rfl ?_
                  refine L_nil ?_
                  obtain rfl := so hB55
                  show ∃ m, m < _ ∧ I55 m _ _
                  refine ⟨rest55.length, by simp, ?_⟩
                  rw [hI55]
                  exact ⟨i_54 + 1, rest55, rfl, drop_next hd55, by simp at hl55; omega, hL55, sf5, (Eq.trans rfl (congrArg (Value.int .i64) (i64_succ (n := list_10.length) (by simp at hl55; omega) hlen55))), hv10_list, hx⟩
            ·
              cases suf55 with
              | cons _ _ => exact absurd (of_decide_eq_false hc56) (by simp at hl55; omega)
              | nil =>
                obtain rfl := range_nil hL55
                refine W_exit ?_
                show R55 _ _
                rw [hR55]
                exact ⟨rfl, hx⟩
        ·
          intro f w_ hR
          rw [hR55] at hR
          obtain ⟨rfl, hx⟩ := hR
          clear hR55
          refine W_seq ?_
          refine W_region ?_
          refine L_as (v := .bool true) rfl rfl ?_
          refine L_nil ?_
          refine W_ret ?_
          obtain rfl := so hF
          refine ret1 Try.results54 ?_
          exact ⟨rfl, hx⟩
      ·
        have hF := (ite_f hc53).symm.trans hF
        refine W_seq ?_
        refine W_region ?_
        refine L_eql (m := r_.kind) (n := 4) rfl rfl rfl ?_
        refine L_as (v := .bool (r_.kind == 4)) rfl rfl ?_
        refine L_nil ?_
        refine W_cond (b := (r_.kind == 4)) rfl (fun hc78 => ?_) (fun hc78 => ?_)
        ·
          have hF := (ite_t hc78).symm.trans hF
          refine W_seq ?_
          obtain ⟨x79, hx79, hF⟩ := bind_some hF
          obtain ⟨x82, hx82, hF⟩ := bind_some hF
          refine W_drawL 6 [isV (v10_list), isEl B RP.int x79 0, isV (.int .i64 x79), isV (v10_list), isEl B RP.int x82 0, isV (.int .i64 x82)] Try_mix (by kernel_rfl) (am_cons (mono_V _) (am_cons (mono_el _ _ _ _) (am_cons (mono_V _) (am_cons (mono_V _) (am_cons (mono_el _ _ _ _) (am_cons (mono_V _) am_nil)))))) ?_ (fun f w_ hS85 hE85 hT85 => ?_)
          ·
            refine ops_cons (fun f w_ hS85 hE85 hP85 => ?_) ?_
            ·
              have hx := ext_trans hx hE85
              have hv10_list := Own.ext hv10_list hE85
              refine L_mv (v := v10_list) rfl ((hS85 5 rfl).trans sf5) ?_
              exact L_nil ⟨rfl, (ext_refl _), _, _, rfl, rfl, rfl⟩
            refine ops_cons (fun f w_ hS85 hE85 hP85 => ?_) ?_
            ·
              have hx := ext_trans hx hE85
              have hv10_list := Own.ext hv10_list hE85
              refine L_ix (r := RP.int) rfl Try.underlying22 Try.sizeOf3 (hP85 0 81 rfl rfl) (Own.rel hv10_list) rfl hx79 ?_
              intro g90 o91 cs91 hr91 hat91
              obtain rfl : _ = [_] := hr91
              exact L_nil ⟨rfl, (ext_refl _), _, _, rfl, rfl, ⟨_, _, _, rfl, rfl, hat91⟩⟩
            refine ops_cons (fun f w_ hS85 hE85 hP85 => ?_) ?_
            ·
              have hx := ext_trans hx hE85
              obtain ⟨g92, o92, cs92, hv92, hr92, hat92⟩ := (hP85 1 82 rfl rfl)
              obtain rfl : _ = [_] := hr92
              refine L_ld (v := .int .i64 x79) rfl Try.isAgg3 hv92 (hat92.cell (j := 0) rfl) ?_
              exact L_nil ⟨rfl, (ext_refl _), _, _, rfl, rfl, rfl⟩
            refine ops_cons (fun f w_ hS85 hE85 hP85 => ?_) ?_
            ·
              have hx := ext_trans hx hE85
              have hv10_list := Own.ext hv10_list hE85
              refine L_mv (v := v10_list) rfl ((hS85 5 rfl).trans sf5) ?_
              exact L_nil ⟨rfl, (ext_refl _), _, _, rfl, rfl, rfl⟩
            refine ops_cons (fun f w_ hS85 hE85 hP85 => ?_) ?_
            ·
              have hx := ext_trans hx hE85
              have hv10_list := Own.ext hv10_list hE85
              refine L_ix (r := RP.int) rfl Try.underlying22 Try.sizeOf3 (hP85 3 84 rfl rfl) (Own.rel hv10_list) rfl hx82 ?_
              intro g93 o94 cs94 hr94 hat94
              obtain rfl : _ = [_] := hr94
              exact L_nil ⟨rfl, (ext_refl _), _, _, rfl, rfl, ⟨_, _, _, rfl, rfl, hat94⟩⟩
            refine ops_cons (fun f w_ hS85 hE85 hP85 => ?_) ?_
            ·
              have hx := ext_trans hx hE85
              obtain ⟨g95, o95, cs95, hv95, hr95, hat95⟩ := (hP85 4 85 rfl rfl)
              obtain rfl : _ = [_] := hr95
              refine L_ld (v := .int .i64 x82) rfl Try.isAgg3 hv95 (hat95.cell (j := 0) rfl) ?_
              exact L_nil ⟨rfl, (ext_refl _), _, _, rfl, rfl, rfl⟩
            exact ops_nil
          ·
            have hv10_list := Own.ext hv10_list hE85
            have h0_1 := RP.ext h0_1 hE85
            have h0_2 := RP.ext h0_2 hE85
            have h0_4 := RP.ext h0_4 hE85
            have hb_g3 := Blk.ext hb_g3 hE85
            have hx := ext_trans hx hE85
            refine L_lss (m := x79) (n := x82) rfl (hT85 2 83 rfl rfl) (hT85 5 86 rfl rfl) ?_
            refine L_as (v := .bool (decide (x79 < x82))) rfl rfl ?_
            refine L_nil ?_
            refine W_ret ?_
            obtain rfl := so hF
            refine ret1 Try.results54 ?_
            exact ⟨rfl, hx⟩
        ·
          have hF := (ite_f hc78).symm.trans hF
          refine W_skip ?_
          refine W_seq ?_
          refine W_seq ?_
          refine W_region ?_
          refine L_as (v := .int .i64 0) rfl rfl ?_
          refine L_nil ?_
          have hlen97 := len_le h0_4
          obtain ⟨j97, hL97, hF⟩ := bind_some hF
          obtain ⟨R97, hR97⟩ : ∃ R : Fr → World → Prop, R = fun f w_ => j97 = .nx () ∧ Ext w w_ := ⟨_, rfl⟩
          refine W_join R97 ?_ ?_
          ·
            refine W_block ?_
            obtain ⟨I97, hI97⟩ : ∃ I : Nat → Fr → World → Prop, I = fun n f w_ => ∃ i_96 : Nat, ∃ suf97 : List (List Int), n = suf97.length ∧ List.drop i_96 r_.rows = suf97 ∧ i_96 + suf97.length = r_.rows.length ∧ rangeL (s_l6Holds_b5 list_10) suf97 i_96 () = some j97 ∧ f 2 = .pointer (some ⟨g3, 0, none⟩) ∧ f 5 = v10_list ∧ f 11 = .int .i64 (i_96 : Int) ∧ Own RP.int 3 w.heap.size B w_ v10_list list_10 ∧ (RP.slice 3 RP.int).rel B w.heap.size w_ [v0_1] r_.vars ∧ (RP.slice 3 RP.int).rel B w.heap.size w_ [v0_2] r_.coefs ∧ (RP.slice 22 (RP.slice 3 RP.int)).rel B w.heap.size w_ [v0_4] r_.rows ∧ Blk w_ g3 68 #[.int .i64 r_.kind, v0_1, v0_2, .int .i64 r_.bound, v0_4] ∧ Ext w w_ := ⟨_, rfl⟩
            refine W_loop I97 (n := r_.rows.length) ?_ ?_
            · rw [hI97]; exact ⟨0, r_.rows, rfl, rfl, Nat.zero_add _, hL97, sf2, sf5, rfl, hv10_list, h0_1, h0_2, h0_4, hb_g3, hx⟩
            ·
              intro n97 f w_ hI
              rw [hI97] at hI
              obtain ⟨i_96, suf97, rfl, hd97, hl97, hL97, sf2, sf5, sf11, hv10_list, h0_1, h0_2, h0_4, hb_g3, hx⟩ := hI
              refine W_seq ?_
              refine W_seq ?_
              refine W_region ?_
              refine L_mv (v := .int .i64 (i_96 : Int)) rfl sf11 ?_
              refine L_fa (o' := 4) rfl fa_68_4 sf2 rfl ?_
              refine L_ld (v := v0_4) rfl Try.isAgg66 rfl (hb_g3.cell (j := 4) rfl) ?_
              refine L_len (v := v0_4) rfl Try.underlying66 rfl h0_4 ?_
              refine L_lss (m := (i_96 : Int)) (n := (r_.rows.length : Int)) rfl rfl rfl ?_
              refine L_nil ?_
              refine W_cond (b := decide ((i_96 : Int) < (r_.rows.length : Int))) rfl (fun hc98 => ?_) (fun hc98 => ?_)
              ·
                have hlt97 := of_decide_eq_true hc98
                cases suf97 with
                | nil => exact absurd hlt97 (by simp at hl97; omega)
                | cons x_97 rest97 =>
                  obtain ⟨o97, hB97, hL97⟩ := range_cons hL97
                  rw [s_l6Holds_b5] at hB97
                  have hix97 := drop_idx hd97
                  refine W_skip ?_
                  refine W_seq ?_
                  refine W_block ?_
                  refine W_seq ?_
                  obtain ⟨x101, hx101, hB97⟩ := bind_some hB97
                  refine W_region ?_
                  refine L_fa (o' := 4) rfl fa_68_4 sf2 rfl ?_
                  refine L_ld (v := v0_4) rfl Try.isAgg66 rfl (hb_g3.cell (j := 4) rfl) ?_
                  refine L_mv (v := .int .i64 (i_96 : Int)) rfl sf11 ?_
                  refine L_ix (r := (RP.slice 3 RP.int)) rfl Try.underlying66 Try.sizeOf22 rfl h0_4 rfl hix97 ?_
                  intro g103 o104 cs104 hr104 hat104
                  obtain ⟨u104, rfl, hu104⟩ := slice1 hr104
                  refine L_ld (v := u104) rfl Try.isAgg22 rfl (hat104.cell (j := 0) rfl) ?_
                  refine L_mv (v := v10_list) rfl sf5 ?_
                  refine L_call (args := #[u104, v10_list]) rfl Try.call73 (ops2 rfl rfl) (s_l6Ints_c (a := x_97) (b := list_10) (Nat.le_trans hB hx.size) (rel0 hu104) (rel0 (Own.rel hv10_list)) hx101) ?_
                  rintro _ w105 ⟨rfl, he105⟩
                  have hv10_list := Own.ext hv10_list he105
                  have h0_1 := RP.ext h0_1 he105
                  have h0_2 := RP.ext h0_2 he105
                  have h0_4 := RP.ext h0_4 he105
                  have hb_g3 := Blk.ext hb_g3 he105
                  have hu104 := RP.ext hu104 he105
                  have hx := ext_trans hx he105
                  refine L_nil ?_
                  refine W_cond (b := x101) rfl (fun hc106 => ?_) (fun hc106 => ?_)
                  ·
                    have hB97 := (ite_t hc106).symm.trans hB97
                    refine W_seq ?_
                    refine W_region ?_
                    refine L_as (v := .bool true) rfl rfl ?_
                    refine L_nil ?_
                    refine W_ret ?_
                    obtain rfl := so hB97
                    obtain rfl := so hL97
                    obtain rfl := so hF
                    refine ret1 Try.results54 ?_
                    exact ⟨rfl, hx⟩
                  ·
                    have hB97 := (ite_f hc106).symm.trans hB97
                    refine W_skip ?_
                    refine W_region ?_
                    refine L_mv (v := .int .i64 (i_96 : Int)) rfl sf11 ?_
                    refine L_add (m := (i_96 : Int)) (n := 1) rfl rfl rfl ?_
                    refine L_as (v := .int .i64 (i64 ((i_96 : Int) + 1))) rfl rfl ?_
                    refine L_nil ?_
                    obtain rfl := so hB97
                    show ∃ m, m < _ ∧ I97 m _ _
                    refine ⟨rest97.length, by simp, ?_⟩
                    rw [hI97]
                    exact ⟨i_96 + 1, rest97, rfl, drop_next hd97, by simp at hl97; omega, hL97, sf2, sf5, (Eq.trans rfl (congrArg (Value.int .i64) (i64_succ (n := r_.rows.length) (by simp at hl97; omega) hlen97))), hv10_list, h0_1, h0_2, h0_4, hb_g3, hx⟩
              ·
                cases suf97 with
                | cons _ _ => exact absurd (of_decide_eq_false hc98) (by simp at hl97; omega)
                | nil =>
                  obtain rfl := range_nil hL97
                  refine W_exit ?_
                  show R97 _ _
                  rw [hR97]
                  exact ⟨rfl, hx⟩
          ·
            intro f w_ hR
            rw [hR97] at hR
            obtain ⟨rfl, hx⟩ := hR
            clear hR97
            refine W_seq ?_
            refine W_region ?_
            refine L_as (v := .bool false) rfl rfl ?_
            refine L_nil ?_
            refine W_ret ?_
            obtain rfl := so hF
            refine ret1 Try.results54 ?_
            exact ⟨rfl, hx⟩

theorem slices_Equal_int_c {s1 : List Int} {s2 : List Int} {v0 : Value} {v1 : Value} {w : World} {B : Nat} (hB : B ≤ w.heap.size) (h0 : (RP.slice 3 RP.int).rel B w.heap.size w [v0] s1) (h1 : (RP.slice 3 RP.int).rel B w.heap.size w [v1] s2) {r : Bool} (hF : slices_Equal_int s1 s2 = some r) :
    C Try.prog 92 #[v0, v1] w fun v w' => (v = .bool r) ∧ Ext w w' := by
  unfold slices_Equal_int at hF
  have hx := ext_refl w
  refine C_enter Try.func92 rfl Try.ntmps92 rfl ?_
  refine W_seq ?_
  refine W_region ?_
  refine L_as (v := .bool false) rfl rfl ?_
  refine L_nil ?_
  refine W_seq ?_
  refine W_seq ?_
  refine W_region ?_
  refine L_mv (v := v0) rfl rfl ?_
  refine L_len (v := v0) rfl Try.underlying22 rfl h0 ?_
  refine L_mv (v := v1) rfl rfl ?_
  refine L_len (v := v1) rfl Try.underlying22 rfl h1 ?_
  refine L_neq (m := (s1.length : Int)) (n := (s2.length : Int)) rfl rfl rfl ?_
  refine L_nil ?_
  refine W_cond (b := ((s1.length : Int) != (s2.length : Int))) rfl (fun hc1 => ?_) (fun hc1 => ?_)
  ·
    have hF := (ite_t hc1).symm.trans hF
    refine W_seq ?_
    refine W_region ?_
    refine L_as (v := .bool false) rfl rfl ?_
    refine L_nil ?_
    refine W_ret ?_
    obtain rfl := so hF
    refine ret1 Try.results92 ?_
    exact ⟨rfl, hx⟩
  ·
    have hF := (ite_f hc1).symm.trans hF
    refine W_skip ?_
    refine W_seq ?_
    refine W_seq ?_
    refine W_region ?_
    refine L_mv (v := v0) rfl rfl ?_
    refine L_len (v := v0) rfl Try.underlying22 rfl h0 ?_
    refine L_mv (v := .int .i64 0) rfl rfl ?_
    refine L_nil ?_
    have hlen3 := len_le h0
    obtain ⟨j3, hL3, hF⟩ := bind_some hF
    obtain ⟨R3, hR3⟩ : ∃ R : Fr → World → Prop, R = fun f w_ => j3 = .nx () ∧ Ext w w_ := ⟨_, rfl⟩
    refine W_join R3 ?_ ?_
    ·
      refine W_block ?_
      obtain ⟨I3, hI3⟩ : ∃ I : Nat → Fr → World → Prop, I = fun n f w_ => ∃ i_2 : Nat, ∃ suf3 : List Int, n = suf3.length ∧ List.drop i_2 s1 = suf3 ∧ i_2 + suf3.length = s1.length ∧ rangeL (slices_Equal_int_b1 s2) suf3 i_2 () = some j3 ∧ f 0 = v0 ∧ f 1 = v1 ∧ f 12 = .int .i64 (s1.length : Int) ∧ f 13 = .int .i64 (i_2 : Int) ∧ (RP.slice 3 RP.int).rel B w.heap.size w_ [v0] s1 ∧ (RP.slice 3 RP.int).rel B w.heap.size w_ [v1] s2 ∧ Ext w w_ := ⟨_, rfl⟩
      refine W_loop I3 (n := s1.length) ?_ ?_
      · rw [hI3]; exact ⟨0, s1, rfl, rfl, Nat.zero_add _, hL3, rfl, rfl, rfl, rfl, h0, h1, hx⟩
      ·
        intro n3 f w_ hI
        rw [hI3] at hI
        obtain ⟨i_2, suf3, rfl, hd3, hl3, hL3, sf0, sf1, sf12, sf13, h0, h1, hx⟩ := hI
        refine W_seq ?_
        refine W_region ?_
        refine L_lss (m := (i_2 : Int)) (n := (s1.length : Int)) rfl sf13 sf12 ?_
        refine L_nil ?_
        refine W_seq ?_
        refine W_cond (b := decide ((i_2 : Int) < (s1.length : Int))) rfl (fun hc4 => ?_) (fun hc4 => ?_)
        ·
          have hlt3 := of_decide_eq_true hc4
          cases suf3 with
          | nil => exact absurd hlt3 (by simp at hl3; omega)
          | cons x_3 rest3 =>
            obtain ⟨o3, hB3, hL3⟩ := range_cons hL3
            rw [slices_Equal_int_b1] at hB3
            have hix3 := drop_idx hd3
            refine W_skip ?_
            refine W_seq ?_
            refine W_block ?_
            refine W_seq ?_
            refine W_region ?_
            refine L_mv (v := .int .i64 (i_2 : Int)) rfl sf13 ?_
            refine L_as (v := .int .i64 (i_2 : Int)) rfl rfl ?_
            refine L_nil ?_
            refine W_seq ?_
            obtain ⟨x7, hx7, hB3⟩ := bind_some hB3
            refine W_drawL 8 [isV (v0), isV (.int .i64 (i_2 : Int)), isEl B RP.int x_3 0, isV (.int .i64 x_3), isV (v1), isV (.int .i64 (i_2 : Int)), isEl B RP.int x7 0, isV (.int .i64 x7)] Try_mix (by kernel_rfl) (am_cons (mono_V _) (am_cons (mono_V _) (am_cons (mono_el _ _ _ _) (am_cons (mono_V _) (am_cons (mono_V _) (am_cons (mono_V _) (am_cons (mono_el _ _ _ _) (am_cons (mono_V _) am_nil)))))))) ?_ (fun f w_ hS10 hE10 hT10 => ?_)
            ·
              refine ops_cons (fun f w_ hS10 hE10 hP10 => ?_) ?_
              ·
                have hx := ext_trans hx hE10
                have h0 := RP.ext h0 hE10
                refine L_mv (v := v0) rfl ((hS10 0 rfl).trans sf0) ?_
                exact L_nil ⟨rfl, (ext_refl _), _, _, rfl, rfl, rfl⟩
              refine ops_cons (fun f w_ hS10 hE10 hP10 => ?_) ?_
              ·
                have hx := ext_trans hx hE10
                refine L_mv (v := .int .i64 (i_2 : Int)) rfl ((hS10 5 rfl).trans rfl) ?_
                exact L_nil ⟨rfl, (ext_refl _), _, _, rfl, rfl, rfl⟩
              refine ops_cons (fun f w_ hS10 hE10 hP10 => ?_) ?_
              ·
                have hx := ext_trans hx hE10
                have h0 := RP.ext h0 hE10
                refine L_ix (r := RP.int) rfl Try.underlying22 Try.sizeOf3 (hP10 0 16 rfl rfl) h0 (hP10 1 17 rfl rfl) hix3 ?_
                intro g15 o16 cs16 hr16 hat16
                obtain rfl : _ = [_] := hr16
                exact L_nil ⟨rfl, (ext_refl _), _, _, rfl, rfl, ⟨_, _, _, rfl, rfl, hat16⟩⟩
              refine ops_cons (fun f w_ hS10 hE10 hP10 => ?_) ?_
              ·
                have hx := ext_trans hx hE10
                obtain ⟨g17, o17, cs17, hv17, hr17, hat17⟩ := (hP10 2 18 rfl rfl)
                obtain rfl : _ = [_] := hr17
                refine L_ld (v := .int .i64 x_3) rfl Try.isAgg3 hv17 (hat17.cell (j := 0) rfl) ?_
                exact L_nil ⟨rfl, (ext_refl _), _, _, rfl, rfl, rfl⟩
              refine ops_cons (fun f w_ hS10 hE10 hP10 => ?_) ?_
              ·
                have hx := ext_trans hx hE10
                have h1 := RP.ext h1 hE10
                refine L_mv (v := v1) rfl ((hS10 1 rfl).trans sf1) ?_
                exact L_nil ⟨rfl, (ext_refl _), _, _, rfl, rfl, rfl⟩
              refine ops_cons (fun f w_ hS10 hE10 hP10 => ?_) ?_
              ·
                have hx := ext_trans hx hE10
                refine L_mv (v := .int .i64 (i_2 : Int)) rfl ((hS10 5 rfl).trans rfl) ?_
                exact L_nil ⟨rfl, (ext_refl _), _, _, rfl, rfl, rfl⟩
              refine ops_cons (fun f w_ hS10 hE10 hP10 => ?_) ?_
              ·
                have hx := ext_trans hx hE10
                have h1 := RP.ext h1 hE10
                refine L_ix (r := RP.int) rfl Try.underlying22 Try.sizeOf3 (hP10 4 20 rfl rfl) h1 (hP10 5 21 rfl rfl) hx7 ?_
                intro g18 o19 cs19 hr19 hat19
                obtain rfl : _ = [_] := hr19
                exact L_nil ⟨rfl, (ext_refl _), _, _, rfl, rfl, ⟨_, _, _, rfl, rfl, hat19⟩⟩
              refine ops_cons (fun f w_ hS10 hE10 hP10 => ?_) ?_
              ·
                have hx := ext_trans hx hE10
                obtain ⟨g20, o20, cs20, hv20, hr20, hat20⟩ := (hP10 6 22 rfl rfl)
                obtain rfl : _ = [_] := hr20
                refine L_ld (v := .int .i64 x7) rfl Try.isAgg3 hv20 (hat20.cell (j := 0) rfl) ?_
                exact L_nil ⟨rfl, (ext_refl _), _, _, rfl, rfl, rfl⟩
              exact ops_nil
            ·
              have h0 := RP.ext h0 hE10
              have h1 := RP.ext h1 hE10
              have hx := ext_trans hx hE10
              refine L_neq (m := x_3) (n := x7) rfl (hT10 3 19 rfl rfl) (hT10 7 23 rfl rfl) ?_
              refine L_nil ?_
              refine W_cond (b := (x_3 != x7)) rfl (fun hc21 => ?_) (fun hc21 => ?_)
              ·
                have hB3 := (ite_t hc21).symm.trans hB3
                refine W_seq ?_
                refine W_region ?_
                refine L_as (v := .bool false) rfl rfl ?_
                refine L_nil ?_
                refine W_ret ?_
                obtain rfl := so hB3
                obtain rfl := so hL3
                obtain rfl := so hF
                refine ret1 Try.results92 ?_
                exact ⟨rfl, hx⟩
              ·
                have hB3 := (ite_f hc21).symm.trans hB3
                refine W_skip ?_
                refine W_region ?_
                refine L_add (m := (i_2 : Int)) (n := 1) rfl ((hS10 13 rfl).trans sf13) rfl ?_
                refine L_mv (v := .int .i64 (i64 ((i_2 : Int) + 1))) rfl rfl ?_
                refine L_nil ?_
                obtain rfl := so hB3
                show ∃ m, m < _ ∧ I3 m _ _
                refine ⟨rest3.length, by simp, ?_⟩
                rw [hI3]
                exact ⟨i_2 + 1, rest3, rfl, drop_next hd3, by simp at hl3; omega, hL3, ((hS10 0 rfl).trans sf0), ((hS10 1 rfl).trans sf1), ((hS10 12 rfl).trans sf12), (Eq.trans rfl (congrArg (Value.int .i64) (i64_succ (n := s1.length) (by simp at hl3; omega) hlen3))), h0, h1, hx⟩
        ·
          cases suf3 with
          | cons _ _ => exact absurd (of_decide_eq_false hc4) (by simp at hl3; omega)
          | nil =>
            obtain rfl := range_nil hL3
            refine W_exit ?_
            show R3 _ _
            rw [hR3]
            exact ⟨rfl, hx⟩
    ·
      intro f w_ hR
      rw [hR3] at hR
      obtain ⟨rfl, hx⟩ := hR
      clear hR3
      refine W_seq ?_
      refine W_region ?_
      refine L_as (v := .bool true) rfl rfl ?_
      refine L_nil ?_
      refine W_ret ?_
      obtain rfl := so hF
      refine ret1 Try.results92 ?_
      exact ⟨rfl, hx⟩

theorem i_Rule_holds_1_c {c1 : List Int} {row : List Int} {v0 : Value} {g_c1 : Nat} {v1_0 : Value} {w : World} {B : Nat} (hB : B ≤ w.heap.size) (h0 : (RP.slice 3 RP.int).rel B w.heap.size w [v0] row) (hat_g_c1 : At w g_c1 0 [v1_0]) (h1_0 : (RP.slice 3 RP.int).rel B w.heap.size w [v1_0] c1) {r : Bool} (hF : i_Rule_holds_1 c1 row = some r) :
    C Try.prog 91 #[v0, .pointer (some ⟨g_c1, 0, none⟩)] w fun v w' => (v = .bool r) ∧ Ext w w' := by
  unfold i_Rule_holds_1 at hF
  have hlt_g_c1 := hat_g_c1.lt
  have hx := ext_refl w
  refine C_enter Try.func91 rfl Try.ntmps91 rfl ?_
  refine W_seq ?_
  refine W_region ?_
  refine L_as (v := .bool false) rfl rfl ?_
  refine L_nil ?_
  refine W_seq ?_
  obtain ⟨x1, hx1, hF⟩ := bind_some hF
  refine W_region ?_
  refine L_mv (v := v0) rfl rfl ?_
  refine L_ld (v := v1_0) rfl Try.isAgg22 rfl (hat_g_c1.cell (j := 0) rfl) ?_
  refine L_call (args := #[v0, v1_0]) rfl Try.call92 (ops2 rfl rfl) (slices_Equal_int_c (s1 := row) (s2 := c1) (Nat.le_trans hB hx.size) (rel0 h0) (rel0 h1_0) hx1) ?_
  rintro _ w3 ⟨rfl, he3⟩
  have h0 := RP.ext h0 he3
  have h1_0 := RP.ext h1_0 he3
  have hx := ext_trans hx he3
  refine L_as (v := .bool x1) rfl rfl ?_
  refine L_nil ?_
  refine W_ret ?_
  obtain rfl := so hF
  refine ret1 Try.results91 ?_
  exact ⟨rfl, hx⟩

theorem i_Rule_holds_c {r_ : Rule} {vals : List Int} {v0_1 : Value} {v0_2 : Value} {v0_4 : Value} {v1 : Value} {w : World} {B : Nat} (hB : B ≤ w.heap.size) (h0_1 : (RP.slice 3 RP.int).rel B w.heap.size w [v0_1] r_.vars) (h0_2 : (RP.slice 3 RP.int).rel B w.heap.size w [v0_2] r_.coefs) (h0_4 : (RP.slice 22 (RP.slice 3 RP.int)).rel B w.heap.size w [v0_4] r_.rows) (h1 : (RP.slice 3 RP.int).rel B w.heap.size w [v1] vals) {r : Bool} (hF : i_Rule_holds r_ vals = some r) :
    C Try.prog 74 #[.agg #[.int .i64 r_.kind, v0_1, v0_2, .int .i64 r_.bound, v0_4], v1] w fun v w' => (v = .bool r) ∧ Ext w w' := by
  unfold i_Rule_holds at hF
  have hx := ext_refl w
  refine C_enter Try.func74 rfl Try.ntmps74 rfl ?_
  refine W_seq ?_
  refine W_region ?_
  refine L_box (v := .agg #[.int .i64 r_.kind, v0_1, v0_2, .int .i64 r_.bound, v0_4]) (cs := #[.int .i64 r_.kind, v0_1, v0_2, .int .i64 r_.bound, v0_4]) rfl rfl rfl ?_
  intro g5 w6 hn6
  have hge_g5 := hn6.geS hx.size
  have hb_g5 := hn6.blk
  have h0_1 := RP.ext h0_1 hn6.ext
  have h0_2 := RP.ext h0_2 hn6.ext
  have h0_4 := RP.ext h0_4 hn6.ext
  have h1 := RP.ext h1 hn6.ext
  have hx := ext_trans hx hn6.ext
  refine L_box (v := v1) (cs := #[v1]) rfl rfl (cells_one (one_of h1)) ?_
  intro g7 w8 hn8
  have hge_g7 := hn8.geS hx.size
  have hb_g7 := hn8.blk
  have h0_1 := RP.ext h0_1 hn8.ext
  have h0_2 := RP.ext h0_2 hn8.ext
  have h0_4 := RP.ext h0_4 hn8.ext
  have h1 := RP.ext h1 hn8.ext
  have hb_g5 := Blk.ext hb_g5 hn8.ext
  have hx := ext_trans hx hn8.ext
  refine L_as (v := .bool false) rfl rfl ?_
  refine L_nil ?_
  refine W_seq ?_
  refine W_seq ?_
  refine W_region ?_
  refine L_fa (o' := 0) rfl fa_68_0 rfl rfl ?_
  refine L_ld (v := .int .i64 r_.kind) rfl Try.isAgg3 rfl (hb_g5.cell (j := 0) rfl) ?_
  refine L_nil ?_
  refine W_block ?_
  refine W_seq ?_
  refine W_region ?_
  refine L_eql (m := r_.kind) (n := 1) rfl rfl rfl ?_
  refine L_as (v := .bool (r_.kind == 1)) rfl rfl ?_
  refine L_nil ?_
  refine W_cond (b := (r_.kind == 1)) rfl (fun hc9 => ?_) (fun hc9 => ?_)
  ·
    have hF := (ite_t hc9).symm.trans hF
    refine W_seq ?_
    refine W_region ?_
    refine L_as (v := .int .i64 0) rfl rfl ?_
    refine L_nil ?_
    refine W_seq ?_
    refine W_seq ?_
    refine W_region ?_
    refine L_ld (v := v1) rfl Try.isAgg22 rfl (hb_g7.cell (j := 0) rfl) ?_
    refine L_len (v := v1) rfl Try.underlying22 rfl h1 ?_
    refine L_mv (v := .int .i64 0) rfl rfl ?_
    refine L_nil ?_
    have hlen12 := len_le h1
    obtain ⟨j12, hL12, hF⟩ := bind_some hF
    obtain ⟨R12, hR12⟩ : ∃ R : Fr → World → Prop, R = fun f w_ => ∃ sum_11 : Int, j12 = .nx sum_11 ∧ f 2 = .pointer (some ⟨g5, 0, none⟩) ∧ f 5 = .int .i64 sum_11 ∧ (RP.slice 3 RP.int).rel B w.heap.size w_ [v0_1] r_.vars ∧ (RP.slice 3 RP.int).rel B w.heap.size w_ [v0_2] r_.coefs ∧ (RP.slice 22 (RP.slice 3 RP.int)).rel B w.heap.size w_ [v0_4] r_.rows ∧ Blk w_ g5 68 #[.int .i64 r_.kind, v0_1, v0_2, .int .i64 r_.bound, v0_4] ∧ Ext w w_ := ⟨_, rfl⟩
    refine W_join R12 ?_ ?_
    ·
      refine W_block ?_
      obtain ⟨I12, hI12⟩ : ∃ I : Nat → Fr → World → Prop, I = fun n f w_ => ∃ i_10 : Nat, ∃ suf12 : List Int, ∃ sum_11 : Int, n = suf12.length ∧ List.drop i_10 vals = suf12 ∧ i_10 + suf12.length = vals.length ∧ rangeL (i_Rule_holds_b1 r_) suf12 i_10 sum_11 = some j12 ∧ f 2 = .pointer (some ⟨g5, 0, none⟩) ∧ f 5 = .int .i64 sum_11 ∧ f 14 = v1 ∧ f 15 = .int .i64 (vals.length : Int) ∧ f 16 = .int .i64 (i_10 : Int) ∧ (RP.slice 3 RP.int).rel B w.heap.size w_ [v1] vals ∧ (RP.slice 3 RP.int).rel B w.heap.size w_ [v0_1] r_.vars ∧ (RP.slice 3 RP.int).rel B w.heap.size w_ [v0_2] r_.coefs ∧ (RP.slice 22 (RP.slice 3 RP.int)).rel B w.heap.size w_ [v0_4] r_.rows ∧ Blk w_ g5 68 #[.int .i64 r_.kind, v0_1, v0_2, .int .i64 r_.bound, v0_4] ∧ Ext w w_ := ⟨_, rfl⟩
      refine W_loop I12 (n := vals.length) ?_ ?_
      · rw [hI12]; exact ⟨0, vals, 0, rfl, rfl, Nat.zero_add _, hL12, rfl, rfl, rfl, rfl, rfl, h1, h0_1, h0_2, h0_4, hb_g5, hx⟩
      ·
        intro n12 f w_ hI
        rw [hI12] at hI
        obtain ⟨i_10, suf12, sum_11, rfl, hd12, hl12, hL12, sf2, sf5, sf14, sf15, sf16, h1, h0_1, h0_2, h0_4, hb_g5, hx⟩ := hI
        refine W_seq ?_
        refine W_region ?_
        refine L_lss (m := (i_10 : Int)) (n := (vals.length : Int)) rfl sf16 sf15 ?_
        refine L_nil ?_
        refine W_seq ?_
        refine W_cond (b := decide ((i_10 : Int) < (vals.length : Int))) rfl (fun hc13 => ?_) (fun hc13 => ?_)
        ·
          have hlt12 := of_decide_eq_true hc13
          cases suf12 with
          | nil => exact absurd hlt12 (by simp at hl12; omega)
          | cons x_12 rest12 =>
            obtain ⟨o12, hB12, hL12⟩ := range_cons hL12
            rw [i_Rule_holds_b1] at hB12
            have hix12 := drop_idx hd12
            refine W_skip ?_
            refine W_seq ?_
            refine W_block ?_
            refine W_seq ?_
            refine W_region ?_
            refine L_mv (v := .int .i64 (i_10 : Int)) rfl sf16 ?_
            refine L_ix (r := RP.int) rfl Try.underlying22 Try.sizeOf3 sf14 h1 sf16 hix12 ?_
            intro g16 o17 cs17 hr17 hat17
            obtain rfl : _ = [_] := hr17
            refine L_ld (v := .int .i64 x_12) rfl Try.isAgg3 rfl (hat17.cell (j := 0) rfl) ?_
            refine L_as (v := .int .i64 (i_10 : Int)) rfl rfl ?_
            refine L_as (v := .int .i64 x_12) rfl rfl ?_
            refine L_nil ?_
            obtain ⟨x18, hx18, hB12⟩ := bind_some hB12
            refine W_region ?_
            refine L_mv (v := .int .i64 sum_11) rfl sf5 ?_
            refine L_fa (o' := 2) rfl fa_68_2 sf2 rfl ?_
            refine L_ld (v := v0_2) rfl Try.isAgg22 rfl (hb_g5.cell (j := 2) rfl) ?_
            refine L_mv (v := .int .i64 (i_10 : Int)) rfl rfl ?_
            refine L_ix (r := RP.int) rfl Try.underlying22 Try.sizeOf3 rfl h0_2 rfl hx18 ?_
            intro g21 o22 cs22 hr22 hat22
            obtain rfl : _ = [_] := hr22
            refine L_ld (v := .int .i64 x18) rfl Try.isAgg3 rfl (hat22.cell (j := 0) rfl) ?_
            refine L_mv (v := .int .i64 x_12) rfl rfl ?_
            refine L_mul (m := x18) (n := x_12) rfl rfl rfl ?_
            refine L_add (m := sum_11) (n := i64 (x18 * x_12)) rfl rfl rfl ?_
            refine L_as (v := .int .i64 (i64 (sum_11 + (i64 (x18 * x_12))))) rfl rfl ?_
            refine L_nil ?_
            refine W_region ?_
            refine L_add (m := (i_10 : Int)) (n := 1) rfl sf16 rfl ?_
            refine L_mv (v := .int .i64 (i64 ((i_10 : Int) + 1))) rfl rfl ?_
            refine L_nil ?_
            obtain rfl := so hB12
            show ∃ m, m < _ ∧ I12 m _ _
            refine ⟨rest12.length, by simp, ?_⟩
            rw [hI12]
            exact ⟨i_10 + 1, rest12, i64 (sum_11 + (i64 (x18 * x_12))), rfl, drop_next hd12, by simp at hl12; omega, hL12, sf2, rfl, sf14, sf15, (Eq.trans rfl (congrArg (Value.int .i64) (i64_succ (n := vals.length) (by simp at hl12; omega) hlen12))), h1, h0_1, h0_2, h0_4, hb_g5, hx⟩
        ·
          cases suf12 with
          | cons _ _ => exact absurd (of_decide_eq_false hc13) (by simp at hl12; omega)
          | nil =>
            obtain rfl := range_nil hL12
            refine W_exit ?_
            show R12 _ _
            rw [hR12]
            exact ⟨sum_11, rfl, sf2, sf5, h0_1, h0_2, h0_4, hb_g5, hx⟩
    ·
      intro f w_ hR
      rw [hR12] at hR
      obtain ⟨sum_11, rfl, sf2, sf5, h0_1, h0_2, h0_4, hb_g5, hx⟩ := hR
      clear hR12
      refine W_seq ?_
      refine W_region ?_
      refine L_mv (v := .int .i64 sum_11) rfl sf5 ?_
      refine L_fa (o' := 3) rfl fa_68_3 sf2 rfl ?_
      refine L_ld (v := .int .i64 r_.bound) rfl Try.isAgg3 rfl (hb_g5.cell (j := 3) rfl) ?_
      refine L_geq (m := sum_11) (n := r_.bound) rfl rfl rfl ?_
      refine L_as (v := .bool (decide (sum_11 ≥ r_.bound))) rfl rfl ?_
      refine L_nil ?_
      refine W_ret ?_
      obtain rfl := so hF
      refine ret1 Try.results74 ?_
      exact ⟨rfl, hx⟩
  ·
    have hF := (ite_f hc9).symm.trans hF
    refine W_seq ?_
    refine W_region ?_
    refine L_eql (m := r_.kind) (n := 2) rfl rfl rfl ?_
    refine L_as (v := .bool (r_.kind == 2)) rfl rfl ?_
    refine L_nil ?_
    refine W_cond (b := (r_.kind == 2)) rfl (fun hc23 => ?_) (fun hc23 => ?_)
    ·
      have hF := (ite_t hc23).symm.trans hF
      refine W_seq ?_
      refine W_seq ?_
      refine W_region ?_
      refine L_ld (v := v1) rfl Try.isAgg22 rfl (hb_g7.cell (j := 0) rfl) ?_
      refine L_len (v := v1) rfl Try.underlying22 rfl h1 ?_
      refine L_mv (v := .int .i64 0) rfl rfl ?_
      refine L_nil ?_
      have hlen25 := len_le h1
      obtain ⟨j25, hL25, hF⟩ := bind_some hF
      obtain ⟨R25, hR25⟩ : ∃ R : Fr → World → Prop, R = fun f w_ => j25 = .nx () ∧ Ext w w_ := ⟨_, rfl⟩
      refine W_join R25 ?_ ?_
      ·
        refine W_block ?_
        obtain ⟨I25, hI25⟩ : ∃ I : Nat → Fr → World → Prop, I = fun n f w_ => ∃ i_24 : Nat, ∃ suf25 : List Int, n = suf25.length ∧ List.drop i_24 vals = suf25 ∧ i_24 + suf25.length = vals.length ∧ rangeL (i_Rule_holds_b2 vals) suf25 i_24 () = some j25 ∧ f 3 = .pointer (some ⟨g7, 0, none⟩) ∧ f 37 = v1 ∧ f 38 = .int .i64 (vals.length : Int) ∧ f 39 = .int .i64 (i_24 : Int) ∧ (RP.slice 3 RP.int).rel B w.heap.size w_ [v1] vals ∧ Blk w_ g7 22 #[v1] ∧ Ext w w_ := ⟨_, rfl⟩
        refine W_loop I25 (n := vals.length) ?_ ?_
        · rw [hI25]; exact ⟨0, vals, rfl, rfl, Nat.zero_add _, hL25, rfl, rfl, rfl, rfl, h1, hb_g7, hx⟩
        ·
          intro n25 f w_ hI
          rw [hI25] at hI
          obtain ⟨i_24, suf25, rfl, hd25, hl25, hL25, sf3, sf37, sf38, sf39, h1, hb_g7, hx⟩ := hI
          refine W_seq ?_
          refine W_region ?_
          refine L_lss (m := (i_24 : Int)) (n := (vals.length : Int)) rfl sf39 sf38 ?_
          refine L_nil ?_
          refine W_seq ?_
          refine W_cond (b := decide ((i_24 : Int) < (vals.length : Int))) rfl (fun hc26 => ?_) (fun hc26 => ?_)
          ·
            have hlt25 := of_decide_eq_true hc26
            cases suf25 with
            | nil => exact absurd hlt25 (by simp at hl25; omega)
            | cons x_25 rest25 =>
              obtain ⟨o25, hB25, hL25⟩ := range_cons hL25
              rw [i_Rule_holds_b2] at hB25
              have hix25 := drop_idx hd25
              refine W_skip ?_
              refine W_seq ?_
              refine W_block ?_
              refine W_seq ?_
              refine W_region ?_
              refine L_mv (v := .int .i64 (i_24 : Int)) rfl sf39 ?_
              refine L_ix (r := RP.int) rfl Try.underlying22 Try.sizeOf3 sf37 h1 sf39 hix25 ?_
              intro g29 o30 cs30 hr30 hat30
              obtain rfl : _ = [_] := hr30
              refine L_ld (v := .int .i64 x_25) rfl Try.isAgg3 rfl (hat30.cell (j := 0) rfl) ?_
              refine L_as (v := .int .i64 (i_24 : Int)) rfl rfl ?_
              refine L_as (v := .int .i64 x_25) rfl rfl ?_
              refine L_nil ?_
              refine W_seq ?_
              obtain ⟨x31, hx31, hB25⟩ := bind_some hB25
              obtain ⟨x33, hx33, hB25⟩ := bind_some hB25
              refine W_region ?_
              refine L_ld (v := v1) rfl Try.isAgg22 sf3 (hb_g7.cell (j := 0) rfl) ?_
              refine L_mv (v := .int .i64 (i_24 : Int)) rfl rfl ?_
              refine L_sl (a := 0) (b := (i_24 : Int)) rfl et_22 rfl h1 rfl rfl hx31 ?_
              intro v35 hs35
              refine L_mv (v := .int .i64 x_25) rfl rfl ?_
              refine L_call (args := #[v35, .int .i64 x_25]) rfl Try.call84 (ops2 rfl rfl) (slices_Contains_int_c (s := x31) (v_ := x_25) (Nat.le_trans hB hx.size) (rel0 hs35) hx33) ?_
              rintro _ w36 ⟨rfl, he36⟩
              have h1 := RP.ext h1 he36
              have hb_g7 := Blk.ext hb_g7 he36
              have hs35 := RP.ext hs35 he36
              have hx := ext_trans hx he36
              refine L_nil ?_
              refine W_cond (b := x33) rfl (fun hc37 => ?_) (fun hc37 => ?_)
              ·
                have hB25 := (ite_t hc37).symm.trans hB25
                refine W_seq ?_
                refine W_region ?_
                refine L_as (v := .bool false) rfl rfl ?_
                refine L_nil ?_
                refine W_ret ?_
                obtain rfl := so hB25
                obtain rfl := so hL25
                obtain rfl := so hF
                refine ret1 Try.results74 ?_
                exact ⟨rfl, hx⟩
              ·
                have hB25 := (ite_f hc37).symm.trans hB25
                refine W_skip ?_
                refine W_region ?_
                refine L_add (m := (i_24 : Int)) (n := 1) rfl sf39 rfl ?_
                refine L_mv (v := .int .i64 (i64 ((i_24 : Int) + 1))) rfl rfl ?_
                refine L_nil ?_
                obtain rfl := so hB25
                show ∃ m, m < _ ∧ I25 m _ _
                refine ⟨rest25.length, by simp, ?_⟩
                rw [hI25]
                exact ⟨i_24 + 1, rest25, rfl, drop_next hd25, by simp at hl25; omega, hL25, sf3, sf37, sf38, (Eq.trans rfl (congrArg (Value.int .i64) (i64_succ (n := vals.length) (by simp at hl25; omega) hlen25))), h1, hb_g7, hx⟩
          ·
            cases suf25 with
            | cons _ _ => exact absurd (of_decide_eq_false hc26) (by simp at hl25; omega)
            | nil =>
              obtain rfl := range_nil hL25
              refine W_exit ?_
              show R25 _ _
              rw [hR25]
              exact ⟨rfl, hx⟩
      ·
        intro f w_ hR
        rw [hR25] at hR
        obtain ⟨rfl, hx⟩ := hR
        clear hR25
        refine W_seq ?_
        refine W_region ?_
        refine L_as (v := .bool true) rfl rfl ?_
        refine L_nil ?_
        refine W_ret ?_
        obtain rfl := so hF
        refine ret1 Try.results74 ?_
        exact ⟨rfl, hx⟩
    ·
      have hF := (ite_f hc23).symm.trans hF
      refine W_seq ?_
      refine W_region ?_
      refine L_eql (m := r_.kind) (n := 3) rfl rfl rfl ?_
      refine L_as (v := .bool (r_.kind == 3)) rfl rfl ?_
      refine L_nil ?_
      refine W_cond (b := (r_.kind == 3)) rfl (fun hc38 => ?_) (fun hc38 => ?_)
      ·
        have hF := (ite_t hc38).symm.trans hF
        refine W_seq ?_
        obtain ⟨x39, hx39, hF⟩ := bind_some hF
        refine W_region ?_
        refine L_fa (o' := 4) rfl fa_68_4 rfl rfl ?_
        refine L_ld (v := v0_4) rfl Try.isAgg66 rfl (hb_g5.cell (j := 4) rfl) ?_
        refine L_mf rfl (ops1 rfl) ?_
        have hf41 : Fun1 Try.prog B (RP.slice 3 RP.int) false Value.bool (i_Rule_holds_1 vals) (.func (.func 91) #[] #[.pointer (some ⟨g7, 0, none⟩)]) w8 := by
          refine ⟨_, _, rfl, Try.call91, fun w_ hE_ cs_ x_ y_ args_ hr_ hy_ ha_ => ?_⟩
          obtain ⟨p0, rfl, hp0⟩ := slice1 hr_
          obtain rfl := args_of (b := #[p0, .pointer (some ⟨g7, 0, none⟩)]) ha_
          exact i_Rule_holds_1_c (c1 := vals) (row := x_) (Nat.le_trans hB (ext_trans hx hE_).size) hp0 (At.ext (Blk.at hb_g7) hE_) (rel0 (RP.ext h1 hE_)) hy_
        refine L_call (args := #[v0_4, .func (.func 91) #[] #[.pointer (some ⟨g7, 0, none⟩)]]) rfl Try.call87 (ops2 rfl rfl) (slices_ContainsFunc_Sint_c (s := r_.rows) (f_ := (i_Rule_holds_1 vals)) (Nat.le_trans hB hx.size) (rel0 h0_4) hf41 hx39) ?_
        rintro _ w42 ⟨rfl, he42⟩
        have h0_4 := RP.ext h0_4 he42
        have h1 := RP.ext h1 he42
        have hb_g7 := Blk.ext hb_g7 he42
        have hx := ext_trans hx he42
        refine L_as (v := .bool x39) rfl rfl ?_
        refine L_nil ?_
        refine W_ret ?_
        obtain rfl := so hF
        refine ret1 Try.results74 ?_
        exact ⟨rfl, hx⟩
      ·
        have hF := (ite_f hc38).symm.trans hF
        refine W_skip ?_
        refine W_seq ?_
        obtain ⟨x43, hx43, hF⟩ := bind_some hF
        obtain ⟨x46, hx46, hF⟩ := bind_some hF
        refine W_drawL 6 [isV (v1), isEl B RP.int x43 0, isV (.int .i64 x43), isV (v1), isEl B RP.int x46 0, isV (.int .i64 x46)] Try_mix (by kernel_rfl) (am_cons (mono_V _) (am_cons (mono_el _ _ _ _) (am_cons (mono_V _) (am_cons (mono_V _) (am_cons (mono_el _ _ _ _) (am_cons (mono_V _) am_nil)))))) ?_ (fun f w_ hS49 hE49 hT49 => ?_)
        ·
          refine ops_cons (fun f w_ hS49 hE49 hP49 => ?_) ?_
          ·
            have hx := ext_trans hx hE49
            have h1 := RP.ext h1 hE49
            have hb_g7 := Blk.ext hb_g7 hE49
            refine L_ld (v := v1) rfl Try.isAgg22 ((hS49 3 rfl).trans rfl) (hb_g7.cell (j := 0) rfl) ?_
            exact L_nil ⟨rfl, (ext_refl _), _, _, rfl, rfl, rfl⟩
          refine ops_cons (fun f w_ hS49 hE49 hP49 => ?_) ?_
          ·
            have hx := ext_trans hx hE49
            have h1 := RP.ext h1 hE49
            refine L_ix (r := RP.int) rfl Try.underlying22 Try.sizeOf3 (hP49 0 56 rfl rfl) h1 rfl hx43 ?_
            intro g54 o55 cs55 hr55 hat55
            obtain rfl : _ = [_] := hr55
            exact L_nil ⟨rfl, (ext_refl _), _, _, rfl, rfl, ⟨_, _, _, rfl, rfl, hat55⟩⟩
          refine ops_cons (fun f w_ hS49 hE49 hP49 => ?_) ?_
          ·
            have hx := ext_trans hx hE49
            obtain ⟨g56, o56, cs56, hv56, hr56, hat56⟩ := (hP49 1 57 rfl rfl)
            obtain rfl : _ = [_] := hr56
            refine L_ld (v := .int .i64 x43) rfl Try.isAgg3 hv56 (hat56.cell (j := 0) rfl) ?_
            exact L_nil ⟨rfl, (ext_refl _), _, _, rfl, rfl, rfl⟩
          refine ops_cons (fun f w_ hS49 hE49 hP49 => ?_) ?_
          ·
            have hx := ext_trans hx hE49
            have h1 := RP.ext h1 hE49
            have hb_g7 := Blk.ext hb_g7 hE49
            refine L_ld (v := v1) rfl Try.isAgg22 ((hS49 3 rfl).trans rfl) (hb_g7.cell (j := 0) rfl) ?_
            exact L_nil ⟨rfl, (ext_refl _), _, _, rfl, rfl, rfl⟩
          refine ops_cons (fun f w_ hS49 hE49 hP49 => ?_) ?_
          ·
            have hx := ext_trans hx hE49
            have h1 := RP.ext h1 hE49
            refine L_ix (r := RP.int) rfl Try.underlying22 Try.sizeOf3 (hP49 3 59 rfl rfl) h1 rfl hx46 ?_
            intro g57 o58 cs58 hr58 hat58
            obtain rfl : _ = [_] := hr58
            exact L_nil ⟨rfl, (ext_refl _), _, _, rfl, rfl, ⟨_, _, _, rfl, rfl, hat58⟩⟩
          refine ops_cons (fun f w_ hS49 hE49 hP49 => ?_) ?_
          ·
            have hx := ext_trans hx hE49
            obtain ⟨g59, o59, cs59, hv59, hr59, hat59⟩ := (hP49 4 60 rfl rfl)
            obtain rfl : _ = [_] := hr59
            refine L_ld (v := .int .i64 x46) rfl Try.isAgg3 hv59 (hat59.cell (j := 0) rfl) ?_
            exact L_nil ⟨rfl, (ext_refl _), _, _, rfl, rfl, rfl⟩
          exact ops_nil
        ·
          have h0_1 := RP.ext h0_1 hE49
          have h0_2 := RP.ext h0_2 hE49
          have h0_4 := RP.ext h0_4 hE49
          have h1 := RP.ext h1 hE49
          have hb_g5 := Blk.ext hb_g5 hE49
          have hb_g7 := Blk.ext hb_g7 hE49
          have hx := ext_trans hx hE49
          refine L_lss (m := x43) (n := x46) rfl (hT49 2 58 rfl rfl) (hT49 5 61 rfl rfl) ?_
          refine L_as (v := .bool (decide (x43 < x46))) rfl rfl ?_
          refine L_nil ?_
          refine W_ret ?_
          obtain rfl := so hF
          refine ret1 Try.results74 ?_
          exact ⟨rfl, hx⟩

theorem i_Rule_at_c {r_ : Rule} {cells : List Int} {v0_1 : Value} {v0_2 : Value} {v0_4 : Value} {v1 : Value} {w : World} {B : Nat} (hB : B ≤ w.heap.size) (h0_1 : (RP.slice 3 RP.int).rel B w.heap.size w [v0_1] r_.vars) (h0_2 : (RP.slice 3 RP.int).rel B w.heap.size w [v0_2] r_.coefs) (h0_4 : (RP.slice 22 (RP.slice 3 RP.int)).rel B w.heap.size w [v0_4] r_.rows) (h1 : (RP.slice 3 RP.int).rel B w.heap.size w [v1] cells) {r : Bool} (hF : i_Rule_at r_ cells = some r) :
    C Try.prog 57 #[.agg #[.int .i64 r_.kind, v0_1, v0_2, .int .i64 r_.bound, v0_4], v1] w fun v w' => (v = .bool r) ∧ Ext w w' := by
  unfold i_Rule_at at hF
  have hx := ext_refl w
  refine C_enter Try.func57 rfl Try.ntmps57 rfl ?_
  refine W_seq ?_
  refine W_region ?_
  refine L_box (v := .agg #[.int .i64 r_.kind, v0_1, v0_2, .int .i64 r_.bound, v0_4]) (cs := #[.int .i64 r_.kind, v0_1, v0_2, .int .i64 r_.bound, v0_4]) rfl rfl rfl ?_
  intro g3 w4 hn4
  have hge_g3 := hn4.geS hx.size
  have hb_g3 := hn4.blk
  have h0_1 := RP.ext h0_1 hn4.ext
  have h0_2 := RP.ext h0_2 hn4.ext
  have h0_4 := RP.ext h0_4 hn4.ext
  have h1 := RP.ext h1 hn4.ext
  have hx := ext_trans hx hn4.ext
  refine L_as (v := .bool false) rfl rfl ?_
  refine L_nil ?_
  refine W_seq ?_
  refine W_region ?_
  refine L_as (v := (.slice none 0 0)) rfl rfl ?_
  refine L_nil ?_
  refine W_seq ?_
  refine W_seq ?_
  refine W_region ?_
  refine L_fa (o' := 1) rfl fa_68_1 rfl rfl ?_
  refine L_ld (v := v0_1) rfl Try.isAgg22 rfl (hb_g3.cell (j := 1) rfl) ?_
  refine L_len (v := v0_1) rfl Try.underlying22 rfl h0_1 ?_
  refine L_mv (v := .int .i64 0) rfl rfl ?_
  refine L_nil ?_
  have hlen7 := len_le h0_1
  obtain ⟨j7, hL7, hF⟩ := bind_some hF
  obtain ⟨R7, hR7⟩ : ∃ R : Fr → World → Prop, R = fun f w_ => ∃ vals_6 : List Int, ∃ v6_vals : Value, j7 = .nx vals_6 ∧ f 2 = .pointer (some ⟨g3, 0, none⟩) ∧ f 5 = v6_vals ∧ Own RP.int 3 w.heap.size B w_ v6_vals vals_6 ∧ (RP.slice 3 RP.int).rel B w.heap.size w_ [v0_1] r_.vars ∧ (RP.slice 3 RP.int).rel B w.heap.size w_ [v0_2] r_.coefs ∧ (RP.slice 22 (RP.slice 3 RP.int)).rel B w.heap.size w_ [v0_4] r_.rows ∧ Blk w_ g3 68 #[.int .i64 r_.kind, v0_1, v0_2, .int .i64 r_.bound, v0_4] ∧ Ext w w_ := ⟨_, rfl⟩
  refine W_join R7 ?_ ?_
  ·
    refine W_block ?_
    obtain ⟨I7, hI7⟩ : ∃ I : Nat → Fr → World → Prop, I = fun n f w_ => ∃ i_5 : Nat, ∃ suf7 : List Int, ∃ vals_6 : List Int, ∃ v6_vals : Value, n = suf7.length ∧ List.drop i_5 r_.vars = suf7 ∧ i_5 + suf7.length = r_.vars.length ∧ rangeL (i_Rule_at_b1 cells) suf7 i_5 vals_6 = some j7 ∧ f 1 = v1 ∧ f 2 = .pointer (some ⟨g3, 0, none⟩) ∧ f 5 = v6_vals ∧ f 9 = v0_1 ∧ f 10 = .int .i64 (r_.vars.length : Int) ∧ f 11 = .int .i64 (i_5 : Int) ∧ (RP.slice 3 RP.int).rel B w.heap.size w_ [v1] cells ∧ Own RP.int 3 w.heap.size B w_ v6_vals vals_6 ∧ (RP.slice 3 RP.int).rel B w.heap.size w_ [v0_1] r_.vars ∧ (RP.slice 3 RP.int).rel B w.heap.size w_ [v0_2] r_.coefs ∧ (RP.slice 22 (RP.slice 3 RP.int)).rel B w.heap.size w_ [v0_4] r_.rows ∧ Blk w_ g3 68 #[.int .i64 r_.kind, v0_1, v0_2, .int .i64 r_.bound, v0_4] ∧ Ext w w_ := ⟨_, rfl⟩
    refine W_loop I7 (n := r_.vars.length) ?_ ?_
    · rw [hI7]; exact ⟨0, r_.vars, [], (.slice none 0 0), rfl, rfl, Nat.zero_add _, hL7, rfl, rfl, rfl, rfl, rfl, rfl, h1, (Own.nil _ _ _ _ _), h0_1, h0_2, h0_4, hb_g3, hx⟩
    ·
      intro n7 f w_ hI
      rw [hI7] at hI
      obtain ⟨i_5, suf7, vals_6, v6_vals, rfl, hd7, hl7, hL7, sf1, sf2, sf5, sf9, sf10, sf11, h1, hv6_vals, h0_1, h0_2, h0_4, hb_g3, hx⟩ := hI
      refine W_seq ?_
      refine W_region ?_
      refine L_lss (m := (i_5 : Int)) (n := (r_.vars.length : Int)) rfl sf11 sf10 ?_
      refine L_nil ?_
      refine W_seq ?_
      refine W_cond (b := decide ((i_5 : Int) < (r_.vars.length : Int))) rfl (fun hc8 => ?_) (fun hc8 => ?_)
      ·
        have hlt7 := of_decide_eq_true hc8
        cases suf7 with
        | nil => exact absurd hlt7 (by simp at hl7; omega)
        | cons x_7 rest7 =>
          obtain ⟨o7, hB7, hL7⟩ := range_cons hL7
          rw [i_Rule_at_b1] at hB7
          have hix7 := drop_idx hd7
          refine W_skip ?_
          refine W_seq ?_
          refine W_block ?_
          refine W_seq ?_
          refine W_region ?_
          refine L_ix (r := RP.int) rfl Try.underlying22 Try.sizeOf3 sf9 h0_1 sf11 hix7 ?_
          intro g11 o12 cs12 hr12 hat12
          obtain rfl : _ = [_] := hr12
          refine L_ld (v := .int .i64 x_7) rfl Try.isAgg3 rfl (hat12.cell (j := 0) rfl) ?_
          refine L_as (v := .int .i64 x_7) rfl rfl ?_
          refine L_nil ?_
          obtain ⟨x13, hx13, hB7⟩ := bind_some hB7
          obtain ⟨x19, hx19, hB7⟩ := bind_some hB7
          refine W_region ?_
          refine L_mv (v := v6_vals) rfl sf5 ?_
          refine L_mv (v := v1) rfl sf1 ?_
          refine L_mv (v := .int .i64 x_7) rfl rfl ?_
          refine L_ix (r := RP.int) rfl Try.underlying22 Try.sizeOf3 rfl h1 rfl hx13 ?_
          intro g22 o23 cs23 hr23 hat23
          obtain rfl : _ = [_] := hr23
          refine L_ld (v := .int .i64 x13) rfl Try.isAgg3 rfl (hat23.cell (j := 0) rfl) ?_
          refine L_bs rfl (parts1 rfl) (bs_22_1_0 (.int .i64 x13) rfl) ?_
          intro g24 w25 hn25
          have ho25 : Own RP.int 3 w.heap.size B w25 _ [x13] := own_new1 hn25 hx.size rfl
          have ap26 := ap_ob hv6_vals hn25
          have h1 := RP.ext h1 hn25.ext
          have hv6_vals := Own.ext hv6_vals hn25.ext
          have h0_1 := RP.ext h0_1 hn25.ext
          have h0_2 := RP.ext h0_2 hn25.ext
          have h0_4 := RP.ext h0_4 hn25.ext
          have hb_g3 := Blk.ext hb_g3 hn25.ext
          have hx := ext_trans hx hn25.ext
          refine L_app (v := v6_vals) (u := (.slice (some ⟨g24, 0, none⟩) 1 1)) rfl et_22 (by decide) rfl rfl hv6_vals (rel0 (Own.rel ho25)) hx19 hx.size hB ?_
          intro v27 w27 ho27 hm27 hb27
          have h1 := hm27.rel_lo h1 (Nat.le_refl _)
          have h0_1 := hm27.rel_lo h0_1 (Nat.le_refl _)
          have h0_2 := hm27.rel_lo h0_2 (Nat.le_refl _)
          have h0_4 := hm27.rel_lo h0_4 (Nat.le_refl _)
          have hb_g3 := hm27.blk hb_g3 (by decide)
          have hx := ext_mut hx hm27 (Nat.le_refl _)
          refine L_as (v := v27) rfl rfl ?_
          refine L_nil ?_
          refine W_region ?_
          refine L_add (m := (i_5 : Int)) (n := 1) rfl sf11 rfl ?_
          refine L_mv (v := .int .i64 (i64 ((i_5 : Int) + 1))) rfl rfl ?_
          refine L_nil ?_
          obtain rfl := so hB7
          show ∃ m, m < _ ∧ I7 m _ _
          refine ⟨rest7.length, by simp, ?_⟩
          rw [hI7]
          exact ⟨i_5 + 1, rest7, x19, v27, rfl, drop_next hd7, by simp at hl7; omega, hL7, sf1, sf2, rfl, sf9, sf10, (Eq.trans rfl (congrArg (Value.int .i64) (i64_succ (n := r_.vars.length) (by simp at hl7; omega) hlen7))), h1, ho27, h0_1, h0_2, h0_4, hb_g3, hx⟩
      ·
        cases suf7 with
        | cons _ _ => exact absurd (of_decide_eq_false hc8) (by simp at hl7; omega)
        | nil =>
          obtain rfl := range_nil hL7
          refine W_exit ?_
          show R7 _ _
          rw [hR7]
          exact ⟨vals_6, v6_vals, rfl, sf2, sf5, hv6_vals, h0_1, h0_2, h0_4, hb_g3, hx⟩
  ·
    intro f w_ hR
    rw [hR7] at hR
    obtain ⟨vals_6, v6_vals, rfl, sf2, sf5, hv6_vals, h0_1, h0_2, h0_4, hb_g3, hx⟩ := hR
    clear hR7
    refine W_seq ?_
    obtain ⟨x28, hx28, hF⟩ := bind_some hF
    refine W_region ?_
    refine L_lda (cs := [.int .i64 r_.kind, v0_1, v0_2, .int .i64 r_.bound, v0_4]) rfl Try.isAgg68 Try.sizeOf68 sf2 (Blk.sub hb_g3 0 5) rfl ?_
    refine L_mv (v := v6_vals) rfl sf5 ?_
    refine L_call (args := #[.agg #[.int .i64 r_.kind, v0_1, v0_2, .int .i64 r_.bound, v0_4], v6_vals]) rfl Try.call74 (ops2 rfl rfl) (i_Rule_holds_c (r_ := r_) (vals := vals_6) (Nat.le_trans hB hx.size) (rel0 h0_1) (rel0 h0_2) (rel0 h0_4) (rel0 (Own.rel hv6_vals)) hx28) ?_
    rintro _ w30 ⟨rfl, he30⟩
    have hv6_vals := Own.ext hv6_vals he30
    have h0_1 := RP.ext h0_1 he30
    have h0_2 := RP.ext h0_2 he30
    have h0_4 := RP.ext h0_4 he30
    have hx := ext_trans hx he30
    refine L_as (v := .bool x28) rfl rfl ?_
    refine L_nil ?_
    refine W_ret ?_
    obtain rfl := so hF
    refine ret1 Try.results57 ?_
    exact ⟨rfl, hx⟩

theorem s_l6Solves_c {m : Model} {cells : List Int} {v0_0 : Value} {v0_1 : Value} {v1 : Value} {w : World} {B : Nat} (hB : B ≤ w.heap.size) (h0_0 : (RP.slice 3 RP.int).rel B w.heap.size w [v0_0] m.sizes) (h0_1 : (RP.slice 68 (rRule 3 22)).rel B w.heap.size w [v0_1] m.rules) (h1 : (RP.slice 3 RP.int).rel B w.heap.size w [v1] cells) {r : Bool} (hF : s_l6Solves m cells = some r) :
    C Try.prog 59 #[.agg #[v0_0, v0_1], v1] w fun v w' => (v = .bool r) ∧ Ext w w' := by
  unfold s_l6Solves at hF
  have hx := ext_refl w
  refine C_enter Try.func59 rfl Try.ntmps59 rfl ?_
  refine W_seq ?_
  refine W_region ?_
  refine L_box (v := .agg #[v0_0, v0_1]) (cs := #[v0_0, v0_1]) rfl rfl rfl ?_
  intro g3 w4 hn4
  have hge_g3 := hn4.geS hx.size
  have hb_g3 := hn4.blk
  have h0_0 := RP.ext h0_0 hn4.ext
  have h0_1 := RP.ext h0_1 hn4.ext
  have h1 := RP.ext h1 hn4.ext
  have hx := ext_trans hx hn4.ext
  refine L_as (v := .bool false) rfl rfl ?_
  refine L_nil ?_
  refine W_seq ?_
  refine W_seq ?_
  refine W_region ?_
  refine L_as (v := .int .i64 0) rfl rfl ?_
  refine L_nil ?_
  have hlen6 := len_le h0_1
  obtain ⟨j6, hL6, hF⟩ := bind_some hF
  obtain ⟨R6, hR6⟩ : ∃ R : Fr → World → Prop, R = fun f w_ => j6 = .nx () ∧ Ext w w_ := ⟨_, rfl⟩
  refine W_join R6 ?_ ?_
  ·
    refine W_block ?_
    obtain ⟨I6, hI6⟩ : ∃ I : Nat → Fr → World → Prop, I = fun n f w_ => ∃ i_5 : Nat, ∃ suf6 : List Rule, n = suf6.length ∧ List.drop i_5 m.rules = suf6 ∧ i_5 + suf6.length = m.rules.length ∧ rangeL (s_l6Solves_b1 cells) suf6 i_5 () = some j6 ∧ f 1 = v1 ∧ f 2 = .pointer (some ⟨g3, 0, none⟩) ∧ f 5 = .int .i64 (i_5 : Int) ∧ (RP.slice 3 RP.int).rel B w.heap.size w_ [v1] cells ∧ (RP.slice 3 RP.int).rel B w.heap.size w_ [v0_0] m.sizes ∧ (RP.slice 68 (rRule 3 22)).rel B w.heap.size w_ [v0_1] m.rules ∧ Blk w_ g3 30 #[v0_0, v0_1] ∧ Ext w w_ := ⟨_, rfl⟩
    refine W_loop I6 (n := m.rules.length) ?_ ?_
    · rw [hI6]; exact ⟨0, m.rules, rfl, rfl, Nat.zero_add _, hL6, rfl, rfl, rfl, h1, h0_0, h0_1, hb_g3, hx⟩
    ·
      intro n6 f w_ hI
      rw [hI6] at hI
      obtain ⟨i_5, suf6, rfl, hd6, hl6, hL6, sf1, sf2, sf5, h1, h0_0, h0_1, hb_g3, hx⟩ := hI
      refine W_seq ?_
      refine W_seq ?_
      refine W_region ?_
      refine L_mv (v := .int .i64 (i_5 : Int)) rfl sf5 ?_
      refine L_fa (o' := 1) rfl fa_30_1 sf2 rfl ?_
      refine L_ld (v := v0_1) rfl Try.isAgg28 rfl (hb_g3.cell (j := 1) rfl) ?_
      refine L_len (v := v0_1) rfl Try.underlying28 rfl h0_1 ?_
      refine L_lss (m := (i_5 : Int)) (n := (m.rules.length : Int)) rfl rfl rfl ?_
      refine L_nil ?_
      refine W_cond (b := decide ((i_5 : Int) < (m.rules.length : Int))) rfl (fun hc7 => ?_) (fun hc7 => ?_)
      ·
        have hlt6 := of_decide_eq_true hc7
        cases suf6 with
        | nil => exact absurd hlt6 (by simp at hl6; omega)
        | cons x_6 rest6 =>
          obtain ⟨o6, hB6, hL6⟩ := range_cons hL6
          rw [s_l6Solves_b1] at hB6
          have hix6 := drop_idx hd6
          refine W_skip ?_
          refine W_seq ?_
          refine W_block ?_
          refine W_seq ?_
          obtain ⟨x10, hx10, hB6⟩ := bind_some hB6
          refine W_region ?_
          refine L_fa (o' := 1) rfl fa_30_1 sf2 rfl ?_
          refine L_ld (v := v0_1) rfl Try.isAgg28 rfl (hb_g3.cell (j := 1) rfl) ?_
          refine L_mv (v := .int .i64 (i_5 : Int)) rfl sf5 ?_
          refine L_ix (r := (rRule 3 22)) rfl Try.underlying28 Try.sizeOf68 rfl h0_1 rfl hix6 ?_
          intro g12 o13 cs13 hr13 hat13
          obtain ⟨u13_0, u13_1, u13_2, rfl, hu13_0, hu13_1, hu13_2⟩ := rRule_iff.1 hr13
          refine L_lda (cs := [.int .i64 x_6.kind, u13_0, u13_1, .int .i64 x_6.bound, u13_2]) rfl Try.isAgg68 Try.sizeOf68 rfl (At.sub hat13 0 5) rfl ?_
          refine L_mv (v := v1) rfl sf1 ?_
          refine L_call (args := #[.agg #[.int .i64 x_6.kind, u13_0, u13_1, .int .i64 x_6.bound, u13_2], v1]) rfl Try.call54 (ops2 rfl rfl) (s_l6Holds_c (r_ := x_6) (cells := cells) (Nat.le_trans hB hx.size) (rel0 hu13_0) (rel0 hu13_1) (rel0 hu13_2) (rel0 h1) hx10) ?_
          rintro _ w14 ⟨rfl, he14⟩
          have h1 := RP.ext h1 he14
          have h0_0 := RP.ext h0_0 he14
          have h0_1 := RP.ext h0_1 he14
          have hb_g3 := Blk.ext hb_g3 he14
          have hu13_0 := RP.ext hu13_0 he14
          have hu13_1 := RP.ext hu13_1 he14
          have hu13_2 := RP.ext hu13_2 he14
          have hx := ext_trans hx he14
          refine L_not_ (b := x10) rfl rfl ?_
          refine L_nil ?_
          refine W_cond (b := (!x10)) rfl (fun hc15 => ?_) (fun hc15 => ?_)
          ·
            have hB6 := (ite_t hc15).symm.trans hB6
            refine W_seq ?_
            refine W_region ?_
            refine L_as (v := .bool false) rfl rfl ?_
            refine L_nil ?_
            refine W_ret ?_
            obtain rfl := so hB6
            obtain rfl := so hL6
            obtain rfl := so hF
            refine ret1 Try.results59 ?_
            exact ⟨rfl, hx⟩
          ·
            have hB6 := (ite_f hc15).symm.trans hB6
            refine W_skip ?_
            refine W_region ?_
            refine L_mv (v := .int .i64 (i_5 : Int)) rfl sf5 ?_
            refine L_add (m := (i_5 : Int)) (n := 1) rfl rfl rfl ?_
            refine L_as (v := .int .i64 (i64 ((i_5 : Int) + 1))) rfl rfl ?_
            refine L_nil ?_
            obtain rfl := so hB6
            show ∃ m, m < _ ∧ I6 m _ _
            refine ⟨rest6.length, by simp, ?_⟩
            rw [hI6]
            exact ⟨i_5 + 1, rest6, rfl, drop_next hd6, by simp at hl6; omega, hL6, sf1, sf2, (Eq.trans rfl (congrArg (Value.int .i64) (i64_succ (n := m.rules.length) (by simp at hl6; omega) hlen6))), h1, h0_0, h0_1, hb_g3, hx⟩
      ·
        cases suf6 with
        | cons _ _ => exact absurd (of_decide_eq_false hc7) (by simp at hl6; omega)
        | nil =>
          obtain rfl := range_nil hL6
          refine W_exit ?_
          show R6 _ _
          rw [hR6]
          exact ⟨rfl, hx⟩
  ·
    intro f w_ hR
    rw [hR6] at hR
    obtain ⟨rfl, hx⟩ := hR
    clear hR6
    refine W_seq ?_
    refine W_region ?_
    refine L_as (v := .bool true) rfl rfl ?_
    refine L_nil ?_
    refine W_ret ?_
    obtain rfl := so hF
    refine ret1 Try.results59 ?_
    exact ⟨rfl, hx⟩

theorem i_Model_solves_1_c {c1 : List Int} {r_ : Rule} {v0_1 : Value} {v0_2 : Value} {v0_4 : Value} {g_c1 : Nat} {v1_0 : Value} {w : World} {B : Nat} (hB : B ≤ w.heap.size) (h0_1 : (RP.slice 3 RP.int).rel B w.heap.size w [v0_1] r_.vars) (h0_2 : (RP.slice 3 RP.int).rel B w.heap.size w [v0_2] r_.coefs) (h0_4 : (RP.slice 22 (RP.slice 3 RP.int)).rel B w.heap.size w [v0_4] r_.rows) (hat_g_c1 : At w g_c1 0 [v1_0]) (h1_0 : (RP.slice 3 RP.int).rel B w.heap.size w [v1_0] c1) {r : Bool} (hF : i_Model_solves_1 c1 r_ = some r) :
    C Try.prog 76 #[.agg #[.int .i64 r_.kind, v0_1, v0_2, .int .i64 r_.bound, v0_4], .pointer (some ⟨g_c1, 0, none⟩)] w fun v w' => (v = .bool r) ∧ Ext w w' := by
  unfold i_Model_solves_1 at hF
  have hlt_g_c1 := hat_g_c1.lt
  have hx := ext_refl w
  refine C_enter Try.func76 rfl Try.ntmps76 rfl ?_
  refine W_seq ?_
  refine W_region ?_
  refine L_box (v := .agg #[.int .i64 r_.kind, v0_1, v0_2, .int .i64 r_.bound, v0_4]) (cs := #[.int .i64 r_.kind, v0_1, v0_2, .int .i64 r_.bound, v0_4]) rfl rfl rfl ?_
  intro g3 w4 hn4
  have hge_g3 := hn4.geS hx.size
  have hb_g3 := hn4.blk
  have h0_1 := RP.ext h0_1 hn4.ext
  have h0_2 := RP.ext h0_2 hn4.ext
  have h0_4 := RP.ext h0_4 hn4.ext
  have h1_0 := RP.ext h1_0 hn4.ext
  have hat_g_c1 := At.ext hat_g_c1 hn4.ext
  have hx := ext_trans hx hn4.ext
  refine L_as (v := .bool false) rfl rfl ?_
  refine L_nil ?_
  refine W_seq ?_
  obtain ⟨x5, hx5, hF⟩ := bind_some hF
  refine W_region ?_
  refine L_lda (cs := [.int .i64 r_.kind, v0_1, v0_2, .int .i64 r_.bound, v0_4]) rfl Try.isAgg68 Try.sizeOf68 rfl (Blk.sub hb_g3 0 5) rfl ?_
  refine L_ld (v := v1_0) rfl Try.isAgg22 rfl (hat_g_c1.cell (j := 0) rfl) ?_
  refine L_call (args := #[.agg #[.int .i64 r_.kind, v0_1, v0_2, .int .i64 r_.bound, v0_4], v1_0]) rfl Try.call57 (ops2 rfl rfl) (i_Rule_at_c (r_ := r_) (cells := c1) (Nat.le_trans hB hx.size) (rel0 h0_1) (rel0 h0_2) (rel0 h0_4) (rel0 h1_0) hx5) ?_
  rintro _ w7 ⟨rfl, he7⟩
  have h0_1 := RP.ext h0_1 he7
  have h0_2 := RP.ext h0_2 he7
  have h0_4 := RP.ext h0_4 he7
  have h1_0 := RP.ext h1_0 he7
  have hx := ext_trans hx he7
  refine L_not_ (b := x5) rfl rfl ?_
  refine L_as (v := .bool (!x5)) rfl rfl ?_
  refine L_nil ?_
  refine W_ret ?_
  obtain rfl := so hF
  refine ret1 Try.results76 ?_
  exact ⟨rfl, hx⟩

theorem i_Model_solves_c {m : Model} {cells : List Int} {v0_0 : Value} {v0_1 : Value} {v1 : Value} {w : World} {B : Nat} (hB : B ≤ w.heap.size) (h0_0 : (RP.slice 3 RP.int).rel B w.heap.size w [v0_0] m.sizes) (h0_1 : (RP.slice 68 (rRule 3 22)).rel B w.heap.size w [v0_1] m.rules) (h1 : (RP.slice 3 RP.int).rel B w.heap.size w [v1] cells) {r : Bool} (hF : i_Model_solves m cells = some r) :
    C Try.prog 60 #[.agg #[v0_0, v0_1], v1] w fun v w' => (v = .bool r) ∧ Ext w w' := by
  unfold i_Model_solves at hF
  have hx := ext_refl w
  refine C_enter Try.func60 rfl Try.ntmps60 rfl ?_
  refine W_seq ?_
  refine W_region ?_
  refine L_box (v := .agg #[v0_0, v0_1]) (cs := #[v0_0, v0_1]) rfl rfl rfl ?_
  intro g5 w6 hn6
  have hge_g5 := hn6.geS hx.size
  have hb_g5 := hn6.blk
  have h0_0 := RP.ext h0_0 hn6.ext
  have h0_1 := RP.ext h0_1 hn6.ext
  have h1 := RP.ext h1 hn6.ext
  have hx := ext_trans hx hn6.ext
  refine L_box (v := v1) (cs := #[v1]) rfl rfl (cells_one (one_of h1)) ?_
  intro g7 w8 hn8
  have hge_g7 := hn8.geS hx.size
  have hb_g7 := hn8.blk
  have h0_0 := RP.ext h0_0 hn8.ext
  have h0_1 := RP.ext h0_1 hn8.ext
  have h1 := RP.ext h1 hn8.ext
  have hb_g5 := Blk.ext hb_g5 hn8.ext
  have hx := ext_trans hx hn8.ext
  refine L_as (v := .bool false) rfl rfl ?_
  refine L_nil ?_
  refine W_seq ?_
  obtain ⟨x9, hx9, hF⟩ := bind_some hF
  refine W_region ?_
  refine L_fa (o' := 1) rfl fa_30_1 rfl rfl ?_
  refine L_ld (v := v0_1) rfl Try.isAgg28 rfl (hb_g5.cell (j := 1) rfl) ?_
  refine L_mf rfl (ops1 rfl) ?_
  have hf11 : Fun1 Try.prog B (rRule 3 22) true Value.bool (i_Model_solves_1 cells) (.func (.func 76) #[] #[.pointer (some ⟨g7, 0, none⟩)]) w8 := by
    refine ⟨_, _, rfl, Try.call76, fun w_ hE_ cs_ x_ y_ args_ hr_ hy_ ha_ => ?_⟩
    obtain ⟨p0, p1, p2, rfl, hp0, hp1, hp2⟩ := rRule_iff.1 hr_
    obtain rfl := args_of (b := #[.agg #[.int .i64 x_.kind, p0, p1, .int .i64 x_.bound, p2], .pointer (some ⟨g7, 0, none⟩)]) ha_
    exact i_Model_solves_1_c (c1 := cells) (r_ := x_) (Nat.le_trans hB (ext_trans hx hE_).size) hp0 hp1 hp2 (At.ext (Blk.at hb_g7) hE_) (rel0 (RP.ext h1 hE_)) hy_
  refine L_call (args := #[v0_1, .func (.func 76) #[] #[.pointer (some ⟨g7, 0, none⟩)]]) rfl Try.call68 (ops2 rfl rfl) (slices_ContainsFunc_implRule_c (s := m.rules) (f_ := (i_Model_solves_1 cells)) (Nat.le_trans hB hx.size) (rel0 h0_1) hf11 hx9) ?_
  rintro _ w12 ⟨rfl, he12⟩
  have h0_1 := RP.ext h0_1 he12
  have h1 := RP.ext h1 he12
  have hb_g7 := Blk.ext hb_g7 he12
  have hx := ext_trans hx he12
  refine L_not_ (b := x9) rfl rfl ?_
  refine L_as (v := .bool (!x9)) rfl rfl ?_
  refine L_nil ?_
  refine W_ret ?_
  obtain rfl := so hF
  refine ret1 Try.results60 ?_
  exact ⟨rfl, hx⟩

theorem s_l6Next_c {fu : Nat} {m : Model} {cells : List Int} {v0_0 : Value} {v0_1 : Value} {v1 : Value} {w : World} {B : Nat} (hB : B ≤ w.heap.size) (h0_0 : (RP.slice 3 RP.int).rel B w.heap.size w [v0_0] m.sizes) (h0_1 : (RP.slice 68 (rRule 3 22)).rel B w.heap.size w [v0_1] m.rules) (h1 : (RP.slice 3 RP.int).rel B w.heap.size w [v1] cells) {r : (List Int) × Bool} (hF : s_l6Next fu m cells = some r) :
    C Try.prog 62 #[.agg #[v0_0, v0_1], v1] w fun v w' => (∃ u1 : Value, v = .tuple #[u1, .bool r.2] ∧ Own RP.int 3 w.heap.size B w' u1 r.1) ∧ Ext w w' := by
  unfold s_l6Next at hF
  have hx := ext_refl w
  refine C_enter Try.func62 rfl Try.ntmps62 rfl ?_
  refine W_seq ?_
  refine W_region ?_
  refine L_box (v := .agg #[v0_0, v0_1]) (cs := #[v0_0, v0_1]) rfl rfl rfl ?_
  intro g3 w4 hn4
  have hge_g3 := hn4.geS hx.size
  have hb_g3 := hn4.blk
  have h0_0 := RP.ext h0_0 hn4.ext
  have h0_1 := RP.ext h0_1 hn4.ext
  have h1 := RP.ext h1 hn4.ext
  have hx := ext_trans hx hn4.ext
  refine L_as (v := (.slice none 0 0)) rfl rfl ?_
  refine L_as (v := .bool false) rfl rfl ?_
  refine L_nil ?_
  refine W_seq ?_
  obtain ⟨x7, hx7, hF⟩ := bind_some hF
  refine W_region ?_
  refine L_bs rfl parts0 (bs_22_0  ) ?_
  intro g9 w10 hn10
  have ho10 : Own RP.int 3 w.heap.size B w10 _ _ := own_new0 hn10 hx.size
  have hz10 := zero_new hn10 hx.size
  have h0_0 := RP.ext h0_0 hn10.ext
  have h0_1 := RP.ext h0_1 hn10.ext
  have h1 := RP.ext h1 hn10.ext
  have hb_g3 := Blk.ext hb_g3 hn10.ext
  have hx := ext_trans hx hn10.ext
  refine L_mv (v := v1) rfl rfl ?_
  refine L_app (v := (.slice (some ⟨g9, 0, none⟩) 0 0)) (u := v1) rfl et_22 (by decide) rfl rfl ho10 (rel0 h1) hx7 hx.size hB ?_
  intro v11 w11 ho11 hm11 hb11
  have h0_0 := hm11.rel_lo h0_0 (Nat.le_refl _)
  have h0_1 := hm11.rel_lo h0_1 (Nat.le_refl _)
  have hb_g3 := hm11.blk hb_g3 (by decide)
  have hx := ext_mut hx hm11 (Nat.le_refl _)
  refine L_as (v := v11) rfl rfl ?_
  refine L_nil ?_
  refine W_seq ?_
  refine W_seq ?_
  refine W_region ?_
  refine L_mv (v := v11) rfl rfl ?_
  refine L_len (v := v11) rfl Try.underlying22 rfl (Own.rel ho11) ?_
  refine L_sub (m := (x7.length : Int)) (n := 1) rfl rfl rfl ?_
  refine L_as (v := .int .i64 (i64 ((x7.length : Int) - 1))) rfl rfl ?_
  refine L_nil ?_
  obtain ⟨j15, hL15, hF⟩ := bind_some hF
  obtain ⟨R15, hR15⟩ : ∃ R : Fr → World → Prop, R = fun f w_ => ∃ out_13 : List Int, ∃ i_14 : Int, ∃ v13_out : Value, j15 = .nx (out_13, i_14) ∧ f 6 = v13_out ∧ Own RP.int 3 w.heap.size B w_ v13_out out_13 ∧ Ext w w_ := ⟨_, rfl⟩
  refine W_join R15 ?_ ?_
  ·
    refine W_block ?_
    obtain ⟨I15, hI15⟩ : ∃ I : Nat → Fr → World → Prop, I = fun n f w_ => ∃ out_13 : List Int, ∃ i_14 : Int, ∃ v13_out : Value, whileL (s_l6Next_b1 m) n (out_13, i_14) = some j15 ∧ f 2 = .pointer (some ⟨g3, 0, none⟩) ∧ f 6 = v13_out ∧ f 7 = .int .i64 i_14 ∧ Own RP.int 3 w.heap.size B w_ v13_out out_13 ∧ (RP.slice 3 RP.int).rel B w.heap.size w_ [v0_0] m.sizes ∧ (RP.slice 68 (rRule 3 22)).rel B w.heap.size w_ [v0_1] m.rules ∧ Blk w_ g3 30 #[v0_0, v0_1] ∧ Ext w w_ := ⟨_, rfl⟩
    refine W_loop I15 (n := fu) ?_ ?_
    · rw [hI15]; exact ⟨x7, i64 ((x7.length : Int) - 1), v11, hL15, rfl, rfl, rfl, ho11, h0_0, h0_1, hb_g3, hx⟩
    ·
      intro n15 f w_ hI
      rw [hI15] at hI
      obtain ⟨out_13, i_14, v13_out, hL15, sf2, sf6, sf7, hv13_out, h0_0, h0_1, hb_g3, hx⟩ := hI
      cases n15 with
      | zero => exact (while_zero hL15).elim
      | succ n15 =>
        obtain ⟨o15, hB15, hL15⟩ := while_succ hL15
        rw [s_l6Next_b1] at hB15
        refine W_seq ?_
        refine W_seq ?_
        refine W_region ?_
        refine L_mv (v := .int .i64 i_14) rfl sf7 ?_
        refine L_geq (m := i_14) (n := 0) rfl rfl rfl ?_
        refine L_nil ?_
        refine W_cond (b := decide (i_14 ≥ 0)) rfl (fun hc16 => ?_) (fun hc16 => ?_)
        ·
          have hB15 := (ite_t hc16).symm.trans hB15
          refine W_skip ?_
          refine W_seq ?_
          refine W_block ?_
          refine W_seq ?_
          refine W_seq ?_
          obtain ⟨x17, hx17, hB15⟩ := bind_some hB15
          obtain ⟨x20, hx20, hB15⟩ := bind_some hB15
          refine W_drawL 9 [isV (v13_out), isV (.int .i64 i_14), isEl B RP.int x17 0, isV (.int .i64 x17), isV (.pointer (some ⟨g3, 0, none⟩)), isV (v0_0), isV (.int .i64 i_14), isEl B RP.int x20 0, isV (.int .i64 x20)] Try_mix (by kernel_rfl) (am_cons (mono_V _) (am_cons (mono_V _) (am_cons (mono_el _ _ _ _) (am_cons (mono_V _) (am_cons (mono_V _) (am_cons (mono_V _) (am_cons (mono_V _) (am_cons (mono_el _ _ _ _) (am_cons (mono_V _) am_nil))))))))) ?_ (fun f w_ hS23 hE23 hT23 => ?_)
          ·
            refine ops_cons (fun f w_ hS23 hE23 hP23 => ?_) ?_
            ·
              have hx := ext_trans hx hE23
              have hv13_out := Own.ext hv13_out hE23
              refine L_mv (v := v13_out) rfl ((hS23 6 rfl).trans sf6) ?_
              exact L_nil ⟨rfl, (ext_refl _), _, _, rfl, rfl, rfl⟩
            refine ops_cons (fun f w_ hS23 hE23 hP23 => ?_) ?_
            ·
              have hx := ext_trans hx hE23
              refine L_mv (v := .int .i64 i_14) rfl ((hS23 7 rfl).trans sf7) ?_
              exact L_nil ⟨rfl, (ext_refl _), _, _, rfl, rfl, rfl⟩
            refine ops_cons (fun f w_ hS23 hE23 hP23 => ?_) ?_
            ·
              have hx := ext_trans hx hE23
              have hv13_out := Own.ext hv13_out hE23
              refine L_ix (r := RP.int) rfl Try.underlying22 Try.sizeOf3 (hP23 0 18 rfl rfl) (Own.rel hv13_out) (hP23 1 19 rfl rfl) hx17 ?_
              intro g28 o29 cs29 hr29 hat29
              obtain rfl : _ = [_] := hr29
              exact L_nil ⟨rfl, (ext_refl _), _, _, rfl, rfl, ⟨_, _, _, rfl, rfl, hat29⟩⟩
            refine ops_cons (fun f w_ hS23 hE23 hP23 => ?_) ?_
            ·
              have hx := ext_trans hx hE23
              obtain ⟨g30, o30, cs30, hv30, hr30, hat30⟩ := (hP23 2 20 rfl rfl)
              obtain rfl : _ = [_] := hr30
              refine L_ld (v := .int .i64 x17) rfl Try.isAgg3 hv30 (hat30.cell (j := 0) rfl) ?_
              exact L_nil ⟨rfl, (ext_refl _), _, _, rfl, rfl, rfl⟩
            refine ops_cons (fun f w_ hS23 hE23 hP23 => ?_) ?_
            ·
              have hx := ext_trans hx hE23
              have h0_0 := RP.ext h0_0 hE23
              have h0_1 := RP.ext h0_1 hE23
              have hb_g3 := Blk.ext hb_g3 hE23
              refine L_fa (o' := 0) rfl fa_30_0 ((hS23 2 rfl).trans sf2) rfl ?_
              exact L_nil ⟨rfl, (ext_refl _), _, _, rfl, rfl, rfl⟩
            refine ops_cons (fun f w_ hS23 hE23 hP23 => ?_) ?_
            ·
              have hx := ext_trans hx hE23
              have h0_0 := RP.ext h0_0 hE23
              have h0_1 := RP.ext h0_1 hE23
              have hb_g3 := Blk.ext hb_g3 hE23
              refine L_ld (v := v0_0) rfl Try.isAgg22 (hP23 4 22 rfl rfl) (hb_g3.cell (j := 0) rfl) ?_
              exact L_nil ⟨rfl, (ext_refl _), _, _, rfl, rfl, rfl⟩
            refine ops_cons (fun f w_ hS23 hE23 hP23 => ?_) ?_
            ·
              have hx := ext_trans hx hE23
              refine L_mv (v := .int .i64 i_14) rfl ((hS23 7 rfl).trans sf7) ?_
              exact L_nil ⟨rfl, (ext_refl _), _, _, rfl, rfl, rfl⟩
            refine ops_cons (fun f w_ hS23 hE23 hP23 => ?_) ?_
            ·
              have hx := ext_trans hx hE23
              have h0_0 := RP.ext h0_0 hE23
              refine L_ix (r := RP.int) rfl Try.underlying22 Try.sizeOf3 (hP23 5 23 rfl rfl) h0_0 (hP23 6 24 rfl rfl) hx20 ?_
              intro g31 o32 cs32 hr32 hat32
              obtain rfl : _ = [_] := hr32
              exact L_nil ⟨rfl, (ext_refl _), _, _, rfl, rfl, ⟨_, _, _, rfl, rfl, hat32⟩⟩
            refine ops_cons (fun f w_ hS23 hE23 hP23 => ?_) ?_
            ·
              have hx := ext_trans hx hE23
              obtain ⟨g33, o33, cs33, hv33, hr33, hat33⟩ := (hP23 7 25 rfl rfl)
              obtain rfl : _ = [_] := hr33
              refine L_ld (v := .int .i64 x20) rfl Try.isAgg3 hv33 (hat33.cell (j := 0) rfl) ?_
              exact L_nil ⟨rfl, (ext_refl _), _, _, rfl, rfl, rfl⟩
            exact ops_nil
          ·
            have hv13_out := Own.ext hv13_out hE23
            have h0_0 := RP.ext h0_0 hE23
            have h0_1 := RP.ext h0_1 hE23
            have hb_g3 := Blk.ext hb_g3 hE23
            have hx := ext_trans hx hE23
            refine L_lss (m := x17) (n := x20) rfl (hT23 3 21 rfl rfl) (hT23 8 26 rfl rfl) ?_
            refine L_nil ?_
            refine W_cond (b := decide (x17 < x20)) rfl (fun hc34 => ?_) (fun hc34 => ?_)
            ·
              have hB15 := (ite_t hc34).symm.trans hB15
              refine W_seq ?_
              refine W_region ?_
              refine L_mv (v := v13_out) rfl ((hS23 6 rfl).trans sf6) ?_
              refine L_mv (v := .int .i64 i_14) rfl ((hS23 7 rfl).trans sf7) ?_
              refine L_mv (v := v13_out) rfl ((hS23 6 rfl).trans sf6) ?_
              refine L_mv (v := .int .i64 i_14) rfl ((hS23 7 rfl).trans sf7) ?_
              refine L_ix (r := RP.int) rfl Try.underlying22 Try.sizeOf3 rfl (Own.rel hv13_out) rfl hx17 ?_
              intro g40 o41 cs41 hr41 hat41
              obtain rfl : _ = [_] := hr41
              refine L_ld (v := .int .i64 x17) rfl Try.isAgg3 rfl (hat41.cell (j := 0) rfl) ?_
              refine L_add (m := x17) (n := 1) rfl rfl rfl ?_
              refine L_ixo (r := RP.int) rfl et_22 rfl hv13_out rfl hx17 ?_
              intro g42 c43 cs43 hg43 hl43 hc43 hr43 hj43
              obtain rfl : cs43 = [_] := hr43
              refine L_st (v := .int .i64 (i64 (x17 + 1))) rfl Try.sizeOf3 rfl rfl rfl hc43 (hj43 0 _ rfl) ?_
              intro w44 hp44
              have hv13_out_n : Own RP.int 3 _ B w44 _ (out_13.set (Int.toNat i_14) (i64 (x17 + 1))) := own_set hv13_out hg43 rfl (by decide) (idx_some hx17).2.2 hc43 hp44 rfl hB
              have hx := ext_mut hx hp44.mu hl43
              have hv13_out := hv13_out_n
              refine L_nil ?_
              refine W_seq ?_
              refine W_region ?_
              refine L_mv (v := v13_out) rfl ((hS23 6 rfl).trans sf6) ?_
              refine L_as (v := v13_out) rfl rfl ?_
              refine L_as (v := .bool true) rfl rfl ?_
              refine L_nil ?_
              refine W_ret ?_
              obtain rfl := so hB15
              obtain rfl := so hL15
              obtain rfl := so hF
              refine ret2 Try.results62 ?_
              exact ⟨⟨v13_out, (tup2_eq rfl rfl), hv13_out⟩, hx⟩
            ·
              have hB15 := (ite_f hc34).symm.trans hB15
              refine W_skip ?_
              refine W_region ?_
              refine L_mv (v := v13_out) rfl ((hS23 6 rfl).trans sf6) ?_
              refine L_mv (v := .int .i64 i_14) rfl ((hS23 7 rfl).trans sf7) ?_
              refine L_ixo (r := RP.int) rfl et_22 rfl hv13_out rfl hx17 ?_
              intro g48 c49 cs49 hg49 hl49 hc49 hr49 hj49
              obtain rfl : cs49 = [_] := hr49
              refine L_st (v := .int .i64 0) rfl Try.sizeOf3 rfl rfl rfl hc49 (hj49 0 _ rfl) ?_
              intro w50 hp50
              have hv13_out_n : Own RP.int 3 _ B w50 _ (out_13.set (Int.toNat i_14) 0) := own_set hv13_out hg49 rfl (by decide) (idx_some hx17).2.2 hc49 hp50 rfl hB
              have h0_0 := hp50.mu.rel_lo h0_0 hl49
              have h0_1 := hp50.mu.rel_lo h0_1 hl49
              have hb_g3 := hp50.mu.blk hb_g3 (by decide)
              have hx := ext_mut hx hp50.mu hl49
              have hv13_out := hv13_out_n
              refine L_nil ?_
              refine W_region ?_
              refine L_mv (v := .int .i64 i_14) rfl ((hS23 7 rfl).trans sf7) ?_
              refine L_sub (m := i_14) (n := 1) rfl rfl rfl ?_
              refine L_as (v := .int .i64 (i64 (i_14 - 1))) rfl rfl ?_
              refine L_nil ?_
              obtain rfl := so hB15
              show ∃ m, m < _ ∧ I15 m _ _
              refine ⟨n15, Nat.lt_succ_self _, ?_⟩
              rw [hI15]
              exact ⟨(out_13.set (Int.toNat i_14) 0), i64 (i_14 - 1), v13_out, hL15, ((hS23 2 rfl).trans sf2), ((hS23 6 rfl).trans sf6), rfl, hv13_out, h0_0, h0_1, hb_g3, hx⟩
        ·
          have hB15 := (ite_f hc16).symm.trans hB15
          refine W_exit ?_
          obtain rfl := so hB15
          obtain rfl := so hL15
          show R15 _ _
          rw [hR15]
          exact ⟨out_13, i_14, v13_out, rfl, sf6, hv13_out, hx⟩
  ·
    intro f w_ hR
    rw [hR15] at hR
    obtain ⟨out_13, i_14, v13_out, rfl, sf6, hv13_out, hx⟩ := hR
    clear hR15
    refine W_seq ?_
    refine W_region ?_
    refine L_mv (v := v13_out) rfl sf6 ?_
    refine L_as (v := v13_out) rfl rfl ?_
    refine L_as (v := .bool false) rfl rfl ?_
    refine L_nil ?_
    refine W_ret ?_
    obtain rfl := so hF
    refine ret2 Try.results62 ?_
    exact ⟨⟨v13_out, (tup2_eq rfl rfl), hv13_out⟩, hx⟩

theorem s_CountModel_c {fu : Nat} {m : Model} {v0_0 : Value} {v0_1 : Value} {w : World} {B : Nat} (hB : B ≤ w.heap.size) (h0_0 : (RP.slice 3 RP.int).rel B w.heap.size w [v0_0] m.sizes) (h0_1 : (RP.slice 68 (rRule 3 22)).rel B w.heap.size w [v0_1] m.rules) {r : Int} (hF : s_CountModel fu m = some r) :
    C Try.prog 40 #[.agg #[v0_0, v0_1]] w fun v w' => (v = .int .i64 r) ∧ Ext w w' := by
  unfold s_CountModel at hF
  have hx := ext_refl w
  refine C_enter Try.func40 rfl Try.ntmps40 rfl ?_
  refine W_seq ?_
  refine W_region ?_
  refine L_box (v := .agg #[v0_0, v0_1]) (cs := #[v0_0, v0_1]) rfl rfl rfl ?_
  intro g3 w4 hn4
  have hge_g3 := hn4.geS hx.size
  have hb_g3 := hn4.blk
  have h0_0 := RP.ext h0_0 hn4.ext
  have h0_1 := RP.ext h0_1 hn4.ext
  have hx := ext_trans hx hn4.ext
  refine L_as (v := .int .i64 0) rfl rfl ?_
  refine L_nil ?_
  refine W_seq ?_
  refine W_seq ?_
  obtain ⟨x5, hx5, hF⟩ := bind_some hF
  refine W_region ?_
  refine L_lda (cs := [v0_0, v0_1]) rfl Try.isAgg30 Try.sizeOf30 rfl (Blk.sub hb_g3 0 2) rfl ?_
  refine L_call (args := #[.agg #[v0_0, v0_1]]) rfl Try.call44 (ops1 rfl) (s_ModelValid_c (m := m) (Nat.le_trans hB hx.size) (rel0 h0_0) (rel0 h0_1) hx5) ?_
  rintro _ w7 ⟨rfl, he7⟩
  have h0_0 := RP.ext h0_0 he7
  have h0_1 := RP.ext h0_1 he7
  have hb_g3 := Blk.ext hb_g3 he7
  have hx := ext_trans hx he7
  refine L_not_ (b := x5) rfl rfl ?_
  refine L_nil ?_
  refine W_cond (b := (!x5)) rfl (fun hc8 => ?_) (fun hc8 => ?_)
  ·
    have hF := (ite_t hc8).symm.trans hF
    refine W_seq ?_
    refine W_region ?_
    refine L_as (v := .int .i64 0) rfl rfl ?_
    refine L_nil ?_
    refine W_ret ?_
    obtain rfl := so hF
    refine ret1 Try.results40 ?_
    exact ⟨rfl, hx⟩
  ·
    have hF := (ite_f hc8).symm.trans hF
    refine W_skip ?_
    refine W_seq ?_
    refine W_region ?_
    refine L_as (v := .int .i64 0) rfl rfl ?_
    refine L_nil ?_
    refine W_seq ?_
    obtain ⟨x9, hx9, hF⟩ := bind_some hF
    refine W_region ?_
    refine L_fa (o' := 0) rfl fa_30_0 rfl rfl ?_
    refine L_ld (v := v0_0) rfl Try.isAgg22 rfl (hb_g3.cell (j := 0) rfl) ?_
    refine L_len (v := v0_0) rfl Try.underlying22 rfl h0_0 ?_
    refine L_mk (el := B) (r := RP.int) (z0 := 0) (zc := [.int .i64 0]) rfl et_22 (by kernel_rfl) (fun w => rfl) rfl rfl hx9 hx.size ?_
    intro v11 w11 ho11 he11 hb11
    have h0_0 := RP.ext h0_0 he11
    have h0_1 := RP.ext h0_1 he11
    have hb_g3 := Blk.ext hb_g3 he11
    have hx := ext_trans hx he11
    refine L_as (v := v11) rfl rfl ?_
    refine L_nil ?_
    refine W_seq ?_
    refine W_seq ?_
    refine W_region ?_
    refine L_as (v := .bool true) rfl rfl ?_
    refine L_nil ?_
    obtain ⟨j16, hL16, hF⟩ := bind_some hF
    obtain ⟨R16, hR16⟩ : ∃ R : Fr → World → Prop, R = fun f w_ => ∃ n_13 : Int, ∃ cells_14 : List Int, ∃ more_15 : Bool, j16 = .nx (n_13, cells_14, more_15) ∧ f 3 = .int .i64 n_13 ∧ Ext w w_ := ⟨_, rfl⟩
    refine W_join R16 ?_ ?_
    ·
      refine W_block ?_
      obtain ⟨I16, hI16⟩ : ∃ I : Nat → Fr → World → Prop, I = fun n f w_ => ∃ n_13 : Int, ∃ cells_14 : List Int, ∃ more_15 : Bool, ∃ v14_cells : Value, whileL (s_CountModel_b1 fu m) n (n_13, cells_14, more_15) = some j16 ∧ f 1 = .pointer (some ⟨g3, 0, none⟩) ∧ f 3 = .int .i64 n_13 ∧ f 4 = v14_cells ∧ f 5 = .bool more_15 ∧ Own RP.int 3 w.heap.size B w_ v14_cells cells_14 ∧ (RP.slice 3 RP.int).rel B w.heap.size w_ [v0_0] m.sizes ∧ (RP.slice 68 (rRule 3 22)).rel B w.heap.size w_ [v0_1] m.rules ∧ Blk w_ g3 30 #[v0_0, v0_1] ∧ Ext w w_ := ⟨_, rfl⟩
      refine W_loop I16 (n := fu) ?_ ?_
      · rw [hI16]; exact ⟨0, x9, true, v11, hL16, rfl, rfl, rfl, rfl, ho11, h0_0, h0_1, hb_g3, hx⟩
      ·
        intro n16 f w_ hI
        rw [hI16] at hI
        obtain ⟨n_13, cells_14, more_15, v14_cells, hL16, sf1, sf3, sf4, sf5, hv14_cells, h0_0, h0_1, hb_g3, hx⟩ := hI
        cases n16 with
        | zero => exact (while_zero hL16).elim
        | succ n16 =>
          obtain ⟨o16, hB16, hL16⟩ := while_succ hL16
          rw [s_CountModel_b1] at hB16
          refine W_seq ?_
          refine W_seq ?_
          refine W_region ?_
          refine L_mv (v := .bool more_15) rfl sf5 ?_
          refine L_nil ?_
          refine W_cond (b := more_15) rfl (fun hc17 => ?_) (fun hc17 => ?_)
          ·
            have hB16 := (ite_t hc17).symm.trans hB16
            refine W_skip ?_
            refine W_block ?_
            refine W_seq ?_
            refine W_seq ?_
            obtain ⟨x18, hx18, hB16⟩ := bind_some hB16
            refine W_region ?_
            refine L_lda (cs := [v0_0, v0_1]) rfl Try.isAgg30 Try.sizeOf30 sf1 (Blk.sub hb_g3 0 2) rfl ?_
            refine L_mv (v := v14_cells) rfl sf4 ?_
            refine L_call (args := #[.agg #[v0_0, v0_1], v14_cells]) rfl Try.call59 (ops2 rfl rfl) (s_l6Solves_c (m := m) (cells := cells_14) (Nat.le_trans hB hx.size) (rel0 h0_0) (rel0 h0_1) (rel0 (Own.rel hv14_cells)) hx18) ?_
            rintro _ w20 ⟨rfl, he20⟩
            have hv14_cells := Own.ext hv14_cells he20
            have h0_0 := RP.ext h0_0 he20
            have h0_1 := RP.ext h0_1 he20
            have hb_g3 := Blk.ext hb_g3 he20
            have hx := ext_trans hx he20
            refine L_nil ?_
            obtain ⟨n_21, hA22, hB16⟩ := bind_some hB16
            obtain ⟨R22, hR22⟩ : ∃ R : Fr → World → Prop, R = fun f w_ => f 1 = .pointer (some ⟨g3, 0, none⟩) ∧ f 3 = .int .i64 n_21 ∧ f 4 = v14_cells ∧ Own RP.int 3 w.heap.size B w_ v14_cells cells_14 ∧ (RP.slice 3 RP.int).rel B w.heap.size w_ [v0_0] m.sizes ∧ (RP.slice 68 (rRule 3 22)).rel B w.heap.size w_ [v0_1] m.rules ∧ Blk w_ g3 30 #[v0_0, v0_1] ∧ Ext w w_ := ⟨_, rfl⟩
            refine W_join R22 ?_ ?_
            ·
              refine W_cond (b := x18) rfl (fun hc23 => ?_) (fun hc23 => ?_)
              ·
                have hA22 := (ite_t hc23).symm.trans hA22
                refine W_region ?_
                refine L_mv (v := .int .i64 n_13) rfl sf3 ?_
                refine L_add (m := n_13) (n := 1) rfl rfl rfl ?_
                refine L_as (v := .int .i64 (i64 (n_13 + 1))) rfl rfl ?_
                refine L_nil ?_
                obtain rfl := so hA22
                show R22 _ _
                rw [hR22]
                exact ⟨sf1, rfl, sf4, hv14_cells, h0_0, h0_1, hb_g3, hx⟩
              ·
                have hA22 := (ite_f hc23).symm.trans hA22
                refine W_skip ?_
                obtain rfl := so hA22
                show R22 _ _
                rw [hR22]
                exact ⟨sf1, sf3, sf4, hv14_cells, h0_0, h0_1, hb_g3, hx⟩
            ·
              intro f w_ hR
              rw [hR22] at hR
              obtain ⟨sf1, sf3, sf4, hv14_cells, h0_0, h0_1, hb_g3, hx⟩ := hR
              clear hR22
              obtain ⟨x24, hx24, hB16⟩ := bind_some hB16
              refine W_region ?_
              refine L_lda (cs := [v0_0, v0_1]) rfl Try.isAgg30 Try.sizeOf30 sf1 (Blk.sub hb_g3 0 2) rfl ?_
              refine L_mv (v := v14_cells) rfl sf4 ?_
              refine L_call (args := #[.agg #[v0_0, v0_1], v14_cells]) rfl Try.call62 (ops2 rfl rfl) (s_l6Next_c (m := m) (cells := cells_14) (Nat.le_trans hB hx.size) (rel0 h0_0) (rel0 h0_1) (rel0 (Own.rel hv14_cells)) hx24) ?_
              rintro _ w27 ⟨⟨r27_0, rfl, hr27_0⟩, he27⟩
              have ap28 := ap_oc hv14_cells hr27_0
              have hr27_0 : Own _ _ w.heap.size B _ _ _ := hr27_0.wide hx.size (Nat.le_refl _)
              have hv14_cells := Own.ext hv14_cells he27
              have h0_0 := RP.ext h0_0 he27
              have h0_1 := RP.ext h0_1 he27
              have hb_g3 := Blk.ext hb_g3 he27
              have hx := ext_trans hx he27
              refine L_mv (v := .tuple #[r27_0, .bool x24.2]) rfl rfl ?_
              refine L_ex (v := r27_0) rfl rfl rfl ?_
              refine L_ex (v := .bool x24.2) rfl rfl rfl ?_
              refine L_as (v := r27_0) rfl rfl ?_
              refine L_as (v := .bool x24.2) rfl rfl ?_
              refine L_nil ?_
              obtain rfl := so hB16
              show ∃ m, m < _ ∧ I16 m _ _
              refine ⟨n16, Nat.lt_succ_self _, ?_⟩
              rw [hI16]
              exact ⟨n_21, x24.1, x24.2, r27_0, hL16, sf1, sf3, rfl, rfl, hr27_0, h0_0, h0_1, hb_g3, hx⟩
          ·
            have hB16 := (ite_f hc17).symm.trans hB16
            refine W_exit ?_
            obtain rfl := so hB16
            obtain rfl := so hL16
            show R16 _ _
            rw [hR16]
            exact ⟨n_13, cells_14, more_15, rfl, sf3, hx⟩
    ·
      intro f w_ hR
      rw [hR16] at hR
      obtain ⟨n_13, cells_14, more_15, rfl, sf3, hx⟩ := hR
      clear hR16
      refine W_seq ?_
      refine W_region ?_
      refine L_mv (v := .int .i64 n_13) rfl sf3 ?_
      refine L_as (v := .int .i64 n_13) rfl rfl ?_
      refine L_nil ?_
      refine W_ret ?_
      obtain rfl := so hF
      refine ret1 Try.results40 ?_
      exact ⟨rfl, hx⟩

theorem slices_Clone_int_c {s : List Int} {v0 : Value} {w : World} {B : Nat} (hB : B ≤ w.heap.size) (h0 : (RP.slice 3 RP.int).rel B w.heap.size w [v0] s) {r : List Int} (hF : slices_Clone_int s = some r) :
    C Try.prog 77 #[v0] w fun v w' => (∃ u1 : Value, v = u1 ∧ Own RP.int 3 w.heap.size B w' u1 r) ∧ Ext w w' := by
  unfold slices_Clone_int at hF
  have hx := ext_refl w
  refine C_enter Try.func77 rfl Try.ntmps77 rfl ?_
  refine W_seq ?_
  refine W_region ?_
  refine L_as (v := (.slice none 0 0)) rfl rfl ?_
  refine L_nil ?_
  refine W_seq ?_
  refine W_seq ?_
  refine W_region ?_
  refine L_mv (v := v0) rfl rfl ?_
  obtain ⟨a1, cap1, hsl1, _, _⟩ := slice_len h0
  refine L_nileq (a := a1) rfl Try.underlying22 (Eq.trans rfl hsl1) rfl ?_
  rw [← hsl1]
  refine L_nil ?_
  rcases Bool.eq_false_or_eq_true (isNilS v0) with hn2 | hn2
  ·
    refine W_cond (b := true) (Eq.trans rfl (congrArg Value.bool hn2)) (fun _ => ?_) (fun h => nomatch h)
    obtain rfl := nil_of h0 hn2
    refine W_seq ?_
    refine W_region ?_
    refine L_as (v := (.slice none 0 0)) rfl rfl ?_
    refine L_nil ?_
    refine W_ret ?_
    simp [app] at hF
    subst hF
    refine ret1 Try.results77 ?_
    exact ⟨⟨(.slice none 0 0), rfl, (Own.nil _ _ _ _ _)⟩, hx⟩
  ·
    refine W_cond (b := false) (Eq.trans rfl (congrArg Value.bool hn2)) (fun h => nomatch h) (fun _ => ?_)
    refine W_skip ?_
    refine W_seq ?_
    obtain ⟨x5, hx5, hF⟩ := bind_some hF
    refine W_region ?_
    refine L_bs rfl parts0 (bs_22_0  ) ?_
    intro g7 w8 hn8
    have ho8 : Own RP.int 3 w.heap.size B w8 _ _ := own_new0 hn8 hx.size
    have hz8 := zero_new hn8 hx.size
    have h0 := RP.ext h0 hn8.ext
    have hx := ext_trans hx hn8.ext
    refine L_mv (v := v0) rfl rfl ?_
    refine L_app (v := (.slice (some ⟨g7, 0, none⟩) 0 0)) (u := v0) rfl et_22 (by decide) rfl rfl ho8 (rel0 h0) hx5 hx.size hB ?_
    intro v9 w9 ho9 hm9 hb9
    have hx := ext_mut hx hm9 (Nat.le_refl _)
    refine L_as (v := v9) rfl rfl ?_
    refine L_nil ?_
    refine W_ret ?_
    obtain rfl := so hF
    refine ret1 Try.results77 ?_
    exact ⟨⟨v9, rfl, ho9⟩, hx⟩

end Go.Proofs.Yteojddfaiomfmaa

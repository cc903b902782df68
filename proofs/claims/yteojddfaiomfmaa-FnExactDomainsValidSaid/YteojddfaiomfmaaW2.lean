/- Part of a proof by program: W2. -/
import Derived.Test.YteojddfaiomfmaaD1
import Derived.Test.YteojddfaiomfmaaW1
namespace Go.Proofs.Yteojddfaiomfmaa
open Go Go.E Go.L Go.RowKit
set_option linter.unusedVariables false
set_option linter.unusedSimpArgs false
set_option maxRecDepth 100000

theorem i_ruleValid_2_c {c1 : Rule} {row : List Int} {v0 : Value} {g_c1 : Nat} {v1_1 : Value} {v1_2 : Value} {v1_4 : Value} {w : World} {B : Nat} (hB : B ≤ w.heap.size) (h0 : (RP.slice 3 RP.int).rel B w.heap.size w [v0] row) (hat_g_c1 : At w g_c1 0 [.int .i64 c1.kind, v1_1, v1_2, .int .i64 c1.bound, v1_4]) (h1_1 : (RP.slice 3 RP.int).rel B w.heap.size w [v1_1] c1.vars) (h1_2 : (RP.slice 3 RP.int).rel B w.heap.size w [v1_2] c1.coefs) (h1_4 : (RP.slice 22 (RP.slice 3 RP.int)).rel B w.heap.size w [v1_4] c1.rows) {r : Bool} (hF : i_ruleValid_2 c1 row = some r) :
    C Try.prog 88 #[v0, .pointer (some ⟨g_c1, 0, none⟩)] w fun v w' => (v = .bool r) ∧ Ext w w' := by
  unfold i_ruleValid_2 at hF
  have hlt_g_c1 := hat_g_c1.lt
  have hx := ext_refl w
  refine C_enter Try.func88 rfl Try.ntmps88 rfl ?_
  refine W_seq ?_
  refine W_region ?_
  refine L_as (v := .bool false) rfl rfl ?_
  refine L_nil ?_
  refine W_seq ?_
  obtain ⟨b3, hb3, hF⟩ := bind_some hF
  obtain ⟨R4, hR4⟩ : ∃ R : Fr → World → Prop, R = fun f w_ => f 3 = .bool b3 ∧ Ext w w_ := ⟨_, rfl⟩
  refine W_join R4 ?_ ?_
  ·
    refine W_region ?_
    refine L_mv (v := v0) rfl rfl ?_
    refine L_len (v := v0) rfl Try.underlying22 rfl h0 ?_
    refine L_fa (o' := 0 + 1) rfl fa_68_1 rfl rfl ?_
    refine L_ld (v := v1_1) rfl Try.isAgg22 rfl (hat_g_c1.cell (j := 1) rfl) ?_
    refine L_len (v := v1_1) rfl Try.underlying22 rfl h1_1 ?_
    refine L_neq (m := (row.length : Int)) (n := (c1.vars.length : Int)) rfl rfl rfl ?_
    refine L_mv (v := .bool ((row.length : Int) != (c1.vars.length : Int))) rfl rfl ?_
    refine L_split (d := 10) (b := ((row.length : Int) != (c1.vars.length : Int))) rfl (fun hc5 => ?_) (fun hc5 => ?_)
    ·
      rw [ite_t hc5] at hb3
      refine L_pass rfl ?_
      refine L_pass rfl ?_
      refine L_pick (v := .bool b3) rfl rfl (congrArg Value.bool (so hb3)) ?_
      refine L_as (v := .bool b3) rfl rfl ?_
      refine L_nil ?_
      show R4 _ _
      rw [hR4]
      exact ⟨rfl, hx⟩
    ·
      rw [ite_f hc5] at hb3
      obtain ⟨x1, hx1, hb3⟩ := bind_some hb3
      refine L_mv (v := v0) rfl rfl ?_
      have hf6 : Fun1 Try.prog B RP.int false Value.bool i_ruleValid_2_1 (.func (.func 89) #[] #[]) w := by
        refine ⟨_, _, rfl, Try.call89, fun w_ hE_ cs_ x_ y_ args_ hr_ hy_ ha_ => ?_⟩
        obtain rfl : cs_ = [_] := hr_
        obtain rfl := args_of (b := #[.int .i64 x_]) ha_
        exact i_ruleValid_2_1_c (n_ := x_) (Nat.le_trans hB (ext_trans hx hE_).size) hy_
      refine L_call (args := #[v0, .func (.func 89) #[] #[]]) rfl Try.call85 (ops2 rfl rfl) (slices_ContainsFunc_int_c (s := row) (f_ := i_ruleValid_2_1) (Nat.le_trans hB hx.size) (rel0 h0) hf6 hx1) ?_
      rintro _ w7 ⟨rfl, he7⟩
      have h0 := RP.ext h0 he7
      have hx := ext_trans hx he7
      refine L_pick (v := .bool b3) rfl rfl (congrArg Value.bool (so hb3)) ?_
      refine L_as (v := .bool b3) rfl rfl ?_
      refine L_nil ?_
      show R4 _ _
      rw [hR4]
      exact ⟨rfl, hx⟩
  ·
    intro f w_ hR
    rw [hR4] at hR
    obtain ⟨sf3, hx⟩ := hR
    clear hR4
    refine W_ret ?_
    obtain rfl := so hF
    refine ret1 Try.results88 ?_
    exact ⟨sf3, hx⟩

theorem i_ruleValid_c {r_ : Rule} {cells : Int} {v0_1 : Value} {v0_2 : Value} {v0_4 : Value} {w : World} {B : Nat} (hB : B ≤ w.heap.size) (h0_1 : (RP.slice 3 RP.int).rel B w.heap.size w [v0_1] r_.vars) (h0_2 : (RP.slice 3 RP.int).rel B w.heap.size w [v0_2] r_.coefs) (h0_4 : (RP.slice 22 (RP.slice 3 RP.int)).rel B w.heap.size w [v0_4] r_.rows) {r : Bool} (hF : i_ruleValid r_ cells = some r) :
    C Try.prog 70 #[.agg #[.int .i64 r_.kind, v0_1, v0_2, .int .i64 r_.bound, v0_4], .int .i64 cells] w fun v w' => (v = .bool r) ∧ Ext w w' := by
  unfold i_ruleValid at hF
  have hx := ext_refl w
  refine C_enter Try.func70 rfl Try.ntmps70 rfl ?_
  refine W_seq ?_
  refine W_region ?_
  refine L_box (v := .agg #[.int .i64 r_.kind, v0_1, v0_2, .int .i64 r_.bound, v0_4]) (cs := #[.int .i64 r_.kind, v0_1, v0_2, .int .i64 r_.bound, v0_4]) rfl rfl rfl ?_
  intro g3 w4 hn4
  have hge_g3 := hn4.ge hx
  have hb_g3 := hn4.blk
  have h0_1 := RP.ext h0_1 hn4.ext
  have h0_2 := RP.ext h0_2 hn4.ext
  have h0_4 := RP.ext h0_4 hn4.ext
  have hx := ext_trans hx hn4.ext
  refine L_as (v := .bool false) rfl rfl ?_
  refine L_nil ?_
  refine W_seq ?_
  refine W_seq ?_
  refine W_region ?_
  refine L_fa (o' := 1) rfl fa_68_1 rfl rfl ?_
  refine L_ld (v := v0_1) rfl Try.isAgg22 rfl (hb_g3.cell (j := 1) rfl) ?_
  refine L_len (v := v0_1) rfl Try.underlying22 rfl h0_1 ?_
  refine L_mv (v := .int .i64 0) rfl rfl ?_
  refine L_nil ?_
  have hlen6 := len_le h0_1
  obtain ⟨j6, hL6, hF⟩ := bind_some hF
  obtain ⟨R6, hR6⟩ : ∃ R : Fr → World → Prop, R = fun f w_ => j6 = .nx () ∧ f 2 = .pointer (some ⟨g3, 0, none⟩) ∧ (RP.slice 3 RP.int).rel B w.heap.size w_ [v0_1] r_.vars ∧ (RP.slice 3 RP.int).rel B w.heap.size w_ [v0_2] r_.coefs ∧ (RP.slice 22 (RP.slice 3 RP.int)).rel B w.heap.size w_ [v0_4] r_.rows ∧ Blk w_ g3 68 #[.int .i64 r_.kind, v0_1, v0_2, .int .i64 r_.bound, v0_4] ∧ Ext w w_ := ⟨_, rfl⟩
  refine W_join R6 ?_ ?_
  ·
    refine W_block ?_
    obtain ⟨I6, hI6⟩ : ∃ I : Nat → Fr → World → Prop, I = fun n f w_ => ∃ i_5 : Nat, ∃ suf6 : List Int, n = suf6.length ∧ List.drop i_5 r_.vars = suf6 ∧ i_5 + suf6.length = r_.vars.length ∧ rangeL (i_ruleValid_b1 r_ cells) suf6 i_5 () = some j6 ∧ f 1 = .int .i64 cells ∧ f 2 = .pointer (some ⟨g3, 0, none⟩) ∧ f 8 = v0_1 ∧ f 9 = .int .i64 (r_.vars.length : Int) ∧ f 10 = .int .i64 (i_5 : Int) ∧ (RP.slice 3 RP.int).rel B w.heap.size w_ [v0_1] r_.vars ∧ (RP.slice 3 RP.int).rel B w.heap.size w_ [v0_2] r_.coefs ∧ (RP.slice 22 (RP.slice 3 RP.int)).rel B w.heap.size w_ [v0_4] r_.rows ∧ Blk w_ g3 68 #[.int .i64 r_.kind, v0_1, v0_2, .int .i64 r_.bound, v0_4] ∧ Ext w w_ := ⟨_, rfl⟩
    refine W_loop I6 (n := r_.vars.length) ?_ ?_
    · rw [hI6]; exact ⟨0, r_.vars, rfl, rfl, Nat.zero_add _, hL6, rfl, rfl, rfl, rfl, rfl, h0_1, h0_2, h0_4, hb_g3, hx⟩
    ·
      intro n6 f w_ hI
      rw [hI6] at hI
      obtain ⟨i_5, suf6, rfl, hd6, hl6, hL6, sf1, sf2, sf8, sf9, sf10, h0_1, h0_2, h0_4, hb_g3, hx⟩ := hI
      refine W_seq ?_
      refine W_region ?_
      refine L_lss (m := (i_5 : Int)) (n := (r_.vars.length : Int)) rfl sf10 sf9 ?_
      refine L_nil ?_
      refine W_seq ?_
      refine W_cond (b := decide ((i_5 : Int) < (r_.vars.length : Int))) rfl (fun hc7 => ?_) (fun hc7 => ?_)
      ·
        have hlt6 := of_decide_eq_true hc7
        cases suf6 with
        | nil => exact absurd hlt6 (by simp at hl6; omega)
        | cons x_6 rest6 =>
          obtain ⟨o6, hB6, hL6⟩ := range_cons hL6
          rw [i_ruleValid_b1] at hB6
          have hix6 := drop_idx hd6
          refine W_skip ?_
          refine W_seq ?_
          refine W_block ?_
          refine W_seq ?_
          refine W_region ?_
          refine L_mv (v := .int .i64 (i_5 : Int)) rfl sf10 ?_
          refine L_ix (r := RP.int) rfl Try.underlying22 Try.sizeOf3 sf8 h0_1 sf10 hix6 ?_
          intro g10 o11 cs11 hr11 hat11
          obtain rfl : _ = [_] := hr11
          refine L_ld (v := .int .i64 x_6) rfl Try.isAgg3 rfl (hat11.cell (j := 0) rfl) ?_
          refine L_as (v := .int .i64 (i_5 : Int)) rfl rfl ?_
          refine L_as (v := .int .i64 x_6) rfl rfl ?_
          refine L_nil ?_
          refine W_seq ?_
          obtain ⟨x12, hx12, hB6⟩ := bind_some hB6
          obtain ⟨b18, hb18, hB6⟩ := bind_some hB6
          obtain ⟨R19, hR19⟩ : ∃ R : Fr → World → Prop, R = fun f w_ => f 1 = .int .i64 cells ∧ f 2 = .pointer (some ⟨g3, 0, none⟩) ∧ f 8 = v0_1 ∧ f 9 = .int .i64 (r_.vars.length : Int) ∧ f 10 = .int .i64 (i_5 : Int) ∧ f 27 = .bool b18 ∧ (RP.slice 3 RP.int).rel B w.heap.size w_ [v0_1] r_.vars ∧ (RP.slice 3 RP.int).rel B w.heap.size w_ [v0_2] r_.coefs ∧ (RP.slice 22 (RP.slice 3 RP.int)).rel B w.heap.size w_ [v0_4] r_.rows ∧ Blk w_ g3 68 #[.int .i64 r_.kind, v0_1, v0_2, .int .i64 r_.bound, v0_4] ∧ Ext w w_ := ⟨_, rfl⟩
          refine W_join R19 ?_ ?_
          ·
            refine W_region ?_
            refine L_mv (v := .int .i64 x_6) rfl rfl ?_
            refine L_mv (v := .int .i64 cells) rfl sf1 ?_
            refine L_sub (m := cells) (n := 1) rfl rfl rfl ?_
            refine L_call (args := #[.int .i64 x_6, .int .i64 0, .int .i64 (i64 (cells - 1))]) rfl Try.call48 (ops3 rfl rfl rfl) (i_within_c (n_ := x_6) (low := 0) (high := i64 (cells - 1)) (Nat.le_trans hB hx.size) hx12) ?_
            rintro _ w20 ⟨rfl, he20⟩
            have h0_1 := RP.ext h0_1 he20
            have h0_2 := RP.ext h0_2 he20
            have h0_4 := RP.ext h0_4 he20
            have hb_g3 := Blk.ext hb_g3 he20
            have hx := ext_trans hx he20
            refine L_not_ (b := x12) rfl rfl ?_
            refine L_mv (v := .bool (!x12)) rfl rfl ?_
            refine L_split (d := 20) (b := (!x12)) rfl (fun hc21 => ?_) (fun hc21 => ?_)
            ·
              rw [ite_t hc21] at hb18
              refine L_pass rfl ?_
              refine L_pass rfl ?_
              refine L_pass rfl ?_
              refine L_pass rfl ?_
              refine L_pass rfl ?_
              refine L_pass rfl ?_
              refine L_pick (v := .bool b18) rfl rfl (congrArg Value.bool (so hb18)) ?_
              refine L_nil ?_
              show R19 _ _
              rw [hR19]
              exact ⟨sf1, sf2, sf8, sf9, sf10, rfl, h0_1, h0_2, h0_4, hb_g3, hx⟩
            ·
              rw [ite_f hc21] at hb18
              obtain ⟨x14, hx14, hb18⟩ := bind_some hb18
              obtain ⟨x16, hx16, hb18⟩ := bind_some hb18
              refine L_fa (o' := 1) rfl fa_68_1 sf2 rfl ?_
              refine L_ld (v := v0_1) rfl Try.isAgg22 rfl (hb_g3.cell (j := 1) rfl) ?_
              refine L_mv (v := .int .i64 (i_5 : Int)) rfl rfl ?_
              refine L_sl (a := 0) (b := (i_5 : Int)) rfl et_22 rfl h0_1 rfl rfl hx14 ?_
              intro v22 hs22
              refine L_mv (v := .int .i64 x_6) rfl rfl ?_
              refine L_call (args := #[v22, .int .i64 x_6]) rfl Try.call84 (ops2 rfl rfl) (slices_Contains_int_c (s := x14) (v_ := x_6) (Nat.le_trans hB hx.size) (rel0 hs22) hx16) ?_
              rintro _ w23 ⟨rfl, he23⟩
              have h0_1 := RP.ext h0_1 he23
              have h0_2 := RP.ext h0_2 he23
              have h0_4 := RP.ext h0_4 he23
              have hb_g3 := Blk.ext hb_g3 he23
              have hs22 := RP.ext hs22 he23
              have hx := ext_trans hx he23
              refine L_pick (v := .bool b18) rfl rfl (congrArg Value.bool (so hb18)) ?_
              refine L_nil ?_
              show R19 _ _
              rw [hR19]
              exact ⟨sf1, sf2, sf8, sf9, sf10, rfl, h0_1, h0_2, h0_4, hb_g3, hx⟩
          ·
            intro f w_ hR
            rw [hR19] at hR
            obtain ⟨sf1, sf2, sf8, sf9, sf10, sf27, h0_1, h0_2, h0_4, hb_g3, hx⟩ := hR
            clear hR19
            refine W_cond (b := b18) sf27 (fun hc24 => ?_) (fun hc24 => ?_)
            ·
              have hB6 := (ite_t hc24).symm.trans hB6
              refine W_seq ?_
              refine W_region ?_
              refine L_as (v := .bool false) rfl rfl ?_
              refine L_nil ?_
              refine W_ret ?_
              obtain rfl := so hB6
              obtain rfl := so hL6
              obtain rfl := so hF
              refine ret1 Try.results70 ?_
              exact ⟨rfl, hx⟩
            ·
              have hB6 := (ite_f hc24).symm.trans hB6
              refine W_skip ?_
              refine W_region ?_
              refine L_add (m := (i_5 : Int)) (n := 1) rfl sf10 rfl ?_
              refine L_mv (v := .int .i64 (i64 ((i_5 : Int) + 1))) rfl rfl ?_
              refine L_nil ?_
              obtain rfl := so hB6
              show ∃ m, m < _ ∧ I6 m _ _
              refine ⟨rest6.length, by simp, ?_⟩
              rw [hI6]
              exact ⟨i_5 + 1, rest6, rfl, drop_next hd6, by simp at hl6; omega, hL6, sf1, sf2, sf8, sf9, (Eq.trans rfl (congrArg (Value.int .i64) (i64_succ (n := r_.vars.length) (by simp at hl6; omega) hlen6))), h0_1, h0_2, h0_4, hb_g3, hx⟩
      ·
        cases suf6 with
        | cons _ _ => exact absurd (of_decide_eq_false hc7) (by simp at hl6; omega)
        | nil =>
          obtain rfl := range_nil hL6
          refine W_exit ?_
          show R6 _ _
          rw [hR6]
          exact ⟨rfl, sf2, h0_1, h0_2, h0_4, hb_g3, hx⟩
  ·
    intro f w_ hR
    rw [hR6] at hR
    obtain ⟨rfl, sf2, h0_1, h0_2, h0_4, hb_g3, hx⟩ := hR
    clear hR6
    refine W_seq ?_
    refine W_seq ?_
    obtain ⟨R25, hR25⟩ : ∃ R : Fr → World → Prop, R = fun f w_ => f 2 = .pointer (some ⟨g3, 0, none⟩) ∧ f 59 = .bool ((((r_.vars.length : Int) == 0) || ((r_.kind != 1) && ((decide ((r_.coefs.length : Int) > 0)) || (r_.bound != 0)))) || ((r_.kind != 3) && (decide ((r_.rows.length : Int) > 0)))) ∧ (RP.slice 3 RP.int).rel B w.heap.size w_ [v0_1] r_.vars ∧ (RP.slice 3 RP.int).rel B w.heap.size w_ [v0_2] r_.coefs ∧ (RP.slice 22 (RP.slice 3 RP.int)).rel B w.heap.size w_ [v0_4] r_.rows ∧ Blk w_ g3 68 #[.int .i64 r_.kind, v0_1, v0_2, .int .i64 r_.bound, v0_4] ∧ Ext w w_ := ⟨_, rfl⟩
    refine W_join R25 ?_ ?_
    ·
      refine W_region ?_
      refine L_fa (o' := 1) rfl fa_68_1 sf2 rfl ?_
      refine L_ld (v := v0_1) rfl Try.isAgg22 rfl (hb_g3.cell (j := 1) rfl) ?_
      refine L_len (v := v0_1) rfl Try.underlying22 rfl h0_1 ?_
      refine L_eql (m := (r_.vars.length : Int)) (n := 0) rfl rfl rfl ?_
      refine L_mv (v := .bool ((r_.vars.length : Int) == 0)) rfl rfl ?_
      refine L_split (d := 33) (b := ((r_.vars.length : Int) == 0)) rfl (fun hc26 => ?_) (fun hc26 => ?_)
      ·
        refine L_pass rfl ?_
        refine L_pass rfl ?_
        refine L_pass rfl ?_
        refine L_pass rfl ?_
        refine L_pass rfl ?_
        refine L_pass rfl ?_
        refine L_pass rfl ?_
        refine L_pass rfl ?_
        refine L_pass rfl ?_
        refine L_pass rfl ?_
        refine L_pass rfl ?_
        refine L_pass rfl ?_
        refine L_pass rfl ?_
        refine L_pass rfl ?_
        refine L_pick (v := .bool (((r_.vars.length : Int) == 0) || ((r_.kind != 1) && ((decide ((r_.coefs.length : Int) > 0)) || (r_.bound != 0))))) rfl rfl (or_t hc26) ?_
        refine L_mv (v := .bool (((r_.vars.length : Int) == 0) || ((r_.kind != 1) && ((decide ((r_.coefs.length : Int) > 0)) || (r_.bound != 0))))) rfl rfl ?_
        refine L_split (d := 49) (b := (((r_.vars.length : Int) == 0) || ((r_.kind != 1) && ((decide ((r_.coefs.length : Int) > 0)) || (r_.bound != 0))))) rfl (fun hc27 => ?_) (fun hc27 => ?_)
        ·
          refine L_pass rfl ?_
          refine L_pass rfl ?_
          refine L_pass rfl ?_
          refine L_pass rfl ?_
          refine L_pass rfl ?_
          refine L_pass rfl ?_
          refine L_pass rfl ?_
          refine L_pass rfl ?_
          refine L_pass rfl ?_
          refine L_pick (v := .bool ((((r_.vars.length : Int) == 0) || ((r_.kind != 1) && ((decide ((r_.coefs.length : Int) > 0)) || (r_.bound != 0)))) || ((r_.kind != 3) && (decide ((r_.rows.length : Int) > 0))))) rfl rfl (or_t hc27) ?_
          refine L_nil ?_
          show R25 _ _
          rw [hR25]
          exact ⟨sf2, rfl, h0_1, h0_2, h0_4, hb_g3, hx⟩
        ·
          refine L_fa (o' := 0) rfl fa_68_0 sf2 rfl ?_
          refine L_ld (v := .int .i64 r_.kind) rfl Try.isAgg3 rfl (hb_g3.cell (j := 0) rfl) ?_
          refine L_neq (m := r_.kind) (n := 3) rfl rfl rfl ?_
          refine L_mv (v := .bool (r_.kind != 3)) rfl rfl ?_
          refine L_split (d := 53) (b := (r_.kind != 3)) rfl (fun hc28 => ?_) (fun hc28 => ?_)
          ·
            refine L_fa (o' := 4) rfl fa_68_4 sf2 rfl ?_
            refine L_ld (v := v0_4) rfl Try.isAgg66 rfl (hb_g3.cell (j := 4) rfl) ?_
            refine L_len (v := v0_4) rfl Try.underlying66 rfl h0_4 ?_
            refine L_gtr (m := (r_.rows.length : Int)) (n := 0) rfl rfl rfl ?_
            refine L_pick (v := .bool ((r_.kind != 3) && (decide ((r_.rows.length : Int) > 0)))) rfl rfl (and_t hc28 rfl) ?_
            refine L_pick (v := .bool ((((r_.vars.length : Int) == 0) || ((r_.kind != 1) && ((decide ((r_.coefs.length : Int) > 0)) || (r_.bound != 0)))) || ((r_.kind != 3) && (decide ((r_.rows.length : Int) > 0))))) rfl rfl (or_f hc27 rfl) ?_
            refine L_nil ?_
            show R25 _ _
            rw [hR25]
            exact ⟨sf2, rfl, h0_1, h0_2, h0_4, hb_g3, hx⟩
          ·
            refine L_pass rfl ?_
            refine L_pass rfl ?_
            refine L_pass rfl ?_
            refine L_pass rfl ?_
            refine L_pick (v := .bool ((r_.kind != 3) && (decide ((r_.rows.length : Int) > 0)))) rfl rfl (and_f hc28) ?_
            refine L_pick (v := .bool ((((r_.vars.length : Int) == 0) || ((r_.kind != 1) && ((decide ((r_.coefs.length : Int) > 0)) || (r_.bound != 0)))) || ((r_.kind != 3) && (decide ((r_.rows.length : Int) > 0))))) rfl rfl (or_f hc27 rfl) ?_
            refine L_nil ?_
            show R25 _ _
            rw [hR25]
            exact ⟨sf2, rfl, h0_1, h0_2, h0_4, hb_g3, hx⟩
      ·
        refine L_fa (o' := 0) rfl fa_68_0 sf2 rfl ?_
        refine L_ld (v := .int .i64 r_.kind) rfl Try.isAgg3 rfl (hb_g3.cell (j := 0) rfl) ?_
        refine L_neq (m := r_.kind) (n := 1) rfl rfl rfl ?_
        refine L_mv (v := .bool (r_.kind != 1)) rfl rfl ?_
        refine L_split (d := 37) (b := (r_.kind != 1)) rfl (fun hc29 => ?_) (fun hc29 => ?_)
        ·
          refine L_fa (o' := 2) rfl fa_68_2 sf2 rfl ?_
          refine L_ld (v := v0_2) rfl Try.isAgg22 rfl (hb_g3.cell (j := 2) rfl) ?_
          refine L_len (v := v0_2) rfl Try.underlying22 rfl h0_2 ?_
          refine L_gtr (m := (r_.coefs.length : Int)) (n := 0) rfl rfl rfl ?_
          refine L_mv (v := .bool (decide ((r_.coefs.length : Int) > 0))) rfl rfl ?_
          refine L_split (d := 42) (b := decide ((r_.coefs.length : Int) > 0)) rfl (fun hc30 => ?_) (fun hc30 => ?_)
          ·
            refine L_pass rfl ?_
            refine L_pass rfl ?_
            refine L_pass rfl ?_
            refine L_pick (v := .bool ((decide ((r_.coefs.length : Int) > 0)) || (r_.bound != 0))) rfl rfl (or_t hc30) ?_
            refine L_pick (v := .bool ((r_.kind != 1) && ((decide ((r_.coefs.length : Int) > 0)) || (r_.bound != 0)))) rfl rfl (and_t hc29 rfl) ?_
            refine L_pick (v := .bool (((r_.vars.length : Int) == 0) || ((r_.kind != 1) && ((decide ((r_.coefs.length : Int) > 0)) || (r_.bound != 0))))) rfl rfl (or_f hc26 rfl) ?_
            refine L_mv (v := .bool (((r_.vars.length : Int) == 0) || ((r_.kind != 1) && ((decide ((r_.coefs.length : Int) > 0)) || (r_.bound != 0))))) rfl rfl ?_
            refine L_split (d := 49) (b := (((r_.vars.length : Int) == 0) || ((r_.kind != 1) && ((decide ((r_.coefs.length : Int) > 0)) || (r_.bound != 0))))) rfl (fun hc31 => ?_) (fun hc31 => ?_)
            ·
              refine L_pass rfl ?_
              refine L_pass rfl ?_
              refine L_pass rfl ?_
              refine L_pass rfl ?_
              refine L_pass rfl ?_
              refine L_pass rfl ?_
              refine L_pass rfl ?_
              refine L_pass rfl ?_
              refine L_pass rfl ?_
              refine L_pick (v := .bool ((((r_.vars.length : Int) == 0) || ((r_.kind != 1) && ((decide ((r_.coefs.length : Int) > 0)) || (r_.bound != 0)))) || ((r_.kind != 3) && (decide ((r_.rows.length : Int) > 0))))) rfl rfl (or_t hc31) ?_
              refine L_nil ?_
              show R25 _ _
              rw [hR25]
              exact ⟨sf2, rfl, h0_1, h0_2, h0_4, hb_g3, hx⟩
            ·
              refine L_fa (o' := 0) rfl fa_68_0 sf2 rfl ?_
              refine L_ld (v := .int .i64 r_.kind) rfl Try.isAgg3 rfl (hb_g3.cell (j := 0) rfl) ?_
              refine L_neq (m := r_.kind) (n := 3) rfl rfl rfl ?_
              refine L_mv (v := .bool (r_.kind != 3)) rfl rfl ?_
              refine L_split (d := 53) (b := (r_.kind != 3)) rfl (fun hc32 => ?_) (fun hc32 => ?_)
              ·
                refine L_fa (o' := 4) rfl fa_68_4 sf2 rfl ?_
                refine L_ld (v := v0_4) rfl Try.isAgg66 rfl (hb_g3.cell (j := 4) rfl) ?_
                refine L_len (v := v0_4) rfl Try.underlying66 rfl h0_4 ?_
                refine L_gtr (m := (r_.rows.length : Int)) (n := 0) rfl rfl rfl ?_
                refine L_pick (v := .bool ((r_.kind != 3) && (decide ((r_.rows.length : Int) > 0)))) rfl rfl (and_t hc32 rfl) ?_
                refine L_pick (v := .bool ((((r_.vars.length : Int) == 0) || ((r_.kind != 1) && ((decide ((r_.coefs.length : Int) > 0)) || (r_.bound != 0)))) || ((r_.kind != 3) && (decide ((r_.rows.length : Int) > 0))))) rfl rfl (or_f hc31 rfl) ?_
                refine L_nil ?_
                show R25 _ _
                rw [hR25]
                exact ⟨sf2, rfl, h0_1, h0_2, h0_4, hb_g3, hx⟩
              ·
                refine L_pass rfl ?_
                refine L_pass rfl ?_
                refine L_pass rfl ?_
                refine L_pass rfl ?_
                refine L_pick (v := .bool ((r_.kind != 3) && (decide ((r_.rows.length : Int) > 0)))) rfl rfl (and_f hc32) ?_
                refine L_pick (v := .bool ((((r_.vars.length : Int) == 0) || ((r_.kind != 1) && ((decide ((r_.coefs.length : Int) > 0)) || (r_.bound != 0)))) || ((r_.kind != 3) && (decide ((r_.rows.length : Int) > 0))))) rfl rfl (or_f hc31 rfl) ?_
                refine L_nil ?_
                show R25 _ _
                rw [hR25]
                exact ⟨sf2, rfl, h0_1, h0_2, h0_4, hb_g3, hx⟩
          ·
            refine L_fa (o' := 3) rfl fa_68_3 sf2 rfl ?_
            refine L_ld (v := .int .i64 r_.bound) rfl Try.isAgg3 rfl (hb_g3.cell (j := 3) rfl) ?_
            refine L_neq (m := r_.bound) (n := 0) rfl rfl rfl ?_
            refine L_pick (v := .bool ((decide ((r_.coefs.length : Int) > 0)) || (r_.bound != 0))) rfl rfl (or_f hc30 rfl) ?_
            refine L_pick (v := .bool ((r_.kind != 1) && ((decide ((r_.coefs.length : Int) > 0)) || (r_.bound != 0)))) rfl rfl (and_t hc29 rfl) ?_
            refine L_pick (v := .bool (((r_.vars.length : Int) == 0) || ((r_.kind != 1) && ((decide ((r_.coefs.length : Int) > 0)) || (r_.bound != 0))))) rfl rfl (or_f hc26 rfl) ?_
            refine L_mv (v := .bool (((r_.vars.length : Int) == 0) || ((r_.kind != 1) && ((decide ((r_.coefs.length : Int) > 0)) || (r_.bound != 0))))) rfl rfl ?_
            refine L_split (d := 49) (b := (((r_.vars.length : Int) == 0) || ((r_.kind != 1) && ((decide ((r_.coefs.length : Int) > 0)) || (r_.bound != 0))))) rfl (fun hc33 => ?_) (fun hc33 => ?_)
            ·
              refine L_pass rfl ?_
              refine L_pass rfl ?_
              refine L_pass rfl ?_
              refine L_pass rfl ?_
              refine L_pass rfl ?_
              refine L_pass rfl ?_
              refine L_pass rfl ?_
              refine L_pass rfl ?_
              refine L_pass rfl ?_
              refine L_pick (v := .bool ((((r_.vars.length : Int) == 0) || ((r_.kind != 1) && ((decide ((r_.coefs.length : Int) > 0)) || (r_.bound != 0)))) || ((r_.kind != 3) && (decide ((r_.rows.length : Int) > 0))))) rfl rfl (or_t hc33) ?_
              refine L_nil ?_
              show R25 _ _
              rw [hR25]
              exact ⟨sf2, rfl, h0_1, h0_2, h0_4, hb_g3, hx⟩
            ·
              refine L_fa (o' := 0) rfl fa_68_0 sf2 rfl ?_
              refine L_ld (v := .int .i64 r_.kind) rfl Try.isAgg3 rfl (hb_g3.cell (j := 0) rfl) ?_
              refine L_neq (m := r_.kind) (n := 3) rfl rfl rfl ?_
              refine L_mv (v := .bool (r_.kind != 3)) rfl rfl ?_
              refine L_split (d := 53) (b := (r_.kind != 3)) rfl (fun hc34 => ?_) (fun hc34 => ?_)
              ·
                refine L_fa (o' := 4) rfl fa_68_4 sf2 rfl ?_
                refine L_ld (v := v0_4) rfl Try.isAgg66 rfl (hb_g3.cell (j := 4) rfl) ?_
                refine L_len (v := v0_4) rfl Try.underlying66 rfl h0_4 ?_
                refine L_gtr (m := (r_.rows.length : Int)) (n := 0) rfl rfl rfl ?_
                refine L_pick (v := .bool ((r_.kind != 3) && (decide ((r_.rows.length : Int) > 0)))) rfl rfl (and_t hc34 rfl) ?_
                refine L_pick (v := .bool ((((r_.vars.length : Int) == 0) || ((r_.kind != 1) && ((decide ((r_.coefs.length : Int) > 0)) || (r_.bound != 0)))) || ((r_.kind != 3) && (decide ((r_.rows.length : Int) > 0))))) rfl rfl (or_f hc33 rfl) ?_
                refine L_nil ?_
                show R25 _ _
                rw [hR25]
                exact ⟨sf2, rfl, h0_1, h0_2, h0_4, hb_g3, hx⟩
              ·
                refine L_pass rfl ?_
                refine L_pass rfl ?_
                refine L_pass rfl ?_
                refine L_pass rfl ?_
                refine L_pick (v := .bool ((r_.kind != 3) && (decide ((r_.rows.length : Int) > 0)))) rfl rfl (and_f hc34) ?_
                refine L_pick (v := .bool ((((r_.vars.length : Int) == 0) || ((r_.kind != 1) && ((decide ((r_.coefs.length : Int) > 0)) || (r_.bound != 0)))) || ((r_.kind != 3) && (decide ((r_.rows.length : Int) > 0))))) rfl rfl (or_f hc33 rfl) ?_
                refine L_nil ?_
                show R25 _ _
                rw [hR25]
                exact ⟨sf2, rfl, h0_1, h0_2, h0_4, hb_g3, hx⟩
        ·
          refine L_pass rfl ?_
          refine L_pass rfl ?_
          refine L_pass rfl ?_
          refine L_pass rfl ?_
          refine L_pass rfl ?_
          refine L_pass rfl ?_
          refine L_pass rfl ?_
          refine L_pass rfl ?_
          refine L_pass rfl ?_
          refine L_pick (v := .bool ((r_.kind != 1) && ((decide ((r_.coefs.length : Int) > 0)) || (r_.bound != 0)))) rfl rfl (and_f hc29) ?_
          refine L_pick (v := .bool (((r_.vars.length : Int) == 0) || ((r_.kind != 1) && ((decide ((r_.coefs.length : Int) > 0)) || (r_.bound != 0))))) rfl rfl (or_f hc26 rfl) ?_
          refine L_mv (v := .bool (((r_.vars.length : Int) == 0) || ((r_.kind != 1) && ((decide ((r_.coefs.length : Int) > 0)) || (r_.bound != 0))))) rfl rfl ?_
          refine L_split (d := 49) (b := (((r_.vars.length : Int) == 0) || ((r_.kind != 1) && ((decide ((r_.coefs.length : Int) > 0)) || (r_.bound != 0))))) rfl (fun hc35 => ?_) (fun hc35 => ?_)
          ·
            refine L_pass rfl ?_
            refine L_pass rfl ?_
            refine L_pass rfl ?_
            refine L_pass rfl ?_
            refine L_pass rfl ?_
            refine L_pass rfl ?_
            refine L_pass rfl ?_
            refine L_pass rfl ?_
            refine L_pass rfl ?_
            refine L_pick (v := .bool ((((r_.vars.length : Int) == 0) || ((r_.kind != 1) && ((decide ((r_.coefs.length : Int) > 0)) || (r_.bound != 0)))) || ((r_.kind != 3) && (decide ((r_.rows.length : Int) > 0))))) rfl rfl (or_t hc35) ?_
            refine L_nil ?_
            show R25 _ _
            rw [hR25]
            exact ⟨sf2, rfl, h0_1, h0_2, h0_4, hb_g3, hx⟩
          ·
            refine L_fa (o' := 0) rfl fa_68_0 sf2 rfl ?_
            refine L_ld (v := .int .i64 r_.kind) rfl Try.isAgg3 rfl (hb_g3.cell (j := 0) rfl) ?_
            refine L_neq (m := r_.kind) (n := 3) rfl rfl rfl ?_
            refine L_mv (v := .bool (r_.kind != 3)) rfl rfl ?_
            refine L_split (d := 53) (b := (r_.kind != 3)) rfl (fun hc36 => ?_) (fun hc36 => ?_)
            ·
              refine L_fa (o' := 4) rfl fa_68_4 sf2 rfl ?_
              refine L_ld (v := v0_4) rfl Try.isAgg66 rfl (hb_g3.cell (j := 4) rfl) ?_
              refine L_len (v := v0_4) rfl Try.underlying66 rfl h0_4 ?_
              refine L_gtr (m := (r_.rows.length : Int)) (n := 0) rfl rfl rfl ?_
              refine L_pick (v := .bool ((r_.kind != 3) && (decide ((r_.rows.length : Int) > 0)))) rfl rfl (and_t hc36 rfl) ?_
              refine L_pick (v := .bool ((((r_.vars.length : Int) == 0) || ((r_.kind != 1) && ((decide ((r_.coefs.length : Int) > 0)) || (r_.bound != 0)))) || ((r_.kind != 3) && (decide ((r_.rows.length : Int) > 0))))) rfl rfl (or_f hc35 rfl) ?_
              refine L_nil ?_
              show R25 _ _
              rw [hR25]
              exact ⟨sf2, rfl, h0_1, h0_2, h0_4, hb_g3, hx⟩
            ·
              refine L_pass rfl ?_
              refine L_pass rfl ?_
              refine L_pass rfl ?_
              refine L_pass rfl ?_
              refine L_pick (v := .bool ((r_.kind != 3) && (decide ((r_.rows.length : Int) > 0)))) rfl rfl (and_f hc36) ?_
              refine L_pick (v := .bool ((((r_.vars.length : Int) == 0) || ((r_.kind != 1) && ((decide ((r_.coefs.length : Int) > 0)) || (r_.bound != 0)))) || ((r_.kind != 3) && (decide ((r_.rows.length : Int) > 0))))) rfl rfl (or_f hc35 rfl) ?_
              refine L_nil ?_
              show R25 _ _
              rw [hR25]
              exact ⟨sf2, rfl, h0_1, h0_2, h0_4, hb_g3, hx⟩
    ·
      intro f w_ hR
      rw [hR25] at hR
      obtain ⟨sf2, sf59, h0_1, h0_2, h0_4, hb_g3, hx⟩ := hR
      clear hR25
      refine W_cond (b := ((((r_.vars.length : Int) == 0) || ((r_.kind != 1) && ((decide ((r_.coefs.length : Int) > 0)) || (r_.bound != 0)))) || ((r_.kind != 3) && (decide ((r_.rows.length : Int) > 0))))) sf59 (fun hc37 => ?_) (fun hc37 => ?_)
      ·
        have hF := (ite_t hc37).symm.trans hF
        refine W_seq ?_
        refine W_region ?_
        refine L_as (v := .bool false) rfl rfl ?_
        refine L_nil ?_
        refine W_ret ?_
        obtain rfl := so hF
        refine ret1 Try.results70 ?_
        exact ⟨rfl, hx⟩
      ·
        have hF := (ite_f hc37).symm.trans hF
        refine W_skip ?_
        refine W_seq ?_
        refine W_seq ?_
        refine W_region ?_
        refine L_fa (o' := 0) rfl fa_68_0 sf2 rfl ?_
        refine L_ld (v := .int .i64 r_.kind) rfl Try.isAgg3 rfl (hb_g3.cell (j := 0) rfl) ?_
        refine L_nil ?_
        refine W_block ?_
        refine W_seq ?_
        refine W_region ?_
        refine L_eql (m := r_.kind) (n := 1) rfl rfl rfl ?_
        refine L_as (v := .bool (r_.kind == 1)) rfl rfl ?_
        refine L_nil ?_
        refine W_cond (b := (r_.kind == 1)) rfl (fun hc38 => ?_) (fun hc38 => ?_)
        ·
          have hF := (ite_t hc38).symm.trans hF
          refine W_seq ?_
          obtain ⟨b41, hb41, hF⟩ := bind_some hF
          obtain ⟨b44, hb44, hF⟩ := bind_some hF
          obtain ⟨R45, hR45⟩ : ∃ R : Fr → World → Prop, R = fun f w_ => f 4 = .bool b44 ∧ Ext w w_ := ⟨_, rfl⟩
          refine W_join R45 ?_ ?_
          ·
            refine W_region ?_
            refine L_fa (o' := 2) rfl fa_68_2 sf2 rfl ?_
            refine L_ld (v := v0_2) rfl Try.isAgg22 rfl (hb_g3.cell (j := 2) rfl) ?_
            refine L_len (v := v0_2) rfl Try.underlying22 rfl h0_2 ?_
            refine L_fa (o' := 1) rfl fa_68_1 sf2 rfl ?_
            refine L_ld (v := v0_1) rfl Try.isAgg22 rfl (hb_g3.cell (j := 1) rfl) ?_
            refine L_len (v := v0_1) rfl Try.underlying22 rfl h0_1 ?_
            refine L_eql (m := (r_.coefs.length : Int)) (n := (r_.vars.length : Int)) rfl rfl rfl ?_
            refine L_mv (v := .bool ((r_.coefs.length : Int) == (r_.vars.length : Int))) rfl rfl ?_
            refine L_split (d := 71) (b := ((r_.coefs.length : Int) == (r_.vars.length : Int))) rfl (fun hc46 => ?_) (fun hc46 => ?_)
            ·
              rw [ite_t hc46] at hb41
              obtain ⟨x39, hx39, hb41⟩ := bind_some hb41
              refine L_fa (o' := 3) rfl fa_68_3 sf2 rfl ?_
              refine L_ld (v := .int .i64 r_.bound) rfl Try.isAgg3 rfl (hb_g3.cell (j := 3) rfl) ?_
              refine L_call (args := #[.int .i64 r_.bound, .int .i64 (-1000), .int .i64 1000]) rfl Try.call48 (ops3 rfl rfl rfl) (i_within_c (n_ := r_.bound) (low := (-1000)) (high := 1000) (Nat.le_trans hB hx.size) hx39) ?_
              rintro _ w47 ⟨rfl, he47⟩
              have h0_1 := RP.ext h0_1 he47
              have h0_2 := RP.ext h0_2 he47
              have h0_4 := RP.ext h0_4 he47
              have hb_g3 := Blk.ext hb_g3 he47
              have hx := ext_trans hx he47
              refine L_pick (v := .bool b41) rfl rfl (congrArg Value.bool (so hb41)) ?_
              refine L_mv (v := .bool b41) rfl rfl ?_
              refine L_split (d := 76) (b := b41) rfl (fun hc48 => ?_) (fun hc48 => ?_)
              ·
                rw [ite_t hc48] at hb44
                obtain ⟨x42, hx42, hb44⟩ := bind_some hb44
                refine L_fa (o' := 2) rfl fa_68_2 sf2 rfl ?_
                refine L_ld (v := v0_2) rfl Try.isAgg22 rfl (hb_g3.cell (j := 2) rfl) ?_
                have hf49 : Fun1 Try.prog B RP.int false Value.bool i_ruleValid_1 (.func (.func 86) #[] #[]) w47 := by
                  refine ⟨_, _, rfl, Try.call86, fun w_ hE_ cs_ x_ y_ args_ hr_ hy_ ha_ => ?_⟩
                  obtain rfl : cs_ = [_] := hr_
                  obtain rfl := args_of (b := #[.int .i64 x_]) ha_
                  exact i_ruleValid_1_c (n_ := x_) (Nat.le_trans hB (ext_trans hx hE_).size) hy_
                refine L_call (args := #[v0_2, .func (.func 86) #[] #[]]) rfl Try.call85 (ops2 rfl rfl) (slices_ContainsFunc_int_c (s := r_.coefs) (f_ := i_ruleValid_1) (Nat.le_trans hB hx.size) (rel0 h0_2) hf49 hx42) ?_
                rintro _ w50 ⟨rfl, he50⟩
                have h0_2 := RP.ext h0_2 he50
                have hx := ext_trans hx he50
                refine L_not_ (b := x42) rfl rfl ?_
                refine L_pick (v := .bool b44) rfl rfl (congrArg Value.bool (so hb44)) ?_
                refine L_as (v := .bool b44) rfl rfl ?_
                refine L_nil ?_
                show R45 _ _
                rw [hR45]
                exact ⟨rfl, hx⟩
              ·
                rw [ite_f hc48] at hb44
                refine L_pass rfl ?_
                refine L_pass rfl ?_
                refine L_pass rfl ?_
                refine L_pass rfl ?_
                refine L_pick (v := .bool b44) rfl rfl (congrArg Value.bool (so hb44)) ?_
                refine L_as (v := .bool b44) rfl rfl ?_
                refine L_nil ?_
                show R45 _ _
                rw [hR45]
                exact ⟨rfl, hx⟩
            ·
              rw [ite_f hc46] at hb41
              refine L_pass rfl ?_
              refine L_pass rfl ?_
              refine L_pass rfl ?_
              refine L_pick (v := .bool b41) rfl rfl (congrArg Value.bool (so hb41)) ?_
              refine L_mv (v := .bool b41) rfl rfl ?_
              refine L_split (d := 76) (b := b41) rfl (fun hc51 => ?_) (fun hc51 => ?_)
              ·
                rw [ite_t hc51] at hb44
                obtain ⟨x42, hx42, hb44⟩ := bind_some hb44
                refine L_fa (o' := 2) rfl fa_68_2 sf2 rfl ?_
                refine L_ld (v := v0_2) rfl Try.isAgg22 rfl (hb_g3.cell (j := 2) rfl) ?_
                have hf52 : Fun1 Try.prog B RP.int false Value.bool i_ruleValid_1 (.func (.func 86) #[] #[]) w_ := by
                  refine ⟨_, _, rfl, Try.call86, fun w_ hE_ cs_ x_ y_ args_ hr_ hy_ ha_ => ?_⟩
                  obtain rfl : cs_ = [_] := hr_
                  obtain rfl := args_of (b := #[.int .i64 x_]) ha_
                  exact i_ruleValid_1_c (n_ := x_) (Nat.le_trans hB (ext_trans hx hE_).size) hy_
                refine L_call (args := #[v0_2, .func (.func 86) #[] #[]]) rfl Try.call85 (ops2 rfl rfl) (slices_ContainsFunc_int_c (s := r_.coefs) (f_ := i_ruleValid_1) (Nat.le_trans hB hx.size) (rel0 h0_2) hf52 hx42) ?_
                rintro _ w53 ⟨rfl, he53⟩
                have h0_2 := RP.ext h0_2 he53
                have hx := ext_trans hx he53
                refine L_not_ (b := x42) rfl rfl ?_
                refine L_pick (v := .bool b44) rfl rfl (congrArg Value.bool (so hb44)) ?_
                refine L_as (v := .bool b44) rfl rfl ?_
                refine L_nil ?_
                show R45 _ _
                rw [hR45]
                exact ⟨rfl, hx⟩
              ·
                rw [ite_f hc51] at hb44
                refine L_pass rfl ?_
                refine L_pass rfl ?_
                refine L_pass rfl ?_
                refine L_pass rfl ?_
                refine L_pick (v := .bool b44) rfl rfl (congrArg Value.bool (so hb44)) ?_
                refine L_as (v := .bool b44) rfl rfl ?_
                refine L_nil ?_
                show R45 _ _
                rw [hR45]
                exact ⟨rfl, hx⟩
          ·
            intro f w_ hR
            rw [hR45] at hR
            obtain ⟨sf4, hx⟩ := hR
            clear hR45
            refine W_ret ?_
            obtain rfl := so hF
            refine ret1 Try.results70 ?_
            exact ⟨sf4, hx⟩
        ·
          have hF := (ite_f hc38).symm.trans hF
          refine W_seq ?_
          refine W_region ?_
          refine L_eql (m := r_.kind) (n := 3) rfl rfl rfl ?_
          refine L_as (v := .bool (r_.kind == 3)) rfl rfl ?_
          refine L_nil ?_
          refine W_cond (b := (r_.kind == 3)) rfl (fun hc54 => ?_) (fun hc54 => ?_)
          ·
            have hF := (ite_t hc54).symm.trans hF
            refine W_seq ?_
            obtain ⟨b57, hb57, hF⟩ := bind_some hF
            obtain ⟨R58, hR58⟩ : ∃ R : Fr → World → Prop, R = fun f w_ => f 4 = .bool b57 ∧ Ext w w_ := ⟨_, rfl⟩
            refine W_join R58 ?_ ?_
            ·
              refine W_region ?_
              refine L_fa (o' := 4) rfl fa_68_4 sf2 rfl ?_
              refine L_ld (v := v0_4) rfl Try.isAgg66 rfl (hb_g3.cell (j := 4) rfl) ?_
              refine L_len (v := v0_4) rfl Try.underlying66 rfl h0_4 ?_
              refine L_leq (m := (r_.rows.length : Int)) (n := 8) rfl rfl rfl ?_
              refine L_mv (v := .bool (decide ((r_.rows.length : Int) ≤ 8))) rfl rfl ?_
              refine L_split (d := 88) (b := decide ((r_.rows.length : Int) ≤ 8)) rfl (fun hc59 => ?_) (fun hc59 => ?_)
              ·
                rw [ite_t hc59] at hb57
                obtain ⟨x55, hx55, hb57⟩ := bind_some hb57
                refine L_fa (o' := 4) rfl fa_68_4 sf2 rfl ?_
                refine L_ld (v := v0_4) rfl Try.isAgg66 rfl (hb_g3.cell (j := 4) rfl) ?_
                refine L_mf rfl (ops1 sf2) ?_
                have hf60 : Fun1 Try.prog B (RP.slice 3 RP.int) false Value.bool (i_ruleValid_2 r_) (.func (.func 88) #[] #[.pointer (some ⟨g3, 0, none⟩)]) w_ := by
                  refine ⟨_, _, rfl, Try.call88, fun w_ hE_ cs_ x_ y_ args_ hr_ hy_ ha_ => ?_⟩
                  obtain ⟨p0, rfl, hp0⟩ := slice1 hr_
                  obtain rfl := args_of (b := #[p0, .pointer (some ⟨g3, 0, none⟩)]) ha_
                  exact i_ruleValid_2_c (c1 := r_) (row := x_) (Nat.le_trans hB (ext_trans hx hE_).size) hp0 (At.ext (Blk.at hb_g3) hE_) (rel0 (RP.ext h0_1 hE_)) (rel0 (RP.ext h0_2 hE_)) (rel0 (RP.ext h0_4 hE_)) hy_
                refine L_call (args := #[v0_4, .func (.func 88) #[] #[.pointer (some ⟨g3, 0, none⟩)]]) rfl Try.call87 (ops2 rfl rfl) (slices_ContainsFunc_Sint_c (s := r_.rows) (f_ := (i_ruleValid_2 r_)) (Nat.le_trans hB hx.size) (rel0 h0_4) hf60 hx55) ?_
                rintro _ w61 ⟨rfl, he61⟩
                have h0_1 := RP.ext h0_1 he61
                have h0_2 := RP.ext h0_2 he61
                have h0_4 := RP.ext h0_4 he61
                have hb_g3 := Blk.ext hb_g3 he61
                have hx := ext_trans hx he61
                refine L_not_ (b := x55) rfl rfl ?_
                refine L_pick (v := .bool b57) rfl rfl (congrArg Value.bool (so hb57)) ?_
                refine L_as (v := .bool b57) rfl rfl ?_
                refine L_nil ?_
                show R58 _ _
                rw [hR58]
                exact ⟨rfl, hx⟩
              ·
                rw [ite_f hc59] at hb57
                refine L_pass rfl ?_
                refine L_pass rfl ?_
                refine L_pass rfl ?_
                refine L_pass rfl ?_
                refine L_pass rfl ?_
                refine L_pick (v := .bool b57) rfl rfl (congrArg Value.bool (so hb57)) ?_
                refine L_as (v := .bool b57) rfl rfl ?_
                refine L_nil ?_
                show R58 _ _
                rw [hR58]
                exact ⟨rfl, hx⟩
            ·
              intro f w_ hR
              rw [hR58] at hR
              obtain ⟨sf4, hx⟩ := hR
              clear hR58
              refine W_ret ?_
              obtain rfl := so hF
              refine ret1 Try.results70 ?_
              exact ⟨sf4, hx⟩
          ·
            have hF := (ite_f hc54).symm.trans hF
            refine W_seq ?_
            refine W_region ?_
            refine L_eql (m := r_.kind) (n := 4) rfl rfl rfl ?_
            refine L_as (v := .bool (r_.kind == 4)) rfl rfl ?_
            refine L_nil ?_
            refine W_cond (b := (r_.kind == 4)) rfl (fun hc62 => ?_) (fun hc62 => ?_)
            ·
              have hF := (ite_t hc62).symm.trans hF
              refine W_seq ?_
              refine W_region ?_
              refine L_fa (o' := 1) rfl fa_68_1 sf2 rfl ?_
              refine L_ld (v := v0_1) rfl Try.isAgg22 rfl (hb_g3.cell (j := 1) rfl) ?_
              refine L_len (v := v0_1) rfl Try.underlying22 rfl h0_1 ?_
              refine L_eql (m := (r_.vars.length : Int)) (n := 2) rfl rfl rfl ?_
              refine L_as (v := .bool ((r_.vars.length : Int) == 2)) rfl rfl ?_
              refine L_nil ?_
              refine W_ret ?_
              obtain rfl := so hF
              refine ret1 Try.results70 ?_
              exact ⟨rfl, hx⟩
            ·
              have hF := (ite_f hc62).symm.trans hF
              refine W_skip ?_
              refine W_seq ?_
              refine W_region ?_
              refine L_fa (o' := 0) rfl fa_68_0 sf2 rfl ?_
              refine L_ld (v := .int .i64 r_.kind) rfl Try.isAgg3 rfl (hb_g3.cell (j := 0) rfl) ?_
              refine L_eql (m := r_.kind) (n := 2) rfl rfl rfl ?_
              refine L_as (v := .bool (r_.kind == 2)) rfl rfl ?_
              refine L_nil ?_
              refine W_ret ?_
              obtain rfl := so hF
              refine ret1 Try.results70 ?_
              exact ⟨rfl, hx⟩

theorem i_ModelValid_1_c {c1 : Model} {r_ : Rule} {v0_1 : Value} {v0_2 : Value} {v0_4 : Value} {g_c1 : Nat} {v1_0 : Value} {v1_1 : Value} {w : World} {B : Nat} (hB : B ≤ w.heap.size) (h0_1 : (RP.slice 3 RP.int).rel B w.heap.size w [v0_1] r_.vars) (h0_2 : (RP.slice 3 RP.int).rel B w.heap.size w [v0_2] r_.coefs) (h0_4 : (RP.slice 22 (RP.slice 3 RP.int)).rel B w.heap.size w [v0_4] r_.rows) (hat_g_c1 : At w g_c1 0 [v1_0, v1_1]) (h1_0 : (RP.slice 3 RP.int).rel B w.heap.size w [v1_0] c1.sizes) (h1_1 : (RP.slice 68 (rRule 3 22)).rel B w.heap.size w [v1_1] c1.rules) {r : Bool} (hF : i_ModelValid_1 c1 r_ = some r) :
    C Try.prog 69 #[.agg #[.int .i64 r_.kind, v0_1, v0_2, .int .i64 r_.bound, v0_4], .pointer (some ⟨g_c1, 0, none⟩)] w fun v w' => (v = .bool r) ∧ Ext w w' := by
  unfold i_ModelValid_1 at hF
  have hlt_g_c1 := hat_g_c1.lt
  have hx := ext_refl w
  refine C_enter Try.func69 rfl Try.ntmps69 rfl ?_
  refine W_seq ?_
  refine W_region ?_
  refine L_box (v := .agg #[.int .i64 r_.kind, v0_1, v0_2, .int .i64 r_.bound, v0_4]) (cs := #[.int .i64 r_.kind, v0_1, v0_2, .int .i64 r_.bound, v0_4]) rfl rfl rfl ?_
  intro g3 w4 hn4
  have hge_g3 := hn4.ge hx
  have hb_g3 := hn4.blk
  have h0_1 := RP.ext h0_1 hn4.ext
  have h0_2 := RP.ext h0_2 hn4.ext
  have h0_4 := RP.ext h0_4 hn4.ext
  have h1_0 := RP.ext h1_0 hn4.ext
  have h1_1 := RP.ext h1_1 hn4.ext
  have hat_g_c1 := At.ext hat_g_c1 hn4.ext
  have hx := ext_trans hx hn4.ext
  refine L_as (v := .bool false) rfl rfl ?_
  refine L_nil ?_
  refine W_seq ?_
  obtain ⟨x5, hx5, hF⟩ := bind_some hF
  refine W_region ?_
  refine L_lda (cs := [.int .i64 r_.kind, v0_1, v0_2, .int .i64 r_.bound, v0_4]) rfl Try.isAgg68 Try.sizeOf68 rfl (Blk.sub hb_g3 0 5) rfl ?_
  refine L_fa (o' := 0) rfl fa_30_0 rfl rfl ?_
  refine L_ld (v := v1_0) rfl Try.isAgg22 rfl (hat_g_c1.cell (j := 0) rfl) ?_
  refine L_len (v := v1_0) rfl Try.underlying22 rfl h1_0 ?_
  refine L_call (args := #[.agg #[.int .i64 r_.kind, v0_1, v0_2, .int .i64 r_.bound, v0_4], .int .i64 (c1.sizes.length : Int)]) rfl Try.call70 (ops2 rfl rfl) (i_ruleValid_c (r_ := r_) (cells := (c1.sizes.length : Int)) (Nat.le_trans hB hx.size) (rel0 h0_1) (rel0 h0_2) (rel0 h0_4) hx5) ?_
  rintro _ w7 ⟨rfl, he7⟩
  have h0_1 := RP.ext h0_1 he7
  have h0_2 := RP.ext h0_2 he7
  have h0_4 := RP.ext h0_4 he7
  have hx := ext_trans hx he7
  refine L_not_ (b := x5) rfl rfl ?_
  refine L_as (v := .bool (!x5)) rfl rfl ?_
  refine L_nil ?_
  refine W_ret ?_
  obtain rfl := so hF
  refine ret1 Try.results69 ?_
  exact ⟨rfl, hx⟩

theorem i_ModelValid_c {m : Model} {v0_0 : Value} {v0_1 : Value} {w : World} {B : Nat} (hB : B ≤ w.heap.size) (h0_0 : (RP.slice 3 RP.int).rel B w.heap.size w [v0_0] m.sizes) (h0_1 : (RP.slice 68 (rRule 3 22)).rel B w.heap.size w [v0_1] m.rules) {r : Bool} (hF : i_ModelValid m = some r) :
    C Try.prog 47 #[.agg #[v0_0, v0_1]] w fun v w' => (v = .bool r) ∧ Ext w w' := by
  unfold i_ModelValid at hF
  have hx := ext_refl w
  refine C_enter Try.func47 rfl Try.ntmps47 rfl ?_
  refine W_seq ?_
  refine W_region ?_
  refine L_box (v := .agg #[v0_0, v0_1]) (cs := #[v0_0, v0_1]) rfl rfl rfl ?_
  intro g3 w4 hn4
  have hge_g3 := hn4.ge hx
  have hb_g3 := hn4.blk
  have h0_0 := RP.ext h0_0 hn4.ext
  have h0_1 := RP.ext h0_1 hn4.ext
  have hx := ext_trans hx hn4.ext
  refine L_as (v := .bool false) rfl rfl ?_
  refine L_nil ?_
  refine W_seq ?_
  refine W_seq ?_
  obtain ⟨x5, hx5, hF⟩ := bind_some hF
  obtain ⟨R7, hR7⟩ : ∃ R : Fr → World → Prop, R = fun f w_ => f 1 = .pointer (some ⟨g3, 0, none⟩) ∧ f 16 = .bool ((!x5) || (decide ((m.rules.length : Int) > 8))) ∧ (RP.slice 3 RP.int).rel B w.heap.size w_ [v0_0] m.sizes ∧ (RP.slice 68 (rRule 3 22)).rel B w.heap.size w_ [v0_1] m.rules ∧ Blk w_ g3 30 #[v0_0, v0_1] ∧ Ext w w_ := ⟨_, rfl⟩
  refine W_join R7 ?_ ?_
  ·
    refine W_region ?_
    refine L_fa (o' := 0) rfl fa_30_0 rfl rfl ?_
    refine L_ld (v := v0_0) rfl Try.isAgg22 rfl (hb_g3.cell (j := 0) rfl) ?_
    refine L_len (v := v0_0) rfl Try.underlying22 rfl h0_0 ?_
    refine L_call (args := #[.int .i64 (m.sizes.length : Int), .int .i64 1, .int .i64 5]) rfl Try.call48 (ops3 rfl rfl rfl) (i_within_c (n_ := (m.sizes.length : Int)) (low := 1) (high := 5) (Nat.le_trans hB hx.size) hx5) ?_
    rintro _ w8 ⟨rfl, he8⟩
    have h0_0 := RP.ext h0_0 he8
    have h0_1 := RP.ext h0_1 he8
    have hb_g3 := Blk.ext hb_g3 he8
    have hx := ext_trans hx he8
    refine L_not_ (b := x5) rfl rfl ?_
    refine L_mv (v := .bool (!x5)) rfl rfl ?_
    refine L_split (d := 11) (b := (!x5)) rfl (fun hc9 => ?_) (fun hc9 => ?_)
    ·
      refine L_pass rfl ?_
      refine L_pass rfl ?_
      refine L_pass rfl ?_
      refine L_pass rfl ?_
      refine L_pick (v := .bool ((!x5) || (decide ((m.rules.length : Int) > 8)))) rfl rfl (or_t hc9) ?_
      refine L_nil ?_
      show R7 _ _
      rw [hR7]
      exact ⟨rfl, rfl, h0_0, h0_1, hb_g3, hx⟩
    ·
      refine L_fa (o' := 1) rfl fa_30_1 rfl rfl ?_
      refine L_ld (v := v0_1) rfl Try.isAgg28 rfl (hb_g3.cell (j := 1) rfl) ?_
      refine L_len (v := v0_1) rfl Try.underlying28 rfl h0_1 ?_
      refine L_gtr (m := (m.rules.length : Int)) (n := 8) rfl rfl rfl ?_
      refine L_pick (v := .bool ((!x5) || (decide ((m.rules.length : Int) > 8)))) rfl rfl (or_f hc9 rfl) ?_
      refine L_nil ?_
      show R7 _ _
      rw [hR7]
      exact ⟨rfl, rfl, h0_0, h0_1, hb_g3, hx⟩
  ·
    intro f w_ hR
    rw [hR7] at hR
    obtain ⟨sf1, sf16, h0_0, h0_1, hb_g3, hx⟩ := hR
    clear hR7
    refine W_cond (b := ((!x5) || (decide ((m.rules.length : Int) > 8)))) sf16 (fun hc10 => ?_) (fun hc10 => ?_)
    ·
      have hF := (ite_t hc10).symm.trans hF
      refine W_seq ?_
      refine W_region ?_
      refine L_as (v := .bool false) rfl rfl ?_
      refine L_nil ?_
      refine W_ret ?_
      obtain rfl := so hF
      refine ret1 Try.results47 ?_
      exact ⟨rfl, hx⟩
    ·
      have hF := (ite_f hc10).symm.trans hF
      refine W_skip ?_
      refine W_seq ?_
      refine W_region ?_
      refine L_as (v := .int .i64 0) rfl rfl ?_
      refine L_nil ?_
      refine W_seq ?_
      refine W_seq ?_
      refine W_region ?_
      refine L_fa (o' := 0) rfl fa_30_0 sf1 rfl ?_
      refine L_ld (v := v0_0) rfl Try.isAgg22 rfl (hb_g3.cell (j := 0) rfl) ?_
      refine L_len (v := v0_0) rfl Try.underlying22 rfl h0_0 ?_
      refine L_mv (v := .int .i64 0) rfl rfl ?_
      refine L_nil ?_
      have hlen13 := len_le h0_0
      obtain ⟨j13, hL13, hF⟩ := bind_some hF
      obtain ⟨R13, hR13⟩ : ∃ R : Fr → World → Prop, R = fun f w_ => ∃ count_12 : Int, j13 = .nx count_12 ∧ f 1 = .pointer (some ⟨g3, 0, none⟩) ∧ f 3 = .int .i64 count_12 ∧ (RP.slice 3 RP.int).rel B w.heap.size w_ [v0_0] m.sizes ∧ (RP.slice 68 (rRule 3 22)).rel B w.heap.size w_ [v0_1] m.rules ∧ Blk w_ g3 30 #[v0_0, v0_1] ∧ Ext w w_ := ⟨_, rfl⟩
      refine W_join R13 ?_ ?_
      ·
        refine W_block ?_
        obtain ⟨I13, hI13⟩ : ∃ I : Nat → Fr → World → Prop, I = fun n f w_ => ∃ i_11 : Nat, ∃ suf13 : List Int, ∃ count_12 : Int, n = suf13.length ∧ List.drop i_11 m.sizes = suf13 ∧ i_11 + suf13.length = m.sizes.length ∧ rangeL i_ModelValid_b1 suf13 i_11 count_12 = some j13 ∧ f 1 = .pointer (some ⟨g3, 0, none⟩) ∧ f 3 = .int .i64 count_12 ∧ f 18 = v0_0 ∧ f 19 = .int .i64 (m.sizes.length : Int) ∧ f 20 = .int .i64 (i_11 : Int) ∧ (RP.slice 3 RP.int).rel B w.heap.size w_ [v0_0] m.sizes ∧ (RP.slice 68 (rRule 3 22)).rel B w.heap.size w_ [v0_1] m.rules ∧ Blk w_ g3 30 #[v0_0, v0_1] ∧ Ext w w_ := ⟨_, rfl⟩
        refine W_loop I13 (n := m.sizes.length) ?_ ?_
        · rw [hI13]; exact ⟨0, m.sizes, 0, rfl, rfl, Nat.zero_add _, hL13, sf1, rfl, rfl, rfl, rfl, h0_0, h0_1, hb_g3, hx⟩
        ·
          intro n13 f w_ hI
          rw [hI13] at hI
          obtain ⟨i_11, suf13, count_12, rfl, hd13, hl13, hL13, sf1, sf3, sf18, sf19, sf20, h0_0, h0_1, hb_g3, hx⟩ := hI
          refine W_seq ?_
          refine W_region ?_
          refine L_lss (m := (i_11 : Int)) (n := (m.sizes.length : Int)) rfl sf20 sf19 ?_
          refine L_nil ?_
          refine W_seq ?_
          refine W_cond (b := decide ((i_11 : Int) < (m.sizes.length : Int))) rfl (fun hc14 => ?_) (fun hc14 => ?_)
          ·
            have hlt13 := of_decide_eq_true hc14
            cases suf13 with
            | nil => exact absurd hlt13 (by simp at hl13; omega)
            | cons x_13 rest13 =>
              obtain ⟨o13, hB13, hL13⟩ := range_cons hL13
              rw [i_ModelValid_b1] at hB13
              have hix13 := drop_idx hd13
              refine W_skip ?_
              refine W_seq ?_
              refine W_block ?_
              refine W_seq ?_
              refine W_region ?_
              refine L_ix (r := RP.int) rfl Try.underlying22 Try.sizeOf3 sf18 h0_0 sf20 hix13 ?_
              intro g17 o18 cs18 hr18 hat18
              obtain rfl : _ = [_] := hr18
              refine L_ld (v := .int .i64 x_13) rfl Try.isAgg3 rfl (hat18.cell (j := 0) rfl) ?_
              refine L_as (v := .int .i64 x_13) rfl rfl ?_
              refine L_nil ?_
              refine W_seq ?_
              refine W_seq ?_
              obtain ⟨x19, hx19, hB13⟩ := bind_some hB13
              refine W_region ?_
              refine L_mv (v := .int .i64 x_13) rfl rfl ?_
              refine L_call (args := #[.int .i64 x_13, .int .i64 0, .int .i64 3]) rfl Try.call48 (ops3 rfl rfl rfl) (i_within_c (n_ := x_13) (low := 0) (high := 3) (Nat.le_trans hB hx.size) hx19) ?_
              rintro _ w21 ⟨rfl, he21⟩
              have h0_0 := RP.ext h0_0 he21
              have h0_1 := RP.ext h0_1 he21
              have hb_g3 := Blk.ext hb_g3 he21
              have hx := ext_trans hx he21
              refine L_not_ (b := x19) rfl rfl ?_
              refine L_nil ?_
              refine W_cond (b := (!x19)) rfl (fun hc22 => ?_) (fun hc22 => ?_)
              ·
                have hB13 := (ite_t hc22).symm.trans hB13
                refine W_seq ?_
                refine W_region ?_
                refine L_as (v := .bool false) rfl rfl ?_
                refine L_nil ?_
                refine W_ret ?_
                obtain rfl := so hB13
                obtain rfl := so hL13
                obtain rfl := so hF
                refine ret1 Try.results47 ?_
                exact ⟨rfl, hx⟩
              ·
                have hB13 := (ite_f hc22).symm.trans hB13
                refine W_skip ?_
                refine W_region ?_
                refine L_mv (v := .int .i64 count_12) rfl sf3 ?_
                refine L_mv (v := .int .i64 x_13) rfl rfl ?_
                refine L_add (m := x_13) (n := 1) rfl rfl rfl ?_
                refine L_add (m := count_12) (n := i64 (x_13 + 1)) rfl rfl rfl ?_
                refine L_as (v := .int .i64 (i64 (count_12 + (i64 (x_13 + 1))))) rfl rfl ?_
                refine L_nil ?_
                refine W_region ?_
                refine L_add (m := (i_11 : Int)) (n := 1) rfl sf20 rfl ?_
                refine L_mv (v := .int .i64 (i64 ((i_11 : Int) + 1))) rfl rfl ?_
                refine L_nil ?_
                obtain rfl := so hB13
                show ∃ m, m < _ ∧ I13 m _ _
                refine ⟨rest13.length, by simp, ?_⟩
                rw [hI13]
                exact ⟨i_11 + 1, rest13, i64 (count_12 + (i64 (x_13 + 1))), rfl, drop_next hd13, by simp at hl13; omega, hL13, sf1, rfl, sf18, sf19, (Eq.trans rfl (congrArg (Value.int .i64) (i64_succ (n := m.sizes.length) (by simp at hl13; omega) hlen13))), h0_0, h0_1, hb_g3, hx⟩
          ·
            cases suf13 with
            | cons _ _ => exact absurd (of_decide_eq_false hc14) (by simp at hl13; omega)
            | nil =>
              obtain rfl := range_nil hL13
              refine W_exit ?_
              show R13 _ _
              rw [hR13]
              exact ⟨count_12, rfl, sf1, sf3, h0_0, h0_1, hb_g3, hx⟩
      ·
        intro f w_ hR
        rw [hR13] at hR
        obtain ⟨count_12, rfl, sf1, sf3, h0_0, h0_1, hb_g3, hx⟩ := hR
        clear hR13
        refine W_seq ?_
        obtain ⟨b25, hb25, hF⟩ := bind_some hF
        obtain ⟨R26, hR26⟩ : ∃ R : Fr → World → Prop, R = fun f w_ => f 2 = .bool b25 ∧ Ext w w_ := ⟨_, rfl⟩
        refine W_join R26 ?_ ?_
        ·
          refine W_region ?_
          refine L_mv (v := .int .i64 count_12) rfl sf3 ?_
          refine L_leq (m := count_12) (n := 12) rfl rfl rfl ?_
          refine L_mv (v := .bool (decide (count_12 ≤ 12))) rfl rfl ?_
          refine L_split (d := 34) (b := decide (count_12 ≤ 12)) rfl (fun hc27 => ?_) (fun hc27 => ?_)
          ·
            rw [ite_t hc27] at hb25
            obtain ⟨x23, hx23, hb25⟩ := bind_some hb25
            refine L_fa (o' := 1) rfl fa_30_1 sf1 rfl ?_
            refine L_ld (v := v0_1) rfl Try.isAgg28 rfl (hb_g3.cell (j := 1) rfl) ?_
            refine L_mf rfl (ops1 sf1) ?_
            have hf28 : Fun1 Try.prog B (rRule 3 22) true Value.bool (i_ModelValid_1 m) (.func (.func 69) #[] #[.pointer (some ⟨g3, 0, none⟩)]) w_ := by
              refine ⟨_, _, rfl, Try.call69, fun w_ hE_ cs_ x_ y_ args_ hr_ hy_ ha_ => ?_⟩
              obtain ⟨p0, p1, p2, rfl, hp0, hp1, hp2⟩ := rRule_iff.1 hr_
              obtain rfl := args_of (b := #[.agg #[.int .i64 x_.kind, p0, p1, .int .i64 x_.bound, p2], .pointer (some ⟨g3, 0, none⟩)]) ha_
              exact i_ModelValid_1_c (c1 := m) (r_ := x_) (Nat.le_trans hB (ext_trans hx hE_).size) hp0 hp1 hp2 (At.ext (Blk.at hb_g3) hE_) (rel0 (RP.ext h0_0 hE_)) (rel0 (RP.ext h0_1 hE_)) hy_
            refine L_call (args := #[v0_1, .func (.func 69) #[] #[.pointer (some ⟨g3, 0, none⟩)]]) rfl Try.call68 (ops2 rfl rfl) (slices_ContainsFunc_implRule_c (s := m.rules) (f_ := (i_ModelValid_1 m)) (Nat.le_trans hB hx.size) (rel0 h0_1) hf28 hx23) ?_
            rintro _ w29 ⟨rfl, he29⟩
            have h0_0 := RP.ext h0_0 he29
            have h0_1 := RP.ext h0_1 he29
            have hb_g3 := Blk.ext hb_g3 he29
            have hx := ext_trans hx he29
            refine L_not_ (b := x23) rfl rfl ?_
            refine L_pick (v := .bool b25) rfl rfl (congrArg Value.bool (so hb25)) ?_
            refine L_as (v := .bool b25) rfl rfl ?_
            refine L_nil ?_
            show R26 _ _
            rw [hR26]
            exact ⟨rfl, hx⟩
          ·
            rw [ite_f hc27] at hb25
            refine L_pass rfl ?_
            refine L_pass rfl ?_
            refine L_pass rfl ?_
            refine L_pass rfl ?_
            refine L_pass rfl ?_
            refine L_pick (v := .bool b25) rfl rfl (congrArg Value.bool (so hb25)) ?_
            refine L_as (v := .bool b25) rfl rfl ?_
            refine L_nil ?_
            show R26 _ _
            rw [hR26]
            exact ⟨rfl, hx⟩
        ·
          intro f w_ hR
          rw [hR26] at hR
          obtain ⟨sf2, hx⟩ := hR
          clear hR26
          refine W_ret ?_
          obtain rfl := so hF
          refine ret1 Try.results47 ?_
          exact ⟨sf2, hx⟩

theorem i_Model_boolVar_c {m : Model} {cell : Int} {value : Int} {v0_0 : Value} {v0_1 : Value} {w : World} {B : Nat} (hB : B ≤ w.heap.size) (h0_0 : (RP.slice 3 RP.int).rel B w.heap.size w [v0_0] m.sizes) (h0_1 : (RP.slice 68 (rRule 3 22)).rel B w.heap.size w [v0_1] m.rules) {r : Int} (hF : i_Model_boolVar m cell value = some r) :
    C Try.prog 49 #[.agg #[v0_0, v0_1], .int .i64 cell, .int .i64 value] w fun v w' => (v = .int .i64 r) ∧ Ext w w' := by
  unfold i_Model_boolVar at hF
  have hx := ext_refl w
  refine C_enter Try.func49 rfl Try.ntmps49 rfl ?_
  refine W_seq ?_
  refine W_region ?_
  refine L_box (v := .agg #[v0_0, v0_1]) (cs := #[v0_0, v0_1]) rfl rfl rfl ?_
  intro g3 w4 hn4
  have hge_g3 := hn4.ge hx
  have hb_g3 := hn4.blk
  have h0_0 := RP.ext h0_0 hn4.ext
  have h0_1 := RP.ext h0_1 hn4.ext
  have hx := ext_trans hx hn4.ext
  refine L_as (v := .int .i64 0) rfl rfl ?_
  refine L_nil ?_
  refine W_seq ?_
  refine W_region ?_
  refine L_mv (v := .int .i64 value) rfl rfl ?_
  refine L_add (m := 1) (n := value) rfl rfl rfl ?_
  refine L_as (v := .int .i64 (i64 (1 + value))) rfl rfl ?_
  refine L_nil ?_
  refine W_seq ?_
  refine W_seq ?_
  obtain ⟨x5, hx5, hF⟩ := bind_some hF
  refine W_region ?_
  refine L_fa (o' := 0) rfl fa_30_0 rfl rfl ?_
  refine L_ld (v := v0_0) rfl Try.isAgg22 rfl (hb_g3.cell (j := 0) rfl) ?_
  refine L_mv (v := .int .i64 cell) rfl rfl ?_
  refine L_sl (a := 0) (b := cell) rfl et_22 rfl h0_0 rfl rfl hx5 ?_
  intro v7 hs7
  refine L_len (v := v7) rfl Try.underlying22 rfl hs7 ?_
  refine L_mv (v := .int .i64 0) rfl rfl ?_
  refine L_nil ?_
  have hlen10 := len_le hs7
  obtain ⟨j10, hL10, hF⟩ := bind_some hF
  obtain ⟨R10, hR10⟩ : ∃ R : Fr → World → Prop, R = fun f w_ => ∃ v_9 : Int, j10 = .nx v_9 ∧ f 7 = .int .i64 v_9 ∧ Ext w w_ := ⟨_, rfl⟩
  refine W_join R10 ?_ ?_
  ·
    refine W_block ?_
    obtain ⟨I10, hI10⟩ : ∃ I : Nat → Fr → World → Prop, I = fun n f w_ => ∃ i_8 : Nat, ∃ suf10 : List Int, ∃ v_9 : Int, n = suf10.length ∧ List.drop i_8 x5 = suf10 ∧ i_8 + suf10.length = x5.length ∧ rangeL i_Model_boolVar_b1 suf10 i_8 v_9 = some j10 ∧ f 7 = .int .i64 v_9 ∧ f 15 = v7 ∧ f 16 = .int .i64 (x5.length : Int) ∧ f 17 = .int .i64 (i_8 : Int) ∧ (RP.slice 3 RP.int).rel B w.heap.size w_ [v7] x5 ∧ Ext w w_ := ⟨_, rfl⟩
    refine W_loop I10 (n := x5.length) ?_ ?_
    · rw [hI10]; exact ⟨0, x5, i64 (1 + value), rfl, rfl, Nat.zero_add _, hL10, rfl, rfl, rfl, rfl, hs7, hx⟩
    ·
      intro n10 f w_ hI
      rw [hI10] at hI
      obtain ⟨i_8, suf10, v_9, rfl, hd10, hl10, hL10, sf7, sf15, sf16, sf17, hs7, hx⟩ := hI
      refine W_seq ?_
      refine W_region ?_
      refine L_lss (m := (i_8 : Int)) (n := (x5.length : Int)) rfl sf17 sf16 ?_
      refine L_nil ?_
      refine W_seq ?_
      refine W_cond (b := decide ((i_8 : Int) < (x5.length : Int))) rfl (fun hc11 => ?_) (fun hc11 => ?_)
      ·
        have hlt10 := of_decide_eq_true hc11
        cases suf10 with
        | nil => exact absurd hlt10 (by simp at hl10; omega)
        | cons x_10 rest10 =>
          obtain ⟨o10, hB10, hL10⟩ := range_cons hL10
          rw [i_Model_boolVar_b1] at hB10
          have hix10 := drop_idx hd10
          refine W_skip ?_
          refine W_seq ?_
          refine W_block ?_
          refine W_seq ?_
          refine W_region ?_
          refine L_ix (r := RP.int) rfl Try.underlying22 Try.sizeOf3 sf15 hs7 sf17 hix10 ?_
          intro g14 o15 cs15 hr15 hat15
          obtain rfl : _ = [_] := hr15
          refine L_ld (v := .int .i64 x_10) rfl Try.isAgg3 rfl (hat15.cell (j := 0) rfl) ?_
          refine L_as (v := .int .i64 x_10) rfl rfl ?_
          refine L_nil ?_
          refine W_region ?_
          refine L_mv (v := .int .i64 v_9) rfl sf7 ?_
          refine L_mv (v := .int .i64 x_10) rfl rfl ?_
          refine L_add (m := x_10) (n := 1) rfl rfl rfl ?_
          refine L_add (m := v_9) (n := i64 (x_10 + 1)) rfl rfl rfl ?_
          refine L_as (v := .int .i64 (i64 (v_9 + (i64 (x_10 + 1))))) rfl rfl ?_
          refine L_nil ?_
          refine W_region ?_
          refine L_add (m := (i_8 : Int)) (n := 1) rfl sf17 rfl ?_
          refine L_mv (v := .int .i64 (i64 ((i_8 : Int) + 1))) rfl rfl ?_
          refine L_nil ?_
          obtain rfl := so hB10
          show ∃ m, m < _ ∧ I10 m _ _
          refine ⟨rest10.length, by simp, ?_⟩
          rw [hI10]
          exact ⟨i_8 + 1, rest10, i64 (v_9 + (i64 (x_10 + 1))), rfl, drop_next hd10, by simp at hl10; omega, hL10, rfl, sf15, sf16, (Eq.trans rfl (congrArg (Value.int .i64) (i64_succ (n := x5.length) (by simp at hl10; omega) hlen10))), hs7, hx⟩
      ·
        cases suf10 with
        | cons _ _ => exact absurd (of_decide_eq_false hc11) (by simp at hl10; omega)
        | nil =>
          obtain rfl := range_nil hL10
          refine W_exit ?_
          show R10 _ _
          rw [hR10]
          exact ⟨v_9, rfl, sf7, hx⟩
  ·
    intro f w_ hR
    rw [hR10] at hR
    obtain ⟨v_9, rfl, sf7, hx⟩ := hR
    clear hR10
    refine W_seq ?_
    refine W_region ?_
    refine L_mv (v := .int .i64 v_9) rfl sf7 ?_
    refine L_as (v := .int .i64 v_9) rfl rfl ?_
    refine L_nil ?_
    refine W_ret ?_
    obtain rfl := so hF
    refine ret1 Try.results49 ?_
    exact ⟨rfl, hx⟩

theorem i_BoolVar_c {m : Model} {cell : Int} {value : Int} {v0_0 : Value} {v0_1 : Value} {w : World} {B : Nat} (hB : B ≤ w.heap.size) (h0_0 : (RP.slice 3 RP.int).rel B w.heap.size w [v0_0] m.sizes) (h0_1 : (RP.slice 68 (rRule 3 22)).rel B w.heap.size w [v0_1] m.rules) {r : Int} (hF : i_BoolVar m cell value = some r) :
    C Try.prog 14 #[.agg #[v0_0, v0_1], .int .i64 cell, .int .i64 value] w fun v w' => (v = .int .i64 r) ∧ Ext w w' := by
  unfold i_BoolVar at hF
  have hx := ext_refl w
  refine C_enter Try.func14 rfl Try.ntmps14 rfl ?_
  refine W_seq ?_
  refine W_region ?_
  refine L_box (v := .agg #[v0_0, v0_1]) (cs := #[v0_0, v0_1]) rfl rfl rfl ?_
  intro g3 w4 hn4
  have hge_g3 := hn4.ge hx
  have hb_g3 := hn4.blk
  have h0_0 := RP.ext h0_0 hn4.ext
  have h0_1 := RP.ext h0_1 hn4.ext
  have hx := ext_trans hx hn4.ext
  refine L_as (v := .int .i64 0) rfl rfl ?_
  refine L_nil ?_
  refine W_seq ?_
  refine W_seq ?_
  obtain ⟨x5, hx5, hF⟩ := bind_some hF
  obtain ⟨b9, hb9, hF⟩ := bind_some hF
  obtain ⟨b15, hb15, hF⟩ := bind_some hF
  obtain ⟨R16, hR16⟩ : ∃ R : Fr → World → Prop, R = fun f w_ => f 1 = .int .i64 cell ∧ f 2 = .int .i64 value ∧ f 3 = .pointer (some ⟨g3, 0, none⟩) ∧ f 28 = .bool b15 ∧ (RP.slice 3 RP.int).rel B w.heap.size w_ [v0_0] m.sizes ∧ (RP.slice 68 (rRule 3 22)).rel B w.heap.size w_ [v0_1] m.rules ∧ Blk w_ g3 30 #[v0_0, v0_1] ∧ Ext w w_ := ⟨_, rfl⟩
  refine W_join R16 ?_ ?_
  ·
    refine W_region ?_
    refine L_lda (cs := [v0_0, v0_1]) rfl Try.isAgg30 Try.sizeOf30 rfl (Blk.sub hb_g3 0 2) rfl ?_
    refine L_call (args := #[.agg #[v0_0, v0_1]]) rfl Try.call47 (ops1 rfl) (i_ModelValid_c (m := m) (Nat.le_trans hB hx.size) (rel0 h0_0) (rel0 h0_1) hx5) ?_
    rintro _ w17 ⟨rfl, he17⟩
    have h0_0 := RP.ext h0_0 he17
    have h0_1 := RP.ext h0_1 he17
    have hb_g3 := Blk.ext hb_g3 he17
    have hx := ext_trans hx he17
    refine L_not_ (b := x5) rfl rfl ?_
    refine L_mv (v := .bool (!x5)) rfl rfl ?_
    refine L_split (d := 10) (b := (!x5)) rfl (fun hc18 => ?_) (fun hc18 => ?_)
    ·
      rw [ite_t hc18] at hb9
      refine L_pass rfl ?_
      refine L_pass rfl ?_
      refine L_pass rfl ?_
      refine L_pass rfl ?_
      refine L_pass rfl ?_
      refine L_pass rfl ?_
      refine L_pass rfl ?_
      refine L_pick (v := .bool b9) rfl rfl (congrArg Value.bool (so hb9)) ?_
      refine L_mv (v := .bool b9) rfl rfl ?_
      refine L_split (d := 19) (b := b9) rfl (fun hc19 => ?_) (fun hc19 => ?_)
      ·
        rw [ite_t hc19] at hb15
        refine L_pass rfl ?_
        refine L_pass rfl ?_
        refine L_pass rfl ?_
        refine L_pass rfl ?_
        refine L_pass rfl ?_
        refine L_pass rfl ?_
        refine L_pass rfl ?_
        refine L_pass rfl ?_
        refine L_pick (v := .bool b15) rfl rfl (congrArg Value.bool (so hb15)) ?_
        refine L_nil ?_
        show R16 _ _
        rw [hR16]
        exact ⟨rfl, rfl, rfl, rfl, h0_0, h0_1, hb_g3, hx⟩
      ·
        rw [ite_f hc19] at hb15
        obtain ⟨x10, hx10, hb15⟩ := bind_some hb15
        obtain ⟨x13, hx13, hb15⟩ := bind_some hb15
        refine L_mv (v := .int .i64 value) rfl rfl ?_
        refine L_fa (o' := 0) rfl fa_30_0 rfl rfl ?_
        refine L_ld (v := v0_0) rfl Try.isAgg22 rfl (hb_g3.cell (j := 0) rfl) ?_
        refine L_mv (v := .int .i64 cell) rfl rfl ?_
        refine L_ix (r := RP.int) rfl Try.underlying22 Try.sizeOf3 rfl h0_0 rfl hx10 ?_
        intro g20 o21 cs21 hr21 hat21
        obtain rfl : _ = [_] := hr21
        refine L_ld (v := .int .i64 x10) rfl Try.isAgg3 rfl (hat21.cell (j := 0) rfl) ?_
        refine L_call (args := #[.int .i64 value, .int .i64 0, .int .i64 x10]) rfl Try.call48 (ops3 rfl rfl rfl) (i_within_c (n_ := value) (low := 0) (high := x10) (Nat.le_trans hB hx.size) hx13) ?_
        rintro _ w22 ⟨rfl, he22⟩
        have h0_0 := RP.ext h0_0 he22
        have h0_1 := RP.ext h0_1 he22
        have hb_g3 := Blk.ext hb_g3 he22
        have hx := ext_trans hx he22
        refine L_not_ (b := x13) rfl rfl ?_
        refine L_pick (v := .bool b15) rfl rfl (congrArg Value.bool (so hb15)) ?_
        refine L_nil ?_
        show R16 _ _
        rw [hR16]
        exact ⟨rfl, rfl, rfl, rfl, h0_0, h0_1, hb_g3, hx⟩
    ·
      rw [ite_f hc18] at hb9
      obtain ⟨x7, hx7, hb9⟩ := bind_some hb9
      refine L_mv (v := .int .i64 cell) rfl rfl ?_
      refine L_fa (o' := 0) rfl fa_30_0 rfl rfl ?_
      refine L_ld (v := v0_0) rfl Try.isAgg22 rfl (hb_g3.cell (j := 0) rfl) ?_
      refine L_len (v := v0_0) rfl Try.underlying22 rfl h0_0 ?_
      refine L_sub (m := (m.sizes.length : Int)) (n := 1) rfl rfl rfl ?_
      refine L_call (args := #[.int .i64 cell, .int .i64 0, .int .i64 (i64 ((m.sizes.length : Int) - 1))]) rfl Try.call48 (ops3 rfl rfl rfl) (i_within_c (n_ := cell) (low := 0) (high := i64 ((m.sizes.length : Int) - 1)) (Nat.le_trans hB hx.size) hx7) ?_
      rintro _ w23 ⟨rfl, he23⟩
      have h0_0 := RP.ext h0_0 he23
      have h0_1 := RP.ext h0_1 he23
      have hb_g3 := Blk.ext hb_g3 he23
      have hx := ext_trans hx he23
      refine L_not_ (b := x7) rfl rfl ?_
      refine L_pick (v := .bool b9) rfl rfl (congrArg Value.bool (so hb9)) ?_
      refine L_mv (v := .bool b9) rfl rfl ?_
      refine L_split (d := 19) (b := b9) rfl (fun hc24 => ?_) (fun hc24 => ?_)
      ·
        rw [ite_t hc24] at hb15
        refine L_pass rfl ?_
        refine L_pass rfl ?_
        refine L_pass rfl ?_
        refine L_pass rfl ?_
        refine L_pass rfl ?_
        refine L_pass rfl ?_
        refine L_pass rfl ?_
        refine L_pass rfl ?_
        refine L_pick (v := .bool b15) rfl rfl (congrArg Value.bool (so hb15)) ?_
        refine L_nil ?_
        show R16 _ _
        rw [hR16]
        exact ⟨rfl, rfl, rfl, rfl, h0_0, h0_1, hb_g3, hx⟩
      ·
        rw [ite_f hc24] at hb15
        obtain ⟨x10, hx10, hb15⟩ := bind_some hb15
        obtain ⟨x13, hx13, hb15⟩ := bind_some hb15
        refine L_mv (v := .int .i64 value) rfl rfl ?_
        refine L_fa (o' := 0) rfl fa_30_0 rfl rfl ?_
        refine L_ld (v := v0_0) rfl Try.isAgg22 rfl (hb_g3.cell (j := 0) rfl) ?_
        refine L_mv (v := .int .i64 cell) rfl rfl ?_
        refine L_ix (r := RP.int) rfl Try.underlying22 Try.sizeOf3 rfl h0_0 rfl hx10 ?_
        intro g25 o26 cs26 hr26 hat26
        obtain rfl : _ = [_] := hr26
        refine L_ld (v := .int .i64 x10) rfl Try.isAgg3 rfl (hat26.cell (j := 0) rfl) ?_
        refine L_call (args := #[.int .i64 value, .int .i64 0, .int .i64 x10]) rfl Try.call48 (ops3 rfl rfl rfl) (i_within_c (n_ := value) (low := 0) (high := x10) (Nat.le_trans hB hx.size) hx13) ?_
        rintro _ w27 ⟨rfl, he27⟩
        have h0_0 := RP.ext h0_0 he27
        have h0_1 := RP.ext h0_1 he27
        have hb_g3 := Blk.ext hb_g3 he27
        have hx := ext_trans hx he27
        refine L_not_ (b := x13) rfl rfl ?_
        refine L_pick (v := .bool b15) rfl rfl (congrArg Value.bool (so hb15)) ?_
        refine L_nil ?_
        show R16 _ _
        rw [hR16]
        exact ⟨rfl, rfl, rfl, rfl, h0_0, h0_1, hb_g3, hx⟩
  ·
    intro f w_ hR
    rw [hR16] at hR
    obtain ⟨sf1, sf2, sf3, sf28, h0_0, h0_1, hb_g3, hx⟩ := hR
    clear hR16
    refine W_cond (b := b15) sf28 (fun hc28 => ?_) (fun hc28 => ?_)
    ·
      have hF := (ite_t hc28).symm.trans hF
      refine W_seq ?_
      refine W_region ?_
      refine L_as (v := .int .i64 0) rfl rfl ?_
      refine L_nil ?_
      refine W_ret ?_
      obtain rfl := so hF
      refine ret1 Try.results14 ?_
      exact ⟨rfl, hx⟩
    ·
      have hF := (ite_f hc28).symm.trans hF
      refine W_skip ?_
      refine W_seq ?_
      obtain ⟨x29, hx29, hF⟩ := bind_some hF
      refine W_region ?_
      refine L_lda (cs := [v0_0, v0_1]) rfl Try.isAgg30 Try.sizeOf30 sf3 (Blk.sub hb_g3 0 2) rfl ?_
      refine L_mv (v := .int .i64 cell) rfl sf1 ?_
      refine L_mv (v := .int .i64 value) rfl sf2 ?_
      refine L_call (args := #[.agg #[v0_0, v0_1], .int .i64 cell, .int .i64 value]) rfl Try.call49 (ops3 rfl rfl rfl) (i_Model_boolVar_c (m := m) (cell := cell) (value := value) (Nat.le_trans hB hx.size) (rel0 h0_0) (rel0 h0_1) hx29) ?_
      rintro _ w31 ⟨rfl, he31⟩
      have h0_0 := RP.ext h0_0 he31
      have h0_1 := RP.ext h0_1 he31
      have hx := ext_trans hx he31
      refine L_as (v := .int .i64 x29) rfl rfl ?_
      refine L_nil ?_
      refine W_ret ?_
      obtain rfl := so hF
      refine ret1 Try.results14 ?_
      exact ⟨rfl, hx⟩

theorem l_eqIntS_c {a : List Int} {b : List Int} {v0 : Value} {v1 : Value} {w : World} {B : Nat} (hB : B ≤ w.heap.size) (h0 : (RP.slice 3 RP.int).rel B w.heap.size w [v0] a) (h1 : (RP.slice 3 RP.int).rel B w.heap.size w [v1] b) {r : Bool} (hF : l_eqIntS a b = some r) :
    C Try.prog 26 #[v0, v1] w fun v w' => (v = .bool r) ∧ Ext w w' := by
  unfold l_eqIntS at hF
  have hx := ext_refl w
  refine C_enter Try.func26 rfl Try.ntmps26 rfl ?_
  refine W_seq ?_
  refine W_region ?_
  refine L_as (v := .bool false) rfl rfl ?_
  refine L_nil ?_
  refine W_seq ?_
  refine W_seq ?_
  refine W_region ?_
  refine L_mv (v := v0) rfl rfl ?_
  refine L_len (v := v0) rfl Try.underlying22 rfl h0 ?_
  refine L_mv (v := v1) rfl rfl ?_
  refine L_len (v := v1) rfl Try.underlying22 rfl h1 ?_
  refine L_neq (m := (a.length : Int)) (n := (b.length : Int)) rfl rfl rfl ?_
  refine L_nil ?_
  refine W_cond (b := ((a.length : Int) != (b.length : Int))) rfl (fun hc1 => ?_) (fun hc1 => ?_)
  ·
    have hF := (ite_t hc1).symm.trans hF
    refine W_seq ?_
    refine W_region ?_
    refine L_as (v := .bool false) rfl rfl ?_
    refine L_nil ?_
    refine W_ret ?_
    obtain rfl := so hF
    refine ret1 Try.results26 ?_
    exact ⟨rfl, hx⟩
  ·
    have hF := (ite_f hc1).symm.trans hF
    refine W_skip ?_
    refine W_seq ?_
    refine W_seq ?_
    refine W_region ?_
    refine L_as (v := .int .i64 0) rfl rfl ?_
    refine L_nil ?_
    have hlen3 := len_le h0
    obtain ⟨j3, hL3, hF⟩ := bind_some hF
    obtain ⟨R3, hR3⟩ : ∃ R : Fr → World → Prop, R = fun f w_ => j3 = .nx () ∧ Ext w w_ := ⟨_, rfl⟩
    refine W_join R3 ?_ ?_
    ·
      refine W_block ?_
      obtain ⟨I3, hI3⟩ : ∃ I : Nat → Fr → World → Prop, I = fun n f w_ => ∃ i_2 : Nat, ∃ suf3 : List Int, n = suf3.length ∧ List.drop i_2 a = suf3 ∧ i_2 + suf3.length = a.length ∧ rangeL (l_eqIntS_b1 b) suf3 i_2 () = some j3 ∧ f 0 = v0 ∧ f 1 = v1 ∧ f 5 = .int .i64 (i_2 : Int) ∧ (RP.slice 3 RP.int).rel B w.heap.size w_ [v0] a ∧ (RP.slice 3 RP.int).rel B w.heap.size w_ [v1] b ∧ Ext w w_ := ⟨_, rfl⟩
      refine W_loop I3 (n := a.length) ?_ ?_
      · rw [hI3]; exact ⟨0, a, rfl, rfl, Nat.zero_add _, hL3, rfl, rfl, rfl, h0, h1, hx⟩
      ·
        intro n3 f w_ hI
        rw [hI3] at hI
        obtain ⟨i_2, suf3, rfl, hd3, hl3, hL3, sf0, sf1, sf5, h0, h1, hx⟩ := hI
        refine W_seq ?_
        refine W_seq ?_
        refine W_region ?_
        refine L_mv (v := .int .i64 (i_2 : Int)) rfl sf5 ?_
        refine L_mv (v := v0) rfl sf0 ?_
        refine L_len (v := v0) rfl Try.underlying22 rfl h0 ?_
        refine L_lss (m := (i_2 : Int)) (n := (a.length : Int)) rfl rfl rfl ?_
        refine L_nil ?_
        refine W_cond (b := decide ((i_2 : Int) < (a.length : Int))) rfl (fun hc4 => ?_) (fun hc4 => ?_)
        ·
          have hlt3 := of_decide_eq_true hc4
          cases suf3 with
          | nil => exact absurd hlt3 (by simp at hl3; omega)
          | cons x_3 rest3 =>
            obtain ⟨o3, hB3, hL3⟩ := range_cons hL3
            rw [l_eqIntS_b1] at hB3
            have hix3 := drop_idx hd3
            refine W_skip ?_
            refine W_seq ?_
            refine W_block ?_
            refine W_seq ?_
            obtain ⟨x7, hx7, hB3⟩ := bind_some hB3
            refine W_drawL 8 [isV (v0), isV (.int .i64 (i_2 : Int)), isEl B RP.int x_3 0, isV (.int .i64 x_3), isV (v1), isV (.int .i64 (i_2 : Int)), isEl B RP.int x7 0, isV (.int .i64 x7)] Try_mix (by kernel_rfl) (am_cons (mono_V _) (am_cons (mono_V _) (am_cons (mono_el _ _ _ _) (am_cons (mono_V _) (am_cons (mono_V _) (am_cons (mono_V _) (am_cons (mono_el _ _ _ _) (am_cons (mono_V _) am_nil)))))))) ?_ (fun f w_ hS hE hT => ?_)
            ·
              refine ops_cons (fun f w_ hS hE hP => ?_) ?_
              ·
                have hx := ext_trans hx hE
                have h0 := RP.ext h0 hE
                refine L_mv (v := v0) rfl ((hS 0 rfl).trans sf0) ?_
                exact L_nil ⟨rfl, (ext_refl _), _, _, rfl, rfl, rfl⟩
              refine ops_cons (fun f w_ hS hE hP => ?_) ?_
              ·
                have hx := ext_trans hx hE
                refine L_mv (v := .int .i64 (i_2 : Int)) rfl ((hS 5 rfl).trans sf5) ?_
                exact L_nil ⟨rfl, (ext_refl _), _, _, rfl, rfl, rfl⟩
              refine ops_cons (fun f w_ hS hE hP => ?_) ?_
              ·
                have hx := ext_trans hx hE
                have h0 := RP.ext h0 hE
                refine L_ix (r := RP.int) rfl Try.underlying22 Try.sizeOf3 (hP 0 17 rfl rfl) h0 (hP 1 18 rfl rfl) hix3 ?_
                intro g14 o15 cs15 hr15 hat15
                obtain rfl : _ = [_] := hr15
                exact L_nil ⟨rfl, (ext_refl _), _, _, rfl, rfl, ⟨_, _, _, rfl, rfl, hat15⟩⟩
              refine ops_cons (fun f w_ hS hE hP => ?_) ?_
              ·
                have hx := ext_trans hx hE
                obtain ⟨g16, o16, cs16, hv16, hr16, hat16⟩ := (hP 2 19 rfl rfl)
                obtain rfl : _ = [_] := hr16
                refine L_ld (v := .int .i64 x_3) rfl Try.isAgg3 hv16 (hat16.cell (j := 0) rfl) ?_
                exact L_nil ⟨rfl, (ext_refl _), _, _, rfl, rfl, rfl⟩
              refine ops_cons (fun f w_ hS hE hP => ?_) ?_
              ·
                have hx := ext_trans hx hE
                have h1 := RP.ext h1 hE
                refine L_mv (v := v1) rfl ((hS 1 rfl).trans sf1) ?_
                exact L_nil ⟨rfl, (ext_refl _), _, _, rfl, rfl, rfl⟩
              refine ops_cons (fun f w_ hS hE hP => ?_) ?_
              ·
                have hx := ext_trans hx hE
                refine L_mv (v := .int .i64 (i_2 : Int)) rfl ((hS 5 rfl).trans sf5) ?_
                exact L_nil ⟨rfl, (ext_refl _), _, _, rfl, rfl, rfl⟩
              refine ops_cons (fun f w_ hS hE hP => ?_) ?_
              ·
                have hx := ext_trans hx hE
                have h1 := RP.ext h1 hE
                refine L_ix (r := RP.int) rfl Try.underlying22 Try.sizeOf3 (hP 4 21 rfl rfl) h1 (hP 5 22 rfl rfl) hx7 ?_
                intro g17 o18 cs18 hr18 hat18
                obtain rfl : _ = [_] := hr18
                exact L_nil ⟨rfl, (ext_refl _), _, _, rfl, rfl, ⟨_, _, _, rfl, rfl, hat18⟩⟩
              refine ops_cons (fun f w_ hS hE hP => ?_) ?_
              ·
                have hx := ext_trans hx hE
                obtain ⟨g19, o19, cs19, hv19, hr19, hat19⟩ := (hP 6 23 rfl rfl)
                obtain rfl : _ = [_] := hr19
                refine L_ld (v := .int .i64 x7) rfl Try.isAgg3 hv19 (hat19.cell (j := 0) rfl) ?_
                exact L_nil ⟨rfl, (ext_refl _), _, _, rfl, rfl, rfl⟩
              exact ops_nil
            ·
              have h0 := RP.ext h0 hE
              have h1 := RP.ext h1 hE
              have hx := ext_trans hx hE
              refine L_neq (m := x_3) (n := x7) rfl (hT 3 20 rfl rfl) (hT 7 24 rfl rfl) ?_
              refine L_nil ?_
              refine W_cond (b := (x_3 != x7)) rfl (fun hc20 => ?_) (fun hc20 => ?_)
              ·
                have hB3 := (ite_t hc20).symm.trans hB3
                refine W_seq ?_
                refine W_region ?_
                refine L_as (v := .bool false) rfl rfl ?_
                refine L_nil ?_
                refine W_ret ?_
                obtain rfl := so hB3
                obtain rfl := so hL3
                obtain rfl := so hF
                refine ret1 Try.results26 ?_
                exact ⟨rfl, hx⟩
              ·
                have hB3 := (ite_f hc20).symm.trans hB3
                refine W_skip ?_
                refine W_region ?_
                refine L_mv (v := .int .i64 (i_2 : Int)) rfl ((hS 5 rfl).trans sf5) ?_
                refine L_add (m := (i_2 : Int)) (n := 1) rfl rfl rfl ?_
                refine L_as (v := .int .i64 (i64 ((i_2 : Int) + 1))) rfl rfl ?_
                refine L_nil ?_
                obtain rfl := so hB3
                show ∃ m, m < _ ∧ I3 m _ _
                refine ⟨rest3.length, by simp, ?_⟩
                rw [hI3]
                exact ⟨i_2 + 1, rest3, rfl, drop_next hd3, by simp at hl3; omega, hL3, ((hS 0 rfl).trans sf0), ((hS 1 rfl).trans sf1), (Eq.trans rfl (congrArg (Value.int .i64) (i64_succ (n := a.length) (by simp at hl3; omega) hlen3))), h0, h1, hx⟩
        ·
          cases suf3 with
          | cons _ _ => exact absurd (of_decide_eq_false hc4) (by simp at hl3; omega)
          | nil =>
            obtain rfl := range_nil hL3
            refine W_exit ?_
            show R3 _ _
            rw [hR3]
            exact ⟨rfl, hx⟩
    ·
      intro f w_ hR
      rw [hR3] at hR
      obtain ⟨rfl, hx⟩ := hR
      clear hR3
      refine W_seq ?_
      refine W_region ?_
      refine L_as (v := .bool true) rfl rfl ?_
      refine L_nil ?_
      refine W_ret ?_
      obtain rfl := so hF
      refine ret1 Try.results26 ?_
      exact ⟨rfl, hx⟩

theorem l_eqIntSS_c {a : List (List Int)} {b : List (List Int)} {v0 : Value} {v1 : Value} {w : World} {B : Nat} (hB : B ≤ w.heap.size) (h0 : (RP.slice 22 (RP.slice 3 RP.int)).rel B w.heap.size w [v0] a) (h1 : (RP.slice 22 (RP.slice 3 RP.int)).rel B w.heap.size w [v1] b) {r : Bool} (hF : l_eqIntSS a b = some r) :
    C Try.prog 90 #[v0, v1] w fun v w' => (v = .bool r) ∧ Ext w w' := by
  unfold l_eqIntSS at hF
  have hx := ext_refl w
  refine C_enter Try.func90 rfl Try.ntmps90 rfl ?_
  refine W_seq ?_
  refine W_region ?_
  refine L_as (v := .bool false) rfl rfl ?_
  refine L_nil ?_
  refine W_seq ?_
  refine W_seq ?_
  refine W_region ?_
  refine L_mv (v := v0) rfl rfl ?_
  refine L_len (v := v0) rfl Try.underlying66 rfl h0 ?_
  refine L_mv (v := v1) rfl rfl ?_
  refine L_len (v := v1) rfl Try.underlying66 rfl h1 ?_
  refine L_neq (m := (a.length : Int)) (n := (b.length : Int)) rfl rfl rfl ?_
  refine L_nil ?_
  refine W_cond (b := ((a.length : Int) != (b.length : Int))) rfl (fun hc1 => ?_) (fun hc1 => ?_)
  ·
    have hF := (ite_t hc1).symm.trans hF
    refine W_seq ?_
    refine W_region ?_
    refine L_as (v := .bool false) rfl rfl ?_
    refine L_nil ?_
    refine W_ret ?_
    obtain rfl := so hF
    refine ret1 Try.results90 ?_
    exact ⟨rfl, hx⟩
  ·
    have hF := (ite_f hc1).symm.trans hF
    refine W_skip ?_
    refine W_seq ?_
    refine W_seq ?_
    refine W_region ?_
    refine L_as (v := .int .i64 0) rfl rfl ?_
    refine L_nil ?_
    have hlen3 := len_le h0
    obtain ⟨j3, hL3, hF⟩ := bind_some hF
    obtain ⟨R3, hR3⟩ : ∃ R : Fr → World → Prop, R = fun f w_ => j3 = .nx () ∧ Ext w w_ := ⟨_, rfl⟩
    refine W_join R3 ?_ ?_
    ·
      refine W_block ?_
      obtain ⟨I3, hI3⟩ : ∃ I : Nat → Fr → World → Prop, I = fun n f w_ => ∃ i_2 : Nat, ∃ suf3 : List (List Int), n = suf3.length ∧ List.drop i_2 a = suf3 ∧ i_2 + suf3.length = a.length ∧ rangeL (l_eqIntSS_b1 b) suf3 i_2 () = some j3 ∧ f 0 = v0 ∧ f 1 = v1 ∧ f 5 = .int .i64 (i_2 : Int) ∧ (RP.slice 22 (RP.slice 3 RP.int)).rel B w.heap.size w_ [v0] a ∧ (RP.slice 22 (RP.slice 3 RP.int)).rel B w.heap.size w_ [v1] b ∧ Ext w w_ := ⟨_, rfl⟩
      refine W_loop I3 (n := a.length) ?_ ?_
      · rw [hI3]; exact ⟨0, a, rfl, rfl, Nat.zero_add _, hL3, rfl, rfl, rfl, h0, h1, hx⟩
      ·
        intro n3 f w_ hI
        rw [hI3] at hI
        obtain ⟨i_2, suf3, rfl, hd3, hl3, hL3, sf0, sf1, sf5, h0, h1, hx⟩ := hI
        refine W_seq ?_
        refine W_seq ?_
        refine W_region ?_
        refine L_mv (v := .int .i64 (i_2 : Int)) rfl sf5 ?_
        refine L_mv (v := v0) rfl sf0 ?_
        refine L_len (v := v0) rfl Try.underlying66 rfl h0 ?_
        refine L_lss (m := (i_2 : Int)) (n := (a.length : Int)) rfl rfl rfl ?_
        refine L_nil ?_
        refine W_cond (b := decide ((i_2 : Int) < (a.length : Int))) rfl (fun hc4 => ?_) (fun hc4 => ?_)
        ·
          have hlt3 := of_decide_eq_true hc4
          cases suf3 with
          | nil => exact absurd hlt3 (by simp at hl3; omega)
          | cons x_3 rest3 =>
            obtain ⟨o3, hB3, hL3⟩ := range_cons hL3
            rw [l_eqIntSS_b1] at hB3
            have hix3 := drop_idx hd3
            refine W_skip ?_
            refine W_seq ?_
            refine W_block ?_
            refine W_seq ?_
            obtain ⟨x7, hx7, hB3⟩ := bind_some hB3
            obtain ⟨x10, hx10, hB3⟩ := bind_some hB3
            refine W_drawL 8 [isV (v0), isV (.int .i64 (i_2 : Int)), isEl B (RP.slice 3 RP.int) x_3 0, isData B (RP.slice 3 RP.int) x_3, isV (v1), isV (.int .i64 (i_2 : Int)), isEl B (RP.slice 3 RP.int) x7 0, isData B (RP.slice 3 RP.int) x7] Try_mix (by kernel_rfl) (am_cons (mono_V _) (am_cons (mono_V _) (am_cons (mono_el _ _ _ _) (am_cons (mono_data _ _ _) (am_cons (mono_V _) (am_cons (mono_V _) (am_cons (mono_el _ _ _ _) (am_cons (mono_data _ _ _) am_nil)))))))) ?_ (fun f w_ hS hE hT => ?_)
            ·
              refine ops_cons (fun f w_ hS hE hP => ?_) ?_
              ·
                have hx := ext_trans hx hE
                have h0 := RP.ext h0 hE
                refine L_mv (v := v0) rfl ((hS 0 rfl).trans sf0) ?_
                exact L_nil ⟨rfl, (ext_refl _), _, _, rfl, rfl, rfl⟩
              refine ops_cons (fun f w_ hS hE hP => ?_) ?_
              ·
                have hx := ext_trans hx hE
                refine L_mv (v := .int .i64 (i_2 : Int)) rfl ((hS 5 rfl).trans sf5) ?_
                exact L_nil ⟨rfl, (ext_refl _), _, _, rfl, rfl, rfl⟩
              refine ops_cons (fun f w_ hS hE hP => ?_) ?_
              ·
                have hx := ext_trans hx hE
                have h0 := RP.ext h0 hE
                refine L_ix (r := (RP.slice 3 RP.int)) rfl Try.underlying66 Try.sizeOf22 (hP 0 17 rfl rfl) h0 (hP 1 18 rfl rfl) hix3 ?_
                intro g16 o17 cs17 hr17 hat17
                obtain ⟨u17, rfl, hu17⟩ := slice1 hr17
                exact L_nil ⟨rfl, (ext_refl _), _, _, rfl, rfl, ⟨_, _, _, rfl, (rel0 hr17), hat17⟩⟩
              refine ops_cons (fun f w_ hS hE hP => ?_) ?_
              ·
                have hx := ext_trans hx hE
                obtain ⟨g18, o18, cs18, hv18, hr18, hat18⟩ := (hP 2 19 rfl rfl)
                obtain ⟨u18, rfl, hu18⟩ := slice1 hr18
                refine L_ld (v := u18) rfl Try.isAgg22 hv18 (hat18.cell (j := 0) rfl) ?_
                exact L_nil ⟨rfl, (ext_refl _), _, _, rfl, rfl, (rel0 hu18)⟩
              refine ops_cons (fun f w_ hS hE hP => ?_) ?_
              ·
                have hx := ext_trans hx hE
                have h1 := RP.ext h1 hE
                refine L_mv (v := v1) rfl ((hS 1 rfl).trans sf1) ?_
                exact L_nil ⟨rfl, (ext_refl _), _, _, rfl, rfl, rfl⟩
              refine ops_cons (fun f w_ hS hE hP => ?_) ?_
              ·
                have hx := ext_trans hx hE
                refine L_mv (v := .int .i64 (i_2 : Int)) rfl ((hS 5 rfl).trans sf5) ?_
                exact L_nil ⟨rfl, (ext_refl _), _, _, rfl, rfl, rfl⟩
              refine ops_cons (fun f w_ hS hE hP => ?_) ?_
              ·
                have hx := ext_trans hx hE
                have h1 := RP.ext h1 hE
                refine L_ix (r := (RP.slice 3 RP.int)) rfl Try.underlying66 Try.sizeOf22 (hP 4 21 rfl rfl) h1 (hP 5 22 rfl rfl) hx7 ?_
                intro g19 o20 cs20 hr20 hat20
                obtain ⟨u20, rfl, hu20⟩ := slice1 hr20
                exact L_nil ⟨rfl, (ext_refl _), _, _, rfl, rfl, ⟨_, _, _, rfl, (rel0 hr20), hat20⟩⟩
              refine ops_cons (fun f w_ hS hE hP => ?_) ?_
              ·
                have hx := ext_trans hx hE
                obtain ⟨g21, o21, cs21, hv21, hr21, hat21⟩ := (hP 6 23 rfl rfl)
                obtain ⟨u21, rfl, hu21⟩ := slice1 hr21
                refine L_ld (v := u21) rfl Try.isAgg22 hv21 (hat21.cell (j := 0) rfl) ?_
                exact L_nil ⟨rfl, (ext_refl _), _, _, rfl, rfl, (rel0 hu21)⟩
              exact ops_nil
            ·
              have h0 := RP.ext h0 hE
              have h1 := RP.ext h1 hE
              have hx := ext_trans hx hE
              have hd22 := (hT 3 20 rfl rfl)
              have hd23 := (hT 7 24 rfl rfl)
              refine L_call (args := #[(f 20), (f 24)]) rfl Try.call26 (ops2 rfl rfl) (l_eqIntS_c (a := x_3) (b := x7) (Nat.le_trans hB hx.size) (rel0 hd22) (rel0 hd23) hx10) ?_
              rintro _ w24 ⟨rfl, he24⟩
              have h0 := RP.ext h0 he24
              have h1 := RP.ext h1 he24
              have hd22 := RP.ext hd22 he24
              have hd23 := RP.ext hd23 he24
              have hx := ext_trans hx he24
              refine L_not_ (b := x10) rfl rfl ?_
              refine L_nil ?_
              refine W_cond (b := (!x10)) rfl (fun hc25 => ?_) (fun hc25 => ?_)
              ·
                have hB3 := (ite_t hc25).symm.trans hB3
                refine W_seq ?_
                refine W_region ?_
                refine L_as (v := .bool false) rfl rfl ?_
                refine L_nil ?_
                refine W_ret ?_
                obtain rfl := so hB3
                obtain rfl := so hL3
                obtain rfl := so hF
                refine ret1 Try.results90 ?_
                exact ⟨rfl, hx⟩
              ·
                have hB3 := (ite_f hc25).symm.trans hB3
                refine W_skip ?_
                refine W_region ?_
                refine L_mv (v := .int .i64 (i_2 : Int)) rfl ((hS 5 rfl).trans sf5) ?_
                refine L_add (m := (i_2 : Int)) (n := 1) rfl rfl rfl ?_
                refine L_as (v := .int .i64 (i64 ((i_2 : Int) + 1))) rfl rfl ?_
                refine L_nil ?_
                obtain rfl := so hB3
                show ∃ m, m < _ ∧ I3 m _ _
                refine ⟨rest3.length, by simp, ?_⟩
                rw [hI3]
                exact ⟨i_2 + 1, rest3, rfl, drop_next hd3, by simp at hl3; omega, hL3, ((hS 0 rfl).trans sf0), ((hS 1 rfl).trans sf1), (Eq.trans rfl (congrArg (Value.int .i64) (i64_succ (n := a.length) (by simp at hl3; omega) hlen3))), h0, h1, hx⟩
        ·
          cases suf3 with
          | cons _ _ => exact absurd (of_decide_eq_false hc4) (by simp at hl3; omega)
          | nil =>
            obtain rfl := range_nil hL3
            refine W_exit ?_
            show R3 _ _
            rw [hR3]
            exact ⟨rfl, hx⟩
    ·
      intro f w_ hR
      rw [hR3] at hR
      obtain ⟨rfl, hx⟩ := hR
      clear hR3
      refine W_seq ?_
      refine W_region ?_
      refine L_as (v := .bool true) rfl rfl ?_
      refine L_nil ?_
      refine W_ret ?_
      obtain rfl := so hF
      refine ret1 Try.results90 ?_
      exact ⟨rfl, hx⟩

theorem l_eqRule_c {a : Rule} {b : Rule} {v0_1 : Value} {v0_2 : Value} {v0_4 : Value} {v1_1 : Value} {v1_2 : Value} {v1_4 : Value} {w : World} {B : Nat} (hB : B ≤ w.heap.size) (h0_1 : (RP.slice 3 RP.int).rel B w.heap.size w [v0_1] a.vars) (h0_2 : (RP.slice 3 RP.int).rel B w.heap.size w [v0_2] a.coefs) (h0_4 : (RP.slice 22 (RP.slice 3 RP.int)).rel B w.heap.size w [v0_4] a.rows) (h1_1 : (RP.slice 3 RP.int).rel B w.heap.size w [v1_1] b.vars) (h1_2 : (RP.slice 3 RP.int).rel B w.heap.size w [v1_2] b.coefs) (h1_4 : (RP.slice 22 (RP.slice 3 RP.int)).rel B w.heap.size w [v1_4] b.rows) {r : Bool} (hF : l_eqRule a b = some r) :
    C Try.prog 71 #[.agg #[.int .i64 a.kind, v0_1, v0_2, .int .i64 a.bound, v0_4], .agg #[.int .i64 b.kind, v1_1, v1_2, .int .i64 b.bound, v1_4]] w fun v w' => (v = .bool r) ∧ Ext w w' := by
  unfold l_eqRule at hF
  have hx := ext_refl w
  refine C_enter Try.func71 rfl Try.ntmps71 rfl ?_
  refine W_seq ?_
  refine W_region ?_
  refine L_box (v := .agg #[.int .i64 a.kind, v0_1, v0_2, .int .i64 a.bound, v0_4]) (cs := #[.int .i64 a.kind, v0_1, v0_2, .int .i64 a.bound, v0_4]) rfl rfl rfl ?_
  intro g6 w7 hn7
  have hge_g6 := hn7.ge hx
  have hb_g6 := hn7.blk
  have h0_1 := RP.ext h0_1 hn7.ext
  have h0_2 := RP.ext h0_2 hn7.ext
  have h0_4 := RP.ext h0_4 hn7.ext
  have h1_1 := RP.ext h1_1 hn7.ext
  have h1_2 := RP.ext h1_2 hn7.ext
  have h1_4 := RP.ext h1_4 hn7.ext
  have hx := ext_trans hx hn7.ext
  refine L_box (v := .agg #[.int .i64 b.kind, v1_1, v1_2, .int .i64 b.bound, v1_4]) (cs := #[.int .i64 b.kind, v1_1, v1_2, .int .i64 b.bound, v1_4]) rfl rfl rfl ?_
  intro g8 w9 hn9
  have hge_g8 := hn9.ge hx
  have hb_g8 := hn9.blk
  have ap10 := ap_bb hb_g6 hn9
  have h0_1 := RP.ext h0_1 hn9.ext
  have h0_2 := RP.ext h0_2 hn9.ext
  have h0_4 := RP.ext h0_4 hn9.ext
  have h1_1 := RP.ext h1_1 hn9.ext
  have h1_2 := RP.ext h1_2 hn9.ext
  have h1_4 := RP.ext h1_4 hn9.ext
  have hb_g6 := Blk.ext hb_g6 hn9.ext
  have hx := ext_trans hx hn9.ext
  refine L_as (v := .bool false) rfl rfl ?_
  refine L_nil ?_
  refine W_seq ?_
  refine W_seq ?_
  refine W_region ?_
  refine L_fa (o' := 0) rfl fa_68_0 rfl rfl ?_
  refine L_ld (v := .int .i64 a.kind) rfl Try.isAgg3 rfl (hb_g6.cell (j := 0) rfl) ?_
  refine L_fa (o' := 0) rfl fa_68_0 rfl rfl ?_
  refine L_ld (v := .int .i64 b.kind) rfl Try.isAgg3 rfl (hb_g8.cell (j := 0) rfl) ?_
  refine L_neq (m := a.kind) (n := b.kind) rfl rfl rfl ?_
  refine L_nil ?_
  refine W_cond (b := (a.kind != b.kind)) rfl (fun hc11 => ?_) (fun hc11 => ?_)
  ·
    have hF := (ite_t hc11).symm.trans hF
    refine W_seq ?_
    refine W_region ?_
    refine L_as (v := .bool false) rfl rfl ?_
    refine L_nil ?_
    refine W_ret ?_
    obtain rfl := so hF
    refine ret1 Try.results71 ?_
    exact ⟨rfl, hx⟩
  ·
    have hF := (ite_f hc11).symm.trans hF
    refine W_skip ?_
    refine W_seq ?_
    refine W_seq ?_
    obtain ⟨x12, hx12, hF⟩ := bind_some hF
    refine W_region ?_
    refine L_fa (o' := 1) rfl fa_68_1 rfl rfl ?_
    refine L_ld (v := v0_1) rfl Try.isAgg22 rfl (hb_g6.cell (j := 1) rfl) ?_
    refine L_fa (o' := 1) rfl fa_68_1 rfl rfl ?_
    refine L_ld (v := v1_1) rfl Try.isAgg22 rfl (hb_g8.cell (j := 1) rfl) ?_
    refine L_call (args := #[v0_1, v1_1]) rfl Try.call26 (ops2 rfl rfl) (l_eqIntS_c (a := a.vars) (b := b.vars) (Nat.le_trans hB hx.size) (rel0 h0_1) (rel0 h1_1) hx12) ?_
    rintro _ w14 ⟨rfl, he14⟩
    have h0_1 := RP.ext h0_1 he14
    have h0_2 := RP.ext h0_2 he14
    have h0_4 := RP.ext h0_4 he14
    have h1_1 := RP.ext h1_1 he14
    have h1_2 := RP.ext h1_2 he14
    have h1_4 := RP.ext h1_4 he14
    have hb_g6 := Blk.ext hb_g6 he14
    have hb_g8 := Blk.ext hb_g8 he14
    have hx := ext_trans hx he14
    refine L_not_ (b := x12) rfl rfl ?_
    refine L_nil ?_
    refine W_cond (b := (!x12)) rfl (fun hc15 => ?_) (fun hc15 => ?_)
    ·
      have hF := (ite_t hc15).symm.trans hF
      refine W_seq ?_
      refine W_region ?_
      refine L_as (v := .bool false) rfl rfl ?_
      refine L_nil ?_
      refine W_ret ?_
      obtain rfl := so hF
      refine ret1 Try.results71 ?_
      exact ⟨rfl, hx⟩
    ·
      have hF := (ite_f hc15).symm.trans hF
      refine W_skip ?_
      refine W_seq ?_
      refine W_seq ?_
      obtain ⟨x16, hx16, hF⟩ := bind_some hF
      refine W_region ?_
      refine L_fa (o' := 2) rfl fa_68_2 rfl rfl ?_
      refine L_ld (v := v0_2) rfl Try.isAgg22 rfl (hb_g6.cell (j := 2) rfl) ?_
      refine L_fa (o' := 2) rfl fa_68_2 rfl rfl ?_
      refine L_ld (v := v1_2) rfl Try.isAgg22 rfl (hb_g8.cell (j := 2) rfl) ?_
      refine L_call (args := #[v0_2, v1_2]) rfl Try.call26 (ops2 rfl rfl) (l_eqIntS_c (a := a.coefs) (b := b.coefs) (Nat.le_trans hB hx.size) (rel0 h0_2) (rel0 h1_2) hx16) ?_
      rintro _ w18 ⟨rfl, he18⟩
      have h0_1 := RP.ext h0_1 he18
      have h0_2 := RP.ext h0_2 he18
      have h0_4 := RP.ext h0_4 he18
      have h1_1 := RP.ext h1_1 he18
      have h1_2 := RP.ext h1_2 he18
      have h1_4 := RP.ext h1_4 he18
      have hb_g6 := Blk.ext hb_g6 he18
      have hb_g8 := Blk.ext hb_g8 he18
      have hx := ext_trans hx he18
      refine L_not_ (b := x16) rfl rfl ?_
      refine L_nil ?_
      refine W_cond (b := (!x16)) rfl (fun hc19 => ?_) (fun hc19 => ?_)
      ·
        have hF := (ite_t hc19).symm.trans hF
        refine W_seq ?_
        refine W_region ?_
        refine L_as (v := .bool false) rfl rfl ?_
        refine L_nil ?_
        refine W_ret ?_
        obtain rfl := so hF
        refine ret1 Try.results71 ?_
        exact ⟨rfl, hx⟩
      ·
        have hF := (ite_f hc19).symm.trans hF
        refine W_skip ?_
        refine W_seq ?_
        refine W_seq ?_
        refine W_region ?_
        refine L_fa (o' := 3) rfl fa_68_3 rfl rfl ?_
        refine L_ld (v := .int .i64 a.bound) rfl Try.isAgg3 rfl (hb_g6.cell (j := 3) rfl) ?_
        refine L_fa (o' := 3) rfl fa_68_3 rfl rfl ?_
        refine L_ld (v := .int .i64 b.bound) rfl Try.isAgg3 rfl (hb_g8.cell (j := 3) rfl) ?_
        refine L_neq (m := a.bound) (n := b.bound) rfl rfl rfl ?_
        refine L_nil ?_
        refine W_cond (b := (a.bound != b.bound)) rfl (fun hc20 => ?_) (fun hc20 => ?_)
        ·
          have hF := (ite_t hc20).symm.trans hF
          refine W_seq ?_
          refine W_region ?_
          refine L_as (v := .bool false) rfl rfl ?_
          refine L_nil ?_
          refine W_ret ?_
          obtain rfl := so hF
          refine ret1 Try.results71 ?_
          exact ⟨rfl, hx⟩
        ·
          have hF := (ite_f hc20).symm.trans hF
          refine W_skip ?_
          refine W_seq ?_
          refine W_seq ?_
          obtain ⟨x21, hx21, hF⟩ := bind_some hF
          refine W_region ?_
          refine L_fa (o' := 4) rfl fa_68_4 rfl rfl ?_
          refine L_ld (v := v0_4) rfl Try.isAgg66 rfl (hb_g6.cell (j := 4) rfl) ?_
          refine L_fa (o' := 4) rfl fa_68_4 rfl rfl ?_
          refine L_ld (v := v1_4) rfl Try.isAgg66 rfl (hb_g8.cell (j := 4) rfl) ?_
          refine L_call (args := #[v0_4, v1_4]) rfl Try.call90 (ops2 rfl rfl) (l_eqIntSS_c (a := a.rows) (b := b.rows) (Nat.le_trans hB hx.size) (rel0 h0_4) (rel0 h1_4) hx21) ?_
          rintro _ w23 ⟨rfl, he23⟩
          have h0_4 := RP.ext h0_4 he23
          have h1_4 := RP.ext h1_4 he23
          have hx := ext_trans hx he23
          refine L_not_ (b := x21) rfl rfl ?_
          refine L_nil ?_
          refine W_cond (b := (!x21)) rfl (fun hc24 => ?_) (fun hc24 => ?_)
          ·
            have hF := (ite_t hc24).symm.trans hF
            refine W_seq ?_
            refine W_region ?_
            refine L_as (v := .bool false) rfl rfl ?_
            refine L_nil ?_
            refine W_ret ?_
            obtain rfl := so hF
            refine ret1 Try.results71 ?_
            exact ⟨rfl, hx⟩
          ·
            have hF := (ite_f hc24).symm.trans hF
            refine W_skip ?_
            refine W_seq ?_
            refine W_region ?_
            refine L_as (v := .bool true) rfl rfl ?_
            refine L_nil ?_
            refine W_ret ?_
            obtain rfl := so hF
            refine ret1 Try.results71 ?_
            exact ⟨rfl, hx⟩

theorem l_eqRuleS_c {a : List Rule} {b : List Rule} {v0 : Value} {v1 : Value} {w : World} {B : Nat} (hB : B ≤ w.heap.size) (h0 : (RP.slice 68 (rRule 3 22)).rel B w.heap.size w [v0] a) (h1 : (RP.slice 68 (rRule 3 22)).rel B w.heap.size w [v1] b) {r : Bool} (hF : l_eqRuleS a b = some r) :
    C Try.prog 50 #[v0, v1] w fun v w' => (v = .bool r) ∧ Ext w w' := by
  unfold l_eqRuleS at hF
  have hx := ext_refl w
  refine C_enter Try.func50 rfl Try.ntmps50 rfl ?_
  refine W_seq ?_
  refine W_region ?_
  refine L_as (v := .bool false) rfl rfl ?_
  refine L_nil ?_
  refine W_seq ?_
  refine W_seq ?_
  refine W_region ?_
  refine L_mv (v := v0) rfl rfl ?_
  refine L_len (v := v0) rfl Try.underlying28 rfl h0 ?_
  refine L_mv (v := v1) rfl rfl ?_
  refine L_len (v := v1) rfl Try.underlying28 rfl h1 ?_
  refine L_neq (m := (a.length : Int)) (n := (b.length : Int)) rfl rfl rfl ?_
  refine L_nil ?_
  refine W_cond (b := ((a.length : Int) != (b.length : Int))) rfl (fun hc1 => ?_) (fun hc1 => ?_)
  ·
    have hF := (ite_t hc1).symm.trans hF
    refine W_seq ?_
    refine W_region ?_
    refine L_as (v := .bool false) rfl rfl ?_
    refine L_nil ?_
    refine W_ret ?_
    obtain rfl := so hF
    refine ret1 Try.results50 ?_
    exact ⟨rfl, hx⟩
  ·
    have hF := (ite_f hc1).symm.trans hF
    refine W_skip ?_
    refine W_seq ?_
    refine W_seq ?_
    refine W_region ?_
    refine L_as (v := .int .i64 0) rfl rfl ?_
    refine L_nil ?_
    have hlen3 := len_le h0
    obtain ⟨j3, hL3, hF⟩ := bind_some hF
    obtain ⟨R3, hR3⟩ : ∃ R : Fr → World → Prop, R = fun f w_ => j3 = .nx () ∧ Ext w w_ := ⟨_, rfl⟩
    refine W_join R3 ?_ ?_
    ·
      refine W_block ?_
      obtain ⟨I3, hI3⟩ : ∃ I : Nat → Fr → World → Prop, I = fun n f w_ => ∃ i_2 : Nat, ∃ suf3 : List Rule, n = suf3.length ∧ List.drop i_2 a = suf3 ∧ i_2 + suf3.length = a.length ∧ rangeL (l_eqRuleS_b1 b) suf3 i_2 () = some j3 ∧ f 0 = v0 ∧ f 1 = v1 ∧ f 5 = .int .i64 (i_2 : Int) ∧ (RP.slice 68 (rRule 3 22)).rel B w.heap.size w_ [v0] a ∧ (RP.slice 68 (rRule 3 22)).rel B w.heap.size w_ [v1] b ∧ Ext w w_ := ⟨_, rfl⟩
      refine W_loop I3 (n := a.length) ?_ ?_
      · rw [hI3]; exact ⟨0, a, rfl, rfl, Nat.zero_add _, hL3, rfl, rfl, rfl, h0, h1, hx⟩
      ·
        intro n3 f w_ hI
        rw [hI3] at hI
        obtain ⟨i_2, suf3, rfl, hd3, hl3, hL3, sf0, sf1, sf5, h0, h1, hx⟩ := hI
        refine W_seq ?_
        refine W_seq ?_
        refine W_region ?_
        refine L_mv (v := .int .i64 (i_2 : Int)) rfl sf5 ?_
        refine L_mv (v := v0) rfl sf0 ?_
        refine L_len (v := v0) rfl Try.underlying28 rfl h0 ?_
        refine L_lss (m := (i_2 : Int)) (n := (a.length : Int)) rfl rfl rfl ?_
        refine L_nil ?_
        refine W_cond (b := decide ((i_2 : Int) < (a.length : Int))) rfl (fun hc4 => ?_) (fun hc4 => ?_)
        ·
          have hlt3 := of_decide_eq_true hc4
          cases suf3 with
          | nil => exact absurd hlt3 (by simp at hl3; omega)
          | cons x_3 rest3 =>
            obtain ⟨o3, hB3, hL3⟩ := range_cons hL3
            rw [l_eqRuleS_b1] at hB3
            have hix3 := drop_idx hd3
            refine W_skip ?_
            refine W_seq ?_
            refine W_block ?_
            refine W_seq ?_
            obtain ⟨x7, hx7, hB3⟩ := bind_some hB3
            obtain ⟨x10, hx10, hB3⟩ := bind_some hB3
            refine W_drawL 8 [isV (v0), isV (.int .i64 (i_2 : Int)), isEl B (rRule 3 22) x_3 0, isAgg_ B (rRule 3 22) x_3, isV (v1), isV (.int .i64 (i_2 : Int)), isEl B (rRule 3 22) x7 0, isAgg_ B (rRule 3 22) x7] Try_mix (by kernel_rfl) (am_cons (mono_V _) (am_cons (mono_V _) (am_cons (mono_el _ _ _ _) (am_cons (mono_agg _ _ _) (am_cons (mono_V _) (am_cons (mono_V _) (am_cons (mono_el _ _ _ _) (am_cons (mono_agg _ _ _) am_nil)))))))) ?_ (fun f w_ hS hE hT => ?_)
            ·
              refine ops_cons (fun f w_ hS hE hP => ?_) ?_
              ·
                have hx := ext_trans hx hE
                have h0 := RP.ext h0 hE
                refine L_mv (v := v0) rfl ((hS 0 rfl).trans sf0) ?_
                exact L_nil ⟨rfl, (ext_refl _), _, _, rfl, rfl, rfl⟩
              refine ops_cons (fun f w_ hS hE hP => ?_) ?_
              ·
                have hx := ext_trans hx hE
                refine L_mv (v := .int .i64 (i_2 : Int)) rfl ((hS 5 rfl).trans sf5) ?_
                exact L_nil ⟨rfl, (ext_refl _), _, _, rfl, rfl, rfl⟩
              refine ops_cons (fun f w_ hS hE hP => ?_) ?_
              ·
                have hx := ext_trans hx hE
                have h0 := RP.ext h0 hE
                refine L_ix (r := (rRule 3 22)) rfl Try.underlying28 Try.sizeOf68 (hP 0 17 rfl rfl) h0 (hP 1 18 rfl rfl) hix3 ?_
                intro g16 o17 cs17 hr17 hat17
                obtain ⟨u17_0, u17_1, u17_2, rfl, hu17_0, hu17_1, hu17_2⟩ := rRule_iff.1 hr17
                exact L_nil ⟨rfl, (ext_refl _), _, _, rfl, rfl, ⟨_, _, _, rfl, (rel0 hr17), hat17⟩⟩
              refine ops_cons (fun f w_ hS hE hP => ?_) ?_
              ·
                have hx := ext_trans hx hE
                obtain ⟨g18, o18, cs18, hv18, hr18, hat18⟩ := (hP 2 19 rfl rfl)
                obtain ⟨u18_0, u18_1, u18_2, rfl, hu18_0, hu18_1, hu18_2⟩ := rRule_iff.1 hr18
                refine L_lda (cs := [.int .i64 x_3.kind, u18_0, u18_1, .int .i64 x_3.bound, u18_2]) rfl Try.isAgg68 Try.sizeOf68 hv18 (At.sub hat18 0 5) rfl ?_
                exact L_nil ⟨rfl, (ext_refl _), _, _, rfl, rfl, ⟨[.int .i64 x_3.kind, u18_0, u18_1, .int .i64 x_3.bound, u18_2], rfl, (rRule_iff.2 ⟨_, _, _, rfl, (rel0 hu18_0), (rel0 hu18_1), (rel0 hu18_2)⟩)⟩⟩
              refine ops_cons (fun f w_ hS hE hP => ?_) ?_
              ·
                have hx := ext_trans hx hE
                have h1 := RP.ext h1 hE
                refine L_mv (v := v1) rfl ((hS 1 rfl).trans sf1) ?_
                exact L_nil ⟨rfl, (ext_refl _), _, _, rfl, rfl, rfl⟩
              refine ops_cons (fun f w_ hS hE hP => ?_) ?_
              ·
                have hx := ext_trans hx hE
                refine L_mv (v := .int .i64 (i_2 : Int)) rfl ((hS 5 rfl).trans sf5) ?_
                exact L_nil ⟨rfl, (ext_refl _), _, _, rfl, rfl, rfl⟩
              refine ops_cons (fun f w_ hS hE hP => ?_) ?_
              ·
                have hx := ext_trans hx hE
                have h1 := RP.ext h1 hE
                refine L_ix (r := (rRule 3 22)) rfl Try.underlying28 Try.sizeOf68 (hP 4 21 rfl rfl) h1 (hP 5 22 rfl rfl) hx7 ?_
                intro g19 o20 cs20 hr20 hat20
                obtain ⟨u20_0, u20_1, u20_2, rfl, hu20_0, hu20_1, hu20_2⟩ := rRule_iff.1 hr20
                exact L_nil ⟨rfl, (ext_refl _), _, _, rfl, rfl, ⟨_, _, _, rfl, (rel0 hr20), hat20⟩⟩
              refine ops_cons (fun f w_ hS hE hP => ?_) ?_
              ·
                have hx := ext_trans hx hE
                obtain ⟨g21, o21, cs21, hv21, hr21, hat21⟩ := (hP 6 23 rfl rfl)
                obtain ⟨u21_0, u21_1, u21_2, rfl, hu21_0, hu21_1, hu21_2⟩ := rRule_iff.1 hr21
                refine L_lda (cs := [.int .i64 x7.kind, u21_0, u21_1, .int .i64 x7.bound, u21_2]) rfl Try.isAgg68 Try.sizeOf68 hv21 (At.sub hat21 0 5) rfl ?_
                exact L_nil ⟨rfl, (ext_refl _), _, _, rfl, rfl, ⟨[.int .i64 x7.kind, u21_0, u21_1, .int .i64 x7.bound, u21_2], rfl, (rRule_iff.2 ⟨_, _, _, rfl, (rel0 hu21_0), (rel0 hu21_1), (rel0 hu21_2)⟩)⟩⟩
              exact ops_nil
            ·
              have h0 := RP.ext h0 hE
              have h1 := RP.ext h1 hE
              have hx := ext_trans hx hE
              obtain ⟨cs22, hv22, hr22⟩ := (hT 3 20 rfl rfl)
              obtain ⟨u22_0, u22_1, u22_2, rfl, hu22_0, hu22_1, hu22_2⟩ := rRule_iff.1 hr22
              obtain ⟨cs23, hv23, hr23⟩ := (hT 7 24 rfl rfl)
              obtain ⟨u23_0, u23_1, u23_2, rfl, hu23_0, hu23_1, hu23_2⟩ := rRule_iff.1 hr23
              refine L_call (args := #[.agg #[.int .i64 x_3.kind, u22_0, u22_1, .int .i64 x_3.bound, u22_2], .agg #[.int .i64 x7.kind, u23_0, u23_1, .int .i64 x7.bound, u23_2]]) rfl Try.call71 (ops2 hv22 hv23) (l_eqRule_c (a := x_3) (b := x7) (Nat.le_trans hB hx.size) (rel0 hu22_0) (rel0 hu22_1) (rel0 hu22_2) (rel0 hu23_0) (rel0 hu23_1) (rel0 hu23_2) hx10) ?_
              rintro _ w24 ⟨rfl, he24⟩
              have h0 := RP.ext h0 he24
              have h1 := RP.ext h1 he24
              have hu22_0 := RP.ext hu22_0 he24
              have hu22_1 := RP.ext hu22_1 he24
              have hu22_2 := RP.ext hu22_2 he24
              have hu23_0 := RP.ext hu23_0 he24
              have hu23_1 := RP.ext hu23_1 he24
              have hu23_2 := RP.ext hu23_2 he24
              have hx := ext_trans hx he24
              refine L_not_ (b := x10) rfl rfl ?_
              refine L_nil ?_
              refine W_cond (b := (!x10)) rfl (fun hc25 => ?_) (fun hc25 => ?_)
              ·
                have hB3 := (ite_t hc25).symm.trans hB3
                refine W_seq ?_
                refine W_region ?_
                refine L_as (v := .bool false) rfl rfl ?_
                refine L_nil ?_
                refine W_ret ?_
                obtain rfl := so hB3
                obtain rfl := so hL3
                obtain rfl := so hF
                refine ret1 Try.results50 ?_
                exact ⟨rfl, hx⟩
              ·
                have hB3 := (ite_f hc25).symm.trans hB3
                refine W_skip ?_
                refine W_region ?_
                refine L_mv (v := .int .i64 (i_2 : Int)) rfl ((hS 5 rfl).trans sf5) ?_
                refine L_add (m := (i_2 : Int)) (n := 1) rfl rfl rfl ?_
                refine L_as (v := .int .i64 (i64 ((i_2 : Int) + 1))) rfl rfl ?_
                refine L_nil ?_
                obtain rfl := so hB3
                show ∃ m, m < _ ∧ I3 m _ _
                refine ⟨rest3.length, by simp, ?_⟩
                rw [hI3]
                exact ⟨i_2 + 1, rest3, rfl, drop_next hd3, by simp at hl3; omega, hL3, ((hS 0 rfl).trans sf0), ((hS 1 rfl).trans sf1), (Eq.trans rfl (congrArg (Value.int .i64) (i64_succ (n := a.length) (by simp at hl3; omega) hlen3))), h0, h1, hx⟩
        ·
          cases suf3 with
          | cons _ _ => exact absurd (of_decide_eq_false hc4) (by simp at hl3; omega)
          | nil =>
            obtain rfl := range_nil hL3
            refine W_exit ?_
            show R3 _ _
            rw [hR3]
            exact ⟨rfl, hx⟩
    ·
      intro f w_ hR
      rw [hR3] at hR
      obtain ⟨rfl, hx⟩ := hR
      clear hR3
      refine W_seq ?_
      refine W_region ?_
      refine L_as (v := .bool true) rfl rfl ?_
      refine L_nil ?_
      refine W_ret ?_
      obtain rfl := so hF
      refine ret1 Try.results50 ?_
      exact ⟨rfl, hx⟩

theorem l_eqModel_c {a : Model} {b : Model} {v0_0 : Value} {v0_1 : Value} {v1_0 : Value} {v1_1 : Value} {w : World} {B : Nat} (hB : B ≤ w.heap.size) (h0_0 : (RP.slice 3 RP.int).rel B w.heap.size w [v0_0] a.sizes) (h0_1 : (RP.slice 68 (rRule 3 22)).rel B w.heap.size w [v0_1] a.rules) (h1_0 : (RP.slice 3 RP.int).rel B w.heap.size w [v1_0] b.sizes) (h1_1 : (RP.slice 68 (rRule 3 22)).rel B w.heap.size w [v1_1] b.rules) {r : Bool} (hF : l_eqModel a b = some r) :
    C Try.prog 15 #[.agg #[v0_0, v0_1], .agg #[v1_0, v1_1]] w fun v w' => (v = .bool r) ∧ Ext w w' := by
  unfold l_eqModel at hF
  have hx := ext_refl w
  refine C_enter Try.func15 rfl Try.ntmps15 rfl ?_
  refine W_seq ?_
  refine W_region ?_
  refine L_box (v := .agg #[v0_0, v0_1]) (cs := #[v0_0, v0_1]) rfl rfl rfl ?_
  intro g6 w7 hn7
  have hge_g6 := hn7.ge hx
  have hb_g6 := hn7.blk
  have h0_0 := RP.ext h0_0 hn7.ext
  have h0_1 := RP.ext h0_1 hn7.ext
  have h1_0 := RP.ext h1_0 hn7.ext
  have h1_1 := RP.ext h1_1 hn7.ext
  have hx := ext_trans hx hn7.ext
  refine L_box (v := .agg #[v1_0, v1_1]) (cs := #[v1_0, v1_1]) rfl rfl rfl ?_
  intro g8 w9 hn9
  have hge_g8 := hn9.ge hx
  have hb_g8 := hn9.blk
  have ap10 := ap_bb hb_g6 hn9
  have h0_0 := RP.ext h0_0 hn9.ext
  have h0_1 := RP.ext h0_1 hn9.ext
  have h1_0 := RP.ext h1_0 hn9.ext
  have h1_1 := RP.ext h1_1 hn9.ext
  have hb_g6 := Blk.ext hb_g6 hn9.ext
  have hx := ext_trans hx hn9.ext
  refine L_as (v := .bool false) rfl rfl ?_
  refine L_nil ?_
  refine W_seq ?_
  refine W_seq ?_
  obtain ⟨x11, hx11, hF⟩ := bind_some hF
  refine W_region ?_
  refine L_fa (o' := 0) rfl fa_30_0 rfl rfl ?_
  refine L_ld (v := v0_0) rfl Try.isAgg22 rfl (hb_g6.cell (j := 0) rfl) ?_
  refine L_fa (o' := 0) rfl fa_30_0 rfl rfl ?_
  refine L_ld (v := v1_0) rfl Try.isAgg22 rfl (hb_g8.cell (j := 0) rfl) ?_
  refine L_call (args := #[v0_0, v1_0]) rfl Try.call26 (ops2 rfl rfl) (l_eqIntS_c (a := a.sizes) (b := b.sizes) (Nat.le_trans hB hx.size) (rel0 h0_0) (rel0 h1_0) hx11) ?_
  rintro _ w13 ⟨rfl, he13⟩
  have h0_0 := RP.ext h0_0 he13
  have h0_1 := RP.ext h0_1 he13
  have h1_0 := RP.ext h1_0 he13
  have h1_1 := RP.ext h1_1 he13
  have hb_g6 := Blk.ext hb_g6 he13
  have hb_g8 := Blk.ext hb_g8 he13
  have hx := ext_trans hx he13
  refine L_not_ (b := x11) rfl rfl ?_
  refine L_nil ?_
  refine W_cond (b := (!x11)) rfl (fun hc14 => ?_) (fun hc14 => ?_)
  ·
    have hF := (ite_t hc14).symm.trans hF
    refine W_seq ?_
    refine W_region ?_
    refine L_as (v := .bool false) rfl rfl ?_
    refine L_nil ?_
    refine W_ret ?_
    obtain rfl := so hF
    refine ret1 Try.results15 ?_
    exact ⟨rfl, hx⟩
  ·
    have hF := (ite_f hc14).symm.trans hF
    refine W_skip ?_
    refine W_seq ?_
    refine W_seq ?_
    obtain ⟨x15, hx15, hF⟩ := bind_some hF
    refine W_region ?_
    refine L_fa (o' := 1) rfl fa_30_1 rfl rfl ?_
    refine L_ld (v := v0_1) rfl Try.isAgg28 rfl (hb_g6.cell (j := 1) rfl) ?_
    refine L_fa (o' := 1) rfl fa_30_1 rfl rfl ?_
    refine L_ld (v := v1_1) rfl Try.isAgg28 rfl (hb_g8.cell (j := 1) rfl) ?_
    refine L_call (args := #[v0_1, v1_1]) rfl Try.call50 (ops2 rfl rfl) (l_eqRuleS_c (a := a.rules) (b := b.rules) (Nat.le_trans hB hx.size) (rel0 h0_1) (rel0 h1_1) hx15) ?_
    rintro _ w17 ⟨rfl, he17⟩
    have h0_1 := RP.ext h0_1 he17
    have h1_1 := RP.ext h1_1 he17
    have hx := ext_trans hx he17
    refine L_not_ (b := x15) rfl rfl ?_
    refine L_nil ?_
    refine W_cond (b := (!x15)) rfl (fun hc18 => ?_) (fun hc18 => ?_)
    ·
      have hF := (ite_t hc18).symm.trans hF
      refine W_seq ?_
      refine W_region ?_
      refine L_as (v := .bool false) rfl rfl ?_
      refine L_nil ?_
      refine W_ret ?_
      obtain rfl := so hF
      refine ret1 Try.results15 ?_
      exact ⟨rfl, hx⟩
    ·
      have hF := (ite_f hc18).symm.trans hF
      refine W_skip ?_
      refine W_seq ?_
      refine W_region ?_
      refine L_as (v := .bool true) rfl rfl ?_
      refine L_nil ?_
      refine W_ret ?_
      obtain rfl := so hF
      refine ret1 Try.results15 ?_
      exact ⟨rfl, hx⟩

theorem l_FnExactBoolVar_c {fu : Nat} {aM : Model} {aCell : Int} {aValue : Int} {v0_0 : Value} {v0_1 : Value} {w : World} {B : Nat} (hB : B ≤ w.heap.size) (h0_0 : (RP.slice 3 RP.int).rel B w.heap.size w [v0_0] aM.sizes) (h0_1 : (RP.slice 76 (rRule 3 22)).rel B w.heap.size w [v0_1] aM.rules) {r : Bool} (hF : l_FnExactBoolVar fu aM aCell aValue = some r) :
    C Try.prog 3 #[.agg #[v0_0, v0_1], .int .i64 aCell, .int .i64 aValue] w fun v w' => (v = .bool r) ∧ Ext w w' := by
  unfold l_FnExactBoolVar at hF
  have hx := ext_refl w
  refine C_enter Try.func3 rfl Try.ntmps3 rfl ?_
  refine W_seq ?_
  refine W_region ?_
  refine L_box (v := .agg #[v0_0, v0_1]) (cs := #[v0_0, v0_1]) rfl rfl rfl ?_
  intro g3 w4 hn4
  have hge_g3 := hn4.ge hx
  have hb_g3 := hn4.blk
  have h0_0 := RP.ext h0_0 hn4.ext
  have h0_1 := RP.ext h0_1 hn4.ext
  have hx := ext_trans hx hn4.ext
  refine L_as (v := .bool false) rfl rfl ?_
  refine L_nil ?_
  refine W_seq ?_
  refine W_region ?_
  refine L_as (v := .int .i64 1048576) rfl rfl ?_
  refine L_nil ?_
  refine W_seq ?_
  obtain ⟨x5, hx5, hF⟩ := bind_some hF
  refine W_region ?_
  refine L_lda (cs := [v0_0, v0_1]) rfl Try.isAgg25 Try.sizeOf25 rfl (Blk.sub hb_g3 0 2) rfl ?_
  refine L_mv (v := .int .i64 1048576) rfl rfl ?_
  refine L_call (args := #[.agg #[v0_0, v0_1], .int .i64 1048576]) rfl Try.call11 (ops2 rfl rfl) (l_szModel_c (a := aM) (left := 1048576) (Nat.le_trans hB hx.size) (rel0 h0_0) (rel0 h0_1) hx5) ?_
  rintro _ w7 ⟨rfl, he7⟩
  have h0_0 := RP.ext h0_0 he7
  have h0_1 := RP.ext h0_1 he7
  have hb_g3 := Blk.ext hb_g3 he7
  have hx := ext_trans hx he7
  refine L_as (v := .int .i64 x5) rfl rfl ?_
  refine L_nil ?_
  refine W_seq ?_
  refine W_seq ?_
  refine W_region ?_
  refine L_mv (v := .int .i64 x5) rfl rfl ?_
  refine L_lss (m := x5) (n := 0) rfl rfl rfl ?_
  refine L_nil ?_
  refine W_cond (b := decide (x5 < 0)) rfl (fun hc8 => ?_) (fun hc8 => ?_)
  ·
    have hF := (ite_t hc8).symm.trans hF
    refine W_seq ?_
    refine W_region ?_
    refine L_as (v := .bool true) rfl rfl ?_
    refine L_nil ?_
    refine W_ret ?_
    obtain rfl := so hF
    refine ret1 Try.results3 ?_
    exact ⟨rfl, hx⟩
  ·
    have hF := (ite_f hc8).symm.trans hF
    refine W_skip ?_
    refine W_seq ?_
    obtain ⟨x9, hx9, hF⟩ := bind_some hF
    obtain ⟨x11, hx11, hF⟩ := bind_some hF
    refine W_region ?_
    refine L_lda (cs := [v0_0, v0_1]) rfl Try.isAgg25 Try.sizeOf25 rfl (Blk.sub hb_g3 0 2) rfl ?_
    refine L_call (args := #[.agg #[v0_0, v0_1]]) rfl Try.call13 (ops1 rfl) (l_toModel_c (a := aM) (Nat.le_trans hB hx.size) (rel0 h0_0) (rel0 h0_1) hx9) ?_
    rintro _ w13 ⟨⟨r13_0, r13_1, rfl, hr13_0, hr13_1⟩, he13⟩
    have hr13_0 : Own _ _ w.heap.size B _ _ _ := hr13_0.wide hx.size (Nat.le_refl _)
    have hr13_1 : Own _ _ w.heap.size B _ _ _ := hr13_1.wide hx.size (Nat.le_refl _)
    have h0_0 := RP.ext h0_0 he13
    have h0_1 := RP.ext h0_1 he13
    have hb_g3 := Blk.ext hb_g3 he13
    have hx := ext_trans hx he13
    refine L_mv (v := .int .i64 aCell) rfl rfl ?_
    refine L_mv (v := .int .i64 aValue) rfl rfl ?_
    refine L_call (args := #[.agg #[r13_0, r13_1], .int .i64 aCell, .int .i64 aValue]) rfl Try.call12 (ops3 rfl rfl rfl) (s_BoolVar_c (m := x9) (cell := aCell) (value := aValue) (Nat.le_trans hB hx.size) (rel0 (Own.rel hr13_0)) (rel0 (Own.rel hr13_1)) hx11) ?_
    rintro _ w14 ⟨rfl, he14⟩
    have h0_0 := RP.ext h0_0 he14
    have h0_1 := RP.ext h0_1 he14
    have hb_g3 := Blk.ext hb_g3 he14
    have hr13_0 := Own.ext hr13_0 he14
    have hr13_1 := Own.ext hr13_1 he14
    have hx := ext_trans hx he14
    refine L_as (v := .int .i64 x11) rfl rfl ?_
    refine L_nil ?_
    refine W_seq ?_
    obtain ⟨x15, hx15, hF⟩ := bind_some hF
    refine W_region ?_
    refine L_lda (cs := [v0_0, v0_1]) rfl Try.isAgg25 Try.sizeOf25 rfl (Blk.sub hb_g3 0 2) rfl ?_
    refine L_call (args := #[.agg #[v0_0, v0_1]]) rfl Try.call13 (ops1 rfl) (l_toModel_c (a := aM) (Nat.le_trans hB hx.size) (rel0 h0_0) (rel0 h0_1) hx15) ?_
    rintro _ w20 ⟨⟨r20_0, r20_1, rfl, hr20_0, hr20_1⟩, he20⟩
    have hr20_0 : Own _ _ w.heap.size B _ _ _ := hr20_0.wide hx.size (Nat.le_refl _)
    have hr20_1 : Own _ _ w.heap.size B _ _ _ := hr20_1.wide hx.size (Nat.le_refl _)
    have h0_0 := RP.ext h0_0 he20
    have h0_1 := RP.ext h0_1 he20
    have hb_g3 := Blk.ext hb_g3 he20
    have hx := ext_trans hx he20
    refine L_al (cs := #[(.slice none 0 0), (.slice none 0 0)]) rfl Try.zeroValue30 rfl ?_
    intro g21 w22 hn22
    have hge_g21 := hn22.ge hx
    have hb_g21 := hn22.blk
    have h0_0 := RP.ext h0_0 hn22.ext
    have h0_1 := RP.ext h0_1 hn22.ext
    have hb_g3 := Blk.ext hb_g3 hn22.ext
    have hr20_0 := Own.ext hr20_0 hn22.ext
    have hr20_1 := Own.ext hr20_1 hn22.ext
    have hx := ext_trans hx hn22.ext
    refine L_sta (vs := #[r20_0, r20_1]) rfl Try.sizeOf30 rfl rfl rfl (ones_cons (one_of (Own.rel hr20_0)) (ones_cons (one_of (Own.rel hr20_1)) ones_nil)) hb_g21 rfl ?_
    intro w23 hp23
    have h0_0 := hp23.mu.rel h0_0 (by decide) (Nat.le_trans hB hge_g21)
    have h0_1 := hp23.mu.rel h0_1 (by decide) (Nat.le_trans hB hge_g21)
    have hb_g3 := hp23.mu.blk hb_g3 (by decide)
    have hr20_0 := hp23.mu.ownT hr20_0 (by decide) (by decide) (Nat.le_trans hB hge_g21)
    have hr20_1 := hp23.mu.ownT hr20_1 (by decide) (by decide) (Nat.le_trans hB hge_g21)
    have hx := ext_mut hx hp23.mu hge_g21
    have hb_g21 : Blk w23 g21 30 #[r20_0, r20_1] := hp23.blk
    refine L_nil ?_
    refine W_seq ?_
    obtain ⟨x24, hx24, hF⟩ := bind_some hF
    refine W_region ?_
    refine L_lda (cs := [r20_0, r20_1]) rfl Try.isAgg30 Try.sizeOf30 rfl (Blk.sub hb_g21 0 2) rfl ?_
    refine L_mv (v := .int .i64 aCell) rfl rfl ?_
    refine L_mv (v := .int .i64 aValue) rfl rfl ?_
    refine L_call (args := #[.agg #[r20_0, r20_1], .int .i64 aCell, .int .i64 aValue]) rfl Try.call14 (ops3 rfl rfl rfl) (i_BoolVar_c (m := x15) (cell := aCell) (value := aValue) (Nat.le_trans hB hx.size) (rel0 (Own.rel hr20_0)) (rel0 (Own.rel hr20_1)) hx24) ?_
    rintro _ w26 ⟨rfl, he26⟩
    have h0_0 := RP.ext h0_0 he26
    have h0_1 := RP.ext h0_1 he26
    have hb_g3 := Blk.ext hb_g3 he26
    have hr20_0 := Own.ext hr20_0 he26
    have hr20_1 := Own.ext hr20_1 he26
    have hb_g21 := Blk.ext hb_g21 he26
    have hx := ext_trans hx he26
    refine L_as (v := .int .i64 x24) rfl rfl ?_
    refine L_nil ?_
    refine W_seq ?_
    refine W_seq ?_
    refine W_region ?_
    refine L_mv (v := .int .i64 x24) rfl rfl ?_
    refine L_mv (v := .int .i64 x11) rfl rfl ?_
    refine L_neq (m := x24) (n := x11) rfl rfl rfl ?_
    refine L_nil ?_
    refine W_cond (b := (x24 != x11)) rfl (fun hc27 => ?_) (fun hc27 => ?_)
    ·
      have hF := (ite_t hc27).symm.trans hF
      refine W_seq ?_
      refine W_region ?_
      refine L_as (v := .bool false) rfl rfl ?_
      refine L_nil ?_
      refine W_ret ?_
      obtain rfl := so hF
      refine ret1 Try.results3 ?_
      exact ⟨rfl, hx⟩
    ·
      have hF := (ite_f hc27).symm.trans hF
      refine W_skip ?_
      refine W_seq ?_
      refine W_seq ?_
      obtain ⟨x28, hx28, hF⟩ := bind_some hF
      obtain ⟨x32, hx32, hF⟩ := bind_some hF
      refine W_drawL 3 [isV (.agg #[r20_0, r20_1]), isV (.agg #[v0_0, v0_1]), isAgg_ B (rModel 3 22 68) x28] Try_mix (by kernel_rfl) (am_cons (mono_V _) (am_cons (mono_V _) (am_cons (mono_agg _ _ _) am_nil))) ?_ (fun f w_ hS hE hT => ?_)
      ·
        refine ops_cons (fun f w_ hS hE hP => ?_) ?_
        ·
          have hx := ext_trans hx hE
          have hr20_0 := Own.ext hr20_0 hE
          have hr20_1 := Own.ext hr20_1 hE
          have hb_g21 := Blk.ext hb_g21 hE
          refine L_lda (cs := [r20_0, r20_1]) rfl Try.isAgg30 Try.sizeOf30 ((hS 9 rfl).trans rfl) (Blk.sub hb_g21 0 2) rfl ?_
          exact L_nil ⟨rfl, (ext_refl _), _, _, rfl, rfl, rfl⟩
        refine ops_cons (fun f w_ hS hE hP => ?_) ?_
        ·
          have hx := ext_trans hx hE
          have h0_0 := RP.ext h0_0 hE
          have h0_1 := RP.ext h0_1 hE
          have hb_g3 := Blk.ext hb_g3 hE
          refine L_lda (cs := [v0_0, v0_1]) rfl Try.isAgg25 Try.sizeOf25 ((hS 3 rfl).trans rfl) (Blk.sub hb_g3 0 2) rfl ?_
          exact L_nil ⟨rfl, (ext_refl _), _, _, rfl, rfl, rfl⟩
        refine ops_cons (fun f w_ hS hE hP => ?_) ?_
        ·
          have hx := ext_trans hx hE
          have h0_0 := RP.ext h0_0 hE
          have h0_1 := RP.ext h0_1 hE
          refine L_call (args := #[.agg #[v0_0, v0_1]]) rfl Try.call13 (ops1 (hP 1 31 rfl rfl)) (l_toModel_c (a := aM) (Nat.le_trans hB hx.size) (rel0 h0_0) (rel0 h0_1) hx28) ?_
          rintro _ w37 ⟨⟨r37_0, r37_1, rfl, hr37_0, hr37_1⟩, he37⟩
          have hr37_0 : Own _ _ w.heap.size B _ _ _ := hr37_0.wide hx.size (Nat.le_refl _)
          have hr37_1 : Own _ _ w.heap.size B _ _ _ := hr37_1.wide hx.size (Nat.le_refl _)
          have h0_0 := RP.ext h0_0 he37
          have h0_1 := RP.ext h0_1 he37
          have hx := ext_trans hx he37
          exact L_nil ⟨rfl, he37, _, _, rfl, rfl, ⟨[r37_0, r37_1], rfl, (rModel_iff.2 ⟨_, _, rfl, (rel0 (Own.rel hr37_0)), (rel0 (Own.rel hr37_1))⟩)⟩⟩
        exact ops_nil
      ·
        have h0_0 := RP.ext h0_0 hE
        have h0_1 := RP.ext h0_1 hE
        have hb_g3 := Blk.ext hb_g3 hE
        have hr20_0 := Own.ext hr20_0 hE
        have hr20_1 := Own.ext hr20_1 hE
        have hb_g21 := Blk.ext hb_g21 hE
        have hx := ext_trans hx hE
        obtain ⟨cs38, hv38, hr38⟩ := (hT 2 32 rfl rfl)
        obtain ⟨u38_0, u38_1, rfl, hu38_0, hu38_1⟩ := rModel_iff.1 hr38
        refine L_call (args := #[.agg #[r20_0, r20_1], .agg #[u38_0, u38_1]]) rfl Try.call15 (ops2 (hT 0 30 rfl rfl) hv38) (l_eqModel_c (a := x15) (b := x28) (Nat.le_trans hB hx.size) (rel0 (Own.rel hr20_0)) (rel0 (Own.rel hr20_1)) (rel0 hu38_0) (rel0 hu38_1) hx32) ?_
        rintro _ w39 ⟨rfl, he39⟩
        have hr20_0 := Own.ext hr20_0 he39
        have hr20_1 := Own.ext hr20_1 he39
        have hu38_0 := RP.ext hu38_0 he39
        have hu38_1 := RP.ext hu38_1 he39
        have hx := ext_trans hx he39
        refine L_not_ (b := x32) rfl rfl ?_
        refine L_nil ?_
        refine W_cond (b := (!x32)) rfl (fun hc40 => ?_) (fun hc40 => ?_)
        ·
          have hF := (ite_t hc40).symm.trans hF
          refine W_seq ?_
          refine W_region ?_
          refine L_as (v := .bool false) rfl rfl ?_
          refine L_nil ?_
          refine W_ret ?_
          obtain rfl := so hF
          refine ret1 Try.results3 ?_
          exact ⟨rfl, hx⟩
        ·
          have hF := (ite_f hc40).symm.trans hF
          refine W_skip ?_
          refine W_seq ?_
          refine W_region ?_
          refine L_as (v := .bool true) rfl rfl ?_
          refine L_nil ?_
          refine W_ret ?_
          obtain rfl := so hF
          refine ret1 Try.results3 ?_
          exact ⟨rfl, hx⟩

theorem s_FreeVars_c {fu : Nat} {m : Model} {v0_0 : Value} {v0_1 : Value} {w : World} {B : Nat} (hB : B ≤ w.heap.size) (h0_0 : (RP.slice 3 RP.int).rel B w.heap.size w [v0_0] m.sizes) (h0_1 : (RP.slice 68 (rRule 3 22)).rel B w.heap.size w [v0_1] m.rules) {r : Int} (hF : s_FreeVars fu m = some r) :
    C Try.prog 16 #[.agg #[v0_0, v0_1]] w fun v w' => (v = .int .i64 r) ∧ Ext w w' := by
  unfold s_FreeVars at hF
  have hx := ext_refl w
  refine C_enter Try.func16 rfl Try.ntmps16 rfl ?_
  refine W_seq ?_
  refine W_region ?_
  refine L_box (v := .agg #[v0_0, v0_1]) (cs := #[v0_0, v0_1]) rfl rfl rfl ?_
  intro g3 w4 hn4
  have hge_g3 := hn4.ge hx
  have hb_g3 := hn4.blk
  have h0_0 := RP.ext h0_0 hn4.ext
  have h0_1 := RP.ext h0_1 hn4.ext
  have hx := ext_trans hx hn4.ext
  refine L_as (v := .int .i64 0) rfl rfl ?_
  refine L_nil ?_
  refine W_seq ?_
  refine W_seq ?_
  obtain ⟨x5, hx5, hF⟩ := bind_some hF
  refine W_region ?_
  refine L_lda (cs := [v0_0, v0_1]) rfl Try.isAgg30 Try.sizeOf30 rfl (Blk.sub hb_g3 0 2) rfl ?_
  refine L_call (args := #[.agg #[v0_0, v0_1]]) rfl Try.call44 (ops1 rfl) (s_ModelValid_c (m := m) (Nat.le_trans hB hx.size) (rel0 h0_0) (rel0 h0_1) hx5) ?_
  rintro _ w7 ⟨rfl, he7⟩
  have h0_0 := RP.ext h0_0 he7
  have h0_1 := RP.ext h0_1 he7
  have hb_g3 := Blk.ext hb_g3 he7
  have hx := ext_trans hx he7
  refine L_not_ (b := x5) rfl rfl ?_
  refine L_nil ?_
  refine W_cond (b := (!x5)) rfl (fun hc8 => ?_) (fun hc8 => ?_)
  ·
    have hF := (ite_t hc8).symm.trans hF
    refine W_seq ?_
    refine W_region ?_
    refine L_as (v := .int .i64 0) rfl rfl ?_
    refine L_nil ?_
    refine W_ret ?_
    obtain rfl := so hF
    refine ret1 Try.results16 ?_
    exact ⟨rfl, hx⟩
  ·
    have hF := (ite_f hc8).symm.trans hF
    refine W_skip ?_
    refine W_seq ?_
    obtain ⟨x9, hx9, hF⟩ := bind_some hF
    refine W_region ?_
    refine L_lda (cs := [v0_0, v0_1]) rfl Try.isAgg30 Try.sizeOf30 rfl (Blk.sub hb_g3 0 2) rfl ?_
    refine L_fa (o' := 0) rfl fa_30_0 rfl rfl ?_
    refine L_ld (v := v0_0) rfl Try.isAgg22 rfl (hb_g3.cell (j := 0) rfl) ?_
    refine L_len (v := v0_0) rfl Try.underlying22 rfl h0_0 ?_
    refine L_call (args := #[.agg #[v0_0, v0_1], .int .i64 (m.sizes.length : Int), .int .i64 0]) rfl Try.call45 (ops3 rfl rfl rfl) (s_l7Var_c (m := m) (cell := (m.sizes.length : Int)) (value := 0) (Nat.le_trans hB hx.size) (rel0 h0_0) (rel0 h0_1) hx9) ?_
    rintro _ w11 ⟨rfl, he11⟩
    have h0_0 := RP.ext h0_0 he11
    have h0_1 := RP.ext h0_1 he11
    have hx := ext_trans hx he11
    refine L_sub (m := 13) (n := x9) rfl rfl rfl ?_
    refine L_as (v := .int .i64 (i64 (13 - x9))) rfl rfl ?_
    refine L_nil ?_
    refine W_ret ?_
    obtain rfl := so hF
    refine ret1 Try.results16 ?_
    exact ⟨rfl, hx⟩

theorem i_FreeVars_c {m : Model} {v0_0 : Value} {v0_1 : Value} {w : World} {B : Nat} (hB : B ≤ w.heap.size) (h0_0 : (RP.slice 3 RP.int).rel B w.heap.size w [v0_0] m.sizes) (h0_1 : (RP.slice 68 (rRule 3 22)).rel B w.heap.size w [v0_1] m.rules) {r : Int} (hF : i_FreeVars m = some r) :
    C Try.prog 17 #[.agg #[v0_0, v0_1]] w fun v w' => (v = .int .i64 r) ∧ Ext w w' := by
  unfold i_FreeVars at hF
  have hx := ext_refl w
  refine C_enter Try.func17 rfl Try.ntmps17 rfl ?_
  refine W_seq ?_
  refine W_region ?_
  refine L_box (v := .agg #[v0_0, v0_1]) (cs := #[v0_0, v0_1]) rfl rfl rfl ?_
  intro g3 w4 hn4
  have hge_g3 := hn4.ge hx
  have hb_g3 := hn4.blk
  have h0_0 := RP.ext h0_0 hn4.ext
  have h0_1 := RP.ext h0_1 hn4.ext
  have hx := ext_trans hx hn4.ext
  refine L_as (v := .int .i64 0) rfl rfl ?_
  refine L_nil ?_
  refine W_seq ?_
  refine W_seq ?_
  obtain ⟨x5, hx5, hF⟩ := bind_some hF
  refine W_region ?_
  refine L_lda (cs := [v0_0, v0_1]) rfl Try.isAgg30 Try.sizeOf30 rfl (Blk.sub hb_g3 0 2) rfl ?_
  refine L_call (args := #[.agg #[v0_0, v0_1]]) rfl Try.call47 (ops1 rfl) (i_ModelValid_c (m := m) (Nat.le_trans hB hx.size) (rel0 h0_0) (rel0 h0_1) hx5) ?_
  rintro _ w7 ⟨rfl, he7⟩
  have h0_0 := RP.ext h0_0 he7
  have h0_1 := RP.ext h0_1 he7
  have hb_g3 := Blk.ext hb_g3 he7
  have hx := ext_trans hx he7
  refine L_not_ (b := x5) rfl rfl ?_
  refine L_nil ?_
  refine W_cond (b := (!x5)) rfl (fun hc8 => ?_) (fun hc8 => ?_)
  ·
    have hF := (ite_t hc8).symm.trans hF
    refine W_seq ?_
    refine W_region ?_
    refine L_as (v := .int .i64 0) rfl rfl ?_
    refine L_nil ?_
    refine W_ret ?_
    obtain rfl := so hF
    refine ret1 Try.results17 ?_
    exact ⟨rfl, hx⟩
  ·
    have hF := (ite_f hc8).symm.trans hF
    refine W_skip ?_
    refine W_seq ?_
    refine W_region ?_
    refine L_fa (o' := 0) rfl fa_30_0 rfl rfl ?_
    refine L_ld (v := v0_0) rfl Try.isAgg22 rfl (hb_g3.cell (j := 0) rfl) ?_
    refine L_len (v := v0_0) rfl Try.underlying22 rfl h0_0 ?_
    refine L_sub (m := (m.sizes.length : Int)) (n := 1) rfl rfl rfl ?_
    refine L_as (v := .int .i64 (i64 ((m.sizes.length : Int) - 1))) rfl rfl ?_
    refine L_nil ?_
    refine W_seq ?_
    obtain ⟨x9, hx9, hF⟩ := bind_some hF
    obtain ⟨x12, hx12, hF⟩ := bind_some hF
    refine W_drawL 7 [isV (.agg #[v0_0, v0_1]), isV (.int .i64 (i64 ((m.sizes.length : Int) - 1))), isV (.pointer (some ⟨g3, 0, none⟩)), isV (v0_0), isV (.int .i64 (i64 ((m.sizes.length : Int) - 1))), isEl B RP.int x9 0, isV (.int .i64 x9)] Try_mix (by kernel_rfl) (am_cons (mono_V _) (am_cons (mono_V _) (am_cons (mono_V _) (am_cons (mono_V _) (am_cons (mono_V _) (am_cons (mono_el _ _ _ _) (am_cons (mono_V _) am_nil))))))) ?_ (fun f w_ hS hE hT => ?_)
    ·
      refine ops_cons (fun f w_ hS hE hP => ?_) ?_
      ·
        have hx := ext_trans hx hE
        have h0_0 := RP.ext h0_0 hE
        have h0_1 := RP.ext h0_1 hE
        have hb_g3 := Blk.ext hb_g3 hE
        refine L_lda (cs := [v0_0, v0_1]) rfl Try.isAgg30 Try.sizeOf30 ((hS 1 rfl).trans rfl) (Blk.sub hb_g3 0 2) rfl ?_
        exact L_nil ⟨rfl, (ext_refl _), _, _, rfl, rfl, rfl⟩
      refine ops_cons (fun f w_ hS hE hP => ?_) ?_
      ·
        have hx := ext_trans hx hE
        refine L_mv (v := .int .i64 (i64 ((m.sizes.length : Int) - 1))) rfl ((hS 3 rfl).trans rfl) ?_
        exact L_nil ⟨rfl, (ext_refl _), _, _, rfl, rfl, rfl⟩
      refine ops_cons (fun f w_ hS hE hP => ?_) ?_
      ·
        have hx := ext_trans hx hE
        have h0_0 := RP.ext h0_0 hE
        have h0_1 := RP.ext h0_1 hE
        have hb_g3 := Blk.ext hb_g3 hE
        refine L_fa (o' := 0) rfl fa_30_0 ((hS 1 rfl).trans rfl) rfl ?_
        exact L_nil ⟨rfl, (ext_refl _), _, _, rfl, rfl, rfl⟩
      refine ops_cons (fun f w_ hS hE hP => ?_) ?_
      ·
        have hx := ext_trans hx hE
        have h0_0 := RP.ext h0_0 hE
        have h0_1 := RP.ext h0_1 hE
        have hb_g3 := Blk.ext hb_g3 hE
        refine L_ld (v := v0_0) rfl Try.isAgg22 (hP 2 13 rfl rfl) (hb_g3.cell (j := 0) rfl) ?_
        exact L_nil ⟨rfl, (ext_refl _), _, _, rfl, rfl, rfl⟩
      refine ops_cons (fun f w_ hS hE hP => ?_) ?_
      ·
        have hx := ext_trans hx hE
        refine L_mv (v := .int .i64 (i64 ((m.sizes.length : Int) - 1))) rfl ((hS 3 rfl).trans rfl) ?_
        exact L_nil ⟨rfl, (ext_refl _), _, _, rfl, rfl, rfl⟩
      refine ops_cons (fun f w_ hS hE hP => ?_) ?_
      ·
        have hx := ext_trans hx hE
        have h0_0 := RP.ext h0_0 hE
        refine L_ix (r := RP.int) rfl Try.underlying22 Try.sizeOf3 (hP 3 14 rfl rfl) h0_0 (hP 4 15 rfl rfl) hx9 ?_
        intro g16 o17 cs17 hr17 hat17
        obtain rfl : _ = [_] := hr17
        exact L_nil ⟨rfl, (ext_refl _), _, _, rfl, rfl, ⟨_, _, _, rfl, rfl, hat17⟩⟩
      refine ops_cons (fun f w_ hS hE hP => ?_) ?_
      ·
        have hx := ext_trans hx hE
        obtain ⟨g18, o18, cs18, hv18, hr18, hat18⟩ := (hP 5 16 rfl rfl)
        obtain rfl : _ = [_] := hr18
        refine L_ld (v := .int .i64 x9) rfl Try.isAgg3 hv18 (hat18.cell (j := 0) rfl) ?_
        exact L_nil ⟨rfl, (ext_refl _), _, _, rfl, rfl, rfl⟩
      exact ops_nil
    ·
      have h0_0 := RP.ext h0_0 hE
      have h0_1 := RP.ext h0_1 hE
      have hb_g3 := Blk.ext hb_g3 hE
      have hx := ext_trans hx hE
      refine L_call (args := #[.agg #[v0_0, v0_1], .int .i64 (i64 ((m.sizes.length : Int) - 1)), .int .i64 x9]) rfl Try.call49 (ops3 (hT 0 11 rfl rfl) (hT 1 12 rfl rfl) (hT 6 17 rfl rfl)) (i_Model_boolVar_c (m := m) (cell := i64 ((m.sizes.length : Int) - 1)) (value := x9) (Nat.le_trans hB hx.size) (rel0 h0_0) (rel0 h0_1) hx12) ?_
      rintro _ w19 ⟨rfl, he19⟩
      have h0_0 := RP.ext h0_0 he19
      have h0_1 := RP.ext h0_1 he19
      have hx := ext_trans hx he19
      refine L_sub (m := 12) (n := x12) rfl rfl rfl ?_
      refine L_as (v := .int .i64 (i64 (12 - x12))) rfl rfl ?_
      refine L_nil ?_
      refine W_ret ?_
      obtain rfl := so hF
      refine ret1 Try.results17 ?_
      exact ⟨rfl, hx⟩

theorem l_FnExactFreeVars_c {fu : Nat} {aM : Model} {v0_0 : Value} {v0_1 : Value} {w : World} {B : Nat} (hB : B ≤ w.heap.size) (h0_0 : (RP.slice 3 RP.int).rel B w.heap.size w [v0_0] aM.sizes) (h0_1 : (RP.slice 76 (rRule 3 22)).rel B w.heap.size w [v0_1] aM.rules) {r : Bool} (hF : l_FnExactFreeVars fu aM = some r) :
    C Try.prog 4 #[.agg #[v0_0, v0_1]] w fun v w' => (v = .bool r) ∧ Ext w w' := by
  unfold l_FnExactFreeVars at hF
  have hx := ext_refl w
  refine C_enter Try.func4 rfl Try.ntmps4 rfl ?_
  refine W_seq ?_
  refine W_region ?_
  refine L_box (v := .agg #[v0_0, v0_1]) (cs := #[v0_0, v0_1]) rfl rfl rfl ?_
  intro g3 w4 hn4
  have hge_g3 := hn4.ge hx
  have hb_g3 := hn4.blk
  have h0_0 := RP.ext h0_0 hn4.ext
  have h0_1 := RP.ext h0_1 hn4.ext
  have hx := ext_trans hx hn4.ext
  refine L_as (v := .bool false) rfl rfl ?_
  refine L_nil ?_
  refine W_seq ?_
  refine W_region ?_
  refine L_as (v := .int .i64 1048576) rfl rfl ?_
  refine L_nil ?_
  refine W_seq ?_
  obtain ⟨x5, hx5, hF⟩ := bind_some hF
  refine W_region ?_
  refine L_lda (cs := [v0_0, v0_1]) rfl Try.isAgg25 Try.sizeOf25 rfl (Blk.sub hb_g3 0 2) rfl ?_
  refine L_mv (v := .int .i64 1048576) rfl rfl ?_
  refine L_call (args := #[.agg #[v0_0, v0_1], .int .i64 1048576]) rfl Try.call11 (ops2 rfl rfl) (l_szModel_c (a := aM) (left := 1048576) (Nat.le_trans hB hx.size) (rel0 h0_0) (rel0 h0_1) hx5) ?_
  rintro _ w7 ⟨rfl, he7⟩
  have h0_0 := RP.ext h0_0 he7
  have h0_1 := RP.ext h0_1 he7
  have hb_g3 := Blk.ext hb_g3 he7
  have hx := ext_trans hx he7
  refine L_as (v := .int .i64 x5) rfl rfl ?_
  refine L_nil ?_
  refine W_seq ?_
  refine W_seq ?_
  refine W_region ?_
  refine L_mv (v := .int .i64 x5) rfl rfl ?_
  refine L_lss (m := x5) (n := 0) rfl rfl rfl ?_
  refine L_nil ?_
  refine W_cond (b := decide (x5 < 0)) rfl (fun hc8 => ?_) (fun hc8 => ?_)
  ·
    have hF := (ite_t hc8).symm.trans hF
    refine W_seq ?_
    refine W_region ?_
    refine L_as (v := .bool true) rfl rfl ?_
    refine L_nil ?_
    refine W_ret ?_
    obtain rfl := so hF
    refine ret1 Try.results4 ?_
    exact ⟨rfl, hx⟩
  ·
    have hF := (ite_f hc8).symm.trans hF
    refine W_skip ?_
    refine W_seq ?_
    obtain ⟨x9, hx9, hF⟩ := bind_some hF
    obtain ⟨x11, hx11, hF⟩ := bind_some hF
    refine W_region ?_
    refine L_lda (cs := [v0_0, v0_1]) rfl Try.isAgg25 Try.sizeOf25 rfl (Blk.sub hb_g3 0 2) rfl ?_
    refine L_call (args := #[.agg #[v0_0, v0_1]]) rfl Try.call13 (ops1 rfl) (l_toModel_c (a := aM) (Nat.le_trans hB hx.size) (rel0 h0_0) (rel0 h0_1) hx9) ?_
    rintro _ w13 ⟨⟨r13_0, r13_1, rfl, hr13_0, hr13_1⟩, he13⟩
    have hr13_0 : Own _ _ w.heap.size B _ _ _ := hr13_0.wide hx.size (Nat.le_refl _)
    have hr13_1 : Own _ _ w.heap.size B _ _ _ := hr13_1.wide hx.size (Nat.le_refl _)
    have h0_0 := RP.ext h0_0 he13
    have h0_1 := RP.ext h0_1 he13
    have hb_g3 := Blk.ext hb_g3 he13
    have hx := ext_trans hx he13
    refine L_call (args := #[.agg #[r13_0, r13_1]]) rfl Try.call16 (ops1 rfl) (s_FreeVars_c (m := x9) (Nat.le_trans hB hx.size) (rel0 (Own.rel hr13_0)) (rel0 (Own.rel hr13_1)) hx11) ?_
    rintro _ w14 ⟨rfl, he14⟩
    have h0_0 := RP.ext h0_0 he14
    have h0_1 := RP.ext h0_1 he14
    have hb_g3 := Blk.ext hb_g3 he14
    have hr13_0 := Own.ext hr13_0 he14
    have hr13_1 := Own.ext hr13_1 he14
    have hx := ext_trans hx he14
    refine L_as (v := .int .i64 x11) rfl rfl ?_
    refine L_nil ?_
    refine W_seq ?_
    obtain ⟨x15, hx15, hF⟩ := bind_some hF
    refine W_region ?_
    refine L_lda (cs := [v0_0, v0_1]) rfl Try.isAgg25 Try.sizeOf25 rfl (Blk.sub hb_g3 0 2) rfl ?_
    refine L_call (args := #[.agg #[v0_0, v0_1]]) rfl Try.call13 (ops1 rfl) (l_toModel_c (a := aM) (Nat.le_trans hB hx.size) (rel0 h0_0) (rel0 h0_1) hx15) ?_
    rintro _ w20 ⟨⟨r20_0, r20_1, rfl, hr20_0, hr20_1⟩, he20⟩
    have hr20_0 : Own _ _ w.heap.size B _ _ _ := hr20_0.wide hx.size (Nat.le_refl _)
    have hr20_1 : Own _ _ w.heap.size B _ _ _ := hr20_1.wide hx.size (Nat.le_refl _)
    have h0_0 := RP.ext h0_0 he20
    have h0_1 := RP.ext h0_1 he20
    have hb_g3 := Blk.ext hb_g3 he20
    have hx := ext_trans hx he20
    refine L_al (cs := #[(.slice none 0 0), (.slice none 0 0)]) rfl Try.zeroValue30 rfl ?_
    intro g21 w22 hn22
    have hge_g21 := hn22.ge hx
    have hb_g21 := hn22.blk
    have h0_0 := RP.ext h0_0 hn22.ext
    have h0_1 := RP.ext h0_1 hn22.ext
    have hb_g3 := Blk.ext hb_g3 hn22.ext
    have hr20_0 := Own.ext hr20_0 hn22.ext
    have hr20_1 := Own.ext hr20_1 hn22.ext
    have hx := ext_trans hx hn22.ext
    refine L_sta (vs := #[r20_0, r20_1]) rfl Try.sizeOf30 rfl rfl rfl (ones_cons (one_of (Own.rel hr20_0)) (ones_cons (one_of (Own.rel hr20_1)) ones_nil)) hb_g21 rfl ?_
    intro w23 hp23
    have h0_0 := hp23.mu.rel h0_0 (by decide) (Nat.le_trans hB hge_g21)
    have h0_1 := hp23.mu.rel h0_1 (by decide) (Nat.le_trans hB hge_g21)
    have hb_g3 := hp23.mu.blk hb_g3 (by decide)
    have hr20_0 := hp23.mu.ownT hr20_0 (by decide) (by decide) (Nat.le_trans hB hge_g21)
    have hr20_1 := hp23.mu.ownT hr20_1 (by decide) (by decide) (Nat.le_trans hB hge_g21)
    have hx := ext_mut hx hp23.mu hge_g21
    have hb_g21 : Blk w23 g21 30 #[r20_0, r20_1] := hp23.blk
    refine L_nil ?_
    refine W_seq ?_
    obtain ⟨x24, hx24, hF⟩ := bind_some hF
    refine W_region ?_
    refine L_lda (cs := [r20_0, r20_1]) rfl Try.isAgg30 Try.sizeOf30 rfl (Blk.sub hb_g21 0 2) rfl ?_
    refine L_call (args := #[.agg #[r20_0, r20_1]]) rfl Try.call17 (ops1 rfl) (i_FreeVars_c (m := x15) (Nat.le_trans hB hx.size) (rel0 (Own.rel hr20_0)) (rel0 (Own.rel hr20_1)) hx24) ?_
    rintro _ w26 ⟨rfl, he26⟩
    have h0_0 := RP.ext h0_0 he26
    have h0_1 := RP.ext h0_1 he26
    have hb_g3 := Blk.ext hb_g3 he26
    have hr20_0 := Own.ext hr20_0 he26
    have hr20_1 := Own.ext hr20_1 he26
    have hb_g21 := Blk.ext hb_g21 he26
    have hx := ext_trans hx he26
    refine L_as (v := .int .i64 x24) rfl rfl ?_
    refine L_nil ?_
    refine W_seq ?_
    refine W_seq ?_
    refine W_region ?_
    refine L_mv (v := .int .i64 x24) rfl rfl ?_
    refine L_mv (v := .int .i64 x11) rfl rfl ?_
    refine L_neq (m := x24) (n := x11) rfl rfl rfl ?_
    refine L_nil ?_
    refine W_cond (b := (x24 != x11)) rfl (fun hc27 => ?_) (fun hc27 => ?_)
    ·
      have hF := (ite_t hc27).symm.trans hF
      refine W_seq ?_
      refine W_region ?_
      refine L_as (v := .bool false) rfl rfl ?_
      refine L_nil ?_
      refine W_ret ?_
      obtain rfl := so hF
      refine ret1 Try.results4 ?_
      exact ⟨rfl, hx⟩
    ·
      have hF := (ite_f hc27).symm.trans hF
      refine W_skip ?_
      refine W_seq ?_
      refine W_seq ?_
      obtain ⟨x28, hx28, hF⟩ := bind_some hF
      obtain ⟨x32, hx32, hF⟩ := bind_some hF
      refine W_drawL 3 [isV (.agg #[r20_0, r20_1]), isV (.agg #[v0_0, v0_1]), isAgg_ B (rModel 3 22 68) x28] Try_mix (by kernel_rfl) (am_cons (mono_V _) (am_cons (mono_V _) (am_cons (mono_agg _ _ _) am_nil))) ?_ (fun f w_ hS hE hT => ?_)
      ·
        refine ops_cons (fun f w_ hS hE hP => ?_) ?_
        ·
          have hx := ext_trans hx hE
          have hr20_0 := Own.ext hr20_0 hE
          have hr20_1 := Own.ext hr20_1 hE
          have hb_g21 := Blk.ext hb_g21 hE
          refine L_lda (cs := [r20_0, r20_1]) rfl Try.isAgg30 Try.sizeOf30 ((hS 5 rfl).trans rfl) (Blk.sub hb_g21 0 2) rfl ?_
          exact L_nil ⟨rfl, (ext_refl _), _, _, rfl, rfl, rfl⟩
        refine ops_cons (fun f w_ hS hE hP => ?_) ?_
        ·
          have hx := ext_trans hx hE
          have h0_0 := RP.ext h0_0 hE
          have h0_1 := RP.ext h0_1 hE
          have hb_g3 := Blk.ext hb_g3 hE
          refine L_lda (cs := [v0_0, v0_1]) rfl Try.isAgg25 Try.sizeOf25 ((hS 1 rfl).trans rfl) (Blk.sub hb_g3 0 2) rfl ?_
          exact L_nil ⟨rfl, (ext_refl _), _, _, rfl, rfl, rfl⟩
        refine ops_cons (fun f w_ hS hE hP => ?_) ?_
        ·
          have hx := ext_trans hx hE
          have h0_0 := RP.ext h0_0 hE
          have h0_1 := RP.ext h0_1 hE
          refine L_call (args := #[.agg #[v0_0, v0_1]]) rfl Try.call13 (ops1 (hP 1 23 rfl rfl)) (l_toModel_c (a := aM) (Nat.le_trans hB hx.size) (rel0 h0_0) (rel0 h0_1) hx28) ?_
          rintro _ w37 ⟨⟨r37_0, r37_1, rfl, hr37_0, hr37_1⟩, he37⟩
          have hr37_0 : Own _ _ w.heap.size B _ _ _ := hr37_0.wide hx.size (Nat.le_refl _)
          have hr37_1 : Own _ _ w.heap.size B _ _ _ := hr37_1.wide hx.size (Nat.le_refl _)
          have h0_0 := RP.ext h0_0 he37
          have h0_1 := RP.ext h0_1 he37
          have hx := ext_trans hx he37
          exact L_nil ⟨rfl, he37, _, _, rfl, rfl, ⟨[r37_0, r37_1], rfl, (rModel_iff.2 ⟨_, _, rfl, (rel0 (Own.rel hr37_0)), (rel0 (Own.rel hr37_1))⟩)⟩⟩
        exact ops_nil
      ·
        have h0_0 := RP.ext h0_0 hE
        have h0_1 := RP.ext h0_1 hE
        have hb_g3 := Blk.ext hb_g3 hE
        have hr20_0 := Own.ext hr20_0 hE
        have hr20_1 := Own.ext hr20_1 hE
        have hb_g21 := Blk.ext hb_g21 hE
        have hx := ext_trans hx hE
        obtain ⟨cs38, hv38, hr38⟩ := (hT 2 24 rfl rfl)
        obtain ⟨u38_0, u38_1, rfl, hu38_0, hu38_1⟩ := rModel_iff.1 hr38
        refine L_call (args := #[.agg #[r20_0, r20_1], .agg #[u38_0, u38_1]]) rfl Try.call15 (ops2 (hT 0 22 rfl rfl) hv38) (l_eqModel_c (a := x15) (b := x28) (Nat.le_trans hB hx.size) (rel0 (Own.rel hr20_0)) (rel0 (Own.rel hr20_1)) (rel0 hu38_0) (rel0 hu38_1) hx32) ?_
        rintro _ w39 ⟨rfl, he39⟩
        have hr20_0 := Own.ext hr20_0 he39
        have hr20_1 := Own.ext hr20_1 he39
        have hu38_0 := RP.ext hu38_0 he39
        have hu38_1 := RP.ext hu38_1 he39
        have hx := ext_trans hx he39
        refine L_not_ (b := x32) rfl rfl ?_
        refine L_nil ?_
        refine W_cond (b := (!x32)) rfl (fun hc40 => ?_) (fun hc40 => ?_)
        ·
          have hF := (ite_t hc40).symm.trans hF
          refine W_seq ?_
          refine W_region ?_
          refine L_as (v := .bool false) rfl rfl ?_
          refine L_nil ?_
          refine W_ret ?_
          obtain rfl := so hF
          refine ret1 Try.results4 ?_
          exact ⟨rfl, hx⟩
        ·
          have hF := (ite_f hc40).symm.trans hF
          refine W_skip ?_
          refine W_seq ?_
          refine W_region ?_
          refine L_as (v := .bool true) rfl rfl ?_
          refine L_nil ?_
          refine W_ret ?_
          obtain rfl := so hF
          refine ret1 Try.results4 ?_
          exact ⟨rfl, hx⟩

theorem l_szBoolS_c {a : List Bool} {left : Int} {v0 : Value} {w : World} {B : Nat} (hB : B ≤ w.heap.size) (h0 : (RP.slice 4 RP.bool).rel B w.heap.size w [v0] a) {r : Int} (hF : l_szBoolS a left = some r) :
    C Try.prog 51 #[v0, .int .i64 left] w fun v w' => (v = .int .i64 r) ∧ Ext w w' := by
  unfold l_szBoolS at hF
  have hx := ext_refl w
  refine C_enter Try.func51 rfl Try.ntmps51 rfl ?_
  refine W_seq ?_
  refine W_region ?_
  refine L_as (v := .int .i64 0) rfl rfl ?_
  refine L_nil ?_
  refine W_seq ?_
  refine W_region ?_
  refine L_mv (v := .int .i64 left) rfl rfl ?_
  refine L_mv (v := v0) rfl rfl ?_
  refine L_len (v := v0) rfl Try.underlying46 rfl h0 ?_
  refine L_sub (m := left) (n := (a.length : Int)) rfl rfl rfl ?_
  refine L_as (v := .int .i64 (i64 (left - (a.length : Int)))) rfl rfl ?_
  refine L_nil ?_
  refine W_seq ?_
  refine W_seq ?_
  refine W_region ?_
  refine L_mv (v := .int .i64 (i64 (left - (a.length : Int)))) rfl rfl ?_
  refine L_lss (m := i64 (left - (a.length : Int))) (n := 0) rfl rfl rfl ?_
  refine L_nil ?_
  refine W_cond (b := decide ((i64 (left - (a.length : Int))) < 0)) rfl (fun hc1 => ?_) (fun hc1 => ?_)
  ·
    have hF := (ite_t hc1).symm.trans hF
    refine W_seq ?_
    refine W_region ?_
    refine L_as (v := .int .i64 (-1)) rfl rfl ?_
    refine L_nil ?_
    refine W_ret ?_
    obtain rfl := so hF
    refine ret1 Try.results51 ?_
    exact ⟨rfl, hx⟩
  ·
    have hF := (ite_f hc1).symm.trans hF
    refine W_skip ?_
    refine W_seq ?_
    refine W_region ?_
    refine L_mv (v := .int .i64 (i64 (left - (a.length : Int)))) rfl rfl ?_
    refine L_as (v := .int .i64 (i64 (left - (a.length : Int)))) rfl rfl ?_
    refine L_nil ?_
    refine W_ret ?_
    obtain rfl := so hF
    refine ret1 Try.results51 ?_
    exact ⟨rfl, hx⟩

theorem l_szBoolSS_c {a : List (List Bool)} {left : Int} {v0 : Value} {w : World} {B : Nat} (hB : B ≤ w.heap.size) (h0 : (RP.slice 46 (RP.slice 4 RP.bool)).rel B w.heap.size w [v0] a) {r : Int} (hF : l_szBoolSS a left = some r) :
    C Try.prog 18 #[v0, .int .i64 left] w fun v w' => (v = .int .i64 r) ∧ Ext w w' := by
  unfold l_szBoolSS at hF
  have hx := ext_refl w
  refine C_enter Try.func18 rfl Try.ntmps18 rfl ?_
  refine W_seq ?_
  refine W_region ?_
  refine L_as (v := .int .i64 0) rfl rfl ?_
  refine L_nil ?_
  refine W_seq ?_
  refine W_region ?_
  refine L_mv (v := .int .i64 left) rfl rfl ?_
  refine L_mv (v := v0) rfl rfl ?_
  refine L_len (v := v0) rfl Try.underlying36 rfl h0 ?_
  refine L_sub (m := left) (n := (a.length : Int)) rfl rfl rfl ?_
  refine L_as (v := .int .i64 (i64 (left - (a.length : Int)))) rfl rfl ?_
  refine L_nil ?_
  refine W_seq ?_
  refine W_seq ?_
  refine W_region ?_
  refine L_mv (v := .int .i64 (i64 (left - (a.length : Int)))) rfl rfl ?_
  refine L_lss (m := i64 (left - (a.length : Int))) (n := 0) rfl rfl rfl ?_
  refine L_nil ?_
  refine W_cond (b := decide ((i64 (left - (a.length : Int))) < 0)) rfl (fun hc1 => ?_) (fun hc1 => ?_)
  ·
    have hF := (ite_t hc1).symm.trans hF
    refine W_seq ?_
    refine W_region ?_
    refine L_as (v := .int .i64 (-1)) rfl rfl ?_
    refine L_nil ?_
    refine W_ret ?_
    obtain rfl := so hF
    refine ret1 Try.results18 ?_
    exact ⟨rfl, hx⟩
  ·
    have hF := (ite_f hc1).symm.trans hF
    refine W_skip ?_
    refine W_seq ?_
    refine W_seq ?_
    refine W_region ?_
    refine L_as (v := .int .i64 0) rfl rfl ?_
    refine L_nil ?_
    have hlen4 := len_le h0
    obtain ⟨j4, hL4, hF⟩ := bind_some hF
    obtain ⟨R4, hR4⟩ : ∃ R : Fr → World → Prop, R = fun f w_ => ∃ left_3 : Int, j4 = .nx left_3 ∧ f 1 = .int .i64 left_3 ∧ Ext w w_ := ⟨_, rfl⟩
    refine W_join R4 ?_ ?_
    ·
      refine W_block ?_
      obtain ⟨I4, hI4⟩ : ∃ I : Nat → Fr → World → Prop, I = fun n f w_ => ∃ i_2 : Nat, ∃ suf4 : List (List Bool), ∃ left_3 : Int, n = suf4.length ∧ List.drop i_2 a = suf4 ∧ i_2 + suf4.length = a.length ∧ rangeL l_szBoolSS_b1 suf4 i_2 left_3 = some j4 ∧ f 0 = v0 ∧ f 1 = .int .i64 left_3 ∧ f 5 = .int .i64 (i_2 : Int) ∧ (RP.slice 46 (RP.slice 4 RP.bool)).rel B w.heap.size w_ [v0] a ∧ Ext w w_ := ⟨_, rfl⟩
      refine W_loop I4 (n := a.length) ?_ ?_
      · rw [hI4]; exact ⟨0, a, i64 (left - (a.length : Int)), rfl, rfl, Nat.zero_add _, hL4, rfl, rfl, rfl, h0, hx⟩
      ·
        intro n4 f w_ hI
        rw [hI4] at hI
        obtain ⟨i_2, suf4, left_3, rfl, hd4, hl4, hL4, sf0, sf1, sf5, h0, hx⟩ := hI
        refine W_seq ?_
        refine W_seq ?_
        refine W_region ?_
        refine L_mv (v := .int .i64 (i_2 : Int)) rfl sf5 ?_
        refine L_mv (v := v0) rfl sf0 ?_
        refine L_len (v := v0) rfl Try.underlying36 rfl h0 ?_
        refine L_lss (m := (i_2 : Int)) (n := (a.length : Int)) rfl rfl rfl ?_
        refine L_nil ?_
        refine W_cond (b := decide ((i_2 : Int) < (a.length : Int))) rfl (fun hc5 => ?_) (fun hc5 => ?_)
        ·
          have hlt4 := of_decide_eq_true hc5
          cases suf4 with
          | nil => exact absurd hlt4 (by simp at hl4; omega)
          | cons x_4 rest4 =>
            obtain ⟨o4, hB4, hL4⟩ := range_cons hL4
            rw [l_szBoolSS_b1] at hB4
            have hix4 := drop_idx hd4
            refine W_skip ?_
            refine W_seq ?_
            refine W_block ?_
            refine W_seq ?_
            obtain ⟨x8, hx8, hB4⟩ := bind_some hB4
            refine W_region ?_
            refine L_mv (v := v0) rfl sf0 ?_
            refine L_mv (v := .int .i64 (i_2 : Int)) rfl sf5 ?_
            refine L_ix (r := (RP.slice 4 RP.bool)) rfl Try.underlying36 Try.sizeOf46 rfl h0 rfl hix4 ?_
            intro g10 o11 cs11 hr11 hat11
            obtain ⟨u11, rfl, hu11⟩ := slice1 hr11
            refine L_ld (v := u11) rfl Try.isAgg46 rfl (hat11.cell (j := 0) rfl) ?_
            refine L_mv (v := .int .i64 left_3) rfl sf1 ?_
            refine L_call (args := #[u11, .int .i64 left_3]) rfl Try.call51 (ops2 rfl rfl) (l_szBoolS_c (a := x_4) (left := left_3) (Nat.le_trans hB hx.size) (rel0 hu11) hx8) ?_
            rintro _ w12 ⟨rfl, he12⟩
            have h0 := RP.ext h0 he12
            have hu11 := RP.ext hu11 he12
            have hx := ext_trans hx he12
            refine L_as (v := .int .i64 x8) rfl rfl ?_
            refine L_nil ?_
            refine W_seq ?_
            refine W_region ?_
            refine L_mv (v := .int .i64 x8) rfl rfl ?_
            refine L_lss (m := x8) (n := 0) rfl rfl rfl ?_
            refine L_nil ?_
            refine W_cond (b := decide (x8 < 0)) rfl (fun hc13 => ?_) (fun hc13 => ?_)
            ·
              have hB4 := (ite_t hc13).symm.trans hB4
              refine W_seq ?_
              refine W_region ?_
              refine L_as (v := .int .i64 (-1)) rfl rfl ?_
              refine L_nil ?_
              refine W_ret ?_
              obtain rfl := so hB4
              obtain rfl := so hL4
              obtain rfl := so hF
              refine ret1 Try.results18 ?_
              exact ⟨rfl, hx⟩
            ·
              have hB4 := (ite_f hc13).symm.trans hB4
              refine W_skip ?_
              refine W_region ?_
              refine L_mv (v := .int .i64 (i_2 : Int)) rfl sf5 ?_
              refine L_add (m := (i_2 : Int)) (n := 1) rfl rfl rfl ?_
              refine L_as (v := .int .i64 (i64 ((i_2 : Int) + 1))) rfl rfl ?_
              refine L_nil ?_
              obtain rfl := so hB4
              show ∃ m, m < _ ∧ I4 m _ _
              refine ⟨rest4.length, by simp, ?_⟩
              rw [hI4]
              exact ⟨i_2 + 1, rest4, x8, rfl, drop_next hd4, by simp at hl4; omega, hL4, sf0, rfl, (Eq.trans rfl (congrArg (Value.int .i64) (i64_succ (n := a.length) (by simp at hl4; omega) hlen4))), h0, hx⟩
        ·
          cases suf4 with
          | cons _ _ => exact absurd (of_decide_eq_false hc5) (by simp at hl4; omega)
          | nil =>
            obtain rfl := range_nil hL4
            refine W_exit ?_
            show R4 _ _
            rw [hR4]
            exact ⟨left_3, rfl, sf1, hx⟩
    ·
      intro f w_ hR
      rw [hR4] at hR
      obtain ⟨left_3, rfl, sf1, hx⟩ := hR
      clear hR4
      refine W_seq ?_
      refine W_region ?_
      refine L_mv (v := .int .i64 left_3) rfl sf1 ?_
      refine L_as (v := .int .i64 left_3) rfl rfl ?_
      refine L_nil ?_
      refine W_ret ?_
      obtain rfl := so hF
      refine ret1 Try.results18 ?_
      exact ⟨rfl, hx⟩

theorem s_l8Fits_c {m : Model} {d : List (List Bool)} {v0_0 : Value} {v0_1 : Value} {v1 : Value} {w : World} {B : Nat} (hB : B ≤ w.heap.size) (h0_0 : (RP.slice 3 RP.int).rel B w.heap.size w [v0_0] m.sizes) (h0_1 : (RP.slice 68 (rRule 3 22)).rel B w.heap.size w [v0_1] m.rules) (h1 : (RP.slice 46 (RP.slice 4 RP.bool)).rel B w.heap.size w [v1] d) {r : Bool} (hF : s_l8Fits m d = some r) :
    C Try.prog 52 #[.agg #[v0_0, v0_1], v1] w fun v w' => (v = .bool r) ∧ Ext w w' := by
  unfold s_l8Fits at hF
  have hx := ext_refl w
  refine C_enter Try.func52 rfl Try.ntmps52 rfl ?_
  refine W_seq ?_
  refine W_region ?_
  refine L_box (v := .agg #[v0_0, v0_1]) (cs := #[v0_0, v0_1]) rfl rfl rfl ?_
  intro g3 w4 hn4
  have hge_g3 := hn4.ge hx
  have hb_g3 := hn4.blk
  have h0_0 := RP.ext h0_0 hn4.ext
  have h0_1 := RP.ext h0_1 hn4.ext
  have h1 := RP.ext h1 hn4.ext
  have hx := ext_trans hx hn4.ext
  refine L_as (v := .bool false) rfl rfl ?_
  refine L_nil ?_
  refine W_seq ?_
  refine W_seq ?_
  refine W_region ?_
  refine L_mv (v := v1) rfl rfl ?_
  refine L_len (v := v1) rfl Try.underlying36 rfl h1 ?_
  refine L_fa (o' := 0) rfl fa_30_0 rfl rfl ?_
  refine L_ld (v := v0_0) rfl Try.isAgg22 rfl (hb_g3.cell (j := 0) rfl) ?_
  refine L_len (v := v0_0) rfl Try.underlying22 rfl h0_0 ?_
  refine L_neq (m := (d.length : Int)) (n := (m.sizes.length : Int)) rfl rfl rfl ?_
  refine L_nil ?_
  refine W_cond (b := ((d.length : Int) != (m.sizes.length : Int))) rfl (fun hc5 => ?_) (fun hc5 => ?_)
  ·
    have hF := (ite_t hc5).symm.trans hF
    refine W_seq ?_
    refine W_region ?_
    refine L_as (v := .bool false) rfl rfl ?_
    refine L_nil ?_
    refine W_ret ?_
    obtain rfl := so hF
    refine ret1 Try.results52 ?_
    exact ⟨rfl, hx⟩
  ·
    have hF := (ite_f hc5).symm.trans hF
    refine W_skip ?_
    refine W_seq ?_
    refine W_seq ?_
    refine W_region ?_
    refine L_as (v := .int .i64 0) rfl rfl ?_
    refine L_nil ?_
    have hlen7 := len_le h1
    obtain ⟨j7, hL7, hF⟩ := bind_some hF
    obtain ⟨R7, hR7⟩ : ∃ R : Fr → World → Prop, R = fun f w_ => j7 = .nx () ∧ Ext w w_ := ⟨_, rfl⟩
    refine W_join R7 ?_ ?_
    ·
      refine W_block ?_
      obtain ⟨I7, hI7⟩ : ∃ I : Nat → Fr → World → Prop, I = fun n f w_ => ∃ i_6 : Nat, ∃ suf7 : List (List Bool), n = suf7.length ∧ List.drop i_6 d = suf7 ∧ i_6 + suf7.length = d.length ∧ rangeL (s_l8Fits_b1 m) suf7 i_6 () = some j7 ∧ f 1 = v1 ∧ f 2 = .pointer (some ⟨g3, 0, none⟩) ∧ f 5 = .int .i64 (i_6 : Int) ∧ (RP.slice 46 (RP.slice 4 RP.bool)).rel B w.heap.size w_ [v1] d ∧ (RP.slice 3 RP.int).rel B w.heap.size w_ [v0_0] m.sizes ∧ (RP.slice 68 (rRule 3 22)).rel B w.heap.size w_ [v0_1] m.rules ∧ Blk w_ g3 30 #[v0_0, v0_1] ∧ Ext w w_ := ⟨_, rfl⟩
      refine W_loop I7 (n := d.length) ?_ ?_
      · rw [hI7]; exact ⟨0, d, rfl, rfl, Nat.zero_add _, hL7, rfl, rfl, rfl, h1, h0_0, h0_1, hb_g3, hx⟩
      ·
        intro n7 f w_ hI
        rw [hI7] at hI
        obtain ⟨i_6, suf7, rfl, hd7, hl7, hL7, sf1, sf2, sf5, h1, h0_0, h0_1, hb_g3, hx⟩ := hI
        refine W_seq ?_
        refine W_seq ?_
        refine W_region ?_
        refine L_mv (v := .int .i64 (i_6 : Int)) rfl sf5 ?_
        refine L_mv (v := v1) rfl sf1 ?_
        refine L_len (v := v1) rfl Try.underlying36 rfl h1 ?_
        refine L_lss (m := (i_6 : Int)) (n := (d.length : Int)) rfl rfl rfl ?_
        refine L_nil ?_
        refine W_cond (b := decide ((i_6 : Int) < (d.length : Int))) rfl (fun hc8 => ?_) (fun hc8 => ?_)
        ·
          have hlt7 := of_decide_eq_true hc8
          cases suf7 with
          | nil => exact absurd hlt7 (by simp at hl7; omega)
          | cons x_7 rest7 =>
            obtain ⟨o7, hB7, hL7⟩ := range_cons hL7
            rw [s_l8Fits_b1] at hB7
            have hix7 := drop_idx hd7
            refine W_skip ?_
            refine W_seq ?_
            refine W_block ?_
            refine W_seq ?_
            obtain ⟨x11, hx11, hB7⟩ := bind_some hB7
            refine W_drawL 11 [isV (v1), isV (.int .i64 (i_6 : Int)), isEl B (RP.slice 4 RP.bool) x_7 0, isData B (RP.slice 4 RP.bool) x_7, isV (.int .i64 (x_7.length : Int)), isV (.pointer (some ⟨g3, 0, none⟩)), isV (v0_0), isV (.int .i64 (i_6 : Int)), isEl B RP.int x11 0, isV (.int .i64 x11), isV (.int .i64 (i64 (x11 + 1)))] Try_mix (by kernel_rfl) (am_cons (mono_V _) (am_cons (mono_V _) (am_cons (mono_el _ _ _ _) (am_cons (mono_data _ _ _) (am_cons (mono_V _) (am_cons (mono_V _) (am_cons (mono_V _) (am_cons (mono_V _) (am_cons (mono_el _ _ _ _) (am_cons (mono_V _) (am_cons (mono_V _) am_nil))))))))))) ?_ (fun f w_ hS hE hT => ?_)
            ·
              refine ops_cons (fun f w_ hS hE hP => ?_) ?_
              ·
                have hx := ext_trans hx hE
                have h1 := RP.ext h1 hE
                refine L_mv (v := v1) rfl ((hS 1 rfl).trans sf1) ?_
                exact L_nil ⟨rfl, (ext_refl _), _, _, rfl, rfl, rfl⟩
              refine ops_cons (fun f w_ hS hE hP => ?_) ?_
              ·
                have hx := ext_trans hx hE
                refine L_mv (v := .int .i64 (i_6 : Int)) rfl ((hS 5 rfl).trans sf5) ?_
                exact L_nil ⟨rfl, (ext_refl _), _, _, rfl, rfl, rfl⟩
              refine ops_cons (fun f w_ hS hE hP => ?_) ?_
              ·
                have hx := ext_trans hx hE
                have h1 := RP.ext h1 hE
                refine L_ix (r := (RP.slice 4 RP.bool)) rfl Try.underlying36 Try.sizeOf46 (hP 0 18 rfl rfl) h1 (hP 1 19 rfl rfl) hix7 ?_
                intro g18 o19 cs19 hr19 hat19
                obtain ⟨u19, rfl, hu19⟩ := slice1 hr19
                exact L_nil ⟨rfl, (ext_refl _), _, _, rfl, rfl, ⟨_, _, _, rfl, (rel0 hr19), hat19⟩⟩
              refine ops_cons (fun f w_ hS hE hP => ?_) ?_
              ·
                have hx := ext_trans hx hE
                obtain ⟨g20, o20, cs20, hv20, hr20, hat20⟩ := (hP 2 20 rfl rfl)
                obtain ⟨u20, rfl, hu20⟩ := slice1 hr20
                refine L_ld (v := u20) rfl Try.isAgg46 hv20 (hat20.cell (j := 0) rfl) ?_
                exact L_nil ⟨rfl, (ext_refl _), _, _, rfl, rfl, (rel0 hu20)⟩
              refine ops_cons (fun f w_ hS hE hP => ?_) ?_
              ·
                have hx := ext_trans hx hE
                have hd21 := (hP 3 21 rfl rfl)
                refine L_len (v := (f 21)) rfl Try.underlying46 rfl hd21 ?_
                exact L_nil ⟨rfl, (ext_refl _), _, _, rfl, rfl, rfl⟩
              refine ops_cons (fun f w_ hS hE hP => ?_) ?_
              ·
                have hx := ext_trans hx hE
                have h0_0 := RP.ext h0_0 hE
                have h0_1 := RP.ext h0_1 hE
                have hb_g3 := Blk.ext hb_g3 hE
                refine L_fa (o' := 0) rfl fa_30_0 ((hS 2 rfl).trans sf2) rfl ?_
                exact L_nil ⟨rfl, (ext_refl _), _, _, rfl, rfl, rfl⟩
              refine ops_cons (fun f w_ hS hE hP => ?_) ?_
              ·
                have hx := ext_trans hx hE
                have h0_0 := RP.ext h0_0 hE
                have h0_1 := RP.ext h0_1 hE
                have hb_g3 := Blk.ext hb_g3 hE
                refine L_ld (v := v0_0) rfl Try.isAgg22 (hP 5 23 rfl rfl) (hb_g3.cell (j := 0) rfl) ?_
                exact L_nil ⟨rfl, (ext_refl _), _, _, rfl, rfl, rfl⟩
              refine ops_cons (fun f w_ hS hE hP => ?_) ?_
              ·
                have hx := ext_trans hx hE
                refine L_mv (v := .int .i64 (i_6 : Int)) rfl ((hS 5 rfl).trans sf5) ?_
                exact L_nil ⟨rfl, (ext_refl _), _, _, rfl, rfl, rfl⟩
              refine ops_cons (fun f w_ hS hE hP => ?_) ?_
              ·
                have hx := ext_trans hx hE
                have h0_0 := RP.ext h0_0 hE
                refine L_ix (r := RP.int) rfl Try.underlying22 Try.sizeOf3 (hP 6 24 rfl rfl) h0_0 (hP 7 25 rfl rfl) hx11 ?_
                intro g22 o23 cs23 hr23 hat23
                obtain rfl : _ = [_] := hr23
                exact L_nil ⟨rfl, (ext_refl _), _, _, rfl, rfl, ⟨_, _, _, rfl, rfl, hat23⟩⟩
              refine ops_cons (fun f w_ hS hE hP => ?_) ?_
              ·
                have hx := ext_trans hx hE
                obtain ⟨g24, o24, cs24, hv24, hr24, hat24⟩ := (hP 8 26 rfl rfl)
                obtain rfl : _ = [_] := hr24
                refine L_ld (v := .int .i64 x11) rfl Try.isAgg3 hv24 (hat24.cell (j := 0) rfl) ?_
                exact L_nil ⟨rfl, (ext_refl _), _, _, rfl, rfl, rfl⟩
              refine ops_cons (fun f w_ hS hE hP => ?_) ?_
              ·
                have hx := ext_trans hx hE
                refine L_add (m := x11) (n := 1) rfl (hP 9 27 rfl rfl) rfl ?_
                exact L_nil ⟨rfl, (ext_refl _), _, _, rfl, rfl, rfl⟩
              exact ops_nil
            ·
              have h1 := RP.ext h1 hE
              have h0_0 := RP.ext h0_0 hE
              have h0_1 := RP.ext h0_1 hE
              have hb_g3 := Blk.ext hb_g3 hE
              have hx := ext_trans hx hE
              refine L_neq (m := (x_7.length : Int)) (n := i64 (x11 + 1)) rfl (hT 4 22 rfl rfl) (hT 10 28 rfl rfl) ?_
              refine L_nil ?_
              refine W_cond (b := ((x_7.length : Int) != (i64 (x11 + 1)))) rfl (fun hc25 => ?_) (fun hc25 => ?_)
              ·
                have hB7 := (ite_t hc25).symm.trans hB7
                refine W_seq ?_
                refine W_region ?_
                refine L_as (v := .bool false) rfl rfl ?_
                refine L_nil ?_
                refine W_ret ?_
                obtain rfl := so hB7
                obtain rfl := so hL7
                obtain rfl := so hF
                refine ret1 Try.results52 ?_
                exact ⟨rfl, hx⟩
              ·
                have hB7 := (ite_f hc25).symm.trans hB7
                refine W_skip ?_
                refine W_region ?_
                refine L_mv (v := .int .i64 (i_6 : Int)) rfl ((hS 5 rfl).trans sf5) ?_
                refine L_add (m := (i_6 : Int)) (n := 1) rfl rfl rfl ?_
                refine L_as (v := .int .i64 (i64 ((i_6 : Int) + 1))) rfl rfl ?_
                refine L_nil ?_
                obtain rfl := so hB7
                show ∃ m, m < _ ∧ I7 m _ _
                refine ⟨rest7.length, by simp, ?_⟩
                rw [hI7]
                exact ⟨i_6 + 1, rest7, rfl, drop_next hd7, by simp at hl7; omega, hL7, ((hS 1 rfl).trans sf1), ((hS 2 rfl).trans sf2), (Eq.trans rfl (congrArg (Value.int .i64) (i64_succ (n := d.length) (by simp at hl7; omega) hlen7))), h1, h0_0, h0_1, hb_g3, hx⟩
        ·
          cases suf7 with
          | cons _ _ => exact absurd (of_decide_eq_false hc8) (by simp at hl7; omega)
          | nil =>
            obtain rfl := range_nil hL7
            refine W_exit ?_
            show R7 _ _
            rw [hR7]
            exact ⟨rfl, hx⟩
    ·
      intro f w_ hR
      rw [hR7] at hR
      obtain ⟨rfl, hx⟩ := hR
      clear hR7
      refine W_seq ?_
      refine W_region ?_
      refine L_as (v := .bool true) rfl rfl ?_
      refine L_nil ?_
      refine W_ret ?_
      obtain rfl := so hF
      refine ret1 Try.results52 ?_
      exact ⟨rfl, hx⟩

theorem s_DomainsValid_c {fu : Nat} {m : Model} {d : List (List Bool)} {v0_0 : Value} {v0_1 : Value} {v1 : Value} {w : World} {B : Nat} (hB : B ≤ w.heap.size) (h0_0 : (RP.slice 3 RP.int).rel B w.heap.size w [v0_0] m.sizes) (h0_1 : (RP.slice 68 (rRule 3 22)).rel B w.heap.size w [v0_1] m.rules) (h1 : (RP.slice 46 (RP.slice 4 RP.bool)).rel B w.heap.size w [v1] d) {r : Bool} (hF : s_DomainsValid fu m d = some r) :
    C Try.prog 19 #[.agg #[v0_0, v0_1], v1] w fun v w' => (v = .bool r) ∧ Ext w w' := by
  unfold s_DomainsValid at hF
  have hx := ext_refl w
  refine C_enter Try.func19 rfl Try.ntmps19 rfl ?_
  refine W_seq ?_
  refine W_region ?_
  refine L_box (v := .agg #[v0_0, v0_1]) (cs := #[v0_0, v0_1]) rfl rfl rfl ?_
  intro g3 w4 hn4
  have hge_g3 := hn4.ge hx
  have hb_g3 := hn4.blk
  have h0_0 := RP.ext h0_0 hn4.ext
  have h0_1 := RP.ext h0_1 hn4.ext
  have h1 := RP.ext h1 hn4.ext
  have hx := ext_trans hx hn4.ext
  refine L_as (v := .bool false) rfl rfl ?_
  refine L_nil ?_
  refine W_seq ?_
  obtain ⟨x5, hx5, hF⟩ := bind_some hF
  obtain ⟨b9, hb9, hF⟩ := bind_some hF
  obtain ⟨R10, hR10⟩ : ∃ R : Fr → World → Prop, R = fun f w_ => f 4 = .bool b9 ∧ Ext w w_ := ⟨_, rfl⟩
  refine W_join R10 ?_ ?_
  ·
    refine W_region ?_
    refine L_lda (cs := [v0_0, v0_1]) rfl Try.isAgg30 Try.sizeOf30 rfl (Blk.sub hb_g3 0 2) rfl ?_
    refine L_call (args := #[.agg #[v0_0, v0_1]]) rfl Try.call44 (ops1 rfl) (s_ModelValid_c (m := m) (Nat.le_trans hB hx.size) (rel0 h0_0) (rel0 h0_1) hx5) ?_
    rintro _ w11 ⟨rfl, he11⟩
    have h0_0 := RP.ext h0_0 he11
    have h0_1 := RP.ext h0_1 he11
    have h1 := RP.ext h1 he11
    have hb_g3 := Blk.ext hb_g3 he11
    have hx := ext_trans hx he11
    refine L_mv (v := .bool x5) rfl rfl ?_
    refine L_split (d := 7) (b := x5) rfl (fun hc12 => ?_) (fun hc12 => ?_)
    ·
      rw [ite_t hc12] at hb9
      obtain ⟨x7, hx7, hb9⟩ := bind_some hb9
      refine L_lda (cs := [v0_0, v0_1]) rfl Try.isAgg30 Try.sizeOf30 rfl (Blk.sub hb_g3 0 2) rfl ?_
      refine L_mv (v := v1) rfl rfl ?_
      refine L_call (args := #[.agg #[v0_0, v0_1], v1]) rfl Try.call52 (ops2 rfl rfl) (s_l8Fits_c (m := m) (d := d) (Nat.le_trans hB hx.size) (rel0 h0_0) (rel0 h0_1) (rel0 h1) hx7) ?_
      rintro _ w13 ⟨rfl, he13⟩
      have h0_0 := RP.ext h0_0 he13
      have h0_1 := RP.ext h0_1 he13
      have h1 := RP.ext h1 he13
      have hx := ext_trans hx he13
      refine L_pick (v := .bool b9) rfl rfl (congrArg Value.bool (so hb9)) ?_
      refine L_as (v := .bool b9) rfl rfl ?_
      refine L_nil ?_
      show R10 _ _
      rw [hR10]
      exact ⟨rfl, hx⟩
    ·
      rw [ite_f hc12] at hb9
      refine L_pass rfl ?_
      refine L_pass rfl ?_
      refine L_pass rfl ?_
      refine L_pick (v := .bool b9) rfl rfl (congrArg Value.bool (so hb9)) ?_
      refine L_as (v := .bool b9) rfl rfl ?_
      refine L_nil ?_
      show R10 _ _
      rw [hR10]
      exact ⟨rfl, hx⟩
  ·
    intro f w_ hR
    rw [hR10] at hR
    obtain ⟨sf4, hx⟩ := hR
    clear hR10
    refine W_ret ?_
    obtain rfl := so hF
    refine ret1 Try.results19 ?_
    exact ⟨sf4, hx⟩

theorem l_toBoolS_c {a : List Bool} {v0 : Value} {w : World} {B : Nat} (hB : B ≤ w.heap.size) (h0 : (RP.slice 4 RP.bool).rel B w.heap.size w [v0] a) {r : List Bool} (hF : l_toBoolS a = some r) :
    C Try.prog 37 #[v0] w fun v w' => (∃ u1 : Value, v = u1 ∧ Own RP.bool 4 w.heap.size B w' u1 r) ∧ Ext w w' := by
  unfold l_toBoolS at hF
  have hx := ext_refl w
  refine C_enter Try.func37 rfl Try.ntmps37 rfl ?_
  refine W_seq ?_
  refine W_region ?_
  refine L_as (v := (.slice none 0 0)) rfl rfl ?_
  refine L_nil ?_
  refine W_seq ?_
  obtain ⟨x1, hx1, hF⟩ := bind_some hF
  refine W_region ?_
  refine L_mv (v := v0) rfl rfl ?_
  refine L_len (v := v0) rfl Try.underlying46 rfl h0 ?_
  refine L_mk (el := B) (r := RP.bool) (z0 := false) (zc := [.bool false]) rfl et_46 (by kernel_rfl) (fun w => rfl) rfl rfl hx1 hx.size ?_
  intro v3 w3 ho3 he3 hb3
  have h0 := RP.ext h0 he3
  have hx := ext_trans hx he3
  refine L_as (v := v3) rfl rfl ?_
  refine L_nil ?_
  refine W_seq ?_
  refine W_seq ?_
  refine W_region ?_
  refine L_as (v := .int .i64 0) rfl rfl ?_
  refine L_nil ?_
  have hlen6 := len_le h0
  obtain ⟨j6, hL6, hF⟩ := bind_some hF
  obtain ⟨R6, hR6⟩ : ∃ R : Fr → World → Prop, R = fun f w_ => ∃ out_5 : List Bool, ∃ v5_out : Value, j6 = .nx out_5 ∧ f 3 = v5_out ∧ Own RP.bool 4 w.heap.size B w_ v5_out out_5 ∧ Ext w w_ := ⟨_, rfl⟩
  refine W_join R6 ?_ ?_
  ·
    refine W_block ?_
    obtain ⟨I6, hI6⟩ : ∃ I : Nat → Fr → World → Prop, I = fun n f w_ => ∃ i_4 : Nat, ∃ suf6 : List Bool, ∃ out_5 : List Bool, ∃ v5_out : Value, n = suf6.length ∧ List.drop i_4 a = suf6 ∧ i_4 + suf6.length = a.length ∧ rangeL l_toBoolS_b1 suf6 i_4 out_5 = some j6 ∧ f 0 = v0 ∧ f 3 = v5_out ∧ f 4 = .int .i64 (i_4 : Int) ∧ (RP.slice 4 RP.bool).rel B w.heap.size w_ [v0] a ∧ Own RP.bool 4 w.heap.size B w_ v5_out out_5 ∧ Ext w w_ := ⟨_, rfl⟩
    refine W_loop I6 (n := a.length) ?_ ?_
    · rw [hI6]; exact ⟨0, a, x1, v3, rfl, rfl, Nat.zero_add _, hL6, rfl, rfl, rfl, h0, ho3, hx⟩
    ·
      intro n6 f w_ hI
      rw [hI6] at hI
      obtain ⟨i_4, suf6, out_5, v5_out, rfl, hd6, hl6, hL6, sf0, sf3, sf4, h0, hv5_out, hx⟩ := hI
      refine W_seq ?_
      refine W_seq ?_
      refine W_region ?_
      refine L_mv (v := .int .i64 (i_4 : Int)) rfl sf4 ?_
      refine L_mv (v := v0) rfl sf0 ?_
      refine L_len (v := v0) rfl Try.underlying46 rfl h0 ?_
      refine L_lss (m := (i_4 : Int)) (n := (a.length : Int)) rfl rfl rfl ?_
      refine L_nil ?_
      refine W_cond (b := decide ((i_4 : Int) < (a.length : Int))) rfl (fun hc7 => ?_) (fun hc7 => ?_)
      ·
        have hlt6 := of_decide_eq_true hc7
        cases suf6 with
        | nil => exact absurd hlt6 (by simp at hl6; omega)
        | cons x_6 rest6 =>
          obtain ⟨o6, hB6, hL6⟩ := range_cons hL6
          rw [l_toBoolS_b1] at hB6
          have hix6 := drop_idx hd6
          refine W_skip ?_
          refine W_seq ?_
          refine W_block ?_
          obtain ⟨x10, hx10, hB6⟩ := bind_some hB6
          refine W_region ?_
          refine L_mv (v := v5_out) rfl sf3 ?_
          refine L_mv (v := .int .i64 (i_4 : Int)) rfl sf4 ?_
          refine L_mv (v := v0) rfl sf0 ?_
          refine L_mv (v := .int .i64 (i_4 : Int)) rfl sf4 ?_
          refine L_ix (r := RP.bool) rfl Try.underlying46 Try.sizeOf4 rfl h0 rfl hix6 ?_
          intro g14 o15 cs15 hr15 hat15
          obtain rfl : _ = [_] := hr15
          refine L_ld (v := .bool x_6) rfl Try.isAgg4 rfl (hat15.cell (j := 0) rfl) ?_
          refine L_ixo (r := RP.bool) rfl et_46 rfl hv5_out rfl hx10 ?_
          intro g16 c17 cs17 hg17 hl17 hc17 hr17 hj17
          obtain rfl : cs17 = [_] := hr17
          refine L_st (v := .bool x_6) rfl Try.sizeOf4 rfl rfl rfl hc17 (hj17 0 _ rfl) ?_
          intro w18 hp18
          have hv5_out_n : Own RP.bool 4 _ B w18 _ (out_5.set (Int.toNat (i_4 : Int)) x_6) := own_set hv5_out hg17 rfl (by decide) (idx_some hx10).2.2 hc17 hp18 rfl hB
          have h0 := hp18.mu.rel_lo h0 hl17
          have hx := ext_mut hx hp18.mu hl17
          have hv5_out := hv5_out_n
          refine L_nil ?_
          refine W_region ?_
          refine L_mv (v := .int .i64 (i_4 : Int)) rfl sf4 ?_
          refine L_add (m := (i_4 : Int)) (n := 1) rfl rfl rfl ?_
          refine L_as (v := .int .i64 (i64 ((i_4 : Int) + 1))) rfl rfl ?_
          refine L_nil ?_
          obtain rfl := so hB6
          show ∃ m, m < _ ∧ I6 m _ _
          refine ⟨rest6.length, by simp, ?_⟩
          rw [hI6]
          exact ⟨i_4 + 1, rest6, (out_5.set (Int.toNat (i_4 : Int)) x_6), v5_out, rfl, drop_next hd6, by simp at hl6; omega, hL6, sf0, sf3, (Eq.trans rfl (congrArg (Value.int .i64) (i64_succ (n := a.length) (by simp at hl6; omega) hlen6))), h0, hv5_out, hx⟩
      ·
        cases suf6 with
        | cons _ _ => exact absurd (of_decide_eq_false hc7) (by simp at hl6; omega)
        | nil =>
          obtain rfl := range_nil hL6
          refine W_exit ?_
          show R6 _ _
          rw [hR6]
          exact ⟨out_5, v5_out, rfl, sf3, hv5_out, hx⟩
  ·
    intro f w_ hR
    rw [hR6] at hR
    obtain ⟨out_5, v5_out, rfl, sf3, hv5_out, hx⟩ := hR
    clear hR6
    refine W_seq ?_
    refine W_region ?_
    refine L_mv (v := v5_out) rfl sf3 ?_
    refine L_as (v := v5_out) rfl rfl ?_
    refine L_nil ?_
    refine W_ret ?_
    obtain rfl := so hF
    refine ret1 Try.results37 ?_
    exact ⟨⟨v5_out, rfl, hv5_out⟩, hx⟩

theorem l_toBoolSS_c {a : List (List Bool)} {v0 : Value} {w : World} {B : Nat} (hB : B ≤ w.heap.size) (h0 : (RP.slice 46 (RP.slice 4 RP.bool)).rel B w.heap.size w [v0] a) {r : List (List Bool)} (hF : l_toBoolSS a = some r) :
    C Try.prog 20 #[v0] w fun v w' => (∃ u1 : Value, v = u1 ∧ Own (RP.slice 4 RP.bool) 46 w.heap.size B w' u1 r) ∧ Ext w w' := by
  unfold l_toBoolSS at hF
  have hx := ext_refl w
  refine C_enter Try.func20 rfl Try.ntmps20 rfl ?_
  refine W_seq ?_
  refine W_region ?_
  refine L_as (v := (.slice none 0 0)) rfl rfl ?_
  refine L_nil ?_
  refine W_seq ?_
  obtain ⟨x1, hx1, hF⟩ := bind_some hF
  refine W_region ?_
  refine L_mv (v := v0) rfl rfl ?_
  refine L_len (v := v0) rfl Try.underlying36 rfl h0 ?_
  refine L_mk (el := B) (r := (RP.slice 4 RP.bool)) (z0 := []) (zc := [(.slice none 0 0)]) rfl et_36 (by kernel_rfl) (fun w => rel_nil _ _ _ _ _) rfl rfl hx1 hx.size ?_
  intro v3 w3 ho3 he3 hb3
  have h0 := RP.ext h0 he3
  have hx := ext_trans hx he3
  refine L_as (v := v3) rfl rfl ?_
  refine L_nil ?_
  refine W_seq ?_
  refine W_seq ?_
  refine W_region ?_
  refine L_as (v := .int .i64 0) rfl rfl ?_
  refine L_nil ?_
  have hlen6 := len_le h0
  obtain ⟨j6, hL6, hF⟩ := bind_some hF
  obtain ⟨R6, hR6⟩ : ∃ R : Fr → World → Prop, R = fun f w_ => ∃ out_5 : List (List Bool), ∃ v5_out : Value, j6 = .nx out_5 ∧ f 3 = v5_out ∧ Own (RP.slice 4 RP.bool) 46 w.heap.size B w_ v5_out out_5 ∧ Ext w w_ := ⟨_, rfl⟩
  refine W_join R6 ?_ ?_
  ·
    refine W_block ?_
    obtain ⟨I6, hI6⟩ : ∃ I : Nat → Fr → World → Prop, I = fun n f w_ => ∃ i_4 : Nat, ∃ suf6 : List (List Bool), ∃ out_5 : List (List Bool), ∃ v5_out : Value, n = suf6.length ∧ List.drop i_4 a = suf6 ∧ i_4 + suf6.length = a.length ∧ rangeL l_toBoolSS_b1 suf6 i_4 out_5 = some j6 ∧ f 0 = v0 ∧ f 3 = v5_out ∧ f 4 = .int .i64 (i_4 : Int) ∧ (RP.slice 46 (RP.slice 4 RP.bool)).rel B w.heap.size w_ [v0] a ∧ Own (RP.slice 4 RP.bool) 46 w.heap.size B w_ v5_out out_5 ∧ Ext w w_ := ⟨_, rfl⟩
    refine W_loop I6 (n := a.length) ?_ ?_
    · rw [hI6]; exact ⟨0, a, x1, v3, rfl, rfl, Nat.zero_add _, hL6, rfl, rfl, rfl, h0, ho3, hx⟩
    ·
      intro n6 f w_ hI
      rw [hI6] at hI
      obtain ⟨i_4, suf6, out_5, v5_out, rfl, hd6, hl6, hL6, sf0, sf3, sf4, h0, hv5_out, hx⟩ := hI
      refine W_seq ?_
      refine W_seq ?_
      refine W_region ?_
      refine L_mv (v := .int .i64 (i_4 : Int)) rfl sf4 ?_
      refine L_mv (v := v0) rfl sf0 ?_
      refine L_len (v := v0) rfl Try.underlying36 rfl h0 ?_
      refine L_lss (m := (i_4 : Int)) (n := (a.length : Int)) rfl rfl rfl ?_
      refine L_nil ?_
      refine W_cond (b := decide ((i_4 : Int) < (a.length : Int))) rfl (fun hc7 => ?_) (fun hc7 => ?_)
      ·
        have hlt6 := of_decide_eq_true hc7
        cases suf6 with
        | nil => exact absurd hlt6 (by simp at hl6; omega)
        | cons x_6 rest6 =>
          obtain ⟨o6, hB6, hL6⟩ := range_cons hL6
          rw [l_toBoolSS_b1] at hB6
          have hix6 := drop_idx hd6
          refine W_skip ?_
          refine W_seq ?_
          refine W_block ?_
          obtain ⟨x10, hx10, hB6⟩ := bind_some hB6
          obtain ⟨x12, hx12, hB6⟩ := bind_some hB6
          refine W_region ?_
          refine L_mv (v := v5_out) rfl sf3 ?_
          refine L_mv (v := .int .i64 (i_4 : Int)) rfl sf4 ?_
          refine L_mv (v := v0) rfl sf0 ?_
          refine L_mv (v := .int .i64 (i_4 : Int)) rfl sf4 ?_
          refine L_ix (r := (RP.slice 4 RP.bool)) rfl Try.underlying36 Try.sizeOf46 rfl h0 rfl hix6 ?_
          intro g16 o17 cs17 hr17 hat17
          obtain ⟨u17, rfl, hu17⟩ := slice1 hr17
          refine L_ld (v := u17) rfl Try.isAgg46 rfl (hat17.cell (j := 0) rfl) ?_
          refine L_call (args := #[u17]) rfl Try.call37 (ops1 rfl) (l_toBoolS_c (a := x_6) (Nat.le_trans hB hx.size) (rel0 hu17) hx10) ?_
          rintro r18_0 w18 ⟨⟨_, rfl, hr18_0⟩, he18⟩
          have hr18_0 : Own _ _ w.heap.size B _ _ _ := hr18_0.wide hx.size (Nat.le_refl _)
          have h0 := RP.ext h0 he18
          have hv5_out := Own.ext hv5_out he18
          have hu17 := RP.ext hu17 he18
          have hx := ext_trans hx he18
          refine L_ixo (r := (RP.slice 4 RP.bool)) rfl et_36 rfl hv5_out rfl hx12 ?_
          intro g19 c20 cs20 hg20 hl20 hc20 hr20 hj20
          obtain ⟨uo20, rfl, _⟩ := slice1 hr20
          refine L_st (v := r18_0) rfl Try.sizeOf46 rfl rfl (one_of (Own.rel hr18_0)) hc20 (hj20 0 _ rfl) ?_
          intro w21 hp21
          have hv5_out_n : Own (RP.slice 4 RP.bool) 46 _ B w21 _ (out_5.set (Int.toNat (i_4 : Int)) x10) := own_set hv5_out hg20 rfl (by decide) (idx_some hx12).2.2 hc20 hp21 (rel0 (Own.rel hr18_0)) hB
          have h0 := hp21.mu.rel_lo h0 hl20
          have hr18_0 := hp21.mu.ownT hr18_0 (by decide) (by decide) (Nat.le_trans hB hl20)
          have hx := ext_mut hx hp21.mu hl20
          have hv5_out := hv5_out_n
          refine L_nil ?_
          refine W_region ?_
          refine L_mv (v := .int .i64 (i_4 : Int)) rfl sf4 ?_
          refine L_add (m := (i_4 : Int)) (n := 1) rfl rfl rfl ?_
          refine L_as (v := .int .i64 (i64 ((i_4 : Int) + 1))) rfl rfl ?_
          refine L_nil ?_
          obtain rfl := so hB6
          show ∃ m, m < _ ∧ I6 m _ _
          refine ⟨rest6.length, by simp, ?_⟩
          rw [hI6]
          exact ⟨i_4 + 1, rest6, (out_5.set (Int.toNat (i_4 : Int)) x10), v5_out, rfl, drop_next hd6, by simp at hl6; omega, hL6, sf0, sf3, (Eq.trans rfl (congrArg (Value.int .i64) (i64_succ (n := a.length) (by simp at hl6; omega) hlen6))), h0, hv5_out, hx⟩
      ·
        cases suf6 with
        | cons _ _ => exact absurd (of_decide_eq_false hc7) (by simp at hl6; omega)
        | nil =>
          obtain rfl := range_nil hL6
          refine W_exit ?_
          show R6 _ _
          rw [hR6]
          exact ⟨out_5, v5_out, rfl, sf3, hv5_out, hx⟩
  ·
    intro f w_ hR
    rw [hR6] at hR
    obtain ⟨out_5, v5_out, rfl, sf3, hv5_out, hx⟩ := hR
    clear hR6
    refine W_seq ?_
    refine W_region ?_
    refine L_mv (v := v5_out) rfl sf3 ?_
    refine L_as (v := v5_out) rfl rfl ?_
    refine L_nil ?_
    refine W_ret ?_
    obtain rfl := so hF
    refine ret1 Try.results20 ?_
    exact ⟨⟨v5_out, rfl, hv5_out⟩, hx⟩

theorem i_DomainsValid_c {m : Model} {d : List (List Bool)} {v0_0 : Value} {v0_1 : Value} {v1 : Value} {w : World} {B : Nat} (hB : B ≤ w.heap.size) (h0_0 : (RP.slice 3 RP.int).rel B w.heap.size w [v0_0] m.sizes) (h0_1 : (RP.slice 68 (rRule 3 22)).rel B w.heap.size w [v0_1] m.rules) (h1 : (RP.slice 46 (RP.slice 4 RP.bool)).rel B w.heap.size w [v1] d) {r : Bool} (hF : i_DomainsValid m d = some r) :
    C Try.prog 21 #[.agg #[v0_0, v0_1], v1] w fun v w' => (v = .bool r) ∧ Ext w w' := by
  unfold i_DomainsValid at hF
  have hx := ext_refl w
  refine C_enter Try.func21 rfl Try.ntmps21 rfl ?_
  refine W_seq ?_
  refine W_region ?_
  refine L_box (v := .agg #[v0_0, v0_1]) (cs := #[v0_0, v0_1]) rfl rfl rfl ?_
  intro g3 w4 hn4
  have hge_g3 := hn4.ge hx
  have hb_g3 := hn4.blk
  have h0_0 := RP.ext h0_0 hn4.ext
  have h0_1 := RP.ext h0_1 hn4.ext
  have h1 := RP.ext h1 hn4.ext
  have hx := ext_trans hx hn4.ext
  refine L_as (v := .bool false) rfl rfl ?_
  refine L_nil ?_
  refine W_seq ?_
  refine W_seq ?_
  obtain ⟨x5, hx5, hF⟩ := bind_some hF
  obtain ⟨R7, hR7⟩ : ∃ R : Fr → World → Prop, R = fun f w_ => f 1 = v1 ∧ f 2 = .pointer (some ⟨g3, 0, none⟩) ∧ f 17 = .bool ((!x5) || ((d.length : Int) != (m.sizes.length : Int))) ∧ (RP.slice 46 (RP.slice 4 RP.bool)).rel B w.heap.size w_ [v1] d ∧ (RP.slice 3 RP.int).rel B w.heap.size w_ [v0_0] m.sizes ∧ (RP.slice 68 (rRule 3 22)).rel B w.heap.size w_ [v0_1] m.rules ∧ Blk w_ g3 30 #[v0_0, v0_1] ∧ Ext w w_ := ⟨_, rfl⟩
  refine W_join R7 ?_ ?_
  ·
    refine W_region ?_
    refine L_lda (cs := [v0_0, v0_1]) rfl Try.isAgg30 Try.sizeOf30 rfl (Blk.sub hb_g3 0 2) rfl ?_
    refine L_call (args := #[.agg #[v0_0, v0_1]]) rfl Try.call47 (ops1 rfl) (i_ModelValid_c (m := m) (Nat.le_trans hB hx.size) (rel0 h0_0) (rel0 h0_1) hx5) ?_
    rintro _ w8 ⟨rfl, he8⟩
    have h0_0 := RP.ext h0_0 he8
    have h0_1 := RP.ext h0_1 he8
    have h1 := RP.ext h1 he8
    have hb_g3 := Blk.ext hb_g3 he8
    have hx := ext_trans hx he8
    refine L_not_ (b := x5) rfl rfl ?_
    refine L_mv (v := .bool (!x5)) rfl rfl ?_
    refine L_split (d := 10) (b := (!x5)) rfl (fun hc9 => ?_) (fun hc9 => ?_)
    ·
      refine L_pass rfl ?_
      refine L_pass rfl ?_
      refine L_pass rfl ?_
      refine L_pass rfl ?_
      refine L_pass rfl ?_
      refine L_pass rfl ?_
      refine L_pick (v := .bool ((!x5) || ((d.length : Int) != (m.sizes.length : Int)))) rfl rfl (or_t hc9) ?_
      refine L_nil ?_
      show R7 _ _
      rw [hR7]
      exact ⟨rfl, rfl, rfl, h1, h0_0, h0_1, hb_g3, hx⟩
    ·
      refine L_mv (v := v1) rfl rfl ?_
      refine L_len (v := v1) rfl Try.underlying36 rfl h1 ?_
      refine L_fa (o' := 0) rfl fa_30_0 rfl rfl ?_
      refine L_ld (v := v0_0) rfl Try.isAgg22 rfl (hb_g3.cell (j := 0) rfl) ?_
      refine L_len (v := v0_0) rfl Try.underlying22 rfl h0_0 ?_
      refine L_neq (m := (d.length : Int)) (n := (m.sizes.length : Int)) rfl rfl rfl ?_
      refine L_pick (v := .bool ((!x5) || ((d.length : Int) != (m.sizes.length : Int)))) rfl rfl (or_f hc9 rfl) ?_
      refine L_nil ?_
      show R7 _ _
      rw [hR7]
      exact ⟨rfl, rfl, rfl, h1, h0_0, h0_1, hb_g3, hx⟩
  ·
    intro f w_ hR
    rw [hR7] at hR
    obtain ⟨sf1, sf2, sf17, h1, h0_0, h0_1, hb_g3, hx⟩ := hR
    clear hR7
    refine W_cond (b := ((!x5) || ((d.length : Int) != (m.sizes.length : Int)))) sf17 (fun hc10 => ?_) (fun hc10 => ?_)
    ·
      have hF := (ite_t hc10).symm.trans hF
      refine W_seq ?_
      refine W_region ?_
      refine L_as (v := .bool false) rfl rfl ?_
      refine L_nil ?_
      refine W_ret ?_
      obtain rfl := so hF
      refine ret1 Try.results21 ?_
      exact ⟨rfl, hx⟩
    ·
      have hF := (ite_f hc10).symm.trans hF
      refine W_skip ?_
      refine W_seq ?_
      refine W_seq ?_
      refine W_region ?_
      refine L_fa (o' := 0) rfl fa_30_0 sf2 rfl ?_
      refine L_ld (v := v0_0) rfl Try.isAgg22 rfl (hb_g3.cell (j := 0) rfl) ?_
      refine L_len (v := v0_0) rfl Try.underlying22 rfl h0_0 ?_
      refine L_mv (v := .int .i64 0) rfl rfl ?_
      refine L_nil ?_
      have hlen12 := len_le h0_0
      obtain ⟨j12, hL12, hF⟩ := bind_some hF
      obtain ⟨R12, hR12⟩ : ∃ R : Fr → World → Prop, R = fun f w_ => j12 = .nx () ∧ Ext w w_ := ⟨_, rfl⟩
      refine W_join R12 ?_ ?_
      ·
        refine W_block ?_
        obtain ⟨I12, hI12⟩ : ∃ I : Nat → Fr → World → Prop, I = fun n f w_ => ∃ i_11 : Nat, ∃ suf12 : List Int, n = suf12.length ∧ List.drop i_11 m.sizes = suf12 ∧ i_11 + suf12.length = m.sizes.length ∧ rangeL (i_DomainsValid_b1 d) suf12 i_11 () = some j12 ∧ f 1 = v1 ∧ f 19 = v0_0 ∧ f 20 = .int .i64 (m.sizes.length : Int) ∧ f 21 = .int .i64 (i_11 : Int) ∧ (RP.slice 46 (RP.slice 4 RP.bool)).rel B w.heap.size w_ [v1] d ∧ (RP.slice 3 RP.int).rel B w.heap.size w_ [v0_0] m.sizes ∧ Ext w w_ := ⟨_, rfl⟩
        refine W_loop I12 (n := m.sizes.length) ?_ ?_
        · rw [hI12]; exact ⟨0, m.sizes, rfl, rfl, Nat.zero_add _, hL12, sf1, rfl, rfl, rfl, h1, h0_0, hx⟩
        ·
          intro n12 f w_ hI
          rw [hI12] at hI
          obtain ⟨i_11, suf12, rfl, hd12, hl12, hL12, sf1, sf19, sf20, sf21, h1, h0_0, hx⟩ := hI
          refine W_seq ?_
          refine W_region ?_
          refine L_lss (m := (i_11 : Int)) (n := (m.sizes.length : Int)) rfl sf21 sf20 ?_
          refine L_nil ?_
          refine W_seq ?_
          refine W_cond (b := decide ((i_11 : Int) < (m.sizes.length : Int))) rfl (fun hc13 => ?_) (fun hc13 => ?_)
          ·
            have hlt12 := of_decide_eq_true hc13
            cases suf12 with
            | nil => exact absurd hlt12 (by simp at hl12; omega)
            | cons x_12 rest12 =>
              obtain ⟨o12, hB12, hL12⟩ := range_cons hL12
              rw [i_DomainsValid_b1] at hB12
              have hix12 := drop_idx hd12
              refine W_skip ?_
              refine W_seq ?_
              refine W_block ?_
              refine W_seq ?_
              refine W_region ?_
              refine L_mv (v := .int .i64 (i_11 : Int)) rfl sf21 ?_
              refine L_ix (r := RP.int) rfl Try.underlying22 Try.sizeOf3 sf19 h0_0 sf21 hix12 ?_
              intro g16 o17 cs17 hr17 hat17
              obtain rfl : _ = [_] := hr17
              refine L_ld (v := .int .i64 x_12) rfl Try.isAgg3 rfl (hat17.cell (j := 0) rfl) ?_
              refine L_as (v := .int .i64 (i_11 : Int)) rfl rfl ?_
              refine L_as (v := .int .i64 x_12) rfl rfl ?_
              refine L_nil ?_
              refine W_seq ?_
              obtain ⟨x18, hx18, hB12⟩ := bind_some hB12
              refine W_region ?_
              refine L_mv (v := v1) rfl sf1 ?_
              refine L_mv (v := .int .i64 (i_11 : Int)) rfl rfl ?_
              refine L_ix (r := (RP.slice 4 RP.bool)) rfl Try.underlying36 Try.sizeOf46 rfl h1 rfl hx18 ?_
              intro g21 o22 cs22 hr22 hat22
              obtain ⟨u22, rfl, hu22⟩ := slice1 hr22
              refine L_ld (v := u22) rfl Try.isAgg46 rfl (hat22.cell (j := 0) rfl) ?_
              refine L_len (v := u22) rfl Try.underlying46 rfl hu22 ?_
              refine L_mv (v := .int .i64 x_12) rfl rfl ?_
              refine L_add (m := x_12) (n := 1) rfl rfl rfl ?_
              refine L_neq (m := (x18.length : Int)) (n := i64 (x_12 + 1)) rfl rfl rfl ?_
              refine L_nil ?_
              refine W_cond (b := ((x18.length : Int) != (i64 (x_12 + 1)))) rfl (fun hc23 => ?_) (fun hc23 => ?_)
              ·
                have hB12 := (ite_t hc23).symm.trans hB12
                refine W_seq ?_
                refine W_region ?_
                refine L_as (v := .bool false) rfl rfl ?_
                refine L_nil ?_
                refine W_ret ?_
                obtain rfl := so hB12
                obtain rfl := so hL12
                obtain rfl := so hF
                refine ret1 Try.results21 ?_
                exact ⟨rfl, hx⟩
              ·
                have hB12 := (ite_f hc23).symm.trans hB12
                refine W_skip ?_
                refine W_region ?_
                refine L_add (m := (i_11 : Int)) (n := 1) rfl sf21 rfl ?_
                refine L_mv (v := .int .i64 (i64 ((i_11 : Int) + 1))) rfl rfl ?_
                refine L_nil ?_
                obtain rfl := so hB12
                show ∃ m, m < _ ∧ I12 m _ _
                refine ⟨rest12.length, by simp, ?_⟩
                rw [hI12]
                exact ⟨i_11 + 1, rest12, rfl, drop_next hd12, by simp at hl12; omega, hL12, sf1, sf19, sf20, (Eq.trans rfl (congrArg (Value.int .i64) (i64_succ (n := m.sizes.length) (by simp at hl12; omega) hlen12))), h1, h0_0, hx⟩
          ·
            cases suf12 with
            | cons _ _ => exact absurd (of_decide_eq_false hc13) (by simp at hl12; omega)
            | nil =>
              obtain rfl := range_nil hL12
              refine W_exit ?_
              show R12 _ _
              rw [hR12]
              exact ⟨rfl, hx⟩
      ·
        intro f w_ hR
        rw [hR12] at hR
        obtain ⟨rfl, hx⟩ := hR
        clear hR12
        refine W_seq ?_
        refine W_region ?_
        refine L_as (v := .bool true) rfl rfl ?_
        refine L_nil ?_
        refine W_ret ?_
        obtain rfl := so hF
        refine ret1 Try.results21 ?_
        exact ⟨rfl, hx⟩

theorem l_eqBoolS_c {a : List Bool} {b : List Bool} {v0 : Value} {v1 : Value} {w : World} {B : Nat} (hB : B ≤ w.heap.size) (h0 : (RP.slice 4 RP.bool).rel B w.heap.size w [v0] a) (h1 : (RP.slice 4 RP.bool).rel B w.heap.size w [v1] b) {r : Bool} (hF : l_eqBoolS a b = some r) :
    C Try.prog 29 #[v0, v1] w fun v w' => (v = .bool r) ∧ Ext w w' := by
  unfold l_eqBoolS at hF
  have hx := ext_refl w
  refine C_enter Try.func29 rfl Try.ntmps29 rfl ?_
  refine W_seq ?_
  refine W_region ?_
  refine L_as (v := .bool false) rfl rfl ?_
  refine L_nil ?_
  refine W_seq ?_
  refine W_seq ?_
  refine W_region ?_
  refine L_mv (v := v0) rfl rfl ?_
  refine L_len (v := v0) rfl Try.underlying46 rfl h0 ?_
  refine L_mv (v := v1) rfl rfl ?_
  refine L_len (v := v1) rfl Try.underlying46 rfl h1 ?_
  refine L_neq (m := (a.length : Int)) (n := (b.length : Int)) rfl rfl rfl ?_
  refine L_nil ?_
  refine W_cond (b := ((a.length : Int) != (b.length : Int))) rfl (fun hc1 => ?_) (fun hc1 => ?_)
  ·
    have hF := (ite_t hc1).symm.trans hF
    refine W_seq ?_
    refine W_region ?_
    refine L_as (v := .bool false) rfl rfl ?_
    refine L_nil ?_
    refine W_ret ?_
    obtain rfl := so hF
    refine ret1 Try.results29 ?_
    exact ⟨rfl, hx⟩
  ·
    have hF := (ite_f hc1).symm.trans hF
    refine W_skip ?_
    refine W_seq ?_
    refine W_seq ?_
    refine W_region ?_
    refine L_as (v := .int .i64 0) rfl rfl ?_
    refine L_nil ?_
    have hlen3 := len_le h0
    obtain ⟨j3, hL3, hF⟩ := bind_some hF
    obtain ⟨R3, hR3⟩ : ∃ R : Fr → World → Prop, R = fun f w_ => j3 = .nx () ∧ Ext w w_ := ⟨_, rfl⟩
    refine W_join R3 ?_ ?_
    ·
      refine W_block ?_
      obtain ⟨I3, hI3⟩ : ∃ I : Nat → Fr → World → Prop, I = fun n f w_ => ∃ i_2 : Nat, ∃ suf3 : List Bool, n = suf3.length ∧ List.drop i_2 a = suf3 ∧ i_2 + suf3.length = a.length ∧ rangeL (l_eqBoolS_b1 b) suf3 i_2 () = some j3 ∧ f 0 = v0 ∧ f 1 = v1 ∧ f 5 = .int .i64 (i_2 : Int) ∧ (RP.slice 4 RP.bool).rel B w.heap.size w_ [v0] a ∧ (RP.slice 4 RP.bool).rel B w.heap.size w_ [v1] b ∧ Ext w w_ := ⟨_, rfl⟩
      refine W_loop I3 (n := a.length) ?_ ?_
      · rw [hI3]; exact ⟨0, a, rfl, rfl, Nat.zero_add _, hL3, rfl, rfl, rfl, h0, h1, hx⟩
      ·
        intro n3 f w_ hI
        rw [hI3] at hI
        obtain ⟨i_2, suf3, rfl, hd3, hl3, hL3, sf0, sf1, sf5, h0, h1, hx⟩ := hI
        refine W_seq ?_
        refine W_seq ?_
        refine W_region ?_
        refine L_mv (v := .int .i64 (i_2 : Int)) rfl sf5 ?_
        refine L_mv (v := v0) rfl sf0 ?_
        refine L_len (v := v0) rfl Try.underlying46 rfl h0 ?_
        refine L_lss (m := (i_2 : Int)) (n := (a.length : Int)) rfl rfl rfl ?_
        refine L_nil ?_
        refine W_cond (b := decide ((i_2 : Int) < (a.length : Int))) rfl (fun hc4 => ?_) (fun hc4 => ?_)
        ·
          have hlt3 := of_decide_eq_true hc4
          cases suf3 with
          | nil => exact absurd hlt3 (by simp at hl3; omega)
          | cons x_3 rest3 =>
            obtain ⟨o3, hB3, hL3⟩ := range_cons hL3
            rw [l_eqBoolS_b1] at hB3
            have hix3 := drop_idx hd3
            refine W_skip ?_
            refine W_seq ?_
            refine W_block ?_
            refine W_seq ?_
            obtain ⟨x7, hx7, hB3⟩ := bind_some hB3
            refine W_drawL 8 [isV (v0), isV (.int .i64 (i_2 : Int)), isEl B RP.bool x_3 0, isV (.bool x_3), isV (v1), isV (.int .i64 (i_2 : Int)), isEl B RP.bool x7 0, isV (.bool x7)] Try_mix (by kernel_rfl) (am_cons (mono_V _) (am_cons (mono_V _) (am_cons (mono_el _ _ _ _) (am_cons (mono_V _) (am_cons (mono_V _) (am_cons (mono_V _) (am_cons (mono_el _ _ _ _) (am_cons (mono_V _) am_nil)))))))) ?_ (fun f w_ hS hE hT => ?_)
            ·
              refine ops_cons (fun f w_ hS hE hP => ?_) ?_
              ·
                have hx := ext_trans hx hE
                have h0 := RP.ext h0 hE
                refine L_mv (v := v0) rfl ((hS 0 rfl).trans sf0) ?_
                exact L_nil ⟨rfl, (ext_refl _), _, _, rfl, rfl, rfl⟩
              refine ops_cons (fun f w_ hS hE hP => ?_) ?_
              ·
                have hx := ext_trans hx hE
                refine L_mv (v := .int .i64 (i_2 : Int)) rfl ((hS 5 rfl).trans sf5) ?_
                exact L_nil ⟨rfl, (ext_refl _), _, _, rfl, rfl, rfl⟩
              refine ops_cons (fun f w_ hS hE hP => ?_) ?_
              ·
                have hx := ext_trans hx hE
                have h0 := RP.ext h0 hE
                refine L_ix (r := RP.bool) rfl Try.underlying46 Try.sizeOf4 (hP 0 17 rfl rfl) h0 (hP 1 18 rfl rfl) hix3 ?_
                intro g14 o15 cs15 hr15 hat15
                obtain rfl : _ = [_] := hr15
                exact L_nil ⟨rfl, (ext_refl _), _, _, rfl, rfl, ⟨_, _, _, rfl, rfl, hat15⟩⟩
              refine ops_cons (fun f w_ hS hE hP => ?_) ?_
              ·
                have hx := ext_trans hx hE
                obtain ⟨g16, o16, cs16, hv16, hr16, hat16⟩ := (hP 2 19 rfl rfl)
                obtain rfl : _ = [_] := hr16
                refine L_ld (v := .bool x_3) rfl Try.isAgg4 hv16 (hat16.cell (j := 0) rfl) ?_
                exact L_nil ⟨rfl, (ext_refl _), _, _, rfl, rfl, rfl⟩
              refine ops_cons (fun f w_ hS hE hP => ?_) ?_
              ·
                have hx := ext_trans hx hE
                have h1 := RP.ext h1 hE
                refine L_mv (v := v1) rfl ((hS 1 rfl).trans sf1) ?_
                exact L_nil ⟨rfl, (ext_refl _), _, _, rfl, rfl, rfl⟩
              refine ops_cons (fun f w_ hS hE hP => ?_) ?_
              ·
                have hx := ext_trans hx hE
                refine L_mv (v := .int .i64 (i_2 : Int)) rfl ((hS 5 rfl).trans sf5) ?_
                exact L_nil ⟨rfl, (ext_refl _), _, _, rfl, rfl, rfl⟩
              refine ops_cons (fun f w_ hS hE hP => ?_) ?_
              ·
                have hx := ext_trans hx hE
                have h1 := RP.ext h1 hE
                refine L_ix (r := RP.bool) rfl Try.underlying46 Try.sizeOf4 (hP 4 21 rfl rfl) h1 (hP 5 22 rfl rfl) hx7 ?_
                intro g17 o18 cs18 hr18 hat18
                obtain rfl : _ = [_] := hr18
                exact L_nil ⟨rfl, (ext_refl _), _, _, rfl, rfl, ⟨_, _, _, rfl, rfl, hat18⟩⟩
              refine ops_cons (fun f w_ hS hE hP => ?_) ?_
              ·
                have hx := ext_trans hx hE
                obtain ⟨g19, o19, cs19, hv19, hr19, hat19⟩ := (hP 6 23 rfl rfl)
                obtain rfl : _ = [_] := hr19
                refine L_ld (v := .bool x7) rfl Try.isAgg4 hv19 (hat19.cell (j := 0) rfl) ?_
                exact L_nil ⟨rfl, (ext_refl _), _, _, rfl, rfl, rfl⟩
              exact ops_nil
            ·
              have h0 := RP.ext h0 hE
              have h1 := RP.ext h1 hE
              have hx := ext_trans hx hE
              refine L_bneq (b := x_3) (c := x7) rfl Try.underlying4 (hT 3 20 rfl rfl) (hT 7 24 rfl rfl) ?_
              refine L_nil ?_
              refine W_cond (b := (x_3 != x7)) rfl (fun hc20 => ?_) (fun hc20 => ?_)
              ·
                have hB3 := (ite_t hc20).symm.trans hB3
                refine W_seq ?_
                refine W_region ?_
                refine L_as (v := .bool false) rfl rfl ?_
                refine L_nil ?_
                refine W_ret ?_
                obtain rfl := so hB3
                obtain rfl := so hL3
                obtain rfl := so hF
                refine ret1 Try.results29 ?_
                exact ⟨rfl, hx⟩
              ·
                have hB3 := (ite_f hc20).symm.trans hB3
                refine W_skip ?_
                refine W_region ?_
                refine L_mv (v := .int .i64 (i_2 : Int)) rfl ((hS 5 rfl).trans sf5) ?_
                refine L_add (m := (i_2 : Int)) (n := 1) rfl rfl rfl ?_
                refine L_as (v := .int .i64 (i64 ((i_2 : Int) + 1))) rfl rfl ?_
                refine L_nil ?_
                obtain rfl := so hB3
                show ∃ m, m < _ ∧ I3 m _ _
                refine ⟨rest3.length, by simp, ?_⟩
                rw [hI3]
                exact ⟨i_2 + 1, rest3, rfl, drop_next hd3, by simp at hl3; omega, hL3, ((hS 0 rfl).trans sf0), ((hS 1 rfl).trans sf1), (Eq.trans rfl (congrArg (Value.int .i64) (i64_succ (n := a.length) (by simp at hl3; omega) hlen3))), h0, h1, hx⟩
        ·
          cases suf3 with
          | cons _ _ => exact absurd (of_decide_eq_false hc4) (by simp at hl3; omega)
          | nil =>
            obtain rfl := range_nil hL3
            refine W_exit ?_
            show R3 _ _
            rw [hR3]
            exact ⟨rfl, hx⟩
    ·
      intro f w_ hR
      rw [hR3] at hR
      obtain ⟨rfl, hx⟩ := hR
      clear hR3
      refine W_seq ?_
      refine W_region ?_
      refine L_as (v := .bool true) rfl rfl ?_
      refine L_nil ?_
      refine W_ret ?_
      obtain rfl := so hF
      refine ret1 Try.results29 ?_
      exact ⟨rfl, hx⟩

theorem l_eqBoolSS_c {a : List (List Bool)} {b : List (List Bool)} {v0 : Value} {v1 : Value} {w : World} {B : Nat} (hB : B ≤ w.heap.size) (h0 : (RP.slice 46 (RP.slice 4 RP.bool)).rel B w.heap.size w [v0] a) (h1 : (RP.slice 46 (RP.slice 4 RP.bool)).rel B w.heap.size w [v1] b) {r : Bool} (hF : l_eqBoolSS a b = some r) :
    C Try.prog 22 #[v0, v1] w fun v w' => (v = .bool r) ∧ Ext w w' := by
  unfold l_eqBoolSS at hF
  have hx := ext_refl w
  refine C_enter Try.func22 rfl Try.ntmps22 rfl ?_
  refine W_seq ?_
  refine W_region ?_
  refine L_as (v := .bool false) rfl rfl ?_
  refine L_nil ?_
  refine W_seq ?_
  refine W_seq ?_
  refine W_region ?_
  refine L_mv (v := v0) rfl rfl ?_
  refine L_len (v := v0) rfl Try.underlying36 rfl h0 ?_
  refine L_mv (v := v1) rfl rfl ?_
  refine L_len (v := v1) rfl Try.underlying36 rfl h1 ?_
  refine L_neq (m := (a.length : Int)) (n := (b.length : Int)) rfl rfl rfl ?_
  refine L_nil ?_
  refine W_cond (b := ((a.length : Int) != (b.length : Int))) rfl (fun hc1 => ?_) (fun hc1 => ?_)
  ·
    have hF := (ite_t hc1).symm.trans hF
    refine W_seq ?_
    refine W_region ?_
    refine L_as (v := .bool false) rfl rfl ?_
    refine L_nil ?_
    refine W_ret ?_
    obtain rfl := so hF
    refine ret1 Try.results22 ?_
    exact ⟨rfl, hx⟩
  ·
    have hF := (ite_f hc1).symm.trans hF
    refine W_skip ?_
    refine W_seq ?_
    refine W_seq ?_
    refine W_region ?_
    refine L_as (v := .int .i64 0) rfl rfl ?_
    refine L_nil ?_
    have hlen3 := len_le h0
    obtain ⟨j3, hL3, hF⟩ := bind_some hF
    obtain ⟨R3, hR3⟩ : ∃ R : Fr → World → Prop, R = fun f w_ => j3 = .nx () ∧ Ext w w_ := ⟨_, rfl⟩
    refine W_join R3 ?_ ?_
    ·
      refine W_block ?_
      obtain ⟨I3, hI3⟩ : ∃ I : Nat → Fr → World → Prop, I = fun n f w_ => ∃ i_2 : Nat, ∃ suf3 : List (List Bool), n = suf3.length ∧ List.drop i_2 a = suf3 ∧ i_2 + suf3.length = a.length ∧ rangeL (l_eqBoolSS_b1 b) suf3 i_2 () = some j3 ∧ f 0 = v0 ∧ f 1 = v1 ∧ f 5 = .int .i64 (i_2 : Int) ∧ (RP.slice 46 (RP.slice 4 RP.bool)).rel B w.heap.size w_ [v0] a ∧ (RP.slice 46 (RP.slice 4 RP.bool)).rel B w.heap.size w_ [v1] b ∧ Ext w w_ := ⟨_, rfl⟩
      refine W_loop I3 (n := a.length) ?_ ?_
      · rw [hI3]; exact ⟨0, a, rfl, rfl, Nat.zero_add _, hL3, rfl, rfl, rfl, h0, h1, hx⟩
      ·
        intro n3 f w_ hI
        rw [hI3] at hI
        obtain ⟨i_2, suf3, rfl, hd3, hl3, hL3, sf0, sf1, sf5, h0, h1, hx⟩ := hI
        refine W_seq ?_
        refine W_seq ?_
        refine W_region ?_
        refine L_mv (v := .int .i64 (i_2 : Int)) rfl sf5 ?_
        refine L_mv (v := v0) rfl sf0 ?_
        refine L_len (v := v0) rfl Try.underlying36 rfl h0 ?_
        refine L_lss (m := (i_2 : Int)) (n := (a.length : Int)) rfl rfl rfl ?_
        refine L_nil ?_
        refine W_cond (b := decide ((i_2 : Int) < (a.length : Int))) rfl (fun hc4 => ?_) (fun hc4 => ?_)
        ·
          have hlt3 := of_decide_eq_true hc4
          cases suf3 with
          | nil => exact absurd hlt3 (by simp at hl3; omega)
          | cons x_3 rest3 =>
            obtain ⟨o3, hB3, hL3⟩ := range_cons hL3
            rw [l_eqBoolSS_b1] at hB3
            have hix3 := drop_idx hd3
            refine W_skip ?_
            refine W_seq ?_
            refine W_block ?_
            refine W_seq ?_
            obtain ⟨x7, hx7, hB3⟩ := bind_some hB3
            obtain ⟨x10, hx10, hB3⟩ := bind_some hB3
            refine W_drawL 8 [isV (v0), isV (.int .i64 (i_2 : Int)), isEl B (RP.slice 4 RP.bool) x_3 0, isData B (RP.slice 4 RP.bool) x_3, isV (v1), isV (.int .i64 (i_2 : Int)), isEl B (RP.slice 4 RP.bool) x7 0, isData B (RP.slice 4 RP.bool) x7] Try_mix (by kernel_rfl) (am_cons (mono_V _) (am_cons (mono_V _) (am_cons (mono_el _ _ _ _) (am_cons (mono_data _ _ _) (am_cons (mono_V _) (am_cons (mono_V _) (am_cons (mono_el _ _ _ _) (am_cons (mono_data _ _ _) am_nil)))))))) ?_ (fun f w_ hS hE hT => ?_)
            ·
              refine ops_cons (fun f w_ hS hE hP => ?_) ?_
              ·
                have hx := ext_trans hx hE
                have h0 := RP.ext h0 hE
                refine L_mv (v := v0) rfl ((hS 0 rfl).trans sf0) ?_
                exact L_nil ⟨rfl, (ext_refl _), _, _, rfl, rfl, rfl⟩
              refine ops_cons (fun f w_ hS hE hP => ?_) ?_
              ·
                have hx := ext_trans hx hE
                refine L_mv (v := .int .i64 (i_2 : Int)) rfl ((hS 5 rfl).trans sf5) ?_
                exact L_nil ⟨rfl, (ext_refl _), _, _, rfl, rfl, rfl⟩
              refine ops_cons (fun f w_ hS hE hP => ?_) ?_
              ·
                have hx := ext_trans hx hE
                have h0 := RP.ext h0 hE
                refine L_ix (r := (RP.slice 4 RP.bool)) rfl Try.underlying36 Try.sizeOf46 (hP 0 17 rfl rfl) h0 (hP 1 18 rfl rfl) hix3 ?_
                intro g16 o17 cs17 hr17 hat17
                obtain ⟨u17, rfl, hu17⟩ := slice1 hr17
                exact L_nil ⟨rfl, (ext_refl _), _, _, rfl, rfl, ⟨_, _, _, rfl, (rel0 hr17), hat17⟩⟩
              refine ops_cons (fun f w_ hS hE hP => ?_) ?_
              ·
                have hx := ext_trans hx hE
                obtain ⟨g18, o18, cs18, hv18, hr18, hat18⟩ := (hP 2 19 rfl rfl)
                obtain ⟨u18, rfl, hu18⟩ := slice1 hr18
                refine L_ld (v := u18) rfl Try.isAgg46 hv18 (hat18.cell (j := 0) rfl) ?_
                exact L_nil ⟨rfl, (ext_refl _), _, _, rfl, rfl, (rel0 hu18)⟩
              refine ops_cons (fun f w_ hS hE hP => ?_) ?_
              ·
                have hx := ext_trans hx hE
                have h1 := RP.ext h1 hE
                refine L_mv (v := v1) rfl ((hS 1 rfl).trans sf1) ?_
                exact L_nil ⟨rfl, (ext_refl _), _, _, rfl, rfl, rfl⟩
              refine ops_cons (fun f w_ hS hE hP => ?_) ?_
              ·
                have hx := ext_trans hx hE
                refine L_mv (v := .int .i64 (i_2 : Int)) rfl ((hS 5 rfl).trans sf5) ?_
                exact L_nil ⟨rfl, (ext_refl _), _, _, rfl, rfl, rfl⟩
              refine ops_cons (fun f w_ hS hE hP => ?_) ?_
              ·
                have hx := ext_trans hx hE
                have h1 := RP.ext h1 hE
                refine L_ix (r := (RP.slice 4 RP.bool)) rfl Try.underlying36 Try.sizeOf46 (hP 4 21 rfl rfl) h1 (hP 5 22 rfl rfl) hx7 ?_
                intro g19 o20 cs20 hr20 hat20
                obtain ⟨u20, rfl, hu20⟩ := slice1 hr20
                exact L_nil ⟨rfl, (ext_refl _), _, _, rfl, rfl, ⟨_, _, _, rfl, (rel0 hr20), hat20⟩⟩
              refine ops_cons (fun f w_ hS hE hP => ?_) ?_
              ·
                have hx := ext_trans hx hE
                obtain ⟨g21, o21, cs21, hv21, hr21, hat21⟩ := (hP 6 23 rfl rfl)
                obtain ⟨u21, rfl, hu21⟩ := slice1 hr21
                refine L_ld (v := u21) rfl Try.isAgg46 hv21 (hat21.cell (j := 0) rfl) ?_
                exact L_nil ⟨rfl, (ext_refl _), _, _, rfl, rfl, (rel0 hu21)⟩
              exact ops_nil
            ·
              have h0 := RP.ext h0 hE
              have h1 := RP.ext h1 hE
              have hx := ext_trans hx hE
              have hd22 := (hT 3 20 rfl rfl)
              have hd23 := (hT 7 24 rfl rfl)
              refine L_call (args := #[(f 20), (f 24)]) rfl Try.call29 (ops2 rfl rfl) (l_eqBoolS_c (a := x_3) (b := x7) (Nat.le_trans hB hx.size) (rel0 hd22) (rel0 hd23) hx10) ?_
              rintro _ w24 ⟨rfl, he24⟩
              have h0 := RP.ext h0 he24
              have h1 := RP.ext h1 he24
              have hd22 := RP.ext hd22 he24
              have hd23 := RP.ext hd23 he24
              have hx := ext_trans hx he24
              refine L_not_ (b := x10) rfl rfl ?_
              refine L_nil ?_
              refine W_cond (b := (!x10)) rfl (fun hc25 => ?_) (fun hc25 => ?_)
              ·
                have hB3 := (ite_t hc25).symm.trans hB3
                refine W_seq ?_
                refine W_region ?_
                refine L_as (v := .bool false) rfl rfl ?_
                refine L_nil ?_
                refine W_ret ?_
                obtain rfl := so hB3
                obtain rfl := so hL3
                obtain rfl := so hF
                refine ret1 Try.results22 ?_
                exact ⟨rfl, hx⟩
              ·
                have hB3 := (ite_f hc25).symm.trans hB3
                refine W_skip ?_
                refine W_region ?_
                refine L_mv (v := .int .i64 (i_2 : Int)) rfl ((hS 5 rfl).trans sf5) ?_
                refine L_add (m := (i_2 : Int)) (n := 1) rfl rfl rfl ?_
                refine L_as (v := .int .i64 (i64 ((i_2 : Int) + 1))) rfl rfl ?_
                refine L_nil ?_
                obtain rfl := so hB3
                show ∃ m, m < _ ∧ I3 m _ _
                refine ⟨rest3.length, by simp, ?_⟩
                rw [hI3]
                exact ⟨i_2 + 1, rest3, rfl, drop_next hd3, by simp at hl3; omega, hL3, ((hS 0 rfl).trans sf0), ((hS 1 rfl).trans sf1), (Eq.trans rfl (congrArg (Value.int .i64) (i64_succ (n := a.length) (by simp at hl3; omega) hlen3))), h0, h1, hx⟩
        ·
          cases suf3 with
          | cons _ _ => exact absurd (of_decide_eq_false hc4) (by simp at hl3; omega)
          | nil =>
            obtain rfl := range_nil hL3
            refine W_exit ?_
            show R3 _ _
            rw [hR3]
            exact ⟨rfl, hx⟩
    ·
      intro f w_ hR
      rw [hR3] at hR
      obtain ⟨rfl, hx⟩ := hR
      clear hR3
      refine W_seq ?_
      refine W_region ?_
      refine L_as (v := .bool true) rfl rfl ?_
      refine L_nil ?_
      refine W_ret ?_
      obtain rfl := so hF
      refine ret1 Try.results22 ?_
      exact ⟨rfl, hx⟩

theorem l_FnExactDomainsValid_c {fu : Nat} {aM : Model} {aD : List (List Bool)} {v0_0 : Value} {v0_1 : Value} {v1 : Value} {w : World} {B : Nat} (hB : B ≤ w.heap.size) (h0_0 : (RP.slice 3 RP.int).rel B w.heap.size w [v0_0] aM.sizes) (h0_1 : (RP.slice 76 (rRule 3 22)).rel B w.heap.size w [v0_1] aM.rules) (h1 : (RP.slice 46 (RP.slice 4 RP.bool)).rel B w.heap.size w [v1] aD) {r : Bool} (hF : l_FnExactDomainsValid fu aM aD = some r) :
    C Try.prog 5 #[.agg #[v0_0, v0_1], v1] w fun v w' => (v = .bool r) ∧ Ext w w' := by
  unfold l_FnExactDomainsValid at hF
  have hx := ext_refl w
  refine C_enter Try.func5 rfl Try.ntmps5 rfl ?_
  refine W_seq ?_
  refine W_region ?_
  refine L_box (v := .agg #[v0_0, v0_1]) (cs := #[v0_0, v0_1]) rfl rfl rfl ?_
  intro g3 w4 hn4
  have hge_g3 := hn4.ge hx
  have hb_g3 := hn4.blk
  have h0_0 := RP.ext h0_0 hn4.ext
  have h0_1 := RP.ext h0_1 hn4.ext
  have h1 := RP.ext h1 hn4.ext
  have hx := ext_trans hx hn4.ext
  refine L_as (v := .bool false) rfl rfl ?_
  refine L_nil ?_
  refine W_seq ?_
  refine W_region ?_
  refine L_as (v := .int .i64 1048576) rfl rfl ?_
  refine L_nil ?_
  refine W_seq ?_
  obtain ⟨x5, hx5, hF⟩ := bind_some hF
  refine W_region ?_
  refine L_lda (cs := [v0_0, v0_1]) rfl Try.isAgg25 Try.sizeOf25 rfl (Blk.sub hb_g3 0 2) rfl ?_
  refine L_mv (v := .int .i64 1048576) rfl rfl ?_
  refine L_call (args := #[.agg #[v0_0, v0_1], .int .i64 1048576]) rfl Try.call11 (ops2 rfl rfl) (l_szModel_c (a := aM) (left := 1048576) (Nat.le_trans hB hx.size) (rel0 h0_0) (rel0 h0_1) hx5) ?_
  rintro _ w7 ⟨rfl, he7⟩
  have h0_0 := RP.ext h0_0 he7
  have h0_1 := RP.ext h0_1 he7
  have h1 := RP.ext h1 he7
  have hb_g3 := Blk.ext hb_g3 he7
  have hx := ext_trans hx he7
  refine L_as (v := .int .i64 x5) rfl rfl ?_
  refine L_nil ?_
  refine W_seq ?_
  refine W_seq ?_
  refine W_region ?_
  refine L_mv (v := .int .i64 x5) rfl rfl ?_
  refine L_lss (m := x5) (n := 0) rfl rfl rfl ?_
  refine L_nil ?_
  refine W_cond (b := decide (x5 < 0)) rfl (fun hc8 => ?_) (fun hc8 => ?_)
  ·
    have hF := (ite_t hc8).symm.trans hF
    refine W_seq ?_
    refine W_region ?_
    refine L_as (v := .bool true) rfl rfl ?_
    refine L_nil ?_
    refine W_ret ?_
    obtain rfl := so hF
    refine ret1 Try.results5 ?_
    exact ⟨rfl, hx⟩
  ·
    have hF := (ite_f hc8).symm.trans hF
    refine W_skip ?_
    refine W_seq ?_
    obtain ⟨x9, hx9, hF⟩ := bind_some hF
    refine W_region ?_
    refine L_mv (v := v1) rfl rfl ?_
    refine L_mv (v := .int .i64 x5) rfl rfl ?_
    refine L_call (args := #[v1, .int .i64 x5]) rfl Try.call18 (ops2 rfl rfl) (l_szBoolSS_c (a := aD) (left := x5) (Nat.le_trans hB hx.size) (rel0 h1) hx9) ?_
    rintro _ w11 ⟨rfl, he11⟩
    have h0_0 := RP.ext h0_0 he11
    have h0_1 := RP.ext h0_1 he11
    have h1 := RP.ext h1 he11
    have hb_g3 := Blk.ext hb_g3 he11
    have hx := ext_trans hx he11
    refine L_as (v := .int .i64 x9) rfl rfl ?_
    refine L_nil ?_
    refine W_seq ?_
    refine W_seq ?_
    refine W_region ?_
    refine L_mv (v := .int .i64 x9) rfl rfl ?_
    refine L_lss (m := x9) (n := 0) rfl rfl rfl ?_
    refine L_nil ?_
    refine W_cond (b := decide (x9 < 0)) rfl (fun hc12 => ?_) (fun hc12 => ?_)
    ·
      have hF := (ite_t hc12).symm.trans hF
      refine W_seq ?_
      refine W_region ?_
      refine L_as (v := .bool true) rfl rfl ?_
      refine L_nil ?_
      refine W_ret ?_
      obtain rfl := so hF
      refine ret1 Try.results5 ?_
      exact ⟨rfl, hx⟩
    ·
      have hF := (ite_f hc12).symm.trans hF
      refine W_skip ?_
      refine W_seq ?_
      obtain ⟨x13, hx13, hF⟩ := bind_some hF
      obtain ⟨x15, hx15, hF⟩ := bind_some hF
      obtain ⟨x17, hx17, hF⟩ := bind_some hF
      refine W_region ?_
      refine L_lda (cs := [v0_0, v0_1]) rfl Try.isAgg25 Try.sizeOf25 rfl (Blk.sub hb_g3 0 2) rfl ?_
      refine L_call (args := #[.agg #[v0_0, v0_1]]) rfl Try.call13 (ops1 rfl) (l_toModel_c (a := aM) (Nat.le_trans hB hx.size) (rel0 h0_0) (rel0 h0_1) hx13) ?_
      rintro _ w19 ⟨⟨r19_0, r19_1, rfl, hr19_0, hr19_1⟩, he19⟩
      have hr19_0 : Own _ _ w.heap.size B _ _ _ := hr19_0.wide hx.size (Nat.le_refl _)
      have hr19_1 : Own _ _ w.heap.size B _ _ _ := hr19_1.wide hx.size (Nat.le_refl _)
      have h0_0 := RP.ext h0_0 he19
      have h0_1 := RP.ext h0_1 he19
      have h1 := RP.ext h1 he19
      have hb_g3 := Blk.ext hb_g3 he19
      have hx := ext_trans hx he19
      refine L_mv (v := v1) rfl rfl ?_
      refine L_call (args := #[v1]) rfl Try.call20 (ops1 rfl) (l_toBoolSS_c (a := aD) (Nat.le_trans hB hx.size) (rel0 h1) hx15) ?_
      rintro r20_0 w20 ⟨⟨_, rfl, hr20_0⟩, he20⟩
      have hr20_0 : Own _ _ w.heap.size B _ _ _ := hr20_0.wide hx.size (Nat.le_refl _)
      have h0_0 := RP.ext h0_0 he20
      have h0_1 := RP.ext h0_1 he20
      have h1 := RP.ext h1 he20
      have hb_g3 := Blk.ext hb_g3 he20
      have hr19_0 := Own.ext hr19_0 he20
      have hr19_1 := Own.ext hr19_1 he20
      have hx := ext_trans hx he20
      refine L_call (args := #[.agg #[r19_0, r19_1], r20_0]) rfl Try.call19 (ops2 rfl rfl) (s_DomainsValid_c (m := x13) (d := x15) (Nat.le_trans hB hx.size) (rel0 (Own.rel hr19_0)) (rel0 (Own.rel hr19_1)) (rel0 (Own.rel hr20_0)) hx17) ?_
      rintro _ w21 ⟨rfl, he21⟩
      have h0_0 := RP.ext h0_0 he21
      have h0_1 := RP.ext h0_1 he21
      have h1 := RP.ext h1 he21
      have hb_g3 := Blk.ext hb_g3 he21
      have hr19_0 := Own.ext hr19_0 he21
      have hr19_1 := Own.ext hr19_1 he21
      have hr20_0 := Own.ext hr20_0 he21
      have hx := ext_trans hx he21
      refine L_as (v := .bool x17) rfl rfl ?_
      refine L_nil ?_
      refine W_seq ?_
      obtain ⟨x22, hx22, hF⟩ := bind_some hF
      refine W_region ?_
      refine L_lda (cs := [v0_0, v0_1]) rfl Try.isAgg25 Try.sizeOf25 rfl (Blk.sub hb_g3 0 2) rfl ?_
      refine L_call (args := #[.agg #[v0_0, v0_1]]) rfl Try.call13 (ops1 rfl) (l_toModel_c (a := aM) (Nat.le_trans hB hx.size) (rel0 h0_0) (rel0 h0_1) hx22) ?_
      rintro _ w27 ⟨⟨r27_0, r27_1, rfl, hr27_0, hr27_1⟩, he27⟩
      have hr27_0 : Own _ _ w.heap.size B _ _ _ := hr27_0.wide hx.size (Nat.le_refl _)
      have hr27_1 : Own _ _ w.heap.size B _ _ _ := hr27_1.wide hx.size (Nat.le_refl _)
      have h0_0 := RP.ext h0_0 he27
      have h0_1 := RP.ext h0_1 he27
      have h1 := RP.ext h1 he27
      have hb_g3 := Blk.ext hb_g3 he27
      have hx := ext_trans hx he27
      refine L_al (cs := #[(.slice none 0 0), (.slice none 0 0)]) rfl Try.zeroValue30 rfl ?_
      intro g28 w29 hn29
      have hge_g28 := hn29.ge hx
      have hb_g28 := hn29.blk
      have h0_0 := RP.ext h0_0 hn29.ext
      have h0_1 := RP.ext h0_1 hn29.ext
      have h1 := RP.ext h1 hn29.ext
      have hb_g3 := Blk.ext hb_g3 hn29.ext
      have hr27_0 := Own.ext hr27_0 hn29.ext
      have hr27_1 := Own.ext hr27_1 hn29.ext
      have hx := ext_trans hx hn29.ext
      refine L_sta (vs := #[r27_0, r27_1]) rfl Try.sizeOf30 rfl rfl rfl (ones_cons (one_of (Own.rel hr27_0)) (ones_cons (one_of (Own.rel hr27_1)) ones_nil)) hb_g28 rfl ?_
      intro w30 hp30
      have h0_0 := hp30.mu.rel h0_0 (by decide) (Nat.le_trans hB hge_g28)
      have h0_1 := hp30.mu.rel h0_1 (by decide) (Nat.le_trans hB hge_g28)
      have h1 := hp30.mu.rel h1 (by decide) (Nat.le_trans hB hge_g28)
      have hb_g3 := hp30.mu.blk hb_g3 (by decide)
      have hr27_0 := hp30.mu.ownT hr27_0 (by decide) (by decide) (Nat.le_trans hB hge_g28)
      have hr27_1 := hp30.mu.ownT hr27_1 (by decide) (by decide) (Nat.le_trans hB hge_g28)
      have hx := ext_mut hx hp30.mu hge_g28
      have hb_g28 : Blk w30 g28 30 #[r27_0, r27_1] := hp30.blk
      refine L_nil ?_
      refine W_seq ?_
      obtain ⟨x31, hx31, hF⟩ := bind_some hF
      refine W_region ?_
      refine L_mv (v := v1) rfl rfl ?_
      refine L_call (args := #[v1]) rfl Try.call20 (ops1 rfl) (l_toBoolSS_c (a := aD) (Nat.le_trans hB hx.size) (rel0 h1) hx31) ?_
      rintro r33_0 w33 ⟨⟨_, rfl, hr33_0⟩, he33⟩
      have hr33_0 : Own _ _ w.heap.size B _ _ _ := hr33_0.wide hx.size (Nat.le_refl _)
      have h0_0 := RP.ext h0_0 he33
      have h0_1 := RP.ext h0_1 he33
      have h1 := RP.ext h1 he33
      have hb_g3 := Blk.ext hb_g3 he33
      have hr27_0 := Own.ext hr27_0 he33
      have hr27_1 := Own.ext hr27_1 he33
      have hb_g28 := Blk.ext hb_g28 he33
      have hx := ext_trans hx he33
      refine L_as (v := r33_0) rfl rfl ?_
      refine L_nil ?_
      refine W_seq ?_
      obtain ⟨x34, hx34, hF⟩ := bind_some hF
      refine W_region ?_
      refine L_lda (cs := [r27_0, r27_1]) rfl Try.isAgg30 Try.sizeOf30 rfl (Blk.sub hb_g28 0 2) rfl ?_
      refine L_mv (v := r33_0) rfl rfl ?_
      refine L_call (args := #[.agg #[r27_0, r27_1], r33_0]) rfl Try.call21 (ops2 rfl rfl) (i_DomainsValid_c (m := x22) (d := x31) (Nat.le_trans hB hx.size) (rel0 (Own.rel hr27_0)) (rel0 (Own.rel hr27_1)) (rel0 (Own.rel hr33_0)) hx34) ?_
      rintro _ w36 ⟨rfl, he36⟩
      have h0_0 := RP.ext h0_0 he36
      have h0_1 := RP.ext h0_1 he36
      have h1 := RP.ext h1 he36
      have hb_g3 := Blk.ext hb_g3 he36
      have hr27_0 := Own.ext hr27_0 he36
      have hr27_1 := Own.ext hr27_1 he36
      have hb_g28 := Blk.ext hb_g28 he36
      have hr33_0 := Own.ext hr33_0 he36
      have hx := ext_trans hx he36
      refine L_as (v := .bool x34) rfl rfl ?_
      refine L_nil ?_
      refine W_seq ?_
      refine W_seq ?_
      refine W_region ?_
      refine L_mv (v := .bool x34) rfl rfl ?_
      refine L_mv (v := .bool x17) rfl rfl ?_
      refine L_bneq (b := x34) (c := x17) rfl Try.underlying4 rfl rfl ?_
      refine L_nil ?_
      refine W_cond (b := (x34 != x17)) rfl (fun hc37 => ?_) (fun hc37 => ?_)
      ·
        have hF := (ite_t hc37).symm.trans hF
        refine W_seq ?_
        refine W_region ?_
        refine L_as (v := .bool false) rfl rfl ?_
        refine L_nil ?_
        refine W_ret ?_
        obtain rfl := so hF
        refine ret1 Try.results5 ?_
        exact ⟨rfl, hx⟩
      ·
        have hF := (ite_f hc37).symm.trans hF
        refine W_skip ?_
        refine W_seq ?_
        refine W_seq ?_
        obtain ⟨x38, hx38, hF⟩ := bind_some hF
        obtain ⟨x42, hx42, hF⟩ := bind_some hF
        refine W_drawL 3 [isV (.agg #[r27_0, r27_1]), isV (.agg #[v0_0, v0_1]), isAgg_ B (rModel 3 22 68) x38] Try_mix (by kernel_rfl) (am_cons (mono_V _) (am_cons (mono_V _) (am_cons (mono_agg _ _ _) am_nil))) ?_ (fun f w_ hS hE hT => ?_)
        ·
          refine ops_cons (fun f w_ hS hE hP => ?_) ?_
          ·
            have hx := ext_trans hx hE
            have hr27_0 := Own.ext hr27_0 hE
            have hr27_1 := Own.ext hr27_1 hE
            have hb_g28 := Blk.ext hb_g28 hE
            refine L_lda (cs := [r27_0, r27_1]) rfl Try.isAgg30 Try.sizeOf30 ((hS 7 rfl).trans rfl) (Blk.sub hb_g28 0 2) rfl ?_
            exact L_nil ⟨rfl, (ext_refl _), _, _, rfl, rfl, rfl⟩
          refine ops_cons (fun f w_ hS hE hP => ?_) ?_
          ·
            have hx := ext_trans hx hE
            have h0_0 := RP.ext h0_0 hE
            have h0_1 := RP.ext h0_1 hE
            have hb_g3 := Blk.ext hb_g3 hE
            refine L_lda (cs := [v0_0, v0_1]) rfl Try.isAgg25 Try.sizeOf25 ((hS 2 rfl).trans rfl) (Blk.sub hb_g3 0 2) rfl ?_
            exact L_nil ⟨rfl, (ext_refl _), _, _, rfl, rfl, rfl⟩
          refine ops_cons (fun f w_ hS hE hP => ?_) ?_
          ·
            have hx := ext_trans hx hE
            have h0_0 := RP.ext h0_0 hE
            have h0_1 := RP.ext h0_1 hE
            refine L_call (args := #[.agg #[v0_0, v0_1]]) rfl Try.call13 (ops1 (hP 1 36 rfl rfl)) (l_toModel_c (a := aM) (Nat.le_trans hB hx.size) (rel0 h0_0) (rel0 h0_1) hx38) ?_
            rintro _ w47 ⟨⟨r47_0, r47_1, rfl, hr47_0, hr47_1⟩, he47⟩
            have hr47_0 : Own _ _ w.heap.size B _ _ _ := hr47_0.wide hx.size (Nat.le_refl _)
            have hr47_1 : Own _ _ w.heap.size B _ _ _ := hr47_1.wide hx.size (Nat.le_refl _)
            have h0_0 := RP.ext h0_0 he47
            have h0_1 := RP.ext h0_1 he47
            have hx := ext_trans hx he47
            exact L_nil ⟨rfl, he47, _, _, rfl, rfl, ⟨[r47_0, r47_1], rfl, (rModel_iff.2 ⟨_, _, rfl, (rel0 (Own.rel hr47_0)), (rel0 (Own.rel hr47_1))⟩)⟩⟩
          exact ops_nil
        ·
          have h0_0 := RP.ext h0_0 hE
          have h0_1 := RP.ext h0_1 hE
          have h1 := RP.ext h1 hE
          have hb_g3 := Blk.ext hb_g3 hE
          have hr27_0 := Own.ext hr27_0 hE
          have hr27_1 := Own.ext hr27_1 hE
          have hb_g28 := Blk.ext hb_g28 hE
          have hr33_0 := Own.ext hr33_0 hE
          have hx := ext_trans hx hE
          obtain ⟨cs48, hv48, hr48⟩ := (hT 2 37 rfl rfl)
          obtain ⟨u48_0, u48_1, rfl, hu48_0, hu48_1⟩ := rModel_iff.1 hr48
          refine L_call (args := #[.agg #[r27_0, r27_1], .agg #[u48_0, u48_1]]) rfl Try.call15 (ops2 (hT 0 35 rfl rfl) hv48) (l_eqModel_c (a := x22) (b := x38) (Nat.le_trans hB hx.size) (rel0 (Own.rel hr27_0)) (rel0 (Own.rel hr27_1)) (rel0 hu48_0) (rel0 hu48_1) hx42) ?_
          rintro _ w49 ⟨rfl, he49⟩
          have h1 := RP.ext h1 he49
          have hr27_0 := Own.ext hr27_0 he49
          have hr27_1 := Own.ext hr27_1 he49
          have hr33_0 := Own.ext hr33_0 he49
          have hu48_0 := RP.ext hu48_0 he49
          have hu48_1 := RP.ext hu48_1 he49
          have hx := ext_trans hx he49
          refine L_not_ (b := x42) rfl rfl ?_
          refine L_nil ?_
          refine W_cond (b := (!x42)) rfl (fun hc50 => ?_) (fun hc50 => ?_)
          ·
            have hF := (ite_t hc50).symm.trans hF
            refine W_seq ?_
            refine W_region ?_
            refine L_as (v := .bool false) rfl rfl ?_
            refine L_nil ?_
            refine W_ret ?_
            obtain rfl := so hF
            refine ret1 Try.results5 ?_
            exact ⟨rfl, hx⟩
          ·
            have hF := (ite_f hc50).symm.trans hF
            refine W_skip ?_
            refine W_seq ?_
            refine W_seq ?_
            obtain ⟨x51, hx51, hF⟩ := bind_some hF
            obtain ⟨x54, hx54, hF⟩ := bind_some hF
            refine W_region ?_
            refine L_mv (v := r33_0) rfl ((hS 8 rfl).trans rfl) ?_
            refine L_mv (v := v1) rfl ((hS 1 rfl).trans rfl) ?_
            refine L_call (args := #[v1]) rfl Try.call20 (ops1 rfl) (l_toBoolSS_c (a := aD) (Nat.le_trans hB hx.size) (rel0 h1) hx51) ?_
            rintro r56_0 w56 ⟨⟨_, rfl, hr56_0⟩, he56⟩
            have ap57 := ap_oc hr33_0 hr56_0
            have hr56_0 : Own _ _ w.heap.size B _ _ _ := hr56_0.wide hx.size (Nat.le_refl _)
            have h1 := RP.ext h1 he56
            have hr33_0 := Own.ext hr33_0 he56
            have hx := ext_trans hx he56
            refine L_call (args := #[r33_0, r56_0]) rfl Try.call22 (ops2 rfl rfl) (l_eqBoolSS_c (a := x31) (b := x51) (Nat.le_trans hB hx.size) (rel0 (Own.rel hr33_0)) (rel0 (Own.rel hr56_0)) hx54) ?_
            rintro _ w58 ⟨rfl, he58⟩
            have hr33_0 := Own.ext hr33_0 he58
            have hr56_0 := Own.ext hr56_0 he58
            have hx := ext_trans hx he58
            refine L_not_ (b := x54) rfl rfl ?_
            refine L_nil ?_
            refine W_cond (b := (!x54)) rfl (fun hc59 => ?_) (fun hc59 => ?_)
            ·
              have hF := (ite_t hc59).symm.trans hF
              refine W_seq ?_
              refine W_region ?_
              refine L_as (v := .bool false) rfl rfl ?_
              refine L_nil ?_
              refine W_ret ?_
              obtain rfl := so hF
              refine ret1 Try.results5 ?_
              exact ⟨rfl, hx⟩
            ·
              have hF := (ite_f hc59).symm.trans hF
              refine W_skip ?_
              refine W_seq ?_
              refine W_region ?_
              refine L_as (v := .bool true) rfl rfl ?_
              refine L_nil ?_
              refine W_ret ?_
              obtain rfl := so hF
              refine ret1 Try.results5 ?_
              exact ⟨rfl, hx⟩

end Go.Proofs.Yteojddfaiomfmaa

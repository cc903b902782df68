/- Part of a proof by program: W4. -/
import Derived.Test.YtcjjfneofcpmfaaD1
import Derived.Test.YtcjjfneofcpmfaaW3
namespace Go.Proofs.Ytcjjfneofcpmfaa
open Go Go.E Go.L Go.RowKit
set_option linter.unusedVariables false
set_option linter.unusedSimpArgs false
set_option maxRecDepth 100000

theorem i_Rule_holds_c {r_ : Rule} {vals : List Int} {v0_1 : Value} {v0_2 : Value} {v0_4 : Value} {v1 : Value} {w : World} {B : Nat} (hB : B ≤ w.heap.size) (h0_1 : (RP.slice 3 RP.int).rel B w.heap.size w [v0_1] r_.vars) (h0_2 : (RP.slice 3 RP.int).rel B w.heap.size w [v0_2] r_.coefs) (h0_4 : (RP.slice 23 (RP.slice 3 RP.int)).rel B w.heap.size w [v0_4] r_.rows) (h1 : (RP.slice 3 RP.int).rel B w.heap.size w [v1] vals) {r : Bool} (hF : i_Rule_holds r_ vals = some r) :
    C Try.prog 83 #[.agg #[.int .i64 r_.kind, v0_1, v0_2, .int .i64 r_.bound, v0_4], v1] w fun v w' => (v = .bool r) ∧ Ext w w' := by
  unfold i_Rule_holds at hF
  have hx := ext_refl w
  refine C_enter Try.func83 rfl Try.ntmps83 rfl ?_
  refine W_seq ?_
  refine W_region ?_
  refine L_box (v := .agg #[.int .i64 r_.kind, v0_1, v0_2, .int .i64 r_.bound, v0_4]) (cs := #[.int .i64 r_.kind, v0_1, v0_2, .int .i64 r_.bound, v0_4]) rfl rfl rfl ?_
  intro g5 w6 hn6
  have hge_g5 := hn6.geS hx.size
  have hb_g5 := hn6.blk
  have h0_1 := RP.ext h0_1 hn6.ext
  have h0_2 := RP.ext h0_2 hn6.ext
  have h0_4 := RP.ext h0_4 hn6.ext
  have h1 := RP.ext h1 hn6.ext
  have hx := ext_trans hx hn6.ext
  refine L_box (v := v1) (cs := #[v1]) rfl rfl (cells_one (one_of h1)) ?_
  intro g7 w8 hn8
  have hge_g7 := hn8.geS hx.size
  have hb_g7 := hn8.blk
  have h0_1 := RP.ext h0_1 hn8.ext
  have h0_2 := RP.ext h0_2 hn8.ext
  have h0_4 := RP.ext h0_4 hn8.ext
  have h1 := RP.ext h1 hn8.ext
  have hb_g5 := Blk.ext hb_g5 hn8.ext
  have hx := ext_trans hx hn8.ext
  refine L_as (v := .bool false) rfl rfl ?_
  refine L_nil ?_
  refine W_seq ?_
  refine W_seq ?_
  refine W_region ?_
  refine L_fa (o' := 0) rfl fa_36_0 rfl rfl ?_
  refine L_ld (v := .int .i64 r_.kind) rfl Try.isAgg3 rfl (hb_g5.cell (j := 0) rfl) ?_
  refine L_nil ?_
  refine W_block ?_
  refine W_seq ?_
  refine W_region ?_
  refine L_eql (m := r_.kind) (n := 1) rfl rfl rfl ?_
  refine L_as (v := .bool (r_.kind == 1)) rfl rfl ?_
  refine L_nil ?_
  refine W_cond (b := (r_.kind == 1)) rfl (fun hc9 => ?_) (fun hc9 => ?_)
  ·
    have hF := (ite_t hc9).symm.trans hF
    refine W_seq ?_
    refine W_region ?_
    refine L_as (v := .int .i64 0) rfl rfl ?_
    refine L_nil ?_
    refine W_seq ?_
    refine W_seq ?_
    refine W_region ?_
    refine L_ld (v := v1) rfl Try.isAgg23 rfl (hb_g7.cell (j := 0) rfl) ?_
    refine L_len (v := v1) rfl Try.underlying23 rfl h1 ?_
    refine L_mv (v := .int .i64 0) rfl rfl ?_
    refine L_nil ?_
    have hlen12 := len_le h1
    obtain ⟨j12, hL12, hF⟩ := bind_some hF
    obtain ⟨R12, hR12⟩ : ∃ R : Fr → World → Prop, R = fun f w_ => ∃ sum_11 : Int, j12 = .nx sum_11 ∧ f 2 = .pointer (some ⟨g5, 0, none⟩) ∧ f 5 = .int .i64 sum_11 ∧ (RP.slice 3 RP.int).rel B w.heap.size w_ [v0_1] r_.vars ∧ (RP.slice 3 RP.int).rel B w.heap.size w_ [v0_2] r_.coefs ∧ (RP.slice 23 (RP.slice 3 RP.int)).rel B w.heap.size w_ [v0_4] r_.rows ∧ Blk w_ g5 36 #[.int .i64 r_.kind, v0_1, v0_2, .int .i64 r_.bound, v0_4] ∧ Ext w w_ := ⟨_, rfl⟩
    refine W_join R12 ?_ ?_
    ·
      refine W_block ?_
      obtain ⟨I12, hI12⟩ : ∃ I : Nat → Fr → World → Prop, I = fun n f w_ => ∃ i_10 : Nat, ∃ suf12 : List Int, ∃ sum_11 : Int, n = suf12.length ∧ List.drop i_10 vals = suf12 ∧ i_10 + suf12.length = vals.length ∧ rangeL (i_Rule_holds_b1 r_) suf12 i_10 sum_11 = some j12 ∧ f 2 = .pointer (some ⟨g5, 0, none⟩) ∧ f 5 = .int .i64 sum_11 ∧ f 14 = v1 ∧ f 15 = .int .i64 (vals.length : Int) ∧ f 16 = .int .i64 (i_10 : Int) ∧ (RP.slice 3 RP.int).rel B w.heap.size w_ [v1] vals ∧ (RP.slice 3 RP.int).rel B w.heap.size w_ [v0_1] r_.vars ∧ (RP.slice 3 RP.int).rel B w.heap.size w_ [v0_2] r_.coefs ∧ (RP.slice 23 (RP.slice 3 RP.int)).rel B w.heap.size w_ [v0_4] r_.rows ∧ Blk w_ g5 36 #[.int .i64 r_.kind, v0_1, v0_2, .int .i64 r_.bound, v0_4] ∧ Ext w w_ := ⟨_, rfl⟩
      refine W_loop I12 (n := vals.length) ?_ ?_
      · rw [hI12]; exact ⟨0, vals, 0, rfl, rfl, Nat.zero_add _, hL12, rfl, rfl, rfl, rfl, rfl, h1, h0_1, h0_2, h0_4, hb_g5, hx⟩
      ·
        intro n12 f w_ hI
        rw [hI12] at hI
        obtain ⟨i_10, suf12, sum_11, rfl, hd12, hl12, hL12, sf2, sf5, sf14, sf15, sf16, h1, h0_1, h0_2, h0_4, hb_g5, hx⟩ := hI
        refine W_seq ?_
        refine W_region ?_
        refine L_lss (m := (i_10 : Int)) (n := (vals.length : Int)) rfl sf16 sf15 ?_
        refine L_nil ?_
        refine W_seq ?_
        refine W_cond (b := decide ((i_10 : Int) < (vals.length : Int))) rfl (fun hc13 => ?_) (fun hc13 => ?_)
        ·
          have hlt12 := of_decide_eq_true hc13
          cases suf12 with
          | nil => exact absurd hlt12 (by simp at hl12; omega)
          | cons x_12 rest12 =>
            obtain ⟨o12, hB12, hL12⟩ := range_cons hL12
            rw [i_Rule_holds_b1] at hB12
            have hix12 := drop_idx hd12
            refine W_skip ?_
            refine W_seq ?_
            refine W_block ?_
            refine W_seq ?_
            refine W_region ?_
            refine L_mv (v := .int .i64 (i_10 : Int)) rfl sf16 ?_
            refine L_ix (r := RP.int) rfl Try.underlying23 Try.sizeOf3 sf14 h1 sf16 hix12 ?_
            intro g16 o17 cs17 hr17 hat17
            obtain rfl : _ = [_] := hr17
            refine L_ld (v := .int .i64 x_12) rfl Try.isAgg3 rfl (hat17.cell (j := 0) rfl) ?_
            refine L_as (v := .int .i64 (i_10 : Int)) rfl rfl ?_
            refine L_as (v := .int .i64 x_12) rfl rfl ?_
            refine L_nil ?_
            obtain ⟨x18, hx18, hB12⟩ := bind_some hB12
            refine W_region ?_
            refine L_mv (v := .int .i64 sum_11) rfl sf5 ?_
            refine L_fa (o' := 2) rfl fa_36_2 sf2 rfl ?_
            refine L_ld (v := v0_2) rfl Try.isAgg23 rfl (hb_g5.cell (j := 2) rfl) ?_
            refine L_mv (v := .int .i64 (i_10 : Int)) rfl rfl ?_
            refine L_ix (r := RP.int) rfl Try.underlying23 Try.sizeOf3 rfl h0_2 rfl hx18 ?_
            intro g21 o22 cs22 hr22 hat22
            obtain rfl : _ = [_] := hr22
            refine L_ld (v := .int .i64 x18) rfl Try.isAgg3 rfl (hat22.cell (j := 0) rfl) ?_
            refine L_mv (v := .int .i64 x_12) rfl rfl ?_
            refine L_mul (m := x18) (n := x_12) rfl rfl rfl ?_
            refine L_add (m := sum_11) (n := i64 (x18 * x_12)) rfl rfl rfl ?_
            refine L_as (v := .int .i64 (i64 (sum_11 + (i64 (x18 * x_12))))) rfl rfl ?_
            refine L_nil ?_
            refine W_region ?_
            refine L_add (m := (i_10 : Int)) (n := 1) rfl sf16 rfl ?_
            refine L_mv (v := .int .i64 (i64 ((i_10 : Int) + 1))) rfl rfl ?_
            refine L_nil ?_
            obtain rfl := so hB12
            show ∃ m, m < _ ∧ I12 m _ _
            refine ⟨rest12.length, by simp, ?_⟩
            rw [hI12]
            exact ⟨i_10 + 1, rest12, i64 (sum_11 + (i64 (x18 * x_12))), rfl, drop_next hd12, by simp at hl12; omega, hL12, sf2, rfl, sf14, sf15, (Eq.trans rfl (congrArg (Value.int .i64) (i64_succ (n := vals.length) (by simp at hl12; omega) hlen12))), h1, h0_1, h0_2, h0_4, hb_g5, hx⟩
        ·
          cases suf12 with
          | cons _ _ => exact absurd (of_decide_eq_false hc13) (by simp at hl12; omega)
          | nil =>
            obtain rfl := range_nil hL12
            refine W_exit ?_
            show R12 _ _
            rw [hR12]
            exact ⟨sum_11, rfl, sf2, sf5, h0_1, h0_2, h0_4, hb_g5, hx⟩
    ·
      intro f w_ hR
      rw [hR12] at hR
      obtain ⟨sum_11, rfl, sf2, sf5, h0_1, h0_2, h0_4, hb_g5, hx⟩ := hR
      clear hR12
      refine W_seq ?_
      refine W_region ?_
      refine L_mv (v := .int .i64 sum_11) rfl sf5 ?_
      refine L_fa (o' := 3) rfl fa_36_3 sf2 rfl ?_
      refine L_ld (v := .int .i64 r_.bound) rfl Try.isAgg3 rfl (hb_g5.cell (j := 3) rfl) ?_
      refine L_geq (m := sum_11) (n := r_.bound) rfl rfl rfl ?_
      refine L_as (v := .bool (decide (sum_11 ≥ r_.bound))) rfl rfl ?_
      refine L_nil ?_
      refine W_ret ?_
      obtain rfl := so hF
      refine ret1 Try.results83 ?_
      exact ⟨rfl, hx⟩
  ·
    have hF := (ite_f hc9).symm.trans hF
    refine W_seq ?_
    refine W_region ?_
    refine L_eql (m := r_.kind) (n := 2) rfl rfl rfl ?_
    refine L_as (v := .bool (r_.kind == 2)) rfl rfl ?_
    refine L_nil ?_
    refine W_cond (b := (r_.kind == 2)) rfl (fun hc23 => ?_) (fun hc23 => ?_)
    ·
      have hF := (ite_t hc23).symm.trans hF
      refine W_seq ?_
      refine W_seq ?_
      refine W_region ?_
      refine L_ld (v := v1) rfl Try.isAgg23 rfl (hb_g7.cell (j := 0) rfl) ?_
      refine L_len (v := v1) rfl Try.underlying23 rfl h1 ?_
      refine L_mv (v := .int .i64 0) rfl rfl ?_
      refine L_nil ?_
      have hlen25 := len_le h1
      obtain ⟨j25, hL25, hF⟩ := bind_some hF
      obtain ⟨R25, hR25⟩ : ∃ R : Fr → World → Prop, R = fun f w_ => j25 = .nx () ∧ Ext w w_ := ⟨_, rfl⟩
      refine W_join R25 ?_ ?_
      ·
        refine W_block ?_
        obtain ⟨I25, hI25⟩ : ∃ I : Nat → Fr → World → Prop, I = fun n f w_ => ∃ i_24 : Nat, ∃ suf25 : List Int, n = suf25.length ∧ List.drop i_24 vals = suf25 ∧ i_24 + suf25.length = vals.length ∧ rangeL (i_Rule_holds_b2 vals) suf25 i_24 () = some j25 ∧ f 3 = .pointer (some ⟨g7, 0, none⟩) ∧ f 37 = v1 ∧ f 38 = .int .i64 (vals.length : Int) ∧ f 39 = .int .i64 (i_24 : Int) ∧ (RP.slice 3 RP.int).rel B w.heap.size w_ [v1] vals ∧ Blk w_ g7 23 #[v1] ∧ Ext w w_ := ⟨_, rfl⟩
        refine W_loop I25 (n := vals.length) ?_ ?_
        · rw [hI25]; exact ⟨0, vals, rfl, rfl, Nat.zero_add _, hL25, rfl, rfl, rfl, rfl, h1, hb_g7, hx⟩
        ·
          intro n25 f w_ hI
          rw [hI25] at hI
          obtain ⟨i_24, suf25, rfl, hd25, hl25, hL25, sf3, sf37, sf38, sf39, h1, hb_g7, hx⟩ := hI
          refine W_seq ?_
          refine W_region ?_
          refine L_lss (m := (i_24 : Int)) (n := (vals.length : Int)) rfl sf39 sf38 ?_
          refine L_nil ?_
          refine W_seq ?_
          refine W_cond (b := decide ((i_24 : Int) < (vals.length : Int))) rfl (fun hc26 => ?_) (fun hc26 => ?_)
          ·
            have hlt25 := of_decide_eq_true hc26
            cases suf25 with
            | nil => exact absurd hlt25 (by simp at hl25; omega)
            | cons x_25 rest25 =>
              obtain ⟨o25, hB25, hL25⟩ := range_cons hL25
              rw [i_Rule_holds_b2] at hB25
              have hix25 := drop_idx hd25
              refine W_skip ?_
              refine W_seq ?_
              refine W_block ?_
              refine W_seq ?_
              refine W_region ?_
              refine L_mv (v := .int .i64 (i_24 : Int)) rfl sf39 ?_
              refine L_ix (r := RP.int) rfl Try.underlying23 Try.sizeOf3 sf37 h1 sf39 hix25 ?_
              intro g29 o30 cs30 hr30 hat30
              obtain rfl : _ = [_] := hr30
              refine L_ld (v := .int .i64 x_25) rfl Try.isAgg3 rfl (hat30.cell (j := 0) rfl) ?_
              refine L_as (v := .int .i64 (i_24 : Int)) rfl rfl ?_
              refine L_as (v := .int .i64 x_25) rfl rfl ?_
              refine L_nil ?_
              refine W_seq ?_
              obtain ⟨x31, hx31, hB25⟩ := bind_some hB25
              obtain ⟨x33, hx33, hB25⟩ := bind_some hB25
              refine W_region ?_
              refine L_ld (v := v1) rfl Try.isAgg23 sf3 (hb_g7.cell (j := 0) rfl) ?_
              refine L_mv (v := .int .i64 (i_24 : Int)) rfl rfl ?_
              refine L_sl (a := 0) (b := (i_24 : Int)) rfl et_23 rfl h1 rfl rfl hx31 ?_
              intro v35 hs35
              refine L_mv (v := .int .i64 x_25) rfl rfl ?_
              refine L_call (args := #[v35, .int .i64 x_25]) rfl Try.call87 (ops2 rfl rfl) (slices_Contains_int_c (s := x31) (v_ := x_25) (Nat.le_trans hB hx.size) (rel0 hs35) hx33) ?_
              rintro _ w36 ⟨rfl, he36⟩
              have h1 := RP.ext h1 he36
              have hb_g7 := Blk.ext hb_g7 he36
              have hs35 := RP.ext hs35 he36
              have hx := ext_trans hx he36
              refine L_nil ?_
              refine W_cond (b := x33) rfl (fun hc37 => ?_) (fun hc37 => ?_)
              ·
                have hB25 := (ite_t hc37).symm.trans hB25
                refine W_seq ?_
                refine W_region ?_
                refine L_as (v := .bool false) rfl rfl ?_
                refine L_nil ?_
                refine W_ret ?_
                obtain rfl := so hB25
                obtain rfl := so hL25
                obtain rfl := so hF
                refine ret1 Try.results83 ?_
                exact ⟨rfl, hx⟩
              ·
                have hB25 := (ite_f hc37).symm.trans hB25
                refine W_skip ?_
                refine W_region ?_
                refine L_add (m := (i_24 : Int)) (n := 1) rfl sf39 rfl ?_
                refine L_mv (v := .int .i64 (i64 ((i_24 : Int) + 1))) rfl rfl ?_
                refine L_nil ?_
                obtain rfl := so hB25
                show ∃ m, m < _ ∧ I25 m _ _
                refine ⟨rest25.length, by simp, ?_⟩
                rw [hI25]
                exact ⟨i_24 + 1, rest25, rfl, drop_next hd25, by simp at hl25; omega, hL25, sf3, sf37, sf38, (Eq.trans rfl (congrArg (Value.int .i64) (i64_succ (n := vals.length) (by simp at hl25; omega) hlen25))), h1, hb_g7, hx⟩
          ·
            cases suf25 with
            | cons _ _ => exact absurd (of_decide_eq_false hc26) (by simp at hl25; omega)
            | nil =>
              obtain rfl := range_nil hL25
              refine W_exit ?_
              show R25 _ _
              rw [hR25]
              exact ⟨rfl, hx⟩
      ·
        intro f w_ hR
        rw [hR25] at hR
        obtain ⟨rfl, hx⟩ := hR
        clear hR25
        refine W_seq ?_
        refine W_region ?_
        refine L_as (v := .bool true) rfl rfl ?_
        refine L_nil ?_
        refine W_ret ?_
        obtain rfl := so hF
        refine ret1 Try.results83 ?_
        exact ⟨rfl, hx⟩
    ·
      have hF := (ite_f hc23).symm.trans hF
      refine W_seq ?_
      refine W_region ?_
      refine L_eql (m := r_.kind) (n := 3) rfl rfl rfl ?_
      refine L_as (v := .bool (r_.kind == 3)) rfl rfl ?_
      refine L_nil ?_
      refine W_cond (b := (r_.kind == 3)) rfl (fun hc38 => ?_) (fun hc38 => ?_)
      ·
        have hF := (ite_t hc38).symm.trans hF
        refine W_seq ?_
        obtain ⟨x39, hx39, hF⟩ := bind_some hF
        refine W_region ?_
        refine L_fa (o' := 4) rfl fa_36_4 rfl rfl ?_
        refine L_ld (v := v0_4) rfl Try.isAgg34 rfl (hb_g5.cell (j := 4) rfl) ?_
        refine L_mf rfl (ops1 rfl) ?_
        have hf41 : Fun1 Try.prog B (RP.slice 3 RP.int) false Value.bool (i_Rule_holds_1 vals) (.func (.func 101) #[] #[.pointer (some ⟨g7, 0, none⟩)]) w8 := by
          refine ⟨_, _, rfl, Try.call101, fun w_ hE_ cs_ x_ y_ args_ hr_ hy_ ha_ => ?_⟩
          obtain ⟨p0, rfl, hp0⟩ := slice1 hr_
          obtain rfl := args_of (b := #[p0, .pointer (some ⟨g7, 0, none⟩)]) ha_
          exact i_Rule_holds_1_c (c1 := vals) (row := x_) (Nat.le_trans hB (ext_trans hx hE_).size) hp0 (At.ext (Blk.at hb_g7) hE_) (rel0 (RP.ext h1 hE_)) hy_
        refine L_call (args := #[v0_4, .func (.func 101) #[] #[.pointer (some ⟨g7, 0, none⟩)]]) rfl Try.call90 (ops2 rfl rfl) (slices_ContainsFunc_Sint_c (s := r_.rows) (f_ := (i_Rule_holds_1 vals)) (Nat.le_trans hB hx.size) (rel0 h0_4) hf41 hx39) ?_
        rintro _ w42 ⟨rfl, he42⟩
        have h0_4 := RP.ext h0_4 he42
        have h1 := RP.ext h1 he42
        have hb_g7 := Blk.ext hb_g7 he42
        have hx := ext_trans hx he42
        refine L_as (v := .bool x39) rfl rfl ?_
        refine L_nil ?_
        refine W_ret ?_
        obtain rfl := so hF
        refine ret1 Try.results83 ?_
        exact ⟨rfl, hx⟩
      ·
        have hF := (ite_f hc38).symm.trans hF
        refine W_skip ?_
        refine W_seq ?_
        obtain ⟨x43, hx43, hF⟩ := bind_some hF
        obtain ⟨x46, hx46, hF⟩ := bind_some hF
        refine W_drawL 6 [isV (v1), isEl B RP.int x43 0, isV (.int .i64 x43), isV (v1), isEl B RP.int x46 0, isV (.int .i64 x46)] Try_mix (by kernel_rfl) (am_cons (mono_V _) (am_cons (mono_el _ _ _ _) (am_cons (mono_V _) (am_cons (mono_V _) (am_cons (mono_el _ _ _ _) (am_cons (mono_V _) am_nil)))))) ?_ (fun f w_ hS49 hE49 hT49 => ?_)
        ·
          refine ops_cons (fun f w_ hS49 hE49 hP49 => ?_) ?_
          ·
            have hx := ext_trans hx hE49
            have h1 := RP.ext h1 hE49
            have hb_g7 := Blk.ext hb_g7 hE49
            refine L_ld (v := v1) rfl Try.isAgg23 ((hS49 3 rfl).trans rfl) (hb_g7.cell (j := 0) rfl) ?_
            exact L_nil ⟨rfl, (ext_refl _), _, _, rfl, rfl, rfl⟩
          refine ops_cons (fun f w_ hS49 hE49 hP49 => ?_) ?_
          ·
            have hx := ext_trans hx hE49
            have h1 := RP.ext h1 hE49
            refine L_ix (r := RP.int) rfl Try.underlying23 Try.sizeOf3 (hP49 0 56 rfl rfl) h1 rfl hx43 ?_
            intro g54 o55 cs55 hr55 hat55
            obtain rfl : _ = [_] := hr55
            exact L_nil ⟨rfl, (ext_refl _), _, _, rfl, rfl, ⟨_, _, _, rfl, rfl, hat55⟩⟩
          refine ops_cons (fun f w_ hS49 hE49 hP49 => ?_) ?_
          ·
            have hx := ext_trans hx hE49
            obtain ⟨g56, o56, cs56, hv56, hr56, hat56⟩ := (hP49 1 57 rfl rfl)
            obtain rfl : _ = [_] := hr56
            refine L_ld (v := .int .i64 x43) rfl Try.isAgg3 hv56 (hat56.cell (j := 0) rfl) ?_
            exact L_nil ⟨rfl, (ext_refl _), _, _, rfl, rfl, rfl⟩
          refine ops_cons (fun f w_ hS49 hE49 hP49 => ?_) ?_
          ·
            have hx := ext_trans hx hE49
            have h1 := RP.ext h1 hE49
            have hb_g7 := Blk.ext hb_g7 hE49
            refine L_ld (v := v1) rfl Try.isAgg23 ((hS49 3 rfl).trans rfl) (hb_g7.cell (j := 0) rfl) ?_
            exact L_nil ⟨rfl, (ext_refl _), _, _, rfl, rfl, rfl⟩
          refine ops_cons (fun f w_ hS49 hE49 hP49 => ?_) ?_
          ·
            have hx := ext_trans hx hE49
            have h1 := RP.ext h1 hE49
            refine L_ix (r := RP.int) rfl Try.underlying23 Try.sizeOf3 (hP49 3 59 rfl rfl) h1 rfl hx46 ?_
            intro g57 o58 cs58 hr58 hat58
            obtain rfl : _ = [_] := hr58
            exact L_nil ⟨rfl, (ext_refl _), _, _, rfl, rfl, ⟨_, _, _, rfl, rfl, hat58⟩⟩
          refine ops_cons (fun f w_ hS49 hE49 hP49 => ?_) ?_
          ·
            have hx := ext_trans hx hE49
            obtain ⟨g59, o59, cs59, hv59, hr59, hat59⟩ := (hP49 4 60 rfl rfl)
            obtain rfl : _ = [_] := hr59
            refine L_ld (v := .int .i64 x46) rfl Try.isAgg3 hv59 (hat59.cell (j := 0) rfl) ?_
            exact L_nil ⟨rfl, (ext_refl _), _, _, rfl, rfl, rfl⟩
          exact ops_nil
        ·
          have h0_1 := RP.ext h0_1 hE49
          have h0_2 := RP.ext h0_2 hE49
          have h0_4 := RP.ext h0_4 hE49
          have h1 := RP.ext h1 hE49
          have hb_g5 := Blk.ext hb_g5 hE49
          have hb_g7 := Blk.ext hb_g7 hE49
          have hx := ext_trans hx hE49
          refine L_lss (m := x43) (n := x46) rfl (hT49 2 58 rfl rfl) (hT49 5 61 rfl rfl) ?_
          refine L_as (v := .bool (decide (x43 < x46))) rfl rfl ?_
          refine L_nil ?_
          refine W_ret ?_
          obtain rfl := so hF
          refine ret1 Try.results83 ?_
          exact ⟨rfl, hx⟩

theorem i_Rule_at_c {r_ : Rule} {cells : List Int} {v0_1 : Value} {v0_2 : Value} {v0_4 : Value} {v1 : Value} {w : World} {B : Nat} (hB : B ≤ w.heap.size) (h0_1 : (RP.slice 3 RP.int).rel B w.heap.size w [v0_1] r_.vars) (h0_2 : (RP.slice 3 RP.int).rel B w.heap.size w [v0_2] r_.coefs) (h0_4 : (RP.slice 23 (RP.slice 3 RP.int)).rel B w.heap.size w [v0_4] r_.rows) (h1 : (RP.slice 3 RP.int).rel B w.heap.size w [v1] cells) {r : Bool} (hF : i_Rule_at r_ cells = some r) :
    C Try.prog 56 #[.agg #[.int .i64 r_.kind, v0_1, v0_2, .int .i64 r_.bound, v0_4], v1] w fun v w' => (v = .bool r) ∧ Ext w w' := by
  unfold i_Rule_at at hF
  have hx := ext_refl w
  refine C_enter Try.func56 rfl Try.ntmps56 rfl ?_
  refine W_seq ?_
  refine W_region ?_
  refine L_box (v := .agg #[.int .i64 r_.kind, v0_1, v0_2, .int .i64 r_.bound, v0_4]) (cs := #[.int .i64 r_.kind, v0_1, v0_2, .int .i64 r_.bound, v0_4]) rfl rfl rfl ?_
  intro g3 w4 hn4
  have hge_g3 := hn4.geS hx.size
  have hb_g3 := hn4.blk
  have h0_1 := RP.ext h0_1 hn4.ext
  have h0_2 := RP.ext h0_2 hn4.ext
  have h0_4 := RP.ext h0_4 hn4.ext
  have h1 := RP.ext h1 hn4.ext
  have hx := ext_trans hx hn4.ext
  refine L_as (v := .bool false) rfl rfl ?_
  refine L_nil ?_
  refine W_seq ?_
  refine W_region ?_
  refine L_as (v := (.slice none 0 0)) rfl rfl ?_
  refine L_nil ?_
  refine W_seq ?_
  refine W_seq ?_
  refine W_region ?_
  refine L_fa (o' := 1) rfl fa_36_1 rfl rfl ?_
  refine L_ld (v := v0_1) rfl Try.isAgg23 rfl (hb_g3.cell (j := 1) rfl) ?_
  refine L_len (v := v0_1) rfl Try.underlying23 rfl h0_1 ?_
  refine L_mv (v := .int .i64 0) rfl rfl ?_
  refine L_nil ?_
  have hlen7 := len_le h0_1
  obtain ⟨j7, hL7, hF⟩ := bind_some hF
  obtain ⟨R7, hR7⟩ : ∃ R : Fr → World → Prop, R = fun f w_ => ∃ vals_6 : List Int, ∃ v6_vals : Value, j7 = .nx vals_6 ∧ f 2 = .pointer (some ⟨g3, 0, none⟩) ∧ f 5 = v6_vals ∧ Own RP.int 3 w.heap.size B w_ v6_vals vals_6 ∧ (RP.slice 3 RP.int).rel B w.heap.size w_ [v0_1] r_.vars ∧ (RP.slice 3 RP.int).rel B w.heap.size w_ [v0_2] r_.coefs ∧ (RP.slice 23 (RP.slice 3 RP.int)).rel B w.heap.size w_ [v0_4] r_.rows ∧ Blk w_ g3 36 #[.int .i64 r_.kind, v0_1, v0_2, .int .i64 r_.bound, v0_4] ∧ Ext w w_ := ⟨_, rfl⟩
  refine W_join R7 ?_ ?_
  ·
    refine W_block ?_
    obtain ⟨I7, hI7⟩ : ∃ I : Nat → Fr → World → Prop, I = fun n f w_ => ∃ i_5 : Nat, ∃ suf7 : List Int, ∃ vals_6 : List Int, ∃ v6_vals : Value, n = suf7.length ∧ List.drop i_5 r_.vars = suf7 ∧ i_5 + suf7.length = r_.vars.length ∧ rangeL (i_Rule_at_b1 cells) suf7 i_5 vals_6 = some j7 ∧ f 1 = v1 ∧ f 2 = .pointer (some ⟨g3, 0, none⟩) ∧ f 5 = v6_vals ∧ f 9 = v0_1 ∧ f 10 = .int .i64 (r_.vars.length : Int) ∧ f 11 = .int .i64 (i_5 : Int) ∧ (RP.slice 3 RP.int).rel B w.heap.size w_ [v1] cells ∧ Own RP.int 3 w.heap.size B w_ v6_vals vals_6 ∧ (RP.slice 3 RP.int).rel B w.heap.size w_ [v0_1] r_.vars ∧ (RP.slice 3 RP.int).rel B w.heap.size w_ [v0_2] r_.coefs ∧ (RP.slice 23 (RP.slice 3 RP.int)).rel B w.heap.size w_ [v0_4] r_.rows ∧ Blk w_ g3 36 #[.int .i64 r_.kind, v0_1, v0_2, .int .i64 r_.bound, v0_4] ∧ Ext w w_ := ⟨_, rfl⟩
    refine W_loop I7 (n := r_.vars.length) ?_ ?_
    · rw [hI7]; exact ⟨0, r_.vars, [], (.slice none 0 0), rfl, rfl, Nat.zero_add _, hL7, rfl, rfl, rfl, rfl, rfl, rfl, h1, (Own.nil _ _ _ _ _), h0_1, h0_2, h0_4, hb_g3, hx⟩
    ·
      intro n7 f w_ hI
      rw [hI7] at hI
      obtain ⟨i_5, suf7, vals_6, v6_vals, rfl, hd7, hl7, hL7, sf1, sf2, sf5, sf9, sf10, sf11, h1, hv6_vals, h0_1, h0_2, h0_4, hb_g3, hx⟩ := hI
      refine W_seq ?_
      refine W_region ?_
      refine L_lss (m := (i_5 : Int)) (n := (r_.vars.length : Int)) rfl sf11 sf10 ?_
      refine L_nil ?_
      refine W_seq ?_
      refine W_cond (b := decide ((i_5 : Int) < (r_.vars.length : Int))) rfl (fun hc8 => ?_) (fun hc8 => ?_)
      ·
        have hlt7 := of_decide_eq_true hc8
        cases suf7 with
        | nil => exact absurd hlt7 (by simp at hl7; omega)
        | cons x_7 rest7 =>
          obtain ⟨o7, hB7, hL7⟩ := range_cons hL7
          rw [i_Rule_at_b1] at hB7
          have hix7 := drop_idx hd7
          refine W_skip ?_
          refine W_seq ?_
          refine W_block ?_
          refine W_seq ?_
          refine W_region ?_
          refine L_ix (r := RP.int) rfl Try.underlying23 Try.sizeOf3 sf9 h0_1 sf11 hix7 ?_
          intro g11 o12 cs12 hr12 hat12
          obtain rfl : _ = [_] := hr12
          refine L_ld (v := .int .i64 x_7) rfl Try.isAgg3 rfl (hat12.cell (j := 0) rfl) ?_
          refine L_as (v := .int .i64 x_7) rfl rfl ?_
          refine L_nil ?_
          obtain ⟨x13, hx13, hB7⟩ := bind_some hB7
          obtain ⟨x19, hx19, hB7⟩ := bind_some hB7
          refine W_region ?_
          refine L_mv (v := v6_vals) rfl sf5 ?_
          refine L_mv (v := v1) rfl sf1 ?_
          refine L_mv (v := .int .i64 x_7) rfl rfl ?_
          refine L_ix (r := RP.int) rfl Try.underlying23 Try.sizeOf3 rfl h1 rfl hx13 ?_
          intro g22 o23 cs23 hr23 hat23
          obtain rfl : _ = [_] := hr23
          refine L_ld (v := .int .i64 x13) rfl Try.isAgg3 rfl (hat23.cell (j := 0) rfl) ?_
          refine L_bs rfl (parts1 rfl) (bs_23_1_0 (.int .i64 x13) rfl) ?_
          intro g24 w25 hn25
          have ho25 : Own RP.int 3 w.heap.size B w25 _ [x13] := own_new1 hn25 hx.size rfl
          have ap26 := ap_ob hv6_vals hn25
          have h1 := RP.ext h1 hn25.ext
          have hv6_vals := Own.ext hv6_vals hn25.ext
          have h0_1 := RP.ext h0_1 hn25.ext
          have h0_2 := RP.ext h0_2 hn25.ext
          have h0_4 := RP.ext h0_4 hn25.ext
          have hb_g3 := Blk.ext hb_g3 hn25.ext
          have hx := ext_trans hx hn25.ext
          refine L_app (v := v6_vals) (u := (.slice (some ⟨g24, 0, none⟩) 1 1)) rfl et_23 (by decide) rfl rfl hv6_vals (rel0 (Own.rel ho25)) hx19 hx.size hB ?_
          intro v27 w27 ho27 hm27 hb27
          have h1 := hm27.rel_lo h1 (Nat.le_refl _)
          have h0_1 := hm27.rel_lo h0_1 (Nat.le_refl _)
          have h0_2 := hm27.rel_lo h0_2 (Nat.le_refl _)
          have h0_4 := hm27.rel_lo h0_4 (Nat.le_refl _)
          have hb_g3 := hm27.blk hb_g3 (by decide)
          have hx := ext_mut hx hm27 (Nat.le_refl _)
          refine L_as (v := v27) rfl rfl ?_
          refine L_nil ?_
          refine W_region ?_
          refine L_add (m := (i_5 : Int)) (n := 1) rfl sf11 rfl ?_
          refine L_mv (v := .int .i64 (i64 ((i_5 : Int) + 1))) rfl rfl ?_
          refine L_nil ?_
          obtain rfl := so hB7
          show ∃ m, m < _ ∧ I7 m _ _
          refine ⟨rest7.length, by simp, ?_⟩
          rw [hI7]
          exact ⟨i_5 + 1, rest7, x19, v27, rfl, drop_next hd7, by simp at hl7; omega, hL7, sf1, sf2, rfl, sf9, sf10, (Eq.trans rfl (congrArg (Value.int .i64) (i64_succ (n := r_.vars.length) (by simp at hl7; omega) hlen7))), h1, ho27, h0_1, h0_2, h0_4, hb_g3, hx⟩
      ·
        cases suf7 with
        | cons _ _ => exact absurd (of_decide_eq_false hc8) (by simp at hl7; omega)
        | nil =>
          obtain rfl := range_nil hL7
          refine W_exit ?_
          show R7 _ _
          rw [hR7]
          exact ⟨vals_6, v6_vals, rfl, sf2, sf5, hv6_vals, h0_1, h0_2, h0_4, hb_g3, hx⟩
  ·
    intro f w_ hR
    rw [hR7] at hR
    obtain ⟨vals_6, v6_vals, rfl, sf2, sf5, hv6_vals, h0_1, h0_2, h0_4, hb_g3, hx⟩ := hR
    clear hR7
    refine W_seq ?_
    obtain ⟨x28, hx28, hF⟩ := bind_some hF
    refine W_region ?_
    refine L_lda (cs := [.int .i64 r_.kind, v0_1, v0_2, .int .i64 r_.bound, v0_4]) rfl Try.isAgg36 Try.sizeOf36 sf2 (Blk.sub hb_g3 0 5) rfl ?_
    refine L_mv (v := v6_vals) rfl sf5 ?_
    refine L_call (args := #[.agg #[.int .i64 r_.kind, v0_1, v0_2, .int .i64 r_.bound, v0_4], v6_vals]) rfl Try.call83 (ops2 rfl rfl) (i_Rule_holds_c (r_ := r_) (vals := vals_6) (Nat.le_trans hB hx.size) (rel0 h0_1) (rel0 h0_2) (rel0 h0_4) (rel0 (Own.rel hv6_vals)) hx28) ?_
    rintro _ w30 ⟨rfl, he30⟩
    have hv6_vals := Own.ext hv6_vals he30
    have h0_1 := RP.ext h0_1 he30
    have h0_2 := RP.ext h0_2 he30
    have h0_4 := RP.ext h0_4 he30
    have hx := ext_trans hx he30
    refine L_as (v := .bool x28) rfl rfl ?_
    refine L_nil ?_
    refine W_ret ?_
    obtain rfl := so hF
    refine ret1 Try.results56 ?_
    exact ⟨rfl, hx⟩

theorem i_RuleHolds_c {m : Model} {rule : Int} {cells : List Int} {v0_0 : Value} {v0_1 : Value} {v2 : Value} {w : World} {B : Nat} (hB : B ≤ w.heap.size) (h0_0 : (RP.slice 3 RP.int).rel B w.heap.size w [v0_0] m.sizes) (h0_1 : (RP.slice 36 (rRule 3 23)).rel B w.heap.size w [v0_1] m.rules) (h2 : (RP.slice 3 RP.int).rel B w.heap.size w [v2] cells) {r : Bool} (hF : i_RuleHolds m rule cells = some r) :
    C Try.prog 18 #[.agg #[v0_0, v0_1], .int .i64 rule, v2] w fun v w' => (v = .bool r) ∧ Ext w w' := by
  unfold i_RuleHolds at hF
  have hx := ext_refl w
  refine C_enter Try.func18 rfl Try.ntmps18 rfl ?_
  refine W_seq ?_
  refine W_region ?_
  refine L_box (v := .agg #[v0_0, v0_1]) (cs := #[v0_0, v0_1]) rfl rfl rfl ?_
  intro g3 w4 hn4
  have hge_g3 := hn4.geS hx.size
  have hb_g3 := hn4.blk
  have h0_0 := RP.ext h0_0 hn4.ext
  have h0_1 := RP.ext h0_1 hn4.ext
  have h2 := RP.ext h2 hn4.ext
  have hx := ext_trans hx hn4.ext
  refine L_as (v := .bool false) rfl rfl ?_
  refine L_nil ?_
  refine W_seq ?_
  obtain ⟨x5, hx5, hF⟩ := bind_some hF
  obtain ⟨b9, hb9, hF⟩ := bind_some hF
  obtain ⟨b15, hb15, hF⟩ := bind_some hF
  obtain ⟨R16, hR16⟩ : ∃ R : Fr → World → Prop, R = fun f w_ => f 6 = .bool b15 ∧ Ext w w_ := ⟨_, rfl⟩
  refine W_join R16 ?_ ?_
  ·
    refine W_region ?_
    refine L_lda (cs := [v0_0, v0_1]) rfl Try.isAgg26 Try.sizeOf26 rfl (Blk.sub hb_g3 0 2) rfl ?_
    refine L_mv (v := v2) rfl rfl ?_
    refine L_call (args := #[.agg #[v0_0, v0_1], v2]) rfl Try.call20 (ops2 rfl rfl) (i_CellsValid_c (m := m) (cells := cells) (Nat.le_trans hB hx.size) (rel0 h0_0) (rel0 h0_1) (rel0 h2) hx5) ?_
    rintro _ w17 ⟨rfl, he17⟩
    have h0_0 := RP.ext h0_0 he17
    have h0_1 := RP.ext h0_1 he17
    have h2 := RP.ext h2 he17
    have hb_g3 := Blk.ext hb_g3 he17
    have hx := ext_trans hx he17
    refine L_mv (v := .bool x5) rfl rfl ?_
    refine L_split (d := 10) (b := x5) rfl (fun hc18 => ?_) (fun hc18 => ?_)
    ·
      rw [ite_t hc18] at hb9
      obtain ⟨x7, hx7, hb9⟩ := bind_some hb9
      refine L_lda (cs := [v0_0, v0_1]) rfl Try.isAgg26 Try.sizeOf26 rfl (Blk.sub hb_g3 0 2) rfl ?_
      refine L_mv (v := .int .i64 rule) rfl rfl ?_
      refine L_call (args := #[.agg #[v0_0, v0_1], .int .i64 rule]) rfl Try.call55 (ops2 rfl rfl) (i_isRule_c (m := m) (rule := rule) (Nat.le_trans hB hx.size) (rel0 h0_0) (rel0 h0_1) hx7) ?_
      rintro _ w19 ⟨rfl, he19⟩
      have h0_0 := RP.ext h0_0 he19
      have h0_1 := RP.ext h0_1 he19
      have h2 := RP.ext h2 he19
      have hb_g3 := Blk.ext hb_g3 he19
      have hx := ext_trans hx he19
      refine L_pick (v := .bool b9) rfl rfl (congrArg Value.bool (so hb9)) ?_
      refine L_mv (v := .bool b9) rfl rfl ?_
      refine L_split (d := 15) (b := b9) rfl (fun hc20 => ?_) (fun hc20 => ?_)
      ·
        rw [ite_t hc20] at hb15
        obtain ⟨x10, hx10, hb15⟩ := bind_some hb15
        obtain ⟨x13, hx13, hb15⟩ := bind_some hb15
        refine L_fa (o' := 1) rfl fa_26_1 rfl rfl ?_
        refine L_ld (v := v0_1) rfl Try.isAgg24 rfl (hb_g3.cell (j := 1) rfl) ?_
        refine L_mv (v := .int .i64 rule) rfl rfl ?_
        refine L_ix (r := (rRule 3 23)) rfl Try.underlying24 Try.sizeOf36 rfl h0_1 rfl hx10 ?_
        intro g21 o22 cs22 hr22 hat22
        obtain ⟨u22_0, u22_1, u22_2, rfl, hu22_0, hu22_1, hu22_2⟩ := rRule_iff.1 hr22
        refine L_lda (cs := [.int .i64 x10.kind, u22_0, u22_1, .int .i64 x10.bound, u22_2]) rfl Try.isAgg36 Try.sizeOf36 rfl (At.sub hat22 0 5) rfl ?_
        refine L_mv (v := v2) rfl rfl ?_
        refine L_call (args := #[.agg #[.int .i64 x10.kind, u22_0, u22_1, .int .i64 x10.bound, u22_2], v2]) rfl Try.call56 (ops2 rfl rfl) (i_Rule_at_c (r_ := x10) (cells := cells) (Nat.le_trans hB hx.size) (rel0 hu22_0) (rel0 hu22_1) (rel0 hu22_2) (rel0 h2) hx13) ?_
        rintro _ w23 ⟨rfl, he23⟩
        have h2 := RP.ext h2 he23
        have hu22_0 := RP.ext hu22_0 he23
        have hu22_1 := RP.ext hu22_1 he23
        have hu22_2 := RP.ext hu22_2 he23
        have hx := ext_trans hx he23
        refine L_pick (v := .bool b15) rfl rfl (congrArg Value.bool (so hb15)) ?_
        refine L_as (v := .bool b15) rfl rfl ?_
        refine L_nil ?_
        show R16 _ _
        rw [hR16]
        exact ⟨rfl, hx⟩
      ·
        rw [ite_f hc20] at hb15
        refine L_pass rfl ?_
        refine L_pass rfl ?_
        refine L_pass rfl ?_
        refine L_pass rfl ?_
        refine L_pass rfl ?_
        refine L_pass rfl ?_
        refine L_pass rfl ?_
        refine L_pick (v := .bool b15) rfl rfl (congrArg Value.bool (so hb15)) ?_
        refine L_as (v := .bool b15) rfl rfl ?_
        refine L_nil ?_
        show R16 _ _
        rw [hR16]
        exact ⟨rfl, hx⟩
    ·
      rw [ite_f hc18] at hb9
      refine L_pass rfl ?_
      refine L_pass rfl ?_
      refine L_pass rfl ?_
      refine L_pick (v := .bool b9) rfl rfl (congrArg Value.bool (so hb9)) ?_
      refine L_mv (v := .bool b9) rfl rfl ?_
      refine L_split (d := 15) (b := b9) rfl (fun hc24 => ?_) (fun hc24 => ?_)
      ·
        rw [ite_t hc24] at hb15
        obtain ⟨x10, hx10, hb15⟩ := bind_some hb15
        obtain ⟨x13, hx13, hb15⟩ := bind_some hb15
        refine L_fa (o' := 1) rfl fa_26_1 rfl rfl ?_
        refine L_ld (v := v0_1) rfl Try.isAgg24 rfl (hb_g3.cell (j := 1) rfl) ?_
        refine L_mv (v := .int .i64 rule) rfl rfl ?_
        refine L_ix (r := (rRule 3 23)) rfl Try.underlying24 Try.sizeOf36 rfl h0_1 rfl hx10 ?_
        intro g25 o26 cs26 hr26 hat26
        obtain ⟨u26_0, u26_1, u26_2, rfl, hu26_0, hu26_1, hu26_2⟩ := rRule_iff.1 hr26
        refine L_lda (cs := [.int .i64 x10.kind, u26_0, u26_1, .int .i64 x10.bound, u26_2]) rfl Try.isAgg36 Try.sizeOf36 rfl (At.sub hat26 0 5) rfl ?_
        refine L_mv (v := v2) rfl rfl ?_
        refine L_call (args := #[.agg #[.int .i64 x10.kind, u26_0, u26_1, .int .i64 x10.bound, u26_2], v2]) rfl Try.call56 (ops2 rfl rfl) (i_Rule_at_c (r_ := x10) (cells := cells) (Nat.le_trans hB hx.size) (rel0 hu26_0) (rel0 hu26_1) (rel0 hu26_2) (rel0 h2) hx13) ?_
        rintro _ w27 ⟨rfl, he27⟩
        have h2 := RP.ext h2 he27
        have hu26_0 := RP.ext hu26_0 he27
        have hu26_1 := RP.ext hu26_1 he27
        have hu26_2 := RP.ext hu26_2 he27
        have hx := ext_trans hx he27
        refine L_pick (v := .bool b15) rfl rfl (congrArg Value.bool (so hb15)) ?_
        refine L_as (v := .bool b15) rfl rfl ?_
        refine L_nil ?_
        show R16 _ _
        rw [hR16]
        exact ⟨rfl, hx⟩
      ·
        rw [ite_f hc24] at hb15
        refine L_pass rfl ?_
        refine L_pass rfl ?_
        refine L_pass rfl ?_
        refine L_pass rfl ?_
        refine L_pass rfl ?_
        refine L_pass rfl ?_
        refine L_pass rfl ?_
        refine L_pick (v := .bool b15) rfl rfl (congrArg Value.bool (so hb15)) ?_
        refine L_as (v := .bool b15) rfl rfl ?_
        refine L_nil ?_
        show R16 _ _
        rw [hR16]
        exact ⟨rfl, hx⟩
  ·
    intro f w_ hR
    rw [hR16] at hR
    obtain ⟨sf6, hx⟩ := hR
    clear hR16
    refine W_ret ?_
    obtain rfl := so hF
    refine ret1 Try.results18 ?_
    exact ⟨sf6, hx⟩

theorem s_l6Cells_c {m : Model} {cells : List Int} {v0_0 : Value} {v0_1 : Value} {v1 : Value} {w : World} {B : Nat} (hB : B ≤ w.heap.size) (h0_0 : (RP.slice 3 RP.int).rel B w.heap.size w [v0_0] m.sizes) (h0_1 : (RP.slice 36 (rRule 3 23)).rel B w.heap.size w [v0_1] m.rules) (h1 : (RP.slice 3 RP.int).rel B w.heap.size w [v1] cells) {r : Bool} (hF : s_l6Cells m cells = some r) :
    C Try.prog 61 #[.agg #[v0_0, v0_1], v1] w fun v w' => (v = .bool r) ∧ Ext w w' := by
  unfold s_l6Cells at hF
  have hx := ext_refl w
  refine C_enter Try.func61 rfl Try.ntmps61 rfl ?_
  refine W_seq ?_
  refine W_region ?_
  refine L_box (v := .agg #[v0_0, v0_1]) (cs := #[v0_0, v0_1]) rfl rfl rfl ?_
  intro g3 w4 hn4
  have hge_g3 := hn4.geS hx.size
  have hb_g3 := hn4.blk
  have h0_0 := RP.ext h0_0 hn4.ext
  have h0_1 := RP.ext h0_1 hn4.ext
  have h1 := RP.ext h1 hn4.ext
  have hx := ext_trans hx hn4.ext
  refine L_as (v := .bool false) rfl rfl ?_
  refine L_nil ?_
  refine W_seq ?_
  refine W_seq ?_
  refine W_region ?_
  refine L_mv (v := v1) rfl rfl ?_
  refine L_len (v := v1) rfl Try.underlying23 rfl h1 ?_
  refine L_fa (o' := 0) rfl fa_26_0 rfl rfl ?_
  refine L_ld (v := v0_0) rfl Try.isAgg23 rfl (hb_g3.cell (j := 0) rfl) ?_
  refine L_len (v := v0_0) rfl Try.underlying23 rfl h0_0 ?_
  refine L_neq (m := (cells.length : Int)) (n := (m.sizes.length : Int)) rfl rfl rfl ?_
  refine L_nil ?_
  refine W_cond (b := ((cells.length : Int) != (m.sizes.length : Int))) rfl (fun hc5 => ?_) (fun hc5 => ?_)
  ·
    have hF := (ite_t hc5).symm.trans hF
    refine W_seq ?_
    refine W_region ?_
    refine L_as (v := .bool false) rfl rfl ?_
    refine L_nil ?_
    refine W_ret ?_
    obtain rfl := so hF
    refine ret1 Try.results61 ?_
    exact ⟨rfl, hx⟩
  ·
    have hF := (ite_f hc5).symm.trans hF
    refine W_skip ?_
    refine W_seq ?_
    refine W_seq ?_
    refine W_region ?_
    refine L_as (v := .int .i64 0) rfl rfl ?_
    refine L_nil ?_
    have hlen7 := len_le h1
    obtain ⟨j7, hL7, hF⟩ := bind_some hF
    obtain ⟨R7, hR7⟩ : ∃ R : Fr → World → Prop, R = fun f w_ => j7 = .nx () ∧ Ext w w_ := ⟨_, rfl⟩
    refine W_join R7 ?_ ?_
    ·
      refine W_block ?_
      obtain ⟨I7, hI7⟩ : ∃ I : Nat → Fr → World → Prop, I = fun n f w_ => ∃ i_6 : Nat, ∃ suf7 : List Int, n = suf7.length ∧ List.drop i_6 cells = suf7 ∧ i_6 + suf7.length = cells.length ∧ rangeL (s_l6Cells_b1 m) suf7 i_6 () = some j7 ∧ f 1 = v1 ∧ f 2 = .pointer (some ⟨g3, 0, none⟩) ∧ f 5 = .int .i64 (i_6 : Int) ∧ (RP.slice 3 RP.int).rel B w.heap.size w_ [v1] cells ∧ (RP.slice 3 RP.int).rel B w.heap.size w_ [v0_0] m.sizes ∧ (RP.slice 36 (rRule 3 23)).rel B w.heap.size w_ [v0_1] m.rules ∧ Blk w_ g3 26 #[v0_0, v0_1] ∧ Ext w w_ := ⟨_, rfl⟩
      refine W_loop I7 (n := cells.length) ?_ ?_
      · rw [hI7]; exact ⟨0, cells, rfl, rfl, Nat.zero_add _, hL7, rfl, rfl, rfl, h1, h0_0, h0_1, hb_g3, hx⟩
      ·
        intro n7 f w_ hI
        rw [hI7] at hI
        obtain ⟨i_6, suf7, rfl, hd7, hl7, hL7, sf1, sf2, sf5, h1, h0_0, h0_1, hb_g3, hx⟩ := hI
        refine W_seq ?_
        refine W_seq ?_
        refine W_region ?_
        refine L_mv (v := .int .i64 (i_6 : Int)) rfl sf5 ?_
        refine L_mv (v := v1) rfl sf1 ?_
        refine L_len (v := v1) rfl Try.underlying23 rfl h1 ?_
        refine L_lss (m := (i_6 : Int)) (n := (cells.length : Int)) rfl rfl rfl ?_
        refine L_nil ?_
        refine W_cond (b := decide ((i_6 : Int) < (cells.length : Int))) rfl (fun hc8 => ?_) (fun hc8 => ?_)
        ·
          have hlt7 := of_decide_eq_true hc8
          cases suf7 with
          | nil => exact absurd hlt7 (by simp at hl7; omega)
          | cons x_7 rest7 =>
            obtain ⟨o7, hB7, hL7⟩ := range_cons hL7
            rw [s_l6Cells_b1] at hB7
            have hix7 := drop_idx hd7
            refine W_skip ?_
            refine W_seq ?_
            refine W_block ?_
            refine W_seq ?_
            obtain ⟨b16, hb16, hB7⟩ := bind_some hB7
            obtain ⟨R18, hR18⟩ : ∃ R : Fr → World → Prop, R = fun f w_ => f 1 = v1 ∧ f 2 = .pointer (some ⟨g3, 0, none⟩) ∧ f 5 = .int .i64 (i_6 : Int) ∧ f 34 = .bool b16 ∧ (RP.slice 3 RP.int).rel B w.heap.size w_ [v1] cells ∧ (RP.slice 3 RP.int).rel B w.heap.size w_ [v0_0] m.sizes ∧ (RP.slice 36 (rRule 3 23)).rel B w.heap.size w_ [v0_1] m.rules ∧ Blk w_ g3 26 #[v0_0, v0_1] ∧ Ext w w_ := ⟨_, rfl⟩
            refine W_join R18 ?_ ?_
            ·
              rcases Bool.eq_false_or_eq_true (decide (x_7 < 0)) with hc19 | hc19
              ·
                rw [ite_t hc19] at hb16
                refine W_drawL 15 [isV (v1), isV (.int .i64 (i_6 : Int)), isEl B RP.int x_7 0, isV (.int .i64 x_7), isV (.bool (decide (x_7 < 0))), isV (.bool (decide (x_7 < 0))), isV (undef), isV (undef), isV (undef), isV (undef), isV (undef), isV (undef), isV (undef), isV (undef), isV (undef)] Try_mix (by kernel_rfl) (am_cons (mono_V _) (am_cons (mono_V _) (am_cons (mono_el _ _ _ _) (am_cons (mono_V _) (am_cons (mono_V _) (am_cons (mono_V _) (am_cons (mono_V _) (am_cons (mono_V _) (am_cons (mono_V _) (am_cons (mono_V _) (am_cons (mono_V _) (am_cons (mono_V _) (am_cons (mono_V _) (am_cons (mono_V _) (am_cons (mono_V _) am_nil))))))))))))))) ?_ (fun f w_ hS17 hE17 hT17 => ?_)
                ·
                  refine ops_cons (fun f w_ hS17 hE17 hP17 => ?_) ?_
                  ·
                    have hx := ext_trans hx hE17
                    have h1 := RP.ext h1 hE17
                    refine L_mv (v := v1) rfl ((hS17 1 rfl).trans sf1) ?_
                    exact L_nil ⟨rfl, (ext_refl _), _, _, rfl, rfl, rfl⟩
                  refine ops_cons (fun f w_ hS17 hE17 hP17 => ?_) ?_
                  ·
                    have hx := ext_trans hx hE17
                    refine L_mv (v := .int .i64 (i_6 : Int)) rfl ((hS17 5 rfl).trans sf5) ?_
                    exact L_nil ⟨rfl, (ext_refl _), _, _, rfl, rfl, rfl⟩
                  refine ops_cons (fun f w_ hS17 hE17 hP17 => ?_) ?_
                  ·
                    have hx := ext_trans hx hE17
                    have h1 := RP.ext h1 hE17
                    refine L_ix (r := RP.int) rfl Try.underlying23 Try.sizeOf3 (hP17 0 18 rfl rfl) h1 (hP17 1 19 rfl rfl) hix7 ?_
                    intro g22 o23 cs23 hr23 hat23
                    obtain rfl : _ = [_] := hr23
                    exact L_nil ⟨rfl, (ext_refl _), _, _, rfl, rfl, ⟨_, _, _, rfl, rfl, hat23⟩⟩
                  refine ops_cons (fun f w_ hS17 hE17 hP17 => ?_) ?_
                  ·
                    have hx := ext_trans hx hE17
                    obtain ⟨g24, o24, cs24, hv24, hr24, hat24⟩ := (hP17 2 20 rfl rfl)
                    obtain rfl : _ = [_] := hr24
                    refine L_ld (v := .int .i64 x_7) rfl Try.isAgg3 hv24 (hat24.cell (j := 0) rfl) ?_
                    exact L_nil ⟨rfl, (ext_refl _), _, _, rfl, rfl, rfl⟩
                  refine ops_cons (fun f w_ hS17 hE17 hP17 => ?_) ?_
                  ·
                    have hx := ext_trans hx hE17
                    refine L_lss (m := x_7) (n := 0) rfl (hP17 3 21 rfl rfl) rfl ?_
                    exact L_nil ⟨rfl, (ext_refl _), _, _, rfl, rfl, rfl⟩
                  refine ops_cons (fun f w_ hS17 hE17 hP17 => ?_) ?_
                  ·
                    have hx := ext_trans hx hE17
                    refine L_mv (v := .bool (decide (x_7 < 0))) rfl (hP17 4 22 rfl rfl) ?_
                    exact L_nil ⟨rfl, (ext_refl _), _, _, rfl, rfl, rfl⟩
                  refine ops_cons (fun f w_ hS17 hE17 hP17 => ?_) ?_
                  ·
                    have hx := ext_trans hx hE17
                    have h1 := RP.ext h1 hE17
                    refine L_pass (g_no rfl (Eq.trans (hP17 5 23 rfl rfl) (congrArg Value.bool hc19)) rfl rfl) ?_
                    exact L_nil ⟨rfl, (ext_refl _), _, _, rfl, rfl, rfl⟩
                  refine ops_cons (fun f w_ hS17 hE17 hP17 => ?_) ?_
                  ·
                    have hx := ext_trans hx hE17
                    refine L_pass (g_no rfl (Eq.trans (hP17 5 23 rfl rfl) (congrArg Value.bool hc19)) rfl rfl) ?_
                    exact L_nil ⟨rfl, (ext_refl _), _, _, rfl, rfl, rfl⟩
                  refine ops_cons (fun f w_ hS17 hE17 hP17 => ?_) ?_
                  ·
                    have hx := ext_trans hx hE17
                    refine L_pass (g_no rfl (Eq.trans (hP17 5 23 rfl rfl) (congrArg Value.bool hc19)) rfl rfl) ?_
                    exact L_nil ⟨rfl, (ext_refl _), _, _, rfl, rfl, rfl⟩
                  refine ops_cons (fun f w_ hS17 hE17 hP17 => ?_) ?_
                  ·
                    have hx := ext_trans hx hE17
                    refine L_pass (g_no rfl (Eq.trans (hP17 5 23 rfl rfl) (congrArg Value.bool hc19)) rfl rfl) ?_
                    exact L_nil ⟨rfl, (ext_refl _), _, _, rfl, rfl, rfl⟩
                  refine ops_cons (fun f w_ hS17 hE17 hP17 => ?_) ?_
                  ·
                    have hx := ext_trans hx hE17
                    have h0_0 := RP.ext h0_0 hE17
                    have h0_1 := RP.ext h0_1 hE17
                    have hb_g3 := Blk.ext hb_g3 hE17
                    refine L_pass (g_no rfl (Eq.trans (hP17 5 23 rfl rfl) (congrArg Value.bool hc19)) rfl rfl) ?_
                    exact L_nil ⟨rfl, (ext_refl _), _, _, rfl, rfl, rfl⟩
                  refine ops_cons (fun f w_ hS17 hE17 hP17 => ?_) ?_
                  ·
                    have hx := ext_trans hx hE17
                    refine L_pass (g_no rfl (Eq.trans (hP17 5 23 rfl rfl) (congrArg Value.bool hc19)) rfl rfl) ?_
                    exact L_nil ⟨rfl, (ext_refl _), _, _, rfl, rfl, rfl⟩
                  refine ops_cons (fun f w_ hS17 hE17 hP17 => ?_) ?_
                  ·
                    have hx := ext_trans hx hE17
                    refine L_pass (g_no rfl (Eq.trans (hP17 5 23 rfl rfl) (congrArg Value.bool hc19)) rfl rfl) ?_
                    exact L_nil ⟨rfl, (ext_refl _), _, _, rfl, rfl, rfl⟩
                  refine ops_cons (fun f w_ hS17 hE17 hP17 => ?_) ?_
                  ·
                    have hx := ext_trans hx hE17
                    refine L_pass (g_no rfl (Eq.trans (hP17 5 23 rfl rfl) (congrArg Value.bool hc19)) rfl rfl) ?_
                    exact L_nil ⟨rfl, (ext_refl _), _, _, rfl, rfl, rfl⟩
                  refine ops_cons (fun f w_ hS17 hE17 hP17 => ?_) ?_
                  ·
                    have hx := ext_trans hx hE17
                    refine L_pass (g_no rfl (Eq.trans (hP17 5 23 rfl rfl) (congrArg Value.bool hc19)) rfl rfl) ?_
                    exact L_nil ⟨rfl, (ext_refl _), _, _, rfl, rfl, rfl⟩
                  exact ops_nil
                ·
                  have h1 := RP.ext h1 hE17
                  have h0_0 := RP.ext h0_0 hE17
                  have h0_1 := RP.ext h0_1 hE17
                  have hb_g3 := Blk.ext hb_g3 hE17
                  have hx := ext_trans hx hE17
                  refine L_pass (g_no rfl (Eq.trans (hT17 5 23 rfl rfl) (congrArg Value.bool hc19)) rfl rfl) ?_
                  refine L_pick (v := .bool b16) rfl (Eq.trans (hT17 5 23 rfl rfl) (congrArg Value.bool hc19)) (congrArg Value.bool (so hb16)) ?_
                  refine L_nil ?_
                  show R18 _ _
                  rw [hR18]
                  exact ⟨((hS17 1 rfl).trans sf1), ((hS17 2 rfl).trans sf2), ((hS17 5 rfl).trans sf5), rfl, h1, h0_0, h0_1, hb_g3, hx⟩
              ·
                rw [ite_f hc19] at hb16
                obtain ⟨x13, hx13, hb16⟩ := bind_some hb16
                refine W_drawL 15 [isV (v1), isV (.int .i64 (i_6 : Int)), isEl B RP.int x_7 0, isV (.int .i64 x_7), isV (.bool (decide (x_7 < 0))), isV (.bool (decide (x_7 < 0))), isV (v1), isV (.int .i64 (i_6 : Int)), isEl B RP.int x_7 0, isV (.int .i64 x_7), isV (.pointer (some ⟨g3, 0, none⟩)), isV (v0_0), isV (.int .i64 (i_6 : Int)), isEl B RP.int x13 0, isV (.int .i64 x13)] Try_mix (by kernel_rfl) (am_cons (mono_V _) (am_cons (mono_V _) (am_cons (mono_el _ _ _ _) (am_cons (mono_V _) (am_cons (mono_V _) (am_cons (mono_V _) (am_cons (mono_V _) (am_cons (mono_V _) (am_cons (mono_el _ _ _ _) (am_cons (mono_V _) (am_cons (mono_V _) (am_cons (mono_V _) (am_cons (mono_V _) (am_cons (mono_el _ _ _ _) (am_cons (mono_V _) am_nil))))))))))))))) ?_ (fun f w_ hS17 hE17 hT17 => ?_)
                ·
                  refine ops_cons (fun f w_ hS17 hE17 hP17 => ?_) ?_
                  ·
                    have hx := ext_trans hx hE17
                    have h1 := RP.ext h1 hE17
                    refine L_mv (v := v1) rfl ((hS17 1 rfl).trans sf1) ?_
                    exact L_nil ⟨rfl, (ext_refl _), _, _, rfl, rfl, rfl⟩
                  refine ops_cons (fun f w_ hS17 hE17 hP17 => ?_) ?_
                  ·
                    have hx := ext_trans hx hE17
                    refine L_mv (v := .int .i64 (i_6 : Int)) rfl ((hS17 5 rfl).trans sf5) ?_
                    exact L_nil ⟨rfl, (ext_refl _), _, _, rfl, rfl, rfl⟩
                  refine ops_cons (fun f w_ hS17 hE17 hP17 => ?_) ?_
                  ·
                    have hx := ext_trans hx hE17
                    have h1 := RP.ext h1 hE17
                    refine L_ix (r := RP.int) rfl Try.underlying23 Try.sizeOf3 (hP17 0 18 rfl rfl) h1 (hP17 1 19 rfl rfl) hix7 ?_
                    intro g31 o32 cs32 hr32 hat32
                    obtain rfl : _ = [_] := hr32
                    exact L_nil ⟨rfl, (ext_refl _), _, _, rfl, rfl, ⟨_, _, _, rfl, rfl, hat32⟩⟩
                  refine ops_cons (fun f w_ hS17 hE17 hP17 => ?_) ?_
                  ·
                    have hx := ext_trans hx hE17
                    obtain ⟨g33, o33, cs33, hv33, hr33, hat33⟩ := (hP17 2 20 rfl rfl)
                    obtain rfl : _ = [_] := hr33
                    refine L_ld (v := .int .i64 x_7) rfl Try.isAgg3 hv33 (hat33.cell (j := 0) rfl) ?_
                    exact L_nil ⟨rfl, (ext_refl _), _, _, rfl, rfl, rfl⟩
                  refine ops_cons (fun f w_ hS17 hE17 hP17 => ?_) ?_
                  ·
                    have hx := ext_trans hx hE17
                    refine L_lss (m := x_7) (n := 0) rfl (hP17 3 21 rfl rfl) rfl ?_
                    exact L_nil ⟨rfl, (ext_refl _), _, _, rfl, rfl, rfl⟩
                  refine ops_cons (fun f w_ hS17 hE17 hP17 => ?_) ?_
                  ·
                    have hx := ext_trans hx hE17
                    refine L_mv (v := .bool (decide (x_7 < 0))) rfl (hP17 4 22 rfl rfl) ?_
                    exact L_nil ⟨rfl, (ext_refl _), _, _, rfl, rfl, rfl⟩
                  refine ops_cons (fun f w_ hS17 hE17 hP17 => ?_) ?_
                  ·
                    have hx := ext_trans hx hE17
                    have h1 := RP.ext h1 hE17
                    refine L_mv (v := v1) (g_yes rfl (Eq.trans (hP17 5 23 rfl rfl) (congrArg Value.bool hc19)) rfl) ((hS17 1 rfl).trans sf1) ?_
                    exact L_nil ⟨rfl, (ext_refl _), _, _, rfl, rfl, rfl⟩
                  refine ops_cons (fun f w_ hS17 hE17 hP17 => ?_) ?_
                  ·
                    have hx := ext_trans hx hE17
                    refine L_mv (v := .int .i64 (i_6 : Int)) (g_yes rfl (Eq.trans (hP17 5 23 rfl rfl) (congrArg Value.bool hc19)) rfl) ((hS17 5 rfl).trans sf5) ?_
                    exact L_nil ⟨rfl, (ext_refl _), _, _, rfl, rfl, rfl⟩
                  refine ops_cons (fun f w_ hS17 hE17 hP17 => ?_) ?_
                  ·
                    have hx := ext_trans hx hE17
                    have h1 := RP.ext h1 hE17
                    refine L_ix (r := RP.int) (g_yes rfl (Eq.trans (hP17 5 23 rfl rfl) (congrArg Value.bool hc19)) rfl) Try.underlying23 Try.sizeOf3 (hP17 6 24 rfl rfl) h1 (hP17 7 25 rfl rfl) hix7 ?_
                    intro g34 o35 cs35 hr35 hat35
                    obtain rfl : _ = [_] := hr35
                    exact L_nil ⟨rfl, (ext_refl _), _, _, rfl, rfl, ⟨_, _, _, rfl, rfl, hat35⟩⟩
                  refine ops_cons (fun f w_ hS17 hE17 hP17 => ?_) ?_
                  ·
                    have hx := ext_trans hx hE17
                    obtain ⟨g36, o36, cs36, hv36, hr36, hat36⟩ := (hP17 8 26 rfl rfl)
                    obtain rfl : _ = [_] := hr36
                    refine L_ld (v := .int .i64 x_7) (g_yes rfl (Eq.trans (hP17 5 23 rfl rfl) (congrArg Value.bool hc19)) rfl) Try.isAgg3 hv36 (hat36.cell (j := 0) rfl) ?_
                    exact L_nil ⟨rfl, (ext_refl _), _, _, rfl, rfl, rfl⟩
                  refine ops_cons (fun f w_ hS17 hE17 hP17 => ?_) ?_
                  ·
                    have hx := ext_trans hx hE17
                    have h0_0 := RP.ext h0_0 hE17
                    have h0_1 := RP.ext h0_1 hE17
                    have hb_g3 := Blk.ext hb_g3 hE17
                    refine L_fa (o' := 0) (g_yes rfl (Eq.trans (hP17 5 23 rfl rfl) (congrArg Value.bool hc19)) rfl) fa_26_0 ((hS17 2 rfl).trans sf2) rfl ?_
                    exact L_nil ⟨rfl, (ext_refl _), _, _, rfl, rfl, rfl⟩
                  refine ops_cons (fun f w_ hS17 hE17 hP17 => ?_) ?_
                  ·
                    have hx := ext_trans hx hE17
                    have h0_0 := RP.ext h0_0 hE17
                    have h0_1 := RP.ext h0_1 hE17
                    have hb_g3 := Blk.ext hb_g3 hE17
                    refine L_ld (v := v0_0) (g_yes rfl (Eq.trans (hP17 5 23 rfl rfl) (congrArg Value.bool hc19)) rfl) Try.isAgg23 (hP17 10 28 rfl rfl) (hb_g3.cell (j := 0) rfl) ?_
                    exact L_nil ⟨rfl, (ext_refl _), _, _, rfl, rfl, rfl⟩
                  refine ops_cons (fun f w_ hS17 hE17 hP17 => ?_) ?_
                  ·
                    have hx := ext_trans hx hE17
                    refine L_mv (v := .int .i64 (i_6 : Int)) (g_yes rfl (Eq.trans (hP17 5 23 rfl rfl) (congrArg Value.bool hc19)) rfl) ((hS17 5 rfl).trans sf5) ?_
                    exact L_nil ⟨rfl, (ext_refl _), _, _, rfl, rfl, rfl⟩
                  refine ops_cons (fun f w_ hS17 hE17 hP17 => ?_) ?_
                  ·
                    have hx := ext_trans hx hE17
                    have h0_0 := RP.ext h0_0 hE17
                    refine L_ix (r := RP.int) (g_yes rfl (Eq.trans (hP17 5 23 rfl rfl) (congrArg Value.bool hc19)) rfl) Try.underlying23 Try.sizeOf3 (hP17 11 29 rfl rfl) h0_0 (hP17 12 30 rfl rfl) hx13 ?_
                    intro g37 o38 cs38 hr38 hat38
                    obtain rfl : _ = [_] := hr38
                    exact L_nil ⟨rfl, (ext_refl _), _, _, rfl, rfl, ⟨_, _, _, rfl, rfl, hat38⟩⟩
                  refine ops_cons (fun f w_ hS17 hE17 hP17 => ?_) ?_
                  ·
                    have hx := ext_trans hx hE17
                    obtain ⟨g39, o39, cs39, hv39, hr39, hat39⟩ := (hP17 13 31 rfl rfl)
                    obtain rfl : _ = [_] := hr39
                    refine L_ld (v := .int .i64 x13) (g_yes rfl (Eq.trans (hP17 5 23 rfl rfl) (congrArg Value.bool hc19)) rfl) Try.isAgg3 hv39 (hat39.cell (j := 0) rfl) ?_
                    exact L_nil ⟨rfl, (ext_refl _), _, _, rfl, rfl, rfl⟩
                  exact ops_nil
                ·
                  have h1 := RP.ext h1 hE17
                  have h0_0 := RP.ext h0_0 hE17
                  have h0_1 := RP.ext h0_1 hE17
                  have hb_g3 := Blk.ext hb_g3 hE17
                  have hx := ext_trans hx hE17
                  refine L_gtr (m := x_7) (n := x13) (g_yes rfl (Eq.trans (hT17 5 23 rfl rfl) (congrArg Value.bool hc19)) rfl) (hT17 9 27 rfl rfl) (hT17 14 32 rfl rfl) ?_
                  refine L_pick (v := .bool b16) rfl (Eq.trans (hT17 5 23 rfl rfl) (congrArg Value.bool hc19)) (congrArg Value.bool (so hb16)) ?_
                  refine L_nil ?_
                  show R18 _ _
                  rw [hR18]
                  exact ⟨((hS17 1 rfl).trans sf1), ((hS17 2 rfl).trans sf2), ((hS17 5 rfl).trans sf5), rfl, h1, h0_0, h0_1, hb_g3, hx⟩
            ·
              intro f w_ hR
              rw [hR18] at hR
              obtain ⟨sf1, sf2, sf5, sf34, h1, h0_0, h0_1, hb_g3, hx⟩ := hR
              clear hR18
              refine W_cond (b := b16) sf34 (fun hc40 => ?_) (fun hc40 => ?_)
              ·
                have hB7 := (ite_t hc40).symm.trans hB7
                refine W_seq ?_
                refine W_region ?_
                refine L_as (v := .bool false) rfl rfl ?_
                refine L_nil ?_
                refine W_ret ?_
                obtain rfl := so hB7
                obtain rfl := so hL7
                obtain rfl := so hF
                refine ret1 Try.results61 ?_
                exact ⟨rfl, hx⟩
              ·
                have hB7 := (ite_f hc40).symm.trans hB7
                refine W_skip ?_
                refine W_region ?_
                refine L_mv (v := .int .i64 (i_6 : Int)) rfl sf5 ?_
                refine L_add (m := (i_6 : Int)) (n := 1) rfl rfl rfl ?_
                refine L_as (v := .int .i64 (i64 ((i_6 : Int) + 1))) rfl rfl ?_
                refine L_nil ?_
                obtain rfl := so hB7
                show ∃ m, m < _ ∧ I7 m _ _
                refine ⟨rest7.length, by simp, ?_⟩
                rw [hI7]
                exact ⟨i_6 + 1, rest7, rfl, drop_next hd7, by simp at hl7; omega, hL7, sf1, sf2, (Eq.trans rfl (congrArg (Value.int .i64) (i64_succ (n := cells.length) (by simp at hl7; omega) hlen7))), h1, h0_0, h0_1, hb_g3, hx⟩
        ·
          cases suf7 with
          | cons _ _ => exact absurd (of_decide_eq_false hc8) (by simp at hl7; omega)
          | nil =>
            obtain rfl := range_nil hL7
            refine W_exit ?_
            show R7 _ _
            rw [hR7]
            exact ⟨rfl, hx⟩
    ·
      intro f w_ hR
      rw [hR7] at hR
      obtain ⟨rfl, hx⟩ := hR
      clear hR7
      refine W_seq ?_
      refine W_region ?_
      refine L_as (v := .bool true) rfl rfl ?_
      refine L_nil ?_
      refine W_ret ?_
      obtain rfl := so hF
      refine ret1 Try.results61 ?_
      exact ⟨rfl, hx⟩

theorem s_CellsValid_c {fu : Nat} {m : Model} {cells : List Int} {v0_0 : Value} {v0_1 : Value} {v1 : Value} {w : World} {B : Nat} (hB : B ≤ w.heap.size) (h0_0 : (RP.slice 3 RP.int).rel B w.heap.size w [v0_0] m.sizes) (h0_1 : (RP.slice 36 (rRule 3 23)).rel B w.heap.size w [v0_1] m.rules) (h1 : (RP.slice 3 RP.int).rel B w.heap.size w [v1] cells) {r : Bool} (hF : s_CellsValid fu m cells = some r) :
    C Try.prog 24 #[.agg #[v0_0, v0_1], v1] w fun v w' => (v = .bool r) ∧ Ext w w' := by
  unfold s_CellsValid at hF
  have hx := ext_refl w
  refine C_enter Try.func24 rfl Try.ntmps24 rfl ?_
  refine W_seq ?_
  refine W_region ?_
  refine L_box (v := .agg #[v0_0, v0_1]) (cs := #[v0_0, v0_1]) rfl rfl rfl ?_
  intro g3 w4 hn4
  have hge_g3 := hn4.geS hx.size
  have hb_g3 := hn4.blk
  have h0_0 := RP.ext h0_0 hn4.ext
  have h0_1 := RP.ext h0_1 hn4.ext
  have h1 := RP.ext h1 hn4.ext
  have hx := ext_trans hx hn4.ext
  refine L_as (v := .bool false) rfl rfl ?_
  refine L_nil ?_
  refine W_seq ?_
  obtain ⟨x5, hx5, hF⟩ := bind_some hF
  obtain ⟨b9, hb9, hF⟩ := bind_some hF
  obtain ⟨R10, hR10⟩ : ∃ R : Fr → World → Prop, R = fun f w_ => f 4 = .bool b9 ∧ Ext w w_ := ⟨_, rfl⟩
  refine W_join R10 ?_ ?_
  ·
    refine W_region ?_
    refine L_lda (cs := [v0_0, v0_1]) rfl Try.isAgg26 Try.sizeOf26 rfl (Blk.sub hb_g3 0 2) rfl ?_
    refine L_call (args := #[.agg #[v0_0, v0_1]]) rfl Try.call52 (ops1 rfl) (s_ModelValid_c (m := m) (Nat.le_trans hB hx.size) (rel0 h0_0) (rel0 h0_1) hx5) ?_
    rintro _ w11 ⟨rfl, he11⟩
    have h0_0 := RP.ext h0_0 he11
    have h0_1 := RP.ext h0_1 he11
    have h1 := RP.ext h1 he11
    have hb_g3 := Blk.ext hb_g3 he11
    have hx := ext_trans hx he11
    refine L_mv (v := .bool x5) rfl rfl ?_
    refine L_split (d := 7) (b := x5) rfl (fun hc12 => ?_) (fun hc12 => ?_)
    ·
      rw [ite_t hc12] at hb9
      obtain ⟨x7, hx7, hb9⟩ := bind_some hb9
      refine L_lda (cs := [v0_0, v0_1]) rfl Try.isAgg26 Try.sizeOf26 rfl (Blk.sub hb_g3 0 2) rfl ?_
      refine L_mv (v := v1) rfl rfl ?_
      refine L_call (args := #[.agg #[v0_0, v0_1], v1]) rfl Try.call61 (ops2 rfl rfl) (s_l6Cells_c (m := m) (cells := cells) (Nat.le_trans hB hx.size) (rel0 h0_0) (rel0 h0_1) (rel0 h1) hx7) ?_
      rintro _ w13 ⟨rfl, he13⟩
      have h0_0 := RP.ext h0_0 he13
      have h0_1 := RP.ext h0_1 he13
      have h1 := RP.ext h1 he13
      have hx := ext_trans hx he13
      refine L_pick (v := .bool b9) rfl rfl (congrArg Value.bool (so hb9)) ?_
      refine L_as (v := .bool b9) rfl rfl ?_
      refine L_nil ?_
      show R10 _ _
      rw [hR10]
      exact ⟨rfl, hx⟩
    ·
      rw [ite_f hc12] at hb9
      refine L_pass rfl ?_
      refine L_pass rfl ?_
      refine L_pass rfl ?_
      refine L_pick (v := .bool b9) rfl rfl (congrArg Value.bool (so hb9)) ?_
      refine L_as (v := .bool b9) rfl rfl ?_
      refine L_nil ?_
      show R10 _ _
      rw [hR10]
      exact ⟨rfl, hx⟩
  ·
    intro f w_ hR
    rw [hR10] at hR
    obtain ⟨sf4, hx⟩ := hR
    clear hR10
    refine W_ret ?_
    obtain rfl := so hF
    refine ret1 Try.results24 ?_
    exact ⟨sf4, hx⟩

theorem s_l6Ints_c {a : List Int} {b : List Int} {v0 : Value} {v1 : Value} {w : World} {B : Nat} (hB : B ≤ w.heap.size) (h0 : (RP.slice 3 RP.int).rel B w.heap.size w [v0] a) (h1 : (RP.slice 3 RP.int).rel B w.heap.size w [v1] b) {r : Bool} (hF : s_l6Ints a b = some r) :
    C Try.prog 84 #[v0, v1] w fun v w' => (v = .bool r) ∧ Ext w w' := by
  unfold s_l6Ints at hF
  have hx := ext_refl w
  refine C_enter Try.func84 rfl Try.ntmps84 rfl ?_
  refine W_seq ?_
  refine W_region ?_
  refine L_as (v := .bool false) rfl rfl ?_
  refine L_nil ?_
  refine W_seq ?_
  refine W_seq ?_
  refine W_region ?_
  refine L_mv (v := v0) rfl rfl ?_
  refine L_len (v := v0) rfl Try.underlying23 rfl h0 ?_
  refine L_mv (v := v1) rfl rfl ?_
  refine L_len (v := v1) rfl Try.underlying23 rfl h1 ?_
  refine L_neq (m := (a.length : Int)) (n := (b.length : Int)) rfl rfl rfl ?_
  refine L_nil ?_
  refine W_cond (b := ((a.length : Int) != (b.length : Int))) rfl (fun hc1 => ?_) (fun hc1 => ?_)
  ·
    have hF := (ite_t hc1).symm.trans hF
    refine W_seq ?_
    refine W_region ?_
    refine L_as (v := .bool false) rfl rfl ?_
    refine L_nil ?_
    refine W_ret ?_
    obtain rfl := so hF
    refine ret1 Try.results84 ?_
    exact ⟨rfl, hx⟩
  ·
    have hF := (ite_f hc1).symm.trans hF
    refine W_skip ?_
    refine W_seq ?_
    refine W_seq ?_
    refine W_region ?_
    refine L_as (v := .int .i64 0) rfl rfl ?_
    refine L_nil ?_
    have hlen3 := len_le h0
    obtain ⟨j3, hL3, hF⟩ := bind_some hF
    obtain ⟨R3, hR3⟩ : ∃ R : Fr → World → Prop, R = fun f w_ => j3 = .nx () ∧ Ext w w_ := ⟨_, rfl⟩
    refine W_join R3 ?_ ?_
    ·
      refine W_block ?_
      obtain ⟨I3, hI3⟩ : ∃ I : Nat → Fr → World → Prop, I = fun n f w_ => ∃ i_2 : Nat, ∃ suf3 : List Int, n = suf3.length ∧ List.drop i_2 a = suf3 ∧ i_2 + suf3.length = a.length ∧ rangeL (s_l6Ints_b1 b) suf3 i_2 () = some j3 ∧ f 0 = v0 ∧ f 1 = v1 ∧ f 5 = .int .i64 (i_2 : Int) ∧ (RP.slice 3 RP.int).rel B w.heap.size w_ [v0] a ∧ (RP.slice 3 RP.int).rel B w.heap.size w_ [v1] b ∧ Ext w w_ := ⟨_, rfl⟩
      refine W_loop I3 (n := a.length) ?_ ?_
      · rw [hI3]; exact ⟨0, a, rfl, rfl, Nat.zero_add _, hL3, rfl, rfl, rfl, h0, h1, hx⟩
      ·
        intro n3 f w_ hI
        rw [hI3] at hI
        obtain ⟨i_2, suf3, rfl, hd3, hl3, hL3, sf0, sf1, sf5, h0, h1, hx⟩ := hI
        refine W_seq ?_
        refine W_seq ?_
        refine W_region ?_
        refine L_mv (v := .int .i64 (i_2 : Int)) rfl sf5 ?_
        refine L_mv (v := v0) rfl sf0 ?_
        refine L_len (v := v0) rfl Try.underlying23 rfl h0 ?_
        refine L_lss (m := (i_2 : Int)) (n := (a.length : Int)) rfl rfl rfl ?_
        refine L_nil ?_
        refine W_cond (b := decide ((i_2 : Int) < (a.length : Int))) rfl (fun hc4 => ?_) (fun hc4 => ?_)
        ·
          have hlt3 := of_decide_eq_true hc4
          cases suf3 with
          | nil => exact absurd hlt3 (by simp at hl3; omega)
          | cons x_3 rest3 =>
            obtain ⟨o3, hB3, hL3⟩ := range_cons hL3
            rw [s_l6Ints_b1] at hB3
            have hix3 := drop_idx hd3
            refine W_skip ?_
            refine W_seq ?_
            refine W_block ?_
            refine W_seq ?_
            obtain ⟨x7, hx7, hB3⟩ := bind_some hB3
            refine W_drawL 8 [isV (v0), isV (.int .i64 (i_2 : Int)), isEl B RP.int x_3 0, isV (.int .i64 x_3), isV (v1), isV (.int .i64 (i_2 : Int)), isEl B RP.int x7 0, isV (.int .i64 x7)] Try_mix (by kernel_rfl) (am_cons (mono_V _) (am_cons (mono_V _) (am_cons (mono_el _ _ _ _) (am_cons (mono_V _) (am_cons (mono_V _) (am_cons (mono_V _) (am_cons (mono_el _ _ _ _) (am_cons (mono_V _) am_nil)))))))) ?_ (fun f w_ hS10 hE10 hT10 => ?_)
            ·
              refine ops_cons (fun f w_ hS10 hE10 hP10 => ?_) ?_
              ·
                have hx := ext_trans hx hE10
                have h0 := RP.ext h0 hE10
                refine L_mv (v := v0) rfl ((hS10 0 rfl).trans sf0) ?_
                exact L_nil ⟨rfl, (ext_refl _), _, _, rfl, rfl, rfl⟩
              refine ops_cons (fun f w_ hS10 hE10 hP10 => ?_) ?_
              ·
                have hx := ext_trans hx hE10
                refine L_mv (v := .int .i64 (i_2 : Int)) rfl ((hS10 5 rfl).trans sf5) ?_
                exact L_nil ⟨rfl, (ext_refl _), _, _, rfl, rfl, rfl⟩
              refine ops_cons (fun f w_ hS10 hE10 hP10 => ?_) ?_
              ·
                have hx := ext_trans hx hE10
                have h0 := RP.ext h0 hE10
                refine L_ix (r := RP.int) rfl Try.underlying23 Try.sizeOf3 (hP10 0 17 rfl rfl) h0 (hP10 1 18 rfl rfl) hix3 ?_
                intro g15 o16 cs16 hr16 hat16
                obtain rfl : _ = [_] := hr16
                exact L_nil ⟨rfl, (ext_refl _), _, _, rfl, rfl, ⟨_, _, _, rfl, rfl, hat16⟩⟩
              refine ops_cons (fun f w_ hS10 hE10 hP10 => ?_) ?_
              ·
                have hx := ext_trans hx hE10
                obtain ⟨g17, o17, cs17, hv17, hr17, hat17⟩ := (hP10 2 19 rfl rfl)
                obtain rfl : _ = [_] := hr17
                refine L_ld (v := .int .i64 x_3) rfl Try.isAgg3 hv17 (hat17.cell (j := 0) rfl) ?_
                exact L_nil ⟨rfl, (ext_refl _), _, _, rfl, rfl, rfl⟩
              refine ops_cons (fun f w_ hS10 hE10 hP10 => ?_) ?_
              ·
                have hx := ext_trans hx hE10
                have h1 := RP.ext h1 hE10
                refine L_mv (v := v1) rfl ((hS10 1 rfl).trans sf1) ?_
                exact L_nil ⟨rfl, (ext_refl _), _, _, rfl, rfl, rfl⟩
              refine ops_cons (fun f w_ hS10 hE10 hP10 => ?_) ?_
              ·
                have hx := ext_trans hx hE10
                refine L_mv (v := .int .i64 (i_2 : Int)) rfl ((hS10 5 rfl).trans sf5) ?_
                exact L_nil ⟨rfl, (ext_refl _), _, _, rfl, rfl, rfl⟩
              refine ops_cons (fun f w_ hS10 hE10 hP10 => ?_) ?_
              ·
                have hx := ext_trans hx hE10
                have h1 := RP.ext h1 hE10
                refine L_ix (r := RP.int) rfl Try.underlying23 Try.sizeOf3 (hP10 4 21 rfl rfl) h1 (hP10 5 22 rfl rfl) hx7 ?_
                intro g18 o19 cs19 hr19 hat19
                obtain rfl : _ = [_] := hr19
                exact L_nil ⟨rfl, (ext_refl _), _, _, rfl, rfl, ⟨_, _, _, rfl, rfl, hat19⟩⟩
              refine ops_cons (fun f w_ hS10 hE10 hP10 => ?_) ?_
              ·
                have hx := ext_trans hx hE10
                obtain ⟨g20, o20, cs20, hv20, hr20, hat20⟩ := (hP10 6 23 rfl rfl)
                obtain rfl : _ = [_] := hr20
                refine L_ld (v := .int .i64 x7) rfl Try.isAgg3 hv20 (hat20.cell (j := 0) rfl) ?_
                exact L_nil ⟨rfl, (ext_refl _), _, _, rfl, rfl, rfl⟩
              exact ops_nil
            ·
              have h0 := RP.ext h0 hE10
              have h1 := RP.ext h1 hE10
              have hx := ext_trans hx hE10
              refine L_neq (m := x_3) (n := x7) rfl (hT10 3 20 rfl rfl) (hT10 7 24 rfl rfl) ?_
              refine L_nil ?_
              refine W_cond (b := (x_3 != x7)) rfl (fun hc21 => ?_) (fun hc21 => ?_)
              ·
                have hB3 := (ite_t hc21).symm.trans hB3
                refine W_seq ?_
                refine W_region ?_
                refine L_as (v := .bool false) rfl rfl ?_
                refine L_nil ?_
                refine W_ret ?_
                obtain rfl := so hB3
                obtain rfl := so hL3
                obtain rfl := so hF
                refine ret1 Try.results84 ?_
                exact ⟨rfl, hx⟩
              ·
                have hB3 := (ite_f hc21).symm.trans hB3
                refine W_skip ?_
                refine W_region ?_
                refine L_mv (v := .int .i64 (i_2 : Int)) rfl ((hS10 5 rfl).trans sf5) ?_
                refine L_add (m := (i_2 : Int)) (n := 1) rfl rfl rfl ?_
                refine L_as (v := .int .i64 (i64 ((i_2 : Int) + 1))) rfl rfl ?_
                refine L_nil ?_
                obtain rfl := so hB3
                show ∃ m, m < _ ∧ I3 m _ _
                refine ⟨rest3.length, by simp, ?_⟩
                rw [hI3]
                exact ⟨i_2 + 1, rest3, rfl, drop_next hd3, by simp at hl3; omega, hL3, ((hS10 0 rfl).trans sf0), ((hS10 1 rfl).trans sf1), (Eq.trans rfl (congrArg (Value.int .i64) (i64_succ (n := a.length) (by simp at hl3; omega) hlen3))), h0, h1, hx⟩
        ·
          cases suf3 with
          | cons _ _ => exact absurd (of_decide_eq_false hc4) (by simp at hl3; omega)
          | nil =>
            obtain rfl := range_nil hL3
            refine W_exit ?_
            show R3 _ _
            rw [hR3]
            exact ⟨rfl, hx⟩
    ·
      intro f w_ hR
      rw [hR3] at hR
      obtain ⟨rfl, hx⟩ := hR
      clear hR3
      refine W_seq ?_
      refine W_region ?_
      refine L_as (v := .bool true) rfl rfl ?_
      refine L_nil ?_
      refine W_ret ?_
      obtain rfl := so hF
      refine ret1 Try.results84 ?_
      exact ⟨rfl, hx⟩

theorem s_l6Holds_c {r_ : Rule} {cells : List Int} {v0_1 : Value} {v0_2 : Value} {v0_4 : Value} {v1 : Value} {w : World} {B : Nat} (hB : B ≤ w.heap.size) (h0_1 : (RP.slice 3 RP.int).rel B w.heap.size w [v0_1] r_.vars) (h0_2 : (RP.slice 3 RP.int).rel B w.heap.size w [v0_2] r_.coefs) (h0_4 : (RP.slice 23 (RP.slice 3 RP.int)).rel B w.heap.size w [v0_4] r_.rows) (h1 : (RP.slice 3 RP.int).rel B w.heap.size w [v1] cells) {r : Bool} (hF : s_l6Holds r_ cells = some r) :
    C Try.prog 57 #[.agg #[.int .i64 r_.kind, v0_1, v0_2, .int .i64 r_.bound, v0_4], v1] w fun v w' => (v = .bool r) ∧ Ext w w' := by
  unfold s_l6Holds at hF
  have hx := ext_refl w
  refine C_enter Try.func57 rfl Try.ntmps57 rfl ?_
  refine W_seq ?_
  refine W_region ?_
  refine L_box (v := .agg #[.int .i64 r_.kind, v0_1, v0_2, .int .i64 r_.bound, v0_4]) (cs := #[.int .i64 r_.kind, v0_1, v0_2, .int .i64 r_.bound, v0_4]) rfl rfl rfl ?_
  intro g3 w4 hn4
  have hge_g3 := hn4.geS hx.size
  have hb_g3 := hn4.blk
  have h0_1 := RP.ext h0_1 hn4.ext
  have h0_2 := RP.ext h0_2 hn4.ext
  have h0_4 := RP.ext h0_4 hn4.ext
  have h1 := RP.ext h1 hn4.ext
  have hx := ext_trans hx hn4.ext
  refine L_as (v := .bool false) rfl rfl ?_
  refine L_nil ?_
  refine W_seq ?_
  refine W_region ?_
  refine L_bs rfl parts0 (bs_23_0  ) ?_
  intro g7 w8 hn8
  have ho8 : Own RP.int 3 w.heap.size B w8 _ _ := own_new0 hn8 hx.size
  have hz8 := zero_new hn8 hx.size
  have h0_1 := RP.ext h0_1 hn8.ext
  have h0_2 := RP.ext h0_2 hn8.ext
  have h0_4 := RP.ext h0_4 hn8.ext
  have h1 := RP.ext h1 hn8.ext
  have hb_g3 := Blk.ext hb_g3 hn8.ext
  have hx := ext_trans hx hn8.ext
  refine L_as (v := (.slice (some ⟨g7, 0, none⟩) 0 0)) rfl rfl ?_
  refine L_nil ?_
  refine W_seq ?_
  refine W_seq ?_
  refine W_region ?_
  refine L_as (v := .int .i64 0) rfl rfl ?_
  refine L_nil ?_
  have hlen11 := len_le h0_1
  obtain ⟨j11, hL11, hF⟩ := bind_some hF
  obtain ⟨R11, hR11⟩ : ∃ R : Fr → World → Prop, R = fun f w_ => ∃ list_10 : List Int, ∃ v10_list : Value, j11 = .nx list_10 ∧ f 2 = .pointer (some ⟨g3, 0, none⟩) ∧ f 5 = v10_list ∧ Own RP.int 3 w.heap.size B w_ v10_list list_10 ∧ (RP.slice 3 RP.int).rel B w.heap.size w_ [v0_1] r_.vars ∧ (RP.slice 3 RP.int).rel B w.heap.size w_ [v0_2] r_.coefs ∧ (RP.slice 23 (RP.slice 3 RP.int)).rel B w.heap.size w_ [v0_4] r_.rows ∧ Blk w_ g3 36 #[.int .i64 r_.kind, v0_1, v0_2, .int .i64 r_.bound, v0_4] ∧ Ext w w_ := ⟨_, rfl⟩
  refine W_join R11 ?_ ?_
  ·
    refine W_block ?_
    obtain ⟨I11, hI11⟩ : ∃ I : Nat → Fr → World → Prop, I = fun n f w_ => ∃ i_9 : Nat, ∃ suf11 : List Int, ∃ list_10 : List Int, ∃ v10_list : Value, n = suf11.length ∧ List.drop i_9 r_.vars = suf11 ∧ i_9 + suf11.length = r_.vars.length ∧ rangeL (s_l6Holds_b1 cells) suf11 i_9 list_10 = some j11 ∧ f 1 = v1 ∧ f 2 = .pointer (some ⟨g3, 0, none⟩) ∧ f 5 = v10_list ∧ f 6 = .int .i64 (i_9 : Int) ∧ (RP.slice 3 RP.int).rel B w.heap.size w_ [v1] cells ∧ Own RP.int 3 w.heap.size B w_ v10_list list_10 ∧ (RP.slice 3 RP.int).rel B w.heap.size w_ [v0_1] r_.vars ∧ (RP.slice 3 RP.int).rel B w.heap.size w_ [v0_2] r_.coefs ∧ (RP.slice 23 (RP.slice 3 RP.int)).rel B w.heap.size w_ [v0_4] r_.rows ∧ Blk w_ g3 36 #[.int .i64 r_.kind, v0_1, v0_2, .int .i64 r_.bound, v0_4] ∧ Ext w w_ := ⟨_, rfl⟩
    refine W_loop I11 (n := r_.vars.length) ?_ ?_
    · rw [hI11]; exact ⟨0, r_.vars, [], (.slice (some ⟨g7, 0, none⟩) 0 0), rfl, rfl, Nat.zero_add _, hL11, rfl, rfl, rfl, rfl, h1, ho8, h0_1, h0_2, h0_4, hb_g3, hx⟩
    ·
      intro n11 f w_ hI
      rw [hI11] at hI
      obtain ⟨i_9, suf11, list_10, v10_list, rfl, hd11, hl11, hL11, sf1, sf2, sf5, sf6, h1, hv10_list, h0_1, h0_2, h0_4, hb_g3, hx⟩ := hI
      refine W_seq ?_
      refine W_seq ?_
      refine W_region ?_
      refine L_mv (v := .int .i64 (i_9 : Int)) rfl sf6 ?_
      refine L_fa (o' := 1) rfl fa_36_1 sf2 rfl ?_
      refine L_ld (v := v0_1) rfl Try.isAgg23 rfl (hb_g3.cell (j := 1) rfl) ?_
      refine L_len (v := v0_1) rfl Try.underlying23 rfl h0_1 ?_
      refine L_lss (m := (i_9 : Int)) (n := (r_.vars.length : Int)) rfl rfl rfl ?_
      refine L_nil ?_
      refine W_cond (b := decide ((i_9 : Int) < (r_.vars.length : Int))) rfl (fun hc12 => ?_) (fun hc12 => ?_)
      ·
        have hlt11 := of_decide_eq_true hc12
        cases suf11 with
        | nil => exact absurd hlt11 (by simp at hl11; omega)
        | cons x_11 rest11 =>
          obtain ⟨o11, hB11, hL11⟩ := range_cons hL11
          rw [s_l6Holds_b1] at hB11
          have hix11 := drop_idx hd11
          refine W_skip ?_
          refine W_seq ?_
          refine W_block ?_
          obtain ⟨x15, hx15, hB11⟩ := bind_some hB11
          obtain ⟨x21, hx21, hB11⟩ := bind_some hB11
          refine W_region ?_
          refine L_mv (v := v10_list) rfl sf5 ?_
          refine L_mv (v := v1) rfl sf1 ?_
          refine L_fa (o' := 1) rfl fa_36_1 sf2 rfl ?_
          refine L_ld (v := v0_1) rfl Try.isAgg23 rfl (hb_g3.cell (j := 1) rfl) ?_
          refine L_mv (v := .int .i64 (i_9 : Int)) rfl sf6 ?_
          refine L_ix (r := RP.int) rfl Try.underlying23 Try.sizeOf3 rfl h0_1 rfl hix11 ?_
          intro g24 o25 cs25 hr25 hat25
          obtain rfl : _ = [_] := hr25
          refine L_ld (v := .int .i64 x_11) rfl Try.isAgg3 rfl (hat25.cell (j := 0) rfl) ?_
          refine L_ix (r := RP.int) rfl Try.underlying23 Try.sizeOf3 rfl h1 rfl hx15 ?_
          intro g26 o27 cs27 hr27 hat27
          obtain rfl : _ = [_] := hr27
          refine L_ld (v := .int .i64 x15) rfl Try.isAgg3 rfl (hat27.cell (j := 0) rfl) ?_
          refine L_bs rfl (parts1 rfl) (bs_23_1_0 (.int .i64 x15) rfl) ?_
          intro g28 w29 hn29
          have ho29 : Own RP.int 3 w.heap.size B w29 _ [x15] := own_new1 hn29 hx.size rfl
          have ap30 := ap_ob hv10_list hn29
          have h1 := RP.ext h1 hn29.ext
          have hv10_list := Own.ext hv10_list hn29.ext
          have h0_1 := RP.ext h0_1 hn29.ext
          have h0_2 := RP.ext h0_2 hn29.ext
          have h0_4 := RP.ext h0_4 hn29.ext
          have hb_g3 := Blk.ext hb_g3 hn29.ext
          have hx := ext_trans hx hn29.ext
          refine L_app (v := v10_list) (u := (.slice (some ⟨g28, 0, none⟩) 1 1)) rfl et_23 (by decide) rfl rfl hv10_list (rel0 (Own.rel ho29)) hx21 hx.size hB ?_
          intro v31 w31 ho31 hm31 hb31
          have h1 := hm31.rel_lo h1 (Nat.le_refl _)
          have h0_1 := hm31.rel_lo h0_1 (Nat.le_refl _)
          have h0_2 := hm31.rel_lo h0_2 (Nat.le_refl _)
          have h0_4 := hm31.rel_lo h0_4 (Nat.le_refl _)
          have hb_g3 := hm31.blk hb_g3 (by decide)
          have hx := ext_mut hx hm31 (Nat.le_refl _)
          refine L_as (v := v31) rfl rfl ?_
          refine L_nil ?_
          refine W_region ?_
          refine L_mv (v := .int .i64 (i_9 : Int)) rfl sf6 ?_
          refine L_add (m := (i_9 : Int)) (n := 1) rfl rfl rfl ?_
          refine L_as (v := .int .i64 (i64 ((i_9 : Int) + 1))) rfl rfl ?_
          refine L_nil ?_
          obtain rfl := so hB11
          show ∃ m, m < _ ∧ I11 m _ _
          refine ⟨rest11.length, by simp, ?_⟩
          rw [hI11]
          exact ⟨i_9 + 1, rest11, x21, v31, rfl, drop_next hd11, by simp at hl11; omega, hL11, sf1, sf2, rfl, (Eq.trans rfl (congrArg (Value.int .i64) (i64_succ (n := r_.vars.length) (by simp at hl11; omega) hlen11))), h1, ho31, h0_1, h0_2, h0_4, hb_g3, hx⟩
      ·
        cases suf11 with
        | cons _ _ => exact absurd (of_decide_eq_false hc12) (by simp at hl11; omega)
        | nil =>
          obtain rfl := range_nil hL11
          refine W_exit ?_
          show R11 _ _
          rw [hR11]
          exact ⟨list_10, v10_list, rfl, sf2, sf5, hv10_list, h0_1, h0_2, h0_4, hb_g3, hx⟩
  ·
    intro f w_ hR
    rw [hR11] at hR
    obtain ⟨list_10, v10_list, rfl, sf2, sf5, hv10_list, h0_1, h0_2, h0_4, hb_g3, hx⟩ := hR
    clear hR11
    refine W_seq ?_
    refine W_seq ?_
    refine W_region ?_
    refine L_fa (o' := 0) rfl fa_36_0 sf2 rfl ?_
    refine L_ld (v := .int .i64 r_.kind) rfl Try.isAgg3 rfl (hb_g3.cell (j := 0) rfl) ?_
    refine L_nil ?_
    refine W_block ?_
    refine W_seq ?_
    refine W_region ?_
    refine L_eql (m := r_.kind) (n := 1) rfl rfl rfl ?_
    refine L_as (v := .bool (r_.kind == 1)) rfl rfl ?_
    refine L_nil ?_
    refine W_cond (b := (r_.kind == 1)) rfl (fun hc32 => ?_) (fun hc32 => ?_)
    ·
      have hF := (ite_t hc32).symm.trans hF
      refine W_seq ?_
      refine W_region ?_
      refine L_as (v := .int .i64 0) rfl rfl ?_
      refine L_nil ?_
      refine W_seq ?_
      refine W_seq ?_
      refine W_region ?_
      refine L_as (v := .int .i64 0) rfl rfl ?_
      refine L_nil ?_
      have hlen35 := len_le (Own.rel hv10_list)
      obtain ⟨j35, hL35, hF⟩ := bind_some hF
      obtain ⟨R35, hR35⟩ : ∃ R : Fr → World → Prop, R = fun f w_ => ∃ n_34 : Int, j35 = .nx n_34 ∧ f 2 = .pointer (some ⟨g3, 0, none⟩) ∧ f 7 = .int .i64 n_34 ∧ (RP.slice 3 RP.int).rel B w.heap.size w_ [v0_1] r_.vars ∧ (RP.slice 3 RP.int).rel B w.heap.size w_ [v0_2] r_.coefs ∧ (RP.slice 23 (RP.slice 3 RP.int)).rel B w.heap.size w_ [v0_4] r_.rows ∧ Blk w_ g3 36 #[.int .i64 r_.kind, v0_1, v0_2, .int .i64 r_.bound, v0_4] ∧ Ext w w_ := ⟨_, rfl⟩
      refine W_join R35 ?_ ?_
      ·
        refine W_block ?_
        obtain ⟨I35, hI35⟩ : ∃ I : Nat → Fr → World → Prop, I = fun n f w_ => ∃ i_33 : Nat, ∃ suf35 : List Int, ∃ n_34 : Int, n = suf35.length ∧ List.drop i_33 list_10 = suf35 ∧ i_33 + suf35.length = list_10.length ∧ rangeL (s_l6Holds_b2 r_) suf35 i_33 n_34 = some j35 ∧ f 2 = .pointer (some ⟨g3, 0, none⟩) ∧ f 5 = v10_list ∧ f 7 = .int .i64 n_34 ∧ f 8 = .int .i64 (i_33 : Int) ∧ Own RP.int 3 w.heap.size B w_ v10_list list_10 ∧ (RP.slice 3 RP.int).rel B w.heap.size w_ [v0_1] r_.vars ∧ (RP.slice 3 RP.int).rel B w.heap.size w_ [v0_2] r_.coefs ∧ (RP.slice 23 (RP.slice 3 RP.int)).rel B w.heap.size w_ [v0_4] r_.rows ∧ Blk w_ g3 36 #[.int .i64 r_.kind, v0_1, v0_2, .int .i64 r_.bound, v0_4] ∧ Ext w w_ := ⟨_, rfl⟩
        refine W_loop I35 (n := list_10.length) ?_ ?_
        · rw [hI35]; exact ⟨0, list_10, 0, rfl, rfl, Nat.zero_add _, hL35, sf2, sf5, rfl, rfl, hv10_list, h0_1, h0_2, h0_4, hb_g3, hx⟩
        ·
          intro n35 f w_ hI
          rw [hI35] at hI
          obtain ⟨i_33, suf35, n_34, rfl, hd35, hl35, hL35, sf2, sf5, sf7, sf8, hv10_list, h0_1, h0_2, h0_4, hb_g3, hx⟩ := hI
          refine W_seq ?_
          refine W_seq ?_
          refine W_region ?_
          refine L_mv (v := .int .i64 (i_33 : Int)) rfl sf8 ?_
          refine L_mv (v := v10_list) rfl sf5 ?_
          refine L_len (v := v10_list) rfl Try.underlying23 rfl (Own.rel hv10_list) ?_
          refine L_lss (m := (i_33 : Int)) (n := (list_10.length : Int)) rfl rfl rfl ?_
          refine L_nil ?_
          refine W_cond (b := decide ((i_33 : Int) < (list_10.length : Int))) rfl (fun hc36 => ?_) (fun hc36 => ?_)
          ·
            have hlt35 := of_decide_eq_true hc36
            cases suf35 with
            | nil => exact absurd hlt35 (by simp at hl35; omega)
            | cons x_35 rest35 =>
              obtain ⟨o35, hB35, hL35⟩ := range_cons hL35
              rw [s_l6Holds_b2] at hB35
              have hix35 := drop_idx hd35
              refine W_skip ?_
              refine W_seq ?_
              refine W_block ?_
              obtain ⟨x37, hx37, hB35⟩ := bind_some hB35
              refine W_drawL 11 [isV (.int .i64 n_34), isV (.pointer (some ⟨g3, 2, none⟩)), isV (v0_2), isV (.int .i64 (i_33 : Int)), isEl B RP.int x37 0, isV (.int .i64 x37), isV (v10_list), isV (.int .i64 (i_33 : Int)), isEl B RP.int x_35 0, isV (.int .i64 x_35), isV (.int .i64 (i64 (x37 * x_35)))] Try_mix (by kernel_rfl) (am_cons (mono_V _) (am_cons (mono_V _) (am_cons (mono_V _) (am_cons (mono_V _) (am_cons (mono_el _ _ _ _) (am_cons (mono_V _) (am_cons (mono_V _) (am_cons (mono_V _) (am_cons (mono_el _ _ _ _) (am_cons (mono_V _) (am_cons (mono_V _) am_nil))))))))))) ?_ (fun f w_ hS42 hE42 hT42 => ?_)
              ·
                refine ops_cons (fun f w_ hS42 hE42 hP42 => ?_) ?_
                ·
                  have hx := ext_trans hx hE42
                  refine L_mv (v := .int .i64 n_34) rfl ((hS42 7 rfl).trans sf7) ?_
                  exact L_nil ⟨rfl, (ext_refl _), _, _, rfl, rfl, rfl⟩
                refine ops_cons (fun f w_ hS42 hE42 hP42 => ?_) ?_
                ·
                  have hx := ext_trans hx hE42
                  have h0_1 := RP.ext h0_1 hE42
                  have h0_2 := RP.ext h0_2 hE42
                  have h0_4 := RP.ext h0_4 hE42
                  have hb_g3 := Blk.ext hb_g3 hE42
                  refine L_fa (o' := 2) rfl fa_36_2 ((hS42 2 rfl).trans sf2) rfl ?_
                  exact L_nil ⟨rfl, (ext_refl _), _, _, rfl, rfl, rfl⟩
                refine ops_cons (fun f w_ hS42 hE42 hP42 => ?_) ?_
                ·
                  have hx := ext_trans hx hE42
                  have h0_1 := RP.ext h0_1 hE42
                  have h0_2 := RP.ext h0_2 hE42
                  have h0_4 := RP.ext h0_4 hE42
                  have hb_g3 := Blk.ext hb_g3 hE42
                  refine L_ld (v := v0_2) rfl Try.isAgg23 (hP42 1 42 rfl rfl) (hb_g3.cell (j := 2) rfl) ?_
                  exact L_nil ⟨rfl, (ext_refl _), _, _, rfl, rfl, rfl⟩
                refine ops_cons (fun f w_ hS42 hE42 hP42 => ?_) ?_
                ·
                  have hx := ext_trans hx hE42
                  refine L_mv (v := .int .i64 (i_33 : Int)) rfl ((hS42 8 rfl).trans sf8) ?_
                  exact L_nil ⟨rfl, (ext_refl _), _, _, rfl, rfl, rfl⟩
                refine ops_cons (fun f w_ hS42 hE42 hP42 => ?_) ?_
                ·
                  have hx := ext_trans hx hE42
                  have h0_2 := RP.ext h0_2 hE42
                  refine L_ix (r := RP.int) rfl Try.underlying23 Try.sizeOf3 (hP42 2 43 rfl rfl) h0_2 (hP42 3 44 rfl rfl) hx37 ?_
                  intro g47 o48 cs48 hr48 hat48
                  obtain rfl : _ = [_] := hr48
                  exact L_nil ⟨rfl, (ext_refl _), _, _, rfl, rfl, ⟨_, _, _, rfl, rfl, hat48⟩⟩
                refine ops_cons (fun f w_ hS42 hE42 hP42 => ?_) ?_
                ·
                  have hx := ext_trans hx hE42
                  obtain ⟨g49, o49, cs49, hv49, hr49, hat49⟩ := (hP42 4 45 rfl rfl)
                  obtain rfl : _ = [_] := hr49
                  refine L_ld (v := .int .i64 x37) rfl Try.isAgg3 hv49 (hat49.cell (j := 0) rfl) ?_
                  exact L_nil ⟨rfl, (ext_refl _), _, _, rfl, rfl, rfl⟩
                refine ops_cons (fun f w_ hS42 hE42 hP42 => ?_) ?_
                ·
                  have hx := ext_trans hx hE42
                  have hv10_list := Own.ext hv10_list hE42
                  refine L_mv (v := v10_list) rfl ((hS42 5 rfl).trans sf5) ?_
                  exact L_nil ⟨rfl, (ext_refl _), _, _, rfl, rfl, rfl⟩
                refine ops_cons (fun f w_ hS42 hE42 hP42 => ?_) ?_
                ·
                  have hx := ext_trans hx hE42
                  refine L_mv (v := .int .i64 (i_33 : Int)) rfl ((hS42 8 rfl).trans sf8) ?_
                  exact L_nil ⟨rfl, (ext_refl _), _, _, rfl, rfl, rfl⟩
                refine ops_cons (fun f w_ hS42 hE42 hP42 => ?_) ?_
                ·
                  have hx := ext_trans hx hE42
                  have hv10_list := Own.ext hv10_list hE42
                  refine L_ix (r := RP.int) rfl Try.underlying23 Try.sizeOf3 (hP42 6 47 rfl rfl) (Own.rel hv10_list) (hP42 7 48 rfl rfl) hix35 ?_
                  intro g50 o51 cs51 hr51 hat51
                  obtain rfl : _ = [_] := hr51
                  exact L_nil ⟨rfl, (ext_refl _), _, _, rfl, rfl, ⟨_, _, _, rfl, rfl, hat51⟩⟩
                refine ops_cons (fun f w_ hS42 hE42 hP42 => ?_) ?_
                ·
                  have hx := ext_trans hx hE42
                  obtain ⟨g52, o52, cs52, hv52, hr52, hat52⟩ := (hP42 8 49 rfl rfl)
                  obtain rfl : _ = [_] := hr52
                  refine L_ld (v := .int .i64 x_35) rfl Try.isAgg3 hv52 (hat52.cell (j := 0) rfl) ?_
                  exact L_nil ⟨rfl, (ext_refl _), _, _, rfl, rfl, rfl⟩
                refine ops_cons (fun f w_ hS42 hE42 hP42 => ?_) ?_
                ·
                  have hx := ext_trans hx hE42
                  refine L_mul (m := x37) (n := x_35) rfl (hP42 5 46 rfl rfl) (hP42 9 50 rfl rfl) ?_
                  exact L_nil ⟨rfl, (ext_refl _), _, _, rfl, rfl, rfl⟩
                exact ops_nil
              ·
                have hv10_list := Own.ext hv10_list hE42
                have h0_1 := RP.ext h0_1 hE42
                have h0_2 := RP.ext h0_2 hE42
                have h0_4 := RP.ext h0_4 hE42
                have hb_g3 := Blk.ext hb_g3 hE42
                have hx := ext_trans hx hE42
                refine L_add (m := n_34) (n := i64 (x37 * x_35)) rfl (hT42 0 41 rfl rfl) (hT42 10 51 rfl rfl) ?_
                refine L_as (v := .int .i64 (i64 (n_34 + (i64 (x37 * x_35))))) rfl rfl ?_
                refine L_nil ?_
                refine W_region ?_
                refine L_mv (v := .int .i64 (i_33 : Int)) rfl ((hS42 8 rfl).trans sf8) ?_
                refine L_add (m := (i_33 : Int)) (n := 1) rfl rfl rfl ?_
                refine L_as (v := .int .i64 (i64 ((i_33 : Int) + 1))) rfl rfl ?_
                refine L_nil ?_
                obtain rfl := so hB35
                show ∃ m, m < _ ∧ I35 m _ _
                refine ⟨rest35.length, by simp, ?_⟩
                rw [hI35]
                exact ⟨i_33 + 1, rest35, i64 (n_34 + (i64 (x37 * x_35))), rfl, drop_next hd35, by simp at hl35; omega, hL35, ((hS42 2 rfl).trans sf2), ((hS42 5 rfl).trans sf5), rfl, (Eq.trans rfl (congrArg (Value.int .i64) (i64_succ (n := list_10.length) (by simp at hl35; omega) hlen35))), hv10_list, h0_1, h0_2, h0_4, hb_g3, hx⟩
          ·
            cases suf35 with
            | cons _ _ => exact absurd (of_decide_eq_false hc36) (by simp at hl35; omega)
            | nil =>
              obtain rfl := range_nil hL35
              refine W_exit ?_
              show R35 _ _
              rw [hR35]
              exact ⟨n_34, rfl, sf2, sf7, h0_1, h0_2, h0_4, hb_g3, hx⟩
      ·
        intro f w_ hR
        rw [hR35] at hR
        obtain ⟨n_34, rfl, sf2, sf7, h0_1, h0_2, h0_4, hb_g3, hx⟩ := hR
        clear hR35
        refine W_seq ?_
        refine W_region ?_
        refine L_mv (v := .int .i64 n_34) rfl sf7 ?_
        refine L_fa (o' := 3) rfl fa_36_3 sf2 rfl ?_
        refine L_ld (v := .int .i64 r_.bound) rfl Try.isAgg3 rfl (hb_g3.cell (j := 3) rfl) ?_
        refine L_geq (m := n_34) (n := r_.bound) rfl rfl rfl ?_
        refine L_as (v := .bool (decide (n_34 ≥ r_.bound))) rfl rfl ?_
        refine L_nil ?_
        refine W_ret ?_
        obtain rfl := so hF
        refine ret1 Try.results57 ?_
        exact ⟨rfl, hx⟩
    ·
      have hF := (ite_f hc32).symm.trans hF
      refine W_seq ?_
      refine W_region ?_
      refine L_eql (m := r_.kind) (n := 2) rfl rfl rfl ?_
      refine L_as (v := .bool (r_.kind == 2)) rfl rfl ?_
      refine L_nil ?_
      refine W_cond (b := (r_.kind == 2)) rfl (fun hc53 => ?_) (fun hc53 => ?_)
      ·
        have hF := (ite_t hc53).symm.trans hF
        refine W_seq ?_
        refine W_seq ?_
        refine W_region ?_
        refine L_as (v := .int .i64 0) rfl rfl ?_
        refine L_nil ?_
        have hlen55 := len_le (Own.rel hv10_list)
        obtain ⟨j55, hL55, hF⟩ := bind_some hF
        obtain ⟨R55, hR55⟩ : ∃ R : Fr → World → Prop, R = fun f w_ => j55 = .nx () ∧ Ext w w_ := ⟨_, rfl⟩
        refine W_join R55 ?_ ?_
        ·
          refine W_block ?_
          obtain ⟨I55, hI55⟩ : ∃ I : Nat → Fr → World → Prop, I = fun n f w_ => ∃ i_54 : Nat, ∃ suf55 : List Int, n = suf55.length ∧ List.drop i_54 list_10 = suf55 ∧ i_54 + suf55.length = list_10.length ∧ rangeL (s_l6Holds_b3 list_10) suf55 i_54 () = some j55 ∧ f 5 = v10_list ∧ f 9 = .int .i64 (i_54 : Int) ∧ Own RP.int 3 w.heap.size B w_ v10_list list_10 ∧ Ext w w_ := ⟨_, rfl⟩
          refine W_loop I55 (n := list_10.length) ?_ ?_
          · rw [hI55]; exact ⟨0, list_10, rfl, rfl, Nat.zero_add _, hL55, sf5, rfl, hv10_list, hx⟩
          ·
            intro n55 f w_ hI
            rw [hI55] at hI
            obtain ⟨i_54, suf55, rfl, hd55, hl55, hL55, sf5, sf9, hv10_list, hx⟩ := hI
            refine W_seq ?_
            refine W_seq ?_
            refine W_region ?_
            refine L_mv (v := .int .i64 (i_54 : Int)) rfl sf9 ?_
            refine L_mv (v := v10_list) rfl sf5 ?_
            refine L_len (v := v10_list) rfl Try.underlying23 rfl (Own.rel hv10_list) ?_
            refine L_lss (m := (i_54 : Int)) (n := (list_10.length : Int)) rfl rfl rfl ?_
            refine L_nil ?_
            refine W_cond (b := decide ((i_54 : Int) < (list_10.length : Int))) rfl (fun hc56 => ?_) (fun hc56 => ?_)
            ·
              have hlt55 := of_decide_eq_true hc56
              cases suf55 with
              | nil => exact absurd hlt55 (by simp at hl55; omega)
              | cons x_55 rest55 =>
                obtain ⟨o55, hB55, hL55⟩ := range_cons hL55
                rw [s_l6Holds_b3] at hB55
                have hix55 := drop_idx hd55
                refine W_skip ?_
                refine W_seq ?_
                refine W_block ?_
                refine W_seq ?_
                refine W_region ?_
                refine L_as (v := .int .i64 0) rfl rfl ?_
                refine L_nil ?_
                obtain ⟨k59, hk59, hB55⟩ := bind_some hB55
                obtain ⟨j58, hL58, hB55⟩ := bind_some hB55
                obtain ⟨R58, hR58⟩ : ∃ R : Fr → World → Prop, R = fun f w_ => j58 = .nx () ∧ f 5 = v10_list ∧ f 9 = .int .i64 (i_54 : Int) ∧ Own RP.int 3 w.heap.size B w_ v10_list list_10 ∧ Ext w w_ := ⟨_, rfl⟩
                refine W_join R58 ?_ ?_
                ·
                  refine W_block ?_
                  obtain ⟨I58, hI58⟩ : ∃ I : Nat → Fr → World → Prop, I = fun n f w_ => ∃ i_57 : Nat, ∃ suf58 : Nat, suf58 = n ∧ 0 ≤ i_57 ∧ i_57 + suf58 = 0 + k59 ∧ countL (s_l6Holds_b4 list_10 x_55) suf58 i_57 () = some j58 ∧ f 5 = v10_list ∧ f 9 = .int .i64 (i_54 : Int) ∧ f 10 = .int .i64 (i_57 : Int) ∧ Own RP.int 3 w.heap.size B w_ v10_list list_10 ∧ Ext w w_ := ⟨_, rfl⟩
                  refine W_loop I58 (n := k59) ?_ ?_
                  · rw [hI58]; exact ⟨0, k59, rfl, Nat.le_refl _, rfl, hL58, sf5, sf9, rfl, hv10_list, hx⟩
                  ·
                    intro n58 f w_ hI
                    rw [hI58] at hI
                    obtain ⟨i_57, suf58, rfl, hs58, hl58, hL58, sf5, sf9, sf10, hv10_list, hx⟩ := hI
                    refine W_seq ?_
                    refine W_seq ?_
                    refine W_region ?_
                    refine L_mv (v := .int .i64 (i_57 : Int)) rfl sf10 ?_
                    refine L_mv (v := .int .i64 (i_54 : Int)) rfl sf9 ?_
                    refine L_lss (m := (i_57 : Int)) (n := (i_54 : Int)) rfl rfl rfl ?_
                    refine L_nil ?_
                    refine W_cond (b := decide ((i_57 : Int) < (i_54 : Int))) rfl (fun hc60 => ?_) (fun hc60 => ?_)
                    ·
                      have hlt58 := of_decide_eq_true hc60
                      cases suf58 with
                      | zero => exact absurd hlt58 (cntF_no hl58 hk59)
                      | succ rest58 =>
                        obtain ⟨o58, hB58, hL58⟩ := count_succ hL58
                        rw [s_l6Holds_b4] at hB58
                        refine W_skip ?_
                        refine W_seq ?_
                        refine W_block ?_
                        refine W_seq ?_
                        obtain ⟨x61, hx61, hB58⟩ := bind_some hB58
                        refine W_drawL 8 [isV (v10_list), isV (.int .i64 (i_57 : Int)), isEl B RP.int x61 0, isV (.int .i64 x61), isV (v10_list), isV (.int .i64 (i_54 : Int)), isEl B RP.int x_55 0, isV (.int .i64 x_55)] Try_mix (by kernel_rfl) (am_cons (mono_V _) (am_cons (mono_V _) (am_cons (mono_el _ _ _ _) (am_cons (mono_V _) (am_cons (mono_V _) (am_cons (mono_V _) (am_cons (mono_el _ _ _ _) (am_cons (mono_V _) am_nil)))))))) ?_ (fun f w_ hS66 hE66 hT66 => ?_)
                        ·
                          refine ops_cons (fun f w_ hS66 hE66 hP66 => ?_) ?_
                          ·
                            have hx := ext_trans hx hE66
                            have hv10_list := Own.ext hv10_list hE66
                            refine L_mv (v := v10_list) rfl ((hS66 5 rfl).trans sf5) ?_
                            exact L_nil ⟨rfl, (ext_refl _), _, _, rfl, rfl, rfl⟩
                          refine ops_cons (fun f w_ hS66 hE66 hP66 => ?_) ?_
                          ·
                            have hx := ext_trans hx hE66
                            refine L_mv (v := .int .i64 (i_57 : Int)) rfl ((hS66 10 rfl).trans sf10) ?_
                            exact L_nil ⟨rfl, (ext_refl _), _, _, rfl, rfl, rfl⟩
                          refine ops_cons (fun f w_ hS66 hE66 hP66 => ?_) ?_
                          ·
                            have hx := ext_trans hx hE66
                            have hv10_list := Own.ext hv10_list hE66
                            refine L_ix (r := RP.int) rfl Try.underlying23 Try.sizeOf3 (hP66 0 70 rfl rfl) (Own.rel hv10_list) (hP66 1 71 rfl rfl) hx61 ?_
                            intro g71 o72 cs72 hr72 hat72
                            obtain rfl : _ = [_] := hr72
                            exact L_nil ⟨rfl, (ext_refl _), _, _, rfl, rfl, ⟨_, _, _, rfl, rfl, hat72⟩⟩
                          refine ops_cons (fun f w_ hS66 hE66 hP66 => ?_) ?_
                          ·
                            have hx := ext_trans hx hE66
                            obtain ⟨g73, o73, cs73, hv73, hr73, hat73⟩ := (hP66 2 72 rfl rfl)
                            obtain rfl : _ = [_] := hr73
                            refine L_ld (v := .int .i64 x61) rfl Try.isAgg3 hv73 (hat73.cell (j := 0) rfl) ?_
                            exact L_nil ⟨rfl, (ext_refl _), _, _, rfl, rfl, rfl⟩
                          refine ops_cons (fun f w_ hS66 hE66 hP66 => ?_) ?_
                          ·
                            have hx := ext_trans hx hE66
                            have hv10_list := Own.ext hv10_list hE66
                            refine L_mv (v := v10_list) rfl ((hS66 5 rfl).trans sf5) ?_
                            exact L_nil ⟨rfl, (ext_refl _), _, _, rfl, rfl, rfl⟩
                          refine ops_cons (fun f w_ hS66 hE66 hP66 => ?_) ?_
                          ·
                            have hx := ext_trans hx hE66
                            refine L_mv (v := .int .i64 (i_54 : Int)) rfl ((hS66 9 rfl).trans sf9) ?_
                            exact L_nil ⟨rfl, (ext_refl _), _, _, rfl, rfl, rfl⟩
                          refine ops_cons (fun f w_ hS66 hE66 hP66 => ?_) ?_
                          ·
                            have hx := ext_trans hx hE66
                            have hv10_list := Own.ext hv10_list hE66
                            refine L_ix (r := RP.int) rfl Try.underlying23 Try.sizeOf3 (hP66 4 74 rfl rfl) (Own.rel hv10_list) (hP66 5 75 rfl rfl) hix55 ?_
                            intro g74 o75 cs75 hr75 hat75
                            obtain rfl : _ = [_] := hr75
                            exact L_nil ⟨rfl, (ext_refl _), _, _, rfl, rfl, ⟨_, _, _, rfl, rfl, hat75⟩⟩
                          refine ops_cons (fun f w_ hS66 hE66 hP66 => ?_) ?_
                          ·
                            have hx := ext_trans hx hE66
                            obtain ⟨g76, o76, cs76, hv76, hr76, hat76⟩ := (hP66 6 76 rfl rfl)
                            obtain rfl : _ = [_] := hr76
                            refine L_ld (v := .int .i64 x_55) rfl Try.isAgg3 hv76 (hat76.cell (j := 0) rfl) ?_
                            exact L_nil ⟨rfl, (ext_refl _), _, _, rfl, rfl, rfl⟩
                          exact ops_nil
                        ·
                          have hv10_list := Own.ext hv10_list hE66
                          have hx := ext_trans hx hE66
                          refine L_eql (m := x61) (n := x_55) rfl (hT66 3 73 rfl rfl) (hT66 7 77 rfl rfl) ?_
                          refine L_nil ?_
                          refine W_cond (b := (x61 == x_55)) rfl (fun hc77 => ?_) (fun hc77 => ?_)
                          ·
                            have hB58 := (ite_t hc77).symm.trans hB58
                            refine W_seq ?_
                            refine W_region ?_
                            refine L_as (v := .bool false) rfl rfl ?_
                            refine L_nil ?_
                            refine W_ret ?_
                            obtain rfl := so hB58
                            obtain rfl := so hL58
                            obtain rfl := so hB55
                            obtain rfl := so hL55
                            obtain rfl := so hF
                            refine ret1 Try.results57 ?_
                            exact ⟨rfl, hx⟩
                          ·
                            have hB58 := (ite_f hc77).symm.trans hB58
                            refine W_skip ?_
                            refine W_region ?_
                            refine L_mv (v := .int .i64 (i_57 : Int)) rfl ((hS66 10 rfl).trans sf10) ?_
                            refine L_add (m := (i_57 : Int)) (n := 1) rfl rfl rfl ?_
                            refine L_as (v := .int .i64 (i64 ((i_57 : Int) + 1))) rfl rfl ?_
                            refine L_nil ?_
                            obtain rfl := so hB58
                            show ∃ m, m < _ ∧ I58 m _ _
                            refine ⟨rest58, Nat.lt_succ_self _, ?_⟩
                            rw [hI58]
                            exact ⟨i_57 + 1, rest58, rfl, by omega, by omega, hL58, ((hS66 5 rfl).trans sf5), ((hS66 9 rfl).trans sf9), (Eq.trans rfl (congrArg (Value.int .i64) (i64_succ (n := 0 + k59) (by omega) (cntF_le hk59)))), hv10_list, hx⟩
                    ·
                      cases suf58 with
                      | succ _ => exact absurd (cntF_yes hs58 hl58 hk59) (of_decide_eq_false hc60)
                      | zero =>
                        obtain rfl := count_zero hL58
                        refine W_exit ?_
                        show R58 _ _
                        rw [hR58]
                        exact ⟨rfl, sf5, sf9, hv10_list, hx⟩
                ·
                  intro f w_ hR
                  rw [hR58] at hR
                  obtain ⟨rfl, sf5, sf9, hv10_list, hx⟩ := hR
                  clear hR58
                  refine W_region ?_
                  refine L_mv (v := .int .i64 (i_54 : Int)) rfl sf9 ?_
                  refine L_add (m := (i_54 : Int)) (n := 1) rfl rfl rfl ?_
                  refine L_as (v := .int .i64 (i64 ((i_54 : Int) + 1))) rfl rfl ?_
                  refine L_nil ?_
                  obtain rfl := so hB55
                  show ∃ m, m < _ ∧ I55 m _ _
                  refine ⟨rest55.length, by simp, ?_⟩
                  rw [hI55]
                  exact ⟨i_54 + 1, rest55, rfl, drop_next hd55, by simp at hl55; omega, hL55, sf5, (Eq.trans rfl (congrArg (Value.int .i64) (i64_succ (n := list_10.length) (by simp at hl55; omega) hlen55))), hv10_list, hx⟩
            ·
              cases suf55 with
              | cons _ _ => exact absurd (of_decide_eq_false hc56) (by simp at hl55; omega)
              | nil =>
                obtain rfl := range_nil hL55
                refine W_exit ?_
                show R55 _ _
                rw [hR55]
                exact ⟨rfl, hx⟩
        ·
          intro f w_ hR
          rw [hR55] at hR
          obtain ⟨rfl, hx⟩ := hR
          clear hR55
          refine W_seq ?_
          refine W_region ?_
          refine L_as (v := .bool true) rfl rfl ?_
          refine L_nil ?_
          refine W_ret ?_
          obtain rfl := so hF
          refine ret1 Try.results57 ?_
          exact ⟨rfl, hx⟩
      ·
        have hF := (ite_f hc53).symm.trans hF
        refine W_seq ?_
        refine W_region ?_
        refine L_eql (m := r_.kind) (n := 4) rfl rfl rfl ?_
        refine L_as (v := .bool (r_.kind == 4)) rfl rfl ?_
        refine L_nil ?_
        refine W_cond (b := (r_.kind == 4)) rfl (fun hc78 => ?_) (fun hc78 => ?_)
        ·
          have hF := (ite_t hc78).symm.trans hF
          refine W_seq ?_
          obtain ⟨x79, hx79, hF⟩ := bind_some hF
          obtain ⟨x82, hx82, hF⟩ := bind_some hF
          refine W_drawL 6 [isV (v10_list), isEl B RP.int x79 0, isV (.int .i64 x79), isV (v10_list), isEl B RP.int x82 0, isV (.int .i64 x82)] Try_mix (by kernel_rfl) (am_cons (mono_V _) (am_cons (mono_el _ _ _ _) (am_cons (mono_V _) (am_cons (mono_V _) (am_cons (mono_el _ _ _ _) (am_cons (mono_V _) am_nil)))))) ?_ (fun f w_ hS85 hE85 hT85 => ?_)
          ·
            refine ops_cons (fun f w_ hS85 hE85 hP85 => ?_) ?_
            ·
              have hx := ext_trans hx hE85
              have hv10_list := Own.ext hv10_list hE85
              refine L_mv (v := v10_list) rfl ((hS85 5 rfl).trans sf5) ?_
              exact L_nil ⟨rfl, (ext_refl _), _, _, rfl, rfl, rfl⟩
            refine ops_cons (fun f w_ hS85 hE85 hP85 => ?_) ?_
            ·
              have hx := ext_trans hx hE85
              have hv10_list := Own.ext hv10_list hE85
              refine L_ix (r := RP.int) rfl Try.underlying23 Try.sizeOf3 (hP85 0 81 rfl rfl) (Own.rel hv10_list) rfl hx79 ?_
              intro g90 o91 cs91 hr91 hat91
              obtain rfl : _ = [_] := hr91
              exact L_nil ⟨rfl, (ext_refl _), _, _, rfl, rfl, ⟨_, _, _, rfl, rfl, hat91⟩⟩
            refine ops_cons (fun f w_ hS85 hE85 hP85 => ?_) ?_
            ·
              have hx := ext_trans hx hE85
              obtain ⟨g92, o92, cs92, hv92, hr92, hat92⟩ := (hP85 1 82 rfl rfl)
              obtain rfl : _ = [_] := hr92
              refine L_ld (v := .int .i64 x79) rfl Try.isAgg3 hv92 (hat92.cell (j := 0) rfl) ?_
              exact L_nil ⟨rfl, (ext_refl _), _, _, rfl, rfl, rfl⟩
            refine ops_cons (fun f w_ hS85 hE85 hP85 => ?_) ?_
            ·
              have hx := ext_trans hx hE85
              have hv10_list := Own.ext hv10_list hE85
              refine L_mv (v := v10_list) rfl ((hS85 5 rfl).trans sf5) ?_
              exact L_nil ⟨rfl, (ext_refl _), _, _, rfl, rfl, rfl⟩
            refine ops_cons (fun f w_ hS85 hE85 hP85 => ?_) ?_
            ·
              have hx := ext_trans hx hE85
              have hv10_list := Own.ext hv10_list hE85
              refine L_ix (r := RP.int) rfl Try.underlying23 Try.sizeOf3 (hP85 3 84 rfl rfl) (Own.rel hv10_list) rfl hx82 ?_
              intro g93 o94 cs94 hr94 hat94
              obtain rfl : _ = [_] := hr94
              exact L_nil ⟨rfl, (ext_refl _), _, _, rfl, rfl, ⟨_, _, _, rfl, rfl, hat94⟩⟩
            refine ops_cons (fun f w_ hS85 hE85 hP85 => ?_) ?_
            ·
              have hx := ext_trans hx hE85
              obtain ⟨g95, o95, cs95, hv95, hr95, hat95⟩ := (hP85 4 85 rfl rfl)
              obtain rfl : _ = [_] := hr95
              refine L_ld (v := .int .i64 x82) rfl Try.isAgg3 hv95 (hat95.cell (j := 0) rfl) ?_
              exact L_nil ⟨rfl, (ext_refl _), _, _, rfl, rfl, rfl⟩
            exact ops_nil
          ·
            have hv10_list := Own.ext hv10_list hE85
            have h0_1 := RP.ext h0_1 hE85
            have h0_2 := RP.ext h0_2 hE85
            have h0_4 := RP.ext h0_4 hE85
            have hb_g3 := Blk.ext hb_g3 hE85
            have hx := ext_trans hx hE85
            refine L_lss (m := x79) (n := x82) rfl (hT85 2 83 rfl rfl) (hT85 5 86 rfl rfl) ?_
            refine L_as (v := .bool (decide (x79 < x82))) rfl rfl ?_
            refine L_nil ?_
            refine W_ret ?_
            obtain rfl := so hF
            refine ret1 Try.results57 ?_
            exact ⟨rfl, hx⟩
        ·
          have hF := (ite_f hc78).symm.trans hF
          refine W_skip ?_
          refine W_seq ?_
          refine W_seq ?_
          refine W_region ?_
          refine L_as (v := .int .i64 0) rfl rfl ?_
          refine L_nil ?_
          have hlen97 := len_le h0_4
          obtain ⟨j97, hL97, hF⟩ := bind_some hF
          obtain ⟨R97, hR97⟩ : ∃ R : Fr → World → Prop, R = fun f w_ => j97 = .nx () ∧ Ext w w_ := ⟨_, rfl⟩
          refine W_join R97 ?_ ?_
          ·
            refine W_block ?_
            obtain ⟨I97, hI97⟩ : ∃ I : Nat → Fr → World → Prop, I = fun n f w_ => ∃ i_96 : Nat, ∃ suf97 : List (List Int), n = suf97.length ∧ List.drop i_96 r_.rows = suf97 ∧ i_96 + suf97.length = r_.rows.length ∧ rangeL (s_l6Holds_b5 list_10) suf97 i_96 () = some j97 ∧ f 2 = .pointer (some ⟨g3, 0, none⟩) ∧ f 5 = v10_list ∧ f 11 = .int .i64 (i_96 : Int) ∧ Own RP.int 3 w.heap.size B w_ v10_list list_10 ∧ (RP.slice 3 RP.int).rel B w.heap.size w_ [v0_1] r_.vars ∧ (RP.slice 3 RP.int).rel B w.heap.size w_ [v0_2] r_.coefs ∧ (RP.slice 23 (RP.slice 3 RP.int)).rel B w.heap.size w_ [v0_4] r_.rows ∧ Blk w_ g3 36 #[.int .i64 r_.kind, v0_1, v0_2, .int .i64 r_.bound, v0_4] ∧ Ext w w_ := ⟨_, rfl⟩
            refine W_loop I97 (n := r_.rows.length) ?_ ?_
            · rw [hI97]; exact ⟨0, r_.rows, rfl, rfl, Nat.zero_add _, hL97, sf2, sf5, rfl, hv10_list, h0_1, h0_2, h0_4, hb_g3, hx⟩
            ·
              intro n97 f w_ hI
              rw [hI97] at hI
              obtain ⟨i_96, suf97, rfl, hd97, hl97, hL97, sf2, sf5, sf11, hv10_list, h0_1, h0_2, h0_4, hb_g3, hx⟩ := hI
              refine W_seq ?_
              refine W_seq ?_
              refine W_region ?_
              refine L_mv (v := .int .i64 (i_96 : Int)) rfl sf11 ?_
              refine L_fa (o' := 4) rfl fa_36_4 sf2 rfl ?_
              refine L_ld (v := v0_4) rfl Try.isAgg34 rfl (hb_g3.cell (j := 4) rfl) ?_
              refine L_len (v := v0_4) rfl Try.underlying34 rfl h0_4 ?_
              refine L_lss (m := (i_96 : Int)) (n := (r_.rows.length : Int)) rfl rfl rfl ?_
              refine L_nil ?_
              refine W_cond (b := decide ((i_96 : Int) < (r_.rows.length : Int))) rfl (fun hc98 => ?_) (fun hc98 => ?_)
              ·
                have hlt97 := of_decide_eq_true hc98
                cases suf97 with
                | nil => exact absurd hlt97 (by simp at hl97; omega)
                | cons x_97 rest97 =>
                  obtain ⟨o97, hB97, hL97⟩ := range_cons hL97
                  rw [s_l6Holds_b5] at hB97
                  have hix97 := drop_idx hd97
                  refine W_skip ?_
                  refine W_seq ?_
                  refine W_block ?_
                  refine W_seq ?_
                  obtain ⟨x101, hx101, hB97⟩ := bind_some hB97
                  refine W_region ?_
                  refine L_fa (o' := 4) rfl fa_36_4 sf2 rfl ?_
                  refine L_ld (v := v0_4) rfl Try.isAgg34 rfl (hb_g3.cell (j := 4) rfl) ?_
                  refine L_mv (v := .int .i64 (i_96 : Int)) rfl sf11 ?_
                  refine L_ix (r := (RP.slice 3 RP.int)) rfl Try.underlying34 Try.sizeOf23 rfl h0_4 rfl hix97 ?_
                  intro g103 o104 cs104 hr104 hat104
                  obtain ⟨u104, rfl, hu104⟩ := slice1 hr104
                  refine L_ld (v := u104) rfl Try.isAgg23 rfl (hat104.cell (j := 0) rfl) ?_
                  refine L_mv (v := v10_list) rfl sf5 ?_
                  refine L_call (args := #[u104, v10_list]) rfl Try.call84 (ops2 rfl rfl) (s_l6Ints_c (a := x_97) (b := list_10) (Nat.le_trans hB hx.size) (rel0 hu104) (rel0 (Own.rel hv10_list)) hx101) ?_
                  rintro _ w105 ⟨rfl, he105⟩
                  have hv10_list := Own.ext hv10_list he105
                  have h0_1 := RP.ext h0_1 he105
                  have h0_2 := RP.ext h0_2 he105
                  have h0_4 := RP.ext h0_4 he105
                  have hb_g3 := Blk.ext hb_g3 he105
                  have hu104 := RP.ext hu104 he105
                  have hx := ext_trans hx he105
                  refine L_nil ?_
                  refine W_cond (b := x101) rfl (fun hc106 => ?_) (fun hc106 => ?_)
                  ·
                    have hB97 := (ite_t hc106).symm.trans hB97
                    refine W_seq ?_
                    refine W_region ?_
                    refine L_as (v := .bool true) rfl rfl ?_
                    refine L_nil ?_
                    refine W_ret ?_
                    obtain rfl := so hB97
                    obtain rfl := so hL97
                    obtain rfl := so hF
                    refine ret1 Try.results57 ?_
                    exact ⟨rfl, hx⟩
                  ·
                    have hB97 := (ite_f hc106).symm.trans hB97
                    refine W_skip ?_
                    refine W_region ?_
                    refine L_mv (v := .int .i64 (i_96 : Int)) rfl sf11 ?_
                    refine L_add (m := (i_96 : Int)) (n := 1) rfl rfl rfl ?_
                    refine L_as (v := .int .i64 (i64 ((i_96 : Int) + 1))) rfl rfl ?_
                    refine L_nil ?_
                    obtain rfl := so hB97
                    show ∃ m, m < _ ∧ I97 m _ _
                    refine ⟨rest97.length, by simp, ?_⟩
                    rw [hI97]
                    exact ⟨i_96 + 1, rest97, rfl, drop_next hd97, by simp at hl97; omega, hL97, sf2, sf5, (Eq.trans rfl (congrArg (Value.int .i64) (i64_succ (n := r_.rows.length) (by simp at hl97; omega) hlen97))), hv10_list, h0_1, h0_2, h0_4, hb_g3, hx⟩
              ·
                cases suf97 with
                | cons _ _ => exact absurd (of_decide_eq_false hc98) (by simp at hl97; omega)
                | nil =>
                  obtain rfl := range_nil hL97
                  refine W_exit ?_
                  show R97 _ _
                  rw [hR97]
                  exact ⟨rfl, hx⟩
          ·
            intro f w_ hR
            rw [hR97] at hR
            obtain ⟨rfl, hx⟩ := hR
            clear hR97
            refine W_seq ?_
            refine W_region ?_
            refine L_as (v := .bool false) rfl rfl ?_
            refine L_nil ?_
            refine W_ret ?_
            obtain rfl := so hF
            refine ret1 Try.results57 ?_
            exact ⟨rfl, hx⟩

theorem s_DrawCellsValid_c {fu : Nat} {code : List UInt8} {v0 : Value} {w : World} {B : Nat} (hB : B ≤ w.heap.size) (h0 : (RP.slice 5 RP.u8).rel B w.heap.size w [v0] code) {r : Unit} (hF : s_DrawCellsValid fu code = some r) :
    C Try.prog 58 #[v0] w fun v w' => (∃ o : Model × (List Int), (sModel o.1 ∧ sOut o.2) ∧ ∃ u1 u2 u3 : Value, v = .tuple #[.agg #[u1, u2], u3] ∧ (RP.slice 3 RP.int).rel B w'.heap.size w' [u1] o.1.sizes ∧ (RP.slice 36 (rRule 3 23)).rel B w'.heap.size w' [u2] o.1.rules ∧ (RP.slice 3 RP.int).rel B w'.heap.size w' [u3] o.2) ∧ Ext w w' := by
  unfold s_DrawCellsValid at hF
  have hx := ext_refl w
  refine C_enter Try.func58 rfl Try.ntmps58 rfl ?_
  refine W_seq ?_
  refine W_region ?_
  refine L_al (cs := #[(.slice none 0 0), (.slice none 0 0)]) rfl Try.zeroValue26 rfl ?_
  intro g3 w4 hn4
  have hge_g3 := hn4.geS hx.size
  have hb_g3 := hn4.blk
  have h0 := RP.ext h0 hn4.ext
  have hx := ext_trans hx hn4.ext
  refine L_as (v := (.slice none 0 0)) rfl rfl ?_
  refine L_nil ?_
  refine W_seq ?_
  obtain ⟨x5, hx5, hF⟩ := bind_some hF
  refine W_region ?_
  refine L_mv (v := v0) rfl rfl ?_
  refine L_call (args := #[v0]) rfl Try.call46 (ops1 rfl) (s_l17Open_c (code := code) (Nat.le_trans hB hx.size) (rel0 h0) hx5) ?_
  rintro _ w7 ⟨⟨g7, u7, rfl, hge_g7, hb_g7, hu7⟩, he7⟩
  have hge_g7 := Nat.le_trans hx.size hge_g7
  have h0 := RP.ext h0 he7
  have hb_g3 := Blk.ext hb_g3 he7
  have hx := ext_trans hx he7
  refine L_as (v := .pointer (some ⟨g7, 0, none⟩)) rfl rfl ?_
  refine L_nil ?_
  refine W_seq ?_
  obtain ⟨x8, hx8, hF⟩ := bind_some hF
  obtain ⟨hx10, hF⟩ := anyB_some hF
  refine W_region ?_
  refine L_mv (v := .pointer (some ⟨g7, 0, none⟩)) rfl rfl ?_
  refine L_mv (v := .pointer (some ⟨g7, 0, none⟩)) rfl rfl ?_
  refine L_call (args := #[.pointer (some ⟨g7, 0, none⟩)]) rfl Try.call48 (ops1 rfl) (s_l6Model_c (r_ := x5) (Nat.le_trans hB hx.size) hb_g7 (rel0 hu7) (Nat.le_trans hB hge_g7) hx8) ?_
  rintro _ w16 ⟨⟨⟨r16_0, r16_1, rfl, hr16_0, hr16_1⟩, hbn16⟩, he16⟩
  have hr16_1 : Own _ _ w.heap.size B _ _ _ := hr16_1.wide hx.size (Nat.le_refl _)
  have hb_g3 := he16.blk hb_g3 (by decide)
  have hu7 := he16.rel hu7 (by decide) (Nat.le_trans hB hge_g7)
  have hx := ext_mut hx he16 hge_g7
  have hb_g7 := hbn16
  refine L_call (args := #[.pointer (some ⟨g7, 0, none⟩), .agg #[r16_0, r16_1]]) rfl Try.call47 (ops2 rfl rfl) (s_l6Mutate_c (r_ := ({ b := x5.b, p := x8.2 } : Rd)) (m := x8.1) (Nat.le_trans hB hx.size) hb_g7 (rel0 hu7) (Nat.le_trans hB hge_g7) (rel0 hr16_0) (rel0 (Own.rel hr16_1)) hx10) ?_
  rintro _ w17 ⟨⟨x10, gd17, ⟨⟨r17_0, r17_1, rfl, hr17_0, hr17_1⟩, hbn17⟩⟩, he17⟩
  have hF := hF x10 gd17
  have hb_g3 := he17.blk hb_g3 (by decide)
  have hu7 := he17.rel hu7 (by decide) (Nat.le_trans hB hge_g7)
  have hr16_0 := he17.rel hr16_0 (by decide) (Nat.le_trans hB hge_g7)
  have hr16_1 := he17.ownT hr16_1 (by decide) (by decide) (Nat.le_trans hB hge_g7)
  have hx := ext_mut hx he17 hge_g7
  have hb_g7 := hbn17
  refine L_al (cs := #[(.slice none 0 0), (.slice none 0 0)]) rfl Try.zeroValue26 rfl ?_
  intro g18 w19 hn19
  have hge_g18 := hn19.geS hx.size
  have hb_g18 := hn19.blk
  have ap20 := ap_bb hb_g3 hn19
  have hb_g3 := Blk.ext hb_g3 hn19.ext
  have hb_g7 := Blk.ext hb_g7 hn19.ext
  have hu7 := RP.ext hu7 hn19.ext
  have hr17_0 := RP.ext hr17_0 hn19.ext
  have hr17_1 := RP.ext hr17_1 hn19.ext
  have hx := ext_trans hx hn19.ext
  refine L_sta (vs := #[r17_0, r17_1]) rfl Try.sizeOf26 rfl rfl rfl (ones_cons (one_of hr17_0) (ones_cons (one_of hr17_1) ones_nil)) hb_g18 rfl ?_
  intro w21 hp21
  have hb_g3 := hp21.mu.blkA hb_g3 (Ap.symm ap20)
  have hb_g7 := hp21.mu.blk hb_g7 (by decide)
  have hu7 := hp21.mu.rel hu7 (by decide) (Nat.le_trans hB hge_g18)
  have hr17_0 := hp21.mu.rel hr17_0 (by decide) (Nat.le_trans hB hge_g18)
  have hr17_1 := hp21.mu.rel hr17_1 (by decide) (Nat.le_trans hB hge_g18)
  have hx := ext_mut hx hp21.mu hge_g18
  have hb_g18 : Blk w21 g18 26 #[r17_0, r17_1] := hp21.blk
  refine L_nil ?_
  refine W_seq ?_
  obtain ⟨x22, hx22, hF⟩ := bind_some hF
  refine W_drawR 4 [isV (.agg #[r17_0, r17_1]), isV (.pointer (some ⟨g7, 0, none⟩)), isV (.agg #[r17_0, r17_1]), isOwn B RP.int 3 w.heap.size x22.1] g7 86 (fun k => match k with | 0 => #[u7, .int .i64 x10.2] | _ => #[u7, .int .i64 x22.2]) [3] Try_mix (by kernel_rfl) (by decide) (by decide) (amR_cons (monoR_V _) (amR_cons (monoR_V _) (amR_cons (monoR_V _) (amR_cons (monoR_own (by decide) (by decide) (Nat.le_trans hB hge_g7)) amR_nil)))) hb_g7 ?_ (fun f w_ hS25 hE25 hbr25 hT25 => ?_)
  ·
    refine opsR_cons (by decide) (fun f w_ hS25 hE25 hbr25 hP25 => ?_) ?_
    ·
      have hx := ext_mut hx hE25 hge_g7
      have hr17_0 := hE25.rel hr17_0 (by decide) (Nat.le_trans hB hge_g7)
      have hr17_1 := hE25.rel hr17_1 (by decide) (Nat.le_trans hB hge_g7)
      have hb_g18 := hE25.blk hb_g18 (by decide)
      refine L_lda (cs := [r17_0, r17_1]) rfl Try.isAgg26 Try.sizeOf26 ((hS25 5 rfl).trans rfl) (Blk.sub hb_g18 0 2) rfl ?_
      exact L_nil ⟨rfl, (ext_refl _), _, _, rfl, rfl, rfl⟩
    refine opsR_cons (by decide) (fun f w_ hS25 hE25 hbr25 hP25 => ?_) ?_
    ·
      have hx := ext_mut hx hE25 hge_g7
      refine L_mv (v := .pointer (some ⟨g7, 0, none⟩)) rfl ((hS25 4 rfl).trans rfl) ?_
      exact L_nil ⟨rfl, (ext_refl _), _, _, rfl, rfl, rfl⟩
    refine opsR_cons (by decide) (fun f w_ hS25 hE25 hbr25 hP25 => ?_) ?_
    ·
      have hx := ext_mut hx hE25 hge_g7
      have hr17_0 := hE25.rel hr17_0 (by decide) (Nat.le_trans hB hge_g7)
      have hr17_1 := hE25.rel hr17_1 (by decide) (Nat.le_trans hB hge_g7)
      have hb_g18 := hE25.blk hb_g18 (by decide)
      refine L_lda (cs := [r17_0, r17_1]) rfl Try.isAgg26 Try.sizeOf26 ((hS25 5 rfl).trans rfl) (Blk.sub hb_g18 0 2) rfl ?_
      exact L_nil ⟨rfl, (ext_refl _), _, _, rfl, rfl, rfl⟩
    refine opsR_draw 0 rfl (by first | exact .inl rfl | exact .inr ⟨_, rfl, by decide⟩) (fun f w_ hS25 hE25 hbr25 hP25 => ?_) ?_
    ·
      have hx := ext_mut hx hE25 hge_g7
      have hb_g7 : Blk w_ g7 86 #[u7, .int .i64 x10.2] := hbr25
      have hu7 := hE25.rel hu7 (by decide) (Nat.le_trans hB hge_g7)
      have hr17_0 := hE25.rel hr17_0 (by decide) (Nat.le_trans hB hge_g7)
      have hr17_1 := hE25.rel hr17_1 (by decide) (Nat.le_trans hB hge_g7)
      refine L_call (args := #[.pointer (some ⟨g7, 0, none⟩), .agg #[r17_0, r17_1]]) rfl Try.call54 (ops2 (hP25 1 13 rfl rfl) (hP25 2 14 rfl rfl)) (s_l6DrawCells_c (r_ := ({ b := x5.b, p := x10.2 } : Rd)) (m := x10.1) (Nat.le_trans hB hx.size) hb_g7 (rel0 hu7) (Nat.le_trans hB hge_g7) (rel0 hr17_0) (rel0 hr17_1) hx22) ?_
      rintro r27_0 w27 ⟨⟨⟨_, rfl, hr27_0⟩, hbn27⟩, he27⟩
      have hr27_0 : Own _ _ w.heap.size B _ _ _ := hr27_0.wide hx.size (Nat.le_refl _)
      have hu7 := he27.rel hu7 (by decide) (Nat.le_trans hB hge_g7)
      have hr17_0 := he27.rel hr17_0 (by decide) (Nat.le_trans hB hge_g7)
      have hr17_1 := he27.rel hr17_1 (by decide) (Nat.le_trans hB hge_g7)
      have hx := ext_mut hx he27 hge_g7
      have hb_g7 := hbn27
      exact L_nil ⟨rfl, he27, hb_g7, _, _, rfl, rfl, hr27_0⟩
    exact opsR_nil
  ·
    have hb_g3 := hE25.blk hb_g3 (by decide)
    have hu7 := hE25.rel hu7 (by decide) (Nat.le_trans hB hge_g7)
    have hr17_0 := hE25.rel hr17_0 (by decide) (Nat.le_trans hB hge_g7)
    have hr17_1 := hE25.rel hr17_1 (by decide) (Nat.le_trans hB hge_g7)
    have hb_g18 := hE25.blk hb_g18 (by decide)
    have hx := ext_mut hx hE25 hge_g7
    have hb_g7 : Blk w_ g7 86 #[u7, .int .i64 x22.2] := hbr25
    have hd28 := (hT25 3 15 rfl rfl)
    refine L_sta (vs := #[r17_0, r17_1]) rfl Try.sizeOf26 ((hS25 2 rfl).trans rfl) (hT25 0 12 rfl rfl) rfl (ones_cons (one_of hr17_0) (ones_cons (one_of hr17_1) ones_nil)) hb_g3 rfl ?_
    intro w29 hp29
    have hr17_0 := hp29.mu.rel hr17_0 (by decide) (Nat.le_trans hB hge_g3)
    have hr17_1 := hp29.mu.rel hr17_1 (by decide) (Nat.le_trans hB hge_g3)
    have hd28 := hp29.mu.ownT hd28 (by decide) (by decide) (Nat.le_trans hB hge_g3)
    have hx := ext_mut hx hp29.mu hge_g3
    have hb_g3 : Blk w29 g3 26 #[r17_0, r17_1] := hp29.blk
    refine L_as (v := (f 15)) rfl rfl ?_
    refine L_nil ?_
    refine W_ret ?_
    have hG := assertM_some hF
    refine retc1 Try.results58 Try.isAgg26 Try.sizeOf26 ((hS25 2 rfl).trans rfl) hb_g3 rfl ?_
    exact ⟨⟨(x10.1, x22.1), hG, ⟨r17_0, r17_1, (f 15), (tup2_eq rfl rfl), (rel0 hr17_0), (rel0 hr17_1), (rel0 (Own.rel hd28))⟩⟩, hx⟩

theorem s_DrawSolvesModel_c {fu : Nat} {code : List UInt8} {v0 : Value} {w : World} {B : Nat} (hB : B ≤ w.heap.size) (h0 : (RP.slice 5 RP.u8).rel B w.heap.size w [v0] code) {r : Unit} (hF : s_DrawSolvesModel fu code = some r) :
    C Try.prog 21 #[v0] w fun v w' => (∃ o : Model × (List Int), (sModel o.1 ∧ sOut o.2) ∧ ∃ u1 u2 u3 : Value, v = .tuple #[.agg #[u1, u2], u3] ∧ (RP.slice 3 RP.int).rel B w'.heap.size w' [u1] o.1.sizes ∧ (RP.slice 36 (rRule 3 23)).rel B w'.heap.size w' [u2] o.1.rules ∧ (RP.slice 3 RP.int).rel B w'.heap.size w' [u3] o.2) ∧ Ext w w' := by
  unfold s_DrawSolvesModel at hF
  have hx := ext_refl w
  refine C_enter Try.func21 rfl Try.ntmps21 rfl ?_
  refine W_seq ?_
  refine W_region ?_
  refine L_al (cs := #[(.slice none 0 0), (.slice none 0 0)]) rfl Try.zeroValue26 rfl ?_
  intro g3 w4 hn4
  have hge_g3 := hn4.geS hx.size
  have hb_g3 := hn4.blk
  have h0 := RP.ext h0 hn4.ext
  have hx := ext_trans hx hn4.ext
  refine L_as (v := (.slice none 0 0)) rfl rfl ?_
  refine L_nil ?_
  refine W_seq ?_
  obtain ⟨hx5, hF⟩ := anyB_some hF
  refine W_region ?_
  refine L_mv (v := v0) rfl rfl ?_
  refine L_call (args := #[v0]) rfl Try.call58 (ops1 rfl) (s_DrawCellsValid_c (code := code) (Nat.le_trans hB hx.size) (rel0 h0) hx5) ?_
  rintro _ w8 ⟨⟨x5, gd8, ⟨r8_0, r8_1, r8_2, rfl, hr8_0, hr8_1, hr8_2⟩⟩, he8⟩
  have hF := hF x5 gd8
  have h0 := RP.ext h0 he8
  have hb_g3 := Blk.ext hb_g3 he8
  have hx := ext_trans hx he8
  refine L_ex (v := .agg #[r8_0, r8_1]) rfl rfl rfl ?_
  refine L_ex (v := r8_2) rfl rfl rfl ?_
  refine L_sta (vs := #[r8_0, r8_1]) rfl Try.sizeOf26 rfl rfl rfl (ones_cons (one_of hr8_0) (ones_cons (one_of hr8_1) ones_nil)) hb_g3 rfl ?_
  intro w9 hp9
  have hr8_0 := hp9.mu.rel hr8_0 (by decide) (Nat.le_trans hB hge_g3)
  have hr8_1 := hp9.mu.rel hr8_1 (by decide) (Nat.le_trans hB hge_g3)
  have hr8_2 := hp9.mu.rel hr8_2 (by decide) (Nat.le_trans hB hge_g3)
  have hx := ext_mut hx hp9.mu hge_g3
  have hb_g3 : Blk w9 g3 26 #[r8_0, r8_1] := hp9.blk
  refine L_as (v := r8_2) rfl rfl ?_
  refine L_nil ?_
  refine W_ret ?_
  have hG := assertM_some hF
  refine retc1 Try.results21 Try.isAgg26 Try.sizeOf26 rfl hb_g3 rfl ?_
  exact ⟨⟨(x5.1, x5.2), hG, ⟨r8_0, r8_1, r8_2, (tup2_eq rfl rfl), (rel0 hr8_0), (rel0 hr8_1), (rel0 hr8_2)⟩⟩, hx⟩

theorem i_Model_solves_1_c {c1 : List Int} {r_ : Rule} {v0_1 : Value} {v0_2 : Value} {v0_4 : Value} {g_c1 : Nat} {v1_0 : Value} {w : World} {B : Nat} (hB : B ≤ w.heap.size) (h0_1 : (RP.slice 3 RP.int).rel B w.heap.size w [v0_1] r_.vars) (h0_2 : (RP.slice 3 RP.int).rel B w.heap.size w [v0_2] r_.coefs) (h0_4 : (RP.slice 23 (RP.slice 3 RP.int)).rel B w.heap.size w [v0_4] r_.rows) (hat_g_c1 : At w g_c1 0 [v1_0]) (h1_0 : (RP.slice 3 RP.int).rel B w.heap.size w [v1_0] c1) {r : Bool} (hF : i_Model_solves_1 c1 r_ = some r) :
    C Try.prog 85 #[.agg #[.int .i64 r_.kind, v0_1, v0_2, .int .i64 r_.bound, v0_4], .pointer (some ⟨g_c1, 0, none⟩)] w fun v w' => (v = .bool r) ∧ Ext w w' := by
  unfold i_Model_solves_1 at hF
  have hlt_g_c1 := hat_g_c1.lt
  have hx := ext_refl w
  refine C_enter Try.func85 rfl Try.ntmps85 rfl ?_
  refine W_seq ?_
  refine W_region ?_
  refine L_box (v := .agg #[.int .i64 r_.kind, v0_1, v0_2, .int .i64 r_.bound, v0_4]) (cs := #[.int .i64 r_.kind, v0_1, v0_2, .int .i64 r_.bound, v0_4]) rfl rfl rfl ?_
  intro g3 w4 hn4
  have hge_g3 := hn4.geS hx.size
  have hb_g3 := hn4.blk
  have h0_1 := RP.ext h0_1 hn4.ext
  have h0_2 := RP.ext h0_2 hn4.ext
  have h0_4 := RP.ext h0_4 hn4.ext
  have h1_0 := RP.ext h1_0 hn4.ext
  have hat_g_c1 := At.ext hat_g_c1 hn4.ext
  have hx := ext_trans hx hn4.ext
  refine L_as (v := .bool false) rfl rfl ?_
  refine L_nil ?_
  refine W_seq ?_
  obtain ⟨x5, hx5, hF⟩ := bind_some hF
  refine W_region ?_
  refine L_lda (cs := [.int .i64 r_.kind, v0_1, v0_2, .int .i64 r_.bound, v0_4]) rfl Try.isAgg36 Try.sizeOf36 rfl (Blk.sub hb_g3 0 5) rfl ?_
  refine L_ld (v := v1_0) rfl Try.isAgg23 rfl (hat_g_c1.cell (j := 0) rfl) ?_
  refine L_call (args := #[.agg #[.int .i64 r_.kind, v0_1, v0_2, .int .i64 r_.bound, v0_4], v1_0]) rfl Try.call56 (ops2 rfl rfl) (i_Rule_at_c (r_ := r_) (cells := c1) (Nat.le_trans hB hx.size) (rel0 h0_1) (rel0 h0_2) (rel0 h0_4) (rel0 h1_0) hx5) ?_
  rintro _ w7 ⟨rfl, he7⟩
  have h0_1 := RP.ext h0_1 he7
  have h0_2 := RP.ext h0_2 he7
  have h0_4 := RP.ext h0_4 he7
  have h1_0 := RP.ext h1_0 he7
  have hx := ext_trans hx he7
  refine L_not_ (b := x5) rfl rfl ?_
  refine L_as (v := .bool (!x5)) rfl rfl ?_
  refine L_nil ?_
  refine W_ret ?_
  obtain rfl := so hF
  refine ret1 Try.results85 ?_
  exact ⟨rfl, hx⟩

theorem i_Model_solves_c {m : Model} {cells : List Int} {v0_0 : Value} {v0_1 : Value} {v1 : Value} {w : World} {B : Nat} (hB : B ≤ w.heap.size) (h0_0 : (RP.slice 3 RP.int).rel B w.heap.size w [v0_0] m.sizes) (h0_1 : (RP.slice 36 (rRule 3 23)).rel B w.heap.size w [v0_1] m.rules) (h1 : (RP.slice 3 RP.int).rel B w.heap.size w [v1] cells) {r : Bool} (hF : i_Model_solves m cells = some r) :
    C Try.prog 59 #[.agg #[v0_0, v0_1], v1] w fun v w' => (v = .bool r) ∧ Ext w w' := by
  unfold i_Model_solves at hF
  have hx := ext_refl w
  refine C_enter Try.func59 rfl Try.ntmps59 rfl ?_
  refine W_seq ?_
  refine W_region ?_
  refine L_box (v := .agg #[v0_0, v0_1]) (cs := #[v0_0, v0_1]) rfl rfl rfl ?_
  intro g5 w6 hn6
  have hge_g5 := hn6.geS hx.size
  have hb_g5 := hn6.blk
  have h0_0 := RP.ext h0_0 hn6.ext
  have h0_1 := RP.ext h0_1 hn6.ext
  have h1 := RP.ext h1 hn6.ext
  have hx := ext_trans hx hn6.ext
  refine L_box (v := v1) (cs := #[v1]) rfl rfl (cells_one (one_of h1)) ?_
  intro g7 w8 hn8
  have hge_g7 := hn8.geS hx.size
  have hb_g7 := hn8.blk
  have h0_0 := RP.ext h0_0 hn8.ext
  have h0_1 := RP.ext h0_1 hn8.ext
  have h1 := RP.ext h1 hn8.ext
  have hb_g5 := Blk.ext hb_g5 hn8.ext
  have hx := ext_trans hx hn8.ext
  refine L_as (v := .bool false) rfl rfl ?_
  refine L_nil ?_
  refine W_seq ?_
  obtain ⟨x9, hx9, hF⟩ := bind_some hF
  refine W_region ?_
  refine L_fa (o' := 1) rfl fa_26_1 rfl rfl ?_
  refine L_ld (v := v0_1) rfl Try.isAgg24 rfl (hb_g5.cell (j := 1) rfl) ?_
  refine L_mf rfl (ops1 rfl) ?_
  have hf11 : Fun1 Try.prog B (rRule 3 23) true Value.bool (i_Model_solves_1 cells) (.func (.func 85) #[] #[.pointer (some ⟨g7, 0, none⟩)]) w8 := by
    refine ⟨_, _, rfl, Try.call85, fun w_ hE_ cs_ x_ y_ args_ hr_ hy_ ha_ => ?_⟩
    obtain ⟨p0, p1, p2, rfl, hp0, hp1, hp2⟩ := rRule_iff.1 hr_
    obtain rfl := args_of (b := #[.agg #[.int .i64 x_.kind, p0, p1, .int .i64 x_.bound, p2], .pointer (some ⟨g7, 0, none⟩)]) ha_
    exact i_Model_solves_1_c (c1 := cells) (r_ := x_) (Nat.le_trans hB (ext_trans hx hE_).size) hp0 hp1 hp2 (At.ext (Blk.at hb_g7) hE_) (rel0 (RP.ext h1 hE_)) hy_
  refine L_call (args := #[v0_1, .func (.func 85) #[] #[.pointer (some ⟨g7, 0, none⟩)]]) rfl Try.call66 (ops2 rfl rfl) (slices_ContainsFunc_implRule_c (s := m.rules) (f_ := (i_Model_solves_1 cells)) (Nat.le_trans hB hx.size) (rel0 h0_1) hf11 hx9) ?_
  rintro _ w12 ⟨rfl, he12⟩
  have h0_1 := RP.ext h0_1 he12
  have h1 := RP.ext h1 he12
  have hb_g7 := Blk.ext hb_g7 he12
  have hx := ext_trans hx he12
  refine L_not_ (b := x9) rfl rfl ?_
  refine L_as (v := .bool (!x9)) rfl rfl ?_
  refine L_nil ?_
  refine W_ret ?_
  obtain rfl := so hF
  refine ret1 Try.results59 ?_
  exact ⟨rfl, hx⟩

theorem i_SolvesModel_c {m : Model} {cells : List Int} {v0_0 : Value} {v0_1 : Value} {v1 : Value} {w : World} {B : Nat} (hB : B ≤ w.heap.size) (h0_0 : (RP.slice 3 RP.int).rel B w.heap.size w [v0_0] m.sizes) (h0_1 : (RP.slice 36 (rRule 3 23)).rel B w.heap.size w [v0_1] m.rules) (h1 : (RP.slice 3 RP.int).rel B w.heap.size w [v1] cells) {r : Bool} (hF : i_SolvesModel m cells = some r) :
    C Try.prog 22 #[.agg #[v0_0, v0_1], v1] w fun v w' => (v = .bool r) ∧ Ext w w' := by
  unfold i_SolvesModel at hF
  have hx := ext_refl w
  refine C_enter Try.func22 rfl Try.ntmps22 rfl ?_
  refine W_seq ?_
  refine W_region ?_
  refine L_box (v := .agg #[v0_0, v0_1]) (cs := #[v0_0, v0_1]) rfl rfl rfl ?_
  intro g3 w4 hn4
  have hge_g3 := hn4.geS hx.size
  have hb_g3 := hn4.blk
  have h0_0 := RP.ext h0_0 hn4.ext
  have h0_1 := RP.ext h0_1 hn4.ext
  have h1 := RP.ext h1 hn4.ext
  have hx := ext_trans hx hn4.ext
  refine L_as (v := .bool false) rfl rfl ?_
  refine L_nil ?_
  refine W_seq ?_
  obtain ⟨x5, hx5, hF⟩ := bind_some hF
  obtain ⟨b9, hb9, hF⟩ := bind_some hF
  obtain ⟨R10, hR10⟩ : ∃ R : Fr → World → Prop, R = fun f w_ => f 4 = .bool b9 ∧ Ext w w_ := ⟨_, rfl⟩
  refine W_join R10 ?_ ?_
  ·
    refine W_region ?_
    refine L_lda (cs := [v0_0, v0_1]) rfl Try.isAgg26 Try.sizeOf26 rfl (Blk.sub hb_g3 0 2) rfl ?_
    refine L_mv (v := v1) rfl rfl ?_
    refine L_call (args := #[.agg #[v0_0, v0_1], v1]) rfl Try.call20 (ops2 rfl rfl) (i_CellsValid_c (m := m) (cells := cells) (Nat.le_trans hB hx.size) (rel0 h0_0) (rel0 h0_1) (rel0 h1) hx5) ?_
    rintro _ w11 ⟨rfl, he11⟩
    have h0_0 := RP.ext h0_0 he11
    have h0_1 := RP.ext h0_1 he11
    have h1 := RP.ext h1 he11
    have hb_g3 := Blk.ext hb_g3 he11
    have hx := ext_trans hx he11
    refine L_mv (v := .bool x5) rfl rfl ?_
    refine L_split (d := 8) (b := x5) rfl (fun hc12 => ?_) (fun hc12 => ?_)
    ·
      rw [ite_t hc12] at hb9
      obtain ⟨x7, hx7, hb9⟩ := bind_some hb9
      refine L_lda (cs := [v0_0, v0_1]) rfl Try.isAgg26 Try.sizeOf26 rfl (Blk.sub hb_g3 0 2) rfl ?_
      refine L_mv (v := v1) rfl rfl ?_
      refine L_call (args := #[.agg #[v0_0, v0_1], v1]) rfl Try.call59 (ops2 rfl rfl) (i_Model_solves_c (m := m) (cells := cells) (Nat.le_trans hB hx.size) (rel0 h0_0) (rel0 h0_1) (rel0 h1) hx7) ?_
      rintro _ w13 ⟨rfl, he13⟩
      have h0_0 := RP.ext h0_0 he13
      have h0_1 := RP.ext h0_1 he13
      have h1 := RP.ext h1 he13
      have hx := ext_trans hx he13
      refine L_pick (v := .bool b9) rfl rfl (congrArg Value.bool (so hb9)) ?_
      refine L_as (v := .bool b9) rfl rfl ?_
      refine L_nil ?_
      show R10 _ _
      rw [hR10]
      exact ⟨rfl, hx⟩
    ·
      rw [ite_f hc12] at hb9
      refine L_pass rfl ?_
      refine L_pass rfl ?_
      refine L_pass rfl ?_
      refine L_pick (v := .bool b9) rfl rfl (congrArg Value.bool (so hb9)) ?_
      refine L_as (v := .bool b9) rfl rfl ?_
      refine L_nil ?_
      show R10 _ _
      rw [hR10]
      exact ⟨rfl, hx⟩
  ·
    intro f w_ hR
    rw [hR10] at hR
    obtain ⟨sf4, hx⟩ := hR
    clear hR10
    refine W_ret ?_
    obtain rfl := so hF
    refine ret1 Try.results22 ?_
    exact ⟨sf4, hx⟩

theorem s_l6Solves_c {m : Model} {cells : List Int} {v0_0 : Value} {v0_1 : Value} {v1 : Value} {w : World} {B : Nat} (hB : B ≤ w.heap.size) (h0_0 : (RP.slice 3 RP.int).rel B w.heap.size w [v0_0] m.sizes) (h0_1 : (RP.slice 36 (rRule 3 23)).rel B w.heap.size w [v0_1] m.rules) (h1 : (RP.slice 3 RP.int).rel B w.heap.size w [v1] cells) {r : Bool} (hF : s_l6Solves m cells = some r) :
    C Try.prog 60 #[.agg #[v0_0, v0_1], v1] w fun v w' => (v = .bool r) ∧ Ext w w' := by
  unfold s_l6Solves at hF
  have hx := ext_refl w
  refine C_enter Try.func60 rfl Try.ntmps60 rfl ?_
  refine W_seq ?_
  refine W_region ?_
  refine L_box (v := .agg #[v0_0, v0_1]) (cs := #[v0_0, v0_1]) rfl rfl rfl ?_
  intro g3 w4 hn4
  have hge_g3 := hn4.geS hx.size
  have hb_g3 := hn4.blk
  have h0_0 := RP.ext h0_0 hn4.ext
  have h0_1 := RP.ext h0_1 hn4.ext
  have h1 := RP.ext h1 hn4.ext
  have hx := ext_trans hx hn4.ext
  refine L_as (v := .bool false) rfl rfl ?_
  refine L_nil ?_
  refine W_seq ?_
  refine W_seq ?_
  refine W_region ?_
  refine L_as (v := .int .i64 0) rfl rfl ?_
  refine L_nil ?_
  have hlen6 := len_le h0_1
  obtain ⟨j6, hL6, hF⟩ := bind_some hF
  obtain ⟨R6, hR6⟩ : ∃ R : Fr → World → Prop, R = fun f w_ => j6 = .nx () ∧ Ext w w_ := ⟨_, rfl⟩
  refine W_join R6 ?_ ?_
  ·
    refine W_block ?_
    obtain ⟨I6, hI6⟩ : ∃ I : Nat → Fr → World → Prop, I = fun n f w_ => ∃ i_5 : Nat, ∃ suf6 : List Rule, n = suf6.length ∧ List.drop i_5 m.rules = suf6 ∧ i_5 + suf6.length = m.rules.length ∧ rangeL (s_l6Solves_b1 cells) suf6 i_5 () = some j6 ∧ f 1 = v1 ∧ f 2 = .pointer (some ⟨g3, 0, none⟩) ∧ f 5 = .int .i64 (i_5 : Int) ∧ (RP.slice 3 RP.int).rel B w.heap.size w_ [v1] cells ∧ (RP.slice 3 RP.int).rel B w.heap.size w_ [v0_0] m.sizes ∧ (RP.slice 36 (rRule 3 23)).rel B w.heap.size w_ [v0_1] m.rules ∧ Blk w_ g3 26 #[v0_0, v0_1] ∧ Ext w w_ := ⟨_, rfl⟩
    refine W_loop I6 (n := m.rules.length) ?_ ?_
    · rw [hI6]; exact ⟨0, m.rules, rfl, rfl, Nat.zero_add _, hL6, rfl, rfl, rfl, h1, h0_0, h0_1, hb_g3, hx⟩
    ·
      intro n6 f w_ hI
      rw [hI6] at hI
      obtain ⟨i_5, suf6, rfl, hd6, hl6, hL6, sf1, sf2, sf5, h1, h0_0, h0_1, hb_g3, hx⟩ := hI
      refine W_seq ?_
      refine W_seq ?_
      refine W_region ?_
      refine L_mv (v := .int .i64 (i_5 : Int)) rfl sf5 ?_
      refine L_fa (o' := 1) rfl fa_26_1 sf2 rfl ?_
      refine L_ld (v := v0_1) rfl Try.isAgg24 rfl (hb_g3.cell (j := 1) rfl) ?_
      refine L_len (v := v0_1) rfl Try.underlying24 rfl h0_1 ?_
      refine L_lss (m := (i_5 : Int)) (n := (m.rules.length : Int)) rfl rfl rfl ?_
      refine L_nil ?_
      refine W_cond (b := decide ((i_5 : Int) < (m.rules.length : Int))) rfl (fun hc7 => ?_) (fun hc7 => ?_)
      ·
        have hlt6 := of_decide_eq_true hc7
        cases suf6 with
        | nil => exact absurd hlt6 (by simp at hl6; omega)
        | cons x_6 rest6 =>
          obtain ⟨o6, hB6, hL6⟩ := range_cons hL6
          rw [s_l6Solves_b1] at hB6
          have hix6 := drop_idx hd6
          refine W_skip ?_
          refine W_seq ?_
          refine W_block ?_
          refine W_seq ?_
          obtain ⟨x10, hx10, hB6⟩ := bind_some hB6
          refine W_region ?_
          refine L_fa (o' := 1) rfl fa_26_1 sf2 rfl ?_
          refine L_ld (v := v0_1) rfl Try.isAgg24 rfl (hb_g3.cell (j := 1) rfl) ?_
          refine L_mv (v := .int .i64 (i_5 : Int)) rfl sf5 ?_
          refine L_ix (r := (rRule 3 23)) rfl Try.underlying24 Try.sizeOf36 rfl h0_1 rfl hix6 ?_
          intro g12 o13 cs13 hr13 hat13
          obtain ⟨u13_0, u13_1, u13_2, rfl, hu13_0, hu13_1, hu13_2⟩ := rRule_iff.1 hr13
          refine L_lda (cs := [.int .i64 x_6.kind, u13_0, u13_1, .int .i64 x_6.bound, u13_2]) rfl Try.isAgg36 Try.sizeOf36 rfl (At.sub hat13 0 5) rfl ?_
          refine L_mv (v := v1) rfl sf1 ?_
          refine L_call (args := #[.agg #[.int .i64 x_6.kind, u13_0, u13_1, .int .i64 x_6.bound, u13_2], v1]) rfl Try.call57 (ops2 rfl rfl) (s_l6Holds_c (r_ := x_6) (cells := cells) (Nat.le_trans hB hx.size) (rel0 hu13_0) (rel0 hu13_1) (rel0 hu13_2) (rel0 h1) hx10) ?_
          rintro _ w14 ⟨rfl, he14⟩
          have h1 := RP.ext h1 he14
          have h0_0 := RP.ext h0_0 he14
          have h0_1 := RP.ext h0_1 he14
          have hb_g3 := Blk.ext hb_g3 he14
          have hu13_0 := RP.ext hu13_0 he14
          have hu13_1 := RP.ext hu13_1 he14
          have hu13_2 := RP.ext hu13_2 he14
          have hx := ext_trans hx he14
          refine L_not_ (b := x10) rfl rfl ?_
          refine L_nil ?_
          refine W_cond (b := (!x10)) rfl (fun hc15 => ?_) (fun hc15 => ?_)
          ·
            have hB6 := (ite_t hc15).symm.trans hB6
            refine W_seq ?_
            refine W_region ?_
            refine L_as (v := .bool false) rfl rfl ?_
            refine L_nil ?_
            refine W_ret ?_
            obtain rfl := so hB6
            obtain rfl := so hL6
            obtain rfl := so hF
            refine ret1 Try.results60 ?_
            exact ⟨rfl, hx⟩
          ·
            have hB6 := (ite_f hc15).symm.trans hB6
            refine W_skip ?_
            refine W_region ?_
            refine L_mv (v := .int .i64 (i_5 : Int)) rfl sf5 ?_
            refine L_add (m := (i_5 : Int)) (n := 1) rfl rfl rfl ?_
            refine L_as (v := .int .i64 (i64 ((i_5 : Int) + 1))) rfl rfl ?_
            refine L_nil ?_
            obtain rfl := so hB6
            show ∃ m, m < _ ∧ I6 m _ _
            refine ⟨rest6.length, by simp, ?_⟩
            rw [hI6]
            exact ⟨i_5 + 1, rest6, rfl, drop_next hd6, by simp at hl6; omega, hL6, sf1, sf2, (Eq.trans rfl (congrArg (Value.int .i64) (i64_succ (n := m.rules.length) (by simp at hl6; omega) hlen6))), h1, h0_0, h0_1, hb_g3, hx⟩
      ·
        cases suf6 with
        | cons _ _ => exact absurd (of_decide_eq_false hc7) (by simp at hl6; omega)
        | nil =>
          obtain rfl := range_nil hL6
          refine W_exit ?_
          show R6 _ _
          rw [hR6]
          exact ⟨rfl, hx⟩
  ·
    intro f w_ hR
    rw [hR6] at hR
    obtain ⟨rfl, hx⟩ := hR
    clear hR6
    refine W_seq ?_
    refine W_region ?_
    refine L_as (v := .bool true) rfl rfl ?_
    refine L_nil ?_
    refine W_ret ?_
    obtain rfl := so hF
    refine ret1 Try.results60 ?_
    exact ⟨rfl, hx⟩

theorem s_SolvesModel_c {fu : Nat} {m : Model} {cells : List Int} {v0_0 : Value} {v0_1 : Value} {v1 : Value} {w : World} {B : Nat} (hB : B ≤ w.heap.size) (h0_0 : (RP.slice 3 RP.int).rel B w.heap.size w [v0_0] m.sizes) (h0_1 : (RP.slice 36 (rRule 3 23)).rel B w.heap.size w [v0_1] m.rules) (h1 : (RP.slice 3 RP.int).rel B w.heap.size w [v1] cells) {r : Bool} (hF : s_SolvesModel fu m cells = some r) :
    C Try.prog 23 #[.agg #[v0_0, v0_1], v1] w fun v w' => (v = .bool r) ∧ Ext w w' := by
  unfold s_SolvesModel at hF
  have hx := ext_refl w
  refine C_enter Try.func23 rfl Try.ntmps23 rfl ?_
  refine W_seq ?_
  refine W_region ?_
  refine L_box (v := .agg #[v0_0, v0_1]) (cs := #[v0_0, v0_1]) rfl rfl rfl ?_
  intro g3 w4 hn4
  have hge_g3 := hn4.geS hx.size
  have hb_g3 := hn4.blk
  have h0_0 := RP.ext h0_0 hn4.ext
  have h0_1 := RP.ext h0_1 hn4.ext
  have h1 := RP.ext h1 hn4.ext
  have hx := ext_trans hx hn4.ext
  refine L_as (v := .bool false) rfl rfl ?_
  refine L_nil ?_
  refine W_seq ?_
  obtain ⟨x5, hx5, hF⟩ := bind_some hF
  obtain ⟨b9, hb9, hF⟩ := bind_some hF
  obtain ⟨R10, hR10⟩ : ∃ R : Fr → World → Prop, R = fun f w_ => f 4 = .bool b9 ∧ Ext w w_ := ⟨_, rfl⟩
  refine W_join R10 ?_ ?_
  ·
    refine W_region ?_
    refine L_lda (cs := [v0_0, v0_1]) rfl Try.isAgg26 Try.sizeOf26 rfl (Blk.sub hb_g3 0 2) rfl ?_
    refine L_mv (v := v1) rfl rfl ?_
    refine L_call (args := #[.agg #[v0_0, v0_1], v1]) rfl Try.call24 (ops2 rfl rfl) (s_CellsValid_c (m := m) (cells := cells) (Nat.le_trans hB hx.size) (rel0 h0_0) (rel0 h0_1) (rel0 h1) hx5) ?_
    rintro _ w11 ⟨rfl, he11⟩
    have h0_0 := RP.ext h0_0 he11
    have h0_1 := RP.ext h0_1 he11
    have h1 := RP.ext h1 he11
    have hb_g3 := Blk.ext hb_g3 he11
    have hx := ext_trans hx he11
    refine L_mv (v := .bool x5) rfl rfl ?_
    refine L_split (d := 8) (b := x5) rfl (fun hc12 => ?_) (fun hc12 => ?_)
    ·
      rw [ite_t hc12] at hb9
      obtain ⟨x7, hx7, hb9⟩ := bind_some hb9
      refine L_lda (cs := [v0_0, v0_1]) rfl Try.isAgg26 Try.sizeOf26 rfl (Blk.sub hb_g3 0 2) rfl ?_
      refine L_mv (v := v1) rfl rfl ?_
      refine L_call (args := #[.agg #[v0_0, v0_1], v1]) rfl Try.call60 (ops2 rfl rfl) (s_l6Solves_c (m := m) (cells := cells) (Nat.le_trans hB hx.size) (rel0 h0_0) (rel0 h0_1) (rel0 h1) hx7) ?_
      rintro _ w13 ⟨rfl, he13⟩
      have h0_0 := RP.ext h0_0 he13
      have h0_1 := RP.ext h0_1 he13
      have h1 := RP.ext h1 he13
      have hx := ext_trans hx he13
      refine L_pick (v := .bool b9) rfl rfl (congrArg Value.bool (so hb9)) ?_
      refine L_as (v := .bool b9) rfl rfl ?_
      refine L_nil ?_
      show R10 _ _
      rw [hR10]
      exact ⟨rfl, hx⟩
    ·
      rw [ite_f hc12] at hb9
      refine L_pass rfl ?_
      refine L_pass rfl ?_
      refine L_pass rfl ?_
      refine L_pick (v := .bool b9) rfl rfl (congrArg Value.bool (so hb9)) ?_
      refine L_as (v := .bool b9) rfl rfl ?_
      refine L_nil ?_
      show R10 _ _
      rw [hR10]
      exact ⟨rfl, hx⟩
  ·
    intro f w_ hR
    rw [hR10] at hR
    obtain ⟨sf4, hx⟩ := hR
    clear hR10
    refine W_ret ?_
    obtain rfl := so hF
    refine ret1 Try.results23 ?_
    exact ⟨sf4, hx⟩

theorem l_FnSolvesModel_c {fu : Nat} {code : List UInt8} {v0 : Value} {w : World} {B : Nat} (hB : B ≤ w.heap.size) (h0 : (RP.slice 5 RP.u8).rel B w.heap.size w [v0] code) {r : Bool} (hF : l_FnSolvesModel fu code = some r) :
    C Try.prog 7 #[v0] w fun v w' => (v = .bool r) ∧ Ext w w' := by
  unfold l_FnSolvesModel at hF
  have hx := ext_refl w
  refine C_enter Try.func7 rfl Try.ntmps7 rfl ?_
  refine W_seq ?_
  refine W_region ?_
  refine L_as (v := .bool false) rfl rfl ?_
  refine L_nil ?_
  refine W_seq ?_
  refine W_seq ?_
  refine W_region ?_
  refine L_mv (v := v0) rfl rfl ?_
  refine L_len (v := v0) rfl Try.underlying22 rfl h0 ?_
  refine L_gtr (m := (code.length : Int)) (n := 1048576) rfl rfl rfl ?_
  refine L_nil ?_
  refine W_cond (b := decide ((code.length : Int) > 1048576)) rfl (fun hc1 => ?_) (fun hc1 => ?_)
  ·
    have hF := (ite_t hc1).symm.trans hF
    refine W_seq ?_
    refine W_region ?_
    refine L_as (v := .bool true) rfl rfl ?_
    refine L_nil ?_
    refine W_ret ?_
    obtain rfl := so hF
    refine ret1 Try.results7 ?_
    exact ⟨rfl, hx⟩
  ·
    have hF := (ite_f hc1).symm.trans hF
    refine W_skip ?_
    refine W_seq ?_
    obtain ⟨hx2, hF⟩ := anyB_some hF
    refine W_region ?_
    refine L_mv (v := v0) rfl rfl ?_
    refine L_call (args := #[v0]) rfl Try.call21 (ops1 rfl) (s_DrawSolvesModel_c (code := code) (Nat.le_trans hB hx.size) (rel0 h0) hx2) ?_
    rintro _ w7 ⟨⟨x2, gd7, ⟨r7_0, r7_1, r7_2, rfl, hr7_0, hr7_1, hr7_2⟩⟩, he7⟩
    have hF := hF x2 gd7
    have h0 := RP.ext h0 he7
    have hx := ext_trans hx he7
    refine L_mv (v := .tuple #[.agg #[r7_0, r7_1], r7_2]) rfl rfl ?_
    refine L_ex (v := .agg #[r7_0, r7_1]) rfl rfl rfl ?_
    refine L_ex (v := r7_2) rfl rfl rfl ?_
    refine L_al (cs := #[(.slice none 0 0), (.slice none 0 0)]) rfl Try.zeroValue26 rfl ?_
    intro g8 w9 hn9
    have hge_g8 := hn9.geS hx.size
    have hb_g8 := hn9.blk
    have hr7_0 := RP.ext hr7_0 hn9.ext
    have hr7_1 := RP.ext hr7_1 hn9.ext
    have hr7_2 := RP.ext hr7_2 hn9.ext
    have hx := ext_trans hx hn9.ext
    refine L_sta (vs := #[r7_0, r7_1]) rfl Try.sizeOf26 rfl rfl rfl (ones_cons (one_of hr7_0) (ones_cons (one_of hr7_1) ones_nil)) hb_g8 rfl ?_
    intro w10 hp10
    have hr7_0 := hp10.mu.rel hr7_0 (by decide) (Nat.le_trans hB hge_g8)
    have hr7_1 := hp10.mu.rel hr7_1 (by decide) (Nat.le_trans hB hge_g8)
    have hr7_2 := hp10.mu.rel hr7_2 (by decide) (Nat.le_trans hB hge_g8)
    have hx := ext_mut hx hp10.mu hge_g8
    have hb_g8 : Blk w10 g8 26 #[r7_0, r7_1] := hp10.blk
    refine L_as (v := r7_2) rfl rfl ?_
    refine L_nil ?_
    refine W_seq ?_
    obtain ⟨x11, hx11, hF⟩ := bind_some hF
    refine W_region ?_
    refine L_lda (cs := [r7_0, r7_1]) rfl Try.isAgg26 Try.sizeOf26 rfl (Blk.sub hb_g8 0 2) rfl ?_
    refine L_mv (v := r7_2) rfl rfl ?_
    refine L_call (args := #[.agg #[r7_0, r7_1], r7_2]) rfl Try.call22 (ops2 rfl rfl) (i_SolvesModel_c (m := x2.1) (cells := x2.2) (Nat.le_trans hB hx.size) (rel0 hr7_0) (rel0 hr7_1) (rel0 hr7_2) hx11) ?_
    rintro _ w13 ⟨rfl, he13⟩
    have hr7_0 := RP.ext hr7_0 he13
    have hr7_1 := RP.ext hr7_1 he13
    have hr7_2 := RP.ext hr7_2 he13
    have hb_g8 := Blk.ext hb_g8 he13
    have hx := ext_trans hx he13
    refine L_as (v := .bool x11) rfl rfl ?_
    refine L_nil ?_
    refine W_seq ?_
    refine W_seq ?_
    obtain ⟨x14, hx14, hF⟩ := bind_some hF
    obtain ⟨b20, hb20, hF⟩ := bind_some hF
    obtain ⟨b23, hb23, hF⟩ := bind_some hF
    obtain ⟨R25, hR25⟩ : ∃ R : Fr → World → Prop, R = fun f w_ => f 3 = .pointer (some ⟨g8, 0, none⟩) ∧ f 4 = r7_2 ∧ f 5 = .bool x11 ∧ f 38 = .bool b23 ∧ (RP.slice 3 RP.int).rel B w_.heap.size w_ [r7_2] x2.2 ∧ (RP.slice 3 RP.int).rel B w_.heap.size w_ [r7_0] x2.1.sizes ∧ (RP.slice 36 (rRule 3 23)).rel B w_.heap.size w_ [r7_1] x2.1.rules ∧ Blk w_ g8 26 #[r7_0, r7_1] ∧ Ext w w_ := ⟨_, rfl⟩
    refine W_join R25 ?_ ?_
    ·
      rcases Bool.eq_false_or_eq_true (x11 != x14) with hc26 | hc26
      ·
        rw [ite_t hc26] at hb20
        rcases Bool.eq_false_or_eq_true b20 with hc27 | hc27
        ·
          rw [ite_t hc27] at hb23
          refine W_drawL 17 [isV (.bool x11), isV (.agg #[r7_0, r7_1]), isV (r7_2), isV (.bool x14), isV (.bool (x11 != x14)), isV (.bool (x11 != x14)), isV (undef), isV (undef), isV (undef), isV (undef), isV (undef), isV (undef), isV (undef), isV (.bool b20), isV (.bool b20), isV (undef), isV (undef)] Try_mix (by kernel_rfl) (am_cons (mono_V _) (am_cons (mono_V _) (am_cons (mono_V _) (am_cons (mono_V _) (am_cons (mono_V _) (am_cons (mono_V _) (am_cons (mono_V _) (am_cons (mono_V _) (am_cons (mono_V _) (am_cons (mono_V _) (am_cons (mono_V _) (am_cons (mono_V _) (am_cons (mono_V _) (am_cons (mono_V _) (am_cons (mono_V _) (am_cons (mono_V _) (am_cons (mono_V _) am_nil))))))))))))))))) ?_ (fun f w_ hS24 hE24 hT24 => ?_)
          ·
            refine ops_cons (fun f w_ hS24 hE24 hP24 => ?_) ?_
            ·
              have hx := ext_trans hx hE24
              refine L_mv (v := .bool x11) rfl ((hS24 5 rfl).trans rfl) ?_
              exact L_nil ⟨rfl, (ext_refl _), _, _, rfl, rfl, rfl⟩
            refine ops_cons (fun f w_ hS24 hE24 hP24 => ?_) ?_
            ·
              have hx := ext_trans hx hE24
              have hr7_0 := RP.ext hr7_0 hE24
              have hr7_1 := RP.ext hr7_1 hE24
              have hb_g8 := Blk.ext hb_g8 hE24
              refine L_lda (cs := [r7_0, r7_1]) rfl Try.isAgg26 Try.sizeOf26 ((hS24 3 rfl).trans rfl) (Blk.sub hb_g8 0 2) rfl ?_
              exact L_nil ⟨rfl, (ext_refl _), _, _, rfl, rfl, rfl⟩
            refine ops_cons (fun f w_ hS24 hE24 hP24 => ?_) ?_
            ·
              have hx := ext_trans hx hE24
              have hr7_2 := RP.ext hr7_2 hE24
              refine L_mv (v := r7_2) rfl ((hS24 4 rfl).trans rfl) ?_
              exact L_nil ⟨rfl, (ext_refl _), _, _, rfl, rfl, rfl⟩
            refine ops_cons (fun f w_ hS24 hE24 hP24 => ?_) ?_
            ·
              have hx := ext_trans hx hE24
              have hr7_0 := RP.ext hr7_0 hE24
              have hr7_1 := RP.ext hr7_1 hE24
              have hr7_2 := RP.ext hr7_2 hE24
              refine L_call (args := #[.agg #[r7_0, r7_1], r7_2]) rfl Try.call23 (ops2 (hP24 1 20 rfl rfl) (hP24 2 21 rfl rfl)) (s_SolvesModel_c (m := x2.1) (cells := x2.2) (Nat.le_trans hB hx.size) (rel0 hr7_0) (rel0 hr7_1) (rel0 hr7_2) hx14) ?_
              rintro _ w29 ⟨rfl, he29⟩
              have hr7_0 := RP.ext hr7_0 he29
              have hr7_1 := RP.ext hr7_1 he29
              have hr7_2 := RP.ext hr7_2 he29
              have hx := ext_trans hx he29
              exact L_nil ⟨rfl, he29, _, _, rfl, rfl, rfl⟩
            refine ops_cons (fun f w_ hS24 hE24 hP24 => ?_) ?_
            ·
              have hx := ext_trans hx hE24
              refine L_bneq (b := x11) (c := x14) rfl Try.underlying4 (hP24 0 19 rfl rfl) (hP24 3 22 rfl rfl) ?_
              exact L_nil ⟨rfl, (ext_refl _), _, _, rfl, rfl, rfl⟩
            refine ops_cons (fun f w_ hS24 hE24 hP24 => ?_) ?_
            ·
              have hx := ext_trans hx hE24
              refine L_mv (v := .bool (x11 != x14)) rfl (hP24 4 23 rfl rfl) ?_
              exact L_nil ⟨rfl, (ext_refl _), _, _, rfl, rfl, rfl⟩
            refine ops_cons (fun f w_ hS24 hE24 hP24 => ?_) ?_
            ·
              have hx := ext_trans hx hE24
              have hr7_0 := RP.ext hr7_0 hE24
              have hr7_1 := RP.ext hr7_1 hE24
              have hb_g8 := Blk.ext hb_g8 hE24
              refine L_pass (g_no rfl (Eq.trans (hP24 5 24 rfl rfl) (congrArg Value.bool hc26)) rfl rfl) ?_
              exact L_nil ⟨rfl, (ext_refl _), _, _, rfl, rfl, rfl⟩
            refine ops_cons (fun f w_ hS24 hE24 hP24 => ?_) ?_
            ·
              have hx := ext_trans hx hE24
              have hr7_2 := RP.ext hr7_2 hE24
              refine L_pass (g_no rfl (Eq.trans (hP24 5 24 rfl rfl) (congrArg Value.bool hc26)) rfl rfl) ?_
              exact L_nil ⟨rfl, (ext_refl _), _, _, rfl, rfl, rfl⟩
            refine ops_cons (fun f w_ hS24 hE24 hP24 => ?_) ?_
            ·
              have hx := ext_trans hx hE24
              refine L_pass (g_no rfl (Eq.trans (hP24 5 24 rfl rfl) (congrArg Value.bool hc26)) rfl rfl) ?_
              exact L_nil ⟨rfl, (ext_refl _), _, _, rfl, rfl, rfl⟩
            refine ops_cons (fun f w_ hS24 hE24 hP24 => ?_) ?_
            ·
              have hx := ext_trans hx hE24
              have hr7_0 := RP.ext hr7_0 hE24
              have hr7_1 := RP.ext hr7_1 hE24
              have hb_g8 := Blk.ext hb_g8 hE24
              refine L_pass (g_no rfl (Eq.trans (hP24 5 24 rfl rfl) (congrArg Value.bool hc26)) rfl rfl) ?_
              exact L_nil ⟨rfl, (ext_refl _), _, _, rfl, rfl, rfl⟩
            refine ops_cons (fun f w_ hS24 hE24 hP24 => ?_) ?_
            ·
              have hx := ext_trans hx hE24
              have hr7_2 := RP.ext hr7_2 hE24
              refine L_pass (g_no rfl (Eq.trans (hP24 5 24 rfl rfl) (congrArg Value.bool hc26)) rfl rfl) ?_
              exact L_nil ⟨rfl, (ext_refl _), _, _, rfl, rfl, rfl⟩
            refine ops_cons (fun f w_ hS24 hE24 hP24 => ?_) ?_
            ·
              have hx := ext_trans hx hE24
              refine L_pass (g_no rfl (Eq.trans (hP24 5 24 rfl rfl) (congrArg Value.bool hc26)) rfl rfl) ?_
              exact L_nil ⟨rfl, (ext_refl _), _, _, rfl, rfl, rfl⟩
            refine ops_cons (fun f w_ hS24 hE24 hP24 => ?_) ?_
            ·
              have hx := ext_trans hx hE24
              refine L_pass (g_no rfl (Eq.trans (hP24 5 24 rfl rfl) (congrArg Value.bool hc26)) rfl rfl) ?_
              exact L_nil ⟨rfl, (ext_refl _), _, _, rfl, rfl, rfl⟩
            refine ops_cons (fun f w_ hS24 hE24 hP24 => ?_) ?_
            ·
              have hx := ext_trans hx hE24
              refine L_pick (v := .bool b20) rfl (Eq.trans (hP24 5 24 rfl rfl) (congrArg Value.bool hc26)) (congrArg Value.bool (so hb20)) ?_
              exact L_nil ⟨rfl, (ext_refl _), _, _, rfl, rfl, rfl⟩
            refine ops_cons (fun f w_ hS24 hE24 hP24 => ?_) ?_
            ·
              have hx := ext_trans hx hE24
              refine L_mv (v := .bool b20) rfl (hP24 13 32 rfl rfl) ?_
              exact L_nil ⟨rfl, (ext_refl _), _, _, rfl, rfl, rfl⟩
            refine ops_cons (fun f w_ hS24 hE24 hP24 => ?_) ?_
            ·
              have hx := ext_trans hx hE24
              have hr7_0 := RP.ext hr7_0 hE24
              have hr7_1 := RP.ext hr7_1 hE24
              have hb_g8 := Blk.ext hb_g8 hE24
              refine L_pass (g_no rfl (Eq.trans (hP24 14 33 rfl rfl) (congrArg Value.bool hc27)) rfl rfl) ?_
              exact L_nil ⟨rfl, (ext_refl _), _, _, rfl, rfl, rfl⟩
            refine ops_cons (fun f w_ hS24 hE24 hP24 => ?_) ?_
            ·
              have hx := ext_trans hx hE24
              have hr7_2 := RP.ext hr7_2 hE24
              refine L_pass (g_no rfl (Eq.trans (hP24 14 33 rfl rfl) (congrArg Value.bool hc27)) rfl rfl) ?_
              exact L_nil ⟨rfl, (ext_refl _), _, _, rfl, rfl, rfl⟩
            exact ops_nil
          ·
            have hr7_0 := RP.ext hr7_0 hE24
            have hr7_1 := RP.ext hr7_1 hE24
            have hr7_2 := RP.ext hr7_2 hE24
            have hb_g8 := Blk.ext hb_g8 hE24
            have hx := ext_trans hx hE24
            refine L_pass (g_no rfl (Eq.trans (hT24 14 33 rfl rfl) (congrArg Value.bool hc27)) rfl rfl) ?_
            refine L_pass (g_no rfl (Eq.trans (hT24 14 33 rfl rfl) (congrArg Value.bool hc27)) rfl rfl) ?_
            refine L_pick (v := .bool b23) rfl (Eq.trans (hT24 14 33 rfl rfl) (congrArg Value.bool hc27)) (congrArg Value.bool (so hb23)) ?_
            refine L_nil ?_
            show R25 _ _
            rw [hR25]
            exact ⟨((hS24 3 rfl).trans rfl), ((hS24 4 rfl).trans rfl), ((hS24 5 rfl).trans rfl), rfl, (rel0 hr7_2), (rel0 hr7_0), (rel0 hr7_1), hb_g8, hx⟩
        ·
          rw [ite_f hc27] at hb23
          obtain ⟨x21, hx21, hb23⟩ := bind_some hb23
          refine W_drawL 17 [isV (.bool x11), isV (.agg #[r7_0, r7_1]), isV (r7_2), isV (.bool x14), isV (.bool (x11 != x14)), isV (.bool (x11 != x14)), isV (undef), isV (undef), isV (undef), isV (undef), isV (undef), isV (undef), isV (undef), isV (.bool b20), isV (.bool b20), isV (.agg #[r7_0, r7_1]), isV (r7_2)] Try_mix (by kernel_rfl) (am_cons (mono_V _) (am_cons (mono_V _) (am_cons (mono_V _) (am_cons (mono_V _) (am_cons (mono_V _) (am_cons (mono_V _) (am_cons (mono_V _) (am_cons (mono_V _) (am_cons (mono_V _) (am_cons (mono_V _) (am_cons (mono_V _) (am_cons (mono_V _) (am_cons (mono_V _) (am_cons (mono_V _) (am_cons (mono_V _) (am_cons (mono_V _) (am_cons (mono_V _) am_nil))))))))))))))))) ?_ (fun f w_ hS24 hE24 hT24 => ?_)
          ·
            refine ops_cons (fun f w_ hS24 hE24 hP24 => ?_) ?_
            ·
              have hx := ext_trans hx hE24
              refine L_mv (v := .bool x11) rfl ((hS24 5 rfl).trans rfl) ?_
              exact L_nil ⟨rfl, (ext_refl _), _, _, rfl, rfl, rfl⟩
            refine ops_cons (fun f w_ hS24 hE24 hP24 => ?_) ?_
            ·
              have hx := ext_trans hx hE24
              have hr7_0 := RP.ext hr7_0 hE24
              have hr7_1 := RP.ext hr7_1 hE24
              have hb_g8 := Blk.ext hb_g8 hE24
              refine L_lda (cs := [r7_0, r7_1]) rfl Try.isAgg26 Try.sizeOf26 ((hS24 3 rfl).trans rfl) (Blk.sub hb_g8 0 2) rfl ?_
              exact L_nil ⟨rfl, (ext_refl _), _, _, rfl, rfl, rfl⟩
            refine ops_cons (fun f w_ hS24 hE24 hP24 => ?_) ?_
            ·
              have hx := ext_trans hx hE24
              have hr7_2 := RP.ext hr7_2 hE24
              refine L_mv (v := r7_2) rfl ((hS24 4 rfl).trans rfl) ?_
              exact L_nil ⟨rfl, (ext_refl _), _, _, rfl, rfl, rfl⟩
            refine ops_cons (fun f w_ hS24 hE24 hP24 => ?_) ?_
            ·
              have hx := ext_trans hx hE24
              have hr7_0 := RP.ext hr7_0 hE24
              have hr7_1 := RP.ext hr7_1 hE24
              have hr7_2 := RP.ext hr7_2 hE24
              refine L_call (args := #[.agg #[r7_0, r7_1], r7_2]) rfl Try.call23 (ops2 (hP24 1 20 rfl rfl) (hP24 2 21 rfl rfl)) (s_SolvesModel_c (m := x2.1) (cells := x2.2) (Nat.le_trans hB hx.size) (rel0 hr7_0) (rel0 hr7_1) (rel0 hr7_2) hx14) ?_
              rintro _ w31 ⟨rfl, he31⟩
              have hr7_0 := RP.ext hr7_0 he31
              have hr7_1 := RP.ext hr7_1 he31
              have hr7_2 := RP.ext hr7_2 he31
              have hx := ext_trans hx he31
              exact L_nil ⟨rfl, he31, _, _, rfl, rfl, rfl⟩
            refine ops_cons (fun f w_ hS24 hE24 hP24 => ?_) ?_
            ·
              have hx := ext_trans hx hE24
              refine L_bneq (b := x11) (c := x14) rfl Try.underlying4 (hP24 0 19 rfl rfl) (hP24 3 22 rfl rfl) ?_
              exact L_nil ⟨rfl, (ext_refl _), _, _, rfl, rfl, rfl⟩
            refine ops_cons (fun f w_ hS24 hE24 hP24 => ?_) ?_
            ·
              have hx := ext_trans hx hE24
              refine L_mv (v := .bool (x11 != x14)) rfl (hP24 4 23 rfl rfl) ?_
              exact L_nil ⟨rfl, (ext_refl _), _, _, rfl, rfl, rfl⟩
            refine ops_cons (fun f w_ hS24 hE24 hP24 => ?_) ?_
            ·
              have hx := ext_trans hx hE24
              have hr7_0 := RP.ext hr7_0 hE24
              have hr7_1 := RP.ext hr7_1 hE24
              have hb_g8 := Blk.ext hb_g8 hE24
              refine L_pass (g_no rfl (Eq.trans (hP24 5 24 rfl rfl) (congrArg Value.bool hc26)) rfl rfl) ?_
              exact L_nil ⟨rfl, (ext_refl _), _, _, rfl, rfl, rfl⟩
            refine ops_cons (fun f w_ hS24 hE24 hP24 => ?_) ?_
            ·
              have hx := ext_trans hx hE24
              have hr7_2 := RP.ext hr7_2 hE24
              refine L_pass (g_no rfl (Eq.trans (hP24 5 24 rfl rfl) (congrArg Value.bool hc26)) rfl rfl) ?_
              exact L_nil ⟨rfl, (ext_refl _), _, _, rfl, rfl, rfl⟩
            refine ops_cons (fun f w_ hS24 hE24 hP24 => ?_) ?_
            ·
              have hx := ext_trans hx hE24
              refine L_pass (g_no rfl (Eq.trans (hP24 5 24 rfl rfl) (congrArg Value.bool hc26)) rfl rfl) ?_
              exact L_nil ⟨rfl, (ext_refl _), _, _, rfl, rfl, rfl⟩
            refine ops_cons (fun f w_ hS24 hE24 hP24 => ?_) ?_
            ·
              have hx := ext_trans hx hE24
              have hr7_0 := RP.ext hr7_0 hE24
              have hr7_1 := RP.ext hr7_1 hE24
              have hb_g8 := Blk.ext hb_g8 hE24
              refine L_pass (g_no rfl (Eq.trans (hP24 5 24 rfl rfl) (congrArg Value.bool hc26)) rfl rfl) ?_
              exact L_nil ⟨rfl, (ext_refl _), _, _, rfl, rfl, rfl⟩
            refine ops_cons (fun f w_ hS24 hE24 hP24 => ?_) ?_
            ·
              have hx := ext_trans hx hE24
              have hr7_2 := RP.ext hr7_2 hE24
              refine L_pass (g_no rfl (Eq.trans (hP24 5 24 rfl rfl) (congrArg Value.bool hc26)) rfl rfl) ?_
              exact L_nil ⟨rfl, (ext_refl _), _, _, rfl, rfl, rfl⟩
            refine ops_cons (fun f w_ hS24 hE24 hP24 => ?_) ?_
            ·
              have hx := ext_trans hx hE24
              refine L_pass (g_no rfl (Eq.trans (hP24 5 24 rfl rfl) (congrArg Value.bool hc26)) rfl rfl) ?_
              exact L_nil ⟨rfl, (ext_refl _), _, _, rfl, rfl, rfl⟩
            refine ops_cons (fun f w_ hS24 hE24 hP24 => ?_) ?_
            ·
              have hx := ext_trans hx hE24
              refine L_pass (g_no rfl (Eq.trans (hP24 5 24 rfl rfl) (congrArg Value.bool hc26)) rfl rfl) ?_
              exact L_nil ⟨rfl, (ext_refl _), _, _, rfl, rfl, rfl⟩
            refine ops_cons (fun f w_ hS24 hE24 hP24 => ?_) ?_
            ·
              have hx := ext_trans hx hE24
              refine L_pick (v := .bool b20) rfl (Eq.trans (hP24 5 24 rfl rfl) (congrArg Value.bool hc26)) (congrArg Value.bool (so hb20)) ?_
              exact L_nil ⟨rfl, (ext_refl _), _, _, rfl, rfl, rfl⟩
            refine ops_cons (fun f w_ hS24 hE24 hP24 => ?_) ?_
            ·
              have hx := ext_trans hx hE24
              refine L_mv (v := .bool b20) rfl (hP24 13 32 rfl rfl) ?_
              exact L_nil ⟨rfl, (ext_refl _), _, _, rfl, rfl, rfl⟩
            refine ops_cons (fun f w_ hS24 hE24 hP24 => ?_) ?_
            ·
              have hx := ext_trans hx hE24
              have hr7_0 := RP.ext hr7_0 hE24
              have hr7_1 := RP.ext hr7_1 hE24
              have hb_g8 := Blk.ext hb_g8 hE24
              refine L_lda (cs := [r7_0, r7_1]) (g_yes rfl (Eq.trans (hP24 14 33 rfl rfl) (congrArg Value.bool hc27)) rfl) Try.isAgg26 Try.sizeOf26 ((hS24 3 rfl).trans rfl) (Blk.sub hb_g8 0 2) rfl ?_
              exact L_nil ⟨rfl, (ext_refl _), _, _, rfl, rfl, rfl⟩
            refine ops_cons (fun f w_ hS24 hE24 hP24 => ?_) ?_
            ·
              have hx := ext_trans hx hE24
              have hr7_2 := RP.ext hr7_2 hE24
              refine L_mv (v := r7_2) (g_yes rfl (Eq.trans (hP24 14 33 rfl rfl) (congrArg Value.bool hc27)) rfl) ((hS24 4 rfl).trans rfl) ?_
              exact L_nil ⟨rfl, (ext_refl _), _, _, rfl, rfl, rfl⟩
            exact ops_nil
          ·
            have hr7_0 := RP.ext hr7_0 hE24
            have hr7_1 := RP.ext hr7_1 hE24
            have hr7_2 := RP.ext hr7_2 hE24
            have hb_g8 := Blk.ext hb_g8 hE24
            have hx := ext_trans hx hE24
            refine L_call (args := #[.agg #[r7_0, r7_1], r7_2]) (g_yes rfl (Eq.trans (hT24 14 33 rfl rfl) (congrArg Value.bool hc27)) rfl) Try.call20 (ops2 (hT24 15 34 rfl rfl) (hT24 16 35 rfl rfl)) (i_CellsValid_c (m := x2.1) (cells := x2.2) (Nat.le_trans hB hx.size) (rel0 hr7_0) (rel0 hr7_1) (rel0 hr7_2) hx21) ?_
            rintro _ w32 ⟨rfl, he32⟩
            have hr7_0 := RP.ext hr7_0 he32
            have hr7_1 := RP.ext hr7_1 he32
            have hr7_2 := RP.ext hr7_2 he32
            have hb_g8 := Blk.ext hb_g8 he32
            have hx := ext_trans hx he32
            refine L_not_ (b := x21) (g_yes rfl (Eq.trans (hT24 14 33 rfl rfl) (congrArg Value.bool hc27)) rfl) rfl ?_
            refine L_pick (v := .bool b23) rfl (Eq.trans (hT24 14 33 rfl rfl) (congrArg Value.bool hc27)) (congrArg Value.bool (so hb23)) ?_
            refine L_nil ?_
            show R25 _ _
            rw [hR25]
            exact ⟨((hS24 3 rfl).trans rfl), ((hS24 4 rfl).trans rfl), ((hS24 5 rfl).trans rfl), rfl, (rel0 hr7_2), (rel0 hr7_0), (rel0 hr7_1), hb_g8, hx⟩
      ·
        rw [ite_f hc26] at hb20
        obtain ⟨x16, hx16, hb20⟩ := bind_some hb20
        obtain ⟨x18, hx18, hb20⟩ := bind_some hb20
        rcases Bool.eq_false_or_eq_true b20 with hc33 | hc33
        ·
          rw [ite_t hc33] at hb23
          refine W_drawL 17 [isV (.bool x11), isV (.agg #[r7_0, r7_1]), isV (r7_2), isV (.bool x14), isV (.bool (x11 != x14)), isV (.bool (x11 != x14)), isV (.agg #[r7_0, r7_1]), isV (r7_2), isV (.bool x16), isV (.agg #[r7_0, r7_1]), isV (r7_2), isV (.bool x18), isV (.bool (x16 != x18)), isV (.bool b20), isV (.bool b20), isV (undef), isV (undef)] Try_mix (by kernel_rfl) (am_cons (mono_V _) (am_cons (mono_V _) (am_cons (mono_V _) (am_cons (mono_V _) (am_cons (mono_V _) (am_cons (mono_V _) (am_cons (mono_V _) (am_cons (mono_V _) (am_cons (mono_V _) (am_cons (mono_V _) (am_cons (mono_V _) (am_cons (mono_V _) (am_cons (mono_V _) (am_cons (mono_V _) (am_cons (mono_V _) (am_cons (mono_V _) (am_cons (mono_V _) am_nil))))))))))))))))) ?_ (fun f w_ hS24 hE24 hT24 => ?_)
          ·
            refine ops_cons (fun f w_ hS24 hE24 hP24 => ?_) ?_
            ·
              have hx := ext_trans hx hE24
              refine L_mv (v := .bool x11) rfl ((hS24 5 rfl).trans rfl) ?_
              exact L_nil ⟨rfl, (ext_refl _), _, _, rfl, rfl, rfl⟩
            refine ops_cons (fun f w_ hS24 hE24 hP24 => ?_) ?_
            ·
              have hx := ext_trans hx hE24
              have hr7_0 := RP.ext hr7_0 hE24
              have hr7_1 := RP.ext hr7_1 hE24
              have hb_g8 := Blk.ext hb_g8 hE24
              refine L_lda (cs := [r7_0, r7_1]) rfl Try.isAgg26 Try.sizeOf26 ((hS24 3 rfl).trans rfl) (Blk.sub hb_g8 0 2) rfl ?_
              exact L_nil ⟨rfl, (ext_refl _), _, _, rfl, rfl, rfl⟩
            refine ops_cons (fun f w_ hS24 hE24 hP24 => ?_) ?_
            ·
              have hx := ext_trans hx hE24
              have hr7_2 := RP.ext hr7_2 hE24
              refine L_mv (v := r7_2) rfl ((hS24 4 rfl).trans rfl) ?_
              exact L_nil ⟨rfl, (ext_refl _), _, _, rfl, rfl, rfl⟩
            refine ops_cons (fun f w_ hS24 hE24 hP24 => ?_) ?_
            ·
              have hx := ext_trans hx hE24
              have hr7_0 := RP.ext hr7_0 hE24
              have hr7_1 := RP.ext hr7_1 hE24
              have hr7_2 := RP.ext hr7_2 hE24
              refine L_call (args := #[.agg #[r7_0, r7_1], r7_2]) rfl Try.call23 (ops2 (hP24 1 20 rfl rfl) (hP24 2 21 rfl rfl)) (s_SolvesModel_c (m := x2.1) (cells := x2.2) (Nat.le_trans hB hx.size) (rel0 hr7_0) (rel0 hr7_1) (rel0 hr7_2) hx14) ?_
              rintro _ w37 ⟨rfl, he37⟩
              have hr7_0 := RP.ext hr7_0 he37
              have hr7_1 := RP.ext hr7_1 he37
              have hr7_2 := RP.ext hr7_2 he37
              have hx := ext_trans hx he37
              exact L_nil ⟨rfl, he37, _, _, rfl, rfl, rfl⟩
            refine ops_cons (fun f w_ hS24 hE24 hP24 => ?_) ?_
            ·
              have hx := ext_trans hx hE24
              refine L_bneq (b := x11) (c := x14) rfl Try.underlying4 (hP24 0 19 rfl rfl) (hP24 3 22 rfl rfl) ?_
              exact L_nil ⟨rfl, (ext_refl _), _, _, rfl, rfl, rfl⟩
            refine ops_cons (fun f w_ hS24 hE24 hP24 => ?_) ?_
            ·
              have hx := ext_trans hx hE24
              refine L_mv (v := .bool (x11 != x14)) rfl (hP24 4 23 rfl rfl) ?_
              exact L_nil ⟨rfl, (ext_refl _), _, _, rfl, rfl, rfl⟩
            refine ops_cons (fun f w_ hS24 hE24 hP24 => ?_) ?_
            ·
              have hx := ext_trans hx hE24
              have hr7_0 := RP.ext hr7_0 hE24
              have hr7_1 := RP.ext hr7_1 hE24
              have hb_g8 := Blk.ext hb_g8 hE24
              refine L_lda (cs := [r7_0, r7_1]) (g_yes rfl (Eq.trans (hP24 5 24 rfl rfl) (congrArg Value.bool hc26)) rfl) Try.isAgg26 Try.sizeOf26 ((hS24 3 rfl).trans rfl) (Blk.sub hb_g8 0 2) rfl ?_
              exact L_nil ⟨rfl, (ext_refl _), _, _, rfl, rfl, rfl⟩
            refine ops_cons (fun f w_ hS24 hE24 hP24 => ?_) ?_
            ·
              have hx := ext_trans hx hE24
              have hr7_2 := RP.ext hr7_2 hE24
              refine L_mv (v := r7_2) (g_yes rfl (Eq.trans (hP24 5 24 rfl rfl) (congrArg Value.bool hc26)) rfl) ((hS24 4 rfl).trans rfl) ?_
              exact L_nil ⟨rfl, (ext_refl _), _, _, rfl, rfl, rfl⟩
            refine ops_cons (fun f w_ hS24 hE24 hP24 => ?_) ?_
            ·
              have hx := ext_trans hx hE24
              have hr7_0 := RP.ext hr7_0 hE24
              have hr7_1 := RP.ext hr7_1 hE24
              have hr7_2 := RP.ext hr7_2 hE24
              refine L_call (args := #[.agg #[r7_0, r7_1], r7_2]) (g_yes rfl (Eq.trans (hP24 5 24 rfl rfl) (congrArg Value.bool hc26)) rfl) Try.call20 (ops2 (hP24 6 25 rfl rfl) (hP24 7 26 rfl rfl)) (i_CellsValid_c (m := x2.1) (cells := x2.2) (Nat.le_trans hB hx.size) (rel0 hr7_0) (rel0 hr7_1) (rel0 hr7_2) hx16) ?_
              rintro _ w38 ⟨rfl, he38⟩
              have hr7_0 := RP.ext hr7_0 he38
              have hr7_1 := RP.ext hr7_1 he38
              have hr7_2 := RP.ext hr7_2 he38
              have hx := ext_trans hx he38
              exact L_nil ⟨rfl, he38, _, _, rfl, rfl, rfl⟩
            refine ops_cons (fun f w_ hS24 hE24 hP24 => ?_) ?_
            ·
              have hx := ext_trans hx hE24
              have hr7_0 := RP.ext hr7_0 hE24
              have hr7_1 := RP.ext hr7_1 hE24
              have hb_g8 := Blk.ext hb_g8 hE24
              refine L_lda (cs := [r7_0, r7_1]) (g_yes rfl (Eq.trans (hP24 5 24 rfl rfl) (congrArg Value.bool hc26)) rfl) Try.isAgg26 Try.sizeOf26 ((hS24 3 rfl).trans rfl) (Blk.sub hb_g8 0 2) rfl ?_
              exact L_nil ⟨rfl, (ext_refl _), _, _, rfl, rfl, rfl⟩
            refine ops_cons (fun f w_ hS24 hE24 hP24 => ?_) ?_
            ·
              have hx := ext_trans hx hE24
              have hr7_2 := RP.ext hr7_2 hE24
              refine L_mv (v := r7_2) (g_yes rfl (Eq.trans (hP24 5 24 rfl rfl) (congrArg Value.bool hc26)) rfl) ((hS24 4 rfl).trans rfl) ?_
              exact L_nil ⟨rfl, (ext_refl _), _, _, rfl, rfl, rfl⟩
            refine ops_cons (fun f w_ hS24 hE24 hP24 => ?_) ?_
            ·
              have hx := ext_trans hx hE24
              have hr7_0 := RP.ext hr7_0 hE24
              have hr7_1 := RP.ext hr7_1 hE24
              have hr7_2 := RP.ext hr7_2 hE24
              refine L_call (args := #[.agg #[r7_0, r7_1], r7_2]) (g_yes rfl (Eq.trans (hP24 5 24 rfl rfl) (congrArg Value.bool hc26)) rfl) Try.call24 (ops2 (hP24 9 28 rfl rfl) (hP24 10 29 rfl rfl)) (s_CellsValid_c (m := x2.1) (cells := x2.2) (Nat.le_trans hB hx.size) (rel0 hr7_0) (rel0 hr7_1) (rel0 hr7_2) hx18) ?_
              rintro _ w39 ⟨rfl, he39⟩
              have hr7_0 := RP.ext hr7_0 he39
              have hr7_1 := RP.ext hr7_1 he39
              have hr7_2 := RP.ext hr7_2 he39
              have hx := ext_trans hx he39
              exact L_nil ⟨rfl, he39, _, _, rfl, rfl, rfl⟩
            refine ops_cons (fun f w_ hS24 hE24 hP24 => ?_) ?_
            ·
              have hx := ext_trans hx hE24
              refine L_bneq (b := x16) (c := x18) (g_yes rfl (Eq.trans (hP24 5 24 rfl rfl) (congrArg Value.bool hc26)) rfl) Try.underlying4 (hP24 8 27 rfl rfl) (hP24 11 30 rfl rfl) ?_
              exact L_nil ⟨rfl, (ext_refl _), _, _, rfl, rfl, rfl⟩
            refine ops_cons (fun f w_ hS24 hE24 hP24 => ?_) ?_
            ·
              have hx := ext_trans hx hE24
              refine L_pick (v := .bool b20) rfl (Eq.trans (hP24 5 24 rfl rfl) (congrArg Value.bool hc26)) (Eq.trans (hP24 12 31 rfl rfl) (congrArg Value.bool (so hb20))) ?_
              exact L_nil ⟨rfl, (ext_refl _), _, _, rfl, rfl, rfl⟩
            refine ops_cons (fun f w_ hS24 hE24 hP24 => ?_) ?_
            ·
              have hx := ext_trans hx hE24
              refine L_mv (v := .bool b20) rfl (hP24 13 32 rfl rfl) ?_
              exact L_nil ⟨rfl, (ext_refl _), _, _, rfl, rfl, rfl⟩
            refine ops_cons (fun f w_ hS24 hE24 hP24 => ?_) ?_
            ·
              have hx := ext_trans hx hE24
              have hr7_0 := RP.ext hr7_0 hE24
              have hr7_1 := RP.ext hr7_1 hE24
              have hb_g8 := Blk.ext hb_g8 hE24
              refine L_pass (g_no rfl (Eq.trans (hP24 14 33 rfl rfl) (congrArg Value.bool hc33)) rfl rfl) ?_
              exact L_nil ⟨rfl, (ext_refl _), _, _, rfl, rfl, rfl⟩
            refine ops_cons (fun f w_ hS24 hE24 hP24 => ?_) ?_
            ·
              have hx := ext_trans hx hE24
              have hr7_2 := RP.ext hr7_2 hE24
              refine L_pass (g_no rfl (Eq.trans (hP24 14 33 rfl rfl) (congrArg Value.bool hc33)) rfl rfl) ?_
              exact L_nil ⟨rfl, (ext_refl _), _, _, rfl, rfl, rfl⟩
            exact ops_nil
          ·
            have hr7_0 := RP.ext hr7_0 hE24
            have hr7_1 := RP.ext hr7_1 hE24
            have hr7_2 := RP.ext hr7_2 hE24
            have hb_g8 := Blk.ext hb_g8 hE24
            have hx := ext_trans hx hE24
            refine L_pass (g_no rfl (Eq.trans (hT24 14 33 rfl rfl) (congrArg Value.bool hc33)) rfl rfl) ?_
            refine L_pass (g_no rfl (Eq.trans (hT24 14 33 rfl rfl) (congrArg Value.bool hc33)) rfl rfl) ?_
            refine L_pick (v := .bool b23) rfl (Eq.trans (hT24 14 33 rfl rfl) (congrArg Value.bool hc33)) (congrArg Value.bool (so hb23)) ?_
            refine L_nil ?_
            show R25 _ _
            rw [hR25]
            exact ⟨((hS24 3 rfl).trans rfl), ((hS24 4 rfl).trans rfl), ((hS24 5 rfl).trans rfl), rfl, (rel0 hr7_2), (rel0 hr7_0), (rel0 hr7_1), hb_g8, hx⟩
        ·
          rw [ite_f hc33] at hb23
          obtain ⟨x21, hx21, hb23⟩ := bind_some hb23
          refine W_drawL 17 [isV (.bool x11), isV (.agg #[r7_0, r7_1]), isV (r7_2), isV (.bool x14), isV (.bool (x11 != x14)), isV (.bool (x11 != x14)), isV (.agg #[r7_0, r7_1]), isV (r7_2), isV (.bool x16), isV (.agg #[r7_0, r7_1]), isV (r7_2), isV (.bool x18), isV (.bool (x16 != x18)), isV (.bool b20), isV (.bool b20), isV (.agg #[r7_0, r7_1]), isV (r7_2)] Try_mix (by kernel_rfl) (am_cons (mono_V _) (am_cons (mono_V _) (am_cons (mono_V _) (am_cons (mono_V _) (am_cons (mono_V _) (am_cons (mono_V _) (am_cons (mono_V _) (am_cons (mono_V _) (am_cons (mono_V _) (am_cons (mono_V _) (am_cons (mono_V _) (am_cons (mono_V _) (am_cons (mono_V _) (am_cons (mono_V _) (am_cons (mono_V _) (am_cons (mono_V _) (am_cons (mono_V _) am_nil))))))))))))))))) ?_ (fun f w_ hS24 hE24 hT24 => ?_)
          ·
            refine ops_cons (fun f w_ hS24 hE24 hP24 => ?_) ?_
            ·
              have hx := ext_trans hx hE24
              refine L_mv (v := .bool x11) rfl ((hS24 5 rfl).trans rfl) ?_
              exact L_nil ⟨rfl, (ext_refl _), _, _, rfl, rfl, rfl⟩
            refine ops_cons (fun f w_ hS24 hE24 hP24 => ?_) ?_
            ·
              have hx := ext_trans hx hE24
              have hr7_0 := RP.ext hr7_0 hE24
              have hr7_1 := RP.ext hr7_1 hE24
              have hb_g8 := Blk.ext hb_g8 hE24
              refine L_lda (cs := [r7_0, r7_1]) rfl Try.isAgg26 Try.sizeOf26 ((hS24 3 rfl).trans rfl) (Blk.sub hb_g8 0 2) rfl ?_
              exact L_nil ⟨rfl, (ext_refl _), _, _, rfl, rfl, rfl⟩
            refine ops_cons (fun f w_ hS24 hE24 hP24 => ?_) ?_
            ·
              have hx := ext_trans hx hE24
              have hr7_2 := RP.ext hr7_2 hE24
              refine L_mv (v := r7_2) rfl ((hS24 4 rfl).trans rfl) ?_
              exact L_nil ⟨rfl, (ext_refl _), _, _, rfl, rfl, rfl⟩
            refine ops_cons (fun f w_ hS24 hE24 hP24 => ?_) ?_
            ·
              have hx := ext_trans hx hE24
              have hr7_0 := RP.ext hr7_0 hE24
              have hr7_1 := RP.ext hr7_1 hE24
              have hr7_2 := RP.ext hr7_2 hE24
              refine L_call (args := #[.agg #[r7_0, r7_1], r7_2]) rfl Try.call23 (ops2 (hP24 1 20 rfl rfl) (hP24 2 21 rfl rfl)) (s_SolvesModel_c (m := x2.1) (cells := x2.2) (Nat.le_trans hB hx.size) (rel0 hr7_0) (rel0 hr7_1) (rel0 hr7_2) hx14) ?_
              rintro _ w43 ⟨rfl, he43⟩
              have hr7_0 := RP.ext hr7_0 he43
              have hr7_1 := RP.ext hr7_1 he43
              have hr7_2 := RP.ext hr7_2 he43
              have hx := ext_trans hx he43
              exact L_nil ⟨rfl, he43, _, _, rfl, rfl, rfl⟩
            refine ops_cons (fun f w_ hS24 hE24 hP24 => ?_) ?_
            ·
              have hx := ext_trans hx hE24
              refine L_bneq (b := x11) (c := x14) rfl Try.underlying4 (hP24 0 19 rfl rfl) (hP24 3 22 rfl rfl) ?_
              exact L_nil ⟨rfl, (ext_refl _), _, _, rfl, rfl, rfl⟩
            refine ops_cons (fun f w_ hS24 hE24 hP24 => ?_) ?_
            ·
              have hx := ext_trans hx hE24
              refine L_mv (v := .bool (x11 != x14)) rfl (hP24 4 23 rfl rfl) ?_
              exact L_nil ⟨rfl, (ext_refl _), _, _, rfl, rfl, rfl⟩
            refine ops_cons (fun f w_ hS24 hE24 hP24 => ?_) ?_
            ·
              have hx := ext_trans hx hE24
              have hr7_0 := RP.ext hr7_0 hE24
              have hr7_1 := RP.ext hr7_1 hE24
              have hb_g8 := Blk.ext hb_g8 hE24
              refine L_lda (cs := [r7_0, r7_1]) (g_yes rfl (Eq.trans (hP24 5 24 rfl rfl) (congrArg Value.bool hc26)) rfl) Try.isAgg26 Try.sizeOf26 ((hS24 3 rfl).trans rfl) (Blk.sub hb_g8 0 2) rfl ?_
              exact L_nil ⟨rfl, (ext_refl _), _, _, rfl, rfl, rfl⟩
            refine ops_cons (fun f w_ hS24 hE24 hP24 => ?_) ?_
            ·
              have hx := ext_trans hx hE24
              have hr7_2 := RP.ext hr7_2 hE24
              refine L_mv (v := r7_2) (g_yes rfl (Eq.trans (hP24 5 24 rfl rfl) (congrArg Value.bool hc26)) rfl) ((hS24 4 rfl).trans rfl) ?_
              exact L_nil ⟨rfl, (ext_refl _), _, _, rfl, rfl, rfl⟩
            refine ops_cons (fun f w_ hS24 hE24 hP24 => ?_) ?_
            ·
              have hx := ext_trans hx hE24
              have hr7_0 := RP.ext hr7_0 hE24
              have hr7_1 := RP.ext hr7_1 hE24
              have hr7_2 := RP.ext hr7_2 hE24
              refine L_call (args := #[.agg #[r7_0, r7_1], r7_2]) (g_yes rfl (Eq.trans (hP24 5 24 rfl rfl) (congrArg Value.bool hc26)) rfl) Try.call20 (ops2 (hP24 6 25 rfl rfl) (hP24 7 26 rfl rfl)) (i_CellsValid_c (m := x2.1) (cells := x2.2) (Nat.le_trans hB hx.size) (rel0 hr7_0) (rel0 hr7_1) (rel0 hr7_2) hx16) ?_
              rintro _ w44 ⟨rfl, he44⟩
              have hr7_0 := RP.ext hr7_0 he44
              have hr7_1 := RP.ext hr7_1 he44
              have hr7_2 := RP.ext hr7_2 he44
              have hx := ext_trans hx he44
              exact L_nil ⟨rfl, he44, _, _, rfl, rfl, rfl⟩
            refine ops_cons (fun f w_ hS24 hE24 hP24 => ?_) ?_
            ·
              have hx := ext_trans hx hE24
              have hr7_0 := RP.ext hr7_0 hE24
              have hr7_1 := RP.ext hr7_1 hE24
              have hb_g8 := Blk.ext hb_g8 hE24
              refine L_lda (cs := [r7_0, r7_1]) (g_yes rfl (Eq.trans (hP24 5 24 rfl rfl) (congrArg Value.bool hc26)) rfl) Try.isAgg26 Try.sizeOf26 ((hS24 3 rfl).trans rfl) (Blk.sub hb_g8 0 2) rfl ?_
              exact L_nil ⟨rfl, (ext_refl _), _, _, rfl, rfl, rfl⟩
            refine ops_cons (fun f w_ hS24 hE24 hP24 => ?_) ?_
            ·
              have hx := ext_trans hx hE24
              have hr7_2 := RP.ext hr7_2 hE24
              refine L_mv (v := r7_2) (g_yes rfl (Eq.trans (hP24 5 24 rfl rfl) (congrArg Value.bool hc26)) rfl) ((hS24 4 rfl).trans rfl) ?_
              exact L_nil ⟨rfl, (ext_refl _), _, _, rfl, rfl, rfl⟩
            refine ops_cons (fun f w_ hS24 hE24 hP24 => ?_) ?_
            ·
              have hx := ext_trans hx hE24
              have hr7_0 := RP.ext hr7_0 hE24
              have hr7_1 := RP.ext hr7_1 hE24
              have hr7_2 := RP.ext hr7_2 hE24
              refine L_call (args := #[.agg #[r7_0, r7_1], r7_2]) (g_yes rfl (Eq.trans (hP24 5 24 rfl rfl) (congrArg Value.bool hc26)) rfl) Try.call24 (ops2 (hP24 9 28 rfl rfl) (hP24 10 29 rfl rfl)) (s_CellsValid_c (m := x2.1) (cells := x2.2) (Nat.le_trans hB hx.size) (rel0 hr7_0) (rel0 hr7_1) (rel0 hr7_2) hx18) ?_
              rintro _ w45 ⟨rfl, he45⟩
              have hr7_0 := RP.ext hr7_0 he45
              have hr7_1 := RP.ext hr7_1 he45
              have hr7_2 := RP.ext hr7_2 he45
              have hx := ext_trans hx he45
              exact L_nil ⟨rfl, he45, _, _, rfl, rfl, rfl⟩
            refine ops_cons (fun f w_ hS24 hE24 hP24 => ?_) ?_
            ·
              have hx := ext_trans hx hE24
              refine L_bneq (b := x16) (c := x18) (g_yes rfl (Eq.trans (hP24 5 24 rfl rfl) (congrArg Value.bool hc26)) rfl) Try.underlying4 (hP24 8 27 rfl rfl) (hP24 11 30 rfl rfl) ?_
              exact L_nil ⟨rfl, (ext_refl _), _, _, rfl, rfl, rfl⟩
            refine ops_cons (fun f w_ hS24 hE24 hP24 => ?_) ?_
            ·
              have hx := ext_trans hx hE24
              refine L_pick (v := .bool b20) rfl (Eq.trans (hP24 5 24 rfl rfl) (congrArg Value.bool hc26)) (Eq.trans (hP24 12 31 rfl rfl) (congrArg Value.bool (so hb20))) ?_
              exact L_nil ⟨rfl, (ext_refl _), _, _, rfl, rfl, rfl⟩
            refine ops_cons (fun f w_ hS24 hE24 hP24 => ?_) ?_
            ·
              have hx := ext_trans hx hE24
              refine L_mv (v := .bool b20) rfl (hP24 13 32 rfl rfl) ?_
              exact L_nil ⟨rfl, (ext_refl _), _, _, rfl, rfl, rfl⟩
            refine ops_cons (fun f w_ hS24 hE24 hP24 => ?_) ?_
            ·
              have hx := ext_trans hx hE24
              have hr7_0 := RP.ext hr7_0 hE24
              have hr7_1 := RP.ext hr7_1 hE24
              have hb_g8 := Blk.ext hb_g8 hE24
              refine L_lda (cs := [r7_0, r7_1]) (g_yes rfl (Eq.trans (hP24 14 33 rfl rfl) (congrArg Value.bool hc33)) rfl) Try.isAgg26 Try.sizeOf26 ((hS24 3 rfl).trans rfl) (Blk.sub hb_g8 0 2) rfl ?_
              exact L_nil ⟨rfl, (ext_refl _), _, _, rfl, rfl, rfl⟩
            refine ops_cons (fun f w_ hS24 hE24 hP24 => ?_) ?_
            ·
              have hx := ext_trans hx hE24
              have hr7_2 := RP.ext hr7_2 hE24
              refine L_mv (v := r7_2) (g_yes rfl (Eq.trans (hP24 14 33 rfl rfl) (congrArg Value.bool hc33)) rfl) ((hS24 4 rfl).trans rfl) ?_
              exact L_nil ⟨rfl, (ext_refl _), _, _, rfl, rfl, rfl⟩
            exact ops_nil
          ·
            have hr7_0 := RP.ext hr7_0 hE24
            have hr7_1 := RP.ext hr7_1 hE24
            have hr7_2 := RP.ext hr7_2 hE24
            have hb_g8 := Blk.ext hb_g8 hE24
            have hx := ext_trans hx hE24
            refine L_call (args := #[.agg #[r7_0, r7_1], r7_2]) (g_yes rfl (Eq.trans (hT24 14 33 rfl rfl) (congrArg Value.bool hc33)) rfl) Try.call20 (ops2 (hT24 15 34 rfl rfl) (hT24 16 35 rfl rfl)) (i_CellsValid_c (m := x2.1) (cells := x2.2) (Nat.le_trans hB hx.size) (rel0 hr7_0) (rel0 hr7_1) (rel0 hr7_2) hx21) ?_
            rintro _ w46 ⟨rfl, he46⟩
            have hr7_0 := RP.ext hr7_0 he46
            have hr7_1 := RP.ext hr7_1 he46
            have hr7_2 := RP.ext hr7_2 he46
            have hb_g8 := Blk.ext hb_g8 he46
            have hx := ext_trans hx he46
            refine L_not_ (b := x21) (g_yes rfl (Eq.trans (hT24 14 33 rfl rfl) (congrArg Value.bool hc33)) rfl) rfl ?_
            refine L_pick (v := .bool b23) rfl (Eq.trans (hT24 14 33 rfl rfl) (congrArg Value.bool hc33)) (congrArg Value.bool (so hb23)) ?_
            refine L_nil ?_
            show R25 _ _
            rw [hR25]
            exact ⟨((hS24 3 rfl).trans rfl), ((hS24 4 rfl).trans rfl), ((hS24 5 rfl).trans rfl), rfl, (rel0 hr7_2), (rel0 hr7_0), (rel0 hr7_1), hb_g8, hx⟩
    ·
      intro f w_ hR
      rw [hR25] at hR
      obtain ⟨sf3, sf4, sf5, sf38, hr7_2, hr7_0, hr7_1, hb_g8, hx⟩ := hR
      clear hR25
      refine W_cond (b := b23) sf38 (fun hc47 => ?_) (fun hc47 => ?_)
      ·
        have hF := (ite_t hc47).symm.trans hF
        refine W_seq ?_
        obtain ⟨x48, hx48, hF⟩ := bind_some hF
        obtain ⟨b54, hb54, hF⟩ := bind_some hF
        obtain ⟨R56, hR56⟩ : ∃ R : Fr → World → Prop, R = fun f w_ => f 2 = .bool b54 ∧ Ext w w_ := ⟨_, rfl⟩
        refine W_join R56 ?_ ?_
        ·
          rcases Bool.eq_false_or_eq_true (x11 == x48) with hc57 | hc57
          ·
            rw [ite_t hc57] at hb54
            obtain ⟨x50, hx50, hb54⟩ := bind_some hb54
            obtain ⟨x52, hx52, hb54⟩ := bind_some hb54
            refine W_drawL 11 [isV (.bool x11), isV (.agg #[r7_0, r7_1]), isV (r7_2), isV (.bool x48), isV (.bool (x11 == x48)), isV (.bool (x11 == x48)), isV (.agg #[r7_0, r7_1]), isV (r7_2), isV (.bool x50), isV (.agg #[r7_0, r7_1]), isV (r7_2)] Try_mix (by kernel_rfl) (am_cons (mono_V _) (am_cons (mono_V _) (am_cons (mono_V _) (am_cons (mono_V _) (am_cons (mono_V _) (am_cons (mono_V _) (am_cons (mono_V _) (am_cons (mono_V _) (am_cons (mono_V _) (am_cons (mono_V _) (am_cons (mono_V _) am_nil))))))))))) ?_ (fun f w_ hS55 hE55 hT55 => ?_)
            ·
              refine ops_cons (fun f w_ hS55 hE55 hP55 => ?_) ?_
              ·
                have hx := ext_trans hx hE55
                refine L_mv (v := .bool x11) rfl ((hS55 5 rfl).trans sf5) ?_
                exact L_nil ⟨rfl, (ext_refl _), _, _, rfl, rfl, rfl⟩
              refine ops_cons (fun f w_ hS55 hE55 hP55 => ?_) ?_
              ·
                have hx := ext_trans hx hE55
                have hr7_0 := RP.ext hr7_0 hE55
                have hr7_1 := RP.ext hr7_1 hE55
                have hb_g8 := Blk.ext hb_g8 hE55
                refine L_lda (cs := [r7_0, r7_1]) rfl Try.isAgg26 Try.sizeOf26 ((hS55 3 rfl).trans sf3) (Blk.sub hb_g8 0 2) rfl ?_
                exact L_nil ⟨rfl, (ext_refl _), _, _, rfl, rfl, rfl⟩
              refine ops_cons (fun f w_ hS55 hE55 hP55 => ?_) ?_
              ·
                have hx := ext_trans hx hE55
                have hr7_2 := RP.ext hr7_2 hE55
                refine L_mv (v := r7_2) rfl ((hS55 4 rfl).trans sf4) ?_
                exact L_nil ⟨rfl, (ext_refl _), _, _, rfl, rfl, rfl⟩
              refine ops_cons (fun f w_ hS55 hE55 hP55 => ?_) ?_
              ·
                have hx := ext_trans hx hE55
                have hr7_2 := RP.ext hr7_2 hE55
                have hr7_0 := RP.ext hr7_0 hE55
                have hr7_1 := RP.ext hr7_1 hE55
                refine L_call (args := #[.agg #[r7_0, r7_1], r7_2]) rfl Try.call23 (ops2 (hP55 1 40 rfl rfl) (hP55 2 41 rfl rfl)) (s_SolvesModel_c (m := x2.1) (cells := x2.2) (Nat.le_trans hB hx.size) (rel0 hr7_0) (rel0 hr7_1) (rel0 hr7_2) hx48) ?_
                rintro _ w60 ⟨rfl, he60⟩
                have hr7_2 := RP.ext hr7_2 he60
                have hr7_0 := RP.ext hr7_0 he60
                have hr7_1 := RP.ext hr7_1 he60
                have hx := ext_trans hx he60
                exact L_nil ⟨rfl, he60, _, _, rfl, rfl, rfl⟩
              refine ops_cons (fun f w_ hS55 hE55 hP55 => ?_) ?_
              ·
                have hx := ext_trans hx hE55
                refine L_beql (b := x11) (c := x48) rfl Try.underlying4 (hP55 0 39 rfl rfl) (hP55 3 42 rfl rfl) ?_
                exact L_nil ⟨rfl, (ext_refl _), _, _, rfl, rfl, rfl⟩
              refine ops_cons (fun f w_ hS55 hE55 hP55 => ?_) ?_
              ·
                have hx := ext_trans hx hE55
                refine L_mv (v := .bool (x11 == x48)) rfl (hP55 4 43 rfl rfl) ?_
                exact L_nil ⟨rfl, (ext_refl _), _, _, rfl, rfl, rfl⟩
              refine ops_cons (fun f w_ hS55 hE55 hP55 => ?_) ?_
              ·
                have hx := ext_trans hx hE55
                have hr7_0 := RP.ext hr7_0 hE55
                have hr7_1 := RP.ext hr7_1 hE55
                have hb_g8 := Blk.ext hb_g8 hE55
                refine L_lda (cs := [r7_0, r7_1]) (g_yes rfl (Eq.trans (hP55 5 44 rfl rfl) (congrArg Value.bool hc57)) rfl) Try.isAgg26 Try.sizeOf26 ((hS55 3 rfl).trans sf3) (Blk.sub hb_g8 0 2) rfl ?_
                exact L_nil ⟨rfl, (ext_refl _), _, _, rfl, rfl, rfl⟩
              refine ops_cons (fun f w_ hS55 hE55 hP55 => ?_) ?_
              ·
                have hx := ext_trans hx hE55
                have hr7_2 := RP.ext hr7_2 hE55
                refine L_mv (v := r7_2) (g_yes rfl (Eq.trans (hP55 5 44 rfl rfl) (congrArg Value.bool hc57)) rfl) ((hS55 4 rfl).trans sf4) ?_
                exact L_nil ⟨rfl, (ext_refl _), _, _, rfl, rfl, rfl⟩
              refine ops_cons (fun f w_ hS55 hE55 hP55 => ?_) ?_
              ·
                have hx := ext_trans hx hE55
                have hr7_2 := RP.ext hr7_2 hE55
                have hr7_0 := RP.ext hr7_0 hE55
                have hr7_1 := RP.ext hr7_1 hE55
                refine L_call (args := #[.agg #[r7_0, r7_1], r7_2]) (g_yes rfl (Eq.trans (hP55 5 44 rfl rfl) (congrArg Value.bool hc57)) rfl) Try.call20 (ops2 (hP55 6 45 rfl rfl) (hP55 7 46 rfl rfl)) (i_CellsValid_c (m := x2.1) (cells := x2.2) (Nat.le_trans hB hx.size) (rel0 hr7_0) (rel0 hr7_1) (rel0 hr7_2) hx50) ?_
                rintro _ w61 ⟨rfl, he61⟩
                have hr7_2 := RP.ext hr7_2 he61
                have hr7_0 := RP.ext hr7_0 he61
                have hr7_1 := RP.ext hr7_1 he61
                have hx := ext_trans hx he61
                exact L_nil ⟨rfl, he61, _, _, rfl, rfl, rfl⟩
              refine ops_cons (fun f w_ hS55 hE55 hP55 => ?_) ?_
              ·
                have hx := ext_trans hx hE55
                have hr7_0 := RP.ext hr7_0 hE55
                have hr7_1 := RP.ext hr7_1 hE55
                have hb_g8 := Blk.ext hb_g8 hE55
                refine L_lda (cs := [r7_0, r7_1]) (g_yes rfl (Eq.trans (hP55 5 44 rfl rfl) (congrArg Value.bool hc57)) rfl) Try.isAgg26 Try.sizeOf26 ((hS55 3 rfl).trans sf3) (Blk.sub hb_g8 0 2) rfl ?_
                exact L_nil ⟨rfl, (ext_refl _), _, _, rfl, rfl, rfl⟩
              refine ops_cons (fun f w_ hS55 hE55 hP55 => ?_) ?_
              ·
                have hx := ext_trans hx hE55
                have hr7_2 := RP.ext hr7_2 hE55
                refine L_mv (v := r7_2) (g_yes rfl (Eq.trans (hP55 5 44 rfl rfl) (congrArg Value.bool hc57)) rfl) ((hS55 4 rfl).trans sf4) ?_
                exact L_nil ⟨rfl, (ext_refl _), _, _, rfl, rfl, rfl⟩
              exact ops_nil
            ·
              have hr7_2 := RP.ext hr7_2 hE55
              have hr7_0 := RP.ext hr7_0 hE55
              have hr7_1 := RP.ext hr7_1 hE55
              have hb_g8 := Blk.ext hb_g8 hE55
              have hx := ext_trans hx hE55
              refine L_call (args := #[.agg #[r7_0, r7_1], r7_2]) (g_yes rfl (Eq.trans (hT55 5 44 rfl rfl) (congrArg Value.bool hc57)) rfl) Try.call24 (ops2 (hT55 9 48 rfl rfl) (hT55 10 49 rfl rfl)) (s_CellsValid_c (m := x2.1) (cells := x2.2) (Nat.le_trans hB hx.size) (rel0 hr7_0) (rel0 hr7_1) (rel0 hr7_2) hx52) ?_
              rintro _ w62 ⟨rfl, he62⟩
              have hr7_2 := RP.ext hr7_2 he62
              have hr7_0 := RP.ext hr7_0 he62
              have hr7_1 := RP.ext hr7_1 he62
              have hx := ext_trans hx he62
              refine L_beql (b := x50) (c := x52) (g_yes rfl (Eq.trans (hT55 5 44 rfl rfl) (congrArg Value.bool hc57)) rfl) Try.underlying4 (hT55 8 47 rfl rfl) rfl ?_
              refine L_pick (v := .bool b54) rfl (Eq.trans (hT55 5 44 rfl rfl) (congrArg Value.bool hc57)) (congrArg Value.bool (so hb54)) ?_
              refine L_as (v := .bool b54) rfl rfl ?_
              refine L_nil ?_
              show R56 _ _
              rw [hR56]
              exact ⟨rfl, hx⟩
          ·
            rw [ite_f hc57] at hb54
            refine W_drawL 11 [isV (.bool x11), isV (.agg #[r7_0, r7_1]), isV (r7_2), isV (.bool x48), isV (.bool (x11 == x48)), isV (.bool (x11 == x48)), isV (undef), isV (undef), isV (undef), isV (undef), isV (undef)] Try_mix (by kernel_rfl) (am_cons (mono_V _) (am_cons (mono_V _) (am_cons (mono_V _) (am_cons (mono_V _) (am_cons (mono_V _) (am_cons (mono_V _) (am_cons (mono_V _) (am_cons (mono_V _) (am_cons (mono_V _) (am_cons (mono_V _) (am_cons (mono_V _) am_nil))))))))))) ?_ (fun f w_ hS55 hE55 hT55 => ?_)
            ·
              refine ops_cons (fun f w_ hS55 hE55 hP55 => ?_) ?_
              ·
                have hx := ext_trans hx hE55
                refine L_mv (v := .bool x11) rfl ((hS55 5 rfl).trans sf5) ?_
                exact L_nil ⟨rfl, (ext_refl _), _, _, rfl, rfl, rfl⟩
              refine ops_cons (fun f w_ hS55 hE55 hP55 => ?_) ?_
              ·
                have hx := ext_trans hx hE55
                have hr7_0 := RP.ext hr7_0 hE55
                have hr7_1 := RP.ext hr7_1 hE55
                have hb_g8 := Blk.ext hb_g8 hE55
                refine L_lda (cs := [r7_0, r7_1]) rfl Try.isAgg26 Try.sizeOf26 ((hS55 3 rfl).trans sf3) (Blk.sub hb_g8 0 2) rfl ?_
                exact L_nil ⟨rfl, (ext_refl _), _, _, rfl, rfl, rfl⟩
              refine ops_cons (fun f w_ hS55 hE55 hP55 => ?_) ?_
              ·
                have hx := ext_trans hx hE55
                have hr7_2 := RP.ext hr7_2 hE55
                refine L_mv (v := r7_2) rfl ((hS55 4 rfl).trans sf4) ?_
                exact L_nil ⟨rfl, (ext_refl _), _, _, rfl, rfl, rfl⟩
              refine ops_cons (fun f w_ hS55 hE55 hP55 => ?_) ?_
              ·
                have hx := ext_trans hx hE55
                have hr7_2 := RP.ext hr7_2 hE55
                have hr7_0 := RP.ext hr7_0 hE55
                have hr7_1 := RP.ext hr7_1 hE55
                refine L_call (args := #[.agg #[r7_0, r7_1], r7_2]) rfl Try.call23 (ops2 (hP55 1 40 rfl rfl) (hP55 2 41 rfl rfl)) (s_SolvesModel_c (m := x2.1) (cells := x2.2) (Nat.le_trans hB hx.size) (rel0 hr7_0) (rel0 hr7_1) (rel0 hr7_2) hx48) ?_
                rintro _ w64 ⟨rfl, he64⟩
                have hr7_2 := RP.ext hr7_2 he64
                have hr7_0 := RP.ext hr7_0 he64
                have hr7_1 := RP.ext hr7_1 he64
                have hx := ext_trans hx he64
                exact L_nil ⟨rfl, he64, _, _, rfl, rfl, rfl⟩
              refine ops_cons (fun f w_ hS55 hE55 hP55 => ?_) ?_
              ·
                have hx := ext_trans hx hE55
                refine L_beql (b := x11) (c := x48) rfl Try.underlying4 (hP55 0 39 rfl rfl) (hP55 3 42 rfl rfl) ?_
                exact L_nil ⟨rfl, (ext_refl _), _, _, rfl, rfl, rfl⟩
              refine ops_cons (fun f w_ hS55 hE55 hP55 => ?_) ?_
              ·
                have hx := ext_trans hx hE55
                refine L_mv (v := .bool (x11 == x48)) rfl (hP55 4 43 rfl rfl) ?_
                exact L_nil ⟨rfl, (ext_refl _), _, _, rfl, rfl, rfl⟩
              refine ops_cons (fun f w_ hS55 hE55 hP55 => ?_) ?_
              ·
                have hx := ext_trans hx hE55
                have hr7_0 := RP.ext hr7_0 hE55
                have hr7_1 := RP.ext hr7_1 hE55
                have hb_g8 := Blk.ext hb_g8 hE55
                refine L_pass (g_no rfl (Eq.trans (hP55 5 44 rfl rfl) (congrArg Value.bool hc57)) rfl rfl) ?_
                exact L_nil ⟨rfl, (ext_refl _), _, _, rfl, rfl, rfl⟩
              refine ops_cons (fun f w_ hS55 hE55 hP55 => ?_) ?_
              ·
                have hx := ext_trans hx hE55
                have hr7_2 := RP.ext hr7_2 hE55
                refine L_pass (g_no rfl (Eq.trans (hP55 5 44 rfl rfl) (congrArg Value.bool hc57)) rfl rfl) ?_
                exact L_nil ⟨rfl, (ext_refl _), _, _, rfl, rfl, rfl⟩
              refine ops_cons (fun f w_ hS55 hE55 hP55 => ?_) ?_
              ·
                have hx := ext_trans hx hE55
                refine L_pass (g_no rfl (Eq.trans (hP55 5 44 rfl rfl) (congrArg Value.bool hc57)) rfl rfl) ?_
                exact L_nil ⟨rfl, (ext_refl _), _, _, rfl, rfl, rfl⟩
              refine ops_cons (fun f w_ hS55 hE55 hP55 => ?_) ?_
              ·
                have hx := ext_trans hx hE55
                have hr7_0 := RP.ext hr7_0 hE55
                have hr7_1 := RP.ext hr7_1 hE55
                have hb_g8 := Blk.ext hb_g8 hE55
                refine L_pass (g_no rfl (Eq.trans (hP55 5 44 rfl rfl) (congrArg Value.bool hc57)) rfl rfl) ?_
                exact L_nil ⟨rfl, (ext_refl _), _, _, rfl, rfl, rfl⟩
              refine ops_cons (fun f w_ hS55 hE55 hP55 => ?_) ?_
              ·
                have hx := ext_trans hx hE55
                have hr7_2 := RP.ext hr7_2 hE55
                refine L_pass (g_no rfl (Eq.trans (hP55 5 44 rfl rfl) (congrArg Value.bool hc57)) rfl rfl) ?_
                exact L_nil ⟨rfl, (ext_refl _), _, _, rfl, rfl, rfl⟩
              exact ops_nil
            ·
              have hr7_2 := RP.ext hr7_2 hE55
              have hr7_0 := RP.ext hr7_0 hE55
              have hr7_1 := RP.ext hr7_1 hE55
              have hb_g8 := Blk.ext hb_g8 hE55
              have hx := ext_trans hx hE55
              refine L_pass (g_no rfl (Eq.trans (hT55 5 44 rfl rfl) (congrArg Value.bool hc57)) rfl rfl) ?_
              refine L_pass (g_no rfl (Eq.trans (hT55 5 44 rfl rfl) (congrArg Value.bool hc57)) rfl rfl) ?_
              refine L_pick (v := .bool b54) rfl (Eq.trans (hT55 5 44 rfl rfl) (congrArg Value.bool hc57)) (congrArg Value.bool (so hb54)) ?_
              refine L_as (v := .bool b54) rfl rfl ?_
              refine L_nil ?_
              show R56 _ _
              rw [hR56]
              exact ⟨rfl, hx⟩
        ·
          intro f w_ hR
          rw [hR56] at hR
          obtain ⟨sf2, hx⟩ := hR
          clear hR56
          refine W_ret ?_
          obtain rfl := so hF
          refine ret1 Try.results7 ?_
          exact ⟨sf2, hx⟩
      ·
        have hF := (ite_f hc47).symm.trans hF
        refine W_skip ?_
        refine W_seq ?_
        refine W_region ?_
        refine L_as (v := .bool true) rfl rfl ?_
        refine L_nil ?_
        refine W_seq ?_
        refine W_seq ?_
        refine W_region ?_
        refine L_as (v := .int .i64 0) rfl rfl ?_
        refine L_nil ?_
        have hlen67 := len_le hr7_1
        obtain ⟨j67, hL67, hF⟩ := bind_some hF
        obtain ⟨R67, hR67⟩ : ∃ R : Fr → World → Prop, R = fun f w_ => ∃ all_66 : Bool, j67 = .nx all_66 ∧ f 5 = .bool x11 ∧ f 6 = .bool all_66 ∧ Ext w w_ := ⟨_, rfl⟩
        refine W_join R67 ?_ ?_
        ·
          refine W_block ?_
          obtain ⟨I67, hI67⟩ : ∃ I : Nat → Fr → World → Prop, I = fun n f w_ => ∃ i_65 : Nat, ∃ suf67 : List Rule, ∃ all_66 : Bool, n = suf67.length ∧ List.drop i_65 x2.1.rules = suf67 ∧ i_65 + suf67.length = x2.1.rules.length ∧ rangeL (l_FnSolvesModel_b1 x2) suf67 i_65 all_66 = some j67 ∧ f 3 = .pointer (some ⟨g8, 0, none⟩) ∧ f 4 = r7_2 ∧ f 5 = .bool x11 ∧ f 6 = .bool all_66 ∧ f 7 = .int .i64 (i_65 : Int) ∧ (RP.slice 3 RP.int).rel B w_.heap.size w_ [r7_2] x2.2 ∧ (RP.slice 3 RP.int).rel B w_.heap.size w_ [r7_0] x2.1.sizes ∧ (RP.slice 36 (rRule 3 23)).rel B w_.heap.size w_ [r7_1] x2.1.rules ∧ Blk w_ g8 26 #[r7_0, r7_1] ∧ Ext w w_ := ⟨_, rfl⟩
          refine W_loop I67 (n := x2.1.rules.length) ?_ ?_
          · rw [hI67]; exact ⟨0, x2.1.rules, true, rfl, rfl, Nat.zero_add _, hL67, sf3, sf4, sf5, rfl, rfl, (rel0 hr7_2), (rel0 hr7_0), (rel0 hr7_1), hb_g8, hx⟩
          ·
            intro n67 f w_ hI
            rw [hI67] at hI
            obtain ⟨i_65, suf67, all_66, rfl, hd67, hl67, hL67, sf3, sf4, sf5, sf6, sf7, hr7_2, hr7_0, hr7_1, hb_g8, hx⟩ := hI
            refine W_seq ?_
            refine W_seq ?_
            refine W_region ?_
            refine L_mv (v := .int .i64 (i_65 : Int)) rfl sf7 ?_
            refine L_fa (o' := 1) rfl fa_26_1 sf3 rfl ?_
            refine L_ld (v := r7_1) rfl Try.isAgg24 rfl (hb_g8.cell (j := 1) rfl) ?_
            refine L_len (v := r7_1) rfl Try.underlying24 rfl hr7_1 ?_
            refine L_lss (m := (i_65 : Int)) (n := (x2.1.rules.length : Int)) rfl rfl rfl ?_
            refine L_nil ?_
            refine W_cond (b := decide ((i_65 : Int) < (x2.1.rules.length : Int))) rfl (fun hc68 => ?_) (fun hc68 => ?_)
            ·
              have hlt67 := of_decide_eq_true hc68
              cases suf67 with
              | nil => exact absurd hlt67 (by simp at hl67; omega)
              | cons x_67 rest67 =>
                obtain ⟨o67, hB67, hL67⟩ := range_cons hL67
                rw [l_FnSolvesModel_b1] at hB67
                have hix67 := drop_idx hd67
                refine W_skip ?_
                refine W_seq ?_
                refine W_block ?_
                obtain ⟨b71, hb71, hB67⟩ := bind_some hB67
                obtain ⟨R72, hR72⟩ : ∃ R : Fr → World → Prop, R = fun f w_ => f 3 = .pointer (some ⟨g8, 0, none⟩) ∧ f 4 = r7_2 ∧ f 5 = .bool x11 ∧ f 6 = .bool b71 ∧ f 7 = .int .i64 (i_65 : Int) ∧ (RP.slice 3 RP.int).rel B w_.heap.size w_ [r7_2] x2.2 ∧ (RP.slice 3 RP.int).rel B w_.heap.size w_ [r7_0] x2.1.sizes ∧ (RP.slice 36 (rRule 3 23)).rel B w_.heap.size w_ [r7_1] x2.1.rules ∧ Blk w_ g8 26 #[r7_0, r7_1] ∧ Ext w w_ := ⟨_, rfl⟩
                refine W_join R72 ?_ ?_
                ·
                  refine W_region ?_
                  refine L_mv (v := .bool all_66) rfl sf6 ?_
                  refine L_mv (v := .bool all_66) rfl rfl ?_
                  refine L_split (d := 61) (b := all_66) rfl (fun hc73 => ?_) (fun hc73 => ?_)
                  ·
                    rw [ite_t hc73] at hb71
                    obtain ⟨x69, hx69, hb71⟩ := bind_some hb71
                    refine L_lda (cs := [r7_0, r7_1]) rfl Try.isAgg26 Try.sizeOf26 sf3 (Blk.sub hb_g8 0 2) rfl ?_
                    refine L_mv (v := .int .i64 (i_65 : Int)) rfl sf7 ?_
                    refine L_mv (v := r7_2) rfl sf4 ?_
                    refine L_call (args := #[.agg #[r7_0, r7_1], .int .i64 (i_65 : Int), r7_2]) rfl Try.call18 (ops3 rfl rfl rfl) (i_RuleHolds_c (m := x2.1) (rule := (i_65 : Int)) (cells := x2.2) (Nat.le_trans hB hx.size) (rel0 hr7_0) (rel0 hr7_1) (rel0 hr7_2) hx69) ?_
                    rintro _ w74 ⟨rfl, he74⟩
                    have hr7_2 := RP.ext hr7_2 he74
                    have hr7_0 := RP.ext hr7_0 he74
                    have hr7_1 := RP.ext hr7_1 he74
                    have hb_g8 := Blk.ext hb_g8 he74
                    have hx := ext_trans hx he74
                    refine L_pick (v := .bool b71) rfl rfl (congrArg Value.bool (so hb71)) ?_
                    refine L_as (v := .bool b71) rfl rfl ?_
                    refine L_nil ?_
                    show R72 _ _
                    rw [hR72]
                    exact ⟨sf3, sf4, sf5, rfl, sf7, (rel0 hr7_2), (rel0 hr7_0), (rel0 hr7_1), hb_g8, hx⟩
                  ·
                    rw [ite_f hc73] at hb71
                    refine L_pass rfl ?_
                    refine L_pass rfl ?_
                    refine L_pass rfl ?_
                    refine L_pass rfl ?_
                    refine L_pick (v := .bool b71) rfl rfl (congrArg Value.bool (so hb71)) ?_
                    refine L_as (v := .bool b71) rfl rfl ?_
                    refine L_nil ?_
                    show R72 _ _
                    rw [hR72]
                    exact ⟨sf3, sf4, sf5, rfl, sf7, (rel0 hr7_2), (rel0 hr7_0), (rel0 hr7_1), hb_g8, hx⟩
                ·
                  intro f w_ hR
                  rw [hR72] at hR
                  obtain ⟨sf3, sf4, sf5, sf6, sf7, hr7_2, hr7_0, hr7_1, hb_g8, hx⟩ := hR
                  clear hR72
                  refine W_region ?_
                  refine L_mv (v := .int .i64 (i_65 : Int)) rfl sf7 ?_
                  refine L_add (m := (i_65 : Int)) (n := 1) rfl rfl rfl ?_
                  refine L_as (v := .int .i64 (i64 ((i_65 : Int) + 1))) rfl rfl ?_
                  refine L_nil ?_
                  obtain rfl := so hB67
                  show ∃ m, m < _ ∧ I67 m _ _
                  refine ⟨rest67.length, by simp, ?_⟩
                  rw [hI67]
                  exact ⟨i_65 + 1, rest67, b71, rfl, drop_next hd67, by simp at hl67; omega, hL67, sf3, sf4, sf5, sf6, (Eq.trans rfl (congrArg (Value.int .i64) (i64_succ (n := x2.1.rules.length) (by simp at hl67; omega) hlen67))), (rel0 hr7_2), (rel0 hr7_0), (rel0 hr7_1), hb_g8, hx⟩
            ·
              cases suf67 with
              | cons _ _ => exact absurd (of_decide_eq_false hc68) (by simp at hl67; omega)
              | nil =>
                obtain rfl := range_nil hL67
                refine W_exit ?_
                show R67 _ _
                rw [hR67]
                exact ⟨all_66, rfl, sf5, sf6, hx⟩
        ·
          intro f w_ hR
          rw [hR67] at hR
          obtain ⟨all_66, rfl, sf5, sf6, hx⟩ := hR
          clear hR67
          refine W_seq ?_
          refine W_region ?_
          refine L_mv (v := .bool x11) rfl sf5 ?_
          refine L_mv (v := .bool all_66) rfl sf6 ?_
          refine L_beql (b := x11) (c := all_66) rfl Try.underlying4 rfl rfl ?_
          refine L_as (v := .bool (x11 == all_66)) rfl rfl ?_
          refine L_nil ?_
          refine W_ret ?_
          obtain rfl := so hF
          refine ret1 Try.results7 ?_
          exact ⟨rfl, hx⟩

theorem s_DrawModelValid_c {fu : Nat} {code : List UInt8} {v0 : Value} {w : World} {B : Nat} (hB : B ≤ w.heap.size) (h0 : (RP.slice 5 RP.u8).rel B w.heap.size w [v0] code) {r : Unit} (hF : s_DrawModelValid fu code = some r) :
    C Try.prog 62 #[v0] w fun v w' => (∃ o : Model, (sModel o) ∧ ∃ u1 u2 : Value, v = .agg #[u1, u2] ∧ (RP.slice 3 RP.int).rel B w'.heap.size w' [u1] o.sizes ∧ (RP.slice 36 (rRule 3 23)).rel B w'.heap.size w' [u2] o.rules) ∧ Ext w w' := by
  unfold s_DrawModelValid at hF
  have hx := ext_refl w
  refine C_enter Try.func62 rfl Try.ntmps62 rfl ?_
  refine W_seq ?_
  refine W_region ?_
  refine L_al (cs := #[(.slice none 0 0), (.slice none 0 0)]) rfl Try.zeroValue26 rfl ?_
  intro g3 w4 hn4
  have hge_g3 := hn4.geS hx.size
  have hb_g3 := hn4.blk
  have h0 := RP.ext h0 hn4.ext
  have hx := ext_trans hx hn4.ext
  refine L_nil ?_
  refine W_seq ?_
  obtain ⟨x5, hx5, hF⟩ := bind_some hF
  refine W_region ?_
  refine L_mv (v := v0) rfl rfl ?_
  refine L_call (args := #[v0]) rfl Try.call46 (ops1 rfl) (s_l17Open_c (code := code) (Nat.le_trans hB hx.size) (rel0 h0) hx5) ?_
  rintro _ w7 ⟨⟨g7, u7, rfl, hge_g7, hb_g7, hu7⟩, he7⟩
  have hge_g7 := Nat.le_trans hx.size hge_g7
  have h0 := RP.ext h0 he7
  have hb_g3 := Blk.ext hb_g3 he7
  have hx := ext_trans hx he7
  refine L_as (v := .pointer (some ⟨g7, 0, none⟩)) rfl rfl ?_
  refine L_nil ?_
  refine W_seq ?_
  obtain ⟨x8, hx8, hF⟩ := bind_some hF
  obtain ⟨hx10, hF⟩ := anyB_some hF
  refine W_region ?_
  refine L_mv (v := .pointer (some ⟨g7, 0, none⟩)) rfl rfl ?_
  refine L_mv (v := .pointer (some ⟨g7, 0, none⟩)) rfl rfl ?_
  refine L_call (args := #[.pointer (some ⟨g7, 0, none⟩)]) rfl Try.call48 (ops1 rfl) (s_l6Model_c (r_ := x5) (Nat.le_trans hB hx.size) hb_g7 (rel0 hu7) (Nat.le_trans hB hge_g7) hx8) ?_
  rintro _ w13 ⟨⟨⟨r13_0, r13_1, rfl, hr13_0, hr13_1⟩, hbn13⟩, he13⟩
  have hr13_1 : Own _ _ w.heap.size B _ _ _ := hr13_1.wide hx.size (Nat.le_refl _)
  have hb_g3 := he13.blk hb_g3 (by decide)
  have hu7 := he13.rel hu7 (by decide) (Nat.le_trans hB hge_g7)
  have hx := ext_mut hx he13 hge_g7
  have hb_g7 := hbn13
  refine L_call (args := #[.pointer (some ⟨g7, 0, none⟩), .agg #[r13_0, r13_1]]) rfl Try.call47 (ops2 rfl rfl) (s_l6Mutate_c (r_ := ({ b := x5.b, p := x8.2 } : Rd)) (m := x8.1) (Nat.le_trans hB hx.size) hb_g7 (rel0 hu7) (Nat.le_trans hB hge_g7) (rel0 hr13_0) (rel0 (Own.rel hr13_1)) hx10) ?_
  rintro _ w14 ⟨⟨x10, gd14, ⟨⟨r14_0, r14_1, rfl, hr14_0, hr14_1⟩, hbn14⟩⟩, he14⟩
  have hF := hF x10 gd14
  have hb_g3 := he14.blk hb_g3 (by decide)
  have hu7 := he14.rel hu7 (by decide) (Nat.le_trans hB hge_g7)
  have hr13_0 := he14.rel hr13_0 (by decide) (Nat.le_trans hB hge_g7)
  have hr13_1 := he14.ownT hr13_1 (by decide) (by decide) (Nat.le_trans hB hge_g7)
  have hx := ext_mut hx he14 hge_g7
  have hb_g7 := hbn14
  refine L_sta (vs := #[r14_0, r14_1]) rfl Try.sizeOf26 rfl rfl rfl (ones_cons (one_of hr14_0) (ones_cons (one_of hr14_1) ones_nil)) hb_g3 rfl ?_
  intro w15 hp15
  have hr14_0 := hp15.mu.rel hr14_0 (by decide) (Nat.le_trans hB hge_g3)
  have hr14_1 := hp15.mu.rel hr14_1 (by decide) (Nat.le_trans hB hge_g3)
  have hx := ext_mut hx hp15.mu hge_g3
  have hb_g3 : Blk w15 g3 26 #[r14_0, r14_1] := hp15.blk
  refine L_nil ?_
  refine W_ret ?_
  have hG := assertM_some hF
  refine retc Try.results62 Try.isAgg26 Try.sizeOf26 rfl hb_g3 rfl ?_
  exact ⟨⟨x10.1, hG, ⟨r14_0, r14_1, rfl, (rel0 hr14_0), (rel0 hr14_1)⟩⟩, hx⟩

theorem s_DrawCountModel_c {fu : Nat} {code : List UInt8} {v0 : Value} {w : World} {B : Nat} (hB : B ≤ w.heap.size) (h0 : (RP.slice 5 RP.u8).rel B w.heap.size w [v0] code) {r : Unit} (hF : s_DrawCountModel fu code = some r) :
    C Try.prog 25 #[v0] w fun v w' => (∃ o : Model, (sModel o) ∧ ∃ u1 u2 : Value, v = .agg #[u1, u2] ∧ (RP.slice 3 RP.int).rel B w'.heap.size w' [u1] o.sizes ∧ (RP.slice 36 (rRule 3 23)).rel B w'.heap.size w' [u2] o.rules) ∧ Ext w w' := by
  unfold s_DrawCountModel at hF
  have hx := ext_refl w
  refine C_enter Try.func25 rfl Try.ntmps25 rfl ?_
  refine W_seq ?_
  refine W_region ?_
  refine L_al (cs := #[(.slice none 0 0), (.slice none 0 0)]) rfl Try.zeroValue26 rfl ?_
  intro g3 w4 hn4
  have hge_g3 := hn4.geS hx.size
  have hb_g3 := hn4.blk
  have h0 := RP.ext h0 hn4.ext
  have hx := ext_trans hx hn4.ext
  refine L_nil ?_
  refine W_seq ?_
  obtain ⟨hx5, hF⟩ := anyB_some hF
  refine W_region ?_
  refine L_mv (v := v0) rfl rfl ?_
  refine L_call (args := #[v0]) rfl Try.call62 (ops1 rfl) (s_DrawModelValid_c (code := code) (Nat.le_trans hB hx.size) (rel0 h0) hx5) ?_
  rintro _ w8 ⟨⟨x5, gd8, ⟨r8_0, r8_1, rfl, hr8_0, hr8_1⟩⟩, he8⟩
  have hF := hF x5 gd8
  have h0 := RP.ext h0 he8
  have hb_g3 := Blk.ext hb_g3 he8
  have hx := ext_trans hx he8
  refine L_sta (vs := #[r8_0, r8_1]) rfl Try.sizeOf26 rfl rfl rfl (ones_cons (one_of hr8_0) (ones_cons (one_of hr8_1) ones_nil)) hb_g3 rfl ?_
  intro w9 hp9
  have hr8_0 := hp9.mu.rel hr8_0 (by decide) (Nat.le_trans hB hge_g3)
  have hr8_1 := hp9.mu.rel hr8_1 (by decide) (Nat.le_trans hB hge_g3)
  have hx := ext_mut hx hp9.mu hge_g3
  have hb_g3 : Blk w9 g3 26 #[r8_0, r8_1] := hp9.blk
  refine L_nil ?_
  refine W_ret ?_
  have hG := assertM_some hF
  refine retc Try.results25 Try.isAgg26 Try.sizeOf26 rfl hb_g3 rfl ?_
  exact ⟨⟨x5, hG, ⟨r8_0, r8_1, rfl, (rel0 hr8_0), (rel0 hr8_1)⟩⟩, hx⟩

theorem slices_Clone_int_c {s : List Int} {v0 : Value} {w : World} {B : Nat} (hB : B ≤ w.heap.size) (h0 : (RP.slice 3 RP.int).rel B w.heap.size w [v0] s) {r : List Int} (hF : slices_Clone_int s = some r) :
    C Try.prog 74 #[v0] w fun v w' => (∃ u1 : Value, v = u1 ∧ Own RP.int 3 w.heap.size B w' u1 r) ∧ Ext w w' := by
  unfold slices_Clone_int at hF
  have hx := ext_refl w
  refine C_enter Try.func74 rfl Try.ntmps74 rfl ?_
  refine W_seq ?_
  refine W_region ?_
  refine L_as (v := (.slice none 0 0)) rfl rfl ?_
  refine L_nil ?_
  refine W_seq ?_
  refine W_seq ?_
  refine W_region ?_
  refine L_mv (v := v0) rfl rfl ?_
  obtain ⟨a1, cap1, hsl1, _, _⟩ := slice_len h0
  refine L_nileq (a := a1) rfl Try.underlying23 (Eq.trans rfl hsl1) rfl ?_
  rw [← hsl1]
  refine L_nil ?_
  rcases Bool.eq_false_or_eq_true (isNilS v0) with hn2 | hn2
  ·
    refine W_cond (b := true) (Eq.trans rfl (congrArg Value.bool hn2)) (fun _ => ?_) (fun h => nomatch h)
    obtain rfl := nil_of h0 hn2
    refine W_seq ?_
    refine W_region ?_
    refine L_as (v := (.slice none 0 0)) rfl rfl ?_
    refine L_nil ?_
    refine W_ret ?_
    simp [app] at hF
    subst hF
    refine ret1 Try.results74 ?_
    exact ⟨⟨(.slice none 0 0), rfl, (Own.nil _ _ _ _ _)⟩, hx⟩
  ·
    refine W_cond (b := false) (Eq.trans rfl (congrArg Value.bool hn2)) (fun h => nomatch h) (fun _ => ?_)
    refine W_skip ?_
    refine W_seq ?_
    obtain ⟨x5, hx5, hF⟩ := bind_some hF
    refine W_region ?_
    refine L_bs rfl parts0 (bs_23_0  ) ?_
    intro g7 w8 hn8
    have ho8 : Own RP.int 3 w.heap.size B w8 _ _ := own_new0 hn8 hx.size
    have hz8 := zero_new hn8 hx.size
    have h0 := RP.ext h0 hn8.ext
    have hx := ext_trans hx hn8.ext
    refine L_mv (v := v0) rfl rfl ?_
    refine L_app (v := (.slice (some ⟨g7, 0, none⟩) 0 0)) (u := v0) rfl et_23 (by decide) rfl rfl ho8 (rel0 h0) hx5 hx.size hB ?_
    intro v9 w9 ho9 hm9 hb9
    have hx := ext_mut hx hm9 (Nat.le_refl _)
    refine L_as (v := v9) rfl rfl ?_
    refine L_nil ?_
    refine W_ret ?_
    obtain rfl := so hF
    refine ret1 Try.results74 ?_
    exact ⟨⟨v9, rfl, ho9⟩, hx⟩

theorem i_each_c {fu : Nat} {sizes : List Int} {from_ : List Int} {told : (List Int → Option Bool)} {v0 : Value} {v1 : Value} {v2 : Value} {w : World} {B : Nat} (hB : B ≤ w.heap.size) (h0 : (RP.slice 3 RP.int).rel B w.heap.size w [v0] sizes) (h1 : (RP.slice 3 RP.int).rel B w.heap.size w [v1] from_) (h2 : Fun1 Try.prog B (RP.slice 3 RP.int) false Value.bool told v2 w) {r : Unit} (hF : i_each fu sizes from_ told = some r) :
    C Try.prog 63 #[v0, v1, v2] w fun v w' => (v = .tuple #[]) ∧ Ext w w' := by
  unfold i_each at hF
  obtain ⟨fid_2, caps_2, rfl, hcall_2, hc_2⟩ := h2
  have hx := ext_refl w
  refine C_enter Try.func63 rfl Try.ntmps63 rfl ?_
  refine W_seq ?_
  obtain ⟨x1, hx1, hF⟩ := bind_some hF
  refine W_region ?_
  refine L_mv (v := v1) rfl rfl ?_
  refine L_call (args := #[v1]) rfl Try.call74 (ops1 rfl) (slices_Clone_int_c (s := from_) (Nat.le_trans hB hx.size) (rel0 h1) hx1) ?_
  rintro r3_0 w3 ⟨⟨_, rfl, hr3_0⟩, he3⟩
  have hr3_0 : Own _ _ w.heap.size B _ _ _ := hr3_0.wide hx.size (Nat.le_refl _)
  have h0 := RP.ext h0 he3
  have h1 := RP.ext h1 he3
  have hx := ext_trans hx he3
  refine L_as (v := r3_0) rfl rfl ?_
  refine L_nil ?_
  obtain ⟨j6, hL6, hF⟩ := bind_some hF
  obtain ⟨R6, hR6⟩ : ∃ R : Fr → World → Prop, R = fun f w_ => ∃ cells_5 : List Int, j6 = .nx cells_5 ∧ Ext w w_ := ⟨_, rfl⟩
  refine W_join R6 ?_ ?_
  ·
    refine W_block ?_
    obtain ⟨I6, hI6⟩ : ∃ I : Nat → Fr → World → Prop, I = fun n f w_ => ∃ cells_5 : List Int, ∃ v5_cells : Value, whileL (i_each_b1 fu sizes told) n cells_5 = some j6 ∧ f 0 = v0 ∧ f 2 = .func (.func fid_2) #[] caps_2 ∧ f 6 = v5_cells ∧ (RP.slice 3 RP.int).rel B w.heap.size w_ [v0] sizes ∧ Own RP.int 3 w.heap.size B w_ v5_cells cells_5 ∧ Ext w w_ := ⟨_, rfl⟩
    refine W_loop I6 (n := fu) ?_ ?_
    · rw [hI6]; exact ⟨x1, r3_0, hL6, rfl, rfl, rfl, h0, hr3_0, hx⟩
    ·
      intro n6 f w_ hI
      rw [hI6] at hI
      obtain ⟨cells_5, v5_cells, hL6, sf0, sf2, sf6, h0, hv5_cells, hx⟩ := hI
      cases n6 with
      | zero => exact (while_zero hL6).elim
      | succ n6 =>
        obtain ⟨o6, hB6, hL6⟩ := while_succ hL6
        rw [i_each_b1] at hB6
        refine W_seq ?_
        refine W_seq ?_
        obtain ⟨x7, hx7, hB6⟩ := bind_some hB6
        refine W_region ?_
        refine L_mv (v := .func (.func fid_2) #[] caps_2) rfl sf2 ?_
        refine L_mv (v := v5_cells) rfl sf6 ?_
        refine L_callv (args := #[v5_cells]) rfl hcall_2 rfl (ops1 rfl) (hc_2 _ hx [v5_cells] _ _ _ (rel0 (Own.rel hv5_cells)) hx7 (args_app rfl)) ?_
        rintro _ w8 ⟨rfl, he8⟩
        have h0 := RP.ext h0 he8
        have hv5_cells := Own.ext hv5_cells he8
        have hx := ext_trans hx he8
        refine L_nil ?_
        refine W_cond (b := x7) rfl (fun hc9 => ?_) (fun hc9 => ?_)
        ·
          have hB6 := (ite_t hc9).symm.trans hB6
          refine W_skip ?_
          refine W_block ?_
          refine W_seq ?_
          refine W_region ?_
          refine L_mv (v := v5_cells) rfl sf6 ?_
          refine L_len (v := v5_cells) rfl Try.underlying23 rfl (Own.rel hv5_cells) ?_
          refine L_sub (m := (cells_5.length : Int)) (n := 1) rfl rfl rfl ?_
          refine L_as (v := .int .i64 (i64 ((cells_5.length : Int) - 1))) rfl rfl ?_
          refine L_nil ?_
          refine W_seq ?_
          obtain ⟨j13, hL13, hB6⟩ := bind_some hB6
          obtain ⟨R13, hR13⟩ : ∃ R : Fr → World → Prop, R = fun f w_ => ∃ cells_11 : List Int, ∃ i_12 : Int, ∃ v11_cells : Value, j13 = .nx (cells_11, i_12) ∧ f 0 = v0 ∧ f 2 = .func (.func fid_2) #[] caps_2 ∧ f 6 = v11_cells ∧ f 7 = .int .i64 i_12 ∧ (RP.slice 3 RP.int).rel B w.heap.size w_ [v0] sizes ∧ Own RP.int 3 w.heap.size B w_ v11_cells cells_11 ∧ Ext w w_ := ⟨_, rfl⟩
          refine W_join R13 ?_ ?_
          ·
            refine W_block ?_
            obtain ⟨I13, hI13⟩ : ∃ I : Nat → Fr → World → Prop, I = fun n f w_ => ∃ cells_11 : List Int, ∃ i_12 : Int, ∃ v11_cells : Value, whileL (i_each_b2 sizes) n (cells_11, i_12) = some j13 ∧ f 0 = v0 ∧ f 2 = .func (.func fid_2) #[] caps_2 ∧ f 6 = v11_cells ∧ f 7 = .int .i64 i_12 ∧ (RP.slice 3 RP.int).rel B w.heap.size w_ [v0] sizes ∧ Own RP.int 3 w.heap.size B w_ v11_cells cells_11 ∧ Ext w w_ := ⟨_, rfl⟩
            refine W_loop I13 (n := fu) ?_ ?_
            · rw [hI13]; exact ⟨cells_5, i64 ((cells_5.length : Int) - 1), v5_cells, hL13, sf0, sf2, sf6, rfl, h0, hv5_cells, hx⟩
            ·
              intro n13 f w_ hI
              rw [hI13] at hI
              obtain ⟨cells_11, i_12, v11_cells, hL13, sf0, sf2, sf6, sf7, h0, hv11_cells, hx⟩ := hI
              cases n13 with
              | zero => exact (while_zero hL13).elim
              | succ n13 =>
                obtain ⟨o13, hB13, hL13⟩ := while_succ hL13
                rw [i_each_b2] at hB13
                refine W_seq ?_
                refine W_seq ?_
                obtain ⟨b20, hb20, hB13⟩ := bind_some hB13
                obtain ⟨R22, hR22⟩ : ∃ R : Fr → World → Prop, R = fun f w_ => f 0 = v0 ∧ f 2 = .func (.func fid_2) #[] caps_2 ∧ f 6 = v11_cells ∧ f 7 = .int .i64 i_12 ∧ f 28 = .bool b20 ∧ (RP.slice 3 RP.int).rel B w.heap.size w_ [v0] sizes ∧ Own RP.int 3 w.heap.size B w_ v11_cells cells_11 ∧ Ext w w_ := ⟨_, rfl⟩
                refine W_join R22 ?_ ?_
                ·
                  rcases Bool.eq_false_or_eq_true (decide (i_12 ≥ 0)) with hc23 | hc23
                  ·
                    rw [ite_t hc23] at hb20
                    obtain ⟨x14, hx14, hb20⟩ := bind_some hb20
                    obtain ⟨x17, hx17, hb20⟩ := bind_some hb20
                    refine W_drawL 11 [isV (.int .i64 i_12), isV (.bool (decide (i_12 ≥ 0))), isV (.bool (decide (i_12 ≥ 0))), isV (v11_cells), isV (.int .i64 i_12), isEl B RP.int x14 0, isV (.int .i64 x14), isV (v0), isV (.int .i64 i_12), isEl B RP.int x17 0, isV (.int .i64 x17)] Try_mix (by kernel_rfl) (am_cons (mono_V _) (am_cons (mono_V _) (am_cons (mono_V _) (am_cons (mono_V _) (am_cons (mono_V _) (am_cons (mono_el _ _ _ _) (am_cons (mono_V _) (am_cons (mono_V _) (am_cons (mono_V _) (am_cons (mono_el _ _ _ _) (am_cons (mono_V _) am_nil))))))))))) ?_ (fun f w_ hS21 hE21 hT21 => ?_)
                    ·
                      refine ops_cons (fun f w_ hS21 hE21 hP21 => ?_) ?_
                      ·
                        have hx := ext_trans hx hE21
                        refine L_mv (v := .int .i64 i_12) rfl ((hS21 7 rfl).trans sf7) ?_
                        exact L_nil ⟨rfl, (ext_refl _), _, _, rfl, rfl, rfl⟩
                      refine ops_cons (fun f w_ hS21 hE21 hP21 => ?_) ?_
                      ·
                        have hx := ext_trans hx hE21
                        refine L_geq (m := i_12) (n := 0) rfl (hP21 0 16 rfl rfl) rfl ?_
                        exact L_nil ⟨rfl, (ext_refl _), _, _, rfl, rfl, rfl⟩
                      refine ops_cons (fun f w_ hS21 hE21 hP21 => ?_) ?_
                      ·
                        have hx := ext_trans hx hE21
                        refine L_mv (v := .bool (decide (i_12 ≥ 0))) rfl (hP21 1 17 rfl rfl) ?_
                        exact L_nil ⟨rfl, (ext_refl _), _, _, rfl, rfl, rfl⟩
                      refine ops_cons (fun f w_ hS21 hE21 hP21 => ?_) ?_
                      ·
                        have hx := ext_trans hx hE21
                        have hv11_cells := Own.ext hv11_cells hE21
                        refine L_mv (v := v11_cells) (g_yes rfl (Eq.trans (hP21 2 18 rfl rfl) (congrArg Value.bool hc23)) rfl) ((hS21 6 rfl).trans sf6) ?_
                        exact L_nil ⟨rfl, (ext_refl _), _, _, rfl, rfl, rfl⟩
                      refine ops_cons (fun f w_ hS21 hE21 hP21 => ?_) ?_
                      ·
                        have hx := ext_trans hx hE21
                        refine L_mv (v := .int .i64 i_12) (g_yes rfl (Eq.trans (hP21 2 18 rfl rfl) (congrArg Value.bool hc23)) rfl) ((hS21 7 rfl).trans sf7) ?_
                        exact L_nil ⟨rfl, (ext_refl _), _, _, rfl, rfl, rfl⟩
                      refine ops_cons (fun f w_ hS21 hE21 hP21 => ?_) ?_
                      ·
                        have hx := ext_trans hx hE21
                        have hv11_cells := Own.ext hv11_cells hE21
                        refine L_ix (r := RP.int) (g_yes rfl (Eq.trans (hP21 2 18 rfl rfl) (congrArg Value.bool hc23)) rfl) Try.underlying23 Try.sizeOf3 (hP21 3 19 rfl rfl) (Own.rel hv11_cells) (hP21 4 20 rfl rfl) hx14 ?_
                        intro g28 o29 cs29 hr29 hat29
                        obtain rfl : _ = [_] := hr29
                        exact L_nil ⟨rfl, (ext_refl _), _, _, rfl, rfl, ⟨_, _, _, rfl, rfl, hat29⟩⟩
                      refine ops_cons (fun f w_ hS21 hE21 hP21 => ?_) ?_
                      ·
                        have hx := ext_trans hx hE21
                        obtain ⟨g30, o30, cs30, hv30, hr30, hat30⟩ := (hP21 5 21 rfl rfl)
                        obtain rfl : _ = [_] := hr30
                        refine L_ld (v := .int .i64 x14) (g_yes rfl (Eq.trans (hP21 2 18 rfl rfl) (congrArg Value.bool hc23)) rfl) Try.isAgg3 hv30 (hat30.cell (j := 0) rfl) ?_
                        exact L_nil ⟨rfl, (ext_refl _), _, _, rfl, rfl, rfl⟩
                      refine ops_cons (fun f w_ hS21 hE21 hP21 => ?_) ?_
                      ·
                        have hx := ext_trans hx hE21
                        have h0 := RP.ext h0 hE21
                        refine L_mv (v := v0) (g_yes rfl (Eq.trans (hP21 2 18 rfl rfl) (congrArg Value.bool hc23)) rfl) ((hS21 0 rfl).trans sf0) ?_
                        exact L_nil ⟨rfl, (ext_refl _), _, _, rfl, rfl, rfl⟩
                      refine ops_cons (fun f w_ hS21 hE21 hP21 => ?_) ?_
                      ·
                        have hx := ext_trans hx hE21
                        refine L_mv (v := .int .i64 i_12) (g_yes rfl (Eq.trans (hP21 2 18 rfl rfl) (congrArg Value.bool hc23)) rfl) ((hS21 7 rfl).trans sf7) ?_
                        exact L_nil ⟨rfl, (ext_refl _), _, _, rfl, rfl, rfl⟩
                      refine ops_cons (fun f w_ hS21 hE21 hP21 => ?_) ?_
                      ·
                        have hx := ext_trans hx hE21
                        have h0 := RP.ext h0 hE21
                        refine L_ix (r := RP.int) (g_yes rfl (Eq.trans (hP21 2 18 rfl rfl) (congrArg Value.bool hc23)) rfl) Try.underlying23 Try.sizeOf3 (hP21 7 23 rfl rfl) h0 (hP21 8 24 rfl rfl) hx17 ?_
                        intro g31 o32 cs32 hr32 hat32
                        obtain rfl : _ = [_] := hr32
                        exact L_nil ⟨rfl, (ext_refl _), _, _, rfl, rfl, ⟨_, _, _, rfl, rfl, hat32⟩⟩
                      refine ops_cons (fun f w_ hS21 hE21 hP21 => ?_) ?_
                      ·
                        have hx := ext_trans hx hE21
                        obtain ⟨g33, o33, cs33, hv33, hr33, hat33⟩ := (hP21 9 25 rfl rfl)
                        obtain rfl : _ = [_] := hr33
                        refine L_ld (v := .int .i64 x17) (g_yes rfl (Eq.trans (hP21 2 18 rfl rfl) (congrArg Value.bool hc23)) rfl) Try.isAgg3 hv33 (hat33.cell (j := 0) rfl) ?_
                        exact L_nil ⟨rfl, (ext_refl _), _, _, rfl, rfl, rfl⟩
                      exact ops_nil
                    ·
                      have h0 := RP.ext h0 hE21
                      have hv11_cells := Own.ext hv11_cells hE21
                      have hx := ext_trans hx hE21
                      refine L_eql (m := x14) (n := x17) (g_yes rfl (Eq.trans (hT21 2 18 rfl rfl) (congrArg Value.bool hc23)) rfl) (hT21 6 22 rfl rfl) (hT21 10 26 rfl rfl) ?_
                      refine L_pick (v := .bool b20) rfl (Eq.trans (hT21 2 18 rfl rfl) (congrArg Value.bool hc23)) (congrArg Value.bool (so hb20)) ?_
                      refine L_nil ?_
                      show R22 _ _
                      rw [hR22]
                      exact ⟨((hS21 0 rfl).trans sf0), ((hS21 2 rfl).trans sf2), ((hS21 6 rfl).trans sf6), ((hS21 7 rfl).trans sf7), rfl, h0, hv11_cells, hx⟩
                  ·
                    rw [ite_f hc23] at hb20
                    refine W_drawL 11 [isV (.int .i64 i_12), isV (.bool (decide (i_12 ≥ 0))), isV (.bool (decide (i_12 ≥ 0))), isV (undef), isV (undef), isV (undef), isV (undef), isV (undef), isV (undef), isV (undef), isV (undef)] Try_mix (by kernel_rfl) (am_cons (mono_V _) (am_cons (mono_V _) (am_cons (mono_V _) (am_cons (mono_V _) (am_cons (mono_V _) (am_cons (mono_V _) (am_cons (mono_V _) (am_cons (mono_V _) (am_cons (mono_V _) (am_cons (mono_V _) (am_cons (mono_V _) am_nil))))))))))) ?_ (fun f w_ hS21 hE21 hT21 => ?_)
                    ·
                      refine ops_cons (fun f w_ hS21 hE21 hP21 => ?_) ?_
                      ·
                        have hx := ext_trans hx hE21
                        refine L_mv (v := .int .i64 i_12) rfl ((hS21 7 rfl).trans sf7) ?_
                        exact L_nil ⟨rfl, (ext_refl _), _, _, rfl, rfl, rfl⟩
                      refine ops_cons (fun f w_ hS21 hE21 hP21 => ?_) ?_
                      ·
                        have hx := ext_trans hx hE21
                        refine L_geq (m := i_12) (n := 0) rfl (hP21 0 16 rfl rfl) rfl ?_
                        exact L_nil ⟨rfl, (ext_refl _), _, _, rfl, rfl, rfl⟩
                      refine ops_cons (fun f w_ hS21 hE21 hP21 => ?_) ?_
                      ·
                        have hx := ext_trans hx hE21
                        refine L_mv (v := .bool (decide (i_12 ≥ 0))) rfl (hP21 1 17 rfl rfl) ?_
                        exact L_nil ⟨rfl, (ext_refl _), _, _, rfl, rfl, rfl⟩
                      refine ops_cons (fun f w_ hS21 hE21 hP21 => ?_) ?_
                      ·
                        have hx := ext_trans hx hE21
                        have hv11_cells := Own.ext hv11_cells hE21
                        refine L_pass (g_no rfl (Eq.trans (hP21 2 18 rfl rfl) (congrArg Value.bool hc23)) rfl rfl) ?_
                        exact L_nil ⟨rfl, (ext_refl _), _, _, rfl, rfl, rfl⟩
                      refine ops_cons (fun f w_ hS21 hE21 hP21 => ?_) ?_
                      ·
                        have hx := ext_trans hx hE21
                        refine L_pass (g_no rfl (Eq.trans (hP21 2 18 rfl rfl) (congrArg Value.bool hc23)) rfl rfl) ?_
                        exact L_nil ⟨rfl, (ext_refl _), _, _, rfl, rfl, rfl⟩
                      refine ops_cons (fun f w_ hS21 hE21 hP21 => ?_) ?_
                      ·
                        have hx := ext_trans hx hE21
                        refine L_pass (g_no rfl (Eq.trans (hP21 2 18 rfl rfl) (congrArg Value.bool hc23)) rfl rfl) ?_
                        exact L_nil ⟨rfl, (ext_refl _), _, _, rfl, rfl, rfl⟩
                      refine ops_cons (fun f w_ hS21 hE21 hP21 => ?_) ?_
                      ·
                        have hx := ext_trans hx hE21
                        refine L_pass (g_no rfl (Eq.trans (hP21 2 18 rfl rfl) (congrArg Value.bool hc23)) rfl rfl) ?_
                        exact L_nil ⟨rfl, (ext_refl _), _, _, rfl, rfl, rfl⟩
                      refine ops_cons (fun f w_ hS21 hE21 hP21 => ?_) ?_
                      ·
                        have hx := ext_trans hx hE21
                        have h0 := RP.ext h0 hE21
                        refine L_pass (g_no rfl (Eq.trans (hP21 2 18 rfl rfl) (congrArg Value.bool hc23)) rfl rfl) ?_
                        exact L_nil ⟨rfl, (ext_refl _), _, _, rfl, rfl, rfl⟩
                      refine ops_cons (fun f w_ hS21 hE21 hP21 => ?_) ?_
                      ·
                        have hx := ext_trans hx hE21
                        refine L_pass (g_no rfl (Eq.trans (hP21 2 18 rfl rfl) (congrArg Value.bool hc23)) rfl rfl) ?_
                        exact L_nil ⟨rfl, (ext_refl _), _, _, rfl, rfl, rfl⟩
                      refine ops_cons (fun f w_ hS21 hE21 hP21 => ?_) ?_
                      ·
                        have hx := ext_trans hx hE21
                        refine L_pass (g_no rfl (Eq.trans (hP21 2 18 rfl rfl) (congrArg Value.bool hc23)) rfl rfl) ?_
                        exact L_nil ⟨rfl, (ext_refl _), _, _, rfl, rfl, rfl⟩
                      refine ops_cons (fun f w_ hS21 hE21 hP21 => ?_) ?_
                      ·
                        have hx := ext_trans hx hE21
                        refine L_pass (g_no rfl (Eq.trans (hP21 2 18 rfl rfl) (congrArg Value.bool hc23)) rfl rfl) ?_
                        exact L_nil ⟨rfl, (ext_refl _), _, _, rfl, rfl, rfl⟩
                      exact ops_nil
                    ·
                      have h0 := RP.ext h0 hE21
                      have hv11_cells := Own.ext hv11_cells hE21
                      have hx := ext_trans hx hE21
                      refine L_pass (g_no rfl (Eq.trans (hT21 2 18 rfl rfl) (congrArg Value.bool hc23)) rfl rfl) ?_
                      refine L_pick (v := .bool b20) rfl (Eq.trans (hT21 2 18 rfl rfl) (congrArg Value.bool hc23)) (congrArg Value.bool (so hb20)) ?_
                      refine L_nil ?_
                      show R22 _ _
                      rw [hR22]
                      exact ⟨((hS21 0 rfl).trans sf0), ((hS21 2 rfl).trans sf2), ((hS21 6 rfl).trans sf6), ((hS21 7 rfl).trans sf7), rfl, h0, hv11_cells, hx⟩
                ·
                  intro f w_ hR
                  rw [hR22] at hR
                  obtain ⟨sf0, sf2, sf6, sf7, sf28, h0, hv11_cells, hx⟩ := hR
                  clear hR22
                  refine W_cond (b := b20) sf28 (fun hc34 => ?_) (fun hc34 => ?_)
                  ·
                    have hB13 := (ite_t hc34).symm.trans hB13
                    refine W_skip ?_
                    refine W_block ?_
                    refine W_seq ?_
                    obtain ⟨x35, hx35, hB13⟩ := bind_some hB13
                    refine W_region ?_
                    refine L_mv (v := v11_cells) rfl sf6 ?_
                    refine L_mv (v := .int .i64 i_12) rfl sf7 ?_
                    refine L_ixo (r := RP.int) rfl et_23 rfl hv11_cells rfl hx35 ?_
                    intro g39 c40 cs40 hg40 hl40 hc40 hr40 hj40
                    obtain rfl : cs40 = [_] := hr40
                    refine L_st (v := .int .i64 0) rfl Try.sizeOf3 rfl rfl rfl hc40 (hj40 0 _ rfl) ?_
                    intro w41 hp41
                    have hv11_cells_n : Own RP.int 3 _ B w41 _ (cells_11.set (Int.toNat i_12) 0) := own_set hv11_cells hg40 rfl (by decide) (idx_some hx35).2.2 hc40 hp41 rfl hB
                    have h0 := hp41.mu.rel_lo h0 hl40
                    have hx := ext_mut hx hp41.mu hl40
                    have hv11_cells := hv11_cells_n
                    refine L_nil ?_
                    refine W_region ?_
                    refine L_mv (v := .int .i64 i_12) rfl sf7 ?_
                    refine L_sub (m := i_12) (n := 1) rfl rfl rfl ?_
                    refine L_as (v := .int .i64 (i64 (i_12 - 1))) rfl rfl ?_
                    refine L_nil ?_
                    obtain rfl := so hB13
                    show ∃ m, m < _ ∧ I13 m _ _
                    refine ⟨n13, Nat.lt_succ_self _, ?_⟩
                    rw [hI13]
                    exact ⟨(cells_11.set (Int.toNat i_12) 0), i64 (i_12 - 1), v11_cells, hL13, sf0, sf2, sf6, rfl, h0, hv11_cells, hx⟩
                  ·
                    have hB13 := (ite_f hc34).symm.trans hB13
                    refine W_exit ?_
                    obtain rfl := so hB13
                    obtain rfl := so hL13
                    show R13 _ _
                    rw [hR13]
                    exact ⟨cells_11, i_12, v11_cells, rfl, sf0, sf2, sf6, sf7, h0, hv11_cells, hx⟩
          ·
            intro f w_ hR
            rw [hR13] at hR
            obtain ⟨cells_11, i_12, v11_cells, rfl, sf0, sf2, sf6, sf7, h0, hv11_cells, hx⟩ := hR
            clear hR13
            refine W_seq ?_
            refine W_seq ?_
            refine W_region ?_
            refine L_mv (v := .int .i64 i_12) rfl sf7 ?_
            refine L_lss (m := i_12) (n := 0) rfl rfl rfl ?_
            refine L_nil ?_
            refine W_cond (b := decide (i_12 < 0)) rfl (fun hc42 => ?_) (fun hc42 => ?_)
            ·
              have hB6 := (ite_t hc42).symm.trans hB6
              refine W_ret ?_
              obtain rfl := so hB6
              obtain rfl := so hL6
              obtain rfl := so hF
              refine ret0 Try.results63 ?_
              exact ⟨rfl, hx⟩
            ·
              have hB6 := (ite_f hc42).symm.trans hB6
              refine W_skip ?_
              obtain ⟨x43, hx43, hB6⟩ := bind_some hB6
              refine W_region ?_
              refine L_mv (v := v11_cells) rfl sf6 ?_
              refine L_mv (v := .int .i64 i_12) rfl sf7 ?_
              refine L_ix (r := RP.int) rfl Try.underlying23 Try.sizeOf3 rfl (Own.rel hv11_cells) rfl hx43 ?_
              intro g49 o50 cs50 hr50 hat50
              obtain rfl : _ = [_] := hr50
              refine L_ld (v := .int .i64 x43) rfl Try.isAgg3 rfl (hat50.cell (j := 0) rfl) ?_
              refine L_add (m := x43) (n := 1) rfl rfl rfl ?_
              refine L_ixo (r := RP.int) rfl et_23 rfl hv11_cells rfl hx43 ?_
              intro g51 c52 cs52 hg52 hl52 hc52 hr52 hj52
              obtain rfl : cs52 = [_] := hr52
              refine L_st (v := .int .i64 (i64 (x43 + 1))) rfl Try.sizeOf3 rfl rfl rfl hc52 (hj52 0 _ rfl) ?_
              intro w53 hp53
              have hv11_cells_n : Own RP.int 3 _ B w53 _ (cells_11.set (Int.toNat i_12) (i64 (x43 + 1))) := own_set hv11_cells hg52 rfl (by decide) (idx_some hx43).2.2 hc52 hp53 rfl hB
              have h0 := hp53.mu.rel_lo h0 hl52
              have hx := ext_mut hx hp53.mu hl52
              have hv11_cells := hv11_cells_n
              refine L_nil ?_
              obtain rfl := so hB6
              show ∃ m, m < _ ∧ I6 m _ _
              refine ⟨n6, Nat.lt_succ_self _, ?_⟩
              rw [hI6]
              exact ⟨(cells_11.set (Int.toNat i_12) (i64 (x43 + 1))), v11_cells, hL6, sf0, sf2, sf6, h0, hv11_cells, hx⟩
        ·
          have hB6 := (ite_f hc9).symm.trans hB6
          refine W_exit ?_
          obtain rfl := so hB6
          obtain rfl := so hL6
          show R6 _ _
          rw [hR6]
          exact ⟨cells_5, rfl, hx⟩
  ·
    intro f w_ hR
    rw [hR6] at hR
    obtain ⟨cells_5, rfl, hx⟩ := hR
    clear hR6
    obtain rfl := so hF
    exact end0 Try.results63 ⟨rfl, hx⟩

end Go.Proofs.Ytcjjfneofcpmfaa

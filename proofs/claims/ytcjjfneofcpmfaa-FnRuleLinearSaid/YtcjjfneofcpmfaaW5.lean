/- Part of a proof by program: W5. -/
import Derived.Test.YtcjjfneofcpmfaaD1
import Derived.Test.YtcjjfneofcpmfaaW4
namespace Go.Proofs.Ytcjjfneofcpmfaa
open Go Go.E Go.L Go.RowKit
set_option linter.unusedVariables false
set_option linter.unusedSimpArgs false
set_option maxRecDepth 100000

theorem l_FnRuleLinear_c {fu : Nat} {code : List UInt8} {v0 : Value} {w : World} {B : Nat} (hB : B ≤ w.heap.size) (h0 : (RP.slice 5 RP.u8).rel B w.heap.size w [v0] code) {r : Bool} (hF : l_FnRuleLinear fu code = some r) :
    C Try.prog 6 #[v0] w fun v w' => (v = .bool r) ∧ Ext w w' := by
  unfold l_FnRuleLinear at hF
  have hx := ext_refl w
  refine C_enter Try.func6 rfl Try.ntmps6 rfl ?_
  refine W_seq ?_
  refine W_region ?_
  refine L_as (v := .bool false) rfl rfl ?_
  refine L_nil ?_
  refine W_seq ?_
  refine W_seq ?_
  refine W_region ?_
  refine L_mv (v := v0) rfl rfl ?_
  refine L_len (v := v0) rfl Try.underlying22 rfl h0 ?_
  refine L_gtr (m := (code.length : Int)) (n := 1048576) rfl rfl rfl ?_
  refine L_nil ?_
  refine W_cond (b := decide ((code.length : Int) > 1048576)) rfl (fun hc1 => ?_) (fun hc1 => ?_)
  ·
    have hF := (ite_t hc1).symm.trans hF
    refine W_seq ?_
    refine W_region ?_
    refine L_as (v := .bool true) rfl rfl ?_
    refine L_nil ?_
    refine W_ret ?_
    obtain rfl := so hF
    refine ret1 Try.results6 ?_
    exact ⟨rfl, hx⟩
  ·
    have hF := (ite_f hc1).symm.trans hF
    refine W_skip ?_
    refine W_seq ?_
    obtain ⟨hx2, hF⟩ := anyB_some hF
    refine W_region ?_
    refine L_mv (v := v0) rfl rfl ?_
    refine L_call (args := #[v0]) rfl Try.call17 (ops1 rfl) (s_DrawRuleHolds_c (code := code) (Nat.le_trans hB hx.size) (rel0 h0) hx2) ?_
    rintro _ w7 ⟨⟨x2, gd7, ⟨r7_0, r7_1, r7_2, rfl, hr7_0, hr7_1, hr7_2⟩⟩, he7⟩
    have hF := hF x2 gd7
    have h0 := RP.ext h0 he7
    have hx := ext_trans hx he7
    refine L_mv (v := .tuple #[.agg #[r7_0, r7_1], .int .i64 x2.2.1, r7_2]) rfl rfl ?_
    refine L_ex (v := .agg #[r7_0, r7_1]) rfl rfl rfl ?_
    refine L_ex (v := .int .i64 x2.2.1) rfl rfl rfl ?_
    refine L_ex (v := r7_2) rfl rfl rfl ?_
    refine L_al (cs := #[(.slice none 0 0), (.slice none 0 0)]) rfl Try.zeroValue26 rfl ?_
    intro g8 w9 hn9
    have hge_g8 := hn9.geS hx.size
    have hb_g8 := hn9.blk
    have hr7_0 := RP.ext hr7_0 hn9.ext
    have hr7_1 := RP.ext hr7_1 hn9.ext
    have hr7_2 := RP.ext hr7_2 hn9.ext
    have hx := ext_trans hx hn9.ext
    refine L_sta (vs := #[r7_0, r7_1]) rfl Try.sizeOf26 rfl rfl rfl (ones_cons (one_of hr7_0) (ones_cons (one_of hr7_1) ones_nil)) hb_g8 rfl ?_
    intro w10 hp10
    have hr7_0 := hp10.mu.rel hr7_0 (by decide) (Nat.le_trans hB hge_g8)
    have hr7_1 := hp10.mu.rel hr7_1 (by decide) (Nat.le_trans hB hge_g8)
    have hr7_2 := hp10.mu.rel hr7_2 (by decide) (Nat.le_trans hB hge_g8)
    have hx := ext_mut hx hp10.mu hge_g8
    have hb_g8 : Blk w10 g8 26 #[r7_0, r7_1] := hp10.blk
    refine L_as (v := .int .i64 x2.2.1) rfl rfl ?_
    refine L_as (v := r7_2) rfl rfl ?_
    refine L_nil ?_
    refine W_seq ?_
    obtain ⟨x11, hx11, hF⟩ := bind_some hF
    refine W_region ?_
    refine L_lda (cs := [r7_0, r7_1]) rfl Try.isAgg26 Try.sizeOf26 rfl (Blk.sub hb_g8 0 2) rfl ?_
    refine L_mv (v := .int .i64 x2.2.1) rfl rfl ?_
    refine L_mv (v := r7_2) rfl rfl ?_
    refine L_call (args := #[.agg #[r7_0, r7_1], .int .i64 x2.2.1, r7_2]) rfl Try.call18 (ops3 rfl rfl rfl) (i_RuleHolds_c (m := x2.1) (rule := x2.2.1) (cells := x2.2.2) (Nat.le_trans hB hx.size) (rel0 hr7_0) (rel0 hr7_1) (rel0 hr7_2) hx11) ?_
    rintro _ w13 ⟨rfl, he13⟩
    have hr7_0 := RP.ext hr7_0 he13
    have hr7_1 := RP.ext hr7_1 he13
    have hr7_2 := RP.ext hr7_2 he13
    have hb_g8 := Blk.ext hb_g8 he13
    have hx := ext_trans hx he13
    refine L_as (v := .bool x11) rfl rfl ?_
    refine L_nil ?_
    refine W_seq ?_
    refine W_seq ?_
    obtain ⟨x14, hx14, hF⟩ := bind_some hF
    obtain ⟨b18, hb18, hF⟩ := bind_some hF
    obtain ⟨b22, hb22, hF⟩ := bind_some hF
    obtain ⟨b26, hb26, hF⟩ := bind_some hF
    obtain ⟨R27, hR27⟩ : ∃ R : Fr → World → Prop, R = fun f w_ => f 3 = .pointer (some ⟨g8, 0, none⟩) ∧ f 4 = .int .i64 x2.2.1 ∧ f 5 = r7_2 ∧ f 6 = .bool x11 ∧ f 63 = .bool b26 ∧ (RP.slice 3 RP.int).rel B w_.heap.size w_ [r7_2] x2.2.2 ∧ (RP.slice 3 RP.int).rel B w_.heap.size w_ [r7_0] x2.1.sizes ∧ (RP.slice 36 (rRule 3 23)).rel B w_.heap.size w_ [r7_1] x2.1.rules ∧ Blk w_ g8 26 #[r7_0, r7_1] ∧ Ext w w_ := ⟨_, rfl⟩
    refine W_join R27 ?_ ?_
    ·
      refine W_region ?_
      refine L_mv (v := .bool x11) rfl rfl ?_
      refine L_lda (cs := [r7_0, r7_1]) rfl Try.isAgg26 Try.sizeOf26 rfl (Blk.sub hb_g8 0 2) rfl ?_
      refine L_mv (v := .int .i64 x2.2.1) rfl rfl ?_
      refine L_mv (v := r7_2) rfl rfl ?_
      refine L_call (args := #[.agg #[r7_0, r7_1], .int .i64 x2.2.1, r7_2]) rfl Try.call19 (ops3 rfl rfl rfl) (s_RuleHolds_c (m := x2.1) (rule := x2.2.1) (cells := x2.2.2) (Nat.le_trans hB hx.size) (rel0 hr7_0) (rel0 hr7_1) (rel0 hr7_2) hx14) ?_
      rintro _ w28 ⟨rfl, he28⟩
      have hr7_0 := RP.ext hr7_0 he28
      have hr7_1 := RP.ext hr7_1 he28
      have hr7_2 := RP.ext hr7_2 he28
      have hb_g8 := Blk.ext hb_g8 he28
      have hx := ext_trans hx he28
      refine L_bneq (b := x11) (c := x14) rfl Try.underlying4 rfl rfl ?_
      refine L_mv (v := .bool (x11 != x14)) rfl rfl ?_
      refine L_split (d := 29) (b := (x11 != x14)) rfl (fun hc29 => ?_) (fun hc29 => ?_)
      ·
        rw [ite_t hc29] at hb18
        refine L_pass rfl ?_
        refine L_pass rfl ?_
        refine L_pass rfl ?_
        refine L_pass rfl ?_
        refine L_pick (v := .bool b18) rfl rfl (congrArg Value.bool (so hb18)) ?_
        refine L_mv (v := .bool b18) rfl rfl ?_
        refine L_split (d := 35) (b := b18) rfl (fun hc30 => ?_) (fun hc30 => ?_)
        ·
          refine L_pass rfl ?_
          refine L_pass rfl ?_
          refine L_pick (v := .bool (b18 || (decide (x2.2.1 < 0)))) rfl rfl (or_t hc30) ?_
          refine L_mv (v := .bool (b18 || (decide (x2.2.1 < 0)))) rfl rfl ?_
          refine L_split (d := 39) (b := (b18 || (decide (x2.2.1 < 0)))) rfl (fun hc31 => ?_) (fun hc31 => ?_)
          ·
            refine L_pass rfl ?_
            refine L_pass rfl ?_
            refine L_pass rfl ?_
            refine L_pass rfl ?_
            refine L_pass rfl ?_
            refine L_pick (v := .bool ((b18 || (decide (x2.2.1 < 0))) || (decide (x2.2.1 ≥ (x2.1.rules.length : Int))))) rfl rfl (or_t hc31) ?_
            refine L_mv (v := .bool ((b18 || (decide (x2.2.1 < 0))) || (decide (x2.2.1 ≥ (x2.1.rules.length : Int))))) rfl rfl ?_
            refine L_split (d := 46) (b := ((b18 || (decide (x2.2.1 < 0))) || (decide (x2.2.1 ≥ (x2.1.rules.length : Int))))) rfl (fun hc32 => ?_) (fun hc32 => ?_)
            ·
              rw [ite_t hc32] at hb22
              refine L_pass rfl ?_
              refine L_pass rfl ?_
              refine L_pass rfl ?_
              refine L_pass rfl ?_
              refine L_pass rfl ?_
              refine L_pass rfl ?_
              refine L_pass rfl ?_
              refine L_pick (v := .bool b22) rfl rfl (congrArg Value.bool (so hb22)) ?_
              refine L_mv (v := .bool b22) rfl rfl ?_
              refine L_split (d := 55) (b := b22) rfl (fun hc33 => ?_) (fun hc33 => ?_)
              ·
                rw [ite_t hc33] at hb26
                refine L_pass rfl ?_
                refine L_pass rfl ?_
                refine L_pass rfl ?_
                refine L_pass rfl ?_
                refine L_pass rfl ?_
                refine L_pass rfl ?_
                refine L_pass rfl ?_
                refine L_pick (v := .bool b26) rfl rfl (congrArg Value.bool (so hb26)) ?_
                refine L_nil ?_
                show R27 _ _
                rw [hR27]
                exact ⟨rfl, rfl, rfl, rfl, rfl, (rel0 hr7_2), (rel0 hr7_0), (rel0 hr7_1), hb_g8, hx⟩
              ·
                rw [ite_f hc33] at hb26
                obtain ⟨x23, hx23, hb26⟩ := bind_some hb26
                refine L_fa (o' := 1) rfl fa_26_1 rfl rfl ?_
                refine L_ld (v := r7_1) rfl Try.isAgg24 rfl (hb_g8.cell (j := 1) rfl) ?_
                refine L_mv (v := .int .i64 x2.2.1) rfl rfl ?_
                refine L_ix (r := (rRule 3 23)) rfl Try.underlying24 Try.sizeOf36 rfl hr7_1 rfl hx23 ?_
                intro g34 o35 cs35 hr35 hat35
                obtain ⟨u35_0, u35_1, u35_2, rfl, hu35_0, hu35_1, hu35_2⟩ := rRule_iff.1 hr35
                refine L_fa (o' := o35 + 3) rfl fa_36_3 rfl rfl ?_
                refine L_ld (v := .int .i64 x23.bound) rfl Try.isAgg3 rfl (hat35.cell (j := 3) rfl) ?_
                refine L_eql (m := x23.bound) (n := (-1000)) rfl rfl rfl ?_
                refine L_pick (v := .bool b26) rfl rfl (congrArg Value.bool (so hb26)) ?_
                refine L_nil ?_
                show R27 _ _
                rw [hR27]
                exact ⟨rfl, rfl, rfl, rfl, rfl, (rel0 hr7_2), (rel0 hr7_0), (rel0 hr7_1), hb_g8, hx⟩
            ·
              rw [ite_f hc32] at hb22
              obtain ⟨x19, hx19, hb22⟩ := bind_some hb22
              refine L_fa (o' := 1) rfl fa_26_1 rfl rfl ?_
              refine L_ld (v := r7_1) rfl Try.isAgg24 rfl (hb_g8.cell (j := 1) rfl) ?_
              refine L_mv (v := .int .i64 x2.2.1) rfl rfl ?_
              refine L_ix (r := (rRule 3 23)) rfl Try.underlying24 Try.sizeOf36 rfl hr7_1 rfl hx19 ?_
              intro g36 o37 cs37 hr37 hat37
              obtain ⟨u37_0, u37_1, u37_2, rfl, hu37_0, hu37_1, hu37_2⟩ := rRule_iff.1 hr37
              refine L_fa (o' := o37) rfl fa_36_0 rfl rfl ?_
              refine L_ld (v := .int .i64 x19.kind) rfl Try.isAgg3 rfl (hat37.cell (j := 0) rfl) ?_
              refine L_neq (m := x19.kind) (n := 1) rfl rfl rfl ?_
              refine L_pick (v := .bool b22) rfl rfl (congrArg Value.bool (so hb22)) ?_
              refine L_mv (v := .bool b22) rfl rfl ?_
              refine L_split (d := 55) (b := b22) rfl (fun hc38 => ?_) (fun hc38 => ?_)
              ·
                rw [ite_t hc38] at hb26
                refine L_pass rfl ?_
                refine L_pass rfl ?_
                refine L_pass rfl ?_
                refine L_pass rfl ?_
                refine L_pass rfl ?_
                refine L_pass rfl ?_
                refine L_pass rfl ?_
                refine L_pick (v := .bool b26) rfl rfl (congrArg Value.bool (so hb26)) ?_
                refine L_nil ?_
                show R27 _ _
                rw [hR27]
                exact ⟨rfl, rfl, rfl, rfl, rfl, (rel0 hr7_2), (rel0 hr7_0), (rel0 hr7_1), hb_g8, hx⟩
              ·
                rw [ite_f hc38] at hb26
                obtain ⟨x23, hx23, hb26⟩ := bind_some hb26
                refine L_fa (o' := 1) rfl fa_26_1 rfl rfl ?_
                refine L_ld (v := r7_1) rfl Try.isAgg24 rfl (hb_g8.cell (j := 1) rfl) ?_
                refine L_mv (v := .int .i64 x2.2.1) rfl rfl ?_
                refine L_ix (r := (rRule 3 23)) rfl Try.underlying24 Try.sizeOf36 rfl hr7_1 rfl hx23 ?_
                intro g39 o40 cs40 hr40 hat40
                obtain ⟨u40_0, u40_1, u40_2, rfl, hu40_0, hu40_1, hu40_2⟩ := rRule_iff.1 hr40
                refine L_fa (o' := o40 + 3) rfl fa_36_3 rfl rfl ?_
                refine L_ld (v := .int .i64 x23.bound) rfl Try.isAgg3 rfl (hat40.cell (j := 3) rfl) ?_
                refine L_eql (m := x23.bound) (n := (-1000)) rfl rfl rfl ?_
                refine L_pick (v := .bool b26) rfl rfl (congrArg Value.bool (so hb26)) ?_
                refine L_nil ?_
                show R27 _ _
                rw [hR27]
                exact ⟨rfl, rfl, rfl, rfl, rfl, (rel0 hr7_2), (rel0 hr7_0), (rel0 hr7_1), hb_g8, hx⟩
          ·
            refine L_mv (v := .int .i64 x2.2.1) rfl rfl ?_
            refine L_fa (o' := 1) rfl fa_26_1 rfl rfl ?_
            refine L_ld (v := r7_1) rfl Try.isAgg24 rfl (hb_g8.cell (j := 1) rfl) ?_
            refine L_len (v := r7_1) rfl Try.underlying24 rfl hr7_1 ?_
            refine L_geq (m := x2.2.1) (n := (x2.1.rules.length : Int)) rfl rfl rfl ?_
            refine L_pick (v := .bool ((b18 || (decide (x2.2.1 < 0))) || (decide (x2.2.1 ≥ (x2.1.rules.length : Int))))) rfl rfl (or_f hc31 rfl) ?_
            refine L_mv (v := .bool ((b18 || (decide (x2.2.1 < 0))) || (decide (x2.2.1 ≥ (x2.1.rules.length : Int))))) rfl rfl ?_
            refine L_split (d := 46) (b := ((b18 || (decide (x2.2.1 < 0))) || (decide (x2.2.1 ≥ (x2.1.rules.length : Int))))) rfl (fun hc41 => ?_) (fun hc41 => ?_)
            ·
              rw [ite_t hc41] at hb22
              refine L_pass rfl ?_
              refine L_pass rfl ?_
              refine L_pass rfl ?_
              refine L_pass rfl ?_
              refine L_pass rfl ?_
              refine L_pass rfl ?_
              refine L_pass rfl ?_
              refine L_pick (v := .bool b22) rfl rfl (congrArg Value.bool (so hb22)) ?_
              refine L_mv (v := .bool b22) rfl rfl ?_
              refine L_split (d := 55) (b := b22) rfl (fun hc42 => ?_) (fun hc42 => ?_)
              ·
                rw [ite_t hc42] at hb26
                refine L_pass rfl ?_
                refine L_pass rfl ?_
                refine L_pass rfl ?_
                refine L_pass rfl ?_
                refine L_pass rfl ?_
                refine L_pass rfl ?_
                refine L_pass rfl ?_
                refine L_pick (v := .bool b26) rfl rfl (congrArg Value.bool (so hb26)) ?_
                refine L_nil ?_
                show R27 _ _
                rw [hR27]
                exact ⟨rfl, rfl, rfl, rfl, rfl, (rel0 hr7_2), (rel0 hr7_0), (rel0 hr7_1), hb_g8, hx⟩
              ·
                rw [ite_f hc42] at hb26
                obtain ⟨x23, hx23, hb26⟩ := bind_some hb26
                refine L_fa (o' := 1) rfl fa_26_1 rfl rfl ?_
                refine L_ld (v := r7_1) rfl Try.isAgg24 rfl (hb_g8.cell (j := 1) rfl) ?_
                refine L_mv (v := .int .i64 x2.2.1) rfl rfl ?_
                refine L_ix (r := (rRule 3 23)) rfl Try.underlying24 Try.sizeOf36 rfl hr7_1 rfl hx23 ?_
                intro g43 o44 cs44 hr44 hat44
                obtain ⟨u44_0, u44_1, u44_2, rfl, hu44_0, hu44_1, hu44_2⟩ := rRule_iff.1 hr44
                refine L_fa (o' := o44 + 3) rfl fa_36_3 rfl rfl ?_
                refine L_ld (v := .int .i64 x23.bound) rfl Try.isAgg3 rfl (hat44.cell (j := 3) rfl) ?_
                refine L_eql (m := x23.bound) (n := (-1000)) rfl rfl rfl ?_
                refine L_pick (v := .bool b26) rfl rfl (congrArg Value.bool (so hb26)) ?_
                refine L_nil ?_
                show R27 _ _
                rw [hR27]
                exact ⟨rfl, rfl, rfl, rfl, rfl, (rel0 hr7_2), (rel0 hr7_0), (rel0 hr7_1), hb_g8, hx⟩
            ·
              rw [ite_f hc41] at hb22
              obtain ⟨x19, hx19, hb22⟩ := bind_some hb22
              refine L_fa (o' := 1) rfl fa_26_1 rfl rfl ?_
              refine L_ld (v := r7_1) rfl Try.isAgg24 rfl (hb_g8.cell (j := 1) rfl) ?_
              refine L_mv (v := .int .i64 x2.2.1) rfl rfl ?_
              refine L_ix (r := (rRule 3 23)) rfl Try.underlying24 Try.sizeOf36 rfl hr7_1 rfl hx19 ?_
              intro g45 o46 cs46 hr46 hat46
              obtain ⟨u46_0, u46_1, u46_2, rfl, hu46_0, hu46_1, hu46_2⟩ := rRule_iff.1 hr46
              refine L_fa (o' := o46) rfl fa_36_0 rfl rfl ?_
              refine L_ld (v := .int .i64 x19.kind) rfl Try.isAgg3 rfl (hat46.cell (j := 0) rfl) ?_
              refine L_neq (m := x19.kind) (n := 1) rfl rfl rfl ?_
              refine L_pick (v := .bool b22) rfl rfl (congrArg Value.bool (so hb22)) ?_
              refine L_mv (v := .bool b22) rfl rfl ?_
              refine L_split (d := 55) (b := b22) rfl (fun hc47 => ?_) (fun hc47 => ?_)
              ·
                rw [ite_t hc47] at hb26
                refine L_pass rfl ?_
                refine L_pass rfl ?_
                refine L_pass rfl ?_
                refine L_pass rfl ?_
                refine L_pass rfl ?_
                refine L_pass rfl ?_
                refine L_pass rfl ?_
                refine L_pick (v := .bool b26) rfl rfl (congrArg Value.bool (so hb26)) ?_
                refine L_nil ?_
                show R27 _ _
                rw [hR27]
                exact ⟨rfl, rfl, rfl, rfl, rfl, (rel0 hr7_2), (rel0 hr7_0), (rel0 hr7_1), hb_g8, hx⟩
              ·
                rw [ite_f hc47] at hb26
                obtain ⟨x23, hx23, hb26⟩ := bind_some hb26
                refine L_fa (o' := 1) rfl fa_26_1 rfl rfl ?_
                refine L_ld (v := r7_1) rfl Try.isAgg24 rfl (hb_g8.cell (j := 1) rfl) ?_
                refine L_mv (v := .int .i64 x2.2.1) rfl rfl ?_
                refine L_ix (r := (rRule 3 23)) rfl Try.underlying24 Try.sizeOf36 rfl hr7_1 rfl hx23 ?_
                intro g48 o49 cs49 hr49 hat49
                obtain ⟨u49_0, u49_1, u49_2, rfl, hu49_0, hu49_1, hu49_2⟩ := rRule_iff.1 hr49
                refine L_fa (o' := o49 + 3) rfl fa_36_3 rfl rfl ?_
                refine L_ld (v := .int .i64 x23.bound) rfl Try.isAgg3 rfl (hat49.cell (j := 3) rfl) ?_
                refine L_eql (m := x23.bound) (n := (-1000)) rfl rfl rfl ?_
                refine L_pick (v := .bool b26) rfl rfl (congrArg Value.bool (so hb26)) ?_
                refine L_nil ?_
                show R27 _ _
                rw [hR27]
                exact ⟨rfl, rfl, rfl, rfl, rfl, (rel0 hr7_2), (rel0 hr7_0), (rel0 hr7_1), hb_g8, hx⟩
        ·
          refine L_mv (v := .int .i64 x2.2.1) rfl rfl ?_
          refine L_lss (m := x2.2.1) (n := 0) rfl rfl rfl ?_
          refine L_pick (v := .bool (b18 || (decide (x2.2.1 < 0)))) rfl rfl (or_f hc30 rfl) ?_
          refine L_mv (v := .bool (b18 || (decide (x2.2.1 < 0)))) rfl rfl ?_
          refine L_split (d := 39) (b := (b18 || (decide (x2.2.1 < 0)))) rfl (fun hc50 => ?_) (fun hc50 => ?_)
          ·
            refine L_pass rfl ?_
            refine L_pass rfl ?_
            refine L_pass rfl ?_
            refine L_pass rfl ?_
            refine L_pass rfl ?_
            refine L_pick (v := .bool ((b18 || (decide (x2.2.1 < 0))) || (decide (x2.2.1 ≥ (x2.1.rules.length : Int))))) rfl rfl (or_t hc50) ?_
            refine L_mv (v := .bool ((b18 || (decide (x2.2.1 < 0))) || (decide (x2.2.1 ≥ (x2.1.rules.length : Int))))) rfl rfl ?_
            refine L_split (d := 46) (b := ((b18 || (decide (x2.2.1 < 0))) || (decide (x2.2.1 ≥ (x2.1.rules.length : Int))))) rfl (fun hc51 => ?_) (fun hc51 => ?_)
            ·
              rw [ite_t hc51] at hb22
              refine L_pass rfl ?_
              refine L_pass rfl ?_
              refine L_pass rfl ?_
              refine L_pass rfl ?_
              refine L_pass rfl ?_
              refine L_pass rfl ?_
              refine L_pass rfl ?_
              refine L_pick (v := .bool b22) rfl rfl (congrArg Value.bool (so hb22)) ?_
              refine L_mv (v := .bool b22) rfl rfl ?_
              refine L_split (d := 55) (b := b22) rfl (fun hc52 => ?_) (fun hc52 => ?_)
              ·
                rw [ite_t hc52] at hb26
                refine L_pass rfl ?_
                refine L_pass rfl ?_
                refine L_pass rfl ?_
                refine L_pass rfl ?_
                refine L_pass rfl ?_
                refine L_pass rfl ?_
                refine L_pass rfl ?_
                refine L_pick (v := .bool b26) rfl rfl (congrArg Value.bool (so hb26)) ?_
                refine L_nil ?_
                show R27 _ _
                rw [hR27]
                exact ⟨rfl, rfl, rfl, rfl, rfl, (rel0 hr7_2), (rel0 hr7_0), (rel0 hr7_1), hb_g8, hx⟩
              ·
                rw [ite_f hc52] at hb26
                obtain ⟨x23, hx23, hb26⟩ := bind_some hb26
                refine L_fa (o' := 1) rfl fa_26_1 rfl rfl ?_
                refine L_ld (v := r7_1) rfl Try.isAgg24 rfl (hb_g8.cell (j := 1) rfl) ?_
                refine L_mv (v := .int .i64 x2.2.1) rfl rfl ?_
                refine L_ix (r := (rRule 3 23)) rfl Try.underlying24 Try.sizeOf36 rfl hr7_1 rfl hx23 ?_
                intro g53 o54 cs54 hr54 hat54
                obtain ⟨u54_0, u54_1, u54_2, rfl, hu54_0, hu54_1, hu54_2⟩ := rRule_iff.1 hr54
                refine L_fa (o' := o54 + 3) rfl fa_36_3 rfl rfl ?_
                refine L_ld (v := .int .i64 x23.bound) rfl Try.isAgg3 rfl (hat54.cell (j := 3) rfl) ?_
                refine L_eql (m := x23.bound) (n := (-1000)) rfl rfl rfl ?_
                refine L_pick (v := .bool b26) rfl rfl (congrArg Value.bool (so hb26)) ?_
                refine L_nil ?_
                show R27 _ _
                rw [hR27]
                exact ⟨rfl, rfl, rfl, rfl, rfl, (rel0 hr7_2), (rel0 hr7_0), (rel0 hr7_1), hb_g8, hx⟩
            ·
              rw [ite_f hc51] at hb22
              obtain ⟨x19, hx19, hb22⟩ := bind_some hb22
              refine L_fa (o' := 1) rfl fa_26_1 rfl rfl ?_
              refine L_ld (v := r7_1) rfl Try.isAgg24 rfl (hb_g8.cell (j := 1) rfl) ?_
              refine L_mv (v := .int .i64 x2.2.1) rfl rfl ?_
              refine L_ix (r := (rRule 3 23)) rfl Try.underlying24 Try.sizeOf36 rfl hr7_1 rfl hx19 ?_
              intro g55 o56 cs56 hr56 hat56
              obtain ⟨u56_0, u56_1, u56_2, rfl, hu56_0, hu56_1, hu56_2⟩ := rRule_iff.1 hr56
              refine L_fa (o' := o56) rfl fa_36_0 rfl rfl ?_
              refine L_ld (v := .int .i64 x19.kind) rfl Try.isAgg3 rfl (hat56.cell (j := 0) rfl) ?_
              refine L_neq (m := x19.kind) (n := 1) rfl rfl rfl ?_
              refine L_pick (v := .bool b22) rfl rfl (congrArg Value.bool (so hb22)) ?_
              refine L_mv (v := .bool b22) rfl rfl ?_
              refine L_split (d := 55) (b := b22) rfl (fun hc57 => ?_) (fun hc57 => ?_)
              ·
                rw [ite_t hc57] at hb26
                refine L_pass rfl ?_
                refine L_pass rfl ?_
                refine L_pass rfl ?_
                refine L_pass rfl ?_
                refine L_pass rfl ?_
                refine L_pass rfl ?_
                refine L_pass rfl ?_
                refine L_pick (v := .bool b26) rfl rfl (congrArg Value.bool (so hb26)) ?_
                refine L_nil ?_
                show R27 _ _
                rw [hR27]
                exact ⟨rfl, rfl, rfl, rfl, rfl, (rel0 hr7_2), (rel0 hr7_0), (rel0 hr7_1), hb_g8, hx⟩
              ·
                rw [ite_f hc57] at hb26
                obtain ⟨x23, hx23, hb26⟩ := bind_some hb26
                refine L_fa (o' := 1) rfl fa_26_1 rfl rfl ?_
                refine L_ld (v := r7_1) rfl Try.isAgg24 rfl (hb_g8.cell (j := 1) rfl) ?_
                refine L_mv (v := .int .i64 x2.2.1) rfl rfl ?_
                refine L_ix (r := (rRule 3 23)) rfl Try.underlying24 Try.sizeOf36 rfl hr7_1 rfl hx23 ?_
                intro g58 o59 cs59 hr59 hat59
                obtain ⟨u59_0, u59_1, u59_2, rfl, hu59_0, hu59_1, hu59_2⟩ := rRule_iff.1 hr59
                refine L_fa (o' := o59 + 3) rfl fa_36_3 rfl rfl ?_
                refine L_ld (v := .int .i64 x23.bound) rfl Try.isAgg3 rfl (hat59.cell (j := 3) rfl) ?_
                refine L_eql (m := x23.bound) (n := (-1000)) rfl rfl rfl ?_
                refine L_pick (v := .bool b26) rfl rfl (congrArg Value.bool (so hb26)) ?_
                refine L_nil ?_
                show R27 _ _
                rw [hR27]
                exact ⟨rfl, rfl, rfl, rfl, rfl, (rel0 hr7_2), (rel0 hr7_0), (rel0 hr7_1), hb_g8, hx⟩
          ·
            refine L_mv (v := .int .i64 x2.2.1) rfl rfl ?_
            refine L_fa (o' := 1) rfl fa_26_1 rfl rfl ?_
            refine L_ld (v := r7_1) rfl Try.isAgg24 rfl (hb_g8.cell (j := 1) rfl) ?_
            refine L_len (v := r7_1) rfl Try.underlying24 rfl hr7_1 ?_
            refine L_geq (m := x2.2.1) (n := (x2.1.rules.length : Int)) rfl rfl rfl ?_
            refine L_pick (v := .bool ((b18 || (decide (x2.2.1 < 0))) || (decide (x2.2.1 ≥ (x2.1.rules.length : Int))))) rfl rfl (or_f hc50 rfl) ?_
            refine L_mv (v := .bool ((b18 || (decide (x2.2.1 < 0))) || (decide (x2.2.1 ≥ (x2.1.rules.length : Int))))) rfl rfl ?_
            refine L_split (d := 46) (b := ((b18 || (decide (x2.2.1 < 0))) || (decide (x2.2.1 ≥ (x2.1.rules.length : Int))))) rfl (fun hc60 => ?_) (fun hc60 => ?_)
            ·
              rw [ite_t hc60] at hb22
              refine L_pass rfl ?_
              refine L_pass rfl ?_
              refine L_pass rfl ?_
              refine L_pass rfl ?_
              refine L_pass rfl ?_
              refine L_pass rfl ?_
              refine L_pass rfl ?_
              refine L_pick (v := .bool b22) rfl rfl (congrArg Value.bool (so hb22)) ?_
              refine L_mv (v := .bool b22) rfl rfl ?_
              refine L_split (d := 55) (b := b22) rfl (fun hc61 => ?_) (fun hc61 => ?_)
              ·
                rw [ite_t hc61] at hb26
                refine L_pass rfl ?_
                refine L_pass rfl ?_
                refine L_pass rfl ?_
                refine L_pass rfl ?_
                refine L_pass rfl ?_
                refine L_pass rfl ?_
                refine L_pass rfl ?_
                refine L_pick (v := .bool b26) rfl rfl (congrArg Value.bool (so hb26)) ?_
                refine L_nil ?_
                show R27 _ _
                rw [hR27]
                exact ⟨rfl, rfl, rfl, rfl, rfl, (rel0 hr7_2), (rel0 hr7_0), (rel0 hr7_1), hb_g8, hx⟩
              ·
                rw [ite_f hc61] at hb26
                obtain ⟨x23, hx23, hb26⟩ := bind_some hb26
                refine L_fa (o' := 1) rfl fa_26_1 rfl rfl ?_
                refine L_ld (v := r7_1) rfl Try.isAgg24 rfl (hb_g8.cell (j := 1) rfl) ?_
                refine L_mv (v := .int .i64 x2.2.1) rfl rfl ?_
                refine L_ix (r := (rRule 3 23)) rfl Try.underlying24 Try.sizeOf36 rfl hr7_1 rfl hx23 ?_
                intro g62 o63 cs63 hr63 hat63
                obtain ⟨u63_0, u63_1, u63_2, rfl, hu63_0, hu63_1, hu63_2⟩ := rRule_iff.1 hr63
                refine L_fa (o' := o63 + 3) rfl fa_36_3 rfl rfl ?_
                refine L_ld (v := .int .i64 x23.bound) rfl Try.isAgg3 rfl (hat63.cell (j := 3) rfl) ?_
                refine L_eql (m := x23.bound) (n := (-1000)) rfl rfl rfl ?_
                refine L_pick (v := .bool b26) rfl rfl (congrArg Value.bool (so hb26)) ?_
                refine L_nil ?_
                show R27 _ _
                rw [hR27]
                exact ⟨rfl, rfl, rfl, rfl, rfl, (rel0 hr7_2), (rel0 hr7_0), (rel0 hr7_1), hb_g8, hx⟩
            ·
              rw [ite_f hc60] at hb22
              obtain ⟨x19, hx19, hb22⟩ := bind_some hb22
              refine L_fa (o' := 1) rfl fa_26_1 rfl rfl ?_
              refine L_ld (v := r7_1) rfl Try.isAgg24 rfl (hb_g8.cell (j := 1) rfl) ?_
              refine L_mv (v := .int .i64 x2.2.1) rfl rfl ?_
              refine L_ix (r := (rRule 3 23)) rfl Try.underlying24 Try.sizeOf36 rfl hr7_1 rfl hx19 ?_
              intro g64 o65 cs65 hr65 hat65
              obtain ⟨u65_0, u65_1, u65_2, rfl, hu65_0, hu65_1, hu65_2⟩ := rRule_iff.1 hr65
              refine L_fa (o' := o65) rfl fa_36_0 rfl rfl ?_
              refine L_ld (v := .int .i64 x19.kind) rfl Try.isAgg3 rfl (hat65.cell (j := 0) rfl) ?_
              refine L_neq (m := x19.kind) (n := 1) rfl rfl rfl ?_
              refine L_pick (v := .bool b22) rfl rfl (congrArg Value.bool (so hb22)) ?_
              refine L_mv (v := .bool b22) rfl rfl ?_
              refine L_split (d := 55) (b := b22) rfl (fun hc66 => ?_) (fun hc66 => ?_)
              ·
                rw [ite_t hc66] at hb26
                refine L_pass rfl ?_
                refine L_pass rfl ?_
                refine L_pass rfl ?_
                refine L_pass rfl ?_
                refine L_pass rfl ?_
                refine L_pass rfl ?_
                refine L_pass rfl ?_
                refine L_pick (v := .bool b26) rfl rfl (congrArg Value.bool (so hb26)) ?_
                refine L_nil ?_
                show R27 _ _
                rw [hR27]
                exact ⟨rfl, rfl, rfl, rfl, rfl, (rel0 hr7_2), (rel0 hr7_0), (rel0 hr7_1), hb_g8, hx⟩
              ·
                rw [ite_f hc66] at hb26
                obtain ⟨x23, hx23, hb26⟩ := bind_some hb26
                refine L_fa (o' := 1) rfl fa_26_1 rfl rfl ?_
                refine L_ld (v := r7_1) rfl Try.isAgg24 rfl (hb_g8.cell (j := 1) rfl) ?_
                refine L_mv (v := .int .i64 x2.2.1) rfl rfl ?_
                refine L_ix (r := (rRule 3 23)) rfl Try.underlying24 Try.sizeOf36 rfl hr7_1 rfl hx23 ?_
                intro g67 o68 cs68 hr68 hat68
                obtain ⟨u68_0, u68_1, u68_2, rfl, hu68_0, hu68_1, hu68_2⟩ := rRule_iff.1 hr68
                refine L_fa (o' := o68 + 3) rfl fa_36_3 rfl rfl ?_
                refine L_ld (v := .int .i64 x23.bound) rfl Try.isAgg3 rfl (hat68.cell (j := 3) rfl) ?_
                refine L_eql (m := x23.bound) (n := (-1000)) rfl rfl rfl ?_
                refine L_pick (v := .bool b26) rfl rfl (congrArg Value.bool (so hb26)) ?_
                refine L_nil ?_
                show R27 _ _
                rw [hR27]
                exact ⟨rfl, rfl, rfl, rfl, rfl, (rel0 hr7_2), (rel0 hr7_0), (rel0 hr7_1), hb_g8, hx⟩
      ·
        rw [ite_f hc29] at hb18
        obtain ⟨x16, hx16, hb18⟩ := bind_some hb18
        refine L_lda (cs := [r7_0, r7_1]) rfl Try.isAgg26 Try.sizeOf26 rfl (Blk.sub hb_g8 0 2) rfl ?_
        refine L_mv (v := r7_2) rfl rfl ?_
        refine L_call (args := #[.agg #[r7_0, r7_1], r7_2]) rfl Try.call20 (ops2 rfl rfl) (i_CellsValid_c (m := x2.1) (cells := x2.2.2) (Nat.le_trans hB hx.size) (rel0 hr7_0) (rel0 hr7_1) (rel0 hr7_2) hx16) ?_
        rintro _ w69 ⟨rfl, he69⟩
        have hr7_0 := RP.ext hr7_0 he69
        have hr7_1 := RP.ext hr7_1 he69
        have hr7_2 := RP.ext hr7_2 he69
        have hb_g8 := Blk.ext hb_g8 he69
        have hx := ext_trans hx he69
        refine L_not_ (b := x16) rfl rfl ?_
        refine L_pick (v := .bool b18) rfl rfl (congrArg Value.bool (so hb18)) ?_
        refine L_mv (v := .bool b18) rfl rfl ?_
        refine L_split (d := 35) (b := b18) rfl (fun hc70 => ?_) (fun hc70 => ?_)
        ·
          refine L_pass rfl ?_
          refine L_pass rfl ?_
          refine L_pick (v := .bool (b18 || (decide (x2.2.1 < 0)))) rfl rfl (or_t hc70) ?_
          refine L_mv (v := .bool (b18 || (decide (x2.2.1 < 0)))) rfl rfl ?_
          refine L_split (d := 39) (b := (b18 || (decide (x2.2.1 < 0)))) rfl (fun hc71 => ?_) (fun hc71 => ?_)
          ·
            refine L_pass rfl ?_
            refine L_pass rfl ?_
            refine L_pass rfl ?_
            refine L_pass rfl ?_
            refine L_pass rfl ?_
            refine L_pick (v := .bool ((b18 || (decide (x2.2.1 < 0))) || (decide (x2.2.1 ≥ (x2.1.rules.length : Int))))) rfl rfl (or_t hc71) ?_
            refine L_mv (v := .bool ((b18 || (decide (x2.2.1 < 0))) || (decide (x2.2.1 ≥ (x2.1.rules.length : Int))))) rfl rfl ?_
            refine L_split (d := 46) (b := ((b18 || (decide (x2.2.1 < 0))) || (decide (x2.2.1 ≥ (x2.1.rules.length : Int))))) rfl (fun hc72 => ?_) (fun hc72 => ?_)
            ·
              rw [ite_t hc72] at hb22
              refine L_pass rfl ?_
              refine L_pass rfl ?_
              refine L_pass rfl ?_
              refine L_pass rfl ?_
              refine L_pass rfl ?_
              refine L_pass rfl ?_
              refine L_pass rfl ?_
              refine L_pick (v := .bool b22) rfl rfl (congrArg Value.bool (so hb22)) ?_
              refine L_mv (v := .bool b22) rfl rfl ?_
              refine L_split (d := 55) (b := b22) rfl (fun hc73 => ?_) (fun hc73 => ?_)
              ·
                rw [ite_t hc73] at hb26
                refine L_pass rfl ?_
                refine L_pass rfl ?_
                refine L_pass rfl ?_
                refine L_pass rfl ?_
                refine L_pass rfl ?_
                refine L_pass rfl ?_
                refine L_pass rfl ?_
                refine L_pick (v := .bool b26) rfl rfl (congrArg Value.bool (so hb26)) ?_
                refine L_nil ?_
                show R27 _ _
                rw [hR27]
                exact ⟨rfl, rfl, rfl, rfl, rfl, (rel0 hr7_2), (rel0 hr7_0), (rel0 hr7_1), hb_g8, hx⟩
              ·
                rw [ite_f hc73] at hb26
                obtain ⟨x23, hx23, hb26⟩ := bind_some hb26
                refine L_fa (o' := 1) rfl fa_26_1 rfl rfl ?_
                refine L_ld (v := r7_1) rfl Try.isAgg24 rfl (hb_g8.cell (j := 1) rfl) ?_
                refine L_mv (v := .int .i64 x2.2.1) rfl rfl ?_
                refine L_ix (r := (rRule 3 23)) rfl Try.underlying24 Try.sizeOf36 rfl hr7_1 rfl hx23 ?_
                intro g74 o75 cs75 hr75 hat75
                obtain ⟨u75_0, u75_1, u75_2, rfl, hu75_0, hu75_1, hu75_2⟩ := rRule_iff.1 hr75
                refine L_fa (o' := o75 + 3) rfl fa_36_3 rfl rfl ?_
                refine L_ld (v := .int .i64 x23.bound) rfl Try.isAgg3 rfl (hat75.cell (j := 3) rfl) ?_
                refine L_eql (m := x23.bound) (n := (-1000)) rfl rfl rfl ?_
                refine L_pick (v := .bool b26) rfl rfl (congrArg Value.bool (so hb26)) ?_
                refine L_nil ?_
                show R27 _ _
                rw [hR27]
                exact ⟨rfl, rfl, rfl, rfl, rfl, (rel0 hr7_2), (rel0 hr7_0), (rel0 hr7_1), hb_g8, hx⟩
            ·
              rw [ite_f hc72] at hb22
              obtain ⟨x19, hx19, hb22⟩ := bind_some hb22
              refine L_fa (o' := 1) rfl fa_26_1 rfl rfl ?_
              refine L_ld (v := r7_1) rfl Try.isAgg24 rfl (hb_g8.cell (j := 1) rfl) ?_
              refine L_mv (v := .int .i64 x2.2.1) rfl rfl ?_
              refine L_ix (r := (rRule 3 23)) rfl Try.underlying24 Try.sizeOf36 rfl hr7_1 rfl hx19 ?_
              intro g76 o77 cs77 hr77 hat77
              obtain ⟨u77_0, u77_1, u77_2, rfl, hu77_0, hu77_1, hu77_2⟩ := rRule_iff.1 hr77
              refine L_fa (o' := o77) rfl fa_36_0 rfl rfl ?_
              refine L_ld (v := .int .i64 x19.kind) rfl Try.isAgg3 rfl (hat77.cell (j := 0) rfl) ?_
              refine L_neq (m := x19.kind) (n := 1) rfl rfl rfl ?_
              refine L_pick (v := .bool b22) rfl rfl (congrArg Value.bool (so hb22)) ?_
              refine L_mv (v := .bool b22) rfl rfl ?_
              refine L_split (d := 55) (b := b22) rfl (fun hc78 => ?_) (fun hc78 => ?_)
              ·
                rw [ite_t hc78] at hb26
                refine L_pass rfl ?_
                refine L_pass rfl ?_
                refine L_pass rfl ?_
                refine L_pass rfl ?_
                refine L_pass rfl ?_
                refine L_pass rfl ?_
                refine L_pass rfl ?_
                refine L_pick (v := .bool b26) rfl rfl (congrArg Value.bool (so hb26)) ?_
                refine L_nil ?_
                show R27 _ _
                rw [hR27]
                exact ⟨rfl, rfl, rfl, rfl, rfl, (rel0 hr7_2), (rel0 hr7_0), (rel0 hr7_1), hb_g8, hx⟩
              ·
                rw [ite_f hc78] at hb26
                obtain ⟨x23, hx23, hb26⟩ := bind_some hb26
                refine L_fa (o' := 1) rfl fa_26_1 rfl rfl ?_
                refine L_ld (v := r7_1) rfl Try.isAgg24 rfl (hb_g8.cell (j := 1) rfl) ?_
                refine L_mv (v := .int .i64 x2.2.1) rfl rfl ?_
                refine L_ix (r := (rRule 3 23)) rfl Try.underlying24 Try.sizeOf36 rfl hr7_1 rfl hx23 ?_
                intro g79 o80 cs80 hr80 hat80
                obtain ⟨u80_0, u80_1, u80_2, rfl, hu80_0, hu80_1, hu80_2⟩ := rRule_iff.1 hr80
                refine L_fa (o' := o80 + 3) rfl fa_36_3 rfl rfl ?_
                refine L_ld (v := .int .i64 x23.bound) rfl Try.isAgg3 rfl (hat80.cell (j := 3) rfl) ?_
                refine L_eql (m := x23.bound) (n := (-1000)) rfl rfl rfl ?_
                refine L_pick (v := .bool b26) rfl rfl (congrArg Value.bool (so hb26)) ?_
                refine L_nil ?_
                show R27 _ _
                rw [hR27]
                exact ⟨rfl, rfl, rfl, rfl, rfl, (rel0 hr7_2), (rel0 hr7_0), (rel0 hr7_1), hb_g8, hx⟩
          ·
            refine L_mv (v := .int .i64 x2.2.1) rfl rfl ?_
            refine L_fa (o' := 1) rfl fa_26_1 rfl rfl ?_
            refine L_ld (v := r7_1) rfl Try.isAgg24 rfl (hb_g8.cell (j := 1) rfl) ?_
            refine L_len (v := r7_1) rfl Try.underlying24 rfl hr7_1 ?_
            refine L_geq (m := x2.2.1) (n := (x2.1.rules.length : Int)) rfl rfl rfl ?_
            refine L_pick (v := .bool ((b18 || (decide (x2.2.1 < 0))) || (decide (x2.2.1 ≥ (x2.1.rules.length : Int))))) rfl rfl (or_f hc71 rfl) ?_
            refine L_mv (v := .bool ((b18 || (decide (x2.2.1 < 0))) || (decide (x2.2.1 ≥ (x2.1.rules.length : Int))))) rfl rfl ?_
            refine L_split (d := 46) (b := ((b18 || (decide (x2.2.1 < 0))) || (decide (x2.2.1 ≥ (x2.1.rules.length : Int))))) rfl (fun hc81 => ?_) (fun hc81 => ?_)
            ·
              rw [ite_t hc81] at hb22
              refine L_pass rfl ?_
              refine L_pass rfl ?_
              refine L_pass rfl ?_
              refine L_pass rfl ?_
              refine L_pass rfl ?_
              refine L_pass rfl ?_
              refine L_pass rfl ?_
              refine L_pick (v := .bool b22) rfl rfl (congrArg Value.bool (so hb22)) ?_
              refine L_mv (v := .bool b22) rfl rfl ?_
              refine L_split (d := 55) (b := b22) rfl (fun hc82 => ?_) (fun hc82 => ?_)
              ·
                rw [ite_t hc82] at hb26
                refine L_pass rfl ?_
                refine L_pass rfl ?_
                refine L_pass rfl ?_
                refine L_pass rfl ?_
                refine L_pass rfl ?_
                refine L_pass rfl ?_
                refine L_pass rfl ?_
                refine L_pick (v := .bool b26) rfl rfl (congrArg Value.bool (so hb26)) ?_
                refine L_nil ?_
                show R27 _ _
                rw [hR27]
                exact ⟨rfl, rfl, rfl, rfl, rfl, (rel0 hr7_2), (rel0 hr7_0), (rel0 hr7_1), hb_g8, hx⟩
              ·
                rw [ite_f hc82] at hb26
                obtain ⟨x23, hx23, hb26⟩ := bind_some hb26
                refine L_fa (o' := 1) rfl fa_26_1 rfl rfl ?_
                refine L_ld (v := r7_1) rfl Try.isAgg24 rfl (hb_g8.cell (j := 1) rfl) ?_
                refine L_mv (v := .int .i64 x2.2.1) rfl rfl ?_
                refine L_ix (r := (rRule 3 23)) rfl Try.underlying24 Try.sizeOf36 rfl hr7_1 rfl hx23 ?_
                intro g83 o84 cs84 hr84 hat84
                obtain ⟨u84_0, u84_1, u84_2, rfl, hu84_0, hu84_1, hu84_2⟩ := rRule_iff.1 hr84
                refine L_fa (o' := o84 + 3) rfl fa_36_3 rfl rfl ?_
                refine L_ld (v := .int .i64 x23.bound) rfl Try.isAgg3 rfl (hat84.cell (j := 3) rfl) ?_
                refine L_eql (m := x23.bound) (n := (-1000)) rfl rfl rfl ?_
                refine L_pick (v := .bool b26) rfl rfl (congrArg Value.bool (so hb26)) ?_
                refine L_nil ?_
                show R27 _ _
                rw [hR27]
                exact ⟨rfl, rfl, rfl, rfl, rfl, (rel0 hr7_2), (rel0 hr7_0), (rel0 hr7_1), hb_g8, hx⟩
            ·
              rw [ite_f hc81] at hb22
              obtain ⟨x19, hx19, hb22⟩ := bind_some hb22
              refine L_fa (o' := 1) rfl fa_26_1 rfl rfl ?_
              refine L_ld (v := r7_1) rfl Try.isAgg24 rfl (hb_g8.cell (j := 1) rfl) ?_
              refine L_mv (v := .int .i64 x2.2.1) rfl rfl ?_
              refine L_ix (r := (rRule 3 23)) rfl Try.underlying24 Try.sizeOf36 rfl hr7_1 rfl hx19 ?_
              intro g85 o86 cs86 hr86 hat86
              obtain ⟨u86_0, u86_1, u86_2, rfl, hu86_0, hu86_1, hu86_2⟩ := rRule_iff.1 hr86
              refine L_fa (o' := o86) rfl fa_36_0 rfl rfl ?_
              refine L_ld (v := .int .i64 x19.kind) rfl Try.isAgg3 rfl (hat86.cell (j := 0) rfl) ?_
              refine L_neq (m := x19.kind) (n := 1) rfl rfl rfl ?_
              refine L_pick (v := .bool b22) rfl rfl (congrArg Value.bool (so hb22)) ?_
              refine L_mv (v := .bool b22) rfl rfl ?_
              refine L_split (d := 55) (b := b22) rfl (fun hc87 => ?_) (fun hc87 => ?_)
              ·
                rw [ite_t hc87] at hb26
                refine L_pass rfl ?_
                refine L_pass rfl ?_
                refine L_pass rfl ?_
                refine L_pass rfl ?_
                refine L_pass rfl ?_
                refine L_pass rfl ?_
                refine L_pass rfl ?_
                refine L_pick (v := .bool b26) rfl rfl (congrArg Value.bool (so hb26)) ?_
                refine L_nil ?_
                show R27 _ _
                rw [hR27]
                exact ⟨rfl, rfl, rfl, rfl, rfl, (rel0 hr7_2), (rel0 hr7_0), (rel0 hr7_1), hb_g8, hx⟩
              ·
                rw [ite_f hc87] at hb26
                obtain ⟨x23, hx23, hb26⟩ := bind_some hb26
                refine L_fa (o' := 1) rfl fa_26_1 rfl rfl ?_
                refine L_ld (v := r7_1) rfl Try.isAgg24 rfl (hb_g8.cell (j := 1) rfl) ?_
                refine L_mv (v := .int .i64 x2.2.1) rfl rfl ?_
                refine L_ix (r := (rRule 3 23)) rfl Try.underlying24 Try.sizeOf36 rfl hr7_1 rfl hx23 ?_
                intro g88 o89 cs89 hr89 hat89
                obtain ⟨u89_0, u89_1, u89_2, rfl, hu89_0, hu89_1, hu89_2⟩ := rRule_iff.1 hr89
                refine L_fa (o' := o89 + 3) rfl fa_36_3 rfl rfl ?_
                refine L_ld (v := .int .i64 x23.bound) rfl Try.isAgg3 rfl (hat89.cell (j := 3) rfl) ?_
                refine L_eql (m := x23.bound) (n := (-1000)) rfl rfl rfl ?_
                refine L_pick (v := .bool b26) rfl rfl (congrArg Value.bool (so hb26)) ?_
                refine L_nil ?_
                show R27 _ _
                rw [hR27]
                exact ⟨rfl, rfl, rfl, rfl, rfl, (rel0 hr7_2), (rel0 hr7_0), (rel0 hr7_1), hb_g8, hx⟩
        ·
          refine L_mv (v := .int .i64 x2.2.1) rfl rfl ?_
          refine L_lss (m := x2.2.1) (n := 0) rfl rfl rfl ?_
          refine L_pick (v := .bool (b18 || (decide (x2.2.1 < 0)))) rfl rfl (or_f hc70 rfl) ?_
          refine L_mv (v := .bool (b18 || (decide (x2.2.1 < 0)))) rfl rfl ?_
          refine L_split (d := 39) (b := (b18 || (decide (x2.2.1 < 0)))) rfl (fun hc90 => ?_) (fun hc90 => ?_)
          ·
            refine L_pass rfl ?_
            refine L_pass rfl ?_
            refine L_pass rfl ?_
            refine L_pass rfl ?_
            refine L_pass rfl ?_
            refine L_pick (v := .bool ((b18 || (decide (x2.2.1 < 0))) || (decide (x2.2.1 ≥ (x2.1.rules.length : Int))))) rfl rfl (or_t hc90) ?_
            refine L_mv (v := .bool ((b18 || (decide (x2.2.1 < 0))) || (decide (x2.2.1 ≥ (x2.1.rules.length : Int))))) rfl rfl ?_
            refine L_split (d := 46) (b := ((b18 || (decide (x2.2.1 < 0))) || (decide (x2.2.1 ≥ (x2.1.rules.length : Int))))) rfl (fun hc91 => ?_) (fun hc91 => ?_)
            ·
              rw [ite_t hc91] at hb22
              refine L_pass rfl ?_
              refine L_pass rfl ?_
              refine L_pass rfl ?_
              refine L_pass rfl ?_
              refine L_pass rfl ?_
              refine L_pass rfl ?_
              refine L_pass rfl ?_
              refine L_pick (v := .bool b22) rfl rfl (congrArg Value.bool (so hb22)) ?_
              refine L_mv (v := .bool b22) rfl rfl ?_
              refine L_split (d := 55) (b := b22) rfl (fun hc92 => ?_) (fun hc92 => ?_)
              ·
                rw [ite_t hc92] at hb26
                refine L_pass rfl ?_
                refine L_pass rfl ?_
                refine L_pass rfl ?_
                refine L_pass rfl ?_
                refine L_pass rfl ?_
                refine L_pass rfl ?_
                refine L_pass rfl ?_
                refine L_pick (v := .bool b26) rfl rfl (congrArg Value.bool (so hb26)) ?_
                refine L_nil ?_
                show R27 _ _
                rw [hR27]
                exact ⟨rfl, rfl, rfl, rfl, rfl, (rel0 hr7_2), (rel0 hr7_0), (rel0 hr7_1), hb_g8, hx⟩
              ·
                rw [ite_f hc92] at hb26
                obtain ⟨x23, hx23, hb26⟩ := bind_some hb26
                refine L_fa (o' := 1) rfl fa_26_1 rfl rfl ?_
                refine L_ld (v := r7_1) rfl Try.isAgg24 rfl (hb_g8.cell (j := 1) rfl) ?_
                refine L_mv (v := .int .i64 x2.2.1) rfl rfl ?_
                refine L_ix (r := (rRule 3 23)) rfl Try.underlying24 Try.sizeOf36 rfl hr7_1 rfl hx23 ?_
                intro g93 o94 cs94 hr94 hat94
                obtain ⟨u94_0, u94_1, u94_2, rfl, hu94_0, hu94_1, hu94_2⟩ := rRule_iff.1 hr94
                refine L_fa (o' := o94 + 3) rfl fa_36_3 rfl rfl ?_
                refine L_ld (v := .int .i64 x23.bound) rfl Try.isAgg3 rfl (hat94.cell (j := 3) rfl) ?_
                refine L_eql (m := x23.bound) (n := (-1000)) rfl rfl rfl ?_
                refine L_pick (v := .bool b26) rfl rfl (congrArg Value.bool (so hb26)) ?_
                refine L_nil ?_
                show R27 _ _
                rw [hR27]
                exact ⟨rfl, rfl, rfl, rfl, rfl, (rel0 hr7_2), (rel0 hr7_0), (rel0 hr7_1), hb_g8, hx⟩
            ·
              rw [ite_f hc91] at hb22
              obtain ⟨x19, hx19, hb22⟩ := bind_some hb22
              refine L_fa (o' := 1) rfl fa_26_1 rfl rfl ?_
              refine L_ld (v := r7_1) rfl Try.isAgg24 rfl (hb_g8.cell (j := 1) rfl) ?_
              refine L_mv (v := .int .i64 x2.2.1) rfl rfl ?_
              refine L_ix (r := (rRule 3 23)) rfl Try.underlying24 Try.sizeOf36 rfl hr7_1 rfl hx19 ?_
              intro g95 o96 cs96 hr96 hat96
              obtain ⟨u96_0, u96_1, u96_2, rfl, hu96_0, hu96_1, hu96_2⟩ := rRule_iff.1 hr96
              refine L_fa (o' := o96) rfl fa_36_0 rfl rfl ?_
              refine L_ld (v := .int .i64 x19.kind) rfl Try.isAgg3 rfl (hat96.cell (j := 0) rfl) ?_
              refine L_neq (m := x19.kind) (n := 1) rfl rfl rfl ?_
              refine L_pick (v := .bool b22) rfl rfl (congrArg Value.bool (so hb22)) ?_
              refine L_mv (v := .bool b22) rfl rfl ?_
              refine L_split (d := 55) (b := b22) rfl (fun hc97 => ?_) (fun hc97 => ?_)
              ·
                rw [ite_t hc97] at hb26
                refine L_pass rfl ?_
                refine L_pass rfl ?_
                refine L_pass rfl ?_
                refine L_pass rfl ?_
                refine L_pass rfl ?_
                refine L_pass rfl ?_
                refine L_pass rfl ?_
                refine L_pick (v := .bool b26) rfl rfl (congrArg Value.bool (so hb26)) ?_
                refine L_nil ?_
                show R27 _ _
                rw [hR27]
                exact ⟨rfl, rfl, rfl, rfl, rfl, (rel0 hr7_2), (rel0 hr7_0), (rel0 hr7_1), hb_g8, hx⟩
              ·
                rw [ite_f hc97] at hb26
                obtain ⟨x23, hx23, hb26⟩ := bind_some hb26
                refine L_fa (o' := 1) rfl fa_26_1 rfl rfl ?_
                refine L_ld (v := r7_1) rfl Try.isAgg24 rfl (hb_g8.cell (j := 1) rfl) ?_
                refine L_mv (v := .int .i64 x2.2.1) rfl rfl ?_
                refine L_ix (r := (rRule 3 23)) rfl Try.underlying24 Try.sizeOf36 rfl hr7_1 rfl hx23 ?_
                intro g98 o99 cs99 hr99 hat99
                obtain ⟨u99_0, u99_1, u99_2, rfl, hu99_0, hu99_1, hu99_2⟩ := rRule_iff.1 hr99
                refine L_fa (o' := o99 + 3) rfl fa_36_3 rfl rfl ?_
                refine L_ld (v := .int .i64 x23.bound) rfl Try.isAgg3 rfl (hat99.cell (j := 3) rfl) ?_
                refine L_eql (m := x23.bound) (n := (-1000)) rfl rfl rfl ?_
                refine L_pick (v := .bool b26) rfl rfl (congrArg Value.bool (so hb26)) ?_
                refine L_nil ?_
                show R27 _ _
                rw [hR27]
                exact ⟨rfl, rfl, rfl, rfl, rfl, (rel0 hr7_2), (rel0 hr7_0), (rel0 hr7_1), hb_g8, hx⟩
          ·
            refine L_mv (v := .int .i64 x2.2.1) rfl rfl ?_
            refine L_fa (o' := 1) rfl fa_26_1 rfl rfl ?_
            refine L_ld (v := r7_1) rfl Try.isAgg24 rfl (hb_g8.cell (j := 1) rfl) ?_
            refine L_len (v := r7_1) rfl Try.underlying24 rfl hr7_1 ?_
            refine L_geq (m := x2.2.1) (n := (x2.1.rules.length : Int)) rfl rfl rfl ?_
            refine L_pick (v := .bool ((b18 || (decide (x2.2.1 < 0))) || (decide (x2.2.1 ≥ (x2.1.rules.length : Int))))) rfl rfl (or_f hc90 rfl) ?_
            refine L_mv (v := .bool ((b18 || (decide (x2.2.1 < 0))) || (decide (x2.2.1 ≥ (x2.1.rules.length : Int))))) rfl rfl ?_
            refine L_split (d := 46) (b := ((b18 || (decide (x2.2.1 < 0))) || (decide (x2.2.1 ≥ (x2.1.rules.length : Int))))) rfl (fun hc100 => ?_) (fun hc100 => ?_)
            ·
              rw [ite_t hc100] at hb22
              refine L_pass rfl ?_
              refine L_pass rfl ?_
              refine L_pass rfl ?_
              refine L_pass rfl ?_
              refine L_pass rfl ?_
              refine L_pass rfl ?_
              refine L_pass rfl ?_
              refine L_pick (v := .bool b22) rfl rfl (congrArg Value.bool (so hb22)) ?_
              refine L_mv (v := .bool b22) rfl rfl ?_
              refine L_split (d := 55) (b := b22) rfl (fun hc101 => ?_) (fun hc101 => ?_)
              ·
                rw [ite_t hc101] at hb26
                refine L_pass rfl ?_
                refine L_pass rfl ?_
                refine L_pass rfl ?_
                refine L_pass rfl ?_
                refine L_pass rfl ?_
                refine L_pass rfl ?_
                refine L_pass rfl ?_
                refine L_pick (v := .bool b26) rfl rfl (congrArg Value.bool (so hb26)) ?_
                refine L_nil ?_
                show R27 _ _
                rw [hR27]
                exact ⟨rfl, rfl, rfl, rfl, rfl, (rel0 hr7_2), (rel0 hr7_0), (rel0 hr7_1), hb_g8, hx⟩
              ·
                rw [ite_f hc101] at hb26
                obtain ⟨x23, hx23, hb26⟩ := bind_some hb26
                refine L_fa (o' := 1) rfl fa_26_1 rfl rfl ?_
                refine L_ld (v := r7_1) rfl Try.isAgg24 rfl (hb_g8.cell (j := 1) rfl) ?_
                refine L_mv (v := .int .i64 x2.2.1) rfl rfl ?_
                refine L_ix (r := (rRule 3 23)) rfl Try.underlying24 Try.sizeOf36 rfl hr7_1 rfl hx23 ?_
                intro g102 o103 cs103 hr103 hat103
                obtain ⟨u103_0, u103_1, u103_2, rfl, hu103_0, hu103_1, hu103_2⟩ := rRule_iff.1 hr103
                refine L_fa (o' := o103 + 3) rfl fa_36_3 rfl rfl ?_
                refine L_ld (v := .int .i64 x23.bound) rfl Try.isAgg3 rfl (hat103.cell (j := 3) rfl) ?_
                refine L_eql (m := x23.bound) (n := (-1000)) rfl rfl rfl ?_
                refine L_pick (v := .bool b26) rfl rfl (congrArg Value.bool (so hb26)) ?_
                refine L_nil ?_
                show R27 _ _
                rw [hR27]
                exact ⟨rfl, rfl, rfl, rfl, rfl, (rel0 hr7_2), (rel0 hr7_0), (rel0 hr7_1), hb_g8, hx⟩
            ·
              rw [ite_f hc100] at hb22
              obtain ⟨x19, hx19, hb22⟩ := bind_some hb22
              refine L_fa (o' := 1) rfl fa_26_1 rfl rfl ?_
              refine L_ld (v := r7_1) rfl Try.isAgg24 rfl (hb_g8.cell (j := 1) rfl) ?_
              refine L_mv (v := .int .i64 x2.2.1) rfl rfl ?_
              refine L_ix (r := (rRule 3 23)) rfl Try.underlying24 Try.sizeOf36 rfl hr7_1 rfl hx19 ?_
              intro g104 o105 cs105 hr105 hat105
              obtain ⟨u105_0, u105_1, u105_2, rfl, hu105_0, hu105_1, hu105_2⟩ := rRule_iff.1 hr105
              refine L_fa (o' := o105) rfl fa_36_0 rfl rfl ?_
              refine L_ld (v := .int .i64 x19.kind) rfl Try.isAgg3 rfl (hat105.cell (j := 0) rfl) ?_
              refine L_neq (m := x19.kind) (n := 1) rfl rfl rfl ?_
              refine L_pick (v := .bool b22) rfl rfl (congrArg Value.bool (so hb22)) ?_
              refine L_mv (v := .bool b22) rfl rfl ?_
              refine L_split (d := 55) (b := b22) rfl (fun hc106 => ?_) (fun hc106 => ?_)
              ·
                rw [ite_t hc106] at hb26
                refine L_pass rfl ?_
                refine L_pass rfl ?_
                refine L_pass rfl ?_
                refine L_pass rfl ?_
                refine L_pass rfl ?_
                refine L_pass rfl ?_
                refine L_pass rfl ?_
                refine L_pick (v := .bool b26) rfl rfl (congrArg Value.bool (so hb26)) ?_
                refine L_nil ?_
                show R27 _ _
                rw [hR27]
                exact ⟨rfl, rfl, rfl, rfl, rfl, (rel0 hr7_2), (rel0 hr7_0), (rel0 hr7_1), hb_g8, hx⟩
              ·
                rw [ite_f hc106] at hb26
                obtain ⟨x23, hx23, hb26⟩ := bind_some hb26
                refine L_fa (o' := 1) rfl fa_26_1 rfl rfl ?_
                refine L_ld (v := r7_1) rfl Try.isAgg24 rfl (hb_g8.cell (j := 1) rfl) ?_
                refine L_mv (v := .int .i64 x2.2.1) rfl rfl ?_
                refine L_ix (r := (rRule 3 23)) rfl Try.underlying24 Try.sizeOf36 rfl hr7_1 rfl hx23 ?_
                intro g107 o108 cs108 hr108 hat108
                obtain ⟨u108_0, u108_1, u108_2, rfl, hu108_0, hu108_1, hu108_2⟩ := rRule_iff.1 hr108
                refine L_fa (o' := o108 + 3) rfl fa_36_3 rfl rfl ?_
                refine L_ld (v := .int .i64 x23.bound) rfl Try.isAgg3 rfl (hat108.cell (j := 3) rfl) ?_
                refine L_eql (m := x23.bound) (n := (-1000)) rfl rfl rfl ?_
                refine L_pick (v := .bool b26) rfl rfl (congrArg Value.bool (so hb26)) ?_
                refine L_nil ?_
                show R27 _ _
                rw [hR27]
                exact ⟨rfl, rfl, rfl, rfl, rfl, (rel0 hr7_2), (rel0 hr7_0), (rel0 hr7_1), hb_g8, hx⟩
    ·
      intro f w_ hR
      rw [hR27] at hR
      obtain ⟨sf3, sf4, sf5, sf6, sf63, hr7_2, hr7_0, hr7_1, hb_g8, hx⟩ := hR
      clear hR27
      refine W_cond (b := b26) sf63 (fun hc109 => ?_) (fun hc109 => ?_)
      ·
        have hF := (ite_t hc109).symm.trans hF
        refine W_seq ?_
        obtain ⟨x110, hx110, hF⟩ := bind_some hF
        refine W_region ?_
        refine L_mv (v := .bool x11) rfl sf6 ?_
        refine L_lda (cs := [r7_0, r7_1]) rfl Try.isAgg26 Try.sizeOf26 sf3 (Blk.sub hb_g8 0 2) rfl ?_
        refine L_mv (v := .int .i64 x2.2.1) rfl sf4 ?_
        refine L_mv (v := r7_2) rfl sf5 ?_
        refine L_call (args := #[.agg #[r7_0, r7_1], .int .i64 x2.2.1, r7_2]) rfl Try.call19 (ops3 rfl rfl rfl) (s_RuleHolds_c (m := x2.1) (rule := x2.2.1) (cells := x2.2.2) (Nat.le_trans hB hx.size) (rel0 hr7_0) (rel0 hr7_1) (rel0 hr7_2) hx110) ?_
        rintro _ w112 ⟨rfl, he112⟩
        have hr7_2 := RP.ext hr7_2 he112
        have hr7_0 := RP.ext hr7_0 he112
        have hr7_1 := RP.ext hr7_1 he112
        have hx := ext_trans hx he112
        refine L_beql (b := x11) (c := x110) rfl Try.underlying4 rfl rfl ?_
        refine L_as (v := .bool (x11 == x110)) rfl rfl ?_
        refine L_nil ?_
        refine W_ret ?_
        obtain rfl := so hF
        refine ret1 Try.results6 ?_
        exact ⟨rfl, hx⟩
      ·
        have hF := (ite_f hc109).symm.trans hF
        refine W_skip ?_
        refine W_seq ?_
        obtain ⟨wL113, hwL113⟩ : ∃ x, x = w_ := ⟨_, rfl⟩
        subst hwL113
        have hr7_2_s113 := hr7_2
        have hr7_2 := rel0 hr7_2
        have hr7_0_s113 := hr7_0
        have hr7_0 := rel0 hr7_0
        have hr7_1_s113 := hr7_1
        have hr7_1 := rel0 hr7_1
        have hb_g8_s113 := hb_g8
        have hx_s113 := hx
        have hB_s113 := hB
        have hB : B ≤ wL113.heap.size := Nat.le_trans hB hx.size
        have hx := ext_refl wL113
        obtain ⟨x114, hx114, hF⟩ := bind_some hF
        refine W_region ?_
        refine L_fa (o' := 1) rfl fa_26_1 sf3 rfl ?_
        refine L_ld (v := r7_1) rfl Try.isAgg24 rfl (hb_g8.cell (j := 1) rfl) ?_
        refine L_mv (v := .int .i64 x2.2.1) rfl sf4 ?_
        refine L_ix (r := (rRule 3 23)) rfl Try.underlying24 Try.sizeOf36 rfl hr7_1 rfl hx114 ?_
        intro g120 o121 cs121 hr121 hat121
        obtain ⟨u121_0, u121_1, u121_2, rfl, hu121_0, hu121_1, hu121_2⟩ := rRule_iff.1 hr121
        refine L_lda (cs := [.int .i64 x114.kind, u121_0, u121_1, .int .i64 x114.bound, u121_2]) rfl Try.isAgg36 Try.sizeOf36 rfl (At.sub hat121 0 5) rfl ?_
        refine L_al (cs := #[.int .i64 0, (.slice none 0 0), (.slice none 0 0), .int .i64 0, (.slice none 0 0)]) rfl Try.zeroValue36 rfl ?_
        intro g122 w123 hn123
        have hge_g122 := hn123.geS hx.size
        have hb_g122 := hn123.blk
        have hr7_2 := RP.ext hr7_2 hn123.ext
        have hr7_0 := RP.ext hr7_0 hn123.ext
        have hr7_1 := RP.ext hr7_1 hn123.ext
        have hb_g8 := Blk.ext hb_g8 hn123.ext
        have hu121_0 := RP.ext hu121_0 hn123.ext
        have hu121_1 := RP.ext hu121_1 hn123.ext
        have hu121_2 := RP.ext hu121_2 hn123.ext
        have hx := ext_trans hx hn123.ext
        refine L_sta (vs := #[.int .i64 x114.kind, u121_0, u121_1, .int .i64 x114.bound, u121_2]) rfl Try.sizeOf36 rfl rfl rfl (ones_cons rfl (ones_cons (one_of hu121_0) (ones_cons (one_of hu121_1) (ones_cons rfl (ones_cons (one_of hu121_2) ones_nil))))) hb_g122 rfl ?_
        intro w124 hp124
        have hr7_2 := hp124.mu.rel hr7_2 (by decide) (Nat.le_trans hB hge_g122)
        have hr7_0 := hp124.mu.rel hr7_0 (by decide) (Nat.le_trans hB hge_g122)
        have hr7_1 := hp124.mu.rel_lo hr7_1 hge_g122
        have hb_g8 := hp124.mu.blk hb_g8 (by decide)
        have hu121_0 := hp124.mu.rel hu121_0 (by decide) (Nat.le_trans hB hge_g122)
        have hu121_1 := hp124.mu.rel hu121_1 (by decide) (Nat.le_trans hB hge_g122)
        have hu121_2 := hp124.mu.rel hu121_2 (by decide) (Nat.le_trans hB hge_g122)
        have hx := ext_mut hx hp124.mu hge_g122
        have hb_g122 : Blk w124 g122 36 #[.int .i64 x114.kind, u121_0, u121_1, .int .i64 x114.bound, u121_2] := hp124.blk
        refine L_nil ?_
        refine W_seq ?_
        refine W_region ?_
        refine L_fa (o' := 1) rfl fa_36_1 rfl rfl ?_
        refine L_ld (v := u121_0) rfl Try.isAgg23 rfl (hb_g122.cell (j := 1) rfl) ?_
        refine L_fa (o' := 3) rfl fa_36_3 rfl rfl ?_
        refine L_ld (v := .int .i64 x114.bound) rfl Try.isAgg3 rfl (hb_g122.cell (j := 3) rfl) ?_
        refine L_sub (m := 1) (n := x114.bound) rfl rfl rfl ?_
        refine L_bld rfl (parts3 rfl rfl rfl) (bld_36_0_1_3 (.int .i64 1) (u121_0) (.int .i64 (i64 (1 - x114.bound))) rfl (one_of hu121_0) rfl) ?_
        refine L_al (cs := #[.int .i64 0, (.slice none 0 0), (.slice none 0 0), .int .i64 0, (.slice none 0 0)]) rfl Try.zeroValue36 rfl ?_
        intro g129 w130 hn130
        have hge_g129 := hn130.geS hx.size
        have hb_g129 := hn130.blk
        have ap131 := ap_bb hb_g122 hn130
        have hr7_2 := RP.ext hr7_2 hn130.ext
        have hr7_0 := RP.ext hr7_0 hn130.ext
        have hr7_1 := RP.ext hr7_1 hn130.ext
        have hb_g8 := Blk.ext hb_g8 hn130.ext
        have hu121_0 := RP.ext hu121_0 hn130.ext
        have hu121_1 := RP.ext hu121_1 hn130.ext
        have hu121_2 := RP.ext hu121_2 hn130.ext
        have hb_g122 := Blk.ext hb_g122 hn130.ext
        have hx := ext_trans hx hn130.ext
        refine L_sta (vs := #[.int .i64 1, u121_0, (.slice none 0 0), .int .i64 (i64 (1 - x114.bound)), (.slice none 0 0)]) rfl Try.sizeOf36 rfl rfl rfl (ones_cons rfl (ones_cons (one_of hu121_0) (ones_cons rfl (ones_cons rfl (ones_cons rfl ones_nil))))) hb_g129 rfl ?_
        intro w132 hp132
        have hr7_2 := hp132.mu.rel hr7_2 (by decide) (Nat.le_trans hB hge_g129)
        have hr7_0 := hp132.mu.rel hr7_0 (by decide) (Nat.le_trans hB hge_g129)
        have hr7_1 := hp132.mu.rel_lo hr7_1 hge_g129
        have hb_g8 := hp132.mu.blk hb_g8 (by decide)
        have hu121_0 := hp132.mu.rel hu121_0 (by decide) (Nat.le_trans hB hge_g129)
        have hu121_1 := hp132.mu.rel hu121_1 (by decide) (Nat.le_trans hB hge_g129)
        have hu121_2 := hp132.mu.rel hu121_2 (by decide) (Nat.le_trans hB hge_g129)
        have hb_g122 := hp132.mu.blkA hb_g122 (Ap.symm ap131)
        have hx := ext_mut hx hp132.mu hge_g129
        have hb_g129 : Blk w132 g129 36 #[.int .i64 1, u121_0, (.slice none 0 0), .int .i64 (i64 (1 - x114.bound)), (.slice none 0 0)] := hp132.blk
        refine L_nil ?_
        refine W_seq ?_
        refine W_seq ?_
        refine W_region ?_
        refine L_as (v := .int .i64 0) rfl rfl ?_
        refine L_nil ?_
        have hlen135 := len_le hu121_1
        obtain ⟨j135, hL135, hF⟩ := bind_some hF
        obtain ⟨R135, hR135⟩ : ∃ R : Fr → World → Prop, R = fun f w_ => ∃ g129_2_134 : List Int, ∃ v134_g129_2 : Value, j135 = .nx g129_2_134 ∧ f 3 = .pointer (some ⟨g8, 0, none⟩) ∧ f 5 = r7_2 ∧ f 6 = .bool x11 ∧ f 8 = .pointer (some ⟨g129, 0, none⟩) ∧ (RP.slice 3 RP.int).rel B wL113.heap.size w_ [r7_2] x2.2.2 ∧ (RP.slice 3 RP.int).rel B wL113.heap.size w_ [u121_0] x114.vars ∧ Own RP.int 3 wL113.heap.size B w_ v134_g129_2 g129_2_134 ∧ Blk w_ g129 36 #[.int .i64 1, u121_0, v134_g129_2, .int .i64 (i64 (1 - x114.bound)), (.slice none 0 0)] ∧ (RP.slice 3 RP.int).rel B wL113.heap.size w_ [r7_0] x2.1.sizes ∧ (RP.slice 36 (rRule 3 23)).rel B wL113.heap.size w_ [r7_1] x2.1.rules ∧ Blk w_ g8 26 #[r7_0, r7_1] ∧ Ext wL113 w_ := ⟨_, rfl⟩
        refine W_join R135 ?_ ?_
        ·
          refine W_block ?_
          obtain ⟨I135, hI135⟩ : ∃ I : Nat → Fr → World → Prop, I = fun n f w_ => ∃ i_133 : Nat, ∃ suf135 : List Int, ∃ g129_2_134 : List Int, ∃ v134_g129_2 : Value, n = suf135.length ∧ List.drop i_133 x114.coefs = suf135 ∧ i_133 + suf135.length = x114.coefs.length ∧ rangeL l_FnRuleLinear_b1 suf135 i_133 g129_2_134 = some j135 ∧ f 3 = .pointer (some ⟨g8, 0, none⟩) ∧ f 5 = r7_2 ∧ f 6 = .bool x11 ∧ f 7 = .pointer (some ⟨g122, 0, none⟩) ∧ f 8 = .pointer (some ⟨g129, 0, none⟩) ∧ f 9 = .int .i64 (i_133 : Int) ∧ (RP.slice 3 RP.int).rel B wL113.heap.size w_ [r7_2] x2.2.2 ∧ (RP.slice 3 RP.int).rel B wL113.heap.size w_ [u121_0] x114.vars ∧ Own RP.int 3 wL113.heap.size B w_ v134_g129_2 g129_2_134 ∧ Blk w_ g129 36 #[.int .i64 1, u121_0, v134_g129_2, .int .i64 (i64 (1 - x114.bound)), (.slice none 0 0)] ∧ (RP.slice 3 RP.int).rel B wL113.heap.size w_ [u121_1] x114.coefs ∧ (RP.slice 23 (RP.slice 3 RP.int)).rel B wL113.heap.size w_ [u121_2] x114.rows ∧ Blk w_ g122 36 #[.int .i64 x114.kind, u121_0, u121_1, .int .i64 x114.bound, u121_2] ∧ (RP.slice 3 RP.int).rel B wL113.heap.size w_ [r7_0] x2.1.sizes ∧ (RP.slice 36 (rRule 3 23)).rel B wL113.heap.size w_ [r7_1] x2.1.rules ∧ Blk w_ g8 26 #[r7_0, r7_1] ∧ Ext wL113 w_ := ⟨_, rfl⟩
          refine W_loop I135 (n := x114.coefs.length) ?_ ?_
          · rw [hI135]; exact ⟨0, x114.coefs, [], (.slice none 0 0), rfl, rfl, Nat.zero_add _, hL135, sf3, sf5, sf6, rfl, rfl, rfl, hr7_2, hu121_0, (Own.nil _ _ _ _ _), hb_g129, hu121_1, hu121_2, hb_g122, hr7_0, hr7_1, hb_g8, hx⟩
          ·
            intro n135 f w_ hI
            rw [hI135] at hI
            obtain ⟨i_133, suf135, g129_2_134, v134_g129_2, rfl, hd135, hl135, hL135, sf3, sf5, sf6, sf7, sf8, sf9, hr7_2, hu121_0, hv134_g129_2, hb_g129, hu121_1, hu121_2, hb_g122, hr7_0, hr7_1, hb_g8, hx⟩ := hI
            refine W_seq ?_
            refine W_seq ?_
            refine W_region ?_
            refine L_mv (v := .int .i64 (i_133 : Int)) rfl sf9 ?_
            refine L_fa (o' := 2) rfl fa_36_2 sf7 rfl ?_
            refine L_ld (v := u121_1) rfl Try.isAgg23 rfl (hb_g122.cell (j := 2) rfl) ?_
            refine L_len (v := u121_1) rfl Try.underlying23 rfl hu121_1 ?_
            refine L_lss (m := (i_133 : Int)) (n := (x114.coefs.length : Int)) rfl rfl rfl ?_
            refine L_nil ?_
            refine W_cond (b := decide ((i_133 : Int) < (x114.coefs.length : Int))) rfl (fun hc136 => ?_) (fun hc136 => ?_)
            ·
              have hlt135 := of_decide_eq_true hc136
              cases suf135 with
              | nil => exact absurd hlt135 (by simp at hl135; omega)
              | cons x_135 rest135 =>
                obtain ⟨o135, hB135, hL135⟩ := range_cons hL135
                rw [l_FnRuleLinear_b1] at hB135
                have hix135 := drop_idx hd135
                refine W_skip ?_
                refine W_seq ?_
                refine W_block ?_
                obtain ⟨x142, hx142, hB135⟩ := bind_some hB135
                refine W_drawL 9 [isV (.pointer (some ⟨g129, 2, none⟩)), isV (v134_g129_2), isV (.pointer (some ⟨g122, 2, none⟩)), isV (u121_1), isV (.int .i64 (i_133 : Int)), isEl B RP.int x_135 0, isV (.int .i64 x_135), isV (.int .i64 (i64 (-x_135))), isOwn B RP.int 3 wL113.heap.size ([i64 (-x_135)])] Try_mix (by kernel_rfl) (am_cons (mono_V _) (am_cons (mono_V _) (am_cons (mono_V _) (am_cons (mono_V _) (am_cons (mono_V _) (am_cons (mono_el _ _ _ _) (am_cons (mono_V _) (am_cons (mono_V _) (am_cons (mono_own _ _ _ _ _) am_nil))))))))) ?_ (fun f w_ hS146 hE146 hT146 => ?_)
                ·
                  refine ops_cons (fun f w_ hS146 hE146 hP146 => ?_) ?_
                  ·
                    have hx := ext_trans hx hE146
                    have hu121_0 := RP.ext hu121_0 hE146
                    have hv134_g129_2 := Own.ext hv134_g129_2 hE146
                    have hb_g129 := Blk.ext hb_g129 hE146
                    refine L_fa (o' := 2) rfl fa_36_2 ((hS146 8 rfl).trans sf8) rfl ?_
                    exact L_nil ⟨rfl, (ext_refl _), _, _, rfl, rfl, rfl⟩
                  refine ops_cons (fun f w_ hS146 hE146 hP146 => ?_) ?_
                  ·
                    have hx := ext_trans hx hE146
                    have hu121_0 := RP.ext hu121_0 hE146
                    have hv134_g129_2 := Own.ext hv134_g129_2 hE146
                    have hb_g129 := Blk.ext hb_g129 hE146
                    refine L_ld (v := v134_g129_2) rfl Try.isAgg23 (hP146 0 88 rfl rfl) (hb_g129.cell (j := 2) rfl) ?_
                    exact L_nil ⟨rfl, (ext_refl _), _, _, rfl, rfl, rfl⟩
                  refine ops_cons (fun f w_ hS146 hE146 hP146 => ?_) ?_
                  ·
                    have hx := ext_trans hx hE146
                    have hu121_0 := RP.ext hu121_0 hE146
                    have hu121_1 := RP.ext hu121_1 hE146
                    have hu121_2 := RP.ext hu121_2 hE146
                    have hb_g122 := Blk.ext hb_g122 hE146
                    refine L_fa (o' := 2) rfl fa_36_2 ((hS146 7 rfl).trans sf7) rfl ?_
                    exact L_nil ⟨rfl, (ext_refl _), _, _, rfl, rfl, rfl⟩
                  refine ops_cons (fun f w_ hS146 hE146 hP146 => ?_) ?_
                  ·
                    have hx := ext_trans hx hE146
                    have hu121_0 := RP.ext hu121_0 hE146
                    have hu121_1 := RP.ext hu121_1 hE146
                    have hu121_2 := RP.ext hu121_2 hE146
                    have hb_g122 := Blk.ext hb_g122 hE146
                    refine L_ld (v := u121_1) rfl Try.isAgg23 (hP146 2 90 rfl rfl) (hb_g122.cell (j := 2) rfl) ?_
                    exact L_nil ⟨rfl, (ext_refl _), _, _, rfl, rfl, rfl⟩
                  refine ops_cons (fun f w_ hS146 hE146 hP146 => ?_) ?_
                  ·
                    have hx := ext_trans hx hE146
                    refine L_mv (v := .int .i64 (i_133 : Int)) rfl ((hS146 9 rfl).trans sf9) ?_
                    exact L_nil ⟨rfl, (ext_refl _), _, _, rfl, rfl, rfl⟩
                  refine ops_cons (fun f w_ hS146 hE146 hP146 => ?_) ?_
                  ·
                    have hx := ext_trans hx hE146
                    have hu121_1 := RP.ext hu121_1 hE146
                    refine L_ix (r := RP.int) rfl Try.underlying23 Try.sizeOf3 (hP146 3 91 rfl rfl) hu121_1 (hP146 4 92 rfl rfl) hix135 ?_
                    intro g152 o153 cs153 hr153 hat153
                    obtain rfl : _ = [_] := hr153
                    exact L_nil ⟨rfl, (ext_refl _), _, _, rfl, rfl, ⟨_, _, _, rfl, rfl, hat153⟩⟩
                  refine ops_cons (fun f w_ hS146 hE146 hP146 => ?_) ?_
                  ·
                    have hx := ext_trans hx hE146
                    obtain ⟨g154, o154, cs154, hv154, hr154, hat154⟩ := (hP146 5 93 rfl rfl)
                    obtain rfl : _ = [_] := hr154
                    refine L_ld (v := .int .i64 x_135) rfl Try.isAgg3 hv154 (hat154.cell (j := 0) rfl) ?_
                    exact L_nil ⟨rfl, (ext_refl _), _, _, rfl, rfl, rfl⟩
                  refine ops_cons (fun f w_ hS146 hE146 hP146 => ?_) ?_
                  ·
                    have hx := ext_trans hx hE146
                    refine L_neg (n := x_135) rfl (hP146 6 94 rfl rfl) ?_
                    exact L_nil ⟨rfl, (ext_refl _), _, _, rfl, rfl, rfl⟩
                  refine ops_cons (fun f w_ hS146 hE146 hP146 => ?_) ?_
                  ·
                    have hx := ext_trans hx hE146
                    refine L_bs rfl (parts1 (hP146 7 95 rfl rfl)) (bs_23_1_0 (.int .i64 (i64 (-x_135))) rfl) ?_
                    intro g155 w156 hn156
                    have ho156 : Own RP.int 3 wL113.heap.size B w156 _ [i64 (-x_135)] := own_new1 hn156 hx.size rfl
                    have hx := ext_trans hx hn156.ext
                    exact L_nil ⟨rfl, hn156.ext, _, _, rfl, rfl, ho156⟩
                  exact ops_nil
                ·
                  have hr7_2 := RP.ext hr7_2 hE146
                  have hu121_0 := RP.ext hu121_0 hE146
                  have hv134_g129_2 := Own.ext hv134_g129_2 hE146
                  have hb_g129 := Blk.ext hb_g129 hE146
                  have hu121_1 := RP.ext hu121_1 hE146
                  have hu121_2 := RP.ext hu121_2 hE146
                  have hb_g122 := Blk.ext hb_g122 hE146
                  have hr7_0 := RP.ext hr7_0 hE146
                  have hr7_1 := RP.ext hr7_1 hE146
                  have hb_g8 := Blk.ext hb_g8 hE146
                  have hx := ext_trans hx hE146
                  have hd157 := (hT146 8 96 rfl rfl)
                  refine L_app (v := v134_g129_2) (u := (f 96)) rfl et_23 (by decide) (hT146 1 89 rfl rfl) rfl hv134_g129_2 (rel0 (Own.rel hd157)) hx142 hx.size hB ?_
                  intro v158 w158 ho158 hm158 hb158
                  have hr7_2 := hm158.rel_lo hr7_2 (Nat.le_refl _)
                  have hu121_0 := hm158.rel_lo hu121_0 (Nat.le_refl _)
                  have hb_g129 := hm158.blk hb_g129 (by decide)
                  have hu121_1 := hm158.rel_lo hu121_1 (Nat.le_refl _)
                  have hu121_2 := hm158.rel_lo hu121_2 (Nat.le_refl _)
                  have hb_g122 := hm158.blk hb_g122 (by decide)
                  have hr7_0 := hm158.rel_lo hr7_0 (Nat.le_refl _)
                  have hr7_1 := hm158.rel_lo hr7_1 (Nat.le_refl _)
                  have hb_g8 := hm158.blk hb_g8 (by decide)
                  have hx := ext_mut hx hm158 (Nat.le_refl _)
                  refine L_fa (o' := 2) rfl fa_36_2 ((hS146 8 rfl).trans sf8) rfl ?_
                  refine L_st (v := v158) rfl Try.sizeOf23 rfl rfl (one_of (Own.rel ho158)) hb_g129 rfl ?_
                  intro w159 hp159
                  have hr7_2 := hp159.mu.rel hr7_2 (by decide) (Nat.le_trans hB hge_g129)
                  have hu121_0 := hp159.mu.rel hu121_0 (by decide) (Nat.le_trans hB hge_g129)
                  have hu121_1 := hp159.mu.rel hu121_1 (by decide) (Nat.le_trans hB hge_g129)
                  have hu121_2 := hp159.mu.rel hu121_2 (by decide) (Nat.le_trans hB hge_g129)
                  have hb_g122 := hp159.mu.blkA hb_g122 (Ap.symm ap131)
                  have hr7_0 := hp159.mu.rel hr7_0 (by decide) (Nat.le_trans hB hge_g129)
                  have hr7_1 := hp159.mu.rel_lo hr7_1 hge_g129
                  have hb_g8 := hp159.mu.blk hb_g8 (by decide)
                  have ho158 := hp159.mu.ownT ho158 (by decide) (by decide) (Nat.le_trans hB hge_g129)
                  have hx := ext_mut hx hp159.mu hge_g129
                  have hb_g129 : Blk w159 g129 36 #[.int .i64 1, u121_0, v158, .int .i64 (i64 (1 - x114.bound)), (.slice none 0 0)] := hp159.blk
                  refine L_nil ?_
                  refine W_region ?_
                  refine L_mv (v := .int .i64 (i_133 : Int)) rfl ((hS146 9 rfl).trans sf9) ?_
                  refine L_add (m := (i_133 : Int)) (n := 1) rfl rfl rfl ?_
                  refine L_as (v := .int .i64 (i64 ((i_133 : Int) + 1))) rfl rfl ?_
                  refine L_nil ?_
                  obtain rfl := so hB135
                  show ∃ m, m < _ ∧ I135 m _ _
                  refine ⟨rest135.length, by simp, ?_⟩
                  rw [hI135]
                  exact ⟨i_133 + 1, rest135, x142, v158, rfl, drop_next hd135, by simp at hl135; omega, hL135, ((hS146 3 rfl).trans sf3), ((hS146 5 rfl).trans sf5), ((hS146 6 rfl).trans sf6), ((hS146 7 rfl).trans sf7), ((hS146 8 rfl).trans sf8), (Eq.trans rfl (congrArg (Value.int .i64) (i64_succ (n := x114.coefs.length) (by simp at hl135; omega) hlen135))), hr7_2, hu121_0, ho158, hb_g129, hu121_1, hu121_2, hb_g122, hr7_0, hr7_1, hb_g8, hx⟩
            ·
              cases suf135 with
              | cons _ _ => exact absurd (of_decide_eq_false hc136) (by simp at hl135; omega)
              | nil =>
                obtain rfl := range_nil hL135
                refine W_exit ?_
                show R135 _ _
                rw [hR135]
                exact ⟨g129_2_134, v134_g129_2, rfl, sf3, sf5, sf6, sf8, hr7_2, hu121_0, hv134_g129_2, hb_g129, hr7_0, hr7_1, hb_g8, hx⟩
        ·
          intro f w_ hR
          rw [hR135] at hR
          obtain ⟨g129_2_134, v134_g129_2, rfl, sf3, sf5, sf6, sf8, hr7_2, hu121_0, hv134_g129_2, hb_g129, hr7_0, hr7_1, hb_g8, hx⟩ := hR
          clear hR135
          refine W_seq ?_
          obtain ⟨x163, hx163, hF⟩ := bind_some hF
          refine W_region ?_
          refine L_fa (o' := 0) rfl fa_26_0 sf3 rfl ?_
          refine L_ld (v := r7_0) rfl Try.isAgg23 rfl (hb_g8.cell (j := 0) rfl) ?_
          refine L_lda (cs := [.int .i64 1, u121_0, v134_g129_2, .int .i64 (i64 (1 - x114.bound)), (.slice none 0 0)]) rfl Try.isAgg36 Try.sizeOf36 sf8 (Blk.sub hb_g129 0 5) rfl ?_
          refine L_bs rfl (parts1 rfl) (bs_24_1_5 (.int .i64 1) (u121_0) (v134_g129_2) (.int .i64 (i64 (1 - x114.bound))) ((.slice none 0 0)) ) ?_
          intro g165 w166 hn166
          have ho166 : Own (rRule 3 23) 36 wL113.heap.size B w166 _ [({ kind := 1, vars := x114.vars, coefs := g129_2_134, bound := i64 (1 - x114.bound), rows := [] } : Rule)] := own_new1 hn166 hx.size (rRule_iff.2 ⟨_, _, _, rfl, (rel0 hu121_0), (rel0 (Own.rel hv134_g129_2)), (rel_nil _ _ _ _ _)⟩)
          have hr7_2 := RP.ext hr7_2 hn166.ext
          have hu121_0 := RP.ext hu121_0 hn166.ext
          have hv134_g129_2 := Own.ext hv134_g129_2 hn166.ext
          have hr7_0 := RP.ext hr7_0 hn166.ext
          have hx := ext_trans hx hn166.ext
          refine L_bld rfl (parts2 rfl rfl) (bld_26_0_1 (r7_0) ((.slice (some ⟨g165, 0, none⟩) 1 1)) (one_of hr7_0) (one_of (Own.rel ho166))) ?_
          refine L_mv (v := r7_2) rfl sf5 ?_
          refine L_call (args := #[.agg #[r7_0, (.slice (some ⟨g165, 0, none⟩) 1 1)], .int .i64 0, r7_2]) rfl Try.call18 (ops3 rfl rfl rfl) (i_RuleHolds_c (m := ({ sizes := x2.1.sizes, rules := [({ kind := 1, vars := x114.vars, coefs := g129_2_134, bound := i64 (1 - x114.bound), rows := [] } : Rule)] } : Model)) (rule := 0) (cells := x2.2.2) (Nat.le_trans hB hx.size) (rel0 hr7_0) (rel0 (Own.rel ho166)) (rel0 hr7_2) hx163) ?_
          rintro _ w167 ⟨rfl, he167⟩
          have hr7_2 := RP.ext hr7_2 he167
          have hr7_0 := RP.ext hr7_0 he167
          have ho166 := Own.ext ho166 he167
          have hx := ext_trans hx he167
          refine L_mv (v := .bool x11) rfl sf6 ?_
          refine L_not_ (b := x11) rfl rfl ?_
          refine L_beql (b := x163) (c := (!x11)) rfl Try.underlying4 rfl rfl ?_
          refine L_as (v := .bool (x163 == (!x11))) rfl rfl ?_
          refine L_nil ?_
          refine W_ret ?_
          obtain rfl := so hF
          refine ret1 Try.results6 ?_
          have hx := ext_trans hx_s113 hx
          exact ⟨rfl, hx⟩

end Go.Proofs.Ytcjjfneofcpmfaa

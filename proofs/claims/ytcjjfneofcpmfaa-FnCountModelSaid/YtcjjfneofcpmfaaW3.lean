/- Part of a proof by program: W3. -/
import Derived.Test.YtcjjfneofcpmfaaD1
import Derived.Test.YtcjjfneofcpmfaaW2
namespace Go.Proofs.Ytcjjfneofcpmfaa
open Go Go.E Go.L Go.RowKit
set_option linter.unusedVariables false
set_option linter.unusedSimpArgs false
set_option maxRecDepth 100000

theorem s_ModelValid_c {fu : Nat} {m : Model} {v0_0 : Value} {v0_1 : Value} {H : FH} {w : World} (hst : Star H w []) (h0_0 : (RP.slice 3 RP.int).rel H [v0_0] m.sizes) (h0_1 : (RP.slice 36 (rRule 3 23)).rel H [v0_1] m.rules) {r : Bool} (hF : s_ModelValid fu m = some r) :
    C Try.prog 52 #[.agg #[v0_0, v0_1]] w fun v w' => v = .bool r ∧ Star H w' [] := by
  unfold s_ModelValid at hF
  refine C_enter Try.func52 rfl Try.ntmps52 rfl ?_
  refine W_seq ?_
  refine W_region ?_
  refine L_box (v := .agg #[v0_0, v0_1]) (cs := #[v0_0, v0_1]) rfl rfl rfl hst ?_
  intro g3 w4 hst
  refine L_as (v := .bool false) rfl rfl ?_
  refine L_nil ?_
  refine W_seq ?_
  refine W_region ?_
  refine L_as (v := .int .i64 0) rfl rfl ?_
  refine L_nil ?_
  refine W_seq ?_
  refine W_seq ?_
  refine W_region ?_
  refine L_as (v := .int .i64 0) rfl rfl ?_
  refine L_nil ?_
  obtain ⟨j10, hL10, hF⟩ := bind_some hF
  obtain ⟨R10, hR10⟩ : ∃ RR_ : Fr → World → Prop, RR_ = fun f w_ => ∃ n_8 : Int, ∃ i_9 : Int, j10 = .nx (n_8, i_9) ∧ f 1 = .pointer (some ⟨g3, 0, none⟩) ∧ f 3 = .int .i64 n_8 ∧ Star H w_ ([box g3 26 #[v0_0, v0_1]]) := ⟨_, rfl⟩
  refine W_join R10 ?_ ?_
  ·
    refine W_block ?_
    obtain ⟨I10, hI10⟩ : ∃ I : Nat → Fr → World → Prop, I = fun n f w_ => ∃ n_8 : Int, ∃ i_9 : Int, whileL (s_ModelValid_b1 m) n (n_8, i_9) = some j10 ∧ f 1 = .pointer (some ⟨g3, 0, none⟩) ∧ f 3 = .int .i64 n_8 ∧ f 4 = .int .i64 i_9 ∧ Star H w_ ([box g3 26 #[v0_0, v0_1]]) := ⟨_, rfl⟩
    refine W_loop I10 (n := fu) ?_ ?_
    · rw [hI10]; exact ⟨0, 0, hL10, rfl, rfl, rfl, hst⟩
    ·
      clear hst
      intro n10 f w_ hI
      rw [hI10] at hI
      obtain ⟨n_8, i_9, hL10, sf1, sf3, sf4, hst⟩ := hI
      cases n10 with
      | zero => exact (while_zero hL10).elim
      | succ n10 =>
        obtain ⟨o10, hB10, hL10⟩ := while_succ hL10
        rw [s_ModelValid_b1] at hB10
        refine W_seq ?_
        refine W_seq ?_
        obtain ⟨R11, hR11⟩ : ∃ RR_ : Fr → World → Prop, RR_ = fun f w_ => f 1 = .pointer (some ⟨g3, 0, none⟩) ∧ f 3 = .int .i64 n_8 ∧ f 4 = .int .i64 i_9 ∧ f 14 = .bool ((decide (i_9 < (m.sizes.length : Int))) && (decide (i_9 < 5))) ∧ Star H w_ ([box g3 26 #[v0_0, v0_1]]) := ⟨_, rfl⟩
        refine W_join R11 ?_ ?_
        ·
          refine W_region ?_
          refine L_mv (v := .int .i64 i_9) rfl sf4 ?_
          refine L_fa (o' := 0) rfl fa_26_0 sf1 rfl ?_
          refine L_ld (v := v0_0) rfl Try.isAgg23 rfl (At.cell0 (Blk.at (Star.blkAt 0 hst rfl)) (j := 0) rfl) ?_
          refine L_len (v := v0_0) (n := List.length m.sizes) rfl Try.underlying23 rfl (slice_len h0_0) ?_
          refine L_lss (m := i_9) (n := (m.sizes.length : Int)) rfl rfl rfl ?_
          refine L_mv (v := .bool (decide (i_9 < (m.sizes.length : Int)))) rfl rfl ?_
          refine L_split (d := 11) (b := decide (i_9 < (m.sizes.length : Int))) rfl (fun hc12 => ?_) (fun hc12 => ?_)
          ·
            refine L_mv (v := .int .i64 i_9) rfl sf4 ?_
            refine L_lss (m := i_9) (n := 5) rfl rfl rfl ?_
            refine L_pick (v := .bool ((decide (i_9 < (m.sizes.length : Int))) && (decide (i_9 < 5)))) rfl rfl (and_t hc12 rfl) ?_
            refine L_nil ?_
            show R11 _ _
            rw [hR11]
            exact ⟨sf1, sf3, sf4, rfl, hst⟩
          ·
            refine L_pass rfl ?_
            refine L_pass rfl ?_
            refine L_pick (v := .bool ((decide (i_9 < (m.sizes.length : Int))) && (decide (i_9 < 5)))) rfl rfl (and_f hc12) ?_
            refine L_nil ?_
            show R11 _ _
            rw [hR11]
            exact ⟨sf1, sf3, sf4, rfl, hst⟩
        ·
          intro f w_ hR
          rw [hR11] at hR
          obtain ⟨sf1, sf3, sf4, sf14, hst⟩ := hR
          clear hR11
          refine W_cond (b := ((decide (i_9 < (m.sizes.length : Int))) && (decide (i_9 < 5)))) sf14 (fun hc13 => ?_) (fun hc13 => ?_)
          ·
            have hB10 := (ite_t hc13).symm.trans hB10
            refine W_skip ?_
            refine W_seq ?_
            refine W_block ?_
            refine W_seq ?_
            refine W_seq ?_
            obtain ⟨x14, hx14, hB10⟩ := bind_some hB10
            obtain ⟨R23, hR23⟩ : ∃ RR_ : Fr → World → Prop, RR_ = fun f w_ => f 1 = .pointer (some ⟨g3, 0, none⟩) ∧ f 3 = .int .i64 n_8 ∧ f 4 = .int .i64 i_9 ∧ f 30 = .bool ((decide (x14 < 0)) || (decide (x14 > 3))) ∧ Star H w_ ([box g3 26 #[v0_0, v0_1]]) := ⟨_, rfl⟩
            refine W_join R23 ?_ ?_
            ·
              refine W_region ?_
              refine L_fa (o' := 0) rfl fa_26_0 sf1 rfl ?_
              refine L_ld (v := v0_0) rfl Try.isAgg23 rfl (At.cell0 (Blk.at (Star.blkAt 0 hst rfl)) (j := 0) rfl) ?_
              refine L_mv (v := .int .i64 i_9) rfl sf4 ?_
              refine L_ix (r := RP.int) rfl Try.underlying23 Try.sizeOf3 rfl h0_0 rfl hx14 ?_
              intro g24 o25 cs_g24 hrk_hat26 hat26
              obtain rfl : _ = [_] := hrk_hat26
              refine L_ld (v := .int .i64 x14) rfl Try.isAgg3 rfl (At.cell (AtH.at hat26 hst.sub) (j := 0) rfl) ?_
              refine L_lss (m := x14) (n := 0) rfl rfl rfl ?_
              refine L_mv (v := .bool (decide (x14 < 0))) rfl rfl ?_
              refine L_split (d := 23) (b := decide (x14 < 0)) rfl (fun hc28 => ?_) (fun hc28 => ?_)
              ·
                refine L_pass rfl ?_
                refine L_pass rfl ?_
                refine L_pass rfl ?_
                refine L_pass rfl ?_
                refine L_pass rfl ?_
                refine L_pass rfl ?_
                refine L_pick (v := .bool ((decide (x14 < 0)) || (decide (x14 > 3)))) rfl rfl (or_t hc28) ?_
                refine L_nil ?_
                show R23 _ _
                rw [hR23]
                exact ⟨sf1, sf3, sf4, rfl, hst⟩
              ·
                refine L_fa (o' := 0) rfl fa_26_0 sf1 rfl ?_
                refine L_ld (v := v0_0) rfl Try.isAgg23 rfl (At.cell0 (Blk.at (Star.blkAt 0 hst rfl)) (j := 0) rfl) ?_
                refine L_mv (v := .int .i64 i_9) rfl sf4 ?_
                refine L_ix (r := RP.int) rfl Try.underlying23 Try.sizeOf3 rfl h0_0 rfl hx14 ?_
                intro g29 o30 cs_g29 hrk_hat31 hat31
                obtain rfl : _ = [_] := hrk_hat31
                refine L_ld (v := .int .i64 x14) rfl Try.isAgg3 rfl (At.cell (AtH.at hat31 hst.sub) (j := 0) rfl) ?_
                refine L_gtr (m := x14) (n := 3) rfl rfl rfl ?_
                refine L_pick (v := .bool ((decide (x14 < 0)) || (decide (x14 > 3)))) rfl rfl (or_f hc28 rfl) ?_
                refine L_nil ?_
                show R23 _ _
                rw [hR23]
                exact ⟨sf1, sf3, sf4, rfl, hst⟩
            ·
              intro f w_ hR
              rw [hR23] at hR
              obtain ⟨sf1, sf3, sf4, sf30, hst⟩ := hR
              clear hR23
              refine W_cond (b := ((decide (x14 < 0)) || (decide (x14 > 3)))) sf30 (fun hc33 => ?_) (fun hc33 => ?_)
              ·
                have hB10 := (ite_t hc33).symm.trans hB10
                refine W_seq ?_
                refine W_region ?_
                refine L_as (v := .bool false) rfl rfl ?_
                refine L_nil ?_
                refine W_ret ?_
                refine retG1 (v1 := .bool false) Try.results52 rfl ?_
                obtain rfl := so hB10
                obtain rfl := so hL10
                obtain rfl := so hF
                exact ⟨rfl, (Star.keepN 0 hst)⟩
              ·
                have hB10 := (ite_f hc33).symm.trans hB10
                refine W_skip ?_
                refine W_region ?_
                refine L_mv (v := .int .i64 n_8) rfl sf3 ?_
                refine L_fa (o' := 0) rfl fa_26_0 sf1 rfl ?_
                refine L_ld (v := v0_0) rfl Try.isAgg23 rfl (At.cell0 (Blk.at (Star.blkAt 0 hst rfl)) (j := 0) rfl) ?_
                refine L_mv (v := .int .i64 i_9) rfl sf4 ?_
                refine L_ix (r := RP.int) rfl Try.underlying23 Try.sizeOf3 rfl h0_0 rfl hx14 ?_
                intro g38 o39 cs_g38 hrk_hat40 hat40
                obtain rfl : _ = [_] := hrk_hat40
                refine L_ld (v := .int .i64 x14) rfl Try.isAgg3 rfl (At.cell (AtH.at hat40 hst.sub) (j := 0) rfl) ?_
                refine L_add (m := n_8) (n := x14) rfl rfl rfl ?_
                refine L_add (m := i64 (n_8 + x14)) (n := 1) rfl rfl rfl ?_
                refine L_as (v := .int .i64 (i64 ((i64 (n_8 + x14)) + 1))) rfl rfl ?_
                refine L_nil ?_
                refine W_region ?_
                refine L_mv (v := .int .i64 i_9) rfl sf4 ?_
                refine L_add (m := i_9) (n := 1) rfl rfl rfl ?_
                refine L_as (v := .int .i64 (i64 (i_9 + 1))) rfl rfl ?_
                refine L_nil ?_
                obtain rfl := so hB10
                show ∃ m, m < _ ∧ I10 m _ _
                refine ⟨n10, Nat.lt_succ_self _, ?_⟩
                rw [hI10]
                exact ⟨i64 ((i64 (n_8 + x14)) + 1), i64 (i_9 + 1), hL10, sf1, rfl, rfl, hst⟩
          ·
            have hB10 := (ite_f hc13).symm.trans hB10
            refine W_exit ?_
            obtain rfl := so hB10
            obtain rfl := so hL10
            show R10 _ _
            rw [hR10]
            exact ⟨n_8, i_9, rfl, sf1, sf3, hst⟩
  ·
    clear hst
    intro f w_ hR
    rw [hR10] at hR
    obtain ⟨n_8, i_9, rfl, sf1, sf3, hst⟩ := hR
    clear hR10
    refine W_seq ?_
    refine W_seq ?_
    obtain ⟨R42, hR42⟩ : ∃ RR_ : Fr → World → Prop, RR_ = fun f w_ => f 1 = .pointer (some ⟨g3, 0, none⟩) ∧ f 58 = .bool ((((decide ((m.sizes.length : Int) < 1)) || (decide ((m.sizes.length : Int) > 5))) || (decide (n_8 > 12))) || (decide ((m.rules.length : Int) > 8))) ∧ Star H w_ ([box g3 26 #[v0_0, v0_1]]) := ⟨_, rfl⟩
    refine W_join R42 ?_ ?_
    ·
      refine W_region ?_
      refine L_fa (o' := 0) rfl fa_26_0 sf1 rfl ?_
      refine L_ld (v := v0_0) rfl Try.isAgg23 rfl (At.cell0 (Blk.at (Star.blkAt 0 hst rfl)) (j := 0) rfl) ?_
      refine L_len (v := v0_0) (n := List.length m.sizes) rfl Try.underlying23 rfl (slice_len h0_0) ?_
      refine L_lss (m := (m.sizes.length : Int)) (n := 1) rfl rfl rfl ?_
      refine L_mv (v := .bool (decide ((m.sizes.length : Int) < 1))) rfl rfl ?_
      refine L_split (d := 43) (b := decide ((m.sizes.length : Int) < 1)) rfl (fun hc43 => ?_) (fun hc43 => ?_)
      ·
        refine L_pass rfl ?_
        refine L_pass rfl ?_
        refine L_pass rfl ?_
        refine L_pass rfl ?_
        refine L_pick (v := .bool ((decide ((m.sizes.length : Int) < 1)) || (decide ((m.sizes.length : Int) > 5)))) rfl rfl (or_t hc43) ?_
        refine L_mv (v := .bool ((decide ((m.sizes.length : Int) < 1)) || (decide ((m.sizes.length : Int) > 5)))) rfl rfl ?_
        refine L_split (d := 49) (b := ((decide ((m.sizes.length : Int) < 1)) || (decide ((m.sizes.length : Int) > 5)))) rfl (fun hc44 => ?_) (fun hc44 => ?_)
        ·
          refine L_pass rfl ?_
          refine L_pass rfl ?_
          refine L_pick (v := .bool (((decide ((m.sizes.length : Int) < 1)) || (decide ((m.sizes.length : Int) > 5))) || (decide (n_8 > 12)))) rfl rfl (or_t hc44) ?_
          refine L_mv (v := .bool (((decide ((m.sizes.length : Int) < 1)) || (decide ((m.sizes.length : Int) > 5))) || (decide (n_8 > 12)))) rfl rfl ?_
          refine L_split (d := 53) (b := (((decide ((m.sizes.length : Int) < 1)) || (decide ((m.sizes.length : Int) > 5))) || (decide (n_8 > 12)))) rfl (fun hc45 => ?_) (fun hc45 => ?_)
          ·
            refine L_pass rfl ?_
            refine L_pass rfl ?_
            refine L_pass rfl ?_
            refine L_pass rfl ?_
            refine L_pick (v := .bool ((((decide ((m.sizes.length : Int) < 1)) || (decide ((m.sizes.length : Int) > 5))) || (decide (n_8 > 12))) || (decide ((m.rules.length : Int) > 8)))) rfl rfl (or_t hc45) ?_
            refine L_nil ?_
            show R42 _ _
            rw [hR42]
            exact ⟨sf1, rfl, hst⟩
          ·
            refine L_fa (o' := 1) rfl fa_26_1 sf1 rfl ?_
            refine L_ld (v := v0_1) rfl Try.isAgg24 rfl (At.cell0 (Blk.at (Star.blkAt 0 hst rfl)) (j := 1) rfl) ?_
            refine L_len (v := v0_1) (n := List.length m.rules) rfl Try.underlying24 rfl (slice_len h0_1) ?_
            refine L_gtr (m := (m.rules.length : Int)) (n := 8) rfl rfl rfl ?_
            refine L_pick (v := .bool ((((decide ((m.sizes.length : Int) < 1)) || (decide ((m.sizes.length : Int) > 5))) || (decide (n_8 > 12))) || (decide ((m.rules.length : Int) > 8)))) rfl rfl (or_f hc45 rfl) ?_
            refine L_nil ?_
            show R42 _ _
            rw [hR42]
            exact ⟨sf1, rfl, hst⟩
        ·
          refine L_mv (v := .int .i64 n_8) rfl sf3 ?_
          refine L_gtr (m := n_8) (n := 12) rfl rfl rfl ?_
          refine L_pick (v := .bool (((decide ((m.sizes.length : Int) < 1)) || (decide ((m.sizes.length : Int) > 5))) || (decide (n_8 > 12)))) rfl rfl (or_f hc44 rfl) ?_
          refine L_mv (v := .bool (((decide ((m.sizes.length : Int) < 1)) || (decide ((m.sizes.length : Int) > 5))) || (decide (n_8 > 12)))) rfl rfl ?_
          refine L_split (d := 53) (b := (((decide ((m.sizes.length : Int) < 1)) || (decide ((m.sizes.length : Int) > 5))) || (decide (n_8 > 12)))) rfl (fun hc46 => ?_) (fun hc46 => ?_)
          ·
            refine L_pass rfl ?_
            refine L_pass rfl ?_
            refine L_pass rfl ?_
            refine L_pass rfl ?_
            refine L_pick (v := .bool ((((decide ((m.sizes.length : Int) < 1)) || (decide ((m.sizes.length : Int) > 5))) || (decide (n_8 > 12))) || (decide ((m.rules.length : Int) > 8)))) rfl rfl (or_t hc46) ?_
            refine L_nil ?_
            show R42 _ _
            rw [hR42]
            exact ⟨sf1, rfl, hst⟩
          ·
            refine L_fa (o' := 1) rfl fa_26_1 sf1 rfl ?_
            refine L_ld (v := v0_1) rfl Try.isAgg24 rfl (At.cell0 (Blk.at (Star.blkAt 0 hst rfl)) (j := 1) rfl) ?_
            refine L_len (v := v0_1) (n := List.length m.rules) rfl Try.underlying24 rfl (slice_len h0_1) ?_
            refine L_gtr (m := (m.rules.length : Int)) (n := 8) rfl rfl rfl ?_
            refine L_pick (v := .bool ((((decide ((m.sizes.length : Int) < 1)) || (decide ((m.sizes.length : Int) > 5))) || (decide (n_8 > 12))) || (decide ((m.rules.length : Int) > 8)))) rfl rfl (or_f hc46 rfl) ?_
            refine L_nil ?_
            show R42 _ _
            rw [hR42]
            exact ⟨sf1, rfl, hst⟩
      ·
        refine L_fa (o' := 0) rfl fa_26_0 sf1 rfl ?_
        refine L_ld (v := v0_0) rfl Try.isAgg23 rfl (At.cell0 (Blk.at (Star.blkAt 0 hst rfl)) (j := 0) rfl) ?_
        refine L_len (v := v0_0) (n := List.length m.sizes) rfl Try.underlying23 rfl (slice_len h0_0) ?_
        refine L_gtr (m := (m.sizes.length : Int)) (n := 5) rfl rfl rfl ?_
        refine L_pick (v := .bool ((decide ((m.sizes.length : Int) < 1)) || (decide ((m.sizes.length : Int) > 5)))) rfl rfl (or_f hc43 rfl) ?_
        refine L_mv (v := .bool ((decide ((m.sizes.length : Int) < 1)) || (decide ((m.sizes.length : Int) > 5)))) rfl rfl ?_
        refine L_split (d := 49) (b := ((decide ((m.sizes.length : Int) < 1)) || (decide ((m.sizes.length : Int) > 5)))) rfl (fun hc47 => ?_) (fun hc47 => ?_)
        ·
          refine L_pass rfl ?_
          refine L_pass rfl ?_
          refine L_pick (v := .bool (((decide ((m.sizes.length : Int) < 1)) || (decide ((m.sizes.length : Int) > 5))) || (decide (n_8 > 12)))) rfl rfl (or_t hc47) ?_
          refine L_mv (v := .bool (((decide ((m.sizes.length : Int) < 1)) || (decide ((m.sizes.length : Int) > 5))) || (decide (n_8 > 12)))) rfl rfl ?_
          refine L_split (d := 53) (b := (((decide ((m.sizes.length : Int) < 1)) || (decide ((m.sizes.length : Int) > 5))) || (decide (n_8 > 12)))) rfl (fun hc48 => ?_) (fun hc48 => ?_)
          ·
            refine L_pass rfl ?_
            refine L_pass rfl ?_
            refine L_pass rfl ?_
            refine L_pass rfl ?_
            refine L_pick (v := .bool ((((decide ((m.sizes.length : Int) < 1)) || (decide ((m.sizes.length : Int) > 5))) || (decide (n_8 > 12))) || (decide ((m.rules.length : Int) > 8)))) rfl rfl (or_t hc48) ?_
            refine L_nil ?_
            show R42 _ _
            rw [hR42]
            exact ⟨sf1, rfl, hst⟩
          ·
            refine L_fa (o' := 1) rfl fa_26_1 sf1 rfl ?_
            refine L_ld (v := v0_1) rfl Try.isAgg24 rfl (At.cell0 (Blk.at (Star.blkAt 0 hst rfl)) (j := 1) rfl) ?_
            refine L_len (v := v0_1) (n := List.length m.rules) rfl Try.underlying24 rfl (slice_len h0_1) ?_
            refine L_gtr (m := (m.rules.length : Int)) (n := 8) rfl rfl rfl ?_
            refine L_pick (v := .bool ((((decide ((m.sizes.length : Int) < 1)) || (decide ((m.sizes.length : Int) > 5))) || (decide (n_8 > 12))) || (decide ((m.rules.length : Int) > 8)))) rfl rfl (or_f hc48 rfl) ?_
            refine L_nil ?_
            show R42 _ _
            rw [hR42]
            exact ⟨sf1, rfl, hst⟩
        ·
          refine L_mv (v := .int .i64 n_8) rfl sf3 ?_
          refine L_gtr (m := n_8) (n := 12) rfl rfl rfl ?_
          refine L_pick (v := .bool (((decide ((m.sizes.length : Int) < 1)) || (decide ((m.sizes.length : Int) > 5))) || (decide (n_8 > 12)))) rfl rfl (or_f hc47 rfl) ?_
          refine L_mv (v := .bool (((decide ((m.sizes.length : Int) < 1)) || (decide ((m.sizes.length : Int) > 5))) || (decide (n_8 > 12)))) rfl rfl ?_
          refine L_split (d := 53) (b := (((decide ((m.sizes.length : Int) < 1)) || (decide ((m.sizes.length : Int) > 5))) || (decide (n_8 > 12)))) rfl (fun hc49 => ?_) (fun hc49 => ?_)
          ·
            refine L_pass rfl ?_
            refine L_pass rfl ?_
            refine L_pass rfl ?_
            refine L_pass rfl ?_
            refine L_pick (v := .bool ((((decide ((m.sizes.length : Int) < 1)) || (decide ((m.sizes.length : Int) > 5))) || (decide (n_8 > 12))) || (decide ((m.rules.length : Int) > 8)))) rfl rfl (or_t hc49) ?_
            refine L_nil ?_
            show R42 _ _
            rw [hR42]
            exact ⟨sf1, rfl, hst⟩
          ·
            refine L_fa (o' := 1) rfl fa_26_1 sf1 rfl ?_
            refine L_ld (v := v0_1) rfl Try.isAgg24 rfl (At.cell0 (Blk.at (Star.blkAt 0 hst rfl)) (j := 1) rfl) ?_
            refine L_len (v := v0_1) (n := List.length m.rules) rfl Try.underlying24 rfl (slice_len h0_1) ?_
            refine L_gtr (m := (m.rules.length : Int)) (n := 8) rfl rfl rfl ?_
            refine L_pick (v := .bool ((((decide ((m.sizes.length : Int) < 1)) || (decide ((m.sizes.length : Int) > 5))) || (decide (n_8 > 12))) || (decide ((m.rules.length : Int) > 8)))) rfl rfl (or_f hc49 rfl) ?_
            refine L_nil ?_
            show R42 _ _
            rw [hR42]
            exact ⟨sf1, rfl, hst⟩
    ·
      intro f w_ hR
      rw [hR42] at hR
      obtain ⟨sf1, sf58, hst⟩ := hR
      clear hR42
      refine W_cond (b := ((((decide ((m.sizes.length : Int) < 1)) || (decide ((m.sizes.length : Int) > 5))) || (decide (n_8 > 12))) || (decide ((m.rules.length : Int) > 8)))) sf58 (fun hc50 => ?_) (fun hc50 => ?_)
      ·
        have hF := (ite_t hc50).symm.trans hF
        refine W_seq ?_
        refine W_region ?_
        refine L_as (v := .bool false) rfl rfl ?_
        refine L_nil ?_
        refine W_ret ?_
        refine retG1 (v1 := .bool false) Try.results52 rfl ?_
        obtain rfl := so hF
        exact ⟨rfl, (Star.keepN 0 hst)⟩
      ·
        have hF := (ite_f hc50).symm.trans hF
        refine W_skip ?_
        refine W_seq ?_
        refine W_seq ?_
        refine W_region ?_
        refine L_as (v := .int .i64 0) rfl rfl ?_
        refine L_nil ?_
        have hlen54 : List.length m.rules ≤ 9223372036854775807 := len_le (slice_len h0_1)
        obtain ⟨j54, hL54, hF⟩ := bind_some hF
        obtain ⟨R54, hR54⟩ : ∃ RR_ : Fr → World → Prop, RR_ = fun f w_ => ∃ H52 : FH, j54 = .nx () ∧ Le H H52 ∧ Star H52 w_ ([]) := ⟨_, rfl⟩
        refine W_join R54 ?_ ?_
        ·
          refine W_block ?_
          obtain ⟨I54, hI54⟩ : ∃ I : Nat → Fr → World → Prop, I = fun n f w_ => ∃ i_51 : Nat, ∃ suf54 : List Rule, ∃ H52 : FH, n = suf54.length ∧ List.drop i_51 m.rules = suf54 ∧ i_51 + suf54.length = m.rules.length ∧ rangeL (s_ModelValid_b2 m) suf54 i_51 () = some j54 ∧ Le H H52 ∧ f 1 = .pointer (some ⟨g3, 0, none⟩) ∧ f 5 = .int .i64 (i_51 : Int) ∧ Star H52 w_ ([box g3 26 #[v0_0, v0_1]]) := ⟨_, rfl⟩
          refine W_loop I54 (n := m.rules.length) ?_ ?_
          · rw [hI54]; exact ⟨0, m.rules, H, rfl, rfl, Nat.zero_add _, hL54, (Le.refl _), sf1, rfl, hst⟩
          ·
            clear hst
            intro n54 f w_ hI
            rw [hI54] at hI
            obtain ⟨i_51, suf54, H52, rfl, hd54, hl54, hL54, hle53, sf1, sf5, hst⟩ := hI
            refine W_seq ?_
            refine W_seq ?_
            refine W_region ?_
            refine L_mv (v := .int .i64 (i_51 : Int)) rfl sf5 ?_
            refine L_fa (o' := 1) rfl fa_26_1 sf1 rfl ?_
            refine L_ld (v := v0_1) rfl Try.isAgg24 rfl (At.cell0 (Blk.at (Star.blkAt 0 hst rfl)) (j := 1) rfl) ?_
            refine L_len (v := v0_1) (n := List.length m.rules) rfl Try.underlying24 rfl (slice_len (RP.mono _ h0_1 hle53)) ?_
            refine L_lss (m := (i_51 : Int)) (n := (m.rules.length : Int)) rfl rfl rfl ?_
            refine L_nil ?_
            refine W_cond (b := decide ((i_51 : Int) < (m.rules.length : Int))) rfl (fun hc55 => ?_) (fun hc55 => ?_)
            ·
              have hlt54 := of_decide_eq_true hc55
              cases suf54 with
              | nil => exact absurd hlt54 (by simp at hl54; omega)
              | cons x_54 rest54 =>
                obtain ⟨o54, hB54, hL54⟩ := range_cons hL54
                rw [s_ModelValid_b2] at hB54
                have hix54 := drop_idx hd54
                refine W_skip ?_
                refine W_seq ?_
                refine W_block ?_
                refine W_seq ?_
                obtain ⟨x65, hx65, hB54⟩ := bind_some hB54
                refine W_drawS 6 [isV (.agg #[v0_0, v0_1]), isV (.pointer (some ⟨g3, 1, none⟩)), isV (v0_1), isV (.int .i64 (i_51 : Int)), isEl (rRule 3 23) x_54 0, exD (isData (RP.slice 3 RP.int) x_54.vars) fun u_1 => exD (isData (RP.slice 3 RP.int) x_54.coefs) fun u_2 => exD (isData (RP.slice 23 (RP.slice 3 RP.int)) x_54.rows) fun u_4 => isV (.agg #[.int .i64 x_54.kind, u_1, u_2, .int .i64 x_54.bound, u_4])] [box g3 26 #[v0_0, v0_1]] [] ([]) [([], []), ([], []), ([], []), ([], []), ([], []), ([], [])] (S := []) Try_mix (by kernel_rfl) rfl (by kernel_rfl) (amF_cons (mono_V _) (amF_cons (mono_V _) (amF_cons (mono_V _) (amF_cons (mono_V _) (amF_cons (mono_el _ _ _) (amF_cons (mono_exD (mono_data _ _) fun _ => mono_exD (mono_data _ _) fun _ => mono_exD (mono_data _ _) fun _ => mono_V _) amF_nil)))))) hst ?_ (fun f w_ H67 hS67 hE67 hT67 hst => ?_)
                ·
                  refine opsS_cons ?_ ?_
                  ·
                    intro f w_ H67 X67 hS67 hE67 hP67 hst
                    refine L_lda (cs := [v0_0, v0_1]) rfl Try.isAgg26 Try.sizeOf26 ((hS67 1 rfl).trans sf1) (At.sub0 (Blk.at (Star.blkAt 0 hst rfl)) 0 2) rfl ?_
                    exact L_nil ⟨rfl, _, _, _, rfl, rfl, Le.refl _, rfl, hst⟩
                  refine opsS_cons ?_ ?_
                  ·
                    intro f w_ H67 X67 hS67 hE67 hP67 hst
                    refine L_fa (o' := 1) rfl fa_26_1 ((hS67 1 rfl).trans sf1) rfl ?_
                    exact L_nil ⟨rfl, _, _, _, rfl, rfl, Le.refl _, rfl, hst⟩
                  refine opsS_cons ?_ ?_
                  ·
                    intro f w_ H67 X67 hS67 hE67 hP67 hst
                    refine L_ld (v := v0_1) rfl Try.isAgg24 (hP67 1 67 rfl rfl) (At.cell0 (Blk.at (Star.blkAt 0 hst rfl)) (j := 1) rfl) ?_
                    exact L_nil ⟨rfl, _, _, _, rfl, rfl, Le.refl _, rfl, hst⟩
                  refine opsS_cons ?_ ?_
                  ·
                    intro f w_ H67 X67 hS67 hE67 hP67 hst
                    refine L_mv (v := .int .i64 (i_51 : Int)) rfl ((hS67 5 rfl).trans sf5) ?_
                    exact L_nil ⟨rfl, _, _, _, rfl, rfl, Le.refl _, rfl, hst⟩
                  refine opsS_cons ?_ ?_
                  ·
                    intro f w_ H67 X67 hS67 hE67 hP67 hst
                    refine L_ix (r := (rRule 3 23)) rfl Try.underlying24 Try.sizeOf36 (hP67 2 68 rfl rfl) (RP.mono _ h0_1 (Le.trans hle53 hE67)) (hP67 3 69 rfl rfl) hix54 ?_
                    intro g72 o73 cs_g72 hrk_hat74 hat74
                    obtain ⟨u75_0, u75_1, u75_2, rfl, hu75_0, hu75_1, hu75_2⟩ := rRule_iff.1 hrk_hat74
                    exact L_nil ⟨rfl, _, _, _, rfl, rfl, Le.refl _, ⟨_, _, _, rfl, hrk_hat74, hat74⟩, hst⟩
                  refine opsS_cons ?_ ?_
                  ·
                    intro f w_ H67 X67 hS67 hE67 hP67 hst
                    obtain ⟨g76, o76, cs76, hv76, hrk_hat76, hat76⟩ := (hP67 4 70 rfl rfl)
                    obtain ⟨u77_0, u77_1, u77_2, rfl, hu77_0, hu77_1, hu77_2⟩ := rRule_iff.1 hrk_hat76
                    refine L_lda (cs := [.int .i64 x_54.kind, u77_0, u77_1, .int .i64 x_54.bound, u77_2]) rfl Try.isAgg36 Try.sizeOf36 hv76 (At.sub (AtH.at hat76 hst.sub) 0 5) rfl ?_
                    exact L_nil ⟨rfl, _, _, _, rfl, rfl, Le.refl _, ⟨_, hu77_0, _, hu77_1, _, hu77_2, rfl⟩, hst⟩
                  exact opsS_nil
                ·
                  obtain ⟨u78_1, hu78_1, u78_2, hu78_2, u78_4, hu78_4, hv78⟩ := (hT67 5 71 rfl rfl)
                  obtain ⟨Hb79, hle80, hsb81, hfz82, hbk83⟩ := Star.borrow hst
                  refine L_call (args := #[.agg #[v0_0, v0_1], .agg #[.int .i64 x_54.kind, u78_1, u78_2, .int .i64 x_54.bound, u78_4]]) rfl Try.call82 (ops2 (hT67 0 66 rfl rfl) hv78) (s_l6Rule_c (m := m) (r_ := x_54) hsb81 (RP.mono _ h0_0 (Le.trans (Le.trans hle53 hE67) hle80)) (RP.mono _ h0_1 (Le.trans (Le.trans hle53 hE67) hle80)) (RP.mono _ hu78_1 hle80) (RP.mono _ hu78_2 hle80) (RP.mono _ hu78_4 hle80) hx65) ?_
                  rintro _ w84 ⟨rfl, hst⟩
                  have hst := hbk83 hst closedL_nil
                  refine L_not_ (b := x65) rfl rfl ?_
                  refine L_nil ?_
                  refine W_cond (b := (!x65)) rfl (fun hc85 => ?_) (fun hc85 => ?_)
                  ·
                    have hB54 := (ite_t hc85).symm.trans hB54
                    refine W_seq ?_
                    refine W_region ?_
                    refine L_as (v := .bool false) rfl rfl ?_
                    refine L_nil ?_
                    refine W_ret ?_
                    refine retG1 (v1 := .bool false) Try.results52 rfl ?_
                    obtain rfl := so hB54
                    obtain rfl := so hL54
                    obtain rfl := so hF
                    exact ⟨rfl, (Star.down (Star.keepN 0 hst) (Le.trans hle53 hE67) closedL_nil)⟩
                  ·
                    have hB54 := (ite_f hc85).symm.trans hB54
                    refine W_skip ?_
                    refine W_region ?_
                    refine L_mv (v := .int .i64 (i_51 : Int)) rfl ((hS67 5 rfl).trans sf5) ?_
                    refine L_add (m := (i_51 : Int)) (n := 1) rfl rfl rfl ?_
                    refine L_as (v := .int .i64 (i64 ((i_51 : Int) + 1))) rfl rfl ?_
                    refine L_nil ?_
                    obtain rfl := so hB54
                    show ∃ m, m < _ ∧ I54 m _ _
                    refine ⟨rest54.length, by simp, ?_⟩
                    rw [hI54]
                    exact ⟨i_51 + 1, rest54, H67, rfl, drop_next hd54, by simp at hl54; omega, hL54, (Le.trans hle53 hE67), ((hS67 1 rfl).trans sf1), (Eq.trans rfl (congrArg (Value.int .i64) (i64_succ (n := m.rules.length) (by simp at hl54; omega) hlen54))), hst⟩
            ·
              cases suf54 with
              | cons _ _ => exact absurd (of_decide_eq_false hc55) (by simp at hl54; omega)
              | nil =>
                obtain rfl := range_nil hL54
                refine W_exit ?_
                show R54 _ _
                rw [hR54]
                exact ⟨H52, rfl, hle53, (Star.keepN 0 hst)⟩
        ·
          clear hst
          intro f w_ hR
          rw [hR54] at hR
          obtain ⟨H52, rfl, hle53, hst⟩ := hR
          clear hR54
          refine W_seq ?_
          refine W_region ?_
          refine L_as (v := .bool true) rfl rfl ?_
          refine L_nil ?_
          refine W_ret ?_
          refine retG1 (v1 := .bool true) Try.results52 rfl ?_
          obtain rfl := so hF
          exact ⟨rfl, (Star.down hst hle53 closedL_nil)⟩

theorem slices_Equal_int_c {s1 : List Int} {s2 : List Int} {v0 : Value} {v1 : Value} {H : FH} {w : World} (hst : Star H w []) (h0 : (RP.slice 3 RP.int).rel H [v0] s1) (h1 : (RP.slice 3 RP.int).rel H [v1] s2) {r : Bool} (hF : slices_Equal_int s1 s2 = some r) :
    C Try.prog 102 #[v0, v1] w fun v w' => v = .bool r ∧ Star H w' [] := by
  unfold slices_Equal_int at hF
  refine C_enter Try.func102 rfl Try.ntmps102 rfl ?_
  refine W_seq ?_
  refine W_region ?_
  refine L_as (v := .bool false) rfl rfl ?_
  refine L_nil ?_
  refine W_seq ?_
  refine W_seq ?_
  refine W_region ?_
  refine L_mv (v := v0) rfl rfl ?_
  refine L_len (v := v0) (n := List.length s1) rfl Try.underlying23 rfl (slice_len h0) ?_
  refine L_mv (v := v1) rfl rfl ?_
  refine L_len (v := v1) (n := List.length s2) rfl Try.underlying23 rfl (slice_len h1) ?_
  refine L_neq (m := (s1.length : Int)) (n := (s2.length : Int)) rfl rfl rfl ?_
  refine L_nil ?_
  refine W_cond (b := ((s1.length : Int) != (s2.length : Int))) rfl (fun hc1 => ?_) (fun hc1 => ?_)
  ·
    have hF := (ite_t hc1).symm.trans hF
    refine W_seq ?_
    refine W_region ?_
    refine L_as (v := .bool false) rfl rfl ?_
    refine L_nil ?_
    refine W_ret ?_
    refine retG1 (v1 := .bool false) Try.results102 rfl ?_
    obtain rfl := so hF
    exact ⟨rfl, hst⟩
  ·
    have hF := (ite_f hc1).symm.trans hF
    refine W_skip ?_
    refine W_seq ?_
    refine W_seq ?_
    refine W_region ?_
    refine L_mv (v := v0) rfl rfl ?_
    refine L_len (v := v0) (n := List.length s1) rfl Try.underlying23 rfl (slice_len h0) ?_
    refine L_mv (v := .int .i64 0) rfl rfl ?_
    refine L_nil ?_
    have hlen5 : List.length s1 ≤ 9223372036854775807 := len_le (slice_len h0)
    obtain ⟨j5, hL5, hF⟩ := bind_some hF
    obtain ⟨R5, hR5⟩ : ∃ RR_ : Fr → World → Prop, RR_ = fun f w_ => ∃ H3 : FH, j5 = .nx () ∧ Le H H3 ∧ Star H3 w_ ([]) := ⟨_, rfl⟩
    refine W_join R5 ?_ ?_
    ·
      refine W_block ?_
      obtain ⟨I5, hI5⟩ : ∃ I : Nat → Fr → World → Prop, I = fun n f w_ => ∃ i_2 : Nat, ∃ suf5 : List Int, ∃ H3 : FH, n = suf5.length ∧ List.drop i_2 s1 = suf5 ∧ i_2 + suf5.length = s1.length ∧ rangeL (slices_Equal_int_b1 s2) suf5 i_2 () = some j5 ∧ Le H H3 ∧ f 0 = v0 ∧ f 1 = v1 ∧ f 12 = .int .i64 (s1.length : Int) ∧ f 13 = .int .i64 (i_2 : Int) ∧ Star H3 w_ ([]) := ⟨_, rfl⟩
      refine W_loop I5 (n := s1.length) ?_ ?_
      · rw [hI5]; exact ⟨0, s1, H, rfl, rfl, Nat.zero_add _, hL5, (Le.refl _), rfl, rfl, rfl, rfl, hst⟩
      ·
        clear hst
        intro n5 f w_ hI
        rw [hI5] at hI
        obtain ⟨i_2, suf5, H3, rfl, hd5, hl5, hL5, hle4, sf0, sf1, sf12, sf13, hst⟩ := hI
        refine W_seq ?_
        refine W_region ?_
        refine L_lss (m := (i_2 : Int)) (n := (s1.length : Int)) rfl sf13 sf12 ?_
        refine L_nil ?_
        refine W_seq ?_
        refine W_cond (b := decide ((i_2 : Int) < (s1.length : Int))) rfl (fun hc6 => ?_) (fun hc6 => ?_)
        ·
          have hlt5 := of_decide_eq_true hc6
          cases suf5 with
          | nil => exact absurd hlt5 (by simp at hl5; omega)
          | cons x_5 rest5 =>
            obtain ⟨o5, hB5, hL5⟩ := range_cons hL5
            rw [slices_Equal_int_b1] at hB5
            have hix5 := drop_idx hd5
            refine W_skip ?_
            refine W_seq ?_
            refine W_block ?_
            refine W_seq ?_
            refine W_region ?_
            refine L_mv (v := .int .i64 (i_2 : Int)) rfl sf13 ?_
            refine L_as (v := .int .i64 (i_2 : Int)) rfl rfl ?_
            refine L_nil ?_
            refine W_seq ?_
            obtain ⟨x11, hx11, hB5⟩ := bind_some hB5
            refine W_drawS 8 [isV (v0), isV (.int .i64 (i_2 : Int)), isEl RP.int x_5 0, isV (.int .i64 x_5), isV (v1), isV (.int .i64 (i_2 : Int)), isEl RP.int x11 0, isV (.int .i64 x11)] [] [] ([]) [([], []), ([], []), ([], []), ([], []), ([], []), ([], []), ([], []), ([], [])] (S := []) Try_mix (by kernel_rfl) rfl (by kernel_rfl) (amF_cons (mono_V _) (amF_cons (mono_V _) (amF_cons (mono_el _ _ _) (amF_cons (mono_V _) (amF_cons (mono_V _) (amF_cons (mono_V _) (amF_cons (mono_el _ _ _) (amF_cons (mono_V _) amF_nil)))))))) hst ?_ (fun f w_ H16 hS16 hE16 hT16 hst => ?_)
            ·
              refine opsS_cons ?_ ?_
              ·
                intro f w_ H16 X16 hS16 hE16 hP16 hst
                refine L_mv (v := v0) rfl ((hS16 0 rfl).trans sf0) ?_
                exact L_nil ⟨rfl, _, _, _, rfl, rfl, Le.refl _, rfl, hst⟩
              refine opsS_cons ?_ ?_
              ·
                intro f w_ H16 X16 hS16 hE16 hP16 hst
                refine L_mv (v := .int .i64 (i_2 : Int)) rfl ((hS16 5 rfl).trans rfl) ?_
                exact L_nil ⟨rfl, _, _, _, rfl, rfl, Le.refl _, rfl, hst⟩
              refine opsS_cons ?_ ?_
              ·
                intro f w_ H16 X16 hS16 hE16 hP16 hst
                refine L_ix (r := RP.int) rfl Try.underlying23 Try.sizeOf3 (hP16 0 16 rfl rfl) (RP.mono _ h0 (Le.trans hle4 hE16)) (hP16 1 17 rfl rfl) hix5 ?_
                intro g25 o26 cs_g25 hrk_hat27 hat27
                obtain rfl : _ = [_] := hrk_hat27
                exact L_nil ⟨rfl, _, _, _, rfl, rfl, Le.refl _, ⟨_, _, _, rfl, rfl, hat27⟩, hst⟩
              refine opsS_cons ?_ ?_
              ·
                intro f w_ H16 X16 hS16 hE16 hP16 hst
                obtain ⟨g29, o29, cs29, hv29, hrk_hat29, hat29⟩ := (hP16 2 18 rfl rfl)
                obtain rfl : _ = [_] := hrk_hat29
                refine L_ld (v := .int .i64 x_5) rfl Try.isAgg3 hv29 (At.cell (AtH.at hat29 hst.sub) (j := 0) rfl) ?_
                exact L_nil ⟨rfl, _, _, _, rfl, rfl, Le.refl _, rfl, hst⟩
              refine opsS_cons ?_ ?_
              ·
                intro f w_ H16 X16 hS16 hE16 hP16 hst
                refine L_mv (v := v1) rfl ((hS16 1 rfl).trans sf1) ?_
                exact L_nil ⟨rfl, _, _, _, rfl, rfl, Le.refl _, rfl, hst⟩
              refine opsS_cons ?_ ?_
              ·
                intro f w_ H16 X16 hS16 hE16 hP16 hst
                refine L_mv (v := .int .i64 (i_2 : Int)) rfl ((hS16 5 rfl).trans rfl) ?_
                exact L_nil ⟨rfl, _, _, _, rfl, rfl, Le.refl _, rfl, hst⟩
              refine opsS_cons ?_ ?_
              ·
                intro f w_ H16 X16 hS16 hE16 hP16 hst
                refine L_ix (r := RP.int) rfl Try.underlying23 Try.sizeOf3 (hP16 4 20 rfl rfl) (RP.mono _ h1 (Le.trans hle4 hE16)) (hP16 5 21 rfl rfl) hx11 ?_
                intro g31 o32 cs_g31 hrk_hat33 hat33
                obtain rfl : _ = [_] := hrk_hat33
                exact L_nil ⟨rfl, _, _, _, rfl, rfl, Le.refl _, ⟨_, _, _, rfl, rfl, hat33⟩, hst⟩
              refine opsS_cons ?_ ?_
              ·
                intro f w_ H16 X16 hS16 hE16 hP16 hst
                obtain ⟨g35, o35, cs35, hv35, hrk_hat35, hat35⟩ := (hP16 6 22 rfl rfl)
                obtain rfl : _ = [_] := hrk_hat35
                refine L_ld (v := .int .i64 x11) rfl Try.isAgg3 hv35 (At.cell (AtH.at hat35 hst.sub) (j := 0) rfl) ?_
                exact L_nil ⟨rfl, _, _, _, rfl, rfl, Le.refl _, rfl, hst⟩
              exact opsS_nil
            ·
              refine L_neq (m := x_5) (n := x11) rfl (hT16 3 19 rfl rfl) (hT16 7 23 rfl rfl) ?_
              refine L_nil ?_
              refine W_cond (b := (x_5 != x11)) rfl (fun hc37 => ?_) (fun hc37 => ?_)
              ·
                have hB5 := (ite_t hc37).symm.trans hB5
                refine W_seq ?_
                refine W_region ?_
                refine L_as (v := .bool false) rfl rfl ?_
                refine L_nil ?_
                refine W_ret ?_
                refine retG1 (v1 := .bool false) Try.results102 rfl ?_
                obtain rfl := so hB5
                obtain rfl := so hL5
                obtain rfl := so hF
                exact ⟨rfl, (Star.down hst (Le.trans hle4 hE16) closedL_nil)⟩
              ·
                have hB5 := (ite_f hc37).symm.trans hB5
                refine W_skip ?_
                refine W_region ?_
                refine L_add (m := (i_2 : Int)) (n := 1) rfl ((hS16 13 rfl).trans sf13) rfl ?_
                refine L_mv (v := .int .i64 (i64 ((i_2 : Int) + 1))) rfl rfl ?_
                refine L_nil ?_
                obtain rfl := so hB5
                show ∃ m, m < _ ∧ I5 m _ _
                refine ⟨rest5.length, by simp, ?_⟩
                rw [hI5]
                exact ⟨i_2 + 1, rest5, H16, rfl, drop_next hd5, by simp at hl5; omega, hL5, (Le.trans hle4 hE16), ((hS16 0 rfl).trans sf0), ((hS16 1 rfl).trans sf1), ((hS16 12 rfl).trans sf12), (Eq.trans rfl (congrArg (Value.int .i64) (i64_succ (n := s1.length) (by simp at hl5; omega) hlen5))), hst⟩
        ·
          cases suf5 with
          | cons _ _ => exact absurd (of_decide_eq_false hc6) (by simp at hl5; omega)
          | nil =>
            obtain rfl := range_nil hL5
            refine W_exit ?_
            show R5 _ _
            rw [hR5]
            exact ⟨H3, rfl, hle4, hst⟩
    ·
      clear hst
      intro f w_ hR
      rw [hR5] at hR
      obtain ⟨H3, rfl, hle4, hst⟩ := hR
      clear hR5
      refine W_seq ?_
      refine W_region ?_
      refine L_as (v := .bool true) rfl rfl ?_
      refine L_nil ?_
      refine W_ret ?_
      refine retG1 (v1 := .bool true) Try.results102 rfl ?_
      obtain rfl := so hF
      exact ⟨rfl, (Star.down hst hle4 closedL_nil)⟩

theorem i_Rule_holds_1_c {c1 : List Int} {row : List Int} {v0 : Value} {g_c1 : Nat} {v1_0 : Value} {H : FH} {w : World} (hst : Star H w []) (h0 : (RP.slice 3 RP.int).rel H [v0] row) (hat_g_c1 : AtH H g_c1 0 [v1_0]) (h1_0 : (RP.slice 3 RP.int).rel H [v1_0] c1) {r : Bool} (hF : i_Rule_holds_1 c1 row = some r) :
    C Try.prog 101 #[v0, .pointer (some ⟨g_c1, 0, none⟩)] w fun v w' => v = .bool r ∧ Star H w' [] := by
  unfold i_Rule_holds_1 at hF
  refine C_enter Try.func101 rfl Try.ntmps101 rfl ?_
  refine W_seq ?_
  refine W_region ?_
  refine L_as (v := .bool false) rfl rfl ?_
  refine L_nil ?_
  refine W_seq ?_
  obtain ⟨x6, hx6, hF⟩ := bind_some hF
  refine W_region ?_
  refine L_mv (v := v0) rfl rfl ?_
  refine L_ld (v := v1_0) rfl Try.isAgg23 rfl (At.cell0 (AtH.at hat_g_c1 hst.sub) (j := 0) rfl) ?_
  obtain ⟨Hb8, hle9, hsb10, hfz11, hbk12⟩ := Star.borrow hst
  refine L_call (args := #[v0, v1_0]) rfl Try.call102 (ops2 rfl rfl) (slices_Equal_int_c (s1 := row) (s2 := c1) hsb10 (RP.mono _ h0 hle9) (RP.mono _ h1_0 hle9) hx6) ?_
  rintro _ w13 ⟨rfl, hst⟩
  have hst := hbk12 hst closedL_nil
  refine L_as (v := .bool x6) rfl rfl ?_
  refine L_nil ?_
  refine W_ret ?_
  refine retG1 (v1 := .bool x6) Try.results101 rfl ?_
  obtain rfl := so hF
  exact ⟨rfl, hst⟩

theorem i_Rule_holds_c {r_ : Rule} {vals : List Int} {v0_1 : Value} {v0_2 : Value} {v0_4 : Value} {v1 : Value} {H : FH} {w : World} (hst : Star H w []) (h0_1 : (RP.slice 3 RP.int).rel H [v0_1] r_.vars) (h0_2 : (RP.slice 3 RP.int).rel H [v0_2] r_.coefs) (h0_4 : (RP.slice 23 (RP.slice 3 RP.int)).rel H [v0_4] r_.rows) (h1 : (RP.slice 3 RP.int).rel H [v1] vals) {r : Bool} (hF : i_Rule_holds r_ vals = some r) :
    C Try.prog 83 #[.agg #[.int .i64 r_.kind, v0_1, v0_2, .int .i64 r_.bound, v0_4], v1] w fun v w' => v = .bool r ∧ Star H w' [] := by
  unfold i_Rule_holds at hF
  refine C_enter Try.func83 rfl Try.ntmps83 rfl ?_
  refine W_seq ?_
  refine W_region ?_
  refine L_box (v := .agg #[.int .i64 r_.kind, v0_1, v0_2, .int .i64 r_.bound, v0_4]) (cs := #[.int .i64 r_.kind, v0_1, v0_2, .int .i64 r_.bound, v0_4]) rfl rfl rfl hst ?_
  intro g5 w6 hst
  refine L_box (v := v1) (cs := #[v1]) rfl rfl (cells_one (one_len (slice_len h1))) hst ?_
  intro g7 w8 hst
  refine L_as (v := .bool false) rfl rfl ?_
  refine L_nil ?_
  refine W_seq ?_
  refine W_seq ?_
  refine W_region ?_
  refine L_fa (o' := 0) rfl fa_36_0 rfl rfl ?_
  refine L_ld (v := .int .i64 r_.kind) rfl Try.isAgg3 rfl (At.cell0 (Blk.at (Star.blkAt 1 hst rfl)) (j := 0) rfl) ?_
  refine L_nil ?_
  refine W_block ?_
  refine W_seq ?_
  refine W_region ?_
  refine L_eql (m := r_.kind) (n := 1) rfl rfl rfl ?_
  refine L_as (v := .bool (r_.kind == 1)) rfl rfl ?_
  refine L_nil ?_
  refine W_cond (b := (r_.kind == 1)) rfl (fun hc9 => ?_) (fun hc9 => ?_)
  ·
    have hF := (ite_t hc9).symm.trans hF
    refine W_seq ?_
    refine W_region ?_
    refine L_as (v := .int .i64 0) rfl rfl ?_
    refine L_nil ?_
    refine W_seq ?_
    refine W_seq ?_
    refine W_region ?_
    refine L_ld (v := v1) rfl Try.isAgg23 rfl (At.cell0 (Blk.at (Star.blkAt 0 hst rfl)) (j := 0) rfl) ?_
    refine L_len (v := v1) (n := List.length vals) rfl Try.underlying23 rfl (slice_len h1) ?_
    refine L_mv (v := .int .i64 0) rfl rfl ?_
    refine L_nil ?_
    have hlen12 : List.length vals ≤ 9223372036854775807 := len_le (slice_len h1)
    obtain ⟨j12, hL12, hF⟩ := bind_some hF
    obtain ⟨R12, hR12⟩ : ∃ RR_ : Fr → World → Prop, RR_ = fun f w_ => ∃ sum_11 : Int, j12 = .nx sum_11 ∧ f 2 = .pointer (some ⟨g5, 0, none⟩) ∧ f 5 = .int .i64 sum_11 ∧ Star H w_ ([box g5 36 #[.int .i64 r_.kind, v0_1, v0_2, .int .i64 r_.bound, v0_4]]) := ⟨_, rfl⟩
    refine W_join R12 ?_ ?_
    ·
      refine W_block ?_
      obtain ⟨I12, hI12⟩ : ∃ I : Nat → Fr → World → Prop, I = fun n f w_ => ∃ i_10 : Nat, ∃ suf12 : List Int, ∃ sum_11 : Int, n = suf12.length ∧ List.drop i_10 vals = suf12 ∧ i_10 + suf12.length = vals.length ∧ rangeL (i_Rule_holds_b1 r_) suf12 i_10 sum_11 = some j12 ∧ f 2 = .pointer (some ⟨g5, 0, none⟩) ∧ f 5 = .int .i64 sum_11 ∧ f 14 = v1 ∧ f 15 = .int .i64 (vals.length : Int) ∧ f 16 = .int .i64 (i_10 : Int) ∧ Star H w_ ([box g5 36 #[.int .i64 r_.kind, v0_1, v0_2, .int .i64 r_.bound, v0_4]]) := ⟨_, rfl⟩
      have hst := Star.get 1 hst rfl
      refine W_loop I12 (n := vals.length) ?_ ?_
      · rw [hI12]; exact ⟨0, vals, 0, rfl, rfl, Nat.zero_add _, hL12, rfl, rfl, rfl, rfl, rfl, (Star.keepN 1 hst)⟩
      ·
        clear hst
        intro n12 f w_ hI
        rw [hI12] at hI
        obtain ⟨i_10, suf12, sum_11, rfl, hd12, hl12, hL12, sf2, sf5, sf14, sf15, sf16, hst⟩ := hI
        refine W_seq ?_
        refine W_region ?_
        refine L_lss (m := (i_10 : Int)) (n := (vals.length : Int)) rfl sf16 sf15 ?_
        refine L_nil ?_
        refine W_seq ?_
        refine W_cond (b := decide ((i_10 : Int) < (vals.length : Int))) rfl (fun hc13 => ?_) (fun hc13 => ?_)
        ·
          have hlt12 := of_decide_eq_true hc13
          cases suf12 with
          | nil => exact absurd hlt12 (by simp at hl12; omega)
          | cons x_12 rest12 =>
            obtain ⟨o12, hB12, hL12⟩ := range_cons hL12
            rw [i_Rule_holds_b1] at hB12
            have hix12 := drop_idx hd12
            refine W_skip ?_
            refine W_seq ?_
            refine W_block ?_
            refine W_seq ?_
            refine W_region ?_
            refine L_mv (v := .int .i64 (i_10 : Int)) rfl sf16 ?_
            refine L_ix (r := RP.int) rfl Try.underlying23 Try.sizeOf3 sf14 h1 sf16 hix12 ?_
            intro g18 o19 cs_g18 hrk_hat20 hat20
            obtain rfl : _ = [_] := hrk_hat20
            refine L_ld (v := .int .i64 x_12) rfl Try.isAgg3 rfl (At.cell (AtH.at hat20 hst.sub) (j := 0) rfl) ?_
            refine L_as (v := .int .i64 (i_10 : Int)) rfl rfl ?_
            refine L_as (v := .int .i64 x_12) rfl rfl ?_
            refine L_nil ?_
            obtain ⟨x22, hx22, hB12⟩ := bind_some hB12
            refine W_region ?_
            refine L_mv (v := .int .i64 sum_11) rfl sf5 ?_
            refine L_fa (o' := 2) rfl fa_36_2 sf2 rfl ?_
            refine L_ld (v := v0_2) rfl Try.isAgg23 rfl (At.cell0 (Blk.at (Star.blkAt 0 hst rfl)) (j := 2) rfl) ?_
            refine L_mv (v := .int .i64 (i_10 : Int)) rfl rfl ?_
            refine L_ix (r := RP.int) rfl Try.underlying23 Try.sizeOf3 rfl h0_2 rfl hx22 ?_
            intro g27 o28 cs_g27 hrk_hat29 hat29
            obtain rfl : _ = [_] := hrk_hat29
            refine L_ld (v := .int .i64 x22) rfl Try.isAgg3 rfl (At.cell (AtH.at hat29 hst.sub) (j := 0) rfl) ?_
            refine L_mv (v := .int .i64 x_12) rfl rfl ?_
            refine L_mul (m := x22) (n := x_12) rfl rfl rfl ?_
            refine L_add (m := sum_11) (n := i64 (x22 * x_12)) rfl rfl rfl ?_
            refine L_as (v := .int .i64 (i64 (sum_11 + (i64 (x22 * x_12))))) rfl rfl ?_
            refine L_nil ?_
            refine W_region ?_
            refine L_add (m := (i_10 : Int)) (n := 1) rfl sf16 rfl ?_
            refine L_mv (v := .int .i64 (i64 ((i_10 : Int) + 1))) rfl rfl ?_
            refine L_nil ?_
            obtain rfl := so hB12
            show ∃ m, m < _ ∧ I12 m _ _
            refine ⟨rest12.length, by simp, ?_⟩
            rw [hI12]
            exact ⟨i_10 + 1, rest12, i64 (sum_11 + (i64 (x22 * x_12))), rfl, drop_next hd12, by simp at hl12; omega, hL12, sf2, rfl, sf14, sf15, (Eq.trans rfl (congrArg (Value.int .i64) (i64_succ (n := vals.length) (by simp at hl12; omega) hlen12))), hst⟩
        ·
          cases suf12 with
          | cons _ _ => exact absurd (of_decide_eq_false hc13) (by simp at hl12; omega)
          | nil =>
            obtain rfl := range_nil hL12
            refine W_exit ?_
            show R12 _ _
            rw [hR12]
            exact ⟨sum_11, rfl, sf2, sf5, hst⟩
    ·
      clear hst
      intro f w_ hR
      rw [hR12] at hR
      obtain ⟨sum_11, rfl, sf2, sf5, hst⟩ := hR
      clear hR12
      refine W_seq ?_
      refine W_region ?_
      refine L_mv (v := .int .i64 sum_11) rfl sf5 ?_
      refine L_fa (o' := 3) rfl fa_36_3 sf2 rfl ?_
      refine L_ld (v := .int .i64 r_.bound) rfl Try.isAgg3 rfl (At.cell0 (Blk.at (Star.blkAt 0 hst rfl)) (j := 3) rfl) ?_
      refine L_geq (m := sum_11) (n := r_.bound) rfl rfl rfl ?_
      refine L_as (v := .bool (decide (sum_11 ≥ r_.bound))) rfl rfl ?_
      refine L_nil ?_
      refine W_ret ?_
      refine retG1 (v1 := .bool (decide (sum_11 ≥ r_.bound))) Try.results83 rfl ?_
      obtain rfl := so hF
      exact ⟨rfl, (Star.keepN 0 hst)⟩
  ·
    have hF := (ite_f hc9).symm.trans hF
    refine W_seq ?_
    refine W_region ?_
    refine L_eql (m := r_.kind) (n := 2) rfl rfl rfl ?_
    refine L_as (v := .bool (r_.kind == 2)) rfl rfl ?_
    refine L_nil ?_
    refine W_cond (b := (r_.kind == 2)) rfl (fun hc31 => ?_) (fun hc31 => ?_)
    ·
      have hF := (ite_t hc31).symm.trans hF
      refine W_seq ?_
      refine W_seq ?_
      refine W_region ?_
      refine L_ld (v := v1) rfl Try.isAgg23 rfl (At.cell0 (Blk.at (Star.blkAt 0 hst rfl)) (j := 0) rfl) ?_
      refine L_len (v := v1) (n := List.length vals) rfl Try.underlying23 rfl (slice_len h1) ?_
      refine L_mv (v := .int .i64 0) rfl rfl ?_
      refine L_nil ?_
      have hlen33 : List.length vals ≤ 9223372036854775807 := len_le (slice_len h1)
      obtain ⟨j33, hL33, hF⟩ := bind_some hF
      obtain ⟨R33, hR33⟩ : ∃ RR_ : Fr → World → Prop, RR_ = fun f w_ => j33 = .nx () ∧ Star H w_ ([]) := ⟨_, rfl⟩
      refine W_join R33 ?_ ?_
      ·
        refine W_block ?_
        obtain ⟨I33, hI33⟩ : ∃ I : Nat → Fr → World → Prop, I = fun n f w_ => ∃ i_32 : Nat, ∃ suf33 : List Int, n = suf33.length ∧ List.drop i_32 vals = suf33 ∧ i_32 + suf33.length = vals.length ∧ rangeL (i_Rule_holds_b2 vals) suf33 i_32 () = some j33 ∧ f 3 = .pointer (some ⟨g7, 0, none⟩) ∧ f 37 = v1 ∧ f 38 = .int .i64 (vals.length : Int) ∧ f 39 = .int .i64 (i_32 : Int) ∧ Star H w_ ([box g7 23 #[v1]]) := ⟨_, rfl⟩
        refine W_loop I33 (n := vals.length) ?_ ?_
        · rw [hI33]; exact ⟨0, vals, rfl, rfl, Nat.zero_add _, hL33, rfl, rfl, rfl, rfl, (Star.keepN 1 hst)⟩
        ·
          clear hst
          intro n33 f w_ hI
          rw [hI33] at hI
          obtain ⟨i_32, suf33, rfl, hd33, hl33, hL33, sf3, sf37, sf38, sf39, hst⟩ := hI
          refine W_seq ?_
          refine W_region ?_
          refine L_lss (m := (i_32 : Int)) (n := (vals.length : Int)) rfl sf39 sf38 ?_
          refine L_nil ?_
          refine W_seq ?_
          refine W_cond (b := decide ((i_32 : Int) < (vals.length : Int))) rfl (fun hc34 => ?_) (fun hc34 => ?_)
          ·
            have hlt33 := of_decide_eq_true hc34
            cases suf33 with
            | nil => exact absurd hlt33 (by simp at hl33; omega)
            | cons x_33 rest33 =>
              obtain ⟨o33, hB33, hL33⟩ := range_cons hL33
              rw [i_Rule_holds_b2] at hB33
              have hix33 := drop_idx hd33
              refine W_skip ?_
              refine W_seq ?_
              refine W_block ?_
              refine W_seq ?_
              refine W_region ?_
              refine L_mv (v := .int .i64 (i_32 : Int)) rfl sf39 ?_
              refine L_ix (r := RP.int) rfl Try.underlying23 Try.sizeOf3 sf37 h1 sf39 hix33 ?_
              intro g39 o40 cs_g39 hrk_hat41 hat41
              obtain rfl : _ = [_] := hrk_hat41
              refine L_ld (v := .int .i64 x_33) rfl Try.isAgg3 rfl (At.cell (AtH.at hat41 hst.sub) (j := 0) rfl) ?_
              refine L_as (v := .int .i64 (i_32 : Int)) rfl rfl ?_
              refine L_as (v := .int .i64 x_33) rfl rfl ?_
              refine L_nil ?_
              refine W_seq ?_
              obtain ⟨x43, hx43, hB33⟩ := bind_some hB33
              obtain ⟨x51, hx51, hB33⟩ := bind_some hB33
              refine W_region ?_
              refine L_ld (v := v1) rfl Try.isAgg23 sf3 (At.cell0 (Blk.at (Star.blkAt 0 hst rfl)) (j := 0) rfl) ?_
              refine L_mv (v := .int .i64 (i_32 : Int)) rfl rfl ?_
              refine L_sl (a := 0) (b := (i_32 : Int)) rfl et_23 rfl h1 rfl rfl hx43 ?_
              intro v53 hs54
              refine L_mv (v := .int .i64 x_33) rfl rfl ?_
              obtain ⟨Hb55, hle56, hsb57, hfz58, hbk59⟩ := Star.borrow hst
              refine L_call (args := #[v53, .int .i64 x_33]) rfl Try.call87 (ops2 rfl rfl) (slices_Contains_int_c (s := x43) (v_ := x_33) hsb57 (RP.mono _ hs54 hle56) hx51) ?_
              rintro _ w60 ⟨rfl, hst⟩
              have hst := hbk59 hst closedL_nil
              refine L_nil ?_
              refine W_cond (b := x51) rfl (fun hc61 => ?_) (fun hc61 => ?_)
              ·
                have hB33 := (ite_t hc61).symm.trans hB33
                refine W_seq ?_
                refine W_region ?_
                refine L_as (v := .bool false) rfl rfl ?_
                refine L_nil ?_
                refine W_ret ?_
                refine retG1 (v1 := .bool false) Try.results83 rfl ?_
                obtain rfl := so hB33
                obtain rfl := so hL33
                obtain rfl := so hF
                exact ⟨rfl, (Star.keepN 0 hst)⟩
              ·
                have hB33 := (ite_f hc61).symm.trans hB33
                refine W_skip ?_
                refine W_region ?_
                refine L_add (m := (i_32 : Int)) (n := 1) rfl sf39 rfl ?_
                refine L_mv (v := .int .i64 (i64 ((i_32 : Int) + 1))) rfl rfl ?_
                refine L_nil ?_
                obtain rfl := so hB33
                show ∃ m, m < _ ∧ I33 m _ _
                refine ⟨rest33.length, by simp, ?_⟩
                rw [hI33]
                exact ⟨i_32 + 1, rest33, rfl, drop_next hd33, by simp at hl33; omega, hL33, sf3, sf37, sf38, (Eq.trans rfl (congrArg (Value.int .i64) (i64_succ (n := vals.length) (by simp at hl33; omega) hlen33))), hst⟩
          ·
            cases suf33 with
            | cons _ _ => exact absurd (of_decide_eq_false hc34) (by simp at hl33; omega)
            | nil =>
              obtain rfl := range_nil hL33
              refine W_exit ?_
              show R33 _ _
              rw [hR33]
              exact ⟨rfl, (Star.keepN 0 hst)⟩
      ·
        clear hst
        intro f w_ hR
        rw [hR33] at hR
        obtain ⟨rfl, hst⟩ := hR
        clear hR33
        refine W_seq ?_
        refine W_region ?_
        refine L_as (v := .bool true) rfl rfl ?_
        refine L_nil ?_
        refine W_ret ?_
        refine retG1 (v1 := .bool true) Try.results83 rfl ?_
        obtain rfl := so hF
        exact ⟨rfl, hst⟩
    ·
      have hF := (ite_f hc31).symm.trans hF
      refine W_seq ?_
      refine W_region ?_
      refine L_eql (m := r_.kind) (n := 3) rfl rfl rfl ?_
      refine L_as (v := .bool (r_.kind == 3)) rfl rfl ?_
      refine L_nil ?_
      refine W_cond (b := (r_.kind == 3)) rfl (fun hc62 => ?_) (fun hc62 => ?_)
      ·
        have hF := (ite_t hc62).symm.trans hF
        refine W_seq ?_
        obtain ⟨x68, hx68, hF⟩ := bind_some hF
        refine W_region ?_
        refine L_fa (o' := 4) rfl fa_36_4 rfl rfl ?_
        refine L_ld (v := v0_4) rfl Try.isAgg34 rfl (At.cell0 (Blk.at (Star.blkAt 1 hst rfl)) (j := 4) rfl) ?_
        refine L_mf rfl (ops1 rfl) ?_
        obtain ⟨Hb70, hle71, hsb72, hfz73, hbk74⟩ := Star.borrow hst
        have hf75 : Fun1 Try.prog (RP.slice 3 RP.int) false Value.bool (i_Rule_holds_1 vals) (.func (.func 101) #[] #[.pointer (some ⟨g7, 0, none⟩)]) Hb70 := by
          refine ⟨_, _, rfl, Try.call101, fun H_ w_ hE_ hs_ cs_ x_ y_ args_ hr_ hy_ ha_ => ?_⟩
          obtain ⟨p_0, rfl, hp_0⟩ := slice1 hr_
          obtain rfl := args_of (b := #[p_0, .pointer (some ⟨g7, 0, none⟩)]) ha_
          exact i_Rule_holds_1_c (c1 := vals) (row := x_) hs_ hp_0 (AtH.le (AtH.of (fz_box 0 hfz73 rfl)) hE_) (RP.mono _ (RP.mono _ h1 hle71) hE_) hy_
        refine L_call (args := #[v0_4, .func (.func 101) #[] #[.pointer (some ⟨g7, 0, none⟩)]]) rfl Try.call90 (ops2 rfl rfl) (slices_ContainsFunc_Sint_c (s := r_.rows) (f_ := (i_Rule_holds_1 vals)) hsb72 (RP.mono _ h0_4 hle71) hf75 hx68) ?_
        rintro _ w76 ⟨rfl, hst⟩
        have hst := hbk74 hst closedL_nil
        refine L_as (v := .bool x68) rfl rfl ?_
        refine L_nil ?_
        refine W_ret ?_
        refine retG1 (v1 := .bool x68) Try.results83 rfl ?_
        obtain rfl := so hF
        exact ⟨rfl, (Star.keepN 0 hst)⟩
      ·
        have hF := (ite_f hc62).symm.trans hF
        refine W_skip ?_
        refine W_seq ?_
        obtain ⟨x77, hx77, hF⟩ := bind_some hF
        obtain ⟨x82, hx82, hF⟩ := bind_some hF
        have hst := Star.drop 1 hst rfl
        refine W_drawS 6 [isV (v1), isEl RP.int x77 0, isV (.int .i64 x77), isV (v1), isEl RP.int x82 0, isV (.int .i64 x82)] [box g7 23 #[v1]] [] ([]) [([], []), ([], []), ([], []), ([], []), ([], []), ([], [])] (S := []) Try_mix (by kernel_rfl) rfl (by kernel_rfl) (amF_cons (mono_V _) (amF_cons (mono_el _ _ _) (amF_cons (mono_V _) (amF_cons (mono_V _) (amF_cons (mono_el _ _ _) (amF_cons (mono_V _) amF_nil)))))) hst ?_ (fun f w_ H87 hS87 hE87 hT87 hst => ?_)
        ·
          refine opsS_cons ?_ ?_
          ·
            intro f w_ H87 X87 hS87 hE87 hP87 hst
            refine L_ld (v := v1) rfl Try.isAgg23 ((hS87 3 rfl).trans rfl) (At.cell0 (Blk.at (Star.blkAt 0 hst rfl)) (j := 0) rfl) ?_
            exact L_nil ⟨rfl, _, _, _, rfl, rfl, Le.refl _, rfl, hst⟩
          refine opsS_cons ?_ ?_
          ·
            intro f w_ H87 X87 hS87 hE87 hP87 hst
            refine L_ix (r := RP.int) rfl Try.underlying23 Try.sizeOf3 (hP87 0 56 rfl rfl) (RP.mono _ h1 hE87) rfl hx77 ?_
            intro g96 o97 cs_g96 hrk_hat98 hat98
            obtain rfl : _ = [_] := hrk_hat98
            exact L_nil ⟨rfl, _, _, _, rfl, rfl, Le.refl _, ⟨_, _, _, rfl, rfl, hat98⟩, hst⟩
          refine opsS_cons ?_ ?_
          ·
            intro f w_ H87 X87 hS87 hE87 hP87 hst
            obtain ⟨g100, o100, cs100, hv100, hrk_hat100, hat100⟩ := (hP87 1 57 rfl rfl)
            obtain rfl : _ = [_] := hrk_hat100
            refine L_ld (v := .int .i64 x77) rfl Try.isAgg3 hv100 (At.cell (AtH.at hat100 hst.sub) (j := 0) rfl) ?_
            exact L_nil ⟨rfl, _, _, _, rfl, rfl, Le.refl _, rfl, hst⟩
          refine opsS_cons ?_ ?_
          ·
            intro f w_ H87 X87 hS87 hE87 hP87 hst
            refine L_ld (v := v1) rfl Try.isAgg23 ((hS87 3 rfl).trans rfl) (At.cell0 (Blk.at (Star.blkAt 0 hst rfl)) (j := 0) rfl) ?_
            exact L_nil ⟨rfl, _, _, _, rfl, rfl, Le.refl _, rfl, hst⟩
          refine opsS_cons ?_ ?_
          ·
            intro f w_ H87 X87 hS87 hE87 hP87 hst
            refine L_ix (r := RP.int) rfl Try.underlying23 Try.sizeOf3 (hP87 3 59 rfl rfl) (RP.mono _ h1 hE87) rfl hx82 ?_
            intro g102 o103 cs_g102 hrk_hat104 hat104
            obtain rfl : _ = [_] := hrk_hat104
            exact L_nil ⟨rfl, _, _, _, rfl, rfl, Le.refl _, ⟨_, _, _, rfl, rfl, hat104⟩, hst⟩
          refine opsS_cons ?_ ?_
          ·
            intro f w_ H87 X87 hS87 hE87 hP87 hst
            obtain ⟨g106, o106, cs106, hv106, hrk_hat106, hat106⟩ := (hP87 4 60 rfl rfl)
            obtain rfl : _ = [_] := hrk_hat106
            refine L_ld (v := .int .i64 x82) rfl Try.isAgg3 hv106 (At.cell (AtH.at hat106 hst.sub) (j := 0) rfl) ?_
            exact L_nil ⟨rfl, _, _, _, rfl, rfl, Le.refl _, rfl, hst⟩
          exact opsS_nil
        ·
          refine L_lss (m := x77) (n := x82) rfl (hT87 2 58 rfl rfl) (hT87 5 61 rfl rfl) ?_
          refine L_as (v := .bool (decide (x77 < x82))) rfl rfl ?_
          refine L_nil ?_
          refine W_ret ?_
          refine retG1 (v1 := .bool (decide (x77 < x82))) Try.results83 rfl ?_
          obtain rfl := so hF
          exact ⟨rfl, (Star.down (Star.keepN 0 hst) hE87 closedL_nil)⟩

theorem i_Rule_at_c {r_ : Rule} {cells : List Int} {v0_1 : Value} {v0_2 : Value} {v0_4 : Value} {v1 : Value} {H : FH} {w : World} (hst : Star H w []) (h0_1 : (RP.slice 3 RP.int).rel H [v0_1] r_.vars) (h0_2 : (RP.slice 3 RP.int).rel H [v0_2] r_.coefs) (h0_4 : (RP.slice 23 (RP.slice 3 RP.int)).rel H [v0_4] r_.rows) (h1 : (RP.slice 3 RP.int).rel H [v1] cells) {r : Bool} (hF : i_Rule_at r_ cells = some r) :
    C Try.prog 56 #[.agg #[.int .i64 r_.kind, v0_1, v0_2, .int .i64 r_.bound, v0_4], v1] w fun v w' => v = .bool r ∧ Star H w' [] := by
  unfold i_Rule_at at hF
  refine C_enter Try.func56 rfl Try.ntmps56 rfl ?_
  refine W_seq ?_
  refine W_region ?_
  refine L_box (v := .agg #[.int .i64 r_.kind, v0_1, v0_2, .int .i64 r_.bound, v0_4]) (cs := #[.int .i64 r_.kind, v0_1, v0_2, .int .i64 r_.bound, v0_4]) rfl rfl rfl hst ?_
  intro g3 w4 hst
  refine L_as (v := .bool false) rfl rfl ?_
  refine L_nil ?_
  refine W_seq ?_
  refine W_region ?_
  refine L_as (v := (.slice none 0 0)) rfl rfl ?_
  refine L_nil ?_
  refine W_seq ?_
  refine W_seq ?_
  refine W_region ?_
  refine L_fa (o' := 1) rfl fa_36_1 rfl rfl ?_
  refine L_ld (v := v0_1) rfl Try.isAgg23 rfl (At.cell0 (Blk.at (Star.blkAt 0 hst rfl)) (j := 1) rfl) ?_
  refine L_len (v := v0_1) (n := List.length r_.vars) rfl Try.underlying23 rfl (slice_len h0_1) ?_
  refine L_mv (v := .int .i64 0) rfl rfl ?_
  refine L_nil ?_
  have hlen8 : List.length r_.vars ≤ 9223372036854775807 := len_le (slice_len h0_1)
  obtain ⟨j8, hL8, hF⟩ := bind_some hF
  obtain ⟨R8, hR8⟩ : ∃ RR_ : Fr → World → Prop, RR_ = fun f w_ => ∃ vals_6 : List Int, ∃ v6_vals : Value, j8 = .nx vals_6 ∧ f 2 = .pointer (some ⟨g3, 0, none⟩) ∧ f 5 = v6_vals ∧ Star H w_ ([own (OR.ownS 3 (OR.frz RP.int)) [v6_vals] vals_6, box g3 36 #[.int .i64 r_.kind, v0_1, v0_2, .int .i64 r_.bound, v0_4]]) := ⟨_, rfl⟩
  refine W_join R8 ?_ ?_
  ·
    refine W_block ?_
    obtain ⟨I8, hI8⟩ : ∃ I : Nat → Fr → World → Prop, I = fun n f w_ => ∃ i_5 : Nat, ∃ suf8 : List Int, ∃ vals_6 : List Int, ∃ v6_vals : Value, n = suf8.length ∧ List.drop i_5 r_.vars = suf8 ∧ i_5 + suf8.length = r_.vars.length ∧ rangeL (i_Rule_at_b1 cells) suf8 i_5 vals_6 = some j8 ∧ f 1 = v1 ∧ f 2 = .pointer (some ⟨g3, 0, none⟩) ∧ f 5 = v6_vals ∧ f 9 = v0_1 ∧ f 10 = .int .i64 (r_.vars.length : Int) ∧ f 11 = .int .i64 (i_5 : Int) ∧ Star H w_ ([own (OR.ownS 3 (OR.frz RP.int)) [v6_vals] vals_6, box g3 36 #[.int .i64 r_.kind, v0_1, v0_2, .int .i64 r_.bound, v0_4]]) := ⟨_, rfl⟩
    have hst := Star.addNil (R := (OR.frz RP.int)) (e := 3) hst
    refine W_loop I8 (n := r_.vars.length) ?_ ?_
    · rw [hI8]; exact ⟨0, r_.vars, [], (.slice none 0 0), rfl, rfl, Nat.zero_add _, hL8, rfl, rfl, rfl, rfl, rfl, rfl, hst⟩
    ·
      clear hst
      intro n8 f w_ hI
      rw [hI8] at hI
      obtain ⟨i_5, suf8, vals_6, v6_vals, rfl, hd8, hl8, hL8, sf1, sf2, sf5, sf9, sf10, sf11, hst⟩ := hI
      refine W_seq ?_
      refine W_region ?_
      refine L_lss (m := (i_5 : Int)) (n := (r_.vars.length : Int)) rfl sf11 sf10 ?_
      refine L_nil ?_
      refine W_seq ?_
      refine W_cond (b := decide ((i_5 : Int) < (r_.vars.length : Int))) rfl (fun hc10 => ?_) (fun hc10 => ?_)
      ·
        have hlt8 := of_decide_eq_true hc10
        cases suf8 with
        | nil => exact absurd hlt8 (by simp at hl8; omega)
        | cons x_8 rest8 =>
          obtain ⟨o8, hB8, hL8⟩ := range_cons hL8
          rw [i_Rule_at_b1] at hB8
          have hix8 := drop_idx hd8
          refine W_skip ?_
          refine W_seq ?_
          refine W_block ?_
          refine W_seq ?_
          refine W_region ?_
          refine L_ix (r := RP.int) rfl Try.underlying23 Try.sizeOf3 sf9 h0_1 sf11 hix8 ?_
          intro g15 o16 cs_g15 hrk_hat17 hat17
          obtain rfl : _ = [_] := hrk_hat17
          refine L_ld (v := .int .i64 x_8) rfl Try.isAgg3 rfl (At.cell (AtH.at hat17 hst.sub) (j := 0) rfl) ?_
          refine L_as (v := .int .i64 x_8) rfl rfl ?_
          refine L_nil ?_
          obtain ⟨x19, hx19, hB8⟩ := bind_some hB8
          obtain ⟨x27, hx27, hB8⟩ := bind_some hB8
          refine W_region ?_
          refine L_mv (v := v6_vals) rfl sf5 ?_
          refine L_mv (v := v1) rfl sf1 ?_
          refine L_mv (v := .int .i64 x_8) rfl rfl ?_
          refine L_ix (r := RP.int) rfl Try.underlying23 Try.sizeOf3 rfl h1 rfl hx19 ?_
          intro g31 o32 cs_g31 hrk_hat33 hat33
          obtain rfl : _ = [_] := hrk_hat33
          refine L_ld (v := .int .i64 x19) rfl Try.isAgg3 rfl (At.cell (AtH.at hat33 hst.sub) (j := 0) rfl) ?_
          refine L_bs rfl (parts1 rfl) (bs_23_1_0 (.int .i64 x19) rfl) hst ?_
          intro g35 w36 hst
          have hst := Star.addF (r := RP.int) (cs := [.int .i64 x19]) (x := x19) hst rfl
          have hst := Star.mkRow (R := (OR.frz RP.int)) [([.int .i64 x19], x19)] [x19] 1 hst rfl rfl rfl (by decide)
          have hst := Star.get 1 hst rfl
          refine L_appM (v := v6_vals) (u := (.slice (some ⟨g35, 0, none⟩) 1 1)) rfl et_23 rfl rfl hst hx27 ?_
          intro v38 w39 hst
          refine L_as (v := v38) rfl rfl ?_
          refine L_nil ?_
          refine W_region ?_
          refine L_add (m := (i_5 : Int)) (n := 1) rfl sf11 rfl ?_
          refine L_mv (v := .int .i64 (i64 ((i_5 : Int) + 1))) rfl rfl ?_
          refine L_nil ?_
          obtain rfl := so hB8
          show ∃ m, m < _ ∧ I8 m _ _
          refine ⟨rest8.length, by simp, ?_⟩
          rw [hI8]
          exact ⟨i_5 + 1, rest8, x27, v38, rfl, drop_next hd8, by simp at hl8; omega, hL8, sf1, sf2, rfl, sf9, sf10, (Eq.trans rfl (congrArg (Value.int .i64) (i64_succ (n := r_.vars.length) (by simp at hl8; omega) hlen8))), hst⟩
      ·
        cases suf8 with
        | cons _ _ => exact absurd (of_decide_eq_false hc10) (by simp at hl8; omega)
        | nil =>
          obtain rfl := range_nil hL8
          refine W_exit ?_
          show R8 _ _
          rw [hR8]
          exact ⟨vals_6, v6_vals, rfl, sf2, sf5, hst⟩
  ·
    clear hst
    intro f w_ hR
    rw [hR8] at hR
    obtain ⟨vals_6, v6_vals, rfl, sf2, sf5, hst⟩ := hR
    clear hR8
    refine W_seq ?_
    obtain ⟨x47, hx47, hF⟩ := bind_some hF
    refine W_region ?_
    refine L_lda (cs := [.int .i64 r_.kind, v0_1, v0_2, .int .i64 r_.bound, v0_4]) rfl Try.isAgg36 Try.sizeOf36 sf2 (At.sub0 (Blk.at (Star.blkAt 1 hst rfl)) 0 5) rfl ?_
    refine L_mv (v := v6_vals) rfl sf5 ?_
    obtain ⟨Hb49, hle50, hsb51, hfz52, hbk53⟩ := Star.borrow hst
    have hb54 : (RP.slice 3 RP.int).rel Hb49 [v6_vals] vals_6 := fz_own 0 hfz52 rfl
    refine L_call (args := #[.agg #[.int .i64 r_.kind, v0_1, v0_2, .int .i64 r_.bound, v0_4], v6_vals]) rfl Try.call83 (ops2 rfl rfl) (i_Rule_holds_c (r_ := r_) (vals := vals_6) hsb51 (RP.mono _ h0_1 hle50) (RP.mono _ h0_2 hle50) (RP.mono _ h0_4 hle50) hb54 hx47) ?_
    rintro _ w55 ⟨rfl, hst⟩
    have hst := hbk53 hst closedL_nil
    refine L_as (v := .bool x47) rfl rfl ?_
    refine L_nil ?_
    refine W_ret ?_
    refine retG1 (v1 := .bool x47) Try.results56 rfl ?_
    obtain rfl := so hF
    exact ⟨rfl, (Star.keepN 0 hst)⟩

theorem s_l6Ints_c {a : List Int} {b : List Int} {v0 : Value} {v1 : Value} {H : FH} {w : World} (hst : Star H w []) (h0 : (RP.slice 3 RP.int).rel H [v0] a) (h1 : (RP.slice 3 RP.int).rel H [v1] b) {r : Bool} (hF : s_l6Ints a b = some r) :
    C Try.prog 84 #[v0, v1] w fun v w' => v = .bool r ∧ Star H w' [] := by
  unfold s_l6Ints at hF
  refine C_enter Try.func84 rfl Try.ntmps84 rfl ?_
  refine W_seq ?_
  refine W_region ?_
  refine L_as (v := .bool false) rfl rfl ?_
  refine L_nil ?_
  refine W_seq ?_
  refine W_seq ?_
  refine W_region ?_
  refine L_mv (v := v0) rfl rfl ?_
  refine L_len (v := v0) (n := List.length a) rfl Try.underlying23 rfl (slice_len h0) ?_
  refine L_mv (v := v1) rfl rfl ?_
  refine L_len (v := v1) (n := List.length b) rfl Try.underlying23 rfl (slice_len h1) ?_
  refine L_neq (m := (a.length : Int)) (n := (b.length : Int)) rfl rfl rfl ?_
  refine L_nil ?_
  refine W_cond (b := ((a.length : Int) != (b.length : Int))) rfl (fun hc1 => ?_) (fun hc1 => ?_)
  ·
    have hF := (ite_t hc1).symm.trans hF
    refine W_seq ?_
    refine W_region ?_
    refine L_as (v := .bool false) rfl rfl ?_
    refine L_nil ?_
    refine W_ret ?_
    refine retG1 (v1 := .bool false) Try.results84 rfl ?_
    obtain rfl := so hF
    exact ⟨rfl, hst⟩
  ·
    have hF := (ite_f hc1).symm.trans hF
    refine W_skip ?_
    refine W_seq ?_
    refine W_seq ?_
    refine W_region ?_
    refine L_as (v := .int .i64 0) rfl rfl ?_
    refine L_nil ?_
    have hlen5 : List.length a ≤ 9223372036854775807 := len_le (slice_len h0)
    obtain ⟨j5, hL5, hF⟩ := bind_some hF
    obtain ⟨R5, hR5⟩ : ∃ RR_ : Fr → World → Prop, RR_ = fun f w_ => ∃ H3 : FH, j5 = .nx () ∧ Le H H3 ∧ Star H3 w_ ([]) := ⟨_, rfl⟩
    refine W_join R5 ?_ ?_
    ·
      refine W_block ?_
      obtain ⟨I5, hI5⟩ : ∃ I : Nat → Fr → World → Prop, I = fun n f w_ => ∃ i_2 : Nat, ∃ suf5 : List Int, ∃ H3 : FH, n = suf5.length ∧ List.drop i_2 a = suf5 ∧ i_2 + suf5.length = a.length ∧ rangeL (s_l6Ints_b1 b) suf5 i_2 () = some j5 ∧ Le H H3 ∧ f 0 = v0 ∧ f 1 = v1 ∧ f 5 = .int .i64 (i_2 : Int) ∧ Star H3 w_ ([]) := ⟨_, rfl⟩
      refine W_loop I5 (n := a.length) ?_ ?_
      · rw [hI5]; exact ⟨0, a, H, rfl, rfl, Nat.zero_add _, hL5, (Le.refl _), rfl, rfl, rfl, hst⟩
      ·
        clear hst
        intro n5 f w_ hI
        rw [hI5] at hI
        obtain ⟨i_2, suf5, H3, rfl, hd5, hl5, hL5, hle4, sf0, sf1, sf5, hst⟩ := hI
        refine W_seq ?_
        refine W_seq ?_
        refine W_region ?_
        refine L_mv (v := .int .i64 (i_2 : Int)) rfl sf5 ?_
        refine L_mv (v := v0) rfl sf0 ?_
        refine L_len (v := v0) (n := List.length a) rfl Try.underlying23 rfl (slice_len (RP.mono _ h0 hle4)) ?_
        refine L_lss (m := (i_2 : Int)) (n := (a.length : Int)) rfl rfl rfl ?_
        refine L_nil ?_
        refine W_cond (b := decide ((i_2 : Int) < (a.length : Int))) rfl (fun hc6 => ?_) (fun hc6 => ?_)
        ·
          have hlt5 := of_decide_eq_true hc6
          cases suf5 with
          | nil => exact absurd hlt5 (by simp at hl5; omega)
          | cons x_5 rest5 =>
            obtain ⟨o5, hB5, hL5⟩ := range_cons hL5
            rw [s_l6Ints_b1] at hB5
            have hix5 := drop_idx hd5
            refine W_skip ?_
            refine W_seq ?_
            refine W_block ?_
            refine W_seq ?_
            obtain ⟨x11, hx11, hB5⟩ := bind_some hB5
            refine W_drawS 8 [isV (v0), isV (.int .i64 (i_2 : Int)), isEl RP.int x_5 0, isV (.int .i64 x_5), isV (v1), isV (.int .i64 (i_2 : Int)), isEl RP.int x11 0, isV (.int .i64 x11)] [] [] ([]) [([], []), ([], []), ([], []), ([], []), ([], []), ([], []), ([], []), ([], [])] (S := []) Try_mix (by kernel_rfl) rfl (by kernel_rfl) (amF_cons (mono_V _) (amF_cons (mono_V _) (amF_cons (mono_el _ _ _) (amF_cons (mono_V _) (amF_cons (mono_V _) (amF_cons (mono_V _) (amF_cons (mono_el _ _ _) (amF_cons (mono_V _) amF_nil)))))))) hst ?_ (fun f w_ H16 hS16 hE16 hT16 hst => ?_)
            ·
              refine opsS_cons ?_ ?_
              ·
                intro f w_ H16 X16 hS16 hE16 hP16 hst
                refine L_mv (v := v0) rfl ((hS16 0 rfl).trans sf0) ?_
                exact L_nil ⟨rfl, _, _, _, rfl, rfl, Le.refl _, rfl, hst⟩
              refine opsS_cons ?_ ?_
              ·
                intro f w_ H16 X16 hS16 hE16 hP16 hst
                refine L_mv (v := .int .i64 (i_2 : Int)) rfl ((hS16 5 rfl).trans sf5) ?_
                exact L_nil ⟨rfl, _, _, _, rfl, rfl, Le.refl _, rfl, hst⟩
              refine opsS_cons ?_ ?_
              ·
                intro f w_ H16 X16 hS16 hE16 hP16 hst
                refine L_ix (r := RP.int) rfl Try.underlying23 Try.sizeOf3 (hP16 0 17 rfl rfl) (RP.mono _ h0 (Le.trans hle4 hE16)) (hP16 1 18 rfl rfl) hix5 ?_
                intro g25 o26 cs_g25 hrk_hat27 hat27
                obtain rfl : _ = [_] := hrk_hat27
                exact L_nil ⟨rfl, _, _, _, rfl, rfl, Le.refl _, ⟨_, _, _, rfl, rfl, hat27⟩, hst⟩
              refine opsS_cons ?_ ?_
              ·
                intro f w_ H16 X16 hS16 hE16 hP16 hst
                obtain ⟨g29, o29, cs29, hv29, hrk_hat29, hat29⟩ := (hP16 2 19 rfl rfl)
                obtain rfl : _ = [_] := hrk_hat29
                refine L_ld (v := .int .i64 x_5) rfl Try.isAgg3 hv29 (At.cell (AtH.at hat29 hst.sub) (j := 0) rfl) ?_
                exact L_nil ⟨rfl, _, _, _, rfl, rfl, Le.refl _, rfl, hst⟩
              refine opsS_cons ?_ ?_
              ·
                intro f w_ H16 X16 hS16 hE16 hP16 hst
                refine L_mv (v := v1) rfl ((hS16 1 rfl).trans sf1) ?_
                exact L_nil ⟨rfl, _, _, _, rfl, rfl, Le.refl _, rfl, hst⟩
              refine opsS_cons ?_ ?_
              ·
                intro f w_ H16 X16 hS16 hE16 hP16 hst
                refine L_mv (v := .int .i64 (i_2 : Int)) rfl ((hS16 5 rfl).trans sf5) ?_
                exact L_nil ⟨rfl, _, _, _, rfl, rfl, Le.refl _, rfl, hst⟩
              refine opsS_cons ?_ ?_
              ·
                intro f w_ H16 X16 hS16 hE16 hP16 hst
                refine L_ix (r := RP.int) rfl Try.underlying23 Try.sizeOf3 (hP16 4 21 rfl rfl) (RP.mono _ h1 (Le.trans hle4 hE16)) (hP16 5 22 rfl rfl) hx11 ?_
                intro g31 o32 cs_g31 hrk_hat33 hat33
                obtain rfl : _ = [_] := hrk_hat33
                exact L_nil ⟨rfl, _, _, _, rfl, rfl, Le.refl _, ⟨_, _, _, rfl, rfl, hat33⟩, hst⟩
              refine opsS_cons ?_ ?_
              ·
                intro f w_ H16 X16 hS16 hE16 hP16 hst
                obtain ⟨g35, o35, cs35, hv35, hrk_hat35, hat35⟩ := (hP16 6 23 rfl rfl)
                obtain rfl : _ = [_] := hrk_hat35
                refine L_ld (v := .int .i64 x11) rfl Try.isAgg3 hv35 (At.cell (AtH.at hat35 hst.sub) (j := 0) rfl) ?_
                exact L_nil ⟨rfl, _, _, _, rfl, rfl, Le.refl _, rfl, hst⟩
              exact opsS_nil
            ·
              refine L_neq (m := x_5) (n := x11) rfl (hT16 3 20 rfl rfl) (hT16 7 24 rfl rfl) ?_
              refine L_nil ?_
              refine W_cond (b := (x_5 != x11)) rfl (fun hc37 => ?_) (fun hc37 => ?_)
              ·
                have hB5 := (ite_t hc37).symm.trans hB5
                refine W_seq ?_
                refine W_region ?_
                refine L_as (v := .bool false) rfl rfl ?_
                refine L_nil ?_
                refine W_ret ?_
                refine retG1 (v1 := .bool false) Try.results84 rfl ?_
                obtain rfl := so hB5
                obtain rfl := so hL5
                obtain rfl := so hF
                exact ⟨rfl, (Star.down hst (Le.trans hle4 hE16) closedL_nil)⟩
              ·
                have hB5 := (ite_f hc37).symm.trans hB5
                refine W_skip ?_
                refine W_region ?_
                refine L_mv (v := .int .i64 (i_2 : Int)) rfl ((hS16 5 rfl).trans sf5) ?_
                refine L_add (m := (i_2 : Int)) (n := 1) rfl rfl rfl ?_
                refine L_as (v := .int .i64 (i64 ((i_2 : Int) + 1))) rfl rfl ?_
                refine L_nil ?_
                obtain rfl := so hB5
                show ∃ m, m < _ ∧ I5 m _ _
                refine ⟨rest5.length, by simp, ?_⟩
                rw [hI5]
                exact ⟨i_2 + 1, rest5, H16, rfl, drop_next hd5, by simp at hl5; omega, hL5, (Le.trans hle4 hE16), ((hS16 0 rfl).trans sf0), ((hS16 1 rfl).trans sf1), (Eq.trans rfl (congrArg (Value.int .i64) (i64_succ (n := a.length) (by simp at hl5; omega) hlen5))), hst⟩
        ·
          cases suf5 with
          | cons _ _ => exact absurd (of_decide_eq_false hc6) (by simp at hl5; omega)
          | nil =>
            obtain rfl := range_nil hL5
            refine W_exit ?_
            show R5 _ _
            rw [hR5]
            exact ⟨H3, rfl, hle4, hst⟩
    ·
      clear hst
      intro f w_ hR
      rw [hR5] at hR
      obtain ⟨H3, rfl, hle4, hst⟩ := hR
      clear hR5
      refine W_seq ?_
      refine W_region ?_
      refine L_as (v := .bool true) rfl rfl ?_
      refine L_nil ?_
      refine W_ret ?_
      refine retG1 (v1 := .bool true) Try.results84 rfl ?_
      obtain rfl := so hF
      exact ⟨rfl, (Star.down hst hle4 closedL_nil)⟩

theorem s_l6Holds_c {r_ : Rule} {cells : List Int} {v0_1 : Value} {v0_2 : Value} {v0_4 : Value} {v1 : Value} {H : FH} {w : World} (hst : Star H w []) (h0_1 : (RP.slice 3 RP.int).rel H [v0_1] r_.vars) (h0_2 : (RP.slice 3 RP.int).rel H [v0_2] r_.coefs) (h0_4 : (RP.slice 23 (RP.slice 3 RP.int)).rel H [v0_4] r_.rows) (h1 : (RP.slice 3 RP.int).rel H [v1] cells) {r : Bool} (hF : s_l6Holds r_ cells = some r) :
    C Try.prog 57 #[.agg #[.int .i64 r_.kind, v0_1, v0_2, .int .i64 r_.bound, v0_4], v1] w fun v w' => v = .bool r ∧ Star H w' [] := by
  unfold s_l6Holds at hF
  refine C_enter Try.func57 rfl Try.ntmps57 rfl ?_
  refine W_seq ?_
  refine W_region ?_
  refine L_box (v := .agg #[.int .i64 r_.kind, v0_1, v0_2, .int .i64 r_.bound, v0_4]) (cs := #[.int .i64 r_.kind, v0_1, v0_2, .int .i64 r_.bound, v0_4]) rfl rfl rfl hst ?_
  intro g3 w4 hst
  refine L_as (v := .bool false) rfl rfl ?_
  refine L_nil ?_
  refine W_seq ?_
  refine W_region ?_
  refine L_bs rfl parts0 (bs_23_0  ) hst ?_
  intro g8 w9 hst
  have hst := Star.mkRow (R := (OR.frz RP.int)) [] [] 0 hst rfl rfl rfl (by decide)
  refine L_as (v := (.slice (some ⟨g8, 0, none⟩) 0 0)) rfl rfl ?_
  refine L_nil ?_
  refine W_seq ?_
  refine W_seq ?_
  refine W_region ?_
  refine L_as (v := .int .i64 0) rfl rfl ?_
  refine L_nil ?_
  have hlen14 : List.length r_.vars ≤ 9223372036854775807 := len_le (slice_len h0_1)
  obtain ⟨j14, hL14, hF⟩ := bind_some hF
  obtain ⟨R14, hR14⟩ : ∃ RR_ : Fr → World → Prop, RR_ = fun f w_ => ∃ list_12 : List Int, ∃ v12_list : Value, j14 = .nx list_12 ∧ f 2 = .pointer (some ⟨g3, 0, none⟩) ∧ f 5 = v12_list ∧ Star H w_ ([own (OR.ownS 3 (OR.frz RP.int)) [v12_list] list_12, box g3 36 #[.int .i64 r_.kind, v0_1, v0_2, .int .i64 r_.bound, v0_4]]) := ⟨_, rfl⟩
  refine W_join R14 ?_ ?_
  ·
    refine W_block ?_
    obtain ⟨I14, hI14⟩ : ∃ I : Nat → Fr → World → Prop, I = fun n f w_ => ∃ i_11 : Nat, ∃ suf14 : List Int, ∃ list_12 : List Int, ∃ v12_list : Value, n = suf14.length ∧ List.drop i_11 r_.vars = suf14 ∧ i_11 + suf14.length = r_.vars.length ∧ rangeL (s_l6Holds_b1 cells) suf14 i_11 list_12 = some j14 ∧ f 1 = v1 ∧ f 2 = .pointer (some ⟨g3, 0, none⟩) ∧ f 5 = v12_list ∧ f 6 = .int .i64 (i_11 : Int) ∧ Star H w_ ([own (OR.ownS 3 (OR.frz RP.int)) [v12_list] list_12, box g3 36 #[.int .i64 r_.kind, v0_1, v0_2, .int .i64 r_.bound, v0_4]]) := ⟨_, rfl⟩
    refine W_loop I14 (n := r_.vars.length) ?_ ?_
    · rw [hI14]; exact ⟨0, r_.vars, [], (.slice (some ⟨g8, 0, none⟩) 0 0), rfl, rfl, Nat.zero_add _, hL14, rfl, rfl, rfl, rfl, hst⟩
    ·
      clear hst
      intro n14 f w_ hI
      rw [hI14] at hI
      obtain ⟨i_11, suf14, list_12, v12_list, rfl, hd14, hl14, hL14, sf1, sf2, sf5, sf6, hst⟩ := hI
      refine W_seq ?_
      refine W_seq ?_
      refine W_region ?_
      refine L_mv (v := .int .i64 (i_11 : Int)) rfl sf6 ?_
      refine L_fa (o' := 1) rfl fa_36_1 sf2 rfl ?_
      refine L_ld (v := v0_1) rfl Try.isAgg23 rfl (At.cell0 (Blk.at (Star.blkAt 1 hst rfl)) (j := 1) rfl) ?_
      refine L_len (v := v0_1) (n := List.length r_.vars) rfl Try.underlying23 rfl (slice_len h0_1) ?_
      refine L_lss (m := (i_11 : Int)) (n := (r_.vars.length : Int)) rfl rfl rfl ?_
      refine L_nil ?_
      refine W_cond (b := decide ((i_11 : Int) < (r_.vars.length : Int))) rfl (fun hc15 => ?_) (fun hc15 => ?_)
      ·
        have hlt14 := of_decide_eq_true hc15
        cases suf14 with
        | nil => exact absurd hlt14 (by simp at hl14; omega)
        | cons x_14 rest14 =>
          obtain ⟨o14, hB14, hL14⟩ := range_cons hL14
          rw [s_l6Holds_b1] at hB14
          have hix14 := drop_idx hd14
          refine W_skip ?_
          refine W_seq ?_
          refine W_block ?_
          obtain ⟨x20, hx20, hB14⟩ := bind_some hB14
          obtain ⟨x28, hx28, hB14⟩ := bind_some hB14
          refine W_region ?_
          refine L_mv (v := v12_list) rfl sf5 ?_
          refine L_mv (v := v1) rfl sf1 ?_
          refine L_fa (o' := 1) rfl fa_36_1 sf2 rfl ?_
          refine L_ld (v := v0_1) rfl Try.isAgg23 rfl (At.cell0 (Blk.at (Star.blkAt 1 hst rfl)) (j := 1) rfl) ?_
          refine L_mv (v := .int .i64 (i_11 : Int)) rfl sf6 ?_
          refine L_ix (r := RP.int) rfl Try.underlying23 Try.sizeOf3 rfl h0_1 rfl hix14 ?_
          intro g32 o33 cs_g32 hrk_hat34 hat34
          obtain rfl : _ = [_] := hrk_hat34
          refine L_ld (v := .int .i64 x_14) rfl Try.isAgg3 rfl (At.cell (AtH.at hat34 hst.sub) (j := 0) rfl) ?_
          refine L_ix (r := RP.int) rfl Try.underlying23 Try.sizeOf3 rfl h1 rfl hx20 ?_
          intro g36 o37 cs_g36 hrk_hat38 hat38
          obtain rfl : _ = [_] := hrk_hat38
          refine L_ld (v := .int .i64 x20) rfl Try.isAgg3 rfl (At.cell (AtH.at hat38 hst.sub) (j := 0) rfl) ?_
          refine L_bs rfl (parts1 rfl) (bs_23_1_0 (.int .i64 x20) rfl) hst ?_
          intro g40 w41 hst
          have hst := Star.addF (r := RP.int) (cs := [.int .i64 x20]) (x := x20) hst rfl
          have hst := Star.mkRow (R := (OR.frz RP.int)) [([.int .i64 x20], x20)] [x20] 1 hst rfl rfl rfl (by decide)
          have hst := Star.get 1 hst rfl
          refine L_appM (v := v12_list) (u := (.slice (some ⟨g40, 0, none⟩) 1 1)) rfl et_23 rfl rfl hst hx28 ?_
          intro v43 w44 hst
          refine L_as (v := v43) rfl rfl ?_
          refine L_nil ?_
          refine W_region ?_
          refine L_mv (v := .int .i64 (i_11 : Int)) rfl sf6 ?_
          refine L_add (m := (i_11 : Int)) (n := 1) rfl rfl rfl ?_
          refine L_as (v := .int .i64 (i64 ((i_11 : Int) + 1))) rfl rfl ?_
          refine L_nil ?_
          obtain rfl := so hB14
          show ∃ m, m < _ ∧ I14 m _ _
          refine ⟨rest14.length, by simp, ?_⟩
          rw [hI14]
          exact ⟨i_11 + 1, rest14, x28, v43, rfl, drop_next hd14, by simp at hl14; omega, hL14, sf1, sf2, rfl, (Eq.trans rfl (congrArg (Value.int .i64) (i64_succ (n := r_.vars.length) (by simp at hl14; omega) hlen14))), hst⟩
      ·
        cases suf14 with
        | cons _ _ => exact absurd (of_decide_eq_false hc15) (by simp at hl14; omega)
        | nil =>
          obtain rfl := range_nil hL14
          refine W_exit ?_
          show R14 _ _
          rw [hR14]
          exact ⟨list_12, v12_list, rfl, sf2, sf5, hst⟩
  ·
    clear hst
    intro f w_ hR
    rw [hR14] at hR
    obtain ⟨list_12, v12_list, rfl, sf2, sf5, hst⟩ := hR
    clear hR14
    refine W_seq ?_
    refine W_seq ?_
    refine W_region ?_
    refine L_fa (o' := 0) rfl fa_36_0 sf2 rfl ?_
    refine L_ld (v := .int .i64 r_.kind) rfl Try.isAgg3 rfl (At.cell0 (Blk.at (Star.blkAt 1 hst rfl)) (j := 0) rfl) ?_
    refine L_nil ?_
    refine W_block ?_
    refine W_seq ?_
    refine W_region ?_
    refine L_eql (m := r_.kind) (n := 1) rfl rfl rfl ?_
    refine L_as (v := .bool (r_.kind == 1)) rfl rfl ?_
    refine L_nil ?_
    refine W_cond (b := (r_.kind == 1)) rfl (fun hc46 => ?_) (fun hc46 => ?_)
    ·
      have hF := (ite_t hc46).symm.trans hF
      refine W_seq ?_
      refine W_region ?_
      refine L_as (v := .int .i64 0) rfl rfl ?_
      refine L_nil ?_
      refine W_seq ?_
      refine W_seq ?_
      refine W_region ?_
      refine L_as (v := .int .i64 0) rfl rfl ?_
      refine L_nil ?_
      have hlen51 : List.length list_12 ≤ 9223372036854775807 := len_le (Star.len 0 hst rfl)
      obtain ⟨j51, hL51, hF⟩ := bind_some hF
      obtain ⟨R51, hR51⟩ : ∃ RR_ : Fr → World → Prop, RR_ = fun f w_ => ∃ n_48 : Int, ∃ H49 : FH, j51 = .nx n_48 ∧ Le H H49 ∧ f 2 = .pointer (some ⟨g3, 0, none⟩) ∧ f 7 = .int .i64 n_48 ∧ Star H49 w_ ([box g3 36 #[.int .i64 r_.kind, v0_1, v0_2, .int .i64 r_.bound, v0_4]]) := ⟨_, rfl⟩
      refine W_join R51 ?_ ?_
      ·
        refine W_block ?_
        obtain ⟨I51, hI51⟩ : ∃ I : Nat → Fr → World → Prop, I = fun n f w_ => ∃ i_47 : Nat, ∃ suf51 : List Int, ∃ n_48 : Int, ∃ H49 : FH, n = suf51.length ∧ List.drop i_47 list_12 = suf51 ∧ i_47 + suf51.length = list_12.length ∧ rangeL (s_l6Holds_b2 r_) suf51 i_47 n_48 = some j51 ∧ Le H H49 ∧ f 2 = .pointer (some ⟨g3, 0, none⟩) ∧ f 5 = v12_list ∧ f 7 = .int .i64 n_48 ∧ f 8 = .int .i64 (i_47 : Int) ∧ Star H49 w_ ([own (OR.ownS 3 (OR.frz RP.int)) [v12_list] list_12, box g3 36 #[.int .i64 r_.kind, v0_1, v0_2, .int .i64 r_.bound, v0_4]]) := ⟨_, rfl⟩
        refine W_loop I51 (n := list_12.length) ?_ ?_
        · rw [hI51]; exact ⟨0, list_12, 0, H, rfl, rfl, Nat.zero_add _, hL51, (Le.refl _), sf2, sf5, rfl, rfl, hst⟩
        ·
          clear hst
          intro n51 f w_ hI
          rw [hI51] at hI
          obtain ⟨i_47, suf51, n_48, H49, rfl, hd51, hl51, hL51, hle50, sf2, sf5, sf7, sf8, hst⟩ := hI
          refine W_seq ?_
          refine W_seq ?_
          refine W_region ?_
          refine L_mv (v := .int .i64 (i_47 : Int)) rfl sf8 ?_
          refine L_mv (v := v12_list) rfl sf5 ?_
          refine L_len (v := v12_list) (n := List.length list_12) rfl Try.underlying23 rfl (Star.len 0 hst rfl) ?_
          refine L_lss (m := (i_47 : Int)) (n := (list_12.length : Int)) rfl rfl rfl ?_
          refine L_nil ?_
          refine W_cond (b := decide ((i_47 : Int) < (list_12.length : Int))) rfl (fun hc52 => ?_) (fun hc52 => ?_)
          ·
            have hlt51 := of_decide_eq_true hc52
            cases suf51 with
            | nil => exact absurd hlt51 (by simp at hl51; omega)
            | cons x_51 rest51 =>
              obtain ⟨o51, hB51, hL51⟩ := range_cons hL51
              rw [s_l6Holds_b2] at hB51
              have hix51 := drop_idx hd51
              refine W_skip ?_
              refine W_seq ?_
              refine W_block ?_
              obtain ⟨x53, hx53, hB51⟩ := bind_some hB51
              obtain ⟨g67, cap_g67, hv68, _, _⟩ := Star.row 0 hst rfl hix51
              refine W_drawS 11 [isV (.int .i64 n_48), isV (.pointer (some ⟨g3, 2, none⟩)), isV (v0_2), isV (.int .i64 (i_47 : Int)), isEl RP.int x53 0, isV (.int .i64 x53), isV (v12_list), isV (.int .i64 (i_47 : Int)), isV (.pointer (some ⟨g67, Int.toNat (i_47 : Int) * 1, none⟩)), isV (.int .i64 x_51), isV (.int .i64 (i64 (x53 * x_51)))] [own (OR.ownS 3 (OR.frz RP.int)) [v12_list] list_12, box g3 36 #[.int .i64 r_.kind, v0_1, v0_2, .int .i64 r_.bound, v0_4]] [] ([]) [([], []), ([], []), ([], []), ([], []), ([], []), ([], []), ([], []), ([], []), ([], []), ([], []), ([], [])] (S := []) Try_mix (by kernel_rfl) rfl (by kernel_rfl) (amF_cons (mono_V _) (amF_cons (mono_V _) (amF_cons (mono_V _) (amF_cons (mono_V _) (amF_cons (mono_el _ _ _) (amF_cons (mono_V _) (amF_cons (mono_V _) (amF_cons (mono_V _) (amF_cons (mono_V _) (amF_cons (mono_V _) (amF_cons (mono_V _) amF_nil))))))))))) hst ?_ (fun f w_ H62 hS62 hE62 hT62 hst => ?_)
              ·
                refine opsS_cons ?_ ?_
                ·
                  intro f w_ H62 X62 hS62 hE62 hP62 hst
                  refine L_mv (v := .int .i64 n_48) rfl ((hS62 7 rfl).trans sf7) ?_
                  exact L_nil ⟨rfl, _, _, _, rfl, rfl, Le.refl _, rfl, hst⟩
                refine opsS_cons ?_ ?_
                ·
                  intro f w_ H62 X62 hS62 hE62 hP62 hst
                  refine L_fa (o' := 2) rfl fa_36_2 ((hS62 2 rfl).trans sf2) rfl ?_
                  exact L_nil ⟨rfl, _, _, _, rfl, rfl, Le.refl _, rfl, hst⟩
                refine opsS_cons ?_ ?_
                ·
                  intro f w_ H62 X62 hS62 hE62 hP62 hst
                  refine L_ld (v := v0_2) rfl Try.isAgg23 (hP62 1 42 rfl rfl) (At.cell0 (Blk.at (Star.blkAt 1 hst rfl)) (j := 2) rfl) ?_
                  exact L_nil ⟨rfl, _, _, _, rfl, rfl, Le.refl _, rfl, hst⟩
                refine opsS_cons ?_ ?_
                ·
                  intro f w_ H62 X62 hS62 hE62 hP62 hst
                  refine L_mv (v := .int .i64 (i_47 : Int)) rfl ((hS62 8 rfl).trans sf8) ?_
                  exact L_nil ⟨rfl, _, _, _, rfl, rfl, Le.refl _, rfl, hst⟩
                refine opsS_cons ?_ ?_
                ·
                  intro f w_ H62 X62 hS62 hE62 hP62 hst
                  refine L_ix (r := RP.int) rfl Try.underlying23 Try.sizeOf3 (hP62 2 43 rfl rfl) (RP.mono _ h0_2 (Le.trans hle50 hE62)) (hP62 3 44 rfl rfl) hx53 ?_
                  intro g71 o72 cs_g71 hrk_hat73 hat73
                  obtain rfl : _ = [_] := hrk_hat73
                  exact L_nil ⟨rfl, _, _, _, rfl, rfl, Le.refl _, ⟨_, _, _, rfl, rfl, hat73⟩, hst⟩
                refine opsS_cons ?_ ?_
                ·
                  intro f w_ H62 X62 hS62 hE62 hP62 hst
                  obtain ⟨g75, o75, cs75, hv75, hrk_hat75, hat75⟩ := (hP62 4 45 rfl rfl)
                  obtain rfl : _ = [_] := hrk_hat75
                  refine L_ld (v := .int .i64 x53) rfl Try.isAgg3 hv75 (At.cell (AtH.at hat75 hst.sub) (j := 0) rfl) ?_
                  exact L_nil ⟨rfl, _, _, _, rfl, rfl, Le.refl _, rfl, hst⟩
                refine opsS_cons ?_ ?_
                ·
                  intro f w_ H62 X62 hS62 hE62 hP62 hst
                  refine L_mv (v := v12_list) rfl ((hS62 5 rfl).trans sf5) ?_
                  exact L_nil ⟨rfl, _, _, _, rfl, rfl, Le.refl _, rfl, hst⟩
                refine opsS_cons ?_ ?_
                ·
                  intro f w_ H62 X62 hS62 hE62 hP62 hst
                  refine L_mv (v := .int .i64 (i_47 : Int)) rfl ((hS62 8 rfl).trans sf8) ?_
                  exact L_nil ⟨rfl, _, _, _, rfl, rfl, Le.refl _, rfl, hst⟩
                refine opsS_cons ?_ ?_
                ·
                  intro f w_ H62 X62 hS62 hE62 hP62 hst
                  refine L_ixO (R := (OR.frz RP.int)) (tb := 0) 0 rfl Try.underlying23 Try.sizeOf3 (hP62 6 47 rfl rfl) hv68 (by first | rfl | simp) (hP62 7 48 rfl rfl) hix51 ?_
                  exact L_nil ⟨rfl, _, _, _, rfl, rfl, Le.refl _, rfl, hst⟩
                refine opsS_cons ?_ ?_
                ·
                  intro f w_ H62 X62 hS62 hE62 hP62 hst
                  obtain ⟨cs77, hr77, hat77⟩ := Star.eltF 0 hst rfl hv68 hix51
                  obtain rfl : _ = [_] := hr77
                  refine L_ld (v := .int .i64 x_51) rfl Try.isAgg3 (hP62 8 49 rfl rfl) (At.cell hat77 (j := 0) rfl) ?_
                  exact L_nil ⟨rfl, _, _, _, rfl, rfl, Le.refl _, rfl, hst⟩
                refine opsS_cons ?_ ?_
                ·
                  intro f w_ H62 X62 hS62 hE62 hP62 hst
                  refine L_mul (m := x53) (n := x_51) rfl (hP62 5 46 rfl rfl) (hP62 9 50 rfl rfl) ?_
                  exact L_nil ⟨rfl, _, _, _, rfl, rfl, Le.refl _, rfl, hst⟩
                exact opsS_nil
              ·
                refine L_add (m := n_48) (n := i64 (x53 * x_51)) rfl (hT62 0 41 rfl rfl) (hT62 10 51 rfl rfl) ?_
                refine L_as (v := .int .i64 (i64 (n_48 + (i64 (x53 * x_51))))) rfl rfl ?_
                refine L_nil ?_
                refine W_region ?_
                refine L_mv (v := .int .i64 (i_47 : Int)) rfl ((hS62 8 rfl).trans sf8) ?_
                refine L_add (m := (i_47 : Int)) (n := 1) rfl rfl rfl ?_
                refine L_as (v := .int .i64 (i64 ((i_47 : Int) + 1))) rfl rfl ?_
                refine L_nil ?_
                obtain rfl := so hB51
                show ∃ m, m < _ ∧ I51 m _ _
                refine ⟨rest51.length, by simp, ?_⟩
                rw [hI51]
                exact ⟨i_47 + 1, rest51, i64 (n_48 + (i64 (x53 * x_51))), H62, rfl, drop_next hd51, by simp at hl51; omega, hL51, (Le.trans hle50 hE62), ((hS62 2 rfl).trans sf2), ((hS62 5 rfl).trans sf5), rfl, (Eq.trans rfl (congrArg (Value.int .i64) (i64_succ (n := list_12.length) (by simp at hl51; omega) hlen51))), hst⟩
          ·
            cases suf51 with
            | cons _ _ => exact absurd (of_decide_eq_false hc52) (by simp at hl51; omega)
            | nil =>
              obtain rfl := range_nil hL51
              refine W_exit ?_
              have hst := Star.get 1 hst rfl
              show R51 _ _
              rw [hR51]
              exact ⟨n_48, H49, rfl, hle50, sf2, sf7, (Star.keepN 1 hst)⟩
      ·
        clear hst
        intro f w_ hR
        rw [hR51] at hR
        obtain ⟨n_48, H49, rfl, hle50, sf2, sf7, hst⟩ := hR
        clear hR51
        refine W_seq ?_
        refine W_region ?_
        refine L_mv (v := .int .i64 n_48) rfl sf7 ?_
        refine L_fa (o' := 3) rfl fa_36_3 sf2 rfl ?_
        refine L_ld (v := .int .i64 r_.bound) rfl Try.isAgg3 rfl (At.cell0 (Blk.at (Star.blkAt 0 hst rfl)) (j := 3) rfl) ?_
        refine L_geq (m := n_48) (n := r_.bound) rfl rfl rfl ?_
        refine L_as (v := .bool (decide (n_48 ≥ r_.bound))) rfl rfl ?_
        refine L_nil ?_
        refine W_ret ?_
        refine retG1 (v1 := .bool (decide (n_48 ≥ r_.bound))) Try.results57 rfl ?_
        obtain rfl := so hF
        exact ⟨rfl, (Star.down (Star.keepN 0 hst) hle50 closedL_nil)⟩
    ·
      have hF := (ite_f hc46).symm.trans hF
      refine W_seq ?_
      refine W_region ?_
      refine L_eql (m := r_.kind) (n := 2) rfl rfl rfl ?_
      refine L_as (v := .bool (r_.kind == 2)) rfl rfl ?_
      refine L_nil ?_
      refine W_cond (b := (r_.kind == 2)) rfl (fun hc79 => ?_) (fun hc79 => ?_)
      ·
        have hF := (ite_t hc79).symm.trans hF
        refine W_seq ?_
        refine W_seq ?_
        refine W_region ?_
        refine L_as (v := .int .i64 0) rfl rfl ?_
        refine L_nil ?_
        have hlen83 : List.length list_12 ≤ 9223372036854775807 := len_le (Star.len 0 hst rfl)
        obtain ⟨j83, hL83, hF⟩ := bind_some hF
        obtain ⟨R83, hR83⟩ : ∃ RR_ : Fr → World → Prop, RR_ = fun f w_ => ∃ H81 : FH, j83 = .nx () ∧ Le H H81 ∧ Star H81 w_ ([]) := ⟨_, rfl⟩
        refine W_join R83 ?_ ?_
        ·
          refine W_block ?_
          obtain ⟨I83, hI83⟩ : ∃ I : Nat → Fr → World → Prop, I = fun n f w_ => ∃ i_80 : Nat, ∃ suf83 : List Int, ∃ H81 : FH, n = suf83.length ∧ List.drop i_80 list_12 = suf83 ∧ i_80 + suf83.length = list_12.length ∧ rangeL (s_l6Holds_b3 list_12) suf83 i_80 () = some j83 ∧ Le H H81 ∧ f 5 = v12_list ∧ f 9 = .int .i64 (i_80 : Int) ∧ Star H81 w_ ([own (OR.ownS 3 (OR.frz RP.int)) [v12_list] list_12]) := ⟨_, rfl⟩
          refine W_loop I83 (n := list_12.length) ?_ ?_
          · rw [hI83]; exact ⟨0, list_12, H, rfl, rfl, Nat.zero_add _, hL83, (Le.refl _), sf5, rfl, (Star.keepN 1 hst)⟩
          ·
            clear hst
            intro n83 f w_ hI
            rw [hI83] at hI
            obtain ⟨i_80, suf83, H81, rfl, hd83, hl83, hL83, hle82, sf5, sf9, hst⟩ := hI
            refine W_seq ?_
            refine W_seq ?_
            refine W_region ?_
            refine L_mv (v := .int .i64 (i_80 : Int)) rfl sf9 ?_
            refine L_mv (v := v12_list) rfl sf5 ?_
            refine L_len (v := v12_list) (n := List.length list_12) rfl Try.underlying23 rfl (Star.len 0 hst rfl) ?_
            refine L_lss (m := (i_80 : Int)) (n := (list_12.length : Int)) rfl rfl rfl ?_
            refine L_nil ?_
            refine W_cond (b := decide ((i_80 : Int) < (list_12.length : Int))) rfl (fun hc84 => ?_) (fun hc84 => ?_)
            ·
              have hlt83 := of_decide_eq_true hc84
              cases suf83 with
              | nil => exact absurd hlt83 (by simp at hl83; omega)
              | cons x_83 rest83 =>
                obtain ⟨o83, hB83, hL83⟩ := range_cons hL83
                rw [s_l6Holds_b3] at hB83
                have hix83 := drop_idx hd83
                refine W_skip ?_
                refine W_seq ?_
                refine W_block ?_
                refine W_seq ?_
                refine W_region ?_
                refine L_as (v := .int .i64 0) rfl rfl ?_
                refine L_nil ?_
                obtain ⟨k89, hk89, hB83⟩ := bind_some hB83
                obtain ⟨j88, hL88, hB83⟩ := bind_some hB83
                obtain ⟨R88, hR88⟩ : ∃ RR_ : Fr → World → Prop, RR_ = fun f w_ => ∃ H86 : FH, j88 = .nx () ∧ Le H81 H86 ∧ f 5 = v12_list ∧ f 9 = .int .i64 (i_80 : Int) ∧ Star H86 w_ ([own (OR.ownS 3 (OR.frz RP.int)) [v12_list] list_12]) := ⟨_, rfl⟩
                refine W_join R88 ?_ ?_
                ·
                  refine W_block ?_
                  obtain ⟨I88, hI88⟩ : ∃ I : Nat → Fr → World → Prop, I = fun n f w_ => ∃ i_85 : Nat, ∃ suf88 : Nat, ∃ H86 : FH, suf88 = n ∧ 0 ≤ i_85 ∧ i_85 + suf88 = 0 + k89 ∧ countL (s_l6Holds_b4 list_12 x_83) suf88 i_85 () = some j88 ∧ Le H81 H86 ∧ f 5 = v12_list ∧ f 9 = .int .i64 (i_80 : Int) ∧ f 10 = .int .i64 (i_85 : Int) ∧ Star H86 w_ ([own (OR.ownS 3 (OR.frz RP.int)) [v12_list] list_12]) := ⟨_, rfl⟩
                  refine W_loop I88 (n := k89) ?_ ?_
                  · rw [hI88]; exact ⟨0, k89, H81, rfl, Nat.le_refl _, rfl, hL88, (Le.refl _), sf5, sf9, rfl, hst⟩
                  ·
                    clear hst
                    intro n88 f w_ hI
                    rw [hI88] at hI
                    obtain ⟨i_85, suf88, H86, rfl, hs88, hl88, hL88, hle87, sf5, sf9, sf10, hst⟩ := hI
                    refine W_seq ?_
                    refine W_seq ?_
                    refine W_region ?_
                    refine L_mv (v := .int .i64 (i_85 : Int)) rfl sf10 ?_
                    refine L_mv (v := .int .i64 (i_80 : Int)) rfl sf9 ?_
                    refine L_lss (m := (i_85 : Int)) (n := (i_80 : Int)) rfl rfl rfl ?_
                    refine L_nil ?_
                    refine W_cond (b := decide ((i_85 : Int) < (i_80 : Int))) rfl (fun hc90 => ?_) (fun hc90 => ?_)
                    ·
                      have hlt88 := of_decide_eq_true hc90
                      cases suf88 with
                      | zero => exact absurd hlt88 (cntF_no hl88 hk89)
                      | succ rest88 =>
                        obtain ⟨o88, hB88, hL88⟩ := count_succ hL88
                        rw [s_l6Holds_b4] at hB88
                        refine W_skip ?_
                        refine W_seq ?_
                        refine W_block ?_
                        refine W_seq ?_
                        obtain ⟨x91, hx91, hB88⟩ := bind_some hB88
                        obtain ⟨g99, cap_g99, hv100, _, _⟩ := Star.row 0 hst rfl hx91
                        refine W_drawS 8 [isV (v12_list), isV (.int .i64 (i_85 : Int)), isV (.pointer (some ⟨g99, Int.toNat (i_85 : Int) * 1, none⟩)), isV (.int .i64 x91), isV (v12_list), isV (.int .i64 (i_80 : Int)), isV (.pointer (some ⟨g99, Int.toNat (i_80 : Int) * 1, none⟩)), isV (.int .i64 x_83)] [own (OR.ownS 3 (OR.frz RP.int)) [v12_list] list_12] [] ([]) [([], []), ([], []), ([], []), ([], []), ([], []), ([], []), ([], []), ([], [])] (S := []) Try_mix (by kernel_rfl) rfl (by kernel_rfl) (amF_cons (mono_V _) (amF_cons (mono_V _) (amF_cons (mono_V _) (amF_cons (mono_V _) (amF_cons (mono_V _) (amF_cons (mono_V _) (amF_cons (mono_V _) (amF_cons (mono_V _) amF_nil)))))))) hst ?_ (fun f w_ H98 hS98 hE98 hT98 hst => ?_)
                        ·
                          refine opsS_cons ?_ ?_
                          ·
                            intro f w_ H98 X98 hS98 hE98 hP98 hst
                            refine L_mv (v := v12_list) rfl ((hS98 5 rfl).trans sf5) ?_
                            exact L_nil ⟨rfl, _, _, _, rfl, rfl, Le.refl _, rfl, hst⟩
                          refine opsS_cons ?_ ?_
                          ·
                            intro f w_ H98 X98 hS98 hE98 hP98 hst
                            refine L_mv (v := .int .i64 (i_85 : Int)) rfl ((hS98 10 rfl).trans sf10) ?_
                            exact L_nil ⟨rfl, _, _, _, rfl, rfl, Le.refl _, rfl, hst⟩
                          refine opsS_cons ?_ ?_
                          ·
                            intro f w_ H98 X98 hS98 hE98 hP98 hst
                            refine L_ixO (R := (OR.frz RP.int)) (tb := 0) 0 rfl Try.underlying23 Try.sizeOf3 (hP98 0 70 rfl rfl) hv100 (by first | rfl | simp) (hP98 1 71 rfl rfl) hx91 ?_
                            exact L_nil ⟨rfl, _, _, _, rfl, rfl, Le.refl _, rfl, hst⟩
                          refine opsS_cons ?_ ?_
                          ·
                            intro f w_ H98 X98 hS98 hE98 hP98 hst
                            obtain ⟨cs105, hr105, hat105⟩ := Star.eltF 0 hst rfl hv100 hx91
                            obtain rfl : _ = [_] := hr105
                            refine L_ld (v := .int .i64 x91) rfl Try.isAgg3 (hP98 2 72 rfl rfl) (At.cell hat105 (j := 0) rfl) ?_
                            exact L_nil ⟨rfl, _, _, _, rfl, rfl, Le.refl _, rfl, hst⟩
                          refine opsS_cons ?_ ?_
                          ·
                            intro f w_ H98 X98 hS98 hE98 hP98 hst
                            refine L_mv (v := v12_list) rfl ((hS98 5 rfl).trans sf5) ?_
                            exact L_nil ⟨rfl, _, _, _, rfl, rfl, Le.refl _, rfl, hst⟩
                          refine opsS_cons ?_ ?_
                          ·
                            intro f w_ H98 X98 hS98 hE98 hP98 hst
                            refine L_mv (v := .int .i64 (i_80 : Int)) rfl ((hS98 9 rfl).trans sf9) ?_
                            exact L_nil ⟨rfl, _, _, _, rfl, rfl, Le.refl _, rfl, hst⟩
                          refine opsS_cons ?_ ?_
                          ·
                            intro f w_ H98 X98 hS98 hE98 hP98 hst
                            refine L_ixO (R := (OR.frz RP.int)) (tb := 0) 0 rfl Try.underlying23 Try.sizeOf3 (hP98 4 74 rfl rfl) hv100 (by first | rfl | simp) (hP98 5 75 rfl rfl) hix83 ?_
                            exact L_nil ⟨rfl, _, _, _, rfl, rfl, Le.refl _, rfl, hst⟩
                          refine opsS_cons ?_ ?_
                          ·
                            intro f w_ H98 X98 hS98 hE98 hP98 hst
                            obtain ⟨cs107, hr107, hat107⟩ := Star.eltF 0 hst rfl hv100 hix83
                            obtain rfl : _ = [_] := hr107
                            refine L_ld (v := .int .i64 x_83) rfl Try.isAgg3 (hP98 6 76 rfl rfl) (At.cell hat107 (j := 0) rfl) ?_
                            exact L_nil ⟨rfl, _, _, _, rfl, rfl, Le.refl _, rfl, hst⟩
                          exact opsS_nil
                        ·
                          refine L_eql (m := x91) (n := x_83) rfl (hT98 3 73 rfl rfl) (hT98 7 77 rfl rfl) ?_
                          refine L_nil ?_
                          refine W_cond (b := (x91 == x_83)) rfl (fun hc109 => ?_) (fun hc109 => ?_)
                          ·
                            have hB88 := (ite_t hc109).symm.trans hB88
                            refine W_seq ?_
                            refine W_region ?_
                            refine L_as (v := .bool false) rfl rfl ?_
                            refine L_nil ?_
                            refine W_ret ?_
                            refine retG1 (v1 := .bool false) Try.results57 rfl ?_
                            obtain rfl := so hB88
                            obtain rfl := so hL88
                            obtain rfl := so hB83
                            obtain rfl := so hL83
                            obtain rfl := so hF
                            exact ⟨rfl, (Star.down (Star.keepN 0 hst) (Le.trans (Le.trans hle82 hle87) hE98) closedL_nil)⟩
                          ·
                            have hB88 := (ite_f hc109).symm.trans hB88
                            refine W_skip ?_
                            refine W_region ?_
                            refine L_mv (v := .int .i64 (i_85 : Int)) rfl ((hS98 10 rfl).trans sf10) ?_
                            refine L_add (m := (i_85 : Int)) (n := 1) rfl rfl rfl ?_
                            refine L_as (v := .int .i64 (i64 ((i_85 : Int) + 1))) rfl rfl ?_
                            refine L_nil ?_
                            obtain rfl := so hB88
                            show ∃ m, m < _ ∧ I88 m _ _
                            refine ⟨rest88, Nat.lt_succ_self _, ?_⟩
                            rw [hI88]
                            exact ⟨i_85 + 1, rest88, H98, rfl, by omega, by omega, hL88, (Le.trans hle87 hE98), ((hS98 5 rfl).trans sf5), ((hS98 9 rfl).trans sf9), (Eq.trans rfl (congrArg (Value.int .i64) (i64_succ (n := 0 + k89) (by omega) (cntF_le hk89)))), hst⟩
                    ·
                      cases suf88 with
                      | succ _ => exact absurd (cntF_yes hs88 hl88 hk89) (of_decide_eq_false hc90)
                      | zero =>
                        obtain rfl := count_zero hL88
                        refine W_exit ?_
                        show R88 _ _
                        rw [hR88]
                        exact ⟨H86, rfl, hle87, sf5, sf9, hst⟩
                ·
                  clear hst
                  intro f w_ hR
                  rw [hR88] at hR
                  obtain ⟨H86, rfl, hle87, sf5, sf9, hst⟩ := hR
                  clear hR88
                  refine W_region ?_
                  refine L_mv (v := .int .i64 (i_80 : Int)) rfl sf9 ?_
                  refine L_add (m := (i_80 : Int)) (n := 1) rfl rfl rfl ?_
                  refine L_as (v := .int .i64 (i64 ((i_80 : Int) + 1))) rfl rfl ?_
                  refine L_nil ?_
                  obtain rfl := so hB83
                  show ∃ m, m < _ ∧ I83 m _ _
                  refine ⟨rest83.length, by simp, ?_⟩
                  rw [hI83]
                  exact ⟨i_80 + 1, rest83, H86, rfl, drop_next hd83, by simp at hl83; omega, hL83, (Le.trans hle82 hle87), sf5, (Eq.trans rfl (congrArg (Value.int .i64) (i64_succ (n := list_12.length) (by simp at hl83; omega) hlen83))), hst⟩
            ·
              cases suf83 with
              | cons _ _ => exact absurd (of_decide_eq_false hc84) (by simp at hl83; omega)
              | nil =>
                obtain rfl := range_nil hL83
                refine W_exit ?_
                show R83 _ _
                rw [hR83]
                exact ⟨H81, rfl, hle82, (Star.keepN 0 hst)⟩
        ·
          clear hst
          intro f w_ hR
          rw [hR83] at hR
          obtain ⟨H81, rfl, hle82, hst⟩ := hR
          clear hR83
          refine W_seq ?_
          refine W_region ?_
          refine L_as (v := .bool true) rfl rfl ?_
          refine L_nil ?_
          refine W_ret ?_
          refine retG1 (v1 := .bool true) Try.results57 rfl ?_
          obtain rfl := so hF
          exact ⟨rfl, (Star.down hst hle82 closedL_nil)⟩
      ·
        have hF := (ite_f hc79).symm.trans hF
        refine W_seq ?_
        refine W_region ?_
        refine L_eql (m := r_.kind) (n := 4) rfl rfl rfl ?_
        refine L_as (v := .bool (r_.kind == 4)) rfl rfl ?_
        refine L_nil ?_
        refine W_cond (b := (r_.kind == 4)) rfl (fun hc110 => ?_) (fun hc110 => ?_)
        ·
          have hF := (ite_t hc110).symm.trans hF
          refine W_seq ?_
          obtain ⟨x111, hx111, hF⟩ := bind_some hF
          obtain ⟨x116, hx116, hF⟩ := bind_some hF
          have hst := Star.drop 1 hst rfl
          obtain ⟨g120, cap_g120, hv121, _, _⟩ := Star.row 0 hst rfl hx111
          refine W_drawS 6 [isV (v12_list), isV (.pointer (some ⟨g120, Int.toNat 0 * 1, none⟩)), isV (.int .i64 x111), isV (v12_list), isV (.pointer (some ⟨g120, Int.toNat 1 * 1, none⟩)), isV (.int .i64 x116)] [own (OR.ownS 3 (OR.frz RP.int)) [v12_list] list_12] [] ([]) [([], []), ([], []), ([], []), ([], []), ([], []), ([], [])] (S := []) Try_mix (by kernel_rfl) rfl (by kernel_rfl) (amF_cons (mono_V _) (amF_cons (mono_V _) (amF_cons (mono_V _) (amF_cons (mono_V _) (amF_cons (mono_V _) (amF_cons (mono_V _) amF_nil)))))) hst ?_ (fun f w_ H119 hS119 hE119 hT119 hst => ?_)
          ·
            refine opsS_cons ?_ ?_
            ·
              intro f w_ H119 X119 hS119 hE119 hP119 hst
              refine L_mv (v := v12_list) rfl ((hS119 5 rfl).trans sf5) ?_
              exact L_nil ⟨rfl, _, _, _, rfl, rfl, Le.refl _, rfl, hst⟩
            refine opsS_cons ?_ ?_
            ·
              intro f w_ H119 X119 hS119 hE119 hP119 hst
              refine L_ixO (R := (OR.frz RP.int)) (tb := 0) 0 rfl Try.underlying23 Try.sizeOf3 (hP119 0 81 rfl rfl) hv121 (by first | rfl | simp) rfl hx111 ?_
              exact L_nil ⟨rfl, _, _, _, rfl, rfl, Le.refl _, rfl, hst⟩
            refine opsS_cons ?_ ?_
            ·
              intro f w_ H119 X119 hS119 hE119 hP119 hst
              obtain ⟨cs126, hr126, hat126⟩ := Star.eltF 0 hst rfl hv121 hx111
              obtain rfl : _ = [_] := hr126
              refine L_ld (v := .int .i64 x111) rfl Try.isAgg3 (hP119 1 82 rfl rfl) (At.cell hat126 (j := 0) rfl) ?_
              exact L_nil ⟨rfl, _, _, _, rfl, rfl, Le.refl _, rfl, hst⟩
            refine opsS_cons ?_ ?_
            ·
              intro f w_ H119 X119 hS119 hE119 hP119 hst
              refine L_mv (v := v12_list) rfl ((hS119 5 rfl).trans sf5) ?_
              exact L_nil ⟨rfl, _, _, _, rfl, rfl, Le.refl _, rfl, hst⟩
            refine opsS_cons ?_ ?_
            ·
              intro f w_ H119 X119 hS119 hE119 hP119 hst
              refine L_ixO (R := (OR.frz RP.int)) (tb := 0) 0 rfl Try.underlying23 Try.sizeOf3 (hP119 3 84 rfl rfl) hv121 (by first | rfl | simp) rfl hx116 ?_
              exact L_nil ⟨rfl, _, _, _, rfl, rfl, Le.refl _, rfl, hst⟩
            refine opsS_cons ?_ ?_
            ·
              intro f w_ H119 X119 hS119 hE119 hP119 hst
              obtain ⟨cs128, hr128, hat128⟩ := Star.eltF 0 hst rfl hv121 hx116
              obtain rfl : _ = [_] := hr128
              refine L_ld (v := .int .i64 x116) rfl Try.isAgg3 (hP119 4 85 rfl rfl) (At.cell hat128 (j := 0) rfl) ?_
              exact L_nil ⟨rfl, _, _, _, rfl, rfl, Le.refl _, rfl, hst⟩
            exact opsS_nil
          ·
            refine L_lss (m := x111) (n := x116) rfl (hT119 2 83 rfl rfl) (hT119 5 86 rfl rfl) ?_
            refine L_as (v := .bool (decide (x111 < x116))) rfl rfl ?_
            refine L_nil ?_
            refine W_ret ?_
            refine retG1 (v1 := .bool (decide (x111 < x116))) Try.results57 rfl ?_
            obtain rfl := so hF
            exact ⟨rfl, (Star.down (Star.keepN 0 hst) hE119 closedL_nil)⟩
        ·
          have hF := (ite_f hc110).symm.trans hF
          refine W_skip ?_
          refine W_seq ?_
          refine W_seq ?_
          refine W_region ?_
          refine L_as (v := .int .i64 0) rfl rfl ?_
          refine L_nil ?_
          have hlen131 : List.length r_.rows ≤ 9223372036854775807 := len_le (slice_len h0_4)
          obtain ⟨j131, hL131, hF⟩ := bind_some hF
          obtain ⟨R131, hR131⟩ : ∃ RR_ : Fr → World → Prop, RR_ = fun f w_ => j131 = .nx () ∧ Star H w_ ([]) := ⟨_, rfl⟩
          refine W_join R131 ?_ ?_
          ·
            refine W_block ?_
            obtain ⟨I131, hI131⟩ : ∃ I : Nat → Fr → World → Prop, I = fun n f w_ => ∃ i_130 : Nat, ∃ suf131 : List (List Int), n = suf131.length ∧ List.drop i_130 r_.rows = suf131 ∧ i_130 + suf131.length = r_.rows.length ∧ rangeL (s_l6Holds_b5 list_12) suf131 i_130 () = some j131 ∧ f 2 = .pointer (some ⟨g3, 0, none⟩) ∧ f 5 = v12_list ∧ f 11 = .int .i64 (i_130 : Int) ∧ Star H w_ ([own (OR.ownS 3 (OR.frz RP.int)) [v12_list] list_12, box g3 36 #[.int .i64 r_.kind, v0_1, v0_2, .int .i64 r_.bound, v0_4]]) := ⟨_, rfl⟩
            refine W_loop I131 (n := r_.rows.length) ?_ ?_
            · rw [hI131]; exact ⟨0, r_.rows, rfl, rfl, Nat.zero_add _, hL131, sf2, sf5, rfl, hst⟩
            ·
              clear hst
              intro n131 f w_ hI
              rw [hI131] at hI
              obtain ⟨i_130, suf131, rfl, hd131, hl131, hL131, sf2, sf5, sf11, hst⟩ := hI
              refine W_seq ?_
              refine W_seq ?_
              refine W_region ?_
              refine L_mv (v := .int .i64 (i_130 : Int)) rfl sf11 ?_
              refine L_fa (o' := 4) rfl fa_36_4 sf2 rfl ?_
              refine L_ld (v := v0_4) rfl Try.isAgg34 rfl (At.cell0 (Blk.at (Star.blkAt 1 hst rfl)) (j := 4) rfl) ?_
              refine L_len (v := v0_4) (n := List.length r_.rows) rfl Try.underlying34 rfl (slice_len h0_4) ?_
              refine L_lss (m := (i_130 : Int)) (n := (r_.rows.length : Int)) rfl rfl rfl ?_
              refine L_nil ?_
              refine W_cond (b := decide ((i_130 : Int) < (r_.rows.length : Int))) rfl (fun hc132 => ?_) (fun hc132 => ?_)
              ·
                have hlt131 := of_decide_eq_true hc132
                cases suf131 with
                | nil => exact absurd hlt131 (by simp at hl131; omega)
                | cons x_131 rest131 =>
                  obtain ⟨o131, hB131, hL131⟩ := range_cons hL131
                  rw [s_l6Holds_b5] at hB131
                  have hix131 := drop_idx hd131
                  refine W_skip ?_
                  refine W_seq ?_
                  refine W_block ?_
                  refine W_seq ?_
                  obtain ⟨x143, hx143, hB131⟩ := bind_some hB131
                  refine W_region ?_
                  refine L_fa (o' := 4) rfl fa_36_4 sf2 rfl ?_
                  refine L_ld (v := v0_4) rfl Try.isAgg34 rfl (At.cell0 (Blk.at (Star.blkAt 1 hst rfl)) (j := 4) rfl) ?_
                  refine L_mv (v := .int .i64 (i_130 : Int)) rfl sf11 ?_
                  refine L_ix (r := (RP.slice 3 RP.int)) rfl Try.underlying34 Try.sizeOf23 rfl h0_4 rfl hix131 ?_
                  intro g145 o146 cs_g145 hrk_hat147 hat147
                  obtain ⟨u148, rfl, hu148⟩ := slice1 hrk_hat147
                  refine L_ld (v := u148) rfl Try.isAgg23 rfl (At.cell (AtH.at hat147 hst.sub) (j := 0) rfl) ?_
                  refine L_mv (v := v12_list) rfl sf5 ?_
                  obtain ⟨Hb149, hle150, hsb151, hfz152, hbk153⟩ := Star.borrow hst
                  have hb154 : (RP.slice 3 RP.int).rel Hb149 [v12_list] list_12 := fz_own 0 hfz152 rfl
                  refine L_call (args := #[u148, v12_list]) rfl Try.call84 (ops2 rfl rfl) (s_l6Ints_c (a := x_131) (b := list_12) hsb151 (RP.mono _ hu148 hle150) hb154 hx143) ?_
                  rintro _ w155 ⟨rfl, hst⟩
                  have hst := hbk153 hst closedL_nil
                  refine L_nil ?_
                  refine W_cond (b := x143) rfl (fun hc156 => ?_) (fun hc156 => ?_)
                  ·
                    have hB131 := (ite_t hc156).symm.trans hB131
                    refine W_seq ?_
                    refine W_region ?_
                    refine L_as (v := .bool true) rfl rfl ?_
                    refine L_nil ?_
                    refine W_ret ?_
                    refine retG1 (v1 := .bool true) Try.results57 rfl ?_
                    obtain rfl := so hB131
                    obtain rfl := so hL131
                    obtain rfl := so hF
                    exact ⟨rfl, (Star.keepN 0 hst)⟩
                  ·
                    have hB131 := (ite_f hc156).symm.trans hB131
                    refine W_skip ?_
                    refine W_region ?_
                    refine L_mv (v := .int .i64 (i_130 : Int)) rfl sf11 ?_
                    refine L_add (m := (i_130 : Int)) (n := 1) rfl rfl rfl ?_
                    refine L_as (v := .int .i64 (i64 ((i_130 : Int) + 1))) rfl rfl ?_
                    refine L_nil ?_
                    obtain rfl := so hB131
                    show ∃ m, m < _ ∧ I131 m _ _
                    refine ⟨rest131.length, by simp, ?_⟩
                    rw [hI131]
                    exact ⟨i_130 + 1, rest131, rfl, drop_next hd131, by simp at hl131; omega, hL131, sf2, sf5, (Eq.trans rfl (congrArg (Value.int .i64) (i64_succ (n := r_.rows.length) (by simp at hl131; omega) hlen131))), hst⟩
              ·
                cases suf131 with
                | cons _ _ => exact absurd (of_decide_eq_false hc132) (by simp at hl131; omega)
                | nil =>
                  obtain rfl := range_nil hL131
                  refine W_exit ?_
                  show R131 _ _
                  rw [hR131]
                  exact ⟨rfl, (Star.keepN 0 hst)⟩
          ·
            clear hst
            intro f w_ hR
            rw [hR131] at hR
            obtain ⟨rfl, hst⟩ := hR
            clear hR131
            refine W_seq ?_
            refine W_region ?_
            refine L_as (v := .bool false) rfl rfl ?_
            refine L_nil ?_
            refine W_ret ?_
            refine retG1 (v1 := .bool false) Try.results57 rfl ?_
            obtain rfl := so hF
            exact ⟨rfl, hst⟩

theorem i_Model_solves_1_c {c1 : List Int} {r_ : Rule} {v0_1 : Value} {v0_2 : Value} {v0_4 : Value} {g_c1 : Nat} {v1_0 : Value} {H : FH} {w : World} (hst : Star H w []) (h0_1 : (RP.slice 3 RP.int).rel H [v0_1] r_.vars) (h0_2 : (RP.slice 3 RP.int).rel H [v0_2] r_.coefs) (h0_4 : (RP.slice 23 (RP.slice 3 RP.int)).rel H [v0_4] r_.rows) (hat_g_c1 : AtH H g_c1 0 [v1_0]) (h1_0 : (RP.slice 3 RP.int).rel H [v1_0] c1) {r : Bool} (hF : i_Model_solves_1 c1 r_ = some r) :
    C Try.prog 85 #[.agg #[.int .i64 r_.kind, v0_1, v0_2, .int .i64 r_.bound, v0_4], .pointer (some ⟨g_c1, 0, none⟩)] w fun v w' => v = .bool r ∧ Star H w' [] := by
  unfold i_Model_solves_1 at hF
  refine C_enter Try.func85 rfl Try.ntmps85 rfl ?_
  refine W_seq ?_
  refine W_region ?_
  refine L_box (v := .agg #[.int .i64 r_.kind, v0_1, v0_2, .int .i64 r_.bound, v0_4]) (cs := #[.int .i64 r_.kind, v0_1, v0_2, .int .i64 r_.bound, v0_4]) rfl rfl rfl hst ?_
  intro g3 w4 hst
  refine L_as (v := .bool false) rfl rfl ?_
  refine L_nil ?_
  refine W_seq ?_
  obtain ⟨x10, hx10, hF⟩ := bind_some hF
  refine W_region ?_
  refine L_lda (cs := [.int .i64 r_.kind, v0_1, v0_2, .int .i64 r_.bound, v0_4]) rfl Try.isAgg36 Try.sizeOf36 rfl (At.sub0 (Blk.at (Star.blkAt 0 hst rfl)) 0 5) rfl ?_
  refine L_ld (v := v1_0) rfl Try.isAgg23 rfl (At.cell0 (AtH.at hat_g_c1 hst.sub) (j := 0) rfl) ?_
  obtain ⟨Hb12, hle13, hsb14, hfz15, hbk16⟩ := Star.borrow hst
  refine L_call (args := #[.agg #[.int .i64 r_.kind, v0_1, v0_2, .int .i64 r_.bound, v0_4], v1_0]) rfl Try.call56 (ops2 rfl rfl) (i_Rule_at_c (r_ := r_) (cells := c1) hsb14 (RP.mono _ h0_1 hle13) (RP.mono _ h0_2 hle13) (RP.mono _ h0_4 hle13) (RP.mono _ h1_0 hle13) hx10) ?_
  rintro _ w17 ⟨rfl, hst⟩
  have hst := hbk16 hst closedL_nil
  refine L_not_ (b := x10) rfl rfl ?_
  refine L_as (v := .bool (!x10)) rfl rfl ?_
  refine L_nil ?_
  refine W_ret ?_
  refine retG1 (v1 := .bool (!x10)) Try.results85 rfl ?_
  obtain rfl := so hF
  exact ⟨rfl, (Star.keepN 0 hst)⟩

theorem i_Model_solves_c {m : Model} {cells : List Int} {v0_0 : Value} {v0_1 : Value} {v1 : Value} {H : FH} {w : World} (hst : Star H w []) (h0_0 : (RP.slice 3 RP.int).rel H [v0_0] m.sizes) (h0_1 : (RP.slice 36 (rRule 3 23)).rel H [v0_1] m.rules) (h1 : (RP.slice 3 RP.int).rel H [v1] cells) {r : Bool} (hF : i_Model_solves m cells = some r) :
    C Try.prog 59 #[.agg #[v0_0, v0_1], v1] w fun v w' => v = .bool r ∧ Star H w' [] := by
  unfold i_Model_solves at hF
  refine C_enter Try.func59 rfl Try.ntmps59 rfl ?_
  refine W_seq ?_
  refine W_region ?_
  refine L_box (v := .agg #[v0_0, v0_1]) (cs := #[v0_0, v0_1]) rfl rfl rfl hst ?_
  intro g5 w6 hst
  refine L_box (v := v1) (cs := #[v1]) rfl rfl (cells_one (one_len (slice_len h1))) hst ?_
  intro g7 w8 hst
  refine L_as (v := .bool false) rfl rfl ?_
  refine L_nil ?_
  refine W_seq ?_
  obtain ⟨x14, hx14, hF⟩ := bind_some hF
  refine W_region ?_
  refine L_fa (o' := 1) rfl fa_26_1 rfl rfl ?_
  refine L_ld (v := v0_1) rfl Try.isAgg24 rfl (At.cell0 (Blk.at (Star.blkAt 1 hst rfl)) (j := 1) rfl) ?_
  refine L_mf rfl (ops1 rfl) ?_
  obtain ⟨Hb16, hle17, hsb18, hfz19, hbk20⟩ := Star.borrow hst
  have hf21 : Fun1 Try.prog (rRule 3 23) true Value.bool (i_Model_solves_1 cells) (.func (.func 85) #[] #[.pointer (some ⟨g7, 0, none⟩)]) Hb16 := by
    refine ⟨_, _, rfl, Try.call85, fun H_ w_ hE_ hs_ cs_ x_ y_ args_ hr_ hy_ ha_ => ?_⟩
    obtain ⟨p_0, p_1, p_2, rfl, hp_0, hp_1, hp_2⟩ := rRule_iff.1 hr_
    obtain rfl := args_of (b := #[.agg #[.int .i64 x_.kind, p_0, p_1, .int .i64 x_.bound, p_2], .pointer (some ⟨g7, 0, none⟩)]) ha_
    exact i_Model_solves_1_c (c1 := cells) (r_ := x_) hs_ hp_0 hp_1 hp_2 (AtH.le (AtH.of (fz_box 0 hfz19 rfl)) hE_) (RP.mono _ (RP.mono _ h1 hle17) hE_) hy_
  refine L_call (args := #[v0_1, .func (.func 85) #[] #[.pointer (some ⟨g7, 0, none⟩)]]) rfl Try.call66 (ops2 rfl rfl) (slices_ContainsFunc_implRule_c (s := m.rules) (f_ := (i_Model_solves_1 cells)) hsb18 (RP.mono _ h0_1 hle17) hf21 hx14) ?_
  rintro _ w22 ⟨rfl, hst⟩
  have hst := hbk20 hst closedL_nil
  refine L_not_ (b := x14) rfl rfl ?_
  refine L_as (v := .bool (!x14)) rfl rfl ?_
  refine L_nil ?_
  refine W_ret ?_
  refine retG1 (v1 := .bool (!x14)) Try.results59 rfl ?_
  obtain rfl := so hF
  exact ⟨rfl, (Star.keepN 0 hst)⟩

theorem s_l6Solves_c {m : Model} {cells : List Int} {v0_0 : Value} {v0_1 : Value} {v1 : Value} {H : FH} {w : World} (hst : Star H w []) (h0_0 : (RP.slice 3 RP.int).rel H [v0_0] m.sizes) (h0_1 : (RP.slice 36 (rRule 3 23)).rel H [v0_1] m.rules) (h1 : (RP.slice 3 RP.int).rel H [v1] cells) {r : Bool} (hF : s_l6Solves m cells = some r) :
    C Try.prog 60 #[.agg #[v0_0, v0_1], v1] w fun v w' => v = .bool r ∧ Star H w' [] := by
  unfold s_l6Solves at hF
  refine C_enter Try.func60 rfl Try.ntmps60 rfl ?_
  refine W_seq ?_
  refine W_region ?_
  refine L_box (v := .agg #[v0_0, v0_1]) (cs := #[v0_0, v0_1]) rfl rfl rfl hst ?_
  intro g3 w4 hst
  refine L_as (v := .bool false) rfl rfl ?_
  refine L_nil ?_
  refine W_seq ?_
  refine W_seq ?_
  refine W_region ?_
  refine L_as (v := .int .i64 0) rfl rfl ?_
  refine L_nil ?_
  have hlen6 : List.length m.rules ≤ 9223372036854775807 := len_le (slice_len h0_1)
  obtain ⟨j6, hL6, hF⟩ := bind_some hF
  obtain ⟨R6, hR6⟩ : ∃ RR_ : Fr → World → Prop, RR_ = fun f w_ => j6 = .nx () ∧ Star H w_ ([]) := ⟨_, rfl⟩
  refine W_join R6 ?_ ?_
  ·
    refine W_block ?_
    obtain ⟨I6, hI6⟩ : ∃ I : Nat → Fr → World → Prop, I = fun n f w_ => ∃ i_5 : Nat, ∃ suf6 : List Rule, n = suf6.length ∧ List.drop i_5 m.rules = suf6 ∧ i_5 + suf6.length = m.rules.length ∧ rangeL (s_l6Solves_b1 cells) suf6 i_5 () = some j6 ∧ f 1 = v1 ∧ f 2 = .pointer (some ⟨g3, 0, none⟩) ∧ f 5 = .int .i64 (i_5 : Int) ∧ Star H w_ ([box g3 26 #[v0_0, v0_1]]) := ⟨_, rfl⟩
    refine W_loop I6 (n := m.rules.length) ?_ ?_
    · rw [hI6]; exact ⟨0, m.rules, rfl, rfl, Nat.zero_add _, hL6, rfl, rfl, rfl, hst⟩
    ·
      clear hst
      intro n6 f w_ hI
      rw [hI6] at hI
      obtain ⟨i_5, suf6, rfl, hd6, hl6, hL6, sf1, sf2, sf5, hst⟩ := hI
      refine W_seq ?_
      refine W_seq ?_
      refine W_region ?_
      refine L_mv (v := .int .i64 (i_5 : Int)) rfl sf5 ?_
      refine L_fa (o' := 1) rfl fa_26_1 sf2 rfl ?_
      refine L_ld (v := v0_1) rfl Try.isAgg24 rfl (At.cell0 (Blk.at (Star.blkAt 0 hst rfl)) (j := 1) rfl) ?_
      refine L_len (v := v0_1) (n := List.length m.rules) rfl Try.underlying24 rfl (slice_len h0_1) ?_
      refine L_lss (m := (i_5 : Int)) (n := (m.rules.length : Int)) rfl rfl rfl ?_
      refine L_nil ?_
      refine W_cond (b := decide ((i_5 : Int) < (m.rules.length : Int))) rfl (fun hc7 => ?_) (fun hc7 => ?_)
      ·
        have hlt6 := of_decide_eq_true hc7
        cases suf6 with
        | nil => exact absurd hlt6 (by simp at hl6; omega)
        | cons x_6 rest6 =>
          obtain ⟨o6, hB6, hL6⟩ := range_cons hL6
          rw [s_l6Solves_b1] at hB6
          have hix6 := drop_idx hd6
          refine W_skip ?_
          refine W_seq ?_
          refine W_block ?_
          refine W_seq ?_
          obtain ⟨x17, hx17, hB6⟩ := bind_some hB6
          refine W_region ?_
          refine L_fa (o' := 1) rfl fa_26_1 sf2 rfl ?_
          refine L_ld (v := v0_1) rfl Try.isAgg24 rfl (At.cell0 (Blk.at (Star.blkAt 0 hst rfl)) (j := 1) rfl) ?_
          refine L_mv (v := .int .i64 (i_5 : Int)) rfl sf5 ?_
          refine L_ix (r := (rRule 3 23)) rfl Try.underlying24 Try.sizeOf36 rfl h0_1 rfl hix6 ?_
          intro g19 o20 cs_g19 hrk_hat21 hat21
          obtain ⟨u22_0, u22_1, u22_2, rfl, hu22_0, hu22_1, hu22_2⟩ := rRule_iff.1 hrk_hat21
          refine L_lda (cs := [.int .i64 x_6.kind, u22_0, u22_1, .int .i64 x_6.bound, u22_2]) rfl Try.isAgg36 Try.sizeOf36 rfl (At.sub (AtH.at hat21 hst.sub) 0 5) rfl ?_
          refine L_mv (v := v1) rfl sf1 ?_
          obtain ⟨Hb23, hle24, hsb25, hfz26, hbk27⟩ := Star.borrow hst
          refine L_call (args := #[.agg #[.int .i64 x_6.kind, u22_0, u22_1, .int .i64 x_6.bound, u22_2], v1]) rfl Try.call57 (ops2 rfl rfl) (s_l6Holds_c (r_ := x_6) (cells := cells) hsb25 (RP.mono _ hu22_0 hle24) (RP.mono _ hu22_1 hle24) (RP.mono _ hu22_2 hle24) (RP.mono _ h1 hle24) hx17) ?_
          rintro _ w28 ⟨rfl, hst⟩
          have hst := hbk27 hst closedL_nil
          refine L_not_ (b := x17) rfl rfl ?_
          refine L_nil ?_
          refine W_cond (b := (!x17)) rfl (fun hc29 => ?_) (fun hc29 => ?_)
          ·
            have hB6 := (ite_t hc29).symm.trans hB6
            refine W_seq ?_
            refine W_region ?_
            refine L_as (v := .bool false) rfl rfl ?_
            refine L_nil ?_
            refine W_ret ?_
            refine retG1 (v1 := .bool false) Try.results60 rfl ?_
            obtain rfl := so hB6
            obtain rfl := so hL6
            obtain rfl := so hF
            exact ⟨rfl, (Star.keepN 0 hst)⟩
          ·
            have hB6 := (ite_f hc29).symm.trans hB6
            refine W_skip ?_
            refine W_region ?_
            refine L_mv (v := .int .i64 (i_5 : Int)) rfl sf5 ?_
            refine L_add (m := (i_5 : Int)) (n := 1) rfl rfl rfl ?_
            refine L_as (v := .int .i64 (i64 ((i_5 : Int) + 1))) rfl rfl ?_
            refine L_nil ?_
            obtain rfl := so hB6
            show ∃ m, m < _ ∧ I6 m _ _
            refine ⟨rest6.length, by simp, ?_⟩
            rw [hI6]
            exact ⟨i_5 + 1, rest6, rfl, drop_next hd6, by simp at hl6; omega, hL6, sf1, sf2, (Eq.trans rfl (congrArg (Value.int .i64) (i64_succ (n := m.rules.length) (by simp at hl6; omega) hlen6))), hst⟩
      ·
        cases suf6 with
        | cons _ _ => exact absurd (of_decide_eq_false hc7) (by simp at hl6; omega)
        | nil =>
          obtain rfl := range_nil hL6
          refine W_exit ?_
          show R6 _ _
          rw [hR6]
          exact ⟨rfl, (Star.keepN 0 hst)⟩
  ·
    clear hst
    intro f w_ hR
    rw [hR6] at hR
    obtain ⟨rfl, hst⟩ := hR
    clear hR6
    refine W_seq ?_
    refine W_region ?_
    refine L_as (v := .bool true) rfl rfl ?_
    refine L_nil ?_
    refine W_ret ?_
    refine retG1 (v1 := .bool true) Try.results60 rfl ?_
    obtain rfl := so hF
    exact ⟨rfl, hst⟩

theorem s_DrawModelValid_c {fu : Nat} {code : List UInt8} {v0 : Value} {H : FH} {w : World} {R : List Ass} (hst : Star H w R) (h0 : (RP.slice 5 RP.u8).rel H [v0] code) {r : Unit} (hF : s_DrawModelValid fu code = some r) :
    C Try.prog 62 #[v0] w fun v w' => ∃ o : Model, (sModel o) ∧ ∃ H' : FH, Le H H' ∧ ∃ (u1 : Value) (u2 : Value), v = .agg #[u1, u2] ∧ (RP.slice 3 RP.int).rel H' [u1] o.sizes ∧ (RP.slice 36 (rRule 3 23)).rel H' [u2] o.rules ∧ Star H' w' (R) := by
  unfold s_DrawModelValid at hF
  refine C_enter Try.func62 rfl Try.ntmps62 rfl ?_
  refine W_seq ?_
  refine W_region ?_
  refine L_al (cs := #[(.slice none 0 0), (.slice none 0 0)]) rfl Try.zeroValue26 rfl hst ?_
  intro g3 w4 hst
  refine L_nil ?_
  refine W_seq ?_
  obtain ⟨x5, hx5, hF⟩ := bind_some hF
  refine W_region ?_
  refine L_mv (v := v0) rfl rfl ?_
  refine L_call (args := #[v0]) rfl Try.call46 (ops1 rfl) (s_l17Open_c (code := code) hst h0 hx5) ?_
  rintro _ w7 ⟨H7, hle7, r7_0, r7_1, rfl, hr7_1, hst⟩
  refine L_as (v := .pointer (some ⟨r7_0, 0, none⟩)) rfl rfl ?_
  refine L_nil ?_
  refine W_seq ?_
  obtain ⟨x8, hx8, hF⟩ := bind_some hF
  obtain ⟨hx14, hF⟩ := anyB_some hF
  refine W_region ?_
  refine L_mv (v := .pointer (some ⟨r7_0, 0, none⟩)) rfl rfl ?_
  refine L_mv (v := .pointer (some ⟨r7_0, 0, none⟩)) rfl rfl ?_
  refine L_call (args := #[.pointer (some ⟨r7_0, 0, none⟩)]) rfl Try.call48 (ops1 rfl) (s_l6Model_c (r_ := x5) hst hr7_1 hx8) ?_
  rintro _ w17 ⟨H17, hle17, r17_0, r17_1, rfl, hr17_0, hst⟩
  obtain ⟨H19, hle20, hst, hz21⟩ := Star.freeze hst
  have hz21 : (RP.slice 36 (rRule 3 23)).rel H19 [r17_1] x8.1.rules := hz21
  refine L_call (args := #[.pointer (some ⟨r7_0, 0, none⟩), .agg #[r17_0, r17_1]]) rfl Try.call47 (ops2 rfl rfl) (s_l6Mutate_c (r_ := ({ b := x5.b, p := x8.2 } : Rd)) (m := x8.1) hst (RP.mono _ hr7_1 (Le.trans hle17 hle20)) (RP.mono _ hr17_0 hle20) hz21 hx14) ?_
  rintro _ w22 ⟨x14, gd22, H22, hle22, r22_0, r22_1, rfl, hr22_0, hr22_1, hst⟩
  have hF := hF x14 gd22
  refine L_staB (vs := #[r22_0, r22_1]) (cs2 := #[r22_0, r22_1]) 1 rfl Try.sizeOf26 rfl rfl rfl (ones_cons (one_len (slice_len hr22_0)) (ones_cons (one_len (slice_len hr22_1)) ones_nil)) hst rfl (by decide) rfl ?_
  intro w23 hst
  refine L_nil ?_
  refine W_ret ?_
  refine retG1 (v1 := .agg #[r22_0, r22_1]) Try.results62 (resV_agg Try.isAgg26 Try.sizeOf26 rfl (Star.blkAt 0 hst rfl) rfl) ?_
  have hG := assertM_some hF
  have hst := Star.drop 0 hst rfl
  have hst := Star.drop 0 hst rfl
  exact ⟨x14.1, hG, H22, (Le.trans (Le.trans (Le.trans hle7 hle17) hle20) hle22), r22_0, r22_1, rfl, hr22_0, hr22_1, hst⟩

theorem s_DrawCountModel_c {fu : Nat} {code : List UInt8} {v0 : Value} {H : FH} {w : World} {R : List Ass} (hst : Star H w R) (h0 : (RP.slice 5 RP.u8).rel H [v0] code) {r : Unit} (hF : s_DrawCountModel fu code = some r) :
    C Try.prog 25 #[v0] w fun v w' => ∃ o : Model, (sModel o) ∧ ∃ H' : FH, Le H H' ∧ ∃ (u1 : Value) (u2 : Value), v = .agg #[u1, u2] ∧ (RP.slice 3 RP.int).rel H' [u1] o.sizes ∧ (RP.slice 36 (rRule 3 23)).rel H' [u2] o.rules ∧ Star H' w' (R) := by
  unfold s_DrawCountModel at hF
  refine C_enter Try.func25 rfl Try.ntmps25 rfl ?_
  refine W_seq ?_
  refine W_region ?_
  refine L_al (cs := #[(.slice none 0 0), (.slice none 0 0)]) rfl Try.zeroValue26 rfl hst ?_
  intro g3 w4 hst
  refine L_nil ?_
  refine W_seq ?_
  obtain ⟨hx5, hF⟩ := anyB_some hF
  refine W_region ?_
  refine L_mv (v := v0) rfl rfl ?_
  refine L_call (args := #[v0]) rfl Try.call62 (ops1 rfl) (s_DrawModelValid_c (code := code) hst h0 hx5) ?_
  rintro _ w8 ⟨x5, gd8, H8, hle8, r8_0, r8_1, rfl, hr8_0, hr8_1, hst⟩
  have hF := hF x5 gd8
  refine L_staB (vs := #[r8_0, r8_1]) (cs2 := #[r8_0, r8_1]) 0 rfl Try.sizeOf26 rfl rfl rfl (ones_cons (one_len (slice_len hr8_0)) (ones_cons (one_len (slice_len hr8_1)) ones_nil)) hst rfl (by decide) rfl ?_
  intro w9 hst
  refine L_nil ?_
  refine W_ret ?_
  refine retG1 (v1 := .agg #[r8_0, r8_1]) Try.results25 (resV_agg Try.isAgg26 Try.sizeOf26 rfl (Star.blkAt 0 hst rfl) rfl) ?_
  have hG := assertM_some hF
  have hst := Star.drop 0 hst rfl
  exact ⟨x5, hG, H8, hle8, r8_0, r8_1, rfl, hr8_0, hr8_1, hst⟩

theorem slices_Clone_int_c {s : List Int} {v0 : Value} {H : FH} {w : World} (hst : Star H w []) (h0 : (RP.slice 3 RP.int).rel H [v0] s) {r : List Int} (hF : slices_Clone_int s = some r) :
    C Try.prog 74 #[v0] w fun v w' => ∃ (u1 : Value), v = u1 ∧ Star H w' [own (OR.ownS 3 (OR.frz RP.int)) [u1] r] := by
  unfold slices_Clone_int at hF
  refine C_enter Try.func74 rfl Try.ntmps74 rfl ?_
  refine W_seq ?_
  refine W_region ?_
  refine L_as (v := (.slice none 0 0)) rfl rfl ?_
  refine L_nil ?_
  refine W_seq ?_
  refine W_seq ?_
  refine W_region ?_
  refine L_mv (v := v0) rfl rfl ?_
  obtain ⟨a1, cap1, hsl1, _, _⟩ := (slice_len h0)
  refine L_nileq (a := a1) rfl Try.underlying23 (Eq.trans rfl hsl1) rfl ?_
  rw [← hsl1]
  refine L_nil ?_
  rcases Bool.eq_false_or_eq_true (isNilS v0) with hn2 | hn2
  ·
    refine W_cond (b := true) (Eq.trans rfl (congrArg Value.bool hn2)) (fun _ => ?_) (fun h => nomatch h)
    obtain rfl := nil_of h0 hn2
    refine W_seq ?_
    refine W_region ?_
    refine L_as (v := (.slice none 0 0)) rfl rfl ?_
    refine L_nil ?_
    refine W_ret ?_
    refine retG1 (v1 := (.slice none 0 0)) Try.results74 rfl ?_
    simp [app] at hF
    subst hF
    have hst := Star.addNil (R := (OR.frz RP.int)) (e := 3) hst
    exact ⟨(.slice none 0 0), rfl, hst⟩
  ·
    refine W_cond (b := false) (Eq.trans rfl (congrArg Value.bool hn2)) (fun h => nomatch h) (fun _ => ?_)
    refine W_skip ?_
    refine W_seq ?_
    obtain ⟨x7, hx7, hF⟩ := bind_some hF
    refine W_region ?_
    refine L_bs rfl parts0 (bs_23_0  ) hst ?_
    intro g11 w12 hst
    have hst := Star.mkRow (R := (OR.frz RP.int)) [] [] 0 hst rfl rfl rfl (by decide)
    refine L_mv (v := v0) rfl rfl ?_
    refine L_app (v := (.slice (some ⟨g11, 0, none⟩) 0 0)) (u := v0) rfl et_23 rfl rfl hst h0 hx7 ?_
    intro v14 w15 hst
    refine L_as (v := v14) rfl rfl ?_
    refine L_nil ?_
    refine W_ret ?_
    refine retG1 (v1 := v14) Try.results74 rfl ?_
    obtain rfl := so hF
    exact ⟨v14, rfl, hst⟩

theorem i_each_c {fu : Nat} {sizes : List Int} {from_ : List Int} {told : ((List Int) → Option Bool)} {v0 : Value} {v1 : Value} {v2 : Value} {H : FH} {w : World} (hst : Star H w []) (h0 : (RP.slice 3 RP.int).rel H [v0] sizes) (h1 : (RP.slice 3 RP.int).rel H [v1] from_) (h2 : Fun1 Try.prog (RP.slice 3 RP.int) false Value.bool told v2 H) {r : Unit} (hF : i_each fu sizes from_ told = some r) :
    C Try.prog 63 #[v0, v1, v2] w fun v w' => v = .tuple #[] ∧ Star H w' [] := by
  unfold i_each at hF
  obtain ⟨fid_2, caps_2, rfl, hcall_2, hc_2⟩ := h2
  refine C_enter Try.func63 rfl Try.ntmps63 rfl ?_
  refine W_seq ?_
  obtain ⟨x6, hx6, hF⟩ := bind_some hF
  refine W_region ?_
  refine L_mv (v := v1) rfl rfl ?_
  obtain ⟨Hb9, hle10, hsb11, hfz12, hbk13⟩ := Star.borrow hst
  refine L_call (args := #[v1]) rfl Try.call74 (ops1 rfl) (slices_Clone_int_c (s := from_) hsb11 (RP.mono _ h1 hle10) hx6) ?_
  rintro r14_0 w14 ⟨_, rfl, hst⟩
  have hst := hbk13 hst (closedL_cons (closed_own (OR.closed_ownS closed_int) _ _) closedL_nil)
  refine L_as (v := r14_0) rfl rfl ?_
  refine L_nil ?_
  obtain ⟨j20, hL20, hF⟩ := bind_some hF
  obtain ⟨R20, hR20⟩ : ∃ RR_ : Fr → World → Prop, RR_ = fun f w_ => ∃ cells_17 : List Int, ∃ H18 : FH, j20 = .nx cells_17 ∧ Le H H18 ∧ Star H18 w_ ([]) := ⟨_, rfl⟩
  refine W_join R20 ?_ ?_
  ·
    refine W_block ?_
    obtain ⟨I20, hI20⟩ : ∃ I : Nat → Fr → World → Prop, I = fun n f w_ => ∃ cells_17 : List Int, ∃ H18 : FH, whileL (i_each_b1 fu sizes told) n cells_17 = some j20 ∧ Le H H18 ∧ f 0 = v0 ∧ f 2 = .func (.func fid_2) #[] caps_2 ∧ f 6 = r14_0 ∧ Star H18 w_ ([own (OR.ownS 3 (OR.frz RP.int)) [r14_0] cells_17]) := ⟨_, rfl⟩
    refine W_loop I20 (n := fu) ?_ ?_
    · rw [hI20]; exact ⟨x6, H, hL20, (Le.refl _), rfl, rfl, rfl, hst⟩
    ·
      clear hst
      intro n20 f w_ hI
      rw [hI20] at hI
      obtain ⟨cells_17, H18, hL20, hle19, sf0, sf2, sf6, hst⟩ := hI
      cases n20 with
      | zero => exact (while_zero hL20).elim
      | succ n20 =>
        obtain ⟨o20, hB20, hL20⟩ := while_succ hL20
        rw [i_each_b1] at hB20
        refine W_seq ?_
        refine W_seq ?_
        obtain ⟨x21, hx21, hB20⟩ := bind_some hB20
        refine W_region ?_
        refine L_mv (v := .func (.func fid_2) #[] caps_2) rfl sf2 ?_
        refine L_mv (v := r14_0) rfl sf6 ?_
        obtain ⟨Hb28, hle29, hsb30, hfz31, hbk32⟩ := Star.borrow hst
        have hb33 : (RP.slice 3 RP.int).rel Hb28 [r14_0] cells_17 := fz_own 0 hfz31 rfl
        refine L_callv (args := #[r14_0]) rfl hcall_2 rfl (ops1 rfl) (hc_2 _ _ (Le.trans hle19 hle29) hsb30 [r14_0] _ _ _ hb33 hx21 (args_app rfl)) ?_
        rintro _ w34 ⟨rfl, hst⟩
        have hst := hbk32 hst closedL_nil
        refine L_nil ?_
        refine W_cond (b := x21) rfl (fun hc35 => ?_) (fun hc35 => ?_)
        ·
          have hB20 := (ite_t hc35).symm.trans hB20
          refine W_skip ?_
          refine W_block ?_
          refine W_seq ?_
          refine W_region ?_
          refine L_mv (v := r14_0) rfl sf6 ?_
          refine L_len (v := r14_0) (n := List.length cells_17) rfl Try.underlying23 rfl (Star.len 0 hst rfl) ?_
          refine L_sub (m := (cells_17.length : Int)) (n := 1) rfl rfl rfl ?_
          refine L_as (v := .int .i64 (i64 ((cells_17.length : Int) - 1))) rfl rfl ?_
          refine L_nil ?_
          refine W_seq ?_
          obtain ⟨j41, hL41, hB20⟩ := bind_some hB20
          obtain ⟨R41, hR41⟩ : ∃ RR_ : Fr → World → Prop, RR_ = fun f w_ => ∃ cells_37 : List Int, ∃ i_38 : Int, ∃ H39 : FH, j41 = .nx (cells_37, i_38) ∧ Le H18 H39 ∧ f 0 = v0 ∧ f 2 = .func (.func fid_2) #[] caps_2 ∧ f 6 = r14_0 ∧ f 7 = .int .i64 i_38 ∧ Star H39 w_ ([own (OR.ownS 3 (OR.frz RP.int)) [r14_0] cells_37]) := ⟨_, rfl⟩
          refine W_join R41 ?_ ?_
          ·
            refine W_block ?_
            obtain ⟨I41, hI41⟩ : ∃ I : Nat → Fr → World → Prop, I = fun n f w_ => ∃ cells_37 : List Int, ∃ i_38 : Int, ∃ H39 : FH, whileL (i_each_b2 sizes) n (cells_37, i_38) = some j41 ∧ Le H18 H39 ∧ f 0 = v0 ∧ f 2 = .func (.func fid_2) #[] caps_2 ∧ f 6 = r14_0 ∧ f 7 = .int .i64 i_38 ∧ Star H39 w_ ([own (OR.ownS 3 (OR.frz RP.int)) [r14_0] cells_37]) := ⟨_, rfl⟩
            refine W_loop I41 (n := fu) ?_ ?_
            · rw [hI41]; exact ⟨cells_17, i64 ((cells_17.length : Int) - 1), H18, hL41, (Le.refl _), sf0, sf2, sf6, rfl, hst⟩
            ·
              clear hst
              intro n41 f w_ hI
              rw [hI41] at hI
              obtain ⟨cells_37, i_38, H39, hL41, hle40, sf0, sf2, sf6, sf7, hst⟩ := hI
              cases n41 with
              | zero => exact (while_zero hL41).elim
              | succ n41 =>
                obtain ⟨o41, hB41, hL41⟩ := while_succ hL41
                rw [i_each_b2] at hB41
                refine W_seq ?_
                refine W_seq ?_
                obtain ⟨b52, hb52, hB41⟩ := bind_some hB41
                obtain ⟨R56, hR56⟩ : ∃ RR_ : Fr → World → Prop, RR_ = fun f w_ => ∃ H54 : FH, Le H39 H54 ∧ f 0 = v0 ∧ f 2 = .func (.func fid_2) #[] caps_2 ∧ f 6 = r14_0 ∧ f 7 = .int .i64 i_38 ∧ f 28 = .bool b52 ∧ Star H54 w_ ([own (OR.ownS 3 (OR.frz RP.int)) [r14_0] cells_37]) := ⟨_, rfl⟩
                refine W_join R56 ?_ ?_
                ·
                  rcases Bool.eq_false_or_eq_true (decide (i_38 ≥ 0)) with hc57 | hc57
                  ·
                    rw [ite_t hc57] at hb52
                    obtain ⟨x42, hx42, hb52⟩ := bind_some hb52
                    obtain ⟨x47, hx47, hb52⟩ := bind_some hb52
                    obtain ⟨g58, cap_g58, hv59, _, _⟩ := Star.row 0 hst rfl hx42
                    refine W_drawS 11 [isV (.int .i64 i_38), isV (.bool (decide (i_38 ≥ 0))), isV (.bool (decide (i_38 ≥ 0))), isV (r14_0), isV (.int .i64 i_38), isV (.pointer (some ⟨g58, Int.toNat i_38 * 1, none⟩)), isV (.int .i64 x42), isV (v0), isV (.int .i64 i_38), isEl RP.int x47 0, isV (.int .i64 x47)] [own (OR.ownS 3 (OR.frz RP.int)) [r14_0] cells_37] [] ([]) [([], []), ([], []), ([], []), ([], []), ([], []), ([], []), ([], []), ([], []), ([], []), ([], []), ([], [])] (S := []) Try_mix (by kernel_rfl) rfl (by kernel_rfl) (amF_cons (mono_V _) (amF_cons (mono_V _) (amF_cons (mono_V _) (amF_cons (mono_V _) (amF_cons (mono_V _) (amF_cons (mono_V _) (amF_cons (mono_V _) (amF_cons (mono_V _) (amF_cons (mono_V _) (amF_cons (mono_el _ _ _) (amF_cons (mono_V _) amF_nil))))))))))) hst ?_ (fun f w_ H53 hS53 hE53 hT53 hst => ?_)
                    ·
                      refine opsS_cons ?_ ?_
                      ·
                        intro f w_ H53 X53 hS53 hE53 hP53 hst
                        refine L_mv (v := .int .i64 i_38) rfl ((hS53 7 rfl).trans sf7) ?_
                        exact L_nil ⟨rfl, _, _, _, rfl, rfl, Le.refl _, rfl, hst⟩
                      refine opsS_cons ?_ ?_
                      ·
                        intro f w_ H53 X53 hS53 hE53 hP53 hst
                        refine L_geq (m := i_38) (n := 0) rfl (hP53 0 16 rfl rfl) rfl ?_
                        exact L_nil ⟨rfl, _, _, _, rfl, rfl, Le.refl _, rfl, hst⟩
                      refine opsS_cons ?_ ?_
                      ·
                        intro f w_ H53 X53 hS53 hE53 hP53 hst
                        refine L_mv (v := .bool (decide (i_38 ≥ 0))) rfl (hP53 1 17 rfl rfl) ?_
                        exact L_nil ⟨rfl, _, _, _, rfl, rfl, Le.refl _, rfl, hst⟩
                      refine opsS_cons ?_ ?_
                      ·
                        intro f w_ H53 X53 hS53 hE53 hP53 hst
                        refine L_mv (v := r14_0) (g_yes rfl (Eq.trans (hP53 2 18 rfl rfl) (congrArg Value.bool hc57)) rfl) ((hS53 6 rfl).trans sf6) ?_
                        exact L_nil ⟨rfl, _, _, _, rfl, rfl, Le.refl _, rfl, hst⟩
                      refine opsS_cons ?_ ?_
                      ·
                        intro f w_ H53 X53 hS53 hE53 hP53 hst
                        refine L_mv (v := .int .i64 i_38) (g_yes rfl (Eq.trans (hP53 2 18 rfl rfl) (congrArg Value.bool hc57)) rfl) ((hS53 7 rfl).trans sf7) ?_
                        exact L_nil ⟨rfl, _, _, _, rfl, rfl, Le.refl _, rfl, hst⟩
                      refine opsS_cons ?_ ?_
                      ·
                        intro f w_ H53 X53 hS53 hE53 hP53 hst
                        refine L_ixO (R := (OR.frz RP.int)) (tb := 0) 0 (g_yes rfl (Eq.trans (hP53 2 18 rfl rfl) (congrArg Value.bool hc57)) rfl) Try.underlying23 Try.sizeOf3 (hP53 3 19 rfl rfl) hv59 (by first | rfl | simp) (hP53 4 20 rfl rfl) hx42 ?_
                        exact L_nil ⟨rfl, _, _, _, rfl, rfl, Le.refl _, rfl, hst⟩
                      refine opsS_cons ?_ ?_
                      ·
                        intro f w_ H53 X53 hS53 hE53 hP53 hst
                        obtain ⟨cs66, hr66, hat66⟩ := Star.eltF 0 hst rfl hv59 hx42
                        obtain rfl : _ = [_] := hr66
                        refine L_ld (v := .int .i64 x42) (g_yes rfl (Eq.trans (hP53 2 18 rfl rfl) (congrArg Value.bool hc57)) rfl) Try.isAgg3 (hP53 5 21 rfl rfl) (At.cell hat66 (j := 0) rfl) ?_
                        exact L_nil ⟨rfl, _, _, _, rfl, rfl, Le.refl _, rfl, hst⟩
                      refine opsS_cons ?_ ?_
                      ·
                        intro f w_ H53 X53 hS53 hE53 hP53 hst
                        refine L_mv (v := v0) (g_yes rfl (Eq.trans (hP53 2 18 rfl rfl) (congrArg Value.bool hc57)) rfl) ((hS53 0 rfl).trans sf0) ?_
                        exact L_nil ⟨rfl, _, _, _, rfl, rfl, Le.refl _, rfl, hst⟩
                      refine opsS_cons ?_ ?_
                      ·
                        intro f w_ H53 X53 hS53 hE53 hP53 hst
                        refine L_mv (v := .int .i64 i_38) (g_yes rfl (Eq.trans (hP53 2 18 rfl rfl) (congrArg Value.bool hc57)) rfl) ((hS53 7 rfl).trans sf7) ?_
                        exact L_nil ⟨rfl, _, _, _, rfl, rfl, Le.refl _, rfl, hst⟩
                      refine opsS_cons ?_ ?_
                      ·
                        intro f w_ H53 X53 hS53 hE53 hP53 hst
                        refine L_ix (r := RP.int) (g_yes rfl (Eq.trans (hP53 2 18 rfl rfl) (congrArg Value.bool hc57)) rfl) Try.underlying23 Try.sizeOf3 (hP53 7 23 rfl rfl) (RP.mono _ h0 (Le.trans (Le.trans hle19 hle40) hE53)) (hP53 8 24 rfl rfl) hx47 ?_
                        intro g68 o69 cs_g68 hrk_hat70 hat70
                        obtain rfl : _ = [_] := hrk_hat70
                        exact L_nil ⟨rfl, _, _, _, rfl, rfl, Le.refl _, ⟨_, _, _, rfl, rfl, hat70⟩, hst⟩
                      refine opsS_cons ?_ ?_
                      ·
                        intro f w_ H53 X53 hS53 hE53 hP53 hst
                        obtain ⟨g72, o72, cs72, hv72, hrk_hat72, hat72⟩ := (hP53 9 25 rfl rfl)
                        obtain rfl : _ = [_] := hrk_hat72
                        refine L_ld (v := .int .i64 x47) (g_yes rfl (Eq.trans (hP53 2 18 rfl rfl) (congrArg Value.bool hc57)) rfl) Try.isAgg3 hv72 (At.cell (AtH.at hat72 hst.sub) (j := 0) rfl) ?_
                        exact L_nil ⟨rfl, _, _, _, rfl, rfl, Le.refl _, rfl, hst⟩
                      exact opsS_nil
                    ·
                      refine L_eql (m := x42) (n := x47) (g_yes rfl (Eq.trans (hT53 2 18 rfl rfl) (congrArg Value.bool hc57)) rfl) (hT53 6 22 rfl rfl) (hT53 10 26 rfl rfl) ?_
                      refine L_pick (v := .bool b52) rfl (Eq.trans (hT53 2 18 rfl rfl) (congrArg Value.bool hc57)) (congrArg Value.bool (so hb52)) ?_
                      refine L_nil ?_
                      show R56 _ _
                      rw [hR56]
                      exact ⟨H53, hE53, ((hS53 0 rfl).trans sf0), ((hS53 2 rfl).trans sf2), ((hS53 6 rfl).trans sf6), ((hS53 7 rfl).trans sf7), rfl, hst⟩
                  ·
                    rw [ite_f hc57] at hb52
                    refine W_drawS 11 [isV (.int .i64 i_38), isV (.bool (decide (i_38 ≥ 0))), isV (.bool (decide (i_38 ≥ 0))), isV (undef), isV (undef), isV (undef), isV (undef), isV (undef), isV (undef), isV (undef), isV (undef)] [own (OR.ownS 3 (OR.frz RP.int)) [r14_0] cells_37] [] ([]) [([], []), ([], []), ([], []), ([], []), ([], []), ([], []), ([], []), ([], []), ([], []), ([], []), ([], [])] (S := []) Try_mix (by kernel_rfl) rfl (by kernel_rfl) (amF_cons (mono_V _) (amF_cons (mono_V _) (amF_cons (mono_V _) (amF_cons (mono_V _) (amF_cons (mono_V _) (amF_cons (mono_V _) (amF_cons (mono_V _) (amF_cons (mono_V _) (amF_cons (mono_V _) (amF_cons (mono_V _) (amF_cons (mono_V _) amF_nil))))))))))) hst ?_ (fun f w_ H53 hS53 hE53 hT53 hst => ?_)
                    ·
                      refine opsS_cons ?_ ?_
                      ·
                        intro f w_ H53 X53 hS53 hE53 hP53 hst
                        refine L_mv (v := .int .i64 i_38) rfl ((hS53 7 rfl).trans sf7) ?_
                        exact L_nil ⟨rfl, _, _, _, rfl, rfl, Le.refl _, rfl, hst⟩
                      refine opsS_cons ?_ ?_
                      ·
                        intro f w_ H53 X53 hS53 hE53 hP53 hst
                        refine L_geq (m := i_38) (n := 0) rfl (hP53 0 16 rfl rfl) rfl ?_
                        exact L_nil ⟨rfl, _, _, _, rfl, rfl, Le.refl _, rfl, hst⟩
                      refine opsS_cons ?_ ?_
                      ·
                        intro f w_ H53 X53 hS53 hE53 hP53 hst
                        refine L_mv (v := .bool (decide (i_38 ≥ 0))) rfl (hP53 1 17 rfl rfl) ?_
                        exact L_nil ⟨rfl, _, _, _, rfl, rfl, Le.refl _, rfl, hst⟩
                      refine opsS_cons ?_ ?_
                      ·
                        intro f w_ H53 X53 hS53 hE53 hP53 hst
                        refine L_pass (g_no rfl (Eq.trans (hP53 2 18 rfl rfl) (congrArg Value.bool hc57)) rfl rfl) ?_
                        exact L_nil ⟨rfl, _, _, _, rfl, rfl, Le.refl _, rfl, hst⟩
                      refine opsS_cons ?_ ?_
                      ·
                        intro f w_ H53 X53 hS53 hE53 hP53 hst
                        refine L_pass (g_no rfl (Eq.trans (hP53 2 18 rfl rfl) (congrArg Value.bool hc57)) rfl rfl) ?_
                        exact L_nil ⟨rfl, _, _, _, rfl, rfl, Le.refl _, rfl, hst⟩
                      refine opsS_cons ?_ ?_
                      ·
                        intro f w_ H53 X53 hS53 hE53 hP53 hst
                        refine L_pass (g_no rfl (Eq.trans (hP53 2 18 rfl rfl) (congrArg Value.bool hc57)) rfl rfl) ?_
                        exact L_nil ⟨rfl, _, _, _, rfl, rfl, Le.refl _, rfl, hst⟩
                      refine opsS_cons ?_ ?_
                      ·
                        intro f w_ H53 X53 hS53 hE53 hP53 hst
                        refine L_pass (g_no rfl (Eq.trans (hP53 2 18 rfl rfl) (congrArg Value.bool hc57)) rfl rfl) ?_
                        exact L_nil ⟨rfl, _, _, _, rfl, rfl, Le.refl _, rfl, hst⟩
                      refine opsS_cons ?_ ?_
                      ·
                        intro f w_ H53 X53 hS53 hE53 hP53 hst
                        refine L_pass (g_no rfl (Eq.trans (hP53 2 18 rfl rfl) (congrArg Value.bool hc57)) rfl rfl) ?_
                        exact L_nil ⟨rfl, _, _, _, rfl, rfl, Le.refl _, rfl, hst⟩
                      refine opsS_cons ?_ ?_
                      ·
                        intro f w_ H53 X53 hS53 hE53 hP53 hst
                        refine L_pass (g_no rfl (Eq.trans (hP53 2 18 rfl rfl) (congrArg Value.bool hc57)) rfl rfl) ?_
                        exact L_nil ⟨rfl, _, _, _, rfl, rfl, Le.refl _, rfl, hst⟩
                      refine opsS_cons ?_ ?_
                      ·
                        intro f w_ H53 X53 hS53 hE53 hP53 hst
                        refine L_pass (g_no rfl (Eq.trans (hP53 2 18 rfl rfl) (congrArg Value.bool hc57)) rfl rfl) ?_
                        exact L_nil ⟨rfl, _, _, _, rfl, rfl, Le.refl _, rfl, hst⟩
                      refine opsS_cons ?_ ?_
                      ·
                        intro f w_ H53 X53 hS53 hE53 hP53 hst
                        refine L_pass (g_no rfl (Eq.trans (hP53 2 18 rfl rfl) (congrArg Value.bool hc57)) rfl rfl) ?_
                        exact L_nil ⟨rfl, _, _, _, rfl, rfl, Le.refl _, rfl, hst⟩
                      exact opsS_nil
                    ·
                      refine L_pass (g_no rfl (Eq.trans (hT53 2 18 rfl rfl) (congrArg Value.bool hc57)) rfl rfl) ?_
                      refine L_pick (v := .bool b52) rfl (Eq.trans (hT53 2 18 rfl rfl) (congrArg Value.bool hc57)) (congrArg Value.bool (so hb52)) ?_
                      refine L_nil ?_
                      show R56 _ _
                      rw [hR56]
                      exact ⟨H53, hE53, ((hS53 0 rfl).trans sf0), ((hS53 2 rfl).trans sf2), ((hS53 6 rfl).trans sf6), ((hS53 7 rfl).trans sf7), rfl, hst⟩
                ·
                  intro f w_ hR
                  rw [hR56] at hR
                  obtain ⟨H54, hle55, sf0, sf2, sf6, sf7, sf28, hst⟩ := hR
                  clear hR56
                  refine W_cond (b := b52) sf28 (fun hc74 => ?_) (fun hc74 => ?_)
                  ·
                    have hB41 := (ite_t hc74).symm.trans hB41
                    refine W_skip ?_
                    refine W_block ?_
                    refine W_seq ?_
                    obtain ⟨x75, hx75, hB41⟩ := bind_some hB41
                    refine W_region ?_
                    refine L_mv (v := r14_0) rfl sf6 ?_
                    refine L_mv (v := .int .i64 i_38) rfl sf7 ?_
                    obtain ⟨g79, cap_g79, hv80, _, _⟩ := Star.row 0 hst rfl hx75
                    refine L_ixO (R := (OR.frz RP.int)) (tb := 0) 0 rfl Try.underlying23 Try.sizeOf3 rfl hv80 (by first | rfl | simp) rfl hx75 ?_
                    have hst := Star.addF (r := RP.int) (cs := [.int .i64 0]) (x := 0) hst rfl
                    refine L_stE1 (u := .int .i64 0) rfl Try.sizeOf3 rfl rfl rfl hv80 hst hx75 ?_
                    intro w81 hst
                    refine L_nil ?_
                    refine W_region ?_
                    refine L_mv (v := .int .i64 i_38) rfl sf7 ?_
                    refine L_sub (m := i_38) (n := 1) rfl rfl rfl ?_
                    refine L_as (v := .int .i64 (i64 (i_38 - 1))) rfl rfl ?_
                    refine L_nil ?_
                    obtain rfl := so hB41
                    show ∃ m, m < _ ∧ I41 m _ _
                    refine ⟨n41, Nat.lt_succ_self _, ?_⟩
                    rw [hI41]
                    exact ⟨(cells_37.set (Int.toNat i_38) 0), i64 (i_38 - 1), H54, hL41, (Le.trans hle40 hle55), sf0, sf2, sf6, rfl, hst⟩
                  ·
                    have hB41 := (ite_f hc74).symm.trans hB41
                    refine W_exit ?_
                    obtain rfl := so hB41
                    obtain rfl := so hL41
                    show R41 _ _
                    rw [hR41]
                    exact ⟨cells_37, i_38, H54, rfl, (Le.trans hle40 hle55), sf0, sf2, sf6, sf7, hst⟩
          ·
            clear hst
            intro f w_ hR
            rw [hR41] at hR
            obtain ⟨cells_37, i_38, H39, rfl, hle40, sf0, sf2, sf6, sf7, hst⟩ := hR
            clear hR41
            refine W_seq ?_
            refine W_seq ?_
            refine W_region ?_
            refine L_mv (v := .int .i64 i_38) rfl sf7 ?_
            refine L_lss (m := i_38) (n := 0) rfl rfl rfl ?_
            refine L_nil ?_
            refine W_cond (b := decide (i_38 < 0)) rfl (fun hc82 => ?_) (fun hc82 => ?_)
            ·
              have hB20 := (ite_t hc82).symm.trans hB20
              refine W_ret ?_
              refine ret0 Try.results63 ?_
              obtain rfl := so hB20
              obtain rfl := so hL20
              obtain rfl := so hF
              exact ⟨rfl, (Star.down (Star.keepN 0 hst) (Le.trans hle19 hle40) closedL_nil)⟩
            ·
              have hB20 := (ite_f hc82).symm.trans hB20
              refine W_skip ?_
              obtain ⟨x83, hx83, hB20⟩ := bind_some hB20
              refine W_region ?_
              refine L_mv (v := r14_0) rfl sf6 ?_
              refine L_mv (v := .int .i64 i_38) rfl sf7 ?_
              obtain ⟨g89, cap_g89, hv90, _, _⟩ := Star.row 0 hst rfl hx83
              refine L_ixO (R := (OR.frz RP.int)) (tb := 0) 0 rfl Try.underlying23 Try.sizeOf3 rfl hv90 (by first | rfl | simp) rfl hx83 ?_
              obtain ⟨cs91, hr91, hat91⟩ := Star.eltF 0 hst rfl hv90 hx83
              obtain rfl : _ = [_] := hr91
              refine L_ld (v := .int .i64 x83) rfl Try.isAgg3 rfl (At.cell hat91 (j := 0) rfl) ?_
              refine L_add (m := x83) (n := 1) rfl rfl rfl ?_
              refine L_ixO (R := (OR.frz RP.int)) (tb := 0) 0 rfl Try.underlying23 Try.sizeOf3 rfl hv90 (by first | rfl | simp) rfl hx83 ?_
              have hst := Star.addF (r := RP.int) (cs := [.int .i64 (i64 (x83 + 1))]) (x := (i64 (x83 + 1))) hst rfl
              refine L_stE1 (u := .int .i64 (i64 (x83 + 1))) rfl Try.sizeOf3 rfl rfl rfl hv90 hst hx83 ?_
              intro w93 hst
              refine L_nil ?_
              obtain rfl := so hB20
              show ∃ m, m < _ ∧ I20 m _ _
              refine ⟨n20, Nat.lt_succ_self _, ?_⟩
              rw [hI20]
              exact ⟨(cells_37.set (Int.toNat i_38) (i64 (x83 + 1))), H39, hL20, (Le.trans hle19 hle40), sf0, sf2, sf6, hst⟩
        ·
          have hB20 := (ite_f hc35).symm.trans hB20
          refine W_exit ?_
          obtain rfl := so hB20
          obtain rfl := so hL20
          show R20 _ _
          rw [hR20]
          exact ⟨cells_17, H18, rfl, hle19, (Star.keepN 0 hst)⟩
  ·
    clear hst
    intro f w_ hR
    rw [hR20] at hR
    obtain ⟨cells_17, H18, rfl, hle19, hst⟩ := hR
    clear hR20
    refine ret0 Try.results63 ?_
    obtain rfl := so hF
    exact ⟨rfl, (Star.down hst hle19 closedL_nil)⟩

theorem i_CountModel_c {fu : Nat} {m : Model} {v0_0 : Value} {v0_1 : Value} {H : FH} {w : World} (hst : Star H w []) (h0_0 : (RP.slice 3 RP.int).rel H [v0_0] m.sizes) (h0_1 : (RP.slice 36 (rRule 3 23)).rel H [v0_1] m.rules) {r : Int} (hF : i_CountModel fu m = some r) :
    C Try.prog 26 #[.agg #[v0_0, v0_1]] w fun v w' => v = .int .i64 r ∧ Star H w' [] := by
  unfold i_CountModel at hF
  refine C_enter Try.func26 rfl Try.ntmps26 rfl ?_
  refine W_seq ?_
  refine W_region ?_
  refine L_box (v := .agg #[v0_0, v0_1]) (cs := #[v0_0, v0_1]) rfl rfl rfl hst ?_
  intro g3 w4 hst
  refine L_as (v := .int .i64 0) rfl rfl ?_
  refine L_nil ?_
  refine W_seq ?_
  refine W_seq ?_
  obtain ⟨x10, hx10, hF⟩ := bind_some hF
  refine W_region ?_
  refine L_lda (cs := [v0_0, v0_1]) rfl Try.isAgg26 Try.sizeOf26 rfl (At.sub0 (Blk.at (Star.blkAt 0 hst rfl)) 0 2) rfl ?_
  obtain ⟨Hb12, hle13, hsb14, hfz15, hbk16⟩ := Star.borrow hst
  refine L_call (args := #[.agg #[v0_0, v0_1]]) rfl Try.call28 (ops1 rfl) (i_ModelValid_c (m := m) hsb14 (RP.mono _ h0_0 hle13) (RP.mono _ h0_1 hle13) hx10) ?_
  rintro _ w17 ⟨rfl, hst⟩
  have hst := hbk16 hst closedL_nil
  refine L_not_ (b := x10) rfl rfl ?_
  refine L_nil ?_
  refine W_cond (b := (!x10)) rfl (fun hc18 => ?_) (fun hc18 => ?_)
  ·
    have hF := (ite_t hc18).symm.trans hF
    refine W_seq ?_
    refine W_region ?_
    refine L_as (v := .int .i64 0) rfl rfl ?_
    refine L_nil ?_
    refine W_ret ?_
    refine retG1 (v1 := .int .i64 0) Try.results26 rfl ?_
    obtain rfl := so hF
    exact ⟨rfl, (Star.keepN 0 hst)⟩
  ·
    have hF := (ite_f hc18).symm.trans hF
    refine W_skip ?_
    refine W_seq ?_
    refine W_region ?_
    refine L_al (cs := #[.int .i64 0]) rfl Try.zeroValue3 rfl hst ?_
    intro g22 w23 hst
    refine L_stB (v := .int .i64 0) (cs2 := #[.int .i64 0]) 0 rfl Try.sizeOf3 rfl rfl rfl hst rfl rfl rfl ?_
    intro w24 hst
    refine L_nil ?_
    refine W_seq ?_
    obtain ⟨x25, hx25, hF⟩ := bind_some hF
    obtain ⟨g22_0_29, hI32, hF⟩ := bind_some hF
    refine W_drawS 7 [isV (.pointer (some ⟨g3, 0, none⟩)), isV (v0_0), isV (.pointer (some ⟨g3, 0, none⟩)), isV (v0_0), isV (.int .i64 (m.sizes.length : Int)), anyF, isV (.func (.func 64) #[] #[.pointer (some ⟨g3, 0, none⟩), .pointer (some ⟨g22, 0, none⟩)])] [box g22 3 #[.int .i64 0], box g3 26 #[v0_0, v0_1]] [.made 5 12 (fun v_ => own (OR.ownS 3 (OR.frz RP.int)) [v_] x25) none] ([]) [([], []), ([], []), ([], []), ([], []), ([], []), ([], [0]), ([], [])] (S := [(some 5, some 12, none)]) Try_mix (by kernel_rfl) rfl (by kernel_rfl) (amF_cons (mono_V _) (amF_cons (mono_V _) (amF_cons (mono_V _) (amF_cons (mono_V _) (amF_cons (mono_V _) (amF_cons (mono_any) (amF_cons (mono_V _) amF_nil))))))) hst ?_ (fun f w_ H33 hS33 hE33 hT33 hst => ?_)
    ·
      refine opsS_cons ?_ ?_
      ·
        intro f w_ H33 X33 hS33 hE33 hP33 hst
        refine L_fa (o' := 0) rfl fa_26_0 ((hS33 1 rfl).trans rfl) rfl ?_
        exact L_nil ⟨rfl, _, _, _, rfl, rfl, Le.refl _, rfl, hst⟩
      refine opsS_cons ?_ ?_
      ·
        intro f w_ H33 X33 hS33 hE33 hP33 hst
        refine L_ld (v := v0_0) rfl Try.isAgg23 (hP33 0 7 rfl rfl) (At.cell0 (Blk.at (Star.blkAt 1 hst rfl)) (j := 0) rfl) ?_
        exact L_nil ⟨rfl, _, _, _, rfl, rfl, Le.refl _, rfl, hst⟩
      refine opsS_cons ?_ ?_
      ·
        intro f w_ H33 X33 hS33 hE33 hP33 hst
        refine L_fa (o' := 0) rfl fa_26_0 ((hS33 1 rfl).trans rfl) rfl ?_
        exact L_nil ⟨rfl, _, _, _, rfl, rfl, Le.refl _, rfl, hst⟩
      refine opsS_cons ?_ ?_
      ·
        intro f w_ H33 X33 hS33 hE33 hP33 hst
        refine L_ld (v := v0_0) rfl Try.isAgg23 (hP33 2 9 rfl rfl) (At.cell0 (Blk.at (Star.blkAt 1 hst rfl)) (j := 0) rfl) ?_
        exact L_nil ⟨rfl, _, _, _, rfl, rfl, Le.refl _, rfl, hst⟩
      refine opsS_cons ?_ ?_
      ·
        intro f w_ H33 X33 hS33 hE33 hP33 hst
        refine L_len (v := v0_0) (n := List.length m.sizes) rfl Try.underlying23 (hP33 3 10 rfl rfl) (slice_len (RP.mono _ h0_0 hE33)) ?_
        exact L_nil ⟨rfl, _, _, _, rfl, rfl, Le.refl _, rfl, hst⟩
      refine opsS_cons ?_ ?_
      ·
        intro f w_ H33 X33 hS33 hE33 hP33 hst
        refine L_mk (R := (OR.frz RP.int)) (z0 := 0) (zc := [.int .i64 0]) rfl et_23 (by kernel_rfl) (fun _ _ => ⟨rfl, rfl⟩) (hP33 4 11 rfl rfl) (hP33 4 11 rfl rfl) hx25 hst ?_
        intro v37 w38 hst
        have hst := Star.get 2 hst rfl
        have hst := Star.get 2 hst rfl
        exact L_nil ⟨rfl, _, _, _, rfl, rfl, Le.refl _, trivial, hst⟩
      refine opsS_cons ?_ ?_
      ·
        intro f w_ H33 X33 hS33 hE33 hP33 hst
        refine L_mf rfl (ops2 ((hS33 1 rfl).trans rfl) ((hS33 3 rfl).trans rfl)) ?_
        exact L_nil ⟨rfl, _, _, _, rfl, rfl, Le.refl _, rfl, hst⟩
      exact opsS_nil
    ·
      have hst : Star H33 w_ ([box g22 3 #[.int .i64 0], box g3 26 #[v0_0, v0_1], own (OR.ownS 3 (OR.frz RP.int)) [(f 12)] x25]) := hst
      obtain ⟨R44, hR44⟩ : ∃ R : Value → World → Prop, R = fun v w_ => ∃ H42 : FH, v = .tuple #[] ∧ Le H33 H42 ∧ Star H42 w_ ([box g22 3 #[.int .i64 g22_0_29]]) := ⟨_, rfl⟩
      refine L_call (args := #[v0_0, (f 12), .func (.func 64) #[] #[.pointer (some ⟨g3, 0, none⟩), .pointer (some ⟨g22, 0, none⟩)]]) (R := R44) rfl Try.call63 (ops3 (hT33 1 8 rfl rfl) rfl (hT33 6 13 rfl rfl)) ?_ ?_
      ·
        refine C_enter Try.func63 rfl Try.ntmps63 rfl ?_
        have hA44 := hI32
        unfold i_CountModel_i1 at hA44
        refine W_seq ?_
        obtain ⟨x51, hx51, hA44⟩ := bind_some hA44
        refine W_region ?_
        refine L_mv (v := (f 12)) rfl rfl ?_
        obtain ⟨Hb54, hle55, hsb56, hfz57, hbk58⟩ := Star.borrow hst
        have hb59 : (RP.slice 3 RP.int).rel Hb54 [(f 12)] x25 := fz_own 2 hfz57 rfl
        refine L_call (args := #[(f 12)]) rfl Try.call74 (ops1 rfl) (slices_Clone_int_c (s := x25) hsb56 hb59 hx51) ?_
        rintro r60_0 w60 ⟨_, rfl, hst⟩
        have hst := hbk58 hst (closedL_cons (closed_own (OR.closed_ownS closed_int) _ _) closedL_nil)
        refine L_as (v := r60_0) rfl rfl ?_
        refine L_nil ?_
        obtain ⟨j67, hL67, hA44⟩ := bind_some hA44
        obtain ⟨R67, hR67⟩ : ∃ RR_ : Fr → World → Prop, RR_ = fun f w_ => ∃ cells_63 : List Int, ∃ g22_0_64 : Int, ∃ H65 : FH, j67 = .nx (cells_63, g22_0_64) ∧ Le H33 H65 ∧ Star H65 w_ ([box g22 3 #[.int .i64 g22_0_64]]) := ⟨_, rfl⟩
        refine W_join R67 ?_ ?_
        ·
          refine W_block ?_
          obtain ⟨I67, hI67⟩ : ∃ I : Nat → Fr → World → Prop, I = fun n f w_ => ∃ cells_63 : List Int, ∃ g22_0_64 : Int, ∃ H65 : FH, whileL (i_CountModel_b2 fu m) n (cells_63, g22_0_64) = some j67 ∧ Le H33 H65 ∧ f 0 = v0_0 ∧ f 2 = .func (.func 64) #[] #[.pointer (some ⟨g3, 0, none⟩), .pointer (some ⟨g22, 0, none⟩)] ∧ f 6 = r60_0 ∧ Star H65 w_ ([own (OR.ownS 3 (OR.frz RP.int)) [r60_0] cells_63, box g22 3 #[.int .i64 g22_0_64], box g3 26 #[v0_0, v0_1]]) := ⟨_, rfl⟩
          refine W_loop I67 (n := fu) ?_ ?_
          · rw [hI67]; exact ⟨x51, 0, H33, hL67, (Le.refl _), rfl, rfl, rfl, (Star.keepN 3 hst)⟩
          ·
            clear hst
            intro n67 f w_ hI
            rw [hI67] at hI
            obtain ⟨cells_63, g22_0_64, H65, hL67, hle66, sf0, sf2, sf6, hst⟩ := hI
            cases n67 with
            | zero => exact (while_zero hL67).elim
            | succ n67 =>
              obtain ⟨o67, hB67, hL67⟩ := while_succ hL67
              rw [i_CountModel_b2] at hB67
              refine W_seq ?_
              refine W_seq ?_
              obtain ⟨⟨ret0_68, g22_0_69⟩, hI70, hB67⟩ := bind_some hB67
              refine W_region ?_
              refine L_mv (v := .func (.func 64) #[] #[.pointer (some ⟨g3, 0, none⟩), .pointer (some ⟨g22, 0, none⟩)]) rfl sf2 ?_
              refine L_mv (v := r60_0) rfl sf6 ?_
              obtain ⟨R73, hR73⟩ : ∃ R : Value → World → Prop, R = fun v w_ => v = .bool ret0_68 ∧ Star H65 w_ ([own (OR.ownS 3 (OR.frz RP.int)) [r60_0] cells_63, box g22 3 #[.int .i64 g22_0_69], box g3 26 #[v0_0, v0_1]]) := ⟨_, rfl⟩
              refine L_callv (args := #[r60_0]) (R := R73) rfl Try.call64 rfl (ops1 rfl) ?_ ?_
              ·
                show C _ _ #[r60_0, .pointer (some ⟨g3, 0, none⟩), .pointer (some ⟨g22, 0, none⟩)] _ _
                refine C_enter Try.func64 rfl Try.ntmps64 rfl ?_
                have hA73 := hI70
                unfold i_CountModel_i3 at hA73
                refine W_seq ?_
                refine W_region ?_
                refine L_as (v := .bool false) rfl rfl ?_
                refine L_nil ?_
                refine W_seq ?_
                refine W_seq ?_
                obtain ⟨x80, hx80, hA73⟩ := bind_some hA73
                refine W_region ?_
                refine L_lda (cs := [v0_0, v0_1]) rfl Try.isAgg26 Try.sizeOf26 rfl (At.sub0 (Blk.at (Star.blkAt 2 hst rfl)) 0 2) rfl ?_
                refine L_mv (v := r60_0) rfl rfl ?_
                obtain ⟨Hb82, hle83, hsb84, hfz85, hbk86⟩ := Star.borrow hst
                have hb87 : (RP.slice 3 RP.int).rel Hb82 [r60_0] cells_63 := fz_own 0 hfz85 rfl
                refine L_call (args := #[.agg #[v0_0, v0_1], r60_0]) rfl Try.call59 (ops2 rfl rfl) (i_Model_solves_c (m := m) (cells := cells_63) hsb84 (RP.mono _ h0_0 (Le.trans (Le.trans hE33 hle66) hle83)) (RP.mono _ h0_1 (Le.trans (Le.trans hE33 hle66) hle83)) hb87 hx80) ?_
                rintro _ w88 ⟨rfl, hst⟩
                have hst := hbk86 hst closedL_nil
                refine L_nil ?_
                obtain ⟨g22_0_89, hA90, hA73⟩ := bind_some hA73
                obtain ⟨R90, hR90⟩ : ∃ RR_ : Fr → World → Prop, RR_ = fun f w_ => Star H65 w_ ([own (OR.ownS 3 (OR.frz RP.int)) [r60_0] cells_63, box g22 3 #[.int .i64 g22_0_89], box g3 26 #[v0_0, v0_1]]) := ⟨_, rfl⟩
                refine W_join R90 ?_ ?_
                ·
                  refine W_cond (b := x80) rfl (fun hc91 => ?_) (fun hc91 => ?_)
                  ·
                    have hA90 := (ite_t hc91).symm.trans hA90
                    refine W_region ?_
                    refine L_ld (v := .int .i64 g22_0_64) rfl Try.isAgg3 rfl (At.cell0 (Blk.at (Star.blkAt 1 hst rfl)) (j := 0) rfl) ?_
                    refine L_add (m := g22_0_64) (n := 1) rfl rfl rfl ?_
                    refine L_stB (v := .int .i64 (i64 (g22_0_64 + 1))) (cs2 := #[.int .i64 (i64 (g22_0_64 + 1))]) 1 rfl Try.sizeOf3 rfl rfl rfl hst rfl rfl rfl ?_
                    intro w93 hst
                    refine L_nil ?_
                    obtain rfl := so hA90
                    have hst := Star.get 2 hst rfl
                    have hst := Star.get 1 hst rfl
                    have hst := Star.get 2 hst rfl
                    show R90 _ _
                    rw [hR90]
                    exact hst
                  ·
                    have hA90 := (ite_f hc91).symm.trans hA90
                    refine W_skip ?_
                    obtain rfl := so hA90
                    show R90 _ _
                    rw [hR90]
                    exact hst
                ·
                  intro f w_ hR
                  rw [hR90] at hR
                  have hst := hR
                  clear hR90
                  refine W_seq ?_
                  refine W_region ?_
                  refine L_as (v := .bool true) rfl rfl ?_
                  refine L_nil ?_
                  refine W_ret ?_
                  refine retG1 (v1 := .bool true) Try.results64 rfl ?_
                  obtain ⟨rfl, rfl⟩ := so2 hA73
                  show R73 _ _
                  rw [hR73]
                  exact ⟨rfl, hst⟩
              intro v_73 w_ hR
              rw [hR73] at hR
              obtain ⟨rfl, hst⟩ := hR
              clear hR73
              refine L_nil ?_
              refine W_cond (b := ret0_68) rfl (fun hc94 => ?_) (fun hc94 => ?_)
              ·
                have hB67 := (ite_t hc94).symm.trans hB67
                refine W_skip ?_
                refine W_block ?_
                refine W_seq ?_
                refine W_region ?_
                refine L_mv (v := r60_0) rfl sf6 ?_
                refine L_len (v := r60_0) (n := List.length cells_63) rfl Try.underlying23 rfl (Star.len 0 hst rfl) ?_
                refine L_sub (m := (cells_63.length : Int)) (n := 1) rfl rfl rfl ?_
                refine L_as (v := .int .i64 (i64 ((cells_63.length : Int) - 1))) rfl rfl ?_
                refine L_nil ?_
                refine W_seq ?_
                obtain ⟨j100, hL100, hB67⟩ := bind_some hB67
                obtain ⟨R100, hR100⟩ : ∃ RR_ : Fr → World → Prop, RR_ = fun f w_ => ∃ cells_96 : List Int, ∃ i_97 : Int, ∃ H98 : FH, j100 = .nx (cells_96, i_97) ∧ Le H65 H98 ∧ f 0 = v0_0 ∧ f 2 = .func (.func 64) #[] #[.pointer (some ⟨g3, 0, none⟩), .pointer (some ⟨g22, 0, none⟩)] ∧ f 6 = r60_0 ∧ f 7 = .int .i64 i_97 ∧ Star H98 w_ ([own (OR.ownS 3 (OR.frz RP.int)) [r60_0] cells_96, box g22 3 #[.int .i64 g22_0_69], box g3 26 #[v0_0, v0_1]]) := ⟨_, rfl⟩
                refine W_join R100 ?_ ?_
                ·
                  refine W_block ?_
                  obtain ⟨I100, hI100⟩ : ∃ I : Nat → Fr → World → Prop, I = fun n f w_ => ∃ cells_96 : List Int, ∃ i_97 : Int, ∃ H98 : FH, whileL (i_CountModel_b4 m) n (cells_96, i_97) = some j100 ∧ Le H65 H98 ∧ f 0 = v0_0 ∧ f 2 = .func (.func 64) #[] #[.pointer (some ⟨g3, 0, none⟩), .pointer (some ⟨g22, 0, none⟩)] ∧ f 6 = r60_0 ∧ f 7 = .int .i64 i_97 ∧ Star H98 w_ ([own (OR.ownS 3 (OR.frz RP.int)) [r60_0] cells_96, box g22 3 #[.int .i64 g22_0_69], box g3 26 #[v0_0, v0_1]]) := ⟨_, rfl⟩
                  refine W_loop I100 (n := fu) ?_ ?_
                  · rw [hI100]; exact ⟨cells_63, i64 ((cells_63.length : Int) - 1), H65, hL100, (Le.refl _), sf0, sf2, sf6, rfl, hst⟩
                  ·
                    clear hst
                    intro n100 f w_ hI
                    rw [hI100] at hI
                    obtain ⟨cells_96, i_97, H98, hL100, hle99, sf0, sf2, sf6, sf7, hst⟩ := hI
                    cases n100 with
                    | zero => exact (while_zero hL100).elim
                    | succ n100 =>
                      obtain ⟨o100, hB100, hL100⟩ := while_succ hL100
                      rw [i_CountModel_b4] at hB100
                      refine W_seq ?_
                      refine W_seq ?_
                      obtain ⟨b111, hb111, hB100⟩ := bind_some hB100
                      obtain ⟨R115, hR115⟩ : ∃ RR_ : Fr → World → Prop, RR_ = fun f w_ => ∃ H113 : FH, Le H98 H113 ∧ f 0 = v0_0 ∧ f 2 = .func (.func 64) #[] #[.pointer (some ⟨g3, 0, none⟩), .pointer (some ⟨g22, 0, none⟩)] ∧ f 6 = r60_0 ∧ f 7 = .int .i64 i_97 ∧ f 28 = .bool b111 ∧ Star H113 w_ ([own (OR.ownS 3 (OR.frz RP.int)) [r60_0] cells_96, box g22 3 #[.int .i64 g22_0_69], box g3 26 #[v0_0, v0_1]]) := ⟨_, rfl⟩
                      refine W_join R115 ?_ ?_
                      ·
                        rcases Bool.eq_false_or_eq_true (decide (i_97 ≥ 0)) with hc116 | hc116
                        ·
                          rw [ite_t hc116] at hb111
                          obtain ⟨x101, hx101, hb111⟩ := bind_some hb111
                          obtain ⟨x106, hx106, hb111⟩ := bind_some hb111
                          obtain ⟨g117, cap_g117, hv118, _, _⟩ := Star.row 0 hst rfl hx101
                          refine W_drawS 11 [isV (.int .i64 i_97), isV (.bool (decide (i_97 ≥ 0))), isV (.bool (decide (i_97 ≥ 0))), isV (r60_0), isV (.int .i64 i_97), isV (.pointer (some ⟨g117, Int.toNat i_97 * 1, none⟩)), isV (.int .i64 x101), isV (v0_0), isV (.int .i64 i_97), isEl RP.int x106 0, isV (.int .i64 x106)] [own (OR.ownS 3 (OR.frz RP.int)) [r60_0] cells_96, box g22 3 #[.int .i64 g22_0_69], box g3 26 #[v0_0, v0_1]] [] ([]) [([], []), ([], []), ([], []), ([], []), ([], []), ([], []), ([], []), ([], []), ([], []), ([], []), ([], [])] (S := []) Try_mix (by kernel_rfl) rfl (by kernel_rfl) (amF_cons (mono_V _) (amF_cons (mono_V _) (amF_cons (mono_V _) (amF_cons (mono_V _) (amF_cons (mono_V _) (amF_cons (mono_V _) (amF_cons (mono_V _) (amF_cons (mono_V _) (amF_cons (mono_V _) (amF_cons (mono_el _ _ _) (amF_cons (mono_V _) amF_nil))))))))))) hst ?_ (fun f w_ H112 hS112 hE112 hT112 hst => ?_)
                          ·
                            refine opsS_cons ?_ ?_
                            ·
                              intro f w_ H112 X112 hS112 hE112 hP112 hst
                              refine L_mv (v := .int .i64 i_97) rfl ((hS112 7 rfl).trans sf7) ?_
                              exact L_nil ⟨rfl, _, _, _, rfl, rfl, Le.refl _, rfl, hst⟩
                            refine opsS_cons ?_ ?_
                            ·
                              intro f w_ H112 X112 hS112 hE112 hP112 hst
                              refine L_geq (m := i_97) (n := 0) rfl (hP112 0 16 rfl rfl) rfl ?_
                              exact L_nil ⟨rfl, _, _, _, rfl, rfl, Le.refl _, rfl, hst⟩
                            refine opsS_cons ?_ ?_
                            ·
                              intro f w_ H112 X112 hS112 hE112 hP112 hst
                              refine L_mv (v := .bool (decide (i_97 ≥ 0))) rfl (hP112 1 17 rfl rfl) ?_
                              exact L_nil ⟨rfl, _, _, _, rfl, rfl, Le.refl _, rfl, hst⟩
                            refine opsS_cons ?_ ?_
                            ·
                              intro f w_ H112 X112 hS112 hE112 hP112 hst
                              refine L_mv (v := r60_0) (g_yes rfl (Eq.trans (hP112 2 18 rfl rfl) (congrArg Value.bool hc116)) rfl) ((hS112 6 rfl).trans sf6) ?_
                              exact L_nil ⟨rfl, _, _, _, rfl, rfl, Le.refl _, rfl, hst⟩
                            refine opsS_cons ?_ ?_
                            ·
                              intro f w_ H112 X112 hS112 hE112 hP112 hst
                              refine L_mv (v := .int .i64 i_97) (g_yes rfl (Eq.trans (hP112 2 18 rfl rfl) (congrArg Value.bool hc116)) rfl) ((hS112 7 rfl).trans sf7) ?_
                              exact L_nil ⟨rfl, _, _, _, rfl, rfl, Le.refl _, rfl, hst⟩
                            refine opsS_cons ?_ ?_
                            ·
                              intro f w_ H112 X112 hS112 hE112 hP112 hst
                              refine L_ixO (R := (OR.frz RP.int)) (tb := 0) 0 (g_yes rfl (Eq.trans (hP112 2 18 rfl rfl) (congrArg Value.bool hc116)) rfl) Try.underlying23 Try.sizeOf3 (hP112 3 19 rfl rfl) hv118 (by first | rfl | simp) (hP112 4 20 rfl rfl) hx101 ?_
                              exact L_nil ⟨rfl, _, _, _, rfl, rfl, Le.refl _, rfl, hst⟩
                            refine opsS_cons ?_ ?_
                            ·
                              intro f w_ H112 X112 hS112 hE112 hP112 hst
                              obtain ⟨cs125, hr125, hat125⟩ := Star.eltF 0 hst rfl hv118 hx101
                              obtain rfl : _ = [_] := hr125
                              refine L_ld (v := .int .i64 x101) (g_yes rfl (Eq.trans (hP112 2 18 rfl rfl) (congrArg Value.bool hc116)) rfl) Try.isAgg3 (hP112 5 21 rfl rfl) (At.cell hat125 (j := 0) rfl) ?_
                              exact L_nil ⟨rfl, _, _, _, rfl, rfl, Le.refl _, rfl, hst⟩
                            refine opsS_cons ?_ ?_
                            ·
                              intro f w_ H112 X112 hS112 hE112 hP112 hst
                              refine L_mv (v := v0_0) (g_yes rfl (Eq.trans (hP112 2 18 rfl rfl) (congrArg Value.bool hc116)) rfl) ((hS112 0 rfl).trans sf0) ?_
                              exact L_nil ⟨rfl, _, _, _, rfl, rfl, Le.refl _, rfl, hst⟩
                            refine opsS_cons ?_ ?_
                            ·
                              intro f w_ H112 X112 hS112 hE112 hP112 hst
                              refine L_mv (v := .int .i64 i_97) (g_yes rfl (Eq.trans (hP112 2 18 rfl rfl) (congrArg Value.bool hc116)) rfl) ((hS112 7 rfl).trans sf7) ?_
                              exact L_nil ⟨rfl, _, _, _, rfl, rfl, Le.refl _, rfl, hst⟩
                            refine opsS_cons ?_ ?_
                            ·
                              intro f w_ H112 X112 hS112 hE112 hP112 hst
                              refine L_ix (r := RP.int) (g_yes rfl (Eq.trans (hP112 2 18 rfl rfl) (congrArg Value.bool hc116)) rfl) Try.underlying23 Try.sizeOf3 (hP112 7 23 rfl rfl) (RP.mono _ h0_0 (Le.trans (Le.trans (Le.trans hE33 hle66) hle99) hE112)) (hP112 8 24 rfl rfl) hx106 ?_
                              intro g127 o128 cs_g127 hrk_hat129 hat129
                              obtain rfl : _ = [_] := hrk_hat129
                              exact L_nil ⟨rfl, _, _, _, rfl, rfl, Le.refl _, ⟨_, _, _, rfl, rfl, hat129⟩, hst⟩
                            refine opsS_cons ?_ ?_
                            ·
                              intro f w_ H112 X112 hS112 hE112 hP112 hst
                              obtain ⟨g131, o131, cs131, hv131, hrk_hat131, hat131⟩ := (hP112 9 25 rfl rfl)
                              obtain rfl : _ = [_] := hrk_hat131
                              refine L_ld (v := .int .i64 x106) (g_yes rfl (Eq.trans (hP112 2 18 rfl rfl) (congrArg Value.bool hc116)) rfl) Try.isAgg3 hv131 (At.cell (AtH.at hat131 hst.sub) (j := 0) rfl) ?_
                              exact L_nil ⟨rfl, _, _, _, rfl, rfl, Le.refl _, rfl, hst⟩
                            exact opsS_nil
                          ·
                            refine L_eql (m := x101) (n := x106) (g_yes rfl (Eq.trans (hT112 2 18 rfl rfl) (congrArg Value.bool hc116)) rfl) (hT112 6 22 rfl rfl) (hT112 10 26 rfl rfl) ?_
                            refine L_pick (v := .bool b111) rfl (Eq.trans (hT112 2 18 rfl rfl) (congrArg Value.bool hc116)) (congrArg Value.bool (so hb111)) ?_
                            refine L_nil ?_
                            show R115 _ _
                            rw [hR115]
                            exact ⟨H112, hE112, ((hS112 0 rfl).trans sf0), ((hS112 2 rfl).trans sf2), ((hS112 6 rfl).trans sf6), ((hS112 7 rfl).trans sf7), rfl, hst⟩
                        ·
                          rw [ite_f hc116] at hb111
                          refine W_drawS 11 [isV (.int .i64 i_97), isV (.bool (decide (i_97 ≥ 0))), isV (.bool (decide (i_97 ≥ 0))), isV (undef), isV (undef), isV (undef), isV (undef), isV (undef), isV (undef), isV (undef), isV (undef)] [own (OR.ownS 3 (OR.frz RP.int)) [r60_0] cells_96, box g22 3 #[.int .i64 g22_0_69], box g3 26 #[v0_0, v0_1]] [] ([]) [([], []), ([], []), ([], []), ([], []), ([], []), ([], []), ([], []), ([], []), ([], []), ([], []), ([], [])] (S := []) Try_mix (by kernel_rfl) rfl (by kernel_rfl) (amF_cons (mono_V _) (amF_cons (mono_V _) (amF_cons (mono_V _) (amF_cons (mono_V _) (amF_cons (mono_V _) (amF_cons (mono_V _) (amF_cons (mono_V _) (amF_cons (mono_V _) (amF_cons (mono_V _) (amF_cons (mono_V _) (amF_cons (mono_V _) amF_nil))))))))))) hst ?_ (fun f w_ H112 hS112 hE112 hT112 hst => ?_)
                          ·
                            refine opsS_cons ?_ ?_
                            ·
                              intro f w_ H112 X112 hS112 hE112 hP112 hst
                              refine L_mv (v := .int .i64 i_97) rfl ((hS112 7 rfl).trans sf7) ?_
                              exact L_nil ⟨rfl, _, _, _, rfl, rfl, Le.refl _, rfl, hst⟩
                            refine opsS_cons ?_ ?_
                            ·
                              intro f w_ H112 X112 hS112 hE112 hP112 hst
                              refine L_geq (m := i_97) (n := 0) rfl (hP112 0 16 rfl rfl) rfl ?_
                              exact L_nil ⟨rfl, _, _, _, rfl, rfl, Le.refl _, rfl, hst⟩
                            refine opsS_cons ?_ ?_
                            ·
                              intro f w_ H112 X112 hS112 hE112 hP112 hst
                              refine L_mv (v := .bool (decide (i_97 ≥ 0))) rfl (hP112 1 17 rfl rfl) ?_
                              exact L_nil ⟨rfl, _, _, _, rfl, rfl, Le.refl _, rfl, hst⟩
                            refine opsS_cons ?_ ?_
                            ·
                              intro f w_ H112 X112 hS112 hE112 hP112 hst
                              refine L_pass (g_no rfl (Eq.trans (hP112 2 18 rfl rfl) (congrArg Value.bool hc116)) rfl rfl) ?_
                              exact L_nil ⟨rfl, _, _, _, rfl, rfl, Le.refl _, rfl, hst⟩
                            refine opsS_cons ?_ ?_
                            ·
                              intro f w_ H112 X112 hS112 hE112 hP112 hst
                              refine L_pass (g_no rfl (Eq.trans (hP112 2 18 rfl rfl) (congrArg Value.bool hc116)) rfl rfl) ?_
                              exact L_nil ⟨rfl, _, _, _, rfl, rfl, Le.refl _, rfl, hst⟩
                            refine opsS_cons ?_ ?_
                            ·
                              intro f w_ H112 X112 hS112 hE112 hP112 hst
                              refine L_pass (g_no rfl (Eq.trans (hP112 2 18 rfl rfl) (congrArg Value.bool hc116)) rfl rfl) ?_
                              exact L_nil ⟨rfl, _, _, _, rfl, rfl, Le.refl _, rfl, hst⟩
                            refine opsS_cons ?_ ?_
                            ·
                              intro f w_ H112 X112 hS112 hE112 hP112 hst
                              refine L_pass (g_no rfl (Eq.trans (hP112 2 18 rfl rfl) (congrArg Value.bool hc116)) rfl rfl) ?_
                              exact L_nil ⟨rfl, _, _, _, rfl, rfl, Le.refl _, rfl, hst⟩
                            refine opsS_cons ?_ ?_
                            ·
                              intro f w_ H112 X112 hS112 hE112 hP112 hst
                              refine L_pass (g_no rfl (Eq.trans (hP112 2 18 rfl rfl) (congrArg Value.bool hc116)) rfl rfl) ?_
                              exact L_nil ⟨rfl, _, _, _, rfl, rfl, Le.refl _, rfl, hst⟩
                            refine opsS_cons ?_ ?_
                            ·
                              intro f w_ H112 X112 hS112 hE112 hP112 hst
                              refine L_pass (g_no rfl (Eq.trans (hP112 2 18 rfl rfl) (congrArg Value.bool hc116)) rfl rfl) ?_
                              exact L_nil ⟨rfl, _, _, _, rfl, rfl, Le.refl _, rfl, hst⟩
                            refine opsS_cons ?_ ?_
                            ·
                              intro f w_ H112 X112 hS112 hE112 hP112 hst
                              refine L_pass (g_no rfl (Eq.trans (hP112 2 18 rfl rfl) (congrArg Value.bool hc116)) rfl rfl) ?_
                              exact L_nil ⟨rfl, _, _, _, rfl, rfl, Le.refl _, rfl, hst⟩
                            refine opsS_cons ?_ ?_
                            ·
                              intro f w_ H112 X112 hS112 hE112 hP112 hst
                              refine L_pass (g_no rfl (Eq.trans (hP112 2 18 rfl rfl) (congrArg Value.bool hc116)) rfl rfl) ?_
                              exact L_nil ⟨rfl, _, _, _, rfl, rfl, Le.refl _, rfl, hst⟩
                            exact opsS_nil
                          ·
                            refine L_pass (g_no rfl (Eq.trans (hT112 2 18 rfl rfl) (congrArg Value.bool hc116)) rfl rfl) ?_
                            refine L_pick (v := .bool b111) rfl (Eq.trans (hT112 2 18 rfl rfl) (congrArg Value.bool hc116)) (congrArg Value.bool (so hb111)) ?_
                            refine L_nil ?_
                            show R115 _ _
                            rw [hR115]
                            exact ⟨H112, hE112, ((hS112 0 rfl).trans sf0), ((hS112 2 rfl).trans sf2), ((hS112 6 rfl).trans sf6), ((hS112 7 rfl).trans sf7), rfl, hst⟩
                      ·
                        intro f w_ hR
                        rw [hR115] at hR
                        obtain ⟨H113, hle114, sf0, sf2, sf6, sf7, sf28, hst⟩ := hR
                        clear hR115
                        refine W_cond (b := b111) sf28 (fun hc133 => ?_) (fun hc133 => ?_)
                        ·
                          have hB100 := (ite_t hc133).symm.trans hB100
                          refine W_skip ?_
                          refine W_block ?_
                          refine W_seq ?_
                          obtain ⟨x134, hx134, hB100⟩ := bind_some hB100
                          refine W_region ?_
                          refine L_mv (v := r60_0) rfl sf6 ?_
                          refine L_mv (v := .int .i64 i_97) rfl sf7 ?_
                          obtain ⟨g138, cap_g138, hv139, _, _⟩ := Star.row 0 hst rfl hx134
                          refine L_ixO (R := (OR.frz RP.int)) (tb := 0) 0 rfl Try.underlying23 Try.sizeOf3 rfl hv139 (by first | rfl | simp) rfl hx134 ?_
                          have hst := Star.addF (r := RP.int) (cs := [.int .i64 0]) (x := 0) hst rfl
                          refine L_stE1 (u := .int .i64 0) rfl Try.sizeOf3 rfl rfl rfl hv139 hst hx134 ?_
                          intro w140 hst
                          refine L_nil ?_
                          refine W_region ?_
                          refine L_mv (v := .int .i64 i_97) rfl sf7 ?_
                          refine L_sub (m := i_97) (n := 1) rfl rfl rfl ?_
                          refine L_as (v := .int .i64 (i64 (i_97 - 1))) rfl rfl ?_
                          refine L_nil ?_
                          obtain rfl := so hB100
                          show ∃ m, m < _ ∧ I100 m _ _
                          refine ⟨n100, Nat.lt_succ_self _, ?_⟩
                          rw [hI100]
                          exact ⟨(cells_96.set (Int.toNat i_97) 0), i64 (i_97 - 1), H113, hL100, (Le.trans hle99 hle114), sf0, sf2, sf6, rfl, hst⟩
                        ·
                          have hB100 := (ite_f hc133).symm.trans hB100
                          refine W_exit ?_
                          obtain rfl := so hB100
                          obtain rfl := so hL100
                          show R100 _ _
                          rw [hR100]
                          exact ⟨cells_96, i_97, H113, rfl, (Le.trans hle99 hle114), sf0, sf2, sf6, sf7, hst⟩
                ·
                  clear hst
                  intro f w_ hR
                  rw [hR100] at hR
                  obtain ⟨cells_96, i_97, H98, rfl, hle99, sf0, sf2, sf6, sf7, hst⟩ := hR
                  clear hR100
                  refine W_seq ?_
                  refine W_seq ?_
                  refine W_region ?_
                  refine L_mv (v := .int .i64 i_97) rfl sf7 ?_
                  refine L_lss (m := i_97) (n := 0) rfl rfl rfl ?_
                  refine L_nil ?_
                  refine W_cond (b := decide (i_97 < 0)) rfl (fun hc141 => ?_) (fun hc141 => ?_)
                  ·
                    have hB67 := (ite_t hc141).symm.trans hB67
                    refine W_ret ?_
                    refine ret0 Try.results63 ?_
                    obtain rfl := so hB67
                    obtain rfl := so hL67
                    obtain rfl := so hA44
                    have hst := Star.get 1 hst rfl
                    show R44 _ _
                    rw [hR44]
                    exact ⟨H98, rfl, (Le.trans hle66 hle99), (Star.keepN 1 hst)⟩
                  ·
                    have hB67 := (ite_f hc141).symm.trans hB67
                    refine W_skip ?_
                    obtain ⟨x142, hx142, hB67⟩ := bind_some hB67
                    refine W_region ?_
                    refine L_mv (v := r60_0) rfl sf6 ?_
                    refine L_mv (v := .int .i64 i_97) rfl sf7 ?_
                    obtain ⟨g148, cap_g148, hv149, _, _⟩ := Star.row 0 hst rfl hx142
                    refine L_ixO (R := (OR.frz RP.int)) (tb := 0) 0 rfl Try.underlying23 Try.sizeOf3 rfl hv149 (by first | rfl | simp) rfl hx142 ?_
                    obtain ⟨cs150, hr150, hat150⟩ := Star.eltF 0 hst rfl hv149 hx142
                    obtain rfl : _ = [_] := hr150
                    refine L_ld (v := .int .i64 x142) rfl Try.isAgg3 rfl (At.cell hat150 (j := 0) rfl) ?_
                    refine L_add (m := x142) (n := 1) rfl rfl rfl ?_
                    refine L_ixO (R := (OR.frz RP.int)) (tb := 0) 0 rfl Try.underlying23 Try.sizeOf3 rfl hv149 (by first | rfl | simp) rfl hx142 ?_
                    have hst := Star.addF (r := RP.int) (cs := [.int .i64 (i64 (x142 + 1))]) (x := (i64 (x142 + 1))) hst rfl
                    refine L_stE1 (u := .int .i64 (i64 (x142 + 1))) rfl Try.sizeOf3 rfl rfl rfl hv149 hst hx142 ?_
                    intro w152 hst
                    refine L_nil ?_
                    obtain rfl := so hB67
                    show ∃ m, m < _ ∧ I67 m _ _
                    refine ⟨n67, Nat.lt_succ_self _, ?_⟩
                    rw [hI67]
                    exact ⟨(cells_96.set (Int.toNat i_97) (i64 (x142 + 1))), g22_0_69, H98, hL67, (Le.trans hle66 hle99), sf0, sf2, sf6, hst⟩
              ·
                have hB67 := (ite_f hc94).symm.trans hB67
                refine W_exit ?_
                obtain rfl := so hB67
                obtain rfl := so hL67
                have hst := Star.get 1 hst rfl
                show R67 _ _
                rw [hR67]
                exact ⟨cells_63, g22_0_69, H65, rfl, hle66, (Star.keepN 1 hst)⟩
        ·
          clear hst
          intro f w_ hR
          rw [hR67] at hR
          obtain ⟨cells_63, g22_0_64, H65, rfl, hle66, hst⟩ := hR
          clear hR67
          obtain rfl := so hA44
          refine end0 Try.results63 ?_
          show R44 _ _
          rw [hR44]
          exact ⟨H65, rfl, hle66, hst⟩
      intro v_44 w_ hR
      rw [hR44] at hR
      obtain ⟨H42, rfl, hle43, hst⟩ := hR
      clear hR44
      refine L_nil ?_
      refine W_seq ?_
      refine W_region ?_
      refine L_ld (v := .int .i64 g22_0_29) rfl Try.isAgg3 ((hS33 3 rfl).trans rfl) (At.cell0 (Blk.at (Star.blkAt 0 hst rfl)) (j := 0) rfl) ?_
      refine L_as (v := .int .i64 g22_0_29) rfl rfl ?_
      refine L_nil ?_
      refine W_ret ?_
      refine retG1 (v1 := .int .i64 g22_0_29) Try.results26 rfl ?_
      obtain rfl := so hF
      exact ⟨rfl, (Star.down (Star.keepN 0 hst) (Le.trans hE33 hle43) closedL_nil)⟩

theorem s_l6Next_c {fu : Nat} {m : Model} {cells : List Int} {v0_0 : Value} {v0_1 : Value} {v1 : Value} {H : FH} {w : World} (hst : Star H w []) (h0_0 : (RP.slice 3 RP.int).rel H [v0_0] m.sizes) (h0_1 : (RP.slice 36 (rRule 3 23)).rel H [v0_1] m.rules) (h1 : (RP.slice 3 RP.int).rel H [v1] cells) {r : (List Int) × Bool} (hF : s_l6Next fu m cells = some r) :
    C Try.prog 65 #[.agg #[v0_0, v0_1], v1] w fun v w' => ∃ (u1 : Value), v = .tuple #[u1, .bool r.2] ∧ Star H w' [own (OR.ownS 3 (OR.frz RP.int)) [u1] r.1] := by
  unfold s_l6Next at hF
  refine C_enter Try.func65 rfl Try.ntmps65 rfl ?_
  refine W_seq ?_
  refine W_region ?_
  refine L_box (v := .agg #[v0_0, v0_1]) (cs := #[v0_0, v0_1]) rfl rfl rfl hst ?_
  intro g3 w4 hst
  refine L_as (v := (.slice none 0 0)) rfl rfl ?_
  refine L_as (v := .bool false) rfl rfl ?_
  refine L_nil ?_
  refine W_seq ?_
  obtain ⟨x8, hx8, hF⟩ := bind_some hF
  refine W_region ?_
  refine L_bs rfl parts0 (bs_23_0  ) hst ?_
  intro g12 w13 hst
  have hst := Star.mkRow (R := (OR.frz RP.int)) [] [] 0 hst rfl rfl rfl (by decide)
  refine L_mv (v := v1) rfl rfl ?_
  refine L_app (v := (.slice (some ⟨g12, 0, none⟩) 0 0)) (u := v1) rfl et_23 rfl rfl hst h1 hx8 ?_
  intro v15 w16 hst
  refine L_as (v := v15) rfl rfl ?_
  refine L_nil ?_
  refine W_seq ?_
  refine W_seq ?_
  refine W_region ?_
  refine L_mv (v := v15) rfl rfl ?_
  refine L_len (v := v15) (n := List.length x8) rfl Try.underlying23 rfl (Star.len 0 hst rfl) ?_
  refine L_sub (m := (x8.length : Int)) (n := 1) rfl rfl rfl ?_
  refine L_as (v := .int .i64 (i64 ((x8.length : Int) - 1))) rfl rfl ?_
  refine L_nil ?_
  obtain ⟨j23, hL23, hF⟩ := bind_some hF
  obtain ⟨R23, hR23⟩ : ∃ RR_ : Fr → World → Prop, RR_ = fun f w_ => ∃ out_19 : List Int, ∃ i_20 : Int, ∃ H21 : FH, j23 = .nx (out_19, i_20) ∧ Le H H21 ∧ f 6 = v15 ∧ Star H21 w_ ([own (OR.ownS 3 (OR.frz RP.int)) [v15] out_19]) := ⟨_, rfl⟩
  refine W_join R23 ?_ ?_
  ·
    refine W_block ?_
    obtain ⟨I23, hI23⟩ : ∃ I : Nat → Fr → World → Prop, I = fun n f w_ => ∃ out_19 : List Int, ∃ i_20 : Int, ∃ H21 : FH, whileL (s_l6Next_b1 m) n (out_19, i_20) = some j23 ∧ Le H H21 ∧ f 2 = .pointer (some ⟨g3, 0, none⟩) ∧ f 6 = v15 ∧ f 7 = .int .i64 i_20 ∧ Star H21 w_ ([own (OR.ownS 3 (OR.frz RP.int)) [v15] out_19, box g3 26 #[v0_0, v0_1]]) := ⟨_, rfl⟩
    refine W_loop I23 (n := fu) ?_ ?_
    · rw [hI23]; exact ⟨x8, i64 ((x8.length : Int) - 1), H, hL23, (Le.refl _), rfl, rfl, rfl, hst⟩
    ·
      clear hst
      intro n23 f w_ hI
      rw [hI23] at hI
      obtain ⟨out_19, i_20, H21, hL23, hle22, sf2, sf6, sf7, hst⟩ := hI
      cases n23 with
      | zero => exact (while_zero hL23).elim
      | succ n23 =>
        obtain ⟨o23, hB23, hL23⟩ := while_succ hL23
        rw [s_l6Next_b1] at hB23
        refine W_seq ?_
        refine W_seq ?_
        refine W_region ?_
        refine L_mv (v := .int .i64 i_20) rfl sf7 ?_
        refine L_geq (m := i_20) (n := 0) rfl rfl rfl ?_
        refine L_nil ?_
        refine W_cond (b := decide (i_20 ≥ 0)) rfl (fun hc24 => ?_) (fun hc24 => ?_)
        ·
          have hB23 := (ite_t hc24).symm.trans hB23
          refine W_skip ?_
          refine W_seq ?_
          refine W_block ?_
          refine W_seq ?_
          refine W_seq ?_
          obtain ⟨x25, hx25, hB23⟩ := bind_some hB23
          obtain ⟨x30, hx30, hB23⟩ := bind_some hB23
          obtain ⟨g36, cap_g36, hv37, _, _⟩ := Star.row 0 hst rfl hx25
          refine W_drawS 9 [isV (v15), isV (.int .i64 i_20), isV (.pointer (some ⟨g36, Int.toNat i_20 * 1, none⟩)), isV (.int .i64 x25), isV (.pointer (some ⟨g3, 0, none⟩)), isV (v0_0), isV (.int .i64 i_20), isEl RP.int x30 0, isV (.int .i64 x30)] [own (OR.ownS 3 (OR.frz RP.int)) [v15] out_19, box g3 26 #[v0_0, v0_1]] [] ([]) [([], []), ([], []), ([], []), ([], []), ([], []), ([], []), ([], []), ([], []), ([], [])] (S := []) Try_mix (by kernel_rfl) rfl (by kernel_rfl) (amF_cons (mono_V _) (amF_cons (mono_V _) (amF_cons (mono_V _) (amF_cons (mono_V _) (amF_cons (mono_V _) (amF_cons (mono_V _) (amF_cons (mono_V _) (amF_cons (mono_el _ _ _) (amF_cons (mono_V _) amF_nil))))))))) hst ?_ (fun f w_ H35 hS35 hE35 hT35 hst => ?_)
          ·
            refine opsS_cons ?_ ?_
            ·
              intro f w_ H35 X35 hS35 hE35 hP35 hst
              refine L_mv (v := v15) rfl ((hS35 6 rfl).trans sf6) ?_
              exact L_nil ⟨rfl, _, _, _, rfl, rfl, Le.refl _, rfl, hst⟩
            refine opsS_cons ?_ ?_
            ·
              intro f w_ H35 X35 hS35 hE35 hP35 hst
              refine L_mv (v := .int .i64 i_20) rfl ((hS35 7 rfl).trans sf7) ?_
              exact L_nil ⟨rfl, _, _, _, rfl, rfl, Le.refl _, rfl, hst⟩
            refine opsS_cons ?_ ?_
            ·
              intro f w_ H35 X35 hS35 hE35 hP35 hst
              refine L_ixO (R := (OR.frz RP.int)) (tb := 0) 0 rfl Try.underlying23 Try.sizeOf3 (hP35 0 18 rfl rfl) hv37 (by first | rfl | simp) (hP35 1 19 rfl rfl) hx25 ?_
              exact L_nil ⟨rfl, _, _, _, rfl, rfl, Le.refl _, rfl, hst⟩
            refine opsS_cons ?_ ?_
            ·
              intro f w_ H35 X35 hS35 hE35 hP35 hst
              obtain ⟨cs44, hr44, hat44⟩ := Star.eltF 0 hst rfl hv37 hx25
              obtain rfl : _ = [_] := hr44
              refine L_ld (v := .int .i64 x25) rfl Try.isAgg3 (hP35 2 20 rfl rfl) (At.cell hat44 (j := 0) rfl) ?_
              exact L_nil ⟨rfl, _, _, _, rfl, rfl, Le.refl _, rfl, hst⟩
            refine opsS_cons ?_ ?_
            ·
              intro f w_ H35 X35 hS35 hE35 hP35 hst
              refine L_fa (o' := 0) rfl fa_26_0 ((hS35 2 rfl).trans sf2) rfl ?_
              exact L_nil ⟨rfl, _, _, _, rfl, rfl, Le.refl _, rfl, hst⟩
            refine opsS_cons ?_ ?_
            ·
              intro f w_ H35 X35 hS35 hE35 hP35 hst
              refine L_ld (v := v0_0) rfl Try.isAgg23 (hP35 4 22 rfl rfl) (At.cell0 (Blk.at (Star.blkAt 1 hst rfl)) (j := 0) rfl) ?_
              exact L_nil ⟨rfl, _, _, _, rfl, rfl, Le.refl _, rfl, hst⟩
            refine opsS_cons ?_ ?_
            ·
              intro f w_ H35 X35 hS35 hE35 hP35 hst
              refine L_mv (v := .int .i64 i_20) rfl ((hS35 7 rfl).trans sf7) ?_
              exact L_nil ⟨rfl, _, _, _, rfl, rfl, Le.refl _, rfl, hst⟩
            refine opsS_cons ?_ ?_
            ·
              intro f w_ H35 X35 hS35 hE35 hP35 hst
              refine L_ix (r := RP.int) rfl Try.underlying23 Try.sizeOf3 (hP35 5 23 rfl rfl) (RP.mono _ h0_0 (Le.trans hle22 hE35)) (hP35 6 24 rfl rfl) hx30 ?_
              intro g46 o47 cs_g46 hrk_hat48 hat48
              obtain rfl : _ = [_] := hrk_hat48
              exact L_nil ⟨rfl, _, _, _, rfl, rfl, Le.refl _, ⟨_, _, _, rfl, rfl, hat48⟩, hst⟩
            refine opsS_cons ?_ ?_
            ·
              intro f w_ H35 X35 hS35 hE35 hP35 hst
              obtain ⟨g50, o50, cs50, hv50, hrk_hat50, hat50⟩ := (hP35 7 25 rfl rfl)
              obtain rfl : _ = [_] := hrk_hat50
              refine L_ld (v := .int .i64 x30) rfl Try.isAgg3 hv50 (At.cell (AtH.at hat50 hst.sub) (j := 0) rfl) ?_
              exact L_nil ⟨rfl, _, _, _, rfl, rfl, Le.refl _, rfl, hst⟩
            exact opsS_nil
          ·
            refine L_lss (m := x25) (n := x30) rfl (hT35 3 21 rfl rfl) (hT35 8 26 rfl rfl) ?_
            refine L_nil ?_
            refine W_cond (b := decide (x25 < x30)) rfl (fun hc52 => ?_) (fun hc52 => ?_)
            ·
              have hB23 := (ite_t hc52).symm.trans hB23
              refine W_seq ?_
              refine W_region ?_
              refine L_mv (v := v15) rfl ((hS35 6 rfl).trans sf6) ?_
              refine L_mv (v := .int .i64 i_20) rfl ((hS35 7 rfl).trans sf7) ?_
              refine L_mv (v := v15) rfl ((hS35 6 rfl).trans sf6) ?_
              refine L_mv (v := .int .i64 i_20) rfl ((hS35 7 rfl).trans sf7) ?_
              refine L_ixO (R := (OR.frz RP.int)) (tb := 0) 0 rfl Try.underlying23 Try.sizeOf3 rfl hv37 (by first | rfl | simp) rfl hx25 ?_
              obtain ⟨cs56, hr56, hat56⟩ := Star.eltF 0 hst rfl hv37 hx25
              obtain rfl : _ = [_] := hr56
              refine L_ld (v := .int .i64 x25) rfl Try.isAgg3 rfl (At.cell hat56 (j := 0) rfl) ?_
              refine L_add (m := x25) (n := 1) rfl rfl rfl ?_
              refine L_ixO (R := (OR.frz RP.int)) (tb := 0) 0 rfl Try.underlying23 Try.sizeOf3 rfl hv37 (by first | rfl | simp) rfl hx25 ?_
              have hst := Star.addF (r := RP.int) (cs := [.int .i64 (i64 (x25 + 1))]) (x := (i64 (x25 + 1))) hst rfl
              refine L_stE1 (u := .int .i64 (i64 (x25 + 1))) rfl Try.sizeOf3 rfl rfl rfl hv37 hst hx25 ?_
              intro w58 hst
              refine L_nil ?_
              refine W_seq ?_
              refine W_region ?_
              refine L_mv (v := v15) rfl ((hS35 6 rfl).trans sf6) ?_
              refine L_as (v := v15) rfl rfl ?_
              refine L_as (v := .bool true) rfl rfl ?_
              refine L_nil ?_
              refine W_ret ?_
              refine retG2 (v1 := v15) (v2 := .bool true) Try.results65 rfl rfl ?_
              obtain rfl := so hB23
              obtain rfl := so hL23
              obtain rfl := so hF
              exact ⟨v15, rfl, (Star.down (Star.keepN 1 hst) (Le.trans hle22 hE35) (closedL_cons (closed_own (OR.closed_ownS closed_int) _ _) closedL_nil))⟩
            ·
              have hB23 := (ite_f hc52).symm.trans hB23
              refine W_skip ?_
              refine W_region ?_
              refine L_mv (v := v15) rfl ((hS35 6 rfl).trans sf6) ?_
              refine L_mv (v := .int .i64 i_20) rfl ((hS35 7 rfl).trans sf7) ?_
              refine L_ixO (R := (OR.frz RP.int)) (tb := 0) 0 rfl Try.underlying23 Try.sizeOf3 rfl hv37 (by first | rfl | simp) rfl hx25 ?_
              have hst := Star.addF (r := RP.int) (cs := [.int .i64 0]) (x := 0) hst rfl
              refine L_stE1 (u := .int .i64 0) rfl Try.sizeOf3 rfl rfl rfl hv37 hst hx25 ?_
              intro w60 hst
              refine L_nil ?_
              refine W_region ?_
              refine L_mv (v := .int .i64 i_20) rfl ((hS35 7 rfl).trans sf7) ?_
              refine L_sub (m := i_20) (n := 1) rfl rfl rfl ?_
              refine L_as (v := .int .i64 (i64 (i_20 - 1))) rfl rfl ?_
              refine L_nil ?_
              obtain rfl := so hB23
              show ∃ m, m < _ ∧ I23 m _ _
              refine ⟨n23, Nat.lt_succ_self _, ?_⟩
              rw [hI23]
              exact ⟨(out_19.set (Int.toNat i_20) 0), i64 (i_20 - 1), H35, hL23, (Le.trans hle22 hE35), ((hS35 2 rfl).trans sf2), ((hS35 6 rfl).trans sf6), rfl, hst⟩
        ·
          have hB23 := (ite_f hc24).symm.trans hB23
          refine W_exit ?_
          obtain rfl := so hB23
          obtain rfl := so hL23
          show R23 _ _
          rw [hR23]
          exact ⟨out_19, i_20, H21, rfl, hle22, sf6, (Star.keepN 1 hst)⟩
  ·
    clear hst
    intro f w_ hR
    rw [hR23] at hR
    obtain ⟨out_19, i_20, H21, rfl, hle22, sf6, hst⟩ := hR
    clear hR23
    refine W_seq ?_
    refine W_region ?_
    refine L_mv (v := v15) rfl sf6 ?_
    refine L_as (v := v15) rfl rfl ?_
    refine L_as (v := .bool false) rfl rfl ?_
    refine L_nil ?_
    refine W_ret ?_
    refine retG2 (v1 := v15) (v2 := .bool false) Try.results65 rfl rfl ?_
    obtain rfl := so hF
    exact ⟨v15, rfl, (Star.down hst hle22 (closedL_cons (closed_own (OR.closed_ownS closed_int) _ _) closedL_nil))⟩

theorem s_CountModel_c {fu : Nat} {m : Model} {v0_0 : Value} {v0_1 : Value} {H : FH} {w : World} (hst : Star H w []) (h0_0 : (RP.slice 3 RP.int).rel H [v0_0] m.sizes) (h0_1 : (RP.slice 36 (rRule 3 23)).rel H [v0_1] m.rules) {r : Int} (hF : s_CountModel fu m = some r) :
    C Try.prog 27 #[.agg #[v0_0, v0_1]] w fun v w' => v = .int .i64 r ∧ Star H w' [] := by
  unfold s_CountModel at hF
  refine C_enter Try.func27 rfl Try.ntmps27 rfl ?_
  refine W_seq ?_
  refine W_region ?_
  refine L_box (v := .agg #[v0_0, v0_1]) (cs := #[v0_0, v0_1]) rfl rfl rfl hst ?_
  intro g3 w4 hst
  refine L_as (v := .int .i64 0) rfl rfl ?_
  refine L_nil ?_
  refine W_seq ?_
  refine W_seq ?_
  obtain ⟨x10, hx10, hF⟩ := bind_some hF
  refine W_region ?_
  refine L_lda (cs := [v0_0, v0_1]) rfl Try.isAgg26 Try.sizeOf26 rfl (At.sub0 (Blk.at (Star.blkAt 0 hst rfl)) 0 2) rfl ?_
  obtain ⟨Hb12, hle13, hsb14, hfz15, hbk16⟩ := Star.borrow hst
  refine L_call (args := #[.agg #[v0_0, v0_1]]) rfl Try.call52 (ops1 rfl) (s_ModelValid_c (m := m) hsb14 (RP.mono _ h0_0 hle13) (RP.mono _ h0_1 hle13) hx10) ?_
  rintro _ w17 ⟨rfl, hst⟩
  have hst := hbk16 hst closedL_nil
  refine L_not_ (b := x10) rfl rfl ?_
  refine L_nil ?_
  refine W_cond (b := (!x10)) rfl (fun hc18 => ?_) (fun hc18 => ?_)
  ·
    have hF := (ite_t hc18).symm.trans hF
    refine W_seq ?_
    refine W_region ?_
    refine L_as (v := .int .i64 0) rfl rfl ?_
    refine L_nil ?_
    refine W_ret ?_
    refine retG1 (v1 := .int .i64 0) Try.results27 rfl ?_
    obtain rfl := so hF
    exact ⟨rfl, (Star.keepN 0 hst)⟩
  ·
    have hF := (ite_f hc18).symm.trans hF
    refine W_skip ?_
    refine W_seq ?_
    refine W_region ?_
    refine L_as (v := .int .i64 0) rfl rfl ?_
    refine L_nil ?_
    refine W_seq ?_
    obtain ⟨x19, hx19, hF⟩ := bind_some hF
    refine W_region ?_
    refine L_fa (o' := 0) rfl fa_26_0 rfl rfl ?_
    refine L_ld (v := v0_0) rfl Try.isAgg23 rfl (At.cell0 (Blk.at (Star.blkAt 0 hst rfl)) (j := 0) rfl) ?_
    refine L_len (v := v0_0) (n := List.length m.sizes) rfl Try.underlying23 rfl (slice_len h0_0) ?_
    refine L_mk (R := (OR.frz RP.int)) (z0 := 0) (zc := [.int .i64 0]) rfl et_23 (by kernel_rfl) (fun _ _ => ⟨rfl, rfl⟩) rfl rfl hx19 hst ?_
    intro v23 w24 hst
    refine L_as (v := v23) rfl rfl ?_
    refine L_nil ?_
    refine W_seq ?_
    refine W_seq ?_
    refine W_region ?_
    refine L_as (v := .bool true) rfl rfl ?_
    refine L_nil ?_
    obtain ⟨j31, hL31, hF⟩ := bind_some hF
    obtain ⟨R31, hR31⟩ : ∃ RR_ : Fr → World → Prop, RR_ = fun f w_ => ∃ n_27 : Int, ∃ cells_28 : List Int, ∃ more_30 : Bool, j31 = .nx (n_27, cells_28, more_30) ∧ f 3 = .int .i64 n_27 ∧ Star H w_ ([]) := ⟨_, rfl⟩
    refine W_join R31 ?_ ?_
    ·
      refine W_block ?_
      obtain ⟨I31, hI31⟩ : ∃ I : Nat → Fr → World → Prop, I = fun n f w_ => ∃ n_27 : Int, ∃ cells_28 : List Int, ∃ more_30 : Bool, ∃ v28_cells : Value, whileL (s_CountModel_b1 fu m) n (n_27, cells_28, more_30) = some j31 ∧ f 1 = .pointer (some ⟨g3, 0, none⟩) ∧ f 3 = .int .i64 n_27 ∧ f 4 = v28_cells ∧ f 5 = .bool more_30 ∧ Star H w_ ([own (OR.ownS 3 (OR.frz RP.int)) [v28_cells] cells_28, box g3 26 #[v0_0, v0_1]]) := ⟨_, rfl⟩
      refine W_loop I31 (n := fu) ?_ ?_
      · rw [hI31]; exact ⟨0, x19, true, v23, hL31, rfl, rfl, rfl, rfl, hst⟩
      ·
        clear hst
        intro n31 f w_ hI
        rw [hI31] at hI
        obtain ⟨n_27, cells_28, more_30, v28_cells, hL31, sf1, sf3, sf4, sf5, hst⟩ := hI
        cases n31 with
        | zero => exact (while_zero hL31).elim
        | succ n31 =>
          obtain ⟨o31, hB31, hL31⟩ := while_succ hL31
          rw [s_CountModel_b1] at hB31
          refine W_seq ?_
          refine W_seq ?_
          refine W_region ?_
          refine L_mv (v := .bool more_30) rfl sf5 ?_
          refine L_nil ?_
          refine W_cond (b := more_30) rfl (fun hc32 => ?_) (fun hc32 => ?_)
          ·
            have hB31 := (ite_t hc32).symm.trans hB31
            refine W_skip ?_
            refine W_block ?_
            refine W_seq ?_
            refine W_seq ?_
            obtain ⟨x39, hx39, hB31⟩ := bind_some hB31
            refine W_region ?_
            refine L_lda (cs := [v0_0, v0_1]) rfl Try.isAgg26 Try.sizeOf26 sf1 (At.sub0 (Blk.at (Star.blkAt 1 hst rfl)) 0 2) rfl ?_
            refine L_mv (v := v28_cells) rfl sf4 ?_
            obtain ⟨Hb41, hle42, hsb43, hfz44, hbk45⟩ := Star.borrow hst
            have hb46 : (RP.slice 3 RP.int).rel Hb41 [v28_cells] cells_28 := fz_own 0 hfz44 rfl
            refine L_call (args := #[.agg #[v0_0, v0_1], v28_cells]) rfl Try.call60 (ops2 rfl rfl) (s_l6Solves_c (m := m) (cells := cells_28) hsb43 (RP.mono _ h0_0 hle42) (RP.mono _ h0_1 hle42) hb46 hx39) ?_
            rintro _ w47 ⟨rfl, hst⟩
            have hst := hbk45 hst closedL_nil
            refine L_nil ?_
            obtain ⟨n_48, hA49, hB31⟩ := bind_some hB31
            obtain ⟨R49, hR49⟩ : ∃ RR_ : Fr → World → Prop, RR_ = fun f w_ => f 1 = .pointer (some ⟨g3, 0, none⟩) ∧ f 3 = .int .i64 n_48 ∧ f 4 = v28_cells ∧ Star H w_ ([own (OR.ownS 3 (OR.frz RP.int)) [v28_cells] cells_28, box g3 26 #[v0_0, v0_1]]) := ⟨_, rfl⟩
            refine W_join R49 ?_ ?_
            ·
              refine W_cond (b := x39) rfl (fun hc50 => ?_) (fun hc50 => ?_)
              ·
                have hA49 := (ite_t hc50).symm.trans hA49
                refine W_region ?_
                refine L_mv (v := .int .i64 n_27) rfl sf3 ?_
                refine L_add (m := n_27) (n := 1) rfl rfl rfl ?_
                refine L_as (v := .int .i64 (i64 (n_27 + 1))) rfl rfl ?_
                refine L_nil ?_
                obtain rfl := so hA49
                show R49 _ _
                rw [hR49]
                exact ⟨sf1, rfl, sf4, hst⟩
              ·
                have hA49 := (ite_f hc50).symm.trans hA49
                refine W_skip ?_
                obtain rfl := so hA49
                show R49 _ _
                rw [hR49]
                exact ⟨sf1, sf3, sf4, hst⟩
            ·
              intro f w_ hR
              rw [hR49] at hR
              obtain ⟨sf1, sf3, sf4, hst⟩ := hR
              clear hR49
              obtain ⟨x57, hx57, hB31⟩ := bind_some hB31
              refine W_region ?_
              refine L_lda (cs := [v0_0, v0_1]) rfl Try.isAgg26 Try.sizeOf26 sf1 (At.sub0 (Blk.at (Star.blkAt 1 hst rfl)) 0 2) rfl ?_
              refine L_mv (v := v28_cells) rfl sf4 ?_
              obtain ⟨Hb60, hle61, hsb62, hfz63, hbk64⟩ := Star.borrow hst
              have hb65 : (RP.slice 3 RP.int).rel Hb60 [v28_cells] cells_28 := fz_own 0 hfz63 rfl
              refine L_call (args := #[.agg #[v0_0, v0_1], v28_cells]) rfl Try.call65 (ops2 rfl rfl) (s_l6Next_c (m := m) (cells := cells_28) hsb62 (RP.mono _ h0_0 hle61) (RP.mono _ h0_1 hle61) hb65 hx57) ?_
              rintro _ w66 ⟨r66_0, rfl, hst⟩
              have hst := hbk64 hst (closedL_cons (closed_own (OR.closed_ownS closed_int) _ _) closedL_nil)
              refine L_mv (v := .tuple #[r66_0, .bool x57.2]) rfl rfl ?_
              refine L_ex (v := r66_0) rfl rfl rfl ?_
              refine L_ex (v := .bool x57.2) rfl rfl rfl ?_
              refine L_as (v := r66_0) rfl rfl ?_
              refine L_as (v := .bool x57.2) rfl rfl ?_
              refine L_nil ?_
              obtain rfl := so hB31
              have hst := Star.get 2 hst rfl
              have hst := Star.get 1 hst rfl
              show ∃ m, m < _ ∧ I31 m _ _
              refine ⟨n31, Nat.lt_succ_self _, ?_⟩
              rw [hI31]
              exact ⟨n_48, x57.1, x57.2, r66_0, hL31, sf1, sf3, rfl, rfl, (Star.keepN 2 hst)⟩
          ·
            have hB31 := (ite_f hc32).symm.trans hB31
            refine W_exit ?_
            obtain rfl := so hB31
            obtain rfl := so hL31
            show R31 _ _
            rw [hR31]
            exact ⟨n_27, cells_28, more_30, rfl, sf3, (Star.keepN 0 hst)⟩
    ·
      clear hst
      intro f w_ hR
      rw [hR31] at hR
      obtain ⟨n_27, cells_28, more_30, rfl, sf3, hst⟩ := hR
      clear hR31
      refine W_seq ?_
      refine W_region ?_
      refine L_mv (v := .int .i64 n_27) rfl sf3 ?_
      refine L_as (v := .int .i64 n_27) rfl rfl ?_
      refine L_nil ?_
      refine W_ret ?_
      refine retG1 (v1 := .int .i64 n_27) Try.results27 rfl ?_
      obtain rfl := so hF
      exact ⟨rfl, hst⟩

end Go.Proofs.Ytcjjfneofcpmfaa

/- Part of a proof by program: W3. -/
import Derived.Test.YtcjjfneofcpmfaaD1
import Derived.Test.YtcjjfneofcpmfaaW2
namespace Go.Proofs.Ytcjjfneofcpmfaa
open Go Go.E Go.L Go.RowKit
set_option linter.unusedVariables false
set_option linter.unusedSimpArgs false
set_option maxRecDepth 100000

theorem s_ModelValid_c {fu : Nat} {m : Model} {v0_0 : Value} {v0_1 : Value} {H : FH} {w : World} (hst : Star H w []) (h0_0 : (RP.slice 3 RP.int).rel H [v0_0] m.sizes) (h0_1 : (RP.slice 36 (rRule 3 23)).rel H [v0_1] m.rules) {r : Bool} (hF : s_ModelValid fu m = some r) :
    C Try.prog 52 #[.agg #[v0_0, v0_1]] w fun v w' => v = .bool r ∧ Star H w' [] := by
  unfold s_ModelValid at hF
  refine C_enter Try.func52 rfl Try.ntmps52 rfl ?_
  refine W_seq ?_
  refine W_region ?_
  refine L_box (v := .agg #[v0_0, v0_1]) (cs := #[v0_0, v0_1]) rfl rfl rfl hst ?_
  intro g3 w4 hst
  refine L_as (v := .bool false) rfl rfl ?_
  refine L_nil ?_
  refine W_seq ?_
  refine W_region ?_
  refine L_as (v := .int .i64 0) rfl rfl ?_
  refine L_nil ?_
  refine W_seq ?_
  refine W_seq ?_
  refine W_region ?_
  refine L_as (v := .int .i64 0) rfl rfl ?_
  refine L_nil ?_
  obtain ⟨j10, hL10, hF⟩ := bind_some hF
  obtain ⟨R10, hR10⟩ : ∃ RR_ : Fr → World → Prop, RR_ = fun f w_ => ∃ n_8 : Int, ∃ i_9 : Int, j10 = .nx (n_8, i_9) ∧ f 1 = .pointer (some ⟨g3, 0, none⟩) ∧ f 3 = .int .i64 n_8 ∧ Star H w_ ([box g3 26 #[v0_0, v0_1]]) := ⟨_, rfl⟩
  refine W_join R10 ?_ ?_
  ·
    refine W_block ?_
    obtain ⟨I10, hI10⟩ : ∃ I : Nat → Fr → World → Prop, I = fun n f w_ => ∃ n_8 : Int, ∃ i_9 : Int, whileL (s_ModelValid_b1 m) n (n_8, i_9) = some j10 ∧ f 1 = .pointer (some ⟨g3, 0, none⟩) ∧ f 3 = .int .i64 n_8 ∧ f 4 = .int .i64 i_9 ∧ Star H w_ ([box g3 26 #[v0_0, v0_1]]) := ⟨_, rfl⟩
    refine W_loop I10 (n := fu) ?_ ?_
    · rw [hI10]; exact ⟨0, 0, hL10, rfl, rfl, rfl, hst⟩
    ·
      clear hst
      intro n10 f w_ hI
      rw [hI10] at hI
      obtain ⟨n_8, i_9, hL10, sf1, sf3, sf4, hst⟩ := hI
      cases n10 with
      | zero => exact (while_zero hL10).elim
      | succ n10 =>
        obtain ⟨o10, hB10, hL10⟩ := while_succ hL10
        rw [s_ModelValid_b1] at hB10
        refine W_seq ?_
        refine W_seq ?_
        obtain ⟨R11, hR11⟩ : ∃ RR_ : Fr → World → Prop, RR_ = fun f w_ => f 1 = .pointer (some ⟨g3, 0, none⟩) ∧ f 3 = .int .i64 n_8 ∧ f 4 = .int .i64 i_9 ∧ f 14 = .bool ((decide (i_9 < (m.sizes.length : Int))) && (decide (i_9 < 5))) ∧ Star H w_ ([box g3 26 #[v0_0, v0_1]]) := ⟨_, rfl⟩
        refine W_join R11 ?_ ?_
        ·
          refine W_region ?_
          refine L_mv (v := .int .i64 i_9) rfl sf4 ?_
          refine L_fa (o' := 0) rfl fa_26_0 sf1 rfl ?_
          refine L_ld (v := v0_0) rfl Try.isAgg23 rfl (At.cell0 (Blk.at (Star.blkAt 0 hst rfl)) (j := 0) rfl) ?_
          refine L_len (v := v0_0) (n := List.length m.sizes) rfl Try.underlying23 rfl (slice_len h0_0) ?_
          refine L_lss (m := i_9) (n := (m.sizes.length : Int)) rfl rfl rfl ?_
          refine L_mv (v := .bool (decide (i_9 < (m.sizes.length : Int)))) rfl rfl ?_
          refine L_split (d := 11) (b := decide (i_9 < (m.sizes.length : Int))) rfl (fun hc12 => ?_) (fun hc12 => ?_)
          ·
            refine L_mv (v := .int .i64 i_9) rfl sf4 ?_
            refine L_lss (m := i_9) (n := 5) rfl rfl rfl ?_
            refine L_pick (v := .bool ((decide (i_9 < (m.sizes.length : Int))) && (decide (i_9 < 5)))) rfl rfl (and_t hc12 rfl) ?_
            refine L_nil ?_
            show R11 _ _
            rw [hR11]
            exact ⟨sf1, sf3, sf4, rfl, hst⟩
          ·
            refine L_pass rfl ?_
            refine L_pass rfl ?_
            refine L_pick (v := .bool ((decide (i_9 < (m.sizes.length : Int))) && (decide (i_9 < 5)))) rfl rfl (and_f hc12) ?_
            refine L_nil ?_
            show R11 _ _
            rw [hR11]
            exact ⟨sf1, sf3, sf4, rfl, hst⟩
        ·
          intro f w_ hR
          rw [hR11] at hR
          obtain ⟨sf1, sf3, sf4, sf14, hst⟩ := hR
          clear hR11
          refine W_cond (b := ((decide (i_9 < (m.sizes.length : Int))) && (decide (i_9 < 5)))) sf14 (fun hc13 => ?_) (fun hc13 => ?_)
          ·
            have hB10 := (ite_t hc13).symm.trans hB10
            refine W_skip ?_
            refine W_seq ?_
            refine W_block ?_
            refine W_seq ?_
            refine W_seq ?_
            obtain ⟨x14, hx14, hB10⟩ := bind_some hB10
            obtain ⟨R23, hR23⟩ : ∃ RR_ : Fr → World → Prop, RR_ = fun f w_ => f 1 = .pointer (some ⟨g3, 0, none⟩) ∧ f 3 = .int .i64 n_8 ∧ f 4 = .int .i64 i_9 ∧ f 30 = .bool ((decide (x14 < 0)) || (decide (x14 > 3))) ∧ Star H w_ ([box g3 26 #[v0_0, v0_1]]) := ⟨_, rfl⟩
            refine W_join R23 ?_ ?_
            ·
              refine W_region ?_
              refine L_fa (o' := 0) rfl fa_26_0 sf1 rfl ?_
              refine L_ld (v := v0_0) rfl Try.isAgg23 rfl (At.cell0 (Blk.at (Star.blkAt 0 hst rfl)) (j := 0) rfl) ?_
              refine L_mv (v := .int .i64 i_9) rfl sf4 ?_
              refine L_ix (r := RP.int) rfl Try.underlying23 Try.sizeOf3 rfl h0_0 rfl hx14 ?_
              intro g24 o25 cs_g24 hrk_hat26 hat26
              obtain rfl : _ = [_] := hrk_hat26
              refine L_ld (v := .int .i64 x14) rfl Try.isAgg3 rfl (At.cell (AtH.at hat26 hst.sub) (j := 0) rfl) ?_
              refine L_lss (m := x14) (n := 0) rfl rfl rfl ?_
              refine L_mv (v := .bool (decide (x14 < 0))) rfl rfl ?_
              refine L_split (d := 23) (b := decide (x14 < 0)) rfl (fun hc28 => ?_) (fun hc28 => ?_)
              ·
                refine L_pass rfl ?_
                refine L_pass rfl ?_
                refine L_pass rfl ?_
                refine L_pass rfl ?_
                refine L_pass rfl ?_
                refine L_pass rfl ?_
                refine L_pick (v := .bool ((decide (x14 < 0)) || (decide (x14 > 3)))) rfl rfl (or_t hc28) ?_
                refine L_nil ?_
                show R23 _ _
                rw [hR23]
                exact ⟨sf1, sf3, sf4, rfl, hst⟩
              ·
                refine L_fa (o' := 0) rfl fa_26_0 sf1 rfl ?_
                refine L_ld (v := v0_0) rfl Try.isAgg23 rfl (At.cell0 (Blk.at (Star.blkAt 0 hst rfl)) (j := 0) rfl) ?_
                refine L_mv (v := .int .i64 i_9) rfl sf4 ?_
                refine L_ix (r := RP.int) rfl Try.underlying23 Try.sizeOf3 rfl h0_0 rfl hx14 ?_
                intro g29 o30 cs_g29 hrk_hat31 hat31
                obtain rfl : _ = [_] := hrk_hat31
                refine L_ld (v := .int .i64 x14) rfl Try.isAgg3 rfl (At.cell (AtH.at hat31 hst.sub) (j := 0) rfl) ?_
                refine L_gtr (m := x14) (n := 3) rfl rfl rfl ?_
                refine L_pick (v := .bool ((decide (x14 < 0)) || (decide (x14 > 3)))) rfl rfl (or_f hc28 rfl) ?_
                refine L_nil ?_
                show R23 _ _
                rw [hR23]
                exact ⟨sf1, sf3, sf4, rfl, hst⟩
            ·
              intro f w_ hR
              rw [hR23] at hR
              obtain ⟨sf1, sf3, sf4, sf30, hst⟩ := hR
              clear hR23
              refine W_cond (b := ((decide (x14 < 0)) || (decide (x14 > 3)))) sf30 (fun hc33 => ?_) (fun hc33 => ?_)
              ·
                have hB10 := (ite_t hc33).symm.trans hB10
                refine W_seq ?_
                refine W_region ?_
                refine L_as (v := .bool false) rfl rfl ?_
                refine L_nil ?_
                refine W_ret ?_
                refine retG1 (v1 := .bool false) Try.results52 rfl ?_
                obtain rfl := so hB10
                obtain rfl := so hL10
                obtain rfl := so hF
                exact ⟨rfl, (Star.keepN 0 hst)⟩
              ·
                have hB10 := (ite_f hc33).symm.trans hB10
                refine W_skip ?_
                refine W_region ?_
                refine L_mv (v := .int .i64 n_8) rfl sf3 ?_
                refine L_fa (o' := 0) rfl fa_26_0 sf1 rfl ?_
                refine L_ld (v := v0_0) rfl Try.isAgg23 rfl (At.cell0 (Blk.at (Star.blkAt 0 hst rfl)) (j := 0) rfl) ?_
                refine L_mv (v := .int .i64 i_9) rfl sf4 ?_
                refine L_ix (r := RP.int) rfl Try.underlying23 Try.sizeOf3 rfl h0_0 rfl hx14 ?_
                intro g38 o39 cs_g38 hrk_hat40 hat40
                obtain rfl : _ = [_] := hrk_hat40
                refine L_ld (v := .int .i64 x14) rfl Try.isAgg3 rfl (At.cell (AtH.at hat40 hst.sub) (j := 0) rfl) ?_
                refine L_add (m := n_8) (n := x14) rfl rfl rfl ?_
                refine L_add (m := i64 (n_8 + x14)) (n := 1) rfl rfl rfl ?_
                refine L_as (v := .int .i64 (i64 ((i64 (n_8 + x14)) + 1))) rfl rfl ?_
                refine L_nil ?_
                refine W_region ?_
                refine L_mv (v := .int .i64 i_9) rfl sf4 ?_
                refine L_add (m := i_9) (n := 1) rfl rfl rfl ?_
                refine L_as (v := .int .i64 (i64 (i_9 + 1))) rfl rfl ?_
                refine L_nil ?_
                obtain rfl := so hB10
                show ∃ m, m < _ ∧ I10 m _ _
                refine ⟨n10, Nat.lt_succ_self _, ?_⟩
                rw [hI10]
                exact ⟨i64 ((i64 (n_8 + x14)) + 1), i64 (i_9 + 1), hL10, sf1, rfl, rfl, hst⟩
          ·
            have hB10 := (ite_f hc13).symm.trans hB10
            refine W_exit ?_
            obtain rfl := so hB10
            obtain rfl := so hL10
            show R10 _ _
            rw [hR10]
            exact ⟨n_8, i_9, rfl, sf1, sf3, hst⟩
  ·
    clear hst
    intro f w_ hR
    rw [hR10] at hR
    obtain ⟨n_8, i_9, rfl, sf1, sf3, hst⟩ := hR
    clear hR10
    refine W_seq ?_
    refine W_seq ?_
    obtain ⟨R42, hR42⟩ : ∃ RR_ : Fr → World → Prop, RR_ = fun f w_ => f 1 = .pointer (some ⟨g3, 0, none⟩) ∧ f 58 = .bool ((((decide ((m.sizes.length : Int) < 1)) || (decide ((m.sizes.length : Int) > 5))) || (decide (n_8 > 12))) || (decide ((m.rules.length : Int) > 8))) ∧ Star H w_ ([box g3 26 #[v0_0, v0_1]]) := ⟨_, rfl⟩
    refine W_join R42 ?_ ?_
    ·
      refine W_region ?_
      refine L_fa (o' := 0) rfl fa_26_0 sf1 rfl ?_
      refine L_ld (v := v0_0) rfl Try.isAgg23 rfl (At.cell0 (Blk.at (Star.blkAt 0 hst rfl)) (j := 0) rfl) ?_
      refine L_len (v := v0_0) (n := List.length m.sizes) rfl Try.underlying23 rfl (slice_len h0_0) ?_
      refine L_lss (m := (m.sizes.length : Int)) (n := 1) rfl rfl rfl ?_
      refine L_mv (v := .bool (decide ((m.sizes.length : Int) < 1))) rfl rfl ?_
      refine L_split (d := 43) (b := decide ((m.sizes.length : Int) < 1)) rfl (fun hc43 => ?_) (fun hc43 => ?_)
      ·
        refine L_pass rfl ?_
        refine L_pass rfl ?_
        refine L_pass rfl ?_
        refine L_pass rfl ?_
        refine L_pick (v := .bool ((decide ((m.sizes.length : Int) < 1)) || (decide ((m.sizes.length : Int) > 5)))) rfl rfl (or_t hc43) ?_
        refine L_mv (v := .bool ((decide ((m.sizes.length : Int) < 1)) || (decide ((m.sizes.length : Int) > 5)))) rfl rfl ?_
        refine L_split (d := 49) (b := ((decide ((m.sizes.length : Int) < 1)) || (decide ((m.sizes.length : Int) > 5)))) rfl (fun hc44 => ?_) (fun hc44 => ?_)
        ·
          refine L_pass rfl ?_
          refine L_pass rfl ?_
          refine L_pick (v := .bool (((decide ((m.sizes.length : Int) < 1)) || (decide ((m.sizes.length : Int) > 5))) || (decide (n_8 > 12)))) rfl rfl (or_t hc44) ?_
          refine L_mv (v := .bool (((decide ((m.sizes.length : Int) < 1)) || (decide ((m.sizes.length : Int) > 5))) || (decide (n_8 > 12)))) rfl rfl ?_
          refine L_split (d := 53) (b := (((decide ((m.sizes.length : Int) < 1)) || (decide ((m.sizes.length : Int) > 5))) || (decide (n_8 > 12)))) rfl (fun hc45 => ?_) (fun hc45 => ?_)
          ·
            refine L_pass rfl ?_
            refine L_pass rfl ?_
            refine L_pass rfl ?_
            refine L_pass rfl ?_
            refine L_pick (v := .bool ((((decide ((m.sizes.length : Int) < 1)) || (decide ((m.sizes.length : Int) > 5))) || (decide (n_8 > 12))) || (decide ((m.rules.length : Int) > 8)))) rfl rfl (or_t hc45) ?_
            refine L_nil ?_
            show R42 _ _
            rw [hR42]
            exact ⟨sf1, rfl, hst⟩
          ·
            refine L_fa (o' := 1) rfl fa_26_1 sf1 rfl ?_
            refine L_ld (v := v0_1) rfl Try.isAgg24 rfl (At.cell0 (Blk.at (Star.blkAt 0 hst rfl)) (j := 1) rfl) ?_
            refine L_len (v := v0_1) (n := List.length m.rules) rfl Try.underlying24 rfl (slice_len h0_1) ?_
            refine L_gtr (m := (m.rules.length : Int)) (n := 8) rfl rfl rfl ?_
            refine L_pick (v := .bool ((((decide ((m.sizes.length : Int) < 1)) || (decide ((m.sizes.length : Int) > 5))) || (decide (n_8 > 12))) || (decide ((m.rules.length : Int) > 8)))) rfl rfl (or_f hc45 rfl) ?_
            refine L_nil ?_
            show R42 _ _
            rw [hR42]
            exact ⟨sf1, rfl, hst⟩
        ·
          refine L_mv (v := .int .i64 n_8) rfl sf3 ?_
          refine L_gtr (m := n_8) (n := 12) rfl rfl rfl ?_
          refine L_pick (v := .bool (((decide ((m.sizes.length : Int) < 1)) || (decide ((m.sizes.length : Int) > 5))) || (decide (n_8 > 12)))) rfl rfl (or_f hc44 rfl) ?_
          refine L_mv (v := .bool (((decide ((m.sizes.length : Int) < 1)) || (decide ((m.sizes.length : Int) > 5))) || (decide (n_8 > 12)))) rfl rfl ?_
          refine L_split (d := 53) (b := (((decide ((m.sizes.length : Int) < 1)) || (decide ((m.sizes.length : Int) > 5))) || (decide (n_8 > 12)))) rfl (fun hc46 => ?_) (fun hc46 => ?_)
          ·
            refine L_pass rfl ?_
            refine L_pass rfl ?_
            refine L_pass rfl ?_
            refine L_pass rfl ?_
            refine L_pick (v := .bool ((((decide ((m.sizes.length : Int) < 1)) || (decide ((m.sizes.length : Int) > 5))) || (decide (n_8 > 12))) || (decide ((m.rules.length : Int) > 8)))) rfl rfl (or_t hc46) ?_
            refine L_nil ?_
            show R42 _ _
            rw [hR42]
            exact ⟨sf1, rfl, hst⟩
          ·
            refine L_fa (o' := 1) rfl fa_26_1 sf1 rfl ?_
            refine L_ld (v := v0_1) rfl Try.isAgg24 rfl (At.cell0 (Blk.at (Star.blkAt 0 hst rfl)) (j := 1) rfl) ?_
            refine L_len (v := v0_1) (n := List.length m.rules) rfl Try.underlying24 rfl (slice_len h0_1) ?_
            refine L_gtr (m := (m.rules.length : Int)) (n := 8) rfl rfl rfl ?_
            refine L_pick (v := .bool ((((decide ((m.sizes.length : Int) < 1)) || (decide ((m.sizes.length : Int) > 5))) || (decide (n_8 > 12))) || (decide ((m.rules.length : Int) > 8)))) rfl rfl (or_f hc46 rfl) ?_
            refine L_nil ?_
            show R42 _ _
            rw [hR42]
            exact ⟨sf1, rfl, hst⟩
      ·
        refine L_fa (o' := 0) rfl fa_26_0 sf1 rfl ?_
        refine L_ld (v := v0_0) rfl Try.isAgg23 rfl (At.cell0 (Blk.at (Star.blkAt 0 hst rfl)) (j := 0) rfl) ?_
        refine L_len (v := v0_0) (n := List.length m.sizes) rfl Try.underlying23 rfl (slice_len h0_0) ?_
        refine L_gtr (m := (m.sizes.length : Int)) (n := 5) rfl rfl rfl ?_
        refine L_pick (v := .bool ((decide ((m.sizes.length : Int) < 1)) || (decide ((m.sizes.length : Int) > 5)))) rfl rfl (or_f hc43 rfl) ?_
        refine L_mv (v := .bool ((decide ((m.sizes.length : Int) < 1)) || (decide ((m.sizes.length : Int) > 5)))) rfl rfl ?_
        refine L_split (d := 49) (b := ((decide ((m.sizes.length : Int) < 1)) || (decide ((m.sizes.length : Int) > 5)))) rfl (fun hc47 => ?_) (fun hc47 => ?_)
        ·
          refine L_pass rfl ?_
          refine L_pass rfl ?_
          refine L_pick (v := .bool (((decide ((m.sizes.length : Int) < 1)) || (decide ((m.sizes.length : Int) > 5))) || (decide (n_8 > 12)))) rfl rfl (or_t hc47) ?_
          refine L_mv (v := .bool (((decide ((m.sizes.length : Int) < 1)) || (decide ((m.sizes.length : Int) > 5))) || (decide (n_8 > 12)))) rfl rfl ?_
          refine L_split (d := 53) (b := (((decide ((m.sizes.length : Int) < 1)) || (decide ((m.sizes.length : Int) > 5))) || (decide (n_8 > 12)))) rfl (fun hc48 => ?_) (fun hc48 => ?_)
          ·
            refine L_pass rfl ?_
            refine L_pass rfl ?_
            refine L_pass rfl ?_
            refine L_pass rfl ?_
            refine L_pick (v := .bool ((((decide ((m.sizes.length : Int) < 1)) || (decide ((m.sizes.length : Int) > 5))) || (decide (n_8 > 12))) || (decide ((m.rules.length : Int) > 8)))) rfl rfl (or_t hc48) ?_
            refine L_nil ?_
            show R42 _ _
            rw [hR42]
            exact ⟨sf1, rfl, hst⟩
          ·
            refine L_fa (o' := 1) rfl fa_26_1 sf1 rfl ?_
            refine L_ld (v := v0_1) rfl Try.isAgg24 rfl (At.cell0 (Blk.at (Star.blkAt 0 hst rfl)) (j := 1) rfl) ?_
            refine L_len (v := v0_1) (n := List.length m.rules) rfl Try.underlying24 rfl (slice_len h0_1) ?_
            refine L_gtr (m := (m.rules.length : Int)) (n := 8) rfl rfl rfl ?_
            refine L_pick (v := .bool ((((decide ((m.sizes.length : Int) < 1)) || (decide ((m.sizes.length : Int) > 5))) || (decide (n_8 > 12))) || (decide ((m.rules.length : Int) > 8)))) rfl rfl (or_f hc48 rfl) ?_
            refine L_nil ?_
            show R42 _ _
            rw [hR42]
            exact ⟨sf1, rfl, hst⟩
        ·
          refine L_mv (v := .int .i64 n_8) rfl sf3 ?_
          refine L_gtr (m := n_8) (n := 12) rfl rfl rfl ?_
          refine L_pick (v := .bool (((decide ((m.sizes.length : Int) < 1)) || (decide ((m.sizes.length : Int) > 5))) || (decide (n_8 > 12)))) rfl rfl (or_f hc47 rfl) ?_
          refine L_mv (v := .bool (((decide ((m.sizes.length : Int) < 1)) || (decide ((m.sizes.length : Int) > 5))) || (decide (n_8 > 12)))) rfl rfl ?_
          refine L_split (d := 53) (b := (((decide ((m.sizes.length : Int) < 1)) || (decide ((m.sizes.length : Int) > 5))) || (decide (n_8 > 12)))) rfl (fun hc49 => ?_) (fun hc49 => ?_)
          ·
            refine L_pass rfl ?_
            refine L_pass rfl ?_
            refine L_pass rfl ?_
            refine L_pass rfl ?_
            refine L_pick (v := .bool ((((decide ((m.sizes.length : Int) < 1)) || (decide ((m.sizes.length : Int) > 5))) || (decide (n_8 > 12))) || (decide ((m.rules.length : Int) > 8)))) rfl rfl (or_t hc49) ?_
            refine L_nil ?_
            show R42 _ _
            rw [hR42]
            exact ⟨sf1, rfl, hst⟩
          ·
            refine L_fa (o' := 1) rfl fa_26_1 sf1 rfl ?_
            refine L_ld (v := v0_1) rfl Try.isAgg24 rfl (At.cell0 (Blk.at (Star.blkAt 0 hst rfl)) (j := 1) rfl) ?_
            refine L_len (v := v0_1) (n := List.length m.rules) rfl Try.underlying24 rfl (slice_len h0_1) ?_
            refine L_gtr (m := (m.rules.length : Int)) (n := 8) rfl rfl rfl ?_
            refine L_pick (v := .bool ((((decide ((m.sizes.length : Int) < 1)) || (decide ((m.sizes.length : Int) > 5))) || (decide (n_8 > 12))) || (decide ((m.rules.length : Int) > 8)))) rfl rfl (or_f hc49 rfl) ?_
            refine L_nil ?_
            show R42 _ _
            rw [hR42]
            exact ⟨sf1, rfl, hst⟩
    ·
      intro f w_ hR
      rw [hR42] at hR
      obtain ⟨sf1, sf58, hst⟩ := hR
      clear hR42
      refine W_cond (b := ((((decide ((m.sizes.length : Int) < 1)) || (decide ((m.sizes.length : Int) > 5))) || (decide (n_8 > 12))) || (decide ((m.rules.length : Int) > 8)))) sf58 (fun hc50 => ?_) (fun hc50 => ?_)
      ·
        have hF := (ite_t hc50).symm.trans hF
        refine W_seq ?_
        refine W_region ?_
        refine L_as (v := .bool false) rfl rfl ?_
        refine L_nil ?_
        refine W_ret ?_
        refine retG1 (v1 := .bool false) Try.results52 rfl ?_
        obtain rfl := so hF
        exact ⟨rfl, (Star.keepN 0 hst)⟩
      ·
        have hF := (ite_f hc50).symm.trans hF
        refine W_skip ?_
        refine W_seq ?_
        refine W_seq ?_
        refine W_region ?_
        refine L_as (v := .int .i64 0) rfl rfl ?_
        refine L_nil ?_
        have hlen54 : List.length m.rules ≤ 9223372036854775807 := len_le (slice_len h0_1)
        obtain ⟨j54, hL54, hF⟩ := bind_some hF
        obtain ⟨R54, hR54⟩ : ∃ RR_ : Fr → World → Prop, RR_ = fun f w_ => ∃ H52 : FH, j54 = .nx () ∧ Le H H52 ∧ Star H52 w_ ([]) := ⟨_, rfl⟩
        refine W_join R54 ?_ ?_
        ·
          refine W_block ?_
          obtain ⟨I54, hI54⟩ : ∃ I : Nat → Fr → World → Prop, I = fun n f w_ => ∃ i_51 : Nat, ∃ suf54 : List Rule, ∃ H52 : FH, n = suf54.length ∧ List.drop i_51 m.rules = suf54 ∧ i_51 + suf54.length = m.rules.length ∧ rangeL (s_ModelValid_b2 m) suf54 i_51 () = some j54 ∧ Le H H52 ∧ f 1 = .pointer (some ⟨g3, 0, none⟩) ∧ f 5 = .int .i64 (i_51 : Int) ∧ Star H52 w_ ([box g3 26 #[v0_0, v0_1]]) := ⟨_, rfl⟩
          refine W_loop I54 (n := m.rules.length) ?_ ?_
          · rw [hI54]; exact ⟨0, m.rules, H, rfl, rfl, Nat.zero_add _, hL54, (Le.refl _), sf1, rfl, hst⟩
          ·
            clear hst
            intro n54 f w_ hI
            rw [hI54] at hI
            obtain ⟨i_51, suf54, H52, rfl, hd54, hl54, hL54, hle53, sf1, sf5, hst⟩ := hI
            refine W_seq ?_
            refine W_seq ?_
            refine W_region ?_
            refine L_mv (v := .int .i64 (i_51 : Int)) rfl sf5 ?_
            refine L_fa (o' := 1) rfl fa_26_1 sf1 rfl ?_
            refine L_ld (v := v0_1) rfl Try.isAgg24 rfl (At.cell0 (Blk.at (Star.blkAt 0 hst rfl)) (j := 1) rfl) ?_
            refine L_len (v := v0_1) (n := List.length m.rules) rfl Try.underlying24 rfl (slice_len (RP.mono _ h0_1 hle53)) ?_
            refine L_lss (m := (i_51 : Int)) (n := (m.rules.length : Int)) rfl rfl rfl ?_
            refine L_nil ?_
            refine W_cond (b := decide ((i_51 : Int) < (m.rules.length : Int))) rfl (fun hc55 => ?_) (fun hc55 => ?_)
            ·
              have hlt54 := of_decide_eq_true hc55
              cases suf54 with
              | nil => exact absurd hlt54 (by simp at hl54; omega)
              | cons x_54 rest54 =>
                obtain ⟨o54, hB54, hL54⟩ := range_cons hL54
                rw [s_ModelValid_b2] at hB54
                have hix54 := drop_idx hd54
                refine W_skip ?_
                refine W_seq ?_
                refine W_block ?_
                refine W_seq ?_
                obtain ⟨x65, hx65, hB54⟩ := bind_some hB54
                refine W_drawS 6 [isV (.agg #[v0_0, v0_1]), isV (.pointer (some ⟨g3, 1, none⟩)), isV (v0_1), isV (.int .i64 (i_51 : Int)), isEl (rRule 3 23) x_54 0, exD (isData (RP.slice 3 RP.int) x_54.vars) fun u_1 => exD (isData (RP.slice 3 RP.int) x_54.coefs) fun u_2 => exD (isData (RP.slice 23 (RP.slice 3 RP.int)) x_54.rows) fun u_4 => isV (.agg #[.int .i64 x_54.kind, u_1, u_2, .int .i64 x_54.bound, u_4])] [box g3 26 #[v0_0, v0_1]] [] ([]) [([], []), ([], []), ([], []), ([], []), ([], []), ([], [])] (S := []) Try_mix (by kernel_rfl) rfl (by kernel_rfl) (amF_cons (mono_V _) (amF_cons (mono_V _) (amF_cons (mono_V _) (amF_cons (mono_V _) (amF_cons (mono_el _ _ _) (amF_cons (mono_exD (mono_data _ _) fun _ => mono_exD (mono_data _ _) fun _ => mono_exD (mono_data _ _) fun _ => mono_V _) amF_nil)))))) hst ?_ (fun f w_ H67 hS67 hE67 hT67 hst => ?_)
                ·
                  refine opsS_cons ?_ ?_
                  ·
                    intro f w_ H67 X67 hS67 hE67 hP67 hst
                    refine L_lda (cs := [v0_0, v0_1]) rfl Try.isAgg26 Try.sizeOf26 ((hS67 1 rfl).trans sf1) (At.sub0 (Blk.at (Star.blkAt 0 hst rfl)) 0 2) rfl ?_
                    exact L_nil ⟨rfl, _, _, _, rfl, rfl, Le.refl _, rfl, hst⟩
                  refine opsS_cons ?_ ?_
                  ·
                    intro f w_ H67 X67 hS67 hE67 hP67 hst
                    refine L_fa (o' := 1) rfl fa_26_1 ((hS67 1 rfl).trans sf1) rfl ?_
                    exact L_nil ⟨rfl, _, _, _, rfl, rfl, Le.refl _, rfl, hst⟩
                  refine opsS_cons ?_ ?_
                  ·
                    intro f w_ H67 X67 hS67 hE67 hP67 hst
                    refine L_ld (v := v0_1) rfl Try.isAgg24 (hP67 1 67 rfl rfl) (At.cell0 (Blk.at (Star.blkAt 0 hst rfl)) (j := 1) rfl) ?_
                    exact L_nil ⟨rfl, _, _, _, rfl, rfl, Le.refl _, rfl, hst⟩
                  refine opsS_cons ?_ ?_
                  ·
                    intro f w_ H67 X67 hS67 hE67 hP67 hst
                    refine L_mv (v := .int .i64 (i_51 : Int)) rfl ((hS67 5 rfl).trans sf5) ?_
                    exact L_nil ⟨rfl, _, _, _, rfl, rfl, Le.refl _, rfl, hst⟩
                  refine opsS_cons ?_ ?_
                  ·
                    intro f w_ H67 X67 hS67 hE67 hP67 hst
                    refine L_ix (r := (rRule 3 23)) rfl Try.underlying24 Try.sizeOf36 (hP67 2 68 rfl rfl) (RP.mono _ h0_1 (Le.trans hle53 hE67)) (hP67 3 69 rfl rfl) hix54 ?_
                    intro g72 o73 cs_g72 hrk_hat74 hat74
                    obtain ⟨u75_0, u75_1, u75_2, rfl, hu75_0, hu75_1, hu75_2⟩ := rRule_iff.1 hrk_hat74
                    exact L_nil ⟨rfl, _, _, _, rfl, rfl, Le.refl _, ⟨_, _, _, rfl, hrk_hat74, hat74⟩, hst⟩
                  refine opsS_cons ?_ ?_
                  ·
                    intro f w_ H67 X67 hS67 hE67 hP67 hst
                    obtain ⟨g76, o76, cs76, hv76, hrk_hat76, hat76⟩ := (hP67 4 70 rfl rfl)
                    obtain ⟨u77_0, u77_1, u77_2, rfl, hu77_0, hu77_1, hu77_2⟩ := rRule_iff.1 hrk_hat76
                    refine L_lda (cs := [.int .i64 x_54.kind, u77_0, u77_1, .int .i64 x_54.bound, u77_2]) rfl Try.isAgg36 Try.sizeOf36 hv76 (At.sub (AtH.at hat76 hst.sub) 0 5) rfl ?_
                    exact L_nil ⟨rfl, _, _, _, rfl, rfl, Le.refl _, ⟨_, hu77_0, _, hu77_1, _, hu77_2, rfl⟩, hst⟩
                  exact opsS_nil
                ·
                  obtain ⟨u78_1, hu78_1, u78_2, hu78_2, u78_4, hu78_4, hv78⟩ := (hT67 5 71 rfl rfl)
                  obtain ⟨Hb79, hle80, hsb81, hfz82, hbk83⟩ := Star.borrow hst
                  refine L_call (args := #[.agg #[v0_0, v0_1], .agg #[.int .i64 x_54.kind, u78_1, u78_2, .int .i64 x_54.bound, u78_4]]) rfl Try.call82 (ops2 (hT67 0 66 rfl rfl) hv78) (s_l6Rule_c (m := m) (r_ := x_54) hsb81 (RP.mono _ h0_0 (Le.trans (Le.trans hle53 hE67) hle80)) (RP.mono _ h0_1 (Le.trans (Le.trans hle53 hE67) hle80)) (RP.mono _ hu78_1 hle80) (RP.mono _ hu78_2 hle80) (RP.mono _ hu78_4 hle80) hx65) ?_
                  rintro _ w84 ⟨rfl, hst⟩
                  have hst := hbk83 hst closedL_nil
                  refine L_not_ (b := x65) rfl rfl ?_
                  refine L_nil ?_
                  refine W_cond (b := (!x65)) rfl (fun hc85 => ?_) (fun hc85 => ?_)
                  ·
                    have hB54 := (ite_t hc85).symm.trans hB54
                    refine W_seq ?_
                    refine W_region ?_
                    refine L_as (v := .bool false) rfl rfl ?_
                    refine L_nil ?_
                    refine W_ret ?_
                    refine retG1 (v1 := .bool false) Try.results52 rfl ?_
                    obtain rfl := so hB54
                    obtain rfl := so hL54
                    obtain rfl := so hF
                    exact ⟨rfl, (Star.down (Star.keepN 0 hst) (Le.trans hle53 hE67) closedL_nil)⟩
                  ·
                    have hB54 := (ite_f hc85).symm.trans hB54
                    refine W_skip ?_
                    refine W_region ?_
                    refine L_mv (v := .int .i64 (i_51 : Int)) rfl ((hS67 5 rfl).trans sf5) ?_
                    refine L_add (m := (i_51 : Int)) (n := 1) rfl rfl rfl ?_
                    refine L_as (v := .int .i64 (i64 ((i_51 : Int) + 1))) rfl rfl ?_
                    refine L_nil ?_
                    obtain rfl := so hB54
                    show ∃ m, m < _ ∧ I54 m _ _
                    refine ⟨rest54.length, by simp, ?_⟩
                    rw [hI54]
                    exact ⟨i_51 + 1, rest54, H67, rfl, drop_next hd54, by simp at hl54; omega, hL54, (Le.trans hle53 hE67), ((hS67 1 rfl).trans sf1), (Eq.trans rfl (congrArg (Value.int .i64) (i64_succ (n := m.rules.length) (by simp at hl54; omega) hlen54))), hst⟩
            ·
              cases suf54 with
              | cons _ _ => exact absurd (of_decide_eq_false hc55) (by simp at hl54; omega)
              | nil =>
                obtain rfl := range_nil hL54
                refine W_exit ?_
                show R54 _ _
                rw [hR54]
                exact ⟨H52, rfl, hle53, (Star.keepN 0 hst)⟩
        ·
          clear hst
          intro f w_ hR
          rw [hR54] at hR
          obtain ⟨H52, rfl, hle53, hst⟩ := hR
          clear hR54
          refine W_seq ?_
          refine W_region ?_
          refine L_as (v := .bool true) rfl rfl ?_
          refine L_nil ?_
          refine W_ret ?_
          refine retG1 (v1 := .bool true) Try.results52 rfl ?_
          obtain rfl := so hF
          exact ⟨rfl, (Star.down hst hle53 closedL_nil)⟩

theorem s_l6DrawCells_c {r_ : Rd} {m : Model} {g_0 : Nat} {v0_0 : Value} {v1_0 : Value} {v1_1 : Value} {H : FH} {w : World} (hst : Star H w [box g_0 86 #[v0_0, .int .i64 r_.p]]) (h0_0 : (RP.slice 5 RP.u8).rel H [v0_0] r_.b) (h1_0 : (RP.slice 3 RP.int).rel H [v1_0] m.sizes) (h1_1 : (RP.slice 36 (rRule 3 23)).rel H [v1_1] m.rules) {r : (List Int) × Int} (hF : s_l6DrawCells r_ m = some r) :
    C Try.prog 54 #[.pointer (some ⟨g_0, 0, none⟩), .agg #[v1_0, v1_1]] w fun v w' => ∃ (u1 : Value), v = u1 ∧ Star H w' [own (OR.ownS 3 (OR.frz RP.int)) [u1] r.1, box g_0 86 #[v0_0, .int .i64 r.2]] := by
  unfold s_l6DrawCells at hF
  refine C_enter Try.func54 rfl Try.ntmps54 rfl ?_
  refine W_seq ?_
  refine W_region ?_
  refine L_box (v := .agg #[v1_0, v1_1]) (cs := #[v1_0, v1_1]) rfl rfl rfl hst ?_
  intro g3 w4 hst
  refine L_as (v := (.slice none 0 0)) rfl rfl ?_
  refine L_nil ?_
  refine W_seq ?_
  refine W_region ?_
  refine L_bs rfl parts0 (bs_23_0  ) hst ?_
  intro g8 w9 hst
  have hst := Star.mkRow (R := (OR.frz RP.int)) [] [] 0 hst rfl rfl rfl (by decide)
  refine L_as (v := (.slice (some ⟨g8, 0, none⟩) 0 0)) rfl rfl ?_
  refine L_nil ?_
  refine W_seq ?_
  refine W_seq ?_
  refine W_region ?_
  refine L_as (v := .int .i64 0) rfl rfl ?_
  refine L_nil ?_
  have hlen15 : List.length m.sizes ≤ 9223372036854775807 := len_le (slice_len h1_0)
  obtain ⟨j15, hL15, hF⟩ := bind_some hF
  obtain ⟨R15, hR15⟩ : ∃ RR_ : Fr → World → Prop, RR_ = fun f w_ => ∃ out_12 : List Int, ∃ g_0_1_14 : Int, ∃ v12_out : Value, j15 = .nx (out_12, g_0_1_14) ∧ f 0 = .pointer (some ⟨g_0, 0, none⟩) ∧ f 5 = v12_out ∧ Star H w_ ([own (OR.ownS 3 (OR.frz RP.int)) [v12_out] out_12, box g_0 86 #[v0_0, .int .i64 g_0_1_14]]) := ⟨_, rfl⟩
  refine W_join R15 ?_ ?_
  ·
    refine W_block ?_
    obtain ⟨I15, hI15⟩ : ∃ I : Nat → Fr → World → Prop, I = fun n f w_ => ∃ i_11 : Nat, ∃ suf15 : List Int, ∃ out_12 : List Int, ∃ g_0_1_14 : Int, ∃ v12_out : Value, n = suf15.length ∧ List.drop i_11 m.sizes = suf15 ∧ i_11 + suf15.length = m.sizes.length ∧ rangeL (s_l6DrawCells_b1 r_) suf15 i_11 (out_12, g_0_1_14) = some j15 ∧ f 0 = .pointer (some ⟨g_0, 0, none⟩) ∧ f 3 = .pointer (some ⟨g3, 0, none⟩) ∧ f 5 = v12_out ∧ f 6 = .int .i64 (i_11 : Int) ∧ Star H w_ ([own (OR.ownS 3 (OR.frz RP.int)) [v12_out] out_12, box g_0 86 #[v0_0, .int .i64 g_0_1_14], box g3 26 #[v1_0, v1_1]]) := ⟨_, rfl⟩
    have hst := Star.get 1 hst rfl
    have hst := Star.get 2 hst rfl
    have hst := Star.get 2 hst rfl
    refine W_loop I15 (n := m.sizes.length) ?_ ?_
    · rw [hI15]; exact ⟨0, m.sizes, [], r_.p, (.slice (some ⟨g8, 0, none⟩) 0 0), rfl, rfl, Nat.zero_add _, hL15, rfl, rfl, rfl, rfl, hst⟩
    ·
      clear hst
      intro n15 f w_ hI
      rw [hI15] at hI
      obtain ⟨i_11, suf15, out_12, g_0_1_14, v12_out, rfl, hd15, hl15, hL15, sf0, sf3, sf5, sf6, hst⟩ := hI
      refine W_seq ?_
      refine W_seq ?_
      refine W_region ?_
      refine L_mv (v := .int .i64 (i_11 : Int)) rfl sf6 ?_
      refine L_fa (o' := 0) rfl fa_26_0 sf3 rfl ?_
      refine L_ld (v := v1_0) rfl Try.isAgg23 rfl (At.cell0 (Blk.at (Star.blkAt 2 hst rfl)) (j := 0) rfl) ?_
      refine L_len (v := v1_0) (n := List.length m.sizes) rfl Try.underlying23 rfl (slice_len h1_0) ?_
      refine L_lss (m := (i_11 : Int)) (n := (m.sizes.length : Int)) rfl rfl rfl ?_
      refine L_nil ?_
      refine W_cond (b := decide ((i_11 : Int) < (m.sizes.length : Int))) rfl (fun hc16 => ?_) (fun hc16 => ?_)
      ·
        have hlt15 := of_decide_eq_true hc16
        cases suf15 with
        | nil => exact absurd hlt15 (by simp at hl15; omega)
        | cons x_15 rest15 =>
          obtain ⟨o15, hB15, hL15⟩ := range_cons hL15
          rw [s_l6DrawCells_b1] at hB15
          have hix15 := drop_idx hd15
          refine W_skip ?_
          refine W_seq ?_
          refine W_block ?_
          refine W_seq ?_
          refine W_region ?_
          refine L_fa (o' := 0) rfl fa_26_0 sf3 rfl ?_
          refine L_ld (v := v1_0) rfl Try.isAgg23 rfl (At.cell0 (Blk.at (Star.blkAt 2 hst rfl)) (j := 0) rfl) ?_
          refine L_mv (v := .int .i64 (i_11 : Int)) rfl sf6 ?_
          refine L_ix (r := RP.int) rfl Try.underlying23 Try.sizeOf3 rfl h1_0 rfl hix15 ?_
          intro g21 o22 cs_g21 hrk_hat23 hat23
          obtain rfl : _ = [_] := hrk_hat23
          refine L_ld (v := .int .i64 x_15) rfl Try.isAgg3 rfl (At.cell (AtH.at hat23 hst.sub) (j := 0) rfl) ?_
          refine L_add (m := x_15) (n := 1) rfl rfl rfl ?_
          refine L_as (v := .int .i64 (i64 (x_15 + 1))) rfl rfl ?_
          refine L_nil ?_
          refine W_seq ?_
          refine W_seq ?_
          obtain ⟨R25, hR25⟩ : ∃ RR_ : Fr → World → Prop, RR_ = fun f w_ => f 0 = .pointer (some ⟨g_0, 0, none⟩) ∧ f 3 = .pointer (some ⟨g3, 0, none⟩) ∧ f 5 = v12_out ∧ f 6 = .int .i64 (i_11 : Int) ∧ f 7 = .int .i64 (i64 (x_15 + 1)) ∧ f 27 = .bool ((decide ((i64 (x_15 + 1)) < 1)) || (decide ((i64 (x_15 + 1)) > 4))) ∧ Star H w_ ([own (OR.ownS 3 (OR.frz RP.int)) [v12_out] out_12, box g_0 86 #[v0_0, .int .i64 g_0_1_14], box g3 26 #[v1_0, v1_1]]) := ⟨_, rfl⟩
          refine W_join R25 ?_ ?_
          ·
            refine W_region ?_
            refine L_mv (v := .int .i64 (i64 (x_15 + 1))) rfl rfl ?_
            refine L_lss (m := i64 (x_15 + 1)) (n := 1) rfl rfl rfl ?_
            refine L_mv (v := .bool (decide ((i64 (x_15 + 1)) < 1))) rfl rfl ?_
            refine L_split (d := 24) (b := decide ((i64 (x_15 + 1)) < 1)) rfl (fun hc26 => ?_) (fun hc26 => ?_)
            ·
              refine L_pass rfl ?_
              refine L_pass rfl ?_
              refine L_pick (v := .bool ((decide ((i64 (x_15 + 1)) < 1)) || (decide ((i64 (x_15 + 1)) > 4)))) rfl rfl (or_t hc26) ?_
              refine L_nil ?_
              show R25 _ _
              rw [hR25]
              exact ⟨sf0, sf3, sf5, sf6, rfl, rfl, hst⟩
            ·
              refine L_mv (v := .int .i64 (i64 (x_15 + 1))) rfl rfl ?_
              refine L_gtr (m := i64 (x_15 + 1)) (n := 4) rfl rfl rfl ?_
              refine L_pick (v := .bool ((decide ((i64 (x_15 + 1)) < 1)) || (decide ((i64 (x_15 + 1)) > 4)))) rfl rfl (or_f hc26 rfl) ?_
              refine L_nil ?_
              show R25 _ _
              rw [hR25]
              exact ⟨sf0, sf3, sf5, sf6, rfl, rfl, hst⟩
          ·
            intro f w_ hR
            rw [hR25] at hR
            obtain ⟨sf0, sf3, sf5, sf6, sf7, sf27, hst⟩ := hR
            clear hR25
            obtain ⟨n_27, hA28, hB15⟩ := bind_some hB15
            obtain ⟨R28, hR28⟩ : ∃ RR_ : Fr → World → Prop, RR_ = fun f w_ => f 0 = .pointer (some ⟨g_0, 0, none⟩) ∧ f 3 = .pointer (some ⟨g3, 0, none⟩) ∧ f 5 = v12_out ∧ f 6 = .int .i64 (i_11 : Int) ∧ f 7 = .int .i64 n_27 ∧ Star H w_ ([own (OR.ownS 3 (OR.frz RP.int)) [v12_out] out_12, box g_0 86 #[v0_0, .int .i64 g_0_1_14], box g3 26 #[v1_0, v1_1]]) := ⟨_, rfl⟩
            refine W_join R28 ?_ ?_
            ·
              refine W_cond (b := ((decide ((i64 (x_15 + 1)) < 1)) || (decide ((i64 (x_15 + 1)) > 4)))) sf27 (fun hc29 => ?_) (fun hc29 => ?_)
              ·
                have hA28 := (ite_t hc29).symm.trans hA28
                refine W_region ?_
                refine L_as (v := .int .i64 1) rfl rfl ?_
                refine L_nil ?_
                obtain rfl := so hA28
                show R28 _ _
                rw [hR28]
                exact ⟨sf0, sf3, sf5, sf6, rfl, hst⟩
              ·
                have hA28 := (ite_f hc29).symm.trans hA28
                refine W_skip ?_
                obtain rfl := so hA28
                show R28 _ _
                rw [hR28]
                exact ⟨sf0, sf3, sf5, sf6, sf7, hst⟩
            ·
              intro f w_ hR
              rw [hR28] at hR
              obtain ⟨sf0, sf3, sf5, sf6, sf7, hst⟩ := hR
              clear hR28
              obtain ⟨x35, hx35, hB15⟩ := bind_some hB15
              obtain ⟨x40, hx40, hB15⟩ := bind_some hB15
              refine W_region ?_
              refine L_mv (v := v12_out) rfl sf5 ?_
              refine L_mv (v := .pointer (some ⟨g_0, 0, none⟩)) rfl sf0 ?_
              refine L_mv (v := .int .i64 n_27) rfl sf7 ?_
              have hst := Star.get 1 hst rfl
              obtain ⟨Hb44, hle45, hsb46, hfz47, hbk48⟩ := Star.lend [_] hst
              refine L_call (args := #[.pointer (some ⟨g_0, 0, none⟩), .int .i64 n_27]) rfl Try.call70 (ops2 rfl rfl) (s_l17Rd_pick_c (r_ := ({ b := r_.b, p := g_0_1_14 } : Rd)) (n_ := n_27) hsb46 (RP.mono _ h0_0 hle45) hx35) ?_
              rintro _ w49 ⟨rfl, hst⟩
              have hst := hbk48 hst (closedL_cons (closed_box _ _ _) closedL_nil)
              refine L_bs rfl (parts1 rfl) (bs_23_1_0 (.int .i64 x35.1) rfl) hst ?_
              intro g50 w51 hst
              have hst := Star.addF (r := RP.int) (cs := [.int .i64 x35.1]) (x := x35.1) hst rfl
              have hst := Star.mkRow (R := (OR.frz RP.int)) [([.int .i64 x35.1], x35.1)] [x35.1] 1 hst rfl rfl rfl (by decide)
              have hst := Star.get 2 hst rfl
              refine L_appM (v := v12_out) (u := (.slice (some ⟨g50, 0, none⟩) 1 1)) rfl et_23 rfl rfl hst hx40 ?_
              intro v53 w54 hst
              refine L_as (v := v53) rfl rfl ?_
              refine L_nil ?_
              refine W_region ?_
              refine L_mv (v := .int .i64 (i_11 : Int)) rfl sf6 ?_
              refine L_add (m := (i_11 : Int)) (n := 1) rfl rfl rfl ?_
              refine L_as (v := .int .i64 (i64 ((i_11 : Int) + 1))) rfl rfl ?_
              refine L_nil ?_
              obtain rfl := so hB15
              show ∃ m, m < _ ∧ I15 m _ _
              refine ⟨rest15.length, by simp, ?_⟩
              rw [hI15]
              exact ⟨i_11 + 1, rest15, x40, x35.2, v53, rfl, drop_next hd15, by simp at hl15; omega, hL15, sf0, sf3, rfl, (Eq.trans rfl (congrArg (Value.int .i64) (i64_succ (n := m.sizes.length) (by simp at hl15; omega) hlen15))), hst⟩
      ·
        cases suf15 with
        | cons _ _ => exact absurd (of_decide_eq_false hc16) (by simp at hl15; omega)
        | nil =>
          obtain rfl := range_nil hL15
          refine W_exit ?_
          show R15 _ _
          rw [hR15]
          exact ⟨out_12, g_0_1_14, v12_out, rfl, sf0, sf5, (Star.keepN 2 hst)⟩
  ·
    clear hst
    intro f w_ hR
    rw [hR15] at hR
    obtain ⟨out_12, g_0_1_14, v12_out, rfl, sf0, sf5, hst⟩ := hR
    clear hR15
    refine W_seq ?_
    refine W_seq ?_
    obtain ⟨x61, hx61, hF⟩ := bind_some hF
    refine W_region ?_
    refine L_mv (v := .pointer (some ⟨g_0, 0, none⟩)) rfl sf0 ?_
    have hst := Star.get 1 hst rfl
    obtain ⟨Hb63, hle64, hsb65, hfz66, hbk67⟩ := Star.lend [_] hst
    refine L_call (args := #[.pointer (some ⟨g_0, 0, none⟩), .int .i64 40]) rfl Try.call70 (ops2 rfl rfl) (s_l17Rd_pick_c (r_ := ({ b := r_.b, p := g_0_1_14 } : Rd)) (n_ := 40) hsb65 (RP.mono _ h0_0 hle64) hx61) ?_
    rintro _ w68 ⟨rfl, hst⟩
    have hst := hbk67 hst (closedL_cons (closed_box _ _ _) closedL_nil)
    refine L_nil ?_
    refine W_block ?_
    refine W_seq ?_
    refine W_region ?_
    refine L_eql (m := x61.1) (n := 0) rfl rfl rfl ?_
    refine L_as (v := .bool (x61.1 == 0)) rfl rfl ?_
    refine L_nil ?_
    obtain ⟨⟨out_69, g_0_1_71⟩, hA72, hF⟩ := bind_some hF
    obtain ⟨R72, hR72⟩ : ∃ RR_ : Fr → World → Prop, RR_ = fun f w_ => ∃ v69_out : Value, f 5 = v69_out ∧ Star H w_ ([own (OR.ownS 3 (OR.frz RP.int)) [v69_out] out_69, box g_0 86 #[v0_0, .int .i64 g_0_1_71]]) := ⟨_, rfl⟩
    refine W_join R72 ?_ ?_
    ·
      refine W_cond (b := (x61.1 == 0)) rfl (fun hc73 => ?_) (fun hc73 => ?_)
      ·
        have hA72 := (ite_t hc73).symm.trans hA72
        obtain ⟨x77, hx77, hA72⟩ := bind_some hA72
        refine W_region ?_
        refine L_mv (v := v12_out) rfl sf5 ?_
        refine L_bs rfl (parts1 rfl) (bs_23_1_0 (.int .i64 0) rfl) hst ?_
        intro g81 w82 hst
        have hst := Star.addF (r := RP.int) (cs := [.int .i64 0]) (x := 0) hst rfl
        have hst := Star.mkRow (R := (OR.frz RP.int)) [([.int .i64 0], 0)] [0] 1 hst rfl rfl rfl (by decide)
        have hst := Star.get 2 hst rfl
        refine L_appM (v := v12_out) (u := (.slice (some ⟨g81, 0, none⟩) 1 1)) rfl et_23 rfl rfl hst hx77 ?_
        intro v84 w85 hst
        refine L_as (v := v84) rfl rfl ?_
        refine L_nil ?_
        obtain ⟨rfl, rfl⟩ := so2 hA72
        show R72 _ _
        rw [hR72]
        exact ⟨v84, rfl, hst⟩
      ·
        have hA72 := (ite_f hc73).symm.trans hA72
        refine W_seq ?_
        refine W_region ?_
        refine L_eql (m := x61.1) (n := 1) rfl rfl rfl ?_
        refine L_as (v := .bool (x61.1 == 1)) rfl rfl ?_
        refine L_nil ?_
        obtain ⟨⟨out_87, g_0_1_88⟩, hA89, hA72⟩ := bind_some hA72
        obtain ⟨R89, hR89⟩ : ∃ RR_ : Fr → World → Prop, RR_ = fun f w_ => f 5 = v12_out ∧ Star H w_ ([own (OR.ownS 3 (OR.frz RP.int)) [v12_out] out_87, box g_0 86 #[v0_0, .int .i64 g_0_1_88]]) := ⟨_, rfl⟩
        refine W_join R89 ?_ ?_
        ·
          refine W_cond (b := (x61.1 == 1)) rfl (fun hc90 => ?_) (fun hc90 => ?_)
          ·
            have hA89 := (ite_t hc90).symm.trans hA89
            refine W_seq ?_
            refine W_region ?_
            refine L_mv (v := v12_out) rfl sf5 ?_
            refine L_len (v := v12_out) (n := List.length out_12) rfl Try.underlying23 rfl (Star.len 1 hst rfl) ?_
            refine L_gtr (m := (out_12.length : Int)) (n := 0) rfl rfl rfl ?_
            refine L_nil ?_
            obtain ⟨⟨out_91, g_0_1_92⟩, hA93, hA89⟩ := bind_some hA89
            obtain ⟨R93, hR93⟩ : ∃ RR_ : Fr → World → Prop, RR_ = fun f w_ => f 5 = v12_out ∧ Star H w_ ([own (OR.ownS 3 (OR.frz RP.int)) [v12_out] out_91, box g_0 86 #[v0_0, .int .i64 g_0_1_92]]) := ⟨_, rfl⟩
            refine W_join R93 ?_ ?_
            ·
              refine W_cond (b := decide ((out_12.length : Int) > 0)) rfl (fun hc94 => ?_) (fun hc94 => ?_)
              ·
                have hA93 := (ite_t hc94).symm.trans hA93
                obtain ⟨x104, hx104, hA93⟩ := bind_some hA93
                obtain ⟨x106, hx106, hA93⟩ := bind_some hA93
                refine W_region ?_
                refine L_mv (v := v12_out) rfl sf5 ?_
                refine L_mv (v := .pointer (some ⟨g_0, 0, none⟩)) rfl sf0 ?_
                refine L_bs rfl (parts3 rfl rfl rfl) (bs_23_3_0_0_0 (.int .i64 (-1)) (.int .i64 4) (.int .i64 9223372036854775807) rfl rfl rfl) hst ?_
                intro g110 w111 hst
                have hst := Star.addF (r := RP.int) (cs := [.int .i64 9223372036854775807]) (x := 9223372036854775807) hst rfl
                have hst := Star.addF (r := RP.int) (cs := [.int .i64 4]) (x := 4) hst rfl
                have hst := Star.addF (r := RP.int) (cs := [.int .i64 (-1)]) (x := (-1)) hst rfl
                have hst := Star.mkRow (R := (OR.frz RP.int)) [([.int .i64 (-1)], (-1)), ([.int .i64 4], 4), ([.int .i64 9223372036854775807], 9223372036854775807)] [(-1), 4, 9223372036854775807] 3 hst rfl rfl rfl (by decide)
                have hst := Star.get 1 hst rfl
                obtain ⟨Hb113, hle114, hsb115, hfz116, hbk117⟩ := Star.lend [_] hst
                have hb118 : (RP.slice 3 RP.int).rel Hb113 [(.slice (some ⟨g110, 0, none⟩) 3 3)] ([(-1), 4, 9223372036854775807]) := fz_own 0 hfz116 rfl
                refine L_call (args := #[.pointer (some ⟨g_0, 0, none⟩), (.slice (some ⟨g110, 0, none⟩) 3 3)]) rfl Try.call49 (ops2 rfl rfl) (s_l17Rd_num_c (r_ := ({ b := r_.b, p := x61.2 } : Rd)) (list := [(-1), 4, 9223372036854775807]) hsb115 (RP.mono _ h0_0 hle114) hb118 hx104) ?_
                rintro _ w119 ⟨rfl, hst⟩
                have hst := hbk117 hst (closedL_cons (closed_box _ _ _) closedL_nil)
                obtain ⟨g120, cap_g120, hv121, _, _⟩ := Star.row 2 hst rfl hx106
                refine L_ixO (R := (OR.frz RP.int)) (tb := 0) 0 rfl Try.underlying23 Try.sizeOf3 rfl hv121 (by first | rfl | simp) rfl hx106 ?_
                have hst := Star.addF (r := RP.int) (cs := [.int .i64 x104.1]) (x := x104.1) hst rfl
                have hst := Star.get 3 hst rfl
                have hst := Star.get 1 hst rfl
                refine L_stE1 (u := .int .i64 x104.1) rfl Try.sizeOf3 rfl rfl rfl hv121 hst hx106 ?_
                intro w122 hst
                refine L_nil ?_
                obtain ⟨rfl, rfl⟩ := so2 hA93
                show R93 _ _
                rw [hR93]
                exact ⟨sf5, (Star.keepN 2 hst)⟩
              ·
                have hA93 := (ite_f hc94).symm.trans hA93
                refine W_skip ?_
                obtain ⟨rfl, rfl⟩ := so2 hA93
                have hst := Star.get 1 hst rfl
                show R93 _ _
                rw [hR93]
                exact ⟨sf5, hst⟩
            ·
              intro f w_ hR
              rw [hR93] at hR
              obtain ⟨sf5, hst⟩ := hR
              clear hR93
              obtain ⟨rfl, rfl⟩ := so2 hA89
              show R89 _ _
              rw [hR89]
              exact ⟨sf5, hst⟩
          ·
            have hA89 := (ite_f hc90).symm.trans hA89
            refine W_skip ?_
            obtain ⟨rfl, rfl⟩ := so2 hA89
            have hst := Star.get 1 hst rfl
            show R89 _ _
            rw [hR89]
            exact ⟨sf5, hst⟩
        ·
          intro f w_ hR
          rw [hR89] at hR
          obtain ⟨sf5, hst⟩ := hR
          clear hR89
          obtain ⟨rfl, rfl⟩ := so2 hA72
          show R72 _ _
          rw [hR72]
          exact ⟨v12_out, sf5, hst⟩
    ·
      intro f w_ hR
      rw [hR72] at hR
      obtain ⟨v69_out, sf5, hst⟩ := hR
      clear hR72
      refine W_seq ?_
      refine W_region ?_
      refine L_mv (v := v69_out) rfl sf5 ?_
      refine L_as (v := v69_out) rfl rfl ?_
      refine L_nil ?_
      refine W_ret ?_
      refine retG1 (v1 := v69_out) Try.results54 rfl ?_
      obtain rfl := so hF
      exact ⟨v69_out, rfl, hst⟩

theorem s_DrawRuleHolds_c {fu : Nat} {code : List UInt8} {v0 : Value} {H : FH} {w : World} {R : List Ass} (hst : Star H w R) (h0 : (RP.slice 5 RP.u8).rel H [v0] code) {r : Unit} (hF : s_DrawRuleHolds fu code = some r) :
    C Try.prog 17 #[v0] w fun v w' => ∃ o : Model × Int × (List Int), (sModel o.1 ∧ sOut o.2.2) ∧ ∃ H' : FH, Le H H' ∧ ∃ (u1 : Value) (u2 : Value) (u3 : Value), v = .tuple #[.agg #[u1, u2], .int .i64 o.2.1, u3] ∧ (RP.slice 3 RP.int).rel H' [u1] o.1.sizes ∧ (RP.slice 36 (rRule 3 23)).rel H' [u2] o.1.rules ∧ (RP.slice 3 RP.int).rel H' [u3] o.2.2 ∧ Star H' w' (R) := by
  unfold s_DrawRuleHolds at hF
  refine C_enter Try.func17 rfl Try.ntmps17 rfl ?_
  refine W_seq ?_
  refine W_region ?_
  refine L_al (cs := #[(.slice none 0 0), (.slice none 0 0)]) rfl Try.zeroValue26 rfl hst ?_
  intro g3 w4 hst
  refine L_as (v := .int .i64 0) rfl rfl ?_
  refine L_as (v := (.slice none 0 0)) rfl rfl ?_
  refine L_nil ?_
  refine W_seq ?_
  obtain ⟨x5, hx5, hF⟩ := bind_some hF
  refine W_region ?_
  refine L_mv (v := v0) rfl rfl ?_
  refine L_call (args := #[v0]) rfl Try.call46 (ops1 rfl) (s_l17Open_c (code := code) hst h0 hx5) ?_
  rintro _ w7 ⟨H7, hle7, r7_0, r7_1, rfl, hr7_1, hst⟩
  refine L_as (v := .pointer (some ⟨r7_0, 0, none⟩)) rfl rfl ?_
  refine L_nil ?_
  refine W_seq ?_
  obtain ⟨x8, hx8, hF⟩ := bind_some hF
  obtain ⟨hx14, hF⟩ := anyB_some hF
  refine W_region ?_
  refine L_mv (v := .pointer (some ⟨r7_0, 0, none⟩)) rfl rfl ?_
  refine L_mv (v := .pointer (some ⟨r7_0, 0, none⟩)) rfl rfl ?_
  refine L_call (args := #[.pointer (some ⟨r7_0, 0, none⟩)]) rfl Try.call48 (ops1 rfl) (s_l6Model_c (r_ := x5) hst hr7_1 hx8) ?_
  rintro _ w19 ⟨H19, hle19, r19_0, r19_1, rfl, hr19_0, hst⟩
  obtain ⟨H21, hle22, hst, hz23⟩ := Star.freeze hst
  have hz23 : (RP.slice 36 (rRule 3 23)).rel H21 [r19_1] x8.1.rules := hz23
  refine L_call (args := #[.pointer (some ⟨r7_0, 0, none⟩), .agg #[r19_0, r19_1]]) rfl Try.call47 (ops2 rfl rfl) (s_l6Mutate_c (r_ := ({ b := x5.b, p := x8.2 } : Rd)) (m := x8.1) hst (RP.mono _ hr7_1 (Le.trans hle19 hle22)) (RP.mono _ hr19_0 hle22) hz23 hx14) ?_
  rintro _ w24 ⟨x14, gd24, H24, hle24, r24_0, r24_1, rfl, hr24_0, hr24_1, hst⟩
  have hF := hF x14 gd24
  refine L_al (cs := #[(.slice none 0 0), (.slice none 0 0)]) rfl Try.zeroValue26 rfl hst ?_
  intro g25 w26 hst
  refine L_staB (vs := #[r24_0, r24_1]) (cs2 := #[r24_0, r24_1]) 0 rfl Try.sizeOf26 rfl rfl rfl (ones_cons (one_len (slice_len hr24_0)) (ones_cons (one_len (slice_len hr24_1)) ones_nil)) hst rfl (by decide) rfl ?_
  intro w27 hst
  refine L_nil ?_
  refine W_seq ?_
  obtain ⟨x37, hx37, hF⟩ := bind_some hF
  obtain ⟨x44, hx44, hF⟩ := bind_some hF
  have hst := Star.get 1 hst rfl
  have hst := Star.get 2 hst rfl
  have hst := Star.get 2 hst rfl
  refine W_drawS 7 [isV (.agg #[r24_0, r24_1]), isV (.pointer (some ⟨r7_0, 0, none⟩)), anyF, isV (.int .i64 x37.1), isV (.pointer (some ⟨r7_0, 0, none⟩)), isV (.agg #[r24_0, r24_1]), anyF] [box g25 26 #[r24_0, r24_1], box g3 26 #[(.slice none 0 0), (.slice none 0 0)]] [.base (box r7_0 86 #[r7_1, .int .i64 x14.2]) (some 3), .made 2 15 (fun v_ => own (OR.ownS 3 (OR.frz RP.int)) [v_] ([0, 0, 1, 2, (-1), 8])) none, .made 3 16 (fun v_ => box r7_0 86 #[r7_1, .int .i64 x37.2]) (some 6), .made 6 19 (fun v_ => own (OR.ownS 3 (OR.frz RP.int)) [v_] x44.1) none, .made 6 19 (fun v_ => box r7_0 86 #[r7_1, .int .i64 x44.2]) none] (R) [([], []), ([], []), ([], [1]), ([0, 1], [1, 2]), ([], []), ([], []), ([2], [3, 4])] (S := [(none, none, some 3), (some 2, some 15, none), (some 3, some 16, some 6), (some 6, some 19, none), (some 6, some 19, none)]) Try_mix (by kernel_rfl) rfl (by kernel_rfl) (amF_cons (mono_V _) (amF_cons (mono_V _) (amF_cons (mono_any) (amF_cons (mono_V _) (amF_cons (mono_V _) (amF_cons (mono_V _) (amF_cons (mono_any) amF_nil))))))) hst ?_ (fun f w_ H48 hS48 hE48 hT48 hst => ?_)
  ·
    refine opsS_cons ?_ ?_
    ·
      intro f w_ H48 X48 hS48 hE48 hP48 hst
      refine L_lda (cs := [r24_0, r24_1]) rfl Try.isAgg26 Try.sizeOf26 ((hS48 6 rfl).trans rfl) (At.sub0 (Blk.at (Star.blkAt 0 hst rfl)) 0 2) rfl ?_
      exact L_nil ⟨rfl, _, _, _, rfl, rfl, Le.refl _, rfl, hst⟩
    refine opsS_cons ?_ ?_
    ·
      intro f w_ H48 X48 hS48 hE48 hP48 hst
      refine L_mv (v := .pointer (some ⟨r7_0, 0, none⟩)) rfl ((hS48 5 rfl).trans rfl) ?_
      exact L_nil ⟨rfl, _, _, _, rfl, rfl, Le.refl _, rfl, hst⟩
    refine opsS_cons ?_ ?_
    ·
      intro f w_ H48 X48 hS48 hE48 hP48 hst
      refine L_bs rfl (parts6 rfl rfl rfl rfl rfl rfl) (bs_23_6_0_0_0_0_0_0 (.int .i64 0) (.int .i64 0) (.int .i64 1) (.int .i64 2) (.int .i64 (-1)) (.int .i64 8) rfl rfl rfl rfl rfl rfl) hst ?_
      intro g66 w67 hst
      have hst := Star.addF (r := RP.int) (cs := [.int .i64 8]) (x := 8) hst rfl
      have hst := Star.addF (r := RP.int) (cs := [.int .i64 (-1)]) (x := (-1)) hst rfl
      have hst := Star.addF (r := RP.int) (cs := [.int .i64 2]) (x := 2) hst rfl
      have hst := Star.addF (r := RP.int) (cs := [.int .i64 1]) (x := 1) hst rfl
      have hst := Star.addF (r := RP.int) (cs := [.int .i64 0]) (x := 0) hst rfl
      have hst := Star.addF (r := RP.int) (cs := [.int .i64 0]) (x := 0) hst rfl
      have hst := Star.mkRow (R := (OR.frz RP.int)) [([.int .i64 0], 0), ([.int .i64 0], 0), ([.int .i64 1], 1), ([.int .i64 2], 2), ([.int .i64 (-1)], (-1)), ([.int .i64 8], 8)] [0, 0, 1, 2, (-1), 8] 6 hst rfl rfl rfl (by decide)
      have hst := Star.get 2 hst rfl
      have hst := Star.get 2 hst rfl
      exact L_nil ⟨rfl, _, _, _, rfl, rfl, Le.refl _, trivial, hst⟩
    refine opsS_cons ?_ ?_
    ·
      intro f w_ H48 X48 hS48 hE48 hP48 hst
      have hst : Star H48 w_ (box g25 26 #[r24_0, r24_1] :: box g3 26 #[(.slice none 0 0), (.slice none 0 0)] :: box r7_0 86 #[r7_1, .int .i64 x14.2] :: own (OR.ownS 3 (OR.frz RP.int)) [(f 15)] ([0, 0, 1, 2, (-1), 8]) :: X48) := hst
      have hst := Star.get 2 hst rfl
      obtain ⟨Hb70, hle71, hsb72, hfz73, hbk74⟩ := Star.lend [_] hst
      have hb75 : (RP.slice 3 RP.int).rel Hb70 [(f 15)] ([0, 0, 1, 2, (-1), 8]) := fz_own 2 hfz73 rfl
      refine L_call (args := #[.pointer (some ⟨r7_0, 0, none⟩), (f 15)]) rfl Try.call49 (ops2 (hP48 1 14 rfl rfl) rfl) (s_l17Rd_num_c (r_ := ({ b := x5.b, p := x14.2 } : Rd)) (list := [0, 0, 1, 2, (-1), 8]) hsb72 (RP.mono _ hr7_1 (Le.trans (Le.trans (Le.trans (Le.trans hle19 hle22) hle24) hE48) hle71)) hb75 hx37) ?_
      rintro _ w76 ⟨rfl, hst⟩
      have hst := hbk74 hst (closedL_cons (closed_box _ _ _) closedL_nil)
      have hst := Star.get 3 hst rfl
      have hst := Star.get 3 hst rfl
      have hst := Star.get 3 hst rfl
      exact L_nil ⟨rfl, _, _, _, rfl, rfl, Le.refl _, rfl, hst⟩
    refine opsS_cons ?_ ?_
    ·
      intro f w_ H48 X48 hS48 hE48 hP48 hst
      refine L_mv (v := .pointer (some ⟨r7_0, 0, none⟩)) rfl ((hS48 5 rfl).trans rfl) ?_
      exact L_nil ⟨rfl, _, _, _, rfl, rfl, Le.refl _, rfl, hst⟩
    refine opsS_cons ?_ ?_
    ·
      intro f w_ H48 X48 hS48 hE48 hP48 hst
      refine L_lda (cs := [r24_0, r24_1]) rfl Try.isAgg26 Try.sizeOf26 ((hS48 6 rfl).trans rfl) (At.sub0 (Blk.at (Star.blkAt 0 hst rfl)) 0 2) rfl ?_
      exact L_nil ⟨rfl, _, _, _, rfl, rfl, Le.refl _, rfl, hst⟩
    refine opsS_cons ?_ ?_
    ·
      intro f w_ H48 X48 hS48 hE48 hP48 hst
      have hst : Star H48 w_ (box g25 26 #[r24_0, r24_1] :: box g3 26 #[(.slice none 0 0), (.slice none 0 0)] :: box r7_0 86 #[r7_1, .int .i64 x37.2] :: X48) := hst
      have hst := Star.get 2 hst rfl
      obtain ⟨Hb77, hle78, hsb79, hfz80, hbk81⟩ := Star.lend [_] hst
      refine L_call (args := #[.pointer (some ⟨r7_0, 0, none⟩), .agg #[r24_0, r24_1]]) rfl Try.call54 (ops2 (hP48 4 17 rfl rfl) (hP48 5 18 rfl rfl)) (s_l6DrawCells_c (r_ := ({ b := x5.b, p := x37.2 } : Rd)) (m := x14.1) hsb79 (RP.mono _ hr7_1 (Le.trans (Le.trans (Le.trans (Le.trans hle19 hle22) hle24) hE48) hle78)) (RP.mono _ hr24_0 (Le.trans hE48 hle78)) (RP.mono _ hr24_1 (Le.trans hE48 hle78)) hx44) ?_
      rintro r82_0 w82 ⟨_, rfl, hst⟩
      have hst := hbk81 hst (closedL_cons (closed_own (OR.closed_ownS closed_int) _ _) (closedL_cons (closed_box _ _ _) closedL_nil))
      have hst := Star.get 1 hst rfl
      have hst := Star.get 1 hst rfl
      have hst := Star.get 3 hst rfl
      have hst := Star.get 3 hst rfl
      exact L_nil ⟨rfl, _, _, _, rfl, rfl, Le.refl _, trivial, hst⟩
    exact opsS_nil
  ·
    have hst : Star H48 w_ (box g25 26 #[r24_0, r24_1] :: box g3 26 #[(.slice none 0 0), (.slice none 0 0)] :: own (OR.ownS 3 (OR.frz RP.int)) [(f 15)] ([0, 0, 1, 2, (-1), 8]) :: own (OR.ownS 3 (OR.frz RP.int)) [(f 19)] x44.1 :: box r7_0 86 #[r7_1, .int .i64 x44.2] :: R) := hst
    refine L_staB (vs := #[r24_0, r24_1]) (cs2 := #[r24_0, r24_1]) 1 rfl Try.sizeOf26 ((hS48 2 rfl).trans rfl) (hT48 0 13 rfl rfl) rfl (ones_cons (one_len (slice_len (RP.mono _ hr24_0 hE48))) (ones_cons (one_len (slice_len (RP.mono _ hr24_1 hE48))) ones_nil)) hst rfl (by decide) rfl ?_
    intro w85 hst
    refine L_as (v := .int .i64 x37.1) rfl (hT48 3 16 rfl rfl) ?_
    refine L_as (v := (f 19)) rfl rfl ?_
    refine L_nil ?_
    refine W_ret ?_
    refine retG3 (v1 := .agg #[r24_0, r24_1]) (v2 := .int .i64 x37.1) (v3 := (f 19)) Try.results17 (resV_agg Try.isAgg26 Try.sizeOf26 ((hS48 2 rfl).trans rfl) (Star.blkAt 0 hst rfl) rfl) rfl rfl ?_
    have hG := assertM_some hF
    have hst := Star.get 3 hst rfl
    obtain ⟨H86, hle87, hst, hz88⟩ := Star.freeze hst
    have hz88 : (RP.slice 3 RP.int).rel H86 [(f 19)] x44.1 := hz88
    have hst := Star.drop 0 hst rfl
    have hst := Star.drop 0 hst rfl
    have hst := Star.drop 0 hst rfl
    have hst := Star.drop 0 hst rfl
    exact ⟨(x14.1, x37.1, x44.1), hG, H86, (Le.trans (Le.trans (Le.trans (Le.trans (Le.trans hle7 hle19) hle22) hle24) hE48) hle87), r24_0, r24_1, (f 19), rfl, (RP.mono _ hr24_0 (Le.trans hE48 hle87)), (RP.mono _ hr24_1 (Le.trans hE48 hle87)), hz88, hst⟩

theorem i_CellsValid_c {m : Model} {cells : List Int} {v0_0 : Value} {v0_1 : Value} {v1 : Value} {H : FH} {w : World} (hst : Star H w []) (h0_0 : (RP.slice 3 RP.int).rel H [v0_0] m.sizes) (h0_1 : (RP.slice 36 (rRule 3 23)).rel H [v0_1] m.rules) (h1 : (RP.slice 3 RP.int).rel H [v1] cells) {r : Bool} (hF : i_CellsValid m cells = some r) :
    C Try.prog 20 #[.agg #[v0_0, v0_1], v1] w fun v w' => v = .bool r ∧ Star H w' [] := by
  unfold i_CellsValid at hF
  refine C_enter Try.func20 rfl Try.ntmps20 rfl ?_
  refine W_seq ?_
  refine W_region ?_
  refine L_box (v := .agg #[v0_0, v0_1]) (cs := #[v0_0, v0_1]) rfl rfl rfl hst ?_
  intro g3 w4 hst
  refine L_as (v := .bool false) rfl rfl ?_
  refine L_nil ?_
  refine W_seq ?_
  refine W_seq ?_
  obtain ⟨x10, hx10, hF⟩ := bind_some hF
  obtain ⟨R12, hR12⟩ : ∃ RR_ : Fr → World → Prop, RR_ = fun f w_ => f 1 = v1 ∧ f 2 = .pointer (some ⟨g3, 0, none⟩) ∧ f 17 = .bool ((!x10) || ((cells.length : Int) != (m.sizes.length : Int))) ∧ Star H w_ ([box g3 26 #[v0_0, v0_1]]) := ⟨_, rfl⟩
  refine W_join R12 ?_ ?_
  ·
    refine W_region ?_
    refine L_lda (cs := [v0_0, v0_1]) rfl Try.isAgg26 Try.sizeOf26 rfl (At.sub0 (Blk.at (Star.blkAt 0 hst rfl)) 0 2) rfl ?_
    obtain ⟨Hb13, hle14, hsb15, hfz16, hbk17⟩ := Star.borrow hst
    refine L_call (args := #[.agg #[v0_0, v0_1]]) rfl Try.call28 (ops1 rfl) (i_ModelValid_c (m := m) hsb15 (RP.mono _ h0_0 hle14) (RP.mono _ h0_1 hle14) hx10) ?_
    rintro _ w18 ⟨rfl, hst⟩
    have hst := hbk17 hst closedL_nil
    refine L_not_ (b := x10) rfl rfl ?_
    refine L_mv (v := .bool (!x10)) rfl rfl ?_
    refine L_split (d := 10) (b := (!x10)) rfl (fun hc19 => ?_) (fun hc19 => ?_)
    ·
      refine L_pass rfl ?_
      refine L_pass rfl ?_
      refine L_pass rfl ?_
      refine L_pass rfl ?_
      refine L_pass rfl ?_
      refine L_pass rfl ?_
      refine L_pick (v := .bool ((!x10) || ((cells.length : Int) != (m.sizes.length : Int)))) rfl rfl (or_t hc19) ?_
      refine L_nil ?_
      show R12 _ _
      rw [hR12]
      exact ⟨rfl, rfl, rfl, hst⟩
    ·
      refine L_mv (v := v1) rfl rfl ?_
      refine L_len (v := v1) (n := List.length cells) rfl Try.underlying23 rfl (slice_len h1) ?_
      refine L_fa (o' := 0) rfl fa_26_0 rfl rfl ?_
      refine L_ld (v := v0_0) rfl Try.isAgg23 rfl (At.cell0 (Blk.at (Star.blkAt 0 hst rfl)) (j := 0) rfl) ?_
      refine L_len (v := v0_0) (n := List.length m.sizes) rfl Try.underlying23 rfl (slice_len h0_0) ?_
      refine L_neq (m := (cells.length : Int)) (n := (m.sizes.length : Int)) rfl rfl rfl ?_
      refine L_pick (v := .bool ((!x10) || ((cells.length : Int) != (m.sizes.length : Int)))) rfl rfl (or_f hc19 rfl) ?_
      refine L_nil ?_
      show R12 _ _
      rw [hR12]
      exact ⟨rfl, rfl, rfl, hst⟩
  ·
    intro f w_ hR
    rw [hR12] at hR
    obtain ⟨sf1, sf2, sf17, hst⟩ := hR
    clear hR12
    refine W_cond (b := ((!x10) || ((cells.length : Int) != (m.sizes.length : Int)))) sf17 (fun hc20 => ?_) (fun hc20 => ?_)
    ·
      have hF := (ite_t hc20).symm.trans hF
      refine W_seq ?_
      refine W_region ?_
      refine L_as (v := .bool false) rfl rfl ?_
      refine L_nil ?_
      refine W_ret ?_
      refine retG1 (v1 := .bool false) Try.results20 rfl ?_
      obtain rfl := so hF
      exact ⟨rfl, (Star.keepN 0 hst)⟩
    ·
      have hF := (ite_f hc20).symm.trans hF
      refine W_skip ?_
      refine W_seq ?_
      refine W_seq ?_
      refine W_region ?_
      refine L_mv (v := v1) rfl sf1 ?_
      refine L_len (v := v1) (n := List.length cells) rfl Try.underlying23 rfl (slice_len h1) ?_
      refine L_mv (v := .int .i64 0) rfl rfl ?_
      refine L_nil ?_
      have hlen22 : List.length cells ≤ 9223372036854775807 := len_le (slice_len h1)
      obtain ⟨j22, hL22, hF⟩ := bind_some hF
      obtain ⟨R22, hR22⟩ : ∃ RR_ : Fr → World → Prop, RR_ = fun f w_ => j22 = .nx () ∧ Star H w_ ([]) := ⟨_, rfl⟩
      refine W_join R22 ?_ ?_
      ·
        refine W_block ?_
        obtain ⟨I22, hI22⟩ : ∃ I : Nat → Fr → World → Prop, I = fun n f w_ => ∃ i_21 : Nat, ∃ suf22 : List Int, n = suf22.length ∧ List.drop i_21 cells = suf22 ∧ i_21 + suf22.length = cells.length ∧ rangeL (i_CellsValid_b1 m) suf22 i_21 () = some j22 ∧ f 2 = .pointer (some ⟨g3, 0, none⟩) ∧ f 18 = v1 ∧ f 19 = .int .i64 (cells.length : Int) ∧ f 20 = .int .i64 (i_21 : Int) ∧ Star H w_ ([box g3 26 #[v0_0, v0_1]]) := ⟨_, rfl⟩
        refine W_loop I22 (n := cells.length) ?_ ?_
        · rw [hI22]; exact ⟨0, cells, rfl, rfl, Nat.zero_add _, hL22, sf2, rfl, rfl, rfl, hst⟩
        ·
          clear hst
          intro n22 f w_ hI
          rw [hI22] at hI
          obtain ⟨i_21, suf22, rfl, hd22, hl22, hL22, sf2, sf18, sf19, sf20, hst⟩ := hI
          refine W_seq ?_
          refine W_region ?_
          refine L_lss (m := (i_21 : Int)) (n := (cells.length : Int)) rfl sf20 sf19 ?_
          refine L_nil ?_
          refine W_seq ?_
          refine W_cond (b := decide ((i_21 : Int) < (cells.length : Int))) rfl (fun hc23 => ?_) (fun hc23 => ?_)
          ·
            have hlt22 := of_decide_eq_true hc23
            cases suf22 with
            | nil => exact absurd hlt22 (by simp at hl22; omega)
            | cons x_22 rest22 =>
              obtain ⟨o22, hB22, hL22⟩ := range_cons hL22
              rw [i_CellsValid_b1] at hB22
              have hix22 := drop_idx hd22
              refine W_skip ?_
              refine W_seq ?_
              refine W_block ?_
              refine W_seq ?_
              refine W_region ?_
              refine L_mv (v := .int .i64 (i_21 : Int)) rfl sf20 ?_
              refine L_ix (r := RP.int) rfl Try.underlying23 Try.sizeOf3 sf18 h1 sf20 hix22 ?_
              intro g28 o29 cs_g28 hrk_hat30 hat30
              obtain rfl : _ = [_] := hrk_hat30
              refine L_ld (v := .int .i64 x_22) rfl Try.isAgg3 rfl (At.cell (AtH.at hat30 hst.sub) (j := 0) rfl) ?_
              refine L_as (v := .int .i64 (i_21 : Int)) rfl rfl ?_
              refine L_as (v := .int .i64 x_22) rfl rfl ?_
              refine L_nil ?_
              refine W_seq ?_
              obtain ⟨x32, hx32, hB22⟩ := bind_some hB22
              obtain ⟨x42, hx42, hB22⟩ := bind_some hB22
              refine W_region ?_
              refine L_mv (v := .int .i64 x_22) rfl rfl ?_
              refine L_fa (o' := 0) rfl fa_26_0 sf2 rfl ?_
              refine L_ld (v := v0_0) rfl Try.isAgg23 rfl (At.cell0 (Blk.at (Star.blkAt 0 hst rfl)) (j := 0) rfl) ?_
              refine L_mv (v := .int .i64 (i_21 : Int)) rfl rfl ?_
              refine L_ix (r := RP.int) rfl Try.underlying23 Try.sizeOf3 rfl h0_0 rfl hx32 ?_
              intro g44 o45 cs_g44 hrk_hat46 hat46
              obtain rfl : _ = [_] := hrk_hat46
              refine L_ld (v := .int .i64 x32) rfl Try.isAgg3 rfl (At.cell (AtH.at hat46 hst.sub) (j := 0) rfl) ?_
              obtain ⟨Hb48, hle49, hsb50, hfz51, hbk52⟩ := Star.borrow hst
              refine L_call (args := #[.int .i64 x_22, .int .i64 0, .int .i64 x32]) rfl Try.call50 (ops3 rfl rfl rfl) (i_within_c (n_ := x_22) (low := 0) (high := x32) hsb50 hx42) ?_
              rintro _ w53 ⟨rfl, hst⟩
              have hst := hbk52 hst closedL_nil
              refine L_not_ (b := x42) rfl rfl ?_
              refine L_nil ?_
              refine W_cond (b := (!x42)) rfl (fun hc54 => ?_) (fun hc54 => ?_)
              ·
                have hB22 := (ite_t hc54).symm.trans hB22
                refine W_seq ?_
                refine W_region ?_
                refine L_as (v := .bool false) rfl rfl ?_
                refine L_nil ?_
                refine W_ret ?_
                refine retG1 (v1 := .bool false) Try.results20 rfl ?_
                obtain rfl := so hB22
                obtain rfl := so hL22
                obtain rfl := so hF
                exact ⟨rfl, (Star.keepN 0 hst)⟩
              ·
                have hB22 := (ite_f hc54).symm.trans hB22
                refine W_skip ?_
                refine W_region ?_
                refine L_add (m := (i_21 : Int)) (n := 1) rfl sf20 rfl ?_
                refine L_mv (v := .int .i64 (i64 ((i_21 : Int) + 1))) rfl rfl ?_
                refine L_nil ?_
                obtain rfl := so hB22
                show ∃ m, m < _ ∧ I22 m _ _
                refine ⟨rest22.length, by simp, ?_⟩
                rw [hI22]
                exact ⟨i_21 + 1, rest22, rfl, drop_next hd22, by simp at hl22; omega, hL22, sf2, sf18, sf19, (Eq.trans rfl (congrArg (Value.int .i64) (i64_succ (n := cells.length) (by simp at hl22; omega) hlen22))), hst⟩
          ·
            cases suf22 with
            | cons _ _ => exact absurd (of_decide_eq_false hc23) (by simp at hl22; omega)
            | nil =>
              obtain rfl := range_nil hL22
              refine W_exit ?_
              show R22 _ _
              rw [hR22]
              exact ⟨rfl, (Star.keepN 0 hst)⟩
      ·
        clear hst
        intro f w_ hR
        rw [hR22] at hR
        obtain ⟨rfl, hst⟩ := hR
        clear hR22
        refine W_seq ?_
        refine W_region ?_
        refine L_as (v := .bool true) rfl rfl ?_
        refine L_nil ?_
        refine W_ret ?_
        refine retG1 (v1 := .bool true) Try.results20 rfl ?_
        obtain rfl := so hF
        exact ⟨rfl, hst⟩

theorem i_isRule_c {m : Model} {rule : Int} {v0_0 : Value} {v0_1 : Value} {H : FH} {w : World} (hst : Star H w []) (h0_0 : (RP.slice 3 RP.int).rel H [v0_0] m.sizes) (h0_1 : (RP.slice 36 (rRule 3 23)).rel H [v0_1] m.rules) {r : Bool} (hF : i_isRule m rule = some r) :
    C Try.prog 55 #[.agg #[v0_0, v0_1], .int .i64 rule] w fun v w' => v = .bool r ∧ Star H w' [] := by
  unfold i_isRule at hF
  refine C_enter Try.func55 rfl Try.ntmps55 rfl ?_
  refine W_seq ?_
  refine W_region ?_
  refine L_box (v := .agg #[v0_0, v0_1]) (cs := #[v0_0, v0_1]) rfl rfl rfl hst ?_
  intro g3 w4 hst
  refine L_as (v := .bool false) rfl rfl ?_
  refine L_nil ?_
  refine W_seq ?_
  obtain ⟨x10, hx10, hF⟩ := bind_some hF
  refine W_region ?_
  refine L_mv (v := .int .i64 rule) rfl rfl ?_
  refine L_fa (o' := 1) rfl fa_26_1 rfl rfl ?_
  refine L_ld (v := v0_1) rfl Try.isAgg24 rfl (At.cell0 (Blk.at (Star.blkAt 0 hst rfl)) (j := 1) rfl) ?_
  refine L_len (v := v0_1) (n := List.length m.rules) rfl Try.underlying24 rfl (slice_len h0_1) ?_
  refine L_sub (m := (m.rules.length : Int)) (n := 1) rfl rfl rfl ?_
  obtain ⟨Hb12, hle13, hsb14, hfz15, hbk16⟩ := Star.borrow hst
  refine L_call (args := #[.int .i64 rule, .int .i64 0, .int .i64 (i64 ((m.rules.length : Int) - 1))]) rfl Try.call50 (ops3 rfl rfl rfl) (i_within_c (n_ := rule) (low := 0) (high := i64 ((m.rules.length : Int) - 1)) hsb14 hx10) ?_
  rintro _ w17 ⟨rfl, hst⟩
  have hst := hbk16 hst closedL_nil
  refine L_as (v := .bool x10) rfl rfl ?_
  refine L_nil ?_
  refine W_ret ?_
  refine retG1 (v1 := .bool x10) Try.results55 rfl ?_
  obtain rfl := so hF
  exact ⟨rfl, (Star.keepN 0 hst)⟩

theorem slices_Equal_int_c {s1 : List Int} {s2 : List Int} {v0 : Value} {v1 : Value} {H : FH} {w : World} (hst : Star H w []) (h0 : (RP.slice 3 RP.int).rel H [v0] s1) (h1 : (RP.slice 3 RP.int).rel H [v1] s2) {r : Bool} (hF : slices_Equal_int s1 s2 = some r) :
    C Try.prog 102 #[v0, v1] w fun v w' => v = .bool r ∧ Star H w' [] := by
  unfold slices_Equal_int at hF
  refine C_enter Try.func102 rfl Try.ntmps102 rfl ?_
  refine W_seq ?_
  refine W_region ?_
  refine L_as (v := .bool false) rfl rfl ?_
  refine L_nil ?_
  refine W_seq ?_
  refine W_seq ?_
  refine W_region ?_
  refine L_mv (v := v0) rfl rfl ?_
  refine L_len (v := v0) (n := List.length s1) rfl Try.underlying23 rfl (slice_len h0) ?_
  refine L_mv (v := v1) rfl rfl ?_
  refine L_len (v := v1) (n := List.length s2) rfl Try.underlying23 rfl (slice_len h1) ?_
  refine L_neq (m := (s1.length : Int)) (n := (s2.length : Int)) rfl rfl rfl ?_
  refine L_nil ?_
  refine W_cond (b := ((s1.length : Int) != (s2.length : Int))) rfl (fun hc1 => ?_) (fun hc1 => ?_)
  ·
    have hF := (ite_t hc1).symm.trans hF
    refine W_seq ?_
    refine W_region ?_
    refine L_as (v := .bool false) rfl rfl ?_
    refine L_nil ?_
    refine W_ret ?_
    refine retG1 (v1 := .bool false) Try.results102 rfl ?_
    obtain rfl := so hF
    exact ⟨rfl, hst⟩
  ·
    have hF := (ite_f hc1).symm.trans hF
    refine W_skip ?_
    refine W_seq ?_
    refine W_seq ?_
    refine W_region ?_
    refine L_mv (v := v0) rfl rfl ?_
    refine L_len (v := v0) (n := List.length s1) rfl Try.underlying23 rfl (slice_len h0) ?_
    refine L_mv (v := .int .i64 0) rfl rfl ?_
    refine L_nil ?_
    have hlen5 : List.length s1 ≤ 9223372036854775807 := len_le (slice_len h0)
    obtain ⟨j5, hL5, hF⟩ := bind_some hF
    obtain ⟨R5, hR5⟩ : ∃ RR_ : Fr → World → Prop, RR_ = fun f w_ => ∃ H3 : FH, j5 = .nx () ∧ Le H H3 ∧ Star H3 w_ ([]) := ⟨_, rfl⟩
    refine W_join R5 ?_ ?_
    ·
      refine W_block ?_
      obtain ⟨I5, hI5⟩ : ∃ I : Nat → Fr → World → Prop, I = fun n f w_ => ∃ i_2 : Nat, ∃ suf5 : List Int, ∃ H3 : FH, n = suf5.length ∧ List.drop i_2 s1 = suf5 ∧ i_2 + suf5.length = s1.length ∧ rangeL (slices_Equal_int_b1 s2) suf5 i_2 () = some j5 ∧ Le H H3 ∧ f 0 = v0 ∧ f 1 = v1 ∧ f 12 = .int .i64 (s1.length : Int) ∧ f 13 = .int .i64 (i_2 : Int) ∧ Star H3 w_ ([]) := ⟨_, rfl⟩
      refine W_loop I5 (n := s1.length) ?_ ?_
      · rw [hI5]; exact ⟨0, s1, H, rfl, rfl, Nat.zero_add _, hL5, (Le.refl _), rfl, rfl, rfl, rfl, hst⟩
      ·
        clear hst
        intro n5 f w_ hI
        rw [hI5] at hI
        obtain ⟨i_2, suf5, H3, rfl, hd5, hl5, hL5, hle4, sf0, sf1, sf12, sf13, hst⟩ := hI
        refine W_seq ?_
        refine W_region ?_
        refine L_lss (m := (i_2 : Int)) (n := (s1.length : Int)) rfl sf13 sf12 ?_
        refine L_nil ?_
        refine W_seq ?_
        refine W_cond (b := decide ((i_2 : Int) < (s1.length : Int))) rfl (fun hc6 => ?_) (fun hc6 => ?_)
        ·
          have hlt5 := of_decide_eq_true hc6
          cases suf5 with
          | nil => exact absurd hlt5 (by simp at hl5; omega)
          | cons x_5 rest5 =>
            obtain ⟨o5, hB5, hL5⟩ := range_cons hL5
            rw [slices_Equal_int_b1] at hB5
            have hix5 := drop_idx hd5
            refine W_skip ?_
            refine W_seq ?_
            refine W_block ?_
            refine W_seq ?_
            refine W_region ?_
            refine L_mv (v := .int .i64 (i_2 : Int)) rfl sf13 ?_
            refine L_as (v := .int .i64 (i_2 : Int)) rfl rfl ?_
            refine L_nil ?_
            refine W_seq ?_
            obtain ⟨x11, hx11, hB5⟩ := bind_some hB5
            refine W_drawS 8 [isV (v0), isV (.int .i64 (i_2 : Int)), isEl RP.int x_5 0, isV (.int .i64 x_5), isV (v1), isV (.int .i64 (i_2 : Int)), isEl RP.int x11 0, isV (.int .i64 x11)] [] [] ([]) [([], []), ([], []), ([], []), ([], []), ([], []), ([], []), ([], []), ([], [])] (S := []) Try_mix (by kernel_rfl) rfl (by kernel_rfl) (amF_cons (mono_V _) (amF_cons (mono_V _) (amF_cons (mono_el _ _ _) (amF_cons (mono_V _) (amF_cons (mono_V _) (amF_cons (mono_V _) (amF_cons (mono_el _ _ _) (amF_cons (mono_V _) amF_nil)))))))) hst ?_ (fun f w_ H16 hS16 hE16 hT16 hst => ?_)
            ·
              refine opsS_cons ?_ ?_
              ·
                intro f w_ H16 X16 hS16 hE16 hP16 hst
                refine L_mv (v := v0) rfl ((hS16 0 rfl).trans sf0) ?_
                exact L_nil ⟨rfl, _, _, _, rfl, rfl, Le.refl _, rfl, hst⟩
              refine opsS_cons ?_ ?_
              ·
                intro f w_ H16 X16 hS16 hE16 hP16 hst
                refine L_mv (v := .int .i64 (i_2 : Int)) rfl ((hS16 5 rfl).trans rfl) ?_
                exact L_nil ⟨rfl, _, _, _, rfl, rfl, Le.refl _, rfl, hst⟩
              refine opsS_cons ?_ ?_
              ·
                intro f w_ H16 X16 hS16 hE16 hP16 hst
                refine L_ix (r := RP.int) rfl Try.underlying23 Try.sizeOf3 (hP16 0 16 rfl rfl) (RP.mono _ h0 (Le.trans hle4 hE16)) (hP16 1 17 rfl rfl) hix5 ?_
                intro g25 o26 cs_g25 hrk_hat27 hat27
                obtain rfl : _ = [_] := hrk_hat27
                exact L_nil ⟨rfl, _, _, _, rfl, rfl, Le.refl _, ⟨_, _, _, rfl, rfl, hat27⟩, hst⟩
              refine opsS_cons ?_ ?_
              ·
                intro f w_ H16 X16 hS16 hE16 hP16 hst
                obtain ⟨g29, o29, cs29, hv29, hrk_hat29, hat29⟩ := (hP16 2 18 rfl rfl)
                obtain rfl : _ = [_] := hrk_hat29
                refine L_ld (v := .int .i64 x_5) rfl Try.isAgg3 hv29 (At.cell (AtH.at hat29 hst.sub) (j := 0) rfl) ?_
                exact L_nil ⟨rfl, _, _, _, rfl, rfl, Le.refl _, rfl, hst⟩
              refine opsS_cons ?_ ?_
              ·
                intro f w_ H16 X16 hS16 hE16 hP16 hst
                refine L_mv (v := v1) rfl ((hS16 1 rfl).trans sf1) ?_
                exact L_nil ⟨rfl, _, _, _, rfl, rfl, Le.refl _, rfl, hst⟩
              refine opsS_cons ?_ ?_
              ·
                intro f w_ H16 X16 hS16 hE16 hP16 hst
                refine L_mv (v := .int .i64 (i_2 : Int)) rfl ((hS16 5 rfl).trans rfl) ?_
                exact L_nil ⟨rfl, _, _, _, rfl, rfl, Le.refl _, rfl, hst⟩
              refine opsS_cons ?_ ?_
              ·
                intro f w_ H16 X16 hS16 hE16 hP16 hst
                refine L_ix (r := RP.int) rfl Try.underlying23 Try.sizeOf3 (hP16 4 20 rfl rfl) (RP.mono _ h1 (Le.trans hle4 hE16)) (hP16 5 21 rfl rfl) hx11 ?_
                intro g31 o32 cs_g31 hrk_hat33 hat33
                obtain rfl : _ = [_] := hrk_hat33
                exact L_nil ⟨rfl, _, _, _, rfl, rfl, Le.refl _, ⟨_, _, _, rfl, rfl, hat33⟩, hst⟩
              refine opsS_cons ?_ ?_
              ·
                intro f w_ H16 X16 hS16 hE16 hP16 hst
                obtain ⟨g35, o35, cs35, hv35, hrk_hat35, hat35⟩ := (hP16 6 22 rfl rfl)
                obtain rfl : _ = [_] := hrk_hat35
                refine L_ld (v := .int .i64 x11) rfl Try.isAgg3 hv35 (At.cell (AtH.at hat35 hst.sub) (j := 0) rfl) ?_
                exact L_nil ⟨rfl, _, _, _, rfl, rfl, Le.refl _, rfl, hst⟩
              exact opsS_nil
            ·
              refine L_neq (m := x_5) (n := x11) rfl (hT16 3 19 rfl rfl) (hT16 7 23 rfl rfl) ?_
              refine L_nil ?_
              refine W_cond (b := (x_5 != x11)) rfl (fun hc37 => ?_) (fun hc37 => ?_)
              ·
                have hB5 := (ite_t hc37).symm.trans hB5
                refine W_seq ?_
                refine W_region ?_
                refine L_as (v := .bool false) rfl rfl ?_
                refine L_nil ?_
                refine W_ret ?_
                refine retG1 (v1 := .bool false) Try.results102 rfl ?_
                obtain rfl := so hB5
                obtain rfl := so hL5
                obtain rfl := so hF
                exact ⟨rfl, (Star.down hst (Le.trans hle4 hE16) closedL_nil)⟩
              ·
                have hB5 := (ite_f hc37).symm.trans hB5
                refine W_skip ?_
                refine W_region ?_
                refine L_add (m := (i_2 : Int)) (n := 1) rfl ((hS16 13 rfl).trans sf13) rfl ?_
                refine L_mv (v := .int .i64 (i64 ((i_2 : Int) + 1))) rfl rfl ?_
                refine L_nil ?_
                obtain rfl := so hB5
                show ∃ m, m < _ ∧ I5 m _ _
                refine ⟨rest5.length, by simp, ?_⟩
                rw [hI5]
                exact ⟨i_2 + 1, rest5, H16, rfl, drop_next hd5, by simp at hl5; omega, hL5, (Le.trans hle4 hE16), ((hS16 0 rfl).trans sf0), ((hS16 1 rfl).trans sf1), ((hS16 12 rfl).trans sf12), (Eq.trans rfl (congrArg (Value.int .i64) (i64_succ (n := s1.length) (by simp at hl5; omega) hlen5))), hst⟩
        ·
          cases suf5 with
          | cons _ _ => exact absurd (of_decide_eq_false hc6) (by simp at hl5; omega)
          | nil =>
            obtain rfl := range_nil hL5
            refine W_exit ?_
            show R5 _ _
            rw [hR5]
            exact ⟨H3, rfl, hle4, hst⟩
    ·
      clear hst
      intro f w_ hR
      rw [hR5] at hR
      obtain ⟨H3, rfl, hle4, hst⟩ := hR
      clear hR5
      refine W_seq ?_
      refine W_region ?_
      refine L_as (v := .bool true) rfl rfl ?_
      refine L_nil ?_
      refine W_ret ?_
      refine retG1 (v1 := .bool true) Try.results102 rfl ?_
      obtain rfl := so hF
      exact ⟨rfl, (Star.down hst hle4 closedL_nil)⟩

theorem i_Rule_holds_1_c {c1 : List Int} {row : List Int} {v0 : Value} {g_c1 : Nat} {v1_0 : Value} {H : FH} {w : World} (hst : Star H w []) (h0 : (RP.slice 3 RP.int).rel H [v0] row) (hat_g_c1 : AtH H g_c1 0 [v1_0]) (h1_0 : (RP.slice 3 RP.int).rel H [v1_0] c1) {r : Bool} (hF : i_Rule_holds_1 c1 row = some r) :
    C Try.prog 101 #[v0, .pointer (some ⟨g_c1, 0, none⟩)] w fun v w' => v = .bool r ∧ Star H w' [] := by
  unfold i_Rule_holds_1 at hF
  refine C_enter Try.func101 rfl Try.ntmps101 rfl ?_
  refine W_seq ?_
  refine W_region ?_
  refine L_as (v := .bool false) rfl rfl ?_
  refine L_nil ?_
  refine W_seq ?_
  obtain ⟨x6, hx6, hF⟩ := bind_some hF
  refine W_region ?_
  refine L_mv (v := v0) rfl rfl ?_
  refine L_ld (v := v1_0) rfl Try.isAgg23 rfl (At.cell0 (AtH.at hat_g_c1 hst.sub) (j := 0) rfl) ?_
  obtain ⟨Hb8, hle9, hsb10, hfz11, hbk12⟩ := Star.borrow hst
  refine L_call (args := #[v0, v1_0]) rfl Try.call102 (ops2 rfl rfl) (slices_Equal_int_c (s1 := row) (s2 := c1) hsb10 (RP.mono _ h0 hle9) (RP.mono _ h1_0 hle9) hx6) ?_
  rintro _ w13 ⟨rfl, hst⟩
  have hst := hbk12 hst closedL_nil
  refine L_as (v := .bool x6) rfl rfl ?_
  refine L_nil ?_
  refine W_ret ?_
  refine retG1 (v1 := .bool x6) Try.results101 rfl ?_
  obtain rfl := so hF
  exact ⟨rfl, hst⟩

theorem i_Rule_holds_c {r_ : Rule} {vals : List Int} {v0_1 : Value} {v0_2 : Value} {v0_4 : Value} {v1 : Value} {H : FH} {w : World} (hst : Star H w []) (h0_1 : (RP.slice 3 RP.int).rel H [v0_1] r_.vars) (h0_2 : (RP.slice 3 RP.int).rel H [v0_2] r_.coefs) (h0_4 : (RP.slice 23 (RP.slice 3 RP.int)).rel H [v0_4] r_.rows) (h1 : (RP.slice 3 RP.int).rel H [v1] vals) {r : Bool} (hF : i_Rule_holds r_ vals = some r) :
    C Try.prog 83 #[.agg #[.int .i64 r_.kind, v0_1, v0_2, .int .i64 r_.bound, v0_4], v1] w fun v w' => v = .bool r ∧ Star H w' [] := by
  unfold i_Rule_holds at hF
  refine C_enter Try.func83 rfl Try.ntmps83 rfl ?_
  refine W_seq ?_
  refine W_region ?_
  refine L_box (v := .agg #[.int .i64 r_.kind, v0_1, v0_2, .int .i64 r_.bound, v0_4]) (cs := #[.int .i64 r_.kind, v0_1, v0_2, .int .i64 r_.bound, v0_4]) rfl rfl rfl hst ?_
  intro g5 w6 hst
  refine L_box (v := v1) (cs := #[v1]) rfl rfl (cells_one (one_len (slice_len h1))) hst ?_
  intro g7 w8 hst
  refine L_as (v := .bool false) rfl rfl ?_
  refine L_nil ?_
  refine W_seq ?_
  refine W_seq ?_
  refine W_region ?_
  refine L_fa (o' := 0) rfl fa_36_0 rfl rfl ?_
  refine L_ld (v := .int .i64 r_.kind) rfl Try.isAgg3 rfl (At.cell0 (Blk.at (Star.blkAt 1 hst rfl)) (j := 0) rfl) ?_
  refine L_nil ?_
  refine W_block ?_
  refine W_seq ?_
  refine W_region ?_
  refine L_eql (m := r_.kind) (n := 1) rfl rfl rfl ?_
  refine L_as (v := .bool (r_.kind == 1)) rfl rfl ?_
  refine L_nil ?_
  refine W_cond (b := (r_.kind == 1)) rfl (fun hc9 => ?_) (fun hc9 => ?_)
  ·
    have hF := (ite_t hc9).symm.trans hF
    refine W_seq ?_
    refine W_region ?_
    refine L_as (v := .int .i64 0) rfl rfl ?_
    refine L_nil ?_
    refine W_seq ?_
    refine W_seq ?_
    refine W_region ?_
    refine L_ld (v := v1) rfl Try.isAgg23 rfl (At.cell0 (Blk.at (Star.blkAt 0 hst rfl)) (j := 0) rfl) ?_
    refine L_len (v := v1) (n := List.length vals) rfl Try.underlying23 rfl (slice_len h1) ?_
    refine L_mv (v := .int .i64 0) rfl rfl ?_
    refine L_nil ?_
    have hlen12 : List.length vals ≤ 9223372036854775807 := len_le (slice_len h1)
    obtain ⟨j12, hL12, hF⟩ := bind_some hF
    obtain ⟨R12, hR12⟩ : ∃ RR_ : Fr → World → Prop, RR_ = fun f w_ => ∃ sum_11 : Int, j12 = .nx sum_11 ∧ f 2 = .pointer (some ⟨g5, 0, none⟩) ∧ f 5 = .int .i64 sum_11 ∧ Star H w_ ([box g5 36 #[.int .i64 r_.kind, v0_1, v0_2, .int .i64 r_.bound, v0_4]]) := ⟨_, rfl⟩
    refine W_join R12 ?_ ?_
    ·
      refine W_block ?_
      obtain ⟨I12, hI12⟩ : ∃ I : Nat → Fr → World → Prop, I = fun n f w_ => ∃ i_10 : Nat, ∃ suf12 : List Int, ∃ sum_11 : Int, n = suf12.length ∧ List.drop i_10 vals = suf12 ∧ i_10 + suf12.length = vals.length ∧ rangeL (i_Rule_holds_b1 r_) suf12 i_10 sum_11 = some j12 ∧ f 2 = .pointer (some ⟨g5, 0, none⟩) ∧ f 5 = .int .i64 sum_11 ∧ f 14 = v1 ∧ f 15 = .int .i64 (vals.length : Int) ∧ f 16 = .int .i64 (i_10 : Int) ∧ Star H w_ ([box g5 36 #[.int .i64 r_.kind, v0_1, v0_2, .int .i64 r_.bound, v0_4]]) := ⟨_, rfl⟩
      have hst := Star.get 1 hst rfl
      refine W_loop I12 (n := vals.length) ?_ ?_
      · rw [hI12]; exact ⟨0, vals, 0, rfl, rfl, Nat.zero_add _, hL12, rfl, rfl, rfl, rfl, rfl, (Star.keepN 1 hst)⟩
      ·
        clear hst
        intro n12 f w_ hI
        rw [hI12] at hI
        obtain ⟨i_10, suf12, sum_11, rfl, hd12, hl12, hL12, sf2, sf5, sf14, sf15, sf16, hst⟩ := hI
        refine W_seq ?_
        refine W_region ?_
        refine L_lss (m := (i_10 : Int)) (n := (vals.length : Int)) rfl sf16 sf15 ?_
        refine L_nil ?_
        refine W_seq ?_
        refine W_cond (b := decide ((i_10 : Int) < (vals.length : Int))) rfl (fun hc13 => ?_) (fun hc13 => ?_)
        ·
          have hlt12 := of_decide_eq_true hc13
          cases suf12 with
          | nil => exact absurd hlt12 (by simp at hl12; omega)
          | cons x_12 rest12 =>
            obtain ⟨o12, hB12, hL12⟩ := range_cons hL12
            rw [i_Rule_holds_b1] at hB12
            have hix12 := drop_idx hd12
            refine W_skip ?_
            refine W_seq ?_
            refine W_block ?_
            refine W_seq ?_
            refine W_region ?_
            refine L_mv (v := .int .i64 (i_10 : Int)) rfl sf16 ?_
            refine L_ix (r := RP.int) rfl Try.underlying23 Try.sizeOf3 sf14 h1 sf16 hix12 ?_
            intro g18 o19 cs_g18 hrk_hat20 hat20
            obtain rfl : _ = [_] := hrk_hat20
            refine L_ld (v := .int .i64 x_12) rfl Try.isAgg3 rfl (At.cell (AtH.at hat20 hst.sub) (j := 0) rfl) ?_
            refine L_as (v := .int .i64 (i_10 : Int)) rfl rfl ?_
            refine L_as (v := .int .i64 x_12) rfl rfl ?_
            refine L_nil ?_
            obtain ⟨x22, hx22, hB12⟩ := bind_some hB12
            refine W_region ?_
            refine L_mv (v := .int .i64 sum_11) rfl sf5 ?_
            refine L_fa (o' := 2) rfl fa_36_2 sf2 rfl ?_
            refine L_ld (v := v0_2) rfl Try.isAgg23 rfl (At.cell0 (Blk.at (Star.blkAt 0 hst rfl)) (j := 2) rfl) ?_
            refine L_mv (v := .int .i64 (i_10 : Int)) rfl rfl ?_
            refine L_ix (r := RP.int) rfl Try.underlying23 Try.sizeOf3 rfl h0_2 rfl hx22 ?_
            intro g27 o28 cs_g27 hrk_hat29 hat29
            obtain rfl : _ = [_] := hrk_hat29
            refine L_ld (v := .int .i64 x22) rfl Try.isAgg3 rfl (At.cell (AtH.at hat29 hst.sub) (j := 0) rfl) ?_
            refine L_mv (v := .int .i64 x_12) rfl rfl ?_
            refine L_mul (m := x22) (n := x_12) rfl rfl rfl ?_
            refine L_add (m := sum_11) (n := i64 (x22 * x_12)) rfl rfl rfl ?_
            refine L_as (v := .int .i64 (i64 (sum_11 + (i64 (x22 * x_12))))) rfl rfl ?_
            refine L_nil ?_
            refine W_region ?_
            refine L_add (m := (i_10 : Int)) (n := 1) rfl sf16 rfl ?_
            refine L_mv (v := .int .i64 (i64 ((i_10 : Int) + 1))) rfl rfl ?_
            refine L_nil ?_
            obtain rfl := so hB12
            show ∃ m, m < _ ∧ I12 m _ _
            refine ⟨rest12.length, by simp, ?_⟩
            rw [hI12]
            exact ⟨i_10 + 1, rest12, i64 (sum_11 + (i64 (x22 * x_12))), rfl, drop_next hd12, by simp at hl12; omega, hL12, sf2, rfl, sf14, sf15, (Eq.trans rfl (congrArg (Value.int .i64) (i64_succ (n := vals.length) (by simp at hl12; omega) hlen12))), hst⟩
        ·
          cases suf12 with
          | cons _ _ => exact absurd (of_decide_eq_false hc13) (by simp at hl12; omega)
          | nil =>
            obtain rfl := range_nil hL12
            refine W_exit ?_
            show R12 _ _
            rw [hR12]
            exact ⟨sum_11, rfl, sf2, sf5, hst⟩
    ·
      clear hst
      intro f w_ hR
      rw [hR12] at hR
      obtain ⟨sum_11, rfl, sf2, sf5, hst⟩ := hR
      clear hR12
      refine W_seq ?_
      refine W_region ?_
      refine L_mv (v := .int .i64 sum_11) rfl sf5 ?_
      refine L_fa (o' := 3) rfl fa_36_3 sf2 rfl ?_
      refine L_ld (v := .int .i64 r_.bound) rfl Try.isAgg3 rfl (At.cell0 (Blk.at (Star.blkAt 0 hst rfl)) (j := 3) rfl) ?_
      refine L_geq (m := sum_11) (n := r_.bound) rfl rfl rfl ?_
      refine L_as (v := .bool (decide (sum_11 ≥ r_.bound))) rfl rfl ?_
      refine L_nil ?_
      refine W_ret ?_
      refine retG1 (v1 := .bool (decide (sum_11 ≥ r_.bound))) Try.results83 rfl ?_
      obtain rfl := so hF
      exact ⟨rfl, (Star.keepN 0 hst)⟩
  ·
    have hF := (ite_f hc9).symm.trans hF
    refine W_seq ?_
    refine W_region ?_
    refine L_eql (m := r_.kind) (n := 2) rfl rfl rfl ?_
    refine L_as (v := .bool (r_.kind == 2)) rfl rfl ?_
    refine L_nil ?_
    refine W_cond (b := (r_.kind == 2)) rfl (fun hc31 => ?_) (fun hc31 => ?_)
    ·
      have hF := (ite_t hc31).symm.trans hF
      refine W_seq ?_
      refine W_seq ?_
      refine W_region ?_
      refine L_ld (v := v1) rfl Try.isAgg23 rfl (At.cell0 (Blk.at (Star.blkAt 0 hst rfl)) (j := 0) rfl) ?_
      refine L_len (v := v1) (n := List.length vals) rfl Try.underlying23 rfl (slice_len h1) ?_
      refine L_mv (v := .int .i64 0) rfl rfl ?_
      refine L_nil ?_
      have hlen33 : List.length vals ≤ 9223372036854775807 := len_le (slice_len h1)
      obtain ⟨j33, hL33, hF⟩ := bind_some hF
      obtain ⟨R33, hR33⟩ : ∃ RR_ : Fr → World → Prop, RR_ = fun f w_ => j33 = .nx () ∧ Star H w_ ([]) := ⟨_, rfl⟩
      refine W_join R33 ?_ ?_
      ·
        refine W_block ?_
        obtain ⟨I33, hI33⟩ : ∃ I : Nat → Fr → World → Prop, I = fun n f w_ => ∃ i_32 : Nat, ∃ suf33 : List Int, n = suf33.length ∧ List.drop i_32 vals = suf33 ∧ i_32 + suf33.length = vals.length ∧ rangeL (i_Rule_holds_b2 vals) suf33 i_32 () = some j33 ∧ f 3 = .pointer (some ⟨g7, 0, none⟩) ∧ f 37 = v1 ∧ f 38 = .int .i64 (vals.length : Int) ∧ f 39 = .int .i64 (i_32 : Int) ∧ Star H w_ ([box g7 23 #[v1]]) := ⟨_, rfl⟩
        refine W_loop I33 (n := vals.length) ?_ ?_
        · rw [hI33]; exact ⟨0, vals, rfl, rfl, Nat.zero_add _, hL33, rfl, rfl, rfl, rfl, (Star.keepN 1 hst)⟩
        ·
          clear hst
          intro n33 f w_ hI
          rw [hI33] at hI
          obtain ⟨i_32, suf33, rfl, hd33, hl33, hL33, sf3, sf37, sf38, sf39, hst⟩ := hI
          refine W_seq ?_
          refine W_region ?_
          refine L_lss (m := (i_32 : Int)) (n := (vals.length : Int)) rfl sf39 sf38 ?_
          refine L_nil ?_
          refine W_seq ?_
          refine W_cond (b := decide ((i_32 : Int) < (vals.length : Int))) rfl (fun hc34 => ?_) (fun hc34 => ?_)
          ·
            have hlt33 := of_decide_eq_true hc34
            cases suf33 with
            | nil => exact absurd hlt33 (by simp at hl33; omega)
            | cons x_33 rest33 =>
              obtain ⟨o33, hB33, hL33⟩ := range_cons hL33
              rw [i_Rule_holds_b2] at hB33
              have hix33 := drop_idx hd33
              refine W_skip ?_
              refine W_seq ?_
              refine W_block ?_
              refine W_seq ?_
              refine W_region ?_
              refine L_mv (v := .int .i64 (i_32 : Int)) rfl sf39 ?_
              refine L_ix (r := RP.int) rfl Try.underlying23 Try.sizeOf3 sf37 h1 sf39 hix33 ?_
              intro g39 o40 cs_g39 hrk_hat41 hat41
              obtain rfl : _ = [_] := hrk_hat41
              refine L_ld (v := .int .i64 x_33) rfl Try.isAgg3 rfl (At.cell (AtH.at hat41 hst.sub) (j := 0) rfl) ?_
              refine L_as (v := .int .i64 (i_32 : Int)) rfl rfl ?_
              refine L_as (v := .int .i64 x_33) rfl rfl ?_
              refine L_nil ?_
              refine W_seq ?_
              obtain ⟨x43, hx43, hB33⟩ := bind_some hB33
              obtain ⟨x51, hx51, hB33⟩ := bind_some hB33
              refine W_region ?_
              refine L_ld (v := v1) rfl Try.isAgg23 sf3 (At.cell0 (Blk.at (Star.blkAt 0 hst rfl)) (j := 0) rfl) ?_
              refine L_mv (v := .int .i64 (i_32 : Int)) rfl rfl ?_
              refine L_sl (a := 0) (b := (i_32 : Int)) rfl et_23 rfl h1 rfl rfl hx43 ?_
              intro v53 hs54
              refine L_mv (v := .int .i64 x_33) rfl rfl ?_
              obtain ⟨Hb55, hle56, hsb57, hfz58, hbk59⟩ := Star.borrow hst
              refine L_call (args := #[v53, .int .i64 x_33]) rfl Try.call87 (ops2 rfl rfl) (slices_Contains_int_c (s := x43) (v_ := x_33) hsb57 (RP.mono _ hs54 hle56) hx51) ?_
              rintro _ w60 ⟨rfl, hst⟩
              have hst := hbk59 hst closedL_nil
              refine L_nil ?_
              refine W_cond (b := x51) rfl (fun hc61 => ?_) (fun hc61 => ?_)
              ·
                have hB33 := (ite_t hc61).symm.trans hB33
                refine W_seq ?_
                refine W_region ?_
                refine L_as (v := .bool false) rfl rfl ?_
                refine L_nil ?_
                refine W_ret ?_
                refine retG1 (v1 := .bool false) Try.results83 rfl ?_
                obtain rfl := so hB33
                obtain rfl := so hL33
                obtain rfl := so hF
                exact ⟨rfl, (Star.keepN 0 hst)⟩
              ·
                have hB33 := (ite_f hc61).symm.trans hB33
                refine W_skip ?_
                refine W_region ?_
                refine L_add (m := (i_32 : Int)) (n := 1) rfl sf39 rfl ?_
                refine L_mv (v := .int .i64 (i64 ((i_32 : Int) + 1))) rfl rfl ?_
                refine L_nil ?_
                obtain rfl := so hB33
                show ∃ m, m < _ ∧ I33 m _ _
                refine ⟨rest33.length, by simp, ?_⟩
                rw [hI33]
                exact ⟨i_32 + 1, rest33, rfl, drop_next hd33, by simp at hl33; omega, hL33, sf3, sf37, sf38, (Eq.trans rfl (congrArg (Value.int .i64) (i64_succ (n := vals.length) (by simp at hl33; omega) hlen33))), hst⟩
          ·
            cases suf33 with
            | cons _ _ => exact absurd (of_decide_eq_false hc34) (by simp at hl33; omega)
            | nil =>
              obtain rfl := range_nil hL33
              refine W_exit ?_
              show R33 _ _
              rw [hR33]
              exact ⟨rfl, (Star.keepN 0 hst)⟩
      ·
        clear hst
        intro f w_ hR
        rw [hR33] at hR
        obtain ⟨rfl, hst⟩ := hR
        clear hR33
        refine W_seq ?_
        refine W_region ?_
        refine L_as (v := .bool true) rfl rfl ?_
        refine L_nil ?_
        refine W_ret ?_
        refine retG1 (v1 := .bool true) Try.results83 rfl ?_
        obtain rfl := so hF
        exact ⟨rfl, hst⟩
    ·
      have hF := (ite_f hc31).symm.trans hF
      refine W_seq ?_
      refine W_region ?_
      refine L_eql (m := r_.kind) (n := 3) rfl rfl rfl ?_
      refine L_as (v := .bool (r_.kind == 3)) rfl rfl ?_
      refine L_nil ?_
      refine W_cond (b := (r_.kind == 3)) rfl (fun hc62 => ?_) (fun hc62 => ?_)
      ·
        have hF := (ite_t hc62).symm.trans hF
        refine W_seq ?_
        obtain ⟨x68, hx68, hF⟩ := bind_some hF
        refine W_region ?_
        refine L_fa (o' := 4) rfl fa_36_4 rfl rfl ?_
        refine L_ld (v := v0_4) rfl Try.isAgg34 rfl (At.cell0 (Blk.at (Star.blkAt 1 hst rfl)) (j := 4) rfl) ?_
        refine L_mf rfl (ops1 rfl) ?_
        obtain ⟨Hb70, hle71, hsb72, hfz73, hbk74⟩ := Star.borrow hst
        have hf75 : Fun1 Try.prog (RP.slice 3 RP.int) false Value.bool (i_Rule_holds_1 vals) (.func (.func 101) #[] #[.pointer (some ⟨g7, 0, none⟩)]) Hb70 := by
          refine ⟨_, _, rfl, Try.call101, fun H_ w_ hE_ hs_ cs_ x_ y_ args_ hr_ hy_ ha_ => ?_⟩
          obtain ⟨p_0, rfl, hp_0⟩ := slice1 hr_
          obtain rfl := args_of (b := #[p_0, .pointer (some ⟨g7, 0, none⟩)]) ha_
          exact i_Rule_holds_1_c (c1 := vals) (row := x_) hs_ hp_0 (AtH.le (AtH.of (fz_box 0 hfz73 rfl)) hE_) (RP.mono _ (RP.mono _ h1 hle71) hE_) hy_
        refine L_call (args := #[v0_4, .func (.func 101) #[] #[.pointer (some ⟨g7, 0, none⟩)]]) rfl Try.call90 (ops2 rfl rfl) (slices_ContainsFunc_Sint_c (s := r_.rows) (f_ := (i_Rule_holds_1 vals)) hsb72 (RP.mono _ h0_4 hle71) hf75 hx68) ?_
        rintro _ w76 ⟨rfl, hst⟩
        have hst := hbk74 hst closedL_nil
        refine L_as (v := .bool x68) rfl rfl ?_
        refine L_nil ?_
        refine W_ret ?_
        refine retG1 (v1 := .bool x68) Try.results83 rfl ?_
        obtain rfl := so hF
        exact ⟨rfl, (Star.keepN 0 hst)⟩
      ·
        have hF := (ite_f hc62).symm.trans hF
        refine W_skip ?_
        refine W_seq ?_
        obtain ⟨x77, hx77, hF⟩ := bind_some hF
        obtain ⟨x82, hx82, hF⟩ := bind_some hF
        have hst := Star.drop 1 hst rfl
        refine W_drawS 6 [isV (v1), isEl RP.int x77 0, isV (.int .i64 x77), isV (v1), isEl RP.int x82 0, isV (.int .i64 x82)] [box g7 23 #[v1]] [] ([]) [([], []), ([], []), ([], []), ([], []), ([], []), ([], [])] (S := []) Try_mix (by kernel_rfl) rfl (by kernel_rfl) (amF_cons (mono_V _) (amF_cons (mono_el _ _ _) (amF_cons (mono_V _) (amF_cons (mono_V _) (amF_cons (mono_el _ _ _) (amF_cons (mono_V _) amF_nil)))))) hst ?_ (fun f w_ H87 hS87 hE87 hT87 hst => ?_)
        ·
          refine opsS_cons ?_ ?_
          ·
            intro f w_ H87 X87 hS87 hE87 hP87 hst
            refine L_ld (v := v1) rfl Try.isAgg23 ((hS87 3 rfl).trans rfl) (At.cell0 (Blk.at (Star.blkAt 0 hst rfl)) (j := 0) rfl) ?_
            exact L_nil ⟨rfl, _, _, _, rfl, rfl, Le.refl _, rfl, hst⟩
          refine opsS_cons ?_ ?_
          ·
            intro f w_ H87 X87 hS87 hE87 hP87 hst
            refine L_ix (r := RP.int) rfl Try.underlying23 Try.sizeOf3 (hP87 0 56 rfl rfl) (RP.mono _ h1 hE87) rfl hx77 ?_
            intro g96 o97 cs_g96 hrk_hat98 hat98
            obtain rfl : _ = [_] := hrk_hat98
            exact L_nil ⟨rfl, _, _, _, rfl, rfl, Le.refl _, ⟨_, _, _, rfl, rfl, hat98⟩, hst⟩
          refine opsS_cons ?_ ?_
          ·
            intro f w_ H87 X87 hS87 hE87 hP87 hst
            obtain ⟨g100, o100, cs100, hv100, hrk_hat100, hat100⟩ := (hP87 1 57 rfl rfl)
            obtain rfl : _ = [_] := hrk_hat100
            refine L_ld (v := .int .i64 x77) rfl Try.isAgg3 hv100 (At.cell (AtH.at hat100 hst.sub) (j := 0) rfl) ?_
            exact L_nil ⟨rfl, _, _, _, rfl, rfl, Le.refl _, rfl, hst⟩
          refine opsS_cons ?_ ?_
          ·
            intro f w_ H87 X87 hS87 hE87 hP87 hst
            refine L_ld (v := v1) rfl Try.isAgg23 ((hS87 3 rfl).trans rfl) (At.cell0 (Blk.at (Star.blkAt 0 hst rfl)) (j := 0) rfl) ?_
            exact L_nil ⟨rfl, _, _, _, rfl, rfl, Le.refl _, rfl, hst⟩
          refine opsS_cons ?_ ?_
          ·
            intro f w_ H87 X87 hS87 hE87 hP87 hst
            refine L_ix (r := RP.int) rfl Try.underlying23 Try.sizeOf3 (hP87 3 59 rfl rfl) (RP.mono _ h1 hE87) rfl hx82 ?_
            intro g102 o103 cs_g102 hrk_hat104 hat104
            obtain rfl : _ = [_] := hrk_hat104
            exact L_nil ⟨rfl, _, _, _, rfl, rfl, Le.refl _, ⟨_, _, _, rfl, rfl, hat104⟩, hst⟩
          refine opsS_cons ?_ ?_
          ·
            intro f w_ H87 X87 hS87 hE87 hP87 hst
            obtain ⟨g106, o106, cs106, hv106, hrk_hat106, hat106⟩ := (hP87 4 60 rfl rfl)
            obtain rfl : _ = [_] := hrk_hat106
            refine L_ld (v := .int .i64 x82) rfl Try.isAgg3 hv106 (At.cell (AtH.at hat106 hst.sub) (j := 0) rfl) ?_
            exact L_nil ⟨rfl, _, _, _, rfl, rfl, Le.refl _, rfl, hst⟩
          exact opsS_nil
        ·
          refine L_lss (m := x77) (n := x82) rfl (hT87 2 58 rfl rfl) (hT87 5 61 rfl rfl) ?_
          refine L_as (v := .bool (decide (x77 < x82))) rfl rfl ?_
          refine L_nil ?_
          refine W_ret ?_
          refine retG1 (v1 := .bool (decide (x77 < x82))) Try.results83 rfl ?_
          obtain rfl := so hF
          exact ⟨rfl, (Star.down (Star.keepN 0 hst) hE87 closedL_nil)⟩

theorem i_Rule_at_c {r_ : Rule} {cells : List Int} {v0_1 : Value} {v0_2 : Value} {v0_4 : Value} {v1 : Value} {H : FH} {w : World} (hst : Star H w []) (h0_1 : (RP.slice 3 RP.int).rel H [v0_1] r_.vars) (h0_2 : (RP.slice 3 RP.int).rel H [v0_2] r_.coefs) (h0_4 : (RP.slice 23 (RP.slice 3 RP.int)).rel H [v0_4] r_.rows) (h1 : (RP.slice 3 RP.int).rel H [v1] cells) {r : Bool} (hF : i_Rule_at r_ cells = some r) :
    C Try.prog 56 #[.agg #[.int .i64 r_.kind, v0_1, v0_2, .int .i64 r_.bound, v0_4], v1] w fun v w' => v = .bool r ∧ Star H w' [] := by
  unfold i_Rule_at at hF
  refine C_enter Try.func56 rfl Try.ntmps56 rfl ?_
  refine W_seq ?_
  refine W_region ?_
  refine L_box (v := .agg #[.int .i64 r_.kind, v0_1, v0_2, .int .i64 r_.bound, v0_4]) (cs := #[.int .i64 r_.kind, v0_1, v0_2, .int .i64 r_.bound, v0_4]) rfl rfl rfl hst ?_
  intro g3 w4 hst
  refine L_as (v := .bool false) rfl rfl ?_
  refine L_nil ?_
  refine W_seq ?_
  refine W_region ?_
  refine L_as (v := (.slice none 0 0)) rfl rfl ?_
  refine L_nil ?_
  refine W_seq ?_
  refine W_seq ?_
  refine W_region ?_
  refine L_fa (o' := 1) rfl fa_36_1 rfl rfl ?_
  refine L_ld (v := v0_1) rfl Try.isAgg23 rfl (At.cell0 (Blk.at (Star.blkAt 0 hst rfl)) (j := 1) rfl) ?_
  refine L_len (v := v0_1) (n := List.length r_.vars) rfl Try.underlying23 rfl (slice_len h0_1) ?_
  refine L_mv (v := .int .i64 0) rfl rfl ?_
  refine L_nil ?_
  have hlen8 : List.length r_.vars ≤ 9223372036854775807 := len_le (slice_len h0_1)
  obtain ⟨j8, hL8, hF⟩ := bind_some hF
  obtain ⟨R8, hR8⟩ : ∃ RR_ : Fr → World → Prop, RR_ = fun f w_ => ∃ vals_6 : List Int, ∃ v6_vals : Value, j8 = .nx vals_6 ∧ f 2 = .pointer (some ⟨g3, 0, none⟩) ∧ f 5 = v6_vals ∧ Star H w_ ([own (OR.ownS 3 (OR.frz RP.int)) [v6_vals] vals_6, box g3 36 #[.int .i64 r_.kind, v0_1, v0_2, .int .i64 r_.bound, v0_4]]) := ⟨_, rfl⟩
  refine W_join R8 ?_ ?_
  ·
    refine W_block ?_
    obtain ⟨I8, hI8⟩ : ∃ I : Nat → Fr → World → Prop, I = fun n f w_ => ∃ i_5 : Nat, ∃ suf8 : List Int, ∃ vals_6 : List Int, ∃ v6_vals : Value, n = suf8.length ∧ List.drop i_5 r_.vars = suf8 ∧ i_5 + suf8.length = r_.vars.length ∧ rangeL (i_Rule_at_b1 cells) suf8 i_5 vals_6 = some j8 ∧ f 1 = v1 ∧ f 2 = .pointer (some ⟨g3, 0, none⟩) ∧ f 5 = v6_vals ∧ f 9 = v0_1 ∧ f 10 = .int .i64 (r_.vars.length : Int) ∧ f 11 = .int .i64 (i_5 : Int) ∧ Star H w_ ([own (OR.ownS 3 (OR.frz RP.int)) [v6_vals] vals_6, box g3 36 #[.int .i64 r_.kind, v0_1, v0_2, .int .i64 r_.bound, v0_4]]) := ⟨_, rfl⟩
    have hst := Star.addNil (R := (OR.frz RP.int)) (e := 3) hst
    refine W_loop I8 (n := r_.vars.length) ?_ ?_
    · rw [hI8]; exact ⟨0, r_.vars, [], (.slice none 0 0), rfl, rfl, Nat.zero_add _, hL8, rfl, rfl, rfl, rfl, rfl, rfl, hst⟩
    ·
      clear hst
      intro n8 f w_ hI
      rw [hI8] at hI
      obtain ⟨i_5, suf8, vals_6, v6_vals, rfl, hd8, hl8, hL8, sf1, sf2, sf5, sf9, sf10, sf11, hst⟩ := hI
      refine W_seq ?_
      refine W_region ?_
      refine L_lss (m := (i_5 : Int)) (n := (r_.vars.length : Int)) rfl sf11 sf10 ?_
      refine L_nil ?_
      refine W_seq ?_
      refine W_cond (b := decide ((i_5 : Int) < (r_.vars.length : Int))) rfl (fun hc10 => ?_) (fun hc10 => ?_)
      ·
        have hlt8 := of_decide_eq_true hc10
        cases suf8 with
        | nil => exact absurd hlt8 (by simp at hl8; omega)
        | cons x_8 rest8 =>
          obtain ⟨o8, hB8, hL8⟩ := range_cons hL8
          rw [i_Rule_at_b1] at hB8
          have hix8 := drop_idx hd8
          refine W_skip ?_
          refine W_seq ?_
          refine W_block ?_
          refine W_seq ?_
          refine W_region ?_
          refine L_ix (r := RP.int) rfl Try.underlying23 Try.sizeOf3 sf9 h0_1 sf11 hix8 ?_
          intro g15 o16 cs_g15 hrk_hat17 hat17
          obtain rfl : _ = [_] := hrk_hat17
          refine L_ld (v := .int .i64 x_8) rfl Try.isAgg3 rfl (At.cell (AtH.at hat17 hst.sub) (j := 0) rfl) ?_
          refine L_as (v := .int .i64 x_8) rfl rfl ?_
          refine L_nil ?_
          obtain ⟨x19, hx19, hB8⟩ := bind_some hB8
          obtain ⟨x27, hx27, hB8⟩ := bind_some hB8
          refine W_region ?_
          refine L_mv (v := v6_vals) rfl sf5 ?_
          refine L_mv (v := v1) rfl sf1 ?_
          refine L_mv (v := .int .i64 x_8) rfl rfl ?_
          refine L_ix (r := RP.int) rfl Try.underlying23 Try.sizeOf3 rfl h1 rfl hx19 ?_
          intro g31 o32 cs_g31 hrk_hat33 hat33
          obtain rfl : _ = [_] := hrk_hat33
          refine L_ld (v := .int .i64 x19) rfl Try.isAgg3 rfl (At.cell (AtH.at hat33 hst.sub) (j := 0) rfl) ?_
          refine L_bs rfl (parts1 rfl) (bs_23_1_0 (.int .i64 x19) rfl) hst ?_
          intro g35 w36 hst
          have hst := Star.addF (r := RP.int) (cs := [.int .i64 x19]) (x := x19) hst rfl
          have hst := Star.mkRow (R := (OR.frz RP.int)) [([.int .i64 x19], x19)] [x19] 1 hst rfl rfl rfl (by decide)
          have hst := Star.get 1 hst rfl
          refine L_appM (v := v6_vals) (u := (.slice (some ⟨g35, 0, none⟩) 1 1)) rfl et_23 rfl rfl hst hx27 ?_
          intro v38 w39 hst
          refine L_as (v := v38) rfl rfl ?_
          refine L_nil ?_
          refine W_region ?_
          refine L_add (m := (i_5 : Int)) (n := 1) rfl sf11 rfl ?_
          refine L_mv (v := .int .i64 (i64 ((i_5 : Int) + 1))) rfl rfl ?_
          refine L_nil ?_
          obtain rfl := so hB8
          show ∃ m, m < _ ∧ I8 m _ _
          refine ⟨rest8.length, by simp, ?_⟩
          rw [hI8]
          exact ⟨i_5 + 1, rest8, x27, v38, rfl, drop_next hd8, by simp at hl8; omega, hL8, sf1, sf2, rfl, sf9, sf10, (Eq.trans rfl (congrArg (Value.int .i64) (i64_succ (n := r_.vars.length) (by simp at hl8; omega) hlen8))), hst⟩
      ·
        cases suf8 with
        | cons _ _ => exact absurd (of_decide_eq_false hc10) (by simp at hl8; omega)
        | nil =>
          obtain rfl := range_nil hL8
          refine W_exit ?_
          show R8 _ _
          rw [hR8]
          exact ⟨vals_6, v6_vals, rfl, sf2, sf5, hst⟩
  ·
    clear hst
    intro f w_ hR
    rw [hR8] at hR
    obtain ⟨vals_6, v6_vals, rfl, sf2, sf5, hst⟩ := hR
    clear hR8
    refine W_seq ?_
    obtain ⟨x47, hx47, hF⟩ := bind_some hF
    refine W_region ?_
    refine L_lda (cs := [.int .i64 r_.kind, v0_1, v0_2, .int .i64 r_.bound, v0_4]) rfl Try.isAgg36 Try.sizeOf36 sf2 (At.sub0 (Blk.at (Star.blkAt 1 hst rfl)) 0 5) rfl ?_
    refine L_mv (v := v6_vals) rfl sf5 ?_
    obtain ⟨Hb49, hle50, hsb51, hfz52, hbk53⟩ := Star.borrow hst
    have hb54 : (RP.slice 3 RP.int).rel Hb49 [v6_vals] vals_6 := fz_own 0 hfz52 rfl
    refine L_call (args := #[.agg #[.int .i64 r_.kind, v0_1, v0_2, .int .i64 r_.bound, v0_4], v6_vals]) rfl Try.call83 (ops2 rfl rfl) (i_Rule_holds_c (r_ := r_) (vals := vals_6) hsb51 (RP.mono _ h0_1 hle50) (RP.mono _ h0_2 hle50) (RP.mono _ h0_4 hle50) hb54 hx47) ?_
    rintro _ w55 ⟨rfl, hst⟩
    have hst := hbk53 hst closedL_nil
    refine L_as (v := .bool x47) rfl rfl ?_
    refine L_nil ?_
    refine W_ret ?_
    refine retG1 (v1 := .bool x47) Try.results56 rfl ?_
    obtain rfl := so hF
    exact ⟨rfl, (Star.keepN 0 hst)⟩

theorem i_RuleHolds_c {m : Model} {rule : Int} {cells : List Int} {v0_0 : Value} {v0_1 : Value} {v2 : Value} {H : FH} {w : World} (hst : Star H w []) (h0_0 : (RP.slice 3 RP.int).rel H [v0_0] m.sizes) (h0_1 : (RP.slice 36 (rRule 3 23)).rel H [v0_1] m.rules) (h2 : (RP.slice 3 RP.int).rel H [v2] cells) {r : Bool} (hF : i_RuleHolds m rule cells = some r) :
    C Try.prog 18 #[.agg #[v0_0, v0_1], .int .i64 rule, v2] w fun v w' => v = .bool r ∧ Star H w' [] := by
  unfold i_RuleHolds at hF
  refine C_enter Try.func18 rfl Try.ntmps18 rfl ?_
  refine W_seq ?_
  refine W_region ?_
  refine L_box (v := .agg #[v0_0, v0_1]) (cs := #[v0_0, v0_1]) rfl rfl rfl hst ?_
  intro g3 w4 hst
  refine L_as (v := .bool false) rfl rfl ?_
  refine L_nil ?_
  refine W_seq ?_
  obtain ⟨x10, hx10, hF⟩ := bind_some hF
  obtain ⟨b19, hb19, hF⟩ := bind_some hF
  obtain ⟨b32, hb32, hF⟩ := bind_some hF
  obtain ⟨R33, hR33⟩ : ∃ RR_ : Fr → World → Prop, RR_ = fun f w_ => f 6 = .bool b32 ∧ Star H w_ ([]) := ⟨_, rfl⟩
  refine W_join R33 ?_ ?_
  ·
    refine W_region ?_
    refine L_lda (cs := [v0_0, v0_1]) rfl Try.isAgg26 Try.sizeOf26 rfl (At.sub0 (Blk.at (Star.blkAt 0 hst rfl)) 0 2) rfl ?_
    refine L_mv (v := v2) rfl rfl ?_
    obtain ⟨Hb34, hle35, hsb36, hfz37, hbk38⟩ := Star.borrow hst
    refine L_call (args := #[.agg #[v0_0, v0_1], v2]) rfl Try.call20 (ops2 rfl rfl) (i_CellsValid_c (m := m) (cells := cells) hsb36 (RP.mono _ h0_0 hle35) (RP.mono _ h0_1 hle35) (RP.mono _ h2 hle35) hx10) ?_
    rintro _ w39 ⟨rfl, hst⟩
    have hst := hbk38 hst closedL_nil
    refine L_mv (v := .bool x10) rfl rfl ?_
    refine L_split (d := 10) (b := x10) rfl (fun hc40 => ?_) (fun hc40 => ?_)
    ·
      rw [ite_t hc40] at hb19
      obtain ⟨x17, hx17, hb19⟩ := bind_some hb19
      refine L_lda (cs := [v0_0, v0_1]) rfl Try.isAgg26 Try.sizeOf26 rfl (At.sub0 (Blk.at (Star.blkAt 0 hst rfl)) 0 2) rfl ?_
      refine L_mv (v := .int .i64 rule) rfl rfl ?_
      obtain ⟨Hb41, hle42, hsb43, hfz44, hbk45⟩ := Star.borrow hst
      refine L_call (args := #[.agg #[v0_0, v0_1], .int .i64 rule]) rfl Try.call55 (ops2 rfl rfl) (i_isRule_c (m := m) (rule := rule) hsb43 (RP.mono _ h0_0 hle42) (RP.mono _ h0_1 hle42) hx17) ?_
      rintro _ w46 ⟨rfl, hst⟩
      have hst := hbk45 hst closedL_nil
      refine L_pick (v := .bool b19) rfl rfl (congrArg Value.bool (so hb19)) ?_
      refine L_mv (v := .bool b19) rfl rfl ?_
      refine L_split (d := 15) (b := b19) rfl (fun hc47 => ?_) (fun hc47 => ?_)
      ·
        rw [ite_t hc47] at hb32
        obtain ⟨x20, hx20, hb32⟩ := bind_some hb32
        obtain ⟨x30, hx30, hb32⟩ := bind_some hb32
        refine L_fa (o' := 1) rfl fa_26_1 rfl rfl ?_
        refine L_ld (v := v0_1) rfl Try.isAgg24 rfl (At.cell0 (Blk.at (Star.blkAt 0 hst rfl)) (j := 1) rfl) ?_
        refine L_mv (v := .int .i64 rule) rfl rfl ?_
        refine L_ix (r := (rRule 3 23)) rfl Try.underlying24 Try.sizeOf36 rfl h0_1 rfl hx20 ?_
        intro g48 o49 cs_g48 hrk_hat50 hat50
        obtain ⟨u51_0, u51_1, u51_2, rfl, hu51_0, hu51_1, hu51_2⟩ := rRule_iff.1 hrk_hat50
        refine L_lda (cs := [.int .i64 x20.kind, u51_0, u51_1, .int .i64 x20.bound, u51_2]) rfl Try.isAgg36 Try.sizeOf36 rfl (At.sub (AtH.at hat50 hst.sub) 0 5) rfl ?_
        refine L_mv (v := v2) rfl rfl ?_
        obtain ⟨Hb52, hle53, hsb54, hfz55, hbk56⟩ := Star.borrow hst
        refine L_call (args := #[.agg #[.int .i64 x20.kind, u51_0, u51_1, .int .i64 x20.bound, u51_2], v2]) rfl Try.call56 (ops2 rfl rfl) (i_Rule_at_c (r_ := x20) (cells := cells) hsb54 (RP.mono _ hu51_0 hle53) (RP.mono _ hu51_1 hle53) (RP.mono _ hu51_2 hle53) (RP.mono _ h2 hle53) hx30) ?_
        rintro _ w57 ⟨rfl, hst⟩
        have hst := hbk56 hst closedL_nil
        refine L_pick (v := .bool b32) rfl rfl (congrArg Value.bool (so hb32)) ?_
        refine L_as (v := .bool b32) rfl rfl ?_
        refine L_nil ?_
        show R33 _ _
        rw [hR33]
        exact ⟨rfl, (Star.keepN 0 hst)⟩
      ·
        rw [ite_f hc47] at hb32
        refine L_pass rfl ?_
        refine L_pass rfl ?_
        refine L_pass rfl ?_
        refine L_pass rfl ?_
        refine L_pass rfl ?_
        refine L_pass rfl ?_
        refine L_pass rfl ?_
        refine L_pick (v := .bool b32) rfl rfl (congrArg Value.bool (so hb32)) ?_
        refine L_as (v := .bool b32) rfl rfl ?_
        refine L_nil ?_
        show R33 _ _
        rw [hR33]
        exact ⟨rfl, (Star.keepN 0 hst)⟩
    ·
      rw [ite_f hc40] at hb19
      refine L_pass rfl ?_
      refine L_pass rfl ?_
      refine L_pass rfl ?_
      refine L_pick (v := .bool b19) rfl rfl (congrArg Value.bool (so hb19)) ?_
      refine L_mv (v := .bool b19) rfl rfl ?_
      refine L_split (d := 15) (b := b19) rfl (fun hc58 => ?_) (fun hc58 => ?_)
      ·
        rw [ite_t hc58] at hb32
        obtain ⟨x20, hx20, hb32⟩ := bind_some hb32
        obtain ⟨x30, hx30, hb32⟩ := bind_some hb32
        refine L_fa (o' := 1) rfl fa_26_1 rfl rfl ?_
        refine L_ld (v := v0_1) rfl Try.isAgg24 rfl (At.cell0 (Blk.at (Star.blkAt 0 hst rfl)) (j := 1) rfl) ?_
        refine L_mv (v := .int .i64 rule) rfl rfl ?_
        refine L_ix (r := (rRule 3 23)) rfl Try.underlying24 Try.sizeOf36 rfl h0_1 rfl hx20 ?_
        intro g59 o60 cs_g59 hrk_hat61 hat61
        obtain ⟨u62_0, u62_1, u62_2, rfl, hu62_0, hu62_1, hu62_2⟩ := rRule_iff.1 hrk_hat61
        refine L_lda (cs := [.int .i64 x20.kind, u62_0, u62_1, .int .i64 x20.bound, u62_2]) rfl Try.isAgg36 Try.sizeOf36 rfl (At.sub (AtH.at hat61 hst.sub) 0 5) rfl ?_
        refine L_mv (v := v2) rfl rfl ?_
        obtain ⟨Hb63, hle64, hsb65, hfz66, hbk67⟩ := Star.borrow hst
        refine L_call (args := #[.agg #[.int .i64 x20.kind, u62_0, u62_1, .int .i64 x20.bound, u62_2], v2]) rfl Try.call56 (ops2 rfl rfl) (i_Rule_at_c (r_ := x20) (cells := cells) hsb65 (RP.mono _ hu62_0 hle64) (RP.mono _ hu62_1 hle64) (RP.mono _ hu62_2 hle64) (RP.mono _ h2 hle64) hx30) ?_
        rintro _ w68 ⟨rfl, hst⟩
        have hst := hbk67 hst closedL_nil
        refine L_pick (v := .bool b32) rfl rfl (congrArg Value.bool (so hb32)) ?_
        refine L_as (v := .bool b32) rfl rfl ?_
        refine L_nil ?_
        show R33 _ _
        rw [hR33]
        exact ⟨rfl, (Star.keepN 0 hst)⟩
      ·
        rw [ite_f hc58] at hb32
        refine L_pass rfl ?_
        refine L_pass rfl ?_
        refine L_pass rfl ?_
        refine L_pass rfl ?_
        refine L_pass rfl ?_
        refine L_pass rfl ?_
        refine L_pass rfl ?_
        refine L_pick (v := .bool b32) rfl rfl (congrArg Value.bool (so hb32)) ?_
        refine L_as (v := .bool b32) rfl rfl ?_
        refine L_nil ?_
        show R33 _ _
        rw [hR33]
        exact ⟨rfl, (Star.keepN 0 hst)⟩
  ·
    intro f w_ hR
    rw [hR33] at hR
    obtain ⟨sf6, hst⟩ := hR
    clear hR33
    refine W_ret ?_
    refine retG1 (v1 := .bool b32) Try.results18 sf6 ?_
    obtain rfl := so hF
    exact ⟨rfl, hst⟩

theorem s_l6Cells_c {m : Model} {cells : List Int} {v0_0 : Value} {v0_1 : Value} {v1 : Value} {H : FH} {w : World} (hst : Star H w []) (h0_0 : (RP.slice 3 RP.int).rel H [v0_0] m.sizes) (h0_1 : (RP.slice 36 (rRule 3 23)).rel H [v0_1] m.rules) (h1 : (RP.slice 3 RP.int).rel H [v1] cells) {r : Bool} (hF : s_l6Cells m cells = some r) :
    C Try.prog 61 #[.agg #[v0_0, v0_1], v1] w fun v w' => v = .bool r ∧ Star H w' [] := by
  unfold s_l6Cells at hF
  refine C_enter Try.func61 rfl Try.ntmps61 rfl ?_
  refine W_seq ?_
  refine W_region ?_
  refine L_box (v := .agg #[v0_0, v0_1]) (cs := #[v0_0, v0_1]) rfl rfl rfl hst ?_
  intro g3 w4 hst
  refine L_as (v := .bool false) rfl rfl ?_
  refine L_nil ?_
  refine W_seq ?_
  refine W_seq ?_
  refine W_region ?_
  refine L_mv (v := v1) rfl rfl ?_
  refine L_len (v := v1) (n := List.length cells) rfl Try.underlying23 rfl (slice_len h1) ?_
  refine L_fa (o' := 0) rfl fa_26_0 rfl rfl ?_
  refine L_ld (v := v0_0) rfl Try.isAgg23 rfl (At.cell0 (Blk.at (Star.blkAt 0 hst rfl)) (j := 0) rfl) ?_
  refine L_len (v := v0_0) (n := List.length m.sizes) rfl Try.underlying23 rfl (slice_len h0_0) ?_
  refine L_neq (m := (cells.length : Int)) (n := (m.sizes.length : Int)) rfl rfl rfl ?_
  refine L_nil ?_
  refine W_cond (b := ((cells.length : Int) != (m.sizes.length : Int))) rfl (fun hc5 => ?_) (fun hc5 => ?_)
  ·
    have hF := (ite_t hc5).symm.trans hF
    refine W_seq ?_
    refine W_region ?_
    refine L_as (v := .bool false) rfl rfl ?_
    refine L_nil ?_
    refine W_ret ?_
    refine retG1 (v1 := .bool false) Try.results61 rfl ?_
    obtain rfl := so hF
    exact ⟨rfl, (Star.keepN 0 hst)⟩
  ·
    have hF := (ite_f hc5).symm.trans hF
    refine W_skip ?_
    refine W_seq ?_
    refine W_seq ?_
    refine W_region ?_
    refine L_as (v := .int .i64 0) rfl rfl ?_
    refine L_nil ?_
    have hlen9 : List.length cells ≤ 9223372036854775807 := len_le (slice_len h1)
    obtain ⟨j9, hL9, hF⟩ := bind_some hF
    obtain ⟨R9, hR9⟩ : ∃ RR_ : Fr → World → Prop, RR_ = fun f w_ => ∃ H7 : FH, j9 = .nx () ∧ Le H H7 ∧ Star H7 w_ ([]) := ⟨_, rfl⟩
    refine W_join R9 ?_ ?_
    ·
      refine W_block ?_
      obtain ⟨I9, hI9⟩ : ∃ I : Nat → Fr → World → Prop, I = fun n f w_ => ∃ i_6 : Nat, ∃ suf9 : List Int, ∃ H7 : FH, n = suf9.length ∧ List.drop i_6 cells = suf9 ∧ i_6 + suf9.length = cells.length ∧ rangeL (s_l6Cells_b1 m) suf9 i_6 () = some j9 ∧ Le H H7 ∧ f 1 = v1 ∧ f 2 = .pointer (some ⟨g3, 0, none⟩) ∧ f 5 = .int .i64 (i_6 : Int) ∧ Star H7 w_ ([box g3 26 #[v0_0, v0_1]]) := ⟨_, rfl⟩
      refine W_loop I9 (n := cells.length) ?_ ?_
      · rw [hI9]; exact ⟨0, cells, H, rfl, rfl, Nat.zero_add _, hL9, (Le.refl _), rfl, rfl, rfl, hst⟩
      ·
        clear hst
        intro n9 f w_ hI
        rw [hI9] at hI
        obtain ⟨i_6, suf9, H7, rfl, hd9, hl9, hL9, hle8, sf1, sf2, sf5, hst⟩ := hI
        refine W_seq ?_
        refine W_seq ?_
        refine W_region ?_
        refine L_mv (v := .int .i64 (i_6 : Int)) rfl sf5 ?_
        refine L_mv (v := v1) rfl sf1 ?_
        refine L_len (v := v1) (n := List.length cells) rfl Try.underlying23 rfl (slice_len (RP.mono _ h1 hle8)) ?_
        refine L_lss (m := (i_6 : Int)) (n := (cells.length : Int)) rfl rfl rfl ?_
        refine L_nil ?_
        refine W_cond (b := decide ((i_6 : Int) < (cells.length : Int))) rfl (fun hc10 => ?_) (fun hc10 => ?_)
        ·
          have hlt9 := of_decide_eq_true hc10
          cases suf9 with
          | nil => exact absurd hlt9 (by simp at hl9; omega)
          | cons x_9 rest9 =>
            obtain ⟨o9, hB9, hL9⟩ := range_cons hL9
            rw [s_l6Cells_b1] at hB9
            have hix9 := drop_idx hd9
            refine W_skip ?_
            refine W_seq ?_
            refine W_block ?_
            refine W_seq ?_
            obtain ⟨b24, hb24, hB9⟩ := bind_some hB9
            obtain ⟨R28, hR28⟩ : ∃ RR_ : Fr → World → Prop, RR_ = fun f w_ => ∃ H26 : FH, Le H7 H26 ∧ f 1 = v1 ∧ f 2 = .pointer (some ⟨g3, 0, none⟩) ∧ f 5 = .int .i64 (i_6 : Int) ∧ f 34 = .bool b24 ∧ Star H26 w_ ([box g3 26 #[v0_0, v0_1]]) := ⟨_, rfl⟩
            refine W_join R28 ?_ ?_
            ·
              rcases Bool.eq_false_or_eq_true (decide (x_9 < 0)) with hc29 | hc29
              ·
                rw [ite_t hc29] at hb24
                refine W_drawS 15 [isV (v1), isV (.int .i64 (i_6 : Int)), isEl RP.int x_9 0, isV (.int .i64 x_9), isV (.bool (decide (x_9 < 0))), isV (.bool (decide (x_9 < 0))), isV (undef), isV (undef), isV (undef), isV (undef), isV (undef), isV (undef), isV (undef), isV (undef), isV (undef)] [box g3 26 #[v0_0, v0_1]] [] ([]) [([], []), ([], []), ([], []), ([], []), ([], []), ([], []), ([], []), ([], []), ([], []), ([], []), ([], []), ([], []), ([], []), ([], []), ([], [])] (S := []) Try_mix (by kernel_rfl) rfl (by kernel_rfl) (amF_cons (mono_V _) (amF_cons (mono_V _) (amF_cons (mono_el _ _ _) (amF_cons (mono_V _) (amF_cons (mono_V _) (amF_cons (mono_V _) (amF_cons (mono_V _) (amF_cons (mono_V _) (amF_cons (mono_V _) (amF_cons (mono_V _) (amF_cons (mono_V _) (amF_cons (mono_V _) (amF_cons (mono_V _) (amF_cons (mono_V _) (amF_cons (mono_V _) amF_nil))))))))))))))) hst ?_ (fun f w_ H25 hS25 hE25 hT25 hst => ?_)
                ·
                  refine opsS_cons ?_ ?_
                  ·
                    intro f w_ H25 X25 hS25 hE25 hP25 hst
                    refine L_mv (v := v1) rfl ((hS25 1 rfl).trans sf1) ?_
                    exact L_nil ⟨rfl, _, _, _, rfl, rfl, Le.refl _, rfl, hst⟩
                  refine opsS_cons ?_ ?_
                  ·
                    intro f w_ H25 X25 hS25 hE25 hP25 hst
                    refine L_mv (v := .int .i64 (i_6 : Int)) rfl ((hS25 5 rfl).trans sf5) ?_
                    exact L_nil ⟨rfl, _, _, _, rfl, rfl, Le.refl _, rfl, hst⟩
                  refine opsS_cons ?_ ?_
                  ·
                    intro f w_ H25 X25 hS25 hE25 hP25 hst
                    refine L_ix (r := RP.int) rfl Try.underlying23 Try.sizeOf3 (hP25 0 18 rfl rfl) (RP.mono _ h1 (Le.trans hle8 hE25)) (hP25 1 19 rfl rfl) hix9 ?_
                    intro g34 o35 cs_g34 hrk_hat36 hat36
                    obtain rfl : _ = [_] := hrk_hat36
                    exact L_nil ⟨rfl, _, _, _, rfl, rfl, Le.refl _, ⟨_, _, _, rfl, rfl, hat36⟩, hst⟩
                  refine opsS_cons ?_ ?_
                  ·
                    intro f w_ H25 X25 hS25 hE25 hP25 hst
                    obtain ⟨g38, o38, cs38, hv38, hrk_hat38, hat38⟩ := (hP25 2 20 rfl rfl)
                    obtain rfl : _ = [_] := hrk_hat38
                    refine L_ld (v := .int .i64 x_9) rfl Try.isAgg3 hv38 (At.cell (AtH.at hat38 hst.sub) (j := 0) rfl) ?_
                    exact L_nil ⟨rfl, _, _, _, rfl, rfl, Le.refl _, rfl, hst⟩
                  refine opsS_cons ?_ ?_
                  ·
                    intro f w_ H25 X25 hS25 hE25 hP25 hst
                    refine L_lss (m := x_9) (n := 0) rfl (hP25 3 21 rfl rfl) rfl ?_
                    exact L_nil ⟨rfl, _, _, _, rfl, rfl, Le.refl _, rfl, hst⟩
                  refine opsS_cons ?_ ?_
                  ·
                    intro f w_ H25 X25 hS25 hE25 hP25 hst
                    refine L_mv (v := .bool (decide (x_9 < 0))) rfl (hP25 4 22 rfl rfl) ?_
                    exact L_nil ⟨rfl, _, _, _, rfl, rfl, Le.refl _, rfl, hst⟩
                  refine opsS_cons ?_ ?_
                  ·
                    intro f w_ H25 X25 hS25 hE25 hP25 hst
                    refine L_pass (g_no rfl (Eq.trans (hP25 5 23 rfl rfl) (congrArg Value.bool hc29)) rfl rfl) ?_
                    exact L_nil ⟨rfl, _, _, _, rfl, rfl, Le.refl _, rfl, hst⟩
                  refine opsS_cons ?_ ?_
                  ·
                    intro f w_ H25 X25 hS25 hE25 hP25 hst
                    refine L_pass (g_no rfl (Eq.trans (hP25 5 23 rfl rfl) (congrArg Value.bool hc29)) rfl rfl) ?_
                    exact L_nil ⟨rfl, _, _, _, rfl, rfl, Le.refl _, rfl, hst⟩
                  refine opsS_cons ?_ ?_
                  ·
                    intro f w_ H25 X25 hS25 hE25 hP25 hst
                    refine L_pass (g_no rfl (Eq.trans (hP25 5 23 rfl rfl) (congrArg Value.bool hc29)) rfl rfl) ?_
                    exact L_nil ⟨rfl, _, _, _, rfl, rfl, Le.refl _, rfl, hst⟩
                  refine opsS_cons ?_ ?_
                  ·
                    intro f w_ H25 X25 hS25 hE25 hP25 hst
                    refine L_pass (g_no rfl (Eq.trans (hP25 5 23 rfl rfl) (congrArg Value.bool hc29)) rfl rfl) ?_
                    exact L_nil ⟨rfl, _, _, _, rfl, rfl, Le.refl _, rfl, hst⟩
                  refine opsS_cons ?_ ?_
                  ·
                    intro f w_ H25 X25 hS25 hE25 hP25 hst
                    refine L_pass (g_no rfl (Eq.trans (hP25 5 23 rfl rfl) (congrArg Value.bool hc29)) rfl rfl) ?_
                    exact L_nil ⟨rfl, _, _, _, rfl, rfl, Le.refl _, rfl, hst⟩
                  refine opsS_cons ?_ ?_
                  ·
                    intro f w_ H25 X25 hS25 hE25 hP25 hst
                    refine L_pass (g_no rfl (Eq.trans (hP25 5 23 rfl rfl) (congrArg Value.bool hc29)) rfl rfl) ?_
                    exact L_nil ⟨rfl, _, _, _, rfl, rfl, Le.refl _, rfl, hst⟩
                  refine opsS_cons ?_ ?_
                  ·
                    intro f w_ H25 X25 hS25 hE25 hP25 hst
                    refine L_pass (g_no rfl (Eq.trans (hP25 5 23 rfl rfl) (congrArg Value.bool hc29)) rfl rfl) ?_
                    exact L_nil ⟨rfl, _, _, _, rfl, rfl, Le.refl _, rfl, hst⟩
                  refine opsS_cons ?_ ?_
                  ·
                    intro f w_ H25 X25 hS25 hE25 hP25 hst
                    refine L_pass (g_no rfl (Eq.trans (hP25 5 23 rfl rfl) (congrArg Value.bool hc29)) rfl rfl) ?_
                    exact L_nil ⟨rfl, _, _, _, rfl, rfl, Le.refl _, rfl, hst⟩
                  refine opsS_cons ?_ ?_
                  ·
                    intro f w_ H25 X25 hS25 hE25 hP25 hst
                    refine L_pass (g_no rfl (Eq.trans (hP25 5 23 rfl rfl) (congrArg Value.bool hc29)) rfl rfl) ?_
                    exact L_nil ⟨rfl, _, _, _, rfl, rfl, Le.refl _, rfl, hst⟩
                  exact opsS_nil
                ·
                  refine L_pass (g_no rfl (Eq.trans (hT25 5 23 rfl rfl) (congrArg Value.bool hc29)) rfl rfl) ?_
                  refine L_pick (v := .bool b24) rfl (Eq.trans (hT25 5 23 rfl rfl) (congrArg Value.bool hc29)) (congrArg Value.bool (so hb24)) ?_
                  refine L_nil ?_
                  show R28 _ _
                  rw [hR28]
                  exact ⟨H25, hE25, ((hS25 1 rfl).trans sf1), ((hS25 2 rfl).trans sf2), ((hS25 5 rfl).trans sf5), rfl, hst⟩
              ·
                rw [ite_f hc29] at hb24
                obtain ⟨x19, hx19, hb24⟩ := bind_some hb24
                refine W_drawS 15 [isV (v1), isV (.int .i64 (i_6 : Int)), isEl RP.int x_9 0, isV (.int .i64 x_9), isV (.bool (decide (x_9 < 0))), isV (.bool (decide (x_9 < 0))), isV (v1), isV (.int .i64 (i_6 : Int)), isEl RP.int x_9 0, isV (.int .i64 x_9), isV (.pointer (some ⟨g3, 0, none⟩)), isV (v0_0), isV (.int .i64 (i_6 : Int)), isEl RP.int x19 0, isV (.int .i64 x19)] [box g3 26 #[v0_0, v0_1]] [] ([]) [([], []), ([], []), ([], []), ([], []), ([], []), ([], []), ([], []), ([], []), ([], []), ([], []), ([], []), ([], []), ([], []), ([], []), ([], [])] (S := []) Try_mix (by kernel_rfl) rfl (by kernel_rfl) (amF_cons (mono_V _) (amF_cons (mono_V _) (amF_cons (mono_el _ _ _) (amF_cons (mono_V _) (amF_cons (mono_V _) (amF_cons (mono_V _) (amF_cons (mono_V _) (amF_cons (mono_V _) (amF_cons (mono_el _ _ _) (amF_cons (mono_V _) (amF_cons (mono_V _) (amF_cons (mono_V _) (amF_cons (mono_V _) (amF_cons (mono_el _ _ _) (amF_cons (mono_V _) amF_nil))))))))))))))) hst ?_ (fun f w_ H25 hS25 hE25 hT25 hst => ?_)
                ·
                  refine opsS_cons ?_ ?_
                  ·
                    intro f w_ H25 X25 hS25 hE25 hP25 hst
                    refine L_mv (v := v1) rfl ((hS25 1 rfl).trans sf1) ?_
                    exact L_nil ⟨rfl, _, _, _, rfl, rfl, Le.refl _, rfl, hst⟩
                  refine opsS_cons ?_ ?_
                  ·
                    intro f w_ H25 X25 hS25 hE25 hP25 hst
                    refine L_mv (v := .int .i64 (i_6 : Int)) rfl ((hS25 5 rfl).trans sf5) ?_
                    exact L_nil ⟨rfl, _, _, _, rfl, rfl, Le.refl _, rfl, hst⟩
                  refine opsS_cons ?_ ?_
                  ·
                    intro f w_ H25 X25 hS25 hE25 hP25 hst
                    refine L_ix (r := RP.int) rfl Try.underlying23 Try.sizeOf3 (hP25 0 18 rfl rfl) (RP.mono _ h1 (Le.trans hle8 hE25)) (hP25 1 19 rfl rfl) hix9 ?_
                    intro g52 o53 cs_g52 hrk_hat54 hat54
                    obtain rfl : _ = [_] := hrk_hat54
                    exact L_nil ⟨rfl, _, _, _, rfl, rfl, Le.refl _, ⟨_, _, _, rfl, rfl, hat54⟩, hst⟩
                  refine opsS_cons ?_ ?_
                  ·
                    intro f w_ H25 X25 hS25 hE25 hP25 hst
                    obtain ⟨g56, o56, cs56, hv56, hrk_hat56, hat56⟩ := (hP25 2 20 rfl rfl)
                    obtain rfl : _ = [_] := hrk_hat56
                    refine L_ld (v := .int .i64 x_9) rfl Try.isAgg3 hv56 (At.cell (AtH.at hat56 hst.sub) (j := 0) rfl) ?_
                    exact L_nil ⟨rfl, _, _, _, rfl, rfl, Le.refl _, rfl, hst⟩
                  refine opsS_cons ?_ ?_
                  ·
                    intro f w_ H25 X25 hS25 hE25 hP25 hst
                    refine L_lss (m := x_9) (n := 0) rfl (hP25 3 21 rfl rfl) rfl ?_
                    exact L_nil ⟨rfl, _, _, _, rfl, rfl, Le.refl _, rfl, hst⟩
                  refine opsS_cons ?_ ?_
                  ·
                    intro f w_ H25 X25 hS25 hE25 hP25 hst
                    refine L_mv (v := .bool (decide (x_9 < 0))) rfl (hP25 4 22 rfl rfl) ?_
                    exact L_nil ⟨rfl, _, _, _, rfl, rfl, Le.refl _, rfl, hst⟩
                  refine opsS_cons ?_ ?_
                  ·
                    intro f w_ H25 X25 hS25 hE25 hP25 hst
                    refine L_mv (v := v1) (g_yes rfl (Eq.trans (hP25 5 23 rfl rfl) (congrArg Value.bool hc29)) rfl) ((hS25 1 rfl).trans sf1) ?_
                    exact L_nil ⟨rfl, _, _, _, rfl, rfl, Le.refl _, rfl, hst⟩
                  refine opsS_cons ?_ ?_
                  ·
                    intro f w_ H25 X25 hS25 hE25 hP25 hst
                    refine L_mv (v := .int .i64 (i_6 : Int)) (g_yes rfl (Eq.trans (hP25 5 23 rfl rfl) (congrArg Value.bool hc29)) rfl) ((hS25 5 rfl).trans sf5) ?_
                    exact L_nil ⟨rfl, _, _, _, rfl, rfl, Le.refl _, rfl, hst⟩
                  refine opsS_cons ?_ ?_
                  ·
                    intro f w_ H25 X25 hS25 hE25 hP25 hst
                    refine L_ix (r := RP.int) (g_yes rfl (Eq.trans (hP25 5 23 rfl rfl) (congrArg Value.bool hc29)) rfl) Try.underlying23 Try.sizeOf3 (hP25 6 24 rfl rfl) (RP.mono _ h1 (Le.trans hle8 hE25)) (hP25 7 25 rfl rfl) hix9 ?_
                    intro g58 o59 cs_g58 hrk_hat60 hat60
                    obtain rfl : _ = [_] := hrk_hat60
                    exact L_nil ⟨rfl, _, _, _, rfl, rfl, Le.refl _, ⟨_, _, _, rfl, rfl, hat60⟩, hst⟩
                  refine opsS_cons ?_ ?_
                  ·
                    intro f w_ H25 X25 hS25 hE25 hP25 hst
                    obtain ⟨g62, o62, cs62, hv62, hrk_hat62, hat62⟩ := (hP25 8 26 rfl rfl)
                    obtain rfl : _ = [_] := hrk_hat62
                    refine L_ld (v := .int .i64 x_9) (g_yes rfl (Eq.trans (hP25 5 23 rfl rfl) (congrArg Value.bool hc29)) rfl) Try.isAgg3 hv62 (At.cell (AtH.at hat62 hst.sub) (j := 0) rfl) ?_
                    exact L_nil ⟨rfl, _, _, _, rfl, rfl, Le.refl _, rfl, hst⟩
                  refine opsS_cons ?_ ?_
                  ·
                    intro f w_ H25 X25 hS25 hE25 hP25 hst
                    refine L_fa (o' := 0) (g_yes rfl (Eq.trans (hP25 5 23 rfl rfl) (congrArg Value.bool hc29)) rfl) fa_26_0 ((hS25 2 rfl).trans sf2) rfl ?_
                    exact L_nil ⟨rfl, _, _, _, rfl, rfl, Le.refl _, rfl, hst⟩
                  refine opsS_cons ?_ ?_
                  ·
                    intro f w_ H25 X25 hS25 hE25 hP25 hst
                    refine L_ld (v := v0_0) (g_yes rfl (Eq.trans (hP25 5 23 rfl rfl) (congrArg Value.bool hc29)) rfl) Try.isAgg23 (hP25 10 28 rfl rfl) (At.cell0 (Blk.at (Star.blkAt 0 hst rfl)) (j := 0) rfl) ?_
                    exact L_nil ⟨rfl, _, _, _, rfl, rfl, Le.refl _, rfl, hst⟩
                  refine opsS_cons ?_ ?_
                  ·
                    intro f w_ H25 X25 hS25 hE25 hP25 hst
                    refine L_mv (v := .int .i64 (i_6 : Int)) (g_yes rfl (Eq.trans (hP25 5 23 rfl rfl) (congrArg Value.bool hc29)) rfl) ((hS25 5 rfl).trans sf5) ?_
                    exact L_nil ⟨rfl, _, _, _, rfl, rfl, Le.refl _, rfl, hst⟩
                  refine opsS_cons ?_ ?_
                  ·
                    intro f w_ H25 X25 hS25 hE25 hP25 hst
                    refine L_ix (r := RP.int) (g_yes rfl (Eq.trans (hP25 5 23 rfl rfl) (congrArg Value.bool hc29)) rfl) Try.underlying23 Try.sizeOf3 (hP25 11 29 rfl rfl) (RP.mono _ h0_0 (Le.trans hle8 hE25)) (hP25 12 30 rfl rfl) hx19 ?_
                    intro g64 o65 cs_g64 hrk_hat66 hat66
                    obtain rfl : _ = [_] := hrk_hat66
                    exact L_nil ⟨rfl, _, _, _, rfl, rfl, Le.refl _, ⟨_, _, _, rfl, rfl, hat66⟩, hst⟩
                  refine opsS_cons ?_ ?_
                  ·
                    intro f w_ H25 X25 hS25 hE25 hP25 hst
                    obtain ⟨g68, o68, cs68, hv68, hrk_hat68, hat68⟩ := (hP25 13 31 rfl rfl)
                    obtain rfl : _ = [_] := hrk_hat68
                    refine L_ld (v := .int .i64 x19) (g_yes rfl (Eq.trans (hP25 5 23 rfl rfl) (congrArg Value.bool hc29)) rfl) Try.isAgg3 hv68 (At.cell (AtH.at hat68 hst.sub) (j := 0) rfl) ?_
                    exact L_nil ⟨rfl, _, _, _, rfl, rfl, Le.refl _, rfl, hst⟩
                  exact opsS_nil
                ·
                  refine L_gtr (m := x_9) (n := x19) (g_yes rfl (Eq.trans (hT25 5 23 rfl rfl) (congrArg Value.bool hc29)) rfl) (hT25 9 27 rfl rfl) (hT25 14 32 rfl rfl) ?_
                  refine L_pick (v := .bool b24) rfl (Eq.trans (hT25 5 23 rfl rfl) (congrArg Value.bool hc29)) (congrArg Value.bool (so hb24)) ?_
                  refine L_nil ?_
                  show R28 _ _
                  rw [hR28]
                  exact ⟨H25, hE25, ((hS25 1 rfl).trans sf1), ((hS25 2 rfl).trans sf2), ((hS25 5 rfl).trans sf5), rfl, hst⟩
            ·
              intro f w_ hR
              rw [hR28] at hR
              obtain ⟨H26, hle27, sf1, sf2, sf5, sf34, hst⟩ := hR
              clear hR28
              refine W_cond (b := b24) sf34 (fun hc70 => ?_) (fun hc70 => ?_)
              ·
                have hB9 := (ite_t hc70).symm.trans hB9
                refine W_seq ?_
                refine W_region ?_
                refine L_as (v := .bool false) rfl rfl ?_
                refine L_nil ?_
                refine W_ret ?_
                refine retG1 (v1 := .bool false) Try.results61 rfl ?_
                obtain rfl := so hB9
                obtain rfl := so hL9
                obtain rfl := so hF
                exact ⟨rfl, (Star.down (Star.keepN 0 hst) (Le.trans hle8 hle27) closedL_nil)⟩
              ·
                have hB9 := (ite_f hc70).symm.trans hB9
                refine W_skip ?_
                refine W_region ?_
                refine L_mv (v := .int .i64 (i_6 : Int)) rfl sf5 ?_
                refine L_add (m := (i_6 : Int)) (n := 1) rfl rfl rfl ?_
                refine L_as (v := .int .i64 (i64 ((i_6 : Int) + 1))) rfl rfl ?_
                refine L_nil ?_
                obtain rfl := so hB9
                show ∃ m, m < _ ∧ I9 m _ _
                refine ⟨rest9.length, by simp, ?_⟩
                rw [hI9]
                exact ⟨i_6 + 1, rest9, H26, rfl, drop_next hd9, by simp at hl9; omega, hL9, (Le.trans hle8 hle27), sf1, sf2, (Eq.trans rfl (congrArg (Value.int .i64) (i64_succ (n := cells.length) (by simp at hl9; omega) hlen9))), hst⟩
        ·
          cases suf9 with
          | cons _ _ => exact absurd (of_decide_eq_false hc10) (by simp at hl9; omega)
          | nil =>
            obtain rfl := range_nil hL9
            refine W_exit ?_
            show R9 _ _
            rw [hR9]
            exact ⟨H7, rfl, hle8, (Star.keepN 0 hst)⟩
    ·
      clear hst
      intro f w_ hR
      rw [hR9] at hR
      obtain ⟨H7, rfl, hle8, hst⟩ := hR
      clear hR9
      refine W_seq ?_
      refine W_region ?_
      refine L_as (v := .bool true) rfl rfl ?_
      refine L_nil ?_
      refine W_ret ?_
      refine retG1 (v1 := .bool true) Try.results61 rfl ?_
      obtain rfl := so hF
      exact ⟨rfl, (Star.down hst hle8 closedL_nil)⟩

theorem s_CellsValid_c {fu : Nat} {m : Model} {cells : List Int} {v0_0 : Value} {v0_1 : Value} {v1 : Value} {H : FH} {w : World} (hst : Star H w []) (h0_0 : (RP.slice 3 RP.int).rel H [v0_0] m.sizes) (h0_1 : (RP.slice 36 (rRule 3 23)).rel H [v0_1] m.rules) (h1 : (RP.slice 3 RP.int).rel H [v1] cells) {r : Bool} (hF : s_CellsValid fu m cells = some r) :
    C Try.prog 24 #[.agg #[v0_0, v0_1], v1] w fun v w' => v = .bool r ∧ Star H w' [] := by
  unfold s_CellsValid at hF
  refine C_enter Try.func24 rfl Try.ntmps24 rfl ?_
  refine W_seq ?_
  refine W_region ?_
  refine L_box (v := .agg #[v0_0, v0_1]) (cs := #[v0_0, v0_1]) rfl rfl rfl hst ?_
  intro g3 w4 hst
  refine L_as (v := .bool false) rfl rfl ?_
  refine L_nil ?_
  refine W_seq ?_
  obtain ⟨x10, hx10, hF⟩ := bind_some hF
  obtain ⟨b19, hb19, hF⟩ := bind_some hF
  obtain ⟨R20, hR20⟩ : ∃ RR_ : Fr → World → Prop, RR_ = fun f w_ => f 4 = .bool b19 ∧ Star H w_ ([]) := ⟨_, rfl⟩
  refine W_join R20 ?_ ?_
  ·
    refine W_region ?_
    refine L_lda (cs := [v0_0, v0_1]) rfl Try.isAgg26 Try.sizeOf26 rfl (At.sub0 (Blk.at (Star.blkAt 0 hst rfl)) 0 2) rfl ?_
    obtain ⟨Hb21, hle22, hsb23, hfz24, hbk25⟩ := Star.borrow hst
    refine L_call (args := #[.agg #[v0_0, v0_1]]) rfl Try.call52 (ops1 rfl) (s_ModelValid_c (m := m) hsb23 (RP.mono _ h0_0 hle22) (RP.mono _ h0_1 hle22) hx10) ?_
    rintro _ w26 ⟨rfl, hst⟩
    have hst := hbk25 hst closedL_nil
    refine L_mv (v := .bool x10) rfl rfl ?_
    refine L_split (d := 7) (b := x10) rfl (fun hc27 => ?_) (fun hc27 => ?_)
    ·
      rw [ite_t hc27] at hb19
      obtain ⟨x17, hx17, hb19⟩ := bind_some hb19
      refine L_lda (cs := [v0_0, v0_1]) rfl Try.isAgg26 Try.sizeOf26 rfl (At.sub0 (Blk.at (Star.blkAt 0 hst rfl)) 0 2) rfl ?_
      refine L_mv (v := v1) rfl rfl ?_
      obtain ⟨Hb28, hle29, hsb30, hfz31, hbk32⟩ := Star.borrow hst
      refine L_call (args := #[.agg #[v0_0, v0_1], v1]) rfl Try.call61 (ops2 rfl rfl) (s_l6Cells_c (m := m) (cells := cells) hsb30 (RP.mono _ h0_0 hle29) (RP.mono _ h0_1 hle29) (RP.mono _ h1 hle29) hx17) ?_
      rintro _ w33 ⟨rfl, hst⟩
      have hst := hbk32 hst closedL_nil
      refine L_pick (v := .bool b19) rfl rfl (congrArg Value.bool (so hb19)) ?_
      refine L_as (v := .bool b19) rfl rfl ?_
      refine L_nil ?_
      show R20 _ _
      rw [hR20]
      exact ⟨rfl, (Star.keepN 0 hst)⟩
    ·
      rw [ite_f hc27] at hb19
      refine L_pass rfl ?_
      refine L_pass rfl ?_
      refine L_pass rfl ?_
      refine L_pick (v := .bool b19) rfl rfl (congrArg Value.bool (so hb19)) ?_
      refine L_as (v := .bool b19) rfl rfl ?_
      refine L_nil ?_
      show R20 _ _
      rw [hR20]
      exact ⟨rfl, (Star.keepN 0 hst)⟩
  ·
    intro f w_ hR
    rw [hR20] at hR
    obtain ⟨sf4, hst⟩ := hR
    clear hR20
    refine W_ret ?_
    refine retG1 (v1 := .bool b19) Try.results24 sf4 ?_
    obtain rfl := so hF
    exact ⟨rfl, hst⟩

theorem s_l6Ints_c {a : List Int} {b : List Int} {v0 : Value} {v1 : Value} {H : FH} {w : World} (hst : Star H w []) (h0 : (RP.slice 3 RP.int).rel H [v0] a) (h1 : (RP.slice 3 RP.int).rel H [v1] b) {r : Bool} (hF : s_l6Ints a b = some r) :
    C Try.prog 84 #[v0, v1] w fun v w' => v = .bool r ∧ Star H w' [] := by
  unfold s_l6Ints at hF
  refine C_enter Try.func84 rfl Try.ntmps84 rfl ?_
  refine W_seq ?_
  refine W_region ?_
  refine L_as (v := .bool false) rfl rfl ?_
  refine L_nil ?_
  refine W_seq ?_
  refine W_seq ?_
  refine W_region ?_
  refine L_mv (v := v0) rfl rfl ?_
  refine L_len (v := v0) (n := List.length a) rfl Try.underlying23 rfl (slice_len h0) ?_
  refine L_mv (v := v1) rfl rfl ?_
  refine L_len (v := v1) (n := List.length b) rfl Try.underlying23 rfl (slice_len h1) ?_
  refine L_neq (m := (a.length : Int)) (n := (b.length : Int)) rfl rfl rfl ?_
  refine L_nil ?_
  refine W_cond (b := ((a.length : Int) != (b.length : Int))) rfl (fun hc1 => ?_) (fun hc1 => ?_)
  ·
    have hF := (ite_t hc1).symm.trans hF
    refine W_seq ?_
    refine W_region ?_
    refine L_as (v := .bool false) rfl rfl ?_
    refine L_nil ?_
    refine W_ret ?_
    refine retG1 (v1 := .bool false) Try.results84 rfl ?_
    obtain rfl := so hF
    exact ⟨rfl, hst⟩
  ·
    have hF := (ite_f hc1).symm.trans hF
    refine W_skip ?_
    refine W_seq ?_
    refine W_seq ?_
    refine W_region ?_
    refine L_as (v := .int .i64 0) rfl rfl ?_
    refine L_nil ?_
    have hlen5 : List.length a ≤ 9223372036854775807 := len_le (slice_len h0)
    obtain ⟨j5, hL5, hF⟩ := bind_some hF
    obtain ⟨R5, hR5⟩ : ∃ RR_ : Fr → World → Prop, RR_ = fun f w_ => ∃ H3 : FH, j5 = .nx () ∧ Le H H3 ∧ Star H3 w_ ([]) := ⟨_, rfl⟩
    refine W_join R5 ?_ ?_
    ·
      refine W_block ?_
      obtain ⟨I5, hI5⟩ : ∃ I : Nat → Fr → World → Prop, I = fun n f w_ => ∃ i_2 : Nat, ∃ suf5 : List Int, ∃ H3 : FH, n = suf5.length ∧ List.drop i_2 a = suf5 ∧ i_2 + suf5.length = a.length ∧ rangeL (s_l6Ints_b1 b) suf5 i_2 () = some j5 ∧ Le H H3 ∧ f 0 = v0 ∧ f 1 = v1 ∧ f 5 = .int .i64 (i_2 : Int) ∧ Star H3 w_ ([]) := ⟨_, rfl⟩
      refine W_loop I5 (n := a.length) ?_ ?_
      · rw [hI5]; exact ⟨0, a, H, rfl, rfl, Nat.zero_add _, hL5, (Le.refl _), rfl, rfl, rfl, hst⟩
      ·
        clear hst
        intro n5 f w_ hI
        rw [hI5] at hI
        obtain ⟨i_2, suf5, H3, rfl, hd5, hl5, hL5, hle4, sf0, sf1, sf5, hst⟩ := hI
        refine W_seq ?_
        refine W_seq ?_
        refine W_region ?_
        refine L_mv (v := .int .i64 (i_2 : Int)) rfl sf5 ?_
        refine L_mv (v := v0) rfl sf0 ?_
        refine L_len (v := v0) (n := List.length a) rfl Try.underlying23 rfl (slice_len (RP.mono _ h0 hle4)) ?_
        refine L_lss (m := (i_2 : Int)) (n := (a.length : Int)) rfl rfl rfl ?_
        refine L_nil ?_
        refine W_cond (b := decide ((i_2 : Int) < (a.length : Int))) rfl (fun hc6 => ?_) (fun hc6 => ?_)
        ·
          have hlt5 := of_decide_eq_true hc6
          cases suf5 with
          | nil => exact absurd hlt5 (by simp at hl5; omega)
          | cons x_5 rest5 =>
            obtain ⟨o5, hB5, hL5⟩ := range_cons hL5
            rw [s_l6Ints_b1] at hB5
            have hix5 := drop_idx hd5
            refine W_skip ?_
            refine W_seq ?_
            refine W_block ?_
            refine W_seq ?_
            obtain ⟨x11, hx11, hB5⟩ := bind_some hB5
            refine W_drawS 8 [isV (v0), isV (.int .i64 (i_2 : Int)), isEl RP.int x_5 0, isV (.int .i64 x_5), isV (v1), isV (.int .i64 (i_2 : Int)), isEl RP.int x11 0, isV (.int .i64 x11)] [] [] ([]) [([], []), ([], []), ([], []), ([], []), ([], []), ([], []), ([], []), ([], [])] (S := []) Try_mix (by kernel_rfl) rfl (by kernel_rfl) (amF_cons (mono_V _) (amF_cons (mono_V _) (amF_cons (mono_el _ _ _) (amF_cons (mono_V _) (amF_cons (mono_V _) (amF_cons (mono_V _) (amF_cons (mono_el _ _ _) (amF_cons (mono_V _) amF_nil)))))))) hst ?_ (fun f w_ H16 hS16 hE16 hT16 hst => ?_)
            ·
              refine opsS_cons ?_ ?_
              ·
                intro f w_ H16 X16 hS16 hE16 hP16 hst
                refine L_mv (v := v0) rfl ((hS16 0 rfl).trans sf0) ?_
                exact L_nil ⟨rfl, _, _, _, rfl, rfl, Le.refl _, rfl, hst⟩
              refine opsS_cons ?_ ?_
              ·
                intro f w_ H16 X16 hS16 hE16 hP16 hst
                refine L_mv (v := .int .i64 (i_2 : Int)) rfl ((hS16 5 rfl).trans sf5) ?_
                exact L_nil ⟨rfl, _, _, _, rfl, rfl, Le.refl _, rfl, hst⟩
              refine opsS_cons ?_ ?_
              ·
                intro f w_ H16 X16 hS16 hE16 hP16 hst
                refine L_ix (r := RP.int) rfl Try.underlying23 Try.sizeOf3 (hP16 0 17 rfl rfl) (RP.mono _ h0 (Le.trans hle4 hE16)) (hP16 1 18 rfl rfl) hix5 ?_
                intro g25 o26 cs_g25 hrk_hat27 hat27
                obtain rfl : _ = [_] := hrk_hat27
                exact L_nil ⟨rfl, _, _, _, rfl, rfl, Le.refl _, ⟨_, _, _, rfl, rfl, hat27⟩, hst⟩
              refine opsS_cons ?_ ?_
              ·
                intro f w_ H16 X16 hS16 hE16 hP16 hst
                obtain ⟨g29, o29, cs29, hv29, hrk_hat29, hat29⟩ := (hP16 2 19 rfl rfl)
                obtain rfl : _ = [_] := hrk_hat29
                refine L_ld (v := .int .i64 x_5) rfl Try.isAgg3 hv29 (At.cell (AtH.at hat29 hst.sub) (j := 0) rfl) ?_
                exact L_nil ⟨rfl, _, _, _, rfl, rfl, Le.refl _, rfl, hst⟩
              refine opsS_cons ?_ ?_
              ·
                intro f w_ H16 X16 hS16 hE16 hP16 hst
                refine L_mv (v := v1) rfl ((hS16 1 rfl).trans sf1) ?_
                exact L_nil ⟨rfl, _, _, _, rfl, rfl, Le.refl _, rfl, hst⟩
              refine opsS_cons ?_ ?_
              ·
                intro f w_ H16 X16 hS16 hE16 hP16 hst
                refine L_mv (v := .int .i64 (i_2 : Int)) rfl ((hS16 5 rfl).trans sf5) ?_
                exact L_nil ⟨rfl, _, _, _, rfl, rfl, Le.refl _, rfl, hst⟩
              refine opsS_cons ?_ ?_
              ·
                intro f w_ H16 X16 hS16 hE16 hP16 hst
                refine L_ix (r := RP.int) rfl Try.underlying23 Try.sizeOf3 (hP16 4 21 rfl rfl) (RP.mono _ h1 (Le.trans hle4 hE16)) (hP16 5 22 rfl rfl) hx11 ?_
                intro g31 o32 cs_g31 hrk_hat33 hat33
                obtain rfl : _ = [_] := hrk_hat33
                exact L_nil ⟨rfl, _, _, _, rfl, rfl, Le.refl _, ⟨_, _, _, rfl, rfl, hat33⟩, hst⟩
              refine opsS_cons ?_ ?_
              ·
                intro f w_ H16 X16 hS16 hE16 hP16 hst
                obtain ⟨g35, o35, cs35, hv35, hrk_hat35, hat35⟩ := (hP16 6 23 rfl rfl)
                obtain rfl : _ = [_] := hrk_hat35
                refine L_ld (v := .int .i64 x11) rfl Try.isAgg3 hv35 (At.cell (AtH.at hat35 hst.sub) (j := 0) rfl) ?_
                exact L_nil ⟨rfl, _, _, _, rfl, rfl, Le.refl _, rfl, hst⟩
              exact opsS_nil
            ·
              refine L_neq (m := x_5) (n := x11) rfl (hT16 3 20 rfl rfl) (hT16 7 24 rfl rfl) ?_
              refine L_nil ?_
              refine W_cond (b := (x_5 != x11)) rfl (fun hc37 => ?_) (fun hc37 => ?_)
              ·
                have hB5 := (ite_t hc37).symm.trans hB5
                refine W_seq ?_
                refine W_region ?_
                refine L_as (v := .bool false) rfl rfl ?_
                refine L_nil ?_
                refine W_ret ?_
                refine retG1 (v1 := .bool false) Try.results84 rfl ?_
                obtain rfl := so hB5
                obtain rfl := so hL5
                obtain rfl := so hF
                exact ⟨rfl, (Star.down hst (Le.trans hle4 hE16) closedL_nil)⟩
              ·
                have hB5 := (ite_f hc37).symm.trans hB5
                refine W_skip ?_
                refine W_region ?_
                refine L_mv (v := .int .i64 (i_2 : Int)) rfl ((hS16 5 rfl).trans sf5) ?_
                refine L_add (m := (i_2 : Int)) (n := 1) rfl rfl rfl ?_
                refine L_as (v := .int .i64 (i64 ((i_2 : Int) + 1))) rfl rfl ?_
                refine L_nil ?_
                obtain rfl := so hB5
                show ∃ m, m < _ ∧ I5 m _ _
                refine ⟨rest5.length, by simp, ?_⟩
                rw [hI5]
                exact ⟨i_2 + 1, rest5, H16, rfl, drop_next hd5, by simp at hl5; omega, hL5, (Le.trans hle4 hE16), ((hS16 0 rfl).trans sf0), ((hS16 1 rfl).trans sf1), (Eq.trans rfl (congrArg (Value.int .i64) (i64_succ (n := a.length) (by simp at hl5; omega) hlen5))), hst⟩
        ·
          cases suf5 with
          | cons _ _ => exact absurd (of_decide_eq_false hc6) (by simp at hl5; omega)
          | nil =>
            obtain rfl := range_nil hL5
            refine W_exit ?_
            show R5 _ _
            rw [hR5]
            exact ⟨H3, rfl, hle4, hst⟩
    ·
      clear hst
      intro f w_ hR
      rw [hR5] at hR
      obtain ⟨H3, rfl, hle4, hst⟩ := hR
      clear hR5
      refine W_seq ?_
      refine W_region ?_
      refine L_as (v := .bool true) rfl rfl ?_
      refine L_nil ?_
      refine W_ret ?_
      refine retG1 (v1 := .bool true) Try.results84 rfl ?_
      obtain rfl := so hF
      exact ⟨rfl, (Star.down hst hle4 closedL_nil)⟩

theorem s_l6Holds_c {r_ : Rule} {cells : List Int} {v0_1 : Value} {v0_2 : Value} {v0_4 : Value} {v1 : Value} {H : FH} {w : World} (hst : Star H w []) (h0_1 : (RP.slice 3 RP.int).rel H [v0_1] r_.vars) (h0_2 : (RP.slice 3 RP.int).rel H [v0_2] r_.coefs) (h0_4 : (RP.slice 23 (RP.slice 3 RP.int)).rel H [v0_4] r_.rows) (h1 : (RP.slice 3 RP.int).rel H [v1] cells) {r : Bool} (hF : s_l6Holds r_ cells = some r) :
    C Try.prog 57 #[.agg #[.int .i64 r_.kind, v0_1, v0_2, .int .i64 r_.bound, v0_4], v1] w fun v w' => v = .bool r ∧ Star H w' [] := by
  unfold s_l6Holds at hF
  refine C_enter Try.func57 rfl Try.ntmps57 rfl ?_
  refine W_seq ?_
  refine W_region ?_
  refine L_box (v := .agg #[.int .i64 r_.kind, v0_1, v0_2, .int .i64 r_.bound, v0_4]) (cs := #[.int .i64 r_.kind, v0_1, v0_2, .int .i64 r_.bound, v0_4]) rfl rfl rfl hst ?_
  intro g3 w4 hst
  refine L_as (v := .bool false) rfl rfl ?_
  refine L_nil ?_
  refine W_seq ?_
  refine W_region ?_
  refine L_bs rfl parts0 (bs_23_0  ) hst ?_
  intro g8 w9 hst
  have hst := Star.mkRow (R := (OR.frz RP.int)) [] [] 0 hst rfl rfl rfl (by decide)
  refine L_as (v := (.slice (some ⟨g8, 0, none⟩) 0 0)) rfl rfl ?_
  refine L_nil ?_
  refine W_seq ?_
  refine W_seq ?_
  refine W_region ?_
  refine L_as (v := .int .i64 0) rfl rfl ?_
  refine L_nil ?_
  have hlen14 : List.length r_.vars ≤ 9223372036854775807 := len_le (slice_len h0_1)
  obtain ⟨j14, hL14, hF⟩ := bind_some hF
  obtain ⟨R14, hR14⟩ : ∃ RR_ : Fr → World → Prop, RR_ = fun f w_ => ∃ list_12 : List Int, ∃ v12_list : Value, j14 = .nx list_12 ∧ f 2 = .pointer (some ⟨g3, 0, none⟩) ∧ f 5 = v12_list ∧ Star H w_ ([own (OR.ownS 3 (OR.frz RP.int)) [v12_list] list_12, box g3 36 #[.int .i64 r_.kind, v0_1, v0_2, .int .i64 r_.bound, v0_4]]) := ⟨_, rfl⟩
  refine W_join R14 ?_ ?_
  ·
    refine W_block ?_
    obtain ⟨I14, hI14⟩ : ∃ I : Nat → Fr → World → Prop, I = fun n f w_ => ∃ i_11 : Nat, ∃ suf14 : List Int, ∃ list_12 : List Int, ∃ v12_list : Value, n = suf14.length ∧ List.drop i_11 r_.vars = suf14 ∧ i_11 + suf14.length = r_.vars.length ∧ rangeL (s_l6Holds_b1 cells) suf14 i_11 list_12 = some j14 ∧ f 1 = v1 ∧ f 2 = .pointer (some ⟨g3, 0, none⟩) ∧ f 5 = v12_list ∧ f 6 = .int .i64 (i_11 : Int) ∧ Star H w_ ([own (OR.ownS 3 (OR.frz RP.int)) [v12_list] list_12, box g3 36 #[.int .i64 r_.kind, v0_1, v0_2, .int .i64 r_.bound, v0_4]]) := ⟨_, rfl⟩
    refine W_loop I14 (n := r_.vars.length) ?_ ?_
    · rw [hI14]; exact ⟨0, r_.vars, [], (.slice (some ⟨g8, 0, none⟩) 0 0), rfl, rfl, Nat.zero_add _, hL14, rfl, rfl, rfl, rfl, hst⟩
    ·
      clear hst
      intro n14 f w_ hI
      rw [hI14] at hI
      obtain ⟨i_11, suf14, list_12, v12_list, rfl, hd14, hl14, hL14, sf1, sf2, sf5, sf6, hst⟩ := hI
      refine W_seq ?_
      refine W_seq ?_
      refine W_region ?_
      refine L_mv (v := .int .i64 (i_11 : Int)) rfl sf6 ?_
      refine L_fa (o' := 1) rfl fa_36_1 sf2 rfl ?_
      refine L_ld (v := v0_1) rfl Try.isAgg23 rfl (At.cell0 (Blk.at (Star.blkAt 1 hst rfl)) (j := 1) rfl) ?_
      refine L_len (v := v0_1) (n := List.length r_.vars) rfl Try.underlying23 rfl (slice_len h0_1) ?_
      refine L_lss (m := (i_11 : Int)) (n := (r_.vars.length : Int)) rfl rfl rfl ?_
      refine L_nil ?_
      refine W_cond (b := decide ((i_11 : Int) < (r_.vars.length : Int))) rfl (fun hc15 => ?_) (fun hc15 => ?_)
      ·
        have hlt14 := of_decide_eq_true hc15
        cases suf14 with
        | nil => exact absurd hlt14 (by simp at hl14; omega)
        | cons x_14 rest14 =>
          obtain ⟨o14, hB14, hL14⟩ := range_cons hL14
          rw [s_l6Holds_b1] at hB14
          have hix14 := drop_idx hd14
          refine W_skip ?_
          refine W_seq ?_
          refine W_block ?_
          obtain ⟨x20, hx20, hB14⟩ := bind_some hB14
          obtain ⟨x28, hx28, hB14⟩ := bind_some hB14
          refine W_region ?_
          refine L_mv (v := v12_list) rfl sf5 ?_
          refine L_mv (v := v1) rfl sf1 ?_
          refine L_fa (o' := 1) rfl fa_36_1 sf2 rfl ?_
          refine L_ld (v := v0_1) rfl Try.isAgg23 rfl (At.cell0 (Blk.at (Star.blkAt 1 hst rfl)) (j := 1) rfl) ?_
          refine L_mv (v := .int .i64 (i_11 : Int)) rfl sf6 ?_
          refine L_ix (r := RP.int) rfl Try.underlying23 Try.sizeOf3 rfl h0_1 rfl hix14 ?_
          intro g32 o33 cs_g32 hrk_hat34 hat34
          obtain rfl : _ = [_] := hrk_hat34
          refine L_ld (v := .int .i64 x_14) rfl Try.isAgg3 rfl (At.cell (AtH.at hat34 hst.sub) (j := 0) rfl) ?_
          refine L_ix (r := RP.int) rfl Try.underlying23 Try.sizeOf3 rfl h1 rfl hx20 ?_
          intro g36 o37 cs_g36 hrk_hat38 hat38
          obtain rfl : _ = [_] := hrk_hat38
          refine L_ld (v := .int .i64 x20) rfl Try.isAgg3 rfl (At.cell (AtH.at hat38 hst.sub) (j := 0) rfl) ?_
          refine L_bs rfl (parts1 rfl) (bs_23_1_0 (.int .i64 x20) rfl) hst ?_
          intro g40 w41 hst
          have hst := Star.addF (r := RP.int) (cs := [.int .i64 x20]) (x := x20) hst rfl
          have hst := Star.mkRow (R := (OR.frz RP.int)) [([.int .i64 x20], x20)] [x20] 1 hst rfl rfl rfl (by decide)
          have hst := Star.get 1 hst rfl
          refine L_appM (v := v12_list) (u := (.slice (some ⟨g40, 0, none⟩) 1 1)) rfl et_23 rfl rfl hst hx28 ?_
          intro v43 w44 hst
          refine L_as (v := v43) rfl rfl ?_
          refine L_nil ?_
          refine W_region ?_
          refine L_mv (v := .int .i64 (i_11 : Int)) rfl sf6 ?_
          refine L_add (m := (i_11 : Int)) (n := 1) rfl rfl rfl ?_
          refine L_as (v := .int .i64 (i64 ((i_11 : Int) + 1))) rfl rfl ?_
          refine L_nil ?_
          obtain rfl := so hB14
          show ∃ m, m < _ ∧ I14 m _ _
          refine ⟨rest14.length, by simp, ?_⟩
          rw [hI14]
          exact ⟨i_11 + 1, rest14, x28, v43, rfl, drop_next hd14, by simp at hl14; omega, hL14, sf1, sf2, rfl, (Eq.trans rfl (congrArg (Value.int .i64) (i64_succ (n := r_.vars.length) (by simp at hl14; omega) hlen14))), hst⟩
      ·
        cases suf14 with
        | cons _ _ => exact absurd (of_decide_eq_false hc15) (by simp at hl14; omega)
        | nil =>
          obtain rfl := range_nil hL14
          refine W_exit ?_
          show R14 _ _
          rw [hR14]
          exact ⟨list_12, v12_list, rfl, sf2, sf5, hst⟩
  ·
    clear hst
    intro f w_ hR
    rw [hR14] at hR
    obtain ⟨list_12, v12_list, rfl, sf2, sf5, hst⟩ := hR
    clear hR14
    refine W_seq ?_
    refine W_seq ?_
    refine W_region ?_
    refine L_fa (o' := 0) rfl fa_36_0 sf2 rfl ?_
    refine L_ld (v := .int .i64 r_.kind) rfl Try.isAgg3 rfl (At.cell0 (Blk.at (Star.blkAt 1 hst rfl)) (j := 0) rfl) ?_
    refine L_nil ?_
    refine W_block ?_
    refine W_seq ?_
    refine W_region ?_
    refine L_eql (m := r_.kind) (n := 1) rfl rfl rfl ?_
    refine L_as (v := .bool (r_.kind == 1)) rfl rfl ?_
    refine L_nil ?_
    refine W_cond (b := (r_.kind == 1)) rfl (fun hc46 => ?_) (fun hc46 => ?_)
    ·
      have hF := (ite_t hc46).symm.trans hF
      refine W_seq ?_
      refine W_region ?_
      refine L_as (v := .int .i64 0) rfl rfl ?_
      refine L_nil ?_
      refine W_seq ?_
      refine W_seq ?_
      refine W_region ?_
      refine L_as (v := .int .i64 0) rfl rfl ?_
      refine L_nil ?_
      have hlen51 : List.length list_12 ≤ 9223372036854775807 := len_le (Star.len 0 hst rfl)
      obtain ⟨j51, hL51, hF⟩ := bind_some hF
      obtain ⟨R51, hR51⟩ : ∃ RR_ : Fr → World → Prop, RR_ = fun f w_ => ∃ n_48 : Int, ∃ H49 : FH, j51 = .nx n_48 ∧ Le H H49 ∧ f 2 = .pointer (some ⟨g3, 0, none⟩) ∧ f 7 = .int .i64 n_48 ∧ Star H49 w_ ([box g3 36 #[.int .i64 r_.kind, v0_1, v0_2, .int .i64 r_.bound, v0_4]]) := ⟨_, rfl⟩
      refine W_join R51 ?_ ?_
      ·
        refine W_block ?_
        obtain ⟨I51, hI51⟩ : ∃ I : Nat → Fr → World → Prop, I = fun n f w_ => ∃ i_47 : Nat, ∃ suf51 : List Int, ∃ n_48 : Int, ∃ H49 : FH, n = suf51.length ∧ List.drop i_47 list_12 = suf51 ∧ i_47 + suf51.length = list_12.length ∧ rangeL (s_l6Holds_b2 r_) suf51 i_47 n_48 = some j51 ∧ Le H H49 ∧ f 2 = .pointer (some ⟨g3, 0, none⟩) ∧ f 5 = v12_list ∧ f 7 = .int .i64 n_48 ∧ f 8 = .int .i64 (i_47 : Int) ∧ Star H49 w_ ([own (OR.ownS 3 (OR.frz RP.int)) [v12_list] list_12, box g3 36 #[.int .i64 r_.kind, v0_1, v0_2, .int .i64 r_.bound, v0_4]]) := ⟨_, rfl⟩
        refine W_loop I51 (n := list_12.length) ?_ ?_
        · rw [hI51]; exact ⟨0, list_12, 0, H, rfl, rfl, Nat.zero_add _, hL51, (Le.refl _), sf2, sf5, rfl, rfl, hst⟩
        ·
          clear hst
          intro n51 f w_ hI
          rw [hI51] at hI
          obtain ⟨i_47, suf51, n_48, H49, rfl, hd51, hl51, hL51, hle50, sf2, sf5, sf7, sf8, hst⟩ := hI
          refine W_seq ?_
          refine W_seq ?_
          refine W_region ?_
          refine L_mv (v := .int .i64 (i_47 : Int)) rfl sf8 ?_
          refine L_mv (v := v12_list) rfl sf5 ?_
          refine L_len (v := v12_list) (n := List.length list_12) rfl Try.underlying23 rfl (Star.len 0 hst rfl) ?_
          refine L_lss (m := (i_47 : Int)) (n := (list_12.length : Int)) rfl rfl rfl ?_
          refine L_nil ?_
          refine W_cond (b := decide ((i_47 : Int) < (list_12.length : Int))) rfl (fun hc52 => ?_) (fun hc52 => ?_)
          ·
            have hlt51 := of_decide_eq_true hc52
            cases suf51 with
            | nil => exact absurd hlt51 (by simp at hl51; omega)
            | cons x_51 rest51 =>
              obtain ⟨o51, hB51, hL51⟩ := range_cons hL51
              rw [s_l6Holds_b2] at hB51
              have hix51 := drop_idx hd51
              refine W_skip ?_
              refine W_seq ?_
              refine W_block ?_
              obtain ⟨x53, hx53, hB51⟩ := bind_some hB51
              obtain ⟨g67, cap_g67, hv68, _, _⟩ := Star.row 0 hst rfl hix51
              refine W_drawS 11 [isV (.int .i64 n_48), isV (.pointer (some ⟨g3, 2, none⟩)), isV (v0_2), isV (.int .i64 (i_47 : Int)), isEl RP.int x53 0, isV (.int .i64 x53), isV (v12_list), isV (.int .i64 (i_47 : Int)), isV (.pointer (some ⟨g67, Int.toNat (i_47 : Int) * 1, none⟩)), isV (.int .i64 x_51), isV (.int .i64 (i64 (x53 * x_51)))] [own (OR.ownS 3 (OR.frz RP.int)) [v12_list] list_12, box g3 36 #[.int .i64 r_.kind, v0_1, v0_2, .int .i64 r_.bound, v0_4]] [] ([]) [([], []), ([], []), ([], []), ([], []), ([], []), ([], []), ([], []), ([], []), ([], []), ([], []), ([], [])] (S := []) Try_mix (by kernel_rfl) rfl (by kernel_rfl) (amF_cons (mono_V _) (amF_cons (mono_V _) (amF_cons (mono_V _) (amF_cons (mono_V _) (amF_cons (mono_el _ _ _) (amF_cons (mono_V _) (amF_cons (mono_V _) (amF_cons (mono_V _) (amF_cons (mono_V _) (amF_cons (mono_V _) (amF_cons (mono_V _) amF_nil))))))))))) hst ?_ (fun f w_ H62 hS62 hE62 hT62 hst => ?_)
              ·
                refine opsS_cons ?_ ?_
                ·
                  intro f w_ H62 X62 hS62 hE62 hP62 hst
                  refine L_mv (v := .int .i64 n_48) rfl ((hS62 7 rfl).trans sf7) ?_
                  exact L_nil ⟨rfl, _, _, _, rfl, rfl, Le.refl _, rfl, hst⟩
                refine opsS_cons ?_ ?_
                ·
                  intro f w_ H62 X62 hS62 hE62 hP62 hst
                  refine L_fa (o' := 2) rfl fa_36_2 ((hS62 2 rfl).trans sf2) rfl ?_
                  exact L_nil ⟨rfl, _, _, _, rfl, rfl, Le.refl _, rfl, hst⟩
                refine opsS_cons ?_ ?_
                ·
                  intro f w_ H62 X62 hS62 hE62 hP62 hst
                  refine L_ld (v := v0_2) rfl Try.isAgg23 (hP62 1 42 rfl rfl) (At.cell0 (Blk.at (Star.blkAt 1 hst rfl)) (j := 2) rfl) ?_
                  exact L_nil ⟨rfl, _, _, _, rfl, rfl, Le.refl _, rfl, hst⟩
                refine opsS_cons ?_ ?_
                ·
                  intro f w_ H62 X62 hS62 hE62 hP62 hst
                  refine L_mv (v := .int .i64 (i_47 : Int)) rfl ((hS62 8 rfl).trans sf8) ?_
                  exact L_nil ⟨rfl, _, _, _, rfl, rfl, Le.refl _, rfl, hst⟩
                refine opsS_cons ?_ ?_
                ·
                  intro f w_ H62 X62 hS62 hE62 hP62 hst
                  refine L_ix (r := RP.int) rfl Try.underlying23 Try.sizeOf3 (hP62 2 43 rfl rfl) (RP.mono _ h0_2 (Le.trans hle50 hE62)) (hP62 3 44 rfl rfl) hx53 ?_
                  intro g71 o72 cs_g71 hrk_hat73 hat73
                  obtain rfl : _ = [_] := hrk_hat73
                  exact L_nil ⟨rfl, _, _, _, rfl, rfl, Le.refl _, ⟨_, _, _, rfl, rfl, hat73⟩, hst⟩
                refine opsS_cons ?_ ?_
                ·
                  intro f w_ H62 X62 hS62 hE62 hP62 hst
                  obtain ⟨g75, o75, cs75, hv75, hrk_hat75, hat75⟩ := (hP62 4 45 rfl rfl)
                  obtain rfl : _ = [_] := hrk_hat75
                  refine L_ld (v := .int .i64 x53) rfl Try.isAgg3 hv75 (At.cell (AtH.at hat75 hst.sub) (j := 0) rfl) ?_
                  exact L_nil ⟨rfl, _, _, _, rfl, rfl, Le.refl _, rfl, hst⟩
                refine opsS_cons ?_ ?_
                ·
                  intro f w_ H62 X62 hS62 hE62 hP62 hst
                  refine L_mv (v := v12_list) rfl ((hS62 5 rfl).trans sf5) ?_
                  exact L_nil ⟨rfl, _, _, _, rfl, rfl, Le.refl _, rfl, hst⟩
                refine opsS_cons ?_ ?_
                ·
                  intro f w_ H62 X62 hS62 hE62 hP62 hst
                  refine L_mv (v := .int .i64 (i_47 : Int)) rfl ((hS62 8 rfl).trans sf8) ?_
                  exact L_nil ⟨rfl, _, _, _, rfl, rfl, Le.refl _, rfl, hst⟩
                refine opsS_cons ?_ ?_
                ·
                  intro f w_ H62 X62 hS62 hE62 hP62 hst
                  refine L_ixO (R := (OR.frz RP.int)) (tb := 0) 0 rfl Try.underlying23 Try.sizeOf3 (hP62 6 47 rfl rfl) hv68 (by first | rfl | simp) (hP62 7 48 rfl rfl) hix51 ?_
                  exact L_nil ⟨rfl, _, _, _, rfl, rfl, Le.refl _, rfl, hst⟩
                refine opsS_cons ?_ ?_
                ·
                  intro f w_ H62 X62 hS62 hE62 hP62 hst
                  obtain ⟨cs77, hr77, hat77⟩ := Star.eltF 0 hst rfl hv68 hix51
                  obtain rfl : _ = [_] := hr77
                  refine L_ld (v := .int .i64 x_51) rfl Try.isAgg3 (hP62 8 49 rfl rfl) (At.cell hat77 (j := 0) rfl) ?_
                  exact L_nil ⟨rfl, _, _, _, rfl, rfl, Le.refl _, rfl, hst⟩
                refine opsS_cons ?_ ?_
                ·
                  intro f w_ H62 X62 hS62 hE62 hP62 hst
                  refine L_mul (m := x53) (n := x_51) rfl (hP62 5 46 rfl rfl) (hP62 9 50 rfl rfl) ?_
                  exact L_nil ⟨rfl, _, _, _, rfl, rfl, Le.refl _, rfl, hst⟩
                exact opsS_nil
              ·
                refine L_add (m := n_48) (n := i64 (x53 * x_51)) rfl (hT62 0 41 rfl rfl) (hT62 10 51 rfl rfl) ?_
                refine L_as (v := .int .i64 (i64 (n_48 + (i64 (x53 * x_51))))) rfl rfl ?_
                refine L_nil ?_
                refine W_region ?_
                refine L_mv (v := .int .i64 (i_47 : Int)) rfl ((hS62 8 rfl).trans sf8) ?_
                refine L_add (m := (i_47 : Int)) (n := 1) rfl rfl rfl ?_
                refine L_as (v := .int .i64 (i64 ((i_47 : Int) + 1))) rfl rfl ?_
                refine L_nil ?_
                obtain rfl := so hB51
                show ∃ m, m < _ ∧ I51 m _ _
                refine ⟨rest51.length, by simp, ?_⟩
                rw [hI51]
                exact ⟨i_47 + 1, rest51, i64 (n_48 + (i64 (x53 * x_51))), H62, rfl, drop_next hd51, by simp at hl51; omega, hL51, (Le.trans hle50 hE62), ((hS62 2 rfl).trans sf2), ((hS62 5 rfl).trans sf5), rfl, (Eq.trans rfl (congrArg (Value.int .i64) (i64_succ (n := list_12.length) (by simp at hl51; omega) hlen51))), hst⟩
          ·
            cases suf51 with
            | cons _ _ => exact absurd (of_decide_eq_false hc52) (by simp at hl51; omega)
            | nil =>
              obtain rfl := range_nil hL51
              refine W_exit ?_
              have hst := Star.get 1 hst rfl
              show R51 _ _
              rw [hR51]
              exact ⟨n_48, H49, rfl, hle50, sf2, sf7, (Star.keepN 1 hst)⟩
      ·
        clear hst
        intro f w_ hR
        rw [hR51] at hR
        obtain ⟨n_48, H49, rfl, hle50, sf2, sf7, hst⟩ := hR
        clear hR51
        refine W_seq ?_
        refine W_region ?_
        refine L_mv (v := .int .i64 n_48) rfl sf7 ?_
        refine L_fa (o' := 3) rfl fa_36_3 sf2 rfl ?_
        refine L_ld (v := .int .i64 r_.bound) rfl Try.isAgg3 rfl (At.cell0 (Blk.at (Star.blkAt 0 hst rfl)) (j := 3) rfl) ?_
        refine L_geq (m := n_48) (n := r_.bound) rfl rfl rfl ?_
        refine L_as (v := .bool (decide (n_48 ≥ r_.bound))) rfl rfl ?_
        refine L_nil ?_
        refine W_ret ?_
        refine retG1 (v1 := .bool (decide (n_48 ≥ r_.bound))) Try.results57 rfl ?_
        obtain rfl := so hF
        exact ⟨rfl, (Star.down (Star.keepN 0 hst) hle50 closedL_nil)⟩
    ·
      have hF := (ite_f hc46).symm.trans hF
      refine W_seq ?_
      refine W_region ?_
      refine L_eql (m := r_.kind) (n := 2) rfl rfl rfl ?_
      refine L_as (v := .bool (r_.kind == 2)) rfl rfl ?_
      refine L_nil ?_
      refine W_cond (b := (r_.kind == 2)) rfl (fun hc79 => ?_) (fun hc79 => ?_)
      ·
        have hF := (ite_t hc79).symm.trans hF
        refine W_seq ?_
        refine W_seq ?_
        refine W_region ?_
        refine L_as (v := .int .i64 0) rfl rfl ?_
        refine L_nil ?_
        have hlen83 : List.length list_12 ≤ 9223372036854775807 := len_le (Star.len 0 hst rfl)
        obtain ⟨j83, hL83, hF⟩ := bind_some hF
        obtain ⟨R83, hR83⟩ : ∃ RR_ : Fr → World → Prop, RR_ = fun f w_ => ∃ H81 : FH, j83 = .nx () ∧ Le H H81 ∧ Star H81 w_ ([]) := ⟨_, rfl⟩
        refine W_join R83 ?_ ?_
        ·
          refine W_block ?_
          obtain ⟨I83, hI83⟩ : ∃ I : Nat → Fr → World → Prop, I = fun n f w_ => ∃ i_80 : Nat, ∃ suf83 : List Int, ∃ H81 : FH, n = suf83.length ∧ List.drop i_80 list_12 = suf83 ∧ i_80 + suf83.length = list_12.length ∧ rangeL (s_l6Holds_b3 list_12) suf83 i_80 () = some j83 ∧ Le H H81 ∧ f 5 = v12_list ∧ f 9 = .int .i64 (i_80 : Int) ∧ Star H81 w_ ([own (OR.ownS 3 (OR.frz RP.int)) [v12_list] list_12]) := ⟨_, rfl⟩
          refine W_loop I83 (n := list_12.length) ?_ ?_
          · rw [hI83]; exact ⟨0, list_12, H, rfl, rfl, Nat.zero_add _, hL83, (Le.refl _), sf5, rfl, (Star.keepN 1 hst)⟩
          ·
            clear hst
            intro n83 f w_ hI
            rw [hI83] at hI
            obtain ⟨i_80, suf83, H81, rfl, hd83, hl83, hL83, hle82, sf5, sf9, hst⟩ := hI
            refine W_seq ?_
            refine W_seq ?_
            refine W_region ?_
            refine L_mv (v := .int .i64 (i_80 : Int)) rfl sf9 ?_
            refine L_mv (v := v12_list) rfl sf5 ?_
            refine L_len (v := v12_list) (n := List.length list_12) rfl Try.underlying23 rfl (Star.len 0 hst rfl) ?_
            refine L_lss (m := (i_80 : Int)) (n := (list_12.length : Int)) rfl rfl rfl ?_
            refine L_nil ?_
            refine W_cond (b := decide ((i_80 : Int) < (list_12.length : Int))) rfl (fun hc84 => ?_) (fun hc84 => ?_)
            ·
              have hlt83 := of_decide_eq_true hc84
              cases suf83 with
              | nil => exact absurd hlt83 (by simp at hl83; omega)
              | cons x_83 rest83 =>
                obtain ⟨o83, hB83, hL83⟩ := range_cons hL83
                rw [s_l6Holds_b3] at hB83
                have hix83 := drop_idx hd83
                refine W_skip ?_
                refine W_seq ?_
                refine W_block ?_
                refine W_seq ?_
                refine W_region ?_
                refine L_as (v := .int .i64 0) rfl rfl ?_
                refine L_nil ?_
                obtain ⟨k89, hk89, hB83⟩ := bind_some hB83
                obtain ⟨j88, hL88, hB83⟩ := bind_some hB83
                obtain ⟨R88, hR88⟩ : ∃ RR_ : Fr → World → Prop, RR_ = fun f w_ => ∃ H86 : FH, j88 = .nx () ∧ Le H81 H86 ∧ f 5 = v12_list ∧ f 9 = .int .i64 (i_80 : Int) ∧ Star H86 w_ ([own (OR.ownS 3 (OR.frz RP.int)) [v12_list] list_12]) := ⟨_, rfl⟩
                refine W_join R88 ?_ ?_
                ·
                  refine W_block ?_
                  obtain ⟨I88, hI88⟩ : ∃ I : Nat → Fr → World → Prop, I = fun n f w_ => ∃ i_85 : Nat, ∃ suf88 : Nat, ∃ H86 : FH, suf88 = n ∧ 0 ≤ i_85 ∧ i_85 + suf88 = 0 + k89 ∧ countL (s_l6Holds_b4 list_12 x_83) suf88 i_85 () = some j88 ∧ Le H81 H86 ∧ f 5 = v12_list ∧ f 9 = .int .i64 (i_80 : Int) ∧ f 10 = .int .i64 (i_85 : Int) ∧ Star H86 w_ ([own (OR.ownS 3 (OR.frz RP.int)) [v12_list] list_12]) := ⟨_, rfl⟩
                  refine W_loop I88 (n := k89) ?_ ?_
                  · rw [hI88]; exact ⟨0, k89, H81, rfl, Nat.le_refl _, rfl, hL88, (Le.refl _), sf5, sf9, rfl, hst⟩
                  ·
                    clear hst
                    intro n88 f w_ hI
                    rw [hI88] at hI
                    obtain ⟨i_85, suf88, H86, rfl, hs88, hl88, hL88, hle87, sf5, sf9, sf10, hst⟩ := hI
                    refine W_seq ?_
                    refine W_seq ?_
                    refine W_region ?_
                    refine L_mv (v := .int .i64 (i_85 : Int)) rfl sf10 ?_
                    refine L_mv (v := .int .i64 (i_80 : Int)) rfl sf9 ?_
                    refine L_lss (m := (i_85 : Int)) (n := (i_80 : Int)) rfl rfl rfl ?_
                    refine L_nil ?_
                    refine W_cond (b := decide ((i_85 : Int) < (i_80 : Int))) rfl (fun hc90 => ?_) (fun hc90 => ?_)
                    ·
                      have hlt88 := of_decide_eq_true hc90
                      cases suf88 with
                      | zero => exact absurd hlt88 (cntF_no hl88 hk89)
                      | succ rest88 =>
                        obtain ⟨o88, hB88, hL88⟩ := count_succ hL88
                        rw [s_l6Holds_b4] at hB88
                        refine W_skip ?_
                        refine W_seq ?_
                        refine W_block ?_
                        refine W_seq ?_
                        obtain ⟨x91, hx91, hB88⟩ := bind_some hB88
                        obtain ⟨g99, cap_g99, hv100, _, _⟩ := Star.row 0 hst rfl hx91
                        refine W_drawS 8 [isV (v12_list), isV (.int .i64 (i_85 : Int)), isV (.pointer (some ⟨g99, Int.toNat (i_85 : Int) * 1, none⟩)), isV (.int .i64 x91), isV (v12_list), isV (.int .i64 (i_80 : Int)), isV (.pointer (some ⟨g99, Int.toNat (i_80 : Int) * 1, none⟩)), isV (.int .i64 x_83)] [own (OR.ownS 3 (OR.frz RP.int)) [v12_list] list_12] [] ([]) [([], []), ([], []), ([], []), ([], []), ([], []), ([], []), ([], []), ([], [])] (S := []) Try_mix (by kernel_rfl) rfl (by kernel_rfl) (amF_cons (mono_V _) (amF_cons (mono_V _) (amF_cons (mono_V _) (amF_cons (mono_V _) (amF_cons (mono_V _) (amF_cons (mono_V _) (amF_cons (mono_V _) (amF_cons (mono_V _) amF_nil)))))))) hst ?_ (fun f w_ H98 hS98 hE98 hT98 hst => ?_)
                        ·
                          refine opsS_cons ?_ ?_
                          ·
                            intro f w_ H98 X98 hS98 hE98 hP98 hst
                            refine L_mv (v := v12_list) rfl ((hS98 5 rfl).trans sf5) ?_
                            exact L_nil ⟨rfl, _, _, _, rfl, rfl, Le.refl _, rfl, hst⟩
                          refine opsS_cons ?_ ?_
                          ·
                            intro f w_ H98 X98 hS98 hE98 hP98 hst
                            refine L_mv (v := .int .i64 (i_85 : Int)) rfl ((hS98 10 rfl).trans sf10) ?_
                            exact L_nil ⟨rfl, _, _, _, rfl, rfl, Le.refl _, rfl, hst⟩
                          refine opsS_cons ?_ ?_
                          ·
                            intro f w_ H98 X98 hS98 hE98 hP98 hst
                            refine L_ixO (R := (OR.frz RP.int)) (tb := 0) 0 rfl Try.underlying23 Try.sizeOf3 (hP98 0 70 rfl rfl) hv100 (by first | rfl | simp) (hP98 1 71 rfl rfl) hx91 ?_
                            exact L_nil ⟨rfl, _, _, _, rfl, rfl, Le.refl _, rfl, hst⟩
                          refine opsS_cons ?_ ?_
                          ·
                            intro f w_ H98 X98 hS98 hE98 hP98 hst
                            obtain ⟨cs105, hr105, hat105⟩ := Star.eltF 0 hst rfl hv100 hx91
                            obtain rfl : _ = [_] := hr105
                            refine L_ld (v := .int .i64 x91) rfl Try.isAgg3 (hP98 2 72 rfl rfl) (At.cell hat105 (j := 0) rfl) ?_
                            exact L_nil ⟨rfl, _, _, _, rfl, rfl, Le.refl _, rfl, hst⟩
                          refine opsS_cons ?_ ?_
                          ·
                            intro f w_ H98 X98 hS98 hE98 hP98 hst
                            refine L_mv (v := v12_list) rfl ((hS98 5 rfl).trans sf5) ?_
                            exact L_nil ⟨rfl, _, _, _, rfl, rfl, Le.refl _, rfl, hst⟩
                          refine opsS_cons ?_ ?_
                          ·
                            intro f w_ H98 X98 hS98 hE98 hP98 hst
                            refine L_mv (v := .int .i64 (i_80 : Int)) rfl ((hS98 9 rfl).trans sf9) ?_
                            exact L_nil ⟨rfl, _, _, _, rfl, rfl, Le.refl _, rfl, hst⟩
                          refine opsS_cons ?_ ?_
                          ·
                            intro f w_ H98 X98 hS98 hE98 hP98 hst
                            refine L_ixO (R := (OR.frz RP.int)) (tb := 0) 0 rfl Try.underlying23 Try.sizeOf3 (hP98 4 74 rfl rfl) hv100 (by first | rfl | simp) (hP98 5 75 rfl rfl) hix83 ?_
                            exact L_nil ⟨rfl, _, _, _, rfl, rfl, Le.refl _, rfl, hst⟩
                          refine opsS_cons ?_ ?_
                          ·
                            intro f w_ H98 X98 hS98 hE98 hP98 hst
                            obtain ⟨cs107, hr107, hat107⟩ := Star.eltF 0 hst rfl hv100 hix83
                            obtain rfl : _ = [_] := hr107
                            refine L_ld (v := .int .i64 x_83) rfl Try.isAgg3 (hP98 6 76 rfl rfl) (At.cell hat107 (j := 0) rfl) ?_
                            exact L_nil ⟨rfl, _, _, _, rfl, rfl, Le.refl _, rfl, hst⟩
                          exact opsS_nil
                        ·
                          refine L_eql (m := x91) (n := x_83) rfl (hT98 3 73 rfl rfl) (hT98 7 77 rfl rfl) ?_
                          refine L_nil ?_
                          refine W_cond (b := (x91 == x_83)) rfl (fun hc109 => ?_) (fun hc109 => ?_)
                          ·
                            have hB88 := (ite_t hc109).symm.trans hB88
                            refine W_seq ?_
                            refine W_region ?_
                            refine L_as (v := .bool false) rfl rfl ?_
                            refine L_nil ?_
                            refine W_ret ?_
                            refine retG1 (v1 := .bool false) Try.results57 rfl ?_
                            obtain rfl := so hB88
                            obtain rfl := so hL88
                            obtain rfl := so hB83
                            obtain rfl := so hL83
                            obtain rfl := so hF
                            exact ⟨rfl, (Star.down (Star.keepN 0 hst) (Le.trans (Le.trans hle82 hle87) hE98) closedL_nil)⟩
                          ·
                            have hB88 := (ite_f hc109).symm.trans hB88
                            refine W_skip ?_
                            refine W_region ?_
                            refine L_mv (v := .int .i64 (i_85 : Int)) rfl ((hS98 10 rfl).trans sf10) ?_
                            refine L_add (m := (i_85 : Int)) (n := 1) rfl rfl rfl ?_
                            refine L_as (v := .int .i64 (i64 ((i_85 : Int) + 1))) rfl rfl ?_
                            refine L_nil ?_
                            obtain rfl := so hB88
                            show ∃ m, m < _ ∧ I88 m _ _
                            refine ⟨rest88, Nat.lt_succ_self _, ?_⟩
                            rw [hI88]
                            exact ⟨i_85 + 1, rest88, H98, rfl, by omega, by omega, hL88, (Le.trans hle87 hE98), ((hS98 5 rfl).trans sf5), ((hS98 9 rfl).trans sf9), (Eq.trans rfl (congrArg (Value.int .i64) (i64_succ (n := 0 + k89) (by omega) (cntF_le hk89)))), hst⟩
                    ·
                      cases suf88 with
                      | succ _ => exact absurd (cntF_yes hs88 hl88 hk89) (of_decide_eq_false hc90)
                      | zero =>
                        obtain rfl := count_zero hL88
                        refine W_exit ?_
                        show R88 _ _
                        rw [hR88]
                        exact ⟨H86, rfl, hle87, sf5, sf9, hst⟩
                ·
                  clear hst
                  intro f w_ hR
                  rw [hR88] at hR
                  obtain ⟨H86, rfl, hle87, sf5, sf9, hst⟩ := hR
                  clear hR88
                  refine W_region ?_
                  refine L_mv (v := .int .i64 (i_80 : Int)) rfl sf9 ?_
                  refine L_add (m := (i_80 : Int)) (n := 1) rfl rfl rfl ?_
                  refine L_as (v := .int .i64 (i64 ((i_80 : Int) + 1))) rfl rfl ?_
                  refine L_nil ?_
                  obtain rfl := so hB83
                  show ∃ m, m < _ ∧ I83 m _ _
                  refine ⟨rest83.length, by simp, ?_⟩
                  rw [hI83]
                  exact ⟨i_80 + 1, rest83, H86, rfl, drop_next hd83, by simp at hl83; omega, hL83, (Le.trans hle82 hle87), sf5, (Eq.trans rfl (congrArg (Value.int .i64) (i64_succ (n := list_12.length) (by simp at hl83; omega) hlen83))), hst⟩
            ·
              cases suf83 with
              | cons _ _ => exact absurd (of_decide_eq_false hc84) (by simp at hl83; omega)
              | nil =>
                obtain rfl := range_nil hL83
                refine W_exit ?_
                show R83 _ _
                rw [hR83]
                exact ⟨H81, rfl, hle82, (Star.keepN 0 hst)⟩
        ·
          clear hst
          intro f w_ hR
          rw [hR83] at hR
          obtain ⟨H81, rfl, hle82, hst⟩ := hR
          clear hR83
          refine W_seq ?_
          refine W_region ?_
          refine L_as (v := .bool true) rfl rfl ?_
          refine L_nil ?_
          refine W_ret ?_
          refine retG1 (v1 := .bool true) Try.results57 rfl ?_
          obtain rfl := so hF
          exact ⟨rfl, (Star.down hst hle82 closedL_nil)⟩
      ·
        have hF := (ite_f hc79).symm.trans hF
        refine W_seq ?_
        refine W_region ?_
        refine L_eql (m := r_.kind) (n := 4) rfl rfl rfl ?_
        refine L_as (v := .bool (r_.kind == 4)) rfl rfl ?_
        refine L_nil ?_
        refine W_cond (b := (r_.kind == 4)) rfl (fun hc110 => ?_) (fun hc110 => ?_)
        ·
          have hF := (ite_t hc110).symm.trans hF
          refine W_seq ?_
          obtain ⟨x111, hx111, hF⟩ := bind_some hF
          obtain ⟨x116, hx116, hF⟩ := bind_some hF
          have hst := Star.drop 1 hst rfl
          obtain ⟨g120, cap_g120, hv121, _, _⟩ := Star.row 0 hst rfl hx111
          refine W_drawS 6 [isV (v12_list), isV (.pointer (some ⟨g120, Int.toNat 0 * 1, none⟩)), isV (.int .i64 x111), isV (v12_list), isV (.pointer (some ⟨g120, Int.toNat 1 * 1, none⟩)), isV (.int .i64 x116)] [own (OR.ownS 3 (OR.frz RP.int)) [v12_list] list_12] [] ([]) [([], []), ([], []), ([], []), ([], []), ([], []), ([], [])] (S := []) Try_mix (by kernel_rfl) rfl (by kernel_rfl) (amF_cons (mono_V _) (amF_cons (mono_V _) (amF_cons (mono_V _) (amF_cons (mono_V _) (amF_cons (mono_V _) (amF_cons (mono_V _) amF_nil)))))) hst ?_ (fun f w_ H119 hS119 hE119 hT119 hst => ?_)
          ·
            refine opsS_cons ?_ ?_
            ·
              intro f w_ H119 X119 hS119 hE119 hP119 hst
              refine L_mv (v := v12_list) rfl ((hS119 5 rfl).trans sf5) ?_
              exact L_nil ⟨rfl, _, _, _, rfl, rfl, Le.refl _, rfl, hst⟩
            refine opsS_cons ?_ ?_
            ·
              intro f w_ H119 X119 hS119 hE119 hP119 hst
              refine L_ixO (R := (OR.frz RP.int)) (tb := 0) 0 rfl Try.underlying23 Try.sizeOf3 (hP119 0 81 rfl rfl) hv121 (by first | rfl | simp) rfl hx111 ?_
              exact L_nil ⟨rfl, _, _, _, rfl, rfl, Le.refl _, rfl, hst⟩
            refine opsS_cons ?_ ?_
            ·
              intro f w_ H119 X119 hS119 hE119 hP119 hst
              obtain ⟨cs126, hr126, hat126⟩ := Star.eltF 0 hst rfl hv121 hx111
              obtain rfl : _ = [_] := hr126
              refine L_ld (v := .int .i64 x111) rfl Try.isAgg3 (hP119 1 82 rfl rfl) (At.cell hat126 (j := 0) rfl) ?_
              exact L_nil ⟨rfl, _, _, _, rfl, rfl, Le.refl _, rfl, hst⟩
            refine opsS_cons ?_ ?_
            ·
              intro f w_ H119 X119 hS119 hE119 hP119 hst
              refine L_mv (v := v12_list) rfl ((hS119 5 rfl).trans sf5) ?_
              exact L_nil ⟨rfl, _, _, _, rfl, rfl, Le.refl _, rfl, hst⟩
            refine opsS_cons ?_ ?_
            ·
              intro f w_ H119 X119 hS119 hE119 hP119 hst
              refine L_ixO (R := (OR.frz RP.int)) (tb := 0) 0 rfl Try.underlying23 Try.sizeOf3 (hP119 3 84 rfl rfl) hv121 (by first | rfl | simp) rfl hx116 ?_
              exact L_nil ⟨rfl, _, _, _, rfl, rfl, Le.refl _, rfl, hst⟩
            refine opsS_cons ?_ ?_
            ·
              intro f w_ H119 X119 hS119 hE119 hP119 hst
              obtain ⟨cs128, hr128, hat128⟩ := Star.eltF 0 hst rfl hv121 hx116
              obtain rfl : _ = [_] := hr128
              refine L_ld (v := .int .i64 x116) rfl Try.isAgg3 (hP119 4 85 rfl rfl) (At.cell hat128 (j := 0) rfl) ?_
              exact L_nil ⟨rfl, _, _, _, rfl, rfl, Le.refl _, rfl, hst⟩
            exact opsS_nil
          ·
            refine L_lss (m := x111) (n := x116) rfl (hT119 2 83 rfl rfl) (hT119 5 86 rfl rfl) ?_
            refine L_as (v := .bool (decide (x111 < x116))) rfl rfl ?_
            refine L_nil ?_
            refine W_ret ?_
            refine retG1 (v1 := .bool (decide (x111 < x116))) Try.results57 rfl ?_
            obtain rfl := so hF
            exact ⟨rfl, (Star.down (Star.keepN 0 hst) hE119 closedL_nil)⟩
        ·
          have hF := (ite_f hc110).symm.trans hF
          refine W_skip ?_
          refine W_seq ?_
          refine W_seq ?_
          refine W_region ?_
          refine L_as (v := .int .i64 0) rfl rfl ?_
          refine L_nil ?_
          have hlen131 : List.length r_.rows ≤ 9223372036854775807 := len_le (slice_len h0_4)
          obtain ⟨j131, hL131, hF⟩ := bind_some hF
          obtain ⟨R131, hR131⟩ : ∃ RR_ : Fr → World → Prop, RR_ = fun f w_ => j131 = .nx () ∧ Star H w_ ([]) := ⟨_, rfl⟩
          refine W_join R131 ?_ ?_
          ·
            refine W_block ?_
            obtain ⟨I131, hI131⟩ : ∃ I : Nat → Fr → World → Prop, I = fun n f w_ => ∃ i_130 : Nat, ∃ suf131 : List (List Int), n = suf131.length ∧ List.drop i_130 r_.rows = suf131 ∧ i_130 + suf131.length = r_.rows.length ∧ rangeL (s_l6Holds_b5 list_12) suf131 i_130 () = some j131 ∧ f 2 = .pointer (some ⟨g3, 0, none⟩) ∧ f 5 = v12_list ∧ f 11 = .int .i64 (i_130 : Int) ∧ Star H w_ ([own (OR.ownS 3 (OR.frz RP.int)) [v12_list] list_12, box g3 36 #[.int .i64 r_.kind, v0_1, v0_2, .int .i64 r_.bound, v0_4]]) := ⟨_, rfl⟩
            refine W_loop I131 (n := r_.rows.length) ?_ ?_
            · rw [hI131]; exact ⟨0, r_.rows, rfl, rfl, Nat.zero_add _, hL131, sf2, sf5, rfl, hst⟩
            ·
              clear hst
              intro n131 f w_ hI
              rw [hI131] at hI
              obtain ⟨i_130, suf131, rfl, hd131, hl131, hL131, sf2, sf5, sf11, hst⟩ := hI
              refine W_seq ?_
              refine W_seq ?_
              refine W_region ?_
              refine L_mv (v := .int .i64 (i_130 : Int)) rfl sf11 ?_
              refine L_fa (o' := 4) rfl fa_36_4 sf2 rfl ?_
              refine L_ld (v := v0_4) rfl Try.isAgg34 rfl (At.cell0 (Blk.at (Star.blkAt 1 hst rfl)) (j := 4) rfl) ?_
              refine L_len (v := v0_4) (n := List.length r_.rows) rfl Try.underlying34 rfl (slice_len h0_4) ?_
              refine L_lss (m := (i_130 : Int)) (n := (r_.rows.length : Int)) rfl rfl rfl ?_
              refine L_nil ?_
              refine W_cond (b := decide ((i_130 : Int) < (r_.rows.length : Int))) rfl (fun hc132 => ?_) (fun hc132 => ?_)
              ·
                have hlt131 := of_decide_eq_true hc132
                cases suf131 with
                | nil => exact absurd hlt131 (by simp at hl131; omega)
                | cons x_131 rest131 =>
                  obtain ⟨o131, hB131, hL131⟩ := range_cons hL131
                  rw [s_l6Holds_b5] at hB131
                  have hix131 := drop_idx hd131
                  refine W_skip ?_
                  refine W_seq ?_
                  refine W_block ?_
                  refine W_seq ?_
                  obtain ⟨x143, hx143, hB131⟩ := bind_some hB131
                  refine W_region ?_
                  refine L_fa (o' := 4) rfl fa_36_4 sf2 rfl ?_
                  refine L_ld (v := v0_4) rfl Try.isAgg34 rfl (At.cell0 (Blk.at (Star.blkAt 1 hst rfl)) (j := 4) rfl) ?_
                  refine L_mv (v := .int .i64 (i_130 : Int)) rfl sf11 ?_
                  refine L_ix (r := (RP.slice 3 RP.int)) rfl Try.underlying34 Try.sizeOf23 rfl h0_4 rfl hix131 ?_
                  intro g145 o146 cs_g145 hrk_hat147 hat147
                  obtain ⟨u148, rfl, hu148⟩ := slice1 hrk_hat147
                  refine L_ld (v := u148) rfl Try.isAgg23 rfl (At.cell (AtH.at hat147 hst.sub) (j := 0) rfl) ?_
                  refine L_mv (v := v12_list) rfl sf5 ?_
                  obtain ⟨Hb149, hle150, hsb151, hfz152, hbk153⟩ := Star.borrow hst
                  have hb154 : (RP.slice 3 RP.int).rel Hb149 [v12_list] list_12 := fz_own 0 hfz152 rfl
                  refine L_call (args := #[u148, v12_list]) rfl Try.call84 (ops2 rfl rfl) (s_l6Ints_c (a := x_131) (b := list_12) hsb151 (RP.mono _ hu148 hle150) hb154 hx143) ?_
                  rintro _ w155 ⟨rfl, hst⟩
                  have hst := hbk153 hst closedL_nil
                  refine L_nil ?_
                  refine W_cond (b := x143) rfl (fun hc156 => ?_) (fun hc156 => ?_)
                  ·
                    have hB131 := (ite_t hc156).symm.trans hB131
                    refine W_seq ?_
                    refine W_region ?_
                    refine L_as (v := .bool true) rfl rfl ?_
                    refine L_nil ?_
                    refine W_ret ?_
                    refine retG1 (v1 := .bool true) Try.results57 rfl ?_
                    obtain rfl := so hB131
                    obtain rfl := so hL131
                    obtain rfl := so hF
                    exact ⟨rfl, (Star.keepN 0 hst)⟩
                  ·
                    have hB131 := (ite_f hc156).symm.trans hB131
                    refine W_skip ?_
                    refine W_region ?_
                    refine L_mv (v := .int .i64 (i_130 : Int)) rfl sf11 ?_
                    refine L_add (m := (i_130 : Int)) (n := 1) rfl rfl rfl ?_
                    refine L_as (v := .int .i64 (i64 ((i_130 : Int) + 1))) rfl rfl ?_
                    refine L_nil ?_
                    obtain rfl := so hB131
                    show ∃ m, m < _ ∧ I131 m _ _
                    refine ⟨rest131.length, by simp, ?_⟩
                    rw [hI131]
                    exact ⟨i_130 + 1, rest131, rfl, drop_next hd131, by simp at hl131; omega, hL131, sf2, sf5, (Eq.trans rfl (congrArg (Value.int .i64) (i64_succ (n := r_.rows.length) (by simp at hl131; omega) hlen131))), hst⟩
              ·
                cases suf131 with
                | cons _ _ => exact absurd (of_decide_eq_false hc132) (by simp at hl131; omega)
                | nil =>
                  obtain rfl := range_nil hL131
                  refine W_exit ?_
                  show R131 _ _
                  rw [hR131]
                  exact ⟨rfl, (Star.keepN 0 hst)⟩
          ·
            clear hst
            intro f w_ hR
            rw [hR131] at hR
            obtain ⟨rfl, hst⟩ := hR
            clear hR131
            refine W_seq ?_
            refine W_region ?_
            refine L_as (v := .bool false) rfl rfl ?_
            refine L_nil ?_
            refine W_ret ?_
            refine retG1 (v1 := .bool false) Try.results57 rfl ?_
            obtain rfl := so hF
            exact ⟨rfl, hst⟩

theorem s_RuleHolds_c {fu : Nat} {m : Model} {rule : Int} {cells : List Int} {v0_0 : Value} {v0_1 : Value} {v2 : Value} {H : FH} {w : World} (hst : Star H w []) (h0_0 : (RP.slice 3 RP.int).rel H [v0_0] m.sizes) (h0_1 : (RP.slice 36 (rRule 3 23)).rel H [v0_1] m.rules) (h2 : (RP.slice 3 RP.int).rel H [v2] cells) {r : Bool} (hF : s_RuleHolds fu m rule cells = some r) :
    C Try.prog 19 #[.agg #[v0_0, v0_1], .int .i64 rule, v2] w fun v w' => v = .bool r ∧ Star H w' [] := by
  unfold s_RuleHolds at hF
  refine C_enter Try.func19 rfl Try.ntmps19 rfl ?_
  refine W_seq ?_
  refine W_region ?_
  refine L_box (v := .agg #[v0_0, v0_1]) (cs := #[v0_0, v0_1]) rfl rfl rfl hst ?_
  intro g3 w4 hst
  refine L_as (v := .bool false) rfl rfl ?_
  refine L_nil ?_
  refine W_seq ?_
  obtain ⟨x10, hx10, hF⟩ := bind_some hF
  obtain ⟨b24, hb24, hF⟩ := bind_some hF
  obtain ⟨R25, hR25⟩ : ∃ RR_ : Fr → World → Prop, RR_ = fun f w_ => f 6 = .bool b24 ∧ Star H w_ ([]) := ⟨_, rfl⟩
  refine W_join R25 ?_ ?_
  ·
    refine W_region ?_
    refine L_lda (cs := [v0_0, v0_1]) rfl Try.isAgg26 Try.sizeOf26 rfl (At.sub0 (Blk.at (Star.blkAt 0 hst rfl)) 0 2) rfl ?_
    refine L_mv (v := v2) rfl rfl ?_
    obtain ⟨Hb26, hle27, hsb28, hfz29, hbk30⟩ := Star.borrow hst
    refine L_call (args := #[.agg #[v0_0, v0_1], v2]) rfl Try.call24 (ops2 rfl rfl) (s_CellsValid_c (m := m) (cells := cells) hsb28 (RP.mono _ h0_0 hle27) (RP.mono _ h0_1 hle27) (RP.mono _ h2 hle27) hx10) ?_
    rintro _ w31 ⟨rfl, hst⟩
    have hst := hbk30 hst closedL_nil
    refine L_mv (v := .bool x10) rfl rfl ?_
    refine L_split (d := 10) (b := x10) rfl (fun hc32 => ?_) (fun hc32 => ?_)
    ·
      refine L_mv (v := .int .i64 rule) rfl rfl ?_
      refine L_geq (m := rule) (n := 0) rfl rfl rfl ?_
      refine L_pick (v := .bool (x10 && (decide (rule ≥ 0)))) rfl rfl (and_t hc32 rfl) ?_
      refine L_mv (v := .bool (x10 && (decide (rule ≥ 0)))) rfl rfl ?_
      refine L_split (d := 14) (b := (x10 && (decide (rule ≥ 0)))) rfl (fun hc33 => ?_) (fun hc33 => ?_)
      ·
        refine L_mv (v := .int .i64 rule) rfl rfl ?_
        refine L_fa (o' := 1) rfl fa_26_1 rfl rfl ?_
        refine L_ld (v := v0_1) rfl Try.isAgg24 rfl (At.cell0 (Blk.at (Star.blkAt 0 hst rfl)) (j := 1) rfl) ?_
        refine L_len (v := v0_1) (n := List.length m.rules) rfl Try.underlying24 rfl (slice_len h0_1) ?_
        refine L_lss (m := rule) (n := (m.rules.length : Int)) rfl rfl rfl ?_
        refine L_pick (v := .bool ((x10 && (decide (rule ≥ 0))) && (decide (rule < (m.rules.length : Int))))) rfl rfl (and_t hc33 rfl) ?_
        refine L_mv (v := .bool ((x10 && (decide (rule ≥ 0))) && (decide (rule < (m.rules.length : Int))))) rfl rfl ?_
        refine L_split (d := 21) (b := ((x10 && (decide (rule ≥ 0))) && (decide (rule < (m.rules.length : Int))))) rfl (fun hc34 => ?_) (fun hc34 => ?_)
        ·
          rw [ite_t hc34] at hb24
          obtain ⟨x12, hx12, hb24⟩ := bind_some hb24
          obtain ⟨x22, hx22, hb24⟩ := bind_some hb24
          refine L_fa (o' := 1) rfl fa_26_1 rfl rfl ?_
          refine L_ld (v := v0_1) rfl Try.isAgg24 rfl (At.cell0 (Blk.at (Star.blkAt 0 hst rfl)) (j := 1) rfl) ?_
          refine L_mv (v := .int .i64 rule) rfl rfl ?_
          refine L_ix (r := (rRule 3 23)) rfl Try.underlying24 Try.sizeOf36 rfl h0_1 rfl hx12 ?_
          intro g35 o36 cs_g35 hrk_hat37 hat37
          obtain ⟨u38_0, u38_1, u38_2, rfl, hu38_0, hu38_1, hu38_2⟩ := rRule_iff.1 hrk_hat37
          refine L_lda (cs := [.int .i64 x12.kind, u38_0, u38_1, .int .i64 x12.bound, u38_2]) rfl Try.isAgg36 Try.sizeOf36 rfl (At.sub (AtH.at hat37 hst.sub) 0 5) rfl ?_
          refine L_mv (v := v2) rfl rfl ?_
          obtain ⟨Hb39, hle40, hsb41, hfz42, hbk43⟩ := Star.borrow hst
          refine L_call (args := #[.agg #[.int .i64 x12.kind, u38_0, u38_1, .int .i64 x12.bound, u38_2], v2]) rfl Try.call57 (ops2 rfl rfl) (s_l6Holds_c (r_ := x12) (cells := cells) hsb41 (RP.mono _ hu38_0 hle40) (RP.mono _ hu38_1 hle40) (RP.mono _ hu38_2 hle40) (RP.mono _ h2 hle40) hx22) ?_
          rintro _ w44 ⟨rfl, hst⟩
          have hst := hbk43 hst closedL_nil
          refine L_pick (v := .bool b24) rfl rfl (congrArg Value.bool (so hb24)) ?_
          refine L_as (v := .bool b24) rfl rfl ?_
          refine L_nil ?_
          show R25 _ _
          rw [hR25]
          exact ⟨rfl, (Star.keepN 0 hst)⟩
        ·
          rw [ite_f hc34] at hb24
          refine L_pass rfl ?_
          refine L_pass rfl ?_
          refine L_pass rfl ?_
          refine L_pass rfl ?_
          refine L_pass rfl ?_
          refine L_pass rfl ?_
          refine L_pass rfl ?_
          refine L_pick (v := .bool b24) rfl rfl (congrArg Value.bool (so hb24)) ?_
          refine L_as (v := .bool b24) rfl rfl ?_
          refine L_nil ?_
          show R25 _ _
          rw [hR25]
          exact ⟨rfl, (Star.keepN 0 hst)⟩
      ·
        refine L_pass rfl ?_
        refine L_pass rfl ?_
        refine L_pass rfl ?_
        refine L_pass rfl ?_
        refine L_pass rfl ?_
        refine L_pick (v := .bool ((x10 && (decide (rule ≥ 0))) && (decide (rule < (m.rules.length : Int))))) rfl rfl (and_f hc33) ?_
        refine L_mv (v := .bool ((x10 && (decide (rule ≥ 0))) && (decide (rule < (m.rules.length : Int))))) rfl rfl ?_
        refine L_split (d := 21) (b := ((x10 && (decide (rule ≥ 0))) && (decide (rule < (m.rules.length : Int))))) rfl (fun hc45 => ?_) (fun hc45 => ?_)
        ·
          rw [ite_t hc45] at hb24
          obtain ⟨x12, hx12, hb24⟩ := bind_some hb24
          obtain ⟨x22, hx22, hb24⟩ := bind_some hb24
          refine L_fa (o' := 1) rfl fa_26_1 rfl rfl ?_
          refine L_ld (v := v0_1) rfl Try.isAgg24 rfl (At.cell0 (Blk.at (Star.blkAt 0 hst rfl)) (j := 1) rfl) ?_
          refine L_mv (v := .int .i64 rule) rfl rfl ?_
          refine L_ix (r := (rRule 3 23)) rfl Try.underlying24 Try.sizeOf36 rfl h0_1 rfl hx12 ?_
          intro g46 o47 cs_g46 hrk_hat48 hat48
          obtain ⟨u49_0, u49_1, u49_2, rfl, hu49_0, hu49_1, hu49_2⟩ := rRule_iff.1 hrk_hat48
          refine L_lda (cs := [.int .i64 x12.kind, u49_0, u49_1, .int .i64 x12.bound, u49_2]) rfl Try.isAgg36 Try.sizeOf36 rfl (At.sub (AtH.at hat48 hst.sub) 0 5) rfl ?_
          refine L_mv (v := v2) rfl rfl ?_
          obtain ⟨Hb50, hle51, hsb52, hfz53, hbk54⟩ := Star.borrow hst
          refine L_call (args := #[.agg #[.int .i64 x12.kind, u49_0, u49_1, .int .i64 x12.bound, u49_2], v2]) rfl Try.call57 (ops2 rfl rfl) (s_l6Holds_c (r_ := x12) (cells := cells) hsb52 (RP.mono _ hu49_0 hle51) (RP.mono _ hu49_1 hle51) (RP.mono _ hu49_2 hle51) (RP.mono _ h2 hle51) hx22) ?_
          rintro _ w55 ⟨rfl, hst⟩
          have hst := hbk54 hst closedL_nil
          refine L_pick (v := .bool b24) rfl rfl (congrArg Value.bool (so hb24)) ?_
          refine L_as (v := .bool b24) rfl rfl ?_
          refine L_nil ?_
          show R25 _ _
          rw [hR25]
          exact ⟨rfl, (Star.keepN 0 hst)⟩
        ·
          rw [ite_f hc45] at hb24
          refine L_pass rfl ?_
          refine L_pass rfl ?_
          refine L_pass rfl ?_
          refine L_pass rfl ?_
          refine L_pass rfl ?_
          refine L_pass rfl ?_
          refine L_pass rfl ?_
          refine L_pick (v := .bool b24) rfl rfl (congrArg Value.bool (so hb24)) ?_
          refine L_as (v := .bool b24) rfl rfl ?_
          refine L_nil ?_
          show R25 _ _
          rw [hR25]
          exact ⟨rfl, (Star.keepN 0 hst)⟩
    ·
      refine L_pass rfl ?_
      refine L_pass rfl ?_
      refine L_pick (v := .bool (x10 && (decide (rule ≥ 0)))) rfl rfl (and_f hc32) ?_
      refine L_mv (v := .bool (x10 && (decide (rule ≥ 0)))) rfl rfl ?_
      refine L_split (d := 14) (b := (x10 && (decide (rule ≥ 0)))) rfl (fun hc56 => ?_) (fun hc56 => ?_)
      ·
        refine L_mv (v := .int .i64 rule) rfl rfl ?_
        refine L_fa (o' := 1) rfl fa_26_1 rfl rfl ?_
        refine L_ld (v := v0_1) rfl Try.isAgg24 rfl (At.cell0 (Blk.at (Star.blkAt 0 hst rfl)) (j := 1) rfl) ?_
        refine L_len (v := v0_1) (n := List.length m.rules) rfl Try.underlying24 rfl (slice_len h0_1) ?_
        refine L_lss (m := rule) (n := (m.rules.length : Int)) rfl rfl rfl ?_
        refine L_pick (v := .bool ((x10 && (decide (rule ≥ 0))) && (decide (rule < (m.rules.length : Int))))) rfl rfl (and_t hc56 rfl) ?_
        refine L_mv (v := .bool ((x10 && (decide (rule ≥ 0))) && (decide (rule < (m.rules.length : Int))))) rfl rfl ?_
        refine L_split (d := 21) (b := ((x10 && (decide (rule ≥ 0))) && (decide (rule < (m.rules.length : Int))))) rfl (fun hc57 => ?_) (fun hc57 => ?_)
        ·
          rw [ite_t hc57] at hb24
          obtain ⟨x12, hx12, hb24⟩ := bind_some hb24
          obtain ⟨x22, hx22, hb24⟩ := bind_some hb24
          refine L_fa (o' := 1) rfl fa_26_1 rfl rfl ?_
          refine L_ld (v := v0_1) rfl Try.isAgg24 rfl (At.cell0 (Blk.at (Star.blkAt 0 hst rfl)) (j := 1) rfl) ?_
          refine L_mv (v := .int .i64 rule) rfl rfl ?_
          refine L_ix (r := (rRule 3 23)) rfl Try.underlying24 Try.sizeOf36 rfl h0_1 rfl hx12 ?_
          intro g58 o59 cs_g58 hrk_hat60 hat60
          obtain ⟨u61_0, u61_1, u61_2, rfl, hu61_0, hu61_1, hu61_2⟩ := rRule_iff.1 hrk_hat60
          refine L_lda (cs := [.int .i64 x12.kind, u61_0, u61_1, .int .i64 x12.bound, u61_2]) rfl Try.isAgg36 Try.sizeOf36 rfl (At.sub (AtH.at hat60 hst.sub) 0 5) rfl ?_
          refine L_mv (v := v2) rfl rfl ?_
          obtain ⟨Hb62, hle63, hsb64, hfz65, hbk66⟩ := Star.borrow hst
          refine L_call (args := #[.agg #[.int .i64 x12.kind, u61_0, u61_1, .int .i64 x12.bound, u61_2], v2]) rfl Try.call57 (ops2 rfl rfl) (s_l6Holds_c (r_ := x12) (cells := cells) hsb64 (RP.mono _ hu61_0 hle63) (RP.mono _ hu61_1 hle63) (RP.mono _ hu61_2 hle63) (RP.mono _ h2 hle63) hx22) ?_
          rintro _ w67 ⟨rfl, hst⟩
          have hst := hbk66 hst closedL_nil
          refine L_pick (v := .bool b24) rfl rfl (congrArg Value.bool (so hb24)) ?_
          refine L_as (v := .bool b24) rfl rfl ?_
          refine L_nil ?_
          show R25 _ _
          rw [hR25]
          exact ⟨rfl, (Star.keepN 0 hst)⟩
        ·
          rw [ite_f hc57] at hb24
          refine L_pass rfl ?_
          refine L_pass rfl ?_
          refine L_pass rfl ?_
          refine L_pass rfl ?_
          refine L_pass rfl ?_
          refine L_pass rfl ?_
          refine L_pass rfl ?_
          refine L_pick (v := .bool b24) rfl rfl (congrArg Value.bool (so hb24)) ?_
          refine L_as (v := .bool b24) rfl rfl ?_
          refine L_nil ?_
          show R25 _ _
          rw [hR25]
          exact ⟨rfl, (Star.keepN 0 hst)⟩
      ·
        refine L_pass rfl ?_
        refine L_pass rfl ?_
        refine L_pass rfl ?_
        refine L_pass rfl ?_
        refine L_pass rfl ?_
        refine L_pick (v := .bool ((x10 && (decide (rule ≥ 0))) && (decide (rule < (m.rules.length : Int))))) rfl rfl (and_f hc56) ?_
        refine L_mv (v := .bool ((x10 && (decide (rule ≥ 0))) && (decide (rule < (m.rules.length : Int))))) rfl rfl ?_
        refine L_split (d := 21) (b := ((x10 && (decide (rule ≥ 0))) && (decide (rule < (m.rules.length : Int))))) rfl (fun hc68 => ?_) (fun hc68 => ?_)
        ·
          rw [ite_t hc68] at hb24
          obtain ⟨x12, hx12, hb24⟩ := bind_some hb24
          obtain ⟨x22, hx22, hb24⟩ := bind_some hb24
          refine L_fa (o' := 1) rfl fa_26_1 rfl rfl ?_
          refine L_ld (v := v0_1) rfl Try.isAgg24 rfl (At.cell0 (Blk.at (Star.blkAt 0 hst rfl)) (j := 1) rfl) ?_
          refine L_mv (v := .int .i64 rule) rfl rfl ?_
          refine L_ix (r := (rRule 3 23)) rfl Try.underlying24 Try.sizeOf36 rfl h0_1 rfl hx12 ?_
          intro g69 o70 cs_g69 hrk_hat71 hat71
          obtain ⟨u72_0, u72_1, u72_2, rfl, hu72_0, hu72_1, hu72_2⟩ := rRule_iff.1 hrk_hat71
          refine L_lda (cs := [.int .i64 x12.kind, u72_0, u72_1, .int .i64 x12.bound, u72_2]) rfl Try.isAgg36 Try.sizeOf36 rfl (At.sub (AtH.at hat71 hst.sub) 0 5) rfl ?_
          refine L_mv (v := v2) rfl rfl ?_
          obtain ⟨Hb73, hle74, hsb75, hfz76, hbk77⟩ := Star.borrow hst
          refine L_call (args := #[.agg #[.int .i64 x12.kind, u72_0, u72_1, .int .i64 x12.bound, u72_2], v2]) rfl Try.call57 (ops2 rfl rfl) (s_l6Holds_c (r_ := x12) (cells := cells) hsb75 (RP.mono _ hu72_0 hle74) (RP.mono _ hu72_1 hle74) (RP.mono _ hu72_2 hle74) (RP.mono _ h2 hle74) hx22) ?_
          rintro _ w78 ⟨rfl, hst⟩
          have hst := hbk77 hst closedL_nil
          refine L_pick (v := .bool b24) rfl rfl (congrArg Value.bool (so hb24)) ?_
          refine L_as (v := .bool b24) rfl rfl ?_
          refine L_nil ?_
          show R25 _ _
          rw [hR25]
          exact ⟨rfl, (Star.keepN 0 hst)⟩
        ·
          rw [ite_f hc68] at hb24
          refine L_pass rfl ?_
          refine L_pass rfl ?_
          refine L_pass rfl ?_
          refine L_pass rfl ?_
          refine L_pass rfl ?_
          refine L_pass rfl ?_
          refine L_pass rfl ?_
          refine L_pick (v := .bool b24) rfl rfl (congrArg Value.bool (so hb24)) ?_
          refine L_as (v := .bool b24) rfl rfl ?_
          refine L_nil ?_
          show R25 _ _
          rw [hR25]
          exact ⟨rfl, (Star.keepN 0 hst)⟩
  ·
    intro f w_ hR
    rw [hR25] at hR
    obtain ⟨sf6, hst⟩ := hR
    clear hR25
    refine W_ret ?_
    refine retG1 (v1 := .bool b24) Try.results19 sf6 ?_
    obtain rfl := so hF
    exact ⟨rfl, hst⟩

end Go.Proofs.Ytcjjfneofcpmfaa

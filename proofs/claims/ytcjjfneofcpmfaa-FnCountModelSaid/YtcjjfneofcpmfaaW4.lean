/- Part of a proof by program: W4. -/
import Derived.Test.YtcjjfneofcpmfaaD1
import Derived.Test.YtcjjfneofcpmfaaW3
namespace Go.Proofs.Ytcjjfneofcpmfaa
open Go Go.E Go.L Go.RowKit
set_option linter.unusedVariables false
set_option linter.unusedSimpArgs false
set_option maxRecDepth 100000

theorem l_FnCountModel_c {fu : Nat} {code : List UInt8} {more : List UInt8} {v0 : Value} {v1 : Value} {H : FH} {w : World} (hst : Star H w []) (h0 : (RP.slice 5 RP.u8).rel H [v0] code) (h1 : (RP.slice 5 RP.u8).rel H [v1] more) {r : Bool} (hF : l_FnCountModel fu code more = some r) :
    C Try.prog 8 #[v0, v1] w fun v w' => v = .bool r ∧ Star H w' [] := by
  unfold l_FnCountModel at hF
  refine C_enter Try.func8 rfl Try.ntmps8 rfl ?_
  refine W_seq ?_
  refine W_region ?_
  refine L_as (v := .bool false) rfl rfl ?_
  refine L_nil ?_
  refine W_seq ?_
  refine W_seq ?_
  obtain ⟨R1, hR1⟩ : ∃ RR_ : Fr → World → Prop, RR_ = fun f w_ => f 0 = v0 ∧ f 1 = v1 ∧ f 18 = .bool ((decide ((code.length : Int) > 1048576)) || (decide ((more.length : Int) > 1048576))) ∧ Star H w_ ([]) := ⟨_, rfl⟩
  refine W_join R1 ?_ ?_
  ·
    refine W_region ?_
    refine L_mv (v := v0) rfl rfl ?_
    refine L_len (v := v0) (n := List.length code) rfl Try.underlying22 rfl (slice_len h0) ?_
    refine L_gtr (m := (code.length : Int)) (n := 1048576) rfl rfl rfl ?_
    refine L_mv (v := .bool (decide ((code.length : Int) > 1048576))) rfl rfl ?_
    refine L_split (d := 14) (b := decide ((code.length : Int) > 1048576)) rfl (fun hc2 => ?_) (fun hc2 => ?_)
    ·
      refine L_pass rfl ?_
      refine L_pass rfl ?_
      refine L_pass rfl ?_
      refine L_pick (v := .bool ((decide ((code.length : Int) > 1048576)) || (decide ((more.length : Int) > 1048576)))) rfl rfl (or_t hc2) ?_
      refine L_nil ?_
      show R1 _ _
      rw [hR1]
      exact ⟨rfl, rfl, rfl, hst⟩
    ·
      refine L_mv (v := v1) rfl rfl ?_
      refine L_len (v := v1) (n := List.length more) rfl Try.underlying22 rfl (slice_len h1) ?_
      refine L_gtr (m := (more.length : Int)) (n := 1048576) rfl rfl rfl ?_
      refine L_pick (v := .bool ((decide ((code.length : Int) > 1048576)) || (decide ((more.length : Int) > 1048576)))) rfl rfl (or_f hc2 rfl) ?_
      refine L_nil ?_
      show R1 _ _
      rw [hR1]
      exact ⟨rfl, rfl, rfl, hst⟩
  ·
    intro f w_ hR
    rw [hR1] at hR
    obtain ⟨sf0, sf1, sf18, hst⟩ := hR
    clear hR1
    refine W_cond (b := ((decide ((code.length : Int) > 1048576)) || (decide ((more.length : Int) > 1048576)))) sf18 (fun hc3 => ?_) (fun hc3 => ?_)
    ·
      have hF := (ite_t hc3).symm.trans hF
      refine W_seq ?_
      refine W_region ?_
      refine L_as (v := .bool true) rfl rfl ?_
      refine L_nil ?_
      refine W_ret ?_
      refine retG1 (v1 := .bool true) Try.results8 rfl ?_
      obtain rfl := so hF
      exact ⟨rfl, hst⟩
    ·
      have hF := (ite_f hc3).symm.trans hF
      refine W_skip ?_
      refine W_seq ?_
      obtain ⟨hx4, hF⟩ := anyB_some hF
      refine W_region ?_
      refine L_mv (v := v0) rfl sf0 ?_
      refine L_call (args := #[v0]) rfl Try.call25 (ops1 rfl) (s_DrawCountModel_c (code := code) hst h0 hx4) ?_
      rintro _ w9 ⟨x4, gd9, H9, hle9, r9_0, r9_1, rfl, hr9_0, hr9_1, hst⟩
      have hF := hF x4 gd9
      refine L_al (cs := #[(.slice none 0 0), (.slice none 0 0)]) rfl Try.zeroValue26 rfl hst ?_
      intro g10 w11 hst
      refine L_staB (vs := #[r9_0, r9_1]) (cs2 := #[r9_0, r9_1]) 0 rfl Try.sizeOf26 rfl rfl rfl (ones_cons (one_len (slice_len hr9_0)) (ones_cons (one_len (slice_len hr9_1)) ones_nil)) hst rfl (by decide) rfl ?_
      intro w12 hst
      refine L_nil ?_
      refine W_seq ?_
      obtain ⟨x18, hx18, hF⟩ := bind_some hF
      refine W_region ?_
      refine L_lda (cs := [r9_0, r9_1]) rfl Try.isAgg26 Try.sizeOf26 rfl (At.sub0 (Blk.at (Star.blkAt 0 hst rfl)) 0 2) rfl ?_
      obtain ⟨Hb20, hle21, hsb22, hfz23, hbk24⟩ := Star.borrow hst
      refine L_call (args := #[.agg #[r9_0, r9_1]]) rfl Try.call26 (ops1 rfl) (i_CountModel_c (m := x4) hsb22 (RP.mono _ hr9_0 hle21) (RP.mono _ hr9_1 hle21) hx18) ?_
      rintro _ w25 ⟨rfl, hst⟩
      have hst := hbk24 hst closedL_nil
      refine L_as (v := .int .i64 x18) rfl rfl ?_
      refine L_nil ?_
      refine W_seq ?_
      refine W_seq ?_
      obtain ⟨x31, hx31, hF⟩ := bind_some hF
      obtain ⟨b40, hb40, hF⟩ := bind_some hF
      obtain ⟨R41, hR41⟩ : ∃ RR_ : Fr → World → Prop, RR_ = fun f w_ => f 1 = v1 ∧ f 5 = .pointer (some ⟨g10, 0, none⟩) ∧ f 6 = .int .i64 x18 ∧ f 37 = .bool (b40 || ((x4.rules.length : Int) == 8)) ∧ Star H9 w_ ([box g10 26 #[r9_0, r9_1]]) := ⟨_, rfl⟩
      refine W_join R41 ?_ ?_
      ·
        refine W_region ?_
        refine L_mv (v := .int .i64 x18) rfl rfl ?_
        refine L_lda (cs := [r9_0, r9_1]) rfl Try.isAgg26 Try.sizeOf26 rfl (At.sub0 (Blk.at (Star.blkAt 0 hst rfl)) 0 2) rfl ?_
        obtain ⟨Hb42, hle43, hsb44, hfz45, hbk46⟩ := Star.borrow hst
        refine L_call (args := #[.agg #[r9_0, r9_1]]) rfl Try.call27 (ops1 rfl) (s_CountModel_c (m := x4) hsb44 (RP.mono _ hr9_0 hle43) (RP.mono _ hr9_1 hle43) hx31) ?_
        rintro _ w47 ⟨rfl, hst⟩
        have hst := hbk46 hst closedL_nil
        refine L_neq (m := x18) (n := x31) rfl rfl rfl ?_
        refine L_mv (v := .bool (x18 != x31)) rfl rfl ?_
        refine L_split (d := 27) (b := (x18 != x31)) rfl (fun hc48 => ?_) (fun hc48 => ?_)
        ·
          rw [ite_t hc48] at hb40
          refine L_pass rfl ?_
          refine L_pass rfl ?_
          refine L_pass rfl ?_
          refine L_pick (v := .bool b40) rfl rfl (congrArg Value.bool (so hb40)) ?_
          refine L_mv (v := .bool b40) rfl rfl ?_
          refine L_split (d := 32) (b := b40) rfl (fun hc49 => ?_) (fun hc49 => ?_)
          ·
            refine L_pass rfl ?_
            refine L_pass rfl ?_
            refine L_pass rfl ?_
            refine L_pass rfl ?_
            refine L_pick (v := .bool (b40 || ((x4.rules.length : Int) == 8))) rfl rfl (or_t hc49) ?_
            refine L_nil ?_
            show R41 _ _
            rw [hR41]
            exact ⟨sf1, rfl, rfl, rfl, hst⟩
          ·
            refine L_fa (o' := 1) rfl fa_26_1 rfl rfl ?_
            refine L_ld (v := r9_1) rfl Try.isAgg24 rfl (At.cell0 (Blk.at (Star.blkAt 0 hst rfl)) (j := 1) rfl) ?_
            refine L_len (v := r9_1) (n := List.length x4.rules) rfl Try.underlying24 rfl (slice_len hr9_1) ?_
            refine L_eql (m := (x4.rules.length : Int)) (n := 8) rfl rfl rfl ?_
            refine L_pick (v := .bool (b40 || ((x4.rules.length : Int) == 8))) rfl rfl (or_f hc49 rfl) ?_
            refine L_nil ?_
            show R41 _ _
            rw [hR41]
            exact ⟨sf1, rfl, rfl, rfl, hst⟩
        ·
          rw [ite_f hc48] at hb40
          obtain ⟨x38, hx38, hb40⟩ := bind_some hb40
          refine L_lda (cs := [r9_0, r9_1]) rfl Try.isAgg26 Try.sizeOf26 rfl (At.sub0 (Blk.at (Star.blkAt 0 hst rfl)) 0 2) rfl ?_
          obtain ⟨Hb50, hle51, hsb52, hfz53, hbk54⟩ := Star.borrow hst
          refine L_call (args := #[.agg #[r9_0, r9_1]]) rfl Try.call28 (ops1 rfl) (i_ModelValid_c (m := x4) hsb52 (RP.mono _ hr9_0 hle51) (RP.mono _ hr9_1 hle51) hx38) ?_
          rintro _ w55 ⟨rfl, hst⟩
          have hst := hbk54 hst closedL_nil
          refine L_not_ (b := x38) rfl rfl ?_
          refine L_pick (v := .bool b40) rfl rfl (congrArg Value.bool (so hb40)) ?_
          refine L_mv (v := .bool b40) rfl rfl ?_
          refine L_split (d := 32) (b := b40) rfl (fun hc56 => ?_) (fun hc56 => ?_)
          ·
            refine L_pass rfl ?_
            refine L_pass rfl ?_
            refine L_pass rfl ?_
            refine L_pass rfl ?_
            refine L_pick (v := .bool (b40 || ((x4.rules.length : Int) == 8))) rfl rfl (or_t hc56) ?_
            refine L_nil ?_
            show R41 _ _
            rw [hR41]
            exact ⟨sf1, rfl, rfl, rfl, hst⟩
          ·
            refine L_fa (o' := 1) rfl fa_26_1 rfl rfl ?_
            refine L_ld (v := r9_1) rfl Try.isAgg24 rfl (At.cell0 (Blk.at (Star.blkAt 0 hst rfl)) (j := 1) rfl) ?_
            refine L_len (v := r9_1) (n := List.length x4.rules) rfl Try.underlying24 rfl (slice_len hr9_1) ?_
            refine L_eql (m := (x4.rules.length : Int)) (n := 8) rfl rfl rfl ?_
            refine L_pick (v := .bool (b40 || ((x4.rules.length : Int) == 8))) rfl rfl (or_f hc56 rfl) ?_
            refine L_nil ?_
            show R41 _ _
            rw [hR41]
            exact ⟨sf1, rfl, rfl, rfl, hst⟩
      ·
        intro f w_ hR
        rw [hR41] at hR
        obtain ⟨sf1, sf5, sf6, sf37, hst⟩ := hR
        clear hR41
        refine W_cond (b := (b40 || ((x4.rules.length : Int) == 8))) sf37 (fun hc57 => ?_) (fun hc57 => ?_)
        ·
          have hF := (ite_t hc57).symm.trans hF
          refine W_seq ?_
          obtain ⟨x63, hx63, hF⟩ := bind_some hF
          refine W_region ?_
          refine L_mv (v := .int .i64 x18) rfl sf6 ?_
          refine L_lda (cs := [r9_0, r9_1]) rfl Try.isAgg26 Try.sizeOf26 sf5 (At.sub0 (Blk.at (Star.blkAt 0 hst rfl)) 0 2) rfl ?_
          obtain ⟨Hb65, hle66, hsb67, hfz68, hbk69⟩ := Star.borrow hst
          refine L_call (args := #[.agg #[r9_0, r9_1]]) rfl Try.call27 (ops1 rfl) (s_CountModel_c (m := x4) hsb67 (RP.mono _ hr9_0 hle66) (RP.mono _ hr9_1 hle66) hx63) ?_
          rintro _ w70 ⟨rfl, hst⟩
          have hst := hbk69 hst closedL_nil
          refine L_eql (m := x18) (n := x63) rfl rfl rfl ?_
          refine L_as (v := .bool (x18 == x63)) rfl rfl ?_
          refine L_nil ?_
          refine W_ret ?_
          refine retG1 (v1 := .bool (x18 == x63)) Try.results8 rfl ?_
          obtain rfl := so hF
          exact ⟨rfl, (Star.down (Star.keepN 0 hst) hle9 closedL_nil)⟩
        ·
          have hF := (ite_f hc57).symm.trans hF
          refine W_skip ?_
          refine W_seq ?_
          obtain ⟨q71, hq71, hF⟩ := bind_some hF
          refine W_region ?_
          refine L_mv (v := v1) rfl sf1 ?_
          refine L_len (v := v1) (n := List.length more) rfl Try.underlying22 rfl (slice_len (RP.mono _ h1 hle9)) ?_
          refine L_fa (o' := 0) rfl fa_26_0 sf5 rfl ?_
          refine L_ld (v := r9_0) rfl Try.isAgg23 rfl (At.cell0 (Blk.at (Star.blkAt 0 hst rfl)) (j := 0) rfl) ?_
          refine L_len (v := r9_0) (n := List.length x4.sizes) rfl Try.underlying23 rfl (slice_len hr9_0) ?_
          refine L_rem (m := (more.length : Int)) (n := (x4.sizes.length : Int)) rfl rfl rfl (fun he => by rw [if_pos he] at hq71; cases hq71) ?_
          refine L_as (v := .int .i64 (Int.tmod (more.length : Int) (x4.sizes.length : Int))) rfl rfl ?_
          refine L_nil ?_
          refine W_seq ?_
          refine W_region ?_
          refine L_as (v := .int .i64 0) rfl rfl ?_
          refine L_nil ?_
          refine W_seq ?_
          refine W_seq ?_
          refine W_region ?_
          refine L_as (v := .int .i64 0) rfl rfl ?_
          refine L_nil ?_
          obtain ⟨x74, hx74, hF⟩ := bind_some hF
          obtain ⟨k80, hk80, hF⟩ := bind_some hF
          obtain ⟨j79, hL79, hF⟩ := bind_some hF
          obtain ⟨R79, hR79⟩ : ∃ RR_ : Fr → World → Prop, RR_ = fun f w_ => ∃ sum_76 : Int, ∃ H77 : FH, j79 = .nx sum_76 ∧ Le H9 H77 ∧ f 6 = .int .i64 x18 ∧ f 8 = .int .i64 sum_76 ∧ Star H77 w_ ([]) := ⟨_, rfl⟩
          refine W_join R79 ?_ ?_
          ·
            refine W_block ?_
            obtain ⟨I79, hI79⟩ : ∃ I : Nat → Fr → World → Prop, I = fun n f w_ => ∃ i_75 : Nat, ∃ suf79 : Nat, ∃ sum_76 : Int, ∃ H77 : FH, suf79 = n ∧ 0 ≤ i_75 ∧ i_75 + suf79 = 0 + k80 ∧ countL (l_FnCountModel_b1 fu more x4) suf79 i_75 sum_76 = some j79 ∧ Le H9 H77 ∧ f 5 = .pointer (some ⟨g10, 0, none⟩) ∧ f 6 = .int .i64 x18 ∧ f 7 = .int .i64 (Int.tmod (more.length : Int) (x4.sizes.length : Int)) ∧ f 8 = .int .i64 sum_76 ∧ f 9 = .int .i64 (i_75 : Int) ∧ Star H77 w_ ([box g10 26 #[r9_0, r9_1]]) := ⟨_, rfl⟩
            refine W_loop I79 (n := k80) ?_ ?_
            · rw [hI79]; exact ⟨0, k80, 0, H9, rfl, Nat.le_refl _, rfl, hL79, (Le.refl _), sf5, sf6, rfl, rfl, rfl, hst⟩
            ·
              clear hst
              intro n79 f w_ hI
              rw [hI79] at hI
              obtain ⟨i_75, suf79, sum_76, H77, rfl, hs79, hl79, hL79, hle78, sf5, sf6, sf7, sf8, sf9, hst⟩ := hI
              refine W_seq ?_
              refine W_seq ?_
              refine W_region ?_
              refine L_mv (v := .int .i64 (i_75 : Int)) rfl sf9 ?_
              refine L_fa (o' := 0) rfl fa_26_0 sf5 rfl ?_
              refine L_ld (v := r9_0) rfl Try.isAgg23 rfl (At.cell0 (Blk.at (Star.blkAt 0 hst rfl)) (j := 0) rfl) ?_
              refine L_mv (v := .int .i64 (Int.tmod (more.length : Int) (x4.sizes.length : Int))) rfl sf7 ?_
              refine L_ix (r := RP.int) rfl Try.underlying23 Try.sizeOf3 rfl (RP.mono _ hr9_0 hle78) rfl hx74 ?_
              intro g85 o86 cs_g85 hrk_hat87 hat87
              obtain rfl : _ = [_] := hrk_hat87
              refine L_ld (v := .int .i64 x74) rfl Try.isAgg3 rfl (At.cell (AtH.at hat87 hst.sub) (j := 0) rfl) ?_
              refine L_leq (m := (i_75 : Int)) (n := x74) rfl rfl rfl ?_
              refine L_nil ?_
              refine W_cond (b := decide ((i_75 : Int) ≤ x74)) rfl (fun hc89 => ?_) (fun hc89 => ?_)
              ·
                have hlt79 := of_decide_eq_true hc89
                cases suf79 with
                | zero => exact absurd hlt79 (cntF_noL hl79 hk80)
                | succ rest79 =>
                  obtain ⟨o79, hB79, hL79⟩ := count_succ hL79
                  rw [l_FnCountModel_b1] at hB79
                  refine W_skip ?_
                  refine W_seq ?_
                  refine W_block ?_
                  refine W_seq ?_
                  obtain ⟨x93, hx93, hB79⟩ := bind_some hB79
                  obtain ⟨x110, hx110, hB79⟩ := bind_some hB79
                  refine W_drawS 16 [isV (.pointer (some ⟨g10, 0, none⟩)), isV (r9_0), anyF, isV (.pointer (some ⟨g10, 1, none⟩)), isV (r9_1), anyF, isV (.int .i64 (Int.tmod (more.length : Int) (x4.sizes.length : Int))), anyF, isV (.int .i64 (i_75 : Int)), anyF, anyF, exA fun u_1 => exA fun u_4 => isV (.agg #[.int .i64 3, u_1, (.slice none 0 0), .int .i64 0, u_4]), anyF, anyF, exA fun u_1 => isV (.agg #[r9_0, u_1]), anyF] [box g10 26 #[r9_0, r9_1]] [.made 2 59 (fun v_ => own (OR.ownS 36 (OR.frz (rRule 3 23))) [v_] ([])) (some 5), .made 5 62 (fun v_ => own (OR.ownS 36 (OR.frz (rRule 3 23))) [v_] x93) (some 13), .made 7 64 (fun v_ => own (OR.ownS 3 (OR.frz RP.int)) [v_] ([Int.tmod (more.length : Int) (x4.sizes.length : Int)])) (some 11), .made 9 66 (fun v_ => own (OR.ownS 3 (OR.frz RP.int)) [v_] ([(i_75 : Int)])) (some 10), .made 10 67 (fun v_ => own (OR.ownS 23 (OR.ownS 3 (OR.frz RP.int))) [v_] ([[(i_75 : Int)]])) (some 11), .made 11 68 (fun v_ => own (OR.ownS 3 (OR.frz RP.int)) [(aggC v_ 1)] ([Int.tmod (more.length : Int) (x4.sizes.length : Int)])) (some 12), .made 11 68 (fun v_ => own (OR.ownS 23 (OR.ownS 3 (OR.frz RP.int))) [(aggC v_ 4)] ([[(i_75 : Int)]])) (some 12), .made 12 69 (fun v_ => own (OR.ownS 36 (oRule 3 23)) [v_] ([({ kind := 3, vars := [Int.tmod (more.length : Int) (x4.sizes.length : Int)], coefs := [], bound := 0, rows := [[(i_75 : Int)]] } : Rule)])) (some 13), .made 13 70 (fun v_ => own (OR.ownS 36 (OR.frz (rRule 3 23))) [v_] x110) (some 14), .made 14 71 (fun v_ => own (OR.ownS 36 (OR.frz (rRule 3 23))) [(aggC v_ 1)] x110) none, .made 15 10 (fun v_ => boxV v_ 26 #[(.slice none 0 0), (.slice none 0 0)]) none] ([]) [([], []), ([], []), ([], [0]), ([], []), ([], []), ([0], [1]), ([], []), ([], [2]), ([], []), ([], [3]), ([3], [4]), ([2, 4], [5, 6]), ([5, 6], [7]), ([1, 7], [8]), ([8], [9]), ([], [10])] (S := [(some 2, some 59, some 5), (some 5, some 62, some 13), (some 7, some 64, some 11), (some 9, some 66, some 10), (some 10, some 67, some 11), (some 11, some 68, some 12), (some 11, some 68, some 12), (some 12, some 69, some 13), (some 13, some 70, some 14), (some 14, some 71, none), (some 15, some 10, none)]) Try_mix (by kernel_rfl) rfl (by kernel_rfl) (amF_cons (mono_V _) (amF_cons (mono_V _) (amF_cons (mono_any) (amF_cons (mono_V _) (amF_cons (mono_V _) (amF_cons (mono_any) (amF_cons (mono_V _) (amF_cons (mono_any) (amF_cons (mono_V _) (amF_cons (mono_any) (amF_cons (mono_any) (amF_cons (mono_exA fun _ => mono_exA fun _ => mono_V _) (amF_cons (mono_any) (amF_cons (mono_any) (amF_cons (mono_exA fun _ => mono_V _) (amF_cons (mono_any) amF_nil)))))))))))))))) hst ?_ (fun f w_ H119 hS119 hE119 hT119 hst => ?_)
                  ·
                    refine opsS_cons ?_ ?_
                    ·
                      intro f w_ H119 X119 hS119 hE119 hP119 hst
                      refine L_fa (o' := 0) rfl fa_26_0 ((hS119 5 rfl).trans sf5) rfl ?_
                      exact L_nil ⟨rfl, _, _, _, rfl, rfl, Le.refl _, rfl, hst⟩
                    refine opsS_cons ?_ ?_
                    ·
                      intro f w_ H119 X119 hS119 hE119 hP119 hst
                      refine L_ld (v := r9_0) rfl Try.isAgg23 (hP119 0 57 rfl rfl) (At.cell0 (Blk.at (Star.blkAt 0 hst rfl)) (j := 0) rfl) ?_
                      exact L_nil ⟨rfl, _, _, _, rfl, rfl, Le.refl _, rfl, hst⟩
                    refine opsS_cons ?_ ?_
                    ·
                      intro f w_ H119 X119 hS119 hE119 hP119 hst
                      refine L_bs rfl parts0 (bs_24_0  ) hst ?_
                      intro g146 w147 hst
                      have hst := Star.mkRow (R := (OR.frz (rRule 3 23))) [] [] 0 hst rfl rfl rfl (by decide)
                      have hst := Star.get 1 hst rfl
                      exact L_nil ⟨rfl, _, _, _, rfl, rfl, Le.refl _, trivial, hst⟩
                    refine opsS_cons ?_ ?_
                    ·
                      intro f w_ H119 X119 hS119 hE119 hP119 hst
                      refine L_fa (o' := 1) rfl fa_26_1 ((hS119 5 rfl).trans sf5) rfl ?_
                      exact L_nil ⟨rfl, _, _, _, rfl, rfl, Le.refl _, rfl, hst⟩
                    refine opsS_cons ?_ ?_
                    ·
                      intro f w_ H119 X119 hS119 hE119 hP119 hst
                      refine L_ld (v := r9_1) rfl Try.isAgg24 (hP119 3 60 rfl rfl) (At.cell0 (Blk.at (Star.blkAt 0 hst rfl)) (j := 1) rfl) ?_
                      exact L_nil ⟨rfl, _, _, _, rfl, rfl, Le.refl _, rfl, hst⟩
                    refine opsS_cons ?_ ?_
                    ·
                      intro f w_ H119 X119 hS119 hE119 hP119 hst
                      have hst : Star H119 w_ (box g10 26 #[r9_0, r9_1] :: own (OR.ownS 36 (OR.frz (rRule 3 23))) [(f 59)] ([]) :: X119) := hst
                      have hst := Star.get 1 hst rfl
                      refine L_app (v := (f 59)) (u := r9_1) rfl et_24 rfl (hP119 4 61 rfl rfl) hst (RP.mono _ hr9_1 (Le.trans hle78 hE119)) hx93 ?_
                      intro v150 w151 hst
                      have hst := Star.get 1 hst rfl
                      exact L_nil ⟨rfl, _, _, _, rfl, rfl, Le.refl _, trivial, hst⟩
                    refine opsS_cons ?_ ?_
                    ·
                      intro f w_ H119 X119 hS119 hE119 hP119 hst
                      refine L_mv (v := .int .i64 (Int.tmod (more.length : Int) (x4.sizes.length : Int))) rfl ((hS119 7 rfl).trans sf7) ?_
                      exact L_nil ⟨rfl, _, _, _, rfl, rfl, Le.refl _, rfl, hst⟩
                    refine opsS_cons ?_ ?_
                    ·
                      intro f w_ H119 X119 hS119 hE119 hP119 hst
                      refine L_bs rfl (parts1 (hP119 6 63 rfl rfl)) (bs_23_1_0 (.int .i64 (Int.tmod (more.length : Int) (x4.sizes.length : Int))) rfl) hst ?_
                      intro g153 w154 hst
                      have hst := Star.addF (r := RP.int) (cs := [.int .i64 (Int.tmod (more.length : Int) (x4.sizes.length : Int))]) (x := (Int.tmod (more.length : Int) (x4.sizes.length : Int))) hst rfl
                      have hst := Star.mkRow (R := (OR.frz RP.int)) [([.int .i64 (Int.tmod (more.length : Int) (x4.sizes.length : Int))], Int.tmod (more.length : Int) (x4.sizes.length : Int))] [Int.tmod (more.length : Int) (x4.sizes.length : Int)] 1 hst rfl rfl rfl (by decide)
                      have hst := Star.get 1 hst rfl
                      exact L_nil ⟨rfl, _, _, _, rfl, rfl, Le.refl _, trivial, hst⟩
                    refine opsS_cons ?_ ?_
                    ·
                      intro f w_ H119 X119 hS119 hE119 hP119 hst
                      refine L_mv (v := .int .i64 (i_75 : Int)) rfl ((hS119 9 rfl).trans sf9) ?_
                      exact L_nil ⟨rfl, _, _, _, rfl, rfl, Le.refl _, rfl, hst⟩
                    refine opsS_cons ?_ ?_
                    ·
                      intro f w_ H119 X119 hS119 hE119 hP119 hst
                      refine L_bs rfl (parts1 (hP119 8 65 rfl rfl)) (bs_23_1_0 (.int .i64 (i_75 : Int)) rfl) hst ?_
                      intro g156 w157 hst
                      have hst := Star.addF (r := RP.int) (cs := [.int .i64 (i_75 : Int)]) (x := (i_75 : Int)) hst rfl
                      have hst := Star.mkRow (R := (OR.frz RP.int)) [([.int .i64 (i_75 : Int)], (i_75 : Int))] [(i_75 : Int)] 1 hst rfl rfl rfl (by decide)
                      have hst := Star.get 1 hst rfl
                      exact L_nil ⟨rfl, _, _, _, rfl, rfl, Le.refl _, trivial, hst⟩
                    refine opsS_cons ?_ ?_
                    ·
                      intro f w_ H119 X119 hS119 hE119 hP119 hst
                      have hst : Star H119 w_ (box g10 26 #[r9_0, r9_1] :: own (OR.ownS 3 (OR.frz RP.int)) [(f 66)] ([(i_75 : Int)]) :: X119) := hst
                      refine L_bs rfl (parts1 rfl) (bs_34_1_0 ((f 66)) (one_len (Star.len 1 hst rfl))) hst ?_
                      intro g160 w161 hst
                      have hst := Star.get 2 hst rfl
                      have hst := Star.mkRow (R := (OR.ownS 3 (OR.frz RP.int))) [([(f 66)], [(i_75 : Int)])] [[(i_75 : Int)]] 1 hst rfl rfl rfl (by decide)
                      have hst := Star.get 1 hst rfl
                      exact L_nil ⟨rfl, _, _, _, rfl, rfl, Le.refl _, trivial, hst⟩
                    refine opsS_cons ?_ ?_
                    ·
                      intro f w_ H119 X119 hS119 hE119 hP119 hst
                      have hst : Star H119 w_ (box g10 26 #[r9_0, r9_1] :: own (OR.ownS 3 (OR.frz RP.int)) [(f 64)] ([Int.tmod (more.length : Int) (x4.sizes.length : Int)]) :: own (OR.ownS 23 (OR.ownS 3 (OR.frz RP.int))) [(f 67)] ([[(i_75 : Int)]]) :: X119) := hst
                      refine L_bld rfl (parts3 rfl rfl rfl) (bld_36_0_1_4 (.int .i64 3) ((f 64)) ((f 67)) rfl (one_len (Star.len 1 hst rfl)) (one_len (Star.len 2 hst rfl))) ?_
                      exact L_nil ⟨rfl, _, _, _, rfl, rfl, Le.refl _, ⟨_, _, rfl⟩, hst⟩
                    refine opsS_cons ?_ ?_
                    ·
                      intro f w_ H119 X119 hS119 hE119 hP119 hst
                      have hst : Star H119 w_ (box g10 26 #[r9_0, r9_1] :: own (OR.ownS 3 (OR.frz RP.int)) [(aggC (f 68) 1)] ([Int.tmod (more.length : Int) (x4.sizes.length : Int)]) :: own (OR.ownS 23 (OR.ownS 3 (OR.frz RP.int))) [(aggC (f 68) 4)] ([[(i_75 : Int)]]) :: X119) := hst
                      obtain ⟨u165_1, u165_4, hv165⟩ := (hP119 11 68 rfl rfl)
                      have hren : Star H119 w_ (box g10 26 #[r9_0, r9_1] :: own (OR.ownS 3 (OR.frz RP.int)) [(aggC (f 68) 1)] ([Int.tmod (more.length : Int) (x4.sizes.length : Int)]) :: own (OR.ownS 23 (OR.ownS 3 (OR.frz RP.int))) [(aggC (f 68) 4)] ([[(i_75 : Int)]]) :: X119) := hst
                      rw [hv165] at hren
                      have hst : Star H119 w_ (box g10 26 #[r9_0, r9_1] :: own (OR.ownS 3 (OR.frz RP.int)) [u165_1] ([Int.tmod (more.length : Int) (x4.sizes.length : Int)]) :: own (OR.ownS 23 (OR.ownS 3 (OR.frz RP.int))) [u165_4] ([[(i_75 : Int)]]) :: X119) := hren
                      refine L_bs rfl (parts1 hv165) (bs_24_1_5 (.int .i64 3) (u165_1) ((.slice none 0 0)) (.int .i64 0) (u165_4) ) hst ?_
                      intro g166 w167 hst
                      have hst := Star.addNil (R := (OR.frz RP.int)) (e := 3) hst
                      have hst := Star.get 4 hst rfl
                      have hst := Star.get 1 hst rfl
                      have hst := Star.get 4 hst rfl
                      have hst := oRule_close (r := ({ kind := 3, vars := [Int.tmod (more.length : Int) (x4.sizes.length : Int)], coefs := [], bound := 0, rows := [[(i_75 : Int)]] } : Rule)) hst
                      have hst := Star.mkRow (R := (oRule 3 23)) [([.int .i64 3, u165_1, (.slice none 0 0), .int .i64 0, u165_4], ({ kind := 3, vars := [Int.tmod (more.length : Int) (x4.sizes.length : Int)], coefs := [], bound := 0, rows := [[(i_75 : Int)]] } : Rule))] [({ kind := 3, vars := [Int.tmod (more.length : Int) (x4.sizes.length : Int)], coefs := [], bound := 0, rows := [[(i_75 : Int)]] } : Rule)] 1 hst rfl rfl rfl (by decide)
                      have hst := Star.get 1 hst rfl
                      exact L_nil ⟨rfl, _, _, _, rfl, rfl, Le.refl _, trivial, hst⟩
                    refine opsS_cons ?_ ?_
                    ·
                      intro f w_ H119 X119 hS119 hE119 hP119 hst
                      have hst : Star H119 w_ (box g10 26 #[r9_0, r9_1] :: own (OR.ownS 36 (OR.frz (rRule 3 23))) [(f 62)] x93 :: own (OR.ownS 36 (oRule 3 23)) [(f 69)] ([({ kind := 3, vars := [Int.tmod (more.length : Int) (x4.sizes.length : Int)], coefs := [], bound := 0, rows := [[(i_75 : Int)]] } : Rule)]) :: X119) := hst
                      have hst := Star.get 2 hst rfl
                      obtain ⟨H172, hle173, hst⟩ := Star.shallow hst
                      have hst : Star H172 w_ (own (OR.ownS 36 (OR.frz (rRule 3 23))) [(f 69)] ([({ kind := 3, vars := [Int.tmod (more.length : Int) (x4.sizes.length : Int)], coefs := [], bound := 0, rows := [[(i_75 : Int)]] } : Rule)]) :: _) := hst
                      have hst := Star.get 2 hst rfl
                      refine L_appM (v := (f 62)) (u := (f 69)) rfl et_24 rfl rfl hst hx110 ?_
                      intro v174 w175 hst
                      have hst := Star.get 1 hst rfl
                      exact L_nil ⟨rfl, _, _, _, rfl, rfl, hle173, trivial, hst⟩
                    refine opsS_cons ?_ ?_
                    ·
                      intro f w_ H119 X119 hS119 hE119 hP119 hst
                      have hst : Star H119 w_ (box g10 26 #[r9_0, r9_1] :: own (OR.ownS 36 (OR.frz (rRule 3 23))) [(f 70)] x110 :: X119) := hst
                      refine L_bld rfl (parts2 (hP119 1 58 rfl rfl) rfl) (bld_26_0_1 (r9_0) ((f 70)) (one_len (slice_len (RP.mono _ hr9_0 (Le.trans hle78 hE119)))) (one_len (Star.len 1 hst rfl))) ?_
                      exact L_nil ⟨rfl, _, _, _, rfl, rfl, Le.refl _, ⟨_, rfl⟩, hst⟩
                    refine opsS_cons ?_ ?_
                    ·
                      intro f w_ H119 X119 hS119 hE119 hP119 hst
                      refine L_al (cs := #[(.slice none 0 0), (.slice none 0 0)]) rfl Try.zeroValue26 rfl hst ?_
                      intro g178 w179 hst
                      have hst := Star.get 1 hst rfl
                      have hst := Star.get 1 hst rfl
                      have hst := Star.boxV (v := .pointer (some ⟨g178, 0, none⟩)) rfl hst
                      have hst := Star.get 1 hst rfl
                      exact L_nil ⟨rfl, _, _, _, rfl, rfl, Le.refl _, trivial, hst⟩
                    exact opsS_nil
                  ·
                    have hst : Star H119 w_ ([box g10 26 #[r9_0, r9_1], own (OR.ownS 36 (OR.frz (rRule 3 23))) [(aggC (f 71) 1)] x110, boxV (f 10) 26 #[(.slice none 0 0), (.slice none 0 0)]]) := hst
                    obtain ⟨u180_1, hv180⟩ := (hT119 14 71 rfl rfl)
                    have hren : Star H119 w_ ([box g10 26 #[r9_0, r9_1], own (OR.ownS 36 (OR.frz (rRule 3 23))) [(aggC (f 71) 1)] x110, boxV (f 10) 26 #[(.slice none 0 0), (.slice none 0 0)]]) := hst
                    rw [hv180] at hren
                    have hst : Star H119 w_ ([box g10 26 #[r9_0, r9_1], own (OR.ownS 36 (OR.frz (rRule 3 23))) [u180_1] x110, boxV (f 10) 26 #[(.slice none 0 0), (.slice none 0 0)]]) := hren
                    obtain ⟨g181, hv181, hst⟩ := Star.unboxV (Star.get 2 hst rfl)
                    refine L_staB (vs := #[r9_0, u180_1]) (cs2 := #[r9_0, u180_1]) 0 rfl Try.sizeOf26 hv181 hv180 rfl (ones_cons (one_len (slice_len (RP.mono _ hr9_0 (Le.trans hle78 hE119)))) (ones_cons (one_len (Star.len 2 hst rfl)) ones_nil)) hst rfl (by decide) rfl ?_
                    intro w182 hst
                    refine L_nil ?_
                    obtain ⟨x189, hx189, hB79⟩ := bind_some hB79
                    refine W_region ?_
                    refine L_mv (v := .int .i64 sum_76) rfl ((hS119 8 rfl).trans sf8) ?_
                    refine L_lda (cs := [r9_0, u180_1]) rfl Try.isAgg26 Try.sizeOf26 hv181 (At.sub0 (Blk.at (Star.blkAt 0 hst rfl)) 0 2) rfl ?_
                    obtain ⟨Hb191, hle192, hsb193, hfz194, hbk195⟩ := Star.borrow hst
                    have hb196 : (RP.slice 36 (rRule 3 23)).rel Hb191 [u180_1] x110 := fz_own 2 hfz194 rfl
                    refine L_call (args := #[.agg #[r9_0, u180_1]]) rfl Try.call26 (ops1 rfl) (i_CountModel_c (m := ({ sizes := x4.sizes, rules := x110 } : Model)) hsb193 (RP.mono _ hr9_0 (Le.trans (Le.trans hle78 hE119) hle192)) hb196 hx189) ?_
                    rintro _ w197 ⟨rfl, hst⟩
                    have hst := hbk195 hst closedL_nil
                    refine L_add (m := sum_76) (n := x189) rfl rfl rfl ?_
                    refine L_as (v := .int .i64 (i64 (sum_76 + x189))) rfl rfl ?_
                    refine L_nil ?_
                    refine W_region ?_
                    refine L_mv (v := .int .i64 (i_75 : Int)) rfl ((hS119 9 rfl).trans sf9) ?_
                    refine L_add (m := (i_75 : Int)) (n := 1) rfl rfl rfl ?_
                    refine L_as (v := .int .i64 (i64 ((i_75 : Int) + 1))) rfl rfl ?_
                    refine L_nil ?_
                    obtain rfl := so hB79
                    have hst := Star.get 1 hst rfl
                    show ∃ m, m < _ ∧ I79 m _ _
                    refine ⟨rest79, Nat.lt_succ_self _, ?_⟩
                    rw [hI79]
                    exact ⟨i_75 + 1, rest79, i64 (sum_76 + x189), H119, rfl, by omega, by omega, hL79, (Le.trans hle78 hE119), ((hS119 5 rfl).trans sf5), ((hS119 6 rfl).trans sf6), ((hS119 7 rfl).trans sf7), rfl, (Eq.trans rfl (congrArg (Value.int .i64) (i64_succ (n := 0 + k80) (by omega) (cntF_le hk80)))), (Star.keepN 1 hst)⟩
              ·
                cases suf79 with
                | succ _ => exact absurd (cntF_yesL hs79 hl79 hk80) (of_decide_eq_false hc89)
                | zero =>
                  obtain rfl := count_zero hL79
                  refine W_exit ?_
                  show R79 _ _
                  rw [hR79]
                  exact ⟨sum_76, H77, rfl, hle78, sf6, sf8, (Star.keepN 0 hst)⟩
          ·
            clear hst
            intro f w_ hR
            rw [hR79] at hR
            obtain ⟨sum_76, H77, rfl, hle78, sf6, sf8, hst⟩ := hR
            clear hR79
            refine W_seq ?_
            refine W_region ?_
            refine L_mv (v := .int .i64 sum_76) rfl sf8 ?_
            refine L_mv (v := .int .i64 x18) rfl sf6 ?_
            refine L_eql (m := sum_76) (n := x18) rfl rfl rfl ?_
            refine L_as (v := .bool (sum_76 == x18)) rfl rfl ?_
            refine L_nil ?_
            refine W_ret ?_
            refine retG1 (v1 := .bool (sum_76 == x18)) Try.results8 rfl ?_
            obtain rfl := so hF
            exact ⟨rfl, (Star.down hst (Le.trans hle9 hle78) closedL_nil)⟩

end Go.Proofs.Ytcjjfneofcpmfaa

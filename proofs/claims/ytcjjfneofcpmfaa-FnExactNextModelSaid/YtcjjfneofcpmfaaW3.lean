/- Part of a proof by program: W3. -/
import Derived.Test.YtcjjfneofcpmfaaD1
import Derived.Test.YtcjjfneofcpmfaaW2
namespace Go.Proofs.Ytcjjfneofcpmfaa
open Go Go.E Go.L Go.RowKit
set_option linter.unusedVariables false
set_option linter.unusedSimpArgs false
set_option maxRecDepth 100000

theorem l_toModel_c {a : Model} {v0_0 : Value} {v0_1 : Value} {H : FH} {w : World} (hst : Star H w []) (h0_0 : (RP.slice 3 RP.int).rel H [v0_0] a.sizes) (h0_1 : (RP.slice 96 (rRule 3 23)).rel H [v0_1] a.rules) {r : Model} (hF : l_toModel a = some r) :
    C Try.prog 39 #[.agg #[v0_0, v0_1]] w fun v w' => ∃ (u1 : Value) (u2 : Value), v = .agg #[u1, u2] ∧ Star H w' [own (OR.ownS 3 (OR.frz RP.int)) [u1] r.sizes, own (OR.ownS 36 (oRule 3 23)) [u2] r.rules] := by
  unfold l_toModel at hF
  refine C_enter Try.func39 rfl Try.ntmps39 rfl ?_
  refine W_seq ?_
  refine W_region ?_
  refine L_box (v := .agg #[v0_0, v0_1]) (cs := #[v0_0, v0_1]) rfl rfl rfl hst ?_
  intro g5 w6 hst
  refine L_al (cs := #[(.slice none 0 0), (.slice none 0 0)]) rfl Try.zeroValue26 rfl hst ?_
  intro g7 w8 hst
  refine L_nil ?_
  refine W_seq ?_
  refine W_region ?_
  refine L_al (cs := #[(.slice none 0 0), (.slice none 0 0)]) rfl Try.zeroValue26 rfl hst ?_
  intro g11 w12 hst
  refine L_nil ?_
  refine W_seq ?_
  obtain ⟨x18, hx18, hF⟩ := bind_some hF
  refine W_region ?_
  refine L_fa (o' := 0) rfl fa_55_0 rfl rfl ?_
  refine L_ld (v := v0_0) rfl Try.isAgg23 rfl (At.cell0 (Blk.at (Star.blkAt 2 hst rfl)) (j := 0) rfl) ?_
  obtain ⟨Hb22, hle23, hsb24, hfz25, hbk26⟩ := Star.borrow hst
  refine L_call (args := #[v0_0]) rfl Try.call40 (ops1 rfl) (l_toIntS_c (a := a.sizes) hsb24 (RP.mono _ h0_0 hle23) hx18) ?_
  rintro r27_0 w27 ⟨_, rfl, hst⟩
  have hst := hbk26 hst (closedL_cons (closed_own (OR.closed_ownS closed_int) _ _) closedL_nil)
  refine L_fa (o' := 0) rfl fa_26_0 rfl rfl ?_
  refine L_stB (v := r27_0) (cs2 := #[r27_0, (.slice none 0 0)]) 1 rfl Try.sizeOf23 rfl rfl (one_len (Star.len 0 hst rfl)) hst rfl rfl rfl ?_
  intro w29 hst
  refine L_nil ?_
  refine W_seq ?_
  obtain ⟨x35, hx35, hF⟩ := bind_some hF
  refine W_region ?_
  refine L_fa (o' := 1) rfl fa_55_1 rfl rfl ?_
  refine L_ld (v := v0_1) rfl Try.isAgg53 rfl (At.cell0 (Blk.at (Star.blkAt 3 hst rfl)) (j := 1) rfl) ?_
  obtain ⟨Hb39, hle40, hsb41, hfz42, hbk43⟩ := Star.borrow hst
  refine L_call (args := #[v0_1]) rfl Try.call77 (ops1 rfl) (l_toRuleS_c (a := a.rules) hsb41 (RP.mono _ h0_1 hle40) hx35) ?_
  rintro r44_0 w44 ⟨_, rfl, hst⟩
  have hst := hbk43 hst (closedL_cons (closed_own (OR.closed_ownS closed_oRule) _ _) closedL_nil)
  refine L_fa (o' := 1) rfl fa_26_1 rfl rfl ?_
  refine L_stB (v := r44_0) (cs2 := #[r27_0, r44_0]) 1 rfl Try.sizeOf24 rfl rfl (one_len (Star.len 0 hst rfl)) hst rfl rfl rfl ?_
  intro w46 hst
  refine L_nil ?_
  refine W_seq ?_
  refine W_region ?_
  refine L_lda (cs := [r27_0, r44_0]) rfl Try.isAgg26 Try.sizeOf26 rfl (At.sub0 (Blk.at (Star.blkAt 0 hst rfl)) 0 2) rfl ?_
  refine L_staB (vs := #[r27_0, r44_0]) (cs2 := #[r27_0, r44_0]) 3 rfl Try.sizeOf26 rfl rfl rfl (ones_cons (one_len (Star.len 2 hst rfl)) (ones_cons (one_len (Star.len 1 hst rfl)) ones_nil)) hst rfl (by decide) rfl ?_
  intro w48 hst
  refine L_nil ?_
  refine W_ret ?_
  refine retG1 (v1 := .agg #[r27_0, r44_0]) Try.results39 (resV_agg Try.isAgg26 Try.sizeOf26 rfl (Star.blkAt 0 hst rfl) rfl) ?_
  obtain rfl := so hF
  have hst := Star.get 2 hst rfl
  have hst := Star.get 3 hst rfl
  exact ⟨r27_0, r44_0, rfl, (Star.keepN 2 hst)⟩

theorem l_eqIntS_c {a : List Int} {b : List Int} {v0 : Value} {v1 : Value} {H : FH} {w : World} (hst : Star H w []) (h0 : (RP.slice 3 RP.int).rel H [v0] a) (h1 : (RP.slice 3 RP.int).rel H [v1] b) {r : Bool} (hF : l_eqIntS a b = some r) :
    C Try.prog 41 #[v0, v1] w fun v w' => v = .bool r ∧ Star H w' [] := by
  unfold l_eqIntS at hF
  refine C_enter Try.func41 rfl Try.ntmps41 rfl ?_
  refine W_seq ?_
  refine W_region ?_
  refine L_as (v := .bool false) rfl rfl ?_
  refine L_nil ?_
  refine W_seq ?_
  refine W_seq ?_
  refine W_region ?_
  refine L_mv (v := v0) rfl rfl ?_
  refine L_len (v := v0) (n := List.length a) rfl Try.underlying23 rfl (slice_len h0) ?_
  refine L_mv (v := v1) rfl rfl ?_
  refine L_len (v := v1) (n := List.length b) rfl Try.underlying23 rfl (slice_len h1) ?_
  refine L_neq (m := (a.length : Int)) (n := (b.length : Int)) rfl rfl rfl ?_
  refine L_nil ?_
  refine W_cond (b := ((a.length : Int) != (b.length : Int))) rfl (fun hc1 => ?_) (fun hc1 => ?_)
  ·
    have hF := (ite_t hc1).symm.trans hF
    refine W_seq ?_
    refine W_region ?_
    refine L_as (v := .bool false) rfl rfl ?_
    refine L_nil ?_
    refine W_ret ?_
    refine retG1 (v1 := .bool false) Try.results41 rfl ?_
    obtain rfl := so hF
    exact ⟨rfl, hst⟩
  ·
    have hF := (ite_f hc1).symm.trans hF
    refine W_skip ?_
    refine W_seq ?_
    refine W_seq ?_
    refine W_region ?_
    refine L_as (v := .int .i64 0) rfl rfl ?_
    refine L_nil ?_
    have hlen5 : List.length a ≤ 9223372036854775807 := len_le (slice_len h0)
    obtain ⟨j5, hL5, hF⟩ := bind_some hF
    obtain ⟨R5, hR5⟩ : ∃ RR_ : Fr → World → Prop, RR_ = fun f w_ => ∃ H3 : FH, j5 = .nx () ∧ Le H H3 ∧ Star H3 w_ ([]) := ⟨_, rfl⟩
    refine W_join R5 ?_ ?_
    ·
      refine W_block ?_
      obtain ⟨I5, hI5⟩ : ∃ I : Nat → Fr → World → Prop, I = fun n f w_ => ∃ i_2 : Nat, ∃ suf5 : List Int, ∃ H3 : FH, n = suf5.length ∧ List.drop i_2 a = suf5 ∧ i_2 + suf5.length = a.length ∧ rangeL (l_eqIntS_b1 b) suf5 i_2 () = some j5 ∧ Le H H3 ∧ f 0 = v0 ∧ f 1 = v1 ∧ f 5 = .int .i64 (i_2 : Int) ∧ Star H3 w_ ([]) := ⟨_, rfl⟩
      refine W_loop I5 (n := a.length) ?_ ?_
      · rw [hI5]; exact ⟨0, a, H, rfl, rfl, Nat.zero_add _, hL5, (Le.refl _), rfl, rfl, rfl, hst⟩
      ·
        clear hst
        intro n5 f w_ hI
        rw [hI5] at hI
        obtain ⟨i_2, suf5, H3, rfl, hd5, hl5, hL5, hle4, sf0, sf1, sf5, hst⟩ := hI
        refine W_seq ?_
        refine W_seq ?_
        refine W_region ?_
        refine L_mv (v := .int .i64 (i_2 : Int)) rfl sf5 ?_
        refine L_mv (v := v0) rfl sf0 ?_
        refine L_len (v := v0) (n := List.length a) rfl Try.underlying23 rfl (slice_len (RP.mono _ h0 hle4)) ?_
        refine L_lss (m := (i_2 : Int)) (n := (a.length : Int)) rfl rfl rfl ?_
        refine L_nil ?_
        refine W_cond (b := decide ((i_2 : Int) < (a.length : Int))) rfl (fun hc6 => ?_) (fun hc6 => ?_)
        ·
          have hlt5 := of_decide_eq_true hc6
          cases suf5 with
          | nil => exact absurd hlt5 (by simp at hl5; omega)
          | cons x_5 rest5 =>
            obtain ⟨o5, hB5, hL5⟩ := range_cons hL5
            rw [l_eqIntS_b1] at hB5
            have hix5 := drop_idx hd5
            refine W_skip ?_
            refine W_seq ?_
            refine W_block ?_
            refine W_seq ?_
            obtain ⟨x11, hx11, hB5⟩ := bind_some hB5
            refine W_drawS 8 [isV (v0), isV (.int .i64 (i_2 : Int)), isEl RP.int x_5 0, isV (.int .i64 x_5), isV (v1), isV (.int .i64 (i_2 : Int)), isEl RP.int x11 0, isV (.int .i64 x11)] [] [] ([]) [([], []), ([], []), ([], []), ([], []), ([], []), ([], []), ([], []), ([], [])] (S := []) Try_mix (by kernel_rfl) rfl (by kernel_rfl) (amF_cons (mono_V _) (amF_cons (mono_V _) (amF_cons (mono_el _ _ _) (amF_cons (mono_V _) (amF_cons (mono_V _) (amF_cons (mono_V _) (amF_cons (mono_el _ _ _) (amF_cons (mono_V _) amF_nil)))))))) hst ?_ (fun f w_ H16 hS16 hE16 hT16 hst => ?_)
            ·
              refine opsS_cons ?_ ?_
              ·
                intro f w_ H16 X16 hS16 hE16 hP16 hst
                refine L_mv (v := v0) rfl ((hS16 0 rfl).trans sf0) ?_
                exact L_nil ⟨rfl, _, _, _, rfl, rfl, Le.refl _, rfl, hst⟩
              refine opsS_cons ?_ ?_
              ·
                intro f w_ H16 X16 hS16 hE16 hP16 hst
                refine L_mv (v := .int .i64 (i_2 : Int)) rfl ((hS16 5 rfl).trans sf5) ?_
                exact L_nil ⟨rfl, _, _, _, rfl, rfl, Le.refl _, rfl, hst⟩
              refine opsS_cons ?_ ?_
              ·
                intro f w_ H16 X16 hS16 hE16 hP16 hst
                refine L_ix (r := RP.int) rfl Try.underlying23 Try.sizeOf3 (hP16 0 17 rfl rfl) (RP.mono _ h0 (Le.trans hle4 hE16)) (hP16 1 18 rfl rfl) hix5 ?_
                intro g25 o26 cs_g25 hrk_hat27 hat27
                obtain rfl : _ = [_] := hrk_hat27
                exact L_nil ⟨rfl, _, _, _, rfl, rfl, Le.refl _, ⟨_, _, _, rfl, rfl, hat27⟩, hst⟩
              refine opsS_cons ?_ ?_
              ·
                intro f w_ H16 X16 hS16 hE16 hP16 hst
                obtain ⟨g29, o29, cs29, hv29, hrk_hat29, hat29⟩ := (hP16 2 19 rfl rfl)
                obtain rfl : _ = [_] := hrk_hat29
                refine L_ld (v := .int .i64 x_5) rfl Try.isAgg3 hv29 (At.cell (AtH.at hat29 hst.sub) (j := 0) rfl) ?_
                exact L_nil ⟨rfl, _, _, _, rfl, rfl, Le.refl _, rfl, hst⟩
              refine opsS_cons ?_ ?_
              ·
                intro f w_ H16 X16 hS16 hE16 hP16 hst
                refine L_mv (v := v1) rfl ((hS16 1 rfl).trans sf1) ?_
                exact L_nil ⟨rfl, _, _, _, rfl, rfl, Le.refl _, rfl, hst⟩
              refine opsS_cons ?_ ?_
              ·
                intro f w_ H16 X16 hS16 hE16 hP16 hst
                refine L_mv (v := .int .i64 (i_2 : Int)) rfl ((hS16 5 rfl).trans sf5) ?_
                exact L_nil ⟨rfl, _, _, _, rfl, rfl, Le.refl _, rfl, hst⟩
              refine opsS_cons ?_ ?_
              ·
                intro f w_ H16 X16 hS16 hE16 hP16 hst
                refine L_ix (r := RP.int) rfl Try.underlying23 Try.sizeOf3 (hP16 4 21 rfl rfl) (RP.mono _ h1 (Le.trans hle4 hE16)) (hP16 5 22 rfl rfl) hx11 ?_
                intro g31 o32 cs_g31 hrk_hat33 hat33
                obtain rfl : _ = [_] := hrk_hat33
                exact L_nil ⟨rfl, _, _, _, rfl, rfl, Le.refl _, ⟨_, _, _, rfl, rfl, hat33⟩, hst⟩
              refine opsS_cons ?_ ?_
              ·
                intro f w_ H16 X16 hS16 hE16 hP16 hst
                obtain ⟨g35, o35, cs35, hv35, hrk_hat35, hat35⟩ := (hP16 6 23 rfl rfl)
                obtain rfl : _ = [_] := hrk_hat35
                refine L_ld (v := .int .i64 x11) rfl Try.isAgg3 hv35 (At.cell (AtH.at hat35 hst.sub) (j := 0) rfl) ?_
                exact L_nil ⟨rfl, _, _, _, rfl, rfl, Le.refl _, rfl, hst⟩
              exact opsS_nil
            ·
              refine L_neq (m := x_5) (n := x11) rfl (hT16 3 20 rfl rfl) (hT16 7 24 rfl rfl) ?_
              refine L_nil ?_
              refine W_cond (b := (x_5 != x11)) rfl (fun hc37 => ?_) (fun hc37 => ?_)
              ·
                have hB5 := (ite_t hc37).symm.trans hB5
                refine W_seq ?_
                refine W_region ?_
                refine L_as (v := .bool false) rfl rfl ?_
                refine L_nil ?_
                refine W_ret ?_
                refine retG1 (v1 := .bool false) Try.results41 rfl ?_
                obtain rfl := so hB5
                obtain rfl := so hL5
                obtain rfl := so hF
                exact ⟨rfl, (Star.down hst (Le.trans hle4 hE16) closedL_nil)⟩
              ·
                have hB5 := (ite_f hc37).symm.trans hB5
                refine W_skip ?_
                refine W_region ?_
                refine L_mv (v := .int .i64 (i_2 : Int)) rfl ((hS16 5 rfl).trans sf5) ?_
                refine L_add (m := (i_2 : Int)) (n := 1) rfl rfl rfl ?_
                refine L_as (v := .int .i64 (i64 ((i_2 : Int) + 1))) rfl rfl ?_
                refine L_nil ?_
                obtain rfl := so hB5
                show ∃ m, m < _ ∧ I5 m _ _
                refine ⟨rest5.length, by simp, ?_⟩
                rw [hI5]
                exact ⟨i_2 + 1, rest5, H16, rfl, drop_next hd5, by simp at hl5; omega, hL5, (Le.trans hle4 hE16), ((hS16 0 rfl).trans sf0), ((hS16 1 rfl).trans sf1), (Eq.trans rfl (congrArg (Value.int .i64) (i64_succ (n := a.length) (by simp at hl5; omega) hlen5))), hst⟩
        ·
          cases suf5 with
          | cons _ _ => exact absurd (of_decide_eq_false hc6) (by simp at hl5; omega)
          | nil =>
            obtain rfl := range_nil hL5
            refine W_exit ?_
            show R5 _ _
            rw [hR5]
            exact ⟨H3, rfl, hle4, hst⟩
    ·
      clear hst
      intro f w_ hR
      rw [hR5] at hR
      obtain ⟨H3, rfl, hle4, hst⟩ := hR
      clear hR5
      refine W_seq ?_
      refine W_region ?_
      refine L_as (v := .bool true) rfl rfl ?_
      refine L_nil ?_
      refine W_ret ?_
      refine retG1 (v1 := .bool true) Try.results41 rfl ?_
      obtain rfl := so hF
      exact ⟨rfl, (Star.down hst hle4 closedL_nil)⟩

theorem l_eqIntSS_c {a : List (List Int)} {b : List (List Int)} {v0 : Value} {v1 : Value} {H : FH} {w : World} (hst : Star H w []) (h0 : (RP.slice 23 (RP.slice 3 RP.int)).rel H [v0] a) (h1 : (RP.slice 23 (RP.slice 3 RP.int)).rel H [v1] b) {r : Bool} (hF : l_eqIntSS a b = some r) :
    C Try.prog 108 #[v0, v1] w fun v w' => v = .bool r ∧ Star H w' [] := by
  unfold l_eqIntSS at hF
  refine C_enter Try.func108 rfl Try.ntmps108 rfl ?_
  refine W_seq ?_
  refine W_region ?_
  refine L_as (v := .bool false) rfl rfl ?_
  refine L_nil ?_
  refine W_seq ?_
  refine W_seq ?_
  refine W_region ?_
  refine L_mv (v := v0) rfl rfl ?_
  refine L_len (v := v0) (n := List.length a) rfl Try.underlying34 rfl (slice_len h0) ?_
  refine L_mv (v := v1) rfl rfl ?_
  refine L_len (v := v1) (n := List.length b) rfl Try.underlying34 rfl (slice_len h1) ?_
  refine L_neq (m := (a.length : Int)) (n := (b.length : Int)) rfl rfl rfl ?_
  refine L_nil ?_
  refine W_cond (b := ((a.length : Int) != (b.length : Int))) rfl (fun hc1 => ?_) (fun hc1 => ?_)
  ·
    have hF := (ite_t hc1).symm.trans hF
    refine W_seq ?_
    refine W_region ?_
    refine L_as (v := .bool false) rfl rfl ?_
    refine L_nil ?_
    refine W_ret ?_
    refine retG1 (v1 := .bool false) Try.results108 rfl ?_
    obtain rfl := so hF
    exact ⟨rfl, hst⟩
  ·
    have hF := (ite_f hc1).symm.trans hF
    refine W_skip ?_
    refine W_seq ?_
    refine W_seq ?_
    refine W_region ?_
    refine L_as (v := .int .i64 0) rfl rfl ?_
    refine L_nil ?_
    have hlen5 : List.length a ≤ 9223372036854775807 := len_le (slice_len h0)
    obtain ⟨j5, hL5, hF⟩ := bind_some hF
    obtain ⟨R5, hR5⟩ : ∃ RR_ : Fr → World → Prop, RR_ = fun f w_ => ∃ H3 : FH, j5 = .nx () ∧ Le H H3 ∧ Star H3 w_ ([]) := ⟨_, rfl⟩
    refine W_join R5 ?_ ?_
    ·
      refine W_block ?_
      obtain ⟨I5, hI5⟩ : ∃ I : Nat → Fr → World → Prop, I = fun n f w_ => ∃ i_2 : Nat, ∃ suf5 : List (List Int), ∃ H3 : FH, n = suf5.length ∧ List.drop i_2 a = suf5 ∧ i_2 + suf5.length = a.length ∧ rangeL (l_eqIntSS_b1 b) suf5 i_2 () = some j5 ∧ Le H H3 ∧ f 0 = v0 ∧ f 1 = v1 ∧ f 5 = .int .i64 (i_2 : Int) ∧ Star H3 w_ ([]) := ⟨_, rfl⟩
      refine W_loop I5 (n := a.length) ?_ ?_
      · rw [hI5]; exact ⟨0, a, H, rfl, rfl, Nat.zero_add _, hL5, (Le.refl _), rfl, rfl, rfl, hst⟩
      ·
        clear hst
        intro n5 f w_ hI
        rw [hI5] at hI
        obtain ⟨i_2, suf5, H3, rfl, hd5, hl5, hL5, hle4, sf0, sf1, sf5, hst⟩ := hI
        refine W_seq ?_
        refine W_seq ?_
        refine W_region ?_
        refine L_mv (v := .int .i64 (i_2 : Int)) rfl sf5 ?_
        refine L_mv (v := v0) rfl sf0 ?_
        refine L_len (v := v0) (n := List.length a) rfl Try.underlying34 rfl (slice_len (RP.mono _ h0 hle4)) ?_
        refine L_lss (m := (i_2 : Int)) (n := (a.length : Int)) rfl rfl rfl ?_
        refine L_nil ?_
        refine W_cond (b := decide ((i_2 : Int) < (a.length : Int))) rfl (fun hc6 => ?_) (fun hc6 => ?_)
        ·
          have hlt5 := of_decide_eq_true hc6
          cases suf5 with
          | nil => exact absurd hlt5 (by simp at hl5; omega)
          | cons x_5 rest5 =>
            obtain ⟨o5, hB5, hL5⟩ := range_cons hL5
            rw [l_eqIntSS_b1] at hB5
            have hix5 := drop_idx hd5
            refine W_skip ?_
            refine W_seq ?_
            refine W_block ?_
            refine W_seq ?_
            obtain ⟨x11, hx11, hB5⟩ := bind_some hB5
            obtain ⟨x21, hx21, hB5⟩ := bind_some hB5
            refine W_drawS 8 [isV (v0), isV (.int .i64 (i_2 : Int)), isEl (RP.slice 3 RP.int) x_5 0, isData (RP.slice 3 RP.int) x_5, isV (v1), isV (.int .i64 (i_2 : Int)), isEl (RP.slice 3 RP.int) x11 0, isData (RP.slice 3 RP.int) x11] [] [] ([]) [([], []), ([], []), ([], []), ([], []), ([], []), ([], []), ([], []), ([], [])] (S := []) Try_mix (by kernel_rfl) rfl (by kernel_rfl) (amF_cons (mono_V _) (amF_cons (mono_V _) (amF_cons (mono_el _ _ _) (amF_cons (mono_data _ _) (amF_cons (mono_V _) (amF_cons (mono_V _) (amF_cons (mono_el _ _ _) (amF_cons (mono_data _ _) amF_nil)))))))) hst ?_ (fun f w_ H23 hS23 hE23 hT23 hst => ?_)
            ·
              refine opsS_cons ?_ ?_
              ·
                intro f w_ H23 X23 hS23 hE23 hP23 hst
                refine L_mv (v := v0) rfl ((hS23 0 rfl).trans sf0) ?_
                exact L_nil ⟨rfl, _, _, _, rfl, rfl, Le.refl _, rfl, hst⟩
              refine opsS_cons ?_ ?_
              ·
                intro f w_ H23 X23 hS23 hE23 hP23 hst
                refine L_mv (v := .int .i64 (i_2 : Int)) rfl ((hS23 5 rfl).trans sf5) ?_
                exact L_nil ⟨rfl, _, _, _, rfl, rfl, Le.refl _, rfl, hst⟩
              refine opsS_cons ?_ ?_
              ·
                intro f w_ H23 X23 hS23 hE23 hP23 hst
                refine L_ix (r := (RP.slice 3 RP.int)) rfl Try.underlying34 Try.sizeOf23 (hP23 0 17 rfl rfl) (RP.mono _ h0 (Le.trans hle4 hE23)) (hP23 1 18 rfl rfl) hix5 ?_
                intro g32 o33 cs_g32 hrk_hat34 hat34
                obtain ⟨u35, rfl, hu35⟩ := slice1 hrk_hat34
                exact L_nil ⟨rfl, _, _, _, rfl, rfl, Le.refl _, ⟨_, _, _, rfl, hrk_hat34, hat34⟩, hst⟩
              refine opsS_cons ?_ ?_
              ·
                intro f w_ H23 X23 hS23 hE23 hP23 hst
                obtain ⟨g36, o36, cs36, hv36, hrk_hat36, hat36⟩ := (hP23 2 19 rfl rfl)
                obtain ⟨u37, rfl, hu37⟩ := slice1 hrk_hat36
                refine L_ld (v := u37) rfl Try.isAgg23 hv36 (At.cell (AtH.at hat36 hst.sub) (j := 0) rfl) ?_
                exact L_nil ⟨rfl, _, _, _, rfl, rfl, Le.refl _, hu37, hst⟩
              refine opsS_cons ?_ ?_
              ·
                intro f w_ H23 X23 hS23 hE23 hP23 hst
                refine L_mv (v := v1) rfl ((hS23 1 rfl).trans sf1) ?_
                exact L_nil ⟨rfl, _, _, _, rfl, rfl, Le.refl _, rfl, hst⟩
              refine opsS_cons ?_ ?_
              ·
                intro f w_ H23 X23 hS23 hE23 hP23 hst
                refine L_mv (v := .int .i64 (i_2 : Int)) rfl ((hS23 5 rfl).trans sf5) ?_
                exact L_nil ⟨rfl, _, _, _, rfl, rfl, Le.refl _, rfl, hst⟩
              refine opsS_cons ?_ ?_
              ·
                intro f w_ H23 X23 hS23 hE23 hP23 hst
                refine L_ix (r := (RP.slice 3 RP.int)) rfl Try.underlying34 Try.sizeOf23 (hP23 4 21 rfl rfl) (RP.mono _ h1 (Le.trans hle4 hE23)) (hP23 5 22 rfl rfl) hx11 ?_
                intro g38 o39 cs_g38 hrk_hat40 hat40
                obtain ⟨u41, rfl, hu41⟩ := slice1 hrk_hat40
                exact L_nil ⟨rfl, _, _, _, rfl, rfl, Le.refl _, ⟨_, _, _, rfl, hrk_hat40, hat40⟩, hst⟩
              refine opsS_cons ?_ ?_
              ·
                intro f w_ H23 X23 hS23 hE23 hP23 hst
                obtain ⟨g42, o42, cs42, hv42, hrk_hat42, hat42⟩ := (hP23 6 23 rfl rfl)
                obtain ⟨u43, rfl, hu43⟩ := slice1 hrk_hat42
                refine L_ld (v := u43) rfl Try.isAgg23 hv42 (At.cell (AtH.at hat42 hst.sub) (j := 0) rfl) ?_
                exact L_nil ⟨rfl, _, _, _, rfl, rfl, Le.refl _, hu43, hst⟩
              exact opsS_nil
            ·
              have hd44 : (RP.slice 3 RP.int).rel H23 [f 20] x_5 := (hT23 3 20 rfl rfl)
              have hd45 : (RP.slice 3 RP.int).rel H23 [f 24] x11 := (hT23 7 24 rfl rfl)
              obtain ⟨Hb46, hle47, hsb48, hfz49, hbk50⟩ := Star.borrow hst
              refine L_call (args := #[(f 20), (f 24)]) rfl Try.call41 (ops2 rfl rfl) (l_eqIntS_c (a := x_5) (b := x11) hsb48 (RP.mono _ hd44 hle47) (RP.mono _ hd45 hle47) hx21) ?_
              rintro _ w51 ⟨rfl, hst⟩
              have hst := hbk50 hst closedL_nil
              refine L_not_ (b := x21) rfl rfl ?_
              refine L_nil ?_
              refine W_cond (b := (!x21)) rfl (fun hc52 => ?_) (fun hc52 => ?_)
              ·
                have hB5 := (ite_t hc52).symm.trans hB5
                refine W_seq ?_
                refine W_region ?_
                refine L_as (v := .bool false) rfl rfl ?_
                refine L_nil ?_
                refine W_ret ?_
                refine retG1 (v1 := .bool false) Try.results108 rfl ?_
                obtain rfl := so hB5
                obtain rfl := so hL5
                obtain rfl := so hF
                exact ⟨rfl, (Star.down hst (Le.trans hle4 hE23) closedL_nil)⟩
              ·
                have hB5 := (ite_f hc52).symm.trans hB5
                refine W_skip ?_
                refine W_region ?_
                refine L_mv (v := .int .i64 (i_2 : Int)) rfl ((hS23 5 rfl).trans sf5) ?_
                refine L_add (m := (i_2 : Int)) (n := 1) rfl rfl rfl ?_
                refine L_as (v := .int .i64 (i64 ((i_2 : Int) + 1))) rfl rfl ?_
                refine L_nil ?_
                obtain rfl := so hB5
                show ∃ m, m < _ ∧ I5 m _ _
                refine ⟨rest5.length, by simp, ?_⟩
                rw [hI5]
                exact ⟨i_2 + 1, rest5, H23, rfl, drop_next hd5, by simp at hl5; omega, hL5, (Le.trans hle4 hE23), ((hS23 0 rfl).trans sf0), ((hS23 1 rfl).trans sf1), (Eq.trans rfl (congrArg (Value.int .i64) (i64_succ (n := a.length) (by simp at hl5; omega) hlen5))), hst⟩
        ·
          cases suf5 with
          | cons _ _ => exact absurd (of_decide_eq_false hc6) (by simp at hl5; omega)
          | nil =>
            obtain rfl := range_nil hL5
            refine W_exit ?_
            show R5 _ _
            rw [hR5]
            exact ⟨H3, rfl, hle4, hst⟩
    ·
      clear hst
      intro f w_ hR
      rw [hR5] at hR
      obtain ⟨H3, rfl, hle4, hst⟩ := hR
      clear hR5
      refine W_seq ?_
      refine W_region ?_
      refine L_as (v := .bool true) rfl rfl ?_
      refine L_nil ?_
      refine W_ret ?_
      refine retG1 (v1 := .bool true) Try.results108 rfl ?_
      obtain rfl := so hF
      exact ⟨rfl, (Star.down hst hle4 closedL_nil)⟩

theorem l_eqRule_c {a : Rule} {b : Rule} {v0_1 : Value} {v0_2 : Value} {v0_4 : Value} {v1_1 : Value} {v1_2 : Value} {v1_4 : Value} {H : FH} {w : World} (hst : Star H w []) (h0_1 : (RP.slice 3 RP.int).rel H [v0_1] a.vars) (h0_2 : (RP.slice 3 RP.int).rel H [v0_2] a.coefs) (h0_4 : (RP.slice 23 (RP.slice 3 RP.int)).rel H [v0_4] a.rows) (h1_1 : (RP.slice 3 RP.int).rel H [v1_1] b.vars) (h1_2 : (RP.slice 3 RP.int).rel H [v1_2] b.coefs) (h1_4 : (RP.slice 23 (RP.slice 3 RP.int)).rel H [v1_4] b.rows) {r : Bool} (hF : l_eqRule a b = some r) :
    C Try.prog 95 #[.agg #[.int .i64 a.kind, v0_1, v0_2, .int .i64 a.bound, v0_4], .agg #[.int .i64 b.kind, v1_1, v1_2, .int .i64 b.bound, v1_4]] w fun v w' => v = .bool r ∧ Star H w' [] := by
  unfold l_eqRule at hF
  refine C_enter Try.func95 rfl Try.ntmps95 rfl ?_
  refine W_seq ?_
  refine W_region ?_
  refine L_box (v := .agg #[.int .i64 a.kind, v0_1, v0_2, .int .i64 a.bound, v0_4]) (cs := #[.int .i64 a.kind, v0_1, v0_2, .int .i64 a.bound, v0_4]) rfl rfl rfl hst ?_
  intro g5 w6 hst
  refine L_box (v := .agg #[.int .i64 b.kind, v1_1, v1_2, .int .i64 b.bound, v1_4]) (cs := #[.int .i64 b.kind, v1_1, v1_2, .int .i64 b.bound, v1_4]) rfl rfl rfl hst ?_
  intro g7 w8 hst
  refine L_as (v := .bool false) rfl rfl ?_
  refine L_nil ?_
  refine W_seq ?_
  refine W_seq ?_
  refine W_region ?_
  refine L_fa (o' := 0) rfl fa_36_0 rfl rfl ?_
  refine L_ld (v := .int .i64 a.kind) rfl Try.isAgg3 rfl (At.cell0 (Blk.at (Star.blkAt 1 hst rfl)) (j := 0) rfl) ?_
  refine L_fa (o' := 0) rfl fa_36_0 rfl rfl ?_
  refine L_ld (v := .int .i64 b.kind) rfl Try.isAgg3 rfl (At.cell0 (Blk.at (Star.blkAt 0 hst rfl)) (j := 0) rfl) ?_
  refine L_neq (m := a.kind) (n := b.kind) rfl rfl rfl ?_
  refine L_nil ?_
  refine W_cond (b := (a.kind != b.kind)) rfl (fun hc9 => ?_) (fun hc9 => ?_)
  ·
    have hF := (ite_t hc9).symm.trans hF
    refine W_seq ?_
    refine W_region ?_
    refine L_as (v := .bool false) rfl rfl ?_
    refine L_nil ?_
    refine W_ret ?_
    refine retG1 (v1 := .bool false) Try.results95 rfl ?_
    obtain rfl := so hF
    exact ⟨rfl, (Star.keepN 0 hst)⟩
  ·
    have hF := (ite_f hc9).symm.trans hF
    refine W_skip ?_
    refine W_seq ?_
    refine W_seq ?_
    obtain ⟨x15, hx15, hF⟩ := bind_some hF
    refine W_region ?_
    refine L_fa (o' := 1) rfl fa_36_1 rfl rfl ?_
    refine L_ld (v := v0_1) rfl Try.isAgg23 rfl (At.cell0 (Blk.at (Star.blkAt 1 hst rfl)) (j := 1) rfl) ?_
    refine L_fa (o' := 1) rfl fa_36_1 rfl rfl ?_
    refine L_ld (v := v1_1) rfl Try.isAgg23 rfl (At.cell0 (Blk.at (Star.blkAt 0 hst rfl)) (j := 1) rfl) ?_
    obtain ⟨Hb17, hle18, hsb19, hfz20, hbk21⟩ := Star.borrow hst
    refine L_call (args := #[v0_1, v1_1]) rfl Try.call41 (ops2 rfl rfl) (l_eqIntS_c (a := a.vars) (b := b.vars) hsb19 (RP.mono _ h0_1 hle18) (RP.mono _ h1_1 hle18) hx15) ?_
    rintro _ w22 ⟨rfl, hst⟩
    have hst := hbk21 hst closedL_nil
    refine L_not_ (b := x15) rfl rfl ?_
    refine L_nil ?_
    refine W_cond (b := (!x15)) rfl (fun hc23 => ?_) (fun hc23 => ?_)
    ·
      have hF := (ite_t hc23).symm.trans hF
      refine W_seq ?_
      refine W_region ?_
      refine L_as (v := .bool false) rfl rfl ?_
      refine L_nil ?_
      refine W_ret ?_
      refine retG1 (v1 := .bool false) Try.results95 rfl ?_
      obtain rfl := so hF
      exact ⟨rfl, (Star.keepN 0 hst)⟩
    ·
      have hF := (ite_f hc23).symm.trans hF
      refine W_skip ?_
      refine W_seq ?_
      refine W_seq ?_
      obtain ⟨x29, hx29, hF⟩ := bind_some hF
      refine W_region ?_
      refine L_fa (o' := 2) rfl fa_36_2 rfl rfl ?_
      refine L_ld (v := v0_2) rfl Try.isAgg23 rfl (At.cell0 (Blk.at (Star.blkAt 1 hst rfl)) (j := 2) rfl) ?_
      refine L_fa (o' := 2) rfl fa_36_2 rfl rfl ?_
      refine L_ld (v := v1_2) rfl Try.isAgg23 rfl (At.cell0 (Blk.at (Star.blkAt 0 hst rfl)) (j := 2) rfl) ?_
      obtain ⟨Hb31, hle32, hsb33, hfz34, hbk35⟩ := Star.borrow hst
      refine L_call (args := #[v0_2, v1_2]) rfl Try.call41 (ops2 rfl rfl) (l_eqIntS_c (a := a.coefs) (b := b.coefs) hsb33 (RP.mono _ h0_2 hle32) (RP.mono _ h1_2 hle32) hx29) ?_
      rintro _ w36 ⟨rfl, hst⟩
      have hst := hbk35 hst closedL_nil
      refine L_not_ (b := x29) rfl rfl ?_
      refine L_nil ?_
      refine W_cond (b := (!x29)) rfl (fun hc37 => ?_) (fun hc37 => ?_)
      ·
        have hF := (ite_t hc37).symm.trans hF
        refine W_seq ?_
        refine W_region ?_
        refine L_as (v := .bool false) rfl rfl ?_
        refine L_nil ?_
        refine W_ret ?_
        refine retG1 (v1 := .bool false) Try.results95 rfl ?_
        obtain rfl := so hF
        exact ⟨rfl, (Star.keepN 0 hst)⟩
      ·
        have hF := (ite_f hc37).symm.trans hF
        refine W_skip ?_
        refine W_seq ?_
        refine W_seq ?_
        refine W_region ?_
        refine L_fa (o' := 3) rfl fa_36_3 rfl rfl ?_
        refine L_ld (v := .int .i64 a.bound) rfl Try.isAgg3 rfl (At.cell0 (Blk.at (Star.blkAt 1 hst rfl)) (j := 3) rfl) ?_
        refine L_fa (o' := 3) rfl fa_36_3 rfl rfl ?_
        refine L_ld (v := .int .i64 b.bound) rfl Try.isAgg3 rfl (At.cell0 (Blk.at (Star.blkAt 0 hst rfl)) (j := 3) rfl) ?_
        refine L_neq (m := a.bound) (n := b.bound) rfl rfl rfl ?_
        refine L_nil ?_
        refine W_cond (b := (a.bound != b.bound)) rfl (fun hc38 => ?_) (fun hc38 => ?_)
        ·
          have hF := (ite_t hc38).symm.trans hF
          refine W_seq ?_
          refine W_region ?_
          refine L_as (v := .bool false) rfl rfl ?_
          refine L_nil ?_
          refine W_ret ?_
          refine retG1 (v1 := .bool false) Try.results95 rfl ?_
          obtain rfl := so hF
          exact ⟨rfl, (Star.keepN 0 hst)⟩
        ·
          have hF := (ite_f hc38).symm.trans hF
          refine W_skip ?_
          refine W_seq ?_
          refine W_seq ?_
          obtain ⟨x44, hx44, hF⟩ := bind_some hF
          refine W_region ?_
          refine L_fa (o' := 4) rfl fa_36_4 rfl rfl ?_
          refine L_ld (v := v0_4) rfl Try.isAgg34 rfl (At.cell0 (Blk.at (Star.blkAt 1 hst rfl)) (j := 4) rfl) ?_
          refine L_fa (o' := 4) rfl fa_36_4 rfl rfl ?_
          refine L_ld (v := v1_4) rfl Try.isAgg34 rfl (At.cell0 (Blk.at (Star.blkAt 0 hst rfl)) (j := 4) rfl) ?_
          obtain ⟨Hb46, hle47, hsb48, hfz49, hbk50⟩ := Star.borrow hst
          refine L_call (args := #[v0_4, v1_4]) rfl Try.call108 (ops2 rfl rfl) (l_eqIntSS_c (a := a.rows) (b := b.rows) hsb48 (RP.mono _ h0_4 hle47) (RP.mono _ h1_4 hle47) hx44) ?_
          rintro _ w51 ⟨rfl, hst⟩
          have hst := hbk50 hst closedL_nil
          refine L_not_ (b := x44) rfl rfl ?_
          refine L_nil ?_
          refine W_cond (b := (!x44)) rfl (fun hc52 => ?_) (fun hc52 => ?_)
          ·
            have hF := (ite_t hc52).symm.trans hF
            refine W_seq ?_
            refine W_region ?_
            refine L_as (v := .bool false) rfl rfl ?_
            refine L_nil ?_
            refine W_ret ?_
            refine retG1 (v1 := .bool false) Try.results95 rfl ?_
            obtain rfl := so hF
            exact ⟨rfl, (Star.keepN 0 hst)⟩
          ·
            have hF := (ite_f hc52).symm.trans hF
            refine W_skip ?_
            refine W_seq ?_
            refine W_region ?_
            refine L_as (v := .bool true) rfl rfl ?_
            refine L_nil ?_
            refine W_ret ?_
            refine retG1 (v1 := .bool true) Try.results95 rfl ?_
            obtain rfl := so hF
            exact ⟨rfl, (Star.keepN 0 hst)⟩

theorem l_eqRuleS_c {a : List Rule} {b : List Rule} {v0 : Value} {v1 : Value} {H : FH} {w : World} (hst : Star H w []) (h0 : (RP.slice 36 (rRule 3 23)).rel H [v0] a) (h1 : (RP.slice 36 (rRule 3 23)).rel H [v1] b) {r : Bool} (hF : l_eqRuleS a b = some r) :
    C Try.prog 78 #[v0, v1] w fun v w' => v = .bool r ∧ Star H w' [] := by
  unfold l_eqRuleS at hF
  refine C_enter Try.func78 rfl Try.ntmps78 rfl ?_
  refine W_seq ?_
  refine W_region ?_
  refine L_as (v := .bool false) rfl rfl ?_
  refine L_nil ?_
  refine W_seq ?_
  refine W_seq ?_
  refine W_region ?_
  refine L_mv (v := v0) rfl rfl ?_
  refine L_len (v := v0) (n := List.length a) rfl Try.underlying24 rfl (slice_len h0) ?_
  refine L_mv (v := v1) rfl rfl ?_
  refine L_len (v := v1) (n := List.length b) rfl Try.underlying24 rfl (slice_len h1) ?_
  refine L_neq (m := (a.length : Int)) (n := (b.length : Int)) rfl rfl rfl ?_
  refine L_nil ?_
  refine W_cond (b := ((a.length : Int) != (b.length : Int))) rfl (fun hc1 => ?_) (fun hc1 => ?_)
  ·
    have hF := (ite_t hc1).symm.trans hF
    refine W_seq ?_
    refine W_region ?_
    refine L_as (v := .bool false) rfl rfl ?_
    refine L_nil ?_
    refine W_ret ?_
    refine retG1 (v1 := .bool false) Try.results78 rfl ?_
    obtain rfl := so hF
    exact ⟨rfl, hst⟩
  ·
    have hF := (ite_f hc1).symm.trans hF
    refine W_skip ?_
    refine W_seq ?_
    refine W_seq ?_
    refine W_region ?_
    refine L_as (v := .int .i64 0) rfl rfl ?_
    refine L_nil ?_
    have hlen5 : List.length a ≤ 9223372036854775807 := len_le (slice_len h0)
    obtain ⟨j5, hL5, hF⟩ := bind_some hF
    obtain ⟨R5, hR5⟩ : ∃ RR_ : Fr → World → Prop, RR_ = fun f w_ => ∃ H3 : FH, j5 = .nx () ∧ Le H H3 ∧ Star H3 w_ ([]) := ⟨_, rfl⟩
    refine W_join R5 ?_ ?_
    ·
      refine W_block ?_
      obtain ⟨I5, hI5⟩ : ∃ I : Nat → Fr → World → Prop, I = fun n f w_ => ∃ i_2 : Nat, ∃ suf5 : List Rule, ∃ H3 : FH, n = suf5.length ∧ List.drop i_2 a = suf5 ∧ i_2 + suf5.length = a.length ∧ rangeL (l_eqRuleS_b1 b) suf5 i_2 () = some j5 ∧ Le H H3 ∧ f 0 = v0 ∧ f 1 = v1 ∧ f 5 = .int .i64 (i_2 : Int) ∧ Star H3 w_ ([]) := ⟨_, rfl⟩
      refine W_loop I5 (n := a.length) ?_ ?_
      · rw [hI5]; exact ⟨0, a, H, rfl, rfl, Nat.zero_add _, hL5, (Le.refl _), rfl, rfl, rfl, hst⟩
      ·
        clear hst
        intro n5 f w_ hI
        rw [hI5] at hI
        obtain ⟨i_2, suf5, H3, rfl, hd5, hl5, hL5, hle4, sf0, sf1, sf5, hst⟩ := hI
        refine W_seq ?_
        refine W_seq ?_
        refine W_region ?_
        refine L_mv (v := .int .i64 (i_2 : Int)) rfl sf5 ?_
        refine L_mv (v := v0) rfl sf0 ?_
        refine L_len (v := v0) (n := List.length a) rfl Try.underlying24 rfl (slice_len (RP.mono _ h0 hle4)) ?_
        refine L_lss (m := (i_2 : Int)) (n := (a.length : Int)) rfl rfl rfl ?_
        refine L_nil ?_
        refine W_cond (b := decide ((i_2 : Int) < (a.length : Int))) rfl (fun hc6 => ?_) (fun hc6 => ?_)
        ·
          have hlt5 := of_decide_eq_true hc6
          cases suf5 with
          | nil => exact absurd hlt5 (by simp at hl5; omega)
          | cons x_5 rest5 =>
            obtain ⟨o5, hB5, hL5⟩ := range_cons hL5
            rw [l_eqRuleS_b1] at hB5
            have hix5 := drop_idx hd5
            refine W_skip ?_
            refine W_seq ?_
            refine W_block ?_
            refine W_seq ?_
            obtain ⟨x11, hx11, hB5⟩ := bind_some hB5
            obtain ⟨x21, hx21, hB5⟩ := bind_some hB5
            refine W_drawS 8 [isV (v0), isV (.int .i64 (i_2 : Int)), isEl (rRule 3 23) x_5 0, exD (isData (RP.slice 3 RP.int) x_5.vars) fun u_1 => exD (isData (RP.slice 3 RP.int) x_5.coefs) fun u_2 => exD (isData (RP.slice 23 (RP.slice 3 RP.int)) x_5.rows) fun u_4 => isV (.agg #[.int .i64 x_5.kind, u_1, u_2, .int .i64 x_5.bound, u_4]), isV (v1), isV (.int .i64 (i_2 : Int)), isEl (rRule 3 23) x11 0, exD (isData (RP.slice 3 RP.int) x11.vars) fun u_1 => exD (isData (RP.slice 3 RP.int) x11.coefs) fun u_2 => exD (isData (RP.slice 23 (RP.slice 3 RP.int)) x11.rows) fun u_4 => isV (.agg #[.int .i64 x11.kind, u_1, u_2, .int .i64 x11.bound, u_4])] [] [] ([]) [([], []), ([], []), ([], []), ([], []), ([], []), ([], []), ([], []), ([], [])] (S := []) Try_mix (by kernel_rfl) rfl (by kernel_rfl) (amF_cons (mono_V _) (amF_cons (mono_V _) (amF_cons (mono_el _ _ _) (amF_cons (mono_exD (mono_data _ _) fun _ => mono_exD (mono_data _ _) fun _ => mono_exD (mono_data _ _) fun _ => mono_V _) (amF_cons (mono_V _) (amF_cons (mono_V _) (amF_cons (mono_el _ _ _) (amF_cons (mono_exD (mono_data _ _) fun _ => mono_exD (mono_data _ _) fun _ => mono_exD (mono_data _ _) fun _ => mono_V _) amF_nil)))))))) hst ?_ (fun f w_ H23 hS23 hE23 hT23 hst => ?_)
            ·
              refine opsS_cons ?_ ?_
              ·
                intro f w_ H23 X23 hS23 hE23 hP23 hst
                refine L_mv (v := v0) rfl ((hS23 0 rfl).trans sf0) ?_
                exact L_nil ⟨rfl, _, _, _, rfl, rfl, Le.refl _, rfl, hst⟩
              refine opsS_cons ?_ ?_
              ·
                intro f w_ H23 X23 hS23 hE23 hP23 hst
                refine L_mv (v := .int .i64 (i_2 : Int)) rfl ((hS23 5 rfl).trans sf5) ?_
                exact L_nil ⟨rfl, _, _, _, rfl, rfl, Le.refl _, rfl, hst⟩
              refine opsS_cons ?_ ?_
              ·
                intro f w_ H23 X23 hS23 hE23 hP23 hst
                refine L_ix (r := (rRule 3 23)) rfl Try.underlying24 Try.sizeOf36 (hP23 0 17 rfl rfl) (RP.mono _ h0 (Le.trans hle4 hE23)) (hP23 1 18 rfl rfl) hix5 ?_
                intro g32 o33 cs_g32 hrk_hat34 hat34
                obtain ⟨u35_0, u35_1, u35_2, rfl, hu35_0, hu35_1, hu35_2⟩ := rRule_iff.1 hrk_hat34
                exact L_nil ⟨rfl, _, _, _, rfl, rfl, Le.refl _, ⟨_, _, _, rfl, hrk_hat34, hat34⟩, hst⟩
              refine opsS_cons ?_ ?_
              ·
                intro f w_ H23 X23 hS23 hE23 hP23 hst
                obtain ⟨g36, o36, cs36, hv36, hrk_hat36, hat36⟩ := (hP23 2 19 rfl rfl)
                obtain ⟨u37_0, u37_1, u37_2, rfl, hu37_0, hu37_1, hu37_2⟩ := rRule_iff.1 hrk_hat36
                refine L_lda (cs := [.int .i64 x_5.kind, u37_0, u37_1, .int .i64 x_5.bound, u37_2]) rfl Try.isAgg36 Try.sizeOf36 hv36 (At.sub (AtH.at hat36 hst.sub) 0 5) rfl ?_
                exact L_nil ⟨rfl, _, _, _, rfl, rfl, Le.refl _, ⟨_, hu37_0, _, hu37_1, _, hu37_2, rfl⟩, hst⟩
              refine opsS_cons ?_ ?_
              ·
                intro f w_ H23 X23 hS23 hE23 hP23 hst
                refine L_mv (v := v1) rfl ((hS23 1 rfl).trans sf1) ?_
                exact L_nil ⟨rfl, _, _, _, rfl, rfl, Le.refl _, rfl, hst⟩
              refine opsS_cons ?_ ?_
              ·
                intro f w_ H23 X23 hS23 hE23 hP23 hst
                refine L_mv (v := .int .i64 (i_2 : Int)) rfl ((hS23 5 rfl).trans sf5) ?_
                exact L_nil ⟨rfl, _, _, _, rfl, rfl, Le.refl _, rfl, hst⟩
              refine opsS_cons ?_ ?_
              ·
                intro f w_ H23 X23 hS23 hE23 hP23 hst
                refine L_ix (r := (rRule 3 23)) rfl Try.underlying24 Try.sizeOf36 (hP23 4 21 rfl rfl) (RP.mono _ h1 (Le.trans hle4 hE23)) (hP23 5 22 rfl rfl) hx11 ?_
                intro g38 o39 cs_g38 hrk_hat40 hat40
                obtain ⟨u41_0, u41_1, u41_2, rfl, hu41_0, hu41_1, hu41_2⟩ := rRule_iff.1 hrk_hat40
                exact L_nil ⟨rfl, _, _, _, rfl, rfl, Le.refl _, ⟨_, _, _, rfl, hrk_hat40, hat40⟩, hst⟩
              refine opsS_cons ?_ ?_
              ·
                intro f w_ H23 X23 hS23 hE23 hP23 hst
                obtain ⟨g42, o42, cs42, hv42, hrk_hat42, hat42⟩ := (hP23 6 23 rfl rfl)
                obtain ⟨u43_0, u43_1, u43_2, rfl, hu43_0, hu43_1, hu43_2⟩ := rRule_iff.1 hrk_hat42
                refine L_lda (cs := [.int .i64 x11.kind, u43_0, u43_1, .int .i64 x11.bound, u43_2]) rfl Try.isAgg36 Try.sizeOf36 hv42 (At.sub (AtH.at hat42 hst.sub) 0 5) rfl ?_
                exact L_nil ⟨rfl, _, _, _, rfl, rfl, Le.refl _, ⟨_, hu43_0, _, hu43_1, _, hu43_2, rfl⟩, hst⟩
              exact opsS_nil
            ·
              obtain ⟨u44_1, hu44_1, u44_2, hu44_2, u44_4, hu44_4, hv44⟩ := (hT23 3 20 rfl rfl)
              obtain ⟨u45_1, hu45_1, u45_2, hu45_2, u45_4, hu45_4, hv45⟩ := (hT23 7 24 rfl rfl)
              obtain ⟨Hb46, hle47, hsb48, hfz49, hbk50⟩ := Star.borrow hst
              refine L_call (args := #[.agg #[.int .i64 x_5.kind, u44_1, u44_2, .int .i64 x_5.bound, u44_4], .agg #[.int .i64 x11.kind, u45_1, u45_2, .int .i64 x11.bound, u45_4]]) rfl Try.call95 (ops2 hv44 hv45) (l_eqRule_c (a := x_5) (b := x11) hsb48 (RP.mono _ hu44_1 hle47) (RP.mono _ hu44_2 hle47) (RP.mono _ hu44_4 hle47) (RP.mono _ hu45_1 hle47) (RP.mono _ hu45_2 hle47) (RP.mono _ hu45_4 hle47) hx21) ?_
              rintro _ w51 ⟨rfl, hst⟩
              have hst := hbk50 hst closedL_nil
              refine L_not_ (b := x21) rfl rfl ?_
              refine L_nil ?_
              refine W_cond (b := (!x21)) rfl (fun hc52 => ?_) (fun hc52 => ?_)
              ·
                have hB5 := (ite_t hc52).symm.trans hB5
                refine W_seq ?_
                refine W_region ?_
                refine L_as (v := .bool false) rfl rfl ?_
                refine L_nil ?_
                refine W_ret ?_
                refine retG1 (v1 := .bool false) Try.results78 rfl ?_
                obtain rfl := so hB5
                obtain rfl := so hL5
                obtain rfl := so hF
                exact ⟨rfl, (Star.down hst (Le.trans hle4 hE23) closedL_nil)⟩
              ·
                have hB5 := (ite_f hc52).symm.trans hB5
                refine W_skip ?_
                refine W_region ?_
                refine L_mv (v := .int .i64 (i_2 : Int)) rfl ((hS23 5 rfl).trans sf5) ?_
                refine L_add (m := (i_2 : Int)) (n := 1) rfl rfl rfl ?_
                refine L_as (v := .int .i64 (i64 ((i_2 : Int) + 1))) rfl rfl ?_
                refine L_nil ?_
                obtain rfl := so hB5
                show ∃ m, m < _ ∧ I5 m _ _
                refine ⟨rest5.length, by simp, ?_⟩
                rw [hI5]
                exact ⟨i_2 + 1, rest5, H23, rfl, drop_next hd5, by simp at hl5; omega, hL5, (Le.trans hle4 hE23), ((hS23 0 rfl).trans sf0), ((hS23 1 rfl).trans sf1), (Eq.trans rfl (congrArg (Value.int .i64) (i64_succ (n := a.length) (by simp at hl5; omega) hlen5))), hst⟩
        ·
          cases suf5 with
          | cons _ _ => exact absurd (of_decide_eq_false hc6) (by simp at hl5; omega)
          | nil =>
            obtain rfl := range_nil hL5
            refine W_exit ?_
            show R5 _ _
            rw [hR5]
            exact ⟨H3, rfl, hle4, hst⟩
    ·
      clear hst
      intro f w_ hR
      rw [hR5] at hR
      obtain ⟨H3, rfl, hle4, hst⟩ := hR
      clear hR5
      refine W_seq ?_
      refine W_region ?_
      refine L_as (v := .bool true) rfl rfl ?_
      refine L_nil ?_
      refine W_ret ?_
      refine retG1 (v1 := .bool true) Try.results78 rfl ?_
      obtain rfl := so hF
      exact ⟨rfl, (Star.down hst hle4 closedL_nil)⟩

theorem l_eqModel_c {a : Model} {b : Model} {v0_0 : Value} {v0_1 : Value} {v1_0 : Value} {v1_1 : Value} {H : FH} {w : World} (hst : Star H w []) (h0_0 : (RP.slice 3 RP.int).rel H [v0_0] a.sizes) (h0_1 : (RP.slice 36 (rRule 3 23)).rel H [v0_1] a.rules) (h1_0 : (RP.slice 3 RP.int).rel H [v1_0] b.sizes) (h1_1 : (RP.slice 36 (rRule 3 23)).rel H [v1_1] b.rules) {r : Bool} (hF : l_eqModel a b = some r) :
    C Try.prog 42 #[.agg #[v0_0, v0_1], .agg #[v1_0, v1_1]] w fun v w' => v = .bool r ∧ Star H w' [] := by
  unfold l_eqModel at hF
  refine C_enter Try.func42 rfl Try.ntmps42 rfl ?_
  refine W_seq ?_
  refine W_region ?_
  refine L_box (v := .agg #[v0_0, v0_1]) (cs := #[v0_0, v0_1]) rfl rfl rfl hst ?_
  intro g5 w6 hst
  refine L_box (v := .agg #[v1_0, v1_1]) (cs := #[v1_0, v1_1]) rfl rfl rfl hst ?_
  intro g7 w8 hst
  refine L_as (v := .bool false) rfl rfl ?_
  refine L_nil ?_
  refine W_seq ?_
  refine W_seq ?_
  obtain ⟨x14, hx14, hF⟩ := bind_some hF
  refine W_region ?_
  refine L_fa (o' := 0) rfl fa_26_0 rfl rfl ?_
  refine L_ld (v := v0_0) rfl Try.isAgg23 rfl (At.cell0 (Blk.at (Star.blkAt 1 hst rfl)) (j := 0) rfl) ?_
  refine L_fa (o' := 0) rfl fa_26_0 rfl rfl ?_
  refine L_ld (v := v1_0) rfl Try.isAgg23 rfl (At.cell0 (Blk.at (Star.blkAt 0 hst rfl)) (j := 0) rfl) ?_
  obtain ⟨Hb16, hle17, hsb18, hfz19, hbk20⟩ := Star.borrow hst
  refine L_call (args := #[v0_0, v1_0]) rfl Try.call41 (ops2 rfl rfl) (l_eqIntS_c (a := a.sizes) (b := b.sizes) hsb18 (RP.mono _ h0_0 hle17) (RP.mono _ h1_0 hle17) hx14) ?_
  rintro _ w21 ⟨rfl, hst⟩
  have hst := hbk20 hst closedL_nil
  refine L_not_ (b := x14) rfl rfl ?_
  refine L_nil ?_
  refine W_cond (b := (!x14)) rfl (fun hc22 => ?_) (fun hc22 => ?_)
  ·
    have hF := (ite_t hc22).symm.trans hF
    refine W_seq ?_
    refine W_region ?_
    refine L_as (v := .bool false) rfl rfl ?_
    refine L_nil ?_
    refine W_ret ?_
    refine retG1 (v1 := .bool false) Try.results42 rfl ?_
    obtain rfl := so hF
    exact ⟨rfl, (Star.keepN 0 hst)⟩
  ·
    have hF := (ite_f hc22).symm.trans hF
    refine W_skip ?_
    refine W_seq ?_
    refine W_seq ?_
    obtain ⟨x28, hx28, hF⟩ := bind_some hF
    refine W_region ?_
    refine L_fa (o' := 1) rfl fa_26_1 rfl rfl ?_
    refine L_ld (v := v0_1) rfl Try.isAgg24 rfl (At.cell0 (Blk.at (Star.blkAt 1 hst rfl)) (j := 1) rfl) ?_
    refine L_fa (o' := 1) rfl fa_26_1 rfl rfl ?_
    refine L_ld (v := v1_1) rfl Try.isAgg24 rfl (At.cell0 (Blk.at (Star.blkAt 0 hst rfl)) (j := 1) rfl) ?_
    obtain ⟨Hb30, hle31, hsb32, hfz33, hbk34⟩ := Star.borrow hst
    refine L_call (args := #[v0_1, v1_1]) rfl Try.call78 (ops2 rfl rfl) (l_eqRuleS_c (a := a.rules) (b := b.rules) hsb32 (RP.mono _ h0_1 hle31) (RP.mono _ h1_1 hle31) hx28) ?_
    rintro _ w35 ⟨rfl, hst⟩
    have hst := hbk34 hst closedL_nil
    refine L_not_ (b := x28) rfl rfl ?_
    refine L_nil ?_
    refine W_cond (b := (!x28)) rfl (fun hc36 => ?_) (fun hc36 => ?_)
    ·
      have hF := (ite_t hc36).symm.trans hF
      refine W_seq ?_
      refine W_region ?_
      refine L_as (v := .bool false) rfl rfl ?_
      refine L_nil ?_
      refine W_ret ?_
      refine retG1 (v1 := .bool false) Try.results42 rfl ?_
      obtain rfl := so hF
      exact ⟨rfl, (Star.keepN 0 hst)⟩
    ·
      have hF := (ite_f hc36).symm.trans hF
      refine W_skip ?_
      refine W_seq ?_
      refine W_region ?_
      refine L_as (v := .bool true) rfl rfl ?_
      refine L_nil ?_
      refine W_ret ?_
      refine retG1 (v1 := .bool true) Try.results42 rfl ?_
      obtain rfl := so hF
      exact ⟨rfl, (Star.keepN 0 hst)⟩

theorem l_markIntS_c {fu : Nat} {a : List Int} {k : Int} {v0 : Value} {H : FH} {w : World} (hst : Star H w [own (OR.ownS 3 (OR.frz RP.int)) [v0] a]) {r : Int × (List Int)} (hF : l_markIntS fu a k = some r) :
    C Try.prog 44 #[v0, .int .i64 k] w fun v w' => v = .int .i64 r.1 ∧ Star H w' [own (OR.ownS 3 (OR.frz RP.int)) [v0] r.2] := by
  unfold l_markIntS at hF
  refine C_enter Try.func44 rfl Try.ntmps44 rfl ?_
  refine W_seq ?_
  refine W_region ?_
  refine L_as (v := .int .i64 0) rfl rfl ?_
  refine L_nil ?_
  refine W_seq ?_
  refine W_seq ?_
  refine W_region ?_
  refine L_as (v := .int .i64 0) rfl rfl ?_
  refine L_nil ?_
  obtain ⟨j8, hL8, hF⟩ := bind_some hF
  obtain ⟨R8, hR8⟩ : ∃ RR_ : Fr → World → Prop, RR_ = fun f w_ => ∃ a_5 : List Int, ∃ k_6 : Int, ∃ i_7 : Int, j8 = .nx (a_5, k_6, i_7) ∧ f 1 = .int .i64 k_6 ∧ Star H w_ ([own (OR.ownS 3 (OR.frz RP.int)) [v0] a_5]) := ⟨_, rfl⟩
  refine W_join R8 ?_ ?_
  ·
    refine W_block ?_
    obtain ⟨I8, hI8⟩ : ∃ I : Nat → Fr → World → Prop, I = fun n f w_ => ∃ a_5 : List Int, ∃ k_6 : Int, ∃ i_7 : Int, whileL l_markIntS_b1 n (a_5, k_6, i_7) = some j8 ∧ f 0 = v0 ∧ f 1 = .int .i64 k_6 ∧ f 5 = .int .i64 i_7 ∧ Star H w_ ([own (OR.ownS 3 (OR.frz RP.int)) [v0] a_5]) := ⟨_, rfl⟩
    refine W_loop I8 (n := fu) ?_ ?_
    · rw [hI8]; exact ⟨a, k, 0, hL8, rfl, rfl, rfl, hst⟩
    ·
      clear hst
      intro n8 f w_ hI
      rw [hI8] at hI
      obtain ⟨a_5, k_6, i_7, hL8, sf0, sf1, sf5, hst⟩ := hI
      cases n8 with
      | zero => exact (while_zero hL8).elim
      | succ n8 =>
        obtain ⟨o8, hB8, hL8⟩ := while_succ hL8
        rw [l_markIntS_b1] at hB8
        refine W_seq ?_
        refine W_seq ?_
        refine W_region ?_
        refine L_mv (v := .int .i64 i_7) rfl sf5 ?_
        refine L_mv (v := v0) rfl sf0 ?_
        refine L_len (v := v0) (n := List.length a_5) rfl Try.underlying23 rfl (Star.len 0 hst rfl) ?_
        refine L_lss (m := i_7) (n := (a_5.length : Int)) rfl rfl rfl ?_
        refine L_nil ?_
        refine W_cond (b := decide (i_7 < (a_5.length : Int))) rfl (fun hc9 => ?_) (fun hc9 => ?_)
        ·
          have hB8 := (ite_t hc9).symm.trans hB8
          refine W_skip ?_
          refine W_seq ?_
          refine W_block ?_
          refine W_seq ?_
          obtain ⟨x10, hx10, hB8⟩ := bind_some hB8
          refine W_region ?_
          refine L_mv (v := v0) rfl sf0 ?_
          refine L_mv (v := .int .i64 i_7) rfl sf5 ?_
          refine L_mv (v := .int .i64 k_6) rfl sf1 ?_
          obtain ⟨g14, cap_g14, hv15, _, _⟩ := Star.row 0 hst rfl hx10
          refine L_ixO (R := (OR.frz RP.int)) (tb := 0) 0 rfl Try.underlying23 Try.sizeOf3 rfl hv15 (by first | rfl | simp) rfl hx10 ?_
          have hst := Star.addF (r := RP.int) (cs := [.int .i64 k_6]) (x := k_6) hst rfl
          refine L_stE1 (u := .int .i64 k_6) rfl Try.sizeOf3 rfl rfl rfl hv15 hst hx10 ?_
          intro w16 hst
          refine L_nil ?_
          refine W_region ?_
          refine L_mv (v := .int .i64 k_6) rfl sf1 ?_
          refine L_add (m := k_6) (n := 1) rfl rfl rfl ?_
          refine L_as (v := .int .i64 (i64 (k_6 + 1))) rfl rfl ?_
          refine L_nil ?_
          refine W_region ?_
          refine L_mv (v := .int .i64 i_7) rfl sf5 ?_
          refine L_add (m := i_7) (n := 1) rfl rfl rfl ?_
          refine L_as (v := .int .i64 (i64 (i_7 + 1))) rfl rfl ?_
          refine L_nil ?_
          obtain rfl := so hB8
          show ∃ m, m < _ ∧ I8 m _ _
          refine ⟨n8, Nat.lt_succ_self _, ?_⟩
          rw [hI8]
          exact ⟨(a_5.set (Int.toNat i_7) k_6), i64 (k_6 + 1), i64 (i_7 + 1), hL8, sf0, rfl, rfl, hst⟩
        ·
          have hB8 := (ite_f hc9).symm.trans hB8
          refine W_exit ?_
          obtain rfl := so hB8
          obtain rfl := so hL8
          show R8 _ _
          rw [hR8]
          exact ⟨a_5, k_6, i_7, rfl, sf1, hst⟩
  ·
    clear hst
    intro f w_ hR
    rw [hR8] at hR
    obtain ⟨a_5, k_6, i_7, rfl, sf1, hst⟩ := hR
    clear hR8
    refine W_seq ?_
    refine W_region ?_
    refine L_mv (v := .int .i64 k_6) rfl sf1 ?_
    refine L_as (v := .int .i64 k_6) rfl rfl ?_
    refine L_nil ?_
    refine W_ret ?_
    refine retG1 (v1 := .int .i64 k_6) Try.results44 rfl ?_
    obtain rfl := so hF
    exact ⟨rfl, hst⟩

theorem l_markIntSS_c {fu : Nat} {a : List (List Int)} {k : Int} {v0 : Value} {H : FH} {w : World} (hst : Star H w [own (OR.ownS 23 (OR.ownS 3 (OR.frz RP.int))) [v0] a]) {r : Int × (List (List Int))} (hF : l_markIntSS fu a k = some r) :
    C Try.prog 96 #[v0, .int .i64 k] w fun v w' => v = .int .i64 r.1 ∧ Star H w' [own (OR.ownS 23 (OR.ownS 3 (OR.frz RP.int))) [v0] r.2] := by
  unfold l_markIntSS at hF
  refine C_enter Try.func96 rfl Try.ntmps96 rfl ?_
  refine W_seq ?_
  refine W_region ?_
  refine L_as (v := .int .i64 0) rfl rfl ?_
  refine L_nil ?_
  refine W_seq ?_
  refine W_seq ?_
  refine W_region ?_
  refine L_as (v := .int .i64 0) rfl rfl ?_
  refine L_nil ?_
  obtain ⟨j8, hL8, hF⟩ := bind_some hF
  obtain ⟨R8, hR8⟩ : ∃ RR_ : Fr → World → Prop, RR_ = fun f w_ => ∃ a_5 : List (List Int), ∃ k_6 : Int, ∃ i_7 : Int, j8 = .nx (a_5, k_6, i_7) ∧ f 1 = .int .i64 k_6 ∧ Star H w_ ([own (OR.ownS 23 (OR.ownS 3 (OR.frz RP.int))) [v0] a_5]) := ⟨_, rfl⟩
  refine W_join R8 ?_ ?_
  ·
    refine W_block ?_
    obtain ⟨I8, hI8⟩ : ∃ I : Nat → Fr → World → Prop, I = fun n f w_ => ∃ a_5 : List (List Int), ∃ k_6 : Int, ∃ i_7 : Int, whileL (l_markIntSS_b1 fu) n (a_5, k_6, i_7) = some j8 ∧ f 0 = v0 ∧ f 1 = .int .i64 k_6 ∧ f 5 = .int .i64 i_7 ∧ Star H w_ ([own (OR.ownS 23 (OR.ownS 3 (OR.frz RP.int))) [v0] a_5]) := ⟨_, rfl⟩
    refine W_loop I8 (n := fu) ?_ ?_
    · rw [hI8]; exact ⟨a, k, 0, hL8, rfl, rfl, rfl, hst⟩
    ·
      clear hst
      intro n8 f w_ hI
      rw [hI8] at hI
      obtain ⟨a_5, k_6, i_7, hL8, sf0, sf1, sf5, hst⟩ := hI
      cases n8 with
      | zero => exact (while_zero hL8).elim
      | succ n8 =>
        obtain ⟨o8, hB8, hL8⟩ := while_succ hL8
        rw [l_markIntSS_b1] at hB8
        refine W_seq ?_
        refine W_seq ?_
        refine W_region ?_
        refine L_mv (v := .int .i64 i_7) rfl sf5 ?_
        refine L_mv (v := v0) rfl sf0 ?_
        refine L_len (v := v0) (n := List.length a_5) rfl Try.underlying34 rfl (Star.len 0 hst rfl) ?_
        refine L_lss (m := i_7) (n := (a_5.length : Int)) rfl rfl rfl ?_
        refine L_nil ?_
        refine W_cond (b := decide (i_7 < (a_5.length : Int))) rfl (fun hc9 => ?_) (fun hc9 => ?_)
        ·
          have hB8 := (ite_t hc9).symm.trans hB8
          refine W_skip ?_
          refine W_seq ?_
          refine W_block ?_
          obtain ⟨x10, hx10, hB8⟩ := bind_some hB8
          obtain ⟨x20, hx20, hB8⟩ := bind_some hB8
          refine W_region ?_
          refine L_mv (v := v0) rfl sf0 ?_
          refine L_mv (v := .int .i64 i_7) rfl sf5 ?_
          obtain ⟨g22, cap_g22, hv23, _, _⟩ := Star.row 0 hst rfl hx10
          refine L_ixO (R := (OR.ownS 3 (OR.frz RP.int))) (tb := 0) 0 rfl Try.underlying34 Try.sizeOf23 rfl hv23 (by first | rfl | simp) rfl hx10 ?_
          obtain ⟨cs24, hst, hat24⟩ := Star.focus hst hx10
          have hat24 := hat24 _ _ _ hv23
          obtain ⟨u24_0, rfl⟩ := own1 rfl hst
          refine L_ld (v := u24_0) rfl Try.isAgg23 rfl (At.cell hat24 (j := 0) rfl) ?_
          refine L_mv (v := .int .i64 k_6) rfl sf1 ?_
          obtain ⟨Hb26, hle27, hsb28, hfz29, hbk30⟩ := Star.lend [_] hst
          refine L_call (args := #[u24_0, .int .i64 k_6]) rfl Try.call44 (ops2 rfl rfl) (l_markIntS_c (a := x10) (k := k_6) hsb28 hx20) ?_
          rintro _ w31 ⟨rfl, hst⟩
          have hst := hbk30 hst (closedL_cons (closed_own (OR.closed_ownS closed_int) _ _) closedL_nil)
          refine L_as (v := .int .i64 x20.1) rfl rfl ?_
          refine L_nil ?_
          have hst := Star.unfocus (x' := x20.2) (idx_some hx10).2.2 hst
          refine W_region ?_
          refine L_mv (v := .int .i64 i_7) rfl sf5 ?_
          refine L_add (m := i_7) (n := 1) rfl rfl rfl ?_
          refine L_as (v := .int .i64 (i64 (i_7 + 1))) rfl rfl ?_
          refine L_nil ?_
          obtain rfl := so hB8
          show ∃ m, m < _ ∧ I8 m _ _
          refine ⟨n8, Nat.lt_succ_self _, ?_⟩
          rw [hI8]
          exact ⟨(a_5.set (Int.toNat i_7) x20.2), x20.1, i64 (i_7 + 1), hL8, sf0, rfl, rfl, hst⟩
        ·
          have hB8 := (ite_f hc9).symm.trans hB8
          refine W_exit ?_
          obtain rfl := so hB8
          obtain rfl := so hL8
          show R8 _ _
          rw [hR8]
          exact ⟨a_5, k_6, i_7, rfl, sf1, hst⟩
  ·
    clear hst
    intro f w_ hR
    rw [hR8] at hR
    obtain ⟨a_5, k_6, i_7, rfl, sf1, hst⟩ := hR
    clear hR8
    refine W_seq ?_
    refine W_region ?_
    refine L_mv (v := .int .i64 k_6) rfl sf1 ?_
    refine L_as (v := .int .i64 k_6) rfl rfl ?_
    refine L_nil ?_
    refine W_ret ?_
    refine retG1 (v1 := .int .i64 k_6) Try.results96 rfl ?_
    obtain rfl := so hF
    exact ⟨rfl, hst⟩

theorem l_markRuleS_c {fu : Nat} {a : List Rule} {k : Int} {v0 : Value} {H : FH} {w : World} (hst : Star H w [own (OR.ownS 36 (oRule 3 23)) [v0] a]) {r : Int × (List Rule)} (hF : l_markRuleS fu a k = some r) :
    C Try.prog 79 #[v0, .int .i64 k] w fun v w' => v = .int .i64 r.1 ∧ Star H w' [own (OR.ownS 36 (oRule 3 23)) [v0] r.2] := by
  unfold l_markRuleS at hF
  refine C_enter Try.func79 rfl Try.ntmps79 rfl ?_
  refine W_seq ?_
  refine W_region ?_
  refine L_as (v := .int .i64 0) rfl rfl ?_
  refine L_nil ?_
  refine W_seq ?_
  refine W_seq ?_
  refine W_region ?_
  refine L_as (v := .int .i64 0) rfl rfl ?_
  refine L_nil ?_
  obtain ⟨j8, hL8, hF⟩ := bind_some hF
  obtain ⟨R8, hR8⟩ : ∃ RR_ : Fr → World → Prop, RR_ = fun f w_ => ∃ a_5 : List Rule, ∃ k_6 : Int, ∃ i_7 : Int, j8 = .nx (a_5, k_6, i_7) ∧ f 1 = .int .i64 k_6 ∧ Star H w_ ([own (OR.ownS 36 (oRule 3 23)) [v0] a_5]) := ⟨_, rfl⟩
  refine W_join R8 ?_ ?_
  ·
    refine W_block ?_
    obtain ⟨I8, hI8⟩ : ∃ I : Nat → Fr → World → Prop, I = fun n f w_ => ∃ a_5 : List Rule, ∃ k_6 : Int, ∃ i_7 : Int, whileL (l_markRuleS_b1 fu) n (a_5, k_6, i_7) = some j8 ∧ f 0 = v0 ∧ f 1 = .int .i64 k_6 ∧ f 5 = .int .i64 i_7 ∧ Star H w_ ([own (OR.ownS 36 (oRule 3 23)) [v0] a_5]) := ⟨_, rfl⟩
    refine W_loop I8 (n := fu) ?_ ?_
    · rw [hI8]; exact ⟨a, k, 0, hL8, rfl, rfl, rfl, hst⟩
    ·
      clear hst
      intro n8 f w_ hI
      rw [hI8] at hI
      obtain ⟨a_5, k_6, i_7, hL8, sf0, sf1, sf5, hst⟩ := hI
      cases n8 with
      | zero => exact (while_zero hL8).elim
      | succ n8 =>
        obtain ⟨o8, hB8, hL8⟩ := while_succ hL8
        rw [l_markRuleS_b1] at hB8
        refine W_seq ?_
        refine W_seq ?_
        refine W_region ?_
        refine L_mv (v := .int .i64 i_7) rfl sf5 ?_
        refine L_mv (v := v0) rfl sf0 ?_
        refine L_len (v := v0) (n := List.length a_5) rfl Try.underlying24 rfl (Star.len 0 hst rfl) ?_
        refine L_lss (m := i_7) (n := (a_5.length : Int)) rfl rfl rfl ?_
        refine L_nil ?_
        refine W_cond (b := decide (i_7 < (a_5.length : Int))) rfl (fun hc9 => ?_) (fun hc9 => ?_)
        ·
          have hB8 := (ite_t hc9).symm.trans hB8
          refine W_skip ?_
          refine W_seq ?_
          refine W_block ?_
          refine W_seq ?_
          obtain ⟨x10, hx10, hB8⟩ := bind_some hB8
          refine W_region ?_
          refine L_mv (v := v0) rfl sf0 ?_
          refine L_mv (v := .int .i64 i_7) rfl sf5 ?_
          refine L_mv (v := .int .i64 k_6) rfl sf1 ?_
          obtain ⟨g14, cap_g14, hv15, _, _⟩ := Star.row 0 hst rfl hx10
          refine L_ixO (R := (oRule 3 23)) (tb := 0) 0 rfl Try.underlying24 Try.sizeOf36 rfl hv15 (by first | rfl | simp) rfl hx10 ?_
          refine L_fa (o' := Int.toNat i_7 * 5 + 0) rfl fa_36_0 rfl rfl ?_
          refine L_stF (j := 0) (u := .int .i64 k_6) (z := { x10 with kind := k_6 }) rfl Try.sizeOf3 rfl rfl rfl rfl hv15 hst hx10 fld_oRule_0 ?_
          intro w16 hst
          refine L_nil ?_
          refine W_seq ?_
          refine W_region ?_
          refine L_mv (v := .int .i64 k_6) rfl sf1 ?_
          refine L_add (m := k_6) (n := 1) rfl rfl rfl ?_
          refine L_as (v := .int .i64 (i64 (k_6 + 1))) rfl rfl ?_
          refine L_nil ?_
          refine W_seq ?_
          obtain ⟨x17, hx17, hB8⟩ := bind_some hB8
          obtain ⟨x27, hx27, hB8⟩ := bind_some hB8
          refine W_region ?_
          refine L_mv (v := v0) rfl sf0 ?_
          refine L_mv (v := .int .i64 i_7) rfl sf5 ?_
          refine L_ixO (R := (oRule 3 23)) (tb := 0) 0 rfl Try.underlying24 Try.sizeOf36 rfl hv15 (by first | rfl | simp) rfl hx17 ?_
          refine L_fa (o' := Int.toNat i_7 * 5 + 1) rfl fa_36_1 rfl rfl ?_
          obtain ⟨cs29, hst, hat29⟩ := Star.focus hst hx17
          have hat29 := hat29 _ _ _ hv15
          obtain ⟨u29_0, u29_1, u29_2, rfl, hst⟩ := oRule_open hst
          refine L_ld (v := u29_0) rfl Try.isAgg23 rfl (At.cell hat29 (j := 1) rfl) ?_
          refine L_mv (v := .int .i64 (i64 (k_6 + 1))) rfl rfl ?_
          obtain ⟨Hb33, hle34, hsb35, hfz36, hbk37⟩ := Star.lend [_] hst
          refine L_call (args := #[u29_0, .int .i64 (i64 (k_6 + 1))]) rfl Try.call44 (ops2 rfl rfl) (l_markIntS_c (a := x17.vars) (k := i64 (k_6 + 1)) hsb35 hx27) ?_
          rintro _ w38 ⟨rfl, hst⟩
          have hst := hbk37 hst (closedL_cons (closed_own (OR.closed_ownS closed_int) _ _) closedL_nil)
          refine L_as (v := .int .i64 x27.1) rfl rfl ?_
          refine L_nil ?_
          refine W_seq ?_
          have hst := oRule_close (r := ({ kind := x17.kind, vars := x27.2, coefs := x17.coefs, bound := x17.bound, rows := x17.rows } : Rule)) hst
          have hst := Star.unfocus (x' := ({ kind := x17.kind, vars := x27.2, coefs := x17.coefs, bound := x17.bound, rows := x17.rows } : Rule)) (idx_some hx17).2.2 hst
          obtain ⟨x39, hx39, hB8⟩ := bind_some hB8
          obtain ⟨x49, hx49, hB8⟩ := bind_some hB8
          refine W_region ?_
          refine L_mv (v := v0) rfl sf0 ?_
          refine L_mv (v := .int .i64 i_7) rfl sf5 ?_
          refine L_ixO (R := (oRule 3 23)) (tb := 0) 0 rfl Try.underlying24 Try.sizeOf36 rfl hv15 (by first | rfl | simp) rfl hx39 ?_
          refine L_fa (o' := Int.toNat i_7 * 5 + 2) rfl fa_36_2 rfl rfl ?_
          obtain ⟨cs51, hst, hat51⟩ := Star.focus hst hx39
          have hat51 := hat51 _ _ _ hv15
          obtain ⟨u51_0, u51_1, u51_2, rfl, hst⟩ := oRule_open hst
          refine L_ld (v := u51_1) rfl Try.isAgg23 rfl (At.cell hat51 (j := 2) rfl) ?_
          refine L_mv (v := .int .i64 x27.1) rfl rfl ?_
          have hst := Star.get 1 hst rfl
          obtain ⟨Hb55, hle56, hsb57, hfz58, hbk59⟩ := Star.lend [_] hst
          refine L_call (args := #[u51_1, .int .i64 x27.1]) rfl Try.call44 (ops2 rfl rfl) (l_markIntS_c (a := x39.coefs) (k := x27.1) hsb57 hx49) ?_
          rintro _ w60 ⟨rfl, hst⟩
          have hst := hbk59 hst (closedL_cons (closed_own (OR.closed_ownS closed_int) _ _) closedL_nil)
          refine L_as (v := .int .i64 x49.1) rfl rfl ?_
          refine L_nil ?_
          refine W_seq ?_
          have hst := Star.get 3 hst rfl
          have hst := Star.get 3 hst rfl
          have hst := Star.get 2 hst rfl
          have hst := Star.get 3 hst rfl
          have hst := oRule_close (r := ({ kind := x39.kind, vars := x39.vars, coefs := x49.2, bound := x39.bound, rows := x39.rows } : Rule)) hst
          have hst := Star.unfocus (x' := ({ kind := x39.kind, vars := x39.vars, coefs := x49.2, bound := x39.bound, rows := x39.rows } : Rule)) (idx_some hx39).2.2 hst
          obtain ⟨x61, hx61, hB8⟩ := bind_some hB8
          refine W_region ?_
          refine L_mv (v := v0) rfl sf0 ?_
          refine L_mv (v := .int .i64 i_7) rfl sf5 ?_
          refine L_mv (v := .int .i64 x49.1) rfl rfl ?_
          refine L_ixO (R := (oRule 3 23)) (tb := 0) 0 rfl Try.underlying24 Try.sizeOf36 rfl hv15 (by first | rfl | simp) rfl hx61 ?_
          refine L_fa (o' := Int.toNat i_7 * 5 + 3) rfl fa_36_3 rfl rfl ?_
          refine L_stF (j := 3) (u := .int .i64 x49.1) (z := { x61 with bound := x49.1 }) rfl Try.sizeOf3 rfl rfl rfl rfl hv15 hst hx61 fld_oRule_3 ?_
          intro w63 hst
          refine L_nil ?_
          refine W_seq ?_
          refine W_region ?_
          refine L_mv (v := .int .i64 x49.1) rfl rfl ?_
          refine L_add (m := x49.1) (n := 1) rfl rfl rfl ?_
          refine L_as (v := .int .i64 (i64 (x49.1 + 1))) rfl rfl ?_
          refine L_nil ?_
          obtain ⟨x64, hx64, hB8⟩ := bind_some hB8
          obtain ⟨x74, hx74, hB8⟩ := bind_some hB8
          refine W_region ?_
          refine L_mv (v := v0) rfl sf0 ?_
          refine L_mv (v := .int .i64 i_7) rfl sf5 ?_
          refine L_ixO (R := (oRule 3 23)) (tb := 0) 0 rfl Try.underlying24 Try.sizeOf36 rfl hv15 (by first | rfl | simp) rfl hx64 ?_
          refine L_fa (o' := Int.toNat i_7 * 5 + 4) rfl fa_36_4 rfl rfl ?_
          obtain ⟨cs76, hst, hat76⟩ := Star.focus hst hx64
          have hat76 := hat76 _ _ _ hv15
          obtain ⟨u76_0, u76_1, u76_2, rfl, hst⟩ := oRule_open hst
          refine L_ld (v := u76_2) rfl Try.isAgg34 rfl (At.cell hat76 (j := 4) rfl) ?_
          refine L_mv (v := .int .i64 (i64 (x49.1 + 1))) rfl rfl ?_
          have hst := Star.get 2 hst rfl
          obtain ⟨Hb80, hle81, hsb82, hfz83, hbk84⟩ := Star.lend [_] hst
          refine L_call (args := #[u76_2, .int .i64 (i64 (x49.1 + 1))]) rfl Try.call96 (ops2 rfl rfl) (l_markIntSS_c (a := x64.rows) (k := i64 (x49.1 + 1)) hsb82 hx74) ?_
          rintro _ w85 ⟨rfl, hst⟩
          have hst := hbk84 hst (closedL_cons (closed_own (OR.closed_ownS (OR.closed_ownS closed_int)) _ _) closedL_nil)
          refine L_as (v := .int .i64 x74.1) rfl rfl ?_
          refine L_nil ?_
          have hst := Star.get 3 hst rfl
          have hst := Star.get 1 hst rfl
          have hst := Star.get 3 hst rfl
          have hst := Star.get 3 hst rfl
          have hst := oRule_close (r := ({ kind := x64.kind, vars := x64.vars, coefs := x64.coefs, bound := x64.bound, rows := x74.2 } : Rule)) hst
          have hst := Star.unfocus (x' := ({ kind := x64.kind, vars := x64.vars, coefs := x64.coefs, bound := x64.bound, rows := x74.2 } : Rule)) (idx_some hx64).2.2 hst
          refine W_region ?_
          refine L_mv (v := .int .i64 i_7) rfl sf5 ?_
          refine L_add (m := i_7) (n := 1) rfl rfl rfl ?_
          refine L_as (v := .int .i64 (i64 (i_7 + 1))) rfl rfl ?_
          refine L_nil ?_
          obtain rfl := so hB8
          show ∃ m, m < _ ∧ I8 m _ _
          refine ⟨n8, Nat.lt_succ_self _, ?_⟩
          rw [hI8]
          exact ⟨(((((a_5.set (Int.toNat i_7) ({ x10 with kind := k_6 })).set (Int.toNat i_7) ({ kind := x17.kind, vars := x27.2, coefs := x17.coefs, bound := x17.bound, rows := x17.rows } : Rule)).set (Int.toNat i_7) ({ kind := x39.kind, vars := x39.vars, coefs := x49.2, bound := x39.bound, rows := x39.rows } : Rule)).set (Int.toNat i_7) ({ x61 with bound := x49.1 })).set (Int.toNat i_7) ({ kind := x64.kind, vars := x64.vars, coefs := x64.coefs, bound := x64.bound, rows := x74.2 } : Rule)), x74.1, i64 (i_7 + 1), hL8, sf0, rfl, rfl, hst⟩
        ·
          have hB8 := (ite_f hc9).symm.trans hB8
          refine W_exit ?_
          obtain rfl := so hB8
          obtain rfl := so hL8
          show R8 _ _
          rw [hR8]
          exact ⟨a_5, k_6, i_7, rfl, sf1, hst⟩
  ·
    clear hst
    intro f w_ hR
    rw [hR8] at hR
    obtain ⟨a_5, k_6, i_7, rfl, sf1, hst⟩ := hR
    clear hR8
    refine W_seq ?_
    refine W_region ?_
    refine L_mv (v := .int .i64 k_6) rfl sf1 ?_
    refine L_as (v := .int .i64 k_6) rfl rfl ?_
    refine L_nil ?_
    refine W_ret ?_
    refine retG1 (v1 := .int .i64 k_6) Try.results79 rfl ?_
    obtain rfl := so hF
    exact ⟨rfl, hst⟩

theorem l_markModel_c {fu : Nat} {a : Model} {k : Int} {v0_0 : Value} {v0_1 : Value} {H : FH} {w : World} (hst : Star H w [own (OR.ownS 3 (OR.frz RP.int)) [v0_0] a.sizes, own (OR.ownS 36 (oRule 3 23)) [v0_1] a.rules]) {r : Int × Model} (hF : l_markModel fu a k = some r) :
    C Try.prog 43 #[.agg #[v0_0, v0_1], .int .i64 k] w fun v w' => v = .int .i64 r.1 ∧ Star H w' [own (OR.ownS 3 (OR.frz RP.int)) [v0_0] r.2.sizes, own (OR.ownS 36 (oRule 3 23)) [v0_1] r.2.rules] := by
  unfold l_markModel at hF
  refine C_enter Try.func43 rfl Try.ntmps43 rfl ?_
  refine W_seq ?_
  refine W_region ?_
  refine L_box (v := .agg #[v0_0, v0_1]) (cs := #[v0_0, v0_1]) rfl rfl rfl hst ?_
  intro g3 w4 hst
  refine L_as (v := .int .i64 0) rfl rfl ?_
  refine L_nil ?_
  refine W_seq ?_
  obtain ⟨x10, hx10, hF⟩ := bind_some hF
  refine W_region ?_
  refine L_fa (o' := 0) rfl fa_26_0 rfl rfl ?_
  refine L_ld (v := v0_0) rfl Try.isAgg23 rfl (At.cell0 (Blk.at (Star.blkAt 0 hst rfl)) (j := 0) rfl) ?_
  refine L_mv (v := .int .i64 k) rfl rfl ?_
  have hst := Star.get 1 hst rfl
  obtain ⟨Hb12, hle13, hsb14, hfz15, hbk16⟩ := Star.lend [_] hst
  refine L_call (args := #[v0_0, .int .i64 k]) rfl Try.call44 (ops2 rfl rfl) (l_markIntS_c (a := a.sizes) (k := k) hsb14 hx10) ?_
  rintro _ w17 ⟨rfl, hst⟩
  have hst := hbk16 hst (closedL_cons (closed_own (OR.closed_ownS closed_int) _ _) closedL_nil)
  refine L_as (v := .int .i64 x10.1) rfl rfl ?_
  refine L_nil ?_
  refine W_seq ?_
  obtain ⟨x23, hx23, hF⟩ := bind_some hF
  refine W_region ?_
  refine L_fa (o' := 1) rfl fa_26_1 rfl rfl ?_
  refine L_ld (v := v0_1) rfl Try.isAgg24 rfl (At.cell0 (Blk.at (Star.blkAt 1 hst rfl)) (j := 1) rfl) ?_
  refine L_mv (v := .int .i64 x10.1) rfl rfl ?_
  have hst := Star.get 2 hst rfl
  obtain ⟨Hb25, hle26, hsb27, hfz28, hbk29⟩ := Star.lend [_] hst
  refine L_call (args := #[v0_1, .int .i64 x10.1]) rfl Try.call79 (ops2 rfl rfl) (l_markRuleS_c (a := a.rules) (k := x10.1) hsb27 hx23) ?_
  rintro _ w30 ⟨rfl, hst⟩
  have hst := hbk29 hst (closedL_cons (closed_own (OR.closed_ownS closed_oRule) _ _) closedL_nil)
  refine L_as (v := .int .i64 x23.1) rfl rfl ?_
  refine L_nil ?_
  refine W_seq ?_
  refine W_region ?_
  refine L_mv (v := .int .i64 x23.1) rfl rfl ?_
  refine L_as (v := .int .i64 x23.1) rfl rfl ?_
  refine L_nil ?_
  refine W_ret ?_
  refine retG1 (v1 := .int .i64 x23.1) Try.results43 rfl ?_
  obtain rfl := so hF
  have hst := Star.get 1 hst rfl
  exact ⟨rfl, (Star.keepN 2 hst)⟩

theorem l_heldIntS_c {a : List Int} {k : Int} {v0 : Value} {H : FH} {w : World} (hst : Star H w []) (h0 : (RP.slice 3 RP.int).rel H [v0] a) {r : Int} (hF : l_heldIntS a k = some r) :
    C Try.prog 45 #[v0, .int .i64 k] w fun v w' => v = .int .i64 r ∧ Star H w' [] := by
  unfold l_heldIntS at hF
  refine C_enter Try.func45 rfl Try.ntmps45 rfl ?_
  refine W_seq ?_
  refine W_region ?_
  refine L_as (v := .int .i64 0) rfl rfl ?_
  refine L_nil ?_
  refine W_seq ?_
  refine W_seq ?_
  refine W_region ?_
  refine L_as (v := .int .i64 0) rfl rfl ?_
  refine L_nil ?_
  have hlen3 : List.length a ≤ 9223372036854775807 := len_le (slice_len h0)
  obtain ⟨j3, hL3, hF⟩ := bind_some hF
  obtain ⟨R3, hR3⟩ : ∃ RR_ : Fr → World → Prop, RR_ = fun f w_ => ∃ k_2 : Int, j3 = .nx k_2 ∧ f 1 = .int .i64 k_2 ∧ Star H w_ ([]) := ⟨_, rfl⟩
  refine W_join R3 ?_ ?_
  ·
    refine W_block ?_
    obtain ⟨I3, hI3⟩ : ∃ I : Nat → Fr → World → Prop, I = fun n f w_ => ∃ i_1 : Nat, ∃ suf3 : List Int, ∃ k_2 : Int, n = suf3.length ∧ List.drop i_1 a = suf3 ∧ i_1 + suf3.length = a.length ∧ rangeL l_heldIntS_b1 suf3 i_1 k_2 = some j3 ∧ f 0 = v0 ∧ f 1 = .int .i64 k_2 ∧ f 5 = .int .i64 (i_1 : Int) ∧ Star H w_ ([]) := ⟨_, rfl⟩
    refine W_loop I3 (n := a.length) ?_ ?_
    · rw [hI3]; exact ⟨0, a, k, rfl, rfl, Nat.zero_add _, hL3, rfl, rfl, rfl, hst⟩
    ·
      clear hst
      intro n3 f w_ hI
      rw [hI3] at hI
      obtain ⟨i_1, suf3, k_2, rfl, hd3, hl3, hL3, sf0, sf1, sf5, hst⟩ := hI
      refine W_seq ?_
      refine W_seq ?_
      refine W_region ?_
      refine L_mv (v := .int .i64 (i_1 : Int)) rfl sf5 ?_
      refine L_mv (v := v0) rfl sf0 ?_
      refine L_len (v := v0) (n := List.length a) rfl Try.underlying23 rfl (slice_len h0) ?_
      refine L_lss (m := (i_1 : Int)) (n := (a.length : Int)) rfl rfl rfl ?_
      refine L_nil ?_
      refine W_cond (b := decide ((i_1 : Int) < (a.length : Int))) rfl (fun hc4 => ?_) (fun hc4 => ?_)
      ·
        have hlt3 := of_decide_eq_true hc4
        cases suf3 with
        | nil => exact absurd hlt3 (by simp at hl3; omega)
        | cons x_3 rest3 =>
          obtain ⟨o3, hB3, hL3⟩ := range_cons hL3
          rw [l_heldIntS_b1] at hB3
          have hix3 := drop_idx hd3
          refine W_skip ?_
          refine W_seq ?_
          refine W_block ?_
          refine W_seq ?_
          refine W_seq ?_
          refine W_region ?_
          refine L_mv (v := v0) rfl sf0 ?_
          refine L_mv (v := .int .i64 (i_1 : Int)) rfl sf5 ?_
          refine L_ix (r := RP.int) rfl Try.underlying23 Try.sizeOf3 rfl h0 rfl hix3 ?_
          intro g9 o10 cs_g9 hrk_hat11 hat11
          obtain rfl : _ = [_] := hrk_hat11
          refine L_ld (v := .int .i64 x_3) rfl Try.isAgg3 rfl (At.cell (AtH.at hat11 hst.sub) (j := 0) rfl) ?_
          refine L_mv (v := .int .i64 k_2) rfl sf1 ?_
          refine L_neq (m := x_3) (n := k_2) rfl rfl rfl ?_
          refine L_nil ?_
          refine W_cond (b := (x_3 != k_2)) rfl (fun hc13 => ?_) (fun hc13 => ?_)
          ·
            have hB3 := (ite_t hc13).symm.trans hB3
            refine W_seq ?_
            refine W_region ?_
            refine L_as (v := .int .i64 (-1)) rfl rfl ?_
            refine L_nil ?_
            refine W_ret ?_
            refine retG1 (v1 := .int .i64 (-1)) Try.results45 rfl ?_
            obtain rfl := so hB3
            obtain rfl := so hL3
            obtain rfl := so hF
            exact ⟨rfl, hst⟩
          ·
            have hB3 := (ite_f hc13).symm.trans hB3
            refine W_skip ?_
            refine W_region ?_
            refine L_mv (v := .int .i64 k_2) rfl sf1 ?_
            refine L_add (m := k_2) (n := 1) rfl rfl rfl ?_
            refine L_as (v := .int .i64 (i64 (k_2 + 1))) rfl rfl ?_
            refine L_nil ?_
            refine W_region ?_
            refine L_mv (v := .int .i64 (i_1 : Int)) rfl sf5 ?_
            refine L_add (m := (i_1 : Int)) (n := 1) rfl rfl rfl ?_
            refine L_as (v := .int .i64 (i64 ((i_1 : Int) + 1))) rfl rfl ?_
            refine L_nil ?_
            obtain rfl := so hB3
            show ∃ m, m < _ ∧ I3 m _ _
            refine ⟨rest3.length, by simp, ?_⟩
            rw [hI3]
            exact ⟨i_1 + 1, rest3, i64 (k_2 + 1), rfl, drop_next hd3, by simp at hl3; omega, hL3, sf0, rfl, (Eq.trans rfl (congrArg (Value.int .i64) (i64_succ (n := a.length) (by simp at hl3; omega) hlen3))), hst⟩
      ·
        cases suf3 with
        | cons _ _ => exact absurd (of_decide_eq_false hc4) (by simp at hl3; omega)
        | nil =>
          obtain rfl := range_nil hL3
          refine W_exit ?_
          show R3 _ _
          rw [hR3]
          exact ⟨k_2, rfl, sf1, hst⟩
  ·
    clear hst
    intro f w_ hR
    rw [hR3] at hR
    obtain ⟨k_2, rfl, sf1, hst⟩ := hR
    clear hR3
    refine W_seq ?_
    refine W_region ?_
    refine L_mv (v := .int .i64 k_2) rfl sf1 ?_
    refine L_as (v := .int .i64 k_2) rfl rfl ?_
    refine L_nil ?_
    refine W_ret ?_
    refine retG1 (v1 := .int .i64 k_2) Try.results45 rfl ?_
    obtain rfl := so hF
    exact ⟨rfl, hst⟩

theorem l_FnExactNextModel_c {fu : Nat} {aM : Model} {aCells : List Int} {v0_0 : Value} {v0_1 : Value} {v1 : Value} {H : FH} {w : World} (hst : Star H w []) (h0_0 : (RP.slice 3 RP.int).rel H [v0_0] aM.sizes) (h0_1 : (RP.slice 96 (rRule 3 23)).rel H [v0_1] aM.rules) (h1 : (RP.slice 3 RP.int).rel H [v1] aCells) {r : Bool} (hF : l_FnExactNextModel fu aM aCells = some r) :
    C Try.prog 12 #[.agg #[v0_0, v0_1], v1] w fun v w' => v = .bool r ∧ Star H w' [] := by
  unfold l_FnExactNextModel at hF
  refine C_enter Try.func12 rfl Try.ntmps12 rfl ?_
  refine W_seq ?_
  refine W_region ?_
  refine L_box (v := .agg #[v0_0, v0_1]) (cs := #[v0_0, v0_1]) rfl rfl rfl hst ?_
  intro g3 w4 hst
  refine L_as (v := .bool false) rfl rfl ?_
  refine L_nil ?_
  refine W_seq ?_
  refine W_seq ?_
  refine W_region ?_
  refine L_mv (v := v1) rfl rfl ?_
  refine L_len (v := v1) (n := List.length aCells) rfl Try.underlying23 rfl (slice_len h1) ?_
  refine L_gtr (m := (aCells.length : Int)) (n := 1048576) rfl rfl rfl ?_
  refine L_nil ?_
  refine W_cond (b := decide ((aCells.length : Int) > 1048576)) rfl (fun hc5 => ?_) (fun hc5 => ?_)
  ·
    have hF := (ite_t hc5).symm.trans hF
    refine W_seq ?_
    refine W_region ?_
    refine L_as (v := .bool true) rfl rfl ?_
    refine L_nil ?_
    refine W_ret ?_
    refine retG1 (v1 := .bool true) Try.results12 rfl ?_
    obtain rfl := so hF
    exact ⟨rfl, (Star.keepN 0 hst)⟩
  ·
    have hF := (ite_f hc5).symm.trans hF
    refine W_skip ?_
    refine W_seq ?_
    refine W_region ?_
    refine L_as (v := .int .i64 1048576) rfl rfl ?_
    refine L_nil ?_
    refine W_seq ?_
    obtain ⟨x11, hx11, hF⟩ := bind_some hF
    refine W_region ?_
    refine L_lda (cs := [v0_0, v0_1]) rfl Try.isAgg55 Try.sizeOf55 rfl (At.sub0 (Blk.at (Star.blkAt 0 hst rfl)) 0 2) rfl ?_
    refine L_mv (v := .int .i64 1048576) rfl rfl ?_
    obtain ⟨Hb13, hle14, hsb15, hfz16, hbk17⟩ := Star.borrow hst
    refine L_call (args := #[.agg #[v0_0, v0_1], .int .i64 1048576]) rfl Try.call38 (ops2 rfl rfl) (l_szModel_c (a := aM) (left := 1048576) hsb15 (RP.mono _ h0_0 hle14) (RP.mono _ h0_1 hle14) hx11) ?_
    rintro _ w18 ⟨rfl, hst⟩
    have hst := hbk17 hst closedL_nil
    refine L_as (v := .int .i64 x11) rfl rfl ?_
    refine L_nil ?_
    refine W_seq ?_
    refine W_seq ?_
    refine W_region ?_
    refine L_mv (v := .int .i64 x11) rfl rfl ?_
    refine L_lss (m := x11) (n := 0) rfl rfl rfl ?_
    refine L_nil ?_
    refine W_cond (b := decide (x11 < 0)) rfl (fun hc19 => ?_) (fun hc19 => ?_)
    ·
      have hF := (ite_t hc19).symm.trans hF
      refine W_seq ?_
      refine W_region ?_
      refine L_as (v := .bool true) rfl rfl ?_
      refine L_nil ?_
      refine W_ret ?_
      refine retG1 (v1 := .bool true) Try.results12 rfl ?_
      obtain rfl := so hF
      exact ⟨rfl, (Star.keepN 0 hst)⟩
    ·
      have hF := (ite_f hc19).symm.trans hF
      refine W_skip ?_
      refine W_seq ?_
      obtain ⟨x25, hx25, hF⟩ := bind_some hF
      obtain ⟨x34, hx34, hF⟩ := bind_some hF
      obtain ⟨x45, hx45, hF⟩ := bind_some hF
      refine W_region ?_
      refine L_lda (cs := [v0_0, v0_1]) rfl Try.isAgg55 Try.sizeOf55 rfl (At.sub0 (Blk.at (Star.blkAt 0 hst rfl)) 0 2) rfl ?_
      obtain ⟨Hb48, hle49, hsb50, hfz51, hbk52⟩ := Star.borrow hst
      refine L_call (args := #[.agg #[v0_0, v0_1]]) rfl Try.call39 (ops1 rfl) (l_toModel_c (a := aM) hsb50 (RP.mono _ h0_0 hle49) (RP.mono _ h0_1 hle49) hx25) ?_
      rintro _ w53 ⟨r53_0, r53_1, rfl, hst⟩
      have hst := hbk52 hst (closedL_cons (closed_own (OR.closed_ownS closed_int) _ _) (closedL_cons (closed_own (OR.closed_ownS closed_oRule) _ _) closedL_nil))
      refine L_mv (v := v1) rfl rfl ?_
      obtain ⟨Hb56, hle57, hsb58, hfz59, hbk60⟩ := Star.borrow hst
      refine L_call (args := #[v1]) rfl Try.call40 (ops1 rfl) (l_toIntS_c (a := aCells) hsb58 (RP.mono _ h1 hle57) hx34) ?_
      rintro r61_0 w61 ⟨_, rfl, hst⟩
      have hst := hbk60 hst (closedL_cons (closed_own (OR.closed_ownS closed_int) _ _) closedL_nil)
      obtain ⟨Hb63, hle64, hsb65, hfz66, hbk67⟩ := Star.borrow hst
      have hb68 : (RP.slice 3 RP.int).rel Hb63 [r53_0] x25.sizes := fz_own 1 hfz66 rfl
      have hb69 : (RP.slice 36 (rRule 3 23)).rel Hb63 [r53_1] x25.rules := fz_own 2 hfz66 rfl
      have hb70 : (RP.slice 3 RP.int).rel Hb63 [r61_0] x34 := fz_own 0 hfz66 rfl
      refine L_call (args := #[.agg #[r53_0, r53_1], r61_0]) rfl Try.call36 (ops2 rfl rfl) (s_NextModel_c (m := x25) (cells := x34) hsb65 hb68 hb69 hb70 hx45) ?_
      rintro _ w71 ⟨r71_0, rfl, hst⟩
      have hst := hbk67 hst (closedL_cons (closed_own (OR.closed_ownS closed_int) _ _) closedL_nil)
      refine L_mv (v := .tuple #[r71_0, .bool x45.2]) rfl rfl ?_
      refine L_ex (v := r71_0) rfl rfl rfl ?_
      refine L_ex (v := .bool x45.2) rfl rfl rfl ?_
      refine L_as (v := r71_0) rfl rfl ?_
      refine L_as (v := .bool x45.2) rfl rfl ?_
      refine L_nil ?_
      refine W_seq ?_
      obtain ⟨x78, hx78, hF⟩ := bind_some hF
      refine W_region ?_
      refine L_lda (cs := [v0_0, v0_1]) rfl Try.isAgg55 Try.sizeOf55 rfl (At.sub0 (Blk.at (Star.blkAt 4 hst rfl)) 0 2) rfl ?_
      obtain ⟨Hb85, hle86, hsb87, hfz88, hbk89⟩ := Star.borrow hst
      refine L_call (args := #[.agg #[v0_0, v0_1]]) rfl Try.call39 (ops1 rfl) (l_toModel_c (a := aM) hsb87 (RP.mono _ h0_0 hle86) (RP.mono _ h0_1 hle86) hx78) ?_
      rintro _ w90 ⟨r90_0, r90_1, rfl, hst⟩
      have hst := hbk89 hst (closedL_cons (closed_own (OR.closed_ownS closed_int) _ _) (closedL_cons (closed_own (OR.closed_ownS closed_oRule) _ _) closedL_nil))
      refine L_al (cs := #[(.slice none 0 0), (.slice none 0 0)]) rfl Try.zeroValue26 rfl hst ?_
      intro g93 w94 hst
      refine L_staB (vs := #[r90_0, r90_1]) (cs2 := #[r90_0, r90_1]) 0 rfl Try.sizeOf26 rfl rfl rfl (ones_cons (one_len (Star.len 1 hst rfl)) (ones_cons (one_len (Star.len 2 hst rfl)) ones_nil)) hst rfl (by decide) rfl ?_
      intro w95 hst
      refine L_nil ?_
      refine W_seq ?_
      obtain ⟨x101, hx101, hF⟩ := bind_some hF
      refine W_region ?_
      refine L_mv (v := v1) rfl rfl ?_
      obtain ⟨Hb104, hle105, hsb106, hfz107, hbk108⟩ := Star.borrow hst
      refine L_call (args := #[v1]) rfl Try.call40 (ops1 rfl) (l_toIntS_c (a := aCells) hsb106 (RP.mono _ h1 hle105) hx101) ?_
      rintro r109_0 w109 ⟨_, rfl, hst⟩
      have hst := hbk108 hst (closedL_cons (closed_own (OR.closed_ownS closed_int) _ _) closedL_nil)
      refine L_as (v := r109_0) rfl rfl ?_
      refine L_nil ?_
      refine W_seq ?_
      obtain ⟨x119, hx119, hF⟩ := bind_some hF
      refine W_region ?_
      refine L_lda (cs := [r90_0, r90_1]) rfl Try.isAgg26 Try.sizeOf26 rfl (At.sub0 (Blk.at (Star.blkAt 1 hst rfl)) 0 2) rfl ?_
      refine L_mv (v := r109_0) rfl rfl ?_
      obtain ⟨Hb122, hle123, hsb124, hfz125, hbk126⟩ := Star.borrow hst
      have hb127 : (RP.slice 3 RP.int).rel Hb122 [r90_0] x78.sizes := fz_own 2 hfz125 rfl
      have hb128 : (RP.slice 36 (rRule 3 23)).rel Hb122 [r90_1] x78.rules := fz_own 3 hfz125 rfl
      have hb129 : (RP.slice 3 RP.int).rel Hb122 [r109_0] x101 := fz_own 0 hfz125 rfl
      refine L_call (args := #[.agg #[r90_0, r90_1], r109_0]) rfl Try.call35 (ops2 rfl rfl) (i_NextModel_c (m := x78) (cells := x101) hsb124 hb127 hb128 hb129 hx119) ?_
      rintro _ w130 ⟨r130_0, rfl, hst⟩
      have hst := hbk126 hst (closedL_cons (closed_own (OR.closed_ownS closed_int) _ _) closedL_nil)
      refine L_mv (v := .tuple #[r130_0, .bool x119.2]) rfl rfl ?_
      refine L_ex (v := r130_0) rfl rfl rfl ?_
      refine L_ex (v := .bool x119.2) rfl rfl rfl ?_
      refine L_as (v := r130_0) rfl rfl ?_
      refine L_as (v := .bool x119.2) rfl rfl ?_
      refine L_nil ?_
      refine W_seq ?_
      refine W_seq ?_
      obtain ⟨x139, hx139, hF⟩ := bind_some hF
      obtain ⟨R141, hR141⟩ : ∃ RR_ : Fr → World → Prop, RR_ = fun f w_ => f 1 = v1 ∧ f 2 = .pointer (some ⟨g3, 0, none⟩) ∧ f 6 = r71_0 ∧ f 7 = .bool x45.2 ∧ f 8 = .pointer (some ⟨g93, 0, none⟩) ∧ f 9 = r109_0 ∧ f 10 = r130_0 ∧ f 11 = .bool x119.2 ∧ f 51 = .bool ((!x139) || (x119.2 != x45.2)) ∧ Star H w_ ([own (OR.ownS 3 (OR.frz RP.int)) [r71_0] x45.1, own (OR.ownS 3 (OR.frz RP.int)) [r109_0] x101, own (OR.ownS 3 (OR.frz RP.int)) [r130_0] x119.1, own (OR.ownS 3 (OR.frz RP.int)) [r90_0] x78.sizes, own (OR.ownS 36 (oRule 3 23)) [r90_1] x78.rules, box g93 26 #[r90_0, r90_1], box g3 55 #[v0_0, v0_1]]) := ⟨_, rfl⟩
      refine W_join R141 ?_ ?_
      ·
        refine W_region ?_
        refine L_mv (v := r130_0) rfl rfl ?_
        refine L_mv (v := r71_0) rfl rfl ?_
        obtain ⟨Hb142, hle143, hsb144, hfz145, hbk146⟩ := Star.borrow hst
        have hb147 : (RP.slice 3 RP.int).rel Hb142 [r130_0] x119.1 := fz_own 0 hfz145 rfl
        have hb148 : (RP.slice 3 RP.int).rel Hb142 [r71_0] x45.1 := fz_own 5 hfz145 rfl
        refine L_call (args := #[r130_0, r71_0]) rfl Try.call41 (ops2 rfl rfl) (l_eqIntS_c (a := x119.1) (b := x45.1) hsb144 hb147 hb148 hx139) ?_
        rintro _ w149 ⟨rfl, hst⟩
        have hst := hbk146 hst closedL_nil
        refine L_not_ (b := x139) rfl rfl ?_
        refine L_mv (v := .bool (!x139)) rfl rfl ?_
        refine L_split (d := 47) (b := (!x139)) rfl (fun hc150 => ?_) (fun hc150 => ?_)
        ·
          refine L_pass rfl ?_
          refine L_pass rfl ?_
          refine L_pass rfl ?_
          refine L_pick (v := .bool ((!x139) || (x119.2 != x45.2))) rfl rfl (or_t hc150) ?_
          refine L_nil ?_
          have hst := Star.get 9 hst rfl
          have hst := Star.get 3 hst rfl
          have hst := Star.get 5 hst rfl
          have hst := Star.get 5 hst rfl
          have hst := Star.get 4 hst rfl
          have hst := Star.get 5 hst rfl
          have hst := Star.get 6 hst rfl
          show R141 _ _
          rw [hR141]
          exact ⟨rfl, rfl, rfl, rfl, rfl, rfl, rfl, rfl, rfl, (Star.keepN 7 hst)⟩
        ·
          refine L_mv (v := .bool x119.2) rfl rfl ?_
          refine L_mv (v := .bool x45.2) rfl rfl ?_
          refine L_bneq (b := x119.2) (c := x45.2) rfl Try.underlying4 rfl rfl ?_
          refine L_pick (v := .bool ((!x139) || (x119.2 != x45.2))) rfl rfl (or_f hc150 rfl) ?_
          refine L_nil ?_
          have hst := Star.get 9 hst rfl
          have hst := Star.get 3 hst rfl
          have hst := Star.get 5 hst rfl
          have hst := Star.get 5 hst rfl
          have hst := Star.get 4 hst rfl
          have hst := Star.get 5 hst rfl
          have hst := Star.get 6 hst rfl
          show R141 _ _
          rw [hR141]
          exact ⟨rfl, rfl, rfl, rfl, rfl, rfl, rfl, rfl, rfl, (Star.keepN 7 hst)⟩
      ·
        intro f w_ hR
        rw [hR141] at hR
        obtain ⟨sf1, sf2, sf6, sf7, sf8, sf9, sf10, sf11, sf51, hst⟩ := hR
        clear hR141
        refine W_cond (b := ((!x139) || (x119.2 != x45.2))) sf51 (fun hc151 => ?_) (fun hc151 => ?_)
        ·
          have hF := (ite_t hc151).symm.trans hF
          refine W_seq ?_
          refine W_region ?_
          refine L_as (v := .bool false) rfl rfl ?_
          refine L_nil ?_
          refine W_ret ?_
          refine retG1 (v1 := .bool false) Try.results12 rfl ?_
          obtain rfl := so hF
          exact ⟨rfl, (Star.keepN 0 hst)⟩
        ·
          have hF := (ite_f hc151).symm.trans hF
          refine W_skip ?_
          refine W_seq ?_
          refine W_seq ?_
          obtain ⟨x157, hx157, hF⟩ := bind_some hF
          obtain ⟨x170, hx170, hF⟩ := bind_some hF
          refine W_drawS 3 [isV (.agg #[r90_0, r90_1]), isV (.agg #[v0_0, v0_1]), exA fun u_0 => exA fun u_1 => isV (.agg #[u_0, u_1])] [own (OR.ownS 3 (OR.frz RP.int)) [r71_0] x45.1, own (OR.ownS 3 (OR.frz RP.int)) [r109_0] x101, own (OR.ownS 3 (OR.frz RP.int)) [r130_0] x119.1, own (OR.ownS 3 (OR.frz RP.int)) [r90_0] x78.sizes, own (OR.ownS 36 (oRule 3 23)) [r90_1] x78.rules, box g93 26 #[r90_0, r90_1], box g3 55 #[v0_0, v0_1]] [.made 2 54 (fun v_ => own (OR.ownS 3 (OR.frz RP.int)) [(aggC v_ 0)] x157.sizes) none, .made 2 54 (fun v_ => own (OR.ownS 36 (oRule 3 23)) [(aggC v_ 1)] x157.rules) none] ([]) [([], []), ([], []), ([], [0, 1])] (S := [(some 2, some 54, none), (some 2, some 54, none)]) Try_mix (by kernel_rfl) rfl (by kernel_rfl) (amF_cons (mono_V _) (amF_cons (mono_V _) (amF_cons (mono_exA fun _ => mono_exA fun _ => mono_V _) amF_nil))) hst ?_ (fun f w_ H172 hS172 hE172 hT172 hst => ?_)
          ·
            refine opsS_cons ?_ ?_
            ·
              intro f w_ H172 X172 hS172 hE172 hP172 hst
              refine L_lda (cs := [r90_0, r90_1]) rfl Try.isAgg26 Try.sizeOf26 ((hS172 8 rfl).trans sf8) (At.sub0 (Blk.at (Star.blkAt 5 hst rfl)) 0 2) rfl ?_
              exact L_nil ⟨rfl, _, _, _, rfl, rfl, Le.refl _, rfl, hst⟩
            refine opsS_cons ?_ ?_
            ·
              intro f w_ H172 X172 hS172 hE172 hP172 hst
              refine L_lda (cs := [v0_0, v0_1]) rfl Try.isAgg55 Try.sizeOf55 ((hS172 2 rfl).trans sf2) (At.sub0 (Blk.at (Star.blkAt 6 hst rfl)) 0 2) rfl ?_
              exact L_nil ⟨rfl, _, _, _, rfl, rfl, Le.refl _, rfl, hst⟩
            refine opsS_cons ?_ ?_
            ·
              intro f w_ H172 X172 hS172 hE172 hP172 hst
              obtain ⟨Hb181, hle182, hsb183, hfz184, hbk185⟩ := Star.borrow hst
              refine L_call (args := #[.agg #[v0_0, v0_1]]) rfl Try.call39 (ops1 (hP172 1 53 rfl rfl)) (l_toModel_c (a := aM) hsb183 (RP.mono _ h0_0 (Le.trans hE172 hle182)) (RP.mono _ h0_1 (Le.trans hE172 hle182)) hx157) ?_
              rintro _ w186 ⟨r186_0, r186_1, rfl, hst⟩
              have hst := hbk185 hst (closedL_cons (closed_own (OR.closed_ownS closed_int) _ _) (closedL_cons (closed_own (OR.closed_ownS closed_oRule) _ _) closedL_nil))
              have hst := Star.get 1 hst rfl
              have hst := Star.get 1 hst rfl
              have hst := Star.get 8 hst rfl
              have hst := Star.get 8 hst rfl
              have hst := Star.get 8 hst rfl
              have hst := Star.get 8 hst rfl
              have hst := Star.get 8 hst rfl
              have hst := Star.get 8 hst rfl
              have hst := Star.get 8 hst rfl
              exact L_nil ⟨rfl, _, _, _, rfl, rfl, Le.refl _, ⟨_, _, rfl⟩, hst⟩
            exact opsS_nil
          ·
            have hst : Star H172 w_ ([own (OR.ownS 3 (OR.frz RP.int)) [r71_0] x45.1, own (OR.ownS 3 (OR.frz RP.int)) [r109_0] x101, own (OR.ownS 3 (OR.frz RP.int)) [r130_0] x119.1, own (OR.ownS 3 (OR.frz RP.int)) [r90_0] x78.sizes, own (OR.ownS 36 (oRule 3 23)) [r90_1] x78.rules, box g93 26 #[r90_0, r90_1], box g3 55 #[v0_0, v0_1], own (OR.ownS 3 (OR.frz RP.int)) [(aggC (f 54) 0)] x157.sizes, own (OR.ownS 36 (oRule 3 23)) [(aggC (f 54) 1)] x157.rules]) := hst
            obtain ⟨u189_0, u189_1, hv189⟩ := (hT172 2 54 rfl rfl)
            have hren : Star H172 w_ ([own (OR.ownS 3 (OR.frz RP.int)) [r71_0] x45.1, own (OR.ownS 3 (OR.frz RP.int)) [r109_0] x101, own (OR.ownS 3 (OR.frz RP.int)) [r130_0] x119.1, own (OR.ownS 3 (OR.frz RP.int)) [r90_0] x78.sizes, own (OR.ownS 36 (oRule 3 23)) [r90_1] x78.rules, box g93 26 #[r90_0, r90_1], box g3 55 #[v0_0, v0_1], own (OR.ownS 3 (OR.frz RP.int)) [(aggC (f 54) 0)] x157.sizes, own (OR.ownS 36 (oRule 3 23)) [(aggC (f 54) 1)] x157.rules]) := hst
            rw [hv189] at hren
            have hst : Star H172 w_ ([own (OR.ownS 3 (OR.frz RP.int)) [r71_0] x45.1, own (OR.ownS 3 (OR.frz RP.int)) [r109_0] x101, own (OR.ownS 3 (OR.frz RP.int)) [r130_0] x119.1, own (OR.ownS 3 (OR.frz RP.int)) [r90_0] x78.sizes, own (OR.ownS 36 (oRule 3 23)) [r90_1] x78.rules, box g93 26 #[r90_0, r90_1], box g3 55 #[v0_0, v0_1], own (OR.ownS 3 (OR.frz RP.int)) [u189_0] x157.sizes, own (OR.ownS 36 (oRule 3 23)) [u189_1] x157.rules]) := hren
            obtain ⟨Hb190, hle191, hsb192, hfz193, hbk194⟩ := Star.borrow hst
            have hb195 : (RP.slice 3 RP.int).rel Hb190 [r90_0] x78.sizes := fz_own 3 hfz193 rfl
            have hb196 : (RP.slice 36 (rRule 3 23)).rel Hb190 [r90_1] x78.rules := fz_own 4 hfz193 rfl
            have hb197 : (RP.slice 3 RP.int).rel Hb190 [u189_0] x157.sizes := fz_own 7 hfz193 rfl
            have hb198 : (RP.slice 36 (rRule 3 23)).rel Hb190 [u189_1] x157.rules := fz_own 8 hfz193 rfl
            refine L_call (args := #[.agg #[r90_0, r90_1], .agg #[u189_0, u189_1]]) rfl Try.call42 (ops2 (hT172 0 52 rfl rfl) hv189) (l_eqModel_c (a := x78) (b := x157) hsb192 hb195 hb196 hb197 hb198 hx170) ?_
            rintro _ w199 ⟨rfl, hst⟩
            have hst := hbk194 hst closedL_nil
            refine L_not_ (b := x170) rfl rfl ?_
            refine L_nil ?_
            refine W_cond (b := (!x170)) rfl (fun hc200 => ?_) (fun hc200 => ?_)
            ·
              have hF := (ite_t hc200).symm.trans hF
              refine W_seq ?_
              refine W_region ?_
              refine L_as (v := .bool false) rfl rfl ?_
              refine L_nil ?_
              refine W_ret ?_
              refine retG1 (v1 := .bool false) Try.results12 rfl ?_
              obtain rfl := so hF
              exact ⟨rfl, (Star.down (Star.keepN 0 hst) hE172 closedL_nil)⟩
            ·
              have hF := (ite_f hc200).symm.trans hF
              refine W_skip ?_
              refine W_seq ?_
              refine W_seq ?_
              obtain ⟨x206, hx206, hF⟩ := bind_some hF
              obtain ⟨x216, hx216, hF⟩ := bind_some hF
              refine W_region ?_
              refine L_mv (v := r109_0) rfl ((hS172 9 rfl).trans sf9) ?_
              refine L_mv (v := v1) rfl ((hS172 1 rfl).trans sf1) ?_
              obtain ⟨Hb218, hle219, hsb220, hfz221, hbk222⟩ := Star.borrow hst
              refine L_call (args := #[v1]) rfl Try.call40 (ops1 rfl) (l_toIntS_c (a := aCells) hsb220 (RP.mono _ h1 (Le.trans hE172 hle219)) hx206) ?_
              rintro r223_0 w223 ⟨_, rfl, hst⟩
              have hst := hbk222 hst (closedL_cons (closed_own (OR.closed_ownS closed_int) _ _) closedL_nil)
              obtain ⟨Hb225, hle226, hsb227, hfz228, hbk229⟩ := Star.borrow hst
              have hb230 : (RP.slice 3 RP.int).rel Hb225 [r109_0] x101 := fz_own 2 hfz228 rfl
              have hb231 : (RP.slice 3 RP.int).rel Hb225 [r223_0] x206 := fz_own 0 hfz228 rfl
              refine L_call (args := #[r109_0, r223_0]) rfl Try.call41 (ops2 rfl rfl) (l_eqIntS_c (a := x101) (b := x206) hsb227 hb230 hb231 hx216) ?_
              rintro _ w232 ⟨rfl, hst⟩
              have hst := hbk229 hst closedL_nil
              refine L_not_ (b := x216) rfl rfl ?_
              refine L_nil ?_
              refine W_cond (b := (!x216)) rfl (fun hc233 => ?_) (fun hc233 => ?_)
              ·
                have hF := (ite_t hc233).symm.trans hF
                refine W_seq ?_
                refine W_region ?_
                refine L_as (v := .bool false) rfl rfl ?_
                refine L_nil ?_
                refine W_ret ?_
                refine retG1 (v1 := .bool false) Try.results12 rfl ?_
                obtain rfl := so hF
                exact ⟨rfl, (Star.down (Star.keepN 0 hst) hE172 closedL_nil)⟩
              ·
                have hF := (ite_f hc233).symm.trans hF
                refine W_skip ?_
                refine W_seq ?_
                refine W_region ?_
                refine L_as (v := .int .i64 1) rfl rfl ?_
                refine L_nil ?_
                refine W_seq ?_
                obtain ⟨x239, hx239, hF⟩ := bind_some hF
                refine W_region ?_
                refine L_lda (cs := [r90_0, r90_1]) rfl Try.isAgg26 Try.sizeOf26 ((hS172 8 rfl).trans sf8) (At.sub0 (Blk.at (Star.blkAt 6 hst rfl)) 0 2) rfl ?_
                refine L_mv (v := .int .i64 1) rfl rfl ?_
                have hst := Star.get 5 hst rfl
                have hst := Star.get 5 hst rfl
                obtain ⟨Hb241, hle242, hsb243, hfz244, hbk245⟩ := Star.lend [_, _] hst
                refine L_call (args := #[.agg #[r90_0, r90_1], .int .i64 1]) rfl Try.call43 (ops2 rfl rfl) (l_markModel_c (a := x78) (k := 1) hsb243 hx239) ?_
                rintro _ w246 ⟨rfl, hst⟩
                have hst := hbk245 hst (closedL_cons (closed_own (OR.closed_ownS closed_int) _ _) (closedL_cons (closed_own (OR.closed_ownS closed_oRule) _ _) closedL_nil))
                refine L_as (v := .int .i64 x239.1) rfl rfl ?_
                refine L_nil ?_
                refine W_seq ?_
                obtain ⟨x252, hx252, hF⟩ := bind_some hF
                refine W_region ?_
                refine L_mv (v := r109_0) rfl ((hS172 9 rfl).trans sf9) ?_
                refine L_mv (v := .int .i64 x239.1) rfl rfl ?_
                have hst := Star.get 4 hst rfl
                obtain ⟨Hb254, hle255, hsb256, hfz257, hbk258⟩ := Star.lend [_] hst
                refine L_call (args := #[r109_0, .int .i64 x239.1]) rfl Try.call44 (ops2 rfl rfl) (l_markIntS_c (a := x101) (k := x239.1) hsb256 hx252) ?_
                rintro _ w259 ⟨rfl, hst⟩
                have hst := hbk258 hst (closedL_cons (closed_own (OR.closed_ownS closed_int) _ _) closedL_nil)
                refine L_as (v := .int .i64 x252.1) rfl rfl ?_
                refine L_nil ?_
                refine W_seq ?_
                refine W_seq ?_
                obtain ⟨b269, hb269, hF⟩ := bind_some hF
                obtain ⟨R270, hR270⟩ : ∃ RR_ : Fr → World → Prop, RR_ = fun f w_ => f 1 = v1 ∧ f 2 = .pointer (some ⟨g3, 0, none⟩) ∧ f 6 = r71_0 ∧ f 7 = .bool x45.2 ∧ f 10 = r130_0 ∧ f 80 = .bool (b269 || (x119.2 != x45.2)) ∧ Star H172 w_ ([own (OR.ownS 3 (OR.frz RP.int)) [r71_0] x45.1, own (OR.ownS 3 (OR.frz RP.int)) [r130_0] x119.1, box g3 55 #[v0_0, v0_1]]) := ⟨_, rfl⟩
                refine W_join R270 ?_ ?_
                ·
                  refine W_region ?_
                  refine L_mv (v := .int .i64 x252.1) rfl rfl ?_
                  refine L_lss (m := x252.1) (n := 0) rfl rfl rfl ?_
                  refine L_mv (v := .bool (decide (x252.1 < 0))) rfl rfl ?_
                  refine L_split (d := 70) (b := decide (x252.1 < 0)) rfl (fun hc271 => ?_) (fun hc271 => ?_)
                  ·
                    rw [ite_t hc271] at hb269
                    refine L_pass rfl ?_
                    refine L_pass rfl ?_
                    refine L_pass rfl ?_
                    refine L_pass rfl ?_
                    refine L_pick (v := .bool b269) rfl rfl (congrArg Value.bool (so hb269)) ?_
                    refine L_mv (v := .bool b269) rfl rfl ?_
                    refine L_split (d := 76) (b := b269) rfl (fun hc272 => ?_) (fun hc272 => ?_)
                    ·
                      refine L_pass rfl ?_
                      refine L_pass rfl ?_
                      refine L_pass rfl ?_
                      refine L_pick (v := .bool (b269 || (x119.2 != x45.2))) rfl rfl (or_t hc272) ?_
                      refine L_nil ?_
                      have hst := Star.get 7 hst rfl
                      have hst := Star.get 6 hst rfl
                      have hst := Star.get 6 hst rfl
                      show R270 _ _
                      rw [hR270]
                      exact ⟨((hS172 1 rfl).trans sf1), ((hS172 2 rfl).trans sf2), ((hS172 6 rfl).trans sf6), ((hS172 7 rfl).trans sf7), ((hS172 10 rfl).trans sf10), rfl, (Star.keepN 3 hst)⟩
                    ·
                      refine L_mv (v := .bool x119.2) rfl ((hS172 11 rfl).trans sf11) ?_
                      refine L_mv (v := .bool x45.2) rfl ((hS172 7 rfl).trans sf7) ?_
                      refine L_bneq (b := x119.2) (c := x45.2) rfl Try.underlying4 rfl rfl ?_
                      refine L_pick (v := .bool (b269 || (x119.2 != x45.2))) rfl rfl (or_f hc272 rfl) ?_
                      refine L_nil ?_
                      have hst := Star.get 7 hst rfl
                      have hst := Star.get 6 hst rfl
                      have hst := Star.get 6 hst rfl
                      show R270 _ _
                      rw [hR270]
                      exact ⟨((hS172 1 rfl).trans sf1), ((hS172 2 rfl).trans sf2), ((hS172 6 rfl).trans sf6), ((hS172 7 rfl).trans sf7), ((hS172 10 rfl).trans sf10), rfl, (Star.keepN 3 hst)⟩
                  ·
                    rw [ite_f hc271] at hb269
                    obtain ⟨x267, hx267, hb269⟩ := bind_some hb269
                    refine L_mv (v := r130_0) rfl ((hS172 10 rfl).trans sf10) ?_
                    refine L_mv (v := r71_0) rfl ((hS172 6 rfl).trans sf6) ?_
                    obtain ⟨Hb273, hle274, hsb275, hfz276, hbk277⟩ := Star.borrow hst
                    have hb278 : (RP.slice 3 RP.int).rel Hb273 [r130_0] x119.1 := fz_own 5 hfz276 rfl
                    have hb279 : (RP.slice 3 RP.int).rel Hb273 [r71_0] x45.1 := fz_own 4 hfz276 rfl
                    refine L_call (args := #[r130_0, r71_0]) rfl Try.call41 (ops2 rfl rfl) (l_eqIntS_c (a := x119.1) (b := x45.1) hsb275 hb278 hb279 hx267) ?_
                    rintro _ w280 ⟨rfl, hst⟩
                    have hst := hbk277 hst closedL_nil
                    refine L_not_ (b := x267) rfl rfl ?_
                    refine L_pick (v := .bool b269) rfl rfl (congrArg Value.bool (so hb269)) ?_
                    refine L_mv (v := .bool b269) rfl rfl ?_
                    refine L_split (d := 76) (b := b269) rfl (fun hc281 => ?_) (fun hc281 => ?_)
                    ·
                      refine L_pass rfl ?_
                      refine L_pass rfl ?_
                      refine L_pass rfl ?_
                      refine L_pick (v := .bool (b269 || (x119.2 != x45.2))) rfl rfl (or_t hc281) ?_
                      refine L_nil ?_
                      have hst := Star.get 7 hst rfl
                      have hst := Star.get 6 hst rfl
                      have hst := Star.get 6 hst rfl
                      show R270 _ _
                      rw [hR270]
                      exact ⟨((hS172 1 rfl).trans sf1), ((hS172 2 rfl).trans sf2), ((hS172 6 rfl).trans sf6), ((hS172 7 rfl).trans sf7), ((hS172 10 rfl).trans sf10), rfl, (Star.keepN 3 hst)⟩
                    ·
                      refine L_mv (v := .bool x119.2) rfl ((hS172 11 rfl).trans sf11) ?_
                      refine L_mv (v := .bool x45.2) rfl ((hS172 7 rfl).trans sf7) ?_
                      refine L_bneq (b := x119.2) (c := x45.2) rfl Try.underlying4 rfl rfl ?_
                      refine L_pick (v := .bool (b269 || (x119.2 != x45.2))) rfl rfl (or_f hc281 rfl) ?_
                      refine L_nil ?_
                      have hst := Star.get 7 hst rfl
                      have hst := Star.get 6 hst rfl
                      have hst := Star.get 6 hst rfl
                      show R270 _ _
                      rw [hR270]
                      exact ⟨((hS172 1 rfl).trans sf1), ((hS172 2 rfl).trans sf2), ((hS172 6 rfl).trans sf6), ((hS172 7 rfl).trans sf7), ((hS172 10 rfl).trans sf10), rfl, (Star.keepN 3 hst)⟩
                ·
                  intro f w_ hR
                  rw [hR270] at hR
                  obtain ⟨sf1, sf2, sf6, sf7, sf10, sf80, hst⟩ := hR
                  clear hR270
                  refine W_cond (b := (b269 || (x119.2 != x45.2))) sf80 (fun hc282 => ?_) (fun hc282 => ?_)
                  ·
                    have hF := (ite_t hc282).symm.trans hF
                    refine W_seq ?_
                    refine W_region ?_
                    refine L_as (v := .bool false) rfl rfl ?_
                    refine L_nil ?_
                    refine W_ret ?_
                    refine retG1 (v1 := .bool false) Try.results12 rfl ?_
                    obtain rfl := so hF
                    exact ⟨rfl, (Star.down (Star.keepN 0 hst) hE172 closedL_nil)⟩
                  ·
                    have hF := (ite_f hc282).symm.trans hF
                    refine W_skip ?_
                    refine W_seq ?_
                    refine W_region ?_
                    refine L_as (v := .int .i64 1) rfl rfl ?_
                    refine L_nil ?_
                    refine W_seq ?_
                    obtain ⟨x288, hx288, hF⟩ := bind_some hF
                    refine W_region ?_
                    refine L_mv (v := r130_0) rfl sf10 ?_
                    refine L_mv (v := .int .i64 1) rfl rfl ?_
                    have hst := Star.get 1 hst rfl
                    obtain ⟨Hb290, hle291, hsb292, hfz293, hbk294⟩ := Star.lend [_] hst
                    refine L_call (args := #[r130_0, .int .i64 1]) rfl Try.call44 (ops2 rfl rfl) (l_markIntS_c (a := x119.1) (k := 1) hsb292 hx288) ?_
                    rintro _ w295 ⟨rfl, hst⟩
                    have hst := hbk294 hst (closedL_cons (closed_own (OR.closed_ownS closed_int) _ _) closedL_nil)
                    refine L_as (v := .int .i64 x288.1) rfl rfl ?_
                    refine L_nil ?_
                    refine W_seq ?_
                    refine W_region ?_
                    refine L_as (v := .int .i64 1) rfl rfl ?_
                    refine L_nil ?_
                    refine W_seq ?_
                    obtain ⟨x302, hx302, hF⟩ := bind_some hF
                    refine W_region ?_
                    refine L_mv (v := r130_0) rfl sf10 ?_
                    refine L_mv (v := .int .i64 1) rfl rfl ?_
                    obtain ⟨Hb304, hle305, hsb306, hfz307, hbk308⟩ := Star.borrow hst
                    have hb309 : (RP.slice 3 RP.int).rel Hb304 [r130_0] x288.2 := fz_own 0 hfz307 rfl
                    refine L_call (args := #[r130_0, .int .i64 1]) rfl Try.call45 (ops2 rfl rfl) (l_heldIntS_c (a := x288.2) (k := 1) hsb306 hb309 hx302) ?_
                    rintro _ w310 ⟨rfl, hst⟩
                    have hst := hbk308 hst closedL_nil
                    refine L_as (v := .int .i64 x302) rfl rfl ?_
                    refine L_nil ?_
                    refine W_seq ?_
                    refine W_seq ?_
                    refine W_region ?_
                    refine L_mv (v := .int .i64 x302) rfl rfl ?_
                    refine L_lss (m := x302) (n := 0) rfl rfl rfl ?_
                    refine L_nil ?_
                    refine W_cond (b := decide (x302 < 0)) rfl (fun hc311 => ?_) (fun hc311 => ?_)
                    ·
                      have hF := (ite_t hc311).symm.trans hF
                      refine W_seq ?_
                      refine W_region ?_
                      refine L_as (v := .bool false) rfl rfl ?_
                      refine L_nil ?_
                      refine W_ret ?_
                      refine retG1 (v1 := .bool false) Try.results12 rfl ?_
                      obtain rfl := so hF
                      exact ⟨rfl, (Star.down (Star.keepN 0 hst) hE172 closedL_nil)⟩
                    ·
                      have hF := (ite_f hc311).symm.trans hF
                      refine W_skip ?_
                      refine W_seq ?_
                      refine W_seq ?_
                      refine W_region ?_
                      refine L_mv (v := .int .i64 x302) rfl rfl ?_
                      refine L_mv (v := .int .i64 x288.1) rfl rfl ?_
                      refine L_neq (m := x302) (n := x288.1) rfl rfl rfl ?_
                      refine L_nil ?_
                      refine W_cond (b := (x302 != x288.1)) rfl (fun hc312 => ?_) (fun hc312 => ?_)
                      ·
                        have hF := (ite_t hc312).symm.trans hF
                        refine W_seq ?_
                        refine W_region ?_
                        refine L_as (v := .bool false) rfl rfl ?_
                        refine L_nil ?_
                        refine W_ret ?_
                        refine retG1 (v1 := .bool false) Try.results12 rfl ?_
                        obtain rfl := so hF
                        exact ⟨rfl, (Star.down (Star.keepN 0 hst) hE172 closedL_nil)⟩
                      ·
                        have hF := (ite_f hc312).symm.trans hF
                        refine W_skip ?_
                        refine W_seq ?_
                        obtain ⟨x318, hx318, hF⟩ := bind_some hF
                        obtain ⟨x327, hx327, hF⟩ := bind_some hF
                        obtain ⟨x338, hx338, hF⟩ := bind_some hF
                        refine W_region ?_
                        refine L_lda (cs := [v0_0, v0_1]) rfl Try.isAgg55 Try.sizeOf55 sf2 (At.sub0 (Blk.at (Star.blkAt 2 hst rfl)) 0 2) rfl ?_
                        obtain ⟨Hb341, hle342, hsb343, hfz344, hbk345⟩ := Star.borrow hst
                        refine L_call (args := #[.agg #[v0_0, v0_1]]) rfl Try.call39 (ops1 rfl) (l_toModel_c (a := aM) hsb343 (RP.mono _ h0_0 (Le.trans hE172 hle342)) (RP.mono _ h0_1 (Le.trans hE172 hle342)) hx318) ?_
                        rintro _ w346 ⟨r346_0, r346_1, rfl, hst⟩
                        have hst := hbk345 hst (closedL_cons (closed_own (OR.closed_ownS closed_int) _ _) (closedL_cons (closed_own (OR.closed_ownS closed_oRule) _ _) closedL_nil))
                        refine L_mv (v := v1) rfl sf1 ?_
                        obtain ⟨Hb349, hle350, hsb351, hfz352, hbk353⟩ := Star.borrow hst
                        refine L_call (args := #[v1]) rfl Try.call40 (ops1 rfl) (l_toIntS_c (a := aCells) hsb351 (RP.mono _ h1 (Le.trans hE172 hle350)) hx327) ?_
                        rintro r354_0 w354 ⟨_, rfl, hst⟩
                        have hst := hbk353 hst (closedL_cons (closed_own (OR.closed_ownS closed_int) _ _) closedL_nil)
                        obtain ⟨Hb356, hle357, hsb358, hfz359, hbk360⟩ := Star.borrow hst
                        have hb361 : (RP.slice 3 RP.int).rel Hb356 [r346_0] x318.sizes := fz_own 1 hfz359 rfl
                        have hb362 : (RP.slice 36 (rRule 3 23)).rel Hb356 [r346_1] x318.rules := fz_own 2 hfz359 rfl
                        have hb363 : (RP.slice 3 RP.int).rel Hb356 [r354_0] x327 := fz_own 0 hfz359 rfl
                        refine L_call (args := #[.agg #[r346_0, r346_1], r354_0]) rfl Try.call35 (ops2 rfl rfl) (i_NextModel_c (m := x318) (cells := x327) hsb358 hb361 hb362 hb363 hx338) ?_
                        rintro _ w364 ⟨r364_0, rfl, hst⟩
                        have hst := hbk360 hst (closedL_cons (closed_own (OR.closed_ownS closed_int) _ _) closedL_nil)
                        refine L_mv (v := .tuple #[r364_0, .bool x338.2]) rfl rfl ?_
                        refine L_ex (v := r364_0) rfl rfl rfl ?_
                        refine L_ex (v := .bool x338.2) rfl rfl rfl ?_
                        refine L_as (v := r364_0) rfl rfl ?_
                        refine L_as (v := .bool x338.2) rfl rfl ?_
                        refine L_nil ?_
                        refine W_seq ?_
                        refine W_seq ?_
                        obtain ⟨x373, hx373, hF⟩ := bind_some hF
                        obtain ⟨R375, hR375⟩ : ∃ RR_ : Fr → World → Prop, RR_ = fun f w_ => f 10 = r130_0 ∧ f 13 = .int .i64 x288.1 ∧ f 108 = .bool ((!x373) || (x338.2 != x45.2)) ∧ Star H172 w_ ([own (OR.ownS 3 (OR.frz RP.int)) [r130_0] x288.2]) := ⟨_, rfl⟩
                        refine W_join R375 ?_ ?_
                        ·
                          refine W_region ?_
                          refine L_mv (v := r364_0) rfl rfl ?_
                          refine L_mv (v := r71_0) rfl sf6 ?_
                          obtain ⟨Hb376, hle377, hsb378, hfz379, hbk380⟩ := Star.borrow hst
                          have hb381 : (RP.slice 3 RP.int).rel Hb376 [r364_0] x338.1 := fz_own 0 hfz379 rfl
                          have hb382 : (RP.slice 3 RP.int).rel Hb376 [r71_0] x45.1 := fz_own 5 hfz379 rfl
                          refine L_call (args := #[r364_0, r71_0]) rfl Try.call41 (ops2 rfl rfl) (l_eqIntS_c (a := x338.1) (b := x45.1) hsb378 hb381 hb382 hx373) ?_
                          rintro _ w383 ⟨rfl, hst⟩
                          have hst := hbk380 hst closedL_nil
                          refine L_not_ (b := x373) rfl rfl ?_
                          refine L_mv (v := .bool (!x373)) rfl rfl ?_
                          refine L_split (d := 104) (b := (!x373)) rfl (fun hc384 => ?_) (fun hc384 => ?_)
                          ·
                            refine L_pass rfl ?_
                            refine L_pass rfl ?_
                            refine L_pass rfl ?_
                            refine L_pick (v := .bool ((!x373) || (x338.2 != x45.2))) rfl rfl (or_t hc384) ?_
                            refine L_nil ?_
                            have hst := Star.get 4 hst rfl
                            show R375 _ _
                            rw [hR375]
                            exact ⟨sf10, rfl, rfl, (Star.keepN 1 hst)⟩
                          ·
                            refine L_mv (v := .bool x338.2) rfl rfl ?_
                            refine L_mv (v := .bool x45.2) rfl sf7 ?_
                            refine L_bneq (b := x338.2) (c := x45.2) rfl Try.underlying4 rfl rfl ?_
                            refine L_pick (v := .bool ((!x373) || (x338.2 != x45.2))) rfl rfl (or_f hc384 rfl) ?_
                            refine L_nil ?_
                            have hst := Star.get 4 hst rfl
                            show R375 _ _
                            rw [hR375]
                            exact ⟨sf10, rfl, rfl, (Star.keepN 1 hst)⟩
                        ·
                          intro f w_ hR
                          rw [hR375] at hR
                          obtain ⟨sf10, sf13, sf108, hst⟩ := hR
                          clear hR375
                          refine W_cond (b := ((!x373) || (x338.2 != x45.2))) sf108 (fun hc385 => ?_) (fun hc385 => ?_)
                          ·
                            have hF := (ite_t hc385).symm.trans hF
                            refine W_seq ?_
                            refine W_region ?_
                            refine L_as (v := .bool false) rfl rfl ?_
                            refine L_nil ?_
                            refine W_ret ?_
                            refine retG1 (v1 := .bool false) Try.results12 rfl ?_
                            obtain rfl := so hF
                            exact ⟨rfl, (Star.down (Star.keepN 0 hst) hE172 closedL_nil)⟩
                          ·
                            have hF := (ite_f hc385).symm.trans hF
                            refine W_skip ?_
                            refine W_seq ?_
                            refine W_region ?_
                            refine L_as (v := .int .i64 1) rfl rfl ?_
                            refine L_nil ?_
                            refine W_seq ?_
                            obtain ⟨x392, hx392, hF⟩ := bind_some hF
                            refine W_region ?_
                            refine L_mv (v := r130_0) rfl sf10 ?_
                            refine L_mv (v := .int .i64 1) rfl rfl ?_
                            obtain ⟨Hb394, hle395, hsb396, hfz397, hbk398⟩ := Star.borrow hst
                            have hb399 : (RP.slice 3 RP.int).rel Hb394 [r130_0] x288.2 := fz_own 0 hfz397 rfl
                            refine L_call (args := #[r130_0, .int .i64 1]) rfl Try.call45 (ops2 rfl rfl) (l_heldIntS_c (a := x288.2) (k := 1) hsb396 hb399 hx392) ?_
                            rintro _ w400 ⟨rfl, hst⟩
                            have hst := hbk398 hst closedL_nil
                            refine L_as (v := .int .i64 x392) rfl rfl ?_
                            refine L_nil ?_
                            refine W_seq ?_
                            refine W_seq ?_
                            refine W_region ?_
                            refine L_mv (v := .int .i64 x392) rfl rfl ?_
                            refine L_lss (m := x392) (n := 0) rfl rfl rfl ?_
                            refine L_nil ?_
                            refine W_cond (b := decide (x392 < 0)) rfl (fun hc401 => ?_) (fun hc401 => ?_)
                            ·
                              have hF := (ite_t hc401).symm.trans hF
                              refine W_seq ?_
                              refine W_region ?_
                              refine L_as (v := .bool false) rfl rfl ?_
                              refine L_nil ?_
                              refine W_ret ?_
                              refine retG1 (v1 := .bool false) Try.results12 rfl ?_
                              obtain rfl := so hF
                              exact ⟨rfl, (Star.down (Star.keepN 0 hst) hE172 closedL_nil)⟩
                            ·
                              have hF := (ite_f hc401).symm.trans hF
                              refine W_skip ?_
                              refine W_seq ?_
                              refine W_seq ?_
                              refine W_region ?_
                              refine L_mv (v := .int .i64 x392) rfl rfl ?_
                              refine L_mv (v := .int .i64 x288.1) rfl sf13 ?_
                              refine L_neq (m := x392) (n := x288.1) rfl rfl rfl ?_
                              refine L_nil ?_
                              refine W_cond (b := (x392 != x288.1)) rfl (fun hc402 => ?_) (fun hc402 => ?_)
                              ·
                                have hF := (ite_t hc402).symm.trans hF
                                refine W_seq ?_
                                refine W_region ?_
                                refine L_as (v := .bool false) rfl rfl ?_
                                refine L_nil ?_
                                refine W_ret ?_
                                refine retG1 (v1 := .bool false) Try.results12 rfl ?_
                                obtain rfl := so hF
                                exact ⟨rfl, (Star.down (Star.keepN 0 hst) hE172 closedL_nil)⟩
                              ·
                                have hF := (ite_f hc402).symm.trans hF
                                refine W_skip ?_
                                refine W_seq ?_
                                refine W_region ?_
                                refine L_as (v := .bool true) rfl rfl ?_
                                refine L_nil ?_
                                refine W_ret ?_
                                refine retG1 (v1 := .bool true) Try.results12 rfl ?_
                                obtain rfl := so hF
                                exact ⟨rfl, (Star.down (Star.keepN 0 hst) hE172 closedL_nil)⟩

end Go.Proofs.Ytcjjfneofcpmfaa

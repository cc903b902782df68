/- Part of a proof by program: W2. -/
import Derived.Test.YtcjjfneofcpmfaaD1
import Derived.Test.YtcjjfneofcpmfaaW1
namespace Go.Proofs.Ytcjjfneofcpmfaa
open Go Go.E Go.L Go.RowKit
set_option linter.unusedVariables false
set_option linter.unusedSimpArgs false
set_option maxRecDepth 100000

theorem s_l6Model_c {fu : Nat} {r_ : Rd} {g_0 : Nat} {v0_0 : Value} {H : FH} {w : World} {R : List Ass} (hst : Star H w (box g_0 86 #[v0_0, .int .i64 r_.p] :: R)) (h0_0 : (RP.slice 5 RP.u8).rel H [v0_0] r_.b) {r : Model × Int} (hF : s_l6Model fu r_ = some r) :
    C Try.prog 48 #[.pointer (some ⟨g_0, 0, none⟩)] w fun v w' => ∃ H' : FH, Le H H' ∧ ∃ (u1 : Value) (u2 : Value), v = .agg #[u1, u2] ∧ (RP.slice 3 RP.int).rel H' [u1] r.1.sizes ∧ Star H' w' (own (OR.ownS 36 (oRule 3 23)) [u2] r.1.rules :: box g_0 86 #[v0_0, .int .i64 r.2] :: R) := by
  unfold s_l6Model at hF
  refine C_enter Try.func48 rfl Try.ntmps48 rfl ?_
  refine W_seq ?_
  refine W_region ?_
  refine L_al (cs := #[(.slice none 0 0), (.slice none 0 0)]) rfl Try.zeroValue26 rfl hst ?_
  intro g3 w4 hst
  refine L_nil ?_
  refine W_seq ?_
  refine W_region ?_
  refine L_bld rfl (parts0 ) (bld_26_  ) ?_
  refine L_al (cs := #[(.slice none 0 0), (.slice none 0 0)]) rfl Try.zeroValue26 rfl hst ?_
  intro g8 w9 hst
  refine L_staB (vs := #[(.slice none 0 0), (.slice none 0 0)]) (cs2 := #[(.slice none 0 0), (.slice none 0 0)]) 0 rfl Try.sizeOf26 rfl rfl rfl (ones_cons rfl (ones_cons rfl ones_nil)) hst rfl (by decide) rfl ?_
  intro w10 hst
  refine L_nil ?_
  refine W_seq ?_
  refine W_seq ?_
  obtain ⟨x20, hx20, hF⟩ := bind_some hF
  refine W_region ?_
  refine L_mv (v := .pointer (some ⟨g_0, 0, none⟩)) rfl rfl ?_
  refine L_bs rfl (parts4 rfl rfl rfl rfl) (bs_23_4_0_0_0_0 (.int .i64 3) (.int .i64 2) (.int .i64 4) (.int .i64 3) rfl rfl rfl rfl) hst ?_
  intro g22 w23 hst
  have hst := Star.addF (r := RP.int) (cs := [.int .i64 3]) (x := 3) hst rfl
  have hst := Star.addF (r := RP.int) (cs := [.int .i64 4]) (x := 4) hst rfl
  have hst := Star.addF (r := RP.int) (cs := [.int .i64 2]) (x := 2) hst rfl
  have hst := Star.addF (r := RP.int) (cs := [.int .i64 3]) (x := 3) hst rfl
  have hst := Star.mkRow (R := (OR.frz RP.int)) [([.int .i64 3], 3), ([.int .i64 2], 2), ([.int .i64 4], 4), ([.int .i64 3], 3)] [3, 2, 4, 3] 4 hst rfl rfl rfl (by decide)
  have hst := Star.get 3 hst rfl
  obtain ⟨Hb25, hle26, hsb27, hfz28, hbk29⟩ := Star.lend [_] hst
  have hb30 : (RP.slice 3 RP.int).rel Hb25 [(.slice (some ⟨g22, 0, none⟩) 4 4)] ([3, 2, 4, 3]) := fz_own 0 hfz28 rfl
  refine L_call (args := #[.pointer (some ⟨g_0, 0, none⟩), (.slice (some ⟨g22, 0, none⟩) 4 4)]) rfl Try.call49 (ops2 rfl rfl) (s_l17Rd_num_c (r_ := r_) (list := [3, 2, 4, 3]) hsb27 (RP.mono _ h0_0 hle26) hb30 hx20) ?_
  rintro _ w31 ⟨rfl, hst⟩
  have hst := hbk29 hst (closedL_cons (closed_box _ _ _) closedL_nil)
  refine L_as (v := .int .i64 x20.1) rfl rfl ?_
  refine L_nil ?_
  obtain ⟨j39, hL39, hF⟩ := bind_some hF
  obtain ⟨R39, hR39⟩ : ∃ RR_ : Fr → World → Prop, RR_ = fun f w_ => ∃ i_33 : Int, ∃ g_0_1_34 : Int, ∃ g8_0_35 : List Int, ∃ H37 : FH, ∃ v35_g8_0 : Value, j39 = .nx (i_33, g_0_1_34, g8_0_35) ∧ Le H H37 ∧ f 0 = .pointer (some ⟨g_0, 0, none⟩) ∧ f 2 = .pointer (some ⟨g3, 0, none⟩) ∧ f 3 = .pointer (some ⟨g8, 0, none⟩) ∧ Star H37 w_ (box g_0 86 #[v0_0, .int .i64 g_0_1_34] :: own (OR.ownS 3 (OR.frz RP.int)) [v35_g8_0] g8_0_35 :: box g8 26 #[v35_g8_0, (.slice none 0 0)] :: box g3 26 #[(.slice none 0 0), (.slice none 0 0)] :: R) := ⟨_, rfl⟩
  refine W_join R39 ?_ ?_
  ·
    refine W_block ?_
    obtain ⟨I39, hI39⟩ : ∃ I : Nat → Fr → World → Prop, I = fun n f w_ => ∃ i_33 : Int, ∃ g_0_1_34 : Int, ∃ g8_0_35 : List Int, ∃ H37 : FH, ∃ v35_g8_0 : Value, whileL (s_l6Model_b1 r_) n (i_33, g_0_1_34, g8_0_35) = some j39 ∧ Le H H37 ∧ f 0 = .pointer (some ⟨g_0, 0, none⟩) ∧ f 2 = .pointer (some ⟨g3, 0, none⟩) ∧ f 3 = .pointer (some ⟨g8, 0, none⟩) ∧ f 4 = .int .i64 i_33 ∧ Star H37 w_ (box g_0 86 #[v0_0, .int .i64 g_0_1_34] :: own (OR.ownS 3 (OR.frz RP.int)) [v35_g8_0] g8_0_35 :: box g8 26 #[v35_g8_0, (.slice none 0 0)] :: box g3 26 #[(.slice none 0 0), (.slice none 0 0)] :: R) := ⟨_, rfl⟩
    have hst := Star.addNil (R := (OR.frz RP.int)) (e := 3) hst
    have hst := Star.get 4 hst rfl
    have hst := Star.get 4 hst rfl
    have hst := Star.get 2 hst rfl
    have hst := Star.get 3 hst rfl
    have hst := Star.drop 4 hst rfl
    refine W_loop I39 (n := fu) ?_ ?_
    · rw [hI39]; exact ⟨x20.1, x20.2, [], H, (.slice none 0 0), hL39, (Le.refl _), rfl, rfl, rfl, rfl, hst⟩
    ·
      clear hst
      intro n39 f w_ hI
      rw [hI39] at hI
      obtain ⟨i_33, g_0_1_34, g8_0_35, H37, v35_g8_0, hL39, hle38, sf0, sf2, sf3, sf4, hst⟩ := hI
      cases n39 with
      | zero => exact (while_zero hL39).elim
      | succ n39 =>
        obtain ⟨o39, hB39, hL39⟩ := while_succ hL39
        rw [s_l6Model_b1] at hB39
        refine W_seq ?_
        refine W_seq ?_
        refine W_region ?_
        refine L_mv (v := .int .i64 i_33) rfl sf4 ?_
        refine L_gtr (m := i_33) (n := 0) rfl rfl rfl ?_
        refine L_nil ?_
        refine W_cond (b := decide (i_33 > 0)) rfl (fun hc41 => ?_) (fun hc41 => ?_)
        ·
          have hB39 := (ite_t hc41).symm.trans hB39
          refine W_skip ?_
          refine W_seq ?_
          refine W_block ?_
          obtain ⟨x51, hx51, hB39⟩ := bind_some hB39
          obtain ⟨x56, hx56, hB39⟩ := bind_some hB39
          have hst := Star.get 3 hst rfl
          have hst := Star.get 3 hst rfl
          have hst := Star.get 3 hst rfl
          refine W_drawS 6 [isV (.pointer (some ⟨g8, 0, none⟩)), isV (v35_g8_0), isV (.pointer (some ⟨g_0, 0, none⟩)), anyF, isV (.int .i64 x51.1), anyF] [own (OR.ownS 3 (OR.frz RP.int)) [v35_g8_0] g8_0_35, box g8 26 #[v35_g8_0, (.slice none 0 0)], box g3 26 #[(.slice none 0 0), (.slice none 0 0)]] [.base (box g_0 86 #[v0_0, .int .i64 g_0_1_34]) (some 4), .made 3 19 (fun v_ => own (OR.ownS 3 (OR.frz RP.int)) [v_] ([2, 1, 3, 2, 0])) none, .made 4 20 (fun v_ => box g_0 86 #[v0_0, .int .i64 x51.2]) none, .made 5 21 (fun v_ => own (OR.ownS 3 (OR.frz RP.int)) [v_] ([x51.1])) none] (R) [([], []), ([], []), ([], []), ([], [1]), ([0, 1], [1, 2]), ([], [3])] (S := [(none, none, some 4), (some 3, some 19, none), (some 4, some 20, none), (some 5, some 21, none)]) Try_mix (by kernel_rfl) rfl (by kernel_rfl) (amF_cons (mono_V _) (amF_cons (mono_V _) (amF_cons (mono_V _) (amF_cons (mono_any) (amF_cons (mono_V _) (amF_cons (mono_any) amF_nil)))))) hst ?_ (fun f w_ H61 hS61 hE61 hT61 hst => ?_)
          ·
            refine opsS_cons ?_ ?_
            ·
              intro f w_ H61 X61 hS61 hE61 hP61 hst
              refine L_fa (o' := 0) rfl fa_26_0 ((hS61 3 rfl).trans sf3) rfl ?_
              exact L_nil ⟨rfl, _, _, _, rfl, rfl, Le.refl _, rfl, hst⟩
            refine opsS_cons ?_ ?_
            ·
              intro f w_ H61 X61 hS61 hE61 hP61 hst
              refine L_ld (v := v35_g8_0) rfl Try.isAgg23 (hP61 0 16 rfl rfl) (At.cell0 (Blk.at (Star.blkAt 1 hst rfl)) (j := 0) rfl) ?_
              exact L_nil ⟨rfl, _, _, _, rfl, rfl, Le.refl _, rfl, hst⟩
            refine opsS_cons ?_ ?_
            ·
              intro f w_ H61 X61 hS61 hE61 hP61 hst
              refine L_mv (v := .pointer (some ⟨g_0, 0, none⟩)) rfl ((hS61 0 rfl).trans sf0) ?_
              exact L_nil ⟨rfl, _, _, _, rfl, rfl, Le.refl _, rfl, hst⟩
            refine opsS_cons ?_ ?_
            ·
              intro f w_ H61 X61 hS61 hE61 hP61 hst
              refine L_bs rfl (parts5 rfl rfl rfl rfl rfl) (bs_23_5_0_0_0_0_0 (.int .i64 2) (.int .i64 1) (.int .i64 3) (.int .i64 2) (.int .i64 0) rfl rfl rfl rfl rfl) hst ?_
              intro g75 w76 hst
              have hst := Star.addF (r := RP.int) (cs := [.int .i64 0]) (x := 0) hst rfl
              have hst := Star.addF (r := RP.int) (cs := [.int .i64 2]) (x := 2) hst rfl
              have hst := Star.addF (r := RP.int) (cs := [.int .i64 3]) (x := 3) hst rfl
              have hst := Star.addF (r := RP.int) (cs := [.int .i64 1]) (x := 1) hst rfl
              have hst := Star.addF (r := RP.int) (cs := [.int .i64 2]) (x := 2) hst rfl
              have hst := Star.mkRow (R := (OR.frz RP.int)) [([.int .i64 2], 2), ([.int .i64 1], 1), ([.int .i64 3], 3), ([.int .i64 2], 2), ([.int .i64 0], 0)] [2, 1, 3, 2, 0] 5 hst rfl rfl rfl (by decide)
              have hst := Star.get 3 hst rfl
              have hst := Star.get 3 hst rfl
              have hst := Star.get 3 hst rfl
              exact L_nil ⟨rfl, _, _, _, rfl, rfl, Le.refl _, trivial, hst⟩
            refine opsS_cons ?_ ?_
            ·
              intro f w_ H61 X61 hS61 hE61 hP61 hst
              have hst : Star H61 w_ (own (OR.ownS 3 (OR.frz RP.int)) [v35_g8_0] g8_0_35 :: box g8 26 #[v35_g8_0, (.slice none 0 0)] :: box g3 26 #[(.slice none 0 0), (.slice none 0 0)] :: box g_0 86 #[v0_0, .int .i64 g_0_1_34] :: own (OR.ownS 3 (OR.frz RP.int)) [(f 19)] ([2, 1, 3, 2, 0]) :: X61) := hst
              have hst := Star.get 3 hst rfl
              obtain ⟨Hb79, hle80, hsb81, hfz82, hbk83⟩ := Star.lend [_] hst
              have hb84 : (RP.slice 3 RP.int).rel Hb79 [(f 19)] ([2, 1, 3, 2, 0]) := fz_own 3 hfz82 rfl
              refine L_call (args := #[.pointer (some ⟨g_0, 0, none⟩), (f 19)]) rfl Try.call49 (ops2 (hP61 2 18 rfl rfl) rfl) (s_l17Rd_num_c (r_ := ({ b := r_.b, p := g_0_1_34 } : Rd)) (list := [2, 1, 3, 2, 0]) hsb81 (RP.mono _ h0_0 (Le.trans (Le.trans hle38 hE61) hle80)) hb84 hx51) ?_
              rintro _ w85 ⟨rfl, hst⟩
              have hst := hbk83 hst (closedL_cons (closed_box _ _ _) closedL_nil)
              have hst := Star.get 4 hst rfl
              have hst := Star.get 4 hst rfl
              have hst := Star.get 4 hst rfl
              have hst := Star.get 4 hst rfl
              exact L_nil ⟨rfl, _, _, _, rfl, rfl, Le.refl _, rfl, hst⟩
            refine opsS_cons ?_ ?_
            ·
              intro f w_ H61 X61 hS61 hE61 hP61 hst
              refine L_bs rfl (parts1 (hP61 4 20 rfl rfl)) (bs_23_1_0 (.int .i64 x51.1) rfl) hst ?_
              intro g86 w87 hst
              have hst := Star.addF (r := RP.int) (cs := [.int .i64 x51.1]) (x := x51.1) hst rfl
              have hst := Star.mkRow (R := (OR.frz RP.int)) [([.int .i64 x51.1], x51.1)] [x51.1] 1 hst rfl rfl rfl (by decide)
              have hst := Star.get 3 hst rfl
              have hst := Star.get 3 hst rfl
              have hst := Star.get 3 hst rfl
              exact L_nil ⟨rfl, _, _, _, rfl, rfl, Le.refl _, trivial, hst⟩
            exact opsS_nil
          ·
            have hst : Star H61 w_ (own (OR.ownS 3 (OR.frz RP.int)) [v35_g8_0] g8_0_35 :: box g8 26 #[v35_g8_0, (.slice none 0 0)] :: box g3 26 #[(.slice none 0 0), (.slice none 0 0)] :: own (OR.ownS 3 (OR.frz RP.int)) [(f 19)] ([2, 1, 3, 2, 0]) :: box g_0 86 #[v0_0, .int .i64 x51.2] :: own (OR.ownS 3 (OR.frz RP.int)) [(f 21)] ([x51.1]) :: R) := hst
            have hst := Star.get 5 hst rfl
            have hst := Star.get 1 hst rfl
            refine L_appM (v := v35_g8_0) (u := (f 21)) rfl et_23 (hT61 1 17 rfl rfl) rfl hst hx56 ?_
            intro v90 w91 hst
            refine L_fa (o' := 0) rfl fa_26_0 ((hS61 3 rfl).trans sf3) rfl ?_
            refine L_stB (v := v90) (cs2 := #[v90, (.slice none 0 0)]) 1 rfl Try.sizeOf23 rfl rfl (one_len (Star.len 0 hst rfl)) hst rfl rfl rfl ?_
            intro w93 hst
            refine L_nil ?_
            refine W_region ?_
            refine L_mv (v := .int .i64 i_33) rfl ((hS61 4 rfl).trans sf4) ?_
            refine L_sub (m := i_33) (n := 1) rfl rfl rfl ?_
            refine L_as (v := .int .i64 (i64 (i_33 - 1))) rfl rfl ?_
            refine L_nil ?_
            obtain rfl := so hB39
            have hst := Star.get 2 hst rfl
            have hst := Star.get 1 hst rfl
            have hst := Star.get 2 hst rfl
            have hst := Star.get 4 hst rfl
            have hst := Star.drop 4 hst rfl
            show ∃ m, m < _ ∧ I39 m _ _
            refine ⟨n39, Nat.lt_succ_self _, ?_⟩
            rw [hI39]
            exact ⟨i64 (i_33 - 1), x51.2, x56, H61, v90, hL39, (Le.trans hle38 hE61), ((hS61 0 rfl).trans sf0), ((hS61 2 rfl).trans sf2), ((hS61 3 rfl).trans sf3), rfl, hst⟩
        ·
          have hB39 := (ite_f hc41).symm.trans hB39
          refine W_exit ?_
          obtain rfl := so hB39
          obtain rfl := so hL39
          show R39 _ _
          rw [hR39]
          exact ⟨i_33, g_0_1_34, g8_0_35, H37, v35_g8_0, rfl, hle38, sf0, sf2, sf3, hst⟩
  ·
    clear hst
    intro f w_ hR
    rw [hR39] at hR
    obtain ⟨i_33, g_0_1_34, g8_0_35, H37, v35_g8_0, rfl, hle38, sf0, sf2, sf3, hst⟩ := hR
    clear hR39
    refine W_seq ?_
    refine W_seq ?_
    refine W_region ?_
    refine L_as (v := .int .i64 0) rfl rfl ?_
    refine L_nil ?_
    obtain ⟨j100, hL100, hF⟩ := bind_some hF
    obtain ⟨R100, hR100⟩ : ∃ RR_ : Fr → World → Prop, RR_ = fun f w_ => ∃ n_95 : Int, ∃ g8_0_96 : List Int, ∃ H98 : FH, ∃ v96_g8_0 : Value, j100 = .nx (n_95, g8_0_96) ∧ Le H37 H98 ∧ f 0 = .pointer (some ⟨g_0, 0, none⟩) ∧ f 2 = .pointer (some ⟨g3, 0, none⟩) ∧ f 3 = .pointer (some ⟨g8, 0, none⟩) ∧ (RP.slice 3 RP.int).rel H98 [v96_g8_0] g8_0_96 ∧ Star H98 w_ (box g_0 86 #[v0_0, .int .i64 g_0_1_34] :: box g8 26 #[v96_g8_0, (.slice none 0 0)] :: box g3 26 #[(.slice none 0 0), (.slice none 0 0)] :: R) := ⟨_, rfl⟩
    refine W_join R100 ?_ ?_
    ·
      refine W_block ?_
      obtain ⟨I100, hI100⟩ : ∃ I : Nat → Fr → World → Prop, I = fun n f w_ => ∃ n_95 : Int, ∃ g8_0_96 : List Int, ∃ H98 : FH, ∃ v96_g8_0 : Value, whileL s_l6Model_b2 n (n_95, g8_0_96) = some j100 ∧ Le H37 H98 ∧ f 0 = .pointer (some ⟨g_0, 0, none⟩) ∧ f 2 = .pointer (some ⟨g3, 0, none⟩) ∧ f 3 = .pointer (some ⟨g8, 0, none⟩) ∧ f 5 = .int .i64 n_95 ∧ (RP.slice 3 RP.int).rel H98 [v96_g8_0] g8_0_96 ∧ Star H98 w_ (box g_0 86 #[v0_0, .int .i64 g_0_1_34] :: box g8 26 #[v96_g8_0, (.slice none 0 0)] :: box g3 26 #[(.slice none 0 0), (.slice none 0 0)] :: R) := ⟨_, rfl⟩
      have hst := Star.get 1 hst rfl
      obtain ⟨H101, hle102, hst, hz103⟩ := Star.freeze hst
      have hz103 : (RP.slice 3 RP.int).rel H101 [v35_g8_0] g8_0_35 := hz103
      refine W_loop I100 (n := fu) ?_ ?_
      · rw [hI100]; exact ⟨0, g8_0_35, H101, v35_g8_0, hL100, hle102, sf0, sf2, sf3, rfl, hz103, hst⟩
      ·
        clear hst
        intro n100 f w_ hI
        rw [hI100] at hI
        obtain ⟨n_95, g8_0_96, H98, v96_g8_0, hL100, hle99, sf0, sf2, sf3, sf5, hv97_g8_0, hst⟩ := hI
        cases n100 with
        | zero => exact (while_zero hL100).elim
        | succ n100 =>
          obtain ⟨o100, hB100, hL100⟩ := while_succ hL100
          rw [s_l6Model_b2] at hB100
          refine W_seq ?_
          refine W_seq ?_
          refine W_region ?_
          refine L_mv (v := .int .i64 n_95) rfl sf5 ?_
          refine L_eql (m := n_95) (n := 0) rfl rfl rfl ?_
          refine L_nil ?_
          refine W_cond (b := (n_95 == 0)) rfl (fun hc104 => ?_) (fun hc104 => ?_)
          ·
            have hB100 := (ite_t hc104).symm.trans hB100
            refine W_skip ?_
            refine W_block ?_
            refine W_seq ?_
            refine W_seq ?_
            refine W_region ?_
            refine L_as (v := .int .i64 0) rfl rfl ?_
            refine L_nil ?_
            have hlen107 : List.length g8_0_96 ≤ 9223372036854775807 := len_le (slice_len hv97_g8_0)
            obtain ⟨j107, hL107, hB100⟩ := bind_some hB100
            obtain ⟨R107, hR107⟩ : ∃ RR_ : Fr → World → Prop, RR_ = fun f w_ => ∃ n_106 : Int, j107 = .nx n_106 ∧ f 0 = .pointer (some ⟨g_0, 0, none⟩) ∧ f 2 = .pointer (some ⟨g3, 0, none⟩) ∧ f 3 = .pointer (some ⟨g8, 0, none⟩) ∧ f 5 = .int .i64 n_106 ∧ Star H98 w_ (box g_0 86 #[v0_0, .int .i64 g_0_1_34] :: box g8 26 #[v96_g8_0, (.slice none 0 0)] :: box g3 26 #[(.slice none 0 0), (.slice none 0 0)] :: R) := ⟨_, rfl⟩
            refine W_join R107 ?_ ?_
            ·
              refine W_block ?_
              obtain ⟨I107, hI107⟩ : ∃ I : Nat → Fr → World → Prop, I = fun n f w_ => ∃ i_105 : Nat, ∃ suf107 : List Int, ∃ n_106 : Int, n = suf107.length ∧ List.drop i_105 g8_0_96 = suf107 ∧ i_105 + suf107.length = g8_0_96.length ∧ rangeL s_l6Model_b3 suf107 i_105 n_106 = some j107 ∧ f 0 = .pointer (some ⟨g_0, 0, none⟩) ∧ f 2 = .pointer (some ⟨g3, 0, none⟩) ∧ f 3 = .pointer (some ⟨g8, 0, none⟩) ∧ f 5 = .int .i64 n_106 ∧ f 6 = .int .i64 (i_105 : Int) ∧ Star H98 w_ (box g_0 86 #[v0_0, .int .i64 g_0_1_34] :: box g8 26 #[v96_g8_0, (.slice none 0 0)] :: box g3 26 #[(.slice none 0 0), (.slice none 0 0)] :: R) := ⟨_, rfl⟩
              refine W_loop I107 (n := g8_0_96.length) ?_ ?_
              · rw [hI107]; exact ⟨0, g8_0_96, n_95, rfl, rfl, Nat.zero_add _, hL107, sf0, sf2, sf3, sf5, rfl, hst⟩
              ·
                clear hst
                intro n107 f w_ hI
                rw [hI107] at hI
                obtain ⟨i_105, suf107, n_106, rfl, hd107, hl107, hL107, sf0, sf2, sf3, sf5, sf6, hst⟩ := hI
                refine W_seq ?_
                refine W_seq ?_
                refine W_region ?_
                refine L_mv (v := .int .i64 (i_105 : Int)) rfl sf6 ?_
                refine L_fa (o' := 0) rfl fa_26_0 sf3 rfl ?_
                refine L_ld (v := v96_g8_0) rfl Try.isAgg23 rfl (At.cell0 (Blk.at (Star.blkAt 1 hst rfl)) (j := 0) rfl) ?_
                refine L_len (v := v96_g8_0) (n := List.length g8_0_96) rfl Try.underlying23 rfl (slice_len hv97_g8_0) ?_
                refine L_lss (m := (i_105 : Int)) (n := (g8_0_96.length : Int)) rfl rfl rfl ?_
                refine L_nil ?_
                refine W_cond (b := decide ((i_105 : Int) < (g8_0_96.length : Int))) rfl (fun hc108 => ?_) (fun hc108 => ?_)
                ·
                  have hlt107 := of_decide_eq_true hc108
                  cases suf107 with
                  | nil => exact absurd hlt107 (by simp at hl107; omega)
                  | cons x_107 rest107 =>
                    obtain ⟨o107, hB107, hL107⟩ := range_cons hL107
                    rw [s_l6Model_b3] at hB107
                    have hix107 := drop_idx hd107
                    refine W_skip ?_
                    refine W_seq ?_
                    refine W_block ?_
                    refine W_region ?_
                    refine L_mv (v := .int .i64 n_106) rfl sf5 ?_
                    refine L_fa (o' := 0) rfl fa_26_0 sf3 rfl ?_
                    refine L_ld (v := v96_g8_0) rfl Try.isAgg23 rfl (At.cell0 (Blk.at (Star.blkAt 1 hst rfl)) (j := 0) rfl) ?_
                    refine L_mv (v := .int .i64 (i_105 : Int)) rfl sf6 ?_
                    refine L_ix (r := RP.int) rfl Try.underlying23 Try.sizeOf3 rfl hv97_g8_0 rfl hix107 ?_
                    intro g113 o114 cs_g113 hrk_hat115 hat115
                    obtain rfl : _ = [_] := hrk_hat115
                    refine L_ld (v := .int .i64 x_107) rfl Try.isAgg3 rfl (At.cell (AtH.at hat115 hst.sub) (j := 0) rfl) ?_
                    refine L_add (m := n_106) (n := x_107) rfl rfl rfl ?_
                    refine L_add (m := i64 (n_106 + x_107)) (n := 1) rfl rfl rfl ?_
                    refine L_as (v := .int .i64 (i64 ((i64 (n_106 + x_107)) + 1))) rfl rfl ?_
                    refine L_nil ?_
                    refine W_region ?_
                    refine L_mv (v := .int .i64 (i_105 : Int)) rfl sf6 ?_
                    refine L_add (m := (i_105 : Int)) (n := 1) rfl rfl rfl ?_
                    refine L_as (v := .int .i64 (i64 ((i_105 : Int) + 1))) rfl rfl ?_
                    refine L_nil ?_
                    obtain rfl := so hB107
                    show ∃ m, m < _ ∧ I107 m _ _
                    refine ⟨rest107.length, by simp, ?_⟩
                    rw [hI107]
                    exact ⟨i_105 + 1, rest107, i64 ((i64 (n_106 + x_107)) + 1), rfl, drop_next hd107, by simp at hl107; omega, hL107, sf0, sf2, sf3, rfl, (Eq.trans rfl (congrArg (Value.int .i64) (i64_succ (n := g8_0_96.length) (by simp at hl107; omega) hlen107))), hst⟩
                ·
                  cases suf107 with
                  | cons _ _ => exact absurd (of_decide_eq_false hc108) (by simp at hl107; omega)
                  | nil =>
                    obtain rfl := range_nil hL107
                    refine W_exit ?_
                    show R107 _ _
                    rw [hR107]
                    exact ⟨n_106, rfl, sf0, sf2, sf3, sf5, hst⟩
            ·
              clear hst
              intro f w_ hR
              rw [hR107] at hR
              obtain ⟨n_106, rfl, sf0, sf2, sf3, sf5, hst⟩ := hR
              clear hR107
              refine W_seq ?_
              refine W_region ?_
              refine L_mv (v := .int .i64 n_106) rfl sf5 ?_
              refine L_gtr (m := n_106) (n := 12) rfl rfl rfl ?_
              refine L_nil ?_
              obtain ⟨⟨n_117, g8_0_118⟩, hA120, hB100⟩ := bind_some hB100
              obtain ⟨R120, hR120⟩ : ∃ RR_ : Fr → World → Prop, RR_ = fun f w_ => ∃ v118_g8_0 : Value, f 0 = .pointer (some ⟨g_0, 0, none⟩) ∧ f 2 = .pointer (some ⟨g3, 0, none⟩) ∧ f 3 = .pointer (some ⟨g8, 0, none⟩) ∧ f 5 = .int .i64 n_117 ∧ (RP.slice 3 RP.int).rel H98 [v118_g8_0] g8_0_118 ∧ Star H98 w_ (box g_0 86 #[v0_0, .int .i64 g_0_1_34] :: box g8 26 #[v118_g8_0, (.slice none 0 0)] :: box g3 26 #[(.slice none 0 0), (.slice none 0 0)] :: R) := ⟨_, rfl⟩
              refine W_join R120 ?_ ?_
              ·
                refine W_cond (b := decide (n_106 > 12)) rfl (fun hc121 => ?_) (fun hc121 => ?_)
                ·
                  have hA120 := (ite_t hc121).symm.trans hA120
                  refine W_seq ?_
                  obtain ⟨x122, hx122, hA120⟩ := bind_some hA120
                  refine W_region ?_
                  refine L_fa (o' := 0) rfl fa_26_0 sf3 rfl ?_
                  refine L_ld (v := v96_g8_0) rfl Try.isAgg23 rfl (At.cell0 (Blk.at (Star.blkAt 1 hst rfl)) (j := 0) rfl) ?_
                  refine L_fa (o' := 0) rfl fa_26_0 sf3 rfl ?_
                  refine L_ld (v := v96_g8_0) rfl Try.isAgg23 rfl (At.cell0 (Blk.at (Star.blkAt 1 hst rfl)) (j := 0) rfl) ?_
                  refine L_len (v := v96_g8_0) (n := List.length g8_0_96) rfl Try.underlying23 rfl (slice_len hv97_g8_0) ?_
                  refine L_sub (m := (g8_0_96.length : Int)) (n := 1) rfl rfl rfl ?_
                  refine L_sl (a := 0) (b := i64 ((g8_0_96.length : Int) - 1)) rfl et_23 rfl hv97_g8_0 rfl rfl hx122 ?_
                  intro v126 hs127
                  refine L_fa (o' := 0) rfl fa_26_0 sf3 rfl ?_
                  refine L_stB (v := v126) (cs2 := #[v126, (.slice none 0 0)]) 1 rfl Try.sizeOf23 rfl rfl (one_len (slice_len hs127)) hst rfl rfl rfl ?_
                  intro w128 hst
                  refine L_nil ?_
                  refine W_region ?_
                  refine L_as (v := .int .i64 0) rfl rfl ?_
                  refine L_nil ?_
                  obtain ⟨rfl, rfl⟩ := so2 hA120
                  have hst := Star.get 2 hst rfl
                  have hst := Star.get 1 hst rfl
                  have hst := Star.get 2 hst rfl
                  show R120 _ _
                  rw [hR120]
                  exact ⟨v126, sf0, sf2, sf3, rfl, hs127, hst⟩
                ·
                  have hA120 := (ite_f hc121).symm.trans hA120
                  refine W_skip ?_
                  obtain ⟨rfl, rfl⟩ := so2 hA120
                  show R120 _ _
                  rw [hR120]
                  exact ⟨v96_g8_0, sf0, sf2, sf3, sf5, hv97_g8_0, hst⟩
              ·
                intro f w_ hR
                rw [hR120] at hR
                obtain ⟨v118_g8_0, sf0, sf2, sf3, sf5, hv119_g8_0, hst⟩ := hR
                clear hR120
                obtain rfl := so hB100
                show ∃ m, m < _ ∧ I100 m _ _
                refine ⟨n100, Nat.lt_succ_self _, ?_⟩
                rw [hI100]
                exact ⟨n_117, g8_0_118, H98, v118_g8_0, hL100, hle99, sf0, sf2, sf3, sf5, hv119_g8_0, hst⟩
          ·
            have hB100 := (ite_f hc104).symm.trans hB100
            refine W_exit ?_
            obtain rfl := so hB100
            obtain rfl := so hL100
            show R100 _ _
            rw [hR100]
            exact ⟨n_95, g8_0_96, H98, v96_g8_0, rfl, hle99, sf0, sf2, sf3, hv97_g8_0, hst⟩
    ·
      clear hst
      intro f w_ hR
      rw [hR100] at hR
      obtain ⟨n_95, g8_0_96, H98, v96_g8_0, rfl, hle99, sf0, sf2, sf3, hv97_g8_0, hst⟩ := hR
      clear hR100
      refine W_seq ?_
      refine W_seq ?_
      obtain ⟨x138, hx138, hF⟩ := bind_some hF
      refine W_region ?_
      refine L_mv (v := .pointer (some ⟨g_0, 0, none⟩)) rfl sf0 ?_
      refine L_bs rfl (parts5 rfl rfl rfl rfl rfl) (bs_23_5_0_0_0_0_0 (.int .i64 2) (.int .i64 3) (.int .i64 1) (.int .i64 4) (.int .i64 0) rfl rfl rfl rfl rfl) hst ?_
      intro g140 w141 hst
      have hst := Star.addF (r := RP.int) (cs := [.int .i64 0]) (x := 0) hst rfl
      have hst := Star.addF (r := RP.int) (cs := [.int .i64 4]) (x := 4) hst rfl
      have hst := Star.addF (r := RP.int) (cs := [.int .i64 1]) (x := 1) hst rfl
      have hst := Star.addF (r := RP.int) (cs := [.int .i64 3]) (x := 3) hst rfl
      have hst := Star.addF (r := RP.int) (cs := [.int .i64 2]) (x := 2) hst rfl
      have hst := Star.mkRow (R := (OR.frz RP.int)) [([.int .i64 2], 2), ([.int .i64 3], 3), ([.int .i64 1], 1), ([.int .i64 4], 4), ([.int .i64 0], 0)] [2, 3, 1, 4, 0] 5 hst rfl rfl rfl (by decide)
      have hst := Star.get 1 hst rfl
      obtain ⟨Hb143, hle144, hsb145, hfz146, hbk147⟩ := Star.lend [_] hst
      have hb148 : (RP.slice 3 RP.int).rel Hb143 [(.slice (some ⟨g140, 0, none⟩) 5 5)] ([2, 3, 1, 4, 0]) := fz_own 0 hfz146 rfl
      refine L_call (args := #[.pointer (some ⟨g_0, 0, none⟩), (.slice (some ⟨g140, 0, none⟩) 5 5)]) rfl Try.call49 (ops2 rfl rfl) (s_l17Rd_num_c (r_ := ({ b := r_.b, p := g_0_1_34 } : Rd)) (list := [2, 3, 1, 4, 0]) hsb145 (RP.mono _ h0_0 (Le.trans (Le.trans hle38 hle99) hle144)) hb148 hx138) ?_
      rintro _ w149 ⟨rfl, hst⟩
      have hst := hbk147 hst (closedL_cons (closed_box _ _ _) closedL_nil)
      refine L_as (v := .int .i64 x138.1) rfl rfl ?_
      refine L_nil ?_
      obtain ⟨j157, hL157, hF⟩ := bind_some hF
      obtain ⟨R157, hR157⟩ : ∃ RR_ : Fr → World → Prop, RR_ = fun f w_ => ∃ i_151 : Int, ∃ g_0_1_152 : Int, ∃ g8_1_153 : List Rule, ∃ H155 : FH, ∃ v153_g8_1 : Value, j157 = .nx (i_151, g_0_1_152, g8_1_153) ∧ Le H98 H155 ∧ f 2 = .pointer (some ⟨g3, 0, none⟩) ∧ f 3 = .pointer (some ⟨g8, 0, none⟩) ∧ Star H155 w_ (box g_0 86 #[v0_0, .int .i64 g_0_1_152] :: own (OR.ownS 36 (oRule 3 23)) [v153_g8_1] g8_1_153 :: box g8 26 #[v96_g8_0, v153_g8_1] :: box g3 26 #[(.slice none 0 0), (.slice none 0 0)] :: R) := ⟨_, rfl⟩
      refine W_join R157 ?_ ?_
      ·
        refine W_block ?_
        obtain ⟨I157, hI157⟩ : ∃ I : Nat → Fr → World → Prop, I = fun n f w_ => ∃ i_151 : Int, ∃ g_0_1_152 : Int, ∃ g8_1_153 : List Rule, ∃ H155 : FH, ∃ v153_g8_1 : Value, whileL (s_l6Model_b4 fu r_ g8_0_96) n (i_151, g_0_1_152, g8_1_153) = some j157 ∧ Le H98 H155 ∧ f 0 = .pointer (some ⟨g_0, 0, none⟩) ∧ f 2 = .pointer (some ⟨g3, 0, none⟩) ∧ f 3 = .pointer (some ⟨g8, 0, none⟩) ∧ f 7 = .int .i64 i_151 ∧ Star H155 w_ (box g_0 86 #[v0_0, .int .i64 g_0_1_152] :: own (OR.ownS 36 (oRule 3 23)) [v153_g8_1] g8_1_153 :: box g8 26 #[v96_g8_0, v153_g8_1] :: box g3 26 #[(.slice none 0 0), (.slice none 0 0)] :: R) := ⟨_, rfl⟩
        have hst := Star.addNil (R := (oRule 3 23)) (e := 36) hst
        have hst := Star.get 4 hst rfl
        have hst := Star.get 4 hst rfl
        have hst := Star.get 2 hst rfl
        have hst := Star.get 3 hst rfl
        have hst := Star.drop 4 hst rfl
        refine W_loop I157 (n := fu) ?_ ?_
        · rw [hI157]; exact ⟨x138.1, x138.2, [], H98, (.slice none 0 0), hL157, (Le.refl _), sf0, sf2, sf3, rfl, hst⟩
        ·
          clear hst
          intro n157 f w_ hI
          rw [hI157] at hI
          obtain ⟨i_151, g_0_1_152, g8_1_153, H155, v153_g8_1, hL157, hle156, sf0, sf2, sf3, sf7, hst⟩ := hI
          cases n157 with
          | zero => exact (while_zero hL157).elim
          | succ n157 =>
            obtain ⟨o157, hB157, hL157⟩ := while_succ hL157
            rw [s_l6Model_b4] at hB157
            refine W_seq ?_
            refine W_seq ?_
            refine W_region ?_
            refine L_mv (v := .int .i64 i_151) rfl sf7 ?_
            refine L_gtr (m := i_151) (n := 0) rfl rfl rfl ?_
            refine L_nil ?_
            refine W_cond (b := decide (i_151 > 0)) rfl (fun hc159 => ?_) (fun hc159 => ?_)
            ·
              have hB157 := (ite_t hc159).symm.trans hB157
              refine W_skip ?_
              refine W_seq ?_
              refine W_block ?_
              obtain ⟨x166, hx166, hB157⟩ := bind_some hB157
              obtain ⟨x174, hx174, hB157⟩ := bind_some hB157
              have hst := Star.get 3 hst rfl
              have hst := Star.get 3 hst rfl
              have hst := Star.get 3 hst rfl
              refine W_drawS 6 [isV (.pointer (some ⟨g8, 1, none⟩)), isV (v153_g8_1), isV (.pointer (some ⟨g_0, 0, none⟩)), isV (.agg #[v96_g8_0, v153_g8_1]), exA fun u_1 => exA fun u_2 => exA fun u_4 => isV (.agg #[.int .i64 x166.1.kind, u_1, u_2, .int .i64 x166.1.bound, u_4]), anyF] [own (OR.ownS 36 (oRule 3 23)) [v153_g8_1] g8_1_153, box g8 26 #[v96_g8_0, v153_g8_1], box g3 26 #[(.slice none 0 0), (.slice none 0 0)]] [.base (box g_0 86 #[v0_0, .int .i64 g_0_1_152]) (some 4), .made 4 62 (fun v_ => own (OR.ownS 3 (OR.frz RP.int)) [(aggC v_ 1)] x166.1.vars) (some 5), .made 4 62 (fun v_ => own (OR.ownS 3 (OR.frz RP.int)) [(aggC v_ 2)] x166.1.coefs) (some 5), .made 4 62 (fun v_ => own (OR.ownS 23 (OR.ownS 3 (OR.frz RP.int))) [(aggC v_ 4)] x166.1.rows) (some 5), .made 4 62 (fun v_ => box g_0 86 #[v0_0, .int .i64 x166.2]) none, .made 5 63 (fun v_ => own (OR.ownS 36 (oRule 3 23)) [v_] ([x166.1])) none] (R) [([], []), ([], []), ([], []), ([], []), ([0], [1, 2, 3, 4]), ([1, 2, 3], [5])] (S := [(none, none, some 4), (some 4, some 62, some 5), (some 4, some 62, some 5), (some 4, some 62, some 5), (some 4, some 62, none), (some 5, some 63, none)]) Try_mix (by kernel_rfl) rfl (by kernel_rfl) (amF_cons (mono_V _) (amF_cons (mono_V _) (amF_cons (mono_V _) (amF_cons (mono_V _) (amF_cons (mono_exA fun _ => mono_exA fun _ => mono_exA fun _ => mono_V _) (amF_cons (mono_any) amF_nil)))))) hst ?_ (fun f w_ H179 hS179 hE179 hT179 hst => ?_)
              ·
                refine opsS_cons ?_ ?_
                ·
                  intro f w_ H179 X179 hS179 hE179 hP179 hst
                  refine L_fa (o' := 1) rfl fa_26_1 ((hS179 3 rfl).trans sf3) rfl ?_
                  exact L_nil ⟨rfl, _, _, _, rfl, rfl, Le.refl _, rfl, hst⟩
                refine opsS_cons ?_ ?_
                ·
                  intro f w_ H179 X179 hS179 hE179 hP179 hst
                  refine L_ld (v := v153_g8_1) rfl Try.isAgg24 (hP179 0 58 rfl rfl) (At.cell0 (Blk.at (Star.blkAt 1 hst rfl)) (j := 1) rfl) ?_
                  exact L_nil ⟨rfl, _, _, _, rfl, rfl, Le.refl _, rfl, hst⟩
                refine opsS_cons ?_ ?_
                ·
                  intro f w_ H179 X179 hS179 hE179 hP179 hst
                  refine L_mv (v := .pointer (some ⟨g_0, 0, none⟩)) rfl ((hS179 0 rfl).trans sf0) ?_
                  exact L_nil ⟨rfl, _, _, _, rfl, rfl, Le.refl _, rfl, hst⟩
                refine opsS_cons ?_ ?_
                ·
                  intro f w_ H179 X179 hS179 hE179 hP179 hst
                  refine L_lda (cs := [v96_g8_0, v153_g8_1]) rfl Try.isAgg26 Try.sizeOf26 ((hS179 3 rfl).trans sf3) (At.sub0 (Blk.at (Star.blkAt 1 hst rfl)) 0 2) rfl ?_
                  exact L_nil ⟨rfl, _, _, _, rfl, rfl, Le.refl _, rfl, hst⟩
                refine opsS_cons ?_ ?_
                ·
                  intro f w_ H179 X179 hS179 hE179 hP179 hst
                  have hst : Star H179 w_ (own (OR.ownS 36 (oRule 3 23)) [v153_g8_1] g8_1_153 :: box g8 26 #[v96_g8_0, v153_g8_1] :: box g3 26 #[(.slice none 0 0), (.slice none 0 0)] :: box g_0 86 #[v0_0, .int .i64 g_0_1_152] :: X179) := hst
                  have hst := Star.get 3 hst rfl
                  obtain ⟨Hb193, hle194, hsb195, hfz196, hbk197⟩ := Star.lend [_] hst
                  have hb198 : (RP.slice 36 (rRule 3 23)).rel Hb193 [v153_g8_1] g8_1_153 := fz_own 0 hfz196 rfl
                  refine L_call (args := #[.pointer (some ⟨g_0, 0, none⟩), .agg #[v96_g8_0, v153_g8_1]]) rfl Try.call81 (ops2 (hP179 2 60 rfl rfl) (hP179 3 61 rfl rfl)) (s_l6Draw_c (r_ := ({ b := r_.b, p := g_0_1_152 } : Rd)) (m := ({ sizes := g8_0_96, rules := g8_1_153 } : Model)) hsb195 (RP.mono _ h0_0 (Le.trans (Le.trans (Le.trans (Le.trans hle38 hle99) hle156) hE179) hle194)) (RP.mono _ hv97_g8_0 (Le.trans (Le.trans hle156 hE179) hle194)) hb198 hx166) ?_
                  rintro _ w199 ⟨r199_0, r199_1, r199_2, rfl, hst⟩
                  have hst := hbk197 hst (closedL_cons (closed_own (OR.closed_ownS closed_int) _ _) (closedL_cons (closed_own (OR.closed_ownS closed_int) _ _) (closedL_cons (closed_own (OR.closed_ownS (OR.closed_ownS closed_int)) _ _) (closedL_cons (closed_box _ _ _) closedL_nil))))
                  have hst := Star.get 3 hst rfl
                  have hst := Star.get 3 hst rfl
                  have hst := Star.get 3 hst rfl
                  have hst := Star.get 3 hst rfl
                  have hst := Star.get 6 hst rfl
                  have hst := Star.get 6 hst rfl
                  have hst := Star.get 6 hst rfl
                  exact L_nil ⟨rfl, _, _, _, rfl, rfl, Le.refl _, ⟨_, _, _, rfl⟩, hst⟩
                refine opsS_cons ?_ ?_
                ·
                  intro f w_ H179 X179 hS179 hE179 hP179 hst
                  have hst : Star H179 w_ (own (OR.ownS 36 (oRule 3 23)) [v153_g8_1] g8_1_153 :: box g8 26 #[v96_g8_0, v153_g8_1] :: box g3 26 #[(.slice none 0 0), (.slice none 0 0)] :: own (OR.ownS 3 (OR.frz RP.int)) [(aggC (f 62) 1)] x166.1.vars :: own (OR.ownS 3 (OR.frz RP.int)) [(aggC (f 62) 2)] x166.1.coefs :: own (OR.ownS 23 (OR.ownS 3 (OR.frz RP.int))) [(aggC (f 62) 4)] x166.1.rows :: X179) := hst
                  obtain ⟨u203_1, u203_2, u203_4, hv203⟩ := (hP179 4 62 rfl rfl)
                  have hren : Star H179 w_ (own (OR.ownS 36 (oRule 3 23)) [v153_g8_1] g8_1_153 :: box g8 26 #[v96_g8_0, v153_g8_1] :: box g3 26 #[(.slice none 0 0), (.slice none 0 0)] :: own (OR.ownS 3 (OR.frz RP.int)) [(aggC (f 62) 1)] x166.1.vars :: own (OR.ownS 3 (OR.frz RP.int)) [(aggC (f 62) 2)] x166.1.coefs :: own (OR.ownS 23 (OR.ownS 3 (OR.frz RP.int))) [(aggC (f 62) 4)] x166.1.rows :: X179) := hst
                  rw [hv203] at hren
                  have hst : Star H179 w_ (own (OR.ownS 36 (oRule 3 23)) [v153_g8_1] g8_1_153 :: box g8 26 #[v96_g8_0, v153_g8_1] :: box g3 26 #[(.slice none 0 0), (.slice none 0 0)] :: own (OR.ownS 3 (OR.frz RP.int)) [u203_1] x166.1.vars :: own (OR.ownS 3 (OR.frz RP.int)) [u203_2] x166.1.coefs :: own (OR.ownS 23 (OR.ownS 3 (OR.frz RP.int))) [u203_4] x166.1.rows :: X179) := hren
                  refine L_bs rfl (parts1 hv203) (bs_24_1_5 (.int .i64 x166.1.kind) (u203_1) (u203_2) (.int .i64 x166.1.bound) (u203_4) ) hst ?_
                  intro g204 w205 hst
                  have hst := Star.get 6 hst rfl
                  have hst := Star.get 6 hst rfl
                  have hst := Star.get 6 hst rfl
                  have hst := oRule_close (r := x166.1) hst
                  have hst := Star.mkRow (R := (oRule 3 23)) [([.int .i64 x166.1.kind, u203_1, u203_2, .int .i64 x166.1.bound, u203_4], x166.1)] [x166.1] 1 hst rfl rfl rfl (by decide)
                  have hst := Star.get 3 hst rfl
                  have hst := Star.get 3 hst rfl
                  have hst := Star.get 3 hst rfl
                  exact L_nil ⟨rfl, _, _, _, rfl, rfl, Le.refl _, trivial, hst⟩
                exact opsS_nil
              ·
                have hst : Star H179 w_ (own (OR.ownS 36 (oRule 3 23)) [v153_g8_1] g8_1_153 :: box g8 26 #[v96_g8_0, v153_g8_1] :: box g3 26 #[(.slice none 0 0), (.slice none 0 0)] :: box g_0 86 #[v0_0, .int .i64 x166.2] :: own (OR.ownS 36 (oRule 3 23)) [(f 63)] ([x166.1]) :: R) := hst
                have hst := Star.get 4 hst rfl
                have hst := Star.get 1 hst rfl
                refine L_appM (v := v153_g8_1) (u := (f 63)) rfl et_24 (hT179 1 59 rfl rfl) rfl hst hx174 ?_
                intro v208 w209 hst
                refine L_fa (o' := 1) rfl fa_26_1 ((hS179 3 rfl).trans sf3) rfl ?_
                refine L_stB (v := v208) (cs2 := #[v96_g8_0, v208]) 1 rfl Try.sizeOf24 rfl rfl (one_len (Star.len 0 hst rfl)) hst rfl rfl rfl ?_
                intro w211 hst
                refine L_nil ?_
                refine W_region ?_
                refine L_mv (v := .int .i64 i_151) rfl ((hS179 7 rfl).trans sf7) ?_
                refine L_sub (m := i_151) (n := 1) rfl rfl rfl ?_
                refine L_as (v := .int .i64 (i64 (i_151 - 1))) rfl rfl ?_
                refine L_nil ?_
                obtain rfl := so hB157
                have hst := Star.get 2 hst rfl
                have hst := Star.get 1 hst rfl
                have hst := Star.get 2 hst rfl
                have hst := Star.get 3 hst rfl
                show ∃ m, m < _ ∧ I157 m _ _
                refine ⟨n157, Nat.lt_succ_self _, ?_⟩
                rw [hI157]
                exact ⟨i64 (i_151 - 1), x166.2, x174, H179, v208, hL157, (Le.trans hle156 hE179), ((hS179 0 rfl).trans sf0), ((hS179 2 rfl).trans sf2), ((hS179 3 rfl).trans sf3), rfl, hst⟩
            ·
              have hB157 := (ite_f hc159).symm.trans hB157
              refine W_exit ?_
              obtain rfl := so hB157
              obtain rfl := so hL157
              show R157 _ _
              rw [hR157]
              exact ⟨i_151, g_0_1_152, g8_1_153, H155, v153_g8_1, rfl, hle156, sf2, sf3, hst⟩
      ·
        clear hst
        intro f w_ hR
        rw [hR157] at hR
        obtain ⟨i_151, g_0_1_152, g8_1_153, H155, v153_g8_1, rfl, hle156, sf2, sf3, hst⟩ := hR
        clear hR157
        refine W_seq ?_
        refine W_region ?_
        refine L_lda (cs := [v96_g8_0, v153_g8_1]) rfl Try.isAgg26 Try.sizeOf26 sf3 (At.sub0 (Blk.at (Star.blkAt 2 hst rfl)) 0 2) rfl ?_
        refine L_staB (vs := #[v96_g8_0, v153_g8_1]) (cs2 := #[v96_g8_0, v153_g8_1]) 3 rfl Try.sizeOf26 sf2 rfl rfl (ones_cons (one_len (slice_len (RP.mono _ hv97_g8_0 hle156))) (ones_cons (one_len (Star.len 1 hst rfl)) ones_nil)) hst rfl (by decide) rfl ?_
        intro w213 hst
        refine L_nil ?_
        refine W_ret ?_
        refine retG1 (v1 := .agg #[v96_g8_0, v153_g8_1]) Try.results48 (resV_agg Try.isAgg26 Try.sizeOf26 sf2 (Star.blkAt 0 hst rfl) rfl) ?_
        obtain rfl := so hF
        have hst := Star.get 1 hst rfl
        have hst := Star.get 2 hst rfl
        have hst := Star.drop 2 hst rfl
        have hst := Star.drop 2 hst rfl
        exact ⟨H155, (Le.trans (Le.trans hle38 hle99) hle156), v96_g8_0, v153_g8_1, rfl, (RP.mono _ hv97_g8_0 hle156), hst⟩

theorem i_within_c {n_ : Int} {low : Int} {high : Int} {H : FH} {w : World} (hst : Star H w []) {r : Bool} (hF : i_within n_ low high = some r) :
    C Try.prog 50 #[.int .i64 n_, .int .i64 low, .int .i64 high] w fun v w' => v = .bool r ∧ Star H w' [] := by
  unfold i_within at hF
  refine C_enter Try.func50 rfl Try.ntmps50 rfl ?_
  refine W_seq ?_
  refine W_region ?_
  refine L_as (v := .bool false) rfl rfl ?_
  refine L_nil ?_
  refine W_seq ?_
  obtain ⟨R1, hR1⟩ : ∃ RR_ : Fr → World → Prop, RR_ = fun f w_ => f 6 = .bool ((decide (low ≤ n_)) && (decide (n_ ≤ high))) ∧ Star H w_ ([]) := ⟨_, rfl⟩
  refine W_join R1 ?_ ?_
  ·
    refine W_region ?_
    refine L_mv (v := .int .i64 low) rfl rfl ?_
    refine L_mv (v := .int .i64 n_) rfl rfl ?_
    refine L_leq (m := low) (n := n_) rfl rfl rfl ?_
    refine L_mv (v := .bool (decide (low ≤ n_))) rfl rfl ?_
    refine L_split (d := 10) (b := decide (low ≤ n_)) rfl (fun hc2 => ?_) (fun hc2 => ?_)
    ·
      refine L_mv (v := .int .i64 n_) rfl rfl ?_
      refine L_mv (v := .int .i64 high) rfl rfl ?_
      refine L_leq (m := n_) (n := high) rfl rfl rfl ?_
      refine L_pick (v := .bool ((decide (low ≤ n_)) && (decide (n_ ≤ high)))) rfl rfl (and_t hc2 rfl) ?_
      refine L_as (v := .bool ((decide (low ≤ n_)) && (decide (n_ ≤ high)))) rfl rfl ?_
      refine L_nil ?_
      show R1 _ _
      rw [hR1]
      exact ⟨rfl, hst⟩
    ·
      refine L_pass rfl ?_
      refine L_pass rfl ?_
      refine L_pass rfl ?_
      refine L_pick (v := .bool ((decide (low ≤ n_)) && (decide (n_ ≤ high)))) rfl rfl (and_f hc2) ?_
      refine L_as (v := .bool ((decide (low ≤ n_)) && (decide (n_ ≤ high)))) rfl rfl ?_
      refine L_nil ?_
      show R1 _ _
      rw [hR1]
      exact ⟨rfl, hst⟩
  ·
    intro f w_ hR
    rw [hR1] at hR
    obtain ⟨sf6, hst⟩ := hR
    clear hR1
    refine W_ret ?_
    refine retG1 (v1 := .bool ((decide (low ≤ n_)) && (decide (n_ ≤ high)))) Try.results50 sf6 ?_
    obtain rfl := so hF
    exact ⟨rfl, hst⟩

theorem slices_IndexFunc_implRule_c {s : List Rule} {f_ : (Rule → Option Bool)} {v0 : Value} {v1 : Value} {H : FH} {w : World} (hst : Star H w []) (h0 : (RP.slice 36 (rRule 3 23)).rel H [v0] s) (h1 : Fun1 Try.prog (rRule 3 23) true Value.bool f_ v1 H) {r : Int} (hF : slices_IndexFunc_implRule s f_ = some r) :
    C Try.prog 86 #[v0, v1] w fun v w' => v = .int .i64 r ∧ Star H w' [] := by
  unfold slices_IndexFunc_implRule at hF
  obtain ⟨fid_1, caps_1, rfl, hcall_1, hc_1⟩ := h1
  refine C_enter Try.func86 rfl Try.ntmps86 rfl ?_
  refine W_seq ?_
  refine W_region ?_
  refine L_as (v := .int .i64 0) rfl rfl ?_
  refine L_nil ?_
  refine W_seq ?_
  refine W_seq ?_
  refine W_region ?_
  refine L_mv (v := v0) rfl rfl ?_
  refine L_len (v := v0) (n := List.length s) rfl Try.underlying24 rfl (slice_len h0) ?_
  refine L_mv (v := .int .i64 0) rfl rfl ?_
  refine L_nil ?_
  have hlen2 : List.length s ≤ 9223372036854775807 := len_le (slice_len h0)
  obtain ⟨j2, hL2, hF⟩ := bind_some hF
  obtain ⟨R2, hR2⟩ : ∃ RR_ : Fr → World → Prop, RR_ = fun f w_ => j2 = .nx () ∧ Star H w_ ([]) := ⟨_, rfl⟩
  refine W_join R2 ?_ ?_
  ·
    refine W_block ?_
    obtain ⟨I2, hI2⟩ : ∃ I : Nat → Fr → World → Prop, I = fun n f w_ => ∃ i_1 : Nat, ∃ suf2 : List Rule, n = suf2.length ∧ List.drop i_1 s = suf2 ∧ i_1 + suf2.length = s.length ∧ rangeL (slices_IndexFunc_implRule_b1 f_) suf2 i_1 () = some j2 ∧ f 0 = v0 ∧ f 1 = .func (.func fid_1) #[] caps_1 ∧ f 7 = .int .i64 (s.length : Int) ∧ f 8 = .int .i64 (i_1 : Int) ∧ Star H w_ ([]) := ⟨_, rfl⟩
    refine W_loop I2 (n := s.length) ?_ ?_
    · rw [hI2]; exact ⟨0, s, rfl, rfl, Nat.zero_add _, hL2, rfl, rfl, rfl, rfl, hst⟩
    ·
      clear hst
      intro n2 f w_ hI
      rw [hI2] at hI
      obtain ⟨i_1, suf2, rfl, hd2, hl2, hL2, sf0, sf1, sf7, sf8, hst⟩ := hI
      refine W_seq ?_
      refine W_region ?_
      refine L_lss (m := (i_1 : Int)) (n := (s.length : Int)) rfl sf8 sf7 ?_
      refine L_nil ?_
      refine W_seq ?_
      refine W_cond (b := decide ((i_1 : Int) < (s.length : Int))) rfl (fun hc3 => ?_) (fun hc3 => ?_)
      ·
        have hlt2 := of_decide_eq_true hc3
        cases suf2 with
        | nil => exact absurd hlt2 (by simp at hl2; omega)
        | cons x_2 rest2 =>
          obtain ⟨o2, hB2, hL2⟩ := range_cons hL2
          rw [slices_IndexFunc_implRule_b1] at hB2
          have hix2 := drop_idx hd2
          refine W_skip ?_
          refine W_seq ?_
          refine W_block ?_
          refine W_seq ?_
          refine W_region ?_
          refine L_mv (v := .int .i64 (i_1 : Int)) rfl sf8 ?_
          refine L_as (v := .int .i64 (i_1 : Int)) rfl rfl ?_
          refine L_nil ?_
          refine W_seq ?_
          obtain ⟨x8, hx8, hB2⟩ := bind_some hB2
          refine W_region ?_
          refine L_mv (v := .func (.func fid_1) #[] caps_1) rfl sf1 ?_
          refine L_mv (v := v0) rfl sf0 ?_
          refine L_mv (v := .int .i64 (i_1 : Int)) rfl rfl ?_
          refine L_ix (r := (rRule 3 23)) rfl Try.underlying24 Try.sizeOf36 rfl h0 rfl hix2 ?_
          intro g15 o16 cs_g15 hrk_hat17 hat17
          obtain ⟨u18_0, u18_1, u18_2, rfl, hu18_0, hu18_1, hu18_2⟩ := rRule_iff.1 hrk_hat17
          refine L_lda (cs := [.int .i64 x_2.kind, u18_0, u18_1, .int .i64 x_2.bound, u18_2]) rfl Try.isAgg36 Try.sizeOf36 rfl (At.sub (AtH.at hat17 hst.sub) 0 5) rfl ?_
          obtain ⟨Hb19, hle20, hsb21, hfz22, hbk23⟩ := Star.borrow hst
          refine L_callv (args := #[.agg #[.int .i64 x_2.kind, u18_0, u18_1, .int .i64 x_2.bound, u18_2]]) rfl hcall_1 rfl (ops1 rfl) (hc_1 _ _ hle20 hsb21 [.int .i64 x_2.kind, u18_0, u18_1, .int .i64 x_2.bound, u18_2] _ _ _ (rRule_iff.2 ⟨_, _, _, rfl, (RP.mono _ hu18_0 hle20), (RP.mono _ hu18_1 hle20), (RP.mono _ hu18_2 hle20)⟩) hx8 (args_app rfl)) ?_
          rintro _ w24 ⟨rfl, hst⟩
          have hst := hbk23 hst closedL_nil
          refine L_nil ?_
          refine W_cond (b := x8) rfl (fun hc25 => ?_) (fun hc25 => ?_)
          ·
            have hB2 := (ite_t hc25).symm.trans hB2
            refine W_seq ?_
            refine W_region ?_
            refine L_mv (v := .int .i64 (i_1 : Int)) rfl rfl ?_
            refine L_as (v := .int .i64 (i_1 : Int)) rfl rfl ?_
            refine L_nil ?_
            refine W_ret ?_
            refine retG1 (v1 := .int .i64 (i_1 : Int)) Try.results86 rfl ?_
            obtain rfl := so hB2
            obtain rfl := so hL2
            obtain rfl := so hF
            exact ⟨rfl, hst⟩
          ·
            have hB2 := (ite_f hc25).symm.trans hB2
            refine W_skip ?_
            refine W_region ?_
            refine L_add (m := (i_1 : Int)) (n := 1) rfl sf8 rfl ?_
            refine L_mv (v := .int .i64 (i64 ((i_1 : Int) + 1))) rfl rfl ?_
            refine L_nil ?_
            obtain rfl := so hB2
            show ∃ m, m < _ ∧ I2 m _ _
            refine ⟨rest2.length, by simp, ?_⟩
            rw [hI2]
            exact ⟨i_1 + 1, rest2, rfl, drop_next hd2, by simp at hl2; omega, hL2, sf0, sf1, sf7, (Eq.trans rfl (congrArg (Value.int .i64) (i64_succ (n := s.length) (by simp at hl2; omega) hlen2))), hst⟩
      ·
        cases suf2 with
        | cons _ _ => exact absurd (of_decide_eq_false hc3) (by simp at hl2; omega)
        | nil =>
          obtain rfl := range_nil hL2
          refine W_exit ?_
          show R2 _ _
          rw [hR2]
          exact ⟨rfl, hst⟩
  ·
    clear hst
    intro f w_ hR
    rw [hR2] at hR
    obtain ⟨rfl, hst⟩ := hR
    clear hR2
    refine W_seq ?_
    refine W_region ?_
    refine L_as (v := .int .i64 (-1)) rfl rfl ?_
    refine L_nil ?_
    refine W_ret ?_
    refine retG1 (v1 := .int .i64 (-1)) Try.results86 rfl ?_
    obtain rfl := so hF
    exact ⟨rfl, hst⟩

theorem slices_ContainsFunc_implRule_c {s : List Rule} {f_ : (Rule → Option Bool)} {v0 : Value} {v1 : Value} {H : FH} {w : World} (hst : Star H w []) (h0 : (RP.slice 36 (rRule 3 23)).rel H [v0] s) (h1 : Fun1 Try.prog (rRule 3 23) true Value.bool f_ v1 H) {r : Bool} (hF : slices_ContainsFunc_implRule s f_ = some r) :
    C Try.prog 66 #[v0, v1] w fun v w' => v = .bool r ∧ Star H w' [] := by
  unfold slices_ContainsFunc_implRule at hF
  obtain ⟨fid_1, caps_1, rfl, hcall_1, hc_1⟩ := h1
  refine C_enter Try.func66 rfl Try.ntmps66 rfl ?_
  refine W_seq ?_
  refine W_region ?_
  refine L_as (v := .bool false) rfl rfl ?_
  refine L_nil ?_
  refine W_seq ?_
  obtain ⟨x6, hx6, hF⟩ := bind_some hF
  refine W_region ?_
  refine L_mv (v := v0) rfl rfl ?_
  refine L_mv (v := .func (.func fid_1) #[] caps_1) rfl rfl ?_
  obtain ⟨Hb8, hle9, hsb10, hfz11, hbk12⟩ := Star.borrow hst
  refine L_call (args := #[v0, .func (.func fid_1) #[] caps_1]) rfl Try.call86 (ops2 rfl rfl) (slices_IndexFunc_implRule_c (s := s) (f_ := f_) hsb10 (RP.mono _ h0 hle9) (Fun1.le ⟨_, _, rfl, hcall_1, hc_1⟩ hle9) hx6) ?_
  rintro _ w13 ⟨rfl, hst⟩
  have hst := hbk12 hst closedL_nil
  refine L_geq (m := x6) (n := 0) rfl rfl rfl ?_
  refine L_as (v := .bool (decide (x6 ≥ 0))) rfl rfl ?_
  refine L_nil ?_
  refine W_ret ?_
  refine retG1 (v1 := .bool (decide (x6 ≥ 0))) Try.results66 rfl ?_
  obtain rfl := so hF
  exact ⟨rfl, hst⟩

theorem slices_Index_int_c {s : List Int} {v_ : Int} {v0 : Value} {H : FH} {w : World} (hst : Star H w []) (h0 : (RP.slice 3 RP.int).rel H [v0] s) {r : Int} (hF : slices_Index_int s v_ = some r) :
    C Try.prog 103 #[v0, .int .i64 v_] w fun v w' => v = .int .i64 r ∧ Star H w' [] := by
  unfold slices_Index_int at hF
  refine C_enter Try.func103 rfl Try.ntmps103 rfl ?_
  refine W_seq ?_
  refine W_region ?_
  refine L_as (v := .int .i64 0) rfl rfl ?_
  refine L_nil ?_
  refine W_seq ?_
  refine W_seq ?_
  refine W_region ?_
  refine L_mv (v := v0) rfl rfl ?_
  refine L_len (v := v0) (n := List.length s) rfl Try.underlying23 rfl (slice_len h0) ?_
  refine L_mv (v := .int .i64 0) rfl rfl ?_
  refine L_nil ?_
  have hlen2 : List.length s ≤ 9223372036854775807 := len_le (slice_len h0)
  obtain ⟨j2, hL2, hF⟩ := bind_some hF
  obtain ⟨R2, hR2⟩ : ∃ RR_ : Fr → World → Prop, RR_ = fun f w_ => j2 = .nx () ∧ Star H w_ ([]) := ⟨_, rfl⟩
  refine W_join R2 ?_ ?_
  ·
    refine W_block ?_
    obtain ⟨I2, hI2⟩ : ∃ I : Nat → Fr → World → Prop, I = fun n f w_ => ∃ i_1 : Nat, ∃ suf2 : List Int, n = suf2.length ∧ List.drop i_1 s = suf2 ∧ i_1 + suf2.length = s.length ∧ rangeL (slices_Index_int_b1 v_) suf2 i_1 () = some j2 ∧ f 0 = v0 ∧ f 1 = .int .i64 v_ ∧ f 7 = .int .i64 (s.length : Int) ∧ f 8 = .int .i64 (i_1 : Int) ∧ Star H w_ ([]) := ⟨_, rfl⟩
    refine W_loop I2 (n := s.length) ?_ ?_
    · rw [hI2]; exact ⟨0, s, rfl, rfl, Nat.zero_add _, hL2, rfl, rfl, rfl, rfl, hst⟩
    ·
      clear hst
      intro n2 f w_ hI
      rw [hI2] at hI
      obtain ⟨i_1, suf2, rfl, hd2, hl2, hL2, sf0, sf1, sf7, sf8, hst⟩ := hI
      refine W_seq ?_
      refine W_region ?_
      refine L_lss (m := (i_1 : Int)) (n := (s.length : Int)) rfl sf8 sf7 ?_
      refine L_nil ?_
      refine W_seq ?_
      refine W_cond (b := decide ((i_1 : Int) < (s.length : Int))) rfl (fun hc3 => ?_) (fun hc3 => ?_)
      ·
        have hlt2 := of_decide_eq_true hc3
        cases suf2 with
        | nil => exact absurd hlt2 (by simp at hl2; omega)
        | cons x_2 rest2 =>
          obtain ⟨o2, hB2, hL2⟩ := range_cons hL2
          rw [slices_Index_int_b1] at hB2
          have hix2 := drop_idx hd2
          refine W_skip ?_
          refine W_seq ?_
          refine W_block ?_
          refine W_seq ?_
          refine W_region ?_
          refine L_mv (v := .int .i64 (i_1 : Int)) rfl sf8 ?_
          refine L_as (v := .int .i64 (i_1 : Int)) rfl rfl ?_
          refine L_nil ?_
          refine W_seq ?_
          refine W_region ?_
          refine L_mv (v := .int .i64 v_) rfl sf1 ?_
          refine L_mv (v := v0) rfl sf0 ?_
          refine L_mv (v := .int .i64 (i_1 : Int)) rfl rfl ?_
          refine L_ix (r := RP.int) rfl Try.underlying23 Try.sizeOf3 rfl h0 rfl hix2 ?_
          intro g8 o9 cs_g8 hrk_hat10 hat10
          obtain rfl : _ = [_] := hrk_hat10
          refine L_ld (v := .int .i64 x_2) rfl Try.isAgg3 rfl (At.cell (AtH.at hat10 hst.sub) (j := 0) rfl) ?_
          refine L_eql (m := v_) (n := x_2) rfl rfl rfl ?_
          refine L_nil ?_
          refine W_cond (b := (v_ == x_2)) rfl (fun hc12 => ?_) (fun hc12 => ?_)
          ·
            have hB2 := (ite_t hc12).symm.trans hB2
            refine W_seq ?_
            refine W_region ?_
            refine L_mv (v := .int .i64 (i_1 : Int)) rfl rfl ?_
            refine L_as (v := .int .i64 (i_1 : Int)) rfl rfl ?_
            refine L_nil ?_
            refine W_ret ?_
            refine retG1 (v1 := .int .i64 (i_1 : Int)) Try.results103 rfl ?_
            obtain rfl := so hB2
            obtain rfl := so hL2
            obtain rfl := so hF
            exact ⟨rfl, hst⟩
          ·
            have hB2 := (ite_f hc12).symm.trans hB2
            refine W_skip ?_
            refine W_region ?_
            refine L_add (m := (i_1 : Int)) (n := 1) rfl sf8 rfl ?_
            refine L_mv (v := .int .i64 (i64 ((i_1 : Int) + 1))) rfl rfl ?_
            refine L_nil ?_
            obtain rfl := so hB2
            show ∃ m, m < _ ∧ I2 m _ _
            refine ⟨rest2.length, by simp, ?_⟩
            rw [hI2]
            exact ⟨i_1 + 1, rest2, rfl, drop_next hd2, by simp at hl2; omega, hL2, sf0, sf1, sf7, (Eq.trans rfl (congrArg (Value.int .i64) (i64_succ (n := s.length) (by simp at hl2; omega) hlen2))), hst⟩
      ·
        cases suf2 with
        | cons _ _ => exact absurd (of_decide_eq_false hc3) (by simp at hl2; omega)
        | nil =>
          obtain rfl := range_nil hL2
          refine W_exit ?_
          show R2 _ _
          rw [hR2]
          exact ⟨rfl, hst⟩
  ·
    clear hst
    intro f w_ hR
    rw [hR2] at hR
    obtain ⟨rfl, hst⟩ := hR
    clear hR2
    refine W_seq ?_
    refine W_region ?_
    refine L_as (v := .int .i64 (-1)) rfl rfl ?_
    refine L_nil ?_
    refine W_ret ?_
    refine retG1 (v1 := .int .i64 (-1)) Try.results103 rfl ?_
    obtain rfl := so hF
    exact ⟨rfl, hst⟩

theorem slices_Contains_int_c {s : List Int} {v_ : Int} {v0 : Value} {H : FH} {w : World} (hst : Star H w []) (h0 : (RP.slice 3 RP.int).rel H [v0] s) {r : Bool} (hF : slices_Contains_int s v_ = some r) :
    C Try.prog 87 #[v0, .int .i64 v_] w fun v w' => v = .bool r ∧ Star H w' [] := by
  unfold slices_Contains_int at hF
  refine C_enter Try.func87 rfl Try.ntmps87 rfl ?_
  refine W_seq ?_
  refine W_region ?_
  refine L_as (v := .bool false) rfl rfl ?_
  refine L_nil ?_
  refine W_seq ?_
  obtain ⟨x6, hx6, hF⟩ := bind_some hF
  refine W_region ?_
  refine L_mv (v := v0) rfl rfl ?_
  refine L_mv (v := .int .i64 v_) rfl rfl ?_
  obtain ⟨Hb8, hle9, hsb10, hfz11, hbk12⟩ := Star.borrow hst
  refine L_call (args := #[v0, .int .i64 v_]) rfl Try.call103 (ops2 rfl rfl) (slices_Index_int_c (s := s) (v_ := v_) hsb10 (RP.mono _ h0 hle9) hx6) ?_
  rintro _ w13 ⟨rfl, hst⟩
  have hst := hbk12 hst closedL_nil
  refine L_geq (m := x6) (n := 0) rfl rfl rfl ?_
  refine L_as (v := .bool (decide (x6 ≥ 0))) rfl rfl ?_
  refine L_nil ?_
  refine W_ret ?_
  refine retG1 (v1 := .bool (decide (x6 ≥ 0))) Try.results87 rfl ?_
  obtain rfl := so hF
  exact ⟨rfl, hst⟩

theorem slices_IndexFunc_int_c {s : List Int} {f_ : (Int → Option Bool)} {v0 : Value} {v1 : Value} {H : FH} {w : World} (hst : Star H w []) (h0 : (RP.slice 3 RP.int).rel H [v0] s) (h1 : Fun1 Try.prog RP.int false Value.bool f_ v1 H) {r : Int} (hF : slices_IndexFunc_int s f_ = some r) :
    C Try.prog 104 #[v0, v1] w fun v w' => v = .int .i64 r ∧ Star H w' [] := by
  unfold slices_IndexFunc_int at hF
  obtain ⟨fid_1, caps_1, rfl, hcall_1, hc_1⟩ := h1
  refine C_enter Try.func104 rfl Try.ntmps104 rfl ?_
  refine W_seq ?_
  refine W_region ?_
  refine L_as (v := .int .i64 0) rfl rfl ?_
  refine L_nil ?_
  refine W_seq ?_
  refine W_seq ?_
  refine W_region ?_
  refine L_mv (v := v0) rfl rfl ?_
  refine L_len (v := v0) (n := List.length s) rfl Try.underlying23 rfl (slice_len h0) ?_
  refine L_mv (v := .int .i64 0) rfl rfl ?_
  refine L_nil ?_
  have hlen2 : List.length s ≤ 9223372036854775807 := len_le (slice_len h0)
  obtain ⟨j2, hL2, hF⟩ := bind_some hF
  obtain ⟨R2, hR2⟩ : ∃ RR_ : Fr → World → Prop, RR_ = fun f w_ => j2 = .nx () ∧ Star H w_ ([]) := ⟨_, rfl⟩
  refine W_join R2 ?_ ?_
  ·
    refine W_block ?_
    obtain ⟨I2, hI2⟩ : ∃ I : Nat → Fr → World → Prop, I = fun n f w_ => ∃ i_1 : Nat, ∃ suf2 : List Int, n = suf2.length ∧ List.drop i_1 s = suf2 ∧ i_1 + suf2.length = s.length ∧ rangeL (slices_IndexFunc_int_b1 f_) suf2 i_1 () = some j2 ∧ f 0 = v0 ∧ f 1 = .func (.func fid_1) #[] caps_1 ∧ f 7 = .int .i64 (s.length : Int) ∧ f 8 = .int .i64 (i_1 : Int) ∧ Star H w_ ([]) := ⟨_, rfl⟩
    refine W_loop I2 (n := s.length) ?_ ?_
    · rw [hI2]; exact ⟨0, s, rfl, rfl, Nat.zero_add _, hL2, rfl, rfl, rfl, rfl, hst⟩
    ·
      clear hst
      intro n2 f w_ hI
      rw [hI2] at hI
      obtain ⟨i_1, suf2, rfl, hd2, hl2, hL2, sf0, sf1, sf7, sf8, hst⟩ := hI
      refine W_seq ?_
      refine W_region ?_
      refine L_lss (m := (i_1 : Int)) (n := (s.length : Int)) rfl sf8 sf7 ?_
      refine L_nil ?_
      refine W_seq ?_
      refine W_cond (b := decide ((i_1 : Int) < (s.length : Int))) rfl (fun hc3 => ?_) (fun hc3 => ?_)
      ·
        have hlt2 := of_decide_eq_true hc3
        cases suf2 with
        | nil => exact absurd hlt2 (by simp at hl2; omega)
        | cons x_2 rest2 =>
          obtain ⟨o2, hB2, hL2⟩ := range_cons hL2
          rw [slices_IndexFunc_int_b1] at hB2
          have hix2 := drop_idx hd2
          refine W_skip ?_
          refine W_seq ?_
          refine W_block ?_
          refine W_seq ?_
          refine W_region ?_
          refine L_mv (v := .int .i64 (i_1 : Int)) rfl sf8 ?_
          refine L_as (v := .int .i64 (i_1 : Int)) rfl rfl ?_
          refine L_nil ?_
          refine W_seq ?_
          obtain ⟨x8, hx8, hB2⟩ := bind_some hB2
          refine W_region ?_
          refine L_mv (v := .func (.func fid_1) #[] caps_1) rfl sf1 ?_
          refine L_mv (v := v0) rfl sf0 ?_
          refine L_mv (v := .int .i64 (i_1 : Int)) rfl rfl ?_
          refine L_ix (r := RP.int) rfl Try.underlying23 Try.sizeOf3 rfl h0 rfl hix2 ?_
          intro g15 o16 cs_g15 hrk_hat17 hat17
          obtain rfl : _ = [_] := hrk_hat17
          refine L_ld (v := .int .i64 x_2) rfl Try.isAgg3 rfl (At.cell (AtH.at hat17 hst.sub) (j := 0) rfl) ?_
          obtain ⟨Hb19, hle20, hsb21, hfz22, hbk23⟩ := Star.borrow hst
          refine L_callv (args := #[.int .i64 x_2]) rfl hcall_1 rfl (ops1 rfl) (hc_1 _ _ hle20 hsb21 [.int .i64 x_2] _ _ _ rfl hx8 (args_app rfl)) ?_
          rintro _ w24 ⟨rfl, hst⟩
          have hst := hbk23 hst closedL_nil
          refine L_nil ?_
          refine W_cond (b := x8) rfl (fun hc25 => ?_) (fun hc25 => ?_)
          ·
            have hB2 := (ite_t hc25).symm.trans hB2
            refine W_seq ?_
            refine W_region ?_
            refine L_mv (v := .int .i64 (i_1 : Int)) rfl rfl ?_
            refine L_as (v := .int .i64 (i_1 : Int)) rfl rfl ?_
            refine L_nil ?_
            refine W_ret ?_
            refine retG1 (v1 := .int .i64 (i_1 : Int)) Try.results104 rfl ?_
            obtain rfl := so hB2
            obtain rfl := so hL2
            obtain rfl := so hF
            exact ⟨rfl, hst⟩
          ·
            have hB2 := (ite_f hc25).symm.trans hB2
            refine W_skip ?_
            refine W_region ?_
            refine L_add (m := (i_1 : Int)) (n := 1) rfl sf8 rfl ?_
            refine L_mv (v := .int .i64 (i64 ((i_1 : Int) + 1))) rfl rfl ?_
            refine L_nil ?_
            obtain rfl := so hB2
            show ∃ m, m < _ ∧ I2 m _ _
            refine ⟨rest2.length, by simp, ?_⟩
            rw [hI2]
            exact ⟨i_1 + 1, rest2, rfl, drop_next hd2, by simp at hl2; omega, hL2, sf0, sf1, sf7, (Eq.trans rfl (congrArg (Value.int .i64) (i64_succ (n := s.length) (by simp at hl2; omega) hlen2))), hst⟩
      ·
        cases suf2 with
        | cons _ _ => exact absurd (of_decide_eq_false hc3) (by simp at hl2; omega)
        | nil =>
          obtain rfl := range_nil hL2
          refine W_exit ?_
          show R2 _ _
          rw [hR2]
          exact ⟨rfl, hst⟩
  ·
    clear hst
    intro f w_ hR
    rw [hR2] at hR
    obtain ⟨rfl, hst⟩ := hR
    clear hR2
    refine W_seq ?_
    refine W_region ?_
    refine L_as (v := .int .i64 (-1)) rfl rfl ?_
    refine L_nil ?_
    refine W_ret ?_
    refine retG1 (v1 := .int .i64 (-1)) Try.results104 rfl ?_
    obtain rfl := so hF
    exact ⟨rfl, hst⟩

theorem slices_ContainsFunc_int_c {s : List Int} {f_ : (Int → Option Bool)} {v0 : Value} {v1 : Value} {H : FH} {w : World} (hst : Star H w []) (h0 : (RP.slice 3 RP.int).rel H [v0] s) (h1 : Fun1 Try.prog RP.int false Value.bool f_ v1 H) {r : Bool} (hF : slices_ContainsFunc_int s f_ = some r) :
    C Try.prog 88 #[v0, v1] w fun v w' => v = .bool r ∧ Star H w' [] := by
  unfold slices_ContainsFunc_int at hF
  obtain ⟨fid_1, caps_1, rfl, hcall_1, hc_1⟩ := h1
  refine C_enter Try.func88 rfl Try.ntmps88 rfl ?_
  refine W_seq ?_
  refine W_region ?_
  refine L_as (v := .bool false) rfl rfl ?_
  refine L_nil ?_
  refine W_seq ?_
  obtain ⟨x6, hx6, hF⟩ := bind_some hF
  refine W_region ?_
  refine L_mv (v := v0) rfl rfl ?_
  refine L_mv (v := .func (.func fid_1) #[] caps_1) rfl rfl ?_
  obtain ⟨Hb8, hle9, hsb10, hfz11, hbk12⟩ := Star.borrow hst
  refine L_call (args := #[v0, .func (.func fid_1) #[] caps_1]) rfl Try.call104 (ops2 rfl rfl) (slices_IndexFunc_int_c (s := s) (f_ := f_) hsb10 (RP.mono _ h0 hle9) (Fun1.le ⟨_, _, rfl, hcall_1, hc_1⟩ hle9) hx6) ?_
  rintro _ w13 ⟨rfl, hst⟩
  have hst := hbk12 hst closedL_nil
  refine L_geq (m := x6) (n := 0) rfl rfl rfl ?_
  refine L_as (v := .bool (decide (x6 ≥ 0))) rfl rfl ?_
  refine L_nil ?_
  refine W_ret ?_
  refine retG1 (v1 := .bool (decide (x6 ≥ 0))) Try.results88 rfl ?_
  obtain rfl := so hF
  exact ⟨rfl, hst⟩

theorem i_ruleValid_1_c {n_ : Int} {H : FH} {w : World} (hst : Star H w []) {r : Bool} (hF : i_ruleValid_1 n_ = some r) :
    C Try.prog 89 #[.int .i64 n_] w fun v w' => v = .bool r ∧ Star H w' [] := by
  unfold i_ruleValid_1 at hF
  refine C_enter Try.func89 rfl Try.ntmps89 rfl ?_
  refine W_seq ?_
  refine W_region ?_
  refine L_as (v := .bool false) rfl rfl ?_
  refine L_nil ?_
  refine W_seq ?_
  obtain ⟨b8, hb8, hF⟩ := bind_some hF
  obtain ⟨R9, hR9⟩ : ∃ RR_ : Fr → World → Prop, RR_ = fun f w_ => f 2 = .bool b8 ∧ Star H w_ ([]) := ⟨_, rfl⟩
  refine W_join R9 ?_ ?_
  ·
    refine W_region ?_
    refine L_mv (v := .int .i64 n_) rfl rfl ?_
    refine L_eql (m := n_) (n := 0) rfl rfl rfl ?_
    refine L_mv (v := .bool (n_ == 0)) rfl rfl ?_
    refine L_split (d := 5) (b := (n_ == 0)) rfl (fun hc10 => ?_) (fun hc10 => ?_)
    ·
      rw [ite_t hc10] at hb8
      refine L_pass rfl ?_
      refine L_pass rfl ?_
      refine L_pass rfl ?_
      refine L_pick (v := .bool b8) rfl rfl (congrArg Value.bool (so hb8)) ?_
      refine L_as (v := .bool b8) rfl rfl ?_
      refine L_nil ?_
      show R9 _ _
      rw [hR9]
      exact ⟨rfl, hst⟩
    ·
      rw [ite_f hc10] at hb8
      obtain ⟨x6, hx6, hb8⟩ := bind_some hb8
      refine L_mv (v := .int .i64 n_) rfl rfl ?_
      obtain ⟨Hb11, hle12, hsb13, hfz14, hbk15⟩ := Star.borrow hst
      refine L_call (args := #[.int .i64 n_, .int .i64 (-9), .int .i64 9]) rfl Try.call50 (ops3 rfl rfl rfl) (i_within_c (n_ := n_) (low := (-9)) (high := 9) hsb13 hx6) ?_
      rintro _ w16 ⟨rfl, hst⟩
      have hst := hbk15 hst closedL_nil
      refine L_not_ (b := x6) rfl rfl ?_
      refine L_pick (v := .bool b8) rfl rfl (congrArg Value.bool (so hb8)) ?_
      refine L_as (v := .bool b8) rfl rfl ?_
      refine L_nil ?_
      show R9 _ _
      rw [hR9]
      exact ⟨rfl, hst⟩
  ·
    intro f w_ hR
    rw [hR9] at hR
    obtain ⟨sf2, hst⟩ := hR
    clear hR9
    refine W_ret ?_
    refine retG1 (v1 := .bool b8) Try.results89 sf2 ?_
    obtain rfl := so hF
    exact ⟨rfl, hst⟩

theorem slices_IndexFunc_Sint_c {s : List (List Int)} {f_ : ((List Int) → Option Bool)} {v0 : Value} {v1 : Value} {H : FH} {w : World} (hst : Star H w []) (h0 : (RP.slice 23 (RP.slice 3 RP.int)).rel H [v0] s) (h1 : Fun1 Try.prog (RP.slice 3 RP.int) false Value.bool f_ v1 H) {r : Int} (hF : slices_IndexFunc_Sint s f_ = some r) :
    C Try.prog 105 #[v0, v1] w fun v w' => v = .int .i64 r ∧ Star H w' [] := by
  unfold slices_IndexFunc_Sint at hF
  obtain ⟨fid_1, caps_1, rfl, hcall_1, hc_1⟩ := h1
  refine C_enter Try.func105 rfl Try.ntmps105 rfl ?_
  refine W_seq ?_
  refine W_region ?_
  refine L_as (v := .int .i64 0) rfl rfl ?_
  refine L_nil ?_
  refine W_seq ?_
  refine W_seq ?_
  refine W_region ?_
  refine L_mv (v := v0) rfl rfl ?_
  refine L_len (v := v0) (n := List.length s) rfl Try.underlying34 rfl (slice_len h0) ?_
  refine L_mv (v := .int .i64 0) rfl rfl ?_
  refine L_nil ?_
  have hlen2 : List.length s ≤ 9223372036854775807 := len_le (slice_len h0)
  obtain ⟨j2, hL2, hF⟩ := bind_some hF
  obtain ⟨R2, hR2⟩ : ∃ RR_ : Fr → World → Prop, RR_ = fun f w_ => j2 = .nx () ∧ Star H w_ ([]) := ⟨_, rfl⟩
  refine W_join R2 ?_ ?_
  ·
    refine W_block ?_
    obtain ⟨I2, hI2⟩ : ∃ I : Nat → Fr → World → Prop, I = fun n f w_ => ∃ i_1 : Nat, ∃ suf2 : List (List Int), n = suf2.length ∧ List.drop i_1 s = suf2 ∧ i_1 + suf2.length = s.length ∧ rangeL (slices_IndexFunc_Sint_b1 f_) suf2 i_1 () = some j2 ∧ f 0 = v0 ∧ f 1 = .func (.func fid_1) #[] caps_1 ∧ f 7 = .int .i64 (s.length : Int) ∧ f 8 = .int .i64 (i_1 : Int) ∧ Star H w_ ([]) := ⟨_, rfl⟩
    refine W_loop I2 (n := s.length) ?_ ?_
    · rw [hI2]; exact ⟨0, s, rfl, rfl, Nat.zero_add _, hL2, rfl, rfl, rfl, rfl, hst⟩
    ·
      clear hst
      intro n2 f w_ hI
      rw [hI2] at hI
      obtain ⟨i_1, suf2, rfl, hd2, hl2, hL2, sf0, sf1, sf7, sf8, hst⟩ := hI
      refine W_seq ?_
      refine W_region ?_
      refine L_lss (m := (i_1 : Int)) (n := (s.length : Int)) rfl sf8 sf7 ?_
      refine L_nil ?_
      refine W_seq ?_
      refine W_cond (b := decide ((i_1 : Int) < (s.length : Int))) rfl (fun hc3 => ?_) (fun hc3 => ?_)
      ·
        have hlt2 := of_decide_eq_true hc3
        cases suf2 with
        | nil => exact absurd hlt2 (by simp at hl2; omega)
        | cons x_2 rest2 =>
          obtain ⟨o2, hB2, hL2⟩ := range_cons hL2
          rw [slices_IndexFunc_Sint_b1] at hB2
          have hix2 := drop_idx hd2
          refine W_skip ?_
          refine W_seq ?_
          refine W_block ?_
          refine W_seq ?_
          refine W_region ?_
          refine L_mv (v := .int .i64 (i_1 : Int)) rfl sf8 ?_
          refine L_as (v := .int .i64 (i_1 : Int)) rfl rfl ?_
          refine L_nil ?_
          refine W_seq ?_
          obtain ⟨x8, hx8, hB2⟩ := bind_some hB2
          refine W_region ?_
          refine L_mv (v := .func (.func fid_1) #[] caps_1) rfl sf1 ?_
          refine L_mv (v := v0) rfl sf0 ?_
          refine L_mv (v := .int .i64 (i_1 : Int)) rfl rfl ?_
          refine L_ix (r := (RP.slice 3 RP.int)) rfl Try.underlying34 Try.sizeOf23 rfl h0 rfl hix2 ?_
          intro g15 o16 cs_g15 hrk_hat17 hat17
          obtain ⟨u18, rfl, hu18⟩ := slice1 hrk_hat17
          refine L_ld (v := u18) rfl Try.isAgg23 rfl (At.cell (AtH.at hat17 hst.sub) (j := 0) rfl) ?_
          obtain ⟨Hb19, hle20, hsb21, hfz22, hbk23⟩ := Star.borrow hst
          refine L_callv (args := #[u18]) rfl hcall_1 rfl (ops1 rfl) (hc_1 _ _ hle20 hsb21 [u18] _ _ _ (RP.mono _ hu18 hle20) hx8 (args_app rfl)) ?_
          rintro _ w24 ⟨rfl, hst⟩
          have hst := hbk23 hst closedL_nil
          refine L_nil ?_
          refine W_cond (b := x8) rfl (fun hc25 => ?_) (fun hc25 => ?_)
          ·
            have hB2 := (ite_t hc25).symm.trans hB2
            refine W_seq ?_
            refine W_region ?_
            refine L_mv (v := .int .i64 (i_1 : Int)) rfl rfl ?_
            refine L_as (v := .int .i64 (i_1 : Int)) rfl rfl ?_
            refine L_nil ?_
            refine W_ret ?_
            refine retG1 (v1 := .int .i64 (i_1 : Int)) Try.results105 rfl ?_
            obtain rfl := so hB2
            obtain rfl := so hL2
            obtain rfl := so hF
            exact ⟨rfl, hst⟩
          ·
            have hB2 := (ite_f hc25).symm.trans hB2
            refine W_skip ?_
            refine W_region ?_
            refine L_add (m := (i_1 : Int)) (n := 1) rfl sf8 rfl ?_
            refine L_mv (v := .int .i64 (i64 ((i_1 : Int) + 1))) rfl rfl ?_
            refine L_nil ?_
            obtain rfl := so hB2
            show ∃ m, m < _ ∧ I2 m _ _
            refine ⟨rest2.length, by simp, ?_⟩
            rw [hI2]
            exact ⟨i_1 + 1, rest2, rfl, drop_next hd2, by simp at hl2; omega, hL2, sf0, sf1, sf7, (Eq.trans rfl (congrArg (Value.int .i64) (i64_succ (n := s.length) (by simp at hl2; omega) hlen2))), hst⟩
      ·
        cases suf2 with
        | cons _ _ => exact absurd (of_decide_eq_false hc3) (by simp at hl2; omega)
        | nil =>
          obtain rfl := range_nil hL2
          refine W_exit ?_
          show R2 _ _
          rw [hR2]
          exact ⟨rfl, hst⟩
  ·
    clear hst
    intro f w_ hR
    rw [hR2] at hR
    obtain ⟨rfl, hst⟩ := hR
    clear hR2
    refine W_seq ?_
    refine W_region ?_
    refine L_as (v := .int .i64 (-1)) rfl rfl ?_
    refine L_nil ?_
    refine W_ret ?_
    refine retG1 (v1 := .int .i64 (-1)) Try.results105 rfl ?_
    obtain rfl := so hF
    exact ⟨rfl, hst⟩

theorem slices_ContainsFunc_Sint_c {s : List (List Int)} {f_ : ((List Int) → Option Bool)} {v0 : Value} {v1 : Value} {H : FH} {w : World} (hst : Star H w []) (h0 : (RP.slice 23 (RP.slice 3 RP.int)).rel H [v0] s) (h1 : Fun1 Try.prog (RP.slice 3 RP.int) false Value.bool f_ v1 H) {r : Bool} (hF : slices_ContainsFunc_Sint s f_ = some r) :
    C Try.prog 90 #[v0, v1] w fun v w' => v = .bool r ∧ Star H w' [] := by
  unfold slices_ContainsFunc_Sint at hF
  obtain ⟨fid_1, caps_1, rfl, hcall_1, hc_1⟩ := h1
  refine C_enter Try.func90 rfl Try.ntmps90 rfl ?_
  refine W_seq ?_
  refine W_region ?_
  refine L_as (v := .bool false) rfl rfl ?_
  refine L_nil ?_
  refine W_seq ?_
  obtain ⟨x6, hx6, hF⟩ := bind_some hF
  refine W_region ?_
  refine L_mv (v := v0) rfl rfl ?_
  refine L_mv (v := .func (.func fid_1) #[] caps_1) rfl rfl ?_
  obtain ⟨Hb8, hle9, hsb10, hfz11, hbk12⟩ := Star.borrow hst
  refine L_call (args := #[v0, .func (.func fid_1) #[] caps_1]) rfl Try.call105 (ops2 rfl rfl) (slices_IndexFunc_Sint_c (s := s) (f_ := f_) hsb10 (RP.mono _ h0 hle9) (Fun1.le ⟨_, _, rfl, hcall_1, hc_1⟩ hle9) hx6) ?_
  rintro _ w13 ⟨rfl, hst⟩
  have hst := hbk12 hst closedL_nil
  refine L_geq (m := x6) (n := 0) rfl rfl rfl ?_
  refine L_as (v := .bool (decide (x6 ≥ 0))) rfl rfl ?_
  refine L_nil ?_
  refine W_ret ?_
  refine retG1 (v1 := .bool (decide (x6 ≥ 0))) Try.results90 rfl ?_
  obtain rfl := so hF
  exact ⟨rfl, hst⟩

theorem i_ruleValid_2_1_c {n_ : Int} {H : FH} {w : World} (hst : Star H w []) {r : Bool} (hF : i_ruleValid_2_1 n_ = some r) :
    C Try.prog 92 #[.int .i64 n_] w fun v w' => v = .bool r ∧ Star H w' [] := by
  unfold i_ruleValid_2_1 at hF
  refine C_enter Try.func92 rfl Try.ntmps92 rfl ?_
  refine W_seq ?_
  refine W_region ?_
  refine L_as (v := .bool false) rfl rfl ?_
  refine L_nil ?_
  refine W_seq ?_
  obtain ⟨x6, hx6, hF⟩ := bind_some hF
  refine W_region ?_
  refine L_mv (v := .int .i64 n_) rfl rfl ?_
  obtain ⟨Hb8, hle9, hsb10, hfz11, hbk12⟩ := Star.borrow hst
  refine L_call (args := #[.int .i64 n_, .int .i64 0, .int .i64 3]) rfl Try.call50 (ops3 rfl rfl rfl) (i_within_c (n_ := n_) (low := 0) (high := 3) hsb10 hx6) ?_
  rintro _ w13 ⟨rfl, hst⟩
  have hst := hbk12 hst closedL_nil
  refine L_not_ (b := x6) rfl rfl ?_
  refine L_as (v := .bool (!x6)) rfl rfl ?_
  refine L_nil ?_
  refine W_ret ?_
  refine retG1 (v1 := .bool (!x6)) Try.results92 rfl ?_
  obtain rfl := so hF
  exact ⟨rfl, hst⟩

theorem i_ruleValid_2_c {c1 : Rule} {row : List Int} {v0 : Value} {g_c1 : Nat} {v1_1 : Value} {v1_2 : Value} {v1_4 : Value} {H : FH} {w : World} (hst : Star H w []) (h0 : (RP.slice 3 RP.int).rel H [v0] row) (hat_g_c1 : AtH H g_c1 0 [.int .i64 c1.kind, v1_1, v1_2, .int .i64 c1.bound, v1_4]) (h1_1 : (RP.slice 3 RP.int).rel H [v1_1] c1.vars) (h1_2 : (RP.slice 3 RP.int).rel H [v1_2] c1.coefs) (h1_4 : (RP.slice 23 (RP.slice 3 RP.int)).rel H [v1_4] c1.rows) {r : Bool} (hF : i_ruleValid_2 c1 row = some r) :
    C Try.prog 91 #[v0, .pointer (some ⟨g_c1, 0, none⟩)] w fun v w' => v = .bool r ∧ Star H w' [] := by
  unfold i_ruleValid_2 at hF
  refine C_enter Try.func91 rfl Try.ntmps91 rfl ?_
  refine W_seq ?_
  refine W_region ?_
  refine L_as (v := .bool false) rfl rfl ?_
  refine L_nil ?_
  refine W_seq ?_
  obtain ⟨b8, hb8, hF⟩ := bind_some hF
  obtain ⟨R9, hR9⟩ : ∃ RR_ : Fr → World → Prop, RR_ = fun f w_ => f 3 = .bool b8 ∧ Star H w_ ([]) := ⟨_, rfl⟩
  refine W_join R9 ?_ ?_
  ·
    refine W_region ?_
    refine L_mv (v := v0) rfl rfl ?_
    refine L_len (v := v0) (n := List.length row) rfl Try.underlying23 rfl (slice_len h0) ?_
    refine L_fa (o' := 1) rfl fa_36_1 rfl rfl ?_
    refine L_ld (v := v1_1) rfl Try.isAgg23 rfl (At.cell0 (AtH.at hat_g_c1 hst.sub) (j := 1) rfl) ?_
    refine L_len (v := v1_1) (n := List.length c1.vars) rfl Try.underlying23 rfl (slice_len h1_1) ?_
    refine L_neq (m := (row.length : Int)) (n := (c1.vars.length : Int)) rfl rfl rfl ?_
    refine L_mv (v := .bool ((row.length : Int) != (c1.vars.length : Int))) rfl rfl ?_
    refine L_split (d := 10) (b := ((row.length : Int) != (c1.vars.length : Int))) rfl (fun hc10 => ?_) (fun hc10 => ?_)
    ·
      rw [ite_t hc10] at hb8
      refine L_pass rfl ?_
      refine L_pass rfl ?_
      refine L_pick (v := .bool b8) rfl rfl (congrArg Value.bool (so hb8)) ?_
      refine L_as (v := .bool b8) rfl rfl ?_
      refine L_nil ?_
      show R9 _ _
      rw [hR9]
      exact ⟨rfl, hst⟩
    ·
      rw [ite_f hc10] at hb8
      obtain ⟨x6, hx6, hb8⟩ := bind_some hb8
      refine L_mv (v := v0) rfl rfl ?_
      obtain ⟨Hb11, hle12, hsb13, hfz14, hbk15⟩ := Star.borrow hst
      have hf16 : Fun1 Try.prog RP.int false Value.bool i_ruleValid_2_1 (.func (.func 92) #[] #[]) Hb11 := by
        refine ⟨_, _, rfl, Try.call92, fun H_ w_ hE_ hs_ cs_ x_ y_ args_ hr_ hy_ ha_ => ?_⟩
        obtain rfl : cs_ = [_] := hr_
        obtain rfl := args_of (b := #[.int .i64 x_]) ha_
        exact i_ruleValid_2_1_c (n_ := x_) hs_  hy_
      refine L_call (args := #[v0, .func (.func 92) #[] #[]]) rfl Try.call88 (ops2 rfl rfl) (slices_ContainsFunc_int_c (s := row) (f_ := i_ruleValid_2_1) hsb13 (RP.mono _ h0 hle12) hf16 hx6) ?_
      rintro _ w17 ⟨rfl, hst⟩
      have hst := hbk15 hst closedL_nil
      refine L_pick (v := .bool b8) rfl rfl (congrArg Value.bool (so hb8)) ?_
      refine L_as (v := .bool b8) rfl rfl ?_
      refine L_nil ?_
      show R9 _ _
      rw [hR9]
      exact ⟨rfl, hst⟩
  ·
    intro f w_ hR
    rw [hR9] at hR
    obtain ⟨sf3, hst⟩ := hR
    clear hR9
    refine W_ret ?_
    refine retG1 (v1 := .bool b8) Try.results91 sf3 ?_
    obtain rfl := so hF
    exact ⟨rfl, hst⟩

theorem i_ruleValid_c {r_ : Rule} {cells : Int} {v0_1 : Value} {v0_2 : Value} {v0_4 : Value} {H : FH} {w : World} (hst : Star H w []) (h0_1 : (RP.slice 3 RP.int).rel H [v0_1] r_.vars) (h0_2 : (RP.slice 3 RP.int).rel H [v0_2] r_.coefs) (h0_4 : (RP.slice 23 (RP.slice 3 RP.int)).rel H [v0_4] r_.rows) {r : Bool} (hF : i_ruleValid r_ cells = some r) :
    C Try.prog 68 #[.agg #[.int .i64 r_.kind, v0_1, v0_2, .int .i64 r_.bound, v0_4], .int .i64 cells] w fun v w' => v = .bool r ∧ Star H w' [] := by
  unfold i_ruleValid at hF
  refine C_enter Try.func68 rfl Try.ntmps68 rfl ?_
  refine W_seq ?_
  refine W_region ?_
  refine L_box (v := .agg #[.int .i64 r_.kind, v0_1, v0_2, .int .i64 r_.bound, v0_4]) (cs := #[.int .i64 r_.kind, v0_1, v0_2, .int .i64 r_.bound, v0_4]) rfl rfl rfl hst ?_
  intro g3 w4 hst
  refine L_as (v := .bool false) rfl rfl ?_
  refine L_nil ?_
  refine W_seq ?_
  refine W_seq ?_
  refine W_region ?_
  refine L_fa (o' := 1) rfl fa_36_1 rfl rfl ?_
  refine L_ld (v := v0_1) rfl Try.isAgg23 rfl (At.cell0 (Blk.at (Star.blkAt 0 hst rfl)) (j := 1) rfl) ?_
  refine L_len (v := v0_1) (n := List.length r_.vars) rfl Try.underlying23 rfl (slice_len h0_1) ?_
  refine L_mv (v := .int .i64 0) rfl rfl ?_
  refine L_nil ?_
  have hlen6 : List.length r_.vars ≤ 9223372036854775807 := len_le (slice_len h0_1)
  obtain ⟨j6, hL6, hF⟩ := bind_some hF
  obtain ⟨R6, hR6⟩ : ∃ RR_ : Fr → World → Prop, RR_ = fun f w_ => j6 = .nx () ∧ f 2 = .pointer (some ⟨g3, 0, none⟩) ∧ Star H w_ ([box g3 36 #[.int .i64 r_.kind, v0_1, v0_2, .int .i64 r_.bound, v0_4]]) := ⟨_, rfl⟩
  refine W_join R6 ?_ ?_
  ·
    refine W_block ?_
    obtain ⟨I6, hI6⟩ : ∃ I : Nat → Fr → World → Prop, I = fun n f w_ => ∃ i_5 : Nat, ∃ suf6 : List Int, n = suf6.length ∧ List.drop i_5 r_.vars = suf6 ∧ i_5 + suf6.length = r_.vars.length ∧ rangeL (i_ruleValid_b1 r_ cells) suf6 i_5 () = some j6 ∧ f 1 = .int .i64 cells ∧ f 2 = .pointer (some ⟨g3, 0, none⟩) ∧ f 8 = v0_1 ∧ f 9 = .int .i64 (r_.vars.length : Int) ∧ f 10 = .int .i64 (i_5 : Int) ∧ Star H w_ ([box g3 36 #[.int .i64 r_.kind, v0_1, v0_2, .int .i64 r_.bound, v0_4]]) := ⟨_, rfl⟩
    refine W_loop I6 (n := r_.vars.length) ?_ ?_
    · rw [hI6]; exact ⟨0, r_.vars, rfl, rfl, Nat.zero_add _, hL6, rfl, rfl, rfl, rfl, rfl, hst⟩
    ·
      clear hst
      intro n6 f w_ hI
      rw [hI6] at hI
      obtain ⟨i_5, suf6, rfl, hd6, hl6, hL6, sf1, sf2, sf8, sf9, sf10, hst⟩ := hI
      refine W_seq ?_
      refine W_region ?_
      refine L_lss (m := (i_5 : Int)) (n := (r_.vars.length : Int)) rfl sf10 sf9 ?_
      refine L_nil ?_
      refine W_seq ?_
      refine W_cond (b := decide ((i_5 : Int) < (r_.vars.length : Int))) rfl (fun hc7 => ?_) (fun hc7 => ?_)
      ·
        have hlt6 := of_decide_eq_true hc7
        cases suf6 with
        | nil => exact absurd hlt6 (by simp at hl6; omega)
        | cons x_6 rest6 =>
          obtain ⟨o6, hB6, hL6⟩ := range_cons hL6
          rw [i_ruleValid_b1] at hB6
          have hix6 := drop_idx hd6
          refine W_skip ?_
          refine W_seq ?_
          refine W_block ?_
          refine W_seq ?_
          refine W_region ?_
          refine L_mv (v := .int .i64 (i_5 : Int)) rfl sf10 ?_
          refine L_ix (r := RP.int) rfl Try.underlying23 Try.sizeOf3 sf8 h0_1 sf10 hix6 ?_
          intro g12 o13 cs_g12 hrk_hat14 hat14
          obtain rfl : _ = [_] := hrk_hat14
          refine L_ld (v := .int .i64 x_6) rfl Try.isAgg3 rfl (At.cell (AtH.at hat14 hst.sub) (j := 0) rfl) ?_
          refine L_as (v := .int .i64 (i_5 : Int)) rfl rfl ?_
          refine L_as (v := .int .i64 x_6) rfl rfl ?_
          refine L_nil ?_
          refine W_seq ?_
          obtain ⟨x21, hx21, hB6⟩ := bind_some hB6
          obtain ⟨b33, hb33, hB6⟩ := bind_some hB6
          obtain ⟨R34, hR34⟩ : ∃ RR_ : Fr → World → Prop, RR_ = fun f w_ => f 1 = .int .i64 cells ∧ f 2 = .pointer (some ⟨g3, 0, none⟩) ∧ f 8 = v0_1 ∧ f 9 = .int .i64 (r_.vars.length : Int) ∧ f 10 = .int .i64 (i_5 : Int) ∧ f 27 = .bool b33 ∧ Star H w_ ([box g3 36 #[.int .i64 r_.kind, v0_1, v0_2, .int .i64 r_.bound, v0_4]]) := ⟨_, rfl⟩
          refine W_join R34 ?_ ?_
          ·
            refine W_region ?_
            refine L_mv (v := .int .i64 x_6) rfl rfl ?_
            refine L_mv (v := .int .i64 cells) rfl sf1 ?_
            refine L_sub (m := cells) (n := 1) rfl rfl rfl ?_
            obtain ⟨Hb35, hle36, hsb37, hfz38, hbk39⟩ := Star.borrow hst
            refine L_call (args := #[.int .i64 x_6, .int .i64 0, .int .i64 (i64 (cells - 1))]) rfl Try.call50 (ops3 rfl rfl rfl) (i_within_c (n_ := x_6) (low := 0) (high := i64 (cells - 1)) hsb37 hx21) ?_
            rintro _ w40 ⟨rfl, hst⟩
            have hst := hbk39 hst closedL_nil
            refine L_not_ (b := x21) rfl rfl ?_
            refine L_mv (v := .bool (!x21)) rfl rfl ?_
            refine L_split (d := 20) (b := (!x21)) rfl (fun hc41 => ?_) (fun hc41 => ?_)
            ·
              rw [ite_t hc41] at hb33
              refine L_pass rfl ?_
              refine L_pass rfl ?_
              refine L_pass rfl ?_
              refine L_pass rfl ?_
              refine L_pass rfl ?_
              refine L_pass rfl ?_
              refine L_pick (v := .bool b33) rfl rfl (congrArg Value.bool (so hb33)) ?_
              refine L_nil ?_
              show R34 _ _
              rw [hR34]
              exact ⟨sf1, sf2, sf8, sf9, sf10, rfl, hst⟩
            ·
              rw [ite_f hc41] at hb33
              obtain ⟨x23, hx23, hb33⟩ := bind_some hb33
              obtain ⟨x31, hx31, hb33⟩ := bind_some hb33
              refine L_fa (o' := 1) rfl fa_36_1 sf2 rfl ?_
              refine L_ld (v := v0_1) rfl Try.isAgg23 rfl (At.cell0 (Blk.at (Star.blkAt 0 hst rfl)) (j := 1) rfl) ?_
              refine L_mv (v := .int .i64 (i_5 : Int)) rfl rfl ?_
              refine L_sl (a := 0) (b := (i_5 : Int)) rfl et_23 rfl h0_1 rfl rfl hx23 ?_
              intro v42 hs43
              refine L_mv (v := .int .i64 x_6) rfl rfl ?_
              obtain ⟨Hb44, hle45, hsb46, hfz47, hbk48⟩ := Star.borrow hst
              refine L_call (args := #[v42, .int .i64 x_6]) rfl Try.call87 (ops2 rfl rfl) (slices_Contains_int_c (s := x23) (v_ := x_6) hsb46 (RP.mono _ hs43 hle45) hx31) ?_
              rintro _ w49 ⟨rfl, hst⟩
              have hst := hbk48 hst closedL_nil
              refine L_pick (v := .bool b33) rfl rfl (congrArg Value.bool (so hb33)) ?_
              refine L_nil ?_
              show R34 _ _
              rw [hR34]
              exact ⟨sf1, sf2, sf8, sf9, sf10, rfl, hst⟩
          ·
            intro f w_ hR
            rw [hR34] at hR
            obtain ⟨sf1, sf2, sf8, sf9, sf10, sf27, hst⟩ := hR
            clear hR34
            refine W_cond (b := b33) sf27 (fun hc50 => ?_) (fun hc50 => ?_)
            ·
              have hB6 := (ite_t hc50).symm.trans hB6
              refine W_seq ?_
              refine W_region ?_
              refine L_as (v := .bool false) rfl rfl ?_
              refine L_nil ?_
              refine W_ret ?_
              refine retG1 (v1 := .bool false) Try.results68 rfl ?_
              obtain rfl := so hB6
              obtain rfl := so hL6
              obtain rfl := so hF
              exact ⟨rfl, (Star.keepN 0 hst)⟩
            ·
              have hB6 := (ite_f hc50).symm.trans hB6
              refine W_skip ?_
              refine W_region ?_
              refine L_add (m := (i_5 : Int)) (n := 1) rfl sf10 rfl ?_
              refine L_mv (v := .int .i64 (i64 ((i_5 : Int) + 1))) rfl rfl ?_
              refine L_nil ?_
              obtain rfl := so hB6
              show ∃ m, m < _ ∧ I6 m _ _
              refine ⟨rest6.length, by simp, ?_⟩
              rw [hI6]
              exact ⟨i_5 + 1, rest6, rfl, drop_next hd6, by simp at hl6; omega, hL6, sf1, sf2, sf8, sf9, (Eq.trans rfl (congrArg (Value.int .i64) (i64_succ (n := r_.vars.length) (by simp at hl6; omega) hlen6))), hst⟩
      ·
        cases suf6 with
        | cons _ _ => exact absurd (of_decide_eq_false hc7) (by simp at hl6; omega)
        | nil =>
          obtain rfl := range_nil hL6
          refine W_exit ?_
          show R6 _ _
          rw [hR6]
          exact ⟨rfl, sf2, hst⟩
  ·
    clear hst
    intro f w_ hR
    rw [hR6] at hR
    obtain ⟨rfl, sf2, hst⟩ := hR
    clear hR6
    refine W_seq ?_
    refine W_seq ?_
    obtain ⟨R51, hR51⟩ : ∃ RR_ : Fr → World → Prop, RR_ = fun f w_ => f 2 = .pointer (some ⟨g3, 0, none⟩) ∧ f 59 = .bool ((((r_.vars.length : Int) == 0) || ((r_.kind != 1) && ((decide ((r_.coefs.length : Int) > 0)) || (r_.bound != 0)))) || ((r_.kind != 3) && (decide ((r_.rows.length : Int) > 0)))) ∧ Star H w_ ([box g3 36 #[.int .i64 r_.kind, v0_1, v0_2, .int .i64 r_.bound, v0_4]]) := ⟨_, rfl⟩
    refine W_join R51 ?_ ?_
    ·
      refine W_region ?_
      refine L_fa (o' := 1) rfl fa_36_1 sf2 rfl ?_
      refine L_ld (v := v0_1) rfl Try.isAgg23 rfl (At.cell0 (Blk.at (Star.blkAt 0 hst rfl)) (j := 1) rfl) ?_
      refine L_len (v := v0_1) (n := List.length r_.vars) rfl Try.underlying23 rfl (slice_len h0_1) ?_
      refine L_eql (m := (r_.vars.length : Int)) (n := 0) rfl rfl rfl ?_
      refine L_mv (v := .bool ((r_.vars.length : Int) == 0)) rfl rfl ?_
      refine L_split (d := 33) (b := ((r_.vars.length : Int) == 0)) rfl (fun hc52 => ?_) (fun hc52 => ?_)
      ·
        refine L_pass rfl ?_
        refine L_pass rfl ?_
        refine L_pass rfl ?_
        refine L_pass rfl ?_
        refine L_pass rfl ?_
        refine L_pass rfl ?_
        refine L_pass rfl ?_
        refine L_pass rfl ?_
        refine L_pass rfl ?_
        refine L_pass rfl ?_
        refine L_pass rfl ?_
        refine L_pass rfl ?_
        refine L_pass rfl ?_
        refine L_pass rfl ?_
        refine L_pick (v := .bool (((r_.vars.length : Int) == 0) || ((r_.kind != 1) && ((decide ((r_.coefs.length : Int) > 0)) || (r_.bound != 0))))) rfl rfl (or_t hc52) ?_
        refine L_mv (v := .bool (((r_.vars.length : Int) == 0) || ((r_.kind != 1) && ((decide ((r_.coefs.length : Int) > 0)) || (r_.bound != 0))))) rfl rfl ?_
        refine L_split (d := 49) (b := (((r_.vars.length : Int) == 0) || ((r_.kind != 1) && ((decide ((r_.coefs.length : Int) > 0)) || (r_.bound != 0))))) rfl (fun hc53 => ?_) (fun hc53 => ?_)
        ·
          refine L_pass rfl ?_
          refine L_pass rfl ?_
          refine L_pass rfl ?_
          refine L_pass rfl ?_
          refine L_pass rfl ?_
          refine L_pass rfl ?_
          refine L_pass rfl ?_
          refine L_pass rfl ?_
          refine L_pass rfl ?_
          refine L_pick (v := .bool ((((r_.vars.length : Int) == 0) || ((r_.kind != 1) && ((decide ((r_.coefs.length : Int) > 0)) || (r_.bound != 0)))) || ((r_.kind != 3) && (decide ((r_.rows.length : Int) > 0))))) rfl rfl (or_t hc53) ?_
          refine L_nil ?_
          show R51 _ _
          rw [hR51]
          exact ⟨sf2, rfl, hst⟩
        ·
          refine L_fa (o' := 0) rfl fa_36_0 sf2 rfl ?_
          refine L_ld (v := .int .i64 r_.kind) rfl Try.isAgg3 rfl (At.cell0 (Blk.at (Star.blkAt 0 hst rfl)) (j := 0) rfl) ?_
          refine L_neq (m := r_.kind) (n := 3) rfl rfl rfl ?_
          refine L_mv (v := .bool (r_.kind != 3)) rfl rfl ?_
          refine L_split (d := 53) (b := (r_.kind != 3)) rfl (fun hc54 => ?_) (fun hc54 => ?_)
          ·
            refine L_fa (o' := 4) rfl fa_36_4 sf2 rfl ?_
            refine L_ld (v := v0_4) rfl Try.isAgg34 rfl (At.cell0 (Blk.at (Star.blkAt 0 hst rfl)) (j := 4) rfl) ?_
            refine L_len (v := v0_4) (n := List.length r_.rows) rfl Try.underlying34 rfl (slice_len h0_4) ?_
            refine L_gtr (m := (r_.rows.length : Int)) (n := 0) rfl rfl rfl ?_
            refine L_pick (v := .bool ((r_.kind != 3) && (decide ((r_.rows.length : Int) > 0)))) rfl rfl (and_t hc54 rfl) ?_
            refine L_pick (v := .bool ((((r_.vars.length : Int) == 0) || ((r_.kind != 1) && ((decide ((r_.coefs.length : Int) > 0)) || (r_.bound != 0)))) || ((r_.kind != 3) && (decide ((r_.rows.length : Int) > 0))))) rfl rfl (or_f hc53 rfl) ?_
            refine L_nil ?_
            show R51 _ _
            rw [hR51]
            exact ⟨sf2, rfl, hst⟩
          ·
            refine L_pass rfl ?_
            refine L_pass rfl ?_
            refine L_pass rfl ?_
            refine L_pass rfl ?_
            refine L_pick (v := .bool ((r_.kind != 3) && (decide ((r_.rows.length : Int) > 0)))) rfl rfl (and_f hc54) ?_
            refine L_pick (v := .bool ((((r_.vars.length : Int) == 0) || ((r_.kind != 1) && ((decide ((r_.coefs.length : Int) > 0)) || (r_.bound != 0)))) || ((r_.kind != 3) && (decide ((r_.rows.length : Int) > 0))))) rfl rfl (or_f hc53 rfl) ?_
            refine L_nil ?_
            show R51 _ _
            rw [hR51]
            exact ⟨sf2, rfl, hst⟩
      ·
        refine L_fa (o' := 0) rfl fa_36_0 sf2 rfl ?_
        refine L_ld (v := .int .i64 r_.kind) rfl Try.isAgg3 rfl (At.cell0 (Blk.at (Star.blkAt 0 hst rfl)) (j := 0) rfl) ?_
        refine L_neq (m := r_.kind) (n := 1) rfl rfl rfl ?_
        refine L_mv (v := .bool (r_.kind != 1)) rfl rfl ?_
        refine L_split (d := 37) (b := (r_.kind != 1)) rfl (fun hc55 => ?_) (fun hc55 => ?_)
        ·
          refine L_fa (o' := 2) rfl fa_36_2 sf2 rfl ?_
          refine L_ld (v := v0_2) rfl Try.isAgg23 rfl (At.cell0 (Blk.at (Star.blkAt 0 hst rfl)) (j := 2) rfl) ?_
          refine L_len (v := v0_2) (n := List.length r_.coefs) rfl Try.underlying23 rfl (slice_len h0_2) ?_
          refine L_gtr (m := (r_.coefs.length : Int)) (n := 0) rfl rfl rfl ?_
          refine L_mv (v := .bool (decide ((r_.coefs.length : Int) > 0))) rfl rfl ?_
          refine L_split (d := 42) (b := decide ((r_.coefs.length : Int) > 0)) rfl (fun hc56 => ?_) (fun hc56 => ?_)
          ·
            refine L_pass rfl ?_
            refine L_pass rfl ?_
            refine L_pass rfl ?_
            refine L_pick (v := .bool ((decide ((r_.coefs.length : Int) > 0)) || (r_.bound != 0))) rfl rfl (or_t hc56) ?_
            refine L_pick (v := .bool ((r_.kind != 1) && ((decide ((r_.coefs.length : Int) > 0)) || (r_.bound != 0)))) rfl rfl (and_t hc55 rfl) ?_
            refine L_pick (v := .bool (((r_.vars.length : Int) == 0) || ((r_.kind != 1) && ((decide ((r_.coefs.length : Int) > 0)) || (r_.bound != 0))))) rfl rfl (or_f hc52 rfl) ?_
            refine L_mv (v := .bool (((r_.vars.length : Int) == 0) || ((r_.kind != 1) && ((decide ((r_.coefs.length : Int) > 0)) || (r_.bound != 0))))) rfl rfl ?_
            refine L_split (d := 49) (b := (((r_.vars.length : Int) == 0) || ((r_.kind != 1) && ((decide ((r_.coefs.length : Int) > 0)) || (r_.bound != 0))))) rfl (fun hc57 => ?_) (fun hc57 => ?_)
            ·
              refine L_pass rfl ?_
              refine L_pass rfl ?_
              refine L_pass rfl ?_
              refine L_pass rfl ?_
              refine L_pass rfl ?_
              refine L_pass rfl ?_
              refine L_pass rfl ?_
              refine L_pass rfl ?_
              refine L_pass rfl ?_
              refine L_pick (v := .bool ((((r_.vars.length : Int) == 0) || ((r_.kind != 1) && ((decide ((r_.coefs.length : Int) > 0)) || (r_.bound != 0)))) || ((r_.kind != 3) && (decide ((r_.rows.length : Int) > 0))))) rfl rfl (or_t hc57) ?_
              refine L_nil ?_
              show R51 _ _
              rw [hR51]
              exact ⟨sf2, rfl, hst⟩
            ·
              refine L_fa (o' := 0) rfl fa_36_0 sf2 rfl ?_
              refine L_ld (v := .int .i64 r_.kind) rfl Try.isAgg3 rfl (At.cell0 (Blk.at (Star.blkAt 0 hst rfl)) (j := 0) rfl) ?_
              refine L_neq (m := r_.kind) (n := 3) rfl rfl rfl ?_
              refine L_mv (v := .bool (r_.kind != 3)) rfl rfl ?_
              refine L_split (d := 53) (b := (r_.kind != 3)) rfl (fun hc58 => ?_) (fun hc58 => ?_)
              ·
                refine L_fa (o' := 4) rfl fa_36_4 sf2 rfl ?_
                refine L_ld (v := v0_4) rfl Try.isAgg34 rfl (At.cell0 (Blk.at (Star.blkAt 0 hst rfl)) (j := 4) rfl) ?_
                refine L_len (v := v0_4) (n := List.length r_.rows) rfl Try.underlying34 rfl (slice_len h0_4) ?_
                refine L_gtr (m := (r_.rows.length : Int)) (n := 0) rfl rfl rfl ?_
                refine L_pick (v := .bool ((r_.kind != 3) && (decide ((r_.rows.length : Int) > 0)))) rfl rfl (and_t hc58 rfl) ?_
                refine L_pick (v := .bool ((((r_.vars.length : Int) == 0) || ((r_.kind != 1) && ((decide ((r_.coefs.length : Int) > 0)) || (r_.bound != 0)))) || ((r_.kind != 3) && (decide ((r_.rows.length : Int) > 0))))) rfl rfl (or_f hc57 rfl) ?_
                refine L_nil ?_
                show R51 _ _
                rw [hR51]
                exact ⟨sf2, rfl, hst⟩
              ·
                refine L_pass rfl ?_
                refine L_pass rfl ?_
                refine L_pass rfl ?_
                refine L_pass rfl ?_
                refine L_pick (v := .bool ((r_.kind != 3) && (decide ((r_.rows.length : Int) > 0)))) rfl rfl (and_f hc58) ?_
                refine L_pick (v := .bool ((((r_.vars.length : Int) == 0) || ((r_.kind != 1) && ((decide ((r_.coefs.length : Int) > 0)) || (r_.bound != 0)))) || ((r_.kind != 3) && (decide ((r_.rows.length : Int) > 0))))) rfl rfl (or_f hc57 rfl) ?_
                refine L_nil ?_
                show R51 _ _
                rw [hR51]
                exact ⟨sf2, rfl, hst⟩
          ·
            refine L_fa (o' := 3) rfl fa_36_3 sf2 rfl ?_
            refine L_ld (v := .int .i64 r_.bound) rfl Try.isAgg3 rfl (At.cell0 (Blk.at (Star.blkAt 0 hst rfl)) (j := 3) rfl) ?_
            refine L_neq (m := r_.bound) (n := 0) rfl rfl rfl ?_
            refine L_pick (v := .bool ((decide ((r_.coefs.length : Int) > 0)) || (r_.bound != 0))) rfl rfl (or_f hc56 rfl) ?_
            refine L_pick (v := .bool ((r_.kind != 1) && ((decide ((r_.coefs.length : Int) > 0)) || (r_.bound != 0)))) rfl rfl (and_t hc55 rfl) ?_
            refine L_pick (v := .bool (((r_.vars.length : Int) == 0) || ((r_.kind != 1) && ((decide ((r_.coefs.length : Int) > 0)) || (r_.bound != 0))))) rfl rfl (or_f hc52 rfl) ?_
            refine L_mv (v := .bool (((r_.vars.length : Int) == 0) || ((r_.kind != 1) && ((decide ((r_.coefs.length : Int) > 0)) || (r_.bound != 0))))) rfl rfl ?_
            refine L_split (d := 49) (b := (((r_.vars.length : Int) == 0) || ((r_.kind != 1) && ((decide ((r_.coefs.length : Int) > 0)) || (r_.bound != 0))))) rfl (fun hc59 => ?_) (fun hc59 => ?_)
            ·
              refine L_pass rfl ?_
              refine L_pass rfl ?_
              refine L_pass rfl ?_
              refine L_pass rfl ?_
              refine L_pass rfl ?_
              refine L_pass rfl ?_
              refine L_pass rfl ?_
              refine L_pass rfl ?_
              refine L_pass rfl ?_
              refine L_pick (v := .bool ((((r_.vars.length : Int) == 0) || ((r_.kind != 1) && ((decide ((r_.coefs.length : Int) > 0)) || (r_.bound != 0)))) || ((r_.kind != 3) && (decide ((r_.rows.length : Int) > 0))))) rfl rfl (or_t hc59) ?_
              refine L_nil ?_
              show R51 _ _
              rw [hR51]
              exact ⟨sf2, rfl, hst⟩
            ·
              refine L_fa (o' := 0) rfl fa_36_0 sf2 rfl ?_
              refine L_ld (v := .int .i64 r_.kind) rfl Try.isAgg3 rfl (At.cell0 (Blk.at (Star.blkAt 0 hst rfl)) (j := 0) rfl) ?_
              refine L_neq (m := r_.kind) (n := 3) rfl rfl rfl ?_
              refine L_mv (v := .bool (r_.kind != 3)) rfl rfl ?_
              refine L_split (d := 53) (b := (r_.kind != 3)) rfl (fun hc60 => ?_) (fun hc60 => ?_)
              ·
                refine L_fa (o' := 4) rfl fa_36_4 sf2 rfl ?_
                refine L_ld (v := v0_4) rfl Try.isAgg34 rfl (At.cell0 (Blk.at (Star.blkAt 0 hst rfl)) (j := 4) rfl) ?_
                refine L_len (v := v0_4) (n := List.length r_.rows) rfl Try.underlying34 rfl (slice_len h0_4) ?_
                refine L_gtr (m := (r_.rows.length : Int)) (n := 0) rfl rfl rfl ?_
                refine L_pick (v := .bool ((r_.kind != 3) && (decide ((r_.rows.length : Int) > 0)))) rfl rfl (and_t hc60 rfl) ?_
                refine L_pick (v := .bool ((((r_.vars.length : Int) == 0) || ((r_.kind != 1) && ((decide ((r_.coefs.length : Int) > 0)) || (r_.bound != 0)))) || ((r_.kind != 3) && (decide ((r_.rows.length : Int) > 0))))) rfl rfl (or_f hc59 rfl) ?_
                refine L_nil ?_
                show R51 _ _
                rw [hR51]
                exact ⟨sf2, rfl, hst⟩
              ·
                refine L_pass rfl ?_
                refine L_pass rfl ?_
                refine L_pass rfl ?_
                refine L_pass rfl ?_
                refine L_pick (v := .bool ((r_.kind != 3) && (decide ((r_.rows.length : Int) > 0)))) rfl rfl (and_f hc60) ?_
                refine L_pick (v := .bool ((((r_.vars.length : Int) == 0) || ((r_.kind != 1) && ((decide ((r_.coefs.length : Int) > 0)) || (r_.bound != 0)))) || ((r_.kind != 3) && (decide ((r_.rows.length : Int) > 0))))) rfl rfl (or_f hc59 rfl) ?_
                refine L_nil ?_
                show R51 _ _
                rw [hR51]
                exact ⟨sf2, rfl, hst⟩
        ·
          refine L_pass rfl ?_
          refine L_pass rfl ?_
          refine L_pass rfl ?_
          refine L_pass rfl ?_
          refine L_pass rfl ?_
          refine L_pass rfl ?_
          refine L_pass rfl ?_
          refine L_pass rfl ?_
          refine L_pass rfl ?_
          refine L_pick (v := .bool ((r_.kind != 1) && ((decide ((r_.coefs.length : Int) > 0)) || (r_.bound != 0)))) rfl rfl (and_f hc55) ?_
          refine L_pick (v := .bool (((r_.vars.length : Int) == 0) || ((r_.kind != 1) && ((decide ((r_.coefs.length : Int) > 0)) || (r_.bound != 0))))) rfl rfl (or_f hc52 rfl) ?_
          refine L_mv (v := .bool (((r_.vars.length : Int) == 0) || ((r_.kind != 1) && ((decide ((r_.coefs.length : Int) > 0)) || (r_.bound != 0))))) rfl rfl ?_
          refine L_split (d := 49) (b := (((r_.vars.length : Int) == 0) || ((r_.kind != 1) && ((decide ((r_.coefs.length : Int) > 0)) || (r_.bound != 0))))) rfl (fun hc61 => ?_) (fun hc61 => ?_)
          ·
            refine L_pass rfl ?_
            refine L_pass rfl ?_
            refine L_pass rfl ?_
            refine L_pass rfl ?_
            refine L_pass rfl ?_
            refine L_pass rfl ?_
            refine L_pass rfl ?_
            refine L_pass rfl ?_
            refine L_pass rfl ?_
            refine L_pick (v := .bool ((((r_.vars.length : Int) == 0) || ((r_.kind != 1) && ((decide ((r_.coefs.length : Int) > 0)) || (r_.bound != 0)))) || ((r_.kind != 3) && (decide ((r_.rows.length : Int) > 0))))) rfl rfl (or_t hc61) ?_
            refine L_nil ?_
            show R51 _ _
            rw [hR51]
            exact ⟨sf2, rfl, hst⟩
          ·
            refine L_fa (o' := 0) rfl fa_36_0 sf2 rfl ?_
            refine L_ld (v := .int .i64 r_.kind) rfl Try.isAgg3 rfl (At.cell0 (Blk.at (Star.blkAt 0 hst rfl)) (j := 0) rfl) ?_
            refine L_neq (m := r_.kind) (n := 3) rfl rfl rfl ?_
            refine L_mv (v := .bool (r_.kind != 3)) rfl rfl ?_
            refine L_split (d := 53) (b := (r_.kind != 3)) rfl (fun hc62 => ?_) (fun hc62 => ?_)
            ·
              refine L_fa (o' := 4) rfl fa_36_4 sf2 rfl ?_
              refine L_ld (v := v0_4) rfl Try.isAgg34 rfl (At.cell0 (Blk.at (Star.blkAt 0 hst rfl)) (j := 4) rfl) ?_
              refine L_len (v := v0_4) (n := List.length r_.rows) rfl Try.underlying34 rfl (slice_len h0_4) ?_
              refine L_gtr (m := (r_.rows.length : Int)) (n := 0) rfl rfl rfl ?_
              refine L_pick (v := .bool ((r_.kind != 3) && (decide ((r_.rows.length : Int) > 0)))) rfl rfl (and_t hc62 rfl) ?_
              refine L_pick (v := .bool ((((r_.vars.length : Int) == 0) || ((r_.kind != 1) && ((decide ((r_.coefs.length : Int) > 0)) || (r_.bound != 0)))) || ((r_.kind != 3) && (decide ((r_.rows.length : Int) > 0))))) rfl rfl (or_f hc61 rfl) ?_
              refine L_nil ?_
              show R51 _ _
              rw [hR51]
              exact ⟨sf2, rfl, hst⟩
            ·
              refine L_pass rfl ?_
              refine L_pass rfl ?_
              refine L_pass rfl ?_
              refine L_pass rfl ?_
              refine L_pick (v := .bool ((r_.kind != 3) && (decide ((r_.rows.length : Int) > 0)))) rfl rfl (and_f hc62) ?_
              refine L_pick (v := .bool ((((r_.vars.length : Int) == 0) || ((r_.kind != 1) && ((decide ((r_.coefs.length : Int) > 0)) || (r_.bound != 0)))) || ((r_.kind != 3) && (decide ((r_.rows.length : Int) > 0))))) rfl rfl (or_f hc61 rfl) ?_
              refine L_nil ?_
              show R51 _ _
              rw [hR51]
              exact ⟨sf2, rfl, hst⟩
    ·
      intro f w_ hR
      rw [hR51] at hR
      obtain ⟨sf2, sf59, hst⟩ := hR
      clear hR51
      refine W_cond (b := ((((r_.vars.length : Int) == 0) || ((r_.kind != 1) && ((decide ((r_.coefs.length : Int) > 0)) || (r_.bound != 0)))) || ((r_.kind != 3) && (decide ((r_.rows.length : Int) > 0))))) sf59 (fun hc63 => ?_) (fun hc63 => ?_)
      ·
        have hF := (ite_t hc63).symm.trans hF
        refine W_seq ?_
        refine W_region ?_
        refine L_as (v := .bool false) rfl rfl ?_
        refine L_nil ?_
        refine W_ret ?_
        refine retG1 (v1 := .bool false) Try.results68 rfl ?_
        obtain rfl := so hF
        exact ⟨rfl, (Star.keepN 0 hst)⟩
      ·
        have hF := (ite_f hc63).symm.trans hF
        refine W_skip ?_
        refine W_seq ?_
        refine W_seq ?_
        refine W_region ?_
        refine L_fa (o' := 0) rfl fa_36_0 sf2 rfl ?_
        refine L_ld (v := .int .i64 r_.kind) rfl Try.isAgg3 rfl (At.cell0 (Blk.at (Star.blkAt 0 hst rfl)) (j := 0) rfl) ?_
        refine L_nil ?_
        refine W_block ?_
        refine W_seq ?_
        refine W_region ?_
        refine L_eql (m := r_.kind) (n := 1) rfl rfl rfl ?_
        refine L_as (v := .bool (r_.kind == 1)) rfl rfl ?_
        refine L_nil ?_
        refine W_cond (b := (r_.kind == 1)) rfl (fun hc64 => ?_) (fun hc64 => ?_)
        ·
          have hF := (ite_t hc64).symm.trans hF
          refine W_seq ?_
          obtain ⟨b72, hb72, hF⟩ := bind_some hF
          obtain ⟨b80, hb80, hF⟩ := bind_some hF
          obtain ⟨R81, hR81⟩ : ∃ RR_ : Fr → World → Prop, RR_ = fun f w_ => f 4 = .bool b80 ∧ Star H w_ ([]) := ⟨_, rfl⟩
          refine W_join R81 ?_ ?_
          ·
            refine W_region ?_
            refine L_fa (o' := 2) rfl fa_36_2 sf2 rfl ?_
            refine L_ld (v := v0_2) rfl Try.isAgg23 rfl (At.cell0 (Blk.at (Star.blkAt 0 hst rfl)) (j := 2) rfl) ?_
            refine L_len (v := v0_2) (n := List.length r_.coefs) rfl Try.underlying23 rfl (slice_len h0_2) ?_
            refine L_fa (o' := 1) rfl fa_36_1 sf2 rfl ?_
            refine L_ld (v := v0_1) rfl Try.isAgg23 rfl (At.cell0 (Blk.at (Star.blkAt 0 hst rfl)) (j := 1) rfl) ?_
            refine L_len (v := v0_1) (n := List.length r_.vars) rfl Try.underlying23 rfl (slice_len h0_1) ?_
            refine L_eql (m := (r_.coefs.length : Int)) (n := (r_.vars.length : Int)) rfl rfl rfl ?_
            refine L_mv (v := .bool ((r_.coefs.length : Int) == (r_.vars.length : Int))) rfl rfl ?_
            refine L_split (d := 71) (b := ((r_.coefs.length : Int) == (r_.vars.length : Int))) rfl (fun hc82 => ?_) (fun hc82 => ?_)
            ·
              rw [ite_t hc82] at hb72
              obtain ⟨x70, hx70, hb72⟩ := bind_some hb72
              refine L_fa (o' := 3) rfl fa_36_3 sf2 rfl ?_
              refine L_ld (v := .int .i64 r_.bound) rfl Try.isAgg3 rfl (At.cell0 (Blk.at (Star.blkAt 0 hst rfl)) (j := 3) rfl) ?_
              obtain ⟨Hb83, hle84, hsb85, hfz86, hbk87⟩ := Star.borrow hst
              refine L_call (args := #[.int .i64 r_.bound, .int .i64 (-1000), .int .i64 1000]) rfl Try.call50 (ops3 rfl rfl rfl) (i_within_c (n_ := r_.bound) (low := (-1000)) (high := 1000) hsb85 hx70) ?_
              rintro _ w88 ⟨rfl, hst⟩
              have hst := hbk87 hst closedL_nil
              refine L_pick (v := .bool b72) rfl rfl (congrArg Value.bool (so hb72)) ?_
              refine L_mv (v := .bool b72) rfl rfl ?_
              refine L_split (d := 76) (b := b72) rfl (fun hc89 => ?_) (fun hc89 => ?_)
              ·
                rw [ite_t hc89] at hb80
                obtain ⟨x78, hx78, hb80⟩ := bind_some hb80
                refine L_fa (o' := 2) rfl fa_36_2 sf2 rfl ?_
                refine L_ld (v := v0_2) rfl Try.isAgg23 rfl (At.cell0 (Blk.at (Star.blkAt 0 hst rfl)) (j := 2) rfl) ?_
                obtain ⟨Hb90, hle91, hsb92, hfz93, hbk94⟩ := Star.borrow hst
                have hf95 : Fun1 Try.prog RP.int false Value.bool i_ruleValid_1 (.func (.func 89) #[] #[]) Hb90 := by
                  refine ⟨_, _, rfl, Try.call89, fun H_ w_ hE_ hs_ cs_ x_ y_ args_ hr_ hy_ ha_ => ?_⟩
                  obtain rfl : cs_ = [_] := hr_
                  obtain rfl := args_of (b := #[.int .i64 x_]) ha_
                  exact i_ruleValid_1_c (n_ := x_) hs_  hy_
                refine L_call (args := #[v0_2, .func (.func 89) #[] #[]]) rfl Try.call88 (ops2 rfl rfl) (slices_ContainsFunc_int_c (s := r_.coefs) (f_ := i_ruleValid_1) hsb92 (RP.mono _ h0_2 hle91) hf95 hx78) ?_
                rintro _ w96 ⟨rfl, hst⟩
                have hst := hbk94 hst closedL_nil
                refine L_not_ (b := x78) rfl rfl ?_
                refine L_pick (v := .bool b80) rfl rfl (congrArg Value.bool (so hb80)) ?_
                refine L_as (v := .bool b80) rfl rfl ?_
                refine L_nil ?_
                show R81 _ _
                rw [hR81]
                exact ⟨rfl, (Star.keepN 0 hst)⟩
              ·
                rw [ite_f hc89] at hb80
                refine L_pass rfl ?_
                refine L_pass rfl ?_
                refine L_pass rfl ?_
                refine L_pass rfl ?_
                refine L_pick (v := .bool b80) rfl rfl (congrArg Value.bool (so hb80)) ?_
                refine L_as (v := .bool b80) rfl rfl ?_
                refine L_nil ?_
                show R81 _ _
                rw [hR81]
                exact ⟨rfl, (Star.keepN 0 hst)⟩
            ·
              rw [ite_f hc82] at hb72
              refine L_pass rfl ?_
              refine L_pass rfl ?_
              refine L_pass rfl ?_
              refine L_pick (v := .bool b72) rfl rfl (congrArg Value.bool (so hb72)) ?_
              refine L_mv (v := .bool b72) rfl rfl ?_
              refine L_split (d := 76) (b := b72) rfl (fun hc97 => ?_) (fun hc97 => ?_)
              ·
                rw [ite_t hc97] at hb80
                obtain ⟨x78, hx78, hb80⟩ := bind_some hb80
                refine L_fa (o' := 2) rfl fa_36_2 sf2 rfl ?_
                refine L_ld (v := v0_2) rfl Try.isAgg23 rfl (At.cell0 (Blk.at (Star.blkAt 0 hst rfl)) (j := 2) rfl) ?_
                obtain ⟨Hb98, hle99, hsb100, hfz101, hbk102⟩ := Star.borrow hst
                have hf103 : Fun1 Try.prog RP.int false Value.bool i_ruleValid_1 (.func (.func 89) #[] #[]) Hb98 := by
                  refine ⟨_, _, rfl, Try.call89, fun H_ w_ hE_ hs_ cs_ x_ y_ args_ hr_ hy_ ha_ => ?_⟩
                  obtain rfl : cs_ = [_] := hr_
                  obtain rfl := args_of (b := #[.int .i64 x_]) ha_
                  exact i_ruleValid_1_c (n_ := x_) hs_  hy_
                refine L_call (args := #[v0_2, .func (.func 89) #[] #[]]) rfl Try.call88 (ops2 rfl rfl) (slices_ContainsFunc_int_c (s := r_.coefs) (f_ := i_ruleValid_1) hsb100 (RP.mono _ h0_2 hle99) hf103 hx78) ?_
                rintro _ w104 ⟨rfl, hst⟩
                have hst := hbk102 hst closedL_nil
                refine L_not_ (b := x78) rfl rfl ?_
                refine L_pick (v := .bool b80) rfl rfl (congrArg Value.bool (so hb80)) ?_
                refine L_as (v := .bool b80) rfl rfl ?_
                refine L_nil ?_
                show R81 _ _
                rw [hR81]
                exact ⟨rfl, (Star.keepN 0 hst)⟩
              ·
                rw [ite_f hc97] at hb80
                refine L_pass rfl ?_
                refine L_pass rfl ?_
                refine L_pass rfl ?_
                refine L_pass rfl ?_
                refine L_pick (v := .bool b80) rfl rfl (congrArg Value.bool (so hb80)) ?_
                refine L_as (v := .bool b80) rfl rfl ?_
                refine L_nil ?_
                show R81 _ _
                rw [hR81]
                exact ⟨rfl, (Star.keepN 0 hst)⟩
          ·
            intro f w_ hR
            rw [hR81] at hR
            obtain ⟨sf4, hst⟩ := hR
            clear hR81
            refine W_ret ?_
            refine retG1 (v1 := .bool b80) Try.results68 sf4 ?_
            obtain rfl := so hF
            exact ⟨rfl, hst⟩
        ·
          have hF := (ite_f hc64).symm.trans hF
          refine W_seq ?_
          refine W_region ?_
          refine L_eql (m := r_.kind) (n := 3) rfl rfl rfl ?_
          refine L_as (v := .bool (r_.kind == 3)) rfl rfl ?_
          refine L_nil ?_
          refine W_cond (b := (r_.kind == 3)) rfl (fun hc105 => ?_) (fun hc105 => ?_)
          ·
            have hF := (ite_t hc105).symm.trans hF
            refine W_seq ?_
            obtain ⟨b113, hb113, hF⟩ := bind_some hF
            obtain ⟨R114, hR114⟩ : ∃ RR_ : Fr → World → Prop, RR_ = fun f w_ => f 4 = .bool b113 ∧ Star H w_ ([]) := ⟨_, rfl⟩
            refine W_join R114 ?_ ?_
            ·
              refine W_region ?_
              refine L_fa (o' := 4) rfl fa_36_4 sf2 rfl ?_
              refine L_ld (v := v0_4) rfl Try.isAgg34 rfl (At.cell0 (Blk.at (Star.blkAt 0 hst rfl)) (j := 4) rfl) ?_
              refine L_len (v := v0_4) (n := List.length r_.rows) rfl Try.underlying34 rfl (slice_len h0_4) ?_
              refine L_leq (m := (r_.rows.length : Int)) (n := 8) rfl rfl rfl ?_
              refine L_mv (v := .bool (decide ((r_.rows.length : Int) ≤ 8))) rfl rfl ?_
              refine L_split (d := 88) (b := decide ((r_.rows.length : Int) ≤ 8)) rfl (fun hc115 => ?_) (fun hc115 => ?_)
              ·
                rw [ite_t hc115] at hb113
                obtain ⟨x111, hx111, hb113⟩ := bind_some hb113
                refine L_fa (o' := 4) rfl fa_36_4 sf2 rfl ?_
                refine L_ld (v := v0_4) rfl Try.isAgg34 rfl (At.cell0 (Blk.at (Star.blkAt 0 hst rfl)) (j := 4) rfl) ?_
                refine L_mf rfl (ops1 sf2) ?_
                obtain ⟨Hb116, hle117, hsb118, hfz119, hbk120⟩ := Star.borrow hst
                have hf121 : Fun1 Try.prog (RP.slice 3 RP.int) false Value.bool (i_ruleValid_2 r_) (.func (.func 91) #[] #[.pointer (some ⟨g3, 0, none⟩)]) Hb116 := by
                  refine ⟨_, _, rfl, Try.call91, fun H_ w_ hE_ hs_ cs_ x_ y_ args_ hr_ hy_ ha_ => ?_⟩
                  obtain ⟨p_0, rfl, hp_0⟩ := slice1 hr_
                  obtain rfl := args_of (b := #[p_0, .pointer (some ⟨g3, 0, none⟩)]) ha_
                  exact i_ruleValid_2_c (c1 := r_) (row := x_) hs_ hp_0 (AtH.le (AtH.of (fz_box 0 hfz119 rfl)) hE_) (RP.mono _ (RP.mono _ h0_1 hle117) hE_) (RP.mono _ (RP.mono _ h0_2 hle117) hE_) (RP.mono _ (RP.mono _ h0_4 hle117) hE_) hy_
                refine L_call (args := #[v0_4, .func (.func 91) #[] #[.pointer (some ⟨g3, 0, none⟩)]]) rfl Try.call90 (ops2 rfl rfl) (slices_ContainsFunc_Sint_c (s := r_.rows) (f_ := (i_ruleValid_2 r_)) hsb118 (RP.mono _ h0_4 hle117) hf121 hx111) ?_
                rintro _ w122 ⟨rfl, hst⟩
                have hst := hbk120 hst closedL_nil
                refine L_not_ (b := x111) rfl rfl ?_
                refine L_pick (v := .bool b113) rfl rfl (congrArg Value.bool (so hb113)) ?_
                refine L_as (v := .bool b113) rfl rfl ?_
                refine L_nil ?_
                show R114 _ _
                rw [hR114]
                exact ⟨rfl, (Star.keepN 0 hst)⟩
              ·
                rw [ite_f hc115] at hb113
                refine L_pass rfl ?_
                refine L_pass rfl ?_
                refine L_pass rfl ?_
                refine L_pass rfl ?_
                refine L_pass rfl ?_
                refine L_pick (v := .bool b113) rfl rfl (congrArg Value.bool (so hb113)) ?_
                refine L_as (v := .bool b113) rfl rfl ?_
                refine L_nil ?_
                show R114 _ _
                rw [hR114]
                exact ⟨rfl, (Star.keepN 0 hst)⟩
            ·
              intro f w_ hR
              rw [hR114] at hR
              obtain ⟨sf4, hst⟩ := hR
              clear hR114
              refine W_ret ?_
              refine retG1 (v1 := .bool b113) Try.results68 sf4 ?_
              obtain rfl := so hF
              exact ⟨rfl, hst⟩
          ·
            have hF := (ite_f hc105).symm.trans hF
            refine W_seq ?_
            refine W_region ?_
            refine L_eql (m := r_.kind) (n := 4) rfl rfl rfl ?_
            refine L_as (v := .bool (r_.kind == 4)) rfl rfl ?_
            refine L_nil ?_
            refine W_cond (b := (r_.kind == 4)) rfl (fun hc123 => ?_) (fun hc123 => ?_)
            ·
              have hF := (ite_t hc123).symm.trans hF
              refine W_seq ?_
              refine W_region ?_
              refine L_fa (o' := 1) rfl fa_36_1 sf2 rfl ?_
              refine L_ld (v := v0_1) rfl Try.isAgg23 rfl (At.cell0 (Blk.at (Star.blkAt 0 hst rfl)) (j := 1) rfl) ?_
              refine L_len (v := v0_1) (n := List.length r_.vars) rfl Try.underlying23 rfl (slice_len h0_1) ?_
              refine L_eql (m := (r_.vars.length : Int)) (n := 2) rfl rfl rfl ?_
              refine L_as (v := .bool ((r_.vars.length : Int) == 2)) rfl rfl ?_
              refine L_nil ?_
              refine W_ret ?_
              refine retG1 (v1 := .bool ((r_.vars.length : Int) == 2)) Try.results68 rfl ?_
              obtain rfl := so hF
              exact ⟨rfl, (Star.keepN 0 hst)⟩
            ·
              have hF := (ite_f hc123).symm.trans hF
              refine W_skip ?_
              refine W_seq ?_
              refine W_region ?_
              refine L_fa (o' := 0) rfl fa_36_0 sf2 rfl ?_
              refine L_ld (v := .int .i64 r_.kind) rfl Try.isAgg3 rfl (At.cell0 (Blk.at (Star.blkAt 0 hst rfl)) (j := 0) rfl) ?_
              refine L_eql (m := r_.kind) (n := 2) rfl rfl rfl ?_
              refine L_as (v := .bool (r_.kind == 2)) rfl rfl ?_
              refine L_nil ?_
              refine W_ret ?_
              refine retG1 (v1 := .bool (r_.kind == 2)) Try.results68 rfl ?_
              obtain rfl := so hF
              exact ⟨rfl, (Star.keepN 0 hst)⟩

theorem i_ModelValid_1_c {c1 : Model} {r_ : Rule} {v0_1 : Value} {v0_2 : Value} {v0_4 : Value} {g_c1 : Nat} {v1_0 : Value} {v1_1 : Value} {H : FH} {w : World} (hst : Star H w []) (h0_1 : (RP.slice 3 RP.int).rel H [v0_1] r_.vars) (h0_2 : (RP.slice 3 RP.int).rel H [v0_2] r_.coefs) (h0_4 : (RP.slice 23 (RP.slice 3 RP.int)).rel H [v0_4] r_.rows) (hat_g_c1 : AtH H g_c1 0 [v1_0, v1_1]) (h1_0 : (RP.slice 3 RP.int).rel H [v1_0] c1.sizes) (h1_1 : (RP.slice 36 (rRule 3 23)).rel H [v1_1] c1.rules) {r : Bool} (hF : i_ModelValid_1 c1 r_ = some r) :
    C Try.prog 67 #[.agg #[.int .i64 r_.kind, v0_1, v0_2, .int .i64 r_.bound, v0_4], .pointer (some ⟨g_c1, 0, none⟩)] w fun v w' => v = .bool r ∧ Star H w' [] := by
  unfold i_ModelValid_1 at hF
  refine C_enter Try.func67 rfl Try.ntmps67 rfl ?_
  refine W_seq ?_
  refine W_region ?_
  refine L_box (v := .agg #[.int .i64 r_.kind, v0_1, v0_2, .int .i64 r_.bound, v0_4]) (cs := #[.int .i64 r_.kind, v0_1, v0_2, .int .i64 r_.bound, v0_4]) rfl rfl rfl hst ?_
  intro g3 w4 hst
  refine L_as (v := .bool false) rfl rfl ?_
  refine L_nil ?_
  refine W_seq ?_
  obtain ⟨x10, hx10, hF⟩ := bind_some hF
  refine W_region ?_
  refine L_lda (cs := [.int .i64 r_.kind, v0_1, v0_2, .int .i64 r_.bound, v0_4]) rfl Try.isAgg36 Try.sizeOf36 rfl (At.sub0 (Blk.at (Star.blkAt 0 hst rfl)) 0 5) rfl ?_
  refine L_fa (o' := 0) rfl fa_26_0 rfl rfl ?_
  refine L_ld (v := v1_0) rfl Try.isAgg23 rfl (At.cell0 (AtH.at hat_g_c1 hst.sub) (j := 0) rfl) ?_
  refine L_len (v := v1_0) (n := List.length c1.sizes) rfl Try.underlying23 rfl (slice_len h1_0) ?_
  obtain ⟨Hb12, hle13, hsb14, hfz15, hbk16⟩ := Star.borrow hst
  refine L_call (args := #[.agg #[.int .i64 r_.kind, v0_1, v0_2, .int .i64 r_.bound, v0_4], .int .i64 (c1.sizes.length : Int)]) rfl Try.call68 (ops2 rfl rfl) (i_ruleValid_c (r_ := r_) (cells := (c1.sizes.length : Int)) hsb14 (RP.mono _ h0_1 hle13) (RP.mono _ h0_2 hle13) (RP.mono _ h0_4 hle13) hx10) ?_
  rintro _ w17 ⟨rfl, hst⟩
  have hst := hbk16 hst closedL_nil
  refine L_not_ (b := x10) rfl rfl ?_
  refine L_as (v := .bool (!x10)) rfl rfl ?_
  refine L_nil ?_
  refine W_ret ?_
  refine retG1 (v1 := .bool (!x10)) Try.results67 rfl ?_
  obtain rfl := so hF
  exact ⟨rfl, (Star.keepN 0 hst)⟩

theorem i_ModelValid_c {m : Model} {v0_0 : Value} {v0_1 : Value} {H : FH} {w : World} (hst : Star H w []) (h0_0 : (RP.slice 3 RP.int).rel H [v0_0] m.sizes) (h0_1 : (RP.slice 36 (rRule 3 23)).rel H [v0_1] m.rules) {r : Bool} (hF : i_ModelValid m = some r) :
    C Try.prog 28 #[.agg #[v0_0, v0_1]] w fun v w' => v = .bool r ∧ Star H w' [] := by
  unfold i_ModelValid at hF
  refine C_enter Try.func28 rfl Try.ntmps28 rfl ?_
  refine W_seq ?_
  refine W_region ?_
  refine L_box (v := .agg #[v0_0, v0_1]) (cs := #[v0_0, v0_1]) rfl rfl rfl hst ?_
  intro g3 w4 hst
  refine L_as (v := .bool false) rfl rfl ?_
  refine L_nil ?_
  refine W_seq ?_
  refine W_seq ?_
  obtain ⟨x10, hx10, hF⟩ := bind_some hF
  obtain ⟨R12, hR12⟩ : ∃ RR_ : Fr → World → Prop, RR_ = fun f w_ => f 1 = .pointer (some ⟨g3, 0, none⟩) ∧ f 16 = .bool ((!x10) || (decide ((m.rules.length : Int) > 8))) ∧ Star H w_ ([box g3 26 #[v0_0, v0_1]]) := ⟨_, rfl⟩
  refine W_join R12 ?_ ?_
  ·
    refine W_region ?_
    refine L_fa (o' := 0) rfl fa_26_0 rfl rfl ?_
    refine L_ld (v := v0_0) rfl Try.isAgg23 rfl (At.cell0 (Blk.at (Star.blkAt 0 hst rfl)) (j := 0) rfl) ?_
    refine L_len (v := v0_0) (n := List.length m.sizes) rfl Try.underlying23 rfl (slice_len h0_0) ?_
    obtain ⟨Hb13, hle14, hsb15, hfz16, hbk17⟩ := Star.borrow hst
    refine L_call (args := #[.int .i64 (m.sizes.length : Int), .int .i64 1, .int .i64 5]) rfl Try.call50 (ops3 rfl rfl rfl) (i_within_c (n_ := (m.sizes.length : Int)) (low := 1) (high := 5) hsb15 hx10) ?_
    rintro _ w18 ⟨rfl, hst⟩
    have hst := hbk17 hst closedL_nil
    refine L_not_ (b := x10) rfl rfl ?_
    refine L_mv (v := .bool (!x10)) rfl rfl ?_
    refine L_split (d := 11) (b := (!x10)) rfl (fun hc19 => ?_) (fun hc19 => ?_)
    ·
      refine L_pass rfl ?_
      refine L_pass rfl ?_
      refine L_pass rfl ?_
      refine L_pass rfl ?_
      refine L_pick (v := .bool ((!x10) || (decide ((m.rules.length : Int) > 8)))) rfl rfl (or_t hc19) ?_
      refine L_nil ?_
      show R12 _ _
      rw [hR12]
      exact ⟨rfl, rfl, hst⟩
    ·
      refine L_fa (o' := 1) rfl fa_26_1 rfl rfl ?_
      refine L_ld (v := v0_1) rfl Try.isAgg24 rfl (At.cell0 (Blk.at (Star.blkAt 0 hst rfl)) (j := 1) rfl) ?_
      refine L_len (v := v0_1) (n := List.length m.rules) rfl Try.underlying24 rfl (slice_len h0_1) ?_
      refine L_gtr (m := (m.rules.length : Int)) (n := 8) rfl rfl rfl ?_
      refine L_pick (v := .bool ((!x10) || (decide ((m.rules.length : Int) > 8)))) rfl rfl (or_f hc19 rfl) ?_
      refine L_nil ?_
      show R12 _ _
      rw [hR12]
      exact ⟨rfl, rfl, hst⟩
  ·
    intro f w_ hR
    rw [hR12] at hR
    obtain ⟨sf1, sf16, hst⟩ := hR
    clear hR12
    refine W_cond (b := ((!x10) || (decide ((m.rules.length : Int) > 8)))) sf16 (fun hc20 => ?_) (fun hc20 => ?_)
    ·
      have hF := (ite_t hc20).symm.trans hF
      refine W_seq ?_
      refine W_region ?_
      refine L_as (v := .bool false) rfl rfl ?_
      refine L_nil ?_
      refine W_ret ?_
      refine retG1 (v1 := .bool false) Try.results28 rfl ?_
      obtain rfl := so hF
      exact ⟨rfl, (Star.keepN 0 hst)⟩
    ·
      have hF := (ite_f hc20).symm.trans hF
      refine W_skip ?_
      refine W_seq ?_
      refine W_region ?_
      refine L_as (v := .int .i64 0) rfl rfl ?_
      refine L_nil ?_
      refine W_seq ?_
      refine W_seq ?_
      refine W_region ?_
      refine L_fa (o' := 0) rfl fa_26_0 sf1 rfl ?_
      refine L_ld (v := v0_0) rfl Try.isAgg23 rfl (At.cell0 (Blk.at (Star.blkAt 0 hst rfl)) (j := 0) rfl) ?_
      refine L_len (v := v0_0) (n := List.length m.sizes) rfl Try.underlying23 rfl (slice_len h0_0) ?_
      refine L_mv (v := .int .i64 0) rfl rfl ?_
      refine L_nil ?_
      have hlen23 : List.length m.sizes ≤ 9223372036854775807 := len_le (slice_len h0_0)
      obtain ⟨j23, hL23, hF⟩ := bind_some hF
      obtain ⟨R23, hR23⟩ : ∃ RR_ : Fr → World → Prop, RR_ = fun f w_ => ∃ count_22 : Int, j23 = .nx count_22 ∧ f 1 = .pointer (some ⟨g3, 0, none⟩) ∧ f 3 = .int .i64 count_22 ∧ Star H w_ ([box g3 26 #[v0_0, v0_1]]) := ⟨_, rfl⟩
      refine W_join R23 ?_ ?_
      ·
        refine W_block ?_
        obtain ⟨I23, hI23⟩ : ∃ I : Nat → Fr → World → Prop, I = fun n f w_ => ∃ i_21 : Nat, ∃ suf23 : List Int, ∃ count_22 : Int, n = suf23.length ∧ List.drop i_21 m.sizes = suf23 ∧ i_21 + suf23.length = m.sizes.length ∧ rangeL i_ModelValid_b1 suf23 i_21 count_22 = some j23 ∧ f 1 = .pointer (some ⟨g3, 0, none⟩) ∧ f 3 = .int .i64 count_22 ∧ f 18 = v0_0 ∧ f 19 = .int .i64 (m.sizes.length : Int) ∧ f 20 = .int .i64 (i_21 : Int) ∧ Star H w_ ([box g3 26 #[v0_0, v0_1]]) := ⟨_, rfl⟩
        refine W_loop I23 (n := m.sizes.length) ?_ ?_
        · rw [hI23]; exact ⟨0, m.sizes, 0, rfl, rfl, Nat.zero_add _, hL23, sf1, rfl, rfl, rfl, rfl, hst⟩
        ·
          clear hst
          intro n23 f w_ hI
          rw [hI23] at hI
          obtain ⟨i_21, suf23, count_22, rfl, hd23, hl23, hL23, sf1, sf3, sf18, sf19, sf20, hst⟩ := hI
          refine W_seq ?_
          refine W_region ?_
          refine L_lss (m := (i_21 : Int)) (n := (m.sizes.length : Int)) rfl sf20 sf19 ?_
          refine L_nil ?_
          refine W_seq ?_
          refine W_cond (b := decide ((i_21 : Int) < (m.sizes.length : Int))) rfl (fun hc24 => ?_) (fun hc24 => ?_)
          ·
            have hlt23 := of_decide_eq_true hc24
            cases suf23 with
            | nil => exact absurd hlt23 (by simp at hl23; omega)
            | cons x_23 rest23 =>
              obtain ⟨o23, hB23, hL23⟩ := range_cons hL23
              rw [i_ModelValid_b1] at hB23
              have hix23 := drop_idx hd23
              refine W_skip ?_
              refine W_seq ?_
              refine W_block ?_
              refine W_seq ?_
              refine W_region ?_
              refine L_ix (r := RP.int) rfl Try.underlying23 Try.sizeOf3 sf18 h0_0 sf20 hix23 ?_
              intro g29 o30 cs_g29 hrk_hat31 hat31
              obtain rfl : _ = [_] := hrk_hat31
              refine L_ld (v := .int .i64 x_23) rfl Try.isAgg3 rfl (At.cell (AtH.at hat31 hst.sub) (j := 0) rfl) ?_
              refine L_as (v := .int .i64 x_23) rfl rfl ?_
              refine L_nil ?_
              refine W_seq ?_
              refine W_seq ?_
              obtain ⟨x38, hx38, hB23⟩ := bind_some hB23
              refine W_region ?_
              refine L_mv (v := .int .i64 x_23) rfl rfl ?_
              obtain ⟨Hb40, hle41, hsb42, hfz43, hbk44⟩ := Star.borrow hst
              refine L_call (args := #[.int .i64 x_23, .int .i64 0, .int .i64 3]) rfl Try.call50 (ops3 rfl rfl rfl) (i_within_c (n_ := x_23) (low := 0) (high := 3) hsb42 hx38) ?_
              rintro _ w45 ⟨rfl, hst⟩
              have hst := hbk44 hst closedL_nil
              refine L_not_ (b := x38) rfl rfl ?_
              refine L_nil ?_
              refine W_cond (b := (!x38)) rfl (fun hc46 => ?_) (fun hc46 => ?_)
              ·
                have hB23 := (ite_t hc46).symm.trans hB23
                refine W_seq ?_
                refine W_region ?_
                refine L_as (v := .bool false) rfl rfl ?_
                refine L_nil ?_
                refine W_ret ?_
                refine retG1 (v1 := .bool false) Try.results28 rfl ?_
                obtain rfl := so hB23
                obtain rfl := so hL23
                obtain rfl := so hF
                exact ⟨rfl, (Star.keepN 0 hst)⟩
              ·
                have hB23 := (ite_f hc46).symm.trans hB23
                refine W_skip ?_
                refine W_region ?_
                refine L_mv (v := .int .i64 count_22) rfl sf3 ?_
                refine L_mv (v := .int .i64 x_23) rfl rfl ?_
                refine L_add (m := x_23) (n := 1) rfl rfl rfl ?_
                refine L_add (m := count_22) (n := i64 (x_23 + 1)) rfl rfl rfl ?_
                refine L_as (v := .int .i64 (i64 (count_22 + (i64 (x_23 + 1))))) rfl rfl ?_
                refine L_nil ?_
                refine W_region ?_
                refine L_add (m := (i_21 : Int)) (n := 1) rfl sf20 rfl ?_
                refine L_mv (v := .int .i64 (i64 ((i_21 : Int) + 1))) rfl rfl ?_
                refine L_nil ?_
                obtain rfl := so hB23
                show ∃ m, m < _ ∧ I23 m _ _
                refine ⟨rest23.length, by simp, ?_⟩
                rw [hI23]
                exact ⟨i_21 + 1, rest23, i64 (count_22 + (i64 (x_23 + 1))), rfl, drop_next hd23, by simp at hl23; omega, hL23, sf1, rfl, sf18, sf19, (Eq.trans rfl (congrArg (Value.int .i64) (i64_succ (n := m.sizes.length) (by simp at hl23; omega) hlen23))), hst⟩
          ·
            cases suf23 with
            | cons _ _ => exact absurd (of_decide_eq_false hc24) (by simp at hl23; omega)
            | nil =>
              obtain rfl := range_nil hL23
              refine W_exit ?_
              show R23 _ _
              rw [hR23]
              exact ⟨count_22, rfl, sf1, sf3, hst⟩
      ·
        clear hst
        intro f w_ hR
        rw [hR23] at hR
        obtain ⟨count_22, rfl, sf1, sf3, hst⟩ := hR
        clear hR23
        refine W_seq ?_
        obtain ⟨b54, hb54, hF⟩ := bind_some hF
        obtain ⟨R55, hR55⟩ : ∃ RR_ : Fr → World → Prop, RR_ = fun f w_ => f 2 = .bool b54 ∧ Star H w_ ([]) := ⟨_, rfl⟩
        refine W_join R55 ?_ ?_
        ·
          refine W_region ?_
          refine L_mv (v := .int .i64 count_22) rfl sf3 ?_
          refine L_leq (m := count_22) (n := 12) rfl rfl rfl ?_
          refine L_mv (v := .bool (decide (count_22 ≤ 12))) rfl rfl ?_
          refine L_split (d := 34) (b := decide (count_22 ≤ 12)) rfl (fun hc56 => ?_) (fun hc56 => ?_)
          ·
            rw [ite_t hc56] at hb54
            obtain ⟨x52, hx52, hb54⟩ := bind_some hb54
            refine L_fa (o' := 1) rfl fa_26_1 sf1 rfl ?_
            refine L_ld (v := v0_1) rfl Try.isAgg24 rfl (At.cell0 (Blk.at (Star.blkAt 0 hst rfl)) (j := 1) rfl) ?_
            refine L_mf rfl (ops1 sf1) ?_
            obtain ⟨Hb57, hle58, hsb59, hfz60, hbk61⟩ := Star.borrow hst
            have hf62 : Fun1 Try.prog (rRule 3 23) true Value.bool (i_ModelValid_1 m) (.func (.func 67) #[] #[.pointer (some ⟨g3, 0, none⟩)]) Hb57 := by
              refine ⟨_, _, rfl, Try.call67, fun H_ w_ hE_ hs_ cs_ x_ y_ args_ hr_ hy_ ha_ => ?_⟩
              obtain ⟨p_0, p_1, p_2, rfl, hp_0, hp_1, hp_2⟩ := rRule_iff.1 hr_
              obtain rfl := args_of (b := #[.agg #[.int .i64 x_.kind, p_0, p_1, .int .i64 x_.bound, p_2], .pointer (some ⟨g3, 0, none⟩)]) ha_
              exact i_ModelValid_1_c (c1 := m) (r_ := x_) hs_ hp_0 hp_1 hp_2 (AtH.le (AtH.of (fz_box 0 hfz60 rfl)) hE_) (RP.mono _ (RP.mono _ h0_0 hle58) hE_) (RP.mono _ (RP.mono _ h0_1 hle58) hE_) hy_
            refine L_call (args := #[v0_1, .func (.func 67) #[] #[.pointer (some ⟨g3, 0, none⟩)]]) rfl Try.call66 (ops2 rfl rfl) (slices_ContainsFunc_implRule_c (s := m.rules) (f_ := (i_ModelValid_1 m)) hsb59 (RP.mono _ h0_1 hle58) hf62 hx52) ?_
            rintro _ w63 ⟨rfl, hst⟩
            have hst := hbk61 hst closedL_nil
            refine L_not_ (b := x52) rfl rfl ?_
            refine L_pick (v := .bool b54) rfl rfl (congrArg Value.bool (so hb54)) ?_
            refine L_as (v := .bool b54) rfl rfl ?_
            refine L_nil ?_
            show R55 _ _
            rw [hR55]
            exact ⟨rfl, (Star.keepN 0 hst)⟩
          ·
            rw [ite_f hc56] at hb54
            refine L_pass rfl ?_
            refine L_pass rfl ?_
            refine L_pass rfl ?_
            refine L_pass rfl ?_
            refine L_pass rfl ?_
            refine L_pick (v := .bool b54) rfl rfl (congrArg Value.bool (so hb54)) ?_
            refine L_as (v := .bool b54) rfl rfl ?_
            refine L_nil ?_
            show R55 _ _
            rw [hR55]
            exact ⟨rfl, (Star.keepN 0 hst)⟩
        ·
          intro f w_ hR
          rw [hR55] at hR
          obtain ⟨sf2, hst⟩ := hR
          clear hR55
          refine W_ret ?_
          refine retG1 (v1 := .bool b54) Try.results28 sf2 ?_
          obtain rfl := so hF
          exact ⟨rfl, hst⟩

theorem s_l6Vars_c {m : Model} {list : List Int} {v0_0 : Value} {v0_1 : Value} {v1 : Value} {H : FH} {w : World} (hst : Star H w []) (h0_0 : (RP.slice 3 RP.int).rel H [v0_0] m.sizes) (h0_1 : (RP.slice 36 (rRule 3 23)).rel H [v0_1] m.rules) (h1 : (RP.slice 3 RP.int).rel H [v1] list) {r : Bool} (hF : s_l6Vars m list = some r) :
    C Try.prog 98 #[.agg #[v0_0, v0_1], v1] w fun v w' => v = .bool r ∧ Star H w' [] := by
  unfold s_l6Vars at hF
  refine C_enter Try.func98 rfl Try.ntmps98 rfl ?_
  refine W_seq ?_
  refine W_region ?_
  refine L_box (v := .agg #[v0_0, v0_1]) (cs := #[v0_0, v0_1]) rfl rfl rfl hst ?_
  intro g3 w4 hst
  refine L_as (v := .bool false) rfl rfl ?_
  refine L_nil ?_
  refine W_seq ?_
  refine W_seq ?_
  refine W_region ?_
  refine L_as (v := .int .i64 0) rfl rfl ?_
  refine L_nil ?_
  have hlen8 : List.length list ≤ 9223372036854775807 := len_le (slice_len h1)
  obtain ⟨j8, hL8, hF⟩ := bind_some hF
  obtain ⟨R8, hR8⟩ : ∃ RR_ : Fr → World → Prop, RR_ = fun f w_ => ∃ H6 : FH, j8 = .nx () ∧ Le H H6 ∧ f 1 = v1 ∧ Star H6 w_ ([]) := ⟨_, rfl⟩
  refine W_join R8 ?_ ?_
  ·
    refine W_block ?_
    obtain ⟨I8, hI8⟩ : ∃ I : Nat → Fr → World → Prop, I = fun n f w_ => ∃ i_5 : Nat, ∃ suf8 : List Int, ∃ H6 : FH, n = suf8.length ∧ List.drop i_5 list = suf8 ∧ i_5 + suf8.length = list.length ∧ rangeL (s_l6Vars_b1 m list) suf8 i_5 () = some j8 ∧ Le H H6 ∧ f 1 = v1 ∧ f 2 = .pointer (some ⟨g3, 0, none⟩) ∧ f 5 = .int .i64 (i_5 : Int) ∧ Star H6 w_ ([box g3 26 #[v0_0, v0_1]]) := ⟨_, rfl⟩
    refine W_loop I8 (n := list.length) ?_ ?_
    · rw [hI8]; exact ⟨0, list, H, rfl, rfl, Nat.zero_add _, hL8, (Le.refl _), rfl, rfl, rfl, hst⟩
    ·
      clear hst
      intro n8 f w_ hI
      rw [hI8] at hI
      obtain ⟨i_5, suf8, H6, rfl, hd8, hl8, hL8, hle7, sf1, sf2, sf5, hst⟩ := hI
      refine W_seq ?_
      refine W_seq ?_
      refine W_region ?_
      refine L_mv (v := .int .i64 (i_5 : Int)) rfl sf5 ?_
      refine L_mv (v := v1) rfl sf1 ?_
      refine L_len (v := v1) (n := List.length list) rfl Try.underlying23 rfl (slice_len (RP.mono _ h1 hle7)) ?_
      refine L_lss (m := (i_5 : Int)) (n := (list.length : Int)) rfl rfl rfl ?_
      refine L_nil ?_
      refine W_cond (b := decide ((i_5 : Int) < (list.length : Int))) rfl (fun hc9 => ?_) (fun hc9 => ?_)
      ·
        have hlt8 := of_decide_eq_true hc9
        cases suf8 with
        | nil => exact absurd hlt8 (by simp at hl8; omega)
        | cons x_8 rest8 =>
          obtain ⟨o8, hB8, hL8⟩ := range_cons hL8
          rw [s_l6Vars_b1] at hB8
          have hix8 := drop_idx hd8
          refine W_skip ?_
          refine W_seq ?_
          refine W_block ?_
          refine W_seq ?_
          refine W_seq ?_
          obtain ⟨R21, hR21⟩ : ∃ RR_ : Fr → World → Prop, RR_ = fun f w_ => ∃ H19 : FH, Le H6 H19 ∧ f 1 = v1 ∧ f 2 = .pointer (some ⟨g3, 0, none⟩) ∧ f 5 = .int .i64 (i_5 : Int) ∧ f 27 = .bool ((decide (x_8 < 0)) || (decide (x_8 ≥ (m.sizes.length : Int)))) ∧ Star H19 w_ ([box g3 26 #[v0_0, v0_1]]) := ⟨_, rfl⟩
          refine W_join R21 ?_ ?_
          ·
            rcases Bool.eq_false_or_eq_true (decide (x_8 < 0)) with hc22 | hc22
            ·
              refine W_drawS 13 [isV (v1), isV (.int .i64 (i_5 : Int)), isEl RP.int x_8 0, isV (.int .i64 x_8), isV (.bool (decide (x_8 < 0))), isV (.bool (decide (x_8 < 0))), isV (undef), isV (undef), isV (undef), isV (undef), isV (undef), isV (undef), isV (undef)] [box g3 26 #[v0_0, v0_1]] [] ([]) [([], []), ([], []), ([], []), ([], []), ([], []), ([], []), ([], []), ([], []), ([], []), ([], []), ([], []), ([], []), ([], [])] (S := []) Try_mix (by kernel_rfl) rfl (by kernel_rfl) (amF_cons (mono_V _) (amF_cons (mono_V _) (amF_cons (mono_el _ _ _) (amF_cons (mono_V _) (amF_cons (mono_V _) (amF_cons (mono_V _) (amF_cons (mono_V _) (amF_cons (mono_V _) (amF_cons (mono_V _) (amF_cons (mono_V _) (amF_cons (mono_V _) (amF_cons (mono_V _) (amF_cons (mono_V _) amF_nil))))))))))))) hst ?_ (fun f w_ H18 hS18 hE18 hT18 hst => ?_)
              ·
                refine opsS_cons ?_ ?_
                ·
                  intro f w_ H18 X18 hS18 hE18 hP18 hst
                  refine L_mv (v := v1) rfl ((hS18 1 rfl).trans sf1) ?_
                  exact L_nil ⟨rfl, _, _, _, rfl, rfl, Le.refl _, rfl, hst⟩
                refine opsS_cons ?_ ?_
                ·
                  intro f w_ H18 X18 hS18 hE18 hP18 hst
                  refine L_mv (v := .int .i64 (i_5 : Int)) rfl ((hS18 5 rfl).trans sf5) ?_
                  exact L_nil ⟨rfl, _, _, _, rfl, rfl, Le.refl _, rfl, hst⟩
                refine opsS_cons ?_ ?_
                ·
                  intro f w_ H18 X18 hS18 hE18 hP18 hst
                  refine L_ix (r := RP.int) rfl Try.underlying23 Try.sizeOf3 (hP18 0 13 rfl rfl) (RP.mono _ h1 (Le.trans hle7 hE18)) (hP18 1 14 rfl rfl) hix8 ?_
                  intro g27 o28 cs_g27 hrk_hat29 hat29
                  obtain rfl : _ = [_] := hrk_hat29
                  exact L_nil ⟨rfl, _, _, _, rfl, rfl, Le.refl _, ⟨_, _, _, rfl, rfl, hat29⟩, hst⟩
                refine opsS_cons ?_ ?_
                ·
                  intro f w_ H18 X18 hS18 hE18 hP18 hst
                  obtain ⟨g31, o31, cs31, hv31, hrk_hat31, hat31⟩ := (hP18 2 15 rfl rfl)
                  obtain rfl : _ = [_] := hrk_hat31
                  refine L_ld (v := .int .i64 x_8) rfl Try.isAgg3 hv31 (At.cell (AtH.at hat31 hst.sub) (j := 0) rfl) ?_
                  exact L_nil ⟨rfl, _, _, _, rfl, rfl, Le.refl _, rfl, hst⟩
                refine opsS_cons ?_ ?_
                ·
                  intro f w_ H18 X18 hS18 hE18 hP18 hst
                  refine L_lss (m := x_8) (n := 0) rfl (hP18 3 16 rfl rfl) rfl ?_
                  exact L_nil ⟨rfl, _, _, _, rfl, rfl, Le.refl _, rfl, hst⟩
                refine opsS_cons ?_ ?_
                ·
                  intro f w_ H18 X18 hS18 hE18 hP18 hst
                  refine L_mv (v := .bool (decide (x_8 < 0))) rfl (hP18 4 17 rfl rfl) ?_
                  exact L_nil ⟨rfl, _, _, _, rfl, rfl, Le.refl _, rfl, hst⟩
                refine opsS_cons ?_ ?_
                ·
                  intro f w_ H18 X18 hS18 hE18 hP18 hst
                  refine L_pass (g_no rfl (Eq.trans (hP18 5 18 rfl rfl) (congrArg Value.bool hc22)) rfl rfl) ?_
                  exact L_nil ⟨rfl, _, _, _, rfl, rfl, Le.refl _, rfl, hst⟩
                refine opsS_cons ?_ ?_
                ·
                  intro f w_ H18 X18 hS18 hE18 hP18 hst
                  refine L_pass (g_no rfl (Eq.trans (hP18 5 18 rfl rfl) (congrArg Value.bool hc22)) rfl rfl) ?_
                  exact L_nil ⟨rfl, _, _, _, rfl, rfl, Le.refl _, rfl, hst⟩
                refine opsS_cons ?_ ?_
                ·
                  intro f w_ H18 X18 hS18 hE18 hP18 hst
                  refine L_pass (g_no rfl (Eq.trans (hP18 5 18 rfl rfl) (congrArg Value.bool hc22)) rfl rfl) ?_
                  exact L_nil ⟨rfl, _, _, _, rfl, rfl, Le.refl _, rfl, hst⟩
                refine opsS_cons ?_ ?_
                ·
                  intro f w_ H18 X18 hS18 hE18 hP18 hst
                  refine L_pass (g_no rfl (Eq.trans (hP18 5 18 rfl rfl) (congrArg Value.bool hc22)) rfl rfl) ?_
                  exact L_nil ⟨rfl, _, _, _, rfl, rfl, Le.refl _, rfl, hst⟩
                refine opsS_cons ?_ ?_
                ·
                  intro f w_ H18 X18 hS18 hE18 hP18 hst
                  refine L_pass (g_no rfl (Eq.trans (hP18 5 18 rfl rfl) (congrArg Value.bool hc22)) rfl rfl) ?_
                  exact L_nil ⟨rfl, _, _, _, rfl, rfl, Le.refl _, rfl, hst⟩
                refine opsS_cons ?_ ?_
                ·
                  intro f w_ H18 X18 hS18 hE18 hP18 hst
                  refine L_pass (g_no rfl (Eq.trans (hP18 5 18 rfl rfl) (congrArg Value.bool hc22)) rfl rfl) ?_
                  exact L_nil ⟨rfl, _, _, _, rfl, rfl, Le.refl _, rfl, hst⟩
                refine opsS_cons ?_ ?_
                ·
                  intro f w_ H18 X18 hS18 hE18 hP18 hst
                  refine L_pass (g_no rfl (Eq.trans (hP18 5 18 rfl rfl) (congrArg Value.bool hc22)) rfl rfl) ?_
                  exact L_nil ⟨rfl, _, _, _, rfl, rfl, Le.refl _, rfl, hst⟩
                exact opsS_nil
              ·
                refine L_pass (g_no rfl (Eq.trans (hT18 5 18 rfl rfl) (congrArg Value.bool hc22)) rfl rfl) ?_
                refine L_pick (v := .bool ((decide (x_8 < 0)) || (decide (x_8 ≥ (m.sizes.length : Int))))) rfl (Eq.trans (hT18 5 18 rfl rfl) (congrArg Value.bool hc22)) (or_t hc22) ?_
                refine L_nil ?_
                show R21 _ _
                rw [hR21]
                exact ⟨H18, hE18, ((hS18 1 rfl).trans sf1), ((hS18 2 rfl).trans sf2), ((hS18 5 rfl).trans sf5), rfl, hst⟩
            ·
              refine W_drawS 13 [isV (v1), isV (.int .i64 (i_5 : Int)), isEl RP.int x_8 0, isV (.int .i64 x_8), isV (.bool (decide (x_8 < 0))), isV (.bool (decide (x_8 < 0))), isV (v1), isV (.int .i64 (i_5 : Int)), isEl RP.int x_8 0, isV (.int .i64 x_8), isV (.pointer (some ⟨g3, 0, none⟩)), isV (v0_0), isV (.int .i64 (m.sizes.length : Int))] [box g3 26 #[v0_0, v0_1]] [] ([]) [([], []), ([], []), ([], []), ([], []), ([], []), ([], []), ([], []), ([], []), ([], []), ([], []), ([], []), ([], []), ([], [])] (S := []) Try_mix (by kernel_rfl) rfl (by kernel_rfl) (amF_cons (mono_V _) (amF_cons (mono_V _) (amF_cons (mono_el _ _ _) (amF_cons (mono_V _) (amF_cons (mono_V _) (amF_cons (mono_V _) (amF_cons (mono_V _) (amF_cons (mono_V _) (amF_cons (mono_el _ _ _) (amF_cons (mono_V _) (amF_cons (mono_V _) (amF_cons (mono_V _) (amF_cons (mono_V _) amF_nil))))))))))))) hst ?_ (fun f w_ H18 hS18 hE18 hT18 hst => ?_)
              ·
                refine opsS_cons ?_ ?_
                ·
                  intro f w_ H18 X18 hS18 hE18 hP18 hst
                  refine L_mv (v := v1) rfl ((hS18 1 rfl).trans sf1) ?_
                  exact L_nil ⟨rfl, _, _, _, rfl, rfl, Le.refl _, rfl, hst⟩
                refine opsS_cons ?_ ?_
                ·
                  intro f w_ H18 X18 hS18 hE18 hP18 hst
                  refine L_mv (v := .int .i64 (i_5 : Int)) rfl ((hS18 5 rfl).trans sf5) ?_
                  exact L_nil ⟨rfl, _, _, _, rfl, rfl, Le.refl _, rfl, hst⟩
                refine opsS_cons ?_ ?_
                ·
                  intro f w_ H18 X18 hS18 hE18 hP18 hst
                  refine L_ix (r := RP.int) rfl Try.underlying23 Try.sizeOf3 (hP18 0 13 rfl rfl) (RP.mono _ h1 (Le.trans hle7 hE18)) (hP18 1 14 rfl rfl) hix8 ?_
                  intro g41 o42 cs_g41 hrk_hat43 hat43
                  obtain rfl : _ = [_] := hrk_hat43
                  exact L_nil ⟨rfl, _, _, _, rfl, rfl, Le.refl _, ⟨_, _, _, rfl, rfl, hat43⟩, hst⟩
                refine opsS_cons ?_ ?_
                ·
                  intro f w_ H18 X18 hS18 hE18 hP18 hst
                  obtain ⟨g45, o45, cs45, hv45, hrk_hat45, hat45⟩ := (hP18 2 15 rfl rfl)
                  obtain rfl : _ = [_] := hrk_hat45
                  refine L_ld (v := .int .i64 x_8) rfl Try.isAgg3 hv45 (At.cell (AtH.at hat45 hst.sub) (j := 0) rfl) ?_
                  exact L_nil ⟨rfl, _, _, _, rfl, rfl, Le.refl _, rfl, hst⟩
                refine opsS_cons ?_ ?_
                ·
                  intro f w_ H18 X18 hS18 hE18 hP18 hst
                  refine L_lss (m := x_8) (n := 0) rfl (hP18 3 16 rfl rfl) rfl ?_
                  exact L_nil ⟨rfl, _, _, _, rfl, rfl, Le.refl _, rfl, hst⟩
                refine opsS_cons ?_ ?_
                ·
                  intro f w_ H18 X18 hS18 hE18 hP18 hst
                  refine L_mv (v := .bool (decide (x_8 < 0))) rfl (hP18 4 17 rfl rfl) ?_
                  exact L_nil ⟨rfl, _, _, _, rfl, rfl, Le.refl _, rfl, hst⟩
                refine opsS_cons ?_ ?_
                ·
                  intro f w_ H18 X18 hS18 hE18 hP18 hst
                  refine L_mv (v := v1) (g_yes rfl (Eq.trans (hP18 5 18 rfl rfl) (congrArg Value.bool hc22)) rfl) ((hS18 1 rfl).trans sf1) ?_
                  exact L_nil ⟨rfl, _, _, _, rfl, rfl, Le.refl _, rfl, hst⟩
                refine opsS_cons ?_ ?_
                ·
                  intro f w_ H18 X18 hS18 hE18 hP18 hst
                  refine L_mv (v := .int .i64 (i_5 : Int)) (g_yes rfl (Eq.trans (hP18 5 18 rfl rfl) (congrArg Value.bool hc22)) rfl) ((hS18 5 rfl).trans sf5) ?_
                  exact L_nil ⟨rfl, _, _, _, rfl, rfl, Le.refl _, rfl, hst⟩
                refine opsS_cons ?_ ?_
                ·
                  intro f w_ H18 X18 hS18 hE18 hP18 hst
                  refine L_ix (r := RP.int) (g_yes rfl (Eq.trans (hP18 5 18 rfl rfl) (congrArg Value.bool hc22)) rfl) Try.underlying23 Try.sizeOf3 (hP18 6 19 rfl rfl) (RP.mono _ h1 (Le.trans hle7 hE18)) (hP18 7 20 rfl rfl) hix8 ?_
                  intro g47 o48 cs_g47 hrk_hat49 hat49
                  obtain rfl : _ = [_] := hrk_hat49
                  exact L_nil ⟨rfl, _, _, _, rfl, rfl, Le.refl _, ⟨_, _, _, rfl, rfl, hat49⟩, hst⟩
                refine opsS_cons ?_ ?_
                ·
                  intro f w_ H18 X18 hS18 hE18 hP18 hst
                  obtain ⟨g51, o51, cs51, hv51, hrk_hat51, hat51⟩ := (hP18 8 21 rfl rfl)
                  obtain rfl : _ = [_] := hrk_hat51
                  refine L_ld (v := .int .i64 x_8) (g_yes rfl (Eq.trans (hP18 5 18 rfl rfl) (congrArg Value.bool hc22)) rfl) Try.isAgg3 hv51 (At.cell (AtH.at hat51 hst.sub) (j := 0) rfl) ?_
                  exact L_nil ⟨rfl, _, _, _, rfl, rfl, Le.refl _, rfl, hst⟩
                refine opsS_cons ?_ ?_
                ·
                  intro f w_ H18 X18 hS18 hE18 hP18 hst
                  refine L_fa (o' := 0) (g_yes rfl (Eq.trans (hP18 5 18 rfl rfl) (congrArg Value.bool hc22)) rfl) fa_26_0 ((hS18 2 rfl).trans sf2) rfl ?_
                  exact L_nil ⟨rfl, _, _, _, rfl, rfl, Le.refl _, rfl, hst⟩
                refine opsS_cons ?_ ?_
                ·
                  intro f w_ H18 X18 hS18 hE18 hP18 hst
                  refine L_ld (v := v0_0) (g_yes rfl (Eq.trans (hP18 5 18 rfl rfl) (congrArg Value.bool hc22)) rfl) Try.isAgg23 (hP18 10 23 rfl rfl) (At.cell0 (Blk.at (Star.blkAt 0 hst rfl)) (j := 0) rfl) ?_
                  exact L_nil ⟨rfl, _, _, _, rfl, rfl, Le.refl _, rfl, hst⟩
                refine opsS_cons ?_ ?_
                ·
                  intro f w_ H18 X18 hS18 hE18 hP18 hst
                  refine L_len (v := v0_0) (n := List.length m.sizes) (g_yes rfl (Eq.trans (hP18 5 18 rfl rfl) (congrArg Value.bool hc22)) rfl) Try.underlying23 (hP18 11 24 rfl rfl) (slice_len (RP.mono _ h0_0 (Le.trans hle7 hE18))) ?_
                  exact L_nil ⟨rfl, _, _, _, rfl, rfl, Le.refl _, rfl, hst⟩
                exact opsS_nil
              ·
                refine L_geq (m := x_8) (n := (m.sizes.length : Int)) (g_yes rfl (Eq.trans (hT18 5 18 rfl rfl) (congrArg Value.bool hc22)) rfl) (hT18 9 22 rfl rfl) (hT18 12 25 rfl rfl) ?_
                refine L_pick (v := .bool ((decide (x_8 < 0)) || (decide (x_8 ≥ (m.sizes.length : Int))))) rfl (Eq.trans (hT18 5 18 rfl rfl) (congrArg Value.bool hc22)) (or_f hc22 rfl) ?_
                refine L_nil ?_
                show R21 _ _
                rw [hR21]
                exact ⟨H18, hE18, ((hS18 1 rfl).trans sf1), ((hS18 2 rfl).trans sf2), ((hS18 5 rfl).trans sf5), rfl, hst⟩
          ·
            intro f w_ hR
            rw [hR21] at hR
            obtain ⟨H19, hle20, sf1, sf2, sf5, sf27, hst⟩ := hR
            clear hR21
            refine W_cond (b := ((decide (x_8 < 0)) || (decide (x_8 ≥ (m.sizes.length : Int))))) sf27 (fun hc53 => ?_) (fun hc53 => ?_)
            ·
              have hB8 := (ite_t hc53).symm.trans hB8
              refine W_seq ?_
              refine W_region ?_
              refine L_as (v := .bool false) rfl rfl ?_
              refine L_nil ?_
              refine W_ret ?_
              refine retG1 (v1 := .bool false) Try.results98 rfl ?_
              obtain rfl := so hB8
              obtain rfl := so hL8
              obtain rfl := so hF
              exact ⟨rfl, (Star.down (Star.keepN 0 hst) (Le.trans hle7 hle20) closedL_nil)⟩
            ·
              have hB8 := (ite_f hc53).symm.trans hB8
              refine W_skip ?_
              refine W_seq ?_
              refine W_region ?_
              refine L_as (v := .int .i64 0) rfl rfl ?_
              refine L_nil ?_
              obtain ⟨k58, hk58, hB8⟩ := bind_some hB8
              obtain ⟨j57, hL57, hB8⟩ := bind_some hB8
              obtain ⟨R57, hR57⟩ : ∃ RR_ : Fr → World → Prop, RR_ = fun f w_ => ∃ H55 : FH, j57 = .nx () ∧ Le H19 H55 ∧ f 1 = v1 ∧ f 2 = .pointer (some ⟨g3, 0, none⟩) ∧ f 5 = .int .i64 (i_5 : Int) ∧ Star H55 w_ ([box g3 26 #[v0_0, v0_1]]) := ⟨_, rfl⟩
              refine W_join R57 ?_ ?_
              ·
                refine W_block ?_
                obtain ⟨I57, hI57⟩ : ∃ I : Nat → Fr → World → Prop, I = fun n f w_ => ∃ i_54 : Nat, ∃ suf57 : Nat, ∃ H55 : FH, suf57 = n ∧ 0 ≤ i_54 ∧ i_54 + suf57 = 0 + k58 ∧ countL (s_l6Vars_b2 list x_8) suf57 i_54 () = some j57 ∧ Le H19 H55 ∧ f 1 = v1 ∧ f 2 = .pointer (some ⟨g3, 0, none⟩) ∧ f 5 = .int .i64 (i_5 : Int) ∧ f 6 = .int .i64 (i_54 : Int) ∧ Star H55 w_ ([box g3 26 #[v0_0, v0_1]]) := ⟨_, rfl⟩
                refine W_loop I57 (n := k58) ?_ ?_
                · rw [hI57]; exact ⟨0, k58, H19, rfl, Nat.le_refl _, rfl, hL57, (Le.refl _), sf1, sf2, sf5, rfl, hst⟩
                ·
                  clear hst
                  intro n57 f w_ hI
                  rw [hI57] at hI
                  obtain ⟨i_54, suf57, H55, rfl, hs57, hl57, hL57, hle56, sf1, sf2, sf5, sf6, hst⟩ := hI
                  refine W_seq ?_
                  refine W_seq ?_
                  refine W_region ?_
                  refine L_mv (v := .int .i64 (i_54 : Int)) rfl sf6 ?_
                  refine L_mv (v := .int .i64 (i_5 : Int)) rfl sf5 ?_
                  refine L_lss (m := (i_54 : Int)) (n := (i_5 : Int)) rfl rfl rfl ?_
                  refine L_nil ?_
                  refine W_cond (b := decide ((i_54 : Int) < (i_5 : Int))) rfl (fun hc59 => ?_) (fun hc59 => ?_)
                  ·
                    have hlt57 := of_decide_eq_true hc59
                    cases suf57 with
                    | zero => exact absurd hlt57 (cntF_no hl57 hk58)
                    | succ rest57 =>
                      obtain ⟨o57, hB57, hL57⟩ := count_succ hL57
                      rw [s_l6Vars_b2] at hB57
                      refine W_skip ?_
                      refine W_seq ?_
                      refine W_block ?_
                      refine W_seq ?_
                      obtain ⟨x60, hx60, hB57⟩ := bind_some hB57
                      refine W_drawS 8 [isV (v1), isV (.int .i64 (i_54 : Int)), isEl RP.int x60 0, isV (.int .i64 x60), isV (v1), isV (.int .i64 (i_5 : Int)), isEl RP.int x_8 0, isV (.int .i64 x_8)] [box g3 26 #[v0_0, v0_1]] [] ([]) [([], []), ([], []), ([], []), ([], []), ([], []), ([], []), ([], []), ([], [])] (S := []) Try_mix (by kernel_rfl) rfl (by kernel_rfl) (amF_cons (mono_V _) (amF_cons (mono_V _) (amF_cons (mono_el _ _ _) (amF_cons (mono_V _) (amF_cons (mono_V _) (amF_cons (mono_V _) (amF_cons (mono_el _ _ _) (amF_cons (mono_V _) amF_nil)))))))) hst ?_ (fun f w_ H69 hS69 hE69 hT69 hst => ?_)
                      ·
                        refine opsS_cons ?_ ?_
                        ·
                          intro f w_ H69 X69 hS69 hE69 hP69 hst
                          refine L_mv (v := v1) rfl ((hS69 1 rfl).trans sf1) ?_
                          exact L_nil ⟨rfl, _, _, _, rfl, rfl, Le.refl _, rfl, hst⟩
                        refine opsS_cons ?_ ?_
                        ·
                          intro f w_ H69 X69 hS69 hE69 hP69 hst
                          refine L_mv (v := .int .i64 (i_54 : Int)) rfl ((hS69 6 rfl).trans sf6) ?_
                          exact L_nil ⟨rfl, _, _, _, rfl, rfl, Le.refl _, rfl, hst⟩
                        refine opsS_cons ?_ ?_
                        ·
                          intro f w_ H69 X69 hS69 hE69 hP69 hst
                          refine L_ix (r := RP.int) rfl Try.underlying23 Try.sizeOf3 (hP69 0 33 rfl rfl) (RP.mono _ h1 (Le.trans (Le.trans (Le.trans hle7 hle20) hle56) hE69)) (hP69 1 34 rfl rfl) hx60 ?_
                          intro g78 o79 cs_g78 hrk_hat80 hat80
                          obtain rfl : _ = [_] := hrk_hat80
                          exact L_nil ⟨rfl, _, _, _, rfl, rfl, Le.refl _, ⟨_, _, _, rfl, rfl, hat80⟩, hst⟩
                        refine opsS_cons ?_ ?_
                        ·
                          intro f w_ H69 X69 hS69 hE69 hP69 hst
                          obtain ⟨g82, o82, cs82, hv82, hrk_hat82, hat82⟩ := (hP69 2 35 rfl rfl)
                          obtain rfl : _ = [_] := hrk_hat82
                          refine L_ld (v := .int .i64 x60) rfl Try.isAgg3 hv82 (At.cell (AtH.at hat82 hst.sub) (j := 0) rfl) ?_
                          exact L_nil ⟨rfl, _, _, _, rfl, rfl, Le.refl _, rfl, hst⟩
                        refine opsS_cons ?_ ?_
                        ·
                          intro f w_ H69 X69 hS69 hE69 hP69 hst
                          refine L_mv (v := v1) rfl ((hS69 1 rfl).trans sf1) ?_
                          exact L_nil ⟨rfl, _, _, _, rfl, rfl, Le.refl _, rfl, hst⟩
                        refine opsS_cons ?_ ?_
                        ·
                          intro f w_ H69 X69 hS69 hE69 hP69 hst
                          refine L_mv (v := .int .i64 (i_5 : Int)) rfl ((hS69 5 rfl).trans sf5) ?_
                          exact L_nil ⟨rfl, _, _, _, rfl, rfl, Le.refl _, rfl, hst⟩
                        refine opsS_cons ?_ ?_
                        ·
                          intro f w_ H69 X69 hS69 hE69 hP69 hst
                          refine L_ix (r := RP.int) rfl Try.underlying23 Try.sizeOf3 (hP69 4 37 rfl rfl) (RP.mono _ h1 (Le.trans (Le.trans (Le.trans hle7 hle20) hle56) hE69)) (hP69 5 38 rfl rfl) hix8 ?_
                          intro g84 o85 cs_g84 hrk_hat86 hat86
                          obtain rfl : _ = [_] := hrk_hat86
                          exact L_nil ⟨rfl, _, _, _, rfl, rfl, Le.refl _, ⟨_, _, _, rfl, rfl, hat86⟩, hst⟩
                        refine opsS_cons ?_ ?_
                        ·
                          intro f w_ H69 X69 hS69 hE69 hP69 hst
                          obtain ⟨g88, o88, cs88, hv88, hrk_hat88, hat88⟩ := (hP69 6 39 rfl rfl)
                          obtain rfl : _ = [_] := hrk_hat88
                          refine L_ld (v := .int .i64 x_8) rfl Try.isAgg3 hv88 (At.cell (AtH.at hat88 hst.sub) (j := 0) rfl) ?_
                          exact L_nil ⟨rfl, _, _, _, rfl, rfl, Le.refl _, rfl, hst⟩
                        exact opsS_nil
                      ·
                        refine L_eql (m := x60) (n := x_8) rfl (hT69 3 36 rfl rfl) (hT69 7 40 rfl rfl) ?_
                        refine L_nil ?_
                        refine W_cond (b := (x60 == x_8)) rfl (fun hc90 => ?_) (fun hc90 => ?_)
                        ·
                          have hB57 := (ite_t hc90).symm.trans hB57
                          refine W_seq ?_
                          refine W_region ?_
                          refine L_as (v := .bool false) rfl rfl ?_
                          refine L_nil ?_
                          refine W_ret ?_
                          refine retG1 (v1 := .bool false) Try.results98 rfl ?_
                          obtain rfl := so hB57
                          obtain rfl := so hL57
                          obtain rfl := so hB8
                          obtain rfl := so hL8
                          obtain rfl := so hF
                          exact ⟨rfl, (Star.down (Star.keepN 0 hst) (Le.trans (Le.trans (Le.trans hle7 hle20) hle56) hE69) closedL_nil)⟩
                        ·
                          have hB57 := (ite_f hc90).symm.trans hB57
                          refine W_skip ?_
                          refine W_region ?_
                          refine L_mv (v := .int .i64 (i_54 : Int)) rfl ((hS69 6 rfl).trans sf6) ?_
                          refine L_add (m := (i_54 : Int)) (n := 1) rfl rfl rfl ?_
                          refine L_as (v := .int .i64 (i64 ((i_54 : Int) + 1))) rfl rfl ?_
                          refine L_nil ?_
                          obtain rfl := so hB57
                          show ∃ m, m < _ ∧ I57 m _ _
                          refine ⟨rest57, Nat.lt_succ_self _, ?_⟩
                          rw [hI57]
                          exact ⟨i_54 + 1, rest57, H69, rfl, by omega, by omega, hL57, (Le.trans hle56 hE69), ((hS69 1 rfl).trans sf1), ((hS69 2 rfl).trans sf2), ((hS69 5 rfl).trans sf5), (Eq.trans rfl (congrArg (Value.int .i64) (i64_succ (n := 0 + k58) (by omega) (cntF_le hk58)))), hst⟩
                  ·
                    cases suf57 with
                    | succ _ => exact absurd (cntF_yes hs57 hl57 hk58) (of_decide_eq_false hc59)
                    | zero =>
                      obtain rfl := count_zero hL57
                      refine W_exit ?_
                      show R57 _ _
                      rw [hR57]
                      exact ⟨H55, rfl, hle56, sf1, sf2, sf5, hst⟩
              ·
                clear hst
                intro f w_ hR
                rw [hR57] at hR
                obtain ⟨H55, rfl, hle56, sf1, sf2, sf5, hst⟩ := hR
                clear hR57
                refine W_region ?_
                refine L_mv (v := .int .i64 (i_5 : Int)) rfl sf5 ?_
                refine L_add (m := (i_5 : Int)) (n := 1) rfl rfl rfl ?_
                refine L_as (v := .int .i64 (i64 ((i_5 : Int) + 1))) rfl rfl ?_
                refine L_nil ?_
                obtain rfl := so hB8
                show ∃ m, m < _ ∧ I8 m _ _
                refine ⟨rest8.length, by simp, ?_⟩
                rw [hI8]
                exact ⟨i_5 + 1, rest8, H55, rfl, drop_next hd8, by simp at hl8; omega, hL8, (Le.trans (Le.trans hle7 hle20) hle56), sf1, sf2, (Eq.trans rfl (congrArg (Value.int .i64) (i64_succ (n := list.length) (by simp at hl8; omega) hlen8))), hst⟩
      ·
        cases suf8 with
        | cons _ _ => exact absurd (of_decide_eq_false hc9) (by simp at hl8; omega)
        | nil =>
          obtain rfl := range_nil hL8
          refine W_exit ?_
          show R8 _ _
          rw [hR8]
          exact ⟨H6, rfl, hle7, sf1, (Star.keepN 0 hst)⟩
  ·
    clear hst
    intro f w_ hR
    rw [hR8] at hR
    obtain ⟨H6, rfl, hle7, sf1, hst⟩ := hR
    clear hR8
    refine W_seq ?_
    refine W_region ?_
    refine L_mv (v := v1) rfl sf1 ?_
    refine L_len (v := v1) (n := List.length list) rfl Try.underlying23 rfl (slice_len (RP.mono _ h1 hle7)) ?_
    refine L_geq (m := (list.length : Int)) (n := 1) rfl rfl rfl ?_
    refine L_as (v := .bool (decide ((list.length : Int) ≥ 1))) rfl rfl ?_
    refine L_nil ?_
    refine W_ret ?_
    refine retG1 (v1 := .bool (decide ((list.length : Int) ≥ 1))) Try.results98 rfl ?_
    obtain rfl := so hF
    exact ⟨rfl, (Star.down hst hle7 closedL_nil)⟩

theorem s_l6Linear_c {r_ : Rule} {v0_1 : Value} {v0_2 : Value} {v0_4 : Value} {H : FH} {w : World} (hst : Star H w []) (h0_1 : (RP.slice 3 RP.int).rel H [v0_1] r_.vars) (h0_2 : (RP.slice 3 RP.int).rel H [v0_2] r_.coefs) (h0_4 : (RP.slice 23 (RP.slice 3 RP.int)).rel H [v0_4] r_.rows) {r : Bool} (hF : s_l6Linear r_ = some r) :
    C Try.prog 99 #[.agg #[.int .i64 r_.kind, v0_1, v0_2, .int .i64 r_.bound, v0_4]] w fun v w' => v = .bool r ∧ Star H w' [] := by
  unfold s_l6Linear at hF
  refine C_enter Try.func99 rfl Try.ntmps99 rfl ?_
  refine W_seq ?_
  refine W_region ?_
  refine L_box (v := .agg #[.int .i64 r_.kind, v0_1, v0_2, .int .i64 r_.bound, v0_4]) (cs := #[.int .i64 r_.kind, v0_1, v0_2, .int .i64 r_.bound, v0_4]) rfl rfl rfl hst ?_
  intro g3 w4 hst
  refine L_as (v := .bool false) rfl rfl ?_
  refine L_nil ?_
  refine W_seq ?_
  refine W_seq ?_
  refine W_region ?_
  refine L_as (v := .int .i64 0) rfl rfl ?_
  refine L_nil ?_
  have hlen6 : List.length r_.coefs ≤ 9223372036854775807 := len_le (slice_len h0_2)
  obtain ⟨j6, hL6, hF⟩ := bind_some hF
  obtain ⟨R6, hR6⟩ : ∃ RR_ : Fr → World → Prop, RR_ = fun f w_ => j6 = .nx () ∧ f 1 = .pointer (some ⟨g3, 0, none⟩) ∧ Star H w_ ([box g3 36 #[.int .i64 r_.kind, v0_1, v0_2, .int .i64 r_.bound, v0_4]]) := ⟨_, rfl⟩
  refine W_join R6 ?_ ?_
  ·
    refine W_block ?_
    obtain ⟨I6, hI6⟩ : ∃ I : Nat → Fr → World → Prop, I = fun n f w_ => ∃ i_5 : Nat, ∃ suf6 : List Int, n = suf6.length ∧ List.drop i_5 r_.coefs = suf6 ∧ i_5 + suf6.length = r_.coefs.length ∧ rangeL s_l6Linear_b1 suf6 i_5 () = some j6 ∧ f 1 = .pointer (some ⟨g3, 0, none⟩) ∧ f 3 = .int .i64 (i_5 : Int) ∧ Star H w_ ([box g3 36 #[.int .i64 r_.kind, v0_1, v0_2, .int .i64 r_.bound, v0_4]]) := ⟨_, rfl⟩
    refine W_loop I6 (n := r_.coefs.length) ?_ ?_
    · rw [hI6]; exact ⟨0, r_.coefs, rfl, rfl, Nat.zero_add _, hL6, rfl, rfl, hst⟩
    ·
      clear hst
      intro n6 f w_ hI
      rw [hI6] at hI
      obtain ⟨i_5, suf6, rfl, hd6, hl6, hL6, sf1, sf3, hst⟩ := hI
      refine W_seq ?_
      refine W_seq ?_
      refine W_region ?_
      refine L_mv (v := .int .i64 (i_5 : Int)) rfl sf3 ?_
      refine L_fa (o' := 2) rfl fa_36_2 sf1 rfl ?_
      refine L_ld (v := v0_2) rfl Try.isAgg23 rfl (At.cell0 (Blk.at (Star.blkAt 0 hst rfl)) (j := 2) rfl) ?_
      refine L_len (v := v0_2) (n := List.length r_.coefs) rfl Try.underlying23 rfl (slice_len h0_2) ?_
      refine L_lss (m := (i_5 : Int)) (n := (r_.coefs.length : Int)) rfl rfl rfl ?_
      refine L_nil ?_
      refine W_cond (b := decide ((i_5 : Int) < (r_.coefs.length : Int))) rfl (fun hc7 => ?_) (fun hc7 => ?_)
      ·
        have hlt6 := of_decide_eq_true hc7
        cases suf6 with
        | nil => exact absurd hlt6 (by simp at hl6; omega)
        | cons x_6 rest6 =>
          obtain ⟨o6, hB6, hL6⟩ := range_cons hL6
          rw [s_l6Linear_b1] at hB6
          have hix6 := drop_idx hd6
          refine W_skip ?_
          refine W_seq ?_
          refine W_block ?_
          refine W_seq ?_
          obtain ⟨R20, hR20⟩ : ∃ RR_ : Fr → World → Prop, RR_ = fun f w_ => f 1 = .pointer (some ⟨g3, 0, none⟩) ∧ f 3 = .int .i64 (i_5 : Int) ∧ f 32 = .bool (((decide (x_6 < (-9))) || (decide (x_6 > 9))) || (x_6 == 0)) ∧ Star H w_ ([box g3 36 #[.int .i64 r_.kind, v0_1, v0_2, .int .i64 r_.bound, v0_4]]) := ⟨_, rfl⟩
          refine W_join R20 ?_ ?_
          ·
            refine W_region ?_
            refine L_fa (o' := 2) rfl fa_36_2 sf1 rfl ?_
            refine L_ld (v := v0_2) rfl Try.isAgg23 rfl (At.cell0 (Blk.at (Star.blkAt 0 hst rfl)) (j := 2) rfl) ?_
            refine L_mv (v := .int .i64 (i_5 : Int)) rfl sf3 ?_
            refine L_ix (r := RP.int) rfl Try.underlying23 Try.sizeOf3 rfl h0_2 rfl hix6 ?_
            intro g21 o22 cs_g21 hrk_hat23 hat23
            obtain rfl : _ = [_] := hrk_hat23
            refine L_ld (v := .int .i64 x_6) rfl Try.isAgg3 rfl (At.cell (AtH.at hat23 hst.sub) (j := 0) rfl) ?_
            refine L_lss (m := x_6) (n := (-9)) rfl rfl rfl ?_
            refine L_mv (v := .bool (decide (x_6 < (-9)))) rfl rfl ?_
            refine L_split (d := 17) (b := decide (x_6 < (-9))) rfl (fun hc25 => ?_) (fun hc25 => ?_)
            ·
              refine L_pass rfl ?_
              refine L_pass rfl ?_
              refine L_pass rfl ?_
              refine L_pass rfl ?_
              refine L_pass rfl ?_
              refine L_pass rfl ?_
              refine L_pick (v := .bool ((decide (x_6 < (-9))) || (decide (x_6 > 9)))) rfl rfl (or_t hc25) ?_
              refine L_mv (v := .bool ((decide (x_6 < (-9))) || (decide (x_6 > 9)))) rfl rfl ?_
              refine L_split (d := 25) (b := ((decide (x_6 < (-9))) || (decide (x_6 > 9)))) rfl (fun hc26 => ?_) (fun hc26 => ?_)
              ·
                refine L_pass rfl ?_
                refine L_pass rfl ?_
                refine L_pass rfl ?_
                refine L_pass rfl ?_
                refine L_pass rfl ?_
                refine L_pass rfl ?_
                refine L_pick (v := .bool (((decide (x_6 < (-9))) || (decide (x_6 > 9))) || (x_6 == 0))) rfl rfl (or_t hc26) ?_
                refine L_nil ?_
                show R20 _ _
                rw [hR20]
                exact ⟨sf1, sf3, rfl, hst⟩
              ·
                refine L_fa (o' := 2) rfl fa_36_2 sf1 rfl ?_
                refine L_ld (v := v0_2) rfl Try.isAgg23 rfl (At.cell0 (Blk.at (Star.blkAt 0 hst rfl)) (j := 2) rfl) ?_
                refine L_mv (v := .int .i64 (i_5 : Int)) rfl sf3 ?_
                refine L_ix (r := RP.int) rfl Try.underlying23 Try.sizeOf3 rfl h0_2 rfl hix6 ?_
                intro g27 o28 cs_g27 hrk_hat29 hat29
                obtain rfl : _ = [_] := hrk_hat29
                refine L_ld (v := .int .i64 x_6) rfl Try.isAgg3 rfl (At.cell (AtH.at hat29 hst.sub) (j := 0) rfl) ?_
                refine L_eql (m := x_6) (n := 0) rfl rfl rfl ?_
                refine L_pick (v := .bool (((decide (x_6 < (-9))) || (decide (x_6 > 9))) || (x_6 == 0))) rfl rfl (or_f hc26 rfl) ?_
                refine L_nil ?_
                show R20 _ _
                rw [hR20]
                exact ⟨sf1, sf3, rfl, hst⟩
            ·
              refine L_fa (o' := 2) rfl fa_36_2 sf1 rfl ?_
              refine L_ld (v := v0_2) rfl Try.isAgg23 rfl (At.cell0 (Blk.at (Star.blkAt 0 hst rfl)) (j := 2) rfl) ?_
              refine L_mv (v := .int .i64 (i_5 : Int)) rfl sf3 ?_
              refine L_ix (r := RP.int) rfl Try.underlying23 Try.sizeOf3 rfl h0_2 rfl hix6 ?_
              intro g31 o32 cs_g31 hrk_hat33 hat33
              obtain rfl : _ = [_] := hrk_hat33
              refine L_ld (v := .int .i64 x_6) rfl Try.isAgg3 rfl (At.cell (AtH.at hat33 hst.sub) (j := 0) rfl) ?_
              refine L_gtr (m := x_6) (n := 9) rfl rfl rfl ?_
              refine L_pick (v := .bool ((decide (x_6 < (-9))) || (decide (x_6 > 9)))) rfl rfl (or_f hc25 rfl) ?_
              refine L_mv (v := .bool ((decide (x_6 < (-9))) || (decide (x_6 > 9)))) rfl rfl ?_
              refine L_split (d := 25) (b := ((decide (x_6 < (-9))) || (decide (x_6 > 9)))) rfl (fun hc35 => ?_) (fun hc35 => ?_)
              ·
                refine L_pass rfl ?_
                refine L_pass rfl ?_
                refine L_pass rfl ?_
                refine L_pass rfl ?_
                refine L_pass rfl ?_
                refine L_pass rfl ?_
                refine L_pick (v := .bool (((decide (x_6 < (-9))) || (decide (x_6 > 9))) || (x_6 == 0))) rfl rfl (or_t hc35) ?_
                refine L_nil ?_
                show R20 _ _
                rw [hR20]
                exact ⟨sf1, sf3, rfl, hst⟩
              ·
                refine L_fa (o' := 2) rfl fa_36_2 sf1 rfl ?_
                refine L_ld (v := v0_2) rfl Try.isAgg23 rfl (At.cell0 (Blk.at (Star.blkAt 0 hst rfl)) (j := 2) rfl) ?_
                refine L_mv (v := .int .i64 (i_5 : Int)) rfl sf3 ?_
                refine L_ix (r := RP.int) rfl Try.underlying23 Try.sizeOf3 rfl h0_2 rfl hix6 ?_
                intro g36 o37 cs_g36 hrk_hat38 hat38
                obtain rfl : _ = [_] := hrk_hat38
                refine L_ld (v := .int .i64 x_6) rfl Try.isAgg3 rfl (At.cell (AtH.at hat38 hst.sub) (j := 0) rfl) ?_
                refine L_eql (m := x_6) (n := 0) rfl rfl rfl ?_
                refine L_pick (v := .bool (((decide (x_6 < (-9))) || (decide (x_6 > 9))) || (x_6 == 0))) rfl rfl (or_f hc35 rfl) ?_
                refine L_nil ?_
                show R20 _ _
                rw [hR20]
                exact ⟨sf1, sf3, rfl, hst⟩
          ·
            intro f w_ hR
            rw [hR20] at hR
            obtain ⟨sf1, sf3, sf32, hst⟩ := hR
            clear hR20
            refine W_cond (b := (((decide (x_6 < (-9))) || (decide (x_6 > 9))) || (x_6 == 0))) sf32 (fun hc40 => ?_) (fun hc40 => ?_)
            ·
              have hB6 := (ite_t hc40).symm.trans hB6
              refine W_seq ?_
              refine W_region ?_
              refine L_as (v := .bool false) rfl rfl ?_
              refine L_nil ?_
              refine W_ret ?_
              refine retG1 (v1 := .bool false) Try.results99 rfl ?_
              obtain rfl := so hB6
              obtain rfl := so hL6
              obtain rfl := so hF
              exact ⟨rfl, (Star.keepN 0 hst)⟩
            ·
              have hB6 := (ite_f hc40).symm.trans hB6
              refine W_skip ?_
              refine W_region ?_
              refine L_mv (v := .int .i64 (i_5 : Int)) rfl sf3 ?_
              refine L_add (m := (i_5 : Int)) (n := 1) rfl rfl rfl ?_
              refine L_as (v := .int .i64 (i64 ((i_5 : Int) + 1))) rfl rfl ?_
              refine L_nil ?_
              obtain rfl := so hB6
              show ∃ m, m < _ ∧ I6 m _ _
              refine ⟨rest6.length, by simp, ?_⟩
              rw [hI6]
              exact ⟨i_5 + 1, rest6, rfl, drop_next hd6, by simp at hl6; omega, hL6, sf1, (Eq.trans rfl (congrArg (Value.int .i64) (i64_succ (n := r_.coefs.length) (by simp at hl6; omega) hlen6))), hst⟩
      ·
        cases suf6 with
        | cons _ _ => exact absurd (of_decide_eq_false hc7) (by simp at hl6; omega)
        | nil =>
          obtain rfl := range_nil hL6
          refine W_exit ?_
          show R6 _ _
          rw [hR6]
          exact ⟨rfl, sf1, hst⟩
  ·
    clear hst
    intro f w_ hR
    rw [hR6] at hR
    obtain ⟨rfl, sf1, hst⟩ := hR
    clear hR6
    refine W_seq ?_
    obtain ⟨R41, hR41⟩ : ∃ RR_ : Fr → World → Prop, RR_ = fun f w_ => f 2 = .bool ((((r_.coefs.length : Int) == (r_.vars.length : Int)) && (decide (r_.bound ≥ (-1000)))) && (decide (r_.bound ≤ 1000))) ∧ Star H w_ ([]) := ⟨_, rfl⟩
    refine W_join R41 ?_ ?_
    ·
      refine W_region ?_
      refine L_fa (o' := 2) rfl fa_36_2 sf1 rfl ?_
      refine L_ld (v := v0_2) rfl Try.isAgg23 rfl (At.cell0 (Blk.at (Star.blkAt 0 hst rfl)) (j := 2) rfl) ?_
      refine L_len (v := v0_2) (n := List.length r_.coefs) rfl Try.underlying23 rfl (slice_len h0_2) ?_
      refine L_fa (o' := 1) rfl fa_36_1 sf1 rfl ?_
      refine L_ld (v := v0_1) rfl Try.isAgg23 rfl (At.cell0 (Blk.at (Star.blkAt 0 hst rfl)) (j := 1) rfl) ?_
      refine L_len (v := v0_1) (n := List.length r_.vars) rfl Try.underlying23 rfl (slice_len h0_1) ?_
      refine L_eql (m := (r_.coefs.length : Int)) (n := (r_.vars.length : Int)) rfl rfl rfl ?_
      refine L_mv (v := .bool ((r_.coefs.length : Int) == (r_.vars.length : Int))) rfl rfl ?_
      refine L_split (d := 40) (b := ((r_.coefs.length : Int) == (r_.vars.length : Int))) rfl (fun hc42 => ?_) (fun hc42 => ?_)
      ·
        refine L_fa (o' := 3) rfl fa_36_3 sf1 rfl ?_
        refine L_ld (v := .int .i64 r_.bound) rfl Try.isAgg3 rfl (At.cell0 (Blk.at (Star.blkAt 0 hst rfl)) (j := 3) rfl) ?_
        refine L_geq (m := r_.bound) (n := (-1000)) rfl rfl rfl ?_
        refine L_pick (v := .bool (((r_.coefs.length : Int) == (r_.vars.length : Int)) && (decide (r_.bound ≥ (-1000))))) rfl rfl (and_t hc42 rfl) ?_
        refine L_mv (v := .bool (((r_.coefs.length : Int) == (r_.vars.length : Int)) && (decide (r_.bound ≥ (-1000))))) rfl rfl ?_
        refine L_split (d := 45) (b := (((r_.coefs.length : Int) == (r_.vars.length : Int)) && (decide (r_.bound ≥ (-1000))))) rfl (fun hc43 => ?_) (fun hc43 => ?_)
        ·
          refine L_fa (o' := 3) rfl fa_36_3 sf1 rfl ?_
          refine L_ld (v := .int .i64 r_.bound) rfl Try.isAgg3 rfl (At.cell0 (Blk.at (Star.blkAt 0 hst rfl)) (j := 3) rfl) ?_
          refine L_leq (m := r_.bound) (n := 1000) rfl rfl rfl ?_
          refine L_pick (v := .bool ((((r_.coefs.length : Int) == (r_.vars.length : Int)) && (decide (r_.bound ≥ (-1000)))) && (decide (r_.bound ≤ 1000)))) rfl rfl (and_t hc43 rfl) ?_
          refine L_as (v := .bool ((((r_.coefs.length : Int) == (r_.vars.length : Int)) && (decide (r_.bound ≥ (-1000)))) && (decide (r_.bound ≤ 1000)))) rfl rfl ?_
          refine L_nil ?_
          show R41 _ _
          rw [hR41]
          exact ⟨rfl, (Star.keepN 0 hst)⟩
        ·
          refine L_pass rfl ?_
          refine L_pass rfl ?_
          refine L_pass rfl ?_
          refine L_pick (v := .bool ((((r_.coefs.length : Int) == (r_.vars.length : Int)) && (decide (r_.bound ≥ (-1000)))) && (decide (r_.bound ≤ 1000)))) rfl rfl (and_f hc43) ?_
          refine L_as (v := .bool ((((r_.coefs.length : Int) == (r_.vars.length : Int)) && (decide (r_.bound ≥ (-1000)))) && (decide (r_.bound ≤ 1000)))) rfl rfl ?_
          refine L_nil ?_
          show R41 _ _
          rw [hR41]
          exact ⟨rfl, (Star.keepN 0 hst)⟩
      ·
        refine L_pass rfl ?_
        refine L_pass rfl ?_
        refine L_pass rfl ?_
        refine L_pick (v := .bool (((r_.coefs.length : Int) == (r_.vars.length : Int)) && (decide (r_.bound ≥ (-1000))))) rfl rfl (and_f hc42) ?_
        refine L_mv (v := .bool (((r_.coefs.length : Int) == (r_.vars.length : Int)) && (decide (r_.bound ≥ (-1000))))) rfl rfl ?_
        refine L_split (d := 45) (b := (((r_.coefs.length : Int) == (r_.vars.length : Int)) && (decide (r_.bound ≥ (-1000))))) rfl (fun hc44 => ?_) (fun hc44 => ?_)
        ·
          refine L_fa (o' := 3) rfl fa_36_3 sf1 rfl ?_
          refine L_ld (v := .int .i64 r_.bound) rfl Try.isAgg3 rfl (At.cell0 (Blk.at (Star.blkAt 0 hst rfl)) (j := 3) rfl) ?_
          refine L_leq (m := r_.bound) (n := 1000) rfl rfl rfl ?_
          refine L_pick (v := .bool ((((r_.coefs.length : Int) == (r_.vars.length : Int)) && (decide (r_.bound ≥ (-1000)))) && (decide (r_.bound ≤ 1000)))) rfl rfl (and_t hc44 rfl) ?_
          refine L_as (v := .bool ((((r_.coefs.length : Int) == (r_.vars.length : Int)) && (decide (r_.bound ≥ (-1000)))) && (decide (r_.bound ≤ 1000)))) rfl rfl ?_
          refine L_nil ?_
          show R41 _ _
          rw [hR41]
          exact ⟨rfl, (Star.keepN 0 hst)⟩
        ·
          refine L_pass rfl ?_
          refine L_pass rfl ?_
          refine L_pass rfl ?_
          refine L_pick (v := .bool ((((r_.coefs.length : Int) == (r_.vars.length : Int)) && (decide (r_.bound ≥ (-1000)))) && (decide (r_.bound ≤ 1000)))) rfl rfl (and_f hc44) ?_
          refine L_as (v := .bool ((((r_.coefs.length : Int) == (r_.vars.length : Int)) && (decide (r_.bound ≥ (-1000)))) && (decide (r_.bound ≤ 1000)))) rfl rfl ?_
          refine L_nil ?_
          show R41 _ _
          rw [hR41]
          exact ⟨rfl, (Star.keepN 0 hst)⟩
    ·
      intro f w_ hR
      rw [hR41] at hR
      obtain ⟨sf2, hst⟩ := hR
      clear hR41
      refine W_ret ?_
      refine retG1 (v1 := .bool ((((r_.coefs.length : Int) == (r_.vars.length : Int)) && (decide (r_.bound ≥ (-1000)))) && (decide (r_.bound ≤ 1000)))) Try.results99 sf2 ?_
      obtain rfl := so hF
      exact ⟨rfl, hst⟩

theorem s_l6Table_c {r_ : Rule} {v0_1 : Value} {v0_2 : Value} {v0_4 : Value} {H : FH} {w : World} (hst : Star H w []) (h0_1 : (RP.slice 3 RP.int).rel H [v0_1] r_.vars) (h0_2 : (RP.slice 3 RP.int).rel H [v0_2] r_.coefs) (h0_4 : (RP.slice 23 (RP.slice 3 RP.int)).rel H [v0_4] r_.rows) {r : Bool} (hF : s_l6Table r_ = some r) :
    C Try.prog 100 #[.agg #[.int .i64 r_.kind, v0_1, v0_2, .int .i64 r_.bound, v0_4]] w fun v w' => v = .bool r ∧ Star H w' [] := by
  unfold s_l6Table at hF
  refine C_enter Try.func100 rfl Try.ntmps100 rfl ?_
  refine W_seq ?_
  refine W_region ?_
  refine L_box (v := .agg #[.int .i64 r_.kind, v0_1, v0_2, .int .i64 r_.bound, v0_4]) (cs := #[.int .i64 r_.kind, v0_1, v0_2, .int .i64 r_.bound, v0_4]) rfl rfl rfl hst ?_
  intro g3 w4 hst
  refine L_as (v := .bool false) rfl rfl ?_
  refine L_nil ?_
  refine W_seq ?_
  refine W_seq ?_
  refine W_region ?_
  refine L_as (v := .int .i64 0) rfl rfl ?_
  refine L_nil ?_
  have hlen8 : List.length r_.rows ≤ 9223372036854775807 := len_le (slice_len h0_4)
  obtain ⟨j8, hL8, hF⟩ := bind_some hF
  obtain ⟨R8, hR8⟩ : ∃ RR_ : Fr → World → Prop, RR_ = fun f w_ => ∃ H6 : FH, j8 = .nx () ∧ Le H H6 ∧ f 1 = .pointer (some ⟨g3, 0, none⟩) ∧ Star H6 w_ ([box g3 36 #[.int .i64 r_.kind, v0_1, v0_2, .int .i64 r_.bound, v0_4]]) := ⟨_, rfl⟩
  refine W_join R8 ?_ ?_
  ·
    refine W_block ?_
    obtain ⟨I8, hI8⟩ : ∃ I : Nat → Fr → World → Prop, I = fun n f w_ => ∃ i_5 : Nat, ∃ suf8 : List (List Int), ∃ H6 : FH, n = suf8.length ∧ List.drop i_5 r_.rows = suf8 ∧ i_5 + suf8.length = r_.rows.length ∧ rangeL (s_l6Table_b1 r_) suf8 i_5 () = some j8 ∧ Le H H6 ∧ f 1 = .pointer (some ⟨g3, 0, none⟩) ∧ f 3 = .int .i64 (i_5 : Int) ∧ Star H6 w_ ([box g3 36 #[.int .i64 r_.kind, v0_1, v0_2, .int .i64 r_.bound, v0_4]]) := ⟨_, rfl⟩
    refine W_loop I8 (n := r_.rows.length) ?_ ?_
    · rw [hI8]; exact ⟨0, r_.rows, H, rfl, rfl, Nat.zero_add _, hL8, (Le.refl _), rfl, rfl, hst⟩
    ·
      clear hst
      intro n8 f w_ hI
      rw [hI8] at hI
      obtain ⟨i_5, suf8, H6, rfl, hd8, hl8, hL8, hle7, sf1, sf3, hst⟩ := hI
      refine W_seq ?_
      refine W_seq ?_
      refine W_region ?_
      refine L_mv (v := .int .i64 (i_5 : Int)) rfl sf3 ?_
      refine L_fa (o' := 4) rfl fa_36_4 sf1 rfl ?_
      refine L_ld (v := v0_4) rfl Try.isAgg34 rfl (At.cell0 (Blk.at (Star.blkAt 0 hst rfl)) (j := 4) rfl) ?_
      refine L_len (v := v0_4) (n := List.length r_.rows) rfl Try.underlying34 rfl (slice_len (RP.mono _ h0_4 hle7)) ?_
      refine L_lss (m := (i_5 : Int)) (n := (r_.rows.length : Int)) rfl rfl rfl ?_
      refine L_nil ?_
      refine W_cond (b := decide ((i_5 : Int) < (r_.rows.length : Int))) rfl (fun hc9 => ?_) (fun hc9 => ?_)
      ·
        have hlt8 := of_decide_eq_true hc9
        cases suf8 with
        | nil => exact absurd hlt8 (by simp at hl8; omega)
        | cons x_8 rest8 =>
          obtain ⟨o8, hB8, hL8⟩ := range_cons hL8
          rw [s_l6Table_b1] at hB8
          have hix8 := drop_idx hd8
          refine W_skip ?_
          refine W_seq ?_
          refine W_block ?_
          refine W_seq ?_
          refine W_seq ?_
          refine W_drawS 9 [isV (.pointer (some ⟨g3, 4, none⟩)), isV (v0_4), isV (.int .i64 (i_5 : Int)), isEl (RP.slice 3 RP.int) x_8 0, isData (RP.slice 3 RP.int) x_8, isV (.int .i64 (x_8.length : Int)), isV (.pointer (some ⟨g3, 1, none⟩)), isV (v0_1), isV (.int .i64 (r_.vars.length : Int))] [box g3 36 #[.int .i64 r_.kind, v0_1, v0_2, .int .i64 r_.bound, v0_4]] [] ([]) [([], []), ([], []), ([], []), ([], []), ([], []), ([], []), ([], []), ([], []), ([], [])] (S := []) Try_mix (by kernel_rfl) rfl (by kernel_rfl) (amF_cons (mono_V _) (amF_cons (mono_V _) (amF_cons (mono_V _) (amF_cons (mono_el _ _ _) (amF_cons (mono_data _ _) (amF_cons (mono_V _) (amF_cons (mono_V _) (amF_cons (mono_V _) (amF_cons (mono_V _) amF_nil))))))))) hst ?_ (fun f w_ H14 hS14 hE14 hT14 hst => ?_)
          ·
            refine opsS_cons ?_ ?_
            ·
              intro f w_ H14 X14 hS14 hE14 hP14 hst
              refine L_fa (o' := 4) rfl fa_36_4 ((hS14 1 rfl).trans sf1) rfl ?_
              exact L_nil ⟨rfl, _, _, _, rfl, rfl, Le.refl _, rfl, hst⟩
            refine opsS_cons ?_ ?_
            ·
              intro f w_ H14 X14 hS14 hE14 hP14 hst
              refine L_ld (v := v0_4) rfl Try.isAgg34 (hP14 0 12 rfl rfl) (At.cell0 (Blk.at (Star.blkAt 0 hst rfl)) (j := 4) rfl) ?_
              exact L_nil ⟨rfl, _, _, _, rfl, rfl, Le.refl _, rfl, hst⟩
            refine opsS_cons ?_ ?_
            ·
              intro f w_ H14 X14 hS14 hE14 hP14 hst
              refine L_mv (v := .int .i64 (i_5 : Int)) rfl ((hS14 3 rfl).trans sf3) ?_
              exact L_nil ⟨rfl, _, _, _, rfl, rfl, Le.refl _, rfl, hst⟩
            refine opsS_cons ?_ ?_
            ·
              intro f w_ H14 X14 hS14 hE14 hP14 hst
              refine L_ix (r := (RP.slice 3 RP.int)) rfl Try.underlying34 Try.sizeOf23 (hP14 1 13 rfl rfl) (RP.mono _ h0_4 (Le.trans hle7 hE14)) (hP14 2 14 rfl rfl) hix8 ?_
              intro g19 o20 cs_g19 hrk_hat21 hat21
              obtain ⟨u22, rfl, hu22⟩ := slice1 hrk_hat21
              exact L_nil ⟨rfl, _, _, _, rfl, rfl, Le.refl _, ⟨_, _, _, rfl, hrk_hat21, hat21⟩, hst⟩
            refine opsS_cons ?_ ?_
            ·
              intro f w_ H14 X14 hS14 hE14 hP14 hst
              obtain ⟨g23, o23, cs23, hv23, hrk_hat23, hat23⟩ := (hP14 3 15 rfl rfl)
              obtain ⟨u24, rfl, hu24⟩ := slice1 hrk_hat23
              refine L_ld (v := u24) rfl Try.isAgg23 hv23 (At.cell (AtH.at hat23 hst.sub) (j := 0) rfl) ?_
              exact L_nil ⟨rfl, _, _, _, rfl, rfl, Le.refl _, hu24, hst⟩
            refine opsS_cons ?_ ?_
            ·
              intro f w_ H14 X14 hS14 hE14 hP14 hst
              have hd25 : (RP.slice 3 RP.int).rel H14 [f 16] x_8 := (hP14 4 16 rfl rfl)
              refine L_len (v := (f 16)) (n := List.length x_8) rfl Try.underlying23 rfl (slice_len hd25) ?_
              exact L_nil ⟨rfl, _, _, _, rfl, rfl, Le.refl _, rfl, hst⟩
            refine opsS_cons ?_ ?_
            ·
              intro f w_ H14 X14 hS14 hE14 hP14 hst
              refine L_fa (o' := 1) rfl fa_36_1 ((hS14 1 rfl).trans sf1) rfl ?_
              exact L_nil ⟨rfl, _, _, _, rfl, rfl, Le.refl _, rfl, hst⟩
            refine opsS_cons ?_ ?_
            ·
              intro f w_ H14 X14 hS14 hE14 hP14 hst
              refine L_ld (v := v0_1) rfl Try.isAgg23 (hP14 6 18 rfl rfl) (At.cell0 (Blk.at (Star.blkAt 0 hst rfl)) (j := 1) rfl) ?_
              exact L_nil ⟨rfl, _, _, _, rfl, rfl, Le.refl _, rfl, hst⟩
            refine opsS_cons ?_ ?_
            ·
              intro f w_ H14 X14 hS14 hE14 hP14 hst
              refine L_len (v := v0_1) (n := List.length r_.vars) rfl Try.underlying23 (hP14 7 19 rfl rfl) (slice_len (RP.mono _ h0_1 (Le.trans hle7 hE14))) ?_
              exact L_nil ⟨rfl, _, _, _, rfl, rfl, Le.refl _, rfl, hst⟩
            exact opsS_nil
          ·
            refine L_neq (m := (x_8.length : Int)) (n := (r_.vars.length : Int)) rfl (hT14 5 17 rfl rfl) (hT14 8 20 rfl rfl) ?_
            refine L_nil ?_
            refine W_cond (b := ((x_8.length : Int) != (r_.vars.length : Int))) rfl (fun hc26 => ?_) (fun hc26 => ?_)
            ·
              have hB8 := (ite_t hc26).symm.trans hB8
              refine W_seq ?_
              refine W_region ?_
              refine L_as (v := .bool false) rfl rfl ?_
              refine L_nil ?_
              refine W_ret ?_
              refine retG1 (v1 := .bool false) Try.results100 rfl ?_
              obtain rfl := so hB8
              obtain rfl := so hL8
              obtain rfl := so hF
              exact ⟨rfl, (Star.down (Star.keepN 0 hst) (Le.trans hle7 hE14) closedL_nil)⟩
            ·
              have hB8 := (ite_f hc26).symm.trans hB8
              refine W_skip ?_
              refine W_seq ?_
              refine W_region ?_
              refine L_as (v := .int .i64 0) rfl rfl ?_
              refine L_nil ?_
              obtain ⟨k29, hk29, hB8⟩ := bind_some hB8
              obtain ⟨j28, hL28, hB8⟩ := bind_some hB8
              obtain ⟨R28, hR28⟩ : ∃ RR_ : Fr → World → Prop, RR_ = fun f w_ => j28 = .nx () ∧ f 1 = .pointer (some ⟨g3, 0, none⟩) ∧ f 3 = .int .i64 (i_5 : Int) ∧ Star H14 w_ ([box g3 36 #[.int .i64 r_.kind, v0_1, v0_2, .int .i64 r_.bound, v0_4]]) := ⟨_, rfl⟩
              refine W_join R28 ?_ ?_
              ·
                refine W_block ?_
                obtain ⟨I28, hI28⟩ : ∃ I : Nat → Fr → World → Prop, I = fun n f w_ => ∃ i_27 : Nat, ∃ suf28 : Nat, suf28 = n ∧ 0 ≤ i_27 ∧ i_27 + suf28 = 0 + k29 ∧ countL (s_l6Table_b2 x_8) suf28 i_27 () = some j28 ∧ f 1 = .pointer (some ⟨g3, 0, none⟩) ∧ f 3 = .int .i64 (i_5 : Int) ∧ f 4 = .int .i64 (i_27 : Int) ∧ Star H14 w_ ([box g3 36 #[.int .i64 r_.kind, v0_1, v0_2, .int .i64 r_.bound, v0_4]]) := ⟨_, rfl⟩
                refine W_loop I28 (n := k29) ?_ ?_
                · rw [hI28]; exact ⟨0, k29, rfl, Nat.le_refl _, rfl, hL28, ((hS14 1 rfl).trans sf1), ((hS14 3 rfl).trans sf3), rfl, hst⟩
                ·
                  clear hst
                  intro n28 f w_ hI
                  rw [hI28] at hI
                  obtain ⟨i_27, suf28, rfl, hs28, hl28, hL28, sf1, sf3, sf4, hst⟩ := hI
                  refine W_seq ?_
                  refine W_seq ?_
                  refine W_region ?_
                  refine L_mv (v := .int .i64 (i_27 : Int)) rfl sf4 ?_
                  refine L_fa (o' := 4) rfl fa_36_4 sf1 rfl ?_
                  refine L_ld (v := v0_4) rfl Try.isAgg34 rfl (At.cell0 (Blk.at (Star.blkAt 0 hst rfl)) (j := 4) rfl) ?_
                  refine L_mv (v := .int .i64 (i_5 : Int)) rfl sf3 ?_
                  refine L_ix (r := (RP.slice 3 RP.int)) rfl Try.underlying34 Try.sizeOf23 rfl (RP.mono _ h0_4 (Le.trans hle7 hE14)) rfl hix8 ?_
                  intro g34 o35 cs_g34 hrk_hat36 hat36
                  obtain ⟨u37, rfl, hu37⟩ := slice1 hrk_hat36
                  refine L_ld (v := u37) rfl Try.isAgg23 rfl (At.cell (AtH.at hat36 hst.sub) (j := 0) rfl) ?_
                  refine L_len (v := u37) (n := List.length x_8) rfl Try.underlying23 rfl (slice_len hu37) ?_
                  refine L_lss (m := (i_27 : Int)) (n := (x_8.length : Int)) rfl rfl rfl ?_
                  refine L_nil ?_
                  refine W_cond (b := decide ((i_27 : Int) < (x_8.length : Int))) rfl (fun hc38 => ?_) (fun hc38 => ?_)
                  ·
                    have hlt28 := of_decide_eq_true hc38
                    cases suf28 with
                    | zero => exact absurd hlt28 (cntF_no hl28 hk29)
                    | succ rest28 =>
                      obtain ⟨o28, hB28, hL28⟩ := count_succ hL28
                      rw [s_l6Table_b2] at hB28
                      refine W_skip ?_
                      refine W_seq ?_
                      refine W_block ?_
                      refine W_seq ?_
                      obtain ⟨x43, hx43, hB28⟩ := bind_some hB28
                      obtain ⟨R56, hR56⟩ : ∃ RR_ : Fr → World → Prop, RR_ = fun f w_ => f 1 = .pointer (some ⟨g3, 0, none⟩) ∧ f 3 = .int .i64 (i_5 : Int) ∧ f 4 = .int .i64 (i_27 : Int) ∧ f 51 = .bool ((decide (x43 < 0)) || (decide (x43 > 3))) ∧ Star H14 w_ ([box g3 36 #[.int .i64 r_.kind, v0_1, v0_2, .int .i64 r_.bound, v0_4]]) := ⟨_, rfl⟩
                      refine W_join R56 ?_ ?_
                      ·
                        refine W_region ?_
                        refine L_fa (o' := 4) rfl fa_36_4 sf1 rfl ?_
                        refine L_ld (v := v0_4) rfl Try.isAgg34 rfl (At.cell0 (Blk.at (Star.blkAt 0 hst rfl)) (j := 4) rfl) ?_
                        refine L_mv (v := .int .i64 (i_5 : Int)) rfl sf3 ?_
                        refine L_ix (r := (RP.slice 3 RP.int)) rfl Try.underlying34 Try.sizeOf23 rfl (RP.mono _ h0_4 (Le.trans hle7 hE14)) rfl hix8 ?_
                        intro g57 o58 cs_g57 hrk_hat59 hat59
                        obtain ⟨u60, rfl, hu60⟩ := slice1 hrk_hat59
                        refine L_ld (v := u60) rfl Try.isAgg23 rfl (At.cell (AtH.at hat59 hst.sub) (j := 0) rfl) ?_
                        refine L_mv (v := .int .i64 (i_27 : Int)) rfl sf4 ?_
                        refine L_ix (r := RP.int) rfl Try.underlying23 Try.sizeOf3 rfl hu60 rfl hx43 ?_
                        intro g61 o62 cs_g61 hrk_hat63 hat63
                        obtain rfl : _ = [_] := hrk_hat63
                        refine L_ld (v := .int .i64 x43) rfl Try.isAgg3 rfl (At.cell (AtH.at hat63 hst.sub) (j := 0) rfl) ?_
                        refine L_lss (m := x43) (n := 0) rfl rfl rfl ?_
                        refine L_mv (v := .bool (decide (x43 < 0))) rfl rfl ?_
                        refine L_split (d := 41) (b := decide (x43 < 0)) rfl (fun hc65 => ?_) (fun hc65 => ?_)
                        ·
                          refine L_pass rfl ?_
                          refine L_pass rfl ?_
                          refine L_pass rfl ?_
                          refine L_pass rfl ?_
                          refine L_pass rfl ?_
                          refine L_pass rfl ?_
                          refine L_pass rfl ?_
                          refine L_pass rfl ?_
                          refine L_pass rfl ?_
                          refine L_pick (v := .bool ((decide (x43 < 0)) || (decide (x43 > 3)))) rfl rfl (or_t hc65) ?_
                          refine L_nil ?_
                          show R56 _ _
                          rw [hR56]
                          exact ⟨sf1, sf3, sf4, rfl, hst⟩
                        ·
                          refine L_fa (o' := 4) rfl fa_36_4 sf1 rfl ?_
                          refine L_ld (v := v0_4) rfl Try.isAgg34 rfl (At.cell0 (Blk.at (Star.blkAt 0 hst rfl)) (j := 4) rfl) ?_
                          refine L_mv (v := .int .i64 (i_5 : Int)) rfl sf3 ?_
                          refine L_ix (r := (RP.slice 3 RP.int)) rfl Try.underlying34 Try.sizeOf23 rfl (RP.mono _ h0_4 (Le.trans hle7 hE14)) rfl hix8 ?_
                          intro g66 o67 cs_g66 hrk_hat68 hat68
                          obtain ⟨u69, rfl, hu69⟩ := slice1 hrk_hat68
                          refine L_ld (v := u69) rfl Try.isAgg23 rfl (At.cell (AtH.at hat68 hst.sub) (j := 0) rfl) ?_
                          refine L_mv (v := .int .i64 (i_27 : Int)) rfl sf4 ?_
                          refine L_ix (r := RP.int) rfl Try.underlying23 Try.sizeOf3 rfl hu69 rfl hx43 ?_
                          intro g70 o71 cs_g70 hrk_hat72 hat72
                          obtain rfl : _ = [_] := hrk_hat72
                          refine L_ld (v := .int .i64 x43) rfl Try.isAgg3 rfl (At.cell (AtH.at hat72 hst.sub) (j := 0) rfl) ?_
                          refine L_gtr (m := x43) (n := 3) rfl rfl rfl ?_
                          refine L_pick (v := .bool ((decide (x43 < 0)) || (decide (x43 > 3)))) rfl rfl (or_f hc65 rfl) ?_
                          refine L_nil ?_
                          show R56 _ _
                          rw [hR56]
                          exact ⟨sf1, sf3, sf4, rfl, hst⟩
                      ·
                        intro f w_ hR
                        rw [hR56] at hR
                        obtain ⟨sf1, sf3, sf4, sf51, hst⟩ := hR
                        clear hR56
                        refine W_cond (b := ((decide (x43 < 0)) || (decide (x43 > 3)))) sf51 (fun hc74 => ?_) (fun hc74 => ?_)
                        ·
                          have hB28 := (ite_t hc74).symm.trans hB28
                          refine W_seq ?_
                          refine W_region ?_
                          refine L_as (v := .bool false) rfl rfl ?_
                          refine L_nil ?_
                          refine W_ret ?_
                          refine retG1 (v1 := .bool false) Try.results100 rfl ?_
                          obtain rfl := so hB28
                          obtain rfl := so hL28
                          obtain rfl := so hB8
                          obtain rfl := so hL8
                          obtain rfl := so hF
                          exact ⟨rfl, (Star.down (Star.keepN 0 hst) (Le.trans hle7 hE14) closedL_nil)⟩
                        ·
                          have hB28 := (ite_f hc74).symm.trans hB28
                          refine W_skip ?_
                          refine W_region ?_
                          refine L_mv (v := .int .i64 (i_27 : Int)) rfl sf4 ?_
                          refine L_add (m := (i_27 : Int)) (n := 1) rfl rfl rfl ?_
                          refine L_as (v := .int .i64 (i64 ((i_27 : Int) + 1))) rfl rfl ?_
                          refine L_nil ?_
                          obtain rfl := so hB28
                          show ∃ m, m < _ ∧ I28 m _ _
                          refine ⟨rest28, Nat.lt_succ_self _, ?_⟩
                          rw [hI28]
                          exact ⟨i_27 + 1, rest28, rfl, by omega, by omega, hL28, sf1, sf3, (Eq.trans rfl (congrArg (Value.int .i64) (i64_succ (n := 0 + k29) (by omega) (cntF_le hk29)))), hst⟩
                  ·
                    cases suf28 with
                    | succ _ => exact absurd (cntF_yes hs28 hl28 hk29) (of_decide_eq_false hc38)
                    | zero =>
                      obtain rfl := count_zero hL28
                      refine W_exit ?_
                      show R28 _ _
                      rw [hR28]
                      exact ⟨rfl, sf1, sf3, hst⟩
              ·
                clear hst
                intro f w_ hR
                rw [hR28] at hR
                obtain ⟨rfl, sf1, sf3, hst⟩ := hR
                clear hR28
                refine W_region ?_
                refine L_mv (v := .int .i64 (i_5 : Int)) rfl sf3 ?_
                refine L_add (m := (i_5 : Int)) (n := 1) rfl rfl rfl ?_
                refine L_as (v := .int .i64 (i64 ((i_5 : Int) + 1))) rfl rfl ?_
                refine L_nil ?_
                obtain rfl := so hB8
                show ∃ m, m < _ ∧ I8 m _ _
                refine ⟨rest8.length, by simp, ?_⟩
                rw [hI8]
                exact ⟨i_5 + 1, rest8, H14, rfl, drop_next hd8, by simp at hl8; omega, hL8, (Le.trans hle7 hE14), sf1, (Eq.trans rfl (congrArg (Value.int .i64) (i64_succ (n := r_.rows.length) (by simp at hl8; omega) hlen8))), hst⟩
      ·
        cases suf8 with
        | cons _ _ => exact absurd (of_decide_eq_false hc9) (by simp at hl8; omega)
        | nil =>
          obtain rfl := range_nil hL8
          refine W_exit ?_
          show R8 _ _
          rw [hR8]
          exact ⟨H6, rfl, hle7, sf1, hst⟩
  ·
    clear hst
    intro f w_ hR
    rw [hR8] at hR
    obtain ⟨H6, rfl, hle7, sf1, hst⟩ := hR
    clear hR8
    refine W_seq ?_
    refine W_region ?_
    refine L_fa (o' := 4) rfl fa_36_4 sf1 rfl ?_
    refine L_ld (v := v0_4) rfl Try.isAgg34 rfl (At.cell0 (Blk.at (Star.blkAt 0 hst rfl)) (j := 4) rfl) ?_
    refine L_len (v := v0_4) (n := List.length r_.rows) rfl Try.underlying34 rfl (slice_len (RP.mono _ h0_4 hle7)) ?_
    refine L_leq (m := (r_.rows.length : Int)) (n := 8) rfl rfl rfl ?_
    refine L_as (v := .bool (decide ((r_.rows.length : Int) ≤ 8))) rfl rfl ?_
    refine L_nil ?_
    refine W_ret ?_
    refine retG1 (v1 := .bool (decide ((r_.rows.length : Int) ≤ 8))) Try.results100 rfl ?_
    obtain rfl := so hF
    exact ⟨rfl, (Star.down (Star.keepN 0 hst) hle7 closedL_nil)⟩

theorem s_l6Rule_c {m : Model} {r_ : Rule} {v0_0 : Value} {v0_1 : Value} {v1_1 : Value} {v1_2 : Value} {v1_4 : Value} {H : FH} {w : World} (hst : Star H w []) (h0_0 : (RP.slice 3 RP.int).rel H [v0_0] m.sizes) (h0_1 : (RP.slice 36 (rRule 3 23)).rel H [v0_1] m.rules) (h1_1 : (RP.slice 3 RP.int).rel H [v1_1] r_.vars) (h1_2 : (RP.slice 3 RP.int).rel H [v1_2] r_.coefs) (h1_4 : (RP.slice 23 (RP.slice 3 RP.int)).rel H [v1_4] r_.rows) {r : Bool} (hF : s_l6Rule m r_ = some r) :
    C Try.prog 82 #[.agg #[v0_0, v0_1], .agg #[.int .i64 r_.kind, v1_1, v1_2, .int .i64 r_.bound, v1_4]] w fun v w' => v = .bool r ∧ Star H w' [] := by
  unfold s_l6Rule at hF
  refine C_enter Try.func82 rfl Try.ntmps82 rfl ?_
  refine W_seq ?_
  refine W_region ?_
  refine L_box (v := .agg #[v0_0, v0_1]) (cs := #[v0_0, v0_1]) rfl rfl rfl hst ?_
  intro g5 w6 hst
  refine L_box (v := .agg #[.int .i64 r_.kind, v1_1, v1_2, .int .i64 r_.bound, v1_4]) (cs := #[.int .i64 r_.kind, v1_1, v1_2, .int .i64 r_.bound, v1_4]) rfl rfl rfl hst ?_
  intro g7 w8 hst
  refine L_as (v := .bool false) rfl rfl ?_
  refine L_nil ?_
  refine W_seq ?_
  refine W_seq ?_
  obtain ⟨x14, hx14, hF⟩ := bind_some hF
  obtain ⟨R16, hR16⟩ : ∃ RR_ : Fr → World → Prop, RR_ = fun f w_ => f 3 = .pointer (some ⟨g7, 0, none⟩) ∧ f 36 = .bool (((!x14) || ((r_.kind != 1) && (((r_.coefs.length : Int) != 0) || (r_.bound != 0)))) || ((r_.kind != 3) && ((r_.rows.length : Int) != 0))) ∧ Star H w_ ([box g7 36 #[.int .i64 r_.kind, v1_1, v1_2, .int .i64 r_.bound, v1_4]]) := ⟨_, rfl⟩
  refine W_join R16 ?_ ?_
  ·
    refine W_region ?_
    refine L_lda (cs := [v0_0, v0_1]) rfl Try.isAgg26 Try.sizeOf26 rfl (At.sub0 (Blk.at (Star.blkAt 1 hst rfl)) 0 2) rfl ?_
    refine L_fa (o' := 1) rfl fa_36_1 rfl rfl ?_
    refine L_ld (v := v1_1) rfl Try.isAgg23 rfl (At.cell0 (Blk.at (Star.blkAt 0 hst rfl)) (j := 1) rfl) ?_
    obtain ⟨Hb17, hle18, hsb19, hfz20, hbk21⟩ := Star.borrow hst
    refine L_call (args := #[.agg #[v0_0, v0_1], v1_1]) rfl Try.call98 (ops2 rfl rfl) (s_l6Vars_c (m := m) (list := r_.vars) hsb19 (RP.mono _ h0_0 hle18) (RP.mono _ h0_1 hle18) (RP.mono _ h1_1 hle18) hx14) ?_
    rintro _ w22 ⟨rfl, hst⟩
    have hst := hbk21 hst closedL_nil
    refine L_not_ (b := x14) rfl rfl ?_
    refine L_mv (v := .bool (!x14)) rfl rfl ?_
    refine L_split (d := 10) (b := (!x14)) rfl (fun hc23 => ?_) (fun hc23 => ?_)
    ·
      refine L_pass rfl ?_
      refine L_pass rfl ?_
      refine L_pass rfl ?_
      refine L_pass rfl ?_
      refine L_pass rfl ?_
      refine L_pass rfl ?_
      refine L_pass rfl ?_
      refine L_pass rfl ?_
      refine L_pass rfl ?_
      refine L_pass rfl ?_
      refine L_pass rfl ?_
      refine L_pass rfl ?_
      refine L_pass rfl ?_
      refine L_pass rfl ?_
      refine L_pick (v := .bool ((!x14) || ((r_.kind != 1) && (((r_.coefs.length : Int) != 0) || (r_.bound != 0))))) rfl rfl (or_t hc23) ?_
      refine L_mv (v := .bool ((!x14) || ((r_.kind != 1) && (((r_.coefs.length : Int) != 0) || (r_.bound != 0))))) rfl rfl ?_
      refine L_split (d := 26) (b := ((!x14) || ((r_.kind != 1) && (((r_.coefs.length : Int) != 0) || (r_.bound != 0))))) rfl (fun hc24 => ?_) (fun hc24 => ?_)
      ·
        refine L_pass rfl ?_
        refine L_pass rfl ?_
        refine L_pass rfl ?_
        refine L_pass rfl ?_
        refine L_pass rfl ?_
        refine L_pass rfl ?_
        refine L_pass rfl ?_
        refine L_pass rfl ?_
        refine L_pass rfl ?_
        refine L_pick (v := .bool (((!x14) || ((r_.kind != 1) && (((r_.coefs.length : Int) != 0) || (r_.bound != 0)))) || ((r_.kind != 3) && ((r_.rows.length : Int) != 0)))) rfl rfl (or_t hc24) ?_
        refine L_nil ?_
        show R16 _ _
        rw [hR16]
        exact ⟨rfl, rfl, (Star.keepN 1 hst)⟩
      ·
        refine L_fa (o' := 0) rfl fa_36_0 rfl rfl ?_
        refine L_ld (v := .int .i64 r_.kind) rfl Try.isAgg3 rfl (At.cell0 (Blk.at (Star.blkAt 0 hst rfl)) (j := 0) rfl) ?_
        refine L_neq (m := r_.kind) (n := 3) rfl rfl rfl ?_
        refine L_mv (v := .bool (r_.kind != 3)) rfl rfl ?_
        refine L_split (d := 30) (b := (r_.kind != 3)) rfl (fun hc25 => ?_) (fun hc25 => ?_)
        ·
          refine L_fa (o' := 4) rfl fa_36_4 rfl rfl ?_
          refine L_ld (v := v1_4) rfl Try.isAgg34 rfl (At.cell0 (Blk.at (Star.blkAt 0 hst rfl)) (j := 4) rfl) ?_
          refine L_len (v := v1_4) (n := List.length r_.rows) rfl Try.underlying34 rfl (slice_len h1_4) ?_
          refine L_neq (m := (r_.rows.length : Int)) (n := 0) rfl rfl rfl ?_
          refine L_pick (v := .bool ((r_.kind != 3) && ((r_.rows.length : Int) != 0))) rfl rfl (and_t hc25 rfl) ?_
          refine L_pick (v := .bool (((!x14) || ((r_.kind != 1) && (((r_.coefs.length : Int) != 0) || (r_.bound != 0)))) || ((r_.kind != 3) && ((r_.rows.length : Int) != 0)))) rfl rfl (or_f hc24 rfl) ?_
          refine L_nil ?_
          show R16 _ _
          rw [hR16]
          exact ⟨rfl, rfl, (Star.keepN 1 hst)⟩
        ·
          refine L_pass rfl ?_
          refine L_pass rfl ?_
          refine L_pass rfl ?_
          refine L_pass rfl ?_
          refine L_pick (v := .bool ((r_.kind != 3) && ((r_.rows.length : Int) != 0))) rfl rfl (and_f hc25) ?_
          refine L_pick (v := .bool (((!x14) || ((r_.kind != 1) && (((r_.coefs.length : Int) != 0) || (r_.bound != 0)))) || ((r_.kind != 3) && ((r_.rows.length : Int) != 0)))) rfl rfl (or_f hc24 rfl) ?_
          refine L_nil ?_
          show R16 _ _
          rw [hR16]
          exact ⟨rfl, rfl, (Star.keepN 1 hst)⟩
    ·
      refine L_fa (o' := 0) rfl fa_36_0 rfl rfl ?_
      refine L_ld (v := .int .i64 r_.kind) rfl Try.isAgg3 rfl (At.cell0 (Blk.at (Star.blkAt 0 hst rfl)) (j := 0) rfl) ?_
      refine L_neq (m := r_.kind) (n := 1) rfl rfl rfl ?_
      refine L_mv (v := .bool (r_.kind != 1)) rfl rfl ?_
      refine L_split (d := 14) (b := (r_.kind != 1)) rfl (fun hc26 => ?_) (fun hc26 => ?_)
      ·
        refine L_fa (o' := 2) rfl fa_36_2 rfl rfl ?_
        refine L_ld (v := v1_2) rfl Try.isAgg23 rfl (At.cell0 (Blk.at (Star.blkAt 0 hst rfl)) (j := 2) rfl) ?_
        refine L_len (v := v1_2) (n := List.length r_.coefs) rfl Try.underlying23 rfl (slice_len h1_2) ?_
        refine L_neq (m := (r_.coefs.length : Int)) (n := 0) rfl rfl rfl ?_
        refine L_mv (v := .bool ((r_.coefs.length : Int) != 0)) rfl rfl ?_
        refine L_split (d := 19) (b := ((r_.coefs.length : Int) != 0)) rfl (fun hc27 => ?_) (fun hc27 => ?_)
        ·
          refine L_pass rfl ?_
          refine L_pass rfl ?_
          refine L_pass rfl ?_
          refine L_pick (v := .bool (((r_.coefs.length : Int) != 0) || (r_.bound != 0))) rfl rfl (or_t hc27) ?_
          refine L_pick (v := .bool ((r_.kind != 1) && (((r_.coefs.length : Int) != 0) || (r_.bound != 0)))) rfl rfl (and_t hc26 rfl) ?_
          refine L_pick (v := .bool ((!x14) || ((r_.kind != 1) && (((r_.coefs.length : Int) != 0) || (r_.bound != 0))))) rfl rfl (or_f hc23 rfl) ?_
          refine L_mv (v := .bool ((!x14) || ((r_.kind != 1) && (((r_.coefs.length : Int) != 0) || (r_.bound != 0))))) rfl rfl ?_
          refine L_split (d := 26) (b := ((!x14) || ((r_.kind != 1) && (((r_.coefs.length : Int) != 0) || (r_.bound != 0))))) rfl (fun hc28 => ?_) (fun hc28 => ?_)
          ·
            refine L_pass rfl ?_
            refine L_pass rfl ?_
            refine L_pass rfl ?_
            refine L_pass rfl ?_
            refine L_pass rfl ?_
            refine L_pass rfl ?_
            refine L_pass rfl ?_
            refine L_pass rfl ?_
            refine L_pass rfl ?_
            refine L_pick (v := .bool (((!x14) || ((r_.kind != 1) && (((r_.coefs.length : Int) != 0) || (r_.bound != 0)))) || ((r_.kind != 3) && ((r_.rows.length : Int) != 0)))) rfl rfl (or_t hc28) ?_
            refine L_nil ?_
            show R16 _ _
            rw [hR16]
            exact ⟨rfl, rfl, (Star.keepN 1 hst)⟩
          ·
            refine L_fa (o' := 0) rfl fa_36_0 rfl rfl ?_
            refine L_ld (v := .int .i64 r_.kind) rfl Try.isAgg3 rfl (At.cell0 (Blk.at (Star.blkAt 0 hst rfl)) (j := 0) rfl) ?_
            refine L_neq (m := r_.kind) (n := 3) rfl rfl rfl ?_
            refine L_mv (v := .bool (r_.kind != 3)) rfl rfl ?_
            refine L_split (d := 30) (b := (r_.kind != 3)) rfl (fun hc29 => ?_) (fun hc29 => ?_)
            ·
              refine L_fa (o' := 4) rfl fa_36_4 rfl rfl ?_
              refine L_ld (v := v1_4) rfl Try.isAgg34 rfl (At.cell0 (Blk.at (Star.blkAt 0 hst rfl)) (j := 4) rfl) ?_
              refine L_len (v := v1_4) (n := List.length r_.rows) rfl Try.underlying34 rfl (slice_len h1_4) ?_
              refine L_neq (m := (r_.rows.length : Int)) (n := 0) rfl rfl rfl ?_
              refine L_pick (v := .bool ((r_.kind != 3) && ((r_.rows.length : Int) != 0))) rfl rfl (and_t hc29 rfl) ?_
              refine L_pick (v := .bool (((!x14) || ((r_.kind != 1) && (((r_.coefs.length : Int) != 0) || (r_.bound != 0)))) || ((r_.kind != 3) && ((r_.rows.length : Int) != 0)))) rfl rfl (or_f hc28 rfl) ?_
              refine L_nil ?_
              show R16 _ _
              rw [hR16]
              exact ⟨rfl, rfl, (Star.keepN 1 hst)⟩
            ·
              refine L_pass rfl ?_
              refine L_pass rfl ?_
              refine L_pass rfl ?_
              refine L_pass rfl ?_
              refine L_pick (v := .bool ((r_.kind != 3) && ((r_.rows.length : Int) != 0))) rfl rfl (and_f hc29) ?_
              refine L_pick (v := .bool (((!x14) || ((r_.kind != 1) && (((r_.coefs.length : Int) != 0) || (r_.bound != 0)))) || ((r_.kind != 3) && ((r_.rows.length : Int) != 0)))) rfl rfl (or_f hc28 rfl) ?_
              refine L_nil ?_
              show R16 _ _
              rw [hR16]
              exact ⟨rfl, rfl, (Star.keepN 1 hst)⟩
        ·
          refine L_fa (o' := 3) rfl fa_36_3 rfl rfl ?_
          refine L_ld (v := .int .i64 r_.bound) rfl Try.isAgg3 rfl (At.cell0 (Blk.at (Star.blkAt 0 hst rfl)) (j := 3) rfl) ?_
          refine L_neq (m := r_.bound) (n := 0) rfl rfl rfl ?_
          refine L_pick (v := .bool (((r_.coefs.length : Int) != 0) || (r_.bound != 0))) rfl rfl (or_f hc27 rfl) ?_
          refine L_pick (v := .bool ((r_.kind != 1) && (((r_.coefs.length : Int) != 0) || (r_.bound != 0)))) rfl rfl (and_t hc26 rfl) ?_
          refine L_pick (v := .bool ((!x14) || ((r_.kind != 1) && (((r_.coefs.length : Int) != 0) || (r_.bound != 0))))) rfl rfl (or_f hc23 rfl) ?_
          refine L_mv (v := .bool ((!x14) || ((r_.kind != 1) && (((r_.coefs.length : Int) != 0) || (r_.bound != 0))))) rfl rfl ?_
          refine L_split (d := 26) (b := ((!x14) || ((r_.kind != 1) && (((r_.coefs.length : Int) != 0) || (r_.bound != 0))))) rfl (fun hc30 => ?_) (fun hc30 => ?_)
          ·
            refine L_pass rfl ?_
            refine L_pass rfl ?_
            refine L_pass rfl ?_
            refine L_pass rfl ?_
            refine L_pass rfl ?_
            refine L_pass rfl ?_
            refine L_pass rfl ?_
            refine L_pass rfl ?_
            refine L_pass rfl ?_
            refine L_pick (v := .bool (((!x14) || ((r_.kind != 1) && (((r_.coefs.length : Int) != 0) || (r_.bound != 0)))) || ((r_.kind != 3) && ((r_.rows.length : Int) != 0)))) rfl rfl (or_t hc30) ?_
            refine L_nil ?_
            show R16 _ _
            rw [hR16]
            exact ⟨rfl, rfl, (Star.keepN 1 hst)⟩
          ·
            refine L_fa (o' := 0) rfl fa_36_0 rfl rfl ?_
            refine L_ld (v := .int .i64 r_.kind) rfl Try.isAgg3 rfl (At.cell0 (Blk.at (Star.blkAt 0 hst rfl)) (j := 0) rfl) ?_
            refine L_neq (m := r_.kind) (n := 3) rfl rfl rfl ?_
            refine L_mv (v := .bool (r_.kind != 3)) rfl rfl ?_
            refine L_split (d := 30) (b := (r_.kind != 3)) rfl (fun hc31 => ?_) (fun hc31 => ?_)
            ·
              refine L_fa (o' := 4) rfl fa_36_4 rfl rfl ?_
              refine L_ld (v := v1_4) rfl Try.isAgg34 rfl (At.cell0 (Blk.at (Star.blkAt 0 hst rfl)) (j := 4) rfl) ?_
              refine L_len (v := v1_4) (n := List.length r_.rows) rfl Try.underlying34 rfl (slice_len h1_4) ?_
              refine L_neq (m := (r_.rows.length : Int)) (n := 0) rfl rfl rfl ?_
              refine L_pick (v := .bool ((r_.kind != 3) && ((r_.rows.length : Int) != 0))) rfl rfl (and_t hc31 rfl) ?_
              refine L_pick (v := .bool (((!x14) || ((r_.kind != 1) && (((r_.coefs.length : Int) != 0) || (r_.bound != 0)))) || ((r_.kind != 3) && ((r_.rows.length : Int) != 0)))) rfl rfl (or_f hc30 rfl) ?_
              refine L_nil ?_
              show R16 _ _
              rw [hR16]
              exact ⟨rfl, rfl, (Star.keepN 1 hst)⟩
            ·
              refine L_pass rfl ?_
              refine L_pass rfl ?_
              refine L_pass rfl ?_
              refine L_pass rfl ?_
              refine L_pick (v := .bool ((r_.kind != 3) && ((r_.rows.length : Int) != 0))) rfl rfl (and_f hc31) ?_
              refine L_pick (v := .bool (((!x14) || ((r_.kind != 1) && (((r_.coefs.length : Int) != 0) || (r_.bound != 0)))) || ((r_.kind != 3) && ((r_.rows.length : Int) != 0)))) rfl rfl (or_f hc30 rfl) ?_
              refine L_nil ?_
              show R16 _ _
              rw [hR16]
              exact ⟨rfl, rfl, (Star.keepN 1 hst)⟩
      ·
        refine L_pass rfl ?_
        refine L_pass rfl ?_
        refine L_pass rfl ?_
        refine L_pass rfl ?_
        refine L_pass rfl ?_
        refine L_pass rfl ?_
        refine L_pass rfl ?_
        refine L_pass rfl ?_
        refine L_pass rfl ?_
        refine L_pick (v := .bool ((r_.kind != 1) && (((r_.coefs.length : Int) != 0) || (r_.bound != 0)))) rfl rfl (and_f hc26) ?_
        refine L_pick (v := .bool ((!x14) || ((r_.kind != 1) && (((r_.coefs.length : Int) != 0) || (r_.bound != 0))))) rfl rfl (or_f hc23 rfl) ?_
        refine L_mv (v := .bool ((!x14) || ((r_.kind != 1) && (((r_.coefs.length : Int) != 0) || (r_.bound != 0))))) rfl rfl ?_
        refine L_split (d := 26) (b := ((!x14) || ((r_.kind != 1) && (((r_.coefs.length : Int) != 0) || (r_.bound != 0))))) rfl (fun hc32 => ?_) (fun hc32 => ?_)
        ·
          refine L_pass rfl ?_
          refine L_pass rfl ?_
          refine L_pass rfl ?_
          refine L_pass rfl ?_
          refine L_pass rfl ?_
          refine L_pass rfl ?_
          refine L_pass rfl ?_
          refine L_pass rfl ?_
          refine L_pass rfl ?_
          refine L_pick (v := .bool (((!x14) || ((r_.kind != 1) && (((r_.coefs.length : Int) != 0) || (r_.bound != 0)))) || ((r_.kind != 3) && ((r_.rows.length : Int) != 0)))) rfl rfl (or_t hc32) ?_
          refine L_nil ?_
          show R16 _ _
          rw [hR16]
          exact ⟨rfl, rfl, (Star.keepN 1 hst)⟩
        ·
          refine L_fa (o' := 0) rfl fa_36_0 rfl rfl ?_
          refine L_ld (v := .int .i64 r_.kind) rfl Try.isAgg3 rfl (At.cell0 (Blk.at (Star.blkAt 0 hst rfl)) (j := 0) rfl) ?_
          refine L_neq (m := r_.kind) (n := 3) rfl rfl rfl ?_
          refine L_mv (v := .bool (r_.kind != 3)) rfl rfl ?_
          refine L_split (d := 30) (b := (r_.kind != 3)) rfl (fun hc33 => ?_) (fun hc33 => ?_)
          ·
            refine L_fa (o' := 4) rfl fa_36_4 rfl rfl ?_
            refine L_ld (v := v1_4) rfl Try.isAgg34 rfl (At.cell0 (Blk.at (Star.blkAt 0 hst rfl)) (j := 4) rfl) ?_
            refine L_len (v := v1_4) (n := List.length r_.rows) rfl Try.underlying34 rfl (slice_len h1_4) ?_
            refine L_neq (m := (r_.rows.length : Int)) (n := 0) rfl rfl rfl ?_
            refine L_pick (v := .bool ((r_.kind != 3) && ((r_.rows.length : Int) != 0))) rfl rfl (and_t hc33 rfl) ?_
            refine L_pick (v := .bool (((!x14) || ((r_.kind != 1) && (((r_.coefs.length : Int) != 0) || (r_.bound != 0)))) || ((r_.kind != 3) && ((r_.rows.length : Int) != 0)))) rfl rfl (or_f hc32 rfl) ?_
            refine L_nil ?_
            show R16 _ _
            rw [hR16]
            exact ⟨rfl, rfl, (Star.keepN 1 hst)⟩
          ·
            refine L_pass rfl ?_
            refine L_pass rfl ?_
            refine L_pass rfl ?_
            refine L_pass rfl ?_
            refine L_pick (v := .bool ((r_.kind != 3) && ((r_.rows.length : Int) != 0))) rfl rfl (and_f hc33) ?_
            refine L_pick (v := .bool (((!x14) || ((r_.kind != 1) && (((r_.coefs.length : Int) != 0) || (r_.bound != 0)))) || ((r_.kind != 3) && ((r_.rows.length : Int) != 0)))) rfl rfl (or_f hc32 rfl) ?_
            refine L_nil ?_
            show R16 _ _
            rw [hR16]
            exact ⟨rfl, rfl, (Star.keepN 1 hst)⟩
  ·
    intro f w_ hR
    rw [hR16] at hR
    obtain ⟨sf3, sf36, hst⟩ := hR
    clear hR16
    refine W_cond (b := (((!x14) || ((r_.kind != 1) && (((r_.coefs.length : Int) != 0) || (r_.bound != 0)))) || ((r_.kind != 3) && ((r_.rows.length : Int) != 0)))) sf36 (fun hc34 => ?_) (fun hc34 => ?_)
    ·
      have hF := (ite_t hc34).symm.trans hF
      refine W_seq ?_
      refine W_region ?_
      refine L_as (v := .bool false) rfl rfl ?_
      refine L_nil ?_
      refine W_ret ?_
      refine retG1 (v1 := .bool false) Try.results82 rfl ?_
      obtain rfl := so hF
      exact ⟨rfl, (Star.keepN 0 hst)⟩
    ·
      have hF := (ite_f hc34).symm.trans hF
      refine W_skip ?_
      refine W_seq ?_
      refine W_seq ?_
      refine W_region ?_
      refine L_fa (o' := 0) rfl fa_36_0 sf3 rfl ?_
      refine L_ld (v := .int .i64 r_.kind) rfl Try.isAgg3 rfl (At.cell0 (Blk.at (Star.blkAt 0 hst rfl)) (j := 0) rfl) ?_
      refine L_nil ?_
      refine W_block ?_
      refine W_seq ?_
      refine W_region ?_
      refine L_eql (m := r_.kind) (n := 1) rfl rfl rfl ?_
      refine L_as (v := .bool (r_.kind == 1)) rfl rfl ?_
      refine L_nil ?_
      refine W_cond (b := (r_.kind == 1)) rfl (fun hc35 => ?_) (fun hc35 => ?_)
      ·
        have hF := (ite_t hc35).symm.trans hF
        refine W_seq ?_
        obtain ⟨x41, hx41, hF⟩ := bind_some hF
        refine W_region ?_
        refine L_lda (cs := [.int .i64 r_.kind, v1_1, v1_2, .int .i64 r_.bound, v1_4]) rfl Try.isAgg36 Try.sizeOf36 sf3 (At.sub0 (Blk.at (Star.blkAt 0 hst rfl)) 0 5) rfl ?_
        obtain ⟨Hb43, hle44, hsb45, hfz46, hbk47⟩ := Star.borrow hst
        refine L_call (args := #[.agg #[.int .i64 r_.kind, v1_1, v1_2, .int .i64 r_.bound, v1_4]]) rfl Try.call99 (ops1 rfl) (s_l6Linear_c (r_ := r_) hsb45 (RP.mono _ h1_1 hle44) (RP.mono _ h1_2 hle44) (RP.mono _ h1_4 hle44) hx41) ?_
        rintro _ w48 ⟨rfl, hst⟩
        have hst := hbk47 hst closedL_nil
        refine L_as (v := .bool x41) rfl rfl ?_
        refine L_nil ?_
        refine W_ret ?_
        refine retG1 (v1 := .bool x41) Try.results82 rfl ?_
        obtain rfl := so hF
        exact ⟨rfl, (Star.keepN 0 hst)⟩
      ·
        have hF := (ite_f hc35).symm.trans hF
        refine W_seq ?_
        refine W_region ?_
        refine L_eql (m := r_.kind) (n := 2) rfl rfl rfl ?_
        refine L_as (v := .bool (r_.kind == 2)) rfl rfl ?_
        refine L_nil ?_
        refine W_cond (b := (r_.kind == 2)) rfl (fun hc49 => ?_) (fun hc49 => ?_)
        ·
          have hF := (ite_t hc49).symm.trans hF
          refine W_seq ?_
          refine W_region ?_
          refine L_as (v := .bool true) rfl rfl ?_
          refine L_nil ?_
          refine W_ret ?_
          refine retG1 (v1 := .bool true) Try.results82 rfl ?_
          obtain rfl := so hF
          exact ⟨rfl, (Star.keepN 0 hst)⟩
        ·
          have hF := (ite_f hc49).symm.trans hF
          refine W_seq ?_
          refine W_region ?_
          refine L_eql (m := r_.kind) (n := 3) rfl rfl rfl ?_
          refine L_as (v := .bool (r_.kind == 3)) rfl rfl ?_
          refine L_nil ?_
          refine W_cond (b := (r_.kind == 3)) rfl (fun hc50 => ?_) (fun hc50 => ?_)
          ·
            have hF := (ite_t hc50).symm.trans hF
            refine W_seq ?_
            obtain ⟨x56, hx56, hF⟩ := bind_some hF
            refine W_region ?_
            refine L_lda (cs := [.int .i64 r_.kind, v1_1, v1_2, .int .i64 r_.bound, v1_4]) rfl Try.isAgg36 Try.sizeOf36 sf3 (At.sub0 (Blk.at (Star.blkAt 0 hst rfl)) 0 5) rfl ?_
            obtain ⟨Hb58, hle59, hsb60, hfz61, hbk62⟩ := Star.borrow hst
            refine L_call (args := #[.agg #[.int .i64 r_.kind, v1_1, v1_2, .int .i64 r_.bound, v1_4]]) rfl Try.call100 (ops1 rfl) (s_l6Table_c (r_ := r_) hsb60 (RP.mono _ h1_1 hle59) (RP.mono _ h1_2 hle59) (RP.mono _ h1_4 hle59) hx56) ?_
            rintro _ w63 ⟨rfl, hst⟩
            have hst := hbk62 hst closedL_nil
            refine L_as (v := .bool x56) rfl rfl ?_
            refine L_nil ?_
            refine W_ret ?_
            refine retG1 (v1 := .bool x56) Try.results82 rfl ?_
            obtain rfl := so hF
            exact ⟨rfl, (Star.keepN 0 hst)⟩
          ·
            have hF := (ite_f hc50).symm.trans hF
            refine W_seq ?_
            refine W_region ?_
            refine L_eql (m := r_.kind) (n := 4) rfl rfl rfl ?_
            refine L_as (v := .bool (r_.kind == 4)) rfl rfl ?_
            refine L_nil ?_
            refine W_cond (b := (r_.kind == 4)) rfl (fun hc64 => ?_) (fun hc64 => ?_)
            ·
              have hF := (ite_t hc64).symm.trans hF
              refine W_seq ?_
              refine W_region ?_
              refine L_fa (o' := 1) rfl fa_36_1 sf3 rfl ?_
              refine L_ld (v := v1_1) rfl Try.isAgg23 rfl (At.cell0 (Blk.at (Star.blkAt 0 hst rfl)) (j := 1) rfl) ?_
              refine L_len (v := v1_1) (n := List.length r_.vars) rfl Try.underlying23 rfl (slice_len h1_1) ?_
              refine L_eql (m := (r_.vars.length : Int)) (n := 2) rfl rfl rfl ?_
              refine L_as (v := .bool ((r_.vars.length : Int) == 2)) rfl rfl ?_
              refine L_nil ?_
              refine W_ret ?_
              refine retG1 (v1 := .bool ((r_.vars.length : Int) == 2)) Try.results82 rfl ?_
              obtain rfl := so hF
              exact ⟨rfl, (Star.keepN 0 hst)⟩
            ·
              have hF := (ite_f hc64).symm.trans hF
              refine W_skip ?_
              refine W_seq ?_
              refine W_region ?_
              refine L_as (v := .bool false) rfl rfl ?_
              refine L_nil ?_
              refine W_ret ?_
              refine retG1 (v1 := .bool false) Try.results82 rfl ?_
              obtain rfl := so hF
              exact ⟨rfl, (Star.keepN 0 hst)⟩

end Go.Proofs.Ytcjjfneofcpmfaa

/- Part of a proof by program: W3. -/
import Derived.Test.YteojddfaiomfmaaD1
import Derived.Test.YteojddfaiomfmaaW2
namespace Go.Proofs.Yteojddfaiomfmaa
open Go Go.E Go.L Go.RowKit
set_option linter.unusedVariables false
set_option linter.unusedSimpArgs false
set_option maxRecDepth 100000

theorem l_FnExactEncodeCells_c {fu : Nat} {aM : Model} {aCells : List Int} {v0_0 : Value} {v0_1 : Value} {v1 : Value} {H : FH} {w : World} (hst : Star H w []) (h0_0 : (RP.slice 3 RP.int).rel H [v0_0] aM.sizes) (h0_1 : (RP.slice 76 (rRule 3 22)).rel H [v0_1] aM.rules) (h1 : (RP.slice 3 RP.int).rel H [v1] aCells) {r : Bool} (hF : l_FnExactEncodeCells fu aM aCells = some r) :
    C Try.prog 7 #[.agg #[v0_0, v0_1], v1] w fun v w' => v = .bool r ∧ Star H w' [] := by
  unfold l_FnExactEncodeCells at hF
  refine C_enter Try.func7 rfl Try.ntmps7 rfl ?_
  refine W_seq ?_
  refine W_region ?_
  refine L_box (v := .agg #[v0_0, v0_1]) (cs := #[v0_0, v0_1]) rfl rfl rfl hst ?_
  intro g3 w4 hst
  refine L_as (v := .bool false) rfl rfl ?_
  refine L_nil ?_
  refine W_seq ?_
  refine W_seq ?_
  refine W_region ?_
  refine L_mv (v := v1) rfl rfl ?_
  refine L_len (v := v1) (n := List.length aCells) rfl Try.underlying22 rfl (slice_len h1) ?_
  refine L_gtr (m := (aCells.length : Int)) (n := 1048576) rfl rfl rfl ?_
  refine L_nil ?_
  refine W_cond (b := decide ((aCells.length : Int) > 1048576)) rfl (fun hc5 => ?_) (fun hc5 => ?_)
  ·
    have hF := (ite_t hc5).symm.trans hF
    refine W_seq ?_
    refine W_region ?_
    refine L_as (v := .bool true) rfl rfl ?_
    refine L_nil ?_
    refine W_ret ?_
    refine retG1 (v1 := .bool true) Try.results7 rfl ?_
    obtain rfl := so hF
    exact ⟨rfl, (Star.keepN 0 hst)⟩
  ·
    have hF := (ite_f hc5).symm.trans hF
    refine W_skip ?_
    refine W_seq ?_
    refine W_region ?_
    refine L_as (v := .int .i64 1048576) rfl rfl ?_
    refine L_nil ?_
    refine W_seq ?_
    obtain ⟨x11, hx11, hF⟩ := bind_some hF
    refine W_region ?_
    refine L_lda (cs := [v0_0, v0_1]) rfl Try.isAgg25 Try.sizeOf25 rfl (At.sub0 (Blk.at (Star.blkAt 0 hst rfl)) 0 2) rfl ?_
    refine L_mv (v := .int .i64 1048576) rfl rfl ?_
    obtain ⟨Hb13, hle14, hsb15, hfz16, hbk17⟩ := Star.borrow hst
    refine L_call (args := #[.agg #[v0_0, v0_1], .int .i64 1048576]) rfl Try.call11 (ops2 rfl rfl) (l_szModel_c (a := aM) (left := 1048576) hsb15 (RP.mono _ h0_0 hle14) (RP.mono _ h0_1 hle14) hx11) ?_
    rintro _ w18 ⟨rfl, hst⟩
    have hst := hbk17 hst closedL_nil
    refine L_as (v := .int .i64 x11) rfl rfl ?_
    refine L_nil ?_
    refine W_seq ?_
    refine W_seq ?_
    refine W_region ?_
    refine L_mv (v := .int .i64 x11) rfl rfl ?_
    refine L_lss (m := x11) (n := 0) rfl rfl rfl ?_
    refine L_nil ?_
    refine W_cond (b := decide (x11 < 0)) rfl (fun hc19 => ?_) (fun hc19 => ?_)
    ·
      have hF := (ite_t hc19).symm.trans hF
      refine W_seq ?_
      refine W_region ?_
      refine L_as (v := .bool true) rfl rfl ?_
      refine L_nil ?_
      refine W_ret ?_
      refine retG1 (v1 := .bool true) Try.results7 rfl ?_
      obtain rfl := so hF
      exact ⟨rfl, (Star.keepN 0 hst)⟩
    ·
      have hF := (ite_f hc19).symm.trans hF
      refine W_skip ?_
      refine W_seq ?_
      obtain ⟨x25, hx25, hF⟩ := bind_some hF
      obtain ⟨x34, hx34, hF⟩ := bind_some hF
      obtain ⟨x45, hx45, hF⟩ := bind_some hF
      refine W_region ?_
      refine L_lda (cs := [v0_0, v0_1]) rfl Try.isAgg25 Try.sizeOf25 rfl (At.sub0 (Blk.at (Star.blkAt 0 hst rfl)) 0 2) rfl ?_
      obtain ⟨Hb48, hle49, hsb50, hfz51, hbk52⟩ := Star.borrow hst
      refine L_call (args := #[.agg #[v0_0, v0_1]]) rfl Try.call13 (ops1 rfl) (l_toModel_c (a := aM) hsb50 (RP.mono _ h0_0 hle49) (RP.mono _ h0_1 hle49) hx25) ?_
      rintro _ w53 ⟨r53_0, r53_1, rfl, hst⟩
      have hst := hbk52 hst (closedL_cons (closed_own (OR.closed_ownS closed_int) _ _) (closedL_cons (closed_own (OR.closed_ownS closed_oRule) _ _) closedL_nil))
      refine L_mv (v := v1) rfl rfl ?_
      obtain ⟨Hb56, hle57, hsb58, hfz59, hbk60⟩ := Star.borrow hst
      refine L_call (args := #[v1]) rfl Try.call24 (ops1 rfl) (l_toIntS_c (a := aCells) hsb58 (RP.mono _ h1 hle57) hx34) ?_
      rintro r61_0 w61 ⟨_, rfl, hst⟩
      have hst := hbk60 hst (closedL_cons (closed_own (OR.closed_ownS closed_int) _ _) closedL_nil)
      obtain ⟨Hb63, hle64, hsb65, hfz66, hbk67⟩ := Star.borrow hst
      have hb68 : (RP.slice 3 RP.int).rel Hb63 [r53_0] x25.sizes := fz_own 1 hfz66 rfl
      have hb69 : (RP.slice 68 (rRule 3 22)).rel Hb63 [r53_1] x25.rules := fz_own 2 hfz66 rfl
      have hb70 : (RP.slice 3 RP.int).rel Hb63 [r61_0] x34 := fz_own 0 hfz66 rfl
      refine L_call (args := #[.agg #[r53_0, r53_1], r61_0]) rfl Try.call27 (ops2 rfl rfl) (s_EncodeCells_c (m := x25) (cells := x34) hsb65 hb68 hb69 hb70 hx45) ?_
      rintro _ w71 ⟨r71_0, rfl, hst⟩
      have hst := hbk67 hst (closedL_cons (closed_own (OR.closed_ownS closed_bool) _ _) closedL_nil)
      refine L_mv (v := .tuple #[r71_0, .bool x45.2]) rfl rfl ?_
      refine L_ex (v := r71_0) rfl rfl rfl ?_
      refine L_ex (v := .bool x45.2) rfl rfl rfl ?_
      refine L_as (v := r71_0) rfl rfl ?_
      refine L_as (v := .bool x45.2) rfl rfl ?_
      refine L_nil ?_
      refine W_seq ?_
      obtain ⟨x78, hx78, hF⟩ := bind_some hF
      refine W_region ?_
      refine L_lda (cs := [v0_0, v0_1]) rfl Try.isAgg25 Try.sizeOf25 rfl (At.sub0 (Blk.at (Star.blkAt 4 hst rfl)) 0 2) rfl ?_
      obtain ⟨Hb85, hle86, hsb87, hfz88, hbk89⟩ := Star.borrow hst
      refine L_call (args := #[.agg #[v0_0, v0_1]]) rfl Try.call13 (ops1 rfl) (l_toModel_c (a := aM) hsb87 (RP.mono _ h0_0 hle86) (RP.mono _ h0_1 hle86) hx78) ?_
      rintro _ w90 ⟨r90_0, r90_1, rfl, hst⟩
      have hst := hbk89 hst (closedL_cons (closed_own (OR.closed_ownS closed_int) _ _) (closedL_cons (closed_own (OR.closed_ownS closed_oRule) _ _) closedL_nil))
      refine L_al (cs := #[(.slice none 0 0), (.slice none 0 0)]) rfl Try.zeroValue30 rfl hst ?_
      intro g93 w94 hst
      refine L_staB (vs := #[r90_0, r90_1]) (cs2 := #[r90_0, r90_1]) 0 rfl Try.sizeOf30 rfl rfl rfl (ones_cons (one_len (Star.len 1 hst rfl)) (ones_cons (one_len (Star.len 2 hst rfl)) ones_nil)) hst rfl (by decide) rfl ?_
      intro w95 hst
      refine L_nil ?_
      refine W_seq ?_
      obtain ⟨x101, hx101, hF⟩ := bind_some hF
      refine W_region ?_
      refine L_mv (v := v1) rfl rfl ?_
      obtain ⟨Hb104, hle105, hsb106, hfz107, hbk108⟩ := Star.borrow hst
      refine L_call (args := #[v1]) rfl Try.call24 (ops1 rfl) (l_toIntS_c (a := aCells) hsb106 (RP.mono _ h1 hle105) hx101) ?_
      rintro r109_0 w109 ⟨_, rfl, hst⟩
      have hst := hbk108 hst (closedL_cons (closed_own (OR.closed_ownS closed_int) _ _) closedL_nil)
      refine L_as (v := r109_0) rfl rfl ?_
      refine L_nil ?_
      refine W_seq ?_
      obtain ⟨x119, hx119, hF⟩ := bind_some hF
      refine W_region ?_
      refine L_lda (cs := [r90_0, r90_1]) rfl Try.isAgg30 Try.sizeOf30 rfl (At.sub0 (Blk.at (Star.blkAt 1 hst rfl)) 0 2) rfl ?_
      refine L_mv (v := r109_0) rfl rfl ?_
      obtain ⟨Hb122, hle123, hsb124, hfz125, hbk126⟩ := Star.borrow hst
      have hb127 : (RP.slice 3 RP.int).rel Hb122 [r90_0] x78.sizes := fz_own 2 hfz125 rfl
      have hb128 : (RP.slice 68 (rRule 3 22)).rel Hb122 [r90_1] x78.rules := fz_own 3 hfz125 rfl
      have hb129 : (RP.slice 3 RP.int).rel Hb122 [r109_0] x101 := fz_own 0 hfz125 rfl
      refine L_call (args := #[.agg #[r90_0, r90_1], r109_0]) rfl Try.call28 (ops2 rfl rfl) (i_EncodeCells_c (m := x78) (cells := x101) hsb124 hb127 hb128 hb129 hx119) ?_
      rintro _ w130 ⟨r130_0, rfl, hst⟩
      have hst := hbk126 hst (closedL_cons (closed_own (OR.closed_ownS closed_bool) _ _) closedL_nil)
      refine L_mv (v := .tuple #[r130_0, .bool x119.2]) rfl rfl ?_
      refine L_ex (v := r130_0) rfl rfl rfl ?_
      refine L_ex (v := .bool x119.2) rfl rfl rfl ?_
      refine L_as (v := r130_0) rfl rfl ?_
      refine L_as (v := .bool x119.2) rfl rfl ?_
      refine L_nil ?_
      refine W_seq ?_
      refine W_seq ?_
      obtain ⟨x139, hx139, hF⟩ := bind_some hF
      obtain ⟨R141, hR141⟩ : ∃ R : Fr → World → Prop, R = fun f w_ => f 1 = v1 ∧ f 2 = .pointer (some ⟨g3, 0, none⟩) ∧ f 6 = r71_0 ∧ f 7 = .bool x45.2 ∧ f 8 = .pointer (some ⟨g93, 0, none⟩) ∧ f 9 = r109_0 ∧ f 10 = r130_0 ∧ f 11 = .bool x119.2 ∧ f 51 = .bool ((!x139) || (x119.2 != x45.2)) ∧ Star H w_ ([own (OR.ownS 4 (OR.frz RP.bool)) [r71_0] x45.1, own (OR.ownS 3 (OR.frz RP.int)) [r109_0] x101, own (OR.ownS 4 (OR.frz RP.bool)) [r130_0] x119.1, own (OR.ownS 3 (OR.frz RP.int)) [r90_0] x78.sizes, own (OR.ownS 68 (oRule 3 22)) [r90_1] x78.rules, box g93 30 #[r90_0, r90_1], box g3 25 #[v0_0, v0_1]]) := ⟨_, rfl⟩
      refine W_join R141 ?_ ?_
      ·
        refine W_region ?_
        refine L_mv (v := r130_0) rfl rfl ?_
        refine L_mv (v := r71_0) rfl rfl ?_
        obtain ⟨Hb142, hle143, hsb144, hfz145, hbk146⟩ := Star.borrow hst
        have hb147 : (RP.slice 4 RP.bool).rel Hb142 [r130_0] x119.1 := fz_own 0 hfz145 rfl
        have hb148 : (RP.slice 4 RP.bool).rel Hb142 [r71_0] x45.1 := fz_own 5 hfz145 rfl
        refine L_call (args := #[r130_0, r71_0]) rfl Try.call29 (ops2 rfl rfl) (l_eqBoolS_c (a := x119.1) (b := x45.1) hsb144 hb147 hb148 hx139) ?_
        rintro _ w149 ⟨rfl, hst⟩
        have hst := hbk146 hst closedL_nil
        refine L_not_ (b := x139) rfl rfl ?_
        refine L_mv (v := .bool (!x139)) rfl rfl ?_
        refine L_split (d := 47) (b := (!x139)) rfl (fun hc150 => ?_) (fun hc150 => ?_)
        ·
          refine L_pass rfl ?_
          refine L_pass rfl ?_
          refine L_pass rfl ?_
          refine L_pick (v := .bool ((!x139) || (x119.2 != x45.2))) rfl rfl (or_t hc150) ?_
          refine L_nil ?_
          have hst := Star.get 9 hst rfl
          have hst := Star.get 3 hst rfl
          have hst := Star.get 5 hst rfl
          have hst := Star.get 5 hst rfl
          have hst := Star.get 4 hst rfl
          have hst := Star.get 5 hst rfl
          have hst := Star.get 6 hst rfl
          show R141 _ _
          rw [hR141]
          exact ⟨rfl, rfl, rfl, rfl, rfl, rfl, rfl, rfl, rfl, (Star.keepN 7 hst)⟩
        ·
          refine L_mv (v := .bool x119.2) rfl rfl ?_
          refine L_mv (v := .bool x45.2) rfl rfl ?_
          refine L_bneq (b := x119.2) (c := x45.2) rfl Try.underlying4 rfl rfl ?_
          refine L_pick (v := .bool ((!x139) || (x119.2 != x45.2))) rfl rfl (or_f hc150 rfl) ?_
          refine L_nil ?_
          have hst := Star.get 9 hst rfl
          have hst := Star.get 3 hst rfl
          have hst := Star.get 5 hst rfl
          have hst := Star.get 5 hst rfl
          have hst := Star.get 4 hst rfl
          have hst := Star.get 5 hst rfl
          have hst := Star.get 6 hst rfl
          show R141 _ _
          rw [hR141]
          exact ⟨rfl, rfl, rfl, rfl, rfl, rfl, rfl, rfl, rfl, (Star.keepN 7 hst)⟩
      ·
        intro f w_ hR
        rw [hR141] at hR
        obtain ⟨sf1, sf2, sf6, sf7, sf8, sf9, sf10, sf11, sf51, hst⟩ := hR
        clear hR141
        refine W_cond (b := ((!x139) || (x119.2 != x45.2))) sf51 (fun hc151 => ?_) (fun hc151 => ?_)
        ·
          have hF := (ite_t hc151).symm.trans hF
          refine W_seq ?_
          refine W_region ?_
          refine L_as (v := .bool false) rfl rfl ?_
          refine L_nil ?_
          refine W_ret ?_
          refine retG1 (v1 := .bool false) Try.results7 rfl ?_
          obtain rfl := so hF
          exact ⟨rfl, (Star.keepN 0 hst)⟩
        ·
          have hF := (ite_f hc151).symm.trans hF
          refine W_skip ?_
          refine W_seq ?_
          refine W_seq ?_
          obtain ⟨x157, hx157, hF⟩ := bind_some hF
          obtain ⟨x170, hx170, hF⟩ := bind_some hF
          refine W_drawS 3 [isV (.agg #[r90_0, r90_1]), isV (.agg #[v0_0, v0_1]), exA fun u_0 => exA fun u_1 => isV (.agg #[u_0, u_1])] [own (OR.ownS 4 (OR.frz RP.bool)) [r71_0] x45.1, own (OR.ownS 3 (OR.frz RP.int)) [r109_0] x101, own (OR.ownS 4 (OR.frz RP.bool)) [r130_0] x119.1, own (OR.ownS 3 (OR.frz RP.int)) [r90_0] x78.sizes, own (OR.ownS 68 (oRule 3 22)) [r90_1] x78.rules, box g93 30 #[r90_0, r90_1], box g3 25 #[v0_0, v0_1]] [.made 2 54 (fun v_ => own (OR.ownS 3 (OR.frz RP.int)) [(aggC v_ 0)] x157.sizes) none, .made 2 54 (fun v_ => own (OR.ownS 68 (oRule 3 22)) [(aggC v_ 1)] x157.rules) none] ([]) [([], []), ([], []), ([], [0, 1])] (S := [(some 2, some 54, none), (some 2, some 54, none)]) Try_mix (by kernel_rfl) rfl (by kernel_rfl) (amF_cons (mono_V _) (amF_cons (mono_V _) (amF_cons (mono_exA fun _ => mono_exA fun _ => mono_V _) amF_nil))) hst ?_ (fun f w_ H172 hS172 hE172 hT172 hst => ?_)
          ·
            refine opsS_cons ?_ ?_
            ·
              intro f w_ H172 X172 hS172 hE172 hP172 hst
              refine L_lda (cs := [r90_0, r90_1]) rfl Try.isAgg30 Try.sizeOf30 ((hS172 8 rfl).trans sf8) (At.sub0 (Blk.at (Star.blkAt 5 hst rfl)) 0 2) rfl ?_
              exact L_nil ⟨rfl, _, _, _, rfl, rfl, Le.refl _, rfl, hst⟩
            refine opsS_cons ?_ ?_
            ·
              intro f w_ H172 X172 hS172 hE172 hP172 hst
              refine L_lda (cs := [v0_0, v0_1]) rfl Try.isAgg25 Try.sizeOf25 ((hS172 2 rfl).trans sf2) (At.sub0 (Blk.at (Star.blkAt 6 hst rfl)) 0 2) rfl ?_
              exact L_nil ⟨rfl, _, _, _, rfl, rfl, Le.refl _, rfl, hst⟩
            refine opsS_cons ?_ ?_
            ·
              intro f w_ H172 X172 hS172 hE172 hP172 hst
              obtain ⟨Hb181, hle182, hsb183, hfz184, hbk185⟩ := Star.borrow hst
              refine L_call (args := #[.agg #[v0_0, v0_1]]) rfl Try.call13 (ops1 (hP172 1 53 rfl rfl)) (l_toModel_c (a := aM) hsb183 (RP.mono _ h0_0 (Le.trans hE172 hle182)) (RP.mono _ h0_1 (Le.trans hE172 hle182)) hx157) ?_
              rintro _ w186 ⟨r186_0, r186_1, rfl, hst⟩
              have hst := hbk185 hst (closedL_cons (closed_own (OR.closed_ownS closed_int) _ _) (closedL_cons (closed_own (OR.closed_ownS closed_oRule) _ _) closedL_nil))
              have hst := Star.get 1 hst rfl
              have hst := Star.get 1 hst rfl
              have hst := Star.get 8 hst rfl
              have hst := Star.get 8 hst rfl
              have hst := Star.get 8 hst rfl
              have hst := Star.get 8 hst rfl
              have hst := Star.get 8 hst rfl
              have hst := Star.get 8 hst rfl
              have hst := Star.get 8 hst rfl
              exact L_nil ⟨rfl, _, _, _, rfl, rfl, Le.refl _, ⟨_, _, rfl⟩, hst⟩
            exact opsS_nil
          ·
            have hst : Star H172 w_ ([own (OR.ownS 4 (OR.frz RP.bool)) [r71_0] x45.1, own (OR.ownS 3 (OR.frz RP.int)) [r109_0] x101, own (OR.ownS 4 (OR.frz RP.bool)) [r130_0] x119.1, own (OR.ownS 3 (OR.frz RP.int)) [r90_0] x78.sizes, own (OR.ownS 68 (oRule 3 22)) [r90_1] x78.rules, box g93 30 #[r90_0, r90_1], box g3 25 #[v0_0, v0_1], own (OR.ownS 3 (OR.frz RP.int)) [(aggC (f 54) 0)] x157.sizes, own (OR.ownS 68 (oRule 3 22)) [(aggC (f 54) 1)] x157.rules]) := hst
            obtain ⟨u189_0, u189_1, hv189⟩ := (hT172 2 54 rfl rfl)
            have hren : Star H172 w_ ([own (OR.ownS 4 (OR.frz RP.bool)) [r71_0] x45.1, own (OR.ownS 3 (OR.frz RP.int)) [r109_0] x101, own (OR.ownS 4 (OR.frz RP.bool)) [r130_0] x119.1, own (OR.ownS 3 (OR.frz RP.int)) [r90_0] x78.sizes, own (OR.ownS 68 (oRule 3 22)) [r90_1] x78.rules, box g93 30 #[r90_0, r90_1], box g3 25 #[v0_0, v0_1], own (OR.ownS 3 (OR.frz RP.int)) [(aggC (f 54) 0)] x157.sizes, own (OR.ownS 68 (oRule 3 22)) [(aggC (f 54) 1)] x157.rules]) := hst
            rw [hv189] at hren
            have hst : Star H172 w_ ([own (OR.ownS 4 (OR.frz RP.bool)) [r71_0] x45.1, own (OR.ownS 3 (OR.frz RP.int)) [r109_0] x101, own (OR.ownS 4 (OR.frz RP.bool)) [r130_0] x119.1, own (OR.ownS 3 (OR.frz RP.int)) [r90_0] x78.sizes, own (OR.ownS 68 (oRule 3 22)) [r90_1] x78.rules, box g93 30 #[r90_0, r90_1], box g3 25 #[v0_0, v0_1], own (OR.ownS 3 (OR.frz RP.int)) [u189_0] x157.sizes, own (OR.ownS 68 (oRule 3 22)) [u189_1] x157.rules]) := hren
            obtain ⟨Hb190, hle191, hsb192, hfz193, hbk194⟩ := Star.borrow hst
            have hb195 : (RP.slice 3 RP.int).rel Hb190 [r90_0] x78.sizes := fz_own 3 hfz193 rfl
            have hb196 : (RP.slice 68 (rRule 3 22)).rel Hb190 [r90_1] x78.rules := fz_own 4 hfz193 rfl
            have hb197 : (RP.slice 3 RP.int).rel Hb190 [u189_0] x157.sizes := fz_own 7 hfz193 rfl
            have hb198 : (RP.slice 68 (rRule 3 22)).rel Hb190 [u189_1] x157.rules := fz_own 8 hfz193 rfl
            refine L_call (args := #[.agg #[r90_0, r90_1], .agg #[u189_0, u189_1]]) rfl Try.call15 (ops2 (hT172 0 52 rfl rfl) hv189) (l_eqModel_c (a := x78) (b := x157) hsb192 hb195 hb196 hb197 hb198 hx170) ?_
            rintro _ w199 ⟨rfl, hst⟩
            have hst := hbk194 hst closedL_nil
            refine L_not_ (b := x170) rfl rfl ?_
            refine L_nil ?_
            refine W_cond (b := (!x170)) rfl (fun hc200 => ?_) (fun hc200 => ?_)
            ·
              have hF := (ite_t hc200).symm.trans hF
              refine W_seq ?_
              refine W_region ?_
              refine L_as (v := .bool false) rfl rfl ?_
              refine L_nil ?_
              refine W_ret ?_
              refine retG1 (v1 := .bool false) Try.results7 rfl ?_
              obtain rfl := so hF
              exact ⟨rfl, (Star.down (Star.keepN 0 hst) hE172 closedL_nil)⟩
            ·
              have hF := (ite_f hc200).symm.trans hF
              refine W_skip ?_
              refine W_seq ?_
              refine W_seq ?_
              obtain ⟨x206, hx206, hF⟩ := bind_some hF
              obtain ⟨x216, hx216, hF⟩ := bind_some hF
              refine W_region ?_
              refine L_mv (v := r109_0) rfl ((hS172 9 rfl).trans sf9) ?_
              refine L_mv (v := v1) rfl ((hS172 1 rfl).trans sf1) ?_
              obtain ⟨Hb218, hle219, hsb220, hfz221, hbk222⟩ := Star.borrow hst
              refine L_call (args := #[v1]) rfl Try.call24 (ops1 rfl) (l_toIntS_c (a := aCells) hsb220 (RP.mono _ h1 (Le.trans hE172 hle219)) hx206) ?_
              rintro r223_0 w223 ⟨_, rfl, hst⟩
              have hst := hbk222 hst (closedL_cons (closed_own (OR.closed_ownS closed_int) _ _) closedL_nil)
              obtain ⟨Hb225, hle226, hsb227, hfz228, hbk229⟩ := Star.borrow hst
              have hb230 : (RP.slice 3 RP.int).rel Hb225 [r109_0] x101 := fz_own 2 hfz228 rfl
              have hb231 : (RP.slice 3 RP.int).rel Hb225 [r223_0] x206 := fz_own 0 hfz228 rfl
              refine L_call (args := #[r109_0, r223_0]) rfl Try.call26 (ops2 rfl rfl) (l_eqIntS_c (a := x101) (b := x206) hsb227 hb230 hb231 hx216) ?_
              rintro _ w232 ⟨rfl, hst⟩
              have hst := hbk229 hst closedL_nil
              refine L_not_ (b := x216) rfl rfl ?_
              refine L_nil ?_
              refine W_cond (b := (!x216)) rfl (fun hc233 => ?_) (fun hc233 => ?_)
              ·
                have hF := (ite_t hc233).symm.trans hF
                refine W_seq ?_
                refine W_region ?_
                refine L_as (v := .bool false) rfl rfl ?_
                refine L_nil ?_
                refine W_ret ?_
                refine retG1 (v1 := .bool false) Try.results7 rfl ?_
                obtain rfl := so hF
                exact ⟨rfl, (Star.down (Star.keepN 0 hst) hE172 closedL_nil)⟩
              ·
                have hF := (ite_f hc233).symm.trans hF
                refine W_skip ?_
                refine W_seq ?_
                refine W_region ?_
                refine L_as (v := .int .i64 1) rfl rfl ?_
                refine L_nil ?_
                refine W_seq ?_
                obtain ⟨x239, hx239, hF⟩ := bind_some hF
                refine W_region ?_
                refine L_lda (cs := [r90_0, r90_1]) rfl Try.isAgg30 Try.sizeOf30 ((hS172 8 rfl).trans sf8) (At.sub0 (Blk.at (Star.blkAt 6 hst rfl)) 0 2) rfl ?_
                refine L_mv (v := .int .i64 1) rfl rfl ?_
                have hst := Star.get 5 hst rfl
                have hst := Star.get 5 hst rfl
                obtain ⟨Hb241, hle242, hsb243, hfz244, hbk245⟩ := Star.lend [_, _] hst
                refine L_call (args := #[.agg #[r90_0, r90_1], .int .i64 1]) rfl Try.call30 (ops2 rfl rfl) (l_markModel_c (a := x78) (k := 1) hsb243 hx239) ?_
                rintro _ w246 ⟨rfl, hst⟩
                have hst := hbk245 hst (closedL_cons (closed_own (OR.closed_ownS closed_int) _ _) (closedL_cons (closed_own (OR.closed_ownS closed_oRule) _ _) closedL_nil))
                refine L_as (v := .int .i64 x239.1) rfl rfl ?_
                refine L_nil ?_
                refine W_seq ?_
                obtain ⟨x252, hx252, hF⟩ := bind_some hF
                refine W_region ?_
                refine L_mv (v := r109_0) rfl ((hS172 9 rfl).trans sf9) ?_
                refine L_mv (v := .int .i64 x239.1) rfl rfl ?_
                have hst := Star.get 4 hst rfl
                obtain ⟨Hb254, hle255, hsb256, hfz257, hbk258⟩ := Star.lend [_] hst
                refine L_call (args := #[r109_0, .int .i64 x239.1]) rfl Try.call31 (ops2 rfl rfl) (l_markIntS_c (a := x101) (k := x239.1) hsb256 hx252) ?_
                rintro _ w259 ⟨rfl, hst⟩
                have hst := hbk258 hst (closedL_cons (closed_own (OR.closed_ownS closed_int) _ _) closedL_nil)
                refine L_as (v := .int .i64 x252.1) rfl rfl ?_
                refine L_nil ?_
                refine W_seq ?_
                refine W_seq ?_
                obtain ⟨b269, hb269, hF⟩ := bind_some hF
                obtain ⟨R270, hR270⟩ : ∃ R : Fr → World → Prop, R = fun f w_ => f 1 = v1 ∧ f 2 = .pointer (some ⟨g3, 0, none⟩) ∧ f 6 = r71_0 ∧ f 7 = .bool x45.2 ∧ f 10 = r130_0 ∧ f 80 = .bool (b269 || (x119.2 != x45.2)) ∧ Star H172 w_ ([own (OR.ownS 4 (OR.frz RP.bool)) [r71_0] x45.1, own (OR.ownS 4 (OR.frz RP.bool)) [r130_0] x119.1, box g3 25 #[v0_0, v0_1]]) := ⟨_, rfl⟩
                refine W_join R270 ?_ ?_
                ·
                  refine W_region ?_
                  refine L_mv (v := .int .i64 x252.1) rfl rfl ?_
                  refine L_lss (m := x252.1) (n := 0) rfl rfl rfl ?_
                  refine L_mv (v := .bool (decide (x252.1 < 0))) rfl rfl ?_
                  refine L_split (d := 70) (b := decide (x252.1 < 0)) rfl (fun hc271 => ?_) (fun hc271 => ?_)
                  ·
                    rw [ite_t hc271] at hb269
                    refine L_pass rfl ?_
                    refine L_pass rfl ?_
                    refine L_pass rfl ?_
                    refine L_pass rfl ?_
                    refine L_pick (v := .bool b269) rfl rfl (congrArg Value.bool (so hb269)) ?_
                    refine L_mv (v := .bool b269) rfl rfl ?_
                    refine L_split (d := 76) (b := b269) rfl (fun hc272 => ?_) (fun hc272 => ?_)
                    ·
                      refine L_pass rfl ?_
                      refine L_pass rfl ?_
                      refine L_pass rfl ?_
                      refine L_pick (v := .bool (b269 || (x119.2 != x45.2))) rfl rfl (or_t hc272) ?_
                      refine L_nil ?_
                      have hst := Star.get 7 hst rfl
                      have hst := Star.get 6 hst rfl
                      have hst := Star.get 6 hst rfl
                      show R270 _ _
                      rw [hR270]
                      exact ⟨((hS172 1 rfl).trans sf1), ((hS172 2 rfl).trans sf2), ((hS172 6 rfl).trans sf6), ((hS172 7 rfl).trans sf7), ((hS172 10 rfl).trans sf10), rfl, (Star.keepN 3 hst)⟩
                    ·
                      refine L_mv (v := .bool x119.2) rfl ((hS172 11 rfl).trans sf11) ?_
                      refine L_mv (v := .bool x45.2) rfl ((hS172 7 rfl).trans sf7) ?_
                      refine L_bneq (b := x119.2) (c := x45.2) rfl Try.underlying4 rfl rfl ?_
                      refine L_pick (v := .bool (b269 || (x119.2 != x45.2))) rfl rfl (or_f hc272 rfl) ?_
                      refine L_nil ?_
                      have hst := Star.get 7 hst rfl
                      have hst := Star.get 6 hst rfl
                      have hst := Star.get 6 hst rfl
                      show R270 _ _
                      rw [hR270]
                      exact ⟨((hS172 1 rfl).trans sf1), ((hS172 2 rfl).trans sf2), ((hS172 6 rfl).trans sf6), ((hS172 7 rfl).trans sf7), ((hS172 10 rfl).trans sf10), rfl, (Star.keepN 3 hst)⟩
                  ·
                    rw [ite_f hc271] at hb269
                    obtain ⟨x267, hx267, hb269⟩ := bind_some hb269
                    refine L_mv (v := r130_0) rfl ((hS172 10 rfl).trans sf10) ?_
                    refine L_mv (v := r71_0) rfl ((hS172 6 rfl).trans sf6) ?_
                    obtain ⟨Hb273, hle274, hsb275, hfz276, hbk277⟩ := Star.borrow hst
                    have hb278 : (RP.slice 4 RP.bool).rel Hb273 [r130_0] x119.1 := fz_own 5 hfz276 rfl
                    have hb279 : (RP.slice 4 RP.bool).rel Hb273 [r71_0] x45.1 := fz_own 4 hfz276 rfl
                    refine L_call (args := #[r130_0, r71_0]) rfl Try.call29 (ops2 rfl rfl) (l_eqBoolS_c (a := x119.1) (b := x45.1) hsb275 hb278 hb279 hx267) ?_
                    rintro _ w280 ⟨rfl, hst⟩
                    have hst := hbk277 hst closedL_nil
                    refine L_not_ (b := x267) rfl rfl ?_
                    refine L_pick (v := .bool b269) rfl rfl (congrArg Value.bool (so hb269)) ?_
                    refine L_mv (v := .bool b269) rfl rfl ?_
                    refine L_split (d := 76) (b := b269) rfl (fun hc281 => ?_) (fun hc281 => ?_)
                    ·
                      refine L_pass rfl ?_
                      refine L_pass rfl ?_
                      refine L_pass rfl ?_
                      refine L_pick (v := .bool (b269 || (x119.2 != x45.2))) rfl rfl (or_t hc281) ?_
                      refine L_nil ?_
                      have hst := Star.get 7 hst rfl
                      have hst := Star.get 6 hst rfl
                      have hst := Star.get 6 hst rfl
                      show R270 _ _
                      rw [hR270]
                      exact ⟨((hS172 1 rfl).trans sf1), ((hS172 2 rfl).trans sf2), ((hS172 6 rfl).trans sf6), ((hS172 7 rfl).trans sf7), ((hS172 10 rfl).trans sf10), rfl, (Star.keepN 3 hst)⟩
                    ·
                      refine L_mv (v := .bool x119.2) rfl ((hS172 11 rfl).trans sf11) ?_
                      refine L_mv (v := .bool x45.2) rfl ((hS172 7 rfl).trans sf7) ?_
                      refine L_bneq (b := x119.2) (c := x45.2) rfl Try.underlying4 rfl rfl ?_
                      refine L_pick (v := .bool (b269 || (x119.2 != x45.2))) rfl rfl (or_f hc281 rfl) ?_
                      refine L_nil ?_
                      have hst := Star.get 7 hst rfl
                      have hst := Star.get 6 hst rfl
                      have hst := Star.get 6 hst rfl
                      show R270 _ _
                      rw [hR270]
                      exact ⟨((hS172 1 rfl).trans sf1), ((hS172 2 rfl).trans sf2), ((hS172 6 rfl).trans sf6), ((hS172 7 rfl).trans sf7), ((hS172 10 rfl).trans sf10), rfl, (Star.keepN 3 hst)⟩
                ·
                  intro f w_ hR
                  rw [hR270] at hR
                  obtain ⟨sf1, sf2, sf6, sf7, sf10, sf80, hst⟩ := hR
                  clear hR270
                  refine W_cond (b := (b269 || (x119.2 != x45.2))) sf80 (fun hc282 => ?_) (fun hc282 => ?_)
                  ·
                    have hF := (ite_t hc282).symm.trans hF
                    refine W_seq ?_
                    refine W_region ?_
                    refine L_as (v := .bool false) rfl rfl ?_
                    refine L_nil ?_
                    refine W_ret ?_
                    refine retG1 (v1 := .bool false) Try.results7 rfl ?_
                    obtain rfl := so hF
                    exact ⟨rfl, (Star.down (Star.keepN 0 hst) hE172 closedL_nil)⟩
                  ·
                    have hF := (ite_f hc282).symm.trans hF
                    refine W_skip ?_
                    refine W_seq ?_
                    refine W_region ?_
                    refine L_as (v := .int .i64 1) rfl rfl ?_
                    refine L_nil ?_
                    refine W_seq ?_
                    obtain ⟨x288, hx288, hF⟩ := bind_some hF
                    refine W_region ?_
                    refine L_mv (v := r130_0) rfl sf10 ?_
                    refine L_mv (v := .int .i64 1) rfl rfl ?_
                    have hst := Star.get 1 hst rfl
                    obtain ⟨Hb290, hle291, hsb292, hfz293, hbk294⟩ := Star.lend [_] hst
                    refine L_call (args := #[r130_0, .int .i64 1]) rfl Try.call32 (ops2 rfl rfl) (l_markBoolS_c (a := x119.1) (k := 1) hsb292 hx288) ?_
                    rintro _ w295 ⟨rfl, hst⟩
                    have hst := hbk294 hst (closedL_cons (closed_own (OR.closed_ownS closed_bool) _ _) closedL_nil)
                    refine L_as (v := .int .i64 x288.1) rfl rfl ?_
                    refine L_nil ?_
                    refine W_seq ?_
                    refine W_region ?_
                    refine L_as (v := .int .i64 1) rfl rfl ?_
                    refine L_nil ?_
                    refine W_seq ?_
                    obtain ⟨x302, hx302, hF⟩ := bind_some hF
                    refine W_region ?_
                    refine L_mv (v := r130_0) rfl sf10 ?_
                    refine L_mv (v := .int .i64 1) rfl rfl ?_
                    obtain ⟨Hb304, hle305, hsb306, hfz307, hbk308⟩ := Star.borrow hst
                    have hb309 : (RP.slice 4 RP.bool).rel Hb304 [r130_0] x288.2 := fz_own 0 hfz307 rfl
                    refine L_call (args := #[r130_0, .int .i64 1]) rfl Try.call33 (ops2 rfl rfl) (l_heldBoolS_c (a := x288.2) (k := 1) hsb306 hb309 hx302) ?_
                    rintro _ w310 ⟨rfl, hst⟩
                    have hst := hbk308 hst closedL_nil
                    refine L_as (v := .int .i64 x302) rfl rfl ?_
                    refine L_nil ?_
                    refine W_seq ?_
                    refine W_seq ?_
                    refine W_region ?_
                    refine L_mv (v := .int .i64 x302) rfl rfl ?_
                    refine L_lss (m := x302) (n := 0) rfl rfl rfl ?_
                    refine L_nil ?_
                    refine W_cond (b := decide (x302 < 0)) rfl (fun hc311 => ?_) (fun hc311 => ?_)
                    ·
                      have hF := (ite_t hc311).symm.trans hF
                      refine W_seq ?_
                      refine W_region ?_
                      refine L_as (v := .bool false) rfl rfl ?_
                      refine L_nil ?_
                      refine W_ret ?_
                      refine retG1 (v1 := .bool false) Try.results7 rfl ?_
                      obtain rfl := so hF
                      exact ⟨rfl, (Star.down (Star.keepN 0 hst) hE172 closedL_nil)⟩
                    ·
                      have hF := (ite_f hc311).symm.trans hF
                      refine W_skip ?_
                      refine W_seq ?_
                      refine W_seq ?_
                      refine W_region ?_
                      refine L_mv (v := .int .i64 x302) rfl rfl ?_
                      refine L_mv (v := .int .i64 x288.1) rfl rfl ?_
                      refine L_neq (m := x302) (n := x288.1) rfl rfl rfl ?_
                      refine L_nil ?_
                      refine W_cond (b := (x302 != x288.1)) rfl (fun hc312 => ?_) (fun hc312 => ?_)
                      ·
                        have hF := (ite_t hc312).symm.trans hF
                        refine W_seq ?_
                        refine W_region ?_
                        refine L_as (v := .bool false) rfl rfl ?_
                        refine L_nil ?_
                        refine W_ret ?_
                        refine retG1 (v1 := .bool false) Try.results7 rfl ?_
                        obtain rfl := so hF
                        exact ⟨rfl, (Star.down (Star.keepN 0 hst) hE172 closedL_nil)⟩
                      ·
                        have hF := (ite_f hc312).symm.trans hF
                        refine W_skip ?_
                        refine W_seq ?_
                        obtain ⟨x318, hx318, hF⟩ := bind_some hF
                        obtain ⟨x327, hx327, hF⟩ := bind_some hF
                        obtain ⟨x338, hx338, hF⟩ := bind_some hF
                        refine W_region ?_
                        refine L_lda (cs := [v0_0, v0_1]) rfl Try.isAgg25 Try.sizeOf25 sf2 (At.sub0 (Blk.at (Star.blkAt 2 hst rfl)) 0 2) rfl ?_
                        obtain ⟨Hb341, hle342, hsb343, hfz344, hbk345⟩ := Star.borrow hst
                        refine L_call (args := #[.agg #[v0_0, v0_1]]) rfl Try.call13 (ops1 rfl) (l_toModel_c (a := aM) hsb343 (RP.mono _ h0_0 (Le.trans hE172 hle342)) (RP.mono _ h0_1 (Le.trans hE172 hle342)) hx318) ?_
                        rintro _ w346 ⟨r346_0, r346_1, rfl, hst⟩
                        have hst := hbk345 hst (closedL_cons (closed_own (OR.closed_ownS closed_int) _ _) (closedL_cons (closed_own (OR.closed_ownS closed_oRule) _ _) closedL_nil))
                        refine L_mv (v := v1) rfl sf1 ?_
                        obtain ⟨Hb349, hle350, hsb351, hfz352, hbk353⟩ := Star.borrow hst
                        refine L_call (args := #[v1]) rfl Try.call24 (ops1 rfl) (l_toIntS_c (a := aCells) hsb351 (RP.mono _ h1 (Le.trans hE172 hle350)) hx327) ?_
                        rintro r354_0 w354 ⟨_, rfl, hst⟩
                        have hst := hbk353 hst (closedL_cons (closed_own (OR.closed_ownS closed_int) _ _) closedL_nil)
                        obtain ⟨Hb356, hle357, hsb358, hfz359, hbk360⟩ := Star.borrow hst
                        have hb361 : (RP.slice 3 RP.int).rel Hb356 [r346_0] x318.sizes := fz_own 1 hfz359 rfl
                        have hb362 : (RP.slice 68 (rRule 3 22)).rel Hb356 [r346_1] x318.rules := fz_own 2 hfz359 rfl
                        have hb363 : (RP.slice 3 RP.int).rel Hb356 [r354_0] x327 := fz_own 0 hfz359 rfl
                        refine L_call (args := #[.agg #[r346_0, r346_1], r354_0]) rfl Try.call28 (ops2 rfl rfl) (i_EncodeCells_c (m := x318) (cells := x327) hsb358 hb361 hb362 hb363 hx338) ?_
                        rintro _ w364 ⟨r364_0, rfl, hst⟩
                        have hst := hbk360 hst (closedL_cons (closed_own (OR.closed_ownS closed_bool) _ _) closedL_nil)
                        refine L_mv (v := .tuple #[r364_0, .bool x338.2]) rfl rfl ?_
                        refine L_ex (v := r364_0) rfl rfl rfl ?_
                        refine L_ex (v := .bool x338.2) rfl rfl rfl ?_
                        refine L_as (v := r364_0) rfl rfl ?_
                        refine L_as (v := .bool x338.2) rfl rfl ?_
                        refine L_nil ?_
                        refine W_seq ?_
                        refine W_seq ?_
                        obtain ⟨x373, hx373, hF⟩ := bind_some hF
                        obtain ⟨R375, hR375⟩ : ∃ R : Fr → World → Prop, R = fun f w_ => f 10 = r130_0 ∧ f 13 = .int .i64 x288.1 ∧ f 108 = .bool ((!x373) || (x338.2 != x45.2)) ∧ Star H172 w_ ([own (OR.ownS 4 (OR.frz RP.bool)) [r130_0] x288.2]) := ⟨_, rfl⟩
                        refine W_join R375 ?_ ?_
                        ·
                          refine W_region ?_
                          refine L_mv (v := r364_0) rfl rfl ?_
                          refine L_mv (v := r71_0) rfl sf6 ?_
                          obtain ⟨Hb376, hle377, hsb378, hfz379, hbk380⟩ := Star.borrow hst
                          have hb381 : (RP.slice 4 RP.bool).rel Hb376 [r364_0] x338.1 := fz_own 0 hfz379 rfl
                          have hb382 : (RP.slice 4 RP.bool).rel Hb376 [r71_0] x45.1 := fz_own 5 hfz379 rfl
                          refine L_call (args := #[r364_0, r71_0]) rfl Try.call29 (ops2 rfl rfl) (l_eqBoolS_c (a := x338.1) (b := x45.1) hsb378 hb381 hb382 hx373) ?_
                          rintro _ w383 ⟨rfl, hst⟩
                          have hst := hbk380 hst closedL_nil
                          refine L_not_ (b := x373) rfl rfl ?_
                          refine L_mv (v := .bool (!x373)) rfl rfl ?_
                          refine L_split (d := 104) (b := (!x373)) rfl (fun hc384 => ?_) (fun hc384 => ?_)
                          ·
                            refine L_pass rfl ?_
                            refine L_pass rfl ?_
                            refine L_pass rfl ?_
                            refine L_pick (v := .bool ((!x373) || (x338.2 != x45.2))) rfl rfl (or_t hc384) ?_
                            refine L_nil ?_
                            have hst := Star.get 4 hst rfl
                            show R375 _ _
                            rw [hR375]
                            exact ⟨sf10, rfl, rfl, (Star.keepN 1 hst)⟩
                          ·
                            refine L_mv (v := .bool x338.2) rfl rfl ?_
                            refine L_mv (v := .bool x45.2) rfl sf7 ?_
                            refine L_bneq (b := x338.2) (c := x45.2) rfl Try.underlying4 rfl rfl ?_
                            refine L_pick (v := .bool ((!x373) || (x338.2 != x45.2))) rfl rfl (or_f hc384 rfl) ?_
                            refine L_nil ?_
                            have hst := Star.get 4 hst rfl
                            show R375 _ _
                            rw [hR375]
                            exact ⟨sf10, rfl, rfl, (Star.keepN 1 hst)⟩
                        ·
                          intro f w_ hR
                          rw [hR375] at hR
                          obtain ⟨sf10, sf13, sf108, hst⟩ := hR
                          clear hR375
                          refine W_cond (b := ((!x373) || (x338.2 != x45.2))) sf108 (fun hc385 => ?_) (fun hc385 => ?_)
                          ·
                            have hF := (ite_t hc385).symm.trans hF
                            refine W_seq ?_
                            refine W_region ?_
                            refine L_as (v := .bool false) rfl rfl ?_
                            refine L_nil ?_
                            refine W_ret ?_
                            refine retG1 (v1 := .bool false) Try.results7 rfl ?_
                            obtain rfl := so hF
                            exact ⟨rfl, (Star.down (Star.keepN 0 hst) hE172 closedL_nil)⟩
                          ·
                            have hF := (ite_f hc385).symm.trans hF
                            refine W_skip ?_
                            refine W_seq ?_
                            refine W_region ?_
                            refine L_as (v := .int .i64 1) rfl rfl ?_
                            refine L_nil ?_
                            refine W_seq ?_
                            obtain ⟨x392, hx392, hF⟩ := bind_some hF
                            refine W_region ?_
                            refine L_mv (v := r130_0) rfl sf10 ?_
                            refine L_mv (v := .int .i64 1) rfl rfl ?_
                            obtain ⟨Hb394, hle395, hsb396, hfz397, hbk398⟩ := Star.borrow hst
                            have hb399 : (RP.slice 4 RP.bool).rel Hb394 [r130_0] x288.2 := fz_own 0 hfz397 rfl
                            refine L_call (args := #[r130_0, .int .i64 1]) rfl Try.call33 (ops2 rfl rfl) (l_heldBoolS_c (a := x288.2) (k := 1) hsb396 hb399 hx392) ?_
                            rintro _ w400 ⟨rfl, hst⟩
                            have hst := hbk398 hst closedL_nil
                            refine L_as (v := .int .i64 x392) rfl rfl ?_
                            refine L_nil ?_
                            refine W_seq ?_
                            refine W_seq ?_
                            refine W_region ?_
                            refine L_mv (v := .int .i64 x392) rfl rfl ?_
                            refine L_lss (m := x392) (n := 0) rfl rfl rfl ?_
                            refine L_nil ?_
                            refine W_cond (b := decide (x392 < 0)) rfl (fun hc401 => ?_) (fun hc401 => ?_)
                            ·
                              have hF := (ite_t hc401).symm.trans hF
                              refine W_seq ?_
                              refine W_region ?_
                              refine L_as (v := .bool false) rfl rfl ?_
                              refine L_nil ?_
                              refine W_ret ?_
                              refine retG1 (v1 := .bool false) Try.results7 rfl ?_
                              obtain rfl := so hF
                              exact ⟨rfl, (Star.down (Star.keepN 0 hst) hE172 closedL_nil)⟩
                            ·
                              have hF := (ite_f hc401).symm.trans hF
                              refine W_skip ?_
                              refine W_seq ?_
                              refine W_seq ?_
                              refine W_region ?_
                              refine L_mv (v := .int .i64 x392) rfl rfl ?_
                              refine L_mv (v := .int .i64 x288.1) rfl sf13 ?_
                              refine L_neq (m := x392) (n := x288.1) rfl rfl rfl ?_
                              refine L_nil ?_
                              refine W_cond (b := (x392 != x288.1)) rfl (fun hc402 => ?_) (fun hc402 => ?_)
                              ·
                                have hF := (ite_t hc402).symm.trans hF
                                refine W_seq ?_
                                refine W_region ?_
                                refine L_as (v := .bool false) rfl rfl ?_
                                refine L_nil ?_
                                refine W_ret ?_
                                refine retG1 (v1 := .bool false) Try.results7 rfl ?_
                                obtain rfl := so hF
                                exact ⟨rfl, (Star.down (Star.keepN 0 hst) hE172 closedL_nil)⟩
                              ·
                                have hF := (ite_f hc402).symm.trans hF
                                refine W_skip ?_
                                refine W_seq ?_
                                refine W_region ?_
                                refine L_as (v := .bool true) rfl rfl ?_
                                refine L_nil ?_
                                refine W_ret ?_
                                refine retG1 (v1 := .bool true) Try.results7 rfl ?_
                                obtain rfl := so hF
                                exact ⟨rfl, (Star.down (Star.keepN 0 hst) hE172 closedL_nil)⟩

theorem s_DecodeValues_c {fu : Nat} {m : Model} {values : List Bool} {v0_0 : Value} {v0_1 : Value} {v1 : Value} {H : FH} {w : World} (hst : Star H w []) (h0_0 : (RP.slice 3 RP.int).rel H [v0_0] m.sizes) (h0_1 : (RP.slice 68 (rRule 3 22)).rel H [v0_1] m.rules) (h1 : (RP.slice 4 RP.bool).rel H [v1] values) {r : (List Int) × Bool} (hF : s_DecodeValues fu m values = some r) :
    C Try.prog 36 #[.agg #[v0_0, v0_1], v1] w fun v w' => ∃ (u1 : Value), v = .tuple #[u1, .bool r.2] ∧ Star H w' [own (OR.ownS 3 (OR.frz RP.int)) [u1] r.1] := by
  unfold s_DecodeValues at hF
  refine C_enter Try.func36 rfl Try.ntmps36 rfl ?_
  refine W_seq ?_
  refine W_region ?_
  refine L_box (v := .agg #[v0_0, v0_1]) (cs := #[v0_0, v0_1]) rfl rfl rfl hst ?_
  intro g3 w4 hst
  refine L_as (v := (.slice none 0 0)) rfl rfl ?_
  refine L_as (v := .bool false) rfl rfl ?_
  refine L_nil ?_
  refine W_seq ?_
  refine W_seq ?_
  obtain ⟨x10, hx10, hF⟩ := bind_some hF
  obtain ⟨R12, hR12⟩ : ∃ R : Fr → World → Prop, R = fun f w_ => f 1 = v1 ∧ f 2 = .pointer (some ⟨g3, 0, none⟩) ∧ f 18 = .bool ((!x10) || ((values.length : Int) != 12)) ∧ Star H w_ ([box g3 30 #[v0_0, v0_1]]) := ⟨_, rfl⟩
  refine W_join R12 ?_ ?_
  ·
    refine W_region ?_
    refine L_lda (cs := [v0_0, v0_1]) rfl Try.isAgg30 Try.sizeOf30 rfl (At.sub0 (Blk.at (Star.blkAt 0 hst rfl)) 0 2) rfl ?_
    obtain ⟨Hb13, hle14, hsb15, hfz16, hbk17⟩ := Star.borrow hst
    refine L_call (args := #[.agg #[v0_0, v0_1]]) rfl Try.call44 (ops1 rfl) (s_ModelValid_c (m := m) hsb15 (RP.mono _ h0_0 hle14) (RP.mono _ h0_1 hle14) hx10) ?_
    rintro _ w18 ⟨rfl, hst⟩
    have hst := hbk17 hst closedL_nil
    refine L_not_ (b := x10) rfl rfl ?_
    refine L_mv (v := .bool (!x10)) rfl rfl ?_
    refine L_split (d := 14) (b := (!x10)) rfl (fun hc19 => ?_) (fun hc19 => ?_)
    ·
      refine L_pass rfl ?_
      refine L_pass rfl ?_
      refine L_pass rfl ?_
      refine L_pick (v := .bool ((!x10) || ((values.length : Int) != 12))) rfl rfl (or_t hc19) ?_
      refine L_nil ?_
      show R12 _ _
      rw [hR12]
      exact ⟨rfl, rfl, rfl, hst⟩
    ·
      refine L_mv (v := v1) rfl rfl ?_
      refine L_len (v := v1) (n := List.length values) rfl Try.underlying46 rfl (slice_len h1) ?_
      refine L_neq (m := (values.length : Int)) (n := 12) rfl rfl rfl ?_
      refine L_pick (v := .bool ((!x10) || ((values.length : Int) != 12))) rfl rfl (or_f hc19 rfl) ?_
      refine L_nil ?_
      show R12 _ _
      rw [hR12]
      exact ⟨rfl, rfl, rfl, hst⟩
  ·
    intro f w_ hR
    rw [hR12] at hR
    obtain ⟨sf1, sf2, sf18, hst⟩ := hR
    clear hR12
    refine W_cond (b := ((!x10) || ((values.length : Int) != 12))) sf18 (fun hc20 => ?_) (fun hc20 => ?_)
    ·
      have hF := (ite_t hc20).symm.trans hF
      refine W_seq ?_
      refine W_region ?_
      refine L_bs rfl parts0 (bs_22_0  ) hst ?_
      intro g24 w25 hst
      have hst := Star.mkRow (R := (OR.frz RP.int)) [] [] 0 hst rfl rfl rfl (by decide)
      refine L_as (v := (.slice (some ⟨g24, 0, none⟩) 0 0)) rfl rfl ?_
      refine L_as (v := .bool false) rfl rfl ?_
      refine L_nil ?_
      refine W_ret ?_
      refine retG2 (v1 := (.slice (some ⟨g24, 0, none⟩) 0 0)) (v2 := .bool false) Try.results36 rfl rfl ?_
      obtain rfl := so hF
      exact ⟨(.slice (some ⟨g24, 0, none⟩) 0 0), rfl, (Star.keepN 1 hst)⟩
    ·
      have hF := (ite_f hc20).symm.trans hF
      refine W_skip ?_
      refine W_seq ?_
      refine W_region ?_
      refine L_bs rfl parts0 (bs_22_0  ) hst ?_
      intro g30 w31 hst
      have hst := Star.mkRow (R := (OR.frz RP.int)) [] [] 0 hst rfl rfl rfl (by decide)
      refine L_as (v := (.slice (some ⟨g30, 0, none⟩) 0 0)) rfl rfl ?_
      refine L_nil ?_
      refine W_seq ?_
      refine W_seq ?_
      refine W_region ?_
      refine L_as (v := .int .i64 0) rfl rfl ?_
      refine L_nil ?_
      have hlen36 : List.length m.sizes ≤ 9223372036854775807 := len_le (slice_len h0_0)
      obtain ⟨j36, hL36, hF⟩ := bind_some hF
      obtain ⟨R36, hR36⟩ : ∃ R : Fr → World → Prop, R = fun f w_ => ∃ out_34 : List Int, ∃ v34_out : Value, j36 = .nx out_34 ∧ f 6 = v34_out ∧ Star H w_ ([own (OR.ownS 3 (OR.frz RP.int)) [v34_out] out_34]) := ⟨_, rfl⟩
      refine W_join R36 ?_ ?_
      ·
        refine W_block ?_
        obtain ⟨I36, hI36⟩ : ∃ I : Nat → Fr → World → Prop, I = fun n f w_ => ∃ i_33 : Nat, ∃ suf36 : List Int, ∃ out_34 : List Int, ∃ v34_out : Value, n = suf36.length ∧ List.drop i_33 m.sizes = suf36 ∧ i_33 + suf36.length = m.sizes.length ∧ rangeL (s_DecodeValues_b1 m values) suf36 i_33 out_34 = some j36 ∧ f 1 = v1 ∧ f 2 = .pointer (some ⟨g3, 0, none⟩) ∧ f 6 = v34_out ∧ f 7 = .int .i64 (i_33 : Int) ∧ Star H w_ ([own (OR.ownS 3 (OR.frz RP.int)) [v34_out] out_34, box g3 30 #[v0_0, v0_1]]) := ⟨_, rfl⟩
        refine W_loop I36 (n := m.sizes.length) ?_ ?_
        · rw [hI36]; exact ⟨0, m.sizes, [], (.slice (some ⟨g30, 0, none⟩) 0 0), rfl, rfl, Nat.zero_add _, hL36, sf1, sf2, rfl, rfl, hst⟩
        ·
          clear hst
          intro n36 f w_ hI
          rw [hI36] at hI
          obtain ⟨i_33, suf36, out_34, v34_out, rfl, hd36, hl36, hL36, sf1, sf2, sf6, sf7, hst⟩ := hI
          refine W_seq ?_
          refine W_seq ?_
          refine W_region ?_
          refine L_mv (v := .int .i64 (i_33 : Int)) rfl sf7 ?_
          refine L_fa (o' := 0) rfl fa_30_0 sf2 rfl ?_
          refine L_ld (v := v0_0) rfl Try.isAgg22 rfl (At.cell0 (Blk.at (Star.blkAt 1 hst rfl)) (j := 0) rfl) ?_
          refine L_len (v := v0_0) (n := List.length m.sizes) rfl Try.underlying22 rfl (slice_len h0_0) ?_
          refine L_lss (m := (i_33 : Int)) (n := (m.sizes.length : Int)) rfl rfl rfl ?_
          refine L_nil ?_
          refine W_cond (b := decide ((i_33 : Int) < (m.sizes.length : Int))) rfl (fun hc37 => ?_) (fun hc37 => ?_)
          ·
            have hlt36 := of_decide_eq_true hc37
            cases suf36 with
            | nil => exact absurd hlt36 (by simp at hl36; omega)
            | cons x_36 rest36 =>
              obtain ⟨o36, hB36, hL36⟩ := range_cons hL36
              rw [s_DecodeValues_b1] at hB36
              have hix36 := drop_idx hd36
              refine W_skip ?_
              refine W_seq ?_
              refine W_block ?_
              refine W_seq ?_
              refine W_region ?_
              refine L_as (v := .int .i64 (-1)) rfl rfl ?_
              refine L_nil ?_
              refine W_seq ?_
              refine W_region ?_
              refine L_as (v := .int .i64 0) rfl rfl ?_
              refine L_nil ?_
              refine W_seq ?_
              refine W_seq ?_
              refine W_region ?_
              refine L_as (v := .int .i64 0) rfl rfl ?_
              refine L_nil ?_
              obtain ⟨k42, hk42, hB36⟩ := bind_some hB36
              obtain ⟨j41, hL41, hB36⟩ := bind_some hB36
              obtain ⟨R41, hR41⟩ : ∃ R : Fr → World → Prop, R = fun f w_ => ∃ v_39 : Int, ∃ n_40 : Int, j41 = .nx (v_39, n_40) ∧ f 1 = v1 ∧ f 2 = .pointer (some ⟨g3, 0, none⟩) ∧ f 6 = v34_out ∧ f 7 = .int .i64 (i_33 : Int) ∧ f 8 = .int .i64 v_39 ∧ f 9 = .int .i64 n_40 ∧ Star H w_ ([own (OR.ownS 3 (OR.frz RP.int)) [v34_out] out_34, box g3 30 #[v0_0, v0_1]]) := ⟨_, rfl⟩
              refine W_join R41 ?_ ?_
              ·
                refine W_block ?_
                obtain ⟨I41, hI41⟩ : ∃ I : Nat → Fr → World → Prop, I = fun n f w_ => ∃ i_38 : Nat, ∃ suf41 : Nat, ∃ v_39 : Int, ∃ n_40 : Int, suf41 = n ∧ 0 ≤ i_38 ∧ i_38 + suf41 = 0 + k42 ∧ countL (s_DecodeValues_b2 m values i_33) suf41 i_38 (v_39, n_40) = some j41 ∧ f 1 = v1 ∧ f 2 = .pointer (some ⟨g3, 0, none⟩) ∧ f 6 = v34_out ∧ f 7 = .int .i64 (i_33 : Int) ∧ f 8 = .int .i64 v_39 ∧ f 9 = .int .i64 n_40 ∧ f 10 = .int .i64 (i_38 : Int) ∧ Star H w_ ([own (OR.ownS 3 (OR.frz RP.int)) [v34_out] out_34, box g3 30 #[v0_0, v0_1]]) := ⟨_, rfl⟩
                refine W_loop I41 (n := k42) ?_ ?_
                · rw [hI41]; exact ⟨0, k42, (-1), 0, rfl, Nat.le_refl _, rfl, hL41, sf1, sf2, sf6, sf7, rfl, rfl, rfl, hst⟩
                ·
                  clear hst
                  intro n41 f w_ hI
                  rw [hI41] at hI
                  obtain ⟨i_38, suf41, v_39, n_40, rfl, hs41, hl41, hL41, sf1, sf2, sf6, sf7, sf8, sf9, sf10, hst⟩ := hI
                  refine W_seq ?_
                  refine W_seq ?_
                  refine W_region ?_
                  refine L_mv (v := .int .i64 (i_38 : Int)) rfl sf10 ?_
                  refine L_fa (o' := 0) rfl fa_30_0 sf2 rfl ?_
                  refine L_ld (v := v0_0) rfl Try.isAgg22 rfl (At.cell0 (Blk.at (Star.blkAt 1 hst rfl)) (j := 0) rfl) ?_
                  refine L_mv (v := .int .i64 (i_33 : Int)) rfl sf7 ?_
                  refine L_ix (r := RP.int) rfl Try.underlying22 Try.sizeOf3 rfl h0_0 rfl hix36 ?_
                  intro g47 o48 cs_g47 hrk_hat49 hat49
                  obtain rfl : _ = [_] := hrk_hat49
                  refine L_ld (v := .int .i64 x_36) rfl Try.isAgg3 rfl (At.cell (AtH.at hat49 hst.sub) (j := 0) rfl) ?_
                  refine L_leq (m := (i_38 : Int)) (n := x_36) rfl rfl rfl ?_
                  refine L_nil ?_
                  refine W_cond (b := decide ((i_38 : Int) ≤ x_36)) rfl (fun hc51 => ?_) (fun hc51 => ?_)
                  ·
                    have hlt41 := of_decide_eq_true hc51
                    cases suf41 with
                    | zero => exact absurd hlt41 (cntF_noL hl41 hk42)
                    | succ rest41 =>
                      obtain ⟨o41, hB41, hL41⟩ := count_succ hL41
                      rw [s_DecodeValues_b2] at hB41
                      refine W_skip ?_
                      refine W_seq ?_
                      refine W_block ?_
                      refine W_seq ?_
                      obtain ⟨x57, hx57, hB41⟩ := bind_some hB41
                      obtain ⟨x59, hx59, hB41⟩ := bind_some hB41
                      refine W_region ?_
                      refine L_mv (v := v1) rfl sf1 ?_
                      refine L_lda (cs := [v0_0, v0_1]) rfl Try.isAgg30 Try.sizeOf30 sf2 (At.sub0 (Blk.at (Star.blkAt 1 hst rfl)) 0 2) rfl ?_
                      refine L_mv (v := .int .i64 (i_33 : Int)) rfl sf7 ?_
                      refine L_mv (v := .int .i64 (i_38 : Int)) rfl sf10 ?_
                      obtain ⟨Hb64, hle65, hsb66, hfz67, hbk68⟩ := Star.borrow hst
                      refine L_call (args := #[.agg #[v0_0, v0_1], .int .i64 (i_33 : Int), .int .i64 (i_38 : Int)]) rfl Try.call45 (ops3 rfl rfl rfl) (s_l7Var_c (m := m) (cell := (i_33 : Int)) (value := (i_38 : Int)) hsb66 (RP.mono _ h0_0 hle65) (RP.mono _ h0_1 hle65) hx57) ?_
                      rintro _ w69 ⟨rfl, hst⟩
                      have hst := hbk68 hst closedL_nil
                      refine L_sub (m := x57) (n := 1) rfl rfl rfl ?_
                      refine L_ix (r := RP.bool) rfl Try.underlying46 Try.sizeOf4 rfl h1 rfl hx59 ?_
                      intro g70 o71 cs_g70 hrk_hat72 hat72
                      obtain rfl : _ = [_] := hrk_hat72
                      refine L_ld (v := .bool x59) rfl Try.isAgg4 rfl (At.cell (AtH.at hat72 hst.sub) (j := 0) rfl) ?_
                      refine L_nil ?_
                      obtain ⟨⟨v_74, n_75⟩, hA76, hB41⟩ := bind_some hB41
                      obtain ⟨R76, hR76⟩ : ∃ R : Fr → World → Prop, R = fun f w_ => f 1 = v1 ∧ f 2 = .pointer (some ⟨g3, 0, none⟩) ∧ f 6 = v34_out ∧ f 7 = .int .i64 (i_33 : Int) ∧ f 8 = .int .i64 v_74 ∧ f 9 = .int .i64 n_75 ∧ f 10 = .int .i64 (i_38 : Int) ∧ Star H w_ ([own (OR.ownS 3 (OR.frz RP.int)) [v34_out] out_34, box g3 30 #[v0_0, v0_1]]) := ⟨_, rfl⟩
                      refine W_join R76 ?_ ?_
                      ·
                        refine W_cond (b := x59) rfl (fun hc77 => ?_) (fun hc77 => ?_)
                        ·
                          have hA76 := (ite_t hc77).symm.trans hA76
                          refine W_seq ?_
                          refine W_region ?_
                          refine L_mv (v := .int .i64 (i_38 : Int)) rfl sf10 ?_
                          refine L_as (v := .int .i64 (i_38 : Int)) rfl rfl ?_
                          refine L_nil ?_
                          refine W_region ?_
                          refine L_mv (v := .int .i64 n_40) rfl sf9 ?_
                          refine L_add (m := n_40) (n := 1) rfl rfl rfl ?_
                          refine L_as (v := .int .i64 (i64 (n_40 + 1))) rfl rfl ?_
                          refine L_nil ?_
                          obtain ⟨rfl, rfl⟩ := so2 hA76
                          show R76 _ _
                          rw [hR76]
                          exact ⟨sf1, sf2, sf6, sf7, rfl, rfl, sf10, hst⟩
                        ·
                          have hA76 := (ite_f hc77).symm.trans hA76
                          refine W_skip ?_
                          obtain ⟨rfl, rfl⟩ := so2 hA76
                          show R76 _ _
                          rw [hR76]
                          exact ⟨sf1, sf2, sf6, sf7, sf8, sf9, sf10, hst⟩
                      ·
                        intro f w_ hR
                        rw [hR76] at hR
                        obtain ⟨sf1, sf2, sf6, sf7, sf8, sf9, sf10, hst⟩ := hR
                        clear hR76
                        refine W_region ?_
                        refine L_mv (v := .int .i64 (i_38 : Int)) rfl sf10 ?_
                        refine L_add (m := (i_38 : Int)) (n := 1) rfl rfl rfl ?_
                        refine L_as (v := .int .i64 (i64 ((i_38 : Int) + 1))) rfl rfl ?_
                        refine L_nil ?_
                        obtain rfl := so hB41
                        show ∃ m, m < _ ∧ I41 m _ _
                        refine ⟨rest41, Nat.lt_succ_self _, ?_⟩
                        rw [hI41]
                        exact ⟨i_38 + 1, rest41, v_74, n_75, rfl, by omega, by omega, hL41, sf1, sf2, sf6, sf7, sf8, sf9, (Eq.trans rfl (congrArg (Value.int .i64) (i64_succ (n := 0 + k42) (by omega) (cntF_le hk42)))), hst⟩
                  ·
                    cases suf41 with
                    | succ _ => exact absurd (cntF_yesL hs41 hl41 hk42) (of_decide_eq_false hc51)
                    | zero =>
                      obtain rfl := count_zero hL41
                      refine W_exit ?_
                      show R41 _ _
                      rw [hR41]
                      exact ⟨v_39, n_40, rfl, sf1, sf2, sf6, sf7, sf8, sf9, hst⟩
              ·
                clear hst
                intro f w_ hR
                rw [hR41] at hR
                obtain ⟨v_39, n_40, rfl, sf1, sf2, sf6, sf7, sf8, sf9, hst⟩ := hR
                clear hR41
                refine W_seq ?_
                refine W_seq ?_
                refine W_region ?_
                refine L_mv (v := .int .i64 n_40) rfl sf9 ?_
                refine L_neq (m := n_40) (n := 1) rfl rfl rfl ?_
                refine L_nil ?_
                refine W_cond (b := (n_40 != 1)) rfl (fun hc78 => ?_) (fun hc78 => ?_)
                ·
                  have hB36 := (ite_t hc78).symm.trans hB36
                  refine W_seq ?_
                  refine W_region ?_
                  refine L_bs rfl parts0 (bs_22_0  ) hst ?_
                  intro g82 w83 hst
                  have hst := Star.mkRow (R := (OR.frz RP.int)) [] [] 0 hst rfl rfl rfl (by decide)
                  refine L_as (v := (.slice (some ⟨g82, 0, none⟩) 0 0)) rfl rfl ?_
                  refine L_as (v := .bool false) rfl rfl ?_
                  refine L_nil ?_
                  refine W_ret ?_
                  refine retG2 (v1 := (.slice (some ⟨g82, 0, none⟩) 0 0)) (v2 := .bool false) Try.results36 rfl rfl ?_
                  obtain rfl := so hB36
                  obtain rfl := so hL36
                  obtain rfl := so hF
                  exact ⟨(.slice (some ⟨g82, 0, none⟩) 0 0), rfl, (Star.keepN 1 hst)⟩
                ·
                  have hB36 := (ite_f hc78).symm.trans hB36
                  refine W_skip ?_
                  obtain ⟨x88, hx88, hB36⟩ := bind_some hB36
                  refine W_region ?_
                  refine L_mv (v := v34_out) rfl sf6 ?_
                  refine L_mv (v := .int .i64 v_39) rfl sf8 ?_
                  refine L_bs rfl (parts1 rfl) (bs_22_1_0 (.int .i64 v_39) rfl) hst ?_
                  intro g92 w93 hst
                  have hst := Star.addF (r := RP.int) (cs := [.int .i64 v_39]) (x := v_39) hst rfl
                  have hst := Star.mkRow (R := (OR.frz RP.int)) [([.int .i64 v_39], v_39)] [v_39] 1 hst rfl rfl rfl (by decide)
                  have hst := Star.get 1 hst rfl
                  refine L_appM (v := v34_out) (u := (.slice (some ⟨g92, 0, none⟩) 1 1)) rfl et_22 rfl rfl hst hx88 ?_
                  intro v95 w96 hst
                  refine L_as (v := v95) rfl rfl ?_
                  refine L_nil ?_
                  refine W_region ?_
                  refine L_mv (v := .int .i64 (i_33 : Int)) rfl sf7 ?_
                  refine L_add (m := (i_33 : Int)) (n := 1) rfl rfl rfl ?_
                  refine L_as (v := .int .i64 (i64 ((i_33 : Int) + 1))) rfl rfl ?_
                  refine L_nil ?_
                  obtain rfl := so hB36
                  show ∃ m, m < _ ∧ I36 m _ _
                  refine ⟨rest36.length, by simp, ?_⟩
                  rw [hI36]
                  exact ⟨i_33 + 1, rest36, x88, v95, rfl, drop_next hd36, by simp at hl36; omega, hL36, sf1, sf2, rfl, (Eq.trans rfl (congrArg (Value.int .i64) (i64_succ (n := m.sizes.length) (by simp at hl36; omega) hlen36))), hst⟩
          ·
            cases suf36 with
            | cons _ _ => exact absurd (of_decide_eq_false hc37) (by simp at hl36; omega)
            | nil =>
              obtain rfl := range_nil hL36
              refine W_exit ?_
              show R36 _ _
              rw [hR36]
              exact ⟨out_34, v34_out, rfl, sf6, (Star.keepN 1 hst)⟩
      ·
        clear hst
        intro f w_ hR
        rw [hR36] at hR
        obtain ⟨out_34, v34_out, rfl, sf6, hst⟩ := hR
        clear hR36
        refine W_seq ?_
        refine W_region ?_
        refine L_mv (v := v34_out) rfl sf6 ?_
        refine L_as (v := v34_out) rfl rfl ?_
        refine L_as (v := .bool true) rfl rfl ?_
        refine L_nil ?_
        refine W_ret ?_
        refine retG2 (v1 := v34_out) (v2 := .bool true) Try.results36 rfl rfl ?_
        obtain rfl := so hF
        exact ⟨v34_out, rfl, hst⟩

theorem i_Model_varsOf_c {m : Model} {cell : Int} {v0_0 : Value} {v0_1 : Value} {H : FH} {w : World} (hst : Star H w []) (h0_0 : (RP.slice 3 RP.int).rel H [v0_0] m.sizes) (h0_1 : (RP.slice 68 (rRule 3 22)).rel H [v0_1] m.rules) {r : List Int} (hF : i_Model_varsOf m cell = some r) :
    C Try.prog 61 #[.agg #[v0_0, v0_1], .int .i64 cell] w fun v w' => ∃ (u1 : Value), v = u1 ∧ Star H w' [own (OR.ownS 3 (OR.frz RP.int)) [u1] r] := by
  unfold i_Model_varsOf at hF
  refine C_enter Try.func61 rfl Try.ntmps61 rfl ?_
  refine W_seq ?_
  refine W_region ?_
  refine L_box (v := .agg #[v0_0, v0_1]) (cs := #[v0_0, v0_1]) rfl rfl rfl hst ?_
  intro g3 w4 hst
  refine L_as (v := (.slice none 0 0)) rfl rfl ?_
  refine L_nil ?_
  refine W_seq ?_
  refine W_region ?_
  refine L_as (v := (.slice none 0 0)) rfl rfl ?_
  refine L_nil ?_
  refine W_seq ?_
  refine W_seq ?_
  obtain ⟨x5, hx5, hF⟩ := bind_some hF
  refine W_region ?_
  refine L_fa (o' := 0) rfl fa_30_0 rfl rfl ?_
  refine L_ld (v := v0_0) rfl Try.isAgg22 rfl (At.cell0 (Blk.at (Star.blkAt 0 hst rfl)) (j := 0) rfl) ?_
  refine L_mv (v := .int .i64 cell) rfl rfl ?_
  refine L_ix (r := RP.int) rfl Try.underlying22 Try.sizeOf3 rfl h0_0 rfl hx5 ?_
  intro g10 o11 cs_g10 hrk_hat12 hat12
  obtain rfl : _ = [_] := hrk_hat12
  refine L_ld (v := .int .i64 x5) rfl Try.isAgg3 rfl (At.cell (AtH.at hat12 hst.sub) (j := 0) rfl) ?_
  refine L_add (m := x5) (n := 1) rfl rfl rfl ?_
  refine L_mv (v := .int .i64 0) rfl rfl ?_
  refine L_nil ?_
  obtain ⟨k18, hk18, hF⟩ := bind_some hF
  obtain ⟨j17, hL17, hF⟩ := bind_some hF
  obtain ⟨R17, hR17⟩ : ∃ R : Fr → World → Prop, R = fun f w_ => ∃ out_15 : List Int, ∃ v15_out : Value, j17 = .nx out_15 ∧ f 5 = v15_out ∧ Star H w_ ([own (OR.ownS 3 (OR.frz RP.int)) [v15_out] out_15]) := ⟨_, rfl⟩
  refine W_join R17 ?_ ?_
  ·
    refine W_block ?_
    obtain ⟨I17, hI17⟩ : ∃ I : Nat → Fr → World → Prop, I = fun n f w_ => ∃ i_14 : Nat, ∃ suf17 : Nat, ∃ out_15 : List Int, ∃ v15_out : Value, suf17 = n ∧ 0 ≤ i_14 ∧ i_14 + suf17 = 0 + k18 ∧ countL (i_Model_varsOf_b1 m cell) suf17 i_14 out_15 = some j17 ∧ f 1 = .int .i64 cell ∧ f 2 = .pointer (some ⟨g3, 0, none⟩) ∧ f 5 = v15_out ∧ f 12 = .int .i64 (i64 (x5 + 1)) ∧ f 13 = .int .i64 (i_14 : Int) ∧ Star H w_ ([own (OR.ownS 3 (OR.frz RP.int)) [v15_out] out_15, box g3 30 #[v0_0, v0_1]]) := ⟨_, rfl⟩
    have hst := Star.addNil (R := (OR.frz RP.int)) (e := 3) hst
    refine W_loop I17 (n := k18) ?_ ?_
    · rw [hI17]; exact ⟨0, k18, [], (.slice none 0 0), rfl, Nat.le_refl _, rfl, hL17, rfl, rfl, rfl, rfl, rfl, hst⟩
    ·
      clear hst
      intro n17 f w_ hI
      rw [hI17] at hI
      obtain ⟨i_14, suf17, out_15, v15_out, rfl, hs17, hl17, hL17, sf1, sf2, sf5, sf12, sf13, hst⟩ := hI
      refine W_seq ?_
      refine W_region ?_
      refine L_lss (m := (i_14 : Int)) (n := i64 (x5 + 1)) rfl sf13 sf12 ?_
      refine L_nil ?_
      refine W_seq ?_
      refine W_cond (b := decide ((i_14 : Int) < (i64 (x5 + 1)))) rfl (fun hc20 => ?_) (fun hc20 => ?_)
      ·
        have hlt17 := of_decide_eq_true hc20
        cases suf17 with
        | zero => exact absurd hlt17 (cntF_no hl17 hk18)
        | succ rest17 =>
          obtain ⟨o17, hB17, hL17⟩ := count_succ hL17
          rw [i_Model_varsOf_b1] at hB17
          refine W_skip ?_
          refine W_seq ?_
          refine W_block ?_
          refine W_seq ?_
          refine W_region ?_
          refine L_mv (v := .int .i64 (i_14 : Int)) rfl sf13 ?_
          refine L_as (v := .int .i64 (i_14 : Int)) rfl rfl ?_
          refine L_nil ?_
          obtain ⟨x26, hx26, hB17⟩ := bind_some hB17
          obtain ⟨x31, hx31, hB17⟩ := bind_some hB17
          refine W_region ?_
          refine L_mv (v := v15_out) rfl sf5 ?_
          refine L_lda (cs := [v0_0, v0_1]) rfl Try.isAgg30 Try.sizeOf30 sf2 (At.sub0 (Blk.at (Star.blkAt 1 hst rfl)) 0 2) rfl ?_
          refine L_mv (v := .int .i64 cell) rfl sf1 ?_
          refine L_mv (v := .int .i64 (i_14 : Int)) rfl rfl ?_
          obtain ⟨Hb35, hle36, hsb37, hfz38, hbk39⟩ := Star.borrow hst
          refine L_call (args := #[.agg #[v0_0, v0_1], .int .i64 cell, .int .i64 (i_14 : Int)]) rfl Try.call49 (ops3 rfl rfl rfl) (i_Model_boolVar_c (m := m) (cell := cell) (value := (i_14 : Int)) hsb37 (RP.mono _ h0_0 hle36) (RP.mono _ h0_1 hle36) hx26) ?_
          rintro _ w40 ⟨rfl, hst⟩
          have hst := hbk39 hst closedL_nil
          refine L_bs rfl (parts1 rfl) (bs_22_1_0 (.int .i64 x26) rfl) hst ?_
          intro g41 w42 hst
          have hst := Star.addF (r := RP.int) (cs := [.int .i64 x26]) (x := x26) hst rfl
          have hst := Star.mkRow (R := (OR.frz RP.int)) [([.int .i64 x26], x26)] [x26] 1 hst rfl rfl rfl (by decide)
          have hst := Star.get 1 hst rfl
          refine L_appM (v := v15_out) (u := (.slice (some ⟨g41, 0, none⟩) 1 1)) rfl et_22 rfl rfl hst hx31 ?_
          intro v44 w45 hst
          refine L_as (v := v44) rfl rfl ?_
          refine L_nil ?_
          refine W_region ?_
          refine L_add (m := (i_14 : Int)) (n := 1) rfl sf13 rfl ?_
          refine L_mv (v := .int .i64 (i64 ((i_14 : Int) + 1))) rfl rfl ?_
          refine L_nil ?_
          obtain rfl := so hB17
          show ∃ m, m < _ ∧ I17 m _ _
          refine ⟨rest17, Nat.lt_succ_self _, ?_⟩
          rw [hI17]
          exact ⟨i_14 + 1, rest17, x31, v44, rfl, by omega, by omega, hL17, sf1, sf2, rfl, sf12, (Eq.trans rfl (congrArg (Value.int .i64) (i64_succ (n := 0 + k18) (by omega) (cntF_le hk18)))), hst⟩
      ·
        cases suf17 with
        | succ _ => exact absurd (cntF_yes hs17 hl17 hk18) (of_decide_eq_false hc20)
        | zero =>
          obtain rfl := count_zero hL17
          refine W_exit ?_
          show R17 _ _
          rw [hR17]
          exact ⟨out_15, v15_out, rfl, sf5, (Star.keepN 1 hst)⟩
  ·
    clear hst
    intro f w_ hR
    rw [hR17] at hR
    obtain ⟨out_15, v15_out, rfl, sf5, hst⟩ := hR
    clear hR17
    refine W_seq ?_
    refine W_region ?_
    refine L_mv (v := v15_out) rfl sf5 ?_
    refine L_as (v := v15_out) rfl rfl ?_
    refine L_nil ?_
    refine W_ret ?_
    refine retG1 (v1 := v15_out) Try.results61 rfl ?_
    obtain rfl := so hF
    exact ⟨v15_out, rfl, hst⟩

theorem i_DecodeValues_c {m : Model} {values : List Bool} {v0_0 : Value} {v0_1 : Value} {v1 : Value} {H : FH} {w : World} (hst : Star H w []) (h0_0 : (RP.slice 3 RP.int).rel H [v0_0] m.sizes) (h0_1 : (RP.slice 68 (rRule 3 22)).rel H [v0_1] m.rules) (h1 : (RP.slice 4 RP.bool).rel H [v1] values) {r : (List Int) × Bool} (hF : i_DecodeValues m values = some r) :
    C Try.prog 38 #[.agg #[v0_0, v0_1], v1] w fun v w' => ∃ (u1 : Value), v = .tuple #[u1, .bool r.2] ∧ Star H w' [own (OR.ownS 3 (OR.frz RP.int)) [u1] r.1] := by
  unfold i_DecodeValues at hF
  refine C_enter Try.func38 rfl Try.ntmps38 rfl ?_
  refine W_seq ?_
  refine W_region ?_
  refine L_box (v := .agg #[v0_0, v0_1]) (cs := #[v0_0, v0_1]) rfl rfl rfl hst ?_
  intro g3 w4 hst
  refine L_as (v := (.slice none 0 0)) rfl rfl ?_
  refine L_as (v := .bool false) rfl rfl ?_
  refine L_nil ?_
  refine W_seq ?_
  refine W_seq ?_
  obtain ⟨x10, hx10, hF⟩ := bind_some hF
  obtain ⟨R12, hR12⟩ : ∃ R : Fr → World → Prop, R = fun f w_ => f 1 = v1 ∧ f 2 = .pointer (some ⟨g3, 0, none⟩) ∧ f 18 = .bool ((!x10) || ((values.length : Int) != 12)) ∧ Star H w_ ([box g3 30 #[v0_0, v0_1]]) := ⟨_, rfl⟩
  refine W_join R12 ?_ ?_
  ·
    refine W_region ?_
    refine L_lda (cs := [v0_0, v0_1]) rfl Try.isAgg30 Try.sizeOf30 rfl (At.sub0 (Blk.at (Star.blkAt 0 hst rfl)) 0 2) rfl ?_
    obtain ⟨Hb13, hle14, hsb15, hfz16, hbk17⟩ := Star.borrow hst
    refine L_call (args := #[.agg #[v0_0, v0_1]]) rfl Try.call47 (ops1 rfl) (i_ModelValid_c (m := m) hsb15 (RP.mono _ h0_0 hle14) (RP.mono _ h0_1 hle14) hx10) ?_
    rintro _ w18 ⟨rfl, hst⟩
    have hst := hbk17 hst closedL_nil
    refine L_not_ (b := x10) rfl rfl ?_
    refine L_mv (v := .bool (!x10)) rfl rfl ?_
    refine L_split (d := 14) (b := (!x10)) rfl (fun hc19 => ?_) (fun hc19 => ?_)
    ·
      refine L_pass rfl ?_
      refine L_pass rfl ?_
      refine L_pass rfl ?_
      refine L_pick (v := .bool ((!x10) || ((values.length : Int) != 12))) rfl rfl (or_t hc19) ?_
      refine L_nil ?_
      show R12 _ _
      rw [hR12]
      exact ⟨rfl, rfl, rfl, hst⟩
    ·
      refine L_mv (v := v1) rfl rfl ?_
      refine L_len (v := v1) (n := List.length values) rfl Try.underlying46 rfl (slice_len h1) ?_
      refine L_neq (m := (values.length : Int)) (n := 12) rfl rfl rfl ?_
      refine L_pick (v := .bool ((!x10) || ((values.length : Int) != 12))) rfl rfl (or_f hc19 rfl) ?_
      refine L_nil ?_
      show R12 _ _
      rw [hR12]
      exact ⟨rfl, rfl, rfl, hst⟩
  ·
    intro f w_ hR
    rw [hR12] at hR
    obtain ⟨sf1, sf2, sf18, hst⟩ := hR
    clear hR12
    refine W_cond (b := ((!x10) || ((values.length : Int) != 12))) sf18 (fun hc20 => ?_) (fun hc20 => ?_)
    ·
      have hF := (ite_t hc20).symm.trans hF
      refine W_seq ?_
      refine W_region ?_
      refine L_as (v := (.slice none 0 0)) rfl rfl ?_
      refine L_as (v := .bool false) rfl rfl ?_
      refine L_nil ?_
      refine W_ret ?_
      refine retG2 (v1 := (.slice none 0 0)) (v2 := .bool false) Try.results38 rfl rfl ?_
      obtain rfl := so hF
      have hst := Star.addNil (R := (OR.frz RP.int)) (e := 3) hst
      exact ⟨(.slice none 0 0), rfl, (Star.keepN 1 hst)⟩
    ·
      have hF := (ite_f hc20).symm.trans hF
      refine W_skip ?_
      refine W_seq ?_
      refine W_region ?_
      refine L_as (v := (.slice none 0 0)) rfl rfl ?_
      refine L_nil ?_
      refine W_seq ?_
      refine W_seq ?_
      refine W_region ?_
      refine L_fa (o' := 0) rfl fa_30_0 sf2 rfl ?_
      refine L_ld (v := v0_0) rfl Try.isAgg22 rfl (At.cell0 (Blk.at (Star.blkAt 0 hst rfl)) (j := 0) rfl) ?_
      refine L_len (v := v0_0) (n := List.length m.sizes) rfl Try.underlying22 rfl (slice_len h0_0) ?_
      refine L_mv (v := .int .i64 0) rfl rfl ?_
      refine L_nil ?_
      have hlen25 : List.length m.sizes ≤ 9223372036854775807 := len_le (slice_len h0_0)
      obtain ⟨j25, hL25, hF⟩ := bind_some hF
      obtain ⟨R25, hR25⟩ : ∃ R : Fr → World → Prop, R = fun f w_ => ∃ out_23 : List Int, ∃ v23_out : Value, j25 = .nx out_23 ∧ f 6 = v23_out ∧ Star H w_ ([own (OR.ownS 3 (OR.frz RP.int)) [v23_out] out_23]) := ⟨_, rfl⟩
      refine W_join R25 ?_ ?_
      ·
        refine W_block ?_
        obtain ⟨I25, hI25⟩ : ∃ I : Nat → Fr → World → Prop, I = fun n f w_ => ∃ i_22 : Nat, ∃ suf25 : List Int, ∃ out_23 : List Int, ∃ v23_out : Value, n = suf25.length ∧ List.drop i_22 m.sizes = suf25 ∧ i_22 + suf25.length = m.sizes.length ∧ rangeL (i_DecodeValues_b1 m values) suf25 i_22 out_23 = some j25 ∧ f 1 = v1 ∧ f 2 = .pointer (some ⟨g3, 0, none⟩) ∧ f 6 = v23_out ∧ f 21 = .int .i64 (m.sizes.length : Int) ∧ f 22 = .int .i64 (i_22 : Int) ∧ Star H w_ ([own (OR.ownS 3 (OR.frz RP.int)) [v23_out] out_23, box g3 30 #[v0_0, v0_1]]) := ⟨_, rfl⟩
        have hst := Star.addNil (R := (OR.frz RP.int)) (e := 3) hst
        refine W_loop I25 (n := m.sizes.length) ?_ ?_
        · rw [hI25]; exact ⟨0, m.sizes, [], (.slice none 0 0), rfl, rfl, Nat.zero_add _, hL25, sf1, sf2, rfl, rfl, rfl, hst⟩
        ·
          clear hst
          intro n25 f w_ hI
          rw [hI25] at hI
          obtain ⟨i_22, suf25, out_23, v23_out, rfl, hd25, hl25, hL25, sf1, sf2, sf6, sf21, sf22, hst⟩ := hI
          refine W_seq ?_
          refine W_region ?_
          refine L_lss (m := (i_22 : Int)) (n := (m.sizes.length : Int)) rfl sf22 sf21 ?_
          refine L_nil ?_
          refine W_seq ?_
          refine W_cond (b := decide ((i_22 : Int) < (m.sizes.length : Int))) rfl (fun hc27 => ?_) (fun hc27 => ?_)
          ·
            have hlt25 := of_decide_eq_true hc27
            cases suf25 with
            | nil => exact absurd hlt25 (by simp at hl25; omega)
            | cons x_25 rest25 =>
              obtain ⟨o25, hB25, hL25⟩ := range_cons hL25
              rw [i_DecodeValues_b1] at hB25
              have hix25 := drop_idx hd25
              refine W_skip ?_
              refine W_seq ?_
              refine W_block ?_
              refine W_seq ?_
              refine W_region ?_
              refine L_mv (v := .int .i64 (i_22 : Int)) rfl sf22 ?_
              refine L_as (v := .int .i64 (i_22 : Int)) rfl rfl ?_
              refine L_nil ?_
              refine W_seq ?_
              refine W_region ?_
              refine L_as (v := .int .i64 0) rfl rfl ?_
              refine L_nil ?_
              refine W_seq ?_
              refine W_seq ?_
              obtain ⟨x33, hx33, hB25⟩ := bind_some hB25
              refine W_region ?_
              refine L_lda (cs := [v0_0, v0_1]) rfl Try.isAgg30 Try.sizeOf30 sf2 (At.sub0 (Blk.at (Star.blkAt 1 hst rfl)) 0 2) rfl ?_
              refine L_mv (v := .int .i64 (i_22 : Int)) rfl rfl ?_
              obtain ⟨Hb36, hle37, hsb38, hfz39, hbk40⟩ := Star.borrow hst
              refine L_call (args := #[.agg #[v0_0, v0_1], .int .i64 (i_22 : Int)]) rfl Try.call61 (ops2 rfl rfl) (i_Model_varsOf_c (m := m) (cell := (i_22 : Int)) hsb38 (RP.mono _ h0_0 hle37) (RP.mono _ h0_1 hle37) hx33) ?_
              rintro r41_0 w41 ⟨_, rfl, hst⟩
              have hst := hbk40 hst (closedL_cons (closed_own (OR.closed_ownS closed_int) _ _) closedL_nil)
              refine L_len (v := r41_0) (n := List.length x33) rfl Try.underlying22 rfl (Star.len 0 hst rfl) ?_
              refine L_mv (v := .int .i64 0) rfl rfl ?_
              refine L_nil ?_
              have hlen47 : List.length x33 ≤ 9223372036854775807 := len_le (Star.len 0 hst rfl)
              obtain ⟨j47, hL47, hB25⟩ := bind_some hB25
              obtain ⟨R47, hR47⟩ : ∃ R : Fr → World → Prop, R = fun f w_ => ∃ out_44 : List Int, ∃ count_46 : Int, ∃ v44_out : Value, j47 = .nx (out_44, count_46) ∧ f 1 = v1 ∧ f 2 = .pointer (some ⟨g3, 0, none⟩) ∧ f 6 = v44_out ∧ f 8 = .int .i64 count_46 ∧ f 21 = .int .i64 (m.sizes.length : Int) ∧ f 22 = .int .i64 (i_22 : Int) ∧ Star H w_ ([own (OR.ownS 3 (OR.frz RP.int)) [v44_out] out_44, box g3 30 #[v0_0, v0_1]]) := ⟨_, rfl⟩
              refine W_join R47 ?_ ?_
              ·
                refine W_block ?_
                obtain ⟨I47, hI47⟩ : ∃ I : Nat → Fr → World → Prop, I = fun n f w_ => ∃ i_43 : Nat, ∃ suf47 : List Int, ∃ out_44 : List Int, ∃ count_46 : Int, ∃ v44_out : Value, n = suf47.length ∧ List.drop i_43 x33 = suf47 ∧ i_43 + suf47.length = x33.length ∧ rangeL (i_DecodeValues_b2 values) suf47 i_43 (out_44, count_46) = some j47 ∧ f 1 = v1 ∧ f 2 = .pointer (some ⟨g3, 0, none⟩) ∧ f 6 = v44_out ∧ f 8 = .int .i64 count_46 ∧ f 21 = .int .i64 (m.sizes.length : Int) ∧ f 22 = .int .i64 (i_22 : Int) ∧ f 27 = r41_0 ∧ f 28 = .int .i64 (x33.length : Int) ∧ f 29 = .int .i64 (i_43 : Int) ∧ Star H w_ ([own (OR.ownS 3 (OR.frz RP.int)) [v44_out] out_44, own (OR.ownS 3 (OR.frz RP.int)) [r41_0] x33, box g3 30 #[v0_0, v0_1]]) := ⟨_, rfl⟩
                have hst := Star.get 2 hst rfl
                have hst := Star.get 1 hst rfl
                have hst := Star.get 2 hst rfl
                refine W_loop I47 (n := x33.length) ?_ ?_
                · rw [hI47]; exact ⟨0, x33, out_23, 0, v23_out, rfl, rfl, Nat.zero_add _, hL47, sf1, sf2, sf6, rfl, sf21, sf22, rfl, rfl, rfl, hst⟩
                ·
                  clear hst
                  intro n47 f w_ hI
                  rw [hI47] at hI
                  obtain ⟨i_43, suf47, out_44, count_46, v44_out, rfl, hd47, hl47, hL47, sf1, sf2, sf6, sf8, sf21, sf22, sf27, sf28, sf29, hst⟩ := hI
                  refine W_seq ?_
                  refine W_region ?_
                  refine L_lss (m := (i_43 : Int)) (n := (x33.length : Int)) rfl sf29 sf28 ?_
                  refine L_nil ?_
                  refine W_seq ?_
                  refine W_cond (b := decide ((i_43 : Int) < (x33.length : Int))) rfl (fun hc48 => ?_) (fun hc48 => ?_)
                  ·
                    have hlt47 := of_decide_eq_true hc48
                    cases suf47 with
                    | nil => exact absurd hlt47 (by simp at hl47; omega)
                    | cons x_47 rest47 =>
                      obtain ⟨o47, hB47, hL47⟩ := range_cons hL47
                      rw [i_DecodeValues_b2] at hB47
                      have hix47 := drop_idx hd47
                      refine W_skip ?_
                      refine W_seq ?_
                      refine W_block ?_
                      refine W_seq ?_
                      refine W_region ?_
                      refine L_mv (v := .int .i64 (i_43 : Int)) rfl sf29 ?_
                      obtain ⟨g53, cap_g53, hv54, _, _⟩ := Star.row 1 hst rfl hix47
                      refine L_ixO (R := (OR.frz RP.int)) (tb := 0) 0 rfl Try.underlying22 Try.sizeOf3 sf27 hv54 (by first | rfl | simp) sf29 hix47 ?_
                      obtain ⟨cs55, hr55, hat55⟩ := Star.eltF 1 hst rfl hv54 hix47
                      obtain rfl : _ = [_] := hr55
                      refine L_ld (v := .int .i64 x_47) rfl Try.isAgg3 rfl (At.cell hat55 (j := 0) rfl) ?_
                      refine L_as (v := .int .i64 (i_43 : Int)) rfl rfl ?_
                      refine L_as (v := .int .i64 x_47) rfl rfl ?_
                      refine L_nil ?_
                      refine W_seq ?_
                      obtain ⟨x57, hx57, hB47⟩ := bind_some hB47
                      refine W_region ?_
                      refine L_mv (v := v1) rfl sf1 ?_
                      refine L_mv (v := .int .i64 x_47) rfl rfl ?_
                      refine L_sub (m := x_47) (n := 1) rfl rfl rfl ?_
                      refine L_ix (r := RP.bool) rfl Try.underlying46 Try.sizeOf4 rfl h1 rfl hx57 ?_
                      intro g62 o63 cs_g62 hrk_hat64 hat64
                      obtain rfl : _ = [_] := hrk_hat64
                      refine L_ld (v := .bool x57) rfl Try.isAgg4 rfl (At.cell (AtH.at hat64 hst.sub) (j := 0) rfl) ?_
                      refine L_nil ?_
                      obtain ⟨⟨out_66, count_68⟩, hA69, hB47⟩ := bind_some hB47
                      obtain ⟨R69, hR69⟩ : ∃ R : Fr → World → Prop, R = fun f w_ => ∃ v66_out : Value, f 1 = v1 ∧ f 2 = .pointer (some ⟨g3, 0, none⟩) ∧ f 6 = v66_out ∧ f 8 = .int .i64 count_68 ∧ f 21 = .int .i64 (m.sizes.length : Int) ∧ f 22 = .int .i64 (i_22 : Int) ∧ f 27 = r41_0 ∧ f 28 = .int .i64 (x33.length : Int) ∧ f 29 = .int .i64 (i_43 : Int) ∧ Star H w_ ([own (OR.ownS 3 (OR.frz RP.int)) [v66_out] out_66, own (OR.ownS 3 (OR.frz RP.int)) [r41_0] x33, box g3 30 #[v0_0, v0_1]]) := ⟨_, rfl⟩
                      refine W_join R69 ?_ ?_
                      ·
                        refine W_cond (b := x57) rfl (fun hc70 => ?_) (fun hc70 => ?_)
                        ·
                          have hA69 := (ite_t hc70).symm.trans hA69
                          refine W_seq ?_
                          obtain ⟨x74, hx74, hA69⟩ := bind_some hA69
                          refine W_region ?_
                          refine L_mv (v := v44_out) rfl sf6 ?_
                          refine L_mv (v := .int .i64 (i_43 : Int)) rfl rfl ?_
                          refine L_bs rfl (parts1 rfl) (bs_22_1_0 (.int .i64 (i_43 : Int)) rfl) hst ?_
                          intro g78 w79 hst
                          have hst := Star.addF (r := RP.int) (cs := [.int .i64 (i_43 : Int)]) (x := (i_43 : Int)) hst rfl
                          have hst := Star.mkRow (R := (OR.frz RP.int)) [([.int .i64 (i_43 : Int)], (i_43 : Int))] [(i_43 : Int)] 1 hst rfl rfl rfl (by decide)
                          have hst := Star.get 1 hst rfl
                          refine L_appM (v := v44_out) (u := (.slice (some ⟨g78, 0, none⟩) 1 1)) rfl et_22 rfl rfl hst hx74 ?_
                          intro v81 w82 hst
                          refine L_as (v := v81) rfl rfl ?_
                          refine L_nil ?_
                          refine W_region ?_
                          refine L_mv (v := .int .i64 count_46) rfl sf8 ?_
                          refine L_add (m := count_46) (n := 1) rfl rfl rfl ?_
                          refine L_as (v := .int .i64 (i64 (count_46 + 1))) rfl rfl ?_
                          refine L_nil ?_
                          obtain ⟨rfl, rfl⟩ := so2 hA69
                          show R69 _ _
                          rw [hR69]
                          exact ⟨v81, sf1, sf2, rfl, rfl, sf21, sf22, sf27, sf28, sf29, hst⟩
                        ·
                          have hA69 := (ite_f hc70).symm.trans hA69
                          refine W_skip ?_
                          obtain ⟨rfl, rfl⟩ := so2 hA69
                          show R69 _ _
                          rw [hR69]
                          exact ⟨v44_out, sf1, sf2, sf6, sf8, sf21, sf22, sf27, sf28, sf29, hst⟩
                      ·
                        intro f w_ hR
                        rw [hR69] at hR
                        obtain ⟨v66_out, sf1, sf2, sf6, sf8, sf21, sf22, sf27, sf28, sf29, hst⟩ := hR
                        clear hR69
                        refine W_region ?_
                        refine L_add (m := (i_43 : Int)) (n := 1) rfl sf29 rfl ?_
                        refine L_mv (v := .int .i64 (i64 ((i_43 : Int) + 1))) rfl rfl ?_
                        refine L_nil ?_
                        obtain rfl := so hB47
                        show ∃ m, m < _ ∧ I47 m _ _
                        refine ⟨rest47.length, by simp, ?_⟩
                        rw [hI47]
                        exact ⟨i_43 + 1, rest47, out_66, count_68, v66_out, rfl, drop_next hd47, by simp at hl47; omega, hL47, sf1, sf2, sf6, sf8, sf21, sf22, sf27, sf28, (Eq.trans rfl (congrArg (Value.int .i64) (i64_succ (n := x33.length) (by simp at hl47; omega) hlen47))), hst⟩
                  ·
                    cases suf47 with
                    | cons _ _ => exact absurd (of_decide_eq_false hc48) (by simp at hl47; omega)
                    | nil =>
                      obtain rfl := range_nil hL47
                      refine W_exit ?_
                      have hst := Star.get 2 hst rfl
                      have hst := Star.get 1 hst rfl
                      show R47 _ _
                      rw [hR47]
                      exact ⟨out_44, count_46, v44_out, rfl, sf1, sf2, sf6, sf8, sf21, sf22, (Star.keepN 2 hst)⟩
              ·
                clear hst
                intro f w_ hR
                rw [hR47] at hR
                obtain ⟨out_44, count_46, v44_out, rfl, sf1, sf2, sf6, sf8, sf21, sf22, hst⟩ := hR
                clear hR47
                refine W_seq ?_
                refine W_region ?_
                refine L_mv (v := .int .i64 count_46) rfl sf8 ?_
                refine L_neq (m := count_46) (n := 1) rfl rfl rfl ?_
                refine L_nil ?_
                refine W_cond (b := (count_46 != 1)) rfl (fun hc84 => ?_) (fun hc84 => ?_)
                ·
                  have hB25 := (ite_t hc84).symm.trans hB25
                  refine W_seq ?_
                  refine W_region ?_
                  refine L_as (v := (.slice none 0 0)) rfl rfl ?_
                  refine L_as (v := .bool false) rfl rfl ?_
                  refine L_nil ?_
                  refine W_ret ?_
                  refine retG2 (v1 := (.slice none 0 0)) (v2 := .bool false) Try.results38 rfl rfl ?_
                  obtain rfl := so hB25
                  obtain rfl := so hL25
                  obtain rfl := so hF
                  have hst := Star.addNil (R := (OR.frz RP.int)) (e := 3) hst
                  exact ⟨(.slice none 0 0), rfl, (Star.keepN 1 hst)⟩
                ·
                  have hB25 := (ite_f hc84).symm.trans hB25
                  refine W_skip ?_
                  refine W_region ?_
                  refine L_add (m := (i_22 : Int)) (n := 1) rfl sf22 rfl ?_
                  refine L_mv (v := .int .i64 (i64 ((i_22 : Int) + 1))) rfl rfl ?_
                  refine L_nil ?_
                  obtain rfl := so hB25
                  show ∃ m, m < _ ∧ I25 m _ _
                  refine ⟨rest25.length, by simp, ?_⟩
                  rw [hI25]
                  exact ⟨i_22 + 1, rest25, out_44, v44_out, rfl, drop_next hd25, by simp at hl25; omega, hL25, sf1, sf2, sf6, sf21, (Eq.trans rfl (congrArg (Value.int .i64) (i64_succ (n := m.sizes.length) (by simp at hl25; omega) hlen25))), hst⟩
          ·
            cases suf25 with
            | cons _ _ => exact absurd (of_decide_eq_false hc27) (by simp at hl25; omega)
            | nil =>
              obtain rfl := range_nil hL25
              refine W_exit ?_
              show R25 _ _
              rw [hR25]
              exact ⟨out_23, v23_out, rfl, sf6, (Star.keepN 1 hst)⟩
      ·
        clear hst
        intro f w_ hR
        rw [hR25] at hR
        obtain ⟨out_23, v23_out, rfl, sf6, hst⟩ := hR
        clear hR25
        refine W_seq ?_
        refine W_region ?_
        refine L_mv (v := v23_out) rfl sf6 ?_
        refine L_as (v := v23_out) rfl rfl ?_
        refine L_as (v := .bool true) rfl rfl ?_
        refine L_nil ?_
        refine W_ret ?_
        refine retG2 (v1 := v23_out) (v2 := .bool true) Try.results38 rfl rfl ?_
        obtain rfl := so hF
        exact ⟨v23_out, rfl, hst⟩

theorem l_heldIntS_c {a : List Int} {k : Int} {v0 : Value} {H : FH} {w : World} (hst : Star H w []) (h0 : (RP.slice 3 RP.int).rel H [v0] a) {r : Int} (hF : l_heldIntS a k = some r) :
    C Try.prog 39 #[v0, .int .i64 k] w fun v w' => v = .int .i64 r ∧ Star H w' [] := by
  unfold l_heldIntS at hF
  refine C_enter Try.func39 rfl Try.ntmps39 rfl ?_
  refine W_seq ?_
  refine W_region ?_
  refine L_as (v := .int .i64 0) rfl rfl ?_
  refine L_nil ?_
  refine W_seq ?_
  refine W_seq ?_
  refine W_region ?_
  refine L_as (v := .int .i64 0) rfl rfl ?_
  refine L_nil ?_
  have hlen3 : List.length a ≤ 9223372036854775807 := len_le (slice_len h0)
  obtain ⟨j3, hL3, hF⟩ := bind_some hF
  obtain ⟨R3, hR3⟩ : ∃ R : Fr → World → Prop, R = fun f w_ => ∃ k_2 : Int, j3 = .nx k_2 ∧ f 1 = .int .i64 k_2 ∧ Star H w_ ([]) := ⟨_, rfl⟩
  refine W_join R3 ?_ ?_
  ·
    refine W_block ?_
    obtain ⟨I3, hI3⟩ : ∃ I : Nat → Fr → World → Prop, I = fun n f w_ => ∃ i_1 : Nat, ∃ suf3 : List Int, ∃ k_2 : Int, n = suf3.length ∧ List.drop i_1 a = suf3 ∧ i_1 + suf3.length = a.length ∧ rangeL l_heldIntS_b1 suf3 i_1 k_2 = some j3 ∧ f 0 = v0 ∧ f 1 = .int .i64 k_2 ∧ f 5 = .int .i64 (i_1 : Int) ∧ Star H w_ ([]) := ⟨_, rfl⟩
    refine W_loop I3 (n := a.length) ?_ ?_
    · rw [hI3]; exact ⟨0, a, k, rfl, rfl, Nat.zero_add _, hL3, rfl, rfl, rfl, hst⟩
    ·
      clear hst
      intro n3 f w_ hI
      rw [hI3] at hI
      obtain ⟨i_1, suf3, k_2, rfl, hd3, hl3, hL3, sf0, sf1, sf5, hst⟩ := hI
      refine W_seq ?_
      refine W_seq ?_
      refine W_region ?_
      refine L_mv (v := .int .i64 (i_1 : Int)) rfl sf5 ?_
      refine L_mv (v := v0) rfl sf0 ?_
      refine L_len (v := v0) (n := List.length a) rfl Try.underlying22 rfl (slice_len h0) ?_
      refine L_lss (m := (i_1 : Int)) (n := (a.length : Int)) rfl rfl rfl ?_
      refine L_nil ?_
      refine W_cond (b := decide ((i_1 : Int) < (a.length : Int))) rfl (fun hc4 => ?_) (fun hc4 => ?_)
      ·
        have hlt3 := of_decide_eq_true hc4
        cases suf3 with
        | nil => exact absurd hlt3 (by simp at hl3; omega)
        | cons x_3 rest3 =>
          obtain ⟨o3, hB3, hL3⟩ := range_cons hL3
          rw [l_heldIntS_b1] at hB3
          have hix3 := drop_idx hd3
          refine W_skip ?_
          refine W_seq ?_
          refine W_block ?_
          refine W_seq ?_
          refine W_seq ?_
          refine W_region ?_
          refine L_mv (v := v0) rfl sf0 ?_
          refine L_mv (v := .int .i64 (i_1 : Int)) rfl sf5 ?_
          refine L_ix (r := RP.int) rfl Try.underlying22 Try.sizeOf3 rfl h0 rfl hix3 ?_
          intro g9 o10 cs_g9 hrk_hat11 hat11
          obtain rfl : _ = [_] := hrk_hat11
          refine L_ld (v := .int .i64 x_3) rfl Try.isAgg3 rfl (At.cell (AtH.at hat11 hst.sub) (j := 0) rfl) ?_
          refine L_mv (v := .int .i64 k_2) rfl sf1 ?_
          refine L_neq (m := x_3) (n := k_2) rfl rfl rfl ?_
          refine L_nil ?_
          refine W_cond (b := (x_3 != k_2)) rfl (fun hc13 => ?_) (fun hc13 => ?_)
          ·
            have hB3 := (ite_t hc13).symm.trans hB3
            refine W_seq ?_
            refine W_region ?_
            refine L_as (v := .int .i64 (-1)) rfl rfl ?_
            refine L_nil ?_
            refine W_ret ?_
            refine retG1 (v1 := .int .i64 (-1)) Try.results39 rfl ?_
            obtain rfl := so hB3
            obtain rfl := so hL3
            obtain rfl := so hF
            exact ⟨rfl, hst⟩
          ·
            have hB3 := (ite_f hc13).symm.trans hB3
            refine W_skip ?_
            refine W_region ?_
            refine L_mv (v := .int .i64 k_2) rfl sf1 ?_
            refine L_add (m := k_2) (n := 1) rfl rfl rfl ?_
            refine L_as (v := .int .i64 (i64 (k_2 + 1))) rfl rfl ?_
            refine L_nil ?_
            refine W_region ?_
            refine L_mv (v := .int .i64 (i_1 : Int)) rfl sf5 ?_
            refine L_add (m := (i_1 : Int)) (n := 1) rfl rfl rfl ?_
            refine L_as (v := .int .i64 (i64 ((i_1 : Int) + 1))) rfl rfl ?_
            refine L_nil ?_
            obtain rfl := so hB3
            show ∃ m, m < _ ∧ I3 m _ _
            refine ⟨rest3.length, by simp, ?_⟩
            rw [hI3]
            exact ⟨i_1 + 1, rest3, i64 (k_2 + 1), rfl, drop_next hd3, by simp at hl3; omega, hL3, sf0, rfl, (Eq.trans rfl (congrArg (Value.int .i64) (i64_succ (n := a.length) (by simp at hl3; omega) hlen3))), hst⟩
      ·
        cases suf3 with
        | cons _ _ => exact absurd (of_decide_eq_false hc4) (by simp at hl3; omega)
        | nil =>
          obtain rfl := range_nil hL3
          refine W_exit ?_
          show R3 _ _
          rw [hR3]
          exact ⟨k_2, rfl, sf1, hst⟩
  ·
    clear hst
    intro f w_ hR
    rw [hR3] at hR
    obtain ⟨k_2, rfl, sf1, hst⟩ := hR
    clear hR3
    refine W_seq ?_
    refine W_region ?_
    refine L_mv (v := .int .i64 k_2) rfl sf1 ?_
    refine L_as (v := .int .i64 k_2) rfl rfl ?_
    refine L_nil ?_
    refine W_ret ?_
    refine retG1 (v1 := .int .i64 k_2) Try.results39 rfl ?_
    obtain rfl := so hF
    exact ⟨rfl, hst⟩

theorem l_FnExactDecodeValues_c {fu : Nat} {aM : Model} {aValues : List Bool} {v0_0 : Value} {v0_1 : Value} {v1 : Value} {H : FH} {w : World} (hst : Star H w []) (h0_0 : (RP.slice 3 RP.int).rel H [v0_0] aM.sizes) (h0_1 : (RP.slice 76 (rRule 3 22)).rel H [v0_1] aM.rules) (h1 : (RP.slice 4 RP.bool).rel H [v1] aValues) {r : Bool} (hF : l_FnExactDecodeValues fu aM aValues = some r) :
    C Try.prog 9 #[.agg #[v0_0, v0_1], v1] w fun v w' => v = .bool r ∧ Star H w' [] := by
  unfold l_FnExactDecodeValues at hF
  refine C_enter Try.func9 rfl Try.ntmps9 rfl ?_
  refine W_seq ?_
  refine W_region ?_
  refine L_box (v := .agg #[v0_0, v0_1]) (cs := #[v0_0, v0_1]) rfl rfl rfl hst ?_
  intro g3 w4 hst
  refine L_as (v := .bool false) rfl rfl ?_
  refine L_nil ?_
  refine W_seq ?_
  refine W_seq ?_
  refine W_region ?_
  refine L_mv (v := v1) rfl rfl ?_
  refine L_len (v := v1) (n := List.length aValues) rfl Try.underlying46 rfl (slice_len h1) ?_
  refine L_gtr (m := (aValues.length : Int)) (n := 1048576) rfl rfl rfl ?_
  refine L_nil ?_
  refine W_cond (b := decide ((aValues.length : Int) > 1048576)) rfl (fun hc5 => ?_) (fun hc5 => ?_)
  ·
    have hF := (ite_t hc5).symm.trans hF
    refine W_seq ?_
    refine W_region ?_
    refine L_as (v := .bool true) rfl rfl ?_
    refine L_nil ?_
    refine W_ret ?_
    refine retG1 (v1 := .bool true) Try.results9 rfl ?_
    obtain rfl := so hF
    exact ⟨rfl, (Star.keepN 0 hst)⟩
  ·
    have hF := (ite_f hc5).symm.trans hF
    refine W_skip ?_
    refine W_seq ?_
    refine W_region ?_
    refine L_as (v := .int .i64 1048576) rfl rfl ?_
    refine L_nil ?_
    refine W_seq ?_
    obtain ⟨x11, hx11, hF⟩ := bind_some hF
    refine W_region ?_
    refine L_lda (cs := [v0_0, v0_1]) rfl Try.isAgg25 Try.sizeOf25 rfl (At.sub0 (Blk.at (Star.blkAt 0 hst rfl)) 0 2) rfl ?_
    refine L_mv (v := .int .i64 1048576) rfl rfl ?_
    obtain ⟨Hb13, hle14, hsb15, hfz16, hbk17⟩ := Star.borrow hst
    refine L_call (args := #[.agg #[v0_0, v0_1], .int .i64 1048576]) rfl Try.call11 (ops2 rfl rfl) (l_szModel_c (a := aM) (left := 1048576) hsb15 (RP.mono _ h0_0 hle14) (RP.mono _ h0_1 hle14) hx11) ?_
    rintro _ w18 ⟨rfl, hst⟩
    have hst := hbk17 hst closedL_nil
    refine L_as (v := .int .i64 x11) rfl rfl ?_
    refine L_nil ?_
    refine W_seq ?_
    refine W_seq ?_
    refine W_region ?_
    refine L_mv (v := .int .i64 x11) rfl rfl ?_
    refine L_lss (m := x11) (n := 0) rfl rfl rfl ?_
    refine L_nil ?_
    refine W_cond (b := decide (x11 < 0)) rfl (fun hc19 => ?_) (fun hc19 => ?_)
    ·
      have hF := (ite_t hc19).symm.trans hF
      refine W_seq ?_
      refine W_region ?_
      refine L_as (v := .bool true) rfl rfl ?_
      refine L_nil ?_
      refine W_ret ?_
      refine retG1 (v1 := .bool true) Try.results9 rfl ?_
      obtain rfl := so hF
      exact ⟨rfl, (Star.keepN 0 hst)⟩
    ·
      have hF := (ite_f hc19).symm.trans hF
      refine W_skip ?_
      refine W_seq ?_
      obtain ⟨x25, hx25, hF⟩ := bind_some hF
      obtain ⟨x34, hx34, hF⟩ := bind_some hF
      obtain ⟨x45, hx45, hF⟩ := bind_some hF
      refine W_region ?_
      refine L_lda (cs := [v0_0, v0_1]) rfl Try.isAgg25 Try.sizeOf25 rfl (At.sub0 (Blk.at (Star.blkAt 0 hst rfl)) 0 2) rfl ?_
      obtain ⟨Hb48, hle49, hsb50, hfz51, hbk52⟩ := Star.borrow hst
      refine L_call (args := #[.agg #[v0_0, v0_1]]) rfl Try.call13 (ops1 rfl) (l_toModel_c (a := aM) hsb50 (RP.mono _ h0_0 hle49) (RP.mono _ h0_1 hle49) hx25) ?_
      rintro _ w53 ⟨r53_0, r53_1, rfl, hst⟩
      have hst := hbk52 hst (closedL_cons (closed_own (OR.closed_ownS closed_int) _ _) (closedL_cons (closed_own (OR.closed_ownS closed_oRule) _ _) closedL_nil))
      refine L_mv (v := v1) rfl rfl ?_
      obtain ⟨Hb56, hle57, hsb58, hfz59, hbk60⟩ := Star.borrow hst
      refine L_call (args := #[v1]) rfl Try.call37 (ops1 rfl) (l_toBoolS_c (a := aValues) hsb58 (RP.mono _ h1 hle57) hx34) ?_
      rintro r61_0 w61 ⟨_, rfl, hst⟩
      have hst := hbk60 hst (closedL_cons (closed_own (OR.closed_ownS closed_bool) _ _) closedL_nil)
      obtain ⟨Hb63, hle64, hsb65, hfz66, hbk67⟩ := Star.borrow hst
      have hb68 : (RP.slice 3 RP.int).rel Hb63 [r53_0] x25.sizes := fz_own 1 hfz66 rfl
      have hb69 : (RP.slice 68 (rRule 3 22)).rel Hb63 [r53_1] x25.rules := fz_own 2 hfz66 rfl
      have hb70 : (RP.slice 4 RP.bool).rel Hb63 [r61_0] x34 := fz_own 0 hfz66 rfl
      refine L_call (args := #[.agg #[r53_0, r53_1], r61_0]) rfl Try.call36 (ops2 rfl rfl) (s_DecodeValues_c (m := x25) (values := x34) hsb65 hb68 hb69 hb70 hx45) ?_
      rintro _ w71 ⟨r71_0, rfl, hst⟩
      have hst := hbk67 hst (closedL_cons (closed_own (OR.closed_ownS closed_int) _ _) closedL_nil)
      refine L_mv (v := .tuple #[r71_0, .bool x45.2]) rfl rfl ?_
      refine L_ex (v := r71_0) rfl rfl rfl ?_
      refine L_ex (v := .bool x45.2) rfl rfl rfl ?_
      refine L_as (v := r71_0) rfl rfl ?_
      refine L_as (v := .bool x45.2) rfl rfl ?_
      refine L_nil ?_
      refine W_seq ?_
      obtain ⟨x78, hx78, hF⟩ := bind_some hF
      refine W_region ?_
      refine L_lda (cs := [v0_0, v0_1]) rfl Try.isAgg25 Try.sizeOf25 rfl (At.sub0 (Blk.at (Star.blkAt 4 hst rfl)) 0 2) rfl ?_
      obtain ⟨Hb85, hle86, hsb87, hfz88, hbk89⟩ := Star.borrow hst
      refine L_call (args := #[.agg #[v0_0, v0_1]]) rfl Try.call13 (ops1 rfl) (l_toModel_c (a := aM) hsb87 (RP.mono _ h0_0 hle86) (RP.mono _ h0_1 hle86) hx78) ?_
      rintro _ w90 ⟨r90_0, r90_1, rfl, hst⟩
      have hst := hbk89 hst (closedL_cons (closed_own (OR.closed_ownS closed_int) _ _) (closedL_cons (closed_own (OR.closed_ownS closed_oRule) _ _) closedL_nil))
      refine L_al (cs := #[(.slice none 0 0), (.slice none 0 0)]) rfl Try.zeroValue30 rfl hst ?_
      intro g93 w94 hst
      refine L_staB (vs := #[r90_0, r90_1]) (cs2 := #[r90_0, r90_1]) 0 rfl Try.sizeOf30 rfl rfl rfl (ones_cons (one_len (Star.len 1 hst rfl)) (ones_cons (one_len (Star.len 2 hst rfl)) ones_nil)) hst rfl (by decide) rfl ?_
      intro w95 hst
      refine L_nil ?_
      refine W_seq ?_
      obtain ⟨x101, hx101, hF⟩ := bind_some hF
      refine W_region ?_
      refine L_mv (v := v1) rfl rfl ?_
      obtain ⟨Hb104, hle105, hsb106, hfz107, hbk108⟩ := Star.borrow hst
      refine L_call (args := #[v1]) rfl Try.call37 (ops1 rfl) (l_toBoolS_c (a := aValues) hsb106 (RP.mono _ h1 hle105) hx101) ?_
      rintro r109_0 w109 ⟨_, rfl, hst⟩
      have hst := hbk108 hst (closedL_cons (closed_own (OR.closed_ownS closed_bool) _ _) closedL_nil)
      refine L_as (v := r109_0) rfl rfl ?_
      refine L_nil ?_
      refine W_seq ?_
      obtain ⟨x119, hx119, hF⟩ := bind_some hF
      refine W_region ?_
      refine L_lda (cs := [r90_0, r90_1]) rfl Try.isAgg30 Try.sizeOf30 rfl (At.sub0 (Blk.at (Star.blkAt 1 hst rfl)) 0 2) rfl ?_
      refine L_mv (v := r109_0) rfl rfl ?_
      obtain ⟨Hb122, hle123, hsb124, hfz125, hbk126⟩ := Star.borrow hst
      have hb127 : (RP.slice 3 RP.int).rel Hb122 [r90_0] x78.sizes := fz_own 2 hfz125 rfl
      have hb128 : (RP.slice 68 (rRule 3 22)).rel Hb122 [r90_1] x78.rules := fz_own 3 hfz125 rfl
      have hb129 : (RP.slice 4 RP.bool).rel Hb122 [r109_0] x101 := fz_own 0 hfz125 rfl
      refine L_call (args := #[.agg #[r90_0, r90_1], r109_0]) rfl Try.call38 (ops2 rfl rfl) (i_DecodeValues_c (m := x78) (values := x101) hsb124 hb127 hb128 hb129 hx119) ?_
      rintro _ w130 ⟨r130_0, rfl, hst⟩
      have hst := hbk126 hst (closedL_cons (closed_own (OR.closed_ownS closed_int) _ _) closedL_nil)
      refine L_mv (v := .tuple #[r130_0, .bool x119.2]) rfl rfl ?_
      refine L_ex (v := r130_0) rfl rfl rfl ?_
      refine L_ex (v := .bool x119.2) rfl rfl rfl ?_
      refine L_as (v := r130_0) rfl rfl ?_
      refine L_as (v := .bool x119.2) rfl rfl ?_
      refine L_nil ?_
      refine W_seq ?_
      refine W_seq ?_
      obtain ⟨x139, hx139, hF⟩ := bind_some hF
      obtain ⟨R141, hR141⟩ : ∃ R : Fr → World → Prop, R = fun f w_ => f 1 = v1 ∧ f 2 = .pointer (some ⟨g3, 0, none⟩) ∧ f 6 = r71_0 ∧ f 7 = .bool x45.2 ∧ f 8 = .pointer (some ⟨g93, 0, none⟩) ∧ f 9 = r109_0 ∧ f 10 = r130_0 ∧ f 11 = .bool x119.2 ∧ f 51 = .bool ((!x139) || (x119.2 != x45.2)) ∧ Star H w_ ([own (OR.ownS 3 (OR.frz RP.int)) [r71_0] x45.1, own (OR.ownS 4 (OR.frz RP.bool)) [r109_0] x101, own (OR.ownS 3 (OR.frz RP.int)) [r130_0] x119.1, own (OR.ownS 3 (OR.frz RP.int)) [r90_0] x78.sizes, own (OR.ownS 68 (oRule 3 22)) [r90_1] x78.rules, box g93 30 #[r90_0, r90_1], box g3 25 #[v0_0, v0_1]]) := ⟨_, rfl⟩
      refine W_join R141 ?_ ?_
      ·
        refine W_region ?_
        refine L_mv (v := r130_0) rfl rfl ?_
        refine L_mv (v := r71_0) rfl rfl ?_
        obtain ⟨Hb142, hle143, hsb144, hfz145, hbk146⟩ := Star.borrow hst
        have hb147 : (RP.slice 3 RP.int).rel Hb142 [r130_0] x119.1 := fz_own 0 hfz145 rfl
        have hb148 : (RP.slice 3 RP.int).rel Hb142 [r71_0] x45.1 := fz_own 5 hfz145 rfl
        refine L_call (args := #[r130_0, r71_0]) rfl Try.call26 (ops2 rfl rfl) (l_eqIntS_c (a := x119.1) (b := x45.1) hsb144 hb147 hb148 hx139) ?_
        rintro _ w149 ⟨rfl, hst⟩
        have hst := hbk146 hst closedL_nil
        refine L_not_ (b := x139) rfl rfl ?_
        refine L_mv (v := .bool (!x139)) rfl rfl ?_
        refine L_split (d := 47) (b := (!x139)) rfl (fun hc150 => ?_) (fun hc150 => ?_)
        ·
          refine L_pass rfl ?_
          refine L_pass rfl ?_
          refine L_pass rfl ?_
          refine L_pick (v := .bool ((!x139) || (x119.2 != x45.2))) rfl rfl (or_t hc150) ?_
          refine L_nil ?_
          have hst := Star.get 9 hst rfl
          have hst := Star.get 3 hst rfl
          have hst := Star.get 5 hst rfl
          have hst := Star.get 5 hst rfl
          have hst := Star.get 4 hst rfl
          have hst := Star.get 5 hst rfl
          have hst := Star.get 6 hst rfl
          show R141 _ _
          rw [hR141]
          exact ⟨rfl, rfl, rfl, rfl, rfl, rfl, rfl, rfl, rfl, (Star.keepN 7 hst)⟩
        ·
          refine L_mv (v := .bool x119.2) rfl rfl ?_
          refine L_mv (v := .bool x45.2) rfl rfl ?_
          refine L_bneq (b := x119.2) (c := x45.2) rfl Try.underlying4 rfl rfl ?_
          refine L_pick (v := .bool ((!x139) || (x119.2 != x45.2))) rfl rfl (or_f hc150 rfl) ?_
          refine L_nil ?_
          have hst := Star.get 9 hst rfl
          have hst := Star.get 3 hst rfl
          have hst := Star.get 5 hst rfl
          have hst := Star.get 5 hst rfl
          have hst := Star.get 4 hst rfl
          have hst := Star.get 5 hst rfl
          have hst := Star.get 6 hst rfl
          show R141 _ _
          rw [hR141]
          exact ⟨rfl, rfl, rfl, rfl, rfl, rfl, rfl, rfl, rfl, (Star.keepN 7 hst)⟩
      ·
        intro f w_ hR
        rw [hR141] at hR
        obtain ⟨sf1, sf2, sf6, sf7, sf8, sf9, sf10, sf11, sf51, hst⟩ := hR
        clear hR141
        refine W_cond (b := ((!x139) || (x119.2 != x45.2))) sf51 (fun hc151 => ?_) (fun hc151 => ?_)
        ·
          have hF := (ite_t hc151).symm.trans hF
          refine W_seq ?_
          refine W_region ?_
          refine L_as (v := .bool false) rfl rfl ?_
          refine L_nil ?_
          refine W_ret ?_
          refine retG1 (v1 := .bool false) Try.results9 rfl ?_
          obtain rfl := so hF
          exact ⟨rfl, (Star.keepN 0 hst)⟩
        ·
          have hF := (ite_f hc151).symm.trans hF
          refine W_skip ?_
          refine W_seq ?_
          refine W_seq ?_
          obtain ⟨x157, hx157, hF⟩ := bind_some hF
          obtain ⟨x170, hx170, hF⟩ := bind_some hF
          refine W_drawS 3 [isV (.agg #[r90_0, r90_1]), isV (.agg #[v0_0, v0_1]), exA fun u_0 => exA fun u_1 => isV (.agg #[u_0, u_1])] [own (OR.ownS 3 (OR.frz RP.int)) [r71_0] x45.1, own (OR.ownS 4 (OR.frz RP.bool)) [r109_0] x101, own (OR.ownS 3 (OR.frz RP.int)) [r130_0] x119.1, own (OR.ownS 3 (OR.frz RP.int)) [r90_0] x78.sizes, own (OR.ownS 68 (oRule 3 22)) [r90_1] x78.rules, box g93 30 #[r90_0, r90_1], box g3 25 #[v0_0, v0_1]] [.made 2 54 (fun v_ => own (OR.ownS 3 (OR.frz RP.int)) [(aggC v_ 0)] x157.sizes) none, .made 2 54 (fun v_ => own (OR.ownS 68 (oRule 3 22)) [(aggC v_ 1)] x157.rules) none] ([]) [([], []), ([], []), ([], [0, 1])] (S := [(some 2, some 54, none), (some 2, some 54, none)]) Try_mix (by kernel_rfl) rfl (by kernel_rfl) (amF_cons (mono_V _) (amF_cons (mono_V _) (amF_cons (mono_exA fun _ => mono_exA fun _ => mono_V _) amF_nil))) hst ?_ (fun f w_ H172 hS172 hE172 hT172 hst => ?_)
          ·
            refine opsS_cons ?_ ?_
            ·
              intro f w_ H172 X172 hS172 hE172 hP172 hst
              refine L_lda (cs := [r90_0, r90_1]) rfl Try.isAgg30 Try.sizeOf30 ((hS172 8 rfl).trans sf8) (At.sub0 (Blk.at (Star.blkAt 5 hst rfl)) 0 2) rfl ?_
              exact L_nil ⟨rfl, _, _, _, rfl, rfl, Le.refl _, rfl, hst⟩
            refine opsS_cons ?_ ?_
            ·
              intro f w_ H172 X172 hS172 hE172 hP172 hst
              refine L_lda (cs := [v0_0, v0_1]) rfl Try.isAgg25 Try.sizeOf25 ((hS172 2 rfl).trans sf2) (At.sub0 (Blk.at (Star.blkAt 6 hst rfl)) 0 2) rfl ?_
              exact L_nil ⟨rfl, _, _, _, rfl, rfl, Le.refl _, rfl, hst⟩
            refine opsS_cons ?_ ?_
            ·
              intro f w_ H172 X172 hS172 hE172 hP172 hst
              obtain ⟨Hb181, hle182, hsb183, hfz184, hbk185⟩ := Star.borrow hst
              refine L_call (args := #[.agg #[v0_0, v0_1]]) rfl Try.call13 (ops1 (hP172 1 53 rfl rfl)) (l_toModel_c (a := aM) hsb183 (RP.mono _ h0_0 (Le.trans hE172 hle182)) (RP.mono _ h0_1 (Le.trans hE172 hle182)) hx157) ?_
              rintro _ w186 ⟨r186_0, r186_1, rfl, hst⟩
              have hst := hbk185 hst (closedL_cons (closed_own (OR.closed_ownS closed_int) _ _) (closedL_cons (closed_own (OR.closed_ownS closed_oRule) _ _) closedL_nil))
              have hst := Star.get 1 hst rfl
              have hst := Star.get 1 hst rfl
              have hst := Star.get 8 hst rfl
              have hst := Star.get 8 hst rfl
              have hst := Star.get 8 hst rfl
              have hst := Star.get 8 hst rfl
              have hst := Star.get 8 hst rfl
              have hst := Star.get 8 hst rfl
              have hst := Star.get 8 hst rfl
              exact L_nil ⟨rfl, _, _, _, rfl, rfl, Le.refl _, ⟨_, _, rfl⟩, hst⟩
            exact opsS_nil
          ·
            have hst : Star H172 w_ ([own (OR.ownS 3 (OR.frz RP.int)) [r71_0] x45.1, own (OR.ownS 4 (OR.frz RP.bool)) [r109_0] x101, own (OR.ownS 3 (OR.frz RP.int)) [r130_0] x119.1, own (OR.ownS 3 (OR.frz RP.int)) [r90_0] x78.sizes, own (OR.ownS 68 (oRule 3 22)) [r90_1] x78.rules, box g93 30 #[r90_0, r90_1], box g3 25 #[v0_0, v0_1], own (OR.ownS 3 (OR.frz RP.int)) [(aggC (f 54) 0)] x157.sizes, own (OR.ownS 68 (oRule 3 22)) [(aggC (f 54) 1)] x157.rules]) := hst
            obtain ⟨u189_0, u189_1, hv189⟩ := (hT172 2 54 rfl rfl)
            have hren : Star H172 w_ ([own (OR.ownS 3 (OR.frz RP.int)) [r71_0] x45.1, own (OR.ownS 4 (OR.frz RP.bool)) [r109_0] x101, own (OR.ownS 3 (OR.frz RP.int)) [r130_0] x119.1, own (OR.ownS 3 (OR.frz RP.int)) [r90_0] x78.sizes, own (OR.ownS 68 (oRule 3 22)) [r90_1] x78.rules, box g93 30 #[r90_0, r90_1], box g3 25 #[v0_0, v0_1], own (OR.ownS 3 (OR.frz RP.int)) [(aggC (f 54) 0)] x157.sizes, own (OR.ownS 68 (oRule 3 22)) [(aggC (f 54) 1)] x157.rules]) := hst
            rw [hv189] at hren
            have hst : Star H172 w_ ([own (OR.ownS 3 (OR.frz RP.int)) [r71_0] x45.1, own (OR.ownS 4 (OR.frz RP.bool)) [r109_0] x101, own (OR.ownS 3 (OR.frz RP.int)) [r130_0] x119.1, own (OR.ownS 3 (OR.frz RP.int)) [r90_0] x78.sizes, own (OR.ownS 68 (oRule 3 22)) [r90_1] x78.rules, box g93 30 #[r90_0, r90_1], box g3 25 #[v0_0, v0_1], own (OR.ownS 3 (OR.frz RP.int)) [u189_0] x157.sizes, own (OR.ownS 68 (oRule 3 22)) [u189_1] x157.rules]) := hren
            obtain ⟨Hb190, hle191, hsb192, hfz193, hbk194⟩ := Star.borrow hst
            have hb195 : (RP.slice 3 RP.int).rel Hb190 [r90_0] x78.sizes := fz_own 3 hfz193 rfl
            have hb196 : (RP.slice 68 (rRule 3 22)).rel Hb190 [r90_1] x78.rules := fz_own 4 hfz193 rfl
            have hb197 : (RP.slice 3 RP.int).rel Hb190 [u189_0] x157.sizes := fz_own 7 hfz193 rfl
            have hb198 : (RP.slice 68 (rRule 3 22)).rel Hb190 [u189_1] x157.rules := fz_own 8 hfz193 rfl
            refine L_call (args := #[.agg #[r90_0, r90_1], .agg #[u189_0, u189_1]]) rfl Try.call15 (ops2 (hT172 0 52 rfl rfl) hv189) (l_eqModel_c (a := x78) (b := x157) hsb192 hb195 hb196 hb197 hb198 hx170) ?_
            rintro _ w199 ⟨rfl, hst⟩
            have hst := hbk194 hst closedL_nil
            refine L_not_ (b := x170) rfl rfl ?_
            refine L_nil ?_
            refine W_cond (b := (!x170)) rfl (fun hc200 => ?_) (fun hc200 => ?_)
            ·
              have hF := (ite_t hc200).symm.trans hF
              refine W_seq ?_
              refine W_region ?_
              refine L_as (v := .bool false) rfl rfl ?_
              refine L_nil ?_
              refine W_ret ?_
              refine retG1 (v1 := .bool false) Try.results9 rfl ?_
              obtain rfl := so hF
              exact ⟨rfl, (Star.down (Star.keepN 0 hst) hE172 closedL_nil)⟩
            ·
              have hF := (ite_f hc200).symm.trans hF
              refine W_skip ?_
              refine W_seq ?_
              refine W_seq ?_
              obtain ⟨x206, hx206, hF⟩ := bind_some hF
              obtain ⟨x216, hx216, hF⟩ := bind_some hF
              refine W_region ?_
              refine L_mv (v := r109_0) rfl ((hS172 9 rfl).trans sf9) ?_
              refine L_mv (v := v1) rfl ((hS172 1 rfl).trans sf1) ?_
              obtain ⟨Hb218, hle219, hsb220, hfz221, hbk222⟩ := Star.borrow hst
              refine L_call (args := #[v1]) rfl Try.call37 (ops1 rfl) (l_toBoolS_c (a := aValues) hsb220 (RP.mono _ h1 (Le.trans hE172 hle219)) hx206) ?_
              rintro r223_0 w223 ⟨_, rfl, hst⟩
              have hst := hbk222 hst (closedL_cons (closed_own (OR.closed_ownS closed_bool) _ _) closedL_nil)
              obtain ⟨Hb225, hle226, hsb227, hfz228, hbk229⟩ := Star.borrow hst
              have hb230 : (RP.slice 4 RP.bool).rel Hb225 [r109_0] x101 := fz_own 2 hfz228 rfl
              have hb231 : (RP.slice 4 RP.bool).rel Hb225 [r223_0] x206 := fz_own 0 hfz228 rfl
              refine L_call (args := #[r109_0, r223_0]) rfl Try.call29 (ops2 rfl rfl) (l_eqBoolS_c (a := x101) (b := x206) hsb227 hb230 hb231 hx216) ?_
              rintro _ w232 ⟨rfl, hst⟩
              have hst := hbk229 hst closedL_nil
              refine L_not_ (b := x216) rfl rfl ?_
              refine L_nil ?_
              refine W_cond (b := (!x216)) rfl (fun hc233 => ?_) (fun hc233 => ?_)
              ·
                have hF := (ite_t hc233).symm.trans hF
                refine W_seq ?_
                refine W_region ?_
                refine L_as (v := .bool false) rfl rfl ?_
                refine L_nil ?_
                refine W_ret ?_
                refine retG1 (v1 := .bool false) Try.results9 rfl ?_
                obtain rfl := so hF
                exact ⟨rfl, (Star.down (Star.keepN 0 hst) hE172 closedL_nil)⟩
              ·
                have hF := (ite_f hc233).symm.trans hF
                refine W_skip ?_
                refine W_seq ?_
                refine W_region ?_
                refine L_as (v := .int .i64 1) rfl rfl ?_
                refine L_nil ?_
                refine W_seq ?_
                obtain ⟨x239, hx239, hF⟩ := bind_some hF
                refine W_region ?_
                refine L_lda (cs := [r90_0, r90_1]) rfl Try.isAgg30 Try.sizeOf30 ((hS172 8 rfl).trans sf8) (At.sub0 (Blk.at (Star.blkAt 6 hst rfl)) 0 2) rfl ?_
                refine L_mv (v := .int .i64 1) rfl rfl ?_
                have hst := Star.get 5 hst rfl
                have hst := Star.get 5 hst rfl
                obtain ⟨Hb241, hle242, hsb243, hfz244, hbk245⟩ := Star.lend [_, _] hst
                refine L_call (args := #[.agg #[r90_0, r90_1], .int .i64 1]) rfl Try.call30 (ops2 rfl rfl) (l_markModel_c (a := x78) (k := 1) hsb243 hx239) ?_
                rintro _ w246 ⟨rfl, hst⟩
                have hst := hbk245 hst (closedL_cons (closed_own (OR.closed_ownS closed_int) _ _) (closedL_cons (closed_own (OR.closed_ownS closed_oRule) _ _) closedL_nil))
                refine L_as (v := .int .i64 x239.1) rfl rfl ?_
                refine L_nil ?_
                refine W_seq ?_
                obtain ⟨x252, hx252, hF⟩ := bind_some hF
                refine W_region ?_
                refine L_mv (v := r109_0) rfl ((hS172 9 rfl).trans sf9) ?_
                refine L_mv (v := .int .i64 x239.1) rfl rfl ?_
                have hst := Star.get 4 hst rfl
                obtain ⟨Hb254, hle255, hsb256, hfz257, hbk258⟩ := Star.lend [_] hst
                refine L_call (args := #[r109_0, .int .i64 x239.1]) rfl Try.call32 (ops2 rfl rfl) (l_markBoolS_c (a := x101) (k := x239.1) hsb256 hx252) ?_
                rintro _ w259 ⟨rfl, hst⟩
                have hst := hbk258 hst (closedL_cons (closed_own (OR.closed_ownS closed_bool) _ _) closedL_nil)
                refine L_as (v := .int .i64 x252.1) rfl rfl ?_
                refine L_nil ?_
                refine W_seq ?_
                refine W_seq ?_
                obtain ⟨b269, hb269, hF⟩ := bind_some hF
                obtain ⟨R270, hR270⟩ : ∃ R : Fr → World → Prop, R = fun f w_ => f 1 = v1 ∧ f 2 = .pointer (some ⟨g3, 0, none⟩) ∧ f 6 = r71_0 ∧ f 7 = .bool x45.2 ∧ f 10 = r130_0 ∧ f 80 = .bool (b269 || (x119.2 != x45.2)) ∧ Star H172 w_ ([own (OR.ownS 3 (OR.frz RP.int)) [r71_0] x45.1, own (OR.ownS 3 (OR.frz RP.int)) [r130_0] x119.1, box g3 25 #[v0_0, v0_1]]) := ⟨_, rfl⟩
                refine W_join R270 ?_ ?_
                ·
                  refine W_region ?_
                  refine L_mv (v := .int .i64 x252.1) rfl rfl ?_
                  refine L_lss (m := x252.1) (n := 0) rfl rfl rfl ?_
                  refine L_mv (v := .bool (decide (x252.1 < 0))) rfl rfl ?_
                  refine L_split (d := 70) (b := decide (x252.1 < 0)) rfl (fun hc271 => ?_) (fun hc271 => ?_)
                  ·
                    rw [ite_t hc271] at hb269
                    refine L_pass rfl ?_
                    refine L_pass rfl ?_
                    refine L_pass rfl ?_
                    refine L_pass rfl ?_
                    refine L_pick (v := .bool b269) rfl rfl (congrArg Value.bool (so hb269)) ?_
                    refine L_mv (v := .bool b269) rfl rfl ?_
                    refine L_split (d := 76) (b := b269) rfl (fun hc272 => ?_) (fun hc272 => ?_)
                    ·
                      refine L_pass rfl ?_
                      refine L_pass rfl ?_
                      refine L_pass rfl ?_
                      refine L_pick (v := .bool (b269 || (x119.2 != x45.2))) rfl rfl (or_t hc272) ?_
                      refine L_nil ?_
                      have hst := Star.get 7 hst rfl
                      have hst := Star.get 6 hst rfl
                      have hst := Star.get 6 hst rfl
                      show R270 _ _
                      rw [hR270]
                      exact ⟨((hS172 1 rfl).trans sf1), ((hS172 2 rfl).trans sf2), ((hS172 6 rfl).trans sf6), ((hS172 7 rfl).trans sf7), ((hS172 10 rfl).trans sf10), rfl, (Star.keepN 3 hst)⟩
                    ·
                      refine L_mv (v := .bool x119.2) rfl ((hS172 11 rfl).trans sf11) ?_
                      refine L_mv (v := .bool x45.2) rfl ((hS172 7 rfl).trans sf7) ?_
                      refine L_bneq (b := x119.2) (c := x45.2) rfl Try.underlying4 rfl rfl ?_
                      refine L_pick (v := .bool (b269 || (x119.2 != x45.2))) rfl rfl (or_f hc272 rfl) ?_
                      refine L_nil ?_
                      have hst := Star.get 7 hst rfl
                      have hst := Star.get 6 hst rfl
                      have hst := Star.get 6 hst rfl
                      show R270 _ _
                      rw [hR270]
                      exact ⟨((hS172 1 rfl).trans sf1), ((hS172 2 rfl).trans sf2), ((hS172 6 rfl).trans sf6), ((hS172 7 rfl).trans sf7), ((hS172 10 rfl).trans sf10), rfl, (Star.keepN 3 hst)⟩
                  ·
                    rw [ite_f hc271] at hb269
                    obtain ⟨x267, hx267, hb269⟩ := bind_some hb269
                    refine L_mv (v := r130_0) rfl ((hS172 10 rfl).trans sf10) ?_
                    refine L_mv (v := r71_0) rfl ((hS172 6 rfl).trans sf6) ?_
                    obtain ⟨Hb273, hle274, hsb275, hfz276, hbk277⟩ := Star.borrow hst
                    have hb278 : (RP.slice 3 RP.int).rel Hb273 [r130_0] x119.1 := fz_own 5 hfz276 rfl
                    have hb279 : (RP.slice 3 RP.int).rel Hb273 [r71_0] x45.1 := fz_own 4 hfz276 rfl
                    refine L_call (args := #[r130_0, r71_0]) rfl Try.call26 (ops2 rfl rfl) (l_eqIntS_c (a := x119.1) (b := x45.1) hsb275 hb278 hb279 hx267) ?_
                    rintro _ w280 ⟨rfl, hst⟩
                    have hst := hbk277 hst closedL_nil
                    refine L_not_ (b := x267) rfl rfl ?_
                    refine L_pick (v := .bool b269) rfl rfl (congrArg Value.bool (so hb269)) ?_
                    refine L_mv (v := .bool b269) rfl rfl ?_
                    refine L_split (d := 76) (b := b269) rfl (fun hc281 => ?_) (fun hc281 => ?_)
                    ·
                      refine L_pass rfl ?_
                      refine L_pass rfl ?_
                      refine L_pass rfl ?_
                      refine L_pick (v := .bool (b269 || (x119.2 != x45.2))) rfl rfl (or_t hc281) ?_
                      refine L_nil ?_
                      have hst := Star.get 7 hst rfl
                      have hst := Star.get 6 hst rfl
                      have hst := Star.get 6 hst rfl
                      show R270 _ _
                      rw [hR270]
                      exact ⟨((hS172 1 rfl).trans sf1), ((hS172 2 rfl).trans sf2), ((hS172 6 rfl).trans sf6), ((hS172 7 rfl).trans sf7), ((hS172 10 rfl).trans sf10), rfl, (Star.keepN 3 hst)⟩
                    ·
                      refine L_mv (v := .bool x119.2) rfl ((hS172 11 rfl).trans sf11) ?_
                      refine L_mv (v := .bool x45.2) rfl ((hS172 7 rfl).trans sf7) ?_
                      refine L_bneq (b := x119.2) (c := x45.2) rfl Try.underlying4 rfl rfl ?_
                      refine L_pick (v := .bool (b269 || (x119.2 != x45.2))) rfl rfl (or_f hc281 rfl) ?_
                      refine L_nil ?_
                      have hst := Star.get 7 hst rfl
                      have hst := Star.get 6 hst rfl
                      have hst := Star.get 6 hst rfl
                      show R270 _ _
                      rw [hR270]
                      exact ⟨((hS172 1 rfl).trans sf1), ((hS172 2 rfl).trans sf2), ((hS172 6 rfl).trans sf6), ((hS172 7 rfl).trans sf7), ((hS172 10 rfl).trans sf10), rfl, (Star.keepN 3 hst)⟩
                ·
                  intro f w_ hR
                  rw [hR270] at hR
                  obtain ⟨sf1, sf2, sf6, sf7, sf10, sf80, hst⟩ := hR
                  clear hR270
                  refine W_cond (b := (b269 || (x119.2 != x45.2))) sf80 (fun hc282 => ?_) (fun hc282 => ?_)
                  ·
                    have hF := (ite_t hc282).symm.trans hF
                    refine W_seq ?_
                    refine W_region ?_
                    refine L_as (v := .bool false) rfl rfl ?_
                    refine L_nil ?_
                    refine W_ret ?_
                    refine retG1 (v1 := .bool false) Try.results9 rfl ?_
                    obtain rfl := so hF
                    exact ⟨rfl, (Star.down (Star.keepN 0 hst) hE172 closedL_nil)⟩
                  ·
                    have hF := (ite_f hc282).symm.trans hF
                    refine W_skip ?_
                    refine W_seq ?_
                    refine W_region ?_
                    refine L_as (v := .int .i64 1) rfl rfl ?_
                    refine L_nil ?_
                    refine W_seq ?_
                    obtain ⟨x288, hx288, hF⟩ := bind_some hF
                    refine W_region ?_
                    refine L_mv (v := r130_0) rfl sf10 ?_
                    refine L_mv (v := .int .i64 1) rfl rfl ?_
                    have hst := Star.get 1 hst rfl
                    obtain ⟨Hb290, hle291, hsb292, hfz293, hbk294⟩ := Star.lend [_] hst
                    refine L_call (args := #[r130_0, .int .i64 1]) rfl Try.call31 (ops2 rfl rfl) (l_markIntS_c (a := x119.1) (k := 1) hsb292 hx288) ?_
                    rintro _ w295 ⟨rfl, hst⟩
                    have hst := hbk294 hst (closedL_cons (closed_own (OR.closed_ownS closed_int) _ _) closedL_nil)
                    refine L_as (v := .int .i64 x288.1) rfl rfl ?_
                    refine L_nil ?_
                    refine W_seq ?_
                    refine W_region ?_
                    refine L_as (v := .int .i64 1) rfl rfl ?_
                    refine L_nil ?_
                    refine W_seq ?_
                    obtain ⟨x302, hx302, hF⟩ := bind_some hF
                    refine W_region ?_
                    refine L_mv (v := r130_0) rfl sf10 ?_
                    refine L_mv (v := .int .i64 1) rfl rfl ?_
                    obtain ⟨Hb304, hle305, hsb306, hfz307, hbk308⟩ := Star.borrow hst
                    have hb309 : (RP.slice 3 RP.int).rel Hb304 [r130_0] x288.2 := fz_own 0 hfz307 rfl
                    refine L_call (args := #[r130_0, .int .i64 1]) rfl Try.call39 (ops2 rfl rfl) (l_heldIntS_c (a := x288.2) (k := 1) hsb306 hb309 hx302) ?_
                    rintro _ w310 ⟨rfl, hst⟩
                    have hst := hbk308 hst closedL_nil
                    refine L_as (v := .int .i64 x302) rfl rfl ?_
                    refine L_nil ?_
                    refine W_seq ?_
                    refine W_seq ?_
                    refine W_region ?_
                    refine L_mv (v := .int .i64 x302) rfl rfl ?_
                    refine L_lss (m := x302) (n := 0) rfl rfl rfl ?_
                    refine L_nil ?_
                    refine W_cond (b := decide (x302 < 0)) rfl (fun hc311 => ?_) (fun hc311 => ?_)
                    ·
                      have hF := (ite_t hc311).symm.trans hF
                      refine W_seq ?_
                      refine W_region ?_
                      refine L_as (v := .bool false) rfl rfl ?_
                      refine L_nil ?_
                      refine W_ret ?_
                      refine retG1 (v1 := .bool false) Try.results9 rfl ?_
                      obtain rfl := so hF
                      exact ⟨rfl, (Star.down (Star.keepN 0 hst) hE172 closedL_nil)⟩
                    ·
                      have hF := (ite_f hc311).symm.trans hF
                      refine W_skip ?_
                      refine W_seq ?_
                      refine W_seq ?_
                      refine W_region ?_
                      refine L_mv (v := .int .i64 x302) rfl rfl ?_
                      refine L_mv (v := .int .i64 x288.1) rfl rfl ?_
                      refine L_neq (m := x302) (n := x288.1) rfl rfl rfl ?_
                      refine L_nil ?_
                      refine W_cond (b := (x302 != x288.1)) rfl (fun hc312 => ?_) (fun hc312 => ?_)
                      ·
                        have hF := (ite_t hc312).symm.trans hF
                        refine W_seq ?_
                        refine W_region ?_
                        refine L_as (v := .bool false) rfl rfl ?_
                        refine L_nil ?_
                        refine W_ret ?_
                        refine retG1 (v1 := .bool false) Try.results9 rfl ?_
                        obtain rfl := so hF
                        exact ⟨rfl, (Star.down (Star.keepN 0 hst) hE172 closedL_nil)⟩
                      ·
                        have hF := (ite_f hc312).symm.trans hF
                        refine W_skip ?_
                        refine W_seq ?_
                        obtain ⟨x318, hx318, hF⟩ := bind_some hF
                        obtain ⟨x327, hx327, hF⟩ := bind_some hF
                        obtain ⟨x338, hx338, hF⟩ := bind_some hF
                        refine W_region ?_
                        refine L_lda (cs := [v0_0, v0_1]) rfl Try.isAgg25 Try.sizeOf25 sf2 (At.sub0 (Blk.at (Star.blkAt 2 hst rfl)) 0 2) rfl ?_
                        obtain ⟨Hb341, hle342, hsb343, hfz344, hbk345⟩ := Star.borrow hst
                        refine L_call (args := #[.agg #[v0_0, v0_1]]) rfl Try.call13 (ops1 rfl) (l_toModel_c (a := aM) hsb343 (RP.mono _ h0_0 (Le.trans hE172 hle342)) (RP.mono _ h0_1 (Le.trans hE172 hle342)) hx318) ?_
                        rintro _ w346 ⟨r346_0, r346_1, rfl, hst⟩
                        have hst := hbk345 hst (closedL_cons (closed_own (OR.closed_ownS closed_int) _ _) (closedL_cons (closed_own (OR.closed_ownS closed_oRule) _ _) closedL_nil))
                        refine L_mv (v := v1) rfl sf1 ?_
                        obtain ⟨Hb349, hle350, hsb351, hfz352, hbk353⟩ := Star.borrow hst
                        refine L_call (args := #[v1]) rfl Try.call37 (ops1 rfl) (l_toBoolS_c (a := aValues) hsb351 (RP.mono _ h1 (Le.trans hE172 hle350)) hx327) ?_
                        rintro r354_0 w354 ⟨_, rfl, hst⟩
                        have hst := hbk353 hst (closedL_cons (closed_own (OR.closed_ownS closed_bool) _ _) closedL_nil)
                        obtain ⟨Hb356, hle357, hsb358, hfz359, hbk360⟩ := Star.borrow hst
                        have hb361 : (RP.slice 3 RP.int).rel Hb356 [r346_0] x318.sizes := fz_own 1 hfz359 rfl
                        have hb362 : (RP.slice 68 (rRule 3 22)).rel Hb356 [r346_1] x318.rules := fz_own 2 hfz359 rfl
                        have hb363 : (RP.slice 4 RP.bool).rel Hb356 [r354_0] x327 := fz_own 0 hfz359 rfl
                        refine L_call (args := #[.agg #[r346_0, r346_1], r354_0]) rfl Try.call38 (ops2 rfl rfl) (i_DecodeValues_c (m := x318) (values := x327) hsb358 hb361 hb362 hb363 hx338) ?_
                        rintro _ w364 ⟨r364_0, rfl, hst⟩
                        have hst := hbk360 hst (closedL_cons (closed_own (OR.closed_ownS closed_int) _ _) closedL_nil)
                        refine L_mv (v := .tuple #[r364_0, .bool x338.2]) rfl rfl ?_
                        refine L_ex (v := r364_0) rfl rfl rfl ?_
                        refine L_ex (v := .bool x338.2) rfl rfl rfl ?_
                        refine L_as (v := r364_0) rfl rfl ?_
                        refine L_as (v := .bool x338.2) rfl rfl ?_
                        refine L_nil ?_
                        refine W_seq ?_
                        refine W_seq ?_
                        obtain ⟨x373, hx373, hF⟩ := bind_some hF
                        obtain ⟨R375, hR375⟩ : ∃ R : Fr → World → Prop, R = fun f w_ => f 10 = r130_0 ∧ f 13 = .int .i64 x288.1 ∧ f 108 = .bool ((!x373) || (x338.2 != x45.2)) ∧ Star H172 w_ ([own (OR.ownS 3 (OR.frz RP.int)) [r130_0] x288.2]) := ⟨_, rfl⟩
                        refine W_join R375 ?_ ?_
                        ·
                          refine W_region ?_
                          refine L_mv (v := r364_0) rfl rfl ?_
                          refine L_mv (v := r71_0) rfl sf6 ?_
                          obtain ⟨Hb376, hle377, hsb378, hfz379, hbk380⟩ := Star.borrow hst
                          have hb381 : (RP.slice 3 RP.int).rel Hb376 [r364_0] x338.1 := fz_own 0 hfz379 rfl
                          have hb382 : (RP.slice 3 RP.int).rel Hb376 [r71_0] x45.1 := fz_own 5 hfz379 rfl
                          refine L_call (args := #[r364_0, r71_0]) rfl Try.call26 (ops2 rfl rfl) (l_eqIntS_c (a := x338.1) (b := x45.1) hsb378 hb381 hb382 hx373) ?_
                          rintro _ w383 ⟨rfl, hst⟩
                          have hst := hbk380 hst closedL_nil
                          refine L_not_ (b := x373) rfl rfl ?_
                          refine L_mv (v := .bool (!x373)) rfl rfl ?_
                          refine L_split (d := 104) (b := (!x373)) rfl (fun hc384 => ?_) (fun hc384 => ?_)
                          ·
                            refine L_pass rfl ?_
                            refine L_pass rfl ?_
                            refine L_pass rfl ?_
                            refine L_pick (v := .bool ((!x373) || (x338.2 != x45.2))) rfl rfl (or_t hc384) ?_
                            refine L_nil ?_
                            have hst := Star.get 4 hst rfl
                            show R375 _ _
                            rw [hR375]
                            exact ⟨sf10, rfl, rfl, (Star.keepN 1 hst)⟩
                          ·
                            refine L_mv (v := .bool x338.2) rfl rfl ?_
                            refine L_mv (v := .bool x45.2) rfl sf7 ?_
                            refine L_bneq (b := x338.2) (c := x45.2) rfl Try.underlying4 rfl rfl ?_
                            refine L_pick (v := .bool ((!x373) || (x338.2 != x45.2))) rfl rfl (or_f hc384 rfl) ?_
                            refine L_nil ?_
                            have hst := Star.get 4 hst rfl
                            show R375 _ _
                            rw [hR375]
                            exact ⟨sf10, rfl, rfl, (Star.keepN 1 hst)⟩
                        ·
                          intro f w_ hR
                          rw [hR375] at hR
                          obtain ⟨sf10, sf13, sf108, hst⟩ := hR
                          clear hR375
                          refine W_cond (b := ((!x373) || (x338.2 != x45.2))) sf108 (fun hc385 => ?_) (fun hc385 => ?_)
                          ·
                            have hF := (ite_t hc385).symm.trans hF
                            refine W_seq ?_
                            refine W_region ?_
                            refine L_as (v := .bool false) rfl rfl ?_
                            refine L_nil ?_
                            refine W_ret ?_
                            refine retG1 (v1 := .bool false) Try.results9 rfl ?_
                            obtain rfl := so hF
                            exact ⟨rfl, (Star.down (Star.keepN 0 hst) hE172 closedL_nil)⟩
                          ·
                            have hF := (ite_f hc385).symm.trans hF
                            refine W_skip ?_
                            refine W_seq ?_
                            refine W_region ?_
                            refine L_as (v := .int .i64 1) rfl rfl ?_
                            refine L_nil ?_
                            refine W_seq ?_
                            obtain ⟨x392, hx392, hF⟩ := bind_some hF
                            refine W_region ?_
                            refine L_mv (v := r130_0) rfl sf10 ?_
                            refine L_mv (v := .int .i64 1) rfl rfl ?_
                            obtain ⟨Hb394, hle395, hsb396, hfz397, hbk398⟩ := Star.borrow hst
                            have hb399 : (RP.slice 3 RP.int).rel Hb394 [r130_0] x288.2 := fz_own 0 hfz397 rfl
                            refine L_call (args := #[r130_0, .int .i64 1]) rfl Try.call39 (ops2 rfl rfl) (l_heldIntS_c (a := x288.2) (k := 1) hsb396 hb399 hx392) ?_
                            rintro _ w400 ⟨rfl, hst⟩
                            have hst := hbk398 hst closedL_nil
                            refine L_as (v := .int .i64 x392) rfl rfl ?_
                            refine L_nil ?_
                            refine W_seq ?_
                            refine W_seq ?_
                            refine W_region ?_
                            refine L_mv (v := .int .i64 x392) rfl rfl ?_
                            refine L_lss (m := x392) (n := 0) rfl rfl rfl ?_
                            refine L_nil ?_
                            refine W_cond (b := decide (x392 < 0)) rfl (fun hc401 => ?_) (fun hc401 => ?_)
                            ·
                              have hF := (ite_t hc401).symm.trans hF
                              refine W_seq ?_
                              refine W_region ?_
                              refine L_as (v := .bool false) rfl rfl ?_
                              refine L_nil ?_
                              refine W_ret ?_
                              refine retG1 (v1 := .bool false) Try.results9 rfl ?_
                              obtain rfl := so hF
                              exact ⟨rfl, (Star.down (Star.keepN 0 hst) hE172 closedL_nil)⟩
                            ·
                              have hF := (ite_f hc401).symm.trans hF
                              refine W_skip ?_
                              refine W_seq ?_
                              refine W_seq ?_
                              refine W_region ?_
                              refine L_mv (v := .int .i64 x392) rfl rfl ?_
                              refine L_mv (v := .int .i64 x288.1) rfl sf13 ?_
                              refine L_neq (m := x392) (n := x288.1) rfl rfl rfl ?_
                              refine L_nil ?_
                              refine W_cond (b := (x392 != x288.1)) rfl (fun hc402 => ?_) (fun hc402 => ?_)
                              ·
                                have hF := (ite_t hc402).symm.trans hF
                                refine W_seq ?_
                                refine W_region ?_
                                refine L_as (v := .bool false) rfl rfl ?_
                                refine L_nil ?_
                                refine W_ret ?_
                                refine retG1 (v1 := .bool false) Try.results9 rfl ?_
                                obtain rfl := so hF
                                exact ⟨rfl, (Star.down (Star.keepN 0 hst) hE172 closedL_nil)⟩
                              ·
                                have hF := (ite_f hc402).symm.trans hF
                                refine W_skip ?_
                                refine W_seq ?_
                                refine W_region ?_
                                refine L_as (v := .bool true) rfl rfl ?_
                                refine L_nil ?_
                                refine W_ret ?_
                                refine retG1 (v1 := .bool true) Try.results9 rfl ?_
                                obtain rfl := so hF
                                exact ⟨rfl, (Star.down (Star.keepN 0 hst) hE172 closedL_nil)⟩

end Go.Proofs.Yteojddfaiomfmaa

/- Part of a proof by program: W3. -/
import Derived.Test.YteojddfaiomfmaaD1
import Derived.Test.YteojddfaiomfmaaW2
namespace Go.Proofs.Yteojddfaiomfmaa
open Go Go.E Go.L Go.RowKit
set_option linter.unusedVariables false
set_option linter.unusedSimpArgs false
set_option maxRecDepth 100000

theorem s_l6Cells_c {m : Model} {cells : List Int} {v0_0 : Value} {v0_1 : Value} {v1 : Value} {w : World} {B : Nat} (hB : B ≤ w.heap.size) (h0_0 : (RP.slice 3 RP.int).rel B w.heap.size w [v0_0] m.sizes) (h0_1 : (RP.slice 68 (rRule 3 22)).rel B w.heap.size w [v0_1] m.rules) (h1 : (RP.slice 3 RP.int).rel B w.heap.size w [v1] cells) {r : Bool} (hF : s_l6Cells m cells = some r) :
    C Try.prog 72 #[.agg #[v0_0, v0_1], v1] w fun v w' => (v = .bool r) ∧ Ext w w' := by
  unfold s_l6Cells at hF
  have hx := ext_refl w
  refine C_enter Try.func72 rfl Try.ntmps72 rfl ?_
  refine W_seq ?_
  refine W_region ?_
  refine L_box (v := .agg #[v0_0, v0_1]) (cs := #[v0_0, v0_1]) rfl rfl rfl ?_
  intro g3 w4 hn4
  have hge_g3 := hn4.ge hx
  have hb_g3 := hn4.blk
  have h0_0 := RP.ext h0_0 hn4.ext
  have h0_1 := RP.ext h0_1 hn4.ext
  have h1 := RP.ext h1 hn4.ext
  have hx := ext_trans hx hn4.ext
  refine L_as (v := .bool false) rfl rfl ?_
  refine L_nil ?_
  refine W_seq ?_
  refine W_seq ?_
  refine W_region ?_
  refine L_mv (v := v1) rfl rfl ?_
  refine L_len (v := v1) rfl Try.underlying22 rfl h1 ?_
  refine L_fa (o' := 0) rfl fa_30_0 rfl rfl ?_
  refine L_ld (v := v0_0) rfl Try.isAgg22 rfl (hb_g3.cell (j := 0) rfl) ?_
  refine L_len (v := v0_0) rfl Try.underlying22 rfl h0_0 ?_
  refine L_neq (m := (cells.length : Int)) (n := (m.sizes.length : Int)) rfl rfl rfl ?_
  refine L_nil ?_
  refine W_cond (b := ((cells.length : Int) != (m.sizes.length : Int))) rfl (fun hc5 => ?_) (fun hc5 => ?_)
  ·
    have hF := (ite_t hc5).symm.trans hF
    refine W_seq ?_
    refine W_region ?_
    refine L_as (v := .bool false) rfl rfl ?_
    refine L_nil ?_
    refine W_ret ?_
    obtain rfl := so hF
    refine ret1 Try.results72 ?_
    exact ⟨rfl, hx⟩
  ·
    have hF := (ite_f hc5).symm.trans hF
    refine W_skip ?_
    refine W_seq ?_
    refine W_seq ?_
    refine W_region ?_
    refine L_as (v := .int .i64 0) rfl rfl ?_
    refine L_nil ?_
    have hlen7 := len_le h1
    obtain ⟨j7, hL7, hF⟩ := bind_some hF
    obtain ⟨R7, hR7⟩ : ∃ R : Fr → World → Prop, R = fun f w_ => j7 = .nx () ∧ Ext w w_ := ⟨_, rfl⟩
    refine W_join R7 ?_ ?_
    ·
      refine W_block ?_
      obtain ⟨I7, hI7⟩ : ∃ I : Nat → Fr → World → Prop, I = fun n f w_ => ∃ i_6 : Nat, ∃ suf7 : List Int, n = suf7.length ∧ List.drop i_6 cells = suf7 ∧ i_6 + suf7.length = cells.length ∧ rangeL (s_l6Cells_b1 m) suf7 i_6 () = some j7 ∧ f 1 = v1 ∧ f 2 = .pointer (some ⟨g3, 0, none⟩) ∧ f 5 = .int .i64 (i_6 : Int) ∧ (RP.slice 3 RP.int).rel B w.heap.size w_ [v1] cells ∧ (RP.slice 3 RP.int).rel B w.heap.size w_ [v0_0] m.sizes ∧ (RP.slice 68 (rRule 3 22)).rel B w.heap.size w_ [v0_1] m.rules ∧ Blk w_ g3 30 #[v0_0, v0_1] ∧ Ext w w_ := ⟨_, rfl⟩
      refine W_loop I7 (n := cells.length) ?_ ?_
      · rw [hI7]; exact ⟨0, cells, rfl, rfl, Nat.zero_add _, hL7, rfl, rfl, rfl, h1, h0_0, h0_1, hb_g3, hx⟩
      ·
        intro n7 f w_ hI
        rw [hI7] at hI
        obtain ⟨i_6, suf7, rfl, hd7, hl7, hL7, sf1, sf2, sf5, h1, h0_0, h0_1, hb_g3, hx⟩ := hI
        refine W_seq ?_
        refine W_seq ?_
        refine W_region ?_
        refine L_mv (v := .int .i64 (i_6 : Int)) rfl sf5 ?_
        refine L_mv (v := v1) rfl sf1 ?_
        refine L_len (v := v1) rfl Try.underlying22 rfl h1 ?_
        refine L_lss (m := (i_6 : Int)) (n := (cells.length : Int)) rfl rfl rfl ?_
        refine L_nil ?_
        refine W_cond (b := decide ((i_6 : Int) < (cells.length : Int))) rfl (fun hc8 => ?_) (fun hc8 => ?_)
        ·
          have hlt7 := of_decide_eq_true hc8
          cases suf7 with
          | nil => exact absurd hlt7 (by simp at hl7; omega)
          | cons x_7 rest7 =>
            obtain ⟨o7, hB7, hL7⟩ := range_cons hL7
            rw [s_l6Cells_b1] at hB7
            have hix7 := drop_idx hd7
            refine W_skip ?_
            refine W_seq ?_
            refine W_block ?_
            refine W_seq ?_
            obtain ⟨b16, hb16, hB7⟩ := bind_some hB7
            obtain ⟨R17, hR17⟩ : ∃ R : Fr → World → Prop, R = fun f w_ => f 1 = v1 ∧ f 2 = .pointer (some ⟨g3, 0, none⟩) ∧ f 5 = .int .i64 (i_6 : Int) ∧ f 34 = .bool b16 ∧ (RP.slice 3 RP.int).rel B w.heap.size w_ [v1] cells ∧ (RP.slice 3 RP.int).rel B w.heap.size w_ [v0_0] m.sizes ∧ (RP.slice 68 (rRule 3 22)).rel B w.heap.size w_ [v0_1] m.rules ∧ Blk w_ g3 30 #[v0_0, v0_1] ∧ Ext w w_ := ⟨_, rfl⟩
            refine W_join R17 ?_ ?_
            ·
              rcases Bool.eq_false_or_eq_true (decide (x_7 < 0)) with hc18 | hc18
              ·
                rw [ite_t hc18] at hb16
                refine W_drawL 15 [isV (v1), isV (.int .i64 (i_6 : Int)), isEl B RP.int x_7 0, isV (.int .i64 x_7), isV (.bool (decide (x_7 < 0))), isV (.bool (decide (x_7 < 0))), isV (undef), isV (undef), isV (undef), isV (undef), isV (undef), isV (undef), isV (undef), isV (undef), isV (undef)] Try_mix (by kernel_rfl) (am_cons (mono_V _) (am_cons (mono_V _) (am_cons (mono_el _ _ _ _) (am_cons (mono_V _) (am_cons (mono_V _) (am_cons (mono_V _) (am_cons (mono_V _) (am_cons (mono_V _) (am_cons (mono_V _) (am_cons (mono_V _) (am_cons (mono_V _) (am_cons (mono_V _) (am_cons (mono_V _) (am_cons (mono_V _) (am_cons (mono_V _) am_nil))))))))))))))) ?_ (fun f w_ hS hE hT => ?_)
                ·
                  refine ops_cons (fun f w_ hS hE hP => ?_) ?_
                  ·
                    have hx := ext_trans hx hE
                    have h1 := RP.ext h1 hE
                    refine L_mv (v := v1) rfl ((hS 1 rfl).trans sf1) ?_
                    exact L_nil ⟨rfl, (ext_refl _), _, _, rfl, rfl, rfl⟩
                  refine ops_cons (fun f w_ hS hE hP => ?_) ?_
                  ·
                    have hx := ext_trans hx hE
                    refine L_mv (v := .int .i64 (i_6 : Int)) rfl ((hS 5 rfl).trans sf5) ?_
                    exact L_nil ⟨rfl, (ext_refl _), _, _, rfl, rfl, rfl⟩
                  refine ops_cons (fun f w_ hS hE hP => ?_) ?_
                  ·
                    have hx := ext_trans hx hE
                    have h1 := RP.ext h1 hE
                    refine L_ix (r := RP.int) rfl Try.underlying22 Try.sizeOf3 (hP 0 18 rfl rfl) h1 (hP 1 19 rfl rfl) hix7 ?_
                    intro g21 o22 cs22 hr22 hat22
                    obtain rfl : _ = [_] := hr22
                    exact L_nil ⟨rfl, (ext_refl _), _, _, rfl, rfl, ⟨_, _, _, rfl, rfl, hat22⟩⟩
                  refine ops_cons (fun f w_ hS hE hP => ?_) ?_
                  ·
                    have hx := ext_trans hx hE
                    obtain ⟨g23, o23, cs23, hv23, hr23, hat23⟩ := (hP 2 20 rfl rfl)
                    obtain rfl : _ = [_] := hr23
                    refine L_ld (v := .int .i64 x_7) rfl Try.isAgg3 hv23 (hat23.cell (j := 0) rfl) ?_
                    exact L_nil ⟨rfl, (ext_refl _), _, _, rfl, rfl, rfl⟩
                  refine ops_cons (fun f w_ hS hE hP => ?_) ?_
                  ·
                    have hx := ext_trans hx hE
                    refine L_lss (m := x_7) (n := 0) rfl (hP 3 21 rfl rfl) rfl ?_
                    exact L_nil ⟨rfl, (ext_refl _), _, _, rfl, rfl, rfl⟩
                  refine ops_cons (fun f w_ hS hE hP => ?_) ?_
                  ·
                    have hx := ext_trans hx hE
                    refine L_mv (v := .bool (decide (x_7 < 0))) rfl (hP 4 22 rfl rfl) ?_
                    exact L_nil ⟨rfl, (ext_refl _), _, _, rfl, rfl, rfl⟩
                  refine ops_cons (fun f w_ hS hE hP => ?_) ?_
                  ·
                    have hx := ext_trans hx hE
                    have h1 := RP.ext h1 hE
                    refine L_pass (g_no rfl (Eq.trans (hP 5 23 rfl rfl) (congrArg Value.bool hc18)) rfl rfl) ?_
                    exact L_nil ⟨rfl, (ext_refl _), _, _, rfl, rfl, rfl⟩
                  refine ops_cons (fun f w_ hS hE hP => ?_) ?_
                  ·
                    have hx := ext_trans hx hE
                    refine L_pass (g_no rfl (Eq.trans (hP 5 23 rfl rfl) (congrArg Value.bool hc18)) rfl rfl) ?_
                    exact L_nil ⟨rfl, (ext_refl _), _, _, rfl, rfl, rfl⟩
                  refine ops_cons (fun f w_ hS hE hP => ?_) ?_
                  ·
                    have hx := ext_trans hx hE
                    refine L_pass (g_no rfl (Eq.trans (hP 5 23 rfl rfl) (congrArg Value.bool hc18)) rfl rfl) ?_
                    exact L_nil ⟨rfl, (ext_refl _), _, _, rfl, rfl, rfl⟩
                  refine ops_cons (fun f w_ hS hE hP => ?_) ?_
                  ·
                    have hx := ext_trans hx hE
                    refine L_pass (g_no rfl (Eq.trans (hP 5 23 rfl rfl) (congrArg Value.bool hc18)) rfl rfl) ?_
                    exact L_nil ⟨rfl, (ext_refl _), _, _, rfl, rfl, rfl⟩
                  refine ops_cons (fun f w_ hS hE hP => ?_) ?_
                  ·
                    have hx := ext_trans hx hE
                    have h0_0 := RP.ext h0_0 hE
                    have h0_1 := RP.ext h0_1 hE
                    have hb_g3 := Blk.ext hb_g3 hE
                    refine L_pass (g_no rfl (Eq.trans (hP 5 23 rfl rfl) (congrArg Value.bool hc18)) rfl rfl) ?_
                    exact L_nil ⟨rfl, (ext_refl _), _, _, rfl, rfl, rfl⟩
                  refine ops_cons (fun f w_ hS hE hP => ?_) ?_
                  ·
                    have hx := ext_trans hx hE
                    refine L_pass (g_no rfl (Eq.trans (hP 5 23 rfl rfl) (congrArg Value.bool hc18)) rfl rfl) ?_
                    exact L_nil ⟨rfl, (ext_refl _), _, _, rfl, rfl, rfl⟩
                  refine ops_cons (fun f w_ hS hE hP => ?_) ?_
                  ·
                    have hx := ext_trans hx hE
                    refine L_pass (g_no rfl (Eq.trans (hP 5 23 rfl rfl) (congrArg Value.bool hc18)) rfl rfl) ?_
                    exact L_nil ⟨rfl, (ext_refl _), _, _, rfl, rfl, rfl⟩
                  refine ops_cons (fun f w_ hS hE hP => ?_) ?_
                  ·
                    have hx := ext_trans hx hE
                    refine L_pass (g_no rfl (Eq.trans (hP 5 23 rfl rfl) (congrArg Value.bool hc18)) rfl rfl) ?_
                    exact L_nil ⟨rfl, (ext_refl _), _, _, rfl, rfl, rfl⟩
                  refine ops_cons (fun f w_ hS hE hP => ?_) ?_
                  ·
                    have hx := ext_trans hx hE
                    refine L_pass (g_no rfl (Eq.trans (hP 5 23 rfl rfl) (congrArg Value.bool hc18)) rfl rfl) ?_
                    exact L_nil ⟨rfl, (ext_refl _), _, _, rfl, rfl, rfl⟩
                  exact ops_nil
                ·
                  have h1 := RP.ext h1 hE
                  have h0_0 := RP.ext h0_0 hE
                  have h0_1 := RP.ext h0_1 hE
                  have hb_g3 := Blk.ext hb_g3 hE
                  have hx := ext_trans hx hE
                  refine L_pass (g_no rfl (Eq.trans (hT 5 23 rfl rfl) (congrArg Value.bool hc18)) rfl rfl) ?_
                  refine L_pick (v := .bool b16) rfl (Eq.trans (hT 5 23 rfl rfl) (congrArg Value.bool hc18)) (congrArg Value.bool (so hb16)) ?_
                  refine L_nil ?_
                  show R17 _ _
                  rw [hR17]
                  exact ⟨((hS 1 rfl).trans sf1), ((hS 2 rfl).trans sf2), ((hS 5 rfl).trans sf5), rfl, h1, h0_0, h0_1, hb_g3, hx⟩
              ·
                rw [ite_f hc18] at hb16
                obtain ⟨x13, hx13, hb16⟩ := bind_some hb16
                refine W_drawL 15 [isV (v1), isV (.int .i64 (i_6 : Int)), isEl B RP.int x_7 0, isV (.int .i64 x_7), isV (.bool (decide (x_7 < 0))), isV (.bool (decide (x_7 < 0))), isV (v1), isV (.int .i64 (i_6 : Int)), isEl B RP.int x_7 0, isV (.int .i64 x_7), isV (.pointer (some ⟨g3, 0, none⟩)), isV (v0_0), isV (.int .i64 (i_6 : Int)), isEl B RP.int x13 0, isV (.int .i64 x13)] Try_mix (by kernel_rfl) (am_cons (mono_V _) (am_cons (mono_V _) (am_cons (mono_el _ _ _ _) (am_cons (mono_V _) (am_cons (mono_V _) (am_cons (mono_V _) (am_cons (mono_V _) (am_cons (mono_V _) (am_cons (mono_el _ _ _ _) (am_cons (mono_V _) (am_cons (mono_V _) (am_cons (mono_V _) (am_cons (mono_V _) (am_cons (mono_el _ _ _ _) (am_cons (mono_V _) am_nil))))))))))))))) ?_ (fun f w_ hS hE hT => ?_)
                ·
                  refine ops_cons (fun f w_ hS hE hP => ?_) ?_
                  ·
                    have hx := ext_trans hx hE
                    have h1 := RP.ext h1 hE
                    refine L_mv (v := v1) rfl ((hS 1 rfl).trans sf1) ?_
                    exact L_nil ⟨rfl, (ext_refl _), _, _, rfl, rfl, rfl⟩
                  refine ops_cons (fun f w_ hS hE hP => ?_) ?_
                  ·
                    have hx := ext_trans hx hE
                    refine L_mv (v := .int .i64 (i_6 : Int)) rfl ((hS 5 rfl).trans sf5) ?_
                    exact L_nil ⟨rfl, (ext_refl _), _, _, rfl, rfl, rfl⟩
                  refine ops_cons (fun f w_ hS hE hP => ?_) ?_
                  ·
                    have hx := ext_trans hx hE
                    have h1 := RP.ext h1 hE
                    refine L_ix (r := RP.int) rfl Try.underlying22 Try.sizeOf3 (hP 0 18 rfl rfl) h1 (hP 1 19 rfl rfl) hix7 ?_
                    intro g30 o31 cs31 hr31 hat31
                    obtain rfl : _ = [_] := hr31
                    exact L_nil ⟨rfl, (ext_refl _), _, _, rfl, rfl, ⟨_, _, _, rfl, rfl, hat31⟩⟩
                  refine ops_cons (fun f w_ hS hE hP => ?_) ?_
                  ·
                    have hx := ext_trans hx hE
                    obtain ⟨g32, o32, cs32, hv32, hr32, hat32⟩ := (hP 2 20 rfl rfl)
                    obtain rfl : _ = [_] := hr32
                    refine L_ld (v := .int .i64 x_7) rfl Try.isAgg3 hv32 (hat32.cell (j := 0) rfl) ?_
                    exact L_nil ⟨rfl, (ext_refl _), _, _, rfl, rfl, rfl⟩
                  refine ops_cons (fun f w_ hS hE hP => ?_) ?_
                  ·
                    have hx := ext_trans hx hE
                    refine L_lss (m := x_7) (n := 0) rfl (hP 3 21 rfl rfl) rfl ?_
                    exact L_nil ⟨rfl, (ext_refl _), _, _, rfl, rfl, rfl⟩
                  refine ops_cons (fun f w_ hS hE hP => ?_) ?_
                  ·
                    have hx := ext_trans hx hE
                    refine L_mv (v := .bool (decide (x_7 < 0))) rfl (hP 4 22 rfl rfl) ?_
                    exact L_nil ⟨rfl, (ext_refl _), _, _, rfl, rfl, rfl⟩
                  refine ops_cons (fun f w_ hS hE hP => ?_) ?_
                  ·
                    have hx := ext_trans hx hE
                    have h1 := RP.ext h1 hE
                    refine L_mv (v := v1) (g_yes rfl (Eq.trans (hP 5 23 rfl rfl) (congrArg Value.bool hc18)) rfl) ((hS 1 rfl).trans sf1) ?_
                    exact L_nil ⟨rfl, (ext_refl _), _, _, rfl, rfl, rfl⟩
                  refine ops_cons (fun f w_ hS hE hP => ?_) ?_
                  ·
                    have hx := ext_trans hx hE
                    refine L_mv (v := .int .i64 (i_6 : Int)) (g_yes rfl (Eq.trans (hP 5 23 rfl rfl) (congrArg Value.bool hc18)) rfl) ((hS 5 rfl).trans sf5) ?_
                    exact L_nil ⟨rfl, (ext_refl _), _, _, rfl, rfl, rfl⟩
                  refine ops_cons (fun f w_ hS hE hP => ?_) ?_
                  ·
                    have hx := ext_trans hx hE
                    have h1 := RP.ext h1 hE
                    refine L_ix (r := RP.int) (g_yes rfl (Eq.trans (hP 5 23 rfl rfl) (congrArg Value.bool hc18)) rfl) Try.underlying22 Try.sizeOf3 (hP 6 24 rfl rfl) h1 (hP 7 25 rfl rfl) hix7 ?_
                    intro g33 o34 cs34 hr34 hat34
                    obtain rfl : _ = [_] := hr34
                    exact L_nil ⟨rfl, (ext_refl _), _, _, rfl, rfl, ⟨_, _, _, rfl, rfl, hat34⟩⟩
                  refine ops_cons (fun f w_ hS hE hP => ?_) ?_
                  ·
                    have hx := ext_trans hx hE
                    obtain ⟨g35, o35, cs35, hv35, hr35, hat35⟩ := (hP 8 26 rfl rfl)
                    obtain rfl : _ = [_] := hr35
                    refine L_ld (v := .int .i64 x_7) (g_yes rfl (Eq.trans (hP 5 23 rfl rfl) (congrArg Value.bool hc18)) rfl) Try.isAgg3 hv35 (hat35.cell (j := 0) rfl) ?_
                    exact L_nil ⟨rfl, (ext_refl _), _, _, rfl, rfl, rfl⟩
                  refine ops_cons (fun f w_ hS hE hP => ?_) ?_
                  ·
                    have hx := ext_trans hx hE
                    have h0_0 := RP.ext h0_0 hE
                    have h0_1 := RP.ext h0_1 hE
                    have hb_g3 := Blk.ext hb_g3 hE
                    refine L_fa (o' := 0) (g_yes rfl (Eq.trans (hP 5 23 rfl rfl) (congrArg Value.bool hc18)) rfl) fa_30_0 ((hS 2 rfl).trans sf2) rfl ?_
                    exact L_nil ⟨rfl, (ext_refl _), _, _, rfl, rfl, rfl⟩
                  refine ops_cons (fun f w_ hS hE hP => ?_) ?_
                  ·
                    have hx := ext_trans hx hE
                    have h0_0 := RP.ext h0_0 hE
                    have h0_1 := RP.ext h0_1 hE
                    have hb_g3 := Blk.ext hb_g3 hE
                    refine L_ld (v := v0_0) (g_yes rfl (Eq.trans (hP 5 23 rfl rfl) (congrArg Value.bool hc18)) rfl) Try.isAgg22 (hP 10 28 rfl rfl) (hb_g3.cell (j := 0) rfl) ?_
                    exact L_nil ⟨rfl, (ext_refl _), _, _, rfl, rfl, rfl⟩
                  refine ops_cons (fun f w_ hS hE hP => ?_) ?_
                  ·
                    have hx := ext_trans hx hE
                    refine L_mv (v := .int .i64 (i_6 : Int)) (g_yes rfl (Eq.trans (hP 5 23 rfl rfl) (congrArg Value.bool hc18)) rfl) ((hS 5 rfl).trans sf5) ?_
                    exact L_nil ⟨rfl, (ext_refl _), _, _, rfl, rfl, rfl⟩
                  refine ops_cons (fun f w_ hS hE hP => ?_) ?_
                  ·
                    have hx := ext_trans hx hE
                    have h0_0 := RP.ext h0_0 hE
                    refine L_ix (r := RP.int) (g_yes rfl (Eq.trans (hP 5 23 rfl rfl) (congrArg Value.bool hc18)) rfl) Try.underlying22 Try.sizeOf3 (hP 11 29 rfl rfl) h0_0 (hP 12 30 rfl rfl) hx13 ?_
                    intro g36 o37 cs37 hr37 hat37
                    obtain rfl : _ = [_] := hr37
                    exact L_nil ⟨rfl, (ext_refl _), _, _, rfl, rfl, ⟨_, _, _, rfl, rfl, hat37⟩⟩
                  refine ops_cons (fun f w_ hS hE hP => ?_) ?_
                  ·
                    have hx := ext_trans hx hE
                    obtain ⟨g38, o38, cs38, hv38, hr38, hat38⟩ := (hP 13 31 rfl rfl)
                    obtain rfl : _ = [_] := hr38
                    refine L_ld (v := .int .i64 x13) (g_yes rfl (Eq.trans (hP 5 23 rfl rfl) (congrArg Value.bool hc18)) rfl) Try.isAgg3 hv38 (hat38.cell (j := 0) rfl) ?_
                    exact L_nil ⟨rfl, (ext_refl _), _, _, rfl, rfl, rfl⟩
                  exact ops_nil
                ·
                  have h1 := RP.ext h1 hE
                  have h0_0 := RP.ext h0_0 hE
                  have h0_1 := RP.ext h0_1 hE
                  have hb_g3 := Blk.ext hb_g3 hE
                  have hx := ext_trans hx hE
                  refine L_gtr (m := x_7) (n := x13) (g_yes rfl (Eq.trans (hT 5 23 rfl rfl) (congrArg Value.bool hc18)) rfl) (hT 9 27 rfl rfl) (hT 14 32 rfl rfl) ?_
                  refine L_pick (v := .bool b16) rfl (Eq.trans (hT 5 23 rfl rfl) (congrArg Value.bool hc18)) (congrArg Value.bool (so hb16)) ?_
                  refine L_nil ?_
                  show R17 _ _
                  rw [hR17]
                  exact ⟨((hS 1 rfl).trans sf1), ((hS 2 rfl).trans sf2), ((hS 5 rfl).trans sf5), rfl, h1, h0_0, h0_1, hb_g3, hx⟩
            ·
              intro f w_ hR
              rw [hR17] at hR
              obtain ⟨sf1, sf2, sf5, sf34, h1, h0_0, h0_1, hb_g3, hx⟩ := hR
              clear hR17
              refine W_cond (b := b16) sf34 (fun hc39 => ?_) (fun hc39 => ?_)
              ·
                have hB7 := (ite_t hc39).symm.trans hB7
                refine W_seq ?_
                refine W_region ?_
                refine L_as (v := .bool false) rfl rfl ?_
                refine L_nil ?_
                refine W_ret ?_
                obtain rfl := so hB7
                obtain rfl := so hL7
                obtain rfl := so hF
                refine ret1 Try.results72 ?_
                exact ⟨rfl, hx⟩
              ·
                have hB7 := (ite_f hc39).symm.trans hB7
                refine W_skip ?_
                refine W_region ?_
                refine L_mv (v := .int .i64 (i_6 : Int)) rfl sf5 ?_
                refine L_add (m := (i_6 : Int)) (n := 1) rfl rfl rfl ?_
                refine L_as (v := .int .i64 (i64 ((i_6 : Int) + 1))) rfl rfl ?_
                refine L_nil ?_
                obtain rfl := so hB7
                show ∃ m, m < _ ∧ I7 m _ _
                refine ⟨rest7.length, by simp, ?_⟩
                rw [hI7]
                exact ⟨i_6 + 1, rest7, rfl, drop_next hd7, by simp at hl7; omega, hL7, sf1, sf2, (Eq.trans rfl (congrArg (Value.int .i64) (i64_succ (n := cells.length) (by simp at hl7; omega) hlen7))), h1, h0_0, h0_1, hb_g3, hx⟩
        ·
          cases suf7 with
          | cons _ _ => exact absurd (of_decide_eq_false hc8) (by simp at hl7; omega)
          | nil =>
            obtain rfl := range_nil hL7
            refine W_exit ?_
            show R7 _ _
            rw [hR7]
            exact ⟨rfl, hx⟩
    ·
      intro f w_ hR
      rw [hR7] at hR
      obtain ⟨rfl, hx⟩ := hR
      clear hR7
      refine W_seq ?_
      refine W_region ?_
      refine L_as (v := .bool true) rfl rfl ?_
      refine L_nil ?_
      refine W_ret ?_
      obtain rfl := so hF
      refine ret1 Try.results72 ?_
      exact ⟨rfl, hx⟩

theorem s_CellsValid_c {fu : Nat} {m : Model} {cells : List Int} {v0_0 : Value} {v0_1 : Value} {v1 : Value} {w : World} {B : Nat} (hB : B ≤ w.heap.size) (h0_0 : (RP.slice 3 RP.int).rel B w.heap.size w [v0_0] m.sizes) (h0_1 : (RP.slice 68 (rRule 3 22)).rel B w.heap.size w [v0_1] m.rules) (h1 : (RP.slice 3 RP.int).rel B w.heap.size w [v1] cells) {r : Bool} (hF : s_CellsValid fu m cells = some r) :
    C Try.prog 53 #[.agg #[v0_0, v0_1], v1] w fun v w' => (v = .bool r) ∧ Ext w w' := by
  unfold s_CellsValid at hF
  have hx := ext_refl w
  refine C_enter Try.func53 rfl Try.ntmps53 rfl ?_
  refine W_seq ?_
  refine W_region ?_
  refine L_box (v := .agg #[v0_0, v0_1]) (cs := #[v0_0, v0_1]) rfl rfl rfl ?_
  intro g3 w4 hn4
  have hge_g3 := hn4.ge hx
  have hb_g3 := hn4.blk
  have h0_0 := RP.ext h0_0 hn4.ext
  have h0_1 := RP.ext h0_1 hn4.ext
  have h1 := RP.ext h1 hn4.ext
  have hx := ext_trans hx hn4.ext
  refine L_as (v := .bool false) rfl rfl ?_
  refine L_nil ?_
  refine W_seq ?_
  obtain ⟨x5, hx5, hF⟩ := bind_some hF
  obtain ⟨b9, hb9, hF⟩ := bind_some hF
  obtain ⟨R10, hR10⟩ : ∃ R : Fr → World → Prop, R = fun f w_ => f 4 = .bool b9 ∧ Ext w w_ := ⟨_, rfl⟩
  refine W_join R10 ?_ ?_
  ·
    refine W_region ?_
    refine L_lda (cs := [v0_0, v0_1]) rfl Try.isAgg30 Try.sizeOf30 rfl (Blk.sub hb_g3 0 2) rfl ?_
    refine L_call (args := #[.agg #[v0_0, v0_1]]) rfl Try.call44 (ops1 rfl) (s_ModelValid_c (m := m) (Nat.le_trans hB hx.size) (rel0 h0_0) (rel0 h0_1) hx5) ?_
    rintro _ w11 ⟨rfl, he11⟩
    have h0_0 := RP.ext h0_0 he11
    have h0_1 := RP.ext h0_1 he11
    have h1 := RP.ext h1 he11
    have hb_g3 := Blk.ext hb_g3 he11
    have hx := ext_trans hx he11
    refine L_mv (v := .bool x5) rfl rfl ?_
    refine L_split (d := 7) (b := x5) rfl (fun hc12 => ?_) (fun hc12 => ?_)
    ·
      rw [ite_t hc12] at hb9
      obtain ⟨x7, hx7, hb9⟩ := bind_some hb9
      refine L_lda (cs := [v0_0, v0_1]) rfl Try.isAgg30 Try.sizeOf30 rfl (Blk.sub hb_g3 0 2) rfl ?_
      refine L_mv (v := v1) rfl rfl ?_
      refine L_call (args := #[.agg #[v0_0, v0_1], v1]) rfl Try.call72 (ops2 rfl rfl) (s_l6Cells_c (m := m) (cells := cells) (Nat.le_trans hB hx.size) (rel0 h0_0) (rel0 h0_1) (rel0 h1) hx7) ?_
      rintro _ w13 ⟨rfl, he13⟩
      have h0_0 := RP.ext h0_0 he13
      have h0_1 := RP.ext h0_1 he13
      have h1 := RP.ext h1 he13
      have hx := ext_trans hx he13
      refine L_pick (v := .bool b9) rfl rfl (congrArg Value.bool (so hb9)) ?_
      refine L_as (v := .bool b9) rfl rfl ?_
      refine L_nil ?_
      show R10 _ _
      rw [hR10]
      exact ⟨rfl, hx⟩
    ·
      rw [ite_f hc12] at hb9
      refine L_pass rfl ?_
      refine L_pass rfl ?_
      refine L_pass rfl ?_
      refine L_pick (v := .bool b9) rfl rfl (congrArg Value.bool (so hb9)) ?_
      refine L_as (v := .bool b9) rfl rfl ?_
      refine L_nil ?_
      show R10 _ _
      rw [hR10]
      exact ⟨rfl, hx⟩
  ·
    intro f w_ hR
    rw [hR10] at hR
    obtain ⟨sf4, hx⟩ := hR
    clear hR10
    refine W_ret ?_
    obtain rfl := so hF
    refine ret1 Try.results53 ?_
    exact ⟨sf4, hx⟩

theorem s_l6Ints_c {a : List Int} {b : List Int} {v0 : Value} {v1 : Value} {w : World} {B : Nat} (hB : B ≤ w.heap.size) (h0 : (RP.slice 3 RP.int).rel B w.heap.size w [v0] a) (h1 : (RP.slice 3 RP.int).rel B w.heap.size w [v1] b) {r : Bool} (hF : s_l6Ints a b = some r) :
    C Try.prog 73 #[v0, v1] w fun v w' => (v = .bool r) ∧ Ext w w' := by
  unfold s_l6Ints at hF
  have hx := ext_refl w
  refine C_enter Try.func73 rfl Try.ntmps73 rfl ?_
  refine W_seq ?_
  refine W_region ?_
  refine L_as (v := .bool false) rfl rfl ?_
  refine L_nil ?_
  refine W_seq ?_
  refine W_seq ?_
  refine W_region ?_
  refine L_mv (v := v0) rfl rfl ?_
  refine L_len (v := v0) rfl Try.underlying22 rfl h0 ?_
  refine L_mv (v := v1) rfl rfl ?_
  refine L_len (v := v1) rfl Try.underlying22 rfl h1 ?_
  refine L_neq (m := (a.length : Int)) (n := (b.length : Int)) rfl rfl rfl ?_
  refine L_nil ?_
  refine W_cond (b := ((a.length : Int) != (b.length : Int))) rfl (fun hc1 => ?_) (fun hc1 => ?_)
  ·
    have hF := (ite_t hc1).symm.trans hF
    refine W_seq ?_
    refine W_region ?_
    refine L_as (v := .bool false) rfl rfl ?_
    refine L_nil ?_
    refine W_ret ?_
    obtain rfl := so hF
    refine ret1 Try.results73 ?_
    exact ⟨rfl, hx⟩
  ·
    have hF := (ite_f hc1).symm.trans hF
    refine W_skip ?_
    refine W_seq ?_
    refine W_seq ?_
    refine W_region ?_
    refine L_as (v := .int .i64 0) rfl rfl ?_
    refine L_nil ?_
    have hlen3 := len_le h0
    obtain ⟨j3, hL3, hF⟩ := bind_some hF
    obtain ⟨R3, hR3⟩ : ∃ R : Fr → World → Prop, R = fun f w_ => j3 = .nx () ∧ Ext w w_ := ⟨_, rfl⟩
    refine W_join R3 ?_ ?_
    ·
      refine W_block ?_
      obtain ⟨I3, hI3⟩ : ∃ I : Nat → Fr → World → Prop, I = fun n f w_ => ∃ i_2 : Nat, ∃ suf3 : List Int, n = suf3.length ∧ List.drop i_2 a = suf3 ∧ i_2 + suf3.length = a.length ∧ rangeL (s_l6Ints_b1 b) suf3 i_2 () = some j3 ∧ f 0 = v0 ∧ f 1 = v1 ∧ f 5 = .int .i64 (i_2 : Int) ∧ (RP.slice 3 RP.int).rel B w.heap.size w_ [v0] a ∧ (RP.slice 3 RP.int).rel B w.heap.size w_ [v1] b ∧ Ext w w_ := ⟨_, rfl⟩
      refine W_loop I3 (n := a.length) ?_ ?_
      · rw [hI3]; exact ⟨0, a, rfl, rfl, Nat.zero_add _, hL3, rfl, rfl, rfl, h0, h1, hx⟩
      ·
        intro n3 f w_ hI
        rw [hI3] at hI
        obtain ⟨i_2, suf3, rfl, hd3, hl3, hL3, sf0, sf1, sf5, h0, h1, hx⟩ := hI
        refine W_seq ?_
        refine W_seq ?_
        refine W_region ?_
        refine L_mv (v := .int .i64 (i_2 : Int)) rfl sf5 ?_
        refine L_mv (v := v0) rfl sf0 ?_
        refine L_len (v := v0) rfl Try.underlying22 rfl h0 ?_
        refine L_lss (m := (i_2 : Int)) (n := (a.length : Int)) rfl rfl rfl ?_
        refine L_nil ?_
        refine W_cond (b := decide ((i_2 : Int) < (a.length : Int))) rfl (fun hc4 => ?_) (fun hc4 => ?_)
        ·
          have hlt3 := of_decide_eq_true hc4
          cases suf3 with
          | nil => exact absurd hlt3 (by simp at hl3; omega)
          | cons x_3 rest3 =>
            obtain ⟨o3, hB3, hL3⟩ := range_cons hL3
            rw [s_l6Ints_b1] at hB3
            have hix3 := drop_idx hd3
            refine W_skip ?_
            refine W_seq ?_
            refine W_block ?_
            refine W_seq ?_
            obtain ⟨x7, hx7, hB3⟩ := bind_some hB3
            refine W_drawL 8 [isV (v0), isV (.int .i64 (i_2 : Int)), isEl B RP.int x_3 0, isV (.int .i64 x_3), isV (v1), isV (.int .i64 (i_2 : Int)), isEl B RP.int x7 0, isV (.int .i64 x7)] Try_mix (by kernel_rfl) (am_cons (mono_V _) (am_cons (mono_V _) (am_cons (mono_el _ _ _ _) (am_cons (mono_V _) (am_cons (mono_V _) (am_cons (mono_V _) (am_cons (mono_el _ _ _ _) (am_cons (mono_V _) am_nil)))))))) ?_ (fun f w_ hS hE hT => ?_)
            ·
              refine ops_cons (fun f w_ hS hE hP => ?_) ?_
              ·
                have hx := ext_trans hx hE
                have h0 := RP.ext h0 hE
                refine L_mv (v := v0) rfl ((hS 0 rfl).trans sf0) ?_
                exact L_nil ⟨rfl, (ext_refl _), _, _, rfl, rfl, rfl⟩
              refine ops_cons (fun f w_ hS hE hP => ?_) ?_
              ·
                have hx := ext_trans hx hE
                refine L_mv (v := .int .i64 (i_2 : Int)) rfl ((hS 5 rfl).trans sf5) ?_
                exact L_nil ⟨rfl, (ext_refl _), _, _, rfl, rfl, rfl⟩
              refine ops_cons (fun f w_ hS hE hP => ?_) ?_
              ·
                have hx := ext_trans hx hE
                have h0 := RP.ext h0 hE
                refine L_ix (r := RP.int) rfl Try.underlying22 Try.sizeOf3 (hP 0 17 rfl rfl) h0 (hP 1 18 rfl rfl) hix3 ?_
                intro g14 o15 cs15 hr15 hat15
                obtain rfl : _ = [_] := hr15
                exact L_nil ⟨rfl, (ext_refl _), _, _, rfl, rfl, ⟨_, _, _, rfl, rfl, hat15⟩⟩
              refine ops_cons (fun f w_ hS hE hP => ?_) ?_
              ·
                have hx := ext_trans hx hE
                obtain ⟨g16, o16, cs16, hv16, hr16, hat16⟩ := (hP 2 19 rfl rfl)
                obtain rfl : _ = [_] := hr16
                refine L_ld (v := .int .i64 x_3) rfl Try.isAgg3 hv16 (hat16.cell (j := 0) rfl) ?_
                exact L_nil ⟨rfl, (ext_refl _), _, _, rfl, rfl, rfl⟩
              refine ops_cons (fun f w_ hS hE hP => ?_) ?_
              ·
                have hx := ext_trans hx hE
                have h1 := RP.ext h1 hE
                refine L_mv (v := v1) rfl ((hS 1 rfl).trans sf1) ?_
                exact L_nil ⟨rfl, (ext_refl _), _, _, rfl, rfl, rfl⟩
              refine ops_cons (fun f w_ hS hE hP => ?_) ?_
              ·
                have hx := ext_trans hx hE
                refine L_mv (v := .int .i64 (i_2 : Int)) rfl ((hS 5 rfl).trans sf5) ?_
                exact L_nil ⟨rfl, (ext_refl _), _, _, rfl, rfl, rfl⟩
              refine ops_cons (fun f w_ hS hE hP => ?_) ?_
              ·
                have hx := ext_trans hx hE
                have h1 := RP.ext h1 hE
                refine L_ix (r := RP.int) rfl Try.underlying22 Try.sizeOf3 (hP 4 21 rfl rfl) h1 (hP 5 22 rfl rfl) hx7 ?_
                intro g17 o18 cs18 hr18 hat18
                obtain rfl : _ = [_] := hr18
                exact L_nil ⟨rfl, (ext_refl _), _, _, rfl, rfl, ⟨_, _, _, rfl, rfl, hat18⟩⟩
              refine ops_cons (fun f w_ hS hE hP => ?_) ?_
              ·
                have hx := ext_trans hx hE
                obtain ⟨g19, o19, cs19, hv19, hr19, hat19⟩ := (hP 6 23 rfl rfl)
                obtain rfl : _ = [_] := hr19
                refine L_ld (v := .int .i64 x7) rfl Try.isAgg3 hv19 (hat19.cell (j := 0) rfl) ?_
                exact L_nil ⟨rfl, (ext_refl _), _, _, rfl, rfl, rfl⟩
              exact ops_nil
            ·
              have h0 := RP.ext h0 hE
              have h1 := RP.ext h1 hE
              have hx := ext_trans hx hE
              refine L_neq (m := x_3) (n := x7) rfl (hT 3 20 rfl rfl) (hT 7 24 rfl rfl) ?_
              refine L_nil ?_
              refine W_cond (b := (x_3 != x7)) rfl (fun hc20 => ?_) (fun hc20 => ?_)
              ·
                have hB3 := (ite_t hc20).symm.trans hB3
                refine W_seq ?_
                refine W_region ?_
                refine L_as (v := .bool false) rfl rfl ?_
                refine L_nil ?_
                refine W_ret ?_
                obtain rfl := so hB3
                obtain rfl := so hL3
                obtain rfl := so hF
                refine ret1 Try.results73 ?_
                exact ⟨rfl, hx⟩
              ·
                have hB3 := (ite_f hc20).symm.trans hB3
                refine W_skip ?_
                refine W_region ?_
                refine L_mv (v := .int .i64 (i_2 : Int)) rfl ((hS 5 rfl).trans sf5) ?_
                refine L_add (m := (i_2 : Int)) (n := 1) rfl rfl rfl ?_
                refine L_as (v := .int .i64 (i64 ((i_2 : Int) + 1))) rfl rfl ?_
                refine L_nil ?_
                obtain rfl := so hB3
                show ∃ m, m < _ ∧ I3 m _ _
                refine ⟨rest3.length, by simp, ?_⟩
                rw [hI3]
                exact ⟨i_2 + 1, rest3, rfl, drop_next hd3, by simp at hl3; omega, hL3, ((hS 0 rfl).trans sf0), ((hS 1 rfl).trans sf1), (Eq.trans rfl (congrArg (Value.int .i64) (i64_succ (n := a.length) (by simp at hl3; omega) hlen3))), h0, h1, hx⟩
        ·
          cases suf3 with
          | cons _ _ => exact absurd (of_decide_eq_false hc4) (by simp at hl3; omega)
          | nil =>
            obtain rfl := range_nil hL3
            refine W_exit ?_
            show R3 _ _
            rw [hR3]
            exact ⟨rfl, hx⟩
    ·
      intro f w_ hR
      rw [hR3] at hR
      obtain ⟨rfl, hx⟩ := hR
      clear hR3
      refine W_seq ?_
      refine W_region ?_
      refine L_as (v := .bool true) rfl rfl ?_
      refine L_nil ?_
      refine W_ret ?_
      obtain rfl := so hF
      refine ret1 Try.results73 ?_
      exact ⟨rfl, hx⟩

theorem s_l6Holds_c {r_ : Rule} {cells : List Int} {v0_1 : Value} {v0_2 : Value} {v0_4 : Value} {v1 : Value} {w : World} {B : Nat} (hB : B ≤ w.heap.size) (h0_1 : (RP.slice 3 RP.int).rel B w.heap.size w [v0_1] r_.vars) (h0_2 : (RP.slice 3 RP.int).rel B w.heap.size w [v0_2] r_.coefs) (h0_4 : (RP.slice 22 (RP.slice 3 RP.int)).rel B w.heap.size w [v0_4] r_.rows) (h1 : (RP.slice 3 RP.int).rel B w.heap.size w [v1] cells) {r : Bool} (hF : s_l6Holds r_ cells = some r) :
    C Try.prog 54 #[.agg #[.int .i64 r_.kind, v0_1, v0_2, .int .i64 r_.bound, v0_4], v1] w fun v w' => (v = .bool r) ∧ Ext w w' := by
  unfold s_l6Holds at hF
  have hx := ext_refl w
  refine C_enter Try.func54 rfl Try.ntmps54 rfl ?_
  refine W_seq ?_
  refine W_region ?_
  refine L_box (v := .agg #[.int .i64 r_.kind, v0_1, v0_2, .int .i64 r_.bound, v0_4]) (cs := #[.int .i64 r_.kind, v0_1, v0_2, .int .i64 r_.bound, v0_4]) rfl rfl rfl ?_
  intro g3 w4 hn4
  have hge_g3 := hn4.ge hx
  have hb_g3 := hn4.blk
  have h0_1 := RP.ext h0_1 hn4.ext
  have h0_2 := RP.ext h0_2 hn4.ext
  have h0_4 := RP.ext h0_4 hn4.ext
  have h1 := RP.ext h1 hn4.ext
  have hx := ext_trans hx hn4.ext
  refine L_as (v := .bool false) rfl rfl ?_
  refine L_nil ?_
  refine W_seq ?_
  refine W_region ?_
  refine L_bs rfl parts0 (bs_22_0  ) ?_
  intro g7 w8 hn8
  have ho8 : Own RP.int 3 w.heap.size B w8 _ _ := own_new0 hn8 hx.size
  have h0_1 := RP.ext h0_1 hn8.ext
  have h0_2 := RP.ext h0_2 hn8.ext
  have h0_4 := RP.ext h0_4 hn8.ext
  have h1 := RP.ext h1 hn8.ext
  have hb_g3 := Blk.ext hb_g3 hn8.ext
  have hx := ext_trans hx hn8.ext
  refine L_as (v := (.slice (some ⟨g7, 0, none⟩) 0 0)) rfl rfl ?_
  refine L_nil ?_
  refine W_seq ?_
  refine W_seq ?_
  refine W_region ?_
  refine L_as (v := .int .i64 0) rfl rfl ?_
  refine L_nil ?_
  have hlen11 := len_le h0_1
  obtain ⟨j11, hL11, hF⟩ := bind_some hF
  obtain ⟨R11, hR11⟩ : ∃ R : Fr → World → Prop, R = fun f w_ => ∃ list_10 : List Int, ∃ v10_list : Value, j11 = .nx list_10 ∧ f 2 = .pointer (some ⟨g3, 0, none⟩) ∧ f 5 = v10_list ∧ Own RP.int 3 w.heap.size B w_ v10_list list_10 ∧ (RP.slice 3 RP.int).rel B w.heap.size w_ [v0_1] r_.vars ∧ (RP.slice 3 RP.int).rel B w.heap.size w_ [v0_2] r_.coefs ∧ (RP.slice 22 (RP.slice 3 RP.int)).rel B w.heap.size w_ [v0_4] r_.rows ∧ Blk w_ g3 68 #[.int .i64 r_.kind, v0_1, v0_2, .int .i64 r_.bound, v0_4] ∧ Ext w w_ := ⟨_, rfl⟩
  refine W_join R11 ?_ ?_
  ·
    refine W_block ?_
    obtain ⟨I11, hI11⟩ : ∃ I : Nat → Fr → World → Prop, I = fun n f w_ => ∃ i_9 : Nat, ∃ suf11 : List Int, ∃ list_10 : List Int, ∃ v10_list : Value, n = suf11.length ∧ List.drop i_9 r_.vars = suf11 ∧ i_9 + suf11.length = r_.vars.length ∧ rangeL (s_l6Holds_b1 cells) suf11 i_9 list_10 = some j11 ∧ f 1 = v1 ∧ f 2 = .pointer (some ⟨g3, 0, none⟩) ∧ f 5 = v10_list ∧ f 6 = .int .i64 (i_9 : Int) ∧ (RP.slice 3 RP.int).rel B w.heap.size w_ [v1] cells ∧ Own RP.int 3 w.heap.size B w_ v10_list list_10 ∧ (RP.slice 3 RP.int).rel B w.heap.size w_ [v0_1] r_.vars ∧ (RP.slice 3 RP.int).rel B w.heap.size w_ [v0_2] r_.coefs ∧ (RP.slice 22 (RP.slice 3 RP.int)).rel B w.heap.size w_ [v0_4] r_.rows ∧ Blk w_ g3 68 #[.int .i64 r_.kind, v0_1, v0_2, .int .i64 r_.bound, v0_4] ∧ Ext w w_ := ⟨_, rfl⟩
    refine W_loop I11 (n := r_.vars.length) ?_ ?_
    · rw [hI11]; exact ⟨0, r_.vars, [], (.slice (some ⟨g7, 0, none⟩) 0 0), rfl, rfl, Nat.zero_add _, hL11, rfl, rfl, rfl, rfl, h1, ho8, h0_1, h0_2, h0_4, hb_g3, hx⟩
    ·
      intro n11 f w_ hI
      rw [hI11] at hI
      obtain ⟨i_9, suf11, list_10, v10_list, rfl, hd11, hl11, hL11, sf1, sf2, sf5, sf6, h1, hv10_list, h0_1, h0_2, h0_4, hb_g3, hx⟩ := hI
      refine W_seq ?_
      refine W_seq ?_
      refine W_region ?_
      refine L_mv (v := .int .i64 (i_9 : Int)) rfl sf6 ?_
      refine L_fa (o' := 1) rfl fa_68_1 sf2 rfl ?_
      refine L_ld (v := v0_1) rfl Try.isAgg22 rfl (hb_g3.cell (j := 1) rfl) ?_
      refine L_len (v := v0_1) rfl Try.underlying22 rfl h0_1 ?_
      refine L_lss (m := (i_9 : Int)) (n := (r_.vars.length : Int)) rfl rfl rfl ?_
      refine L_nil ?_
      refine W_cond (b := decide ((i_9 : Int) < (r_.vars.length : Int))) rfl (fun hc12 => ?_) (fun hc12 => ?_)
      ·
        have hlt11 := of_decide_eq_true hc12
        cases suf11 with
        | nil => exact absurd hlt11 (by simp at hl11; omega)
        | cons x_11 rest11 =>
          obtain ⟨o11, hB11, hL11⟩ := range_cons hL11
          rw [s_l6Holds_b1] at hB11
          have hix11 := drop_idx hd11
          refine W_skip ?_
          refine W_seq ?_
          refine W_block ?_
          obtain ⟨x15, hx15, hB11⟩ := bind_some hB11
          obtain ⟨x21, hx21, hB11⟩ := bind_some hB11
          refine W_region ?_
          refine L_mv (v := v10_list) rfl sf5 ?_
          refine L_mv (v := v1) rfl sf1 ?_
          refine L_fa (o' := 1) rfl fa_68_1 sf2 rfl ?_
          refine L_ld (v := v0_1) rfl Try.isAgg22 rfl (hb_g3.cell (j := 1) rfl) ?_
          refine L_mv (v := .int .i64 (i_9 : Int)) rfl sf6 ?_
          refine L_ix (r := RP.int) rfl Try.underlying22 Try.sizeOf3 rfl h0_1 rfl hix11 ?_
          intro g24 o25 cs25 hr25 hat25
          obtain rfl : _ = [_] := hr25
          refine L_ld (v := .int .i64 x_11) rfl Try.isAgg3 rfl (hat25.cell (j := 0) rfl) ?_
          refine L_ix (r := RP.int) rfl Try.underlying22 Try.sizeOf3 rfl h1 rfl hx15 ?_
          intro g26 o27 cs27 hr27 hat27
          obtain rfl : _ = [_] := hr27
          refine L_ld (v := .int .i64 x15) rfl Try.isAgg3 rfl (hat27.cell (j := 0) rfl) ?_
          refine L_bs rfl (parts1 rfl) (bs_22_1_0 (.int .i64 x15) rfl) ?_
          intro g28 w29 hn29
          have ho29 : Own RP.int 3 w.heap.size B w29 _ [x15] := own_new1 hn29 hx.size rfl
          have ap30 := ap_ob hv10_list hn29
          have h1 := RP.ext h1 hn29.ext
          have hv10_list := Own.ext hv10_list hn29.ext
          have h0_1 := RP.ext h0_1 hn29.ext
          have h0_2 := RP.ext h0_2 hn29.ext
          have h0_4 := RP.ext h0_4 hn29.ext
          have hb_g3 := Blk.ext hb_g3 hn29.ext
          have hx := ext_trans hx hn29.ext
          refine L_app (v := v10_list) (u := (.slice (some ⟨g28, 0, none⟩) 1 1)) rfl et_22 (by decide) rfl rfl hv10_list (rel0 (Own.rel ho29)) hx21 hx.size hB ?_
          intro v31 w31 ho31 hm31 hb31
          have h1 := hm31.rel_lo h1 (Nat.le_refl _)
          have h0_1 := hm31.rel_lo h0_1 (Nat.le_refl _)
          have h0_2 := hm31.rel_lo h0_2 (Nat.le_refl _)
          have h0_4 := hm31.rel_lo h0_4 (Nat.le_refl _)
          have hb_g3 := hm31.blk hb_g3 (by decide)
          have hx := ext_mut hx hm31 (Nat.le_refl _)
          refine L_as (v := v31) rfl rfl ?_
          refine L_nil ?_
          refine W_region ?_
          refine L_mv (v := .int .i64 (i_9 : Int)) rfl sf6 ?_
          refine L_add (m := (i_9 : Int)) (n := 1) rfl rfl rfl ?_
          refine L_as (v := .int .i64 (i64 ((i_9 : Int) + 1))) rfl rfl ?_
          refine L_nil ?_
          obtain rfl := so hB11
          show ∃ m, m < _ ∧ I11 m _ _
          refine ⟨rest11.length, by simp, ?_⟩
          rw [hI11]
          exact ⟨i_9 + 1, rest11, x21, v31, rfl, drop_next hd11, by simp at hl11; omega, hL11, sf1, sf2, rfl, (Eq.trans rfl (congrArg (Value.int .i64) (i64_succ (n := r_.vars.length) (by simp at hl11; omega) hlen11))), h1, ho31, h0_1, h0_2, h0_4, hb_g3, hx⟩
      ·
        cases suf11 with
        | cons _ _ => exact absurd (of_decide_eq_false hc12) (by simp at hl11; omega)
        | nil =>
          obtain rfl := range_nil hL11
          refine W_exit ?_
          show R11 _ _
          rw [hR11]
          exact ⟨list_10, v10_list, rfl, sf2, sf5, hv10_list, h0_1, h0_2, h0_4, hb_g3, hx⟩
  ·
    intro f w_ hR
    rw [hR11] at hR
    obtain ⟨list_10, v10_list, rfl, sf2, sf5, hv10_list, h0_1, h0_2, h0_4, hb_g3, hx⟩ := hR
    clear hR11
    refine W_seq ?_
    refine W_seq ?_
    refine W_region ?_
    refine L_fa (o' := 0) rfl fa_68_0 sf2 rfl ?_
    refine L_ld (v := .int .i64 r_.kind) rfl Try.isAgg3 rfl (hb_g3.cell (j := 0) rfl) ?_
    refine L_nil ?_
    refine W_block ?_
    refine W_seq ?_
    refine W_region ?_
    refine L_eql (m := r_.kind) (n := 1) rfl rfl rfl ?_
    refine L_as (v := .bool (r_.kind == 1)) rfl rfl ?_
    refine L_nil ?_
    refine W_cond (b := (r_.kind == 1)) rfl (fun hc32 => ?_) (fun hc32 => ?_)
    ·
      have hF := (ite_t hc32).symm.trans hF
      refine W_seq ?_
      refine W_region ?_
      refine L_as (v := .int .i64 0) rfl rfl ?_
      refine L_nil ?_
      refine W_seq ?_
      refine W_seq ?_
      refine W_region ?_
      refine L_as (v := .int .i64 0) rfl rfl ?_
      refine L_nil ?_
      have hlen35 := len_le (Own.rel hv10_list)
      obtain ⟨j35, hL35, hF⟩ := bind_some hF
      obtain ⟨R35, hR35⟩ : ∃ R : Fr → World → Prop, R = fun f w_ => ∃ n_34 : Int, j35 = .nx n_34 ∧ f 2 = .pointer (some ⟨g3, 0, none⟩) ∧ f 7 = .int .i64 n_34 ∧ (RP.slice 3 RP.int).rel B w.heap.size w_ [v0_1] r_.vars ∧ (RP.slice 3 RP.int).rel B w.heap.size w_ [v0_2] r_.coefs ∧ (RP.slice 22 (RP.slice 3 RP.int)).rel B w.heap.size w_ [v0_4] r_.rows ∧ Blk w_ g3 68 #[.int .i64 r_.kind, v0_1, v0_2, .int .i64 r_.bound, v0_4] ∧ Ext w w_ := ⟨_, rfl⟩
      refine W_join R35 ?_ ?_
      ·
        refine W_block ?_
        obtain ⟨I35, hI35⟩ : ∃ I : Nat → Fr → World → Prop, I = fun n f w_ => ∃ i_33 : Nat, ∃ suf35 : List Int, ∃ n_34 : Int, n = suf35.length ∧ List.drop i_33 list_10 = suf35 ∧ i_33 + suf35.length = list_10.length ∧ rangeL (s_l6Holds_b2 r_) suf35 i_33 n_34 = some j35 ∧ f 2 = .pointer (some ⟨g3, 0, none⟩) ∧ f 5 = v10_list ∧ f 7 = .int .i64 n_34 ∧ f 8 = .int .i64 (i_33 : Int) ∧ Own RP.int 3 w.heap.size B w_ v10_list list_10 ∧ (RP.slice 3 RP.int).rel B w.heap.size w_ [v0_1] r_.vars ∧ (RP.slice 3 RP.int).rel B w.heap.size w_ [v0_2] r_.coefs ∧ (RP.slice 22 (RP.slice 3 RP.int)).rel B w.heap.size w_ [v0_4] r_.rows ∧ Blk w_ g3 68 #[.int .i64 r_.kind, v0_1, v0_2, .int .i64 r_.bound, v0_4] ∧ Ext w w_ := ⟨_, rfl⟩
        refine W_loop I35 (n := list_10.length) ?_ ?_
        · rw [hI35]; exact ⟨0, list_10, 0, rfl, rfl, Nat.zero_add _, hL35, sf2, sf5, rfl, rfl, hv10_list, h0_1, h0_2, h0_4, hb_g3, hx⟩
        ·
          intro n35 f w_ hI
          rw [hI35] at hI
          obtain ⟨i_33, suf35, n_34, rfl, hd35, hl35, hL35, sf2, sf5, sf7, sf8, hv10_list, h0_1, h0_2, h0_4, hb_g3, hx⟩ := hI
          refine W_seq ?_
          refine W_seq ?_
          refine W_region ?_
          refine L_mv (v := .int .i64 (i_33 : Int)) rfl sf8 ?_
          refine L_mv (v := v10_list) rfl sf5 ?_
          refine L_len (v := v10_list) rfl Try.underlying22 rfl (Own.rel hv10_list) ?_
          refine L_lss (m := (i_33 : Int)) (n := (list_10.length : Int)) rfl rfl rfl ?_
          refine L_nil ?_
          refine W_cond (b := decide ((i_33 : Int) < (list_10.length : Int))) rfl (fun hc36 => ?_) (fun hc36 => ?_)
          ·
            have hlt35 := of_decide_eq_true hc36
            cases suf35 with
            | nil => exact absurd hlt35 (by simp at hl35; omega)
            | cons x_35 rest35 =>
              obtain ⟨o35, hB35, hL35⟩ := range_cons hL35
              rw [s_l6Holds_b2] at hB35
              have hix35 := drop_idx hd35
              refine W_skip ?_
              refine W_seq ?_
              refine W_block ?_
              obtain ⟨x37, hx37, hB35⟩ := bind_some hB35
              refine W_drawL 11 [isV (.int .i64 n_34), isV (.pointer (some ⟨g3, 2, none⟩)), isV (v0_2), isV (.int .i64 (i_33 : Int)), isEl B RP.int x37 0, isV (.int .i64 x37), isV (v10_list), isV (.int .i64 (i_33 : Int)), isEl B RP.int x_35 0, isV (.int .i64 x_35), isV (.int .i64 (i64 (x37 * x_35)))] Try_mix (by kernel_rfl) (am_cons (mono_V _) (am_cons (mono_V _) (am_cons (mono_V _) (am_cons (mono_V _) (am_cons (mono_el _ _ _ _) (am_cons (mono_V _) (am_cons (mono_V _) (am_cons (mono_V _) (am_cons (mono_el _ _ _ _) (am_cons (mono_V _) (am_cons (mono_V _) am_nil))))))))))) ?_ (fun f w_ hS hE hT => ?_)
              ·
                refine ops_cons (fun f w_ hS hE hP => ?_) ?_
                ·
                  have hx := ext_trans hx hE
                  refine L_mv (v := .int .i64 n_34) rfl ((hS 7 rfl).trans sf7) ?_
                  exact L_nil ⟨rfl, (ext_refl _), _, _, rfl, rfl, rfl⟩
                refine ops_cons (fun f w_ hS hE hP => ?_) ?_
                ·
                  have hx := ext_trans hx hE
                  have h0_1 := RP.ext h0_1 hE
                  have h0_2 := RP.ext h0_2 hE
                  have h0_4 := RP.ext h0_4 hE
                  have hb_g3 := Blk.ext hb_g3 hE
                  refine L_fa (o' := 2) rfl fa_68_2 ((hS 2 rfl).trans sf2) rfl ?_
                  exact L_nil ⟨rfl, (ext_refl _), _, _, rfl, rfl, rfl⟩
                refine ops_cons (fun f w_ hS hE hP => ?_) ?_
                ·
                  have hx := ext_trans hx hE
                  have h0_1 := RP.ext h0_1 hE
                  have h0_2 := RP.ext h0_2 hE
                  have h0_4 := RP.ext h0_4 hE
                  have hb_g3 := Blk.ext hb_g3 hE
                  refine L_ld (v := v0_2) rfl Try.isAgg22 (hP 1 42 rfl rfl) (hb_g3.cell (j := 2) rfl) ?_
                  exact L_nil ⟨rfl, (ext_refl _), _, _, rfl, rfl, rfl⟩
                refine ops_cons (fun f w_ hS hE hP => ?_) ?_
                ·
                  have hx := ext_trans hx hE
                  refine L_mv (v := .int .i64 (i_33 : Int)) rfl ((hS 8 rfl).trans sf8) ?_
                  exact L_nil ⟨rfl, (ext_refl _), _, _, rfl, rfl, rfl⟩
                refine ops_cons (fun f w_ hS hE hP => ?_) ?_
                ·
                  have hx := ext_trans hx hE
                  have h0_2 := RP.ext h0_2 hE
                  refine L_ix (r := RP.int) rfl Try.underlying22 Try.sizeOf3 (hP 2 43 rfl rfl) h0_2 (hP 3 44 rfl rfl) hx37 ?_
                  intro g46 o47 cs47 hr47 hat47
                  obtain rfl : _ = [_] := hr47
                  exact L_nil ⟨rfl, (ext_refl _), _, _, rfl, rfl, ⟨_, _, _, rfl, rfl, hat47⟩⟩
                refine ops_cons (fun f w_ hS hE hP => ?_) ?_
                ·
                  have hx := ext_trans hx hE
                  obtain ⟨g48, o48, cs48, hv48, hr48, hat48⟩ := (hP 4 45 rfl rfl)
                  obtain rfl : _ = [_] := hr48
                  refine L_ld (v := .int .i64 x37) rfl Try.isAgg3 hv48 (hat48.cell (j := 0) rfl) ?_
                  exact L_nil ⟨rfl, (ext_refl _), _, _, rfl, rfl, rfl⟩
                refine ops_cons (fun f w_ hS hE hP => ?_) ?_
                ·
                  have hx := ext_trans hx hE
                  have hv10_list := Own.ext hv10_list hE
                  refine L_mv (v := v10_list) rfl ((hS 5 rfl).trans sf5) ?_
                  exact L_nil ⟨rfl, (ext_refl _), _, _, rfl, rfl, rfl⟩
                refine ops_cons (fun f w_ hS hE hP => ?_) ?_
                ·
                  have hx := ext_trans hx hE
                  refine L_mv (v := .int .i64 (i_33 : Int)) rfl ((hS 8 rfl).trans sf8) ?_
                  exact L_nil ⟨rfl, (ext_refl _), _, _, rfl, rfl, rfl⟩
                refine ops_cons (fun f w_ hS hE hP => ?_) ?_
                ·
                  have hx := ext_trans hx hE
                  have hv10_list := Own.ext hv10_list hE
                  refine L_ix (r := RP.int) rfl Try.underlying22 Try.sizeOf3 (hP 6 47 rfl rfl) (Own.rel hv10_list) (hP 7 48 rfl rfl) hix35 ?_
                  intro g49 o50 cs50 hr50 hat50
                  obtain rfl : _ = [_] := hr50
                  exact L_nil ⟨rfl, (ext_refl _), _, _, rfl, rfl, ⟨_, _, _, rfl, rfl, hat50⟩⟩
                refine ops_cons (fun f w_ hS hE hP => ?_) ?_
                ·
                  have hx := ext_trans hx hE
                  obtain ⟨g51, o51, cs51, hv51, hr51, hat51⟩ := (hP 8 49 rfl rfl)
                  obtain rfl : _ = [_] := hr51
                  refine L_ld (v := .int .i64 x_35) rfl Try.isAgg3 hv51 (hat51.cell (j := 0) rfl) ?_
                  exact L_nil ⟨rfl, (ext_refl _), _, _, rfl, rfl, rfl⟩
                refine ops_cons (fun f w_ hS hE hP => ?_) ?_
                ·
                  have hx := ext_trans hx hE
                  refine L_mul (m := x37) (n := x_35) rfl (hP 5 46 rfl rfl) (hP 9 50 rfl rfl) ?_
                  exact L_nil ⟨rfl, (ext_refl _), _, _, rfl, rfl, rfl⟩
                exact ops_nil
              ·
                have hv10_list := Own.ext hv10_list hE
                have h0_1 := RP.ext h0_1 hE
                have h0_2 := RP.ext h0_2 hE
                have h0_4 := RP.ext h0_4 hE
                have hb_g3 := Blk.ext hb_g3 hE
                have hx := ext_trans hx hE
                refine L_add (m := n_34) (n := i64 (x37 * x_35)) rfl (hT 0 41 rfl rfl) (hT 10 51 rfl rfl) ?_
                refine L_as (v := .int .i64 (i64 (n_34 + (i64 (x37 * x_35))))) rfl rfl ?_
                refine L_nil ?_
                refine W_region ?_
                refine L_mv (v := .int .i64 (i_33 : Int)) rfl ((hS 8 rfl).trans sf8) ?_
                refine L_add (m := (i_33 : Int)) (n := 1) rfl rfl rfl ?_
                refine L_as (v := .int .i64 (i64 ((i_33 : Int) + 1))) rfl rfl ?_
                refine L_nil ?_
                obtain rfl := so hB35
                show ∃ m, m < _ ∧ I35 m _ _
                refine ⟨rest35.length, by simp, ?_⟩
                rw [hI35]
                exact ⟨i_33 + 1, rest35, i64 (n_34 + (i64 (x37 * x_35))), rfl, drop_next hd35, by simp at hl35; omega, hL35, ((hS 2 rfl).trans sf2), ((hS 5 rfl).trans sf5), rfl, (Eq.trans rfl (congrArg (Value.int .i64) (i64_succ (n := list_10.length) (by simp at hl35; omega) hlen35))), hv10_list, h0_1, h0_2, h0_4, hb_g3, hx⟩
          ·
            cases suf35 with
            | cons _ _ => exact absurd (of_decide_eq_false hc36) (by simp at hl35; omega)
            | nil =>
              obtain rfl := range_nil hL35
              refine W_exit ?_
              show R35 _ _
              rw [hR35]
              exact ⟨n_34, rfl, sf2, sf7, h0_1, h0_2, h0_4, hb_g3, hx⟩
      ·
        intro f w_ hR
        rw [hR35] at hR
        obtain ⟨n_34, rfl, sf2, sf7, h0_1, h0_2, h0_4, hb_g3, hx⟩ := hR
        clear hR35
        refine W_seq ?_
        refine W_region ?_
        refine L_mv (v := .int .i64 n_34) rfl sf7 ?_
        refine L_fa (o' := 3) rfl fa_68_3 sf2 rfl ?_
        refine L_ld (v := .int .i64 r_.bound) rfl Try.isAgg3 rfl (hb_g3.cell (j := 3) rfl) ?_
        refine L_geq (m := n_34) (n := r_.bound) rfl rfl rfl ?_
        refine L_as (v := .bool (decide (n_34 ≥ r_.bound))) rfl rfl ?_
        refine L_nil ?_
        refine W_ret ?_
        obtain rfl := so hF
        refine ret1 Try.results54 ?_
        exact ⟨rfl, hx⟩
    ·
      have hF := (ite_f hc32).symm.trans hF
      refine W_seq ?_
      refine W_region ?_
      refine L_eql (m := r_.kind) (n := 2) rfl rfl rfl ?_
      refine L_as (v := .bool (r_.kind == 2)) rfl rfl ?_
      refine L_nil ?_
      refine W_cond (b := (r_.kind == 2)) rfl (fun hc52 => ?_) (fun hc52 => ?_)
      ·
        have hF := (ite_t hc52).symm.trans hF
        refine W_seq ?_
        refine W_seq ?_
        refine W_region ?_
        refine L_as (v := .int .i64 0) rfl rfl ?_
        refine L_nil ?_
        have hlen54 := len_le (Own.rel hv10_list)
        obtain ⟨j54, hL54, hF⟩ := bind_some hF
        obtain ⟨R54, hR54⟩ : ∃ R : Fr → World → Prop, R = fun f w_ => j54 = .nx () ∧ Ext w w_ := ⟨_, rfl⟩
        refine W_join R54 ?_ ?_
        ·
          refine W_block ?_
          obtain ⟨I54, hI54⟩ : ∃ I : Nat → Fr → World → Prop, I = fun n f w_ => ∃ i_53 : Nat, ∃ suf54 : List Int, n = suf54.length ∧ List.drop i_53 list_10 = suf54 ∧ i_53 + suf54.length = list_10.length ∧ rangeL (s_l6Holds_b3 list_10) suf54 i_53 () = some j54 ∧ f 5 = v10_list ∧ f 9 = .int .i64 (i_53 : Int) ∧ Own RP.int 3 w.heap.size B w_ v10_list list_10 ∧ Ext w w_ := ⟨_, rfl⟩
          refine W_loop I54 (n := list_10.length) ?_ ?_
          · rw [hI54]; exact ⟨0, list_10, rfl, rfl, Nat.zero_add _, hL54, sf5, rfl, hv10_list, hx⟩
          ·
            intro n54 f w_ hI
            rw [hI54] at hI
            obtain ⟨i_53, suf54, rfl, hd54, hl54, hL54, sf5, sf9, hv10_list, hx⟩ := hI
            refine W_seq ?_
            refine W_seq ?_
            refine W_region ?_
            refine L_mv (v := .int .i64 (i_53 : Int)) rfl sf9 ?_
            refine L_mv (v := v10_list) rfl sf5 ?_
            refine L_len (v := v10_list) rfl Try.underlying22 rfl (Own.rel hv10_list) ?_
            refine L_lss (m := (i_53 : Int)) (n := (list_10.length : Int)) rfl rfl rfl ?_
            refine L_nil ?_
            refine W_cond (b := decide ((i_53 : Int) < (list_10.length : Int))) rfl (fun hc55 => ?_) (fun hc55 => ?_)
            ·
              have hlt54 := of_decide_eq_true hc55
              cases suf54 with
              | nil => exact absurd hlt54 (by simp at hl54; omega)
              | cons x_54 rest54 =>
                obtain ⟨o54, hB54, hL54⟩ := range_cons hL54
                rw [s_l6Holds_b3] at hB54
                have hix54 := drop_idx hd54
                refine W_skip ?_
                refine W_seq ?_
                refine W_block ?_
                refine W_seq ?_
                refine W_region ?_
                refine L_as (v := .int .i64 0) rfl rfl ?_
                refine L_nil ?_
                obtain ⟨k58, hk58, hB54⟩ := bind_some hB54
                obtain ⟨j57, hL57, hB54⟩ := bind_some hB54
                obtain ⟨R57, hR57⟩ : ∃ R : Fr → World → Prop, R = fun f w_ => j57 = .nx () ∧ f 5 = v10_list ∧ f 9 = .int .i64 (i_53 : Int) ∧ Own RP.int 3 w.heap.size B w_ v10_list list_10 ∧ Ext w w_ := ⟨_, rfl⟩
                refine W_join R57 ?_ ?_
                ·
                  refine W_block ?_
                  obtain ⟨I57, hI57⟩ : ∃ I : Nat → Fr → World → Prop, I = fun n f w_ => ∃ i_56 : Nat, ∃ suf57 : Nat, suf57 = n ∧ 0 ≤ i_56 ∧ i_56 + suf57 = 0 + k58 ∧ countL (s_l6Holds_b4 list_10 x_54) suf57 i_56 () = some j57 ∧ f 5 = v10_list ∧ f 9 = .int .i64 (i_53 : Int) ∧ f 10 = .int .i64 (i_56 : Int) ∧ Own RP.int 3 w.heap.size B w_ v10_list list_10 ∧ Ext w w_ := ⟨_, rfl⟩
                  refine W_loop I57 (n := k58) ?_ ?_
                  · rw [hI57]; exact ⟨0, k58, rfl, Nat.le_refl _, rfl, hL57, sf5, sf9, rfl, hv10_list, hx⟩
                  ·
                    intro n57 f w_ hI
                    rw [hI57] at hI
                    obtain ⟨i_56, suf57, rfl, hs57, hl57, hL57, sf5, sf9, sf10, hv10_list, hx⟩ := hI
                    refine W_seq ?_
                    refine W_seq ?_
                    refine W_region ?_
                    refine L_mv (v := .int .i64 (i_56 : Int)) rfl sf10 ?_
                    refine L_mv (v := .int .i64 (i_53 : Int)) rfl sf9 ?_
                    refine L_lss (m := (i_56 : Int)) (n := (i_53 : Int)) rfl rfl rfl ?_
                    refine L_nil ?_
                    refine W_cond (b := decide ((i_56 : Int) < (i_53 : Int))) rfl (fun hc59 => ?_) (fun hc59 => ?_)
                    ·
                      have hlt57 := of_decide_eq_true hc59
                      cases suf57 with
                      | zero => exact absurd hlt57 (cntF_no hl57 hk58)
                      | succ rest57 =>
                        obtain ⟨o57, hB57, hL57⟩ := count_succ hL57
                        rw [s_l6Holds_b4] at hB57
                        refine W_skip ?_
                        refine W_seq ?_
                        refine W_block ?_
                        refine W_seq ?_
                        obtain ⟨x60, hx60, hB57⟩ := bind_some hB57
                        refine W_drawL 8 [isV (v10_list), isV (.int .i64 (i_56 : Int)), isEl B RP.int x60 0, isV (.int .i64 x60), isV (v10_list), isV (.int .i64 (i_53 : Int)), isEl B RP.int x_54 0, isV (.int .i64 x_54)] Try_mix (by kernel_rfl) (am_cons (mono_V _) (am_cons (mono_V _) (am_cons (mono_el _ _ _ _) (am_cons (mono_V _) (am_cons (mono_V _) (am_cons (mono_V _) (am_cons (mono_el _ _ _ _) (am_cons (mono_V _) am_nil)))))))) ?_ (fun f w_ hS hE hT => ?_)
                        ·
                          refine ops_cons (fun f w_ hS hE hP => ?_) ?_
                          ·
                            have hx := ext_trans hx hE
                            have hv10_list := Own.ext hv10_list hE
                            refine L_mv (v := v10_list) rfl ((hS 5 rfl).trans sf5) ?_
                            exact L_nil ⟨rfl, (ext_refl _), _, _, rfl, rfl, rfl⟩
                          refine ops_cons (fun f w_ hS hE hP => ?_) ?_
                          ·
                            have hx := ext_trans hx hE
                            refine L_mv (v := .int .i64 (i_56 : Int)) rfl ((hS 10 rfl).trans sf10) ?_
                            exact L_nil ⟨rfl, (ext_refl _), _, _, rfl, rfl, rfl⟩
                          refine ops_cons (fun f w_ hS hE hP => ?_) ?_
                          ·
                            have hx := ext_trans hx hE
                            have hv10_list := Own.ext hv10_list hE
                            refine L_ix (r := RP.int) rfl Try.underlying22 Try.sizeOf3 (hP 0 70 rfl rfl) (Own.rel hv10_list) (hP 1 71 rfl rfl) hx60 ?_
                            intro g69 o70 cs70 hr70 hat70
                            obtain rfl : _ = [_] := hr70
                            exact L_nil ⟨rfl, (ext_refl _), _, _, rfl, rfl, ⟨_, _, _, rfl, rfl, hat70⟩⟩
                          refine ops_cons (fun f w_ hS hE hP => ?_) ?_
                          ·
                            have hx := ext_trans hx hE
                            obtain ⟨g71, o71, cs71, hv71, hr71, hat71⟩ := (hP 2 72 rfl rfl)
                            obtain rfl : _ = [_] := hr71
                            refine L_ld (v := .int .i64 x60) rfl Try.isAgg3 hv71 (hat71.cell (j := 0) rfl) ?_
                            exact L_nil ⟨rfl, (ext_refl _), _, _, rfl, rfl, rfl⟩
                          refine ops_cons (fun f w_ hS hE hP => ?_) ?_
                          ·
                            have hx := ext_trans hx hE
                            have hv10_list := Own.ext hv10_list hE
                            refine L_mv (v := v10_list) rfl ((hS 5 rfl).trans sf5) ?_
                            exact L_nil ⟨rfl, (ext_refl _), _, _, rfl, rfl, rfl⟩
                          refine ops_cons (fun f w_ hS hE hP => ?_) ?_
                          ·
                            have hx := ext_trans hx hE
                            refine L_mv (v := .int .i64 (i_53 : Int)) rfl ((hS 9 rfl).trans sf9) ?_
                            exact L_nil ⟨rfl, (ext_refl _), _, _, rfl, rfl, rfl⟩
                          refine ops_cons (fun f w_ hS hE hP => ?_) ?_
                          ·
                            have hx := ext_trans hx hE
                            have hv10_list := Own.ext hv10_list hE
                            refine L_ix (r := RP.int) rfl Try.underlying22 Try.sizeOf3 (hP 4 74 rfl rfl) (Own.rel hv10_list) (hP 5 75 rfl rfl) hix54 ?_
                            intro g72 o73 cs73 hr73 hat73
                            obtain rfl : _ = [_] := hr73
                            exact L_nil ⟨rfl, (ext_refl _), _, _, rfl, rfl, ⟨_, _, _, rfl, rfl, hat73⟩⟩
                          refine ops_cons (fun f w_ hS hE hP => ?_) ?_
                          ·
                            have hx := ext_trans hx hE
                            obtain ⟨g74, o74, cs74, hv74, hr74, hat74⟩ := (hP 6 76 rfl rfl)
                            obtain rfl : _ = [_] := hr74
                            refine L_ld (v := .int .i64 x_54) rfl Try.isAgg3 hv74 (hat74.cell (j := 0) rfl) ?_
                            exact L_nil ⟨rfl, (ext_refl _), _, _, rfl, rfl, rfl⟩
                          exact ops_nil
                        ·
                          have hv10_list := Own.ext hv10_list hE
                          have hx := ext_trans hx hE
                          refine L_eql (m := x60) (n := x_54) rfl (hT 3 73 rfl rfl) (hT 7 77 rfl rfl) ?_
                          refine L_nil ?_
                          refine W_cond (b := (x60 == x_54)) rfl (fun hc75 => ?_) (fun hc75 => ?_)
                          ·
                            have hB57 := (ite_t hc75).symm.trans hB57
                            refine W_seq ?_
                            refine W_region ?_
                            refine L_as (v := .bool false) rfl rfl ?_
                            refine L_nil ?_
                            refine W_ret ?_
                            obtain rfl := so hB57
                            obtain rfl := so hL57
                            obtain rfl := so hB54
                            obtain rfl := so hL54
                            obtain rfl := so hF
                            refine ret1 Try.results54 ?_
                            exact ⟨rfl, hx⟩
                          ·
                            have hB57 := (ite_f hc75).symm.trans hB57
                            refine W_skip ?_
                            refine W_region ?_
                            refine L_mv (v := .int .i64 (i_56 : Int)) rfl ((hS 10 rfl).trans sf10) ?_
                            refine L_add (m := (i_56 : Int)) (n := 1) rfl rfl rfl ?_
                            refine L_as (v := .int .i64 (i64 ((i_56 : Int) + 1))) rfl rfl ?_
                            refine L_nil ?_
                            obtain rfl := so hB57
                            show ∃ m, m < _ ∧ I57 m _ _
                            refine ⟨rest57, Nat.lt_succ_self _, ?_⟩
                            rw [hI57]
                            exact ⟨i_56 + 1, rest57, rfl, by omega, by omega, hL57, ((hS 5 rfl).trans sf5), ((hS 9 rfl).trans sf9), (Eq.trans rfl (congrArg (Value.int .i64) (i64_succ (n := 0 + k58) (by omega) (cntF_le hk58)))), hv10_list, hx⟩
                    ·
                      cases suf57 with
                      | succ _ => exact absurd (cntF_yes hs57 hl57 hk58) (of_decide_eq_false hc59)
                      | zero =>
                        obtain rfl := count_zero hL57
                        refine W_exit ?_
                        show R57 _ _
                        rw [hR57]
                        exact ⟨rfl, sf5, sf9, hv10_list, hx⟩
                ·
                  intro f w_ hR
                  rw [hR57] at hR
                  obtain ⟨rfl, sf5, sf9, hv10_list, hx⟩ := hR
                  clear hR57
                  refine W_region ?_
                  refine L_mv (v := .int .i64 (i_53 : Int)) rfl sf9 ?_
                  refine L_add (m := (i_53 : Int)) (n := 1) rfl rfl rfl ?_
                  refine L_as (v := .int .i64 (i64 ((i_53 : Int) + 1))) rfl rfl ?_
                  refine L_nil ?_
                  obtain rfl := so hB54
                  show ∃ m, m < _ ∧ I54 m _ _
                  refine ⟨rest54.length, by simp, ?_⟩
                  rw [hI54]
                  exact ⟨i_53 + 1, rest54, rfl, drop_next hd54, by simp at hl54; omega, hL54, sf5, (Eq.trans rfl (congrArg (Value.int .i64) (i64_succ (n := list_10.length) (by simp at hl54; omega) hlen54))), hv10_list, hx⟩
            ·
              cases suf54 with
              | cons _ _ => exact absurd (of_decide_eq_false hc55) (by simp at hl54; omega)
              | nil =>
                obtain rfl := range_nil hL54
                refine W_exit ?_
                show R54 _ _
                rw [hR54]
                exact ⟨rfl, hx⟩
        ·
          intro f w_ hR
          rw [hR54] at hR
          obtain ⟨rfl, hx⟩ := hR
          clear hR54
          refine W_seq ?_
          refine W_region ?_
          refine L_as (v := .bool true) rfl rfl ?_
          refine L_nil ?_
          refine W_ret ?_
          obtain rfl := so hF
          refine ret1 Try.results54 ?_
          exact ⟨rfl, hx⟩
      ·
        have hF := (ite_f hc52).symm.trans hF
        refine W_seq ?_
        refine W_region ?_
        refine L_eql (m := r_.kind) (n := 4) rfl rfl rfl ?_
        refine L_as (v := .bool (r_.kind == 4)) rfl rfl ?_
        refine L_nil ?_
        refine W_cond (b := (r_.kind == 4)) rfl (fun hc76 => ?_) (fun hc76 => ?_)
        ·
          have hF := (ite_t hc76).symm.trans hF
          refine W_seq ?_
          obtain ⟨x77, hx77, hF⟩ := bind_some hF
          obtain ⟨x80, hx80, hF⟩ := bind_some hF
          refine W_drawL 6 [isV (v10_list), isEl B RP.int x77 0, isV (.int .i64 x77), isV (v10_list), isEl B RP.int x80 0, isV (.int .i64 x80)] Try_mix (by kernel_rfl) (am_cons (mono_V _) (am_cons (mono_el _ _ _ _) (am_cons (mono_V _) (am_cons (mono_V _) (am_cons (mono_el _ _ _ _) (am_cons (mono_V _) am_nil)))))) ?_ (fun f w_ hS hE hT => ?_)
          ·
            refine ops_cons (fun f w_ hS hE hP => ?_) ?_
            ·
              have hx := ext_trans hx hE
              have hv10_list := Own.ext hv10_list hE
              refine L_mv (v := v10_list) rfl ((hS 5 rfl).trans sf5) ?_
              exact L_nil ⟨rfl, (ext_refl _), _, _, rfl, rfl, rfl⟩
            refine ops_cons (fun f w_ hS hE hP => ?_) ?_
            ·
              have hx := ext_trans hx hE
              have hv10_list := Own.ext hv10_list hE
              refine L_ix (r := RP.int) rfl Try.underlying22 Try.sizeOf3 (hP 0 81 rfl rfl) (Own.rel hv10_list) rfl hx77 ?_
              intro g87 o88 cs88 hr88 hat88
              obtain rfl : _ = [_] := hr88
              exact L_nil ⟨rfl, (ext_refl _), _, _, rfl, rfl, ⟨_, _, _, rfl, rfl, hat88⟩⟩
            refine ops_cons (fun f w_ hS hE hP => ?_) ?_
            ·
              have hx := ext_trans hx hE
              obtain ⟨g89, o89, cs89, hv89, hr89, hat89⟩ := (hP 1 82 rfl rfl)
              obtain rfl : _ = [_] := hr89
              refine L_ld (v := .int .i64 x77) rfl Try.isAgg3 hv89 (hat89.cell (j := 0) rfl) ?_
              exact L_nil ⟨rfl, (ext_refl _), _, _, rfl, rfl, rfl⟩
            refine ops_cons (fun f w_ hS hE hP => ?_) ?_
            ·
              have hx := ext_trans hx hE
              have hv10_list := Own.ext hv10_list hE
              refine L_mv (v := v10_list) rfl ((hS 5 rfl).trans sf5) ?_
              exact L_nil ⟨rfl, (ext_refl _), _, _, rfl, rfl, rfl⟩
            refine ops_cons (fun f w_ hS hE hP => ?_) ?_
            ·
              have hx := ext_trans hx hE
              have hv10_list := Own.ext hv10_list hE
              refine L_ix (r := RP.int) rfl Try.underlying22 Try.sizeOf3 (hP 3 84 rfl rfl) (Own.rel hv10_list) rfl hx80 ?_
              intro g90 o91 cs91 hr91 hat91
              obtain rfl : _ = [_] := hr91
              exact L_nil ⟨rfl, (ext_refl _), _, _, rfl, rfl, ⟨_, _, _, rfl, rfl, hat91⟩⟩
            refine ops_cons (fun f w_ hS hE hP => ?_) ?_
            ·
              have hx := ext_trans hx hE
              obtain ⟨g92, o92, cs92, hv92, hr92, hat92⟩ := (hP 4 85 rfl rfl)
              obtain rfl : _ = [_] := hr92
              refine L_ld (v := .int .i64 x80) rfl Try.isAgg3 hv92 (hat92.cell (j := 0) rfl) ?_
              exact L_nil ⟨rfl, (ext_refl _), _, _, rfl, rfl, rfl⟩
            exact ops_nil
          ·
            have hv10_list := Own.ext hv10_list hE
            have h0_1 := RP.ext h0_1 hE
            have h0_2 := RP.ext h0_2 hE
            have h0_4 := RP.ext h0_4 hE
            have hb_g3 := Blk.ext hb_g3 hE
            have hx := ext_trans hx hE
            refine L_lss (m := x77) (n := x80) rfl (hT 2 83 rfl rfl) (hT 5 86 rfl rfl) ?_
            refine L_as (v := .bool (decide (x77 < x80))) rfl rfl ?_
            refine L_nil ?_
            refine W_ret ?_
            obtain rfl := so hF
            refine ret1 Try.results54 ?_
            exact ⟨rfl, hx⟩
        ·
          have hF := (ite_f hc76).symm.trans hF
          refine W_skip ?_
          refine W_seq ?_
          refine W_seq ?_
          refine W_region ?_
          refine L_as (v := .int .i64 0) rfl rfl ?_
          refine L_nil ?_
          have hlen94 := len_le h0_4
          obtain ⟨j94, hL94, hF⟩ := bind_some hF
          obtain ⟨R94, hR94⟩ : ∃ R : Fr → World → Prop, R = fun f w_ => j94 = .nx () ∧ Ext w w_ := ⟨_, rfl⟩
          refine W_join R94 ?_ ?_
          ·
            refine W_block ?_
            obtain ⟨I94, hI94⟩ : ∃ I : Nat → Fr → World → Prop, I = fun n f w_ => ∃ i_93 : Nat, ∃ suf94 : List (List Int), n = suf94.length ∧ List.drop i_93 r_.rows = suf94 ∧ i_93 + suf94.length = r_.rows.length ∧ rangeL (s_l6Holds_b5 list_10) suf94 i_93 () = some j94 ∧ f 2 = .pointer (some ⟨g3, 0, none⟩) ∧ f 5 = v10_list ∧ f 11 = .int .i64 (i_93 : Int) ∧ Own RP.int 3 w.heap.size B w_ v10_list list_10 ∧ (RP.slice 3 RP.int).rel B w.heap.size w_ [v0_1] r_.vars ∧ (RP.slice 3 RP.int).rel B w.heap.size w_ [v0_2] r_.coefs ∧ (RP.slice 22 (RP.slice 3 RP.int)).rel B w.heap.size w_ [v0_4] r_.rows ∧ Blk w_ g3 68 #[.int .i64 r_.kind, v0_1, v0_2, .int .i64 r_.bound, v0_4] ∧ Ext w w_ := ⟨_, rfl⟩
            refine W_loop I94 (n := r_.rows.length) ?_ ?_
            · rw [hI94]; exact ⟨0, r_.rows, rfl, rfl, Nat.zero_add _, hL94, sf2, sf5, rfl, hv10_list, h0_1, h0_2, h0_4, hb_g3, hx⟩
            ·
              intro n94 f w_ hI
              rw [hI94] at hI
              obtain ⟨i_93, suf94, rfl, hd94, hl94, hL94, sf2, sf5, sf11, hv10_list, h0_1, h0_2, h0_4, hb_g3, hx⟩ := hI
              refine W_seq ?_
              refine W_seq ?_
              refine W_region ?_
              refine L_mv (v := .int .i64 (i_93 : Int)) rfl sf11 ?_
              refine L_fa (o' := 4) rfl fa_68_4 sf2 rfl ?_
              refine L_ld (v := v0_4) rfl Try.isAgg66 rfl (hb_g3.cell (j := 4) rfl) ?_
              refine L_len (v := v0_4) rfl Try.underlying66 rfl h0_4 ?_
              refine L_lss (m := (i_93 : Int)) (n := (r_.rows.length : Int)) rfl rfl rfl ?_
              refine L_nil ?_
              refine W_cond (b := decide ((i_93 : Int) < (r_.rows.length : Int))) rfl (fun hc95 => ?_) (fun hc95 => ?_)
              ·
                have hlt94 := of_decide_eq_true hc95
                cases suf94 with
                | nil => exact absurd hlt94 (by simp at hl94; omega)
                | cons x_94 rest94 =>
                  obtain ⟨o94, hB94, hL94⟩ := range_cons hL94
                  rw [s_l6Holds_b5] at hB94
                  have hix94 := drop_idx hd94
                  refine W_skip ?_
                  refine W_seq ?_
                  refine W_block ?_
                  refine W_seq ?_
                  obtain ⟨x98, hx98, hB94⟩ := bind_some hB94
                  refine W_region ?_
                  refine L_fa (o' := 4) rfl fa_68_4 sf2 rfl ?_
                  refine L_ld (v := v0_4) rfl Try.isAgg66 rfl (hb_g3.cell (j := 4) rfl) ?_
                  refine L_mv (v := .int .i64 (i_93 : Int)) rfl sf11 ?_
                  refine L_ix (r := (RP.slice 3 RP.int)) rfl Try.underlying66 Try.sizeOf22 rfl h0_4 rfl hix94 ?_
                  intro g100 o101 cs101 hr101 hat101
                  obtain ⟨u101, rfl, hu101⟩ := slice1 hr101
                  refine L_ld (v := u101) rfl Try.isAgg22 rfl (hat101.cell (j := 0) rfl) ?_
                  refine L_mv (v := v10_list) rfl sf5 ?_
                  refine L_call (args := #[u101, v10_list]) rfl Try.call73 (ops2 rfl rfl) (s_l6Ints_c (a := x_94) (b := list_10) (Nat.le_trans hB hx.size) (rel0 hu101) (rel0 (Own.rel hv10_list)) hx98) ?_
                  rintro _ w102 ⟨rfl, he102⟩
                  have hv10_list := Own.ext hv10_list he102
                  have h0_1 := RP.ext h0_1 he102
                  have h0_2 := RP.ext h0_2 he102
                  have h0_4 := RP.ext h0_4 he102
                  have hb_g3 := Blk.ext hb_g3 he102
                  have hu101 := RP.ext hu101 he102
                  have hx := ext_trans hx he102
                  refine L_nil ?_
                  refine W_cond (b := x98) rfl (fun hc103 => ?_) (fun hc103 => ?_)
                  ·
                    have hB94 := (ite_t hc103).symm.trans hB94
                    refine W_seq ?_
                    refine W_region ?_
                    refine L_as (v := .bool true) rfl rfl ?_
                    refine L_nil ?_
                    refine W_ret ?_
                    obtain rfl := so hB94
                    obtain rfl := so hL94
                    obtain rfl := so hF
                    refine ret1 Try.results54 ?_
                    exact ⟨rfl, hx⟩
                  ·
                    have hB94 := (ite_f hc103).symm.trans hB94
                    refine W_skip ?_
                    refine W_region ?_
                    refine L_mv (v := .int .i64 (i_93 : Int)) rfl sf11 ?_
                    refine L_add (m := (i_93 : Int)) (n := 1) rfl rfl rfl ?_
                    refine L_as (v := .int .i64 (i64 ((i_93 : Int) + 1))) rfl rfl ?_
                    refine L_nil ?_
                    obtain rfl := so hB94
                    show ∃ m, m < _ ∧ I94 m _ _
                    refine ⟨rest94.length, by simp, ?_⟩
                    rw [hI94]
                    exact ⟨i_93 + 1, rest94, rfl, drop_next hd94, by simp at hl94; omega, hL94, sf2, sf5, (Eq.trans rfl (congrArg (Value.int .i64) (i64_succ (n := r_.rows.length) (by simp at hl94; omega) hlen94))), hv10_list, h0_1, h0_2, h0_4, hb_g3, hx⟩
              ·
                cases suf94 with
                | cons _ _ => exact absurd (of_decide_eq_false hc95) (by simp at hl94; omega)
                | nil =>
                  obtain rfl := range_nil hL94
                  refine W_exit ?_
                  show R94 _ _
                  rw [hR94]
                  exact ⟨rfl, hx⟩
          ·
            intro f w_ hR
            rw [hR94] at hR
            obtain ⟨rfl, hx⟩ := hR
            clear hR94
            refine W_seq ?_
            refine W_region ?_
            refine L_as (v := .bool false) rfl rfl ?_
            refine L_nil ?_
            refine W_ret ?_
            obtain rfl := so hF
            refine ret1 Try.results54 ?_
            exact ⟨rfl, hx⟩

theorem s_RuleHolds_c {fu : Nat} {m : Model} {rule : Int} {cells : List Int} {v0_0 : Value} {v0_1 : Value} {v2 : Value} {w : World} {B : Nat} (hB : B ≤ w.heap.size) (h0_0 : (RP.slice 3 RP.int).rel B w.heap.size w [v0_0] m.sizes) (h0_1 : (RP.slice 68 (rRule 3 22)).rel B w.heap.size w [v0_1] m.rules) (h2 : (RP.slice 3 RP.int).rel B w.heap.size w [v2] cells) {r : Bool} (hF : s_RuleHolds fu m rule cells = some r) :
    C Try.prog 23 #[.agg #[v0_0, v0_1], .int .i64 rule, v2] w fun v w' => (v = .bool r) ∧ Ext w w' := by
  unfold s_RuleHolds at hF
  have hx := ext_refl w
  refine C_enter Try.func23 rfl Try.ntmps23 rfl ?_
  refine W_seq ?_
  refine W_region ?_
  refine L_box (v := .agg #[v0_0, v0_1]) (cs := #[v0_0, v0_1]) rfl rfl rfl ?_
  intro g3 w4 hn4
  have hge_g3 := hn4.ge hx
  have hb_g3 := hn4.blk
  have h0_0 := RP.ext h0_0 hn4.ext
  have h0_1 := RP.ext h0_1 hn4.ext
  have h2 := RP.ext h2 hn4.ext
  have hx := ext_trans hx hn4.ext
  refine L_as (v := .bool false) rfl rfl ?_
  refine L_nil ?_
  refine W_seq ?_
  obtain ⟨x5, hx5, hF⟩ := bind_some hF
  obtain ⟨b12, hb12, hF⟩ := bind_some hF
  obtain ⟨R13, hR13⟩ : ∃ R : Fr → World → Prop, R = fun f w_ => f 6 = .bool b12 ∧ Ext w w_ := ⟨_, rfl⟩
  refine W_join R13 ?_ ?_
  ·
    refine W_region ?_
    refine L_lda (cs := [v0_0, v0_1]) rfl Try.isAgg30 Try.sizeOf30 rfl (Blk.sub hb_g3 0 2) rfl ?_
    refine L_mv (v := v2) rfl rfl ?_
    refine L_call (args := #[.agg #[v0_0, v0_1], v2]) rfl Try.call53 (ops2 rfl rfl) (s_CellsValid_c (m := m) (cells := cells) (Nat.le_trans hB hx.size) (rel0 h0_0) (rel0 h0_1) (rel0 h2) hx5) ?_
    rintro _ w14 ⟨rfl, he14⟩
    have h0_0 := RP.ext h0_0 he14
    have h0_1 := RP.ext h0_1 he14
    have h2 := RP.ext h2 he14
    have hb_g3 := Blk.ext hb_g3 he14
    have hx := ext_trans hx he14
    refine L_mv (v := .bool x5) rfl rfl ?_
    refine L_split (d := 10) (b := x5) rfl (fun hc15 => ?_) (fun hc15 => ?_)
    ·
      refine L_mv (v := .int .i64 rule) rfl rfl ?_
      refine L_geq (m := rule) (n := 0) rfl rfl rfl ?_
      refine L_pick (v := .bool (x5 && (decide (rule ≥ 0)))) rfl rfl (and_t hc15 rfl) ?_
      refine L_mv (v := .bool (x5 && (decide (rule ≥ 0)))) rfl rfl ?_
      refine L_split (d := 14) (b := (x5 && (decide (rule ≥ 0)))) rfl (fun hc16 => ?_) (fun hc16 => ?_)
      ·
        refine L_mv (v := .int .i64 rule) rfl rfl ?_
        refine L_fa (o' := 1) rfl fa_30_1 rfl rfl ?_
        refine L_ld (v := v0_1) rfl Try.isAgg28 rfl (hb_g3.cell (j := 1) rfl) ?_
        refine L_len (v := v0_1) rfl Try.underlying28 rfl h0_1 ?_
        refine L_lss (m := rule) (n := (m.rules.length : Int)) rfl rfl rfl ?_
        refine L_pick (v := .bool ((x5 && (decide (rule ≥ 0))) && (decide (rule < (m.rules.length : Int))))) rfl rfl (and_t hc16 rfl) ?_
        refine L_mv (v := .bool ((x5 && (decide (rule ≥ 0))) && (decide (rule < (m.rules.length : Int))))) rfl rfl ?_
        refine L_split (d := 21) (b := ((x5 && (decide (rule ≥ 0))) && (decide (rule < (m.rules.length : Int))))) rfl (fun hc17 => ?_) (fun hc17 => ?_)
        ·
          rw [ite_t hc17] at hb12
          obtain ⟨x7, hx7, hb12⟩ := bind_some hb12
          obtain ⟨x10, hx10, hb12⟩ := bind_some hb12
          refine L_fa (o' := 1) rfl fa_30_1 rfl rfl ?_
          refine L_ld (v := v0_1) rfl Try.isAgg28 rfl (hb_g3.cell (j := 1) rfl) ?_
          refine L_mv (v := .int .i64 rule) rfl rfl ?_
          refine L_ix (r := (rRule 3 22)) rfl Try.underlying28 Try.sizeOf68 rfl h0_1 rfl hx7 ?_
          intro g18 o19 cs19 hr19 hat19
          obtain ⟨u19_0, u19_1, u19_2, rfl, hu19_0, hu19_1, hu19_2⟩ := rRule_iff.1 hr19
          refine L_lda (cs := [.int .i64 x7.kind, u19_0, u19_1, .int .i64 x7.bound, u19_2]) rfl Try.isAgg68 Try.sizeOf68 rfl (At.sub hat19 0 5) rfl ?_
          refine L_mv (v := v2) rfl rfl ?_
          refine L_call (args := #[.agg #[.int .i64 x7.kind, u19_0, u19_1, .int .i64 x7.bound, u19_2], v2]) rfl Try.call54 (ops2 rfl rfl) (s_l6Holds_c (r_ := x7) (cells := cells) (Nat.le_trans hB hx.size) (rel0 hu19_0) (rel0 hu19_1) (rel0 hu19_2) (rel0 h2) hx10) ?_
          rintro _ w20 ⟨rfl, he20⟩
          have h2 := RP.ext h2 he20
          have hu19_0 := RP.ext hu19_0 he20
          have hu19_1 := RP.ext hu19_1 he20
          have hu19_2 := RP.ext hu19_2 he20
          have hx := ext_trans hx he20
          refine L_pick (v := .bool b12) rfl rfl (congrArg Value.bool (so hb12)) ?_
          refine L_as (v := .bool b12) rfl rfl ?_
          refine L_nil ?_
          show R13 _ _
          rw [hR13]
          exact ⟨rfl, hx⟩
        ·
          rw [ite_f hc17] at hb12
          refine L_pass rfl ?_
          refine L_pass rfl ?_
          refine L_pass rfl ?_
          refine L_pass rfl ?_
          refine L_pass rfl ?_
          refine L_pass rfl ?_
          refine L_pass rfl ?_
          refine L_pick (v := .bool b12) rfl rfl (congrArg Value.bool (so hb12)) ?_
          refine L_as (v := .bool b12) rfl rfl ?_
          refine L_nil ?_
          show R13 _ _
          rw [hR13]
          exact ⟨rfl, hx⟩
      ·
        refine L_pass rfl ?_
        refine L_pass rfl ?_
        refine L_pass rfl ?_
        refine L_pass rfl ?_
        refine L_pass rfl ?_
        refine L_pick (v := .bool ((x5 && (decide (rule ≥ 0))) && (decide (rule < (m.rules.length : Int))))) rfl rfl (and_f hc16) ?_
        refine L_mv (v := .bool ((x5 && (decide (rule ≥ 0))) && (decide (rule < (m.rules.length : Int))))) rfl rfl ?_
        refine L_split (d := 21) (b := ((x5 && (decide (rule ≥ 0))) && (decide (rule < (m.rules.length : Int))))) rfl (fun hc21 => ?_) (fun hc21 => ?_)
        ·
          rw [ite_t hc21] at hb12
          obtain ⟨x7, hx7, hb12⟩ := bind_some hb12
          obtain ⟨x10, hx10, hb12⟩ := bind_some hb12
          refine L_fa (o' := 1) rfl fa_30_1 rfl rfl ?_
          refine L_ld (v := v0_1) rfl Try.isAgg28 rfl (hb_g3.cell (j := 1) rfl) ?_
          refine L_mv (v := .int .i64 rule) rfl rfl ?_
          refine L_ix (r := (rRule 3 22)) rfl Try.underlying28 Try.sizeOf68 rfl h0_1 rfl hx7 ?_
          intro g22 o23 cs23 hr23 hat23
          obtain ⟨u23_0, u23_1, u23_2, rfl, hu23_0, hu23_1, hu23_2⟩ := rRule_iff.1 hr23
          refine L_lda (cs := [.int .i64 x7.kind, u23_0, u23_1, .int .i64 x7.bound, u23_2]) rfl Try.isAgg68 Try.sizeOf68 rfl (At.sub hat23 0 5) rfl ?_
          refine L_mv (v := v2) rfl rfl ?_
          refine L_call (args := #[.agg #[.int .i64 x7.kind, u23_0, u23_1, .int .i64 x7.bound, u23_2], v2]) rfl Try.call54 (ops2 rfl rfl) (s_l6Holds_c (r_ := x7) (cells := cells) (Nat.le_trans hB hx.size) (rel0 hu23_0) (rel0 hu23_1) (rel0 hu23_2) (rel0 h2) hx10) ?_
          rintro _ w24 ⟨rfl, he24⟩
          have h2 := RP.ext h2 he24
          have hu23_0 := RP.ext hu23_0 he24
          have hu23_1 := RP.ext hu23_1 he24
          have hu23_2 := RP.ext hu23_2 he24
          have hx := ext_trans hx he24
          refine L_pick (v := .bool b12) rfl rfl (congrArg Value.bool (so hb12)) ?_
          refine L_as (v := .bool b12) rfl rfl ?_
          refine L_nil ?_
          show R13 _ _
          rw [hR13]
          exact ⟨rfl, hx⟩
        ·
          rw [ite_f hc21] at hb12
          refine L_pass rfl ?_
          refine L_pass rfl ?_
          refine L_pass rfl ?_
          refine L_pass rfl ?_
          refine L_pass rfl ?_
          refine L_pass rfl ?_
          refine L_pass rfl ?_
          refine L_pick (v := .bool b12) rfl rfl (congrArg Value.bool (so hb12)) ?_
          refine L_as (v := .bool b12) rfl rfl ?_
          refine L_nil ?_
          show R13 _ _
          rw [hR13]
          exact ⟨rfl, hx⟩
    ·
      refine L_pass rfl ?_
      refine L_pass rfl ?_
      refine L_pick (v := .bool (x5 && (decide (rule ≥ 0)))) rfl rfl (and_f hc15) ?_
      refine L_mv (v := .bool (x5 && (decide (rule ≥ 0)))) rfl rfl ?_
      refine L_split (d := 14) (b := (x5 && (decide (rule ≥ 0)))) rfl (fun hc25 => ?_) (fun hc25 => ?_)
      ·
        refine L_mv (v := .int .i64 rule) rfl rfl ?_
        refine L_fa (o' := 1) rfl fa_30_1 rfl rfl ?_
        refine L_ld (v := v0_1) rfl Try.isAgg28 rfl (hb_g3.cell (j := 1) rfl) ?_
        refine L_len (v := v0_1) rfl Try.underlying28 rfl h0_1 ?_
        refine L_lss (m := rule) (n := (m.rules.length : Int)) rfl rfl rfl ?_
        refine L_pick (v := .bool ((x5 && (decide (rule ≥ 0))) && (decide (rule < (m.rules.length : Int))))) rfl rfl (and_t hc25 rfl) ?_
        refine L_mv (v := .bool ((x5 && (decide (rule ≥ 0))) && (decide (rule < (m.rules.length : Int))))) rfl rfl ?_
        refine L_split (d := 21) (b := ((x5 && (decide (rule ≥ 0))) && (decide (rule < (m.rules.length : Int))))) rfl (fun hc26 => ?_) (fun hc26 => ?_)
        ·
          rw [ite_t hc26] at hb12
          obtain ⟨x7, hx7, hb12⟩ := bind_some hb12
          obtain ⟨x10, hx10, hb12⟩ := bind_some hb12
          refine L_fa (o' := 1) rfl fa_30_1 rfl rfl ?_
          refine L_ld (v := v0_1) rfl Try.isAgg28 rfl (hb_g3.cell (j := 1) rfl) ?_
          refine L_mv (v := .int .i64 rule) rfl rfl ?_
          refine L_ix (r := (rRule 3 22)) rfl Try.underlying28 Try.sizeOf68 rfl h0_1 rfl hx7 ?_
          intro g27 o28 cs28 hr28 hat28
          obtain ⟨u28_0, u28_1, u28_2, rfl, hu28_0, hu28_1, hu28_2⟩ := rRule_iff.1 hr28
          refine L_lda (cs := [.int .i64 x7.kind, u28_0, u28_1, .int .i64 x7.bound, u28_2]) rfl Try.isAgg68 Try.sizeOf68 rfl (At.sub hat28 0 5) rfl ?_
          refine L_mv (v := v2) rfl rfl ?_
          refine L_call (args := #[.agg #[.int .i64 x7.kind, u28_0, u28_1, .int .i64 x7.bound, u28_2], v2]) rfl Try.call54 (ops2 rfl rfl) (s_l6Holds_c (r_ := x7) (cells := cells) (Nat.le_trans hB hx.size) (rel0 hu28_0) (rel0 hu28_1) (rel0 hu28_2) (rel0 h2) hx10) ?_
          rintro _ w29 ⟨rfl, he29⟩
          have h2 := RP.ext h2 he29
          have hu28_0 := RP.ext hu28_0 he29
          have hu28_1 := RP.ext hu28_1 he29
          have hu28_2 := RP.ext hu28_2 he29
          have hx := ext_trans hx he29
          refine L_pick (v := .bool b12) rfl rfl (congrArg Value.bool (so hb12)) ?_
          refine L_as (v := .bool b12) rfl rfl ?_
          refine L_nil ?_
          show R13 _ _
          rw [hR13]
          exact ⟨rfl, hx⟩
        ·
          rw [ite_f hc26] at hb12
          refine L_pass rfl ?_
          refine L_pass rfl ?_
          refine L_pass rfl ?_
          refine L_pass rfl ?_
          refine L_pass rfl ?_
          refine L_pass rfl ?_
          refine L_pass rfl ?_
          refine L_pick (v := .bool b12) rfl rfl (congrArg Value.bool (so hb12)) ?_
          refine L_as (v := .bool b12) rfl rfl ?_
          refine L_nil ?_
          show R13 _ _
          rw [hR13]
          exact ⟨rfl, hx⟩
      ·
        refine L_pass rfl ?_
        refine L_pass rfl ?_
        refine L_pass rfl ?_
        refine L_pass rfl ?_
        refine L_pass rfl ?_
        refine L_pick (v := .bool ((x5 && (decide (rule ≥ 0))) && (decide (rule < (m.rules.length : Int))))) rfl rfl (and_f hc25) ?_
        refine L_mv (v := .bool ((x5 && (decide (rule ≥ 0))) && (decide (rule < (m.rules.length : Int))))) rfl rfl ?_
        refine L_split (d := 21) (b := ((x5 && (decide (rule ≥ 0))) && (decide (rule < (m.rules.length : Int))))) rfl (fun hc30 => ?_) (fun hc30 => ?_)
        ·
          rw [ite_t hc30] at hb12
          obtain ⟨x7, hx7, hb12⟩ := bind_some hb12
          obtain ⟨x10, hx10, hb12⟩ := bind_some hb12
          refine L_fa (o' := 1) rfl fa_30_1 rfl rfl ?_
          refine L_ld (v := v0_1) rfl Try.isAgg28 rfl (hb_g3.cell (j := 1) rfl) ?_
          refine L_mv (v := .int .i64 rule) rfl rfl ?_
          refine L_ix (r := (rRule 3 22)) rfl Try.underlying28 Try.sizeOf68 rfl h0_1 rfl hx7 ?_
          intro g31 o32 cs32 hr32 hat32
          obtain ⟨u32_0, u32_1, u32_2, rfl, hu32_0, hu32_1, hu32_2⟩ := rRule_iff.1 hr32
          refine L_lda (cs := [.int .i64 x7.kind, u32_0, u32_1, .int .i64 x7.bound, u32_2]) rfl Try.isAgg68 Try.sizeOf68 rfl (At.sub hat32 0 5) rfl ?_
          refine L_mv (v := v2) rfl rfl ?_
          refine L_call (args := #[.agg #[.int .i64 x7.kind, u32_0, u32_1, .int .i64 x7.bound, u32_2], v2]) rfl Try.call54 (ops2 rfl rfl) (s_l6Holds_c (r_ := x7) (cells := cells) (Nat.le_trans hB hx.size) (rel0 hu32_0) (rel0 hu32_1) (rel0 hu32_2) (rel0 h2) hx10) ?_
          rintro _ w33 ⟨rfl, he33⟩
          have h2 := RP.ext h2 he33
          have hu32_0 := RP.ext hu32_0 he33
          have hu32_1 := RP.ext hu32_1 he33
          have hu32_2 := RP.ext hu32_2 he33
          have hx := ext_trans hx he33
          refine L_pick (v := .bool b12) rfl rfl (congrArg Value.bool (so hb12)) ?_
          refine L_as (v := .bool b12) rfl rfl ?_
          refine L_nil ?_
          show R13 _ _
          rw [hR13]
          exact ⟨rfl, hx⟩
        ·
          rw [ite_f hc30] at hb12
          refine L_pass rfl ?_
          refine L_pass rfl ?_
          refine L_pass rfl ?_
          refine L_pass rfl ?_
          refine L_pass rfl ?_
          refine L_pass rfl ?_
          refine L_pass rfl ?_
          refine L_pick (v := .bool b12) rfl rfl (congrArg Value.bool (so hb12)) ?_
          refine L_as (v := .bool b12) rfl rfl ?_
          refine L_nil ?_
          show R13 _ _
          rw [hR13]
          exact ⟨rfl, hx⟩
  ·
    intro f w_ hR
    rw [hR13] at hR
    obtain ⟨sf6, hx⟩ := hR
    clear hR13
    refine W_ret ?_
    obtain rfl := so hF
    refine ret1 Try.results23 ?_
    exact ⟨sf6, hx⟩

theorem i_CellsValid_c {m : Model} {cells : List Int} {v0_0 : Value} {v0_1 : Value} {v1 : Value} {w : World} {B : Nat} (hB : B ≤ w.heap.size) (h0_0 : (RP.slice 3 RP.int).rel B w.heap.size w [v0_0] m.sizes) (h0_1 : (RP.slice 68 (rRule 3 22)).rel B w.heap.size w [v0_1] m.rules) (h1 : (RP.slice 3 RP.int).rel B w.heap.size w [v1] cells) {r : Bool} (hF : i_CellsValid m cells = some r) :
    C Try.prog 55 #[.agg #[v0_0, v0_1], v1] w fun v w' => (v = .bool r) ∧ Ext w w' := by
  unfold i_CellsValid at hF
  have hx := ext_refl w
  refine C_enter Try.func55 rfl Try.ntmps55 rfl ?_
  refine W_seq ?_
  refine W_region ?_
  refine L_box (v := .agg #[v0_0, v0_1]) (cs := #[v0_0, v0_1]) rfl rfl rfl ?_
  intro g3 w4 hn4
  have hge_g3 := hn4.ge hx
  have hb_g3 := hn4.blk
  have h0_0 := RP.ext h0_0 hn4.ext
  have h0_1 := RP.ext h0_1 hn4.ext
  have h1 := RP.ext h1 hn4.ext
  have hx := ext_trans hx hn4.ext
  refine L_as (v := .bool false) rfl rfl ?_
  refine L_nil ?_
  refine W_seq ?_
  refine W_seq ?_
  obtain ⟨x5, hx5, hF⟩ := bind_some hF
  obtain ⟨R7, hR7⟩ : ∃ R : Fr → World → Prop, R = fun f w_ => f 1 = v1 ∧ f 2 = .pointer (some ⟨g3, 0, none⟩) ∧ f 17 = .bool ((!x5) || ((cells.length : Int) != (m.sizes.length : Int))) ∧ (RP.slice 3 RP.int).rel B w.heap.size w_ [v1] cells ∧ (RP.slice 3 RP.int).rel B w.heap.size w_ [v0_0] m.sizes ∧ (RP.slice 68 (rRule 3 22)).rel B w.heap.size w_ [v0_1] m.rules ∧ Blk w_ g3 30 #[v0_0, v0_1] ∧ Ext w w_ := ⟨_, rfl⟩
  refine W_join R7 ?_ ?_
  ·
    refine W_region ?_
    refine L_lda (cs := [v0_0, v0_1]) rfl Try.isAgg30 Try.sizeOf30 rfl (Blk.sub hb_g3 0 2) rfl ?_
    refine L_call (args := #[.agg #[v0_0, v0_1]]) rfl Try.call47 (ops1 rfl) (i_ModelValid_c (m := m) (Nat.le_trans hB hx.size) (rel0 h0_0) (rel0 h0_1) hx5) ?_
    rintro _ w8 ⟨rfl, he8⟩
    have h0_0 := RP.ext h0_0 he8
    have h0_1 := RP.ext h0_1 he8
    have h1 := RP.ext h1 he8
    have hb_g3 := Blk.ext hb_g3 he8
    have hx := ext_trans hx he8
    refine L_not_ (b := x5) rfl rfl ?_
    refine L_mv (v := .bool (!x5)) rfl rfl ?_
    refine L_split (d := 10) (b := (!x5)) rfl (fun hc9 => ?_) (fun hc9 => ?_)
    ·
      refine L_pass rfl ?_
      refine L_pass rfl ?_
      refine L_pass rfl ?_
      refine L_pass rfl ?_
      refine L_pass rfl ?_
      refine L_pass rfl ?_
      refine L_pick (v := .bool ((!x5) || ((cells.length : Int) != (m.sizes.length : Int)))) rfl rfl (or_t hc9) ?_
      refine L_nil ?_
      show R7 _ _
      rw [hR7]
      exact ⟨rfl, rfl, rfl, h1, h0_0, h0_1, hb_g3, hx⟩
    ·
      refine L_mv (v := v1) rfl rfl ?_
      refine L_len (v := v1) rfl Try.underlying22 rfl h1 ?_
      refine L_fa (o' := 0) rfl fa_30_0 rfl rfl ?_
      refine L_ld (v := v0_0) rfl Try.isAgg22 rfl (hb_g3.cell (j := 0) rfl) ?_
      refine L_len (v := v0_0) rfl Try.underlying22 rfl h0_0 ?_
      refine L_neq (m := (cells.length : Int)) (n := (m.sizes.length : Int)) rfl rfl rfl ?_
      refine L_pick (v := .bool ((!x5) || ((cells.length : Int) != (m.sizes.length : Int)))) rfl rfl (or_f hc9 rfl) ?_
      refine L_nil ?_
      show R7 _ _
      rw [hR7]
      exact ⟨rfl, rfl, rfl, h1, h0_0, h0_1, hb_g3, hx⟩
  ·
    intro f w_ hR
    rw [hR7] at hR
    obtain ⟨sf1, sf2, sf17, h1, h0_0, h0_1, hb_g3, hx⟩ := hR
    clear hR7
    refine W_cond (b := ((!x5) || ((cells.length : Int) != (m.sizes.length : Int)))) sf17 (fun hc10 => ?_) (fun hc10 => ?_)
    ·
      have hF := (ite_t hc10).symm.trans hF
      refine W_seq ?_
      refine W_region ?_
      refine L_as (v := .bool false) rfl rfl ?_
      refine L_nil ?_
      refine W_ret ?_
      obtain rfl := so hF
      refine ret1 Try.results55 ?_
      exact ⟨rfl, hx⟩
    ·
      have hF := (ite_f hc10).symm.trans hF
      refine W_skip ?_
      refine W_seq ?_
      refine W_seq ?_
      refine W_region ?_
      refine L_mv (v := v1) rfl sf1 ?_
      refine L_len (v := v1) rfl Try.underlying22 rfl h1 ?_
      refine L_mv (v := .int .i64 0) rfl rfl ?_
      refine L_nil ?_
      have hlen12 := len_le h1
      obtain ⟨j12, hL12, hF⟩ := bind_some hF
      obtain ⟨R12, hR12⟩ : ∃ R : Fr → World → Prop, R = fun f w_ => j12 = .nx () ∧ Ext w w_ := ⟨_, rfl⟩
      refine W_join R12 ?_ ?_
      ·
        refine W_block ?_
        obtain ⟨I12, hI12⟩ : ∃ I : Nat → Fr → World → Prop, I = fun n f w_ => ∃ i_11 : Nat, ∃ suf12 : List Int, n = suf12.length ∧ List.drop i_11 cells = suf12 ∧ i_11 + suf12.length = cells.length ∧ rangeL (i_CellsValid_b1 m) suf12 i_11 () = some j12 ∧ f 2 = .pointer (some ⟨g3, 0, none⟩) ∧ f 18 = v1 ∧ f 19 = .int .i64 (cells.length : Int) ∧ f 20 = .int .i64 (i_11 : Int) ∧ (RP.slice 3 RP.int).rel B w.heap.size w_ [v1] cells ∧ (RP.slice 3 RP.int).rel B w.heap.size w_ [v0_0] m.sizes ∧ (RP.slice 68 (rRule 3 22)).rel B w.heap.size w_ [v0_1] m.rules ∧ Blk w_ g3 30 #[v0_0, v0_1] ∧ Ext w w_ := ⟨_, rfl⟩
        refine W_loop I12 (n := cells.length) ?_ ?_
        · rw [hI12]; exact ⟨0, cells, rfl, rfl, Nat.zero_add _, hL12, sf2, rfl, rfl, rfl, h1, h0_0, h0_1, hb_g3, hx⟩
        ·
          intro n12 f w_ hI
          rw [hI12] at hI
          obtain ⟨i_11, suf12, rfl, hd12, hl12, hL12, sf2, sf18, sf19, sf20, h1, h0_0, h0_1, hb_g3, hx⟩ := hI
          refine W_seq ?_
          refine W_region ?_
          refine L_lss (m := (i_11 : Int)) (n := (cells.length : Int)) rfl sf20 sf19 ?_
          refine L_nil ?_
          refine W_seq ?_
          refine W_cond (b := decide ((i_11 : Int) < (cells.length : Int))) rfl (fun hc13 => ?_) (fun hc13 => ?_)
          ·
            have hlt12 := of_decide_eq_true hc13
            cases suf12 with
            | nil => exact absurd hlt12 (by simp at hl12; omega)
            | cons x_12 rest12 =>
              obtain ⟨o12, hB12, hL12⟩ := range_cons hL12
              rw [i_CellsValid_b1] at hB12
              have hix12 := drop_idx hd12
              refine W_skip ?_
              refine W_seq ?_
              refine W_block ?_
              refine W_seq ?_
              refine W_region ?_
              refine L_mv (v := .int .i64 (i_11 : Int)) rfl sf20 ?_
              refine L_ix (r := RP.int) rfl Try.underlying22 Try.sizeOf3 sf18 h1 sf20 hix12 ?_
              intro g16 o17 cs17 hr17 hat17
              obtain rfl : _ = [_] := hr17
              refine L_ld (v := .int .i64 x_12) rfl Try.isAgg3 rfl (hat17.cell (j := 0) rfl) ?_
              refine L_as (v := .int .i64 (i_11 : Int)) rfl rfl ?_
              refine L_as (v := .int .i64 x_12) rfl rfl ?_
              refine L_nil ?_
              refine W_seq ?_
              obtain ⟨x18, hx18, hB12⟩ := bind_some hB12
              obtain ⟨x21, hx21, hB12⟩ := bind_some hB12
              refine W_region ?_
              refine L_mv (v := .int .i64 x_12) rfl rfl ?_
              refine L_fa (o' := 0) rfl fa_30_0 sf2 rfl ?_
              refine L_ld (v := v0_0) rfl Try.isAgg22 rfl (hb_g3.cell (j := 0) rfl) ?_
              refine L_mv (v := .int .i64 (i_11 : Int)) rfl rfl ?_
              refine L_ix (r := RP.int) rfl Try.underlying22 Try.sizeOf3 rfl h0_0 rfl hx18 ?_
              intro g23 o24 cs24 hr24 hat24
              obtain rfl : _ = [_] := hr24
              refine L_ld (v := .int .i64 x18) rfl Try.isAgg3 rfl (hat24.cell (j := 0) rfl) ?_
              refine L_call (args := #[.int .i64 x_12, .int .i64 0, .int .i64 x18]) rfl Try.call48 (ops3 rfl rfl rfl) (i_within_c (n_ := x_12) (low := 0) (high := x18) (Nat.le_trans hB hx.size) hx21) ?_
              rintro _ w25 ⟨rfl, he25⟩
              have h1 := RP.ext h1 he25
              have h0_0 := RP.ext h0_0 he25
              have h0_1 := RP.ext h0_1 he25
              have hb_g3 := Blk.ext hb_g3 he25
              have hx := ext_trans hx he25
              refine L_not_ (b := x21) rfl rfl ?_
              refine L_nil ?_
              refine W_cond (b := (!x21)) rfl (fun hc26 => ?_) (fun hc26 => ?_)
              ·
                have hB12 := (ite_t hc26).symm.trans hB12
                refine W_seq ?_
                refine W_region ?_
                refine L_as (v := .bool false) rfl rfl ?_
                refine L_nil ?_
                refine W_ret ?_
                obtain rfl := so hB12
                obtain rfl := so hL12
                obtain rfl := so hF
                refine ret1 Try.results55 ?_
                exact ⟨rfl, hx⟩
              ·
                have hB12 := (ite_f hc26).symm.trans hB12
                refine W_skip ?_
                refine W_region ?_
                refine L_add (m := (i_11 : Int)) (n := 1) rfl sf20 rfl ?_
                refine L_mv (v := .int .i64 (i64 ((i_11 : Int) + 1))) rfl rfl ?_
                refine L_nil ?_
                obtain rfl := so hB12
                show ∃ m, m < _ ∧ I12 m _ _
                refine ⟨rest12.length, by simp, ?_⟩
                rw [hI12]
                exact ⟨i_11 + 1, rest12, rfl, drop_next hd12, by simp at hl12; omega, hL12, sf2, sf18, sf19, (Eq.trans rfl (congrArg (Value.int .i64) (i64_succ (n := cells.length) (by simp at hl12; omega) hlen12))), h1, h0_0, h0_1, hb_g3, hx⟩
          ·
            cases suf12 with
            | cons _ _ => exact absurd (of_decide_eq_false hc13) (by simp at hl12; omega)
            | nil =>
              obtain rfl := range_nil hL12
              refine W_exit ?_
              show R12 _ _
              rw [hR12]
              exact ⟨rfl, hx⟩
      ·
        intro f w_ hR
        rw [hR12] at hR
        obtain ⟨rfl, hx⟩ := hR
        clear hR12
        refine W_seq ?_
        refine W_region ?_
        refine L_as (v := .bool true) rfl rfl ?_
        refine L_nil ?_
        refine W_ret ?_
        obtain rfl := so hF
        refine ret1 Try.results55 ?_
        exact ⟨rfl, hx⟩

theorem i_isRule_c {m : Model} {rule : Int} {v0_0 : Value} {v0_1 : Value} {w : World} {B : Nat} (hB : B ≤ w.heap.size) (h0_0 : (RP.slice 3 RP.int).rel B w.heap.size w [v0_0] m.sizes) (h0_1 : (RP.slice 68 (rRule 3 22)).rel B w.heap.size w [v0_1] m.rules) {r : Bool} (hF : i_isRule m rule = some r) :
    C Try.prog 56 #[.agg #[v0_0, v0_1], .int .i64 rule] w fun v w' => (v = .bool r) ∧ Ext w w' := by
  unfold i_isRule at hF
  have hx := ext_refl w
  refine C_enter Try.func56 rfl Try.ntmps56 rfl ?_
  refine W_seq ?_
  refine W_region ?_
  refine L_box (v := .agg #[v0_0, v0_1]) (cs := #[v0_0, v0_1]) rfl rfl rfl ?_
  intro g3 w4 hn4
  have hge_g3 := hn4.ge hx
  have hb_g3 := hn4.blk
  have h0_0 := RP.ext h0_0 hn4.ext
  have h0_1 := RP.ext h0_1 hn4.ext
  have hx := ext_trans hx hn4.ext
  refine L_as (v := .bool false) rfl rfl ?_
  refine L_nil ?_
  refine W_seq ?_
  obtain ⟨x5, hx5, hF⟩ := bind_some hF
  refine W_region ?_
  refine L_mv (v := .int .i64 rule) rfl rfl ?_
  refine L_fa (o' := 1) rfl fa_30_1 rfl rfl ?_
  refine L_ld (v := v0_1) rfl Try.isAgg28 rfl (hb_g3.cell (j := 1) rfl) ?_
  refine L_len (v := v0_1) rfl Try.underlying28 rfl h0_1 ?_
  refine L_sub (m := (m.rules.length : Int)) (n := 1) rfl rfl rfl ?_
  refine L_call (args := #[.int .i64 rule, .int .i64 0, .int .i64 (i64 ((m.rules.length : Int) - 1))]) rfl Try.call48 (ops3 rfl rfl rfl) (i_within_c (n_ := rule) (low := 0) (high := i64 ((m.rules.length : Int) - 1)) (Nat.le_trans hB hx.size) hx5) ?_
  rintro _ w7 ⟨rfl, he7⟩
  have hx := ext_trans hx he7
  refine L_as (v := .bool x5) rfl rfl ?_
  refine L_nil ?_
  refine W_ret ?_
  obtain rfl := so hF
  refine ret1 Try.results56 ?_
  exact ⟨rfl, hx⟩

theorem slices_Equal_int_c {s1 : List Int} {s2 : List Int} {v0 : Value} {v1 : Value} {w : World} {B : Nat} (hB : B ≤ w.heap.size) (h0 : (RP.slice 3 RP.int).rel B w.heap.size w [v0] s1) (h1 : (RP.slice 3 RP.int).rel B w.heap.size w [v1] s2) {r : Bool} (hF : slices_Equal_int s1 s2 = some r) :
    C Try.prog 92 #[v0, v1] w fun v w' => (v = .bool r) ∧ Ext w w' := by
  unfold slices_Equal_int at hF
  have hx := ext_refl w
  refine C_enter Try.func92 rfl Try.ntmps92 rfl ?_
  refine W_seq ?_
  refine W_region ?_
  refine L_as (v := .bool false) rfl rfl ?_
  refine L_nil ?_
  refine W_seq ?_
  refine W_seq ?_
  refine W_region ?_
  refine L_mv (v := v0) rfl rfl ?_
  refine L_len (v := v0) rfl Try.underlying22 rfl h0 ?_
  refine L_mv (v := v1) rfl rfl ?_
  refine L_len (v := v1) rfl Try.underlying22 rfl h1 ?_
  refine L_neq (m := (s1.length : Int)) (n := (s2.length : Int)) rfl rfl rfl ?_
  refine L_nil ?_
  refine W_cond (b := ((s1.length : Int) != (s2.length : Int))) rfl (fun hc1 => ?_) (fun hc1 => ?_)
  ·
    have hF := (ite_t hc1).symm.trans hF
    refine W_seq ?_
    refine W_region ?_
    refine L_as (v := .bool false) rfl rfl ?_
    refine L_nil ?_
    refine W_ret ?_
    obtain rfl := so hF
    refine ret1 Try.results92 ?_
    exact ⟨rfl, hx⟩
  ·
    have hF := (ite_f hc1).symm.trans hF
    refine W_skip ?_
    refine W_seq ?_
    refine W_seq ?_
    refine W_region ?_
    refine L_mv (v := v0) rfl rfl ?_
    refine L_len (v := v0) rfl Try.underlying22 rfl h0 ?_
    refine L_mv (v := .int .i64 0) rfl rfl ?_
    refine L_nil ?_
    have hlen3 := len_le h0
    obtain ⟨j3, hL3, hF⟩ := bind_some hF
    obtain ⟨R3, hR3⟩ : ∃ R : Fr → World → Prop, R = fun f w_ => j3 = .nx () ∧ Ext w w_ := ⟨_, rfl⟩
    refine W_join R3 ?_ ?_
    ·
      refine W_block ?_
      obtain ⟨I3, hI3⟩ : ∃ I : Nat → Fr → World → Prop, I = fun n f w_ => ∃ i_2 : Nat, ∃ suf3 : List Int, n = suf3.length ∧ List.drop i_2 s1 = suf3 ∧ i_2 + suf3.length = s1.length ∧ rangeL (slices_Equal_int_b1 s2) suf3 i_2 () = some j3 ∧ f 0 = v0 ∧ f 1 = v1 ∧ f 12 = .int .i64 (s1.length : Int) ∧ f 13 = .int .i64 (i_2 : Int) ∧ (RP.slice 3 RP.int).rel B w.heap.size w_ [v0] s1 ∧ (RP.slice 3 RP.int).rel B w.heap.size w_ [v1] s2 ∧ Ext w w_ := ⟨_, rfl⟩
      refine W_loop I3 (n := s1.length) ?_ ?_
      · rw [hI3]; exact ⟨0, s1, rfl, rfl, Nat.zero_add _, hL3, rfl, rfl, rfl, rfl, h0, h1, hx⟩
      ·
        intro n3 f w_ hI
        rw [hI3] at hI
        obtain ⟨i_2, suf3, rfl, hd3, hl3, hL3, sf0, sf1, sf12, sf13, h0, h1, hx⟩ := hI
        refine W_seq ?_
        refine W_region ?_
        refine L_lss (m := (i_2 : Int)) (n := (s1.length : Int)) rfl sf13 sf12 ?_
        refine L_nil ?_
        refine W_seq ?_
        refine W_cond (b := decide ((i_2 : Int) < (s1.length : Int))) rfl (fun hc4 => ?_) (fun hc4 => ?_)
        ·
          have hlt3 := of_decide_eq_true hc4
          cases suf3 with
          | nil => exact absurd hlt3 (by simp at hl3; omega)
          | cons x_3 rest3 =>
            obtain ⟨o3, hB3, hL3⟩ := range_cons hL3
            rw [slices_Equal_int_b1] at hB3
            have hix3 := drop_idx hd3
            refine W_skip ?_
            refine W_seq ?_
            refine W_block ?_
            refine W_seq ?_
            refine W_region ?_
            refine L_mv (v := .int .i64 (i_2 : Int)) rfl sf13 ?_
            refine L_as (v := .int .i64 (i_2 : Int)) rfl rfl ?_
            refine L_nil ?_
            refine W_seq ?_
            obtain ⟨x7, hx7, hB3⟩ := bind_some hB3
            refine W_drawL 8 [isV (v0), isV (.int .i64 (i_2 : Int)), isEl B RP.int x_3 0, isV (.int .i64 x_3), isV (v1), isV (.int .i64 (i_2 : Int)), isEl B RP.int x7 0, isV (.int .i64 x7)] Try_mix (by kernel_rfl) (am_cons (mono_V _) (am_cons (mono_V _) (am_cons (mono_el _ _ _ _) (am_cons (mono_V _) (am_cons (mono_V _) (am_cons (mono_V _) (am_cons (mono_el _ _ _ _) (am_cons (mono_V _) am_nil)))))))) ?_ (fun f w_ hS hE hT => ?_)
            ·
              refine ops_cons (fun f w_ hS hE hP => ?_) ?_
              ·
                have hx := ext_trans hx hE
                have h0 := RP.ext h0 hE
                refine L_mv (v := v0) rfl ((hS 0 rfl).trans sf0) ?_
                exact L_nil ⟨rfl, (ext_refl _), _, _, rfl, rfl, rfl⟩
              refine ops_cons (fun f w_ hS hE hP => ?_) ?_
              ·
                have hx := ext_trans hx hE
                refine L_mv (v := .int .i64 (i_2 : Int)) rfl ((hS 5 rfl).trans rfl) ?_
                exact L_nil ⟨rfl, (ext_refl _), _, _, rfl, rfl, rfl⟩
              refine ops_cons (fun f w_ hS hE hP => ?_) ?_
              ·
                have hx := ext_trans hx hE
                have h0 := RP.ext h0 hE
                refine L_ix (r := RP.int) rfl Try.underlying22 Try.sizeOf3 (hP 0 16 rfl rfl) h0 (hP 1 17 rfl rfl) hix3 ?_
                intro g14 o15 cs15 hr15 hat15
                obtain rfl : _ = [_] := hr15
                exact L_nil ⟨rfl, (ext_refl _), _, _, rfl, rfl, ⟨_, _, _, rfl, rfl, hat15⟩⟩
              refine ops_cons (fun f w_ hS hE hP => ?_) ?_
              ·
                have hx := ext_trans hx hE
                obtain ⟨g16, o16, cs16, hv16, hr16, hat16⟩ := (hP 2 18 rfl rfl)
                obtain rfl : _ = [_] := hr16
                refine L_ld (v := .int .i64 x_3) rfl Try.isAgg3 hv16 (hat16.cell (j := 0) rfl) ?_
                exact L_nil ⟨rfl, (ext_refl _), _, _, rfl, rfl, rfl⟩
              refine ops_cons (fun f w_ hS hE hP => ?_) ?_
              ·
                have hx := ext_trans hx hE
                have h1 := RP.ext h1 hE
                refine L_mv (v := v1) rfl ((hS 1 rfl).trans sf1) ?_
                exact L_nil ⟨rfl, (ext_refl _), _, _, rfl, rfl, rfl⟩
              refine ops_cons (fun f w_ hS hE hP => ?_) ?_
              ·
                have hx := ext_trans hx hE
                refine L_mv (v := .int .i64 (i_2 : Int)) rfl ((hS 5 rfl).trans rfl) ?_
                exact L_nil ⟨rfl, (ext_refl _), _, _, rfl, rfl, rfl⟩
              refine ops_cons (fun f w_ hS hE hP => ?_) ?_
              ·
                have hx := ext_trans hx hE
                have h1 := RP.ext h1 hE
                refine L_ix (r := RP.int) rfl Try.underlying22 Try.sizeOf3 (hP 4 20 rfl rfl) h1 (hP 5 21 rfl rfl) hx7 ?_
                intro g17 o18 cs18 hr18 hat18
                obtain rfl : _ = [_] := hr18
                exact L_nil ⟨rfl, (ext_refl _), _, _, rfl, rfl, ⟨_, _, _, rfl, rfl, hat18⟩⟩
              refine ops_cons (fun f w_ hS hE hP => ?_) ?_
              ·
                have hx := ext_trans hx hE
                obtain ⟨g19, o19, cs19, hv19, hr19, hat19⟩ := (hP 6 22 rfl rfl)
                obtain rfl : _ = [_] := hr19
                refine L_ld (v := .int .i64 x7) rfl Try.isAgg3 hv19 (hat19.cell (j := 0) rfl) ?_
                exact L_nil ⟨rfl, (ext_refl _), _, _, rfl, rfl, rfl⟩
              exact ops_nil
            ·
              have h0 := RP.ext h0 hE
              have h1 := RP.ext h1 hE
              have hx := ext_trans hx hE
              refine L_neq (m := x_3) (n := x7) rfl (hT 3 19 rfl rfl) (hT 7 23 rfl rfl) ?_
              refine L_nil ?_
              refine W_cond (b := (x_3 != x7)) rfl (fun hc20 => ?_) (fun hc20 => ?_)
              ·
                have hB3 := (ite_t hc20).symm.trans hB3
                refine W_seq ?_
                refine W_region ?_
                refine L_as (v := .bool false) rfl rfl ?_
                refine L_nil ?_
                refine W_ret ?_
                obtain rfl := so hB3
                obtain rfl := so hL3
                obtain rfl := so hF
                refine ret1 Try.results92 ?_
                exact ⟨rfl, hx⟩
              ·
                have hB3 := (ite_f hc20).symm.trans hB3
                refine W_skip ?_
                refine W_region ?_
                refine L_add (m := (i_2 : Int)) (n := 1) rfl ((hS 13 rfl).trans sf13) rfl ?_
                refine L_mv (v := .int .i64 (i64 ((i_2 : Int) + 1))) rfl rfl ?_
                refine L_nil ?_
                obtain rfl := so hB3
                show ∃ m, m < _ ∧ I3 m _ _
                refine ⟨rest3.length, by simp, ?_⟩
                rw [hI3]
                exact ⟨i_2 + 1, rest3, rfl, drop_next hd3, by simp at hl3; omega, hL3, ((hS 0 rfl).trans sf0), ((hS 1 rfl).trans sf1), ((hS 12 rfl).trans sf12), (Eq.trans rfl (congrArg (Value.int .i64) (i64_succ (n := s1.length) (by simp at hl3; omega) hlen3))), h0, h1, hx⟩
        ·
          cases suf3 with
          | cons _ _ => exact absurd (of_decide_eq_false hc4) (by simp at hl3; omega)
          | nil =>
            obtain rfl := range_nil hL3
            refine W_exit ?_
            show R3 _ _
            rw [hR3]
            exact ⟨rfl, hx⟩
    ·
      intro f w_ hR
      rw [hR3] at hR
      obtain ⟨rfl, hx⟩ := hR
      clear hR3
      refine W_seq ?_
      refine W_region ?_
      refine L_as (v := .bool true) rfl rfl ?_
      refine L_nil ?_
      refine W_ret ?_
      obtain rfl := so hF
      refine ret1 Try.results92 ?_
      exact ⟨rfl, hx⟩

theorem i_Rule_holds_1_c {c1 : List Int} {row : List Int} {v0 : Value} {g_c1 : Nat} {v1_0 : Value} {w : World} {B : Nat} (hB : B ≤ w.heap.size) (h0 : (RP.slice 3 RP.int).rel B w.heap.size w [v0] row) (hat_g_c1 : At w g_c1 0 [v1_0]) (h1_0 : (RP.slice 3 RP.int).rel B w.heap.size w [v1_0] c1) {r : Bool} (hF : i_Rule_holds_1 c1 row = some r) :
    C Try.prog 91 #[v0, .pointer (some ⟨g_c1, 0, none⟩)] w fun v w' => (v = .bool r) ∧ Ext w w' := by
  unfold i_Rule_holds_1 at hF
  have hlt_g_c1 := hat_g_c1.lt
  have hx := ext_refl w
  refine C_enter Try.func91 rfl Try.ntmps91 rfl ?_
  refine W_seq ?_
  refine W_region ?_
  refine L_as (v := .bool false) rfl rfl ?_
  refine L_nil ?_
  refine W_seq ?_
  obtain ⟨x1, hx1, hF⟩ := bind_some hF
  refine W_region ?_
  refine L_mv (v := v0) rfl rfl ?_
  refine L_ld (v := v1_0) rfl Try.isAgg22 rfl (hat_g_c1.cell (j := 0) rfl) ?_
  refine L_call (args := #[v0, v1_0]) rfl Try.call92 (ops2 rfl rfl) (slices_Equal_int_c (s1 := row) (s2 := c1) (Nat.le_trans hB hx.size) (rel0 h0) (rel0 h1_0) hx1) ?_
  rintro _ w3 ⟨rfl, he3⟩
  have h0 := RP.ext h0 he3
  have h1_0 := RP.ext h1_0 he3
  have hx := ext_trans hx he3
  refine L_as (v := .bool x1) rfl rfl ?_
  refine L_nil ?_
  refine W_ret ?_
  obtain rfl := so hF
  refine ret1 Try.results91 ?_
  exact ⟨rfl, hx⟩

theorem i_Rule_holds_c {r_ : Rule} {vals : List Int} {v0_1 : Value} {v0_2 : Value} {v0_4 : Value} {v1 : Value} {w : World} {B : Nat} (hB : B ≤ w.heap.size) (h0_1 : (RP.slice 3 RP.int).rel B w.heap.size w [v0_1] r_.vars) (h0_2 : (RP.slice 3 RP.int).rel B w.heap.size w [v0_2] r_.coefs) (h0_4 : (RP.slice 22 (RP.slice 3 RP.int)).rel B w.heap.size w [v0_4] r_.rows) (h1 : (RP.slice 3 RP.int).rel B w.heap.size w [v1] vals) {r : Bool} (hF : i_Rule_holds r_ vals = some r) :
    C Try.prog 74 #[.agg #[.int .i64 r_.kind, v0_1, v0_2, .int .i64 r_.bound, v0_4], v1] w fun v w' => (v = .bool r) ∧ Ext w w' := by
  unfold i_Rule_holds at hF
  have hx := ext_refl w
  refine C_enter Try.func74 rfl Try.ntmps74 rfl ?_
  refine W_seq ?_
  refine W_region ?_
  refine L_box (v := .agg #[.int .i64 r_.kind, v0_1, v0_2, .int .i64 r_.bound, v0_4]) (cs := #[.int .i64 r_.kind, v0_1, v0_2, .int .i64 r_.bound, v0_4]) rfl rfl rfl ?_
  intro g5 w6 hn6
  have hge_g5 := hn6.ge hx
  have hb_g5 := hn6.blk
  have h0_1 := RP.ext h0_1 hn6.ext
  have h0_2 := RP.ext h0_2 hn6.ext
  have h0_4 := RP.ext h0_4 hn6.ext
  have h1 := RP.ext h1 hn6.ext
  have hx := ext_trans hx hn6.ext
  refine L_box (v := v1) (cs := #[v1]) rfl rfl (cells_one (one_of h1)) ?_
  intro g7 w8 hn8
  have hge_g7 := hn8.ge hx
  have hb_g7 := hn8.blk
  have h0_1 := RP.ext h0_1 hn8.ext
  have h0_2 := RP.ext h0_2 hn8.ext
  have h0_4 := RP.ext h0_4 hn8.ext
  have h1 := RP.ext h1 hn8.ext
  have hb_g5 := Blk.ext hb_g5 hn8.ext
  have hx := ext_trans hx hn8.ext
  refine L_as (v := .bool false) rfl rfl ?_
  refine L_nil ?_
  refine W_seq ?_
  refine W_seq ?_
  refine W_region ?_
  refine L_fa (o' := 0) rfl fa_68_0 rfl rfl ?_
  refine L_ld (v := .int .i64 r_.kind) rfl Try.isAgg3 rfl (hb_g5.cell (j := 0) rfl) ?_
  refine L_nil ?_
  refine W_block ?_
  refine W_seq ?_
  refine W_region ?_
  refine L_eql (m := r_.kind) (n := 1) rfl rfl rfl ?_
  refine L_as (v := .bool (r_.kind == 1)) rfl rfl ?_
  refine L_nil ?_
  refine W_cond (b := (r_.kind == 1)) rfl (fun hc9 => ?_) (fun hc9 => ?_)
  ·
    have hF := (ite_t hc9).symm.trans hF
    refine W_seq ?_
    refine W_region ?_
    refine L_as (v := .int .i64 0) rfl rfl ?_
    refine L_nil ?_
    refine W_seq ?_
    refine W_seq ?_
    refine W_region ?_
    refine L_ld (v := v1) rfl Try.isAgg22 rfl (hb_g7.cell (j := 0) rfl) ?_
    refine L_len (v := v1) rfl Try.underlying22 rfl h1 ?_
    refine L_mv (v := .int .i64 0) rfl rfl ?_
    refine L_nil ?_
    have hlen12 := len_le h1
    obtain ⟨j12, hL12, hF⟩ := bind_some hF
    obtain ⟨R12, hR12⟩ : ∃ R : Fr → World → Prop, R = fun f w_ => ∃ sum_11 : Int, j12 = .nx sum_11 ∧ f 2 = .pointer (some ⟨g5, 0, none⟩) ∧ f 5 = .int .i64 sum_11 ∧ (RP.slice 3 RP.int).rel B w.heap.size w_ [v0_1] r_.vars ∧ (RP.slice 3 RP.int).rel B w.heap.size w_ [v0_2] r_.coefs ∧ (RP.slice 22 (RP.slice 3 RP.int)).rel B w.heap.size w_ [v0_4] r_.rows ∧ Blk w_ g5 68 #[.int .i64 r_.kind, v0_1, v0_2, .int .i64 r_.bound, v0_4] ∧ Ext w w_ := ⟨_, rfl⟩
    refine W_join R12 ?_ ?_
    ·
      refine W_block ?_
      obtain ⟨I12, hI12⟩ : ∃ I : Nat → Fr → World → Prop, I = fun n f w_ => ∃ i_10 : Nat, ∃ suf12 : List Int, ∃ sum_11 : Int, n = suf12.length ∧ List.drop i_10 vals = suf12 ∧ i_10 + suf12.length = vals.length ∧ rangeL (i_Rule_holds_b1 r_) suf12 i_10 sum_11 = some j12 ∧ f 2 = .pointer (some ⟨g5, 0, none⟩) ∧ f 5 = .int .i64 sum_11 ∧ f 14 = v1 ∧ f 15 = .int .i64 (vals.length : Int) ∧ f 16 = .int .i64 (i_10 : Int) ∧ (RP.slice 3 RP.int).rel B w.heap.size w_ [v1] vals ∧ (RP.slice 3 RP.int).rel B w.heap.size w_ [v0_1] r_.vars ∧ (RP.slice 3 RP.int).rel B w.heap.size w_ [v0_2] r_.coefs ∧ (RP.slice 22 (RP.slice 3 RP.int)).rel B w.heap.size w_ [v0_4] r_.rows ∧ Blk w_ g5 68 #[.int .i64 r_.kind, v0_1, v0_2, .int .i64 r_.bound, v0_4] ∧ Ext w w_ := ⟨_, rfl⟩
      refine W_loop I12 (n := vals.length) ?_ ?_
      · rw [hI12]; exact ⟨0, vals, 0, rfl, rfl, Nat.zero_add _, hL12, rfl, rfl, rfl, rfl, rfl, h1, h0_1, h0_2, h0_4, hb_g5, hx⟩
      ·
        intro n12 f w_ hI
        rw [hI12] at hI
        obtain ⟨i_10, suf12, sum_11, rfl, hd12, hl12, hL12, sf2, sf5, sf14, sf15, sf16, h1, h0_1, h0_2, h0_4, hb_g5, hx⟩ := hI
        refine W_seq ?_
        refine W_region ?_
        refine L_lss (m := (i_10 : Int)) (n := (vals.length : Int)) rfl sf16 sf15 ?_
        refine L_nil ?_
        refine W_seq ?_
        refine W_cond (b := decide ((i_10 : Int) < (vals.length : Int))) rfl (fun hc13 => ?_) (fun hc13 => ?_)
        ·
          have hlt12 := of_decide_eq_true hc13
          cases suf12 with
          | nil => exact absurd hlt12 (by simp at hl12; omega)
          | cons x_12 rest12 =>
            obtain ⟨o12, hB12, hL12⟩ := range_cons hL12
            rw [i_Rule_holds_b1] at hB12
            have hix12 := drop_idx hd12
            refine W_skip ?_
            refine W_seq ?_
            refine W_block ?_
            refine W_seq ?_
            refine W_region ?_
            refine L_mv (v := .int .i64 (i_10 : Int)) rfl sf16 ?_
            refine L_ix (r := RP.int) rfl Try.underlying22 Try.sizeOf3 sf14 h1 sf16 hix12 ?_
            intro g16 o17 cs17 hr17 hat17
            obtain rfl : _ = [_] := hr17
            refine L_ld (v := .int .i64 x_12) rfl Try.isAgg3 rfl (hat17.cell (j := 0) rfl) ?_
            refine L_as (v := .int .i64 (i_10 : Int)) rfl rfl ?_
            refine L_as (v := .int .i64 x_12) rfl rfl ?_
            refine L_nil ?_
            obtain ⟨x18, hx18, hB12⟩ := bind_some hB12
            refine W_region ?_
            refine L_mv (v := .int .i64 sum_11) rfl sf5 ?_
            refine L_fa (o' := 2) rfl fa_68_2 sf2 rfl ?_
            refine L_ld (v := v0_2) rfl Try.isAgg22 rfl (hb_g5.cell (j := 2) rfl) ?_
            refine L_mv (v := .int .i64 (i_10 : Int)) rfl rfl ?_
            refine L_ix (r := RP.int) rfl Try.underlying22 Try.sizeOf3 rfl h0_2 rfl hx18 ?_
            intro g21 o22 cs22 hr22 hat22
            obtain rfl : _ = [_] := hr22
            refine L_ld (v := .int .i64 x18) rfl Try.isAgg3 rfl (hat22.cell (j := 0) rfl) ?_
            refine L_mv (v := .int .i64 x_12) rfl rfl ?_
            refine L_mul (m := x18) (n := x_12) rfl rfl rfl ?_
            refine L_add (m := sum_11) (n := i64 (x18 * x_12)) rfl rfl rfl ?_
            refine L_as (v := .int .i64 (i64 (sum_11 + (i64 (x18 * x_12))))) rfl rfl ?_
            refine L_nil ?_
            refine W_region ?_
            refine L_add (m := (i_10 : Int)) (n := 1) rfl sf16 rfl ?_
            refine L_mv (v := .int .i64 (i64 ((i_10 : Int) + 1))) rfl rfl ?_
            refine L_nil ?_
            obtain rfl := so hB12
            show ∃ m, m < _ ∧ I12 m _ _
            refine ⟨rest12.length, by simp, ?_⟩
            rw [hI12]
            exact ⟨i_10 + 1, rest12, i64 (sum_11 + (i64 (x18 * x_12))), rfl, drop_next hd12, by simp at hl12; omega, hL12, sf2, rfl, sf14, sf15, (Eq.trans rfl (congrArg (Value.int .i64) (i64_succ (n := vals.length) (by simp at hl12; omega) hlen12))), h1, h0_1, h0_2, h0_4, hb_g5, hx⟩
        ·
          cases suf12 with
          | cons _ _ => exact absurd (of_decide_eq_false hc13) (by simp at hl12; omega)
          | nil =>
            obtain rfl := range_nil hL12
            refine W_exit ?_
            show R12 _ _
            rw [hR12]
            exact ⟨sum_11, rfl, sf2, sf5, h0_1, h0_2, h0_4, hb_g5, hx⟩
    ·
      intro f w_ hR
      rw [hR12] at hR
      obtain ⟨sum_11, rfl, sf2, sf5, h0_1, h0_2, h0_4, hb_g5, hx⟩ := hR
      clear hR12
      refine W_seq ?_
      refine W_region ?_
      refine L_mv (v := .int .i64 sum_11) rfl sf5 ?_
      refine L_fa (o' := 3) rfl fa_68_3 sf2 rfl ?_
      refine L_ld (v := .int .i64 r_.bound) rfl Try.isAgg3 rfl (hb_g5.cell (j := 3) rfl) ?_
      refine L_geq (m := sum_11) (n := r_.bound) rfl rfl rfl ?_
      refine L_as (v := .bool (decide (sum_11 ≥ r_.bound))) rfl rfl ?_
      refine L_nil ?_
      refine W_ret ?_
      obtain rfl := so hF
      refine ret1 Try.results74 ?_
      exact ⟨rfl, hx⟩
  ·
    have hF := (ite_f hc9).symm.trans hF
    refine W_seq ?_
    refine W_region ?_
    refine L_eql (m := r_.kind) (n := 2) rfl rfl rfl ?_
    refine L_as (v := .bool (r_.kind == 2)) rfl rfl ?_
    refine L_nil ?_
    refine W_cond (b := (r_.kind == 2)) rfl (fun hc23 => ?_) (fun hc23 => ?_)
    ·
      have hF := (ite_t hc23).symm.trans hF
      refine W_seq ?_
      refine W_seq ?_
      refine W_region ?_
      refine L_ld (v := v1) rfl Try.isAgg22 rfl (hb_g7.cell (j := 0) rfl) ?_
      refine L_len (v := v1) rfl Try.underlying22 rfl h1 ?_
      refine L_mv (v := .int .i64 0) rfl rfl ?_
      refine L_nil ?_
      have hlen25 := len_le h1
      obtain ⟨j25, hL25, hF⟩ := bind_some hF
      obtain ⟨R25, hR25⟩ : ∃ R : Fr → World → Prop, R = fun f w_ => j25 = .nx () ∧ Ext w w_ := ⟨_, rfl⟩
      refine W_join R25 ?_ ?_
      ·
        refine W_block ?_
        obtain ⟨I25, hI25⟩ : ∃ I : Nat → Fr → World → Prop, I = fun n f w_ => ∃ i_24 : Nat, ∃ suf25 : List Int, n = suf25.length ∧ List.drop i_24 vals = suf25 ∧ i_24 + suf25.length = vals.length ∧ rangeL (i_Rule_holds_b2 vals) suf25 i_24 () = some j25 ∧ f 3 = .pointer (some ⟨g7, 0, none⟩) ∧ f 37 = v1 ∧ f 38 = .int .i64 (vals.length : Int) ∧ f 39 = .int .i64 (i_24 : Int) ∧ (RP.slice 3 RP.int).rel B w.heap.size w_ [v1] vals ∧ Blk w_ g7 22 #[v1] ∧ Ext w w_ := ⟨_, rfl⟩
        refine W_loop I25 (n := vals.length) ?_ ?_
        · rw [hI25]; exact ⟨0, vals, rfl, rfl, Nat.zero_add _, hL25, rfl, rfl, rfl, rfl, h1, hb_g7, hx⟩
        ·
          intro n25 f w_ hI
          rw [hI25] at hI
          obtain ⟨i_24, suf25, rfl, hd25, hl25, hL25, sf3, sf37, sf38, sf39, h1, hb_g7, hx⟩ := hI
          refine W_seq ?_
          refine W_region ?_
          refine L_lss (m := (i_24 : Int)) (n := (vals.length : Int)) rfl sf39 sf38 ?_
          refine L_nil ?_
          refine W_seq ?_
          refine W_cond (b := decide ((i_24 : Int) < (vals.length : Int))) rfl (fun hc26 => ?_) (fun hc26 => ?_)
          ·
            have hlt25 := of_decide_eq_true hc26
            cases suf25 with
            | nil => exact absurd hlt25 (by simp at hl25; omega)
            | cons x_25 rest25 =>
              obtain ⟨o25, hB25, hL25⟩ := range_cons hL25
              rw [i_Rule_holds_b2] at hB25
              have hix25 := drop_idx hd25
              refine W_skip ?_
              refine W_seq ?_
              refine W_block ?_
              refine W_seq ?_
              refine W_region ?_
              refine L_mv (v := .int .i64 (i_24 : Int)) rfl sf39 ?_
              refine L_ix (r := RP.int) rfl Try.underlying22 Try.sizeOf3 sf37 h1 sf39 hix25 ?_
              intro g29 o30 cs30 hr30 hat30
              obtain rfl : _ = [_] := hr30
              refine L_ld (v := .int .i64 x_25) rfl Try.isAgg3 rfl (hat30.cell (j := 0) rfl) ?_
              refine L_as (v := .int .i64 (i_24 : Int)) rfl rfl ?_
              refine L_as (v := .int .i64 x_25) rfl rfl ?_
              refine L_nil ?_
              refine W_seq ?_
              obtain ⟨x31, hx31, hB25⟩ := bind_some hB25
              obtain ⟨x33, hx33, hB25⟩ := bind_some hB25
              refine W_region ?_
              refine L_ld (v := v1) rfl Try.isAgg22 sf3 (hb_g7.cell (j := 0) rfl) ?_
              refine L_mv (v := .int .i64 (i_24 : Int)) rfl rfl ?_
              refine L_sl (a := 0) (b := (i_24 : Int)) rfl et_22 rfl h1 rfl rfl hx31 ?_
              intro v35 hs35
              refine L_mv (v := .int .i64 x_25) rfl rfl ?_
              refine L_call (args := #[v35, .int .i64 x_25]) rfl Try.call84 (ops2 rfl rfl) (slices_Contains_int_c (s := x31) (v_ := x_25) (Nat.le_trans hB hx.size) (rel0 hs35) hx33) ?_
              rintro _ w36 ⟨rfl, he36⟩
              have h1 := RP.ext h1 he36
              have hb_g7 := Blk.ext hb_g7 he36
              have hs35 := RP.ext hs35 he36
              have hx := ext_trans hx he36
              refine L_nil ?_
              refine W_cond (b := x33) rfl (fun hc37 => ?_) (fun hc37 => ?_)
              ·
                have hB25 := (ite_t hc37).symm.trans hB25
                refine W_seq ?_
                refine W_region ?_
                refine L_as (v := .bool false) rfl rfl ?_
                refine L_nil ?_
                refine W_ret ?_
                obtain rfl := so hB25
                obtain rfl := so hL25
                obtain rfl := so hF
                refine ret1 Try.results74 ?_
                exact ⟨rfl, hx⟩
              ·
                have hB25 := (ite_f hc37).symm.trans hB25
                refine W_skip ?_
                refine W_region ?_
                refine L_add (m := (i_24 : Int)) (n := 1) rfl sf39 rfl ?_
                refine L_mv (v := .int .i64 (i64 ((i_24 : Int) + 1))) rfl rfl ?_
                refine L_nil ?_
                obtain rfl := so hB25
                show ∃ m, m < _ ∧ I25 m _ _
                refine ⟨rest25.length, by simp, ?_⟩
                rw [hI25]
                exact ⟨i_24 + 1, rest25, rfl, drop_next hd25, by simp at hl25; omega, hL25, sf3, sf37, sf38, (Eq.trans rfl (congrArg (Value.int .i64) (i64_succ (n := vals.length) (by simp at hl25; omega) hlen25))), h1, hb_g7, hx⟩
          ·
            cases suf25 with
            | cons _ _ => exact absurd (of_decide_eq_false hc26) (by simp at hl25; omega)
            | nil =>
              obtain rfl := range_nil hL25
              refine W_exit ?_
              show R25 _ _
              rw [hR25]
              exact ⟨rfl, hx⟩
      ·
        intro f w_ hR
        rw [hR25] at hR
        obtain ⟨rfl, hx⟩ := hR
        clear hR25
        refine W_seq ?_
        refine W_region ?_
        refine L_as (v := .bool true) rfl rfl ?_
        refine L_nil ?_
        refine W_ret ?_
        obtain rfl := so hF
        refine ret1 Try.results74 ?_
        exact ⟨rfl, hx⟩
    ·
      have hF := (ite_f hc23).symm.trans hF
      refine W_seq ?_
      refine W_region ?_
      refine L_eql (m := r_.kind) (n := 3) rfl rfl rfl ?_
      refine L_as (v := .bool (r_.kind == 3)) rfl rfl ?_
      refine L_nil ?_
      refine W_cond (b := (r_.kind == 3)) rfl (fun hc38 => ?_) (fun hc38 => ?_)
      ·
        have hF := (ite_t hc38).symm.trans hF
        refine W_seq ?_
        obtain ⟨x39, hx39, hF⟩ := bind_some hF
        refine W_region ?_
        refine L_fa (o' := 4) rfl fa_68_4 rfl rfl ?_
        refine L_ld (v := v0_4) rfl Try.isAgg66 rfl (hb_g5.cell (j := 4) rfl) ?_
        refine L_mf rfl (ops1 rfl) ?_
        have hf41 : Fun1 Try.prog B (RP.slice 3 RP.int) false Value.bool (i_Rule_holds_1 vals) (.func (.func 91) #[] #[.pointer (some ⟨g7, 0, none⟩)]) w8 := by
          refine ⟨_, _, rfl, Try.call91, fun w_ hE_ cs_ x_ y_ args_ hr_ hy_ ha_ => ?_⟩
          obtain ⟨p0, rfl, hp0⟩ := slice1 hr_
          obtain rfl := args_of (b := #[p0, .pointer (some ⟨g7, 0, none⟩)]) ha_
          exact i_Rule_holds_1_c (c1 := vals) (row := x_) (Nat.le_trans hB (ext_trans hx hE_).size) hp0 (At.ext (Blk.at hb_g7) hE_) (rel0 (RP.ext h1 hE_)) hy_
        refine L_call (args := #[v0_4, .func (.func 91) #[] #[.pointer (some ⟨g7, 0, none⟩)]]) rfl Try.call87 (ops2 rfl rfl) (slices_ContainsFunc_Sint_c (s := r_.rows) (f_ := (i_Rule_holds_1 vals)) (Nat.le_trans hB hx.size) (rel0 h0_4) hf41 hx39) ?_
        rintro _ w42 ⟨rfl, he42⟩
        have h0_4 := RP.ext h0_4 he42
        have h1 := RP.ext h1 he42
        have hb_g7 := Blk.ext hb_g7 he42
        have hx := ext_trans hx he42
        refine L_as (v := .bool x39) rfl rfl ?_
        refine L_nil ?_
        refine W_ret ?_
        obtain rfl := so hF
        refine ret1 Try.results74 ?_
        exact ⟨rfl, hx⟩
      ·
        have hF := (ite_f hc38).symm.trans hF
        refine W_skip ?_
        refine W_seq ?_
        obtain ⟨x43, hx43, hF⟩ := bind_some hF
        obtain ⟨x46, hx46, hF⟩ := bind_some hF
        refine W_drawL 6 [isV (v1), isEl B RP.int x43 0, isV (.int .i64 x43), isV (v1), isEl B RP.int x46 0, isV (.int .i64 x46)] Try_mix (by kernel_rfl) (am_cons (mono_V _) (am_cons (mono_el _ _ _ _) (am_cons (mono_V _) (am_cons (mono_V _) (am_cons (mono_el _ _ _ _) (am_cons (mono_V _) am_nil)))))) ?_ (fun f w_ hS hE hT => ?_)
        ·
          refine ops_cons (fun f w_ hS hE hP => ?_) ?_
          ·
            have hx := ext_trans hx hE
            have h1 := RP.ext h1 hE
            have hb_g7 := Blk.ext hb_g7 hE
            refine L_ld (v := v1) rfl Try.isAgg22 ((hS 3 rfl).trans rfl) (hb_g7.cell (j := 0) rfl) ?_
            exact L_nil ⟨rfl, (ext_refl _), _, _, rfl, rfl, rfl⟩
          refine ops_cons (fun f w_ hS hE hP => ?_) ?_
          ·
            have hx := ext_trans hx hE
            have h1 := RP.ext h1 hE
            refine L_ix (r := RP.int) rfl Try.underlying22 Try.sizeOf3 (hP 0 56 rfl rfl) h1 rfl hx43 ?_
            intro g53 o54 cs54 hr54 hat54
            obtain rfl : _ = [_] := hr54
            exact L_nil ⟨rfl, (ext_refl _), _, _, rfl, rfl, ⟨_, _, _, rfl, rfl, hat54⟩⟩
          refine ops_cons (fun f w_ hS hE hP => ?_) ?_
          ·
            have hx := ext_trans hx hE
            obtain ⟨g55, o55, cs55, hv55, hr55, hat55⟩ := (hP 1 57 rfl rfl)
            obtain rfl : _ = [_] := hr55
            refine L_ld (v := .int .i64 x43) rfl Try.isAgg3 hv55 (hat55.cell (j := 0) rfl) ?_
            exact L_nil ⟨rfl, (ext_refl _), _, _, rfl, rfl, rfl⟩
          refine ops_cons (fun f w_ hS hE hP => ?_) ?_
          ·
            have hx := ext_trans hx hE
            have h1 := RP.ext h1 hE
            have hb_g7 := Blk.ext hb_g7 hE
            refine L_ld (v := v1) rfl Try.isAgg22 ((hS 3 rfl).trans rfl) (hb_g7.cell (j := 0) rfl) ?_
            exact L_nil ⟨rfl, (ext_refl _), _, _, rfl, rfl, rfl⟩
          refine ops_cons (fun f w_ hS hE hP => ?_) ?_
          ·
            have hx := ext_trans hx hE
            have h1 := RP.ext h1 hE
            refine L_ix (r := RP.int) rfl Try.underlying22 Try.sizeOf3 (hP 3 59 rfl rfl) h1 rfl hx46 ?_
            intro g56 o57 cs57 hr57 hat57
            obtain rfl : _ = [_] := hr57
            exact L_nil ⟨rfl, (ext_refl _), _, _, rfl, rfl, ⟨_, _, _, rfl, rfl, hat57⟩⟩
          refine ops_cons (fun f w_ hS hE hP => ?_) ?_
          ·
            have hx := ext_trans hx hE
            obtain ⟨g58, o58, cs58, hv58, hr58, hat58⟩ := (hP 4 60 rfl rfl)
            obtain rfl : _ = [_] := hr58
            refine L_ld (v := .int .i64 x46) rfl Try.isAgg3 hv58 (hat58.cell (j := 0) rfl) ?_
            exact L_nil ⟨rfl, (ext_refl _), _, _, rfl, rfl, rfl⟩
          exact ops_nil
        ·
          have h0_1 := RP.ext h0_1 hE
          have h0_2 := RP.ext h0_2 hE
          have h0_4 := RP.ext h0_4 hE
          have h1 := RP.ext h1 hE
          have hb_g5 := Blk.ext hb_g5 hE
          have hb_g7 := Blk.ext hb_g7 hE
          have hx := ext_trans hx hE
          refine L_lss (m := x43) (n := x46) rfl (hT 2 58 rfl rfl) (hT 5 61 rfl rfl) ?_
          refine L_as (v := .bool (decide (x43 < x46))) rfl rfl ?_
          refine L_nil ?_
          refine W_ret ?_
          obtain rfl := so hF
          refine ret1 Try.results74 ?_
          exact ⟨rfl, hx⟩

theorem i_Rule_at_c {r_ : Rule} {cells : List Int} {v0_1 : Value} {v0_2 : Value} {v0_4 : Value} {v1 : Value} {w : World} {B : Nat} (hB : B ≤ w.heap.size) (h0_1 : (RP.slice 3 RP.int).rel B w.heap.size w [v0_1] r_.vars) (h0_2 : (RP.slice 3 RP.int).rel B w.heap.size w [v0_2] r_.coefs) (h0_4 : (RP.slice 22 (RP.slice 3 RP.int)).rel B w.heap.size w [v0_4] r_.rows) (h1 : (RP.slice 3 RP.int).rel B w.heap.size w [v1] cells) {r : Bool} (hF : i_Rule_at r_ cells = some r) :
    C Try.prog 57 #[.agg #[.int .i64 r_.kind, v0_1, v0_2, .int .i64 r_.bound, v0_4], v1] w fun v w' => (v = .bool r) ∧ Ext w w' := by
  unfold i_Rule_at at hF
  have hx := ext_refl w
  refine C_enter Try.func57 rfl Try.ntmps57 rfl ?_
  refine W_seq ?_
  refine W_region ?_
  refine L_box (v := .agg #[.int .i64 r_.kind, v0_1, v0_2, .int .i64 r_.bound, v0_4]) (cs := #[.int .i64 r_.kind, v0_1, v0_2, .int .i64 r_.bound, v0_4]) rfl rfl rfl ?_
  intro g3 w4 hn4
  have hge_g3 := hn4.ge hx
  have hb_g3 := hn4.blk
  have h0_1 := RP.ext h0_1 hn4.ext
  have h0_2 := RP.ext h0_2 hn4.ext
  have h0_4 := RP.ext h0_4 hn4.ext
  have h1 := RP.ext h1 hn4.ext
  have hx := ext_trans hx hn4.ext
  refine L_as (v := .bool false) rfl rfl ?_
  refine L_nil ?_
  refine W_seq ?_
  refine W_region ?_
  refine L_as (v := (.slice none 0 0)) rfl rfl ?_
  refine L_nil ?_
  refine W_seq ?_
  refine W_seq ?_
  refine W_region ?_
  refine L_fa (o' := 1) rfl fa_68_1 rfl rfl ?_
  refine L_ld (v := v0_1) rfl Try.isAgg22 rfl (hb_g3.cell (j := 1) rfl) ?_
  refine L_len (v := v0_1) rfl Try.underlying22 rfl h0_1 ?_
  refine L_mv (v := .int .i64 0) rfl rfl ?_
  refine L_nil ?_
  have hlen7 := len_le h0_1
  obtain ⟨j7, hL7, hF⟩ := bind_some hF
  obtain ⟨R7, hR7⟩ : ∃ R : Fr → World → Prop, R = fun f w_ => ∃ vals_6 : List Int, ∃ v6_vals : Value, j7 = .nx vals_6 ∧ f 2 = .pointer (some ⟨g3, 0, none⟩) ∧ f 5 = v6_vals ∧ Own RP.int 3 w.heap.size B w_ v6_vals vals_6 ∧ (RP.slice 3 RP.int).rel B w.heap.size w_ [v0_1] r_.vars ∧ (RP.slice 3 RP.int).rel B w.heap.size w_ [v0_2] r_.coefs ∧ (RP.slice 22 (RP.slice 3 RP.int)).rel B w.heap.size w_ [v0_4] r_.rows ∧ Blk w_ g3 68 #[.int .i64 r_.kind, v0_1, v0_2, .int .i64 r_.bound, v0_4] ∧ Ext w w_ := ⟨_, rfl⟩
  refine W_join R7 ?_ ?_
  ·
    refine W_block ?_
    obtain ⟨I7, hI7⟩ : ∃ I : Nat → Fr → World → Prop, I = fun n f w_ => ∃ i_5 : Nat, ∃ suf7 : List Int, ∃ vals_6 : List Int, ∃ v6_vals : Value, n = suf7.length ∧ List.drop i_5 r_.vars = suf7 ∧ i_5 + suf7.length = r_.vars.length ∧ rangeL (i_Rule_at_b1 cells) suf7 i_5 vals_6 = some j7 ∧ f 1 = v1 ∧ f 2 = .pointer (some ⟨g3, 0, none⟩) ∧ f 5 = v6_vals ∧ f 9 = v0_1 ∧ f 10 = .int .i64 (r_.vars.length : Int) ∧ f 11 = .int .i64 (i_5 : Int) ∧ (RP.slice 3 RP.int).rel B w.heap.size w_ [v1] cells ∧ Own RP.int 3 w.heap.size B w_ v6_vals vals_6 ∧ (RP.slice 3 RP.int).rel B w.heap.size w_ [v0_1] r_.vars ∧ (RP.slice 3 RP.int).rel B w.heap.size w_ [v0_2] r_.coefs ∧ (RP.slice 22 (RP.slice 3 RP.int)).rel B w.heap.size w_ [v0_4] r_.rows ∧ Blk w_ g3 68 #[.int .i64 r_.kind, v0_1, v0_2, .int .i64 r_.bound, v0_4] ∧ Ext w w_ := ⟨_, rfl⟩
    refine W_loop I7 (n := r_.vars.length) ?_ ?_
    · rw [hI7]; exact ⟨0, r_.vars, [], (.slice none 0 0), rfl, rfl, Nat.zero_add _, hL7, rfl, rfl, rfl, rfl, rfl, rfl, h1, (Own.nil _ _ _ _ _), h0_1, h0_2, h0_4, hb_g3, hx⟩
    ·
      intro n7 f w_ hI
      rw [hI7] at hI
      obtain ⟨i_5, suf7, vals_6, v6_vals, rfl, hd7, hl7, hL7, sf1, sf2, sf5, sf9, sf10, sf11, h1, hv6_vals, h0_1, h0_2, h0_4, hb_g3, hx⟩ := hI
      refine W_seq ?_
      refine W_region ?_
      refine L_lss (m := (i_5 : Int)) (n := (r_.vars.length : Int)) rfl sf11 sf10 ?_
      refine L_nil ?_
      refine W_seq ?_
      refine W_cond (b := decide ((i_5 : Int) < (r_.vars.length : Int))) rfl (fun hc8 => ?_) (fun hc8 => ?_)
      ·
        have hlt7 := of_decide_eq_true hc8
        cases suf7 with
        | nil => exact absurd hlt7 (by simp at hl7; omega)
        | cons x_7 rest7 =>
          obtain ⟨o7, hB7, hL7⟩ := range_cons hL7
          rw [i_Rule_at_b1] at hB7
          have hix7 := drop_idx hd7
          refine W_skip ?_
          refine W_seq ?_
          refine W_block ?_
          refine W_seq ?_
          refine W_region ?_
          refine L_ix (r := RP.int) rfl Try.underlying22 Try.sizeOf3 sf9 h0_1 sf11 hix7 ?_
          intro g11 o12 cs12 hr12 hat12
          obtain rfl : _ = [_] := hr12
          refine L_ld (v := .int .i64 x_7) rfl Try.isAgg3 rfl (hat12.cell (j := 0) rfl) ?_
          refine L_as (v := .int .i64 x_7) rfl rfl ?_
          refine L_nil ?_
          obtain ⟨x13, hx13, hB7⟩ := bind_some hB7
          obtain ⟨x19, hx19, hB7⟩ := bind_some hB7
          refine W_region ?_
          refine L_mv (v := v6_vals) rfl sf5 ?_
          refine L_mv (v := v1) rfl sf1 ?_
          refine L_mv (v := .int .i64 x_7) rfl rfl ?_
          refine L_ix (r := RP.int) rfl Try.underlying22 Try.sizeOf3 rfl h1 rfl hx13 ?_
          intro g22 o23 cs23 hr23 hat23
          obtain rfl : _ = [_] := hr23
          refine L_ld (v := .int .i64 x13) rfl Try.isAgg3 rfl (hat23.cell (j := 0) rfl) ?_
          refine L_bs rfl (parts1 rfl) (bs_22_1_0 (.int .i64 x13) rfl) ?_
          intro g24 w25 hn25
          have ho25 : Own RP.int 3 w.heap.size B w25 _ [x13] := own_new1 hn25 hx.size rfl
          have ap26 := ap_ob hv6_vals hn25
          have h1 := RP.ext h1 hn25.ext
          have hv6_vals := Own.ext hv6_vals hn25.ext
          have h0_1 := RP.ext h0_1 hn25.ext
          have h0_2 := RP.ext h0_2 hn25.ext
          have h0_4 := RP.ext h0_4 hn25.ext
          have hb_g3 := Blk.ext hb_g3 hn25.ext
          have hx := ext_trans hx hn25.ext
          refine L_app (v := v6_vals) (u := (.slice (some ⟨g24, 0, none⟩) 1 1)) rfl et_22 (by decide) rfl rfl hv6_vals (rel0 (Own.rel ho25)) hx19 hx.size hB ?_
          intro v27 w27 ho27 hm27 hb27
          have h1 := hm27.rel_lo h1 (Nat.le_refl _)
          have h0_1 := hm27.rel_lo h0_1 (Nat.le_refl _)
          have h0_2 := hm27.rel_lo h0_2 (Nat.le_refl _)
          have h0_4 := hm27.rel_lo h0_4 (Nat.le_refl _)
          have hb_g3 := hm27.blk hb_g3 (by decide)
          have hx := ext_mut hx hm27 (Nat.le_refl _)
          refine L_as (v := v27) rfl rfl ?_
          refine L_nil ?_
          refine W_region ?_
          refine L_add (m := (i_5 : Int)) (n := 1) rfl sf11 rfl ?_
          refine L_mv (v := .int .i64 (i64 ((i_5 : Int) + 1))) rfl rfl ?_
          refine L_nil ?_
          obtain rfl := so hB7
          show ∃ m, m < _ ∧ I7 m _ _
          refine ⟨rest7.length, by simp, ?_⟩
          rw [hI7]
          exact ⟨i_5 + 1, rest7, x19, v27, rfl, drop_next hd7, by simp at hl7; omega, hL7, sf1, sf2, rfl, sf9, sf10, (Eq.trans rfl (congrArg (Value.int .i64) (i64_succ (n := r_.vars.length) (by simp at hl7; omega) hlen7))), h1, ho27, h0_1, h0_2, h0_4, hb_g3, hx⟩
      ·
        cases suf7 with
        | cons _ _ => exact absurd (of_decide_eq_false hc8) (by simp at hl7; omega)
        | nil =>
          obtain rfl := range_nil hL7
          refine W_exit ?_
          show R7 _ _
          rw [hR7]
          exact ⟨vals_6, v6_vals, rfl, sf2, sf5, hv6_vals, h0_1, h0_2, h0_4, hb_g3, hx⟩
  ·
    intro f w_ hR
    rw [hR7] at hR
    obtain ⟨vals_6, v6_vals, rfl, sf2, sf5, hv6_vals, h0_1, h0_2, h0_4, hb_g3, hx⟩ := hR
    clear hR7
    refine W_seq ?_
    obtain ⟨x28, hx28, hF⟩ := bind_some hF
    refine W_region ?_
    refine L_lda (cs := [.int .i64 r_.kind, v0_1, v0_2, .int .i64 r_.bound, v0_4]) rfl Try.isAgg68 Try.sizeOf68 sf2 (Blk.sub hb_g3 0 5) rfl ?_
    refine L_mv (v := v6_vals) rfl sf5 ?_
    refine L_call (args := #[.agg #[.int .i64 r_.kind, v0_1, v0_2, .int .i64 r_.bound, v0_4], v6_vals]) rfl Try.call74 (ops2 rfl rfl) (i_Rule_holds_c (r_ := r_) (vals := vals_6) (Nat.le_trans hB hx.size) (rel0 h0_1) (rel0 h0_2) (rel0 h0_4) (rel0 (Own.rel hv6_vals)) hx28) ?_
    rintro _ w30 ⟨rfl, he30⟩
    have hv6_vals := Own.ext hv6_vals he30
    have h0_1 := RP.ext h0_1 he30
    have h0_2 := RP.ext h0_2 he30
    have h0_4 := RP.ext h0_4 he30
    have hx := ext_trans hx he30
    refine L_as (v := .bool x28) rfl rfl ?_
    refine L_nil ?_
    refine W_ret ?_
    obtain rfl := so hF
    refine ret1 Try.results57 ?_
    exact ⟨rfl, hx⟩

theorem i_RuleHolds_c {m : Model} {rule : Int} {cells : List Int} {v0_0 : Value} {v0_1 : Value} {v2 : Value} {w : World} {B : Nat} (hB : B ≤ w.heap.size) (h0_0 : (RP.slice 3 RP.int).rel B w.heap.size w [v0_0] m.sizes) (h0_1 : (RP.slice 68 (rRule 3 22)).rel B w.heap.size w [v0_1] m.rules) (h2 : (RP.slice 3 RP.int).rel B w.heap.size w [v2] cells) {r : Bool} (hF : i_RuleHolds m rule cells = some r) :
    C Try.prog 25 #[.agg #[v0_0, v0_1], .int .i64 rule, v2] w fun v w' => (v = .bool r) ∧ Ext w w' := by
  unfold i_RuleHolds at hF
  have hx := ext_refl w
  refine C_enter Try.func25 rfl Try.ntmps25 rfl ?_
  refine W_seq ?_
  refine W_region ?_
  refine L_box (v := .agg #[v0_0, v0_1]) (cs := #[v0_0, v0_1]) rfl rfl rfl ?_
  intro g3 w4 hn4
  have hge_g3 := hn4.ge hx
  have hb_g3 := hn4.blk
  have h0_0 := RP.ext h0_0 hn4.ext
  have h0_1 := RP.ext h0_1 hn4.ext
  have h2 := RP.ext h2 hn4.ext
  have hx := ext_trans hx hn4.ext
  refine L_as (v := .bool false) rfl rfl ?_
  refine L_nil ?_
  refine W_seq ?_
  obtain ⟨x5, hx5, hF⟩ := bind_some hF
  obtain ⟨b9, hb9, hF⟩ := bind_some hF
  obtain ⟨b15, hb15, hF⟩ := bind_some hF
  obtain ⟨R16, hR16⟩ : ∃ R : Fr → World → Prop, R = fun f w_ => f 6 = .bool b15 ∧ Ext w w_ := ⟨_, rfl⟩
  refine W_join R16 ?_ ?_
  ·
    refine W_region ?_
    refine L_lda (cs := [v0_0, v0_1]) rfl Try.isAgg30 Try.sizeOf30 rfl (Blk.sub hb_g3 0 2) rfl ?_
    refine L_mv (v := v2) rfl rfl ?_
    refine L_call (args := #[.agg #[v0_0, v0_1], v2]) rfl Try.call55 (ops2 rfl rfl) (i_CellsValid_c (m := m) (cells := cells) (Nat.le_trans hB hx.size) (rel0 h0_0) (rel0 h0_1) (rel0 h2) hx5) ?_
    rintro _ w17 ⟨rfl, he17⟩
    have h0_0 := RP.ext h0_0 he17
    have h0_1 := RP.ext h0_1 he17
    have h2 := RP.ext h2 he17
    have hb_g3 := Blk.ext hb_g3 he17
    have hx := ext_trans hx he17
    refine L_mv (v := .bool x5) rfl rfl ?_
    refine L_split (d := 10) (b := x5) rfl (fun hc18 => ?_) (fun hc18 => ?_)
    ·
      rw [ite_t hc18] at hb9
      obtain ⟨x7, hx7, hb9⟩ := bind_some hb9
      refine L_lda (cs := [v0_0, v0_1]) rfl Try.isAgg30 Try.sizeOf30 rfl (Blk.sub hb_g3 0 2) rfl ?_
      refine L_mv (v := .int .i64 rule) rfl rfl ?_
      refine L_call (args := #[.agg #[v0_0, v0_1], .int .i64 rule]) rfl Try.call56 (ops2 rfl rfl) (i_isRule_c (m := m) (rule := rule) (Nat.le_trans hB hx.size) (rel0 h0_0) (rel0 h0_1) hx7) ?_
      rintro _ w19 ⟨rfl, he19⟩
      have h0_0 := RP.ext h0_0 he19
      have h0_1 := RP.ext h0_1 he19
      have h2 := RP.ext h2 he19
      have hb_g3 := Blk.ext hb_g3 he19
      have hx := ext_trans hx he19
      refine L_pick (v := .bool b9) rfl rfl (congrArg Value.bool (so hb9)) ?_
      refine L_mv (v := .bool b9) rfl rfl ?_
      refine L_split (d := 15) (b := b9) rfl (fun hc20 => ?_) (fun hc20 => ?_)
      ·
        rw [ite_t hc20] at hb15
        obtain ⟨x10, hx10, hb15⟩ := bind_some hb15
        obtain ⟨x13, hx13, hb15⟩ := bind_some hb15
        refine L_fa (o' := 1) rfl fa_30_1 rfl rfl ?_
        refine L_ld (v := v0_1) rfl Try.isAgg28 rfl (hb_g3.cell (j := 1) rfl) ?_
        refine L_mv (v := .int .i64 rule) rfl rfl ?_
        refine L_ix (r := (rRule 3 22)) rfl Try.underlying28 Try.sizeOf68 rfl h0_1 rfl hx10 ?_
        intro g21 o22 cs22 hr22 hat22
        obtain ⟨u22_0, u22_1, u22_2, rfl, hu22_0, hu22_1, hu22_2⟩ := rRule_iff.1 hr22
        refine L_lda (cs := [.int .i64 x10.kind, u22_0, u22_1, .int .i64 x10.bound, u22_2]) rfl Try.isAgg68 Try.sizeOf68 rfl (At.sub hat22 0 5) rfl ?_
        refine L_mv (v := v2) rfl rfl ?_
        refine L_call (args := #[.agg #[.int .i64 x10.kind, u22_0, u22_1, .int .i64 x10.bound, u22_2], v2]) rfl Try.call57 (ops2 rfl rfl) (i_Rule_at_c (r_ := x10) (cells := cells) (Nat.le_trans hB hx.size) (rel0 hu22_0) (rel0 hu22_1) (rel0 hu22_2) (rel0 h2) hx13) ?_
        rintro _ w23 ⟨rfl, he23⟩
        have h2 := RP.ext h2 he23
        have hu22_0 := RP.ext hu22_0 he23
        have hu22_1 := RP.ext hu22_1 he23
        have hu22_2 := RP.ext hu22_2 he23
        have hx := ext_trans hx he23
        refine L_pick (v := .bool b15) rfl rfl (congrArg Value.bool (so hb15)) ?_
        refine L_as (v := .bool b15) rfl rfl ?_
        refine L_nil ?_
        show R16 _ _
        rw [hR16]
        exact ⟨rfl, hx⟩
      ·
        rw [ite_f hc20] at hb15
        refine L_pass rfl ?_
        refine L_pass rfl ?_
        refine L_pass rfl ?_
        refine L_pass rfl ?_
        refine L_pass rfl ?_
        refine L_pass rfl ?_
        refine L_pass rfl ?_
        refine L_pick (v := .bool b15) rfl rfl (congrArg Value.bool (so hb15)) ?_
        refine L_as (v := .bool b15) rfl rfl ?_
        refine L_nil ?_
        show R16 _ _
        rw [hR16]
        exact ⟨rfl, hx⟩
    ·
      rw [ite_f hc18] at hb9
      refine L_pass rfl ?_
      refine L_pass rfl ?_
      refine L_pass rfl ?_
      refine L_pick (v := .bool b9) rfl rfl (congrArg Value.bool (so hb9)) ?_
      refine L_mv (v := .bool b9) rfl rfl ?_
      refine L_split (d := 15) (b := b9) rfl (fun hc24 => ?_) (fun hc24 => ?_)
      ·
        rw [ite_t hc24] at hb15
        obtain ⟨x10, hx10, hb15⟩ := bind_some hb15
        obtain ⟨x13, hx13, hb15⟩ := bind_some hb15
        refine L_fa (o' := 1) rfl fa_30_1 rfl rfl ?_
        refine L_ld (v := v0_1) rfl Try.isAgg28 rfl (hb_g3.cell (j := 1) rfl) ?_
        refine L_mv (v := .int .i64 rule) rfl rfl ?_
        refine L_ix (r := (rRule 3 22)) rfl Try.underlying28 Try.sizeOf68 rfl h0_1 rfl hx10 ?_
        intro g25 o26 cs26 hr26 hat26
        obtain ⟨u26_0, u26_1, u26_2, rfl, hu26_0, hu26_1, hu26_2⟩ := rRule_iff.1 hr26
        refine L_lda (cs := [.int .i64 x10.kind, u26_0, u26_1, .int .i64 x10.bound, u26_2]) rfl Try.isAgg68 Try.sizeOf68 rfl (At.sub hat26 0 5) rfl ?_
        refine L_mv (v := v2) rfl rfl ?_
        refine L_call (args := #[.agg #[.int .i64 x10.kind, u26_0, u26_1, .int .i64 x10.bound, u26_2], v2]) rfl Try.call57 (ops2 rfl rfl) (i_Rule_at_c (r_ := x10) (cells := cells) (Nat.le_trans hB hx.size) (rel0 hu26_0) (rel0 hu26_1) (rel0 hu26_2) (rel0 h2) hx13) ?_
        rintro _ w27 ⟨rfl, he27⟩
        have h2 := RP.ext h2 he27
        have hu26_0 := RP.ext hu26_0 he27
        have hu26_1 := RP.ext hu26_1 he27
        have hu26_2 := RP.ext hu26_2 he27
        have hx := ext_trans hx he27
        refine L_pick (v := .bool b15) rfl rfl (congrArg Value.bool (so hb15)) ?_
        refine L_as (v := .bool b15) rfl rfl ?_
        refine L_nil ?_
        show R16 _ _
        rw [hR16]
        exact ⟨rfl, hx⟩
      ·
        rw [ite_f hc24] at hb15
        refine L_pass rfl ?_
        refine L_pass rfl ?_
        refine L_pass rfl ?_
        refine L_pass rfl ?_
        refine L_pass rfl ?_
        refine L_pass rfl ?_
        refine L_pass rfl ?_
        refine L_pick (v := .bool b15) rfl rfl (congrArg Value.bool (so hb15)) ?_
        refine L_as (v := .bool b15) rfl rfl ?_
        refine L_nil ?_
        show R16 _ _
        rw [hR16]
        exact ⟨rfl, hx⟩
  ·
    intro f w_ hR
    rw [hR16] at hR
    obtain ⟨sf6, hx⟩ := hR
    clear hR16
    refine W_ret ?_
    obtain rfl := so hF
    refine ret1 Try.results25 ?_
    exact ⟨sf6, hx⟩

theorem l_FnExactRuleHolds_c {fu : Nat} {aM : Model} {aRule : Int} {aCells : List Int} {v0_0 : Value} {v0_1 : Value} {v2 : Value} {w : World} {B : Nat} (hB : B ≤ w.heap.size) (h0_0 : (RP.slice 3 RP.int).rel B w.heap.size w [v0_0] aM.sizes) (h0_1 : (RP.slice 76 (rRule 3 22)).rel B w.heap.size w [v0_1] aM.rules) (h2 : (RP.slice 3 RP.int).rel B w.heap.size w [v2] aCells) {r : Bool} (hF : l_FnExactRuleHolds fu aM aRule aCells = some r) :
    C Try.prog 6 #[.agg #[v0_0, v0_1], .int .i64 aRule, v2] w fun v w' => (v = .bool r) ∧ Ext w w' := by
  unfold l_FnExactRuleHolds at hF
  have hx := ext_refl w
  refine C_enter Try.func6 rfl Try.ntmps6 rfl ?_
  refine W_seq ?_
  refine W_region ?_
  refine L_box (v := .agg #[v0_0, v0_1]) (cs := #[v0_0, v0_1]) rfl rfl rfl ?_
  intro g3 w4 hn4
  have hge_g3 := hn4.ge hx
  have hb_g3 := hn4.blk
  have h0_0 := RP.ext h0_0 hn4.ext
  have h0_1 := RP.ext h0_1 hn4.ext
  have h2 := RP.ext h2 hn4.ext
  have hx := ext_trans hx hn4.ext
  refine L_as (v := .bool false) rfl rfl ?_
  refine L_nil ?_
  refine W_seq ?_
  refine W_seq ?_
  refine W_region ?_
  refine L_mv (v := v2) rfl rfl ?_
  refine L_len (v := v2) rfl Try.underlying22 rfl h2 ?_
  refine L_gtr (m := (aCells.length : Int)) (n := 1048576) rfl rfl rfl ?_
  refine L_nil ?_
  refine W_cond (b := decide ((aCells.length : Int) > 1048576)) rfl (fun hc5 => ?_) (fun hc5 => ?_)
  ·
    have hF := (ite_t hc5).symm.trans hF
    refine W_seq ?_
    refine W_region ?_
    refine L_as (v := .bool true) rfl rfl ?_
    refine L_nil ?_
    refine W_ret ?_
    obtain rfl := so hF
    refine ret1 Try.results6 ?_
    exact ⟨rfl, hx⟩
  ·
    have hF := (ite_f hc5).symm.trans hF
    refine W_skip ?_
    refine W_seq ?_
    refine W_region ?_
    refine L_as (v := .int .i64 1048576) rfl rfl ?_
    refine L_nil ?_
    refine W_seq ?_
    obtain ⟨x6, hx6, hF⟩ := bind_some hF
    refine W_region ?_
    refine L_lda (cs := [v0_0, v0_1]) rfl Try.isAgg25 Try.sizeOf25 rfl (Blk.sub hb_g3 0 2) rfl ?_
    refine L_mv (v := .int .i64 1048576) rfl rfl ?_
    refine L_call (args := #[.agg #[v0_0, v0_1], .int .i64 1048576]) rfl Try.call11 (ops2 rfl rfl) (l_szModel_c (a := aM) (left := 1048576) (Nat.le_trans hB hx.size) (rel0 h0_0) (rel0 h0_1) hx6) ?_
    rintro _ w8 ⟨rfl, he8⟩
    have h0_0 := RP.ext h0_0 he8
    have h0_1 := RP.ext h0_1 he8
    have h2 := RP.ext h2 he8
    have hb_g3 := Blk.ext hb_g3 he8
    have hx := ext_trans hx he8
    refine L_as (v := .int .i64 x6) rfl rfl ?_
    refine L_nil ?_
    refine W_seq ?_
    refine W_seq ?_
    refine W_region ?_
    refine L_mv (v := .int .i64 x6) rfl rfl ?_
    refine L_lss (m := x6) (n := 0) rfl rfl rfl ?_
    refine L_nil ?_
    refine W_cond (b := decide (x6 < 0)) rfl (fun hc9 => ?_) (fun hc9 => ?_)
    ·
      have hF := (ite_t hc9).symm.trans hF
      refine W_seq ?_
      refine W_region ?_
      refine L_as (v := .bool true) rfl rfl ?_
      refine L_nil ?_
      refine W_ret ?_
      obtain rfl := so hF
      refine ret1 Try.results6 ?_
      exact ⟨rfl, hx⟩
    ·
      have hF := (ite_f hc9).symm.trans hF
      refine W_skip ?_
      refine W_seq ?_
      obtain ⟨x10, hx10, hF⟩ := bind_some hF
      obtain ⟨x12, hx12, hF⟩ := bind_some hF
      obtain ⟨x15, hx15, hF⟩ := bind_some hF
      refine W_region ?_
      refine L_lda (cs := [v0_0, v0_1]) rfl Try.isAgg25 Try.sizeOf25 rfl (Blk.sub hb_g3 0 2) rfl ?_
      refine L_call (args := #[.agg #[v0_0, v0_1]]) rfl Try.call13 (ops1 rfl) (l_toModel_c (a := aM) (Nat.le_trans hB hx.size) (rel0 h0_0) (rel0 h0_1) hx10) ?_
      rintro _ w17 ⟨⟨r17_0, r17_1, rfl, hr17_0, hr17_1⟩, he17⟩
      have hr17_0 : Own _ _ w.heap.size B _ _ _ := hr17_0.wide hx.size (Nat.le_refl _)
      have hr17_1 : Own _ _ w.heap.size B _ _ _ := hr17_1.wide hx.size (Nat.le_refl _)
      have h0_0 := RP.ext h0_0 he17
      have h0_1 := RP.ext h0_1 he17
      have h2 := RP.ext h2 he17
      have hb_g3 := Blk.ext hb_g3 he17
      have hx := ext_trans hx he17
      refine L_mv (v := .int .i64 aRule) rfl rfl ?_
      refine L_mv (v := v2) rfl rfl ?_
      refine L_call (args := #[v2]) rfl Try.call24 (ops1 rfl) (l_toIntS_c (a := aCells) (Nat.le_trans hB hx.size) (rel0 h2) hx12) ?_
      rintro r18_0 w18 ⟨⟨_, rfl, hr18_0⟩, he18⟩
      have ap19 := ap_oc hr17_0 hr18_0
      have hr18_0 : Own _ _ w.heap.size B _ _ _ := hr18_0.wide hx.size (Nat.le_refl _)
      have h0_0 := RP.ext h0_0 he18
      have h0_1 := RP.ext h0_1 he18
      have h2 := RP.ext h2 he18
      have hb_g3 := Blk.ext hb_g3 he18
      have hr17_0 := Own.ext hr17_0 he18
      have hr17_1 := Own.ext hr17_1 he18
      have hx := ext_trans hx he18
      refine L_call (args := #[.agg #[r17_0, r17_1], .int .i64 aRule, r18_0]) rfl Try.call23 (ops3 rfl rfl rfl) (s_RuleHolds_c (m := x10) (rule := aRule) (cells := x12) (Nat.le_trans hB hx.size) (rel0 (Own.rel hr17_0)) (rel0 (Own.rel hr17_1)) (rel0 (Own.rel hr18_0)) hx15) ?_
      rintro _ w20 ⟨rfl, he20⟩
      have h0_0 := RP.ext h0_0 he20
      have h0_1 := RP.ext h0_1 he20
      have h2 := RP.ext h2 he20
      have hb_g3 := Blk.ext hb_g3 he20
      have hr17_0 := Own.ext hr17_0 he20
      have hr17_1 := Own.ext hr17_1 he20
      have hr18_0 := Own.ext hr18_0 he20
      have hx := ext_trans hx he20
      refine L_as (v := .bool x15) rfl rfl ?_
      refine L_nil ?_
      refine W_seq ?_
      obtain ⟨x21, hx21, hF⟩ := bind_some hF
      refine W_region ?_
      refine L_lda (cs := [v0_0, v0_1]) rfl Try.isAgg25 Try.sizeOf25 rfl (Blk.sub hb_g3 0 2) rfl ?_
      refine L_call (args := #[.agg #[v0_0, v0_1]]) rfl Try.call13 (ops1 rfl) (l_toModel_c (a := aM) (Nat.le_trans hB hx.size) (rel0 h0_0) (rel0 h0_1) hx21) ?_
      rintro _ w26 ⟨⟨r26_0, r26_1, rfl, hr26_0, hr26_1⟩, he26⟩
      have hr26_0 : Own _ _ w.heap.size B _ _ _ := hr26_0.wide hx.size (Nat.le_refl _)
      have hr26_1 : Own _ _ w.heap.size B _ _ _ := hr26_1.wide hx.size (Nat.le_refl _)
      have h0_0 := RP.ext h0_0 he26
      have h0_1 := RP.ext h0_1 he26
      have h2 := RP.ext h2 he26
      have hb_g3 := Blk.ext hb_g3 he26
      have hx := ext_trans hx he26
      refine L_al (cs := #[(.slice none 0 0), (.slice none 0 0)]) rfl Try.zeroValue30 rfl ?_
      intro g27 w28 hn28
      have hge_g27 := hn28.ge hx
      have hb_g27 := hn28.blk
      have h0_0 := RP.ext h0_0 hn28.ext
      have h0_1 := RP.ext h0_1 hn28.ext
      have h2 := RP.ext h2 hn28.ext
      have hb_g3 := Blk.ext hb_g3 hn28.ext
      have hr26_0 := Own.ext hr26_0 hn28.ext
      have hr26_1 := Own.ext hr26_1 hn28.ext
      have hx := ext_trans hx hn28.ext
      refine L_sta (vs := #[r26_0, r26_1]) rfl Try.sizeOf30 rfl rfl rfl (ones_cons (one_of (Own.rel hr26_0)) (ones_cons (one_of (Own.rel hr26_1)) ones_nil)) hb_g27 rfl ?_
      intro w29 hp29
      have h0_0 := hp29.mu.rel h0_0 (by decide) (Nat.le_trans hB hge_g27)
      have h0_1 := hp29.mu.rel h0_1 (by decide) (Nat.le_trans hB hge_g27)
      have h2 := hp29.mu.rel h2 (by decide) (Nat.le_trans hB hge_g27)
      have hb_g3 := hp29.mu.blk hb_g3 (by decide)
      have hr26_0 := hp29.mu.ownT hr26_0 (by decide) (by decide) (Nat.le_trans hB hge_g27)
      have hr26_1 := hp29.mu.ownT hr26_1 (by decide) (by decide) (Nat.le_trans hB hge_g27)
      have hx := ext_mut hx hp29.mu hge_g27
      have hb_g27 : Blk w29 g27 30 #[r26_0, r26_1] := hp29.blk
      refine L_nil ?_
      refine W_seq ?_
      obtain ⟨x30, hx30, hF⟩ := bind_some hF
      refine W_region ?_
      refine L_mv (v := v2) rfl rfl ?_
      refine L_call (args := #[v2]) rfl Try.call24 (ops1 rfl) (l_toIntS_c (a := aCells) (Nat.le_trans hB hx.size) (rel0 h2) hx30) ?_
      rintro r33_0 w33 ⟨⟨_, rfl, hr33_0⟩, he33⟩
      have ap34 := ap_oc hr26_0 hr33_0
      have hr33_0 : Own _ _ w.heap.size B _ _ _ := hr33_0.wide hx.size (Nat.le_refl _)
      have h0_0 := RP.ext h0_0 he33
      have h0_1 := RP.ext h0_1 he33
      have h2 := RP.ext h2 he33
      have hb_g3 := Blk.ext hb_g3 he33
      have hr26_0 := Own.ext hr26_0 he33
      have hr26_1 := Own.ext hr26_1 he33
      have hb_g27 := Blk.ext hb_g27 he33
      have hx := ext_trans hx he33
      refine L_as (v := r33_0) rfl rfl ?_
      refine L_nil ?_
      refine W_seq ?_
      obtain ⟨x35, hx35, hF⟩ := bind_some hF
      refine W_region ?_
      refine L_lda (cs := [r26_0, r26_1]) rfl Try.isAgg30 Try.sizeOf30 rfl (Blk.sub hb_g27 0 2) rfl ?_
      refine L_mv (v := .int .i64 aRule) rfl rfl ?_
      refine L_mv (v := r33_0) rfl rfl ?_
      refine L_call (args := #[.agg #[r26_0, r26_1], .int .i64 aRule, r33_0]) rfl Try.call25 (ops3 rfl rfl rfl) (i_RuleHolds_c (m := x21) (rule := aRule) (cells := x30) (Nat.le_trans hB hx.size) (rel0 (Own.rel hr26_0)) (rel0 (Own.rel hr26_1)) (rel0 (Own.rel hr33_0)) hx35) ?_
      rintro _ w37 ⟨rfl, he37⟩
      have h0_0 := RP.ext h0_0 he37
      have h0_1 := RP.ext h0_1 he37
      have h2 := RP.ext h2 he37
      have hb_g3 := Blk.ext hb_g3 he37
      have hr26_0 := Own.ext hr26_0 he37
      have hr26_1 := Own.ext hr26_1 he37
      have hb_g27 := Blk.ext hb_g27 he37
      have hr33_0 := Own.ext hr33_0 he37
      have hx := ext_trans hx he37
      refine L_as (v := .bool x35) rfl rfl ?_
      refine L_nil ?_
      refine W_seq ?_
      refine W_seq ?_
      refine W_region ?_
      refine L_mv (v := .bool x35) rfl rfl ?_
      refine L_mv (v := .bool x15) rfl rfl ?_
      refine L_bneq (b := x35) (c := x15) rfl Try.underlying4 rfl rfl ?_
      refine L_nil ?_
      refine W_cond (b := (x35 != x15)) rfl (fun hc38 => ?_) (fun hc38 => ?_)
      ·
        have hF := (ite_t hc38).symm.trans hF
        refine W_seq ?_
        refine W_region ?_
        refine L_as (v := .bool false) rfl rfl ?_
        refine L_nil ?_
        refine W_ret ?_
        obtain rfl := so hF
        refine ret1 Try.results6 ?_
        exact ⟨rfl, hx⟩
      ·
        have hF := (ite_f hc38).symm.trans hF
        refine W_skip ?_
        refine W_seq ?_
        refine W_seq ?_
        obtain ⟨x39, hx39, hF⟩ := bind_some hF
        obtain ⟨x44, hx44, hF⟩ := bind_some hF
        refine W_drawL 3 [isV (.agg #[r26_0, r26_1]), isV (.agg #[v0_0, v0_1]), isAgg_ B (rModel 3 22 68) x39] Try_mix (by kernel_rfl) (am_cons (mono_V _) (am_cons (mono_V _) (am_cons (mono_agg _ _ _) am_nil))) ?_ (fun f w_ hS hE hT => ?_)
        ·
          refine ops_cons (fun f w_ hS hE hP => ?_) ?_
          ·
            have hx := ext_trans hx hE
            have hr26_0 := Own.ext hr26_0 hE
            have hr26_1 := Own.ext hr26_1 hE
            have hb_g27 := Blk.ext hb_g27 hE
            refine L_lda (cs := [r26_0, r26_1]) rfl Try.isAgg30 Try.sizeOf30 ((hS 9 rfl).trans rfl) (Blk.sub hb_g27 0 2) rfl ?_
            exact L_nil ⟨rfl, (ext_refl _), _, _, rfl, rfl, rfl⟩
          refine ops_cons (fun f w_ hS hE hP => ?_) ?_
          ·
            have hx := ext_trans hx hE
            have h0_0 := RP.ext h0_0 hE
            have h0_1 := RP.ext h0_1 hE
            have hb_g3 := Blk.ext hb_g3 hE
            refine L_lda (cs := [v0_0, v0_1]) rfl Try.isAgg25 Try.sizeOf25 ((hS 3 rfl).trans rfl) (Blk.sub hb_g3 0 2) rfl ?_
            exact L_nil ⟨rfl, (ext_refl _), _, _, rfl, rfl, rfl⟩
          refine ops_cons (fun f w_ hS hE hP => ?_) ?_
          ·
            have hx := ext_trans hx hE
            have h0_0 := RP.ext h0_0 hE
            have h0_1 := RP.ext h0_1 hE
            refine L_call (args := #[.agg #[v0_0, v0_1]]) rfl Try.call13 (ops1 (hP 1 38 rfl rfl)) (l_toModel_c (a := aM) (Nat.le_trans hB hx.size) (rel0 h0_0) (rel0 h0_1) hx39) ?_
            rintro _ w50 ⟨⟨r50_0, r50_1, rfl, hr50_0, hr50_1⟩, he50⟩
            have hr50_0 : Own _ _ w.heap.size B _ _ _ := hr50_0.wide hx.size (Nat.le_refl _)
            have hr50_1 : Own _ _ w.heap.size B _ _ _ := hr50_1.wide hx.size (Nat.le_refl _)
            have h0_0 := RP.ext h0_0 he50
            have h0_1 := RP.ext h0_1 he50
            have hx := ext_trans hx he50
            exact L_nil ⟨rfl, he50, _, _, rfl, rfl, ⟨[r50_0, r50_1], rfl, (rModel_iff.2 ⟨_, _, rfl, (rel0 (Own.rel hr50_0)), (rel0 (Own.rel hr50_1))⟩)⟩⟩
          exact ops_nil
        ·
          have h0_0 := RP.ext h0_0 hE
          have h0_1 := RP.ext h0_1 hE
          have h2 := RP.ext h2 hE
          have hb_g3 := Blk.ext hb_g3 hE
          have hr26_0 := Own.ext hr26_0 hE
          have hr26_1 := Own.ext hr26_1 hE
          have hb_g27 := Blk.ext hb_g27 hE
          have hr33_0 := Own.ext hr33_0 hE
          have hx := ext_trans hx hE
          obtain ⟨cs51, hv51, hr51⟩ := (hT 2 39 rfl rfl)
          obtain ⟨u51_0, u51_1, rfl, hu51_0, hu51_1⟩ := rModel_iff.1 hr51
          refine L_call (args := #[.agg #[r26_0, r26_1], .agg #[u51_0, u51_1]]) rfl Try.call15 (ops2 (hT 0 37 rfl rfl) hv51) (l_eqModel_c (a := x21) (b := x39) (Nat.le_trans hB hx.size) (rel0 (Own.rel hr26_0)) (rel0 (Own.rel hr26_1)) (rel0 hu51_0) (rel0 hu51_1) hx44) ?_
          rintro _ w52 ⟨rfl, he52⟩
          have h2 := RP.ext h2 he52
          have hr26_0 := Own.ext hr26_0 he52
          have hr26_1 := Own.ext hr26_1 he52
          have hr33_0 := Own.ext hr33_0 he52
          have hu51_0 := RP.ext hu51_0 he52
          have hu51_1 := RP.ext hu51_1 he52
          have hx := ext_trans hx he52
          refine L_not_ (b := x44) rfl rfl ?_
          refine L_nil ?_
          refine W_cond (b := (!x44)) rfl (fun hc53 => ?_) (fun hc53 => ?_)
          ·
            have hF := (ite_t hc53).symm.trans hF
            refine W_seq ?_
            refine W_region ?_
            refine L_as (v := .bool false) rfl rfl ?_
            refine L_nil ?_
            refine W_ret ?_
            obtain rfl := so hF
            refine ret1 Try.results6 ?_
            exact ⟨rfl, hx⟩
          ·
            have hF := (ite_f hc53).symm.trans hF
            refine W_skip ?_
            refine W_seq ?_
            refine W_seq ?_
            obtain ⟨x54, hx54, hF⟩ := bind_some hF
            obtain ⟨x57, hx57, hF⟩ := bind_some hF
            refine W_region ?_
            refine L_mv (v := r33_0) rfl ((hS 10 rfl).trans rfl) ?_
            refine L_mv (v := v2) rfl ((hS 2 rfl).trans rfl) ?_
            refine L_call (args := #[v2]) rfl Try.call24 (ops1 rfl) (l_toIntS_c (a := aCells) (Nat.le_trans hB hx.size) (rel0 h2) hx54) ?_
            rintro r59_0 w59 ⟨⟨_, rfl, hr59_0⟩, he59⟩
            have ap60 := ap_oc hr33_0 hr59_0
            have hr59_0 : Own _ _ w.heap.size B _ _ _ := hr59_0.wide hx.size (Nat.le_refl _)
            have h2 := RP.ext h2 he59
            have hr33_0 := Own.ext hr33_0 he59
            have hx := ext_trans hx he59
            refine L_call (args := #[r33_0, r59_0]) rfl Try.call26 (ops2 rfl rfl) (l_eqIntS_c (a := x30) (b := x54) (Nat.le_trans hB hx.size) (rel0 (Own.rel hr33_0)) (rel0 (Own.rel hr59_0)) hx57) ?_
            rintro _ w61 ⟨rfl, he61⟩
            have hr33_0 := Own.ext hr33_0 he61
            have hr59_0 := Own.ext hr59_0 he61
            have hx := ext_trans hx he61
            refine L_not_ (b := x57) rfl rfl ?_
            refine L_nil ?_
            refine W_cond (b := (!x57)) rfl (fun hc62 => ?_) (fun hc62 => ?_)
            ·
              have hF := (ite_t hc62).symm.trans hF
              refine W_seq ?_
              refine W_region ?_
              refine L_as (v := .bool false) rfl rfl ?_
              refine L_nil ?_
              refine W_ret ?_
              obtain rfl := so hF
              refine ret1 Try.results6 ?_
              exact ⟨rfl, hx⟩
            ·
              have hF := (ite_f hc62).symm.trans hF
              refine W_skip ?_
              refine W_seq ?_
              refine W_region ?_
              refine L_as (v := .bool true) rfl rfl ?_
              refine L_nil ?_
              refine W_ret ?_
              obtain rfl := so hF
              refine ret1 Try.results6 ?_
              exact ⟨rfl, hx⟩

theorem s_l6Solves_c {m : Model} {cells : List Int} {v0_0 : Value} {v0_1 : Value} {v1 : Value} {w : World} {B : Nat} (hB : B ≤ w.heap.size) (h0_0 : (RP.slice 3 RP.int).rel B w.heap.size w [v0_0] m.sizes) (h0_1 : (RP.slice 68 (rRule 3 22)).rel B w.heap.size w [v0_1] m.rules) (h1 : (RP.slice 3 RP.int).rel B w.heap.size w [v1] cells) {r : Bool} (hF : s_l6Solves m cells = some r) :
    C Try.prog 59 #[.agg #[v0_0, v0_1], v1] w fun v w' => (v = .bool r) ∧ Ext w w' := by
  unfold s_l6Solves at hF
  have hx := ext_refl w
  refine C_enter Try.func59 rfl Try.ntmps59 rfl ?_
  refine W_seq ?_
  refine W_region ?_
  refine L_box (v := .agg #[v0_0, v0_1]) (cs := #[v0_0, v0_1]) rfl rfl rfl ?_
  intro g3 w4 hn4
  have hge_g3 := hn4.ge hx
  have hb_g3 := hn4.blk
  have h0_0 := RP.ext h0_0 hn4.ext
  have h0_1 := RP.ext h0_1 hn4.ext
  have h1 := RP.ext h1 hn4.ext
  have hx := ext_trans hx hn4.ext
  refine L_as (v := .bool false) rfl rfl ?_
  refine L_nil ?_
  refine W_seq ?_
  refine W_seq ?_
  refine W_region ?_
  refine L_as (v := .int .i64 0) rfl rfl ?_
  refine L_nil ?_
  have hlen6 := len_le h0_1
  obtain ⟨j6, hL6, hF⟩ := bind_some hF
  obtain ⟨R6, hR6⟩ : ∃ R : Fr → World → Prop, R = fun f w_ => j6 = .nx () ∧ Ext w w_ := ⟨_, rfl⟩
  refine W_join R6 ?_ ?_
  ·
    refine W_block ?_
    obtain ⟨I6, hI6⟩ : ∃ I : Nat → Fr → World → Prop, I = fun n f w_ => ∃ i_5 : Nat, ∃ suf6 : List Rule, n = suf6.length ∧ List.drop i_5 m.rules = suf6 ∧ i_5 + suf6.length = m.rules.length ∧ rangeL (s_l6Solves_b1 cells) suf6 i_5 () = some j6 ∧ f 1 = v1 ∧ f 2 = .pointer (some ⟨g3, 0, none⟩) ∧ f 5 = .int .i64 (i_5 : Int) ∧ (RP.slice 3 RP.int).rel B w.heap.size w_ [v1] cells ∧ (RP.slice 3 RP.int).rel B w.heap.size w_ [v0_0] m.sizes ∧ (RP.slice 68 (rRule 3 22)).rel B w.heap.size w_ [v0_1] m.rules ∧ Blk w_ g3 30 #[v0_0, v0_1] ∧ Ext w w_ := ⟨_, rfl⟩
    refine W_loop I6 (n := m.rules.length) ?_ ?_
    · rw [hI6]; exact ⟨0, m.rules, rfl, rfl, Nat.zero_add _, hL6, rfl, rfl, rfl, h1, h0_0, h0_1, hb_g3, hx⟩
    ·
      intro n6 f w_ hI
      rw [hI6] at hI
      obtain ⟨i_5, suf6, rfl, hd6, hl6, hL6, sf1, sf2, sf5, h1, h0_0, h0_1, hb_g3, hx⟩ := hI
      refine W_seq ?_
      refine W_seq ?_
      refine W_region ?_
      refine L_mv (v := .int .i64 (i_5 : Int)) rfl sf5 ?_
      refine L_fa (o' := 1) rfl fa_30_1 sf2 rfl ?_
      refine L_ld (v := v0_1) rfl Try.isAgg28 rfl (hb_g3.cell (j := 1) rfl) ?_
      refine L_len (v := v0_1) rfl Try.underlying28 rfl h0_1 ?_
      refine L_lss (m := (i_5 : Int)) (n := (m.rules.length : Int)) rfl rfl rfl ?_
      refine L_nil ?_
      refine W_cond (b := decide ((i_5 : Int) < (m.rules.length : Int))) rfl (fun hc7 => ?_) (fun hc7 => ?_)
      ·
        have hlt6 := of_decide_eq_true hc7
        cases suf6 with
        | nil => exact absurd hlt6 (by simp at hl6; omega)
        | cons x_6 rest6 =>
          obtain ⟨o6, hB6, hL6⟩ := range_cons hL6
          rw [s_l6Solves_b1] at hB6
          have hix6 := drop_idx hd6
          refine W_skip ?_
          refine W_seq ?_
          refine W_block ?_
          refine W_seq ?_
          obtain ⟨x10, hx10, hB6⟩ := bind_some hB6
          refine W_region ?_
          refine L_fa (o' := 1) rfl fa_30_1 sf2 rfl ?_
          refine L_ld (v := v0_1) rfl Try.isAgg28 rfl (hb_g3.cell (j := 1) rfl) ?_
          refine L_mv (v := .int .i64 (i_5 : Int)) rfl sf5 ?_
          refine L_ix (r := (rRule 3 22)) rfl Try.underlying28 Try.sizeOf68 rfl h0_1 rfl hix6 ?_
          intro g12 o13 cs13 hr13 hat13
          obtain ⟨u13_0, u13_1, u13_2, rfl, hu13_0, hu13_1, hu13_2⟩ := rRule_iff.1 hr13
          refine L_lda (cs := [.int .i64 x_6.kind, u13_0, u13_1, .int .i64 x_6.bound, u13_2]) rfl Try.isAgg68 Try.sizeOf68 rfl (At.sub hat13 0 5) rfl ?_
          refine L_mv (v := v1) rfl sf1 ?_
          refine L_call (args := #[.agg #[.int .i64 x_6.kind, u13_0, u13_1, .int .i64 x_6.bound, u13_2], v1]) rfl Try.call54 (ops2 rfl rfl) (s_l6Holds_c (r_ := x_6) (cells := cells) (Nat.le_trans hB hx.size) (rel0 hu13_0) (rel0 hu13_1) (rel0 hu13_2) (rel0 h1) hx10) ?_
          rintro _ w14 ⟨rfl, he14⟩
          have h1 := RP.ext h1 he14
          have h0_0 := RP.ext h0_0 he14
          have h0_1 := RP.ext h0_1 he14
          have hb_g3 := Blk.ext hb_g3 he14
          have hu13_0 := RP.ext hu13_0 he14
          have hu13_1 := RP.ext hu13_1 he14
          have hu13_2 := RP.ext hu13_2 he14
          have hx := ext_trans hx he14
          refine L_not_ (b := x10) rfl rfl ?_
          refine L_nil ?_
          refine W_cond (b := (!x10)) rfl (fun hc15 => ?_) (fun hc15 => ?_)
          ·
            have hB6 := (ite_t hc15).symm.trans hB6
            refine W_seq ?_
            refine W_region ?_
            refine L_as (v := .bool false) rfl rfl ?_
            refine L_nil ?_
            refine W_ret ?_
            obtain rfl := so hB6
            obtain rfl := so hL6
            obtain rfl := so hF
            refine ret1 Try.results59 ?_
            exact ⟨rfl, hx⟩
          ·
            have hB6 := (ite_f hc15).symm.trans hB6
            refine W_skip ?_
            refine W_region ?_
            refine L_mv (v := .int .i64 (i_5 : Int)) rfl sf5 ?_
            refine L_add (m := (i_5 : Int)) (n := 1) rfl rfl rfl ?_
            refine L_as (v := .int .i64 (i64 ((i_5 : Int) + 1))) rfl rfl ?_
            refine L_nil ?_
            obtain rfl := so hB6
            show ∃ m, m < _ ∧ I6 m _ _
            refine ⟨rest6.length, by simp, ?_⟩
            rw [hI6]
            exact ⟨i_5 + 1, rest6, rfl, drop_next hd6, by simp at hl6; omega, hL6, sf1, sf2, (Eq.trans rfl (congrArg (Value.int .i64) (i64_succ (n := m.rules.length) (by simp at hl6; omega) hlen6))), h1, h0_0, h0_1, hb_g3, hx⟩
      ·
        cases suf6 with
        | cons _ _ => exact absurd (of_decide_eq_false hc7) (by simp at hl6; omega)
        | nil =>
          obtain rfl := range_nil hL6
          refine W_exit ?_
          show R6 _ _
          rw [hR6]
          exact ⟨rfl, hx⟩
  ·
    intro f w_ hR
    rw [hR6] at hR
    obtain ⟨rfl, hx⟩ := hR
    clear hR6
    refine W_seq ?_
    refine W_region ?_
    refine L_as (v := .bool true) rfl rfl ?_
    refine L_nil ?_
    refine W_ret ?_
    obtain rfl := so hF
    refine ret1 Try.results59 ?_
    exact ⟨rfl, hx⟩

theorem s_SolvesModel_c {fu : Nat} {m : Model} {cells : List Int} {v0_0 : Value} {v0_1 : Value} {v1 : Value} {w : World} {B : Nat} (hB : B ≤ w.heap.size) (h0_0 : (RP.slice 3 RP.int).rel B w.heap.size w [v0_0] m.sizes) (h0_1 : (RP.slice 68 (rRule 3 22)).rel B w.heap.size w [v0_1] m.rules) (h1 : (RP.slice 3 RP.int).rel B w.heap.size w [v1] cells) {r : Bool} (hF : s_SolvesModel fu m cells = some r) :
    C Try.prog 34 #[.agg #[v0_0, v0_1], v1] w fun v w' => (v = .bool r) ∧ Ext w w' := by
  unfold s_SolvesModel at hF
  have hx := ext_refl w
  refine C_enter Try.func34 rfl Try.ntmps34 rfl ?_
  refine W_seq ?_
  refine W_region ?_
  refine L_box (v := .agg #[v0_0, v0_1]) (cs := #[v0_0, v0_1]) rfl rfl rfl ?_
  intro g3 w4 hn4
  have hge_g3 := hn4.ge hx
  have hb_g3 := hn4.blk
  have h0_0 := RP.ext h0_0 hn4.ext
  have h0_1 := RP.ext h0_1 hn4.ext
  have h1 := RP.ext h1 hn4.ext
  have hx := ext_trans hx hn4.ext
  refine L_as (v := .bool false) rfl rfl ?_
  refine L_nil ?_
  refine W_seq ?_
  obtain ⟨x5, hx5, hF⟩ := bind_some hF
  obtain ⟨b9, hb9, hF⟩ := bind_some hF
  obtain ⟨R10, hR10⟩ : ∃ R : Fr → World → Prop, R = fun f w_ => f 4 = .bool b9 ∧ Ext w w_ := ⟨_, rfl⟩
  refine W_join R10 ?_ ?_
  ·
    refine W_region ?_
    refine L_lda (cs := [v0_0, v0_1]) rfl Try.isAgg30 Try.sizeOf30 rfl (Blk.sub hb_g3 0 2) rfl ?_
    refine L_mv (v := v1) rfl rfl ?_
    refine L_call (args := #[.agg #[v0_0, v0_1], v1]) rfl Try.call53 (ops2 rfl rfl) (s_CellsValid_c (m := m) (cells := cells) (Nat.le_trans hB hx.size) (rel0 h0_0) (rel0 h0_1) (rel0 h1) hx5) ?_
    rintro _ w11 ⟨rfl, he11⟩
    have h0_0 := RP.ext h0_0 he11
    have h0_1 := RP.ext h0_1 he11
    have h1 := RP.ext h1 he11
    have hb_g3 := Blk.ext hb_g3 he11
    have hx := ext_trans hx he11
    refine L_mv (v := .bool x5) rfl rfl ?_
    refine L_split (d := 8) (b := x5) rfl (fun hc12 => ?_) (fun hc12 => ?_)
    ·
      rw [ite_t hc12] at hb9
      obtain ⟨x7, hx7, hb9⟩ := bind_some hb9
      refine L_lda (cs := [v0_0, v0_1]) rfl Try.isAgg30 Try.sizeOf30 rfl (Blk.sub hb_g3 0 2) rfl ?_
      refine L_mv (v := v1) rfl rfl ?_
      refine L_call (args := #[.agg #[v0_0, v0_1], v1]) rfl Try.call59 (ops2 rfl rfl) (s_l6Solves_c (m := m) (cells := cells) (Nat.le_trans hB hx.size) (rel0 h0_0) (rel0 h0_1) (rel0 h1) hx7) ?_
      rintro _ w13 ⟨rfl, he13⟩
      have h0_0 := RP.ext h0_0 he13
      have h0_1 := RP.ext h0_1 he13
      have h1 := RP.ext h1 he13
      have hx := ext_trans hx he13
      refine L_pick (v := .bool b9) rfl rfl (congrArg Value.bool (so hb9)) ?_
      refine L_as (v := .bool b9) rfl rfl ?_
      refine L_nil ?_
      show R10 _ _
      rw [hR10]
      exact ⟨rfl, hx⟩
    ·
      rw [ite_f hc12] at hb9
      refine L_pass rfl ?_
      refine L_pass rfl ?_
      refine L_pass rfl ?_
      refine L_pick (v := .bool b9) rfl rfl (congrArg Value.bool (so hb9)) ?_
      refine L_as (v := .bool b9) rfl rfl ?_
      refine L_nil ?_
      show R10 _ _
      rw [hR10]
      exact ⟨rfl, hx⟩
  ·
    intro f w_ hR
    rw [hR10] at hR
    obtain ⟨sf4, hx⟩ := hR
    clear hR10
    refine W_ret ?_
    obtain rfl := so hF
    refine ret1 Try.results34 ?_
    exact ⟨sf4, hx⟩

theorem i_Model_solves_1_c {c1 : List Int} {r_ : Rule} {v0_1 : Value} {v0_2 : Value} {v0_4 : Value} {g_c1 : Nat} {v1_0 : Value} {w : World} {B : Nat} (hB : B ≤ w.heap.size) (h0_1 : (RP.slice 3 RP.int).rel B w.heap.size w [v0_1] r_.vars) (h0_2 : (RP.slice 3 RP.int).rel B w.heap.size w [v0_2] r_.coefs) (h0_4 : (RP.slice 22 (RP.slice 3 RP.int)).rel B w.heap.size w [v0_4] r_.rows) (hat_g_c1 : At w g_c1 0 [v1_0]) (h1_0 : (RP.slice 3 RP.int).rel B w.heap.size w [v1_0] c1) {r : Bool} (hF : i_Model_solves_1 c1 r_ = some r) :
    C Try.prog 76 #[.agg #[.int .i64 r_.kind, v0_1, v0_2, .int .i64 r_.bound, v0_4], .pointer (some ⟨g_c1, 0, none⟩)] w fun v w' => (v = .bool r) ∧ Ext w w' := by
  unfold i_Model_solves_1 at hF
  have hlt_g_c1 := hat_g_c1.lt
  have hx := ext_refl w
  refine C_enter Try.func76 rfl Try.ntmps76 rfl ?_
  refine W_seq ?_
  refine W_region ?_
  refine L_box (v := .agg #[.int .i64 r_.kind, v0_1, v0_2, .int .i64 r_.bound, v0_4]) (cs := #[.int .i64 r_.kind, v0_1, v0_2, .int .i64 r_.bound, v0_4]) rfl rfl rfl ?_
  intro g3 w4 hn4
  have hge_g3 := hn4.ge hx
  have hb_g3 := hn4.blk
  have h0_1 := RP.ext h0_1 hn4.ext
  have h0_2 := RP.ext h0_2 hn4.ext
  have h0_4 := RP.ext h0_4 hn4.ext
  have h1_0 := RP.ext h1_0 hn4.ext
  have hat_g_c1 := At.ext hat_g_c1 hn4.ext
  have hx := ext_trans hx hn4.ext
  refine L_as (v := .bool false) rfl rfl ?_
  refine L_nil ?_
  refine W_seq ?_
  obtain ⟨x5, hx5, hF⟩ := bind_some hF
  refine W_region ?_
  refine L_lda (cs := [.int .i64 r_.kind, v0_1, v0_2, .int .i64 r_.bound, v0_4]) rfl Try.isAgg68 Try.sizeOf68 rfl (Blk.sub hb_g3 0 5) rfl ?_
  refine L_ld (v := v1_0) rfl Try.isAgg22 rfl (hat_g_c1.cell (j := 0) rfl) ?_
  refine L_call (args := #[.agg #[.int .i64 r_.kind, v0_1, v0_2, .int .i64 r_.bound, v0_4], v1_0]) rfl Try.call57 (ops2 rfl rfl) (i_Rule_at_c (r_ := r_) (cells := c1) (Nat.le_trans hB hx.size) (rel0 h0_1) (rel0 h0_2) (rel0 h0_4) (rel0 h1_0) hx5) ?_
  rintro _ w7 ⟨rfl, he7⟩
  have h0_1 := RP.ext h0_1 he7
  have h0_2 := RP.ext h0_2 he7
  have h0_4 := RP.ext h0_4 he7
  have h1_0 := RP.ext h1_0 he7
  have hx := ext_trans hx he7
  refine L_not_ (b := x5) rfl rfl ?_
  refine L_as (v := .bool (!x5)) rfl rfl ?_
  refine L_nil ?_
  refine W_ret ?_
  obtain rfl := so hF
  refine ret1 Try.results76 ?_
  exact ⟨rfl, hx⟩

theorem i_Model_solves_c {m : Model} {cells : List Int} {v0_0 : Value} {v0_1 : Value} {v1 : Value} {w : World} {B : Nat} (hB : B ≤ w.heap.size) (h0_0 : (RP.slice 3 RP.int).rel B w.heap.size w [v0_0] m.sizes) (h0_1 : (RP.slice 68 (rRule 3 22)).rel B w.heap.size w [v0_1] m.rules) (h1 : (RP.slice 3 RP.int).rel B w.heap.size w [v1] cells) {r : Bool} (hF : i_Model_solves m cells = some r) :
    C Try.prog 60 #[.agg #[v0_0, v0_1], v1] w fun v w' => (v = .bool r) ∧ Ext w w' := by
  unfold i_Model_solves at hF
  have hx := ext_refl w
  refine C_enter Try.func60 rfl Try.ntmps60 rfl ?_
  refine W_seq ?_
  refine W_region ?_
  refine L_box (v := .agg #[v0_0, v0_1]) (cs := #[v0_0, v0_1]) rfl rfl rfl ?_
  intro g5 w6 hn6
  have hge_g5 := hn6.ge hx
  have hb_g5 := hn6.blk
  have h0_0 := RP.ext h0_0 hn6.ext
  have h0_1 := RP.ext h0_1 hn6.ext
  have h1 := RP.ext h1 hn6.ext
  have hx := ext_trans hx hn6.ext
  refine L_box (v := v1) (cs := #[v1]) rfl rfl (cells_one (one_of h1)) ?_
  intro g7 w8 hn8
  have hge_g7 := hn8.ge hx
  have hb_g7 := hn8.blk
  have h0_0 := RP.ext h0_0 hn8.ext
  have h0_1 := RP.ext h0_1 hn8.ext
  have h1 := RP.ext h1 hn8.ext
  have hb_g5 := Blk.ext hb_g5 hn8.ext
  have hx := ext_trans hx hn8.ext
  refine L_as (v := .bool false) rfl rfl ?_
  refine L_nil ?_
  refine W_seq ?_
  obtain ⟨x9, hx9, hF⟩ := bind_some hF
  refine W_region ?_
  refine L_fa (o' := 1) rfl fa_30_1 rfl rfl ?_
  refine L_ld (v := v0_1) rfl Try.isAgg28 rfl (hb_g5.cell (j := 1) rfl) ?_
  refine L_mf rfl (ops1 rfl) ?_
  have hf11 : Fun1 Try.prog B (rRule 3 22) true Value.bool (i_Model_solves_1 cells) (.func (.func 76) #[] #[.pointer (some ⟨g7, 0, none⟩)]) w8 := by
    refine ⟨_, _, rfl, Try.call76, fun w_ hE_ cs_ x_ y_ args_ hr_ hy_ ha_ => ?_⟩
    obtain ⟨p0, p1, p2, rfl, hp0, hp1, hp2⟩ := rRule_iff.1 hr_
    obtain rfl := args_of (b := #[.agg #[.int .i64 x_.kind, p0, p1, .int .i64 x_.bound, p2], .pointer (some ⟨g7, 0, none⟩)]) ha_
    exact i_Model_solves_1_c (c1 := cells) (r_ := x_) (Nat.le_trans hB (ext_trans hx hE_).size) hp0 hp1 hp2 (At.ext (Blk.at hb_g7) hE_) (rel0 (RP.ext h1 hE_)) hy_
  refine L_call (args := #[v0_1, .func (.func 76) #[] #[.pointer (some ⟨g7, 0, none⟩)]]) rfl Try.call68 (ops2 rfl rfl) (slices_ContainsFunc_implRule_c (s := m.rules) (f_ := (i_Model_solves_1 cells)) (Nat.le_trans hB hx.size) (rel0 h0_1) hf11 hx9) ?_
  rintro _ w12 ⟨rfl, he12⟩
  have h0_1 := RP.ext h0_1 he12
  have h1 := RP.ext h1 he12
  have hb_g7 := Blk.ext hb_g7 he12
  have hx := ext_trans hx he12
  refine L_not_ (b := x9) rfl rfl ?_
  refine L_as (v := .bool (!x9)) rfl rfl ?_
  refine L_nil ?_
  refine W_ret ?_
  obtain rfl := so hF
  refine ret1 Try.results60 ?_
  exact ⟨rfl, hx⟩

theorem i_SolvesModel_c {m : Model} {cells : List Int} {v0_0 : Value} {v0_1 : Value} {v1 : Value} {w : World} {B : Nat} (hB : B ≤ w.heap.size) (h0_0 : (RP.slice 3 RP.int).rel B w.heap.size w [v0_0] m.sizes) (h0_1 : (RP.slice 68 (rRule 3 22)).rel B w.heap.size w [v0_1] m.rules) (h1 : (RP.slice 3 RP.int).rel B w.heap.size w [v1] cells) {r : Bool} (hF : i_SolvesModel m cells = some r) :
    C Try.prog 35 #[.agg #[v0_0, v0_1], v1] w fun v w' => (v = .bool r) ∧ Ext w w' := by
  unfold i_SolvesModel at hF
  have hx := ext_refl w
  refine C_enter Try.func35 rfl Try.ntmps35 rfl ?_
  refine W_seq ?_
  refine W_region ?_
  refine L_box (v := .agg #[v0_0, v0_1]) (cs := #[v0_0, v0_1]) rfl rfl rfl ?_
  intro g3 w4 hn4
  have hge_g3 := hn4.ge hx
  have hb_g3 := hn4.blk
  have h0_0 := RP.ext h0_0 hn4.ext
  have h0_1 := RP.ext h0_1 hn4.ext
  have h1 := RP.ext h1 hn4.ext
  have hx := ext_trans hx hn4.ext
  refine L_as (v := .bool false) rfl rfl ?_
  refine L_nil ?_
  refine W_seq ?_
  obtain ⟨x5, hx5, hF⟩ := bind_some hF
  obtain ⟨b9, hb9, hF⟩ := bind_some hF
  obtain ⟨R10, hR10⟩ : ∃ R : Fr → World → Prop, R = fun f w_ => f 4 = .bool b9 ∧ Ext w w_ := ⟨_, rfl⟩
  refine W_join R10 ?_ ?_
  ·
    refine W_region ?_
    refine L_lda (cs := [v0_0, v0_1]) rfl Try.isAgg30 Try.sizeOf30 rfl (Blk.sub hb_g3 0 2) rfl ?_
    refine L_mv (v := v1) rfl rfl ?_
    refine L_call (args := #[.agg #[v0_0, v0_1], v1]) rfl Try.call55 (ops2 rfl rfl) (i_CellsValid_c (m := m) (cells := cells) (Nat.le_trans hB hx.size) (rel0 h0_0) (rel0 h0_1) (rel0 h1) hx5) ?_
    rintro _ w11 ⟨rfl, he11⟩
    have h0_0 := RP.ext h0_0 he11
    have h0_1 := RP.ext h0_1 he11
    have h1 := RP.ext h1 he11
    have hb_g3 := Blk.ext hb_g3 he11
    have hx := ext_trans hx he11
    refine L_mv (v := .bool x5) rfl rfl ?_
    refine L_split (d := 8) (b := x5) rfl (fun hc12 => ?_) (fun hc12 => ?_)
    ·
      rw [ite_t hc12] at hb9
      obtain ⟨x7, hx7, hb9⟩ := bind_some hb9
      refine L_lda (cs := [v0_0, v0_1]) rfl Try.isAgg30 Try.sizeOf30 rfl (Blk.sub hb_g3 0 2) rfl ?_
      refine L_mv (v := v1) rfl rfl ?_
      refine L_call (args := #[.agg #[v0_0, v0_1], v1]) rfl Try.call60 (ops2 rfl rfl) (i_Model_solves_c (m := m) (cells := cells) (Nat.le_trans hB hx.size) (rel0 h0_0) (rel0 h0_1) (rel0 h1) hx7) ?_
      rintro _ w13 ⟨rfl, he13⟩
      have h0_0 := RP.ext h0_0 he13
      have h0_1 := RP.ext h0_1 he13
      have h1 := RP.ext h1 he13
      have hx := ext_trans hx he13
      refine L_pick (v := .bool b9) rfl rfl (congrArg Value.bool (so hb9)) ?_
      refine L_as (v := .bool b9) rfl rfl ?_
      refine L_nil ?_
      show R10 _ _
      rw [hR10]
      exact ⟨rfl, hx⟩
    ·
      rw [ite_f hc12] at hb9
      refine L_pass rfl ?_
      refine L_pass rfl ?_
      refine L_pass rfl ?_
      refine L_pick (v := .bool b9) rfl rfl (congrArg Value.bool (so hb9)) ?_
      refine L_as (v := .bool b9) rfl rfl ?_
      refine L_nil ?_
      show R10 _ _
      rw [hR10]
      exact ⟨rfl, hx⟩
  ·
    intro f w_ hR
    rw [hR10] at hR
    obtain ⟨sf4, hx⟩ := hR
    clear hR10
    refine W_ret ?_
    obtain rfl := so hF
    refine ret1 Try.results35 ?_
    exact ⟨sf4, hx⟩

theorem l_FnExactSolvesModel_c {fu : Nat} {aM : Model} {aCells : List Int} {v0_0 : Value} {v0_1 : Value} {v1 : Value} {w : World} {B : Nat} (hB : B ≤ w.heap.size) (h0_0 : (RP.slice 3 RP.int).rel B w.heap.size w [v0_0] aM.sizes) (h0_1 : (RP.slice 76 (rRule 3 22)).rel B w.heap.size w [v0_1] aM.rules) (h1 : (RP.slice 3 RP.int).rel B w.heap.size w [v1] aCells) {r : Bool} (hF : l_FnExactSolvesModel fu aM aCells = some r) :
    C Try.prog 8 #[.agg #[v0_0, v0_1], v1] w fun v w' => (v = .bool r) ∧ Ext w w' := by
  unfold l_FnExactSolvesModel at hF
  have hx := ext_refl w
  refine C_enter Try.func8 rfl Try.ntmps8 rfl ?_
  refine W_seq ?_
  refine W_region ?_
  refine L_box (v := .agg #[v0_0, v0_1]) (cs := #[v0_0, v0_1]) rfl rfl rfl ?_
  intro g3 w4 hn4
  have hge_g3 := hn4.ge hx
  have hb_g3 := hn4.blk
  have h0_0 := RP.ext h0_0 hn4.ext
  have h0_1 := RP.ext h0_1 hn4.ext
  have h1 := RP.ext h1 hn4.ext
  have hx := ext_trans hx hn4.ext
  refine L_as (v := .bool false) rfl rfl ?_
  refine L_nil ?_
  refine W_seq ?_
  refine W_seq ?_
  refine W_region ?_
  refine L_mv (v := v1) rfl rfl ?_
  refine L_len (v := v1) rfl Try.underlying22 rfl h1 ?_
  refine L_gtr (m := (aCells.length : Int)) (n := 1048576) rfl rfl rfl ?_
  refine L_nil ?_
  refine W_cond (b := decide ((aCells.length : Int) > 1048576)) rfl (fun hc5 => ?_) (fun hc5 => ?_)
  ·
    have hF := (ite_t hc5).symm.trans hF
    refine W_seq ?_
    refine W_region ?_
    refine L_as (v := .bool true) rfl rfl ?_
    refine L_nil ?_
    refine W_ret ?_
    obtain rfl := so hF
    refine ret1 Try.results8 ?_
    exact ⟨rfl, hx⟩
  ·
    have hF := (ite_f hc5).symm.trans hF
    refine W_skip ?_
    refine W_seq ?_
    refine W_region ?_
    refine L_as (v := .int .i64 1048576) rfl rfl ?_
    refine L_nil ?_
    refine W_seq ?_
    obtain ⟨x6, hx6, hF⟩ := bind_some hF
    refine W_region ?_
    refine L_lda (cs := [v0_0, v0_1]) rfl Try.isAgg25 Try.sizeOf25 rfl (Blk.sub hb_g3 0 2) rfl ?_
    refine L_mv (v := .int .i64 1048576) rfl rfl ?_
    refine L_call (args := #[.agg #[v0_0, v0_1], .int .i64 1048576]) rfl Try.call11 (ops2 rfl rfl) (l_szModel_c (a := aM) (left := 1048576) (Nat.le_trans hB hx.size) (rel0 h0_0) (rel0 h0_1) hx6) ?_
    rintro _ w8 ⟨rfl, he8⟩
    have h0_0 := RP.ext h0_0 he8
    have h0_1 := RP.ext h0_1 he8
    have h1 := RP.ext h1 he8
    have hb_g3 := Blk.ext hb_g3 he8
    have hx := ext_trans hx he8
    refine L_as (v := .int .i64 x6) rfl rfl ?_
    refine L_nil ?_
    refine W_seq ?_
    refine W_seq ?_
    refine W_region ?_
    refine L_mv (v := .int .i64 x6) rfl rfl ?_
    refine L_lss (m := x6) (n := 0) rfl rfl rfl ?_
    refine L_nil ?_
    refine W_cond (b := decide (x6 < 0)) rfl (fun hc9 => ?_) (fun hc9 => ?_)
    ·
      have hF := (ite_t hc9).symm.trans hF
      refine W_seq ?_
      refine W_region ?_
      refine L_as (v := .bool true) rfl rfl ?_
      refine L_nil ?_
      refine W_ret ?_
      obtain rfl := so hF
      refine ret1 Try.results8 ?_
      exact ⟨rfl, hx⟩
    ·
      have hF := (ite_f hc9).symm.trans hF
      refine W_skip ?_
      refine W_seq ?_
      obtain ⟨x10, hx10, hF⟩ := bind_some hF
      obtain ⟨x12, hx12, hF⟩ := bind_some hF
      obtain ⟨x15, hx15, hF⟩ := bind_some hF
      refine W_region ?_
      refine L_lda (cs := [v0_0, v0_1]) rfl Try.isAgg25 Try.sizeOf25 rfl (Blk.sub hb_g3 0 2) rfl ?_
      refine L_call (args := #[.agg #[v0_0, v0_1]]) rfl Try.call13 (ops1 rfl) (l_toModel_c (a := aM) (Nat.le_trans hB hx.size) (rel0 h0_0) (rel0 h0_1) hx10) ?_
      rintro _ w17 ⟨⟨r17_0, r17_1, rfl, hr17_0, hr17_1⟩, he17⟩
      have hr17_0 : Own _ _ w.heap.size B _ _ _ := hr17_0.wide hx.size (Nat.le_refl _)
      have hr17_1 : Own _ _ w.heap.size B _ _ _ := hr17_1.wide hx.size (Nat.le_refl _)
      have h0_0 := RP.ext h0_0 he17
      have h0_1 := RP.ext h0_1 he17
      have h1 := RP.ext h1 he17
      have hb_g3 := Blk.ext hb_g3 he17
      have hx := ext_trans hx he17
      refine L_mv (v := v1) rfl rfl ?_
      refine L_call (args := #[v1]) rfl Try.call24 (ops1 rfl) (l_toIntS_c (a := aCells) (Nat.le_trans hB hx.size) (rel0 h1) hx12) ?_
      rintro r18_0 w18 ⟨⟨_, rfl, hr18_0⟩, he18⟩
      have ap19 := ap_oc hr17_0 hr18_0
      have hr18_0 : Own _ _ w.heap.size B _ _ _ := hr18_0.wide hx.size (Nat.le_refl _)
      have h0_0 := RP.ext h0_0 he18
      have h0_1 := RP.ext h0_1 he18
      have h1 := RP.ext h1 he18
      have hb_g3 := Blk.ext hb_g3 he18
      have hr17_0 := Own.ext hr17_0 he18
      have hr17_1 := Own.ext hr17_1 he18
      have hx := ext_trans hx he18
      refine L_call (args := #[.agg #[r17_0, r17_1], r18_0]) rfl Try.call34 (ops2 rfl rfl) (s_SolvesModel_c (m := x10) (cells := x12) (Nat.le_trans hB hx.size) (rel0 (Own.rel hr17_0)) (rel0 (Own.rel hr17_1)) (rel0 (Own.rel hr18_0)) hx15) ?_
      rintro _ w20 ⟨rfl, he20⟩
      have h0_0 := RP.ext h0_0 he20
      have h0_1 := RP.ext h0_1 he20
      have h1 := RP.ext h1 he20
      have hb_g3 := Blk.ext hb_g3 he20
      have hr17_0 := Own.ext hr17_0 he20
      have hr17_1 := Own.ext hr17_1 he20
      have hr18_0 := Own.ext hr18_0 he20
      have hx := ext_trans hx he20
      refine L_as (v := .bool x15) rfl rfl ?_
      refine L_nil ?_
      refine W_seq ?_
      obtain ⟨x21, hx21, hF⟩ := bind_some hF
      refine W_region ?_
      refine L_lda (cs := [v0_0, v0_1]) rfl Try.isAgg25 Try.sizeOf25 rfl (Blk.sub hb_g3 0 2) rfl ?_
      refine L_call (args := #[.agg #[v0_0, v0_1]]) rfl Try.call13 (ops1 rfl) (l_toModel_c (a := aM) (Nat.le_trans hB hx.size) (rel0 h0_0) (rel0 h0_1) hx21) ?_
      rintro _ w26 ⟨⟨r26_0, r26_1, rfl, hr26_0, hr26_1⟩, he26⟩
      have hr26_0 : Own _ _ w.heap.size B _ _ _ := hr26_0.wide hx.size (Nat.le_refl _)
      have hr26_1 : Own _ _ w.heap.size B _ _ _ := hr26_1.wide hx.size (Nat.le_refl _)
      have h0_0 := RP.ext h0_0 he26
      have h0_1 := RP.ext h0_1 he26
      have h1 := RP.ext h1 he26
      have hb_g3 := Blk.ext hb_g3 he26
      have hx := ext_trans hx he26
      refine L_al (cs := #[(.slice none 0 0), (.slice none 0 0)]) rfl Try.zeroValue30 rfl ?_
      intro g27 w28 hn28
      have hge_g27 := hn28.ge hx
      have hb_g27 := hn28.blk
      have h0_0 := RP.ext h0_0 hn28.ext
      have h0_1 := RP.ext h0_1 hn28.ext
      have h1 := RP.ext h1 hn28.ext
      have hb_g3 := Blk.ext hb_g3 hn28.ext
      have hr26_0 := Own.ext hr26_0 hn28.ext
      have hr26_1 := Own.ext hr26_1 hn28.ext
      have hx := ext_trans hx hn28.ext
      refine L_sta (vs := #[r26_0, r26_1]) rfl Try.sizeOf30 rfl rfl rfl (ones_cons (one_of (Own.rel hr26_0)) (ones_cons (one_of (Own.rel hr26_1)) ones_nil)) hb_g27 rfl ?_
      intro w29 hp29
      have h0_0 := hp29.mu.rel h0_0 (by decide) (Nat.le_trans hB hge_g27)
      have h0_1 := hp29.mu.rel h0_1 (by decide) (Nat.le_trans hB hge_g27)
      have h1 := hp29.mu.rel h1 (by decide) (Nat.le_trans hB hge_g27)
      have hb_g3 := hp29.mu.blk hb_g3 (by decide)
      have hr26_0 := hp29.mu.ownT hr26_0 (by decide) (by decide) (Nat.le_trans hB hge_g27)
      have hr26_1 := hp29.mu.ownT hr26_1 (by decide) (by decide) (Nat.le_trans hB hge_g27)
      have hx := ext_mut hx hp29.mu hge_g27
      have hb_g27 : Blk w29 g27 30 #[r26_0, r26_1] := hp29.blk
      refine L_nil ?_
      refine W_seq ?_
      obtain ⟨x30, hx30, hF⟩ := bind_some hF
      refine W_region ?_
      refine L_mv (v := v1) rfl rfl ?_
      refine L_call (args := #[v1]) rfl Try.call24 (ops1 rfl) (l_toIntS_c (a := aCells) (Nat.le_trans hB hx.size) (rel0 h1) hx30) ?_
      rintro r33_0 w33 ⟨⟨_, rfl, hr33_0⟩, he33⟩
      have ap34 := ap_oc hr26_0 hr33_0
      have hr33_0 : Own _ _ w.heap.size B _ _ _ := hr33_0.wide hx.size (Nat.le_refl _)
      have h0_0 := RP.ext h0_0 he33
      have h0_1 := RP.ext h0_1 he33
      have h1 := RP.ext h1 he33
      have hb_g3 := Blk.ext hb_g3 he33
      have hr26_0 := Own.ext hr26_0 he33
      have hr26_1 := Own.ext hr26_1 he33
      have hb_g27 := Blk.ext hb_g27 he33
      have hx := ext_trans hx he33
      refine L_as (v := r33_0) rfl rfl ?_
      refine L_nil ?_
      refine W_seq ?_
      obtain ⟨x35, hx35, hF⟩ := bind_some hF
      refine W_region ?_
      refine L_lda (cs := [r26_0, r26_1]) rfl Try.isAgg30 Try.sizeOf30 rfl (Blk.sub hb_g27 0 2) rfl ?_
      refine L_mv (v := r33_0) rfl rfl ?_
      refine L_call (args := #[.agg #[r26_0, r26_1], r33_0]) rfl Try.call35 (ops2 rfl rfl) (i_SolvesModel_c (m := x21) (cells := x30) (Nat.le_trans hB hx.size) (rel0 (Own.rel hr26_0)) (rel0 (Own.rel hr26_1)) (rel0 (Own.rel hr33_0)) hx35) ?_
      rintro _ w37 ⟨rfl, he37⟩
      have h0_0 := RP.ext h0_0 he37
      have h0_1 := RP.ext h0_1 he37
      have h1 := RP.ext h1 he37
      have hb_g3 := Blk.ext hb_g3 he37
      have hr26_0 := Own.ext hr26_0 he37
      have hr26_1 := Own.ext hr26_1 he37
      have hb_g27 := Blk.ext hb_g27 he37
      have hr33_0 := Own.ext hr33_0 he37
      have hx := ext_trans hx he37
      refine L_as (v := .bool x35) rfl rfl ?_
      refine L_nil ?_
      refine W_seq ?_
      refine W_seq ?_
      refine W_region ?_
      refine L_mv (v := .bool x35) rfl rfl ?_
      refine L_mv (v := .bool x15) rfl rfl ?_
      refine L_bneq (b := x35) (c := x15) rfl Try.underlying4 rfl rfl ?_
      refine L_nil ?_
      refine W_cond (b := (x35 != x15)) rfl (fun hc38 => ?_) (fun hc38 => ?_)
      ·
        have hF := (ite_t hc38).symm.trans hF
        refine W_seq ?_
        refine W_region ?_
        refine L_as (v := .bool false) rfl rfl ?_
        refine L_nil ?_
        refine W_ret ?_
        obtain rfl := so hF
        refine ret1 Try.results8 ?_
        exact ⟨rfl, hx⟩
      ·
        have hF := (ite_f hc38).symm.trans hF
        refine W_skip ?_
        refine W_seq ?_
        refine W_seq ?_
        obtain ⟨x39, hx39, hF⟩ := bind_some hF
        obtain ⟨x44, hx44, hF⟩ := bind_some hF
        refine W_drawL 3 [isV (.agg #[r26_0, r26_1]), isV (.agg #[v0_0, v0_1]), isAgg_ B (rModel 3 22 68) x39] Try_mix (by kernel_rfl) (am_cons (mono_V _) (am_cons (mono_V _) (am_cons (mono_agg _ _ _) am_nil))) ?_ (fun f w_ hS hE hT => ?_)
        ·
          refine ops_cons (fun f w_ hS hE hP => ?_) ?_
          ·
            have hx := ext_trans hx hE
            have hr26_0 := Own.ext hr26_0 hE
            have hr26_1 := Own.ext hr26_1 hE
            have hb_g27 := Blk.ext hb_g27 hE
            refine L_lda (cs := [r26_0, r26_1]) rfl Try.isAgg30 Try.sizeOf30 ((hS 7 rfl).trans rfl) (Blk.sub hb_g27 0 2) rfl ?_
            exact L_nil ⟨rfl, (ext_refl _), _, _, rfl, rfl, rfl⟩
          refine ops_cons (fun f w_ hS hE hP => ?_) ?_
          ·
            have hx := ext_trans hx hE
            have h0_0 := RP.ext h0_0 hE
            have h0_1 := RP.ext h0_1 hE
            have hb_g3 := Blk.ext hb_g3 hE
            refine L_lda (cs := [v0_0, v0_1]) rfl Try.isAgg25 Try.sizeOf25 ((hS 2 rfl).trans rfl) (Blk.sub hb_g3 0 2) rfl ?_
            exact L_nil ⟨rfl, (ext_refl _), _, _, rfl, rfl, rfl⟩
          refine ops_cons (fun f w_ hS hE hP => ?_) ?_
          ·
            have hx := ext_trans hx hE
            have h0_0 := RP.ext h0_0 hE
            have h0_1 := RP.ext h0_1 hE
            refine L_call (args := #[.agg #[v0_0, v0_1]]) rfl Try.call13 (ops1 (hP 1 34 rfl rfl)) (l_toModel_c (a := aM) (Nat.le_trans hB hx.size) (rel0 h0_0) (rel0 h0_1) hx39) ?_
            rintro _ w50 ⟨⟨r50_0, r50_1, rfl, hr50_0, hr50_1⟩, he50⟩
            have hr50_0 : Own _ _ w.heap.size B _ _ _ := hr50_0.wide hx.size (Nat.le_refl _)
            have hr50_1 : Own _ _ w.heap.size B _ _ _ := hr50_1.wide hx.size (Nat.le_refl _)
            have h0_0 := RP.ext h0_0 he50
            have h0_1 := RP.ext h0_1 he50
            have hx := ext_trans hx he50
            exact L_nil ⟨rfl, he50, _, _, rfl, rfl, ⟨[r50_0, r50_1], rfl, (rModel_iff.2 ⟨_, _, rfl, (rel0 (Own.rel hr50_0)), (rel0 (Own.rel hr50_1))⟩)⟩⟩
          exact ops_nil
        ·
          have h0_0 := RP.ext h0_0 hE
          have h0_1 := RP.ext h0_1 hE
          have h1 := RP.ext h1 hE
          have hb_g3 := Blk.ext hb_g3 hE
          have hr26_0 := Own.ext hr26_0 hE
          have hr26_1 := Own.ext hr26_1 hE
          have hb_g27 := Blk.ext hb_g27 hE
          have hr33_0 := Own.ext hr33_0 hE
          have hx := ext_trans hx hE
          obtain ⟨cs51, hv51, hr51⟩ := (hT 2 35 rfl rfl)
          obtain ⟨u51_0, u51_1, rfl, hu51_0, hu51_1⟩ := rModel_iff.1 hr51
          refine L_call (args := #[.agg #[r26_0, r26_1], .agg #[u51_0, u51_1]]) rfl Try.call15 (ops2 (hT 0 33 rfl rfl) hv51) (l_eqModel_c (a := x21) (b := x39) (Nat.le_trans hB hx.size) (rel0 (Own.rel hr26_0)) (rel0 (Own.rel hr26_1)) (rel0 hu51_0) (rel0 hu51_1) hx44) ?_
          rintro _ w52 ⟨rfl, he52⟩
          have h1 := RP.ext h1 he52
          have hr26_0 := Own.ext hr26_0 he52
          have hr26_1 := Own.ext hr26_1 he52
          have hr33_0 := Own.ext hr33_0 he52
          have hu51_0 := RP.ext hu51_0 he52
          have hu51_1 := RP.ext hu51_1 he52
          have hx := ext_trans hx he52
          refine L_not_ (b := x44) rfl rfl ?_
          refine L_nil ?_
          refine W_cond (b := (!x44)) rfl (fun hc53 => ?_) (fun hc53 => ?_)
          ·
            have hF := (ite_t hc53).symm.trans hF
            refine W_seq ?_
            refine W_region ?_
            refine L_as (v := .bool false) rfl rfl ?_
            refine L_nil ?_
            refine W_ret ?_
            obtain rfl := so hF
            refine ret1 Try.results8 ?_
            exact ⟨rfl, hx⟩
          ·
            have hF := (ite_f hc53).symm.trans hF
            refine W_skip ?_
            refine W_seq ?_
            refine W_seq ?_
            obtain ⟨x54, hx54, hF⟩ := bind_some hF
            obtain ⟨x57, hx57, hF⟩ := bind_some hF
            refine W_region ?_
            refine L_mv (v := r33_0) rfl ((hS 8 rfl).trans rfl) ?_
            refine L_mv (v := v1) rfl ((hS 1 rfl).trans rfl) ?_
            refine L_call (args := #[v1]) rfl Try.call24 (ops1 rfl) (l_toIntS_c (a := aCells) (Nat.le_trans hB hx.size) (rel0 h1) hx54) ?_
            rintro r59_0 w59 ⟨⟨_, rfl, hr59_0⟩, he59⟩
            have ap60 := ap_oc hr33_0 hr59_0
            have hr59_0 : Own _ _ w.heap.size B _ _ _ := hr59_0.wide hx.size (Nat.le_refl _)
            have h1 := RP.ext h1 he59
            have hr33_0 := Own.ext hr33_0 he59
            have hx := ext_trans hx he59
            refine L_call (args := #[r33_0, r59_0]) rfl Try.call26 (ops2 rfl rfl) (l_eqIntS_c (a := x30) (b := x54) (Nat.le_trans hB hx.size) (rel0 (Own.rel hr33_0)) (rel0 (Own.rel hr59_0)) hx57) ?_
            rintro _ w61 ⟨rfl, he61⟩
            have hr33_0 := Own.ext hr33_0 he61
            have hr59_0 := Own.ext hr59_0 he61
            have hx := ext_trans hx he61
            refine L_not_ (b := x57) rfl rfl ?_
            refine L_nil ?_
            refine W_cond (b := (!x57)) rfl (fun hc62 => ?_) (fun hc62 => ?_)
            ·
              have hF := (ite_t hc62).symm.trans hF
              refine W_seq ?_
              refine W_region ?_
              refine L_as (v := .bool false) rfl rfl ?_
              refine L_nil ?_
              refine W_ret ?_
              obtain rfl := so hF
              refine ret1 Try.results8 ?_
              exact ⟨rfl, hx⟩
            ·
              have hF := (ite_f hc62).symm.trans hF
              refine W_skip ?_
              refine W_seq ?_
              refine W_region ?_
              refine L_as (v := .bool true) rfl rfl ?_
              refine L_nil ?_
              refine W_ret ?_
              obtain rfl := so hF
              refine ret1 Try.results8 ?_
              exact ⟨rfl, hx⟩

end Go.Proofs.Yteojddfaiomfmaa

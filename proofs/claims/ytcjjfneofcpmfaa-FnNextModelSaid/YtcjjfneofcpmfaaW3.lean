/- Part of a proof by program: W3. -/
import Derived.Test.YtcjjfneofcpmfaaD1
import Derived.Test.YtcjjfneofcpmfaaW2
namespace Go.Proofs.Ytcjjfneofcpmfaa
open Go Go.E Go.L Go.RowKit
set_option linter.unusedVariables false
set_option linter.unusedSimpArgs false
set_option maxRecDepth 100000

theorem s_l6Vars_c {m : Model} {list : List Int} {v0_0 : Value} {v0_1 : Value} {v1 : Value} {w : World} {B : Nat} (hB : B ≤ w.heap.size) (h0_0 : (RP.slice 3 RP.int).rel B w.heap.size w [v0_0] m.sizes) (h0_1 : (RP.slice 36 (rRule 3 23)).rel B w.heap.size w [v0_1] m.rules) (h1 : (RP.slice 3 RP.int).rel B w.heap.size w [v1] list) {r : Bool} (hF : s_l6Vars m list = some r) :
    C Try.prog 98 #[.agg #[v0_0, v0_1], v1] w fun v w' => (v = .bool r) ∧ Ext w w' := by
  unfold s_l6Vars at hF
  have hx := ext_refl w
  refine C_enter Try.func98 rfl Try.ntmps98 rfl ?_
  refine W_seq ?_
  refine W_region ?_
  refine L_box (v := .agg #[v0_0, v0_1]) (cs := #[v0_0, v0_1]) rfl rfl rfl ?_
  intro g3 w4 hn4
  have hge_g3 := hn4.geS hx.size
  have hb_g3 := hn4.blk
  have h0_0 := RP.ext h0_0 hn4.ext
  have h0_1 := RP.ext h0_1 hn4.ext
  have h1 := RP.ext h1 hn4.ext
  have hx := ext_trans hx hn4.ext
  refine L_as (v := .bool false) rfl rfl ?_
  refine L_nil ?_
  refine W_seq ?_
  refine W_seq ?_
  refine W_region ?_
  refine L_as (v := .int .i64 0) rfl rfl ?_
  refine L_nil ?_
  have hlen6 := len_le h1
  obtain ⟨j6, hL6, hF⟩ := bind_some hF
  obtain ⟨R6, hR6⟩ : ∃ R : Fr → World → Prop, R = fun f w_ => j6 = .nx () ∧ f 1 = v1 ∧ (RP.slice 3 RP.int).rel B w.heap.size w_ [v1] list ∧ Ext w w_ := ⟨_, rfl⟩
  refine W_join R6 ?_ ?_
  ·
    refine W_block ?_
    obtain ⟨I6, hI6⟩ : ∃ I : Nat → Fr → World → Prop, I = fun n f w_ => ∃ i_5 : Nat, ∃ suf6 : List Int, n = suf6.length ∧ List.drop i_5 list = suf6 ∧ i_5 + suf6.length = list.length ∧ rangeL (s_l6Vars_b1 m list) suf6 i_5 () = some j6 ∧ f 1 = v1 ∧ f 2 = .pointer (some ⟨g3, 0, none⟩) ∧ f 5 = .int .i64 (i_5 : Int) ∧ (RP.slice 3 RP.int).rel B w.heap.size w_ [v1] list ∧ (RP.slice 3 RP.int).rel B w.heap.size w_ [v0_0] m.sizes ∧ (RP.slice 36 (rRule 3 23)).rel B w.heap.size w_ [v0_1] m.rules ∧ Blk w_ g3 26 #[v0_0, v0_1] ∧ Ext w w_ := ⟨_, rfl⟩
    refine W_loop I6 (n := list.length) ?_ ?_
    · rw [hI6]; exact ⟨0, list, rfl, rfl, Nat.zero_add _, hL6, rfl, rfl, rfl, h1, h0_0, h0_1, hb_g3, hx⟩
    ·
      intro n6 f w_ hI
      rw [hI6] at hI
      obtain ⟨i_5, suf6, rfl, hd6, hl6, hL6, sf1, sf2, sf5, h1, h0_0, h0_1, hb_g3, hx⟩ := hI
      refine W_seq ?_
      refine W_seq ?_
      refine W_region ?_
      refine L_mv (v := .int .i64 (i_5 : Int)) rfl sf5 ?_
      refine L_mv (v := v1) rfl sf1 ?_
      refine L_len (v := v1) rfl Try.underlying23 rfl h1 ?_
      refine L_lss (m := (i_5 : Int)) (n := (list.length : Int)) rfl rfl rfl ?_
      refine L_nil ?_
      refine W_cond (b := decide ((i_5 : Int) < (list.length : Int))) rfl (fun hc7 => ?_) (fun hc7 => ?_)
      ·
        have hlt6 := of_decide_eq_true hc7
        cases suf6 with
        | nil => exact absurd hlt6 (by simp at hl6; omega)
        | cons x_6 rest6 =>
          obtain ⟨o6, hB6, hL6⟩ := range_cons hL6
          rw [s_l6Vars_b1] at hB6
          have hix6 := drop_idx hd6
          refine W_skip ?_
          refine W_seq ?_
          refine W_block ?_
          refine W_seq ?_
          refine W_seq ?_
          obtain ⟨R13, hR13⟩ : ∃ R : Fr → World → Prop, R = fun f w_ => f 1 = v1 ∧ f 2 = .pointer (some ⟨g3, 0, none⟩) ∧ f 5 = .int .i64 (i_5 : Int) ∧ f 27 = .bool ((decide (x_6 < 0)) || (decide (x_6 ≥ (m.sizes.length : Int)))) ∧ (RP.slice 3 RP.int).rel B w.heap.size w_ [v1] list ∧ (RP.slice 3 RP.int).rel B w.heap.size w_ [v0_0] m.sizes ∧ (RP.slice 36 (rRule 3 23)).rel B w.heap.size w_ [v0_1] m.rules ∧ Blk w_ g3 26 #[v0_0, v0_1] ∧ Ext w w_ := ⟨_, rfl⟩
          refine W_join R13 ?_ ?_
          ·
            rcases Bool.eq_false_or_eq_true (decide (x_6 < 0)) with hc14 | hc14
            ·
              refine W_drawL 13 [isV (v1), isV (.int .i64 (i_5 : Int)), isEl B RP.int x_6 0, isV (.int .i64 x_6), isV (.bool (decide (x_6 < 0))), isV (.bool (decide (x_6 < 0))), isV (undef), isV (undef), isV (undef), isV (undef), isV (undef), isV (undef), isV (undef)] Try_mix (by kernel_rfl) (am_cons (mono_V _) (am_cons (mono_V _) (am_cons (mono_el _ _ _ _) (am_cons (mono_V _) (am_cons (mono_V _) (am_cons (mono_V _) (am_cons (mono_V _) (am_cons (mono_V _) (am_cons (mono_V _) (am_cons (mono_V _) (am_cons (mono_V _) (am_cons (mono_V _) (am_cons (mono_V _) am_nil))))))))))))) ?_ (fun f w_ hS12 hE12 hT12 => ?_)
              ·
                refine ops_cons (fun f w_ hS12 hE12 hP12 => ?_) ?_
                ·
                  have hx := ext_trans hx hE12
                  have h1 := RP.ext h1 hE12
                  refine L_mv (v := v1) rfl ((hS12 1 rfl).trans sf1) ?_
                  exact L_nil ⟨rfl, (ext_refl _), _, _, rfl, rfl, rfl⟩
                refine ops_cons (fun f w_ hS12 hE12 hP12 => ?_) ?_
                ·
                  have hx := ext_trans hx hE12
                  refine L_mv (v := .int .i64 (i_5 : Int)) rfl ((hS12 5 rfl).trans sf5) ?_
                  exact L_nil ⟨rfl, (ext_refl _), _, _, rfl, rfl, rfl⟩
                refine ops_cons (fun f w_ hS12 hE12 hP12 => ?_) ?_
                ·
                  have hx := ext_trans hx hE12
                  have h1 := RP.ext h1 hE12
                  refine L_ix (r := RP.int) rfl Try.underlying23 Try.sizeOf3 (hP12 0 13 rfl rfl) h1 (hP12 1 14 rfl rfl) hix6 ?_
                  intro g17 o18 cs18 hr18 hat18
                  obtain rfl : _ = [_] := hr18
                  exact L_nil ⟨rfl, (ext_refl _), _, _, rfl, rfl, ⟨_, _, _, rfl, rfl, hat18⟩⟩
                refine ops_cons (fun f w_ hS12 hE12 hP12 => ?_) ?_
                ·
                  have hx := ext_trans hx hE12
                  obtain ⟨g19, o19, cs19, hv19, hr19, hat19⟩ := (hP12 2 15 rfl rfl)
                  obtain rfl : _ = [_] := hr19
                  refine L_ld (v := .int .i64 x_6) rfl Try.isAgg3 hv19 (hat19.cell (j := 0) rfl) ?_
                  exact L_nil ⟨rfl, (ext_refl _), _, _, rfl, rfl, rfl⟩
                refine ops_cons (fun f w_ hS12 hE12 hP12 => ?_) ?_
                ·
                  have hx := ext_trans hx hE12
                  refine L_lss (m := x_6) (n := 0) rfl (hP12 3 16 rfl rfl) rfl ?_
                  exact L_nil ⟨rfl, (ext_refl _), _, _, rfl, rfl, rfl⟩
                refine ops_cons (fun f w_ hS12 hE12 hP12 => ?_) ?_
                ·
                  have hx := ext_trans hx hE12
                  refine L_mv (v := .bool (decide (x_6 < 0))) rfl (hP12 4 17 rfl rfl) ?_
                  exact L_nil ⟨rfl, (ext_refl _), _, _, rfl, rfl, rfl⟩
                refine ops_cons (fun f w_ hS12 hE12 hP12 => ?_) ?_
                ·
                  have hx := ext_trans hx hE12
                  have h1 := RP.ext h1 hE12
                  refine L_pass (g_no rfl (Eq.trans (hP12 5 18 rfl rfl) (congrArg Value.bool hc14)) rfl rfl) ?_
                  exact L_nil ⟨rfl, (ext_refl _), _, _, rfl, rfl, rfl⟩
                refine ops_cons (fun f w_ hS12 hE12 hP12 => ?_) ?_
                ·
                  have hx := ext_trans hx hE12
                  refine L_pass (g_no rfl (Eq.trans (hP12 5 18 rfl rfl) (congrArg Value.bool hc14)) rfl rfl) ?_
                  exact L_nil ⟨rfl, (ext_refl _), _, _, rfl, rfl, rfl⟩
                refine ops_cons (fun f w_ hS12 hE12 hP12 => ?_) ?_
                ·
                  have hx := ext_trans hx hE12
                  refine L_pass (g_no rfl (Eq.trans (hP12 5 18 rfl rfl) (congrArg Value.bool hc14)) rfl rfl) ?_
                  exact L_nil ⟨rfl, (ext_refl _), _, _, rfl, rfl, rfl⟩
                refine ops_cons (fun f w_ hS12 hE12 hP12 => ?_) ?_
                ·
                  have hx := ext_trans hx hE12
                  refine L_pass (g_no rfl (Eq.trans (hP12 5 18 rfl rfl) (congrArg Value.bool hc14)) rfl rfl) ?_
                  exact L_nil ⟨rfl, (ext_refl _), _, _, rfl, rfl, rfl⟩
                refine ops_cons (fun f w_ hS12 hE12 hP12 => ?_) ?_
                ·
                  have hx := ext_trans hx hE12
                  have h0_0 := RP.ext h0_0 hE12
                  have h0_1 := RP.ext h0_1 hE12
                  have hb_g3 := Blk.ext hb_g3 hE12
                  refine L_pass (g_no rfl (Eq.trans (hP12 5 18 rfl rfl) (congrArg Value.bool hc14)) rfl rfl) ?_
                  exact L_nil ⟨rfl, (ext_refl _), _, _, rfl, rfl, rfl⟩
                refine ops_cons (fun f w_ hS12 hE12 hP12 => ?_) ?_
                ·
                  have hx := ext_trans hx hE12
                  refine L_pass (g_no rfl (Eq.trans (hP12 5 18 rfl rfl) (congrArg Value.bool hc14)) rfl rfl) ?_
                  exact L_nil ⟨rfl, (ext_refl _), _, _, rfl, rfl, rfl⟩
                refine ops_cons (fun f w_ hS12 hE12 hP12 => ?_) ?_
                ·
                  have hx := ext_trans hx hE12
                  refine L_pass (g_no rfl (Eq.trans (hP12 5 18 rfl rfl) (congrArg Value.bool hc14)) rfl rfl) ?_
                  exact L_nil ⟨rfl, (ext_refl _), _, _, rfl, rfl, rfl⟩
                exact ops_nil
              ·
                have h1 := RP.ext h1 hE12
                have h0_0 := RP.ext h0_0 hE12
                have h0_1 := RP.ext h0_1 hE12
                have hb_g3 := Blk.ext hb_g3 hE12
                have hx := ext_trans hx hE12
                refine L_pass (g_no rfl (Eq.trans (hT12 5 18 rfl rfl) (congrArg Value.bool hc14)) rfl rfl) ?_
                refine L_pick (v := .bool ((decide (x_6 < 0)) || (decide (x_6 ≥ (m.sizes.length : Int))))) rfl (Eq.trans (hT12 5 18 rfl rfl) (congrArg Value.bool hc14)) (or_t hc14) ?_
                refine L_nil ?_
                show R13 _ _
                rw [hR13]
                exact ⟨((hS12 1 rfl).trans sf1), ((hS12 2 rfl).trans sf2), ((hS12 5 rfl).trans sf5), rfl, h1, h0_0, h0_1, hb_g3, hx⟩
            ·
              refine W_drawL 13 [isV (v1), isV (.int .i64 (i_5 : Int)), isEl B RP.int x_6 0, isV (.int .i64 x_6), isV (.bool (decide (x_6 < 0))), isV (.bool (decide (x_6 < 0))), isV (v1), isV (.int .i64 (i_5 : Int)), isEl B RP.int x_6 0, isV (.int .i64 x_6), isV (.pointer (some ⟨g3, 0, none⟩)), isV (v0_0), isV (.int .i64 (m.sizes.length : Int))] Try_mix (by kernel_rfl) (am_cons (mono_V _) (am_cons (mono_V _) (am_cons (mono_el _ _ _ _) (am_cons (mono_V _) (am_cons (mono_V _) (am_cons (mono_V _) (am_cons (mono_V _) (am_cons (mono_V _) (am_cons (mono_el _ _ _ _) (am_cons (mono_V _) (am_cons (mono_V _) (am_cons (mono_V _) (am_cons (mono_V _) am_nil))))))))))))) ?_ (fun f w_ hS12 hE12 hT12 => ?_)
              ·
                refine ops_cons (fun f w_ hS12 hE12 hP12 => ?_) ?_
                ·
                  have hx := ext_trans hx hE12
                  have h1 := RP.ext h1 hE12
                  refine L_mv (v := v1) rfl ((hS12 1 rfl).trans sf1) ?_
                  exact L_nil ⟨rfl, (ext_refl _), _, _, rfl, rfl, rfl⟩
                refine ops_cons (fun f w_ hS12 hE12 hP12 => ?_) ?_
                ·
                  have hx := ext_trans hx hE12
                  refine L_mv (v := .int .i64 (i_5 : Int)) rfl ((hS12 5 rfl).trans sf5) ?_
                  exact L_nil ⟨rfl, (ext_refl _), _, _, rfl, rfl, rfl⟩
                refine ops_cons (fun f w_ hS12 hE12 hP12 => ?_) ?_
                ·
                  have hx := ext_trans hx hE12
                  have h1 := RP.ext h1 hE12
                  refine L_ix (r := RP.int) rfl Try.underlying23 Try.sizeOf3 (hP12 0 13 rfl rfl) h1 (hP12 1 14 rfl rfl) hix6 ?_
                  intro g24 o25 cs25 hr25 hat25
                  obtain rfl : _ = [_] := hr25
                  exact L_nil ⟨rfl, (ext_refl _), _, _, rfl, rfl, ⟨_, _, _, rfl, rfl, hat25⟩⟩
                refine ops_cons (fun f w_ hS12 hE12 hP12 => ?_) ?_
                ·
                  have hx := ext_trans hx hE12
                  obtain ⟨g26, o26, cs26, hv26, hr26, hat26⟩ := (hP12 2 15 rfl rfl)
                  obtain rfl : _ = [_] := hr26
                  refine L_ld (v := .int .i64 x_6) rfl Try.isAgg3 hv26 (hat26.cell (j := 0) rfl) ?_
                  exact L_nil ⟨rfl, (ext_refl _), _, _, rfl, rfl, rfl⟩
                refine ops_cons (fun f w_ hS12 hE12 hP12 => ?_) ?_
                ·
                  have hx := ext_trans hx hE12
                  refine L_lss (m := x_6) (n := 0) rfl (hP12 3 16 rfl rfl) rfl ?_
                  exact L_nil ⟨rfl, (ext_refl _), _, _, rfl, rfl, rfl⟩
                refine ops_cons (fun f w_ hS12 hE12 hP12 => ?_) ?_
                ·
                  have hx := ext_trans hx hE12
                  refine L_mv (v := .bool (decide (x_6 < 0))) rfl (hP12 4 17 rfl rfl) ?_
                  exact L_nil ⟨rfl, (ext_refl _), _, _, rfl, rfl, rfl⟩
                refine ops_cons (fun f w_ hS12 hE12 hP12 => ?_) ?_
                ·
                  have hx := ext_trans hx hE12
                  have h1 := RP.ext h1 hE12
                  refine L_mv (v := v1) (g_yes rfl (Eq.trans (hP12 5 18 rfl rfl) (congrArg Value.bool hc14)) rfl) ((hS12 1 rfl).trans sf1) ?_
                  exact L_nil ⟨rfl, (ext_refl _), _, _, rfl, rfl, rfl⟩
                refine ops_cons (fun f w_ hS12 hE12 hP12 => ?_) ?_
                ·
                  have hx := ext_trans hx hE12
                  refine L_mv (v := .int .i64 (i_5 : Int)) (g_yes rfl (Eq.trans (hP12 5 18 rfl rfl) (congrArg Value.bool hc14)) rfl) ((hS12 5 rfl).trans sf5) ?_
                  exact L_nil ⟨rfl, (ext_refl _), _, _, rfl, rfl, rfl⟩
                refine ops_cons (fun f w_ hS12 hE12 hP12 => ?_) ?_
                ·
                  have hx := ext_trans hx hE12
                  have h1 := RP.ext h1 hE12
                  refine L_ix (r := RP.int) (g_yes rfl (Eq.trans (hP12 5 18 rfl rfl) (congrArg Value.bool hc14)) rfl) Try.underlying23 Try.sizeOf3 (hP12 6 19 rfl rfl) h1 (hP12 7 20 rfl rfl) hix6 ?_
                  intro g27 o28 cs28 hr28 hat28
                  obtain rfl : _ = [_] := hr28
                  exact L_nil ⟨rfl, (ext_refl _), _, _, rfl, rfl, ⟨_, _, _, rfl, rfl, hat28⟩⟩
                refine ops_cons (fun f w_ hS12 hE12 hP12 => ?_) ?_
                ·
                  have hx := ext_trans hx hE12
                  obtain ⟨g29, o29, cs29, hv29, hr29, hat29⟩ := (hP12 8 21 rfl rfl)
                  obtain rfl : _ = [_] := hr29
                  refine L_ld (v := .int .i64 x_6) (g_yes rfl (Eq.trans (hP12 5 18 rfl rfl) (congrArg Value.bool hc14)) rfl) Try.isAgg3 hv29 (hat29.cell (j := 0) rfl) ?_
                  exact L_nil ⟨rfl, (ext_refl _), _, _, rfl, rfl, rfl⟩
                refine ops_cons (fun f w_ hS12 hE12 hP12 => ?_) ?_
                ·
                  have hx := ext_trans hx hE12
                  have h0_0 := RP.ext h0_0 hE12
                  have h0_1 := RP.ext h0_1 hE12
                  have hb_g3 := Blk.ext hb_g3 hE12
                  refine L_fa (o' := 0) (g_yes rfl (Eq.trans (hP12 5 18 rfl rfl) (congrArg Value.bool hc14)) rfl) fa_26_0 ((hS12 2 rfl).trans sf2) rfl ?_
                  exact L_nil ⟨rfl, (ext_refl _), _, _, rfl, rfl, rfl⟩
                refine ops_cons (fun f w_ hS12 hE12 hP12 => ?_) ?_
                ·
                  have hx := ext_trans hx hE12
                  have h0_0 := RP.ext h0_0 hE12
                  have h0_1 := RP.ext h0_1 hE12
                  have hb_g3 := Blk.ext hb_g3 hE12
                  refine L_ld (v := v0_0) (g_yes rfl (Eq.trans (hP12 5 18 rfl rfl) (congrArg Value.bool hc14)) rfl) Try.isAgg23 (hP12 10 23 rfl rfl) (hb_g3.cell (j := 0) rfl) ?_
                  exact L_nil ⟨rfl, (ext_refl _), _, _, rfl, rfl, rfl⟩
                refine ops_cons (fun f w_ hS12 hE12 hP12 => ?_) ?_
                ·
                  have hx := ext_trans hx hE12
                  have h0_0 := RP.ext h0_0 hE12
                  refine L_len (v := v0_0) (g_yes rfl (Eq.trans (hP12 5 18 rfl rfl) (congrArg Value.bool hc14)) rfl) Try.underlying23 (hP12 11 24 rfl rfl) h0_0 ?_
                  exact L_nil ⟨rfl, (ext_refl _), _, _, rfl, rfl, rfl⟩
                exact ops_nil
              ·
                have h1 := RP.ext h1 hE12
                have h0_0 := RP.ext h0_0 hE12
                have h0_1 := RP.ext h0_1 hE12
                have hb_g3 := Blk.ext hb_g3 hE12
                have hx := ext_trans hx hE12
                refine L_geq (m := x_6) (n := (m.sizes.length : Int)) (g_yes rfl (Eq.trans (hT12 5 18 rfl rfl) (congrArg Value.bool hc14)) rfl) (hT12 9 22 rfl rfl) (hT12 12 25 rfl rfl) ?_
                refine L_pick (v := .bool ((decide (x_6 < 0)) || (decide (x_6 ≥ (m.sizes.length : Int))))) rfl (Eq.trans (hT12 5 18 rfl rfl) (congrArg Value.bool hc14)) (or_f hc14 rfl) ?_
                refine L_nil ?_
                show R13 _ _
                rw [hR13]
                exact ⟨((hS12 1 rfl).trans sf1), ((hS12 2 rfl).trans sf2), ((hS12 5 rfl).trans sf5), rfl, h1, h0_0, h0_1, hb_g3, hx⟩
          ·
            intro f w_ hR
            rw [hR13] at hR
            obtain ⟨sf1, sf2, sf5, sf27, h1, h0_0, h0_1, hb_g3, hx⟩ := hR
            clear hR13
            refine W_cond (b := ((decide (x_6 < 0)) || (decide (x_6 ≥ (m.sizes.length : Int))))) sf27 (fun hc30 => ?_) (fun hc30 => ?_)
            ·
              have hB6 := (ite_t hc30).symm.trans hB6
              refine W_seq ?_
              refine W_region ?_
              refine L_as (v := .bool false) rfl rfl ?_
              refine L_nil ?_
              refine W_ret ?_
              obtain rfl := so hB6
              obtain rfl := so hL6
              obtain rfl := so hF
              refine ret1 Try.results98 ?_
              exact ⟨rfl, hx⟩
            ·
              have hB6 := (ite_f hc30).symm.trans hB6
              refine W_skip ?_
              refine W_seq ?_
              refine W_region ?_
              refine L_as (v := .int .i64 0) rfl rfl ?_
              refine L_nil ?_
              obtain ⟨k33, hk33, hB6⟩ := bind_some hB6
              obtain ⟨j32, hL32, hB6⟩ := bind_some hB6
              obtain ⟨R32, hR32⟩ : ∃ R : Fr → World → Prop, R = fun f w_ => j32 = .nx () ∧ f 1 = v1 ∧ f 2 = .pointer (some ⟨g3, 0, none⟩) ∧ f 5 = .int .i64 (i_5 : Int) ∧ (RP.slice 3 RP.int).rel B w.heap.size w_ [v1] list ∧ (RP.slice 3 RP.int).rel B w.heap.size w_ [v0_0] m.sizes ∧ (RP.slice 36 (rRule 3 23)).rel B w.heap.size w_ [v0_1] m.rules ∧ Blk w_ g3 26 #[v0_0, v0_1] ∧ Ext w w_ := ⟨_, rfl⟩
              refine W_join R32 ?_ ?_
              ·
                refine W_block ?_
                obtain ⟨I32, hI32⟩ : ∃ I : Nat → Fr → World → Prop, I = fun n f w_ => ∃ i_31 : Nat, ∃ suf32 : Nat, suf32 = n ∧ 0 ≤ i_31 ∧ i_31 + suf32 = 0 + k33 ∧ countL (s_l6Vars_b2 list x_6) suf32 i_31 () = some j32 ∧ f 1 = v1 ∧ f 2 = .pointer (some ⟨g3, 0, none⟩) ∧ f 5 = .int .i64 (i_5 : Int) ∧ f 6 = .int .i64 (i_31 : Int) ∧ (RP.slice 3 RP.int).rel B w.heap.size w_ [v1] list ∧ (RP.slice 3 RP.int).rel B w.heap.size w_ [v0_0] m.sizes ∧ (RP.slice 36 (rRule 3 23)).rel B w.heap.size w_ [v0_1] m.rules ∧ Blk w_ g3 26 #[v0_0, v0_1] ∧ Ext w w_ := ⟨_, rfl⟩
                refine W_loop I32 (n := k33) ?_ ?_
                · rw [hI32]; exact ⟨0, k33, rfl, Nat.le_refl _, rfl, hL32, sf1, sf2, sf5, rfl, h1, h0_0, h0_1, hb_g3, hx⟩
                ·
                  intro n32 f w_ hI
                  rw [hI32] at hI
                  obtain ⟨i_31, suf32, rfl, hs32, hl32, hL32, sf1, sf2, sf5, sf6, h1, h0_0, h0_1, hb_g3, hx⟩ := hI
                  refine W_seq ?_
                  refine W_seq ?_
                  refine W_region ?_
                  refine L_mv (v := .int .i64 (i_31 : Int)) rfl sf6 ?_
                  refine L_mv (v := .int .i64 (i_5 : Int)) rfl sf5 ?_
                  refine L_lss (m := (i_31 : Int)) (n := (i_5 : Int)) rfl rfl rfl ?_
                  refine L_nil ?_
                  refine W_cond (b := decide ((i_31 : Int) < (i_5 : Int))) rfl (fun hc34 => ?_) (fun hc34 => ?_)
                  ·
                    have hlt32 := of_decide_eq_true hc34
                    cases suf32 with
                    | zero => exact absurd hlt32 (cntF_no hl32 hk33)
                    | succ rest32 =>
                      obtain ⟨o32, hB32, hL32⟩ := count_succ hL32
                      rw [s_l6Vars_b2] at hB32
                      refine W_skip ?_
                      refine W_seq ?_
                      refine W_block ?_
                      refine W_seq ?_
                      obtain ⟨x35, hx35, hB32⟩ := bind_some hB32
                      refine W_drawL 8 [isV (v1), isV (.int .i64 (i_31 : Int)), isEl B RP.int x35 0, isV (.int .i64 x35), isV (v1), isV (.int .i64 (i_5 : Int)), isEl B RP.int x_6 0, isV (.int .i64 x_6)] Try_mix (by kernel_rfl) (am_cons (mono_V _) (am_cons (mono_V _) (am_cons (mono_el _ _ _ _) (am_cons (mono_V _) (am_cons (mono_V _) (am_cons (mono_V _) (am_cons (mono_el _ _ _ _) (am_cons (mono_V _) am_nil)))))))) ?_ (fun f w_ hS40 hE40 hT40 => ?_)
                      ·
                        refine ops_cons (fun f w_ hS40 hE40 hP40 => ?_) ?_
                        ·
                          have hx := ext_trans hx hE40
                          have h1 := RP.ext h1 hE40
                          refine L_mv (v := v1) rfl ((hS40 1 rfl).trans sf1) ?_
                          exact L_nil ⟨rfl, (ext_refl _), _, _, rfl, rfl, rfl⟩
                        refine ops_cons (fun f w_ hS40 hE40 hP40 => ?_) ?_
                        ·
                          have hx := ext_trans hx hE40
                          refine L_mv (v := .int .i64 (i_31 : Int)) rfl ((hS40 6 rfl).trans sf6) ?_
                          exact L_nil ⟨rfl, (ext_refl _), _, _, rfl, rfl, rfl⟩
                        refine ops_cons (fun f w_ hS40 hE40 hP40 => ?_) ?_
                        ·
                          have hx := ext_trans hx hE40
                          have h1 := RP.ext h1 hE40
                          refine L_ix (r := RP.int) rfl Try.underlying23 Try.sizeOf3 (hP40 0 33 rfl rfl) h1 (hP40 1 34 rfl rfl) hx35 ?_
                          intro g45 o46 cs46 hr46 hat46
                          obtain rfl : _ = [_] := hr46
                          exact L_nil ⟨rfl, (ext_refl _), _, _, rfl, rfl, ⟨_, _, _, rfl, rfl, hat46⟩⟩
                        refine ops_cons (fun f w_ hS40 hE40 hP40 => ?_) ?_
                        ·
                          have hx := ext_trans hx hE40
                          obtain ⟨g47, o47, cs47, hv47, hr47, hat47⟩ := (hP40 2 35 rfl rfl)
                          obtain rfl : _ = [_] := hr47
                          refine L_ld (v := .int .i64 x35) rfl Try.isAgg3 hv47 (hat47.cell (j := 0) rfl) ?_
                          exact L_nil ⟨rfl, (ext_refl _), _, _, rfl, rfl, rfl⟩
                        refine ops_cons (fun f w_ hS40 hE40 hP40 => ?_) ?_
                        ·
                          have hx := ext_trans hx hE40
                          have h1 := RP.ext h1 hE40
                          refine L_mv (v := v1) rfl ((hS40 1 rfl).trans sf1) ?_
                          exact L_nil ⟨rfl, (ext_refl _), _, _, rfl, rfl, rfl⟩
                        refine ops_cons (fun f w_ hS40 hE40 hP40 => ?_) ?_
                        ·
                          have hx := ext_trans hx hE40
                          refine L_mv (v := .int .i64 (i_5 : Int)) rfl ((hS40 5 rfl).trans sf5) ?_
                          exact L_nil ⟨rfl, (ext_refl _), _, _, rfl, rfl, rfl⟩
                        refine ops_cons (fun f w_ hS40 hE40 hP40 => ?_) ?_
                        ·
                          have hx := ext_trans hx hE40
                          have h1 := RP.ext h1 hE40
                          refine L_ix (r := RP.int) rfl Try.underlying23 Try.sizeOf3 (hP40 4 37 rfl rfl) h1 (hP40 5 38 rfl rfl) hix6 ?_
                          intro g48 o49 cs49 hr49 hat49
                          obtain rfl : _ = [_] := hr49
                          exact L_nil ⟨rfl, (ext_refl _), _, _, rfl, rfl, ⟨_, _, _, rfl, rfl, hat49⟩⟩
                        refine ops_cons (fun f w_ hS40 hE40 hP40 => ?_) ?_
                        ·
                          have hx := ext_trans hx hE40
                          obtain ⟨g50, o50, cs50, hv50, hr50, hat50⟩ := (hP40 6 39 rfl rfl)
                          obtain rfl : _ = [_] := hr50
                          refine L_ld (v := .int .i64 x_6) rfl Try.isAgg3 hv50 (hat50.cell (j := 0) rfl) ?_
                          exact L_nil ⟨rfl, (ext_refl _), _, _, rfl, rfl, rfl⟩
                        exact ops_nil
                      ·
                        have h1 := RP.ext h1 hE40
                        have h0_0 := RP.ext h0_0 hE40
                        have h0_1 := RP.ext h0_1 hE40
                        have hb_g3 := Blk.ext hb_g3 hE40
                        have hx := ext_trans hx hE40
                        refine L_eql (m := x35) (n := x_6) rfl (hT40 3 36 rfl rfl) (hT40 7 40 rfl rfl) ?_
                        refine L_nil ?_
                        refine W_cond (b := (x35 == x_6)) rfl (fun hc51 => ?_) (fun hc51 => ?_)
                        ·
                          have hB32 := (ite_t hc51).symm.trans hB32
                          refine W_seq ?_
                          refine W_region ?_
                          refine L_as (v := .bool false) rfl rfl ?_
                          refine L_nil ?_
                          refine W_ret ?_
                          obtain rfl := so hB32
                          obtain rfl := so hL32
                          obtain rfl := so hB6
                          obtain rfl := so hL6
                          obtain rfl := so hF
                          refine ret1 Try.results98 ?_
                          exact ⟨rfl, hx⟩
                        ·
                          have hB32 := (ite_f hc51).symm.trans hB32
                          refine W_skip ?_
                          refine W_region ?_
                          refine L_mv (v := .int .i64 (i_31 : Int)) rfl ((hS40 6 rfl).trans sf6) ?_
                          refine L_add (m := (i_31 : Int)) (n := 1) rfl rfl rfl ?_
                          refine L_as (v := .int .i64 (i64 ((i_31 : Int) + 1))) rfl rfl ?_
                          refine L_nil ?_
                          obtain rfl := so hB32
                          show ∃ m, m < _ ∧ I32 m _ _
                          refine ⟨rest32, Nat.lt_succ_self _, ?_⟩
                          rw [hI32]
                          exact ⟨i_31 + 1, rest32, rfl, by omega, by omega, hL32, ((hS40 1 rfl).trans sf1), ((hS40 2 rfl).trans sf2), ((hS40 5 rfl).trans sf5), (Eq.trans rfl (congrArg (Value.int .i64) (i64_succ (n := 0 + k33) (by omega) (cntF_le hk33)))), h1, h0_0, h0_1, hb_g3, hx⟩
                  ·
                    cases suf32 with
                    | succ _ => exact absurd (cntF_yes hs32 hl32 hk33) (of_decide_eq_false hc34)
                    | zero =>
                      obtain rfl := count_zero hL32
                      refine W_exit ?_
                      show R32 _ _
                      rw [hR32]
                      exact ⟨rfl, sf1, sf2, sf5, h1, h0_0, h0_1, hb_g3, hx⟩
              ·
                intro f w_ hR
                rw [hR32] at hR
                obtain ⟨rfl, sf1, sf2, sf5, h1, h0_0, h0_1, hb_g3, hx⟩ := hR
                clear hR32
                refine W_region ?_
                refine L_mv (v := .int .i64 (i_5 : Int)) rfl sf5 ?_
                refine L_add (m := (i_5 : Int)) (n := 1) rfl rfl rfl ?_
                refine L_as (v := .int .i64 (i64 ((i_5 : Int) + 1))) rfl rfl ?_
                refine L_nil ?_
                obtain rfl := so hB6
                show ∃ m, m < _ ∧ I6 m _ _
                refine ⟨rest6.length, by simp, ?_⟩
                rw [hI6]
                exact ⟨i_5 + 1, rest6, rfl, drop_next hd6, by simp at hl6; omega, hL6, sf1, sf2, (Eq.trans rfl (congrArg (Value.int .i64) (i64_succ (n := list.length) (by simp at hl6; omega) hlen6))), h1, h0_0, h0_1, hb_g3, hx⟩
      ·
        cases suf6 with
        | cons _ _ => exact absurd (of_decide_eq_false hc7) (by simp at hl6; omega)
        | nil =>
          obtain rfl := range_nil hL6
          refine W_exit ?_
          show R6 _ _
          rw [hR6]
          exact ⟨rfl, sf1, h1, hx⟩
  ·
    intro f w_ hR
    rw [hR6] at hR
    obtain ⟨rfl, sf1, h1, hx⟩ := hR
    clear hR6
    refine W_seq ?_
    refine W_region ?_
    refine L_mv (v := v1) rfl sf1 ?_
    refine L_len (v := v1) rfl Try.underlying23 rfl h1 ?_
    refine L_geq (m := (list.length : Int)) (n := 1) rfl rfl rfl ?_
    refine L_as (v := .bool (decide ((list.length : Int) ≥ 1))) rfl rfl ?_
    refine L_nil ?_
    refine W_ret ?_
    obtain rfl := so hF
    refine ret1 Try.results98 ?_
    exact ⟨rfl, hx⟩

theorem s_l6Linear_c {r_ : Rule} {v0_1 : Value} {v0_2 : Value} {v0_4 : Value} {w : World} {B : Nat} (hB : B ≤ w.heap.size) (h0_1 : (RP.slice 3 RP.int).rel B w.heap.size w [v0_1] r_.vars) (h0_2 : (RP.slice 3 RP.int).rel B w.heap.size w [v0_2] r_.coefs) (h0_4 : (RP.slice 23 (RP.slice 3 RP.int)).rel B w.heap.size w [v0_4] r_.rows) {r : Bool} (hF : s_l6Linear r_ = some r) :
    C Try.prog 99 #[.agg #[.int .i64 r_.kind, v0_1, v0_2, .int .i64 r_.bound, v0_4]] w fun v w' => (v = .bool r) ∧ Ext w w' := by
  unfold s_l6Linear at hF
  have hx := ext_refl w
  refine C_enter Try.func99 rfl Try.ntmps99 rfl ?_
  refine W_seq ?_
  refine W_region ?_
  refine L_box (v := .agg #[.int .i64 r_.kind, v0_1, v0_2, .int .i64 r_.bound, v0_4]) (cs := #[.int .i64 r_.kind, v0_1, v0_2, .int .i64 r_.bound, v0_4]) rfl rfl rfl ?_
  intro g3 w4 hn4
  have hge_g3 := hn4.geS hx.size
  have hb_g3 := hn4.blk
  have h0_1 := RP.ext h0_1 hn4.ext
  have h0_2 := RP.ext h0_2 hn4.ext
  have h0_4 := RP.ext h0_4 hn4.ext
  have hx := ext_trans hx hn4.ext
  refine L_as (v := .bool false) rfl rfl ?_
  refine L_nil ?_
  refine W_seq ?_
  refine W_seq ?_
  refine W_region ?_
  refine L_as (v := .int .i64 0) rfl rfl ?_
  refine L_nil ?_
  have hlen6 := len_le h0_2
  obtain ⟨j6, hL6, hF⟩ := bind_some hF
  obtain ⟨R6, hR6⟩ : ∃ R : Fr → World → Prop, R = fun f w_ => j6 = .nx () ∧ f 1 = .pointer (some ⟨g3, 0, none⟩) ∧ (RP.slice 3 RP.int).rel B w.heap.size w_ [v0_1] r_.vars ∧ (RP.slice 3 RP.int).rel B w.heap.size w_ [v0_2] r_.coefs ∧ (RP.slice 23 (RP.slice 3 RP.int)).rel B w.heap.size w_ [v0_4] r_.rows ∧ Blk w_ g3 36 #[.int .i64 r_.kind, v0_1, v0_2, .int .i64 r_.bound, v0_4] ∧ Ext w w_ := ⟨_, rfl⟩
  refine W_join R6 ?_ ?_
  ·
    refine W_block ?_
    obtain ⟨I6, hI6⟩ : ∃ I : Nat → Fr → World → Prop, I = fun n f w_ => ∃ i_5 : Nat, ∃ suf6 : List Int, n = suf6.length ∧ List.drop i_5 r_.coefs = suf6 ∧ i_5 + suf6.length = r_.coefs.length ∧ rangeL s_l6Linear_b1 suf6 i_5 () = some j6 ∧ f 1 = .pointer (some ⟨g3, 0, none⟩) ∧ f 3 = .int .i64 (i_5 : Int) ∧ (RP.slice 3 RP.int).rel B w.heap.size w_ [v0_1] r_.vars ∧ (RP.slice 3 RP.int).rel B w.heap.size w_ [v0_2] r_.coefs ∧ (RP.slice 23 (RP.slice 3 RP.int)).rel B w.heap.size w_ [v0_4] r_.rows ∧ Blk w_ g3 36 #[.int .i64 r_.kind, v0_1, v0_2, .int .i64 r_.bound, v0_4] ∧ Ext w w_ := ⟨_, rfl⟩
    refine W_loop I6 (n := r_.coefs.length) ?_ ?_
    · rw [hI6]; exact ⟨0, r_.coefs, rfl, rfl, Nat.zero_add _, hL6, rfl, rfl, h0_1, h0_2, h0_4, hb_g3, hx⟩
    ·
      intro n6 f w_ hI
      rw [hI6] at hI
      obtain ⟨i_5, suf6, rfl, hd6, hl6, hL6, sf1, sf3, h0_1, h0_2, h0_4, hb_g3, hx⟩ := hI
      refine W_seq ?_
      refine W_seq ?_
      refine W_region ?_
      refine L_mv (v := .int .i64 (i_5 : Int)) rfl sf3 ?_
      refine L_fa (o' := 2) rfl fa_36_2 sf1 rfl ?_
      refine L_ld (v := v0_2) rfl Try.isAgg23 rfl (hb_g3.cell (j := 2) rfl) ?_
      refine L_len (v := v0_2) rfl Try.underlying23 rfl h0_2 ?_
      refine L_lss (m := (i_5 : Int)) (n := (r_.coefs.length : Int)) rfl rfl rfl ?_
      refine L_nil ?_
      refine W_cond (b := decide ((i_5 : Int) < (r_.coefs.length : Int))) rfl (fun hc7 => ?_) (fun hc7 => ?_)
      ·
        have hlt6 := of_decide_eq_true hc7
        cases suf6 with
        | nil => exact absurd hlt6 (by simp at hl6; omega)
        | cons x_6 rest6 =>
          obtain ⟨o6, hB6, hL6⟩ := range_cons hL6
          rw [s_l6Linear_b1] at hB6
          have hix6 := drop_idx hd6
          refine W_skip ?_
          refine W_seq ?_
          refine W_block ?_
          refine W_seq ?_
          obtain ⟨R14, hR14⟩ : ∃ R : Fr → World → Prop, R = fun f w_ => f 1 = .pointer (some ⟨g3, 0, none⟩) ∧ f 3 = .int .i64 (i_5 : Int) ∧ f 32 = .bool (((decide (x_6 < (-9))) || (decide (x_6 > 9))) || (x_6 == 0)) ∧ (RP.slice 3 RP.int).rel B w.heap.size w_ [v0_1] r_.vars ∧ (RP.slice 3 RP.int).rel B w.heap.size w_ [v0_2] r_.coefs ∧ (RP.slice 23 (RP.slice 3 RP.int)).rel B w.heap.size w_ [v0_4] r_.rows ∧ Blk w_ g3 36 #[.int .i64 r_.kind, v0_1, v0_2, .int .i64 r_.bound, v0_4] ∧ Ext w w_ := ⟨_, rfl⟩
          refine W_join R14 ?_ ?_
          ·
            refine W_region ?_
            refine L_fa (o' := 2) rfl fa_36_2 sf1 rfl ?_
            refine L_ld (v := v0_2) rfl Try.isAgg23 rfl (hb_g3.cell (j := 2) rfl) ?_
            refine L_mv (v := .int .i64 (i_5 : Int)) rfl sf3 ?_
            refine L_ix (r := RP.int) rfl Try.underlying23 Try.sizeOf3 rfl h0_2 rfl hix6 ?_
            intro g15 o16 cs16 hr16 hat16
            obtain rfl : _ = [_] := hr16
            refine L_ld (v := .int .i64 x_6) rfl Try.isAgg3 rfl (hat16.cell (j := 0) rfl) ?_
            refine L_lss (m := x_6) (n := (-9)) rfl rfl rfl ?_
            refine L_mv (v := .bool (decide (x_6 < (-9)))) rfl rfl ?_
            refine L_split (d := 17) (b := decide (x_6 < (-9))) rfl (fun hc17 => ?_) (fun hc17 => ?_)
            ·
              refine L_pass rfl ?_
              refine L_pass rfl ?_
              refine L_pass rfl ?_
              refine L_pass rfl ?_
              refine L_pass rfl ?_
              refine L_pass rfl ?_
              refine L_pick (v := .bool ((decide (x_6 < (-9))) || (decide (x_6 > 9)))) rfl rfl (or_t hc17) ?_
              refine L_mv (v := .bool ((decide (x_6 < (-9))) || (decide (x_6 > 9)))) rfl rfl ?_
              refine L_split (d := 25) (b := ((decide (x_6 < (-9))) || (decide (x_6 > 9)))) rfl (fun hc18 => ?_) (fun hc18 => ?_)
              ·
                refine L_pass rfl ?_
                refine L_pass rfl ?_
                refine L_pass rfl ?_
                refine L_pass rfl ?_
                refine L_pass rfl ?_
                refine L_pass rfl ?_
                refine L_pick (v := .bool (((decide (x_6 < (-9))) || (decide (x_6 > 9))) || (x_6 == 0))) rfl rfl (or_t hc18) ?_
                refine L_nil ?_
                show R14 _ _
                rw [hR14]
                exact ⟨sf1, sf3, rfl, h0_1, h0_2, h0_4, hb_g3, hx⟩
              ·
                refine L_fa (o' := 2) rfl fa_36_2 sf1 rfl ?_
                refine L_ld (v := v0_2) rfl Try.isAgg23 rfl (hb_g3.cell (j := 2) rfl) ?_
                refine L_mv (v := .int .i64 (i_5 : Int)) rfl sf3 ?_
                refine L_ix (r := RP.int) rfl Try.underlying23 Try.sizeOf3 rfl h0_2 rfl hix6 ?_
                intro g19 o20 cs20 hr20 hat20
                obtain rfl : _ = [_] := hr20
                refine L_ld (v := .int .i64 x_6) rfl Try.isAgg3 rfl (hat20.cell (j := 0) rfl) ?_
                refine L_eql (m := x_6) (n := 0) rfl rfl rfl ?_
                refine L_pick (v := .bool (((decide (x_6 < (-9))) || (decide (x_6 > 9))) || (x_6 == 0))) rfl rfl (or_f hc18 rfl) ?_
                refine L_nil ?_
                show R14 _ _
                rw [hR14]
                exact ⟨sf1, sf3, rfl, h0_1, h0_2, h0_4, hb_g3, hx⟩
            ·
              refine L_fa (o' := 2) rfl fa_36_2 sf1 rfl ?_
              refine L_ld (v := v0_2) rfl Try.isAgg23 rfl (hb_g3.cell (j := 2) rfl) ?_
              refine L_mv (v := .int .i64 (i_5 : Int)) rfl sf3 ?_
              refine L_ix (r := RP.int) rfl Try.underlying23 Try.sizeOf3 rfl h0_2 rfl hix6 ?_
              intro g21 o22 cs22 hr22 hat22
              obtain rfl : _ = [_] := hr22
              refine L_ld (v := .int .i64 x_6) rfl Try.isAgg3 rfl (hat22.cell (j := 0) rfl) ?_
              refine L_gtr (m := x_6) (n := 9) rfl rfl rfl ?_
              refine L_pick (v := .bool ((decide (x_6 < (-9))) || (decide (x_6 > 9)))) rfl rfl (or_f hc17 rfl) ?_
              refine L_mv (v := .bool ((decide (x_6 < (-9))) || (decide (x_6 > 9)))) rfl rfl ?_
              refine L_split (d := 25) (b := ((decide (x_6 < (-9))) || (decide (x_6 > 9)))) rfl (fun hc23 => ?_) (fun hc23 => ?_)
              ·
                refine L_pass rfl ?_
                refine L_pass rfl ?_
                refine L_pass rfl ?_
                refine L_pass rfl ?_
                refine L_pass rfl ?_
                refine L_pass rfl ?_
                refine L_pick (v := .bool (((decide (x_6 < (-9))) || (decide (x_6 > 9))) || (x_6 == 0))) rfl rfl (or_t hc23) ?_
                refine L_nil ?_
                show R14 _ _
                rw [hR14]
                exact ⟨sf1, sf3, rfl, h0_1, h0_2, h0_4, hb_g3, hx⟩
              ·
                refine L_fa (o' := 2) rfl fa_36_2 sf1 rfl ?_
                refine L_ld (v := v0_2) rfl Try.isAgg23 rfl (hb_g3.cell (j := 2) rfl) ?_
                refine L_mv (v := .int .i64 (i_5 : Int)) rfl sf3 ?_
                refine L_ix (r := RP.int) rfl Try.underlying23 Try.sizeOf3 rfl h0_2 rfl hix6 ?_
                intro g24 o25 cs25 hr25 hat25
                obtain rfl : _ = [_] := hr25
                refine L_ld (v := .int .i64 x_6) rfl Try.isAgg3 rfl (hat25.cell (j := 0) rfl) ?_
                refine L_eql (m := x_6) (n := 0) rfl rfl rfl ?_
                refine L_pick (v := .bool (((decide (x_6 < (-9))) || (decide (x_6 > 9))) || (x_6 == 0))) rfl rfl (or_f hc23 rfl) ?_
                refine L_nil ?_
                show R14 _ _
                rw [hR14]
                exact ⟨sf1, sf3, rfl, h0_1, h0_2, h0_4, hb_g3, hx⟩
          ·
            intro f w_ hR
            rw [hR14] at hR
            obtain ⟨sf1, sf3, sf32, h0_1, h0_2, h0_4, hb_g3, hx⟩ := hR
            clear hR14
            refine W_cond (b := (((decide (x_6 < (-9))) || (decide (x_6 > 9))) || (x_6 == 0))) sf32 (fun hc26 => ?_) (fun hc26 => ?_)
            ·
              have hB6 := (ite_t hc26).symm.trans hB6
              refine W_seq ?_
              refine W_region ?_
              refine L_as (v := .bool false) rfl rfl ?_
              refine L_nil ?_
              refine W_ret ?_
              obtain rfl := so hB6
              obtain rfl := so hL6
              obtain rfl := so hF
              refine ret1 Try.results99 ?_
              exact ⟨rfl, hx⟩
            ·
              have hB6 := (ite_f hc26).symm.trans hB6
              refine W_skip ?_
              refine W_region ?_
              refine L_mv (v := .int .i64 (i_5 : Int)) rfl sf3 ?_
              refine L_add (m := (i_5 : Int)) (n := 1) rfl rfl rfl ?_
              refine L_as (v := .int .i64 (i64 ((i_5 : Int) + 1))) rfl rfl ?_
              refine L_nil ?_
              obtain rfl := so hB6
              show ∃ m, m < _ ∧ I6 m _ _
              refine ⟨rest6.length, by simp, ?_⟩
              rw [hI6]
              exact ⟨i_5 + 1, rest6, rfl, drop_next hd6, by simp at hl6; omega, hL6, sf1, (Eq.trans rfl (congrArg (Value.int .i64) (i64_succ (n := r_.coefs.length) (by simp at hl6; omega) hlen6))), h0_1, h0_2, h0_4, hb_g3, hx⟩
      ·
        cases suf6 with
        | cons _ _ => exact absurd (of_decide_eq_false hc7) (by simp at hl6; omega)
        | nil =>
          obtain rfl := range_nil hL6
          refine W_exit ?_
          show R6 _ _
          rw [hR6]
          exact ⟨rfl, sf1, h0_1, h0_2, h0_4, hb_g3, hx⟩
  ·
    intro f w_ hR
    rw [hR6] at hR
    obtain ⟨rfl, sf1, h0_1, h0_2, h0_4, hb_g3, hx⟩ := hR
    clear hR6
    refine W_seq ?_
    obtain ⟨R27, hR27⟩ : ∃ R : Fr → World → Prop, R = fun f w_ => f 2 = .bool ((((r_.coefs.length : Int) == (r_.vars.length : Int)) && (decide (r_.bound ≥ (-1000)))) && (decide (r_.bound ≤ 1000))) ∧ Ext w w_ := ⟨_, rfl⟩
    refine W_join R27 ?_ ?_
    ·
      refine W_region ?_
      refine L_fa (o' := 2) rfl fa_36_2 sf1 rfl ?_
      refine L_ld (v := v0_2) rfl Try.isAgg23 rfl (hb_g3.cell (j := 2) rfl) ?_
      refine L_len (v := v0_2) rfl Try.underlying23 rfl h0_2 ?_
      refine L_fa (o' := 1) rfl fa_36_1 sf1 rfl ?_
      refine L_ld (v := v0_1) rfl Try.isAgg23 rfl (hb_g3.cell (j := 1) rfl) ?_
      refine L_len (v := v0_1) rfl Try.underlying23 rfl h0_1 ?_
      refine L_eql (m := (r_.coefs.length : Int)) (n := (r_.vars.length : Int)) rfl rfl rfl ?_
      refine L_mv (v := .bool ((r_.coefs.length : Int) == (r_.vars.length : Int))) rfl rfl ?_
      refine L_split (d := 40) (b := ((r_.coefs.length : Int) == (r_.vars.length : Int))) rfl (fun hc28 => ?_) (fun hc28 => ?_)
      ·
        refine L_fa (o' := 3) rfl fa_36_3 sf1 rfl ?_
        refine L_ld (v := .int .i64 r_.bound) rfl Try.isAgg3 rfl (hb_g3.cell (j := 3) rfl) ?_
        refine L_geq (m := r_.bound) (n := (-1000)) rfl rfl rfl ?_
        refine L_pick (v := .bool (((r_.coefs.length : Int) == (r_.vars.length : Int)) && (decide (r_.bound ≥ (-1000))))) rfl rfl (and_t hc28 rfl) ?_
        refine L_mv (v := .bool (((r_.coefs.length : Int) == (r_.vars.length : Int)) && (decide (r_.bound ≥ (-1000))))) rfl rfl ?_
        refine L_split (d := 45) (b := (((r_.coefs.length : Int) == (r_.vars.length : Int)) && (decide (r_.bound ≥ (-1000))))) rfl (fun hc29 => ?_) (fun hc29 => ?_)
        ·
          refine L_fa (o' := 3) rfl fa_36_3 sf1 rfl ?_
          refine L_ld (v := .int .i64 r_.bound) rfl Try.isAgg3 rfl (hb_g3.cell (j := 3) rfl) ?_
          refine L_leq (m := r_.bound) (n := 1000) rfl rfl rfl ?_
          refine L_pick (v := .bool ((((r_.coefs.length : Int) == (r_.vars.length : Int)) && (decide (r_.bound ≥ (-1000)))) && (decide (r_.bound ≤ 1000)))) rfl rfl (and_t hc29 rfl) ?_
          refine L_as (v := .bool ((((r_.coefs.length : Int) == (r_.vars.length : Int)) && (decide (r_.bound ≥ (-1000)))) && (decide (r_.bound ≤ 1000)))) rfl rfl ?_
          refine L_nil ?_
          show R27 _ _
          rw [hR27]
          exact ⟨rfl, hx⟩
        ·
          refine L_pass rfl ?_
          refine L_pass rfl ?_
          refine L_pass rfl ?_
          refine L_pick (v := .bool ((((r_.coefs.length : Int) == (r_.vars.length : Int)) && (decide (r_.bound ≥ (-1000)))) && (decide (r_.bound ≤ 1000)))) rfl rfl (and_f hc29) ?_
          refine L_as (v := .bool ((((r_.coefs.length : Int) == (r_.vars.length : Int)) && (decide (r_.bound ≥ (-1000)))) && (decide (r_.bound ≤ 1000)))) rfl rfl ?_
          refine L_nil ?_
          show R27 _ _
          rw [hR27]
          exact ⟨rfl, hx⟩
      ·
        refine L_pass rfl ?_
        refine L_pass rfl ?_
        refine L_pass rfl ?_
        refine L_pick (v := .bool (((r_.coefs.length : Int) == (r_.vars.length : Int)) && (decide (r_.bound ≥ (-1000))))) rfl rfl (and_f hc28) ?_
        refine L_mv (v := .bool (((r_.coefs.length : Int) == (r_.vars.length : Int)) && (decide (r_.bound ≥ (-1000))))) rfl rfl ?_
        refine L_split (d := 45) (b := (((r_.coefs.length : Int) == (r_.vars.length : Int)) && (decide (r_.bound ≥ (-1000))))) rfl (fun hc30 => ?_) (fun hc30 => ?_)
        ·
          refine L_fa (o' := 3) rfl fa_36_3 sf1 rfl ?_
          refine L_ld (v := .int .i64 r_.bound) rfl Try.isAgg3 rfl (hb_g3.cell (j := 3) rfl) ?_
          refine L_leq (m := r_.bound) (n := 1000) rfl rfl rfl ?_
          refine L_pick (v := .bool ((((r_.coefs.length : Int) == (r_.vars.length : Int)) && (decide (r_.bound ≥ (-1000)))) && (decide (r_.bound ≤ 1000)))) rfl rfl (and_t hc30 rfl) ?_
          refine L_as (v := .bool ((((r_.coefs.length : Int) == (r_.vars.length : Int)) && (decide (r_.bound ≥ (-1000)))) && (decide (r_.bound ≤ 1000)))) rfl rfl ?_
          refine L_nil ?_
          show R27 _ _
          rw [hR27]
          exact ⟨rfl, hx⟩
        ·
          refine L_pass rfl ?_
          refine L_pass rfl ?_
          refine L_pass rfl ?_
          refine L_pick (v := .bool ((((r_.coefs.length : Int) == (r_.vars.length : Int)) && (decide (r_.bound ≥ (-1000)))) && (decide (r_.bound ≤ 1000)))) rfl rfl (and_f hc30) ?_
          refine L_as (v := .bool ((((r_.coefs.length : Int) == (r_.vars.length : Int)) && (decide (r_.bound ≥ (-1000)))) && (decide (r_.bound ≤ 1000)))) rfl rfl ?_
          refine L_nil ?_
          show R27 _ _
          rw [hR27]
          exact ⟨rfl, hx⟩
    ·
      intro f w_ hR
      rw [hR27] at hR
      obtain ⟨sf2, hx⟩ := hR
      clear hR27
      refine W_ret ?_
      obtain rfl := so hF
      refine ret1 Try.results99 ?_
      exact ⟨sf2, hx⟩

theorem s_l6Table_c {r_ : Rule} {v0_1 : Value} {v0_2 : Value} {v0_4 : Value} {w : World} {B : Nat} (hB : B ≤ w.heap.size) (h0_1 : (RP.slice 3 RP.int).rel B w.heap.size w [v0_1] r_.vars) (h0_2 : (RP.slice 3 RP.int).rel B w.heap.size w [v0_2] r_.coefs) (h0_4 : (RP.slice 23 (RP.slice 3 RP.int)).rel B w.heap.size w [v0_4] r_.rows) {r : Bool} (hF : s_l6Table r_ = some r) :
    C Try.prog 100 #[.agg #[.int .i64 r_.kind, v0_1, v0_2, .int .i64 r_.bound, v0_4]] w fun v w' => (v = .bool r) ∧ Ext w w' := by
  unfold s_l6Table at hF
  have hx := ext_refl w
  refine C_enter Try.func100 rfl Try.ntmps100 rfl ?_
  refine W_seq ?_
  refine W_region ?_
  refine L_box (v := .agg #[.int .i64 r_.kind, v0_1, v0_2, .int .i64 r_.bound, v0_4]) (cs := #[.int .i64 r_.kind, v0_1, v0_2, .int .i64 r_.bound, v0_4]) rfl rfl rfl ?_
  intro g3 w4 hn4
  have hge_g3 := hn4.geS hx.size
  have hb_g3 := hn4.blk
  have h0_1 := RP.ext h0_1 hn4.ext
  have h0_2 := RP.ext h0_2 hn4.ext
  have h0_4 := RP.ext h0_4 hn4.ext
  have hx := ext_trans hx hn4.ext
  refine L_as (v := .bool false) rfl rfl ?_
  refine L_nil ?_
  refine W_seq ?_
  refine W_seq ?_
  refine W_region ?_
  refine L_as (v := .int .i64 0) rfl rfl ?_
  refine L_nil ?_
  have hlen6 := len_le h0_4
  obtain ⟨j6, hL6, hF⟩ := bind_some hF
  obtain ⟨R6, hR6⟩ : ∃ R : Fr → World → Prop, R = fun f w_ => j6 = .nx () ∧ f 1 = .pointer (some ⟨g3, 0, none⟩) ∧ (RP.slice 3 RP.int).rel B w.heap.size w_ [v0_1] r_.vars ∧ (RP.slice 3 RP.int).rel B w.heap.size w_ [v0_2] r_.coefs ∧ (RP.slice 23 (RP.slice 3 RP.int)).rel B w.heap.size w_ [v0_4] r_.rows ∧ Blk w_ g3 36 #[.int .i64 r_.kind, v0_1, v0_2, .int .i64 r_.bound, v0_4] ∧ Ext w w_ := ⟨_, rfl⟩
  refine W_join R6 ?_ ?_
  ·
    refine W_block ?_
    obtain ⟨I6, hI6⟩ : ∃ I : Nat → Fr → World → Prop, I = fun n f w_ => ∃ i_5 : Nat, ∃ suf6 : List (List Int), n = suf6.length ∧ List.drop i_5 r_.rows = suf6 ∧ i_5 + suf6.length = r_.rows.length ∧ rangeL (s_l6Table_b1 r_) suf6 i_5 () = some j6 ∧ f 1 = .pointer (some ⟨g3, 0, none⟩) ∧ f 3 = .int .i64 (i_5 : Int) ∧ (RP.slice 3 RP.int).rel B w.heap.size w_ [v0_1] r_.vars ∧ (RP.slice 3 RP.int).rel B w.heap.size w_ [v0_2] r_.coefs ∧ (RP.slice 23 (RP.slice 3 RP.int)).rel B w.heap.size w_ [v0_4] r_.rows ∧ Blk w_ g3 36 #[.int .i64 r_.kind, v0_1, v0_2, .int .i64 r_.bound, v0_4] ∧ Ext w w_ := ⟨_, rfl⟩
    refine W_loop I6 (n := r_.rows.length) ?_ ?_
    · rw [hI6]; exact ⟨0, r_.rows, rfl, rfl, Nat.zero_add _, hL6, rfl, rfl, h0_1, h0_2, h0_4, hb_g3, hx⟩
    ·
      intro n6 f w_ hI
      rw [hI6] at hI
      obtain ⟨i_5, suf6, rfl, hd6, hl6, hL6, sf1, sf3, h0_1, h0_2, h0_4, hb_g3, hx⟩ := hI
      refine W_seq ?_
      refine W_seq ?_
      refine W_region ?_
      refine L_mv (v := .int .i64 (i_5 : Int)) rfl sf3 ?_
      refine L_fa (o' := 4) rfl fa_36_4 sf1 rfl ?_
      refine L_ld (v := v0_4) rfl Try.isAgg34 rfl (hb_g3.cell (j := 4) rfl) ?_
      refine L_len (v := v0_4) rfl Try.underlying34 rfl h0_4 ?_
      refine L_lss (m := (i_5 : Int)) (n := (r_.rows.length : Int)) rfl rfl rfl ?_
      refine L_nil ?_
      refine W_cond (b := decide ((i_5 : Int) < (r_.rows.length : Int))) rfl (fun hc7 => ?_) (fun hc7 => ?_)
      ·
        have hlt6 := of_decide_eq_true hc7
        cases suf6 with
        | nil => exact absurd hlt6 (by simp at hl6; omega)
        | cons x_6 rest6 =>
          obtain ⟨o6, hB6, hL6⟩ := range_cons hL6
          rw [s_l6Table_b1] at hB6
          have hix6 := drop_idx hd6
          refine W_skip ?_
          refine W_seq ?_
          refine W_block ?_
          refine W_seq ?_
          refine W_seq ?_
          refine W_drawL 9 [isV (.pointer (some ⟨g3, 4, none⟩)), isV (v0_4), isV (.int .i64 (i_5 : Int)), isEl B (RP.slice 3 RP.int) x_6 0, isData B (RP.slice 3 RP.int) x_6, isV (.int .i64 (x_6.length : Int)), isV (.pointer (some ⟨g3, 1, none⟩)), isV (v0_1), isV (.int .i64 (r_.vars.length : Int))] Try_mix (by kernel_rfl) (am_cons (mono_V _) (am_cons (mono_V _) (am_cons (mono_V _) (am_cons (mono_el _ _ _ _) (am_cons (mono_data _ _ _) (am_cons (mono_V _) (am_cons (mono_V _) (am_cons (mono_V _) (am_cons (mono_V _) am_nil))))))))) ?_ (fun f w_ hS10 hE10 hT10 => ?_)
          ·
            refine ops_cons (fun f w_ hS10 hE10 hP10 => ?_) ?_
            ·
              have hx := ext_trans hx hE10
              have h0_1 := RP.ext h0_1 hE10
              have h0_2 := RP.ext h0_2 hE10
              have h0_4 := RP.ext h0_4 hE10
              have hb_g3 := Blk.ext hb_g3 hE10
              refine L_fa (o' := 4) rfl fa_36_4 ((hS10 1 rfl).trans sf1) rfl ?_
              exact L_nil ⟨rfl, (ext_refl _), _, _, rfl, rfl, rfl⟩
            refine ops_cons (fun f w_ hS10 hE10 hP10 => ?_) ?_
            ·
              have hx := ext_trans hx hE10
              have h0_1 := RP.ext h0_1 hE10
              have h0_2 := RP.ext h0_2 hE10
              have h0_4 := RP.ext h0_4 hE10
              have hb_g3 := Blk.ext hb_g3 hE10
              refine L_ld (v := v0_4) rfl Try.isAgg34 (hP10 0 12 rfl rfl) (hb_g3.cell (j := 4) rfl) ?_
              exact L_nil ⟨rfl, (ext_refl _), _, _, rfl, rfl, rfl⟩
            refine ops_cons (fun f w_ hS10 hE10 hP10 => ?_) ?_
            ·
              have hx := ext_trans hx hE10
              refine L_mv (v := .int .i64 (i_5 : Int)) rfl ((hS10 3 rfl).trans sf3) ?_
              exact L_nil ⟨rfl, (ext_refl _), _, _, rfl, rfl, rfl⟩
            refine ops_cons (fun f w_ hS10 hE10 hP10 => ?_) ?_
            ·
              have hx := ext_trans hx hE10
              have h0_4 := RP.ext h0_4 hE10
              refine L_ix (r := (RP.slice 3 RP.int)) rfl Try.underlying34 Try.sizeOf23 (hP10 1 13 rfl rfl) h0_4 (hP10 2 14 rfl rfl) hix6 ?_
              intro g13 o14 cs14 hr14 hat14
              obtain ⟨u14, rfl, hu14⟩ := slice1 hr14
              exact L_nil ⟨rfl, (ext_refl _), _, _, rfl, rfl, ⟨_, _, _, rfl, (rel0 hr14), hat14⟩⟩
            refine ops_cons (fun f w_ hS10 hE10 hP10 => ?_) ?_
            ·
              have hx := ext_trans hx hE10
              obtain ⟨g15, o15, cs15, hv15, hr15, hat15⟩ := (hP10 3 15 rfl rfl)
              obtain ⟨u15, rfl, hu15⟩ := slice1 hr15
              refine L_ld (v := u15) rfl Try.isAgg23 hv15 (hat15.cell (j := 0) rfl) ?_
              exact L_nil ⟨rfl, (ext_refl _), _, _, rfl, rfl, (rel0 hu15)⟩
            refine ops_cons (fun f w_ hS10 hE10 hP10 => ?_) ?_
            ·
              have hx := ext_trans hx hE10
              have hd16 := (hP10 4 16 rfl rfl)
              refine L_len (v := (f 16)) rfl Try.underlying23 rfl hd16 ?_
              exact L_nil ⟨rfl, (ext_refl _), _, _, rfl, rfl, rfl⟩
            refine ops_cons (fun f w_ hS10 hE10 hP10 => ?_) ?_
            ·
              have hx := ext_trans hx hE10
              have h0_1 := RP.ext h0_1 hE10
              have h0_2 := RP.ext h0_2 hE10
              have h0_4 := RP.ext h0_4 hE10
              have hb_g3 := Blk.ext hb_g3 hE10
              refine L_fa (o' := 1) rfl fa_36_1 ((hS10 1 rfl).trans sf1) rfl ?_
              exact L_nil ⟨rfl, (ext_refl _), _, _, rfl, rfl, rfl⟩
            refine ops_cons (fun f w_ hS10 hE10 hP10 => ?_) ?_
            ·
              have hx := ext_trans hx hE10
              have h0_1 := RP.ext h0_1 hE10
              have h0_2 := RP.ext h0_2 hE10
              have h0_4 := RP.ext h0_4 hE10
              have hb_g3 := Blk.ext hb_g3 hE10
              refine L_ld (v := v0_1) rfl Try.isAgg23 (hP10 6 18 rfl rfl) (hb_g3.cell (j := 1) rfl) ?_
              exact L_nil ⟨rfl, (ext_refl _), _, _, rfl, rfl, rfl⟩
            refine ops_cons (fun f w_ hS10 hE10 hP10 => ?_) ?_
            ·
              have hx := ext_trans hx hE10
              have h0_1 := RP.ext h0_1 hE10
              refine L_len (v := v0_1) rfl Try.underlying23 (hP10 7 19 rfl rfl) h0_1 ?_
              exact L_nil ⟨rfl, (ext_refl _), _, _, rfl, rfl, rfl⟩
            exact ops_nil
          ·
            have h0_1 := RP.ext h0_1 hE10
            have h0_2 := RP.ext h0_2 hE10
            have h0_4 := RP.ext h0_4 hE10
            have hb_g3 := Blk.ext hb_g3 hE10
            have hx := ext_trans hx hE10
            refine L_neq (m := (x_6.length : Int)) (n := (r_.vars.length : Int)) rfl (hT10 5 17 rfl rfl) (hT10 8 20 rfl rfl) ?_
            refine L_nil ?_
            refine W_cond (b := ((x_6.length : Int) != (r_.vars.length : Int))) rfl (fun hc17 => ?_) (fun hc17 => ?_)
            ·
              have hB6 := (ite_t hc17).symm.trans hB6
              refine W_seq ?_
              refine W_region ?_
              refine L_as (v := .bool false) rfl rfl ?_
              refine L_nil ?_
              refine W_ret ?_
              obtain rfl := so hB6
              obtain rfl := so hL6
              obtain rfl := so hF
              refine ret1 Try.results100 ?_
              exact ⟨rfl, hx⟩
            ·
              have hB6 := (ite_f hc17).symm.trans hB6
              refine W_skip ?_
              refine W_seq ?_
              refine W_region ?_
              refine L_as (v := .int .i64 0) rfl rfl ?_
              refine L_nil ?_
              obtain ⟨k20, hk20, hB6⟩ := bind_some hB6
              obtain ⟨j19, hL19, hB6⟩ := bind_some hB6
              obtain ⟨R19, hR19⟩ : ∃ R : Fr → World → Prop, R = fun f w_ => j19 = .nx () ∧ f 1 = .pointer (some ⟨g3, 0, none⟩) ∧ f 3 = .int .i64 (i_5 : Int) ∧ (RP.slice 3 RP.int).rel B w.heap.size w_ [v0_1] r_.vars ∧ (RP.slice 3 RP.int).rel B w.heap.size w_ [v0_2] r_.coefs ∧ (RP.slice 23 (RP.slice 3 RP.int)).rel B w.heap.size w_ [v0_4] r_.rows ∧ Blk w_ g3 36 #[.int .i64 r_.kind, v0_1, v0_2, .int .i64 r_.bound, v0_4] ∧ Ext w w_ := ⟨_, rfl⟩
              refine W_join R19 ?_ ?_
              ·
                refine W_block ?_
                obtain ⟨I19, hI19⟩ : ∃ I : Nat → Fr → World → Prop, I = fun n f w_ => ∃ i_18 : Nat, ∃ suf19 : Nat, suf19 = n ∧ 0 ≤ i_18 ∧ i_18 + suf19 = 0 + k20 ∧ countL (s_l6Table_b2 x_6) suf19 i_18 () = some j19 ∧ f 1 = .pointer (some ⟨g3, 0, none⟩) ∧ f 3 = .int .i64 (i_5 : Int) ∧ f 4 = .int .i64 (i_18 : Int) ∧ (RP.slice 3 RP.int).rel B w.heap.size w_ [v0_1] r_.vars ∧ (RP.slice 3 RP.int).rel B w.heap.size w_ [v0_2] r_.coefs ∧ (RP.slice 23 (RP.slice 3 RP.int)).rel B w.heap.size w_ [v0_4] r_.rows ∧ Blk w_ g3 36 #[.int .i64 r_.kind, v0_1, v0_2, .int .i64 r_.bound, v0_4] ∧ Ext w w_ := ⟨_, rfl⟩
                refine W_loop I19 (n := k20) ?_ ?_
                · rw [hI19]; exact ⟨0, k20, rfl, Nat.le_refl _, rfl, hL19, ((hS10 1 rfl).trans sf1), ((hS10 3 rfl).trans sf3), rfl, h0_1, h0_2, h0_4, hb_g3, hx⟩
                ·
                  intro n19 f w_ hI
                  rw [hI19] at hI
                  obtain ⟨i_18, suf19, rfl, hs19, hl19, hL19, sf1, sf3, sf4, h0_1, h0_2, h0_4, hb_g3, hx⟩ := hI
                  refine W_seq ?_
                  refine W_seq ?_
                  refine W_region ?_
                  refine L_mv (v := .int .i64 (i_18 : Int)) rfl sf4 ?_
                  refine L_fa (o' := 4) rfl fa_36_4 sf1 rfl ?_
                  refine L_ld (v := v0_4) rfl Try.isAgg34 rfl (hb_g3.cell (j := 4) rfl) ?_
                  refine L_mv (v := .int .i64 (i_5 : Int)) rfl sf3 ?_
                  refine L_ix (r := (RP.slice 3 RP.int)) rfl Try.underlying34 Try.sizeOf23 rfl h0_4 rfl hix6 ?_
                  intro g23 o24 cs24 hr24 hat24
                  obtain ⟨u24, rfl, hu24⟩ := slice1 hr24
                  refine L_ld (v := u24) rfl Try.isAgg23 rfl (hat24.cell (j := 0) rfl) ?_
                  refine L_len (v := u24) rfl Try.underlying23 rfl hu24 ?_
                  refine L_lss (m := (i_18 : Int)) (n := (x_6.length : Int)) rfl rfl rfl ?_
                  refine L_nil ?_
                  refine W_cond (b := decide ((i_18 : Int) < (x_6.length : Int))) rfl (fun hc25 => ?_) (fun hc25 => ?_)
                  ·
                    have hlt19 := of_decide_eq_true hc25
                    cases suf19 with
                    | zero => exact absurd hlt19 (cntF_no hl19 hk20)
                    | succ rest19 =>
                      obtain ⟨o19, hB19, hL19⟩ := count_succ hL19
                      rw [s_l6Table_b2] at hB19
                      refine W_skip ?_
                      refine W_seq ?_
                      refine W_block ?_
                      refine W_seq ?_
                      obtain ⟨x28, hx28, hB19⟩ := bind_some hB19
                      obtain ⟨R35, hR35⟩ : ∃ R : Fr → World → Prop, R = fun f w_ => f 1 = .pointer (some ⟨g3, 0, none⟩) ∧ f 3 = .int .i64 (i_5 : Int) ∧ f 4 = .int .i64 (i_18 : Int) ∧ f 51 = .bool ((decide (x28 < 0)) || (decide (x28 > 3))) ∧ (RP.slice 3 RP.int).rel B w.heap.size w_ [v0_1] r_.vars ∧ (RP.slice 3 RP.int).rel B w.heap.size w_ [v0_2] r_.coefs ∧ (RP.slice 23 (RP.slice 3 RP.int)).rel B w.heap.size w_ [v0_4] r_.rows ∧ Blk w_ g3 36 #[.int .i64 r_.kind, v0_1, v0_2, .int .i64 r_.bound, v0_4] ∧ Ext w w_ := ⟨_, rfl⟩
                      refine W_join R35 ?_ ?_
                      ·
                        refine W_region ?_
                        refine L_fa (o' := 4) rfl fa_36_4 sf1 rfl ?_
                        refine L_ld (v := v0_4) rfl Try.isAgg34 rfl (hb_g3.cell (j := 4) rfl) ?_
                        refine L_mv (v := .int .i64 (i_5 : Int)) rfl sf3 ?_
                        refine L_ix (r := (RP.slice 3 RP.int)) rfl Try.underlying34 Try.sizeOf23 rfl h0_4 rfl hix6 ?_
                        intro g36 o37 cs37 hr37 hat37
                        obtain ⟨u37, rfl, hu37⟩ := slice1 hr37
                        refine L_ld (v := u37) rfl Try.isAgg23 rfl (hat37.cell (j := 0) rfl) ?_
                        refine L_mv (v := .int .i64 (i_18 : Int)) rfl sf4 ?_
                        refine L_ix (r := RP.int) rfl Try.underlying23 Try.sizeOf3 rfl hu37 rfl hx28 ?_
                        intro g38 o39 cs39 hr39 hat39
                        obtain rfl : _ = [_] := hr39
                        refine L_ld (v := .int .i64 x28) rfl Try.isAgg3 rfl (hat39.cell (j := 0) rfl) ?_
                        refine L_lss (m := x28) (n := 0) rfl rfl rfl ?_
                        refine L_mv (v := .bool (decide (x28 < 0))) rfl rfl ?_
                        refine L_split (d := 41) (b := decide (x28 < 0)) rfl (fun hc40 => ?_) (fun hc40 => ?_)
                        ·
                          refine L_pass rfl ?_
                          refine L_pass rfl ?_
                          refine L_pass rfl ?_
                          refine L_pass rfl ?_
                          refine L_pass rfl ?_
                          refine L_pass rfl ?_
                          refine L_pass rfl ?_
                          refine L_pass rfl ?_
                          refine L_pass rfl ?_
                          refine L_pick (v := .bool ((decide (x28 < 0)) || (decide (x28 > 3)))) rfl rfl (or_t hc40) ?_
                          refine L_nil ?_
                          show R35 _ _
                          rw [hR35]
                          exact ⟨sf1, sf3, sf4, rfl, h0_1, h0_2, h0_4, hb_g3, hx⟩
                        ·
                          refine L_fa (o' := 4) rfl fa_36_4 sf1 rfl ?_
                          refine L_ld (v := v0_4) rfl Try.isAgg34 rfl (hb_g3.cell (j := 4) rfl) ?_
                          refine L_mv (v := .int .i64 (i_5 : Int)) rfl sf3 ?_
                          refine L_ix (r := (RP.slice 3 RP.int)) rfl Try.underlying34 Try.sizeOf23 rfl h0_4 rfl hix6 ?_
                          intro g41 o42 cs42 hr42 hat42
                          obtain ⟨u42, rfl, hu42⟩ := slice1 hr42
                          refine L_ld (v := u42) rfl Try.isAgg23 rfl (hat42.cell (j := 0) rfl) ?_
                          refine L_mv (v := .int .i64 (i_18 : Int)) rfl sf4 ?_
                          refine L_ix (r := RP.int) rfl Try.underlying23 Try.sizeOf3 rfl hu42 rfl hx28 ?_
                          intro g43 o44 cs44 hr44 hat44
                          obtain rfl : _ = [_] := hr44
                          refine L_ld (v := .int .i64 x28) rfl Try.isAgg3 rfl (hat44.cell (j := 0) rfl) ?_
                          refine L_gtr (m := x28) (n := 3) rfl rfl rfl ?_
                          refine L_pick (v := .bool ((decide (x28 < 0)) || (decide (x28 > 3)))) rfl rfl (or_f hc40 rfl) ?_
                          refine L_nil ?_
                          show R35 _ _
                          rw [hR35]
                          exact ⟨sf1, sf3, sf4, rfl, h0_1, h0_2, h0_4, hb_g3, hx⟩
                      ·
                        intro f w_ hR
                        rw [hR35] at hR
                        obtain ⟨sf1, sf3, sf4, sf51, h0_1, h0_2, h0_4, hb_g3, hx⟩ := hR
                        clear hR35
                        refine W_cond (b := ((decide (x28 < 0)) || (decide (x28 > 3)))) sf51 (fun hc45 => ?_) (fun hc45 => ?_)
                        ·
                          have hB19 := (ite_t hc45).symm.trans hB19
                          refine W_seq ?_
                          refine W_region ?_
                          refine L_as (v := .bool false) rfl rfl ?_
                          refine L_nil ?_
                          refine W_ret ?_
                          obtain rfl := so hB19
                          obtain rfl := so hL19
                          obtain rfl := so hB6
                          obtain rfl := so hL6
                          obtain rfl := so hF
                          refine ret1 Try.results100 ?_
                          exact ⟨rfl, hx⟩
                        ·
                          have hB19 := (ite_f hc45).symm.trans hB19
                          refine W_skip ?_
                          refine W_region ?_
                          refine L_mv (v := .int .i64 (i_18 : Int)) rfl sf4 ?_
                          refine L_add (m := (i_18 : Int)) (n := 1) rfl rfl rfl ?_
                          refine L_as (v := .int .i64 (i64 ((i_18 : Int) + 1))) rfl rfl ?_
                          refine L_nil ?_
                          obtain rfl := so hB19
                          show ∃ m, m < _ ∧ I19 m _ _
                          refine ⟨rest19, Nat.lt_succ_self _, ?_⟩
                          rw [hI19]
                          exact ⟨i_18 + 1, rest19, rfl, by omega, by omega, hL19, sf1, sf3, (Eq.trans rfl (congrArg (Value.int .i64) (i64_succ (n := 0 + k20) (by omega) (cntF_le hk20)))), h0_1, h0_2, h0_4, hb_g3, hx⟩
                  ·
                    cases suf19 with
                    | succ _ => exact absurd (cntF_yes hs19 hl19 hk20) (of_decide_eq_false hc25)
                    | zero =>
                      obtain rfl := count_zero hL19
                      refine W_exit ?_
                      show R19 _ _
                      rw [hR19]
                      exact ⟨rfl, sf1, sf3, h0_1, h0_2, h0_4, hb_g3, hx⟩
              ·
                intro f w_ hR
                rw [hR19] at hR
                obtain ⟨rfl, sf1, sf3, h0_1, h0_2, h0_4, hb_g3, hx⟩ := hR
                clear hR19
                refine W_region ?_
                refine L_mv (v := .int .i64 (i_5 : Int)) rfl sf3 ?_
                refine L_add (m := (i_5 : Int)) (n := 1) rfl rfl rfl ?_
                refine L_as (v := .int .i64 (i64 ((i_5 : Int) + 1))) rfl rfl ?_
                refine L_nil ?_
                obtain rfl := so hB6
                show ∃ m, m < _ ∧ I6 m _ _
                refine ⟨rest6.length, by simp, ?_⟩
                rw [hI6]
                exact ⟨i_5 + 1, rest6, rfl, drop_next hd6, by simp at hl6; omega, hL6, sf1, (Eq.trans rfl (congrArg (Value.int .i64) (i64_succ (n := r_.rows.length) (by simp at hl6; omega) hlen6))), h0_1, h0_2, h0_4, hb_g3, hx⟩
      ·
        cases suf6 with
        | cons _ _ => exact absurd (of_decide_eq_false hc7) (by simp at hl6; omega)
        | nil =>
          obtain rfl := range_nil hL6
          refine W_exit ?_
          show R6 _ _
          rw [hR6]
          exact ⟨rfl, sf1, h0_1, h0_2, h0_4, hb_g3, hx⟩
  ·
    intro f w_ hR
    rw [hR6] at hR
    obtain ⟨rfl, sf1, h0_1, h0_2, h0_4, hb_g3, hx⟩ := hR
    clear hR6
    refine W_seq ?_
    refine W_region ?_
    refine L_fa (o' := 4) rfl fa_36_4 sf1 rfl ?_
    refine L_ld (v := v0_4) rfl Try.isAgg34 rfl (hb_g3.cell (j := 4) rfl) ?_
    refine L_len (v := v0_4) rfl Try.underlying34 rfl h0_4 ?_
    refine L_leq (m := (r_.rows.length : Int)) (n := 8) rfl rfl rfl ?_
    refine L_as (v := .bool (decide ((r_.rows.length : Int) ≤ 8))) rfl rfl ?_
    refine L_nil ?_
    refine W_ret ?_
    obtain rfl := so hF
    refine ret1 Try.results100 ?_
    exact ⟨rfl, hx⟩

theorem s_l6Rule_c {m : Model} {r_ : Rule} {v0_0 : Value} {v0_1 : Value} {v1_1 : Value} {v1_2 : Value} {v1_4 : Value} {w : World} {B : Nat} (hB : B ≤ w.heap.size) (h0_0 : (RP.slice 3 RP.int).rel B w.heap.size w [v0_0] m.sizes) (h0_1 : (RP.slice 36 (rRule 3 23)).rel B w.heap.size w [v0_1] m.rules) (h1_1 : (RP.slice 3 RP.int).rel B w.heap.size w [v1_1] r_.vars) (h1_2 : (RP.slice 3 RP.int).rel B w.heap.size w [v1_2] r_.coefs) (h1_4 : (RP.slice 23 (RP.slice 3 RP.int)).rel B w.heap.size w [v1_4] r_.rows) {r : Bool} (hF : s_l6Rule m r_ = some r) :
    C Try.prog 82 #[.agg #[v0_0, v0_1], .agg #[.int .i64 r_.kind, v1_1, v1_2, .int .i64 r_.bound, v1_4]] w fun v w' => (v = .bool r) ∧ Ext w w' := by
  unfold s_l6Rule at hF
  have hx := ext_refl w
  refine C_enter Try.func82 rfl Try.ntmps82 rfl ?_
  refine W_seq ?_
  refine W_region ?_
  refine L_box (v := .agg #[v0_0, v0_1]) (cs := #[v0_0, v0_1]) rfl rfl rfl ?_
  intro g5 w6 hn6
  have hge_g5 := hn6.geS hx.size
  have hb_g5 := hn6.blk
  have h0_0 := RP.ext h0_0 hn6.ext
  have h0_1 := RP.ext h0_1 hn6.ext
  have h1_1 := RP.ext h1_1 hn6.ext
  have h1_2 := RP.ext h1_2 hn6.ext
  have h1_4 := RP.ext h1_4 hn6.ext
  have hx := ext_trans hx hn6.ext
  refine L_box (v := .agg #[.int .i64 r_.kind, v1_1, v1_2, .int .i64 r_.bound, v1_4]) (cs := #[.int .i64 r_.kind, v1_1, v1_2, .int .i64 r_.bound, v1_4]) rfl rfl rfl ?_
  intro g7 w8 hn8
  have hge_g7 := hn8.geS hx.size
  have hb_g7 := hn8.blk
  have h0_0 := RP.ext h0_0 hn8.ext
  have h0_1 := RP.ext h0_1 hn8.ext
  have h1_1 := RP.ext h1_1 hn8.ext
  have h1_2 := RP.ext h1_2 hn8.ext
  have h1_4 := RP.ext h1_4 hn8.ext
  have hb_g5 := Blk.ext hb_g5 hn8.ext
  have hx := ext_trans hx hn8.ext
  refine L_as (v := .bool false) rfl rfl ?_
  refine L_nil ?_
  refine W_seq ?_
  refine W_seq ?_
  obtain ⟨x9, hx9, hF⟩ := bind_some hF
  obtain ⟨R11, hR11⟩ : ∃ R : Fr → World → Prop, R = fun f w_ => f 3 = .pointer (some ⟨g7, 0, none⟩) ∧ f 36 = .bool (((!x9) || ((r_.kind != 1) && (((r_.coefs.length : Int) != 0) || (r_.bound != 0)))) || ((r_.kind != 3) && ((r_.rows.length : Int) != 0))) ∧ (RP.slice 3 RP.int).rel B w.heap.size w_ [v1_1] r_.vars ∧ (RP.slice 3 RP.int).rel B w.heap.size w_ [v1_2] r_.coefs ∧ (RP.slice 23 (RP.slice 3 RP.int)).rel B w.heap.size w_ [v1_4] r_.rows ∧ Blk w_ g7 36 #[.int .i64 r_.kind, v1_1, v1_2, .int .i64 r_.bound, v1_4] ∧ Ext w w_ := ⟨_, rfl⟩
  refine W_join R11 ?_ ?_
  ·
    refine W_region ?_
    refine L_lda (cs := [v0_0, v0_1]) rfl Try.isAgg26 Try.sizeOf26 rfl (Blk.sub hb_g5 0 2) rfl ?_
    refine L_fa (o' := 1) rfl fa_36_1 rfl rfl ?_
    refine L_ld (v := v1_1) rfl Try.isAgg23 rfl (hb_g7.cell (j := 1) rfl) ?_
    refine L_call (args := #[.agg #[v0_0, v0_1], v1_1]) rfl Try.call98 (ops2 rfl rfl) (s_l6Vars_c (m := m) (list := r_.vars) (Nat.le_trans hB hx.size) (rel0 h0_0) (rel0 h0_1) (rel0 h1_1) hx9) ?_
    rintro _ w12 ⟨rfl, he12⟩
    have h0_0 := RP.ext h0_0 he12
    have h0_1 := RP.ext h0_1 he12
    have h1_1 := RP.ext h1_1 he12
    have h1_2 := RP.ext h1_2 he12
    have h1_4 := RP.ext h1_4 he12
    have hb_g7 := Blk.ext hb_g7 he12
    have hx := ext_trans hx he12
    refine L_not_ (b := x9) rfl rfl ?_
    refine L_mv (v := .bool (!x9)) rfl rfl ?_
    refine L_split (d := 10) (b := (!x9)) rfl (fun hc13 => ?_) (fun hc13 => ?_)
    ·
      refine L_pass rfl ?_
      refine L_pass rfl ?_
      refine L_pass rfl ?_
      refine L_pass rfl ?_
      refine L_pass rfl ?_
      refine L_pass rfl ?_
      refine L_pass rfl ?_
      refine L_pass rfl ?_
      refine L_pass rfl ?_
      refine L_pass rfl ?_
      refine L_pass rfl ?_
      refine L_pass rfl ?_
      refine L_pass rfl ?_
      refine L_pass rfl ?_
      refine L_pick (v := .bool ((!x9) || ((r_.kind != 1) && (((r_.coefs.length : Int) != 0) || (r_.bound != 0))))) rfl rfl (or_t hc13) ?_
      refine L_mv (v := .bool ((!x9) || ((r_.kind != 1) && (((r_.coefs.length : Int) != 0) || (r_.bound != 0))))) rfl rfl ?_
      refine L_split (d := 26) (b := ((!x9) || ((r_.kind != 1) && (((r_.coefs.length : Int) != 0) || (r_.bound != 0))))) rfl (fun hc14 => ?_) (fun hc14 => ?_)
      ·
        refine L_pass rfl ?_
        refine L_pass rfl ?_
        refine L_pass rfl ?_
        refine L_pass rfl ?_
        refine L_pass rfl ?_
        refine L_pass rfl ?_
        refine L_pass rfl ?_
        refine L_pass rfl ?_
        refine L_pass rfl ?_
        refine L_pick (v := .bool (((!x9) || ((r_.kind != 1) && (((r_.coefs.length : Int) != 0) || (r_.bound != 0)))) || ((r_.kind != 3) && ((r_.rows.length : Int) != 0)))) rfl rfl (or_t hc14) ?_
        refine L_nil ?_
        show R11 _ _
        rw [hR11]
        exact ⟨rfl, rfl, h1_1, h1_2, h1_4, hb_g7, hx⟩
      ·
        refine L_fa (o' := 0) rfl fa_36_0 rfl rfl ?_
        refine L_ld (v := .int .i64 r_.kind) rfl Try.isAgg3 rfl (hb_g7.cell (j := 0) rfl) ?_
        refine L_neq (m := r_.kind) (n := 3) rfl rfl rfl ?_
        refine L_mv (v := .bool (r_.kind != 3)) rfl rfl ?_
        refine L_split (d := 30) (b := (r_.kind != 3)) rfl (fun hc15 => ?_) (fun hc15 => ?_)
        ·
          refine L_fa (o' := 4) rfl fa_36_4 rfl rfl ?_
          refine L_ld (v := v1_4) rfl Try.isAgg34 rfl (hb_g7.cell (j := 4) rfl) ?_
          refine L_len (v := v1_4) rfl Try.underlying34 rfl h1_4 ?_
          refine L_neq (m := (r_.rows.length : Int)) (n := 0) rfl rfl rfl ?_
          refine L_pick (v := .bool ((r_.kind != 3) && ((r_.rows.length : Int) != 0))) rfl rfl (and_t hc15 rfl) ?_
          refine L_pick (v := .bool (((!x9) || ((r_.kind != 1) && (((r_.coefs.length : Int) != 0) || (r_.bound != 0)))) || ((r_.kind != 3) && ((r_.rows.length : Int) != 0)))) rfl rfl (or_f hc14 rfl) ?_
          refine L_nil ?_
          show R11 _ _
          rw [hR11]
          exact ⟨rfl, rfl, h1_1, h1_2, h1_4, hb_g7, hx⟩
        ·
          refine L_pass rfl ?_
          refine L_pass rfl ?_
          refine L_pass rfl ?_
          refine L_pass rfl ?_
          refine L_pick (v := .bool ((r_.kind != 3) && ((r_.rows.length : Int) != 0))) rfl rfl (and_f hc15) ?_
          refine L_pick (v := .bool (((!x9) || ((r_.kind != 1) && (((r_.coefs.length : Int) != 0) || (r_.bound != 0)))) || ((r_.kind != 3) && ((r_.rows.length : Int) != 0)))) rfl rfl (or_f hc14 rfl) ?_
          refine L_nil ?_
          show R11 _ _
          rw [hR11]
          exact ⟨rfl, rfl, h1_1, h1_2, h1_4, hb_g7, hx⟩
    ·
      refine L_fa (o' := 0) rfl fa_36_0 rfl rfl ?_
      refine L_ld (v := .int .i64 r_.kind) rfl Try.isAgg3 rfl (hb_g7.cell (j := 0) rfl) ?_
      refine L_neq (m := r_.kind) (n := 1) rfl rfl rfl ?_
      refine L_mv (v := .bool (r_.kind != 1)) rfl rfl ?_
      refine L_split (d := 14) (b := (r_.kind != 1)) rfl (fun hc16 => ?_) (fun hc16 => ?_)
      ·
        refine L_fa (o' := 2) rfl fa_36_2 rfl rfl ?_
        refine L_ld (v := v1_2) rfl Try.isAgg23 rfl (hb_g7.cell (j := 2) rfl) ?_
        refine L_len (v := v1_2) rfl Try.underlying23 rfl h1_2 ?_
        refine L_neq (m := (r_.coefs.length : Int)) (n := 0) rfl rfl rfl ?_
        refine L_mv (v := .bool ((r_.coefs.length : Int) != 0)) rfl rfl ?_
        refine L_split (d := 19) (b := ((r_.coefs.length : Int) != 0)) rfl (fun hc17 => ?_) (fun hc17 => ?_)
        ·
          refine L_pass rfl ?_
          refine L_pass rfl ?_
          refine L_pass rfl ?_
          refine L_pick (v := .bool (((r_.coefs.length : Int) != 0) || (r_.bound != 0))) rfl rfl (or_t hc17) ?_
          refine L_pick (v := .bool ((r_.kind != 1) && (((r_.coefs.length : Int) != 0) || (r_.bound != 0)))) rfl rfl (and_t hc16 rfl) ?_
          refine L_pick (v := .bool ((!x9) || ((r_.kind != 1) && (((r_.coefs.length : Int) != 0) || (r_.bound != 0))))) rfl rfl (or_f hc13 rfl) ?_
          refine L_mv (v := .bool ((!x9) || ((r_.kind != 1) && (((r_.coefs.length : Int) != 0) || (r_.bound != 0))))) rfl rfl ?_
          refine L_split (d := 26) (b := ((!x9) || ((r_.kind != 1) && (((r_.coefs.length : Int) != 0) || (r_.bound != 0))))) rfl (fun hc18 => ?_) (fun hc18 => ?_)
          ·
            refine L_pass rfl ?_
            refine L_pass rfl ?_
            refine L_pass rfl ?_
            refine L_pass rfl ?_
            refine L_pass rfl ?_
            refine L_pass rfl ?_
            refine L_pass rfl ?_
            refine L_pass rfl ?_
            refine L_pass rfl ?_
            refine L_pick (v := .bool (((!x9) || ((r_.kind != 1) && (((r_.coefs.length : Int) != 0) || (r_.bound != 0)))) || ((r_.kind != 3) && ((r_.rows.length : Int) != 0)))) rfl rfl (or_t hc18) ?_
            refine L_nil ?_
            show R11 _ _
            rw [hR11]
            exact ⟨rfl, rfl, h1_1, h1_2, h1_4, hb_g7, hx⟩
          ·
            refine L_fa (o' := 0) rfl fa_36_0 rfl rfl ?_
            refine L_ld (v := .int .i64 r_.kind) rfl Try.isAgg3 rfl (hb_g7.cell (j := 0) rfl) ?_
            refine L_neq (m := r_.kind) (n := 3) rfl rfl rfl ?_
            refine L_mv (v := .bool (r_.kind != 3)) rfl rfl ?_
            refine L_split (d := 30) (b := (r_.kind != 3)) rfl (fun hc19 => ?_) (fun hc19 => ?_)
            ·
              refine L_fa (o' := 4) rfl fa_36_4 rfl rfl ?_
              refine L_ld (v := v1_4) rfl Try.isAgg34 rfl (hb_g7.cell (j := 4) rfl) ?_
              refine L_len (v := v1_4) rfl Try.underlying34 rfl h1_4 ?_
              refine L_neq (m := (r_.rows.length : Int)) (n := 0) rfl rfl rfl ?_
              refine L_pick (v := .bool ((r_.kind != 3) && ((r_.rows.length : Int) != 0))) rfl rfl (and_t hc19 rfl) ?_
              refine L_pick (v := .bool (((!x9) || ((r_.kind != 1) && (((r_.coefs.length : Int) != 0) || (r_.bound != 0)))) || ((r_.kind != 3) && ((r_.rows.length : Int) != 0)))) rfl rfl (or_f hc18 rfl) ?_
              refine L_nil ?_
              show R11 _ _
              rw [hR11]
              exact ⟨rfl, rfl, h1_1, h1_2, h1_4, hb_g7, hx⟩
            ·
              refine L_pass rfl ?_
              refine L_pass rfl ?_
              refine L_pass rfl ?_
              refine L_pass rfl ?_
              refine L_pick (v := .bool ((r_.kind != 3) && ((r_.rows.length : Int) != 0))) rfl rfl (and_f hc19) ?_
              refine L_pick (v := .bool (((!x9) || ((r_.kind != 1) && (((r_.coefs.length : Int) != 0) || (r_.bound != 0)))) || ((r_.kind != 3) && ((r_.rows.length : Int) != 0)))) rfl rfl (or_f hc18 rfl) ?_
              refine L_nil ?_
              show R11 _ _
              rw [hR11]
              exact ⟨rfl, rfl, h1_1, h1_2, h1_4, hb_g7, hx⟩
        ·
          refine L_fa (o' := 3) rfl fa_36_3 rfl rfl ?_
          refine L_ld (v := .int .i64 r_.bound) rfl Try.isAgg3 rfl (hb_g7.cell (j := 3) rfl) ?_
          refine L_neq (m := r_.bound) (n := 0) rfl rfl rfl ?_
          refine L_pick (v := .bool (((r_.coefs.length : Int) != 0) || (r_.bound != 0))) rfl rfl (or_f hc17 rfl) ?_
          refine L_pick (v := .bool ((r_.kind != 1) && (((r_.coefs.length : Int) != 0) || (r_.bound != 0)))) rfl rfl (and_t hc16 rfl) ?_
          refine L_pick (v := .bool ((!x9) || ((r_.kind != 1) && (((r_.coefs.length : Int) != 0) || (r_.bound != 0))))) rfl rfl (or_f hc13 rfl) ?_
          refine L_mv (v := .bool ((!x9) || ((r_.kind != 1) && (((r_.coefs.length : Int) != 0) || (r_.bound != 0))))) rfl rfl ?_
          refine L_split (d := 26) (b := ((!x9) || ((r_.kind != 1) && (((r_.coefs.length : Int) != 0) || (r_.bound != 0))))) rfl (fun hc20 => ?_) (fun hc20 => ?_)
          ·
            refine L_pass rfl ?_
            refine L_pass rfl ?_
            refine L_pass rfl ?_
            refine L_pass rfl ?_
            refine L_pass rfl ?_
            refine L_pass rfl ?_
            refine L_pass rfl ?_
            refine L_pass rfl ?_
            refine L_pass rfl ?_
            refine L_pick (v := .bool (((!x9) || ((r_.kind != 1) && (((r_.coefs.length : Int) != 0) || (r_.bound != 0)))) || ((r_.kind != 3) && ((r_.rows.length : Int) != 0)))) rfl rfl (or_t hc20) ?_
            refine L_nil ?_
            show R11 _ _
            rw [hR11]
            exact ⟨rfl, rfl, h1_1, h1_2, h1_4, hb_g7, hx⟩
          ·
            refine L_fa (o' := 0) rfl fa_36_0 rfl rfl ?_
            refine L_ld (v := .int .i64 r_.kind) rfl Try.isAgg3 rfl (hb_g7.cell (j := 0) rfl) ?_
            refine L_neq (m := r_.kind) (n := 3) rfl rfl rfl ?_
            refine L_mv (v := .bool (r_.kind != 3)) rfl rfl ?_
            refine L_split (d := 30) (b := (r_.kind != 3)) rfl (fun hc21 => ?_) (fun hc21 => ?_)
            ·
              refine L_fa (o' := 4) rfl fa_36_4 rfl rfl ?_
              refine L_ld (v := v1_4) rfl Try.isAgg34 rfl (hb_g7.cell (j := 4) rfl) ?_
              refine L_len (v := v1_4) rfl Try.underlying34 rfl h1_4 ?_
              refine L_neq (m := (r_.rows.length : Int)) (n := 0) rfl rfl rfl ?_
              refine L_pick (v := .bool ((r_.kind != 3) && ((r_.rows.length : Int) != 0))) rfl rfl (and_t hc21 rfl) ?_
              refine L_pick (v := .bool (((!x9) || ((r_.kind != 1) && (((r_.coefs.length : Int) != 0) || (r_.bound != 0)))) || ((r_.kind != 3) && ((r_.rows.length : Int) != 0)))) rfl rfl (or_f hc20 rfl) ?_
              refine L_nil ?_
              show R11 _ _
              rw [hR11]
              exact ⟨rfl, rfl, h1_1, h1_2, h1_4, hb_g7, hx⟩
            ·
              refine L_pass rfl ?_
              refine L_pass rfl ?_
              refine L_pass rfl ?_
              refine L_pass rfl ?_
              refine L_pick (v := .bool ((r_.kind != 3) && ((r_.rows.length : Int) != 0))) rfl rfl (and_f hc21) ?_
              refine L_pick (v := .bool (((!x9) || ((r_.kind != 1) && (((r_.coefs.length : Int) != 0) || (r_.bound != 0)))) || ((r_.kind != 3) && ((r_.rows.length : Int) != 0)))) rfl rfl (or_f hc20 rfl) ?_
              refine L_nil ?_
              show R11 _ _
              rw [hR11]
              exact ⟨rfl, rfl, h1_1, h1_2, h1_4, hb_g7, hx⟩
      ·
        refine L_pass rfl ?_
        refine L_pass rfl ?_
        refine L_pass rfl ?_
        refine L_pass rfl ?_
        refine L_pass rfl ?_
        refine L_pass rfl ?_
        refine L_pass rfl ?_
        refine L_pass rfl ?_
        refine L_pass rfl ?_
        refine L_pick (v := .bool ((r_.kind != 1) && (((r_.coefs.length : Int) != 0) || (r_.bound != 0)))) rfl rfl (and_f hc16) ?_
        refine L_pick (v := .bool ((!x9) || ((r_.kind != 1) && (((r_.coefs.length : Int) != 0) || (r_.bound != 0))))) rfl rfl (or_f hc13 rfl) ?_
        refine L_mv (v := .bool ((!x9) || ((r_.kind != 1) && (((r_.coefs.length : Int) != 0) || (r_.bound != 0))))) rfl rfl ?_
        refine L_split (d := 26) (b := ((!x9) || ((r_.kind != 1) && (((r_.coefs.length : Int) != 0) || (r_.bound != 0))))) rfl (fun hc22 => ?_) (fun hc22 => ?_)
        ·
          refine L_pass rfl ?_
          refine L_pass rfl ?_
          refine L_pass rfl ?_
          refine L_pass rfl ?_
          refine L_pass rfl ?_
          refine L_pass rfl ?_
          refine L_pass rfl ?_
          refine L_pass rfl ?_
          refine L_pass rfl ?_
          refine L_pick (v := .bool (((!x9) || ((r_.kind != 1) && (((r_.coefs.length : Int) != 0) || (r_.bound != 0)))) || ((r_.kind != 3) && ((r_.rows.length : Int) != 0)))) rfl rfl (or_t hc22) ?_
          refine L_nil ?_
          show R11 _ _
          rw [hR11]
          exact ⟨rfl, rfl, h1_1, h1_2, h1_4, hb_g7, hx⟩
        ·
          refine L_fa (o' := 0) rfl fa_36_0 rfl rfl ?_
          refine L_ld (v := .int .i64 r_.kind) rfl Try.isAgg3 rfl (hb_g7.cell (j := 0) rfl) ?_
          refine L_neq (m := r_.kind) (n := 3) rfl rfl rfl ?_
          refine L_mv (v := .bool (r_.kind != 3)) rfl rfl ?_
          refine L_split (d := 30) (b := (r_.kind != 3)) rfl (fun hc23 => ?_) (fun hc23 => ?_)
          ·
            refine L_fa (o' := 4) rfl fa_36_4 rfl rfl ?_
            refine L_ld (v := v1_4) rfl Try.isAgg34 rfl (hb_g7.cell (j := 4) rfl) ?_
            refine L_len (v := v1_4) rfl Try.underlying34 rfl h1_4 ?_
            refine L_neq (m := (r_.rows.length : Int)) (n := 0) rfl rfl rfl ?_
            refine L_pick (v := .bool ((r_.kind != 3) && ((r_.rows.length : Int) != 0))) rfl rfl (and_t hc23 rfl) ?_
            refine L_pick (v := .bool (((!x9) || ((r_.kind != 1) && (((r_.coefs.length : Int) != 0) || (r_.bound != 0)))) || ((r_.kind != 3) && ((r_.rows.length : Int) != 0)))) rfl rfl (or_f hc22 rfl) ?_
            refine L_nil ?_
            show R11 _ _
            rw [hR11]
            exact ⟨rfl, rfl, h1_1, h1_2, h1_4, hb_g7, hx⟩
          ·
            refine L_pass rfl ?_
            refine L_pass rfl ?_
            refine L_pass rfl ?_
            refine L_pass rfl ?_
            refine L_pick (v := .bool ((r_.kind != 3) && ((r_.rows.length : Int) != 0))) rfl rfl (and_f hc23) ?_
            refine L_pick (v := .bool (((!x9) || ((r_.kind != 1) && (((r_.coefs.length : Int) != 0) || (r_.bound != 0)))) || ((r_.kind != 3) && ((r_.rows.length : Int) != 0)))) rfl rfl (or_f hc22 rfl) ?_
            refine L_nil ?_
            show R11 _ _
            rw [hR11]
            exact ⟨rfl, rfl, h1_1, h1_2, h1_4, hb_g7, hx⟩
  ·
    intro f w_ hR
    rw [hR11] at hR
    obtain ⟨sf3, sf36, h1_1, h1_2, h1_4, hb_g7, hx⟩ := hR
    clear hR11
    refine W_cond (b := (((!x9) || ((r_.kind != 1) && (((r_.coefs.length : Int) != 0) || (r_.bound != 0)))) || ((r_.kind != 3) && ((r_.rows.length : Int) != 0)))) sf36 (fun hc24 => ?_) (fun hc24 => ?_)
    ·
      have hF := (ite_t hc24).symm.trans hF
      refine W_seq ?_
      refine W_region ?_
      refine L_as (v := .bool false) rfl rfl ?_
      refine L_nil ?_
      refine W_ret ?_
      obtain rfl := so hF
      refine ret1 Try.results82 ?_
      exact ⟨rfl, hx⟩
    ·
      have hF := (ite_f hc24).symm.trans hF
      refine W_skip ?_
      refine W_seq ?_
      refine W_seq ?_
      refine W_region ?_
      refine L_fa (o' := 0) rfl fa_36_0 sf3 rfl ?_
      refine L_ld (v := .int .i64 r_.kind) rfl Try.isAgg3 rfl (hb_g7.cell (j := 0) rfl) ?_
      refine L_nil ?_
      refine W_block ?_
      refine W_seq ?_
      refine W_region ?_
      refine L_eql (m := r_.kind) (n := 1) rfl rfl rfl ?_
      refine L_as (v := .bool (r_.kind == 1)) rfl rfl ?_
      refine L_nil ?_
      refine W_cond (b := (r_.kind == 1)) rfl (fun hc25 => ?_) (fun hc25 => ?_)
      ·
        have hF := (ite_t hc25).symm.trans hF
        refine W_seq ?_
        obtain ⟨x26, hx26, hF⟩ := bind_some hF
        refine W_region ?_
        refine L_lda (cs := [.int .i64 r_.kind, v1_1, v1_2, .int .i64 r_.bound, v1_4]) rfl Try.isAgg36 Try.sizeOf36 sf3 (Blk.sub hb_g7 0 5) rfl ?_
        refine L_call (args := #[.agg #[.int .i64 r_.kind, v1_1, v1_2, .int .i64 r_.bound, v1_4]]) rfl Try.call99 (ops1 rfl) (s_l6Linear_c (r_ := r_) (Nat.le_trans hB hx.size) (rel0 h1_1) (rel0 h1_2) (rel0 h1_4) hx26) ?_
        rintro _ w28 ⟨rfl, he28⟩
        have h1_1 := RP.ext h1_1 he28
        have h1_2 := RP.ext h1_2 he28
        have h1_4 := RP.ext h1_4 he28
        have hx := ext_trans hx he28
        refine L_as (v := .bool x26) rfl rfl ?_
        refine L_nil ?_
        refine W_ret ?_
        obtain rfl := so hF
        refine ret1 Try.results82 ?_
        exact ⟨rfl, hx⟩
      ·
        have hF := (ite_f hc25).symm.trans hF
        refine W_seq ?_
        refine W_region ?_
        refine L_eql (m := r_.kind) (n := 2) rfl rfl rfl ?_
        refine L_as (v := .bool (r_.kind == 2)) rfl rfl ?_
        refine L_nil ?_
        refine W_cond (b := (r_.kind == 2)) rfl (fun hc29 => ?_) (fun hc29 => ?_)
        ·
          have hF := (ite_t hc29).symm.trans hF
          refine W_seq ?_
          refine W_region ?_
          refine L_as (v := .bool true) rfl rfl ?_
          refine L_nil ?_
          refine W_ret ?_
          obtain rfl := so hF
          refine ret1 Try.results82 ?_
          exact ⟨rfl, hx⟩
        ·
          have hF := (ite_f hc29).symm.trans hF
          refine W_seq ?_
          refine W_region ?_
          refine L_eql (m := r_.kind) (n := 3) rfl rfl rfl ?_
          refine L_as (v := .bool (r_.kind == 3)) rfl rfl ?_
          refine L_nil ?_
          refine W_cond (b := (r_.kind == 3)) rfl (fun hc30 => ?_) (fun hc30 => ?_)
          ·
            have hF := (ite_t hc30).symm.trans hF
            refine W_seq ?_
            obtain ⟨x31, hx31, hF⟩ := bind_some hF
            refine W_region ?_
            refine L_lda (cs := [.int .i64 r_.kind, v1_1, v1_2, .int .i64 r_.bound, v1_4]) rfl Try.isAgg36 Try.sizeOf36 sf3 (Blk.sub hb_g7 0 5) rfl ?_
            refine L_call (args := #[.agg #[.int .i64 r_.kind, v1_1, v1_2, .int .i64 r_.bound, v1_4]]) rfl Try.call100 (ops1 rfl) (s_l6Table_c (r_ := r_) (Nat.le_trans hB hx.size) (rel0 h1_1) (rel0 h1_2) (rel0 h1_4) hx31) ?_
            rintro _ w33 ⟨rfl, he33⟩
            have h1_1 := RP.ext h1_1 he33
            have h1_2 := RP.ext h1_2 he33
            have h1_4 := RP.ext h1_4 he33
            have hx := ext_trans hx he33
            refine L_as (v := .bool x31) rfl rfl ?_
            refine L_nil ?_
            refine W_ret ?_
            obtain rfl := so hF
            refine ret1 Try.results82 ?_
            exact ⟨rfl, hx⟩
          ·
            have hF := (ite_f hc30).symm.trans hF
            refine W_seq ?_
            refine W_region ?_
            refine L_eql (m := r_.kind) (n := 4) rfl rfl rfl ?_
            refine L_as (v := .bool (r_.kind == 4)) rfl rfl ?_
            refine L_nil ?_
            refine W_cond (b := (r_.kind == 4)) rfl (fun hc34 => ?_) (fun hc34 => ?_)
            ·
              have hF := (ite_t hc34).symm.trans hF
              refine W_seq ?_
              refine W_region ?_
              refine L_fa (o' := 1) rfl fa_36_1 sf3 rfl ?_
              refine L_ld (v := v1_1) rfl Try.isAgg23 rfl (hb_g7.cell (j := 1) rfl) ?_
              refine L_len (v := v1_1) rfl Try.underlying23 rfl h1_1 ?_
              refine L_eql (m := (r_.vars.length : Int)) (n := 2) rfl rfl rfl ?_
              refine L_as (v := .bool ((r_.vars.length : Int) == 2)) rfl rfl ?_
              refine L_nil ?_
              refine W_ret ?_
              obtain rfl := so hF
              refine ret1 Try.results82 ?_
              exact ⟨rfl, hx⟩
            ·
              have hF := (ite_f hc34).symm.trans hF
              refine W_skip ?_
              refine W_seq ?_
              refine W_region ?_
              refine L_as (v := .bool false) rfl rfl ?_
              refine L_nil ?_
              refine W_ret ?_
              obtain rfl := so hF
              refine ret1 Try.results82 ?_
              exact ⟨rfl, hx⟩

theorem s_ModelValid_c {fu : Nat} {m : Model} {v0_0 : Value} {v0_1 : Value} {w : World} {B : Nat} (hB : B ≤ w.heap.size) (h0_0 : (RP.slice 3 RP.int).rel B w.heap.size w [v0_0] m.sizes) (h0_1 : (RP.slice 36 (rRule 3 23)).rel B w.heap.size w [v0_1] m.rules) {r : Bool} (hF : s_ModelValid fu m = some r) :
    C Try.prog 52 #[.agg #[v0_0, v0_1]] w fun v w' => (v = .bool r) ∧ Ext w w' := by
  unfold s_ModelValid at hF
  have hx := ext_refl w
  refine C_enter Try.func52 rfl Try.ntmps52 rfl ?_
  refine W_seq ?_
  refine W_region ?_
  refine L_box (v := .agg #[v0_0, v0_1]) (cs := #[v0_0, v0_1]) rfl rfl rfl ?_
  intro g3 w4 hn4
  have hge_g3 := hn4.geS hx.size
  have hb_g3 := hn4.blk
  have h0_0 := RP.ext h0_0 hn4.ext
  have h0_1 := RP.ext h0_1 hn4.ext
  have hx := ext_trans hx hn4.ext
  refine L_as (v := .bool false) rfl rfl ?_
  refine L_nil ?_
  refine W_seq ?_
  refine W_region ?_
  refine L_as (v := .int .i64 0) rfl rfl ?_
  refine L_nil ?_
  refine W_seq ?_
  refine W_seq ?_
  refine W_region ?_
  refine L_as (v := .int .i64 0) rfl rfl ?_
  refine L_nil ?_
  obtain ⟨j10, hL10, hF⟩ := bind_some hF
  obtain ⟨R10, hR10⟩ : ∃ R : Fr → World → Prop, R = fun f w_ => ∃ n_8 : Int, ∃ i_9 : Int, j10 = .nx (n_8, i_9) ∧ f 1 = .pointer (some ⟨g3, 0, none⟩) ∧ f 3 = .int .i64 n_8 ∧ (RP.slice 3 RP.int).rel B w.heap.size w_ [v0_0] m.sizes ∧ (RP.slice 36 (rRule 3 23)).rel B w.heap.size w_ [v0_1] m.rules ∧ Blk w_ g3 26 #[v0_0, v0_1] ∧ Ext w w_ := ⟨_, rfl⟩
  refine W_join R10 ?_ ?_
  ·
    refine W_block ?_
    obtain ⟨I10, hI10⟩ : ∃ I : Nat → Fr → World → Prop, I = fun n f w_ => ∃ n_8 : Int, ∃ i_9 : Int, whileL (s_ModelValid_b1 m) n (n_8, i_9) = some j10 ∧ f 1 = .pointer (some ⟨g3, 0, none⟩) ∧ f 3 = .int .i64 n_8 ∧ f 4 = .int .i64 i_9 ∧ (RP.slice 3 RP.int).rel B w.heap.size w_ [v0_0] m.sizes ∧ (RP.slice 36 (rRule 3 23)).rel B w.heap.size w_ [v0_1] m.rules ∧ Blk w_ g3 26 #[v0_0, v0_1] ∧ Ext w w_ := ⟨_, rfl⟩
    refine W_loop I10 (n := fu) ?_ ?_
    · rw [hI10]; exact ⟨0, 0, hL10, rfl, rfl, rfl, h0_0, h0_1, hb_g3, hx⟩
    ·
      intro n10 f w_ hI
      rw [hI10] at hI
      obtain ⟨n_8, i_9, hL10, sf1, sf3, sf4, h0_0, h0_1, hb_g3, hx⟩ := hI
      cases n10 with
      | zero => exact (while_zero hL10).elim
      | succ n10 =>
        obtain ⟨o10, hB10, hL10⟩ := while_succ hL10
        rw [s_ModelValid_b1] at hB10
        refine W_seq ?_
        refine W_seq ?_
        obtain ⟨R11, hR11⟩ : ∃ R : Fr → World → Prop, R = fun f w_ => f 1 = .pointer (some ⟨g3, 0, none⟩) ∧ f 3 = .int .i64 n_8 ∧ f 4 = .int .i64 i_9 ∧ f 14 = .bool ((decide (i_9 < (m.sizes.length : Int))) && (decide (i_9 < 5))) ∧ (RP.slice 3 RP.int).rel B w.heap.size w_ [v0_0] m.sizes ∧ (RP.slice 36 (rRule 3 23)).rel B w.heap.size w_ [v0_1] m.rules ∧ Blk w_ g3 26 #[v0_0, v0_1] ∧ Ext w w_ := ⟨_, rfl⟩
        refine W_join R11 ?_ ?_
        ·
          refine W_region ?_
          refine L_mv (v := .int .i64 i_9) rfl sf4 ?_
          refine L_fa (o' := 0) rfl fa_26_0 sf1 rfl ?_
          refine L_ld (v := v0_0) rfl Try.isAgg23 rfl (hb_g3.cell (j := 0) rfl) ?_
          refine L_len (v := v0_0) rfl Try.underlying23 rfl h0_0 ?_
          refine L_lss (m := i_9) (n := (m.sizes.length : Int)) rfl rfl rfl ?_
          refine L_mv (v := .bool (decide (i_9 < (m.sizes.length : Int)))) rfl rfl ?_
          refine L_split (d := 11) (b := decide (i_9 < (m.sizes.length : Int))) rfl (fun hc12 => ?_) (fun hc12 => ?_)
          ·
            refine L_mv (v := .int .i64 i_9) rfl sf4 ?_
            refine L_lss (m := i_9) (n := 5) rfl rfl rfl ?_
            refine L_pick (v := .bool ((decide (i_9 < (m.sizes.length : Int))) && (decide (i_9 < 5)))) rfl rfl (and_t hc12 rfl) ?_
            refine L_nil ?_
            show R11 _ _
            rw [hR11]
            exact ⟨sf1, sf3, sf4, rfl, h0_0, h0_1, hb_g3, hx⟩
          ·
            refine L_pass rfl ?_
            refine L_pass rfl ?_
            refine L_pick (v := .bool ((decide (i_9 < (m.sizes.length : Int))) && (decide (i_9 < 5)))) rfl rfl (and_f hc12) ?_
            refine L_nil ?_
            show R11 _ _
            rw [hR11]
            exact ⟨sf1, sf3, sf4, rfl, h0_0, h0_1, hb_g3, hx⟩
        ·
          intro f w_ hR
          rw [hR11] at hR
          obtain ⟨sf1, sf3, sf4, sf14, h0_0, h0_1, hb_g3, hx⟩ := hR
          clear hR11
          refine W_cond (b := ((decide (i_9 < (m.sizes.length : Int))) && (decide (i_9 < 5)))) sf14 (fun hc13 => ?_) (fun hc13 => ?_)
          ·
            have hB10 := (ite_t hc13).symm.trans hB10
            refine W_skip ?_
            refine W_seq ?_
            refine W_block ?_
            refine W_seq ?_
            refine W_seq ?_
            obtain ⟨x14, hx14, hB10⟩ := bind_some hB10
            obtain ⟨R19, hR19⟩ : ∃ R : Fr → World → Prop, R = fun f w_ => f 1 = .pointer (some ⟨g3, 0, none⟩) ∧ f 3 = .int .i64 n_8 ∧ f 4 = .int .i64 i_9 ∧ f 30 = .bool ((decide (x14 < 0)) || (decide (x14 > 3))) ∧ (RP.slice 3 RP.int).rel B w.heap.size w_ [v0_0] m.sizes ∧ (RP.slice 36 (rRule 3 23)).rel B w.heap.size w_ [v0_1] m.rules ∧ Blk w_ g3 26 #[v0_0, v0_1] ∧ Ext w w_ := ⟨_, rfl⟩
            refine W_join R19 ?_ ?_
            ·
              refine W_region ?_
              refine L_fa (o' := 0) rfl fa_26_0 sf1 rfl ?_
              refine L_ld (v := v0_0) rfl Try.isAgg23 rfl (hb_g3.cell (j := 0) rfl) ?_
              refine L_mv (v := .int .i64 i_9) rfl sf4 ?_
              refine L_ix (r := RP.int) rfl Try.underlying23 Try.sizeOf3 rfl h0_0 rfl hx14 ?_
              intro g20 o21 cs21 hr21 hat21
              obtain rfl : _ = [_] := hr21
              refine L_ld (v := .int .i64 x14) rfl Try.isAgg3 rfl (hat21.cell (j := 0) rfl) ?_
              refine L_lss (m := x14) (n := 0) rfl rfl rfl ?_
              refine L_mv (v := .bool (decide (x14 < 0))) rfl rfl ?_
              refine L_split (d := 23) (b := decide (x14 < 0)) rfl (fun hc22 => ?_) (fun hc22 => ?_)
              ·
                refine L_pass rfl ?_
                refine L_pass rfl ?_
                refine L_pass rfl ?_
                refine L_pass rfl ?_
                refine L_pass rfl ?_
                refine L_pass rfl ?_
                refine L_pick (v := .bool ((decide (x14 < 0)) || (decide (x14 > 3)))) rfl rfl (or_t hc22) ?_
                refine L_nil ?_
                show R19 _ _
                rw [hR19]
                exact ⟨sf1, sf3, sf4, rfl, h0_0, h0_1, hb_g3, hx⟩
              ·
                refine L_fa (o' := 0) rfl fa_26_0 sf1 rfl ?_
                refine L_ld (v := v0_0) rfl Try.isAgg23 rfl (hb_g3.cell (j := 0) rfl) ?_
                refine L_mv (v := .int .i64 i_9) rfl sf4 ?_
                refine L_ix (r := RP.int) rfl Try.underlying23 Try.sizeOf3 rfl h0_0 rfl hx14 ?_
                intro g23 o24 cs24 hr24 hat24
                obtain rfl : _ = [_] := hr24
                refine L_ld (v := .int .i64 x14) rfl Try.isAgg3 rfl (hat24.cell (j := 0) rfl) ?_
                refine L_gtr (m := x14) (n := 3) rfl rfl rfl ?_
                refine L_pick (v := .bool ((decide (x14 < 0)) || (decide (x14 > 3)))) rfl rfl (or_f hc22 rfl) ?_
                refine L_nil ?_
                show R19 _ _
                rw [hR19]
                exact ⟨sf1, sf3, sf4, rfl, h0_0, h0_1, hb_g3, hx⟩
            ·
              intro f w_ hR
              rw [hR19] at hR
              obtain ⟨sf1, sf3, sf4, sf30, h0_0, h0_1, hb_g3, hx⟩ := hR
              clear hR19
              refine W_cond (b := ((decide (x14 < 0)) || (decide (x14 > 3)))) sf30 (fun hc25 => ?_) (fun hc25 => ?_)
              ·
                have hB10 := (ite_t hc25).symm.trans hB10
                refine W_seq ?_
                refine W_region ?_
                refine L_as (v := .bool false) rfl rfl ?_
                refine L_nil ?_
                refine W_ret ?_
                obtain rfl := so hB10
                obtain rfl := so hL10
                obtain rfl := so hF
                refine ret1 Try.results52 ?_
                exact ⟨rfl, hx⟩
              ·
                have hB10 := (ite_f hc25).symm.trans hB10
                refine W_skip ?_
                refine W_region ?_
                refine L_mv (v := .int .i64 n_8) rfl sf3 ?_
                refine L_fa (o' := 0) rfl fa_26_0 sf1 rfl ?_
                refine L_ld (v := v0_0) rfl Try.isAgg23 rfl (hb_g3.cell (j := 0) rfl) ?_
                refine L_mv (v := .int .i64 i_9) rfl sf4 ?_
                refine L_ix (r := RP.int) rfl Try.underlying23 Try.sizeOf3 rfl h0_0 rfl hx14 ?_
                intro g28 o29 cs29 hr29 hat29
                obtain rfl : _ = [_] := hr29
                refine L_ld (v := .int .i64 x14) rfl Try.isAgg3 rfl (hat29.cell (j := 0) rfl) ?_
                refine L_add (m := n_8) (n := x14) rfl rfl rfl ?_
                refine L_add (m := i64 (n_8 + x14)) (n := 1) rfl rfl rfl ?_
                refine L_as (v := .int .i64 (i64 ((i64 (n_8 + x14)) + 1))) rfl rfl ?_
                refine L_nil ?_
                refine W_region ?_
                refine L_mv (v := .int .i64 i_9) rfl sf4 ?_
                refine L_add (m := i_9) (n := 1) rfl rfl rfl ?_
                refine L_as (v := .int .i64 (i64 (i_9 + 1))) rfl rfl ?_
                refine L_nil ?_
                obtain rfl := so hB10
                show ∃ m, m < _ ∧ I10 m _ _
                refine ⟨n10, Nat.lt_succ_self _, ?_⟩
                rw [hI10]
                exact ⟨i64 ((i64 (n_8 + x14)) + 1), i64 (i_9 + 1), hL10, sf1, rfl, rfl, h0_0, h0_1, hb_g3, hx⟩
          ·
            have hB10 := (ite_f hc13).symm.trans hB10
            refine W_exit ?_
            obtain rfl := so hB10
            obtain rfl := so hL10
            show R10 _ _
            rw [hR10]
            exact ⟨n_8, i_9, rfl, sf1, sf3, h0_0, h0_1, hb_g3, hx⟩
  ·
    intro f w_ hR
    rw [hR10] at hR
    obtain ⟨n_8, i_9, rfl, sf1, sf3, h0_0, h0_1, hb_g3, hx⟩ := hR
    clear hR10
    refine W_seq ?_
    refine W_seq ?_
    obtain ⟨R30, hR30⟩ : ∃ R : Fr → World → Prop, R = fun f w_ => f 1 = .pointer (some ⟨g3, 0, none⟩) ∧ f 58 = .bool ((((decide ((m.sizes.length : Int) < 1)) || (decide ((m.sizes.length : Int) > 5))) || (decide (n_8 > 12))) || (decide ((m.rules.length : Int) > 8))) ∧ (RP.slice 3 RP.int).rel B w.heap.size w_ [v0_0] m.sizes ∧ (RP.slice 36 (rRule 3 23)).rel B w.heap.size w_ [v0_1] m.rules ∧ Blk w_ g3 26 #[v0_0, v0_1] ∧ Ext w w_ := ⟨_, rfl⟩
    refine W_join R30 ?_ ?_
    ·
      refine W_region ?_
      refine L_fa (o' := 0) rfl fa_26_0 sf1 rfl ?_
      refine L_ld (v := v0_0) rfl Try.isAgg23 rfl (hb_g3.cell (j := 0) rfl) ?_
      refine L_len (v := v0_0) rfl Try.underlying23 rfl h0_0 ?_
      refine L_lss (m := (m.sizes.length : Int)) (n := 1) rfl rfl rfl ?_
      refine L_mv (v := .bool (decide ((m.sizes.length : Int) < 1))) rfl rfl ?_
      refine L_split (d := 43) (b := decide ((m.sizes.length : Int) < 1)) rfl (fun hc31 => ?_) (fun hc31 => ?_)
      ·
        refine L_pass rfl ?_
        refine L_pass rfl ?_
        refine L_pass rfl ?_
        refine L_pass rfl ?_
        refine L_pick (v := .bool ((decide ((m.sizes.length : Int) < 1)) || (decide ((m.sizes.length : Int) > 5)))) rfl rfl (or_t hc31) ?_
        refine L_mv (v := .bool ((decide ((m.sizes.length : Int) < 1)) || (decide ((m.sizes.length : Int) > 5)))) rfl rfl ?_
        refine L_split (d := 49) (b := ((decide ((m.sizes.length : Int) < 1)) || (decide ((m.sizes.length : Int) > 5)))) rfl (fun hc32 => ?_) (fun hc32 => ?_)
        ·
          refine L_pass rfl ?_
          refine L_pass rfl ?_
          refine L_pick (v := .bool (((decide ((m.sizes.length : Int) < 1)) || (decide ((m.sizes.length : Int) > 5))) || (decide (n_8 > 12)))) rfl rfl (or_t hc32) ?_
          refine L_mv (v := .bool (((decide ((m.sizes.length : Int) < 1)) || (decide ((m.sizes.length : Int) > 5))) || (decide (n_8 > 12)))) rfl rfl ?_
          refine L_split (d := 53) (b := (((decide ((m.sizes.length : Int) < 1)) || (decide ((m.sizes.length : Int) > 5))) || (decide (n_8 > 12)))) rfl (fun hc33 => ?_) (fun hc33 => ?_)
          ·
            refine L_pass rfl ?_
            refine L_pass rfl ?_
            refine L_pass rfl ?_
            refine L_pass rfl ?_
            refine L_pick (v := .bool ((((decide ((m.sizes.length : Int) < 1)) || (decide ((m.sizes.length : Int) > 5))) || (decide (n_8 > 12))) || (decide ((m.rules.length : Int) > 8)))) rfl rfl (or_t hc33) ?_
            refine L_nil ?_
            show R30 _ _
            rw [hR30]
            exact ⟨sf1, rfl, h0_0, h0_1, hb_g3, hx⟩
          ·
            refine L_fa (o' := 1) rfl fa_26_1 sf1 rfl ?_
            refine L_ld (v := v0_1) rfl Try.isAgg24 rfl (hb_g3.cell (j := 1) rfl) ?_
            refine L_len (v := v0_1) rfl Try.underlying24 rfl h0_1 ?_
            refine L_gtr (m := (m.rules.length : Int)) (n := 8) rfl rfl rfl ?_
            refine L_pick (v := .bool ((((decide ((m.sizes.length : Int) < 1)) || (decide ((m.sizes.length : Int) > 5))) || (decide (n_8 > 12))) || (decide ((m.rules.length : Int) > 8)))) rfl rfl (or_f hc33 rfl) ?_
            refine L_nil ?_
            show R30 _ _
            rw [hR30]
            exact ⟨sf1, rfl, h0_0, h0_1, hb_g3, hx⟩
        ·
          refine L_mv (v := .int .i64 n_8) rfl sf3 ?_
          refine L_gtr (m := n_8) (n := 12) rfl rfl rfl ?_
          refine L_pick (v := .bool (((decide ((m.sizes.length : Int) < 1)) || (decide ((m.sizes.length : Int) > 5))) || (decide (n_8 > 12)))) rfl rfl (or_f hc32 rfl) ?_
          refine L_mv (v := .bool (((decide ((m.sizes.length : Int) < 1)) || (decide ((m.sizes.length : Int) > 5))) || (decide (n_8 > 12)))) rfl rfl ?_
          refine L_split (d := 53) (b := (((decide ((m.sizes.length : Int) < 1)) || (decide ((m.sizes.length : Int) > 5))) || (decide (n_8 > 12)))) rfl (fun hc34 => ?_) (fun hc34 => ?_)
          ·
            refine L_pass rfl ?_
            refine L_pass rfl ?_
            refine L_pass rfl ?_
            refine L_pass rfl ?_
            refine L_pick (v := .bool ((((decide ((m.sizes.length : Int) < 1)) || (decide ((m.sizes.length : Int) > 5))) || (decide (n_8 > 12))) || (decide ((m.rules.length : Int) > 8)))) rfl rfl (or_t hc34) ?_
            refine L_nil ?_
            show R30 _ _
            rw [hR30]
            exact ⟨sf1, rfl, h0_0, h0_1, hb_g3, hx⟩
          ·
            refine L_fa (o' := 1) rfl fa_26_1 sf1 rfl ?_
            refine L_ld (v := v0_1) rfl Try.isAgg24 rfl (hb_g3.cell (j := 1) rfl) ?_
            refine L_len (v := v0_1) rfl Try.underlying24 rfl h0_1 ?_
            refine L_gtr (m := (m.rules.length : Int)) (n := 8) rfl rfl rfl ?_
            refine L_pick (v := .bool ((((decide ((m.sizes.length : Int) < 1)) || (decide ((m.sizes.length : Int) > 5))) || (decide (n_8 > 12))) || (decide ((m.rules.length : Int) > 8)))) rfl rfl (or_f hc34 rfl) ?_
            refine L_nil ?_
            show R30 _ _
            rw [hR30]
            exact ⟨sf1, rfl, h0_0, h0_1, hb_g3, hx⟩
      ·
        refine L_fa (o' := 0) rfl fa_26_0 sf1 rfl ?_
        refine L_ld (v := v0_0) rfl Try.isAgg23 rfl (hb_g3.cell (j := 0) rfl) ?_
        refine L_len (v := v0_0) rfl Try.underlying23 rfl h0_0 ?_
        refine L_gtr (m := (m.sizes.length : Int)) (n := 5) rfl rfl rfl ?_
        refine L_pick (v := .bool ((decide ((m.sizes.length : Int) < 1)) || (decide ((m.sizes.length : Int) > 5)))) rfl rfl (or_f hc31 rfl) ?_
        refine L_mv (v := .bool ((decide ((m.sizes.length : Int) < 1)) || (decide ((m.sizes.length : Int) > 5)))) rfl rfl ?_
        refine L_split (d := 49) (b := ((decide ((m.sizes.length : Int) < 1)) || (decide ((m.sizes.length : Int) > 5)))) rfl (fun hc35 => ?_) (fun hc35 => ?_)
        ·
          refine L_pass rfl ?_
          refine L_pass rfl ?_
          refine L_pick (v := .bool (((decide ((m.sizes.length : Int) < 1)) || (decide ((m.sizes.length : Int) > 5))) || (decide (n_8 > 12)))) rfl rfl (or_t hc35) ?_
          refine L_mv (v := .bool (((decide ((m.sizes.length : Int) < 1)) || (decide ((m.sizes.length : Int) > 5))) || (decide (n_8 > 12)))) rfl rfl ?_
          refine L_split (d := 53) (b := (((decide ((m.sizes.length : Int) < 1)) || (decide ((m.sizes.length : Int) > 5))) || (decide (n_8 > 12)))) rfl (fun hc36 => ?_) (fun hc36 => ?_)
          ·
            refine L_pass rfl ?_
            refine L_pass rfl ?_
            refine L_pass rfl ?_
            refine L_pass rfl ?_
            refine L_pick (v := .bool ((((decide ((m.sizes.length : Int) < 1)) || (decide ((m.sizes.length : Int) > 5))) || (decide (n_8 > 12))) || (decide ((m.rules.length : Int) > 8)))) rfl rfl (or_t hc36) ?_
            refine L_nil ?_
            show R30 _ _
            rw [hR30]
            exact ⟨sf1, rfl, h0_0, h0_1, hb_g3, hx⟩
          ·
            refine L_fa (o' := 1) rfl fa_26_1 sf1 rfl ?_
            refine L_ld (v := v0_1) rfl Try.isAgg24 rfl (hb_g3.cell (j := 1) rfl) ?_
            refine L_len (v := v0_1) rfl Try.underlying24 rfl h0_1 ?_
            refine L_gtr (m := (m.rules.length : Int)) (n := 8) rfl rfl rfl ?_
            refine L_pick (v := .bool ((((decide ((m.sizes.length : Int) < 1)) || (decide ((m.sizes.length : Int) > 5))) || (decide (n_8 > 12))) || (decide ((m.rules.length : Int) > 8)))) rfl rfl (or_f hc36 rfl) ?_
            refine L_nil ?_
            show R30 _ _
            rw [hR30]
            exact ⟨sf1, rfl, h0_0, h0_1, hb_g3, hx⟩
        ·
          refine L_mv (v := .int .i64 n_8) rfl sf3 ?_
          refine L_gtr (m := n_8) (n := 12) rfl rfl rfl ?_
          refine L_pick (v := .bool (((decide ((m.sizes.length : Int) < 1)) || (decide ((m.sizes.length : Int) > 5))) || (decide (n_8 > 12)))) rfl rfl (or_f hc35 rfl) ?_
          refine L_mv (v := .bool (((decide ((m.sizes.length : Int) < 1)) || (decide ((m.sizes.length : Int) > 5))) || (decide (n_8 > 12)))) rfl rfl ?_
          refine L_split (d := 53) (b := (((decide ((m.sizes.length : Int) < 1)) || (decide ((m.sizes.length : Int) > 5))) || (decide (n_8 > 12)))) rfl (fun hc37 => ?_) (fun hc37 => ?_)
          ·
            refine L_pass rfl ?_
            refine L_pass rfl ?_
            refine L_pass rfl ?_
            refine L_pass rfl ?_
            refine L_pick (v := .bool ((((decide ((m.sizes.length : Int) < 1)) || (decide ((m.sizes.length : Int) > 5))) || (decide (n_8 > 12))) || (decide ((m.rules.length : Int) > 8)))) rfl rfl (or_t hc37) ?_
            refine L_nil ?_
            show R30 _ _
            rw [hR30]
            exact ⟨sf1, rfl, h0_0, h0_1, hb_g3, hx⟩
          ·
            refine L_fa (o' := 1) rfl fa_26_1 sf1 rfl ?_
            refine L_ld (v := v0_1) rfl Try.isAgg24 rfl (hb_g3.cell (j := 1) rfl) ?_
            refine L_len (v := v0_1) rfl Try.underlying24 rfl h0_1 ?_
            refine L_gtr (m := (m.rules.length : Int)) (n := 8) rfl rfl rfl ?_
            refine L_pick (v := .bool ((((decide ((m.sizes.length : Int) < 1)) || (decide ((m.sizes.length : Int) > 5))) || (decide (n_8 > 12))) || (decide ((m.rules.length : Int) > 8)))) rfl rfl (or_f hc37 rfl) ?_
            refine L_nil ?_
            show R30 _ _
            rw [hR30]
            exact ⟨sf1, rfl, h0_0, h0_1, hb_g3, hx⟩
    ·
      intro f w_ hR
      rw [hR30] at hR
      obtain ⟨sf1, sf58, h0_0, h0_1, hb_g3, hx⟩ := hR
      clear hR30
      refine W_cond (b := ((((decide ((m.sizes.length : Int) < 1)) || (decide ((m.sizes.length : Int) > 5))) || (decide (n_8 > 12))) || (decide ((m.rules.length : Int) > 8)))) sf58 (fun hc38 => ?_) (fun hc38 => ?_)
      ·
        have hF := (ite_t hc38).symm.trans hF
        refine W_seq ?_
        refine W_region ?_
        refine L_as (v := .bool false) rfl rfl ?_
        refine L_nil ?_
        refine W_ret ?_
        obtain rfl := so hF
        refine ret1 Try.results52 ?_
        exact ⟨rfl, hx⟩
      ·
        have hF := (ite_f hc38).symm.trans hF
        refine W_skip ?_
        refine W_seq ?_
        refine W_seq ?_
        refine W_region ?_
        refine L_as (v := .int .i64 0) rfl rfl ?_
        refine L_nil ?_
        have hlen40 := len_le h0_1
        obtain ⟨j40, hL40, hF⟩ := bind_some hF
        obtain ⟨R40, hR40⟩ : ∃ R : Fr → World → Prop, R = fun f w_ => j40 = .nx () ∧ Ext w w_ := ⟨_, rfl⟩
        refine W_join R40 ?_ ?_
        ·
          refine W_block ?_
          obtain ⟨I40, hI40⟩ : ∃ I : Nat → Fr → World → Prop, I = fun n f w_ => ∃ i_39 : Nat, ∃ suf40 : List Rule, n = suf40.length ∧ List.drop i_39 m.rules = suf40 ∧ i_39 + suf40.length = m.rules.length ∧ rangeL (s_ModelValid_b2 m) suf40 i_39 () = some j40 ∧ f 1 = .pointer (some ⟨g3, 0, none⟩) ∧ f 5 = .int .i64 (i_39 : Int) ∧ (RP.slice 3 RP.int).rel B w.heap.size w_ [v0_0] m.sizes ∧ (RP.slice 36 (rRule 3 23)).rel B w.heap.size w_ [v0_1] m.rules ∧ Blk w_ g3 26 #[v0_0, v0_1] ∧ Ext w w_ := ⟨_, rfl⟩
          refine W_loop I40 (n := m.rules.length) ?_ ?_
          · rw [hI40]; exact ⟨0, m.rules, rfl, rfl, Nat.zero_add _, hL40, sf1, rfl, h0_0, h0_1, hb_g3, hx⟩
          ·
            intro n40 f w_ hI
            rw [hI40] at hI
            obtain ⟨i_39, suf40, rfl, hd40, hl40, hL40, sf1, sf5, h0_0, h0_1, hb_g3, hx⟩ := hI
            refine W_seq ?_
            refine W_seq ?_
            refine W_region ?_
            refine L_mv (v := .int .i64 (i_39 : Int)) rfl sf5 ?_
            refine L_fa (o' := 1) rfl fa_26_1 sf1 rfl ?_
            refine L_ld (v := v0_1) rfl Try.isAgg24 rfl (hb_g3.cell (j := 1) rfl) ?_
            refine L_len (v := v0_1) rfl Try.underlying24 rfl h0_1 ?_
            refine L_lss (m := (i_39 : Int)) (n := (m.rules.length : Int)) rfl rfl rfl ?_
            refine L_nil ?_
            refine W_cond (b := decide ((i_39 : Int) < (m.rules.length : Int))) rfl (fun hc41 => ?_) (fun hc41 => ?_)
            ·
              have hlt40 := of_decide_eq_true hc41
              cases suf40 with
              | nil => exact absurd hlt40 (by simp at hl40; omega)
              | cons x_40 rest40 =>
                obtain ⟨o40, hB40, hL40⟩ := range_cons hL40
                rw [s_ModelValid_b2] at hB40
                have hix40 := drop_idx hd40
                refine W_skip ?_
                refine W_seq ?_
                refine W_block ?_
                refine W_seq ?_
                obtain ⟨x44, hx44, hB40⟩ := bind_some hB40
                refine W_drawL 6 [isV (.agg #[v0_0, v0_1]), isV (.pointer (some ⟨g3, 1, none⟩)), isV (v0_1), isV (.int .i64 (i_39 : Int)), isEl B (rRule 3 23) x_40 0, exD (isData B (RP.slice 3 RP.int) x_40.vars) fun u_1 => exD (isData B (RP.slice 3 RP.int) x_40.coefs) fun u_2 => exD (isData B (RP.slice 23 (RP.slice 3 RP.int)) x_40.rows) fun u_4 => isV (.agg #[.int .i64 x_40.kind, u_1, u_2, .int .i64 x_40.bound, u_4])] Try_mix (by kernel_rfl) (am_cons (mono_V _) (am_cons (mono_V _) (am_cons (mono_V _) (am_cons (mono_V _) (am_cons (mono_el _ _ _ _) (am_cons (mono_exD (mono_data _ _ _) fun _ => mono_exD (mono_data _ _ _) fun _ => mono_exD (mono_data _ _ _) fun _ => mono_V _) am_nil)))))) ?_ (fun f w_ hS46 hE46 hT46 => ?_)
                ·
                  refine ops_cons (fun f w_ hS46 hE46 hP46 => ?_) ?_
                  ·
                    have hx := ext_trans hx hE46
                    have h0_0 := RP.ext h0_0 hE46
                    have h0_1 := RP.ext h0_1 hE46
                    have hb_g3 := Blk.ext hb_g3 hE46
                    refine L_lda (cs := [v0_0, v0_1]) rfl Try.isAgg26 Try.sizeOf26 ((hS46 1 rfl).trans sf1) (Blk.sub hb_g3 0 2) rfl ?_
                    exact L_nil ⟨rfl, (ext_refl _), _, _, rfl, rfl, rfl⟩
                  refine ops_cons (fun f w_ hS46 hE46 hP46 => ?_) ?_
                  ·
                    have hx := ext_trans hx hE46
                    have h0_0 := RP.ext h0_0 hE46
                    have h0_1 := RP.ext h0_1 hE46
                    have hb_g3 := Blk.ext hb_g3 hE46
                    refine L_fa (o' := 1) rfl fa_26_1 ((hS46 1 rfl).trans sf1) rfl ?_
                    exact L_nil ⟨rfl, (ext_refl _), _, _, rfl, rfl, rfl⟩
                  refine ops_cons (fun f w_ hS46 hE46 hP46 => ?_) ?_
                  ·
                    have hx := ext_trans hx hE46
                    have h0_0 := RP.ext h0_0 hE46
                    have h0_1 := RP.ext h0_1 hE46
                    have hb_g3 := Blk.ext hb_g3 hE46
                    refine L_ld (v := v0_1) rfl Try.isAgg24 (hP46 1 67 rfl rfl) (hb_g3.cell (j := 1) rfl) ?_
                    exact L_nil ⟨rfl, (ext_refl _), _, _, rfl, rfl, rfl⟩
                  refine ops_cons (fun f w_ hS46 hE46 hP46 => ?_) ?_
                  ·
                    have hx := ext_trans hx hE46
                    refine L_mv (v := .int .i64 (i_39 : Int)) rfl ((hS46 5 rfl).trans sf5) ?_
                    exact L_nil ⟨rfl, (ext_refl _), _, _, rfl, rfl, rfl⟩
                  refine ops_cons (fun f w_ hS46 hE46 hP46 => ?_) ?_
                  ·
                    have hx := ext_trans hx hE46
                    have h0_1 := RP.ext h0_1 hE46
                    refine L_ix (r := (rRule 3 23)) rfl Try.underlying24 Try.sizeOf36 (hP46 2 68 rfl rfl) h0_1 (hP46 3 69 rfl rfl) hix40 ?_
                    intro g49 o50 cs50 hr50 hat50
                    obtain ⟨u50_0, u50_1, u50_2, rfl, hu50_0, hu50_1, hu50_2⟩ := rRule_iff.1 hr50
                    exact L_nil ⟨rfl, (ext_refl _), _, _, rfl, rfl, ⟨_, _, _, rfl, (rel0 hr50), hat50⟩⟩
                  refine ops_cons (fun f w_ hS46 hE46 hP46 => ?_) ?_
                  ·
                    have hx := ext_trans hx hE46
                    obtain ⟨g51, o51, cs51, hv51, hr51, hat51⟩ := (hP46 4 70 rfl rfl)
                    obtain ⟨u51_0, u51_1, u51_2, rfl, hu51_0, hu51_1, hu51_2⟩ := rRule_iff.1 hr51
                    refine L_lda (cs := [.int .i64 x_40.kind, u51_0, u51_1, .int .i64 x_40.bound, u51_2]) rfl Try.isAgg36 Try.sizeOf36 hv51 (At.sub hat51 0 5) rfl ?_
                    exact L_nil ⟨rfl, (ext_refl _), _, _, rfl, rfl, ⟨_, (rel0 hu51_0), _, (rel0 hu51_1), _, (rel0 hu51_2), rfl⟩⟩
                  exact ops_nil
                ·
                  have h0_0 := RP.ext h0_0 hE46
                  have h0_1 := RP.ext h0_1 hE46
                  have hb_g3 := Blk.ext hb_g3 hE46
                  have hx := ext_trans hx hE46
                  obtain ⟨u52_1, hu52_1, u52_2, hu52_2, u52_4, hu52_4, hv52⟩ := (hT46 5 71 rfl rfl)
                  refine L_call (args := #[.agg #[v0_0, v0_1], .agg #[.int .i64 x_40.kind, u52_1, u52_2, .int .i64 x_40.bound, u52_4]]) rfl Try.call82 (ops2 (hT46 0 66 rfl rfl) hv52) (s_l6Rule_c (m := m) (r_ := x_40) (Nat.le_trans hB hx.size) (rel0 h0_0) (rel0 h0_1) (rel0 hu52_1) (rel0 hu52_2) (rel0 hu52_4) hx44) ?_
                  rintro _ w53 ⟨rfl, he53⟩
                  have h0_0 := RP.ext h0_0 he53
                  have h0_1 := RP.ext h0_1 he53
                  have hb_g3 := Blk.ext hb_g3 he53
                  have hu52_1 := RP.ext hu52_1 he53
                  have hu52_2 := RP.ext hu52_2 he53
                  have hu52_4 := RP.ext hu52_4 he53
                  have hx := ext_trans hx he53
                  refine L_not_ (b := x44) rfl rfl ?_
                  refine L_nil ?_
                  refine W_cond (b := (!x44)) rfl (fun hc54 => ?_) (fun hc54 => ?_)
                  ·
                    have hB40 := (ite_t hc54).symm.trans hB40
                    refine W_seq ?_
                    refine W_region ?_
                    refine L_as (v := .bool false) rfl rfl ?_
                    refine L_nil ?_
                    refine W_ret ?_
                    obtain rfl := so hB40
                    obtain rfl := so hL40
                    obtain rfl := so hF
                    refine ret1 Try.results52 ?_
                    exact ⟨rfl, hx⟩
                  ·
                    have hB40 := (ite_f hc54).symm.trans hB40
                    refine W_skip ?_
                    refine W_region ?_
                    refine L_mv (v := .int .i64 (i_39 : Int)) rfl ((hS46 5 rfl).trans sf5) ?_
                    refine L_add (m := (i_39 : Int)) (n := 1) rfl rfl rfl ?_
                    refine L_as (v := .int .i64 (i64 ((i_39 : Int) + 1))) rfl rfl ?_
                    refine L_nil ?_
                    obtain rfl := so hB40
                    show ∃ m, m < _ ∧ I40 m _ _
                    refine ⟨rest40.length, by simp, ?_⟩
                    rw [hI40]
                    exact ⟨i_39 + 1, rest40, rfl, drop_next hd40, by simp at hl40; omega, hL40, ((hS46 1 rfl).trans sf1), (Eq.trans rfl (congrArg (Value.int .i64) (i64_succ (n := m.rules.length) (by simp at hl40; omega) hlen40))), h0_0, h0_1, hb_g3, hx⟩
            ·
              cases suf40 with
              | cons _ _ => exact absurd (of_decide_eq_false hc41) (by simp at hl40; omega)
              | nil =>
                obtain rfl := range_nil hL40
                refine W_exit ?_
                show R40 _ _
                rw [hR40]
                exact ⟨rfl, hx⟩
        ·
          intro f w_ hR
          rw [hR40] at hR
          obtain ⟨rfl, hx⟩ := hR
          clear hR40
          refine W_seq ?_
          refine W_region ?_
          refine L_as (v := .bool true) rfl rfl ?_
          refine L_nil ?_
          refine W_ret ?_
          obtain rfl := so hF
          refine ret1 Try.results52 ?_
          exact ⟨rfl, hx⟩

theorem s_l6DrawCells_c {r_ : Rd} {m : Model} {g_r : Nat} {v_r : Value} {v1_0 : Value} {v1_1 : Value} {w : World} {B : Nat} (hB : B ≤ w.heap.size) (hb_g_r : Blk w g_r 86 #[v_r, .int .i64 r_.p]) (hrb : (RP.slice 5 RP.u8).rel B w.heap.size w [v_r] r_.b) (hrB : B ≤ g_r) (h1_0 : (RP.slice 3 RP.int).rel B w.heap.size w [v1_0] m.sizes) (h1_1 : (RP.slice 36 (rRule 3 23)).rel B w.heap.size w [v1_1] m.rules) {r : (List Int) × Int} (hF : s_l6DrawCells r_ m = some r) :
    C Try.prog 54 #[.pointer (some ⟨g_r, 0, none⟩), .agg #[v1_0, v1_1]] w fun v w' => ((∃ u1 : Value, v = u1 ∧ Own RP.int 3 w.heap.size B w' u1 r.1) ∧ Blk w' g_r 86 #[v_r, .int .i64 r.2]) ∧ Mut g_r (some g_r) 86 w w' := by
  unfold s_l6DrawCells at hF
  have hgl := hb_g_r.lt
  have hx := fr1_refl hb_g_r
  refine C_enter Try.func54 rfl Try.ntmps54 rfl ?_
  refine W_seq ?_
  refine W_region ?_
  refine L_box (v := .agg #[v1_0, v1_1]) (cs := #[v1_0, v1_1]) rfl rfl rfl ?_
  intro g3 w4 hn4
  have hge_g3 := hn4.geS hx.size
  have hb_g3 := hn4.blk
  have hrb := RP.ext hrb hn4.ext
  have hb_g_r := Blk.ext hb_g_r hn4.ext
  have h1_0 := RP.ext h1_0 hn4.ext
  have h1_1 := RP.ext h1_1 hn4.ext
  have hx := fr1_ext hx hn4.ext hgl
  refine L_as (v := (.slice none 0 0)) rfl rfl ?_
  refine L_nil ?_
  refine W_seq ?_
  refine W_region ?_
  refine L_bs rfl parts0 (bs_23_0  ) ?_
  intro g7 w8 hn8
  have ho8 : Own RP.int 3 w.heap.size B w8 _ _ := own_new0 hn8 hx.size
  have hz8 := zero_new hn8 hx.size
  have hrb := RP.ext hrb hn8.ext
  have hb_g_r := Blk.ext hb_g_r hn8.ext
  have h1_0 := RP.ext h1_0 hn8.ext
  have h1_1 := RP.ext h1_1 hn8.ext
  have hb_g3 := Blk.ext hb_g3 hn8.ext
  have hx := fr1_ext hx hn8.ext hgl
  refine L_as (v := (.slice (some ⟨g7, 0, none⟩) 0 0)) rfl rfl ?_
  refine L_nil ?_
  refine W_seq ?_
  refine W_seq ?_
  refine W_region ?_
  refine L_as (v := .int .i64 0) rfl rfl ?_
  refine L_nil ?_
  have hlen12 := len_le h1_0
  obtain ⟨j12, hL12, hF⟩ := bind_some hF
  obtain ⟨R12, hR12⟩ : ∃ R : Fr → World → Prop, R = fun f w_ => ∃ out_10 : List Int, ∃ g_r_1_11 : Int, ∃ v10_out : Value, j12 = .nx (out_10, g_r_1_11) ∧ f 0 = .pointer (some ⟨g_r, 0, none⟩) ∧ f 5 = v10_out ∧ Own RP.int 3 w.heap.size B w_ v10_out out_10 ∧ (RP.slice 5 RP.u8).rel B w.heap.size w_ [v_r] r_.b ∧ Blk w_ g_r 86 #[v_r, .int .i64 g_r_1_11] ∧ Mut g_r (some g_r) 86 w w_ := ⟨_, rfl⟩
  refine W_join R12 ?_ ?_
  ·
    refine W_block ?_
    obtain ⟨I12, hI12⟩ : ∃ I : Nat → Fr → World → Prop, I = fun n f w_ => ∃ i_9 : Nat, ∃ suf12 : List Int, ∃ out_10 : List Int, ∃ g_r_1_11 : Int, ∃ v10_out : Value, n = suf12.length ∧ List.drop i_9 m.sizes = suf12 ∧ i_9 + suf12.length = m.sizes.length ∧ rangeL (s_l6DrawCells_b1 r_) suf12 i_9 (out_10, g_r_1_11) = some j12 ∧ f 0 = .pointer (some ⟨g_r, 0, none⟩) ∧ f 3 = .pointer (some ⟨g3, 0, none⟩) ∧ f 5 = v10_out ∧ f 6 = .int .i64 (i_9 : Int) ∧ Own RP.int 3 w.heap.size B w_ v10_out out_10 ∧ (RP.slice 5 RP.u8).rel B w.heap.size w_ [v_r] r_.b ∧ Blk w_ g_r 86 #[v_r, .int .i64 g_r_1_11] ∧ (RP.slice 3 RP.int).rel B w.heap.size w_ [v1_0] m.sizes ∧ (RP.slice 36 (rRule 3 23)).rel B w.heap.size w_ [v1_1] m.rules ∧ Blk w_ g3 26 #[v1_0, v1_1] ∧ Mut g_r (some g_r) 86 w w_ := ⟨_, rfl⟩
    refine W_loop I12 (n := m.sizes.length) ?_ ?_
    · rw [hI12]; exact ⟨0, m.sizes, [], r_.p, (.slice (some ⟨g7, 0, none⟩) 0 0), rfl, rfl, Nat.zero_add _, hL12, rfl, rfl, rfl, rfl, ho8, hrb, hb_g_r, h1_0, h1_1, hb_g3, hx⟩
    ·
      intro n12 f w_ hI
      rw [hI12] at hI
      obtain ⟨i_9, suf12, out_10, g_r_1_11, v10_out, rfl, hd12, hl12, hL12, sf0, sf3, sf5, sf6, hv10_out, hrb, hb_g_r, h1_0, h1_1, hb_g3, hx⟩ := hI
      refine W_seq ?_
      refine W_seq ?_
      refine W_region ?_
      refine L_mv (v := .int .i64 (i_9 : Int)) rfl sf6 ?_
      refine L_fa (o' := 0) rfl fa_26_0 sf3 rfl ?_
      refine L_ld (v := v1_0) rfl Try.isAgg23 rfl (hb_g3.cell (j := 0) rfl) ?_
      refine L_len (v := v1_0) rfl Try.underlying23 rfl h1_0 ?_
      refine L_lss (m := (i_9 : Int)) (n := (m.sizes.length : Int)) rfl rfl rfl ?_
      refine L_nil ?_
      refine W_cond (b := decide ((i_9 : Int) < (m.sizes.length : Int))) rfl (fun hc13 => ?_) (fun hc13 => ?_)
      ·
        have hlt12 := of_decide_eq_true hc13
        cases suf12 with
        | nil => exact absurd hlt12 (by simp at hl12; omega)
        | cons x_12 rest12 =>
          obtain ⟨o12, hB12, hL12⟩ := range_cons hL12
          rw [s_l6DrawCells_b1] at hB12
          have hix12 := drop_idx hd12
          refine W_skip ?_
          refine W_seq ?_
          refine W_block ?_
          refine W_seq ?_
          refine W_region ?_
          refine L_fa (o' := 0) rfl fa_26_0 sf3 rfl ?_
          refine L_ld (v := v1_0) rfl Try.isAgg23 rfl (hb_g3.cell (j := 0) rfl) ?_
          refine L_mv (v := .int .i64 (i_9 : Int)) rfl sf6 ?_
          refine L_ix (r := RP.int) rfl Try.underlying23 Try.sizeOf3 rfl h1_0 rfl hix12 ?_
          intro g16 o17 cs17 hr17 hat17
          obtain rfl : _ = [_] := hr17
          refine L_ld (v := .int .i64 x_12) rfl Try.isAgg3 rfl (hat17.cell (j := 0) rfl) ?_
          refine L_add (m := x_12) (n := 1) rfl rfl rfl ?_
          refine L_as (v := .int .i64 (i64 (x_12 + 1))) rfl rfl ?_
          refine L_nil ?_
          refine W_seq ?_
          refine W_seq ?_
          obtain ⟨R18, hR18⟩ : ∃ R : Fr → World → Prop, R = fun f w_ => f 0 = .pointer (some ⟨g_r, 0, none⟩) ∧ f 3 = .pointer (some ⟨g3, 0, none⟩) ∧ f 5 = v10_out ∧ f 6 = .int .i64 (i_9 : Int) ∧ f 7 = .int .i64 (i64 (x_12 + 1)) ∧ f 27 = .bool ((decide ((i64 (x_12 + 1)) < 1)) || (decide ((i64 (x_12 + 1)) > 4))) ∧ Own RP.int 3 w.heap.size B w_ v10_out out_10 ∧ (RP.slice 5 RP.u8).rel B w.heap.size w_ [v_r] r_.b ∧ Blk w_ g_r 86 #[v_r, .int .i64 g_r_1_11] ∧ (RP.slice 3 RP.int).rel B w.heap.size w_ [v1_0] m.sizes ∧ (RP.slice 36 (rRule 3 23)).rel B w.heap.size w_ [v1_1] m.rules ∧ Blk w_ g3 26 #[v1_0, v1_1] ∧ Mut g_r (some g_r) 86 w w_ := ⟨_, rfl⟩
          refine W_join R18 ?_ ?_
          ·
            refine W_region ?_
            refine L_mv (v := .int .i64 (i64 (x_12 + 1))) rfl rfl ?_
            refine L_lss (m := i64 (x_12 + 1)) (n := 1) rfl rfl rfl ?_
            refine L_mv (v := .bool (decide ((i64 (x_12 + 1)) < 1))) rfl rfl ?_
            refine L_split (d := 24) (b := decide ((i64 (x_12 + 1)) < 1)) rfl (fun hc19 => ?_) (fun hc19 => ?_)
            ·
              refine L_pass rfl ?_
              refine L_pass rfl ?_
              refine L_pick (v := .bool ((decide ((i64 (x_12 + 1)) < 1)) || (decide ((i64 (x_12 + 1)) > 4)))) rfl rfl (or_t hc19) ?_
              refine L_nil ?_
              show R18 _ _
              rw [hR18]
              exact ⟨sf0, sf3, sf5, sf6, rfl, rfl, hv10_out, hrb, hb_g_r, h1_0, h1_1, hb_g3, hx⟩
            ·
              refine L_mv (v := .int .i64 (i64 (x_12 + 1))) rfl rfl ?_
              refine L_gtr (m := i64 (x_12 + 1)) (n := 4) rfl rfl rfl ?_
              refine L_pick (v := .bool ((decide ((i64 (x_12 + 1)) < 1)) || (decide ((i64 (x_12 + 1)) > 4)))) rfl rfl (or_f hc19 rfl) ?_
              refine L_nil ?_
              show R18 _ _
              rw [hR18]
              exact ⟨sf0, sf3, sf5, sf6, rfl, rfl, hv10_out, hrb, hb_g_r, h1_0, h1_1, hb_g3, hx⟩
          ·
            intro f w_ hR
            rw [hR18] at hR
            obtain ⟨sf0, sf3, sf5, sf6, sf7, sf27, hv10_out, hrb, hb_g_r, h1_0, h1_1, hb_g3, hx⟩ := hR
            clear hR18
            obtain ⟨n_20, hA21, hB12⟩ := bind_some hB12
            obtain ⟨R21, hR21⟩ : ∃ R : Fr → World → Prop, R = fun f w_ => f 0 = .pointer (some ⟨g_r, 0, none⟩) ∧ f 3 = .pointer (some ⟨g3, 0, none⟩) ∧ f 5 = v10_out ∧ f 6 = .int .i64 (i_9 : Int) ∧ f 7 = .int .i64 n_20 ∧ Own RP.int 3 w.heap.size B w_ v10_out out_10 ∧ (RP.slice 5 RP.u8).rel B w.heap.size w_ [v_r] r_.b ∧ Blk w_ g_r 86 #[v_r, .int .i64 g_r_1_11] ∧ (RP.slice 3 RP.int).rel B w.heap.size w_ [v1_0] m.sizes ∧ (RP.slice 36 (rRule 3 23)).rel B w.heap.size w_ [v1_1] m.rules ∧ Blk w_ g3 26 #[v1_0, v1_1] ∧ Mut g_r (some g_r) 86 w w_ := ⟨_, rfl⟩
            refine W_join R21 ?_ ?_
            ·
              refine W_cond (b := ((decide ((i64 (x_12 + 1)) < 1)) || (decide ((i64 (x_12 + 1)) > 4)))) sf27 (fun hc22 => ?_) (fun hc22 => ?_)
              ·
                have hA21 := (ite_t hc22).symm.trans hA21
                refine W_region ?_
                refine L_as (v := .int .i64 1) rfl rfl ?_
                refine L_nil ?_
                obtain rfl := so hA21
                show R21 _ _
                rw [hR21]
                exact ⟨sf0, sf3, sf5, sf6, rfl, hv10_out, hrb, hb_g_r, h1_0, h1_1, hb_g3, hx⟩
              ·
                have hA21 := (ite_f hc22).symm.trans hA21
                refine W_skip ?_
                obtain rfl := so hA21
                show R21 _ _
                rw [hR21]
                exact ⟨sf0, sf3, sf5, sf6, sf7, hv10_out, hrb, hb_g_r, h1_0, h1_1, hb_g3, hx⟩
            ·
              intro f w_ hR
              rw [hR21] at hR
              obtain ⟨sf0, sf3, sf5, sf6, sf7, hv10_out, hrb, hb_g_r, h1_0, h1_1, hb_g3, hx⟩ := hR
              clear hR21
              obtain ⟨x23, hx23, hB12⟩ := bind_some hB12
              obtain ⟨x28, hx28, hB12⟩ := bind_some hB12
              refine W_region ?_
              refine L_mv (v := v10_out) rfl sf5 ?_
              refine L_mv (v := .pointer (some ⟨g_r, 0, none⟩)) rfl sf0 ?_
              refine L_mv (v := .int .i64 n_20) rfl sf7 ?_
              refine L_call (args := #[.pointer (some ⟨g_r, 0, none⟩), .int .i64 n_20]) rfl Try.call70 (ops2 rfl rfl) (s_l17Rd_pick_c (r_ := ({ b := r_.b, p := g_r_1_11 } : Rd)) (n_ := n_20) (Nat.le_trans hB hx.size) hb_g_r (rel0 hrb) hrB hx23) ?_
              rintro _ w31 ⟨⟨rfl, hbn31⟩, he31⟩
              have hv10_out := he31.ownT hv10_out (by decide) (by decide) hrB
              have hrb := he31.rel hrb (by decide) hrB
              have h1_0 := he31.rel h1_0 (by decide) hrB
              have h1_1 := he31.rel h1_1 (by decide) hrB
              have hb_g3 := he31.blk hb_g3 (by decide)
              have hx := fr1_trans hx he31
              have hb_g_r := hbn31
              refine L_bs rfl (parts1 rfl) (bs_23_1_0 (.int .i64 x23.1) rfl) ?_
              intro g32 w33 hn33
              have ho33 : Own RP.int 3 w.heap.size B w33 _ [x23.1] := own_new1 hn33 hx.size rfl
              have ap34 := ap_ob hv10_out hn33
              have hv10_out := Own.ext hv10_out hn33.ext
              have hrb := RP.ext hrb hn33.ext
              have hb_g_r := Blk.ext hb_g_r hn33.ext
              have h1_0 := RP.ext h1_0 hn33.ext
              have h1_1 := RP.ext h1_1 hn33.ext
              have hb_g3 := Blk.ext hb_g3 hn33.ext
              have hx := fr1_ext hx hn33.ext hgl
              refine L_app (v := v10_out) (u := (.slice (some ⟨g32, 0, none⟩) 1 1)) rfl et_23 (by decide) rfl rfl hv10_out (rel0 (Own.rel ho33)) hx28 hx.size hB ?_
              intro v35 w35 ho35 hm35 hb35
              have hrb := hm35.rel hrb (by decide) (Nat.le_trans hB (Nat.le_refl _))
              have hb_g_r := hm35.blk hb_g_r (by decide)
              have h1_0 := hm35.rel_lo h1_0 (Nat.le_refl _)
              have h1_1 := hm35.rel_lo h1_1 (Nat.le_refl _)
              have hb_g3 := hm35.blk hb_g3 (by decide)
              have hx := fr1_mut hx hm35 (Nat.le_refl _) hgl
              refine L_as (v := v35) rfl rfl ?_
              refine L_nil ?_
              refine W_region ?_
              refine L_mv (v := .int .i64 (i_9 : Int)) rfl sf6 ?_
              refine L_add (m := (i_9 : Int)) (n := 1) rfl rfl rfl ?_
              refine L_as (v := .int .i64 (i64 ((i_9 : Int) + 1))) rfl rfl ?_
              refine L_nil ?_
              obtain rfl := so hB12
              show ∃ m, m < _ ∧ I12 m _ _
              refine ⟨rest12.length, by simp, ?_⟩
              rw [hI12]
              exact ⟨i_9 + 1, rest12, x28, x23.2, v35, rfl, drop_next hd12, by simp at hl12; omega, hL12, sf0, sf3, rfl, (Eq.trans rfl (congrArg (Value.int .i64) (i64_succ (n := m.sizes.length) (by simp at hl12; omega) hlen12))), ho35, hrb, hb_g_r, h1_0, h1_1, hb_g3, hx⟩
      ·
        cases suf12 with
        | cons _ _ => exact absurd (of_decide_eq_false hc13) (by simp at hl12; omega)
        | nil =>
          obtain rfl := range_nil hL12
          refine W_exit ?_
          show R12 _ _
          rw [hR12]
          exact ⟨out_10, g_r_1_11, v10_out, rfl, sf0, sf5, hv10_out, hrb, hb_g_r, hx⟩
  ·
    intro f w_ hR
    rw [hR12] at hR
    obtain ⟨out_10, g_r_1_11, v10_out, rfl, sf0, sf5, hv10_out, hrb, hb_g_r, hx⟩ := hR
    clear hR12
    refine W_seq ?_
    refine W_seq ?_
    obtain ⟨x36, hx36, hF⟩ := bind_some hF
    refine W_region ?_
    refine L_mv (v := .pointer (some ⟨g_r, 0, none⟩)) rfl sf0 ?_
    refine L_call (args := #[.pointer (some ⟨g_r, 0, none⟩), .int .i64 40]) rfl Try.call70 (ops2 rfl rfl) (s_l17Rd_pick_c (r_ := ({ b := r_.b, p := g_r_1_11 } : Rd)) (n_ := 40) (Nat.le_trans hB hx.size) hb_g_r (rel0 hrb) hrB hx36) ?_
    rintro _ w38 ⟨⟨rfl, hbn38⟩, he38⟩
    have hv10_out := he38.ownT hv10_out (by decide) (by decide) hrB
    have hrb := he38.rel hrb (by decide) hrB
    have hx := fr1_trans hx he38
    have hb_g_r := hbn38
    refine L_nil ?_
    refine W_block ?_
    refine W_seq ?_
    refine W_region ?_
    refine L_eql (m := x36.1) (n := 0) rfl rfl rfl ?_
    refine L_as (v := .bool (x36.1 == 0)) rfl rfl ?_
    refine L_nil ?_
    obtain ⟨⟨out_39, g_r_1_40⟩, hA41, hF⟩ := bind_some hF
    obtain ⟨R41, hR41⟩ : ∃ R : Fr → World → Prop, R = fun f w_ => ∃ v39_out : Value, f 5 = v39_out ∧ Own RP.int 3 w.heap.size B w_ v39_out out_39 ∧ (RP.slice 5 RP.u8).rel B w.heap.size w_ [v_r] r_.b ∧ Blk w_ g_r 86 #[v_r, .int .i64 g_r_1_40] ∧ Mut g_r (some g_r) 86 w w_ := ⟨_, rfl⟩
    refine W_join R41 ?_ ?_
    ·
      refine W_cond (b := (x36.1 == 0)) rfl (fun hc42 => ?_) (fun hc42 => ?_)
      ·
        have hA41 := (ite_t hc42).symm.trans hA41
        obtain ⟨x46, hx46, hA41⟩ := bind_some hA41
        refine W_region ?_
        refine L_mv (v := v10_out) rfl sf5 ?_
        refine L_bs rfl (parts1 rfl) (bs_23_1_0 (.int .i64 0) rfl) ?_
        intro g49 w50 hn50
        have ho50 : Own RP.int 3 w.heap.size B w50 _ [0] := own_new1 hn50 hx.size rfl
        have ap51 := ap_ob hv10_out hn50
        have hv10_out := Own.ext hv10_out hn50.ext
        have hrb := RP.ext hrb hn50.ext
        have hb_g_r := Blk.ext hb_g_r hn50.ext
        have hx := fr1_ext hx hn50.ext hgl
        refine L_app (v := v10_out) (u := (.slice (some ⟨g49, 0, none⟩) 1 1)) rfl et_23 (by decide) rfl rfl hv10_out (rel0 (Own.rel ho50)) hx46 hx.size hB ?_
        intro v52 w52 ho52 hm52 hb52
        have hrb := hm52.rel hrb (by decide) (Nat.le_trans hB (Nat.le_refl _))
        have hb_g_r := hm52.blk hb_g_r (by decide)
        have hx := fr1_mut hx hm52 (Nat.le_refl _) hgl
        refine L_as (v := v52) rfl rfl ?_
        refine L_nil ?_
        obtain ⟨rfl, rfl⟩ := so2 hA41
        show R41 _ _
        rw [hR41]
        exact ⟨v52, rfl, ho52, hrb, hb_g_r, hx⟩
      ·
        have hA41 := (ite_f hc42).symm.trans hA41
        refine W_seq ?_
        refine W_region ?_
        refine L_eql (m := x36.1) (n := 1) rfl rfl rfl ?_
        refine L_as (v := .bool (x36.1 == 1)) rfl rfl ?_
        refine L_nil ?_
        obtain ⟨⟨out_53, g_r_1_54⟩, hA55, hA41⟩ := bind_some hA41
        obtain ⟨R55, hR55⟩ : ∃ R : Fr → World → Prop, R = fun f w_ => ∃ v53_out : Value, f 5 = v53_out ∧ Own RP.int 3 w.heap.size B w_ v53_out out_53 ∧ (RP.slice 5 RP.u8).rel B w.heap.size w_ [v_r] r_.b ∧ Blk w_ g_r 86 #[v_r, .int .i64 g_r_1_54] ∧ Mut g_r (some g_r) 86 w w_ := ⟨_, rfl⟩
        refine W_join R55 ?_ ?_
        ·
          refine W_cond (b := (x36.1 == 1)) rfl (fun hc56 => ?_) (fun hc56 => ?_)
          ·
            have hA55 := (ite_t hc56).symm.trans hA55
            refine W_seq ?_
            refine W_region ?_
            refine L_mv (v := v10_out) rfl sf5 ?_
            refine L_len (v := v10_out) rfl Try.underlying23 rfl (Own.rel hv10_out) ?_
            refine L_gtr (m := (out_10.length : Int)) (n := 0) rfl rfl rfl ?_
            refine L_nil ?_
            obtain ⟨⟨out_57, g_r_1_58⟩, hA59, hA55⟩ := bind_some hA55
            obtain ⟨R59, hR59⟩ : ∃ R : Fr → World → Prop, R = fun f w_ => ∃ v57_out : Value, f 5 = v57_out ∧ Own RP.int 3 w.heap.size B w_ v57_out out_57 ∧ (RP.slice 5 RP.u8).rel B w.heap.size w_ [v_r] r_.b ∧ Blk w_ g_r 86 #[v_r, .int .i64 g_r_1_58] ∧ Mut g_r (some g_r) 86 w w_ := ⟨_, rfl⟩
            refine W_join R59 ?_ ?_
            ·
              refine W_cond (b := decide ((out_10.length : Int) > 0)) rfl (fun hc60 => ?_) (fun hc60 => ?_)
              ·
                have hA59 := (ite_t hc60).symm.trans hA59
                obtain ⟨x64, hx64, hA59⟩ := bind_some hA59
                obtain ⟨x66, hx66, hA59⟩ := bind_some hA59
                refine W_region ?_
                refine L_mv (v := v10_out) rfl sf5 ?_
                refine L_mv (v := .pointer (some ⟨g_r, 0, none⟩)) rfl sf0 ?_
                refine L_bs rfl (parts3 rfl rfl rfl) (bs_23_3_0_0_0 (.int .i64 (-1)) (.int .i64 4) (.int .i64 9223372036854775807) rfl rfl rfl) ?_
                intro g70 w71 hn71
                have ho71 : Own RP.int 3 w.heap.size B w71 _ [(-1), 4, 9223372036854775807] := own_lit rfl hn71 rfl (by decide) hx.size (by intro i z hz; rcases i with _ | _ | _ | i <;> simp at hz <;> subst hz <;> rfl)
                have ap72 := ap_ob hv10_out hn71
                have hv10_out := Own.ext hv10_out hn71.ext
                have hrb := RP.ext hrb hn71.ext
                have hb_g_r := Blk.ext hb_g_r hn71.ext
                have hx := fr1_ext hx hn71.ext hgl
                refine L_call (args := #[.pointer (some ⟨g_r, 0, none⟩), (.slice (some ⟨g70, 0, none⟩) 3 3)]) rfl Try.call49 (ops2 rfl rfl) (s_l17Rd_num_c (r_ := ({ b := r_.b, p := x36.2 } : Rd)) (list := [(-1), 4, 9223372036854775807]) (Nat.le_trans hB hx.size) hb_g_r (rel0 hrb) hrB (rel0 (Own.rel ho71)) hx64) ?_
                rintro _ w73 ⟨⟨rfl, hbn73⟩, he73⟩
                have hv10_out := he73.ownT hv10_out (by decide) (by decide) hrB
                have hrb := he73.rel hrb (by decide) hrB
                have ho71 := he73.ownT ho71 (by decide) (by decide) hrB
                have hx := fr1_trans hx he73
                have hb_g_r := hbn73
                refine L_ixo (r := RP.int) rfl et_23 rfl hv10_out rfl hx66 ?_
                intro g74 c75 cs75 hg75 hl75 hc75 hr75 hj75
                obtain rfl : cs75 = [_] := hr75
                refine L_st (v := .int .i64 x64.1) rfl Try.sizeOf3 rfl rfl rfl hc75 (hj75 0 _ rfl) ?_
                intro w76 hp76
                have hv10_out_n : Own RP.int 3 _ B w76 _ (out_10.set (Int.toNat 0) x64.1) := own_set hv10_out hg75 rfl (by decide) (idx_some hx66).2.2 hc75 hp76 rfl hB
                have hrb := hp76.mu.rel hrb (by decide) (Nat.le_trans hB hl75)
                have hb_g_r := hp76.mu.blk hb_g_r (by decide)
                have hx := fr1_mut hx hp76.mu hl75 hgl
                have hv10_out := hv10_out_n
                refine L_nil ?_
                obtain ⟨rfl, rfl⟩ := so2 hA59
                show R59 _ _
                rw [hR59]
                exact ⟨v10_out, sf5, hv10_out, hrb, hb_g_r, hx⟩
              ·
                have hA59 := (ite_f hc60).symm.trans hA59
                refine W_skip ?_
                obtain ⟨rfl, rfl⟩ := so2 hA59
                show R59 _ _
                rw [hR59]
                exact ⟨v10_out, sf5, hv10_out, hrb, hb_g_r, hx⟩
            ·
              intro f w_ hR
              rw [hR59] at hR
              obtain ⟨v57_out, sf5, hv57_out, hrb, hb_g_r, hx⟩ := hR
              clear hR59
              obtain ⟨rfl, rfl⟩ := so2 hA55
              show R55 _ _
              rw [hR55]
              exact ⟨v57_out, sf5, hv57_out, hrb, hb_g_r, hx⟩
          ·
            have hA55 := (ite_f hc56).symm.trans hA55
            refine W_skip ?_
            obtain ⟨rfl, rfl⟩ := so2 hA55
            show R55 _ _
            rw [hR55]
            exact ⟨v10_out, sf5, hv10_out, hrb, hb_g_r, hx⟩
        ·
          intro f w_ hR
          rw [hR55] at hR
          obtain ⟨v53_out, sf5, hv53_out, hrb, hb_g_r, hx⟩ := hR
          clear hR55
          obtain ⟨rfl, rfl⟩ := so2 hA41
          show R41 _ _
          rw [hR41]
          exact ⟨v53_out, sf5, hv53_out, hrb, hb_g_r, hx⟩
    ·
      intro f w_ hR
      rw [hR41] at hR
      obtain ⟨v39_out, sf5, hv39_out, hrb, hb_g_r, hx⟩ := hR
      clear hR41
      refine W_seq ?_
      refine W_region ?_
      refine L_mv (v := v39_out) rfl sf5 ?_
      refine L_as (v := v39_out) rfl rfl ?_
      refine L_nil ?_
      refine W_ret ?_
      obtain rfl := so hF
      refine ret1 Try.results54 ?_
      exact ⟨⟨⟨v39_out, rfl, hv39_out⟩, hb_g_r⟩, hx⟩

theorem i_CellsValid_c {m : Model} {cells : List Int} {v0_0 : Value} {v0_1 : Value} {v1 : Value} {w : World} {B : Nat} (hB : B ≤ w.heap.size) (h0_0 : (RP.slice 3 RP.int).rel B w.heap.size w [v0_0] m.sizes) (h0_1 : (RP.slice 36 (rRule 3 23)).rel B w.heap.size w [v0_1] m.rules) (h1 : (RP.slice 3 RP.int).rel B w.heap.size w [v1] cells) {r : Bool} (hF : i_CellsValid m cells = some r) :
    C Try.prog 20 #[.agg #[v0_0, v0_1], v1] w fun v w' => (v = .bool r) ∧ Ext w w' := by
  unfold i_CellsValid at hF
  have hx := ext_refl w
  refine C_enter Try.func20 rfl Try.ntmps20 rfl ?_
  refine W_seq ?_
  refine W_region ?_
  refine L_box (v := .agg #[v0_0, v0_1]) (cs := #[v0_0, v0_1]) rfl rfl rfl ?_
  intro g3 w4 hn4
  have hge_g3 := hn4.geS hx.size
  have hb_g3 := hn4.blk
  have h0_0 := RP.ext h0_0 hn4.ext
  have h0_1 := RP.ext h0_1 hn4.ext
  have h1 := RP.ext h1 hn4.ext
  have hx := ext_trans hx hn4.ext
  refine L_as (v := .bool false) rfl rfl ?_
  refine L_nil ?_
  refine W_seq ?_
  refine W_seq ?_
  obtain ⟨x5, hx5, hF⟩ := bind_some hF
  obtain ⟨R7, hR7⟩ : ∃ R : Fr → World → Prop, R = fun f w_ => f 1 = v1 ∧ f 2 = .pointer (some ⟨g3, 0, none⟩) ∧ f 17 = .bool ((!x5) || ((cells.length : Int) != (m.sizes.length : Int))) ∧ (RP.slice 3 RP.int).rel B w.heap.size w_ [v1] cells ∧ (RP.slice 3 RP.int).rel B w.heap.size w_ [v0_0] m.sizes ∧ (RP.slice 36 (rRule 3 23)).rel B w.heap.size w_ [v0_1] m.rules ∧ Blk w_ g3 26 #[v0_0, v0_1] ∧ Ext w w_ := ⟨_, rfl⟩
  refine W_join R7 ?_ ?_
  ·
    refine W_region ?_
    refine L_lda (cs := [v0_0, v0_1]) rfl Try.isAgg26 Try.sizeOf26 rfl (Blk.sub hb_g3 0 2) rfl ?_
    refine L_call (args := #[.agg #[v0_0, v0_1]]) rfl Try.call28 (ops1 rfl) (i_ModelValid_c (m := m) (Nat.le_trans hB hx.size) (rel0 h0_0) (rel0 h0_1) hx5) ?_
    rintro _ w8 ⟨rfl, he8⟩
    have h0_0 := RP.ext h0_0 he8
    have h0_1 := RP.ext h0_1 he8
    have h1 := RP.ext h1 he8
    have hb_g3 := Blk.ext hb_g3 he8
    have hx := ext_trans hx he8
    refine L_not_ (b := x5) rfl rfl ?_
    refine L_mv (v := .bool (!x5)) rfl rfl ?_
    refine L_split (d := 10) (b := (!x5)) rfl (fun hc9 => ?_) (fun hc9 => ?_)
    ·
      refine L_pass rfl ?_
      refine L_pass rfl ?_
      refine L_pass rfl ?_
      refine L_pass rfl ?_
      refine L_pass rfl ?_
      refine L_pass rfl ?_
      refine L_pick (v := .bool ((!x5) || ((cells.length : Int) != (m.sizes.length : Int)))) rfl rfl (or_t hc9) ?_
      refine L_nil ?_
      show R7 _ _
      rw [hR7]
      exact ⟨rfl, rfl, rfl, h1, h0_0, h0_1, hb_g3, hx⟩
    ·
      refine L_mv (v := v1) rfl rfl ?_
      refine L_len (v := v1) rfl Try.underlying23 rfl h1 ?_
      refine L_fa (o' := 0) rfl fa_26_0 rfl rfl ?_
      refine L_ld (v := v0_0) rfl Try.isAgg23 rfl (hb_g3.cell (j := 0) rfl) ?_
      refine L_len (v := v0_0) rfl Try.underlying23 rfl h0_0 ?_
      refine L_neq (m := (cells.length : Int)) (n := (m.sizes.length : Int)) rfl rfl rfl ?_
      refine L_pick (v := .bool ((!x5) || ((cells.length : Int) != (m.sizes.length : Int)))) rfl rfl (or_f hc9 rfl) ?_
      refine L_nil ?_
      show R7 _ _
      rw [hR7]
      exact ⟨rfl, rfl, rfl, h1, h0_0, h0_1, hb_g3, hx⟩
  ·
    intro f w_ hR
    rw [hR7] at hR
    obtain ⟨sf1, sf2, sf17, h1, h0_0, h0_1, hb_g3, hx⟩ := hR
    clear hR7
    refine W_cond (b := ((!x5) || ((cells.length : Int) != (m.sizes.length : Int)))) sf17 (fun hc10 => ?_) (fun hc10 => ?_)
    ·
      have hF := (ite_t hc10).symm.trans hF
      refine W_seq ?_
      refine W_region ?_
      refine L_as (v := .bool false) rfl rfl ?_
      refine L_nil ?_
      refine W_ret ?_
      obtain rfl := so hF
      refine ret1 Try.results20 ?_
      exact ⟨rfl, hx⟩
    ·
      have hF := (ite_f hc10).symm.trans hF
      refine W_skip ?_
      refine W_seq ?_
      refine W_seq ?_
      refine W_region ?_
      refine L_mv (v := v1) rfl sf1 ?_
      refine L_len (v := v1) rfl Try.underlying23 rfl h1 ?_
      refine L_mv (v := .int .i64 0) rfl rfl ?_
      refine L_nil ?_
      have hlen12 := len_le h1
      obtain ⟨j12, hL12, hF⟩ := bind_some hF
      obtain ⟨R12, hR12⟩ : ∃ R : Fr → World → Prop, R = fun f w_ => j12 = .nx () ∧ Ext w w_ := ⟨_, rfl⟩
      refine W_join R12 ?_ ?_
      ·
        refine W_block ?_
        obtain ⟨I12, hI12⟩ : ∃ I : Nat → Fr → World → Prop, I = fun n f w_ => ∃ i_11 : Nat, ∃ suf12 : List Int, n = suf12.length ∧ List.drop i_11 cells = suf12 ∧ i_11 + suf12.length = cells.length ∧ rangeL (i_CellsValid_b1 m) suf12 i_11 () = some j12 ∧ f 2 = .pointer (some ⟨g3, 0, none⟩) ∧ f 18 = v1 ∧ f 19 = .int .i64 (cells.length : Int) ∧ f 20 = .int .i64 (i_11 : Int) ∧ (RP.slice 3 RP.int).rel B w.heap.size w_ [v1] cells ∧ (RP.slice 3 RP.int).rel B w.heap.size w_ [v0_0] m.sizes ∧ (RP.slice 36 (rRule 3 23)).rel B w.heap.size w_ [v0_1] m.rules ∧ Blk w_ g3 26 #[v0_0, v0_1] ∧ Ext w w_ := ⟨_, rfl⟩
        refine W_loop I12 (n := cells.length) ?_ ?_
        · rw [hI12]; exact ⟨0, cells, rfl, rfl, Nat.zero_add _, hL12, sf2, rfl, rfl, rfl, h1, h0_0, h0_1, hb_g3, hx⟩
        ·
          intro n12 f w_ hI
          rw [hI12] at hI
          obtain ⟨i_11, suf12, rfl, hd12, hl12, hL12, sf2, sf18, sf19, sf20, h1, h0_0, h0_1, hb_g3, hx⟩ := hI
          refine W_seq ?_
          refine W_region ?_
          refine L_lss (m := (i_11 : Int)) (n := (cells.length : Int)) rfl sf20 sf19 ?_
          refine L_nil ?_
          refine W_seq ?_
          refine W_cond (b := decide ((i_11 : Int) < (cells.length : Int))) rfl (fun hc13 => ?_) (fun hc13 => ?_)
          ·
            have hlt12 := of_decide_eq_true hc13
            cases suf12 with
            | nil => exact absurd hlt12 (by simp at hl12; omega)
            | cons x_12 rest12 =>
              obtain ⟨o12, hB12, hL12⟩ := range_cons hL12
              rw [i_CellsValid_b1] at hB12
              have hix12 := drop_idx hd12
              refine W_skip ?_
              refine W_seq ?_
              refine W_block ?_
              refine W_seq ?_
              refine W_region ?_
              refine L_mv (v := .int .i64 (i_11 : Int)) rfl sf20 ?_
              refine L_ix (r := RP.int) rfl Try.underlying23 Try.sizeOf3 sf18 h1 sf20 hix12 ?_
              intro g16 o17 cs17 hr17 hat17
              obtain rfl : _ = [_] := hr17
              refine L_ld (v := .int .i64 x_12) rfl Try.isAgg3 rfl (hat17.cell (j := 0) rfl) ?_
              refine L_as (v := .int .i64 (i_11 : Int)) rfl rfl ?_
              refine L_as (v := .int .i64 x_12) rfl rfl ?_
              refine L_nil ?_
              refine W_seq ?_
              obtain ⟨x18, hx18, hB12⟩ := bind_some hB12
              obtain ⟨x21, hx21, hB12⟩ := bind_some hB12
              refine W_region ?_
              refine L_mv (v := .int .i64 x_12) rfl rfl ?_
              refine L_fa (o' := 0) rfl fa_26_0 sf2 rfl ?_
              refine L_ld (v := v0_0) rfl Try.isAgg23 rfl (hb_g3.cell (j := 0) rfl) ?_
              refine L_mv (v := .int .i64 (i_11 : Int)) rfl rfl ?_
              refine L_ix (r := RP.int) rfl Try.underlying23 Try.sizeOf3 rfl h0_0 rfl hx18 ?_
              intro g23 o24 cs24 hr24 hat24
              obtain rfl : _ = [_] := hr24
              refine L_ld (v := .int .i64 x18) rfl Try.isAgg3 rfl (hat24.cell (j := 0) rfl) ?_
              refine L_call (args := #[.int .i64 x_12, .int .i64 0, .int .i64 x18]) rfl Try.call50 (ops3 rfl rfl rfl) (i_within_c (n_ := x_12) (low := 0) (high := x18) (Nat.le_trans hB hx.size) hx21) ?_
              rintro _ w25 ⟨rfl, he25⟩
              have h1 := RP.ext h1 he25
              have h0_0 := RP.ext h0_0 he25
              have h0_1 := RP.ext h0_1 he25
              have hb_g3 := Blk.ext hb_g3 he25
              have hx := ext_trans hx he25
              refine L_not_ (b := x21) rfl rfl ?_
              refine L_nil ?_
              refine W_cond (b := (!x21)) rfl (fun hc26 => ?_) (fun hc26 => ?_)
              ·
                have hB12 := (ite_t hc26).symm.trans hB12
                refine W_seq ?_
                refine W_region ?_
                refine L_as (v := .bool false) rfl rfl ?_
                refine L_nil ?_
                refine W_ret ?_
                obtain rfl := so hB12
                obtain rfl := so hL12
                obtain rfl := so hF
                refine ret1 Try.results20 ?_
                exact ⟨rfl, hx⟩
              ·
                have hB12 := (ite_f hc26).symm.trans hB12
                refine W_skip ?_
                refine W_region ?_
                refine L_add (m := (i_11 : Int)) (n := 1) rfl sf20 rfl ?_
                refine L_mv (v := .int .i64 (i64 ((i_11 : Int) + 1))) rfl rfl ?_
                refine L_nil ?_
                obtain rfl := so hB12
                show ∃ m, m < _ ∧ I12 m _ _
                refine ⟨rest12.length, by simp, ?_⟩
                rw [hI12]
                exact ⟨i_11 + 1, rest12, rfl, drop_next hd12, by simp at hl12; omega, hL12, sf2, sf18, sf19, (Eq.trans rfl (congrArg (Value.int .i64) (i64_succ (n := cells.length) (by simp at hl12; omega) hlen12))), h1, h0_0, h0_1, hb_g3, hx⟩
          ·
            cases suf12 with
            | cons _ _ => exact absurd (of_decide_eq_false hc13) (by simp at hl12; omega)
            | nil =>
              obtain rfl := range_nil hL12
              refine W_exit ?_
              show R12 _ _
              rw [hR12]
              exact ⟨rfl, hx⟩
      ·
        intro f w_ hR
        rw [hR12] at hR
        obtain ⟨rfl, hx⟩ := hR
        clear hR12
        refine W_seq ?_
        refine W_region ?_
        refine L_as (v := .bool true) rfl rfl ?_
        refine L_nil ?_
        refine W_ret ?_
        obtain rfl := so hF
        refine ret1 Try.results20 ?_
        exact ⟨rfl, hx⟩

theorem slices_Equal_int_c {s1 : List Int} {s2 : List Int} {v0 : Value} {v1 : Value} {w : World} {B : Nat} (hB : B ≤ w.heap.size) (h0 : (RP.slice 3 RP.int).rel B w.heap.size w [v0] s1) (h1 : (RP.slice 3 RP.int).rel B w.heap.size w [v1] s2) {r : Bool} (hF : slices_Equal_int s1 s2 = some r) :
    C Try.prog 102 #[v0, v1] w fun v w' => (v = .bool r) ∧ Ext w w' := by
  unfold slices_Equal_int at hF
  have hx := ext_refl w
  refine C_enter Try.func102 rfl Try.ntmps102 rfl ?_
  refine W_seq ?_
  refine W_region ?_
  refine L_as (v := .bool false) rfl rfl ?_
  refine L_nil ?_
  refine W_seq ?_
  refine W_seq ?_
  refine W_region ?_
  refine L_mv (v := v0) rfl rfl ?_
  refine L_len (v := v0) rfl Try.underlying23 rfl h0 ?_
  refine L_mv (v := v1) rfl rfl ?_
  refine L_len (v := v1) rfl Try.underlying23 rfl h1 ?_
  refine L_neq (m := (s1.length : Int)) (n := (s2.length : Int)) rfl rfl rfl ?_
  refine L_nil ?_
  refine W_cond (b := ((s1.length : Int) != (s2.length : Int))) rfl (fun hc1 => ?_) (fun hc1 => ?_)
  ·
    have hF := (ite_t hc1).symm.trans hF
    refine W_seq ?_
    refine W_region ?_
    refine L_as (v := .bool false) rfl rfl ?_
    refine L_nil ?_
    refine W_ret ?_
    obtain rfl := so hF
    refine ret1 Try.results102 ?_
    exact ⟨rfl, hx⟩
  ·
    have hF := (ite_f hc1).symm.trans hF
    refine W_skip ?_
    refine W_seq ?_
    refine W_seq ?_
    refine W_region ?_
    refine L_mv (v := v0) rfl rfl ?_
    refine L_len (v := v0) rfl Try.underlying23 rfl h0 ?_
    refine L_mv (v := .int .i64 0) rfl rfl ?_
    refine L_nil ?_
    have hlen3 := len_le h0
    obtain ⟨j3, hL3, hF⟩ := bind_some hF
    obtain ⟨R3, hR3⟩ : ∃ R : Fr → World → Prop, R = fun f w_ => j3 = .nx () ∧ Ext w w_ := ⟨_, rfl⟩
    refine W_join R3 ?_ ?_
    ·
      refine W_block ?_
      obtain ⟨I3, hI3⟩ : ∃ I : Nat → Fr → World → Prop, I = fun n f w_ => ∃ i_2 : Nat, ∃ suf3 : List Int, n = suf3.length ∧ List.drop i_2 s1 = suf3 ∧ i_2 + suf3.length = s1.length ∧ rangeL (slices_Equal_int_b1 s2) suf3 i_2 () = some j3 ∧ f 0 = v0 ∧ f 1 = v1 ∧ f 12 = .int .i64 (s1.length : Int) ∧ f 13 = .int .i64 (i_2 : Int) ∧ (RP.slice 3 RP.int).rel B w.heap.size w_ [v0] s1 ∧ (RP.slice 3 RP.int).rel B w.heap.size w_ [v1] s2 ∧ Ext w w_ := ⟨_, rfl⟩
      refine W_loop I3 (n := s1.length) ?_ ?_
      · rw [hI3]; exact ⟨0, s1, rfl, rfl, Nat.zero_add _, hL3, rfl, rfl, rfl, rfl, h0, h1, hx⟩
      ·
        intro n3 f w_ hI
        rw [hI3] at hI
        obtain ⟨i_2, suf3, rfl, hd3, hl3, hL3, sf0, sf1, sf12, sf13, h0, h1, hx⟩ := hI
        refine W_seq ?_
        refine W_region ?_
        refine L_lss (m := (i_2 : Int)) (n := (s1.length : Int)) rfl sf13 sf12 ?_
        refine L_nil ?_
        refine W_seq ?_
        refine W_cond (b := decide ((i_2 : Int) < (s1.length : Int))) rfl (fun hc4 => ?_) (fun hc4 => ?_)
        ·
          have hlt3 := of_decide_eq_true hc4
          cases suf3 with
          | nil => exact absurd hlt3 (by simp at hl3; omega)
          | cons x_3 rest3 =>
            obtain ⟨o3, hB3, hL3⟩ := range_cons hL3
            rw [slices_Equal_int_b1] at hB3
            have hix3 := drop_idx hd3
            refine W_skip ?_
            refine W_seq ?_
            refine W_block ?_
            refine W_seq ?_
            refine W_region ?_
            refine L_mv (v := .int .i64 (i_2 : Int)) rfl sf13 ?_
            refine L_as (v := .int .i64 (i_2 : Int)) rfl rfl ?_
            refine L_nil ?_
            refine W_seq ?_
            obtain ⟨x7, hx7, hB3⟩ := bind_some hB3
            refine W_drawL 8 [isV (v0), isV (.int .i64 (i_2 : Int)), isEl B RP.int x_3 0, isV (.int .i64 x_3), isV (v1), isV (.int .i64 (i_2 : Int)), isEl B RP.int x7 0, isV (.int .i64 x7)] Try_mix (by kernel_rfl) (am_cons (mono_V _) (am_cons (mono_V _) (am_cons (mono_el _ _ _ _) (am_cons (mono_V _) (am_cons (mono_V _) (am_cons (mono_V _) (am_cons (mono_el _ _ _ _) (am_cons (mono_V _) am_nil)))))))) ?_ (fun f w_ hS10 hE10 hT10 => ?_)
            ·
              refine ops_cons (fun f w_ hS10 hE10 hP10 => ?_) ?_
              ·
                have hx := ext_trans hx hE10
                have h0 := RP.ext h0 hE10
                refine L_mv (v := v0) rfl ((hS10 0 rfl).trans sf0) ?_
                exact L_nil ⟨rfl, (ext_refl _), _, _, rfl, rfl, rfl⟩
              refine ops_cons (fun f w_ hS10 hE10 hP10 => ?_) ?_
              ·
                have hx := ext_trans hx hE10
                refine L_mv (v := .int .i64 (i_2 : Int)) rfl ((hS10 5 rfl).trans rfl) ?_
                exact L_nil ⟨rfl, (ext_refl _), _, _, rfl, rfl, rfl⟩
              refine ops_cons (fun f w_ hS10 hE10 hP10 => ?_) ?_
              ·
                have hx := ext_trans hx hE10
                have h0 := RP.ext h0 hE10
                refine L_ix (r := RP.int) rfl Try.underlying23 Try.sizeOf3 (hP10 0 16 rfl rfl) h0 (hP10 1 17 rfl rfl) hix3 ?_
                intro g15 o16 cs16 hr16 hat16
                obtain rfl : _ = [_] := hr16
                exact L_nil ⟨rfl, (ext_refl _), _, _, rfl, rfl, ⟨_, _, _, rfl, rfl, hat16⟩⟩
              refine ops_cons (fun f w_ hS10 hE10 hP10 => ?_) ?_
              ·
                have hx := ext_trans hx hE10
                obtain ⟨g17, o17, cs17, hv17, hr17, hat17⟩ := (hP10 2 18 rfl rfl)
                obtain rfl : _ = [_] := hr17
                refine L_ld (v := .int .i64 x_3) rfl Try.isAgg3 hv17 (hat17.cell (j := 0) rfl) ?_
                exact L_nil ⟨rfl, (ext_refl _), _, _, rfl, rfl, rfl⟩
              refine ops_cons (fun f w_ hS10 hE10 hP10 => ?_) ?_
              ·
                have hx := ext_trans hx hE10
                have h1 := RP.ext h1 hE10
                refine L_mv (v := v1) rfl ((hS10 1 rfl).trans sf1) ?_
                exact L_nil ⟨rfl, (ext_refl _), _, _, rfl, rfl, rfl⟩
              refine ops_cons (fun f w_ hS10 hE10 hP10 => ?_) ?_
              ·
                have hx := ext_trans hx hE10
                refine L_mv (v := .int .i64 (i_2 : Int)) rfl ((hS10 5 rfl).trans rfl) ?_
                exact L_nil ⟨rfl, (ext_refl _), _, _, rfl, rfl, rfl⟩
              refine ops_cons (fun f w_ hS10 hE10 hP10 => ?_) ?_
              ·
                have hx := ext_trans hx hE10
                have h1 := RP.ext h1 hE10
                refine L_ix (r := RP.int) rfl Try.underlying23 Try.sizeOf3 (hP10 4 20 rfl rfl) h1 (hP10 5 21 rfl rfl) hx7 ?_
                intro g18 o19 cs19 hr19 hat19
                obtain rfl : _ = [_] := hr19
                exact L_nil ⟨rfl, (ext_refl _), _, _, rfl, rfl, ⟨_, _, _, rfl, rfl, hat19⟩⟩
              refine ops_cons (fun f w_ hS10 hE10 hP10 => ?_) ?_
              ·
                have hx := ext_trans hx hE10
                obtain ⟨g20, o20, cs20, hv20, hr20, hat20⟩ := (hP10 6 22 rfl rfl)
                obtain rfl : _ = [_] := hr20
                refine L_ld (v := .int .i64 x7) rfl Try.isAgg3 hv20 (hat20.cell (j := 0) rfl) ?_
                exact L_nil ⟨rfl, (ext_refl _), _, _, rfl, rfl, rfl⟩
              exact ops_nil
            ·
              have h0 := RP.ext h0 hE10
              have h1 := RP.ext h1 hE10
              have hx := ext_trans hx hE10
              refine L_neq (m := x_3) (n := x7) rfl (hT10 3 19 rfl rfl) (hT10 7 23 rfl rfl) ?_
              refine L_nil ?_
              refine W_cond (b := (x_3 != x7)) rfl (fun hc21 => ?_) (fun hc21 => ?_)
              ·
                have hB3 := (ite_t hc21).symm.trans hB3
                refine W_seq ?_
                refine W_region ?_
                refine L_as (v := .bool false) rfl rfl ?_
                refine L_nil ?_
                refine W_ret ?_
                obtain rfl := so hB3
                obtain rfl := so hL3
                obtain rfl := so hF
                refine ret1 Try.results102 ?_
                exact ⟨rfl, hx⟩
              ·
                have hB3 := (ite_f hc21).symm.trans hB3
                refine W_skip ?_
                refine W_region ?_
                refine L_add (m := (i_2 : Int)) (n := 1) rfl ((hS10 13 rfl).trans sf13) rfl ?_
                refine L_mv (v := .int .i64 (i64 ((i_2 : Int) + 1))) rfl rfl ?_
                refine L_nil ?_
                obtain rfl := so hB3
                show ∃ m, m < _ ∧ I3 m _ _
                refine ⟨rest3.length, by simp, ?_⟩
                rw [hI3]
                exact ⟨i_2 + 1, rest3, rfl, drop_next hd3, by simp at hl3; omega, hL3, ((hS10 0 rfl).trans sf0), ((hS10 1 rfl).trans sf1), ((hS10 12 rfl).trans sf12), (Eq.trans rfl (congrArg (Value.int .i64) (i64_succ (n := s1.length) (by simp at hl3; omega) hlen3))), h0, h1, hx⟩
        ·
          cases suf3 with
          | cons _ _ => exact absurd (of_decide_eq_false hc4) (by simp at hl3; omega)
          | nil =>
            obtain rfl := range_nil hL3
            refine W_exit ?_
            show R3 _ _
            rw [hR3]
            exact ⟨rfl, hx⟩
    ·
      intro f w_ hR
      rw [hR3] at hR
      obtain ⟨rfl, hx⟩ := hR
      clear hR3
      refine W_seq ?_
      refine W_region ?_
      refine L_as (v := .bool true) rfl rfl ?_
      refine L_nil ?_
      refine W_ret ?_
      obtain rfl := so hF
      refine ret1 Try.results102 ?_
      exact ⟨rfl, hx⟩

theorem i_Rule_holds_1_c {c1 : List Int} {row : List Int} {v0 : Value} {g_c1 : Nat} {v1_0 : Value} {w : World} {B : Nat} (hB : B ≤ w.heap.size) (h0 : (RP.slice 3 RP.int).rel B w.heap.size w [v0] row) (hat_g_c1 : At w g_c1 0 [v1_0]) (h1_0 : (RP.slice 3 RP.int).rel B w.heap.size w [v1_0] c1) {r : Bool} (hF : i_Rule_holds_1 c1 row = some r) :
    C Try.prog 101 #[v0, .pointer (some ⟨g_c1, 0, none⟩)] w fun v w' => (v = .bool r) ∧ Ext w w' := by
  unfold i_Rule_holds_1 at hF
  have hlt_g_c1 := hat_g_c1.lt
  have hx := ext_refl w
  refine C_enter Try.func101 rfl Try.ntmps101 rfl ?_
  refine W_seq ?_
  refine W_region ?_
  refine L_as (v := .bool false) rfl rfl ?_
  refine L_nil ?_
  refine W_seq ?_
  obtain ⟨x1, hx1, hF⟩ := bind_some hF
  refine W_region ?_
  refine L_mv (v := v0) rfl rfl ?_
  refine L_ld (v := v1_0) rfl Try.isAgg23 rfl (hat_g_c1.cell (j := 0) rfl) ?_
  refine L_call (args := #[v0, v1_0]) rfl Try.call102 (ops2 rfl rfl) (slices_Equal_int_c (s1 := row) (s2 := c1) (Nat.le_trans hB hx.size) (rel0 h0) (rel0 h1_0) hx1) ?_
  rintro _ w3 ⟨rfl, he3⟩
  have h0 := RP.ext h0 he3
  have h1_0 := RP.ext h1_0 he3
  have hx := ext_trans hx he3
  refine L_as (v := .bool x1) rfl rfl ?_
  refine L_nil ?_
  refine W_ret ?_
  obtain rfl := so hF
  refine ret1 Try.results101 ?_
  exact ⟨rfl, hx⟩

theorem i_Rule_holds_c {r_ : Rule} {vals : List Int} {v0_1 : Value} {v0_2 : Value} {v0_4 : Value} {v1 : Value} {w : World} {B : Nat} (hB : B ≤ w.heap.size) (h0_1 : (RP.slice 3 RP.int).rel B w.heap.size w [v0_1] r_.vars) (h0_2 : (RP.slice 3 RP.int).rel B w.heap.size w [v0_2] r_.coefs) (h0_4 : (RP.slice 23 (RP.slice 3 RP.int)).rel B w.heap.size w [v0_4] r_.rows) (h1 : (RP.slice 3 RP.int).rel B w.heap.size w [v1] vals) {r : Bool} (hF : i_Rule_holds r_ vals = some r) :
    C Try.prog 83 #[.agg #[.int .i64 r_.kind, v0_1, v0_2, .int .i64 r_.bound, v0_4], v1] w fun v w' => (v = .bool r) ∧ Ext w w' := by
  unfold i_Rule_holds at hF
  have hx := ext_refl w
  refine C_enter Try.func83 rfl Try.ntmps83 rfl ?_
  refine W_seq ?_
  refine W_region ?_
  refine L_box (v := .agg #[.int .i64 r_.kind, v0_1, v0_2, .int .i64 r_.bound, v0_4]) (cs := #[.int .i64 r_.kind, v0_1, v0_2, .int .i64 r_.bound, v0_4]) rfl rfl rfl ?_
  intro g5 w6 hn6
  have hge_g5 := hn6.geS hx.size
  have hb_g5 := hn6.blk
  have h0_1 := RP.ext h0_1 hn6.ext
  have h0_2 := RP.ext h0_2 hn6.ext
  have h0_4 := RP.ext h0_4 hn6.ext
  have h1 := RP.ext h1 hn6.ext
  have hx := ext_trans hx hn6.ext
  refine L_box (v := v1) (cs := #[v1]) rfl rfl (cells_one (one_of h1)) ?_
  intro g7 w8 hn8
  have hge_g7 := hn8.geS hx.size
  have hb_g7 := hn8.blk
  have h0_1 := RP.ext h0_1 hn8.ext
  have h0_2 := RP.ext h0_2 hn8.ext
  have h0_4 := RP.ext h0_4 hn8.ext
  have h1 := RP.ext h1 hn8.ext
  have hb_g5 := Blk.ext hb_g5 hn8.ext
  have hx := ext_trans hx hn8.ext
  refine L_as (v := .bool false) rfl rfl ?_
  refine L_nil ?_
  refine W_seq ?_
  refine W_seq ?_
  refine W_region ?_
  refine L_fa (o' := 0) rfl fa_36_0 rfl rfl ?_
  refine L_ld (v := .int .i64 r_.kind) rfl Try.isAgg3 rfl (hb_g5.cell (j := 0) rfl) ?_
  refine L_nil ?_
  refine W_block ?_
  refine W_seq ?_
  refine W_region ?_
  refine L_eql (m := r_.kind) (n := 1) rfl rfl rfl ?_
  refine L_as (v := .bool (r_.kind == 1)) rfl rfl ?_
  refine L_nil ?_
  refine W_cond (b := (r_.kind == 1)) rfl (fun hc9 => ?_) (fun hc9 => ?_)
  ·
    have hF := (ite_t hc9).symm.trans hF
    refine W_seq ?_
    refine W_region ?_
    refine L_as (v := .int .i64 0) rfl rfl ?_
    refine L_nil ?_
    refine W_seq ?_
    refine W_seq ?_
    refine W_region ?_
    refine L_ld (v := v1) rfl Try.isAgg23 rfl (hb_g7.cell (j := 0) rfl) ?_
    refine L_len (v := v1) rfl Try.underlying23 rfl h1 ?_
    refine L_mv (v := .int .i64 0) rfl rfl ?_
    refine L_nil ?_
    have hlen12 := len_le h1
    obtain ⟨j12, hL12, hF⟩ := bind_some hF
    obtain ⟨R12, hR12⟩ : ∃ R : Fr → World → Prop, R = fun f w_ => ∃ sum_11 : Int, j12 = .nx sum_11 ∧ f 2 = .pointer (some ⟨g5, 0, none⟩) ∧ f 5 = .int .i64 sum_11 ∧ (RP.slice 3 RP.int).rel B w.heap.size w_ [v0_1] r_.vars ∧ (RP.slice 3 RP.int).rel B w.heap.size w_ [v0_2] r_.coefs ∧ (RP.slice 23 (RP.slice 3 RP.int)).rel B w.heap.size w_ [v0_4] r_.rows ∧ Blk w_ g5 36 #[.int .i64 r_.kind, v0_1, v0_2, .int .i64 r_.bound, v0_4] ∧ Ext w w_ := ⟨_, rfl⟩
    refine W_join R12 ?_ ?_
    ·
      refine W_block ?_
      obtain ⟨I12, hI12⟩ : ∃ I : Nat → Fr → World → Prop, I = fun n f w_ => ∃ i_10 : Nat, ∃ suf12 : List Int, ∃ sum_11 : Int, n = suf12.length ∧ List.drop i_10 vals = suf12 ∧ i_10 + suf12.length = vals.length ∧ rangeL (i_Rule_holds_b1 r_) suf12 i_10 sum_11 = some j12 ∧ f 2 = .pointer (some ⟨g5, 0, none⟩) ∧ f 5 = .int .i64 sum_11 ∧ f 14 = v1 ∧ f 15 = .int .i64 (vals.length : Int) ∧ f 16 = .int .i64 (i_10 : Int) ∧ (RP.slice 3 RP.int).rel B w.heap.size w_ [v1] vals ∧ (RP.slice 3 RP.int).rel B w.heap.size w_ [v0_1] r_.vars ∧ (RP.slice 3 RP.int).rel B w.heap.size w_ [v0_2] r_.coefs ∧ (RP.slice 23 (RP.slice 3 RP.int)).rel B w.heap.size w_ [v0_4] r_.rows ∧ Blk w_ g5 36 #[.int .i64 r_.kind, v0_1, v0_2, .int .i64 r_.bound, v0_4] ∧ Ext w w_ := ⟨_, rfl⟩
      refine W_loop I12 (n := vals.length) ?_ ?_
      · rw [hI12]; exact ⟨0, vals, 0, rfl, rfl, Nat.zero_add _, hL12, rfl, rfl, rfl, rfl, rfl, h1, h0_1, h0_2, h0_4, hb_g5, hx⟩
      ·
        intro n12 f w_ hI
        rw [hI12] at hI
        obtain ⟨i_10, suf12, sum_11, rfl, hd12, hl12, hL12, sf2, sf5, sf14, sf15, sf16, h1, h0_1, h0_2, h0_4, hb_g5, hx⟩ := hI
        refine W_seq ?_
        refine W_region ?_
        refine L_lss (m := (i_10 : Int)) (n := (vals.length : Int)) rfl sf16 sf15 ?_
        refine L_nil ?_
        refine W_seq ?_
        refine W_cond (b := decide ((i_10 : Int) < (vals.length : Int))) rfl (fun hc13 => ?_) (fun hc13 => ?_)
        ·
          have hlt12 := of_decide_eq_true hc13
          cases suf12 with
          | nil => exact absurd hlt12 (by simp at hl12; omega)
          | cons x_12 rest12 =>
            obtain ⟨o12, hB12, hL12⟩ := range_cons hL12
            rw [i_Rule_holds_b1] at hB12
            have hix12 := drop_idx hd12
            refine W_skip ?_
            refine W_seq ?_
            refine W_block ?_
            refine W_seq ?_
            refine W_region ?_
            refine L_mv (v := .int .i64 (i_10 : Int)) rfl sf16 ?_
            refine L_ix (r := RP.int) rfl Try.underlying23 Try.sizeOf3 sf14 h1 sf16 hix12 ?_
            intro g16 o17 cs17 hr17 hat17
            obtain rfl : _ = [_] := hr17
            refine L_ld (v := .int .i64 x_12) rfl Try.isAgg3 rfl (hat17.cell (j := 0) rfl) ?_
            refine L_as (v := .int .i64 (i_10 : Int)) rfl rfl ?_
            refine L_as (v := .int .i64 x_12) rfl rfl ?_
            refine L_nil ?_
            obtain ⟨x18, hx18, hB12⟩ := bind_some hB12
            refine W_region ?_
            refine L_mv (v := .int .i64 sum_11) rfl sf5 ?_
            refine L_fa (o' := 2) rfl fa_36_2 sf2 rfl ?_
            refine L_ld (v := v0_2) rfl Try.isAgg23 rfl (hb_g5.cell (j := 2) rfl) ?_
            refine L_mv (v := .int .i64 (i_10 : Int)) rfl rfl ?_
            refine L_ix (r := RP.int) rfl Try.underlying23 Try.sizeOf3 rfl h0_2 rfl hx18 ?_
            intro g21 o22 cs22 hr22 hat22
            obtain rfl : _ = [_] := hr22
            refine L_ld (v := .int .i64 x18) rfl Try.isAgg3 rfl (hat22.cell (j := 0) rfl) ?_
            refine L_mv (v := .int .i64 x_12) rfl rfl ?_
            refine L_mul (m := x18) (n := x_12) rfl rfl rfl ?_
            refine L_add (m := sum_11) (n := i64 (x18 * x_12)) rfl rfl rfl ?_
            refine L_as (v := .int .i64 (i64 (sum_11 + (i64 (x18 * x_12))))) rfl rfl ?_
            refine L_nil ?_
            refine W_region ?_
            refine L_add (m := (i_10 : Int)) (n := 1) rfl sf16 rfl ?_
            refine L_mv (v := .int .i64 (i64 ((i_10 : Int) + 1))) rfl rfl ?_
            refine L_nil ?_
            obtain rfl := so hB12
            show ∃ m, m < _ ∧ I12 m _ _
            refine ⟨rest12.length, by simp, ?_⟩
            rw [hI12]
            exact ⟨i_10 + 1, rest12, i64 (sum_11 + (i64 (x18 * x_12))), rfl, drop_next hd12, by simp at hl12; omega, hL12, sf2, rfl, sf14, sf15, (Eq.trans rfl (congrArg (Value.int .i64) (i64_succ (n := vals.length) (by simp at hl12; omega) hlen12))), h1, h0_1, h0_2, h0_4, hb_g5, hx⟩
        ·
          cases suf12 with
          | cons _ _ => exact absurd (of_decide_eq_false hc13) (by simp at hl12; omega)
          | nil =>
            obtain rfl := range_nil hL12
            refine W_exit ?_
            show R12 _ _
            rw [hR12]
            exact ⟨sum_11, rfl, sf2, sf5, h0_1, h0_2, h0_4, hb_g5, hx⟩
    ·
      intro f w_ hR
      rw [hR12] at hR
      obtain ⟨sum_11, rfl, sf2, sf5, h0_1, h0_2, h0_4, hb_g5, hx⟩ := hR
      clear hR12
      refine W_seq ?_
      refine W_region ?_
      refine L_mv (v := .int .i64 sum_11) rfl sf5 ?_
      refine L_fa (o' := 3) rfl fa_36_3 sf2 rfl ?_
      refine L_ld (v := .int .i64 r_.bound) rfl Try.isAgg3 rfl (hb_g5.cell (j := 3) rfl) ?_
      refine L_geq (m := sum_11) (n := r_.bound) rfl rfl rfl ?_
      refine L_as (v := .bool (decide (sum_11 ≥ r_.bound))) rfl rfl ?_
      refine L_nil ?_
      refine W_ret ?_
      obtain rfl := so hF
      refine ret1 Try.results83 ?_
      exact ⟨rfl, hx⟩
  ·
    have hF := (ite_f hc9).symm.trans hF
    refine W_seq ?_
    refine W_region ?_
    refine L_eql (m := r_.kind) (n := 2) rfl rfl rfl ?_
    refine L_as (v := .bool (r_.kind == 2)) rfl rfl ?_
    refine L_nil ?_
    refine W_cond (b := (r_.kind == 2)) rfl (fun hc23 => ?_) (fun hc23 => ?_)
    ·
      have hF := (ite_t hc23).symm.trans hF
      refine W_seq ?_
      refine W_seq ?_
      refine W_region ?_
      refine L_ld (v := v1) rfl Try.isAgg23 rfl (hb_g7.cell (j := 0) rfl) ?_
      refine L_len (v := v1) rfl Try.underlying23 rfl h1 ?_
      refine L_mv (v := .int .i64 0) rfl rfl ?_
      refine L_nil ?_
      have hlen25 := len_le h1
      obtain ⟨j25, hL25, hF⟩ := bind_some hF
      obtain ⟨R25, hR25⟩ : ∃ R : Fr → World → Prop, R = fun f w_ => j25 = .nx () ∧ Ext w w_ := ⟨_, rfl⟩
      refine W_join R25 ?_ ?_
      ·
        refine W_block ?_
        obtain ⟨I25, hI25⟩ : ∃ I : Nat → Fr → World → Prop, I = fun n f w_ => ∃ i_24 : Nat, ∃ suf25 : List Int, n = suf25.length ∧ List.drop i_24 vals = suf25 ∧ i_24 + suf25.length = vals.length ∧ rangeL (i_Rule_holds_b2 vals) suf25 i_24 () = some j25 ∧ f 3 = .pointer (some ⟨g7, 0, none⟩) ∧ f 37 = v1 ∧ f 38 = .int .i64 (vals.length : Int) ∧ f 39 = .int .i64 (i_24 : Int) ∧ (RP.slice 3 RP.int).rel B w.heap.size w_ [v1] vals ∧ Blk w_ g7 23 #[v1] ∧ Ext w w_ := ⟨_, rfl⟩
        refine W_loop I25 (n := vals.length) ?_ ?_
        · rw [hI25]; exact ⟨0, vals, rfl, rfl, Nat.zero_add _, hL25, rfl, rfl, rfl, rfl, h1, hb_g7, hx⟩
        ·
          intro n25 f w_ hI
          rw [hI25] at hI
          obtain ⟨i_24, suf25, rfl, hd25, hl25, hL25, sf3, sf37, sf38, sf39, h1, hb_g7, hx⟩ := hI
          refine W_seq ?_
          refine W_region ?_
          refine L_lss (m := (i_24 : Int)) (n := (vals.length : Int)) rfl sf39 sf38 ?_
          refine L_nil ?_
          refine W_seq ?_
          refine W_cond (b := decide ((i_24 : Int) < (vals.length : Int))) rfl (fun hc26 => ?_) (fun hc26 => ?_)
          ·
            have hlt25 := of_decide_eq_true hc26
            cases suf25 with
            | nil => exact absurd hlt25 (by simp at hl25; omega)
            | cons x_25 rest25 =>
              obtain ⟨o25, hB25, hL25⟩ := range_cons hL25
              rw [i_Rule_holds_b2] at hB25
              have hix25 := drop_idx hd25
              refine W_skip ?_
              refine W_seq ?_
              refine W_block ?_
              refine W_seq ?_
              refine W_region ?_
              refine L_mv (v := .int .i64 (i_24 : Int)) rfl sf39 ?_
              refine L_ix (r := RP.int) rfl Try.underlying23 Try.sizeOf3 sf37 h1 sf39 hix25 ?_
              intro g29 o30 cs30 hr30 hat30
              obtain rfl : _ = [_] := hr30
              refine L_ld (v := .int .i64 x_25) rfl Try.isAgg3 rfl (hat30.cell (j := 0) rfl) ?_
              refine L_as (v := .int .i64 (i_24 : Int)) rfl rfl ?_
              refine L_as (v := .int .i64 x_25) rfl rfl ?_
              refine L_nil ?_
              refine W_seq ?_
              obtain ⟨x31, hx31, hB25⟩ := bind_some hB25
              obtain ⟨x33, hx33, hB25⟩ := bind_some hB25
              refine W_region ?_
              refine L_ld (v := v1) rfl Try.isAgg23 sf3 (hb_g7.cell (j := 0) rfl) ?_
              refine L_mv (v := .int .i64 (i_24 : Int)) rfl rfl ?_
              refine L_sl (a := 0) (b := (i_24 : Int)) rfl et_23 rfl h1 rfl rfl hx31 ?_
              intro v35 hs35
              refine L_mv (v := .int .i64 x_25) rfl rfl ?_
              refine L_call (args := #[v35, .int .i64 x_25]) rfl Try.call87 (ops2 rfl rfl) (slices_Contains_int_c (s := x31) (v_ := x_25) (Nat.le_trans hB hx.size) (rel0 hs35) hx33) ?_
              rintro _ w36 ⟨rfl, he36⟩
              have h1 := RP.ext h1 he36
              have hb_g7 := Blk.ext hb_g7 he36
              have hs35 := RP.ext hs35 he36
              have hx := ext_trans hx he36
              refine L_nil ?_
              refine W_cond (b := x33) rfl (fun hc37 => ?_) (fun hc37 => ?_)
              ·
                have hB25 := (ite_t hc37).symm.trans hB25
                refine W_seq ?_
                refine W_region ?_
                refine L_as (v := .bool false) rfl rfl ?_
                refine L_nil ?_
                refine W_ret ?_
                obtain rfl := so hB25
                obtain rfl := so hL25
                obtain rfl := so hF
                refine ret1 Try.results83 ?_
                exact ⟨rfl, hx⟩
              ·
                have hB25 := (ite_f hc37).symm.trans hB25
                refine W_skip ?_
                refine W_region ?_
                refine L_add (m := (i_24 : Int)) (n := 1) rfl sf39 rfl ?_
                refine L_mv (v := .int .i64 (i64 ((i_24 : Int) + 1))) rfl rfl ?_
                refine L_nil ?_
                obtain rfl := so hB25
                show ∃ m, m < _ ∧ I25 m _ _
                refine ⟨rest25.length, by simp, ?_⟩
                rw [hI25]
                exact ⟨i_24 + 1, rest25, rfl, drop_next hd25, by simp at hl25; omega, hL25, sf3, sf37, sf38, (Eq.trans rfl (congrArg (Value.int .i64) (i64_succ (n := vals.length) (by simp at hl25; omega) hlen25))), h1, hb_g7, hx⟩
          ·
            cases suf25 with
            | cons _ _ => exact absurd (of_decide_eq_false hc26) (by simp at hl25; omega)
            | nil =>
              obtain rfl := range_nil hL25
              refine W_exit ?_
              show R25 _ _
              rw [hR25]
              exact ⟨rfl, hx⟩
      ·
        intro f w_ hR
        rw [hR25] at hR
        obtain ⟨rfl, hx⟩ := hR
        clear hR25
        refine W_seq ?_
        refine W_region ?_
        refine L_as (v := .bool true) rfl rfl ?_
        refine L_nil ?_
        refine W_ret ?_
        obtain rfl := so hF
        refine ret1 Try.results83 ?_
        exact ⟨rfl, hx⟩
    ·
      have hF := (ite_f hc23).symm.trans hF
      refine W_seq ?_
      refine W_region ?_
      refine L_eql (m := r_.kind) (n := 3) rfl rfl rfl ?_
      refine L_as (v := .bool (r_.kind == 3)) rfl rfl ?_
      refine L_nil ?_
      refine W_cond (b := (r_.kind == 3)) rfl (fun hc38 => ?_) (fun hc38 => ?_)
      ·
        have hF := (ite_t hc38).symm.trans hF
        refine W_seq ?_
        obtain ⟨x39, hx39, hF⟩ := bind_some hF
        refine W_region ?_
        refine L_fa (o' := 4) rfl fa_36_4 rfl rfl ?_
        refine L_ld (v := v0_4) rfl Try.isAgg34 rfl (hb_g5.cell (j := 4) rfl) ?_
        refine L_mf rfl (ops1 rfl) ?_
        have hf41 : Fun1 Try.prog B (RP.slice 3 RP.int) false Value.bool (i_Rule_holds_1 vals) (.func (.func 101) #[] #[.pointer (some ⟨g7, 0, none⟩)]) w8 := by
          refine ⟨_, _, rfl, Try.call101, fun w_ hE_ cs_ x_ y_ args_ hr_ hy_ ha_ => ?_⟩
          obtain ⟨p0, rfl, hp0⟩ := slice1 hr_
          obtain rfl := args_of (b := #[p0, .pointer (some ⟨g7, 0, none⟩)]) ha_
          exact i_Rule_holds_1_c (c1 := vals) (row := x_) (Nat.le_trans hB (ext_trans hx hE_).size) hp0 (At.ext (Blk.at hb_g7) hE_) (rel0 (RP.ext h1 hE_)) hy_
        refine L_call (args := #[v0_4, .func (.func 101) #[] #[.pointer (some ⟨g7, 0, none⟩)]]) rfl Try.call90 (ops2 rfl rfl) (slices_ContainsFunc_Sint_c (s := r_.rows) (f_ := (i_Rule_holds_1 vals)) (Nat.le_trans hB hx.size) (rel0 h0_4) hf41 hx39) ?_
        rintro _ w42 ⟨rfl, he42⟩
        have h0_4 := RP.ext h0_4 he42
        have h1 := RP.ext h1 he42
        have hb_g7 := Blk.ext hb_g7 he42
        have hx := ext_trans hx he42
        refine L_as (v := .bool x39) rfl rfl ?_
        refine L_nil ?_
        refine W_ret ?_
        obtain rfl := so hF
        refine ret1 Try.results83 ?_
        exact ⟨rfl, hx⟩
      ·
        have hF := (ite_f hc38).symm.trans hF
        refine W_skip ?_
        refine W_seq ?_
        obtain ⟨x43, hx43, hF⟩ := bind_some hF
        obtain ⟨x46, hx46, hF⟩ := bind_some hF
        refine W_drawL 6 [isV (v1), isEl B RP.int x43 0, isV (.int .i64 x43), isV (v1), isEl B RP.int x46 0, isV (.int .i64 x46)] Try_mix (by kernel_rfl) (am_cons (mono_V _) (am_cons (mono_el _ _ _ _) (am_cons (mono_V _) (am_cons (mono_V _) (am_cons (mono_el _ _ _ _) (am_cons (mono_V _) am_nil)))))) ?_ (fun f w_ hS49 hE49 hT49 => ?_)
        ·
          refine ops_cons (fun f w_ hS49 hE49 hP49 => ?_) ?_
          ·
            have hx := ext_trans hx hE49
            have h1 := RP.ext h1 hE49
            have hb_g7 := Blk.ext hb_g7 hE49
            refine L_ld (v := v1) rfl Try.isAgg23 ((hS49 3 rfl).trans rfl) (hb_g7.cell (j := 0) rfl) ?_
            exact L_nil ⟨rfl, (ext_refl _), _, _, rfl, rfl, rfl⟩
          refine ops_cons (fun f w_ hS49 hE49 hP49 => ?_) ?_
          ·
            have hx := ext_trans hx hE49
            have h1 := RP.ext h1 hE49
            refine L_ix (r := RP.int) rfl Try.underlying23 Try.sizeOf3 (hP49 0 56 rfl rfl) h1 rfl hx43 ?_
            intro g54 o55 cs55 hr55 hat55
            obtain rfl : _ = [_] := hr55
            exact L_nil ⟨rfl, (ext_refl _), _, _, rfl, rfl, ⟨_, _, _, rfl, rfl, hat55⟩⟩
          refine ops_cons (fun f w_ hS49 hE49 hP49 => ?_) ?_
          ·
            have hx := ext_trans hx hE49
            obtain ⟨g56, o56, cs56, hv56, hr56, hat56⟩ := (hP49 1 57 rfl rfl)
            obtain rfl : _ = [_] := hr56
            refine L_ld (v := .int .i64 x43) rfl Try.isAgg3 hv56 (hat56.cell (j := 0) rfl) ?_
            exact L_nil ⟨rfl, (ext_refl _), _, _, rfl, rfl, rfl⟩
          refine ops_cons (fun f w_ hS49 hE49 hP49 => ?_) ?_
          ·
            have hx := ext_trans hx hE49
            have h1 := RP.ext h1 hE49
            have hb_g7 := Blk.ext hb_g7 hE49
            refine L_ld (v := v1) rfl Try.isAgg23 ((hS49 3 rfl).trans rfl) (hb_g7.cell (j := 0) rfl) ?_
            exact L_nil ⟨rfl, (ext_refl _), _, _, rfl, rfl, rfl⟩
          refine ops_cons (fun f w_ hS49 hE49 hP49 => ?_) ?_
          ·
            have hx := ext_trans hx hE49
            have h1 := RP.ext h1 hE49
            refine L_ix (r := RP.int) rfl Try.underlying23 Try.sizeOf3 (hP49 3 59 rfl rfl) h1 rfl hx46 ?_
            intro g57 o58 cs58 hr58 hat58
            obtain rfl : _ = [_] := hr58
            exact L_nil ⟨rfl, (ext_refl _), _, _, rfl, rfl, ⟨_, _, _, rfl, rfl, hat58⟩⟩
          refine ops_cons (fun f w_ hS49 hE49 hP49 => ?_) ?_
          ·
            have hx := ext_trans hx hE49
            obtain ⟨g59, o59, cs59, hv59, hr59, hat59⟩ := (hP49 4 60 rfl rfl)
            obtain rfl : _ = [_] := hr59
            refine L_ld (v := .int .i64 x46) rfl Try.isAgg3 hv59 (hat59.cell (j := 0) rfl) ?_
            exact L_nil ⟨rfl, (ext_refl _), _, _, rfl, rfl, rfl⟩
          exact ops_nil
        ·
          have h0_1 := RP.ext h0_1 hE49
          have h0_2 := RP.ext h0_2 hE49
          have h0_4 := RP.ext h0_4 hE49
          have h1 := RP.ext h1 hE49
          have hb_g5 := Blk.ext hb_g5 hE49
          have hb_g7 := Blk.ext hb_g7 hE49
          have hx := ext_trans hx hE49
          refine L_lss (m := x43) (n := x46) rfl (hT49 2 58 rfl rfl) (hT49 5 61 rfl rfl) ?_
          refine L_as (v := .bool (decide (x43 < x46))) rfl rfl ?_
          refine L_nil ?_
          refine W_ret ?_
          obtain rfl := so hF
          refine ret1 Try.results83 ?_
          exact ⟨rfl, hx⟩

theorem i_Rule_at_c {r_ : Rule} {cells : List Int} {v0_1 : Value} {v0_2 : Value} {v0_4 : Value} {v1 : Value} {w : World} {B : Nat} (hB : B ≤ w.heap.size) (h0_1 : (RP.slice 3 RP.int).rel B w.heap.size w [v0_1] r_.vars) (h0_2 : (RP.slice 3 RP.int).rel B w.heap.size w [v0_2] r_.coefs) (h0_4 : (RP.slice 23 (RP.slice 3 RP.int)).rel B w.heap.size w [v0_4] r_.rows) (h1 : (RP.slice 3 RP.int).rel B w.heap.size w [v1] cells) {r : Bool} (hF : i_Rule_at r_ cells = some r) :
    C Try.prog 56 #[.agg #[.int .i64 r_.kind, v0_1, v0_2, .int .i64 r_.bound, v0_4], v1] w fun v w' => (v = .bool r) ∧ Ext w w' := by
  unfold i_Rule_at at hF
  have hx := ext_refl w
  refine C_enter Try.func56 rfl Try.ntmps56 rfl ?_
  refine W_seq ?_
  refine W_region ?_
  refine L_box (v := .agg #[.int .i64 r_.kind, v0_1, v0_2, .int .i64 r_.bound, v0_4]) (cs := #[.int .i64 r_.kind, v0_1, v0_2, .int .i64 r_.bound, v0_4]) rfl rfl rfl ?_
  intro g3 w4 hn4
  have hge_g3 := hn4.geS hx.size
  have hb_g3 := hn4.blk
  have h0_1 := RP.ext h0_1 hn4.ext
  have h0_2 := RP.ext h0_2 hn4.ext
  have h0_4 := RP.ext h0_4 hn4.ext
  have h1 := RP.ext h1 hn4.ext
  have hx := ext_trans hx hn4.ext
  refine L_as (v := .bool false) rfl rfl ?_
  refine L_nil ?_
  refine W_seq ?_
  refine W_region ?_
  refine L_as (v := (.slice none 0 0)) rfl rfl ?_
  refine L_nil ?_
  refine W_seq ?_
  refine W_seq ?_
  refine W_region ?_
  refine L_fa (o' := 1) rfl fa_36_1 rfl rfl ?_
  refine L_ld (v := v0_1) rfl Try.isAgg23 rfl (hb_g3.cell (j := 1) rfl) ?_
  refine L_len (v := v0_1) rfl Try.underlying23 rfl h0_1 ?_
  refine L_mv (v := .int .i64 0) rfl rfl ?_
  refine L_nil ?_
  have hlen7 := len_le h0_1
  obtain ⟨j7, hL7, hF⟩ := bind_some hF
  obtain ⟨R7, hR7⟩ : ∃ R : Fr → World → Prop, R = fun f w_ => ∃ vals_6 : List Int, ∃ v6_vals : Value, j7 = .nx vals_6 ∧ f 2 = .pointer (some ⟨g3, 0, none⟩) ∧ f 5 = v6_vals ∧ Own RP.int 3 w.heap.size B w_ v6_vals vals_6 ∧ (RP.slice 3 RP.int).rel B w.heap.size w_ [v0_1] r_.vars ∧ (RP.slice 3 RP.int).rel B w.heap.size w_ [v0_2] r_.coefs ∧ (RP.slice 23 (RP.slice 3 RP.int)).rel B w.heap.size w_ [v0_4] r_.rows ∧ Blk w_ g3 36 #[.int .i64 r_.kind, v0_1, v0_2, .int .i64 r_.bound, v0_4] ∧ Ext w w_ := ⟨_, rfl⟩
  refine W_join R7 ?_ ?_
  ·
    refine W_block ?_
    obtain ⟨I7, hI7⟩ : ∃ I : Nat → Fr → World → Prop, I = fun n f w_ => ∃ i_5 : Nat, ∃ suf7 : List Int, ∃ vals_6 : List Int, ∃ v6_vals : Value, n = suf7.length ∧ List.drop i_5 r_.vars = suf7 ∧ i_5 + suf7.length = r_.vars.length ∧ rangeL (i_Rule_at_b1 cells) suf7 i_5 vals_6 = some j7 ∧ f 1 = v1 ∧ f 2 = .pointer (some ⟨g3, 0, none⟩) ∧ f 5 = v6_vals ∧ f 9 = v0_1 ∧ f 10 = .int .i64 (r_.vars.length : Int) ∧ f 11 = .int .i64 (i_5 : Int) ∧ (RP.slice 3 RP.int).rel B w.heap.size w_ [v1] cells ∧ Own RP.int 3 w.heap.size B w_ v6_vals vals_6 ∧ (RP.slice 3 RP.int).rel B w.heap.size w_ [v0_1] r_.vars ∧ (RP.slice 3 RP.int).rel B w.heap.size w_ [v0_2] r_.coefs ∧ (RP.slice 23 (RP.slice 3 RP.int)).rel B w.heap.size w_ [v0_4] r_.rows ∧ Blk w_ g3 36 #[.int .i64 r_.kind, v0_1, v0_2, .int .i64 r_.bound, v0_4] ∧ Ext w w_ := ⟨_, rfl⟩
    refine W_loop I7 (n := r_.vars.length) ?_ ?_
    · rw [hI7]; exact ⟨0, r_.vars, [], (.slice none 0 0), rfl, rfl, Nat.zero_add _, hL7, rfl, rfl, rfl, rfl, rfl, rfl, h1, (Own.nil _ _ _ _ _), h0_1, h0_2, h0_4, hb_g3, hx⟩
    ·
      intro n7 f w_ hI
      rw [hI7] at hI
      obtain ⟨i_5, suf7, vals_6, v6_vals, rfl, hd7, hl7, hL7, sf1, sf2, sf5, sf9, sf10, sf11, h1, hv6_vals, h0_1, h0_2, h0_4, hb_g3, hx⟩ := hI
      refine W_seq ?_
      refine W_region ?_
      refine L_lss (m := (i_5 : Int)) (n := (r_.vars.length : Int)) rfl sf11 sf10 ?_
      refine L_nil ?_
      refine W_seq ?_
      refine W_cond (b := decide ((i_5 : Int) < (r_.vars.length : Int))) rfl (fun hc8 => ?_) (fun hc8 => ?_)
      ·
        have hlt7 := of_decide_eq_true hc8
        cases suf7 with
        | nil => exact absurd hlt7 (by simp at hl7; omega)
        | cons x_7 rest7 =>
          obtain ⟨o7, hB7, hL7⟩ := range_cons hL7
          rw [i_Rule_at_b1] at hB7
          have hix7 := drop_idx hd7
          refine W_skip ?_
          refine W_seq ?_
          refine W_block ?_
          refine W_seq ?_
          refine W_region ?_
          refine L_ix (r := RP.int) rfl Try.underlying23 Try.sizeOf3 sf9 h0_1 sf11 hix7 ?_
          intro g11 o12 cs12 hr12 hat12
          obtain rfl : _ = [_] := hr12
          refine L_ld (v := .int .i64 x_7) rfl Try.isAgg3 rfl (hat12.cell (j := 0) rfl) ?_
          refine L_as (v := .int .i64 x_7) rfl rfl ?_
          refine L_nil ?_
          obtain ⟨x13, hx13, hB7⟩ := bind_some hB7
          obtain ⟨x19, hx19, hB7⟩ := bind_some hB7
          refine W_region ?_
          refine L_mv (v := v6_vals) rfl sf5 ?_
          refine L_mv (v := v1) rfl sf1 ?_
          refine L_mv (v := .int .i64 x_7) rfl rfl ?_
          refine L_ix (r := RP.int) rfl Try.underlying23 Try.sizeOf3 rfl h1 rfl hx13 ?_
          intro g22 o23 cs23 hr23 hat23
          obtain rfl : _ = [_] := hr23
          refine L_ld (v := .int .i64 x13) rfl Try.isAgg3 rfl (hat23.cell (j := 0) rfl) ?_
          refine L_bs rfl (parts1 rfl) (bs_23_1_0 (.int .i64 x13) rfl) ?_
          intro g24 w25 hn25
          have ho25 : Own RP.int 3 w.heap.size B w25 _ [x13] := own_new1 hn25 hx.size rfl
          have ap26 := ap_ob hv6_vals hn25
          have h1 := RP.ext h1 hn25.ext
          have hv6_vals := Own.ext hv6_vals hn25.ext
          have h0_1 := RP.ext h0_1 hn25.ext
          have h0_2 := RP.ext h0_2 hn25.ext
          have h0_4 := RP.ext h0_4 hn25.ext
          have hb_g3 := Blk.ext hb_g3 hn25.ext
          have hx := ext_trans hx hn25.ext
          refine L_app (v := v6_vals) (u := (.slice (some ⟨g24, 0, none⟩) 1 1)) rfl et_23 (by decide) rfl rfl hv6_vals (rel0 (Own.rel ho25)) hx19 hx.size hB ?_
          intro v27 w27 ho27 hm27 hb27
          have h1 := hm27.rel_lo h1 (Nat.le_refl _)
          have h0_1 := hm27.rel_lo h0_1 (Nat.le_refl _)
          have h0_2 := hm27.rel_lo h0_2 (Nat.le_refl _)
          have h0_4 := hm27.rel_lo h0_4 (Nat.le_refl _)
          have hb_g3 := hm27.blk hb_g3 (by decide)
          have hx := ext_mut hx hm27 (Nat.le_refl _)
          refine L_as (v := v27) rfl rfl ?_
          refine L_nil ?_
          refine W_region ?_
          refine L_add (m := (i_5 : Int)) (n := 1) rfl sf11 rfl ?_
          refine L_mv (v := .int .i64 (i64 ((i_5 : Int) + 1))) rfl rfl ?_
          refine L_nil ?_
          obtain rfl := so hB7
          show ∃ m, m < _ ∧ I7 m _ _
          refine ⟨rest7.length, by simp, ?_⟩
          rw [hI7]
          exact ⟨i_5 + 1, rest7, x19, v27, rfl, drop_next hd7, by simp at hl7; omega, hL7, sf1, sf2, rfl, sf9, sf10, (Eq.trans rfl (congrArg (Value.int .i64) (i64_succ (n := r_.vars.length) (by simp at hl7; omega) hlen7))), h1, ho27, h0_1, h0_2, h0_4, hb_g3, hx⟩
      ·
        cases suf7 with
        | cons _ _ => exact absurd (of_decide_eq_false hc8) (by simp at hl7; omega)
        | nil =>
          obtain rfl := range_nil hL7
          refine W_exit ?_
          show R7 _ _
          rw [hR7]
          exact ⟨vals_6, v6_vals, rfl, sf2, sf5, hv6_vals, h0_1, h0_2, h0_4, hb_g3, hx⟩
  ·
    intro f w_ hR
    rw [hR7] at hR
    obtain ⟨vals_6, v6_vals, rfl, sf2, sf5, hv6_vals, h0_1, h0_2, h0_4, hb_g3, hx⟩ := hR
    clear hR7
    refine W_seq ?_
    obtain ⟨x28, hx28, hF⟩ := bind_some hF
    refine W_region ?_
    refine L_lda (cs := [.int .i64 r_.kind, v0_1, v0_2, .int .i64 r_.bound, v0_4]) rfl Try.isAgg36 Try.sizeOf36 sf2 (Blk.sub hb_g3 0 5) rfl ?_
    refine L_mv (v := v6_vals) rfl sf5 ?_
    refine L_call (args := #[.agg #[.int .i64 r_.kind, v0_1, v0_2, .int .i64 r_.bound, v0_4], v6_vals]) rfl Try.call83 (ops2 rfl rfl) (i_Rule_holds_c (r_ := r_) (vals := vals_6) (Nat.le_trans hB hx.size) (rel0 h0_1) (rel0 h0_2) (rel0 h0_4) (rel0 (Own.rel hv6_vals)) hx28) ?_
    rintro _ w30 ⟨rfl, he30⟩
    have hv6_vals := Own.ext hv6_vals he30
    have h0_1 := RP.ext h0_1 he30
    have h0_2 := RP.ext h0_2 he30
    have h0_4 := RP.ext h0_4 he30
    have hx := ext_trans hx he30
    refine L_as (v := .bool x28) rfl rfl ?_
    refine L_nil ?_
    refine W_ret ?_
    obtain rfl := so hF
    refine ret1 Try.results56 ?_
    exact ⟨rfl, hx⟩

theorem s_l6Cells_c {m : Model} {cells : List Int} {v0_0 : Value} {v0_1 : Value} {v1 : Value} {w : World} {B : Nat} (hB : B ≤ w.heap.size) (h0_0 : (RP.slice 3 RP.int).rel B w.heap.size w [v0_0] m.sizes) (h0_1 : (RP.slice 36 (rRule 3 23)).rel B w.heap.size w [v0_1] m.rules) (h1 : (RP.slice 3 RP.int).rel B w.heap.size w [v1] cells) {r : Bool} (hF : s_l6Cells m cells = some r) :
    C Try.prog 61 #[.agg #[v0_0, v0_1], v1] w fun v w' => (v = .bool r) ∧ Ext w w' := by
  unfold s_l6Cells at hF
  have hx := ext_refl w
  refine C_enter Try.func61 rfl Try.ntmps61 rfl ?_
  refine W_seq ?_
  refine W_region ?_
  refine L_box (v := .agg #[v0_0, v0_1]) (cs := #[v0_0, v0_1]) rfl rfl rfl ?_
  intro g3 w4 hn4
  have hge_g3 := hn4.geS hx.size
  have hb_g3 := hn4.blk
  have h0_0 := RP.ext h0_0 hn4.ext
  have h0_1 := RP.ext h0_1 hn4.ext
  have h1 := RP.ext h1 hn4.ext
  have hx := ext_trans hx hn4.ext
  refine L_as (v := .bool false) rfl rfl ?_
  refine L_nil ?_
  refine W_seq ?_
  refine W_seq ?_
  refine W_region ?_
  refine L_mv (v := v1) rfl rfl ?_
  refine L_len (v := v1) rfl Try.underlying23 rfl h1 ?_
  refine L_fa (o' := 0) rfl fa_26_0 rfl rfl ?_
  refine L_ld (v := v0_0) rfl Try.isAgg23 rfl (hb_g3.cell (j := 0) rfl) ?_
  refine L_len (v := v0_0) rfl Try.underlying23 rfl h0_0 ?_
  refine L_neq (m := (cells.length : Int)) (n := (m.sizes.length : Int)) rfl rfl rfl ?_
  refine L_nil ?_
  refine W_cond (b := ((cells.length : Int) != (m.sizes.length : Int))) rfl (fun hc5 => ?_) (fun hc5 => ?_)
  ·
    have hF := (ite_t hc5).symm.trans hF
    refine W_seq ?_
    refine W_region ?_
    refine L_as (v := .bool false) rfl rfl ?_
    refine L_nil ?_
    refine W_ret ?_
    obtain rfl := so hF
    refine ret1 Try.results61 ?_
    exact ⟨rfl, hx⟩
  ·
    have hF := (ite_f hc5).symm.trans hF
    refine W_skip ?_
    refine W_seq ?_
    refine W_seq ?_
    refine W_region ?_
    refine L_as (v := .int .i64 0) rfl rfl ?_
    refine L_nil ?_
    have hlen7 := len_le h1
    obtain ⟨j7, hL7, hF⟩ := bind_some hF
    obtain ⟨R7, hR7⟩ : ∃ R : Fr → World → Prop, R = fun f w_ => j7 = .nx () ∧ Ext w w_ := ⟨_, rfl⟩
    refine W_join R7 ?_ ?_
    ·
      refine W_block ?_
      obtain ⟨I7, hI7⟩ : ∃ I : Nat → Fr → World → Prop, I = fun n f w_ => ∃ i_6 : Nat, ∃ suf7 : List Int, n = suf7.length ∧ List.drop i_6 cells = suf7 ∧ i_6 + suf7.length = cells.length ∧ rangeL (s_l6Cells_b1 m) suf7 i_6 () = some j7 ∧ f 1 = v1 ∧ f 2 = .pointer (some ⟨g3, 0, none⟩) ∧ f 5 = .int .i64 (i_6 : Int) ∧ (RP.slice 3 RP.int).rel B w.heap.size w_ [v1] cells ∧ (RP.slice 3 RP.int).rel B w.heap.size w_ [v0_0] m.sizes ∧ (RP.slice 36 (rRule 3 23)).rel B w.heap.size w_ [v0_1] m.rules ∧ Blk w_ g3 26 #[v0_0, v0_1] ∧ Ext w w_ := ⟨_, rfl⟩
      refine W_loop I7 (n := cells.length) ?_ ?_
      · rw [hI7]; exact ⟨0, cells, rfl, rfl, Nat.zero_add _, hL7, rfl, rfl, rfl, h1, h0_0, h0_1, hb_g3, hx⟩
      ·
        intro n7 f w_ hI
        rw [hI7] at hI
        obtain ⟨i_6, suf7, rfl, hd7, hl7, hL7, sf1, sf2, sf5, h1, h0_0, h0_1, hb_g3, hx⟩ := hI
        refine W_seq ?_
        refine W_seq ?_
        refine W_region ?_
        refine L_mv (v := .int .i64 (i_6 : Int)) rfl sf5 ?_
        refine L_mv (v := v1) rfl sf1 ?_
        refine L_len (v := v1) rfl Try.underlying23 rfl h1 ?_
        refine L_lss (m := (i_6 : Int)) (n := (cells.length : Int)) rfl rfl rfl ?_
        refine L_nil ?_
        refine W_cond (b := decide ((i_6 : Int) < (cells.length : Int))) rfl (fun hc8 => ?_) (fun hc8 => ?_)
        ·
          have hlt7 := of_decide_eq_true hc8
          cases suf7 with
          | nil => exact absurd hlt7 (by simp at hl7; omega)
          | cons x_7 rest7 =>
            obtain ⟨o7, hB7, hL7⟩ := range_cons hL7
            rw [s_l6Cells_b1] at hB7
            have hix7 := drop_idx hd7
            refine W_skip ?_
            refine W_seq ?_
            refine W_block ?_
            refine W_seq ?_
            obtain ⟨b16, hb16, hB7⟩ := bind_some hB7
            obtain ⟨R18, hR18⟩ : ∃ R : Fr → World → Prop, R = fun f w_ => f 1 = v1 ∧ f 2 = .pointer (some ⟨g3, 0, none⟩) ∧ f 5 = .int .i64 (i_6 : Int) ∧ f 34 = .bool b16 ∧ (RP.slice 3 RP.int).rel B w.heap.size w_ [v1] cells ∧ (RP.slice 3 RP.int).rel B w.heap.size w_ [v0_0] m.sizes ∧ (RP.slice 36 (rRule 3 23)).rel B w.heap.size w_ [v0_1] m.rules ∧ Blk w_ g3 26 #[v0_0, v0_1] ∧ Ext w w_ := ⟨_, rfl⟩
            refine W_join R18 ?_ ?_
            ·
              rcases Bool.eq_false_or_eq_true (decide (x_7 < 0)) with hc19 | hc19
              ·
                rw [ite_t hc19] at hb16
                refine W_drawL 15 [isV (v1), isV (.int .i64 (i_6 : Int)), isEl B RP.int x_7 0, isV (.int .i64 x_7), isV (.bool (decide (x_7 < 0))), isV (.bool (decide (x_7 < 0))), isV (undef), isV (undef), isV (undef), isV (undef), isV (undef), isV (undef), isV (undef), isV (undef), isV (undef)] Try_mix (by kernel_rfl) (am_cons (mono_V _) (am_cons (mono_V _) (am_cons (mono_el _ _ _ _) (am_cons (mono_V _) (am_cons (mono_V _) (am_cons (mono_V _) (am_cons (mono_V _) (am_cons (mono_V _) (am_cons (mono_V _) (am_cons (mono_V _) (am_cons (mono_V _) (am_cons (mono_V _) (am_cons (mono_V _) (am_cons (mono_V _) (am_cons (mono_V _) am_nil))))))))))))))) ?_ (fun f w_ hS17 hE17 hT17 => ?_)
                ·
                  refine ops_cons (fun f w_ hS17 hE17 hP17 => ?_) ?_
                  ·
                    have hx := ext_trans hx hE17
                    have h1 := RP.ext h1 hE17
                    refine L_mv (v := v1) rfl ((hS17 1 rfl).trans sf1) ?_
                    exact L_nil ⟨rfl, (ext_refl _), _, _, rfl, rfl, rfl⟩
                  refine ops_cons (fun f w_ hS17 hE17 hP17 => ?_) ?_
                  ·
                    have hx := ext_trans hx hE17
                    refine L_mv (v := .int .i64 (i_6 : Int)) rfl ((hS17 5 rfl).trans sf5) ?_
                    exact L_nil ⟨rfl, (ext_refl _), _, _, rfl, rfl, rfl⟩
                  refine ops_cons (fun f w_ hS17 hE17 hP17 => ?_) ?_
                  ·
                    have hx := ext_trans hx hE17
                    have h1 := RP.ext h1 hE17
                    refine L_ix (r := RP.int) rfl Try.underlying23 Try.sizeOf3 (hP17 0 18 rfl rfl) h1 (hP17 1 19 rfl rfl) hix7 ?_
                    intro g22 o23 cs23 hr23 hat23
                    obtain rfl : _ = [_] := hr23
                    exact L_nil ⟨rfl, (ext_refl _), _, _, rfl, rfl, ⟨_, _, _, rfl, rfl, hat23⟩⟩
                  refine ops_cons (fun f w_ hS17 hE17 hP17 => ?_) ?_
                  ·
                    have hx := ext_trans hx hE17
                    obtain ⟨g24, o24, cs24, hv24, hr24, hat24⟩ := (hP17 2 20 rfl rfl)
                    obtain rfl : _ = [_] := hr24
                    refine L_ld (v := .int .i64 x_7) rfl Try.isAgg3 hv24 (hat24.cell (j := 0) rfl) ?_
                    exact L_nil ⟨rfl, (ext_refl _), _, _, rfl, rfl, rfl⟩
                  refine ops_cons (fun f w_ hS17 hE17 hP17 => ?_) ?_
                  ·
                    have hx := ext_trans hx hE17
                    refine L_lss (m := x_7) (n := 0) rfl (hP17 3 21 rfl rfl) rfl ?_
                    exact L_nil ⟨rfl, (ext_refl _), _, _, rfl, rfl, rfl⟩
                  refine ops_cons (fun f w_ hS17 hE17 hP17 => ?_) ?_
                  ·
                    have hx := ext_trans hx hE17
                    refine L_mv (v := .bool (decide (x_7 < 0))) rfl (hP17 4 22 rfl rfl) ?_
                    exact L_nil ⟨rfl, (ext_refl _), _, _, rfl, rfl, rfl⟩
                  refine ops_cons (fun f w_ hS17 hE17 hP17 => ?_) ?_
                  ·
                    have hx := ext_trans hx hE17
                    have h1 := RP.ext h1 hE17
                    refine L_pass (g_no rfl (Eq.trans (hP17 5 23 rfl rfl) (congrArg Value.bool hc19)) rfl rfl) ?_
                    exact L_nil ⟨rfl, (ext_refl _), _, _, rfl, rfl, rfl⟩
                  refine ops_cons (fun f w_ hS17 hE17 hP17 => ?_) ?_
                  ·
                    have hx := ext_trans hx hE17
                    refine L_pass (g_no rfl (Eq.trans (hP17 5 23 rfl rfl) (congrArg Value.bool hc19)) rfl rfl) ?_
                    exact L_nil ⟨rfl, (ext_refl _), _, _, rfl, rfl, rfl⟩
                  refine ops_cons (fun f w_ hS17 hE17 hP17 => ?_) ?_
                  ·
                    have hx := ext_trans hx hE17
                    refine L_pass (g_no rfl (Eq.trans (hP17 5 23 rfl rfl) (congrArg Value.bool hc19)) rfl rfl) ?_
                    exact L_nil ⟨rfl, (ext_refl _), _, _, rfl, rfl, rfl⟩
                  refine ops_cons (fun f w_ hS17 hE17 hP17 => ?_) ?_
                  ·
                    have hx := ext_trans hx hE17
                    refine L_pass (g_no rfl (Eq.trans (hP17 5 23 rfl rfl) (congrArg Value.bool hc19)) rfl rfl) ?_
                    exact L_nil ⟨rfl, (ext_refl _), _, _, rfl, rfl, rfl⟩
                  refine ops_cons (fun f w_ hS17 hE17 hP17 => ?_) ?_
                  ·
                    have hx := ext_trans hx hE17
                    have h0_0 := RP.ext h0_0 hE17
                    have h0_1 := RP.ext h0_1 hE17
                    have hb_g3 := Blk.ext hb_g3 hE17
                    refine L_pass (g_no rfl (Eq.trans (hP17 5 23 rfl rfl) (congrArg Value.bool hc19)) rfl rfl) ?_
                    exact L_nil ⟨rfl, (ext_refl _), _, _, rfl, rfl, rfl⟩
                  refine ops_cons (fun f w_ hS17 hE17 hP17 => ?_) ?_
                  ·
                    have hx := ext_trans hx hE17
                    refine L_pass (g_no rfl (Eq.trans (hP17 5 23 rfl rfl) (congrArg Value.bool hc19)) rfl rfl) ?_
                    exact L_nil ⟨rfl, (ext_refl _), _, _, rfl, rfl, rfl⟩
                  refine ops_cons (fun f w_ hS17 hE17 hP17 => ?_) ?_
                  ·
                    have hx := ext_trans hx hE17
                    refine L_pass (g_no rfl (Eq.trans (hP17 5 23 rfl rfl) (congrArg Value.bool hc19)) rfl rfl) ?_
                    exact L_nil ⟨rfl, (ext_refl _), _, _, rfl, rfl, rfl⟩
                  refine ops_cons (fun f w_ hS17 hE17 hP17 => ?_) ?_
                  ·
                    have hx := ext_trans hx hE17
                    refine L_pass (g_no rfl (Eq.trans (hP17 5 23 rfl rfl) (congrArg Value.bool hc19)) rfl rfl) ?_
                    exact L_nil ⟨rfl, (ext_refl _), _, _, rfl, rfl, rfl⟩
                  refine ops_cons (fun f w_ hS17 hE17 hP17 => ?_) ?_
                  ·
                    have hx := ext_trans hx hE17
                    refine L_pass (g_no rfl (Eq.trans (hP17 5 23 rfl rfl) (congrArg Value.bool hc19)) rfl rfl) ?_
                    exact L_nil ⟨rfl, (ext_refl _), _, _, rfl, rfl, rfl⟩
                  exact ops_nil
                ·
                  have h1 := RP.ext h1 hE17
                  have h0_0 := RP.ext h0_0 hE17
                  have h0_1 := RP.ext h0_1 hE17
                  have hb_g3 := Blk.ext hb_g3 hE17
                  have hx := ext_trans hx hE17
                  refine L_pass (g_no rfl (Eq.trans (hT17 5 23 rfl rfl) (congrArg Value.bool hc19)) rfl rfl) ?_
                  refine L_pick (v := .bool b16) rfl (Eq.trans (hT17 5 23 rfl rfl) (congrArg Value.bool hc19)) (congrArg Value.bool (so hb16)) ?_
                  refine L_nil ?_
                  show R18 _ _
                  rw [hR18]
                  exact ⟨((hS17 1 rfl).trans sf1), ((hS17 2 rfl).trans sf2), ((hS17 5 rfl).trans sf5), rfl, h1, h0_0, h0_1, hb_g3, hx⟩
              ·
                rw [ite_f hc19] at hb16
                obtain ⟨x13, hx13, hb16⟩ := bind_some hb16
                refine W_drawL 15 [isV (v1), isV (.int .i64 (i_6 : Int)), isEl B RP.int x_7 0, isV (.int .i64 x_7), isV (.bool (decide (x_7 < 0))), isV (.bool (decide (x_7 < 0))), isV (v1), isV (.int .i64 (i_6 : Int)), isEl B RP.int x_7 0, isV (.int .i64 x_7), isV (.pointer (some ⟨g3, 0, none⟩)), isV (v0_0), isV (.int .i64 (i_6 : Int)), isEl B RP.int x13 0, isV (.int .i64 x13)] Try_mix (by kernel_rfl) (am_cons (mono_V _) (am_cons (mono_V _) (am_cons (mono_el _ _ _ _) (am_cons (mono_V _) (am_cons (mono_V _) (am_cons (mono_V _) (am_cons (mono_V _) (am_cons (mono_V _) (am_cons (mono_el _ _ _ _) (am_cons (mono_V _) (am_cons (mono_V _) (am_cons (mono_V _) (am_cons (mono_V _) (am_cons (mono_el _ _ _ _) (am_cons (mono_V _) am_nil))))))))))))))) ?_ (fun f w_ hS17 hE17 hT17 => ?_)
                ·
                  refine ops_cons (fun f w_ hS17 hE17 hP17 => ?_) ?_
                  ·
                    have hx := ext_trans hx hE17
                    have h1 := RP.ext h1 hE17
                    refine L_mv (v := v1) rfl ((hS17 1 rfl).trans sf1) ?_
                    exact L_nil ⟨rfl, (ext_refl _), _, _, rfl, rfl, rfl⟩
                  refine ops_cons (fun f w_ hS17 hE17 hP17 => ?_) ?_
                  ·
                    have hx := ext_trans hx hE17
                    refine L_mv (v := .int .i64 (i_6 : Int)) rfl ((hS17 5 rfl).trans sf5) ?_
                    exact L_nil ⟨rfl, (ext_refl _), _, _, rfl, rfl, rfl⟩
                  refine ops_cons (fun f w_ hS17 hE17 hP17 => ?_) ?_
                  ·
                    have hx := ext_trans hx hE17
                    have h1 := RP.ext h1 hE17
                    refine L_ix (r := RP.int) rfl Try.underlying23 Try.sizeOf3 (hP17 0 18 rfl rfl) h1 (hP17 1 19 rfl rfl) hix7 ?_
                    intro g31 o32 cs32 hr32 hat32
                    obtain rfl : _ = [_] := hr32
                    exact L_nil ⟨rfl, (ext_refl _), _, _, rfl, rfl, ⟨_, _, _, rfl, rfl, hat32⟩⟩
                  refine ops_cons (fun f w_ hS17 hE17 hP17 => ?_) ?_
                  ·
                    have hx := ext_trans hx hE17
                    obtain ⟨g33, o33, cs33, hv33, hr33, hat33⟩ := (hP17 2 20 rfl rfl)
                    obtain rfl : _ = [_] := hr33
                    refine L_ld (v := .int .i64 x_7) rfl Try.isAgg3 hv33 (hat33.cell (j := 0) rfl) ?_
                    exact L_nil ⟨rfl, (ext_refl _), _, _, rfl, rfl, rfl⟩
                  refine ops_cons (fun f w_ hS17 hE17 hP17 => ?_) ?_
                  ·
                    have hx := ext_trans hx hE17
                    refine L_lss (m := x_7) (n := 0) rfl (hP17 3 21 rfl rfl) rfl ?_
                    exact L_nil ⟨rfl, (ext_refl _), _, _, rfl, rfl, rfl⟩
                  refine ops_cons (fun f w_ hS17 hE17 hP17 => ?_) ?_
                  ·
                    have hx := ext_trans hx hE17
                    refine L_mv (v := .bool (decide (x_7 < 0))) rfl (hP17 4 22 rfl rfl) ?_
                    exact L_nil ⟨rfl, (ext_refl _), _, _, rfl, rfl, rfl⟩
                  refine ops_cons (fun f w_ hS17 hE17 hP17 => ?_) ?_
                  ·
                    have hx := ext_trans hx hE17
                    have h1 := RP.ext h1 hE17
                    refine L_mv (v := v1) (g_yes rfl (Eq.trans (hP17 5 23 rfl rfl) (congrArg Value.bool hc19)) rfl) ((hS17 1 rfl).trans sf1) ?_
                    exact L_nil ⟨rfl, (ext_refl _), _, _, rfl, rfl, rfl⟩
                  refine ops_cons (fun f w_ hS17 hE17 hP17 => ?_) ?_
                  ·
                    have hx := ext_trans hx hE17
                    refine L_mv (v := .int .i64 (i_6 : Int)) (g_yes rfl (Eq.trans (hP17 5 23 rfl rfl) (congrArg Value.bool hc19)) rfl) ((hS17 5 rfl).trans sf5) ?_
                    exact L_nil ⟨rfl, (ext_refl _), _, _, rfl, rfl, rfl⟩
                  refine ops_cons (fun f w_ hS17 hE17 hP17 => ?_) ?_
                  ·
                    have hx := ext_trans hx hE17
                    have h1 := RP.ext h1 hE17
                    refine L_ix (r := RP.int) (g_yes rfl (Eq.trans (hP17 5 23 rfl rfl) (congrArg Value.bool hc19)) rfl) Try.underlying23 Try.sizeOf3 (hP17 6 24 rfl rfl) h1 (hP17 7 25 rfl rfl) hix7 ?_
                    intro g34 o35 cs35 hr35 hat35
                    obtain rfl : _ = [_] := hr35
                    exact L_nil ⟨rfl, (ext_refl _), _, _, rfl, rfl, ⟨_, _, _, rfl, rfl, hat35⟩⟩
                  refine ops_cons (fun f w_ hS17 hE17 hP17 => ?_) ?_
                  ·
                    have hx := ext_trans hx hE17
                    obtain ⟨g36, o36, cs36, hv36, hr36, hat36⟩ := (hP17 8 26 rfl rfl)
                    obtain rfl : _ = [_] := hr36
                    refine L_ld (v := .int .i64 x_7) (g_yes rfl (Eq.trans (hP17 5 23 rfl rfl) (congrArg Value.bool hc19)) rfl) Try.isAgg3 hv36 (hat36.cell (j := 0) rfl) ?_
                    exact L_nil ⟨rfl, (ext_refl _), _, _, rfl, rfl, rfl⟩
                  refine ops_cons (fun f w_ hS17 hE17 hP17 => ?_) ?_
                  ·
                    have hx := ext_trans hx hE17
                    have h0_0 := RP.ext h0_0 hE17
                    have h0_1 := RP.ext h0_1 hE17
                    have hb_g3 := Blk.ext hb_g3 hE17
                    refine L_fa (o' := 0) (g_yes rfl (Eq.trans (hP17 5 23 rfl rfl) (congrArg Value.bool hc19)) rfl) fa_26_0 ((hS17 2 rfl).trans sf2) rfl ?_
                    exact L_nil ⟨rfl, (ext_refl _), _, _, rfl, rfl, rfl⟩
                  refine ops_cons (fun f w_ hS17 hE17 hP17 => ?_) ?_
                  ·
                    have hx := ext_trans hx hE17
                    have h0_0 := RP.ext h0_0 hE17
                    have h0_1 := RP.ext h0_1 hE17
                    have hb_g3 := Blk.ext hb_g3 hE17
                    refine L_ld (v := v0_0) (g_yes rfl (Eq.trans (hP17 5 23 rfl rfl) (congrArg Value.bool hc19)) rfl) Try.isAgg23 (hP17 10 28 rfl rfl) (hb_g3.cell (j := 0) rfl) ?_
                    exact L_nil ⟨rfl, (ext_refl _), _, _, rfl, rfl, rfl⟩
                  refine ops_cons (fun f w_ hS17 hE17 hP17 => ?_) ?_
                  ·
                    have hx := ext_trans hx hE17
                    refine L_mv (v := .int .i64 (i_6 : Int)) (g_yes rfl (Eq.trans (hP17 5 23 rfl rfl) (congrArg Value.bool hc19)) rfl) ((hS17 5 rfl).trans sf5) ?_
                    exact L_nil ⟨rfl, (ext_refl _), _, _, rfl, rfl, rfl⟩
                  refine ops_cons (fun f w_ hS17 hE17 hP17 => ?_) ?_
                  ·
                    have hx := ext_trans hx hE17
                    have h0_0 := RP.ext h0_0 hE17
                    refine L_ix (r := RP.int) (g_yes rfl (Eq.trans (hP17 5 23 rfl rfl) (congrArg Value.bool hc19)) rfl) Try.underlying23 Try.sizeOf3 (hP17 11 29 rfl rfl) h0_0 (hP17 12 30 rfl rfl) hx13 ?_
                    intro g37 o38 cs38 hr38 hat38
                    obtain rfl : _ = [_] := hr38
                    exact L_nil ⟨rfl, (ext_refl _), _, _, rfl, rfl, ⟨_, _, _, rfl, rfl, hat38⟩⟩
                  refine ops_cons (fun f w_ hS17 hE17 hP17 => ?_) ?_
                  ·
                    have hx := ext_trans hx hE17
                    obtain ⟨g39, o39, cs39, hv39, hr39, hat39⟩ := (hP17 13 31 rfl rfl)
                    obtain rfl : _ = [_] := hr39
                    refine L_ld (v := .int .i64 x13) (g_yes rfl (Eq.trans (hP17 5 23 rfl rfl) (congrArg Value.bool hc19)) rfl) Try.isAgg3 hv39 (hat39.cell (j := 0) rfl) ?_
                    exact L_nil ⟨rfl, (ext_refl _), _, _, rfl, rfl, rfl⟩
                  exact ops_nil
                ·
                  have h1 := RP.ext h1 hE17
                  have h0_0 := RP.ext h0_0 hE17
                  have h0_1 := RP.ext h0_1 hE17
                  have hb_g3 := Blk.ext hb_g3 hE17
                  have hx := ext_trans hx hE17
                  refine L_gtr (m := x_7) (n := x13) (g_yes rfl (Eq.trans (hT17 5 23 rfl rfl) (congrArg Value.bool hc19)) rfl) (hT17 9 27 rfl rfl) (hT17 14 32 rfl rfl) ?_
                  refine L_pick (v := .bool b16) rfl (Eq.trans (hT17 5 23 rfl rfl) (congrArg Value.bool hc19)) (congrArg Value.bool (so hb16)) ?_
                  refine L_nil ?_
                  show R18 _ _
                  rw [hR18]
                  exact ⟨((hS17 1 rfl).trans sf1), ((hS17 2 rfl).trans sf2), ((hS17 5 rfl).trans sf5), rfl, h1, h0_0, h0_1, hb_g3, hx⟩
            ·
              intro f w_ hR
              rw [hR18] at hR
              obtain ⟨sf1, sf2, sf5, sf34, h1, h0_0, h0_1, hb_g3, hx⟩ := hR
              clear hR18
              refine W_cond (b := b16) sf34 (fun hc40 => ?_) (fun hc40 => ?_)
              ·
                have hB7 := (ite_t hc40).symm.trans hB7
                refine W_seq ?_
                refine W_region ?_
                refine L_as (v := .bool false) rfl rfl ?_
                refine L_nil ?_
                refine W_ret ?_
                obtain rfl := so hB7
                obtain rfl := so hL7
                obtain rfl := so hF
                refine ret1 Try.results61 ?_
                exact ⟨rfl, hx⟩
              ·
                have hB7 := (ite_f hc40).symm.trans hB7
                refine W_skip ?_
                refine W_region ?_
                refine L_mv (v := .int .i64 (i_6 : Int)) rfl sf5 ?_
                refine L_add (m := (i_6 : Int)) (n := 1) rfl rfl rfl ?_
                refine L_as (v := .int .i64 (i64 ((i_6 : Int) + 1))) rfl rfl ?_
                refine L_nil ?_
                obtain rfl := so hB7
                show ∃ m, m < _ ∧ I7 m _ _
                refine ⟨rest7.length, by simp, ?_⟩
                rw [hI7]
                exact ⟨i_6 + 1, rest7, rfl, drop_next hd7, by simp at hl7; omega, hL7, sf1, sf2, (Eq.trans rfl (congrArg (Value.int .i64) (i64_succ (n := cells.length) (by simp at hl7; omega) hlen7))), h1, h0_0, h0_1, hb_g3, hx⟩
        ·
          cases suf7 with
          | cons _ _ => exact absurd (of_decide_eq_false hc8) (by simp at hl7; omega)
          | nil =>
            obtain rfl := range_nil hL7
            refine W_exit ?_
            show R7 _ _
            rw [hR7]
            exact ⟨rfl, hx⟩
    ·
      intro f w_ hR
      rw [hR7] at hR
      obtain ⟨rfl, hx⟩ := hR
      clear hR7
      refine W_seq ?_
      refine W_region ?_
      refine L_as (v := .bool true) rfl rfl ?_
      refine L_nil ?_
      refine W_ret ?_
      obtain rfl := so hF
      refine ret1 Try.results61 ?_
      exact ⟨rfl, hx⟩

theorem s_CellsValid_c {fu : Nat} {m : Model} {cells : List Int} {v0_0 : Value} {v0_1 : Value} {v1 : Value} {w : World} {B : Nat} (hB : B ≤ w.heap.size) (h0_0 : (RP.slice 3 RP.int).rel B w.heap.size w [v0_0] m.sizes) (h0_1 : (RP.slice 36 (rRule 3 23)).rel B w.heap.size w [v0_1] m.rules) (h1 : (RP.slice 3 RP.int).rel B w.heap.size w [v1] cells) {r : Bool} (hF : s_CellsValid fu m cells = some r) :
    C Try.prog 24 #[.agg #[v0_0, v0_1], v1] w fun v w' => (v = .bool r) ∧ Ext w w' := by
  unfold s_CellsValid at hF
  have hx := ext_refl w
  refine C_enter Try.func24 rfl Try.ntmps24 rfl ?_
  refine W_seq ?_
  refine W_region ?_
  refine L_box (v := .agg #[v0_0, v0_1]) (cs := #[v0_0, v0_1]) rfl rfl rfl ?_
  intro g3 w4 hn4
  have hge_g3 := hn4.geS hx.size
  have hb_g3 := hn4.blk
  have h0_0 := RP.ext h0_0 hn4.ext
  have h0_1 := RP.ext h0_1 hn4.ext
  have h1 := RP.ext h1 hn4.ext
  have hx := ext_trans hx hn4.ext
  refine L_as (v := .bool false) rfl rfl ?_
  refine L_nil ?_
  refine W_seq ?_
  obtain ⟨x5, hx5, hF⟩ := bind_some hF
  obtain ⟨b9, hb9, hF⟩ := bind_some hF
  obtain ⟨R10, hR10⟩ : ∃ R : Fr → World → Prop, R = fun f w_ => f 4 = .bool b9 ∧ Ext w w_ := ⟨_, rfl⟩
  refine W_join R10 ?_ ?_
  ·
    refine W_region ?_
    refine L_lda (cs := [v0_0, v0_1]) rfl Try.isAgg26 Try.sizeOf26 rfl (Blk.sub hb_g3 0 2) rfl ?_
    refine L_call (args := #[.agg #[v0_0, v0_1]]) rfl Try.call52 (ops1 rfl) (s_ModelValid_c (m := m) (Nat.le_trans hB hx.size) (rel0 h0_0) (rel0 h0_1) hx5) ?_
    rintro _ w11 ⟨rfl, he11⟩
    have h0_0 := RP.ext h0_0 he11
    have h0_1 := RP.ext h0_1 he11
    have h1 := RP.ext h1 he11
    have hb_g3 := Blk.ext hb_g3 he11
    have hx := ext_trans hx he11
    refine L_mv (v := .bool x5) rfl rfl ?_
    refine L_split (d := 7) (b := x5) rfl (fun hc12 => ?_) (fun hc12 => ?_)
    ·
      rw [ite_t hc12] at hb9
      obtain ⟨x7, hx7, hb9⟩ := bind_some hb9
      refine L_lda (cs := [v0_0, v0_1]) rfl Try.isAgg26 Try.sizeOf26 rfl (Blk.sub hb_g3 0 2) rfl ?_
      refine L_mv (v := v1) rfl rfl ?_
      refine L_call (args := #[.agg #[v0_0, v0_1], v1]) rfl Try.call61 (ops2 rfl rfl) (s_l6Cells_c (m := m) (cells := cells) (Nat.le_trans hB hx.size) (rel0 h0_0) (rel0 h0_1) (rel0 h1) hx7) ?_
      rintro _ w13 ⟨rfl, he13⟩
      have h0_0 := RP.ext h0_0 he13
      have h0_1 := RP.ext h0_1 he13
      have h1 := RP.ext h1 he13
      have hx := ext_trans hx he13
      refine L_pick (v := .bool b9) rfl rfl (congrArg Value.bool (so hb9)) ?_
      refine L_as (v := .bool b9) rfl rfl ?_
      refine L_nil ?_
      show R10 _ _
      rw [hR10]
      exact ⟨rfl, hx⟩
    ·
      rw [ite_f hc12] at hb9
      refine L_pass rfl ?_
      refine L_pass rfl ?_
      refine L_pass rfl ?_
      refine L_pick (v := .bool b9) rfl rfl (congrArg Value.bool (so hb9)) ?_
      refine L_as (v := .bool b9) rfl rfl ?_
      refine L_nil ?_
      show R10 _ _
      rw [hR10]
      exact ⟨rfl, hx⟩
  ·
    intro f w_ hR
    rw [hR10] at hR
    obtain ⟨sf4, hx⟩ := hR
    clear hR10
    refine W_ret ?_
    obtain rfl := so hF
    refine ret1 Try.results24 ?_
    exact ⟨sf4, hx⟩

theorem s_l6Ints_c {a : List Int} {b : List Int} {v0 : Value} {v1 : Value} {w : World} {B : Nat} (hB : B ≤ w.heap.size) (h0 : (RP.slice 3 RP.int).rel B w.heap.size w [v0] a) (h1 : (RP.slice 3 RP.int).rel B w.heap.size w [v1] b) {r : Bool} (hF : s_l6Ints a b = some r) :
    C Try.prog 84 #[v0, v1] w fun v w' => (v = .bool r) ∧ Ext w w' := by
  unfold s_l6Ints at hF
  have hx := ext_refl w
  refine C_enter Try.func84 rfl Try.ntmps84 rfl ?_
  refine W_seq ?_
  refine W_region ?_
  refine L_as (v := .bool false) rfl rfl ?_
  refine L_nil ?_
  refine W_seq ?_
  refine W_seq ?_
  refine W_region ?_
  refine L_mv (v := v0) rfl rfl ?_
  refine L_len (v := v0) rfl Try.underlying23 rfl h0 ?_
  refine L_mv (v := v1) rfl rfl ?_
  refine L_len (v := v1) rfl Try.underlying23 rfl h1 ?_
  refine L_neq (m := (a.length : Int)) (n := (b.length : Int)) rfl rfl rfl ?_
  refine L_nil ?_
  refine W_cond (b := ((a.length : Int) != (b.length : Int))) rfl (fun hc1 => ?_) (fun hc1 => ?_)
  ·
    have hF := (ite_t hc1).symm.trans hF
    refine W_seq ?_
    refine W_region ?_
    refine L_as (v := .bool false) rfl rfl ?_
    refine L_nil ?_
    refine W_ret ?_
    obtain rfl := so hF
    refine ret1 Try.results84 ?_
    exact ⟨rfl, hx⟩
  ·
    have hF := (ite_f hc1).symm.trans hF
    refine W_skip ?_
    refine W_seq ?_
    refine W_seq ?_
    refine W_region ?_
    refine L_as (v := .int .i64 0) rfl rfl ?_
    refine L_nil ?_
    have hlen3 := len_le h0
    obtain ⟨j3, hL3, hF⟩ := bind_some hF
    obtain ⟨R3, hR3⟩ : ∃ R : Fr → World → Prop, R = fun f w_ => j3 = .nx () ∧ Ext w w_ := ⟨_, rfl⟩
    refine W_join R3 ?_ ?_
    ·
      refine W_block ?_
      obtain ⟨I3, hI3⟩ : ∃ I : Nat → Fr → World → Prop, I = fun n f w_ => ∃ i_2 : Nat, ∃ suf3 : List Int, n = suf3.length ∧ List.drop i_2 a = suf3 ∧ i_2 + suf3.length = a.length ∧ rangeL (s_l6Ints_b1 b) suf3 i_2 () = some j3 ∧ f 0 = v0 ∧ f 1 = v1 ∧ f 5 = .int .i64 (i_2 : Int) ∧ (RP.slice 3 RP.int).rel B w.heap.size w_ [v0] a ∧ (RP.slice 3 RP.int).rel B w.heap.size w_ [v1] b ∧ Ext w w_ := ⟨_, rfl⟩
      refine W_loop I3 (n := a.length) ?_ ?_
      · rw [hI3]; exact ⟨0, a, rfl, rfl, Nat.zero_add _, hL3, rfl, rfl, rfl, h0, h1, hx⟩
      ·
        intro n3 f w_ hI
        rw [hI3] at hI
        obtain ⟨i_2, suf3, rfl, hd3, hl3, hL3, sf0, sf1, sf5, h0, h1, hx⟩ := hI
        refine W_seq ?_
        refine W_seq ?_
        refine W_region ?_
        refine L_mv (v := .int .i64 (i_2 : Int)) rfl sf5 ?_
        refine L_mv (v := v0) rfl sf0 ?_
        refine L_len (v := v0) rfl Try.underlying23 rfl h0 ?_
        refine L_lss (m := (i_2 : Int)) (n := (a.length : Int)) rfl rfl rfl ?_
        refine L_nil ?_
        refine W_cond (b := decide ((i_2 : Int) < (a.length : Int))) rfl (fun hc4 => ?_) (fun hc4 => ?_)
        ·
          have hlt3 := of_decide_eq_true hc4
          cases suf3 with
          | nil => exact absurd hlt3 (by simp at hl3; omega)
          | cons x_3 rest3 =>
            obtain ⟨o3, hB3, hL3⟩ := range_cons hL3
            rw [s_l6Ints_b1] at hB3
            have hix3 := drop_idx hd3
            refine W_skip ?_
            refine W_seq ?_
            refine W_block ?_
            refine W_seq ?_
            obtain ⟨x7, hx7, hB3⟩ := bind_some hB3
            refine W_drawL 8 [isV (v0), isV (.int .i64 (i_2 : Int)), isEl B RP.int x_3 0, isV (.int .i64 x_3), isV (v1), isV (.int .i64 (i_2 : Int)), isEl B RP.int x7 0, isV (.int .i64 x7)] Try_mix (by kernel_rfl) (am_cons (mono_V _) (am_cons (mono_V _) (am_cons (mono_el _ _ _ _) (am_cons (mono_V _) (am_cons (mono_V _) (am_cons (mono_V _) (am_cons (mono_el _ _ _ _) (am_cons (mono_V _) am_nil)))))))) ?_ (fun f w_ hS10 hE10 hT10 => ?_)
            ·
              refine ops_cons (fun f w_ hS10 hE10 hP10 => ?_) ?_
              ·
                have hx := ext_trans hx hE10
                have h0 := RP.ext h0 hE10
                refine L_mv (v := v0) rfl ((hS10 0 rfl).trans sf0) ?_
                exact L_nil ⟨rfl, (ext_refl _), _, _, rfl, rfl, rfl⟩
              refine ops_cons (fun f w_ hS10 hE10 hP10 => ?_) ?_
              ·
                have hx := ext_trans hx hE10
                refine L_mv (v := .int .i64 (i_2 : Int)) rfl ((hS10 5 rfl).trans sf5) ?_
                exact L_nil ⟨rfl, (ext_refl _), _, _, rfl, rfl, rfl⟩
              refine ops_cons (fun f w_ hS10 hE10 hP10 => ?_) ?_
              ·
                have hx := ext_trans hx hE10
                have h0 := RP.ext h0 hE10
                refine L_ix (r := RP.int) rfl Try.underlying23 Try.sizeOf3 (hP10 0 17 rfl rfl) h0 (hP10 1 18 rfl rfl) hix3 ?_
                intro g15 o16 cs16 hr16 hat16
                obtain rfl : _ = [_] := hr16
                exact L_nil ⟨rfl, (ext_refl _), _, _, rfl, rfl, ⟨_, _, _, rfl, rfl, hat16⟩⟩
              refine ops_cons (fun f w_ hS10 hE10 hP10 => ?_) ?_
              ·
                have hx := ext_trans hx hE10
                obtain ⟨g17, o17, cs17, hv17, hr17, hat17⟩ := (hP10 2 19 rfl rfl)
                obtain rfl : _ = [_] := hr17
                refine L_ld (v := .int .i64 x_3) rfl Try.isAgg3 hv17 (hat17.cell (j := 0) rfl) ?_
                exact L_nil ⟨rfl, (ext_refl _), _, _, rfl, rfl, rfl⟩
              refine ops_cons (fun f w_ hS10 hE10 hP10 => ?_) ?_
              ·
                have hx := ext_trans hx hE10
                have h1 := RP.ext h1 hE10
                refine L_mv (v := v1) rfl ((hS10 1 rfl).trans sf1) ?_
                exact L_nil ⟨rfl, (ext_refl _), _, _, rfl, rfl, rfl⟩
              refine ops_cons (fun f w_ hS10 hE10 hP10 => ?_) ?_
              ·
                have hx := ext_trans hx hE10
                refine L_mv (v := .int .i64 (i_2 : Int)) rfl ((hS10 5 rfl).trans sf5) ?_
                exact L_nil ⟨rfl, (ext_refl _), _, _, rfl, rfl, rfl⟩
              refine ops_cons (fun f w_ hS10 hE10 hP10 => ?_) ?_
              ·
                have hx := ext_trans hx hE10
                have h1 := RP.ext h1 hE10
                refine L_ix (r := RP.int) rfl Try.underlying23 Try.sizeOf3 (hP10 4 21 rfl rfl) h1 (hP10 5 22 rfl rfl) hx7 ?_
                intro g18 o19 cs19 hr19 hat19
                obtain rfl : _ = [_] := hr19
                exact L_nil ⟨rfl, (ext_refl _), _, _, rfl, rfl, ⟨_, _, _, rfl, rfl, hat19⟩⟩
              refine ops_cons (fun f w_ hS10 hE10 hP10 => ?_) ?_
              ·
                have hx := ext_trans hx hE10
                obtain ⟨g20, o20, cs20, hv20, hr20, hat20⟩ := (hP10 6 23 rfl rfl)
                obtain rfl : _ = [_] := hr20
                refine L_ld (v := .int .i64 x7) rfl Try.isAgg3 hv20 (hat20.cell (j := 0) rfl) ?_
                exact L_nil ⟨rfl, (ext_refl _), _, _, rfl, rfl, rfl⟩
              exact ops_nil
            ·
              have h0 := RP.ext h0 hE10
              have h1 := RP.ext h1 hE10
              have hx := ext_trans hx hE10
              refine L_neq (m := x_3) (n := x7) rfl (hT10 3 20 rfl rfl) (hT10 7 24 rfl rfl) ?_
              refine L_nil ?_
              refine W_cond (b := (x_3 != x7)) rfl (fun hc21 => ?_) (fun hc21 => ?_)
              ·
                have hB3 := (ite_t hc21).symm.trans hB3
                refine W_seq ?_
                refine W_region ?_
                refine L_as (v := .bool false) rfl rfl ?_
                refine L_nil ?_
                refine W_ret ?_
                obtain rfl := so hB3
                obtain rfl := so hL3
                obtain rfl := so hF
                refine ret1 Try.results84 ?_
                exact ⟨rfl, hx⟩
              ·
                have hB3 := (ite_f hc21).symm.trans hB3
                refine W_skip ?_
                refine W_region ?_
                refine L_mv (v := .int .i64 (i_2 : Int)) rfl ((hS10 5 rfl).trans sf5) ?_
                refine L_add (m := (i_2 : Int)) (n := 1) rfl rfl rfl ?_
                refine L_as (v := .int .i64 (i64 ((i_2 : Int) + 1))) rfl rfl ?_
                refine L_nil ?_
                obtain rfl := so hB3
                show ∃ m, m < _ ∧ I3 m _ _
                refine ⟨rest3.length, by simp, ?_⟩
                rw [hI3]
                exact ⟨i_2 + 1, rest3, rfl, drop_next hd3, by simp at hl3; omega, hL3, ((hS10 0 rfl).trans sf0), ((hS10 1 rfl).trans sf1), (Eq.trans rfl (congrArg (Value.int .i64) (i64_succ (n := a.length) (by simp at hl3; omega) hlen3))), h0, h1, hx⟩
        ·
          cases suf3 with
          | cons _ _ => exact absurd (of_decide_eq_false hc4) (by simp at hl3; omega)
          | nil =>
            obtain rfl := range_nil hL3
            refine W_exit ?_
            show R3 _ _
            rw [hR3]
            exact ⟨rfl, hx⟩
    ·
      intro f w_ hR
      rw [hR3] at hR
      obtain ⟨rfl, hx⟩ := hR
      clear hR3
      refine W_seq ?_
      refine W_region ?_
      refine L_as (v := .bool true) rfl rfl ?_
      refine L_nil ?_
      refine W_ret ?_
      obtain rfl := so hF
      refine ret1 Try.results84 ?_
      exact ⟨rfl, hx⟩

end Go.Proofs.Ytcjjfneofcpmfaa

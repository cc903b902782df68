/- Part of a proof by program: W4. -/
import Derived.Test.YtcjjfneofcpmfaaD1
import Derived.Test.YtcjjfneofcpmfaaW3
namespace Go.Proofs.Ytcjjfneofcpmfaa
open Go Go.E Go.L Go.RowKit
set_option linter.unusedVariables false
set_option linter.unusedSimpArgs false
set_option maxRecDepth 100000

theorem s_l6Holds_c {r_ : Rule} {cells : List Int} {v0_1 : Value} {v0_2 : Value} {v0_4 : Value} {v1 : Value} {w : World} {B : Nat} (hB : B ≤ w.heap.size) (h0_1 : (RP.slice 3 RP.int).rel B w.heap.size w [v0_1] r_.vars) (h0_2 : (RP.slice 3 RP.int).rel B w.heap.size w [v0_2] r_.coefs) (h0_4 : (RP.slice 23 (RP.slice 3 RP.int)).rel B w.heap.size w [v0_4] r_.rows) (h1 : (RP.slice 3 RP.int).rel B w.heap.size w [v1] cells) {r : Bool} (hF : s_l6Holds r_ cells = some r) :
    C Try.prog 57 #[.agg #[.int .i64 r_.kind, v0_1, v0_2, .int .i64 r_.bound, v0_4], v1] w fun v w' => (v = .bool r) ∧ Ext w w' := by
  unfold s_l6Holds at hF
  have hx := ext_refl w
  refine C_enter Try.func57 rfl Try.ntmps57 rfl ?_
  refine W_seq ?_
  refine W_region ?_
  refine L_box (v := .agg #[.int .i64 r_.kind, v0_1, v0_2, .int .i64 r_.bound, v0_4]) (cs := #[.int .i64 r_.kind, v0_1, v0_2, .int .i64 r_.bound, v0_4]) rfl rfl rfl ?_
  intro g3 w4 hn4
  have hge_g3 := hn4.geS hx.size
  have hb_g3 := hn4.blk
  have h0_1 := RP.ext h0_1 hn4.ext
  have h0_2 := RP.ext h0_2 hn4.ext
  have h0_4 := RP.ext h0_4 hn4.ext
  have h1 := RP.ext h1 hn4.ext
  have hx := ext_trans hx hn4.ext
  refine L_as (v := .bool false) rfl rfl ?_
  refine L_nil ?_
  refine W_seq ?_
  refine W_region ?_
  refine L_bs rfl parts0 (bs_23_0  ) ?_
  intro g7 w8 hn8
  have ho8 : Own RP.int 3 w.heap.size B w8 _ _ := own_new0 hn8 hx.size
  have hz8 := zero_new hn8 hx.size
  have h0_1 := RP.ext h0_1 hn8.ext
  have h0_2 := RP.ext h0_2 hn8.ext
  have h0_4 := RP.ext h0_4 hn8.ext
  have h1 := RP.ext h1 hn8.ext
  have hb_g3 := Blk.ext hb_g3 hn8.ext
  have hx := ext_trans hx hn8.ext
  refine L_as (v := (.slice (some ⟨g7, 0, none⟩) 0 0)) rfl rfl ?_
  refine L_nil ?_
  refine W_seq ?_
  refine W_seq ?_
  refine W_region ?_
  refine L_as (v := .int .i64 0) rfl rfl ?_
  refine L_nil ?_
  have hlen11 := len_le h0_1
  obtain ⟨j11, hL11, hF⟩ := bind_some hF
  obtain ⟨R11, hR11⟩ : ∃ R : Fr → World → Prop, R = fun f w_ => ∃ list_10 : List Int, ∃ v10_list : Value, j11 = .nx list_10 ∧ f 2 = .pointer (some ⟨g3, 0, none⟩) ∧ f 5 = v10_list ∧ Own RP.int 3 w.heap.size B w_ v10_list list_10 ∧ (RP.slice 3 RP.int).rel B w.heap.size w_ [v0_1] r_.vars ∧ (RP.slice 3 RP.int).rel B w.heap.size w_ [v0_2] r_.coefs ∧ (RP.slice 23 (RP.slice 3 RP.int)).rel B w.heap.size w_ [v0_4] r_.rows ∧ Blk w_ g3 36 #[.int .i64 r_.kind, v0_1, v0_2, .int .i64 r_.bound, v0_4] ∧ Ext w w_ := ⟨_, rfl⟩
  refine W_join R11 ?_ ?_
  ·
    refine W_block ?_
    obtain ⟨I11, hI11⟩ : ∃ I : Nat → Fr → World → Prop, I = fun n f w_ => ∃ i_9 : Nat, ∃ suf11 : List Int, ∃ list_10 : List Int, ∃ v10_list : Value, n = suf11.length ∧ List.drop i_9 r_.vars = suf11 ∧ i_9 + suf11.length = r_.vars.length ∧ rangeL (s_l6Holds_b1 cells) suf11 i_9 list_10 = some j11 ∧ f 1 = v1 ∧ f 2 = .pointer (some ⟨g3, 0, none⟩) ∧ f 5 = v10_list ∧ f 6 = .int .i64 (i_9 : Int) ∧ (RP.slice 3 RP.int).rel B w.heap.size w_ [v1] cells ∧ Own RP.int 3 w.heap.size B w_ v10_list list_10 ∧ (RP.slice 3 RP.int).rel B w.heap.size w_ [v0_1] r_.vars ∧ (RP.slice 3 RP.int).rel B w.heap.size w_ [v0_2] r_.coefs ∧ (RP.slice 23 (RP.slice 3 RP.int)).rel B w.heap.size w_ [v0_4] r_.rows ∧ Blk w_ g3 36 #[.int .i64 r_.kind, v0_1, v0_2, .int .i64 r_.bound, v0_4] ∧ Ext w w_ := ⟨_, rfl⟩
    refine W_loop I11 (n := r_.vars.length) ?_ ?_
    · rw [hI11]; exact ⟨0, r_.vars, [], (.slice (some ⟨g7, 0, none⟩) 0 0), rfl, rfl, Nat.zero_add _, hL11, rfl, rfl, rfl, rfl, h1, ho8, h0_1, h0_2, h0_4, hb_g3, hx⟩
    ·
      intro n11 f w_ hI
      rw [hI11] at hI
      obtain ⟨i_9, suf11, list_10, v10_list, rfl, hd11, hl11, hL11, sf1, sf2, sf5, sf6, h1, hv10_list, h0_1, h0_2, h0_4, hb_g3, hx⟩ := hI
      refine W_seq ?_
      refine W_seq ?_
      refine W_region ?_
      refine L_mv (v := .int .i64 (i_9 : Int)) rfl sf6 ?_
      refine L_fa (o' := 1) rfl fa_36_1 sf2 rfl ?_
      refine L_ld (v := v0_1) rfl Try.isAgg23 rfl (hb_g3.cell (j := 1) rfl) ?_
      refine L_len (v := v0_1) rfl Try.underlying23 rfl h0_1 ?_
      refine L_lss (m := (i_9 : Int)) (n := (r_.vars.length : Int)) rfl rfl rfl ?_
      refine L_nil ?_
      refine W_cond (b := decide ((i_9 : Int) < (r_.vars.length : Int))) rfl (fun hc12 => ?_) (fun hc12 => ?_)
      ·
        have hlt11 := of_decide_eq_true hc12
        cases suf11 with
        | nil => exact absurd hlt11 (by simp at hl11; omega)
        | cons x_11 rest11 =>
          obtain ⟨o11, hB11, hL11⟩ := range_cons hL11
          rw [s_l6Holds_b1] at hB11
          have hix11 := drop_idx hd11
          refine W_skip ?_
          refine W_seq ?_
          refine W_block ?_
          obtain ⟨x15, hx15, hB11⟩ := bind_some hB11
          obtain ⟨x21, hx21, hB11⟩ := bind_some hB11
          refine W_region ?_
          refine L_mv (v := v10_list) rfl sf5 ?_
          refine L_mv (v := v1) rfl sf1 ?_
          refine L_fa (o' := 1) rfl fa_36_1 sf2 rfl ?_
          refine L_ld (v := v0_1) rfl Try.isAgg23 rfl (hb_g3.cell (j := 1) rfl) ?_
          refine L_mv (v := .int .i64 (i_9 : Int)) rfl sf6 ?_
          refine L_ix (r := RP.int) rfl Try.underlying23 Try.sizeOf3 rfl h0_1 rfl hix11 ?_
          intro g24 o25 cs25 hr25 hat25
          obtain rfl : _ = [_] := hr25
          refine L_ld (v := .int .i64 x_11) rfl Try.isAgg3 rfl (hat25.cell (j := 0) rfl) ?_
          refine L_ix (r := RP.int) rfl Try.underlying23 Try.sizeOf3 rfl h1 rfl hx15 ?_
          intro g26 o27 cs27 hr27 hat27
          obtain rfl : _ = [_] := hr27
          refine L_ld (v := .int .i64 x15) rfl Try.isAgg3 rfl (hat27.cell (j := 0) rfl) ?_
          refine L_bs rfl (parts1 rfl) (bs_23_1_0 (.int .i64 x15) rfl) ?_
          intro g28 w29 hn29
          have ho29 : Own RP.int 3 w.heap.size B w29 _ [x15] := own_new1 hn29 hx.size rfl
          have ap30 := ap_ob hv10_list hn29
          have h1 := RP.ext h1 hn29.ext
          have hv10_list := Own.ext hv10_list hn29.ext
          have h0_1 := RP.ext h0_1 hn29.ext
          have h0_2 := RP.ext h0_2 hn29.ext
          have h0_4 := RP.ext h0_4 hn29.ext
          have hb_g3 := Blk.ext hb_g3 hn29.ext
          have hx := ext_trans hx hn29.ext
          refine L_app (v := v10_list) (u := (.slice (some ⟨g28, 0, none⟩) 1 1)) rfl et_23 (by decide) rfl rfl hv10_list (rel0 (Own.rel ho29)) hx21 hx.size hB ?_
          intro v31 w31 ho31 hm31 hb31
          have h1 := hm31.rel_lo h1 (Nat.le_refl _)
          have h0_1 := hm31.rel_lo h0_1 (Nat.le_refl _)
          have h0_2 := hm31.rel_lo h0_2 (Nat.le_refl _)
          have h0_4 := hm31.rel_lo h0_4 (Nat.le_refl _)
          have hb_g3 := hm31.blk hb_g3 (by decide)
          have hx := ext_mut hx hm31 (Nat.le_refl _)
          refine L_as (v := v31) rfl rfl ?_
          refine L_nil ?_
          refine W_region ?_
          refine L_mv (v := .int .i64 (i_9 : Int)) rfl sf6 ?_
          refine L_add (m := (i_9 : Int)) (n := 1) rfl rfl rfl ?_
          refine L_as (v := .int .i64 (i64 ((i_9 : Int) + 1))) rfl rfl ?_
          refine L_nil ?_
          obtain rfl := so hB11
          show ∃ m, m < _ ∧ I11 m _ _
          refine ⟨rest11.length, by simp, ?_⟩
          rw [hI11]
          exact ⟨i_9 + 1, rest11, x21, v31, rfl, drop_next hd11, by simp at hl11; omega, hL11, sf1, sf2, rfl, (Eq.trans rfl (congrArg (Value.int .i64) (i64_succ (n := r_.vars.length) (by simp at hl11; omega) hlen11))), h1, ho31, h0_1, h0_2, h0_4, hb_g3, hx⟩
      ·
        cases suf11 with
        | cons _ _ => exact absurd (of_decide_eq_false hc12) (by simp at hl11; omega)
        | nil =>
          obtain rfl := range_nil hL11
          refine W_exit ?_
          show R11 _ _
          rw [hR11]
          exact ⟨list_10, v10_list, rfl, sf2, sf5, hv10_list, h0_1, h0_2, h0_4, hb_g3, hx⟩
  ·
    intro f w_ hR
    rw [hR11] at hR
    obtain ⟨list_10, v10_list, rfl, sf2, sf5, hv10_list, h0_1, h0_2, h0_4, hb_g3, hx⟩ := hR
    clear hR11
    refine W_seq ?_
    refine W_seq ?_
    refine W_region ?_
    refine L_fa (o' := 0) rfl fa_36_0 sf2 rfl ?_
    refine L_ld (v := .int .i64 r_.kind) rfl Try.isAgg3 rfl (hb_g3.cell (j := 0) rfl) ?_
    refine L_nil ?_
    refine W_block ?_
    refine W_seq ?_
    refine W_region ?_
    refine L_eql (m := r_.kind) (n := 1) rfl rfl rfl ?_
    refine L_as (v := .bool (r_.kind == 1)) rfl rfl ?_
    refine L_nil ?_
    refine W_cond (b := (r_.kind == 1)) rfl (fun hc32 => ?_) (fun hc32 => ?_)
    ·
      have hF := (ite_t hc32).symm.trans hF
      refine W_seq ?_
      refine W_region ?_
      refine L_as (v := .int .i64 0) rfl rfl ?_
      refine L_nil ?_
      refine W_seq ?_
      refine W_seq ?_
      refine W_region ?_
      refine L_as (v := .int .i64 0) rfl rfl ?_
      refine L_nil ?_
      have hlen35 := len_le (Own.rel hv10_list)
      obtain ⟨j35, hL35, hF⟩ := bind_some hF
      obtain ⟨R35, hR35⟩ : ∃ R : Fr → World → Prop, R = fun f w_ => ∃ n_34 : Int, j35 = .nx n_34 ∧ f 2 = .pointer (some ⟨g3, 0, none⟩) ∧ f 7 = .int .i64 n_34 ∧ (RP.slice 3 RP.int).rel B w.heap.size w_ [v0_1] r_.vars ∧ (RP.slice 3 RP.int).rel B w.heap.size w_ [v0_2] r_.coefs ∧ (RP.slice 23 (RP.slice 3 RP.int)).rel B w.heap.size w_ [v0_4] r_.rows ∧ Blk w_ g3 36 #[.int .i64 r_.kind, v0_1, v0_2, .int .i64 r_.bound, v0_4] ∧ Ext w w_ := ⟨_, rfl⟩
      refine W_join R35 ?_ ?_
      ·
        refine W_block ?_
        obtain ⟨I35, hI35⟩ : ∃ I : Nat → Fr → World → Prop, I = fun n f w_ => ∃ i_33 : Nat, ∃ suf35 : List Int, ∃ n_34 : Int, n = suf35.length ∧ List.drop i_33 list_10 = suf35 ∧ i_33 + suf35.length = list_10.length ∧ rangeL (s_l6Holds_b2 r_) suf35 i_33 n_34 = some j35 ∧ f 2 = .pointer (some ⟨g3, 0, none⟩) ∧ f 5 = v10_list ∧ f 7 = .int .i64 n_34 ∧ f 8 = .int .i64 (i_33 : Int) ∧ Own RP.int 3 w.heap.size B w_ v10_list list_10 ∧ (RP.slice 3 RP.int).rel B w.heap.size w_ [v0_1] r_.vars ∧ (RP.slice 3 RP.int).rel B w.heap.size w_ [v0_2] r_.coefs ∧ (RP.slice 23 (RP.slice 3 RP.int)).rel B w.heap.size w_ [v0_4] r_.rows ∧ Blk w_ g3 36 #[.int .i64 r_.kind, v0_1, v0_2, .int .i64 r_.bound, v0_4] ∧ Ext w w_ := ⟨_, rfl⟩
        refine W_loop I35 (n := list_10.length) ?_ ?_
        · rw [hI35]; exact ⟨0, list_10, 0, rfl, rfl, Nat.zero_add _, hL35, sf2, sf5, rfl, rfl, hv10_list, h0_1, h0_2, h0_4, hb_g3, hx⟩
        ·
          intro n35 f w_ hI
          rw [hI35] at hI
          obtain ⟨i_33, suf35, n_34, rfl, hd35, hl35, hL35, sf2, sf5, sf7, sf8, hv10_list, h0_1, h0_2, h0_4, hb_g3, hx⟩ := hI
          refine W_seq ?_
          refine W_seq ?_
          refine W_region ?_
          refine L_mv (v := .int .i64 (i_33 : Int)) rfl sf8 ?_
          refine L_mv (v := v10_list) rfl sf5 ?_
          refine L_len (v := v10_list) rfl Try.underlying23 rfl (Own.rel hv10_list) ?_
          refine L_lss (m := (i_33 : Int)) (n := (list_10.length : Int)) rfl rfl rfl ?_
          refine L_nil ?_
          refine W_cond (b := decide ((i_33 : Int) < (list_10.length : Int))) rfl (fun hc36 => ?_) (fun hc36 => ?_)
          ·
            have hlt35 := of_decide_eq_true hc36
            cases suf35 with
            | nil => exact absurd hlt35 (by simp at hl35; omega)
            | cons x_35 rest35 =>
              obtain ⟨o35, hB35, hL35⟩ := range_cons hL35
              rw [s_l6Holds_b2] at hB35
              have hix35 := drop_idx hd35
              refine W_skip ?_
              refine W_seq ?_
              refine W_block ?_
              obtain ⟨x37, hx37, hB35⟩ := bind_some hB35
              refine W_drawL 11 [isV (.int .i64 n_34), isV (.pointer (some ⟨g3, 2, none⟩)), isV (v0_2), isV (.int .i64 (i_33 : Int)), isEl B RP.int x37 0, isV (.int .i64 x37), isV (v10_list), isV (.int .i64 (i_33 : Int)), isEl B RP.int x_35 0, isV (.int .i64 x_35), isV (.int .i64 (i64 (x37 * x_35)))] Try_mix (by kernel_rfl) (am_cons (mono_V _) (am_cons (mono_V _) (am_cons (mono_V _) (am_cons (mono_V _) (am_cons (mono_el _ _ _ _) (am_cons (mono_V _) (am_cons (mono_V _) (am_cons (mono_V _) (am_cons (mono_el _ _ _ _) (am_cons (mono_V _) (am_cons (mono_V _) am_nil))))))))))) ?_ (fun f w_ hS42 hE42 hT42 => ?_)
              ·
                refine ops_cons (fun f w_ hS42 hE42 hP42 => ?_) ?_
                ·
                  have hx := ext_trans hx hE42
                  refine L_mv (v := .int .i64 n_34) rfl ((hS42 7 rfl).trans sf7) ?_
                  exact L_nil ⟨rfl, (ext_refl _), _, _, rfl, rfl, rfl⟩
                refine ops_cons (fun f w_ hS42 hE42 hP42 => ?_) ?_
                ·
                  have hx := ext_trans hx hE42
                  have h0_1 := RP.ext h0_1 hE42
                  have h0_2 := RP.ext h0_2 hE42
                  have h0_4 := RP.ext h0_4 hE42
                  have hb_g3 := Blk.ext hb_g3 hE42
                  refine L_fa (o' := 2) rfl fa_36_2 ((hS42 2 rfl).trans sf2) rfl ?_
                  exact L_nil ⟨rfl, (ext_refl _), _, _, rfl, rfl, rfl⟩
                refine ops_cons (fun f w_ hS42 hE42 hP42 => ?_) ?_
                ·
                  have hx := ext_trans hx hE42
                  have h0_1 := RP.ext h0_1 hE42
                  have h0_2 := RP.ext h0_2 hE42
                  have h0_4 := RP.ext h0_4 hE42
                  have hb_g3 := Blk.ext hb_g3 hE42
                  refine L_ld (v := v0_2) rfl Try.isAgg23 (hP42 1 42 rfl rfl) (hb_g3.cell (j := 2) rfl) ?_
                  exact L_nil ⟨rfl, (ext_refl _), _, _, rfl, rfl, rfl⟩
                refine ops_cons (fun f w_ hS42 hE42 hP42 => ?_) ?_
                ·
                  have hx := ext_trans hx hE42
                  refine L_mv (v := .int .i64 (i_33 : Int)) rfl ((hS42 8 rfl).trans sf8) ?_
                  exact L_nil ⟨rfl, (ext_refl _), _, _, rfl, rfl, rfl⟩
                refine ops_cons (fun f w_ hS42 hE42 hP42 => ?_) ?_
                ·
                  have hx := ext_trans hx hE42
                  have h0_2 := RP.ext h0_2 hE42
                  refine L_ix (r := RP.int) rfl Try.underlying23 Try.sizeOf3 (hP42 2 43 rfl rfl) h0_2 (hP42 3 44 rfl rfl) hx37 ?_
                  intro g47 o48 cs48 hr48 hat48
                  obtain rfl : _ = [_] := hr48
                  exact L_nil ⟨rfl, (ext_refl _), _, _, rfl, rfl, ⟨_, _, _, rfl, rfl, hat48⟩⟩
                refine ops_cons (fun f w_ hS42 hE42 hP42 => ?_) ?_
                ·
                  have hx := ext_trans hx hE42
                  obtain ⟨g49, o49, cs49, hv49, hr49, hat49⟩ := (hP42 4 45 rfl rfl)
                  obtain rfl : _ = [_] := hr49
                  refine L_ld (v := .int .i64 x37) rfl Try.isAgg3 hv49 (hat49.cell (j := 0) rfl) ?_
                  exact L_nil ⟨rfl, (ext_refl _), _, _, rfl, rfl, rfl⟩
                refine ops_cons (fun f w_ hS42 hE42 hP42 => ?_) ?_
                ·
                  have hx := ext_trans hx hE42
                  have hv10_list := Own.ext hv10_list hE42
                  refine L_mv (v := v10_list) rfl ((hS42 5 rfl).trans sf5) ?_
                  exact L_nil ⟨rfl, (ext_refl _), _, _, rfl, rfl, rfl⟩
                refine ops_cons (fun f w_ hS42 hE42 hP42 => ?_) ?_
                ·
                  have hx := ext_trans hx hE42
                  refine L_mv (v := .int .i64 (i_33 : Int)) rfl ((hS42 8 rfl).trans sf8) ?_
                  exact L_nil ⟨rfl, (ext_refl _), _, _, rfl, rfl, rfl⟩
                refine ops_cons (fun f w_ hS42 hE42 hP42 => ?_) ?_
                ·
                  have hx := ext_trans hx hE42
                  have hv10_list := Own.ext hv10_list hE42
                  refine L_ix (r := RP.int) rfl Try.underlying23 Try.sizeOf3 (hP42 6 47 rfl rfl) (Own.rel hv10_list) (hP42 7 48 rfl rfl) hix35 ?_
                  intro g50 o51 cs51 hr51 hat51
                  obtain rfl : _ = [_] := hr51
                  exact L_nil ⟨rfl, (ext_refl _), _, _, rfl, rfl, ⟨_, _, _, rfl, rfl, hat51⟩⟩
                refine ops_cons (fun f w_ hS42 hE42 hP42 => ?_) ?_
                ·
                  have hx := ext_trans hx hE42
                  obtain ⟨g52, o52, cs52, hv52, hr52, hat52⟩ := (hP42 8 49 rfl rfl)
                  obtain rfl : _ = [_] := hr52
                  refine L_ld (v := .int .i64 x_35) rfl Try.isAgg3 hv52 (hat52.cell (j := 0) rfl) ?_
                  exact L_nil ⟨rfl, (ext_refl _), _, _, rfl, rfl, rfl⟩
                refine ops_cons (fun f w_ hS42 hE42 hP42 => ?_) ?_
                ·
                  have hx := ext_trans hx hE42
                  refine L_mul (m := x37) (n := x_35) rfl (hP42 5 46 rfl rfl) (hP42 9 50 rfl rfl) ?_
                  exact L_nil ⟨rfl, (ext_refl _), _, _, rfl, rfl, rfl⟩
                exact ops_nil
              ·
                have hv10_list := Own.ext hv10_list hE42
                have h0_1 := RP.ext h0_1 hE42
                have h0_2 := RP.ext h0_2 hE42
                have h0_4 := RP.ext h0_4 hE42
                have hb_g3 := Blk.ext hb_g3 hE42
                have hx := ext_trans hx hE42
                refine L_add (m := n_34) (n := i64 (x37 * x_35)) rfl (hT42 0 41 rfl rfl) (hT42 10 51 rfl rfl) ?_
                refine L_as (v := .int .i64 (i64 (n_34 + (i64 (x37 * x_35))))) rfl rfl ?_
                refine L_nil ?_
                refine W_region ?_
                refine L_mv (v := .int .i64 (i_33 : Int)) rfl ((hS42 8 rfl).trans sf8) ?_
                refine L_add (m := (i_33 : Int)) (n := 1) rfl rfl rfl ?_
                refine L_as (v := .int .i64 (i64 ((i_33 : Int) + 1))) rfl rfl ?_
                refine L_nil ?_
                obtain rfl := so hB35
                show ∃ m, m < _ ∧ I35 m _ _
                refine ⟨rest35.length, by simp, ?_⟩
                rw [hI35]
                exact ⟨i_33 + 1, rest35, i64 (n_34 + (i64 (x37 * x_35))), rfl, drop_next hd35, by simp at hl35; omega, hL35, ((hS42 2 rfl).trans sf2), ((hS42 5 rfl).trans sf5), rfl, (Eq.trans rfl (congrArg (Value.int .i64) (i64_succ (n := list_10.length) (by simp at hl35; omega) hlen35))), hv10_list, h0_1, h0_2, h0_4, hb_g3, hx⟩
          ·
            cases suf35 with
            | cons _ _ => exact absurd (of_decide_eq_false hc36) (by simp at hl35; omega)
            | nil =>
              obtain rfl := range_nil hL35
              refine W_exit ?_
              show R35 _ _
              rw [hR35]
              exact ⟨n_34, rfl, sf2, sf7, h0_1, h0_2, h0_4, hb_g3, hx⟩
      ·
        intro f w_ hR
        rw [hR35] at hR
        obtain ⟨n_34, rfl, sf2, sf7, h0_1, h0_2, h0_4, hb_g3, hx⟩ := hR
        clear hR35
        refine W_seq ?_
        refine W_region ?_
        refine L_mv (v := .int .i64 n_34) rfl sf7 ?_
        refine L_fa (o' := 3) rfl fa_36_3 sf2 rfl ?_
        refine L_ld (v := .int .i64 r_.bound) rfl Try.isAgg3 rfl (hb_g3.cell (j := 3) rfl) ?_
        refine L_geq (m := n_34) (n := r_.bound) rfl rfl rfl ?_
        refine L_as (v := .bool (decide (n_34 ≥ r_.bound))) rfl rfl ?_
        refine L_nil ?_
        refine W_ret ?_
        obtain rfl := so hF
        refine ret1 Try.results57 ?_
        exact ⟨rfl, hx⟩
    ·
      have hF := (ite_f hc32).symm.trans hF
      refine W_seq ?_
      refine W_region ?_
      refine L_eql (m := r_.kind) (n := 2) rfl rfl rfl ?_
      refine L_as (v := .bool (r_.kind == 2)) rfl rfl ?_
      refine L_nil ?_
      refine W_cond (b := (r_.kind == 2)) rfl (fun hc53 => ?_) (fun hc53 => ?_)
      ·
        have hF := (ite_t hc53).symm.trans hF
        refine W_seq ?_
        refine W_seq ?_
        refine W_region ?_
        refine L_as (v := .int .i64 0) rfl rfl ?_
        refine L_nil ?_
        have hlen55 := len_le (Own.rel hv10_list)
        obtain ⟨j55, hL55, hF⟩ := bind_some hF
        obtain ⟨R55, hR55⟩ : ∃ R : Fr → World → Prop, R = fun f w_ => j55 = .nx () ∧ Ext w w_ := ⟨_, rfl⟩
        refine W_join R55 ?_ ?_
        ·
          refine W_block ?_
          obtain ⟨I55, hI55⟩ : ∃ I : Nat → Fr → World → Prop, I = fun n f w_ => ∃ i_54 : Nat, ∃ suf55 : List Int, n = suf55.length ∧ List.drop i_54 list_10 = suf55 ∧ i_54 + suf55.length = list_10.length ∧ rangeL (s_l6Holds_b3 list_10) suf55 i_54 () = some j55 ∧ f 5 = v10_list ∧ f 9 = .int .i64 (i_54 : Int) ∧ Own RP.int 3 w.heap.size B w_ v10_list list_10 ∧ Ext w w_ := ⟨_, rfl⟩
          refine W_loop I55 (n := list_10.length) ?_ ?_
          · rw [hI55]; exact ⟨0, list_10, rfl, rfl, Nat.zero_add _, hL55, sf5, rfl, hv10_list, hx⟩
          ·
            intro n55 f w_ hI
            rw [hI55] at hI
            obtain ⟨i_54, suf55, rfl, hd55, hl55, hL55, sf5, sf9, hv10_list, hx⟩ := hI
            refine W_seq ?_
            refine W_seq ?_
            refine W_region ?_
            refine L_mv (v := .int .i64 (i_54 : Int)) rfl sf9 ?_
            refine L_mv (v := v10_list) rfl sf5 ?_
            refine L_len (v := v10_list) rfl Try.underlying23 rfl (Own.rel hv10_list) ?_
            refine L_lss (m := (i_54 : Int)) (n := (list_10.length : Int)) rfl rfl rfl ?_
            refine L_nil ?_
            refine W_cond (b := decide ((i_54 : Int) < (list_10.length : Int))) rfl (fun hc56 => ?_) (fun hc56 => ?_)
            ·
              have hlt55 := of_decide_eq_true hc56
              cases suf55 with
              | nil => exact absurd hlt55 (by simp at hl55; omega)
              | cons x_55 rest55 =>
                obtain ⟨o55, hB55, hL55⟩ := range_cons hL55
                rw [s_l6Holds_b3] at hB55
                have hix55 := drop_idx hd55
                refine W_skip ?_
                refine W_seq ?_
                refine W_block ?_
                refine W_seq ?_
                refine W_region ?_
                refine L_as (v := .int .i64 0) rfl rfl ?_
                refine L_nil ?_
                obtain ⟨k59, hk59, hB55⟩ := bind_some hB55
                obtain ⟨j58, hL58, hB55⟩ := bind_some hB55
                obtain ⟨R58, hR58⟩ : ∃ R : Fr → World → Prop, R = fun f w_ => j58 = .nx () ∧ f 5 = v10_list ∧ f 9 = .int .i64 (i_54 : Int) ∧ Own RP.int 3 w.heap.size B w_ v10_list list_10 ∧ Ext w w_ := ⟨_, rfl⟩
                refine W_join R58 ?_ ?_
                ·
                  refine W_block ?_
                  obtain ⟨I58, hI58⟩ : ∃ I : Nat → Fr → World → Prop, I = fun n f w_ => ∃ i_57 : Nat, ∃ suf58 : Nat, suf58 = n ∧ 0 ≤ i_57 ∧ i_57 + suf58 = 0 + k59 ∧ countL (s_l6Holds_b4 list_10 x_55) suf58 i_57 () = some j58 ∧ f 5 = v10_list ∧ f 9 = .int .i64 (i_54 : Int) ∧ f 10 = .int .i64 (i_57 : Int) ∧ Own RP.int 3 w.heap.size B w_ v10_list list_10 ∧ Ext w w_ := ⟨_, rfl⟩
                  refine W_loop I58 (n := k59) ?_ ?_
                  · rw [hI58]; exact ⟨0, k59, rfl, Nat.le_refl _, rfl, hL58, sf5, sf9, rfl, hv10_list, hx⟩
                  ·
                    intro n58 f w_ hI
                    rw [hI58] at hI
                    obtain ⟨i_57, suf58, rfl, hs58, hl58, hL58, sf5, sf9, sf10, hv10_list, hx⟩ := hI
                    refine W_seq ?_
                    refine W_seq ?_
                    refine W_region ?_
                    refine L_mv (v := .int .i64 (i_57 : Int)) rfl sf10 ?_
                    refine L_mv (v := .int .i64 (i_54 : Int)) rfl sf9 ?_
                    refine L_lss (m := (i_57 : Int)) (n := (i_54 : Int)) rfl rfl rfl ?_
                    refine L_nil ?_
                    refine W_cond (b := decide ((i_57 : Int) < (i_54 : Int))) rfl (fun hc60 => ?_) (fun hc60 => ?_)
                    ·
                      have hlt58 := of_decide_eq_true hc60
                      cases suf58 with
                      | zero => exact absurd hlt58 (cntF_no hl58 hk59)
                      | succ rest58 =>
                        obtain ⟨o58, hB58, hL58⟩ := count_succ hL58
                        rw [s_l6Holds_b4] at hB58
                        refine W_skip ?_
                        refine W_seq ?_
                        refine W_block ?_
                        refine W_seq ?_
                        obtain ⟨x61, hx61, hB58⟩ := bind_some hB58
                        refine W_drawL 8 [isV (v10_list), isV (.int .i64 (i_57 : Int)), isEl B RP.int x61 0, isV (.int .i64 x61), isV (v10_list), isV (.int .i64 (i_54 : Int)), isEl B RP.int x_55 0, isV (.int .i64 x_55)] Try_mix (by kernel_rfl) (am_cons (mono_V _) (am_cons (mono_V _) (am_cons (mono_el _ _ _ _) (am_cons (mono_V _) (am_cons (mono_V _) (am_cons (mono_V _) (am_cons (mono_el _ _ _ _) (am_cons (mono_V _) am_nil)))))))) ?_ (fun f w_ hS66 hE66 hT66 => ?_)
                        ·
                          refine ops_cons (fun f w_ hS66 hE66 hP66 => ?_) ?_
                          ·
                            have hx := ext_trans hx hE66
                            have hv10_list := Own.ext hv10_list hE66
                            refine L_mv (v := v10_list) rfl ((hS66 5 rfl).trans sf5) ?_
                            exact L_nil ⟨rfl, (ext_refl _), _, _, rfl, rfl, rfl⟩
                          refine ops_cons (fun f w_ hS66 hE66 hP66 => ?_) ?_
                          ·
                            have hx := ext_trans hx hE66
                            refine L_mv (v := .int .i64 (i_57 : Int)) rfl ((hS66 10 rfl).trans sf10) ?_
                            exact L_nil ⟨rfl, (ext_refl _), _, _, rfl, rfl, rfl⟩
                          refine ops_cons (fun f w_ hS66 hE66 hP66 => ?_) ?_
                          ·
                            have hx := ext_trans hx hE66
                            have hv10_list := Own.ext hv10_list hE66
                            refine L_ix (r := RP.int) rfl Try.underlying23 Try.sizeOf3 (hP66 0 70 rfl rfl) (Own.rel hv10_list) (hP66 1 71 rfl rfl) hx61 ?_
                            intro g71 o72 cs72 hr72 hat72
                            obtain rfl : _ = [_] := hr72
                            exact L_nil ⟨rfl, (ext_refl _), _, _, rfl, rfl, ⟨_, _, _, rfl, rfl, hat72⟩⟩
                          refine ops_cons (fun f w_ hS66 hE66 hP66 => ?_) ?_
                          ·
                            have hx := ext_trans hx hE66
                            obtain ⟨g73, o73, cs73, hv73, hr73, hat73⟩ := (hP66 2 72 rfl rfl)
                            obtain rfl : _ = [_] := hr73
                            refine L_ld (v := .int .i64 x61) rfl Try.isAgg3 hv73 (hat73.cell (j := 0) rfl) ?_
                            exact L_nil ⟨rfl, (ext_refl _), _, _, rfl, rfl, rfl⟩
                          refine ops_cons (fun f w_ hS66 hE66 hP66 => ?_) ?_
                          ·
                            have hx := ext_trans hx hE66
                            have hv10_list := Own.ext hv10_list hE66
                            refine L_mv (v := v10_list) rfl ((hS66 5 rfl).trans sf5) ?_
                            exact L_nil ⟨rfl, (ext_refl _), _, _, rfl, rfl, rfl⟩
                          refine ops_cons (fun f w_ hS66 hE66 hP66 => ?_) ?_
                          ·
                            have hx := ext_trans hx hE66
                            refine L_mv (v := .int .i64 (i_54 : Int)) rfl ((hS66 9 rfl).trans sf9) ?_
                            exact L_nil ⟨rfl, (ext_refl _), _, _, rfl, rfl, rfl⟩
                          refine ops_cons (fun f w_ hS66 hE66 hP66 => ?_) ?_
                          ·
                            have hx := ext_trans hx hE66
                            have hv10_list := Own.ext hv10_list hE66
                            refine L_ix (r := RP.int) rfl Try.underlying23 Try.sizeOf3 (hP66 4 74 rfl rfl) (Own.rel hv10_list) (hP66 5 75 rfl rfl) hix55 ?_
                            intro g74 o75 cs75 hr75 hat75
                            obtain rfl : _ = [_] := hr75
                            exact L_nil ⟨rfl, (ext_refl _), _, _, rfl, rfl, ⟨_, _, _, rfl, rfl, hat75⟩⟩
                          refine ops_cons (fun f w_ hS66 hE66 hP66 => ?_) ?_
                          ·
                            have hx := ext_trans hx hE66
                            obtain ⟨g76, o76, cs76, hv76, hr76, hat76⟩ := (hP66 6 76 rfl rfl)
                            obtain rfl : _ = [_] := hr76
                            refine L_ld (v := .int .i64 x_55) rfl Try.isAgg3 hv76 (hat76.cell (j := 0) rfl) ?_
                            exact L_nil ⟨rfl, (ext_refl _), _, _, rfl, rfl, rfl⟩
                          exact ops_nil
                        ·
                          have hv10_list := Own.ext hv10_list hE66
                          have hx := ext_trans hx hE66
                          refine L_eql (m := x61) (n := x_55) rfl (hT66 3 73 rfl rfl) (hT66 7 77 rfl rfl) ?_
                          refine L_nil ?_
                          refine W_cond (b := (x61 == x_55)) rfl (fun hc77 => ?_) (fun hc77 => ?_)
                          ·
                            have hB58 := (ite_t hc77).symm.trans hB58
                            refine W_seq ?_
                            refine W_region ?_
                            refine L_as (v := .bool false) rfl rfl ?_
                            refine L_nil ?_
                            refine W_ret ?_
                            obtain rfl := so hB58
                            obtain rfl := so hL58
                            obtain rfl := so hB55
                            obtain rfl := so hL55
                            obtain rfl := so hF
                            refine ret1 Try.results57 ?_
                            exact ⟨rfl, hx⟩
                          ·
                            have hB58 := (ite_f hc77).symm.trans hB58
                            refine W_skip ?_
                            refine W_region ?_
                            refine L_mv (v := .int .i64 (i_57 : Int)) rfl ((hS66 10 rfl).trans sf10) ?_
                            refine L_add (m := (i_57 : Int)) (n := 1) rfl rfl rfl ?_
                            refine L_as (v := .int .i64 (i64 ((i_57 : Int) + 1))) rfl rfl ?_
                            refine L_nil ?_
                            obtain rfl := so hB58
                            show ∃ m, m < _ ∧ I58 m _ _
                            refine ⟨rest58, Nat.lt_succ_self _, ?_⟩
                            rw [hI58]
                            exact ⟨i_57 + 1, rest58, rfl, by omega, by omega, hL58, ((hS66 5 rfl).trans sf5), ((hS66 9 rfl).trans sf9), (Eq.trans rfl (congrArg (Value.int .i64) (i64_succ (n := 0 + k59) (by omega) (cntF_le hk59)))), hv10_list, hx⟩
                    ·
                      cases suf58 with
                      | succ _ => exact absurd (cntF_yes hs58 hl58 hk59) (of_decide_eq_false hc60)
                      | zero =>
                        obtain rfl := count_zero hL58
                        refine W_exit ?_
                        show R58 _ _
                        rw [hR58]
                        exact ⟨rfl, sf5, sf9, hv10_list, hx⟩
                ·
                  intro f w_ hR
                  rw [hR58] at hR
                  obtain ⟨rfl, sf5, sf9, hv10_list, hx⟩ := hR
                  clear hR58
                  refine W_region ?_
                  refine L_mv (v := .int .i64 (i_54 : Int)) rfl sf9 ?_
                  refine L_add (m := (i_54 : Int)) (n := 1) rfl rfl rfl ?_
                  refine L_as (v := .int .i64 (i64 ((i_54 : Int) + 1))) rfl rfl ?_
                  refine L_nil ?_
                  obtain rfl := so hB55
                  show ∃ m, m < _ ∧ I55 m _ _
                  refine ⟨rest55.length, by simp, ?_⟩
                  rw [hI55]
                  exact ⟨i_54 + 1, rest55, rfl, drop_next hd55, by simp at hl55; omega, hL55, sf5, (Eq.trans rfl (congrArg (Value.int .i64) (i64_succ (n := list_10.length) (by simp at hl55; omega) hlen55))), hv10_list, hx⟩
            ·
              cases suf55 with
              | cons _ _ => exact absurd (of_decide_eq_false hc56) (by simp at hl55; omega)
              | nil =>
                obtain rfl := range_nil hL55
                refine W_exit ?_
                show R55 _ _
                rw [hR55]
                exact ⟨rfl, hx⟩
        ·
          intro f w_ hR
          rw [hR55] at hR
          obtain ⟨rfl, hx⟩ := hR
          clear hR55
          refine W_seq ?_
          refine W_region ?_
          refine L_as (v := .bool true) rfl rfl ?_
          refine L_nil ?_
          refine W_ret ?_
          obtain rfl := so hF
          refine ret1 Try.results57 ?_
          exact ⟨rfl, hx⟩
      ·
        have hF := (ite_f hc53).symm.trans hF
        refine W_seq ?_
        refine W_region ?_
        refine L_eql (m := r_.kind) (n := 4) rfl rfl rfl ?_
        refine L_as (v := .bool (r_.kind == 4)) rfl rfl ?_
        refine L_nil ?_
        refine W_cond (b := (r_.kind == 4)) rfl (fun hc78 => ?_) (fun hc78 => ?_)
        ·
          have hF := (ite_t hc78).symm.trans hF
          refine W_seq ?_
          obtain ⟨x79, hx79, hF⟩ := bind_some hF
          obtain ⟨x82, hx82, hF⟩ := bind_some hF
          refine W_drawL 6 [isV (v10_list), isEl B RP.int x79 0, isV (.int .i64 x79), isV (v10_list), isEl B RP.int x82 0, isV (.int .i64 x82)] Try_mix (by kernel_rfl) (am_cons (mono_V _) (am_cons (mono_el _ _ _ _) (am_cons (mono_V _) (am_cons (mono_V _) (am_cons (mono_el _ _ _ _) (am_cons (mono_V _) am_nil)))))) ?_ (fun f w_ hS85 hE85 hT85 => ?_)
          ·
            refine ops_cons (fun f w_ hS85 hE85 hP85 => ?_) ?_
            ·
              have hx := ext_trans hx hE85
              have hv10_list := Own.ext hv10_list hE85
              refine L_mv (v := v10_list) rfl ((hS85 5 rfl).trans sf5) ?_
              exact L_nil ⟨rfl, (ext_refl _), _, _, rfl, rfl, rfl⟩
            refine ops_cons (fun f w_ hS85 hE85 hP85 => ?_) ?_
            ·
              have hx := ext_trans hx hE85
              have hv10_list := Own.ext hv10_list hE85
              refine L_ix (r := RP.int) rfl Try.underlying23 Try.sizeOf3 (hP85 0 81 rfl rfl) (Own.rel hv10_list) rfl hx79 ?_
              intro g90 o91 cs91 hr91 hat91
              obtain rfl : _ = [_] := hr91
              exact L_nil ⟨rfl, (ext_refl _), _, _, rfl, rfl, ⟨_, _, _, rfl, rfl, hat91⟩⟩
            refine ops_cons (fun f w_ hS85 hE85 hP85 => ?_) ?_
            ·
              have hx := ext_trans hx hE85
              obtain ⟨g92, o92, cs92, hv92, hr92, hat92⟩ := (hP85 1 82 rfl rfl)
              obtain rfl : _ = [_] := hr92
              refine L_ld (v := .int .i64 x79) rfl Try.isAgg3 hv92 (hat92.cell (j := 0) rfl) ?_
              exact L_nil ⟨rfl, (ext_refl _), _, _, rfl, rfl, rfl⟩
            refine ops_cons (fun f w_ hS85 hE85 hP85 => ?_) ?_
            ·
              have hx := ext_trans hx hE85
              have hv10_list := Own.ext hv10_list hE85
              refine L_mv (v := v10_list) rfl ((hS85 5 rfl).trans sf5) ?_
              exact L_nil ⟨rfl, (ext_refl _), _, _, rfl, rfl, rfl⟩
            refine ops_cons (fun f w_ hS85 hE85 hP85 => ?_) ?_
            ·
              have hx := ext_trans hx hE85
              have hv10_list := Own.ext hv10_list hE85
              refine L_ix (r := RP.int) rfl Try.underlying23 Try.sizeOf3 (hP85 3 84 rfl rfl) (Own.rel hv10_list) rfl hx82 ?_
              intro g93 o94 cs94 hr94 hat94
              obtain rfl : _ = [_] := hr94
              exact L_nil ⟨rfl, (ext_refl _), _, _, rfl, rfl, ⟨_, _, _, rfl, rfl, hat94⟩⟩
            refine ops_cons (fun f w_ hS85 hE85 hP85 => ?_) ?_
            ·
              have hx := ext_trans hx hE85
              obtain ⟨g95, o95, cs95, hv95, hr95, hat95⟩ := (hP85 4 85 rfl rfl)
              obtain rfl : _ = [_] := hr95
              refine L_ld (v := .int .i64 x82) rfl Try.isAgg3 hv95 (hat95.cell (j := 0) rfl) ?_
              exact L_nil ⟨rfl, (ext_refl _), _, _, rfl, rfl, rfl⟩
            exact ops_nil
          ·
            have hv10_list := Own.ext hv10_list hE85
            have h0_1 := RP.ext h0_1 hE85
            have h0_2 := RP.ext h0_2 hE85
            have h0_4 := RP.ext h0_4 hE85
            have hb_g3 := Blk.ext hb_g3 hE85
            have hx := ext_trans hx hE85
            refine L_lss (m := x79) (n := x82) rfl (hT85 2 83 rfl rfl) (hT85 5 86 rfl rfl) ?_
            refine L_as (v := .bool (decide (x79 < x82))) rfl rfl ?_
            refine L_nil ?_
            refine W_ret ?_
            obtain rfl := so hF
            refine ret1 Try.results57 ?_
            exact ⟨rfl, hx⟩
        ·
          have hF := (ite_f hc78).symm.trans hF
          refine W_skip ?_
          refine W_seq ?_
          refine W_seq ?_
          refine W_region ?_
          refine L_as (v := .int .i64 0) rfl rfl ?_
          refine L_nil ?_
          have hlen97 := len_le h0_4
          obtain ⟨j97, hL97, hF⟩ := bind_some hF
          obtain ⟨R97, hR97⟩ : ∃ R : Fr → World → Prop, R = fun f w_ => j97 = .nx () ∧ Ext w w_ := ⟨_, rfl⟩
          refine W_join R97 ?_ ?_
          ·
            refine W_block ?_
            obtain ⟨I97, hI97⟩ : ∃ I : Nat → Fr → World → Prop, I = fun n f w_ => ∃ i_96 : Nat, ∃ suf97 : List (List Int), n = suf97.length ∧ List.drop i_96 r_.rows = suf97 ∧ i_96 + suf97.length = r_.rows.length ∧ rangeL (s_l6Holds_b5 list_10) suf97 i_96 () = some j97 ∧ f 2 = .pointer (some ⟨g3, 0, none⟩) ∧ f 5 = v10_list ∧ f 11 = .int .i64 (i_96 : Int) ∧ Own RP.int 3 w.heap.size B w_ v10_list list_10 ∧ (RP.slice 3 RP.int).rel B w.heap.size w_ [v0_1] r_.vars ∧ (RP.slice 3 RP.int).rel B w.heap.size w_ [v0_2] r_.coefs ∧ (RP.slice 23 (RP.slice 3 RP.int)).rel B w.heap.size w_ [v0_4] r_.rows ∧ Blk w_ g3 36 #[.int .i64 r_.kind, v0_1, v0_2, .int .i64 r_.bound, v0_4] ∧ Ext w w_ := ⟨_, rfl⟩
            refine W_loop I97 (n := r_.rows.length) ?_ ?_
            · rw [hI97]; exact ⟨0, r_.rows, rfl, rfl, Nat.zero_add _, hL97, sf2, sf5, rfl, hv10_list, h0_1, h0_2, h0_4, hb_g3, hx⟩
            ·
              intro n97 f w_ hI
              rw [hI97] at hI
              obtain ⟨i_96, suf97, rfl, hd97, hl97, hL97, sf2, sf5, sf11, hv10_list, h0_1, h0_2, h0_4, hb_g3, hx⟩ := hI
              refine W_seq ?_
              refine W_seq ?_
              refine W_region ?_
              refine L_mv (v := .int .i64 (i_96 : Int)) rfl sf11 ?_
              refine L_fa (o' := 4) rfl fa_36_4 sf2 rfl ?_
              refine L_ld (v := v0_4) rfl Try.isAgg34 rfl (hb_g3.cell (j := 4) rfl) ?_
              refine L_len (v := v0_4) rfl Try.underlying34 rfl h0_4 ?_
              refine L_lss (m := (i_96 : Int)) (n := (r_.rows.length : Int)) rfl rfl rfl ?_
              refine L_nil ?_
              refine W_cond (b := decide ((i_96 : Int) < (r_.rows.length : Int))) rfl (fun hc98 => ?_) (fun hc98 => ?_)
              ·
                have hlt97 := of_decide_eq_true hc98
                cases suf97 with
                | nil => exact absurd hlt97 (by simp at hl97; omega)
                | cons x_97 rest97 =>
                  obtain ⟨o97, hB97, hL97⟩ := range_cons hL97
                  rw [s_l6Holds_b5] at hB97
                  have hix97 := drop_idx hd97
                  refine W_skip ?_
                  refine W_seq ?_
                  refine W_block ?_
                  refine W_seq ?_
                  obtain ⟨x101, hx101, hB97⟩ := bind_some hB97
                  refine W_region ?_
                  refine L_fa (o' := 4) rfl fa_36_4 sf2 rfl ?_
                  refine L_ld (v := v0_4) rfl Try.isAgg34 rfl (hb_g3.cell (j := 4) rfl) ?_
                  refine L_mv (v := .int .i64 (i_96 : Int)) rfl sf11 ?_
                  refine L_ix (r := (RP.slice 3 RP.int)) rfl Try.underlying34 Try.sizeOf23 rfl h0_4 rfl hix97 ?_
                  intro g103 o104 cs104 hr104 hat104
                  obtain ⟨u104, rfl, hu104⟩ := slice1 hr104
                  refine L_ld (v := u104) rfl Try.isAgg23 rfl (hat104.cell (j := 0) rfl) ?_
                  refine L_mv (v := v10_list) rfl sf5 ?_
                  refine L_call (args := #[u104, v10_list]) rfl Try.call84 (ops2 rfl rfl) (s_l6Ints_c (a := x_97) (b := list_10) (Nat.le_trans hB hx.size) (rel0 hu104) (rel0 (Own.rel hv10_list)) hx101) ?_
                  rintro _ w105 ⟨rfl, he105⟩
                  have hv10_list := Own.ext hv10_list he105
                  have h0_1 := RP.ext h0_1 he105
                  have h0_2 := RP.ext h0_2 he105
                  have h0_4 := RP.ext h0_4 he105
                  have hb_g3 := Blk.ext hb_g3 he105
                  have hu104 := RP.ext hu104 he105
                  have hx := ext_trans hx he105
                  refine L_nil ?_
                  refine W_cond (b := x101) rfl (fun hc106 => ?_) (fun hc106 => ?_)
                  ·
                    have hB97 := (ite_t hc106).symm.trans hB97
                    refine W_seq ?_
                    refine W_region ?_
                    refine L_as (v := .bool true) rfl rfl ?_
                    refine L_nil ?_
                    refine W_ret ?_
                    obtain rfl := so hB97
                    obtain rfl := so hL97
                    obtain rfl := so hF
                    refine ret1 Try.results57 ?_
                    exact ⟨rfl, hx⟩
                  ·
                    have hB97 := (ite_f hc106).symm.trans hB97
                    refine W_skip ?_
                    refine W_region ?_
                    refine L_mv (v := .int .i64 (i_96 : Int)) rfl sf11 ?_
                    refine L_add (m := (i_96 : Int)) (n := 1) rfl rfl rfl ?_
                    refine L_as (v := .int .i64 (i64 ((i_96 : Int) + 1))) rfl rfl ?_
                    refine L_nil ?_
                    obtain rfl := so hB97
                    show ∃ m, m < _ ∧ I97 m _ _
                    refine ⟨rest97.length, by simp, ?_⟩
                    rw [hI97]
                    exact ⟨i_96 + 1, rest97, rfl, drop_next hd97, by simp at hl97; omega, hL97, sf2, sf5, (Eq.trans rfl (congrArg (Value.int .i64) (i64_succ (n := r_.rows.length) (by simp at hl97; omega) hlen97))), hv10_list, h0_1, h0_2, h0_4, hb_g3, hx⟩
              ·
                cases suf97 with
                | cons _ _ => exact absurd (of_decide_eq_false hc98) (by simp at hl97; omega)
                | nil =>
                  obtain rfl := range_nil hL97
                  refine W_exit ?_
                  show R97 _ _
                  rw [hR97]
                  exact ⟨rfl, hx⟩
          ·
            intro f w_ hR
            rw [hR97] at hR
            obtain ⟨rfl, hx⟩ := hR
            clear hR97
            refine W_seq ?_
            refine W_region ?_
            refine L_as (v := .bool false) rfl rfl ?_
            refine L_nil ?_
            refine W_ret ?_
            obtain rfl := so hF
            refine ret1 Try.results57 ?_
            exact ⟨rfl, hx⟩

theorem s_DrawCellsValid_c {fu : Nat} {code : List UInt8} {v0 : Value} {w : World} {B : Nat} (hB : B ≤ w.heap.size) (h0 : (RP.slice 5 RP.u8).rel B w.heap.size w [v0] code) {r : Unit} (hF : s_DrawCellsValid fu code = some r) :
    C Try.prog 58 #[v0] w fun v w' => (∃ o : Model × (List Int), (sModel o.1 ∧ sOut o.2) ∧ ∃ u1 u2 u3 : Value, v = .tuple #[.agg #[u1, u2], u3] ∧ (RP.slice 3 RP.int).rel B w'.heap.size w' [u1] o.1.sizes ∧ (RP.slice 36 (rRule 3 23)).rel B w'.heap.size w' [u2] o.1.rules ∧ (RP.slice 3 RP.int).rel B w'.heap.size w' [u3] o.2) ∧ Ext w w' := by
  unfold s_DrawCellsValid at hF
  have hx := ext_refl w
  refine C_enter Try.func58 rfl Try.ntmps58 rfl ?_
  refine W_seq ?_
  refine W_region ?_
  refine L_al (cs := #[(.slice none 0 0), (.slice none 0 0)]) rfl Try.zeroValue26 rfl ?_
  intro g3 w4 hn4
  have hge_g3 := hn4.geS hx.size
  have hb_g3 := hn4.blk
  have h0 := RP.ext h0 hn4.ext
  have hx := ext_trans hx hn4.ext
  refine L_as (v := (.slice none 0 0)) rfl rfl ?_
  refine L_nil ?_
  refine W_seq ?_
  obtain ⟨x5, hx5, hF⟩ := bind_some hF
  refine W_region ?_
  refine L_mv (v := v0) rfl rfl ?_
  refine L_call (args := #[v0]) rfl Try.call46 (ops1 rfl) (s_l17Open_c (code := code) (Nat.le_trans hB hx.size) (rel0 h0) hx5) ?_
  rintro _ w7 ⟨⟨g7, u7, rfl, hge_g7, hb_g7, hu7⟩, he7⟩
  have hge_g7 := Nat.le_trans hx.size hge_g7
  have h0 := RP.ext h0 he7
  have hb_g3 := Blk.ext hb_g3 he7
  have hx := ext_trans hx he7
  refine L_as (v := .pointer (some ⟨g7, 0, none⟩)) rfl rfl ?_
  refine L_nil ?_
  refine W_seq ?_
  obtain ⟨x8, hx8, hF⟩ := bind_some hF
  obtain ⟨hx10, hF⟩ := anyB_some hF
  refine W_region ?_
  refine L_mv (v := .pointer (some ⟨g7, 0, none⟩)) rfl rfl ?_
  refine L_mv (v := .pointer (some ⟨g7, 0, none⟩)) rfl rfl ?_
  refine L_call (args := #[.pointer (some ⟨g7, 0, none⟩)]) rfl Try.call48 (ops1 rfl) (s_l6Model_c (r_ := x5) (Nat.le_trans hB hx.size) hb_g7 (rel0 hu7) (Nat.le_trans hB hge_g7) hx8) ?_
  rintro _ w16 ⟨⟨⟨r16_0, r16_1, rfl, hr16_0, hr16_1⟩, hbn16⟩, he16⟩
  have hr16_1 : Own _ _ w.heap.size B _ _ _ := hr16_1.wide hx.size (Nat.le_refl _)
  have hb_g3 := he16.blk hb_g3 (by decide)
  have hu7 := he16.rel hu7 (by decide) (Nat.le_trans hB hge_g7)
  have hx := ext_mut hx he16 hge_g7
  have hb_g7 := hbn16
  refine L_call (args := #[.pointer (some ⟨g7, 0, none⟩), .agg #[r16_0, r16_1]]) rfl Try.call47 (ops2 rfl rfl) (s_l6Mutate_c (r_ := ({ b := x5.b, p := x8.2 } : Rd)) (m := x8.1) (Nat.le_trans hB hx.size) hb_g7 (rel0 hu7) (Nat.le_trans hB hge_g7) (rel0 hr16_0) (rel0 (Own.rel hr16_1)) hx10) ?_
  rintro _ w17 ⟨⟨x10, gd17, ⟨⟨r17_0, r17_1, rfl, hr17_0, hr17_1⟩, hbn17⟩⟩, he17⟩
  have hF := hF x10 gd17
  have hb_g3 := he17.blk hb_g3 (by decide)
  have hu7 := he17.rel hu7 (by decide) (Nat.le_trans hB hge_g7)
  have hr16_0 := he17.rel hr16_0 (by decide) (Nat.le_trans hB hge_g7)
  have hr16_1 := he17.ownT hr16_1 (by decide) (by decide) (Nat.le_trans hB hge_g7)
  have hx := ext_mut hx he17 hge_g7
  have hb_g7 := hbn17
  refine L_al (cs := #[(.slice none 0 0), (.slice none 0 0)]) rfl Try.zeroValue26 rfl ?_
  intro g18 w19 hn19
  have hge_g18 := hn19.geS hx.size
  have hb_g18 := hn19.blk
  have ap20 := ap_bb hb_g3 hn19
  have hb_g3 := Blk.ext hb_g3 hn19.ext
  have hb_g7 := Blk.ext hb_g7 hn19.ext
  have hu7 := RP.ext hu7 hn19.ext
  have hr17_0 := RP.ext hr17_0 hn19.ext
  have hr17_1 := RP.ext hr17_1 hn19.ext
  have hx := ext_trans hx hn19.ext
  refine L_sta (vs := #[r17_0, r17_1]) rfl Try.sizeOf26 rfl rfl rfl (ones_cons (one_of hr17_0) (ones_cons (one_of hr17_1) ones_nil)) hb_g18 rfl ?_
  intro w21 hp21
  have hb_g3 := hp21.mu.blkA hb_g3 (Ap.symm ap20)
  have hb_g7 := hp21.mu.blk hb_g7 (by decide)
  have hu7 := hp21.mu.rel hu7 (by decide) (Nat.le_trans hB hge_g18)
  have hr17_0 := hp21.mu.rel hr17_0 (by decide) (Nat.le_trans hB hge_g18)
  have hr17_1 := hp21.mu.rel hr17_1 (by decide) (Nat.le_trans hB hge_g18)
  have hx := ext_mut hx hp21.mu hge_g18
  have hb_g18 : Blk w21 g18 26 #[r17_0, r17_1] := hp21.blk
  refine L_nil ?_
  refine W_seq ?_
  obtain ⟨x22, hx22, hF⟩ := bind_some hF
  refine W_drawR 4 [isV (.agg #[r17_0, r17_1]), isV (.pointer (some ⟨g7, 0, none⟩)), isV (.agg #[r17_0, r17_1]), isOwn B RP.int 3 w.heap.size x22.1] g7 86 (fun k => match k with | 0 => #[u7, .int .i64 x10.2] | _ => #[u7, .int .i64 x22.2]) [3] Try_mix (by kernel_rfl) (by decide) (by decide) (amR_cons (monoR_V _) (amR_cons (monoR_V _) (amR_cons (monoR_V _) (amR_cons (monoR_own (by decide) (by decide) (Nat.le_trans hB hge_g7)) amR_nil)))) hb_g7 ?_ (fun f w_ hS25 hE25 hbr25 hT25 => ?_)
  ·
    refine opsR_cons (by decide) (fun f w_ hS25 hE25 hbr25 hP25 => ?_) ?_
    ·
      have hx := ext_mut hx hE25 hge_g7
      have hr17_0 := hE25.rel hr17_0 (by decide) (Nat.le_trans hB hge_g7)
      have hr17_1 := hE25.rel hr17_1 (by decide) (Nat.le_trans hB hge_g7)
      have hb_g18 := hE25.blk hb_g18 (by decide)
      refine L_lda (cs := [r17_0, r17_1]) rfl Try.isAgg26 Try.sizeOf26 ((hS25 5 rfl).trans rfl) (Blk.sub hb_g18 0 2) rfl ?_
      exact L_nil ⟨rfl, (ext_refl _), _, _, rfl, rfl, rfl⟩
    refine opsR_cons (by decide) (fun f w_ hS25 hE25 hbr25 hP25 => ?_) ?_
    ·
      have hx := ext_mut hx hE25 hge_g7
      refine L_mv (v := .pointer (some ⟨g7, 0, none⟩)) rfl ((hS25 4 rfl).trans rfl) ?_
      exact L_nil ⟨rfl, (ext_refl _), _, _, rfl, rfl, rfl⟩
    refine opsR_cons (by decide) (fun f w_ hS25 hE25 hbr25 hP25 => ?_) ?_
    ·
      have hx := ext_mut hx hE25 hge_g7
      have hr17_0 := hE25.rel hr17_0 (by decide) (Nat.le_trans hB hge_g7)
      have hr17_1 := hE25.rel hr17_1 (by decide) (Nat.le_trans hB hge_g7)
      have hb_g18 := hE25.blk hb_g18 (by decide)
      refine L_lda (cs := [r17_0, r17_1]) rfl Try.isAgg26 Try.sizeOf26 ((hS25 5 rfl).trans rfl) (Blk.sub hb_g18 0 2) rfl ?_
      exact L_nil ⟨rfl, (ext_refl _), _, _, rfl, rfl, rfl⟩
    refine opsR_draw 0 rfl (by first | exact .inl rfl | exact .inr ⟨_, rfl, by decide⟩) (fun f w_ hS25 hE25 hbr25 hP25 => ?_) ?_
    ·
      have hx := ext_mut hx hE25 hge_g7
      have hb_g7 : Blk w_ g7 86 #[u7, .int .i64 x10.2] := hbr25
      have hu7 := hE25.rel hu7 (by decide) (Nat.le_trans hB hge_g7)
      have hr17_0 := hE25.rel hr17_0 (by decide) (Nat.le_trans hB hge_g7)
      have hr17_1 := hE25.rel hr17_1 (by decide) (Nat.le_trans hB hge_g7)
      refine L_call (args := #[.pointer (some ⟨g7, 0, none⟩), .agg #[r17_0, r17_1]]) rfl Try.call54 (ops2 (hP25 1 13 rfl rfl) (hP25 2 14 rfl rfl)) (s_l6DrawCells_c (r_ := ({ b := x5.b, p := x10.2 } : Rd)) (m := x10.1) (Nat.le_trans hB hx.size) hb_g7 (rel0 hu7) (Nat.le_trans hB hge_g7) (rel0 hr17_0) (rel0 hr17_1) hx22) ?_
      rintro r27_0 w27 ⟨⟨⟨_, rfl, hr27_0⟩, hbn27⟩, he27⟩
      have hr27_0 : Own _ _ w.heap.size B _ _ _ := hr27_0.wide hx.size (Nat.le_refl _)
      have hu7 := he27.rel hu7 (by decide) (Nat.le_trans hB hge_g7)
      have hr17_0 := he27.rel hr17_0 (by decide) (Nat.le_trans hB hge_g7)
      have hr17_1 := he27.rel hr17_1 (by decide) (Nat.le_trans hB hge_g7)
      have hx := ext_mut hx he27 hge_g7
      have hb_g7 := hbn27
      exact L_nil ⟨rfl, he27, hb_g7, _, _, rfl, rfl, hr27_0⟩
    exact opsR_nil
  ·
    have hb_g3 := hE25.blk hb_g3 (by decide)
    have hu7 := hE25.rel hu7 (by decide) (Nat.le_trans hB hge_g7)
    have hr17_0 := hE25.rel hr17_0 (by decide) (Nat.le_trans hB hge_g7)
    have hr17_1 := hE25.rel hr17_1 (by decide) (Nat.le_trans hB hge_g7)
    have hb_g18 := hE25.blk hb_g18 (by decide)
    have hx := ext_mut hx hE25 hge_g7
    have hb_g7 : Blk w_ g7 86 #[u7, .int .i64 x22.2] := hbr25
    have hd28 := (hT25 3 15 rfl rfl)
    refine L_sta (vs := #[r17_0, r17_1]) rfl Try.sizeOf26 ((hS25 2 rfl).trans rfl) (hT25 0 12 rfl rfl) rfl (ones_cons (one_of hr17_0) (ones_cons (one_of hr17_1) ones_nil)) hb_g3 rfl ?_
    intro w29 hp29
    have hr17_0 := hp29.mu.rel hr17_0 (by decide) (Nat.le_trans hB hge_g3)
    have hr17_1 := hp29.mu.rel hr17_1 (by decide) (Nat.le_trans hB hge_g3)
    have hd28 := hp29.mu.ownT hd28 (by decide) (by decide) (Nat.le_trans hB hge_g3)
    have hx := ext_mut hx hp29.mu hge_g3
    have hb_g3 : Blk w29 g3 26 #[r17_0, r17_1] := hp29.blk
    refine L_as (v := (f 15)) rfl rfl ?_
    refine L_nil ?_
    refine W_ret ?_
    have hG := assertM_some hF
    refine retc1 Try.results58 Try.isAgg26 Try.sizeOf26 ((hS25 2 rfl).trans rfl) hb_g3 rfl ?_
    exact ⟨⟨(x10.1, x22.1), hG, ⟨r17_0, r17_1, (f 15), (tup2_eq rfl rfl), (rel0 hr17_0), (rel0 hr17_1), (rel0 (Own.rel hd28))⟩⟩, hx⟩

theorem i_Model_solves_1_c {c1 : List Int} {r_ : Rule} {v0_1 : Value} {v0_2 : Value} {v0_4 : Value} {g_c1 : Nat} {v1_0 : Value} {w : World} {B : Nat} (hB : B ≤ w.heap.size) (h0_1 : (RP.slice 3 RP.int).rel B w.heap.size w [v0_1] r_.vars) (h0_2 : (RP.slice 3 RP.int).rel B w.heap.size w [v0_2] r_.coefs) (h0_4 : (RP.slice 23 (RP.slice 3 RP.int)).rel B w.heap.size w [v0_4] r_.rows) (hat_g_c1 : At w g_c1 0 [v1_0]) (h1_0 : (RP.slice 3 RP.int).rel B w.heap.size w [v1_0] c1) {r : Bool} (hF : i_Model_solves_1 c1 r_ = some r) :
    C Try.prog 85 #[.agg #[.int .i64 r_.kind, v0_1, v0_2, .int .i64 r_.bound, v0_4], .pointer (some ⟨g_c1, 0, none⟩)] w fun v w' => (v = .bool r) ∧ Ext w w' := by
  unfold i_Model_solves_1 at hF
  have hlt_g_c1 := hat_g_c1.lt
  have hx := ext_refl w
  refine C_enter Try.func85 rfl Try.ntmps85 rfl ?_
  refine W_seq ?_
  refine W_region ?_
  refine L_box (v := .agg #[.int .i64 r_.kind, v0_1, v0_2, .int .i64 r_.bound, v0_4]) (cs := #[.int .i64 r_.kind, v0_1, v0_2, .int .i64 r_.bound, v0_4]) rfl rfl rfl ?_
  intro g3 w4 hn4
  have hge_g3 := hn4.geS hx.size
  have hb_g3 := hn4.blk
  have h0_1 := RP.ext h0_1 hn4.ext
  have h0_2 := RP.ext h0_2 hn4.ext
  have h0_4 := RP.ext h0_4 hn4.ext
  have h1_0 := RP.ext h1_0 hn4.ext
  have hat_g_c1 := At.ext hat_g_c1 hn4.ext
  have hx := ext_trans hx hn4.ext
  refine L_as (v := .bool false) rfl rfl ?_
  refine L_nil ?_
  refine W_seq ?_
  obtain ⟨x5, hx5, hF⟩ := bind_some hF
  refine W_region ?_
  refine L_lda (cs := [.int .i64 r_.kind, v0_1, v0_2, .int .i64 r_.bound, v0_4]) rfl Try.isAgg36 Try.sizeOf36 rfl (Blk.sub hb_g3 0 5) rfl ?_
  refine L_ld (v := v1_0) rfl Try.isAgg23 rfl (hat_g_c1.cell (j := 0) rfl) ?_
  refine L_call (args := #[.agg #[.int .i64 r_.kind, v0_1, v0_2, .int .i64 r_.bound, v0_4], v1_0]) rfl Try.call56 (ops2 rfl rfl) (i_Rule_at_c (r_ := r_) (cells := c1) (Nat.le_trans hB hx.size) (rel0 h0_1) (rel0 h0_2) (rel0 h0_4) (rel0 h1_0) hx5) ?_
  rintro _ w7 ⟨rfl, he7⟩
  have h0_1 := RP.ext h0_1 he7
  have h0_2 := RP.ext h0_2 he7
  have h0_4 := RP.ext h0_4 he7
  have h1_0 := RP.ext h1_0 he7
  have hx := ext_trans hx he7
  refine L_not_ (b := x5) rfl rfl ?_
  refine L_as (v := .bool (!x5)) rfl rfl ?_
  refine L_nil ?_
  refine W_ret ?_
  obtain rfl := so hF
  refine ret1 Try.results85 ?_
  exact ⟨rfl, hx⟩

theorem i_Model_solves_c {m : Model} {cells : List Int} {v0_0 : Value} {v0_1 : Value} {v1 : Value} {w : World} {B : Nat} (hB : B ≤ w.heap.size) (h0_0 : (RP.slice 3 RP.int).rel B w.heap.size w [v0_0] m.sizes) (h0_1 : (RP.slice 36 (rRule 3 23)).rel B w.heap.size w [v0_1] m.rules) (h1 : (RP.slice 3 RP.int).rel B w.heap.size w [v1] cells) {r : Bool} (hF : i_Model_solves m cells = some r) :
    C Try.prog 59 #[.agg #[v0_0, v0_1], v1] w fun v w' => (v = .bool r) ∧ Ext w w' := by
  unfold i_Model_solves at hF
  have hx := ext_refl w
  refine C_enter Try.func59 rfl Try.ntmps59 rfl ?_
  refine W_seq ?_
  refine W_region ?_
  refine L_box (v := .agg #[v0_0, v0_1]) (cs := #[v0_0, v0_1]) rfl rfl rfl ?_
  intro g5 w6 hn6
  have hge_g5 := hn6.geS hx.size
  have hb_g5 := hn6.blk
  have h0_0 := RP.ext h0_0 hn6.ext
  have h0_1 := RP.ext h0_1 hn6.ext
  have h1 := RP.ext h1 hn6.ext
  have hx := ext_trans hx hn6.ext
  refine L_box (v := v1) (cs := #[v1]) rfl rfl (cells_one (one_of h1)) ?_
  intro g7 w8 hn8
  have hge_g7 := hn8.geS hx.size
  have hb_g7 := hn8.blk
  have h0_0 := RP.ext h0_0 hn8.ext
  have h0_1 := RP.ext h0_1 hn8.ext
  have h1 := RP.ext h1 hn8.ext
  have hb_g5 := Blk.ext hb_g5 hn8.ext
  have hx := ext_trans hx hn8.ext
  refine L_as (v := .bool false) rfl rfl ?_
  refine L_nil ?_
  refine W_seq ?_
  obtain ⟨x9, hx9, hF⟩ := bind_some hF
  refine W_region ?_
  refine L_fa (o' := 1) rfl fa_26_1 rfl rfl ?_
  refine L_ld (v := v0_1) rfl Try.isAgg24 rfl (hb_g5.cell (j := 1) rfl) ?_
  refine L_mf rfl (ops1 rfl) ?_
  have hf11 : Fun1 Try.prog B (rRule 3 23) true Value.bool (i_Model_solves_1 cells) (.func (.func 85) #[] #[.pointer (some ⟨g7, 0, none⟩)]) w8 := by
    refine ⟨_, _, rfl, Try.call85, fun w_ hE_ cs_ x_ y_ args_ hr_ hy_ ha_ => ?_⟩
    obtain ⟨p0, p1, p2, rfl, hp0, hp1, hp2⟩ := rRule_iff.1 hr_
    obtain rfl := args_of (b := #[.agg #[.int .i64 x_.kind, p0, p1, .int .i64 x_.bound, p2], .pointer (some ⟨g7, 0, none⟩)]) ha_
    exact i_Model_solves_1_c (c1 := cells) (r_ := x_) (Nat.le_trans hB (ext_trans hx hE_).size) hp0 hp1 hp2 (At.ext (Blk.at hb_g7) hE_) (rel0 (RP.ext h1 hE_)) hy_
  refine L_call (args := #[v0_1, .func (.func 85) #[] #[.pointer (some ⟨g7, 0, none⟩)]]) rfl Try.call66 (ops2 rfl rfl) (slices_ContainsFunc_implRule_c (s := m.rules) (f_ := (i_Model_solves_1 cells)) (Nat.le_trans hB hx.size) (rel0 h0_1) hf11 hx9) ?_
  rintro _ w12 ⟨rfl, he12⟩
  have h0_1 := RP.ext h0_1 he12
  have h1 := RP.ext h1 he12
  have hb_g7 := Blk.ext hb_g7 he12
  have hx := ext_trans hx he12
  refine L_not_ (b := x9) rfl rfl ?_
  refine L_as (v := .bool (!x9)) rfl rfl ?_
  refine L_nil ?_
  refine W_ret ?_
  obtain rfl := so hF
  refine ret1 Try.results59 ?_
  exact ⟨rfl, hx⟩

theorem i_SolvesModel_c {m : Model} {cells : List Int} {v0_0 : Value} {v0_1 : Value} {v1 : Value} {w : World} {B : Nat} (hB : B ≤ w.heap.size) (h0_0 : (RP.slice 3 RP.int).rel B w.heap.size w [v0_0] m.sizes) (h0_1 : (RP.slice 36 (rRule 3 23)).rel B w.heap.size w [v0_1] m.rules) (h1 : (RP.slice 3 RP.int).rel B w.heap.size w [v1] cells) {r : Bool} (hF : i_SolvesModel m cells = some r) :
    C Try.prog 22 #[.agg #[v0_0, v0_1], v1] w fun v w' => (v = .bool r) ∧ Ext w w' := by
  unfold i_SolvesModel at hF
  have hx := ext_refl w
  refine C_enter Try.func22 rfl Try.ntmps22 rfl ?_
  refine W_seq ?_
  refine W_region ?_
  refine L_box (v := .agg #[v0_0, v0_1]) (cs := #[v0_0, v0_1]) rfl rfl rfl ?_
  intro g3 w4 hn4
  have hge_g3 := hn4.geS hx.size
  have hb_g3 := hn4.blk
  have h0_0 := RP.ext h0_0 hn4.ext
  have h0_1 := RP.ext h0_1 hn4.ext
  have h1 := RP.ext h1 hn4.ext
  have hx := ext_trans hx hn4.ext
  refine L_as (v := .bool false) rfl rfl ?_
  refine L_nil ?_
  refine W_seq ?_
  obtain ⟨x5, hx5, hF⟩ := bind_some hF
  obtain ⟨b9, hb9, hF⟩ := bind_some hF
  obtain ⟨R10, hR10⟩ : ∃ R : Fr → World → Prop, R = fun f w_ => f 4 = .bool b9 ∧ Ext w w_ := ⟨_, rfl⟩
  refine W_join R10 ?_ ?_
  ·
    refine W_region ?_
    refine L_lda (cs := [v0_0, v0_1]) rfl Try.isAgg26 Try.sizeOf26 rfl (Blk.sub hb_g3 0 2) rfl ?_
    refine L_mv (v := v1) rfl rfl ?_
    refine L_call (args := #[.agg #[v0_0, v0_1], v1]) rfl Try.call20 (ops2 rfl rfl) (i_CellsValid_c (m := m) (cells := cells) (Nat.le_trans hB hx.size) (rel0 h0_0) (rel0 h0_1) (rel0 h1) hx5) ?_
    rintro _ w11 ⟨rfl, he11⟩
    have h0_0 := RP.ext h0_0 he11
    have h0_1 := RP.ext h0_1 he11
    have h1 := RP.ext h1 he11
    have hb_g3 := Blk.ext hb_g3 he11
    have hx := ext_trans hx he11
    refine L_mv (v := .bool x5) rfl rfl ?_
    refine L_split (d := 8) (b := x5) rfl (fun hc12 => ?_) (fun hc12 => ?_)
    ·
      rw [ite_t hc12] at hb9
      obtain ⟨x7, hx7, hb9⟩ := bind_some hb9
      refine L_lda (cs := [v0_0, v0_1]) rfl Try.isAgg26 Try.sizeOf26 rfl (Blk.sub hb_g3 0 2) rfl ?_
      refine L_mv (v := v1) rfl rfl ?_
      refine L_call (args := #[.agg #[v0_0, v0_1], v1]) rfl Try.call59 (ops2 rfl rfl) (i_Model_solves_c (m := m) (cells := cells) (Nat.le_trans hB hx.size) (rel0 h0_0) (rel0 h0_1) (rel0 h1) hx7) ?_
      rintro _ w13 ⟨rfl, he13⟩
      have h0_0 := RP.ext h0_0 he13
      have h0_1 := RP.ext h0_1 he13
      have h1 := RP.ext h1 he13
      have hx := ext_trans hx he13
      refine L_pick (v := .bool b9) rfl rfl (congrArg Value.bool (so hb9)) ?_
      refine L_as (v := .bool b9) rfl rfl ?_
      refine L_nil ?_
      show R10 _ _
      rw [hR10]
      exact ⟨rfl, hx⟩
    ·
      rw [ite_f hc12] at hb9
      refine L_pass rfl ?_
      refine L_pass rfl ?_
      refine L_pass rfl ?_
      refine L_pick (v := .bool b9) rfl rfl (congrArg Value.bool (so hb9)) ?_
      refine L_as (v := .bool b9) rfl rfl ?_
      refine L_nil ?_
      show R10 _ _
      rw [hR10]
      exact ⟨rfl, hx⟩
  ·
    intro f w_ hR
    rw [hR10] at hR
    obtain ⟨sf4, hx⟩ := hR
    clear hR10
    refine W_ret ?_
    obtain rfl := so hF
    refine ret1 Try.results22 ?_
    exact ⟨sf4, hx⟩

theorem s_l6Solves_c {m : Model} {cells : List Int} {v0_0 : Value} {v0_1 : Value} {v1 : Value} {w : World} {B : Nat} (hB : B ≤ w.heap.size) (h0_0 : (RP.slice 3 RP.int).rel B w.heap.size w [v0_0] m.sizes) (h0_1 : (RP.slice 36 (rRule 3 23)).rel B w.heap.size w [v0_1] m.rules) (h1 : (RP.slice 3 RP.int).rel B w.heap.size w [v1] cells) {r : Bool} (hF : s_l6Solves m cells = some r) :
    C Try.prog 60 #[.agg #[v0_0, v0_1], v1] w fun v w' => (v = .bool r) ∧ Ext w w' := by
  unfold s_l6Solves at hF
  have hx := ext_refl w
  refine C_enter Try.func60 rfl Try.ntmps60 rfl ?_
  refine W_seq ?_
  refine W_region ?_
  refine L_box (v := .agg #[v0_0, v0_1]) (cs := #[v0_0, v0_1]) rfl rfl rfl ?_
  intro g3 w4 hn4
  have hge_g3 := hn4.geS hx.size
  have hb_g3 := hn4.blk
  have h0_0 := RP.ext h0_0 hn4.ext
  have h0_1 := RP.ext h0_1 hn4.ext
  have h1 := RP.ext h1 hn4.ext
  have hx := ext_trans hx hn4.ext
  refine L_as (v := .bool false) rfl rfl ?_
  refine L_nil ?_
  refine W_seq ?_
  refine W_seq ?_
  refine W_region ?_
  refine L_as (v := .int .i64 0) rfl rfl ?_
  refine L_nil ?_
  have hlen6 := len_le h0_1
  obtain ⟨j6, hL6, hF⟩ := bind_some hF
  obtain ⟨R6, hR6⟩ : ∃ R : Fr → World → Prop, R = fun f w_ => j6 = .nx () ∧ Ext w w_ := ⟨_, rfl⟩
  refine W_join R6 ?_ ?_
  ·
    refine W_block ?_
    obtain ⟨I6, hI6⟩ : ∃ I : Nat → Fr → World → Prop, I = fun n f w_ => ∃ i_5 : Nat, ∃ suf6 : List Rule, n = suf6.length ∧ List.drop i_5 m.rules = suf6 ∧ i_5 + suf6.length = m.rules.length ∧ rangeL (s_l6Solves_b1 cells) suf6 i_5 () = some j6 ∧ f 1 = v1 ∧ f 2 = .pointer (some ⟨g3, 0, none⟩) ∧ f 5 = .int .i64 (i_5 : Int) ∧ (RP.slice 3 RP.int).rel B w.heap.size w_ [v1] cells ∧ (RP.slice 3 RP.int).rel B w.heap.size w_ [v0_0] m.sizes ∧ (RP.slice 36 (rRule 3 23)).rel B w.heap.size w_ [v0_1] m.rules ∧ Blk w_ g3 26 #[v0_0, v0_1] ∧ Ext w w_ := ⟨_, rfl⟩
    refine W_loop I6 (n := m.rules.length) ?_ ?_
    · rw [hI6]; exact ⟨0, m.rules, rfl, rfl, Nat.zero_add _, hL6, rfl, rfl, rfl, h1, h0_0, h0_1, hb_g3, hx⟩
    ·
      intro n6 f w_ hI
      rw [hI6] at hI
      obtain ⟨i_5, suf6, rfl, hd6, hl6, hL6, sf1, sf2, sf5, h1, h0_0, h0_1, hb_g3, hx⟩ := hI
      refine W_seq ?_
      refine W_seq ?_
      refine W_region ?_
      refine L_mv (v := .int .i64 (i_5 : Int)) rfl sf5 ?_
      refine L_fa (o' := 1) rfl fa_26_1 sf2 rfl ?_
      refine L_ld (v := v0_1) rfl Try.isAgg24 rfl (hb_g3.cell (j := 1) rfl) ?_
      refine L_len (v := v0_1) rfl Try.underlying24 rfl h0_1 ?_
      refine L_lss (m := (i_5 : Int)) (n := (m.rules.length : Int)) rfl rfl rfl ?_
      refine L_nil ?_
      refine W_cond (b := decide ((i_5 : Int) < (m.rules.length : Int))) rfl (fun hc7 => ?_) (fun hc7 => ?_)
      ·
        have hlt6 := of_decide_eq_true hc7
        cases suf6 with
        | nil => exact absurd hlt6 (by simp at hl6; omega)
        | cons x_6 rest6 =>
          obtain ⟨o6, hB6, hL6⟩ := range_cons hL6
          rw [s_l6Solves_b1] at hB6
          have hix6 := drop_idx hd6
          refine W_skip ?_
          refine W_seq ?_
          refine W_block ?_
          refine W_seq ?_
          obtain ⟨x10, hx10, hB6⟩ := bind_some hB6
          refine W_region ?_
          refine L_fa (o' := 1) rfl fa_26_1 sf2 rfl ?_
          refine L_ld (v := v0_1) rfl Try.isAgg24 rfl (hb_g3.cell (j := 1) rfl) ?_
          refine L_mv (v := .int .i64 (i_5 : Int)) rfl sf5 ?_
          refine L_ix (r := (rRule 3 23)) rfl Try.underlying24 Try.sizeOf36 rfl h0_1 rfl hix6 ?_
          intro g12 o13 cs13 hr13 hat13
          obtain ⟨u13_0, u13_1, u13_2, rfl, hu13_0, hu13_1, hu13_2⟩ := rRule_iff.1 hr13
          refine L_lda (cs := [.int .i64 x_6.kind, u13_0, u13_1, .int .i64 x_6.bound, u13_2]) rfl Try.isAgg36 Try.sizeOf36 rfl (At.sub hat13 0 5) rfl ?_
          refine L_mv (v := v1) rfl sf1 ?_
          refine L_call (args := #[.agg #[.int .i64 x_6.kind, u13_0, u13_1, .int .i64 x_6.bound, u13_2], v1]) rfl Try.call57 (ops2 rfl rfl) (s_l6Holds_c (r_ := x_6) (cells := cells) (Nat.le_trans hB hx.size) (rel0 hu13_0) (rel0 hu13_1) (rel0 hu13_2) (rel0 h1) hx10) ?_
          rintro _ w14 ⟨rfl, he14⟩
          have h1 := RP.ext h1 he14
          have h0_0 := RP.ext h0_0 he14
          have h0_1 := RP.ext h0_1 he14
          have hb_g3 := Blk.ext hb_g3 he14
          have hu13_0 := RP.ext hu13_0 he14
          have hu13_1 := RP.ext hu13_1 he14
          have hu13_2 := RP.ext hu13_2 he14
          have hx := ext_trans hx he14
          refine L_not_ (b := x10) rfl rfl ?_
          refine L_nil ?_
          refine W_cond (b := (!x10)) rfl (fun hc15 => ?_) (fun hc15 => ?_)
          ·
            have hB6 := (ite_t hc15).symm.trans hB6
            refine W_seq ?_
            refine W_region ?_
            refine L_as (v := .bool false) rfl rfl ?_
            refine L_nil ?_
            refine W_ret ?_
            obtain rfl := so hB6
            obtain rfl := so hL6
            obtain rfl := so hF
            refine ret1 Try.results60 ?_
            exact ⟨rfl, hx⟩
          ·
            have hB6 := (ite_f hc15).symm.trans hB6
            refine W_skip ?_
            refine W_region ?_
            refine L_mv (v := .int .i64 (i_5 : Int)) rfl sf5 ?_
            refine L_add (m := (i_5 : Int)) (n := 1) rfl rfl rfl ?_
            refine L_as (v := .int .i64 (i64 ((i_5 : Int) + 1))) rfl rfl ?_
            refine L_nil ?_
            obtain rfl := so hB6
            show ∃ m, m < _ ∧ I6 m _ _
            refine ⟨rest6.length, by simp, ?_⟩
            rw [hI6]
            exact ⟨i_5 + 1, rest6, rfl, drop_next hd6, by simp at hl6; omega, hL6, sf1, sf2, (Eq.trans rfl (congrArg (Value.int .i64) (i64_succ (n := m.rules.length) (by simp at hl6; omega) hlen6))), h1, h0_0, h0_1, hb_g3, hx⟩
      ·
        cases suf6 with
        | cons _ _ => exact absurd (of_decide_eq_false hc7) (by simp at hl6; omega)
        | nil =>
          obtain rfl := range_nil hL6
          refine W_exit ?_
          show R6 _ _
          rw [hR6]
          exact ⟨rfl, hx⟩
  ·
    intro f w_ hR
    rw [hR6] at hR
    obtain ⟨rfl, hx⟩ := hR
    clear hR6
    refine W_seq ?_
    refine W_region ?_
    refine L_as (v := .bool true) rfl rfl ?_
    refine L_nil ?_
    refine W_ret ?_
    obtain rfl := so hF
    refine ret1 Try.results60 ?_
    exact ⟨rfl, hx⟩

theorem slices_Clone_int_c {s : List Int} {v0 : Value} {w : World} {B : Nat} (hB : B ≤ w.heap.size) (h0 : (RP.slice 3 RP.int).rel B w.heap.size w [v0] s) {r : List Int} (hF : slices_Clone_int s = some r) :
    C Try.prog 74 #[v0] w fun v w' => (∃ u1 : Value, v = u1 ∧ Own RP.int 3 w.heap.size B w' u1 r) ∧ Ext w w' := by
  unfold slices_Clone_int at hF
  have hx := ext_refl w
  refine C_enter Try.func74 rfl Try.ntmps74 rfl ?_
  refine W_seq ?_
  refine W_region ?_
  refine L_as (v := (.slice none 0 0)) rfl rfl ?_
  refine L_nil ?_
  refine W_seq ?_
  refine W_seq ?_
  refine W_region ?_
  refine L_mv (v := v0) rfl rfl ?_
  obtain ⟨a1, cap1, hsl1, _, _⟩ := slice_len h0
  refine L_nileq (a := a1) rfl Try.underlying23 (Eq.trans rfl hsl1) rfl ?_
  rw [← hsl1]
  refine L_nil ?_
  rcases Bool.eq_false_or_eq_true (isNilS v0) with hn2 | hn2
  ·
    refine W_cond (b := true) (Eq.trans rfl (congrArg Value.bool hn2)) (fun _ => ?_) (fun h => nomatch h)
    obtain rfl := nil_of h0 hn2
    refine W_seq ?_
    refine W_region ?_
    refine L_as (v := (.slice none 0 0)) rfl rfl ?_
    refine L_nil ?_
    refine W_ret ?_
    simp [app] at hF
    subst hF
    refine ret1 Try.results74 ?_
    exact ⟨⟨(.slice none 0 0), rfl, (Own.nil _ _ _ _ _)⟩, hx⟩
  ·
    refine W_cond (b := false) (Eq.trans rfl (congrArg Value.bool hn2)) (fun h => nomatch h) (fun _ => ?_)
    refine W_skip ?_
    refine W_seq ?_
    obtain ⟨x5, hx5, hF⟩ := bind_some hF
    refine W_region ?_
    refine L_bs rfl parts0 (bs_23_0  ) ?_
    intro g7 w8 hn8
    have ho8 : Own RP.int 3 w.heap.size B w8 _ _ := own_new0 hn8 hx.size
    have hz8 := zero_new hn8 hx.size
    have h0 := RP.ext h0 hn8.ext
    have hx := ext_trans hx hn8.ext
    refine L_mv (v := v0) rfl rfl ?_
    refine L_app (v := (.slice (some ⟨g7, 0, none⟩) 0 0)) (u := v0) rfl et_23 (by decide) rfl rfl ho8 (rel0 h0) hx5 hx.size hB ?_
    intro v9 w9 ho9 hm9 hb9
    have hx := ext_mut hx hm9 (Nat.le_refl _)
    refine L_as (v := v9) rfl rfl ?_
    refine L_nil ?_
    refine W_ret ?_
    obtain rfl := so hF
    refine ret1 Try.results74 ?_
    exact ⟨⟨v9, rfl, ho9⟩, hx⟩

theorem i_each_c {fu : Nat} {sizes : List Int} {from_ : List Int} {told : (List Int → Option Bool)} {v0 : Value} {v1 : Value} {v2 : Value} {w : World} {B : Nat} (hB : B ≤ w.heap.size) (h0 : (RP.slice 3 RP.int).rel B w.heap.size w [v0] sizes) (h1 : (RP.slice 3 RP.int).rel B w.heap.size w [v1] from_) (h2 : Fun1 Try.prog B (RP.slice 3 RP.int) false Value.bool told v2 w) {r : Unit} (hF : i_each fu sizes from_ told = some r) :
    C Try.prog 63 #[v0, v1, v2] w fun v w' => (v = .tuple #[]) ∧ Ext w w' := by
  unfold i_each at hF
  obtain ⟨fid_2, caps_2, rfl, hcall_2, hc_2⟩ := h2
  have hx := ext_refl w
  refine C_enter Try.func63 rfl Try.ntmps63 rfl ?_
  refine W_seq ?_
  obtain ⟨x1, hx1, hF⟩ := bind_some hF
  refine W_region ?_
  refine L_mv (v := v1) rfl rfl ?_
  refine L_call (args := #[v1]) rfl Try.call74 (ops1 rfl) (slices_Clone_int_c (s := from_) (Nat.le_trans hB hx.size) (rel0 h1) hx1) ?_
  rintro r3_0 w3 ⟨⟨_, rfl, hr3_0⟩, he3⟩
  have hr3_0 : Own _ _ w.heap.size B _ _ _ := hr3_0.wide hx.size (Nat.le_refl _)
  have h0 := RP.ext h0 he3
  have h1 := RP.ext h1 he3
  have hx := ext_trans hx he3
  refine L_as (v := r3_0) rfl rfl ?_
  refine L_nil ?_
  obtain ⟨j6, hL6, hF⟩ := bind_some hF
  obtain ⟨R6, hR6⟩ : ∃ R : Fr → World → Prop, R = fun f w_ => ∃ cells_5 : List Int, j6 = .nx cells_5 ∧ Ext w w_ := ⟨_, rfl⟩
  refine W_join R6 ?_ ?_
  ·
    refine W_block ?_
    obtain ⟨I6, hI6⟩ : ∃ I : Nat → Fr → World → Prop, I = fun n f w_ => ∃ cells_5 : List Int, ∃ v5_cells : Value, whileL (i_each_b1 fu sizes told) n cells_5 = some j6 ∧ f 0 = v0 ∧ f 2 = .func (.func fid_2) #[] caps_2 ∧ f 6 = v5_cells ∧ (RP.slice 3 RP.int).rel B w.heap.size w_ [v0] sizes ∧ Own RP.int 3 w.heap.size B w_ v5_cells cells_5 ∧ Ext w w_ := ⟨_, rfl⟩
    refine W_loop I6 (n := fu) ?_ ?_
    · rw [hI6]; exact ⟨x1, r3_0, hL6, rfl, rfl, rfl, h0, hr3_0, hx⟩
    ·
      intro n6 f w_ hI
      rw [hI6] at hI
      obtain ⟨cells_5, v5_cells, hL6, sf0, sf2, sf6, h0, hv5_cells, hx⟩ := hI
      cases n6 with
      | zero => exact (while_zero hL6).elim
      | succ n6 =>
        obtain ⟨o6, hB6, hL6⟩ := while_succ hL6
        rw [i_each_b1] at hB6
        refine W_seq ?_
        refine W_seq ?_
        obtain ⟨x7, hx7, hB6⟩ := bind_some hB6
        refine W_region ?_
        refine L_mv (v := .func (.func fid_2) #[] caps_2) rfl sf2 ?_
        refine L_mv (v := v5_cells) rfl sf6 ?_
        refine L_callv (args := #[v5_cells]) rfl hcall_2 rfl (ops1 rfl) (hc_2 _ hx [v5_cells] _ _ _ (rel0 (Own.rel hv5_cells)) hx7 (args_app rfl)) ?_
        rintro _ w8 ⟨rfl, he8⟩
        have h0 := RP.ext h0 he8
        have hv5_cells := Own.ext hv5_cells he8
        have hx := ext_trans hx he8
        refine L_nil ?_
        refine W_cond (b := x7) rfl (fun hc9 => ?_) (fun hc9 => ?_)
        ·
          have hB6 := (ite_t hc9).symm.trans hB6
          refine W_skip ?_
          refine W_block ?_
          refine W_seq ?_
          refine W_region ?_
          refine L_mv (v := v5_cells) rfl sf6 ?_
          refine L_len (v := v5_cells) rfl Try.underlying23 rfl (Own.rel hv5_cells) ?_
          refine L_sub (m := (cells_5.length : Int)) (n := 1) rfl rfl rfl ?_
          refine L_as (v := .int .i64 (i64 ((cells_5.length : Int) - 1))) rfl rfl ?_
          refine L_nil ?_
          refine W_seq ?_
          obtain ⟨j13, hL13, hB6⟩ := bind_some hB6
          obtain ⟨R13, hR13⟩ : ∃ R : Fr → World → Prop, R = fun f w_ => ∃ cells_11 : List Int, ∃ i_12 : Int, ∃ v11_cells : Value, j13 = .nx (cells_11, i_12) ∧ f 0 = v0 ∧ f 2 = .func (.func fid_2) #[] caps_2 ∧ f 6 = v11_cells ∧ f 7 = .int .i64 i_12 ∧ (RP.slice 3 RP.int).rel B w.heap.size w_ [v0] sizes ∧ Own RP.int 3 w.heap.size B w_ v11_cells cells_11 ∧ Ext w w_ := ⟨_, rfl⟩
          refine W_join R13 ?_ ?_
          ·
            refine W_block ?_
            obtain ⟨I13, hI13⟩ : ∃ I : Nat → Fr → World → Prop, I = fun n f w_ => ∃ cells_11 : List Int, ∃ i_12 : Int, ∃ v11_cells : Value, whileL (i_each_b2 sizes) n (cells_11, i_12) = some j13 ∧ f 0 = v0 ∧ f 2 = .func (.func fid_2) #[] caps_2 ∧ f 6 = v11_cells ∧ f 7 = .int .i64 i_12 ∧ (RP.slice 3 RP.int).rel B w.heap.size w_ [v0] sizes ∧ Own RP.int 3 w.heap.size B w_ v11_cells cells_11 ∧ Ext w w_ := ⟨_, rfl⟩
            refine W_loop I13 (n := fu) ?_ ?_
            · rw [hI13]; exact ⟨cells_5, i64 ((cells_5.length : Int) - 1), v5_cells, hL13, sf0, sf2, sf6, rfl, h0, hv5_cells, hx⟩
            ·
              intro n13 f w_ hI
              rw [hI13] at hI
              obtain ⟨cells_11, i_12, v11_cells, hL13, sf0, sf2, sf6, sf7, h0, hv11_cells, hx⟩ := hI
              cases n13 with
              | zero => exact (while_zero hL13).elim
              | succ n13 =>
                obtain ⟨o13, hB13, hL13⟩ := while_succ hL13
                rw [i_each_b2] at hB13
                refine W_seq ?_
                refine W_seq ?_
                obtain ⟨b20, hb20, hB13⟩ := bind_some hB13
                obtain ⟨R22, hR22⟩ : ∃ R : Fr → World → Prop, R = fun f w_ => f 0 = v0 ∧ f 2 = .func (.func fid_2) #[] caps_2 ∧ f 6 = v11_cells ∧ f 7 = .int .i64 i_12 ∧ f 28 = .bool b20 ∧ (RP.slice 3 RP.int).rel B w.heap.size w_ [v0] sizes ∧ Own RP.int 3 w.heap.size B w_ v11_cells cells_11 ∧ Ext w w_ := ⟨_, rfl⟩
                refine W_join R22 ?_ ?_
                ·
                  rcases Bool.eq_false_or_eq_true (decide (i_12 ≥ 0)) with hc23 | hc23
                  ·
                    rw [ite_t hc23] at hb20
                    obtain ⟨x14, hx14, hb20⟩ := bind_some hb20
                    obtain ⟨x17, hx17, hb20⟩ := bind_some hb20
                    refine W_drawL 11 [isV (.int .i64 i_12), isV (.bool (decide (i_12 ≥ 0))), isV (.bool (decide (i_12 ≥ 0))), isV (v11_cells), isV (.int .i64 i_12), isEl B RP.int x14 0, isV (.int .i64 x14), isV (v0), isV (.int .i64 i_12), isEl B RP.int x17 0, isV (.int .i64 x17)] Try_mix (by kernel_rfl) (am_cons (mono_V _) (am_cons (mono_V _) (am_cons (mono_V _) (am_cons (mono_V _) (am_cons (mono_V _) (am_cons (mono_el _ _ _ _) (am_cons (mono_V _) (am_cons (mono_V _) (am_cons (mono_V _) (am_cons (mono_el _ _ _ _) (am_cons (mono_V _) am_nil))))))))))) ?_ (fun f w_ hS21 hE21 hT21 => ?_)
                    ·
                      refine ops_cons (fun f w_ hS21 hE21 hP21 => ?_) ?_
                      ·
                        have hx := ext_trans hx hE21
                        refine L_mv (v := .int .i64 i_12) rfl ((hS21 7 rfl).trans sf7) ?_
                        exact L_nil ⟨rfl, (ext_refl _), _, _, rfl, rfl, rfl⟩
                      refine ops_cons (fun f w_ hS21 hE21 hP21 => ?_) ?_
                      ·
                        have hx := ext_trans hx hE21
                        refine L_geq (m := i_12) (n := 0) rfl (hP21 0 16 rfl rfl) rfl ?_
                        exact L_nil ⟨rfl, (ext_refl _), _, _, rfl, rfl, rfl⟩
                      refine ops_cons (fun f w_ hS21 hE21 hP21 => ?_) ?_
                      ·
                        have hx := ext_trans hx hE21
                        refine L_mv (v := .bool (decide (i_12 ≥ 0))) rfl (hP21 1 17 rfl rfl) ?_
                        exact L_nil ⟨rfl, (ext_refl _), _, _, rfl, rfl, rfl⟩
                      refine ops_cons (fun f w_ hS21 hE21 hP21 => ?_) ?_
                      ·
                        have hx := ext_trans hx hE21
                        have hv11_cells := Own.ext hv11_cells hE21
                        refine L_mv (v := v11_cells) (g_yes rfl (Eq.trans (hP21 2 18 rfl rfl) (congrArg Value.bool hc23)) rfl) ((hS21 6 rfl).trans sf6) ?_
                        exact L_nil ⟨rfl, (ext_refl _), _, _, rfl, rfl, rfl⟩
                      refine ops_cons (fun f w_ hS21 hE21 hP21 => ?_) ?_
                      ·
                        have hx := ext_trans hx hE21
                        refine L_mv (v := .int .i64 i_12) (g_yes rfl (Eq.trans (hP21 2 18 rfl rfl) (congrArg Value.bool hc23)) rfl) ((hS21 7 rfl).trans sf7) ?_
                        exact L_nil ⟨rfl, (ext_refl _), _, _, rfl, rfl, rfl⟩
                      refine ops_cons (fun f w_ hS21 hE21 hP21 => ?_) ?_
                      ·
                        have hx := ext_trans hx hE21
                        have hv11_cells := Own.ext hv11_cells hE21
                        refine L_ix (r := RP.int) (g_yes rfl (Eq.trans (hP21 2 18 rfl rfl) (congrArg Value.bool hc23)) rfl) Try.underlying23 Try.sizeOf3 (hP21 3 19 rfl rfl) (Own.rel hv11_cells) (hP21 4 20 rfl rfl) hx14 ?_
                        intro g28 o29 cs29 hr29 hat29
                        obtain rfl : _ = [_] := hr29
                        exact L_nil ⟨rfl, (ext_refl _), _, _, rfl, rfl, ⟨_, _, _, rfl, rfl, hat29⟩⟩
                      refine ops_cons (fun f w_ hS21 hE21 hP21 => ?_) ?_
                      ·
                        have hx := ext_trans hx hE21
                        obtain ⟨g30, o30, cs30, hv30, hr30, hat30⟩ := (hP21 5 21 rfl rfl)
                        obtain rfl : _ = [_] := hr30
                        refine L_ld (v := .int .i64 x14) (g_yes rfl (Eq.trans (hP21 2 18 rfl rfl) (congrArg Value.bool hc23)) rfl) Try.isAgg3 hv30 (hat30.cell (j := 0) rfl) ?_
                        exact L_nil ⟨rfl, (ext_refl _), _, _, rfl, rfl, rfl⟩
                      refine ops_cons (fun f w_ hS21 hE21 hP21 => ?_) ?_
                      ·
                        have hx := ext_trans hx hE21
                        have h0 := RP.ext h0 hE21
                        refine L_mv (v := v0) (g_yes rfl (Eq.trans (hP21 2 18 rfl rfl) (congrArg Value.bool hc23)) rfl) ((hS21 0 rfl).trans sf0) ?_
                        exact L_nil ⟨rfl, (ext_refl _), _, _, rfl, rfl, rfl⟩
                      refine ops_cons (fun f w_ hS21 hE21 hP21 => ?_) ?_
                      ·
                        have hx := ext_trans hx hE21
                        refine L_mv (v := .int .i64 i_12) (g_yes rfl (Eq.trans (hP21 2 18 rfl rfl) (congrArg Value.bool hc23)) rfl) ((hS21 7 rfl).trans sf7) ?_
                        exact L_nil ⟨rfl, (ext_refl _), _, _, rfl, rfl, rfl⟩
                      refine ops_cons (fun f w_ hS21 hE21 hP21 => ?_) ?_
                      ·
                        have hx := ext_trans hx hE21
                        have h0 := RP.ext h0 hE21
                        refine L_ix (r := RP.int) (g_yes rfl (Eq.trans (hP21 2 18 rfl rfl) (congrArg Value.bool hc23)) rfl) Try.underlying23 Try.sizeOf3 (hP21 7 23 rfl rfl) h0 (hP21 8 24 rfl rfl) hx17 ?_
                        intro g31 o32 cs32 hr32 hat32
                        obtain rfl : _ = [_] := hr32
                        exact L_nil ⟨rfl, (ext_refl _), _, _, rfl, rfl, ⟨_, _, _, rfl, rfl, hat32⟩⟩
                      refine ops_cons (fun f w_ hS21 hE21 hP21 => ?_) ?_
                      ·
                        have hx := ext_trans hx hE21
                        obtain ⟨g33, o33, cs33, hv33, hr33, hat33⟩ := (hP21 9 25 rfl rfl)
                        obtain rfl : _ = [_] := hr33
                        refine L_ld (v := .int .i64 x17) (g_yes rfl (Eq.trans (hP21 2 18 rfl rfl) (congrArg Value.bool hc23)) rfl) Try.isAgg3 hv33 (hat33.cell (j := 0) rfl) ?_
                        exact L_nil ⟨rfl, (ext_refl _), _, _, rfl, rfl, rfl⟩
                      exact ops_nil
                    ·
                      have h0 := RP.ext h0 hE21
                      have hv11_cells := Own.ext hv11_cells hE21
                      have hx := ext_trans hx hE21
                      refine L_eql (m := x14) (n := x17) (g_yes rfl (Eq.trans (hT21 2 18 rfl rfl) (congrArg Value.bool hc23)) rfl) (hT21 6 22 rfl rfl) (hT21 10 26 rfl rfl) ?_
                      refine L_pick (v := .bool b20) rfl (Eq.trans (hT21 2 18 rfl rfl) (congrArg Value.bool hc23)) (congrArg Value.bool (so hb20)) ?_
                      refine L_nil ?_
                      show R22 _ _
                      rw [hR22]
                      exact ⟨((hS21 0 rfl).trans sf0), ((hS21 2 rfl).trans sf2), ((hS21 6 rfl).trans sf6), ((hS21 7 rfl).trans sf7), rfl, h0, hv11_cells, hx⟩
                  ·
                    rw [ite_f hc23] at hb20
                    refine W_drawL 11 [isV (.int .i64 i_12), isV (.bool (decide (i_12 ≥ 0))), isV (.bool (decide (i_12 ≥ 0))), isV (undef), isV (undef), isV (undef), isV (undef), isV (undef), isV (undef), isV (undef), isV (undef)] Try_mix (by kernel_rfl) (am_cons (mono_V _) (am_cons (mono_V _) (am_cons (mono_V _) (am_cons (mono_V _) (am_cons (mono_V _) (am_cons (mono_V _) (am_cons (mono_V _) (am_cons (mono_V _) (am_cons (mono_V _) (am_cons (mono_V _) (am_cons (mono_V _) am_nil))))))))))) ?_ (fun f w_ hS21 hE21 hT21 => ?_)
                    ·
                      refine ops_cons (fun f w_ hS21 hE21 hP21 => ?_) ?_
                      ·
                        have hx := ext_trans hx hE21
                        refine L_mv (v := .int .i64 i_12) rfl ((hS21 7 rfl).trans sf7) ?_
                        exact L_nil ⟨rfl, (ext_refl _), _, _, rfl, rfl, rfl⟩
                      refine ops_cons (fun f w_ hS21 hE21 hP21 => ?_) ?_
                      ·
                        have hx := ext_trans hx hE21
                        refine L_geq (m := i_12) (n := 0) rfl (hP21 0 16 rfl rfl) rfl ?_
                        exact L_nil ⟨rfl, (ext_refl _), _, _, rfl, rfl, rfl⟩
                      refine ops_cons (fun f w_ hS21 hE21 hP21 => ?_) ?_
                      ·
                        have hx := ext_trans hx hE21
                        refine L_mv (v := .bool (decide (i_12 ≥ 0))) rfl (hP21 1 17 rfl rfl) ?_
                        exact L_nil ⟨rfl, (ext_refl _), _, _, rfl, rfl, rfl⟩
                      refine ops_cons (fun f w_ hS21 hE21 hP21 => ?_) ?_
                      ·
                        have hx := ext_trans hx hE21
                        have hv11_cells := Own.ext hv11_cells hE21
                        refine L_pass (g_no rfl (Eq.trans (hP21 2 18 rfl rfl) (congrArg Value.bool hc23)) rfl rfl) ?_
                        exact L_nil ⟨rfl, (ext_refl _), _, _, rfl, rfl, rfl⟩
                      refine ops_cons (fun f w_ hS21 hE21 hP21 => ?_) ?_
                      ·
                        have hx := ext_trans hx hE21
                        refine L_pass (g_no rfl (Eq.trans (hP21 2 18 rfl rfl) (congrArg Value.bool hc23)) rfl rfl) ?_
                        exact L_nil ⟨rfl, (ext_refl _), _, _, rfl, rfl, rfl⟩
                      refine ops_cons (fun f w_ hS21 hE21 hP21 => ?_) ?_
                      ·
                        have hx := ext_trans hx hE21
                        refine L_pass (g_no rfl (Eq.trans (hP21 2 18 rfl rfl) (congrArg Value.bool hc23)) rfl rfl) ?_
                        exact L_nil ⟨rfl, (ext_refl _), _, _, rfl, rfl, rfl⟩
                      refine ops_cons (fun f w_ hS21 hE21 hP21 => ?_) ?_
                      ·
                        have hx := ext_trans hx hE21
                        refine L_pass (g_no rfl (Eq.trans (hP21 2 18 rfl rfl) (congrArg Value.bool hc23)) rfl rfl) ?_
                        exact L_nil ⟨rfl, (ext_refl _), _, _, rfl, rfl, rfl⟩
                      refine ops_cons (fun f w_ hS21 hE21 hP21 => ?_) ?_
                      ·
                        have hx := ext_trans hx hE21
                        have h0 := RP.ext h0 hE21
                        refine L_pass (g_no rfl (Eq.trans (hP21 2 18 rfl rfl) (congrArg Value.bool hc23)) rfl rfl) ?_
                        exact L_nil ⟨rfl, (ext_refl _), _, _, rfl, rfl, rfl⟩
                      refine ops_cons (fun f w_ hS21 hE21 hP21 => ?_) ?_
                      ·
                        have hx := ext_trans hx hE21
                        refine L_pass (g_no rfl (Eq.trans (hP21 2 18 rfl rfl) (congrArg Value.bool hc23)) rfl rfl) ?_
                        exact L_nil ⟨rfl, (ext_refl _), _, _, rfl, rfl, rfl⟩
                      refine ops_cons (fun f w_ hS21 hE21 hP21 => ?_) ?_
                      ·
                        have hx := ext_trans hx hE21
                        refine L_pass (g_no rfl (Eq.trans (hP21 2 18 rfl rfl) (congrArg Value.bool hc23)) rfl rfl) ?_
                        exact L_nil ⟨rfl, (ext_refl _), _, _, rfl, rfl, rfl⟩
                      refine ops_cons (fun f w_ hS21 hE21 hP21 => ?_) ?_
                      ·
                        have hx := ext_trans hx hE21
                        refine L_pass (g_no rfl (Eq.trans (hP21 2 18 rfl rfl) (congrArg Value.bool hc23)) rfl rfl) ?_
                        exact L_nil ⟨rfl, (ext_refl _), _, _, rfl, rfl, rfl⟩
                      exact ops_nil
                    ·
                      have h0 := RP.ext h0 hE21
                      have hv11_cells := Own.ext hv11_cells hE21
                      have hx := ext_trans hx hE21
                      refine L_pass (g_no rfl (Eq.trans (hT21 2 18 rfl rfl) (congrArg Value.bool hc23)) rfl rfl) ?_
                      refine L_pick (v := .bool b20) rfl (Eq.trans (hT21 2 18 rfl rfl) (congrArg Value.bool hc23)) (congrArg Value.bool (so hb20)) ?_
                      refine L_nil ?_
                      show R22 _ _
                      rw [hR22]
                      exact ⟨((hS21 0 rfl).trans sf0), ((hS21 2 rfl).trans sf2), ((hS21 6 rfl).trans sf6), ((hS21 7 rfl).trans sf7), rfl, h0, hv11_cells, hx⟩
                ·
                  intro f w_ hR
                  rw [hR22] at hR
                  obtain ⟨sf0, sf2, sf6, sf7, sf28, h0, hv11_cells, hx⟩ := hR
                  clear hR22
                  refine W_cond (b := b20) sf28 (fun hc34 => ?_) (fun hc34 => ?_)
                  ·
                    have hB13 := (ite_t hc34).symm.trans hB13
                    refine W_skip ?_
                    refine W_block ?_
                    refine W_seq ?_
                    obtain ⟨x35, hx35, hB13⟩ := bind_some hB13
                    refine W_region ?_
                    refine L_mv (v := v11_cells) rfl sf6 ?_
                    refine L_mv (v := .int .i64 i_12) rfl sf7 ?_
                    refine L_ixo (r := RP.int) rfl et_23 rfl hv11_cells rfl hx35 ?_
                    intro g39 c40 cs40 hg40 hl40 hc40 hr40 hj40
                    obtain rfl : cs40 = [_] := hr40
                    refine L_st (v := .int .i64 0) rfl Try.sizeOf3 rfl rfl rfl hc40 (hj40 0 _ rfl) ?_
                    intro w41 hp41
                    have hv11_cells_n : Own RP.int 3 _ B w41 _ (cells_11.set (Int.toNat i_12) 0) := own_set hv11_cells hg40 rfl (by decide) (idx_some hx35).2.2 hc40 hp41 rfl hB
                    have h0 := hp41.mu.rel_lo h0 hl40
                    have hx := ext_mut hx hp41.mu hl40
                    have hv11_cells := hv11_cells_n
                    refine L_nil ?_
                    refine W_region ?_
                    refine L_mv (v := .int .i64 i_12) rfl sf7 ?_
                    refine L_sub (m := i_12) (n := 1) rfl rfl rfl ?_
                    refine L_as (v := .int .i64 (i64 (i_12 - 1))) rfl rfl ?_
                    refine L_nil ?_
                    obtain rfl := so hB13
                    show ∃ m, m < _ ∧ I13 m _ _
                    refine ⟨n13, Nat.lt_succ_self _, ?_⟩
                    rw [hI13]
                    exact ⟨(cells_11.set (Int.toNat i_12) 0), i64 (i_12 - 1), v11_cells, hL13, sf0, sf2, sf6, rfl, h0, hv11_cells, hx⟩
                  ·
                    have hB13 := (ite_f hc34).symm.trans hB13
                    refine W_exit ?_
                    obtain rfl := so hB13
                    obtain rfl := so hL13
                    show R13 _ _
                    rw [hR13]
                    exact ⟨cells_11, i_12, v11_cells, rfl, sf0, sf2, sf6, sf7, h0, hv11_cells, hx⟩
          ·
            intro f w_ hR
            rw [hR13] at hR
            obtain ⟨cells_11, i_12, v11_cells, rfl, sf0, sf2, sf6, sf7, h0, hv11_cells, hx⟩ := hR
            clear hR13
            refine W_seq ?_
            refine W_seq ?_
            refine W_region ?_
            refine L_mv (v := .int .i64 i_12) rfl sf7 ?_
            refine L_lss (m := i_12) (n := 0) rfl rfl rfl ?_
            refine L_nil ?_
            refine W_cond (b := decide (i_12 < 0)) rfl (fun hc42 => ?_) (fun hc42 => ?_)
            ·
              have hB6 := (ite_t hc42).symm.trans hB6
              refine W_ret ?_
              obtain rfl := so hB6
              obtain rfl := so hL6
              obtain rfl := so hF
              refine ret0 Try.results63 ?_
              exact ⟨rfl, hx⟩
            ·
              have hB6 := (ite_f hc42).symm.trans hB6
              refine W_skip ?_
              obtain ⟨x43, hx43, hB6⟩ := bind_some hB6
              refine W_region ?_
              refine L_mv (v := v11_cells) rfl sf6 ?_
              refine L_mv (v := .int .i64 i_12) rfl sf7 ?_
              refine L_ix (r := RP.int) rfl Try.underlying23 Try.sizeOf3 rfl (Own.rel hv11_cells) rfl hx43 ?_
              intro g49 o50 cs50 hr50 hat50
              obtain rfl : _ = [_] := hr50
              refine L_ld (v := .int .i64 x43) rfl Try.isAgg3 rfl (hat50.cell (j := 0) rfl) ?_
              refine L_add (m := x43) (n := 1) rfl rfl rfl ?_
              refine L_ixo (r := RP.int) rfl et_23 rfl hv11_cells rfl hx43 ?_
              intro g51 c52 cs52 hg52 hl52 hc52 hr52 hj52
              obtain rfl : cs52 = [_] := hr52
              refine L_st (v := .int .i64 (i64 (x43 + 1))) rfl Try.sizeOf3 rfl rfl rfl hc52 (hj52 0 _ rfl) ?_
              intro w53 hp53
              have hv11_cells_n : Own RP.int 3 _ B w53 _ (cells_11.set (Int.toNat i_12) (i64 (x43 + 1))) := own_set hv11_cells hg52 rfl (by decide) (idx_some hx43).2.2 hc52 hp53 rfl hB
              have h0 := hp53.mu.rel_lo h0 hl52
              have hx := ext_mut hx hp53.mu hl52
              have hv11_cells := hv11_cells_n
              refine L_nil ?_
              obtain rfl := so hB6
              show ∃ m, m < _ ∧ I6 m _ _
              refine ⟨n6, Nat.lt_succ_self _, ?_⟩
              rw [hI6]
              exact ⟨(cells_11.set (Int.toNat i_12) (i64 (x43 + 1))), v11_cells, hL6, sf0, sf2, sf6, h0, hv11_cells, hx⟩
        ·
          have hB6 := (ite_f hc9).symm.trans hB6
          refine W_exit ?_
          obtain rfl := so hB6
          obtain rfl := so hL6
          show R6 _ _
          rw [hR6]
          exact ⟨cells_5, rfl, hx⟩
  ·
    intro f w_ hR
    rw [hR6] at hR
    obtain ⟨cells_5, rfl, hx⟩ := hR
    clear hR6
    obtain rfl := so hF
    exact end0 Try.results63 ⟨rfl, hx⟩

theorem s_l6Next_c {fu : Nat} {m : Model} {cells : List Int} {v0_0 : Value} {v0_1 : Value} {v1 : Value} {w : World} {B : Nat} (hB : B ≤ w.heap.size) (h0_0 : (RP.slice 3 RP.int).rel B w.heap.size w [v0_0] m.sizes) (h0_1 : (RP.slice 36 (rRule 3 23)).rel B w.heap.size w [v0_1] m.rules) (h1 : (RP.slice 3 RP.int).rel B w.heap.size w [v1] cells) {r : (List Int) × Bool} (hF : s_l6Next fu m cells = some r) :
    C Try.prog 65 #[.agg #[v0_0, v0_1], v1] w fun v w' => (∃ u1 : Value, v = .tuple #[u1, .bool r.2] ∧ Own RP.int 3 w.heap.size B w' u1 r.1) ∧ Ext w w' := by
  unfold s_l6Next at hF
  have hx := ext_refl w
  refine C_enter Try.func65 rfl Try.ntmps65 rfl ?_
  refine W_seq ?_
  refine W_region ?_
  refine L_box (v := .agg #[v0_0, v0_1]) (cs := #[v0_0, v0_1]) rfl rfl rfl ?_
  intro g3 w4 hn4
  have hge_g3 := hn4.geS hx.size
  have hb_g3 := hn4.blk
  have h0_0 := RP.ext h0_0 hn4.ext
  have h0_1 := RP.ext h0_1 hn4.ext
  have h1 := RP.ext h1 hn4.ext
  have hx := ext_trans hx hn4.ext
  refine L_as (v := (.slice none 0 0)) rfl rfl ?_
  refine L_as (v := .bool false) rfl rfl ?_
  refine L_nil ?_
  refine W_seq ?_
  obtain ⟨x7, hx7, hF⟩ := bind_some hF
  refine W_region ?_
  refine L_bs rfl parts0 (bs_23_0  ) ?_
  intro g9 w10 hn10
  have ho10 : Own RP.int 3 w.heap.size B w10 _ _ := own_new0 hn10 hx.size
  have hz10 := zero_new hn10 hx.size
  have h0_0 := RP.ext h0_0 hn10.ext
  have h0_1 := RP.ext h0_1 hn10.ext
  have h1 := RP.ext h1 hn10.ext
  have hb_g3 := Blk.ext hb_g3 hn10.ext
  have hx := ext_trans hx hn10.ext
  refine L_mv (v := v1) rfl rfl ?_
  refine L_app (v := (.slice (some ⟨g9, 0, none⟩) 0 0)) (u := v1) rfl et_23 (by decide) rfl rfl ho10 (rel0 h1) hx7 hx.size hB ?_
  intro v11 w11 ho11 hm11 hb11
  have h0_0 := hm11.rel_lo h0_0 (Nat.le_refl _)
  have h0_1 := hm11.rel_lo h0_1 (Nat.le_refl _)
  have hb_g3 := hm11.blk hb_g3 (by decide)
  have hx := ext_mut hx hm11 (Nat.le_refl _)
  refine L_as (v := v11) rfl rfl ?_
  refine L_nil ?_
  refine W_seq ?_
  refine W_seq ?_
  refine W_region ?_
  refine L_mv (v := v11) rfl rfl ?_
  refine L_len (v := v11) rfl Try.underlying23 rfl (Own.rel ho11) ?_
  refine L_sub (m := (x7.length : Int)) (n := 1) rfl rfl rfl ?_
  refine L_as (v := .int .i64 (i64 ((x7.length : Int) - 1))) rfl rfl ?_
  refine L_nil ?_
  obtain ⟨j15, hL15, hF⟩ := bind_some hF
  obtain ⟨R15, hR15⟩ : ∃ R : Fr → World → Prop, R = fun f w_ => ∃ out_13 : List Int, ∃ i_14 : Int, ∃ v13_out : Value, j15 = .nx (out_13, i_14) ∧ f 6 = v13_out ∧ Own RP.int 3 w.heap.size B w_ v13_out out_13 ∧ Ext w w_ := ⟨_, rfl⟩
  refine W_join R15 ?_ ?_
  ·
    refine W_block ?_
    obtain ⟨I15, hI15⟩ : ∃ I : Nat → Fr → World → Prop, I = fun n f w_ => ∃ out_13 : List Int, ∃ i_14 : Int, ∃ v13_out : Value, whileL (s_l6Next_b1 m) n (out_13, i_14) = some j15 ∧ f 2 = .pointer (some ⟨g3, 0, none⟩) ∧ f 6 = v13_out ∧ f 7 = .int .i64 i_14 ∧ Own RP.int 3 w.heap.size B w_ v13_out out_13 ∧ (RP.slice 3 RP.int).rel B w.heap.size w_ [v0_0] m.sizes ∧ (RP.slice 36 (rRule 3 23)).rel B w.heap.size w_ [v0_1] m.rules ∧ Blk w_ g3 26 #[v0_0, v0_1] ∧ Ext w w_ := ⟨_, rfl⟩
    refine W_loop I15 (n := fu) ?_ ?_
    · rw [hI15]; exact ⟨x7, i64 ((x7.length : Int) - 1), v11, hL15, rfl, rfl, rfl, ho11, h0_0, h0_1, hb_g3, hx⟩
    ·
      intro n15 f w_ hI
      rw [hI15] at hI
      obtain ⟨out_13, i_14, v13_out, hL15, sf2, sf6, sf7, hv13_out, h0_0, h0_1, hb_g3, hx⟩ := hI
      cases n15 with
      | zero => exact (while_zero hL15).elim
      | succ n15 =>
        obtain ⟨o15, hB15, hL15⟩ := while_succ hL15
        rw [s_l6Next_b1] at hB15
        refine W_seq ?_
        refine W_seq ?_
        refine W_region ?_
        refine L_mv (v := .int .i64 i_14) rfl sf7 ?_
        refine L_geq (m := i_14) (n := 0) rfl rfl rfl ?_
        refine L_nil ?_
        refine W_cond (b := decide (i_14 ≥ 0)) rfl (fun hc16 => ?_) (fun hc16 => ?_)
        ·
          have hB15 := (ite_t hc16).symm.trans hB15
          refine W_skip ?_
          refine W_seq ?_
          refine W_block ?_
          refine W_seq ?_
          refine W_seq ?_
          obtain ⟨x17, hx17, hB15⟩ := bind_some hB15
          obtain ⟨x20, hx20, hB15⟩ := bind_some hB15
          refine W_drawL 9 [isV (v13_out), isV (.int .i64 i_14), isEl B RP.int x17 0, isV (.int .i64 x17), isV (.pointer (some ⟨g3, 0, none⟩)), isV (v0_0), isV (.int .i64 i_14), isEl B RP.int x20 0, isV (.int .i64 x20)] Try_mix (by kernel_rfl) (am_cons (mono_V _) (am_cons (mono_V _) (am_cons (mono_el _ _ _ _) (am_cons (mono_V _) (am_cons (mono_V _) (am_cons (mono_V _) (am_cons (mono_V _) (am_cons (mono_el _ _ _ _) (am_cons (mono_V _) am_nil))))))))) ?_ (fun f w_ hS23 hE23 hT23 => ?_)
          ·
            refine ops_cons (fun f w_ hS23 hE23 hP23 => ?_) ?_
            ·
              have hx := ext_trans hx hE23
              have hv13_out := Own.ext hv13_out hE23
              refine L_mv (v := v13_out) rfl ((hS23 6 rfl).trans sf6) ?_
              exact L_nil ⟨rfl, (ext_refl _), _, _, rfl, rfl, rfl⟩
            refine ops_cons (fun f w_ hS23 hE23 hP23 => ?_) ?_
            ·
              have hx := ext_trans hx hE23
              refine L_mv (v := .int .i64 i_14) rfl ((hS23 7 rfl).trans sf7) ?_
              exact L_nil ⟨rfl, (ext_refl _), _, _, rfl, rfl, rfl⟩
            refine ops_cons (fun f w_ hS23 hE23 hP23 => ?_) ?_
            ·
              have hx := ext_trans hx hE23
              have hv13_out := Own.ext hv13_out hE23
              refine L_ix (r := RP.int) rfl Try.underlying23 Try.sizeOf3 (hP23 0 18 rfl rfl) (Own.rel hv13_out) (hP23 1 19 rfl rfl) hx17 ?_
              intro g28 o29 cs29 hr29 hat29
              obtain rfl : _ = [_] := hr29
              exact L_nil ⟨rfl, (ext_refl _), _, _, rfl, rfl, ⟨_, _, _, rfl, rfl, hat29⟩⟩
            refine ops_cons (fun f w_ hS23 hE23 hP23 => ?_) ?_
            ·
              have hx := ext_trans hx hE23
              obtain ⟨g30, o30, cs30, hv30, hr30, hat30⟩ := (hP23 2 20 rfl rfl)
              obtain rfl : _ = [_] := hr30
              refine L_ld (v := .int .i64 x17) rfl Try.isAgg3 hv30 (hat30.cell (j := 0) rfl) ?_
              exact L_nil ⟨rfl, (ext_refl _), _, _, rfl, rfl, rfl⟩
            refine ops_cons (fun f w_ hS23 hE23 hP23 => ?_) ?_
            ·
              have hx := ext_trans hx hE23
              have h0_0 := RP.ext h0_0 hE23
              have h0_1 := RP.ext h0_1 hE23
              have hb_g3 := Blk.ext hb_g3 hE23
              refine L_fa (o' := 0) rfl fa_26_0 ((hS23 2 rfl).trans sf2) rfl ?_
              exact L_nil ⟨rfl, (ext_refl _), _, _, rfl, rfl, rfl⟩
            refine ops_cons (fun f w_ hS23 hE23 hP23 => ?_) ?_
            ·
              have hx := ext_trans hx hE23
              have h0_0 := RP.ext h0_0 hE23
              have h0_1 := RP.ext h0_1 hE23
              have hb_g3 := Blk.ext hb_g3 hE23
              refine L_ld (v := v0_0) rfl Try.isAgg23 (hP23 4 22 rfl rfl) (hb_g3.cell (j := 0) rfl) ?_
              exact L_nil ⟨rfl, (ext_refl _), _, _, rfl, rfl, rfl⟩
            refine ops_cons (fun f w_ hS23 hE23 hP23 => ?_) ?_
            ·
              have hx := ext_trans hx hE23
              refine L_mv (v := .int .i64 i_14) rfl ((hS23 7 rfl).trans sf7) ?_
              exact L_nil ⟨rfl, (ext_refl _), _, _, rfl, rfl, rfl⟩
            refine ops_cons (fun f w_ hS23 hE23 hP23 => ?_) ?_
            ·
              have hx := ext_trans hx hE23
              have h0_0 := RP.ext h0_0 hE23
              refine L_ix (r := RP.int) rfl Try.underlying23 Try.sizeOf3 (hP23 5 23 rfl rfl) h0_0 (hP23 6 24 rfl rfl) hx20 ?_
              intro g31 o32 cs32 hr32 hat32
              obtain rfl : _ = [_] := hr32
              exact L_nil ⟨rfl, (ext_refl _), _, _, rfl, rfl, ⟨_, _, _, rfl, rfl, hat32⟩⟩
            refine ops_cons (fun f w_ hS23 hE23 hP23 => ?_) ?_
            ·
              have hx := ext_trans hx hE23
              obtain ⟨g33, o33, cs33, hv33, hr33, hat33⟩ := (hP23 7 25 rfl rfl)
              obtain rfl : _ = [_] := hr33
              refine L_ld (v := .int .i64 x20) rfl Try.isAgg3 hv33 (hat33.cell (j := 0) rfl) ?_
              exact L_nil ⟨rfl, (ext_refl _), _, _, rfl, rfl, rfl⟩
            exact ops_nil
          ·
            have hv13_out := Own.ext hv13_out hE23
            have h0_0 := RP.ext h0_0 hE23
            have h0_1 := RP.ext h0_1 hE23
            have hb_g3 := Blk.ext hb_g3 hE23
            have hx := ext_trans hx hE23
            refine L_lss (m := x17) (n := x20) rfl (hT23 3 21 rfl rfl) (hT23 8 26 rfl rfl) ?_
            refine L_nil ?_
            refine W_cond (b := decide (x17 < x20)) rfl (fun hc34 => ?_) (fun hc34 => ?_)
            ·
              have hB15 := (ite_t hc34).symm.trans hB15
              refine W_seq ?_
              refine W_region ?_
              refine L_mv (v := v13_out) rfl ((hS23 6 rfl).trans sf6) ?_
              refine L_mv (v := .int .i64 i_14) rfl ((hS23 7 rfl).trans sf7) ?_
              refine L_mv (v := v13_out) rfl ((hS23 6 rfl).trans sf6) ?_
              refine L_mv (v := .int .i64 i_14) rfl ((hS23 7 rfl).trans sf7) ?_
              refine L_ix (r := RP.int) rfl Try.underlying23 Try.sizeOf3 rfl (Own.rel hv13_out) rfl hx17 ?_
              intro g40 o41 cs41 hr41 hat41
              obtain rfl : _ = [_] := hr41
              refine L_ld (v := .int .i64 x17) rfl Try.isAgg3 rfl (hat41.cell (j := 0) rfl) ?_
              refine L_add (m := x17) (n := 1) rfl rfl rfl ?_
              refine L_ixo (r := RP.int) rfl et_23 rfl hv13_out rfl hx17 ?_
              intro g42 c43 cs43 hg43 hl43 hc43 hr43 hj43
              obtain rfl : cs43 = [_] := hr43
              refine L_st (v := .int .i64 (i64 (x17 + 1))) rfl Try.sizeOf3 rfl rfl rfl hc43 (hj43 0 _ rfl) ?_
              intro w44 hp44
              have hv13_out_n : Own RP.int 3 _ B w44 _ (out_13.set (Int.toNat i_14) (i64 (x17 + 1))) := own_set hv13_out hg43 rfl (by decide) (idx_some hx17).2.2 hc43 hp44 rfl hB
              have hx := ext_mut hx hp44.mu hl43
              have hv13_out := hv13_out_n
              refine L_nil ?_
              refine W_seq ?_
              refine W_region ?_
              refine L_mv (v := v13_out) rfl ((hS23 6 rfl).trans sf6) ?_
              refine L_as (v := v13_out) rfl rfl ?_
              refine L_as (v := .bool true) rfl rfl ?_
              refine L_nil ?_
              refine W_ret ?_
              obtain rfl := so hB15
              obtain rfl := so hL15
              obtain rfl := so hF
              refine ret2 Try.results65 ?_
              exact ⟨⟨v13_out, (tup2_eq rfl rfl), hv13_out⟩, hx⟩
            ·
              have hB15 := (ite_f hc34).symm.trans hB15
              refine W_skip ?_
              refine W_region ?_
              refine L_mv (v := v13_out) rfl ((hS23 6 rfl).trans sf6) ?_
              refine L_mv (v := .int .i64 i_14) rfl ((hS23 7 rfl).trans sf7) ?_
              refine L_ixo (r := RP.int) rfl et_23 rfl hv13_out rfl hx17 ?_
              intro g48 c49 cs49 hg49 hl49 hc49 hr49 hj49
              obtain rfl : cs49 = [_] := hr49
              refine L_st (v := .int .i64 0) rfl Try.sizeOf3 rfl rfl rfl hc49 (hj49 0 _ rfl) ?_
              intro w50 hp50
              have hv13_out_n : Own RP.int 3 _ B w50 _ (out_13.set (Int.toNat i_14) 0) := own_set hv13_out hg49 rfl (by decide) (idx_some hx17).2.2 hc49 hp50 rfl hB
              have h0_0 := hp50.mu.rel_lo h0_0 hl49
              have h0_1 := hp50.mu.rel_lo h0_1 hl49
              have hb_g3 := hp50.mu.blk hb_g3 (by decide)
              have hx := ext_mut hx hp50.mu hl49
              have hv13_out := hv13_out_n
              refine L_nil ?_
              refine W_region ?_
              refine L_mv (v := .int .i64 i_14) rfl ((hS23 7 rfl).trans sf7) ?_
              refine L_sub (m := i_14) (n := 1) rfl rfl rfl ?_
              refine L_as (v := .int .i64 (i64 (i_14 - 1))) rfl rfl ?_
              refine L_nil ?_
              obtain rfl := so hB15
              show ∃ m, m < _ ∧ I15 m _ _
              refine ⟨n15, Nat.lt_succ_self _, ?_⟩
              rw [hI15]
              exact ⟨(out_13.set (Int.toNat i_14) 0), i64 (i_14 - 1), v13_out, hL15, ((hS23 2 rfl).trans sf2), ((hS23 6 rfl).trans sf6), rfl, hv13_out, h0_0, h0_1, hb_g3, hx⟩
        ·
          have hB15 := (ite_f hc16).symm.trans hB15
          refine W_exit ?_
          obtain rfl := so hB15
          obtain rfl := so hL15
          show R15 _ _
          rw [hR15]
          exact ⟨out_13, i_14, v13_out, rfl, sf6, hv13_out, hx⟩
  ·
    intro f w_ hR
    rw [hR15] at hR
    obtain ⟨out_13, i_14, v13_out, rfl, sf6, hv13_out, hx⟩ := hR
    clear hR15
    refine W_seq ?_
    refine W_region ?_
    refine L_mv (v := v13_out) rfl sf6 ?_
    refine L_as (v := v13_out) rfl rfl ?_
    refine L_as (v := .bool false) rfl rfl ?_
    refine L_nil ?_
    refine W_ret ?_
    obtain rfl := so hF
    refine ret2 Try.results65 ?_
    exact ⟨⟨v13_out, (tup2_eq rfl rfl), hv13_out⟩, hx⟩

theorem l_cpInts_c {a : List Int} {b : List Int} {v0 : Value} {v1 : Value} {w : World} {B : Nat} (hB : B ≤ w.heap.size) (h0 : (RP.slice 3 RP.int).rel B w.heap.size w [v0] a) (h1 : (RP.slice 3 RP.int).rel B w.heap.size w [v1] b) {r : Bool} (hF : l_cpInts a b = some r) :
    C Try.prog 32 #[v0, v1] w fun v w' => (v = .bool r) ∧ Ext w w' := by
  unfold l_cpInts at hF
  have hx := ext_refl w
  refine C_enter Try.func32 rfl Try.ntmps32 rfl ?_
  refine W_seq ?_
  refine W_region ?_
  refine L_as (v := .bool false) rfl rfl ?_
  refine L_nil ?_
  refine W_seq ?_
  refine W_seq ?_
  refine W_region ?_
  refine L_mv (v := v0) rfl rfl ?_
  refine L_len (v := v0) rfl Try.underlying23 rfl h0 ?_
  refine L_mv (v := v1) rfl rfl ?_
  refine L_len (v := v1) rfl Try.underlying23 rfl h1 ?_
  refine L_neq (m := (a.length : Int)) (n := (b.length : Int)) rfl rfl rfl ?_
  refine L_nil ?_
  refine W_cond (b := ((a.length : Int) != (b.length : Int))) rfl (fun hc1 => ?_) (fun hc1 => ?_)
  ·
    have hF := (ite_t hc1).symm.trans hF
    refine W_seq ?_
    refine W_region ?_
    refine L_as (v := .bool false) rfl rfl ?_
    refine L_nil ?_
    refine W_ret ?_
    obtain rfl := so hF
    refine ret1 Try.results32 ?_
    exact ⟨rfl, hx⟩
  ·
    have hF := (ite_f hc1).symm.trans hF
    refine W_skip ?_
    refine W_seq ?_
    refine W_seq ?_
    refine W_region ?_
    refine L_as (v := .int .i64 0) rfl rfl ?_
    refine L_nil ?_
    have hlen3 := len_le h0
    obtain ⟨j3, hL3, hF⟩ := bind_some hF
    obtain ⟨R3, hR3⟩ : ∃ R : Fr → World → Prop, R = fun f w_ => j3 = .nx () ∧ Ext w w_ := ⟨_, rfl⟩
    refine W_join R3 ?_ ?_
    ·
      refine W_block ?_
      obtain ⟨I3, hI3⟩ : ∃ I : Nat → Fr → World → Prop, I = fun n f w_ => ∃ i_2 : Nat, ∃ suf3 : List Int, n = suf3.length ∧ List.drop i_2 a = suf3 ∧ i_2 + suf3.length = a.length ∧ rangeL (l_cpInts_b1 b) suf3 i_2 () = some j3 ∧ f 0 = v0 ∧ f 1 = v1 ∧ f 5 = .int .i64 (i_2 : Int) ∧ (RP.slice 3 RP.int).rel B w.heap.size w_ [v0] a ∧ (RP.slice 3 RP.int).rel B w.heap.size w_ [v1] b ∧ Ext w w_ := ⟨_, rfl⟩
      refine W_loop I3 (n := a.length) ?_ ?_
      · rw [hI3]; exact ⟨0, a, rfl, rfl, Nat.zero_add _, hL3, rfl, rfl, rfl, h0, h1, hx⟩
      ·
        intro n3 f w_ hI
        rw [hI3] at hI
        obtain ⟨i_2, suf3, rfl, hd3, hl3, hL3, sf0, sf1, sf5, h0, h1, hx⟩ := hI
        refine W_seq ?_
        refine W_seq ?_
        refine W_region ?_
        refine L_mv (v := .int .i64 (i_2 : Int)) rfl sf5 ?_
        refine L_mv (v := v0) rfl sf0 ?_
        refine L_len (v := v0) rfl Try.underlying23 rfl h0 ?_
        refine L_lss (m := (i_2 : Int)) (n := (a.length : Int)) rfl rfl rfl ?_
        refine L_nil ?_
        refine W_cond (b := decide ((i_2 : Int) < (a.length : Int))) rfl (fun hc4 => ?_) (fun hc4 => ?_)
        ·
          have hlt3 := of_decide_eq_true hc4
          cases suf3 with
          | nil => exact absurd hlt3 (by simp at hl3; omega)
          | cons x_3 rest3 =>
            obtain ⟨o3, hB3, hL3⟩ := range_cons hL3
            rw [l_cpInts_b1] at hB3
            have hix3 := drop_idx hd3
            refine W_skip ?_
            refine W_seq ?_
            refine W_block ?_
            refine W_seq ?_
            obtain ⟨x7, hx7, hB3⟩ := bind_some hB3
            refine W_drawL 8 [isV (v0), isV (.int .i64 (i_2 : Int)), isEl B RP.int x_3 0, isV (.int .i64 x_3), isV (v1), isV (.int .i64 (i_2 : Int)), isEl B RP.int x7 0, isV (.int .i64 x7)] Try_mix (by kernel_rfl) (am_cons (mono_V _) (am_cons (mono_V _) (am_cons (mono_el _ _ _ _) (am_cons (mono_V _) (am_cons (mono_V _) (am_cons (mono_V _) (am_cons (mono_el _ _ _ _) (am_cons (mono_V _) am_nil)))))))) ?_ (fun f w_ hS10 hE10 hT10 => ?_)
            ·
              refine ops_cons (fun f w_ hS10 hE10 hP10 => ?_) ?_
              ·
                have hx := ext_trans hx hE10
                have h0 := RP.ext h0 hE10
                refine L_mv (v := v0) rfl ((hS10 0 rfl).trans sf0) ?_
                exact L_nil ⟨rfl, (ext_refl _), _, _, rfl, rfl, rfl⟩
              refine ops_cons (fun f w_ hS10 hE10 hP10 => ?_) ?_
              ·
                have hx := ext_trans hx hE10
                refine L_mv (v := .int .i64 (i_2 : Int)) rfl ((hS10 5 rfl).trans sf5) ?_
                exact L_nil ⟨rfl, (ext_refl _), _, _, rfl, rfl, rfl⟩
              refine ops_cons (fun f w_ hS10 hE10 hP10 => ?_) ?_
              ·
                have hx := ext_trans hx hE10
                have h0 := RP.ext h0 hE10
                refine L_ix (r := RP.int) rfl Try.underlying23 Try.sizeOf3 (hP10 0 17 rfl rfl) h0 (hP10 1 18 rfl rfl) hix3 ?_
                intro g15 o16 cs16 hr16 hat16
                obtain rfl : _ = [_] := hr16
                exact L_nil ⟨rfl, (ext_refl _), _, _, rfl, rfl, ⟨_, _, _, rfl, rfl, hat16⟩⟩
              refine ops_cons (fun f w_ hS10 hE10 hP10 => ?_) ?_
              ·
                have hx := ext_trans hx hE10
                obtain ⟨g17, o17, cs17, hv17, hr17, hat17⟩ := (hP10 2 19 rfl rfl)
                obtain rfl : _ = [_] := hr17
                refine L_ld (v := .int .i64 x_3) rfl Try.isAgg3 hv17 (hat17.cell (j := 0) rfl) ?_
                exact L_nil ⟨rfl, (ext_refl _), _, _, rfl, rfl, rfl⟩
              refine ops_cons (fun f w_ hS10 hE10 hP10 => ?_) ?_
              ·
                have hx := ext_trans hx hE10
                have h1 := RP.ext h1 hE10
                refine L_mv (v := v1) rfl ((hS10 1 rfl).trans sf1) ?_
                exact L_nil ⟨rfl, (ext_refl _), _, _, rfl, rfl, rfl⟩
              refine ops_cons (fun f w_ hS10 hE10 hP10 => ?_) ?_
              ·
                have hx := ext_trans hx hE10
                refine L_mv (v := .int .i64 (i_2 : Int)) rfl ((hS10 5 rfl).trans sf5) ?_
                exact L_nil ⟨rfl, (ext_refl _), _, _, rfl, rfl, rfl⟩
              refine ops_cons (fun f w_ hS10 hE10 hP10 => ?_) ?_
              ·
                have hx := ext_trans hx hE10
                have h1 := RP.ext h1 hE10
                refine L_ix (r := RP.int) rfl Try.underlying23 Try.sizeOf3 (hP10 4 21 rfl rfl) h1 (hP10 5 22 rfl rfl) hx7 ?_
                intro g18 o19 cs19 hr19 hat19
                obtain rfl : _ = [_] := hr19
                exact L_nil ⟨rfl, (ext_refl _), _, _, rfl, rfl, ⟨_, _, _, rfl, rfl, hat19⟩⟩
              refine ops_cons (fun f w_ hS10 hE10 hP10 => ?_) ?_
              ·
                have hx := ext_trans hx hE10
                obtain ⟨g20, o20, cs20, hv20, hr20, hat20⟩ := (hP10 6 23 rfl rfl)
                obtain rfl : _ = [_] := hr20
                refine L_ld (v := .int .i64 x7) rfl Try.isAgg3 hv20 (hat20.cell (j := 0) rfl) ?_
                exact L_nil ⟨rfl, (ext_refl _), _, _, rfl, rfl, rfl⟩
              exact ops_nil
            ·
              have h0 := RP.ext h0 hE10
              have h1 := RP.ext h1 hE10
              have hx := ext_trans hx hE10
              refine L_neq (m := x_3) (n := x7) rfl (hT10 3 20 rfl rfl) (hT10 7 24 rfl rfl) ?_
              refine L_nil ?_
              refine W_cond (b := (x_3 != x7)) rfl (fun hc21 => ?_) (fun hc21 => ?_)
              ·
                have hB3 := (ite_t hc21).symm.trans hB3
                refine W_seq ?_
                refine W_region ?_
                refine L_as (v := .bool false) rfl rfl ?_
                refine L_nil ?_
                refine W_ret ?_
                obtain rfl := so hB3
                obtain rfl := so hL3
                obtain rfl := so hF
                refine ret1 Try.results32 ?_
                exact ⟨rfl, hx⟩
              ·
                have hB3 := (ite_f hc21).symm.trans hB3
                refine W_skip ?_
                refine W_region ?_
                refine L_mv (v := .int .i64 (i_2 : Int)) rfl ((hS10 5 rfl).trans sf5) ?_
                refine L_add (m := (i_2 : Int)) (n := 1) rfl rfl rfl ?_
                refine L_as (v := .int .i64 (i64 ((i_2 : Int) + 1))) rfl rfl ?_
                refine L_nil ?_
                obtain rfl := so hB3
                show ∃ m, m < _ ∧ I3 m _ _
                refine ⟨rest3.length, by simp, ?_⟩
                rw [hI3]
                exact ⟨i_2 + 1, rest3, rfl, drop_next hd3, by simp at hl3; omega, hL3, ((hS10 0 rfl).trans sf0), ((hS10 1 rfl).trans sf1), (Eq.trans rfl (congrArg (Value.int .i64) (i64_succ (n := a.length) (by simp at hl3; omega) hlen3))), h0, h1, hx⟩
        ·
          cases suf3 with
          | cons _ _ => exact absurd (of_decide_eq_false hc4) (by simp at hl3; omega)
          | nil =>
            obtain rfl := range_nil hL3
            refine W_exit ?_
            show R3 _ _
            rw [hR3]
            exact ⟨rfl, hx⟩
    ·
      intro f w_ hR
      rw [hR3] at hR
      obtain ⟨rfl, hx⟩ := hR
      clear hR3
      refine W_seq ?_
      refine W_region ?_
      refine L_as (v := .bool true) rfl rfl ?_
      refine L_nil ?_
      refine W_ret ?_
      obtain rfl := so hF
      refine ret1 Try.results32 ?_
      exact ⟨rfl, hx⟩

theorem s_DrawNextModel_c {fu : Nat} {code : List UInt8} {v0 : Value} {w : World} {B : Nat} (hB : B ≤ w.heap.size) (h0 : (RP.slice 5 RP.u8).rel B w.heap.size w [v0] code) {r : Unit} (hF : s_DrawNextModel fu code = some r) :
    C Try.prog 34 #[v0] w fun v w' => (∃ o : Model × (List Int), (sModel o.1 ∧ sOut o.2) ∧ ∃ u1 u2 u3 : Value, v = .tuple #[.agg #[u1, u2], u3] ∧ (RP.slice 3 RP.int).rel B w'.heap.size w' [u1] o.1.sizes ∧ (RP.slice 36 (rRule 3 23)).rel B w'.heap.size w' [u2] o.1.rules ∧ (RP.slice 3 RP.int).rel B w'.heap.size w' [u3] o.2) ∧ Ext w w' := by
  unfold s_DrawNextModel at hF
  have hx := ext_refl w
  refine C_enter Try.func34 rfl Try.ntmps34 rfl ?_
  refine W_seq ?_
  refine W_region ?_
  refine L_al (cs := #[(.slice none 0 0), (.slice none 0 0)]) rfl Try.zeroValue26 rfl ?_
  intro g3 w4 hn4
  have hge_g3 := hn4.geS hx.size
  have hb_g3 := hn4.blk
  have h0 := RP.ext h0 hn4.ext
  have hx := ext_trans hx hn4.ext
  refine L_as (v := (.slice none 0 0)) rfl rfl ?_
  refine L_nil ?_
  refine W_seq ?_
  obtain ⟨hx5, hF⟩ := anyB_some hF
  refine W_region ?_
  refine L_mv (v := v0) rfl rfl ?_
  refine L_call (args := #[v0]) rfl Try.call58 (ops1 rfl) (s_DrawCellsValid_c (code := code) (Nat.le_trans hB hx.size) (rel0 h0) hx5) ?_
  rintro _ w8 ⟨⟨x5, gd8, ⟨r8_0, r8_1, r8_2, rfl, hr8_0, hr8_1, hr8_2⟩⟩, he8⟩
  have hF := hF x5 gd8
  have h0 := RP.ext h0 he8
  have hb_g3 := Blk.ext hb_g3 he8
  have hx := ext_trans hx he8
  refine L_ex (v := .agg #[r8_0, r8_1]) rfl rfl rfl ?_
  refine L_ex (v := r8_2) rfl rfl rfl ?_
  refine L_sta (vs := #[r8_0, r8_1]) rfl Try.sizeOf26 rfl rfl rfl (ones_cons (one_of hr8_0) (ones_cons (one_of hr8_1) ones_nil)) hb_g3 rfl ?_
  intro w9 hp9
  have hr8_0 := hp9.mu.rel hr8_0 (by decide) (Nat.le_trans hB hge_g3)
  have hr8_1 := hp9.mu.rel hr8_1 (by decide) (Nat.le_trans hB hge_g3)
  have hr8_2 := hp9.mu.rel hr8_2 (by decide) (Nat.le_trans hB hge_g3)
  have hx := ext_mut hx hp9.mu hge_g3
  have hb_g3 : Blk w9 g3 26 #[r8_0, r8_1] := hp9.blk
  refine L_as (v := r8_2) rfl rfl ?_
  refine L_nil ?_
  refine W_ret ?_
  have hG := assertM_some hF
  refine retc1 Try.results34 Try.isAgg26 Try.sizeOf26 rfl hb_g3 rfl ?_
  exact ⟨⟨(x5.1, x5.2), hG, ⟨r8_0, r8_1, r8_2, (tup2_eq rfl rfl), (rel0 hr8_0), (rel0 hr8_1), (rel0 hr8_2)⟩⟩, hx⟩

theorem i_NextModel_c {fu : Nat} {m : Model} {cells : List Int} {v0_0 : Value} {v0_1 : Value} {v1 : Value} {w : World} {B : Nat} (hB : B ≤ w.heap.size) (h0_0 : (RP.slice 3 RP.int).rel B w.heap.size w [v0_0] m.sizes) (h0_1 : (RP.slice 36 (rRule 3 23)).rel B w.heap.size w [v0_1] m.rules) (h1 : (RP.slice 3 RP.int).rel B w.heap.size w [v1] cells) {r : (List Int) × Bool} (hF : i_NextModel fu m cells = some r) :
    C Try.prog 35 #[.agg #[v0_0, v0_1], v1] w fun v w' => (∃ u1 : Value, v = .tuple #[u1, .bool r.2] ∧ Own RP.int 3 w.heap.size B w' u1 r.1) ∧ Ext w w' := by
  unfold i_NextModel at hF
  have hx := ext_refl w
  refine C_enter Try.func35 rfl Try.ntmps35 rfl ?_
  refine W_seq ?_
  refine W_region ?_
  refine L_box (v := .agg #[v0_0, v0_1]) (cs := #[v0_0, v0_1]) rfl rfl rfl ?_
  intro g3 w4 hn4
  have hge_g3 := hn4.geS hx.size
  have hb_g3 := hn4.blk
  have h0_0 := RP.ext h0_0 hn4.ext
  have h0_1 := RP.ext h0_1 hn4.ext
  have h1 := RP.ext h1 hn4.ext
  have hx := ext_trans hx hn4.ext
  refine L_as (v := (.slice none 0 0)) rfl rfl ?_
  refine L_as (v := .bool false) rfl rfl ?_
  refine L_nil ?_
  refine W_seq ?_
  refine W_seq ?_
  obtain ⟨x5, hx5, hF⟩ := bind_some hF
  refine W_region ?_
  refine L_lda (cs := [v0_0, v0_1]) rfl Try.isAgg26 Try.sizeOf26 rfl (Blk.sub hb_g3 0 2) rfl ?_
  refine L_mv (v := v1) rfl rfl ?_
  refine L_call (args := #[.agg #[v0_0, v0_1], v1]) rfl Try.call20 (ops2 rfl rfl) (i_CellsValid_c (m := m) (cells := cells) (Nat.le_trans hB hx.size) (rel0 h0_0) (rel0 h0_1) (rel0 h1) hx5) ?_
  rintro _ w7 ⟨rfl, he7⟩
  have h0_0 := RP.ext h0_0 he7
  have h0_1 := RP.ext h0_1 he7
  have h1 := RP.ext h1 he7
  have hb_g3 := Blk.ext hb_g3 he7
  have hx := ext_trans hx he7
  refine L_not_ (b := x5) rfl rfl ?_
  refine L_nil ?_
  refine W_cond (b := (!x5)) rfl (fun hc8 => ?_) (fun hc8 => ?_)
  ·
    have hF := (ite_t hc8).symm.trans hF
    refine W_seq ?_
    refine W_region ?_
    refine L_as (v := (.slice none 0 0)) rfl rfl ?_
    refine L_as (v := .bool false) rfl rfl ?_
    refine L_nil ?_
    refine W_ret ?_
    obtain rfl := so hF
    refine ret2 Try.results35 ?_
    exact ⟨⟨(.slice none 0 0), (tup2_eq rfl rfl), (Own.nil _ _ _ _ _)⟩, hx⟩
  ·
    have hF := (ite_f hc8).symm.trans hF
    refine W_skip ?_
    refine W_seq ?_
    refine W_region ?_
    refine L_al (cs := #[(.slice none 0 0)]) rfl Try.zeroValue23 rfl ?_
    intro g11 w12 hn12
    have hge_g11 := hn12.geS hx.size
    have hb_g11 := hn12.blk
    have h0_0 := RP.ext h0_0 hn12.ext
    have h0_1 := RP.ext h0_1 hn12.ext
    have h1 := RP.ext h1 hn12.ext
    have hb_g3 := Blk.ext hb_g3 hn12.ext
    have hx := ext_trans hx hn12.ext
    refine L_nil ?_
    refine W_seq ?_
    obtain ⟨g11_0_13, hI15, hF⟩ := bind_some hF
    refine W_region ?_
    refine L_fa (o' := 0) rfl fa_26_0 rfl rfl ?_
    refine L_ld (v := v0_0) rfl Try.isAgg23 rfl (hb_g3.cell (j := 0) rfl) ?_
    refine L_mv (v := v1) rfl rfl ?_
    refine L_mf rfl (ops2 rfl rfl) ?_
    obtain ⟨R18, hR18⟩ : ∃ R : Value → World → Prop, R = fun v w_ => ∃ v16_g11_0 : Value, v = .tuple #[] ∧ isNilS v16_g11_0 = List.isEmpty g11_0_13 ∧ Own RP.int 3 w.heap.size B w_ v16_g11_0 g11_0_13 ∧ Blk w_ g11 23 #[v16_g11_0] ∧ Ext w w_ := ⟨_, rfl⟩
    refine L_call (args := #[v0_0, v1, .func (.func 73) #[] #[.pointer (some ⟨g3, 0, none⟩), .pointer (some ⟨g11, 0, none⟩)]]) (R := R18) rfl Try.call63 (ops3 rfl rfl rfl) ?_ ?_
    ·
      refine C_enter Try.func63 rfl Try.ntmps63 rfl ?_
      have hA18 := hI15
      unfold i_NextModel_i1 at hA18
      refine W_seq ?_
      obtain ⟨x19, hx19, hA18⟩ := bind_some hA18
      obtain ⟨q21, hq21, hA18⟩ := bind_some hA18
      refine W_region ?_
      refine L_mv (v := v1) rfl rfl ?_
      refine L_call (args := #[v1]) rfl Try.call74 (ops1 rfl) (slices_Clone_int_c (s := cells) (Nat.le_trans hB hx.size) (rel0 h1) hx19) ?_
      rintro r22_0 w22 ⟨⟨_, rfl, hr22_0⟩, he22⟩
      have hr22_0 : Own _ _ w.heap.size B _ _ _ := hr22_0.wide hx.size (Nat.le_refl _)
      have h0_0 := RP.ext h0_0 he22
      have h0_1 := RP.ext h0_1 he22
      have h1 := RP.ext h1 he22
      have hb_g3 := Blk.ext hb_g3 he22
      have hb_g11 := Blk.ext hb_g11 he22
      have hx := ext_trans hx he22
      have hst22 := strict_ne (Own.rel hr22_0) hq21
      refine L_as (v := r22_0) rfl rfl ?_
      refine L_nil ?_
      obtain ⟨j28, hL28, hA18⟩ := bind_some hA18
      obtain ⟨R28, hR28⟩ : ∃ R : Fr → World → Prop, R = fun f w_ => ∃ cells_24 : List Int, ∃ g11_0_25 : List Int, ∃ v25_g11_0 : Value, j28 = .nx (cells_24, g11_0_25) ∧ isNilS v25_g11_0 = List.isEmpty g11_0_25 ∧ Own RP.int 3 w.heap.size B w_ v25_g11_0 g11_0_25 ∧ Blk w_ g11 23 #[v25_g11_0] ∧ Ext w w_ := ⟨_, rfl⟩
      refine W_join R28 ?_ ?_
      ·
        refine W_block ?_
        obtain ⟨I28, hI28⟩ : ∃ I : Nat → Fr → World → Prop, I = fun n f w_ => ∃ cells_24 : List Int, ∃ g11_0_25 : List Int, ∃ v24_cells : Value, ∃ v25_g11_0 : Value, whileL (i_NextModel_b2 fu m) n (cells_24, g11_0_25) = some j28 ∧ f 0 = v0_0 ∧ f 2 = .func (.func 73) #[] #[.pointer (some ⟨g3, 0, none⟩), .pointer (some ⟨g11, 0, none⟩)] ∧ f 6 = v24_cells ∧ isNilS v25_g11_0 = List.isEmpty g11_0_25 ∧ (RP.slice 3 RP.int).rel B w.heap.size w_ [v0_0] m.sizes ∧ Own RP.int 3 w.heap.size B w_ v24_cells cells_24 ∧ Own RP.int 3 w.heap.size B w_ v25_g11_0 g11_0_25 ∧ Blk w_ g11 23 #[v25_g11_0] ∧ (RP.slice 36 (rRule 3 23)).rel B w.heap.size w_ [v0_1] m.rules ∧ Blk w_ g3 26 #[v0_0, v0_1] ∧ Ap v25_g11_0.ownBlock v24_cells.ownBlock ∧ Ext w w_ := ⟨_, rfl⟩
        refine W_loop I28 (n := fu) ?_ ?_
        · rw [hI28]; exact ⟨x19, [], r22_0, (.slice none 0 0), hL28, rfl, rfl, rfl, rfl, h0_0, hr22_0, (Own.nil _ _ _ _ _), hb_g11, h0_1, hb_g3, (ap_none _), hx⟩
        ·
          intro n28 f w_ hI
          rw [hI28] at hI
          obtain ⟨cells_24, g11_0_25, v24_cells, v25_g11_0, hL28, sf0, sf2, sf6, hst26, h0_0, hv24_cells, hv25_g11_0, hb_g11, h0_1, hb_g3, aq27, hx⟩ := hI
          cases n28 with
          | zero => exact (while_zero hL28).elim
          | succ n28 =>
            obtain ⟨o28, hB28, hL28⟩ := while_succ hL28
            rw [i_NextModel_b2] at hB28
            refine W_seq ?_
            refine W_seq ?_
            obtain ⟨⟨ret0_29, g11_0_30⟩, hI33, hB28⟩ := bind_some hB28
            refine W_region ?_
            refine L_mv (v := .func (.func 73) #[] #[.pointer (some ⟨g3, 0, none⟩), .pointer (some ⟨g11, 0, none⟩)]) rfl sf2 ?_
            refine L_mv (v := v24_cells) rfl sf6 ?_
            obtain ⟨R38, hR38⟩ : ∃ R : Value → World → Prop, R = fun v w_ => ∃ v35_g11_0 : Value, v = .bool ret0_29 ∧ isNilS v35_g11_0 = List.isEmpty g11_0_30 ∧ Own RP.int 3 w.heap.size B w_ v35_g11_0 g11_0_30 ∧ Blk w_ g11 23 #[v35_g11_0] ∧ Own RP.int 3 w.heap.size B w_ v24_cells cells_24 ∧ (RP.slice 3 RP.int).rel B w.heap.size w_ [v0_0] m.sizes ∧ (RP.slice 36 (rRule 3 23)).rel B w.heap.size w_ [v0_1] m.rules ∧ Blk w_ g3 26 #[v0_0, v0_1] ∧ Ap v24_cells.ownBlock v35_g11_0.ownBlock ∧ Ext w w_ := ⟨_, rfl⟩
            refine L_callv (args := #[v24_cells]) (R := R38) rfl Try.call73 rfl (ops1 rfl) ?_ ?_
            ·
              show C _ _ #[v24_cells, .pointer (some ⟨g3, 0, none⟩), .pointer (some ⟨g11, 0, none⟩)] _ _
              refine C_enter Try.func73 rfl Try.ntmps73 rfl ?_
              have hA38 := hI33
              unfold i_NextModel_i3 at hA38
              refine W_seq ?_
              refine W_region ?_
              refine L_as (v := .bool false) rfl rfl ?_
              refine L_nil ?_
              refine W_seq ?_
              refine W_seq ?_
              obtain ⟨x39, hx39, hA38⟩ := bind_some hA38
              refine W_region ?_
              refine L_lda (cs := [v0_0, v0_1]) rfl Try.isAgg26 Try.sizeOf26 rfl (Blk.sub hb_g3 0 2) rfl ?_
              refine L_mv (v := v24_cells) rfl rfl ?_
              refine L_call (args := #[.agg #[v0_0, v0_1], v24_cells]) rfl Try.call59 (ops2 rfl rfl) (i_Model_solves_c (m := m) (cells := cells_24) (Nat.le_trans hB hx.size) (rel0 h0_0) (rel0 h0_1) (rel0 (Own.rel hv24_cells)) hx39) ?_
              rintro _ w41 ⟨rfl, he41⟩
              have h0_0 := RP.ext h0_0 he41
              have hv24_cells := Own.ext hv24_cells he41
              have hv25_g11_0 := Own.ext hv25_g11_0 he41
              have hb_g11 := Blk.ext hb_g11 he41
              have h0_1 := RP.ext h0_1 he41
              have hb_g3 := Blk.ext hb_g3 he41
              have hx := ext_trans hx he41
              refine L_nil ?_
              obtain ⟨g11_0_42, hA45, hA38⟩ := bind_some hA38
              obtain ⟨R45, hR45⟩ : ∃ R : Fr → World → Prop, R = fun f w_ => ∃ v42_g11_0 : Value, f 2 = .pointer (some ⟨g11, 0, none⟩) ∧ isNilS v42_g11_0 = List.isEmpty g11_0_42 ∧ Own RP.int 3 w.heap.size B w_ v24_cells cells_24 ∧ Own RP.int 3 w.heap.size B w_ v42_g11_0 g11_0_42 ∧ Blk w_ g11 23 #[v42_g11_0] ∧ (RP.slice 3 RP.int).rel B w.heap.size w_ [v0_0] m.sizes ∧ (RP.slice 36 (rRule 3 23)).rel B w.heap.size w_ [v0_1] m.rules ∧ Blk w_ g3 26 #[v0_0, v0_1] ∧ Ap v42_g11_0.ownBlock v24_cells.ownBlock ∧ Ext w w_ := ⟨_, rfl⟩
              refine W_join R45 ?_ ?_
              ·
                refine W_cond (b := x39) rfl (fun hc46 => ?_) (fun hc46 => ?_)
                ·
                  have hA45 := (ite_t hc46).symm.trans hA45
                  obtain ⟨x47, hx47, hA45⟩ := bind_some hA45
                  obtain ⟨q51, hq51, hA45⟩ := bind_some hA45
                  refine W_region ?_
                  refine L_mv (v := v24_cells) rfl rfl ?_
                  refine L_call (args := #[v24_cells]) rfl Try.call74 (ops1 rfl) (slices_Clone_int_c (s := cells_24) (Nat.le_trans hB hx.size) (rel0 (Own.rel hv24_cells)) hx47) ?_
                  rintro r53_0 w53 ⟨⟨_, rfl, hr53_0⟩, he53⟩
                  have ap54 := ap_oc hv24_cells hr53_0
                  have ap55 := ap_oc hv25_g11_0 hr53_0
                  have hr53_0 : Own _ _ w.heap.size B _ _ _ := hr53_0.wide hx.size (Nat.le_refl _)
                  have h0_0 := RP.ext h0_0 he53
                  have hv24_cells := Own.ext hv24_cells he53
                  have hv25_g11_0 := Own.ext hv25_g11_0 he53
                  have hb_g11 := Blk.ext hb_g11 he53
                  have h0_1 := RP.ext h0_1 he53
                  have hb_g3 := Blk.ext hb_g3 he53
                  have hx := ext_trans hx he53
                  have hst53 := strict_ne (Own.rel hr53_0) hq51
                  refine L_st (v := r53_0) rfl Try.sizeOf23 rfl rfl (one_of (Own.rel hr53_0)) hb_g11 rfl ?_
                  intro w56 hp56
                  have h0_0 := hp56.mu.rel h0_0 (by decide) (Nat.le_trans hB hge_g11)
                  have hv24_cells := hp56.mu.ownT hv24_cells (by decide) (by decide) (Nat.le_trans hB hge_g11)
                  have hv25_g11_0 := hp56.mu.ownT hv25_g11_0 (by decide) (by decide) (Nat.le_trans hB hge_g11)
                  have h0_1 := hp56.mu.rel_lo h0_1 hge_g11
                  have hb_g3 := hp56.mu.blk hb_g3 (by decide)
                  have hr53_0 := hp56.mu.ownT hr53_0 (by decide) (by decide) (Nat.le_trans hB hge_g11)
                  have hx := ext_mut hx hp56.mu hge_g11
                  have hb_g11 : Blk w56 g11 23 #[r53_0] := hp56.blk
                  refine L_nil ?_
                  obtain rfl := so hA45
                  show R45 _ _
                  rw [hR45]
                  exact ⟨r53_0, rfl, hst53, hv24_cells, hr53_0, hb_g11, h0_0, h0_1, hb_g3, (Ap.symm ap54), hx⟩
                ·
                  have hA45 := (ite_f hc46).symm.trans hA45
                  refine W_skip ?_
                  obtain rfl := so hA45
                  show R45 _ _
                  rw [hR45]
                  exact ⟨v25_g11_0, rfl, hst26, hv24_cells, hv25_g11_0, hb_g11, h0_0, h0_1, hb_g3, aq27, hx⟩
              ·
                intro f w_ hR
                rw [hR45] at hR
                obtain ⟨v42_g11_0, sf2, hst43, hv24_cells, hv42_g11_0, hb_g11, h0_0, h0_1, hb_g3, aq44, hx⟩ := hR
                clear hR45
                refine W_seq ?_
                refine W_region ?_
                refine L_ld (v := v42_g11_0) rfl Try.isAgg23 sf2 (hb_g11.cell (j := 0) rfl) ?_
                obtain ⟨a57, cap57, hsl57, _, _⟩ := slice_len (Own.rel hv42_g11_0)
                refine L_nileq (a := a57) rfl Try.underlying23 (Eq.trans rfl hsl57) rfl ?_
                rw [← hsl57]
                rw [hst43]
                refine L_as (v := .bool (List.isEmpty g11_0_42)) rfl rfl ?_
                refine L_nil ?_
                refine W_ret ?_
                obtain ⟨rfl, rfl⟩ := so2 hA38
                refine ret1 Try.results73 ?_
                show R38 _ _
                rw [hR38]
                exact ⟨v42_g11_0, rfl, hst43, hv42_g11_0, hb_g11, hv24_cells, h0_0, h0_1, hb_g3, (Ap.symm aq44), hx⟩
            intro v_38 w_ hR
            rw [hR38] at hR
            obtain ⟨v35_g11_0, rfl, hst36, hv35_g11_0, hb_g11, hv24_cells, h0_0, h0_1, hb_g3, aq37, hx⟩ := hR
            clear hR38
            refine L_nil ?_
            refine W_cond (b := ret0_29) rfl (fun hc58 => ?_) (fun hc58 => ?_)
            ·
              have hB28 := (ite_t hc58).symm.trans hB28
              refine W_skip ?_
              refine W_block ?_
              refine W_seq ?_
              refine W_region ?_
              refine L_mv (v := v24_cells) rfl sf6 ?_
              refine L_len (v := v24_cells) rfl Try.underlying23 rfl (Own.rel hv24_cells) ?_
              refine L_sub (m := (cells_24.length : Int)) (n := 1) rfl rfl rfl ?_
              refine L_as (v := .int .i64 (i64 ((cells_24.length : Int) - 1))) rfl rfl ?_
              refine L_nil ?_
              refine W_seq ?_
              obtain ⟨j63, hL63, hB28⟩ := bind_some hB28
              obtain ⟨R63, hR63⟩ : ∃ R : Fr → World → Prop, R = fun f w_ => ∃ cells_60 : List Int, ∃ i_61 : Int, ∃ v60_cells : Value, j63 = .nx (cells_60, i_61) ∧ f 0 = v0_0 ∧ f 2 = .func (.func 73) #[] #[.pointer (some ⟨g3, 0, none⟩), .pointer (some ⟨g11, 0, none⟩)] ∧ f 6 = v60_cells ∧ f 7 = .int .i64 i_61 ∧ (RP.slice 3 RP.int).rel B w.heap.size w_ [v0_0] m.sizes ∧ Own RP.int 3 w.heap.size B w_ v60_cells cells_60 ∧ Own RP.int 3 w.heap.size B w_ v35_g11_0 g11_0_30 ∧ Blk w_ g11 23 #[v35_g11_0] ∧ (RP.slice 36 (rRule 3 23)).rel B w.heap.size w_ [v0_1] m.rules ∧ Blk w_ g3 26 #[v0_0, v0_1] ∧ Ap v35_g11_0.ownBlock v60_cells.ownBlock ∧ Ext w w_ := ⟨_, rfl⟩
              refine W_join R63 ?_ ?_
              ·
                refine W_block ?_
                obtain ⟨I63, hI63⟩ : ∃ I : Nat → Fr → World → Prop, I = fun n f w_ => ∃ cells_60 : List Int, ∃ i_61 : Int, ∃ v60_cells : Value, whileL (i_NextModel_b4 m) n (cells_60, i_61) = some j63 ∧ f 0 = v0_0 ∧ f 2 = .func (.func 73) #[] #[.pointer (some ⟨g3, 0, none⟩), .pointer (some ⟨g11, 0, none⟩)] ∧ f 6 = v60_cells ∧ f 7 = .int .i64 i_61 ∧ (RP.slice 3 RP.int).rel B w.heap.size w_ [v0_0] m.sizes ∧ Own RP.int 3 w.heap.size B w_ v60_cells cells_60 ∧ Own RP.int 3 w.heap.size B w_ v35_g11_0 g11_0_30 ∧ Blk w_ g11 23 #[v35_g11_0] ∧ (RP.slice 36 (rRule 3 23)).rel B w.heap.size w_ [v0_1] m.rules ∧ Blk w_ g3 26 #[v0_0, v0_1] ∧ Ap v35_g11_0.ownBlock v60_cells.ownBlock ∧ Ext w w_ := ⟨_, rfl⟩
                refine W_loop I63 (n := fu) ?_ ?_
                · rw [hI63]; exact ⟨cells_24, i64 ((cells_24.length : Int) - 1), v24_cells, hL63, sf0, sf2, sf6, rfl, h0_0, hv24_cells, hv35_g11_0, hb_g11, h0_1, hb_g3, (Ap.symm aq37), hx⟩
                ·
                  intro n63 f w_ hI
                  rw [hI63] at hI
                  obtain ⟨cells_60, i_61, v60_cells, hL63, sf0, sf2, sf6, sf7, h0_0, hv60_cells, hv35_g11_0, hb_g11, h0_1, hb_g3, aq62, hx⟩ := hI
                  cases n63 with
                  | zero => exact (while_zero hL63).elim
                  | succ n63 =>
                    obtain ⟨o63, hB63, hL63⟩ := while_succ hL63
                    rw [i_NextModel_b4] at hB63
                    refine W_seq ?_
                    refine W_seq ?_
                    obtain ⟨b70, hb70, hB63⟩ := bind_some hB63
                    obtain ⟨R72, hR72⟩ : ∃ R : Fr → World → Prop, R = fun f w_ => f 0 = v0_0 ∧ f 2 = .func (.func 73) #[] #[.pointer (some ⟨g3, 0, none⟩), .pointer (some ⟨g11, 0, none⟩)] ∧ f 6 = v60_cells ∧ f 7 = .int .i64 i_61 ∧ f 28 = .bool b70 ∧ (RP.slice 3 RP.int).rel B w.heap.size w_ [v0_0] m.sizes ∧ Own RP.int 3 w.heap.size B w_ v60_cells cells_60 ∧ Own RP.int 3 w.heap.size B w_ v35_g11_0 g11_0_30 ∧ Blk w_ g11 23 #[v35_g11_0] ∧ (RP.slice 36 (rRule 3 23)).rel B w.heap.size w_ [v0_1] m.rules ∧ Blk w_ g3 26 #[v0_0, v0_1] ∧ Ext w w_ := ⟨_, rfl⟩
                    refine W_join R72 ?_ ?_
                    ·
                      rcases Bool.eq_false_or_eq_true (decide (i_61 ≥ 0)) with hc73 | hc73
                      ·
                        rw [ite_t hc73] at hb70
                        obtain ⟨x64, hx64, hb70⟩ := bind_some hb70
                        obtain ⟨x67, hx67, hb70⟩ := bind_some hb70
                        refine W_drawL 11 [isV (.int .i64 i_61), isV (.bool (decide (i_61 ≥ 0))), isV (.bool (decide (i_61 ≥ 0))), isV (v60_cells), isV (.int .i64 i_61), isEl B RP.int x64 0, isV (.int .i64 x64), isV (v0_0), isV (.int .i64 i_61), isEl B RP.int x67 0, isV (.int .i64 x67)] Try_mix (by kernel_rfl) (am_cons (mono_V _) (am_cons (mono_V _) (am_cons (mono_V _) (am_cons (mono_V _) (am_cons (mono_V _) (am_cons (mono_el _ _ _ _) (am_cons (mono_V _) (am_cons (mono_V _) (am_cons (mono_V _) (am_cons (mono_el _ _ _ _) (am_cons (mono_V _) am_nil))))))))))) ?_ (fun f w_ hS71 hE71 hT71 => ?_)
                        ·
                          refine ops_cons (fun f w_ hS71 hE71 hP71 => ?_) ?_
                          ·
                            have hx := ext_trans hx hE71
                            refine L_mv (v := .int .i64 i_61) rfl ((hS71 7 rfl).trans sf7) ?_
                            exact L_nil ⟨rfl, (ext_refl _), _, _, rfl, rfl, rfl⟩
                          refine ops_cons (fun f w_ hS71 hE71 hP71 => ?_) ?_
                          ·
                            have hx := ext_trans hx hE71
                            refine L_geq (m := i_61) (n := 0) rfl (hP71 0 16 rfl rfl) rfl ?_
                            exact L_nil ⟨rfl, (ext_refl _), _, _, rfl, rfl, rfl⟩
                          refine ops_cons (fun f w_ hS71 hE71 hP71 => ?_) ?_
                          ·
                            have hx := ext_trans hx hE71
                            refine L_mv (v := .bool (decide (i_61 ≥ 0))) rfl (hP71 1 17 rfl rfl) ?_
                            exact L_nil ⟨rfl, (ext_refl _), _, _, rfl, rfl, rfl⟩
                          refine ops_cons (fun f w_ hS71 hE71 hP71 => ?_) ?_
                          ·
                            have hx := ext_trans hx hE71
                            have hv60_cells := Own.ext hv60_cells hE71
                            refine L_mv (v := v60_cells) (g_yes rfl (Eq.trans (hP71 2 18 rfl rfl) (congrArg Value.bool hc73)) rfl) ((hS71 6 rfl).trans sf6) ?_
                            exact L_nil ⟨rfl, (ext_refl _), _, _, rfl, rfl, rfl⟩
                          refine ops_cons (fun f w_ hS71 hE71 hP71 => ?_) ?_
                          ·
                            have hx := ext_trans hx hE71
                            refine L_mv (v := .int .i64 i_61) (g_yes rfl (Eq.trans (hP71 2 18 rfl rfl) (congrArg Value.bool hc73)) rfl) ((hS71 7 rfl).trans sf7) ?_
                            exact L_nil ⟨rfl, (ext_refl _), _, _, rfl, rfl, rfl⟩
                          refine ops_cons (fun f w_ hS71 hE71 hP71 => ?_) ?_
                          ·
                            have hx := ext_trans hx hE71
                            have hv60_cells := Own.ext hv60_cells hE71
                            refine L_ix (r := RP.int) (g_yes rfl (Eq.trans (hP71 2 18 rfl rfl) (congrArg Value.bool hc73)) rfl) Try.underlying23 Try.sizeOf3 (hP71 3 19 rfl rfl) (Own.rel hv60_cells) (hP71 4 20 rfl rfl) hx64 ?_
                            intro g78 o79 cs79 hr79 hat79
                            obtain rfl : _ = [_] := hr79
                            exact L_nil ⟨rfl, (ext_refl _), _, _, rfl, rfl, ⟨_, _, _, rfl, rfl, hat79⟩⟩
                          refine ops_cons (fun f w_ hS71 hE71 hP71 => ?_) ?_
                          ·
                            have hx := ext_trans hx hE71
                            obtain ⟨g80, o80, cs80, hv80, hr80, hat80⟩ := (hP71 5 21 rfl rfl)
                            obtain rfl : _ = [_] := hr80
                            refine L_ld (v := .int .i64 x64) (g_yes rfl (Eq.trans (hP71 2 18 rfl rfl) (congrArg Value.bool hc73)) rfl) Try.isAgg3 hv80 (hat80.cell (j := 0) rfl) ?_
                            exact L_nil ⟨rfl, (ext_refl _), _, _, rfl, rfl, rfl⟩
                          refine ops_cons (fun f w_ hS71 hE71 hP71 => ?_) ?_
                          ·
                            have hx := ext_trans hx hE71
                            have h0_0 := RP.ext h0_0 hE71
                            refine L_mv (v := v0_0) (g_yes rfl (Eq.trans (hP71 2 18 rfl rfl) (congrArg Value.bool hc73)) rfl) ((hS71 0 rfl).trans sf0) ?_
                            exact L_nil ⟨rfl, (ext_refl _), _, _, rfl, rfl, rfl⟩
                          refine ops_cons (fun f w_ hS71 hE71 hP71 => ?_) ?_
                          ·
                            have hx := ext_trans hx hE71
                            refine L_mv (v := .int .i64 i_61) (g_yes rfl (Eq.trans (hP71 2 18 rfl rfl) (congrArg Value.bool hc73)) rfl) ((hS71 7 rfl).trans sf7) ?_
                            exact L_nil ⟨rfl, (ext_refl _), _, _, rfl, rfl, rfl⟩
                          refine ops_cons (fun f w_ hS71 hE71 hP71 => ?_) ?_
                          ·
                            have hx := ext_trans hx hE71
                            have h0_0 := RP.ext h0_0 hE71
                            refine L_ix (r := RP.int) (g_yes rfl (Eq.trans (hP71 2 18 rfl rfl) (congrArg Value.bool hc73)) rfl) Try.underlying23 Try.sizeOf3 (hP71 7 23 rfl rfl) h0_0 (hP71 8 24 rfl rfl) hx67 ?_
                            intro g81 o82 cs82 hr82 hat82
                            obtain rfl : _ = [_] := hr82
                            exact L_nil ⟨rfl, (ext_refl _), _, _, rfl, rfl, ⟨_, _, _, rfl, rfl, hat82⟩⟩
                          refine ops_cons (fun f w_ hS71 hE71 hP71 => ?_) ?_
                          ·
                            have hx := ext_trans hx hE71
                            obtain ⟨g83, o83, cs83, hv83, hr83, hat83⟩ := (hP71 9 25 rfl rfl)
                            obtain rfl : _ = [_] := hr83
                            refine L_ld (v := .int .i64 x67) (g_yes rfl (Eq.trans (hP71 2 18 rfl rfl) (congrArg Value.bool hc73)) rfl) Try.isAgg3 hv83 (hat83.cell (j := 0) rfl) ?_
                            exact L_nil ⟨rfl, (ext_refl _), _, _, rfl, rfl, rfl⟩
                          exact ops_nil
                        ·
                          have h0_0 := RP.ext h0_0 hE71
                          have hv60_cells := Own.ext hv60_cells hE71
                          have hv35_g11_0 := Own.ext hv35_g11_0 hE71
                          have hb_g11 := Blk.ext hb_g11 hE71
                          have h0_1 := RP.ext h0_1 hE71
                          have hb_g3 := Blk.ext hb_g3 hE71
                          have hx := ext_trans hx hE71
                          refine L_eql (m := x64) (n := x67) (g_yes rfl (Eq.trans (hT71 2 18 rfl rfl) (congrArg Value.bool hc73)) rfl) (hT71 6 22 rfl rfl) (hT71 10 26 rfl rfl) ?_
                          refine L_pick (v := .bool b70) rfl (Eq.trans (hT71 2 18 rfl rfl) (congrArg Value.bool hc73)) (congrArg Value.bool (so hb70)) ?_
                          refine L_nil ?_
                          show R72 _ _
                          rw [hR72]
                          exact ⟨((hS71 0 rfl).trans sf0), ((hS71 2 rfl).trans sf2), ((hS71 6 rfl).trans sf6), ((hS71 7 rfl).trans sf7), rfl, h0_0, hv60_cells, hv35_g11_0, hb_g11, h0_1, hb_g3, hx⟩
                      ·
                        rw [ite_f hc73] at hb70
                        refine W_drawL 11 [isV (.int .i64 i_61), isV (.bool (decide (i_61 ≥ 0))), isV (.bool (decide (i_61 ≥ 0))), isV (undef), isV (undef), isV (undef), isV (undef), isV (undef), isV (undef), isV (undef), isV (undef)] Try_mix (by kernel_rfl) (am_cons (mono_V _) (am_cons (mono_V _) (am_cons (mono_V _) (am_cons (mono_V _) (am_cons (mono_V _) (am_cons (mono_V _) (am_cons (mono_V _) (am_cons (mono_V _) (am_cons (mono_V _) (am_cons (mono_V _) (am_cons (mono_V _) am_nil))))))))))) ?_ (fun f w_ hS71 hE71 hT71 => ?_)
                        ·
                          refine ops_cons (fun f w_ hS71 hE71 hP71 => ?_) ?_
                          ·
                            have hx := ext_trans hx hE71
                            refine L_mv (v := .int .i64 i_61) rfl ((hS71 7 rfl).trans sf7) ?_
                            exact L_nil ⟨rfl, (ext_refl _), _, _, rfl, rfl, rfl⟩
                          refine ops_cons (fun f w_ hS71 hE71 hP71 => ?_) ?_
                          ·
                            have hx := ext_trans hx hE71
                            refine L_geq (m := i_61) (n := 0) rfl (hP71 0 16 rfl rfl) rfl ?_
                            exact L_nil ⟨rfl, (ext_refl _), _, _, rfl, rfl, rfl⟩
                          refine ops_cons (fun f w_ hS71 hE71 hP71 => ?_) ?_
                          ·
                            have hx := ext_trans hx hE71
                            refine L_mv (v := .bool (decide (i_61 ≥ 0))) rfl (hP71 1 17 rfl rfl) ?_
                            exact L_nil ⟨rfl, (ext_refl _), _, _, rfl, rfl, rfl⟩
                          refine ops_cons (fun f w_ hS71 hE71 hP71 => ?_) ?_
                          ·
                            have hx := ext_trans hx hE71
                            have hv60_cells := Own.ext hv60_cells hE71
                            refine L_pass (g_no rfl (Eq.trans (hP71 2 18 rfl rfl) (congrArg Value.bool hc73)) rfl rfl) ?_
                            exact L_nil ⟨rfl, (ext_refl _), _, _, rfl, rfl, rfl⟩
                          refine ops_cons (fun f w_ hS71 hE71 hP71 => ?_) ?_
                          ·
                            have hx := ext_trans hx hE71
                            refine L_pass (g_no rfl (Eq.trans (hP71 2 18 rfl rfl) (congrArg Value.bool hc73)) rfl rfl) ?_
                            exact L_nil ⟨rfl, (ext_refl _), _, _, rfl, rfl, rfl⟩
                          refine ops_cons (fun f w_ hS71 hE71 hP71 => ?_) ?_
                          ·
                            have hx := ext_trans hx hE71
                            refine L_pass (g_no rfl (Eq.trans (hP71 2 18 rfl rfl) (congrArg Value.bool hc73)) rfl rfl) ?_
                            exact L_nil ⟨rfl, (ext_refl _), _, _, rfl, rfl, rfl⟩
                          refine ops_cons (fun f w_ hS71 hE71 hP71 => ?_) ?_
                          ·
                            have hx := ext_trans hx hE71
                            refine L_pass (g_no rfl (Eq.trans (hP71 2 18 rfl rfl) (congrArg Value.bool hc73)) rfl rfl) ?_
                            exact L_nil ⟨rfl, (ext_refl _), _, _, rfl, rfl, rfl⟩
                          refine ops_cons (fun f w_ hS71 hE71 hP71 => ?_) ?_
                          ·
                            have hx := ext_trans hx hE71
                            have h0_0 := RP.ext h0_0 hE71
                            refine L_pass (g_no rfl (Eq.trans (hP71 2 18 rfl rfl) (congrArg Value.bool hc73)) rfl rfl) ?_
                            exact L_nil ⟨rfl, (ext_refl _), _, _, rfl, rfl, rfl⟩
                          refine ops_cons (fun f w_ hS71 hE71 hP71 => ?_) ?_
                          ·
                            have hx := ext_trans hx hE71
                            refine L_pass (g_no rfl (Eq.trans (hP71 2 18 rfl rfl) (congrArg Value.bool hc73)) rfl rfl) ?_
                            exact L_nil ⟨rfl, (ext_refl _), _, _, rfl, rfl, rfl⟩
                          refine ops_cons (fun f w_ hS71 hE71 hP71 => ?_) ?_
                          ·
                            have hx := ext_trans hx hE71
                            refine L_pass (g_no rfl (Eq.trans (hP71 2 18 rfl rfl) (congrArg Value.bool hc73)) rfl rfl) ?_
                            exact L_nil ⟨rfl, (ext_refl _), _, _, rfl, rfl, rfl⟩
                          refine ops_cons (fun f w_ hS71 hE71 hP71 => ?_) ?_
                          ·
                            have hx := ext_trans hx hE71
                            refine L_pass (g_no rfl (Eq.trans (hP71 2 18 rfl rfl) (congrArg Value.bool hc73)) rfl rfl) ?_
                            exact L_nil ⟨rfl, (ext_refl _), _, _, rfl, rfl, rfl⟩
                          exact ops_nil
                        ·
                          have h0_0 := RP.ext h0_0 hE71
                          have hv60_cells := Own.ext hv60_cells hE71
                          have hv35_g11_0 := Own.ext hv35_g11_0 hE71
                          have hb_g11 := Blk.ext hb_g11 hE71
                          have h0_1 := RP.ext h0_1 hE71
                          have hb_g3 := Blk.ext hb_g3 hE71
                          have hx := ext_trans hx hE71
                          refine L_pass (g_no rfl (Eq.trans (hT71 2 18 rfl rfl) (congrArg Value.bool hc73)) rfl rfl) ?_
                          refine L_pick (v := .bool b70) rfl (Eq.trans (hT71 2 18 rfl rfl) (congrArg Value.bool hc73)) (congrArg Value.bool (so hb70)) ?_
                          refine L_nil ?_
                          show R72 _ _
                          rw [hR72]
                          exact ⟨((hS71 0 rfl).trans sf0), ((hS71 2 rfl).trans sf2), ((hS71 6 rfl).trans sf6), ((hS71 7 rfl).trans sf7), rfl, h0_0, hv60_cells, hv35_g11_0, hb_g11, h0_1, hb_g3, hx⟩
                    ·
                      intro f w_ hR
                      rw [hR72] at hR
                      obtain ⟨sf0, sf2, sf6, sf7, sf28, h0_0, hv60_cells, hv35_g11_0, hb_g11, h0_1, hb_g3, hx⟩ := hR
                      clear hR72
                      refine W_cond (b := b70) sf28 (fun hc84 => ?_) (fun hc84 => ?_)
                      ·
                        have hB63 := (ite_t hc84).symm.trans hB63
                        refine W_skip ?_
                        refine W_block ?_
                        refine W_seq ?_
                        obtain ⟨x85, hx85, hB63⟩ := bind_some hB63
                        refine W_region ?_
                        refine L_mv (v := v60_cells) rfl sf6 ?_
                        refine L_mv (v := .int .i64 i_61) rfl sf7 ?_
                        refine L_ixo (r := RP.int) rfl et_23 rfl hv60_cells rfl hx85 ?_
                        intro g89 c90 cs90 hg90 hl90 hc90 hr90 hj90
                        obtain rfl : cs90 = [_] := hr90
                        refine L_st (v := .int .i64 0) rfl Try.sizeOf3 rfl rfl rfl hc90 (hj90 0 _ rfl) ?_
                        intro w91 hp91
                        have hv60_cells_n : Own RP.int 3 _ B w91 _ (cells_60.set (Int.toNat i_61) 0) := own_set hv60_cells hg90 rfl (by decide) (idx_some hx85).2.2 hc90 hp91 rfl hB
                        have h0_0 := hp91.mu.rel_lo h0_0 hl90
                        have hv35_g11_0 := hp91.mu.ownA hv35_g11_0 (ap_eq hg90 (Ap.symm aq62)) (by decide) (Nat.le_trans hB hl90)
                        have hb_g11 := hp91.mu.blk hb_g11 (by decide)
                        have h0_1 := hp91.mu.rel_lo h0_1 hl90
                        have hb_g3 := hp91.mu.blk hb_g3 (by decide)
                        have hx := ext_mut hx hp91.mu hl90
                        have hv60_cells := hv60_cells_n
                        refine L_nil ?_
                        refine W_region ?_
                        refine L_mv (v := .int .i64 i_61) rfl sf7 ?_
                        refine L_sub (m := i_61) (n := 1) rfl rfl rfl ?_
                        refine L_as (v := .int .i64 (i64 (i_61 - 1))) rfl rfl ?_
                        refine L_nil ?_
                        obtain rfl := so hB63
                        show ∃ m, m < _ ∧ I63 m _ _
                        refine ⟨n63, Nat.lt_succ_self _, ?_⟩
                        rw [hI63]
                        exact ⟨(cells_60.set (Int.toNat i_61) 0), i64 (i_61 - 1), v60_cells, hL63, sf0, sf2, sf6, rfl, h0_0, hv60_cells, hv35_g11_0, hb_g11, h0_1, hb_g3, aq62, hx⟩
                      ·
                        have hB63 := (ite_f hc84).symm.trans hB63
                        refine W_exit ?_
                        obtain rfl := so hB63
                        obtain rfl := so hL63
                        show R63 _ _
                        rw [hR63]
                        exact ⟨cells_60, i_61, v60_cells, rfl, sf0, sf2, sf6, sf7, h0_0, hv60_cells, hv35_g11_0, hb_g11, h0_1, hb_g3, aq62, hx⟩
              ·
                intro f w_ hR
                rw [hR63] at hR
                obtain ⟨cells_60, i_61, v60_cells, rfl, sf0, sf2, sf6, sf7, h0_0, hv60_cells, hv35_g11_0, hb_g11, h0_1, hb_g3, aq62, hx⟩ := hR
                clear hR63
                refine W_seq ?_
                refine W_seq ?_
                refine W_region ?_
                refine L_mv (v := .int .i64 i_61) rfl sf7 ?_
                refine L_lss (m := i_61) (n := 0) rfl rfl rfl ?_
                refine L_nil ?_
                refine W_cond (b := decide (i_61 < 0)) rfl (fun hc92 => ?_) (fun hc92 => ?_)
                ·
                  have hB28 := (ite_t hc92).symm.trans hB28
                  refine W_ret ?_
                  obtain rfl := so hB28
                  obtain rfl := so hL28
                  obtain rfl := so hA18
                  refine ret0 Try.results63 ?_
                  show R18 _ _
                  rw [hR18]
                  exact ⟨v35_g11_0, rfl, hst36, hv35_g11_0, hb_g11, hx⟩
                ·
                  have hB28 := (ite_f hc92).symm.trans hB28
                  refine W_skip ?_
                  obtain ⟨x93, hx93, hB28⟩ := bind_some hB28
                  refine W_region ?_
                  refine L_mv (v := v60_cells) rfl sf6 ?_
                  refine L_mv (v := .int .i64 i_61) rfl sf7 ?_
                  refine L_ix (r := RP.int) rfl Try.underlying23 Try.sizeOf3 rfl (Own.rel hv60_cells) rfl hx93 ?_
                  intro g99 o100 cs100 hr100 hat100
                  obtain rfl : _ = [_] := hr100
                  refine L_ld (v := .int .i64 x93) rfl Try.isAgg3 rfl (hat100.cell (j := 0) rfl) ?_
                  refine L_add (m := x93) (n := 1) rfl rfl rfl ?_
                  refine L_ixo (r := RP.int) rfl et_23 rfl hv60_cells rfl hx93 ?_
                  intro g101 c102 cs102 hg102 hl102 hc102 hr102 hj102
                  obtain rfl : cs102 = [_] := hr102
                  refine L_st (v := .int .i64 (i64 (x93 + 1))) rfl Try.sizeOf3 rfl rfl rfl hc102 (hj102 0 _ rfl) ?_
                  intro w103 hp103
                  have hv60_cells_n : Own RP.int 3 _ B w103 _ (cells_60.set (Int.toNat i_61) (i64 (x93 + 1))) := own_set hv60_cells hg102 rfl (by decide) (idx_some hx93).2.2 hc102 hp103 rfl hB
                  have h0_0 := hp103.mu.rel_lo h0_0 hl102
                  have hv35_g11_0 := hp103.mu.ownA hv35_g11_0 (ap_eq hg102 (Ap.symm aq62)) (by decide) (Nat.le_trans hB hl102)
                  have hb_g11 := hp103.mu.blk hb_g11 (by decide)
                  have h0_1 := hp103.mu.rel_lo h0_1 hl102
                  have hb_g3 := hp103.mu.blk hb_g3 (by decide)
                  have hx := ext_mut hx hp103.mu hl102
                  have hv60_cells := hv60_cells_n
                  refine L_nil ?_
                  obtain rfl := so hB28
                  show ∃ m, m < _ ∧ I28 m _ _
                  refine ⟨n28, Nat.lt_succ_self _, ?_⟩
                  rw [hI28]
                  exact ⟨(cells_60.set (Int.toNat i_61) (i64 (x93 + 1))), g11_0_30, v60_cells, v35_g11_0, hL28, sf0, sf2, sf6, hst36, h0_0, hv60_cells, hv35_g11_0, hb_g11, h0_1, hb_g3, aq62, hx⟩
            ·
              have hB28 := (ite_f hc58).symm.trans hB28
              refine W_exit ?_
              obtain rfl := so hB28
              obtain rfl := so hL28
              show R28 _ _
              rw [hR28]
              exact ⟨cells_24, g11_0_30, v35_g11_0, rfl, hst36, hv35_g11_0, hb_g11, hx⟩
      ·
        intro f w_ hR
        rw [hR28] at hR
        obtain ⟨cells_24, g11_0_25, v25_g11_0, rfl, hst26, hv25_g11_0, hb_g11, hx⟩ := hR
        clear hR28
        obtain rfl := so hA18
        refine end0 Try.results63 ?_
        show R18 _ _
        rw [hR18]
        exact ⟨v25_g11_0, rfl, hst26, hv25_g11_0, hb_g11, hx⟩
    intro v_18 w_ hR
    rw [hR18] at hR
    obtain ⟨v16_g11_0, rfl, hst17, hv16_g11_0, hb_g11, hx⟩ := hR
    clear hR18
    refine L_nil ?_
    refine W_seq ?_
    refine W_drawL 4 [isV (v16_g11_0), isV (v16_g11_0), isV (.bool (!(List.isEmpty g11_0_13))), isV (v16_g11_0)] Try_mix (by kernel_rfl) (am_cons (mono_V _) (am_cons (mono_V _) (am_cons (mono_V _) (am_cons (mono_V _) am_nil)))) ?_ (fun f w_ hS104 hE104 hT104 => ?_)
    ·
      refine ops_cons (fun f w_ hS104 hE104 hP104 => ?_) ?_
      ·
        have hx := ext_trans hx hE104
        have hv16_g11_0 := Own.ext hv16_g11_0 hE104
        have hb_g11 := Blk.ext hb_g11 hE104
        refine L_ld (v := v16_g11_0) rfl Try.isAgg23 ((hS104 6 rfl).trans rfl) (hb_g11.cell (j := 0) rfl) ?_
        exact L_nil ⟨rfl, (ext_refl _), _, _, rfl, rfl, rfl⟩
      refine ops_cons (fun f w_ hS104 hE104 hP104 => ?_) ?_
      ·
        have hx := ext_trans hx hE104
        have hv16_g11_0 := Own.ext hv16_g11_0 hE104
        have hb_g11 := Blk.ext hb_g11 hE104
        refine L_ld (v := v16_g11_0) rfl Try.isAgg23 ((hS104 6 rfl).trans rfl) (hb_g11.cell (j := 0) rfl) ?_
        exact L_nil ⟨rfl, (ext_refl _), _, _, rfl, rfl, rfl⟩
      refine ops_cons (fun f w_ hS104 hE104 hP104 => ?_) ?_
      ·
        have hx := ext_trans hx hE104
        have hv16_g11_0 := Own.ext hv16_g11_0 hE104
        obtain ⟨a106, cap106, hsl106, _, _⟩ := slice_len (Own.rel hv16_g11_0)
        refine L_nilne (a := a106) rfl Try.underlying23 (Eq.trans (hP104 1 17 rfl rfl) hsl106) rfl ?_
        rw [← hsl106]
        rw [hst17]
        exact L_nil ⟨rfl, (ext_refl _), _, _, rfl, rfl, rfl⟩
      refine ops_cons (fun f w_ hS104 hE104 hP104 => ?_) ?_
      ·
        have hx := ext_trans hx hE104
        have hv16_g11_0 := Own.ext hv16_g11_0 hE104
        refine L_as (v := v16_g11_0) rfl (hP104 0 16 rfl rfl) ?_
        exact L_nil ⟨rfl, (ext_refl _), _, _, rfl, rfl, rfl⟩
      exact ops_nil
    ·
      have hv16_g11_0 := Own.ext hv16_g11_0 hE104
      have hb_g11 := Blk.ext hb_g11 hE104
      have hx := ext_trans hx hE104
      refine L_as (v := .bool (!(List.isEmpty g11_0_13))) rfl (hT104 2 18 rfl rfl) ?_
      refine L_nil ?_
      refine W_ret ?_
      obtain rfl := so hF
      refine ret2 Try.results35 ?_
      exact ⟨⟨v16_g11_0, (tup2_eq (hT104 3 4 rfl rfl) rfl), hv16_g11_0⟩, hx⟩

theorem s_NextModel_c {fu : Nat} {m : Model} {cells : List Int} {v0_0 : Value} {v0_1 : Value} {v1 : Value} {w : World} {B : Nat} (hB : B ≤ w.heap.size) (h0_0 : (RP.slice 3 RP.int).rel B w.heap.size w [v0_0] m.sizes) (h0_1 : (RP.slice 36 (rRule 3 23)).rel B w.heap.size w [v0_1] m.rules) (h1 : (RP.slice 3 RP.int).rel B w.heap.size w [v1] cells) {r : (List Int) × Bool} (hF : s_NextModel fu m cells = some r) :
    C Try.prog 36 #[.agg #[v0_0, v0_1], v1] w fun v w' => (∃ u1 : Value, v = .tuple #[u1, .bool r.2] ∧ Own RP.int 3 w.heap.size B w' u1 r.1) ∧ Ext w w' := by
  unfold s_NextModel at hF
  have hx := ext_refl w
  refine C_enter Try.func36 rfl Try.ntmps36 rfl ?_
  refine W_seq ?_
  refine W_region ?_
  refine L_box (v := .agg #[v0_0, v0_1]) (cs := #[v0_0, v0_1]) rfl rfl rfl ?_
  intro g3 w4 hn4
  have hge_g3 := hn4.geS hx.size
  have hb_g3 := hn4.blk
  have h0_0 := RP.ext h0_0 hn4.ext
  have h0_1 := RP.ext h0_1 hn4.ext
  have h1 := RP.ext h1 hn4.ext
  have hx := ext_trans hx hn4.ext
  refine L_as (v := (.slice none 0 0)) rfl rfl ?_
  refine L_as (v := .bool false) rfl rfl ?_
  refine L_nil ?_
  refine W_seq ?_
  refine W_seq ?_
  obtain ⟨x5, hx5, hF⟩ := bind_some hF
  refine W_region ?_
  refine L_lda (cs := [v0_0, v0_1]) rfl Try.isAgg26 Try.sizeOf26 rfl (Blk.sub hb_g3 0 2) rfl ?_
  refine L_mv (v := v1) rfl rfl ?_
  refine L_call (args := #[.agg #[v0_0, v0_1], v1]) rfl Try.call24 (ops2 rfl rfl) (s_CellsValid_c (m := m) (cells := cells) (Nat.le_trans hB hx.size) (rel0 h0_0) (rel0 h0_1) (rel0 h1) hx5) ?_
  rintro _ w7 ⟨rfl, he7⟩
  have h0_0 := RP.ext h0_0 he7
  have h0_1 := RP.ext h0_1 he7
  have h1 := RP.ext h1 he7
  have hb_g3 := Blk.ext hb_g3 he7
  have hx := ext_trans hx he7
  refine L_not_ (b := x5) rfl rfl ?_
  refine L_nil ?_
  refine W_cond (b := (!x5)) rfl (fun hc8 => ?_) (fun hc8 => ?_)
  ·
    have hF := (ite_t hc8).symm.trans hF
    refine W_seq ?_
    refine W_region ?_
    refine L_bs rfl parts0 (bs_23_0  ) ?_
    intro g11 w12 hn12
    have ho12 : Own RP.int 3 w.heap.size B w12 _ _ := own_new0 hn12 hx.size
    have hz12 := zero_new hn12 hx.size
    have hx := ext_trans hx hn12.ext
    refine L_as (v := (.slice (some ⟨g11, 0, none⟩) 0 0)) rfl rfl ?_
    refine L_as (v := .bool false) rfl rfl ?_
    refine L_nil ?_
    refine W_ret ?_
    obtain rfl := so hF
    refine ret2 Try.results36 ?_
    exact ⟨⟨(.slice (some ⟨g11, 0, none⟩) 0 0), (tup2_eq rfl rfl), ho12⟩, hx⟩
  ·
    have hF := (ite_f hc8).symm.trans hF
    refine W_skip ?_
    refine W_seq ?_
    obtain ⟨x15, hx15, hF⟩ := bind_some hF
    refine W_region ?_
    refine L_bs rfl parts0 (bs_23_0  ) ?_
    intro g17 w18 hn18
    have ho18 : Own RP.int 3 w.heap.size B w18 _ _ := own_new0 hn18 hx.size
    have hz18 := zero_new hn18 hx.size
    have h0_0 := RP.ext h0_0 hn18.ext
    have h0_1 := RP.ext h0_1 hn18.ext
    have h1 := RP.ext h1 hn18.ext
    have hb_g3 := Blk.ext hb_g3 hn18.ext
    have hx := ext_trans hx hn18.ext
    refine L_mv (v := v1) rfl rfl ?_
    refine L_app (v := (.slice (some ⟨g17, 0, none⟩) 0 0)) (u := v1) rfl et_23 (by decide) rfl rfl ho18 (rel0 h1) hx15 hx.size hB ?_
    intro v19 w19 ho19 hm19 hb19
    have h0_0 := hm19.rel_lo h0_0 (Nat.le_refl _)
    have h0_1 := hm19.rel_lo h0_1 (Nat.le_refl _)
    have hb_g3 := hm19.blk hb_g3 (by decide)
    have hx := ext_mut hx hm19 (Nat.le_refl _)
    refine L_as (v := v19) rfl rfl ?_
    refine L_nil ?_
    refine W_seq ?_
    refine W_seq ?_
    refine W_region ?_
    refine L_as (v := .bool true) rfl rfl ?_
    refine L_nil ?_
    obtain ⟨j23, hL23, hF⟩ := bind_some hF
    obtain ⟨R23, hR23⟩ : ∃ R : Fr → World → Prop, R = fun f w_ => ∃ out_21 : List Int, ∃ more_22 : Bool, j23 = .nx (out_21, more_22) ∧ Ext w w_ := ⟨_, rfl⟩
    refine W_join R23 ?_ ?_
    ·
      refine W_block ?_
      obtain ⟨I23, hI23⟩ : ∃ I : Nat → Fr → World → Prop, I = fun n f w_ => ∃ out_21 : List Int, ∃ more_22 : Bool, ∃ v21_out : Value, whileL (s_NextModel_b1 fu m) n (out_21, more_22) = some j23 ∧ f 2 = .pointer (some ⟨g3, 0, none⟩) ∧ f 6 = v21_out ∧ f 7 = .bool more_22 ∧ Own RP.int 3 w.heap.size B w_ v21_out out_21 ∧ (RP.slice 3 RP.int).rel B w.heap.size w_ [v0_0] m.sizes ∧ (RP.slice 36 (rRule 3 23)).rel B w.heap.size w_ [v0_1] m.rules ∧ Blk w_ g3 26 #[v0_0, v0_1] ∧ Ext w w_ := ⟨_, rfl⟩
      refine W_loop I23 (n := fu) ?_ ?_
      · rw [hI23]; exact ⟨x15, true, v19, hL23, rfl, rfl, rfl, ho19, h0_0, h0_1, hb_g3, hx⟩
      ·
        intro n23 f w_ hI
        rw [hI23] at hI
        obtain ⟨out_21, more_22, v21_out, hL23, sf2, sf6, sf7, hv21_out, h0_0, h0_1, hb_g3, hx⟩ := hI
        cases n23 with
        | zero => exact (while_zero hL23).elim
        | succ n23 =>
          obtain ⟨o23, hB23, hL23⟩ := while_succ hL23
          rw [s_NextModel_b1] at hB23
          refine W_seq ?_
          refine W_seq ?_
          refine W_region ?_
          refine L_mv (v := .bool more_22) rfl sf7 ?_
          refine L_nil ?_
          refine W_cond (b := more_22) rfl (fun hc24 => ?_) (fun hc24 => ?_)
          ·
            have hB23 := (ite_t hc24).symm.trans hB23
            refine W_skip ?_
            refine W_block ?_
            refine W_seq ?_
            refine W_seq ?_
            obtain ⟨x25, hx25, hB23⟩ := bind_some hB23
            refine W_region ?_
            refine L_lda (cs := [v0_0, v0_1]) rfl Try.isAgg26 Try.sizeOf26 sf2 (Blk.sub hb_g3 0 2) rfl ?_
            refine L_mv (v := v21_out) rfl sf6 ?_
            refine L_call (args := #[.agg #[v0_0, v0_1], v21_out]) rfl Try.call60 (ops2 rfl rfl) (s_l6Solves_c (m := m) (cells := out_21) (Nat.le_trans hB hx.size) (rel0 h0_0) (rel0 h0_1) (rel0 (Own.rel hv21_out)) hx25) ?_
            rintro _ w27 ⟨rfl, he27⟩
            have hv21_out := Own.ext hv21_out he27
            have h0_0 := RP.ext h0_0 he27
            have h0_1 := RP.ext h0_1 he27
            have hb_g3 := Blk.ext hb_g3 he27
            have hx := ext_trans hx he27
            refine L_nil ?_
            refine W_cond (b := x25) rfl (fun hc28 => ?_) (fun hc28 => ?_)
            ·
              have hB23 := (ite_t hc28).symm.trans hB23
              refine W_seq ?_
              refine W_region ?_
              refine L_mv (v := v21_out) rfl sf6 ?_
              refine L_as (v := v21_out) rfl rfl ?_
              refine L_as (v := .bool true) rfl rfl ?_
              refine L_nil ?_
              refine W_ret ?_
              obtain rfl := so hB23
              obtain rfl := so hL23
              obtain rfl := so hF
              refine ret2 Try.results36 ?_
              exact ⟨⟨v21_out, (tup2_eq rfl rfl), hv21_out⟩, hx⟩
            ·
              have hB23 := (ite_f hc28).symm.trans hB23
              refine W_skip ?_
              obtain ⟨x29, hx29, hB23⟩ := bind_some hB23
              refine W_region ?_
              refine L_lda (cs := [v0_0, v0_1]) rfl Try.isAgg26 Try.sizeOf26 sf2 (Blk.sub hb_g3 0 2) rfl ?_
              refine L_mv (v := v21_out) rfl sf6 ?_
              refine L_call (args := #[.agg #[v0_0, v0_1], v21_out]) rfl Try.call65 (ops2 rfl rfl) (s_l6Next_c (m := m) (cells := out_21) (Nat.le_trans hB hx.size) (rel0 h0_0) (rel0 h0_1) (rel0 (Own.rel hv21_out)) hx29) ?_
              rintro _ w32 ⟨⟨r32_0, rfl, hr32_0⟩, he32⟩
              have ap33 := ap_oc hv21_out hr32_0
              have hr32_0 : Own _ _ w.heap.size B _ _ _ := hr32_0.wide hx.size (Nat.le_refl _)
              have hv21_out := Own.ext hv21_out he32
              have h0_0 := RP.ext h0_0 he32
              have h0_1 := RP.ext h0_1 he32
              have hb_g3 := Blk.ext hb_g3 he32
              have hx := ext_trans hx he32
              refine L_mv (v := .tuple #[r32_0, .bool x29.2]) rfl rfl ?_
              refine L_ex (v := r32_0) rfl rfl rfl ?_
              refine L_ex (v := .bool x29.2) rfl rfl rfl ?_
              refine L_as (v := r32_0) rfl rfl ?_
              refine L_as (v := .bool x29.2) rfl rfl ?_
              refine L_nil ?_
              obtain rfl := so hB23
              show ∃ m, m < _ ∧ I23 m _ _
              refine ⟨n23, Nat.lt_succ_self _, ?_⟩
              rw [hI23]
              exact ⟨x29.1, x29.2, r32_0, hL23, sf2, rfl, rfl, hr32_0, h0_0, h0_1, hb_g3, hx⟩
          ·
            have hB23 := (ite_f hc24).symm.trans hB23
            refine W_exit ?_
            obtain rfl := so hB23
            obtain rfl := so hL23
            show R23 _ _
            rw [hR23]
            exact ⟨out_21, more_22, rfl, hx⟩
    ·
      intro f w_ hR
      rw [hR23] at hR
      obtain ⟨out_21, more_22, rfl, hx⟩ := hR
      clear hR23
      refine W_seq ?_
      refine W_region ?_
      refine L_bs rfl parts0 (bs_23_0  ) ?_
      intro g36 w37 hn37
      have ho37 : Own RP.int 3 w.heap.size B w37 _ _ := own_new0 hn37 hx.size
      have hz37 := zero_new hn37 hx.size
      have hx := ext_trans hx hn37.ext
      refine L_as (v := (.slice (some ⟨g36, 0, none⟩) 0 0)) rfl rfl ?_
      refine L_as (v := .bool false) rfl rfl ?_
      refine L_nil ?_
      refine W_ret ?_
      obtain rfl := so hF
      refine ret2 Try.results36 ?_
      exact ⟨⟨(.slice (some ⟨g36, 0, none⟩) 0 0), (tup2_eq rfl rfl), ho37⟩, hx⟩

theorem l_cpLess_c {fu : Nat} {a : List Int} {b : List Int} {v0 : Value} {v1 : Value} {w : World} {B : Nat} (hB : B ≤ w.heap.size) (h0 : (RP.slice 3 RP.int).rel B w.heap.size w [v0] a) (h1 : (RP.slice 3 RP.int).rel B w.heap.size w [v1] b) {r : Bool} (hF : l_cpLess fu a b = some r) :
    C Try.prog 37 #[v0, v1] w fun v w' => (v = .bool r) ∧ Ext w w' := by
  unfold l_cpLess at hF
  have hx := ext_refl w
  refine C_enter Try.func37 rfl Try.ntmps37 rfl ?_
  refine W_seq ?_
  refine W_region ?_
  refine L_as (v := .bool false) rfl rfl ?_
  refine L_nil ?_
  refine W_seq ?_
  refine W_seq ?_
  refine W_region ?_
  refine L_as (v := .int .i64 0) rfl rfl ?_
  refine L_nil ?_
  obtain ⟨j4, hL4, hF⟩ := bind_some hF
  obtain ⟨R4, hR4⟩ : ∃ R : Fr → World → Prop, R = fun f w_ => ∃ i_3 : Int, j4 = .nx i_3 ∧ Ext w w_ := ⟨_, rfl⟩
  refine W_join R4 ?_ ?_
  ·
    refine W_block ?_
    obtain ⟨I4, hI4⟩ : ∃ I : Nat → Fr → World → Prop, I = fun n f w_ => ∃ i_3 : Int, whileL (l_cpLess_b1 a b) n i_3 = some j4 ∧ f 0 = v0 ∧ f 1 = v1 ∧ f 5 = .int .i64 i_3 ∧ (RP.slice 3 RP.int).rel B w.heap.size w_ [v0] a ∧ (RP.slice 3 RP.int).rel B w.heap.size w_ [v1] b ∧ Ext w w_ := ⟨_, rfl⟩
    refine W_loop I4 (n := fu) ?_ ?_
    · rw [hI4]; exact ⟨0, hL4, rfl, rfl, rfl, h0, h1, hx⟩
    ·
      intro n4 f w_ hI
      rw [hI4] at hI
      obtain ⟨i_3, hL4, sf0, sf1, sf5, h0, h1, hx⟩ := hI
      cases n4 with
      | zero => exact (while_zero hL4).elim
      | succ n4 =>
        obtain ⟨o4, hB4, hL4⟩ := while_succ hL4
        rw [l_cpLess_b1] at hB4
        refine W_seq ?_
        refine W_seq ?_
        obtain ⟨R5, hR5⟩ : ∃ R : Fr → World → Prop, R = fun f w_ => f 0 = v0 ∧ f 1 = v1 ∧ f 5 = .int .i64 i_3 ∧ f 15 = .bool ((decide (i_3 < (a.length : Int))) && (decide (i_3 < (b.length : Int)))) ∧ (RP.slice 3 RP.int).rel B w.heap.size w_ [v0] a ∧ (RP.slice 3 RP.int).rel B w.heap.size w_ [v1] b ∧ Ext w w_ := ⟨_, rfl⟩
        refine W_join R5 ?_ ?_
        ·
          refine W_region ?_
          refine L_mv (v := .int .i64 i_3) rfl sf5 ?_
          refine L_mv (v := v0) rfl sf0 ?_
          refine L_len (v := v0) rfl Try.underlying23 rfl h0 ?_
          refine L_lss (m := i_3) (n := (a.length : Int)) rfl rfl rfl ?_
          refine L_mv (v := .bool (decide (i_3 < (a.length : Int)))) rfl rfl ?_
          refine L_split (d := 10) (b := decide (i_3 < (a.length : Int))) rfl (fun hc6 => ?_) (fun hc6 => ?_)
          ·
            refine L_mv (v := .int .i64 i_3) rfl sf5 ?_
            refine L_mv (v := v1) rfl sf1 ?_
            refine L_len (v := v1) rfl Try.underlying23 rfl h1 ?_
            refine L_lss (m := i_3) (n := (b.length : Int)) rfl rfl rfl ?_
            refine L_pick (v := .bool ((decide (i_3 < (a.length : Int))) && (decide (i_3 < (b.length : Int))))) rfl rfl (and_t hc6 rfl) ?_
            refine L_nil ?_
            show R5 _ _
            rw [hR5]
            exact ⟨sf0, sf1, sf5, rfl, h0, h1, hx⟩
          ·
            refine L_pass rfl ?_
            refine L_pass rfl ?_
            refine L_pass rfl ?_
            refine L_pass rfl ?_
            refine L_pick (v := .bool ((decide (i_3 < (a.length : Int))) && (decide (i_3 < (b.length : Int))))) rfl rfl (and_f hc6) ?_
            refine L_nil ?_
            show R5 _ _
            rw [hR5]
            exact ⟨sf0, sf1, sf5, rfl, h0, h1, hx⟩
        ·
          intro f w_ hR
          rw [hR5] at hR
          obtain ⟨sf0, sf1, sf5, sf15, h0, h1, hx⟩ := hR
          clear hR5
          refine W_cond (b := ((decide (i_3 < (a.length : Int))) && (decide (i_3 < (b.length : Int))))) sf15 (fun hc7 => ?_) (fun hc7 => ?_)
          ·
            have hB4 := (ite_t hc7).symm.trans hB4
            refine W_skip ?_
            refine W_seq ?_
            refine W_block ?_
            refine W_seq ?_
            obtain ⟨x8, hx8, hB4⟩ := bind_some hB4
            obtain ⟨x11, hx11, hB4⟩ := bind_some hB4
            refine W_drawL 8 [isV (v0), isV (.int .i64 i_3), isEl B RP.int x8 0, isV (.int .i64 x8), isV (v1), isV (.int .i64 i_3), isEl B RP.int x11 0, isV (.int .i64 x11)] Try_mix (by kernel_rfl) (am_cons (mono_V _) (am_cons (mono_V _) (am_cons (mono_el _ _ _ _) (am_cons (mono_V _) (am_cons (mono_V _) (am_cons (mono_V _) (am_cons (mono_el _ _ _ _) (am_cons (mono_V _) am_nil)))))))) ?_ (fun f w_ hS14 hE14 hT14 => ?_)
            ·
              refine ops_cons (fun f w_ hS14 hE14 hP14 => ?_) ?_
              ·
                have hx := ext_trans hx hE14
                have h0 := RP.ext h0 hE14
                refine L_mv (v := v0) rfl ((hS14 0 rfl).trans sf0) ?_
                exact L_nil ⟨rfl, (ext_refl _), _, _, rfl, rfl, rfl⟩
              refine ops_cons (fun f w_ hS14 hE14 hP14 => ?_) ?_
              ·
                have hx := ext_trans hx hE14
                refine L_mv (v := .int .i64 i_3) rfl ((hS14 5 rfl).trans sf5) ?_
                exact L_nil ⟨rfl, (ext_refl _), _, _, rfl, rfl, rfl⟩
              refine ops_cons (fun f w_ hS14 hE14 hP14 => ?_) ?_
              ·
                have hx := ext_trans hx hE14
                have h0 := RP.ext h0 hE14
                refine L_ix (r := RP.int) rfl Try.underlying23 Try.sizeOf3 (hP14 0 18 rfl rfl) h0 (hP14 1 19 rfl rfl) hx8 ?_
                intro g19 o20 cs20 hr20 hat20
                obtain rfl : _ = [_] := hr20
                exact L_nil ⟨rfl, (ext_refl _), _, _, rfl, rfl, ⟨_, _, _, rfl, rfl, hat20⟩⟩
              refine ops_cons (fun f w_ hS14 hE14 hP14 => ?_) ?_
              ·
                have hx := ext_trans hx hE14
                obtain ⟨g21, o21, cs21, hv21, hr21, hat21⟩ := (hP14 2 20 rfl rfl)
                obtain rfl : _ = [_] := hr21
                refine L_ld (v := .int .i64 x8) rfl Try.isAgg3 hv21 (hat21.cell (j := 0) rfl) ?_
                exact L_nil ⟨rfl, (ext_refl _), _, _, rfl, rfl, rfl⟩
              refine ops_cons (fun f w_ hS14 hE14 hP14 => ?_) ?_
              ·
                have hx := ext_trans hx hE14
                have h1 := RP.ext h1 hE14
                refine L_mv (v := v1) rfl ((hS14 1 rfl).trans sf1) ?_
                exact L_nil ⟨rfl, (ext_refl _), _, _, rfl, rfl, rfl⟩
              refine ops_cons (fun f w_ hS14 hE14 hP14 => ?_) ?_
              ·
                have hx := ext_trans hx hE14
                refine L_mv (v := .int .i64 i_3) rfl ((hS14 5 rfl).trans sf5) ?_
                exact L_nil ⟨rfl, (ext_refl _), _, _, rfl, rfl, rfl⟩
              refine ops_cons (fun f w_ hS14 hE14 hP14 => ?_) ?_
              ·
                have hx := ext_trans hx hE14
                have h1 := RP.ext h1 hE14
                refine L_ix (r := RP.int) rfl Try.underlying23 Try.sizeOf3 (hP14 4 22 rfl rfl) h1 (hP14 5 23 rfl rfl) hx11 ?_
                intro g22 o23 cs23 hr23 hat23
                obtain rfl : _ = [_] := hr23
                exact L_nil ⟨rfl, (ext_refl _), _, _, rfl, rfl, ⟨_, _, _, rfl, rfl, hat23⟩⟩
              refine ops_cons (fun f w_ hS14 hE14 hP14 => ?_) ?_
              ·
                have hx := ext_trans hx hE14
                obtain ⟨g24, o24, cs24, hv24, hr24, hat24⟩ := (hP14 6 24 rfl rfl)
                obtain rfl : _ = [_] := hr24
                refine L_ld (v := .int .i64 x11) rfl Try.isAgg3 hv24 (hat24.cell (j := 0) rfl) ?_
                exact L_nil ⟨rfl, (ext_refl _), _, _, rfl, rfl, rfl⟩
              exact ops_nil
            ·
              have h0 := RP.ext h0 hE14
              have h1 := RP.ext h1 hE14
              have hx := ext_trans hx hE14
              refine L_neq (m := x8) (n := x11) rfl (hT14 3 21 rfl rfl) (hT14 7 25 rfl rfl) ?_
              refine L_nil ?_
              refine W_cond (b := (x8 != x11)) rfl (fun hc25 => ?_) (fun hc25 => ?_)
              ·
                have hB4 := (ite_t hc25).symm.trans hB4
                refine W_seq ?_
                refine W_drawL 8 [isV (v0), isV (.int .i64 i_3), isEl B RP.int x8 0, isV (.int .i64 x8), isV (v1), isV (.int .i64 i_3), isEl B RP.int x11 0, isV (.int .i64 x11)] Try_mix (by kernel_rfl) (am_cons (mono_V _) (am_cons (mono_V _) (am_cons (mono_el _ _ _ _) (am_cons (mono_V _) (am_cons (mono_V _) (am_cons (mono_V _) (am_cons (mono_el _ _ _ _) (am_cons (mono_V _) am_nil)))))))) ?_ (fun f w_ hS30 hE30 hT30 => ?_)
                ·
                  refine ops_cons (fun f w_ hS30 hE30 hP30 => ?_) ?_
                  ·
                    have hx := ext_trans hx hE30
                    have h0 := RP.ext h0 hE30
                    refine L_mv (v := v0) rfl ((hS30 0 rfl).trans ((hS14 0 rfl).trans sf0)) ?_
                    exact L_nil ⟨rfl, (ext_refl _), _, _, rfl, rfl, rfl⟩
                  refine ops_cons (fun f w_ hS30 hE30 hP30 => ?_) ?_
                  ·
                    have hx := ext_trans hx hE30
                    refine L_mv (v := .int .i64 i_3) rfl ((hS30 5 rfl).trans ((hS14 5 rfl).trans sf5)) ?_
                    exact L_nil ⟨rfl, (ext_refl _), _, _, rfl, rfl, rfl⟩
                  refine ops_cons (fun f w_ hS30 hE30 hP30 => ?_) ?_
                  ·
                    have hx := ext_trans hx hE30
                    have h0 := RP.ext h0 hE30
                    refine L_ix (r := RP.int) rfl Try.underlying23 Try.sizeOf3 (hP30 0 27 rfl rfl) h0 (hP30 1 28 rfl rfl) hx8 ?_
                    intro g35 o36 cs36 hr36 hat36
                    obtain rfl : _ = [_] := hr36
                    exact L_nil ⟨rfl, (ext_refl _), _, _, rfl, rfl, ⟨_, _, _, rfl, rfl, hat36⟩⟩
                  refine ops_cons (fun f w_ hS30 hE30 hP30 => ?_) ?_
                  ·
                    have hx := ext_trans hx hE30
                    obtain ⟨g37, o37, cs37, hv37, hr37, hat37⟩ := (hP30 2 29 rfl rfl)
                    obtain rfl : _ = [_] := hr37
                    refine L_ld (v := .int .i64 x8) rfl Try.isAgg3 hv37 (hat37.cell (j := 0) rfl) ?_
                    exact L_nil ⟨rfl, (ext_refl _), _, _, rfl, rfl, rfl⟩
                  refine ops_cons (fun f w_ hS30 hE30 hP30 => ?_) ?_
                  ·
                    have hx := ext_trans hx hE30
                    have h1 := RP.ext h1 hE30
                    refine L_mv (v := v1) rfl ((hS30 1 rfl).trans ((hS14 1 rfl).trans sf1)) ?_
                    exact L_nil ⟨rfl, (ext_refl _), _, _, rfl, rfl, rfl⟩
                  refine ops_cons (fun f w_ hS30 hE30 hP30 => ?_) ?_
                  ·
                    have hx := ext_trans hx hE30
                    refine L_mv (v := .int .i64 i_3) rfl ((hS30 5 rfl).trans ((hS14 5 rfl).trans sf5)) ?_
                    exact L_nil ⟨rfl, (ext_refl _), _, _, rfl, rfl, rfl⟩
                  refine ops_cons (fun f w_ hS30 hE30 hP30 => ?_) ?_
                  ·
                    have hx := ext_trans hx hE30
                    have h1 := RP.ext h1 hE30
                    refine L_ix (r := RP.int) rfl Try.underlying23 Try.sizeOf3 (hP30 4 31 rfl rfl) h1 (hP30 5 32 rfl rfl) hx11 ?_
                    intro g38 o39 cs39 hr39 hat39
                    obtain rfl : _ = [_] := hr39
                    exact L_nil ⟨rfl, (ext_refl _), _, _, rfl, rfl, ⟨_, _, _, rfl, rfl, hat39⟩⟩
                  refine ops_cons (fun f w_ hS30 hE30 hP30 => ?_) ?_
                  ·
                    have hx := ext_trans hx hE30
                    obtain ⟨g40, o40, cs40, hv40, hr40, hat40⟩ := (hP30 6 33 rfl rfl)
                    obtain rfl : _ = [_] := hr40
                    refine L_ld (v := .int .i64 x11) rfl Try.isAgg3 hv40 (hat40.cell (j := 0) rfl) ?_
                    exact L_nil ⟨rfl, (ext_refl _), _, _, rfl, rfl, rfl⟩
                  exact ops_nil
                ·
                  have h0 := RP.ext h0 hE30
                  have h1 := RP.ext h1 hE30
                  have hx := ext_trans hx hE30
                  refine L_lss (m := x8) (n := x11) rfl (hT30 3 30 rfl rfl) (hT30 7 34 rfl rfl) ?_
                  refine L_as (v := .bool (decide (x8 < x11))) rfl rfl ?_
                  refine L_nil ?_
                  refine W_ret ?_
                  obtain rfl := so hB4
                  obtain rfl := so hL4
                  obtain rfl := so hF
                  refine ret1 Try.results37 ?_
                  exact ⟨rfl, hx⟩
              ·
                have hB4 := (ite_f hc25).symm.trans hB4
                refine W_skip ?_
                refine W_region ?_
                refine L_mv (v := .int .i64 i_3) rfl ((hS14 5 rfl).trans sf5) ?_
                refine L_add (m := i_3) (n := 1) rfl rfl rfl ?_
                refine L_as (v := .int .i64 (i64 (i_3 + 1))) rfl rfl ?_
                refine L_nil ?_
                obtain rfl := so hB4
                show ∃ m, m < _ ∧ I4 m _ _
                refine ⟨n4, Nat.lt_succ_self _, ?_⟩
                rw [hI4]
                exact ⟨i64 (i_3 + 1), hL4, ((hS14 0 rfl).trans sf0), ((hS14 1 rfl).trans sf1), rfl, h0, h1, hx⟩
          ·
            have hB4 := (ite_f hc7).symm.trans hB4
            refine W_exit ?_
            obtain rfl := so hB4
            obtain rfl := so hL4
            show R4 _ _
            rw [hR4]
            exact ⟨i_3, rfl, hx⟩
  ·
    intro f w_ hR
    rw [hR4] at hR
    obtain ⟨i_3, rfl, hx⟩ := hR
    clear hR4
    refine W_seq ?_
    refine W_region ?_
    refine L_as (v := .bool false) rfl rfl ?_
    refine L_nil ?_
    refine W_ret ?_
    obtain rfl := so hF
    refine ret1 Try.results37 ?_
    exact ⟨rfl, hx⟩

theorem l_FnNextModel_c {fu : Nat} {code : List UInt8} {v0 : Value} {w : World} {B : Nat} (hB : B ≤ w.heap.size) (h0 : (RP.slice 5 RP.u8).rel B w.heap.size w [v0] code) {r : Bool} (hF : l_FnNextModel fu code = some r) :
    C Try.prog 11 #[v0] w fun v w' => (v = .bool r) ∧ Ext w w' := by
  unfold l_FnNextModel at hF
  have hx := ext_refl w
  refine C_enter Try.func11 rfl Try.ntmps11 rfl ?_
  refine W_seq ?_
  refine W_region ?_
  refine L_as (v := .bool false) rfl rfl ?_
  refine L_nil ?_
  refine W_seq ?_
  refine W_seq ?_
  refine W_region ?_
  refine L_mv (v := v0) rfl rfl ?_
  refine L_len (v := v0) rfl Try.underlying22 rfl h0 ?_
  refine L_gtr (m := (code.length : Int)) (n := 1048576) rfl rfl rfl ?_
  refine L_nil ?_
  refine W_cond (b := decide ((code.length : Int) > 1048576)) rfl (fun hc1 => ?_) (fun hc1 => ?_)
  ·
    have hF := (ite_t hc1).symm.trans hF
    refine W_seq ?_
    refine W_region ?_
    refine L_as (v := .bool true) rfl rfl ?_
    refine L_nil ?_
    refine W_ret ?_
    obtain rfl := so hF
    refine ret1 Try.results11 ?_
    exact ⟨rfl, hx⟩
  ·
    have hF := (ite_f hc1).symm.trans hF
    refine W_skip ?_
    refine W_seq ?_
    obtain ⟨hx2, hF⟩ := anyB_some hF
    refine W_region ?_
    refine L_mv (v := v0) rfl rfl ?_
    refine L_call (args := #[v0]) rfl Try.call34 (ops1 rfl) (s_DrawNextModel_c (code := code) (Nat.le_trans hB hx.size) (rel0 h0) hx2) ?_
    rintro _ w7 ⟨⟨x2, gd7, ⟨r7_0, r7_1, r7_2, rfl, hr7_0, hr7_1, hr7_2⟩⟩, he7⟩
    have hF := hF x2 gd7
    have h0 := RP.ext h0 he7
    have hx := ext_trans hx he7
    refine L_mv (v := .tuple #[.agg #[r7_0, r7_1], r7_2]) rfl rfl ?_
    refine L_ex (v := .agg #[r7_0, r7_1]) rfl rfl rfl ?_
    refine L_ex (v := r7_2) rfl rfl rfl ?_
    refine L_al (cs := #[(.slice none 0 0), (.slice none 0 0)]) rfl Try.zeroValue26 rfl ?_
    intro g8 w9 hn9
    have hge_g8 := hn9.geS hx.size
    have hb_g8 := hn9.blk
    have hr7_0 := RP.ext hr7_0 hn9.ext
    have hr7_1 := RP.ext hr7_1 hn9.ext
    have hr7_2 := RP.ext hr7_2 hn9.ext
    have hx := ext_trans hx hn9.ext
    refine L_sta (vs := #[r7_0, r7_1]) rfl Try.sizeOf26 rfl rfl rfl (ones_cons (one_of hr7_0) (ones_cons (one_of hr7_1) ones_nil)) hb_g8 rfl ?_
    intro w10 hp10
    have hr7_0 := hp10.mu.rel hr7_0 (by decide) (Nat.le_trans hB hge_g8)
    have hr7_1 := hp10.mu.rel hr7_1 (by decide) (Nat.le_trans hB hge_g8)
    have hr7_2 := hp10.mu.rel hr7_2 (by decide) (Nat.le_trans hB hge_g8)
    have hx := ext_mut hx hp10.mu hge_g8
    have hb_g8 : Blk w10 g8 26 #[r7_0, r7_1] := hp10.blk
    refine L_as (v := r7_2) rfl rfl ?_
    refine L_nil ?_
    refine W_seq ?_
    obtain ⟨x11, hx11, hF⟩ := bind_some hF
    refine W_region ?_
    refine L_lda (cs := [r7_0, r7_1]) rfl Try.isAgg26 Try.sizeOf26 rfl (Blk.sub hb_g8 0 2) rfl ?_
    refine L_mv (v := r7_2) rfl rfl ?_
    refine L_call (args := #[.agg #[r7_0, r7_1], r7_2]) rfl Try.call35 (ops2 rfl rfl) (i_NextModel_c (m := x2.1) (cells := x2.2) (Nat.le_trans hB hx.size) (rel0 hr7_0) (rel0 hr7_1) (rel0 hr7_2) hx11) ?_
    rintro _ w13 ⟨⟨r13_0, rfl, hr13_0⟩, he13⟩
    have hr13_0 : Own _ _ w.heap.size B _ _ _ := hr13_0.wide hx.size (Nat.le_refl _)
    have hr7_0 := RP.ext hr7_0 he13
    have hr7_1 := RP.ext hr7_1 he13
    have hr7_2 := RP.ext hr7_2 he13
    have hb_g8 := Blk.ext hb_g8 he13
    have hx := ext_trans hx he13
    refine L_mv (v := .tuple #[r13_0, .bool x11.2]) rfl rfl ?_
    refine L_ex (v := r13_0) rfl rfl rfl ?_
    refine L_ex (v := .bool x11.2) rfl rfl rfl ?_
    refine L_as (v := r13_0) rfl rfl ?_
    refine L_as (v := .bool x11.2) rfl rfl ?_
    refine L_nil ?_
    refine W_seq ?_
    obtain ⟨x14, hx14, hF⟩ := bind_some hF
    refine W_region ?_
    refine L_lda (cs := [r7_0, r7_1]) rfl Try.isAgg26 Try.sizeOf26 rfl (Blk.sub hb_g8 0 2) rfl ?_
    refine L_mv (v := r7_2) rfl rfl ?_
    refine L_call (args := #[.agg #[r7_0, r7_1], r7_2]) rfl Try.call36 (ops2 rfl rfl) (s_NextModel_c (m := x2.1) (cells := x2.2) (Nat.le_trans hB hx.size) (rel0 hr7_0) (rel0 hr7_1) (rel0 hr7_2) hx14) ?_
    rintro _ w17 ⟨⟨r17_0, rfl, hr17_0⟩, he17⟩
    have ap18 := ap_oc hr13_0 hr17_0
    have hr17_0 : Own _ _ w.heap.size B _ _ _ := hr17_0.wide hx.size (Nat.le_refl _)
    have hr7_0 := RP.ext hr7_0 he17
    have hr7_1 := RP.ext hr7_1 he17
    have hr7_2 := RP.ext hr7_2 he17
    have hb_g8 := Blk.ext hb_g8 he17
    have hr13_0 := Own.ext hr13_0 he17
    have hx := ext_trans hx he17
    refine L_mv (v := .tuple #[r17_0, .bool x14.2]) rfl rfl ?_
    refine L_ex (v := r17_0) rfl rfl rfl ?_
    refine L_ex (v := .bool x14.2) rfl rfl rfl ?_
    refine L_as (v := r17_0) rfl rfl ?_
    refine L_as (v := .bool x14.2) rfl rfl ?_
    refine L_nil ?_
    refine W_seq ?_
    refine W_seq ?_
    obtain ⟨b21, hb21, hF⟩ := bind_some hF
    obtain ⟨R22, hR22⟩ : ∃ R : Fr → World → Prop, R = fun f w_ => f 3 = .pointer (some ⟨g8, 0, none⟩) ∧ f 4 = r7_2 ∧ f 5 = r13_0 ∧ f 6 = .bool x11.2 ∧ f 7 = r17_0 ∧ f 8 = .bool x14.2 ∧ f 43 = .bool (b21 || (!x11.2)) ∧ (RP.slice 3 RP.int).rel B w_.heap.size w_ [r7_2] x2.2 ∧ Own RP.int 3 w.heap.size B w_ r13_0 x11.1 ∧ Own RP.int 3 w.heap.size B w_ r17_0 x14.1 ∧ (RP.slice 3 RP.int).rel B w_.heap.size w_ [r7_0] x2.1.sizes ∧ (RP.slice 36 (rRule 3 23)).rel B w_.heap.size w_ [r7_1] x2.1.rules ∧ Blk w_ g8 26 #[r7_0, r7_1] ∧ Ext w w_ := ⟨_, rfl⟩
    refine W_join R22 ?_ ?_
    ·
      refine W_region ?_
      refine L_mv (v := .bool x11.2) rfl rfl ?_
      refine L_mv (v := .bool x14.2) rfl rfl ?_
      refine L_bneq (b := x11.2) (c := x14.2) rfl Try.underlying4 rfl rfl ?_
      refine L_mv (v := .bool (x11.2 != x14.2)) rfl rfl ?_
      refine L_split (d := 34) (b := (x11.2 != x14.2)) rfl (fun hc23 => ?_) (fun hc23 => ?_)
      ·
        rw [ite_t hc23] at hb21
        refine L_pass rfl ?_
        refine L_pass rfl ?_
        refine L_pass rfl ?_
        refine L_pass rfl ?_
        refine L_pick (v := .bool b21) rfl rfl (congrArg Value.bool (so hb21)) ?_
        refine L_mv (v := .bool b21) rfl rfl ?_
        refine L_split (d := 40) (b := b21) rfl (fun hc24 => ?_) (fun hc24 => ?_)
        ·
          refine L_pass rfl ?_
          refine L_pass rfl ?_
          refine L_pick (v := .bool (b21 || (!x11.2))) rfl rfl (or_t hc24) ?_
          refine L_nil ?_
          show R22 _ _
          rw [hR22]
          exact ⟨rfl, rfl, rfl, rfl, rfl, rfl, rfl, (rel0 hr7_2), hr13_0, hr17_0, (rel0 hr7_0), (rel0 hr7_1), hb_g8, hx⟩
        ·
          refine L_mv (v := .bool x11.2) rfl rfl ?_
          refine L_not_ (b := x11.2) rfl rfl ?_
          refine L_pick (v := .bool (b21 || (!x11.2))) rfl rfl (or_f hc24 rfl) ?_
          refine L_nil ?_
          show R22 _ _
          rw [hR22]
          exact ⟨rfl, rfl, rfl, rfl, rfl, rfl, rfl, (rel0 hr7_2), hr13_0, hr17_0, (rel0 hr7_0), (rel0 hr7_1), hb_g8, hx⟩
      ·
        rw [ite_f hc23] at hb21
        obtain ⟨x19, hx19, hb21⟩ := bind_some hb21
        refine L_mv (v := r13_0) rfl rfl ?_
        refine L_mv (v := r17_0) rfl rfl ?_
        refine L_call (args := #[r13_0, r17_0]) rfl Try.call32 (ops2 rfl rfl) (l_cpInts_c (a := x11.1) (b := x14.1) (Nat.le_trans hB hx.size) (rel0 (Own.rel hr13_0)) (rel0 (Own.rel hr17_0)) hx19) ?_
        rintro _ w25 ⟨rfl, he25⟩
        have hr7_0 := RP.ext hr7_0 he25
        have hr7_1 := RP.ext hr7_1 he25
        have hr7_2 := RP.ext hr7_2 he25
        have hb_g8 := Blk.ext hb_g8 he25
        have hr13_0 := Own.ext hr13_0 he25
        have hr17_0 := Own.ext hr17_0 he25
        have hx := ext_trans hx he25
        refine L_not_ (b := x19) rfl rfl ?_
        refine L_pick (v := .bool b21) rfl rfl (congrArg Value.bool (so hb21)) ?_
        refine L_mv (v := .bool b21) rfl rfl ?_
        refine L_split (d := 40) (b := b21) rfl (fun hc26 => ?_) (fun hc26 => ?_)
        ·
          refine L_pass rfl ?_
          refine L_pass rfl ?_
          refine L_pick (v := .bool (b21 || (!x11.2))) rfl rfl (or_t hc26) ?_
          refine L_nil ?_
          show R22 _ _
          rw [hR22]
          exact ⟨rfl, rfl, rfl, rfl, rfl, rfl, rfl, (rel0 hr7_2), hr13_0, hr17_0, (rel0 hr7_0), (rel0 hr7_1), hb_g8, hx⟩
        ·
          refine L_mv (v := .bool x11.2) rfl rfl ?_
          refine L_not_ (b := x11.2) rfl rfl ?_
          refine L_pick (v := .bool (b21 || (!x11.2))) rfl rfl (or_f hc26 rfl) ?_
          refine L_nil ?_
          show R22 _ _
          rw [hR22]
          exact ⟨rfl, rfl, rfl, rfl, rfl, rfl, rfl, (rel0 hr7_2), hr13_0, hr17_0, (rel0 hr7_0), (rel0 hr7_1), hb_g8, hx⟩
    ·
      intro f w_ hR
      rw [hR22] at hR
      obtain ⟨sf3, sf4, sf5, sf6, sf7, sf8, sf43, hr7_2, hr13_0, hr17_0, hr7_0, hr7_1, hb_g8, hx⟩ := hR
      clear hR22
      refine W_cond (b := (b21 || (!x11.2))) sf43 (fun hc27 => ?_) (fun hc27 => ?_)
      ·
        have hF := (ite_t hc27).symm.trans hF
        refine W_seq ?_
        obtain ⟨b30, hb30, hF⟩ := bind_some hF
        obtain ⟨R31, hR31⟩ : ∃ R : Fr → World → Prop, R = fun f w_ => f 2 = .bool b30 ∧ Ext w w_ := ⟨_, rfl⟩
        refine W_join R31 ?_ ?_
        ·
          refine W_region ?_
          refine L_mv (v := .bool x11.2) rfl sf6 ?_
          refine L_mv (v := .bool x14.2) rfl sf8 ?_
          refine L_beql (b := x11.2) (c := x14.2) rfl Try.underlying4 rfl rfl ?_
          refine L_mv (v := .bool (x11.2 == x14.2)) rfl rfl ?_
          refine L_split (d := 47) (b := (x11.2 == x14.2)) rfl (fun hc32 => ?_) (fun hc32 => ?_)
          ·
            rw [ite_t hc32] at hb30
            obtain ⟨x28, hx28, hb30⟩ := bind_some hb30
            refine L_mv (v := r13_0) rfl sf5 ?_
            refine L_mv (v := r17_0) rfl sf7 ?_
            refine L_call (args := #[r13_0, r17_0]) rfl Try.call32 (ops2 rfl rfl) (l_cpInts_c (a := x11.1) (b := x14.1) (Nat.le_trans hB hx.size) (rel0 (Own.rel hr13_0)) (rel0 (Own.rel hr17_0)) hx28) ?_
            rintro _ w33 ⟨rfl, he33⟩
            have hr13_0 := Own.ext hr13_0 he33
            have hr17_0 := Own.ext hr17_0 he33
            have hx := ext_trans hx he33
            refine L_pick (v := .bool b30) rfl rfl (congrArg Value.bool (so hb30)) ?_
            refine L_as (v := .bool b30) rfl rfl ?_
            refine L_nil ?_
            show R31 _ _
            rw [hR31]
            exact ⟨rfl, hx⟩
          ·
            rw [ite_f hc32] at hb30
            refine L_pass rfl ?_
            refine L_pass rfl ?_
            refine L_pass rfl ?_
            refine L_pick (v := .bool b30) rfl rfl (congrArg Value.bool (so hb30)) ?_
            refine L_as (v := .bool b30) rfl rfl ?_
            refine L_nil ?_
            show R31 _ _
            rw [hR31]
            exact ⟨rfl, hx⟩
        ·
          intro f w_ hR
          rw [hR31] at hR
          obtain ⟨sf2, hx⟩ := hR
          clear hR31
          refine W_ret ?_
          obtain rfl := so hF
          refine ret1 Try.results11 ?_
          exact ⟨sf2, hx⟩
      ·
        have hF := (ite_f hc27).symm.trans hF
        refine W_skip ?_
        refine W_seq ?_
        obtain ⟨x34, hx34, hF⟩ := bind_some hF
        refine W_region ?_
        refine L_lda (cs := [r7_0, r7_1]) rfl Try.isAgg26 Try.sizeOf26 sf3 (Blk.sub hb_g8 0 2) rfl ?_
        refine L_mv (v := r13_0) rfl sf5 ?_
        refine L_call (args := #[.agg #[r7_0, r7_1], r13_0]) rfl Try.call35 (ops2 rfl rfl) (i_NextModel_c (m := x2.1) (cells := x11.1) (Nat.le_trans hB hx.size) (rel0 hr7_0) (rel0 hr7_1) (rel0 (Own.rel hr13_0)) hx34) ?_
        rintro _ w38 ⟨⟨r38_0, rfl, hr38_0⟩, he38⟩
        have ap39 := ap_oc hr13_0 hr38_0
        have hr38_0 : Own _ _ w.heap.size B _ _ _ := hr38_0.wide hx.size (Nat.le_refl _)
        have hr7_2 := RP.ext hr7_2 he38
        have hr13_0 := Own.ext hr13_0 he38
        have hr7_0 := RP.ext hr7_0 he38
        have hr7_1 := RP.ext hr7_1 he38
        have hb_g8 := Blk.ext hb_g8 he38
        have hx := ext_trans hx he38
        refine L_mv (v := .tuple #[r38_0, .bool x34.2]) rfl rfl ?_
        refine L_ex (v := r38_0) rfl rfl rfl ?_
        refine L_ex (v := .bool x34.2) rfl rfl rfl ?_
        refine L_as (v := r38_0) rfl rfl ?_
        refine L_as (v := .bool x34.2) rfl rfl ?_
        refine L_nil ?_
        refine W_seq ?_
        obtain ⟨x40, hx40, hF⟩ := bind_some hF
        obtain ⟨b44, hb44, hF⟩ := bind_some hF
        obtain ⟨b47, hb47, hF⟩ := bind_some hF
        obtain ⟨b52, hb52, hF⟩ := bind_some hF
        obtain ⟨R53, hR53⟩ : ∃ R : Fr → World → Prop, R = fun f w_ => f 2 = .bool b52 ∧ Ext w w_ := ⟨_, rfl⟩
        refine W_join R53 ?_ ?_
        ·
          refine W_region ?_
          refine L_lda (cs := [r7_0, r7_1]) rfl Try.isAgg26 Try.sizeOf26 sf3 (Blk.sub hb_g8 0 2) rfl ?_
          refine L_mv (v := r13_0) rfl sf5 ?_
          refine L_call (args := #[.agg #[r7_0, r7_1], r13_0]) rfl Try.call22 (ops2 rfl rfl) (i_SolvesModel_c (m := x2.1) (cells := x11.1) (Nat.le_trans hB hx.size) (rel0 hr7_0) (rel0 hr7_1) (rel0 (Own.rel hr13_0)) hx40) ?_
          rintro _ w54 ⟨rfl, he54⟩
          have hr7_2 := RP.ext hr7_2 he54
          have hr13_0 := Own.ext hr13_0 he54
          have hr7_0 := RP.ext hr7_0 he54
          have hr7_1 := RP.ext hr7_1 he54
          have hb_g8 := Blk.ext hb_g8 he54
          have hr38_0 := Own.ext hr38_0 he54
          have hx := ext_trans hx he54
          refine L_mv (v := .bool x40) rfl rfl ?_
          refine L_split (d := 61) (b := x40) rfl (fun hc55 => ?_) (fun hc55 => ?_)
          ·
            rw [ite_t hc55] at hb44
            obtain ⟨x42, hx42, hb44⟩ := bind_some hb44
            refine L_mv (v := r13_0) rfl sf5 ?_
            refine L_mv (v := r7_2) rfl sf4 ?_
            refine L_call (args := #[r13_0, r7_2]) rfl Try.call37 (ops2 rfl rfl) (l_cpLess_c (a := x11.1) (b := x2.2) (Nat.le_trans hB hx.size) (rel0 (Own.rel hr13_0)) (rel0 hr7_2) hx42) ?_
            rintro _ w56 ⟨rfl, he56⟩
            have hr7_2 := RP.ext hr7_2 he56
            have hr13_0 := Own.ext hr13_0 he56
            have hr7_0 := RP.ext hr7_0 he56
            have hr7_1 := RP.ext hr7_1 he56
            have hb_g8 := Blk.ext hb_g8 he56
            have hr38_0 := Own.ext hr38_0 he56
            have hx := ext_trans hx he56
            refine L_not_ (b := x42) rfl rfl ?_
            refine L_pick (v := .bool b44) rfl rfl (congrArg Value.bool (so hb44)) ?_
            refine L_mv (v := .bool b44) rfl rfl ?_
            refine L_split (d := 67) (b := b44) rfl (fun hc57 => ?_) (fun hc57 => ?_)
            ·
              refine L_mv (v := .bool x34.2) rfl rfl ?_
              refine L_pick (v := .bool (b44 && x34.2)) rfl rfl (and_t hc57 rfl) ?_
              refine L_mv (v := .bool (b44 && x34.2)) rfl rfl ?_
              refine L_split (d := 70) (b := (b44 && x34.2)) rfl (fun hc58 => ?_) (fun hc58 => ?_)
              ·
                rw [ite_t hc58] at hb47
                obtain ⟨x45, hx45, hb47⟩ := bind_some hb47
                refine L_mv (v := r38_0) rfl rfl ?_
                refine L_mv (v := r13_0) rfl sf5 ?_
                refine L_call (args := #[r38_0, r13_0]) rfl Try.call32 (ops2 rfl rfl) (l_cpInts_c (a := x34.1) (b := x11.1) (Nat.le_trans hB hx.size) (rel0 (Own.rel hr38_0)) (rel0 (Own.rel hr13_0)) hx45) ?_
                rintro _ w59 ⟨rfl, he59⟩
                have hr7_2 := RP.ext hr7_2 he59
                have hr13_0 := Own.ext hr13_0 he59
                have hr7_0 := RP.ext hr7_0 he59
                have hr7_1 := RP.ext hr7_1 he59
                have hb_g8 := Blk.ext hb_g8 he59
                have hr38_0 := Own.ext hr38_0 he59
                have hx := ext_trans hx he59
                refine L_pick (v := .bool b47) rfl rfl (congrArg Value.bool (so hb47)) ?_
                refine L_mv (v := .bool b47) rfl rfl ?_
                refine L_split (d := 75) (b := b47) rfl (fun hc60 => ?_) (fun hc60 => ?_)
                ·
                  rw [ite_t hc60] at hb52
                  obtain ⟨x48, hx48, hb52⟩ := bind_some hb52
                  obtain ⟨x50, hx50, hb52⟩ := bind_some hb52
                  refine L_lda (cs := [r7_0, r7_1]) rfl Try.isAgg26 Try.sizeOf26 sf3 (Blk.sub hb_g8 0 2) rfl ?_
                  refine L_mv (v := r7_2) rfl sf4 ?_
                  refine L_call (args := #[.agg #[r7_0, r7_1], r7_2]) rfl Try.call22 (ops2 rfl rfl) (i_SolvesModel_c (m := x2.1) (cells := x2.2) (Nat.le_trans hB hx.size) (rel0 hr7_0) (rel0 hr7_1) (rel0 hr7_2) hx48) ?_
                  rintro _ w61 ⟨rfl, he61⟩
                  have hr7_2 := RP.ext hr7_2 he61
                  have hr13_0 := Own.ext hr13_0 he61
                  have hr7_0 := RP.ext hr7_0 he61
                  have hr7_1 := RP.ext hr7_1 he61
                  have hx := ext_trans hx he61
                  refine L_mv (v := r13_0) rfl sf5 ?_
                  refine L_mv (v := r7_2) rfl sf4 ?_
                  refine L_call (args := #[r13_0, r7_2]) rfl Try.call32 (ops2 rfl rfl) (l_cpInts_c (a := x11.1) (b := x2.2) (Nat.le_trans hB hx.size) (rel0 (Own.rel hr13_0)) (rel0 hr7_2) hx50) ?_
                  rintro _ w62 ⟨rfl, he62⟩
                  have hr7_2 := RP.ext hr7_2 he62
                  have hr13_0 := Own.ext hr13_0 he62
                  have hx := ext_trans hx he62
                  refine L_beql (b := x48) (c := x50) rfl Try.underlying4 rfl rfl ?_
                  refine L_pick (v := .bool b52) rfl rfl (congrArg Value.bool (so hb52)) ?_
                  refine L_as (v := .bool b52) rfl rfl ?_
                  refine L_nil ?_
                  show R53 _ _
                  rw [hR53]
                  exact ⟨rfl, hx⟩
                ·
                  rw [ite_f hc60] at hb52
                  refine L_pass rfl ?_
                  refine L_pass rfl ?_
                  refine L_pass rfl ?_
                  refine L_pass rfl ?_
                  refine L_pass rfl ?_
                  refine L_pass rfl ?_
                  refine L_pass rfl ?_
                  refine L_pick (v := .bool b52) rfl rfl (congrArg Value.bool (so hb52)) ?_
                  refine L_as (v := .bool b52) rfl rfl ?_
                  refine L_nil ?_
                  show R53 _ _
                  rw [hR53]
                  exact ⟨rfl, hx⟩
              ·
                rw [ite_f hc58] at hb47
                refine L_pass rfl ?_
                refine L_pass rfl ?_
                refine L_pass rfl ?_
                refine L_pick (v := .bool b47) rfl rfl (congrArg Value.bool (so hb47)) ?_
                refine L_mv (v := .bool b47) rfl rfl ?_
                refine L_split (d := 75) (b := b47) rfl (fun hc63 => ?_) (fun hc63 => ?_)
                ·
                  rw [ite_t hc63] at hb52
                  obtain ⟨x48, hx48, hb52⟩ := bind_some hb52
                  obtain ⟨x50, hx50, hb52⟩ := bind_some hb52
                  refine L_lda (cs := [r7_0, r7_1]) rfl Try.isAgg26 Try.sizeOf26 sf3 (Blk.sub hb_g8 0 2) rfl ?_
                  refine L_mv (v := r7_2) rfl sf4 ?_
                  refine L_call (args := #[.agg #[r7_0, r7_1], r7_2]) rfl Try.call22 (ops2 rfl rfl) (i_SolvesModel_c (m := x2.1) (cells := x2.2) (Nat.le_trans hB hx.size) (rel0 hr7_0) (rel0 hr7_1) (rel0 hr7_2) hx48) ?_
                  rintro _ w64 ⟨rfl, he64⟩
                  have hr7_2 := RP.ext hr7_2 he64
                  have hr13_0 := Own.ext hr13_0 he64
                  have hr7_0 := RP.ext hr7_0 he64
                  have hr7_1 := RP.ext hr7_1 he64
                  have hx := ext_trans hx he64
                  refine L_mv (v := r13_0) rfl sf5 ?_
                  refine L_mv (v := r7_2) rfl sf4 ?_
                  refine L_call (args := #[r13_0, r7_2]) rfl Try.call32 (ops2 rfl rfl) (l_cpInts_c (a := x11.1) (b := x2.2) (Nat.le_trans hB hx.size) (rel0 (Own.rel hr13_0)) (rel0 hr7_2) hx50) ?_
                  rintro _ w65 ⟨rfl, he65⟩
                  have hr7_2 := RP.ext hr7_2 he65
                  have hr13_0 := Own.ext hr13_0 he65
                  have hx := ext_trans hx he65
                  refine L_beql (b := x48) (c := x50) rfl Try.underlying4 rfl rfl ?_
                  refine L_pick (v := .bool b52) rfl rfl (congrArg Value.bool (so hb52)) ?_
                  refine L_as (v := .bool b52) rfl rfl ?_
                  refine L_nil ?_
                  show R53 _ _
                  rw [hR53]
                  exact ⟨rfl, hx⟩
                ·
                  rw [ite_f hc63] at hb52
                  refine L_pass rfl ?_
                  refine L_pass rfl ?_
                  refine L_pass rfl ?_
                  refine L_pass rfl ?_
                  refine L_pass rfl ?_
                  refine L_pass rfl ?_
                  refine L_pass rfl ?_
                  refine L_pick (v := .bool b52) rfl rfl (congrArg Value.bool (so hb52)) ?_
                  refine L_as (v := .bool b52) rfl rfl ?_
                  refine L_nil ?_
                  show R53 _ _
                  rw [hR53]
                  exact ⟨rfl, hx⟩
            ·
              refine L_pass rfl ?_
              refine L_pick (v := .bool (b44 && x34.2)) rfl rfl (and_f hc57) ?_
              refine L_mv (v := .bool (b44 && x34.2)) rfl rfl ?_
              refine L_split (d := 70) (b := (b44 && x34.2)) rfl (fun hc66 => ?_) (fun hc66 => ?_)
              ·
                rw [ite_t hc66] at hb47
                obtain ⟨x45, hx45, hb47⟩ := bind_some hb47
                refine L_mv (v := r38_0) rfl rfl ?_
                refine L_mv (v := r13_0) rfl sf5 ?_
                refine L_call (args := #[r38_0, r13_0]) rfl Try.call32 (ops2 rfl rfl) (l_cpInts_c (a := x34.1) (b := x11.1) (Nat.le_trans hB hx.size) (rel0 (Own.rel hr38_0)) (rel0 (Own.rel hr13_0)) hx45) ?_
                rintro _ w67 ⟨rfl, he67⟩
                have hr7_2 := RP.ext hr7_2 he67
                have hr13_0 := Own.ext hr13_0 he67
                have hr7_0 := RP.ext hr7_0 he67
                have hr7_1 := RP.ext hr7_1 he67
                have hb_g8 := Blk.ext hb_g8 he67
                have hr38_0 := Own.ext hr38_0 he67
                have hx := ext_trans hx he67
                refine L_pick (v := .bool b47) rfl rfl (congrArg Value.bool (so hb47)) ?_
                refine L_mv (v := .bool b47) rfl rfl ?_
                refine L_split (d := 75) (b := b47) rfl (fun hc68 => ?_) (fun hc68 => ?_)
                ·
                  rw [ite_t hc68] at hb52
                  obtain ⟨x48, hx48, hb52⟩ := bind_some hb52
                  obtain ⟨x50, hx50, hb52⟩ := bind_some hb52
                  refine L_lda (cs := [r7_0, r7_1]) rfl Try.isAgg26 Try.sizeOf26 sf3 (Blk.sub hb_g8 0 2) rfl ?_
                  refine L_mv (v := r7_2) rfl sf4 ?_
                  refine L_call (args := #[.agg #[r7_0, r7_1], r7_2]) rfl Try.call22 (ops2 rfl rfl) (i_SolvesModel_c (m := x2.1) (cells := x2.2) (Nat.le_trans hB hx.size) (rel0 hr7_0) (rel0 hr7_1) (rel0 hr7_2) hx48) ?_
                  rintro _ w69 ⟨rfl, he69⟩
                  have hr7_2 := RP.ext hr7_2 he69
                  have hr13_0 := Own.ext hr13_0 he69
                  have hr7_0 := RP.ext hr7_0 he69
                  have hr7_1 := RP.ext hr7_1 he69
                  have hx := ext_trans hx he69
                  refine L_mv (v := r13_0) rfl sf5 ?_
                  refine L_mv (v := r7_2) rfl sf4 ?_
                  refine L_call (args := #[r13_0, r7_2]) rfl Try.call32 (ops2 rfl rfl) (l_cpInts_c (a := x11.1) (b := x2.2) (Nat.le_trans hB hx.size) (rel0 (Own.rel hr13_0)) (rel0 hr7_2) hx50) ?_
                  rintro _ w70 ⟨rfl, he70⟩
                  have hr7_2 := RP.ext hr7_2 he70
                  have hr13_0 := Own.ext hr13_0 he70
                  have hx := ext_trans hx he70
                  refine L_beql (b := x48) (c := x50) rfl Try.underlying4 rfl rfl ?_
                  refine L_pick (v := .bool b52) rfl rfl (congrArg Value.bool (so hb52)) ?_
                  refine L_as (v := .bool b52) rfl rfl ?_
                  refine L_nil ?_
                  show R53 _ _
                  rw [hR53]
                  exact ⟨rfl, hx⟩
                ·
                  rw [ite_f hc68] at hb52
                  refine L_pass rfl ?_
                  refine L_pass rfl ?_
                  refine L_pass rfl ?_
                  refine L_pass rfl ?_
                  refine L_pass rfl ?_
                  refine L_pass rfl ?_
                  refine L_pass rfl ?_
                  refine L_pick (v := .bool b52) rfl rfl (congrArg Value.bool (so hb52)) ?_
                  refine L_as (v := .bool b52) rfl rfl ?_
                  refine L_nil ?_
                  show R53 _ _
                  rw [hR53]
                  exact ⟨rfl, hx⟩
              ·
                rw [ite_f hc66] at hb47
                refine L_pass rfl ?_
                refine L_pass rfl ?_
                refine L_pass rfl ?_
                refine L_pick (v := .bool b47) rfl rfl (congrArg Value.bool (so hb47)) ?_
                refine L_mv (v := .bool b47) rfl rfl ?_
                refine L_split (d := 75) (b := b47) rfl (fun hc71 => ?_) (fun hc71 => ?_)
                ·
                  rw [ite_t hc71] at hb52
                  obtain ⟨x48, hx48, hb52⟩ := bind_some hb52
                  obtain ⟨x50, hx50, hb52⟩ := bind_some hb52
                  refine L_lda (cs := [r7_0, r7_1]) rfl Try.isAgg26 Try.sizeOf26 sf3 (Blk.sub hb_g8 0 2) rfl ?_
                  refine L_mv (v := r7_2) rfl sf4 ?_
                  refine L_call (args := #[.agg #[r7_0, r7_1], r7_2]) rfl Try.call22 (ops2 rfl rfl) (i_SolvesModel_c (m := x2.1) (cells := x2.2) (Nat.le_trans hB hx.size) (rel0 hr7_0) (rel0 hr7_1) (rel0 hr7_2) hx48) ?_
                  rintro _ w72 ⟨rfl, he72⟩
                  have hr7_2 := RP.ext hr7_2 he72
                  have hr13_0 := Own.ext hr13_0 he72
                  have hr7_0 := RP.ext hr7_0 he72
                  have hr7_1 := RP.ext hr7_1 he72
                  have hx := ext_trans hx he72
                  refine L_mv (v := r13_0) rfl sf5 ?_
                  refine L_mv (v := r7_2) rfl sf4 ?_
                  refine L_call (args := #[r13_0, r7_2]) rfl Try.call32 (ops2 rfl rfl) (l_cpInts_c (a := x11.1) (b := x2.2) (Nat.le_trans hB hx.size) (rel0 (Own.rel hr13_0)) (rel0 hr7_2) hx50) ?_
                  rintro _ w73 ⟨rfl, he73⟩
                  have hr7_2 := RP.ext hr7_2 he73
                  have hr13_0 := Own.ext hr13_0 he73
                  have hx := ext_trans hx he73
                  refine L_beql (b := x48) (c := x50) rfl Try.underlying4 rfl rfl ?_
                  refine L_pick (v := .bool b52) rfl rfl (congrArg Value.bool (so hb52)) ?_
                  refine L_as (v := .bool b52) rfl rfl ?_
                  refine L_nil ?_
                  show R53 _ _
                  rw [hR53]
                  exact ⟨rfl, hx⟩
                ·
                  rw [ite_f hc71] at hb52
                  refine L_pass rfl ?_
                  refine L_pass rfl ?_
                  refine L_pass rfl ?_
                  refine L_pass rfl ?_
                  refine L_pass rfl ?_
                  refine L_pass rfl ?_
                  refine L_pass rfl ?_
                  refine L_pick (v := .bool b52) rfl rfl (congrArg Value.bool (so hb52)) ?_
                  refine L_as (v := .bool b52) rfl rfl ?_
                  refine L_nil ?_
                  show R53 _ _
                  rw [hR53]
                  exact ⟨rfl, hx⟩
          ·
            rw [ite_f hc55] at hb44
            refine L_pass rfl ?_
            refine L_pass rfl ?_
            refine L_pass rfl ?_
            refine L_pass rfl ?_
            refine L_pick (v := .bool b44) rfl rfl (congrArg Value.bool (so hb44)) ?_
            refine L_mv (v := .bool b44) rfl rfl ?_
            refine L_split (d := 67) (b := b44) rfl (fun hc74 => ?_) (fun hc74 => ?_)
            ·
              refine L_mv (v := .bool x34.2) rfl rfl ?_
              refine L_pick (v := .bool (b44 && x34.2)) rfl rfl (and_t hc74 rfl) ?_
              refine L_mv (v := .bool (b44 && x34.2)) rfl rfl ?_
              refine L_split (d := 70) (b := (b44 && x34.2)) rfl (fun hc75 => ?_) (fun hc75 => ?_)
              ·
                rw [ite_t hc75] at hb47
                obtain ⟨x45, hx45, hb47⟩ := bind_some hb47
                refine L_mv (v := r38_0) rfl rfl ?_
                refine L_mv (v := r13_0) rfl sf5 ?_
                refine L_call (args := #[r38_0, r13_0]) rfl Try.call32 (ops2 rfl rfl) (l_cpInts_c (a := x34.1) (b := x11.1) (Nat.le_trans hB hx.size) (rel0 (Own.rel hr38_0)) (rel0 (Own.rel hr13_0)) hx45) ?_
                rintro _ w76 ⟨rfl, he76⟩
                have hr7_2 := RP.ext hr7_2 he76
                have hr13_0 := Own.ext hr13_0 he76
                have hr7_0 := RP.ext hr7_0 he76
                have hr7_1 := RP.ext hr7_1 he76
                have hb_g8 := Blk.ext hb_g8 he76
                have hr38_0 := Own.ext hr38_0 he76
                have hx := ext_trans hx he76
                refine L_pick (v := .bool b47) rfl rfl (congrArg Value.bool (so hb47)) ?_
                refine L_mv (v := .bool b47) rfl rfl ?_
                refine L_split (d := 75) (b := b47) rfl (fun hc77 => ?_) (fun hc77 => ?_)
                ·
                  rw [ite_t hc77] at hb52
                  obtain ⟨x48, hx48, hb52⟩ := bind_some hb52
                  obtain ⟨x50, hx50, hb52⟩ := bind_some hb52
                  refine L_lda (cs := [r7_0, r7_1]) rfl Try.isAgg26 Try.sizeOf26 sf3 (Blk.sub hb_g8 0 2) rfl ?_
                  refine L_mv (v := r7_2) rfl sf4 ?_
                  refine L_call (args := #[.agg #[r7_0, r7_1], r7_2]) rfl Try.call22 (ops2 rfl rfl) (i_SolvesModel_c (m := x2.1) (cells := x2.2) (Nat.le_trans hB hx.size) (rel0 hr7_0) (rel0 hr7_1) (rel0 hr7_2) hx48) ?_
                  rintro _ w78 ⟨rfl, he78⟩
                  have hr7_2 := RP.ext hr7_2 he78
                  have hr13_0 := Own.ext hr13_0 he78
                  have hr7_0 := RP.ext hr7_0 he78
                  have hr7_1 := RP.ext hr7_1 he78
                  have hx := ext_trans hx he78
                  refine L_mv (v := r13_0) rfl sf5 ?_
                  refine L_mv (v := r7_2) rfl sf4 ?_
                  refine L_call (args := #[r13_0, r7_2]) rfl Try.call32 (ops2 rfl rfl) (l_cpInts_c (a := x11.1) (b := x2.2) (Nat.le_trans hB hx.size) (rel0 (Own.rel hr13_0)) (rel0 hr7_2) hx50) ?_
                  rintro _ w79 ⟨rfl, he79⟩
                  have hr7_2 := RP.ext hr7_2 he79
                  have hr13_0 := Own.ext hr13_0 he79
                  have hx := ext_trans hx he79
                  refine L_beql (b := x48) (c := x50) rfl Try.underlying4 rfl rfl ?_
                  refine L_pick (v := .bool b52) rfl rfl (congrArg Value.bool (so hb52)) ?_
                  refine L_as (v := .bool b52) rfl rfl ?_
                  refine L_nil ?_
                  show R53 _ _
                  rw [hR53]
                  exact ⟨rfl, hx⟩
                ·
                  rw [ite_f hc77] at hb52
                  refine L_pass rfl ?_
                  refine L_pass rfl ?_
                  refine L_pass rfl ?_
                  refine L_pass rfl ?_
                  refine L_pass rfl ?_
                  refine L_pass rfl ?_
                  refine L_pass rfl ?_
                  refine L_pick (v := .bool b52) rfl rfl (congrArg Value.bool (so hb52)) ?_
                  refine L_as (v := .bool b52) rfl rfl ?_
                  refine L_nil ?_
                  show R53 _ _
                  rw [hR53]
                  exact ⟨rfl, hx⟩
              ·
                rw [ite_f hc75] at hb47
                refine L_pass rfl ?_
                refine L_pass rfl ?_
                refine L_pass rfl ?_
                refine L_pick (v := .bool b47) rfl rfl (congrArg Value.bool (so hb47)) ?_
                refine L_mv (v := .bool b47) rfl rfl ?_
                refine L_split (d := 75) (b := b47) rfl (fun hc80 => ?_) (fun hc80 => ?_)
                ·
                  rw [ite_t hc80] at hb52
                  obtain ⟨x48, hx48, hb52⟩ := bind_some hb52
                  obtain ⟨x50, hx50, hb52⟩ := bind_some hb52
                  refine L_lda (cs := [r7_0, r7_1]) rfl Try.isAgg26 Try.sizeOf26 sf3 (Blk.sub hb_g8 0 2) rfl ?_
                  refine L_mv (v := r7_2) rfl sf4 ?_
                  refine L_call (args := #[.agg #[r7_0, r7_1], r7_2]) rfl Try.call22 (ops2 rfl rfl) (i_SolvesModel_c (m := x2.1) (cells := x2.2) (Nat.le_trans hB hx.size) (rel0 hr7_0) (rel0 hr7_1) (rel0 hr7_2) hx48) ?_
                  rintro _ w81 ⟨rfl, he81⟩
                  have hr7_2 := RP.ext hr7_2 he81
                  have hr13_0 := Own.ext hr13_0 he81
                  have hr7_0 := RP.ext hr7_0 he81
                  have hr7_1 := RP.ext hr7_1 he81
                  have hx := ext_trans hx he81
                  refine L_mv (v := r13_0) rfl sf5 ?_
                  refine L_mv (v := r7_2) rfl sf4 ?_
                  refine L_call (args := #[r13_0, r7_2]) rfl Try.call32 (ops2 rfl rfl) (l_cpInts_c (a := x11.1) (b := x2.2) (Nat.le_trans hB hx.size) (rel0 (Own.rel hr13_0)) (rel0 hr7_2) hx50) ?_
                  rintro _ w82 ⟨rfl, he82⟩
                  have hr7_2 := RP.ext hr7_2 he82
                  have hr13_0 := Own.ext hr13_0 he82
                  have hx := ext_trans hx he82
                  refine L_beql (b := x48) (c := x50) rfl Try.underlying4 rfl rfl ?_
                  refine L_pick (v := .bool b52) rfl rfl (congrArg Value.bool (so hb52)) ?_
                  refine L_as (v := .bool b52) rfl rfl ?_
                  refine L_nil ?_
                  show R53 _ _
                  rw [hR53]
                  exact ⟨rfl, hx⟩
                ·
                  rw [ite_f hc80] at hb52
                  refine L_pass rfl ?_
                  refine L_pass rfl ?_
                  refine L_pass rfl ?_
                  refine L_pass rfl ?_
                  refine L_pass rfl ?_
                  refine L_pass rfl ?_
                  refine L_pass rfl ?_
                  refine L_pick (v := .bool b52) rfl rfl (congrArg Value.bool (so hb52)) ?_
                  refine L_as (v := .bool b52) rfl rfl ?_
                  refine L_nil ?_
                  show R53 _ _
                  rw [hR53]
                  exact ⟨rfl, hx⟩
            ·
              refine L_pass rfl ?_
              refine L_pick (v := .bool (b44 && x34.2)) rfl rfl (and_f hc74) ?_
              refine L_mv (v := .bool (b44 && x34.2)) rfl rfl ?_
              refine L_split (d := 70) (b := (b44 && x34.2)) rfl (fun hc83 => ?_) (fun hc83 => ?_)
              ·
                rw [ite_t hc83] at hb47
                obtain ⟨x45, hx45, hb47⟩ := bind_some hb47
                refine L_mv (v := r38_0) rfl rfl ?_
                refine L_mv (v := r13_0) rfl sf5 ?_
                refine L_call (args := #[r38_0, r13_0]) rfl Try.call32 (ops2 rfl rfl) (l_cpInts_c (a := x34.1) (b := x11.1) (Nat.le_trans hB hx.size) (rel0 (Own.rel hr38_0)) (rel0 (Own.rel hr13_0)) hx45) ?_
                rintro _ w84 ⟨rfl, he84⟩
                have hr7_2 := RP.ext hr7_2 he84
                have hr13_0 := Own.ext hr13_0 he84
                have hr7_0 := RP.ext hr7_0 he84
                have hr7_1 := RP.ext hr7_1 he84
                have hb_g8 := Blk.ext hb_g8 he84
                have hr38_0 := Own.ext hr38_0 he84
                have hx := ext_trans hx he84
                refine L_pick (v := .bool b47) rfl rfl (congrArg Value.bool (so hb47)) ?_
                refine L_mv (v := .bool b47) rfl rfl ?_
                refine L_split (d := 75) (b := b47) rfl (fun hc85 => ?_) (fun hc85 => ?_)
                ·
                  rw [ite_t hc85] at hb52
                  obtain ⟨x48, hx48, hb52⟩ := bind_some hb52
                  obtain ⟨x50, hx50, hb52⟩ := bind_some hb52
                  refine L_lda (cs := [r7_0, r7_1]) rfl Try.isAgg26 Try.sizeOf26 sf3 (Blk.sub hb_g8 0 2) rfl ?_
                  refine L_mv (v := r7_2) rfl sf4 ?_
                  refine L_call (args := #[.agg #[r7_0, r7_1], r7_2]) rfl Try.call22 (ops2 rfl rfl) (i_SolvesModel_c (m := x2.1) (cells := x2.2) (Nat.le_trans hB hx.size) (rel0 hr7_0) (rel0 hr7_1) (rel0 hr7_2) hx48) ?_
                  rintro _ w86 ⟨rfl, he86⟩
                  have hr7_2 := RP.ext hr7_2 he86
                  have hr13_0 := Own.ext hr13_0 he86
                  have hr7_0 := RP.ext hr7_0 he86
                  have hr7_1 := RP.ext hr7_1 he86
                  have hx := ext_trans hx he86
                  refine L_mv (v := r13_0) rfl sf5 ?_
                  refine L_mv (v := r7_2) rfl sf4 ?_
                  refine L_call (args := #[r13_0, r7_2]) rfl Try.call32 (ops2 rfl rfl) (l_cpInts_c (a := x11.1) (b := x2.2) (Nat.le_trans hB hx.size) (rel0 (Own.rel hr13_0)) (rel0 hr7_2) hx50) ?_
                  rintro _ w87 ⟨rfl, he87⟩
                  have hr7_2 := RP.ext hr7_2 he87
                  have hr13_0 := Own.ext hr13_0 he87
                  have hx := ext_trans hx he87
                  refine L_beql (b := x48) (c := x50) rfl Try.underlying4 rfl rfl ?_
                  refine L_pick (v := .bool b52) rfl rfl (congrArg Value.bool (so hb52)) ?_
                  refine L_as (v := .bool b52) rfl rfl ?_
                  refine L_nil ?_
                  show R53 _ _
                  rw [hR53]
                  exact ⟨rfl, hx⟩
                ·
                  rw [ite_f hc85] at hb52
                  refine L_pass rfl ?_
                  refine L_pass rfl ?_
                  refine L_pass rfl ?_
                  refine L_pass rfl ?_
                  refine L_pass rfl ?_
                  refine L_pass rfl ?_
                  refine L_pass rfl ?_
                  refine L_pick (v := .bool b52) rfl rfl (congrArg Value.bool (so hb52)) ?_
                  refine L_as (v := .bool b52) rfl rfl ?_
                  refine L_nil ?_
                  show R53 _ _
                  rw [hR53]
                  exact ⟨rfl, hx⟩
              ·
                rw [ite_f hc83] at hb47
                refine L_pass rfl ?_
                refine L_pass rfl ?_
                refine L_pass rfl ?_
                refine L_pick (v := .bool b47) rfl rfl (congrArg Value.bool (so hb47)) ?_
                refine L_mv (v := .bool b47) rfl rfl ?_
                refine L_split (d := 75) (b := b47) rfl (fun hc88 => ?_) (fun hc88 => ?_)
                ·
                  rw [ite_t hc88] at hb52
                  obtain ⟨x48, hx48, hb52⟩ := bind_some hb52
                  obtain ⟨x50, hx50, hb52⟩ := bind_some hb52
                  refine L_lda (cs := [r7_0, r7_1]) rfl Try.isAgg26 Try.sizeOf26 sf3 (Blk.sub hb_g8 0 2) rfl ?_
                  refine L_mv (v := r7_2) rfl sf4 ?_
                  refine L_call (args := #[.agg #[r7_0, r7_1], r7_2]) rfl Try.call22 (ops2 rfl rfl) (i_SolvesModel_c (m := x2.1) (cells := x2.2) (Nat.le_trans hB hx.size) (rel0 hr7_0) (rel0 hr7_1) (rel0 hr7_2) hx48) ?_
                  rintro _ w89 ⟨rfl, he89⟩
                  have hr7_2 := RP.ext hr7_2 he89
                  have hr13_0 := Own.ext hr13_0 he89
                  have hr7_0 := RP.ext hr7_0 he89
                  have hr7_1 := RP.ext hr7_1 he89
                  have hx := ext_trans hx he89
                  refine L_mv (v := r13_0) rfl sf5 ?_
                  refine L_mv (v := r7_2) rfl sf4 ?_
                  refine L_call (args := #[r13_0, r7_2]) rfl Try.call32 (ops2 rfl rfl) (l_cpInts_c (a := x11.1) (b := x2.2) (Nat.le_trans hB hx.size) (rel0 (Own.rel hr13_0)) (rel0 hr7_2) hx50) ?_
                  rintro _ w90 ⟨rfl, he90⟩
                  have hr7_2 := RP.ext hr7_2 he90
                  have hr13_0 := Own.ext hr13_0 he90
                  have hx := ext_trans hx he90
                  refine L_beql (b := x48) (c := x50) rfl Try.underlying4 rfl rfl ?_
                  refine L_pick (v := .bool b52) rfl rfl (congrArg Value.bool (so hb52)) ?_
                  refine L_as (v := .bool b52) rfl rfl ?_
                  refine L_nil ?_
                  show R53 _ _
                  rw [hR53]
                  exact ⟨rfl, hx⟩
                ·
                  rw [ite_f hc88] at hb52
                  refine L_pass rfl ?_
                  refine L_pass rfl ?_
                  refine L_pass rfl ?_
                  refine L_pass rfl ?_
                  refine L_pass rfl ?_
                  refine L_pass rfl ?_
                  refine L_pass rfl ?_
                  refine L_pick (v := .bool b52) rfl rfl (congrArg Value.bool (so hb52)) ?_
                  refine L_as (v := .bool b52) rfl rfl ?_
                  refine L_nil ?_
                  show R53 _ _
                  rw [hR53]
                  exact ⟨rfl, hx⟩
        ·
          intro f w_ hR
          rw [hR53] at hR
          obtain ⟨sf2, hx⟩ := hR
          clear hR53
          refine W_ret ?_
          obtain rfl := so hF
          refine ret1 Try.results11 ?_
          exact ⟨sf2, hx⟩

end Go.Proofs.Ytcjjfneofcpmfaa

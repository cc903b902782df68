/- Part of a proof by program: W4. -/
import Derived.Test.YtcjjfneofcpmfaaD1
import Derived.Test.YtcjjfneofcpmfaaW3
namespace Go.Proofs.Ytcjjfneofcpmfaa
open Go Go.E Go.L Go.RowKit
set_option linter.unusedVariables false
set_option linter.unusedSimpArgs false
set_option maxRecDepth 100000

theorem s_l6Ints_c {a : List Int} {b : List Int} {v0 : Value} {v1 : Value} {w : World} {B : Nat} (hB : B ≤ w.heap.size) (h0 : (RP.slice 3 RP.int).rel B w.heap.size w [v0] a) (h1 : (RP.slice 3 RP.int).rel B w.heap.size w [v1] b) {r : Bool} (hF : s_l6Ints a b = some r) :
    C Try.prog 84 #[v0, v1] w fun v w' => (v = .bool r) ∧ Ext w w' := by
  unfold s_l6Ints at hF
  have hx := ext_refl w
  refine C_enter Try.func84 rfl Try.ntmps84 rfl ?_
  refine W_seq ?_
  refine W_region ?_
  refine L_as (v := .bool false) rfl rfl ?_
  refine L_nil ?_
  refine W_seq ?_
  refine W_seq ?_
  refine W_region ?_
  refine L_mv (v := v0) rfl rfl ?_
  refine L_len (v := v0) rfl Try.underlying23 rfl h0 ?_
  refine L_mv (v := v1) rfl rfl ?_
  refine L_len (v := v1) rfl Try.underlying23 rfl h1 ?_
  refine L_neq (m := (a.length : Int)) (n := (b.length : Int)) rfl rfl rfl ?_
  refine L_nil ?_
  refine W_cond (b := ((a.length : Int) != (b.length : Int))) rfl (fun hc1 => ?_) (fun hc1 => ?_)
  ·
    have hF := (ite_t hc1).symm.trans hF
    refine W_seq ?_
    refine W_region ?_
    refine L_as (v := .bool false) rfl rfl ?_
    refine L_nil ?_
    refine W_ret ?_
    obtain rfl := so hF
    refine ret1 Try.results84 ?_
    exact ⟨rfl, hx⟩
  ·
    have hF := (ite_f hc1).symm.trans hF
    refine W_skip ?_
    refine W_seq ?_
    refine W_seq ?_
    refine W_region ?_
    refine L_as (v := .int .i64 0) rfl rfl ?_
    refine L_nil ?_
    have hlen3 := len_le h0
    obtain ⟨j3, hL3, hF⟩ := bind_some hF
    obtain ⟨R3, hR3⟩ : ∃ R : Fr → World → Prop, R = fun f w_ => j3 = .nx () ∧ Ext w w_ := ⟨_, rfl⟩
    refine W_join R3 ?_ ?_
    ·
      refine W_block ?_
      obtain ⟨I3, hI3⟩ : ∃ I : Nat → Fr → World → Prop, I = fun n f w_ => ∃ i_2 : Nat, ∃ suf3 : List Int, n = suf3.length ∧ List.drop i_2 a = suf3 ∧ i_2 + suf3.length = a.length ∧ rangeL (s_l6Ints_b1 b) suf3 i_2 () = some j3 ∧ f 0 = v0 ∧ f 1 = v1 ∧ f 5 = .int .i64 (i_2 : Int) ∧ (RP.slice 3 RP.int).rel B w.heap.size w_ [v0] a ∧ (RP.slice 3 RP.int).rel B w.heap.size w_ [v1] b ∧ Ext w w_ := ⟨_, rfl⟩
      refine W_loop I3 (n := a.length) ?_ ?_
      · rw [hI3]; exact ⟨0, a, rfl, rfl, Nat.zero_add _, hL3, rfl, rfl, rfl, h0, h1, hx⟩
      ·
        intro n3 f w_ hI
        rw [hI3] at hI
        obtain ⟨i_2, suf3, rfl, hd3, hl3, hL3, sf0, sf1, sf5, h0, h1, hx⟩ := hI
        refine W_seq ?_
        refine W_seq ?_
        refine W_region ?_
        refine L_mv (v := .int .i64 (i_2 : Int)) rfl sf5 ?_
        refine L_mv (v := v0) rfl sf0 ?_
        refine L_len (v := v0) rfl Try.underlying23 rfl h0 ?_
        refine L_lss (m := (i_2 : Int)) (n := (a.length : Int)) rfl rfl rfl ?_
        refine L_nil ?_
        refine W_cond (b := decide ((i_2 : Int) < (a.length : Int))) rfl (fun hc4 => ?_) (fun hc4 => ?_)
        ·
          have hlt3 := of_decide_eq_true hc4
          cases suf3 with
          | nil => exact absurd hlt3 (by simp at hl3; omega)
          | cons x_3 rest3 =>
            obtain ⟨o3, hB3, hL3⟩ := range_cons hL3
            rw [s_l6Ints_b1] at hB3
            have hix3 := drop_idx hd3
            refine W_skip ?_
            refine W_seq ?_
            refine W_block ?_
            refine W_seq ?_
            obtain ⟨x7, hx7, hB3⟩ := bind_some hB3
            refine W_drawL 8 [isV (v0), isV (.int .i64 (i_2 : Int)), isEl B RP.int x_3 0, isV (.int .i64 x_3), isV (v1), isV (.int .i64 (i_2 : Int)), isEl B RP.int x7 0, isV (.int .i64 x7)] Try_mix (by kernel_rfl) (am_cons (mono_V _) (am_cons (mono_V _) (am_cons (mono_el _ _ _ _) (am_cons (mono_V _) (am_cons (mono_V _) (am_cons (mono_V _) (am_cons (mono_el _ _ _ _) (am_cons (mono_V _) am_nil)))))))) ?_ (fun f w_ hS10 hE10 hT10 => ?_)
            ·
              refine ops_cons (fun f w_ hS10 hE10 hP10 => ?_) ?_
              ·
                have hx := ext_trans hx hE10
                have h0 := RP.ext h0 hE10
                refine L_mv (v := v0) rfl ((hS10 0 rfl).trans sf0) ?_
                exact L_nil ⟨rfl, (ext_refl _), _, _, rfl, rfl, rfl⟩
              refine ops_cons (fun f w_ hS10 hE10 hP10 => ?_) ?_
              ·
                have hx := ext_trans hx hE10
                refine L_mv (v := .int .i64 (i_2 : Int)) rfl ((hS10 5 rfl).trans sf5) ?_
                exact L_nil ⟨rfl, (ext_refl _), _, _, rfl, rfl, rfl⟩
              refine ops_cons (fun f w_ hS10 hE10 hP10 => ?_) ?_
              ·
                have hx := ext_trans hx hE10
                have h0 := RP.ext h0 hE10
                refine L_ix (r := RP.int) rfl Try.underlying23 Try.sizeOf3 (hP10 0 17 rfl rfl) h0 (hP10 1 18 rfl rfl) hix3 ?_
                intro g15 o16 cs16 hr16 hat16
                obtain rfl : _ = [_] := hr16
                exact L_nil ⟨rfl, (ext_refl _), _, _, rfl, rfl, ⟨_, _, _, rfl, rfl, hat16⟩⟩
              refine ops_cons (fun f w_ hS10 hE10 hP10 => ?_) ?_
              ·
                have hx := ext_trans hx hE10
                obtain ⟨g17, o17, cs17, hv17, hr17, hat17⟩ := (hP10 2 19 rfl rfl)
                obtain rfl : _ = [_] := hr17
                refine L_ld (v := .int .i64 x_3) rfl Try.isAgg3 hv17 (hat17.cell (j := 0) rfl) ?_
                exact L_nil ⟨rfl, (ext_refl _), _, _, rfl, rfl, rfl⟩
              refine ops_cons (fun f w_ hS10 hE10 hP10 => ?_) ?_
              ·
                have hx := ext_trans hx hE10
                have h1 := RP.ext h1 hE10
                refine L_mv (v := v1) rfl ((hS10 1 rfl).trans sf1) ?_
                exact L_nil ⟨rfl, (ext_refl _), _, _, rfl, rfl, rfl⟩
              refine ops_cons (fun f w_ hS10 hE10 hP10 => ?_) ?_
              ·
                have hx := ext_trans hx hE10
                refine L_mv (v := .int .i64 (i_2 : Int)) rfl ((hS10 5 rfl).trans sf5) ?_
                exact L_nil ⟨rfl, (ext_refl _), _, _, rfl, rfl, rfl⟩
              refine ops_cons (fun f w_ hS10 hE10 hP10 => ?_) ?_
              ·
                have hx := ext_trans hx hE10
                have h1 := RP.ext h1 hE10
                refine L_ix (r := RP.int) rfl Try.underlying23 Try.sizeOf3 (hP10 4 21 rfl rfl) h1 (hP10 5 22 rfl rfl) hx7 ?_
                intro g18 o19 cs19 hr19 hat19
                obtain rfl : _ = [_] := hr19
                exact L_nil ⟨rfl, (ext_refl _), _, _, rfl, rfl, ⟨_, _, _, rfl, rfl, hat19⟩⟩
              refine ops_cons (fun f w_ hS10 hE10 hP10 => ?_) ?_
              ·
                have hx := ext_trans hx hE10
                obtain ⟨g20, o20, cs20, hv20, hr20, hat20⟩ := (hP10 6 23 rfl rfl)
                obtain rfl : _ = [_] := hr20
                refine L_ld (v := .int .i64 x7) rfl Try.isAgg3 hv20 (hat20.cell (j := 0) rfl) ?_
                exact L_nil ⟨rfl, (ext_refl _), _, _, rfl, rfl, rfl⟩
              exact ops_nil
            ·
              have h0 := RP.ext h0 hE10
              have h1 := RP.ext h1 hE10
              have hx := ext_trans hx hE10
              refine L_neq (m := x_3) (n := x7) rfl (hT10 3 20 rfl rfl) (hT10 7 24 rfl rfl) ?_
              refine L_nil ?_
              refine W_cond (b := (x_3 != x7)) rfl (fun hc21 => ?_) (fun hc21 => ?_)
              ·
                have hB3 := (ite_t hc21).symm.trans hB3
                refine W_seq ?_
                refine W_region ?_
                refine L_as (v := .bool false) rfl rfl ?_
                refine L_nil ?_
                refine W_ret ?_
                obtain rfl := so hB3
                obtain rfl := so hL3
                obtain rfl := so hF
                refine ret1 Try.results84 ?_
                exact ⟨rfl, hx⟩
              ·
                have hB3 := (ite_f hc21).symm.trans hB3
                refine W_skip ?_
                refine W_region ?_
                refine L_mv (v := .int .i64 (i_2 : Int)) rfl ((hS10 5 rfl).trans sf5) ?_
                refine L_add (m := (i_2 : Int)) (n := 1) rfl rfl rfl ?_
                refine L_as (v := .int .i64 (i64 ((i_2 : Int) + 1))) rfl rfl ?_
                refine L_nil ?_
                obtain rfl := so hB3
                show ∃ m, m < _ ∧ I3 m _ _
                refine ⟨rest3.length, by simp, ?_⟩
                rw [hI3]
                exact ⟨i_2 + 1, rest3, rfl, drop_next hd3, by simp at hl3; omega, hL3, ((hS10 0 rfl).trans sf0), ((hS10 1 rfl).trans sf1), (Eq.trans rfl (congrArg (Value.int .i64) (i64_succ (n := a.length) (by simp at hl3; omega) hlen3))), h0, h1, hx⟩
        ·
          cases suf3 with
          | cons _ _ => exact absurd (of_decide_eq_false hc4) (by simp at hl3; omega)
          | nil =>
            obtain rfl := range_nil hL3
            refine W_exit ?_
            show R3 _ _
            rw [hR3]
            exact ⟨rfl, hx⟩
    ·
      intro f w_ hR
      rw [hR3] at hR
      obtain ⟨rfl, hx⟩ := hR
      clear hR3
      refine W_seq ?_
      refine W_region ?_
      refine L_as (v := .bool true) rfl rfl ?_
      refine L_nil ?_
      refine W_ret ?_
      obtain rfl := so hF
      refine ret1 Try.results84 ?_
      exact ⟨rfl, hx⟩

theorem s_l6Holds_c {r_ : Rule} {cells : List Int} {v0_1 : Value} {v0_2 : Value} {v0_4 : Value} {v1 : Value} {w : World} {B : Nat} (hB : B ≤ w.heap.size) (h0_1 : (RP.slice 3 RP.int).rel B w.heap.size w [v0_1] r_.vars) (h0_2 : (RP.slice 3 RP.int).rel B w.heap.size w [v0_2] r_.coefs) (h0_4 : (RP.slice 23 (RP.slice 3 RP.int)).rel B w.heap.size w [v0_4] r_.rows) (h1 : (RP.slice 3 RP.int).rel B w.heap.size w [v1] cells) {r : Bool} (hF : s_l6Holds r_ cells = some r) :
    C Try.prog 57 #[.agg #[.int .i64 r_.kind, v0_1, v0_2, .int .i64 r_.bound, v0_4], v1] w fun v w' => (v = .bool r) ∧ Ext w w' := by
  unfold s_l6Holds at hF
  have hx := ext_refl w
  refine C_enter Try.func57 rfl Try.ntmps57 rfl ?_
  refine W_seq ?_
  refine W_region ?_
  refine L_box (v := .agg #[.int .i64 r_.kind, v0_1, v0_2, .int .i64 r_.bound, v0_4]) (cs := #[.int .i64 r_.kind, v0_1, v0_2, .int .i64 r_.bound, v0_4]) rfl rfl rfl ?_
  intro g3 w4 hn4
  have hge_g3 := hn4.geS hx.size
  have hb_g3 := hn4.blk
  have h0_1 := RP.ext h0_1 hn4.ext
  have h0_2 := RP.ext h0_2 hn4.ext
  have h0_4 := RP.ext h0_4 hn4.ext
  have h1 := RP.ext h1 hn4.ext
  have hx := ext_trans hx hn4.ext
  refine L_as (v := .bool false) rfl rfl ?_
  refine L_nil ?_
  refine W_seq ?_
  refine W_region ?_
  refine L_bs rfl parts0 (bs_23_0  ) ?_
  intro g7 w8 hn8
  have ho8 : Own RP.int 3 w.heap.size B w8 _ _ := own_new0 hn8 hx.size
  have hz8 := zero_new hn8 hx.size
  have h0_1 := RP.ext h0_1 hn8.ext
  have h0_2 := RP.ext h0_2 hn8.ext
  have h0_4 := RP.ext h0_4 hn8.ext
  have h1 := RP.ext h1 hn8.ext
  have hb_g3 := Blk.ext hb_g3 hn8.ext
  have hx := ext_trans hx hn8.ext
  refine L_as (v := (.slice (some ⟨g7, 0, none⟩) 0 0)) rfl rfl ?_
  refine L_nil ?_
  refine W_seq ?_
  refine W_seq ?_
  refine W_region ?_
  refine L_as (v := .int .i64 0) rfl rfl ?_
  refine L_nil ?_
  have hlen11 := len_le h0_1
  obtain ⟨j11, hL11, hF⟩ := bind_some hF
  obtain ⟨R11, hR11⟩ : ∃ R : Fr → World → Prop, R = fun f w_ => ∃ list_10 : List Int, ∃ v10_list : Value, j11 = .nx list_10 ∧ f 2 = .pointer (some ⟨g3, 0, none⟩) ∧ f 5 = v10_list ∧ Own RP.int 3 w.heap.size B w_ v10_list list_10 ∧ (RP.slice 3 RP.int).rel B w.heap.size w_ [v0_1] r_.vars ∧ (RP.slice 3 RP.int).rel B w.heap.size w_ [v0_2] r_.coefs ∧ (RP.slice 23 (RP.slice 3 RP.int)).rel B w.heap.size w_ [v0_4] r_.rows ∧ Blk w_ g3 36 #[.int .i64 r_.kind, v0_1, v0_2, .int .i64 r_.bound, v0_4] ∧ Ext w w_ := ⟨_, rfl⟩
  refine W_join R11 ?_ ?_
  ·
    refine W_block ?_
    obtain ⟨I11, hI11⟩ : ∃ I : Nat → Fr → World → Prop, I = fun n f w_ => ∃ i_9 : Nat, ∃ suf11 : List Int, ∃ list_10 : List Int, ∃ v10_list : Value, n = suf11.length ∧ List.drop i_9 r_.vars = suf11 ∧ i_9 + suf11.length = r_.vars.length ∧ rangeL (s_l6Holds_b1 cells) suf11 i_9 list_10 = some j11 ∧ f 1 = v1 ∧ f 2 = .pointer (some ⟨g3, 0, none⟩) ∧ f 5 = v10_list ∧ f 6 = .int .i64 (i_9 : Int) ∧ (RP.slice 3 RP.int).rel B w.heap.size w_ [v1] cells ∧ Own RP.int 3 w.heap.size B w_ v10_list list_10 ∧ (RP.slice 3 RP.int).rel B w.heap.size w_ [v0_1] r_.vars ∧ (RP.slice 3 RP.int).rel B w.heap.size w_ [v0_2] r_.coefs ∧ (RP.slice 23 (RP.slice 3 RP.int)).rel B w.heap.size w_ [v0_4] r_.rows ∧ Blk w_ g3 36 #[.int .i64 r_.kind, v0_1, v0_2, .int .i64 r_.bound, v0_4] ∧ Ext w w_ := ⟨_, rfl⟩
    refine W_loop I11 (n := r_.vars.length) ?_ ?_
    · rw [hI11]; exact ⟨0, r_.vars, [], (.slice (some ⟨g7, 0, none⟩) 0 0), rfl, rfl, Nat.zero_add _, hL11, rfl, rfl, rfl, rfl, h1, ho8, h0_1, h0_2, h0_4, hb_g3, hx⟩
    ·
      intro n11 f w_ hI
      rw [hI11] at hI
      obtain ⟨i_9, suf11, list_10, v10_list, rfl, hd11, hl11, hL11, sf1, sf2, sf5, sf6, h1, hv10_list, h0_1, h0_2, h0_4, hb_g3, hx⟩ := hI
      refine W_seq ?_
      refine W_seq ?_
      refine W_region ?_
      refine L_mv (v := .int .i64 (i_9 : Int)) rfl sf6 ?_
      refine L_fa (o' := 1) rfl fa_36_1 sf2 rfl ?_
      refine L_ld (v := v0_1) rfl Try.isAgg23 rfl (hb_g3.cell (j := 1) rfl) ?_
      refine L_len (v := v0_1) rfl Try.underlying23 rfl h0_1 ?_
      refine L_lss (m := (i_9 : Int)) (n := (r_.vars.length : Int)) rfl rfl rfl ?_
      refine L_nil ?_
      refine W_cond (b := decide ((i_9 : Int) < (r_.vars.length : Int))) rfl (fun hc12 => ?_) (fun hc12 => ?_)
      ·
        have hlt11 := of_decide_eq_true hc12
        cases suf11 with
        | nil => exact absurd hlt11 (by simp at hl11; omega)
        | cons x_11 rest11 =>
          obtain ⟨o11, hB11, hL11⟩ := range_cons hL11
          rw [s_l6Holds_b1] at hB11
          have hix11 := drop_idx hd11
          refine W_skip ?_
          refine W_seq ?_
          refine W_block ?_
          obtain ⟨x15, hx15, hB11⟩ := bind_some hB11
          obtain ⟨x21, hx21, hB11⟩ := bind_some hB11
          refine W_region ?_
          refine L_mv (v := v10_list) rfl sf5 ?_
          refine L_mv (v := v1) rfl sf1 ?_
          refine L_fa (o' := 1) rfl fa_36_1 sf2 rfl ?_
          refine L_ld (v := v0_1) rfl Try.isAgg23 rfl (hb_g3.cell (j := 1) rfl) ?_
          refine L_mv (v := .int .i64 (i_9 : Int)) rfl sf6 ?_
          refine L_ix (r := RP.int) rfl Try.underlying23 Try.sizeOf3 rfl h0_1 rfl hix11 ?_
          intro g24 o25 cs25 hr25 hat25
          obtain rfl : _ = [_] := hr25
          refine L_ld (v := .int .i64 x_11) rfl Try.isAgg3 rfl (hat25.cell (j := 0) rfl) ?_
          refine L_ix (r := RP.int) rfl Try.underlying23 Try.sizeOf3 rfl h1 rfl hx15 ?_
          intro g26 o27 cs27 hr27 hat27
          obtain rfl : _ = [_] := hr27
          refine L_ld (v := .int .i64 x15) rfl Try.isAgg3 rfl (hat27.cell (j := 0) rfl) ?_
          refine L_bs rfl (parts1 rfl) (bs_23_1_0 (.int .i64 x15) rfl) ?_
          intro g28 w29 hn29
          have ho29 : Own RP.int 3 w.heap.size B w29 _ [x15] := own_new1 hn29 hx.size rfl
          have ap30 := ap_ob hv10_list hn29
          have h1 := RP.ext h1 hn29.ext
          have hv10_list := Own.ext hv10_list hn29.ext
          have h0_1 := RP.ext h0_1 hn29.ext
          have h0_2 := RP.ext h0_2 hn29.ext
          have h0_4 := RP.ext h0_4 hn29.ext
          have hb_g3 := Blk.ext hb_g3 hn29.ext
          have hx := ext_trans hx hn29.ext
          refine L_app (v := v10_list) (u := (.slice (some ⟨g28, 0, none⟩) 1 1)) rfl et_23 (by decide) rfl rfl hv10_list (rel0 (Own.rel ho29)) hx21 hx.size hB ?_
          intro v31 w31 ho31 hm31 hb31
          have h1 := hm31.rel_lo h1 (Nat.le_refl _)
          have h0_1 := hm31.rel_lo h0_1 (Nat.le_refl _)
          have h0_2 := hm31.rel_lo h0_2 (Nat.le_refl _)
          have h0_4 := hm31.rel_lo h0_4 (Nat.le_refl _)
          have hb_g3 := hm31.blk hb_g3 (by decide)
          have hx := ext_mut hx hm31 (Nat.le_refl _)
          refine L_as (v := v31) rfl rfl ?_
          refine L_nil ?_
          refine W_region ?_
          refine L_mv (v := .int .i64 (i_9 : Int)) rfl sf6 ?_
          refine L_add (m := (i_9 : Int)) (n := 1) rfl rfl rfl ?_
          refine L_as (v := .int .i64 (i64 ((i_9 : Int) + 1))) rfl rfl ?_
          refine L_nil ?_
          obtain rfl := so hB11
          show ∃ m, m < _ ∧ I11 m _ _
          refine ⟨rest11.length, by simp, ?_⟩
          rw [hI11]
          exact ⟨i_9 + 1, rest11, x21, v31, rfl, drop_next hd11, by simp at hl11; omega, hL11, sf1, sf2, rfl, (Eq.trans rfl (congrArg (Value.int .i64) (i64_succ (n := r_.vars.length) (by simp at hl11; omega) hlen11))), h1, ho31, h0_1, h0_2, h0_4, hb_g3, hx⟩
      ·
        cases suf11 with
        | cons _ _ => exact absurd (of_decide_eq_false hc12) (by simp at hl11; omega)
        | nil =>
          obtain rfl := range_nil hL11
          refine W_exit ?_
          show R11 _ _
          rw [hR11]
          exact ⟨list_10, v10_list, rfl, sf2, sf5, hv10_list, h0_1, h0_2, h0_4, hb_g3, hx⟩
  ·
    intro f w_ hR
    rw [hR11] at hR
    obtain ⟨list_10, v10_list, rfl, sf2, sf5, hv10_list, h0_1, h0_2, h0_4, hb_g3, hx⟩ := hR
    clear hR11
    refine W_seq ?_
    refine W_seq ?_
    refine W_region ?_
    refine L_fa (o' := 0) rfl fa_36_0 sf2 rfl ?_
    refine L_ld (v := .int .i64 r_.kind) rfl Try.isAgg3 rfl (hb_g3.cell (j := 0) rfl) ?_
    refine L_nil ?_
    refine W_block ?_
    refine W_seq ?_
    refine W_region ?_
    refine L_eql (m := r_.kind) (n := 1) rfl rfl rfl ?_
    refine L_as (v := .bool (r_.kind == 1)) rfl rfl ?_
    refine L_nil ?_
    refine W_cond (b := (r_.kind == 1)) rfl (fun hc32 => ?_) (fun hc32 => ?_)
    ·
      have hF := (ite_t hc32).symm.trans hF
      refine W_seq ?_
      refine W_region ?_
      refine L_as (v := .int .i64 0) rfl rfl ?_
      refine L_nil ?_
      refine W_seq ?_
      refine W_seq ?_
      refine W_region ?_
      refine L_as (v := .int .i64 0) rfl rfl ?_
      refine L_nil ?_
      have hlen35 := len_le (Own.rel hv10_list)
      obtain ⟨j35, hL35, hF⟩ := bind_some hF
      obtain ⟨R35, hR35⟩ : ∃ R : Fr → World → Prop, R = fun f w_ => ∃ n_34 : Int, j35 = .nx n_34 ∧ f 2 = .pointer (some ⟨g3, 0, none⟩) ∧ f 7 = .int .i64 n_34 ∧ (RP.slice 3 RP.int).rel B w.heap.size w_ [v0_1] r_.vars ∧ (RP.slice 3 RP.int).rel B w.heap.size w_ [v0_2] r_.coefs ∧ (RP.slice 23 (RP.slice 3 RP.int)).rel B w.heap.size w_ [v0_4] r_.rows ∧ Blk w_ g3 36 #[.int .i64 r_.kind, v0_1, v0_2, .int .i64 r_.bound, v0_4] ∧ Ext w w_ := ⟨_, rfl⟩
      refine W_join R35 ?_ ?_
      ·
        refine W_block ?_
        obtain ⟨I35, hI35⟩ : ∃ I : Nat → Fr → World → Prop, I = fun n f w_ => ∃ i_33 : Nat, ∃ suf35 : List Int, ∃ n_34 : Int, n = suf35.length ∧ List.drop i_33 list_10 = suf35 ∧ i_33 + suf35.length = list_10.length ∧ rangeL (s_l6Holds_b2 r_) suf35 i_33 n_34 = some j35 ∧ f 2 = .pointer (some ⟨g3, 0, none⟩) ∧ f 5 = v10_list ∧ f 7 = .int .i64 n_34 ∧ f 8 = .int .i64 (i_33 : Int) ∧ Own RP.int 3 w.heap.size B w_ v10_list list_10 ∧ (RP.slice 3 RP.int).rel B w.heap.size w_ [v0_1] r_.vars ∧ (RP.slice 3 RP.int).rel B w.heap.size w_ [v0_2] r_.coefs ∧ (RP.slice 23 (RP.slice 3 RP.int)).rel B w.heap.size w_ [v0_4] r_.rows ∧ Blk w_ g3 36 #[.int .i64 r_.kind, v0_1, v0_2, .int .i64 r_.bound, v0_4] ∧ Ext w w_ := ⟨_, rfl⟩
        refine W_loop I35 (n := list_10.length) ?_ ?_
        · rw [hI35]; exact ⟨0, list_10, 0, rfl, rfl, Nat.zero_add _, hL35, sf2, sf5, rfl, rfl, hv10_list, h0_1, h0_2, h0_4, hb_g3, hx⟩
        ·
          intro n35 f w_ hI
          rw [hI35] at hI
          obtain ⟨i_33, suf35, n_34, rfl, hd35, hl35, hL35, sf2, sf5, sf7, sf8, hv10_list, h0_1, h0_2, h0_4, hb_g3, hx⟩ := hI
          refine W_seq ?_
          refine W_seq ?_
          refine W_region ?_
          refine L_mv (v := .int .i64 (i_33 : Int)) rfl sf8 ?_
          refine L_mv (v := v10_list) rfl sf5 ?_
          refine L_len (v := v10_list) rfl Try.underlying23 rfl (Own.rel hv10_list) ?_
          refine L_lss (m := (i_33 : Int)) (n := (list_10.length : Int)) rfl rfl rfl ?_
          refine L_nil ?_
          refine W_cond (b := decide ((i_33 : Int) < (list_10.length : Int))) rfl (fun hc36 => ?_) (fun hc36 => ?_)
          ·
            have hlt35 := of_decide_eq_true hc36
            cases suf35 with
            | nil => exact absurd hlt35 (by simp at hl35; omega)
            | cons x_35 rest35 =>
              obtain ⟨o35, hB35, hL35⟩ := range_cons hL35
              rw [s_l6Holds_b2] at hB35
              have hix35 := drop_idx hd35
              refine W_skip ?_
              refine W_seq ?_
              refine W_block ?_
              obtain ⟨x37, hx37, hB35⟩ := bind_some hB35
              refine W_drawL 11 [isV (.int .i64 n_34), isV (.pointer (some ⟨g3, 2, none⟩)), isV (v0_2), isV (.int .i64 (i_33 : Int)), isEl B RP.int x37 0, isV (.int .i64 x37), isV (v10_list), isV (.int .i64 (i_33 : Int)), isEl B RP.int x_35 0, isV (.int .i64 x_35), isV (.int .i64 (i64 (x37 * x_35)))] Try_mix (by kernel_rfl) (am_cons (mono_V _) (am_cons (mono_V _) (am_cons (mono_V _) (am_cons (mono_V _) (am_cons (mono_el _ _ _ _) (am_cons (mono_V _) (am_cons (mono_V _) (am_cons (mono_V _) (am_cons (mono_el _ _ _ _) (am_cons (mono_V _) (am_cons (mono_V _) am_nil))))))))))) ?_ (fun f w_ hS42 hE42 hT42 => ?_)
              ·
                refine ops_cons (fun f w_ hS42 hE42 hP42 => ?_) ?_
                ·
                  have hx := ext_trans hx hE42
                  refine L_mv (v := .int .i64 n_34) rfl ((hS42 7 rfl).trans sf7) ?_
                  exact L_nil ⟨rfl, (ext_refl _), _, _, rfl, rfl, rfl⟩
                refine ops_cons (fun f w_ hS42 hE42 hP42 => ?_) ?_
                ·
                  have hx := ext_trans hx hE42
                  have h0_1 := RP.ext h0_1 hE42
                  have h0_2 := RP.ext h0_2 hE42
                  have h0_4 := RP.ext h0_4 hE42
                  have hb_g3 := Blk.ext hb_g3 hE42
                  refine L_fa (o' := 2) rfl fa_36_2 ((hS42 2 rfl).trans sf2) rfl ?_
                  exact L_nil ⟨rfl, (ext_refl _), _, _, rfl, rfl, rfl⟩
                refine ops_cons (fun f w_ hS42 hE42 hP42 => ?_) ?_
                ·
                  have hx := ext_trans hx hE42
                  have h0_1 := RP.ext h0_1 hE42
                  have h0_2 := RP.ext h0_2 hE42
                  have h0_4 := RP.ext h0_4 hE42
                  have hb_g3 := Blk.ext hb_g3 hE42
                  refine L_ld (v := v0_2) rfl Try.isAgg23 (hP42 1 42 rfl rfl) (hb_g3.cell (j := 2) rfl) ?_
                  exact L_nil ⟨rfl, (ext_refl _), _, _, rfl, rfl, rfl⟩
                refine ops_cons (fun f w_ hS42 hE42 hP42 => ?_) ?_
                ·
                  have hx := ext_trans hx hE42
                  refine L_mv (v := .int .i64 (i_33 : Int)) rfl ((hS42 8 rfl).trans sf8) ?_
                  exact L_nil ⟨rfl, (ext_refl _), _, _, rfl, rfl, rfl⟩
                refine ops_cons (fun f w_ hS42 hE42 hP42 => ?_) ?_
                ·
                  have hx := ext_trans hx hE42
                  have h0_2 := RP.ext h0_2 hE42
                  refine L_ix (r := RP.int) rfl Try.underlying23 Try.sizeOf3 (hP42 2 43 rfl rfl) h0_2 (hP42 3 44 rfl rfl) hx37 ?_
                  intro g47 o48 cs48 hr48 hat48
                  obtain rfl : _ = [_] := hr48
                  exact L_nil ⟨rfl, (ext_refl _), _, _, rfl, rfl, ⟨_, _, _, rfl, rfl, hat48⟩⟩
                refine ops_cons (fun f w_ hS42 hE42 hP42 => ?_) ?_
                ·
                  have hx := ext_trans hx hE42
                  obtain ⟨g49, o49, cs49, hv49, hr49, hat49⟩ := (hP42 4 45 rfl rfl)
                  obtain rfl : _ = [_] := hr49
                  refine L_ld (v := .int .i64 x37) rfl Try.isAgg3 hv49 (hat49.cell (j := 0) rfl) ?_
                  exact L_nil ⟨rfl, (ext_refl _), _, _, rfl, rfl, rfl⟩
                refine ops_cons (fun f w_ hS42 hE42 hP42 => ?_) ?_
                ·
                  have hx := ext_trans hx hE42
                  have hv10_list := Own.ext hv10_list hE42
                  refine L_mv (v := v10_list) rfl ((hS42 5 rfl).trans sf5) ?_
                  exact L_nil ⟨rfl, (ext_refl _), _, _, rfl, rfl, rfl⟩
                refine ops_cons (fun f w_ hS42 hE42 hP42 => ?_) ?_
                ·
                  have hx := ext_trans hx hE42
                  refine L_mv (v := .int .i64 (i_33 : Int)) rfl ((hS42 8 rfl).trans sf8) ?_
                  exact L_nil ⟨rfl, (ext_refl _), _, _, rfl, rfl, rfl⟩
                refine ops_cons (fun f w_ hS42 hE42 hP42 => ?_) ?_
                ·
                  have hx := ext_trans hx hE42
                  have hv10_list := Own.ext hv10_list hE42
                  refine L_ix (r := RP.int) rfl Try.underlying23 Try.sizeOf3 (hP42 6 47 rfl rfl) (Own.rel hv10_list) (hP42 7 48 rfl rfl) hix35 ?_
                  intro g50 o51 cs51 hr51 hat51
                  obtain rfl : _ = [_] := hr51
                  exact L_nil ⟨rfl, (ext_refl _), _, _, rfl, rfl, ⟨_, _, _, rfl, rfl, hat51⟩⟩
                refine ops_cons (fun f w_ hS42 hE42 hP42 => ?_) ?_
                ·
                  have hx := ext_trans hx hE42
                  obtain ⟨g52, o52, cs52, hv52, hr52, hat52⟩ := (hP42 8 49 rfl rfl)
                  obtain rfl : _ = [_] := hr52
                  refine L_ld (v := .int .i64 x_35) rfl Try.isAgg3 hv52 (hat52.cell (j := 0) rfl) ?_
                  exact L_nil ⟨rfl, (ext_refl _), _, _, rfl, rfl, rfl⟩
                refine ops_cons (fun f w_ hS42 hE42 hP42 => ?_) ?_
                ·
                  have hx := ext_trans hx hE42
                  refine L_mul (m := x37) (n := x_35) rfl (hP42 5 46 rfl rfl) (hP42 9 50 rfl rfl) ?_
                  exact L_nil ⟨rfl, (ext_refl _), _, _, rfl, rfl, rfl⟩
                exact ops_nil
              ·
                have hv10_list := Own.ext hv10_list hE42
                have h0_1 := RP.ext h0_1 hE42
                have h0_2 := RP.ext h0_2 hE42
                have h0_4 := RP.ext h0_4 hE42
                have hb_g3 := Blk.ext hb_g3 hE42
                have hx := ext_trans hx hE42
                refine L_add (m := n_34) (n := i64 (x37 * x_35)) rfl (hT42 0 41 rfl rfl) (hT42 10 51 rfl rfl) ?_
                refine L_as (v := .int .i64 (i64 (n_34 + (i64 (x37 * x_35))))) rfl rfl ?_
                refine L_nil ?_
                refine W_region ?_
                refine L_mv (v := .int .i64 (i_33 : Int)) rfl ((hS42 8 rfl).trans sf8) ?_
                refine L_add (m := (i_33 : Int)) (n := 1) rfl rfl rfl ?_
                refine L_as (v := .int .i64 (i64 ((i_33 : Int) + 1))) rfl rfl ?_
                refine L_nil ?_
                obtain rfl := so hB35
                show ∃ m, m < _ ∧ I35 m _ _
                refine ⟨rest35.length, by simp, ?_⟩
                rw [hI35]
                exact ⟨i_33 + 1, rest35, i64 (n_34 + (i64 (x37 * x_35))), rfl, drop_next hd35, by simp at hl35; omega, hL35, ((hS42 2 rfl).trans sf2), ((hS42 5 rfl).trans sf5), rfl, (Eq.trans rfl (congrArg (Value.int .i64) (i64_succ (n := list_10.length) (by simp at hl35; omega) hlen35))), hv10_list, h0_1, h0_2, h0_4, hb_g3, hx⟩
          ·
            cases suf35 with
            | cons _ _ => exact absurd (of_decide_eq_false hc36) (by simp at hl35; omega)
            | nil =>
              obtain rfl := range_nil hL35
              refine W_exit ?_
              show R35 _ _
              rw [hR35]
              exact ⟨n_34, rfl, sf2, sf7, h0_1, h0_2, h0_4, hb_g3, hx⟩
      ·
        intro f w_ hR
        rw [hR35] at hR
        obtain ⟨n_34, rfl, sf2, sf7, h0_1, h0_2, h0_4, hb_g3, hx⟩ := hR
        clear hR35
        refine W_seq ?_
        refine W_region ?_
        refine L_mv (v := .int .i64 n_34) rfl sf7 ?_
        refine L_fa (o' := 3) rfl fa_36_3 sf2 rfl ?_
        refine L_ld (v := .int .i64 r_.bound) rfl Try.isAgg3 rfl (hb_g3.cell (j := 3) rfl) ?_
        refine L_geq (m := n_34) (n := r_.bound) rfl rfl rfl ?_
        refine L_as (v := .bool (decide (n_34 ≥ r_.bound))) rfl rfl ?_
        refine L_nil ?_
        refine W_ret ?_
        obtain rfl := so hF
        refine ret1 Try.results57 ?_
        exact ⟨rfl, hx⟩
    ·
      have hF := (ite_f hc32).symm.trans hF
      refine W_seq ?_
      refine W_region ?_
      refine L_eql (m := r_.kind) (n := 2) rfl rfl rfl ?_
      refine L_as (v := .bool (r_.kind == 2)) rfl rfl ?_
      refine L_nil ?_
      refine W_cond (b := (r_.kind == 2)) rfl (fun hc53 => ?_) (fun hc53 => ?_)
      ·
        have hF := (ite_t hc53).symm.trans hF
        refine W_seq ?_
        refine W_seq ?_
        refine W_region ?_
        refine L_as (v := .int .i64 0) rfl rfl ?_
        refine L_nil ?_
        have hlen55 := len_le (Own.rel hv10_list)
        obtain ⟨j55, hL55, hF⟩ := bind_some hF
        obtain ⟨R55, hR55⟩ : ∃ R : Fr → World → Prop, R = fun f w_ => j55 = .nx () ∧ Ext w w_ := ⟨_, rfl⟩
        refine W_join R55 ?_ ?_
        ·
          refine W_block ?_
          obtain ⟨I55, hI55⟩ : ∃ I : Nat → Fr → World → Prop, I = fun n f w_ => ∃ i_54 : Nat, ∃ suf55 : List Int, n = suf55.length ∧ List.drop i_54 list_10 = suf55 ∧ i_54 + suf55.length = list_10.length ∧ rangeL (s_l6Holds_b3 list_10) suf55 i_54 () = some j55 ∧ f 5 = v10_list ∧ f 9 = .int .i64 (i_54 : Int) ∧ Own RP.int 3 w.heap.size B w_ v10_list list_10 ∧ Ext w w_ := ⟨_, rfl⟩
          refine W_loop I55 (n := list_10.length) ?_ ?_
          · rw [hI55]; exact ⟨0, list_10, rfl, rfl, Nat.zero_add _, hL55, sf5, rfl, hv10_list, hx⟩
          ·
            intro n55 f w_ hI
            rw [hI55] at hI
            obtain ⟨i_54, suf55, rfl, hd55, hl55, hL55, sf5, sf9, hv10_list, hx⟩ := hI
            refine W_seq ?_
            refine W_seq ?_
            refine W_region ?_
            refine L_mv (v := .int .i64 (i_54 : Int)) rfl sf9 ?_
            refine L_mv (v := v10_list) rfl sf5 ?_
            refine L_len (v := v10_list) rfl Try.underlying23 rfl (Own.rel hv10_list) ?_
            refine L_lss (m := (i_54 : Int)) (n := (list_10.length : Int)) rfl rfl rfl ?_
            refine L_nil ?_
            refine W_cond (b := decide ((i_54 : Int) < (list_10.length : Int))) rfl (fun hc56 => ?_) (fun hc56 => ?_)
            ·
              have hlt55 := of_decide_eq_true hc56
              cases suf55 with
              | nil => exact absurd hlt55 (by simp at hl55; omega)
              | cons x_55 rest55 =>
                obtain ⟨o55, hB55, hL55⟩ := range_cons hL55
                rw [s_l6Holds_b3] at hB55
                have hix55 := drop_idx hd55
                refine W_skip ?_
                refine W_seq ?_
                refine W_block ?_
                refine W_seq ?_
                refine W_region ?_
                refine L_as (v := .int .i64 0) rfl rfl ?_
                refine L_nil ?_
                obtain ⟨k59, hk59, hB55⟩ := bind_some hB55
                obtain ⟨j58, hL58, hB55⟩ := bind_some hB55
                obtain ⟨R58, hR58⟩ : ∃ R : Fr → World → Prop, R = fun f w_ => j58 = .nx () ∧ f 5 = v10_list ∧ f 9 = .int .i64 (i_54 : Int) ∧ Own RP.int 3 w.heap.size B w_ v10_list list_10 ∧ Ext w w_ := ⟨_, rfl⟩
                refine W_join R58 ?_ ?_
                ·
                  refine W_block ?_
                  obtain ⟨I58, hI58⟩ : ∃ I : Nat → Fr → World → Prop, I = fun n f w_ => ∃ i_57 : Nat, ∃ suf58 : Nat, suf58 = n ∧ 0 ≤ i_57 ∧ i_57 + suf58 = 0 + k59 ∧ countL (s_l6Holds_b4 list_10 x_55) suf58 i_57 () = some j58 ∧ f 5 = v10_list ∧ f 9 = .int .i64 (i_54 : Int) ∧ f 10 = .int .i64 (i_57 : Int) ∧ Own RP.int 3 w.heap.size B w_ v10_list list_10 ∧ Ext w w_ := ⟨_, rfl⟩
                  refine W_loop I58 (n := k59) ?_ ?_
                  · rw [hI58]; exact ⟨0, k59, rfl, Nat.le_refl _, rfl, hL58, sf5, sf9, rfl, hv10_list, hx⟩
                  ·
                    intro n58 f w_ hI
                    rw [hI58] at hI
                    obtain ⟨i_57, suf58, rfl, hs58, hl58, hL58, sf5, sf9, sf10, hv10_list, hx⟩ := hI
                    refine W_seq ?_
                    refine W_seq ?_
                    refine W_region ?_
                    refine L_mv (v := .int .i64 (i_57 : Int)) rfl sf10 ?_
                    refine L_mv (v := .int .i64 (i_54 : Int)) rfl sf9 ?_
                    refine L_lss (m := (i_57 : Int)) (n := (i_54 : Int)) rfl rfl rfl ?_
                    refine L_nil ?_
                    refine W_cond (b := decide ((i_57 : Int) < (i_54 : Int))) rfl (fun hc60 => ?_) (fun hc60 => ?_)
                    ·
                      have hlt58 := of_decide_eq_true hc60
                      cases suf58 with
                      | zero => exact absurd hlt58 (cntF_no hl58 hk59)
                      | succ rest58 =>
                        obtain ⟨o58, hB58, hL58⟩ := count_succ hL58
                        rw [s_l6Holds_b4] at hB58
                        refine W_skip ?_
                        refine W_seq ?_
                        refine W_block ?_
                        refine W_seq ?_
                        obtain ⟨x61, hx61, hB58⟩ := bind_some hB58
                        refine W_drawL 8 [isV (v10_list), isV (.int .i64 (i_57 : Int)), isEl B RP.int x61 0, isV (.int .i64 x61), isV (v10_list), isV (.int .i64 (i_54 : Int)), isEl B RP.int x_55 0, isV (.int .i64 x_55)] Try_mix (by kernel_rfl) (am_cons (mono_V _) (am_cons (mono_V _) (am_cons (mono_el _ _ _ _) (am_cons (mono_V _) (am_cons (mono_V _) (am_cons (mono_V _) (am_cons (mono_el _ _ _ _) (am_cons (mono_V _) am_nil)))))))) ?_ (fun f w_ hS66 hE66 hT66 => ?_)
                        ·
                          refine ops_cons (fun f w_ hS66 hE66 hP66 => ?_) ?_
                          ·
                            have hx := ext_trans hx hE66
                            have hv10_list := Own.ext hv10_list hE66
                            refine L_mv (v := v10_list) rfl ((hS66 5 rfl).trans sf5) ?_
                            exact L_nil ⟨rfl, (ext_refl _), _, _, rfl, rfl, rfl⟩
                          refine ops_cons (fun f w_ hS66 hE66 hP66 => ?_) ?_
                          ·
                            have hx := ext_trans hx hE66
                            refine L_mv (v := .int .i64 (i_57 : Int)) rfl ((hS66 10 rfl).trans sf10) ?_
                            exact L_nil ⟨rfl, (ext_refl _), _, _, rfl, rfl, rfl⟩
                          refine ops_cons (fun f w_ hS66 hE66 hP66 => ?_) ?_
                          ·
                            have hx := ext_trans hx hE66
                            have hv10_list := Own.ext hv10_list hE66
                            refine L_ix (r := RP.int) rfl Try.underlying23 Try.sizeOf3 (hP66 0 70 rfl rfl) (Own.rel hv10_list) (hP66 1 71 rfl rfl) hx61 ?_
                            intro g71 o72 cs72 hr72 hat72
                            obtain rfl : _ = [_] := hr72
                            exact L_nil ⟨rfl, (ext_refl _), _, _, rfl, rfl, ⟨_, _, _, rfl, rfl, hat72⟩⟩
                          refine ops_cons (fun f w_ hS66 hE66 hP66 => ?_) ?_
                          ·
                            have hx := ext_trans hx hE66
                            obtain ⟨g73, o73, cs73, hv73, hr73, hat73⟩ := (hP66 2 72 rfl rfl)
                            obtain rfl : _ = [_] := hr73
                            refine L_ld (v := .int .i64 x61) rfl Try.isAgg3 hv73 (hat73.cell (j := 0) rfl) ?_
                            exact L_nil ⟨rfl, (ext_refl _), _, _, rfl, rfl, rfl⟩
                          refine ops_cons (fun f w_ hS66 hE66 hP66 => ?_) ?_
                          ·
                            have hx := ext_trans hx hE66
                            have hv10_list := Own.ext hv10_list hE66
                            refine L_mv (v := v10_list) rfl ((hS66 5 rfl).trans sf5) ?_
                            exact L_nil ⟨rfl, (ext_refl _), _, _, rfl, rfl, rfl⟩
                          refine ops_cons (fun f w_ hS66 hE66 hP66 => ?_) ?_
                          ·
                            have hx := ext_trans hx hE66
                            refine L_mv (v := .int .i64 (i_54 : Int)) rfl ((hS66 9 rfl).trans sf9) ?_
                            exact L_nil ⟨rfl, (ext_refl _), _, _, rfl, rfl, rfl⟩
                          refine ops_cons (fun f w_ hS66 hE66 hP66 => ?_) ?_
                          ·
                            have hx := ext_trans hx hE66
                            have hv10_list := Own.ext hv10_list hE66
                            refine L_ix (r := RP.int) rfl Try.underlying23 Try.sizeOf3 (hP66 4 74 rfl rfl) (Own.rel hv10_list) (hP66 5 75 rfl rfl) hix55 ?_
                            intro g74 o75 cs75 hr75 hat75
                            obtain rfl : _ = [_] := hr75
                            exact L_nil ⟨rfl, (ext_refl _), _, _, rfl, rfl, ⟨_, _, _, rfl, rfl, hat75⟩⟩
                          refine ops_cons (fun f w_ hS66 hE66 hP66 => ?_) ?_
                          ·
                            have hx := ext_trans hx hE66
                            obtain ⟨g76, o76, cs76, hv76, hr76, hat76⟩ := (hP66 6 76 rfl rfl)
                            obtain rfl : _ = [_] := hr76
                            refine L_ld (v := .int .i64 x_55) rfl Try.isAgg3 hv76 (hat76.cell (j := 0) rfl) ?_
                            exact L_nil ⟨rfl, (ext_refl _), _, _, rfl, rfl, rfl⟩
                          exact ops_nil
                        ·
                          have hv10_list := Own.ext hv10_list hE66
                          have hx := ext_trans hx hE66
                          refine L_eql (m := x61) (n := x_55) rfl (hT66 3 73 rfl rfl) (hT66 7 77 rfl rfl) ?_
                          refine L_nil ?_
                          refine W_cond (b := (x61 == x_55)) rfl (fun hc77 => ?_) (fun hc77 => ?_)
                          ·
                            have hB58 := (ite_t hc77).symm.trans hB58
                            refine W_seq ?_
                            refine W_region ?_
                            refine L_as (v := .bool false) rfl rfl ?_
                            refine L_nil ?_
                            refine W_ret ?_
                            obtain rfl := so hB58
                            obtain rfl := so hL58
                            obtain rfl := so hB55
                            obtain rfl := so hL55
                            obtain rfl := so hF
                            refine ret1 Try.results57 ?_
                            exact ⟨rfl, hx⟩
                          ·
                            have hB58 := (ite_f hc77).symm.trans hB58
                            refine W_skip ?_
                            refine W_region ?_
                            refine L_mv (v := .int .i64 (i_57 : Int)) rfl ((hS66 10 rfl).trans sf10) ?_
                            refine L_add (m := (i_57 : Int)) (n := 1) rfl rfl rfl ?_
                            refine L_as (v := .int .i64 (i64 ((i_57 : Int) + 1))) rfl rfl ?_
                            refine L_nil ?_
                            obtain rfl := so hB58
                            show ∃ m, m < _ ∧ I58 m _ _
                            refine ⟨rest58, Nat.lt_succ_self _, ?_⟩
                            rw [hI58]
                            exact ⟨i_57 + 1, rest58, rfl, by omega, by omega, hL58, ((hS66 5 rfl).trans sf5), ((hS66 9 rfl).trans sf9), (Eq.trans rfl (congrArg (Value.int .i64) (i64_succ (n := 0 + k59) (by omega) (cntF_le hk59)))), hv10_list, hx⟩
                    ·
                      cases suf58 with
                      | succ _ => exact absurd (cntF_yes hs58 hl58 hk59) (of_decide_eq_false hc60)
                      | zero =>
                        obtain rfl := count_zero hL58
                        refine W_exit ?_
                        show R58 _ _
                        rw [hR58]
                        exact ⟨rfl, sf5, sf9, hv10_list, hx⟩
                ·
                  intro f w_ hR
                  rw [hR58] at hR
                  obtain ⟨rfl, sf5, sf9, hv10_list, hx⟩ := hR
                  clear hR58
                  refine W_region ?_
                  refine L_mv (v := .int .i64 (i_54 : Int)) rfl sf9 ?_
                  refine L_add (m := (i_54 : Int)) (n := 1) rfl rfl rfl ?_
                  refine L_as (v := .int .i64 (i64 ((i_54 : Int) + 1))) rfl rfl ?_
                  refine L_nil ?_
                  obtain rfl := so hB55
                  show ∃ m, m < _ ∧ I55 m _ _
                  refine ⟨rest55.length, by simp, ?_⟩
                  rw [hI55]
                  exact ⟨i_54 + 1, rest55, rfl, drop_next hd55, by simp at hl55; omega, hL55, sf5, (Eq.trans rfl (congrArg (Value.int .i64) (i64_succ (n := list_10.length) (by simp at hl55; omega) hlen55))), hv10_list, hx⟩
            ·
              cases suf55 with
              | cons _ _ => exact absurd (of_decide_eq_false hc56) (by simp at hl55; omega)
              | nil =>
                obtain rfl := range_nil hL55
                refine W_exit ?_
                show R55 _ _
                rw [hR55]
                exact ⟨rfl, hx⟩
        ·
          intro f w_ hR
          rw [hR55] at hR
          obtain ⟨rfl, hx⟩ := hR
          clear hR55
          refine W_seq ?_
          refine W_region ?_
          refine L_as (v := .bool true) rfl rfl ?_
          refine L_nil ?_
          refine W_ret ?_
          obtain rfl := so hF
          refine ret1 Try.results57 ?_
          exact ⟨rfl, hx⟩
      ·
        have hF := (ite_f hc53).symm.trans hF
        refine W_seq ?_
        refine W_region ?_
        refine L_eql (m := r_.kind) (n := 4) rfl rfl rfl ?_
        refine L_as (v := .bool (r_.kind == 4)) rfl rfl ?_
        refine L_nil ?_
        refine W_cond (b := (r_.kind == 4)) rfl (fun hc78 => ?_) (fun hc78 => ?_)
        ·
          have hF := (ite_t hc78).symm.trans hF
          refine W_seq ?_
          obtain ⟨x79, hx79, hF⟩ := bind_some hF
          obtain ⟨x82, hx82, hF⟩ := bind_some hF
          refine W_drawL 6 [isV (v10_list), isEl B RP.int x79 0, isV (.int .i64 x79), isV (v10_list), isEl B RP.int x82 0, isV (.int .i64 x82)] Try_mix (by kernel_rfl) (am_cons (mono_V _) (am_cons (mono_el _ _ _ _) (am_cons (mono_V _) (am_cons (mono_V _) (am_cons (mono_el _ _ _ _) (am_cons (mono_V _) am_nil)))))) ?_ (fun f w_ hS85 hE85 hT85 => ?_)
          ·
            refine ops_cons (fun f w_ hS85 hE85 hP85 => ?_) ?_
            ·
              have hx := ext_trans hx hE85
              have hv10_list := Own.ext hv10_list hE85
              refine L_mv (v := v10_list) rfl ((hS85 5 rfl).trans sf5) ?_
              exact L_nil ⟨rfl, (ext_refl _), _, _, rfl, rfl, rfl⟩
            refine ops_cons (fun f w_ hS85 hE85 hP85 => ?_) ?_
            ·
              have hx := ext_trans hx hE85
              have hv10_list := Own.ext hv10_list hE85
              refine L_ix (r := RP.int) rfl Try.underlying23 Try.sizeOf3 (hP85 0 81 rfl rfl) (Own.rel hv10_list) rfl hx79 ?_
              intro g90 o91 cs91 hr91 hat91
              obtain rfl : _ = [_] := hr91
              exact L_nil ⟨rfl, (ext_refl _), _, _, rfl, rfl, ⟨_, _, _, rfl, rfl, hat91⟩⟩
            refine ops_cons (fun f w_ hS85 hE85 hP85 => ?_) ?_
            ·
              have hx := ext_trans hx hE85
              obtain ⟨g92, o92, cs92, hv92, hr92, hat92⟩ := (hP85 1 82 rfl rfl)
              obtain rfl : _ = [_] := hr92
              refine L_ld (v := .int .i64 x79) rfl Try.isAgg3 hv92 (hat92.cell (j := 0) rfl) ?_
              exact L_nil ⟨rfl, (ext_refl _), _, _, rfl, rfl, rfl⟩
            refine ops_cons (fun f w_ hS85 hE85 hP85 => ?_) ?_
            ·
              have hx := ext_trans hx hE85
              have hv10_list := Own.ext hv10_list hE85
              refine L_mv (v := v10_list) rfl ((hS85 5 rfl).trans sf5) ?_
              exact L_nil ⟨rfl, (ext_refl _), _, _, rfl, rfl, rfl⟩
            refine ops_cons (fun f w_ hS85 hE85 hP85 => ?_) ?_
            ·
              have hx := ext_trans hx hE85
              have hv10_list := Own.ext hv10_list hE85
              refine L_ix (r := RP.int) rfl Try.underlying23 Try.sizeOf3 (hP85 3 84 rfl rfl) (Own.rel hv10_list) rfl hx82 ?_
              intro g93 o94 cs94 hr94 hat94
              obtain rfl : _ = [_] := hr94
              exact L_nil ⟨rfl, (ext_refl _), _, _, rfl, rfl, ⟨_, _, _, rfl, rfl, hat94⟩⟩
            refine ops_cons (fun f w_ hS85 hE85 hP85 => ?_) ?_
            ·
              have hx := ext_trans hx hE85
              obtain ⟨g95, o95, cs95, hv95, hr95, hat95⟩ := (hP85 4 85 rfl rfl)
              obtain rfl : _ = [_] := hr95
              refine L_ld (v := .int .i64 x82) rfl Try.isAgg3 hv95 (hat95.cell (j := 0) rfl) ?_
              exact L_nil ⟨rfl, (ext_refl _), _, _, rfl, rfl, rfl⟩
            exact ops_nil
          ·
            have hv10_list := Own.ext hv10_list hE85
            have h0_1 := RP.ext h0_1 hE85
            have h0_2 := RP.ext h0_2 hE85
            have h0_4 := RP.ext h0_4 hE85
            have hb_g3 := Blk.ext hb_g3 hE85
            have hx := ext_trans hx hE85
            refine L_lss (m := x79) (n := x82) rfl (hT85 2 83 rfl rfl) (hT85 5 86 rfl rfl) ?_
            refine L_as (v := .bool (decide (x79 < x82))) rfl rfl ?_
            refine L_nil ?_
            refine W_ret ?_
            obtain rfl := so hF
            refine ret1 Try.results57 ?_
            exact ⟨rfl, hx⟩
        ·
          have hF := (ite_f hc78).symm.trans hF
          refine W_skip ?_
          refine W_seq ?_
          refine W_seq ?_
          refine W_region ?_
          refine L_as (v := .int .i64 0) rfl rfl ?_
          refine L_nil ?_
          have hlen97 := len_le h0_4
          obtain ⟨j97, hL97, hF⟩ := bind_some hF
          obtain ⟨R97, hR97⟩ : ∃ R : Fr → World → Prop, R = fun f w_ => j97 = .nx () ∧ Ext w w_ := ⟨_, rfl⟩
          refine W_join R97 ?_ ?_
          ·
            refine W_block ?_
            obtain ⟨I97, hI97⟩ : ∃ I : Nat → Fr → World → Prop, I = fun n f w_ => ∃ i_96 : Nat, ∃ suf97 : List (List Int), n = suf97.length ∧ List.drop i_96 r_.rows = suf97 ∧ i_96 + suf97.length = r_.rows.length ∧ rangeL (s_l6Holds_b5 list_10) suf97 i_96 () = some j97 ∧ f 2 = .pointer (some ⟨g3, 0, none⟩) ∧ f 5 = v10_list ∧ f 11 = .int .i64 (i_96 : Int) ∧ Own RP.int 3 w.heap.size B w_ v10_list list_10 ∧ (RP.slice 3 RP.int).rel B w.heap.size w_ [v0_1] r_.vars ∧ (RP.slice 3 RP.int).rel B w.heap.size w_ [v0_2] r_.coefs ∧ (RP.slice 23 (RP.slice 3 RP.int)).rel B w.heap.size w_ [v0_4] r_.rows ∧ Blk w_ g3 36 #[.int .i64 r_.kind, v0_1, v0_2, .int .i64 r_.bound, v0_4] ∧ Ext w w_ := ⟨_, rfl⟩
            refine W_loop I97 (n := r_.rows.length) ?_ ?_
            · rw [hI97]; exact ⟨0, r_.rows, rfl, rfl, Nat.zero_add _, hL97, sf2, sf5, rfl, hv10_list, h0_1, h0_2, h0_4, hb_g3, hx⟩
            ·
              intro n97 f w_ hI
              rw [hI97] at hI
              obtain ⟨i_96, suf97, rfl, hd97, hl97, hL97, sf2, sf5, sf11, hv10_list, h0_1, h0_2, h0_4, hb_g3, hx⟩ := hI
              refine W_seq ?_
              refine W_seq ?_
              refine W_region ?_
              refine L_mv (v := .int .i64 (i_96 : Int)) rfl sf11 ?_
              refine L_fa (o' := 4) rfl fa_36_4 sf2 rfl ?_
              refine L_ld (v := v0_4) rfl Try.isAgg34 rfl (hb_g3.cell (j := 4) rfl) ?_
              refine L_len (v := v0_4) rfl Try.underlying34 rfl h0_4 ?_
              refine L_lss (m := (i_96 : Int)) (n := (r_.rows.length : Int)) rfl rfl rfl ?_
              refine L_nil ?_
              refine W_cond (b := decide ((i_96 : Int) < (r_.rows.length : Int))) rfl (fun hc98 => ?_) (fun hc98 => ?_)
              ·
                have hlt97 := of_decide_eq_true hc98
                cases suf97 with
                | nil => exact absurd hlt97 (by simp at hl97; omega)
                | cons x_97 rest97 =>
                  obtain ⟨o97, hB97, hL97⟩ := range_cons hL97
                  rw [s_l6Holds_b5] at hB97
                  have hix97 := drop_idx hd97
                  refine W_skip ?_
                  refine W_seq ?_
                  refine W_block ?_
                  refine W_seq ?_
                  obtain ⟨x101, hx101, hB97⟩ := bind_some hB97
                  refine W_region ?_
                  refine L_fa (o' := 4) rfl fa_36_4 sf2 rfl ?_
                  refine L_ld (v := v0_4) rfl Try.isAgg34 rfl (hb_g3.cell (j := 4) rfl) ?_
                  refine L_mv (v := .int .i64 (i_96 : Int)) rfl sf11 ?_
                  refine L_ix (r := (RP.slice 3 RP.int)) rfl Try.underlying34 Try.sizeOf23 rfl h0_4 rfl hix97 ?_
                  intro g103 o104 cs104 hr104 hat104
                  obtain ⟨u104, rfl, hu104⟩ := slice1 hr104
                  refine L_ld (v := u104) rfl Try.isAgg23 rfl (hat104.cell (j := 0) rfl) ?_
                  refine L_mv (v := v10_list) rfl sf5 ?_
                  refine L_call (args := #[u104, v10_list]) rfl Try.call84 (ops2 rfl rfl) (s_l6Ints_c (a := x_97) (b := list_10) (Nat.le_trans hB hx.size) (rel0 hu104) (rel0 (Own.rel hv10_list)) hx101) ?_
                  rintro _ w105 ⟨rfl, he105⟩
                  have hv10_list := Own.ext hv10_list he105
                  have h0_1 := RP.ext h0_1 he105
                  have h0_2 := RP.ext h0_2 he105
                  have h0_4 := RP.ext h0_4 he105
                  have hb_g3 := Blk.ext hb_g3 he105
                  have hu104 := RP.ext hu104 he105
                  have hx := ext_trans hx he105
                  refine L_nil ?_
                  refine W_cond (b := x101) rfl (fun hc106 => ?_) (fun hc106 => ?_)
                  ·
                    have hB97 := (ite_t hc106).symm.trans hB97
                    refine W_seq ?_
                    refine W_region ?_
                    refine L_as (v := .bool true) rfl rfl ?_
                    refine L_nil ?_
                    refine W_ret ?_
                    obtain rfl := so hB97
                    obtain rfl := so hL97
                    obtain rfl := so hF
                    refine ret1 Try.results57 ?_
                    exact ⟨rfl, hx⟩
                  ·
                    have hB97 := (ite_f hc106).symm.trans hB97
                    refine W_skip ?_
                    refine W_region ?_
                    refine L_mv (v := .int .i64 (i_96 : Int)) rfl sf11 ?_
                    refine L_add (m := (i_96 : Int)) (n := 1) rfl rfl rfl ?_
                    refine L_as (v := .int .i64 (i64 ((i_96 : Int) + 1))) rfl rfl ?_
                    refine L_nil ?_
                    obtain rfl := so hB97
                    show ∃ m, m < _ ∧ I97 m _ _
                    refine ⟨rest97.length, by simp, ?_⟩
                    rw [hI97]
                    exact ⟨i_96 + 1, rest97, rfl, drop_next hd97, by simp at hl97; omega, hL97, sf2, sf5, (Eq.trans rfl (congrArg (Value.int .i64) (i64_succ (n := r_.rows.length) (by simp at hl97; omega) hlen97))), hv10_list, h0_1, h0_2, h0_4, hb_g3, hx⟩
              ·
                cases suf97 with
                | cons _ _ => exact absurd (of_decide_eq_false hc98) (by simp at hl97; omega)
                | nil =>
                  obtain rfl := range_nil hL97
                  refine W_exit ?_
                  show R97 _ _
                  rw [hR97]
                  exact ⟨rfl, hx⟩
          ·
            intro f w_ hR
            rw [hR97] at hR
            obtain ⟨rfl, hx⟩ := hR
            clear hR97
            refine W_seq ?_
            refine W_region ?_
            refine L_as (v := .bool false) rfl rfl ?_
            refine L_nil ?_
            refine W_ret ?_
            obtain rfl := so hF
            refine ret1 Try.results57 ?_
            exact ⟨rfl, hx⟩

theorem s_RuleHolds_c {fu : Nat} {m : Model} {rule : Int} {cells : List Int} {v0_0 : Value} {v0_1 : Value} {v2 : Value} {w : World} {B : Nat} (hB : B ≤ w.heap.size) (h0_0 : (RP.slice 3 RP.int).rel B w.heap.size w [v0_0] m.sizes) (h0_1 : (RP.slice 36 (rRule 3 23)).rel B w.heap.size w [v0_1] m.rules) (h2 : (RP.slice 3 RP.int).rel B w.heap.size w [v2] cells) {r : Bool} (hF : s_RuleHolds fu m rule cells = some r) :
    C Try.prog 19 #[.agg #[v0_0, v0_1], .int .i64 rule, v2] w fun v w' => (v = .bool r) ∧ Ext w w' := by
  unfold s_RuleHolds at hF
  have hx := ext_refl w
  refine C_enter Try.func19 rfl Try.ntmps19 rfl ?_
  refine W_seq ?_
  refine W_region ?_
  refine L_box (v := .agg #[v0_0, v0_1]) (cs := #[v0_0, v0_1]) rfl rfl rfl ?_
  intro g3 w4 hn4
  have hge_g3 := hn4.geS hx.size
  have hb_g3 := hn4.blk
  have h0_0 := RP.ext h0_0 hn4.ext
  have h0_1 := RP.ext h0_1 hn4.ext
  have h2 := RP.ext h2 hn4.ext
  have hx := ext_trans hx hn4.ext
  refine L_as (v := .bool false) rfl rfl ?_
  refine L_nil ?_
  refine W_seq ?_
  obtain ⟨x5, hx5, hF⟩ := bind_some hF
  obtain ⟨b12, hb12, hF⟩ := bind_some hF
  obtain ⟨R13, hR13⟩ : ∃ R : Fr → World → Prop, R = fun f w_ => f 6 = .bool b12 ∧ Ext w w_ := ⟨_, rfl⟩
  refine W_join R13 ?_ ?_
  ·
    refine W_region ?_
    refine L_lda (cs := [v0_0, v0_1]) rfl Try.isAgg26 Try.sizeOf26 rfl (Blk.sub hb_g3 0 2) rfl ?_
    refine L_mv (v := v2) rfl rfl ?_
    refine L_call (args := #[.agg #[v0_0, v0_1], v2]) rfl Try.call24 (ops2 rfl rfl) (s_CellsValid_c (m := m) (cells := cells) (Nat.le_trans hB hx.size) (rel0 h0_0) (rel0 h0_1) (rel0 h2) hx5) ?_
    rintro _ w14 ⟨rfl, he14⟩
    have h0_0 := RP.ext h0_0 he14
    have h0_1 := RP.ext h0_1 he14
    have h2 := RP.ext h2 he14
    have hb_g3 := Blk.ext hb_g3 he14
    have hx := ext_trans hx he14
    refine L_mv (v := .bool x5) rfl rfl ?_
    refine L_split (d := 10) (b := x5) rfl (fun hc15 => ?_) (fun hc15 => ?_)
    ·
      refine L_mv (v := .int .i64 rule) rfl rfl ?_
      refine L_geq (m := rule) (n := 0) rfl rfl rfl ?_
      refine L_pick (v := .bool (x5 && (decide (rule ≥ 0)))) rfl rfl (and_t hc15 rfl) ?_
      refine L_mv (v := .bool (x5 && (decide (rule ≥ 0)))) rfl rfl ?_
      refine L_split (d := 14) (b := (x5 && (decide (rule ≥ 0)))) rfl (fun hc16 => ?_) (fun hc16 => ?_)
      ·
        refine L_mv (v := .int .i64 rule) rfl rfl ?_
        refine L_fa (o' := 1) rfl fa_26_1 rfl rfl ?_
        refine L_ld (v := v0_1) rfl Try.isAgg24 rfl (hb_g3.cell (j := 1) rfl) ?_
        refine L_len (v := v0_1) rfl Try.underlying24 rfl h0_1 ?_
        refine L_lss (m := rule) (n := (m.rules.length : Int)) rfl rfl rfl ?_
        refine L_pick (v := .bool ((x5 && (decide (rule ≥ 0))) && (decide (rule < (m.rules.length : Int))))) rfl rfl (and_t hc16 rfl) ?_
        refine L_mv (v := .bool ((x5 && (decide (rule ≥ 0))) && (decide (rule < (m.rules.length : Int))))) rfl rfl ?_
        refine L_split (d := 21) (b := ((x5 && (decide (rule ≥ 0))) && (decide (rule < (m.rules.length : Int))))) rfl (fun hc17 => ?_) (fun hc17 => ?_)
        ·
          rw [ite_t hc17] at hb12
          obtain ⟨x7, hx7, hb12⟩ := bind_some hb12
          obtain ⟨x10, hx10, hb12⟩ := bind_some hb12
          refine L_fa (o' := 1) rfl fa_26_1 rfl rfl ?_
          refine L_ld (v := v0_1) rfl Try.isAgg24 rfl (hb_g3.cell (j := 1) rfl) ?_
          refine L_mv (v := .int .i64 rule) rfl rfl ?_
          refine L_ix (r := (rRule 3 23)) rfl Try.underlying24 Try.sizeOf36 rfl h0_1 rfl hx7 ?_
          intro g18 o19 cs19 hr19 hat19
          obtain ⟨u19_0, u19_1, u19_2, rfl, hu19_0, hu19_1, hu19_2⟩ := rRule_iff.1 hr19
          refine L_lda (cs := [.int .i64 x7.kind, u19_0, u19_1, .int .i64 x7.bound, u19_2]) rfl Try.isAgg36 Try.sizeOf36 rfl (At.sub hat19 0 5) rfl ?_
          refine L_mv (v := v2) rfl rfl ?_
          refine L_call (args := #[.agg #[.int .i64 x7.kind, u19_0, u19_1, .int .i64 x7.bound, u19_2], v2]) rfl Try.call57 (ops2 rfl rfl) (s_l6Holds_c (r_ := x7) (cells := cells) (Nat.le_trans hB hx.size) (rel0 hu19_0) (rel0 hu19_1) (rel0 hu19_2) (rel0 h2) hx10) ?_
          rintro _ w20 ⟨rfl, he20⟩
          have h2 := RP.ext h2 he20
          have hu19_0 := RP.ext hu19_0 he20
          have hu19_1 := RP.ext hu19_1 he20
          have hu19_2 := RP.ext hu19_2 he20
          have hx := ext_trans hx he20
          refine L_pick (v := .bool b12) rfl rfl (congrArg Value.bool (so hb12)) ?_
          refine L_as (v := .bool b12) rfl rfl ?_
          refine L_nil ?_
          show R13 _ _
          rw [hR13]
          exact ⟨rfl, hx⟩
        ·
          rw [ite_f hc17] at hb12
          refine L_pass rfl ?_
          refine L_pass rfl ?_
          refine L_pass rfl ?_
          refine L_pass rfl ?_
          refine L_pass rfl ?_
          refine L_pass rfl ?_
          refine L_pass rfl ?_
          refine L_pick (v := .bool b12) rfl rfl (congrArg Value.bool (so hb12)) ?_
          refine L_as (v := .bool b12) rfl rfl ?_
          refine L_nil ?_
          show R13 _ _
          rw [hR13]
          exact ⟨rfl, hx⟩
      ·
        refine L_pass rfl ?_
        refine L_pass rfl ?_
        refine L_pass rfl ?_
        refine L_pass rfl ?_
        refine L_pass rfl ?_
        refine L_pick (v := .bool ((x5 && (decide (rule ≥ 0))) && (decide (rule < (m.rules.length : Int))))) rfl rfl (and_f hc16) ?_
        refine L_mv (v := .bool ((x5 && (decide (rule ≥ 0))) && (decide (rule < (m.rules.length : Int))))) rfl rfl ?_
        refine L_split (d := 21) (b := ((x5 && (decide (rule ≥ 0))) && (decide (rule < (m.rules.length : Int))))) rfl (fun hc21 => ?_) (fun hc21 => ?_)
        ·
          rw [ite_t hc21] at hb12
          obtain ⟨x7, hx7, hb12⟩ := bind_some hb12
          obtain ⟨x10, hx10, hb12⟩ := bind_some hb12
          refine L_fa (o' := 1) rfl fa_26_1 rfl rfl ?_
          refine L_ld (v := v0_1) rfl Try.isAgg24 rfl (hb_g3.cell (j := 1) rfl) ?_
          refine L_mv (v := .int .i64 rule) rfl rfl ?_
          refine L_ix (r := (rRule 3 23)) rfl Try.underlying24 Try.sizeOf36 rfl h0_1 rfl hx7 ?_
          intro g22 o23 cs23 hr23 hat23
          obtain ⟨u23_0, u23_1, u23_2, rfl, hu23_0, hu23_1, hu23_2⟩ := rRule_iff.1 hr23
          refine L_lda (cs := [.int .i64 x7.kind, u23_0, u23_1, .int .i64 x7.bound, u23_2]) rfl Try.isAgg36 Try.sizeOf36 rfl (At.sub hat23 0 5) rfl ?_
          refine L_mv (v := v2) rfl rfl ?_
          refine L_call (args := #[.agg #[.int .i64 x7.kind, u23_0, u23_1, .int .i64 x7.bound, u23_2], v2]) rfl Try.call57 (ops2 rfl rfl) (s_l6Holds_c (r_ := x7) (cells := cells) (Nat.le_trans hB hx.size) (rel0 hu23_0) (rel0 hu23_1) (rel0 hu23_2) (rel0 h2) hx10) ?_
          rintro _ w24 ⟨rfl, he24⟩
          have h2 := RP.ext h2 he24
          have hu23_0 := RP.ext hu23_0 he24
          have hu23_1 := RP.ext hu23_1 he24
          have hu23_2 := RP.ext hu23_2 he24
          have hx := ext_trans hx he24
          refine L_pick (v := .bool b12) rfl rfl (congrArg Value.bool (so hb12)) ?_
          refine L_as (v := .bool b12) rfl rfl ?_
          refine L_nil ?_
          show R13 _ _
          rw [hR13]
          exact ⟨rfl, hx⟩
        ·
          rw [ite_f hc21] at hb12
          refine L_pass rfl ?_
          refine L_pass rfl ?_
          refine L_pass rfl ?_
          refine L_pass rfl ?_
          refine L_pass rfl ?_
          refine L_pass rfl ?_
          refine L_pass rfl ?_
          refine L_pick (v := .bool b12) rfl rfl (congrArg Value.bool (so hb12)) ?_
          refine L_as (v := .bool b12) rfl rfl ?_
          refine L_nil ?_
          show R13 _ _
          rw [hR13]
          exact ⟨rfl, hx⟩
    ·
      refine L_pass rfl ?_
      refine L_pass rfl ?_
      refine L_pick (v := .bool (x5 && (decide (rule ≥ 0)))) rfl rfl (and_f hc15) ?_
      refine L_mv (v := .bool (x5 && (decide (rule ≥ 0)))) rfl rfl ?_
      refine L_split (d := 14) (b := (x5 && (decide (rule ≥ 0)))) rfl (fun hc25 => ?_) (fun hc25 => ?_)
      ·
        refine L_mv (v := .int .i64 rule) rfl rfl ?_
        refine L_fa (o' := 1) rfl fa_26_1 rfl rfl ?_
        refine L_ld (v := v0_1) rfl Try.isAgg24 rfl (hb_g3.cell (j := 1) rfl) ?_
        refine L_len (v := v0_1) rfl Try.underlying24 rfl h0_1 ?_
        refine L_lss (m := rule) (n := (m.rules.length : Int)) rfl rfl rfl ?_
        refine L_pick (v := .bool ((x5 && (decide (rule ≥ 0))) && (decide (rule < (m.rules.length : Int))))) rfl rfl (and_t hc25 rfl) ?_
        refine L_mv (v := .bool ((x5 && (decide (rule ≥ 0))) && (decide (rule < (m.rules.length : Int))))) rfl rfl ?_
        refine L_split (d := 21) (b := ((x5 && (decide (rule ≥ 0))) && (decide (rule < (m.rules.length : Int))))) rfl (fun hc26 => ?_) (fun hc26 => ?_)
        ·
          rw [ite_t hc26] at hb12
          obtain ⟨x7, hx7, hb12⟩ := bind_some hb12
          obtain ⟨x10, hx10, hb12⟩ := bind_some hb12
          refine L_fa (o' := 1) rfl fa_26_1 rfl rfl ?_
          refine L_ld (v := v0_1) rfl Try.isAgg24 rfl (hb_g3.cell (j := 1) rfl) ?_
          refine L_mv (v := .int .i64 rule) rfl rfl ?_
          refine L_ix (r := (rRule 3 23)) rfl Try.underlying24 Try.sizeOf36 rfl h0_1 rfl hx7 ?_
          intro g27 o28 cs28 hr28 hat28
          obtain ⟨u28_0, u28_1, u28_2, rfl, hu28_0, hu28_1, hu28_2⟩ := rRule_iff.1 hr28
          refine L_lda (cs := [.int .i64 x7.kind, u28_0, u28_1, .int .i64 x7.bound, u28_2]) rfl Try.isAgg36 Try.sizeOf36 rfl (At.sub hat28 0 5) rfl ?_
          refine L_mv (v := v2) rfl rfl ?_
          refine L_call (args := #[.agg #[.int .i64 x7.kind, u28_0, u28_1, .int .i64 x7.bound, u28_2], v2]) rfl Try.call57 (ops2 rfl rfl) (s_l6Holds_c (r_ := x7) (cells := cells) (Nat.le_trans hB hx.size) (rel0 hu28_0) (rel0 hu28_1) (rel0 hu28_2) (rel0 h2) hx10) ?_
          rintro _ w29 ⟨rfl, he29⟩
          have h2 := RP.ext h2 he29
          have hu28_0 := RP.ext hu28_0 he29
          have hu28_1 := RP.ext hu28_1 he29
          have hu28_2 := RP.ext hu28_2 he29
          have hx := ext_trans hx he29
          refine L_pick (v := .bool b12) rfl rfl (congrArg Value.bool (so hb12)) ?_
          refine L_as (v := .bool b12) rfl rfl ?_
          refine L_nil ?_
          show R13 _ _
          rw [hR13]
          exact ⟨rfl, hx⟩
        ·
          rw [ite_f hc26] at hb12
          refine L_pass rfl ?_
          refine L_pass rfl ?_
          refine L_pass rfl ?_
          refine L_pass rfl ?_
          refine L_pass rfl ?_
          refine L_pass rfl ?_
          refine L_pass rfl ?_
          refine L_pick (v := .bool b12) rfl rfl (congrArg Value.bool (so hb12)) ?_
          refine L_as (v := .bool b12) rfl rfl ?_
          refine L_nil ?_
          show R13 _ _
          rw [hR13]
          exact ⟨rfl, hx⟩
      ·
        refine L_pass rfl ?_
        refine L_pass rfl ?_
        refine L_pass rfl ?_
        refine L_pass rfl ?_
        refine L_pass rfl ?_
        refine L_pick (v := .bool ((x5 && (decide (rule ≥ 0))) && (decide (rule < (m.rules.length : Int))))) rfl rfl (and_f hc25) ?_
        refine L_mv (v := .bool ((x5 && (decide (rule ≥ 0))) && (decide (rule < (m.rules.length : Int))))) rfl rfl ?_
        refine L_split (d := 21) (b := ((x5 && (decide (rule ≥ 0))) && (decide (rule < (m.rules.length : Int))))) rfl (fun hc30 => ?_) (fun hc30 => ?_)
        ·
          rw [ite_t hc30] at hb12
          obtain ⟨x7, hx7, hb12⟩ := bind_some hb12
          obtain ⟨x10, hx10, hb12⟩ := bind_some hb12
          refine L_fa (o' := 1) rfl fa_26_1 rfl rfl ?_
          refine L_ld (v := v0_1) rfl Try.isAgg24 rfl (hb_g3.cell (j := 1) rfl) ?_
          refine L_mv (v := .int .i64 rule) rfl rfl ?_
          refine L_ix (r := (rRule 3 23)) rfl Try.underlying24 Try.sizeOf36 rfl h0_1 rfl hx7 ?_
          intro g31 o32 cs32 hr32 hat32
          obtain ⟨u32_0, u32_1, u32_2, rfl, hu32_0, hu32_1, hu32_2⟩ := rRule_iff.1 hr32
          refine L_lda (cs := [.int .i64 x7.kind, u32_0, u32_1, .int .i64 x7.bound, u32_2]) rfl Try.isAgg36 Try.sizeOf36 rfl (At.sub hat32 0 5) rfl ?_
          refine L_mv (v := v2) rfl rfl ?_
          refine L_call (args := #[.agg #[.int .i64 x7.kind, u32_0, u32_1, .int .i64 x7.bound, u32_2], v2]) rfl Try.call57 (ops2 rfl rfl) (s_l6Holds_c (r_ := x7) (cells := cells) (Nat.le_trans hB hx.size) (rel0 hu32_0) (rel0 hu32_1) (rel0 hu32_2) (rel0 h2) hx10) ?_
          rintro _ w33 ⟨rfl, he33⟩
          have h2 := RP.ext h2 he33
          have hu32_0 := RP.ext hu32_0 he33
          have hu32_1 := RP.ext hu32_1 he33
          have hu32_2 := RP.ext hu32_2 he33
          have hx := ext_trans hx he33
          refine L_pick (v := .bool b12) rfl rfl (congrArg Value.bool (so hb12)) ?_
          refine L_as (v := .bool b12) rfl rfl ?_
          refine L_nil ?_
          show R13 _ _
          rw [hR13]
          exact ⟨rfl, hx⟩
        ·
          rw [ite_f hc30] at hb12
          refine L_pass rfl ?_
          refine L_pass rfl ?_
          refine L_pass rfl ?_
          refine L_pass rfl ?_
          refine L_pass rfl ?_
          refine L_pass rfl ?_
          refine L_pass rfl ?_
          refine L_pick (v := .bool b12) rfl rfl (congrArg Value.bool (so hb12)) ?_
          refine L_as (v := .bool b12) rfl rfl ?_
          refine L_nil ?_
          show R13 _ _
          rw [hR13]
          exact ⟨rfl, hx⟩
  ·
    intro f w_ hR
    rw [hR13] at hR
    obtain ⟨sf6, hx⟩ := hR
    clear hR13
    refine W_ret ?_
    obtain rfl := so hF
    refine ret1 Try.results19 ?_
    exact ⟨sf6, hx⟩

theorem l_FnRuleLess_c {fu : Nat} {code : List UInt8} {v0 : Value} {w : World} {B : Nat} (hB : B ≤ w.heap.size) (h0 : (RP.slice 5 RP.u8).rel B w.heap.size w [v0] code) {r : Bool} (hF : l_FnRuleLess fu code = some r) :
    C Try.prog 5 #[v0] w fun v w' => (v = .bool r) ∧ Ext w w' := by
  unfold l_FnRuleLess at hF
  have hx := ext_refl w
  refine C_enter Try.func5 rfl Try.ntmps5 rfl ?_
  refine W_seq ?_
  refine W_region ?_
  refine L_as (v := .bool false) rfl rfl ?_
  refine L_nil ?_
  refine W_seq ?_
  refine W_seq ?_
  refine W_region ?_
  refine L_mv (v := v0) rfl rfl ?_
  refine L_len (v := v0) rfl Try.underlying22 rfl h0 ?_
  refine L_gtr (m := (code.length : Int)) (n := 1048576) rfl rfl rfl ?_
  refine L_nil ?_
  refine W_cond (b := decide ((code.length : Int) > 1048576)) rfl (fun hc1 => ?_) (fun hc1 => ?_)
  ·
    have hF := (ite_t hc1).symm.trans hF
    refine W_seq ?_
    refine W_region ?_
    refine L_as (v := .bool true) rfl rfl ?_
    refine L_nil ?_
    refine W_ret ?_
    obtain rfl := so hF
    refine ret1 Try.results5 ?_
    exact ⟨rfl, hx⟩
  ·
    have hF := (ite_f hc1).symm.trans hF
    refine W_skip ?_
    refine W_seq ?_
    obtain ⟨hx2, hF⟩ := anyB_some hF
    refine W_region ?_
    refine L_mv (v := v0) rfl rfl ?_
    refine L_call (args := #[v0]) rfl Try.call17 (ops1 rfl) (s_DrawRuleHolds_c (code := code) (Nat.le_trans hB hx.size) (rel0 h0) hx2) ?_
    rintro _ w7 ⟨⟨x2, gd7, ⟨r7_0, r7_1, r7_2, rfl, hr7_0, hr7_1, hr7_2⟩⟩, he7⟩
    have hF := hF x2 gd7
    have h0 := RP.ext h0 he7
    have hx := ext_trans hx he7
    refine L_mv (v := .tuple #[.agg #[r7_0, r7_1], .int .i64 x2.2.1, r7_2]) rfl rfl ?_
    refine L_ex (v := .agg #[r7_0, r7_1]) rfl rfl rfl ?_
    refine L_ex (v := .int .i64 x2.2.1) rfl rfl rfl ?_
    refine L_ex (v := r7_2) rfl rfl rfl ?_
    refine L_al (cs := #[(.slice none 0 0), (.slice none 0 0)]) rfl Try.zeroValue26 rfl ?_
    intro g8 w9 hn9
    have hge_g8 := hn9.geS hx.size
    have hb_g8 := hn9.blk
    have hr7_0 := RP.ext hr7_0 hn9.ext
    have hr7_1 := RP.ext hr7_1 hn9.ext
    have hr7_2 := RP.ext hr7_2 hn9.ext
    have hx := ext_trans hx hn9.ext
    refine L_sta (vs := #[r7_0, r7_1]) rfl Try.sizeOf26 rfl rfl rfl (ones_cons (one_of hr7_0) (ones_cons (one_of hr7_1) ones_nil)) hb_g8 rfl ?_
    intro w10 hp10
    have hr7_0 := hp10.mu.rel hr7_0 (by decide) (Nat.le_trans hB hge_g8)
    have hr7_1 := hp10.mu.rel hr7_1 (by decide) (Nat.le_trans hB hge_g8)
    have hr7_2 := hp10.mu.rel hr7_2 (by decide) (Nat.le_trans hB hge_g8)
    have hx := ext_mut hx hp10.mu hge_g8
    have hb_g8 : Blk w10 g8 26 #[r7_0, r7_1] := hp10.blk
    refine L_as (v := .int .i64 x2.2.1) rfl rfl ?_
    refine L_as (v := r7_2) rfl rfl ?_
    refine L_nil ?_
    refine W_seq ?_
    refine W_seq ?_
    refine W_region ?_
    refine L_fa (o' := 0) rfl fa_26_0 rfl rfl ?_
    refine L_ld (v := r7_0) rfl Try.isAgg23 rfl (hb_g8.cell (j := 0) rfl) ?_
    refine L_len (v := r7_0) rfl Try.underlying23 rfl hr7_0 ?_
    refine L_lss (m := (x2.1.sizes.length : Int)) (n := 2) rfl rfl rfl ?_
    refine L_nil ?_
    refine W_cond (b := decide ((x2.1.sizes.length : Int) < 2)) rfl (fun hc11 => ?_) (fun hc11 => ?_)
    ·
      have hF := (ite_t hc11).symm.trans hF
      refine W_seq ?_
      refine W_region ?_
      refine L_as (v := .bool true) rfl rfl ?_
      refine L_nil ?_
      refine W_ret ?_
      obtain rfl := so hF
      refine ret1 Try.results5 ?_
      exact ⟨rfl, hx⟩
    ·
      have hF := (ite_f hc11).symm.trans hF
      refine W_skip ?_
      refine W_seq ?_
      refine W_region ?_
      refine L_fa (o' := 0) rfl fa_26_0 rfl rfl ?_
      refine L_ld (v := r7_0) rfl Try.isAgg23 rfl (hb_g8.cell (j := 0) rfl) ?_
      refine L_bs rfl (parts2 rfl rfl) (bs_23_2_0_0 (.int .i64 0) (.int .i64 1) rfl rfl) ?_
      intro g32 w33 hn33
      have ho33 : Own RP.int 3 w.heap.size B w33 _ [0, 1] := own_lit rfl hn33 rfl (by decide) hx.size (by intro i z hz; rcases i with _ | _ | i <;> simp at hz <;> subst hz <;> rfl)
      have hr7_0 := RP.ext hr7_0 hn33.ext
      have hr7_2 := RP.ext hr7_2 hn33.ext
      have hx := ext_trans hx hn33.ext
      refine L_bld rfl (parts2 rfl rfl) (bld_36_0_1 (.int .i64 4) ((.slice (some ⟨g32, 0, none⟩) 2 2)) rfl (one_of (Own.rel ho33))) ?_
      refine L_bs rfl (parts2 rfl rfl) (bs_23_2_0_0 (.int .i64 1) (.int .i64 0) rfl rfl) ?_
      intro g34 w35 hn35
      have ho35 : Own RP.int 3 w.heap.size B w35 _ [1, 0] := own_lit rfl hn35 rfl (by decide) hx.size (by intro i z hz; rcases i with _ | _ | i <;> simp at hz <;> subst hz <;> rfl)
      have ap36 := ap_ob ho33 hn35
      have hr7_0 := RP.ext hr7_0 hn35.ext
      have hr7_2 := RP.ext hr7_2 hn35.ext
      have ho33 := Own.ext ho33 hn35.ext
      have hx := ext_trans hx hn35.ext
      refine L_bld rfl (parts2 rfl rfl) (bld_36_0_1 (.int .i64 4) ((.slice (some ⟨g34, 0, none⟩) 2 2)) rfl (one_of (Own.rel ho35))) ?_
      refine L_bs rfl (parts2 rfl rfl) (bs_23_2_0_0 (.int .i64 0) (.int .i64 1) rfl rfl) ?_
      intro g37 w38 hn38
      have ho38 : Own RP.int 3 w.heap.size B w38 _ [0, 1] := own_lit rfl hn38 rfl (by decide) hx.size (by intro i z hz; rcases i with _ | _ | i <;> simp at hz <;> subst hz <;> rfl)
      have ap39 := ap_ob ho33 hn38
      have ap40 := ap_ob ho35 hn38
      have hr7_0 := RP.ext hr7_0 hn38.ext
      have hr7_2 := RP.ext hr7_2 hn38.ext
      have ho33 := Own.ext ho33 hn38.ext
      have ho35 := Own.ext ho35 hn38.ext
      have hx := ext_trans hx hn38.ext
      refine L_bs rfl (parts2 rfl rfl) (bs_23_2_0_0 (.int .i64 (-1)) (.int .i64 1) rfl rfl) ?_
      intro g41 w42 hn42
      have ho42 : Own RP.int 3 w.heap.size B w42 _ [(-1), 1] := own_lit rfl hn42 rfl (by decide) hx.size (by intro i z hz; rcases i with _ | _ | i <;> simp at hz <;> subst hz <;> rfl)
      have ap43 := ap_ob ho33 hn42
      have ap44 := ap_ob ho35 hn42
      have ap45 := ap_ob ho38 hn42
      have hr7_0 := RP.ext hr7_0 hn42.ext
      have hr7_2 := RP.ext hr7_2 hn42.ext
      have ho33 := Own.ext ho33 hn42.ext
      have ho35 := Own.ext ho35 hn42.ext
      have ho38 := Own.ext ho38 hn42.ext
      have hx := ext_trans hx hn42.ext
      refine L_bld rfl (parts4 rfl rfl rfl rfl) (bld_36_0_1_2_3 (.int .i64 1) ((.slice (some ⟨g37, 0, none⟩) 2 2)) ((.slice (some ⟨g41, 0, none⟩) 2 2)) (.int .i64 1) rfl (one_of (Own.rel ho38)) (one_of (Own.rel ho42)) rfl) ?_
      refine L_bs rfl (parts3 rfl rfl rfl) (bs_24_3_5_5_5 (.int .i64 4) ((.slice (some ⟨g32, 0, none⟩) 2 2)) ((.slice none 0 0)) (.int .i64 0) ((.slice none 0 0)) (.int .i64 4) ((.slice (some ⟨g34, 0, none⟩) 2 2)) ((.slice none 0 0)) (.int .i64 0) ((.slice none 0 0)) (.int .i64 1) ((.slice (some ⟨g37, 0, none⟩) 2 2)) ((.slice (some ⟨g41, 0, none⟩) 2 2)) (.int .i64 1) ((.slice none 0 0)) ) ?_
      intro g46 w47 hn47
      have ho47 : Own (rRule 3 23) 36 w.heap.size B w47 _ [({ kind := 4, vars := [0, 1], coefs := [], bound := 0, rows := [] } : Rule), ({ kind := 4, vars := [1, 0], coefs := [], bound := 0, rows := [] } : Rule), ({ kind := 1, vars := [0, 1], coefs := [(-1), 1], bound := 1, rows := [] } : Rule)] := own_lits ([[.int .i64 4, (.slice (some ⟨g32, 0, none⟩) 2 2), (.slice none 0 0), .int .i64 0, (.slice none 0 0)], [.int .i64 4, (.slice (some ⟨g34, 0, none⟩) 2 2), (.slice none 0 0), .int .i64 0, (.slice none 0 0)], [.int .i64 1, (.slice (some ⟨g37, 0, none⟩) 2 2), (.slice (some ⟨g41, 0, none⟩) 2 2), .int .i64 1, (.slice none 0 0)]] : List (List Value)) rfl hn47 rfl (by decide) hx.size ⟨(rRule_iff.2 ⟨_, _, _, rfl, (rel0 (Own.rel ho33)), (rel_nil _ _ _ _ _), (rel_nil _ _ _ _ _)⟩), (rRule_iff.2 ⟨_, _, _, rfl, (rel0 (Own.rel ho35)), (rel_nil _ _ _ _ _), (rel_nil _ _ _ _ _)⟩), (rRule_iff.2 ⟨_, _, _, rfl, (rel0 (Own.rel ho38)), (rel0 (Own.rel ho42)), (rel_nil _ _ _ _ _)⟩), trivial⟩
      have hr7_0 := RP.ext hr7_0 hn47.ext
      have hr7_2 := RP.ext hr7_2 hn47.ext
      have ho33 := Own.ext ho33 hn47.ext
      have ho35 := Own.ext ho35 hn47.ext
      have ho38 := Own.ext ho38 hn47.ext
      have ho42 := Own.ext ho42 hn47.ext
      have hx := ext_trans hx hn47.ext
      refine L_bld rfl (parts2 rfl rfl) (bld_26_0_1 (r7_0) ((.slice (some ⟨g46, 0, none⟩) 3 3)) (one_of hr7_0) (one_of (Own.rel ho47))) ?_
      refine L_al (cs := #[(.slice none 0 0), (.slice none 0 0)]) rfl Try.zeroValue26 rfl ?_
      intro g48 w49 hn49
      have hge_g48 := hn49.geS hx.size
      have hb_g48 := hn49.blk
      have hr7_0 := RP.ext hr7_0 hn49.ext
      have hr7_2 := RP.ext hr7_2 hn49.ext
      have ho47 := Own.ext ho47 hn49.ext
      have hx := ext_trans hx hn49.ext
      refine L_sta (vs := #[r7_0, (.slice (some ⟨g46, 0, none⟩) 3 3)]) rfl Try.sizeOf26 rfl rfl rfl (ones_cons (one_of hr7_0) (ones_cons (one_of (Own.rel ho47)) ones_nil)) hb_g48 rfl ?_
      intro w50 hp50
      have hr7_0 := hp50.mu.rel hr7_0 (by decide) (Nat.le_trans hB hge_g48)
      have hr7_2 := hp50.mu.rel hr7_2 (by decide) (Nat.le_trans hB hge_g48)
      have ho47 := hp50.mu.ownT ho47 (by decide) (by decide) (Nat.le_trans hB hge_g48)
      have hx := ext_mut hx hp50.mu hge_g48
      have hb_g48 : Blk w50 g48 26 #[r7_0, (.slice (some ⟨g46, 0, none⟩) 3 3)] := hp50.blk
      refine L_nil ?_
      refine W_seq ?_
      obtain ⟨x51, hx51, hF⟩ := bind_some hF
      refine W_region ?_
      refine L_lda (cs := [r7_0, (.slice (some ⟨g46, 0, none⟩) 3 3)]) rfl Try.isAgg26 Try.sizeOf26 rfl (Blk.sub hb_g48 0 2) rfl ?_
      refine L_mv (v := r7_2) rfl rfl ?_
      refine L_call (args := #[.agg #[r7_0, (.slice (some ⟨g46, 0, none⟩) 3 3)], .int .i64 0, r7_2]) rfl Try.call18 (ops3 rfl rfl rfl) (i_RuleHolds_c (m := ({ sizes := x2.1.sizes, rules := [({ kind := 4, vars := [0, 1], coefs := [], bound := 0, rows := [] } : Rule), ({ kind := 4, vars := [1, 0], coefs := [], bound := 0, rows := [] } : Rule), ({ kind := 1, vars := [0, 1], coefs := [(-1), 1], bound := 1, rows := [] } : Rule)] } : Model)) (rule := 0) (cells := x2.2.2) (Nat.le_trans hB hx.size) (rel0 hr7_0) (rel0 (Own.rel ho47)) (rel0 hr7_2) hx51) ?_
      rintro _ w53 ⟨rfl, he53⟩
      have hr7_0 := RP.ext hr7_0 he53
      have hr7_2 := RP.ext hr7_2 he53
      have ho47 := Own.ext ho47 he53
      have hb_g48 := Blk.ext hb_g48 he53
      have hx := ext_trans hx he53
      refine L_as (v := .bool x51) rfl rfl ?_
      refine L_nil ?_
      refine W_seq ?_
      obtain ⟨x54, hx54, hF⟩ := bind_some hF
      refine W_region ?_
      refine L_lda (cs := [r7_0, (.slice (some ⟨g46, 0, none⟩) 3 3)]) rfl Try.isAgg26 Try.sizeOf26 rfl (Blk.sub hb_g48 0 2) rfl ?_
      refine L_mv (v := r7_2) rfl rfl ?_
      refine L_call (args := #[.agg #[r7_0, (.slice (some ⟨g46, 0, none⟩) 3 3)], .int .i64 1, r7_2]) rfl Try.call18 (ops3 rfl rfl rfl) (i_RuleHolds_c (m := ({ sizes := x2.1.sizes, rules := [({ kind := 4, vars := [0, 1], coefs := [], bound := 0, rows := [] } : Rule), ({ kind := 4, vars := [1, 0], coefs := [], bound := 0, rows := [] } : Rule), ({ kind := 1, vars := [0, 1], coefs := [(-1), 1], bound := 1, rows := [] } : Rule)] } : Model)) (rule := 1) (cells := x2.2.2) (Nat.le_trans hB hx.size) (rel0 hr7_0) (rel0 (Own.rel ho47)) (rel0 hr7_2) hx54) ?_
      rintro _ w56 ⟨rfl, he56⟩
      have hr7_0 := RP.ext hr7_0 he56
      have hr7_2 := RP.ext hr7_2 he56
      have ho47 := Own.ext ho47 he56
      have hb_g48 := Blk.ext hb_g48 he56
      have hx := ext_trans hx he56
      refine L_as (v := .bool x54) rfl rfl ?_
      refine L_nil ?_
      refine W_seq ?_
      refine W_seq ?_
      obtain ⟨x57, hx57, hF⟩ := bind_some hF
      obtain ⟨b61, hb61, hF⟩ := bind_some hF
      obtain ⟨b64, hb64, hF⟩ := bind_some hF
      obtain ⟨R65, hR65⟩ : ∃ R : Fr → World → Prop, R = fun f w_ => f 5 = r7_2 ∧ f 6 = .pointer (some ⟨g48, 0, none⟩) ∧ f 7 = .bool x51 ∧ f 8 = .bool x54 ∧ f 56 = .bool b64 ∧ (RP.slice 3 RP.int).rel B w_.heap.size w_ [r7_2] x2.2.2 ∧ (RP.slice 3 RP.int).rel B w_.heap.size w_ [r7_0] x2.1.sizes ∧ Own (rRule 3 23) 36 w.heap.size B w_ (.slice (some ⟨g46, 0, none⟩) 3 3) ([({ kind := 4, vars := [0, 1], coefs := [], bound := 0, rows := [] } : Rule), ({ kind := 4, vars := [1, 0], coefs := [], bound := 0, rows := [] } : Rule), ({ kind := 1, vars := [0, 1], coefs := [(-1), 1], bound := 1, rows := [] } : Rule)]) ∧ Blk w_ g48 26 #[r7_0, (.slice (some ⟨g46, 0, none⟩) 3 3)] ∧ Ext w w_ := ⟨_, rfl⟩
      refine W_join R65 ?_ ?_
      ·
        refine W_region ?_
        refine L_mv (v := .bool x51) rfl rfl ?_
        refine L_lda (cs := [r7_0, (.slice (some ⟨g46, 0, none⟩) 3 3)]) rfl Try.isAgg26 Try.sizeOf26 rfl (Blk.sub hb_g48 0 2) rfl ?_
        refine L_mv (v := r7_2) rfl rfl ?_
        refine L_call (args := #[.agg #[r7_0, (.slice (some ⟨g46, 0, none⟩) 3 3)], .int .i64 0, r7_2]) rfl Try.call19 (ops3 rfl rfl rfl) (s_RuleHolds_c (m := ({ sizes := x2.1.sizes, rules := [({ kind := 4, vars := [0, 1], coefs := [], bound := 0, rows := [] } : Rule), ({ kind := 4, vars := [1, 0], coefs := [], bound := 0, rows := [] } : Rule), ({ kind := 1, vars := [0, 1], coefs := [(-1), 1], bound := 1, rows := [] } : Rule)] } : Model)) (rule := 0) (cells := x2.2.2) (Nat.le_trans hB hx.size) (rel0 hr7_0) (rel0 (Own.rel ho47)) (rel0 hr7_2) hx57) ?_
        rintro _ w66 ⟨rfl, he66⟩
        have hr7_0 := RP.ext hr7_0 he66
        have hr7_2 := RP.ext hr7_2 he66
        have ho47 := Own.ext ho47 he66
        have hb_g48 := Blk.ext hb_g48 he66
        have hx := ext_trans hx he66
        refine L_bneq (b := x51) (c := x57) rfl Try.underlying4 rfl rfl ?_
        refine L_mv (v := .bool (x51 != x57)) rfl rfl ?_
        refine L_split (d := 44) (b := (x51 != x57)) rfl (fun hc67 => ?_) (fun hc67 => ?_)
        ·
          rw [ite_t hc67] at hb61
          refine L_pass rfl ?_
          refine L_pass rfl ?_
          refine L_pass rfl ?_
          refine L_pass rfl ?_
          refine L_pass rfl ?_
          refine L_pick (v := .bool b61) rfl rfl (congrArg Value.bool (so hb61)) ?_
          refine L_mv (v := .bool b61) rfl rfl ?_
          refine L_split (d := 51) (b := b61) rfl (fun hc68 => ?_) (fun hc68 => ?_)
          ·
            rw [ite_t hc68] at hb64
            refine L_pass rfl ?_
            refine L_pass rfl ?_
            refine L_pass rfl ?_
            refine L_pass rfl ?_
            refine L_pick (v := .bool b64) rfl rfl (congrArg Value.bool (so hb64)) ?_
            refine L_nil ?_
            show R65 _ _
            rw [hR65]
            exact ⟨rfl, rfl, rfl, rfl, rfl, (rel0 hr7_2), (rel0 hr7_0), ho47, hb_g48, hx⟩
          ·
            rw [ite_f hc68] at hb64
            obtain ⟨x62, hx62, hb64⟩ := bind_some hb64
            refine L_lda (cs := [r7_0, (.slice (some ⟨g46, 0, none⟩) 3 3)]) rfl Try.isAgg26 Try.sizeOf26 rfl (Blk.sub hb_g48 0 2) rfl ?_
            refine L_mv (v := r7_2) rfl rfl ?_
            refine L_call (args := #[.agg #[r7_0, (.slice (some ⟨g46, 0, none⟩) 3 3)], r7_2]) rfl Try.call20 (ops2 rfl rfl) (i_CellsValid_c (m := ({ sizes := x2.1.sizes, rules := [({ kind := 4, vars := [0, 1], coefs := [], bound := 0, rows := [] } : Rule), ({ kind := 4, vars := [1, 0], coefs := [], bound := 0, rows := [] } : Rule), ({ kind := 1, vars := [0, 1], coefs := [(-1), 1], bound := 1, rows := [] } : Rule)] } : Model)) (cells := x2.2.2) (Nat.le_trans hB hx.size) (rel0 hr7_0) (rel0 (Own.rel ho47)) (rel0 hr7_2) hx62) ?_
            rintro _ w69 ⟨rfl, he69⟩
            have hr7_0 := RP.ext hr7_0 he69
            have hr7_2 := RP.ext hr7_2 he69
            have ho47 := Own.ext ho47 he69
            have hb_g48 := Blk.ext hb_g48 he69
            have hx := ext_trans hx he69
            refine L_not_ (b := x62) rfl rfl ?_
            refine L_pick (v := .bool b64) rfl rfl (congrArg Value.bool (so hb64)) ?_
            refine L_nil ?_
            show R65 _ _
            rw [hR65]
            exact ⟨rfl, rfl, rfl, rfl, rfl, (rel0 hr7_2), (rel0 hr7_0), ho47, hb_g48, hx⟩
        ·
          rw [ite_f hc67] at hb61
          obtain ⟨x59, hx59, hb61⟩ := bind_some hb61
          refine L_mv (v := .bool x54) rfl rfl ?_
          refine L_lda (cs := [r7_0, (.slice (some ⟨g46, 0, none⟩) 3 3)]) rfl Try.isAgg26 Try.sizeOf26 rfl (Blk.sub hb_g48 0 2) rfl ?_
          refine L_mv (v := r7_2) rfl rfl ?_
          refine L_call (args := #[.agg #[r7_0, (.slice (some ⟨g46, 0, none⟩) 3 3)], .int .i64 1, r7_2]) rfl Try.call19 (ops3 rfl rfl rfl) (s_RuleHolds_c (m := ({ sizes := x2.1.sizes, rules := [({ kind := 4, vars := [0, 1], coefs := [], bound := 0, rows := [] } : Rule), ({ kind := 4, vars := [1, 0], coefs := [], bound := 0, rows := [] } : Rule), ({ kind := 1, vars := [0, 1], coefs := [(-1), 1], bound := 1, rows := [] } : Rule)] } : Model)) (rule := 1) (cells := x2.2.2) (Nat.le_trans hB hx.size) (rel0 hr7_0) (rel0 (Own.rel ho47)) (rel0 hr7_2) hx59) ?_
          rintro _ w70 ⟨rfl, he70⟩
          have hr7_0 := RP.ext hr7_0 he70
          have hr7_2 := RP.ext hr7_2 he70
          have ho47 := Own.ext ho47 he70
          have hb_g48 := Blk.ext hb_g48 he70
          have hx := ext_trans hx he70
          refine L_bneq (b := x54) (c := x59) rfl Try.underlying4 rfl rfl ?_
          refine L_pick (v := .bool b61) rfl rfl (congrArg Value.bool (so hb61)) ?_
          refine L_mv (v := .bool b61) rfl rfl ?_
          refine L_split (d := 51) (b := b61) rfl (fun hc71 => ?_) (fun hc71 => ?_)
          ·
            rw [ite_t hc71] at hb64
            refine L_pass rfl ?_
            refine L_pass rfl ?_
            refine L_pass rfl ?_
            refine L_pass rfl ?_
            refine L_pick (v := .bool b64) rfl rfl (congrArg Value.bool (so hb64)) ?_
            refine L_nil ?_
            show R65 _ _
            rw [hR65]
            exact ⟨rfl, rfl, rfl, rfl, rfl, (rel0 hr7_2), (rel0 hr7_0), ho47, hb_g48, hx⟩
          ·
            rw [ite_f hc71] at hb64
            obtain ⟨x62, hx62, hb64⟩ := bind_some hb64
            refine L_lda (cs := [r7_0, (.slice (some ⟨g46, 0, none⟩) 3 3)]) rfl Try.isAgg26 Try.sizeOf26 rfl (Blk.sub hb_g48 0 2) rfl ?_
            refine L_mv (v := r7_2) rfl rfl ?_
            refine L_call (args := #[.agg #[r7_0, (.slice (some ⟨g46, 0, none⟩) 3 3)], r7_2]) rfl Try.call20 (ops2 rfl rfl) (i_CellsValid_c (m := ({ sizes := x2.1.sizes, rules := [({ kind := 4, vars := [0, 1], coefs := [], bound := 0, rows := [] } : Rule), ({ kind := 4, vars := [1, 0], coefs := [], bound := 0, rows := [] } : Rule), ({ kind := 1, vars := [0, 1], coefs := [(-1), 1], bound := 1, rows := [] } : Rule)] } : Model)) (cells := x2.2.2) (Nat.le_trans hB hx.size) (rel0 hr7_0) (rel0 (Own.rel ho47)) (rel0 hr7_2) hx62) ?_
            rintro _ w72 ⟨rfl, he72⟩
            have hr7_0 := RP.ext hr7_0 he72
            have hr7_2 := RP.ext hr7_2 he72
            have ho47 := Own.ext ho47 he72
            have hb_g48 := Blk.ext hb_g48 he72
            have hx := ext_trans hx he72
            refine L_not_ (b := x62) rfl rfl ?_
            refine L_pick (v := .bool b64) rfl rfl (congrArg Value.bool (so hb64)) ?_
            refine L_nil ?_
            show R65 _ _
            rw [hR65]
            exact ⟨rfl, rfl, rfl, rfl, rfl, (rel0 hr7_2), (rel0 hr7_0), ho47, hb_g48, hx⟩
      ·
        intro f w_ hR
        rw [hR65] at hR
        obtain ⟨sf5, sf6, sf7, sf8, sf56, hr7_2, hr7_0, ho47, hb_g48, hx⟩ := hR
        clear hR65
        refine W_cond (b := b64) sf56 (fun hc73 => ?_) (fun hc73 => ?_)
        ·
          have hF := (ite_t hc73).symm.trans hF
          refine W_seq ?_
          obtain ⟨x74, hx74, hF⟩ := bind_some hF
          obtain ⟨b78, hb78, hF⟩ := bind_some hF
          obtain ⟨R79, hR79⟩ : ∃ R : Fr → World → Prop, R = fun f w_ => f 2 = .bool b78 ∧ Ext w w_ := ⟨_, rfl⟩
          refine W_join R79 ?_ ?_
          ·
            refine W_region ?_
            refine L_mv (v := .bool x51) rfl sf7 ?_
            refine L_lda (cs := [r7_0, (.slice (some ⟨g46, 0, none⟩) 3 3)]) rfl Try.isAgg26 Try.sizeOf26 sf6 (Blk.sub hb_g48 0 2) rfl ?_
            refine L_mv (v := r7_2) rfl sf5 ?_
            refine L_call (args := #[.agg #[r7_0, (.slice (some ⟨g46, 0, none⟩) 3 3)], .int .i64 0, r7_2]) rfl Try.call19 (ops3 rfl rfl rfl) (s_RuleHolds_c (m := ({ sizes := x2.1.sizes, rules := [({ kind := 4, vars := [0, 1], coefs := [], bound := 0, rows := [] } : Rule), ({ kind := 4, vars := [1, 0], coefs := [], bound := 0, rows := [] } : Rule), ({ kind := 1, vars := [0, 1], coefs := [(-1), 1], bound := 1, rows := [] } : Rule)] } : Model)) (rule := 0) (cells := x2.2.2) (Nat.le_trans hB hx.size) (rel0 hr7_0) (rel0 (Own.rel ho47)) (rel0 hr7_2) hx74) ?_
            rintro _ w80 ⟨rfl, he80⟩
            have hr7_2 := RP.ext hr7_2 he80
            have hr7_0 := RP.ext hr7_0 he80
            have ho47 := Own.ext ho47 he80
            have hb_g48 := Blk.ext hb_g48 he80
            have hx := ext_trans hx he80
            refine L_beql (b := x51) (c := x74) rfl Try.underlying4 rfl rfl ?_
            refine L_mv (v := .bool (x51 == x74)) rfl rfl ?_
            refine L_split (d := 62) (b := (x51 == x74)) rfl (fun hc81 => ?_) (fun hc81 => ?_)
            ·
              rw [ite_t hc81] at hb78
              obtain ⟨x76, hx76, hb78⟩ := bind_some hb78
              refine L_mv (v := .bool x54) rfl sf8 ?_
              refine L_lda (cs := [r7_0, (.slice (some ⟨g46, 0, none⟩) 3 3)]) rfl Try.isAgg26 Try.sizeOf26 sf6 (Blk.sub hb_g48 0 2) rfl ?_
              refine L_mv (v := r7_2) rfl sf5 ?_
              refine L_call (args := #[.agg #[r7_0, (.slice (some ⟨g46, 0, none⟩) 3 3)], .int .i64 1, r7_2]) rfl Try.call19 (ops3 rfl rfl rfl) (s_RuleHolds_c (m := ({ sizes := x2.1.sizes, rules := [({ kind := 4, vars := [0, 1], coefs := [], bound := 0, rows := [] } : Rule), ({ kind := 4, vars := [1, 0], coefs := [], bound := 0, rows := [] } : Rule), ({ kind := 1, vars := [0, 1], coefs := [(-1), 1], bound := 1, rows := [] } : Rule)] } : Model)) (rule := 1) (cells := x2.2.2) (Nat.le_trans hB hx.size) (rel0 hr7_0) (rel0 (Own.rel ho47)) (rel0 hr7_2) hx76) ?_
              rintro _ w82 ⟨rfl, he82⟩
              have hr7_2 := RP.ext hr7_2 he82
              have hr7_0 := RP.ext hr7_0 he82
              have ho47 := Own.ext ho47 he82
              have hx := ext_trans hx he82
              refine L_beql (b := x54) (c := x76) rfl Try.underlying4 rfl rfl ?_
              refine L_pick (v := .bool b78) rfl rfl (congrArg Value.bool (so hb78)) ?_
              refine L_as (v := .bool b78) rfl rfl ?_
              refine L_nil ?_
              show R79 _ _
              rw [hR79]
              exact ⟨rfl, hx⟩
            ·
              rw [ite_f hc81] at hb78
              refine L_pass rfl ?_
              refine L_pass rfl ?_
              refine L_pass rfl ?_
              refine L_pass rfl ?_
              refine L_pass rfl ?_
              refine L_pick (v := .bool b78) rfl rfl (congrArg Value.bool (so hb78)) ?_
              refine L_as (v := .bool b78) rfl rfl ?_
              refine L_nil ?_
              show R79 _ _
              rw [hR79]
              exact ⟨rfl, hx⟩
          ·
            intro f w_ hR
            rw [hR79] at hR
            obtain ⟨sf2, hx⟩ := hR
            clear hR79
            refine W_ret ?_
            obtain rfl := so hF
            refine ret1 Try.results5 ?_
            exact ⟨sf2, hx⟩
        ·
          have hF := (ite_f hc73).symm.trans hF
          refine W_skip ?_
          refine W_seq ?_
          obtain ⟨b89, hb89, hF⟩ := bind_some hF
          obtain ⟨b92, hb92, hF⟩ := bind_some hF
          obtain ⟨R94, hR94⟩ : ∃ R : Fr → World → Prop, R = fun f w_ => f 2 = .bool b92 ∧ Ext w w_ := ⟨_, rfl⟩
          refine W_join R94 ?_ ?_
          ·
            rcases Bool.eq_false_or_eq_true x51 with hc95 | hc95
            ·
              rcases Bool.eq_false_or_eq_true (!(x51 && x54)) with hc96 | hc96
              ·
                rw [ite_t hc96] at hb89
                obtain ⟨x83, hx83, hb89⟩ := bind_some hb89
                obtain ⟨x86, hx86, hb89⟩ := bind_some hb89
                rcases Bool.eq_false_or_eq_true x51 with hc97 | hc97
                ·
                  rcases Bool.eq_false_or_eq_true b89 with hc98 | hc98
                  ·
                    rw [ite_t hc98] at hb92
                    obtain ⟨x90, hx90, hb92⟩ := bind_some hb92
                    refine W_drawL 24 [isV (.bool x51), isV (.bool x51), isV (.bool x54), isV (.bool (x51 && x54)), isV (.bool (!(x51 && x54))), isV (.bool (!(x51 && x54))), isV (.bool x51), isV (.bool x51), isV (undef), isV (.bool (x51 || x54)), isV (r7_2), isEl B RP.int x83 0, isV (.int .i64 x83), isV (r7_2), isEl B RP.int x86 0, isV (.int .i64 x86), isV (.bool (x83 != x86)), isV (.bool ((x51 || x54) == (x83 != x86))), isV (.bool b89), isV (.bool b89), isV (.agg #[r7_0, (.slice (some ⟨g46, 0, none⟩) 3 3)]), isV (r7_2), isV (.bool x90), isV (.bool x51)] Try_mix (by kernel_rfl) (am_cons (mono_V _) (am_cons (mono_V _) (am_cons (mono_V _) (am_cons (mono_V _) (am_cons (mono_V _) (am_cons (mono_V _) (am_cons (mono_V _) (am_cons (mono_V _) (am_cons (mono_V _) (am_cons (mono_V _) (am_cons (mono_V _) (am_cons (mono_el _ _ _ _) (am_cons (mono_V _) (am_cons (mono_V _) (am_cons (mono_el _ _ _ _) (am_cons (mono_V _) (am_cons (mono_V _) (am_cons (mono_V _) (am_cons (mono_V _) (am_cons (mono_V _) (am_cons (mono_V _) (am_cons (mono_V _) (am_cons (mono_V _) (am_cons (mono_V _) am_nil)))))))))))))))))))))))) ?_ (fun f w_ hS93 hE93 hT93 => ?_)
                    ·
                      refine ops_cons (fun f w_ hS93 hE93 hP93 => ?_) ?_
                      ·
                        have hx := ext_trans hx hE93
                        refine L_mv (v := .bool x51) rfl ((hS93 7 rfl).trans sf7) ?_
                        exact L_nil ⟨rfl, (ext_refl _), _, _, rfl, rfl, rfl⟩
                      refine ops_cons (fun f w_ hS93 hE93 hP93 => ?_) ?_
                      ·
                        have hx := ext_trans hx hE93
                        refine L_mv (v := .bool x51) rfl (hP93 0 69 rfl rfl) ?_
                        exact L_nil ⟨rfl, (ext_refl _), _, _, rfl, rfl, rfl⟩
                      refine ops_cons (fun f w_ hS93 hE93 hP93 => ?_) ?_
                      ·
                        have hx := ext_trans hx hE93
                        refine L_mv (v := .bool x54) (g_yes rfl (Eq.trans (hP93 1 70 rfl rfl) (congrArg Value.bool hc95)) rfl) ((hS93 8 rfl).trans sf8) ?_
                        exact L_nil ⟨rfl, (ext_refl _), _, _, rfl, rfl, rfl⟩
                      refine ops_cons (fun f w_ hS93 hE93 hP93 => ?_) ?_
                      ·
                        have hx := ext_trans hx hE93
                        refine L_pick (v := .bool (x51 && x54)) rfl (Eq.trans (hP93 1 70 rfl rfl) (congrArg Value.bool hc95)) (and_t hc95 (hP93 2 71 rfl rfl)) ?_
                        exact L_nil ⟨rfl, (ext_refl _), _, _, rfl, rfl, rfl⟩
                      refine ops_cons (fun f w_ hS93 hE93 hP93 => ?_) ?_
                      ·
                        have hx := ext_trans hx hE93
                        refine L_not_ (b := (x51 && x54)) rfl (hP93 3 72 rfl rfl) ?_
                        exact L_nil ⟨rfl, (ext_refl _), _, _, rfl, rfl, rfl⟩
                      refine ops_cons (fun f w_ hS93 hE93 hP93 => ?_) ?_
                      ·
                        have hx := ext_trans hx hE93
                        refine L_mv (v := .bool (!(x51 && x54))) rfl (hP93 4 73 rfl rfl) ?_
                        exact L_nil ⟨rfl, (ext_refl _), _, _, rfl, rfl, rfl⟩
                      refine ops_cons (fun f w_ hS93 hE93 hP93 => ?_) ?_
                      ·
                        have hx := ext_trans hx hE93
                        refine L_mv (v := .bool x51) (g_yes rfl (Eq.trans (hP93 5 74 rfl rfl) (congrArg Value.bool hc96)) rfl) ((hS93 7 rfl).trans sf7) ?_
                        exact L_nil ⟨rfl, (ext_refl _), _, _, rfl, rfl, rfl⟩
                      refine ops_cons (fun f w_ hS93 hE93 hP93 => ?_) ?_
                      ·
                        have hx := ext_trans hx hE93
                        refine L_mv (v := .bool x51) (g_yes rfl (Eq.trans (hP93 5 74 rfl rfl) (congrArg Value.bool hc96)) rfl) (hP93 6 75 rfl rfl) ?_
                        exact L_nil ⟨rfl, (ext_refl _), _, _, rfl, rfl, rfl⟩
                      refine ops_cons (fun f w_ hS93 hE93 hP93 => ?_) ?_
                      ·
                        have hx := ext_trans hx hE93
                        refine L_pass (g_no rfl (Eq.trans (hP93 7 76 rfl rfl) (congrArg Value.bool hc97)) rfl rfl) ?_
                        exact L_nil ⟨rfl, (ext_refl _), _, _, rfl, rfl, rfl⟩
                      refine ops_cons (fun f w_ hS93 hE93 hP93 => ?_) ?_
                      ·
                        have hx := ext_trans hx hE93
                        refine L_pick (v := .bool (x51 || x54)) (g_yes rfl (Eq.trans (hP93 5 74 rfl rfl) (congrArg Value.bool hc96)) rfl) (Eq.trans (hP93 7 76 rfl rfl) (congrArg Value.bool hc97)) (or_t hc97) ?_
                        exact L_nil ⟨rfl, (ext_refl _), _, _, rfl, rfl, rfl⟩
                      refine ops_cons (fun f w_ hS93 hE93 hP93 => ?_) ?_
                      ·
                        have hx := ext_trans hx hE93
                        have hr7_2 := RP.ext hr7_2 hE93
                        refine L_mv (v := r7_2) (g_yes rfl (Eq.trans (hP93 5 74 rfl rfl) (congrArg Value.bool hc96)) rfl) ((hS93 5 rfl).trans sf5) ?_
                        exact L_nil ⟨rfl, (ext_refl _), _, _, rfl, rfl, rfl⟩
                      refine ops_cons (fun f w_ hS93 hE93 hP93 => ?_) ?_
                      ·
                        have hx := ext_trans hx hE93
                        have hr7_2 := RP.ext hr7_2 hE93
                        refine L_ix (r := RP.int) (g_yes rfl (Eq.trans (hP93 5 74 rfl rfl) (congrArg Value.bool hc96)) rfl) Try.underlying23 Try.sizeOf3 (hP93 10 79 rfl rfl) hr7_2 rfl hx83 ?_
                        intro g104 o105 cs105 hr105 hat105
                        obtain rfl : _ = [_] := hr105
                        exact L_nil ⟨rfl, (ext_refl _), _, _, rfl, rfl, ⟨_, _, _, rfl, rfl, hat105⟩⟩
                      refine ops_cons (fun f w_ hS93 hE93 hP93 => ?_) ?_
                      ·
                        have hx := ext_trans hx hE93
                        obtain ⟨g106, o106, cs106, hv106, hr106, hat106⟩ := (hP93 11 80 rfl rfl)
                        obtain rfl : _ = [_] := hr106
                        refine L_ld (v := .int .i64 x83) (g_yes rfl (Eq.trans (hP93 5 74 rfl rfl) (congrArg Value.bool hc96)) rfl) Try.isAgg3 hv106 (hat106.cell (j := 0) rfl) ?_
                        exact L_nil ⟨rfl, (ext_refl _), _, _, rfl, rfl, rfl⟩
                      refine ops_cons (fun f w_ hS93 hE93 hP93 => ?_) ?_
                      ·
                        have hx := ext_trans hx hE93
                        have hr7_2 := RP.ext hr7_2 hE93
                        refine L_mv (v := r7_2) (g_yes rfl (Eq.trans (hP93 5 74 rfl rfl) (congrArg Value.bool hc96)) rfl) ((hS93 5 rfl).trans sf5) ?_
                        exact L_nil ⟨rfl, (ext_refl _), _, _, rfl, rfl, rfl⟩
                      refine ops_cons (fun f w_ hS93 hE93 hP93 => ?_) ?_
                      ·
                        have hx := ext_trans hx hE93
                        have hr7_2 := RP.ext hr7_2 hE93
                        refine L_ix (r := RP.int) (g_yes rfl (Eq.trans (hP93 5 74 rfl rfl) (congrArg Value.bool hc96)) rfl) Try.underlying23 Try.sizeOf3 (hP93 13 82 rfl rfl) hr7_2 rfl hx86 ?_
                        intro g107 o108 cs108 hr108 hat108
                        obtain rfl : _ = [_] := hr108
                        exact L_nil ⟨rfl, (ext_refl _), _, _, rfl, rfl, ⟨_, _, _, rfl, rfl, hat108⟩⟩
                      refine ops_cons (fun f w_ hS93 hE93 hP93 => ?_) ?_
                      ·
                        have hx := ext_trans hx hE93
                        obtain ⟨g109, o109, cs109, hv109, hr109, hat109⟩ := (hP93 14 83 rfl rfl)
                        obtain rfl : _ = [_] := hr109
                        refine L_ld (v := .int .i64 x86) (g_yes rfl (Eq.trans (hP93 5 74 rfl rfl) (congrArg Value.bool hc96)) rfl) Try.isAgg3 hv109 (hat109.cell (j := 0) rfl) ?_
                        exact L_nil ⟨rfl, (ext_refl _), _, _, rfl, rfl, rfl⟩
                      refine ops_cons (fun f w_ hS93 hE93 hP93 => ?_) ?_
                      ·
                        have hx := ext_trans hx hE93
                        refine L_neq (m := x83) (n := x86) (g_yes rfl (Eq.trans (hP93 5 74 rfl rfl) (congrArg Value.bool hc96)) rfl) (hP93 12 81 rfl rfl) (hP93 15 84 rfl rfl) ?_
                        exact L_nil ⟨rfl, (ext_refl _), _, _, rfl, rfl, rfl⟩
                      refine ops_cons (fun f w_ hS93 hE93 hP93 => ?_) ?_
                      ·
                        have hx := ext_trans hx hE93
                        refine L_beql (b := (x51 || x54)) (c := (x83 != x86)) (g_yes rfl (Eq.trans (hP93 5 74 rfl rfl) (congrArg Value.bool hc96)) rfl) Try.underlying4 (hP93 9 78 rfl rfl) (hP93 16 85 rfl rfl) ?_
                        exact L_nil ⟨rfl, (ext_refl _), _, _, rfl, rfl, rfl⟩
                      refine ops_cons (fun f w_ hS93 hE93 hP93 => ?_) ?_
                      ·
                        have hx := ext_trans hx hE93
                        refine L_pick (v := .bool b89) rfl (Eq.trans (hP93 5 74 rfl rfl) (congrArg Value.bool hc96)) (Eq.trans (hP93 17 86 rfl rfl) (congrArg Value.bool (so hb89))) ?_
                        exact L_nil ⟨rfl, (ext_refl _), _, _, rfl, rfl, rfl⟩
                      refine ops_cons (fun f w_ hS93 hE93 hP93 => ?_) ?_
                      ·
                        have hx := ext_trans hx hE93
                        refine L_mv (v := .bool b89) rfl (hP93 18 87 rfl rfl) ?_
                        exact L_nil ⟨rfl, (ext_refl _), _, _, rfl, rfl, rfl⟩
                      refine ops_cons (fun f w_ hS93 hE93 hP93 => ?_) ?_
                      ·
                        have hx := ext_trans hx hE93
                        have hr7_0 := RP.ext hr7_0 hE93
                        have ho47 := Own.ext ho47 hE93
                        have hb_g48 := Blk.ext hb_g48 hE93
                        refine L_lda (cs := [r7_0, (.slice (some ⟨g46, 0, none⟩) 3 3)]) (g_yes rfl (Eq.trans (hP93 19 88 rfl rfl) (congrArg Value.bool hc98)) rfl) Try.isAgg26 Try.sizeOf26 ((hS93 6 rfl).trans sf6) (Blk.sub hb_g48 0 2) rfl ?_
                        exact L_nil ⟨rfl, (ext_refl _), _, _, rfl, rfl, rfl⟩
                      refine ops_cons (fun f w_ hS93 hE93 hP93 => ?_) ?_
                      ·
                        have hx := ext_trans hx hE93
                        have hr7_2 := RP.ext hr7_2 hE93
                        refine L_mv (v := r7_2) (g_yes rfl (Eq.trans (hP93 19 88 rfl rfl) (congrArg Value.bool hc98)) rfl) ((hS93 5 rfl).trans sf5) ?_
                        exact L_nil ⟨rfl, (ext_refl _), _, _, rfl, rfl, rfl⟩
                      refine ops_cons (fun f w_ hS93 hE93 hP93 => ?_) ?_
                      ·
                        have hx := ext_trans hx hE93
                        have hr7_2 := RP.ext hr7_2 hE93
                        have hr7_0 := RP.ext hr7_0 hE93
                        have ho47 := Own.ext ho47 hE93
                        refine L_call (args := #[.agg #[r7_0, (.slice (some ⟨g46, 0, none⟩) 3 3)], .int .i64 2, r7_2]) (g_yes rfl (Eq.trans (hP93 19 88 rfl rfl) (congrArg Value.bool hc98)) rfl) Try.call18 (ops3 (hP93 20 89 rfl rfl) rfl (hP93 21 90 rfl rfl)) (i_RuleHolds_c (m := ({ sizes := x2.1.sizes, rules := [({ kind := 4, vars := [0, 1], coefs := [], bound := 0, rows := [] } : Rule), ({ kind := 4, vars := [1, 0], coefs := [], bound := 0, rows := [] } : Rule), ({ kind := 1, vars := [0, 1], coefs := [(-1), 1], bound := 1, rows := [] } : Rule)] } : Model)) (rule := 2) (cells := x2.2.2) (Nat.le_trans hB hx.size) (rel0 hr7_0) (rel0 (Own.rel ho47)) (rel0 hr7_2) hx90) ?_
                        rintro _ w110 ⟨rfl, he110⟩
                        have hr7_2 := RP.ext hr7_2 he110
                        have hr7_0 := RP.ext hr7_0 he110
                        have ho47 := Own.ext ho47 he110
                        have hx := ext_trans hx he110
                        exact L_nil ⟨rfl, he110, _, _, rfl, rfl, rfl⟩
                      refine ops_cons (fun f w_ hS93 hE93 hP93 => ?_) ?_
                      ·
                        have hx := ext_trans hx hE93
                        refine L_mv (v := .bool x51) (g_yes rfl (Eq.trans (hP93 19 88 rfl rfl) (congrArg Value.bool hc98)) rfl) ((hS93 7 rfl).trans sf7) ?_
                        exact L_nil ⟨rfl, (ext_refl _), _, _, rfl, rfl, rfl⟩
                      exact ops_nil
                    ·
                      have hr7_2 := RP.ext hr7_2 hE93
                      have hr7_0 := RP.ext hr7_0 hE93
                      have ho47 := Own.ext ho47 hE93
                      have hb_g48 := Blk.ext hb_g48 hE93
                      have hx := ext_trans hx hE93
                      refine L_beql (b := x90) (c := x51) (g_yes rfl (Eq.trans (hT93 19 88 rfl rfl) (congrArg Value.bool hc98)) rfl) Try.underlying4 (hT93 22 91 rfl rfl) (hT93 23 92 rfl rfl) ?_
                      refine L_pick (v := .bool b92) rfl (Eq.trans (hT93 19 88 rfl rfl) (congrArg Value.bool hc98)) (congrArg Value.bool (so hb92)) ?_
                      refine L_as (v := .bool b92) rfl rfl ?_
                      refine L_nil ?_
                      show R94 _ _
                      rw [hR94]
                      exact ⟨rfl, hx⟩
                  ·
                    rw [ite_f hc98] at hb92
                    refine W_drawL 24 [isV (.bool x51), isV (.bool x51), isV (.bool x54), isV (.bool (x51 && x54)), isV (.bool (!(x51 && x54))), isV (.bool (!(x51 && x54))), isV (.bool x51), isV (.bool x51), isV (undef), isV (.bool (x51 || x54)), isV (r7_2), isEl B RP.int x83 0, isV (.int .i64 x83), isV (r7_2), isEl B RP.int x86 0, isV (.int .i64 x86), isV (.bool (x83 != x86)), isV (.bool ((x51 || x54) == (x83 != x86))), isV (.bool b89), isV (.bool b89), isV (undef), isV (undef), isV (undef), isV (undef)] Try_mix (by kernel_rfl) (am_cons (mono_V _) (am_cons (mono_V _) (am_cons (mono_V _) (am_cons (mono_V _) (am_cons (mono_V _) (am_cons (mono_V _) (am_cons (mono_V _) (am_cons (mono_V _) (am_cons (mono_V _) (am_cons (mono_V _) (am_cons (mono_V _) (am_cons (mono_el _ _ _ _) (am_cons (mono_V _) (am_cons (mono_V _) (am_cons (mono_el _ _ _ _) (am_cons (mono_V _) (am_cons (mono_V _) (am_cons (mono_V _) (am_cons (mono_V _) (am_cons (mono_V _) (am_cons (mono_V _) (am_cons (mono_V _) (am_cons (mono_V _) (am_cons (mono_V _) am_nil)))))))))))))))))))))))) ?_ (fun f w_ hS93 hE93 hT93 => ?_)
                    ·
                      refine ops_cons (fun f w_ hS93 hE93 hP93 => ?_) ?_
                      ·
                        have hx := ext_trans hx hE93
                        refine L_mv (v := .bool x51) rfl ((hS93 7 rfl).trans sf7) ?_
                        exact L_nil ⟨rfl, (ext_refl _), _, _, rfl, rfl, rfl⟩
                      refine ops_cons (fun f w_ hS93 hE93 hP93 => ?_) ?_
                      ·
                        have hx := ext_trans hx hE93
                        refine L_mv (v := .bool x51) rfl (hP93 0 69 rfl rfl) ?_
                        exact L_nil ⟨rfl, (ext_refl _), _, _, rfl, rfl, rfl⟩
                      refine ops_cons (fun f w_ hS93 hE93 hP93 => ?_) ?_
                      ·
                        have hx := ext_trans hx hE93
                        refine L_mv (v := .bool x54) (g_yes rfl (Eq.trans (hP93 1 70 rfl rfl) (congrArg Value.bool hc95)) rfl) ((hS93 8 rfl).trans sf8) ?_
                        exact L_nil ⟨rfl, (ext_refl _), _, _, rfl, rfl, rfl⟩
                      refine ops_cons (fun f w_ hS93 hE93 hP93 => ?_) ?_
                      ·
                        have hx := ext_trans hx hE93
                        refine L_pick (v := .bool (x51 && x54)) rfl (Eq.trans (hP93 1 70 rfl rfl) (congrArg Value.bool hc95)) (and_t hc95 (hP93 2 71 rfl rfl)) ?_
                        exact L_nil ⟨rfl, (ext_refl _), _, _, rfl, rfl, rfl⟩
                      refine ops_cons (fun f w_ hS93 hE93 hP93 => ?_) ?_
                      ·
                        have hx := ext_trans hx hE93
                        refine L_not_ (b := (x51 && x54)) rfl (hP93 3 72 rfl rfl) ?_
                        exact L_nil ⟨rfl, (ext_refl _), _, _, rfl, rfl, rfl⟩
                      refine ops_cons (fun f w_ hS93 hE93 hP93 => ?_) ?_
                      ·
                        have hx := ext_trans hx hE93
                        refine L_mv (v := .bool (!(x51 && x54))) rfl (hP93 4 73 rfl rfl) ?_
                        exact L_nil ⟨rfl, (ext_refl _), _, _, rfl, rfl, rfl⟩
                      refine ops_cons (fun f w_ hS93 hE93 hP93 => ?_) ?_
                      ·
                        have hx := ext_trans hx hE93
                        refine L_mv (v := .bool x51) (g_yes rfl (Eq.trans (hP93 5 74 rfl rfl) (congrArg Value.bool hc96)) rfl) ((hS93 7 rfl).trans sf7) ?_
                        exact L_nil ⟨rfl, (ext_refl _), _, _, rfl, rfl, rfl⟩
                      refine ops_cons (fun f w_ hS93 hE93 hP93 => ?_) ?_
                      ·
                        have hx := ext_trans hx hE93
                        refine L_mv (v := .bool x51) (g_yes rfl (Eq.trans (hP93 5 74 rfl rfl) (congrArg Value.bool hc96)) rfl) (hP93 6 75 rfl rfl) ?_
                        exact L_nil ⟨rfl, (ext_refl _), _, _, rfl, rfl, rfl⟩
                      refine ops_cons (fun f w_ hS93 hE93 hP93 => ?_) ?_
                      ·
                        have hx := ext_trans hx hE93
                        refine L_pass (g_no rfl (Eq.trans (hP93 7 76 rfl rfl) (congrArg Value.bool hc97)) rfl rfl) ?_
                        exact L_nil ⟨rfl, (ext_refl _), _, _, rfl, rfl, rfl⟩
                      refine ops_cons (fun f w_ hS93 hE93 hP93 => ?_) ?_
                      ·
                        have hx := ext_trans hx hE93
                        refine L_pick (v := .bool (x51 || x54)) (g_yes rfl (Eq.trans (hP93 5 74 rfl rfl) (congrArg Value.bool hc96)) rfl) (Eq.trans (hP93 7 76 rfl rfl) (congrArg Value.bool hc97)) (or_t hc97) ?_
                        exact L_nil ⟨rfl, (ext_refl _), _, _, rfl, rfl, rfl⟩
                      refine ops_cons (fun f w_ hS93 hE93 hP93 => ?_) ?_
                      ·
                        have hx := ext_trans hx hE93
                        have hr7_2 := RP.ext hr7_2 hE93
                        refine L_mv (v := r7_2) (g_yes rfl (Eq.trans (hP93 5 74 rfl rfl) (congrArg Value.bool hc96)) rfl) ((hS93 5 rfl).trans sf5) ?_
                        exact L_nil ⟨rfl, (ext_refl _), _, _, rfl, rfl, rfl⟩
                      refine ops_cons (fun f w_ hS93 hE93 hP93 => ?_) ?_
                      ·
                        have hx := ext_trans hx hE93
                        have hr7_2 := RP.ext hr7_2 hE93
                        refine L_ix (r := RP.int) (g_yes rfl (Eq.trans (hP93 5 74 rfl rfl) (congrArg Value.bool hc96)) rfl) Try.underlying23 Try.sizeOf3 (hP93 10 79 rfl rfl) hr7_2 rfl hx83 ?_
                        intro g115 o116 cs116 hr116 hat116
                        obtain rfl : _ = [_] := hr116
                        exact L_nil ⟨rfl, (ext_refl _), _, _, rfl, rfl, ⟨_, _, _, rfl, rfl, hat116⟩⟩
                      refine ops_cons (fun f w_ hS93 hE93 hP93 => ?_) ?_
                      ·
                        have hx := ext_trans hx hE93
                        obtain ⟨g117, o117, cs117, hv117, hr117, hat117⟩ := (hP93 11 80 rfl rfl)
                        obtain rfl : _ = [_] := hr117
                        refine L_ld (v := .int .i64 x83) (g_yes rfl (Eq.trans (hP93 5 74 rfl rfl) (congrArg Value.bool hc96)) rfl) Try.isAgg3 hv117 (hat117.cell (j := 0) rfl) ?_
                        exact L_nil ⟨rfl, (ext_refl _), _, _, rfl, rfl, rfl⟩
                      refine ops_cons (fun f w_ hS93 hE93 hP93 => ?_) ?_
                      ·
                        have hx := ext_trans hx hE93
                        have hr7_2 := RP.ext hr7_2 hE93
                        refine L_mv (v := r7_2) (g_yes rfl (Eq.trans (hP93 5 74 rfl rfl) (congrArg Value.bool hc96)) rfl) ((hS93 5 rfl).trans sf5) ?_
                        exact L_nil ⟨rfl, (ext_refl _), _, _, rfl, rfl, rfl⟩
                      refine ops_cons (fun f w_ hS93 hE93 hP93 => ?_) ?_
                      ·
                        have hx := ext_trans hx hE93
                        have hr7_2 := RP.ext hr7_2 hE93
                        refine L_ix (r := RP.int) (g_yes rfl (Eq.trans (hP93 5 74 rfl rfl) (congrArg Value.bool hc96)) rfl) Try.underlying23 Try.sizeOf3 (hP93 13 82 rfl rfl) hr7_2 rfl hx86 ?_
                        intro g118 o119 cs119 hr119 hat119
                        obtain rfl : _ = [_] := hr119
                        exact L_nil ⟨rfl, (ext_refl _), _, _, rfl, rfl, ⟨_, _, _, rfl, rfl, hat119⟩⟩
                      refine ops_cons (fun f w_ hS93 hE93 hP93 => ?_) ?_
                      ·
                        have hx := ext_trans hx hE93
                        obtain ⟨g120, o120, cs120, hv120, hr120, hat120⟩ := (hP93 14 83 rfl rfl)
                        obtain rfl : _ = [_] := hr120
                        refine L_ld (v := .int .i64 x86) (g_yes rfl (Eq.trans (hP93 5 74 rfl rfl) (congrArg Value.bool hc96)) rfl) Try.isAgg3 hv120 (hat120.cell (j := 0) rfl) ?_
                        exact L_nil ⟨rfl, (ext_refl _), _, _, rfl, rfl, rfl⟩
                      refine ops_cons (fun f w_ hS93 hE93 hP93 => ?_) ?_
                      ·
                        have hx := ext_trans hx hE93
                        refine L_neq (m := x83) (n := x86) (g_yes rfl (Eq.trans (hP93 5 74 rfl rfl) (congrArg Value.bool hc96)) rfl) (hP93 12 81 rfl rfl) (hP93 15 84 rfl rfl) ?_
                        exact L_nil ⟨rfl, (ext_refl _), _, _, rfl, rfl, rfl⟩
                      refine ops_cons (fun f w_ hS93 hE93 hP93 => ?_) ?_
                      ·
                        have hx := ext_trans hx hE93
                        refine L_beql (b := (x51 || x54)) (c := (x83 != x86)) (g_yes rfl (Eq.trans (hP93 5 74 rfl rfl) (congrArg Value.bool hc96)) rfl) Try.underlying4 (hP93 9 78 rfl rfl) (hP93 16 85 rfl rfl) ?_
                        exact L_nil ⟨rfl, (ext_refl _), _, _, rfl, rfl, rfl⟩
                      refine ops_cons (fun f w_ hS93 hE93 hP93 => ?_) ?_
                      ·
                        have hx := ext_trans hx hE93
                        refine L_pick (v := .bool b89) rfl (Eq.trans (hP93 5 74 rfl rfl) (congrArg Value.bool hc96)) (Eq.trans (hP93 17 86 rfl rfl) (congrArg Value.bool (so hb89))) ?_
                        exact L_nil ⟨rfl, (ext_refl _), _, _, rfl, rfl, rfl⟩
                      refine ops_cons (fun f w_ hS93 hE93 hP93 => ?_) ?_
                      ·
                        have hx := ext_trans hx hE93
                        refine L_mv (v := .bool b89) rfl (hP93 18 87 rfl rfl) ?_
                        exact L_nil ⟨rfl, (ext_refl _), _, _, rfl, rfl, rfl⟩
                      refine ops_cons (fun f w_ hS93 hE93 hP93 => ?_) ?_
                      ·
                        have hx := ext_trans hx hE93
                        have hr7_0 := RP.ext hr7_0 hE93
                        have ho47 := Own.ext ho47 hE93
                        have hb_g48 := Blk.ext hb_g48 hE93
                        refine L_pass (g_no rfl (Eq.trans (hP93 19 88 rfl rfl) (congrArg Value.bool hc98)) rfl rfl) ?_
                        exact L_nil ⟨rfl, (ext_refl _), _, _, rfl, rfl, rfl⟩
                      refine ops_cons (fun f w_ hS93 hE93 hP93 => ?_) ?_
                      ·
                        have hx := ext_trans hx hE93
                        have hr7_2 := RP.ext hr7_2 hE93
                        refine L_pass (g_no rfl (Eq.trans (hP93 19 88 rfl rfl) (congrArg Value.bool hc98)) rfl rfl) ?_
                        exact L_nil ⟨rfl, (ext_refl _), _, _, rfl, rfl, rfl⟩
                      refine ops_cons (fun f w_ hS93 hE93 hP93 => ?_) ?_
                      ·
                        have hx := ext_trans hx hE93
                        refine L_pass (g_no rfl (Eq.trans (hP93 19 88 rfl rfl) (congrArg Value.bool hc98)) rfl rfl) ?_
                        exact L_nil ⟨rfl, (ext_refl _), _, _, rfl, rfl, rfl⟩
                      refine ops_cons (fun f w_ hS93 hE93 hP93 => ?_) ?_
                      ·
                        have hx := ext_trans hx hE93
                        refine L_pass (g_no rfl (Eq.trans (hP93 19 88 rfl rfl) (congrArg Value.bool hc98)) rfl rfl) ?_
                        exact L_nil ⟨rfl, (ext_refl _), _, _, rfl, rfl, rfl⟩
                      exact ops_nil
                    ·
                      have hr7_2 := RP.ext hr7_2 hE93
                      have hr7_0 := RP.ext hr7_0 hE93
                      have ho47 := Own.ext ho47 hE93
                      have hb_g48 := Blk.ext hb_g48 hE93
                      have hx := ext_trans hx hE93
                      refine L_pass (g_no rfl (Eq.trans (hT93 19 88 rfl rfl) (congrArg Value.bool hc98)) rfl rfl) ?_
                      refine L_pick (v := .bool b92) rfl (Eq.trans (hT93 19 88 rfl rfl) (congrArg Value.bool hc98)) (congrArg Value.bool (so hb92)) ?_
                      refine L_as (v := .bool b92) rfl rfl ?_
                      refine L_nil ?_
                      show R94 _ _
                      rw [hR94]
                      exact ⟨rfl, hx⟩
                ·
                  rcases Bool.eq_false_or_eq_true b89 with hc121 | hc121
                  ·
                    rw [ite_t hc121] at hb92
                    obtain ⟨x90, hx90, hb92⟩ := bind_some hb92
                    refine W_drawL 24 [isV (.bool x51), isV (.bool x51), isV (.bool x54), isV (.bool (x51 && x54)), isV (.bool (!(x51 && x54))), isV (.bool (!(x51 && x54))), isV (.bool x51), isV (.bool x51), isV (.bool x54), isV (.bool (x51 || x54)), isV (r7_2), isEl B RP.int x83 0, isV (.int .i64 x83), isV (r7_2), isEl B RP.int x86 0, isV (.int .i64 x86), isV (.bool (x83 != x86)), isV (.bool ((x51 || x54) == (x83 != x86))), isV (.bool b89), isV (.bool b89), isV (.agg #[r7_0, (.slice (some ⟨g46, 0, none⟩) 3 3)]), isV (r7_2), isV (.bool x90), isV (.bool x51)] Try_mix (by kernel_rfl) (am_cons (mono_V _) (am_cons (mono_V _) (am_cons (mono_V _) (am_cons (mono_V _) (am_cons (mono_V _) (am_cons (mono_V _) (am_cons (mono_V _) (am_cons (mono_V _) (am_cons (mono_V _) (am_cons (mono_V _) (am_cons (mono_V _) (am_cons (mono_el _ _ _ _) (am_cons (mono_V _) (am_cons (mono_V _) (am_cons (mono_el _ _ _ _) (am_cons (mono_V _) (am_cons (mono_V _) (am_cons (mono_V _) (am_cons (mono_V _) (am_cons (mono_V _) (am_cons (mono_V _) (am_cons (mono_V _) (am_cons (mono_V _) (am_cons (mono_V _) am_nil)))))))))))))))))))))))) ?_ (fun f w_ hS93 hE93 hT93 => ?_)
                    ·
                      refine ops_cons (fun f w_ hS93 hE93 hP93 => ?_) ?_
                      ·
                        have hx := ext_trans hx hE93
                        refine L_mv (v := .bool x51) rfl ((hS93 7 rfl).trans sf7) ?_
                        exact L_nil ⟨rfl, (ext_refl _), _, _, rfl, rfl, rfl⟩
                      refine ops_cons (fun f w_ hS93 hE93 hP93 => ?_) ?_
                      ·
                        have hx := ext_trans hx hE93
                        refine L_mv (v := .bool x51) rfl (hP93 0 69 rfl rfl) ?_
                        exact L_nil ⟨rfl, (ext_refl _), _, _, rfl, rfl, rfl⟩
                      refine ops_cons (fun f w_ hS93 hE93 hP93 => ?_) ?_
                      ·
                        have hx := ext_trans hx hE93
                        refine L_mv (v := .bool x54) (g_yes rfl (Eq.trans (hP93 1 70 rfl rfl) (congrArg Value.bool hc95)) rfl) ((hS93 8 rfl).trans sf8) ?_
                        exact L_nil ⟨rfl, (ext_refl _), _, _, rfl, rfl, rfl⟩
                      refine ops_cons (fun f w_ hS93 hE93 hP93 => ?_) ?_
                      ·
                        have hx := ext_trans hx hE93
                        refine L_pick (v := .bool (x51 && x54)) rfl (Eq.trans (hP93 1 70 rfl rfl) (congrArg Value.bool hc95)) (and_t hc95 (hP93 2 71 rfl rfl)) ?_
                        exact L_nil ⟨rfl, (ext_refl _), _, _, rfl, rfl, rfl⟩
                      refine ops_cons (fun f w_ hS93 hE93 hP93 => ?_) ?_
                      ·
                        have hx := ext_trans hx hE93
                        refine L_not_ (b := (x51 && x54)) rfl (hP93 3 72 rfl rfl) ?_
                        exact L_nil ⟨rfl, (ext_refl _), _, _, rfl, rfl, rfl⟩
                      refine ops_cons (fun f w_ hS93 hE93 hP93 => ?_) ?_
                      ·
                        have hx := ext_trans hx hE93
                        refine L_mv (v := .bool (!(x51 && x54))) rfl (hP93 4 73 rfl rfl) ?_
                        exact L_nil ⟨rfl, (ext_refl _), _, _, rfl, rfl, rfl⟩
                      refine ops_cons (fun f w_ hS93 hE93 hP93 => ?_) ?_
                      ·
                        have hx := ext_trans hx hE93
                        refine L_mv (v := .bool x51) (g_yes rfl (Eq.trans (hP93 5 74 rfl rfl) (congrArg Value.bool hc96)) rfl) ((hS93 7 rfl).trans sf7) ?_
                        exact L_nil ⟨rfl, (ext_refl _), _, _, rfl, rfl, rfl⟩
                      refine ops_cons (fun f w_ hS93 hE93 hP93 => ?_) ?_
                      ·
                        have hx := ext_trans hx hE93
                        refine L_mv (v := .bool x51) (g_yes rfl (Eq.trans (hP93 5 74 rfl rfl) (congrArg Value.bool hc96)) rfl) (hP93 6 75 rfl rfl) ?_
                        exact L_nil ⟨rfl, (ext_refl _), _, _, rfl, rfl, rfl⟩
                      refine ops_cons (fun f w_ hS93 hE93 hP93 => ?_) ?_
                      ·
                        have hx := ext_trans hx hE93
                        refine L_mv (v := .bool x54) (g_yes rfl (Eq.trans (hP93 7 76 rfl rfl) (congrArg Value.bool hc97)) rfl) ((hS93 8 rfl).trans sf8) ?_
                        exact L_nil ⟨rfl, (ext_refl _), _, _, rfl, rfl, rfl⟩
                      refine ops_cons (fun f w_ hS93 hE93 hP93 => ?_) ?_
                      ·
                        have hx := ext_trans hx hE93
                        refine L_pick (v := .bool (x51 || x54)) (g_yes rfl (Eq.trans (hP93 5 74 rfl rfl) (congrArg Value.bool hc96)) rfl) (Eq.trans (hP93 7 76 rfl rfl) (congrArg Value.bool hc97)) (or_f hc97 (hP93 8 77 rfl rfl)) ?_
                        exact L_nil ⟨rfl, (ext_refl _), _, _, rfl, rfl, rfl⟩
                      refine ops_cons (fun f w_ hS93 hE93 hP93 => ?_) ?_
                      ·
                        have hx := ext_trans hx hE93
                        have hr7_2 := RP.ext hr7_2 hE93
                        refine L_mv (v := r7_2) (g_yes rfl (Eq.trans (hP93 5 74 rfl rfl) (congrArg Value.bool hc96)) rfl) ((hS93 5 rfl).trans sf5) ?_
                        exact L_nil ⟨rfl, (ext_refl _), _, _, rfl, rfl, rfl⟩
                      refine ops_cons (fun f w_ hS93 hE93 hP93 => ?_) ?_
                      ·
                        have hx := ext_trans hx hE93
                        have hr7_2 := RP.ext hr7_2 hE93
                        refine L_ix (r := RP.int) (g_yes rfl (Eq.trans (hP93 5 74 rfl rfl) (congrArg Value.bool hc96)) rfl) Try.underlying23 Try.sizeOf3 (hP93 10 79 rfl rfl) hr7_2 rfl hx83 ?_
                        intro g127 o128 cs128 hr128 hat128
                        obtain rfl : _ = [_] := hr128
                        exact L_nil ⟨rfl, (ext_refl _), _, _, rfl, rfl, ⟨_, _, _, rfl, rfl, hat128⟩⟩
                      refine ops_cons (fun f w_ hS93 hE93 hP93 => ?_) ?_
                      ·
                        have hx := ext_trans hx hE93
                        obtain ⟨g129, o129, cs129, hv129, hr129, hat129⟩ := (hP93 11 80 rfl rfl)
                        obtain rfl : _ = [_] := hr129
                        refine L_ld (v := .int .i64 x83) (g_yes rfl (Eq.trans (hP93 5 74 rfl rfl) (congrArg Value.bool hc96)) rfl) Try.isAgg3 hv129 (hat129.cell (j := 0) rfl) ?_
                        exact L_nil ⟨rfl, (ext_refl _), _, _, rfl, rfl, rfl⟩
                      refine ops_cons (fun f w_ hS93 hE93 hP93 => ?_) ?_
                      ·
                        have hx := ext_trans hx hE93
                        have hr7_2 := RP.ext hr7_2 hE93
                        refine L_mv (v := r7_2) (g_yes rfl (Eq.trans (hP93 5 74 rfl rfl) (congrArg Value.bool hc96)) rfl) ((hS93 5 rfl).trans sf5) ?_
                        exact L_nil ⟨rfl, (ext_refl _), _, _, rfl, rfl, rfl⟩
                      refine ops_cons (fun f w_ hS93 hE93 hP93 => ?_) ?_
                      ·
                        have hx := ext_trans hx hE93
                        have hr7_2 := RP.ext hr7_2 hE93
                        refine L_ix (r := RP.int) (g_yes rfl (Eq.trans (hP93 5 74 rfl rfl) (congrArg Value.bool hc96)) rfl) Try.underlying23 Try.sizeOf3 (hP93 13 82 rfl rfl) hr7_2 rfl hx86 ?_
                        intro g130 o131 cs131 hr131 hat131
                        obtain rfl : _ = [_] := hr131
                        exact L_nil ⟨rfl, (ext_refl _), _, _, rfl, rfl, ⟨_, _, _, rfl, rfl, hat131⟩⟩
                      refine ops_cons (fun f w_ hS93 hE93 hP93 => ?_) ?_
                      ·
                        have hx := ext_trans hx hE93
                        obtain ⟨g132, o132, cs132, hv132, hr132, hat132⟩ := (hP93 14 83 rfl rfl)
                        obtain rfl : _ = [_] := hr132
                        refine L_ld (v := .int .i64 x86) (g_yes rfl (Eq.trans (hP93 5 74 rfl rfl) (congrArg Value.bool hc96)) rfl) Try.isAgg3 hv132 (hat132.cell (j := 0) rfl) ?_
                        exact L_nil ⟨rfl, (ext_refl _), _, _, rfl, rfl, rfl⟩
                      refine ops_cons (fun f w_ hS93 hE93 hP93 => ?_) ?_
                      ·
                        have hx := ext_trans hx hE93
                        refine L_neq (m := x83) (n := x86) (g_yes rfl (Eq.trans (hP93 5 74 rfl rfl) (congrArg Value.bool hc96)) rfl) (hP93 12 81 rfl rfl) (hP93 15 84 rfl rfl) ?_
                        exact L_nil ⟨rfl, (ext_refl _), _, _, rfl, rfl, rfl⟩
                      refine ops_cons (fun f w_ hS93 hE93 hP93 => ?_) ?_
                      ·
                        have hx := ext_trans hx hE93
                        refine L_beql (b := (x51 || x54)) (c := (x83 != x86)) (g_yes rfl (Eq.trans (hP93 5 74 rfl rfl) (congrArg Value.bool hc96)) rfl) Try.underlying4 (hP93 9 78 rfl rfl) (hP93 16 85 rfl rfl) ?_
                        exact L_nil ⟨rfl, (ext_refl _), _, _, rfl, rfl, rfl⟩
                      refine ops_cons (fun f w_ hS93 hE93 hP93 => ?_) ?_
                      ·
                        have hx := ext_trans hx hE93
                        refine L_pick (v := .bool b89) rfl (Eq.trans (hP93 5 74 rfl rfl) (congrArg Value.bool hc96)) (Eq.trans (hP93 17 86 rfl rfl) (congrArg Value.bool (so hb89))) ?_
                        exact L_nil ⟨rfl, (ext_refl _), _, _, rfl, rfl, rfl⟩
                      refine ops_cons (fun f w_ hS93 hE93 hP93 => ?_) ?_
                      ·
                        have hx := ext_trans hx hE93
                        refine L_mv (v := .bool b89) rfl (hP93 18 87 rfl rfl) ?_
                        exact L_nil ⟨rfl, (ext_refl _), _, _, rfl, rfl, rfl⟩
                      refine ops_cons (fun f w_ hS93 hE93 hP93 => ?_) ?_
                      ·
                        have hx := ext_trans hx hE93
                        have hr7_0 := RP.ext hr7_0 hE93
                        have ho47 := Own.ext ho47 hE93
                        have hb_g48 := Blk.ext hb_g48 hE93
                        refine L_lda (cs := [r7_0, (.slice (some ⟨g46, 0, none⟩) 3 3)]) (g_yes rfl (Eq.trans (hP93 19 88 rfl rfl) (congrArg Value.bool hc121)) rfl) Try.isAgg26 Try.sizeOf26 ((hS93 6 rfl).trans sf6) (Blk.sub hb_g48 0 2) rfl ?_
                        exact L_nil ⟨rfl, (ext_refl _), _, _, rfl, rfl, rfl⟩
                      refine ops_cons (fun f w_ hS93 hE93 hP93 => ?_) ?_
                      ·
                        have hx := ext_trans hx hE93
                        have hr7_2 := RP.ext hr7_2 hE93
                        refine L_mv (v := r7_2) (g_yes rfl (Eq.trans (hP93 19 88 rfl rfl) (congrArg Value.bool hc121)) rfl) ((hS93 5 rfl).trans sf5) ?_
                        exact L_nil ⟨rfl, (ext_refl _), _, _, rfl, rfl, rfl⟩
                      refine ops_cons (fun f w_ hS93 hE93 hP93 => ?_) ?_
                      ·
                        have hx := ext_trans hx hE93
                        have hr7_2 := RP.ext hr7_2 hE93
                        have hr7_0 := RP.ext hr7_0 hE93
                        have ho47 := Own.ext ho47 hE93
                        refine L_call (args := #[.agg #[r7_0, (.slice (some ⟨g46, 0, none⟩) 3 3)], .int .i64 2, r7_2]) (g_yes rfl (Eq.trans (hP93 19 88 rfl rfl) (congrArg Value.bool hc121)) rfl) Try.call18 (ops3 (hP93 20 89 rfl rfl) rfl (hP93 21 90 rfl rfl)) (i_RuleHolds_c (m := ({ sizes := x2.1.sizes, rules := [({ kind := 4, vars := [0, 1], coefs := [], bound := 0, rows := [] } : Rule), ({ kind := 4, vars := [1, 0], coefs := [], bound := 0, rows := [] } : Rule), ({ kind := 1, vars := [0, 1], coefs := [(-1), 1], bound := 1, rows := [] } : Rule)] } : Model)) (rule := 2) (cells := x2.2.2) (Nat.le_trans hB hx.size) (rel0 hr7_0) (rel0 (Own.rel ho47)) (rel0 hr7_2) hx90) ?_
                        rintro _ w133 ⟨rfl, he133⟩
                        have hr7_2 := RP.ext hr7_2 he133
                        have hr7_0 := RP.ext hr7_0 he133
                        have ho47 := Own.ext ho47 he133
                        have hx := ext_trans hx he133
                        exact L_nil ⟨rfl, he133, _, _, rfl, rfl, rfl⟩
                      refine ops_cons (fun f w_ hS93 hE93 hP93 => ?_) ?_
                      ·
                        have hx := ext_trans hx hE93
                        refine L_mv (v := .bool x51) (g_yes rfl (Eq.trans (hP93 19 88 rfl rfl) (congrArg Value.bool hc121)) rfl) ((hS93 7 rfl).trans sf7) ?_
                        exact L_nil ⟨rfl, (ext_refl _), _, _, rfl, rfl, rfl⟩
                      exact ops_nil
                    ·
                      have hr7_2 := RP.ext hr7_2 hE93
                      have hr7_0 := RP.ext hr7_0 hE93
                      have ho47 := Own.ext ho47 hE93
                      have hb_g48 := Blk.ext hb_g48 hE93
                      have hx := ext_trans hx hE93
                      refine L_beql (b := x90) (c := x51) (g_yes rfl (Eq.trans (hT93 19 88 rfl rfl) (congrArg Value.bool hc121)) rfl) Try.underlying4 (hT93 22 91 rfl rfl) (hT93 23 92 rfl rfl) ?_
                      refine L_pick (v := .bool b92) rfl (Eq.trans (hT93 19 88 rfl rfl) (congrArg Value.bool hc121)) (congrArg Value.bool (so hb92)) ?_
                      refine L_as (v := .bool b92) rfl rfl ?_
                      refine L_nil ?_
                      show R94 _ _
                      rw [hR94]
                      exact ⟨rfl, hx⟩
                  ·
                    rw [ite_f hc121] at hb92
                    refine W_drawL 24 [isV (.bool x51), isV (.bool x51), isV (.bool x54), isV (.bool (x51 && x54)), isV (.bool (!(x51 && x54))), isV (.bool (!(x51 && x54))), isV (.bool x51), isV (.bool x51), isV (.bool x54), isV (.bool (x51 || x54)), isV (r7_2), isEl B RP.int x83 0, isV (.int .i64 x83), isV (r7_2), isEl B RP.int x86 0, isV (.int .i64 x86), isV (.bool (x83 != x86)), isV (.bool ((x51 || x54) == (x83 != x86))), isV (.bool b89), isV (.bool b89), isV (undef), isV (undef), isV (undef), isV (undef)] Try_mix (by kernel_rfl) (am_cons (mono_V _) (am_cons (mono_V _) (am_cons (mono_V _) (am_cons (mono_V _) (am_cons (mono_V _) (am_cons (mono_V _) (am_cons (mono_V _) (am_cons (mono_V _) (am_cons (mono_V _) (am_cons (mono_V _) (am_cons (mono_V _) (am_cons (mono_el _ _ _ _) (am_cons (mono_V _) (am_cons (mono_V _) (am_cons (mono_el _ _ _ _) (am_cons (mono_V _) (am_cons (mono_V _) (am_cons (mono_V _) (am_cons (mono_V _) (am_cons (mono_V _) (am_cons (mono_V _) (am_cons (mono_V _) (am_cons (mono_V _) (am_cons (mono_V _) am_nil)))))))))))))))))))))))) ?_ (fun f w_ hS93 hE93 hT93 => ?_)
                    ·
                      refine ops_cons (fun f w_ hS93 hE93 hP93 => ?_) ?_
                      ·
                        have hx := ext_trans hx hE93
                        refine L_mv (v := .bool x51) rfl ((hS93 7 rfl).trans sf7) ?_
                        exact L_nil ⟨rfl, (ext_refl _), _, _, rfl, rfl, rfl⟩
                      refine ops_cons (fun f w_ hS93 hE93 hP93 => ?_) ?_
                      ·
                        have hx := ext_trans hx hE93
                        refine L_mv (v := .bool x51) rfl (hP93 0 69 rfl rfl) ?_
                        exact L_nil ⟨rfl, (ext_refl _), _, _, rfl, rfl, rfl⟩
                      refine ops_cons (fun f w_ hS93 hE93 hP93 => ?_) ?_
                      ·
                        have hx := ext_trans hx hE93
                        refine L_mv (v := .bool x54) (g_yes rfl (Eq.trans (hP93 1 70 rfl rfl) (congrArg Value.bool hc95)) rfl) ((hS93 8 rfl).trans sf8) ?_
                        exact L_nil ⟨rfl, (ext_refl _), _, _, rfl, rfl, rfl⟩
                      refine ops_cons (fun f w_ hS93 hE93 hP93 => ?_) ?_
                      ·
                        have hx := ext_trans hx hE93
                        refine L_pick (v := .bool (x51 && x54)) rfl (Eq.trans (hP93 1 70 rfl rfl) (congrArg Value.bool hc95)) (and_t hc95 (hP93 2 71 rfl rfl)) ?_
                        exact L_nil ⟨rfl, (ext_refl _), _, _, rfl, rfl, rfl⟩
                      refine ops_cons (fun f w_ hS93 hE93 hP93 => ?_) ?_
                      ·
                        have hx := ext_trans hx hE93
                        refine L_not_ (b := (x51 && x54)) rfl (hP93 3 72 rfl rfl) ?_
                        exact L_nil ⟨rfl, (ext_refl _), _, _, rfl, rfl, rfl⟩
                      refine ops_cons (fun f w_ hS93 hE93 hP93 => ?_) ?_
                      ·
                        have hx := ext_trans hx hE93
                        refine L_mv (v := .bool (!(x51 && x54))) rfl (hP93 4 73 rfl rfl) ?_
                        exact L_nil ⟨rfl, (ext_refl _), _, _, rfl, rfl, rfl⟩
                      refine ops_cons (fun f w_ hS93 hE93 hP93 => ?_) ?_
                      ·
                        have hx := ext_trans hx hE93
                        refine L_mv (v := .bool x51) (g_yes rfl (Eq.trans (hP93 5 74 rfl rfl) (congrArg Value.bool hc96)) rfl) ((hS93 7 rfl).trans sf7) ?_
                        exact L_nil ⟨rfl, (ext_refl _), _, _, rfl, rfl, rfl⟩
                      refine ops_cons (fun f w_ hS93 hE93 hP93 => ?_) ?_
                      ·
                        have hx := ext_trans hx hE93
                        refine L_mv (v := .bool x51) (g_yes rfl (Eq.trans (hP93 5 74 rfl rfl) (congrArg Value.bool hc96)) rfl) (hP93 6 75 rfl rfl) ?_
                        exact L_nil ⟨rfl, (ext_refl _), _, _, rfl, rfl, rfl⟩
                      refine ops_cons (fun f w_ hS93 hE93 hP93 => ?_) ?_
                      ·
                        have hx := ext_trans hx hE93
                        refine L_mv (v := .bool x54) (g_yes rfl (Eq.trans (hP93 7 76 rfl rfl) (congrArg Value.bool hc97)) rfl) ((hS93 8 rfl).trans sf8) ?_
                        exact L_nil ⟨rfl, (ext_refl _), _, _, rfl, rfl, rfl⟩
                      refine ops_cons (fun f w_ hS93 hE93 hP93 => ?_) ?_
                      ·
                        have hx := ext_trans hx hE93
                        refine L_pick (v := .bool (x51 || x54)) (g_yes rfl (Eq.trans (hP93 5 74 rfl rfl) (congrArg Value.bool hc96)) rfl) (Eq.trans (hP93 7 76 rfl rfl) (congrArg Value.bool hc97)) (or_f hc97 (hP93 8 77 rfl rfl)) ?_
                        exact L_nil ⟨rfl, (ext_refl _), _, _, rfl, rfl, rfl⟩
                      refine ops_cons (fun f w_ hS93 hE93 hP93 => ?_) ?_
                      ·
                        have hx := ext_trans hx hE93
                        have hr7_2 := RP.ext hr7_2 hE93
                        refine L_mv (v := r7_2) (g_yes rfl (Eq.trans (hP93 5 74 rfl rfl) (congrArg Value.bool hc96)) rfl) ((hS93 5 rfl).trans sf5) ?_
                        exact L_nil ⟨rfl, (ext_refl _), _, _, rfl, rfl, rfl⟩
                      refine ops_cons (fun f w_ hS93 hE93 hP93 => ?_) ?_
                      ·
                        have hx := ext_trans hx hE93
                        have hr7_2 := RP.ext hr7_2 hE93
                        refine L_ix (r := RP.int) (g_yes rfl (Eq.trans (hP93 5 74 rfl rfl) (congrArg Value.bool hc96)) rfl) Try.underlying23 Try.sizeOf3 (hP93 10 79 rfl rfl) hr7_2 rfl hx83 ?_
                        intro g138 o139 cs139 hr139 hat139
                        obtain rfl : _ = [_] := hr139
                        exact L_nil ⟨rfl, (ext_refl _), _, _, rfl, rfl, ⟨_, _, _, rfl, rfl, hat139⟩⟩
                      refine ops_cons (fun f w_ hS93 hE93 hP93 => ?_) ?_
                      ·
                        have hx := ext_trans hx hE93
                        obtain ⟨g140, o140, cs140, hv140, hr140, hat140⟩ := (hP93 11 80 rfl rfl)
                        obtain rfl : _ = [_] := hr140
                        refine L_ld (v := .int .i64 x83) (g_yes rfl (Eq.trans (hP93 5 74 rfl rfl) (congrArg Value.bool hc96)) rfl) Try.isAgg3 hv140 (hat140.cell (j := 0) rfl) ?_
                        exact L_nil ⟨rfl, (ext_refl _), _, _, rfl, rfl, rfl⟩
                      refine ops_cons (fun f w_ hS93 hE93 hP93 => ?_) ?_
                      ·
                        have hx := ext_trans hx hE93
                        have hr7_2 := RP.ext hr7_2 hE93
                        refine L_mv (v := r7_2) (g_yes rfl (Eq.trans (hP93 5 74 rfl rfl) (congrArg Value.bool hc96)) rfl) ((hS93 5 rfl).trans sf5) ?_
                        exact L_nil ⟨rfl, (ext_refl _), _, _, rfl, rfl, rfl⟩
                      refine ops_cons (fun f w_ hS93 hE93 hP93 => ?_) ?_
                      ·
                        have hx := ext_trans hx hE93
                        have hr7_2 := RP.ext hr7_2 hE93
                        refine L_ix (r := RP.int) (g_yes rfl (Eq.trans (hP93 5 74 rfl rfl) (congrArg Value.bool hc96)) rfl) Try.underlying23 Try.sizeOf3 (hP93 13 82 rfl rfl) hr7_2 rfl hx86 ?_
                        intro g141 o142 cs142 hr142 hat142
                        obtain rfl : _ = [_] := hr142
                        exact L_nil ⟨rfl, (ext_refl _), _, _, rfl, rfl, ⟨_, _, _, rfl, rfl, hat142⟩⟩
                      refine ops_cons (fun f w_ hS93 hE93 hP93 => ?_) ?_
                      ·
                        have hx := ext_trans hx hE93
                        obtain ⟨g143, o143, cs143, hv143, hr143, hat143⟩ := (hP93 14 83 rfl rfl)
                        obtain rfl : _ = [_] := hr143
                        refine L_ld (v := .int .i64 x86) (g_yes rfl (Eq.trans (hP93 5 74 rfl rfl) (congrArg Value.bool hc96)) rfl) Try.isAgg3 hv143 (hat143.cell (j := 0) rfl) ?_
                        exact L_nil ⟨rfl, (ext_refl _), _, _, rfl, rfl, rfl⟩
                      refine ops_cons (fun f w_ hS93 hE93 hP93 => ?_) ?_
                      ·
                        have hx := ext_trans hx hE93
                        refine L_neq (m := x83) (n := x86) (g_yes rfl (Eq.trans (hP93 5 74 rfl rfl) (congrArg Value.bool hc96)) rfl) (hP93 12 81 rfl rfl) (hP93 15 84 rfl rfl) ?_
                        exact L_nil ⟨rfl, (ext_refl _), _, _, rfl, rfl, rfl⟩
                      refine ops_cons (fun f w_ hS93 hE93 hP93 => ?_) ?_
                      ·
                        have hx := ext_trans hx hE93
                        refine L_beql (b := (x51 || x54)) (c := (x83 != x86)) (g_yes rfl (Eq.trans (hP93 5 74 rfl rfl) (congrArg Value.bool hc96)) rfl) Try.underlying4 (hP93 9 78 rfl rfl) (hP93 16 85 rfl rfl) ?_
                        exact L_nil ⟨rfl, (ext_refl _), _, _, rfl, rfl, rfl⟩
                      refine ops_cons (fun f w_ hS93 hE93 hP93 => ?_) ?_
                      ·
                        have hx := ext_trans hx hE93
                        refine L_pick (v := .bool b89) rfl (Eq.trans (hP93 5 74 rfl rfl) (congrArg Value.bool hc96)) (Eq.trans (hP93 17 86 rfl rfl) (congrArg Value.bool (so hb89))) ?_
                        exact L_nil ⟨rfl, (ext_refl _), _, _, rfl, rfl, rfl⟩
                      refine ops_cons (fun f w_ hS93 hE93 hP93 => ?_) ?_
                      ·
                        have hx := ext_trans hx hE93
                        refine L_mv (v := .bool b89) rfl (hP93 18 87 rfl rfl) ?_
                        exact L_nil ⟨rfl, (ext_refl _), _, _, rfl, rfl, rfl⟩
                      refine ops_cons (fun f w_ hS93 hE93 hP93 => ?_) ?_
                      ·
                        have hx := ext_trans hx hE93
                        have hr7_0 := RP.ext hr7_0 hE93
                        have ho47 := Own.ext ho47 hE93
                        have hb_g48 := Blk.ext hb_g48 hE93
                        refine L_pass (g_no rfl (Eq.trans (hP93 19 88 rfl rfl) (congrArg Value.bool hc121)) rfl rfl) ?_
                        exact L_nil ⟨rfl, (ext_refl _), _, _, rfl, rfl, rfl⟩
                      refine ops_cons (fun f w_ hS93 hE93 hP93 => ?_) ?_
                      ·
                        have hx := ext_trans hx hE93
                        have hr7_2 := RP.ext hr7_2 hE93
                        refine L_pass (g_no rfl (Eq.trans (hP93 19 88 rfl rfl) (congrArg Value.bool hc121)) rfl rfl) ?_
                        exact L_nil ⟨rfl, (ext_refl _), _, _, rfl, rfl, rfl⟩
                      refine ops_cons (fun f w_ hS93 hE93 hP93 => ?_) ?_
                      ·
                        have hx := ext_trans hx hE93
                        refine L_pass (g_no rfl (Eq.trans (hP93 19 88 rfl rfl) (congrArg Value.bool hc121)) rfl rfl) ?_
                        exact L_nil ⟨rfl, (ext_refl _), _, _, rfl, rfl, rfl⟩
                      refine ops_cons (fun f w_ hS93 hE93 hP93 => ?_) ?_
                      ·
                        have hx := ext_trans hx hE93
                        refine L_pass (g_no rfl (Eq.trans (hP93 19 88 rfl rfl) (congrArg Value.bool hc121)) rfl rfl) ?_
                        exact L_nil ⟨rfl, (ext_refl _), _, _, rfl, rfl, rfl⟩
                      exact ops_nil
                    ·
                      have hr7_2 := RP.ext hr7_2 hE93
                      have hr7_0 := RP.ext hr7_0 hE93
                      have ho47 := Own.ext ho47 hE93
                      have hb_g48 := Blk.ext hb_g48 hE93
                      have hx := ext_trans hx hE93
                      refine L_pass (g_no rfl (Eq.trans (hT93 19 88 rfl rfl) (congrArg Value.bool hc121)) rfl rfl) ?_
                      refine L_pick (v := .bool b92) rfl (Eq.trans (hT93 19 88 rfl rfl) (congrArg Value.bool hc121)) (congrArg Value.bool (so hb92)) ?_
                      refine L_as (v := .bool b92) rfl rfl ?_
                      refine L_nil ?_
                      show R94 _ _
                      rw [hR94]
                      exact ⟨rfl, hx⟩
              ·
                rw [ite_f hc96] at hb89
                rcases Bool.eq_false_or_eq_true b89 with hc144 | hc144
                ·
                  rw [ite_t hc144] at hb92
                  obtain ⟨x90, hx90, hb92⟩ := bind_some hb92
                  refine W_drawL 24 [isV (.bool x51), isV (.bool x51), isV (.bool x54), isV (.bool (x51 && x54)), isV (.bool (!(x51 && x54))), isV (.bool (!(x51 && x54))), isV (undef), isV (undef), isV (undef), isV (undef), isV (undef), isV (undef), isV (undef), isV (undef), isV (undef), isV (undef), isV (undef), isV (undef), isV (.bool b89), isV (.bool b89), isV (.agg #[r7_0, (.slice (some ⟨g46, 0, none⟩) 3 3)]), isV (r7_2), isV (.bool x90), isV (.bool x51)] Try_mix (by kernel_rfl) (am_cons (mono_V _) (am_cons (mono_V _) (am_cons (mono_V _) (am_cons (mono_V _) (am_cons (mono_V _) (am_cons (mono_V _) (am_cons (mono_V _) (am_cons (mono_V _) (am_cons (mono_V _) (am_cons (mono_V _) (am_cons (mono_V _) (am_cons (mono_V _) (am_cons (mono_V _) (am_cons (mono_V _) (am_cons (mono_V _) (am_cons (mono_V _) (am_cons (mono_V _) (am_cons (mono_V _) (am_cons (mono_V _) (am_cons (mono_V _) (am_cons (mono_V _) (am_cons (mono_V _) (am_cons (mono_V _) (am_cons (mono_V _) am_nil)))))))))))))))))))))))) ?_ (fun f w_ hS93 hE93 hT93 => ?_)
                  ·
                    refine ops_cons (fun f w_ hS93 hE93 hP93 => ?_) ?_
                    ·
                      have hx := ext_trans hx hE93
                      refine L_mv (v := .bool x51) rfl ((hS93 7 rfl).trans sf7) ?_
                      exact L_nil ⟨rfl, (ext_refl _), _, _, rfl, rfl, rfl⟩
                    refine ops_cons (fun f w_ hS93 hE93 hP93 => ?_) ?_
                    ·
                      have hx := ext_trans hx hE93
                      refine L_mv (v := .bool x51) rfl (hP93 0 69 rfl rfl) ?_
                      exact L_nil ⟨rfl, (ext_refl _), _, _, rfl, rfl, rfl⟩
                    refine ops_cons (fun f w_ hS93 hE93 hP93 => ?_) ?_
                    ·
                      have hx := ext_trans hx hE93
                      refine L_mv (v := .bool x54) (g_yes rfl (Eq.trans (hP93 1 70 rfl rfl) (congrArg Value.bool hc95)) rfl) ((hS93 8 rfl).trans sf8) ?_
                      exact L_nil ⟨rfl, (ext_refl _), _, _, rfl, rfl, rfl⟩
                    refine ops_cons (fun f w_ hS93 hE93 hP93 => ?_) ?_
                    ·
                      have hx := ext_trans hx hE93
                      refine L_pick (v := .bool (x51 && x54)) rfl (Eq.trans (hP93 1 70 rfl rfl) (congrArg Value.bool hc95)) (and_t hc95 (hP93 2 71 rfl rfl)) ?_
                      exact L_nil ⟨rfl, (ext_refl _), _, _, rfl, rfl, rfl⟩
                    refine ops_cons (fun f w_ hS93 hE93 hP93 => ?_) ?_
                    ·
                      have hx := ext_trans hx hE93
                      refine L_not_ (b := (x51 && x54)) rfl (hP93 3 72 rfl rfl) ?_
                      exact L_nil ⟨rfl, (ext_refl _), _, _, rfl, rfl, rfl⟩
                    refine ops_cons (fun f w_ hS93 hE93 hP93 => ?_) ?_
                    ·
                      have hx := ext_trans hx hE93
                      refine L_mv (v := .bool (!(x51 && x54))) rfl (hP93 4 73 rfl rfl) ?_
                      exact L_nil ⟨rfl, (ext_refl _), _, _, rfl, rfl, rfl⟩
                    refine ops_cons (fun f w_ hS93 hE93 hP93 => ?_) ?_
                    ·
                      have hx := ext_trans hx hE93
                      refine L_pass (g_no rfl (Eq.trans (hP93 5 74 rfl rfl) (congrArg Value.bool hc96)) rfl rfl) ?_
                      exact L_nil ⟨rfl, (ext_refl _), _, _, rfl, rfl, rfl⟩
                    refine ops_cons (fun f w_ hS93 hE93 hP93 => ?_) ?_
                    ·
                      have hx := ext_trans hx hE93
                      refine L_pass (g_no rfl (Eq.trans (hP93 5 74 rfl rfl) (congrArg Value.bool hc96)) rfl rfl) ?_
                      exact L_nil ⟨rfl, (ext_refl _), _, _, rfl, rfl, rfl⟩
                    refine ops_cons (fun f w_ hS93 hE93 hP93 => ?_) ?_
                    ·
                      have hx := ext_trans hx hE93
                      refine L_pass (g_undef rfl (hP93 7 76 rfl rfl) rfl) ?_
                      exact L_nil ⟨rfl, (ext_refl _), _, _, rfl, rfl, rfl⟩
                    refine ops_cons (fun f w_ hS93 hE93 hP93 => ?_) ?_
                    ·
                      have hx := ext_trans hx hE93
                      refine L_pass (g_no rfl (Eq.trans (hP93 5 74 rfl rfl) (congrArg Value.bool hc96)) rfl rfl) ?_
                      exact L_nil ⟨rfl, (ext_refl _), _, _, rfl, rfl, rfl⟩
                    refine ops_cons (fun f w_ hS93 hE93 hP93 => ?_) ?_
                    ·
                      have hx := ext_trans hx hE93
                      have hr7_2 := RP.ext hr7_2 hE93
                      refine L_pass (g_no rfl (Eq.trans (hP93 5 74 rfl rfl) (congrArg Value.bool hc96)) rfl rfl) ?_
                      exact L_nil ⟨rfl, (ext_refl _), _, _, rfl, rfl, rfl⟩
                    refine ops_cons (fun f w_ hS93 hE93 hP93 => ?_) ?_
                    ·
                      have hx := ext_trans hx hE93
                      refine L_pass (g_no rfl (Eq.trans (hP93 5 74 rfl rfl) (congrArg Value.bool hc96)) rfl rfl) ?_
                      exact L_nil ⟨rfl, (ext_refl _), _, _, rfl, rfl, rfl⟩
                    refine ops_cons (fun f w_ hS93 hE93 hP93 => ?_) ?_
                    ·
                      have hx := ext_trans hx hE93
                      refine L_pass (g_no rfl (Eq.trans (hP93 5 74 rfl rfl) (congrArg Value.bool hc96)) rfl rfl) ?_
                      exact L_nil ⟨rfl, (ext_refl _), _, _, rfl, rfl, rfl⟩
                    refine ops_cons (fun f w_ hS93 hE93 hP93 => ?_) ?_
                    ·
                      have hx := ext_trans hx hE93
                      have hr7_2 := RP.ext hr7_2 hE93
                      refine L_pass (g_no rfl (Eq.trans (hP93 5 74 rfl rfl) (congrArg Value.bool hc96)) rfl rfl) ?_
                      exact L_nil ⟨rfl, (ext_refl _), _, _, rfl, rfl, rfl⟩
                    refine ops_cons (fun f w_ hS93 hE93 hP93 => ?_) ?_
                    ·
                      have hx := ext_trans hx hE93
                      refine L_pass (g_no rfl (Eq.trans (hP93 5 74 rfl rfl) (congrArg Value.bool hc96)) rfl rfl) ?_
                      exact L_nil ⟨rfl, (ext_refl _), _, _, rfl, rfl, rfl⟩
                    refine ops_cons (fun f w_ hS93 hE93 hP93 => ?_) ?_
                    ·
                      have hx := ext_trans hx hE93
                      refine L_pass (g_no rfl (Eq.trans (hP93 5 74 rfl rfl) (congrArg Value.bool hc96)) rfl rfl) ?_
                      exact L_nil ⟨rfl, (ext_refl _), _, _, rfl, rfl, rfl⟩
                    refine ops_cons (fun f w_ hS93 hE93 hP93 => ?_) ?_
                    ·
                      have hx := ext_trans hx hE93
                      refine L_pass (g_no rfl (Eq.trans (hP93 5 74 rfl rfl) (congrArg Value.bool hc96)) rfl rfl) ?_
                      exact L_nil ⟨rfl, (ext_refl _), _, _, rfl, rfl, rfl⟩
                    refine ops_cons (fun f w_ hS93 hE93 hP93 => ?_) ?_
                    ·
                      have hx := ext_trans hx hE93
                      refine L_pass (g_no rfl (Eq.trans (hP93 5 74 rfl rfl) (congrArg Value.bool hc96)) rfl rfl) ?_
                      exact L_nil ⟨rfl, (ext_refl _), _, _, rfl, rfl, rfl⟩
                    refine ops_cons (fun f w_ hS93 hE93 hP93 => ?_) ?_
                    ·
                      have hx := ext_trans hx hE93
                      refine L_pick (v := .bool b89) rfl (Eq.trans (hP93 5 74 rfl rfl) (congrArg Value.bool hc96)) (congrArg Value.bool (so hb89)) ?_
                      exact L_nil ⟨rfl, (ext_refl _), _, _, rfl, rfl, rfl⟩
                    refine ops_cons (fun f w_ hS93 hE93 hP93 => ?_) ?_
                    ·
                      have hx := ext_trans hx hE93
                      refine L_mv (v := .bool b89) rfl (hP93 18 87 rfl rfl) ?_
                      exact L_nil ⟨rfl, (ext_refl _), _, _, rfl, rfl, rfl⟩
                    refine ops_cons (fun f w_ hS93 hE93 hP93 => ?_) ?_
                    ·
                      have hx := ext_trans hx hE93
                      have hr7_0 := RP.ext hr7_0 hE93
                      have ho47 := Own.ext ho47 hE93
                      have hb_g48 := Blk.ext hb_g48 hE93
                      refine L_lda (cs := [r7_0, (.slice (some ⟨g46, 0, none⟩) 3 3)]) (g_yes rfl (Eq.trans (hP93 19 88 rfl rfl) (congrArg Value.bool hc144)) rfl) Try.isAgg26 Try.sizeOf26 ((hS93 6 rfl).trans sf6) (Blk.sub hb_g48 0 2) rfl ?_
                      exact L_nil ⟨rfl, (ext_refl _), _, _, rfl, rfl, rfl⟩
                    refine ops_cons (fun f w_ hS93 hE93 hP93 => ?_) ?_
                    ·
                      have hx := ext_trans hx hE93
                      have hr7_2 := RP.ext hr7_2 hE93
                      refine L_mv (v := r7_2) (g_yes rfl (Eq.trans (hP93 19 88 rfl rfl) (congrArg Value.bool hc144)) rfl) ((hS93 5 rfl).trans sf5) ?_
                      exact L_nil ⟨rfl, (ext_refl _), _, _, rfl, rfl, rfl⟩
                    refine ops_cons (fun f w_ hS93 hE93 hP93 => ?_) ?_
                    ·
                      have hx := ext_trans hx hE93
                      have hr7_2 := RP.ext hr7_2 hE93
                      have hr7_0 := RP.ext hr7_0 hE93
                      have ho47 := Own.ext ho47 hE93
                      refine L_call (args := #[.agg #[r7_0, (.slice (some ⟨g46, 0, none⟩) 3 3)], .int .i64 2, r7_2]) (g_yes rfl (Eq.trans (hP93 19 88 rfl rfl) (congrArg Value.bool hc144)) rfl) Try.call18 (ops3 (hP93 20 89 rfl rfl) rfl (hP93 21 90 rfl rfl)) (i_RuleHolds_c (m := ({ sizes := x2.1.sizes, rules := [({ kind := 4, vars := [0, 1], coefs := [], bound := 0, rows := [] } : Rule), ({ kind := 4, vars := [1, 0], coefs := [], bound := 0, rows := [] } : Rule), ({ kind := 1, vars := [0, 1], coefs := [(-1), 1], bound := 1, rows := [] } : Rule)] } : Model)) (rule := 2) (cells := x2.2.2) (Nat.le_trans hB hx.size) (rel0 hr7_0) (rel0 (Own.rel ho47)) (rel0 hr7_2) hx90) ?_
                      rintro _ w146 ⟨rfl, he146⟩
                      have hr7_2 := RP.ext hr7_2 he146
                      have hr7_0 := RP.ext hr7_0 he146
                      have ho47 := Own.ext ho47 he146
                      have hx := ext_trans hx he146
                      exact L_nil ⟨rfl, he146, _, _, rfl, rfl, rfl⟩
                    refine ops_cons (fun f w_ hS93 hE93 hP93 => ?_) ?_
                    ·
                      have hx := ext_trans hx hE93
                      refine L_mv (v := .bool x51) (g_yes rfl (Eq.trans (hP93 19 88 rfl rfl) (congrArg Value.bool hc144)) rfl) ((hS93 7 rfl).trans sf7) ?_
                      exact L_nil ⟨rfl, (ext_refl _), _, _, rfl, rfl, rfl⟩
                    exact ops_nil
                  ·
                    have hr7_2 := RP.ext hr7_2 hE93
                    have hr7_0 := RP.ext hr7_0 hE93
                    have ho47 := Own.ext ho47 hE93
                    have hb_g48 := Blk.ext hb_g48 hE93
                    have hx := ext_trans hx hE93
                    refine L_beql (b := x90) (c := x51) (g_yes rfl (Eq.trans (hT93 19 88 rfl rfl) (congrArg Value.bool hc144)) rfl) Try.underlying4 (hT93 22 91 rfl rfl) (hT93 23 92 rfl rfl) ?_
                    refine L_pick (v := .bool b92) rfl (Eq.trans (hT93 19 88 rfl rfl) (congrArg Value.bool hc144)) (congrArg Value.bool (so hb92)) ?_
                    refine L_as (v := .bool b92) rfl rfl ?_
                    refine L_nil ?_
                    show R94 _ _
                    rw [hR94]
                    exact ⟨rfl, hx⟩
                ·
                  rw [ite_f hc144] at hb92
                  refine W_drawL 24 [isV (.bool x51), isV (.bool x51), isV (.bool x54), isV (.bool (x51 && x54)), isV (.bool (!(x51 && x54))), isV (.bool (!(x51 && x54))), isV (undef), isV (undef), isV (undef), isV (undef), isV (undef), isV (undef), isV (undef), isV (undef), isV (undef), isV (undef), isV (undef), isV (undef), isV (.bool b89), isV (.bool b89), isV (undef), isV (undef), isV (undef), isV (undef)] Try_mix (by kernel_rfl) (am_cons (mono_V _) (am_cons (mono_V _) (am_cons (mono_V _) (am_cons (mono_V _) (am_cons (mono_V _) (am_cons (mono_V _) (am_cons (mono_V _) (am_cons (mono_V _) (am_cons (mono_V _) (am_cons (mono_V _) (am_cons (mono_V _) (am_cons (mono_V _) (am_cons (mono_V _) (am_cons (mono_V _) (am_cons (mono_V _) (am_cons (mono_V _) (am_cons (mono_V _) (am_cons (mono_V _) (am_cons (mono_V _) (am_cons (mono_V _) (am_cons (mono_V _) (am_cons (mono_V _) (am_cons (mono_V _) (am_cons (mono_V _) am_nil)))))))))))))))))))))))) ?_ (fun f w_ hS93 hE93 hT93 => ?_)
                  ·
                    refine ops_cons (fun f w_ hS93 hE93 hP93 => ?_) ?_
                    ·
                      have hx := ext_trans hx hE93
                      refine L_mv (v := .bool x51) rfl ((hS93 7 rfl).trans sf7) ?_
                      exact L_nil ⟨rfl, (ext_refl _), _, _, rfl, rfl, rfl⟩
                    refine ops_cons (fun f w_ hS93 hE93 hP93 => ?_) ?_
                    ·
                      have hx := ext_trans hx hE93
                      refine L_mv (v := .bool x51) rfl (hP93 0 69 rfl rfl) ?_
                      exact L_nil ⟨rfl, (ext_refl _), _, _, rfl, rfl, rfl⟩
                    refine ops_cons (fun f w_ hS93 hE93 hP93 => ?_) ?_
                    ·
                      have hx := ext_trans hx hE93
                      refine L_mv (v := .bool x54) (g_yes rfl (Eq.trans (hP93 1 70 rfl rfl) (congrArg Value.bool hc95)) rfl) ((hS93 8 rfl).trans sf8) ?_
                      exact L_nil ⟨rfl, (ext_refl _), _, _, rfl, rfl, rfl⟩
                    refine ops_cons (fun f w_ hS93 hE93 hP93 => ?_) ?_
                    ·
                      have hx := ext_trans hx hE93
                      refine L_pick (v := .bool (x51 && x54)) rfl (Eq.trans (hP93 1 70 rfl rfl) (congrArg Value.bool hc95)) (and_t hc95 (hP93 2 71 rfl rfl)) ?_
                      exact L_nil ⟨rfl, (ext_refl _), _, _, rfl, rfl, rfl⟩
                    refine ops_cons (fun f w_ hS93 hE93 hP93 => ?_) ?_
                    ·
                      have hx := ext_trans hx hE93
                      refine L_not_ (b := (x51 && x54)) rfl (hP93 3 72 rfl rfl) ?_
                      exact L_nil ⟨rfl, (ext_refl _), _, _, rfl, rfl, rfl⟩
                    refine ops_cons (fun f w_ hS93 hE93 hP93 => ?_) ?_
                    ·
                      have hx := ext_trans hx hE93
                      refine L_mv (v := .bool (!(x51 && x54))) rfl (hP93 4 73 rfl rfl) ?_
                      exact L_nil ⟨rfl, (ext_refl _), _, _, rfl, rfl, rfl⟩
                    refine ops_cons (fun f w_ hS93 hE93 hP93 => ?_) ?_
                    ·
                      have hx := ext_trans hx hE93
                      refine L_pass (g_no rfl (Eq.trans (hP93 5 74 rfl rfl) (congrArg Value.bool hc96)) rfl rfl) ?_
                      exact L_nil ⟨rfl, (ext_refl _), _, _, rfl, rfl, rfl⟩
                    refine ops_cons (fun f w_ hS93 hE93 hP93 => ?_) ?_
                    ·
                      have hx := ext_trans hx hE93
                      refine L_pass (g_no rfl (Eq.trans (hP93 5 74 rfl rfl) (congrArg Value.bool hc96)) rfl rfl) ?_
                      exact L_nil ⟨rfl, (ext_refl _), _, _, rfl, rfl, rfl⟩
                    refine ops_cons (fun f w_ hS93 hE93 hP93 => ?_) ?_
                    ·
                      have hx := ext_trans hx hE93
                      refine L_pass (g_undef rfl (hP93 7 76 rfl rfl) rfl) ?_
                      exact L_nil ⟨rfl, (ext_refl _), _, _, rfl, rfl, rfl⟩
                    refine ops_cons (fun f w_ hS93 hE93 hP93 => ?_) ?_
                    ·
                      have hx := ext_trans hx hE93
                      refine L_pass (g_no rfl (Eq.trans (hP93 5 74 rfl rfl) (congrArg Value.bool hc96)) rfl rfl) ?_
                      exact L_nil ⟨rfl, (ext_refl _), _, _, rfl, rfl, rfl⟩
                    refine ops_cons (fun f w_ hS93 hE93 hP93 => ?_) ?_
                    ·
                      have hx := ext_trans hx hE93
                      have hr7_2 := RP.ext hr7_2 hE93
                      refine L_pass (g_no rfl (Eq.trans (hP93 5 74 rfl rfl) (congrArg Value.bool hc96)) rfl rfl) ?_
                      exact L_nil ⟨rfl, (ext_refl _), _, _, rfl, rfl, rfl⟩
                    refine ops_cons (fun f w_ hS93 hE93 hP93 => ?_) ?_
                    ·
                      have hx := ext_trans hx hE93
                      refine L_pass (g_no rfl (Eq.trans (hP93 5 74 rfl rfl) (congrArg Value.bool hc96)) rfl rfl) ?_
                      exact L_nil ⟨rfl, (ext_refl _), _, _, rfl, rfl, rfl⟩
                    refine ops_cons (fun f w_ hS93 hE93 hP93 => ?_) ?_
                    ·
                      have hx := ext_trans hx hE93
                      refine L_pass (g_no rfl (Eq.trans (hP93 5 74 rfl rfl) (congrArg Value.bool hc96)) rfl rfl) ?_
                      exact L_nil ⟨rfl, (ext_refl _), _, _, rfl, rfl, rfl⟩
                    refine ops_cons (fun f w_ hS93 hE93 hP93 => ?_) ?_
                    ·
                      have hx := ext_trans hx hE93
                      have hr7_2 := RP.ext hr7_2 hE93
                      refine L_pass (g_no rfl (Eq.trans (hP93 5 74 rfl rfl) (congrArg Value.bool hc96)) rfl rfl) ?_
                      exact L_nil ⟨rfl, (ext_refl _), _, _, rfl, rfl, rfl⟩
                    refine ops_cons (fun f w_ hS93 hE93 hP93 => ?_) ?_
                    ·
                      have hx := ext_trans hx hE93
                      refine L_pass (g_no rfl (Eq.trans (hP93 5 74 rfl rfl) (congrArg Value.bool hc96)) rfl rfl) ?_
                      exact L_nil ⟨rfl, (ext_refl _), _, _, rfl, rfl, rfl⟩
                    refine ops_cons (fun f w_ hS93 hE93 hP93 => ?_) ?_
                    ·
                      have hx := ext_trans hx hE93
                      refine L_pass (g_no rfl (Eq.trans (hP93 5 74 rfl rfl) (congrArg Value.bool hc96)) rfl rfl) ?_
                      exact L_nil ⟨rfl, (ext_refl _), _, _, rfl, rfl, rfl⟩
                    refine ops_cons (fun f w_ hS93 hE93 hP93 => ?_) ?_
                    ·
                      have hx := ext_trans hx hE93
                      refine L_pass (g_no rfl (Eq.trans (hP93 5 74 rfl rfl) (congrArg Value.bool hc96)) rfl rfl) ?_
                      exact L_nil ⟨rfl, (ext_refl _), _, _, rfl, rfl, rfl⟩
                    refine ops_cons (fun f w_ hS93 hE93 hP93 => ?_) ?_
                    ·
                      have hx := ext_trans hx hE93
                      refine L_pass (g_no rfl (Eq.trans (hP93 5 74 rfl rfl) (congrArg Value.bool hc96)) rfl rfl) ?_
                      exact L_nil ⟨rfl, (ext_refl _), _, _, rfl, rfl, rfl⟩
                    refine ops_cons (fun f w_ hS93 hE93 hP93 => ?_) ?_
                    ·
                      have hx := ext_trans hx hE93
                      refine L_pick (v := .bool b89) rfl (Eq.trans (hP93 5 74 rfl rfl) (congrArg Value.bool hc96)) (congrArg Value.bool (so hb89)) ?_
                      exact L_nil ⟨rfl, (ext_refl _), _, _, rfl, rfl, rfl⟩
                    refine ops_cons (fun f w_ hS93 hE93 hP93 => ?_) ?_
                    ·
                      have hx := ext_trans hx hE93
                      refine L_mv (v := .bool b89) rfl (hP93 18 87 rfl rfl) ?_
                      exact L_nil ⟨rfl, (ext_refl _), _, _, rfl, rfl, rfl⟩
                    refine ops_cons (fun f w_ hS93 hE93 hP93 => ?_) ?_
                    ·
                      have hx := ext_trans hx hE93
                      have hr7_0 := RP.ext hr7_0 hE93
                      have ho47 := Own.ext ho47 hE93
                      have hb_g48 := Blk.ext hb_g48 hE93
                      refine L_pass (g_no rfl (Eq.trans (hP93 19 88 rfl rfl) (congrArg Value.bool hc144)) rfl rfl) ?_
                      exact L_nil ⟨rfl, (ext_refl _), _, _, rfl, rfl, rfl⟩
                    refine ops_cons (fun f w_ hS93 hE93 hP93 => ?_) ?_
                    ·
                      have hx := ext_trans hx hE93
                      have hr7_2 := RP.ext hr7_2 hE93
                      refine L_pass (g_no rfl (Eq.trans (hP93 19 88 rfl rfl) (congrArg Value.bool hc144)) rfl rfl) ?_
                      exact L_nil ⟨rfl, (ext_refl _), _, _, rfl, rfl, rfl⟩
                    refine ops_cons (fun f w_ hS93 hE93 hP93 => ?_) ?_
                    ·
                      have hx := ext_trans hx hE93
                      refine L_pass (g_no rfl (Eq.trans (hP93 19 88 rfl rfl) (congrArg Value.bool hc144)) rfl rfl) ?_
                      exact L_nil ⟨rfl, (ext_refl _), _, _, rfl, rfl, rfl⟩
                    refine ops_cons (fun f w_ hS93 hE93 hP93 => ?_) ?_
                    ·
                      have hx := ext_trans hx hE93
                      refine L_pass (g_no rfl (Eq.trans (hP93 19 88 rfl rfl) (congrArg Value.bool hc144)) rfl rfl) ?_
                      exact L_nil ⟨rfl, (ext_refl _), _, _, rfl, rfl, rfl⟩
                    exact ops_nil
                  ·
                    have hr7_2 := RP.ext hr7_2 hE93
                    have hr7_0 := RP.ext hr7_0 hE93
                    have ho47 := Own.ext ho47 hE93
                    have hb_g48 := Blk.ext hb_g48 hE93
                    have hx := ext_trans hx hE93
                    refine L_pass (g_no rfl (Eq.trans (hT93 19 88 rfl rfl) (congrArg Value.bool hc144)) rfl rfl) ?_
                    refine L_pick (v := .bool b92) rfl (Eq.trans (hT93 19 88 rfl rfl) (congrArg Value.bool hc144)) (congrArg Value.bool (so hb92)) ?_
                    refine L_as (v := .bool b92) rfl rfl ?_
                    refine L_nil ?_
                    show R94 _ _
                    rw [hR94]
                    exact ⟨rfl, hx⟩
            ·
              rcases Bool.eq_false_or_eq_true (!(x51 && x54)) with hc147 | hc147
              ·
                rw [ite_t hc147] at hb89
                obtain ⟨x83, hx83, hb89⟩ := bind_some hb89
                obtain ⟨x86, hx86, hb89⟩ := bind_some hb89
                rcases Bool.eq_false_or_eq_true x51 with hc148 | hc148
                ·
                  rcases Bool.eq_false_or_eq_true b89 with hc149 | hc149
                  ·
                    rw [ite_t hc149] at hb92
                    obtain ⟨x90, hx90, hb92⟩ := bind_some hb92
                    refine W_drawL 24 [isV (.bool x51), isV (.bool x51), isV (undef), isV (.bool (x51 && x54)), isV (.bool (!(x51 && x54))), isV (.bool (!(x51 && x54))), isV (.bool x51), isV (.bool x51), isV (undef), isV (.bool (x51 || x54)), isV (r7_2), isEl B RP.int x83 0, isV (.int .i64 x83), isV (r7_2), isEl B RP.int x86 0, isV (.int .i64 x86), isV (.bool (x83 != x86)), isV (.bool ((x51 || x54) == (x83 != x86))), isV (.bool b89), isV (.bool b89), isV (.agg #[r7_0, (.slice (some ⟨g46, 0, none⟩) 3 3)]), isV (r7_2), isV (.bool x90), isV (.bool x51)] Try_mix (by kernel_rfl) (am_cons (mono_V _) (am_cons (mono_V _) (am_cons (mono_V _) (am_cons (mono_V _) (am_cons (mono_V _) (am_cons (mono_V _) (am_cons (mono_V _) (am_cons (mono_V _) (am_cons (mono_V _) (am_cons (mono_V _) (am_cons (mono_V _) (am_cons (mono_el _ _ _ _) (am_cons (mono_V _) (am_cons (mono_V _) (am_cons (mono_el _ _ _ _) (am_cons (mono_V _) (am_cons (mono_V _) (am_cons (mono_V _) (am_cons (mono_V _) (am_cons (mono_V _) (am_cons (mono_V _) (am_cons (mono_V _) (am_cons (mono_V _) (am_cons (mono_V _) am_nil)))))))))))))))))))))))) ?_ (fun f w_ hS93 hE93 hT93 => ?_)
                    ·
                      refine ops_cons (fun f w_ hS93 hE93 hP93 => ?_) ?_
                      ·
                        have hx := ext_trans hx hE93
                        refine L_mv (v := .bool x51) rfl ((hS93 7 rfl).trans sf7) ?_
                        exact L_nil ⟨rfl, (ext_refl _), _, _, rfl, rfl, rfl⟩
                      refine ops_cons (fun f w_ hS93 hE93 hP93 => ?_) ?_
                      ·
                        have hx := ext_trans hx hE93
                        refine L_mv (v := .bool x51) rfl (hP93 0 69 rfl rfl) ?_
                        exact L_nil ⟨rfl, (ext_refl _), _, _, rfl, rfl, rfl⟩
                      refine ops_cons (fun f w_ hS93 hE93 hP93 => ?_) ?_
                      ·
                        have hx := ext_trans hx hE93
                        refine L_pass (g_no rfl (Eq.trans (hP93 1 70 rfl rfl) (congrArg Value.bool hc95)) rfl rfl) ?_
                        exact L_nil ⟨rfl, (ext_refl _), _, _, rfl, rfl, rfl⟩
                      refine ops_cons (fun f w_ hS93 hE93 hP93 => ?_) ?_
                      ·
                        have hx := ext_trans hx hE93
                        refine L_pick (v := .bool (x51 && x54)) rfl (Eq.trans (hP93 1 70 rfl rfl) (congrArg Value.bool hc95)) (and_f hc95) ?_
                        exact L_nil ⟨rfl, (ext_refl _), _, _, rfl, rfl, rfl⟩
                      refine ops_cons (fun f w_ hS93 hE93 hP93 => ?_) ?_
                      ·
                        have hx := ext_trans hx hE93
                        refine L_not_ (b := (x51 && x54)) rfl (hP93 3 72 rfl rfl) ?_
                        exact L_nil ⟨rfl, (ext_refl _), _, _, rfl, rfl, rfl⟩
                      refine ops_cons (fun f w_ hS93 hE93 hP93 => ?_) ?_
                      ·
                        have hx := ext_trans hx hE93
                        refine L_mv (v := .bool (!(x51 && x54))) rfl (hP93 4 73 rfl rfl) ?_
                        exact L_nil ⟨rfl, (ext_refl _), _, _, rfl, rfl, rfl⟩
                      refine ops_cons (fun f w_ hS93 hE93 hP93 => ?_) ?_
                      ·
                        have hx := ext_trans hx hE93
                        refine L_mv (v := .bool x51) (g_yes rfl (Eq.trans (hP93 5 74 rfl rfl) (congrArg Value.bool hc147)) rfl) ((hS93 7 rfl).trans sf7) ?_
                        exact L_nil ⟨rfl, (ext_refl _), _, _, rfl, rfl, rfl⟩
                      refine ops_cons (fun f w_ hS93 hE93 hP93 => ?_) ?_
                      ·
                        have hx := ext_trans hx hE93
                        refine L_mv (v := .bool x51) (g_yes rfl (Eq.trans (hP93 5 74 rfl rfl) (congrArg Value.bool hc147)) rfl) (hP93 6 75 rfl rfl) ?_
                        exact L_nil ⟨rfl, (ext_refl _), _, _, rfl, rfl, rfl⟩
                      refine ops_cons (fun f w_ hS93 hE93 hP93 => ?_) ?_
                      ·
                        have hx := ext_trans hx hE93
                        refine L_pass (g_no rfl (Eq.trans (hP93 7 76 rfl rfl) (congrArg Value.bool hc148)) rfl rfl) ?_
                        exact L_nil ⟨rfl, (ext_refl _), _, _, rfl, rfl, rfl⟩
                      refine ops_cons (fun f w_ hS93 hE93 hP93 => ?_) ?_
                      ·
                        have hx := ext_trans hx hE93
                        refine L_pick (v := .bool (x51 || x54)) (g_yes rfl (Eq.trans (hP93 5 74 rfl rfl) (congrArg Value.bool hc147)) rfl) (Eq.trans (hP93 7 76 rfl rfl) (congrArg Value.bool hc148)) (or_t hc148) ?_
                        exact L_nil ⟨rfl, (ext_refl _), _, _, rfl, rfl, rfl⟩
                      refine ops_cons (fun f w_ hS93 hE93 hP93 => ?_) ?_
                      ·
                        have hx := ext_trans hx hE93
                        have hr7_2 := RP.ext hr7_2 hE93
                        refine L_mv (v := r7_2) (g_yes rfl (Eq.trans (hP93 5 74 rfl rfl) (congrArg Value.bool hc147)) rfl) ((hS93 5 rfl).trans sf5) ?_
                        exact L_nil ⟨rfl, (ext_refl _), _, _, rfl, rfl, rfl⟩
                      refine ops_cons (fun f w_ hS93 hE93 hP93 => ?_) ?_
                      ·
                        have hx := ext_trans hx hE93
                        have hr7_2 := RP.ext hr7_2 hE93
                        refine L_ix (r := RP.int) (g_yes rfl (Eq.trans (hP93 5 74 rfl rfl) (congrArg Value.bool hc147)) rfl) Try.underlying23 Try.sizeOf3 (hP93 10 79 rfl rfl) hr7_2 rfl hx83 ?_
                        intro g155 o156 cs156 hr156 hat156
                        obtain rfl : _ = [_] := hr156
                        exact L_nil ⟨rfl, (ext_refl _), _, _, rfl, rfl, ⟨_, _, _, rfl, rfl, hat156⟩⟩
                      refine ops_cons (fun f w_ hS93 hE93 hP93 => ?_) ?_
                      ·
                        have hx := ext_trans hx hE93
                        obtain ⟨g157, o157, cs157, hv157, hr157, hat157⟩ := (hP93 11 80 rfl rfl)
                        obtain rfl : _ = [_] := hr157
                        refine L_ld (v := .int .i64 x83) (g_yes rfl (Eq.trans (hP93 5 74 rfl rfl) (congrArg Value.bool hc147)) rfl) Try.isAgg3 hv157 (hat157.cell (j := 0) rfl) ?_
                        exact L_nil ⟨rfl, (ext_refl _), _, _, rfl, rfl, rfl⟩
                      refine ops_cons (fun f w_ hS93 hE93 hP93 => ?_) ?_
                      ·
                        have hx := ext_trans hx hE93
                        have hr7_2 := RP.ext hr7_2 hE93
                        refine L_mv (v := r7_2) (g_yes rfl (Eq.trans (hP93 5 74 rfl rfl) (congrArg Value.bool hc147)) rfl) ((hS93 5 rfl).trans sf5) ?_
                        exact L_nil ⟨rfl, (ext_refl _), _, _, rfl, rfl, rfl⟩
                      refine ops_cons (fun f w_ hS93 hE93 hP93 => ?_) ?_
                      ·
                        have hx := ext_trans hx hE93
                        have hr7_2 := RP.ext hr7_2 hE93
                        refine L_ix (r := RP.int) (g_yes rfl (Eq.trans (hP93 5 74 rfl rfl) (congrArg Value.bool hc147)) rfl) Try.underlying23 Try.sizeOf3 (hP93 13 82 rfl rfl) hr7_2 rfl hx86 ?_
                        intro g158 o159 cs159 hr159 hat159
                        obtain rfl : _ = [_] := hr159
                        exact L_nil ⟨rfl, (ext_refl _), _, _, rfl, rfl, ⟨_, _, _, rfl, rfl, hat159⟩⟩
                      refine ops_cons (fun f w_ hS93 hE93 hP93 => ?_) ?_
                      ·
                        have hx := ext_trans hx hE93
                        obtain ⟨g160, o160, cs160, hv160, hr160, hat160⟩ := (hP93 14 83 rfl rfl)
                        obtain rfl : _ = [_] := hr160
                        refine L_ld (v := .int .i64 x86) (g_yes rfl (Eq.trans (hP93 5 74 rfl rfl) (congrArg Value.bool hc147)) rfl) Try.isAgg3 hv160 (hat160.cell (j := 0) rfl) ?_
                        exact L_nil ⟨rfl, (ext_refl _), _, _, rfl, rfl, rfl⟩
                      refine ops_cons (fun f w_ hS93 hE93 hP93 => ?_) ?_
                      ·
                        have hx := ext_trans hx hE93
                        refine L_neq (m := x83) (n := x86) (g_yes rfl (Eq.trans (hP93 5 74 rfl rfl) (congrArg Value.bool hc147)) rfl) (hP93 12 81 rfl rfl) (hP93 15 84 rfl rfl) ?_
                        exact L_nil ⟨rfl, (ext_refl _), _, _, rfl, rfl, rfl⟩
                      refine ops_cons (fun f w_ hS93 hE93 hP93 => ?_) ?_
                      ·
                        have hx := ext_trans hx hE93
                        refine L_beql (b := (x51 || x54)) (c := (x83 != x86)) (g_yes rfl (Eq.trans (hP93 5 74 rfl rfl) (congrArg Value.bool hc147)) rfl) Try.underlying4 (hP93 9 78 rfl rfl) (hP93 16 85 rfl rfl) ?_
                        exact L_nil ⟨rfl, (ext_refl _), _, _, rfl, rfl, rfl⟩
                      refine ops_cons (fun f w_ hS93 hE93 hP93 => ?_) ?_
                      ·
                        have hx := ext_trans hx hE93
                        refine L_pick (v := .bool b89) rfl (Eq.trans (hP93 5 74 rfl rfl) (congrArg Value.bool hc147)) (Eq.trans (hP93 17 86 rfl rfl) (congrArg Value.bool (so hb89))) ?_
                        exact L_nil ⟨rfl, (ext_refl _), _, _, rfl, rfl, rfl⟩
                      refine ops_cons (fun f w_ hS93 hE93 hP93 => ?_) ?_
                      ·
                        have hx := ext_trans hx hE93
                        refine L_mv (v := .bool b89) rfl (hP93 18 87 rfl rfl) ?_
                        exact L_nil ⟨rfl, (ext_refl _), _, _, rfl, rfl, rfl⟩
                      refine ops_cons (fun f w_ hS93 hE93 hP93 => ?_) ?_
                      ·
                        have hx := ext_trans hx hE93
                        have hr7_0 := RP.ext hr7_0 hE93
                        have ho47 := Own.ext ho47 hE93
                        have hb_g48 := Blk.ext hb_g48 hE93
                        refine L_lda (cs := [r7_0, (.slice (some ⟨g46, 0, none⟩) 3 3)]) (g_yes rfl (Eq.trans (hP93 19 88 rfl rfl) (congrArg Value.bool hc149)) rfl) Try.isAgg26 Try.sizeOf26 ((hS93 6 rfl).trans sf6) (Blk.sub hb_g48 0 2) rfl ?_
                        exact L_nil ⟨rfl, (ext_refl _), _, _, rfl, rfl, rfl⟩
                      refine ops_cons (fun f w_ hS93 hE93 hP93 => ?_) ?_
                      ·
                        have hx := ext_trans hx hE93
                        have hr7_2 := RP.ext hr7_2 hE93
                        refine L_mv (v := r7_2) (g_yes rfl (Eq.trans (hP93 19 88 rfl rfl) (congrArg Value.bool hc149)) rfl) ((hS93 5 rfl).trans sf5) ?_
                        exact L_nil ⟨rfl, (ext_refl _), _, _, rfl, rfl, rfl⟩
                      refine ops_cons (fun f w_ hS93 hE93 hP93 => ?_) ?_
                      ·
                        have hx := ext_trans hx hE93
                        have hr7_2 := RP.ext hr7_2 hE93
                        have hr7_0 := RP.ext hr7_0 hE93
                        have ho47 := Own.ext ho47 hE93
                        refine L_call (args := #[.agg #[r7_0, (.slice (some ⟨g46, 0, none⟩) 3 3)], .int .i64 2, r7_2]) (g_yes rfl (Eq.trans (hP93 19 88 rfl rfl) (congrArg Value.bool hc149)) rfl) Try.call18 (ops3 (hP93 20 89 rfl rfl) rfl (hP93 21 90 rfl rfl)) (i_RuleHolds_c (m := ({ sizes := x2.1.sizes, rules := [({ kind := 4, vars := [0, 1], coefs := [], bound := 0, rows := [] } : Rule), ({ kind := 4, vars := [1, 0], coefs := [], bound := 0, rows := [] } : Rule), ({ kind := 1, vars := [0, 1], coefs := [(-1), 1], bound := 1, rows := [] } : Rule)] } : Model)) (rule := 2) (cells := x2.2.2) (Nat.le_trans hB hx.size) (rel0 hr7_0) (rel0 (Own.rel ho47)) (rel0 hr7_2) hx90) ?_
                        rintro _ w161 ⟨rfl, he161⟩
                        have hr7_2 := RP.ext hr7_2 he161
                        have hr7_0 := RP.ext hr7_0 he161
                        have ho47 := Own.ext ho47 he161
                        have hx := ext_trans hx he161
                        exact L_nil ⟨rfl, he161, _, _, rfl, rfl, rfl⟩
                      refine ops_cons (fun f w_ hS93 hE93 hP93 => ?_) ?_
                      ·
                        have hx := ext_trans hx hE93
                        refine L_mv (v := .bool x51) (g_yes rfl (Eq.trans (hP93 19 88 rfl rfl) (congrArg Value.bool hc149)) rfl) ((hS93 7 rfl).trans sf7) ?_
                        exact L_nil ⟨rfl, (ext_refl _), _, _, rfl, rfl, rfl⟩
                      exact ops_nil
                    ·
                      have hr7_2 := RP.ext hr7_2 hE93
                      have hr7_0 := RP.ext hr7_0 hE93
                      have ho47 := Own.ext ho47 hE93
                      have hb_g48 := Blk.ext hb_g48 hE93
                      have hx := ext_trans hx hE93
                      refine L_beql (b := x90) (c := x51) (g_yes rfl (Eq.trans (hT93 19 88 rfl rfl) (congrArg Value.bool hc149)) rfl) Try.underlying4 (hT93 22 91 rfl rfl) (hT93 23 92 rfl rfl) ?_
                      refine L_pick (v := .bool b92) rfl (Eq.trans (hT93 19 88 rfl rfl) (congrArg Value.bool hc149)) (congrArg Value.bool (so hb92)) ?_
                      refine L_as (v := .bool b92) rfl rfl ?_
                      refine L_nil ?_
                      show R94 _ _
                      rw [hR94]
                      exact ⟨rfl, hx⟩
                  ·
                    rw [ite_f hc149] at hb92
                    refine W_drawL 24 [isV (.bool x51), isV (.bool x51), isV (undef), isV (.bool (x51 && x54)), isV (.bool (!(x51 && x54))), isV (.bool (!(x51 && x54))), isV (.bool x51), isV (.bool x51), isV (undef), isV (.bool (x51 || x54)), isV (r7_2), isEl B RP.int x83 0, isV (.int .i64 x83), isV (r7_2), isEl B RP.int x86 0, isV (.int .i64 x86), isV (.bool (x83 != x86)), isV (.bool ((x51 || x54) == (x83 != x86))), isV (.bool b89), isV (.bool b89), isV (undef), isV (undef), isV (undef), isV (undef)] Try_mix (by kernel_rfl) (am_cons (mono_V _) (am_cons (mono_V _) (am_cons (mono_V _) (am_cons (mono_V _) (am_cons (mono_V _) (am_cons (mono_V _) (am_cons (mono_V _) (am_cons (mono_V _) (am_cons (mono_V _) (am_cons (mono_V _) (am_cons (mono_V _) (am_cons (mono_el _ _ _ _) (am_cons (mono_V _) (am_cons (mono_V _) (am_cons (mono_el _ _ _ _) (am_cons (mono_V _) (am_cons (mono_V _) (am_cons (mono_V _) (am_cons (mono_V _) (am_cons (mono_V _) (am_cons (mono_V _) (am_cons (mono_V _) (am_cons (mono_V _) (am_cons (mono_V _) am_nil)))))))))))))))))))))))) ?_ (fun f w_ hS93 hE93 hT93 => ?_)
                    ·
                      refine ops_cons (fun f w_ hS93 hE93 hP93 => ?_) ?_
                      ·
                        have hx := ext_trans hx hE93
                        refine L_mv (v := .bool x51) rfl ((hS93 7 rfl).trans sf7) ?_
                        exact L_nil ⟨rfl, (ext_refl _), _, _, rfl, rfl, rfl⟩
                      refine ops_cons (fun f w_ hS93 hE93 hP93 => ?_) ?_
                      ·
                        have hx := ext_trans hx hE93
                        refine L_mv (v := .bool x51) rfl (hP93 0 69 rfl rfl) ?_
                        exact L_nil ⟨rfl, (ext_refl _), _, _, rfl, rfl, rfl⟩
                      refine ops_cons (fun f w_ hS93 hE93 hP93 => ?_) ?_
                      ·
                        have hx := ext_trans hx hE93
                        refine L_pass (g_no rfl (Eq.trans (hP93 1 70 rfl rfl) (congrArg Value.bool hc95)) rfl rfl) ?_
                        exact L_nil ⟨rfl, (ext_refl _), _, _, rfl, rfl, rfl⟩
                      refine ops_cons (fun f w_ hS93 hE93 hP93 => ?_) ?_
                      ·
                        have hx := ext_trans hx hE93
                        refine L_pick (v := .bool (x51 && x54)) rfl (Eq.trans (hP93 1 70 rfl rfl) (congrArg Value.bool hc95)) (and_f hc95) ?_
                        exact L_nil ⟨rfl, (ext_refl _), _, _, rfl, rfl, rfl⟩
                      refine ops_cons (fun f w_ hS93 hE93 hP93 => ?_) ?_
                      ·
                        have hx := ext_trans hx hE93
                        refine L_not_ (b := (x51 && x54)) rfl (hP93 3 72 rfl rfl) ?_
                        exact L_nil ⟨rfl, (ext_refl _), _, _, rfl, rfl, rfl⟩
                      refine ops_cons (fun f w_ hS93 hE93 hP93 => ?_) ?_
                      ·
                        have hx := ext_trans hx hE93
                        refine L_mv (v := .bool (!(x51 && x54))) rfl (hP93 4 73 rfl rfl) ?_
                        exact L_nil ⟨rfl, (ext_refl _), _, _, rfl, rfl, rfl⟩
                      refine ops_cons (fun f w_ hS93 hE93 hP93 => ?_) ?_
                      ·
                        have hx := ext_trans hx hE93
                        refine L_mv (v := .bool x51) (g_yes rfl (Eq.trans (hP93 5 74 rfl rfl) (congrArg Value.bool hc147)) rfl) ((hS93 7 rfl).trans sf7) ?_
                        exact L_nil ⟨rfl, (ext_refl _), _, _, rfl, rfl, rfl⟩
                      refine ops_cons (fun f w_ hS93 hE93 hP93 => ?_) ?_
                      ·
                        have hx := ext_trans hx hE93
                        refine L_mv (v := .bool x51) (g_yes rfl (Eq.trans (hP93 5 74 rfl rfl) (congrArg Value.bool hc147)) rfl) (hP93 6 75 rfl rfl) ?_
                        exact L_nil ⟨rfl, (ext_refl _), _, _, rfl, rfl, rfl⟩
                      refine ops_cons (fun f w_ hS93 hE93 hP93 => ?_) ?_
                      ·
                        have hx := ext_trans hx hE93
                        refine L_pass (g_no rfl (Eq.trans (hP93 7 76 rfl rfl) (congrArg Value.bool hc148)) rfl rfl) ?_
                        exact L_nil ⟨rfl, (ext_refl _), _, _, rfl, rfl, rfl⟩
                      refine ops_cons (fun f w_ hS93 hE93 hP93 => ?_) ?_
                      ·
                        have hx := ext_trans hx hE93
                        refine L_pick (v := .bool (x51 || x54)) (g_yes rfl (Eq.trans (hP93 5 74 rfl rfl) (congrArg Value.bool hc147)) rfl) (Eq.trans (hP93 7 76 rfl rfl) (congrArg Value.bool hc148)) (or_t hc148) ?_
                        exact L_nil ⟨rfl, (ext_refl _), _, _, rfl, rfl, rfl⟩
                      refine ops_cons (fun f w_ hS93 hE93 hP93 => ?_) ?_
                      ·
                        have hx := ext_trans hx hE93
                        have hr7_2 := RP.ext hr7_2 hE93
                        refine L_mv (v := r7_2) (g_yes rfl (Eq.trans (hP93 5 74 rfl rfl) (congrArg Value.bool hc147)) rfl) ((hS93 5 rfl).trans sf5) ?_
                        exact L_nil ⟨rfl, (ext_refl _), _, _, rfl, rfl, rfl⟩
                      refine ops_cons (fun f w_ hS93 hE93 hP93 => ?_) ?_
                      ·
                        have hx := ext_trans hx hE93
                        have hr7_2 := RP.ext hr7_2 hE93
                        refine L_ix (r := RP.int) (g_yes rfl (Eq.trans (hP93 5 74 rfl rfl) (congrArg Value.bool hc147)) rfl) Try.underlying23 Try.sizeOf3 (hP93 10 79 rfl rfl) hr7_2 rfl hx83 ?_
                        intro g166 o167 cs167 hr167 hat167
                        obtain rfl : _ = [_] := hr167
                        exact L_nil ⟨rfl, (ext_refl _), _, _, rfl, rfl, ⟨_, _, _, rfl, rfl, hat167⟩⟩
                      refine ops_cons (fun f w_ hS93 hE93 hP93 => ?_) ?_
                      ·
                        have hx := ext_trans hx hE93
                        obtain ⟨g168, o168, cs168, hv168, hr168, hat168⟩ := (hP93 11 80 rfl rfl)
                        obtain rfl : _ = [_] := hr168
                        refine L_ld (v := .int .i64 x83) (g_yes rfl (Eq.trans (hP93 5 74 rfl rfl) (congrArg Value.bool hc147)) rfl) Try.isAgg3 hv168 (hat168.cell (j := 0) rfl) ?_
                        exact L_nil ⟨rfl, (ext_refl _), _, _, rfl, rfl, rfl⟩
                      refine ops_cons (fun f w_ hS93 hE93 hP93 => ?_) ?_
                      ·
                        have hx := ext_trans hx hE93
                        have hr7_2 := RP.ext hr7_2 hE93
                        refine L_mv (v := r7_2) (g_yes rfl (Eq.trans (hP93 5 74 rfl rfl) (congrArg Value.bool hc147)) rfl) ((hS93 5 rfl).trans sf5) ?_
                        exact L_nil ⟨rfl, (ext_refl _), _, _, rfl, rfl, rfl⟩
                      refine ops_cons (fun f w_ hS93 hE93 hP93 => ?_) ?_
                      ·
                        have hx := ext_trans hx hE93
                        have hr7_2 := RP.ext hr7_2 hE93
                        refine L_ix (r := RP.int) (g_yes rfl (Eq.trans (hP93 5 74 rfl rfl) (congrArg Value.bool hc147)) rfl) Try.underlying23 Try.sizeOf3 (hP93 13 82 rfl rfl) hr7_2 rfl hx86 ?_
                        intro g169 o170 cs170 hr170 hat170
                        obtain rfl : _ = [_] := hr170
                        exact L_nil ⟨rfl, (ext_refl _), _, _, rfl, rfl, ⟨_, _, _, rfl, rfl, hat170⟩⟩
                      refine ops_cons (fun f w_ hS93 hE93 hP93 => ?_) ?_
                      ·
                        have hx := ext_trans hx hE93
                        obtain ⟨g171, o171, cs171, hv171, hr171, hat171⟩ := (hP93 14 83 rfl rfl)
                        obtain rfl : _ = [_] := hr171
                        refine L_ld (v := .int .i64 x86) (g_yes rfl (Eq.trans (hP93 5 74 rfl rfl) (congrArg Value.bool hc147)) rfl) Try.isAgg3 hv171 (hat171.cell (j := 0) rfl) ?_
                        exact L_nil ⟨rfl, (ext_refl _), _, _, rfl, rfl, rfl⟩
                      refine ops_cons (fun f w_ hS93 hE93 hP93 => ?_) ?_
                      ·
                        have hx := ext_trans hx hE93
                        refine L_neq (m := x83) (n := x86) (g_yes rfl (Eq.trans (hP93 5 74 rfl rfl) (congrArg Value.bool hc147)) rfl) (hP93 12 81 rfl rfl) (hP93 15 84 rfl rfl) ?_
                        exact L_nil ⟨rfl, (ext_refl _), _, _, rfl, rfl, rfl⟩
                      refine ops_cons (fun f w_ hS93 hE93 hP93 => ?_) ?_
                      ·
                        have hx := ext_trans hx hE93
                        refine L_beql (b := (x51 || x54)) (c := (x83 != x86)) (g_yes rfl (Eq.trans (hP93 5 74 rfl rfl) (congrArg Value.bool hc147)) rfl) Try.underlying4 (hP93 9 78 rfl rfl) (hP93 16 85 rfl rfl) ?_
                        exact L_nil ⟨rfl, (ext_refl _), _, _, rfl, rfl, rfl⟩
                      refine ops_cons (fun f w_ hS93 hE93 hP93 => ?_) ?_
                      ·
                        have hx := ext_trans hx hE93
                        refine L_pick (v := .bool b89) rfl (Eq.trans (hP93 5 74 rfl rfl) (congrArg Value.bool hc147)) (Eq.trans (hP93 17 86 rfl rfl) (congrArg Value.bool (so hb89))) ?_
                        exact L_nil ⟨rfl, (ext_refl _), _, _, rfl, rfl, rfl⟩
                      refine ops_cons (fun f w_ hS93 hE93 hP93 => ?_) ?_
                      ·
                        have hx := ext_trans hx hE93
                        refine L_mv (v := .bool b89) rfl (hP93 18 87 rfl rfl) ?_
                        exact L_nil ⟨rfl, (ext_refl _), _, _, rfl, rfl, rfl⟩
                      refine ops_cons (fun f w_ hS93 hE93 hP93 => ?_) ?_
                      ·
                        have hx := ext_trans hx hE93
                        have hr7_0 := RP.ext hr7_0 hE93
                        have ho47 := Own.ext ho47 hE93
                        have hb_g48 := Blk.ext hb_g48 hE93
                        refine L_pass (g_no rfl (Eq.trans (hP93 19 88 rfl rfl) (congrArg Value.bool hc149)) rfl rfl) ?_
                        exact L_nil ⟨rfl, (ext_refl _), _, _, rfl, rfl, rfl⟩
                      refine ops_cons (fun f w_ hS93 hE93 hP93 => ?_) ?_
                      ·
                        have hx := ext_trans hx hE93
                        have hr7_2 := RP.ext hr7_2 hE93
                        refine L_pass (g_no rfl (Eq.trans (hP93 19 88 rfl rfl) (congrArg Value.bool hc149)) rfl rfl) ?_
                        exact L_nil ⟨rfl, (ext_refl _), _, _, rfl, rfl, rfl⟩
                      refine ops_cons (fun f w_ hS93 hE93 hP93 => ?_) ?_
                      ·
                        have hx := ext_trans hx hE93
                        refine L_pass (g_no rfl (Eq.trans (hP93 19 88 rfl rfl) (congrArg Value.bool hc149)) rfl rfl) ?_
                        exact L_nil ⟨rfl, (ext_refl _), _, _, rfl, rfl, rfl⟩
                      refine ops_cons (fun f w_ hS93 hE93 hP93 => ?_) ?_
                      ·
                        have hx := ext_trans hx hE93
                        refine L_pass (g_no rfl (Eq.trans (hP93 19 88 rfl rfl) (congrArg Value.bool hc149)) rfl rfl) ?_
                        exact L_nil ⟨rfl, (ext_refl _), _, _, rfl, rfl, rfl⟩
                      exact ops_nil
                    ·
                      have hr7_2 := RP.ext hr7_2 hE93
                      have hr7_0 := RP.ext hr7_0 hE93
                      have ho47 := Own.ext ho47 hE93
                      have hb_g48 := Blk.ext hb_g48 hE93
                      have hx := ext_trans hx hE93
                      refine L_pass (g_no rfl (Eq.trans (hT93 19 88 rfl rfl) (congrArg Value.bool hc149)) rfl rfl) ?_
                      refine L_pick (v := .bool b92) rfl (Eq.trans (hT93 19 88 rfl rfl) (congrArg Value.bool hc149)) (congrArg Value.bool (so hb92)) ?_
                      refine L_as (v := .bool b92) rfl rfl ?_
                      refine L_nil ?_
                      show R94 _ _
                      rw [hR94]
                      exact ⟨rfl, hx⟩
                ·
                  rcases Bool.eq_false_or_eq_true b89 with hc172 | hc172
                  ·
                    rw [ite_t hc172] at hb92
                    obtain ⟨x90, hx90, hb92⟩ := bind_some hb92
                    refine W_drawL 24 [isV (.bool x51), isV (.bool x51), isV (undef), isV (.bool (x51 && x54)), isV (.bool (!(x51 && x54))), isV (.bool (!(x51 && x54))), isV (.bool x51), isV (.bool x51), isV (.bool x54), isV (.bool (x51 || x54)), isV (r7_2), isEl B RP.int x83 0, isV (.int .i64 x83), isV (r7_2), isEl B RP.int x86 0, isV (.int .i64 x86), isV (.bool (x83 != x86)), isV (.bool ((x51 || x54) == (x83 != x86))), isV (.bool b89), isV (.bool b89), isV (.agg #[r7_0, (.slice (some ⟨g46, 0, none⟩) 3 3)]), isV (r7_2), isV (.bool x90), isV (.bool x51)] Try_mix (by kernel_rfl) (am_cons (mono_V _) (am_cons (mono_V _) (am_cons (mono_V _) (am_cons (mono_V _) (am_cons (mono_V _) (am_cons (mono_V _) (am_cons (mono_V _) (am_cons (mono_V _) (am_cons (mono_V _) (am_cons (mono_V _) (am_cons (mono_V _) (am_cons (mono_el _ _ _ _) (am_cons (mono_V _) (am_cons (mono_V _) (am_cons (mono_el _ _ _ _) (am_cons (mono_V _) (am_cons (mono_V _) (am_cons (mono_V _) (am_cons (mono_V _) (am_cons (mono_V _) (am_cons (mono_V _) (am_cons (mono_V _) (am_cons (mono_V _) (am_cons (mono_V _) am_nil)))))))))))))))))))))))) ?_ (fun f w_ hS93 hE93 hT93 => ?_)
                    ·
                      refine ops_cons (fun f w_ hS93 hE93 hP93 => ?_) ?_
                      ·
                        have hx := ext_trans hx hE93
                        refine L_mv (v := .bool x51) rfl ((hS93 7 rfl).trans sf7) ?_
                        exact L_nil ⟨rfl, (ext_refl _), _, _, rfl, rfl, rfl⟩
                      refine ops_cons (fun f w_ hS93 hE93 hP93 => ?_) ?_
                      ·
                        have hx := ext_trans hx hE93
                        refine L_mv (v := .bool x51) rfl (hP93 0 69 rfl rfl) ?_
                        exact L_nil ⟨rfl, (ext_refl _), _, _, rfl, rfl, rfl⟩
                      refine ops_cons (fun f w_ hS93 hE93 hP93 => ?_) ?_
                      ·
                        have hx := ext_trans hx hE93
                        refine L_pass (g_no rfl (Eq.trans (hP93 1 70 rfl rfl) (congrArg Value.bool hc95)) rfl rfl) ?_
                        exact L_nil ⟨rfl, (ext_refl _), _, _, rfl, rfl, rfl⟩
                      refine ops_cons (fun f w_ hS93 hE93 hP93 => ?_) ?_
                      ·
                        have hx := ext_trans hx hE93
                        refine L_pick (v := .bool (x51 && x54)) rfl (Eq.trans (hP93 1 70 rfl rfl) (congrArg Value.bool hc95)) (and_f hc95) ?_
                        exact L_nil ⟨rfl, (ext_refl _), _, _, rfl, rfl, rfl⟩
                      refine ops_cons (fun f w_ hS93 hE93 hP93 => ?_) ?_
                      ·
                        have hx := ext_trans hx hE93
                        refine L_not_ (b := (x51 && x54)) rfl (hP93 3 72 rfl rfl) ?_
                        exact L_nil ⟨rfl, (ext_refl _), _, _, rfl, rfl, rfl⟩
                      refine ops_cons (fun f w_ hS93 hE93 hP93 => ?_) ?_
                      ·
                        have hx := ext_trans hx hE93
                        refine L_mv (v := .bool (!(x51 && x54))) rfl (hP93 4 73 rfl rfl) ?_
                        exact L_nil ⟨rfl, (ext_refl _), _, _, rfl, rfl, rfl⟩
                      refine ops_cons (fun f w_ hS93 hE93 hP93 => ?_) ?_
                      ·
                        have hx := ext_trans hx hE93
                        refine L_mv (v := .bool x51) (g_yes rfl (Eq.trans (hP93 5 74 rfl rfl) (congrArg Value.bool hc147)) rfl) ((hS93 7 rfl).trans sf7) ?_
                        exact L_nil ⟨rfl, (ext_refl _), _, _, rfl, rfl, rfl⟩
                      refine ops_cons (fun f w_ hS93 hE93 hP93 => ?_) ?_
                      ·
                        have hx := ext_trans hx hE93
                        refine L_mv (v := .bool x51) (g_yes rfl (Eq.trans (hP93 5 74 rfl rfl) (congrArg Value.bool hc147)) rfl) (hP93 6 75 rfl rfl) ?_
                        exact L_nil ⟨rfl, (ext_refl _), _, _, rfl, rfl, rfl⟩
                      refine ops_cons (fun f w_ hS93 hE93 hP93 => ?_) ?_
                      ·
                        have hx := ext_trans hx hE93
                        refine L_mv (v := .bool x54) (g_yes rfl (Eq.trans (hP93 7 76 rfl rfl) (congrArg Value.bool hc148)) rfl) ((hS93 8 rfl).trans sf8) ?_
                        exact L_nil ⟨rfl, (ext_refl _), _, _, rfl, rfl, rfl⟩
                      refine ops_cons (fun f w_ hS93 hE93 hP93 => ?_) ?_
                      ·
                        have hx := ext_trans hx hE93
                        refine L_pick (v := .bool (x51 || x54)) (g_yes rfl (Eq.trans (hP93 5 74 rfl rfl) (congrArg Value.bool hc147)) rfl) (Eq.trans (hP93 7 76 rfl rfl) (congrArg Value.bool hc148)) (or_f hc148 (hP93 8 77 rfl rfl)) ?_
                        exact L_nil ⟨rfl, (ext_refl _), _, _, rfl, rfl, rfl⟩
                      refine ops_cons (fun f w_ hS93 hE93 hP93 => ?_) ?_
                      ·
                        have hx := ext_trans hx hE93
                        have hr7_2 := RP.ext hr7_2 hE93
                        refine L_mv (v := r7_2) (g_yes rfl (Eq.trans (hP93 5 74 rfl rfl) (congrArg Value.bool hc147)) rfl) ((hS93 5 rfl).trans sf5) ?_
                        exact L_nil ⟨rfl, (ext_refl _), _, _, rfl, rfl, rfl⟩
                      refine ops_cons (fun f w_ hS93 hE93 hP93 => ?_) ?_
                      ·
                        have hx := ext_trans hx hE93
                        have hr7_2 := RP.ext hr7_2 hE93
                        refine L_ix (r := RP.int) (g_yes rfl (Eq.trans (hP93 5 74 rfl rfl) (congrArg Value.bool hc147)) rfl) Try.underlying23 Try.sizeOf3 (hP93 10 79 rfl rfl) hr7_2 rfl hx83 ?_
                        intro g178 o179 cs179 hr179 hat179
                        obtain rfl : _ = [_] := hr179
                        exact L_nil ⟨rfl, (ext_refl _), _, _, rfl, rfl, ⟨_, _, _, rfl, rfl, hat179⟩⟩
                      refine ops_cons (fun f w_ hS93 hE93 hP93 => ?_) ?_
                      ·
                        have hx := ext_trans hx hE93
                        obtain ⟨g180, o180, cs180, hv180, hr180, hat180⟩ := (hP93 11 80 rfl rfl)
                        obtain rfl : _ = [_] := hr180
                        refine L_ld (v := .int .i64 x83) (g_yes rfl (Eq.trans (hP93 5 74 rfl rfl) (congrArg Value.bool hc147)) rfl) Try.isAgg3 hv180 (hat180.cell (j := 0) rfl) ?_
                        exact L_nil ⟨rfl, (ext_refl _), _, _, rfl, rfl, rfl⟩
                      refine ops_cons (fun f w_ hS93 hE93 hP93 => ?_) ?_
                      ·
                        have hx := ext_trans hx hE93
                        have hr7_2 := RP.ext hr7_2 hE93
                        refine L_mv (v := r7_2) (g_yes rfl (Eq.trans (hP93 5 74 rfl rfl) (congrArg Value.bool hc147)) rfl) ((hS93 5 rfl).trans sf5) ?_
                        exact L_nil ⟨rfl, (ext_refl _), _, _, rfl, rfl, rfl⟩
                      refine ops_cons (fun f w_ hS93 hE93 hP93 => ?_) ?_
                      ·
                        have hx := ext_trans hx hE93
                        have hr7_2 := RP.ext hr7_2 hE93
                        refine L_ix (r := RP.int) (g_yes rfl (Eq.trans (hP93 5 74 rfl rfl) (congrArg Value.bool hc147)) rfl) Try.underlying23 Try.sizeOf3 (hP93 13 82 rfl rfl) hr7_2 rfl hx86 ?_
                        intro g181 o182 cs182 hr182 hat182
                        obtain rfl : _ = [_] := hr182
                        exact L_nil ⟨rfl, (ext_refl _), _, _, rfl, rfl, ⟨_, _, _, rfl, rfl, hat182⟩⟩
                      refine ops_cons (fun f w_ hS93 hE93 hP93 => ?_) ?_
                      ·
                        have hx := ext_trans hx hE93
                        obtain ⟨g183, o183, cs183, hv183, hr183, hat183⟩ := (hP93 14 83 rfl rfl)
                        obtain rfl : _ = [_] := hr183
                        refine L_ld (v := .int .i64 x86) (g_yes rfl (Eq.trans (hP93 5 74 rfl rfl) (congrArg Value.bool hc147)) rfl) Try.isAgg3 hv183 (hat183.cell (j := 0) rfl) ?_
                        exact L_nil ⟨rfl, (ext_refl _), _, _, rfl, rfl, rfl⟩
                      refine ops_cons (fun f w_ hS93 hE93 hP93 => ?_) ?_
                      ·
                        have hx := ext_trans hx hE93
                        refine L_neq (m := x83) (n := x86) (g_yes rfl (Eq.trans (hP93 5 74 rfl rfl) (congrArg Value.bool hc147)) rfl) (hP93 12 81 rfl rfl) (hP93 15 84 rfl rfl) ?_
                        exact L_nil ⟨rfl, (ext_refl _), _, _, rfl, rfl, rfl⟩
                      refine ops_cons (fun f w_ hS93 hE93 hP93 => ?_) ?_
                      ·
                        have hx := ext_trans hx hE93
                        refine L_beql (b := (x51 || x54)) (c := (x83 != x86)) (g_yes rfl (Eq.trans (hP93 5 74 rfl rfl) (congrArg Value.bool hc147)) rfl) Try.underlying4 (hP93 9 78 rfl rfl) (hP93 16 85 rfl rfl) ?_
                        exact L_nil ⟨rfl, (ext_refl _), _, _, rfl, rfl, rfl⟩
                      refine ops_cons (fun f w_ hS93 hE93 hP93 => ?_) ?_
                      ·
                        have hx := ext_trans hx hE93
                        refine L_pick (v := .bool b89) rfl (Eq.trans (hP93 5 74 rfl rfl) (congrArg Value.bool hc147)) (Eq.trans (hP93 17 86 rfl rfl) (congrArg Value.bool (so hb89))) ?_
                        exact L_nil ⟨rfl, (ext_refl _), _, _, rfl, rfl, rfl⟩
                      refine ops_cons (fun f w_ hS93 hE93 hP93 => ?_) ?_
                      ·
                        have hx := ext_trans hx hE93
                        refine L_mv (v := .bool b89) rfl (hP93 18 87 rfl rfl) ?_
                        exact L_nil ⟨rfl, (ext_refl _), _, _, rfl, rfl, rfl⟩
                      refine ops_cons (fun f w_ hS93 hE93 hP93 => ?_) ?_
                      ·
                        have hx := ext_trans hx hE93
                        have hr7_0 := RP.ext hr7_0 hE93
                        have ho47 := Own.ext ho47 hE93
                        have hb_g48 := Blk.ext hb_g48 hE93
                        refine L_lda (cs := [r7_0, (.slice (some ⟨g46, 0, none⟩) 3 3)]) (g_yes rfl (Eq.trans (hP93 19 88 rfl rfl) (congrArg Value.bool hc172)) rfl) Try.isAgg26 Try.sizeOf26 ((hS93 6 rfl).trans sf6) (Blk.sub hb_g48 0 2) rfl ?_
                        exact L_nil ⟨rfl, (ext_refl _), _, _, rfl, rfl, rfl⟩
                      refine ops_cons (fun f w_ hS93 hE93 hP93 => ?_) ?_
                      ·
                        have hx := ext_trans hx hE93
                        have hr7_2 := RP.ext hr7_2 hE93
                        refine L_mv (v := r7_2) (g_yes rfl (Eq.trans (hP93 19 88 rfl rfl) (congrArg Value.bool hc172)) rfl) ((hS93 5 rfl).trans sf5) ?_
                        exact L_nil ⟨rfl, (ext_refl _), _, _, rfl, rfl, rfl⟩
                      refine ops_cons (fun f w_ hS93 hE93 hP93 => ?_) ?_
                      ·
                        have hx := ext_trans hx hE93
                        have hr7_2 := RP.ext hr7_2 hE93
                        have hr7_0 := RP.ext hr7_0 hE93
                        have ho47 := Own.ext ho47 hE93
                        refine L_call (args := #[.agg #[r7_0, (.slice (some ⟨g46, 0, none⟩) 3 3)], .int .i64 2, r7_2]) (g_yes rfl (Eq.trans (hP93 19 88 rfl rfl) (congrArg Value.bool hc172)) rfl) Try.call18 (ops3 (hP93 20 89 rfl rfl) rfl (hP93 21 90 rfl rfl)) (i_RuleHolds_c (m := ({ sizes := x2.1.sizes, rules := [({ kind := 4, vars := [0, 1], coefs := [], bound := 0, rows := [] } : Rule), ({ kind := 4, vars := [1, 0], coefs := [], bound := 0, rows := [] } : Rule), ({ kind := 1, vars := [0, 1], coefs := [(-1), 1], bound := 1, rows := [] } : Rule)] } : Model)) (rule := 2) (cells := x2.2.2) (Nat.le_trans hB hx.size) (rel0 hr7_0) (rel0 (Own.rel ho47)) (rel0 hr7_2) hx90) ?_
                        rintro _ w184 ⟨rfl, he184⟩
                        have hr7_2 := RP.ext hr7_2 he184
                        have hr7_0 := RP.ext hr7_0 he184
                        have ho47 := Own.ext ho47 he184
                        have hx := ext_trans hx he184
                        exact L_nil ⟨rfl, he184, _, _, rfl, rfl, rfl⟩
                      refine ops_cons (fun f w_ hS93 hE93 hP93 => ?_) ?_
                      ·
                        have hx := ext_trans hx hE93
                        refine L_mv (v := .bool x51) (g_yes rfl (Eq.trans (hP93 19 88 rfl rfl) (congrArg Value.bool hc172)) rfl) ((hS93 7 rfl).trans sf7) ?_
                        exact L_nil ⟨rfl, (ext_refl _), _, _, rfl, rfl, rfl⟩
                      exact ops_nil
                    ·
                      have hr7_2 := RP.ext hr7_2 hE93
                      have hr7_0 := RP.ext hr7_0 hE93
                      have ho47 := Own.ext ho47 hE93
                      have hb_g48 := Blk.ext hb_g48 hE93
                      have hx := ext_trans hx hE93
                      refine L_beql (b := x90) (c := x51) (g_yes rfl (Eq.trans (hT93 19 88 rfl rfl) (congrArg Value.bool hc172)) rfl) Try.underlying4 (hT93 22 91 rfl rfl) (hT93 23 92 rfl rfl) ?_
                      refine L_pick (v := .bool b92) rfl (Eq.trans (hT93 19 88 rfl rfl) (congrArg Value.bool hc172)) (congrArg Value.bool (so hb92)) ?_
                      refine L_as (v := .bool b92) rfl rfl ?_
                      refine L_nil ?_
                      show R94 _ _
                      rw [hR94]
                      exact ⟨rfl, hx⟩
                  ·
                    rw [ite_f hc172] at hb92
                    refine W_drawL 24 [isV (.bool x51), isV (.bool x51), isV (undef), isV (.bool (x51 && x54)), isV (.bool (!(x51 && x54))), isV (.bool (!(x51 && x54))), isV (.bool x51), isV (.bool x51), isV (.bool x54), isV (.bool (x51 || x54)), isV (r7_2), isEl B RP.int x83 0, isV (.int .i64 x83), isV (r7_2), isEl B RP.int x86 0, isV (.int .i64 x86), isV (.bool (x83 != x86)), isV (.bool ((x51 || x54) == (x83 != x86))), isV (.bool b89), isV (.bool b89), isV (undef), isV (undef), isV (undef), isV (undef)] Try_mix (by kernel_rfl) (am_cons (mono_V _) (am_cons (mono_V _) (am_cons (mono_V _) (am_cons (mono_V _) (am_cons (mono_V _) (am_cons (mono_V _) (am_cons (mono_V _) (am_cons (mono_V _) (am_cons (mono_V _) (am_cons (mono_V _) (am_cons (mono_V _) (am_cons (mono_el _ _ _ _) (am_cons (mono_V _) (am_cons (mono_V _) (am_cons (mono_el _ _ _ _) (am_cons (mono_V _) (am_cons (mono_V _) (am_cons (mono_V _) (am_cons (mono_V _) (am_cons (mono_V _) (am_cons (mono_V _) (am_cons (mono_V _) (am_cons (mono_V _) (am_cons (mono_V _) am_nil)))))))))))))))))))))))) ?_ (fun f w_ hS93 hE93 hT93 => ?_)
                    ·
                      refine ops_cons (fun f w_ hS93 hE93 hP93 => ?_) ?_
                      ·
                        have hx := ext_trans hx hE93
                        refine L_mv (v := .bool x51) rfl ((hS93 7 rfl).trans sf7) ?_
                        exact L_nil ⟨rfl, (ext_refl _), _, _, rfl, rfl, rfl⟩
                      refine ops_cons (fun f w_ hS93 hE93 hP93 => ?_) ?_
                      ·
                        have hx := ext_trans hx hE93
                        refine L_mv (v := .bool x51) rfl (hP93 0 69 rfl rfl) ?_
                        exact L_nil ⟨rfl, (ext_refl _), _, _, rfl, rfl, rfl⟩
                      refine ops_cons (fun f w_ hS93 hE93 hP93 => ?_) ?_
                      ·
                        have hx := ext_trans hx hE93
                        refine L_pass (g_no rfl (Eq.trans (hP93 1 70 rfl rfl) (congrArg Value.bool hc95)) rfl rfl) ?_
                        exact L_nil ⟨rfl, (ext_refl _), _, _, rfl, rfl, rfl⟩
                      refine ops_cons (fun f w_ hS93 hE93 hP93 => ?_) ?_
                      ·
                        have hx := ext_trans hx hE93
                        refine L_pick (v := .bool (x51 && x54)) rfl (Eq.trans (hP93 1 70 rfl rfl) (congrArg Value.bool hc95)) (and_f hc95) ?_
                        exact L_nil ⟨rfl, (ext_refl _), _, _, rfl, rfl, rfl⟩
                      refine ops_cons (fun f w_ hS93 hE93 hP93 => ?_) ?_
                      ·
                        have hx := ext_trans hx hE93
                        refine L_not_ (b := (x51 && x54)) rfl (hP93 3 72 rfl rfl) ?_
                        exact L_nil ⟨rfl, (ext_refl _), _, _, rfl, rfl, rfl⟩
                      refine ops_cons (fun f w_ hS93 hE93 hP93 => ?_) ?_
                      ·
                        have hx := ext_trans hx hE93
                        refine L_mv (v := .bool (!(x51 && x54))) rfl (hP93 4 73 rfl rfl) ?_
                        exact L_nil ⟨rfl, (ext_refl _), _, _, rfl, rfl, rfl⟩
                      refine ops_cons (fun f w_ hS93 hE93 hP93 => ?_) ?_
                      ·
                        have hx := ext_trans hx hE93
                        refine L_mv (v := .bool x51) (g_yes rfl (Eq.trans (hP93 5 74 rfl rfl) (congrArg Value.bool hc147)) rfl) ((hS93 7 rfl).trans sf7) ?_
                        exact L_nil ⟨rfl, (ext_refl _), _, _, rfl, rfl, rfl⟩
                      refine ops_cons (fun f w_ hS93 hE93 hP93 => ?_) ?_
                      ·
                        have hx := ext_trans hx hE93
                        refine L_mv (v := .bool x51) (g_yes rfl (Eq.trans (hP93 5 74 rfl rfl) (congrArg Value.bool hc147)) rfl) (hP93 6 75 rfl rfl) ?_
                        exact L_nil ⟨rfl, (ext_refl _), _, _, rfl, rfl, rfl⟩
                      refine ops_cons (fun f w_ hS93 hE93 hP93 => ?_) ?_
                      ·
                        have hx := ext_trans hx hE93
                        refine L_mv (v := .bool x54) (g_yes rfl (Eq.trans (hP93 7 76 rfl rfl) (congrArg Value.bool hc148)) rfl) ((hS93 8 rfl).trans sf8) ?_
                        exact L_nil ⟨rfl, (ext_refl _), _, _, rfl, rfl, rfl⟩
                      refine ops_cons (fun f w_ hS93 hE93 hP93 => ?_) ?_
                      ·
                        have hx := ext_trans hx hE93
                        refine L_pick (v := .bool (x51 || x54)) (g_yes rfl (Eq.trans (hP93 5 74 rfl rfl) (congrArg Value.bool hc147)) rfl) (Eq.trans (hP93 7 76 rfl rfl) (congrArg Value.bool hc148)) (or_f hc148 (hP93 8 77 rfl rfl)) ?_
                        exact L_nil ⟨rfl, (ext_refl _), _, _, rfl, rfl, rfl⟩
                      refine ops_cons (fun f w_ hS93 hE93 hP93 => ?_) ?_
                      ·
                        have hx := ext_trans hx hE93
                        have hr7_2 := RP.ext hr7_2 hE93
                        refine L_mv (v := r7_2) (g_yes rfl (Eq.trans (hP93 5 74 rfl rfl) (congrArg Value.bool hc147)) rfl) ((hS93 5 rfl).trans sf5) ?_
                        exact L_nil ⟨rfl, (ext_refl _), _, _, rfl, rfl, rfl⟩
                      refine ops_cons (fun f w_ hS93 hE93 hP93 => ?_) ?_
                      ·
                        have hx := ext_trans hx hE93
                        have hr7_2 := RP.ext hr7_2 hE93
                        refine L_ix (r := RP.int) (g_yes rfl (Eq.trans (hP93 5 74 rfl rfl) (congrArg Value.bool hc147)) rfl) Try.underlying23 Try.sizeOf3 (hP93 10 79 rfl rfl) hr7_2 rfl hx83 ?_
                        intro g189 o190 cs190 hr190 hat190
                        obtain rfl : _ = [_] := hr190
                        exact L_nil ⟨rfl, (ext_refl _), _, _, rfl, rfl, ⟨_, _, _, rfl, rfl, hat190⟩⟩
                      refine ops_cons (fun f w_ hS93 hE93 hP93 => ?_) ?_
                      ·
                        have hx := ext_trans hx hE93
                        obtain ⟨g191, o191, cs191, hv191, hr191, hat191⟩ := (hP93 11 80 rfl rfl)
                        obtain rfl : _ = [_] := hr191
                        refine L_ld (v := .int .i64 x83) (g_yes rfl (Eq.trans (hP93 5 74 rfl rfl) (congrArg Value.bool hc147)) rfl) Try.isAgg3 hv191 (hat191.cell (j := 0) rfl) ?_
                        exact L_nil ⟨rfl, (ext_refl _), _, _, rfl, rfl, rfl⟩
                      refine ops_cons (fun f w_ hS93 hE93 hP93 => ?_) ?_
                      ·
                        have hx := ext_trans hx hE93
                        have hr7_2 := RP.ext hr7_2 hE93
                        refine L_mv (v := r7_2) (g_yes rfl (Eq.trans (hP93 5 74 rfl rfl) (congrArg Value.bool hc147)) rfl) ((hS93 5 rfl).trans sf5) ?_
                        exact L_nil ⟨rfl, (ext_refl _), _, _, rfl, rfl, rfl⟩
                      refine ops_cons (fun f w_ hS93 hE93 hP93 => ?_) ?_
                      ·
                        have hx := ext_trans hx hE93
                        have hr7_2 := RP.ext hr7_2 hE93
                        refine L_ix (r := RP.int) (g_yes rfl (Eq.trans (hP93 5 74 rfl rfl) (congrArg Value.bool hc147)) rfl) Try.underlying23 Try.sizeOf3 (hP93 13 82 rfl rfl) hr7_2 rfl hx86 ?_
                        intro g192 o193 cs193 hr193 hat193
                        obtain rfl : _ = [_] := hr193
                        exact L_nil ⟨rfl, (ext_refl _), _, _, rfl, rfl, ⟨_, _, _, rfl, rfl, hat193⟩⟩
                      refine ops_cons (fun f w_ hS93 hE93 hP93 => ?_) ?_
                      ·
                        have hx := ext_trans hx hE93
                        obtain ⟨g194, o194, cs194, hv194, hr194, hat194⟩ := (hP93 14 83 rfl rfl)
                        obtain rfl : _ = [_] := hr194
                        refine L_ld (v := .int .i64 x86) (g_yes rfl (Eq.trans (hP93 5 74 rfl rfl) (congrArg Value.bool hc147)) rfl) Try.isAgg3 hv194 (hat194.cell (j := 0) rfl) ?_
                        exact L_nil ⟨rfl, (ext_refl _), _, _, rfl, rfl, rfl⟩
                      refine ops_cons (fun f w_ hS93 hE93 hP93 => ?_) ?_
                      ·
                        have hx := ext_trans hx hE93
                        refine L_neq (m := x83) (n := x86) (g_yes rfl (Eq.trans (hP93 5 74 rfl rfl) (congrArg Value.bool hc147)) rfl) (hP93 12 81 rfl rfl) (hP93 15 84 rfl rfl) ?_
                        exact L_nil ⟨rfl, (ext_refl _), _, _, rfl, rfl, rfl⟩
                      refine ops_cons (fun f w_ hS93 hE93 hP93 => ?_) ?_
                      ·
                        have hx := ext_trans hx hE93
                        refine L_beql (b := (x51 || x54)) (c := (x83 != x86)) (g_yes rfl (Eq.trans (hP93 5 74 rfl rfl) (congrArg Value.bool hc147)) rfl) Try.underlying4 (hP93 9 78 rfl rfl) (hP93 16 85 rfl rfl) ?_
                        exact L_nil ⟨rfl, (ext_refl _), _, _, rfl, rfl, rfl⟩
                      refine ops_cons (fun f w_ hS93 hE93 hP93 => ?_) ?_
                      ·
                        have hx := ext_trans hx hE93
                        refine L_pick (v := .bool b89) rfl (Eq.trans (hP93 5 74 rfl rfl) (congrArg Value.bool hc147)) (Eq.trans (hP93 17 86 rfl rfl) (congrArg Value.bool (so hb89))) ?_
                        exact L_nil ⟨rfl, (ext_refl _), _, _, rfl, rfl, rfl⟩
                      refine ops_cons (fun f w_ hS93 hE93 hP93 => ?_) ?_
                      ·
                        have hx := ext_trans hx hE93
                        refine L_mv (v := .bool b89) rfl (hP93 18 87 rfl rfl) ?_
                        exact L_nil ⟨rfl, (ext_refl _), _, _, rfl, rfl, rfl⟩
                      refine ops_cons (fun f w_ hS93 hE93 hP93 => ?_) ?_
                      ·
                        have hx := ext_trans hx hE93
                        have hr7_0 := RP.ext hr7_0 hE93
                        have ho47 := Own.ext ho47 hE93
                        have hb_g48 := Blk.ext hb_g48 hE93
                        refine L_pass (g_no rfl (Eq.trans (hP93 19 88 rfl rfl) (congrArg Value.bool hc172)) rfl rfl) ?_
                        exact L_nil ⟨rfl, (ext_refl _), _, _, rfl, rfl, rfl⟩
                      refine ops_cons (fun f w_ hS93 hE93 hP93 => ?_) ?_
                      ·
                        have hx := ext_trans hx hE93
                        have hr7_2 := RP.ext hr7_2 hE93
                        refine L_pass (g_no rfl (Eq.trans (hP93 19 88 rfl rfl) (congrArg Value.bool hc172)) rfl rfl) ?_
                        exact L_nil ⟨rfl, (ext_refl _), _, _, rfl, rfl, rfl⟩
                      refine ops_cons (fun f w_ hS93 hE93 hP93 => ?_) ?_
                      ·
                        have hx := ext_trans hx hE93
                        refine L_pass (g_no rfl (Eq.trans (hP93 19 88 rfl rfl) (congrArg Value.bool hc172)) rfl rfl) ?_
                        exact L_nil ⟨rfl, (ext_refl _), _, _, rfl, rfl, rfl⟩
                      refine ops_cons (fun f w_ hS93 hE93 hP93 => ?_) ?_
                      ·
                        have hx := ext_trans hx hE93
                        refine L_pass (g_no rfl (Eq.trans (hP93 19 88 rfl rfl) (congrArg Value.bool hc172)) rfl rfl) ?_
                        exact L_nil ⟨rfl, (ext_refl _), _, _, rfl, rfl, rfl⟩
                      exact ops_nil
                    ·
                      have hr7_2 := RP.ext hr7_2 hE93
                      have hr7_0 := RP.ext hr7_0 hE93
                      have ho47 := Own.ext ho47 hE93
                      have hb_g48 := Blk.ext hb_g48 hE93
                      have hx := ext_trans hx hE93
                      refine L_pass (g_no rfl (Eq.trans (hT93 19 88 rfl rfl) (congrArg Value.bool hc172)) rfl rfl) ?_
                      refine L_pick (v := .bool b92) rfl (Eq.trans (hT93 19 88 rfl rfl) (congrArg Value.bool hc172)) (congrArg Value.bool (so hb92)) ?_
                      refine L_as (v := .bool b92) rfl rfl ?_
                      refine L_nil ?_
                      show R94 _ _
                      rw [hR94]
                      exact ⟨rfl, hx⟩
              ·
                rw [ite_f hc147] at hb89
                rcases Bool.eq_false_or_eq_true b89 with hc195 | hc195
                ·
                  rw [ite_t hc195] at hb92
                  obtain ⟨x90, hx90, hb92⟩ := bind_some hb92
                  refine W_drawL 24 [isV (.bool x51), isV (.bool x51), isV (undef), isV (.bool (x51 && x54)), isV (.bool (!(x51 && x54))), isV (.bool (!(x51 && x54))), isV (undef), isV (undef), isV (undef), isV (undef), isV (undef), isV (undef), isV (undef), isV (undef), isV (undef), isV (undef), isV (undef), isV (undef), isV (.bool b89), isV (.bool b89), isV (.agg #[r7_0, (.slice (some ⟨g46, 0, none⟩) 3 3)]), isV (r7_2), isV (.bool x90), isV (.bool x51)] Try_mix (by kernel_rfl) (am_cons (mono_V _) (am_cons (mono_V _) (am_cons (mono_V _) (am_cons (mono_V _) (am_cons (mono_V _) (am_cons (mono_V _) (am_cons (mono_V _) (am_cons (mono_V _) (am_cons (mono_V _) (am_cons (mono_V _) (am_cons (mono_V _) (am_cons (mono_V _) (am_cons (mono_V _) (am_cons (mono_V _) (am_cons (mono_V _) (am_cons (mono_V _) (am_cons (mono_V _) (am_cons (mono_V _) (am_cons (mono_V _) (am_cons (mono_V _) (am_cons (mono_V _) (am_cons (mono_V _) (am_cons (mono_V _) (am_cons (mono_V _) am_nil)))))))))))))))))))))))) ?_ (fun f w_ hS93 hE93 hT93 => ?_)
                  ·
                    refine ops_cons (fun f w_ hS93 hE93 hP93 => ?_) ?_
                    ·
                      have hx := ext_trans hx hE93
                      refine L_mv (v := .bool x51) rfl ((hS93 7 rfl).trans sf7) ?_
                      exact L_nil ⟨rfl, (ext_refl _), _, _, rfl, rfl, rfl⟩
                    refine ops_cons (fun f w_ hS93 hE93 hP93 => ?_) ?_
                    ·
                      have hx := ext_trans hx hE93
                      refine L_mv (v := .bool x51) rfl (hP93 0 69 rfl rfl) ?_
                      exact L_nil ⟨rfl, (ext_refl _), _, _, rfl, rfl, rfl⟩
                    refine ops_cons (fun f w_ hS93 hE93 hP93 => ?_) ?_
                    ·
                      have hx := ext_trans hx hE93
                      refine L_pass (g_no rfl (Eq.trans (hP93 1 70 rfl rfl) (congrArg Value.bool hc95)) rfl rfl) ?_
                      exact L_nil ⟨rfl, (ext_refl _), _, _, rfl, rfl, rfl⟩
                    refine ops_cons (fun f w_ hS93 hE93 hP93 => ?_) ?_
                    ·
                      have hx := ext_trans hx hE93
                      refine L_pick (v := .bool (x51 && x54)) rfl (Eq.trans (hP93 1 70 rfl rfl) (congrArg Value.bool hc95)) (and_f hc95) ?_
                      exact L_nil ⟨rfl, (ext_refl _), _, _, rfl, rfl, rfl⟩
                    refine ops_cons (fun f w_ hS93 hE93 hP93 => ?_) ?_
                    ·
                      have hx := ext_trans hx hE93
                      refine L_not_ (b := (x51 && x54)) rfl (hP93 3 72 rfl rfl) ?_
                      exact L_nil ⟨rfl, (ext_refl _), _, _, rfl, rfl, rfl⟩
                    refine ops_cons (fun f w_ hS93 hE93 hP93 => ?_) ?_
                    ·
                      have hx := ext_trans hx hE93
                      refine L_mv (v := .bool (!(x51 && x54))) rfl (hP93 4 73 rfl rfl) ?_
                      exact L_nil ⟨rfl, (ext_refl _), _, _, rfl, rfl, rfl⟩
                    refine ops_cons (fun f w_ hS93 hE93 hP93 => ?_) ?_
                    ·
                      have hx := ext_trans hx hE93
                      refine L_pass (g_no rfl (Eq.trans (hP93 5 74 rfl rfl) (congrArg Value.bool hc147)) rfl rfl) ?_
                      exact L_nil ⟨rfl, (ext_refl _), _, _, rfl, rfl, rfl⟩
                    refine ops_cons (fun f w_ hS93 hE93 hP93 => ?_) ?_
                    ·
                      have hx := ext_trans hx hE93
                      refine L_pass (g_no rfl (Eq.trans (hP93 5 74 rfl rfl) (congrArg Value.bool hc147)) rfl rfl) ?_
                      exact L_nil ⟨rfl, (ext_refl _), _, _, rfl, rfl, rfl⟩
                    refine ops_cons (fun f w_ hS93 hE93 hP93 => ?_) ?_
                    ·
                      have hx := ext_trans hx hE93
                      refine L_pass (g_undef rfl (hP93 7 76 rfl rfl) rfl) ?_
                      exact L_nil ⟨rfl, (ext_refl _), _, _, rfl, rfl, rfl⟩
                    refine ops_cons (fun f w_ hS93 hE93 hP93 => ?_) ?_
                    ·
                      have hx := ext_trans hx hE93
                      refine L_pass (g_no rfl (Eq.trans (hP93 5 74 rfl rfl) (congrArg Value.bool hc147)) rfl rfl) ?_
                      exact L_nil ⟨rfl, (ext_refl _), _, _, rfl, rfl, rfl⟩
                    refine ops_cons (fun f w_ hS93 hE93 hP93 => ?_) ?_
                    ·
                      have hx := ext_trans hx hE93
                      have hr7_2 := RP.ext hr7_2 hE93
                      refine L_pass (g_no rfl (Eq.trans (hP93 5 74 rfl rfl) (congrArg Value.bool hc147)) rfl rfl) ?_
                      exact L_nil ⟨rfl, (ext_refl _), _, _, rfl, rfl, rfl⟩
                    refine ops_cons (fun f w_ hS93 hE93 hP93 => ?_) ?_
                    ·
                      have hx := ext_trans hx hE93
                      refine L_pass (g_no rfl (Eq.trans (hP93 5 74 rfl rfl) (congrArg Value.bool hc147)) rfl rfl) ?_
                      exact L_nil ⟨rfl, (ext_refl _), _, _, rfl, rfl, rfl⟩
                    refine ops_cons (fun f w_ hS93 hE93 hP93 => ?_) ?_
                    ·
                      have hx := ext_trans hx hE93
                      refine L_pass (g_no rfl (Eq.trans (hP93 5 74 rfl rfl) (congrArg Value.bool hc147)) rfl rfl) ?_
                      exact L_nil ⟨rfl, (ext_refl _), _, _, rfl, rfl, rfl⟩
                    refine ops_cons (fun f w_ hS93 hE93 hP93 => ?_) ?_
                    ·
                      have hx := ext_trans hx hE93
                      have hr7_2 := RP.ext hr7_2 hE93
                      refine L_pass (g_no rfl (Eq.trans (hP93 5 74 rfl rfl) (congrArg Value.bool hc147)) rfl rfl) ?_
                      exact L_nil ⟨rfl, (ext_refl _), _, _, rfl, rfl, rfl⟩
                    refine ops_cons (fun f w_ hS93 hE93 hP93 => ?_) ?_
                    ·
                      have hx := ext_trans hx hE93
                      refine L_pass (g_no rfl (Eq.trans (hP93 5 74 rfl rfl) (congrArg Value.bool hc147)) rfl rfl) ?_
                      exact L_nil ⟨rfl, (ext_refl _), _, _, rfl, rfl, rfl⟩
                    refine ops_cons (fun f w_ hS93 hE93 hP93 => ?_) ?_
                    ·
                      have hx := ext_trans hx hE93
                      refine L_pass (g_no rfl (Eq.trans (hP93 5 74 rfl rfl) (congrArg Value.bool hc147)) rfl rfl) ?_
                      exact L_nil ⟨rfl, (ext_refl _), _, _, rfl, rfl, rfl⟩
                    refine ops_cons (fun f w_ hS93 hE93 hP93 => ?_) ?_
                    ·
                      have hx := ext_trans hx hE93
                      refine L_pass (g_no rfl (Eq.trans (hP93 5 74 rfl rfl) (congrArg Value.bool hc147)) rfl rfl) ?_
                      exact L_nil ⟨rfl, (ext_refl _), _, _, rfl, rfl, rfl⟩
                    refine ops_cons (fun f w_ hS93 hE93 hP93 => ?_) ?_
                    ·
                      have hx := ext_trans hx hE93
                      refine L_pass (g_no rfl (Eq.trans (hP93 5 74 rfl rfl) (congrArg Value.bool hc147)) rfl rfl) ?_
                      exact L_nil ⟨rfl, (ext_refl _), _, _, rfl, rfl, rfl⟩
                    refine ops_cons (fun f w_ hS93 hE93 hP93 => ?_) ?_
                    ·
                      have hx := ext_trans hx hE93
                      refine L_pick (v := .bool b89) rfl (Eq.trans (hP93 5 74 rfl rfl) (congrArg Value.bool hc147)) (congrArg Value.bool (so hb89)) ?_
                      exact L_nil ⟨rfl, (ext_refl _), _, _, rfl, rfl, rfl⟩
                    refine ops_cons (fun f w_ hS93 hE93 hP93 => ?_) ?_
                    ·
                      have hx := ext_trans hx hE93
                      refine L_mv (v := .bool b89) rfl (hP93 18 87 rfl rfl) ?_
                      exact L_nil ⟨rfl, (ext_refl _), _, _, rfl, rfl, rfl⟩
                    refine ops_cons (fun f w_ hS93 hE93 hP93 => ?_) ?_
                    ·
                      have hx := ext_trans hx hE93
                      have hr7_0 := RP.ext hr7_0 hE93
                      have ho47 := Own.ext ho47 hE93
                      have hb_g48 := Blk.ext hb_g48 hE93
                      refine L_lda (cs := [r7_0, (.slice (some ⟨g46, 0, none⟩) 3 3)]) (g_yes rfl (Eq.trans (hP93 19 88 rfl rfl) (congrArg Value.bool hc195)) rfl) Try.isAgg26 Try.sizeOf26 ((hS93 6 rfl).trans sf6) (Blk.sub hb_g48 0 2) rfl ?_
                      exact L_nil ⟨rfl, (ext_refl _), _, _, rfl, rfl, rfl⟩
                    refine ops_cons (fun f w_ hS93 hE93 hP93 => ?_) ?_
                    ·
                      have hx := ext_trans hx hE93
                      have hr7_2 := RP.ext hr7_2 hE93
                      refine L_mv (v := r7_2) (g_yes rfl (Eq.trans (hP93 19 88 rfl rfl) (congrArg Value.bool hc195)) rfl) ((hS93 5 rfl).trans sf5) ?_
                      exact L_nil ⟨rfl, (ext_refl _), _, _, rfl, rfl, rfl⟩
                    refine ops_cons (fun f w_ hS93 hE93 hP93 => ?_) ?_
                    ·
                      have hx := ext_trans hx hE93
                      have hr7_2 := RP.ext hr7_2 hE93
                      have hr7_0 := RP.ext hr7_0 hE93
                      have ho47 := Own.ext ho47 hE93
                      refine L_call (args := #[.agg #[r7_0, (.slice (some ⟨g46, 0, none⟩) 3 3)], .int .i64 2, r7_2]) (g_yes rfl (Eq.trans (hP93 19 88 rfl rfl) (congrArg Value.bool hc195)) rfl) Try.call18 (ops3 (hP93 20 89 rfl rfl) rfl (hP93 21 90 rfl rfl)) (i_RuleHolds_c (m := ({ sizes := x2.1.sizes, rules := [({ kind := 4, vars := [0, 1], coefs := [], bound := 0, rows := [] } : Rule), ({ kind := 4, vars := [1, 0], coefs := [], bound := 0, rows := [] } : Rule), ({ kind := 1, vars := [0, 1], coefs := [(-1), 1], bound := 1, rows := [] } : Rule)] } : Model)) (rule := 2) (cells := x2.2.2) (Nat.le_trans hB hx.size) (rel0 hr7_0) (rel0 (Own.rel ho47)) (rel0 hr7_2) hx90) ?_
                      rintro _ w197 ⟨rfl, he197⟩
                      have hr7_2 := RP.ext hr7_2 he197
                      have hr7_0 := RP.ext hr7_0 he197
                      have ho47 := Own.ext ho47 he197
                      have hx := ext_trans hx he197
                      exact L_nil ⟨rfl, he197, _, _, rfl, rfl, rfl⟩
                    refine ops_cons (fun f w_ hS93 hE93 hP93 => ?_) ?_
                    ·
                      have hx := ext_trans hx hE93
                      refine L_mv (v := .bool x51) (g_yes rfl (Eq.trans (hP93 19 88 rfl rfl) (congrArg Value.bool hc195)) rfl) ((hS93 7 rfl).trans sf7) ?_
                      exact L_nil ⟨rfl, (ext_refl _), _, _, rfl, rfl, rfl⟩
                    exact ops_nil
                  ·
                    have hr7_2 := RP.ext hr7_2 hE93
                    have hr7_0 := RP.ext hr7_0 hE93
                    have ho47 := Own.ext ho47 hE93
                    have hb_g48 := Blk.ext hb_g48 hE93
                    have hx := ext_trans hx hE93
                    refine L_beql (b := x90) (c := x51) (g_yes rfl (Eq.trans (hT93 19 88 rfl rfl) (congrArg Value.bool hc195)) rfl) Try.underlying4 (hT93 22 91 rfl rfl) (hT93 23 92 rfl rfl) ?_
                    refine L_pick (v := .bool b92) rfl (Eq.trans (hT93 19 88 rfl rfl) (congrArg Value.bool hc195)) (congrArg Value.bool (so hb92)) ?_
                    refine L_as (v := .bool b92) rfl rfl ?_
                    refine L_nil ?_
                    show R94 _ _
                    rw [hR94]
                    exact ⟨rfl, hx⟩
                ·
                  rw [ite_f hc195] at hb92
                  refine W_drawL 24 [isV (.bool x51), isV (.bool x51), isV (undef), isV (.bool (x51 && x54)), isV (.bool (!(x51 && x54))), isV (.bool (!(x51 && x54))), isV (undef), isV (undef), isV (undef), isV (undef), isV (undef), isV (undef), isV (undef), isV (undef), isV (undef), isV (undef), isV (undef), isV (undef), isV (.bool b89), isV (.bool b89), isV (undef), isV (undef), isV (undef), isV (undef)] Try_mix (by kernel_rfl) (am_cons (mono_V _) (am_cons (mono_V _) (am_cons (mono_V _) (am_cons (mono_V _) (am_cons (mono_V _) (am_cons (mono_V _) (am_cons (mono_V _) (am_cons (mono_V _) (am_cons (mono_V _) (am_cons (mono_V _) (am_cons (mono_V _) (am_cons (mono_V _) (am_cons (mono_V _) (am_cons (mono_V _) (am_cons (mono_V _) (am_cons (mono_V _) (am_cons (mono_V _) (am_cons (mono_V _) (am_cons (mono_V _) (am_cons (mono_V _) (am_cons (mono_V _) (am_cons (mono_V _) (am_cons (mono_V _) (am_cons (mono_V _) am_nil)))))))))))))))))))))))) ?_ (fun f w_ hS93 hE93 hT93 => ?_)
                  ·
                    refine ops_cons (fun f w_ hS93 hE93 hP93 => ?_) ?_
                    ·
                      have hx := ext_trans hx hE93
                      refine L_mv (v := .bool x51) rfl ((hS93 7 rfl).trans sf7) ?_
                      exact L_nil ⟨rfl, (ext_refl _), _, _, rfl, rfl, rfl⟩
                    refine ops_cons (fun f w_ hS93 hE93 hP93 => ?_) ?_
                    ·
                      have hx := ext_trans hx hE93
                      refine L_mv (v := .bool x51) rfl (hP93 0 69 rfl rfl) ?_
                      exact L_nil ⟨rfl, (ext_refl _), _, _, rfl, rfl, rfl⟩
                    refine ops_cons (fun f w_ hS93 hE93 hP93 => ?_) ?_
                    ·
                      have hx := ext_trans hx hE93
                      refine L_pass (g_no rfl (Eq.trans (hP93 1 70 rfl rfl) (congrArg Value.bool hc95)) rfl rfl) ?_
                      exact L_nil ⟨rfl, (ext_refl _), _, _, rfl, rfl, rfl⟩
                    refine ops_cons (fun f w_ hS93 hE93 hP93 => ?_) ?_
                    ·
                      have hx := ext_trans hx hE93
                      refine L_pick (v := .bool (x51 && x54)) rfl (Eq.trans (hP93 1 70 rfl rfl) (congrArg Value.bool hc95)) (and_f hc95) ?_
                      exact L_nil ⟨rfl, (ext_refl _), _, _, rfl, rfl, rfl⟩
                    refine ops_cons (fun f w_ hS93 hE93 hP93 => ?_) ?_
                    ·
                      have hx := ext_trans hx hE93
                      refine L_not_ (b := (x51 && x54)) rfl (hP93 3 72 rfl rfl) ?_
                      exact L_nil ⟨rfl, (ext_refl _), _, _, rfl, rfl, rfl⟩
                    refine ops_cons (fun f w_ hS93 hE93 hP93 => ?_) ?_
                    ·
                      have hx := ext_trans hx hE93
                      refine L_mv (v := .bool (!(x51 && x54))) rfl (hP93 4 73 rfl rfl) ?_
                      exact L_nil ⟨rfl, (ext_refl _), _, _, rfl, rfl, rfl⟩
                    refine ops_cons (fun f w_ hS93 hE93 hP93 => ?_) ?_
                    ·
                      have hx := ext_trans hx hE93
                      refine L_pass (g_no rfl (Eq.trans (hP93 5 74 rfl rfl) (congrArg Value.bool hc147)) rfl rfl) ?_
                      exact L_nil ⟨rfl, (ext_refl _), _, _, rfl, rfl, rfl⟩
                    refine ops_cons (fun f w_ hS93 hE93 hP93 => ?_) ?_
                    ·
                      have hx := ext_trans hx hE93
                      refine L_pass (g_no rfl (Eq.trans (hP93 5 74 rfl rfl) (congrArg Value.bool hc147)) rfl rfl) ?_
                      exact L_nil ⟨rfl, (ext_refl _), _, _, rfl, rfl, rfl⟩
                    refine ops_cons (fun f w_ hS93 hE93 hP93 => ?_) ?_
                    ·
                      have hx := ext_trans hx hE93
                      refine L_pass (g_undef rfl (hP93 7 76 rfl rfl) rfl) ?_
                      exact L_nil ⟨rfl, (ext_refl _), _, _, rfl, rfl, rfl⟩
                    refine ops_cons (fun f w_ hS93 hE93 hP93 => ?_) ?_
                    ·
                      have hx := ext_trans hx hE93
                      refine L_pass (g_no rfl (Eq.trans (hP93 5 74 rfl rfl) (congrArg Value.bool hc147)) rfl rfl) ?_
                      exact L_nil ⟨rfl, (ext_refl _), _, _, rfl, rfl, rfl⟩
                    refine ops_cons (fun f w_ hS93 hE93 hP93 => ?_) ?_
                    ·
                      have hx := ext_trans hx hE93
                      have hr7_2 := RP.ext hr7_2 hE93
                      refine L_pass (g_no rfl (Eq.trans (hP93 5 74 rfl rfl) (congrArg Value.bool hc147)) rfl rfl) ?_
                      exact L_nil ⟨rfl, (ext_refl _), _, _, rfl, rfl, rfl⟩
                    refine ops_cons (fun f w_ hS93 hE93 hP93 => ?_) ?_
                    ·
                      have hx := ext_trans hx hE93
                      refine L_pass (g_no rfl (Eq.trans (hP93 5 74 rfl rfl) (congrArg Value.bool hc147)) rfl rfl) ?_
                      exact L_nil ⟨rfl, (ext_refl _), _, _, rfl, rfl, rfl⟩
                    refine ops_cons (fun f w_ hS93 hE93 hP93 => ?_) ?_
                    ·
                      have hx := ext_trans hx hE93
                      refine L_pass (g_no rfl (Eq.trans (hP93 5 74 rfl rfl) (congrArg Value.bool hc147)) rfl rfl) ?_
                      exact L_nil ⟨rfl, (ext_refl _), _, _, rfl, rfl, rfl⟩
                    refine ops_cons (fun f w_ hS93 hE93 hP93 => ?_) ?_
                    ·
                      have hx := ext_trans hx hE93
                      have hr7_2 := RP.ext hr7_2 hE93
                      refine L_pass (g_no rfl (Eq.trans (hP93 5 74 rfl rfl) (congrArg Value.bool hc147)) rfl rfl) ?_
                      exact L_nil ⟨rfl, (ext_refl _), _, _, rfl, rfl, rfl⟩
                    refine ops_cons (fun f w_ hS93 hE93 hP93 => ?_) ?_
                    ·
                      have hx := ext_trans hx hE93
                      refine L_pass (g_no rfl (Eq.trans (hP93 5 74 rfl rfl) (congrArg Value.bool hc147)) rfl rfl) ?_
                      exact L_nil ⟨rfl, (ext_refl _), _, _, rfl, rfl, rfl⟩
                    refine ops_cons (fun f w_ hS93 hE93 hP93 => ?_) ?_
                    ·
                      have hx := ext_trans hx hE93
                      refine L_pass (g_no rfl (Eq.trans (hP93 5 74 rfl rfl) (congrArg Value.bool hc147)) rfl rfl) ?_
                      exact L_nil ⟨rfl, (ext_refl _), _, _, rfl, rfl, rfl⟩
                    refine ops_cons (fun f w_ hS93 hE93 hP93 => ?_) ?_
                    ·
                      have hx := ext_trans hx hE93
                      refine L_pass (g_no rfl (Eq.trans (hP93 5 74 rfl rfl) (congrArg Value.bool hc147)) rfl rfl) ?_
                      exact L_nil ⟨rfl, (ext_refl _), _, _, rfl, rfl, rfl⟩
                    refine ops_cons (fun f w_ hS93 hE93 hP93 => ?_) ?_
                    ·
                      have hx := ext_trans hx hE93
                      refine L_pass (g_no rfl (Eq.trans (hP93 5 74 rfl rfl) (congrArg Value.bool hc147)) rfl rfl) ?_
                      exact L_nil ⟨rfl, (ext_refl _), _, _, rfl, rfl, rfl⟩
                    refine ops_cons (fun f w_ hS93 hE93 hP93 => ?_) ?_
                    ·
                      have hx := ext_trans hx hE93
                      refine L_pick (v := .bool b89) rfl (Eq.trans (hP93 5 74 rfl rfl) (congrArg Value.bool hc147)) (congrArg Value.bool (so hb89)) ?_
                      exact L_nil ⟨rfl, (ext_refl _), _, _, rfl, rfl, rfl⟩
                    refine ops_cons (fun f w_ hS93 hE93 hP93 => ?_) ?_
                    ·
                      have hx := ext_trans hx hE93
                      refine L_mv (v := .bool b89) rfl (hP93 18 87 rfl rfl) ?_
                      exact L_nil ⟨rfl, (ext_refl _), _, _, rfl, rfl, rfl⟩
                    refine ops_cons (fun f w_ hS93 hE93 hP93 => ?_) ?_
                    ·
                      have hx := ext_trans hx hE93
                      have hr7_0 := RP.ext hr7_0 hE93
                      have ho47 := Own.ext ho47 hE93
                      have hb_g48 := Blk.ext hb_g48 hE93
                      refine L_pass (g_no rfl (Eq.trans (hP93 19 88 rfl rfl) (congrArg Value.bool hc195)) rfl rfl) ?_
                      exact L_nil ⟨rfl, (ext_refl _), _, _, rfl, rfl, rfl⟩
                    refine ops_cons (fun f w_ hS93 hE93 hP93 => ?_) ?_
                    ·
                      have hx := ext_trans hx hE93
                      have hr7_2 := RP.ext hr7_2 hE93
                      refine L_pass (g_no rfl (Eq.trans (hP93 19 88 rfl rfl) (congrArg Value.bool hc195)) rfl rfl) ?_
                      exact L_nil ⟨rfl, (ext_refl _), _, _, rfl, rfl, rfl⟩
                    refine ops_cons (fun f w_ hS93 hE93 hP93 => ?_) ?_
                    ·
                      have hx := ext_trans hx hE93
                      refine L_pass (g_no rfl (Eq.trans (hP93 19 88 rfl rfl) (congrArg Value.bool hc195)) rfl rfl) ?_
                      exact L_nil ⟨rfl, (ext_refl _), _, _, rfl, rfl, rfl⟩
                    refine ops_cons (fun f w_ hS93 hE93 hP93 => ?_) ?_
                    ·
                      have hx := ext_trans hx hE93
                      refine L_pass (g_no rfl (Eq.trans (hP93 19 88 rfl rfl) (congrArg Value.bool hc195)) rfl rfl) ?_
                      exact L_nil ⟨rfl, (ext_refl _), _, _, rfl, rfl, rfl⟩
                    exact ops_nil
                  ·
                    have hr7_2 := RP.ext hr7_2 hE93
                    have hr7_0 := RP.ext hr7_0 hE93
                    have ho47 := Own.ext ho47 hE93
                    have hb_g48 := Blk.ext hb_g48 hE93
                    have hx := ext_trans hx hE93
                    refine L_pass (g_no rfl (Eq.trans (hT93 19 88 rfl rfl) (congrArg Value.bool hc195)) rfl rfl) ?_
                    refine L_pick (v := .bool b92) rfl (Eq.trans (hT93 19 88 rfl rfl) (congrArg Value.bool hc195)) (congrArg Value.bool (so hb92)) ?_
                    refine L_as (v := .bool b92) rfl rfl ?_
                    refine L_nil ?_
                    show R94 _ _
                    rw [hR94]
                    exact ⟨rfl, hx⟩
          ·
            intro f w_ hR
            rw [hR94] at hR
            obtain ⟨sf2, hx⟩ := hR
            clear hR94
            refine W_ret ?_
            obtain rfl := so hF
            refine ret1 Try.results5 ?_
            exact ⟨sf2, hx⟩

end Go.Proofs.Ytcjjfneofcpmfaa

/- Part of a proof by program: W5. -/
import Derived.Test.YtcjjfneofcpmfaaD1
import Derived.Test.YtcjjfneofcpmfaaW4
namespace Go.Proofs.Ytcjjfneofcpmfaa
open Go Go.E Go.L Go.RowKit
set_option linter.unusedVariables false
set_option linter.unusedSimpArgs false
set_option maxRecDepth 100000

theorem i_CountModel_c {fu : Nat} {m : Model} {v0_0 : Value} {v0_1 : Value} {w : World} {B : Nat} (hB : B ≤ w.heap.size) (h0_0 : (RP.slice 3 RP.int).rel B w.heap.size w [v0_0] m.sizes) (h0_1 : (RP.slice 36 (rRule 3 23)).rel B w.heap.size w [v0_1] m.rules) {r : Int} (hF : i_CountModel fu m = some r) :
    C Try.prog 26 #[.agg #[v0_0, v0_1]] w fun v w' => (v = .int .i64 r) ∧ Ext w w' := by
  unfold i_CountModel at hF
  have hx := ext_refl w
  refine C_enter Try.func26 rfl Try.ntmps26 rfl ?_
  refine W_seq ?_
  refine W_region ?_
  refine L_box (v := .agg #[v0_0, v0_1]) (cs := #[v0_0, v0_1]) rfl rfl rfl ?_
  intro g3 w4 hn4
  have hge_g3 := hn4.geS hx.size
  have hb_g3 := hn4.blk
  have h0_0 := RP.ext h0_0 hn4.ext
  have h0_1 := RP.ext h0_1 hn4.ext
  have hx := ext_trans hx hn4.ext
  refine L_as (v := .int .i64 0) rfl rfl ?_
  refine L_nil ?_
  refine W_seq ?_
  refine W_seq ?_
  obtain ⟨x5, hx5, hF⟩ := bind_some hF
  refine W_region ?_
  refine L_lda (cs := [v0_0, v0_1]) rfl Try.isAgg26 Try.sizeOf26 rfl (Blk.sub hb_g3 0 2) rfl ?_
  refine L_call (args := #[.agg #[v0_0, v0_1]]) rfl Try.call28 (ops1 rfl) (i_ModelValid_c (m := m) (Nat.le_trans hB hx.size) (rel0 h0_0) (rel0 h0_1) hx5) ?_
  rintro _ w7 ⟨rfl, he7⟩
  have h0_0 := RP.ext h0_0 he7
  have h0_1 := RP.ext h0_1 he7
  have hb_g3 := Blk.ext hb_g3 he7
  have hx := ext_trans hx he7
  refine L_not_ (b := x5) rfl rfl ?_
  refine L_nil ?_
  refine W_cond (b := (!x5)) rfl (fun hc8 => ?_) (fun hc8 => ?_)
  ·
    have hF := (ite_t hc8).symm.trans hF
    refine W_seq ?_
    refine W_region ?_
    refine L_as (v := .int .i64 0) rfl rfl ?_
    refine L_nil ?_
    refine W_ret ?_
    obtain rfl := so hF
    refine ret1 Try.results26 ?_
    exact ⟨rfl, hx⟩
  ·
    have hF := (ite_f hc8).symm.trans hF
    refine W_skip ?_
    refine W_seq ?_
    refine W_region ?_
    refine L_al (cs := #[.int .i64 0]) rfl Try.zeroValue3 rfl ?_
    intro g12 w13 hn13
    have hge_g12 := hn13.geS hx.size
    have hb_g12 := hn13.blk
    have h0_0 := RP.ext h0_0 hn13.ext
    have h0_1 := RP.ext h0_1 hn13.ext
    have hb_g3 := Blk.ext hb_g3 hn13.ext
    have hx := ext_trans hx hn13.ext
    refine L_st (v := .int .i64 0) rfl Try.sizeOf3 rfl rfl rfl hb_g12 rfl ?_
    intro w14 hp14
    have h0_0 := hp14.mu.rel_lo h0_0 hge_g12
    have h0_1 := hp14.mu.rel_lo h0_1 hge_g12
    have hb_g3 := hp14.mu.blk hb_g3 (by decide)
    have hx := ext_mut hx hp14.mu hge_g12
    have hb_g12 : Blk w14 g12 3 #[.int .i64 0] := hp14.blk
    refine L_nil ?_
    refine W_seq ?_
    obtain ⟨x15, hx15, hF⟩ := bind_some hF
    obtain ⟨g12_0_18, hI19, hF⟩ := bind_some hF
    refine W_drawL 7 [isV (.pointer (some ⟨g3, 0, none⟩)), isV (v0_0), isV (.pointer (some ⟨g3, 0, none⟩)), isV (v0_0), isV (.int .i64 (m.sizes.length : Int)), isOwn B RP.int 3 w.heap.size x15, isV (.func (.func 64) #[] #[.pointer (some ⟨g3, 0, none⟩), .pointer (some ⟨g12, 0, none⟩)])] Try_mix (by kernel_rfl) (am_cons (mono_V _) (am_cons (mono_V _) (am_cons (mono_V _) (am_cons (mono_V _) (am_cons (mono_V _) (am_cons (mono_own _ _ _ _ _) (am_cons (mono_V _) am_nil))))))) ?_ (fun f w_ hS20 hE20 hT20 => ?_)
    ·
      refine ops_cons (fun f w_ hS20 hE20 hP20 => ?_) ?_
      ·
        have hx := ext_trans hx hE20
        have h0_0 := RP.ext h0_0 hE20
        have h0_1 := RP.ext h0_1 hE20
        have hb_g3 := Blk.ext hb_g3 hE20
        refine L_fa (o' := 0) rfl fa_26_0 ((hS20 1 rfl).trans rfl) rfl ?_
        exact L_nil ⟨rfl, (ext_refl _), _, _, rfl, rfl, rfl⟩
      refine ops_cons (fun f w_ hS20 hE20 hP20 => ?_) ?_
      ·
        have hx := ext_trans hx hE20
        have h0_0 := RP.ext h0_0 hE20
        have h0_1 := RP.ext h0_1 hE20
        have hb_g3 := Blk.ext hb_g3 hE20
        refine L_ld (v := v0_0) rfl Try.isAgg23 (hP20 0 7 rfl rfl) (hb_g3.cell (j := 0) rfl) ?_
        exact L_nil ⟨rfl, (ext_refl _), _, _, rfl, rfl, rfl⟩
      refine ops_cons (fun f w_ hS20 hE20 hP20 => ?_) ?_
      ·
        have hx := ext_trans hx hE20
        have h0_0 := RP.ext h0_0 hE20
        have h0_1 := RP.ext h0_1 hE20
        have hb_g3 := Blk.ext hb_g3 hE20
        refine L_fa (o' := 0) rfl fa_26_0 ((hS20 1 rfl).trans rfl) rfl ?_
        exact L_nil ⟨rfl, (ext_refl _), _, _, rfl, rfl, rfl⟩
      refine ops_cons (fun f w_ hS20 hE20 hP20 => ?_) ?_
      ·
        have hx := ext_trans hx hE20
        have h0_0 := RP.ext h0_0 hE20
        have h0_1 := RP.ext h0_1 hE20
        have hb_g3 := Blk.ext hb_g3 hE20
        refine L_ld (v := v0_0) rfl Try.isAgg23 (hP20 2 9 rfl rfl) (hb_g3.cell (j := 0) rfl) ?_
        exact L_nil ⟨rfl, (ext_refl _), _, _, rfl, rfl, rfl⟩
      refine ops_cons (fun f w_ hS20 hE20 hP20 => ?_) ?_
      ·
        have hx := ext_trans hx hE20
        have h0_0 := RP.ext h0_0 hE20
        refine L_len (v := v0_0) rfl Try.underlying23 (hP20 3 10 rfl rfl) h0_0 ?_
        exact L_nil ⟨rfl, (ext_refl _), _, _, rfl, rfl, rfl⟩
      refine ops_cons (fun f w_ hS20 hE20 hP20 => ?_) ?_
      ·
        have hx := ext_trans hx hE20
        refine L_mk (el := B) (r := RP.int) (z0 := 0) (zc := [.int .i64 0]) rfl et_23 (by kernel_rfl) (fun w => rfl) (hP20 4 11 rfl rfl) (hP20 4 11 rfl rfl) hx15 hx.size ?_
        intro v23 w23 ho23 he23 hb23
        have hx := ext_trans hx he23
        exact L_nil ⟨rfl, he23, _, _, rfl, rfl, ho23⟩
      refine ops_cons (fun f w_ hS20 hE20 hP20 => ?_) ?_
      ·
        have hx := ext_trans hx hE20
        have h0_0 := RP.ext h0_0 hE20
        have h0_1 := RP.ext h0_1 hE20
        have hb_g3 := Blk.ext hb_g3 hE20
        have hb_g12 := Blk.ext hb_g12 hE20
        refine L_mf rfl (ops2 ((hS20 1 rfl).trans rfl) ((hS20 3 rfl).trans rfl)) ?_
        exact L_nil ⟨rfl, (ext_refl _), _, _, rfl, rfl, rfl⟩
      exact ops_nil
    ·
      have h0_0 := RP.ext h0_0 hE20
      have h0_1 := RP.ext h0_1 hE20
      have hb_g3 := Blk.ext hb_g3 hE20
      have hb_g12 := Blk.ext hb_g12 hE20
      have hx := ext_trans hx hE20
      have hd24 := (hT20 5 12 rfl rfl)
      obtain ⟨R26, hR26⟩ : ∃ R : Value → World → Prop, R = fun v w_ => v = .tuple #[] ∧ Blk w_ g12 3 #[.int .i64 g12_0_18] ∧ Ext w w_ := ⟨_, rfl⟩
      refine L_call (args := #[v0_0, (f 12), .func (.func 64) #[] #[.pointer (some ⟨g3, 0, none⟩), .pointer (some ⟨g12, 0, none⟩)]]) (R := R26) rfl Try.call63 (ops3 (hT20 1 8 rfl rfl) rfl (hT20 6 13 rfl rfl)) ?_ ?_
      ·
        refine C_enter Try.func63 rfl Try.ntmps63 rfl ?_
        have hA26 := hI19
        unfold i_CountModel_i1 at hA26
        refine W_seq ?_
        obtain ⟨x27, hx27, hA26⟩ := bind_some hA26
        refine W_region ?_
        refine L_mv (v := (f 12)) rfl rfl ?_
        refine L_call (args := #[(f 12)]) rfl Try.call74 (ops1 rfl) (slices_Clone_int_c (s := x15) (Nat.le_trans hB hx.size) (rel0 (Own.rel hd24)) hx27) ?_
        rintro r31_0 w31 ⟨⟨_, rfl, hr31_0⟩, he31⟩
        have ap32 := ap_bc hb_g12 hr31_0
        have ap33 := ap_oc hd24 hr31_0
        have hr31_0 : Own _ _ w.heap.size B _ _ _ := hr31_0.wide hx.size (Nat.le_refl _)
        have h0_0 := RP.ext h0_0 he31
        have h0_1 := RP.ext h0_1 he31
        have hb_g3 := Blk.ext hb_g3 he31
        have hb_g12 := Blk.ext hb_g12 he31
        have hd24 := Own.ext hd24 he31
        have hx := ext_trans hx he31
        refine L_as (v := r31_0) rfl rfl ?_
        refine L_nil ?_
        obtain ⟨j38, hL38, hA26⟩ := bind_some hA26
        obtain ⟨R38, hR38⟩ : ∃ R : Fr → World → Prop, R = fun f w_ => ∃ cells_35 : List Int, ∃ g12_0_36 : Int, j38 = .nx (cells_35, g12_0_36) ∧ Blk w_ g12 3 #[.int .i64 g12_0_36] ∧ Ext w w_ := ⟨_, rfl⟩
        refine W_join R38 ?_ ?_
        ·
          refine W_block ?_
          obtain ⟨I38, hI38⟩ : ∃ I : Nat → Fr → World → Prop, I = fun n f w_ => ∃ cells_35 : List Int, ∃ g12_0_36 : Int, ∃ v35_cells : Value, whileL (i_CountModel_b2 fu m) n (cells_35, g12_0_36) = some j38 ∧ f 0 = v0_0 ∧ f 2 = .func (.func 64) #[] #[.pointer (some ⟨g3, 0, none⟩), .pointer (some ⟨g12, 0, none⟩)] ∧ f 6 = v35_cells ∧ (RP.slice 3 RP.int).rel B w.heap.size w_ [v0_0] m.sizes ∧ Own RP.int 3 w.heap.size B w_ v35_cells cells_35 ∧ Blk w_ g12 3 #[.int .i64 g12_0_36] ∧ (RP.slice 36 (rRule 3 23)).rel B w.heap.size w_ [v0_1] m.rules ∧ Blk w_ g3 26 #[v0_0, v0_1] ∧ Ap (some g12) v35_cells.ownBlock ∧ Ext w w_ := ⟨_, rfl⟩
          refine W_loop I38 (n := fu) ?_ ?_
          · rw [hI38]; exact ⟨x27, 0, r31_0, hL38, rfl, rfl, rfl, h0_0, hr31_0, hb_g12, h0_1, hb_g3, ap32, hx⟩
          ·
            intro n38 f w_ hI
            rw [hI38] at hI
            obtain ⟨cells_35, g12_0_36, v35_cells, hL38, sf0, sf2, sf6, h0_0, hv35_cells, hb_g12, h0_1, hb_g3, aq37, hx⟩ := hI
            cases n38 with
            | zero => exact (while_zero hL38).elim
            | succ n38 =>
              obtain ⟨o38, hB38, hL38⟩ := while_succ hL38
              rw [i_CountModel_b2] at hB38
              refine W_seq ?_
              refine W_seq ?_
              obtain ⟨⟨ret0_39, g12_0_40⟩, hI41, hB38⟩ := bind_some hB38
              refine W_region ?_
              refine L_mv (v := .func (.func 64) #[] #[.pointer (some ⟨g3, 0, none⟩), .pointer (some ⟨g12, 0, none⟩)]) rfl sf2 ?_
              refine L_mv (v := v35_cells) rfl sf6 ?_
              obtain ⟨R44, hR44⟩ : ∃ R : Value → World → Prop, R = fun v w_ => v = .bool ret0_39 ∧ Blk w_ g12 3 #[.int .i64 g12_0_40] ∧ Own RP.int 3 w.heap.size B w_ v35_cells cells_35 ∧ (RP.slice 3 RP.int).rel B w.heap.size w_ [v0_0] m.sizes ∧ (RP.slice 36 (rRule 3 23)).rel B w.heap.size w_ [v0_1] m.rules ∧ Blk w_ g3 26 #[v0_0, v0_1] ∧ Ext w w_ := ⟨_, rfl⟩
              refine L_callv (args := #[v35_cells]) (R := R44) rfl Try.call64 rfl (ops1 rfl) ?_ ?_
              ·
                show C _ _ #[v35_cells, .pointer (some ⟨g3, 0, none⟩), .pointer (some ⟨g12, 0, none⟩)] _ _
                refine C_enter Try.func64 rfl Try.ntmps64 rfl ?_
                have hA44 := hI41
                unfold i_CountModel_i3 at hA44
                refine W_seq ?_
                refine W_region ?_
                refine L_as (v := .bool false) rfl rfl ?_
                refine L_nil ?_
                refine W_seq ?_
                refine W_seq ?_
                obtain ⟨x45, hx45, hA44⟩ := bind_some hA44
                refine W_region ?_
                refine L_lda (cs := [v0_0, v0_1]) rfl Try.isAgg26 Try.sizeOf26 rfl (Blk.sub hb_g3 0 2) rfl ?_
                refine L_mv (v := v35_cells) rfl rfl ?_
                refine L_call (args := #[.agg #[v0_0, v0_1], v35_cells]) rfl Try.call59 (ops2 rfl rfl) (i_Model_solves_c (m := m) (cells := cells_35) (Nat.le_trans hB hx.size) (rel0 h0_0) (rel0 h0_1) (rel0 (Own.rel hv35_cells)) hx45) ?_
                rintro _ w47 ⟨rfl, he47⟩
                have h0_0 := RP.ext h0_0 he47
                have hv35_cells := Own.ext hv35_cells he47
                have hb_g12 := Blk.ext hb_g12 he47
                have h0_1 := RP.ext h0_1 he47
                have hb_g3 := Blk.ext hb_g3 he47
                have hx := ext_trans hx he47
                refine L_nil ?_
                obtain ⟨g12_0_48, hA49, hA44⟩ := bind_some hA44
                obtain ⟨R49, hR49⟩ : ∃ R : Fr → World → Prop, R = fun f w_ => Own RP.int 3 w.heap.size B w_ v35_cells cells_35 ∧ Blk w_ g12 3 #[.int .i64 g12_0_48] ∧ (RP.slice 3 RP.int).rel B w.heap.size w_ [v0_0] m.sizes ∧ (RP.slice 36 (rRule 3 23)).rel B w.heap.size w_ [v0_1] m.rules ∧ Blk w_ g3 26 #[v0_0, v0_1] ∧ Ext w w_ := ⟨_, rfl⟩
                refine W_join R49 ?_ ?_
                ·
                  refine W_cond (b := x45) rfl (fun hc50 => ?_) (fun hc50 => ?_)
                  ·
                    have hA49 := (ite_t hc50).symm.trans hA49
                    refine W_region ?_
                    refine L_ld (v := .int .i64 g12_0_36) rfl Try.isAgg3 rfl (hb_g12.cell (j := 0) rfl) ?_
                    refine L_add (m := g12_0_36) (n := 1) rfl rfl rfl ?_
                    refine L_st (v := .int .i64 (i64 (g12_0_36 + 1))) rfl Try.sizeOf3 rfl rfl rfl hb_g12 rfl ?_
                    intro w52 hp52
                    have h0_0 := hp52.mu.rel_lo h0_0 hge_g12
                    have hv35_cells := hp52.mu.ownA hv35_cells aq37 (by decide) (Nat.le_trans hB hge_g12)
                    have h0_1 := hp52.mu.rel_lo h0_1 hge_g12
                    have hb_g3 := hp52.mu.blk hb_g3 (by decide)
                    have hx := ext_mut hx hp52.mu hge_g12
                    have hb_g12 : Blk w52 g12 3 #[.int .i64 (i64 (g12_0_36 + 1))] := hp52.blk
                    refine L_nil ?_
                    obtain rfl := so hA49
                    show R49 _ _
                    rw [hR49]
                    exact ⟨hv35_cells, hb_g12, h0_0, h0_1, hb_g3, hx⟩
                  ·
                    have hA49 := (ite_f hc50).symm.trans hA49
                    refine W_skip ?_
                    obtain rfl := so hA49
                    show R49 _ _
                    rw [hR49]
                    exact ⟨hv35_cells, hb_g12, h0_0, h0_1, hb_g3, hx⟩
                ·
                  intro f w_ hR
                  rw [hR49] at hR
                  obtain ⟨hv35_cells, hb_g12, h0_0, h0_1, hb_g3, hx⟩ := hR
                  clear hR49
                  refine W_seq ?_
                  refine W_region ?_
                  refine L_as (v := .bool true) rfl rfl ?_
                  refine L_nil ?_
                  refine W_ret ?_
                  obtain ⟨rfl, rfl⟩ := so2 hA44
                  refine ret1 Try.results64 ?_
                  show R44 _ _
                  rw [hR44]
                  exact ⟨rfl, hb_g12, hv35_cells, h0_0, h0_1, hb_g3, hx⟩
              intro v_44 w_ hR
              rw [hR44] at hR
              obtain ⟨rfl, hb_g12, hv35_cells, h0_0, h0_1, hb_g3, hx⟩ := hR
              clear hR44
              refine L_nil ?_
              refine W_cond (b := ret0_39) rfl (fun hc53 => ?_) (fun hc53 => ?_)
              ·
                have hB38 := (ite_t hc53).symm.trans hB38
                refine W_skip ?_
                refine W_block ?_
                refine W_seq ?_
                refine W_region ?_
                refine L_mv (v := v35_cells) rfl sf6 ?_
                refine L_len (v := v35_cells) rfl Try.underlying23 rfl (Own.rel hv35_cells) ?_
                refine L_sub (m := (cells_35.length : Int)) (n := 1) rfl rfl rfl ?_
                refine L_as (v := .int .i64 (i64 ((cells_35.length : Int) - 1))) rfl rfl ?_
                refine L_nil ?_
                refine W_seq ?_
                obtain ⟨j58, hL58, hB38⟩ := bind_some hB38
                obtain ⟨R58, hR58⟩ : ∃ R : Fr → World → Prop, R = fun f w_ => ∃ cells_55 : List Int, ∃ i_56 : Int, ∃ v55_cells : Value, j58 = .nx (cells_55, i_56) ∧ f 0 = v0_0 ∧ f 2 = .func (.func 64) #[] #[.pointer (some ⟨g3, 0, none⟩), .pointer (some ⟨g12, 0, none⟩)] ∧ f 6 = v55_cells ∧ f 7 = .int .i64 i_56 ∧ (RP.slice 3 RP.int).rel B w.heap.size w_ [v0_0] m.sizes ∧ Own RP.int 3 w.heap.size B w_ v55_cells cells_55 ∧ Blk w_ g12 3 #[.int .i64 g12_0_40] ∧ (RP.slice 36 (rRule 3 23)).rel B w.heap.size w_ [v0_1] m.rules ∧ Blk w_ g3 26 #[v0_0, v0_1] ∧ Ap (some g12) v55_cells.ownBlock ∧ Ext w w_ := ⟨_, rfl⟩
                refine W_join R58 ?_ ?_
                ·
                  refine W_block ?_
                  obtain ⟨I58, hI58⟩ : ∃ I : Nat → Fr → World → Prop, I = fun n f w_ => ∃ cells_55 : List Int, ∃ i_56 : Int, ∃ v55_cells : Value, whileL (i_CountModel_b4 m) n (cells_55, i_56) = some j58 ∧ f 0 = v0_0 ∧ f 2 = .func (.func 64) #[] #[.pointer (some ⟨g3, 0, none⟩), .pointer (some ⟨g12, 0, none⟩)] ∧ f 6 = v55_cells ∧ f 7 = .int .i64 i_56 ∧ (RP.slice 3 RP.int).rel B w.heap.size w_ [v0_0] m.sizes ∧ Own RP.int 3 w.heap.size B w_ v55_cells cells_55 ∧ Blk w_ g12 3 #[.int .i64 g12_0_40] ∧ (RP.slice 36 (rRule 3 23)).rel B w.heap.size w_ [v0_1] m.rules ∧ Blk w_ g3 26 #[v0_0, v0_1] ∧ Ap (some g12) v55_cells.ownBlock ∧ Ext w w_ := ⟨_, rfl⟩
                  refine W_loop I58 (n := fu) ?_ ?_
                  · rw [hI58]; exact ⟨cells_35, i64 ((cells_35.length : Int) - 1), v35_cells, hL58, sf0, sf2, sf6, rfl, h0_0, hv35_cells, hb_g12, h0_1, hb_g3, (Ap.symm (Ap.symm aq37)), hx⟩
                  ·
                    intro n58 f w_ hI
                    rw [hI58] at hI
                    obtain ⟨cells_55, i_56, v55_cells, hL58, sf0, sf2, sf6, sf7, h0_0, hv55_cells, hb_g12, h0_1, hb_g3, aq57, hx⟩ := hI
                    cases n58 with
                    | zero => exact (while_zero hL58).elim
                    | succ n58 =>
                      obtain ⟨o58, hB58, hL58⟩ := while_succ hL58
                      rw [i_CountModel_b4] at hB58
                      refine W_seq ?_
                      refine W_seq ?_
                      obtain ⟨b65, hb65, hB58⟩ := bind_some hB58
                      obtain ⟨R67, hR67⟩ : ∃ R : Fr → World → Prop, R = fun f w_ => f 0 = v0_0 ∧ f 2 = .func (.func 64) #[] #[.pointer (some ⟨g3, 0, none⟩), .pointer (some ⟨g12, 0, none⟩)] ∧ f 6 = v55_cells ∧ f 7 = .int .i64 i_56 ∧ f 28 = .bool b65 ∧ (RP.slice 3 RP.int).rel B w.heap.size w_ [v0_0] m.sizes ∧ Own RP.int 3 w.heap.size B w_ v55_cells cells_55 ∧ Blk w_ g12 3 #[.int .i64 g12_0_40] ∧ (RP.slice 36 (rRule 3 23)).rel B w.heap.size w_ [v0_1] m.rules ∧ Blk w_ g3 26 #[v0_0, v0_1] ∧ Ext w w_ := ⟨_, rfl⟩
                      refine W_join R67 ?_ ?_
                      ·
                        rcases Bool.eq_false_or_eq_true (decide (i_56 ≥ 0)) with hc68 | hc68
                        ·
                          rw [ite_t hc68] at hb65
                          obtain ⟨x59, hx59, hb65⟩ := bind_some hb65
                          obtain ⟨x62, hx62, hb65⟩ := bind_some hb65
                          refine W_drawL 11 [isV (.int .i64 i_56), isV (.bool (decide (i_56 ≥ 0))), isV (.bool (decide (i_56 ≥ 0))), isV (v55_cells), isV (.int .i64 i_56), isEl B RP.int x59 0, isV (.int .i64 x59), isV (v0_0), isV (.int .i64 i_56), isEl B RP.int x62 0, isV (.int .i64 x62)] Try_mix (by kernel_rfl) (am_cons (mono_V _) (am_cons (mono_V _) (am_cons (mono_V _) (am_cons (mono_V _) (am_cons (mono_V _) (am_cons (mono_el _ _ _ _) (am_cons (mono_V _) (am_cons (mono_V _) (am_cons (mono_V _) (am_cons (mono_el _ _ _ _) (am_cons (mono_V _) am_nil))))))))))) ?_ (fun f w_ hS66 hE66 hT66 => ?_)
                          ·
                            refine ops_cons (fun f w_ hS66 hE66 hP66 => ?_) ?_
                            ·
                              have hx := ext_trans hx hE66
                              refine L_mv (v := .int .i64 i_56) rfl ((hS66 7 rfl).trans sf7) ?_
                              exact L_nil ⟨rfl, (ext_refl _), _, _, rfl, rfl, rfl⟩
                            refine ops_cons (fun f w_ hS66 hE66 hP66 => ?_) ?_
                            ·
                              have hx := ext_trans hx hE66
                              refine L_geq (m := i_56) (n := 0) rfl (hP66 0 16 rfl rfl) rfl ?_
                              exact L_nil ⟨rfl, (ext_refl _), _, _, rfl, rfl, rfl⟩
                            refine ops_cons (fun f w_ hS66 hE66 hP66 => ?_) ?_
                            ·
                              have hx := ext_trans hx hE66
                              refine L_mv (v := .bool (decide (i_56 ≥ 0))) rfl (hP66 1 17 rfl rfl) ?_
                              exact L_nil ⟨rfl, (ext_refl _), _, _, rfl, rfl, rfl⟩
                            refine ops_cons (fun f w_ hS66 hE66 hP66 => ?_) ?_
                            ·
                              have hx := ext_trans hx hE66
                              have hv55_cells := Own.ext hv55_cells hE66
                              refine L_mv (v := v55_cells) (g_yes rfl (Eq.trans (hP66 2 18 rfl rfl) (congrArg Value.bool hc68)) rfl) ((hS66 6 rfl).trans sf6) ?_
                              exact L_nil ⟨rfl, (ext_refl _), _, _, rfl, rfl, rfl⟩
                            refine ops_cons (fun f w_ hS66 hE66 hP66 => ?_) ?_
                            ·
                              have hx := ext_trans hx hE66
                              refine L_mv (v := .int .i64 i_56) (g_yes rfl (Eq.trans (hP66 2 18 rfl rfl) (congrArg Value.bool hc68)) rfl) ((hS66 7 rfl).trans sf7) ?_
                              exact L_nil ⟨rfl, (ext_refl _), _, _, rfl, rfl, rfl⟩
                            refine ops_cons (fun f w_ hS66 hE66 hP66 => ?_) ?_
                            ·
                              have hx := ext_trans hx hE66
                              have hv55_cells := Own.ext hv55_cells hE66
                              refine L_ix (r := RP.int) (g_yes rfl (Eq.trans (hP66 2 18 rfl rfl) (congrArg Value.bool hc68)) rfl) Try.underlying23 Try.sizeOf3 (hP66 3 19 rfl rfl) (Own.rel hv55_cells) (hP66 4 20 rfl rfl) hx59 ?_
                              intro g73 o74 cs74 hr74 hat74
                              obtain rfl : _ = [_] := hr74
                              exact L_nil ⟨rfl, (ext_refl _), _, _, rfl, rfl, ⟨_, _, _, rfl, rfl, hat74⟩⟩
                            refine ops_cons (fun f w_ hS66 hE66 hP66 => ?_) ?_
                            ·
                              have hx := ext_trans hx hE66
                              obtain ⟨g75, o75, cs75, hv75, hr75, hat75⟩ := (hP66 5 21 rfl rfl)
                              obtain rfl : _ = [_] := hr75
                              refine L_ld (v := .int .i64 x59) (g_yes rfl (Eq.trans (hP66 2 18 rfl rfl) (congrArg Value.bool hc68)) rfl) Try.isAgg3 hv75 (hat75.cell (j := 0) rfl) ?_
                              exact L_nil ⟨rfl, (ext_refl _), _, _, rfl, rfl, rfl⟩
                            refine ops_cons (fun f w_ hS66 hE66 hP66 => ?_) ?_
                            ·
                              have hx := ext_trans hx hE66
                              have h0_0 := RP.ext h0_0 hE66
                              refine L_mv (v := v0_0) (g_yes rfl (Eq.trans (hP66 2 18 rfl rfl) (congrArg Value.bool hc68)) rfl) ((hS66 0 rfl).trans sf0) ?_
                              exact L_nil ⟨rfl, (ext_refl _), _, _, rfl, rfl, rfl⟩
                            refine ops_cons (fun f w_ hS66 hE66 hP66 => ?_) ?_
                            ·
                              have hx := ext_trans hx hE66
                              refine L_mv (v := .int .i64 i_56) (g_yes rfl (Eq.trans (hP66 2 18 rfl rfl) (congrArg Value.bool hc68)) rfl) ((hS66 7 rfl).trans sf7) ?_
                              exact L_nil ⟨rfl, (ext_refl _), _, _, rfl, rfl, rfl⟩
                            refine ops_cons (fun f w_ hS66 hE66 hP66 => ?_) ?_
                            ·
                              have hx := ext_trans hx hE66
                              have h0_0 := RP.ext h0_0 hE66
                              refine L_ix (r := RP.int) (g_yes rfl (Eq.trans (hP66 2 18 rfl rfl) (congrArg Value.bool hc68)) rfl) Try.underlying23 Try.sizeOf3 (hP66 7 23 rfl rfl) h0_0 (hP66 8 24 rfl rfl) hx62 ?_
                              intro g76 o77 cs77 hr77 hat77
                              obtain rfl : _ = [_] := hr77
                              exact L_nil ⟨rfl, (ext_refl _), _, _, rfl, rfl, ⟨_, _, _, rfl, rfl, hat77⟩⟩
                            refine ops_cons (fun f w_ hS66 hE66 hP66 => ?_) ?_
                            ·
                              have hx := ext_trans hx hE66
                              obtain ⟨g78, o78, cs78, hv78, hr78, hat78⟩ := (hP66 9 25 rfl rfl)
                              obtain rfl : _ = [_] := hr78
                              refine L_ld (v := .int .i64 x62) (g_yes rfl (Eq.trans (hP66 2 18 rfl rfl) (congrArg Value.bool hc68)) rfl) Try.isAgg3 hv78 (hat78.cell (j := 0) rfl) ?_
                              exact L_nil ⟨rfl, (ext_refl _), _, _, rfl, rfl, rfl⟩
                            exact ops_nil
                          ·
                            have h0_0 := RP.ext h0_0 hE66
                            have hv55_cells := Own.ext hv55_cells hE66
                            have hb_g12 := Blk.ext hb_g12 hE66
                            have h0_1 := RP.ext h0_1 hE66
                            have hb_g3 := Blk.ext hb_g3 hE66
                            have hx := ext_trans hx hE66
                            refine L_eql (m := x59) (n := x62) (g_yes rfl (Eq.trans (hT66 2 18 rfl rfl) (congrArg Value.bool hc68)) rfl) (hT66 6 22 rfl rfl) (hT66 10 26 rfl rfl) ?_
                            refine L_pick (v := .bool b65) rfl (Eq.trans (hT66 2 18 rfl rfl) (congrArg Value.bool hc68)) (congrArg Value.bool (so hb65)) ?_
                            refine L_nil ?_
                            show R67 _ _
                            rw [hR67]
                            exact ⟨((hS66 0 rfl).trans sf0), ((hS66 2 rfl).trans sf2), ((hS66 6 rfl).trans sf6), ((hS66 7 rfl).trans sf7), rfl, h0_0, hv55_cells, hb_g12, h0_1, hb_g3, hx⟩
                        ·
                          rw [ite_f hc68] at hb65
                          refine W_drawL 11 [isV (.int .i64 i_56), isV (.bool (decide (i_56 ≥ 0))), isV (.bool (decide (i_56 ≥ 0))), isV (undef), isV (undef), isV (undef), isV (undef), isV (undef), isV (undef), isV (undef), isV (undef)] Try_mix (by kernel_rfl) (am_cons (mono_V _) (am_cons (mono_V _) (am_cons (mono_V _) (am_cons (mono_V _) (am_cons (mono_V _) (am_cons (mono_V _) (am_cons (mono_V _) (am_cons (mono_V _) (am_cons (mono_V _) (am_cons (mono_V _) (am_cons (mono_V _) am_nil))))))))))) ?_ (fun f w_ hS66 hE66 hT66 => ?_)
                          ·
                            refine ops_cons (fun f w_ hS66 hE66 hP66 => ?_) ?_
                            ·
                              have hx := ext_trans hx hE66
                              refine L_mv (v := .int .i64 i_56) rfl ((hS66 7 rfl).trans sf7) ?_
                              exact L_nil ⟨rfl, (ext_refl _), _, _, rfl, rfl, rfl⟩
                            refine ops_cons (fun f w_ hS66 hE66 hP66 => ?_) ?_
                            ·
                              have hx := ext_trans hx hE66
                              refine L_geq (m := i_56) (n := 0) rfl (hP66 0 16 rfl rfl) rfl ?_
                              exact L_nil ⟨rfl, (ext_refl _), _, _, rfl, rfl, rfl⟩
                            refine ops_cons (fun f w_ hS66 hE66 hP66 => ?_) ?_
                            ·
                              have hx := ext_trans hx hE66
                              refine L_mv (v := .bool (decide (i_56 ≥ 0))) rfl (hP66 1 17 rfl rfl) ?_
                              exact L_nil ⟨rfl, (ext_refl _), _, _, rfl, rfl, rfl⟩
                            refine ops_cons (fun f w_ hS66 hE66 hP66 => ?_) ?_
                            ·
                              have hx := ext_trans hx hE66
                              have hv55_cells := Own.ext hv55_cells hE66
                              refine L_pass (g_no rfl (Eq.trans (hP66 2 18 rfl rfl) (congrArg Value.bool hc68)) rfl rfl) ?_
                              exact L_nil ⟨rfl, (ext_refl _), _, _, rfl, rfl, rfl⟩
                            refine ops_cons (fun f w_ hS66 hE66 hP66 => ?_) ?_
                            ·
                              have hx := ext_trans hx hE66
                              refine L_pass (g_no rfl (Eq.trans (hP66 2 18 rfl rfl) (congrArg Value.bool hc68)) rfl rfl) ?_
                              exact L_nil ⟨rfl, (ext_refl _), _, _, rfl, rfl, rfl⟩
                            refine ops_cons (fun f w_ hS66 hE66 hP66 => ?_) ?_
                            ·
                              have hx := ext_trans hx hE66
                              refine L_pass (g_no rfl (Eq.trans (hP66 2 18 rfl rfl) (congrArg Value.bool hc68)) rfl rfl) ?_
                              exact L_nil ⟨rfl, (ext_refl _), _, _, rfl, rfl, rfl⟩
                            refine ops_cons (fun f w_ hS66 hE66 hP66 => ?_) ?_
                            ·
                              have hx := ext_trans hx hE66
                              refine L_pass (g_no rfl (Eq.trans (hP66 2 18 rfl rfl) (congrArg Value.bool hc68)) rfl rfl) ?_
                              exact L_nil ⟨rfl, (ext_refl _), _, _, rfl, rfl, rfl⟩
                            refine ops_cons (fun f w_ hS66 hE66 hP66 => ?_) ?_
                            ·
                              have hx := ext_trans hx hE66
                              have h0_0 := RP.ext h0_0 hE66
                              refine L_pass (g_no rfl (Eq.trans (hP66 2 18 rfl rfl) (congrArg Value.bool hc68)) rfl rfl) ?_
                              exact L_nil ⟨rfl, (ext_refl _), _, _, rfl, rfl, rfl⟩
                            refine ops_cons (fun f w_ hS66 hE66 hP66 => ?_) ?_
                            ·
                              have hx := ext_trans hx hE66
                              refine L_pass (g_no rfl (Eq.trans (hP66 2 18 rfl rfl) (congrArg Value.bool hc68)) rfl rfl) ?_
                              exact L_nil ⟨rfl, (ext_refl _), _, _, rfl, rfl, rfl⟩
                            refine ops_cons (fun f w_ hS66 hE66 hP66 => ?_) ?_
                            ·
                              have hx := ext_trans hx hE66
                              refine L_pass (g_no rfl (Eq.trans (hP66 2 18 rfl rfl) (congrArg Value.bool hc68)) rfl rfl) ?_
                              exact L_nil ⟨rfl, (ext_refl _), _, _, rfl, rfl, rfl⟩
                            refine ops_cons (fun f w_ hS66 hE66 hP66 => ?_) ?_
                            ·
                              have hx := ext_trans hx hE66
                              refine L_pass (g_no rfl (Eq.trans (hP66 2 18 rfl rfl) (congrArg Value.bool hc68)) rfl rfl) ?_
                              exact L_nil ⟨rfl, (ext_refl _), _, _, rfl, rfl, rfl⟩
                            exact ops_nil
                          ·
                            have h0_0 := RP.ext h0_0 hE66
                            have hv55_cells := Own.ext hv55_cells hE66
                            have hb_g12 := Blk.ext hb_g12 hE66
                            have h0_1 := RP.ext h0_1 hE66
                            have hb_g3 := Blk.ext hb_g3 hE66
                            have hx := ext_trans hx hE66
                            refine L_pass (g_no rfl (Eq.trans (hT66 2 18 rfl rfl) (congrArg Value.bool hc68)) rfl rfl) ?_
                            refine L_pick (v := .bool b65) rfl (Eq.trans (hT66 2 18 rfl rfl) (congrArg Value.bool hc68)) (congrArg Value.bool (so hb65)) ?_
                            refine L_nil ?_
                            show R67 _ _
                            rw [hR67]
                            exact ⟨((hS66 0 rfl).trans sf0), ((hS66 2 rfl).trans sf2), ((hS66 6 rfl).trans sf6), ((hS66 7 rfl).trans sf7), rfl, h0_0, hv55_cells, hb_g12, h0_1, hb_g3, hx⟩
                      ·
                        intro f w_ hR
                        rw [hR67] at hR
                        obtain ⟨sf0, sf2, sf6, sf7, sf28, h0_0, hv55_cells, hb_g12, h0_1, hb_g3, hx⟩ := hR
                        clear hR67
                        refine W_cond (b := b65) sf28 (fun hc79 => ?_) (fun hc79 => ?_)
                        ·
                          have hB58 := (ite_t hc79).symm.trans hB58
                          refine W_skip ?_
                          refine W_block ?_
                          refine W_seq ?_
                          obtain ⟨x80, hx80, hB58⟩ := bind_some hB58
                          refine W_region ?_
                          refine L_mv (v := v55_cells) rfl sf6 ?_
                          refine L_mv (v := .int .i64 i_56) rfl sf7 ?_
                          refine L_ixo (r := RP.int) rfl et_23 rfl hv55_cells rfl hx80 ?_
                          intro g84 c85 cs85 hg85 hl85 hc85 hr85 hj85
                          obtain rfl : cs85 = [_] := hr85
                          refine L_st (v := .int .i64 0) rfl Try.sizeOf3 rfl rfl rfl hc85 (hj85 0 _ rfl) ?_
                          intro w86 hp86
                          have hv55_cells_n : Own RP.int 3 _ B w86 _ (cells_55.set (Int.toNat i_56) 0) := own_set hv55_cells hg85 rfl (by decide) (idx_some hx80).2.2 hc85 hp86 rfl hB
                          have h0_0 := hp86.mu.rel_lo h0_0 hl85
                          have hb_g12 := hp86.mu.blkA hb_g12 (ap_eq hg85 (Ap.symm aq57))
                          have h0_1 := hp86.mu.rel_lo h0_1 hl85
                          have hb_g3 := hp86.mu.blk hb_g3 (by decide)
                          have hx := ext_mut hx hp86.mu hl85
                          have hv55_cells := hv55_cells_n
                          refine L_nil ?_
                          refine W_region ?_
                          refine L_mv (v := .int .i64 i_56) rfl sf7 ?_
                          refine L_sub (m := i_56) (n := 1) rfl rfl rfl ?_
                          refine L_as (v := .int .i64 (i64 (i_56 - 1))) rfl rfl ?_
                          refine L_nil ?_
                          obtain rfl := so hB58
                          show ∃ m, m < _ ∧ I58 m _ _
                          refine ⟨n58, Nat.lt_succ_self _, ?_⟩
                          rw [hI58]
                          exact ⟨(cells_55.set (Int.toNat i_56) 0), i64 (i_56 - 1), v55_cells, hL58, sf0, sf2, sf6, rfl, h0_0, hv55_cells, hb_g12, h0_1, hb_g3, aq57, hx⟩
                        ·
                          have hB58 := (ite_f hc79).symm.trans hB58
                          refine W_exit ?_
                          obtain rfl := so hB58
                          obtain rfl := so hL58
                          show R58 _ _
                          rw [hR58]
                          exact ⟨cells_55, i_56, v55_cells, rfl, sf0, sf2, sf6, sf7, h0_0, hv55_cells, hb_g12, h0_1, hb_g3, aq57, hx⟩
                ·
                  intro f w_ hR
                  rw [hR58] at hR
                  obtain ⟨cells_55, i_56, v55_cells, rfl, sf0, sf2, sf6, sf7, h0_0, hv55_cells, hb_g12, h0_1, hb_g3, aq57, hx⟩ := hR
                  clear hR58
                  refine W_seq ?_
                  refine W_seq ?_
                  refine W_region ?_
                  refine L_mv (v := .int .i64 i_56) rfl sf7 ?_
                  refine L_lss (m := i_56) (n := 0) rfl rfl rfl ?_
                  refine L_nil ?_
                  refine W_cond (b := decide (i_56 < 0)) rfl (fun hc87 => ?_) (fun hc87 => ?_)
                  ·
                    have hB38 := (ite_t hc87).symm.trans hB38
                    refine W_ret ?_
                    obtain rfl := so hB38
                    obtain rfl := so hL38
                    obtain rfl := so hA26
                    refine ret0 Try.results63 ?_
                    show R26 _ _
                    rw [hR26]
                    exact ⟨rfl, hb_g12, hx⟩
                  ·
                    have hB38 := (ite_f hc87).symm.trans hB38
                    refine W_skip ?_
                    obtain ⟨x88, hx88, hB38⟩ := bind_some hB38
                    refine W_region ?_
                    refine L_mv (v := v55_cells) rfl sf6 ?_
                    refine L_mv (v := .int .i64 i_56) rfl sf7 ?_
                    refine L_ix (r := RP.int) rfl Try.underlying23 Try.sizeOf3 rfl (Own.rel hv55_cells) rfl hx88 ?_
                    intro g94 o95 cs95 hr95 hat95
                    obtain rfl : _ = [_] := hr95
                    refine L_ld (v := .int .i64 x88) rfl Try.isAgg3 rfl (hat95.cell (j := 0) rfl) ?_
                    refine L_add (m := x88) (n := 1) rfl rfl rfl ?_
                    refine L_ixo (r := RP.int) rfl et_23 rfl hv55_cells rfl hx88 ?_
                    intro g96 c97 cs97 hg97 hl97 hc97 hr97 hj97
                    obtain rfl : cs97 = [_] := hr97
                    refine L_st (v := .int .i64 (i64 (x88 + 1))) rfl Try.sizeOf3 rfl rfl rfl hc97 (hj97 0 _ rfl) ?_
                    intro w98 hp98
                    have hv55_cells_n : Own RP.int 3 _ B w98 _ (cells_55.set (Int.toNat i_56) (i64 (x88 + 1))) := own_set hv55_cells hg97 rfl (by decide) (idx_some hx88).2.2 hc97 hp98 rfl hB
                    have h0_0 := hp98.mu.rel_lo h0_0 hl97
                    have hb_g12 := hp98.mu.blkA hb_g12 (ap_eq hg97 (Ap.symm aq57))
                    have h0_1 := hp98.mu.rel_lo h0_1 hl97
                    have hb_g3 := hp98.mu.blk hb_g3 (by decide)
                    have hx := ext_mut hx hp98.mu hl97
                    have hv55_cells := hv55_cells_n
                    refine L_nil ?_
                    obtain rfl := so hB38
                    show ∃ m, m < _ ∧ I38 m _ _
                    refine ⟨n38, Nat.lt_succ_self _, ?_⟩
                    rw [hI38]
                    exact ⟨(cells_55.set (Int.toNat i_56) (i64 (x88 + 1))), g12_0_40, v55_cells, hL38, sf0, sf2, sf6, h0_0, hv55_cells, hb_g12, h0_1, hb_g3, aq57, hx⟩
              ·
                have hB38 := (ite_f hc53).symm.trans hB38
                refine W_exit ?_
                obtain rfl := so hB38
                obtain rfl := so hL38
                show R38 _ _
                rw [hR38]
                exact ⟨cells_35, g12_0_40, rfl, hb_g12, hx⟩
        ·
          intro f w_ hR
          rw [hR38] at hR
          obtain ⟨cells_35, g12_0_36, rfl, hb_g12, hx⟩ := hR
          clear hR38
          obtain rfl := so hA26
          refine end0 Try.results63 ?_
          show R26 _ _
          rw [hR26]
          exact ⟨rfl, hb_g12, hx⟩
      intro v_26 w_ hR
      rw [hR26] at hR
      obtain ⟨rfl, hb_g12, hx⟩ := hR
      clear hR26
      refine L_nil ?_
      refine W_seq ?_
      refine W_region ?_
      refine L_ld (v := .int .i64 g12_0_18) rfl Try.isAgg3 ((hS20 3 rfl).trans rfl) (hb_g12.cell (j := 0) rfl) ?_
      refine L_as (v := .int .i64 g12_0_18) rfl rfl ?_
      refine L_nil ?_
      refine W_ret ?_
      obtain rfl := so hF
      refine ret1 Try.results26 ?_
      exact ⟨rfl, hx⟩

theorem s_l6Next_c {fu : Nat} {m : Model} {cells : List Int} {v0_0 : Value} {v0_1 : Value} {v1 : Value} {w : World} {B : Nat} (hB : B ≤ w.heap.size) (h0_0 : (RP.slice 3 RP.int).rel B w.heap.size w [v0_0] m.sizes) (h0_1 : (RP.slice 36 (rRule 3 23)).rel B w.heap.size w [v0_1] m.rules) (h1 : (RP.slice 3 RP.int).rel B w.heap.size w [v1] cells) {r : (List Int) × Bool} (hF : s_l6Next fu m cells = some r) :
    C Try.prog 65 #[.agg #[v0_0, v0_1], v1] w fun v w' => (∃ u1 : Value, v = .tuple #[u1, .bool r.2] ∧ Own RP.int 3 w.heap.size B w' u1 r.1) ∧ Ext w w' := by
  unfold s_l6Next at hF
  have hx := ext_refl w
  refine C_enter Try.func65 rfl Try.ntmps65 rfl ?_
  refine W_seq ?_
  refine W_region ?_
  refine L_box (v := .agg #[v0_0, v0_1]) (cs := #[v0_0, v0_1]) rfl rfl rfl ?_
  intro g3 w4 hn4
  have hge_g3 := hn4.geS hx.size
  have hb_g3 := hn4.blk
  have h0_0 := RP.ext h0_0 hn4.ext
  have h0_1 := RP.ext h0_1 hn4.ext
  have h1 := RP.ext h1 hn4.ext
  have hx := ext_trans hx hn4.ext
  refine L_as (v := (.slice none 0 0)) rfl rfl ?_
  refine L_as (v := .bool false) rfl rfl ?_
  refine L_nil ?_
  refine W_seq ?_
  obtain ⟨x7, hx7, hF⟩ := bind_some hF
  refine W_region ?_
  refine L_bs rfl parts0 (bs_23_0  ) ?_
  intro g9 w10 hn10
  have ho10 : Own RP.int 3 w.heap.size B w10 _ _ := own_new0 hn10 hx.size
  have hz10 := zero_new hn10 hx.size
  have h0_0 := RP.ext h0_0 hn10.ext
  have h0_1 := RP.ext h0_1 hn10.ext
  have h1 := RP.ext h1 hn10.ext
  have hb_g3 := Blk.ext hb_g3 hn10.ext
  have hx := ext_trans hx hn10.ext
  refine L_mv (v := v1) rfl rfl ?_
  refine L_app (v := (.slice (some ⟨g9, 0, none⟩) 0 0)) (u := v1) rfl et_23 (by decide) rfl rfl ho10 (rel0 h1) hx7 hx.size hB ?_
  intro v11 w11 ho11 hm11 hb11
  have h0_0 := hm11.rel_lo h0_0 (Nat.le_refl _)
  have h0_1 := hm11.rel_lo h0_1 (Nat.le_refl _)
  have hb_g3 := hm11.blk hb_g3 (by decide)
  have hx := ext_mut hx hm11 (Nat.le_refl _)
  refine L_as (v := v11) rfl rfl ?_
  refine L_nil ?_
  refine W_seq ?_
  refine W_seq ?_
  refine W_region ?_
  refine L_mv (v := v11) rfl rfl ?_
  refine L_len (v := v11) rfl Try.underlying23 rfl (Own.rel ho11) ?_
  refine L_sub (m := (x7.length : Int)) (n := 1) rfl rfl rfl ?_
  refine L_as (v := .int .i64 (i64 ((x7.length : Int) - 1))) rfl rfl ?_
  refine L_nil ?_
  obtain ⟨j15, hL15, hF⟩ := bind_some hF
  obtain ⟨R15, hR15⟩ : ∃ R : Fr → World → Prop, R = fun f w_ => ∃ out_13 : List Int, ∃ i_14 : Int, ∃ v13_out : Value, j15 = .nx (out_13, i_14) ∧ f 6 = v13_out ∧ Own RP.int 3 w.heap.size B w_ v13_out out_13 ∧ Ext w w_ := ⟨_, rfl⟩
  refine W_join R15 ?_ ?_
  ·
    refine W_block ?_
    obtain ⟨I15, hI15⟩ : ∃ I : Nat → Fr → World → Prop, I = fun n f w_ => ∃ out_13 : List Int, ∃ i_14 : Int, ∃ v13_out : Value, whileL (s_l6Next_b1 m) n (out_13, i_14) = some j15 ∧ f 2 = .pointer (some ⟨g3, 0, none⟩) ∧ f 6 = v13_out ∧ f 7 = .int .i64 i_14 ∧ Own RP.int 3 w.heap.size B w_ v13_out out_13 ∧ (RP.slice 3 RP.int).rel B w.heap.size w_ [v0_0] m.sizes ∧ (RP.slice 36 (rRule 3 23)).rel B w.heap.size w_ [v0_1] m.rules ∧ Blk w_ g3 26 #[v0_0, v0_1] ∧ Ext w w_ := ⟨_, rfl⟩
    refine W_loop I15 (n := fu) ?_ ?_
    · rw [hI15]; exact ⟨x7, i64 ((x7.length : Int) - 1), v11, hL15, rfl, rfl, rfl, ho11, h0_0, h0_1, hb_g3, hx⟩
    ·
      intro n15 f w_ hI
      rw [hI15] at hI
      obtain ⟨out_13, i_14, v13_out, hL15, sf2, sf6, sf7, hv13_out, h0_0, h0_1, hb_g3, hx⟩ := hI
      cases n15 with
      | zero => exact (while_zero hL15).elim
      | succ n15 =>
        obtain ⟨o15, hB15, hL15⟩ := while_succ hL15
        rw [s_l6Next_b1] at hB15
        refine W_seq ?_
        refine W_seq ?_
        refine W_region ?_
        refine L_mv (v := .int .i64 i_14) rfl sf7 ?_
        refine L_geq (m := i_14) (n := 0) rfl rfl rfl ?_
        refine L_nil ?_
        refine W_cond (b := decide (i_14 ≥ 0)) rfl (fun hc16 => ?_) (fun hc16 => ?_)
        ·
          have hB15 := (ite_t hc16).symm.trans hB15
          refine W_skip ?_
          refine W_seq ?_
          refine W_block ?_
          refine W_seq ?_
          refine W_seq ?_
          obtain ⟨x17, hx17, hB15⟩ := bind_some hB15
          obtain ⟨x20, hx20, hB15⟩ := bind_some hB15
          refine W_drawL 9 [isV (v13_out), isV (.int .i64 i_14), isEl B RP.int x17 0, isV (.int .i64 x17), isV (.pointer (some ⟨g3, 0, none⟩)), isV (v0_0), isV (.int .i64 i_14), isEl B RP.int x20 0, isV (.int .i64 x20)] Try_mix (by kernel_rfl) (am_cons (mono_V _) (am_cons (mono_V _) (am_cons (mono_el _ _ _ _) (am_cons (mono_V _) (am_cons (mono_V _) (am_cons (mono_V _) (am_cons (mono_V _) (am_cons (mono_el _ _ _ _) (am_cons (mono_V _) am_nil))))))))) ?_ (fun f w_ hS23 hE23 hT23 => ?_)
          ·
            refine ops_cons (fun f w_ hS23 hE23 hP23 => ?_) ?_
            ·
              have hx := ext_trans hx hE23
              have hv13_out := Own.ext hv13_out hE23
              refine L_mv (v := v13_out) rfl ((hS23 6 rfl).trans sf6) ?_
              exact L_nil ⟨rfl, (ext_refl _), _, _, rfl, rfl, rfl⟩
            refine ops_cons (fun f w_ hS23 hE23 hP23 => ?_) ?_
            ·
              have hx := ext_trans hx hE23
              refine L_mv (v := .int .i64 i_14) rfl ((hS23 7 rfl).trans sf7) ?_
              exact L_nil ⟨rfl, (ext_refl _), _, _, rfl, rfl, rfl⟩
            refine ops_cons (fun f w_ hS23 hE23 hP23 => ?_) ?_
            ·
              have hx := ext_trans hx hE23
              have hv13_out := Own.ext hv13_out hE23
              refine L_ix (r := RP.int) rfl Try.underlying23 Try.sizeOf3 (hP23 0 18 rfl rfl) (Own.rel hv13_out) (hP23 1 19 rfl rfl) hx17 ?_
              intro g28 o29 cs29 hr29 hat29
              obtain rfl : _ = [_] := hr29
              exact L_nil ⟨rfl, (ext_refl _), _, _, rfl, rfl, ⟨_, _, _, rfl, rfl, hat29⟩⟩
            refine ops_cons (fun f w_ hS23 hE23 hP23 => ?_) ?_
            ·
              have hx := ext_trans hx hE23
              obtain ⟨g30, o30, cs30, hv30, hr30, hat30⟩ := (hP23 2 20 rfl rfl)
              obtain rfl : _ = [_] := hr30
              refine L_ld (v := .int .i64 x17) rfl Try.isAgg3 hv30 (hat30.cell (j := 0) rfl) ?_
              exact L_nil ⟨rfl, (ext_refl _), _, _, rfl, rfl, rfl⟩
            refine ops_cons (fun f w_ hS23 hE23 hP23 => ?_) ?_
            ·
              have hx := ext_trans hx hE23
              have h0_0 := RP.ext h0_0 hE23
              have h0_1 := RP.ext h0_1 hE23
              have hb_g3 := Blk.ext hb_g3 hE23
              refine L_fa (o' := 0) rfl fa_26_0 ((hS23 2 rfl).trans sf2) rfl ?_
              exact L_nil ⟨rfl, (ext_refl _), _, _, rfl, rfl, rfl⟩
            refine ops_cons (fun f w_ hS23 hE23 hP23 => ?_) ?_
            ·
              have hx := ext_trans hx hE23
              have h0_0 := RP.ext h0_0 hE23
              have h0_1 := RP.ext h0_1 hE23
              have hb_g3 := Blk.ext hb_g3 hE23
              refine L_ld (v := v0_0) rfl Try.isAgg23 (hP23 4 22 rfl rfl) (hb_g3.cell (j := 0) rfl) ?_
              exact L_nil ⟨rfl, (ext_refl _), _, _, rfl, rfl, rfl⟩
            refine ops_cons (fun f w_ hS23 hE23 hP23 => ?_) ?_
            ·
              have hx := ext_trans hx hE23
              refine L_mv (v := .int .i64 i_14) rfl ((hS23 7 rfl).trans sf7) ?_
              exact L_nil ⟨rfl, (ext_refl _), _, _, rfl, rfl, rfl⟩
            refine ops_cons (fun f w_ hS23 hE23 hP23 => ?_) ?_
            ·
              have hx := ext_trans hx hE23
              have h0_0 := RP.ext h0_0 hE23
              refine L_ix (r := RP.int) rfl Try.underlying23 Try.sizeOf3 (hP23 5 23 rfl rfl) h0_0 (hP23 6 24 rfl rfl) hx20 ?_
              intro g31 o32 cs32 hr32 hat32
              obtain rfl : _ = [_] := hr32
              exact L_nil ⟨rfl, (ext_refl _), _, _, rfl, rfl, ⟨_, _, _, rfl, rfl, hat32⟩⟩
            refine ops_cons (fun f w_ hS23 hE23 hP23 => ?_) ?_
            ·
              have hx := ext_trans hx hE23
              obtain ⟨g33, o33, cs33, hv33, hr33, hat33⟩ := (hP23 7 25 rfl rfl)
              obtain rfl : _ = [_] := hr33
              refine L_ld (v := .int .i64 x20) rfl Try.isAgg3 hv33 (hat33.cell (j := 0) rfl) ?_
              exact L_nil ⟨rfl, (ext_refl _), _, _, rfl, rfl, rfl⟩
            exact ops_nil
          ·
            have hv13_out := Own.ext hv13_out hE23
            have h0_0 := RP.ext h0_0 hE23
            have h0_1 := RP.ext h0_1 hE23
            have hb_g3 := Blk.ext hb_g3 hE23
            have hx := ext_trans hx hE23
            refine L_lss (m := x17) (n := x20) rfl (hT23 3 21 rfl rfl) (hT23 8 26 rfl rfl) ?_
            refine L_nil ?_
            refine W_cond (b := decide (x17 < x20)) rfl (fun hc34 => ?_) (fun hc34 => ?_)
            ·
              have hB15 := (ite_t hc34).symm.trans hB15
              refine W_seq ?_
              refine W_region ?_
              refine L_mv (v := v13_out) rfl ((hS23 6 rfl).trans sf6) ?_
              refine L_mv (v := .int .i64 i_14) rfl ((hS23 7 rfl).trans sf7) ?_
              refine L_mv (v := v13_out) rfl ((hS23 6 rfl).trans sf6) ?_
              refine L_mv (v := .int .i64 i_14) rfl ((hS23 7 rfl).trans sf7) ?_
              refine L_ix (r := RP.int) rfl Try.underlying23 Try.sizeOf3 rfl (Own.rel hv13_out) rfl hx17 ?_
              intro g40 o41 cs41 hr41 hat41
              obtain rfl : _ = [_] := hr41
              refine L_ld (v := .int .i64 x17) rfl Try.isAgg3 rfl (hat41.cell (j := 0) rfl) ?_
              refine L_add (m := x17) (n := 1) rfl rfl rfl ?_
              refine L_ixo (r := RP.int) rfl et_23 rfl hv13_out rfl hx17 ?_
              intro g42 c43 cs43 hg43 hl43 hc43 hr43 hj43
              obtain rfl : cs43 = [_] := hr43
              refine L_st (v := .int .i64 (i64 (x17 + 1))) rfl Try.sizeOf3 rfl rfl rfl hc43 (hj43 0 _ rfl) ?_
              intro w44 hp44
              have hv13_out_n : Own RP.int 3 _ B w44 _ (out_13.set (Int.toNat i_14) (i64 (x17 + 1))) := own_set hv13_out hg43 rfl (by decide) (idx_some hx17).2.2 hc43 hp44 rfl hB
              have hx := ext_mut hx hp44.mu hl43
              have hv13_out := hv13_out_n
              refine L_nil ?_
              refine W_seq ?_
              refine W_region ?_
              refine L_mv (v := v13_out) rfl ((hS23 6 rfl).trans sf6) ?_
              refine L_as (v := v13_out) rfl rfl ?_
              refine L_as (v := .bool true) rfl rfl ?_
              refine L_nil ?_
              refine W_ret ?_
              obtain rfl := so hB15
              obtain rfl := so hL15
              obtain rfl := so hF
              refine ret2 Try.results65 ?_
              exact ⟨⟨v13_out, (tup2_eq rfl rfl), hv13_out⟩, hx⟩
            ·
              have hB15 := (ite_f hc34).symm.trans hB15
              refine W_skip ?_
              refine W_region ?_
              refine L_mv (v := v13_out) rfl ((hS23 6 rfl).trans sf6) ?_
              refine L_mv (v := .int .i64 i_14) rfl ((hS23 7 rfl).trans sf7) ?_
              refine L_ixo (r := RP.int) rfl et_23 rfl hv13_out rfl hx17 ?_
              intro g48 c49 cs49 hg49 hl49 hc49 hr49 hj49
              obtain rfl : cs49 = [_] := hr49
              refine L_st (v := .int .i64 0) rfl Try.sizeOf3 rfl rfl rfl hc49 (hj49 0 _ rfl) ?_
              intro w50 hp50
              have hv13_out_n : Own RP.int 3 _ B w50 _ (out_13.set (Int.toNat i_14) 0) := own_set hv13_out hg49 rfl (by decide) (idx_some hx17).2.2 hc49 hp50 rfl hB
              have h0_0 := hp50.mu.rel_lo h0_0 hl49
              have h0_1 := hp50.mu.rel_lo h0_1 hl49
              have hb_g3 := hp50.mu.blk hb_g3 (by decide)
              have hx := ext_mut hx hp50.mu hl49
              have hv13_out := hv13_out_n
              refine L_nil ?_
              refine W_region ?_
              refine L_mv (v := .int .i64 i_14) rfl ((hS23 7 rfl).trans sf7) ?_
              refine L_sub (m := i_14) (n := 1) rfl rfl rfl ?_
              refine L_as (v := .int .i64 (i64 (i_14 - 1))) rfl rfl ?_
              refine L_nil ?_
              obtain rfl := so hB15
              show ∃ m, m < _ ∧ I15 m _ _
              refine ⟨n15, Nat.lt_succ_self _, ?_⟩
              rw [hI15]
              exact ⟨(out_13.set (Int.toNat i_14) 0), i64 (i_14 - 1), v13_out, hL15, ((hS23 2 rfl).trans sf2), ((hS23 6 rfl).trans sf6), rfl, hv13_out, h0_0, h0_1, hb_g3, hx⟩
        ·
          have hB15 := (ite_f hc16).symm.trans hB15
          refine W_exit ?_
          obtain rfl := so hB15
          obtain rfl := so hL15
          show R15 _ _
          rw [hR15]
          exact ⟨out_13, i_14, v13_out, rfl, sf6, hv13_out, hx⟩
  ·
    intro f w_ hR
    rw [hR15] at hR
    obtain ⟨out_13, i_14, v13_out, rfl, sf6, hv13_out, hx⟩ := hR
    clear hR15
    refine W_seq ?_
    refine W_region ?_
    refine L_mv (v := v13_out) rfl sf6 ?_
    refine L_as (v := v13_out) rfl rfl ?_
    refine L_as (v := .bool false) rfl rfl ?_
    refine L_nil ?_
    refine W_ret ?_
    obtain rfl := so hF
    refine ret2 Try.results65 ?_
    exact ⟨⟨v13_out, (tup2_eq rfl rfl), hv13_out⟩, hx⟩

theorem s_CountModel_c {fu : Nat} {m : Model} {v0_0 : Value} {v0_1 : Value} {w : World} {B : Nat} (hB : B ≤ w.heap.size) (h0_0 : (RP.slice 3 RP.int).rel B w.heap.size w [v0_0] m.sizes) (h0_1 : (RP.slice 36 (rRule 3 23)).rel B w.heap.size w [v0_1] m.rules) {r : Int} (hF : s_CountModel fu m = some r) :
    C Try.prog 27 #[.agg #[v0_0, v0_1]] w fun v w' => (v = .int .i64 r) ∧ Ext w w' := by
  unfold s_CountModel at hF
  have hx := ext_refl w
  refine C_enter Try.func27 rfl Try.ntmps27 rfl ?_
  refine W_seq ?_
  refine W_region ?_
  refine L_box (v := .agg #[v0_0, v0_1]) (cs := #[v0_0, v0_1]) rfl rfl rfl ?_
  intro g3 w4 hn4
  have hge_g3 := hn4.geS hx.size
  have hb_g3 := hn4.blk
  have h0_0 := RP.ext h0_0 hn4.ext
  have h0_1 := RP.ext h0_1 hn4.ext
  have hx := ext_trans hx hn4.ext
  refine L_as (v := .int .i64 0) rfl rfl ?_
  refine L_nil ?_
  refine W_seq ?_
  refine W_seq ?_
  obtain ⟨x5, hx5, hF⟩ := bind_some hF
  refine W_region ?_
  refine L_lda (cs := [v0_0, v0_1]) rfl Try.isAgg26 Try.sizeOf26 rfl (Blk.sub hb_g3 0 2) rfl ?_
  refine L_call (args := #[.agg #[v0_0, v0_1]]) rfl Try.call52 (ops1 rfl) (s_ModelValid_c (m := m) (Nat.le_trans hB hx.size) (rel0 h0_0) (rel0 h0_1) hx5) ?_
  rintro _ w7 ⟨rfl, he7⟩
  have h0_0 := RP.ext h0_0 he7
  have h0_1 := RP.ext h0_1 he7
  have hb_g3 := Blk.ext hb_g3 he7
  have hx := ext_trans hx he7
  refine L_not_ (b := x5) rfl rfl ?_
  refine L_nil ?_
  refine W_cond (b := (!x5)) rfl (fun hc8 => ?_) (fun hc8 => ?_)
  ·
    have hF := (ite_t hc8).symm.trans hF
    refine W_seq ?_
    refine W_region ?_
    refine L_as (v := .int .i64 0) rfl rfl ?_
    refine L_nil ?_
    refine W_ret ?_
    obtain rfl := so hF
    refine ret1 Try.results27 ?_
    exact ⟨rfl, hx⟩
  ·
    have hF := (ite_f hc8).symm.trans hF
    refine W_skip ?_
    refine W_seq ?_
    refine W_region ?_
    refine L_as (v := .int .i64 0) rfl rfl ?_
    refine L_nil ?_
    refine W_seq ?_
    obtain ⟨x9, hx9, hF⟩ := bind_some hF
    refine W_region ?_
    refine L_fa (o' := 0) rfl fa_26_0 rfl rfl ?_
    refine L_ld (v := v0_0) rfl Try.isAgg23 rfl (hb_g3.cell (j := 0) rfl) ?_
    refine L_len (v := v0_0) rfl Try.underlying23 rfl h0_0 ?_
    refine L_mk (el := B) (r := RP.int) (z0 := 0) (zc := [.int .i64 0]) rfl et_23 (by kernel_rfl) (fun w => rfl) rfl rfl hx9 hx.size ?_
    intro v11 w11 ho11 he11 hb11
    have h0_0 := RP.ext h0_0 he11
    have h0_1 := RP.ext h0_1 he11
    have hb_g3 := Blk.ext hb_g3 he11
    have hx := ext_trans hx he11
    refine L_as (v := v11) rfl rfl ?_
    refine L_nil ?_
    refine W_seq ?_
    refine W_seq ?_
    refine W_region ?_
    refine L_as (v := .bool true) rfl rfl ?_
    refine L_nil ?_
    obtain ⟨j16, hL16, hF⟩ := bind_some hF
    obtain ⟨R16, hR16⟩ : ∃ R : Fr → World → Prop, R = fun f w_ => ∃ n_13 : Int, ∃ cells_14 : List Int, ∃ more_15 : Bool, j16 = .nx (n_13, cells_14, more_15) ∧ f 3 = .int .i64 n_13 ∧ Ext w w_ := ⟨_, rfl⟩
    refine W_join R16 ?_ ?_
    ·
      refine W_block ?_
      obtain ⟨I16, hI16⟩ : ∃ I : Nat → Fr → World → Prop, I = fun n f w_ => ∃ n_13 : Int, ∃ cells_14 : List Int, ∃ more_15 : Bool, ∃ v14_cells : Value, whileL (s_CountModel_b1 fu m) n (n_13, cells_14, more_15) = some j16 ∧ f 1 = .pointer (some ⟨g3, 0, none⟩) ∧ f 3 = .int .i64 n_13 ∧ f 4 = v14_cells ∧ f 5 = .bool more_15 ∧ Own RP.int 3 w.heap.size B w_ v14_cells cells_14 ∧ (RP.slice 3 RP.int).rel B w.heap.size w_ [v0_0] m.sizes ∧ (RP.slice 36 (rRule 3 23)).rel B w.heap.size w_ [v0_1] m.rules ∧ Blk w_ g3 26 #[v0_0, v0_1] ∧ Ext w w_ := ⟨_, rfl⟩
      refine W_loop I16 (n := fu) ?_ ?_
      · rw [hI16]; exact ⟨0, x9, true, v11, hL16, rfl, rfl, rfl, rfl, ho11, h0_0, h0_1, hb_g3, hx⟩
      ·
        intro n16 f w_ hI
        rw [hI16] at hI
        obtain ⟨n_13, cells_14, more_15, v14_cells, hL16, sf1, sf3, sf4, sf5, hv14_cells, h0_0, h0_1, hb_g3, hx⟩ := hI
        cases n16 with
        | zero => exact (while_zero hL16).elim
        | succ n16 =>
          obtain ⟨o16, hB16, hL16⟩ := while_succ hL16
          rw [s_CountModel_b1] at hB16
          refine W_seq ?_
          refine W_seq ?_
          refine W_region ?_
          refine L_mv (v := .bool more_15) rfl sf5 ?_
          refine L_nil ?_
          refine W_cond (b := more_15) rfl (fun hc17 => ?_) (fun hc17 => ?_)
          ·
            have hB16 := (ite_t hc17).symm.trans hB16
            refine W_skip ?_
            refine W_block ?_
            refine W_seq ?_
            refine W_seq ?_
            obtain ⟨x18, hx18, hB16⟩ := bind_some hB16
            refine W_region ?_
            refine L_lda (cs := [v0_0, v0_1]) rfl Try.isAgg26 Try.sizeOf26 sf1 (Blk.sub hb_g3 0 2) rfl ?_
            refine L_mv (v := v14_cells) rfl sf4 ?_
            refine L_call (args := #[.agg #[v0_0, v0_1], v14_cells]) rfl Try.call60 (ops2 rfl rfl) (s_l6Solves_c (m := m) (cells := cells_14) (Nat.le_trans hB hx.size) (rel0 h0_0) (rel0 h0_1) (rel0 (Own.rel hv14_cells)) hx18) ?_
            rintro _ w20 ⟨rfl, he20⟩
            have hv14_cells := Own.ext hv14_cells he20
            have h0_0 := RP.ext h0_0 he20
            have h0_1 := RP.ext h0_1 he20
            have hb_g3 := Blk.ext hb_g3 he20
            have hx := ext_trans hx he20
            refine L_nil ?_
            obtain ⟨n_21, hA22, hB16⟩ := bind_some hB16
            obtain ⟨R22, hR22⟩ : ∃ R : Fr → World → Prop, R = fun f w_ => f 1 = .pointer (some ⟨g3, 0, none⟩) ∧ f 3 = .int .i64 n_21 ∧ f 4 = v14_cells ∧ Own RP.int 3 w.heap.size B w_ v14_cells cells_14 ∧ (RP.slice 3 RP.int).rel B w.heap.size w_ [v0_0] m.sizes ∧ (RP.slice 36 (rRule 3 23)).rel B w.heap.size w_ [v0_1] m.rules ∧ Blk w_ g3 26 #[v0_0, v0_1] ∧ Ext w w_ := ⟨_, rfl⟩
            refine W_join R22 ?_ ?_
            ·
              refine W_cond (b := x18) rfl (fun hc23 => ?_) (fun hc23 => ?_)
              ·
                have hA22 := (ite_t hc23).symm.trans hA22
                refine W_region ?_
                refine L_mv (v := .int .i64 n_13) rfl sf3 ?_
                refine L_add (m := n_13) (n := 1) rfl rfl rfl ?_
                refine L_as (v := .int .i64 (i64 (n_13 + 1))) rfl rfl ?_
                refine L_nil ?_
                obtain rfl := so hA22
                show R22 _ _
                rw [hR22]
                exact ⟨sf1, rfl, sf4, hv14_cells, h0_0, h0_1, hb_g3, hx⟩
              ·
                have hA22 := (ite_f hc23).symm.trans hA22
                refine W_skip ?_
                obtain rfl := so hA22
                show R22 _ _
                rw [hR22]
                exact ⟨sf1, sf3, sf4, hv14_cells, h0_0, h0_1, hb_g3, hx⟩
            ·
              intro f w_ hR
              rw [hR22] at hR
              obtain ⟨sf1, sf3, sf4, hv14_cells, h0_0, h0_1, hb_g3, hx⟩ := hR
              clear hR22
              obtain ⟨x24, hx24, hB16⟩ := bind_some hB16
              refine W_region ?_
              refine L_lda (cs := [v0_0, v0_1]) rfl Try.isAgg26 Try.sizeOf26 sf1 (Blk.sub hb_g3 0 2) rfl ?_
              refine L_mv (v := v14_cells) rfl sf4 ?_
              refine L_call (args := #[.agg #[v0_0, v0_1], v14_cells]) rfl Try.call65 (ops2 rfl rfl) (s_l6Next_c (m := m) (cells := cells_14) (Nat.le_trans hB hx.size) (rel0 h0_0) (rel0 h0_1) (rel0 (Own.rel hv14_cells)) hx24) ?_
              rintro _ w27 ⟨⟨r27_0, rfl, hr27_0⟩, he27⟩
              have ap28 := ap_oc hv14_cells hr27_0
              have hr27_0 : Own _ _ w.heap.size B _ _ _ := hr27_0.wide hx.size (Nat.le_refl _)
              have hv14_cells := Own.ext hv14_cells he27
              have h0_0 := RP.ext h0_0 he27
              have h0_1 := RP.ext h0_1 he27
              have hb_g3 := Blk.ext hb_g3 he27
              have hx := ext_trans hx he27
              refine L_mv (v := .tuple #[r27_0, .bool x24.2]) rfl rfl ?_
              refine L_ex (v := r27_0) rfl rfl rfl ?_
              refine L_ex (v := .bool x24.2) rfl rfl rfl ?_
              refine L_as (v := r27_0) rfl rfl ?_
              refine L_as (v := .bool x24.2) rfl rfl ?_
              refine L_nil ?_
              obtain rfl := so hB16
              show ∃ m, m < _ ∧ I16 m _ _
              refine ⟨n16, Nat.lt_succ_self _, ?_⟩
              rw [hI16]
              exact ⟨n_21, x24.1, x24.2, r27_0, hL16, sf1, sf3, rfl, rfl, hr27_0, h0_0, h0_1, hb_g3, hx⟩
          ·
            have hB16 := (ite_f hc17).symm.trans hB16
            refine W_exit ?_
            obtain rfl := so hB16
            obtain rfl := so hL16
            show R16 _ _
            rw [hR16]
            exact ⟨n_13, cells_14, more_15, rfl, sf3, hx⟩
    ·
      intro f w_ hR
      rw [hR16] at hR
      obtain ⟨n_13, cells_14, more_15, rfl, sf3, hx⟩ := hR
      clear hR16
      refine W_seq ?_
      refine W_region ?_
      refine L_mv (v := .int .i64 n_13) rfl sf3 ?_
      refine L_as (v := .int .i64 n_13) rfl rfl ?_
      refine L_nil ?_
      refine W_ret ?_
      obtain rfl := so hF
      refine ret1 Try.results27 ?_
      exact ⟨rfl, hx⟩

theorem l_FnModelMore_c {fu : Nat} {code : List UInt8} {more : List UInt8} {v0 : Value} {v1 : Value} {w : World} {B : Nat} (hB : B ≤ w.heap.size) (h0 : (RP.slice 5 RP.u8).rel B w.heap.size w [v0] code) (h1 : (RP.slice 5 RP.u8).rel B w.heap.size w [v1] more) {r : Bool} (hF : l_FnModelMore fu code more = some r) :
    C Try.prog 9 #[v0, v1] w fun v w' => (v = .bool r) ∧ Ext w w' := by
  unfold l_FnModelMore at hF
  have hx := ext_refl w
  refine C_enter Try.func9 rfl Try.ntmps9 rfl ?_
  refine W_seq ?_
  refine W_region ?_
  refine L_as (v := .bool false) rfl rfl ?_
  refine L_nil ?_
  refine W_seq ?_
  refine W_seq ?_
  obtain ⟨R1, hR1⟩ : ∃ R : Fr → World → Prop, R = fun f w_ => f 0 = v0 ∧ f 1 = v1 ∧ f 18 = .bool ((decide ((code.length : Int) > 1048576)) || (decide ((more.length : Int) > 1048576))) ∧ (RP.slice 5 RP.u8).rel B w.heap.size w_ [v0] code ∧ (RP.slice 5 RP.u8).rel B w.heap.size w_ [v1] more ∧ Ext w w_ := ⟨_, rfl⟩
  refine W_join R1 ?_ ?_
  ·
    refine W_region ?_
    refine L_mv (v := v0) rfl rfl ?_
    refine L_len (v := v0) rfl Try.underlying22 rfl h0 ?_
    refine L_gtr (m := (code.length : Int)) (n := 1048576) rfl rfl rfl ?_
    refine L_mv (v := .bool (decide ((code.length : Int) > 1048576))) rfl rfl ?_
    refine L_split (d := 14) (b := decide ((code.length : Int) > 1048576)) rfl (fun hc2 => ?_) (fun hc2 => ?_)
    ·
      refine L_pass rfl ?_
      refine L_pass rfl ?_
      refine L_pass rfl ?_
      refine L_pick (v := .bool ((decide ((code.length : Int) > 1048576)) || (decide ((more.length : Int) > 1048576)))) rfl rfl (or_t hc2) ?_
      refine L_nil ?_
      show R1 _ _
      rw [hR1]
      exact ⟨rfl, rfl, rfl, h0, h1, hx⟩
    ·
      refine L_mv (v := v1) rfl rfl ?_
      refine L_len (v := v1) rfl Try.underlying22 rfl h1 ?_
      refine L_gtr (m := (more.length : Int)) (n := 1048576) rfl rfl rfl ?_
      refine L_pick (v := .bool ((decide ((code.length : Int) > 1048576)) || (decide ((more.length : Int) > 1048576)))) rfl rfl (or_f hc2 rfl) ?_
      refine L_nil ?_
      show R1 _ _
      rw [hR1]
      exact ⟨rfl, rfl, rfl, h0, h1, hx⟩
  ·
    intro f w_ hR
    rw [hR1] at hR
    obtain ⟨sf0, sf1, sf18, h0, h1, hx⟩ := hR
    clear hR1
    refine W_cond (b := ((decide ((code.length : Int) > 1048576)) || (decide ((more.length : Int) > 1048576)))) sf18 (fun hc3 => ?_) (fun hc3 => ?_)
    ·
      have hF := (ite_t hc3).symm.trans hF
      refine W_seq ?_
      refine W_region ?_
      refine L_as (v := .bool true) rfl rfl ?_
      refine L_nil ?_
      refine W_ret ?_
      obtain rfl := so hF
      refine ret1 Try.results9 ?_
      exact ⟨rfl, hx⟩
    ·
      have hF := (ite_f hc3).symm.trans hF
      refine W_skip ?_
      refine W_seq ?_
      obtain ⟨hx4, hF⟩ := anyB_some hF
      refine W_region ?_
      refine L_mv (v := v0) rfl sf0 ?_
      refine L_call (args := #[v0]) rfl Try.call25 (ops1 rfl) (s_DrawCountModel_c (code := code) (Nat.le_trans hB hx.size) (rel0 h0) hx4) ?_
      rintro _ w9 ⟨⟨x4, gd9, ⟨r9_0, r9_1, rfl, hr9_0, hr9_1⟩⟩, he9⟩
      have hF := hF x4 gd9
      have h0 := RP.ext h0 he9
      have h1 := RP.ext h1 he9
      have hx := ext_trans hx he9
      refine L_al (cs := #[(.slice none 0 0), (.slice none 0 0)]) rfl Try.zeroValue26 rfl ?_
      intro g10 w11 hn11
      have hge_g10 := hn11.geS hx.size
      have hb_g10 := hn11.blk
      have h1 := RP.ext h1 hn11.ext
      have hr9_0 := RP.ext hr9_0 hn11.ext
      have hr9_1 := RP.ext hr9_1 hn11.ext
      have hx := ext_trans hx hn11.ext
      refine L_sta (vs := #[r9_0, r9_1]) rfl Try.sizeOf26 rfl rfl rfl (ones_cons (one_of hr9_0) (ones_cons (one_of hr9_1) ones_nil)) hb_g10 rfl ?_
      intro w12 hp12
      have h1 := hp12.mu.rel h1 (by decide) (Nat.le_trans hB hge_g10)
      have hr9_0 := hp12.mu.rel hr9_0 (by decide) (Nat.le_trans hB hge_g10)
      have hr9_1 := hp12.mu.rel hr9_1 (by decide) (Nat.le_trans hB hge_g10)
      have hx := ext_mut hx hp12.mu hge_g10
      have hb_g10 : Blk w12 g10 26 #[r9_0, r9_1] := hp12.blk
      refine L_nil ?_
      refine W_seq ?_
      obtain ⟨x13, hx13, hF⟩ := bind_some hF
      refine W_region ?_
      refine L_lda (cs := [r9_0, r9_1]) rfl Try.isAgg26 Try.sizeOf26 rfl (Blk.sub hb_g10 0 2) rfl ?_
      refine L_call (args := #[.agg #[r9_0, r9_1]]) rfl Try.call26 (ops1 rfl) (i_CountModel_c (m := x4) (Nat.le_trans hB hx.size) (rel0 hr9_0) (rel0 hr9_1) hx13) ?_
      rintro _ w15 ⟨rfl, he15⟩
      have h1 := RP.ext h1 he15
      have hr9_0 := RP.ext hr9_0 he15
      have hr9_1 := RP.ext hr9_1 he15
      have hb_g10 := Blk.ext hb_g10 he15
      have hx := ext_trans hx he15
      refine L_as (v := .int .i64 x13) rfl rfl ?_
      refine L_nil ?_
      refine W_seq ?_
      refine W_seq ?_
      obtain ⟨x16, hx16, hF⟩ := bind_some hF
      obtain ⟨b20, hb20, hF⟩ := bind_some hF
      obtain ⟨R21, hR21⟩ : ∃ R : Fr → World → Prop, R = fun f w_ => f 1 = v1 ∧ f 5 = .pointer (some ⟨g10, 0, none⟩) ∧ f 6 = .int .i64 x13 ∧ f 31 = .bool b20 ∧ (RP.slice 5 RP.u8).rel B w.heap.size w_ [v1] more ∧ (RP.slice 3 RP.int).rel B w_.heap.size w_ [r9_0] x4.sizes ∧ (RP.slice 36 (rRule 3 23)).rel B w_.heap.size w_ [r9_1] x4.rules ∧ Blk w_ g10 26 #[r9_0, r9_1] ∧ Ext w w_ := ⟨_, rfl⟩
      refine W_join R21 ?_ ?_
      ·
        refine W_region ?_
        refine L_mv (v := .int .i64 x13) rfl rfl ?_
        refine L_lda (cs := [r9_0, r9_1]) rfl Try.isAgg26 Try.sizeOf26 rfl (Blk.sub hb_g10 0 2) rfl ?_
        refine L_call (args := #[.agg #[r9_0, r9_1]]) rfl Try.call27 (ops1 rfl) (s_CountModel_c (m := x4) (Nat.le_trans hB hx.size) (rel0 hr9_0) (rel0 hr9_1) hx16) ?_
        rintro _ w22 ⟨rfl, he22⟩
        have h1 := RP.ext h1 he22
        have hr9_0 := RP.ext hr9_0 he22
        have hr9_1 := RP.ext hr9_1 he22
        have hb_g10 := Blk.ext hb_g10 he22
        have hx := ext_trans hx he22
        refine L_neq (m := x13) (n := x16) rfl rfl rfl ?_
        refine L_mv (v := .bool (x13 != x16)) rfl rfl ?_
        refine L_split (d := 27) (b := (x13 != x16)) rfl (fun hc23 => ?_) (fun hc23 => ?_)
        ·
          rw [ite_t hc23] at hb20
          refine L_pass rfl ?_
          refine L_pass rfl ?_
          refine L_pass rfl ?_
          refine L_pick (v := .bool b20) rfl rfl (congrArg Value.bool (so hb20)) ?_
          refine L_nil ?_
          show R21 _ _
          rw [hR21]
          exact ⟨sf1, rfl, rfl, rfl, h1, (rel0 hr9_0), (rel0 hr9_1), hb_g10, hx⟩
        ·
          rw [ite_f hc23] at hb20
          obtain ⟨x18, hx18, hb20⟩ := bind_some hb20
          refine L_lda (cs := [r9_0, r9_1]) rfl Try.isAgg26 Try.sizeOf26 rfl (Blk.sub hb_g10 0 2) rfl ?_
          refine L_call (args := #[.agg #[r9_0, r9_1]]) rfl Try.call28 (ops1 rfl) (i_ModelValid_c (m := x4) (Nat.le_trans hB hx.size) (rel0 hr9_0) (rel0 hr9_1) hx18) ?_
          rintro _ w24 ⟨rfl, he24⟩
          have h1 := RP.ext h1 he24
          have hr9_0 := RP.ext hr9_0 he24
          have hr9_1 := RP.ext hr9_1 he24
          have hb_g10 := Blk.ext hb_g10 he24
          have hx := ext_trans hx he24
          refine L_not_ (b := x18) rfl rfl ?_
          refine L_pick (v := .bool b20) rfl rfl (congrArg Value.bool (so hb20)) ?_
          refine L_nil ?_
          show R21 _ _
          rw [hR21]
          exact ⟨sf1, rfl, rfl, rfl, h1, (rel0 hr9_0), (rel0 hr9_1), hb_g10, hx⟩
      ·
        intro f w_ hR
        rw [hR21] at hR
        obtain ⟨sf1, sf5, sf6, sf31, h1, hr9_0, hr9_1, hb_g10, hx⟩ := hR
        clear hR21
        refine W_cond (b := b20) sf31 (fun hc25 => ?_) (fun hc25 => ?_)
        ·
          have hF := (ite_t hc25).symm.trans hF
          refine W_seq ?_
          obtain ⟨x26, hx26, hF⟩ := bind_some hF
          refine W_region ?_
          refine L_mv (v := .int .i64 x13) rfl sf6 ?_
          refine L_lda (cs := [r9_0, r9_1]) rfl Try.isAgg26 Try.sizeOf26 sf5 (Blk.sub hb_g10 0 2) rfl ?_
          refine L_call (args := #[.agg #[r9_0, r9_1]]) rfl Try.call27 (ops1 rfl) (s_CountModel_c (m := x4) (Nat.le_trans hB hx.size) (rel0 hr9_0) (rel0 hr9_1) hx26) ?_
          rintro _ w28 ⟨rfl, he28⟩
          have hr9_0 := RP.ext hr9_0 he28
          have hr9_1 := RP.ext hr9_1 he28
          have hx := ext_trans hx he28
          refine L_eql (m := x13) (n := x26) rfl rfl rfl ?_
          refine L_as (v := .bool (x13 == x26)) rfl rfl ?_
          refine L_nil ?_
          refine W_ret ?_
          obtain rfl := so hF
          refine ret1 Try.results9 ?_
          exact ⟨rfl, hx⟩
        ·
          have hF := (ite_f hc25).symm.trans hF
          refine W_skip ?_
          refine W_seq ?_
          obtain ⟨q29, hq29, hF⟩ := bind_some hF
          refine W_region ?_
          refine L_mv (v := v1) rfl sf1 ?_
          refine L_len (v := v1) rfl Try.underlying22 rfl h1 ?_
          refine L_fa (o' := 1) rfl fa_26_1 sf5 rfl ?_
          refine L_ld (v := r9_1) rfl Try.isAgg24 rfl (hb_g10.cell (j := 1) rfl) ?_
          refine L_len (v := r9_1) rfl Try.underlying24 rfl hr9_1 ?_
          refine L_add (m := (x4.rules.length : Int)) (n := 1) rfl rfl rfl ?_
          refine L_rem (m := (more.length : Int)) (n := i64 ((x4.rules.length : Int) + 1)) rfl rfl rfl (fun he => by rw [if_pos he] at hq29; cases hq29) ?_
          refine L_as (v := .int .i64 (Int.tmod (more.length : Int) (i64 ((x4.rules.length : Int) + 1)))) rfl rfl ?_
          refine L_nil ?_
          refine W_seq ?_
          refine W_region ?_
          refine L_as (v := .int .i64 1) rfl rfl ?_
          refine L_nil ?_
          refine W_seq ?_
          refine W_seq ?_
          refine W_region ?_
          refine L_as (v := .int .i64 0) rfl rfl ?_
          refine L_nil ?_
          have hlen32 := len_le hr9_0
          obtain ⟨j32, hL32, hF⟩ := bind_some hF
          obtain ⟨R32, hR32⟩ : ∃ R : Fr → World → Prop, R = fun f w_ => ∃ all_31 : Int, j32 = .nx all_31 ∧ f 5 = .pointer (some ⟨g10, 0, none⟩) ∧ f 6 = .int .i64 x13 ∧ f 7 = .int .i64 (Int.tmod (more.length : Int) (i64 ((x4.rules.length : Int) + 1))) ∧ f 8 = .int .i64 all_31 ∧ (RP.slice 3 RP.int).rel B w_.heap.size w_ [r9_0] x4.sizes ∧ (RP.slice 36 (rRule 3 23)).rel B w_.heap.size w_ [r9_1] x4.rules ∧ Blk w_ g10 26 #[r9_0, r9_1] ∧ Ext w w_ := ⟨_, rfl⟩
          refine W_join R32 ?_ ?_
          ·
            refine W_block ?_
            obtain ⟨I32, hI32⟩ : ∃ I : Nat → Fr → World → Prop, I = fun n f w_ => ∃ i_30 : Nat, ∃ suf32 : List Int, ∃ all_31 : Int, n = suf32.length ∧ List.drop i_30 x4.sizes = suf32 ∧ i_30 + suf32.length = x4.sizes.length ∧ rangeL l_FnModelMore_b1 suf32 i_30 all_31 = some j32 ∧ f 5 = .pointer (some ⟨g10, 0, none⟩) ∧ f 6 = .int .i64 x13 ∧ f 7 = .int .i64 (Int.tmod (more.length : Int) (i64 ((x4.rules.length : Int) + 1))) ∧ f 8 = .int .i64 all_31 ∧ f 9 = .int .i64 (i_30 : Int) ∧ (RP.slice 3 RP.int).rel B w_.heap.size w_ [r9_0] x4.sizes ∧ (RP.slice 36 (rRule 3 23)).rel B w_.heap.size w_ [r9_1] x4.rules ∧ Blk w_ g10 26 #[r9_0, r9_1] ∧ Ext w w_ := ⟨_, rfl⟩
            refine W_loop I32 (n := x4.sizes.length) ?_ ?_
            · rw [hI32]; exact ⟨0, x4.sizes, 1, rfl, rfl, Nat.zero_add _, hL32, sf5, sf6, rfl, rfl, rfl, (rel0 hr9_0), (rel0 hr9_1), hb_g10, hx⟩
            ·
              intro n32 f w_ hI
              rw [hI32] at hI
              obtain ⟨i_30, suf32, all_31, rfl, hd32, hl32, hL32, sf5, sf6, sf7, sf8, sf9, hr9_0, hr9_1, hb_g10, hx⟩ := hI
              refine W_seq ?_
              refine W_seq ?_
              refine W_region ?_
              refine L_mv (v := .int .i64 (i_30 : Int)) rfl sf9 ?_
              refine L_fa (o' := 0) rfl fa_26_0 sf5 rfl ?_
              refine L_ld (v := r9_0) rfl Try.isAgg23 rfl (hb_g10.cell (j := 0) rfl) ?_
              refine L_len (v := r9_0) rfl Try.underlying23 rfl hr9_0 ?_
              refine L_lss (m := (i_30 : Int)) (n := (x4.sizes.length : Int)) rfl rfl rfl ?_
              refine L_nil ?_
              refine W_cond (b := decide ((i_30 : Int) < (x4.sizes.length : Int))) rfl (fun hc33 => ?_) (fun hc33 => ?_)
              ·
                have hlt32 := of_decide_eq_true hc33
                cases suf32 with
                | nil => exact absurd hlt32 (by simp at hl32; omega)
                | cons x_32 rest32 =>
                  obtain ⟨o32, hB32, hL32⟩ := range_cons hL32
                  rw [l_FnModelMore_b1] at hB32
                  have hix32 := drop_idx hd32
                  refine W_skip ?_
                  refine W_seq ?_
                  refine W_block ?_
                  refine W_region ?_
                  refine L_mv (v := .int .i64 all_31) rfl sf8 ?_
                  refine L_fa (o' := 0) rfl fa_26_0 sf5 rfl ?_
                  refine L_ld (v := r9_0) rfl Try.isAgg23 rfl (hb_g10.cell (j := 0) rfl) ?_
                  refine L_mv (v := .int .i64 (i_30 : Int)) rfl sf9 ?_
                  refine L_ix (r := RP.int) rfl Try.underlying23 Try.sizeOf3 rfl hr9_0 rfl hix32 ?_
                  intro g36 o37 cs37 hr37 hat37
                  obtain rfl : _ = [_] := hr37
                  refine L_ld (v := .int .i64 x_32) rfl Try.isAgg3 rfl (hat37.cell (j := 0) rfl) ?_
                  refine L_add (m := x_32) (n := 1) rfl rfl rfl ?_
                  refine L_mul (m := all_31) (n := i64 (x_32 + 1)) rfl rfl rfl ?_
                  refine L_as (v := .int .i64 (i64 (all_31 * (i64 (x_32 + 1))))) rfl rfl ?_
                  refine L_nil ?_
                  refine W_region ?_
                  refine L_mv (v := .int .i64 (i_30 : Int)) rfl sf9 ?_
                  refine L_add (m := (i_30 : Int)) (n := 1) rfl rfl rfl ?_
                  refine L_as (v := .int .i64 (i64 ((i_30 : Int) + 1))) rfl rfl ?_
                  refine L_nil ?_
                  obtain rfl := so hB32
                  show ∃ m, m < _ ∧ I32 m _ _
                  refine ⟨rest32.length, by simp, ?_⟩
                  rw [hI32]
                  exact ⟨i_30 + 1, rest32, i64 (all_31 * (i64 (x_32 + 1))), rfl, drop_next hd32, by simp at hl32; omega, hL32, sf5, sf6, sf7, rfl, (Eq.trans rfl (congrArg (Value.int .i64) (i64_succ (n := x4.sizes.length) (by simp at hl32; omega) hlen32))), (rel0 hr9_0), (rel0 hr9_1), hb_g10, hx⟩
              ·
                cases suf32 with
                | cons _ _ => exact absurd (of_decide_eq_false hc33) (by simp at hl32; omega)
                | nil =>
                  obtain rfl := range_nil hL32
                  refine W_exit ?_
                  show R32 _ _
                  rw [hR32]
                  exact ⟨all_31, rfl, sf5, sf6, sf7, sf8, (rel0 hr9_0), (rel0 hr9_1), hb_g10, hx⟩
          ·
            intro f w_ hR
            rw [hR32] at hR
            obtain ⟨all_31, rfl, sf5, sf6, sf7, sf8, hr9_0, hr9_1, hb_g10, hx⟩ := hR
            clear hR32
            refine W_seq ?_
            obtain ⟨x38, hx38, hF⟩ := bind_some hF
            obtain ⟨x40, hx40, hF⟩ := bind_some hF
            refine W_drawL 6 [isV (.pointer (some ⟨g10, 0, none⟩)), isV (r9_0), isV (.pointer (some ⟨g10, 1, none⟩)), isV (r9_1), isV (.int .i64 (Int.tmod (more.length : Int) (i64 ((x4.rules.length : Int) + 1)))), isData B (RP.slice 36 (rRule 3 23)) x38] Try_mix (by kernel_rfl) (am_cons (mono_V _) (am_cons (mono_V _) (am_cons (mono_V _) (am_cons (mono_V _) (am_cons (mono_V _) (am_cons (mono_data _ _ _) am_nil)))))) ?_ (fun f w_ hS42 hE42 hT42 => ?_)
            ·
              refine ops_cons (fun f w_ hS42 hE42 hP42 => ?_) ?_
              ·
                have hx := ext_trans hx hE42
                have hr9_0 := RP.ext hr9_0 hE42
                have hr9_1 := RP.ext hr9_1 hE42
                have hb_g10 := Blk.ext hb_g10 hE42
                refine L_fa (o' := 0) rfl fa_26_0 ((hS42 5 rfl).trans sf5) rfl ?_
                exact L_nil ⟨rfl, (ext_refl _), _, _, rfl, rfl, rfl⟩
              refine ops_cons (fun f w_ hS42 hE42 hP42 => ?_) ?_
              ·
                have hx := ext_trans hx hE42
                have hr9_0 := RP.ext hr9_0 hE42
                have hr9_1 := RP.ext hr9_1 hE42
                have hb_g10 := Blk.ext hb_g10 hE42
                refine L_ld (v := r9_0) rfl Try.isAgg23 (hP42 0 58 rfl rfl) (hb_g10.cell (j := 0) rfl) ?_
                exact L_nil ⟨rfl, (ext_refl _), _, _, rfl, rfl, rfl⟩
              refine ops_cons (fun f w_ hS42 hE42 hP42 => ?_) ?_
              ·
                have hx := ext_trans hx hE42
                have hr9_0 := RP.ext hr9_0 hE42
                have hr9_1 := RP.ext hr9_1 hE42
                have hb_g10 := Blk.ext hb_g10 hE42
                refine L_fa (o' := 1) rfl fa_26_1 ((hS42 5 rfl).trans sf5) rfl ?_
                exact L_nil ⟨rfl, (ext_refl _), _, _, rfl, rfl, rfl⟩
              refine ops_cons (fun f w_ hS42 hE42 hP42 => ?_) ?_
              ·
                have hx := ext_trans hx hE42
                have hr9_0 := RP.ext hr9_0 hE42
                have hr9_1 := RP.ext hr9_1 hE42
                have hb_g10 := Blk.ext hb_g10 hE42
                refine L_ld (v := r9_1) rfl Try.isAgg24 (hP42 2 60 rfl rfl) (hb_g10.cell (j := 1) rfl) ?_
                exact L_nil ⟨rfl, (ext_refl _), _, _, rfl, rfl, rfl⟩
              refine ops_cons (fun f w_ hS42 hE42 hP42 => ?_) ?_
              ·
                have hx := ext_trans hx hE42
                refine L_mv (v := .int .i64 (Int.tmod (more.length : Int) (i64 ((x4.rules.length : Int) + 1)))) rfl ((hS42 7 rfl).trans sf7) ?_
                exact L_nil ⟨rfl, (ext_refl _), _, _, rfl, rfl, rfl⟩
              refine ops_cons (fun f w_ hS42 hE42 hP42 => ?_) ?_
              ·
                have hx := ext_trans hx hE42
                have hr9_1 := RP.ext hr9_1 hE42
                refine L_sl (a := 0) (b := Int.tmod (more.length : Int) (i64 ((x4.rules.length : Int) + 1))) rfl et_24 (hP42 3 61 rfl rfl) hr9_1 rfl (hP42 4 62 rfl rfl) hx38 ?_
                intro v44 hs44
                exact L_nil ⟨rfl, (ext_refl _), _, _, rfl, rfl, (rel0 hs44)⟩
              exact ops_nil
            ·
              have hr9_0 := RP.ext hr9_0 hE42
              have hr9_1 := RP.ext hr9_1 hE42
              have hb_g10 := Blk.ext hb_g10 hE42
              have hx := ext_trans hx hE42
              have hd45 := (hT42 5 63 rfl rfl)
              refine L_bld rfl (parts2 (hT42 1 59 rfl rfl) rfl) (bld_26_0_1 (r9_0) ((f 63)) (one_of hr9_0) (one_of hd45)) ?_
              refine L_call (args := #[.agg #[r9_0, (f 63)]]) rfl Try.call26 (ops1 rfl) (i_CountModel_c (m := ({ sizes := x4.sizes, rules := x38 } : Model)) (Nat.le_trans hB hx.size) (rel0 hr9_0) (rel0 hd45) hx40) ?_
              rintro _ w46 ⟨rfl, he46⟩
              have hr9_0 := RP.ext hr9_0 he46
              have hr9_1 := RP.ext hr9_1 he46
              have hb_g10 := Blk.ext hb_g10 he46
              have hd45 := RP.ext hd45 he46
              have hx := ext_trans hx he46
              refine L_as (v := .int .i64 x40) rfl rfl ?_
              refine L_nil ?_
              refine W_seq ?_
              obtain ⟨b49, hb49, hF⟩ := bind_some hF
              obtain ⟨R50, hR50⟩ : ∃ R : Fr → World → Prop, R = fun f w_ => f 4 = .bool b49 ∧ Ext w w_ := ⟨_, rfl⟩
              refine W_join R50 ?_ ?_
              ·
                refine W_region ?_
                refine L_mv (v := .int .i64 x13) rfl ((hS42 6 rfl).trans sf6) ?_
                refine L_mv (v := .int .i64 x40) rfl rfl ?_
                refine L_leq (m := x13) (n := x40) rfl rfl rfl ?_
                refine L_mv (v := .bool (decide (x13 ≤ x40))) rfl rfl ?_
                refine L_split (d := 69) (b := decide (x13 ≤ x40)) rfl (fun hc51 => ?_) (fun hc51 => ?_)
                ·
                  refine L_mv (v := .int .i64 x40) rfl rfl ?_
                  refine L_mv (v := .int .i64 all_31) rfl ((hS42 8 rfl).trans sf8) ?_
                  refine L_leq (m := x40) (n := all_31) rfl rfl rfl ?_
                  refine L_pick (v := .bool ((decide (x13 ≤ x40)) && (decide (x40 ≤ all_31)))) rfl rfl (and_t hc51 rfl) ?_
                  refine L_mv (v := .bool ((decide (x13 ≤ x40)) && (decide (x40 ≤ all_31)))) rfl rfl ?_
                  refine L_split (d := 74) (b := ((decide (x13 ≤ x40)) && (decide (x40 ≤ all_31)))) rfl (fun hc52 => ?_) (fun hc52 => ?_)
                  ·
                    rw [ite_t hc52] at hb49
                    obtain ⟨x47, hx47, hb49⟩ := bind_some hb49
                    refine L_fa (o' := 0) rfl fa_26_0 ((hS42 5 rfl).trans sf5) rfl ?_
                    refine L_ld (v := r9_0) rfl Try.isAgg23 rfl (hb_g10.cell (j := 0) rfl) ?_
                    refine L_bld rfl (parts1 rfl) (bld_26_0 (r9_0) (one_of hr9_0)) ?_
                    refine L_call (args := #[.agg #[r9_0, (.slice none 0 0)]]) rfl Try.call26 (ops1 rfl) (i_CountModel_c (m := ({ sizes := x4.sizes, rules := [] } : Model)) (Nat.le_trans hB hx.size) (rel0 hr9_0) (rel_nil _ _ _ _ _) hx47) ?_
                    rintro _ w53 ⟨rfl, he53⟩
                    have hr9_0 := RP.ext hr9_0 he53
                    have hx := ext_trans hx he53
                    refine L_mv (v := .int .i64 all_31) rfl ((hS42 8 rfl).trans sf8) ?_
                    refine L_eql (m := x47) (n := all_31) rfl rfl rfl ?_
                    refine L_pick (v := .bool b49) rfl rfl (congrArg Value.bool (so hb49)) ?_
                    refine L_as (v := .bool b49) rfl rfl ?_
                    refine L_nil ?_
                    show R50 _ _
                    rw [hR50]
                    exact ⟨rfl, hx⟩
                  ·
                    rw [ite_f hc52] at hb49
                    refine L_pass rfl ?_
                    refine L_pass rfl ?_
                    refine L_pass rfl ?_
                    refine L_pass rfl ?_
                    refine L_pass rfl ?_
                    refine L_pass rfl ?_
                    refine L_pick (v := .bool b49) rfl rfl (congrArg Value.bool (so hb49)) ?_
                    refine L_as (v := .bool b49) rfl rfl ?_
                    refine L_nil ?_
                    show R50 _ _
                    rw [hR50]
                    exact ⟨rfl, hx⟩
                ·
                  refine L_pass rfl ?_
                  refine L_pass rfl ?_
                  refine L_pass rfl ?_
                  refine L_pick (v := .bool ((decide (x13 ≤ x40)) && (decide (x40 ≤ all_31)))) rfl rfl (and_f hc51) ?_
                  refine L_mv (v := .bool ((decide (x13 ≤ x40)) && (decide (x40 ≤ all_31)))) rfl rfl ?_
                  refine L_split (d := 74) (b := ((decide (x13 ≤ x40)) && (decide (x40 ≤ all_31)))) rfl (fun hc54 => ?_) (fun hc54 => ?_)
                  ·
                    rw [ite_t hc54] at hb49
                    obtain ⟨x47, hx47, hb49⟩ := bind_some hb49
                    refine L_fa (o' := 0) rfl fa_26_0 ((hS42 5 rfl).trans sf5) rfl ?_
                    refine L_ld (v := r9_0) rfl Try.isAgg23 rfl (hb_g10.cell (j := 0) rfl) ?_
                    refine L_bld rfl (parts1 rfl) (bld_26_0 (r9_0) (one_of hr9_0)) ?_
                    refine L_call (args := #[.agg #[r9_0, (.slice none 0 0)]]) rfl Try.call26 (ops1 rfl) (i_CountModel_c (m := ({ sizes := x4.sizes, rules := [] } : Model)) (Nat.le_trans hB hx.size) (rel0 hr9_0) (rel_nil _ _ _ _ _) hx47) ?_
                    rintro _ w55 ⟨rfl, he55⟩
                    have hr9_0 := RP.ext hr9_0 he55
                    have hx := ext_trans hx he55
                    refine L_mv (v := .int .i64 all_31) rfl ((hS42 8 rfl).trans sf8) ?_
                    refine L_eql (m := x47) (n := all_31) rfl rfl rfl ?_
                    refine L_pick (v := .bool b49) rfl rfl (congrArg Value.bool (so hb49)) ?_
                    refine L_as (v := .bool b49) rfl rfl ?_
                    refine L_nil ?_
                    show R50 _ _
                    rw [hR50]
                    exact ⟨rfl, hx⟩
                  ·
                    rw [ite_f hc54] at hb49
                    refine L_pass rfl ?_
                    refine L_pass rfl ?_
                    refine L_pass rfl ?_
                    refine L_pass rfl ?_
                    refine L_pass rfl ?_
                    refine L_pass rfl ?_
                    refine L_pick (v := .bool b49) rfl rfl (congrArg Value.bool (so hb49)) ?_
                    refine L_as (v := .bool b49) rfl rfl ?_
                    refine L_nil ?_
                    show R50 _ _
                    rw [hR50]
                    exact ⟨rfl, hx⟩
              ·
                intro f w_ hR
                rw [hR50] at hR
                obtain ⟨sf4, hx⟩ := hR
                clear hR50
                refine W_ret ?_
                obtain rfl := so hF
                refine ret1 Try.results9 ?_
                exact ⟨sf4, hx⟩

end Go.Proofs.Ytcjjfneofcpmfaa

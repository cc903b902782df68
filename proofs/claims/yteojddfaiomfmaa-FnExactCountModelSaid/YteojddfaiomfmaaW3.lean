/- Part of a proof by program: W3. -/
import Derived.Test.YteojddfaiomfmaaD1
import Derived.Test.YteojddfaiomfmaaW2
namespace Go.Proofs.Yteojddfaiomfmaa
open Go Go.E Go.L Go.RowKit
set_option linter.unusedVariables false
set_option linter.unusedSimpArgs false
set_option maxRecDepth 100000

theorem i_each_c {fu : Nat} {sizes : List Int} {from_ : List Int} {told : (List Int → Option Bool)} {v0 : Value} {v1 : Value} {v2 : Value} {w : World} {B : Nat} (hB : B ≤ w.heap.size) (h0 : (RP.slice 3 RP.int).rel B w.heap.size w [v0] sizes) (h1 : (RP.slice 3 RP.int).rel B w.heap.size w [v1] from_) (h2 : Fun1 Try.prog B (RP.slice 3 RP.int) false Value.bool told v2 w) {r : Unit} (hF : i_each fu sizes from_ told = some r) :
    C Try.prog 63 #[v0, v1, v2] w fun v w' => (v = .tuple #[]) ∧ Ext w w' := by
  unfold i_each at hF
  obtain ⟨fid_2, caps_2, rfl, hcall_2, hc_2⟩ := h2
  have hx := ext_refl w
  refine C_enter Try.func63 rfl Try.ntmps63 rfl ?_
  refine W_seq ?_
  obtain ⟨x1, hx1, hF⟩ := bind_some hF
  refine W_region ?_
  refine L_mv (v := v1) rfl rfl ?_
  refine L_call (args := #[v1]) rfl Try.call77 (ops1 rfl) (slices_Clone_int_c (s := from_) (Nat.le_trans hB hx.size) (rel0 h1) hx1) ?_
  rintro r3_0 w3 ⟨⟨_, rfl, hr3_0⟩, he3⟩
  have hr3_0 : Own _ _ w.heap.size B _ _ _ := hr3_0.wide hx.size (Nat.le_refl _)
  have h0 := RP.ext h0 he3
  have h1 := RP.ext h1 he3
  have hx := ext_trans hx he3
  refine L_as (v := r3_0) rfl rfl ?_
  refine L_nil ?_
  obtain ⟨j6, hL6, hF⟩ := bind_some hF
  obtain ⟨R6, hR6⟩ : ∃ R : Fr → World → Prop, R = fun f w_ => ∃ cells_5 : List Int, j6 = .nx cells_5 ∧ Ext w w_ := ⟨_, rfl⟩
  refine W_join R6 ?_ ?_
  ·
    refine W_block ?_
    obtain ⟨I6, hI6⟩ : ∃ I : Nat → Fr → World → Prop, I = fun n f w_ => ∃ cells_5 : List Int, ∃ v5_cells : Value, whileL (i_each_b1 fu sizes told) n cells_5 = some j6 ∧ f 0 = v0 ∧ f 2 = .func (.func fid_2) #[] caps_2 ∧ f 6 = v5_cells ∧ (RP.slice 3 RP.int).rel B w.heap.size w_ [v0] sizes ∧ Own RP.int 3 w.heap.size B w_ v5_cells cells_5 ∧ Ext w w_ := ⟨_, rfl⟩
    refine W_loop I6 (n := fu) ?_ ?_
    · rw [hI6]; exact ⟨x1, r3_0, hL6, rfl, rfl, rfl, h0, hr3_0, hx⟩
    ·
      intro n6 f w_ hI
      rw [hI6] at hI
      obtain ⟨cells_5, v5_cells, hL6, sf0, sf2, sf6, h0, hv5_cells, hx⟩ := hI
      cases n6 with
      | zero => exact (while_zero hL6).elim
      | succ n6 =>
        obtain ⟨o6, hB6, hL6⟩ := while_succ hL6
        rw [i_each_b1] at hB6
        refine W_seq ?_
        refine W_seq ?_
        obtain ⟨x7, hx7, hB6⟩ := bind_some hB6
        refine W_region ?_
        refine L_mv (v := .func (.func fid_2) #[] caps_2) rfl sf2 ?_
        refine L_mv (v := v5_cells) rfl sf6 ?_
        refine L_callv (args := #[v5_cells]) rfl hcall_2 rfl (ops1 rfl) (hc_2 _ hx [v5_cells] _ _ _ (rel0 (Own.rel hv5_cells)) hx7 (args_app rfl)) ?_
        rintro _ w8 ⟨rfl, he8⟩
        have h0 := RP.ext h0 he8
        have hv5_cells := Own.ext hv5_cells he8
        have hx := ext_trans hx he8
        refine L_nil ?_
        refine W_cond (b := x7) rfl (fun hc9 => ?_) (fun hc9 => ?_)
        ·
          have hB6 := (ite_t hc9).symm.trans hB6
          refine W_skip ?_
          refine W_block ?_
          refine W_seq ?_
          refine W_region ?_
          refine L_mv (v := v5_cells) rfl sf6 ?_
          refine L_len (v := v5_cells) rfl Try.underlying22 rfl (Own.rel hv5_cells) ?_
          refine L_sub (m := (cells_5.length : Int)) (n := 1) rfl rfl rfl ?_
          refine L_as (v := .int .i64 (i64 ((cells_5.length : Int) - 1))) rfl rfl ?_
          refine L_nil ?_
          refine W_seq ?_
          obtain ⟨j13, hL13, hB6⟩ := bind_some hB6
          obtain ⟨R13, hR13⟩ : ∃ R : Fr → World → Prop, R = fun f w_ => ∃ cells_11 : List Int, ∃ i_12 : Int, ∃ v11_cells : Value, j13 = .nx (cells_11, i_12) ∧ f 0 = v0 ∧ f 2 = .func (.func fid_2) #[] caps_2 ∧ f 6 = v11_cells ∧ f 7 = .int .i64 i_12 ∧ (RP.slice 3 RP.int).rel B w.heap.size w_ [v0] sizes ∧ Own RP.int 3 w.heap.size B w_ v11_cells cells_11 ∧ Ext w w_ := ⟨_, rfl⟩
          refine W_join R13 ?_ ?_
          ·
            refine W_block ?_
            obtain ⟨I13, hI13⟩ : ∃ I : Nat → Fr → World → Prop, I = fun n f w_ => ∃ cells_11 : List Int, ∃ i_12 : Int, ∃ v11_cells : Value, whileL (i_each_b2 sizes) n (cells_11, i_12) = some j13 ∧ f 0 = v0 ∧ f 2 = .func (.func fid_2) #[] caps_2 ∧ f 6 = v11_cells ∧ f 7 = .int .i64 i_12 ∧ (RP.slice 3 RP.int).rel B w.heap.size w_ [v0] sizes ∧ Own RP.int 3 w.heap.size B w_ v11_cells cells_11 ∧ Ext w w_ := ⟨_, rfl⟩
            refine W_loop I13 (n := fu) ?_ ?_
            · rw [hI13]; exact ⟨cells_5, i64 ((cells_5.length : Int) - 1), v5_cells, hL13, sf0, sf2, sf6, rfl, h0, hv5_cells, hx⟩
            ·
              intro n13 f w_ hI
              rw [hI13] at hI
              obtain ⟨cells_11, i_12, v11_cells, hL13, sf0, sf2, sf6, sf7, h0, hv11_cells, hx⟩ := hI
              cases n13 with
              | zero => exact (while_zero hL13).elim
              | succ n13 =>
                obtain ⟨o13, hB13, hL13⟩ := while_succ hL13
                rw [i_each_b2] at hB13
                refine W_seq ?_
                refine W_seq ?_
                obtain ⟨b20, hb20, hB13⟩ := bind_some hB13
                obtain ⟨R22, hR22⟩ : ∃ R : Fr → World → Prop, R = fun f w_ => f 0 = v0 ∧ f 2 = .func (.func fid_2) #[] caps_2 ∧ f 6 = v11_cells ∧ f 7 = .int .i64 i_12 ∧ f 28 = .bool b20 ∧ (RP.slice 3 RP.int).rel B w.heap.size w_ [v0] sizes ∧ Own RP.int 3 w.heap.size B w_ v11_cells cells_11 ∧ Ext w w_ := ⟨_, rfl⟩
                refine W_join R22 ?_ ?_
                ·
                  rcases Bool.eq_false_or_eq_true (decide (i_12 ≥ 0)) with hc23 | hc23
                  ·
                    rw [ite_t hc23] at hb20
                    obtain ⟨x14, hx14, hb20⟩ := bind_some hb20
                    obtain ⟨x17, hx17, hb20⟩ := bind_some hb20
                    refine W_drawL 11 [isV (.int .i64 i_12), isV (.bool (decide (i_12 ≥ 0))), isV (.bool (decide (i_12 ≥ 0))), isV (v11_cells), isV (.int .i64 i_12), isEl B RP.int x14 0, isV (.int .i64 x14), isV (v0), isV (.int .i64 i_12), isEl B RP.int x17 0, isV (.int .i64 x17)] Try_mix (by kernel_rfl) (am_cons (mono_V _) (am_cons (mono_V _) (am_cons (mono_V _) (am_cons (mono_V _) (am_cons (mono_V _) (am_cons (mono_el _ _ _ _) (am_cons (mono_V _) (am_cons (mono_V _) (am_cons (mono_V _) (am_cons (mono_el _ _ _ _) (am_cons (mono_V _) am_nil))))))))))) ?_ (fun f w_ hS21 hE21 hT21 => ?_)
                    ·
                      refine ops_cons (fun f w_ hS21 hE21 hP21 => ?_) ?_
                      ·
                        have hx := ext_trans hx hE21
                        refine L_mv (v := .int .i64 i_12) rfl ((hS21 7 rfl).trans sf7) ?_
                        exact L_nil ⟨rfl, (ext_refl _), _, _, rfl, rfl, rfl⟩
                      refine ops_cons (fun f w_ hS21 hE21 hP21 => ?_) ?_
                      ·
                        have hx := ext_trans hx hE21
                        refine L_geq (m := i_12) (n := 0) rfl (hP21 0 16 rfl rfl) rfl ?_
                        exact L_nil ⟨rfl, (ext_refl _), _, _, rfl, rfl, rfl⟩
                      refine ops_cons (fun f w_ hS21 hE21 hP21 => ?_) ?_
                      ·
                        have hx := ext_trans hx hE21
                        refine L_mv (v := .bool (decide (i_12 ≥ 0))) rfl (hP21 1 17 rfl rfl) ?_
                        exact L_nil ⟨rfl, (ext_refl _), _, _, rfl, rfl, rfl⟩
                      refine ops_cons (fun f w_ hS21 hE21 hP21 => ?_) ?_
                      ·
                        have hx := ext_trans hx hE21
                        have hv11_cells := Own.ext hv11_cells hE21
                        refine L_mv (v := v11_cells) (g_yes rfl (Eq.trans (hP21 2 18 rfl rfl) (congrArg Value.bool hc23)) rfl) ((hS21 6 rfl).trans sf6) ?_
                        exact L_nil ⟨rfl, (ext_refl _), _, _, rfl, rfl, rfl⟩
                      refine ops_cons (fun f w_ hS21 hE21 hP21 => ?_) ?_
                      ·
                        have hx := ext_trans hx hE21
                        refine L_mv (v := .int .i64 i_12) (g_yes rfl (Eq.trans (hP21 2 18 rfl rfl) (congrArg Value.bool hc23)) rfl) ((hS21 7 rfl).trans sf7) ?_
                        exact L_nil ⟨rfl, (ext_refl _), _, _, rfl, rfl, rfl⟩
                      refine ops_cons (fun f w_ hS21 hE21 hP21 => ?_) ?_
                      ·
                        have hx := ext_trans hx hE21
                        have hv11_cells := Own.ext hv11_cells hE21
                        refine L_ix (r := RP.int) (g_yes rfl (Eq.trans (hP21 2 18 rfl rfl) (congrArg Value.bool hc23)) rfl) Try.underlying22 Try.sizeOf3 (hP21 3 19 rfl rfl) (Own.rel hv11_cells) (hP21 4 20 rfl rfl) hx14 ?_
                        intro g28 o29 cs29 hr29 hat29
                        obtain rfl : _ = [_] := hr29
                        exact L_nil ⟨rfl, (ext_refl _), _, _, rfl, rfl, ⟨_, _, _, rfl, rfl, hat29⟩⟩
                      refine ops_cons (fun f w_ hS21 hE21 hP21 => ?_) ?_
                      ·
                        have hx := ext_trans hx hE21
                        obtain ⟨g30, o30, cs30, hv30, hr30, hat30⟩ := (hP21 5 21 rfl rfl)
                        obtain rfl : _ = [_] := hr30
                        refine L_ld (v := .int .i64 x14) (g_yes rfl (Eq.trans (hP21 2 18 rfl rfl) (congrArg Value.bool hc23)) rfl) Try.isAgg3 hv30 (hat30.cell (j := 0) rfl) ?_
                        exact L_nil ⟨rfl, (ext_refl _), _, _, rfl, rfl, rfl⟩
                      refine ops_cons (fun f w_ hS21 hE21 hP21 => ?_) ?_
                      ·
                        have hx := ext_trans hx hE21
                        have h0 := RP.ext h0 hE21
                        refine L_mv (v := v0) (g_yes rfl (Eq.trans (hP21 2 18 rfl rfl) (congrArg Value.bool hc23)) rfl) ((hS21 0 rfl).trans sf0) ?_
                        exact L_nil ⟨rfl, (ext_refl _), _, _, rfl, rfl, rfl⟩
                      refine ops_cons (fun f w_ hS21 hE21 hP21 => ?_) ?_
                      ·
                        have hx := ext_trans hx hE21
                        refine L_mv (v := .int .i64 i_12) (g_yes rfl (Eq.trans (hP21 2 18 rfl rfl) (congrArg Value.bool hc23)) rfl) ((hS21 7 rfl).trans sf7) ?_
                        exact L_nil ⟨rfl, (ext_refl _), _, _, rfl, rfl, rfl⟩
                      refine ops_cons (fun f w_ hS21 hE21 hP21 => ?_) ?_
                      ·
                        have hx := ext_trans hx hE21
                        have h0 := RP.ext h0 hE21
                        refine L_ix (r := RP.int) (g_yes rfl (Eq.trans (hP21 2 18 rfl rfl) (congrArg Value.bool hc23)) rfl) Try.underlying22 Try.sizeOf3 (hP21 7 23 rfl rfl) h0 (hP21 8 24 rfl rfl) hx17 ?_
                        intro g31 o32 cs32 hr32 hat32
                        obtain rfl : _ = [_] := hr32
                        exact L_nil ⟨rfl, (ext_refl _), _, _, rfl, rfl, ⟨_, _, _, rfl, rfl, hat32⟩⟩
                      refine ops_cons (fun f w_ hS21 hE21 hP21 => ?_) ?_
                      ·
                        have hx := ext_trans hx hE21
                        obtain ⟨g33, o33, cs33, hv33, hr33, hat33⟩ := (hP21 9 25 rfl rfl)
                        obtain rfl : _ = [_] := hr33
                        refine L_ld (v := .int .i64 x17) (g_yes rfl (Eq.trans (hP21 2 18 rfl rfl) (congrArg Value.bool hc23)) rfl) Try.isAgg3 hv33 (hat33.cell (j := 0) rfl) ?_
                        exact L_nil ⟨rfl, (ext_refl _), _, _, rfl, rfl, rfl⟩
                      exact ops_nil
                    ·
                      have h0 := RP.ext h0 hE21
                      have hv11_cells := Own.ext hv11_cells hE21
                      have hx := ext_trans hx hE21
                      refine L_eql (m := x14) (n := x17) (g_yes rfl (Eq.trans (hT21 2 18 rfl rfl) (congrArg Value.bool hc23)) rfl) (hT21 6 22 rfl rfl) (hT21 10 26 rfl rfl) ?_
                      refine L_pick (v := .bool b20) rfl (Eq.trans (hT21 2 18 rfl rfl) (congrArg Value.bool hc23)) (congrArg Value.bool (so hb20)) ?_
                      refine L_nil ?_
                      show R22 _ _
                      rw [hR22]
                      exact ⟨((hS21 0 rfl).trans sf0), ((hS21 2 rfl).trans sf2), ((hS21 6 rfl).trans sf6), ((hS21 7 rfl).trans sf7), rfl, h0, hv11_cells, hx⟩
                  ·
                    rw [ite_f hc23] at hb20
                    refine W_drawL 11 [isV (.int .i64 i_12), isV (.bool (decide (i_12 ≥ 0))), isV (.bool (decide (i_12 ≥ 0))), isV (undef), isV (undef), isV (undef), isV (undef), isV (undef), isV (undef), isV (undef), isV (undef)] Try_mix (by kernel_rfl) (am_cons (mono_V _) (am_cons (mono_V _) (am_cons (mono_V _) (am_cons (mono_V _) (am_cons (mono_V _) (am_cons (mono_V _) (am_cons (mono_V _) (am_cons (mono_V _) (am_cons (mono_V _) (am_cons (mono_V _) (am_cons (mono_V _) am_nil))))))))))) ?_ (fun f w_ hS21 hE21 hT21 => ?_)
                    ·
                      refine ops_cons (fun f w_ hS21 hE21 hP21 => ?_) ?_
                      ·
                        have hx := ext_trans hx hE21
                        refine L_mv (v := .int .i64 i_12) rfl ((hS21 7 rfl).trans sf7) ?_
                        exact L_nil ⟨rfl, (ext_refl _), _, _, rfl, rfl, rfl⟩
                      refine ops_cons (fun f w_ hS21 hE21 hP21 => ?_) ?_
                      ·
                        have hx := ext_trans hx hE21
                        refine L_geq (m := i_12) (n := 0) rfl (hP21 0 16 rfl rfl) rfl ?_
                        exact L_nil ⟨rfl, (ext_refl _), _, _, rfl, rfl, rfl⟩
                      refine ops_cons (fun f w_ hS21 hE21 hP21 => ?_) ?_
                      ·
                        have hx := ext_trans hx hE21
                        refine L_mv (v := .bool (decide (i_12 ≥ 0))) rfl (hP21 1 17 rfl rfl) ?_
                        exact L_nil ⟨rfl, (ext_refl _), _, _, rfl, rfl, rfl⟩
                      refine ops_cons (fun f w_ hS21 hE21 hP21 => ?_) ?_
                      ·
                        have hx := ext_trans hx hE21
                        have hv11_cells := Own.ext hv11_cells hE21
                        refine L_pass (g_no rfl (Eq.trans (hP21 2 18 rfl rfl) (congrArg Value.bool hc23)) rfl rfl) ?_
                        exact L_nil ⟨rfl, (ext_refl _), _, _, rfl, rfl, rfl⟩
                      refine ops_cons (fun f w_ hS21 hE21 hP21 => ?_) ?_
                      ·
                        have hx := ext_trans hx hE21
                        refine L_pass (g_no rfl (Eq.trans (hP21 2 18 rfl rfl) (congrArg Value.bool hc23)) rfl rfl) ?_
                        exact L_nil ⟨rfl, (ext_refl _), _, _, rfl, rfl, rfl⟩
                      refine ops_cons (fun f w_ hS21 hE21 hP21 => ?_) ?_
                      ·
                        have hx := ext_trans hx hE21
                        refine L_pass (g_no rfl (Eq.trans (hP21 2 18 rfl rfl) (congrArg Value.bool hc23)) rfl rfl) ?_
                        exact L_nil ⟨rfl, (ext_refl _), _, _, rfl, rfl, rfl⟩
                      refine ops_cons (fun f w_ hS21 hE21 hP21 => ?_) ?_
                      ·
                        have hx := ext_trans hx hE21
                        refine L_pass (g_no rfl (Eq.trans (hP21 2 18 rfl rfl) (congrArg Value.bool hc23)) rfl rfl) ?_
                        exact L_nil ⟨rfl, (ext_refl _), _, _, rfl, rfl, rfl⟩
                      refine ops_cons (fun f w_ hS21 hE21 hP21 => ?_) ?_
                      ·
                        have hx := ext_trans hx hE21
                        have h0 := RP.ext h0 hE21
                        refine L_pass (g_no rfl (Eq.trans (hP21 2 18 rfl rfl) (congrArg Value.bool hc23)) rfl rfl) ?_
                        exact L_nil ⟨rfl, (ext_refl _), _, _, rfl, rfl, rfl⟩
                      refine ops_cons (fun f w_ hS21 hE21 hP21 => ?_) ?_
                      ·
                        have hx := ext_trans hx hE21
                        refine L_pass (g_no rfl (Eq.trans (hP21 2 18 rfl rfl) (congrArg Value.bool hc23)) rfl rfl) ?_
                        exact L_nil ⟨rfl, (ext_refl _), _, _, rfl, rfl, rfl⟩
                      refine ops_cons (fun f w_ hS21 hE21 hP21 => ?_) ?_
                      ·
                        have hx := ext_trans hx hE21
                        refine L_pass (g_no rfl (Eq.trans (hP21 2 18 rfl rfl) (congrArg Value.bool hc23)) rfl rfl) ?_
                        exact L_nil ⟨rfl, (ext_refl _), _, _, rfl, rfl, rfl⟩
                      refine ops_cons (fun f w_ hS21 hE21 hP21 => ?_) ?_
                      ·
                        have hx := ext_trans hx hE21
                        refine L_pass (g_no rfl (Eq.trans (hP21 2 18 rfl rfl) (congrArg Value.bool hc23)) rfl rfl) ?_
                        exact L_nil ⟨rfl, (ext_refl _), _, _, rfl, rfl, rfl⟩
                      exact ops_nil
                    ·
                      have h0 := RP.ext h0 hE21
                      have hv11_cells := Own.ext hv11_cells hE21
                      have hx := ext_trans hx hE21
                      refine L_pass (g_no rfl (Eq.trans (hT21 2 18 rfl rfl) (congrArg Value.bool hc23)) rfl rfl) ?_
                      refine L_pick (v := .bool b20) rfl (Eq.trans (hT21 2 18 rfl rfl) (congrArg Value.bool hc23)) (congrArg Value.bool (so hb20)) ?_
                      refine L_nil ?_
                      show R22 _ _
                      rw [hR22]
                      exact ⟨((hS21 0 rfl).trans sf0), ((hS21 2 rfl).trans sf2), ((hS21 6 rfl).trans sf6), ((hS21 7 rfl).trans sf7), rfl, h0, hv11_cells, hx⟩
                ·
                  intro f w_ hR
                  rw [hR22] at hR
                  obtain ⟨sf0, sf2, sf6, sf7, sf28, h0, hv11_cells, hx⟩ := hR
                  clear hR22
                  refine W_cond (b := b20) sf28 (fun hc34 => ?_) (fun hc34 => ?_)
                  ·
                    have hB13 := (ite_t hc34).symm.trans hB13
                    refine W_skip ?_
                    refine W_block ?_
                    refine W_seq ?_
                    obtain ⟨x35, hx35, hB13⟩ := bind_some hB13
                    refine W_region ?_
                    refine L_mv (v := v11_cells) rfl sf6 ?_
                    refine L_mv (v := .int .i64 i_12) rfl sf7 ?_
                    refine L_ixo (r := RP.int) rfl et_22 rfl hv11_cells rfl hx35 ?_
                    intro g39 c40 cs40 hg40 hl40 hc40 hr40 hj40
                    obtain rfl : cs40 = [_] := hr40
                    refine L_st (v := .int .i64 0) rfl Try.sizeOf3 rfl rfl rfl hc40 (hj40 0 _ rfl) ?_
                    intro w41 hp41
                    have hv11_cells_n : Own RP.int 3 _ B w41 _ (cells_11.set (Int.toNat i_12) 0) := own_set hv11_cells hg40 rfl (by decide) (idx_some hx35).2.2 hc40 hp41 rfl hB
                    have h0 := hp41.mu.rel_lo h0 hl40
                    have hx := ext_mut hx hp41.mu hl40
                    have hv11_cells := hv11_cells_n
                    refine L_nil ?_
                    refine W_region ?_
                    refine L_mv (v := .int .i64 i_12) rfl sf7 ?_
                    refine L_sub (m := i_12) (n := 1) rfl rfl rfl ?_
                    refine L_as (v := .int .i64 (i64 (i_12 - 1))) rfl rfl ?_
                    refine L_nil ?_
                    obtain rfl := so hB13
                    show ∃ m, m < _ ∧ I13 m _ _
                    refine ⟨n13, Nat.lt_succ_self _, ?_⟩
                    rw [hI13]
                    exact ⟨(cells_11.set (Int.toNat i_12) 0), i64 (i_12 - 1), v11_cells, hL13, sf0, sf2, sf6, rfl, h0, hv11_cells, hx⟩
                  ·
                    have hB13 := (ite_f hc34).symm.trans hB13
                    refine W_exit ?_
                    obtain rfl := so hB13
                    obtain rfl := so hL13
                    show R13 _ _
                    rw [hR13]
                    exact ⟨cells_11, i_12, v11_cells, rfl, sf0, sf2, sf6, sf7, h0, hv11_cells, hx⟩
          ·
            intro f w_ hR
            rw [hR13] at hR
            obtain ⟨cells_11, i_12, v11_cells, rfl, sf0, sf2, sf6, sf7, h0, hv11_cells, hx⟩ := hR
            clear hR13
            refine W_seq ?_
            refine W_seq ?_
            refine W_region ?_
            refine L_mv (v := .int .i64 i_12) rfl sf7 ?_
            refine L_lss (m := i_12) (n := 0) rfl rfl rfl ?_
            refine L_nil ?_
            refine W_cond (b := decide (i_12 < 0)) rfl (fun hc42 => ?_) (fun hc42 => ?_)
            ·
              have hB6 := (ite_t hc42).symm.trans hB6
              refine W_ret ?_
              obtain rfl := so hB6
              obtain rfl := so hL6
              obtain rfl := so hF
              refine ret0 Try.results63 ?_
              exact ⟨rfl, hx⟩
            ·
              have hB6 := (ite_f hc42).symm.trans hB6
              refine W_skip ?_
              obtain ⟨x43, hx43, hB6⟩ := bind_some hB6
              refine W_region ?_
              refine L_mv (v := v11_cells) rfl sf6 ?_
              refine L_mv (v := .int .i64 i_12) rfl sf7 ?_
              refine L_ix (r := RP.int) rfl Try.underlying22 Try.sizeOf3 rfl (Own.rel hv11_cells) rfl hx43 ?_
              intro g49 o50 cs50 hr50 hat50
              obtain rfl : _ = [_] := hr50
              refine L_ld (v := .int .i64 x43) rfl Try.isAgg3 rfl (hat50.cell (j := 0) rfl) ?_
              refine L_add (m := x43) (n := 1) rfl rfl rfl ?_
              refine L_ixo (r := RP.int) rfl et_22 rfl hv11_cells rfl hx43 ?_
              intro g51 c52 cs52 hg52 hl52 hc52 hr52 hj52
              obtain rfl : cs52 = [_] := hr52
              refine L_st (v := .int .i64 (i64 (x43 + 1))) rfl Try.sizeOf3 rfl rfl rfl hc52 (hj52 0 _ rfl) ?_
              intro w53 hp53
              have hv11_cells_n : Own RP.int 3 _ B w53 _ (cells_11.set (Int.toNat i_12) (i64 (x43 + 1))) := own_set hv11_cells hg52 rfl (by decide) (idx_some hx43).2.2 hc52 hp53 rfl hB
              have h0 := hp53.mu.rel_lo h0 hl52
              have hx := ext_mut hx hp53.mu hl52
              have hv11_cells := hv11_cells_n
              refine L_nil ?_
              obtain rfl := so hB6
              show ∃ m, m < _ ∧ I6 m _ _
              refine ⟨n6, Nat.lt_succ_self _, ?_⟩
              rw [hI6]
              exact ⟨(cells_11.set (Int.toNat i_12) (i64 (x43 + 1))), v11_cells, hL6, sf0, sf2, sf6, h0, hv11_cells, hx⟩
        ·
          have hB6 := (ite_f hc9).symm.trans hB6
          refine W_exit ?_
          obtain rfl := so hB6
          obtain rfl := so hL6
          show R6 _ _
          rw [hR6]
          exact ⟨cells_5, rfl, hx⟩
  ·
    intro f w_ hR
    rw [hR6] at hR
    obtain ⟨cells_5, rfl, hx⟩ := hR
    clear hR6
    obtain rfl := so hF
    exact end0 Try.results63 ⟨rfl, hx⟩

theorem i_CountModel_c {fu : Nat} {m : Model} {v0_0 : Value} {v0_1 : Value} {w : World} {B : Nat} (hB : B ≤ w.heap.size) (h0_0 : (RP.slice 3 RP.int).rel B w.heap.size w [v0_0] m.sizes) (h0_1 : (RP.slice 68 (rRule 3 22)).rel B w.heap.size w [v0_1] m.rules) {r : Int} (hF : i_CountModel fu m = some r) :
    C Try.prog 41 #[.agg #[v0_0, v0_1]] w fun v w' => (v = .int .i64 r) ∧ Ext w w' := by
  unfold i_CountModel at hF
  have hx := ext_refl w
  refine C_enter Try.func41 rfl Try.ntmps41 rfl ?_
  refine W_seq ?_
  refine W_region ?_
  refine L_box (v := .agg #[v0_0, v0_1]) (cs := #[v0_0, v0_1]) rfl rfl rfl ?_
  intro g3 w4 hn4
  have hge_g3 := hn4.geS hx.size
  have hb_g3 := hn4.blk
  have h0_0 := RP.ext h0_0 hn4.ext
  have h0_1 := RP.ext h0_1 hn4.ext
  have hx := ext_trans hx hn4.ext
  refine L_as (v := .int .i64 0) rfl rfl ?_
  refine L_nil ?_
  refine W_seq ?_
  refine W_seq ?_
  obtain ⟨x5, hx5, hF⟩ := bind_some hF
  refine W_region ?_
  refine L_lda (cs := [v0_0, v0_1]) rfl Try.isAgg30 Try.sizeOf30 rfl (Blk.sub hb_g3 0 2) rfl ?_
  refine L_call (args := #[.agg #[v0_0, v0_1]]) rfl Try.call47 (ops1 rfl) (i_ModelValid_c (m := m) (Nat.le_trans hB hx.size) (rel0 h0_0) (rel0 h0_1) hx5) ?_
  rintro _ w7 ⟨rfl, he7⟩
  have h0_0 := RP.ext h0_0 he7
  have h0_1 := RP.ext h0_1 he7
  have hb_g3 := Blk.ext hb_g3 he7
  have hx := ext_trans hx he7
  refine L_not_ (b := x5) rfl rfl ?_
  refine L_nil ?_
  refine W_cond (b := (!x5)) rfl (fun hc8 => ?_) (fun hc8 => ?_)
  ·
    have hF := (ite_t hc8).symm.trans hF
    refine W_seq ?_
    refine W_region ?_
    refine L_as (v := .int .i64 0) rfl rfl ?_
    refine L_nil ?_
    refine W_ret ?_
    obtain rfl := so hF
    refine ret1 Try.results41 ?_
    exact ⟨rfl, hx⟩
  ·
    have hF := (ite_f hc8).symm.trans hF
    refine W_skip ?_
    refine W_seq ?_
    refine W_region ?_
    refine L_al (cs := #[.int .i64 0]) rfl Try.zeroValue3 rfl ?_
    intro g12 w13 hn13
    have hge_g12 := hn13.geS hx.size
    have hb_g12 := hn13.blk
    have h0_0 := RP.ext h0_0 hn13.ext
    have h0_1 := RP.ext h0_1 hn13.ext
    have hb_g3 := Blk.ext hb_g3 hn13.ext
    have hx := ext_trans hx hn13.ext
    refine L_st (v := .int .i64 0) rfl Try.sizeOf3 rfl rfl rfl hb_g12 rfl ?_
    intro w14 hp14
    have h0_0 := hp14.mu.rel_lo h0_0 hge_g12
    have h0_1 := hp14.mu.rel_lo h0_1 hge_g12
    have hb_g3 := hp14.mu.blk hb_g3 (by decide)
    have hx := ext_mut hx hp14.mu hge_g12
    have hb_g12 : Blk w14 g12 3 #[.int .i64 0] := hp14.blk
    refine L_nil ?_
    refine W_seq ?_
    obtain ⟨x15, hx15, hF⟩ := bind_some hF
    obtain ⟨g12_0_18, hI19, hF⟩ := bind_some hF
    refine W_drawL 7 [isV (.pointer (some ⟨g3, 0, none⟩)), isV (v0_0), isV (.pointer (some ⟨g3, 0, none⟩)), isV (v0_0), isV (.int .i64 (m.sizes.length : Int)), isOwn B RP.int 3 w.heap.size x15, isV (.func (.func 64) #[] #[.pointer (some ⟨g3, 0, none⟩), .pointer (some ⟨g12, 0, none⟩)])] Try_mix (by kernel_rfl) (am_cons (mono_V _) (am_cons (mono_V _) (am_cons (mono_V _) (am_cons (mono_V _) (am_cons (mono_V _) (am_cons (mono_own _ _ _ _ _) (am_cons (mono_V _) am_nil))))))) ?_ (fun f w_ hS20 hE20 hT20 => ?_)
    ·
      refine ops_cons (fun f w_ hS20 hE20 hP20 => ?_) ?_
      ·
        have hx := ext_trans hx hE20
        have h0_0 := RP.ext h0_0 hE20
        have h0_1 := RP.ext h0_1 hE20
        have hb_g3 := Blk.ext hb_g3 hE20
        refine L_fa (o' := 0) rfl fa_30_0 ((hS20 1 rfl).trans rfl) rfl ?_
        exact L_nil ⟨rfl, (ext_refl _), _, _, rfl, rfl, rfl⟩
      refine ops_cons (fun f w_ hS20 hE20 hP20 => ?_) ?_
      ·
        have hx := ext_trans hx hE20
        have h0_0 := RP.ext h0_0 hE20
        have h0_1 := RP.ext h0_1 hE20
        have hb_g3 := Blk.ext hb_g3 hE20
        refine L_ld (v := v0_0) rfl Try.isAgg22 (hP20 0 7 rfl rfl) (hb_g3.cell (j := 0) rfl) ?_
        exact L_nil ⟨rfl, (ext_refl _), _, _, rfl, rfl, rfl⟩
      refine ops_cons (fun f w_ hS20 hE20 hP20 => ?_) ?_
      ·
        have hx := ext_trans hx hE20
        have h0_0 := RP.ext h0_0 hE20
        have h0_1 := RP.ext h0_1 hE20
        have hb_g3 := Blk.ext hb_g3 hE20
        refine L_fa (o' := 0) rfl fa_30_0 ((hS20 1 rfl).trans rfl) rfl ?_
        exact L_nil ⟨rfl, (ext_refl _), _, _, rfl, rfl, rfl⟩
      refine ops_cons (fun f w_ hS20 hE20 hP20 => ?_) ?_
      ·
        have hx := ext_trans hx hE20
        have h0_0 := RP.ext h0_0 hE20
        have h0_1 := RP.ext h0_1 hE20
        have hb_g3 := Blk.ext hb_g3 hE20
        refine L_ld (v := v0_0) rfl Try.isAgg22 (hP20 2 9 rfl rfl) (hb_g3.cell (j := 0) rfl) ?_
        exact L_nil ⟨rfl, (ext_refl _), _, _, rfl, rfl, rfl⟩
      refine ops_cons (fun f w_ hS20 hE20 hP20 => ?_) ?_
      ·
        have hx := ext_trans hx hE20
        have h0_0 := RP.ext h0_0 hE20
        refine L_len (v := v0_0) rfl Try.underlying22 (hP20 3 10 rfl rfl) h0_0 ?_
        exact L_nil ⟨rfl, (ext_refl _), _, _, rfl, rfl, rfl⟩
      refine ops_cons (fun f w_ hS20 hE20 hP20 => ?_) ?_
      ·
        have hx := ext_trans hx hE20
        refine L_mk (el := B) (r := RP.int) (z0 := 0) (zc := [.int .i64 0]) rfl et_22 (by kernel_rfl) (fun w => rfl) (hP20 4 11 rfl rfl) (hP20 4 11 rfl rfl) hx15 hx.size ?_
        intro v23 w23 ho23 he23 hb23
        have hx := ext_trans hx he23
        exact L_nil ⟨rfl, he23, _, _, rfl, rfl, ho23⟩
      refine ops_cons (fun f w_ hS20 hE20 hP20 => ?_) ?_
      ·
        have hx := ext_trans hx hE20
        have h0_0 := RP.ext h0_0 hE20
        have h0_1 := RP.ext h0_1 hE20
        have hb_g3 := Blk.ext hb_g3 hE20
        have hb_g12 := Blk.ext hb_g12 hE20
        refine L_mf rfl (ops2 ((hS20 1 rfl).trans rfl) ((hS20 3 rfl).trans rfl)) ?_
        exact L_nil ⟨rfl, (ext_refl _), _, _, rfl, rfl, rfl⟩
      exact ops_nil
    ·
      have h0_0 := RP.ext h0_0 hE20
      have h0_1 := RP.ext h0_1 hE20
      have hb_g3 := Blk.ext hb_g3 hE20
      have hb_g12 := Blk.ext hb_g12 hE20
      have hx := ext_trans hx hE20
      have hd24 := (hT20 5 12 rfl rfl)
      obtain ⟨R26, hR26⟩ : ∃ R : Value → World → Prop, R = fun v w_ => v = .tuple #[] ∧ Blk w_ g12 3 #[.int .i64 g12_0_18] ∧ Ext w w_ := ⟨_, rfl⟩
      refine L_call (args := #[v0_0, (f 12), .func (.func 64) #[] #[.pointer (some ⟨g3, 0, none⟩), .pointer (some ⟨g12, 0, none⟩)]]) (R := R26) rfl Try.call63 (ops3 (hT20 1 8 rfl rfl) rfl (hT20 6 13 rfl rfl)) ?_ ?_
      ·
        refine C_enter Try.func63 rfl Try.ntmps63 rfl ?_
        have hA26 := hI19
        unfold i_CountModel_i1 at hA26
        refine W_seq ?_
        obtain ⟨x27, hx27, hA26⟩ := bind_some hA26
        refine W_region ?_
        refine L_mv (v := (f 12)) rfl rfl ?_
        refine L_call (args := #[(f 12)]) rfl Try.call77 (ops1 rfl) (slices_Clone_int_c (s := x15) (Nat.le_trans hB hx.size) (rel0 (Own.rel hd24)) hx27) ?_
        rintro r31_0 w31 ⟨⟨_, rfl, hr31_0⟩, he31⟩
        have ap32 := ap_bc hb_g12 hr31_0
        have ap33 := ap_oc hd24 hr31_0
        have hr31_0 : Own _ _ w.heap.size B _ _ _ := hr31_0.wide hx.size (Nat.le_refl _)
        have h0_0 := RP.ext h0_0 he31
        have h0_1 := RP.ext h0_1 he31
        have hb_g3 := Blk.ext hb_g3 he31
        have hb_g12 := Blk.ext hb_g12 he31
        have hd24 := Own.ext hd24 he31
        have hx := ext_trans hx he31
        refine L_as (v := r31_0) rfl rfl ?_
        refine L_nil ?_
        obtain ⟨j38, hL38, hA26⟩ := bind_some hA26
        obtain ⟨R38, hR38⟩ : ∃ R : Fr → World → Prop, R = fun f w_ => ∃ cells_35 : List Int, ∃ g12_0_36 : Int, j38 = .nx (cells_35, g12_0_36) ∧ Blk w_ g12 3 #[.int .i64 g12_0_36] ∧ Ext w w_ := ⟨_, rfl⟩
        refine W_join R38 ?_ ?_
        ·
          refine W_block ?_
          obtain ⟨I38, hI38⟩ : ∃ I : Nat → Fr → World → Prop, I = fun n f w_ => ∃ cells_35 : List Int, ∃ g12_0_36 : Int, ∃ v35_cells : Value, whileL (i_CountModel_b2 fu m) n (cells_35, g12_0_36) = some j38 ∧ f 0 = v0_0 ∧ f 2 = .func (.func 64) #[] #[.pointer (some ⟨g3, 0, none⟩), .pointer (some ⟨g12, 0, none⟩)] ∧ f 6 = v35_cells ∧ (RP.slice 3 RP.int).rel B w.heap.size w_ [v0_0] m.sizes ∧ Own RP.int 3 w.heap.size B w_ v35_cells cells_35 ∧ Blk w_ g12 3 #[.int .i64 g12_0_36] ∧ (RP.slice 68 (rRule 3 22)).rel B w.heap.size w_ [v0_1] m.rules ∧ Blk w_ g3 30 #[v0_0, v0_1] ∧ Ap (some g12) v35_cells.ownBlock ∧ Ext w w_ := ⟨_, rfl⟩
          refine W_loop I38 (n := fu) ?_ ?_
          · rw [hI38]; exact ⟨x27, 0, r31_0, hL38, rfl, rfl, rfl, h0_0, hr31_0, hb_g12, h0_1, hb_g3, ap32, hx⟩
          ·
            intro n38 f w_ hI
            rw [hI38] at hI
            obtain ⟨cells_35, g12_0_36, v35_cells, hL38, sf0, sf2, sf6, h0_0, hv35_cells, hb_g12, h0_1, hb_g3, aq37, hx⟩ := hI
            cases n38 with
            | zero => exact (while_zero hL38).elim
            | succ n38 =>
              obtain ⟨o38, hB38, hL38⟩ := while_succ hL38
              rw [i_CountModel_b2] at hB38
              refine W_seq ?_
              refine W_seq ?_
              obtain ⟨⟨ret0_39, g12_0_40⟩, hI41, hB38⟩ := bind_some hB38
              refine W_region ?_
              refine L_mv (v := .func (.func 64) #[] #[.pointer (some ⟨g3, 0, none⟩), .pointer (some ⟨g12, 0, none⟩)]) rfl sf2 ?_
              refine L_mv (v := v35_cells) rfl sf6 ?_
              obtain ⟨R44, hR44⟩ : ∃ R : Value → World → Prop, R = fun v w_ => v = .bool ret0_39 ∧ Blk w_ g12 3 #[.int .i64 g12_0_40] ∧ Own RP.int 3 w.heap.size B w_ v35_cells cells_35 ∧ (RP.slice 3 RP.int).rel B w.heap.size w_ [v0_0] m.sizes ∧ (RP.slice 68 (rRule 3 22)).rel B w.heap.size w_ [v0_1] m.rules ∧ Blk w_ g3 30 #[v0_0, v0_1] ∧ Ext w w_ := ⟨_, rfl⟩
              refine L_callv (args := #[v35_cells]) (R := R44) rfl Try.call64 rfl (ops1 rfl) ?_ ?_
              ·
                show C _ _ #[v35_cells, .pointer (some ⟨g3, 0, none⟩), .pointer (some ⟨g12, 0, none⟩)] _ _
                refine C_enter Try.func64 rfl Try.ntmps64 rfl ?_
                have hA44 := hI41
                unfold i_CountModel_i3 at hA44
                refine W_seq ?_
                refine W_region ?_
                refine L_as (v := .bool false) rfl rfl ?_
                refine L_nil ?_
                refine W_seq ?_
                refine W_seq ?_
                obtain ⟨x45, hx45, hA44⟩ := bind_some hA44
                refine W_region ?_
                refine L_lda (cs := [v0_0, v0_1]) rfl Try.isAgg30 Try.sizeOf30 rfl (Blk.sub hb_g3 0 2) rfl ?_
                refine L_mv (v := v35_cells) rfl rfl ?_
                refine L_call (args := #[.agg #[v0_0, v0_1], v35_cells]) rfl Try.call60 (ops2 rfl rfl) (i_Model_solves_c (m := m) (cells := cells_35) (Nat.le_trans hB hx.size) (rel0 h0_0) (rel0 h0_1) (rel0 (Own.rel hv35_cells)) hx45) ?_
                rintro _ w47 ⟨rfl, he47⟩
                have h0_0 := RP.ext h0_0 he47
                have hv35_cells := Own.ext hv35_cells he47
                have hb_g12 := Blk.ext hb_g12 he47
                have h0_1 := RP.ext h0_1 he47
                have hb_g3 := Blk.ext hb_g3 he47
                have hx := ext_trans hx he47
                refine L_nil ?_
                obtain ⟨g12_0_48, hA49, hA44⟩ := bind_some hA44
                obtain ⟨R49, hR49⟩ : ∃ R : Fr → World → Prop, R = fun f w_ => Own RP.int 3 w.heap.size B w_ v35_cells cells_35 ∧ Blk w_ g12 3 #[.int .i64 g12_0_48] ∧ (RP.slice 3 RP.int).rel B w.heap.size w_ [v0_0] m.sizes ∧ (RP.slice 68 (rRule 3 22)).rel B w.heap.size w_ [v0_1] m.rules ∧ Blk w_ g3 30 #[v0_0, v0_1] ∧ Ext w w_ := ⟨_, rfl⟩
                refine W_join R49 ?_ ?_
                ·
                  refine W_cond (b := x45) rfl (fun hc50 => ?_) (fun hc50 => ?_)
                  ·
                    have hA49 := (ite_t hc50).symm.trans hA49
                    refine W_region ?_
                    refine L_ld (v := .int .i64 g12_0_36) rfl Try.isAgg3 rfl (hb_g12.cell (j := 0) rfl) ?_
                    refine L_add (m := g12_0_36) (n := 1) rfl rfl rfl ?_
                    refine L_st (v := .int .i64 (i64 (g12_0_36 + 1))) rfl Try.sizeOf3 rfl rfl rfl hb_g12 rfl ?_
                    intro w52 hp52
                    have h0_0 := hp52.mu.rel_lo h0_0 hge_g12
                    have hv35_cells := hp52.mu.ownA hv35_cells aq37 (by decide) (Nat.le_trans hB hge_g12)
                    have h0_1 := hp52.mu.rel_lo h0_1 hge_g12
                    have hb_g3 := hp52.mu.blk hb_g3 (by decide)
                    have hx := ext_mut hx hp52.mu hge_g12
                    have hb_g12 : Blk w52 g12 3 #[.int .i64 (i64 (g12_0_36 + 1))] := hp52.blk
                    refine L_nil ?_
                    obtain rfl := so hA49
                    show R49 _ _
                    rw [hR49]
                    exact ⟨hv35_cells, hb_g12, h0_0, h0_1, hb_g3, hx⟩
                  ·
                    have hA49 := (ite_f hc50).symm.trans hA49
                    refine W_skip ?_
                    obtain rfl := so hA49
                    show R49 _ _
                    rw [hR49]
                    exact ⟨hv35_cells, hb_g12, h0_0, h0_1, hb_g3, hx⟩
                ·
                  intro f w_ hR
                  rw [hR49] at hR
                  obtain ⟨hv35_cells, hb_g12, h0_0, h0_1, hb_g3, hx⟩ := hR
                  clear hR49
                  refine W_seq ?_
                  refine W_region ?_
                  refine L_as (v := .bool true) rfl rfl ?_
                  refine L_nil ?_
                  refine W_ret ?_
                  obtain ⟨rfl, rfl⟩ := so2 hA44
                  refine ret1 Try.results64 ?_
                  show R44 _ _
                  rw [hR44]
                  exact ⟨rfl, hb_g12, hv35_cells, h0_0, h0_1, hb_g3, hx⟩
              intro v_44 w_ hR
              rw [hR44] at hR
              obtain ⟨rfl, hb_g12, hv35_cells, h0_0, h0_1, hb_g3, hx⟩ := hR
              clear hR44
              refine L_nil ?_
              refine W_cond (b := ret0_39) rfl (fun hc53 => ?_) (fun hc53 => ?_)
              ·
                have hB38 := (ite_t hc53).symm.trans hB38
                refine W_skip ?_
                refine W_block ?_
                refine W_seq ?_
                refine W_region ?_
                refine L_mv (v := v35_cells) rfl sf6 ?_
                refine L_len (v := v35_cells) rfl Try.underlying22 rfl (Own.rel hv35_cells) ?_
                refine L_sub (m := (cells_35.length : Int)) (n := 1) rfl rfl rfl ?_
                refine L_as (v := .int .i64 (i64 ((cells_35.length : Int) - 1))) rfl rfl ?_
                refine L_nil ?_
                refine W_seq ?_
                obtain ⟨j58, hL58, hB38⟩ := bind_some hB38
                obtain ⟨R58, hR58⟩ : ∃ R : Fr → World → Prop, R = fun f w_ => ∃ cells_55 : List Int, ∃ i_56 : Int, ∃ v55_cells : Value, j58 = .nx (cells_55, i_56) ∧ f 0 = v0_0 ∧ f 2 = .func (.func 64) #[] #[.pointer (some ⟨g3, 0, none⟩), .pointer (some ⟨g12, 0, none⟩)] ∧ f 6 = v55_cells ∧ f 7 = .int .i64 i_56 ∧ (RP.slice 3 RP.int).rel B w.heap.size w_ [v0_0] m.sizes ∧ Own RP.int 3 w.heap.size B w_ v55_cells cells_55 ∧ Blk w_ g12 3 #[.int .i64 g12_0_40] ∧ (RP.slice 68 (rRule 3 22)).rel B w.heap.size w_ [v0_1] m.rules ∧ Blk w_ g3 30 #[v0_0, v0_1] ∧ Ap (some g12) v55_cells.ownBlock ∧ Ext w w_ := ⟨_, rfl⟩
                refine W_join R58 ?_ ?_
                ·
                  refine W_block ?_
                  obtain ⟨I58, hI58⟩ : ∃ I : Nat → Fr → World → Prop, I = fun n f w_ => ∃ cells_55 : List Int, ∃ i_56 : Int, ∃ v55_cells : Value, whileL (i_CountModel_b4 m) n (cells_55, i_56) = some j58 ∧ f 0 = v0_0 ∧ f 2 = .func (.func 64) #[] #[.pointer (some ⟨g3, 0, none⟩), .pointer (some ⟨g12, 0, none⟩)] ∧ f 6 = v55_cells ∧ f 7 = .int .i64 i_56 ∧ (RP.slice 3 RP.int).rel B w.heap.size w_ [v0_0] m.sizes ∧ Own RP.int 3 w.heap.size B w_ v55_cells cells_55 ∧ Blk w_ g12 3 #[.int .i64 g12_0_40] ∧ (RP.slice 68 (rRule 3 22)).rel B w.heap.size w_ [v0_1] m.rules ∧ Blk w_ g3 30 #[v0_0, v0_1] ∧ Ap (some g12) v55_cells.ownBlock ∧ Ext w w_ := ⟨_, rfl⟩
                  refine W_loop I58 (n := fu) ?_ ?_
                  · rw [hI58]; exact ⟨cells_35, i64 ((cells_35.length : Int) - 1), v35_cells, hL58, sf0, sf2, sf6, rfl, h0_0, hv35_cells, hb_g12, h0_1, hb_g3, (Ap.symm (Ap.symm aq37)), hx⟩
                  ·
                    intro n58 f w_ hI
                    rw [hI58] at hI
                    obtain ⟨cells_55, i_56, v55_cells, hL58, sf0, sf2, sf6, sf7, h0_0, hv55_cells, hb_g12, h0_1, hb_g3, aq57, hx⟩ := hI
                    cases n58 with
                    | zero => exact (while_zero hL58).elim
                    | succ n58 =>
                      obtain ⟨o58, hB58, hL58⟩ := while_succ hL58
                      rw [i_CountModel_b4] at hB58
                      refine W_seq ?_
                      refine W_seq ?_
                      obtain ⟨b65, hb65, hB58⟩ := bind_some hB58
                      obtain ⟨R67, hR67⟩ : ∃ R : Fr → World → Prop, R = fun f w_ => f 0 = v0_0 ∧ f 2 = .func (.func 64) #[] #[.pointer (some ⟨g3, 0, none⟩), .pointer (some ⟨g12, 0, none⟩)] ∧ f 6 = v55_cells ∧ f 7 = .int .i64 i_56 ∧ f 28 = .bool b65 ∧ (RP.slice 3 RP.int).rel B w.heap.size w_ [v0_0] m.sizes ∧ Own RP.int 3 w.heap.size B w_ v55_cells cells_55 ∧ Blk w_ g12 3 #[.int .i64 g12_0_40] ∧ (RP.slice 68 (rRule 3 22)).rel B w.heap.size w_ [v0_1] m.rules ∧ Blk w_ g3 30 #[v0_0, v0_1] ∧ Ext w w_ := ⟨_, rfl⟩
                      refine W_join R67 ?_ ?_
                      ·
                        rcases Bool.eq_false_or_eq_true (decide (i_56 ≥ 0)) with hc68 | hc68
                        ·
                          rw [ite_t hc68] at hb65
                          obtain ⟨x59, hx59, hb65⟩ := bind_some hb65
                          obtain ⟨x62, hx62, hb65⟩ := bind_some hb65
                          refine W_drawL 11 [isV (.int .i64 i_56), isV (.bool (decide (i_56 ≥ 0))), isV (.bool (decide (i_56 ≥ 0))), isV (v55_cells), isV (.int .i64 i_56), isEl B RP.int x59 0, isV (.int .i64 x59), isV (v0_0), isV (.int .i64 i_56), isEl B RP.int x62 0, isV (.int .i64 x62)] Try_mix (by kernel_rfl) (am_cons (mono_V _) (am_cons (mono_V _) (am_cons (mono_V _) (am_cons (mono_V _) (am_cons (mono_V _) (am_cons (mono_el _ _ _ _) (am_cons (mono_V _) (am_cons (mono_V _) (am_cons (mono_V _) (am_cons (mono_el _ _ _ _) (am_cons (mono_V _) am_nil))))))))))) ?_ (fun f w_ hS66 hE66 hT66 => ?_)
                          ·
                            refine ops_cons (fun f w_ hS66 hE66 hP66 => ?_) ?_
                            ·
                              have hx := ext_trans hx hE66
                              refine L_mv (v := .int .i64 i_56) rfl ((hS66 7 rfl).trans sf7) ?_
                              exact L_nil ⟨rfl, (ext_refl _), _, _, rfl, rfl, rfl⟩
                            refine ops_cons (fun f w_ hS66 hE66 hP66 => ?_) ?_
                            ·
                              have hx := ext_trans hx hE66
                              refine L_geq (m := i_56) (n := 0) rfl (hP66 0 16 rfl rfl) rfl ?_
                              exact L_nil ⟨rfl, (ext_refl _), _, _, rfl, rfl, rfl⟩
                            refine ops_cons (fun f w_ hS66 hE66 hP66 => ?_) ?_
                            ·
                              have hx := ext_trans hx hE66
                              refine L_mv (v := .bool (decide (i_56 ≥ 0))) rfl (hP66 1 17 rfl rfl) ?_
                              exact L_nil ⟨rfl, (ext_refl _), _, _, rfl, rfl, rfl⟩
                            refine ops_cons (fun f w_ hS66 hE66 hP66 => ?_) ?_
                            ·
                              have hx := ext_trans hx hE66
                              have hv55_cells := Own.ext hv55_cells hE66
                              refine L_mv (v := v55_cells) (g_yes rfl (Eq.trans (hP66 2 18 rfl rfl) (congrArg Value.bool hc68)) rfl) ((hS66 6 rfl).trans sf6) ?_
                              exact L_nil ⟨rfl, (ext_refl _), _, _, rfl, rfl, rfl⟩
                            refine ops_cons (fun f w_ hS66 hE66 hP66 => ?_) ?_
                            ·
                              have hx := ext_trans hx hE66
                              refine L_mv (v := .int .i64 i_56) (g_yes rfl (Eq.trans (hP66 2 18 rfl rfl) (congrArg Value.bool hc68)) rfl) ((hS66 7 rfl).trans sf7) ?_
                              exact L_nil ⟨rfl, (ext_refl _), _, _, rfl, rfl, rfl⟩
                            refine ops_cons (fun f w_ hS66 hE66 hP66 => ?_) ?_
                            ·
                              have hx := ext_trans hx hE66
                              have hv55_cells := Own.ext hv55_cells hE66
                              refine L_ix (r := RP.int) (g_yes rfl (Eq.trans (hP66 2 18 rfl rfl) (congrArg Value.bool hc68)) rfl) Try.underlying22 Try.sizeOf3 (hP66 3 19 rfl rfl) (Own.rel hv55_cells) (hP66 4 20 rfl rfl) hx59 ?_
                              intro g73 o74 cs74 hr74 hat74
                              obtain rfl : _ = [_] := hr74
                              exact L_nil ⟨rfl, (ext_refl _), _, _, rfl, rfl, ⟨_, _, _, rfl, rfl, hat74⟩⟩
                            refine ops_cons (fun f w_ hS66 hE66 hP66 => ?_) ?_
                            ·
                              have hx := ext_trans hx hE66
                              obtain ⟨g75, o75, cs75, hv75, hr75, hat75⟩ := (hP66 5 21 rfl rfl)
                              obtain rfl : _ = [_] := hr75
                              refine L_ld (v := .int .i64 x59) (g_yes rfl (Eq.trans (hP66 2 18 rfl rfl) (congrArg Value.bool hc68)) rfl) Try.isAgg3 hv75 (hat75.cell (j := 0) rfl) ?_
                              exact L_nil ⟨rfl, (ext_refl _), _, _, rfl, rfl, rfl⟩
                            refine ops_cons (fun f w_ hS66 hE66 hP66 => ?_) ?_
                            ·
                              have hx := ext_trans hx hE66
                              have h0_0 := RP.ext h0_0 hE66
                              refine L_mv (v := v0_0) (g_yes rfl (Eq.trans (hP66 2 18 rfl rfl) (congrArg Value.bool hc68)) rfl) ((hS66 0 rfl).trans sf0) ?_
                              exact L_nil ⟨rfl, (ext_refl _), _, _, rfl, rfl, rfl⟩
                            refine ops_cons (fun f w_ hS66 hE66 hP66 => ?_) ?_
                            ·
                              have hx := ext_trans hx hE66
                              refine L_mv (v := .int .i64 i_56) (g_yes rfl (Eq.trans (hP66 2 18 rfl rfl) (congrArg Value.bool hc68)) rfl) ((hS66 7 rfl).trans sf7) ?_
                              exact L_nil ⟨rfl, (ext_refl _), _, _, rfl, rfl, rfl⟩
                            refine ops_cons (fun f w_ hS66 hE66 hP66 => ?_) ?_
                            ·
                              have hx := ext_trans hx hE66
                              have h0_0 := RP.ext h0_0 hE66
                              refine L_ix (r := RP.int) (g_yes rfl (Eq.trans (hP66 2 18 rfl rfl) (congrArg Value.bool hc68)) rfl) Try.underlying22 Try.sizeOf3 (hP66 7 23 rfl rfl) h0_0 (hP66 8 24 rfl rfl) hx62 ?_
                              intro g76 o77 cs77 hr77 hat77
                              obtain rfl : _ = [_] := hr77
                              exact L_nil ⟨rfl, (ext_refl _), _, _, rfl, rfl, ⟨_, _, _, rfl, rfl, hat77⟩⟩
                            refine ops_cons (fun f w_ hS66 hE66 hP66 => ?_) ?_
                            ·
                              have hx := ext_trans hx hE66
                              obtain ⟨g78, o78, cs78, hv78, hr78, hat78⟩ := (hP66 9 25 rfl rfl)
                              obtain rfl : _ = [_] := hr78
                              refine L_ld (v := .int .i64 x62) (g_yes rfl (Eq.trans (hP66 2 18 rfl rfl) (congrArg Value.bool hc68)) rfl) Try.isAgg3 hv78 (hat78.cell (j := 0) rfl) ?_
                              exact L_nil ⟨rfl, (ext_refl _), _, _, rfl, rfl, rfl⟩
                            exact ops_nil
                          ·
                            have h0_0 := RP.ext h0_0 hE66
                            have hv55_cells := Own.ext hv55_cells hE66
                            have hb_g12 := Blk.ext hb_g12 hE66
                            have h0_1 := RP.ext h0_1 hE66
                            have hb_g3 := Blk.ext hb_g3 hE66
                            have hx := ext_trans hx hE66
                            refine L_eql (m := x59) (n := x62) (g_yes rfl (Eq.trans (hT66 2 18 rfl rfl) (congrArg Value.bool hc68)) rfl) (hT66 6 22 rfl rfl) (hT66 10 26 rfl rfl) ?_
                            refine L_pick (v := .bool b65) rfl (Eq.trans (hT66 2 18 rfl rfl) (congrArg Value.bool hc68)) (congrArg Value.bool (so hb65)) ?_
                            refine L_nil ?_
                            show R67 _ _
                            rw [hR67]
                            exact ⟨((hS66 0 rfl).trans sf0), ((hS66 2 rfl).trans sf2), ((hS66 6 rfl).trans sf6), ((hS66 7 rfl).trans sf7), rfl, h0_0, hv55_cells, hb_g12, h0_1, hb_g3, hx⟩
                        ·
                          rw [ite_f hc68] at hb65
                          refine W_drawL 11 [isV (.int .i64 i_56), isV (.bool (decide (i_56 ≥ 0))), isV (.bool (decide (i_56 ≥ 0))), isV (undef), isV (undef), isV (undef), isV (undef), isV (undef), isV (undef), isV (undef), isV (undef)] Try_mix (by kernel_rfl) (am_cons (mono_V _) (am_cons (mono_V _) (am_cons (mono_V _) (am_cons (mono_V _) (am_cons (mono_V _) (am_cons (mono_V _) (am_cons (mono_V _) (am_cons (mono_V _) (am_cons (mono_V _) (am_cons (mono_V _) (am_cons (mono_V _) am_nil))))))))))) ?_ (fun f w_ hS66 hE66 hT66 => ?_)
                          ·
                            refine ops_cons (fun f w_ hS66 hE66 hP66 => ?_) ?_
                            ·
                              have hx := ext_trans hx hE66
                              refine L_mv (v := .int .i64 i_56) rfl ((hS66 7 rfl).trans sf7) ?_
                              exact L_nil ⟨rfl, (ext_refl _), _, _, rfl, rfl, rfl⟩
                            refine ops_cons (fun f w_ hS66 hE66 hP66 => ?_) ?_
                            ·
                              have hx := ext_trans hx hE66
                              refine L_geq (m := i_56) (n := 0) rfl (hP66 0 16 rfl rfl) rfl ?_
                              exact L_nil ⟨rfl, (ext_refl _), _, _, rfl, rfl, rfl⟩
                            refine ops_cons (fun f w_ hS66 hE66 hP66 => ?_) ?_
                            ·
                              have hx := ext_trans hx hE66
                              refine L_mv (v := .bool (decide (i_56 ≥ 0))) rfl (hP66 1 17 rfl rfl) ?_
                              exact L_nil ⟨rfl, (ext_refl _), _, _, rfl, rfl, rfl⟩
                            refine ops_cons (fun f w_ hS66 hE66 hP66 => ?_) ?_
                            ·
                              have hx := ext_trans hx hE66
                              have hv55_cells := Own.ext hv55_cells hE66
                              refine L_pass (g_no rfl (Eq.trans (hP66 2 18 rfl rfl) (congrArg Value.bool hc68)) rfl rfl) ?_
                              exact L_nil ⟨rfl, (ext_refl _), _, _, rfl, rfl, rfl⟩
                            refine ops_cons (fun f w_ hS66 hE66 hP66 => ?_) ?_
                            ·
                              have hx := ext_trans hx hE66
                              refine L_pass (g_no rfl (Eq.trans (hP66 2 18 rfl rfl) (congrArg Value.bool hc68)) rfl rfl) ?_
                              exact L_nil ⟨rfl, (ext_refl _), _, _, rfl, rfl, rfl⟩
                            refine ops_cons (fun f w_ hS66 hE66 hP66 => ?_) ?_
                            ·
                              have hx := ext_trans hx hE66
                              refine L_pass (g_no rfl (Eq.trans (hP66 2 18 rfl rfl) (congrArg Value.bool hc68)) rfl rfl) ?_
                              exact L_nil ⟨rfl, (ext_refl _), _, _, rfl, rfl, rfl⟩
                            refine ops_cons (fun f w_ hS66 hE66 hP66 => ?_) ?_
                            ·
                              have hx := ext_trans hx hE66
                              refine L_pass (g_no rfl (Eq.trans (hP66 2 18 rfl rfl) (congrArg Value.bool hc68)) rfl rfl) ?_
                              exact L_nil ⟨rfl, (ext_refl _), _, _, rfl, rfl, rfl⟩
                            refine ops_cons (fun f w_ hS66 hE66 hP66 => ?_) ?_
                            ·
                              have hx := ext_trans hx hE66
                              have h0_0 := RP.ext h0_0 hE66
                              refine L_pass (g_no rfl (Eq.trans (hP66 2 18 rfl rfl) (congrArg Value.bool hc68)) rfl rfl) ?_
                              exact L_nil ⟨rfl, (ext_refl _), _, _, rfl, rfl, rfl⟩
                            refine ops_cons (fun f w_ hS66 hE66 hP66 => ?_) ?_
                            ·
                              have hx := ext_trans hx hE66
                              refine L_pass (g_no rfl (Eq.trans (hP66 2 18 rfl rfl) (congrArg Value.bool hc68)) rfl rfl) ?_
                              exact L_nil ⟨rfl, (ext_refl _), _, _, rfl, rfl, rfl⟩
                            refine ops_cons (fun f w_ hS66 hE66 hP66 => ?_) ?_
                            ·
                              have hx := ext_trans hx hE66
                              refine L_pass (g_no rfl (Eq.trans (hP66 2 18 rfl rfl) (congrArg Value.bool hc68)) rfl rfl) ?_
                              exact L_nil ⟨rfl, (ext_refl _), _, _, rfl, rfl, rfl⟩
                            refine ops_cons (fun f w_ hS66 hE66 hP66 => ?_) ?_
                            ·
                              have hx := ext_trans hx hE66
                              refine L_pass (g_no rfl (Eq.trans (hP66 2 18 rfl rfl) (congrArg Value.bool hc68)) rfl rfl) ?_
                              exact L_nil ⟨rfl, (ext_refl _), _, _, rfl, rfl, rfl⟩
                            exact ops_nil
                          ·
                            have h0_0 := RP.ext h0_0 hE66
                            have hv55_cells := Own.ext hv55_cells hE66
                            have hb_g12 := Blk.ext hb_g12 hE66
                            have h0_1 := RP.ext h0_1 hE66
                            have hb_g3 := Blk.ext hb_g3 hE66
                            have hx := ext_trans hx hE66
                            refine L_pass (g_no rfl (Eq.trans (hT66 2 18 rfl rfl) (congrArg Value.bool hc68)) rfl rfl) ?_
                            refine L_pick (v := .bool b65) rfl (Eq.trans (hT66 2 18 rfl rfl) (congrArg Value.bool hc68)) (congrArg Value.bool (so hb65)) ?_
                            refine L_nil ?_
                            show R67 _ _
                            rw [hR67]
                            exact ⟨((hS66 0 rfl).trans sf0), ((hS66 2 rfl).trans sf2), ((hS66 6 rfl).trans sf6), ((hS66 7 rfl).trans sf7), rfl, h0_0, hv55_cells, hb_g12, h0_1, hb_g3, hx⟩
                      ·
                        intro f w_ hR
                        rw [hR67] at hR
                        obtain ⟨sf0, sf2, sf6, sf7, sf28, h0_0, hv55_cells, hb_g12, h0_1, hb_g3, hx⟩ := hR
                        clear hR67
                        refine W_cond (b := b65) sf28 (fun hc79 => ?_) (fun hc79 => ?_)
                        ·
                          have hB58 := (ite_t hc79).symm.trans hB58
                          refine W_skip ?_
                          refine W_block ?_
                          refine W_seq ?_
                          obtain ⟨x80, hx80, hB58⟩ := bind_some hB58
                          refine W_region ?_
                          refine L_mv (v := v55_cells) rfl sf6 ?_
                          refine L_mv (v := .int .i64 i_56) rfl sf7 ?_
                          refine L_ixo (r := RP.int) rfl et_22 rfl hv55_cells rfl hx80 ?_
                          intro g84 c85 cs85 hg85 hl85 hc85 hr85 hj85
                          obtain rfl : cs85 = [_] := hr85
                          refine L_st (v := .int .i64 0) rfl Try.sizeOf3 rfl rfl rfl hc85 (hj85 0 _ rfl) ?_
                          intro w86 hp86
                          have hv55_cells_n : Own RP.int 3 _ B w86 _ (cells_55.set (Int.toNat i_56) 0) := own_set hv55_cells hg85 rfl (by decide) (idx_some hx80).2.2 hc85 hp86 rfl hB
                          have h0_0 := hp86.mu.rel_lo h0_0 hl85
                          have hb_g12 := hp86.mu.blkA hb_g12 (ap_eq hg85 (Ap.symm aq57))
                          have h0_1 := hp86.mu.rel_lo h0_1 hl85
                          have hb_g3 := hp86.mu.blk hb_g3 (by decide)
                          have hx := ext_mut hx hp86.mu hl85
                          have hv55_cells := hv55_cells_n
                          refine L_nil ?_
                          refine W_region ?_
                          refine L_mv (v := .int .i64 i_56) rfl sf7 ?_
                          refine L_sub (m := i_56) (n := 1) rfl rfl rfl ?_
                          refine L_as (v := .int .i64 (i64 (i_56 - 1))) rfl rfl ?_
                          refine L_nil ?_
                          obtain rfl := so hB58
                          show ∃ m, m < _ ∧ I58 m _ _
                          refine ⟨n58, Nat.lt_succ_self _, ?_⟩
                          rw [hI58]
                          exact ⟨(cells_55.set (Int.toNat i_56) 0), i64 (i_56 - 1), v55_cells, hL58, sf0, sf2, sf6, rfl, h0_0, hv55_cells, hb_g12, h0_1, hb_g3, aq57, hx⟩
                        ·
                          have hB58 := (ite_f hc79).symm.trans hB58
                          refine W_exit ?_
                          obtain rfl := so hB58
                          obtain rfl := so hL58
                          show R58 _ _
                          rw [hR58]
                          exact ⟨cells_55, i_56, v55_cells, rfl, sf0, sf2, sf6, sf7, h0_0, hv55_cells, hb_g12, h0_1, hb_g3, aq57, hx⟩
                ·
                  intro f w_ hR
                  rw [hR58] at hR
                  obtain ⟨cells_55, i_56, v55_cells, rfl, sf0, sf2, sf6, sf7, h0_0, hv55_cells, hb_g12, h0_1, hb_g3, aq57, hx⟩ := hR
                  clear hR58
                  refine W_seq ?_
                  refine W_seq ?_
                  refine W_region ?_
                  refine L_mv (v := .int .i64 i_56) rfl sf7 ?_
                  refine L_lss (m := i_56) (n := 0) rfl rfl rfl ?_
                  refine L_nil ?_
                  refine W_cond (b := decide (i_56 < 0)) rfl (fun hc87 => ?_) (fun hc87 => ?_)
                  ·
                    have hB38 := (ite_t hc87).symm.trans hB38
                    refine W_ret ?_
                    obtain rfl := so hB38
                    obtain rfl := so hL38
                    obtain rfl := so hA26
                    refine ret0 Try.results63 ?_
                    show R26 _ _
                    rw [hR26]
                    exact ⟨rfl, hb_g12, hx⟩
                  ·
                    have hB38 := (ite_f hc87).symm.trans hB38
                    refine W_skip ?_
                    obtain ⟨x88, hx88, hB38⟩ := bind_some hB38
                    refine W_region ?_
                    refine L_mv (v := v55_cells) rfl sf6 ?_
                    refine L_mv (v := .int .i64 i_56) rfl sf7 ?_
                    refine L_ix (r := RP.int) rfl Try.underlying22 Try.sizeOf3 rfl (Own.rel hv55_cells) rfl hx88 ?_
                    intro g94 o95 cs95 hr95 hat95
                    obtain rfl : _ = [_] := hr95
                    refine L_ld (v := .int .i64 x88) rfl Try.isAgg3 rfl (hat95.cell (j := 0) rfl) ?_
                    refine L_add (m := x88) (n := 1) rfl rfl rfl ?_
                    refine L_ixo (r := RP.int) rfl et_22 rfl hv55_cells rfl hx88 ?_
                    intro g96 c97 cs97 hg97 hl97 hc97 hr97 hj97
                    obtain rfl : cs97 = [_] := hr97
                    refine L_st (v := .int .i64 (i64 (x88 + 1))) rfl Try.sizeOf3 rfl rfl rfl hc97 (hj97 0 _ rfl) ?_
                    intro w98 hp98
                    have hv55_cells_n : Own RP.int 3 _ B w98 _ (cells_55.set (Int.toNat i_56) (i64 (x88 + 1))) := own_set hv55_cells hg97 rfl (by decide) (idx_some hx88).2.2 hc97 hp98 rfl hB
                    have h0_0 := hp98.mu.rel_lo h0_0 hl97
                    have hb_g12 := hp98.mu.blkA hb_g12 (ap_eq hg97 (Ap.symm aq57))
                    have h0_1 := hp98.mu.rel_lo h0_1 hl97
                    have hb_g3 := hp98.mu.blk hb_g3 (by decide)
                    have hx := ext_mut hx hp98.mu hl97
                    have hv55_cells := hv55_cells_n
                    refine L_nil ?_
                    obtain rfl := so hB38
                    show ∃ m, m < _ ∧ I38 m _ _
                    refine ⟨n38, Nat.lt_succ_self _, ?_⟩
                    rw [hI38]
                    exact ⟨(cells_55.set (Int.toNat i_56) (i64 (x88 + 1))), g12_0_40, v55_cells, hL38, sf0, sf2, sf6, h0_0, hv55_cells, hb_g12, h0_1, hb_g3, aq57, hx⟩
              ·
                have hB38 := (ite_f hc53).symm.trans hB38
                refine W_exit ?_
                obtain rfl := so hB38
                obtain rfl := so hL38
                show R38 _ _
                rw [hR38]
                exact ⟨cells_35, g12_0_40, rfl, hb_g12, hx⟩
        ·
          intro f w_ hR
          rw [hR38] at hR
          obtain ⟨cells_35, g12_0_36, rfl, hb_g12, hx⟩ := hR
          clear hR38
          obtain rfl := so hA26
          refine end0 Try.results63 ?_
          show R26 _ _
          rw [hR26]
          exact ⟨rfl, hb_g12, hx⟩
      intro v_26 w_ hR
      rw [hR26] at hR
      obtain ⟨rfl, hb_g12, hx⟩ := hR
      clear hR26
      refine L_nil ?_
      refine W_seq ?_
      refine W_region ?_
      refine L_ld (v := .int .i64 g12_0_18) rfl Try.isAgg3 ((hS20 3 rfl).trans rfl) (hb_g12.cell (j := 0) rfl) ?_
      refine L_as (v := .int .i64 g12_0_18) rfl rfl ?_
      refine L_nil ?_
      refine W_ret ?_
      obtain rfl := so hF
      refine ret1 Try.results41 ?_
      exact ⟨rfl, hx⟩

theorem l_FnExactCountModel_c {fu : Nat} {aM : Model} {v0_0 : Value} {v0_1 : Value} {w : World} {B : Nat} (hB : B ≤ w.heap.size) (h0_0 : (RP.slice 3 RP.int).rel B w.heap.size w [v0_0] aM.sizes) (h0_1 : (RP.slice 76 (rRule 3 22)).rel B w.heap.size w [v0_1] aM.rules) {r : Bool} (hF : l_FnExactCountModel fu aM = some r) :
    C Try.prog 10 #[.agg #[v0_0, v0_1]] w fun v w' => (v = .bool r) ∧ Ext w w' := by
  unfold l_FnExactCountModel at hF
  have hx := ext_refl w
  refine C_enter Try.func10 rfl Try.ntmps10 rfl ?_
  refine W_seq ?_
  refine W_region ?_
  refine L_box (v := .agg #[v0_0, v0_1]) (cs := #[v0_0, v0_1]) rfl rfl rfl ?_
  intro g3 w4 hn4
  have hge_g3 := hn4.geS hx.size
  have hb_g3 := hn4.blk
  have h0_0 := RP.ext h0_0 hn4.ext
  have h0_1 := RP.ext h0_1 hn4.ext
  have hx := ext_trans hx hn4.ext
  refine L_as (v := .bool false) rfl rfl ?_
  refine L_nil ?_
  refine W_seq ?_
  refine W_region ?_
  refine L_as (v := .int .i64 1048576) rfl rfl ?_
  refine L_nil ?_
  refine W_seq ?_
  obtain ⟨x5, hx5, hF⟩ := bind_some hF
  refine W_region ?_
  refine L_lda (cs := [v0_0, v0_1]) rfl Try.isAgg25 Try.sizeOf25 rfl (Blk.sub hb_g3 0 2) rfl ?_
  refine L_mv (v := .int .i64 1048576) rfl rfl ?_
  refine L_call (args := #[.agg #[v0_0, v0_1], .int .i64 1048576]) rfl Try.call11 (ops2 rfl rfl) (l_szModel_c (a := aM) (left := 1048576) (Nat.le_trans hB hx.size) (rel0 h0_0) (rel0 h0_1) hx5) ?_
  rintro _ w7 ⟨rfl, he7⟩
  have h0_0 := RP.ext h0_0 he7
  have h0_1 := RP.ext h0_1 he7
  have hb_g3 := Blk.ext hb_g3 he7
  have hx := ext_trans hx he7
  refine L_as (v := .int .i64 x5) rfl rfl ?_
  refine L_nil ?_
  refine W_seq ?_
  refine W_seq ?_
  refine W_region ?_
  refine L_mv (v := .int .i64 x5) rfl rfl ?_
  refine L_lss (m := x5) (n := 0) rfl rfl rfl ?_
  refine L_nil ?_
  refine W_cond (b := decide (x5 < 0)) rfl (fun hc8 => ?_) (fun hc8 => ?_)
  ·
    have hF := (ite_t hc8).symm.trans hF
    refine W_seq ?_
    refine W_region ?_
    refine L_as (v := .bool true) rfl rfl ?_
    refine L_nil ?_
    refine W_ret ?_
    obtain rfl := so hF
    refine ret1 Try.results10 ?_
    exact ⟨rfl, hx⟩
  ·
    have hF := (ite_f hc8).symm.trans hF
    refine W_skip ?_
    refine W_seq ?_
    obtain ⟨x9, hx9, hF⟩ := bind_some hF
    obtain ⟨x11, hx11, hF⟩ := bind_some hF
    refine W_region ?_
    refine L_lda (cs := [v0_0, v0_1]) rfl Try.isAgg25 Try.sizeOf25 rfl (Blk.sub hb_g3 0 2) rfl ?_
    refine L_call (args := #[.agg #[v0_0, v0_1]]) rfl Try.call13 (ops1 rfl) (l_toModel_c (a := aM) (Nat.le_trans hB hx.size) (rel0 h0_0) (rel0 h0_1) hx9) ?_
    rintro _ w13 ⟨⟨r13_0, r13_1, rfl, hr13_0, hr13_1⟩, he13⟩
    have hr13_0 : Own _ _ w.heap.size B _ _ _ := hr13_0.wide hx.size (Nat.le_refl _)
    have hr13_1 : Own _ _ w.heap.size B _ _ _ := hr13_1.wide hx.size (Nat.le_refl _)
    have h0_0 := RP.ext h0_0 he13
    have h0_1 := RP.ext h0_1 he13
    have hb_g3 := Blk.ext hb_g3 he13
    have hx := ext_trans hx he13
    refine L_call (args := #[.agg #[r13_0, r13_1]]) rfl Try.call40 (ops1 rfl) (s_CountModel_c (m := x9) (Nat.le_trans hB hx.size) (rel0 (Own.rel hr13_0)) (rel0 (Own.rel hr13_1)) hx11) ?_
    rintro _ w14 ⟨rfl, he14⟩
    have h0_0 := RP.ext h0_0 he14
    have h0_1 := RP.ext h0_1 he14
    have hb_g3 := Blk.ext hb_g3 he14
    have hr13_0 := Own.ext hr13_0 he14
    have hr13_1 := Own.ext hr13_1 he14
    have hx := ext_trans hx he14
    refine L_as (v := .int .i64 x11) rfl rfl ?_
    refine L_nil ?_
    refine W_seq ?_
    obtain ⟨x15, hx15, hF⟩ := bind_some hF
    refine W_region ?_
    refine L_lda (cs := [v0_0, v0_1]) rfl Try.isAgg25 Try.sizeOf25 rfl (Blk.sub hb_g3 0 2) rfl ?_
    refine L_call (args := #[.agg #[v0_0, v0_1]]) rfl Try.call13 (ops1 rfl) (l_toModel_c (a := aM) (Nat.le_trans hB hx.size) (rel0 h0_0) (rel0 h0_1) hx15) ?_
    rintro _ w20 ⟨⟨r20_0, r20_1, rfl, hr20_0, hr20_1⟩, he20⟩
    have hr20_0 : Own _ _ w.heap.size B _ _ _ := hr20_0.wide hx.size (Nat.le_refl _)
    have hr20_1 : Own _ _ w.heap.size B _ _ _ := hr20_1.wide hx.size (Nat.le_refl _)
    have h0_0 := RP.ext h0_0 he20
    have h0_1 := RP.ext h0_1 he20
    have hb_g3 := Blk.ext hb_g3 he20
    have hx := ext_trans hx he20
    refine L_al (cs := #[(.slice none 0 0), (.slice none 0 0)]) rfl Try.zeroValue30 rfl ?_
    intro g21 w22 hn22
    have hge_g21 := hn22.geS hx.size
    have hb_g21 := hn22.blk
    have h0_0 := RP.ext h0_0 hn22.ext
    have h0_1 := RP.ext h0_1 hn22.ext
    have hb_g3 := Blk.ext hb_g3 hn22.ext
    have hr20_0 := Own.ext hr20_0 hn22.ext
    have hr20_1 := Own.ext hr20_1 hn22.ext
    have hx := ext_trans hx hn22.ext
    refine L_sta (vs := #[r20_0, r20_1]) rfl Try.sizeOf30 rfl rfl rfl (ones_cons (one_of (Own.rel hr20_0)) (ones_cons (one_of (Own.rel hr20_1)) ones_nil)) hb_g21 rfl ?_
    intro w23 hp23
    have h0_0 := hp23.mu.rel h0_0 (by decide) (Nat.le_trans hB hge_g21)
    have h0_1 := hp23.mu.rel h0_1 (by decide) (Nat.le_trans hB hge_g21)
    have hb_g3 := hp23.mu.blk hb_g3 (by decide)
    have hr20_0 := hp23.mu.ownT hr20_0 (by decide) (by decide) (Nat.le_trans hB hge_g21)
    have hr20_1 := hp23.mu.ownT hr20_1 (by decide) (by decide) (Nat.le_trans hB hge_g21)
    have hx := ext_mut hx hp23.mu hge_g21
    have hb_g21 : Blk w23 g21 30 #[r20_0, r20_1] := hp23.blk
    refine L_nil ?_
    refine W_seq ?_
    obtain ⟨x24, hx24, hF⟩ := bind_some hF
    refine W_region ?_
    refine L_lda (cs := [r20_0, r20_1]) rfl Try.isAgg30 Try.sizeOf30 rfl (Blk.sub hb_g21 0 2) rfl ?_
    refine L_call (args := #[.agg #[r20_0, r20_1]]) rfl Try.call41 (ops1 rfl) (i_CountModel_c (m := x15) (Nat.le_trans hB hx.size) (rel0 (Own.rel hr20_0)) (rel0 (Own.rel hr20_1)) hx24) ?_
    rintro _ w26 ⟨rfl, he26⟩
    have h0_0 := RP.ext h0_0 he26
    have h0_1 := RP.ext h0_1 he26
    have hb_g3 := Blk.ext hb_g3 he26
    have hr20_0 := Own.ext hr20_0 he26
    have hr20_1 := Own.ext hr20_1 he26
    have hb_g21 := Blk.ext hb_g21 he26
    have hx := ext_trans hx he26
    refine L_as (v := .int .i64 x24) rfl rfl ?_
    refine L_nil ?_
    refine W_seq ?_
    refine W_seq ?_
    refine W_region ?_
    refine L_mv (v := .int .i64 x24) rfl rfl ?_
    refine L_mv (v := .int .i64 x11) rfl rfl ?_
    refine L_neq (m := x24) (n := x11) rfl rfl rfl ?_
    refine L_nil ?_
    refine W_cond (b := (x24 != x11)) rfl (fun hc27 => ?_) (fun hc27 => ?_)
    ·
      have hF := (ite_t hc27).symm.trans hF
      refine W_seq ?_
      refine W_region ?_
      refine L_as (v := .bool false) rfl rfl ?_
      refine L_nil ?_
      refine W_ret ?_
      obtain rfl := so hF
      refine ret1 Try.results10 ?_
      exact ⟨rfl, hx⟩
    ·
      have hF := (ite_f hc27).symm.trans hF
      refine W_skip ?_
      refine W_seq ?_
      refine W_seq ?_
      obtain ⟨x28, hx28, hF⟩ := bind_some hF
      obtain ⟨x32, hx32, hF⟩ := bind_some hF
      refine W_drawL 3 [isV (.agg #[r20_0, r20_1]), isV (.agg #[v0_0, v0_1]), exD (isData B (RP.slice 3 RP.int) x28.sizes) fun u_0 => exD (isData B (RP.slice 68 (rRule 3 22)) x28.rules) fun u_1 => isV (.agg #[u_0, u_1])] Try_mix (by kernel_rfl) (am_cons (mono_V _) (am_cons (mono_V _) (am_cons (mono_exD (mono_data _ _ _) fun _ => mono_exD (mono_data _ _ _) fun _ => mono_V _) am_nil))) ?_ (fun f w_ hS34 hE34 hT34 => ?_)
      ·
        refine ops_cons (fun f w_ hS34 hE34 hP34 => ?_) ?_
        ·
          have hx := ext_trans hx hE34
          have hr20_0 := Own.ext hr20_0 hE34
          have hr20_1 := Own.ext hr20_1 hE34
          have hb_g21 := Blk.ext hb_g21 hE34
          refine L_lda (cs := [r20_0, r20_1]) rfl Try.isAgg30 Try.sizeOf30 ((hS34 5 rfl).trans rfl) (Blk.sub hb_g21 0 2) rfl ?_
          exact L_nil ⟨rfl, (ext_refl _), _, _, rfl, rfl, rfl⟩
        refine ops_cons (fun f w_ hS34 hE34 hP34 => ?_) ?_
        ·
          have hx := ext_trans hx hE34
          have h0_0 := RP.ext h0_0 hE34
          have h0_1 := RP.ext h0_1 hE34
          have hb_g3 := Blk.ext hb_g3 hE34
          refine L_lda (cs := [v0_0, v0_1]) rfl Try.isAgg25 Try.sizeOf25 ((hS34 1 rfl).trans rfl) (Blk.sub hb_g3 0 2) rfl ?_
          exact L_nil ⟨rfl, (ext_refl _), _, _, rfl, rfl, rfl⟩
        refine ops_cons (fun f w_ hS34 hE34 hP34 => ?_) ?_
        ·
          have hx := ext_trans hx hE34
          have h0_0 := RP.ext h0_0 hE34
          have h0_1 := RP.ext h0_1 hE34
          refine L_call (args := #[.agg #[v0_0, v0_1]]) rfl Try.call13 (ops1 (hP34 1 23 rfl rfl)) (l_toModel_c (a := aM) (Nat.le_trans hB hx.size) (rel0 h0_0) (rel0 h0_1) hx28) ?_
          rintro _ w38 ⟨⟨r38_0, r38_1, rfl, hr38_0, hr38_1⟩, he38⟩
          have hr38_0 : Own _ _ w.heap.size B _ _ _ := hr38_0.wide hx.size (Nat.le_refl _)
          have hr38_1 : Own _ _ w.heap.size B _ _ _ := hr38_1.wide hx.size (Nat.le_refl _)
          have h0_0 := RP.ext h0_0 he38
          have h0_1 := RP.ext h0_1 he38
          have hx := ext_trans hx he38
          exact L_nil ⟨rfl, he38, _, _, rfl, rfl, ⟨_, (rel0 (Own.rel hr38_0)), _, (rel0 (Own.rel hr38_1)), rfl⟩⟩
        exact ops_nil
      ·
        have h0_0 := RP.ext h0_0 hE34
        have h0_1 := RP.ext h0_1 hE34
        have hb_g3 := Blk.ext hb_g3 hE34
        have hr20_0 := Own.ext hr20_0 hE34
        have hr20_1 := Own.ext hr20_1 hE34
        have hb_g21 := Blk.ext hb_g21 hE34
        have hx := ext_trans hx hE34
        obtain ⟨u39_0, hu39_0, u39_1, hu39_1, hv39⟩ := (hT34 2 24 rfl rfl)
        refine L_call (args := #[.agg #[r20_0, r20_1], .agg #[u39_0, u39_1]]) rfl Try.call15 (ops2 (hT34 0 22 rfl rfl) hv39) (l_eqModel_c (a := x15) (b := x28) (Nat.le_trans hB hx.size) (rel0 (Own.rel hr20_0)) (rel0 (Own.rel hr20_1)) (rel0 hu39_0) (rel0 hu39_1) hx32) ?_
        rintro _ w40 ⟨rfl, he40⟩
        have hr20_0 := Own.ext hr20_0 he40
        have hr20_1 := Own.ext hr20_1 he40
        have hu39_0 := RP.ext hu39_0 he40
        have hu39_1 := RP.ext hu39_1 he40
        have hx := ext_trans hx he40
        refine L_not_ (b := x32) rfl rfl ?_
        refine L_nil ?_
        refine W_cond (b := (!x32)) rfl (fun hc41 => ?_) (fun hc41 => ?_)
        ·
          have hF := (ite_t hc41).symm.trans hF
          refine W_seq ?_
          refine W_region ?_
          refine L_as (v := .bool false) rfl rfl ?_
          refine L_nil ?_
          refine W_ret ?_
          obtain rfl := so hF
          refine ret1 Try.results10 ?_
          exact ⟨rfl, hx⟩
        ·
          have hF := (ite_f hc41).symm.trans hF
          refine W_skip ?_
          refine W_seq ?_
          refine W_region ?_
          refine L_as (v := .bool true) rfl rfl ?_
          refine L_nil ?_
          refine W_ret ?_
          obtain rfl := so hF
          refine ret1 Try.results10 ?_
          exact ⟨rfl, hx⟩

end Go.Proofs.Yteojddfaiomfmaa

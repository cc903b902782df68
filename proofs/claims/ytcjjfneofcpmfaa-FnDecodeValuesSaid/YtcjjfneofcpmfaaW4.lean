/- Part of a proof by program: W4. -/
import Derived.Test.YtcjjfneofcpmfaaD1
import Derived.Test.YtcjjfneofcpmfaaW3
namespace Go.Proofs.Ytcjjfneofcpmfaa
open Go Go.E Go.L Go.RowKit
set_option linter.unusedVariables false
set_option linter.unusedSimpArgs false
set_option maxRecDepth 100000

theorem i_DecodeValues_c {m : Model} {values : List Bool} {v0_0 : Value} {v0_1 : Value} {v1 : Value} {w : World} {B : Nat} (hB : B ≤ w.heap.size) (h0_0 : (RP.slice 3 RP.int).rel B w.heap.size w [v0_0] m.sizes) (h0_1 : (RP.slice 36 (rRule 3 23)).rel B w.heap.size w [v0_1] m.rules) (h1 : (RP.slice 4 RP.bool).rel B w.heap.size w [v1] values) {r : (List Int) × Bool} (hF : i_DecodeValues m values = some r) :
    C Try.prog 30 #[.agg #[v0_0, v0_1], v1] w fun v w' => (∃ u1 : Value, v = .tuple #[u1, .bool r.2] ∧ Own RP.int 3 w.heap.size B w' u1 r.1) ∧ Ext w w' := by
  unfold i_DecodeValues at hF
  have hx := ext_refl w
  refine C_enter Try.func30 rfl Try.ntmps30 rfl ?_
  refine W_seq ?_
  refine W_region ?_
  refine L_box (v := .agg #[v0_0, v0_1]) (cs := #[v0_0, v0_1]) rfl rfl rfl ?_
  intro g3 w4 hn4
  have hge_g3 := hn4.geS hx.size
  have hb_g3 := hn4.blk
  have h0_0 := RP.ext h0_0 hn4.ext
  have h0_1 := RP.ext h0_1 hn4.ext
  have h1 := RP.ext h1 hn4.ext
  have hx := ext_trans hx hn4.ext
  refine L_as (v := (.slice none 0 0)) rfl rfl ?_
  refine L_as (v := .bool false) rfl rfl ?_
  refine L_nil ?_
  refine W_seq ?_
  refine W_seq ?_
  obtain ⟨x5, hx5, hF⟩ := bind_some hF
  obtain ⟨R7, hR7⟩ : ∃ R : Fr → World → Prop, R = fun f w_ => f 1 = v1 ∧ f 2 = .pointer (some ⟨g3, 0, none⟩) ∧ f 18 = .bool ((!x5) || ((values.length : Int) != 12)) ∧ (RP.slice 4 RP.bool).rel B w.heap.size w_ [v1] values ∧ (RP.slice 3 RP.int).rel B w.heap.size w_ [v0_0] m.sizes ∧ (RP.slice 36 (rRule 3 23)).rel B w.heap.size w_ [v0_1] m.rules ∧ Blk w_ g3 26 #[v0_0, v0_1] ∧ Ext w w_ := ⟨_, rfl⟩
  refine W_join R7 ?_ ?_
  ·
    refine W_region ?_
    refine L_lda (cs := [v0_0, v0_1]) rfl Try.isAgg26 Try.sizeOf26 rfl (Blk.sub hb_g3 0 2) rfl ?_
    refine L_call (args := #[.agg #[v0_0, v0_1]]) rfl Try.call28 (ops1 rfl) (i_ModelValid_c (m := m) (Nat.le_trans hB hx.size) (rel0 h0_0) (rel0 h0_1) hx5) ?_
    rintro _ w8 ⟨rfl, he8⟩
    have h0_0 := RP.ext h0_0 he8
    have h0_1 := RP.ext h0_1 he8
    have h1 := RP.ext h1 he8
    have hb_g3 := Blk.ext hb_g3 he8
    have hx := ext_trans hx he8
    refine L_not_ (b := x5) rfl rfl ?_
    refine L_mv (v := .bool (!x5)) rfl rfl ?_
    refine L_split (d := 14) (b := (!x5)) rfl (fun hc9 => ?_) (fun hc9 => ?_)
    ·
      refine L_pass rfl ?_
      refine L_pass rfl ?_
      refine L_pass rfl ?_
      refine L_pick (v := .bool ((!x5) || ((values.length : Int) != 12))) rfl rfl (or_t hc9) ?_
      refine L_nil ?_
      show R7 _ _
      rw [hR7]
      exact ⟨rfl, rfl, rfl, h1, h0_0, h0_1, hb_g3, hx⟩
    ·
      refine L_mv (v := v1) rfl rfl ?_
      refine L_len (v := v1) rfl Try.underlying44 rfl h1 ?_
      refine L_neq (m := (values.length : Int)) (n := 12) rfl rfl rfl ?_
      refine L_pick (v := .bool ((!x5) || ((values.length : Int) != 12))) rfl rfl (or_f hc9 rfl) ?_
      refine L_nil ?_
      show R7 _ _
      rw [hR7]
      exact ⟨rfl, rfl, rfl, h1, h0_0, h0_1, hb_g3, hx⟩
  ·
    intro f w_ hR
    rw [hR7] at hR
    obtain ⟨sf1, sf2, sf18, h1, h0_0, h0_1, hb_g3, hx⟩ := hR
    clear hR7
    refine W_cond (b := ((!x5) || ((values.length : Int) != 12))) sf18 (fun hc10 => ?_) (fun hc10 => ?_)
    ·
      have hF := (ite_t hc10).symm.trans hF
      refine W_seq ?_
      refine W_region ?_
      refine L_as (v := (.slice none 0 0)) rfl rfl ?_
      refine L_as (v := .bool false) rfl rfl ?_
      refine L_nil ?_
      refine W_ret ?_
      obtain rfl := so hF
      refine ret2 Try.results30 ?_
      exact ⟨⟨(.slice none 0 0), (tup2_eq rfl rfl), (Own.nil _ _ _ _ _)⟩, hx⟩
    ·
      have hF := (ite_f hc10).symm.trans hF
      refine W_skip ?_
      refine W_seq ?_
      refine W_region ?_
      refine L_as (v := (.slice none 0 0)) rfl rfl ?_
      refine L_nil ?_
      refine W_seq ?_
      refine W_seq ?_
      refine W_region ?_
      refine L_fa (o' := 0) rfl fa_26_0 sf2 rfl ?_
      refine L_ld (v := v0_0) rfl Try.isAgg23 rfl (hb_g3.cell (j := 0) rfl) ?_
      refine L_len (v := v0_0) rfl Try.underlying23 rfl h0_0 ?_
      refine L_mv (v := .int .i64 0) rfl rfl ?_
      refine L_nil ?_
      have hlen13 := len_le h0_0
      obtain ⟨j13, hL13, hF⟩ := bind_some hF
      obtain ⟨R13, hR13⟩ : ∃ R : Fr → World → Prop, R = fun f w_ => ∃ out_12 : List Int, ∃ v12_out : Value, j13 = .nx out_12 ∧ f 6 = v12_out ∧ Own RP.int 3 w.heap.size B w_ v12_out out_12 ∧ Ext w w_ := ⟨_, rfl⟩
      refine W_join R13 ?_ ?_
      ·
        refine W_block ?_
        obtain ⟨I13, hI13⟩ : ∃ I : Nat → Fr → World → Prop, I = fun n f w_ => ∃ i_11 : Nat, ∃ suf13 : List Int, ∃ out_12 : List Int, ∃ v12_out : Value, n = suf13.length ∧ List.drop i_11 m.sizes = suf13 ∧ i_11 + suf13.length = m.sizes.length ∧ rangeL (i_DecodeValues_b1 m values) suf13 i_11 out_12 = some j13 ∧ f 1 = v1 ∧ f 2 = .pointer (some ⟨g3, 0, none⟩) ∧ f 6 = v12_out ∧ f 21 = .int .i64 (m.sizes.length : Int) ∧ f 22 = .int .i64 (i_11 : Int) ∧ (RP.slice 4 RP.bool).rel B w.heap.size w_ [v1] values ∧ Own RP.int 3 w.heap.size B w_ v12_out out_12 ∧ (RP.slice 3 RP.int).rel B w.heap.size w_ [v0_0] m.sizes ∧ (RP.slice 36 (rRule 3 23)).rel B w.heap.size w_ [v0_1] m.rules ∧ Blk w_ g3 26 #[v0_0, v0_1] ∧ Ext w w_ := ⟨_, rfl⟩
        refine W_loop I13 (n := m.sizes.length) ?_ ?_
        · rw [hI13]; exact ⟨0, m.sizes, [], (.slice none 0 0), rfl, rfl, Nat.zero_add _, hL13, sf1, sf2, rfl, rfl, rfl, h1, (Own.nil _ _ _ _ _), h0_0, h0_1, hb_g3, hx⟩
        ·
          intro n13 f w_ hI
          rw [hI13] at hI
          obtain ⟨i_11, suf13, out_12, v12_out, rfl, hd13, hl13, hL13, sf1, sf2, sf6, sf21, sf22, h1, hv12_out, h0_0, h0_1, hb_g3, hx⟩ := hI
          refine W_seq ?_
          refine W_region ?_
          refine L_lss (m := (i_11 : Int)) (n := (m.sizes.length : Int)) rfl sf22 sf21 ?_
          refine L_nil ?_
          refine W_seq ?_
          refine W_cond (b := decide ((i_11 : Int) < (m.sizes.length : Int))) rfl (fun hc14 => ?_) (fun hc14 => ?_)
          ·
            have hlt13 := of_decide_eq_true hc14
            cases suf13 with
            | nil => exact absurd hlt13 (by simp at hl13; omega)
            | cons x_13 rest13 =>
              obtain ⟨o13, hB13, hL13⟩ := range_cons hL13
              rw [i_DecodeValues_b1] at hB13
              have hix13 := drop_idx hd13
              refine W_skip ?_
              refine W_seq ?_
              refine W_block ?_
              refine W_seq ?_
              refine W_region ?_
              refine L_mv (v := .int .i64 (i_11 : Int)) rfl sf22 ?_
              refine L_as (v := .int .i64 (i_11 : Int)) rfl rfl ?_
              refine L_nil ?_
              refine W_seq ?_
              refine W_region ?_
              refine L_as (v := .int .i64 0) rfl rfl ?_
              refine L_nil ?_
              refine W_seq ?_
              refine W_seq ?_
              obtain ⟨x15, hx15, hB13⟩ := bind_some hB13
              refine W_region ?_
              refine L_lda (cs := [v0_0, v0_1]) rfl Try.isAgg26 Try.sizeOf26 sf2 (Blk.sub hb_g3 0 2) rfl ?_
              refine L_mv (v := .int .i64 (i_11 : Int)) rfl rfl ?_
              refine L_call (args := #[.agg #[v0_0, v0_1], .int .i64 (i_11 : Int)]) rfl Try.call72 (ops2 rfl rfl) (i_Model_varsOf_c (m := m) (cell := (i_11 : Int)) (Nat.le_trans hB hx.size) (rel0 h0_0) (rel0 h0_1) hx15) ?_
              rintro r18_0 w18 ⟨⟨_, rfl, hr18_0⟩, he18⟩
              have ap19 := ap_oc hv12_out hr18_0
              have hr18_0 : Own _ _ w.heap.size B _ _ _ := hr18_0.wide hx.size (Nat.le_refl _)
              have h1 := RP.ext h1 he18
              have hv12_out := Own.ext hv12_out he18
              have h0_0 := RP.ext h0_0 he18
              have h0_1 := RP.ext h0_1 he18
              have hb_g3 := Blk.ext hb_g3 he18
              have hx := ext_trans hx he18
              refine L_len (v := r18_0) rfl Try.underlying23 rfl (Own.rel hr18_0) ?_
              refine L_mv (v := .int .i64 0) rfl rfl ?_
              refine L_nil ?_
              have hlen24 := len_le (Own.rel hr18_0)
              obtain ⟨j24, hL24, hB13⟩ := bind_some hB13
              obtain ⟨R24, hR24⟩ : ∃ R : Fr → World → Prop, R = fun f w_ => ∃ out_21 : List Int, ∃ count_22 : Int, ∃ v21_out : Value, j24 = .nx (out_21, count_22) ∧ f 1 = v1 ∧ f 2 = .pointer (some ⟨g3, 0, none⟩) ∧ f 6 = v21_out ∧ f 8 = .int .i64 count_22 ∧ f 21 = .int .i64 (m.sizes.length : Int) ∧ f 22 = .int .i64 (i_11 : Int) ∧ (RP.slice 4 RP.bool).rel B w.heap.size w_ [v1] values ∧ Own RP.int 3 w.heap.size B w_ v21_out out_21 ∧ (RP.slice 3 RP.int).rel B w.heap.size w_ [v0_0] m.sizes ∧ (RP.slice 36 (rRule 3 23)).rel B w.heap.size w_ [v0_1] m.rules ∧ Blk w_ g3 26 #[v0_0, v0_1] ∧ Ext w w_ := ⟨_, rfl⟩
              refine W_join R24 ?_ ?_
              ·
                refine W_block ?_
                obtain ⟨I24, hI24⟩ : ∃ I : Nat → Fr → World → Prop, I = fun n f w_ => ∃ i_20 : Nat, ∃ suf24 : List Int, ∃ out_21 : List Int, ∃ count_22 : Int, ∃ v21_out : Value, n = suf24.length ∧ List.drop i_20 x15 = suf24 ∧ i_20 + suf24.length = x15.length ∧ rangeL (i_DecodeValues_b2 values) suf24 i_20 (out_21, count_22) = some j24 ∧ f 1 = v1 ∧ f 2 = .pointer (some ⟨g3, 0, none⟩) ∧ f 6 = v21_out ∧ f 8 = .int .i64 count_22 ∧ f 21 = .int .i64 (m.sizes.length : Int) ∧ f 22 = .int .i64 (i_11 : Int) ∧ f 27 = r18_0 ∧ f 28 = .int .i64 (x15.length : Int) ∧ f 29 = .int .i64 (i_20 : Int) ∧ (RP.slice 4 RP.bool).rel B w.heap.size w_ [v1] values ∧ Own RP.int 3 w.heap.size B w_ v21_out out_21 ∧ Own RP.int 3 w.heap.size B w_ r18_0 x15 ∧ (RP.slice 3 RP.int).rel B w.heap.size w_ [v0_0] m.sizes ∧ (RP.slice 36 (rRule 3 23)).rel B w.heap.size w_ [v0_1] m.rules ∧ Blk w_ g3 26 #[v0_0, v0_1] ∧ Ap r18_0.ownBlock v21_out.ownBlock ∧ Ext w w_ := ⟨_, rfl⟩
                refine W_loop I24 (n := x15.length) ?_ ?_
                · rw [hI24]; exact ⟨0, x15, out_12, 0, v12_out, rfl, rfl, Nat.zero_add _, hL24, sf1, sf2, sf6, rfl, sf21, sf22, rfl, rfl, rfl, h1, hv12_out, hr18_0, h0_0, h0_1, hb_g3, (Ap.symm ap19), hx⟩
                ·
                  intro n24 f w_ hI
                  rw [hI24] at hI
                  obtain ⟨i_20, suf24, out_21, count_22, v21_out, rfl, hd24, hl24, hL24, sf1, sf2, sf6, sf8, sf21, sf22, sf27, sf28, sf29, h1, hv21_out, hr18_0, h0_0, h0_1, hb_g3, aq23, hx⟩ := hI
                  refine W_seq ?_
                  refine W_region ?_
                  refine L_lss (m := (i_20 : Int)) (n := (x15.length : Int)) rfl sf29 sf28 ?_
                  refine L_nil ?_
                  refine W_seq ?_
                  refine W_cond (b := decide ((i_20 : Int) < (x15.length : Int))) rfl (fun hc25 => ?_) (fun hc25 => ?_)
                  ·
                    have hlt24 := of_decide_eq_true hc25
                    cases suf24 with
                    | nil => exact absurd hlt24 (by simp at hl24; omega)
                    | cons x_24 rest24 =>
                      obtain ⟨o24, hB24, hL24⟩ := range_cons hL24
                      rw [i_DecodeValues_b2] at hB24
                      have hix24 := drop_idx hd24
                      refine W_skip ?_
                      refine W_seq ?_
                      refine W_block ?_
                      refine W_seq ?_
                      refine W_region ?_
                      refine L_mv (v := .int .i64 (i_20 : Int)) rfl sf29 ?_
                      refine L_ix (r := RP.int) rfl Try.underlying23 Try.sizeOf3 sf27 (Own.rel hr18_0) sf29 hix24 ?_
                      intro g28 o29 cs29 hr29 hat29
                      obtain rfl : _ = [_] := hr29
                      refine L_ld (v := .int .i64 x_24) rfl Try.isAgg3 rfl (hat29.cell (j := 0) rfl) ?_
                      refine L_as (v := .int .i64 (i_20 : Int)) rfl rfl ?_
                      refine L_as (v := .int .i64 x_24) rfl rfl ?_
                      refine L_nil ?_
                      refine W_seq ?_
                      obtain ⟨x30, hx30, hB24⟩ := bind_some hB24
                      refine W_region ?_
                      refine L_mv (v := v1) rfl sf1 ?_
                      refine L_mv (v := .int .i64 x_24) rfl rfl ?_
                      refine L_sub (m := x_24) (n := 1) rfl rfl rfl ?_
                      refine L_ix (r := RP.bool) rfl Try.underlying44 Try.sizeOf4 rfl h1 rfl hx30 ?_
                      intro g33 o34 cs34 hr34 hat34
                      obtain rfl : _ = [_] := hr34
                      refine L_ld (v := .bool x30) rfl Try.isAgg4 rfl (hat34.cell (j := 0) rfl) ?_
                      refine L_nil ?_
                      obtain ⟨⟨out_35, count_36⟩, hA38, hB24⟩ := bind_some hB24
                      obtain ⟨R38, hR38⟩ : ∃ R : Fr → World → Prop, R = fun f w_ => ∃ v35_out : Value, f 1 = v1 ∧ f 2 = .pointer (some ⟨g3, 0, none⟩) ∧ f 6 = v35_out ∧ f 8 = .int .i64 count_36 ∧ f 21 = .int .i64 (m.sizes.length : Int) ∧ f 22 = .int .i64 (i_11 : Int) ∧ f 27 = r18_0 ∧ f 28 = .int .i64 (x15.length : Int) ∧ f 29 = .int .i64 (i_20 : Int) ∧ (RP.slice 4 RP.bool).rel B w.heap.size w_ [v1] values ∧ Own RP.int 3 w.heap.size B w_ v35_out out_35 ∧ Own RP.int 3 w.heap.size B w_ r18_0 x15 ∧ (RP.slice 3 RP.int).rel B w.heap.size w_ [v0_0] m.sizes ∧ (RP.slice 36 (rRule 3 23)).rel B w.heap.size w_ [v0_1] m.rules ∧ Blk w_ g3 26 #[v0_0, v0_1] ∧ Ap r18_0.ownBlock v35_out.ownBlock ∧ Ext w w_ := ⟨_, rfl⟩
                      refine W_join R38 ?_ ?_
                      ·
                        refine W_cond (b := x30) rfl (fun hc39 => ?_) (fun hc39 => ?_)
                        ·
                          have hA38 := (ite_t hc39).symm.trans hA38
                          refine W_seq ?_
                          obtain ⟨x44, hx44, hA38⟩ := bind_some hA38
                          refine W_region ?_
                          refine L_mv (v := v21_out) rfl sf6 ?_
                          refine L_mv (v := .int .i64 (i_20 : Int)) rfl rfl ?_
                          refine L_bs rfl (parts1 rfl) (bs_23_1_0 (.int .i64 (i_20 : Int)) rfl) ?_
                          intro g48 w49 hn49
                          have ho49 : Own RP.int 3 w.heap.size B w49 _ [(i_20 : Int)] := own_new1 hn49 hx.size rfl
                          have ap50 := ap_ob hv21_out hn49
                          have ap51 := ap_ob hr18_0 hn49
                          have h1 := RP.ext h1 hn49.ext
                          have hv21_out := Own.ext hv21_out hn49.ext
                          have hr18_0 := Own.ext hr18_0 hn49.ext
                          have h0_0 := RP.ext h0_0 hn49.ext
                          have h0_1 := RP.ext h0_1 hn49.ext
                          have hb_g3 := Blk.ext hb_g3 hn49.ext
                          have hx := ext_trans hx hn49.ext
                          refine L_app (v := v21_out) (u := (.slice (some ⟨g48, 0, none⟩) 1 1)) rfl et_23 (by decide) rfl rfl hv21_out (rel0 (Own.rel ho49)) hx44 hx.size hB ?_
                          intro v52 w52 ho52 hm52 hb52
                          have ap53 := ap_oa (v' := v52) (u := v21_out) hr18_0 hb52 aq23
                          have h1 := hm52.rel h1 (by decide) (Nat.le_trans hB (Nat.le_refl _))
                          have hr18_0 := hm52.ownA hr18_0 (Ap.symm aq23) (by decide) (Nat.le_trans hB (Nat.le_refl _))
                          have h0_0 := hm52.rel_lo h0_0 (Nat.le_refl _)
                          have h0_1 := hm52.rel_lo h0_1 (Nat.le_refl _)
                          have hb_g3 := hm52.blk hb_g3 (by decide)
                          have hx := ext_mut hx hm52 (Nat.le_refl _)
                          refine L_as (v := v52) rfl rfl ?_
                          refine L_nil ?_
                          refine W_region ?_
                          refine L_mv (v := .int .i64 count_22) rfl sf8 ?_
                          refine L_add (m := count_22) (n := 1) rfl rfl rfl ?_
                          refine L_as (v := .int .i64 (i64 (count_22 + 1))) rfl rfl ?_
                          refine L_nil ?_
                          obtain ⟨rfl, rfl⟩ := so2 hA38
                          show R38 _ _
                          rw [hR38]
                          exact ⟨v52, sf1, sf2, rfl, rfl, sf21, sf22, sf27, sf28, sf29, h1, ho52, hr18_0, h0_0, h0_1, hb_g3, ap53, hx⟩
                        ·
                          have hA38 := (ite_f hc39).symm.trans hA38
                          refine W_skip ?_
                          obtain ⟨rfl, rfl⟩ := so2 hA38
                          show R38 _ _
                          rw [hR38]
                          exact ⟨v21_out, sf1, sf2, sf6, sf8, sf21, sf22, sf27, sf28, sf29, h1, hv21_out, hr18_0, h0_0, h0_1, hb_g3, aq23, hx⟩
                      ·
                        intro f w_ hR
                        rw [hR38] at hR
                        obtain ⟨v35_out, sf1, sf2, sf6, sf8, sf21, sf22, sf27, sf28, sf29, h1, hv35_out, hr18_0, h0_0, h0_1, hb_g3, aq37, hx⟩ := hR
                        clear hR38
                        refine W_region ?_
                        refine L_add (m := (i_20 : Int)) (n := 1) rfl sf29 rfl ?_
                        refine L_mv (v := .int .i64 (i64 ((i_20 : Int) + 1))) rfl rfl ?_
                        refine L_nil ?_
                        obtain rfl := so hB24
                        show ∃ m, m < _ ∧ I24 m _ _
                        refine ⟨rest24.length, by simp, ?_⟩
                        rw [hI24]
                        exact ⟨i_20 + 1, rest24, out_35, count_36, v35_out, rfl, drop_next hd24, by simp at hl24; omega, hL24, sf1, sf2, sf6, sf8, sf21, sf22, sf27, sf28, (Eq.trans rfl (congrArg (Value.int .i64) (i64_succ (n := x15.length) (by simp at hl24; omega) hlen24))), h1, hv35_out, hr18_0, h0_0, h0_1, hb_g3, aq37, hx⟩
                  ·
                    cases suf24 with
                    | cons _ _ => exact absurd (of_decide_eq_false hc25) (by simp at hl24; omega)
                    | nil =>
                      obtain rfl := range_nil hL24
                      refine W_exit ?_
                      show R24 _ _
                      rw [hR24]
                      exact ⟨out_21, count_22, v21_out, rfl, sf1, sf2, sf6, sf8, sf21, sf22, h1, hv21_out, h0_0, h0_1, hb_g3, hx⟩
              ·
                intro f w_ hR
                rw [hR24] at hR
                obtain ⟨out_21, count_22, v21_out, rfl, sf1, sf2, sf6, sf8, sf21, sf22, h1, hv21_out, h0_0, h0_1, hb_g3, hx⟩ := hR
                clear hR24
                refine W_seq ?_
                refine W_region ?_
                refine L_mv (v := .int .i64 count_22) rfl sf8 ?_
                refine L_neq (m := count_22) (n := 1) rfl rfl rfl ?_
                refine L_nil ?_
                refine W_cond (b := (count_22 != 1)) rfl (fun hc54 => ?_) (fun hc54 => ?_)
                ·
                  have hB13 := (ite_t hc54).symm.trans hB13
                  refine W_seq ?_
                  refine W_region ?_
                  refine L_as (v := (.slice none 0 0)) rfl rfl ?_
                  refine L_as (v := .bool false) rfl rfl ?_
                  refine L_nil ?_
                  refine W_ret ?_
                  obtain rfl := so hB13
                  obtain rfl := so hL13
                  obtain rfl := so hF
                  refine ret2 Try.results30 ?_
                  exact ⟨⟨(.slice none 0 0), (tup2_eq rfl rfl), (Own.nil _ _ _ _ _)⟩, hx⟩
                ·
                  have hB13 := (ite_f hc54).symm.trans hB13
                  refine W_skip ?_
                  refine W_region ?_
                  refine L_add (m := (i_11 : Int)) (n := 1) rfl sf22 rfl ?_
                  refine L_mv (v := .int .i64 (i64 ((i_11 : Int) + 1))) rfl rfl ?_
                  refine L_nil ?_
                  obtain rfl := so hB13
                  show ∃ m, m < _ ∧ I13 m _ _
                  refine ⟨rest13.length, by simp, ?_⟩
                  rw [hI13]
                  exact ⟨i_11 + 1, rest13, out_21, v21_out, rfl, drop_next hd13, by simp at hl13; omega, hL13, sf1, sf2, sf6, sf21, (Eq.trans rfl (congrArg (Value.int .i64) (i64_succ (n := m.sizes.length) (by simp at hl13; omega) hlen13))), h1, hv21_out, h0_0, h0_1, hb_g3, hx⟩
          ·
            cases suf13 with
            | cons _ _ => exact absurd (of_decide_eq_false hc14) (by simp at hl13; omega)
            | nil =>
              obtain rfl := range_nil hL13
              refine W_exit ?_
              show R13 _ _
              rw [hR13]
              exact ⟨out_12, v12_out, rfl, sf6, hv12_out, hx⟩
      ·
        intro f w_ hR
        rw [hR13] at hR
        obtain ⟨out_12, v12_out, rfl, sf6, hv12_out, hx⟩ := hR
        clear hR13
        refine W_seq ?_
        refine W_region ?_
        refine L_mv (v := v12_out) rfl sf6 ?_
        refine L_as (v := v12_out) rfl rfl ?_
        refine L_as (v := .bool true) rfl rfl ?_
        refine L_nil ?_
        refine W_ret ?_
        obtain rfl := so hF
        refine ret2 Try.results30 ?_
        exact ⟨⟨v12_out, (tup2_eq rfl rfl), hv12_out⟩, hx⟩

theorem s_DecodeValues_c {fu : Nat} {m : Model} {values : List Bool} {v0_0 : Value} {v0_1 : Value} {v1 : Value} {w : World} {B : Nat} (hB : B ≤ w.heap.size) (h0_0 : (RP.slice 3 RP.int).rel B w.heap.size w [v0_0] m.sizes) (h0_1 : (RP.slice 36 (rRule 3 23)).rel B w.heap.size w [v0_1] m.rules) (h1 : (RP.slice 4 RP.bool).rel B w.heap.size w [v1] values) {r : (List Int) × Bool} (hF : s_DecodeValues fu m values = some r) :
    C Try.prog 31 #[.agg #[v0_0, v0_1], v1] w fun v w' => (∃ u1 : Value, v = .tuple #[u1, .bool r.2] ∧ Own RP.int 3 w.heap.size B w' u1 r.1) ∧ Ext w w' := by
  unfold s_DecodeValues at hF
  have hx := ext_refl w
  refine C_enter Try.func31 rfl Try.ntmps31 rfl ?_
  refine W_seq ?_
  refine W_region ?_
  refine L_box (v := .agg #[v0_0, v0_1]) (cs := #[v0_0, v0_1]) rfl rfl rfl ?_
  intro g3 w4 hn4
  have hge_g3 := hn4.geS hx.size
  have hb_g3 := hn4.blk
  have h0_0 := RP.ext h0_0 hn4.ext
  have h0_1 := RP.ext h0_1 hn4.ext
  have h1 := RP.ext h1 hn4.ext
  have hx := ext_trans hx hn4.ext
  refine L_as (v := (.slice none 0 0)) rfl rfl ?_
  refine L_as (v := .bool false) rfl rfl ?_
  refine L_nil ?_
  refine W_seq ?_
  refine W_seq ?_
  obtain ⟨x5, hx5, hF⟩ := bind_some hF
  obtain ⟨R7, hR7⟩ : ∃ R : Fr → World → Prop, R = fun f w_ => f 1 = v1 ∧ f 2 = .pointer (some ⟨g3, 0, none⟩) ∧ f 18 = .bool ((!x5) || ((values.length : Int) != 12)) ∧ (RP.slice 4 RP.bool).rel B w.heap.size w_ [v1] values ∧ (RP.slice 3 RP.int).rel B w.heap.size w_ [v0_0] m.sizes ∧ (RP.slice 36 (rRule 3 23)).rel B w.heap.size w_ [v0_1] m.rules ∧ Blk w_ g3 26 #[v0_0, v0_1] ∧ Ext w w_ := ⟨_, rfl⟩
  refine W_join R7 ?_ ?_
  ·
    refine W_region ?_
    refine L_lda (cs := [v0_0, v0_1]) rfl Try.isAgg26 Try.sizeOf26 rfl (Blk.sub hb_g3 0 2) rfl ?_
    refine L_call (args := #[.agg #[v0_0, v0_1]]) rfl Try.call52 (ops1 rfl) (s_ModelValid_c (m := m) (Nat.le_trans hB hx.size) (rel0 h0_0) (rel0 h0_1) hx5) ?_
    rintro _ w8 ⟨rfl, he8⟩
    have h0_0 := RP.ext h0_0 he8
    have h0_1 := RP.ext h0_1 he8
    have h1 := RP.ext h1 he8
    have hb_g3 := Blk.ext hb_g3 he8
    have hx := ext_trans hx he8
    refine L_not_ (b := x5) rfl rfl ?_
    refine L_mv (v := .bool (!x5)) rfl rfl ?_
    refine L_split (d := 14) (b := (!x5)) rfl (fun hc9 => ?_) (fun hc9 => ?_)
    ·
      refine L_pass rfl ?_
      refine L_pass rfl ?_
      refine L_pass rfl ?_
      refine L_pick (v := .bool ((!x5) || ((values.length : Int) != 12))) rfl rfl (or_t hc9) ?_
      refine L_nil ?_
      show R7 _ _
      rw [hR7]
      exact ⟨rfl, rfl, rfl, h1, h0_0, h0_1, hb_g3, hx⟩
    ·
      refine L_mv (v := v1) rfl rfl ?_
      refine L_len (v := v1) rfl Try.underlying44 rfl h1 ?_
      refine L_neq (m := (values.length : Int)) (n := 12) rfl rfl rfl ?_
      refine L_pick (v := .bool ((!x5) || ((values.length : Int) != 12))) rfl rfl (or_f hc9 rfl) ?_
      refine L_nil ?_
      show R7 _ _
      rw [hR7]
      exact ⟨rfl, rfl, rfl, h1, h0_0, h0_1, hb_g3, hx⟩
  ·
    intro f w_ hR
    rw [hR7] at hR
    obtain ⟨sf1, sf2, sf18, h1, h0_0, h0_1, hb_g3, hx⟩ := hR
    clear hR7
    refine W_cond (b := ((!x5) || ((values.length : Int) != 12))) sf18 (fun hc10 => ?_) (fun hc10 => ?_)
    ·
      have hF := (ite_t hc10).symm.trans hF
      refine W_seq ?_
      refine W_region ?_
      refine L_bs rfl parts0 (bs_23_0  ) ?_
      intro g13 w14 hn14
      have ho14 : Own RP.int 3 w.heap.size B w14 _ _ := own_new0 hn14 hx.size
      have hz14 := zero_new hn14 hx.size
      have hx := ext_trans hx hn14.ext
      refine L_as (v := (.slice (some ⟨g13, 0, none⟩) 0 0)) rfl rfl ?_
      refine L_as (v := .bool false) rfl rfl ?_
      refine L_nil ?_
      refine W_ret ?_
      obtain rfl := so hF
      refine ret2 Try.results31 ?_
      exact ⟨⟨(.slice (some ⟨g13, 0, none⟩) 0 0), (tup2_eq rfl rfl), ho14⟩, hx⟩
    ·
      have hF := (ite_f hc10).symm.trans hF
      refine W_skip ?_
      refine W_seq ?_
      refine W_region ?_
      refine L_bs rfl parts0 (bs_23_0  ) ?_
      intro g17 w18 hn18
      have ho18 : Own RP.int 3 w.heap.size B w18 _ _ := own_new0 hn18 hx.size
      have hz18 := zero_new hn18 hx.size
      have h1 := RP.ext h1 hn18.ext
      have h0_0 := RP.ext h0_0 hn18.ext
      have h0_1 := RP.ext h0_1 hn18.ext
      have hb_g3 := Blk.ext hb_g3 hn18.ext
      have hx := ext_trans hx hn18.ext
      refine L_as (v := (.slice (some ⟨g17, 0, none⟩) 0 0)) rfl rfl ?_
      refine L_nil ?_
      refine W_seq ?_
      refine W_seq ?_
      refine W_region ?_
      refine L_as (v := .int .i64 0) rfl rfl ?_
      refine L_nil ?_
      have hlen21 := len_le h0_0
      obtain ⟨j21, hL21, hF⟩ := bind_some hF
      obtain ⟨R21, hR21⟩ : ∃ R : Fr → World → Prop, R = fun f w_ => ∃ out_20 : List Int, ∃ v20_out : Value, j21 = .nx out_20 ∧ f 6 = v20_out ∧ Own RP.int 3 w.heap.size B w_ v20_out out_20 ∧ Ext w w_ := ⟨_, rfl⟩
      refine W_join R21 ?_ ?_
      ·
        refine W_block ?_
        obtain ⟨I21, hI21⟩ : ∃ I : Nat → Fr → World → Prop, I = fun n f w_ => ∃ i_19 : Nat, ∃ suf21 : List Int, ∃ out_20 : List Int, ∃ v20_out : Value, n = suf21.length ∧ List.drop i_19 m.sizes = suf21 ∧ i_19 + suf21.length = m.sizes.length ∧ rangeL (s_DecodeValues_b1 m values) suf21 i_19 out_20 = some j21 ∧ f 1 = v1 ∧ f 2 = .pointer (some ⟨g3, 0, none⟩) ∧ f 6 = v20_out ∧ f 7 = .int .i64 (i_19 : Int) ∧ (RP.slice 4 RP.bool).rel B w.heap.size w_ [v1] values ∧ Own RP.int 3 w.heap.size B w_ v20_out out_20 ∧ (RP.slice 3 RP.int).rel B w.heap.size w_ [v0_0] m.sizes ∧ (RP.slice 36 (rRule 3 23)).rel B w.heap.size w_ [v0_1] m.rules ∧ Blk w_ g3 26 #[v0_0, v0_1] ∧ Ext w w_ := ⟨_, rfl⟩
        refine W_loop I21 (n := m.sizes.length) ?_ ?_
        · rw [hI21]; exact ⟨0, m.sizes, [], (.slice (some ⟨g17, 0, none⟩) 0 0), rfl, rfl, Nat.zero_add _, hL21, sf1, sf2, rfl, rfl, h1, ho18, h0_0, h0_1, hb_g3, hx⟩
        ·
          intro n21 f w_ hI
          rw [hI21] at hI
          obtain ⟨i_19, suf21, out_20, v20_out, rfl, hd21, hl21, hL21, sf1, sf2, sf6, sf7, h1, hv20_out, h0_0, h0_1, hb_g3, hx⟩ := hI
          refine W_seq ?_
          refine W_seq ?_
          refine W_region ?_
          refine L_mv (v := .int .i64 (i_19 : Int)) rfl sf7 ?_
          refine L_fa (o' := 0) rfl fa_26_0 sf2 rfl ?_
          refine L_ld (v := v0_0) rfl Try.isAgg23 rfl (hb_g3.cell (j := 0) rfl) ?_
          refine L_len (v := v0_0) rfl Try.underlying23 rfl h0_0 ?_
          refine L_lss (m := (i_19 : Int)) (n := (m.sizes.length : Int)) rfl rfl rfl ?_
          refine L_nil ?_
          refine W_cond (b := decide ((i_19 : Int) < (m.sizes.length : Int))) rfl (fun hc22 => ?_) (fun hc22 => ?_)
          ·
            have hlt21 := of_decide_eq_true hc22
            cases suf21 with
            | nil => exact absurd hlt21 (by simp at hl21; omega)
            | cons x_21 rest21 =>
              obtain ⟨o21, hB21, hL21⟩ := range_cons hL21
              rw [s_DecodeValues_b1] at hB21
              have hix21 := drop_idx hd21
              refine W_skip ?_
              refine W_seq ?_
              refine W_block ?_
              refine W_seq ?_
              refine W_region ?_
              refine L_as (v := .int .i64 (-1)) rfl rfl ?_
              refine L_nil ?_
              refine W_seq ?_
              refine W_region ?_
              refine L_as (v := .int .i64 0) rfl rfl ?_
              refine L_nil ?_
              refine W_seq ?_
              refine W_seq ?_
              refine W_region ?_
              refine L_as (v := .int .i64 0) rfl rfl ?_
              refine L_nil ?_
              obtain ⟨k27, hk27, hB21⟩ := bind_some hB21
              obtain ⟨j26, hL26, hB21⟩ := bind_some hB21
              obtain ⟨R26, hR26⟩ : ∃ R : Fr → World → Prop, R = fun f w_ => ∃ v_24 : Int, ∃ n_25 : Int, j26 = .nx (v_24, n_25) ∧ f 1 = v1 ∧ f 2 = .pointer (some ⟨g3, 0, none⟩) ∧ f 6 = v20_out ∧ f 7 = .int .i64 (i_19 : Int) ∧ f 8 = .int .i64 v_24 ∧ f 9 = .int .i64 n_25 ∧ (RP.slice 4 RP.bool).rel B w.heap.size w_ [v1] values ∧ Own RP.int 3 w.heap.size B w_ v20_out out_20 ∧ (RP.slice 3 RP.int).rel B w.heap.size w_ [v0_0] m.sizes ∧ (RP.slice 36 (rRule 3 23)).rel B w.heap.size w_ [v0_1] m.rules ∧ Blk w_ g3 26 #[v0_0, v0_1] ∧ Ext w w_ := ⟨_, rfl⟩
              refine W_join R26 ?_ ?_
              ·
                refine W_block ?_
                obtain ⟨I26, hI26⟩ : ∃ I : Nat → Fr → World → Prop, I = fun n f w_ => ∃ i_23 : Nat, ∃ suf26 : Nat, ∃ v_24 : Int, ∃ n_25 : Int, suf26 = n ∧ 0 ≤ i_23 ∧ i_23 + suf26 = 0 + k27 ∧ countL (s_DecodeValues_b2 m values i_19) suf26 i_23 (v_24, n_25) = some j26 ∧ f 1 = v1 ∧ f 2 = .pointer (some ⟨g3, 0, none⟩) ∧ f 6 = v20_out ∧ f 7 = .int .i64 (i_19 : Int) ∧ f 8 = .int .i64 v_24 ∧ f 9 = .int .i64 n_25 ∧ f 10 = .int .i64 (i_23 : Int) ∧ (RP.slice 4 RP.bool).rel B w.heap.size w_ [v1] values ∧ Own RP.int 3 w.heap.size B w_ v20_out out_20 ∧ (RP.slice 3 RP.int).rel B w.heap.size w_ [v0_0] m.sizes ∧ (RP.slice 36 (rRule 3 23)).rel B w.heap.size w_ [v0_1] m.rules ∧ Blk w_ g3 26 #[v0_0, v0_1] ∧ Ext w w_ := ⟨_, rfl⟩
                refine W_loop I26 (n := k27) ?_ ?_
                · rw [hI26]; exact ⟨0, k27, (-1), 0, rfl, Nat.le_refl _, rfl, hL26, sf1, sf2, sf6, sf7, rfl, rfl, rfl, h1, hv20_out, h0_0, h0_1, hb_g3, hx⟩
                ·
                  intro n26 f w_ hI
                  rw [hI26] at hI
                  obtain ⟨i_23, suf26, v_24, n_25, rfl, hs26, hl26, hL26, sf1, sf2, sf6, sf7, sf8, sf9, sf10, h1, hv20_out, h0_0, h0_1, hb_g3, hx⟩ := hI
                  refine W_seq ?_
                  refine W_seq ?_
                  refine W_region ?_
                  refine L_mv (v := .int .i64 (i_23 : Int)) rfl sf10 ?_
                  refine L_fa (o' := 0) rfl fa_26_0 sf2 rfl ?_
                  refine L_ld (v := v0_0) rfl Try.isAgg23 rfl (hb_g3.cell (j := 0) rfl) ?_
                  refine L_mv (v := .int .i64 (i_19 : Int)) rfl sf7 ?_
                  refine L_ix (r := RP.int) rfl Try.underlying23 Try.sizeOf3 rfl h0_0 rfl hix21 ?_
                  intro g30 o31 cs31 hr31 hat31
                  obtain rfl : _ = [_] := hr31
                  refine L_ld (v := .int .i64 x_21) rfl Try.isAgg3 rfl (hat31.cell (j := 0) rfl) ?_
                  refine L_leq (m := (i_23 : Int)) (n := x_21) rfl rfl rfl ?_
                  refine L_nil ?_
                  refine W_cond (b := decide ((i_23 : Int) ≤ x_21)) rfl (fun hc32 => ?_) (fun hc32 => ?_)
                  ·
                    have hlt26 := of_decide_eq_true hc32
                    cases suf26 with
                    | zero => exact absurd hlt26 (cntF_noL hl26 hk27)
                    | succ rest26 =>
                      obtain ⟨o26, hB26, hL26⟩ := count_succ hL26
                      rw [s_DecodeValues_b2] at hB26
                      refine W_skip ?_
                      refine W_seq ?_
                      refine W_block ?_
                      refine W_seq ?_
                      obtain ⟨x33, hx33, hB26⟩ := bind_some hB26
                      obtain ⟨x35, hx35, hB26⟩ := bind_some hB26
                      refine W_region ?_
                      refine L_mv (v := v1) rfl sf1 ?_
                      refine L_lda (cs := [v0_0, v0_1]) rfl Try.isAgg26 Try.sizeOf26 sf2 (Blk.sub hb_g3 0 2) rfl ?_
                      refine L_mv (v := .int .i64 (i_19 : Int)) rfl sf7 ?_
                      refine L_mv (v := .int .i64 (i_23 : Int)) rfl sf10 ?_
                      refine L_call (args := #[.agg #[v0_0, v0_1], .int .i64 (i_19 : Int), .int .i64 (i_23 : Int)]) rfl Try.call53 (ops3 rfl rfl rfl) (s_l7Var_c (m := m) (cell := (i_19 : Int)) (value := (i_23 : Int)) (Nat.le_trans hB hx.size) (rel0 h0_0) (rel0 h0_1) hx33) ?_
                      rintro _ w38 ⟨rfl, he38⟩
                      have h1 := RP.ext h1 he38
                      have hv20_out := Own.ext hv20_out he38
                      have h0_0 := RP.ext h0_0 he38
                      have h0_1 := RP.ext h0_1 he38
                      have hb_g3 := Blk.ext hb_g3 he38
                      have hx := ext_trans hx he38
                      refine L_sub (m := x33) (n := 1) rfl rfl rfl ?_
                      refine L_ix (r := RP.bool) rfl Try.underlying44 Try.sizeOf4 rfl h1 rfl hx35 ?_
                      intro g39 o40 cs40 hr40 hat40
                      obtain rfl : _ = [_] := hr40
                      refine L_ld (v := .bool x35) rfl Try.isAgg4 rfl (hat40.cell (j := 0) rfl) ?_
                      refine L_nil ?_
                      obtain ⟨⟨v_41, n_42⟩, hA43, hB26⟩ := bind_some hB26
                      obtain ⟨R43, hR43⟩ : ∃ R : Fr → World → Prop, R = fun f w_ => f 1 = v1 ∧ f 2 = .pointer (some ⟨g3, 0, none⟩) ∧ f 6 = v20_out ∧ f 7 = .int .i64 (i_19 : Int) ∧ f 8 = .int .i64 v_41 ∧ f 9 = .int .i64 n_42 ∧ f 10 = .int .i64 (i_23 : Int) ∧ (RP.slice 4 RP.bool).rel B w.heap.size w_ [v1] values ∧ Own RP.int 3 w.heap.size B w_ v20_out out_20 ∧ (RP.slice 3 RP.int).rel B w.heap.size w_ [v0_0] m.sizes ∧ (RP.slice 36 (rRule 3 23)).rel B w.heap.size w_ [v0_1] m.rules ∧ Blk w_ g3 26 #[v0_0, v0_1] ∧ Ext w w_ := ⟨_, rfl⟩
                      refine W_join R43 ?_ ?_
                      ·
                        refine W_cond (b := x35) rfl (fun hc44 => ?_) (fun hc44 => ?_)
                        ·
                          have hA43 := (ite_t hc44).symm.trans hA43
                          refine W_seq ?_
                          refine W_region ?_
                          refine L_mv (v := .int .i64 (i_23 : Int)) rfl sf10 ?_
                          refine L_as (v := .int .i64 (i_23 : Int)) rfl rfl ?_
                          refine L_nil ?_
                          refine W_region ?_
                          refine L_mv (v := .int .i64 n_25) rfl sf9 ?_
                          refine L_add (m := n_25) (n := 1) rfl rfl rfl ?_
                          refine L_as (v := .int .i64 (i64 (n_25 + 1))) rfl rfl ?_
                          refine L_nil ?_
                          obtain ⟨rfl, rfl⟩ := so2 hA43
                          show R43 _ _
                          rw [hR43]
                          exact ⟨sf1, sf2, sf6, sf7, rfl, rfl, sf10, h1, hv20_out, h0_0, h0_1, hb_g3, hx⟩
                        ·
                          have hA43 := (ite_f hc44).symm.trans hA43
                          refine W_skip ?_
                          obtain ⟨rfl, rfl⟩ := so2 hA43
                          show R43 _ _
                          rw [hR43]
                          exact ⟨sf1, sf2, sf6, sf7, sf8, sf9, sf10, h1, hv20_out, h0_0, h0_1, hb_g3, hx⟩
                      ·
                        intro f w_ hR
                        rw [hR43] at hR
                        obtain ⟨sf1, sf2, sf6, sf7, sf8, sf9, sf10, h1, hv20_out, h0_0, h0_1, hb_g3, hx⟩ := hR
                        clear hR43
                        refine W_region ?_
                        refine L_mv (v := .int .i64 (i_23 : Int)) rfl sf10 ?_
                        refine L_add (m := (i_23 : Int)) (n := 1) rfl rfl rfl ?_
                        refine L_as (v := .int .i64 (i64 ((i_23 : Int) + 1))) rfl rfl ?_
                        refine L_nil ?_
                        obtain rfl := so hB26
                        show ∃ m, m < _ ∧ I26 m _ _
                        refine ⟨rest26, Nat.lt_succ_self _, ?_⟩
                        rw [hI26]
                        exact ⟨i_23 + 1, rest26, v_41, n_42, rfl, by omega, by omega, hL26, sf1, sf2, sf6, sf7, sf8, sf9, (Eq.trans rfl (congrArg (Value.int .i64) (i64_succ (n := 0 + k27) (by omega) (cntF_le hk27)))), h1, hv20_out, h0_0, h0_1, hb_g3, hx⟩
                  ·
                    cases suf26 with
                    | succ _ => exact absurd (cntF_yesL hs26 hl26 hk27) (of_decide_eq_false hc32)
                    | zero =>
                      obtain rfl := count_zero hL26
                      refine W_exit ?_
                      show R26 _ _
                      rw [hR26]
                      exact ⟨v_24, n_25, rfl, sf1, sf2, sf6, sf7, sf8, sf9, h1, hv20_out, h0_0, h0_1, hb_g3, hx⟩
              ·
                intro f w_ hR
                rw [hR26] at hR
                obtain ⟨v_24, n_25, rfl, sf1, sf2, sf6, sf7, sf8, sf9, h1, hv20_out, h0_0, h0_1, hb_g3, hx⟩ := hR
                clear hR26
                refine W_seq ?_
                refine W_seq ?_
                refine W_region ?_
                refine L_mv (v := .int .i64 n_25) rfl sf9 ?_
                refine L_neq (m := n_25) (n := 1) rfl rfl rfl ?_
                refine L_nil ?_
                refine W_cond (b := (n_25 != 1)) rfl (fun hc45 => ?_) (fun hc45 => ?_)
                ·
                  have hB21 := (ite_t hc45).symm.trans hB21
                  refine W_seq ?_
                  refine W_region ?_
                  refine L_bs rfl parts0 (bs_23_0  ) ?_
                  intro g49 w50 hn50
                  have ho50 : Own RP.int 3 w.heap.size B w50 _ _ := own_new0 hn50 hx.size
                  have hz50 := zero_new hn50 hx.size
                  have hx := ext_trans hx hn50.ext
                  refine L_as (v := (.slice (some ⟨g49, 0, none⟩) 0 0)) rfl rfl ?_
                  refine L_as (v := .bool false) rfl rfl ?_
                  refine L_nil ?_
                  refine W_ret ?_
                  obtain rfl := so hB21
                  obtain rfl := so hL21
                  obtain rfl := so hF
                  refine ret2 Try.results31 ?_
                  exact ⟨⟨(.slice (some ⟨g49, 0, none⟩) 0 0), (tup2_eq rfl rfl), ho50⟩, hx⟩
                ·
                  have hB21 := (ite_f hc45).symm.trans hB21
                  refine W_skip ?_
                  obtain ⟨x54, hx54, hB21⟩ := bind_some hB21
                  refine W_region ?_
                  refine L_mv (v := v20_out) rfl sf6 ?_
                  refine L_mv (v := .int .i64 v_24) rfl sf8 ?_
                  refine L_bs rfl (parts1 rfl) (bs_23_1_0 (.int .i64 v_24) rfl) ?_
                  intro g57 w58 hn58
                  have ho58 : Own RP.int 3 w.heap.size B w58 _ [v_24] := own_new1 hn58 hx.size rfl
                  have ap59 := ap_ob hv20_out hn58
                  have h1 := RP.ext h1 hn58.ext
                  have hv20_out := Own.ext hv20_out hn58.ext
                  have h0_0 := RP.ext h0_0 hn58.ext
                  have h0_1 := RP.ext h0_1 hn58.ext
                  have hb_g3 := Blk.ext hb_g3 hn58.ext
                  have hx := ext_trans hx hn58.ext
                  refine L_app (v := v20_out) (u := (.slice (some ⟨g57, 0, none⟩) 1 1)) rfl et_23 (by decide) rfl rfl hv20_out (rel0 (Own.rel ho58)) hx54 hx.size hB ?_
                  intro v60 w60 ho60 hm60 hb60
                  have h1 := hm60.rel h1 (by decide) (Nat.le_trans hB (Nat.le_refl _))
                  have h0_0 := hm60.rel_lo h0_0 (Nat.le_refl _)
                  have h0_1 := hm60.rel_lo h0_1 (Nat.le_refl _)
                  have hb_g3 := hm60.blk hb_g3 (by decide)
                  have hx := ext_mut hx hm60 (Nat.le_refl _)
                  refine L_as (v := v60) rfl rfl ?_
                  refine L_nil ?_
                  refine W_region ?_
                  refine L_mv (v := .int .i64 (i_19 : Int)) rfl sf7 ?_
                  refine L_add (m := (i_19 : Int)) (n := 1) rfl rfl rfl ?_
                  refine L_as (v := .int .i64 (i64 ((i_19 : Int) + 1))) rfl rfl ?_
                  refine L_nil ?_
                  obtain rfl := so hB21
                  show ∃ m, m < _ ∧ I21 m _ _
                  refine ⟨rest21.length, by simp, ?_⟩
                  rw [hI21]
                  exact ⟨i_19 + 1, rest21, x54, v60, rfl, drop_next hd21, by simp at hl21; omega, hL21, sf1, sf2, rfl, (Eq.trans rfl (congrArg (Value.int .i64) (i64_succ (n := m.sizes.length) (by simp at hl21; omega) hlen21))), h1, ho60, h0_0, h0_1, hb_g3, hx⟩
          ·
            cases suf21 with
            | cons _ _ => exact absurd (of_decide_eq_false hc22) (by simp at hl21; omega)
            | nil =>
              obtain rfl := range_nil hL21
              refine W_exit ?_
              show R21 _ _
              rw [hR21]
              exact ⟨out_20, v20_out, rfl, sf6, hv20_out, hx⟩
      ·
        intro f w_ hR
        rw [hR21] at hR
        obtain ⟨out_20, v20_out, rfl, sf6, hv20_out, hx⟩ := hR
        clear hR21
        refine W_seq ?_
        refine W_region ?_
        refine L_mv (v := v20_out) rfl sf6 ?_
        refine L_as (v := v20_out) rfl rfl ?_
        refine L_as (v := .bool true) rfl rfl ?_
        refine L_nil ?_
        refine W_ret ?_
        obtain rfl := so hF
        refine ret2 Try.results31 ?_
        exact ⟨⟨v20_out, (tup2_eq rfl rfl), hv20_out⟩, hx⟩

theorem l_cpInts_c {a : List Int} {b : List Int} {v0 : Value} {v1 : Value} {w : World} {B : Nat} (hB : B ≤ w.heap.size) (h0 : (RP.slice 3 RP.int).rel B w.heap.size w [v0] a) (h1 : (RP.slice 3 RP.int).rel B w.heap.size w [v1] b) {r : Bool} (hF : l_cpInts a b = some r) :
    C Try.prog 32 #[v0, v1] w fun v w' => (v = .bool r) ∧ Ext w w' := by
  unfold l_cpInts at hF
  have hx := ext_refl w
  refine C_enter Try.func32 rfl Try.ntmps32 rfl ?_
  refine W_seq ?_
  refine W_region ?_
  refine L_as (v := .bool false) rfl rfl ?_
  refine L_nil ?_
  refine W_seq ?_
  refine W_seq ?_
  refine W_region ?_
  refine L_mv (v := v0) rfl rfl ?_
  refine L_len (v := v0) rfl Try.underlying23 rfl h0 ?_
  refine L_mv (v := v1) rfl rfl ?_
  refine L_len (v := v1) rfl Try.underlying23 rfl h1 ?_
  refine L_neq (m := (a.length : Int)) (n := (b.length : Int)) rfl rfl rfl ?_
  refine L_nil ?_
  refine W_cond (b := ((a.length : Int) != (b.length : Int))) rfl (fun hc1 => ?_) (fun hc1 => ?_)
  ·
    have hF := (ite_t hc1).symm.trans hF
    refine W_seq ?_
    refine W_region ?_
    refine L_as (v := .bool false) rfl rfl ?_
    refine L_nil ?_
    refine W_ret ?_
    obtain rfl := so hF
    refine ret1 Try.results32 ?_
    exact ⟨rfl, hx⟩
  ·
    have hF := (ite_f hc1).symm.trans hF
    refine W_skip ?_
    refine W_seq ?_
    refine W_seq ?_
    refine W_region ?_
    refine L_as (v := .int .i64 0) rfl rfl ?_
    refine L_nil ?_
    have hlen3 := len_le h0
    obtain ⟨j3, hL3, hF⟩ := bind_some hF
    obtain ⟨R3, hR3⟩ : ∃ R : Fr → World → Prop, R = fun f w_ => j3 = .nx () ∧ Ext w w_ := ⟨_, rfl⟩
    refine W_join R3 ?_ ?_
    ·
      refine W_block ?_
      obtain ⟨I3, hI3⟩ : ∃ I : Nat → Fr → World → Prop, I = fun n f w_ => ∃ i_2 : Nat, ∃ suf3 : List Int, n = suf3.length ∧ List.drop i_2 a = suf3 ∧ i_2 + suf3.length = a.length ∧ rangeL (l_cpInts_b1 b) suf3 i_2 () = some j3 ∧ f 0 = v0 ∧ f 1 = v1 ∧ f 5 = .int .i64 (i_2 : Int) ∧ (RP.slice 3 RP.int).rel B w.heap.size w_ [v0] a ∧ (RP.slice 3 RP.int).rel B w.heap.size w_ [v1] b ∧ Ext w w_ := ⟨_, rfl⟩
      refine W_loop I3 (n := a.length) ?_ ?_
      · rw [hI3]; exact ⟨0, a, rfl, rfl, Nat.zero_add _, hL3, rfl, rfl, rfl, h0, h1, hx⟩
      ·
        intro n3 f w_ hI
        rw [hI3] at hI
        obtain ⟨i_2, suf3, rfl, hd3, hl3, hL3, sf0, sf1, sf5, h0, h1, hx⟩ := hI
        refine W_seq ?_
        refine W_seq ?_
        refine W_region ?_
        refine L_mv (v := .int .i64 (i_2 : Int)) rfl sf5 ?_
        refine L_mv (v := v0) rfl sf0 ?_
        refine L_len (v := v0) rfl Try.underlying23 rfl h0 ?_
        refine L_lss (m := (i_2 : Int)) (n := (a.length : Int)) rfl rfl rfl ?_
        refine L_nil ?_
        refine W_cond (b := decide ((i_2 : Int) < (a.length : Int))) rfl (fun hc4 => ?_) (fun hc4 => ?_)
        ·
          have hlt3 := of_decide_eq_true hc4
          cases suf3 with
          | nil => exact absurd hlt3 (by simp at hl3; omega)
          | cons x_3 rest3 =>
            obtain ⟨o3, hB3, hL3⟩ := range_cons hL3
            rw [l_cpInts_b1] at hB3
            have hix3 := drop_idx hd3
            refine W_skip ?_
            refine W_seq ?_
            refine W_block ?_
            refine W_seq ?_
            obtain ⟨x7, hx7, hB3⟩ := bind_some hB3
            refine W_drawL 8 [isV (v0), isV (.int .i64 (i_2 : Int)), isEl B RP.int x_3 0, isV (.int .i64 x_3), isV (v1), isV (.int .i64 (i_2 : Int)), isEl B RP.int x7 0, isV (.int .i64 x7)] Try_mix (by kernel_rfl) (am_cons (mono_V _) (am_cons (mono_V _) (am_cons (mono_el _ _ _ _) (am_cons (mono_V _) (am_cons (mono_V _) (am_cons (mono_V _) (am_cons (mono_el _ _ _ _) (am_cons (mono_V _) am_nil)))))))) ?_ (fun f w_ hS10 hE10 hT10 => ?_)
            ·
              refine ops_cons (fun f w_ hS10 hE10 hP10 => ?_) ?_
              ·
                have hx := ext_trans hx hE10
                have h0 := RP.ext h0 hE10
                refine L_mv (v := v0) rfl ((hS10 0 rfl).trans sf0) ?_
                exact L_nil ⟨rfl, (ext_refl _), _, _, rfl, rfl, rfl⟩
              refine ops_cons (fun f w_ hS10 hE10 hP10 => ?_) ?_
              ·
                have hx := ext_trans hx hE10
                refine L_mv (v := .int .i64 (i_2 : Int)) rfl ((hS10 5 rfl).trans sf5) ?_
                exact L_nil ⟨rfl, (ext_refl _), _, _, rfl, rfl, rfl⟩
              refine ops_cons (fun f w_ hS10 hE10 hP10 => ?_) ?_
              ·
                have hx := ext_trans hx hE10
                have h0 := RP.ext h0 hE10
                refine L_ix (r := RP.int) rfl Try.underlying23 Try.sizeOf3 (hP10 0 17 rfl rfl) h0 (hP10 1 18 rfl rfl) hix3 ?_
                intro g15 o16 cs16 hr16 hat16
                obtain rfl : _ = [_] := hr16
                exact L_nil ⟨rfl, (ext_refl _), _, _, rfl, rfl, ⟨_, _, _, rfl, rfl, hat16⟩⟩
              refine ops_cons (fun f w_ hS10 hE10 hP10 => ?_) ?_
              ·
                have hx := ext_trans hx hE10
                obtain ⟨g17, o17, cs17, hv17, hr17, hat17⟩ := (hP10 2 19 rfl rfl)
                obtain rfl : _ = [_] := hr17
                refine L_ld (v := .int .i64 x_3) rfl Try.isAgg3 hv17 (hat17.cell (j := 0) rfl) ?_
                exact L_nil ⟨rfl, (ext_refl _), _, _, rfl, rfl, rfl⟩
              refine ops_cons (fun f w_ hS10 hE10 hP10 => ?_) ?_
              ·
                have hx := ext_trans hx hE10
                have h1 := RP.ext h1 hE10
                refine L_mv (v := v1) rfl ((hS10 1 rfl).trans sf1) ?_
                exact L_nil ⟨rfl, (ext_refl _), _, _, rfl, rfl, rfl⟩
              refine ops_cons (fun f w_ hS10 hE10 hP10 => ?_) ?_
              ·
                have hx := ext_trans hx hE10
                refine L_mv (v := .int .i64 (i_2 : Int)) rfl ((hS10 5 rfl).trans sf5) ?_
                exact L_nil ⟨rfl, (ext_refl _), _, _, rfl, rfl, rfl⟩
              refine ops_cons (fun f w_ hS10 hE10 hP10 => ?_) ?_
              ·
                have hx := ext_trans hx hE10
                have h1 := RP.ext h1 hE10
                refine L_ix (r := RP.int) rfl Try.underlying23 Try.sizeOf3 (hP10 4 21 rfl rfl) h1 (hP10 5 22 rfl rfl) hx7 ?_
                intro g18 o19 cs19 hr19 hat19
                obtain rfl : _ = [_] := hr19
                exact L_nil ⟨rfl, (ext_refl _), _, _, rfl, rfl, ⟨_, _, _, rfl, rfl, hat19⟩⟩
              refine ops_cons (fun f w_ hS10 hE10 hP10 => ?_) ?_
              ·
                have hx := ext_trans hx hE10
                obtain ⟨g20, o20, cs20, hv20, hr20, hat20⟩ := (hP10 6 23 rfl rfl)
                obtain rfl : _ = [_] := hr20
                refine L_ld (v := .int .i64 x7) rfl Try.isAgg3 hv20 (hat20.cell (j := 0) rfl) ?_
                exact L_nil ⟨rfl, (ext_refl _), _, _, rfl, rfl, rfl⟩
              exact ops_nil
            ·
              have h0 := RP.ext h0 hE10
              have h1 := RP.ext h1 hE10
              have hx := ext_trans hx hE10
              refine L_neq (m := x_3) (n := x7) rfl (hT10 3 20 rfl rfl) (hT10 7 24 rfl rfl) ?_
              refine L_nil ?_
              refine W_cond (b := (x_3 != x7)) rfl (fun hc21 => ?_) (fun hc21 => ?_)
              ·
                have hB3 := (ite_t hc21).symm.trans hB3
                refine W_seq ?_
                refine W_region ?_
                refine L_as (v := .bool false) rfl rfl ?_
                refine L_nil ?_
                refine W_ret ?_
                obtain rfl := so hB3
                obtain rfl := so hL3
                obtain rfl := so hF
                refine ret1 Try.results32 ?_
                exact ⟨rfl, hx⟩
              ·
                have hB3 := (ite_f hc21).symm.trans hB3
                refine W_skip ?_
                refine W_region ?_
                refine L_mv (v := .int .i64 (i_2 : Int)) rfl ((hS10 5 rfl).trans sf5) ?_
                refine L_add (m := (i_2 : Int)) (n := 1) rfl rfl rfl ?_
                refine L_as (v := .int .i64 (i64 ((i_2 : Int) + 1))) rfl rfl ?_
                refine L_nil ?_
                obtain rfl := so hB3
                show ∃ m, m < _ ∧ I3 m _ _
                refine ⟨rest3.length, by simp, ?_⟩
                rw [hI3]
                exact ⟨i_2 + 1, rest3, rfl, drop_next hd3, by simp at hl3; omega, hL3, ((hS10 0 rfl).trans sf0), ((hS10 1 rfl).trans sf1), (Eq.trans rfl (congrArg (Value.int .i64) (i64_succ (n := a.length) (by simp at hl3; omega) hlen3))), h0, h1, hx⟩
        ·
          cases suf3 with
          | cons _ _ => exact absurd (of_decide_eq_false hc4) (by simp at hl3; omega)
          | nil =>
            obtain rfl := range_nil hL3
            refine W_exit ?_
            show R3 _ _
            rw [hR3]
            exact ⟨rfl, hx⟩
    ·
      intro f w_ hR
      rw [hR3] at hR
      obtain ⟨rfl, hx⟩ := hR
      clear hR3
      refine W_seq ?_
      refine W_region ?_
      refine L_as (v := .bool true) rfl rfl ?_
      refine L_nil ?_
      refine W_ret ?_
      obtain rfl := so hF
      refine ret1 Try.results32 ?_
      exact ⟨rfl, hx⟩

theorem i_EncodeCells_c {m : Model} {cells : List Int} {v0_0 : Value} {v0_1 : Value} {v1 : Value} {w : World} {B : Nat} (hB : B ≤ w.heap.size) (h0_0 : (RP.slice 3 RP.int).rel B w.heap.size w [v0_0] m.sizes) (h0_1 : (RP.slice 36 (rRule 3 23)).rel B w.heap.size w [v0_1] m.rules) (h1 : (RP.slice 3 RP.int).rel B w.heap.size w [v1] cells) {r : (List Bool) × Bool} (hF : i_EncodeCells m cells = some r) :
    C Try.prog 33 #[.agg #[v0_0, v0_1], v1] w fun v w' => (∃ u1 : Value, v = .tuple #[u1, .bool r.2] ∧ Own RP.bool 4 w.heap.size B w' u1 r.1) ∧ Ext w w' := by
  unfold i_EncodeCells at hF
  have hx := ext_refl w
  refine C_enter Try.func33 rfl Try.ntmps33 rfl ?_
  refine W_seq ?_
  refine W_region ?_
  refine L_box (v := .agg #[v0_0, v0_1]) (cs := #[v0_0, v0_1]) rfl rfl rfl ?_
  intro g3 w4 hn4
  have hge_g3 := hn4.geS hx.size
  have hb_g3 := hn4.blk
  have h0_0 := RP.ext h0_0 hn4.ext
  have h0_1 := RP.ext h0_1 hn4.ext
  have h1 := RP.ext h1 hn4.ext
  have hx := ext_trans hx hn4.ext
  refine L_as (v := (.slice none 0 0)) rfl rfl ?_
  refine L_as (v := .bool false) rfl rfl ?_
  refine L_nil ?_
  refine W_seq ?_
  refine W_seq ?_
  obtain ⟨x5, hx5, hF⟩ := bind_some hF
  refine W_region ?_
  refine L_lda (cs := [v0_0, v0_1]) rfl Try.isAgg26 Try.sizeOf26 rfl (Blk.sub hb_g3 0 2) rfl ?_
  refine L_mv (v := v1) rfl rfl ?_
  refine L_call (args := #[.agg #[v0_0, v0_1], v1]) rfl Try.call20 (ops2 rfl rfl) (i_CellsValid_c (m := m) (cells := cells) (Nat.le_trans hB hx.size) (rel0 h0_0) (rel0 h0_1) (rel0 h1) hx5) ?_
  rintro _ w7 ⟨rfl, he7⟩
  have h0_0 := RP.ext h0_0 he7
  have h0_1 := RP.ext h0_1 he7
  have h1 := RP.ext h1 he7
  have hb_g3 := Blk.ext hb_g3 he7
  have hx := ext_trans hx he7
  refine L_not_ (b := x5) rfl rfl ?_
  refine L_nil ?_
  refine W_cond (b := (!x5)) rfl (fun hc8 => ?_) (fun hc8 => ?_)
  ·
    have hF := (ite_t hc8).symm.trans hF
    refine W_seq ?_
    refine W_region ?_
    refine L_as (v := (.slice none 0 0)) rfl rfl ?_
    refine L_as (v := .bool false) rfl rfl ?_
    refine L_nil ?_
    refine W_ret ?_
    obtain rfl := so hF
    refine ret2 Try.results33 ?_
    exact ⟨⟨(.slice none 0 0), (tup2_eq rfl rfl), (Own.nil _ _ _ _ _)⟩, hx⟩
  ·
    have hF := (ite_f hc8).symm.trans hF
    refine W_skip ?_
    refine W_seq ?_
    obtain ⟨x9, hx9, hF⟩ := bind_some hF
    refine W_region ?_
    refine L_mk (el := B) (r := RP.bool) (z0 := false) (zc := [.bool false]) rfl et_44 (by kernel_rfl) (fun w => rfl) rfl rfl hx9 hx.size ?_
    intro v11 w11 ho11 he11 hb11
    have h0_0 := RP.ext h0_0 he11
    have h0_1 := RP.ext h0_1 he11
    have h1 := RP.ext h1 he11
    have hb_g3 := Blk.ext hb_g3 he11
    have hx := ext_trans hx he11
    refine L_as (v := v11) rfl rfl ?_
    refine L_nil ?_
    refine W_seq ?_
    refine W_seq ?_
    refine W_region ?_
    refine L_mv (v := v1) rfl rfl ?_
    refine L_len (v := v1) rfl Try.underlying23 rfl h1 ?_
    refine L_mv (v := .int .i64 0) rfl rfl ?_
    refine L_nil ?_
    have hlen14 := len_le h1
    obtain ⟨j14, hL14, hF⟩ := bind_some hF
    obtain ⟨R14, hR14⟩ : ∃ R : Fr → World → Prop, R = fun f w_ => ∃ out_13 : List Bool, ∃ v13_out : Value, j14 = .nx out_13 ∧ f 6 = v13_out ∧ Own RP.bool 4 w.heap.size B w_ v13_out out_13 ∧ Ext w w_ := ⟨_, rfl⟩
    refine W_join R14 ?_ ?_
    ·
      refine W_block ?_
      obtain ⟨I14, hI14⟩ : ∃ I : Nat → Fr → World → Prop, I = fun n f w_ => ∃ i_12 : Nat, ∃ suf14 : List Int, ∃ out_13 : List Bool, ∃ v13_out : Value, n = suf14.length ∧ List.drop i_12 cells = suf14 ∧ i_12 + suf14.length = cells.length ∧ rangeL (i_EncodeCells_b1 m) suf14 i_12 out_13 = some j14 ∧ f 2 = .pointer (some ⟨g3, 0, none⟩) ∧ f 6 = v13_out ∧ f 14 = v1 ∧ f 15 = .int .i64 (cells.length : Int) ∧ f 16 = .int .i64 (i_12 : Int) ∧ Own RP.bool 4 w.heap.size B w_ v13_out out_13 ∧ (RP.slice 3 RP.int).rel B w.heap.size w_ [v1] cells ∧ (RP.slice 3 RP.int).rel B w.heap.size w_ [v0_0] m.sizes ∧ (RP.slice 36 (rRule 3 23)).rel B w.heap.size w_ [v0_1] m.rules ∧ Blk w_ g3 26 #[v0_0, v0_1] ∧ Ext w w_ := ⟨_, rfl⟩
      refine W_loop I14 (n := cells.length) ?_ ?_
      · rw [hI14]; exact ⟨0, cells, x9, v11, rfl, rfl, Nat.zero_add _, hL14, rfl, rfl, rfl, rfl, rfl, ho11, h1, h0_0, h0_1, hb_g3, hx⟩
      ·
        intro n14 f w_ hI
        rw [hI14] at hI
        obtain ⟨i_12, suf14, out_13, v13_out, rfl, hd14, hl14, hL14, sf2, sf6, sf14, sf15, sf16, hv13_out, h1, h0_0, h0_1, hb_g3, hx⟩ := hI
        refine W_seq ?_
        refine W_region ?_
        refine L_lss (m := (i_12 : Int)) (n := (cells.length : Int)) rfl sf16 sf15 ?_
        refine L_nil ?_
        refine W_seq ?_
        refine W_cond (b := decide ((i_12 : Int) < (cells.length : Int))) rfl (fun hc15 => ?_) (fun hc15 => ?_)
        ·
          have hlt14 := of_decide_eq_true hc15
          cases suf14 with
          | nil => exact absurd hlt14 (by simp at hl14; omega)
          | cons x_14 rest14 =>
            obtain ⟨o14, hB14, hL14⟩ := range_cons hL14
            rw [i_EncodeCells_b1] at hB14
            have hix14 := drop_idx hd14
            refine W_skip ?_
            refine W_seq ?_
            refine W_block ?_
            refine W_seq ?_
            refine W_region ?_
            refine L_mv (v := .int .i64 (i_12 : Int)) rfl sf16 ?_
            refine L_ix (r := RP.int) rfl Try.underlying23 Try.sizeOf3 sf14 h1 sf16 hix14 ?_
            intro g18 o19 cs19 hr19 hat19
            obtain rfl : _ = [_] := hr19
            refine L_ld (v := .int .i64 x_14) rfl Try.isAgg3 rfl (hat19.cell (j := 0) rfl) ?_
            refine L_as (v := .int .i64 (i_12 : Int)) rfl rfl ?_
            refine L_as (v := .int .i64 x_14) rfl rfl ?_
            refine L_nil ?_
            obtain ⟨x20, hx20, hB14⟩ := bind_some hB14
            obtain ⟨x22, hx22, hB14⟩ := bind_some hB14
            refine W_region ?_
            refine L_mv (v := v13_out) rfl sf6 ?_
            refine L_lda (cs := [v0_0, v0_1]) rfl Try.isAgg26 Try.sizeOf26 sf2 (Blk.sub hb_g3 0 2) rfl ?_
            refine L_mv (v := .int .i64 (i_12 : Int)) rfl rfl ?_
            refine L_mv (v := .int .i64 x_14) rfl rfl ?_
            refine L_call (args := #[.agg #[v0_0, v0_1], .int .i64 (i_12 : Int), .int .i64 x_14]) rfl Try.call51 (ops3 rfl rfl rfl) (i_Model_boolVar_c (m := m) (cell := (i_12 : Int)) (value := x_14) (Nat.le_trans hB hx.size) (rel0 h0_0) (rel0 h0_1) hx20) ?_
            rintro _ w26 ⟨rfl, he26⟩
            have hv13_out := Own.ext hv13_out he26
            have h1 := RP.ext h1 he26
            have h0_0 := RP.ext h0_0 he26
            have h0_1 := RP.ext h0_1 he26
            have hb_g3 := Blk.ext hb_g3 he26
            have hx := ext_trans hx he26
            refine L_sub (m := x20) (n := 1) rfl rfl rfl ?_
            refine L_ixo (r := RP.bool) rfl et_44 rfl hv13_out rfl hx22 ?_
            intro g27 c28 cs28 hg28 hl28 hc28 hr28 hj28
            obtain rfl : cs28 = [_] := hr28
            refine L_st (v := .bool true) rfl Try.sizeOf4 rfl rfl rfl hc28 (hj28 0 _ rfl) ?_
            intro w29 hp29
            have hv13_out_n : Own RP.bool 4 _ B w29 _ (out_13.set (Int.toNat (i64 (x20 - 1))) true) := own_set hv13_out hg28 rfl (by decide) (idx_some hx22).2.2 hc28 hp29 rfl hB
            have h1 := hp29.mu.rel h1 (by decide) (Nat.le_trans hB hl28)
            have h0_0 := hp29.mu.rel h0_0 (by decide) (Nat.le_trans hB hl28)
            have h0_1 := hp29.mu.rel h0_1 (by decide) (Nat.le_trans hB hl28)
            have hb_g3 := hp29.mu.blk hb_g3 (by decide)
            have hx := ext_mut hx hp29.mu hl28
            have hv13_out := hv13_out_n
            refine L_nil ?_
            refine W_region ?_
            refine L_add (m := (i_12 : Int)) (n := 1) rfl sf16 rfl ?_
            refine L_mv (v := .int .i64 (i64 ((i_12 : Int) + 1))) rfl rfl ?_
            refine L_nil ?_
            obtain rfl := so hB14
            show ∃ m, m < _ ∧ I14 m _ _
            refine ⟨rest14.length, by simp, ?_⟩
            rw [hI14]
            exact ⟨i_12 + 1, rest14, (out_13.set (Int.toNat (i64 (x20 - 1))) true), v13_out, rfl, drop_next hd14, by simp at hl14; omega, hL14, sf2, sf6, sf14, sf15, (Eq.trans rfl (congrArg (Value.int .i64) (i64_succ (n := cells.length) (by simp at hl14; omega) hlen14))), hv13_out, h1, h0_0, h0_1, hb_g3, hx⟩
        ·
          cases suf14 with
          | cons _ _ => exact absurd (of_decide_eq_false hc15) (by simp at hl14; omega)
          | nil =>
            obtain rfl := range_nil hL14
            refine W_exit ?_
            show R14 _ _
            rw [hR14]
            exact ⟨out_13, v13_out, rfl, sf6, hv13_out, hx⟩
    ·
      intro f w_ hR
      rw [hR14] at hR
      obtain ⟨out_13, v13_out, rfl, sf6, hv13_out, hx⟩ := hR
      clear hR14
      refine W_seq ?_
      refine W_region ?_
      refine L_mv (v := v13_out) rfl sf6 ?_
      refine L_as (v := v13_out) rfl rfl ?_
      refine L_as (v := .bool true) rfl rfl ?_
      refine L_nil ?_
      refine W_ret ?_
      obtain rfl := so hF
      refine ret2 Try.results33 ?_
      exact ⟨⟨v13_out, (tup2_eq rfl rfl), hv13_out⟩, hx⟩

theorem l_FnDecodeValues_c {fu : Nat} {code : List UInt8} {v0 : Value} {w : World} {B : Nat} (hB : B ≤ w.heap.size) (h0 : (RP.slice 5 RP.u8).rel B w.heap.size w [v0] code) {r : Bool} (hF : l_FnDecodeValues fu code = some r) :
    C Try.prog 10 #[v0] w fun v w' => (v = .bool r) ∧ Ext w w' := by
  unfold l_FnDecodeValues at hF
  have hx := ext_refl w
  refine C_enter Try.func10 rfl Try.ntmps10 rfl ?_
  refine W_seq ?_
  refine W_region ?_
  refine L_as (v := .bool false) rfl rfl ?_
  refine L_nil ?_
  refine W_seq ?_
  refine W_seq ?_
  refine W_region ?_
  refine L_mv (v := v0) rfl rfl ?_
  refine L_len (v := v0) rfl Try.underlying22 rfl h0 ?_
  refine L_gtr (m := (code.length : Int)) (n := 1048576) rfl rfl rfl ?_
  refine L_nil ?_
  refine W_cond (b := decide ((code.length : Int) > 1048576)) rfl (fun hc1 => ?_) (fun hc1 => ?_)
  ·
    have hF := (ite_t hc1).symm.trans hF
    refine W_seq ?_
    refine W_region ?_
    refine L_as (v := .bool true) rfl rfl ?_
    refine L_nil ?_
    refine W_ret ?_
    obtain rfl := so hF
    refine ret1 Try.results10 ?_
    exact ⟨rfl, hx⟩
  ·
    have hF := (ite_f hc1).symm.trans hF
    refine W_skip ?_
    refine W_seq ?_
    obtain ⟨hx2, hF⟩ := anyB_some hF
    refine W_region ?_
    refine L_mv (v := v0) rfl rfl ?_
    refine L_call (args := #[v0]) rfl Try.call29 (ops1 rfl) (s_DrawDecodeValues_c (code := code) (Nat.le_trans hB hx.size) (rel0 h0) hx2) ?_
    rintro _ w7 ⟨⟨x2, gd7, ⟨r7_0, r7_1, r7_2, rfl, hr7_0, hr7_1, hr7_2⟩⟩, he7⟩
    have hF := hF x2 gd7
    have h0 := RP.ext h0 he7
    have hx := ext_trans hx he7
    refine L_mv (v := .tuple #[.agg #[r7_0, r7_1], r7_2]) rfl rfl ?_
    refine L_ex (v := .agg #[r7_0, r7_1]) rfl rfl rfl ?_
    refine L_ex (v := r7_2) rfl rfl rfl ?_
    refine L_al (cs := #[(.slice none 0 0), (.slice none 0 0)]) rfl Try.zeroValue26 rfl ?_
    intro g8 w9 hn9
    have hge_g8 := hn9.geS hx.size
    have hb_g8 := hn9.blk
    have hr7_0 := RP.ext hr7_0 hn9.ext
    have hr7_1 := RP.ext hr7_1 hn9.ext
    have hr7_2 := RP.ext hr7_2 hn9.ext
    have hx := ext_trans hx hn9.ext
    refine L_sta (vs := #[r7_0, r7_1]) rfl Try.sizeOf26 rfl rfl rfl (ones_cons (one_of hr7_0) (ones_cons (one_of hr7_1) ones_nil)) hb_g8 rfl ?_
    intro w10 hp10
    have hr7_0 := hp10.mu.rel hr7_0 (by decide) (Nat.le_trans hB hge_g8)
    have hr7_1 := hp10.mu.rel hr7_1 (by decide) (Nat.le_trans hB hge_g8)
    have hr7_2 := hp10.mu.rel hr7_2 (by decide) (Nat.le_trans hB hge_g8)
    have hx := ext_mut hx hp10.mu hge_g8
    have hb_g8 : Blk w10 g8 26 #[r7_0, r7_1] := hp10.blk
    refine L_as (v := r7_2) rfl rfl ?_
    refine L_nil ?_
    refine W_seq ?_
    obtain ⟨x11, hx11, hF⟩ := bind_some hF
    refine W_region ?_
    refine L_lda (cs := [r7_0, r7_1]) rfl Try.isAgg26 Try.sizeOf26 rfl (Blk.sub hb_g8 0 2) rfl ?_
    refine L_mv (v := r7_2) rfl rfl ?_
    refine L_call (args := #[.agg #[r7_0, r7_1], r7_2]) rfl Try.call30 (ops2 rfl rfl) (i_DecodeValues_c (m := x2.1) (values := x2.2) (Nat.le_trans hB hx.size) (rel0 hr7_0) (rel0 hr7_1) (rel0 hr7_2) hx11) ?_
    rintro _ w13 ⟨⟨r13_0, rfl, hr13_0⟩, he13⟩
    have hr13_0 : Own _ _ w.heap.size B _ _ _ := hr13_0.wide hx.size (Nat.le_refl _)
    have hr7_0 := RP.ext hr7_0 he13
    have hr7_1 := RP.ext hr7_1 he13
    have hr7_2 := RP.ext hr7_2 he13
    have hb_g8 := Blk.ext hb_g8 he13
    have hx := ext_trans hx he13
    refine L_mv (v := .tuple #[r13_0, .bool x11.2]) rfl rfl ?_
    refine L_ex (v := r13_0) rfl rfl rfl ?_
    refine L_ex (v := .bool x11.2) rfl rfl rfl ?_
    refine L_as (v := r13_0) rfl rfl ?_
    refine L_as (v := .bool x11.2) rfl rfl ?_
    refine L_nil ?_
    refine W_seq ?_
    obtain ⟨x14, hx14, hF⟩ := bind_some hF
    refine W_region ?_
    refine L_lda (cs := [r7_0, r7_1]) rfl Try.isAgg26 Try.sizeOf26 rfl (Blk.sub hb_g8 0 2) rfl ?_
    refine L_mv (v := r7_2) rfl rfl ?_
    refine L_call (args := #[.agg #[r7_0, r7_1], r7_2]) rfl Try.call31 (ops2 rfl rfl) (s_DecodeValues_c (m := x2.1) (values := x2.2) (Nat.le_trans hB hx.size) (rel0 hr7_0) (rel0 hr7_1) (rel0 hr7_2) hx14) ?_
    rintro _ w17 ⟨⟨r17_0, rfl, hr17_0⟩, he17⟩
    have ap18 := ap_oc hr13_0 hr17_0
    have hr17_0 : Own _ _ w.heap.size B _ _ _ := hr17_0.wide hx.size (Nat.le_refl _)
    have hr7_0 := RP.ext hr7_0 he17
    have hr7_1 := RP.ext hr7_1 he17
    have hr7_2 := RP.ext hr7_2 he17
    have hb_g8 := Blk.ext hb_g8 he17
    have hr13_0 := Own.ext hr13_0 he17
    have hx := ext_trans hx he17
    refine L_mv (v := .tuple #[r17_0, .bool x14.2]) rfl rfl ?_
    refine L_ex (v := r17_0) rfl rfl rfl ?_
    refine L_ex (v := .bool x14.2) rfl rfl rfl ?_
    refine L_as (v := r17_0) rfl rfl ?_
    refine L_as (v := .bool x14.2) rfl rfl ?_
    refine L_nil ?_
    refine W_seq ?_
    refine W_seq ?_
    obtain ⟨b21, hb21, hF⟩ := bind_some hF
    obtain ⟨R22, hR22⟩ : ∃ R : Fr → World → Prop, R = fun f w_ => f 3 = .pointer (some ⟨g8, 0, none⟩) ∧ f 4 = r7_2 ∧ f 5 = r13_0 ∧ f 6 = .bool x11.2 ∧ f 7 = r17_0 ∧ f 8 = .bool x14.2 ∧ f 46 = .bool (b21 || (!x11.2)) ∧ (RP.slice 4 RP.bool).rel B w_.heap.size w_ [r7_2] x2.2 ∧ Own RP.int 3 w.heap.size B w_ r13_0 x11.1 ∧ Own RP.int 3 w.heap.size B w_ r17_0 x14.1 ∧ (RP.slice 3 RP.int).rel B w_.heap.size w_ [r7_0] x2.1.sizes ∧ (RP.slice 36 (rRule 3 23)).rel B w_.heap.size w_ [r7_1] x2.1.rules ∧ Blk w_ g8 26 #[r7_0, r7_1] ∧ Ext w w_ := ⟨_, rfl⟩
    refine W_join R22 ?_ ?_
    ·
      refine W_region ?_
      refine L_mv (v := .bool x11.2) rfl rfl ?_
      refine L_mv (v := .bool x14.2) rfl rfl ?_
      refine L_bneq (b := x11.2) (c := x14.2) rfl Try.underlying4 rfl rfl ?_
      refine L_mv (v := .bool (x11.2 != x14.2)) rfl rfl ?_
      refine L_split (d := 37) (b := (x11.2 != x14.2)) rfl (fun hc23 => ?_) (fun hc23 => ?_)
      ·
        rw [ite_t hc23] at hb21
        refine L_pass rfl ?_
        refine L_pass rfl ?_
        refine L_pass rfl ?_
        refine L_pass rfl ?_
        refine L_pick (v := .bool b21) rfl rfl (congrArg Value.bool (so hb21)) ?_
        refine L_mv (v := .bool b21) rfl rfl ?_
        refine L_split (d := 43) (b := b21) rfl (fun hc24 => ?_) (fun hc24 => ?_)
        ·
          refine L_pass rfl ?_
          refine L_pass rfl ?_
          refine L_pick (v := .bool (b21 || (!x11.2))) rfl rfl (or_t hc24) ?_
          refine L_nil ?_
          show R22 _ _
          rw [hR22]
          exact ⟨rfl, rfl, rfl, rfl, rfl, rfl, rfl, (rel0 hr7_2), hr13_0, hr17_0, (rel0 hr7_0), (rel0 hr7_1), hb_g8, hx⟩
        ·
          refine L_mv (v := .bool x11.2) rfl rfl ?_
          refine L_not_ (b := x11.2) rfl rfl ?_
          refine L_pick (v := .bool (b21 || (!x11.2))) rfl rfl (or_f hc24 rfl) ?_
          refine L_nil ?_
          show R22 _ _
          rw [hR22]
          exact ⟨rfl, rfl, rfl, rfl, rfl, rfl, rfl, (rel0 hr7_2), hr13_0, hr17_0, (rel0 hr7_0), (rel0 hr7_1), hb_g8, hx⟩
      ·
        rw [ite_f hc23] at hb21
        obtain ⟨x19, hx19, hb21⟩ := bind_some hb21
        refine L_mv (v := r13_0) rfl rfl ?_
        refine L_mv (v := r17_0) rfl rfl ?_
        refine L_call (args := #[r13_0, r17_0]) rfl Try.call32 (ops2 rfl rfl) (l_cpInts_c (a := x11.1) (b := x14.1) (Nat.le_trans hB hx.size) (rel0 (Own.rel hr13_0)) (rel0 (Own.rel hr17_0)) hx19) ?_
        rintro _ w25 ⟨rfl, he25⟩
        have hr7_0 := RP.ext hr7_0 he25
        have hr7_1 := RP.ext hr7_1 he25
        have hr7_2 := RP.ext hr7_2 he25
        have hb_g8 := Blk.ext hb_g8 he25
        have hr13_0 := Own.ext hr13_0 he25
        have hr17_0 := Own.ext hr17_0 he25
        have hx := ext_trans hx he25
        refine L_not_ (b := x19) rfl rfl ?_
        refine L_pick (v := .bool b21) rfl rfl (congrArg Value.bool (so hb21)) ?_
        refine L_mv (v := .bool b21) rfl rfl ?_
        refine L_split (d := 43) (b := b21) rfl (fun hc26 => ?_) (fun hc26 => ?_)
        ·
          refine L_pass rfl ?_
          refine L_pass rfl ?_
          refine L_pick (v := .bool (b21 || (!x11.2))) rfl rfl (or_t hc26) ?_
          refine L_nil ?_
          show R22 _ _
          rw [hR22]
          exact ⟨rfl, rfl, rfl, rfl, rfl, rfl, rfl, (rel0 hr7_2), hr13_0, hr17_0, (rel0 hr7_0), (rel0 hr7_1), hb_g8, hx⟩
        ·
          refine L_mv (v := .bool x11.2) rfl rfl ?_
          refine L_not_ (b := x11.2) rfl rfl ?_
          refine L_pick (v := .bool (b21 || (!x11.2))) rfl rfl (or_f hc26 rfl) ?_
          refine L_nil ?_
          show R22 _ _
          rw [hR22]
          exact ⟨rfl, rfl, rfl, rfl, rfl, rfl, rfl, (rel0 hr7_2), hr13_0, hr17_0, (rel0 hr7_0), (rel0 hr7_1), hb_g8, hx⟩
    ·
      intro f w_ hR
      rw [hR22] at hR
      obtain ⟨sf3, sf4, sf5, sf6, sf7, sf8, sf46, hr7_2, hr13_0, hr17_0, hr7_0, hr7_1, hb_g8, hx⟩ := hR
      clear hR22
      refine W_cond (b := (b21 || (!x11.2))) sf46 (fun hc27 => ?_) (fun hc27 => ?_)
      ·
        have hF := (ite_t hc27).symm.trans hF
        refine W_seq ?_
        obtain ⟨b30, hb30, hF⟩ := bind_some hF
        obtain ⟨R31, hR31⟩ : ∃ R : Fr → World → Prop, R = fun f w_ => f 2 = .bool b30 ∧ Ext w w_ := ⟨_, rfl⟩
        refine W_join R31 ?_ ?_
        ·
          refine W_region ?_
          refine L_mv (v := .bool x11.2) rfl sf6 ?_
          refine L_mv (v := .bool x14.2) rfl sf8 ?_
          refine L_beql (b := x11.2) (c := x14.2) rfl Try.underlying4 rfl rfl ?_
          refine L_mv (v := .bool (x11.2 == x14.2)) rfl rfl ?_
          refine L_split (d := 50) (b := (x11.2 == x14.2)) rfl (fun hc32 => ?_) (fun hc32 => ?_)
          ·
            rw [ite_t hc32] at hb30
            obtain ⟨x28, hx28, hb30⟩ := bind_some hb30
            refine L_mv (v := r13_0) rfl sf5 ?_
            refine L_mv (v := r17_0) rfl sf7 ?_
            refine L_call (args := #[r13_0, r17_0]) rfl Try.call32 (ops2 rfl rfl) (l_cpInts_c (a := x11.1) (b := x14.1) (Nat.le_trans hB hx.size) (rel0 (Own.rel hr13_0)) (rel0 (Own.rel hr17_0)) hx28) ?_
            rintro _ w33 ⟨rfl, he33⟩
            have hr13_0 := Own.ext hr13_0 he33
            have hr17_0 := Own.ext hr17_0 he33
            have hx := ext_trans hx he33
            refine L_pick (v := .bool b30) rfl rfl (congrArg Value.bool (so hb30)) ?_
            refine L_as (v := .bool b30) rfl rfl ?_
            refine L_nil ?_
            show R31 _ _
            rw [hR31]
            exact ⟨rfl, hx⟩
          ·
            rw [ite_f hc32] at hb30
            refine L_pass rfl ?_
            refine L_pass rfl ?_
            refine L_pass rfl ?_
            refine L_pick (v := .bool b30) rfl rfl (congrArg Value.bool (so hb30)) ?_
            refine L_as (v := .bool b30) rfl rfl ?_
            refine L_nil ?_
            show R31 _ _
            rw [hR31]
            exact ⟨rfl, hx⟩
        ·
          intro f w_ hR
          rw [hR31] at hR
          obtain ⟨sf2, hx⟩ := hR
          clear hR31
          refine W_ret ?_
          obtain rfl := so hF
          refine ret1 Try.results10 ?_
          exact ⟨sf2, hx⟩
      ·
        have hF := (ite_f hc27).symm.trans hF
        refine W_skip ?_
        refine W_seq ?_
        obtain ⟨x34, hx34, hF⟩ := bind_some hF
        refine W_region ?_
        refine L_lda (cs := [r7_0, r7_1]) rfl Try.isAgg26 Try.sizeOf26 sf3 (Blk.sub hb_g8 0 2) rfl ?_
        refine L_mv (v := r13_0) rfl sf5 ?_
        refine L_call (args := #[.agg #[r7_0, r7_1], r13_0]) rfl Try.call33 (ops2 rfl rfl) (i_EncodeCells_c (m := x2.1) (cells := x11.1) (Nat.le_trans hB hx.size) (rel0 hr7_0) (rel0 hr7_1) (rel0 (Own.rel hr13_0)) hx34) ?_
        rintro _ w36 ⟨⟨r36_0, rfl, hr36_0⟩, he36⟩
        have hr36_0 : Own _ _ w.heap.size B _ _ _ := hr36_0.wide hx.size (Nat.le_refl _)
        have hr7_2 := RP.ext hr7_2 he36
        have hr13_0 := Own.ext hr13_0 he36
        have hr7_0 := RP.ext hr7_0 he36
        have hr7_1 := RP.ext hr7_1 he36
        have hb_g8 := Blk.ext hb_g8 he36
        have hx := ext_trans hx he36
        refine L_mv (v := .tuple #[r36_0, .bool x34.2]) rfl rfl ?_
        refine L_ex (v := r36_0) rfl rfl rfl ?_
        refine L_ex (v := .bool x34.2) rfl rfl rfl ?_
        refine L_as (v := r36_0) rfl rfl ?_
        refine L_as (v := .bool x34.2) rfl rfl ?_
        refine L_nil ?_
        refine W_seq ?_
        refine W_seq ?_
        refine W_region ?_
        refine L_as (v := .int .i64 0) rfl rfl ?_
        refine L_nil ?_
        obtain ⟨j40, hL40, hF⟩ := bind_some hF
        obtain ⟨R40, hR40⟩ : ∃ R : Fr → World → Prop, R = fun f w_ => ∃ i_39 : Int, j40 = .nx i_39 ∧ f 3 = .pointer (some ⟨g8, 0, none⟩) ∧ f 5 = r13_0 ∧ f 9 = r36_0 ∧ f 10 = .bool x34.2 ∧ Own RP.int 3 w.heap.size B w_ r13_0 x11.1 ∧ Own RP.bool 4 w.heap.size B w_ r36_0 x34.1 ∧ (RP.slice 3 RP.int).rel B w_.heap.size w_ [r7_0] x2.1.sizes ∧ (RP.slice 36 (rRule 3 23)).rel B w_.heap.size w_ [r7_1] x2.1.rules ∧ Blk w_ g8 26 #[r7_0, r7_1] ∧ Ext w w_ := ⟨_, rfl⟩
        refine W_join R40 ?_ ?_
        ·
          refine W_block ?_
          obtain ⟨I40, hI40⟩ : ∃ I : Nat → Fr → World → Prop, I = fun n f w_ => ∃ i_39 : Int, whileL (l_FnDecodeValues_b1 x2 x34) n i_39 = some j40 ∧ f 3 = .pointer (some ⟨g8, 0, none⟩) ∧ f 4 = r7_2 ∧ f 5 = r13_0 ∧ f 9 = r36_0 ∧ f 10 = .bool x34.2 ∧ f 11 = .int .i64 i_39 ∧ (RP.slice 4 RP.bool).rel B w_.heap.size w_ [r7_2] x2.2 ∧ Own RP.int 3 w.heap.size B w_ r13_0 x11.1 ∧ Own RP.bool 4 w.heap.size B w_ r36_0 x34.1 ∧ (RP.slice 3 RP.int).rel B w_.heap.size w_ [r7_0] x2.1.sizes ∧ (RP.slice 36 (rRule 3 23)).rel B w_.heap.size w_ [r7_1] x2.1.rules ∧ Blk w_ g8 26 #[r7_0, r7_1] ∧ Ext w w_ := ⟨_, rfl⟩
          refine W_loop I40 (n := fu) ?_ ?_
          · rw [hI40]; exact ⟨0, hL40, sf3, sf4, sf5, rfl, rfl, rfl, (rel0 hr7_2), hr13_0, hr36_0, (rel0 hr7_0), (rel0 hr7_1), hb_g8, hx⟩
          ·
            intro n40 f w_ hI
            rw [hI40] at hI
            obtain ⟨i_39, hL40, sf3, sf4, sf5, sf9, sf10, sf11, hr7_2, hr13_0, hr36_0, hr7_0, hr7_1, hb_g8, hx⟩ := hI
            cases n40 with
            | zero => exact (while_zero hL40).elim
            | succ n40 =>
              obtain ⟨o40, hB40, hL40⟩ := while_succ hL40
              rw [l_FnDecodeValues_b1] at hB40
              refine W_seq ?_
              refine W_seq ?_
              obtain ⟨x41, hx41, hB40⟩ := bind_some hB40
              obtain ⟨R43, hR43⟩ : ∃ R : Fr → World → Prop, R = fun f w_ => f 3 = .pointer (some ⟨g8, 0, none⟩) ∧ f 4 = r7_2 ∧ f 5 = r13_0 ∧ f 9 = r36_0 ∧ f 10 = .bool x34.2 ∧ f 11 = .int .i64 i_39 ∧ f 68 = .bool ((decide (i_39 < (i64 (12 - x41)))) && x34.2) ∧ (RP.slice 4 RP.bool).rel B w_.heap.size w_ [r7_2] x2.2 ∧ Own RP.int 3 w.heap.size B w_ r13_0 x11.1 ∧ Own RP.bool 4 w.heap.size B w_ r36_0 x34.1 ∧ (RP.slice 3 RP.int).rel B w_.heap.size w_ [r7_0] x2.1.sizes ∧ (RP.slice 36 (rRule 3 23)).rel B w_.heap.size w_ [r7_1] x2.1.rules ∧ Blk w_ g8 26 #[r7_0, r7_1] ∧ Ext w w_ := ⟨_, rfl⟩
              refine W_join R43 ?_ ?_
              ·
                refine W_region ?_
                refine L_mv (v := .int .i64 i_39) rfl sf11 ?_
                refine L_lda (cs := [r7_0, r7_1]) rfl Try.isAgg26 Try.sizeOf26 sf3 (Blk.sub hb_g8 0 2) rfl ?_
                refine L_call (args := #[.agg #[r7_0, r7_1]]) rfl Try.call16 (ops1 rfl) (i_FreeVars_c (m := x2.1) (Nat.le_trans hB hx.size) (rel0 hr7_0) (rel0 hr7_1) hx41) ?_
                rintro _ w44 ⟨rfl, he44⟩
                have hr7_2 := RP.ext hr7_2 he44
                have hr13_0 := Own.ext hr13_0 he44
                have hr36_0 := Own.ext hr36_0 he44
                have hr7_0 := RP.ext hr7_0 he44
                have hr7_1 := RP.ext hr7_1 he44
                have hb_g8 := Blk.ext hb_g8 he44
                have hx := ext_trans hx he44
                refine L_sub (m := 12) (n := x41) rfl rfl rfl ?_
                refine L_lss (m := i_39) (n := i64 (12 - x41)) rfl rfl rfl ?_
                refine L_mv (v := .bool (decide (i_39 < (i64 (12 - x41))))) rfl rfl ?_
                refine L_split (d := 66) (b := decide (i_39 < (i64 (12 - x41)))) rfl (fun hc45 => ?_) (fun hc45 => ?_)
                ·
                  refine L_mv (v := .bool x34.2) rfl sf10 ?_
                  refine L_pick (v := .bool ((decide (i_39 < (i64 (12 - x41)))) && x34.2)) rfl rfl (and_t hc45 rfl) ?_
                  refine L_nil ?_
                  show R43 _ _
                  rw [hR43]
                  exact ⟨sf3, sf4, sf5, sf9, sf10, sf11, rfl, (rel0 hr7_2), hr13_0, hr36_0, (rel0 hr7_0), (rel0 hr7_1), hb_g8, hx⟩
                ·
                  refine L_pass rfl ?_
                  refine L_pick (v := .bool ((decide (i_39 < (i64 (12 - x41)))) && x34.2)) rfl rfl (and_f hc45) ?_
                  refine L_nil ?_
                  show R43 _ _
                  rw [hR43]
                  exact ⟨sf3, sf4, sf5, sf9, sf10, sf11, rfl, (rel0 hr7_2), hr13_0, hr36_0, (rel0 hr7_0), (rel0 hr7_1), hb_g8, hx⟩
              ·
                intro f w_ hR
                rw [hR43] at hR
                obtain ⟨sf3, sf4, sf5, sf9, sf10, sf11, sf68, hr7_2, hr13_0, hr36_0, hr7_0, hr7_1, hb_g8, hx⟩ := hR
                clear hR43
                refine W_cond (b := ((decide (i_39 < (i64 (12 - x41)))) && x34.2)) sf68 (fun hc46 => ?_) (fun hc46 => ?_)
                ·
                  have hB40 := (ite_t hc46).symm.trans hB40
                  refine W_skip ?_
                  refine W_seq ?_
                  refine W_block ?_
                  refine W_seq ?_
                  obtain ⟨x47, hx47, hB40⟩ := bind_some hB40
                  obtain ⟨x50, hx50, hB40⟩ := bind_some hB40
                  refine W_drawL 8 [isV (r36_0), isV (.int .i64 i_39), isEl B RP.bool x47 0, isV (.bool x47), isV (r7_2), isV (.int .i64 i_39), isEl B RP.bool x50 0, isV (.bool x50)] Try_mix (by kernel_rfl) (am_cons (mono_V _) (am_cons (mono_V _) (am_cons (mono_el _ _ _ _) (am_cons (mono_V _) (am_cons (mono_V _) (am_cons (mono_V _) (am_cons (mono_el _ _ _ _) (am_cons (mono_V _) am_nil)))))))) ?_ (fun f w_ hS53 hE53 hT53 => ?_)
                  ·
                    refine ops_cons (fun f w_ hS53 hE53 hP53 => ?_) ?_
                    ·
                      have hx := ext_trans hx hE53
                      have hr36_0 := Own.ext hr36_0 hE53
                      refine L_mv (v := r36_0) rfl ((hS53 9 rfl).trans sf9) ?_
                      exact L_nil ⟨rfl, (ext_refl _), _, _, rfl, rfl, rfl⟩
                    refine ops_cons (fun f w_ hS53 hE53 hP53 => ?_) ?_
                    ·
                      have hx := ext_trans hx hE53
                      refine L_mv (v := .int .i64 i_39) rfl ((hS53 11 rfl).trans sf11) ?_
                      exact L_nil ⟨rfl, (ext_refl _), _, _, rfl, rfl, rfl⟩
                    refine ops_cons (fun f w_ hS53 hE53 hP53 => ?_) ?_
                    ·
                      have hx := ext_trans hx hE53
                      have hr36_0 := Own.ext hr36_0 hE53
                      refine L_ix (r := RP.bool) rfl Try.underlying44 Try.sizeOf4 (hP53 0 71 rfl rfl) (Own.rel hr36_0) (hP53 1 72 rfl rfl) hx47 ?_
                      intro g58 o59 cs59 hr59 hat59
                      obtain rfl : _ = [_] := hr59
                      exact L_nil ⟨rfl, (ext_refl _), _, _, rfl, rfl, ⟨_, _, _, rfl, rfl, hat59⟩⟩
                    refine ops_cons (fun f w_ hS53 hE53 hP53 => ?_) ?_
                    ·
                      have hx := ext_trans hx hE53
                      obtain ⟨g60, o60, cs60, hv60, hr60, hat60⟩ := (hP53 2 73 rfl rfl)
                      obtain rfl : _ = [_] := hr60
                      refine L_ld (v := .bool x47) rfl Try.isAgg4 hv60 (hat60.cell (j := 0) rfl) ?_
                      exact L_nil ⟨rfl, (ext_refl _), _, _, rfl, rfl, rfl⟩
                    refine ops_cons (fun f w_ hS53 hE53 hP53 => ?_) ?_
                    ·
                      have hx := ext_trans hx hE53
                      have hr7_2 := RP.ext hr7_2 hE53
                      refine L_mv (v := r7_2) rfl ((hS53 4 rfl).trans sf4) ?_
                      exact L_nil ⟨rfl, (ext_refl _), _, _, rfl, rfl, rfl⟩
                    refine ops_cons (fun f w_ hS53 hE53 hP53 => ?_) ?_
                    ·
                      have hx := ext_trans hx hE53
                      refine L_mv (v := .int .i64 i_39) rfl ((hS53 11 rfl).trans sf11) ?_
                      exact L_nil ⟨rfl, (ext_refl _), _, _, rfl, rfl, rfl⟩
                    refine ops_cons (fun f w_ hS53 hE53 hP53 => ?_) ?_
                    ·
                      have hx := ext_trans hx hE53
                      have hr7_2 := RP.ext hr7_2 hE53
                      refine L_ix (r := RP.bool) rfl Try.underlying44 Try.sizeOf4 (hP53 4 75 rfl rfl) hr7_2 (hP53 5 76 rfl rfl) hx50 ?_
                      intro g61 o62 cs62 hr62 hat62
                      obtain rfl : _ = [_] := hr62
                      exact L_nil ⟨rfl, (ext_refl _), _, _, rfl, rfl, ⟨_, _, _, rfl, rfl, hat62⟩⟩
                    refine ops_cons (fun f w_ hS53 hE53 hP53 => ?_) ?_
                    ·
                      have hx := ext_trans hx hE53
                      obtain ⟨g63, o63, cs63, hv63, hr63, hat63⟩ := (hP53 6 77 rfl rfl)
                      obtain rfl : _ = [_] := hr63
                      refine L_ld (v := .bool x50) rfl Try.isAgg4 hv63 (hat63.cell (j := 0) rfl) ?_
                      exact L_nil ⟨rfl, (ext_refl _), _, _, rfl, rfl, rfl⟩
                    exact ops_nil
                  ·
                    have hr7_2 := RP.ext hr7_2 hE53
                    have hr13_0 := Own.ext hr13_0 hE53
                    have hr36_0 := Own.ext hr36_0 hE53
                    have hr7_0 := RP.ext hr7_0 hE53
                    have hr7_1 := RP.ext hr7_1 hE53
                    have hb_g8 := Blk.ext hb_g8 hE53
                    have hx := ext_trans hx hE53
                    refine L_bneq (b := x47) (c := x50) rfl Try.underlying4 (hT53 3 74 rfl rfl) (hT53 7 78 rfl rfl) ?_
                    refine L_nil ?_
                    refine W_cond (b := (x47 != x50)) rfl (fun hc64 => ?_) (fun hc64 => ?_)
                    ·
                      have hB40 := (ite_t hc64).symm.trans hB40
                      refine W_seq ?_
                      refine W_region ?_
                      refine L_as (v := .bool false) rfl rfl ?_
                      refine L_nil ?_
                      refine W_ret ?_
                      obtain rfl := so hB40
                      obtain rfl := so hL40
                      obtain rfl := so hF
                      refine ret1 Try.results10 ?_
                      exact ⟨rfl, hx⟩
                    ·
                      have hB40 := (ite_f hc64).symm.trans hB40
                      refine W_skip ?_
                      refine W_region ?_
                      refine L_mv (v := .int .i64 i_39) rfl ((hS53 11 rfl).trans sf11) ?_
                      refine L_add (m := i_39) (n := 1) rfl rfl rfl ?_
                      refine L_as (v := .int .i64 (i64 (i_39 + 1))) rfl rfl ?_
                      refine L_nil ?_
                      obtain rfl := so hB40
                      show ∃ m, m < _ ∧ I40 m _ _
                      refine ⟨n40, Nat.lt_succ_self _, ?_⟩
                      rw [hI40]
                      exact ⟨i64 (i_39 + 1), hL40, ((hS53 3 rfl).trans sf3), ((hS53 4 rfl).trans sf4), ((hS53 5 rfl).trans sf5), ((hS53 9 rfl).trans sf9), ((hS53 10 rfl).trans sf10), rfl, (rel0 hr7_2), hr13_0, hr36_0, (rel0 hr7_0), (rel0 hr7_1), hb_g8, hx⟩
                ·
                  have hB40 := (ite_f hc46).symm.trans hB40
                  refine W_exit ?_
                  obtain rfl := so hB40
                  obtain rfl := so hL40
                  show R40 _ _
                  rw [hR40]
                  exact ⟨i_39, rfl, sf3, sf5, sf9, sf10, hr13_0, hr36_0, (rel0 hr7_0), (rel0 hr7_1), hb_g8, hx⟩
        ·
          intro f w_ hR
          rw [hR40] at hR
          obtain ⟨i_39, rfl, sf3, sf5, sf9, sf10, hr13_0, hr36_0, hr7_0, hr7_1, hb_g8, hx⟩ := hR
          clear hR40
          refine W_seq ?_
          obtain ⟨x65, hx65, hF⟩ := bind_some hF
          refine W_region ?_
          refine L_lda (cs := [r7_0, r7_1]) rfl Try.isAgg26 Try.sizeOf26 sf3 (Blk.sub hb_g8 0 2) rfl ?_
          refine L_mv (v := r36_0) rfl sf9 ?_
          refine L_call (args := #[.agg #[r7_0, r7_1], r36_0]) rfl Try.call30 (ops2 rfl rfl) (i_DecodeValues_c (m := x2.1) (values := x34.1) (Nat.le_trans hB hx.size) (rel0 hr7_0) (rel0 hr7_1) (rel0 (Own.rel hr36_0)) hx65) ?_
          rintro _ w68 ⟨⟨r68_0, rfl, hr68_0⟩, he68⟩
          have ap69 := ap_oc hr13_0 hr68_0
          have hr68_0 : Own _ _ w.heap.size B _ _ _ := hr68_0.wide hx.size (Nat.le_refl _)
          have hr13_0 := Own.ext hr13_0 he68
          have hr36_0 := Own.ext hr36_0 he68
          have hr7_0 := RP.ext hr7_0 he68
          have hr7_1 := RP.ext hr7_1 he68
          have hx := ext_trans hx he68
          refine L_mv (v := .tuple #[r68_0, .bool x65.2]) rfl rfl ?_
          refine L_ex (v := r68_0) rfl rfl rfl ?_
          refine L_ex (v := .bool x65.2) rfl rfl rfl ?_
          refine L_as (v := r68_0) rfl rfl ?_
          refine L_as (v := .bool x65.2) rfl rfl ?_
          refine L_nil ?_
          refine W_seq ?_
          obtain ⟨b72, hb72, hF⟩ := bind_some hF
          obtain ⟨R73, hR73⟩ : ∃ R : Fr → World → Prop, R = fun f w_ => f 2 = .bool b72 ∧ Ext w w_ := ⟨_, rfl⟩
          refine W_join R73 ?_ ?_
          ·
            refine W_region ?_
            refine L_mv (v := .bool x34.2) rfl sf10 ?_
            refine L_mv (v := .bool x34.2) rfl rfl ?_
            refine L_split (d := 87) (b := x34.2) rfl (fun hc74 => ?_) (fun hc74 => ?_)
            ·
              refine L_mv (v := .bool x65.2) rfl rfl ?_
              refine L_pick (v := .bool (x34.2 && x65.2)) rfl rfl (and_t hc74 rfl) ?_
              refine L_mv (v := .bool (x34.2 && x65.2)) rfl rfl ?_
              refine L_split (d := 90) (b := (x34.2 && x65.2)) rfl (fun hc75 => ?_) (fun hc75 => ?_)
              ·
                rw [ite_t hc75] at hb72
                obtain ⟨x70, hx70, hb72⟩ := bind_some hb72
                refine L_mv (v := r68_0) rfl rfl ?_
                refine L_mv (v := r13_0) rfl sf5 ?_
                refine L_call (args := #[r68_0, r13_0]) rfl Try.call32 (ops2 rfl rfl) (l_cpInts_c (a := x65.1) (b := x11.1) (Nat.le_trans hB hx.size) (rel0 (Own.rel hr68_0)) (rel0 (Own.rel hr13_0)) hx70) ?_
                rintro _ w76 ⟨rfl, he76⟩
                have hr13_0 := Own.ext hr13_0 he76
                have hr68_0 := Own.ext hr68_0 he76
                have hx := ext_trans hx he76
                refine L_pick (v := .bool b72) rfl rfl (congrArg Value.bool (so hb72)) ?_
                refine L_as (v := .bool b72) rfl rfl ?_
                refine L_nil ?_
                show R73 _ _
                rw [hR73]
                exact ⟨rfl, hx⟩
              ·
                rw [ite_f hc75] at hb72
                refine L_pass rfl ?_
                refine L_pass rfl ?_
                refine L_pass rfl ?_
                refine L_pick (v := .bool b72) rfl rfl (congrArg Value.bool (so hb72)) ?_
                refine L_as (v := .bool b72) rfl rfl ?_
                refine L_nil ?_
                show R73 _ _
                rw [hR73]
                exact ⟨rfl, hx⟩
            ·
              refine L_pass rfl ?_
              refine L_pick (v := .bool (x34.2 && x65.2)) rfl rfl (and_f hc74) ?_
              refine L_mv (v := .bool (x34.2 && x65.2)) rfl rfl ?_
              refine L_split (d := 90) (b := (x34.2 && x65.2)) rfl (fun hc77 => ?_) (fun hc77 => ?_)
              ·
                rw [ite_t hc77] at hb72
                obtain ⟨x70, hx70, hb72⟩ := bind_some hb72
                refine L_mv (v := r68_0) rfl rfl ?_
                refine L_mv (v := r13_0) rfl sf5 ?_
                refine L_call (args := #[r68_0, r13_0]) rfl Try.call32 (ops2 rfl rfl) (l_cpInts_c (a := x65.1) (b := x11.1) (Nat.le_trans hB hx.size) (rel0 (Own.rel hr68_0)) (rel0 (Own.rel hr13_0)) hx70) ?_
                rintro _ w78 ⟨rfl, he78⟩
                have hr13_0 := Own.ext hr13_0 he78
                have hr68_0 := Own.ext hr68_0 he78
                have hx := ext_trans hx he78
                refine L_pick (v := .bool b72) rfl rfl (congrArg Value.bool (so hb72)) ?_
                refine L_as (v := .bool b72) rfl rfl ?_
                refine L_nil ?_
                show R73 _ _
                rw [hR73]
                exact ⟨rfl, hx⟩
              ·
                rw [ite_f hc77] at hb72
                refine L_pass rfl ?_
                refine L_pass rfl ?_
                refine L_pass rfl ?_
                refine L_pick (v := .bool b72) rfl rfl (congrArg Value.bool (so hb72)) ?_
                refine L_as (v := .bool b72) rfl rfl ?_
                refine L_nil ?_
                show R73 _ _
                rw [hR73]
                exact ⟨rfl, hx⟩
          ·
            intro f w_ hR
            rw [hR73] at hR
            obtain ⟨sf2, hx⟩ := hR
            clear hR73
            refine W_ret ?_
            obtain rfl := so hF
            refine ret1 Try.results10 ?_
            exact ⟨sf2, hx⟩

end Go.Proofs.Ytcjjfneofcpmfaa

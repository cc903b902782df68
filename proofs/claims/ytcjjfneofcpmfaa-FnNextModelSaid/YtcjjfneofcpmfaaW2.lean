/- Part of a proof by program: W2. -/
import Derived.Test.YtcjjfneofcpmfaaD1
import Derived.Test.YtcjjfneofcpmfaaW1
namespace Go.Proofs.Ytcjjfneofcpmfaa
open Go Go.E Go.L Go.RowKit
set_option linter.unusedVariables false
set_option linter.unusedSimpArgs false
set_option maxRecDepth 100000

theorem s_l6Some_c {fu : Nat} {r_ : Rd} {m : Model} {least : Int} {g_r : Nat} {v_r : Value} {v1_0 : Value} {v1_1 : Value} {w : World} {B : Nat} (hB : B ≤ w.heap.size) (hb_g_r : Blk w g_r 86 #[v_r, .int .i64 r_.p]) (hrb : (RP.slice 5 RP.u8).rel B w.heap.size w [v_r] r_.b) (hrB : B ≤ g_r) (h1_0 : (RP.slice 3 RP.int).rel B w.heap.size w [v1_0] m.sizes) (h1_1 : (RP.slice 36 (rRule 3 23)).rel B w.heap.size w [v1_1] m.rules) {r : (List Int) × Int} (hF : s_l6Some fu r_ m least = some r) :
    C Try.prog 97 #[.pointer (some ⟨g_r, 0, none⟩), .agg #[v1_0, v1_1], .int .i64 least] w fun v w' => ((∃ u1 : Value, v = u1 ∧ Own RP.int 3 w.heap.size B w' u1 r.1) ∧ Blk w' g_r 86 #[v_r, .int .i64 r.2]) ∧ Mut g_r (some g_r) 86 w w' := by
  unfold s_l6Some at hF
  have hgl := hb_g_r.lt
  have hx := fr1_refl hb_g_r
  refine C_enter Try.func97 rfl Try.ntmps97 rfl ?_
  refine W_seq ?_
  refine W_region ?_
  refine L_box (v := .agg #[v1_0, v1_1]) (cs := #[v1_0, v1_1]) rfl rfl rfl ?_
  intro g3 w4 hn4
  have hge_g3 := hn4.geS hx.size
  have hb_g3 := hn4.blk
  have hrb := RP.ext hrb hn4.ext
  have hb_g_r := Blk.ext hb_g_r hn4.ext
  have h1_0 := RP.ext h1_0 hn4.ext
  have h1_1 := RP.ext h1_1 hn4.ext
  have hx := fr1_ext hx hn4.ext hgl
  refine L_as (v := (.slice none 0 0)) rfl rfl ?_
  refine L_nil ?_
  refine W_seq ?_
  refine W_region ?_
  refine L_bs rfl parts0 (bs_23_0  ) ?_
  intro g7 w8 hn8
  have ho8 : Own RP.int 3 w.heap.size B w8 _ _ := own_new0 hn8 hx.size
  have hz8 := zero_new hn8 hx.size
  have hrb := RP.ext hrb hn8.ext
  have hb_g_r := Blk.ext hb_g_r hn8.ext
  have h1_0 := RP.ext h1_0 hn8.ext
  have h1_1 := RP.ext h1_1 hn8.ext
  have hb_g3 := Blk.ext hb_g3 hn8.ext
  have hx := fr1_ext hx hn8.ext hgl
  refine L_as (v := (.slice (some ⟨g7, 0, none⟩) 0 0)) rfl rfl ?_
  refine L_nil ?_
  refine W_seq ?_
  refine W_seq ?_
  refine W_region ?_
  refine L_as (v := .int .i64 0) rfl rfl ?_
  refine L_nil ?_
  have hlen12 := len_le h1_0
  obtain ⟨j12, hL12, hF⟩ := bind_some hF
  obtain ⟨R12, hR12⟩ : ∃ R : Fr → World → Prop, R = fun f w_ => ∃ out_10 : List Int, ∃ g_r_1_11 : Int, ∃ v10_out : Value, j12 = .nx (out_10, g_r_1_11) ∧ f 0 = .pointer (some ⟨g_r, 0, none⟩) ∧ f 2 = .int .i64 least ∧ f 4 = .pointer (some ⟨g3, 0, none⟩) ∧ f 7 = v10_out ∧ Own RP.int 3 w.heap.size B w_ v10_out out_10 ∧ (RP.slice 5 RP.u8).rel B w.heap.size w_ [v_r] r_.b ∧ Blk w_ g_r 86 #[v_r, .int .i64 g_r_1_11] ∧ (RP.slice 3 RP.int).rel B w.heap.size w_ [v1_0] m.sizes ∧ (RP.slice 36 (rRule 3 23)).rel B w.heap.size w_ [v1_1] m.rules ∧ Blk w_ g3 26 #[v1_0, v1_1] ∧ Mut g_r (some g_r) 86 w w_ := ⟨_, rfl⟩
  refine W_join R12 ?_ ?_
  ·
    refine W_block ?_
    obtain ⟨I12, hI12⟩ : ∃ I : Nat → Fr → World → Prop, I = fun n f w_ => ∃ i_9 : Nat, ∃ suf12 : List Int, ∃ out_10 : List Int, ∃ g_r_1_11 : Int, ∃ v10_out : Value, n = suf12.length ∧ List.drop i_9 m.sizes = suf12 ∧ i_9 + suf12.length = m.sizes.length ∧ rangeL (s_l6Some_b1 r_) suf12 i_9 (out_10, g_r_1_11) = some j12 ∧ f 0 = .pointer (some ⟨g_r, 0, none⟩) ∧ f 2 = .int .i64 least ∧ f 4 = .pointer (some ⟨g3, 0, none⟩) ∧ f 7 = v10_out ∧ f 8 = .int .i64 (i_9 : Int) ∧ Own RP.int 3 w.heap.size B w_ v10_out out_10 ∧ (RP.slice 5 RP.u8).rel B w.heap.size w_ [v_r] r_.b ∧ Blk w_ g_r 86 #[v_r, .int .i64 g_r_1_11] ∧ (RP.slice 3 RP.int).rel B w.heap.size w_ [v1_0] m.sizes ∧ (RP.slice 36 (rRule 3 23)).rel B w.heap.size w_ [v1_1] m.rules ∧ Blk w_ g3 26 #[v1_0, v1_1] ∧ Mut g_r (some g_r) 86 w w_ := ⟨_, rfl⟩
    refine W_loop I12 (n := m.sizes.length) ?_ ?_
    · rw [hI12]; exact ⟨0, m.sizes, [], r_.p, (.slice (some ⟨g7, 0, none⟩) 0 0), rfl, rfl, Nat.zero_add _, hL12, rfl, rfl, rfl, rfl, rfl, ho8, hrb, hb_g_r, h1_0, h1_1, hb_g3, hx⟩
    ·
      intro n12 f w_ hI
      rw [hI12] at hI
      obtain ⟨i_9, suf12, out_10, g_r_1_11, v10_out, rfl, hd12, hl12, hL12, sf0, sf2, sf4, sf7, sf8, hv10_out, hrb, hb_g_r, h1_0, h1_1, hb_g3, hx⟩ := hI
      refine W_seq ?_
      refine W_seq ?_
      refine W_region ?_
      refine L_mv (v := .int .i64 (i_9 : Int)) rfl sf8 ?_
      refine L_fa (o' := 0) rfl fa_26_0 sf4 rfl ?_
      refine L_ld (v := v1_0) rfl Try.isAgg23 rfl (hb_g3.cell (j := 0) rfl) ?_
      refine L_len (v := v1_0) rfl Try.underlying23 rfl h1_0 ?_
      refine L_lss (m := (i_9 : Int)) (n := (m.sizes.length : Int)) rfl rfl rfl ?_
      refine L_nil ?_
      refine W_cond (b := decide ((i_9 : Int) < (m.sizes.length : Int))) rfl (fun hc13 => ?_) (fun hc13 => ?_)
      ·
        have hlt12 := of_decide_eq_true hc13
        cases suf12 with
        | nil => exact absurd hlt12 (by simp at hl12; omega)
        | cons x_12 rest12 =>
          obtain ⟨o12, hB12, hL12⟩ := range_cons hL12
          rw [s_l6Some_b1] at hB12
          have hix12 := drop_idx hd12
          refine W_skip ?_
          refine W_seq ?_
          refine W_block ?_
          refine W_seq ?_
          obtain ⟨x14, hx14, hB12⟩ := bind_some hB12
          refine W_region ?_
          refine L_mv (v := .pointer (some ⟨g_r, 0, none⟩)) rfl sf0 ?_
          refine L_call (args := #[.pointer (some ⟨g_r, 0, none⟩), .int .i64 3]) rfl Try.call70 (ops2 rfl rfl) (s_l17Rd_pick_c (r_ := ({ b := r_.b, p := g_r_1_11 } : Rd)) (n_ := 3) (Nat.le_trans hB hx.size) hb_g_r (rel0 hrb) hrB hx14) ?_
          rintro _ w16 ⟨⟨rfl, hbn16⟩, he16⟩
          have hv10_out := he16.ownT hv10_out (by decide) (by decide) hrB
          have hrb := he16.rel hrb (by decide) hrB
          have h1_0 := he16.rel h1_0 (by decide) hrB
          have h1_1 := he16.rel h1_1 (by decide) hrB
          have hb_g3 := he16.blk hb_g3 (by decide)
          have hx := fr1_trans hx he16
          have hb_g_r := hbn16
          refine L_gtr (m := x14.1) (n := 0) rfl rfl rfl ?_
          refine L_nil ?_
          obtain ⟨out_17, hA18, hB12⟩ := bind_some hB12
          obtain ⟨R18, hR18⟩ : ∃ R : Fr → World → Prop, R = fun f w_ => ∃ v17_out : Value, f 0 = .pointer (some ⟨g_r, 0, none⟩) ∧ f 2 = .int .i64 least ∧ f 4 = .pointer (some ⟨g3, 0, none⟩) ∧ f 7 = v17_out ∧ f 8 = .int .i64 (i_9 : Int) ∧ Own RP.int 3 w.heap.size B w_ v17_out out_17 ∧ (RP.slice 5 RP.u8).rel B w.heap.size w_ [v_r] r_.b ∧ Blk w_ g_r 86 #[v_r, .int .i64 x14.2] ∧ (RP.slice 3 RP.int).rel B w.heap.size w_ [v1_0] m.sizes ∧ (RP.slice 36 (rRule 3 23)).rel B w.heap.size w_ [v1_1] m.rules ∧ Blk w_ g3 26 #[v1_0, v1_1] ∧ Mut g_r (some g_r) 86 w w_ := ⟨_, rfl⟩
          refine W_join R18 ?_ ?_
          ·
            refine W_cond (b := decide (x14.1 > 0)) rfl (fun hc19 => ?_) (fun hc19 => ?_)
            ·
              have hA18 := (ite_t hc19).symm.trans hA18
              obtain ⟨x23, hx23, hA18⟩ := bind_some hA18
              refine W_region ?_
              refine L_mv (v := v10_out) rfl sf7 ?_
              refine L_mv (v := .int .i64 (i_9 : Int)) rfl sf8 ?_
              refine L_bs rfl (parts1 rfl) (bs_23_1_0 (.int .i64 (i_9 : Int)) rfl) ?_
              intro g26 w27 hn27
              have ho27 : Own RP.int 3 w.heap.size B w27 _ [(i_9 : Int)] := own_new1 hn27 hx.size rfl
              have ap28 := ap_ob hv10_out hn27
              have hv10_out := Own.ext hv10_out hn27.ext
              have hrb := RP.ext hrb hn27.ext
              have hb_g_r := Blk.ext hb_g_r hn27.ext
              have h1_0 := RP.ext h1_0 hn27.ext
              have h1_1 := RP.ext h1_1 hn27.ext
              have hb_g3 := Blk.ext hb_g3 hn27.ext
              have hx := fr1_ext hx hn27.ext hgl
              refine L_app (v := v10_out) (u := (.slice (some ⟨g26, 0, none⟩) 1 1)) rfl et_23 (by decide) rfl rfl hv10_out (rel0 (Own.rel ho27)) hx23 hx.size hB ?_
              intro v29 w29 ho29 hm29 hb29
              have hrb := hm29.rel hrb (by decide) (Nat.le_trans hB (Nat.le_refl _))
              have hb_g_r := hm29.blk hb_g_r (by decide)
              have h1_0 := hm29.rel_lo h1_0 (Nat.le_refl _)
              have h1_1 := hm29.rel_lo h1_1 (Nat.le_refl _)
              have hb_g3 := hm29.blk hb_g3 (by decide)
              have hx := fr1_mut hx hm29 (Nat.le_refl _) hgl
              refine L_as (v := v29) rfl rfl ?_
              refine L_nil ?_
              obtain rfl := so hA18
              show R18 _ _
              rw [hR18]
              exact ⟨v29, sf0, sf2, sf4, rfl, sf8, ho29, hrb, hb_g_r, h1_0, h1_1, hb_g3, hx⟩
            ·
              have hA18 := (ite_f hc19).symm.trans hA18
              refine W_skip ?_
              obtain rfl := so hA18
              show R18 _ _
              rw [hR18]
              exact ⟨v10_out, sf0, sf2, sf4, sf7, sf8, hv10_out, hrb, hb_g_r, h1_0, h1_1, hb_g3, hx⟩
          ·
            intro f w_ hR
            rw [hR18] at hR
            obtain ⟨v17_out, sf0, sf2, sf4, sf7, sf8, hv17_out, hrb, hb_g_r, h1_0, h1_1, hb_g3, hx⟩ := hR
            clear hR18
            refine W_region ?_
            refine L_mv (v := .int .i64 (i_9 : Int)) rfl sf8 ?_
            refine L_add (m := (i_9 : Int)) (n := 1) rfl rfl rfl ?_
            refine L_as (v := .int .i64 (i64 ((i_9 : Int) + 1))) rfl rfl ?_
            refine L_nil ?_
            obtain rfl := so hB12
            show ∃ m, m < _ ∧ I12 m _ _
            refine ⟨rest12.length, by simp, ?_⟩
            rw [hI12]
            exact ⟨i_9 + 1, rest12, out_17, x14.2, v17_out, rfl, drop_next hd12, by simp at hl12; omega, hL12, sf0, sf2, sf4, sf7, (Eq.trans rfl (congrArg (Value.int .i64) (i64_succ (n := m.sizes.length) (by simp at hl12; omega) hlen12))), hv17_out, hrb, hb_g_r, h1_0, h1_1, hb_g3, hx⟩
      ·
        cases suf12 with
        | cons _ _ => exact absurd (of_decide_eq_false hc13) (by simp at hl12; omega)
        | nil =>
          obtain rfl := range_nil hL12
          refine W_exit ?_
          show R12 _ _
          rw [hR12]
          exact ⟨out_10, g_r_1_11, v10_out, rfl, sf0, sf2, sf4, sf7, hv10_out, hrb, hb_g_r, h1_0, h1_1, hb_g3, hx⟩
  ·
    intro f w_ hR
    rw [hR12] at hR
    obtain ⟨out_10, g_r_1_11, v10_out, rfl, sf0, sf2, sf4, sf7, hv10_out, hrb, hb_g_r, h1_0, h1_1, hb_g3, hx⟩ := hR
    clear hR12
    refine W_seq ?_
    refine W_seq ?_
    refine W_region ?_
    refine L_as (v := .int .i64 0) rfl rfl ?_
    refine L_nil ?_
    obtain ⟨j35, hL35, hF⟩ := bind_some hF
    obtain ⟨R35, hR35⟩ : ∃ R : Fr → World → Prop, R = fun f w_ => ∃ out_33 : List Int, ∃ v_34 : Int, ∃ v33_out : Value, j35 = .nx (out_33, v_34) ∧ f 0 = .pointer (some ⟨g_r, 0, none⟩) ∧ f 2 = .int .i64 least ∧ f 7 = v33_out ∧ Own RP.int 3 w.heap.size B w_ v33_out out_33 ∧ (RP.slice 5 RP.u8).rel B w.heap.size w_ [v_r] r_.b ∧ Blk w_ g_r 86 #[v_r, .int .i64 g_r_1_11] ∧ Mut g_r (some g_r) 86 w w_ := ⟨_, rfl⟩
    refine W_join R35 ?_ ?_
    ·
      refine W_block ?_
      obtain ⟨I35, hI35⟩ : ∃ I : Nat → Fr → World → Prop, I = fun n f w_ => ∃ out_33 : List Int, ∃ v_34 : Int, ∃ v33_out : Value, whileL (s_l6Some_b2 m least) n (out_33, v_34) = some j35 ∧ f 0 = .pointer (some ⟨g_r, 0, none⟩) ∧ f 2 = .int .i64 least ∧ f 4 = .pointer (some ⟨g3, 0, none⟩) ∧ f 7 = v33_out ∧ f 9 = .int .i64 v_34 ∧ Own RP.int 3 w.heap.size B w_ v33_out out_33 ∧ (RP.slice 5 RP.u8).rel B w.heap.size w_ [v_r] r_.b ∧ Blk w_ g_r 86 #[v_r, .int .i64 g_r_1_11] ∧ (RP.slice 3 RP.int).rel B w.heap.size w_ [v1_0] m.sizes ∧ (RP.slice 36 (rRule 3 23)).rel B w.heap.size w_ [v1_1] m.rules ∧ Blk w_ g3 26 #[v1_0, v1_1] ∧ Mut g_r (some g_r) 86 w w_ := ⟨_, rfl⟩
      refine W_loop I35 (n := fu) ?_ ?_
      · rw [hI35]; exact ⟨out_10, 0, v10_out, hL35, sf0, sf2, sf4, sf7, rfl, hv10_out, hrb, hb_g_r, h1_0, h1_1, hb_g3, hx⟩
      ·
        intro n35 f w_ hI
        rw [hI35] at hI
        obtain ⟨out_33, v_34, v33_out, hL35, sf0, sf2, sf4, sf7, sf9, hv33_out, hrb, hb_g_r, h1_0, h1_1, hb_g3, hx⟩ := hI
        cases n35 with
        | zero => exact (while_zero hL35).elim
        | succ n35 =>
          obtain ⟨o35, hB35, hL35⟩ := while_succ hL35
          rw [s_l6Some_b2] at hB35
          refine W_seq ?_
          refine W_seq ?_
          obtain ⟨R36, hR36⟩ : ∃ R : Fr → World → Prop, R = fun f w_ => f 0 = .pointer (some ⟨g_r, 0, none⟩) ∧ f 2 = .int .i64 least ∧ f 4 = .pointer (some ⟨g3, 0, none⟩) ∧ f 7 = v33_out ∧ f 9 = .int .i64 v_34 ∧ f 37 = .bool ((decide ((out_33.length : Int) < least)) && (decide (v_34 < (m.sizes.length : Int)))) ∧ Own RP.int 3 w.heap.size B w_ v33_out out_33 ∧ (RP.slice 5 RP.u8).rel B w.heap.size w_ [v_r] r_.b ∧ Blk w_ g_r 86 #[v_r, .int .i64 g_r_1_11] ∧ (RP.slice 3 RP.int).rel B w.heap.size w_ [v1_0] m.sizes ∧ (RP.slice 36 (rRule 3 23)).rel B w.heap.size w_ [v1_1] m.rules ∧ Blk w_ g3 26 #[v1_0, v1_1] ∧ Mut g_r (some g_r) 86 w w_ := ⟨_, rfl⟩
          refine W_join R36 ?_ ?_
          ·
            refine W_region ?_
            refine L_mv (v := v33_out) rfl sf7 ?_
            refine L_len (v := v33_out) rfl Try.underlying23 rfl (Own.rel hv33_out) ?_
            refine L_mv (v := .int .i64 least) rfl sf2 ?_
            refine L_lss (m := (out_33.length : Int)) (n := least) rfl rfl rfl ?_
            refine L_mv (v := .bool (decide ((out_33.length : Int) < least))) rfl rfl ?_
            refine L_split (d := 31) (b := decide ((out_33.length : Int) < least)) rfl (fun hc37 => ?_) (fun hc37 => ?_)
            ·
              refine L_mv (v := .int .i64 v_34) rfl sf9 ?_
              refine L_fa (o' := 0) rfl fa_26_0 sf4 rfl ?_
              refine L_ld (v := v1_0) rfl Try.isAgg23 rfl (hb_g3.cell (j := 0) rfl) ?_
              refine L_len (v := v1_0) rfl Try.underlying23 rfl h1_0 ?_
              refine L_lss (m := v_34) (n := (m.sizes.length : Int)) rfl rfl rfl ?_
              refine L_pick (v := .bool ((decide ((out_33.length : Int) < least)) && (decide (v_34 < (m.sizes.length : Int))))) rfl rfl (and_t hc37 rfl) ?_
              refine L_nil ?_
              show R36 _ _
              rw [hR36]
              exact ⟨sf0, sf2, sf4, sf7, sf9, rfl, hv33_out, hrb, hb_g_r, h1_0, h1_1, hb_g3, hx⟩
            ·
              refine L_pass rfl ?_
              refine L_pass rfl ?_
              refine L_pass rfl ?_
              refine L_pass rfl ?_
              refine L_pass rfl ?_
              refine L_pick (v := .bool ((decide ((out_33.length : Int) < least)) && (decide (v_34 < (m.sizes.length : Int))))) rfl rfl (and_f hc37) ?_
              refine L_nil ?_
              show R36 _ _
              rw [hR36]
              exact ⟨sf0, sf2, sf4, sf7, sf9, rfl, hv33_out, hrb, hb_g_r, h1_0, h1_1, hb_g3, hx⟩
          ·
            intro f w_ hR
            rw [hR36] at hR
            obtain ⟨sf0, sf2, sf4, sf7, sf9, sf37, hv33_out, hrb, hb_g_r, h1_0, h1_1, hb_g3, hx⟩ := hR
            clear hR36
            refine W_cond (b := ((decide ((out_33.length : Int) < least)) && (decide (v_34 < (m.sizes.length : Int))))) sf37 (fun hc38 => ?_) (fun hc38 => ?_)
            ·
              have hB35 := (ite_t hc38).symm.trans hB35
              refine W_skip ?_
              refine W_seq ?_
              refine W_block ?_
              refine W_seq ?_
              obtain ⟨b42, hb42, hB35⟩ := bind_some hB35
              obtain ⟨R43, hR43⟩ : ∃ R : Fr → World → Prop, R = fun f w_ => f 0 = .pointer (some ⟨g_r, 0, none⟩) ∧ f 2 = .int .i64 least ∧ f 4 = .pointer (some ⟨g3, 0, none⟩) ∧ f 7 = v33_out ∧ f 9 = .int .i64 v_34 ∧ f 52 = .bool b42 ∧ Own RP.int 3 w.heap.size B w_ v33_out out_33 ∧ (RP.slice 5 RP.u8).rel B w.heap.size w_ [v_r] r_.b ∧ Blk w_ g_r 86 #[v_r, .int .i64 g_r_1_11] ∧ (RP.slice 3 RP.int).rel B w.heap.size w_ [v1_0] m.sizes ∧ (RP.slice 36 (rRule 3 23)).rel B w.heap.size w_ [v1_1] m.rules ∧ Blk w_ g3 26 #[v1_0, v1_1] ∧ Mut g_r (some g_r) 86 w w_ := ⟨_, rfl⟩
              refine W_join R43 ?_ ?_
              ·
                refine W_region ?_
                refine L_mv (v := v33_out) rfl sf7 ?_
                refine L_len (v := v33_out) rfl Try.underlying23 rfl (Own.rel hv33_out) ?_
                refine L_eql (m := (out_33.length : Int)) (n := 0) rfl rfl rfl ?_
                refine L_mv (v := .bool ((out_33.length : Int) == 0)) rfl rfl ?_
                refine L_split (d := 43) (b := ((out_33.length : Int) == 0)) rfl (fun hc44 => ?_) (fun hc44 => ?_)
                ·
                  rw [ite_t hc44] at hb42
                  refine L_pass rfl ?_
                  refine L_pass rfl ?_
                  refine L_pass rfl ?_
                  refine L_pass rfl ?_
                  refine L_pass rfl ?_
                  refine L_pass rfl ?_
                  refine L_pass rfl ?_
                  refine L_pass rfl ?_
                  refine L_pick (v := .bool b42) rfl rfl (congrArg Value.bool (so hb42)) ?_
                  refine L_nil ?_
                  show R43 _ _
                  rw [hR43]
                  exact ⟨sf0, sf2, sf4, sf7, sf9, rfl, hv33_out, hrb, hb_g_r, h1_0, h1_1, hb_g3, hx⟩
                ·
                  rw [ite_f hc44] at hb42
                  obtain ⟨x39, hx39, hb42⟩ := bind_some hb42
                  refine L_mv (v := v33_out) rfl sf7 ?_
                  refine L_mv (v := v33_out) rfl sf7 ?_
                  refine L_len (v := v33_out) rfl Try.underlying23 rfl (Own.rel hv33_out) ?_
                  refine L_sub (m := (out_33.length : Int)) (n := 1) rfl rfl rfl ?_
                  refine L_ix (r := RP.int) rfl Try.underlying23 Try.sizeOf3 rfl (Own.rel hv33_out) rfl hx39 ?_
                  intro g45 o46 cs46 hr46 hat46
                  obtain rfl : _ = [_] := hr46
                  refine L_ld (v := .int .i64 x39) rfl Try.isAgg3 rfl (hat46.cell (j := 0) rfl) ?_
                  refine L_mv (v := .int .i64 v_34) rfl sf9 ?_
                  refine L_lss (m := x39) (n := v_34) rfl rfl rfl ?_
                  refine L_pick (v := .bool b42) rfl rfl (congrArg Value.bool (so hb42)) ?_
                  refine L_nil ?_
                  show R43 _ _
                  rw [hR43]
                  exact ⟨sf0, sf2, sf4, sf7, sf9, rfl, hv33_out, hrb, hb_g_r, h1_0, h1_1, hb_g3, hx⟩
              ·
                intro f w_ hR
                rw [hR43] at hR
                obtain ⟨sf0, sf2, sf4, sf7, sf9, sf52, hv33_out, hrb, hb_g_r, h1_0, h1_1, hb_g3, hx⟩ := hR
                clear hR43
                obtain ⟨out_47, hA48, hB35⟩ := bind_some hB35
                obtain ⟨R48, hR48⟩ : ∃ R : Fr → World → Prop, R = fun f w_ => ∃ v47_out : Value, f 0 = .pointer (some ⟨g_r, 0, none⟩) ∧ f 2 = .int .i64 least ∧ f 4 = .pointer (some ⟨g3, 0, none⟩) ∧ f 7 = v47_out ∧ f 9 = .int .i64 v_34 ∧ Own RP.int 3 w.heap.size B w_ v47_out out_47 ∧ (RP.slice 5 RP.u8).rel B w.heap.size w_ [v_r] r_.b ∧ Blk w_ g_r 86 #[v_r, .int .i64 g_r_1_11] ∧ (RP.slice 3 RP.int).rel B w.heap.size w_ [v1_0] m.sizes ∧ (RP.slice 36 (rRule 3 23)).rel B w.heap.size w_ [v1_1] m.rules ∧ Blk w_ g3 26 #[v1_0, v1_1] ∧ Mut g_r (some g_r) 86 w w_ := ⟨_, rfl⟩
                refine W_join R48 ?_ ?_
                ·
                  refine W_cond (b := b42) sf52 (fun hc49 => ?_) (fun hc49 => ?_)
                  ·
                    have hA48 := (ite_t hc49).symm.trans hA48
                    obtain ⟨x53, hx53, hA48⟩ := bind_some hA48
                    refine W_region ?_
                    refine L_mv (v := v33_out) rfl sf7 ?_
                    refine L_mv (v := .int .i64 v_34) rfl sf9 ?_
                    refine L_bs rfl (parts1 rfl) (bs_23_1_0 (.int .i64 v_34) rfl) ?_
                    intro g56 w57 hn57
                    have ho57 : Own RP.int 3 w.heap.size B w57 _ [v_34] := own_new1 hn57 hx.size rfl
                    have ap58 := ap_ob hv33_out hn57
                    have hv33_out := Own.ext hv33_out hn57.ext
                    have hrb := RP.ext hrb hn57.ext
                    have hb_g_r := Blk.ext hb_g_r hn57.ext
                    have h1_0 := RP.ext h1_0 hn57.ext
                    have h1_1 := RP.ext h1_1 hn57.ext
                    have hb_g3 := Blk.ext hb_g3 hn57.ext
                    have hx := fr1_ext hx hn57.ext hgl
                    refine L_app (v := v33_out) (u := (.slice (some ⟨g56, 0, none⟩) 1 1)) rfl et_23 (by decide) rfl rfl hv33_out (rel0 (Own.rel ho57)) hx53 hx.size hB ?_
                    intro v59 w59 ho59 hm59 hb59
                    have hrb := hm59.rel hrb (by decide) (Nat.le_trans hB (Nat.le_refl _))
                    have hb_g_r := hm59.blk hb_g_r (by decide)
                    have h1_0 := hm59.rel_lo h1_0 (Nat.le_refl _)
                    have h1_1 := hm59.rel_lo h1_1 (Nat.le_refl _)
                    have hb_g3 := hm59.blk hb_g3 (by decide)
                    have hx := fr1_mut hx hm59 (Nat.le_refl _) hgl
                    refine L_as (v := v59) rfl rfl ?_
                    refine L_nil ?_
                    obtain rfl := so hA48
                    show R48 _ _
                    rw [hR48]
                    exact ⟨v59, sf0, sf2, sf4, rfl, sf9, ho59, hrb, hb_g_r, h1_0, h1_1, hb_g3, hx⟩
                  ·
                    have hA48 := (ite_f hc49).symm.trans hA48
                    refine W_skip ?_
                    obtain rfl := so hA48
                    show R48 _ _
                    rw [hR48]
                    exact ⟨v33_out, sf0, sf2, sf4, sf7, sf9, hv33_out, hrb, hb_g_r, h1_0, h1_1, hb_g3, hx⟩
                ·
                  intro f w_ hR
                  rw [hR48] at hR
                  obtain ⟨v47_out, sf0, sf2, sf4, sf7, sf9, hv47_out, hrb, hb_g_r, h1_0, h1_1, hb_g3, hx⟩ := hR
                  clear hR48
                  refine W_region ?_
                  refine L_mv (v := .int .i64 v_34) rfl sf9 ?_
                  refine L_add (m := v_34) (n := 1) rfl rfl rfl ?_
                  refine L_as (v := .int .i64 (i64 (v_34 + 1))) rfl rfl ?_
                  refine L_nil ?_
                  obtain rfl := so hB35
                  show ∃ m, m < _ ∧ I35 m _ _
                  refine ⟨n35, Nat.lt_succ_self _, ?_⟩
                  rw [hI35]
                  exact ⟨out_47, i64 (v_34 + 1), v47_out, hL35, sf0, sf2, sf4, sf7, rfl, hv47_out, hrb, hb_g_r, h1_0, h1_1, hb_g3, hx⟩
            ·
              have hB35 := (ite_f hc38).symm.trans hB35
              refine W_exit ?_
              obtain rfl := so hB35
              obtain rfl := so hL35
              show R35 _ _
              rw [hR35]
              exact ⟨out_33, v_34, v33_out, rfl, sf0, sf2, sf7, hv33_out, hrb, hb_g_r, hx⟩
    ·
      intro f w_ hR
      rw [hR35] at hR
      obtain ⟨out_33, v_34, v33_out, rfl, sf0, sf2, sf7, hv33_out, hrb, hb_g_r, hx⟩ := hR
      clear hR35
      refine W_seq ?_
      refine W_seq ?_
      obtain ⟨R60, hR60⟩ : ∃ R : Fr → World → Prop, R = fun f w_ => f 0 = .pointer (some ⟨g_r, 0, none⟩) ∧ f 2 = .int .i64 least ∧ f 7 = v33_out ∧ f 65 = .bool ((decide ((out_33.length : Int) < least)) || ((out_33.length : Int) == 0)) ∧ Own RP.int 3 w.heap.size B w_ v33_out out_33 ∧ (RP.slice 5 RP.u8).rel B w.heap.size w_ [v_r] r_.b ∧ Blk w_ g_r 86 #[v_r, .int .i64 g_r_1_11] ∧ Mut g_r (some g_r) 86 w w_ := ⟨_, rfl⟩
      refine W_join R60 ?_ ?_
      ·
        refine W_region ?_
        refine L_mv (v := v33_out) rfl sf7 ?_
        refine L_len (v := v33_out) rfl Try.underlying23 rfl (Own.rel hv33_out) ?_
        refine L_mv (v := .int .i64 least) rfl sf2 ?_
        refine L_lss (m := (out_33.length : Int)) (n := least) rfl rfl rfl ?_
        refine L_mv (v := .bool (decide ((out_33.length : Int) < least))) rfl rfl ?_
        refine L_split (d := 61) (b := decide ((out_33.length : Int) < least)) rfl (fun hc61 => ?_) (fun hc61 => ?_)
        ·
          refine L_pass rfl ?_
          refine L_pass rfl ?_
          refine L_pass rfl ?_
          refine L_pick (v := .bool ((decide ((out_33.length : Int) < least)) || ((out_33.length : Int) == 0))) rfl rfl (or_t hc61) ?_
          refine L_nil ?_
          show R60 _ _
          rw [hR60]
          exact ⟨sf0, sf2, sf7, rfl, hv33_out, hrb, hb_g_r, hx⟩
        ·
          refine L_mv (v := v33_out) rfl sf7 ?_
          refine L_len (v := v33_out) rfl Try.underlying23 rfl (Own.rel hv33_out) ?_
          refine L_eql (m := (out_33.length : Int)) (n := 0) rfl rfl rfl ?_
          refine L_pick (v := .bool ((decide ((out_33.length : Int) < least)) || ((out_33.length : Int) == 0))) rfl rfl (or_f hc61 rfl) ?_
          refine L_nil ?_
          show R60 _ _
          rw [hR60]
          exact ⟨sf0, sf2, sf7, rfl, hv33_out, hrb, hb_g_r, hx⟩
      ·
        intro f w_ hR
        rw [hR60] at hR
        obtain ⟨sf0, sf2, sf7, sf65, hv33_out, hrb, hb_g_r, hx⟩ := hR
        clear hR60
        obtain ⟨out_62, hA63, hF⟩ := bind_some hF
        obtain ⟨R63, hR63⟩ : ∃ R : Fr → World → Prop, R = fun f w_ => ∃ v62_out : Value, f 0 = .pointer (some ⟨g_r, 0, none⟩) ∧ f 7 = v62_out ∧ Own RP.int 3 w.heap.size B w_ v62_out out_62 ∧ (RP.slice 5 RP.u8).rel B w.heap.size w_ [v_r] r_.b ∧ Blk w_ g_r 86 #[v_r, .int .i64 g_r_1_11] ∧ Mut g_r (some g_r) 86 w w_ := ⟨_, rfl⟩
        refine W_join R63 ?_ ?_
        ·
          refine W_cond (b := ((decide ((out_33.length : Int) < least)) || ((out_33.length : Int) == 0))) sf65 (fun hc64 => ?_) (fun hc64 => ?_)
          ·
            have hA63 := (ite_t hc64).symm.trans hA63
            refine W_seq ?_
            refine W_region ?_
            refine L_bs rfl parts0 (bs_23_0  ) ?_
            intro g68 w69 hn69
            have ho69 : Own RP.int 3 w.heap.size B w69 _ _ := own_new0 hn69 hx.size
            have hz69 := zero_new hn69 hx.size
            have hrb := RP.ext hrb hn69.ext
            have hb_g_r := Blk.ext hb_g_r hn69.ext
            have hx := fr1_ext hx hn69.ext hgl
            refine L_as (v := (.slice (some ⟨g68, 0, none⟩) 0 0)) rfl rfl ?_
            refine L_nil ?_
            refine W_seq ?_
            refine W_region ?_
            refine L_as (v := .int .i64 0) rfl rfl ?_
            refine L_nil ?_
            obtain ⟨k73, hk73, hA63⟩ := bind_some hA63
            obtain ⟨j72, hL72, hA63⟩ := bind_some hA63
            obtain ⟨R72, hR72⟩ : ∃ R : Fr → World → Prop, R = fun f w_ => ∃ out_71 : List Int, ∃ v71_out : Value, j72 = .nx out_71 ∧ f 0 = .pointer (some ⟨g_r, 0, none⟩) ∧ f 7 = v71_out ∧ Own RP.int 3 w.heap.size B w_ v71_out out_71 ∧ (RP.slice 5 RP.u8).rel B w.heap.size w_ [v_r] r_.b ∧ Blk w_ g_r 86 #[v_r, .int .i64 g_r_1_11] ∧ Mut g_r (some g_r) 86 w w_ := ⟨_, rfl⟩
            refine W_join R72 ?_ ?_
            ·
              refine W_block ?_
              obtain ⟨I72, hI72⟩ : ∃ I : Nat → Fr → World → Prop, I = fun n f w_ => ∃ i_70 : Nat, ∃ suf72 : Nat, ∃ out_71 : List Int, ∃ v71_out : Value, suf72 = n ∧ 0 ≤ i_70 ∧ i_70 + suf72 = 0 + k73 ∧ countL s_l6Some_b3 suf72 i_70 out_71 = some j72 ∧ f 0 = .pointer (some ⟨g_r, 0, none⟩) ∧ f 2 = .int .i64 least ∧ f 7 = v71_out ∧ f 10 = .int .i64 (i_70 : Int) ∧ Own RP.int 3 w.heap.size B w_ v71_out out_71 ∧ (RP.slice 5 RP.u8).rel B w.heap.size w_ [v_r] r_.b ∧ Blk w_ g_r 86 #[v_r, .int .i64 g_r_1_11] ∧ Mut g_r (some g_r) 86 w w_ := ⟨_, rfl⟩
              refine W_loop I72 (n := k73) ?_ ?_
              · rw [hI72]; exact ⟨0, k73, [], (.slice (some ⟨g68, 0, none⟩) 0 0), rfl, Nat.le_refl _, rfl, hL72, sf0, sf2, rfl, rfl, ho69, hrb, hb_g_r, hx⟩
              ·
                intro n72 f w_ hI
                rw [hI72] at hI
                obtain ⟨i_70, suf72, out_71, v71_out, rfl, hs72, hl72, hL72, sf0, sf2, sf7, sf10, hv71_out, hrb, hb_g_r, hx⟩ := hI
                refine W_seq ?_
                refine W_seq ?_
                refine W_region ?_
                refine L_mv (v := .int .i64 (i_70 : Int)) rfl sf10 ?_
                refine L_mv (v := .int .i64 least) rfl sf2 ?_
                refine L_lss (m := (i_70 : Int)) (n := least) rfl rfl rfl ?_
                refine L_nil ?_
                refine W_cond (b := decide ((i_70 : Int) < least)) rfl (fun hc74 => ?_) (fun hc74 => ?_)
                ·
                  have hlt72 := of_decide_eq_true hc74
                  cases suf72 with
                  | zero => exact absurd hlt72 (cntF_no hl72 hk73)
                  | succ rest72 =>
                    obtain ⟨o72, hB72, hL72⟩ := count_succ hL72
                    rw [s_l6Some_b3] at hB72
                    refine W_skip ?_
                    refine W_seq ?_
                    refine W_block ?_
                    obtain ⟨x78, hx78, hB72⟩ := bind_some hB72
                    refine W_region ?_
                    refine L_mv (v := v71_out) rfl sf7 ?_
                    refine L_mv (v := .int .i64 (i_70 : Int)) rfl sf10 ?_
                    refine L_bs rfl (parts1 rfl) (bs_23_1_0 (.int .i64 (i_70 : Int)) rfl) ?_
                    intro g81 w82 hn82
                    have ho82 : Own RP.int 3 w.heap.size B w82 _ [(i_70 : Int)] := own_new1 hn82 hx.size rfl
                    have ap83 := ap_ob hv71_out hn82
                    have hv71_out := Own.ext hv71_out hn82.ext
                    have hrb := RP.ext hrb hn82.ext
                    have hb_g_r := Blk.ext hb_g_r hn82.ext
                    have hx := fr1_ext hx hn82.ext hgl
                    refine L_app (v := v71_out) (u := (.slice (some ⟨g81, 0, none⟩) 1 1)) rfl et_23 (by decide) rfl rfl hv71_out (rel0 (Own.rel ho82)) hx78 hx.size hB ?_
                    intro v84 w84 ho84 hm84 hb84
                    have hrb := hm84.rel hrb (by decide) (Nat.le_trans hB (Nat.le_refl _))
                    have hb_g_r := hm84.blk hb_g_r (by decide)
                    have hx := fr1_mut hx hm84 (Nat.le_refl _) hgl
                    refine L_as (v := v84) rfl rfl ?_
                    refine L_nil ?_
                    refine W_region ?_
                    refine L_mv (v := .int .i64 (i_70 : Int)) rfl sf10 ?_
                    refine L_add (m := (i_70 : Int)) (n := 1) rfl rfl rfl ?_
                    refine L_as (v := .int .i64 (i64 ((i_70 : Int) + 1))) rfl rfl ?_
                    refine L_nil ?_
                    obtain rfl := so hB72
                    show ∃ m, m < _ ∧ I72 m _ _
                    refine ⟨rest72, Nat.lt_succ_self _, ?_⟩
                    rw [hI72]
                    exact ⟨i_70 + 1, rest72, x78, v84, rfl, by omega, by omega, hL72, sf0, sf2, rfl, (Eq.trans rfl (congrArg (Value.int .i64) (i64_succ (n := 0 + k73) (by omega) (cntF_le hk73)))), ho84, hrb, hb_g_r, hx⟩
                ·
                  cases suf72 with
                  | succ _ => exact absurd (cntF_yes hs72 hl72 hk73) (of_decide_eq_false hc74)
                  | zero =>
                    obtain rfl := count_zero hL72
                    refine W_exit ?_
                    show R72 _ _
                    rw [hR72]
                    exact ⟨out_71, v71_out, rfl, sf0, sf7, hv71_out, hrb, hb_g_r, hx⟩
            ·
              intro f w_ hR
              rw [hR72] at hR
              obtain ⟨out_71, v71_out, rfl, sf0, sf7, hv71_out, hrb, hb_g_r, hx⟩ := hR
              clear hR72
              obtain rfl := so hA63
              show R63 _ _
              rw [hR63]
              exact ⟨v71_out, sf0, sf7, hv71_out, hrb, hb_g_r, hx⟩
          ·
            have hA63 := (ite_f hc64).symm.trans hA63
            refine W_skip ?_
            obtain rfl := so hA63
            show R63 _ _
            rw [hR63]
            exact ⟨v33_out, sf0, sf7, hv33_out, hrb, hb_g_r, hx⟩
        ·
          intro f w_ hR
          rw [hR63] at hR
          obtain ⟨v62_out, sf0, sf7, hv62_out, hrb, hb_g_r, hx⟩ := hR
          clear hR63
          refine W_seq ?_
          refine W_seq ?_
          obtain ⟨b87, hb87, hF⟩ := bind_some hF
          obtain ⟨R88, hR88⟩ : ∃ R : Fr → World → Prop, R = fun f w_ => f 7 = v62_out ∧ f 83 = .bool b87.1 ∧ Own RP.int 3 w.heap.size B w_ v62_out out_62 ∧ (RP.slice 5 RP.u8).rel B w.heap.size w_ [v_r] r_.b ∧ Blk w_ g_r 86 #[v_r, .int .i64 b87.2] ∧ Mut g_r (some g_r) 86 w w_ := ⟨_, rfl⟩
          refine W_join R88 ?_ ?_
          ·
            refine W_region ?_
            refine L_mv (v := v62_out) rfl sf7 ?_
            refine L_len (v := v62_out) rfl Try.underlying23 rfl (Own.rel hv62_out) ?_
            refine L_gtr (m := (out_62.length : Int)) (n := 1) rfl rfl rfl ?_
            refine L_mv (v := .bool (decide ((out_62.length : Int) > 1))) rfl rfl ?_
            refine L_split (d := 79) (b := decide ((out_62.length : Int) > 1)) rfl (fun hc89 => ?_) (fun hc89 => ?_)
            ·
              rw [ite_t hc89] at hb87
              obtain ⟨x85, hx85, hb87⟩ := bind_some hb87
              refine L_mv (v := .pointer (some ⟨g_r, 0, none⟩)) rfl sf0 ?_
              refine L_call (args := #[.pointer (some ⟨g_r, 0, none⟩), .int .i64 3]) rfl Try.call70 (ops2 rfl rfl) (s_l17Rd_pick_c (r_ := ({ b := r_.b, p := g_r_1_11 } : Rd)) (n_ := 3) (Nat.le_trans hB hx.size) hb_g_r (rel0 hrb) hrB hx85) ?_
              rintro _ w90 ⟨⟨rfl, hbn90⟩, he90⟩
              have hv62_out := he90.ownT hv62_out (by decide) (by decide) hrB
              have hrb := he90.rel hrb (by decide) hrB
              have hx := fr1_trans hx he90
              have hb_g_r := hbn90
              refine L_eql (m := x85.1) (n := 0) rfl rfl rfl ?_
              refine L_pick (v := .bool b87.1) rfl rfl (congrArg (fun z : Bool × Int => Value.bool z.1) (so hb87)) ?_
              have hb_g_r : Blk w90 g_r 86 #[v_r, .int .i64 b87.2] := by rw [← so hb87]; exact hb_g_r
              refine L_nil ?_
              show R88 _ _
              rw [hR88]
              exact ⟨sf7, rfl, hv62_out, hrb, hb_g_r, hx⟩
            ·
              rw [ite_f hc89] at hb87
              refine L_pass rfl ?_
              refine L_pass rfl ?_
              refine L_pass rfl ?_
              refine L_pick (v := .bool b87.1) rfl rfl (congrArg (fun z : Bool × Int => Value.bool z.1) (so hb87)) ?_
              have hb_g_r : Blk w_ g_r 86 #[v_r, .int .i64 b87.2] := by rw [← so hb87]; exact hb_g_r
              refine L_nil ?_
              show R88 _ _
              rw [hR88]
              exact ⟨sf7, rfl, hv62_out, hrb, hb_g_r, hx⟩
          ·
            intro f w_ hR
            rw [hR88] at hR
            obtain ⟨sf7, sf83, hv62_out, hrb, hb_g_r, hx⟩ := hR
            clear hR88
            obtain ⟨out_91, hA92, hF⟩ := bind_some hF
            obtain ⟨R92, hR92⟩ : ∃ R : Fr → World → Prop, R = fun f w_ => ∃ v91_out : Value, f 7 = v91_out ∧ Own RP.int 3 w.heap.size B w_ v91_out out_91 ∧ (RP.slice 5 RP.u8).rel B w.heap.size w_ [v_r] r_.b ∧ Blk w_ g_r 86 #[v_r, .int .i64 b87.2] ∧ Mut g_r (some g_r) 86 w w_ := ⟨_, rfl⟩
            refine W_join R92 ?_ ?_
            ·
              refine W_cond (b := b87.1) sf83 (fun hc93 => ?_) (fun hc93 => ?_)
              ·
                have hA92 := (ite_t hc93).symm.trans hA92
                refine W_seq ?_
                obtain ⟨x94, hx94, hA92⟩ := bind_some hA92
                refine W_region ?_
                refine L_mv (v := v62_out) rfl sf7 ?_
                refine L_ix (r := RP.int) rfl Try.underlying23 Try.sizeOf3 rfl (Own.rel hv62_out) rfl hx94 ?_
                intro g97 o98 cs98 hr98 hat98
                obtain rfl : _ = [_] := hr98
                refine L_ld (v := .int .i64 x94) rfl Try.isAgg3 rfl (hat98.cell (j := 0) rfl) ?_
                refine L_as (v := .int .i64 x94) rfl rfl ?_
                refine L_nil ?_
                refine W_seq ?_
                obtain ⟨x99, hx99, hA92⟩ := bind_some hA92
                refine W_region ?_
                refine L_mv (v := v62_out) rfl sf7 ?_
                refine L_mv (v := v62_out) rfl sf7 ?_
                refine L_ix (r := RP.int) rfl Try.underlying23 Try.sizeOf3 rfl (Own.rel hv62_out) rfl hx99 ?_
                intro g105 o106 cs106 hr106 hat106
                obtain rfl : _ = [_] := hr106
                refine L_ld (v := .int .i64 x99) rfl Try.isAgg3 rfl (hat106.cell (j := 0) rfl) ?_
                refine L_ixo (r := RP.int) rfl et_23 rfl hv62_out rfl hx94 ?_
                intro g107 c108 cs108 hg108 hl108 hc108 hr108 hj108
                obtain rfl : cs108 = [_] := hr108
                refine L_st (v := .int .i64 x99) rfl Try.sizeOf3 rfl rfl rfl hc108 (hj108 0 _ rfl) ?_
                intro w109 hp109
                have hv62_out_n : Own RP.int 3 _ B w109 _ (out_62.set (Int.toNat 0) x99) := own_set hv62_out hg108 rfl (by decide) (idx_some hx94).2.2 hc108 hp109 rfl hB
                have hrb := hp109.mu.rel hrb (by decide) (Nat.le_trans hB hl108)
                have hb_g_r := hp109.mu.blk hb_g_r (by decide)
                have hx := fr1_mut hx hp109.mu hl108 hgl
                have hv62_out := hv62_out_n
                refine L_nil ?_
                obtain ⟨x110, hx110, hA92⟩ := bind_some hA92
                refine W_region ?_
                refine L_mv (v := v62_out) rfl sf7 ?_
                refine L_mv (v := .int .i64 x94) rfl rfl ?_
                refine L_ixo (r := RP.int) rfl et_23 rfl hv62_out rfl hx110 ?_
                intro g114 c115 cs115 hg115 hl115 hc115 hr115 hj115
                obtain rfl : cs115 = [_] := hr115
                refine L_st (v := .int .i64 x94) rfl Try.sizeOf3 rfl rfl rfl hc115 (hj115 0 _ rfl) ?_
                intro w116 hp116
                have hv62_out_n : Own RP.int 3 _ B w116 _ ((out_62.set (Int.toNat 0) x99).set (Int.toNat 1) x94) := own_set hv62_out hg115 rfl (by decide) (idx_some hx110).2.2 hc115 hp116 rfl hB
                have hrb := hp116.mu.rel hrb (by decide) (Nat.le_trans hB hl115)
                have hb_g_r := hp116.mu.blk hb_g_r (by decide)
                have hx := fr1_mut hx hp116.mu hl115 hgl
                have hv62_out := hv62_out_n
                refine L_nil ?_
                obtain rfl := so hA92
                show R92 _ _
                rw [hR92]
                exact ⟨v62_out, sf7, hv62_out, hrb, hb_g_r, hx⟩
              ·
                have hA92 := (ite_f hc93).symm.trans hA92
                refine W_skip ?_
                obtain rfl := so hA92
                show R92 _ _
                rw [hR92]
                exact ⟨v62_out, sf7, hv62_out, hrb, hb_g_r, hx⟩
            ·
              intro f w_ hR
              rw [hR92] at hR
              obtain ⟨v91_out, sf7, hv91_out, hrb, hb_g_r, hx⟩ := hR
              clear hR92
              refine W_seq ?_
              refine W_region ?_
              refine L_mv (v := v91_out) rfl sf7 ?_
              refine L_as (v := v91_out) rfl rfl ?_
              refine L_nil ?_
              refine W_ret ?_
              obtain rfl := so hF
              refine ret1 Try.results97 ?_
              exact ⟨⟨⟨v91_out, rfl, hv91_out⟩, hb_g_r⟩, hx⟩

theorem s_l6Draw_c {fu : Nat} {r_ : Rd} {m : Model} {g_r : Nat} {v_r : Value} {v1_0 : Value} {v1_1 : Value} {w : World} {B : Nat} (hB : B ≤ w.heap.size) (hb_g_r : Blk w g_r 86 #[v_r, .int .i64 r_.p]) (hrb : (RP.slice 5 RP.u8).rel B w.heap.size w [v_r] r_.b) (hrB : B ≤ g_r) (h1_0 : (RP.slice 3 RP.int).rel B w.heap.size w [v1_0] m.sizes) (h1_1 : (RP.slice 36 (rRule 3 23)).rel B w.heap.size w [v1_1] m.rules) {r : Rule × Int} (hF : s_l6Draw fu r_ m = some r) :
    C Try.prog 81 #[.pointer (some ⟨g_r, 0, none⟩), .agg #[v1_0, v1_1]] w fun v w' => ((∃ u1 u2 u3 : Value, v = .agg #[.int .i64 r.1.kind, u1, u2, .int .i64 r.1.bound, u3] ∧ (RP.slice 3 RP.int).rel B w'.heap.size w' [u1] r.1.vars ∧ Own RP.int 3 w.heap.size B w' u2 r.1.coefs ∧ Own (RP.slice 3 RP.int) 23 w.heap.size B w' u3 r.1.rows) ∧ Blk w' g_r 86 #[v_r, .int .i64 r.2]) ∧ Mut g_r (some g_r) 86 w w' := by
  unfold s_l6Draw at hF
  have hgl := hb_g_r.lt
  have hx := fr1_refl hb_g_r
  refine C_enter Try.func81 rfl Try.ntmps81 rfl ?_
  refine W_seq ?_
  refine W_region ?_
  refine L_box (v := .agg #[v1_0, v1_1]) (cs := #[v1_0, v1_1]) rfl rfl rfl ?_
  intro g5 w6 hn6
  have hge_g5 := hn6.geS hx.size
  have hb_g5 := hn6.blk
  have hrb := RP.ext hrb hn6.ext
  have hb_g_r := Blk.ext hb_g_r hn6.ext
  have h1_0 := RP.ext h1_0 hn6.ext
  have h1_1 := RP.ext h1_1 hn6.ext
  have hx := fr1_ext hx hn6.ext hgl
  refine L_al (cs := #[.int .i64 0, (.slice none 0 0), (.slice none 0 0), .int .i64 0, (.slice none 0 0)]) rfl Try.zeroValue36 rfl ?_
  intro g7 w8 hn8
  have hge_g7 := hn8.geS hx.size
  have hb_g7 := hn8.blk
  have hrb := RP.ext hrb hn8.ext
  have hb_g_r := Blk.ext hb_g_r hn8.ext
  have h1_0 := RP.ext h1_0 hn8.ext
  have h1_1 := RP.ext h1_1 hn8.ext
  have hb_g5 := Blk.ext hb_g5 hn8.ext
  have hx := fr1_ext hx hn8.ext hgl
  refine L_nil ?_
  refine W_seq ?_
  obtain ⟨x11, hx11, hF⟩ := bind_some hF
  refine W_region ?_
  refine L_mv (v := .pointer (some ⟨g_r, 0, none⟩)) rfl rfl ?_
  refine L_bs rfl (parts5 rfl rfl rfl rfl rfl) (bs_23_5_0_0_0_0_0 (.int .i64 1) (.int .i64 2) (.int .i64 3) (.int .i64 4) (.int .i64 1) rfl rfl rfl rfl rfl) ?_
  intro g17 w18 hn18
  have ho18 : Own RP.int 3 w.heap.size B w18 _ [1, 2, 3, 4, 1] := own_lit rfl hn18 rfl (by decide) hx.size (by intro i z hz; rcases i with _ | _ | _ | _ | _ | i <;> simp at hz <;> subst hz <;> rfl)
  have hrb := RP.ext hrb hn18.ext
  have hb_g_r := Blk.ext hb_g_r hn18.ext
  have h1_0 := RP.ext h1_0 hn18.ext
  have h1_1 := RP.ext h1_1 hn18.ext
  have hb_g5 := Blk.ext hb_g5 hn18.ext
  have hb_g7 := Blk.ext hb_g7 hn18.ext
  have hx := fr1_ext hx hn18.ext hgl
  refine L_call (args := #[.pointer (some ⟨g_r, 0, none⟩), (.slice (some ⟨g17, 0, none⟩) 5 5)]) rfl Try.call49 (ops2 rfl rfl) (s_l17Rd_num_c (r_ := r_) (list := [1, 2, 3, 4, 1]) (Nat.le_trans hB hx.size) hb_g_r (rel0 hrb) hrB (rel0 (Own.rel ho18)) hx11) ?_
  rintro _ w19 ⟨⟨rfl, hbn19⟩, he19⟩
  have hrb := he19.rel hrb (by decide) hrB
  have h1_0 := he19.rel h1_0 (by decide) hrB
  have h1_1 := he19.rel h1_1 (by decide) hrB
  have hb_g5 := he19.blk hb_g5 (by decide)
  have hb_g7 := he19.blk hb_g7 (by decide)
  have ho18 := he19.ownT ho18 (by decide) (by decide) hrB
  have hx := fr1_trans hx he19
  have hb_g_r := hbn19
  refine L_bld rfl (parts1 rfl) (bld_36_0 (.int .i64 x11.1) rfl) ?_
  refine L_al (cs := #[.int .i64 0, (.slice none 0 0), (.slice none 0 0), .int .i64 0, (.slice none 0 0)]) rfl Try.zeroValue36 rfl ?_
  intro g20 w21 hn21
  have hge_g20 := hn21.geS hx.size
  have hb_g20 := hn21.blk
  have ap22 := ap_bb hb_g7 hn21
  have hrb := RP.ext hrb hn21.ext
  have hb_g_r := Blk.ext hb_g_r hn21.ext
  have h1_0 := RP.ext h1_0 hn21.ext
  have h1_1 := RP.ext h1_1 hn21.ext
  have hb_g5 := Blk.ext hb_g5 hn21.ext
  have hb_g7 := Blk.ext hb_g7 hn21.ext
  have hx := fr1_ext hx hn21.ext hgl
  refine L_sta (vs := #[.int .i64 x11.1, (.slice none 0 0), (.slice none 0 0), .int .i64 0, (.slice none 0 0)]) rfl Try.sizeOf36 rfl rfl rfl (ones_cons rfl (ones_cons rfl (ones_cons rfl (ones_cons rfl (ones_cons rfl ones_nil))))) hb_g20 rfl ?_
  intro w23 hp23
  have hrb := hp23.mu.rel hrb (by decide) (Nat.le_trans hB hge_g20)
  have hb_g_r := hp23.mu.blk hb_g_r (by decide)
  have h1_0 := hp23.mu.rel h1_0 (by decide) (Nat.le_trans hB hge_g20)
  have h1_1 := hp23.mu.rel_lo h1_1 hge_g20
  have hb_g5 := hp23.mu.blk hb_g5 (by decide)
  have hb_g7 := hp23.mu.blkA hb_g7 (Ap.symm ap22)
  have hx := fr1_mut hx hp23.mu hge_g20 hgl
  have hb_g20 : Blk w23 g20 36 #[.int .i64 x11.1, (.slice none 0 0), (.slice none 0 0), .int .i64 0, (.slice none 0 0)] := hp23.blk
  refine L_nil ?_
  refine W_seq ?_
  obtain ⟨x24, hx24, hF⟩ := bind_some hF
  refine W_region ?_
  refine L_mv (v := .pointer (some ⟨g_r, 0, none⟩)) rfl rfl ?_
  refine L_lda (cs := [v1_0, v1_1]) rfl Try.isAgg26 Try.sizeOf26 rfl (Blk.sub hb_g5 0 2) rfl ?_
  refine L_call (args := #[.pointer (some ⟨g_r, 0, none⟩), .agg #[v1_0, v1_1], .int .i64 1]) rfl Try.call97 (ops3 rfl rfl rfl) (s_l6Some_c (r_ := ({ b := r_.b, p := x11.2 } : Rd)) (m := m) (least := 1) (Nat.le_trans hB hx.size) hb_g_r (rel0 hrb) hrB (rel0 h1_0) (rel0 h1_1) hx24) ?_
  rintro r27_0 w27 ⟨⟨⟨_, rfl, hr27_0⟩, hbn27⟩, he27⟩
  have hr27_0 : Own _ _ w.heap.size B _ _ _ := hr27_0.wide hx.size (Nat.le_refl _)
  have hrb := he27.rel hrb (by decide) hrB
  have h1_0 := he27.rel h1_0 (by decide) hrB
  have h1_1 := he27.rel h1_1 (by decide) hrB
  have hb_g5 := he27.blk hb_g5 (by decide)
  have hb_g7 := he27.blk hb_g7 (by decide)
  have hb_g20 := he27.blk hb_g20 (by decide)
  have hx := fr1_trans hx he27
  have hb_g_r := hbn27
  refine L_fa (o' := 1) rfl fa_36_1 rfl rfl ?_
  refine L_st (v := r27_0) rfl Try.sizeOf23 rfl rfl (one_of (Own.rel hr27_0)) hb_g20 rfl ?_
  intro w28 hp28
  have hrb := hp28.mu.rel hrb (by decide) (Nat.le_trans hB hge_g20)
  have hb_g_r := hp28.mu.blk hb_g_r (by decide)
  have h1_0 := hp28.mu.rel h1_0 (by decide) (Nat.le_trans hB hge_g20)
  have h1_1 := hp28.mu.rel_lo h1_1 hge_g20
  have hb_g5 := hp28.mu.blk hb_g5 (by decide)
  have hb_g7 := hp28.mu.blkA hb_g7 (Ap.symm ap22)
  have hr27_0 := hp28.mu.ownT hr27_0 (by decide) (by decide) (Nat.le_trans hB hge_g20)
  have hx := fr1_mut hx hp28.mu hge_g20 hgl
  have hb_g20 : Blk w28 g20 36 #[.int .i64 x11.1, r27_0, (.slice none 0 0), .int .i64 0, (.slice none 0 0)] := hp28.blk
  refine L_nil ?_
  refine W_seq ?_
  refine W_seq ?_
  refine W_region ?_
  refine L_fa (o' := 0) rfl fa_36_0 rfl rfl ?_
  refine L_ld (v := .int .i64 x11.1) rfl Try.isAgg3 rfl (hb_g20.cell (j := 0) rfl) ?_
  refine L_nil ?_
  refine W_block ?_
  refine W_seq ?_
  refine W_region ?_
  refine L_eql (m := x11.1) (n := 1) rfl rfl rfl ?_
  refine L_as (v := .bool (x11.1 == 1)) rfl rfl ?_
  refine L_nil ?_
  obtain ⟨⟨g_r_1_29, g20_1_30, g20_2_31, g20_3_32, g20_4_33⟩, hA34, hF⟩ := bind_some hF
  obtain ⟨R34, hR34⟩ : ∃ R : Fr → World → Prop, R = fun f w_ => ∃ v30_g20_1 : Value, ∃ v31_g20_2 : Value, ∃ v33_g20_4 : Value, f 4 = .pointer (some ⟨g7, 0, none⟩) ∧ f 5 = .pointer (some ⟨g20, 0, none⟩) ∧ (RP.slice 5 RP.u8).rel B w.heap.size w_ [v_r] r_.b ∧ Blk w_ g_r 86 #[v_r, .int .i64 g_r_1_29] ∧ (RP.slice 3 RP.int).rel B w_.heap.size w_ [v30_g20_1] g20_1_30 ∧ Own RP.int 3 w.heap.size B w_ v31_g20_2 g20_2_31 ∧ Own (RP.slice 3 RP.int) 23 w.heap.size B w_ v33_g20_4 g20_4_33 ∧ Blk w_ g20 36 #[.int .i64 x11.1, v30_g20_1, v31_g20_2, .int .i64 g20_3_32, v33_g20_4] ∧ Blk w_ g7 36 #[.int .i64 0, (.slice none 0 0), (.slice none 0 0), .int .i64 0, (.slice none 0 0)] ∧ Mut g_r (some g_r) 86 w w_ := ⟨_, rfl⟩
  refine W_join R34 ?_ ?_
  ·
    refine W_cond (b := (x11.1 == 1)) rfl (fun hc35 => ?_) (fun hc35 => ?_)
    ·
      have hA34 := (ite_t hc35).symm.trans hA34
      refine W_seq ?_
      refine W_seq ?_
      refine W_region ?_
      refine L_as (v := .int .i64 0) rfl rfl ?_
      refine L_nil ?_
      have hlen40 := len_le (Own.rel hr27_0)
      obtain ⟨j40, hL40, hA34⟩ := bind_some hA34
      obtain ⟨R40, hR40⟩ : ∃ R : Fr → World → Prop, R = fun f w_ => ∃ g_r_1_37 : Int, ∃ g20_2_38 : List Int, ∃ v38_g20_2 : Value, j40 = .nx (g_r_1_37, g20_2_38) ∧ f 0 = .pointer (some ⟨g_r, 0, none⟩) ∧ f 4 = .pointer (some ⟨g7, 0, none⟩) ∧ f 5 = .pointer (some ⟨g20, 0, none⟩) ∧ (RP.slice 5 RP.u8).rel B w.heap.size w_ [v_r] r_.b ∧ Blk w_ g_r 86 #[v_r, .int .i64 g_r_1_37] ∧ Own RP.int 3 w.heap.size B w_ r27_0 x24.1 ∧ Own RP.int 3 w.heap.size B w_ v38_g20_2 g20_2_38 ∧ Blk w_ g20 36 #[.int .i64 x11.1, r27_0, v38_g20_2, .int .i64 0, (.slice none 0 0)] ∧ Blk w_ g7 36 #[.int .i64 0, (.slice none 0 0), (.slice none 0 0), .int .i64 0, (.slice none 0 0)] ∧ Ap v38_g20_2.ownBlock r27_0.ownBlock ∧ Mut g_r (some g_r) 86 w w_ := ⟨_, rfl⟩
      refine W_join R40 ?_ ?_
      ·
        refine W_block ?_
        obtain ⟨I40, hI40⟩ : ∃ I : Nat → Fr → World → Prop, I = fun n f w_ => ∃ i_36 : Nat, ∃ suf40 : List Int, ∃ g_r_1_37 : Int, ∃ g20_2_38 : List Int, ∃ v38_g20_2 : Value, n = suf40.length ∧ List.drop i_36 x24.1 = suf40 ∧ i_36 + suf40.length = x24.1.length ∧ rangeL (s_l6Draw_b1 r_) suf40 i_36 (g_r_1_37, g20_2_38) = some j40 ∧ f 0 = .pointer (some ⟨g_r, 0, none⟩) ∧ f 4 = .pointer (some ⟨g7, 0, none⟩) ∧ f 5 = .pointer (some ⟨g20, 0, none⟩) ∧ f 6 = .int .i64 (i_36 : Int) ∧ (RP.slice 5 RP.u8).rel B w.heap.size w_ [v_r] r_.b ∧ Blk w_ g_r 86 #[v_r, .int .i64 g_r_1_37] ∧ Own RP.int 3 w.heap.size B w_ r27_0 x24.1 ∧ Own RP.int 3 w.heap.size B w_ v38_g20_2 g20_2_38 ∧ Blk w_ g20 36 #[.int .i64 x11.1, r27_0, v38_g20_2, .int .i64 0, (.slice none 0 0)] ∧ Blk w_ g7 36 #[.int .i64 0, (.slice none 0 0), (.slice none 0 0), .int .i64 0, (.slice none 0 0)] ∧ Ap v38_g20_2.ownBlock r27_0.ownBlock ∧ Mut g_r (some g_r) 86 w w_ := ⟨_, rfl⟩
        refine W_loop I40 (n := x24.1.length) ?_ ?_
        · rw [hI40]; exact ⟨0, x24.1, x24.2, [], (.slice none 0 0), rfl, rfl, Nat.zero_add _, hL40, rfl, rfl, rfl, rfl, hrb, hb_g_r, hr27_0, (Own.nil _ _ _ _ _), hb_g20, hb_g7, (ap_none _), hx⟩
        ·
          intro n40 f w_ hI
          rw [hI40] at hI
          obtain ⟨i_36, suf40, g_r_1_37, g20_2_38, v38_g20_2, rfl, hd40, hl40, hL40, sf0, sf4, sf5, sf6, hrb, hb_g_r, hr27_0, hv38_g20_2, hb_g20, hb_g7, aq39, hx⟩ := hI
          refine W_seq ?_
          refine W_seq ?_
          refine W_region ?_
          refine L_mv (v := .int .i64 (i_36 : Int)) rfl sf6 ?_
          refine L_fa (o' := 1) rfl fa_36_1 sf5 rfl ?_
          refine L_ld (v := r27_0) rfl Try.isAgg23 rfl (hb_g20.cell (j := 1) rfl) ?_
          refine L_len (v := r27_0) rfl Try.underlying23 rfl (Own.rel hr27_0) ?_
          refine L_lss (m := (i_36 : Int)) (n := (x24.1.length : Int)) rfl rfl rfl ?_
          refine L_nil ?_
          refine W_cond (b := decide ((i_36 : Int) < (x24.1.length : Int))) rfl (fun hc41 => ?_) (fun hc41 => ?_)
          ·
            have hlt40 := of_decide_eq_true hc41
            cases suf40 with
            | nil => exact absurd hlt40 (by simp at hl40; omega)
            | cons x_40 rest40 =>
              obtain ⟨o40, hB40, hL40⟩ := range_cons hL40
              rw [s_l6Draw_b1] at hB40
              have hix40 := drop_idx hd40
              refine W_skip ?_
              refine W_seq ?_
              refine W_block ?_
              obtain ⟨x46, hx46, hB40⟩ := bind_some hB40
              obtain ⟨x53, hx53, hB40⟩ := bind_some hB40
              refine W_drawR 6 [isV (.pointer (some ⟨g20, 2, none⟩)), isV (v38_g20_2), isV (.pointer (some ⟨g_r, 0, none⟩)), isOwn B RP.int 3 w.heap.size ([1, (-1), 2, 1, (-2), 3]), isV (.int .i64 x46.1), isOwn B RP.int 3 w.heap.size ([x46.1])] g_r 86 (fun k => match k with | 0 => #[v_r, .int .i64 g_r_1_37] | _ => #[v_r, .int .i64 x46.2]) [4] Try_mix (by kernel_rfl) (by decide) (by decide) (amR_cons (monoR_V _) (amR_cons (monoR_V _) (amR_cons (monoR_V _) (amR_cons (monoR_own (by decide) (by decide) hrB) (amR_cons (monoR_V _) (amR_cons (monoR_own (by decide) (by decide) hrB) amR_nil)))))) hb_g_r ?_ (fun f w_ hS59 hE59 hbr59 hT59 => ?_)
              ·
                refine opsR_cons (by decide) (fun f w_ hS59 hE59 hbr59 hP59 => ?_) ?_
                ·
                  have hx := fr1_trans hx hE59
                  have hr27_0 := hE59.ownT hr27_0 (by decide) (by decide) hrB
                  have hv38_g20_2 := hE59.ownT hv38_g20_2 (by decide) (by decide) hrB
                  have hb_g20 := hE59.blk hb_g20 (by decide)
                  refine L_fa (o' := 2) rfl fa_36_2 ((hS59 5 rfl).trans sf5) rfl ?_
                  exact L_nil ⟨rfl, (ext_refl _), _, _, rfl, rfl, rfl⟩
                refine opsR_cons (by decide) (fun f w_ hS59 hE59 hbr59 hP59 => ?_) ?_
                ·
                  have hx := fr1_trans hx hE59
                  have hr27_0 := hE59.ownT hr27_0 (by decide) (by decide) hrB
                  have hv38_g20_2 := hE59.ownT hv38_g20_2 (by decide) (by decide) hrB
                  have hb_g20 := hE59.blk hb_g20 (by decide)
                  refine L_ld (v := v38_g20_2) rfl Try.isAgg23 (hP59 0 29 rfl rfl) (hb_g20.cell (j := 2) rfl) ?_
                  exact L_nil ⟨rfl, (ext_refl _), _, _, rfl, rfl, rfl⟩
                refine opsR_cons (by decide) (fun f w_ hS59 hE59 hbr59 hP59 => ?_) ?_
                ·
                  have hx := fr1_trans hx hE59
                  refine L_mv (v := .pointer (some ⟨g_r, 0, none⟩)) rfl ((hS59 0 rfl).trans sf0) ?_
                  exact L_nil ⟨rfl, (ext_refl _), _, _, rfl, rfl, rfl⟩
                refine opsR_cons (by decide) (fun f w_ hS59 hE59 hbr59 hP59 => ?_) ?_
                ·
                  have hx := fr1_trans hx hE59
                  refine L_bs rfl (parts6 rfl rfl rfl rfl rfl rfl) (bs_23_6_0_0_0_0_0_0 (.int .i64 1) (.int .i64 (-1)) (.int .i64 2) (.int .i64 1) (.int .i64 (-2)) (.int .i64 3) rfl rfl rfl rfl rfl rfl) ?_
                  intro g70 w71 hn71
                  have ho71 : Own RP.int 3 w.heap.size B w71 _ [1, (-1), 2, 1, (-2), 3] := own_lit rfl hn71 rfl (by decide) hx.size (by intro i z hz; rcases i with _ | _ | _ | _ | _ | _ | i <;> simp at hz <;> subst hz <;> rfl)
                  have hx := fr1_ext hx hn71.ext hgl
                  exact L_nil ⟨rfl, hn71.ext, _, _, rfl, rfl, ho71⟩
                refine opsR_draw 0 rfl (by first | exact .inl rfl | exact .inr ⟨_, rfl, by decide⟩) (fun f w_ hS59 hE59 hbr59 hP59 => ?_) ?_
                ·
                  have hx := fr1_trans hx hE59
                  have hrb := hE59.rel hrb (by decide) hrB
                  have hb_g_r : Blk w_ g_r 86 #[v_r, .int .i64 g_r_1_37] := hbr59
                  have hd72 := (hP59 3 32 rfl rfl)
                  refine L_call (args := #[.pointer (some ⟨g_r, 0, none⟩), (f 32)]) rfl Try.call49 (ops2 (hP59 2 31 rfl rfl) rfl) (s_l17Rd_num_c (r_ := ({ b := r_.b, p := g_r_1_37 } : Rd)) (list := [1, (-1), 2, 1, (-2), 3]) (Nat.le_trans hB hx.size) hb_g_r (rel0 hrb) hrB (rel0 (Own.rel hd72)) hx46) ?_
                  rintro _ w73 ⟨⟨rfl, hbn73⟩, he73⟩
                  have hrb := he73.rel hrb (by decide) hrB
                  have hd72 := he73.ownT hd72 (by decide) (by decide) hrB
                  have hx := fr1_trans hx he73
                  have hb_g_r := hbn73
                  exact L_nil ⟨rfl, he73, hb_g_r, _, _, rfl, rfl, rfl⟩
                refine opsR_cons (by decide) (fun f w_ hS59 hE59 hbr59 hP59 => ?_) ?_
                ·
                  have hx := fr1_trans hx hE59
                  refine L_bs rfl (parts1 (hP59 4 33 rfl rfl)) (bs_23_1_0 (.int .i64 x46.1) rfl) ?_
                  intro g74 w75 hn75
                  have ho75 : Own RP.int 3 w.heap.size B w75 _ [x46.1] := own_new1 hn75 hx.size rfl
                  have hx := fr1_ext hx hn75.ext hgl
                  exact L_nil ⟨rfl, hn75.ext, _, _, rfl, rfl, ho75⟩
                exact opsR_nil
              ·
                have hrb := hE59.rel hrb (by decide) hrB
                have hr27_0 := hE59.ownT hr27_0 (by decide) (by decide) hrB
                have hv38_g20_2 := hE59.ownT hv38_g20_2 (by decide) (by decide) hrB
                have hb_g20 := hE59.blk hb_g20 (by decide)
                have hb_g7 := hE59.blk hb_g7 (by decide)
                have hx := fr1_trans hx hE59
                have hb_g_r : Blk w_ g_r 86 #[v_r, .int .i64 x46.2] := hbr59
                have hd76 := (hT59 5 34 rfl rfl)
                refine L_app (v := v38_g20_2) (u := (f 34)) rfl et_23 (by decide) (hT59 1 30 rfl rfl) rfl hv38_g20_2 (rel0 (Own.rel hd76)) hx53 hx.size hB ?_
                intro v77 w77 ho77 hm77 hb77
                have ap78 := ap_oa (v' := v77) (u := v38_g20_2) hr27_0 hb77 (Ap.symm aq39)
                have hrb := hm77.rel hrb (by decide) (Nat.le_trans hB (Nat.le_refl _))
                have hb_g_r := hm77.blk hb_g_r (by decide)
                have hr27_0 := hm77.ownA hr27_0 aq39 (by decide) (Nat.le_trans hB (Nat.le_refl _))
                have hb_g20 := hm77.blk hb_g20 (by decide)
                have hb_g7 := hm77.blk hb_g7 (by decide)
                have hx := fr1_mut hx hm77 (Nat.le_refl _) hgl
                refine L_fa (o' := 2) rfl fa_36_2 ((hS59 5 rfl).trans sf5) rfl ?_
                refine L_st (v := v77) rfl Try.sizeOf23 rfl rfl (one_of (Own.rel ho77)) hb_g20 rfl ?_
                intro w79 hp79
                have hrb := hp79.mu.rel hrb (by decide) (Nat.le_trans hB hge_g20)
                have hb_g_r := hp79.mu.blk hb_g_r (by decide)
                have hr27_0 := hp79.mu.ownT hr27_0 (by decide) (by decide) (Nat.le_trans hB hge_g20)
                have hb_g7 := hp79.mu.blkA hb_g7 (Ap.symm ap22)
                have ho77 := hp79.mu.ownT ho77 (by decide) (by decide) (Nat.le_trans hB hge_g20)
                have hx := fr1_mut hx hp79.mu hge_g20 hgl
                have hb_g20 : Blk w79 g20 36 #[.int .i64 x11.1, r27_0, v77, .int .i64 0, (.slice none 0 0)] := hp79.blk
                refine L_nil ?_
                refine W_region ?_
                refine L_mv (v := .int .i64 (i_36 : Int)) rfl ((hS59 6 rfl).trans sf6) ?_
                refine L_add (m := (i_36 : Int)) (n := 1) rfl rfl rfl ?_
                refine L_as (v := .int .i64 (i64 ((i_36 : Int) + 1))) rfl rfl ?_
                refine L_nil ?_
                obtain rfl := so hB40
                show ∃ m, m < _ ∧ I40 m _ _
                refine ⟨rest40.length, by simp, ?_⟩
                rw [hI40]
                exact ⟨i_36 + 1, rest40, x46.2, x53, v77, rfl, drop_next hd40, by simp at hl40; omega, hL40, ((hS59 0 rfl).trans sf0), ((hS59 4 rfl).trans sf4), ((hS59 5 rfl).trans sf5), (Eq.trans rfl (congrArg (Value.int .i64) (i64_succ (n := x24.1.length) (by simp at hl40; omega) hlen40))), hrb, hb_g_r, hr27_0, ho77, hb_g20, hb_g7, (Ap.symm ap78), hx⟩
          ·
            cases suf40 with
            | cons _ _ => exact absurd (of_decide_eq_false hc41) (by simp at hl40; omega)
            | nil =>
              obtain rfl := range_nil hL40
              refine W_exit ?_
              show R40 _ _
              rw [hR40]
              exact ⟨g_r_1_37, g20_2_38, v38_g20_2, rfl, sf0, sf4, sf5, hrb, hb_g_r, hr27_0, hv38_g20_2, hb_g20, hb_g7, aq39, hx⟩
      ·
        intro f w_ hR
        rw [hR40] at hR
        obtain ⟨g_r_1_37, g20_2_38, v38_g20_2, rfl, sf0, sf4, sf5, hrb, hb_g_r, hr27_0, hv38_g20_2, hb_g20, hb_g7, aq39, hx⟩ := hR
        clear hR40
        obtain ⟨x84, hx84, hA34⟩ := bind_some hA34
        refine W_region ?_
        refine L_mv (v := .pointer (some ⟨g_r, 0, none⟩)) rfl sf0 ?_
        refine L_bs rfl (parts7 rfl rfl rfl rfl rfl rfl rfl) (bs_23_7_0_0_0_0_0_0_0 (.int .i64 1) (.int .i64 2) (.int .i64 0) (.int .i64 (-1)) (.int .i64 3) (.int .i64 (-3)) (.int .i64 4) rfl rfl rfl rfl rfl rfl rfl) ?_
        intro g87 w88 hn88
        have ho88 : Own RP.int 3 w.heap.size B w88 _ [1, 2, 0, (-1), 3, (-3), 4] := own_lit rfl hn88 rfl (by decide) hx.size (by intro i z hz; rcases i with _ | _ | _ | _ | _ | _ | _ | i <;> simp at hz <;> subst hz <;> rfl)
        have ap89 := ap_ob hr27_0 hn88
        have ap90 := ap_ob hv38_g20_2 hn88
        have hrb := RP.ext hrb hn88.ext
        have hb_g_r := Blk.ext hb_g_r hn88.ext
        have hr27_0 := Own.ext hr27_0 hn88.ext
        have hv38_g20_2 := Own.ext hv38_g20_2 hn88.ext
        have hb_g20 := Blk.ext hb_g20 hn88.ext
        have hb_g7 := Blk.ext hb_g7 hn88.ext
        have hx := fr1_ext hx hn88.ext hgl
        refine L_call (args := #[.pointer (some ⟨g_r, 0, none⟩), (.slice (some ⟨g87, 0, none⟩) 7 7)]) rfl Try.call49 (ops2 rfl rfl) (s_l17Rd_num_c (r_ := ({ b := r_.b, p := g_r_1_37 } : Rd)) (list := [1, 2, 0, (-1), 3, (-3), 4]) (Nat.le_trans hB hx.size) hb_g_r (rel0 hrb) hrB (rel0 (Own.rel ho88)) hx84) ?_
        rintro _ w91 ⟨⟨rfl, hbn91⟩, he91⟩
        have hrb := he91.rel hrb (by decide) hrB
        have hr27_0 := he91.ownT hr27_0 (by decide) (by decide) hrB
        have hv38_g20_2 := he91.ownT hv38_g20_2 (by decide) (by decide) hrB
        have hb_g20 := he91.blk hb_g20 (by decide)
        have hb_g7 := he91.blk hb_g7 (by decide)
        have ho88 := he91.ownT ho88 (by decide) (by decide) hrB
        have hx := fr1_trans hx he91
        have hb_g_r := hbn91
        refine L_fa (o' := 3) rfl fa_36_3 sf5 rfl ?_
        refine L_st (v := .int .i64 x84.1) rfl Try.sizeOf3 rfl rfl rfl hb_g20 rfl ?_
        intro w92 hp92
        have hrb := hp92.mu.rel hrb (by decide) (Nat.le_trans hB hge_g20)
        have hb_g_r := hp92.mu.blk hb_g_r (by decide)
        have hr27_0 := hp92.mu.ownT hr27_0 (by decide) (by decide) (Nat.le_trans hB hge_g20)
        have hv38_g20_2 := hp92.mu.ownT hv38_g20_2 (by decide) (by decide) (Nat.le_trans hB hge_g20)
        have hb_g7 := hp92.mu.blkA hb_g7 (Ap.symm ap22)
        have hx := fr1_mut hx hp92.mu hge_g20 hgl
        have hb_g20 : Blk w92 g20 36 #[.int .i64 x11.1, r27_0, v38_g20_2, .int .i64 x84.1, (.slice none 0 0)] := hp92.blk
        refine L_nil ?_
        obtain ⟨rfl, rfl, rfl, rfl, rfl⟩ := so5 hA34
        show R34 _ _
        rw [hR34]
        exact ⟨r27_0, v38_g20_2, (.slice none 0 0), sf4, sf5, hrb, hb_g_r, (rel0 (Own.rel hr27_0)), hv38_g20_2, (Own.nil _ _ _ _ _), hb_g20, hb_g7, hx⟩
    ·
      have hA34 := (ite_f hc35).symm.trans hA34
      refine W_seq ?_
      refine W_region ?_
      refine L_eql (m := x11.1) (n := 3) rfl rfl rfl ?_
      refine L_as (v := .bool (x11.1 == 3)) rfl rfl ?_
      refine L_nil ?_
      obtain ⟨⟨g_r_1_93, g20_1_94, g20_4_95⟩, hA96, hA34⟩ := bind_some hA34
      obtain ⟨R96, hR96⟩ : ∃ R : Fr → World → Prop, R = fun f w_ => ∃ v94_g20_1 : Value, ∃ v95_g20_4 : Value, f 4 = .pointer (some ⟨g7, 0, none⟩) ∧ f 5 = .pointer (some ⟨g20, 0, none⟩) ∧ (RP.slice 5 RP.u8).rel B w.heap.size w_ [v_r] r_.b ∧ Blk w_ g_r 86 #[v_r, .int .i64 g_r_1_93] ∧ (RP.slice 3 RP.int).rel B w_.heap.size w_ [v94_g20_1] g20_1_94 ∧ Own (RP.slice 3 RP.int) 23 w.heap.size B w_ v95_g20_4 g20_4_95 ∧ Blk w_ g20 36 #[.int .i64 x11.1, v94_g20_1, (.slice none 0 0), .int .i64 0, v95_g20_4] ∧ Blk w_ g7 36 #[.int .i64 0, (.slice none 0 0), (.slice none 0 0), .int .i64 0, (.slice none 0 0)] ∧ Mut g_r (some g_r) 86 w w_ := ⟨_, rfl⟩
      refine W_join R96 ?_ ?_
      ·
        refine W_cond (b := (x11.1 == 3)) rfl (fun hc97 => ?_) (fun hc97 => ?_)
        ·
          have hA96 := (ite_t hc97).symm.trans hA96
          refine W_seq ?_
          obtain ⟨x101, hx101, hA96⟩ := bind_some hA96
          refine W_region ?_
          refine L_mv (v := .pointer (some ⟨g_r, 0, none⟩)) rfl rfl ?_
          refine L_bs rfl (parts6 rfl rfl rfl rfl rfl rfl) (bs_23_6_0_0_0_0_0_0 (.int .i64 3) (.int .i64 4) (.int .i64 2) (.int .i64 6) (.int .i64 0) (.int .i64 8) rfl rfl rfl rfl rfl rfl) ?_
          intro g103 w104 hn104
          have ho104 : Own RP.int 3 w.heap.size B w104 _ [3, 4, 2, 6, 0, 8] := own_lit rfl hn104 rfl (by decide) hx.size (by intro i z hz; rcases i with _ | _ | _ | _ | _ | _ | i <;> simp at hz <;> subst hz <;> rfl)
          have ap105 := ap_ob hr27_0 hn104
          have hrb := RP.ext hrb hn104.ext
          have hb_g_r := Blk.ext hb_g_r hn104.ext
          have hb_g7 := Blk.ext hb_g7 hn104.ext
          have hb_g20 := Blk.ext hb_g20 hn104.ext
          have hr27_0 := Own.ext hr27_0 hn104.ext
          have hx := fr1_ext hx hn104.ext hgl
          refine L_call (args := #[.pointer (some ⟨g_r, 0, none⟩), (.slice (some ⟨g103, 0, none⟩) 6 6)]) rfl Try.call49 (ops2 rfl rfl) (s_l17Rd_num_c (r_ := ({ b := r_.b, p := x24.2 } : Rd)) (list := [3, 4, 2, 6, 0, 8]) (Nat.le_trans hB hx.size) hb_g_r (rel0 hrb) hrB (rel0 (Own.rel ho104)) hx101) ?_
          rintro _ w106 ⟨⟨rfl, hbn106⟩, he106⟩
          have hrb := he106.rel hrb (by decide) hrB
          have hb_g7 := he106.blk hb_g7 (by decide)
          have hb_g20 := he106.blk hb_g20 (by decide)
          have hr27_0 := he106.ownT hr27_0 (by decide) (by decide) hrB
          have ho104 := he106.ownT ho104 (by decide) (by decide) hrB
          have hx := fr1_trans hx he106
          have hb_g_r := hbn106
          refine L_as (v := .int .i64 x101.1) rfl rfl ?_
          refine L_nil ?_
          obtain ⟨j111, hL111, hA96⟩ := bind_some hA96
          obtain ⟨R111, hR111⟩ : ∃ R : Fr → World → Prop, R = fun f w_ => ∃ i_108 : Int, ∃ g_r_1_109 : Int, ∃ g20_4_110 : List (List Int), ∃ v110_g20_4 : Value, j111 = .nx (i_108, g_r_1_109, g20_4_110) ∧ f 4 = .pointer (some ⟨g7, 0, none⟩) ∧ f 5 = .pointer (some ⟨g20, 0, none⟩) ∧ (RP.slice 5 RP.u8).rel B w.heap.size w_ [v_r] r_.b ∧ Blk w_ g_r 86 #[v_r, .int .i64 g_r_1_109] ∧ Own RP.int 3 w.heap.size B w_ r27_0 x24.1 ∧ Own (RP.slice 3 RP.int) 23 w.heap.size B w_ v110_g20_4 g20_4_110 ∧ Blk w_ g20 36 #[.int .i64 x11.1, r27_0, (.slice none 0 0), .int .i64 0, v110_g20_4] ∧ Blk w_ g7 36 #[.int .i64 0, (.slice none 0 0), (.slice none 0 0), .int .i64 0, (.slice none 0 0)] ∧ Mut g_r (some g_r) 86 w w_ := ⟨_, rfl⟩
          refine W_join R111 ?_ ?_
          ·
            refine W_block ?_
            obtain ⟨I111, hI111⟩ : ∃ I : Nat → Fr → World → Prop, I = fun n f w_ => ∃ i_108 : Int, ∃ g_r_1_109 : Int, ∃ g20_4_110 : List (List Int), ∃ v110_g20_4 : Value, whileL (s_l6Draw_b2 r_ x24) n (i_108, g_r_1_109, g20_4_110) = some j111 ∧ f 0 = .pointer (some ⟨g_r, 0, none⟩) ∧ f 4 = .pointer (some ⟨g7, 0, none⟩) ∧ f 5 = .pointer (some ⟨g20, 0, none⟩) ∧ f 7 = .int .i64 i_108 ∧ (RP.slice 5 RP.u8).rel B w.heap.size w_ [v_r] r_.b ∧ Blk w_ g_r 86 #[v_r, .int .i64 g_r_1_109] ∧ Own RP.int 3 w.heap.size B w_ r27_0 x24.1 ∧ Own (RP.slice 3 RP.int) 23 w.heap.size B w_ v110_g20_4 g20_4_110 ∧ Blk w_ g20 36 #[.int .i64 x11.1, r27_0, (.slice none 0 0), .int .i64 0, v110_g20_4] ∧ Blk w_ g7 36 #[.int .i64 0, (.slice none 0 0), (.slice none 0 0), .int .i64 0, (.slice none 0 0)] ∧ Mut g_r (some g_r) 86 w w_ := ⟨_, rfl⟩
            refine W_loop I111 (n := fu) ?_ ?_
            · rw [hI111]; exact ⟨x101.1, x101.2, [], (.slice none 0 0), hL111, rfl, rfl, rfl, rfl, hrb, hb_g_r, hr27_0, (Own.nil _ _ _ _ _), hb_g20, hb_g7, hx⟩
            ·
              intro n111 f w_ hI
              rw [hI111] at hI
              obtain ⟨i_108, g_r_1_109, g20_4_110, v110_g20_4, hL111, sf0, sf4, sf5, sf7, hrb, hb_g_r, hr27_0, hv110_g20_4, hb_g20, hb_g7, hx⟩ := hI
              cases n111 with
              | zero => exact (while_zero hL111).elim
              | succ n111 =>
                obtain ⟨o111, hB111, hL111⟩ := while_succ hL111
                rw [s_l6Draw_b2] at hB111
                refine W_seq ?_
                refine W_seq ?_
                refine W_region ?_
                refine L_mv (v := .int .i64 i_108) rfl sf7 ?_
                refine L_gtr (m := i_108) (n := 0) rfl rfl rfl ?_
                refine L_nil ?_
                refine W_cond (b := decide (i_108 > 0)) rfl (fun hc112 => ?_) (fun hc112 => ?_)
                ·
                  have hB111 := (ite_t hc112).symm.trans hB111
                  refine W_skip ?_
                  refine W_seq ?_
                  refine W_block ?_
                  refine W_seq ?_
                  obtain ⟨wL113, hwL113⟩ : ∃ x, x = w_ := ⟨_, rfl⟩
                  subst hwL113
                  have hrb_s113 := hrb
                  have hrb := rel0 hrb
                  have hr27_0_s113 := hr27_0
                  have hr27_0 := rel0 (Own.rel hr27_0)
                  have hv110_g20_4_s113 := hv110_g20_4
                  have hv110_g20_4 := rel0 (Own.rel hv110_g20_4)
                  have hb_g20_s113 := hb_g20
                  have hb_g7_s113 := hb_g7
                  have hx_s113 := hx
                  have hB_s113 := hB
                  have hB : B ≤ wL113.heap.size := Nat.le_trans hB hx.size
                  have hgl_s113 := hgl
                  have hgl := hb_g_r.lt
                  have hx := fr1_refl hb_g_r
                  refine W_region ?_
                  refine L_bs rfl parts0 (bs_23_0  ) ?_
                  intro g116 w117 hn117
                  have ho117 : Own RP.int 3 wL113.heap.size B w117 _ _ := own_new0 hn117 hx.size
                  have hz117 := zero_new hn117 hx.size
                  have hrb := RP.ext hrb hn117.ext
                  have hb_g_r := Blk.ext hb_g_r hn117.ext
                  have hr27_0 := RP.ext hr27_0 hn117.ext
                  have hv110_g20_4 := RP.ext hv110_g20_4 hn117.ext
                  have hb_g20 := Blk.ext hb_g20 hn117.ext
                  have hb_g7 := Blk.ext hb_g7 hn117.ext
                  have hx := fr1_ext hx hn117.ext hgl
                  refine L_as (v := (.slice (some ⟨g116, 0, none⟩) 0 0)) rfl rfl ?_
                  refine L_nil ?_
                  refine W_seq ?_
                  refine W_seq ?_
                  refine W_region ?_
                  refine L_as (v := .int .i64 0) rfl rfl ?_
                  refine L_nil ?_
                  have hlen121 := len_le hr27_0
                  obtain ⟨j121, hL121, hB111⟩ := bind_some hB111
                  obtain ⟨R121, hR121⟩ : ∃ R : Fr → World → Prop, R = fun f w_ => ∃ row_119 : List Int, ∃ g_r_1_120 : Int, ∃ v119_row : Value, j121 = .nx (row_119, g_r_1_120) ∧ f 0 = .pointer (some ⟨g_r, 0, none⟩) ∧ f 4 = .pointer (some ⟨g7, 0, none⟩) ∧ f 5 = .pointer (some ⟨g20, 0, none⟩) ∧ f 7 = .int .i64 i_108 ∧ f 8 = v119_row ∧ Own RP.int 3 wL113.heap.size B w_ v119_row row_119 ∧ (RP.slice 5 RP.u8).rel B wL113.heap.size w_ [v_r] r_.b ∧ Blk w_ g_r 86 #[v_r, .int .i64 g_r_1_120] ∧ (RP.slice 3 RP.int).rel B wL113.heap.size w_ [r27_0] x24.1 ∧ (RP.slice 23 (RP.slice 3 RP.int)).rel B wL113.heap.size w_ [v110_g20_4] g20_4_110 ∧ Blk w_ g20 36 #[.int .i64 x11.1, r27_0, (.slice none 0 0), .int .i64 0, v110_g20_4] ∧ Blk w_ g7 36 #[.int .i64 0, (.slice none 0 0), (.slice none 0 0), .int .i64 0, (.slice none 0 0)] ∧ Mut g_r (some g_r) 86 wL113 w_ := ⟨_, rfl⟩
                  refine W_join R121 ?_ ?_
                  ·
                    refine W_block ?_
                    obtain ⟨I121, hI121⟩ : ∃ I : Nat → Fr → World → Prop, I = fun n f w_ => ∃ i_118 : Nat, ∃ suf121 : List Int, ∃ row_119 : List Int, ∃ g_r_1_120 : Int, ∃ v119_row : Value, n = suf121.length ∧ List.drop i_118 x24.1 = suf121 ∧ i_118 + suf121.length = x24.1.length ∧ rangeL (s_l6Draw_b3 r_) suf121 i_118 (row_119, g_r_1_120) = some j121 ∧ f 0 = .pointer (some ⟨g_r, 0, none⟩) ∧ f 4 = .pointer (some ⟨g7, 0, none⟩) ∧ f 5 = .pointer (some ⟨g20, 0, none⟩) ∧ f 7 = .int .i64 i_108 ∧ f 8 = v119_row ∧ f 9 = .int .i64 (i_118 : Int) ∧ Own RP.int 3 wL113.heap.size B w_ v119_row row_119 ∧ (RP.slice 5 RP.u8).rel B wL113.heap.size w_ [v_r] r_.b ∧ Blk w_ g_r 86 #[v_r, .int .i64 g_r_1_120] ∧ (RP.slice 3 RP.int).rel B wL113.heap.size w_ [r27_0] x24.1 ∧ (RP.slice 23 (RP.slice 3 RP.int)).rel B wL113.heap.size w_ [v110_g20_4] g20_4_110 ∧ Blk w_ g20 36 #[.int .i64 x11.1, r27_0, (.slice none 0 0), .int .i64 0, v110_g20_4] ∧ Blk w_ g7 36 #[.int .i64 0, (.slice none 0 0), (.slice none 0 0), .int .i64 0, (.slice none 0 0)] ∧ Mut g_r (some g_r) 86 wL113 w_ := ⟨_, rfl⟩
                    refine W_loop I121 (n := x24.1.length) ?_ ?_
                    · rw [hI121]; exact ⟨0, x24.1, [], g_r_1_109, (.slice (some ⟨g116, 0, none⟩) 0 0), rfl, rfl, Nat.zero_add _, hL121, sf0, sf4, sf5, sf7, rfl, rfl, ho117, hrb, hb_g_r, hr27_0, hv110_g20_4, hb_g20, hb_g7, hx⟩
                    ·
                      intro n121 f w_ hI
                      rw [hI121] at hI
                      obtain ⟨i_118, suf121, row_119, g_r_1_120, v119_row, rfl, hd121, hl121, hL121, sf0, sf4, sf5, sf7, sf8, sf9, hv119_row, hrb, hb_g_r, hr27_0, hv110_g20_4, hb_g20, hb_g7, hx⟩ := hI
                      refine W_seq ?_
                      refine W_seq ?_
                      refine W_region ?_
                      refine L_mv (v := .int .i64 (i_118 : Int)) rfl sf9 ?_
                      refine L_fa (o' := 1) rfl fa_36_1 sf5 rfl ?_
                      refine L_ld (v := r27_0) rfl Try.isAgg23 rfl (hb_g20.cell (j := 1) rfl) ?_
                      refine L_len (v := r27_0) rfl Try.underlying23 rfl hr27_0 ?_
                      refine L_lss (m := (i_118 : Int)) (n := (x24.1.length : Int)) rfl rfl rfl ?_
                      refine L_nil ?_
                      refine W_cond (b := decide ((i_118 : Int) < (x24.1.length : Int))) rfl (fun hc122 => ?_) (fun hc122 => ?_)
                      ·
                        have hlt121 := of_decide_eq_true hc122
                        cases suf121 with
                        | nil => exact absurd hlt121 (by simp at hl121; omega)
                        | cons x_121 rest121 =>
                          obtain ⟨o121, hB121, hL121⟩ := range_cons hL121
                          rw [s_l6Draw_b3] at hB121
                          have hix121 := drop_idx hd121
                          refine W_skip ?_
                          refine W_seq ?_
                          refine W_block ?_
                          obtain ⟨x123, hx123, hB121⟩ := bind_some hB121
                          obtain ⟨x128, hx128, hB121⟩ := bind_some hB121
                          refine W_region ?_
                          refine L_mv (v := v119_row) rfl sf8 ?_
                          refine L_mv (v := .pointer (some ⟨g_r, 0, none⟩)) rfl sf0 ?_
                          refine L_call (args := #[.pointer (some ⟨g_r, 0, none⟩), .int .i64 4]) rfl Try.call70 (ops2 rfl rfl) (s_l17Rd_pick_c (r_ := ({ b := r_.b, p := g_r_1_120 } : Rd)) (n_ := 4) (Nat.le_trans hB hx.size) hb_g_r (rel0 hrb) hrB hx123) ?_
                          rintro _ w131 ⟨⟨rfl, hbn131⟩, he131⟩
                          have hv119_row := he131.ownT hv119_row (by decide) (by decide) hrB
                          have hrb := he131.rel hrb (by decide) hrB
                          have hr27_0 := he131.rel hr27_0 (by decide) hrB
                          have hv110_g20_4 := he131.rel hv110_g20_4 (by decide) hrB
                          have hb_g20 := he131.blk hb_g20 (by decide)
                          have hb_g7 := he131.blk hb_g7 (by decide)
                          have hx := fr1_trans hx he131
                          have hb_g_r := hbn131
                          refine L_bs rfl (parts1 rfl) (bs_23_1_0 (.int .i64 x123.1) rfl) ?_
                          intro g132 w133 hn133
                          have ho133 : Own RP.int 3 wL113.heap.size B w133 _ [x123.1] := own_new1 hn133 hx.size rfl
                          have ap134 := ap_ob hv119_row hn133
                          have hv119_row := Own.ext hv119_row hn133.ext
                          have hrb := RP.ext hrb hn133.ext
                          have hb_g_r := Blk.ext hb_g_r hn133.ext
                          have hr27_0 := RP.ext hr27_0 hn133.ext
                          have hv110_g20_4 := RP.ext hv110_g20_4 hn133.ext
                          have hb_g20 := Blk.ext hb_g20 hn133.ext
                          have hb_g7 := Blk.ext hb_g7 hn133.ext
                          have hx := fr1_ext hx hn133.ext hgl
                          refine L_app (v := v119_row) (u := (.slice (some ⟨g132, 0, none⟩) 1 1)) rfl et_23 (by decide) rfl rfl hv119_row (rel0 (Own.rel ho133)) hx128 hx.size hB ?_
                          intro v135 w135 ho135 hm135 hb135
                          have hrb := hm135.rel hrb (by decide) (Nat.le_trans hB (Nat.le_refl _))
                          have hb_g_r := hm135.blk hb_g_r (by decide)
                          have hr27_0 := hm135.rel_lo hr27_0 (Nat.le_refl _)
                          have hv110_g20_4 := hm135.rel_lo hv110_g20_4 (Nat.le_refl _)
                          have hb_g20 := hm135.blk hb_g20 (by decide)
                          have hb_g7 := hm135.blk hb_g7 (by decide)
                          have hx := fr1_mut hx hm135 (Nat.le_refl _) hgl
                          refine L_as (v := v135) rfl rfl ?_
                          refine L_nil ?_
                          refine W_region ?_
                          refine L_mv (v := .int .i64 (i_118 : Int)) rfl sf9 ?_
                          refine L_add (m := (i_118 : Int)) (n := 1) rfl rfl rfl ?_
                          refine L_as (v := .int .i64 (i64 ((i_118 : Int) + 1))) rfl rfl ?_
                          refine L_nil ?_
                          obtain rfl := so hB121
                          show ∃ m, m < _ ∧ I121 m _ _
                          refine ⟨rest121.length, by simp, ?_⟩
                          rw [hI121]
                          exact ⟨i_118 + 1, rest121, x128, x123.2, v135, rfl, drop_next hd121, by simp at hl121; omega, hL121, sf0, sf4, sf5, sf7, rfl, (Eq.trans rfl (congrArg (Value.int .i64) (i64_succ (n := x24.1.length) (by simp at hl121; omega) hlen121))), ho135, hrb, hb_g_r, hr27_0, hv110_g20_4, hb_g20, hb_g7, hx⟩
                      ·
                        cases suf121 with
                        | cons _ _ => exact absurd (of_decide_eq_false hc122) (by simp at hl121; omega)
                        | nil =>
                          obtain rfl := range_nil hL121
                          refine W_exit ?_
                          show R121 _ _
                          rw [hR121]
                          exact ⟨row_119, g_r_1_120, v119_row, rfl, sf0, sf4, sf5, sf7, sf8, hv119_row, hrb, hb_g_r, hr27_0, hv110_g20_4, hb_g20, hb_g7, hx⟩
                  ·
                    intro f w_ hR
                    rw [hR121] at hR
                    obtain ⟨row_119, g_r_1_120, v119_row, rfl, sf0, sf4, sf5, sf7, sf8, hv119_row, hrb, hb_g_r, hr27_0, hv110_g20_4, hb_g20, hb_g7, hx⟩ := hR
                    clear hR121
                    have hL113 := hx
                    have hrb := hL113.rel hrb_s113 (by decide) hrB
                    have hr27_0 := hL113.ownT hr27_0_s113 (by decide) (by decide) hrB
                    have hv110_g20_4 := hL113.ownT hv110_g20_4_s113 (by decide) (by decide) hrB
                    have hb_g20 := hL113.blk hb_g20_s113 (by decide)
                    have hb_g7 := hL113.blk hb_g7_s113 (by decide)
                    have ap136 := ap_ltOV (fun k h => (hr27_0_s113.lt k h).2) hv119_row
                    have hv119_row := hv119_row.wide hx_s113.size (Nat.le_refl _)
                    have hx := fr1_trans hx_s113 hL113
                    have hB := hB_s113
                    have hgl := hgl_s113
                    obtain ⟨x140, hx140, hB111⟩ := bind_some hB111
                    refine W_region ?_
                    refine L_fa (o' := 4) rfl fa_36_4 sf5 rfl ?_
                    refine L_ld (v := v110_g20_4) rfl Try.isAgg34 rfl (hb_g20.cell (j := 4) rfl) ?_
                    refine L_mv (v := v119_row) rfl sf8 ?_
                    refine L_bs rfl (parts1 rfl) (bs_34_1_0 (v119_row) (one_of (Own.rel hv119_row))) ?_
                    intro g144 w145 hn145
                    have ho145 : Own (RP.slice 3 RP.int) 23 w.heap.size B w145 _ [row_119] := own_new1 hn145 hx.size (rel0 (Own.rel hv119_row))
                    have ap146 := ap_ob hv110_g20_4 hn145
                    have hrb := RP.ext hrb hn145.ext
                    have hr27_0 := Own.ext hr27_0 hn145.ext
                    have hv110_g20_4 := Own.ext hv110_g20_4 hn145.ext
                    have hb_g20 := Blk.ext hb_g20 hn145.ext
                    have hb_g7 := Blk.ext hb_g7 hn145.ext
                    have hv119_row := Own.ext hv119_row hn145.ext
                    have hb_g_r := Blk.ext hb_g_r hn145.ext
                    have hx := fr1_ext hx hn145.ext hgl
                    refine L_app (v := v110_g20_4) (u := (.slice (some ⟨g144, 0, none⟩) 1 1)) rfl et_34 (by decide) rfl rfl hv110_g20_4 (rel0 (Own.rel ho145)) hx140 hx.size hB ?_
                    intro v147 w147 ho147 hm147 hb147
                    have hrb := hm147.rel hrb (by decide) (Nat.le_trans hB (Nat.le_refl _))
                    have hr27_0 := hm147.ownT hr27_0 (by decide) (by decide) (Nat.le_trans hB (Nat.le_refl _))
                    have hb_g20 := hm147.blk hb_g20 (by decide)
                    have hb_g7 := hm147.blk hb_g7 (by decide)
                    have hb_g_r := hm147.blk hb_g_r (by decide)
                    have hx := fr1_mut hx hm147 (Nat.le_refl _) hgl
                    refine L_fa (o' := 4) rfl fa_36_4 sf5 rfl ?_
                    refine L_st (v := v147) rfl Try.sizeOf34 rfl rfl (one_of (Own.rel ho147)) hb_g20 rfl ?_
                    intro w148 hp148
                    have hrb := hp148.mu.rel hrb (by decide) (Nat.le_trans hB hge_g20)
                    have hr27_0 := hp148.mu.ownT hr27_0 (by decide) (by decide) (Nat.le_trans hB hge_g20)
                    have hb_g7 := hp148.mu.blkA hb_g7 (Ap.symm ap22)
                    have hb_g_r := hp148.mu.blk hb_g_r (by decide)
                    have ho147 := hp148.mu.ownT ho147 (by decide) (by decide) (Nat.le_trans hB hge_g20)
                    have hx := fr1_mut hx hp148.mu hge_g20 hgl
                    have hb_g20 : Blk w148 g20 36 #[.int .i64 x11.1, r27_0, (.slice none 0 0), .int .i64 0, v147] := hp148.blk
                    refine L_nil ?_
                    refine W_region ?_
                    refine L_mv (v := .int .i64 i_108) rfl sf7 ?_
                    refine L_sub (m := i_108) (n := 1) rfl rfl rfl ?_
                    refine L_as (v := .int .i64 (i64 (i_108 - 1))) rfl rfl ?_
                    refine L_nil ?_
                    obtain rfl := so hB111
                    show ∃ m, m < _ ∧ I111 m _ _
                    refine ⟨n111, Nat.lt_succ_self _, ?_⟩
                    rw [hI111]
                    exact ⟨i64 (i_108 - 1), g_r_1_120, x140, v147, hL111, sf0, sf4, sf5, rfl, hrb, hb_g_r, hr27_0, ho147, hb_g20, hb_g7, hx⟩
                ·
                  have hB111 := (ite_f hc112).symm.trans hB111
                  refine W_exit ?_
                  obtain rfl := so hB111
                  obtain rfl := so hL111
                  show R111 _ _
                  rw [hR111]
                  exact ⟨i_108, g_r_1_109, g20_4_110, v110_g20_4, rfl, sf4, sf5, hrb, hb_g_r, hr27_0, hv110_g20_4, hb_g20, hb_g7, hx⟩
          ·
            intro f w_ hR
            rw [hR111] at hR
            obtain ⟨i_108, g_r_1_109, g20_4_110, v110_g20_4, rfl, sf4, sf5, hrb, hb_g_r, hr27_0, hv110_g20_4, hb_g20, hb_g7, hx⟩ := hR
            clear hR111
            obtain ⟨rfl, rfl, rfl⟩ := so3 hA96
            show R96 _ _
            rw [hR96]
            exact ⟨r27_0, v110_g20_4, sf4, sf5, hrb, hb_g_r, (rel0 (Own.rel hr27_0)), hv110_g20_4, hb_g20, hb_g7, hx⟩
        ·
          have hA96 := (ite_f hc97).symm.trans hA96
          refine W_seq ?_
          refine W_region ?_
          refine L_eql (m := x11.1) (n := 4) rfl rfl rfl ?_
          refine L_as (v := .bool (x11.1 == 4)) rfl rfl ?_
          refine L_nil ?_
          obtain ⟨⟨g_r_1_149, g20_1_150⟩, hA151, hA96⟩ := bind_some hA96
          obtain ⟨R151, hR151⟩ : ∃ R : Fr → World → Prop, R = fun f w_ => ∃ v150_g20_1 : Value, f 4 = .pointer (some ⟨g7, 0, none⟩) ∧ f 5 = .pointer (some ⟨g20, 0, none⟩) ∧ (RP.slice 5 RP.u8).rel B w.heap.size w_ [v_r] r_.b ∧ Blk w_ g_r 86 #[v_r, .int .i64 g_r_1_149] ∧ (RP.slice 3 RP.int).rel B w_.heap.size w_ [v150_g20_1] g20_1_150 ∧ Blk w_ g20 36 #[.int .i64 x11.1, v150_g20_1, (.slice none 0 0), .int .i64 0, (.slice none 0 0)] ∧ Blk w_ g7 36 #[.int .i64 0, (.slice none 0 0), (.slice none 0 0), .int .i64 0, (.slice none 0 0)] ∧ Mut g_r (some g_r) 86 w w_ := ⟨_, rfl⟩
          refine W_join R151 ?_ ?_
          ·
            refine W_cond (b := (x11.1 == 4)) rfl (fun hc152 => ?_) (fun hc152 => ?_)
            ·
              have hA151 := (ite_t hc152).symm.trans hA151
              obtain ⟨x153, hx153, hA151⟩ := bind_some hA151
              obtain ⟨x156, hx156, hA151⟩ := bind_some hA151
              refine W_region ?_
              refine L_mv (v := .pointer (some ⟨g_r, 0, none⟩)) rfl rfl ?_
              refine L_lda (cs := [v1_0, v1_1]) rfl Try.isAgg26 Try.sizeOf26 rfl (Blk.sub hb_g5 0 2) rfl ?_
              refine L_call (args := #[.pointer (some ⟨g_r, 0, none⟩), .agg #[v1_0, v1_1], .int .i64 2]) rfl Try.call97 (ops3 rfl rfl rfl) (s_l6Some_c (r_ := ({ b := r_.b, p := x24.2 } : Rd)) (m := m) (least := 2) (Nat.le_trans hB hx.size) hb_g_r (rel0 hrb) hrB (rel0 h1_0) (rel0 h1_1) hx153) ?_
              rintro r159_0 w159 ⟨⟨⟨_, rfl, hr159_0⟩, hbn159⟩, he159⟩
              have ap160 := ap_oc hr27_0 hr159_0
              have hr159_0 : Own _ _ w.heap.size B _ _ _ := hr159_0.wide hx.size (Nat.le_refl _)
              have hrb := he159.rel hrb (by decide) hrB
              have h1_0 := he159.rel h1_0 (by decide) hrB
              have h1_1 := he159.rel h1_1 (by decide) hrB
              have hb_g7 := he159.blk hb_g7 (by decide)
              have hb_g20 := he159.blk hb_g20 (by decide)
              have hr27_0 := he159.ownT hr27_0 (by decide) (by decide) hrB
              have hx := fr1_trans hx he159
              have hb_g_r := hbn159
              refine L_sl (a := 0) (b := 2) rfl et_23 rfl (Own.rel hr159_0) rfl rfl hx156 ?_
              intro v161 hs161
              refine L_fa (o' := 1) rfl fa_36_1 rfl rfl ?_
              refine L_st (v := v161) rfl Try.sizeOf23 rfl rfl (one_of hs161) hb_g20 rfl ?_
              intro w162 hp162
              have hrb := hp162.mu.rel hrb (by decide) (Nat.le_trans hB hge_g20)
              have hb_g_r := hp162.mu.blk hb_g_r (by decide)
              have hb_g7 := hp162.mu.blkA hb_g7 (Ap.symm ap22)
              have hr27_0 := hp162.mu.ownT hr27_0 (by decide) (by decide) (Nat.le_trans hB hge_g20)
              have hs161 := hp162.mu.rel hs161 (by decide) (Nat.le_trans hB hge_g20)
              have hx := fr1_mut hx hp162.mu hge_g20 hgl
              have hb_g20 : Blk w162 g20 36 #[.int .i64 x11.1, v161, (.slice none 0 0), .int .i64 0, (.slice none 0 0)] := hp162.blk
              refine L_nil ?_
              obtain ⟨rfl, rfl⟩ := so2 hA151
              show R151 _ _
              rw [hR151]
              exact ⟨v161, rfl, rfl, hrb, hb_g_r, (rel0 hs161), hb_g20, hb_g7, hx⟩
            ·
              have hA151 := (ite_f hc152).symm.trans hA151
              refine W_skip ?_
              obtain ⟨rfl, rfl⟩ := so2 hA151
              show R151 _ _
              rw [hR151]
              exact ⟨r27_0, rfl, rfl, hrb, hb_g_r, (rel0 (Own.rel hr27_0)), hb_g20, hb_g7, hx⟩
          ·
            intro f w_ hR
            rw [hR151] at hR
            obtain ⟨v150_g20_1, sf4, sf5, hrb, hb_g_r, hv150_g20_1, hb_g20, hb_g7, hx⟩ := hR
            clear hR151
            obtain ⟨rfl, rfl, rfl⟩ := so3 hA96
            show R96 _ _
            rw [hR96]
            exact ⟨v150_g20_1, (.slice none 0 0), sf4, sf5, hrb, hb_g_r, (rel0 hv150_g20_1), (Own.nil _ _ _ _ _), hb_g20, hb_g7, hx⟩
      ·
        intro f w_ hR
        rw [hR96] at hR
        obtain ⟨v94_g20_1, v95_g20_4, sf4, sf5, hrb, hb_g_r, hv94_g20_1, hv95_g20_4, hb_g20, hb_g7, hx⟩ := hR
        clear hR96
        obtain ⟨rfl, rfl, rfl, rfl, rfl⟩ := so5 hA34
        show R34 _ _
        rw [hR34]
        exact ⟨v94_g20_1, (.slice none 0 0), v95_g20_4, sf4, sf5, hrb, hb_g_r, (rel0 hv94_g20_1), (Own.nil _ _ _ _ _), hv95_g20_4, hb_g20, hb_g7, hx⟩
  ·
    intro f w_ hR
    rw [hR34] at hR
    obtain ⟨v30_g20_1, v31_g20_2, v33_g20_4, sf4, sf5, hrb, hb_g_r, hv30_g20_1, hv31_g20_2, hv33_g20_4, hb_g20, hb_g7, hx⟩ := hR
    clear hR34
    refine W_seq ?_
    refine W_region ?_
    refine L_lda (cs := [.int .i64 x11.1, v30_g20_1, v31_g20_2, .int .i64 g20_3_32, v33_g20_4]) rfl Try.isAgg36 Try.sizeOf36 sf5 (Blk.sub hb_g20 0 5) rfl ?_
    refine L_sta (vs := #[.int .i64 x11.1, v30_g20_1, v31_g20_2, .int .i64 g20_3_32, v33_g20_4]) rfl Try.sizeOf36 sf4 rfl rfl (ones_cons rfl (ones_cons (one_of hv30_g20_1) (ones_cons (one_of (Own.rel hv31_g20_2)) (ones_cons rfl (ones_cons (one_of (Own.rel hv33_g20_4)) ones_nil))))) hb_g7 rfl ?_
    intro w164 hp164
    have hrb := hp164.mu.rel hrb (by decide) (Nat.le_trans hB hge_g7)
    have hb_g_r := hp164.mu.blk hb_g_r (by decide)
    have hv30_g20_1 := hp164.mu.rel hv30_g20_1 (by decide) (Nat.le_trans hB hge_g7)
    have hv31_g20_2 := hp164.mu.ownT hv31_g20_2 (by decide) (by decide) (Nat.le_trans hB hge_g7)
    have hv33_g20_4 := hp164.mu.ownT hv33_g20_4 (by decide) (by decide) (Nat.le_trans hB hge_g7)
    have hx := fr1_mut hx hp164.mu hge_g7 hgl
    have hb_g7 : Blk w164 g7 36 #[.int .i64 x11.1, v30_g20_1, v31_g20_2, .int .i64 g20_3_32, v33_g20_4] := hp164.blk
    refine L_nil ?_
    refine W_ret ?_
    obtain rfl := so hF
    refine retc Try.results81 Try.isAgg36 Try.sizeOf36 sf4 hb_g7 rfl ?_
    exact ⟨⟨⟨v30_g20_1, v31_g20_2, v33_g20_4, rfl, (rel0 hv30_g20_1), hv31_g20_2, hv33_g20_4⟩, hb_g_r⟩, hx⟩

theorem s_l6Model_c {fu : Nat} {r_ : Rd} {g_r : Nat} {v_r : Value} {w : World} {B : Nat} (hB : B ≤ w.heap.size) (hb_g_r : Blk w g_r 86 #[v_r, .int .i64 r_.p]) (hrb : (RP.slice 5 RP.u8).rel B w.heap.size w [v_r] r_.b) (hrB : B ≤ g_r) {r : Model × Int} (hF : s_l6Model fu r_ = some r) :
    C Try.prog 48 #[.pointer (some ⟨g_r, 0, none⟩)] w fun v w' => ((∃ u1 u2 : Value, v = .agg #[u1, u2] ∧ (RP.slice 3 RP.int).rel B w'.heap.size w' [u1] r.1.sizes ∧ Own (rRule 3 23) 36 w.heap.size B w' u2 r.1.rules) ∧ Blk w' g_r 86 #[v_r, .int .i64 r.2]) ∧ Mut g_r (some g_r) 86 w w' := by
  unfold s_l6Model at hF
  have hgl := hb_g_r.lt
  have hx := fr1_refl hb_g_r
  refine C_enter Try.func48 rfl Try.ntmps48 rfl ?_
  refine W_seq ?_
  refine W_region ?_
  refine L_al (cs := #[(.slice none 0 0), (.slice none 0 0)]) rfl Try.zeroValue26 rfl ?_
  intro g3 w4 hn4
  have hge_g3 := hn4.geS hx.size
  have hb_g3 := hn4.blk
  have hrb := RP.ext hrb hn4.ext
  have hb_g_r := Blk.ext hb_g_r hn4.ext
  have hx := fr1_ext hx hn4.ext hgl
  refine L_nil ?_
  refine W_seq ?_
  refine W_region ?_
  refine L_bld rfl (parts0 ) (bld_26_  ) ?_
  refine L_al (cs := #[(.slice none 0 0), (.slice none 0 0)]) rfl Try.zeroValue26 rfl ?_
  intro g9 w10 hn10
  have hge_g9 := hn10.geS hx.size
  have hb_g9 := hn10.blk
  have ap11 := ap_bb hb_g3 hn10
  have hrb := RP.ext hrb hn10.ext
  have hb_g_r := Blk.ext hb_g_r hn10.ext
  have hb_g3 := Blk.ext hb_g3 hn10.ext
  have hx := fr1_ext hx hn10.ext hgl
  refine L_sta (vs := #[(.slice none 0 0), (.slice none 0 0)]) rfl Try.sizeOf26 rfl rfl rfl (ones_cons rfl (ones_cons rfl ones_nil)) hb_g9 rfl ?_
  intro w12 hp12
  have hrb := hp12.mu.rel hrb (by decide) (Nat.le_trans hB hge_g9)
  have hb_g_r := hp12.mu.blk hb_g_r (by decide)
  have hb_g3 := hp12.mu.blkA hb_g3 (Ap.symm ap11)
  have hx := fr1_mut hx hp12.mu hge_g9 hgl
  have hb_g9 : Blk w12 g9 26 #[(.slice none 0 0), (.slice none 0 0)] := hp12.blk
  refine L_nil ?_
  refine W_seq ?_
  refine W_seq ?_
  obtain ⟨x15, hx15, hF⟩ := bind_some hF
  refine W_region ?_
  refine L_mv (v := .pointer (some ⟨g_r, 0, none⟩)) rfl rfl ?_
  refine L_bs rfl (parts4 rfl rfl rfl rfl) (bs_23_4_0_0_0_0 (.int .i64 3) (.int .i64 2) (.int .i64 4) (.int .i64 3) rfl rfl rfl rfl) ?_
  intro g17 w18 hn18
  have ho18 : Own RP.int 3 w.heap.size B w18 _ [3, 2, 4, 3] := own_lit rfl hn18 rfl (by decide) hx.size (by intro i z hz; rcases i with _ | _ | _ | _ | i <;> simp at hz <;> subst hz <;> rfl)
  have hrb := RP.ext hrb hn18.ext
  have hb_g_r := Blk.ext hb_g_r hn18.ext
  have hb_g3 := Blk.ext hb_g3 hn18.ext
  have hb_g9 := Blk.ext hb_g9 hn18.ext
  have hx := fr1_ext hx hn18.ext hgl
  refine L_call (args := #[.pointer (some ⟨g_r, 0, none⟩), (.slice (some ⟨g17, 0, none⟩) 4 4)]) rfl Try.call49 (ops2 rfl rfl) (s_l17Rd_num_c (r_ := r_) (list := [3, 2, 4, 3]) (Nat.le_trans hB hx.size) hb_g_r (rel0 hrb) hrB (rel0 (Own.rel ho18)) hx15) ?_
  rintro _ w19 ⟨⟨rfl, hbn19⟩, he19⟩
  have hrb := he19.rel hrb (by decide) hrB
  have hb_g3 := he19.blk hb_g3 (by decide)
  have hb_g9 := he19.blk hb_g9 (by decide)
  have ho18 := he19.ownT ho18 (by decide) (by decide) hrB
  have hx := fr1_trans hx he19
  have hb_g_r := hbn19
  refine L_as (v := .int .i64 x15.1) rfl rfl ?_
  refine L_nil ?_
  obtain ⟨j24, hL24, hF⟩ := bind_some hF
  obtain ⟨R24, hR24⟩ : ∃ R : Fr → World → Prop, R = fun f w_ => ∃ i_21 : Int, ∃ g_r_1_22 : Int, ∃ g9_0_23 : List Int, ∃ v23_g9_0 : Value, j24 = .nx (i_21, g_r_1_22, g9_0_23) ∧ f 0 = .pointer (some ⟨g_r, 0, none⟩) ∧ f 2 = .pointer (some ⟨g3, 0, none⟩) ∧ f 3 = .pointer (some ⟨g9, 0, none⟩) ∧ (RP.slice 5 RP.u8).rel B w.heap.size w_ [v_r] r_.b ∧ Blk w_ g_r 86 #[v_r, .int .i64 g_r_1_22] ∧ Own RP.int 3 w.heap.size B w_ v23_g9_0 g9_0_23 ∧ Blk w_ g9 26 #[v23_g9_0, (.slice none 0 0)] ∧ Blk w_ g3 26 #[(.slice none 0 0), (.slice none 0 0)] ∧ Mut g_r (some g_r) 86 w w_ := ⟨_, rfl⟩
  refine W_join R24 ?_ ?_
  ·
    refine W_block ?_
    obtain ⟨I24, hI24⟩ : ∃ I : Nat → Fr → World → Prop, I = fun n f w_ => ∃ i_21 : Int, ∃ g_r_1_22 : Int, ∃ g9_0_23 : List Int, ∃ v23_g9_0 : Value, whileL (s_l6Model_b1 r_) n (i_21, g_r_1_22, g9_0_23) = some j24 ∧ f 0 = .pointer (some ⟨g_r, 0, none⟩) ∧ f 2 = .pointer (some ⟨g3, 0, none⟩) ∧ f 3 = .pointer (some ⟨g9, 0, none⟩) ∧ f 4 = .int .i64 i_21 ∧ (RP.slice 5 RP.u8).rel B w.heap.size w_ [v_r] r_.b ∧ Blk w_ g_r 86 #[v_r, .int .i64 g_r_1_22] ∧ Own RP.int 3 w.heap.size B w_ v23_g9_0 g9_0_23 ∧ Blk w_ g9 26 #[v23_g9_0, (.slice none 0 0)] ∧ Blk w_ g3 26 #[(.slice none 0 0), (.slice none 0 0)] ∧ Mut g_r (some g_r) 86 w w_ := ⟨_, rfl⟩
    refine W_loop I24 (n := fu) ?_ ?_
    · rw [hI24]; exact ⟨x15.1, x15.2, [], (.slice none 0 0), hL24, rfl, rfl, rfl, rfl, hrb, hb_g_r, (Own.nil _ _ _ _ _), hb_g9, hb_g3, hx⟩
    ·
      intro n24 f w_ hI
      rw [hI24] at hI
      obtain ⟨i_21, g_r_1_22, g9_0_23, v23_g9_0, hL24, sf0, sf2, sf3, sf4, hrb, hb_g_r, hv23_g9_0, hb_g9, hb_g3, hx⟩ := hI
      cases n24 with
      | zero => exact (while_zero hL24).elim
      | succ n24 =>
        obtain ⟨o24, hB24, hL24⟩ := while_succ hL24
        rw [s_l6Model_b1] at hB24
        refine W_seq ?_
        refine W_seq ?_
        refine W_region ?_
        refine L_mv (v := .int .i64 i_21) rfl sf4 ?_
        refine L_gtr (m := i_21) (n := 0) rfl rfl rfl ?_
        refine L_nil ?_
        refine W_cond (b := decide (i_21 > 0)) rfl (fun hc25 => ?_) (fun hc25 => ?_)
        ·
          have hB24 := (ite_t hc25).symm.trans hB24
          refine W_skip ?_
          refine W_seq ?_
          refine W_block ?_
          obtain ⟨x29, hx29, hB24⟩ := bind_some hB24
          obtain ⟨x35, hx35, hB24⟩ := bind_some hB24
          refine W_drawR 6 [isV (.pointer (some ⟨g9, 0, none⟩)), isV (v23_g9_0), isV (.pointer (some ⟨g_r, 0, none⟩)), isOwn B RP.int 3 w.heap.size ([2, 1, 3, 2, 0]), isV (.int .i64 x29.1), isOwn B RP.int 3 w.heap.size ([x29.1])] g_r 86 (fun k => match k with | 0 => #[v_r, .int .i64 g_r_1_22] | _ => #[v_r, .int .i64 x29.2]) [4] Try_mix (by kernel_rfl) (by decide) (by decide) (amR_cons (monoR_V _) (amR_cons (monoR_V _) (amR_cons (monoR_V _) (amR_cons (monoR_own (by decide) (by decide) hrB) (amR_cons (monoR_V _) (amR_cons (monoR_own (by decide) (by decide) hrB) amR_nil)))))) hb_g_r ?_ (fun f w_ hS40 hE40 hbr40 hT40 => ?_)
          ·
            refine opsR_cons (by decide) (fun f w_ hS40 hE40 hbr40 hP40 => ?_) ?_
            ·
              have hx := fr1_trans hx hE40
              have hv23_g9_0 := hE40.ownT hv23_g9_0 (by decide) (by decide) hrB
              have hb_g9 := hE40.blk hb_g9 (by decide)
              refine L_fa (o' := 0) rfl fa_26_0 ((hS40 3 rfl).trans sf3) rfl ?_
              exact L_nil ⟨rfl, (ext_refl _), _, _, rfl, rfl, rfl⟩
            refine opsR_cons (by decide) (fun f w_ hS40 hE40 hbr40 hP40 => ?_) ?_
            ·
              have hx := fr1_trans hx hE40
              have hv23_g9_0 := hE40.ownT hv23_g9_0 (by decide) (by decide) hrB
              have hb_g9 := hE40.blk hb_g9 (by decide)
              refine L_ld (v := v23_g9_0) rfl Try.isAgg23 (hP40 0 16 rfl rfl) (hb_g9.cell (j := 0) rfl) ?_
              exact L_nil ⟨rfl, (ext_refl _), _, _, rfl, rfl, rfl⟩
            refine opsR_cons (by decide) (fun f w_ hS40 hE40 hbr40 hP40 => ?_) ?_
            ·
              have hx := fr1_trans hx hE40
              refine L_mv (v := .pointer (some ⟨g_r, 0, none⟩)) rfl ((hS40 0 rfl).trans sf0) ?_
              exact L_nil ⟨rfl, (ext_refl _), _, _, rfl, rfl, rfl⟩
            refine opsR_cons (by decide) (fun f w_ hS40 hE40 hbr40 hP40 => ?_) ?_
            ·
              have hx := fr1_trans hx hE40
              refine L_bs rfl (parts5 rfl rfl rfl rfl rfl) (bs_23_5_0_0_0_0_0 (.int .i64 2) (.int .i64 1) (.int .i64 3) (.int .i64 2) (.int .i64 0) rfl rfl rfl rfl rfl) ?_
              intro g49 w50 hn50
              have ho50 : Own RP.int 3 w.heap.size B w50 _ [2, 1, 3, 2, 0] := own_lit rfl hn50 rfl (by decide) hx.size (by intro i z hz; rcases i with _ | _ | _ | _ | _ | i <;> simp at hz <;> subst hz <;> rfl)
              have hx := fr1_ext hx hn50.ext hgl
              exact L_nil ⟨rfl, hn50.ext, _, _, rfl, rfl, ho50⟩
            refine opsR_draw 0 rfl (by first | exact .inl rfl | exact .inr ⟨_, rfl, by decide⟩) (fun f w_ hS40 hE40 hbr40 hP40 => ?_) ?_
            ·
              have hx := fr1_trans hx hE40
              have hrb := hE40.rel hrb (by decide) hrB
              have hb_g_r : Blk w_ g_r 86 #[v_r, .int .i64 g_r_1_22] := hbr40
              have hd51 := (hP40 3 19 rfl rfl)
              refine L_call (args := #[.pointer (some ⟨g_r, 0, none⟩), (f 19)]) rfl Try.call49 (ops2 (hP40 2 18 rfl rfl) rfl) (s_l17Rd_num_c (r_ := ({ b := r_.b, p := g_r_1_22 } : Rd)) (list := [2, 1, 3, 2, 0]) (Nat.le_trans hB hx.size) hb_g_r (rel0 hrb) hrB (rel0 (Own.rel hd51)) hx29) ?_
              rintro _ w52 ⟨⟨rfl, hbn52⟩, he52⟩
              have hrb := he52.rel hrb (by decide) hrB
              have hd51 := he52.ownT hd51 (by decide) (by decide) hrB
              have hx := fr1_trans hx he52
              have hb_g_r := hbn52
              exact L_nil ⟨rfl, he52, hb_g_r, _, _, rfl, rfl, rfl⟩
            refine opsR_cons (by decide) (fun f w_ hS40 hE40 hbr40 hP40 => ?_) ?_
            ·
              have hx := fr1_trans hx hE40
              refine L_bs rfl (parts1 (hP40 4 20 rfl rfl)) (bs_23_1_0 (.int .i64 x29.1) rfl) ?_
              intro g53 w54 hn54
              have ho54 : Own RP.int 3 w.heap.size B w54 _ [x29.1] := own_new1 hn54 hx.size rfl
              have hx := fr1_ext hx hn54.ext hgl
              exact L_nil ⟨rfl, hn54.ext, _, _, rfl, rfl, ho54⟩
            exact opsR_nil
          ·
            have hrb := hE40.rel hrb (by decide) hrB
            have hv23_g9_0 := hE40.ownT hv23_g9_0 (by decide) (by decide) hrB
            have hb_g9 := hE40.blk hb_g9 (by decide)
            have hb_g3 := hE40.blk hb_g3 (by decide)
            have hx := fr1_trans hx hE40
            have hb_g_r : Blk w_ g_r 86 #[v_r, .int .i64 x29.2] := hbr40
            have hd55 := (hT40 5 21 rfl rfl)
            refine L_app (v := v23_g9_0) (u := (f 21)) rfl et_23 (by decide) (hT40 1 17 rfl rfl) rfl hv23_g9_0 (rel0 (Own.rel hd55)) hx35 hx.size hB ?_
            intro v56 w56 ho56 hm56 hb56
            have hrb := hm56.rel hrb (by decide) (Nat.le_trans hB (Nat.le_refl _))
            have hb_g_r := hm56.blk hb_g_r (by decide)
            have hb_g9 := hm56.blk hb_g9 (by decide)
            have hb_g3 := hm56.blk hb_g3 (by decide)
            have hx := fr1_mut hx hm56 (Nat.le_refl _) hgl
            refine L_fa (o' := 0) rfl fa_26_0 ((hS40 3 rfl).trans sf3) rfl ?_
            refine L_st (v := v56) rfl Try.sizeOf23 rfl rfl (one_of (Own.rel ho56)) hb_g9 rfl ?_
            intro w57 hp57
            have hrb := hp57.mu.rel hrb (by decide) (Nat.le_trans hB hge_g9)
            have hb_g_r := hp57.mu.blk hb_g_r (by decide)
            have hb_g3 := hp57.mu.blkA hb_g3 (Ap.symm ap11)
            have ho56 := hp57.mu.ownT ho56 (by decide) (by decide) (Nat.le_trans hB hge_g9)
            have hx := fr1_mut hx hp57.mu hge_g9 hgl
            have hb_g9 : Blk w57 g9 26 #[v56, (.slice none 0 0)] := hp57.blk
            refine L_nil ?_
            refine W_region ?_
            refine L_mv (v := .int .i64 i_21) rfl ((hS40 4 rfl).trans sf4) ?_
            refine L_sub (m := i_21) (n := 1) rfl rfl rfl ?_
            refine L_as (v := .int .i64 (i64 (i_21 - 1))) rfl rfl ?_
            refine L_nil ?_
            obtain rfl := so hB24
            show ∃ m, m < _ ∧ I24 m _ _
            refine ⟨n24, Nat.lt_succ_self _, ?_⟩
            rw [hI24]
            exact ⟨i64 (i_21 - 1), x29.2, x35, v56, hL24, ((hS40 0 rfl).trans sf0), ((hS40 2 rfl).trans sf2), ((hS40 3 rfl).trans sf3), rfl, hrb, hb_g_r, ho56, hb_g9, hb_g3, hx⟩
        ·
          have hB24 := (ite_f hc25).symm.trans hB24
          refine W_exit ?_
          obtain rfl := so hB24
          obtain rfl := so hL24
          show R24 _ _
          rw [hR24]
          exact ⟨i_21, g_r_1_22, g9_0_23, v23_g9_0, rfl, sf0, sf2, sf3, hrb, hb_g_r, hv23_g9_0, hb_g9, hb_g3, hx⟩
  ·
    intro f w_ hR
    rw [hR24] at hR
    obtain ⟨i_21, g_r_1_22, g9_0_23, v23_g9_0, rfl, sf0, sf2, sf3, hrb, hb_g_r, hv23_g9_0, hb_g9, hb_g3, hx⟩ := hR
    clear hR24
    refine W_seq ?_
    refine W_seq ?_
    refine W_region ?_
    refine L_as (v := .int .i64 0) rfl rfl ?_
    refine L_nil ?_
    obtain ⟨j61, hL61, hF⟩ := bind_some hF
    obtain ⟨R61, hR61⟩ : ∃ R : Fr → World → Prop, R = fun f w_ => ∃ n_59 : Int, ∃ g9_0_60 : List Int, ∃ v60_g9_0 : Value, j61 = .nx (n_59, g9_0_60) ∧ f 0 = .pointer (some ⟨g_r, 0, none⟩) ∧ f 2 = .pointer (some ⟨g3, 0, none⟩) ∧ f 3 = .pointer (some ⟨g9, 0, none⟩) ∧ (RP.slice 5 RP.u8).rel B w.heap.size w_ [v_r] r_.b ∧ Blk w_ g_r 86 #[v_r, .int .i64 g_r_1_22] ∧ (RP.slice 3 RP.int).rel B w_.heap.size w_ [v60_g9_0] g9_0_60 ∧ Blk w_ g9 26 #[v60_g9_0, (.slice none 0 0)] ∧ Blk w_ g3 26 #[(.slice none 0 0), (.slice none 0 0)] ∧ Mut g_r (some g_r) 86 w w_ := ⟨_, rfl⟩
    refine W_join R61 ?_ ?_
    ·
      refine W_block ?_
      obtain ⟨I61, hI61⟩ : ∃ I : Nat → Fr → World → Prop, I = fun n f w_ => ∃ n_59 : Int, ∃ g9_0_60 : List Int, ∃ v60_g9_0 : Value, whileL s_l6Model_b2 n (n_59, g9_0_60) = some j61 ∧ f 0 = .pointer (some ⟨g_r, 0, none⟩) ∧ f 2 = .pointer (some ⟨g3, 0, none⟩) ∧ f 3 = .pointer (some ⟨g9, 0, none⟩) ∧ f 5 = .int .i64 n_59 ∧ (RP.slice 5 RP.u8).rel B w.heap.size w_ [v_r] r_.b ∧ Blk w_ g_r 86 #[v_r, .int .i64 g_r_1_22] ∧ (RP.slice 3 RP.int).rel B w_.heap.size w_ [v60_g9_0] g9_0_60 ∧ Blk w_ g9 26 #[v60_g9_0, (.slice none 0 0)] ∧ Blk w_ g3 26 #[(.slice none 0 0), (.slice none 0 0)] ∧ Mut g_r (some g_r) 86 w w_ := ⟨_, rfl⟩
      refine W_loop I61 (n := fu) ?_ ?_
      · rw [hI61]; exact ⟨0, g9_0_23, v23_g9_0, hL61, sf0, sf2, sf3, rfl, hrb, hb_g_r, (rel0 (Own.rel hv23_g9_0)), hb_g9, hb_g3, hx⟩
      ·
        intro n61 f w_ hI
        rw [hI61] at hI
        obtain ⟨n_59, g9_0_60, v60_g9_0, hL61, sf0, sf2, sf3, sf5, hrb, hb_g_r, hv60_g9_0, hb_g9, hb_g3, hx⟩ := hI
        cases n61 with
        | zero => exact (while_zero hL61).elim
        | succ n61 =>
          obtain ⟨o61, hB61, hL61⟩ := while_succ hL61
          rw [s_l6Model_b2] at hB61
          refine W_seq ?_
          refine W_seq ?_
          refine W_region ?_
          refine L_mv (v := .int .i64 n_59) rfl sf5 ?_
          refine L_eql (m := n_59) (n := 0) rfl rfl rfl ?_
          refine L_nil ?_
          refine W_cond (b := (n_59 == 0)) rfl (fun hc62 => ?_) (fun hc62 => ?_)
          ·
            have hB61 := (ite_t hc62).symm.trans hB61
            refine W_skip ?_
            refine W_block ?_
            refine W_seq ?_
            refine W_seq ?_
            refine W_region ?_
            refine L_as (v := .int .i64 0) rfl rfl ?_
            refine L_nil ?_
            have hlen65 := len_le hv60_g9_0
            obtain ⟨j65, hL65, hB61⟩ := bind_some hB61
            obtain ⟨R65, hR65⟩ : ∃ R : Fr → World → Prop, R = fun f w_ => ∃ n_64 : Int, j65 = .nx n_64 ∧ f 0 = .pointer (some ⟨g_r, 0, none⟩) ∧ f 2 = .pointer (some ⟨g3, 0, none⟩) ∧ f 3 = .pointer (some ⟨g9, 0, none⟩) ∧ f 5 = .int .i64 n_64 ∧ (RP.slice 5 RP.u8).rel B w.heap.size w_ [v_r] r_.b ∧ Blk w_ g_r 86 #[v_r, .int .i64 g_r_1_22] ∧ (RP.slice 3 RP.int).rel B w_.heap.size w_ [v60_g9_0] g9_0_60 ∧ Blk w_ g9 26 #[v60_g9_0, (.slice none 0 0)] ∧ Blk w_ g3 26 #[(.slice none 0 0), (.slice none 0 0)] ∧ Mut g_r (some g_r) 86 w w_ := ⟨_, rfl⟩
            refine W_join R65 ?_ ?_
            ·
              refine W_block ?_
              obtain ⟨I65, hI65⟩ : ∃ I : Nat → Fr → World → Prop, I = fun n f w_ => ∃ i_63 : Nat, ∃ suf65 : List Int, ∃ n_64 : Int, n = suf65.length ∧ List.drop i_63 g9_0_60 = suf65 ∧ i_63 + suf65.length = g9_0_60.length ∧ rangeL s_l6Model_b3 suf65 i_63 n_64 = some j65 ∧ f 0 = .pointer (some ⟨g_r, 0, none⟩) ∧ f 2 = .pointer (some ⟨g3, 0, none⟩) ∧ f 3 = .pointer (some ⟨g9, 0, none⟩) ∧ f 5 = .int .i64 n_64 ∧ f 6 = .int .i64 (i_63 : Int) ∧ (RP.slice 5 RP.u8).rel B w.heap.size w_ [v_r] r_.b ∧ Blk w_ g_r 86 #[v_r, .int .i64 g_r_1_22] ∧ (RP.slice 3 RP.int).rel B w_.heap.size w_ [v60_g9_0] g9_0_60 ∧ Blk w_ g9 26 #[v60_g9_0, (.slice none 0 0)] ∧ Blk w_ g3 26 #[(.slice none 0 0), (.slice none 0 0)] ∧ Mut g_r (some g_r) 86 w w_ := ⟨_, rfl⟩
              refine W_loop I65 (n := g9_0_60.length) ?_ ?_
              · rw [hI65]; exact ⟨0, g9_0_60, n_59, rfl, rfl, Nat.zero_add _, hL65, sf0, sf2, sf3, sf5, rfl, hrb, hb_g_r, (rel0 hv60_g9_0), hb_g9, hb_g3, hx⟩
              ·
                intro n65 f w_ hI
                rw [hI65] at hI
                obtain ⟨i_63, suf65, n_64, rfl, hd65, hl65, hL65, sf0, sf2, sf3, sf5, sf6, hrb, hb_g_r, hv60_g9_0, hb_g9, hb_g3, hx⟩ := hI
                refine W_seq ?_
                refine W_seq ?_
                refine W_region ?_
                refine L_mv (v := .int .i64 (i_63 : Int)) rfl sf6 ?_
                refine L_fa (o' := 0) rfl fa_26_0 sf3 rfl ?_
                refine L_ld (v := v60_g9_0) rfl Try.isAgg23 rfl (hb_g9.cell (j := 0) rfl) ?_
                refine L_len (v := v60_g9_0) rfl Try.underlying23 rfl hv60_g9_0 ?_
                refine L_lss (m := (i_63 : Int)) (n := (g9_0_60.length : Int)) rfl rfl rfl ?_
                refine L_nil ?_
                refine W_cond (b := decide ((i_63 : Int) < (g9_0_60.length : Int))) rfl (fun hc66 => ?_) (fun hc66 => ?_)
                ·
                  have hlt65 := of_decide_eq_true hc66
                  cases suf65 with
                  | nil => exact absurd hlt65 (by simp at hl65; omega)
                  | cons x_65 rest65 =>
                    obtain ⟨o65, hB65, hL65⟩ := range_cons hL65
                    rw [s_l6Model_b3] at hB65
                    have hix65 := drop_idx hd65
                    refine W_skip ?_
                    refine W_seq ?_
                    refine W_block ?_
                    refine W_region ?_
                    refine L_mv (v := .int .i64 n_64) rfl sf5 ?_
                    refine L_fa (o' := 0) rfl fa_26_0 sf3 rfl ?_
                    refine L_ld (v := v60_g9_0) rfl Try.isAgg23 rfl (hb_g9.cell (j := 0) rfl) ?_
                    refine L_mv (v := .int .i64 (i_63 : Int)) rfl sf6 ?_
                    refine L_ix (r := RP.int) rfl Try.underlying23 Try.sizeOf3 rfl hv60_g9_0 rfl hix65 ?_
                    intro g69 o70 cs70 hr70 hat70
                    obtain rfl : _ = [_] := hr70
                    refine L_ld (v := .int .i64 x_65) rfl Try.isAgg3 rfl (hat70.cell (j := 0) rfl) ?_
                    refine L_add (m := n_64) (n := x_65) rfl rfl rfl ?_
                    refine L_add (m := i64 (n_64 + x_65)) (n := 1) rfl rfl rfl ?_
                    refine L_as (v := .int .i64 (i64 ((i64 (n_64 + x_65)) + 1))) rfl rfl ?_
                    refine L_nil ?_
                    refine W_region ?_
                    refine L_mv (v := .int .i64 (i_63 : Int)) rfl sf6 ?_
                    refine L_add (m := (i_63 : Int)) (n := 1) rfl rfl rfl ?_
                    refine L_as (v := .int .i64 (i64 ((i_63 : Int) + 1))) rfl rfl ?_
                    refine L_nil ?_
                    obtain rfl := so hB65
                    show ∃ m, m < _ ∧ I65 m _ _
                    refine ⟨rest65.length, by simp, ?_⟩
                    rw [hI65]
                    exact ⟨i_63 + 1, rest65, i64 ((i64 (n_64 + x_65)) + 1), rfl, drop_next hd65, by simp at hl65; omega, hL65, sf0, sf2, sf3, rfl, (Eq.trans rfl (congrArg (Value.int .i64) (i64_succ (n := g9_0_60.length) (by simp at hl65; omega) hlen65))), hrb, hb_g_r, (rel0 hv60_g9_0), hb_g9, hb_g3, hx⟩
                ·
                  cases suf65 with
                  | cons _ _ => exact absurd (of_decide_eq_false hc66) (by simp at hl65; omega)
                  | nil =>
                    obtain rfl := range_nil hL65
                    refine W_exit ?_
                    show R65 _ _
                    rw [hR65]
                    exact ⟨n_64, rfl, sf0, sf2, sf3, sf5, hrb, hb_g_r, (rel0 hv60_g9_0), hb_g9, hb_g3, hx⟩
            ·
              intro f w_ hR
              rw [hR65] at hR
              obtain ⟨n_64, rfl, sf0, sf2, sf3, sf5, hrb, hb_g_r, hv60_g9_0, hb_g9, hb_g3, hx⟩ := hR
              clear hR65
              refine W_seq ?_
              refine W_region ?_
              refine L_mv (v := .int .i64 n_64) rfl sf5 ?_
              refine L_gtr (m := n_64) (n := 12) rfl rfl rfl ?_
              refine L_nil ?_
              obtain ⟨⟨n_71, g9_0_72⟩, hA73, hB61⟩ := bind_some hB61
              obtain ⟨R73, hR73⟩ : ∃ R : Fr → World → Prop, R = fun f w_ => ∃ v72_g9_0 : Value, f 0 = .pointer (some ⟨g_r, 0, none⟩) ∧ f 2 = .pointer (some ⟨g3, 0, none⟩) ∧ f 3 = .pointer (some ⟨g9, 0, none⟩) ∧ f 5 = .int .i64 n_71 ∧ (RP.slice 5 RP.u8).rel B w.heap.size w_ [v_r] r_.b ∧ Blk w_ g_r 86 #[v_r, .int .i64 g_r_1_22] ∧ (RP.slice 3 RP.int).rel B w_.heap.size w_ [v72_g9_0] g9_0_72 ∧ Blk w_ g9 26 #[v72_g9_0, (.slice none 0 0)] ∧ Blk w_ g3 26 #[(.slice none 0 0), (.slice none 0 0)] ∧ Mut g_r (some g_r) 86 w w_ := ⟨_, rfl⟩
              refine W_join R73 ?_ ?_
              ·
                refine W_cond (b := decide (n_64 > 12)) rfl (fun hc74 => ?_) (fun hc74 => ?_)
                ·
                  have hA73 := (ite_t hc74).symm.trans hA73
                  refine W_seq ?_
                  obtain ⟨x75, hx75, hA73⟩ := bind_some hA73
                  refine W_region ?_
                  refine L_fa (o' := 0) rfl fa_26_0 sf3 rfl ?_
                  refine L_ld (v := v60_g9_0) rfl Try.isAgg23 rfl (hb_g9.cell (j := 0) rfl) ?_
                  refine L_fa (o' := 0) rfl fa_26_0 sf3 rfl ?_
                  refine L_ld (v := v60_g9_0) rfl Try.isAgg23 rfl (hb_g9.cell (j := 0) rfl) ?_
                  refine L_len (v := v60_g9_0) rfl Try.underlying23 rfl hv60_g9_0 ?_
                  refine L_sub (m := (g9_0_60.length : Int)) (n := 1) rfl rfl rfl ?_
                  refine L_sl (a := 0) (b := i64 ((g9_0_60.length : Int) - 1)) rfl et_23 rfl hv60_g9_0 rfl rfl hx75 ?_
                  intro v78 hs78
                  refine L_fa (o' := 0) rfl fa_26_0 sf3 rfl ?_
                  refine L_st (v := v78) rfl Try.sizeOf23 rfl rfl (one_of hs78) hb_g9 rfl ?_
                  intro w79 hp79
                  have hrb := hp79.mu.rel hrb (by decide) (Nat.le_trans hB hge_g9)
                  have hb_g_r := hp79.mu.blk hb_g_r (by decide)
                  have hv60_g9_0 := hp79.mu.rel hv60_g9_0 (by decide) (Nat.le_trans hB hge_g9)
                  have hb_g3 := hp79.mu.blkA hb_g3 (Ap.symm ap11)
                  have hs78 := hp79.mu.rel hs78 (by decide) (Nat.le_trans hB hge_g9)
                  have hx := fr1_mut hx hp79.mu hge_g9 hgl
                  have hb_g9 : Blk w79 g9 26 #[v78, (.slice none 0 0)] := hp79.blk
                  refine L_nil ?_
                  refine W_region ?_
                  refine L_as (v := .int .i64 0) rfl rfl ?_
                  refine L_nil ?_
                  obtain ⟨rfl, rfl⟩ := so2 hA73
                  show R73 _ _
                  rw [hR73]
                  exact ⟨v78, sf0, sf2, sf3, rfl, hrb, hb_g_r, (rel0 hs78), hb_g9, hb_g3, hx⟩
                ·
                  have hA73 := (ite_f hc74).symm.trans hA73
                  refine W_skip ?_
                  obtain ⟨rfl, rfl⟩ := so2 hA73
                  show R73 _ _
                  rw [hR73]
                  exact ⟨v60_g9_0, sf0, sf2, sf3, sf5, hrb, hb_g_r, (rel0 hv60_g9_0), hb_g9, hb_g3, hx⟩
              ·
                intro f w_ hR
                rw [hR73] at hR
                obtain ⟨v72_g9_0, sf0, sf2, sf3, sf5, hrb, hb_g_r, hv72_g9_0, hb_g9, hb_g3, hx⟩ := hR
                clear hR73
                obtain rfl := so hB61
                show ∃ m, m < _ ∧ I61 m _ _
                refine ⟨n61, Nat.lt_succ_self _, ?_⟩
                rw [hI61]
                exact ⟨n_71, g9_0_72, v72_g9_0, hL61, sf0, sf2, sf3, sf5, hrb, hb_g_r, (rel0 hv72_g9_0), hb_g9, hb_g3, hx⟩
          ·
            have hB61 := (ite_f hc62).symm.trans hB61
            refine W_exit ?_
            obtain rfl := so hB61
            obtain rfl := so hL61
            show R61 _ _
            rw [hR61]
            exact ⟨n_59, g9_0_60, v60_g9_0, rfl, sf0, sf2, sf3, hrb, hb_g_r, (rel0 hv60_g9_0), hb_g9, hb_g3, hx⟩
    ·
      intro f w_ hR
      rw [hR61] at hR
      obtain ⟨n_59, g9_0_60, v60_g9_0, rfl, sf0, sf2, sf3, hrb, hb_g_r, hv60_g9_0, hb_g9, hb_g3, hx⟩ := hR
      clear hR61
      refine W_seq ?_
      refine W_seq ?_
      obtain ⟨x82, hx82, hF⟩ := bind_some hF
      refine W_region ?_
      refine L_mv (v := .pointer (some ⟨g_r, 0, none⟩)) rfl sf0 ?_
      refine L_bs rfl (parts5 rfl rfl rfl rfl rfl) (bs_23_5_0_0_0_0_0 (.int .i64 2) (.int .i64 3) (.int .i64 1) (.int .i64 4) (.int .i64 0) rfl rfl rfl rfl rfl) ?_
      intro g84 w85 hn85
      have ho85 : Own RP.int 3 w.heap.size B w85 _ [2, 3, 1, 4, 0] := own_lit rfl hn85 rfl (by decide) hx.size (by intro i z hz; rcases i with _ | _ | _ | _ | _ | i <;> simp at hz <;> subst hz <;> rfl)
      have hrb := RP.ext hrb hn85.ext
      have hb_g_r := Blk.ext hb_g_r hn85.ext
      have hv60_g9_0 := RP.ext hv60_g9_0 hn85.ext
      have hb_g9 := Blk.ext hb_g9 hn85.ext
      have hb_g3 := Blk.ext hb_g3 hn85.ext
      have hx := fr1_ext hx hn85.ext hgl
      refine L_call (args := #[.pointer (some ⟨g_r, 0, none⟩), (.slice (some ⟨g84, 0, none⟩) 5 5)]) rfl Try.call49 (ops2 rfl rfl) (s_l17Rd_num_c (r_ := ({ b := r_.b, p := g_r_1_22 } : Rd)) (list := [2, 3, 1, 4, 0]) (Nat.le_trans hB hx.size) hb_g_r (rel0 hrb) hrB (rel0 (Own.rel ho85)) hx82) ?_
      rintro _ w86 ⟨⟨rfl, hbn86⟩, he86⟩
      have hrb := he86.rel hrb (by decide) hrB
      have hv60_g9_0 := he86.rel hv60_g9_0 (by decide) hrB
      have hb_g9 := he86.blk hb_g9 (by decide)
      have hb_g3 := he86.blk hb_g3 (by decide)
      have ho85 := he86.ownT ho85 (by decide) (by decide) hrB
      have hx := fr1_trans hx he86
      have hb_g_r := hbn86
      refine L_as (v := .int .i64 x82.1) rfl rfl ?_
      refine L_nil ?_
      obtain ⟨j91, hL91, hF⟩ := bind_some hF
      obtain ⟨R91, hR91⟩ : ∃ R : Fr → World → Prop, R = fun f w_ => ∃ i_88 : Int, ∃ g_r_1_89 : Int, ∃ g9_1_90 : List Rule, ∃ v90_g9_1 : Value, j91 = .nx (i_88, g_r_1_89, g9_1_90) ∧ f 2 = .pointer (some ⟨g3, 0, none⟩) ∧ f 3 = .pointer (some ⟨g9, 0, none⟩) ∧ (RP.slice 5 RP.u8).rel B w.heap.size w_ [v_r] r_.b ∧ Blk w_ g_r 86 #[v_r, .int .i64 g_r_1_89] ∧ (RP.slice 3 RP.int).rel B w_.heap.size w_ [v60_g9_0] g9_0_60 ∧ Own (rRule 3 23) 36 w.heap.size B w_ v90_g9_1 g9_1_90 ∧ Blk w_ g9 26 #[v60_g9_0, v90_g9_1] ∧ Blk w_ g3 26 #[(.slice none 0 0), (.slice none 0 0)] ∧ Mut g_r (some g_r) 86 w w_ := ⟨_, rfl⟩
      refine W_join R91 ?_ ?_
      ·
        refine W_block ?_
        obtain ⟨I91, hI91⟩ : ∃ I : Nat → Fr → World → Prop, I = fun n f w_ => ∃ i_88 : Int, ∃ g_r_1_89 : Int, ∃ g9_1_90 : List Rule, ∃ v90_g9_1 : Value, whileL (s_l6Model_b4 fu r_ g9_0_60) n (i_88, g_r_1_89, g9_1_90) = some j91 ∧ f 0 = .pointer (some ⟨g_r, 0, none⟩) ∧ f 2 = .pointer (some ⟨g3, 0, none⟩) ∧ f 3 = .pointer (some ⟨g9, 0, none⟩) ∧ f 7 = .int .i64 i_88 ∧ (RP.slice 5 RP.u8).rel B w.heap.size w_ [v_r] r_.b ∧ Blk w_ g_r 86 #[v_r, .int .i64 g_r_1_89] ∧ (RP.slice 3 RP.int).rel B w_.heap.size w_ [v60_g9_0] g9_0_60 ∧ Own (rRule 3 23) 36 w.heap.size B w_ v90_g9_1 g9_1_90 ∧ Blk w_ g9 26 #[v60_g9_0, v90_g9_1] ∧ Blk w_ g3 26 #[(.slice none 0 0), (.slice none 0 0)] ∧ Mut g_r (some g_r) 86 w w_ := ⟨_, rfl⟩
        refine W_loop I91 (n := fu) ?_ ?_
        · rw [hI91]; exact ⟨x82.1, x82.2, [], (.slice none 0 0), hL91, sf0, sf2, sf3, rfl, hrb, hb_g_r, (rel0 hv60_g9_0), (Own.nil _ _ _ _ _), hb_g9, hb_g3, hx⟩
        ·
          intro n91 f w_ hI
          rw [hI91] at hI
          obtain ⟨i_88, g_r_1_89, g9_1_90, v90_g9_1, hL91, sf0, sf2, sf3, sf7, hrb, hb_g_r, hv60_g9_0, hv90_g9_1, hb_g9, hb_g3, hx⟩ := hI
          cases n91 with
          | zero => exact (while_zero hL91).elim
          | succ n91 =>
            obtain ⟨o91, hB91, hL91⟩ := while_succ hL91
            rw [s_l6Model_b4] at hB91
            refine W_seq ?_
            refine W_seq ?_
            refine W_region ?_
            refine L_mv (v := .int .i64 i_88) rfl sf7 ?_
            refine L_gtr (m := i_88) (n := 0) rfl rfl rfl ?_
            refine L_nil ?_
            refine W_cond (b := decide (i_88 > 0)) rfl (fun hc92 => ?_) (fun hc92 => ?_)
            ·
              have hB91 := (ite_t hc92).symm.trans hB91
              refine W_skip ?_
              refine W_seq ?_
              refine W_block ?_
              obtain ⟨x93, hx93, hB91⟩ := bind_some hB91
              obtain ⟨x98, hx98, hB91⟩ := bind_some hB91
              refine W_drawR 6 [isV (.pointer (some ⟨g9, 1, none⟩)), isV (v90_g9_1), isV (.pointer (some ⟨g_r, 0, none⟩)), isV (.agg #[v60_g9_0, v90_g9_1]), exD (isData B (RP.slice 3 RP.int) x93.1.vars) fun u_1 => exD (isData B (RP.slice 3 RP.int) x93.1.coefs) fun u_2 => exD (isData B (RP.slice 23 (RP.slice 3 RP.int)) x93.1.rows) fun u_4 => isV (.agg #[.int .i64 x93.1.kind, u_1, u_2, .int .i64 x93.1.bound, u_4]), isOwn B (rRule 3 23) 36 w.heap.size ([x93.1])] g_r 86 (fun k => match k with | 0 => #[v_r, .int .i64 g_r_1_89] | _ => #[v_r, .int .i64 x93.2]) [4] Try_mix (by kernel_rfl) (by decide) (by decide) (amR_cons (monoR_V _) (amR_cons (monoR_V _) (amR_cons (monoR_V _) (amR_cons (monoR_V _) (amR_cons (monoR_exD (monoR_data (by decide) hrB) fun _ => monoR_exD (monoR_data (by decide) hrB) fun _ => monoR_exD (monoR_data (by decide) hrB) fun _ => monoR_V _) (amR_cons (monoR_own (by decide) (by decide) hrB) amR_nil)))))) hb_g_r ?_ (fun f w_ hS102 hE102 hbr102 hT102 => ?_)
              ·
                refine opsR_cons (by decide) (fun f w_ hS102 hE102 hbr102 hP102 => ?_) ?_
                ·
                  have hx := fr1_trans hx hE102
                  have hv60_g9_0 := hE102.rel hv60_g9_0 (by decide) hrB
                  have hv90_g9_1 := hE102.ownT hv90_g9_1 (by decide) (by decide) hrB
                  have hb_g9 := hE102.blk hb_g9 (by decide)
                  refine L_fa (o' := 1) rfl fa_26_1 ((hS102 3 rfl).trans sf3) rfl ?_
                  exact L_nil ⟨rfl, (ext_refl _), _, _, rfl, rfl, rfl⟩
                refine opsR_cons (by decide) (fun f w_ hS102 hE102 hbr102 hP102 => ?_) ?_
                ·
                  have hx := fr1_trans hx hE102
                  have hv60_g9_0 := hE102.rel hv60_g9_0 (by decide) hrB
                  have hv90_g9_1 := hE102.ownT hv90_g9_1 (by decide) (by decide) hrB
                  have hb_g9 := hE102.blk hb_g9 (by decide)
                  refine L_ld (v := v90_g9_1) rfl Try.isAgg24 (hP102 0 58 rfl rfl) (hb_g9.cell (j := 1) rfl) ?_
                  exact L_nil ⟨rfl, (ext_refl _), _, _, rfl, rfl, rfl⟩
                refine opsR_cons (by decide) (fun f w_ hS102 hE102 hbr102 hP102 => ?_) ?_
                ·
                  have hx := fr1_trans hx hE102
                  refine L_mv (v := .pointer (some ⟨g_r, 0, none⟩)) rfl ((hS102 0 rfl).trans sf0) ?_
                  exact L_nil ⟨rfl, (ext_refl _), _, _, rfl, rfl, rfl⟩
                refine opsR_cons (by decide) (fun f w_ hS102 hE102 hbr102 hP102 => ?_) ?_
                ·
                  have hx := fr1_trans hx hE102
                  have hv60_g9_0 := hE102.rel hv60_g9_0 (by decide) hrB
                  have hv90_g9_1 := hE102.ownT hv90_g9_1 (by decide) (by decide) hrB
                  have hb_g9 := hE102.blk hb_g9 (by decide)
                  refine L_lda (cs := [v60_g9_0, v90_g9_1]) rfl Try.isAgg26 Try.sizeOf26 ((hS102 3 rfl).trans sf3) (Blk.sub hb_g9 0 2) rfl ?_
                  exact L_nil ⟨rfl, (ext_refl _), _, _, rfl, rfl, rfl⟩
                refine opsR_draw 0 rfl (by first | exact .inl rfl | exact .inr ⟨_, rfl, by decide⟩) (fun f w_ hS102 hE102 hbr102 hP102 => ?_) ?_
                ·
                  have hx := fr1_trans hx hE102
                  have hrb := hE102.rel hrb (by decide) hrB
                  have hb_g_r : Blk w_ g_r 86 #[v_r, .int .i64 g_r_1_89] := hbr102
                  have hv60_g9_0 := hE102.rel hv60_g9_0 (by decide) hrB
                  have hv90_g9_1 := hE102.ownT hv90_g9_1 (by decide) (by decide) hrB
                  refine L_call (args := #[.pointer (some ⟨g_r, 0, none⟩), .agg #[v60_g9_0, v90_g9_1]]) rfl Try.call81 (ops2 (hP102 2 60 rfl rfl) (hP102 3 61 rfl rfl)) (s_l6Draw_c (r_ := ({ b := r_.b, p := g_r_1_89 } : Rd)) (m := ({ sizes := g9_0_60, rules := g9_1_90 } : Model)) (Nat.le_trans hB hx.size) hb_g_r (rel0 hrb) hrB (rel0 hv60_g9_0) (rel0 (Own.rel hv90_g9_1)) hx93) ?_
                  rintro _ w107 ⟨⟨⟨r107_0, r107_1, r107_2, rfl, hr107_0, hr107_1, hr107_2⟩, hbn107⟩, he107⟩
                  have hr107_1 : Own _ _ w.heap.size B _ _ _ := hr107_1.wide hx.size (Nat.le_refl _)
                  have hr107_2 : Own _ _ w.heap.size B _ _ _ := hr107_2.wide hx.size (Nat.le_refl _)
                  have hrb := he107.rel hrb (by decide) hrB
                  have hv60_g9_0 := he107.rel hv60_g9_0 (by decide) hrB
                  have hv90_g9_1 := he107.ownT hv90_g9_1 (by decide) (by decide) hrB
                  have hx := fr1_trans hx he107
                  have hb_g_r := hbn107
                  exact L_nil ⟨rfl, he107, hb_g_r, _, _, rfl, rfl, ⟨_, (rel0 hr107_0), _, (rel0 (Own.rel hr107_1)), _, (rel0 (Own.rel hr107_2)), rfl⟩⟩
                refine opsR_cons (by decide) (fun f w_ hS102 hE102 hbr102 hP102 => ?_) ?_
                ·
                  have hx := fr1_trans hx hE102
                  obtain ⟨u108_1, hu108_1, u108_2, hu108_2, u108_4, hu108_4, hv108⟩ := (hP102 4 62 rfl rfl)
                  refine L_bs rfl (parts1 hv108) (bs_24_1_5 (.int .i64 x93.1.kind) (u108_1) (u108_2) (.int .i64 x93.1.bound) (u108_4) ) ?_
                  intro g109 w110 hn110
                  have ho110 : Own (rRule 3 23) 36 w.heap.size B w110 _ [x93.1] := own_new1 hn110 hx.size (rRule_iff.2 ⟨_, _, _, rfl, (rel0 hu108_1), (rel0 hu108_2), (rel0 hu108_4)⟩)
                  have hu108_1 := RP.ext hu108_1 hn110.ext
                  have hu108_2 := RP.ext hu108_2 hn110.ext
                  have hu108_4 := RP.ext hu108_4 hn110.ext
                  have hx := fr1_ext hx hn110.ext hgl
                  exact L_nil ⟨rfl, hn110.ext, _, _, rfl, rfl, ho110⟩
                exact opsR_nil
              ·
                have hrb := hE102.rel hrb (by decide) hrB
                have hv60_g9_0 := hE102.rel hv60_g9_0 (by decide) hrB
                have hv90_g9_1 := hE102.ownT hv90_g9_1 (by decide) (by decide) hrB
                have hb_g9 := hE102.blk hb_g9 (by decide)
                have hb_g3 := hE102.blk hb_g3 (by decide)
                have hx := fr1_trans hx hE102
                have hb_g_r : Blk w_ g_r 86 #[v_r, .int .i64 x93.2] := hbr102
                have hd111 := (hT102 5 63 rfl rfl)
                refine L_app (v := v90_g9_1) (u := (f 63)) rfl et_24 (by decide) (hT102 1 59 rfl rfl) rfl hv90_g9_1 (rel0 (Own.rel hd111)) hx98 hx.size hB ?_
                intro v112 w112 ho112 hm112 hb112
                have hrb := hm112.rel hrb (by decide) (Nat.le_trans hB (Nat.le_refl _))
                have hb_g_r := hm112.blk hb_g_r (by decide)
                have hv60_g9_0 := hm112.rel hv60_g9_0 (by decide) (Nat.le_trans hB (Nat.le_refl _))
                have hb_g9 := hm112.blk hb_g9 (by decide)
                have hb_g3 := hm112.blk hb_g3 (by decide)
                have hx := fr1_mut hx hm112 (Nat.le_refl _) hgl
                refine L_fa (o' := 1) rfl fa_26_1 ((hS102 3 rfl).trans sf3) rfl ?_
                refine L_st (v := v112) rfl Try.sizeOf24 rfl rfl (one_of (Own.rel ho112)) hb_g9 rfl ?_
                intro w113 hp113
                have hrb := hp113.mu.rel hrb (by decide) (Nat.le_trans hB hge_g9)
                have hb_g_r := hp113.mu.blk hb_g_r (by decide)
                have hv60_g9_0 := hp113.mu.rel hv60_g9_0 (by decide) (Nat.le_trans hB hge_g9)
                have hb_g3 := hp113.mu.blkA hb_g3 (Ap.symm ap11)
                have ho112 := hp113.mu.ownT ho112 (by decide) (by decide) (Nat.le_trans hB hge_g9)
                have hx := fr1_mut hx hp113.mu hge_g9 hgl
                have hb_g9 : Blk w113 g9 26 #[v60_g9_0, v112] := hp113.blk
                refine L_nil ?_
                refine W_region ?_
                refine L_mv (v := .int .i64 i_88) rfl ((hS102 7 rfl).trans sf7) ?_
                refine L_sub (m := i_88) (n := 1) rfl rfl rfl ?_
                refine L_as (v := .int .i64 (i64 (i_88 - 1))) rfl rfl ?_
                refine L_nil ?_
                obtain rfl := so hB91
                show ∃ m, m < _ ∧ I91 m _ _
                refine ⟨n91, Nat.lt_succ_self _, ?_⟩
                rw [hI91]
                exact ⟨i64 (i_88 - 1), x93.2, x98, v112, hL91, ((hS102 0 rfl).trans sf0), ((hS102 2 rfl).trans sf2), ((hS102 3 rfl).trans sf3), rfl, hrb, hb_g_r, (rel0 hv60_g9_0), ho112, hb_g9, hb_g3, hx⟩
            ·
              have hB91 := (ite_f hc92).symm.trans hB91
              refine W_exit ?_
              obtain rfl := so hB91
              obtain rfl := so hL91
              show R91 _ _
              rw [hR91]
              exact ⟨i_88, g_r_1_89, g9_1_90, v90_g9_1, rfl, sf2, sf3, hrb, hb_g_r, (rel0 hv60_g9_0), hv90_g9_1, hb_g9, hb_g3, hx⟩
      ·
        intro f w_ hR
        rw [hR91] at hR
        obtain ⟨i_88, g_r_1_89, g9_1_90, v90_g9_1, rfl, sf2, sf3, hrb, hb_g_r, hv60_g9_0, hv90_g9_1, hb_g9, hb_g3, hx⟩ := hR
        clear hR91
        refine W_seq ?_
        refine W_region ?_
        refine L_lda (cs := [v60_g9_0, v90_g9_1]) rfl Try.isAgg26 Try.sizeOf26 sf3 (Blk.sub hb_g9 0 2) rfl ?_
        refine L_sta (vs := #[v60_g9_0, v90_g9_1]) rfl Try.sizeOf26 sf2 rfl rfl (ones_cons (one_of hv60_g9_0) (ones_cons (one_of (Own.rel hv90_g9_1)) ones_nil)) hb_g3 rfl ?_
        intro w115 hp115
        have hrb := hp115.mu.rel hrb (by decide) (Nat.le_trans hB hge_g3)
        have hb_g_r := hp115.mu.blk hb_g_r (by decide)
        have hv60_g9_0 := hp115.mu.rel hv60_g9_0 (by decide) (Nat.le_trans hB hge_g3)
        have hv90_g9_1 := hp115.mu.ownT hv90_g9_1 (by decide) (by decide) (Nat.le_trans hB hge_g3)
        have hx := fr1_mut hx hp115.mu hge_g3 hgl
        have hb_g3 : Blk w115 g3 26 #[v60_g9_0, v90_g9_1] := hp115.blk
        refine L_nil ?_
        refine W_ret ?_
        obtain rfl := so hF
        refine retc Try.results48 Try.isAgg26 Try.sizeOf26 sf2 hb_g3 rfl ?_
        exact ⟨⟨⟨v60_g9_0, v90_g9_1, rfl, (rel0 hv60_g9_0), hv90_g9_1⟩, hb_g_r⟩, hx⟩

theorem i_within_c {n_ : Int} {low : Int} {high : Int} {w : World} {B : Nat} (hB : B ≤ w.heap.size) {r : Bool} (hF : i_within n_ low high = some r) :
    C Try.prog 50 #[.int .i64 n_, .int .i64 low, .int .i64 high] w fun v w' => (v = .bool r) ∧ Ext w w' := by
  unfold i_within at hF
  have hx := ext_refl w
  refine C_enter Try.func50 rfl Try.ntmps50 rfl ?_
  refine W_seq ?_
  refine W_region ?_
  refine L_as (v := .bool false) rfl rfl ?_
  refine L_nil ?_
  refine W_seq ?_
  obtain ⟨R1, hR1⟩ : ∃ R : Fr → World → Prop, R = fun f w_ => f 6 = .bool ((decide (low ≤ n_)) && (decide (n_ ≤ high))) ∧ Ext w w_ := ⟨_, rfl⟩
  refine W_join R1 ?_ ?_
  ·
    refine W_region ?_
    refine L_mv (v := .int .i64 low) rfl rfl ?_
    refine L_mv (v := .int .i64 n_) rfl rfl ?_
    refine L_leq (m := low) (n := n_) rfl rfl rfl ?_
    refine L_mv (v := .bool (decide (low ≤ n_))) rfl rfl ?_
    refine L_split (d := 10) (b := decide (low ≤ n_)) rfl (fun hc2 => ?_) (fun hc2 => ?_)
    ·
      refine L_mv (v := .int .i64 n_) rfl rfl ?_
      refine L_mv (v := .int .i64 high) rfl rfl ?_
      refine L_leq (m := n_) (n := high) rfl rfl rfl ?_
      refine L_pick (v := .bool ((decide (low ≤ n_)) && (decide (n_ ≤ high)))) rfl rfl (and_t hc2 rfl) ?_
      refine L_as (v := .bool ((decide (low ≤ n_)) && (decide (n_ ≤ high)))) rfl rfl ?_
      refine L_nil ?_
      show R1 _ _
      rw [hR1]
      exact ⟨rfl, hx⟩
    ·
      refine L_pass rfl ?_
      refine L_pass rfl ?_
      refine L_pass rfl ?_
      refine L_pick (v := .bool ((decide (low ≤ n_)) && (decide (n_ ≤ high)))) rfl rfl (and_f hc2) ?_
      refine L_as (v := .bool ((decide (low ≤ n_)) && (decide (n_ ≤ high)))) rfl rfl ?_
      refine L_nil ?_
      show R1 _ _
      rw [hR1]
      exact ⟨rfl, hx⟩
  ·
    intro f w_ hR
    rw [hR1] at hR
    obtain ⟨sf6, hx⟩ := hR
    clear hR1
    refine W_ret ?_
    obtain rfl := so hF
    refine ret1 Try.results50 ?_
    exact ⟨sf6, hx⟩

theorem slices_IndexFunc_implRule_c {s : List Rule} {f_ : (Rule → Option Bool)} {v0 : Value} {v1 : Value} {w : World} {B : Nat} (hB : B ≤ w.heap.size) (h0 : (RP.slice 36 (rRule 3 23)).rel B w.heap.size w [v0] s) (h1 : Fun1 Try.prog B (rRule 3 23) true Value.bool f_ v1 w) {r : Int} (hF : slices_IndexFunc_implRule s f_ = some r) :
    C Try.prog 86 #[v0, v1] w fun v w' => (v = .int .i64 r) ∧ Ext w w' := by
  unfold slices_IndexFunc_implRule at hF
  obtain ⟨fid_1, caps_1, rfl, hcall_1, hc_1⟩ := h1
  have hx := ext_refl w
  refine C_enter Try.func86 rfl Try.ntmps86 rfl ?_
  refine W_seq ?_
  refine W_region ?_
  refine L_as (v := .int .i64 0) rfl rfl ?_
  refine L_nil ?_
  refine W_seq ?_
  refine W_seq ?_
  refine W_region ?_
  refine L_mv (v := v0) rfl rfl ?_
  refine L_len (v := v0) rfl Try.underlying24 rfl h0 ?_
  refine L_mv (v := .int .i64 0) rfl rfl ?_
  refine L_nil ?_
  have hlen2 := len_le h0
  obtain ⟨j2, hL2, hF⟩ := bind_some hF
  obtain ⟨R2, hR2⟩ : ∃ R : Fr → World → Prop, R = fun f w_ => j2 = .nx () ∧ Ext w w_ := ⟨_, rfl⟩
  refine W_join R2 ?_ ?_
  ·
    refine W_block ?_
    obtain ⟨I2, hI2⟩ : ∃ I : Nat → Fr → World → Prop, I = fun n f w_ => ∃ i_1 : Nat, ∃ suf2 : List Rule, n = suf2.length ∧ List.drop i_1 s = suf2 ∧ i_1 + suf2.length = s.length ∧ rangeL (slices_IndexFunc_implRule_b1 f_) suf2 i_1 () = some j2 ∧ f 0 = v0 ∧ f 1 = .func (.func fid_1) #[] caps_1 ∧ f 7 = .int .i64 (s.length : Int) ∧ f 8 = .int .i64 (i_1 : Int) ∧ (RP.slice 36 (rRule 3 23)).rel B w.heap.size w_ [v0] s ∧ Ext w w_ := ⟨_, rfl⟩
    refine W_loop I2 (n := s.length) ?_ ?_
    · rw [hI2]; exact ⟨0, s, rfl, rfl, Nat.zero_add _, hL2, rfl, rfl, rfl, rfl, h0, hx⟩
    ·
      intro n2 f w_ hI
      rw [hI2] at hI
      obtain ⟨i_1, suf2, rfl, hd2, hl2, hL2, sf0, sf1, sf7, sf8, h0, hx⟩ := hI
      refine W_seq ?_
      refine W_region ?_
      refine L_lss (m := (i_1 : Int)) (n := (s.length : Int)) rfl sf8 sf7 ?_
      refine L_nil ?_
      refine W_seq ?_
      refine W_cond (b := decide ((i_1 : Int) < (s.length : Int))) rfl (fun hc3 => ?_) (fun hc3 => ?_)
      ·
        have hlt2 := of_decide_eq_true hc3
        cases suf2 with
        | nil => exact absurd hlt2 (by simp at hl2; omega)
        | cons x_2 rest2 =>
          obtain ⟨o2, hB2, hL2⟩ := range_cons hL2
          rw [slices_IndexFunc_implRule_b1] at hB2
          have hix2 := drop_idx hd2
          refine W_skip ?_
          refine W_seq ?_
          refine W_block ?_
          refine W_seq ?_
          refine W_region ?_
          refine L_mv (v := .int .i64 (i_1 : Int)) rfl sf8 ?_
          refine L_as (v := .int .i64 (i_1 : Int)) rfl rfl ?_
          refine L_nil ?_
          refine W_seq ?_
          obtain ⟨x6, hx6, hB2⟩ := bind_some hB2
          refine W_region ?_
          refine L_mv (v := .func (.func fid_1) #[] caps_1) rfl sf1 ?_
          refine L_mv (v := v0) rfl sf0 ?_
          refine L_mv (v := .int .i64 (i_1 : Int)) rfl rfl ?_
          refine L_ix (r := (rRule 3 23)) rfl Try.underlying24 Try.sizeOf36 rfl h0 rfl hix2 ?_
          intro g7 o8 cs8 hr8 hat8
          obtain ⟨u8_0, u8_1, u8_2, rfl, hu8_0, hu8_1, hu8_2⟩ := rRule_iff.1 hr8
          refine L_lda (cs := [.int .i64 x_2.kind, u8_0, u8_1, .int .i64 x_2.bound, u8_2]) rfl Try.isAgg36 Try.sizeOf36 rfl (At.sub hat8 0 5) rfl ?_
          refine L_callv (args := #[.agg #[.int .i64 x_2.kind, u8_0, u8_1, .int .i64 x_2.bound, u8_2]]) rfl hcall_1 rfl (ops1 rfl) (hc_1 _ hx [.int .i64 x_2.kind, u8_0, u8_1, .int .i64 x_2.bound, u8_2] _ _ _ (rRule_iff.2 ⟨_, _, _, rfl, (rel0 hu8_0), (rel0 hu8_1), (rel0 hu8_2)⟩) hx6 (args_app rfl)) ?_
          rintro _ w9 ⟨rfl, he9⟩
          have h0 := RP.ext h0 he9
          have hu8_0 := RP.ext hu8_0 he9
          have hu8_1 := RP.ext hu8_1 he9
          have hu8_2 := RP.ext hu8_2 he9
          have hx := ext_trans hx he9
          refine L_nil ?_
          refine W_cond (b := x6) rfl (fun hc10 => ?_) (fun hc10 => ?_)
          ·
            have hB2 := (ite_t hc10).symm.trans hB2
            refine W_seq ?_
            refine W_region ?_
            refine L_mv (v := .int .i64 (i_1 : Int)) rfl rfl ?_
            refine L_as (v := .int .i64 (i_1 : Int)) rfl rfl ?_
            refine L_nil ?_
            refine W_ret ?_
            obtain rfl := so hB2
            obtain rfl := so hL2
            obtain rfl := so hF
            refine ret1 Try.results86 ?_
            exact ⟨rfl, hx⟩
          ·
            have hB2 := (ite_f hc10).symm.trans hB2
            refine W_skip ?_
            refine W_region ?_
            refine L_add (m := (i_1 : Int)) (n := 1) rfl sf8 rfl ?_
            refine L_mv (v := .int .i64 (i64 ((i_1 : Int) + 1))) rfl rfl ?_
            refine L_nil ?_
            obtain rfl := so hB2
            show ∃ m, m < _ ∧ I2 m _ _
            refine ⟨rest2.length, by simp, ?_⟩
            rw [hI2]
            exact ⟨i_1 + 1, rest2, rfl, drop_next hd2, by simp at hl2; omega, hL2, sf0, sf1, sf7, (Eq.trans rfl (congrArg (Value.int .i64) (i64_succ (n := s.length) (by simp at hl2; omega) hlen2))), h0, hx⟩
      ·
        cases suf2 with
        | cons _ _ => exact absurd (of_decide_eq_false hc3) (by simp at hl2; omega)
        | nil =>
          obtain rfl := range_nil hL2
          refine W_exit ?_
          show R2 _ _
          rw [hR2]
          exact ⟨rfl, hx⟩
  ·
    intro f w_ hR
    rw [hR2] at hR
    obtain ⟨rfl, hx⟩ := hR
    clear hR2
    refine W_seq ?_
    refine W_region ?_
    refine L_as (v := .int .i64 (-1)) rfl rfl ?_
    refine L_nil ?_
    refine W_ret ?_
    obtain rfl := so hF
    refine ret1 Try.results86 ?_
    exact ⟨rfl, hx⟩

theorem slices_ContainsFunc_implRule_c {s : List Rule} {f_ : (Rule → Option Bool)} {v0 : Value} {v1 : Value} {w : World} {B : Nat} (hB : B ≤ w.heap.size) (h0 : (RP.slice 36 (rRule 3 23)).rel B w.heap.size w [v0] s) (h1 : Fun1 Try.prog B (rRule 3 23) true Value.bool f_ v1 w) {r : Bool} (hF : slices_ContainsFunc_implRule s f_ = some r) :
    C Try.prog 66 #[v0, v1] w fun v w' => (v = .bool r) ∧ Ext w w' := by
  unfold slices_ContainsFunc_implRule at hF
  obtain ⟨fid_1, caps_1, rfl, hcall_1, hc_1⟩ := h1
  have hx := ext_refl w
  refine C_enter Try.func66 rfl Try.ntmps66 rfl ?_
  refine W_seq ?_
  refine W_region ?_
  refine L_as (v := .bool false) rfl rfl ?_
  refine L_nil ?_
  refine W_seq ?_
  obtain ⟨x1, hx1, hF⟩ := bind_some hF
  refine W_region ?_
  refine L_mv (v := v0) rfl rfl ?_
  refine L_mv (v := .func (.func fid_1) #[] caps_1) rfl rfl ?_
  refine L_call (args := #[v0, .func (.func fid_1) #[] caps_1]) rfl Try.call86 (ops2 rfl rfl) (slices_IndexFunc_implRule_c (s := s) (f_ := f_) (Nat.le_trans hB hx.size) (rel0 h0) ⟨_, _, rfl, hcall_1, fun w_ hE_ => hc_1 w_ (ext_trans hx hE_)⟩ hx1) ?_
  rintro _ w3 ⟨rfl, he3⟩
  have h0 := RP.ext h0 he3
  have hx := ext_trans hx he3
  refine L_geq (m := x1) (n := 0) rfl rfl rfl ?_
  refine L_as (v := .bool (decide (x1 ≥ 0))) rfl rfl ?_
  refine L_nil ?_
  refine W_ret ?_
  obtain rfl := so hF
  refine ret1 Try.results66 ?_
  exact ⟨rfl, hx⟩

theorem slices_Index_int_c {s : List Int} {v_ : Int} {v0 : Value} {w : World} {B : Nat} (hB : B ≤ w.heap.size) (h0 : (RP.slice 3 RP.int).rel B w.heap.size w [v0] s) {r : Int} (hF : slices_Index_int s v_ = some r) :
    C Try.prog 103 #[v0, .int .i64 v_] w fun v w' => (v = .int .i64 r) ∧ Ext w w' := by
  unfold slices_Index_int at hF
  have hx := ext_refl w
  refine C_enter Try.func103 rfl Try.ntmps103 rfl ?_
  refine W_seq ?_
  refine W_region ?_
  refine L_as (v := .int .i64 0) rfl rfl ?_
  refine L_nil ?_
  refine W_seq ?_
  refine W_seq ?_
  refine W_region ?_
  refine L_mv (v := v0) rfl rfl ?_
  refine L_len (v := v0) rfl Try.underlying23 rfl h0 ?_
  refine L_mv (v := .int .i64 0) rfl rfl ?_
  refine L_nil ?_
  have hlen2 := len_le h0
  obtain ⟨j2, hL2, hF⟩ := bind_some hF
  obtain ⟨R2, hR2⟩ : ∃ R : Fr → World → Prop, R = fun f w_ => j2 = .nx () ∧ Ext w w_ := ⟨_, rfl⟩
  refine W_join R2 ?_ ?_
  ·
    refine W_block ?_
    obtain ⟨I2, hI2⟩ : ∃ I : Nat → Fr → World → Prop, I = fun n f w_ => ∃ i_1 : Nat, ∃ suf2 : List Int, n = suf2.length ∧ List.drop i_1 s = suf2 ∧ i_1 + suf2.length = s.length ∧ rangeL (slices_Index_int_b1 v_) suf2 i_1 () = some j2 ∧ f 0 = v0 ∧ f 1 = .int .i64 v_ ∧ f 7 = .int .i64 (s.length : Int) ∧ f 8 = .int .i64 (i_1 : Int) ∧ (RP.slice 3 RP.int).rel B w.heap.size w_ [v0] s ∧ Ext w w_ := ⟨_, rfl⟩
    refine W_loop I2 (n := s.length) ?_ ?_
    · rw [hI2]; exact ⟨0, s, rfl, rfl, Nat.zero_add _, hL2, rfl, rfl, rfl, rfl, h0, hx⟩
    ·
      intro n2 f w_ hI
      rw [hI2] at hI
      obtain ⟨i_1, suf2, rfl, hd2, hl2, hL2, sf0, sf1, sf7, sf8, h0, hx⟩ := hI
      refine W_seq ?_
      refine W_region ?_
      refine L_lss (m := (i_1 : Int)) (n := (s.length : Int)) rfl sf8 sf7 ?_
      refine L_nil ?_
      refine W_seq ?_
      refine W_cond (b := decide ((i_1 : Int) < (s.length : Int))) rfl (fun hc3 => ?_) (fun hc3 => ?_)
      ·
        have hlt2 := of_decide_eq_true hc3
        cases suf2 with
        | nil => exact absurd hlt2 (by simp at hl2; omega)
        | cons x_2 rest2 =>
          obtain ⟨o2, hB2, hL2⟩ := range_cons hL2
          rw [slices_Index_int_b1] at hB2
          have hix2 := drop_idx hd2
          refine W_skip ?_
          refine W_seq ?_
          refine W_block ?_
          refine W_seq ?_
          refine W_region ?_
          refine L_mv (v := .int .i64 (i_1 : Int)) rfl sf8 ?_
          refine L_as (v := .int .i64 (i_1 : Int)) rfl rfl ?_
          refine L_nil ?_
          refine W_seq ?_
          refine W_region ?_
          refine L_mv (v := .int .i64 v_) rfl sf1 ?_
          refine L_mv (v := v0) rfl sf0 ?_
          refine L_mv (v := .int .i64 (i_1 : Int)) rfl rfl ?_
          refine L_ix (r := RP.int) rfl Try.underlying23 Try.sizeOf3 rfl h0 rfl hix2 ?_
          intro g6 o7 cs7 hr7 hat7
          obtain rfl : _ = [_] := hr7
          refine L_ld (v := .int .i64 x_2) rfl Try.isAgg3 rfl (hat7.cell (j := 0) rfl) ?_
          refine L_eql (m := v_) (n := x_2) rfl rfl rfl ?_
          refine L_nil ?_
          refine W_cond (b := (v_ == x_2)) rfl (fun hc8 => ?_) (fun hc8 => ?_)
          ·
            have hB2 := (ite_t hc8).symm.trans hB2
            refine W_seq ?_
            refine W_region ?_
            refine L_mv (v := .int .i64 (i_1 : Int)) rfl rfl ?_
            refine L_as (v := .int .i64 (i_1 : Int)) rfl rfl ?_
            refine L_nil ?_
            refine W_ret ?_
            obtain rfl := so hB2
            obtain rfl := so hL2
            obtain rfl := so hF
            refine ret1 Try.results103 ?_
            exact ⟨rfl, hx⟩
          ·
            have hB2 := (ite_f hc8).symm.trans hB2
            refine W_skip ?_
            refine W_region ?_
            refine L_add (m := (i_1 : Int)) (n := 1) rfl sf8 rfl ?_
            refine L_mv (v := .int .i64 (i64 ((i_1 : Int) + 1))) rfl rfl ?_
            refine L_nil ?_
            obtain rfl := so hB2
            show ∃ m, m < _ ∧ I2 m _ _
            refine ⟨rest2.length, by simp, ?_⟩
            rw [hI2]
            exact ⟨i_1 + 1, rest2, rfl, drop_next hd2, by simp at hl2; omega, hL2, sf0, sf1, sf7, (Eq.trans rfl (congrArg (Value.int .i64) (i64_succ (n := s.length) (by simp at hl2; omega) hlen2))), h0, hx⟩
      ·
        cases suf2 with
        | cons _ _ => exact absurd (of_decide_eq_false hc3) (by simp at hl2; omega)
        | nil =>
          obtain rfl := range_nil hL2
          refine W_exit ?_
          show R2 _ _
          rw [hR2]
          exact ⟨rfl, hx⟩
  ·
    intro f w_ hR
    rw [hR2] at hR
    obtain ⟨rfl, hx⟩ := hR
    clear hR2
    refine W_seq ?_
    refine W_region ?_
    refine L_as (v := .int .i64 (-1)) rfl rfl ?_
    refine L_nil ?_
    refine W_ret ?_
    obtain rfl := so hF
    refine ret1 Try.results103 ?_
    exact ⟨rfl, hx⟩

theorem slices_Contains_int_c {s : List Int} {v_ : Int} {v0 : Value} {w : World} {B : Nat} (hB : B ≤ w.heap.size) (h0 : (RP.slice 3 RP.int).rel B w.heap.size w [v0] s) {r : Bool} (hF : slices_Contains_int s v_ = some r) :
    C Try.prog 87 #[v0, .int .i64 v_] w fun v w' => (v = .bool r) ∧ Ext w w' := by
  unfold slices_Contains_int at hF
  have hx := ext_refl w
  refine C_enter Try.func87 rfl Try.ntmps87 rfl ?_
  refine W_seq ?_
  refine W_region ?_
  refine L_as (v := .bool false) rfl rfl ?_
  refine L_nil ?_
  refine W_seq ?_
  obtain ⟨x1, hx1, hF⟩ := bind_some hF
  refine W_region ?_
  refine L_mv (v := v0) rfl rfl ?_
  refine L_mv (v := .int .i64 v_) rfl rfl ?_
  refine L_call (args := #[v0, .int .i64 v_]) rfl Try.call103 (ops2 rfl rfl) (slices_Index_int_c (s := s) (v_ := v_) (Nat.le_trans hB hx.size) (rel0 h0) hx1) ?_
  rintro _ w3 ⟨rfl, he3⟩
  have h0 := RP.ext h0 he3
  have hx := ext_trans hx he3
  refine L_geq (m := x1) (n := 0) rfl rfl rfl ?_
  refine L_as (v := .bool (decide (x1 ≥ 0))) rfl rfl ?_
  refine L_nil ?_
  refine W_ret ?_
  obtain rfl := so hF
  refine ret1 Try.results87 ?_
  exact ⟨rfl, hx⟩

theorem slices_IndexFunc_int_c {s : List Int} {f_ : (Int → Option Bool)} {v0 : Value} {v1 : Value} {w : World} {B : Nat} (hB : B ≤ w.heap.size) (h0 : (RP.slice 3 RP.int).rel B w.heap.size w [v0] s) (h1 : Fun1 Try.prog B RP.int false Value.bool f_ v1 w) {r : Int} (hF : slices_IndexFunc_int s f_ = some r) :
    C Try.prog 104 #[v0, v1] w fun v w' => (v = .int .i64 r) ∧ Ext w w' := by
  unfold slices_IndexFunc_int at hF
  obtain ⟨fid_1, caps_1, rfl, hcall_1, hc_1⟩ := h1
  have hx := ext_refl w
  refine C_enter Try.func104 rfl Try.ntmps104 rfl ?_
  refine W_seq ?_
  refine W_region ?_
  refine L_as (v := .int .i64 0) rfl rfl ?_
  refine L_nil ?_
  refine W_seq ?_
  refine W_seq ?_
  refine W_region ?_
  refine L_mv (v := v0) rfl rfl ?_
  refine L_len (v := v0) rfl Try.underlying23 rfl h0 ?_
  refine L_mv (v := .int .i64 0) rfl rfl ?_
  refine L_nil ?_
  have hlen2 := len_le h0
  obtain ⟨j2, hL2, hF⟩ := bind_some hF
  obtain ⟨R2, hR2⟩ : ∃ R : Fr → World → Prop, R = fun f w_ => j2 = .nx () ∧ Ext w w_ := ⟨_, rfl⟩
  refine W_join R2 ?_ ?_
  ·
    refine W_block ?_
    obtain ⟨I2, hI2⟩ : ∃ I : Nat → Fr → World → Prop, I = fun n f w_ => ∃ i_1 : Nat, ∃ suf2 : List Int, n = suf2.length ∧ List.drop i_1 s = suf2 ∧ i_1 + suf2.length = s.length ∧ rangeL (slices_IndexFunc_int_b1 f_) suf2 i_1 () = some j2 ∧ f 0 = v0 ∧ f 1 = .func (.func fid_1) #[] caps_1 ∧ f 7 = .int .i64 (s.length : Int) ∧ f 8 = .int .i64 (i_1 : Int) ∧ (RP.slice 3 RP.int).rel B w.heap.size w_ [v0] s ∧ Ext w w_ := ⟨_, rfl⟩
    refine W_loop I2 (n := s.length) ?_ ?_
    · rw [hI2]; exact ⟨0, s, rfl, rfl, Nat.zero_add _, hL2, rfl, rfl, rfl, rfl, h0, hx⟩
    ·
      intro n2 f w_ hI
      rw [hI2] at hI
      obtain ⟨i_1, suf2, rfl, hd2, hl2, hL2, sf0, sf1, sf7, sf8, h0, hx⟩ := hI
      refine W_seq ?_
      refine W_region ?_
      refine L_lss (m := (i_1 : Int)) (n := (s.length : Int)) rfl sf8 sf7 ?_
      refine L_nil ?_
      refine W_seq ?_
      refine W_cond (b := decide ((i_1 : Int) < (s.length : Int))) rfl (fun hc3 => ?_) (fun hc3 => ?_)
      ·
        have hlt2 := of_decide_eq_true hc3
        cases suf2 with
        | nil => exact absurd hlt2 (by simp at hl2; omega)
        | cons x_2 rest2 =>
          obtain ⟨o2, hB2, hL2⟩ := range_cons hL2
          rw [slices_IndexFunc_int_b1] at hB2
          have hix2 := drop_idx hd2
          refine W_skip ?_
          refine W_seq ?_
          refine W_block ?_
          refine W_seq ?_
          refine W_region ?_
          refine L_mv (v := .int .i64 (i_1 : Int)) rfl sf8 ?_
          refine L_as (v := .int .i64 (i_1 : Int)) rfl rfl ?_
          refine L_nil ?_
          refine W_seq ?_
          obtain ⟨x6, hx6, hB2⟩ := bind_some hB2
          refine W_region ?_
          refine L_mv (v := .func (.func fid_1) #[] caps_1) rfl sf1 ?_
          refine L_mv (v := v0) rfl sf0 ?_
          refine L_mv (v := .int .i64 (i_1 : Int)) rfl rfl ?_
          refine L_ix (r := RP.int) rfl Try.underlying23 Try.sizeOf3 rfl h0 rfl hix2 ?_
          intro g7 o8 cs8 hr8 hat8
          obtain rfl : _ = [_] := hr8
          refine L_ld (v := .int .i64 x_2) rfl Try.isAgg3 rfl (hat8.cell (j := 0) rfl) ?_
          refine L_callv (args := #[.int .i64 x_2]) rfl hcall_1 rfl (ops1 rfl) (hc_1 _ hx [.int .i64 x_2] _ _ _ rfl hx6 (args_app rfl)) ?_
          rintro _ w9 ⟨rfl, he9⟩
          have h0 := RP.ext h0 he9
          have hx := ext_trans hx he9
          refine L_nil ?_
          refine W_cond (b := x6) rfl (fun hc10 => ?_) (fun hc10 => ?_)
          ·
            have hB2 := (ite_t hc10).symm.trans hB2
            refine W_seq ?_
            refine W_region ?_
            refine L_mv (v := .int .i64 (i_1 : Int)) rfl rfl ?_
            refine L_as (v := .int .i64 (i_1 : Int)) rfl rfl ?_
            refine L_nil ?_
            refine W_ret ?_
            obtain rfl := so hB2
            obtain rfl := so hL2
            obtain rfl := so hF
            refine ret1 Try.results104 ?_
            exact ⟨rfl, hx⟩
          ·
            have hB2 := (ite_f hc10).symm.trans hB2
            refine W_skip ?_
            refine W_region ?_
            refine L_add (m := (i_1 : Int)) (n := 1) rfl sf8 rfl ?_
            refine L_mv (v := .int .i64 (i64 ((i_1 : Int) + 1))) rfl rfl ?_
            refine L_nil ?_
            obtain rfl := so hB2
            show ∃ m, m < _ ∧ I2 m _ _
            refine ⟨rest2.length, by simp, ?_⟩
            rw [hI2]
            exact ⟨i_1 + 1, rest2, rfl, drop_next hd2, by simp at hl2; omega, hL2, sf0, sf1, sf7, (Eq.trans rfl (congrArg (Value.int .i64) (i64_succ (n := s.length) (by simp at hl2; omega) hlen2))), h0, hx⟩
      ·
        cases suf2 with
        | cons _ _ => exact absurd (of_decide_eq_false hc3) (by simp at hl2; omega)
        | nil =>
          obtain rfl := range_nil hL2
          refine W_exit ?_
          show R2 _ _
          rw [hR2]
          exact ⟨rfl, hx⟩
  ·
    intro f w_ hR
    rw [hR2] at hR
    obtain ⟨rfl, hx⟩ := hR
    clear hR2
    refine W_seq ?_
    refine W_region ?_
    refine L_as (v := .int .i64 (-1)) rfl rfl ?_
    refine L_nil ?_
    refine W_ret ?_
    obtain rfl := so hF
    refine ret1 Try.results104 ?_
    exact ⟨rfl, hx⟩

theorem slices_ContainsFunc_int_c {s : List Int} {f_ : (Int → Option Bool)} {v0 : Value} {v1 : Value} {w : World} {B : Nat} (hB : B ≤ w.heap.size) (h0 : (RP.slice 3 RP.int).rel B w.heap.size w [v0] s) (h1 : Fun1 Try.prog B RP.int false Value.bool f_ v1 w) {r : Bool} (hF : slices_ContainsFunc_int s f_ = some r) :
    C Try.prog 88 #[v0, v1] w fun v w' => (v = .bool r) ∧ Ext w w' := by
  unfold slices_ContainsFunc_int at hF
  obtain ⟨fid_1, caps_1, rfl, hcall_1, hc_1⟩ := h1
  have hx := ext_refl w
  refine C_enter Try.func88 rfl Try.ntmps88 rfl ?_
  refine W_seq ?_
  refine W_region ?_
  refine L_as (v := .bool false) rfl rfl ?_
  refine L_nil ?_
  refine W_seq ?_
  obtain ⟨x1, hx1, hF⟩ := bind_some hF
  refine W_region ?_
  refine L_mv (v := v0) rfl rfl ?_
  refine L_mv (v := .func (.func fid_1) #[] caps_1) rfl rfl ?_
  refine L_call (args := #[v0, .func (.func fid_1) #[] caps_1]) rfl Try.call104 (ops2 rfl rfl) (slices_IndexFunc_int_c (s := s) (f_ := f_) (Nat.le_trans hB hx.size) (rel0 h0) ⟨_, _, rfl, hcall_1, fun w_ hE_ => hc_1 w_ (ext_trans hx hE_)⟩ hx1) ?_
  rintro _ w3 ⟨rfl, he3⟩
  have h0 := RP.ext h0 he3
  have hx := ext_trans hx he3
  refine L_geq (m := x1) (n := 0) rfl rfl rfl ?_
  refine L_as (v := .bool (decide (x1 ≥ 0))) rfl rfl ?_
  refine L_nil ?_
  refine W_ret ?_
  obtain rfl := so hF
  refine ret1 Try.results88 ?_
  exact ⟨rfl, hx⟩

theorem i_ruleValid_1_c {n_ : Int} {w : World} {B : Nat} (hB : B ≤ w.heap.size) {r : Bool} (hF : i_ruleValid_1 n_ = some r) :
    C Try.prog 89 #[.int .i64 n_] w fun v w' => (v = .bool r) ∧ Ext w w' := by
  unfold i_ruleValid_1 at hF
  have hx := ext_refl w
  refine C_enter Try.func89 rfl Try.ntmps89 rfl ?_
  refine W_seq ?_
  refine W_region ?_
  refine L_as (v := .bool false) rfl rfl ?_
  refine L_nil ?_
  refine W_seq ?_
  obtain ⟨b3, hb3, hF⟩ := bind_some hF
  obtain ⟨R4, hR4⟩ : ∃ R : Fr → World → Prop, R = fun f w_ => f 2 = .bool b3 ∧ Ext w w_ := ⟨_, rfl⟩
  refine W_join R4 ?_ ?_
  ·
    refine W_region ?_
    refine L_mv (v := .int .i64 n_) rfl rfl ?_
    refine L_eql (m := n_) (n := 0) rfl rfl rfl ?_
    refine L_mv (v := .bool (n_ == 0)) rfl rfl ?_
    refine L_split (d := 5) (b := (n_ == 0)) rfl (fun hc5 => ?_) (fun hc5 => ?_)
    ·
      rw [ite_t hc5] at hb3
      refine L_pass rfl ?_
      refine L_pass rfl ?_
      refine L_pass rfl ?_
      refine L_pick (v := .bool b3) rfl rfl (congrArg Value.bool (so hb3)) ?_
      refine L_as (v := .bool b3) rfl rfl ?_
      refine L_nil ?_
      show R4 _ _
      rw [hR4]
      exact ⟨rfl, hx⟩
    ·
      rw [ite_f hc5] at hb3
      obtain ⟨x1, hx1, hb3⟩ := bind_some hb3
      refine L_mv (v := .int .i64 n_) rfl rfl ?_
      refine L_call (args := #[.int .i64 n_, .int .i64 (-9), .int .i64 9]) rfl Try.call50 (ops3 rfl rfl rfl) (i_within_c (n_ := n_) (low := (-9)) (high := 9) (Nat.le_trans hB hx.size) hx1) ?_
      rintro _ w6 ⟨rfl, he6⟩
      have hx := ext_trans hx he6
      refine L_not_ (b := x1) rfl rfl ?_
      refine L_pick (v := .bool b3) rfl rfl (congrArg Value.bool (so hb3)) ?_
      refine L_as (v := .bool b3) rfl rfl ?_
      refine L_nil ?_
      show R4 _ _
      rw [hR4]
      exact ⟨rfl, hx⟩
  ·
    intro f w_ hR
    rw [hR4] at hR
    obtain ⟨sf2, hx⟩ := hR
    clear hR4
    refine W_ret ?_
    obtain rfl := so hF
    refine ret1 Try.results89 ?_
    exact ⟨sf2, hx⟩

theorem slices_IndexFunc_Sint_c {s : List (List Int)} {f_ : (List Int → Option Bool)} {v0 : Value} {v1 : Value} {w : World} {B : Nat} (hB : B ≤ w.heap.size) (h0 : (RP.slice 23 (RP.slice 3 RP.int)).rel B w.heap.size w [v0] s) (h1 : Fun1 Try.prog B (RP.slice 3 RP.int) false Value.bool f_ v1 w) {r : Int} (hF : slices_IndexFunc_Sint s f_ = some r) :
    C Try.prog 105 #[v0, v1] w fun v w' => (v = .int .i64 r) ∧ Ext w w' := by
  unfold slices_IndexFunc_Sint at hF
  obtain ⟨fid_1, caps_1, rfl, hcall_1, hc_1⟩ := h1
  have hx := ext_refl w
  refine C_enter Try.func105 rfl Try.ntmps105 rfl ?_
  refine W_seq ?_
  refine W_region ?_
  refine L_as (v := .int .i64 0) rfl rfl ?_
  refine L_nil ?_
  refine W_seq ?_
  refine W_seq ?_
  refine W_region ?_
  refine L_mv (v := v0) rfl rfl ?_
  refine L_len (v := v0) rfl Try.underlying34 rfl h0 ?_
  refine L_mv (v := .int .i64 0) rfl rfl ?_
  refine L_nil ?_
  have hlen2 := len_le h0
  obtain ⟨j2, hL2, hF⟩ := bind_some hF
  obtain ⟨R2, hR2⟩ : ∃ R : Fr → World → Prop, R = fun f w_ => j2 = .nx () ∧ Ext w w_ := ⟨_, rfl⟩
  refine W_join R2 ?_ ?_
  ·
    refine W_block ?_
    obtain ⟨I2, hI2⟩ : ∃ I : Nat → Fr → World → Prop, I = fun n f w_ => ∃ i_1 : Nat, ∃ suf2 : List (List Int), n = suf2.length ∧ List.drop i_1 s = suf2 ∧ i_1 + suf2.length = s.length ∧ rangeL (slices_IndexFunc_Sint_b1 f_) suf2 i_1 () = some j2 ∧ f 0 = v0 ∧ f 1 = .func (.func fid_1) #[] caps_1 ∧ f 7 = .int .i64 (s.length : Int) ∧ f 8 = .int .i64 (i_1 : Int) ∧ (RP.slice 23 (RP.slice 3 RP.int)).rel B w.heap.size w_ [v0] s ∧ Ext w w_ := ⟨_, rfl⟩
    refine W_loop I2 (n := s.length) ?_ ?_
    · rw [hI2]; exact ⟨0, s, rfl, rfl, Nat.zero_add _, hL2, rfl, rfl, rfl, rfl, h0, hx⟩
    ·
      intro n2 f w_ hI
      rw [hI2] at hI
      obtain ⟨i_1, suf2, rfl, hd2, hl2, hL2, sf0, sf1, sf7, sf8, h0, hx⟩ := hI
      refine W_seq ?_
      refine W_region ?_
      refine L_lss (m := (i_1 : Int)) (n := (s.length : Int)) rfl sf8 sf7 ?_
      refine L_nil ?_
      refine W_seq ?_
      refine W_cond (b := decide ((i_1 : Int) < (s.length : Int))) rfl (fun hc3 => ?_) (fun hc3 => ?_)
      ·
        have hlt2 := of_decide_eq_true hc3
        cases suf2 with
        | nil => exact absurd hlt2 (by simp at hl2; omega)
        | cons x_2 rest2 =>
          obtain ⟨o2, hB2, hL2⟩ := range_cons hL2
          rw [slices_IndexFunc_Sint_b1] at hB2
          have hix2 := drop_idx hd2
          refine W_skip ?_
          refine W_seq ?_
          refine W_block ?_
          refine W_seq ?_
          refine W_region ?_
          refine L_mv (v := .int .i64 (i_1 : Int)) rfl sf8 ?_
          refine L_as (v := .int .i64 (i_1 : Int)) rfl rfl ?_
          refine L_nil ?_
          refine W_seq ?_
          obtain ⟨x6, hx6, hB2⟩ := bind_some hB2
          refine W_region ?_
          refine L_mv (v := .func (.func fid_1) #[] caps_1) rfl sf1 ?_
          refine L_mv (v := v0) rfl sf0 ?_
          refine L_mv (v := .int .i64 (i_1 : Int)) rfl rfl ?_
          refine L_ix (r := (RP.slice 3 RP.int)) rfl Try.underlying34 Try.sizeOf23 rfl h0 rfl hix2 ?_
          intro g7 o8 cs8 hr8 hat8
          obtain ⟨u8, rfl, hu8⟩ := slice1 hr8
          refine L_ld (v := u8) rfl Try.isAgg23 rfl (hat8.cell (j := 0) rfl) ?_
          refine L_callv (args := #[u8]) rfl hcall_1 rfl (ops1 rfl) (hc_1 _ hx [u8] _ _ _ (rel0 hu8) hx6 (args_app rfl)) ?_
          rintro _ w9 ⟨rfl, he9⟩
          have h0 := RP.ext h0 he9
          have hu8 := RP.ext hu8 he9
          have hx := ext_trans hx he9
          refine L_nil ?_
          refine W_cond (b := x6) rfl (fun hc10 => ?_) (fun hc10 => ?_)
          ·
            have hB2 := (ite_t hc10).symm.trans hB2
            refine W_seq ?_
            refine W_region ?_
            refine L_mv (v := .int .i64 (i_1 : Int)) rfl rfl ?_
            refine L_as (v := .int .i64 (i_1 : Int)) rfl rfl ?_
            refine L_nil ?_
            refine W_ret ?_
            obtain rfl := so hB2
            obtain rfl := so hL2
            obtain rfl := so hF
            refine ret1 Try.results105 ?_
            exact ⟨rfl, hx⟩
          ·
            have hB2 := (ite_f hc10).symm.trans hB2
            refine W_skip ?_
            refine W_region ?_
            refine L_add (m := (i_1 : Int)) (n := 1) rfl sf8 rfl ?_
            refine L_mv (v := .int .i64 (i64 ((i_1 : Int) + 1))) rfl rfl ?_
            refine L_nil ?_
            obtain rfl := so hB2
            show ∃ m, m < _ ∧ I2 m _ _
            refine ⟨rest2.length, by simp, ?_⟩
            rw [hI2]
            exact ⟨i_1 + 1, rest2, rfl, drop_next hd2, by simp at hl2; omega, hL2, sf0, sf1, sf7, (Eq.trans rfl (congrArg (Value.int .i64) (i64_succ (n := s.length) (by simp at hl2; omega) hlen2))), h0, hx⟩
      ·
        cases suf2 with
        | cons _ _ => exact absurd (of_decide_eq_false hc3) (by simp at hl2; omega)
        | nil =>
          obtain rfl := range_nil hL2
          refine W_exit ?_
          show R2 _ _
          rw [hR2]
          exact ⟨rfl, hx⟩
  ·
    intro f w_ hR
    rw [hR2] at hR
    obtain ⟨rfl, hx⟩ := hR
    clear hR2
    refine W_seq ?_
    refine W_region ?_
    refine L_as (v := .int .i64 (-1)) rfl rfl ?_
    refine L_nil ?_
    refine W_ret ?_
    obtain rfl := so hF
    refine ret1 Try.results105 ?_
    exact ⟨rfl, hx⟩

theorem slices_ContainsFunc_Sint_c {s : List (List Int)} {f_ : (List Int → Option Bool)} {v0 : Value} {v1 : Value} {w : World} {B : Nat} (hB : B ≤ w.heap.size) (h0 : (RP.slice 23 (RP.slice 3 RP.int)).rel B w.heap.size w [v0] s) (h1 : Fun1 Try.prog B (RP.slice 3 RP.int) false Value.bool f_ v1 w) {r : Bool} (hF : slices_ContainsFunc_Sint s f_ = some r) :
    C Try.prog 90 #[v0, v1] w fun v w' => (v = .bool r) ∧ Ext w w' := by
  unfold slices_ContainsFunc_Sint at hF
  obtain ⟨fid_1, caps_1, rfl, hcall_1, hc_1⟩ := h1
  have hx := ext_refl w
  refine C_enter Try.func90 rfl Try.ntmps90 rfl ?_
  refine W_seq ?_
  refine W_region ?_
  refine L_as (v := .bool false) rfl rfl ?_
  refine L_nil ?_
  refine W_seq ?_
  obtain ⟨x1, hx1, hF⟩ := bind_some hF
  refine W_region ?_
  refine L_mv (v := v0) rfl rfl ?_
  refine L_mv (v := .func (.func fid_1) #[] caps_1) rfl rfl ?_
  refine L_call (args := #[v0, .func (.func fid_1) #[] caps_1]) rfl Try.call105 (ops2 rfl rfl) (slices_IndexFunc_Sint_c (s := s) (f_ := f_) (Nat.le_trans hB hx.size) (rel0 h0) ⟨_, _, rfl, hcall_1, fun w_ hE_ => hc_1 w_ (ext_trans hx hE_)⟩ hx1) ?_
  rintro _ w3 ⟨rfl, he3⟩
  have h0 := RP.ext h0 he3
  have hx := ext_trans hx he3
  refine L_geq (m := x1) (n := 0) rfl rfl rfl ?_
  refine L_as (v := .bool (decide (x1 ≥ 0))) rfl rfl ?_
  refine L_nil ?_
  refine W_ret ?_
  obtain rfl := so hF
  refine ret1 Try.results90 ?_
  exact ⟨rfl, hx⟩

theorem i_ruleValid_2_1_c {n_ : Int} {w : World} {B : Nat} (hB : B ≤ w.heap.size) {r : Bool} (hF : i_ruleValid_2_1 n_ = some r) :
    C Try.prog 92 #[.int .i64 n_] w fun v w' => (v = .bool r) ∧ Ext w w' := by
  unfold i_ruleValid_2_1 at hF
  have hx := ext_refl w
  refine C_enter Try.func92 rfl Try.ntmps92 rfl ?_
  refine W_seq ?_
  refine W_region ?_
  refine L_as (v := .bool false) rfl rfl ?_
  refine L_nil ?_
  refine W_seq ?_
  obtain ⟨x1, hx1, hF⟩ := bind_some hF
  refine W_region ?_
  refine L_mv (v := .int .i64 n_) rfl rfl ?_
  refine L_call (args := #[.int .i64 n_, .int .i64 0, .int .i64 3]) rfl Try.call50 (ops3 rfl rfl rfl) (i_within_c (n_ := n_) (low := 0) (high := 3) (Nat.le_trans hB hx.size) hx1) ?_
  rintro _ w3 ⟨rfl, he3⟩
  have hx := ext_trans hx he3
  refine L_not_ (b := x1) rfl rfl ?_
  refine L_as (v := .bool (!x1)) rfl rfl ?_
  refine L_nil ?_
  refine W_ret ?_
  obtain rfl := so hF
  refine ret1 Try.results92 ?_
  exact ⟨rfl, hx⟩

theorem i_ruleValid_2_c {c1 : Rule} {row : List Int} {v0 : Value} {g_c1 : Nat} {v1_1 : Value} {v1_2 : Value} {v1_4 : Value} {w : World} {B : Nat} (hB : B ≤ w.heap.size) (h0 : (RP.slice 3 RP.int).rel B w.heap.size w [v0] row) (hat_g_c1 : At w g_c1 0 [.int .i64 c1.kind, v1_1, v1_2, .int .i64 c1.bound, v1_4]) (h1_1 : (RP.slice 3 RP.int).rel B w.heap.size w [v1_1] c1.vars) (h1_2 : (RP.slice 3 RP.int).rel B w.heap.size w [v1_2] c1.coefs) (h1_4 : (RP.slice 23 (RP.slice 3 RP.int)).rel B w.heap.size w [v1_4] c1.rows) {r : Bool} (hF : i_ruleValid_2 c1 row = some r) :
    C Try.prog 91 #[v0, .pointer (some ⟨g_c1, 0, none⟩)] w fun v w' => (v = .bool r) ∧ Ext w w' := by
  unfold i_ruleValid_2 at hF
  have hlt_g_c1 := hat_g_c1.lt
  have hx := ext_refl w
  refine C_enter Try.func91 rfl Try.ntmps91 rfl ?_
  refine W_seq ?_
  refine W_region ?_
  refine L_as (v := .bool false) rfl rfl ?_
  refine L_nil ?_
  refine W_seq ?_
  obtain ⟨b3, hb3, hF⟩ := bind_some hF
  obtain ⟨R4, hR4⟩ : ∃ R : Fr → World → Prop, R = fun f w_ => f 3 = .bool b3 ∧ Ext w w_ := ⟨_, rfl⟩
  refine W_join R4 ?_ ?_
  ·
    refine W_region ?_
    refine L_mv (v := v0) rfl rfl ?_
    refine L_len (v := v0) rfl Try.underlying23 rfl h0 ?_
    refine L_fa (o' := 0 + 1) rfl fa_36_1 rfl rfl ?_
    refine L_ld (v := v1_1) rfl Try.isAgg23 rfl (hat_g_c1.cell (j := 1) rfl) ?_
    refine L_len (v := v1_1) rfl Try.underlying23 rfl h1_1 ?_
    refine L_neq (m := (row.length : Int)) (n := (c1.vars.length : Int)) rfl rfl rfl ?_
    refine L_mv (v := .bool ((row.length : Int) != (c1.vars.length : Int))) rfl rfl ?_
    refine L_split (d := 10) (b := ((row.length : Int) != (c1.vars.length : Int))) rfl (fun hc5 => ?_) (fun hc5 => ?_)
    ·
      rw [ite_t hc5] at hb3
      refine L_pass rfl ?_
      refine L_pass rfl ?_
      refine L_pick (v := .bool b3) rfl rfl (congrArg Value.bool (so hb3)) ?_
      refine L_as (v := .bool b3) rfl rfl ?_
      refine L_nil ?_
      show R4 _ _
      rw [hR4]
      exact ⟨rfl, hx⟩
    ·
      rw [ite_f hc5] at hb3
      obtain ⟨x1, hx1, hb3⟩ := bind_some hb3
      refine L_mv (v := v0) rfl rfl ?_
      have hf6 : Fun1 Try.prog B RP.int false Value.bool i_ruleValid_2_1 (.func (.func 92) #[] #[]) w := by
        refine ⟨_, _, rfl, Try.call92, fun w_ hE_ cs_ x_ y_ args_ hr_ hy_ ha_ => ?_⟩
        obtain rfl : cs_ = [_] := hr_
        obtain rfl := args_of (b := #[.int .i64 x_]) ha_
        exact i_ruleValid_2_1_c (n_ := x_) (Nat.le_trans hB (ext_trans hx hE_).size) hy_
      refine L_call (args := #[v0, .func (.func 92) #[] #[]]) rfl Try.call88 (ops2 rfl rfl) (slices_ContainsFunc_int_c (s := row) (f_ := i_ruleValid_2_1) (Nat.le_trans hB hx.size) (rel0 h0) hf6 hx1) ?_
      rintro _ w7 ⟨rfl, he7⟩
      have h0 := RP.ext h0 he7
      have hx := ext_trans hx he7
      refine L_pick (v := .bool b3) rfl rfl (congrArg Value.bool (so hb3)) ?_
      refine L_as (v := .bool b3) rfl rfl ?_
      refine L_nil ?_
      show R4 _ _
      rw [hR4]
      exact ⟨rfl, hx⟩
  ·
    intro f w_ hR
    rw [hR4] at hR
    obtain ⟨sf3, hx⟩ := hR
    clear hR4
    refine W_ret ?_
    obtain rfl := so hF
    refine ret1 Try.results91 ?_
    exact ⟨sf3, hx⟩

theorem i_ruleValid_c {r_ : Rule} {cells : Int} {v0_1 : Value} {v0_2 : Value} {v0_4 : Value} {w : World} {B : Nat} (hB : B ≤ w.heap.size) (h0_1 : (RP.slice 3 RP.int).rel B w.heap.size w [v0_1] r_.vars) (h0_2 : (RP.slice 3 RP.int).rel B w.heap.size w [v0_2] r_.coefs) (h0_4 : (RP.slice 23 (RP.slice 3 RP.int)).rel B w.heap.size w [v0_4] r_.rows) {r : Bool} (hF : i_ruleValid r_ cells = some r) :
    C Try.prog 68 #[.agg #[.int .i64 r_.kind, v0_1, v0_2, .int .i64 r_.bound, v0_4], .int .i64 cells] w fun v w' => (v = .bool r) ∧ Ext w w' := by
  unfold i_ruleValid at hF
  have hx := ext_refl w
  refine C_enter Try.func68 rfl Try.ntmps68 rfl ?_
  refine W_seq ?_
  refine W_region ?_
  refine L_box (v := .agg #[.int .i64 r_.kind, v0_1, v0_2, .int .i64 r_.bound, v0_4]) (cs := #[.int .i64 r_.kind, v0_1, v0_2, .int .i64 r_.bound, v0_4]) rfl rfl rfl ?_
  intro g3 w4 hn4
  have hge_g3 := hn4.geS hx.size
  have hb_g3 := hn4.blk
  have h0_1 := RP.ext h0_1 hn4.ext
  have h0_2 := RP.ext h0_2 hn4.ext
  have h0_4 := RP.ext h0_4 hn4.ext
  have hx := ext_trans hx hn4.ext
  refine L_as (v := .bool false) rfl rfl ?_
  refine L_nil ?_
  refine W_seq ?_
  refine W_seq ?_
  refine W_region ?_
  refine L_fa (o' := 1) rfl fa_36_1 rfl rfl ?_
  refine L_ld (v := v0_1) rfl Try.isAgg23 rfl (hb_g3.cell (j := 1) rfl) ?_
  refine L_len (v := v0_1) rfl Try.underlying23 rfl h0_1 ?_
  refine L_mv (v := .int .i64 0) rfl rfl ?_
  refine L_nil ?_
  have hlen6 := len_le h0_1
  obtain ⟨j6, hL6, hF⟩ := bind_some hF
  obtain ⟨R6, hR6⟩ : ∃ R : Fr → World → Prop, R = fun f w_ => j6 = .nx () ∧ f 2 = .pointer (some ⟨g3, 0, none⟩) ∧ (RP.slice 3 RP.int).rel B w.heap.size w_ [v0_1] r_.vars ∧ (RP.slice 3 RP.int).rel B w.heap.size w_ [v0_2] r_.coefs ∧ (RP.slice 23 (RP.slice 3 RP.int)).rel B w.heap.size w_ [v0_4] r_.rows ∧ Blk w_ g3 36 #[.int .i64 r_.kind, v0_1, v0_2, .int .i64 r_.bound, v0_4] ∧ Ext w w_ := ⟨_, rfl⟩
  refine W_join R6 ?_ ?_
  ·
    refine W_block ?_
    obtain ⟨I6, hI6⟩ : ∃ I : Nat → Fr → World → Prop, I = fun n f w_ => ∃ i_5 : Nat, ∃ suf6 : List Int, n = suf6.length ∧ List.drop i_5 r_.vars = suf6 ∧ i_5 + suf6.length = r_.vars.length ∧ rangeL (i_ruleValid_b1 r_ cells) suf6 i_5 () = some j6 ∧ f 1 = .int .i64 cells ∧ f 2 = .pointer (some ⟨g3, 0, none⟩) ∧ f 8 = v0_1 ∧ f 9 = .int .i64 (r_.vars.length : Int) ∧ f 10 = .int .i64 (i_5 : Int) ∧ (RP.slice 3 RP.int).rel B w.heap.size w_ [v0_1] r_.vars ∧ (RP.slice 3 RP.int).rel B w.heap.size w_ [v0_2] r_.coefs ∧ (RP.slice 23 (RP.slice 3 RP.int)).rel B w.heap.size w_ [v0_4] r_.rows ∧ Blk w_ g3 36 #[.int .i64 r_.kind, v0_1, v0_2, .int .i64 r_.bound, v0_4] ∧ Ext w w_ := ⟨_, rfl⟩
    refine W_loop I6 (n := r_.vars.length) ?_ ?_
    · rw [hI6]; exact ⟨0, r_.vars, rfl, rfl, Nat.zero_add _, hL6, rfl, rfl, rfl, rfl, rfl, h0_1, h0_2, h0_4, hb_g3, hx⟩
    ·
      intro n6 f w_ hI
      rw [hI6] at hI
      obtain ⟨i_5, suf6, rfl, hd6, hl6, hL6, sf1, sf2, sf8, sf9, sf10, h0_1, h0_2, h0_4, hb_g3, hx⟩ := hI
      refine W_seq ?_
      refine W_region ?_
      refine L_lss (m := (i_5 : Int)) (n := (r_.vars.length : Int)) rfl sf10 sf9 ?_
      refine L_nil ?_
      refine W_seq ?_
      refine W_cond (b := decide ((i_5 : Int) < (r_.vars.length : Int))) rfl (fun hc7 => ?_) (fun hc7 => ?_)
      ·
        have hlt6 := of_decide_eq_true hc7
        cases suf6 with
        | nil => exact absurd hlt6 (by simp at hl6; omega)
        | cons x_6 rest6 =>
          obtain ⟨o6, hB6, hL6⟩ := range_cons hL6
          rw [i_ruleValid_b1] at hB6
          have hix6 := drop_idx hd6
          refine W_skip ?_
          refine W_seq ?_
          refine W_block ?_
          refine W_seq ?_
          refine W_region ?_
          refine L_mv (v := .int .i64 (i_5 : Int)) rfl sf10 ?_
          refine L_ix (r := RP.int) rfl Try.underlying23 Try.sizeOf3 sf8 h0_1 sf10 hix6 ?_
          intro g10 o11 cs11 hr11 hat11
          obtain rfl : _ = [_] := hr11
          refine L_ld (v := .int .i64 x_6) rfl Try.isAgg3 rfl (hat11.cell (j := 0) rfl) ?_
          refine L_as (v := .int .i64 (i_5 : Int)) rfl rfl ?_
          refine L_as (v := .int .i64 x_6) rfl rfl ?_
          refine L_nil ?_
          refine W_seq ?_
          obtain ⟨x12, hx12, hB6⟩ := bind_some hB6
          obtain ⟨b18, hb18, hB6⟩ := bind_some hB6
          obtain ⟨R19, hR19⟩ : ∃ R : Fr → World → Prop, R = fun f w_ => f 1 = .int .i64 cells ∧ f 2 = .pointer (some ⟨g3, 0, none⟩) ∧ f 8 = v0_1 ∧ f 9 = .int .i64 (r_.vars.length : Int) ∧ f 10 = .int .i64 (i_5 : Int) ∧ f 27 = .bool b18 ∧ (RP.slice 3 RP.int).rel B w.heap.size w_ [v0_1] r_.vars ∧ (RP.slice 3 RP.int).rel B w.heap.size w_ [v0_2] r_.coefs ∧ (RP.slice 23 (RP.slice 3 RP.int)).rel B w.heap.size w_ [v0_4] r_.rows ∧ Blk w_ g3 36 #[.int .i64 r_.kind, v0_1, v0_2, .int .i64 r_.bound, v0_4] ∧ Ext w w_ := ⟨_, rfl⟩
          refine W_join R19 ?_ ?_
          ·
            refine W_region ?_
            refine L_mv (v := .int .i64 x_6) rfl rfl ?_
            refine L_mv (v := .int .i64 cells) rfl sf1 ?_
            refine L_sub (m := cells) (n := 1) rfl rfl rfl ?_
            refine L_call (args := #[.int .i64 x_6, .int .i64 0, .int .i64 (i64 (cells - 1))]) rfl Try.call50 (ops3 rfl rfl rfl) (i_within_c (n_ := x_6) (low := 0) (high := i64 (cells - 1)) (Nat.le_trans hB hx.size) hx12) ?_
            rintro _ w20 ⟨rfl, he20⟩
            have h0_1 := RP.ext h0_1 he20
            have h0_2 := RP.ext h0_2 he20
            have h0_4 := RP.ext h0_4 he20
            have hb_g3 := Blk.ext hb_g3 he20
            have hx := ext_trans hx he20
            refine L_not_ (b := x12) rfl rfl ?_
            refine L_mv (v := .bool (!x12)) rfl rfl ?_
            refine L_split (d := 20) (b := (!x12)) rfl (fun hc21 => ?_) (fun hc21 => ?_)
            ·
              rw [ite_t hc21] at hb18
              refine L_pass rfl ?_
              refine L_pass rfl ?_
              refine L_pass rfl ?_
              refine L_pass rfl ?_
              refine L_pass rfl ?_
              refine L_pass rfl ?_
              refine L_pick (v := .bool b18) rfl rfl (congrArg Value.bool (so hb18)) ?_
              refine L_nil ?_
              show R19 _ _
              rw [hR19]
              exact ⟨sf1, sf2, sf8, sf9, sf10, rfl, h0_1, h0_2, h0_4, hb_g3, hx⟩
            ·
              rw [ite_f hc21] at hb18
              obtain ⟨x14, hx14, hb18⟩ := bind_some hb18
              obtain ⟨x16, hx16, hb18⟩ := bind_some hb18
              refine L_fa (o' := 1) rfl fa_36_1 sf2 rfl ?_
              refine L_ld (v := v0_1) rfl Try.isAgg23 rfl (hb_g3.cell (j := 1) rfl) ?_
              refine L_mv (v := .int .i64 (i_5 : Int)) rfl rfl ?_
              refine L_sl (a := 0) (b := (i_5 : Int)) rfl et_23 rfl h0_1 rfl rfl hx14 ?_
              intro v22 hs22
              refine L_mv (v := .int .i64 x_6) rfl rfl ?_
              refine L_call (args := #[v22, .int .i64 x_6]) rfl Try.call87 (ops2 rfl rfl) (slices_Contains_int_c (s := x14) (v_ := x_6) (Nat.le_trans hB hx.size) (rel0 hs22) hx16) ?_
              rintro _ w23 ⟨rfl, he23⟩
              have h0_1 := RP.ext h0_1 he23
              have h0_2 := RP.ext h0_2 he23
              have h0_4 := RP.ext h0_4 he23
              have hb_g3 := Blk.ext hb_g3 he23
              have hs22 := RP.ext hs22 he23
              have hx := ext_trans hx he23
              refine L_pick (v := .bool b18) rfl rfl (congrArg Value.bool (so hb18)) ?_
              refine L_nil ?_
              show R19 _ _
              rw [hR19]
              exact ⟨sf1, sf2, sf8, sf9, sf10, rfl, h0_1, h0_2, h0_4, hb_g3, hx⟩
          ·
            intro f w_ hR
            rw [hR19] at hR
            obtain ⟨sf1, sf2, sf8, sf9, sf10, sf27, h0_1, h0_2, h0_4, hb_g3, hx⟩ := hR
            clear hR19
            refine W_cond (b := b18) sf27 (fun hc24 => ?_) (fun hc24 => ?_)
            ·
              have hB6 := (ite_t hc24).symm.trans hB6
              refine W_seq ?_
              refine W_region ?_
              refine L_as (v := .bool false) rfl rfl ?_
              refine L_nil ?_
              refine W_ret ?_
              obtain rfl := so hB6
              obtain rfl := so hL6
              obtain rfl := so hF
              refine ret1 Try.results68 ?_
              exact ⟨rfl, hx⟩
            ·
              have hB6 := (ite_f hc24).symm.trans hB6
              refine W_skip ?_
              refine W_region ?_
              refine L_add (m := (i_5 : Int)) (n := 1) rfl sf10 rfl ?_
              refine L_mv (v := .int .i64 (i64 ((i_5 : Int) + 1))) rfl rfl ?_
              refine L_nil ?_
              obtain rfl := so hB6
              show ∃ m, m < _ ∧ I6 m _ _
              refine ⟨rest6.length, by simp, ?_⟩
              rw [hI6]
              exact ⟨i_5 + 1, rest6, rfl, drop_next hd6, by simp at hl6; omega, hL6, sf1, sf2, sf8, sf9, (Eq.trans rfl (congrArg (Value.int .i64) (i64_succ (n := r_.vars.length) (by simp at hl6; omega) hlen6))), h0_1, h0_2, h0_4, hb_g3, hx⟩
      ·
        cases suf6 with
        | cons _ _ => exact absurd (of_decide_eq_false hc7) (by simp at hl6; omega)
        | nil =>
          obtain rfl := range_nil hL6
          refine W_exit ?_
          show R6 _ _
          rw [hR6]
          exact ⟨rfl, sf2, h0_1, h0_2, h0_4, hb_g3, hx⟩
  ·
    intro f w_ hR
    rw [hR6] at hR
    obtain ⟨rfl, sf2, h0_1, h0_2, h0_4, hb_g3, hx⟩ := hR
    clear hR6
    refine W_seq ?_
    refine W_seq ?_
    obtain ⟨R25, hR25⟩ : ∃ R : Fr → World → Prop, R = fun f w_ => f 2 = .pointer (some ⟨g3, 0, none⟩) ∧ f 59 = .bool ((((r_.vars.length : Int) == 0) || ((r_.kind != 1) && ((decide ((r_.coefs.length : Int) > 0)) || (r_.bound != 0)))) || ((r_.kind != 3) && (decide ((r_.rows.length : Int) > 0)))) ∧ (RP.slice 3 RP.int).rel B w.heap.size w_ [v0_1] r_.vars ∧ (RP.slice 3 RP.int).rel B w.heap.size w_ [v0_2] r_.coefs ∧ (RP.slice 23 (RP.slice 3 RP.int)).rel B w.heap.size w_ [v0_4] r_.rows ∧ Blk w_ g3 36 #[.int .i64 r_.kind, v0_1, v0_2, .int .i64 r_.bound, v0_4] ∧ Ext w w_ := ⟨_, rfl⟩
    refine W_join R25 ?_ ?_
    ·
      refine W_region ?_
      refine L_fa (o' := 1) rfl fa_36_1 sf2 rfl ?_
      refine L_ld (v := v0_1) rfl Try.isAgg23 rfl (hb_g3.cell (j := 1) rfl) ?_
      refine L_len (v := v0_1) rfl Try.underlying23 rfl h0_1 ?_
      refine L_eql (m := (r_.vars.length : Int)) (n := 0) rfl rfl rfl ?_
      refine L_mv (v := .bool ((r_.vars.length : Int) == 0)) rfl rfl ?_
      refine L_split (d := 33) (b := ((r_.vars.length : Int) == 0)) rfl (fun hc26 => ?_) (fun hc26 => ?_)
      ·
        refine L_pass rfl ?_
        refine L_pass rfl ?_
        refine L_pass rfl ?_
        refine L_pass rfl ?_
        refine L_pass rfl ?_
        refine L_pass rfl ?_
        refine L_pass rfl ?_
        refine L_pass rfl ?_
        refine L_pass rfl ?_
        refine L_pass rfl ?_
        refine L_pass rfl ?_
        refine L_pass rfl ?_
        refine L_pass rfl ?_
        refine L_pass rfl ?_
        refine L_pick (v := .bool (((r_.vars.length : Int) == 0) || ((r_.kind != 1) && ((decide ((r_.coefs.length : Int) > 0)) || (r_.bound != 0))))) rfl rfl (or_t hc26) ?_
        refine L_mv (v := .bool (((r_.vars.length : Int) == 0) || ((r_.kind != 1) && ((decide ((r_.coefs.length : Int) > 0)) || (r_.bound != 0))))) rfl rfl ?_
        refine L_split (d := 49) (b := (((r_.vars.length : Int) == 0) || ((r_.kind != 1) && ((decide ((r_.coefs.length : Int) > 0)) || (r_.bound != 0))))) rfl (fun hc27 => ?_) (fun hc27 => ?_)
        ·
          refine L_pass rfl ?_
          refine L_pass rfl ?_
          refine L_pass rfl ?_
          refine L_pass rfl ?_
          refine L_pass rfl ?_
          refine L_pass rfl ?_
          refine L_pass rfl ?_
          refine L_pass rfl ?_
          refine L_pass rfl ?_
          refine L_pick (v := .bool ((((r_.vars.length : Int) == 0) || ((r_.kind != 1) && ((decide ((r_.coefs.length : Int) > 0)) || (r_.bound != 0)))) || ((r_.kind != 3) && (decide ((r_.rows.length : Int) > 0))))) rfl rfl (or_t hc27) ?_
          refine L_nil ?_
          show R25 _ _
          rw [hR25]
          exact ⟨sf2, rfl, h0_1, h0_2, h0_4, hb_g3, hx⟩
        ·
          refine L_fa (o' := 0) rfl fa_36_0 sf2 rfl ?_
          refine L_ld (v := .int .i64 r_.kind) rfl Try.isAgg3 rfl (hb_g3.cell (j := 0) rfl) ?_
          refine L_neq (m := r_.kind) (n := 3) rfl rfl rfl ?_
          refine L_mv (v := .bool (r_.kind != 3)) rfl rfl ?_
          refine L_split (d := 53) (b := (r_.kind != 3)) rfl (fun hc28 => ?_) (fun hc28 => ?_)
          ·
            refine L_fa (o' := 4) rfl fa_36_4 sf2 rfl ?_
            refine L_ld (v := v0_4) rfl Try.isAgg34 rfl (hb_g3.cell (j := 4) rfl) ?_
            refine L_len (v := v0_4) rfl Try.underlying34 rfl h0_4 ?_
            refine L_gtr (m := (r_.rows.length : Int)) (n := 0) rfl rfl rfl ?_
            refine L_pick (v := .bool ((r_.kind != 3) && (decide ((r_.rows.length : Int) > 0)))) rfl rfl (and_t hc28 rfl) ?_
            refine L_pick (v := .bool ((((r_.vars.length : Int) == 0) || ((r_.kind != 1) && ((decide ((r_.coefs.length : Int) > 0)) || (r_.bound != 0)))) || ((r_.kind != 3) && (decide ((r_.rows.length : Int) > 0))))) rfl rfl (or_f hc27 rfl) ?_
            refine L_nil ?_
            show R25 _ _
            rw [hR25]
            exact ⟨sf2, rfl, h0_1, h0_2, h0_4, hb_g3, hx⟩
          ·
            refine L_pass rfl ?_
            refine L_pass rfl ?_
            refine L_pass rfl ?_
            refine L_pass rfl ?_
            refine L_pick (v := .bool ((r_.kind != 3) && (decide ((r_.rows.length : Int) > 0)))) rfl rfl (and_f hc28) ?_
            refine L_pick (v := .bool ((((r_.vars.length : Int) == 0) || ((r_.kind != 1) && ((decide ((r_.coefs.length : Int) > 0)) || (r_.bound != 0)))) || ((r_.kind != 3) && (decide ((r_.rows.length : Int) > 0))))) rfl rfl (or_f hc27 rfl) ?_
            refine L_nil ?_
            show R25 _ _
            rw [hR25]
            exact ⟨sf2, rfl, h0_1, h0_2, h0_4, hb_g3, hx⟩
      ·
        refine L_fa (o' := 0) rfl fa_36_0 sf2 rfl ?_
        refine L_ld (v := .int .i64 r_.kind) rfl Try.isAgg3 rfl (hb_g3.cell (j := 0) rfl) ?_
        refine L_neq (m := r_.kind) (n := 1) rfl rfl rfl ?_
        refine L_mv (v := .bool (r_.kind != 1)) rfl rfl ?_
        refine L_split (d := 37) (b := (r_.kind != 1)) rfl (fun hc29 => ?_) (fun hc29 => ?_)
        ·
          refine L_fa (o' := 2) rfl fa_36_2 sf2 rfl ?_
          refine L_ld (v := v0_2) rfl Try.isAgg23 rfl (hb_g3.cell (j := 2) rfl) ?_
          refine L_len (v := v0_2) rfl Try.underlying23 rfl h0_2 ?_
          refine L_gtr (m := (r_.coefs.length : Int)) (n := 0) rfl rfl rfl ?_
          refine L_mv (v := .bool (decide ((r_.coefs.length : Int) > 0))) rfl rfl ?_
          refine L_split (d := 42) (b := decide ((r_.coefs.length : Int) > 0)) rfl (fun hc30 => ?_) (fun hc30 => ?_)
          ·
            refine L_pass rfl ?_
            refine L_pass rfl ?_
            refine L_pass rfl ?_
            refine L_pick (v := .bool ((decide ((r_.coefs.length : Int) > 0)) || (r_.bound != 0))) rfl rfl (or_t hc30) ?_
            refine L_pick (v := .bool ((r_.kind != 1) && ((decide ((r_.coefs.length : Int) > 0)) || (r_.bound != 0)))) rfl rfl (and_t hc29 rfl) ?_
            refine L_pick (v := .bool (((r_.vars.length : Int) == 0) || ((r_.kind != 1) && ((decide ((r_.coefs.length : Int) > 0)) || (r_.bound != 0))))) rfl rfl (or_f hc26 rfl) ?_
            refine L_mv (v := .bool (((r_.vars.length : Int) == 0) || ((r_.kind != 1) && ((decide ((r_.coefs.length : Int) > 0)) || (r_.bound != 0))))) rfl rfl ?_
            refine L_split (d := 49) (b := (((r_.vars.length : Int) == 0) || ((r_.kind != 1) && ((decide ((r_.coefs.length : Int) > 0)) || (r_.bound != 0))))) rfl (fun hc31 => ?_) (fun hc31 => ?_)
            ·
              refine L_pass rfl ?_
              refine L_pass rfl ?_
              refine L_pass rfl ?_
              refine L_pass rfl ?_
              refine L_pass rfl ?_
              refine L_pass rfl ?_
              refine L_pass rfl ?_
              refine L_pass rfl ?_
              refine L_pass rfl ?_
              refine L_pick (v := .bool ((((r_.vars.length : Int) == 0) || ((r_.kind != 1) && ((decide ((r_.coefs.length : Int) > 0)) || (r_.bound != 0)))) || ((r_.kind != 3) && (decide ((r_.rows.length : Int) > 0))))) rfl rfl (or_t hc31) ?_
              refine L_nil ?_
              show R25 _ _
              rw [hR25]
              exact ⟨sf2, rfl, h0_1, h0_2, h0_4, hb_g3, hx⟩
            ·
              refine L_fa (o' := 0) rfl fa_36_0 sf2 rfl ?_
              refine L_ld (v := .int .i64 r_.kind) rfl Try.isAgg3 rfl (hb_g3.cell (j := 0) rfl) ?_
              refine L_neq (m := r_.kind) (n := 3) rfl rfl rfl ?_
              refine L_mv (v := .bool (r_.kind != 3)) rfl rfl ?_
              refine L_split (d := 53) (b := (r_.kind != 3)) rfl (fun hc32 => ?_) (fun hc32 => ?_)
              ·
                refine L_fa (o' := 4) rfl fa_36_4 sf2 rfl ?_
                refine L_ld (v := v0_4) rfl Try.isAgg34 rfl (hb_g3.cell (j := 4) rfl) ?_
                refine L_len (v := v0_4) rfl Try.underlying34 rfl h0_4 ?_
                refine L_gtr (m := (r_.rows.length : Int)) (n := 0) rfl rfl rfl ?_
                refine L_pick (v := .bool ((r_.kind != 3) && (decide ((r_.rows.length : Int) > 0)))) rfl rfl (and_t hc32 rfl) ?_
                refine L_pick (v := .bool ((((r_.vars.length : Int) == 0) || ((r_.kind != 1) && ((decide ((r_.coefs.length : Int) > 0)) || (r_.bound != 0)))) || ((r_.kind != 3) && (decide ((r_.rows.length : Int) > 0))))) rfl rfl (or_f hc31 rfl) ?_
                refine L_nil ?_
                show R25 _ _
                rw [hR25]
                exact ⟨sf2, rfl, h0_1, h0_2, h0_4, hb_g3, hx⟩
              ·
                refine L_pass rfl ?_
                refine L_pass rfl ?_
                refine L_pass rfl ?_
                refine L_pass rfl ?_
                refine L_pick (v := .bool ((r_.kind != 3) && (decide ((r_.rows.length : Int) > 0)))) rfl rfl (and_f hc32) ?_
                refine L_pick (v := .bool ((((r_.vars.length : Int) == 0) || ((r_.kind != 1) && ((decide ((r_.coefs.length : Int) > 0)) || (r_.bound != 0)))) || ((r_.kind != 3) && (decide ((r_.rows.length : Int) > 0))))) rfl rfl (or_f hc31 rfl) ?_
                refine L_nil ?_
                show R25 _ _
                rw [hR25]
                exact ⟨sf2, rfl, h0_1, h0_2, h0_4, hb_g3, hx⟩
          ·
            refine L_fa (o' := 3) rfl fa_36_3 sf2 rfl ?_
            refine L_ld (v := .int .i64 r_.bound) rfl Try.isAgg3 rfl (hb_g3.cell (j := 3) rfl) ?_
            refine L_neq (m := r_.bound) (n := 0) rfl rfl rfl ?_
            refine L_pick (v := .bool ((decide ((r_.coefs.length : Int) > 0)) || (r_.bound != 0))) rfl rfl (or_f hc30 rfl) ?_
            refine L_pick (v := .bool ((r_.kind != 1) && ((decide ((r_.coefs.length : Int) > 0)) || (r_.bound != 0)))) rfl rfl (and_t hc29 rfl) ?_
            refine L_pick (v := .bool (((r_.vars.length : Int) == 0) || ((r_.kind != 1) && ((decide ((r_.coefs.length : Int) > 0)) || (r_.bound != 0))))) rfl rfl (or_f hc26 rfl) ?_
            refine L_mv (v := .bool (((r_.vars.length : Int) == 0) || ((r_.kind != 1) && ((decide ((r_.coefs.length : Int) > 0)) || (r_.bound != 0))))) rfl rfl ?_
            refine L_split (d := 49) (b := (((r_.vars.length : Int) == 0) || ((r_.kind != 1) && ((decide ((r_.coefs.length : Int) > 0)) || (r_.bound != 0))))) rfl (fun hc33 => ?_) (fun hc33 => ?_)
            ·
              refine L_pass rfl ?_
              refine L_pass rfl ?_
              refine L_pass rfl ?_
              refine L_pass rfl ?_
              refine L_pass rfl ?_
              refine L_pass rfl ?_
              refine L_pass rfl ?_
              refine L_pass rfl ?_
              refine L_pass rfl ?_
              refine L_pick (v := .bool ((((r_.vars.length : Int) == 0) || ((r_.kind != 1) && ((decide ((r_.coefs.length : Int) > 0)) || (r_.bound != 0)))) || ((r_.kind != 3) && (decide ((r_.rows.length : Int) > 0))))) rfl rfl (or_t hc33) ?_
              refine L_nil ?_
              show R25 _ _
              rw [hR25]
              exact ⟨sf2, rfl, h0_1, h0_2, h0_4, hb_g3, hx⟩
            ·
              refine L_fa (o' := 0) rfl fa_36_0 sf2 rfl ?_
              refine L_ld (v := .int .i64 r_.kind) rfl Try.isAgg3 rfl (hb_g3.cell (j := 0) rfl) ?_
              refine L_neq (m := r_.kind) (n := 3) rfl rfl rfl ?_
              refine L_mv (v := .bool (r_.kind != 3)) rfl rfl ?_
              refine L_split (d := 53) (b := (r_.kind != 3)) rfl (fun hc34 => ?_) (fun hc34 => ?_)
              ·
                refine L_fa (o' := 4) rfl fa_36_4 sf2 rfl ?_
                refine L_ld (v := v0_4) rfl Try.isAgg34 rfl (hb_g3.cell (j := 4) rfl) ?_
                refine L_len (v := v0_4) rfl Try.underlying34 rfl h0_4 ?_
                refine L_gtr (m := (r_.rows.length : Int)) (n := 0) rfl rfl rfl ?_
                refine L_pick (v := .bool ((r_.kind != 3) && (decide ((r_.rows.length : Int) > 0)))) rfl rfl (and_t hc34 rfl) ?_
                refine L_pick (v := .bool ((((r_.vars.length : Int) == 0) || ((r_.kind != 1) && ((decide ((r_.coefs.length : Int) > 0)) || (r_.bound != 0)))) || ((r_.kind != 3) && (decide ((r_.rows.length : Int) > 0))))) rfl rfl (or_f hc33 rfl) ?_
                refine L_nil ?_
                show R25 _ _
                rw [hR25]
                exact ⟨sf2, rfl, h0_1, h0_2, h0_4, hb_g3, hx⟩
              ·
                refine L_pass rfl ?_
                refine L_pass rfl ?_
                refine L_pass rfl ?_
                refine L_pass rfl ?_
                refine L_pick (v := .bool ((r_.kind != 3) && (decide ((r_.rows.length : Int) > 0)))) rfl rfl (and_f hc34) ?_
                refine L_pick (v := .bool ((((r_.vars.length : Int) == 0) || ((r_.kind != 1) && ((decide ((r_.coefs.length : Int) > 0)) || (r_.bound != 0)))) || ((r_.kind != 3) && (decide ((r_.rows.length : Int) > 0))))) rfl rfl (or_f hc33 rfl) ?_
                refine L_nil ?_
                show R25 _ _
                rw [hR25]
                exact ⟨sf2, rfl, h0_1, h0_2, h0_4, hb_g3, hx⟩
        ·
          refine L_pass rfl ?_
          refine L_pass rfl ?_
          refine L_pass rfl ?_
          refine L_pass rfl ?_
          refine L_pass rfl ?_
          refine L_pass rfl ?_
          refine L_pass rfl ?_
          refine L_pass rfl ?_
          refine L_pass rfl ?_
          refine L_pick (v := .bool ((r_.kind != 1) && ((decide ((r_.coefs.length : Int) > 0)) || (r_.bound != 0)))) rfl rfl (and_f hc29) ?_
          refine L_pick (v := .bool (((r_.vars.length : Int) == 0) || ((r_.kind != 1) && ((decide ((r_.coefs.length : Int) > 0)) || (r_.bound != 0))))) rfl rfl (or_f hc26 rfl) ?_
          refine L_mv (v := .bool (((r_.vars.length : Int) == 0) || ((r_.kind != 1) && ((decide ((r_.coefs.length : Int) > 0)) || (r_.bound != 0))))) rfl rfl ?_
          refine L_split (d := 49) (b := (((r_.vars.length : Int) == 0) || ((r_.kind != 1) && ((decide ((r_.coefs.length : Int) > 0)) || (r_.bound != 0))))) rfl (fun hc35 => ?_) (fun hc35 => ?_)
          ·
            refine L_pass rfl ?_
            refine L_pass rfl ?_
            refine L_pass rfl ?_
            refine L_pass rfl ?_
            refine L_pass rfl ?_
            refine L_pass rfl ?_
            refine L_pass rfl ?_
            refine L_pass rfl ?_
            refine L_pass rfl ?_
            refine L_pick (v := .bool ((((r_.vars.length : Int) == 0) || ((r_.kind != 1) && ((decide ((r_.coefs.length : Int) > 0)) || (r_.bound != 0)))) || ((r_.kind != 3) && (decide ((r_.rows.length : Int) > 0))))) rfl rfl (or_t hc35) ?_
            refine L_nil ?_
            show R25 _ _
            rw [hR25]
            exact ⟨sf2, rfl, h0_1, h0_2, h0_4, hb_g3, hx⟩
          ·
            refine L_fa (o' := 0) rfl fa_36_0 sf2 rfl ?_
            refine L_ld (v := .int .i64 r_.kind) rfl Try.isAgg3 rfl (hb_g3.cell (j := 0) rfl) ?_
            refine L_neq (m := r_.kind) (n := 3) rfl rfl rfl ?_
            refine L_mv (v := .bool (r_.kind != 3)) rfl rfl ?_
            refine L_split (d := 53) (b := (r_.kind != 3)) rfl (fun hc36 => ?_) (fun hc36 => ?_)
            ·
              refine L_fa (o' := 4) rfl fa_36_4 sf2 rfl ?_
              refine L_ld (v := v0_4) rfl Try.isAgg34 rfl (hb_g3.cell (j := 4) rfl) ?_
              refine L_len (v := v0_4) rfl Try.underlying34 rfl h0_4 ?_
              refine L_gtr (m := (r_.rows.length : Int)) (n := 0) rfl rfl rfl ?_
              refine L_pick (v := .bool ((r_.kind != 3) && (decide ((r_.rows.length : Int) > 0)))) rfl rfl (and_t hc36 rfl) ?_
              refine L_pick (v := .bool ((((r_.vars.length : Int) == 0) || ((r_.kind != 1) && ((decide ((r_.coefs.length : Int) > 0)) || (r_.bound != 0)))) || ((r_.kind != 3) && (decide ((r_.rows.length : Int) > 0))))) rfl rfl (or_f hc35 rfl) ?_
              refine L_nil ?_
              show R25 _ _
              rw [hR25]
              exact ⟨sf2, rfl, h0_1, h0_2, h0_4, hb_g3, hx⟩
            ·
              refine L_pass rfl ?_
              refine L_pass rfl ?_
              refine L_pass rfl ?_
              refine L_pass rfl ?_
              refine L_pick (v := .bool ((r_.kind != 3) && (decide ((r_.rows.length : Int) > 0)))) rfl rfl (and_f hc36) ?_
              refine L_pick (v := .bool ((((r_.vars.length : Int) == 0) || ((r_.kind != 1) && ((decide ((r_.coefs.length : Int) > 0)) || (r_.bound != 0)))) || ((r_.kind != 3) && (decide ((r_.rows.length : Int) > 0))))) rfl rfl (or_f hc35 rfl) ?_
              refine L_nil ?_
              show R25 _ _
              rw [hR25]
              exact ⟨sf2, rfl, h0_1, h0_2, h0_4, hb_g3, hx⟩
    ·
      intro f w_ hR
      rw [hR25] at hR
      obtain ⟨sf2, sf59, h0_1, h0_2, h0_4, hb_g3, hx⟩ := hR
      clear hR25
      refine W_cond (b := ((((r_.vars.length : Int) == 0) || ((r_.kind != 1) && ((decide ((r_.coefs.length : Int) > 0)) || (r_.bound != 0)))) || ((r_.kind != 3) && (decide ((r_.rows.length : Int) > 0))))) sf59 (fun hc37 => ?_) (fun hc37 => ?_)
      ·
        have hF := (ite_t hc37).symm.trans hF
        refine W_seq ?_
        refine W_region ?_
        refine L_as (v := .bool false) rfl rfl ?_
        refine L_nil ?_
        refine W_ret ?_
        obtain rfl := so hF
        refine ret1 Try.results68 ?_
        exact ⟨rfl, hx⟩
      ·
        have hF := (ite_f hc37).symm.trans hF
        refine W_skip ?_
        refine W_seq ?_
        refine W_seq ?_
        refine W_region ?_
        refine L_fa (o' := 0) rfl fa_36_0 sf2 rfl ?_
        refine L_ld (v := .int .i64 r_.kind) rfl Try.isAgg3 rfl (hb_g3.cell (j := 0) rfl) ?_
        refine L_nil ?_
        refine W_block ?_
        refine W_seq ?_
        refine W_region ?_
        refine L_eql (m := r_.kind) (n := 1) rfl rfl rfl ?_
        refine L_as (v := .bool (r_.kind == 1)) rfl rfl ?_
        refine L_nil ?_
        refine W_cond (b := (r_.kind == 1)) rfl (fun hc38 => ?_) (fun hc38 => ?_)
        ·
          have hF := (ite_t hc38).symm.trans hF
          refine W_seq ?_
          obtain ⟨b41, hb41, hF⟩ := bind_some hF
          obtain ⟨b44, hb44, hF⟩ := bind_some hF
          obtain ⟨R45, hR45⟩ : ∃ R : Fr → World → Prop, R = fun f w_ => f 4 = .bool b44 ∧ Ext w w_ := ⟨_, rfl⟩
          refine W_join R45 ?_ ?_
          ·
            refine W_region ?_
            refine L_fa (o' := 2) rfl fa_36_2 sf2 rfl ?_
            refine L_ld (v := v0_2) rfl Try.isAgg23 rfl (hb_g3.cell (j := 2) rfl) ?_
            refine L_len (v := v0_2) rfl Try.underlying23 rfl h0_2 ?_
            refine L_fa (o' := 1) rfl fa_36_1 sf2 rfl ?_
            refine L_ld (v := v0_1) rfl Try.isAgg23 rfl (hb_g3.cell (j := 1) rfl) ?_
            refine L_len (v := v0_1) rfl Try.underlying23 rfl h0_1 ?_
            refine L_eql (m := (r_.coefs.length : Int)) (n := (r_.vars.length : Int)) rfl rfl rfl ?_
            refine L_mv (v := .bool ((r_.coefs.length : Int) == (r_.vars.length : Int))) rfl rfl ?_
            refine L_split (d := 71) (b := ((r_.coefs.length : Int) == (r_.vars.length : Int))) rfl (fun hc46 => ?_) (fun hc46 => ?_)
            ·
              rw [ite_t hc46] at hb41
              obtain ⟨x39, hx39, hb41⟩ := bind_some hb41
              refine L_fa (o' := 3) rfl fa_36_3 sf2 rfl ?_
              refine L_ld (v := .int .i64 r_.bound) rfl Try.isAgg3 rfl (hb_g3.cell (j := 3) rfl) ?_
              refine L_call (args := #[.int .i64 r_.bound, .int .i64 (-1000), .int .i64 1000]) rfl Try.call50 (ops3 rfl rfl rfl) (i_within_c (n_ := r_.bound) (low := (-1000)) (high := 1000) (Nat.le_trans hB hx.size) hx39) ?_
              rintro _ w47 ⟨rfl, he47⟩
              have h0_1 := RP.ext h0_1 he47
              have h0_2 := RP.ext h0_2 he47
              have h0_4 := RP.ext h0_4 he47
              have hb_g3 := Blk.ext hb_g3 he47
              have hx := ext_trans hx he47
              refine L_pick (v := .bool b41) rfl rfl (congrArg Value.bool (so hb41)) ?_
              refine L_mv (v := .bool b41) rfl rfl ?_
              refine L_split (d := 76) (b := b41) rfl (fun hc48 => ?_) (fun hc48 => ?_)
              ·
                rw [ite_t hc48] at hb44
                obtain ⟨x42, hx42, hb44⟩ := bind_some hb44
                refine L_fa (o' := 2) rfl fa_36_2 sf2 rfl ?_
                refine L_ld (v := v0_2) rfl Try.isAgg23 rfl (hb_g3.cell (j := 2) rfl) ?_
                have hf49 : Fun1 Try.prog B RP.int false Value.bool i_ruleValid_1 (.func (.func 89) #[] #[]) w47 := by
                  refine ⟨_, _, rfl, Try.call89, fun w_ hE_ cs_ x_ y_ args_ hr_ hy_ ha_ => ?_⟩
                  obtain rfl : cs_ = [_] := hr_
                  obtain rfl := args_of (b := #[.int .i64 x_]) ha_
                  exact i_ruleValid_1_c (n_ := x_) (Nat.le_trans hB (ext_trans hx hE_).size) hy_
                refine L_call (args := #[v0_2, .func (.func 89) #[] #[]]) rfl Try.call88 (ops2 rfl rfl) (slices_ContainsFunc_int_c (s := r_.coefs) (f_ := i_ruleValid_1) (Nat.le_trans hB hx.size) (rel0 h0_2) hf49 hx42) ?_
                rintro _ w50 ⟨rfl, he50⟩
                have h0_2 := RP.ext h0_2 he50
                have hx := ext_trans hx he50
                refine L_not_ (b := x42) rfl rfl ?_
                refine L_pick (v := .bool b44) rfl rfl (congrArg Value.bool (so hb44)) ?_
                refine L_as (v := .bool b44) rfl rfl ?_
                refine L_nil ?_
                show R45 _ _
                rw [hR45]
                exact ⟨rfl, hx⟩
              ·
                rw [ite_f hc48] at hb44
                refine L_pass rfl ?_
                refine L_pass rfl ?_
                refine L_pass rfl ?_
                refine L_pass rfl ?_
                refine L_pick (v := .bool b44) rfl rfl (congrArg Value.bool (so hb44)) ?_
                refine L_as (v := .bool b44) rfl rfl ?_
                refine L_nil ?_
                show R45 _ _
                rw [hR45]
                exact ⟨rfl, hx⟩
            ·
              rw [ite_f hc46] at hb41
              refine L_pass rfl ?_
              refine L_pass rfl ?_
              refine L_pass rfl ?_
              refine L_pick (v := .bool b41) rfl rfl (congrArg Value.bool (so hb41)) ?_
              refine L_mv (v := .bool b41) rfl rfl ?_
              refine L_split (d := 76) (b := b41) rfl (fun hc51 => ?_) (fun hc51 => ?_)
              ·
                rw [ite_t hc51] at hb44
                obtain ⟨x42, hx42, hb44⟩ := bind_some hb44
                refine L_fa (o' := 2) rfl fa_36_2 sf2 rfl ?_
                refine L_ld (v := v0_2) rfl Try.isAgg23 rfl (hb_g3.cell (j := 2) rfl) ?_
                have hf52 : Fun1 Try.prog B RP.int false Value.bool i_ruleValid_1 (.func (.func 89) #[] #[]) w_ := by
                  refine ⟨_, _, rfl, Try.call89, fun w_ hE_ cs_ x_ y_ args_ hr_ hy_ ha_ => ?_⟩
                  obtain rfl : cs_ = [_] := hr_
                  obtain rfl := args_of (b := #[.int .i64 x_]) ha_
                  exact i_ruleValid_1_c (n_ := x_) (Nat.le_trans hB (ext_trans hx hE_).size) hy_
                refine L_call (args := #[v0_2, .func (.func 89) #[] #[]]) rfl Try.call88 (ops2 rfl rfl) (slices_ContainsFunc_int_c (s := r_.coefs) (f_ := i_ruleValid_1) (Nat.le_trans hB hx.size) (rel0 h0_2) hf52 hx42) ?_
                rintro _ w53 ⟨rfl, he53⟩
                have h0_2 := RP.ext h0_2 he53
                have hx := ext_trans hx he53
                refine L_not_ (b := x42) rfl rfl ?_
                refine L_pick (v := .bool b44) rfl rfl (congrArg Value.bool (so hb44)) ?_
                refine L_as (v := .bool b44) rfl rfl ?_
                refine L_nil ?_
                show R45 _ _
                rw [hR45]
                exact ⟨rfl, hx⟩
              ·
                rw [ite_f hc51] at hb44
                refine L_pass rfl ?_
                refine L_pass rfl ?_
                refine L_pass rfl ?_
                refine L_pass rfl ?_
                refine L_pick (v := .bool b44) rfl rfl (congrArg Value.bool (so hb44)) ?_
                refine L_as (v := .bool b44) rfl rfl ?_
                refine L_nil ?_
                show R45 _ _
                rw [hR45]
                exact ⟨rfl, hx⟩
          ·
            intro f w_ hR
            rw [hR45] at hR
            obtain ⟨sf4, hx⟩ := hR
            clear hR45
            refine W_ret ?_
            obtain rfl := so hF
            refine ret1 Try.results68 ?_
            exact ⟨sf4, hx⟩
        ·
          have hF := (ite_f hc38).symm.trans hF
          refine W_seq ?_
          refine W_region ?_
          refine L_eql (m := r_.kind) (n := 3) rfl rfl rfl ?_
          refine L_as (v := .bool (r_.kind == 3)) rfl rfl ?_
          refine L_nil ?_
          refine W_cond (b := (r_.kind == 3)) rfl (fun hc54 => ?_) (fun hc54 => ?_)
          ·
            have hF := (ite_t hc54).symm.trans hF
            refine W_seq ?_
            obtain ⟨b57, hb57, hF⟩ := bind_some hF
            obtain ⟨R58, hR58⟩ : ∃ R : Fr → World → Prop, R = fun f w_ => f 4 = .bool b57 ∧ Ext w w_ := ⟨_, rfl⟩
            refine W_join R58 ?_ ?_
            ·
              refine W_region ?_
              refine L_fa (o' := 4) rfl fa_36_4 sf2 rfl ?_
              refine L_ld (v := v0_4) rfl Try.isAgg34 rfl (hb_g3.cell (j := 4) rfl) ?_
              refine L_len (v := v0_4) rfl Try.underlying34 rfl h0_4 ?_
              refine L_leq (m := (r_.rows.length : Int)) (n := 8) rfl rfl rfl ?_
              refine L_mv (v := .bool (decide ((r_.rows.length : Int) ≤ 8))) rfl rfl ?_
              refine L_split (d := 88) (b := decide ((r_.rows.length : Int) ≤ 8)) rfl (fun hc59 => ?_) (fun hc59 => ?_)
              ·
                rw [ite_t hc59] at hb57
                obtain ⟨x55, hx55, hb57⟩ := bind_some hb57
                refine L_fa (o' := 4) rfl fa_36_4 sf2 rfl ?_
                refine L_ld (v := v0_4) rfl Try.isAgg34 rfl (hb_g3.cell (j := 4) rfl) ?_
                refine L_mf rfl (ops1 sf2) ?_
                have hf60 : Fun1 Try.prog B (RP.slice 3 RP.int) false Value.bool (i_ruleValid_2 r_) (.func (.func 91) #[] #[.pointer (some ⟨g3, 0, none⟩)]) w_ := by
                  refine ⟨_, _, rfl, Try.call91, fun w_ hE_ cs_ x_ y_ args_ hr_ hy_ ha_ => ?_⟩
                  obtain ⟨p0, rfl, hp0⟩ := slice1 hr_
                  obtain rfl := args_of (b := #[p0, .pointer (some ⟨g3, 0, none⟩)]) ha_
                  exact i_ruleValid_2_c (c1 := r_) (row := x_) (Nat.le_trans hB (ext_trans hx hE_).size) hp0 (At.ext (Blk.at hb_g3) hE_) (rel0 (RP.ext h0_1 hE_)) (rel0 (RP.ext h0_2 hE_)) (rel0 (RP.ext h0_4 hE_)) hy_
                refine L_call (args := #[v0_4, .func (.func 91) #[] #[.pointer (some ⟨g3, 0, none⟩)]]) rfl Try.call90 (ops2 rfl rfl) (slices_ContainsFunc_Sint_c (s := r_.rows) (f_ := (i_ruleValid_2 r_)) (Nat.le_trans hB hx.size) (rel0 h0_4) hf60 hx55) ?_
                rintro _ w61 ⟨rfl, he61⟩
                have h0_1 := RP.ext h0_1 he61
                have h0_2 := RP.ext h0_2 he61
                have h0_4 := RP.ext h0_4 he61
                have hb_g3 := Blk.ext hb_g3 he61
                have hx := ext_trans hx he61
                refine L_not_ (b := x55) rfl rfl ?_
                refine L_pick (v := .bool b57) rfl rfl (congrArg Value.bool (so hb57)) ?_
                refine L_as (v := .bool b57) rfl rfl ?_
                refine L_nil ?_
                show R58 _ _
                rw [hR58]
                exact ⟨rfl, hx⟩
              ·
                rw [ite_f hc59] at hb57
                refine L_pass rfl ?_
                refine L_pass rfl ?_
                refine L_pass rfl ?_
                refine L_pass rfl ?_
                refine L_pass rfl ?_
                refine L_pick (v := .bool b57) rfl rfl (congrArg Value.bool (so hb57)) ?_
                refine L_as (v := .bool b57) rfl rfl ?_
                refine L_nil ?_
                show R58 _ _
                rw [hR58]
                exact ⟨rfl, hx⟩
            ·
              intro f w_ hR
              rw [hR58] at hR
              obtain ⟨sf4, hx⟩ := hR
              clear hR58
              refine W_ret ?_
              obtain rfl := so hF
              refine ret1 Try.results68 ?_
              exact ⟨sf4, hx⟩
          ·
            have hF := (ite_f hc54).symm.trans hF
            refine W_seq ?_
            refine W_region ?_
            refine L_eql (m := r_.kind) (n := 4) rfl rfl rfl ?_
            refine L_as (v := .bool (r_.kind == 4)) rfl rfl ?_
            refine L_nil ?_
            refine W_cond (b := (r_.kind == 4)) rfl (fun hc62 => ?_) (fun hc62 => ?_)
            ·
              have hF := (ite_t hc62).symm.trans hF
              refine W_seq ?_
              refine W_region ?_
              refine L_fa (o' := 1) rfl fa_36_1 sf2 rfl ?_
              refine L_ld (v := v0_1) rfl Try.isAgg23 rfl (hb_g3.cell (j := 1) rfl) ?_
              refine L_len (v := v0_1) rfl Try.underlying23 rfl h0_1 ?_
              refine L_eql (m := (r_.vars.length : Int)) (n := 2) rfl rfl rfl ?_
              refine L_as (v := .bool ((r_.vars.length : Int) == 2)) rfl rfl ?_
              refine L_nil ?_
              refine W_ret ?_
              obtain rfl := so hF
              refine ret1 Try.results68 ?_
              exact ⟨rfl, hx⟩
            ·
              have hF := (ite_f hc62).symm.trans hF
              refine W_skip ?_
              refine W_seq ?_
              refine W_region ?_
              refine L_fa (o' := 0) rfl fa_36_0 sf2 rfl ?_
              refine L_ld (v := .int .i64 r_.kind) rfl Try.isAgg3 rfl (hb_g3.cell (j := 0) rfl) ?_
              refine L_eql (m := r_.kind) (n := 2) rfl rfl rfl ?_
              refine L_as (v := .bool (r_.kind == 2)) rfl rfl ?_
              refine L_nil ?_
              refine W_ret ?_
              obtain rfl := so hF
              refine ret1 Try.results68 ?_
              exact ⟨rfl, hx⟩

theorem i_ModelValid_1_c {c1 : Model} {r_ : Rule} {v0_1 : Value} {v0_2 : Value} {v0_4 : Value} {g_c1 : Nat} {v1_0 : Value} {v1_1 : Value} {w : World} {B : Nat} (hB : B ≤ w.heap.size) (h0_1 : (RP.slice 3 RP.int).rel B w.heap.size w [v0_1] r_.vars) (h0_2 : (RP.slice 3 RP.int).rel B w.heap.size w [v0_2] r_.coefs) (h0_4 : (RP.slice 23 (RP.slice 3 RP.int)).rel B w.heap.size w [v0_4] r_.rows) (hat_g_c1 : At w g_c1 0 [v1_0, v1_1]) (h1_0 : (RP.slice 3 RP.int).rel B w.heap.size w [v1_0] c1.sizes) (h1_1 : (RP.slice 36 (rRule 3 23)).rel B w.heap.size w [v1_1] c1.rules) {r : Bool} (hF : i_ModelValid_1 c1 r_ = some r) :
    C Try.prog 67 #[.agg #[.int .i64 r_.kind, v0_1, v0_2, .int .i64 r_.bound, v0_4], .pointer (some ⟨g_c1, 0, none⟩)] w fun v w' => (v = .bool r) ∧ Ext w w' := by
  unfold i_ModelValid_1 at hF
  have hlt_g_c1 := hat_g_c1.lt
  have hx := ext_refl w
  refine C_enter Try.func67 rfl Try.ntmps67 rfl ?_
  refine W_seq ?_
  refine W_region ?_
  refine L_box (v := .agg #[.int .i64 r_.kind, v0_1, v0_2, .int .i64 r_.bound, v0_4]) (cs := #[.int .i64 r_.kind, v0_1, v0_2, .int .i64 r_.bound, v0_4]) rfl rfl rfl ?_
  intro g3 w4 hn4
  have hge_g3 := hn4.geS hx.size
  have hb_g3 := hn4.blk
  have h0_1 := RP.ext h0_1 hn4.ext
  have h0_2 := RP.ext h0_2 hn4.ext
  have h0_4 := RP.ext h0_4 hn4.ext
  have h1_0 := RP.ext h1_0 hn4.ext
  have h1_1 := RP.ext h1_1 hn4.ext
  have hat_g_c1 := At.ext hat_g_c1 hn4.ext
  have hx := ext_trans hx hn4.ext
  refine L_as (v := .bool false) rfl rfl ?_
  refine L_nil ?_
  refine W_seq ?_
  obtain ⟨x5, hx5, hF⟩ := bind_some hF
  refine W_region ?_
  refine L_lda (cs := [.int .i64 r_.kind, v0_1, v0_2, .int .i64 r_.bound, v0_4]) rfl Try.isAgg36 Try.sizeOf36 rfl (Blk.sub hb_g3 0 5) rfl ?_
  refine L_fa (o' := 0) rfl fa_26_0 rfl rfl ?_
  refine L_ld (v := v1_0) rfl Try.isAgg23 rfl (hat_g_c1.cell (j := 0) rfl) ?_
  refine L_len (v := v1_0) rfl Try.underlying23 rfl h1_0 ?_
  refine L_call (args := #[.agg #[.int .i64 r_.kind, v0_1, v0_2, .int .i64 r_.bound, v0_4], .int .i64 (c1.sizes.length : Int)]) rfl Try.call68 (ops2 rfl rfl) (i_ruleValid_c (r_ := r_) (cells := (c1.sizes.length : Int)) (Nat.le_trans hB hx.size) (rel0 h0_1) (rel0 h0_2) (rel0 h0_4) hx5) ?_
  rintro _ w7 ⟨rfl, he7⟩
  have h0_1 := RP.ext h0_1 he7
  have h0_2 := RP.ext h0_2 he7
  have h0_4 := RP.ext h0_4 he7
  have hx := ext_trans hx he7
  refine L_not_ (b := x5) rfl rfl ?_
  refine L_as (v := .bool (!x5)) rfl rfl ?_
  refine L_nil ?_
  refine W_ret ?_
  obtain rfl := so hF
  refine ret1 Try.results67 ?_
  exact ⟨rfl, hx⟩

theorem i_ModelValid_c {m : Model} {v0_0 : Value} {v0_1 : Value} {w : World} {B : Nat} (hB : B ≤ w.heap.size) (h0_0 : (RP.slice 3 RP.int).rel B w.heap.size w [v0_0] m.sizes) (h0_1 : (RP.slice 36 (rRule 3 23)).rel B w.heap.size w [v0_1] m.rules) {r : Bool} (hF : i_ModelValid m = some r) :
    C Try.prog 28 #[.agg #[v0_0, v0_1]] w fun v w' => (v = .bool r) ∧ Ext w w' := by
  unfold i_ModelValid at hF
  have hx := ext_refl w
  refine C_enter Try.func28 rfl Try.ntmps28 rfl ?_
  refine W_seq ?_
  refine W_region ?_
  refine L_box (v := .agg #[v0_0, v0_1]) (cs := #[v0_0, v0_1]) rfl rfl rfl ?_
  intro g3 w4 hn4
  have hge_g3 := hn4.geS hx.size
  have hb_g3 := hn4.blk
  have h0_0 := RP.ext h0_0 hn4.ext
  have h0_1 := RP.ext h0_1 hn4.ext
  have hx := ext_trans hx hn4.ext
  refine L_as (v := .bool false) rfl rfl ?_
  refine L_nil ?_
  refine W_seq ?_
  refine W_seq ?_
  obtain ⟨x5, hx5, hF⟩ := bind_some hF
  obtain ⟨R7, hR7⟩ : ∃ R : Fr → World → Prop, R = fun f w_ => f 1 = .pointer (some ⟨g3, 0, none⟩) ∧ f 16 = .bool ((!x5) || (decide ((m.rules.length : Int) > 8))) ∧ (RP.slice 3 RP.int).rel B w.heap.size w_ [v0_0] m.sizes ∧ (RP.slice 36 (rRule 3 23)).rel B w.heap.size w_ [v0_1] m.rules ∧ Blk w_ g3 26 #[v0_0, v0_1] ∧ Ext w w_ := ⟨_, rfl⟩
  refine W_join R7 ?_ ?_
  ·
    refine W_region ?_
    refine L_fa (o' := 0) rfl fa_26_0 rfl rfl ?_
    refine L_ld (v := v0_0) rfl Try.isAgg23 rfl (hb_g3.cell (j := 0) rfl) ?_
    refine L_len (v := v0_0) rfl Try.underlying23 rfl h0_0 ?_
    refine L_call (args := #[.int .i64 (m.sizes.length : Int), .int .i64 1, .int .i64 5]) rfl Try.call50 (ops3 rfl rfl rfl) (i_within_c (n_ := (m.sizes.length : Int)) (low := 1) (high := 5) (Nat.le_trans hB hx.size) hx5) ?_
    rintro _ w8 ⟨rfl, he8⟩
    have h0_0 := RP.ext h0_0 he8
    have h0_1 := RP.ext h0_1 he8
    have hb_g3 := Blk.ext hb_g3 he8
    have hx := ext_trans hx he8
    refine L_not_ (b := x5) rfl rfl ?_
    refine L_mv (v := .bool (!x5)) rfl rfl ?_
    refine L_split (d := 11) (b := (!x5)) rfl (fun hc9 => ?_) (fun hc9 => ?_)
    ·
      refine L_pass rfl ?_
      refine L_pass rfl ?_
      refine L_pass rfl ?_
      refine L_pass rfl ?_
      refine L_pick (v := .bool ((!x5) || (decide ((m.rules.length : Int) > 8)))) rfl rfl (or_t hc9) ?_
      refine L_nil ?_
      show R7 _ _
      rw [hR7]
      exact ⟨rfl, rfl, h0_0, h0_1, hb_g3, hx⟩
    ·
      refine L_fa (o' := 1) rfl fa_26_1 rfl rfl ?_
      refine L_ld (v := v0_1) rfl Try.isAgg24 rfl (hb_g3.cell (j := 1) rfl) ?_
      refine L_len (v := v0_1) rfl Try.underlying24 rfl h0_1 ?_
      refine L_gtr (m := (m.rules.length : Int)) (n := 8) rfl rfl rfl ?_
      refine L_pick (v := .bool ((!x5) || (decide ((m.rules.length : Int) > 8)))) rfl rfl (or_f hc9 rfl) ?_
      refine L_nil ?_
      show R7 _ _
      rw [hR7]
      exact ⟨rfl, rfl, h0_0, h0_1, hb_g3, hx⟩
  ·
    intro f w_ hR
    rw [hR7] at hR
    obtain ⟨sf1, sf16, h0_0, h0_1, hb_g3, hx⟩ := hR
    clear hR7
    refine W_cond (b := ((!x5) || (decide ((m.rules.length : Int) > 8)))) sf16 (fun hc10 => ?_) (fun hc10 => ?_)
    ·
      have hF := (ite_t hc10).symm.trans hF
      refine W_seq ?_
      refine W_region ?_
      refine L_as (v := .bool false) rfl rfl ?_
      refine L_nil ?_
      refine W_ret ?_
      obtain rfl := so hF
      refine ret1 Try.results28 ?_
      exact ⟨rfl, hx⟩
    ·
      have hF := (ite_f hc10).symm.trans hF
      refine W_skip ?_
      refine W_seq ?_
      refine W_region ?_
      refine L_as (v := .int .i64 0) rfl rfl ?_
      refine L_nil ?_
      refine W_seq ?_
      refine W_seq ?_
      refine W_region ?_
      refine L_fa (o' := 0) rfl fa_26_0 sf1 rfl ?_
      refine L_ld (v := v0_0) rfl Try.isAgg23 rfl (hb_g3.cell (j := 0) rfl) ?_
      refine L_len (v := v0_0) rfl Try.underlying23 rfl h0_0 ?_
      refine L_mv (v := .int .i64 0) rfl rfl ?_
      refine L_nil ?_
      have hlen13 := len_le h0_0
      obtain ⟨j13, hL13, hF⟩ := bind_some hF
      obtain ⟨R13, hR13⟩ : ∃ R : Fr → World → Prop, R = fun f w_ => ∃ count_12 : Int, j13 = .nx count_12 ∧ f 1 = .pointer (some ⟨g3, 0, none⟩) ∧ f 3 = .int .i64 count_12 ∧ (RP.slice 3 RP.int).rel B w.heap.size w_ [v0_0] m.sizes ∧ (RP.slice 36 (rRule 3 23)).rel B w.heap.size w_ [v0_1] m.rules ∧ Blk w_ g3 26 #[v0_0, v0_1] ∧ Ext w w_ := ⟨_, rfl⟩
      refine W_join R13 ?_ ?_
      ·
        refine W_block ?_
        obtain ⟨I13, hI13⟩ : ∃ I : Nat → Fr → World → Prop, I = fun n f w_ => ∃ i_11 : Nat, ∃ suf13 : List Int, ∃ count_12 : Int, n = suf13.length ∧ List.drop i_11 m.sizes = suf13 ∧ i_11 + suf13.length = m.sizes.length ∧ rangeL i_ModelValid_b1 suf13 i_11 count_12 = some j13 ∧ f 1 = .pointer (some ⟨g3, 0, none⟩) ∧ f 3 = .int .i64 count_12 ∧ f 18 = v0_0 ∧ f 19 = .int .i64 (m.sizes.length : Int) ∧ f 20 = .int .i64 (i_11 : Int) ∧ (RP.slice 3 RP.int).rel B w.heap.size w_ [v0_0] m.sizes ∧ (RP.slice 36 (rRule 3 23)).rel B w.heap.size w_ [v0_1] m.rules ∧ Blk w_ g3 26 #[v0_0, v0_1] ∧ Ext w w_ := ⟨_, rfl⟩
        refine W_loop I13 (n := m.sizes.length) ?_ ?_
        · rw [hI13]; exact ⟨0, m.sizes, 0, rfl, rfl, Nat.zero_add _, hL13, sf1, rfl, rfl, rfl, rfl, h0_0, h0_1, hb_g3, hx⟩
        ·
          intro n13 f w_ hI
          rw [hI13] at hI
          obtain ⟨i_11, suf13, count_12, rfl, hd13, hl13, hL13, sf1, sf3, sf18, sf19, sf20, h0_0, h0_1, hb_g3, hx⟩ := hI
          refine W_seq ?_
          refine W_region ?_
          refine L_lss (m := (i_11 : Int)) (n := (m.sizes.length : Int)) rfl sf20 sf19 ?_
          refine L_nil ?_
          refine W_seq ?_
          refine W_cond (b := decide ((i_11 : Int) < (m.sizes.length : Int))) rfl (fun hc14 => ?_) (fun hc14 => ?_)
          ·
            have hlt13 := of_decide_eq_true hc14
            cases suf13 with
            | nil => exact absurd hlt13 (by simp at hl13; omega)
            | cons x_13 rest13 =>
              obtain ⟨o13, hB13, hL13⟩ := range_cons hL13
              rw [i_ModelValid_b1] at hB13
              have hix13 := drop_idx hd13
              refine W_skip ?_
              refine W_seq ?_
              refine W_block ?_
              refine W_seq ?_
              refine W_region ?_
              refine L_ix (r := RP.int) rfl Try.underlying23 Try.sizeOf3 sf18 h0_0 sf20 hix13 ?_
              intro g17 o18 cs18 hr18 hat18
              obtain rfl : _ = [_] := hr18
              refine L_ld (v := .int .i64 x_13) rfl Try.isAgg3 rfl (hat18.cell (j := 0) rfl) ?_
              refine L_as (v := .int .i64 x_13) rfl rfl ?_
              refine L_nil ?_
              refine W_seq ?_
              refine W_seq ?_
              obtain ⟨x19, hx19, hB13⟩ := bind_some hB13
              refine W_region ?_
              refine L_mv (v := .int .i64 x_13) rfl rfl ?_
              refine L_call (args := #[.int .i64 x_13, .int .i64 0, .int .i64 3]) rfl Try.call50 (ops3 rfl rfl rfl) (i_within_c (n_ := x_13) (low := 0) (high := 3) (Nat.le_trans hB hx.size) hx19) ?_
              rintro _ w21 ⟨rfl, he21⟩
              have h0_0 := RP.ext h0_0 he21
              have h0_1 := RP.ext h0_1 he21
              have hb_g3 := Blk.ext hb_g3 he21
              have hx := ext_trans hx he21
              refine L_not_ (b := x19) rfl rfl ?_
              refine L_nil ?_
              refine W_cond (b := (!x19)) rfl (fun hc22 => ?_) (fun hc22 => ?_)
              ·
                have hB13 := (ite_t hc22).symm.trans hB13
                refine W_seq ?_
                refine W_region ?_
                refine L_as (v := .bool false) rfl rfl ?_
                refine L_nil ?_
                refine W_ret ?_
                obtain rfl := so hB13
                obtain rfl := so hL13
                obtain rfl := so hF
                refine ret1 Try.results28 ?_
                exact ⟨rfl, hx⟩
              ·
                have hB13 := (ite_f hc22).symm.trans hB13
                refine W_skip ?_
                refine W_region ?_
                refine L_mv (v := .int .i64 count_12) rfl sf3 ?_
                refine L_mv (v := .int .i64 x_13) rfl rfl ?_
                refine L_add (m := x_13) (n := 1) rfl rfl rfl ?_
                refine L_add (m := count_12) (n := i64 (x_13 + 1)) rfl rfl rfl ?_
                refine L_as (v := .int .i64 (i64 (count_12 + (i64 (x_13 + 1))))) rfl rfl ?_
                refine L_nil ?_
                refine W_region ?_
                refine L_add (m := (i_11 : Int)) (n := 1) rfl sf20 rfl ?_
                refine L_mv (v := .int .i64 (i64 ((i_11 : Int) + 1))) rfl rfl ?_
                refine L_nil ?_
                obtain rfl := so hB13
                show ∃ m, m < _ ∧ I13 m _ _
                refine ⟨rest13.length, by simp, ?_⟩
                rw [hI13]
                exact ⟨i_11 + 1, rest13, i64 (count_12 + (i64 (x_13 + 1))), rfl, drop_next hd13, by simp at hl13; omega, hL13, sf1, rfl, sf18, sf19, (Eq.trans rfl (congrArg (Value.int .i64) (i64_succ (n := m.sizes.length) (by simp at hl13; omega) hlen13))), h0_0, h0_1, hb_g3, hx⟩
          ·
            cases suf13 with
            | cons _ _ => exact absurd (of_decide_eq_false hc14) (by simp at hl13; omega)
            | nil =>
              obtain rfl := range_nil hL13
              refine W_exit ?_
              show R13 _ _
              rw [hR13]
              exact ⟨count_12, rfl, sf1, sf3, h0_0, h0_1, hb_g3, hx⟩
      ·
        intro f w_ hR
        rw [hR13] at hR
        obtain ⟨count_12, rfl, sf1, sf3, h0_0, h0_1, hb_g3, hx⟩ := hR
        clear hR13
        refine W_seq ?_
        obtain ⟨b25, hb25, hF⟩ := bind_some hF
        obtain ⟨R26, hR26⟩ : ∃ R : Fr → World → Prop, R = fun f w_ => f 2 = .bool b25 ∧ Ext w w_ := ⟨_, rfl⟩
        refine W_join R26 ?_ ?_
        ·
          refine W_region ?_
          refine L_mv (v := .int .i64 count_12) rfl sf3 ?_
          refine L_leq (m := count_12) (n := 12) rfl rfl rfl ?_
          refine L_mv (v := .bool (decide (count_12 ≤ 12))) rfl rfl ?_
          refine L_split (d := 34) (b := decide (count_12 ≤ 12)) rfl (fun hc27 => ?_) (fun hc27 => ?_)
          ·
            rw [ite_t hc27] at hb25
            obtain ⟨x23, hx23, hb25⟩ := bind_some hb25
            refine L_fa (o' := 1) rfl fa_26_1 sf1 rfl ?_
            refine L_ld (v := v0_1) rfl Try.isAgg24 rfl (hb_g3.cell (j := 1) rfl) ?_
            refine L_mf rfl (ops1 sf1) ?_
            have hf28 : Fun1 Try.prog B (rRule 3 23) true Value.bool (i_ModelValid_1 m) (.func (.func 67) #[] #[.pointer (some ⟨g3, 0, none⟩)]) w_ := by
              refine ⟨_, _, rfl, Try.call67, fun w_ hE_ cs_ x_ y_ args_ hr_ hy_ ha_ => ?_⟩
              obtain ⟨p0, p1, p2, rfl, hp0, hp1, hp2⟩ := rRule_iff.1 hr_
              obtain rfl := args_of (b := #[.agg #[.int .i64 x_.kind, p0, p1, .int .i64 x_.bound, p2], .pointer (some ⟨g3, 0, none⟩)]) ha_
              exact i_ModelValid_1_c (c1 := m) (r_ := x_) (Nat.le_trans hB (ext_trans hx hE_).size) hp0 hp1 hp2 (At.ext (Blk.at hb_g3) hE_) (rel0 (RP.ext h0_0 hE_)) (rel0 (RP.ext h0_1 hE_)) hy_
            refine L_call (args := #[v0_1, .func (.func 67) #[] #[.pointer (some ⟨g3, 0, none⟩)]]) rfl Try.call66 (ops2 rfl rfl) (slices_ContainsFunc_implRule_c (s := m.rules) (f_ := (i_ModelValid_1 m)) (Nat.le_trans hB hx.size) (rel0 h0_1) hf28 hx23) ?_
            rintro _ w29 ⟨rfl, he29⟩
            have h0_0 := RP.ext h0_0 he29
            have h0_1 := RP.ext h0_1 he29
            have hb_g3 := Blk.ext hb_g3 he29
            have hx := ext_trans hx he29
            refine L_not_ (b := x23) rfl rfl ?_
            refine L_pick (v := .bool b25) rfl rfl (congrArg Value.bool (so hb25)) ?_
            refine L_as (v := .bool b25) rfl rfl ?_
            refine L_nil ?_
            show R26 _ _
            rw [hR26]
            exact ⟨rfl, hx⟩
          ·
            rw [ite_f hc27] at hb25
            refine L_pass rfl ?_
            refine L_pass rfl ?_
            refine L_pass rfl ?_
            refine L_pass rfl ?_
            refine L_pass rfl ?_
            refine L_pick (v := .bool b25) rfl rfl (congrArg Value.bool (so hb25)) ?_
            refine L_as (v := .bool b25) rfl rfl ?_
            refine L_nil ?_
            show R26 _ _
            rw [hR26]
            exact ⟨rfl, hx⟩
        ·
          intro f w_ hR
          rw [hR26] at hR
          obtain ⟨sf2, hx⟩ := hR
          clear hR26
          refine W_ret ?_
          obtain rfl := so hF
          refine ret1 Try.results28 ?_
          exact ⟨sf2, hx⟩

end Go.Proofs.Ytcjjfneofcpmfaa

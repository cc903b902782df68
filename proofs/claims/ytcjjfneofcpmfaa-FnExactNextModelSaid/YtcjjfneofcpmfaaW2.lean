/- Part of a proof by program: W2. -/
import Derived.Test.YtcjjfneofcpmfaaD1
import Derived.Test.YtcjjfneofcpmfaaW1
namespace Go.Proofs.Ytcjjfneofcpmfaa
open Go Go.E Go.L Go.RowKit
set_option linter.unusedVariables false
set_option linter.unusedSimpArgs false
set_option maxRecDepth 100000

theorem i_Rule_holds_c {r_ : Rule} {vals : List Int} {v0_1 : Value} {v0_2 : Value} {v0_4 : Value} {v1 : Value} {H : FH} {w : World} (hst : Star H w []) (h0_1 : (RP.slice 3 RP.int).rel H [v0_1] r_.vars) (h0_2 : (RP.slice 3 RP.int).rel H [v0_2] r_.coefs) (h0_4 : (RP.slice 23 (RP.slice 3 RP.int)).rel H [v0_4] r_.rows) (h1 : (RP.slice 3 RP.int).rel H [v1] vals) {r : Bool} (hF : i_Rule_holds r_ vals = some r) :
    C Try.prog 83 #[.agg #[.int .i64 r_.kind, v0_1, v0_2, .int .i64 r_.bound, v0_4], v1] w fun v w' => v = .bool r ∧ Star H w' [] := by
  unfold i_Rule_holds at hF
  refine C_enter Try.func83 rfl Try.ntmps83 rfl ?_
  refine W_seq ?_
  refine W_region ?_
  refine L_box (v := .agg #[.int .i64 r_.kind, v0_1, v0_2, .int .i64 r_.bound, v0_4]) (cs := #[.int .i64 r_.kind, v0_1, v0_2, .int .i64 r_.bound, v0_4]) rfl rfl rfl hst ?_
  intro g5 w6 hst
  refine L_box (v := v1) (cs := #[v1]) rfl rfl (cells_one (one_len (slice_len h1))) hst ?_
  intro g7 w8 hst
  refine L_as (v := .bool false) rfl rfl ?_
  refine L_nil ?_
  refine W_seq ?_
  refine W_seq ?_
  refine W_region ?_
  refine L_fa (o' := 0) rfl fa_36_0 rfl rfl ?_
  refine L_ld (v := .int .i64 r_.kind) rfl Try.isAgg3 rfl (At.cell0 (Blk.at (Star.blkAt 1 hst rfl)) (j := 0) rfl) ?_
  refine L_nil ?_
  refine W_block ?_
  refine W_seq ?_
  refine W_region ?_
  refine L_eql (m := r_.kind) (n := 1) rfl rfl rfl ?_
  refine L_as (v := .bool (r_.kind == 1)) rfl rfl ?_
  refine L_nil ?_
  refine W_cond (b := (r_.kind == 1)) rfl (fun hc9 => ?_) (fun hc9 => ?_)
  ·
    have hF := (ite_t hc9).symm.trans hF
    refine W_seq ?_
    refine W_region ?_
    refine L_as (v := .int .i64 0) rfl rfl ?_
    refine L_nil ?_
    refine W_seq ?_
    refine W_seq ?_
    refine W_region ?_
    refine L_ld (v := v1) rfl Try.isAgg23 rfl (At.cell0 (Blk.at (Star.blkAt 0 hst rfl)) (j := 0) rfl) ?_
    refine L_len (v := v1) (n := List.length vals) rfl Try.underlying23 rfl (slice_len h1) ?_
    refine L_mv (v := .int .i64 0) rfl rfl ?_
    refine L_nil ?_
    have hlen12 : List.length vals ≤ 9223372036854775807 := len_le (slice_len h1)
    obtain ⟨j12, hL12, hF⟩ := bind_some hF
    obtain ⟨R12, hR12⟩ : ∃ RR_ : Fr → World → Prop, RR_ = fun f w_ => ∃ sum_11 : Int, j12 = .nx sum_11 ∧ f 2 = .pointer (some ⟨g5, 0, none⟩) ∧ f 5 = .int .i64 sum_11 ∧ Star H w_ ([box g5 36 #[.int .i64 r_.kind, v0_1, v0_2, .int .i64 r_.bound, v0_4]]) := ⟨_, rfl⟩
    refine W_join R12 ?_ ?_
    ·
      refine W_block ?_
      obtain ⟨I12, hI12⟩ : ∃ I : Nat → Fr → World → Prop, I = fun n f w_ => ∃ i_10 : Nat, ∃ suf12 : List Int, ∃ sum_11 : Int, n = suf12.length ∧ List.drop i_10 vals = suf12 ∧ i_10 + suf12.length = vals.length ∧ rangeL (i_Rule_holds_b1 r_) suf12 i_10 sum_11 = some j12 ∧ f 2 = .pointer (some ⟨g5, 0, none⟩) ∧ f 5 = .int .i64 sum_11 ∧ f 14 = v1 ∧ f 15 = .int .i64 (vals.length : Int) ∧ f 16 = .int .i64 (i_10 : Int) ∧ Star H w_ ([box g5 36 #[.int .i64 r_.kind, v0_1, v0_2, .int .i64 r_.bound, v0_4]]) := ⟨_, rfl⟩
      have hst := Star.get 1 hst rfl
      refine W_loop I12 (n := vals.length) ?_ ?_
      · rw [hI12]; exact ⟨0, vals, 0, rfl, rfl, Nat.zero_add _, hL12, rfl, rfl, rfl, rfl, rfl, (Star.keepN 1 hst)⟩
      ·
        clear hst
        intro n12 f w_ hI
        rw [hI12] at hI
        obtain ⟨i_10, suf12, sum_11, rfl, hd12, hl12, hL12, sf2, sf5, sf14, sf15, sf16, hst⟩ := hI
        refine W_seq ?_
        refine W_region ?_
        refine L_lss (m := (i_10 : Int)) (n := (vals.length : Int)) rfl sf16 sf15 ?_
        refine L_nil ?_
        refine W_seq ?_
        refine W_cond (b := decide ((i_10 : Int) < (vals.length : Int))) rfl (fun hc13 => ?_) (fun hc13 => ?_)
        ·
          have hlt12 := of_decide_eq_true hc13
          cases suf12 with
          | nil => exact absurd hlt12 (by simp at hl12; omega)
          | cons x_12 rest12 =>
            obtain ⟨o12, hB12, hL12⟩ := range_cons hL12
            rw [i_Rule_holds_b1] at hB12
            have hix12 := drop_idx hd12
            refine W_skip ?_
            refine W_seq ?_
            refine W_block ?_
            refine W_seq ?_
            refine W_region ?_
            refine L_mv (v := .int .i64 (i_10 : Int)) rfl sf16 ?_
            refine L_ix (r := RP.int) rfl Try.underlying23 Try.sizeOf3 sf14 h1 sf16 hix12 ?_
            intro g18 o19 cs_g18 hrk_hat20 hat20
            obtain rfl : _ = [_] := hrk_hat20
            refine L_ld (v := .int .i64 x_12) rfl Try.isAgg3 rfl (At.cell (AtH.at hat20 hst.sub) (j := 0) rfl) ?_
            refine L_as (v := .int .i64 (i_10 : Int)) rfl rfl ?_
            refine L_as (v := .int .i64 x_12) rfl rfl ?_
            refine L_nil ?_
            obtain ⟨x22, hx22, hB12⟩ := bind_some hB12
            refine W_region ?_
            refine L_mv (v := .int .i64 sum_11) rfl sf5 ?_
            refine L_fa (o' := 2) rfl fa_36_2 sf2 rfl ?_
            refine L_ld (v := v0_2) rfl Try.isAgg23 rfl (At.cell0 (Blk.at (Star.blkAt 0 hst rfl)) (j := 2) rfl) ?_
            refine L_mv (v := .int .i64 (i_10 : Int)) rfl rfl ?_
            refine L_ix (r := RP.int) rfl Try.underlying23 Try.sizeOf3 rfl h0_2 rfl hx22 ?_
            intro g27 o28 cs_g27 hrk_hat29 hat29
            obtain rfl : _ = [_] := hrk_hat29
            refine L_ld (v := .int .i64 x22) rfl Try.isAgg3 rfl (At.cell (AtH.at hat29 hst.sub) (j := 0) rfl) ?_
            refine L_mv (v := .int .i64 x_12) rfl rfl ?_
            refine L_mul (m := x22) (n := x_12) rfl rfl rfl ?_
            refine L_add (m := sum_11) (n := i64 (x22 * x_12)) rfl rfl rfl ?_
            refine L_as (v := .int .i64 (i64 (sum_11 + (i64 (x22 * x_12))))) rfl rfl ?_
            refine L_nil ?_
            refine W_region ?_
            refine L_add (m := (i_10 : Int)) (n := 1) rfl sf16 rfl ?_
            refine L_mv (v := .int .i64 (i64 ((i_10 : Int) + 1))) rfl rfl ?_
            refine L_nil ?_
            obtain rfl := so hB12
            show ∃ m, m < _ ∧ I12 m _ _
            refine ⟨rest12.length, by simp, ?_⟩
            rw [hI12]
            exact ⟨i_10 + 1, rest12, i64 (sum_11 + (i64 (x22 * x_12))), rfl, drop_next hd12, by simp at hl12; omega, hL12, sf2, rfl, sf14, sf15, (Eq.trans rfl (congrArg (Value.int .i64) (i64_succ (n := vals.length) (by simp at hl12; omega) hlen12))), hst⟩
        ·
          cases suf12 with
          | cons _ _ => exact absurd (of_decide_eq_false hc13) (by simp at hl12; omega)
          | nil =>
            obtain rfl := range_nil hL12
            refine W_exit ?_
            show R12 _ _
            rw [hR12]
            exact ⟨sum_11, rfl, sf2, sf5, hst⟩
    ·
      clear hst
      intro f w_ hR
      rw [hR12] at hR
      obtain ⟨sum_11, rfl, sf2, sf5, hst⟩ := hR
      clear hR12
      refine W_seq ?_
      refine W_region ?_
      refine L_mv (v := .int .i64 sum_11) rfl sf5 ?_
      refine L_fa (o' := 3) rfl fa_36_3 sf2 rfl ?_
      refine L_ld (v := .int .i64 r_.bound) rfl Try.isAgg3 rfl (At.cell0 (Blk.at (Star.blkAt 0 hst rfl)) (j := 3) rfl) ?_
      refine L_geq (m := sum_11) (n := r_.bound) rfl rfl rfl ?_
      refine L_as (v := .bool (decide (sum_11 ≥ r_.bound))) rfl rfl ?_
      refine L_nil ?_
      refine W_ret ?_
      refine retG1 (v1 := .bool (decide (sum_11 ≥ r_.bound))) Try.results83 rfl ?_
      obtain rfl := so hF
      exact ⟨rfl, (Star.keepN 0 hst)⟩
  ·
    have hF := (ite_f hc9).symm.trans hF
    refine W_seq ?_
    refine W_region ?_
    refine L_eql (m := r_.kind) (n := 2) rfl rfl rfl ?_
    refine L_as (v := .bool (r_.kind == 2)) rfl rfl ?_
    refine L_nil ?_
    refine W_cond (b := (r_.kind == 2)) rfl (fun hc31 => ?_) (fun hc31 => ?_)
    ·
      have hF := (ite_t hc31).symm.trans hF
      refine W_seq ?_
      refine W_seq ?_
      refine W_region ?_
      refine L_ld (v := v1) rfl Try.isAgg23 rfl (At.cell0 (Blk.at (Star.blkAt 0 hst rfl)) (j := 0) rfl) ?_
      refine L_len (v := v1) (n := List.length vals) rfl Try.underlying23 rfl (slice_len h1) ?_
      refine L_mv (v := .int .i64 0) rfl rfl ?_
      refine L_nil ?_
      have hlen33 : List.length vals ≤ 9223372036854775807 := len_le (slice_len h1)
      obtain ⟨j33, hL33, hF⟩ := bind_some hF
      obtain ⟨R33, hR33⟩ : ∃ RR_ : Fr → World → Prop, RR_ = fun f w_ => j33 = .nx () ∧ Star H w_ ([]) := ⟨_, rfl⟩
      refine W_join R33 ?_ ?_
      ·
        refine W_block ?_
        obtain ⟨I33, hI33⟩ : ∃ I : Nat → Fr → World → Prop, I = fun n f w_ => ∃ i_32 : Nat, ∃ suf33 : List Int, n = suf33.length ∧ List.drop i_32 vals = suf33 ∧ i_32 + suf33.length = vals.length ∧ rangeL (i_Rule_holds_b2 vals) suf33 i_32 () = some j33 ∧ f 3 = .pointer (some ⟨g7, 0, none⟩) ∧ f 37 = v1 ∧ f 38 = .int .i64 (vals.length : Int) ∧ f 39 = .int .i64 (i_32 : Int) ∧ Star H w_ ([box g7 23 #[v1]]) := ⟨_, rfl⟩
        refine W_loop I33 (n := vals.length) ?_ ?_
        · rw [hI33]; exact ⟨0, vals, rfl, rfl, Nat.zero_add _, hL33, rfl, rfl, rfl, rfl, (Star.keepN 1 hst)⟩
        ·
          clear hst
          intro n33 f w_ hI
          rw [hI33] at hI
          obtain ⟨i_32, suf33, rfl, hd33, hl33, hL33, sf3, sf37, sf38, sf39, hst⟩ := hI
          refine W_seq ?_
          refine W_region ?_
          refine L_lss (m := (i_32 : Int)) (n := (vals.length : Int)) rfl sf39 sf38 ?_
          refine L_nil ?_
          refine W_seq ?_
          refine W_cond (b := decide ((i_32 : Int) < (vals.length : Int))) rfl (fun hc34 => ?_) (fun hc34 => ?_)
          ·
            have hlt33 := of_decide_eq_true hc34
            cases suf33 with
            | nil => exact absurd hlt33 (by simp at hl33; omega)
            | cons x_33 rest33 =>
              obtain ⟨o33, hB33, hL33⟩ := range_cons hL33
              rw [i_Rule_holds_b2] at hB33
              have hix33 := drop_idx hd33
              refine W_skip ?_
              refine W_seq ?_
              refine W_block ?_
              refine W_seq ?_
              refine W_region ?_
              refine L_mv (v := .int .i64 (i_32 : Int)) rfl sf39 ?_
              refine L_ix (r := RP.int) rfl Try.underlying23 Try.sizeOf3 sf37 h1 sf39 hix33 ?_
              intro g39 o40 cs_g39 hrk_hat41 hat41
              obtain rfl : _ = [_] := hrk_hat41
              refine L_ld (v := .int .i64 x_33) rfl Try.isAgg3 rfl (At.cell (AtH.at hat41 hst.sub) (j := 0) rfl) ?_
              refine L_as (v := .int .i64 (i_32 : Int)) rfl rfl ?_
              refine L_as (v := .int .i64 x_33) rfl rfl ?_
              refine L_nil ?_
              refine W_seq ?_
              obtain ⟨x43, hx43, hB33⟩ := bind_some hB33
              obtain ⟨x51, hx51, hB33⟩ := bind_some hB33
              refine W_region ?_
              refine L_ld (v := v1) rfl Try.isAgg23 sf3 (At.cell0 (Blk.at (Star.blkAt 0 hst rfl)) (j := 0) rfl) ?_
              refine L_mv (v := .int .i64 (i_32 : Int)) rfl rfl ?_
              refine L_sl (a := 0) (b := (i_32 : Int)) rfl et_23 rfl h1 rfl rfl hx43 ?_
              intro v53 hs54
              refine L_mv (v := .int .i64 x_33) rfl rfl ?_
              obtain ⟨Hb55, hle56, hsb57, hfz58, hbk59⟩ := Star.borrow hst
              refine L_call (args := #[v53, .int .i64 x_33]) rfl Try.call87 (ops2 rfl rfl) (slices_Contains_int_c (s := x43) (v_ := x_33) hsb57 (RP.mono _ hs54 hle56) hx51) ?_
              rintro _ w60 ⟨rfl, hst⟩
              have hst := hbk59 hst closedL_nil
              refine L_nil ?_
              refine W_cond (b := x51) rfl (fun hc61 => ?_) (fun hc61 => ?_)
              ·
                have hB33 := (ite_t hc61).symm.trans hB33
                refine W_seq ?_
                refine W_region ?_
                refine L_as (v := .bool false) rfl rfl ?_
                refine L_nil ?_
                refine W_ret ?_
                refine retG1 (v1 := .bool false) Try.results83 rfl ?_
                obtain rfl := so hB33
                obtain rfl := so hL33
                obtain rfl := so hF
                exact ⟨rfl, (Star.keepN 0 hst)⟩
              ·
                have hB33 := (ite_f hc61).symm.trans hB33
                refine W_skip ?_
                refine W_region ?_
                refine L_add (m := (i_32 : Int)) (n := 1) rfl sf39 rfl ?_
                refine L_mv (v := .int .i64 (i64 ((i_32 : Int) + 1))) rfl rfl ?_
                refine L_nil ?_
                obtain rfl := so hB33
                show ∃ m, m < _ ∧ I33 m _ _
                refine ⟨rest33.length, by simp, ?_⟩
                rw [hI33]
                exact ⟨i_32 + 1, rest33, rfl, drop_next hd33, by simp at hl33; omega, hL33, sf3, sf37, sf38, (Eq.trans rfl (congrArg (Value.int .i64) (i64_succ (n := vals.length) (by simp at hl33; omega) hlen33))), hst⟩
          ·
            cases suf33 with
            | cons _ _ => exact absurd (of_decide_eq_false hc34) (by simp at hl33; omega)
            | nil =>
              obtain rfl := range_nil hL33
              refine W_exit ?_
              show R33 _ _
              rw [hR33]
              exact ⟨rfl, (Star.keepN 0 hst)⟩
      ·
        clear hst
        intro f w_ hR
        rw [hR33] at hR
        obtain ⟨rfl, hst⟩ := hR
        clear hR33
        refine W_seq ?_
        refine W_region ?_
        refine L_as (v := .bool true) rfl rfl ?_
        refine L_nil ?_
        refine W_ret ?_
        refine retG1 (v1 := .bool true) Try.results83 rfl ?_
        obtain rfl := so hF
        exact ⟨rfl, hst⟩
    ·
      have hF := (ite_f hc31).symm.trans hF
      refine W_seq ?_
      refine W_region ?_
      refine L_eql (m := r_.kind) (n := 3) rfl rfl rfl ?_
      refine L_as (v := .bool (r_.kind == 3)) rfl rfl ?_
      refine L_nil ?_
      refine W_cond (b := (r_.kind == 3)) rfl (fun hc62 => ?_) (fun hc62 => ?_)
      ·
        have hF := (ite_t hc62).symm.trans hF
        refine W_seq ?_
        obtain ⟨x68, hx68, hF⟩ := bind_some hF
        refine W_region ?_
        refine L_fa (o' := 4) rfl fa_36_4 rfl rfl ?_
        refine L_ld (v := v0_4) rfl Try.isAgg34 rfl (At.cell0 (Blk.at (Star.blkAt 1 hst rfl)) (j := 4) rfl) ?_
        refine L_mf rfl (ops1 rfl) ?_
        obtain ⟨Hb70, hle71, hsb72, hfz73, hbk74⟩ := Star.borrow hst
        have hf75 : Fun1 Try.prog (RP.slice 3 RP.int) false Value.bool (i_Rule_holds_1 vals) (.func (.func 101) #[] #[.pointer (some ⟨g7, 0, none⟩)]) Hb70 := by
          refine ⟨_, _, rfl, Try.call101, fun H_ w_ hE_ hs_ cs_ x_ y_ args_ hr_ hy_ ha_ => ?_⟩
          obtain ⟨p_0, rfl, hp_0⟩ := slice1 hr_
          obtain rfl := args_of (b := #[p_0, .pointer (some ⟨g7, 0, none⟩)]) ha_
          exact i_Rule_holds_1_c (c1 := vals) (row := x_) hs_ hp_0 (AtH.le (AtH.of (fz_box 0 hfz73 rfl)) hE_) (RP.mono _ (RP.mono _ h1 hle71) hE_) hy_
        refine L_call (args := #[v0_4, .func (.func 101) #[] #[.pointer (some ⟨g7, 0, none⟩)]]) rfl Try.call90 (ops2 rfl rfl) (slices_ContainsFunc_Sint_c (s := r_.rows) (f_ := (i_Rule_holds_1 vals)) hsb72 (RP.mono _ h0_4 hle71) hf75 hx68) ?_
        rintro _ w76 ⟨rfl, hst⟩
        have hst := hbk74 hst closedL_nil
        refine L_as (v := .bool x68) rfl rfl ?_
        refine L_nil ?_
        refine W_ret ?_
        refine retG1 (v1 := .bool x68) Try.results83 rfl ?_
        obtain rfl := so hF
        exact ⟨rfl, (Star.keepN 0 hst)⟩
      ·
        have hF := (ite_f hc62).symm.trans hF
        refine W_skip ?_
        refine W_seq ?_
        obtain ⟨x77, hx77, hF⟩ := bind_some hF
        obtain ⟨x82, hx82, hF⟩ := bind_some hF
        have hst := Star.drop 1 hst rfl
        refine W_drawS 6 [isV (v1), isEl RP.int x77 0, isV (.int .i64 x77), isV (v1), isEl RP.int x82 0, isV (.int .i64 x82)] [box g7 23 #[v1]] [] ([]) [([], []), ([], []), ([], []), ([], []), ([], []), ([], [])] (S := []) Try_mix (by kernel_rfl) rfl (by kernel_rfl) (amF_cons (mono_V _) (amF_cons (mono_el _ _ _) (amF_cons (mono_V _) (amF_cons (mono_V _) (amF_cons (mono_el _ _ _) (amF_cons (mono_V _) amF_nil)))))) hst ?_ (fun f w_ H87 hS87 hE87 hT87 hst => ?_)
        ·
          refine opsS_cons ?_ ?_
          ·
            intro f w_ H87 X87 hS87 hE87 hP87 hst
            refine L_ld (v := v1) rfl Try.isAgg23 ((hS87 3 rfl).trans rfl) (At.cell0 (Blk.at (Star.blkAt 0 hst rfl)) (j := 0) rfl) ?_
            exact L_nil ⟨rfl, _, _, _, rfl, rfl, Le.refl _, rfl, hst⟩
          refine opsS_cons ?_ ?_
          ·
            intro f w_ H87 X87 hS87 hE87 hP87 hst
            refine L_ix (r := RP.int) rfl Try.underlying23 Try.sizeOf3 (hP87 0 56 rfl rfl) (RP.mono _ h1 hE87) rfl hx77 ?_
            intro g96 o97 cs_g96 hrk_hat98 hat98
            obtain rfl : _ = [_] := hrk_hat98
            exact L_nil ⟨rfl, _, _, _, rfl, rfl, Le.refl _, ⟨_, _, _, rfl, rfl, hat98⟩, hst⟩
          refine opsS_cons ?_ ?_
          ·
            intro f w_ H87 X87 hS87 hE87 hP87 hst
            obtain ⟨g100, o100, cs100, hv100, hrk_hat100, hat100⟩ := (hP87 1 57 rfl rfl)
            obtain rfl : _ = [_] := hrk_hat100
            refine L_ld (v := .int .i64 x77) rfl Try.isAgg3 hv100 (At.cell (AtH.at hat100 hst.sub) (j := 0) rfl) ?_
            exact L_nil ⟨rfl, _, _, _, rfl, rfl, Le.refl _, rfl, hst⟩
          refine opsS_cons ?_ ?_
          ·
            intro f w_ H87 X87 hS87 hE87 hP87 hst
            refine L_ld (v := v1) rfl Try.isAgg23 ((hS87 3 rfl).trans rfl) (At.cell0 (Blk.at (Star.blkAt 0 hst rfl)) (j := 0) rfl) ?_
            exact L_nil ⟨rfl, _, _, _, rfl, rfl, Le.refl _, rfl, hst⟩
          refine opsS_cons ?_ ?_
          ·
            intro f w_ H87 X87 hS87 hE87 hP87 hst
            refine L_ix (r := RP.int) rfl Try.underlying23 Try.sizeOf3 (hP87 3 59 rfl rfl) (RP.mono _ h1 hE87) rfl hx82 ?_
            intro g102 o103 cs_g102 hrk_hat104 hat104
            obtain rfl : _ = [_] := hrk_hat104
            exact L_nil ⟨rfl, _, _, _, rfl, rfl, Le.refl _, ⟨_, _, _, rfl, rfl, hat104⟩, hst⟩
          refine opsS_cons ?_ ?_
          ·
            intro f w_ H87 X87 hS87 hE87 hP87 hst
            obtain ⟨g106, o106, cs106, hv106, hrk_hat106, hat106⟩ := (hP87 4 60 rfl rfl)
            obtain rfl : _ = [_] := hrk_hat106
            refine L_ld (v := .int .i64 x82) rfl Try.isAgg3 hv106 (At.cell (AtH.at hat106 hst.sub) (j := 0) rfl) ?_
            exact L_nil ⟨rfl, _, _, _, rfl, rfl, Le.refl _, rfl, hst⟩
          exact opsS_nil
        ·
          refine L_lss (m := x77) (n := x82) rfl (hT87 2 58 rfl rfl) (hT87 5 61 rfl rfl) ?_
          refine L_as (v := .bool (decide (x77 < x82))) rfl rfl ?_
          refine L_nil ?_
          refine W_ret ?_
          refine retG1 (v1 := .bool (decide (x77 < x82))) Try.results83 rfl ?_
          obtain rfl := so hF
          exact ⟨rfl, (Star.down (Star.keepN 0 hst) hE87 closedL_nil)⟩

theorem i_Rule_at_c {r_ : Rule} {cells : List Int} {v0_1 : Value} {v0_2 : Value} {v0_4 : Value} {v1 : Value} {H : FH} {w : World} (hst : Star H w []) (h0_1 : (RP.slice 3 RP.int).rel H [v0_1] r_.vars) (h0_2 : (RP.slice 3 RP.int).rel H [v0_2] r_.coefs) (h0_4 : (RP.slice 23 (RP.slice 3 RP.int)).rel H [v0_4] r_.rows) (h1 : (RP.slice 3 RP.int).rel H [v1] cells) {r : Bool} (hF : i_Rule_at r_ cells = some r) :
    C Try.prog 56 #[.agg #[.int .i64 r_.kind, v0_1, v0_2, .int .i64 r_.bound, v0_4], v1] w fun v w' => v = .bool r ∧ Star H w' [] := by
  unfold i_Rule_at at hF
  refine C_enter Try.func56 rfl Try.ntmps56 rfl ?_
  refine W_seq ?_
  refine W_region ?_
  refine L_box (v := .agg #[.int .i64 r_.kind, v0_1, v0_2, .int .i64 r_.bound, v0_4]) (cs := #[.int .i64 r_.kind, v0_1, v0_2, .int .i64 r_.bound, v0_4]) rfl rfl rfl hst ?_
  intro g3 w4 hst
  refine L_as (v := .bool false) rfl rfl ?_
  refine L_nil ?_
  refine W_seq ?_
  refine W_region ?_
  refine L_as (v := (.slice none 0 0)) rfl rfl ?_
  refine L_nil ?_
  refine W_seq ?_
  refine W_seq ?_
  refine W_region ?_
  refine L_fa (o' := 1) rfl fa_36_1 rfl rfl ?_
  refine L_ld (v := v0_1) rfl Try.isAgg23 rfl (At.cell0 (Blk.at (Star.blkAt 0 hst rfl)) (j := 1) rfl) ?_
  refine L_len (v := v0_1) (n := List.length r_.vars) rfl Try.underlying23 rfl (slice_len h0_1) ?_
  refine L_mv (v := .int .i64 0) rfl rfl ?_
  refine L_nil ?_
  have hlen8 : List.length r_.vars ≤ 9223372036854775807 := len_le (slice_len h0_1)
  obtain ⟨j8, hL8, hF⟩ := bind_some hF
  obtain ⟨R8, hR8⟩ : ∃ RR_ : Fr → World → Prop, RR_ = fun f w_ => ∃ vals_6 : List Int, ∃ v6_vals : Value, j8 = .nx vals_6 ∧ f 2 = .pointer (some ⟨g3, 0, none⟩) ∧ f 5 = v6_vals ∧ Star H w_ ([own (OR.ownS 3 (OR.frz RP.int)) [v6_vals] vals_6, box g3 36 #[.int .i64 r_.kind, v0_1, v0_2, .int .i64 r_.bound, v0_4]]) := ⟨_, rfl⟩
  refine W_join R8 ?_ ?_
  ·
    refine W_block ?_
    obtain ⟨I8, hI8⟩ : ∃ I : Nat → Fr → World → Prop, I = fun n f w_ => ∃ i_5 : Nat, ∃ suf8 : List Int, ∃ vals_6 : List Int, ∃ v6_vals : Value, n = suf8.length ∧ List.drop i_5 r_.vars = suf8 ∧ i_5 + suf8.length = r_.vars.length ∧ rangeL (i_Rule_at_b1 cells) suf8 i_5 vals_6 = some j8 ∧ f 1 = v1 ∧ f 2 = .pointer (some ⟨g3, 0, none⟩) ∧ f 5 = v6_vals ∧ f 9 = v0_1 ∧ f 10 = .int .i64 (r_.vars.length : Int) ∧ f 11 = .int .i64 (i_5 : Int) ∧ Star H w_ ([own (OR.ownS 3 (OR.frz RP.int)) [v6_vals] vals_6, box g3 36 #[.int .i64 r_.kind, v0_1, v0_2, .int .i64 r_.bound, v0_4]]) := ⟨_, rfl⟩
    have hst := Star.addNil (R := (OR.frz RP.int)) (e := 3) hst
    refine W_loop I8 (n := r_.vars.length) ?_ ?_
    · rw [hI8]; exact ⟨0, r_.vars, [], (.slice none 0 0), rfl, rfl, Nat.zero_add _, hL8, rfl, rfl, rfl, rfl, rfl, rfl, hst⟩
    ·
      clear hst
      intro n8 f w_ hI
      rw [hI8] at hI
      obtain ⟨i_5, suf8, vals_6, v6_vals, rfl, hd8, hl8, hL8, sf1, sf2, sf5, sf9, sf10, sf11, hst⟩ := hI
      refine W_seq ?_
      refine W_region ?_
      refine L_lss (m := (i_5 : Int)) (n := (r_.vars.length : Int)) rfl sf11 sf10 ?_
      refine L_nil ?_
      refine W_seq ?_
      refine W_cond (b := decide ((i_5 : Int) < (r_.vars.length : Int))) rfl (fun hc10 => ?_) (fun hc10 => ?_)
      ·
        have hlt8 := of_decide_eq_true hc10
        cases suf8 with
        | nil => exact absurd hlt8 (by simp at hl8; omega)
        | cons x_8 rest8 =>
          obtain ⟨o8, hB8, hL8⟩ := range_cons hL8
          rw [i_Rule_at_b1] at hB8
          have hix8 := drop_idx hd8
          refine W_skip ?_
          refine W_seq ?_
          refine W_block ?_
          refine W_seq ?_
          refine W_region ?_
          refine L_ix (r := RP.int) rfl Try.underlying23 Try.sizeOf3 sf9 h0_1 sf11 hix8 ?_
          intro g15 o16 cs_g15 hrk_hat17 hat17
          obtain rfl : _ = [_] := hrk_hat17
          refine L_ld (v := .int .i64 x_8) rfl Try.isAgg3 rfl (At.cell (AtH.at hat17 hst.sub) (j := 0) rfl) ?_
          refine L_as (v := .int .i64 x_8) rfl rfl ?_
          refine L_nil ?_
          obtain ⟨x19, hx19, hB8⟩ := bind_some hB8
          obtain ⟨x27, hx27, hB8⟩ := bind_some hB8
          refine W_region ?_
          refine L_mv (v := v6_vals) rfl sf5 ?_
          refine L_mv (v := v1) rfl sf1 ?_
          refine L_mv (v := .int .i64 x_8) rfl rfl ?_
          refine L_ix (r := RP.int) rfl Try.underlying23 Try.sizeOf3 rfl h1 rfl hx19 ?_
          intro g31 o32 cs_g31 hrk_hat33 hat33
          obtain rfl : _ = [_] := hrk_hat33
          refine L_ld (v := .int .i64 x19) rfl Try.isAgg3 rfl (At.cell (AtH.at hat33 hst.sub) (j := 0) rfl) ?_
          refine L_bs rfl (parts1 rfl) (bs_23_1_0 (.int .i64 x19) rfl) hst ?_
          intro g35 w36 hst
          have hst := Star.addF (r := RP.int) (cs := [.int .i64 x19]) (x := x19) hst rfl
          have hst := Star.mkRow (R := (OR.frz RP.int)) [([.int .i64 x19], x19)] [x19] 1 hst rfl rfl rfl (by decide)
          have hst := Star.get 1 hst rfl
          refine L_appM (v := v6_vals) (u := (.slice (some ⟨g35, 0, none⟩) 1 1)) rfl et_23 rfl rfl hst hx27 ?_
          intro v38 w39 hst
          refine L_as (v := v38) rfl rfl ?_
          refine L_nil ?_
          refine W_region ?_
          refine L_add (m := (i_5 : Int)) (n := 1) rfl sf11 rfl ?_
          refine L_mv (v := .int .i64 (i64 ((i_5 : Int) + 1))) rfl rfl ?_
          refine L_nil ?_
          obtain rfl := so hB8
          show ∃ m, m < _ ∧ I8 m _ _
          refine ⟨rest8.length, by simp, ?_⟩
          rw [hI8]
          exact ⟨i_5 + 1, rest8, x27, v38, rfl, drop_next hd8, by simp at hl8; omega, hL8, sf1, sf2, rfl, sf9, sf10, (Eq.trans rfl (congrArg (Value.int .i64) (i64_succ (n := r_.vars.length) (by simp at hl8; omega) hlen8))), hst⟩
      ·
        cases suf8 with
        | cons _ _ => exact absurd (of_decide_eq_false hc10) (by simp at hl8; omega)
        | nil =>
          obtain rfl := range_nil hL8
          refine W_exit ?_
          show R8 _ _
          rw [hR8]
          exact ⟨vals_6, v6_vals, rfl, sf2, sf5, hst⟩
  ·
    clear hst
    intro f w_ hR
    rw [hR8] at hR
    obtain ⟨vals_6, v6_vals, rfl, sf2, sf5, hst⟩ := hR
    clear hR8
    refine W_seq ?_
    obtain ⟨x47, hx47, hF⟩ := bind_some hF
    refine W_region ?_
    refine L_lda (cs := [.int .i64 r_.kind, v0_1, v0_2, .int .i64 r_.bound, v0_4]) rfl Try.isAgg36 Try.sizeOf36 sf2 (At.sub0 (Blk.at (Star.blkAt 1 hst rfl)) 0 5) rfl ?_
    refine L_mv (v := v6_vals) rfl sf5 ?_
    obtain ⟨Hb49, hle50, hsb51, hfz52, hbk53⟩ := Star.borrow hst
    have hb54 : (RP.slice 3 RP.int).rel Hb49 [v6_vals] vals_6 := fz_own 0 hfz52 rfl
    refine L_call (args := #[.agg #[.int .i64 r_.kind, v0_1, v0_2, .int .i64 r_.bound, v0_4], v6_vals]) rfl Try.call83 (ops2 rfl rfl) (i_Rule_holds_c (r_ := r_) (vals := vals_6) hsb51 (RP.mono _ h0_1 hle50) (RP.mono _ h0_2 hle50) (RP.mono _ h0_4 hle50) hb54 hx47) ?_
    rintro _ w55 ⟨rfl, hst⟩
    have hst := hbk53 hst closedL_nil
    refine L_as (v := .bool x47) rfl rfl ?_
    refine L_nil ?_
    refine W_ret ?_
    refine retG1 (v1 := .bool x47) Try.results56 rfl ?_
    obtain rfl := so hF
    exact ⟨rfl, (Star.keepN 0 hst)⟩

theorem s_l6Cells_c {m : Model} {cells : List Int} {v0_0 : Value} {v0_1 : Value} {v1 : Value} {H : FH} {w : World} (hst : Star H w []) (h0_0 : (RP.slice 3 RP.int).rel H [v0_0] m.sizes) (h0_1 : (RP.slice 36 (rRule 3 23)).rel H [v0_1] m.rules) (h1 : (RP.slice 3 RP.int).rel H [v1] cells) {r : Bool} (hF : s_l6Cells m cells = some r) :
    C Try.prog 61 #[.agg #[v0_0, v0_1], v1] w fun v w' => v = .bool r ∧ Star H w' [] := by
  unfold s_l6Cells at hF
  refine C_enter Try.func61 rfl Try.ntmps61 rfl ?_
  refine W_seq ?_
  refine W_region ?_
  refine L_box (v := .agg #[v0_0, v0_1]) (cs := #[v0_0, v0_1]) rfl rfl rfl hst ?_
  intro g3 w4 hst
  refine L_as (v := .bool false) rfl rfl ?_
  refine L_nil ?_
  refine W_seq ?_
  refine W_seq ?_
  refine W_region ?_
  refine L_mv (v := v1) rfl rfl ?_
  refine L_len (v := v1) (n := List.length cells) rfl Try.underlying23 rfl (slice_len h1) ?_
  refine L_fa (o' := 0) rfl fa_26_0 rfl rfl ?_
  refine L_ld (v := v0_0) rfl Try.isAgg23 rfl (At.cell0 (Blk.at (Star.blkAt 0 hst rfl)) (j := 0) rfl) ?_
  refine L_len (v := v0_0) (n := List.length m.sizes) rfl Try.underlying23 rfl (slice_len h0_0) ?_
  refine L_neq (m := (cells.length : Int)) (n := (m.sizes.length : Int)) rfl rfl rfl ?_
  refine L_nil ?_
  refine W_cond (b := ((cells.length : Int) != (m.sizes.length : Int))) rfl (fun hc5 => ?_) (fun hc5 => ?_)
  ·
    have hF := (ite_t hc5).symm.trans hF
    refine W_seq ?_
    refine W_region ?_
    refine L_as (v := .bool false) rfl rfl ?_
    refine L_nil ?_
    refine W_ret ?_
    refine retG1 (v1 := .bool false) Try.results61 rfl ?_
    obtain rfl := so hF
    exact ⟨rfl, (Star.keepN 0 hst)⟩
  ·
    have hF := (ite_f hc5).symm.trans hF
    refine W_skip ?_
    refine W_seq ?_
    refine W_seq ?_
    refine W_region ?_
    refine L_as (v := .int .i64 0) rfl rfl ?_
    refine L_nil ?_
    have hlen9 : List.length cells ≤ 9223372036854775807 := len_le (slice_len h1)
    obtain ⟨j9, hL9, hF⟩ := bind_some hF
    obtain ⟨R9, hR9⟩ : ∃ RR_ : Fr → World → Prop, RR_ = fun f w_ => ∃ H7 : FH, j9 = .nx () ∧ Le H H7 ∧ Star H7 w_ ([]) := ⟨_, rfl⟩
    refine W_join R9 ?_ ?_
    ·
      refine W_block ?_
      obtain ⟨I9, hI9⟩ : ∃ I : Nat → Fr → World → Prop, I = fun n f w_ => ∃ i_6 : Nat, ∃ suf9 : List Int, ∃ H7 : FH, n = suf9.length ∧ List.drop i_6 cells = suf9 ∧ i_6 + suf9.length = cells.length ∧ rangeL (s_l6Cells_b1 m) suf9 i_6 () = some j9 ∧ Le H H7 ∧ f 1 = v1 ∧ f 2 = .pointer (some ⟨g3, 0, none⟩) ∧ f 5 = .int .i64 (i_6 : Int) ∧ Star H7 w_ ([box g3 26 #[v0_0, v0_1]]) := ⟨_, rfl⟩
      refine W_loop I9 (n := cells.length) ?_ ?_
      · rw [hI9]; exact ⟨0, cells, H, rfl, rfl, Nat.zero_add _, hL9, (Le.refl _), rfl, rfl, rfl, hst⟩
      ·
        clear hst
        intro n9 f w_ hI
        rw [hI9] at hI
        obtain ⟨i_6, suf9, H7, rfl, hd9, hl9, hL9, hle8, sf1, sf2, sf5, hst⟩ := hI
        refine W_seq ?_
        refine W_seq ?_
        refine W_region ?_
        refine L_mv (v := .int .i64 (i_6 : Int)) rfl sf5 ?_
        refine L_mv (v := v1) rfl sf1 ?_
        refine L_len (v := v1) (n := List.length cells) rfl Try.underlying23 rfl (slice_len (RP.mono _ h1 hle8)) ?_
        refine L_lss (m := (i_6 : Int)) (n := (cells.length : Int)) rfl rfl rfl ?_
        refine L_nil ?_
        refine W_cond (b := decide ((i_6 : Int) < (cells.length : Int))) rfl (fun hc10 => ?_) (fun hc10 => ?_)
        ·
          have hlt9 := of_decide_eq_true hc10
          cases suf9 with
          | nil => exact absurd hlt9 (by simp at hl9; omega)
          | cons x_9 rest9 =>
            obtain ⟨o9, hB9, hL9⟩ := range_cons hL9
            rw [s_l6Cells_b1] at hB9
            have hix9 := drop_idx hd9
            refine W_skip ?_
            refine W_seq ?_
            refine W_block ?_
            refine W_seq ?_
            obtain ⟨b24, hb24, hB9⟩ := bind_some hB9
            obtain ⟨R28, hR28⟩ : ∃ RR_ : Fr → World → Prop, RR_ = fun f w_ => ∃ H26 : FH, Le H7 H26 ∧ f 1 = v1 ∧ f 2 = .pointer (some ⟨g3, 0, none⟩) ∧ f 5 = .int .i64 (i_6 : Int) ∧ f 34 = .bool b24 ∧ Star H26 w_ ([box g3 26 #[v0_0, v0_1]]) := ⟨_, rfl⟩
            refine W_join R28 ?_ ?_
            ·
              rcases Bool.eq_false_or_eq_true (decide (x_9 < 0)) with hc29 | hc29
              ·
                rw [ite_t hc29] at hb24
                refine W_drawS 15 [isV (v1), isV (.int .i64 (i_6 : Int)), isEl RP.int x_9 0, isV (.int .i64 x_9), isV (.bool (decide (x_9 < 0))), isV (.bool (decide (x_9 < 0))), isV (undef), isV (undef), isV (undef), isV (undef), isV (undef), isV (undef), isV (undef), isV (undef), isV (undef)] [box g3 26 #[v0_0, v0_1]] [] ([]) [([], []), ([], []), ([], []), ([], []), ([], []), ([], []), ([], []), ([], []), ([], []), ([], []), ([], []), ([], []), ([], []), ([], []), ([], [])] (S := []) Try_mix (by kernel_rfl) rfl (by kernel_rfl) (amF_cons (mono_V _) (amF_cons (mono_V _) (amF_cons (mono_el _ _ _) (amF_cons (mono_V _) (amF_cons (mono_V _) (amF_cons (mono_V _) (amF_cons (mono_V _) (amF_cons (mono_V _) (amF_cons (mono_V _) (amF_cons (mono_V _) (amF_cons (mono_V _) (amF_cons (mono_V _) (amF_cons (mono_V _) (amF_cons (mono_V _) (amF_cons (mono_V _) amF_nil))))))))))))))) hst ?_ (fun f w_ H25 hS25 hE25 hT25 hst => ?_)
                ·
                  refine opsS_cons ?_ ?_
                  ·
                    intro f w_ H25 X25 hS25 hE25 hP25 hst
                    refine L_mv (v := v1) rfl ((hS25 1 rfl).trans sf1) ?_
                    exact L_nil ⟨rfl, _, _, _, rfl, rfl, Le.refl _, rfl, hst⟩
                  refine opsS_cons ?_ ?_
                  ·
                    intro f w_ H25 X25 hS25 hE25 hP25 hst
                    refine L_mv (v := .int .i64 (i_6 : Int)) rfl ((hS25 5 rfl).trans sf5) ?_
                    exact L_nil ⟨rfl, _, _, _, rfl, rfl, Le.refl _, rfl, hst⟩
                  refine opsS_cons ?_ ?_
                  ·
                    intro f w_ H25 X25 hS25 hE25 hP25 hst
                    refine L_ix (r := RP.int) rfl Try.underlying23 Try.sizeOf3 (hP25 0 18 rfl rfl) (RP.mono _ h1 (Le.trans hle8 hE25)) (hP25 1 19 rfl rfl) hix9 ?_
                    intro g34 o35 cs_g34 hrk_hat36 hat36
                    obtain rfl : _ = [_] := hrk_hat36
                    exact L_nil ⟨rfl, _, _, _, rfl, rfl, Le.refl _, ⟨_, _, _, rfl, rfl, hat36⟩, hst⟩
                  refine opsS_cons ?_ ?_
                  ·
                    intro f w_ H25 X25 hS25 hE25 hP25 hst
                    obtain ⟨g38, o38, cs38, hv38, hrk_hat38, hat38⟩ := (hP25 2 20 rfl rfl)
                    obtain rfl : _ = [_] := hrk_hat38
                    refine L_ld (v := .int .i64 x_9) rfl Try.isAgg3 hv38 (At.cell (AtH.at hat38 hst.sub) (j := 0) rfl) ?_
                    exact L_nil ⟨rfl, _, _, _, rfl, rfl, Le.refl _, rfl, hst⟩
                  refine opsS_cons ?_ ?_
                  ·
                    intro f w_ H25 X25 hS25 hE25 hP25 hst
                    refine L_lss (m := x_9) (n := 0) rfl (hP25 3 21 rfl rfl) rfl ?_
                    exact L_nil ⟨rfl, _, _, _, rfl, rfl, Le.refl _, rfl, hst⟩
                  refine opsS_cons ?_ ?_
                  ·
                    intro f w_ H25 X25 hS25 hE25 hP25 hst
                    refine L_mv (v := .bool (decide (x_9 < 0))) rfl (hP25 4 22 rfl rfl) ?_
                    exact L_nil ⟨rfl, _, _, _, rfl, rfl, Le.refl _, rfl, hst⟩
                  refine opsS_cons ?_ ?_
                  ·
                    intro f w_ H25 X25 hS25 hE25 hP25 hst
                    refine L_pass (g_no rfl (Eq.trans (hP25 5 23 rfl rfl) (congrArg Value.bool hc29)) rfl rfl) ?_
                    exact L_nil ⟨rfl, _, _, _, rfl, rfl, Le.refl _, rfl, hst⟩
                  refine opsS_cons ?_ ?_
                  ·
                    intro f w_ H25 X25 hS25 hE25 hP25 hst
                    refine L_pass (g_no rfl (Eq.trans (hP25 5 23 rfl rfl) (congrArg Value.bool hc29)) rfl rfl) ?_
                    exact L_nil ⟨rfl, _, _, _, rfl, rfl, Le.refl _, rfl, hst⟩
                  refine opsS_cons ?_ ?_
                  ·
                    intro f w_ H25 X25 hS25 hE25 hP25 hst
                    refine L_pass (g_no rfl (Eq.trans (hP25 5 23 rfl rfl) (congrArg Value.bool hc29)) rfl rfl) ?_
                    exact L_nil ⟨rfl, _, _, _, rfl, rfl, Le.refl _, rfl, hst⟩
                  refine opsS_cons ?_ ?_
                  ·
                    intro f w_ H25 X25 hS25 hE25 hP25 hst
                    refine L_pass (g_no rfl (Eq.trans (hP25 5 23 rfl rfl) (congrArg Value.bool hc29)) rfl rfl) ?_
                    exact L_nil ⟨rfl, _, _, _, rfl, rfl, Le.refl _, rfl, hst⟩
                  refine opsS_cons ?_ ?_
                  ·
                    intro f w_ H25 X25 hS25 hE25 hP25 hst
                    refine L_pass (g_no rfl (Eq.trans (hP25 5 23 rfl rfl) (congrArg Value.bool hc29)) rfl rfl) ?_
                    exact L_nil ⟨rfl, _, _, _, rfl, rfl, Le.refl _, rfl, hst⟩
                  refine opsS_cons ?_ ?_
                  ·
                    intro f w_ H25 X25 hS25 hE25 hP25 hst
                    refine L_pass (g_no rfl (Eq.trans (hP25 5 23 rfl rfl) (congrArg Value.bool hc29)) rfl rfl) ?_
                    exact L_nil ⟨rfl, _, _, _, rfl, rfl, Le.refl _, rfl, hst⟩
                  refine opsS_cons ?_ ?_
                  ·
                    intro f w_ H25 X25 hS25 hE25 hP25 hst
                    refine L_pass (g_no rfl (Eq.trans (hP25 5 23 rfl rfl) (congrArg Value.bool hc29)) rfl rfl) ?_
                    exact L_nil ⟨rfl, _, _, _, rfl, rfl, Le.refl _, rfl, hst⟩
                  refine opsS_cons ?_ ?_
                  ·
                    intro f w_ H25 X25 hS25 hE25 hP25 hst
                    refine L_pass (g_no rfl (Eq.trans (hP25 5 23 rfl rfl) (congrArg Value.bool hc29)) rfl rfl) ?_
                    exact L_nil ⟨rfl, _, _, _, rfl, rfl, Le.refl _, rfl, hst⟩
                  refine opsS_cons ?_ ?_
                  ·
                    intro f w_ H25 X25 hS25 hE25 hP25 hst
                    refine L_pass (g_no rfl (Eq.trans (hP25 5 23 rfl rfl) (congrArg Value.bool hc29)) rfl rfl) ?_
                    exact L_nil ⟨rfl, _, _, _, rfl, rfl, Le.refl _, rfl, hst⟩
                  exact opsS_nil
                ·
                  refine L_pass (g_no rfl (Eq.trans (hT25 5 23 rfl rfl) (congrArg Value.bool hc29)) rfl rfl) ?_
                  refine L_pick (v := .bool b24) rfl (Eq.trans (hT25 5 23 rfl rfl) (congrArg Value.bool hc29)) (congrArg Value.bool (so hb24)) ?_
                  refine L_nil ?_
                  show R28 _ _
                  rw [hR28]
                  exact ⟨H25, hE25, ((hS25 1 rfl).trans sf1), ((hS25 2 rfl).trans sf2), ((hS25 5 rfl).trans sf5), rfl, hst⟩
              ·
                rw [ite_f hc29] at hb24
                obtain ⟨x19, hx19, hb24⟩ := bind_some hb24
                refine W_drawS 15 [isV (v1), isV (.int .i64 (i_6 : Int)), isEl RP.int x_9 0, isV (.int .i64 x_9), isV (.bool (decide (x_9 < 0))), isV (.bool (decide (x_9 < 0))), isV (v1), isV (.int .i64 (i_6 : Int)), isEl RP.int x_9 0, isV (.int .i64 x_9), isV (.pointer (some ⟨g3, 0, none⟩)), isV (v0_0), isV (.int .i64 (i_6 : Int)), isEl RP.int x19 0, isV (.int .i64 x19)] [box g3 26 #[v0_0, v0_1]] [] ([]) [([], []), ([], []), ([], []), ([], []), ([], []), ([], []), ([], []), ([], []), ([], []), ([], []), ([], []), ([], []), ([], []), ([], []), ([], [])] (S := []) Try_mix (by kernel_rfl) rfl (by kernel_rfl) (amF_cons (mono_V _) (amF_cons (mono_V _) (amF_cons (mono_el _ _ _) (amF_cons (mono_V _) (amF_cons (mono_V _) (amF_cons (mono_V _) (amF_cons (mono_V _) (amF_cons (mono_V _) (amF_cons (mono_el _ _ _) (amF_cons (mono_V _) (amF_cons (mono_V _) (amF_cons (mono_V _) (amF_cons (mono_V _) (amF_cons (mono_el _ _ _) (amF_cons (mono_V _) amF_nil))))))))))))))) hst ?_ (fun f w_ H25 hS25 hE25 hT25 hst => ?_)
                ·
                  refine opsS_cons ?_ ?_
                  ·
                    intro f w_ H25 X25 hS25 hE25 hP25 hst
                    refine L_mv (v := v1) rfl ((hS25 1 rfl).trans sf1) ?_
                    exact L_nil ⟨rfl, _, _, _, rfl, rfl, Le.refl _, rfl, hst⟩
                  refine opsS_cons ?_ ?_
                  ·
                    intro f w_ H25 X25 hS25 hE25 hP25 hst
                    refine L_mv (v := .int .i64 (i_6 : Int)) rfl ((hS25 5 rfl).trans sf5) ?_
                    exact L_nil ⟨rfl, _, _, _, rfl, rfl, Le.refl _, rfl, hst⟩
                  refine opsS_cons ?_ ?_
                  ·
                    intro f w_ H25 X25 hS25 hE25 hP25 hst
                    refine L_ix (r := RP.int) rfl Try.underlying23 Try.sizeOf3 (hP25 0 18 rfl rfl) (RP.mono _ h1 (Le.trans hle8 hE25)) (hP25 1 19 rfl rfl) hix9 ?_
                    intro g52 o53 cs_g52 hrk_hat54 hat54
                    obtain rfl : _ = [_] := hrk_hat54
                    exact L_nil ⟨rfl, _, _, _, rfl, rfl, Le.refl _, ⟨_, _, _, rfl, rfl, hat54⟩, hst⟩
                  refine opsS_cons ?_ ?_
                  ·
                    intro f w_ H25 X25 hS25 hE25 hP25 hst
                    obtain ⟨g56, o56, cs56, hv56, hrk_hat56, hat56⟩ := (hP25 2 20 rfl rfl)
                    obtain rfl : _ = [_] := hrk_hat56
                    refine L_ld (v := .int .i64 x_9) rfl Try.isAgg3 hv56 (At.cell (AtH.at hat56 hst.sub) (j := 0) rfl) ?_
                    exact L_nil ⟨rfl, _, _, _, rfl, rfl, Le.refl _, rfl, hst⟩
                  refine opsS_cons ?_ ?_
                  ·
                    intro f w_ H25 X25 hS25 hE25 hP25 hst
                    refine L_lss (m := x_9) (n := 0) rfl (hP25 3 21 rfl rfl) rfl ?_
                    exact L_nil ⟨rfl, _, _, _, rfl, rfl, Le.refl _, rfl, hst⟩
                  refine opsS_cons ?_ ?_
                  ·
                    intro f w_ H25 X25 hS25 hE25 hP25 hst
                    refine L_mv (v := .bool (decide (x_9 < 0))) rfl (hP25 4 22 rfl rfl) ?_
                    exact L_nil ⟨rfl, _, _, _, rfl, rfl, Le.refl _, rfl, hst⟩
                  refine opsS_cons ?_ ?_
                  ·
                    intro f w_ H25 X25 hS25 hE25 hP25 hst
                    refine L_mv (v := v1) (g_yes rfl (Eq.trans (hP25 5 23 rfl rfl) (congrArg Value.bool hc29)) rfl) ((hS25 1 rfl).trans sf1) ?_
                    exact L_nil ⟨rfl, _, _, _, rfl, rfl, Le.refl _, rfl, hst⟩
                  refine opsS_cons ?_ ?_
                  ·
                    intro f w_ H25 X25 hS25 hE25 hP25 hst
                    refine L_mv (v := .int .i64 (i_6 : Int)) (g_yes rfl (Eq.trans (hP25 5 23 rfl rfl) (congrArg Value.bool hc29)) rfl) ((hS25 5 rfl).trans sf5) ?_
                    exact L_nil ⟨rfl, _, _, _, rfl, rfl, Le.refl _, rfl, hst⟩
                  refine opsS_cons ?_ ?_
                  ·
                    intro f w_ H25 X25 hS25 hE25 hP25 hst
                    refine L_ix (r := RP.int) (g_yes rfl (Eq.trans (hP25 5 23 rfl rfl) (congrArg Value.bool hc29)) rfl) Try.underlying23 Try.sizeOf3 (hP25 6 24 rfl rfl) (RP.mono _ h1 (Le.trans hle8 hE25)) (hP25 7 25 rfl rfl) hix9 ?_
                    intro g58 o59 cs_g58 hrk_hat60 hat60
                    obtain rfl : _ = [_] := hrk_hat60
                    exact L_nil ⟨rfl, _, _, _, rfl, rfl, Le.refl _, ⟨_, _, _, rfl, rfl, hat60⟩, hst⟩
                  refine opsS_cons ?_ ?_
                  ·
                    intro f w_ H25 X25 hS25 hE25 hP25 hst
                    obtain ⟨g62, o62, cs62, hv62, hrk_hat62, hat62⟩ := (hP25 8 26 rfl rfl)
                    obtain rfl : _ = [_] := hrk_hat62
                    refine L_ld (v := .int .i64 x_9) (g_yes rfl (Eq.trans (hP25 5 23 rfl rfl) (congrArg Value.bool hc29)) rfl) Try.isAgg3 hv62 (At.cell (AtH.at hat62 hst.sub) (j := 0) rfl) ?_
                    exact L_nil ⟨rfl, _, _, _, rfl, rfl, Le.refl _, rfl, hst⟩
                  refine opsS_cons ?_ ?_
                  ·
                    intro f w_ H25 X25 hS25 hE25 hP25 hst
                    refine L_fa (o' := 0) (g_yes rfl (Eq.trans (hP25 5 23 rfl rfl) (congrArg Value.bool hc29)) rfl) fa_26_0 ((hS25 2 rfl).trans sf2) rfl ?_
                    exact L_nil ⟨rfl, _, _, _, rfl, rfl, Le.refl _, rfl, hst⟩
                  refine opsS_cons ?_ ?_
                  ·
                    intro f w_ H25 X25 hS25 hE25 hP25 hst
                    refine L_ld (v := v0_0) (g_yes rfl (Eq.trans (hP25 5 23 rfl rfl) (congrArg Value.bool hc29)) rfl) Try.isAgg23 (hP25 10 28 rfl rfl) (At.cell0 (Blk.at (Star.blkAt 0 hst rfl)) (j := 0) rfl) ?_
                    exact L_nil ⟨rfl, _, _, _, rfl, rfl, Le.refl _, rfl, hst⟩
                  refine opsS_cons ?_ ?_
                  ·
                    intro f w_ H25 X25 hS25 hE25 hP25 hst
                    refine L_mv (v := .int .i64 (i_6 : Int)) (g_yes rfl (Eq.trans (hP25 5 23 rfl rfl) (congrArg Value.bool hc29)) rfl) ((hS25 5 rfl).trans sf5) ?_
                    exact L_nil ⟨rfl, _, _, _, rfl, rfl, Le.refl _, rfl, hst⟩
                  refine opsS_cons ?_ ?_
                  ·
                    intro f w_ H25 X25 hS25 hE25 hP25 hst
                    refine L_ix (r := RP.int) (g_yes rfl (Eq.trans (hP25 5 23 rfl rfl) (congrArg Value.bool hc29)) rfl) Try.underlying23 Try.sizeOf3 (hP25 11 29 rfl rfl) (RP.mono _ h0_0 (Le.trans hle8 hE25)) (hP25 12 30 rfl rfl) hx19 ?_
                    intro g64 o65 cs_g64 hrk_hat66 hat66
                    obtain rfl : _ = [_] := hrk_hat66
                    exact L_nil ⟨rfl, _, _, _, rfl, rfl, Le.refl _, ⟨_, _, _, rfl, rfl, hat66⟩, hst⟩
                  refine opsS_cons ?_ ?_
                  ·
                    intro f w_ H25 X25 hS25 hE25 hP25 hst
                    obtain ⟨g68, o68, cs68, hv68, hrk_hat68, hat68⟩ := (hP25 13 31 rfl rfl)
                    obtain rfl : _ = [_] := hrk_hat68
                    refine L_ld (v := .int .i64 x19) (g_yes rfl (Eq.trans (hP25 5 23 rfl rfl) (congrArg Value.bool hc29)) rfl) Try.isAgg3 hv68 (At.cell (AtH.at hat68 hst.sub) (j := 0) rfl) ?_
                    exact L_nil ⟨rfl, _, _, _, rfl, rfl, Le.refl _, rfl, hst⟩
                  exact opsS_nil
                ·
                  refine L_gtr (m := x_9) (n := x19) (g_yes rfl (Eq.trans (hT25 5 23 rfl rfl) (congrArg Value.bool hc29)) rfl) (hT25 9 27 rfl rfl) (hT25 14 32 rfl rfl) ?_
                  refine L_pick (v := .bool b24) rfl (Eq.trans (hT25 5 23 rfl rfl) (congrArg Value.bool hc29)) (congrArg Value.bool (so hb24)) ?_
                  refine L_nil ?_
                  show R28 _ _
                  rw [hR28]
                  exact ⟨H25, hE25, ((hS25 1 rfl).trans sf1), ((hS25 2 rfl).trans sf2), ((hS25 5 rfl).trans sf5), rfl, hst⟩
            ·
              intro f w_ hR
              rw [hR28] at hR
              obtain ⟨H26, hle27, sf1, sf2, sf5, sf34, hst⟩ := hR
              clear hR28
              refine W_cond (b := b24) sf34 (fun hc70 => ?_) (fun hc70 => ?_)
              ·
                have hB9 := (ite_t hc70).symm.trans hB9
                refine W_seq ?_
                refine W_region ?_
                refine L_as (v := .bool false) rfl rfl ?_
                refine L_nil ?_
                refine W_ret ?_
                refine retG1 (v1 := .bool false) Try.results61 rfl ?_
                obtain rfl := so hB9
                obtain rfl := so hL9
                obtain rfl := so hF
                exact ⟨rfl, (Star.down (Star.keepN 0 hst) (Le.trans hle8 hle27) closedL_nil)⟩
              ·
                have hB9 := (ite_f hc70).symm.trans hB9
                refine W_skip ?_
                refine W_region ?_
                refine L_mv (v := .int .i64 (i_6 : Int)) rfl sf5 ?_
                refine L_add (m := (i_6 : Int)) (n := 1) rfl rfl rfl ?_
                refine L_as (v := .int .i64 (i64 ((i_6 : Int) + 1))) rfl rfl ?_
                refine L_nil ?_
                obtain rfl := so hB9
                show ∃ m, m < _ ∧ I9 m _ _
                refine ⟨rest9.length, by simp, ?_⟩
                rw [hI9]
                exact ⟨i_6 + 1, rest9, H26, rfl, drop_next hd9, by simp at hl9; omega, hL9, (Le.trans hle8 hle27), sf1, sf2, (Eq.trans rfl (congrArg (Value.int .i64) (i64_succ (n := cells.length) (by simp at hl9; omega) hlen9))), hst⟩
        ·
          cases suf9 with
          | cons _ _ => exact absurd (of_decide_eq_false hc10) (by simp at hl9; omega)
          | nil =>
            obtain rfl := range_nil hL9
            refine W_exit ?_
            show R9 _ _
            rw [hR9]
            exact ⟨H7, rfl, hle8, (Star.keepN 0 hst)⟩
    ·
      clear hst
      intro f w_ hR
      rw [hR9] at hR
      obtain ⟨H7, rfl, hle8, hst⟩ := hR
      clear hR9
      refine W_seq ?_
      refine W_region ?_
      refine L_as (v := .bool true) rfl rfl ?_
      refine L_nil ?_
      refine W_ret ?_
      refine retG1 (v1 := .bool true) Try.results61 rfl ?_
      obtain rfl := so hF
      exact ⟨rfl, (Star.down hst hle8 closedL_nil)⟩

theorem s_CellsValid_c {fu : Nat} {m : Model} {cells : List Int} {v0_0 : Value} {v0_1 : Value} {v1 : Value} {H : FH} {w : World} (hst : Star H w []) (h0_0 : (RP.slice 3 RP.int).rel H [v0_0] m.sizes) (h0_1 : (RP.slice 36 (rRule 3 23)).rel H [v0_1] m.rules) (h1 : (RP.slice 3 RP.int).rel H [v1] cells) {r : Bool} (hF : s_CellsValid fu m cells = some r) :
    C Try.prog 24 #[.agg #[v0_0, v0_1], v1] w fun v w' => v = .bool r ∧ Star H w' [] := by
  unfold s_CellsValid at hF
  refine C_enter Try.func24 rfl Try.ntmps24 rfl ?_
  refine W_seq ?_
  refine W_region ?_
  refine L_box (v := .agg #[v0_0, v0_1]) (cs := #[v0_0, v0_1]) rfl rfl rfl hst ?_
  intro g3 w4 hst
  refine L_as (v := .bool false) rfl rfl ?_
  refine L_nil ?_
  refine W_seq ?_
  obtain ⟨x10, hx10, hF⟩ := bind_some hF
  obtain ⟨b19, hb19, hF⟩ := bind_some hF
  obtain ⟨R20, hR20⟩ : ∃ RR_ : Fr → World → Prop, RR_ = fun f w_ => f 4 = .bool b19 ∧ Star H w_ ([]) := ⟨_, rfl⟩
  refine W_join R20 ?_ ?_
  ·
    refine W_region ?_
    refine L_lda (cs := [v0_0, v0_1]) rfl Try.isAgg26 Try.sizeOf26 rfl (At.sub0 (Blk.at (Star.blkAt 0 hst rfl)) 0 2) rfl ?_
    obtain ⟨Hb21, hle22, hsb23, hfz24, hbk25⟩ := Star.borrow hst
    refine L_call (args := #[.agg #[v0_0, v0_1]]) rfl Try.call52 (ops1 rfl) (s_ModelValid_c (m := m) hsb23 (RP.mono _ h0_0 hle22) (RP.mono _ h0_1 hle22) hx10) ?_
    rintro _ w26 ⟨rfl, hst⟩
    have hst := hbk25 hst closedL_nil
    refine L_mv (v := .bool x10) rfl rfl ?_
    refine L_split (d := 7) (b := x10) rfl (fun hc27 => ?_) (fun hc27 => ?_)
    ·
      rw [ite_t hc27] at hb19
      obtain ⟨x17, hx17, hb19⟩ := bind_some hb19
      refine L_lda (cs := [v0_0, v0_1]) rfl Try.isAgg26 Try.sizeOf26 rfl (At.sub0 (Blk.at (Star.blkAt 0 hst rfl)) 0 2) rfl ?_
      refine L_mv (v := v1) rfl rfl ?_
      obtain ⟨Hb28, hle29, hsb30, hfz31, hbk32⟩ := Star.borrow hst
      refine L_call (args := #[.agg #[v0_0, v0_1], v1]) rfl Try.call61 (ops2 rfl rfl) (s_l6Cells_c (m := m) (cells := cells) hsb30 (RP.mono _ h0_0 hle29) (RP.mono _ h0_1 hle29) (RP.mono _ h1 hle29) hx17) ?_
      rintro _ w33 ⟨rfl, hst⟩
      have hst := hbk32 hst closedL_nil
      refine L_pick (v := .bool b19) rfl rfl (congrArg Value.bool (so hb19)) ?_
      refine L_as (v := .bool b19) rfl rfl ?_
      refine L_nil ?_
      show R20 _ _
      rw [hR20]
      exact ⟨rfl, (Star.keepN 0 hst)⟩
    ·
      rw [ite_f hc27] at hb19
      refine L_pass rfl ?_
      refine L_pass rfl ?_
      refine L_pass rfl ?_
      refine L_pick (v := .bool b19) rfl rfl (congrArg Value.bool (so hb19)) ?_
      refine L_as (v := .bool b19) rfl rfl ?_
      refine L_nil ?_
      show R20 _ _
      rw [hR20]
      exact ⟨rfl, (Star.keepN 0 hst)⟩
  ·
    intro f w_ hR
    rw [hR20] at hR
    obtain ⟨sf4, hst⟩ := hR
    clear hR20
    refine W_ret ?_
    refine retG1 (v1 := .bool b19) Try.results24 sf4 ?_
    obtain rfl := so hF
    exact ⟨rfl, hst⟩

theorem s_l6Ints_c {a : List Int} {b : List Int} {v0 : Value} {v1 : Value} {H : FH} {w : World} (hst : Star H w []) (h0 : (RP.slice 3 RP.int).rel H [v0] a) (h1 : (RP.slice 3 RP.int).rel H [v1] b) {r : Bool} (hF : s_l6Ints a b = some r) :
    C Try.prog 84 #[v0, v1] w fun v w' => v = .bool r ∧ Star H w' [] := by
  unfold s_l6Ints at hF
  refine C_enter Try.func84 rfl Try.ntmps84 rfl ?_
  refine W_seq ?_
  refine W_region ?_
  refine L_as (v := .bool false) rfl rfl ?_
  refine L_nil ?_
  refine W_seq ?_
  refine W_seq ?_
  refine W_region ?_
  refine L_mv (v := v0) rfl rfl ?_
  refine L_len (v := v0) (n := List.length a) rfl Try.underlying23 rfl (slice_len h0) ?_
  refine L_mv (v := v1) rfl rfl ?_
  refine L_len (v := v1) (n := List.length b) rfl Try.underlying23 rfl (slice_len h1) ?_
  refine L_neq (m := (a.length : Int)) (n := (b.length : Int)) rfl rfl rfl ?_
  refine L_nil ?_
  refine W_cond (b := ((a.length : Int) != (b.length : Int))) rfl (fun hc1 => ?_) (fun hc1 => ?_)
  ·
    have hF := (ite_t hc1).symm.trans hF
    refine W_seq ?_
    refine W_region ?_
    refine L_as (v := .bool false) rfl rfl ?_
    refine L_nil ?_
    refine W_ret ?_
    refine retG1 (v1 := .bool false) Try.results84 rfl ?_
    obtain rfl := so hF
    exact ⟨rfl, hst⟩
  ·
    have hF := (ite_f hc1).symm.trans hF
    refine W_skip ?_
    refine W_seq ?_
    refine W_seq ?_
    refine W_region ?_
    refine L_as (v := .int .i64 0) rfl rfl ?_
    refine L_nil ?_
    have hlen5 : List.length a ≤ 9223372036854775807 := len_le (slice_len h0)
    obtain ⟨j5, hL5, hF⟩ := bind_some hF
    obtain ⟨R5, hR5⟩ : ∃ RR_ : Fr → World → Prop, RR_ = fun f w_ => ∃ H3 : FH, j5 = .nx () ∧ Le H H3 ∧ Star H3 w_ ([]) := ⟨_, rfl⟩
    refine W_join R5 ?_ ?_
    ·
      refine W_block ?_
      obtain ⟨I5, hI5⟩ : ∃ I : Nat → Fr → World → Prop, I = fun n f w_ => ∃ i_2 : Nat, ∃ suf5 : List Int, ∃ H3 : FH, n = suf5.length ∧ List.drop i_2 a = suf5 ∧ i_2 + suf5.length = a.length ∧ rangeL (s_l6Ints_b1 b) suf5 i_2 () = some j5 ∧ Le H H3 ∧ f 0 = v0 ∧ f 1 = v1 ∧ f 5 = .int .i64 (i_2 : Int) ∧ Star H3 w_ ([]) := ⟨_, rfl⟩
      refine W_loop I5 (n := a.length) ?_ ?_
      · rw [hI5]; exact ⟨0, a, H, rfl, rfl, Nat.zero_add _, hL5, (Le.refl _), rfl, rfl, rfl, hst⟩
      ·
        clear hst
        intro n5 f w_ hI
        rw [hI5] at hI
        obtain ⟨i_2, suf5, H3, rfl, hd5, hl5, hL5, hle4, sf0, sf1, sf5, hst⟩ := hI
        refine W_seq ?_
        refine W_seq ?_
        refine W_region ?_
        refine L_mv (v := .int .i64 (i_2 : Int)) rfl sf5 ?_
        refine L_mv (v := v0) rfl sf0 ?_
        refine L_len (v := v0) (n := List.length a) rfl Try.underlying23 rfl (slice_len (RP.mono _ h0 hle4)) ?_
        refine L_lss (m := (i_2 : Int)) (n := (a.length : Int)) rfl rfl rfl ?_
        refine L_nil ?_
        refine W_cond (b := decide ((i_2 : Int) < (a.length : Int))) rfl (fun hc6 => ?_) (fun hc6 => ?_)
        ·
          have hlt5 := of_decide_eq_true hc6
          cases suf5 with
          | nil => exact absurd hlt5 (by simp at hl5; omega)
          | cons x_5 rest5 =>
            obtain ⟨o5, hB5, hL5⟩ := range_cons hL5
            rw [s_l6Ints_b1] at hB5
            have hix5 := drop_idx hd5
            refine W_skip ?_
            refine W_seq ?_
            refine W_block ?_
            refine W_seq ?_
            obtain ⟨x11, hx11, hB5⟩ := bind_some hB5
            refine W_drawS 8 [isV (v0), isV (.int .i64 (i_2 : Int)), isEl RP.int x_5 0, isV (.int .i64 x_5), isV (v1), isV (.int .i64 (i_2 : Int)), isEl RP.int x11 0, isV (.int .i64 x11)] [] [] ([]) [([], []), ([], []), ([], []), ([], []), ([], []), ([], []), ([], []), ([], [])] (S := []) Try_mix (by kernel_rfl) rfl (by kernel_rfl) (amF_cons (mono_V _) (amF_cons (mono_V _) (amF_cons (mono_el _ _ _) (amF_cons (mono_V _) (amF_cons (mono_V _) (amF_cons (mono_V _) (amF_cons (mono_el _ _ _) (amF_cons (mono_V _) amF_nil)))))))) hst ?_ (fun f w_ H16 hS16 hE16 hT16 hst => ?_)
            ·
              refine opsS_cons ?_ ?_
              ·
                intro f w_ H16 X16 hS16 hE16 hP16 hst
                refine L_mv (v := v0) rfl ((hS16 0 rfl).trans sf0) ?_
                exact L_nil ⟨rfl, _, _, _, rfl, rfl, Le.refl _, rfl, hst⟩
              refine opsS_cons ?_ ?_
              ·
                intro f w_ H16 X16 hS16 hE16 hP16 hst
                refine L_mv (v := .int .i64 (i_2 : Int)) rfl ((hS16 5 rfl).trans sf5) ?_
                exact L_nil ⟨rfl, _, _, _, rfl, rfl, Le.refl _, rfl, hst⟩
              refine opsS_cons ?_ ?_
              ·
                intro f w_ H16 X16 hS16 hE16 hP16 hst
                refine L_ix (r := RP.int) rfl Try.underlying23 Try.sizeOf3 (hP16 0 17 rfl rfl) (RP.mono _ h0 (Le.trans hle4 hE16)) (hP16 1 18 rfl rfl) hix5 ?_
                intro g25 o26 cs_g25 hrk_hat27 hat27
                obtain rfl : _ = [_] := hrk_hat27
                exact L_nil ⟨rfl, _, _, _, rfl, rfl, Le.refl _, ⟨_, _, _, rfl, rfl, hat27⟩, hst⟩
              refine opsS_cons ?_ ?_
              ·
                intro f w_ H16 X16 hS16 hE16 hP16 hst
                obtain ⟨g29, o29, cs29, hv29, hrk_hat29, hat29⟩ := (hP16 2 19 rfl rfl)
                obtain rfl : _ = [_] := hrk_hat29
                refine L_ld (v := .int .i64 x_5) rfl Try.isAgg3 hv29 (At.cell (AtH.at hat29 hst.sub) (j := 0) rfl) ?_
                exact L_nil ⟨rfl, _, _, _, rfl, rfl, Le.refl _, rfl, hst⟩
              refine opsS_cons ?_ ?_
              ·
                intro f w_ H16 X16 hS16 hE16 hP16 hst
                refine L_mv (v := v1) rfl ((hS16 1 rfl).trans sf1) ?_
                exact L_nil ⟨rfl, _, _, _, rfl, rfl, Le.refl _, rfl, hst⟩
              refine opsS_cons ?_ ?_
              ·
                intro f w_ H16 X16 hS16 hE16 hP16 hst
                refine L_mv (v := .int .i64 (i_2 : Int)) rfl ((hS16 5 rfl).trans sf5) ?_
                exact L_nil ⟨rfl, _, _, _, rfl, rfl, Le.refl _, rfl, hst⟩
              refine opsS_cons ?_ ?_
              ·
                intro f w_ H16 X16 hS16 hE16 hP16 hst
                refine L_ix (r := RP.int) rfl Try.underlying23 Try.sizeOf3 (hP16 4 21 rfl rfl) (RP.mono _ h1 (Le.trans hle4 hE16)) (hP16 5 22 rfl rfl) hx11 ?_
                intro g31 o32 cs_g31 hrk_hat33 hat33
                obtain rfl : _ = [_] := hrk_hat33
                exact L_nil ⟨rfl, _, _, _, rfl, rfl, Le.refl _, ⟨_, _, _, rfl, rfl, hat33⟩, hst⟩
              refine opsS_cons ?_ ?_
              ·
                intro f w_ H16 X16 hS16 hE16 hP16 hst
                obtain ⟨g35, o35, cs35, hv35, hrk_hat35, hat35⟩ := (hP16 6 23 rfl rfl)
                obtain rfl : _ = [_] := hrk_hat35
                refine L_ld (v := .int .i64 x11) rfl Try.isAgg3 hv35 (At.cell (AtH.at hat35 hst.sub) (j := 0) rfl) ?_
                exact L_nil ⟨rfl, _, _, _, rfl, rfl, Le.refl _, rfl, hst⟩
              exact opsS_nil
            ·
              refine L_neq (m := x_5) (n := x11) rfl (hT16 3 20 rfl rfl) (hT16 7 24 rfl rfl) ?_
              refine L_nil ?_
              refine W_cond (b := (x_5 != x11)) rfl (fun hc37 => ?_) (fun hc37 => ?_)
              ·
                have hB5 := (ite_t hc37).symm.trans hB5
                refine W_seq ?_
                refine W_region ?_
                refine L_as (v := .bool false) rfl rfl ?_
                refine L_nil ?_
                refine W_ret ?_
                refine retG1 (v1 := .bool false) Try.results84 rfl ?_
                obtain rfl := so hB5
                obtain rfl := so hL5
                obtain rfl := so hF
                exact ⟨rfl, (Star.down hst (Le.trans hle4 hE16) closedL_nil)⟩
              ·
                have hB5 := (ite_f hc37).symm.trans hB5
                refine W_skip ?_
                refine W_region ?_
                refine L_mv (v := .int .i64 (i_2 : Int)) rfl ((hS16 5 rfl).trans sf5) ?_
                refine L_add (m := (i_2 : Int)) (n := 1) rfl rfl rfl ?_
                refine L_as (v := .int .i64 (i64 ((i_2 : Int) + 1))) rfl rfl ?_
                refine L_nil ?_
                obtain rfl := so hB5
                show ∃ m, m < _ ∧ I5 m _ _
                refine ⟨rest5.length, by simp, ?_⟩
                rw [hI5]
                exact ⟨i_2 + 1, rest5, H16, rfl, drop_next hd5, by simp at hl5; omega, hL5, (Le.trans hle4 hE16), ((hS16 0 rfl).trans sf0), ((hS16 1 rfl).trans sf1), (Eq.trans rfl (congrArg (Value.int .i64) (i64_succ (n := a.length) (by simp at hl5; omega) hlen5))), hst⟩
        ·
          cases suf5 with
          | cons _ _ => exact absurd (of_decide_eq_false hc6) (by simp at hl5; omega)
          | nil =>
            obtain rfl := range_nil hL5
            refine W_exit ?_
            show R5 _ _
            rw [hR5]
            exact ⟨H3, rfl, hle4, hst⟩
    ·
      clear hst
      intro f w_ hR
      rw [hR5] at hR
      obtain ⟨H3, rfl, hle4, hst⟩ := hR
      clear hR5
      refine W_seq ?_
      refine W_region ?_
      refine L_as (v := .bool true) rfl rfl ?_
      refine L_nil ?_
      refine W_ret ?_
      refine retG1 (v1 := .bool true) Try.results84 rfl ?_
      obtain rfl := so hF
      exact ⟨rfl, (Star.down hst hle4 closedL_nil)⟩

theorem s_l6Holds_c {r_ : Rule} {cells : List Int} {v0_1 : Value} {v0_2 : Value} {v0_4 : Value} {v1 : Value} {H : FH} {w : World} (hst : Star H w []) (h0_1 : (RP.slice 3 RP.int).rel H [v0_1] r_.vars) (h0_2 : (RP.slice 3 RP.int).rel H [v0_2] r_.coefs) (h0_4 : (RP.slice 23 (RP.slice 3 RP.int)).rel H [v0_4] r_.rows) (h1 : (RP.slice 3 RP.int).rel H [v1] cells) {r : Bool} (hF : s_l6Holds r_ cells = some r) :
    C Try.prog 57 #[.agg #[.int .i64 r_.kind, v0_1, v0_2, .int .i64 r_.bound, v0_4], v1] w fun v w' => v = .bool r ∧ Star H w' [] := by
  unfold s_l6Holds at hF
  refine C_enter Try.func57 rfl Try.ntmps57 rfl ?_
  refine W_seq ?_
  refine W_region ?_
  refine L_box (v := .agg #[.int .i64 r_.kind, v0_1, v0_2, .int .i64 r_.bound, v0_4]) (cs := #[.int .i64 r_.kind, v0_1, v0_2, .int .i64 r_.bound, v0_4]) rfl rfl rfl hst ?_
  intro g3 w4 hst
  refine L_as (v := .bool false) rfl rfl ?_
  refine L_nil ?_
  refine W_seq ?_
  refine W_region ?_
  refine L_bs rfl parts0 (bs_23_0  ) hst ?_
  intro g8 w9 hst
  have hst := Star.mkRow (R := (OR.frz RP.int)) [] [] 0 hst rfl rfl rfl (by decide)
  refine L_as (v := (.slice (some ⟨g8, 0, none⟩) 0 0)) rfl rfl ?_
  refine L_nil ?_
  refine W_seq ?_
  refine W_seq ?_
  refine W_region ?_
  refine L_as (v := .int .i64 0) rfl rfl ?_
  refine L_nil ?_
  have hlen14 : List.length r_.vars ≤ 9223372036854775807 := len_le (slice_len h0_1)
  obtain ⟨j14, hL14, hF⟩ := bind_some hF
  obtain ⟨R14, hR14⟩ : ∃ RR_ : Fr → World → Prop, RR_ = fun f w_ => ∃ list_12 : List Int, ∃ v12_list : Value, j14 = .nx list_12 ∧ f 2 = .pointer (some ⟨g3, 0, none⟩) ∧ f 5 = v12_list ∧ Star H w_ ([own (OR.ownS 3 (OR.frz RP.int)) [v12_list] list_12, box g3 36 #[.int .i64 r_.kind, v0_1, v0_2, .int .i64 r_.bound, v0_4]]) := ⟨_, rfl⟩
  refine W_join R14 ?_ ?_
  ·
    refine W_block ?_
    obtain ⟨I14, hI14⟩ : ∃ I : Nat → Fr → World → Prop, I = fun n f w_ => ∃ i_11 : Nat, ∃ suf14 : List Int, ∃ list_12 : List Int, ∃ v12_list : Value, n = suf14.length ∧ List.drop i_11 r_.vars = suf14 ∧ i_11 + suf14.length = r_.vars.length ∧ rangeL (s_l6Holds_b1 cells) suf14 i_11 list_12 = some j14 ∧ f 1 = v1 ∧ f 2 = .pointer (some ⟨g3, 0, none⟩) ∧ f 5 = v12_list ∧ f 6 = .int .i64 (i_11 : Int) ∧ Star H w_ ([own (OR.ownS 3 (OR.frz RP.int)) [v12_list] list_12, box g3 36 #[.int .i64 r_.kind, v0_1, v0_2, .int .i64 r_.bound, v0_4]]) := ⟨_, rfl⟩
    refine W_loop I14 (n := r_.vars.length) ?_ ?_
    · rw [hI14]; exact ⟨0, r_.vars, [], (.slice (some ⟨g8, 0, none⟩) 0 0), rfl, rfl, Nat.zero_add _, hL14, rfl, rfl, rfl, rfl, hst⟩
    ·
      clear hst
      intro n14 f w_ hI
      rw [hI14] at hI
      obtain ⟨i_11, suf14, list_12, v12_list, rfl, hd14, hl14, hL14, sf1, sf2, sf5, sf6, hst⟩ := hI
      refine W_seq ?_
      refine W_seq ?_
      refine W_region ?_
      refine L_mv (v := .int .i64 (i_11 : Int)) rfl sf6 ?_
      refine L_fa (o' := 1) rfl fa_36_1 sf2 rfl ?_
      refine L_ld (v := v0_1) rfl Try.isAgg23 rfl (At.cell0 (Blk.at (Star.blkAt 1 hst rfl)) (j := 1) rfl) ?_
      refine L_len (v := v0_1) (n := List.length r_.vars) rfl Try.underlying23 rfl (slice_len h0_1) ?_
      refine L_lss (m := (i_11 : Int)) (n := (r_.vars.length : Int)) rfl rfl rfl ?_
      refine L_nil ?_
      refine W_cond (b := decide ((i_11 : Int) < (r_.vars.length : Int))) rfl (fun hc15 => ?_) (fun hc15 => ?_)
      ·
        have hlt14 := of_decide_eq_true hc15
        cases suf14 with
        | nil => exact absurd hlt14 (by simp at hl14; omega)
        | cons x_14 rest14 =>
          obtain ⟨o14, hB14, hL14⟩ := range_cons hL14
          rw [s_l6Holds_b1] at hB14
          have hix14 := drop_idx hd14
          refine W_skip ?_
          refine W_seq ?_
          refine W_block ?_
          obtain ⟨x20, hx20, hB14⟩ := bind_some hB14
          obtain ⟨x28, hx28, hB14⟩ := bind_some hB14
          refine W_region ?_
          refine L_mv (v := v12_list) rfl sf5 ?_
          refine L_mv (v := v1) rfl sf1 ?_
          refine L_fa (o' := 1) rfl fa_36_1 sf2 rfl ?_
          refine L_ld (v := v0_1) rfl Try.isAgg23 rfl (At.cell0 (Blk.at (Star.blkAt 1 hst rfl)) (j := 1) rfl) ?_
          refine L_mv (v := .int .i64 (i_11 : Int)) rfl sf6 ?_
          refine L_ix (r := RP.int) rfl Try.underlying23 Try.sizeOf3 rfl h0_1 rfl hix14 ?_
          intro g32 o33 cs_g32 hrk_hat34 hat34
          obtain rfl : _ = [_] := hrk_hat34
          refine L_ld (v := .int .i64 x_14) rfl Try.isAgg3 rfl (At.cell (AtH.at hat34 hst.sub) (j := 0) rfl) ?_
          refine L_ix (r := RP.int) rfl Try.underlying23 Try.sizeOf3 rfl h1 rfl hx20 ?_
          intro g36 o37 cs_g36 hrk_hat38 hat38
          obtain rfl : _ = [_] := hrk_hat38
          refine L_ld (v := .int .i64 x20) rfl Try.isAgg3 rfl (At.cell (AtH.at hat38 hst.sub) (j := 0) rfl) ?_
          refine L_bs rfl (parts1 rfl) (bs_23_1_0 (.int .i64 x20) rfl) hst ?_
          intro g40 w41 hst
          have hst := Star.addF (r := RP.int) (cs := [.int .i64 x20]) (x := x20) hst rfl
          have hst := Star.mkRow (R := (OR.frz RP.int)) [([.int .i64 x20], x20)] [x20] 1 hst rfl rfl rfl (by decide)
          have hst := Star.get 1 hst rfl
          refine L_appM (v := v12_list) (u := (.slice (some ⟨g40, 0, none⟩) 1 1)) rfl et_23 rfl rfl hst hx28 ?_
          intro v43 w44 hst
          refine L_as (v := v43) rfl rfl ?_
          refine L_nil ?_
          refine W_region ?_
          refine L_mv (v := .int .i64 (i_11 : Int)) rfl sf6 ?_
          refine L_add (m := (i_11 : Int)) (n := 1) rfl rfl rfl ?_
          refine L_as (v := .int .i64 (i64 ((i_11 : Int) + 1))) rfl rfl ?_
          refine L_nil ?_
          obtain rfl := so hB14
          show ∃ m, m < _ ∧ I14 m _ _
          refine ⟨rest14.length, by simp, ?_⟩
          rw [hI14]
          exact ⟨i_11 + 1, rest14, x28, v43, rfl, drop_next hd14, by simp at hl14; omega, hL14, sf1, sf2, rfl, (Eq.trans rfl (congrArg (Value.int .i64) (i64_succ (n := r_.vars.length) (by simp at hl14; omega) hlen14))), hst⟩
      ·
        cases suf14 with
        | cons _ _ => exact absurd (of_decide_eq_false hc15) (by simp at hl14; omega)
        | nil =>
          obtain rfl := range_nil hL14
          refine W_exit ?_
          show R14 _ _
          rw [hR14]
          exact ⟨list_12, v12_list, rfl, sf2, sf5, hst⟩
  ·
    clear hst
    intro f w_ hR
    rw [hR14] at hR
    obtain ⟨list_12, v12_list, rfl, sf2, sf5, hst⟩ := hR
    clear hR14
    refine W_seq ?_
    refine W_seq ?_
    refine W_region ?_
    refine L_fa (o' := 0) rfl fa_36_0 sf2 rfl ?_
    refine L_ld (v := .int .i64 r_.kind) rfl Try.isAgg3 rfl (At.cell0 (Blk.at (Star.blkAt 1 hst rfl)) (j := 0) rfl) ?_
    refine L_nil ?_
    refine W_block ?_
    refine W_seq ?_
    refine W_region ?_
    refine L_eql (m := r_.kind) (n := 1) rfl rfl rfl ?_
    refine L_as (v := .bool (r_.kind == 1)) rfl rfl ?_
    refine L_nil ?_
    refine W_cond (b := (r_.kind == 1)) rfl (fun hc46 => ?_) (fun hc46 => ?_)
    ·
      have hF := (ite_t hc46).symm.trans hF
      refine W_seq ?_
      refine W_region ?_
      refine L_as (v := .int .i64 0) rfl rfl ?_
      refine L_nil ?_
      refine W_seq ?_
      refine W_seq ?_
      refine W_region ?_
      refine L_as (v := .int .i64 0) rfl rfl ?_
      refine L_nil ?_
      have hlen51 : List.length list_12 ≤ 9223372036854775807 := len_le (Star.len 0 hst rfl)
      obtain ⟨j51, hL51, hF⟩ := bind_some hF
      obtain ⟨R51, hR51⟩ : ∃ RR_ : Fr → World → Prop, RR_ = fun f w_ => ∃ n_48 : Int, ∃ H49 : FH, j51 = .nx n_48 ∧ Le H H49 ∧ f 2 = .pointer (some ⟨g3, 0, none⟩) ∧ f 7 = .int .i64 n_48 ∧ Star H49 w_ ([box g3 36 #[.int .i64 r_.kind, v0_1, v0_2, .int .i64 r_.bound, v0_4]]) := ⟨_, rfl⟩
      refine W_join R51 ?_ ?_
      ·
        refine W_block ?_
        obtain ⟨I51, hI51⟩ : ∃ I : Nat → Fr → World → Prop, I = fun n f w_ => ∃ i_47 : Nat, ∃ suf51 : List Int, ∃ n_48 : Int, ∃ H49 : FH, n = suf51.length ∧ List.drop i_47 list_12 = suf51 ∧ i_47 + suf51.length = list_12.length ∧ rangeL (s_l6Holds_b2 r_) suf51 i_47 n_48 = some j51 ∧ Le H H49 ∧ f 2 = .pointer (some ⟨g3, 0, none⟩) ∧ f 5 = v12_list ∧ f 7 = .int .i64 n_48 ∧ f 8 = .int .i64 (i_47 : Int) ∧ Star H49 w_ ([own (OR.ownS 3 (OR.frz RP.int)) [v12_list] list_12, box g3 36 #[.int .i64 r_.kind, v0_1, v0_2, .int .i64 r_.bound, v0_4]]) := ⟨_, rfl⟩
        refine W_loop I51 (n := list_12.length) ?_ ?_
        · rw [hI51]; exact ⟨0, list_12, 0, H, rfl, rfl, Nat.zero_add _, hL51, (Le.refl _), sf2, sf5, rfl, rfl, hst⟩
        ·
          clear hst
          intro n51 f w_ hI
          rw [hI51] at hI
          obtain ⟨i_47, suf51, n_48, H49, rfl, hd51, hl51, hL51, hle50, sf2, sf5, sf7, sf8, hst⟩ := hI
          refine W_seq ?_
          refine W_seq ?_
          refine W_region ?_
          refine L_mv (v := .int .i64 (i_47 : Int)) rfl sf8 ?_
          refine L_mv (v := v12_list) rfl sf5 ?_
          refine L_len (v := v12_list) (n := List.length list_12) rfl Try.underlying23 rfl (Star.len 0 hst rfl) ?_
          refine L_lss (m := (i_47 : Int)) (n := (list_12.length : Int)) rfl rfl rfl ?_
          refine L_nil ?_
          refine W_cond (b := decide ((i_47 : Int) < (list_12.length : Int))) rfl (fun hc52 => ?_) (fun hc52 => ?_)
          ·
            have hlt51 := of_decide_eq_true hc52
            cases suf51 with
            | nil => exact absurd hlt51 (by simp at hl51; omega)
            | cons x_51 rest51 =>
              obtain ⟨o51, hB51, hL51⟩ := range_cons hL51
              rw [s_l6Holds_b2] at hB51
              have hix51 := drop_idx hd51
              refine W_skip ?_
              refine W_seq ?_
              refine W_block ?_
              obtain ⟨x53, hx53, hB51⟩ := bind_some hB51
              obtain ⟨g67, cap_g67, hv68, _, _⟩ := Star.row 0 hst rfl hix51
              refine W_drawS 11 [isV (.int .i64 n_48), isV (.pointer (some ⟨g3, 2, none⟩)), isV (v0_2), isV (.int .i64 (i_47 : Int)), isEl RP.int x53 0, isV (.int .i64 x53), isV (v12_list), isV (.int .i64 (i_47 : Int)), isV (.pointer (some ⟨g67, Int.toNat (i_47 : Int) * 1, none⟩)), isV (.int .i64 x_51), isV (.int .i64 (i64 (x53 * x_51)))] [own (OR.ownS 3 (OR.frz RP.int)) [v12_list] list_12, box g3 36 #[.int .i64 r_.kind, v0_1, v0_2, .int .i64 r_.bound, v0_4]] [] ([]) [([], []), ([], []), ([], []), ([], []), ([], []), ([], []), ([], []), ([], []), ([], []), ([], []), ([], [])] (S := []) Try_mix (by kernel_rfl) rfl (by kernel_rfl) (amF_cons (mono_V _) (amF_cons (mono_V _) (amF_cons (mono_V _) (amF_cons (mono_V _) (amF_cons (mono_el _ _ _) (amF_cons (mono_V _) (amF_cons (mono_V _) (amF_cons (mono_V _) (amF_cons (mono_V _) (amF_cons (mono_V _) (amF_cons (mono_V _) amF_nil))))))))))) hst ?_ (fun f w_ H62 hS62 hE62 hT62 hst => ?_)
              ·
                refine opsS_cons ?_ ?_
                ·
                  intro f w_ H62 X62 hS62 hE62 hP62 hst
                  refine L_mv (v := .int .i64 n_48) rfl ((hS62 7 rfl).trans sf7) ?_
                  exact L_nil ⟨rfl, _, _, _, rfl, rfl, Le.refl _, rfl, hst⟩
                refine opsS_cons ?_ ?_
                ·
                  intro f w_ H62 X62 hS62 hE62 hP62 hst
                  refine L_fa (o' := 2) rfl fa_36_2 ((hS62 2 rfl).trans sf2) rfl ?_
                  exact L_nil ⟨rfl, _, _, _, rfl, rfl, Le.refl _, rfl, hst⟩
                refine opsS_cons ?_ ?_
                ·
                  intro f w_ H62 X62 hS62 hE62 hP62 hst
                  refine L_ld (v := v0_2) rfl Try.isAgg23 (hP62 1 42 rfl rfl) (At.cell0 (Blk.at (Star.blkAt 1 hst rfl)) (j := 2) rfl) ?_
                  exact L_nil ⟨rfl, _, _, _, rfl, rfl, Le.refl _, rfl, hst⟩
                refine opsS_cons ?_ ?_
                ·
                  intro f w_ H62 X62 hS62 hE62 hP62 hst
                  refine L_mv (v := .int .i64 (i_47 : Int)) rfl ((hS62 8 rfl).trans sf8) ?_
                  exact L_nil ⟨rfl, _, _, _, rfl, rfl, Le.refl _, rfl, hst⟩
                refine opsS_cons ?_ ?_
                ·
                  intro f w_ H62 X62 hS62 hE62 hP62 hst
                  refine L_ix (r := RP.int) rfl Try.underlying23 Try.sizeOf3 (hP62 2 43 rfl rfl) (RP.mono _ h0_2 (Le.trans hle50 hE62)) (hP62 3 44 rfl rfl) hx53 ?_
                  intro g71 o72 cs_g71 hrk_hat73 hat73
                  obtain rfl : _ = [_] := hrk_hat73
                  exact L_nil ⟨rfl, _, _, _, rfl, rfl, Le.refl _, ⟨_, _, _, rfl, rfl, hat73⟩, hst⟩
                refine opsS_cons ?_ ?_
                ·
                  intro f w_ H62 X62 hS62 hE62 hP62 hst
                  obtain ⟨g75, o75, cs75, hv75, hrk_hat75, hat75⟩ := (hP62 4 45 rfl rfl)
                  obtain rfl : _ = [_] := hrk_hat75
                  refine L_ld (v := .int .i64 x53) rfl Try.isAgg3 hv75 (At.cell (AtH.at hat75 hst.sub) (j := 0) rfl) ?_
                  exact L_nil ⟨rfl, _, _, _, rfl, rfl, Le.refl _, rfl, hst⟩
                refine opsS_cons ?_ ?_
                ·
                  intro f w_ H62 X62 hS62 hE62 hP62 hst
                  refine L_mv (v := v12_list) rfl ((hS62 5 rfl).trans sf5) ?_
                  exact L_nil ⟨rfl, _, _, _, rfl, rfl, Le.refl _, rfl, hst⟩
                refine opsS_cons ?_ ?_
                ·
                  intro f w_ H62 X62 hS62 hE62 hP62 hst
                  refine L_mv (v := .int .i64 (i_47 : Int)) rfl ((hS62 8 rfl).trans sf8) ?_
                  exact L_nil ⟨rfl, _, _, _, rfl, rfl, Le.refl _, rfl, hst⟩
                refine opsS_cons ?_ ?_
                ·
                  intro f w_ H62 X62 hS62 hE62 hP62 hst
                  refine L_ixO (R := (OR.frz RP.int)) (tb := 0) 0 rfl Try.underlying23 Try.sizeOf3 (hP62 6 47 rfl rfl) hv68 (by first | rfl | simp) (hP62 7 48 rfl rfl) hix51 ?_
                  exact L_nil ⟨rfl, _, _, _, rfl, rfl, Le.refl _, rfl, hst⟩
                refine opsS_cons ?_ ?_
                ·
                  intro f w_ H62 X62 hS62 hE62 hP62 hst
                  obtain ⟨cs77, hr77, hat77⟩ := Star.eltF 0 hst rfl hv68 hix51
                  obtain rfl : _ = [_] := hr77
                  refine L_ld (v := .int .i64 x_51) rfl Try.isAgg3 (hP62 8 49 rfl rfl) (At.cell hat77 (j := 0) rfl) ?_
                  exact L_nil ⟨rfl, _, _, _, rfl, rfl, Le.refl _, rfl, hst⟩
                refine opsS_cons ?_ ?_
                ·
                  intro f w_ H62 X62 hS62 hE62 hP62 hst
                  refine L_mul (m := x53) (n := x_51) rfl (hP62 5 46 rfl rfl) (hP62 9 50 rfl rfl) ?_
                  exact L_nil ⟨rfl, _, _, _, rfl, rfl, Le.refl _, rfl, hst⟩
                exact opsS_nil
              ·
                refine L_add (m := n_48) (n := i64 (x53 * x_51)) rfl (hT62 0 41 rfl rfl) (hT62 10 51 rfl rfl) ?_
                refine L_as (v := .int .i64 (i64 (n_48 + (i64 (x53 * x_51))))) rfl rfl ?_
                refine L_nil ?_
                refine W_region ?_
                refine L_mv (v := .int .i64 (i_47 : Int)) rfl ((hS62 8 rfl).trans sf8) ?_
                refine L_add (m := (i_47 : Int)) (n := 1) rfl rfl rfl ?_
                refine L_as (v := .int .i64 (i64 ((i_47 : Int) + 1))) rfl rfl ?_
                refine L_nil ?_
                obtain rfl := so hB51
                show ∃ m, m < _ ∧ I51 m _ _
                refine ⟨rest51.length, by simp, ?_⟩
                rw [hI51]
                exact ⟨i_47 + 1, rest51, i64 (n_48 + (i64 (x53 * x_51))), H62, rfl, drop_next hd51, by simp at hl51; omega, hL51, (Le.trans hle50 hE62), ((hS62 2 rfl).trans sf2), ((hS62 5 rfl).trans sf5), rfl, (Eq.trans rfl (congrArg (Value.int .i64) (i64_succ (n := list_12.length) (by simp at hl51; omega) hlen51))), hst⟩
          ·
            cases suf51 with
            | cons _ _ => exact absurd (of_decide_eq_false hc52) (by simp at hl51; omega)
            | nil =>
              obtain rfl := range_nil hL51
              refine W_exit ?_
              have hst := Star.get 1 hst rfl
              show R51 _ _
              rw [hR51]
              exact ⟨n_48, H49, rfl, hle50, sf2, sf7, (Star.keepN 1 hst)⟩
      ·
        clear hst
        intro f w_ hR
        rw [hR51] at hR
        obtain ⟨n_48, H49, rfl, hle50, sf2, sf7, hst⟩ := hR
        clear hR51
        refine W_seq ?_
        refine W_region ?_
        refine L_mv (v := .int .i64 n_48) rfl sf7 ?_
        refine L_fa (o' := 3) rfl fa_36_3 sf2 rfl ?_
        refine L_ld (v := .int .i64 r_.bound) rfl Try.isAgg3 rfl (At.cell0 (Blk.at (Star.blkAt 0 hst rfl)) (j := 3) rfl) ?_
        refine L_geq (m := n_48) (n := r_.bound) rfl rfl rfl ?_
        refine L_as (v := .bool (decide (n_48 ≥ r_.bound))) rfl rfl ?_
        refine L_nil ?_
        refine W_ret ?_
        refine retG1 (v1 := .bool (decide (n_48 ≥ r_.bound))) Try.results57 rfl ?_
        obtain rfl := so hF
        exact ⟨rfl, (Star.down (Star.keepN 0 hst) hle50 closedL_nil)⟩
    ·
      have hF := (ite_f hc46).symm.trans hF
      refine W_seq ?_
      refine W_region ?_
      refine L_eql (m := r_.kind) (n := 2) rfl rfl rfl ?_
      refine L_as (v := .bool (r_.kind == 2)) rfl rfl ?_
      refine L_nil ?_
      refine W_cond (b := (r_.kind == 2)) rfl (fun hc79 => ?_) (fun hc79 => ?_)
      ·
        have hF := (ite_t hc79).symm.trans hF
        refine W_seq ?_
        refine W_seq ?_
        refine W_region ?_
        refine L_as (v := .int .i64 0) rfl rfl ?_
        refine L_nil ?_
        have hlen83 : List.length list_12 ≤ 9223372036854775807 := len_le (Star.len 0 hst rfl)
        obtain ⟨j83, hL83, hF⟩ := bind_some hF
        obtain ⟨R83, hR83⟩ : ∃ RR_ : Fr → World → Prop, RR_ = fun f w_ => ∃ H81 : FH, j83 = .nx () ∧ Le H H81 ∧ Star H81 w_ ([]) := ⟨_, rfl⟩
        refine W_join R83 ?_ ?_
        ·
          refine W_block ?_
          obtain ⟨I83, hI83⟩ : ∃ I : Nat → Fr → World → Prop, I = fun n f w_ => ∃ i_80 : Nat, ∃ suf83 : List Int, ∃ H81 : FH, n = suf83.length ∧ List.drop i_80 list_12 = suf83 ∧ i_80 + suf83.length = list_12.length ∧ rangeL (s_l6Holds_b3 list_12) suf83 i_80 () = some j83 ∧ Le H H81 ∧ f 5 = v12_list ∧ f 9 = .int .i64 (i_80 : Int) ∧ Star H81 w_ ([own (OR.ownS 3 (OR.frz RP.int)) [v12_list] list_12]) := ⟨_, rfl⟩
          refine W_loop I83 (n := list_12.length) ?_ ?_
          · rw [hI83]; exact ⟨0, list_12, H, rfl, rfl, Nat.zero_add _, hL83, (Le.refl _), sf5, rfl, (Star.keepN 1 hst)⟩
          ·
            clear hst
            intro n83 f w_ hI
            rw [hI83] at hI
            obtain ⟨i_80, suf83, H81, rfl, hd83, hl83, hL83, hle82, sf5, sf9, hst⟩ := hI
            refine W_seq ?_
            refine W_seq ?_
            refine W_region ?_
            refine L_mv (v := .int .i64 (i_80 : Int)) rfl sf9 ?_
            refine L_mv (v := v12_list) rfl sf5 ?_
            refine L_len (v := v12_list) (n := List.length list_12) rfl Try.underlying23 rfl (Star.len 0 hst rfl) ?_
            refine L_lss (m := (i_80 : Int)) (n := (list_12.length : Int)) rfl rfl rfl ?_
            refine L_nil ?_
            refine W_cond (b := decide ((i_80 : Int) < (list_12.length : Int))) rfl (fun hc84 => ?_) (fun hc84 => ?_)
            ·
              have hlt83 := of_decide_eq_true hc84
              cases suf83 with
              | nil => exact absurd hlt83 (by simp at hl83; omega)
              | cons x_83 rest83 =>
                obtain ⟨o83, hB83, hL83⟩ := range_cons hL83
                rw [s_l6Holds_b3] at hB83
                have hix83 := drop_idx hd83
                refine W_skip ?_
                refine W_seq ?_
                refine W_block ?_
                refine W_seq ?_
                refine W_region ?_
                refine L_as (v := .int .i64 0) rfl rfl ?_
                refine L_nil ?_
                obtain ⟨k89, hk89, hB83⟩ := bind_some hB83
                obtain ⟨j88, hL88, hB83⟩ := bind_some hB83
                obtain ⟨R88, hR88⟩ : ∃ RR_ : Fr → World → Prop, RR_ = fun f w_ => ∃ H86 : FH, j88 = .nx () ∧ Le H81 H86 ∧ f 5 = v12_list ∧ f 9 = .int .i64 (i_80 : Int) ∧ Star H86 w_ ([own (OR.ownS 3 (OR.frz RP.int)) [v12_list] list_12]) := ⟨_, rfl⟩
                refine W_join R88 ?_ ?_
                ·
                  refine W_block ?_
                  obtain ⟨I88, hI88⟩ : ∃ I : Nat → Fr → World → Prop, I = fun n f w_ => ∃ i_85 : Nat, ∃ suf88 : Nat, ∃ H86 : FH, suf88 = n ∧ 0 ≤ i_85 ∧ i_85 + suf88 = 0 + k89 ∧ countL (s_l6Holds_b4 list_12 x_83) suf88 i_85 () = some j88 ∧ Le H81 H86 ∧ f 5 = v12_list ∧ f 9 = .int .i64 (i_80 : Int) ∧ f 10 = .int .i64 (i_85 : Int) ∧ Star H86 w_ ([own (OR.ownS 3 (OR.frz RP.int)) [v12_list] list_12]) := ⟨_, rfl⟩
                  refine W_loop I88 (n := k89) ?_ ?_
                  · rw [hI88]; exact ⟨0, k89, H81, rfl, Nat.le_refl _, rfl, hL88, (Le.refl _), sf5, sf9, rfl, hst⟩
                  ·
                    clear hst
                    intro n88 f w_ hI
                    rw [hI88] at hI
                    obtain ⟨i_85, suf88, H86, rfl, hs88, hl88, hL88, hle87, sf5, sf9, sf10, hst⟩ := hI
                    refine W_seq ?_
                    refine W_seq ?_
                    refine W_region ?_
                    refine L_mv (v := .int .i64 (i_85 : Int)) rfl sf10 ?_
                    refine L_mv (v := .int .i64 (i_80 : Int)) rfl sf9 ?_
                    refine L_lss (m := (i_85 : Int)) (n := (i_80 : Int)) rfl rfl rfl ?_
                    refine L_nil ?_
                    refine W_cond (b := decide ((i_85 : Int) < (i_80 : Int))) rfl (fun hc90 => ?_) (fun hc90 => ?_)
                    ·
                      have hlt88 := of_decide_eq_true hc90
                      cases suf88 with
                      | zero => exact absurd hlt88 (cntF_no hl88 hk89)
                      | succ rest88 =>
                        obtain ⟨o88, hB88, hL88⟩ := count_succ hL88
                        rw [s_l6Holds_b4] at hB88
                        refine W_skip ?_
                        refine W_seq ?_
                        refine W_block ?_
                        refine W_seq ?_
                        obtain ⟨x91, hx91, hB88⟩ := bind_some hB88
                        obtain ⟨g99, cap_g99, hv100, _, _⟩ := Star.row 0 hst rfl hx91
                        refine W_drawS 8 [isV (v12_list), isV (.int .i64 (i_85 : Int)), isV (.pointer (some ⟨g99, Int.toNat (i_85 : Int) * 1, none⟩)), isV (.int .i64 x91), isV (v12_list), isV (.int .i64 (i_80 : Int)), isV (.pointer (some ⟨g99, Int.toNat (i_80 : Int) * 1, none⟩)), isV (.int .i64 x_83)] [own (OR.ownS 3 (OR.frz RP.int)) [v12_list] list_12] [] ([]) [([], []), ([], []), ([], []), ([], []), ([], []), ([], []), ([], []), ([], [])] (S := []) Try_mix (by kernel_rfl) rfl (by kernel_rfl) (amF_cons (mono_V _) (amF_cons (mono_V _) (amF_cons (mono_V _) (amF_cons (mono_V _) (amF_cons (mono_V _) (amF_cons (mono_V _) (amF_cons (mono_V _) (amF_cons (mono_V _) amF_nil)))))))) hst ?_ (fun f w_ H98 hS98 hE98 hT98 hst => ?_)
                        ·
                          refine opsS_cons ?_ ?_
                          ·
                            intro f w_ H98 X98 hS98 hE98 hP98 hst
                            refine L_mv (v := v12_list) rfl ((hS98 5 rfl).trans sf5) ?_
                            exact L_nil ⟨rfl, _, _, _, rfl, rfl, Le.refl _, rfl, hst⟩
                          refine opsS_cons ?_ ?_
                          ·
                            intro f w_ H98 X98 hS98 hE98 hP98 hst
                            refine L_mv (v := .int .i64 (i_85 : Int)) rfl ((hS98 10 rfl).trans sf10) ?_
                            exact L_nil ⟨rfl, _, _, _, rfl, rfl, Le.refl _, rfl, hst⟩
                          refine opsS_cons ?_ ?_
                          ·
                            intro f w_ H98 X98 hS98 hE98 hP98 hst
                            refine L_ixO (R := (OR.frz RP.int)) (tb := 0) 0 rfl Try.underlying23 Try.sizeOf3 (hP98 0 70 rfl rfl) hv100 (by first | rfl | simp) (hP98 1 71 rfl rfl) hx91 ?_
                            exact L_nil ⟨rfl, _, _, _, rfl, rfl, Le.refl _, rfl, hst⟩
                          refine opsS_cons ?_ ?_
                          ·
                            intro f w_ H98 X98 hS98 hE98 hP98 hst
                            obtain ⟨cs105, hr105, hat105⟩ := Star.eltF 0 hst rfl hv100 hx91
                            obtain rfl : _ = [_] := hr105
                            refine L_ld (v := .int .i64 x91) rfl Try.isAgg3 (hP98 2 72 rfl rfl) (At.cell hat105 (j := 0) rfl) ?_
                            exact L_nil ⟨rfl, _, _, _, rfl, rfl, Le.refl _, rfl, hst⟩
                          refine opsS_cons ?_ ?_
                          ·
                            intro f w_ H98 X98 hS98 hE98 hP98 hst
                            refine L_mv (v := v12_list) rfl ((hS98 5 rfl).trans sf5) ?_
                            exact L_nil ⟨rfl, _, _, _, rfl, rfl, Le.refl _, rfl, hst⟩
                          refine opsS_cons ?_ ?_
                          ·
                            intro f w_ H98 X98 hS98 hE98 hP98 hst
                            refine L_mv (v := .int .i64 (i_80 : Int)) rfl ((hS98 9 rfl).trans sf9) ?_
                            exact L_nil ⟨rfl, _, _, _, rfl, rfl, Le.refl _, rfl, hst⟩
                          refine opsS_cons ?_ ?_
                          ·
                            intro f w_ H98 X98 hS98 hE98 hP98 hst
                            refine L_ixO (R := (OR.frz RP.int)) (tb := 0) 0 rfl Try.underlying23 Try.sizeOf3 (hP98 4 74 rfl rfl) hv100 (by first | rfl | simp) (hP98 5 75 rfl rfl) hix83 ?_
                            exact L_nil ⟨rfl, _, _, _, rfl, rfl, Le.refl _, rfl, hst⟩
                          refine opsS_cons ?_ ?_
                          ·
                            intro f w_ H98 X98 hS98 hE98 hP98 hst
                            obtain ⟨cs107, hr107, hat107⟩ := Star.eltF 0 hst rfl hv100 hix83
                            obtain rfl : _ = [_] := hr107
                            refine L_ld (v := .int .i64 x_83) rfl Try.isAgg3 (hP98 6 76 rfl rfl) (At.cell hat107 (j := 0) rfl) ?_
                            exact L_nil ⟨rfl, _, _, _, rfl, rfl, Le.refl _, rfl, hst⟩
                          exact opsS_nil
                        ·
                          refine L_eql (m := x91) (n := x_83) rfl (hT98 3 73 rfl rfl) (hT98 7 77 rfl rfl) ?_
                          refine L_nil ?_
                          refine W_cond (b := (x91 == x_83)) rfl (fun hc109 => ?_) (fun hc109 => ?_)
                          ·
                            have hB88 := (ite_t hc109).symm.trans hB88
                            refine W_seq ?_
                            refine W_region ?_
                            refine L_as (v := .bool false) rfl rfl ?_
                            refine L_nil ?_
                            refine W_ret ?_
                            refine retG1 (v1 := .bool false) Try.results57 rfl ?_
                            obtain rfl := so hB88
                            obtain rfl := so hL88
                            obtain rfl := so hB83
                            obtain rfl := so hL83
                            obtain rfl := so hF
                            exact ⟨rfl, (Star.down (Star.keepN 0 hst) (Le.trans (Le.trans hle82 hle87) hE98) closedL_nil)⟩
                          ·
                            have hB88 := (ite_f hc109).symm.trans hB88
                            refine W_skip ?_
                            refine W_region ?_
                            refine L_mv (v := .int .i64 (i_85 : Int)) rfl ((hS98 10 rfl).trans sf10) ?_
                            refine L_add (m := (i_85 : Int)) (n := 1) rfl rfl rfl ?_
                            refine L_as (v := .int .i64 (i64 ((i_85 : Int) + 1))) rfl rfl ?_
                            refine L_nil ?_
                            obtain rfl := so hB88
                            show ∃ m, m < _ ∧ I88 m _ _
                            refine ⟨rest88, Nat.lt_succ_self _, ?_⟩
                            rw [hI88]
                            exact ⟨i_85 + 1, rest88, H98, rfl, by omega, by omega, hL88, (Le.trans hle87 hE98), ((hS98 5 rfl).trans sf5), ((hS98 9 rfl).trans sf9), (Eq.trans rfl (congrArg (Value.int .i64) (i64_succ (n := 0 + k89) (by omega) (cntF_le hk89)))), hst⟩
                    ·
                      cases suf88 with
                      | succ _ => exact absurd (cntF_yes hs88 hl88 hk89) (of_decide_eq_false hc90)
                      | zero =>
                        obtain rfl := count_zero hL88
                        refine W_exit ?_
                        show R88 _ _
                        rw [hR88]
                        exact ⟨H86, rfl, hle87, sf5, sf9, hst⟩
                ·
                  clear hst
                  intro f w_ hR
                  rw [hR88] at hR
                  obtain ⟨H86, rfl, hle87, sf5, sf9, hst⟩ := hR
                  clear hR88
                  refine W_region ?_
                  refine L_mv (v := .int .i64 (i_80 : Int)) rfl sf9 ?_
                  refine L_add (m := (i_80 : Int)) (n := 1) rfl rfl rfl ?_
                  refine L_as (v := .int .i64 (i64 ((i_80 : Int) + 1))) rfl rfl ?_
                  refine L_nil ?_
                  obtain rfl := so hB83
                  show ∃ m, m < _ ∧ I83 m _ _
                  refine ⟨rest83.length, by simp, ?_⟩
                  rw [hI83]
                  exact ⟨i_80 + 1, rest83, H86, rfl, drop_next hd83, by simp at hl83; omega, hL83, (Le.trans hle82 hle87), sf5, (Eq.trans rfl (congrArg (Value.int .i64) (i64_succ (n := list_12.length) (by simp at hl83; omega) hlen83))), hst⟩
            ·
              cases suf83 with
              | cons _ _ => exact absurd (of_decide_eq_false hc84) (by simp at hl83; omega)
              | nil =>
                obtain rfl := range_nil hL83
                refine W_exit ?_
                show R83 _ _
                rw [hR83]
                exact ⟨H81, rfl, hle82, (Star.keepN 0 hst)⟩
        ·
          clear hst
          intro f w_ hR
          rw [hR83] at hR
          obtain ⟨H81, rfl, hle82, hst⟩ := hR
          clear hR83
          refine W_seq ?_
          refine W_region ?_
          refine L_as (v := .bool true) rfl rfl ?_
          refine L_nil ?_
          refine W_ret ?_
          refine retG1 (v1 := .bool true) Try.results57 rfl ?_
          obtain rfl := so hF
          exact ⟨rfl, (Star.down hst hle82 closedL_nil)⟩
      ·
        have hF := (ite_f hc79).symm.trans hF
        refine W_seq ?_
        refine W_region ?_
        refine L_eql (m := r_.kind) (n := 4) rfl rfl rfl ?_
        refine L_as (v := .bool (r_.kind == 4)) rfl rfl ?_
        refine L_nil ?_
        refine W_cond (b := (r_.kind == 4)) rfl (fun hc110 => ?_) (fun hc110 => ?_)
        ·
          have hF := (ite_t hc110).symm.trans hF
          refine W_seq ?_
          obtain ⟨x111, hx111, hF⟩ := bind_some hF
          obtain ⟨x116, hx116, hF⟩ := bind_some hF
          have hst := Star.drop 1 hst rfl
          obtain ⟨g120, cap_g120, hv121, _, _⟩ := Star.row 0 hst rfl hx111
          refine W_drawS 6 [isV (v12_list), isV (.pointer (some ⟨g120, Int.toNat 0 * 1, none⟩)), isV (.int .i64 x111), isV (v12_list), isV (.pointer (some ⟨g120, Int.toNat 1 * 1, none⟩)), isV (.int .i64 x116)] [own (OR.ownS 3 (OR.frz RP.int)) [v12_list] list_12] [] ([]) [([], []), ([], []), ([], []), ([], []), ([], []), ([], [])] (S := []) Try_mix (by kernel_rfl) rfl (by kernel_rfl) (amF_cons (mono_V _) (amF_cons (mono_V _) (amF_cons (mono_V _) (amF_cons (mono_V _) (amF_cons (mono_V _) (amF_cons (mono_V _) amF_nil)))))) hst ?_ (fun f w_ H119 hS119 hE119 hT119 hst => ?_)
          ·
            refine opsS_cons ?_ ?_
            ·
              intro f w_ H119 X119 hS119 hE119 hP119 hst
              refine L_mv (v := v12_list) rfl ((hS119 5 rfl).trans sf5) ?_
              exact L_nil ⟨rfl, _, _, _, rfl, rfl, Le.refl _, rfl, hst⟩
            refine opsS_cons ?_ ?_
            ·
              intro f w_ H119 X119 hS119 hE119 hP119 hst
              refine L_ixO (R := (OR.frz RP.int)) (tb := 0) 0 rfl Try.underlying23 Try.sizeOf3 (hP119 0 81 rfl rfl) hv121 (by first | rfl | simp) rfl hx111 ?_
              exact L_nil ⟨rfl, _, _, _, rfl, rfl, Le.refl _, rfl, hst⟩
            refine opsS_cons ?_ ?_
            ·
              intro f w_ H119 X119 hS119 hE119 hP119 hst
              obtain ⟨cs126, hr126, hat126⟩ := Star.eltF 0 hst rfl hv121 hx111
              obtain rfl : _ = [_] := hr126
              refine L_ld (v := .int .i64 x111) rfl Try.isAgg3 (hP119 1 82 rfl rfl) (At.cell hat126 (j := 0) rfl) ?_
              exact L_nil ⟨rfl, _, _, _, rfl, rfl, Le.refl _, rfl, hst⟩
            refine opsS_cons ?_ ?_
            ·
              intro f w_ H119 X119 hS119 hE119 hP119 hst
              refine L_mv (v := v12_list) rfl ((hS119 5 rfl).trans sf5) ?_
              exact L_nil ⟨rfl, _, _, _, rfl, rfl, Le.refl _, rfl, hst⟩
            refine opsS_cons ?_ ?_
            ·
              intro f w_ H119 X119 hS119 hE119 hP119 hst
              refine L_ixO (R := (OR.frz RP.int)) (tb := 0) 0 rfl Try.underlying23 Try.sizeOf3 (hP119 3 84 rfl rfl) hv121 (by first | rfl | simp) rfl hx116 ?_
              exact L_nil ⟨rfl, _, _, _, rfl, rfl, Le.refl _, rfl, hst⟩
            refine opsS_cons ?_ ?_
            ·
              intro f w_ H119 X119 hS119 hE119 hP119 hst
              obtain ⟨cs128, hr128, hat128⟩ := Star.eltF 0 hst rfl hv121 hx116
              obtain rfl : _ = [_] := hr128
              refine L_ld (v := .int .i64 x116) rfl Try.isAgg3 (hP119 4 85 rfl rfl) (At.cell hat128 (j := 0) rfl) ?_
              exact L_nil ⟨rfl, _, _, _, rfl, rfl, Le.refl _, rfl, hst⟩
            exact opsS_nil
          ·
            refine L_lss (m := x111) (n := x116) rfl (hT119 2 83 rfl rfl) (hT119 5 86 rfl rfl) ?_
            refine L_as (v := .bool (decide (x111 < x116))) rfl rfl ?_
            refine L_nil ?_
            refine W_ret ?_
            refine retG1 (v1 := .bool (decide (x111 < x116))) Try.results57 rfl ?_
            obtain rfl := so hF
            exact ⟨rfl, (Star.down (Star.keepN 0 hst) hE119 closedL_nil)⟩
        ·
          have hF := (ite_f hc110).symm.trans hF
          refine W_skip ?_
          refine W_seq ?_
          refine W_seq ?_
          refine W_region ?_
          refine L_as (v := .int .i64 0) rfl rfl ?_
          refine L_nil ?_
          have hlen131 : List.length r_.rows ≤ 9223372036854775807 := len_le (slice_len h0_4)
          obtain ⟨j131, hL131, hF⟩ := bind_some hF
          obtain ⟨R131, hR131⟩ : ∃ RR_ : Fr → World → Prop, RR_ = fun f w_ => j131 = .nx () ∧ Star H w_ ([]) := ⟨_, rfl⟩
          refine W_join R131 ?_ ?_
          ·
            refine W_block ?_
            obtain ⟨I131, hI131⟩ : ∃ I : Nat → Fr → World → Prop, I = fun n f w_ => ∃ i_130 : Nat, ∃ suf131 : List (List Int), n = suf131.length ∧ List.drop i_130 r_.rows = suf131 ∧ i_130 + suf131.length = r_.rows.length ∧ rangeL (s_l6Holds_b5 list_12) suf131 i_130 () = some j131 ∧ f 2 = .pointer (some ⟨g3, 0, none⟩) ∧ f 5 = v12_list ∧ f 11 = .int .i64 (i_130 : Int) ∧ Star H w_ ([own (OR.ownS 3 (OR.frz RP.int)) [v12_list] list_12, box g3 36 #[.int .i64 r_.kind, v0_1, v0_2, .int .i64 r_.bound, v0_4]]) := ⟨_, rfl⟩
            refine W_loop I131 (n := r_.rows.length) ?_ ?_
            · rw [hI131]; exact ⟨0, r_.rows, rfl, rfl, Nat.zero_add _, hL131, sf2, sf5, rfl, hst⟩
            ·
              clear hst
              intro n131 f w_ hI
              rw [hI131] at hI
              obtain ⟨i_130, suf131, rfl, hd131, hl131, hL131, sf2, sf5, sf11, hst⟩ := hI
              refine W_seq ?_
              refine W_seq ?_
              refine W_region ?_
              refine L_mv (v := .int .i64 (i_130 : Int)) rfl sf11 ?_
              refine L_fa (o' := 4) rfl fa_36_4 sf2 rfl ?_
              refine L_ld (v := v0_4) rfl Try.isAgg34 rfl (At.cell0 (Blk.at (Star.blkAt 1 hst rfl)) (j := 4) rfl) ?_
              refine L_len (v := v0_4) (n := List.length r_.rows) rfl Try.underlying34 rfl (slice_len h0_4) ?_
              refine L_lss (m := (i_130 : Int)) (n := (r_.rows.length : Int)) rfl rfl rfl ?_
              refine L_nil ?_
              refine W_cond (b := decide ((i_130 : Int) < (r_.rows.length : Int))) rfl (fun hc132 => ?_) (fun hc132 => ?_)
              ·
                have hlt131 := of_decide_eq_true hc132
                cases suf131 with
                | nil => exact absurd hlt131 (by simp at hl131; omega)
                | cons x_131 rest131 =>
                  obtain ⟨o131, hB131, hL131⟩ := range_cons hL131
                  rw [s_l6Holds_b5] at hB131
                  have hix131 := drop_idx hd131
                  refine W_skip ?_
                  refine W_seq ?_
                  refine W_block ?_
                  refine W_seq ?_
                  obtain ⟨x143, hx143, hB131⟩ := bind_some hB131
                  refine W_region ?_
                  refine L_fa (o' := 4) rfl fa_36_4 sf2 rfl ?_
                  refine L_ld (v := v0_4) rfl Try.isAgg34 rfl (At.cell0 (Blk.at (Star.blkAt 1 hst rfl)) (j := 4) rfl) ?_
                  refine L_mv (v := .int .i64 (i_130 : Int)) rfl sf11 ?_
                  refine L_ix (r := (RP.slice 3 RP.int)) rfl Try.underlying34 Try.sizeOf23 rfl h0_4 rfl hix131 ?_
                  intro g145 o146 cs_g145 hrk_hat147 hat147
                  obtain ⟨u148, rfl, hu148⟩ := slice1 hrk_hat147
                  refine L_ld (v := u148) rfl Try.isAgg23 rfl (At.cell (AtH.at hat147 hst.sub) (j := 0) rfl) ?_
                  refine L_mv (v := v12_list) rfl sf5 ?_
                  obtain ⟨Hb149, hle150, hsb151, hfz152, hbk153⟩ := Star.borrow hst
                  have hb154 : (RP.slice 3 RP.int).rel Hb149 [v12_list] list_12 := fz_own 0 hfz152 rfl
                  refine L_call (args := #[u148, v12_list]) rfl Try.call84 (ops2 rfl rfl) (s_l6Ints_c (a := x_131) (b := list_12) hsb151 (RP.mono _ hu148 hle150) hb154 hx143) ?_
                  rintro _ w155 ⟨rfl, hst⟩
                  have hst := hbk153 hst closedL_nil
                  refine L_nil ?_
                  refine W_cond (b := x143) rfl (fun hc156 => ?_) (fun hc156 => ?_)
                  ·
                    have hB131 := (ite_t hc156).symm.trans hB131
                    refine W_seq ?_
                    refine W_region ?_
                    refine L_as (v := .bool true) rfl rfl ?_
                    refine L_nil ?_
                    refine W_ret ?_
                    refine retG1 (v1 := .bool true) Try.results57 rfl ?_
                    obtain rfl := so hB131
                    obtain rfl := so hL131
                    obtain rfl := so hF
                    exact ⟨rfl, (Star.keepN 0 hst)⟩
                  ·
                    have hB131 := (ite_f hc156).symm.trans hB131
                    refine W_skip ?_
                    refine W_region ?_
                    refine L_mv (v := .int .i64 (i_130 : Int)) rfl sf11 ?_
                    refine L_add (m := (i_130 : Int)) (n := 1) rfl rfl rfl ?_
                    refine L_as (v := .int .i64 (i64 ((i_130 : Int) + 1))) rfl rfl ?_
                    refine L_nil ?_
                    obtain rfl := so hB131
                    show ∃ m, m < _ ∧ I131 m _ _
                    refine ⟨rest131.length, by simp, ?_⟩
                    rw [hI131]
                    exact ⟨i_130 + 1, rest131, rfl, drop_next hd131, by simp at hl131; omega, hL131, sf2, sf5, (Eq.trans rfl (congrArg (Value.int .i64) (i64_succ (n := r_.rows.length) (by simp at hl131; omega) hlen131))), hst⟩
              ·
                cases suf131 with
                | cons _ _ => exact absurd (of_decide_eq_false hc132) (by simp at hl131; omega)
                | nil =>
                  obtain rfl := range_nil hL131
                  refine W_exit ?_
                  show R131 _ _
                  rw [hR131]
                  exact ⟨rfl, (Star.keepN 0 hst)⟩
          ·
            clear hst
            intro f w_ hR
            rw [hR131] at hR
            obtain ⟨rfl, hst⟩ := hR
            clear hR131
            refine W_seq ?_
            refine W_region ?_
            refine L_as (v := .bool false) rfl rfl ?_
            refine L_nil ?_
            refine W_ret ?_
            refine retG1 (v1 := .bool false) Try.results57 rfl ?_
            obtain rfl := so hF
            exact ⟨rfl, hst⟩

theorem i_Model_solves_1_c {c1 : List Int} {r_ : Rule} {v0_1 : Value} {v0_2 : Value} {v0_4 : Value} {g_c1 : Nat} {v1_0 : Value} {H : FH} {w : World} (hst : Star H w []) (h0_1 : (RP.slice 3 RP.int).rel H [v0_1] r_.vars) (h0_2 : (RP.slice 3 RP.int).rel H [v0_2] r_.coefs) (h0_4 : (RP.slice 23 (RP.slice 3 RP.int)).rel H [v0_4] r_.rows) (hat_g_c1 : AtH H g_c1 0 [v1_0]) (h1_0 : (RP.slice 3 RP.int).rel H [v1_0] c1) {r : Bool} (hF : i_Model_solves_1 c1 r_ = some r) :
    C Try.prog 85 #[.agg #[.int .i64 r_.kind, v0_1, v0_2, .int .i64 r_.bound, v0_4], .pointer (some ⟨g_c1, 0, none⟩)] w fun v w' => v = .bool r ∧ Star H w' [] := by
  unfold i_Model_solves_1 at hF
  refine C_enter Try.func85 rfl Try.ntmps85 rfl ?_
  refine W_seq ?_
  refine W_region ?_
  refine L_box (v := .agg #[.int .i64 r_.kind, v0_1, v0_2, .int .i64 r_.bound, v0_4]) (cs := #[.int .i64 r_.kind, v0_1, v0_2, .int .i64 r_.bound, v0_4]) rfl rfl rfl hst ?_
  intro g3 w4 hst
  refine L_as (v := .bool false) rfl rfl ?_
  refine L_nil ?_
  refine W_seq ?_
  obtain ⟨x10, hx10, hF⟩ := bind_some hF
  refine W_region ?_
  refine L_lda (cs := [.int .i64 r_.kind, v0_1, v0_2, .int .i64 r_.bound, v0_4]) rfl Try.isAgg36 Try.sizeOf36 rfl (At.sub0 (Blk.at (Star.blkAt 0 hst rfl)) 0 5) rfl ?_
  refine L_ld (v := v1_0) rfl Try.isAgg23 rfl (At.cell0 (AtH.at hat_g_c1 hst.sub) (j := 0) rfl) ?_
  obtain ⟨Hb12, hle13, hsb14, hfz15, hbk16⟩ := Star.borrow hst
  refine L_call (args := #[.agg #[.int .i64 r_.kind, v0_1, v0_2, .int .i64 r_.bound, v0_4], v1_0]) rfl Try.call56 (ops2 rfl rfl) (i_Rule_at_c (r_ := r_) (cells := c1) hsb14 (RP.mono _ h0_1 hle13) (RP.mono _ h0_2 hle13) (RP.mono _ h0_4 hle13) (RP.mono _ h1_0 hle13) hx10) ?_
  rintro _ w17 ⟨rfl, hst⟩
  have hst := hbk16 hst closedL_nil
  refine L_not_ (b := x10) rfl rfl ?_
  refine L_as (v := .bool (!x10)) rfl rfl ?_
  refine L_nil ?_
  refine W_ret ?_
  refine retG1 (v1 := .bool (!x10)) Try.results85 rfl ?_
  obtain rfl := so hF
  exact ⟨rfl, (Star.keepN 0 hst)⟩

theorem i_Model_solves_c {m : Model} {cells : List Int} {v0_0 : Value} {v0_1 : Value} {v1 : Value} {H : FH} {w : World} (hst : Star H w []) (h0_0 : (RP.slice 3 RP.int).rel H [v0_0] m.sizes) (h0_1 : (RP.slice 36 (rRule 3 23)).rel H [v0_1] m.rules) (h1 : (RP.slice 3 RP.int).rel H [v1] cells) {r : Bool} (hF : i_Model_solves m cells = some r) :
    C Try.prog 59 #[.agg #[v0_0, v0_1], v1] w fun v w' => v = .bool r ∧ Star H w' [] := by
  unfold i_Model_solves at hF
  refine C_enter Try.func59 rfl Try.ntmps59 rfl ?_
  refine W_seq ?_
  refine W_region ?_
  refine L_box (v := .agg #[v0_0, v0_1]) (cs := #[v0_0, v0_1]) rfl rfl rfl hst ?_
  intro g5 w6 hst
  refine L_box (v := v1) (cs := #[v1]) rfl rfl (cells_one (one_len (slice_len h1))) hst ?_
  intro g7 w8 hst
  refine L_as (v := .bool false) rfl rfl ?_
  refine L_nil ?_
  refine W_seq ?_
  obtain ⟨x14, hx14, hF⟩ := bind_some hF
  refine W_region ?_
  refine L_fa (o' := 1) rfl fa_26_1 rfl rfl ?_
  refine L_ld (v := v0_1) rfl Try.isAgg24 rfl (At.cell0 (Blk.at (Star.blkAt 1 hst rfl)) (j := 1) rfl) ?_
  refine L_mf rfl (ops1 rfl) ?_
  obtain ⟨Hb16, hle17, hsb18, hfz19, hbk20⟩ := Star.borrow hst
  have hf21 : Fun1 Try.prog (rRule 3 23) true Value.bool (i_Model_solves_1 cells) (.func (.func 85) #[] #[.pointer (some ⟨g7, 0, none⟩)]) Hb16 := by
    refine ⟨_, _, rfl, Try.call85, fun H_ w_ hE_ hs_ cs_ x_ y_ args_ hr_ hy_ ha_ => ?_⟩
    obtain ⟨p_0, p_1, p_2, rfl, hp_0, hp_1, hp_2⟩ := rRule_iff.1 hr_
    obtain rfl := args_of (b := #[.agg #[.int .i64 x_.kind, p_0, p_1, .int .i64 x_.bound, p_2], .pointer (some ⟨g7, 0, none⟩)]) ha_
    exact i_Model_solves_1_c (c1 := cells) (r_ := x_) hs_ hp_0 hp_1 hp_2 (AtH.le (AtH.of (fz_box 0 hfz19 rfl)) hE_) (RP.mono _ (RP.mono _ h1 hle17) hE_) hy_
  refine L_call (args := #[v0_1, .func (.func 85) #[] #[.pointer (some ⟨g7, 0, none⟩)]]) rfl Try.call66 (ops2 rfl rfl) (slices_ContainsFunc_implRule_c (s := m.rules) (f_ := (i_Model_solves_1 cells)) hsb18 (RP.mono _ h0_1 hle17) hf21 hx14) ?_
  rintro _ w22 ⟨rfl, hst⟩
  have hst := hbk20 hst closedL_nil
  refine L_not_ (b := x14) rfl rfl ?_
  refine L_as (v := .bool (!x14)) rfl rfl ?_
  refine L_nil ?_
  refine W_ret ?_
  refine retG1 (v1 := .bool (!x14)) Try.results59 rfl ?_
  obtain rfl := so hF
  exact ⟨rfl, (Star.keepN 0 hst)⟩

theorem s_l6Solves_c {m : Model} {cells : List Int} {v0_0 : Value} {v0_1 : Value} {v1 : Value} {H : FH} {w : World} (hst : Star H w []) (h0_0 : (RP.slice 3 RP.int).rel H [v0_0] m.sizes) (h0_1 : (RP.slice 36 (rRule 3 23)).rel H [v0_1] m.rules) (h1 : (RP.slice 3 RP.int).rel H [v1] cells) {r : Bool} (hF : s_l6Solves m cells = some r) :
    C Try.prog 60 #[.agg #[v0_0, v0_1], v1] w fun v w' => v = .bool r ∧ Star H w' [] := by
  unfold s_l6Solves at hF
  refine C_enter Try.func60 rfl Try.ntmps60 rfl ?_
  refine W_seq ?_
  refine W_region ?_
  refine L_box (v := .agg #[v0_0, v0_1]) (cs := #[v0_0, v0_1]) rfl rfl rfl hst ?_
  intro g3 w4 hst
  refine L_as (v := .bool false) rfl rfl ?_
  refine L_nil ?_
  refine W_seq ?_
  refine W_seq ?_
  refine W_region ?_
  refine L_as (v := .int .i64 0) rfl rfl ?_
  refine L_nil ?_
  have hlen6 : List.length m.rules ≤ 9223372036854775807 := len_le (slice_len h0_1)
  obtain ⟨j6, hL6, hF⟩ := bind_some hF
  obtain ⟨R6, hR6⟩ : ∃ RR_ : Fr → World → Prop, RR_ = fun f w_ => j6 = .nx () ∧ Star H w_ ([]) := ⟨_, rfl⟩
  refine W_join R6 ?_ ?_
  ·
    refine W_block ?_
    obtain ⟨I6, hI6⟩ : ∃ I : Nat → Fr → World → Prop, I = fun n f w_ => ∃ i_5 : Nat, ∃ suf6 : List Rule, n = suf6.length ∧ List.drop i_5 m.rules = suf6 ∧ i_5 + suf6.length = m.rules.length ∧ rangeL (s_l6Solves_b1 cells) suf6 i_5 () = some j6 ∧ f 1 = v1 ∧ f 2 = .pointer (some ⟨g3, 0, none⟩) ∧ f 5 = .int .i64 (i_5 : Int) ∧ Star H w_ ([box g3 26 #[v0_0, v0_1]]) := ⟨_, rfl⟩
    refine W_loop I6 (n := m.rules.length) ?_ ?_
    · rw [hI6]; exact ⟨0, m.rules, rfl, rfl, Nat.zero_add _, hL6, rfl, rfl, rfl, hst⟩
    ·
      clear hst
      intro n6 f w_ hI
      rw [hI6] at hI
      obtain ⟨i_5, suf6, rfl, hd6, hl6, hL6, sf1, sf2, sf5, hst⟩ := hI
      refine W_seq ?_
      refine W_seq ?_
      refine W_region ?_
      refine L_mv (v := .int .i64 (i_5 : Int)) rfl sf5 ?_
      refine L_fa (o' := 1) rfl fa_26_1 sf2 rfl ?_
      refine L_ld (v := v0_1) rfl Try.isAgg24 rfl (At.cell0 (Blk.at (Star.blkAt 0 hst rfl)) (j := 1) rfl) ?_
      refine L_len (v := v0_1) (n := List.length m.rules) rfl Try.underlying24 rfl (slice_len h0_1) ?_
      refine L_lss (m := (i_5 : Int)) (n := (m.rules.length : Int)) rfl rfl rfl ?_
      refine L_nil ?_
      refine W_cond (b := decide ((i_5 : Int) < (m.rules.length : Int))) rfl (fun hc7 => ?_) (fun hc7 => ?_)
      ·
        have hlt6 := of_decide_eq_true hc7
        cases suf6 with
        | nil => exact absurd hlt6 (by simp at hl6; omega)
        | cons x_6 rest6 =>
          obtain ⟨o6, hB6, hL6⟩ := range_cons hL6
          rw [s_l6Solves_b1] at hB6
          have hix6 := drop_idx hd6
          refine W_skip ?_
          refine W_seq ?_
          refine W_block ?_
          refine W_seq ?_
          obtain ⟨x17, hx17, hB6⟩ := bind_some hB6
          refine W_region ?_
          refine L_fa (o' := 1) rfl fa_26_1 sf2 rfl ?_
          refine L_ld (v := v0_1) rfl Try.isAgg24 rfl (At.cell0 (Blk.at (Star.blkAt 0 hst rfl)) (j := 1) rfl) ?_
          refine L_mv (v := .int .i64 (i_5 : Int)) rfl sf5 ?_
          refine L_ix (r := (rRule 3 23)) rfl Try.underlying24 Try.sizeOf36 rfl h0_1 rfl hix6 ?_
          intro g19 o20 cs_g19 hrk_hat21 hat21
          obtain ⟨u22_0, u22_1, u22_2, rfl, hu22_0, hu22_1, hu22_2⟩ := rRule_iff.1 hrk_hat21
          refine L_lda (cs := [.int .i64 x_6.kind, u22_0, u22_1, .int .i64 x_6.bound, u22_2]) rfl Try.isAgg36 Try.sizeOf36 rfl (At.sub (AtH.at hat21 hst.sub) 0 5) rfl ?_
          refine L_mv (v := v1) rfl sf1 ?_
          obtain ⟨Hb23, hle24, hsb25, hfz26, hbk27⟩ := Star.borrow hst
          refine L_call (args := #[.agg #[.int .i64 x_6.kind, u22_0, u22_1, .int .i64 x_6.bound, u22_2], v1]) rfl Try.call57 (ops2 rfl rfl) (s_l6Holds_c (r_ := x_6) (cells := cells) hsb25 (RP.mono _ hu22_0 hle24) (RP.mono _ hu22_1 hle24) (RP.mono _ hu22_2 hle24) (RP.mono _ h1 hle24) hx17) ?_
          rintro _ w28 ⟨rfl, hst⟩
          have hst := hbk27 hst closedL_nil
          refine L_not_ (b := x17) rfl rfl ?_
          refine L_nil ?_
          refine W_cond (b := (!x17)) rfl (fun hc29 => ?_) (fun hc29 => ?_)
          ·
            have hB6 := (ite_t hc29).symm.trans hB6
            refine W_seq ?_
            refine W_region ?_
            refine L_as (v := .bool false) rfl rfl ?_
            refine L_nil ?_
            refine W_ret ?_
            refine retG1 (v1 := .bool false) Try.results60 rfl ?_
            obtain rfl := so hB6
            obtain rfl := so hL6
            obtain rfl := so hF
            exact ⟨rfl, (Star.keepN 0 hst)⟩
          ·
            have hB6 := (ite_f hc29).symm.trans hB6
            refine W_skip ?_
            refine W_region ?_
            refine L_mv (v := .int .i64 (i_5 : Int)) rfl sf5 ?_
            refine L_add (m := (i_5 : Int)) (n := 1) rfl rfl rfl ?_
            refine L_as (v := .int .i64 (i64 ((i_5 : Int) + 1))) rfl rfl ?_
            refine L_nil ?_
            obtain rfl := so hB6
            show ∃ m, m < _ ∧ I6 m _ _
            refine ⟨rest6.length, by simp, ?_⟩
            rw [hI6]
            exact ⟨i_5 + 1, rest6, rfl, drop_next hd6, by simp at hl6; omega, hL6, sf1, sf2, (Eq.trans rfl (congrArg (Value.int .i64) (i64_succ (n := m.rules.length) (by simp at hl6; omega) hlen6))), hst⟩
      ·
        cases suf6 with
        | cons _ _ => exact absurd (of_decide_eq_false hc7) (by simp at hl6; omega)
        | nil =>
          obtain rfl := range_nil hL6
          refine W_exit ?_
          show R6 _ _
          rw [hR6]
          exact ⟨rfl, (Star.keepN 0 hst)⟩
  ·
    clear hst
    intro f w_ hR
    rw [hR6] at hR
    obtain ⟨rfl, hst⟩ := hR
    clear hR6
    refine W_seq ?_
    refine W_region ?_
    refine L_as (v := .bool true) rfl rfl ?_
    refine L_nil ?_
    refine W_ret ?_
    refine retG1 (v1 := .bool true) Try.results60 rfl ?_
    obtain rfl := so hF
    exact ⟨rfl, hst⟩

theorem slices_Clone_int_c {s : List Int} {v0 : Value} {H : FH} {w : World} (hst : Star H w []) (h0 : (RP.slice 3 RP.int).rel H [v0] s) {r : List Int} (hF : slices_Clone_int s = some r) :
    C Try.prog 74 #[v0] w fun v w' => ∃ (u1 : Value), v = u1 ∧ Star H w' [own (OR.ownS 3 (OR.frz RP.int)) [u1] r] := by
  unfold slices_Clone_int at hF
  refine C_enter Try.func74 rfl Try.ntmps74 rfl ?_
  refine W_seq ?_
  refine W_region ?_
  refine L_as (v := (.slice none 0 0)) rfl rfl ?_
  refine L_nil ?_
  refine W_seq ?_
  refine W_seq ?_
  refine W_region ?_
  refine L_mv (v := v0) rfl rfl ?_
  obtain ⟨a1, cap1, hsl1, _, _⟩ := (slice_len h0)
  refine L_nileq (a := a1) rfl Try.underlying23 (Eq.trans rfl hsl1) rfl ?_
  rw [← hsl1]
  refine L_nil ?_
  rcases Bool.eq_false_or_eq_true (isNilS v0) with hn2 | hn2
  ·
    refine W_cond (b := true) (Eq.trans rfl (congrArg Value.bool hn2)) (fun _ => ?_) (fun h => nomatch h)
    obtain rfl := nil_of h0 hn2
    refine W_seq ?_
    refine W_region ?_
    refine L_as (v := (.slice none 0 0)) rfl rfl ?_
    refine L_nil ?_
    refine W_ret ?_
    refine retG1 (v1 := (.slice none 0 0)) Try.results74 rfl ?_
    simp [app] at hF
    subst hF
    have hst := Star.addNil (R := (OR.frz RP.int)) (e := 3) hst
    exact ⟨(.slice none 0 0), rfl, hst⟩
  ·
    refine W_cond (b := false) (Eq.trans rfl (congrArg Value.bool hn2)) (fun h => nomatch h) (fun _ => ?_)
    refine W_skip ?_
    refine W_seq ?_
    obtain ⟨x7, hx7, hF⟩ := bind_some hF
    refine W_region ?_
    refine L_bs rfl parts0 (bs_23_0  ) hst ?_
    intro g11 w12 hst
    have hst := Star.mkRow (R := (OR.frz RP.int)) [] [] 0 hst rfl rfl rfl (by decide)
    refine L_mv (v := v0) rfl rfl ?_
    refine L_app (v := (.slice (some ⟨g11, 0, none⟩) 0 0)) (u := v0) rfl et_23 rfl rfl hst h0 hx7 ?_
    intro v14 w15 hst
    refine L_as (v := v14) rfl rfl ?_
    refine L_nil ?_
    refine W_ret ?_
    refine retG1 (v1 := v14) Try.results74 rfl ?_
    obtain rfl := so hF
    exact ⟨v14, rfl, hst⟩

theorem i_each_c {fu : Nat} {sizes : List Int} {from_ : List Int} {told : ((List Int) → Option Bool)} {v0 : Value} {v1 : Value} {v2 : Value} {H : FH} {w : World} (hst : Star H w []) (h0 : (RP.slice 3 RP.int).rel H [v0] sizes) (h1 : (RP.slice 3 RP.int).rel H [v1] from_) (h2 : Fun1 Try.prog (RP.slice 3 RP.int) false Value.bool told v2 H) {r : Unit} (hF : i_each fu sizes from_ told = some r) :
    C Try.prog 63 #[v0, v1, v2] w fun v w' => v = .tuple #[] ∧ Star H w' [] := by
  unfold i_each at hF
  obtain ⟨fid_2, caps_2, rfl, hcall_2, hc_2⟩ := h2
  refine C_enter Try.func63 rfl Try.ntmps63 rfl ?_
  refine W_seq ?_
  obtain ⟨x6, hx6, hF⟩ := bind_some hF
  refine W_region ?_
  refine L_mv (v := v1) rfl rfl ?_
  obtain ⟨Hb9, hle10, hsb11, hfz12, hbk13⟩ := Star.borrow hst
  refine L_call (args := #[v1]) rfl Try.call74 (ops1 rfl) (slices_Clone_int_c (s := from_) hsb11 (RP.mono _ h1 hle10) hx6) ?_
  rintro r14_0 w14 ⟨_, rfl, hst⟩
  have hst := hbk13 hst (closedL_cons (closed_own (OR.closed_ownS closed_int) _ _) closedL_nil)
  refine L_as (v := r14_0) rfl rfl ?_
  refine L_nil ?_
  obtain ⟨j20, hL20, hF⟩ := bind_some hF
  obtain ⟨R20, hR20⟩ : ∃ RR_ : Fr → World → Prop, RR_ = fun f w_ => ∃ cells_17 : List Int, ∃ H18 : FH, j20 = .nx cells_17 ∧ Le H H18 ∧ Star H18 w_ ([]) := ⟨_, rfl⟩
  refine W_join R20 ?_ ?_
  ·
    refine W_block ?_
    obtain ⟨I20, hI20⟩ : ∃ I : Nat → Fr → World → Prop, I = fun n f w_ => ∃ cells_17 : List Int, ∃ H18 : FH, whileL (i_each_b1 fu sizes told) n cells_17 = some j20 ∧ Le H H18 ∧ f 0 = v0 ∧ f 2 = .func (.func fid_2) #[] caps_2 ∧ f 6 = r14_0 ∧ Star H18 w_ ([own (OR.ownS 3 (OR.frz RP.int)) [r14_0] cells_17]) := ⟨_, rfl⟩
    refine W_loop I20 (n := fu) ?_ ?_
    · rw [hI20]; exact ⟨x6, H, hL20, (Le.refl _), rfl, rfl, rfl, hst⟩
    ·
      clear hst
      intro n20 f w_ hI
      rw [hI20] at hI
      obtain ⟨cells_17, H18, hL20, hle19, sf0, sf2, sf6, hst⟩ := hI
      cases n20 with
      | zero => exact (while_zero hL20).elim
      | succ n20 =>
        obtain ⟨o20, hB20, hL20⟩ := while_succ hL20
        rw [i_each_b1] at hB20
        refine W_seq ?_
        refine W_seq ?_
        obtain ⟨x21, hx21, hB20⟩ := bind_some hB20
        refine W_region ?_
        refine L_mv (v := .func (.func fid_2) #[] caps_2) rfl sf2 ?_
        refine L_mv (v := r14_0) rfl sf6 ?_
        obtain ⟨Hb28, hle29, hsb30, hfz31, hbk32⟩ := Star.borrow hst
        have hb33 : (RP.slice 3 RP.int).rel Hb28 [r14_0] cells_17 := fz_own 0 hfz31 rfl
        refine L_callv (args := #[r14_0]) rfl hcall_2 rfl (ops1 rfl) (hc_2 _ _ (Le.trans hle19 hle29) hsb30 [r14_0] _ _ _ hb33 hx21 (args_app rfl)) ?_
        rintro _ w34 ⟨rfl, hst⟩
        have hst := hbk32 hst closedL_nil
        refine L_nil ?_
        refine W_cond (b := x21) rfl (fun hc35 => ?_) (fun hc35 => ?_)
        ·
          have hB20 := (ite_t hc35).symm.trans hB20
          refine W_skip ?_
          refine W_block ?_
          refine W_seq ?_
          refine W_region ?_
          refine L_mv (v := r14_0) rfl sf6 ?_
          refine L_len (v := r14_0) (n := List.length cells_17) rfl Try.underlying23 rfl (Star.len 0 hst rfl) ?_
          refine L_sub (m := (cells_17.length : Int)) (n := 1) rfl rfl rfl ?_
          refine L_as (v := .int .i64 (i64 ((cells_17.length : Int) - 1))) rfl rfl ?_
          refine L_nil ?_
          refine W_seq ?_
          obtain ⟨j41, hL41, hB20⟩ := bind_some hB20
          obtain ⟨R41, hR41⟩ : ∃ RR_ : Fr → World → Prop, RR_ = fun f w_ => ∃ cells_37 : List Int, ∃ i_38 : Int, ∃ H39 : FH, j41 = .nx (cells_37, i_38) ∧ Le H18 H39 ∧ f 0 = v0 ∧ f 2 = .func (.func fid_2) #[] caps_2 ∧ f 6 = r14_0 ∧ f 7 = .int .i64 i_38 ∧ Star H39 w_ ([own (OR.ownS 3 (OR.frz RP.int)) [r14_0] cells_37]) := ⟨_, rfl⟩
          refine W_join R41 ?_ ?_
          ·
            refine W_block ?_
            obtain ⟨I41, hI41⟩ : ∃ I : Nat → Fr → World → Prop, I = fun n f w_ => ∃ cells_37 : List Int, ∃ i_38 : Int, ∃ H39 : FH, whileL (i_each_b2 sizes) n (cells_37, i_38) = some j41 ∧ Le H18 H39 ∧ f 0 = v0 ∧ f 2 = .func (.func fid_2) #[] caps_2 ∧ f 6 = r14_0 ∧ f 7 = .int .i64 i_38 ∧ Star H39 w_ ([own (OR.ownS 3 (OR.frz RP.int)) [r14_0] cells_37]) := ⟨_, rfl⟩
            refine W_loop I41 (n := fu) ?_ ?_
            · rw [hI41]; exact ⟨cells_17, i64 ((cells_17.length : Int) - 1), H18, hL41, (Le.refl _), sf0, sf2, sf6, rfl, hst⟩
            ·
              clear hst
              intro n41 f w_ hI
              rw [hI41] at hI
              obtain ⟨cells_37, i_38, H39, hL41, hle40, sf0, sf2, sf6, sf7, hst⟩ := hI
              cases n41 with
              | zero => exact (while_zero hL41).elim
              | succ n41 =>
                obtain ⟨o41, hB41, hL41⟩ := while_succ hL41
                rw [i_each_b2] at hB41
                refine W_seq ?_
                refine W_seq ?_
                obtain ⟨b52, hb52, hB41⟩ := bind_some hB41
                obtain ⟨R56, hR56⟩ : ∃ RR_ : Fr → World → Prop, RR_ = fun f w_ => ∃ H54 : FH, Le H39 H54 ∧ f 0 = v0 ∧ f 2 = .func (.func fid_2) #[] caps_2 ∧ f 6 = r14_0 ∧ f 7 = .int .i64 i_38 ∧ f 28 = .bool b52 ∧ Star H54 w_ ([own (OR.ownS 3 (OR.frz RP.int)) [r14_0] cells_37]) := ⟨_, rfl⟩
                refine W_join R56 ?_ ?_
                ·
                  rcases Bool.eq_false_or_eq_true (decide (i_38 ≥ 0)) with hc57 | hc57
                  ·
                    rw [ite_t hc57] at hb52
                    obtain ⟨x42, hx42, hb52⟩ := bind_some hb52
                    obtain ⟨x47, hx47, hb52⟩ := bind_some hb52
                    obtain ⟨g58, cap_g58, hv59, _, _⟩ := Star.row 0 hst rfl hx42
                    refine W_drawS 11 [isV (.int .i64 i_38), isV (.bool (decide (i_38 ≥ 0))), isV (.bool (decide (i_38 ≥ 0))), isV (r14_0), isV (.int .i64 i_38), isV (.pointer (some ⟨g58, Int.toNat i_38 * 1, none⟩)), isV (.int .i64 x42), isV (v0), isV (.int .i64 i_38), isEl RP.int x47 0, isV (.int .i64 x47)] [own (OR.ownS 3 (OR.frz RP.int)) [r14_0] cells_37] [] ([]) [([], []), ([], []), ([], []), ([], []), ([], []), ([], []), ([], []), ([], []), ([], []), ([], []), ([], [])] (S := []) Try_mix (by kernel_rfl) rfl (by kernel_rfl) (amF_cons (mono_V _) (amF_cons (mono_V _) (amF_cons (mono_V _) (amF_cons (mono_V _) (amF_cons (mono_V _) (amF_cons (mono_V _) (amF_cons (mono_V _) (amF_cons (mono_V _) (amF_cons (mono_V _) (amF_cons (mono_el _ _ _) (amF_cons (mono_V _) amF_nil))))))))))) hst ?_ (fun f w_ H53 hS53 hE53 hT53 hst => ?_)
                    ·
                      refine opsS_cons ?_ ?_
                      ·
                        intro f w_ H53 X53 hS53 hE53 hP53 hst
                        refine L_mv (v := .int .i64 i_38) rfl ((hS53 7 rfl).trans sf7) ?_
                        exact L_nil ⟨rfl, _, _, _, rfl, rfl, Le.refl _, rfl, hst⟩
                      refine opsS_cons ?_ ?_
                      ·
                        intro f w_ H53 X53 hS53 hE53 hP53 hst
                        refine L_geq (m := i_38) (n := 0) rfl (hP53 0 16 rfl rfl) rfl ?_
                        exact L_nil ⟨rfl, _, _, _, rfl, rfl, Le.refl _, rfl, hst⟩
                      refine opsS_cons ?_ ?_
                      ·
                        intro f w_ H53 X53 hS53 hE53 hP53 hst
                        refine L_mv (v := .bool (decide (i_38 ≥ 0))) rfl (hP53 1 17 rfl rfl) ?_
                        exact L_nil ⟨rfl, _, _, _, rfl, rfl, Le.refl _, rfl, hst⟩
                      refine opsS_cons ?_ ?_
                      ·
                        intro f w_ H53 X53 hS53 hE53 hP53 hst
                        refine L_mv (v := r14_0) (g_yes rfl (Eq.trans (hP53 2 18 rfl rfl) (congrArg Value.bool hc57)) rfl) ((hS53 6 rfl).trans sf6) ?_
                        exact L_nil ⟨rfl, _, _, _, rfl, rfl, Le.refl _, rfl, hst⟩
                      refine opsS_cons ?_ ?_
                      ·
                        intro f w_ H53 X53 hS53 hE53 hP53 hst
                        refine L_mv (v := .int .i64 i_38) (g_yes rfl (Eq.trans (hP53 2 18 rfl rfl) (congrArg Value.bool hc57)) rfl) ((hS53 7 rfl).trans sf7) ?_
                        exact L_nil ⟨rfl, _, _, _, rfl, rfl, Le.refl _, rfl, hst⟩
                      refine opsS_cons ?_ ?_
                      ·
                        intro f w_ H53 X53 hS53 hE53 hP53 hst
                        refine L_ixO (R := (OR.frz RP.int)) (tb := 0) 0 (g_yes rfl (Eq.trans (hP53 2 18 rfl rfl) (congrArg Value.bool hc57)) rfl) Try.underlying23 Try.sizeOf3 (hP53 3 19 rfl rfl) hv59 (by first | rfl | simp) (hP53 4 20 rfl rfl) hx42 ?_
                        exact L_nil ⟨rfl, _, _, _, rfl, rfl, Le.refl _, rfl, hst⟩
                      refine opsS_cons ?_ ?_
                      ·
                        intro f w_ H53 X53 hS53 hE53 hP53 hst
                        obtain ⟨cs66, hr66, hat66⟩ := Star.eltF 0 hst rfl hv59 hx42
                        obtain rfl : _ = [_] := hr66
                        refine L_ld (v := .int .i64 x42) (g_yes rfl (Eq.trans (hP53 2 18 rfl rfl) (congrArg Value.bool hc57)) rfl) Try.isAgg3 (hP53 5 21 rfl rfl) (At.cell hat66 (j := 0) rfl) ?_
                        exact L_nil ⟨rfl, _, _, _, rfl, rfl, Le.refl _, rfl, hst⟩
                      refine opsS_cons ?_ ?_
                      ·
                        intro f w_ H53 X53 hS53 hE53 hP53 hst
                        refine L_mv (v := v0) (g_yes rfl (Eq.trans (hP53 2 18 rfl rfl) (congrArg Value.bool hc57)) rfl) ((hS53 0 rfl).trans sf0) ?_
                        exact L_nil ⟨rfl, _, _, _, rfl, rfl, Le.refl _, rfl, hst⟩
                      refine opsS_cons ?_ ?_
                      ·
                        intro f w_ H53 X53 hS53 hE53 hP53 hst
                        refine L_mv (v := .int .i64 i_38) (g_yes rfl (Eq.trans (hP53 2 18 rfl rfl) (congrArg Value.bool hc57)) rfl) ((hS53 7 rfl).trans sf7) ?_
                        exact L_nil ⟨rfl, _, _, _, rfl, rfl, Le.refl _, rfl, hst⟩
                      refine opsS_cons ?_ ?_
                      ·
                        intro f w_ H53 X53 hS53 hE53 hP53 hst
                        refine L_ix (r := RP.int) (g_yes rfl (Eq.trans (hP53 2 18 rfl rfl) (congrArg Value.bool hc57)) rfl) Try.underlying23 Try.sizeOf3 (hP53 7 23 rfl rfl) (RP.mono _ h0 (Le.trans (Le.trans hle19 hle40) hE53)) (hP53 8 24 rfl rfl) hx47 ?_
                        intro g68 o69 cs_g68 hrk_hat70 hat70
                        obtain rfl : _ = [_] := hrk_hat70
                        exact L_nil ⟨rfl, _, _, _, rfl, rfl, Le.refl _, ⟨_, _, _, rfl, rfl, hat70⟩, hst⟩
                      refine opsS_cons ?_ ?_
                      ·
                        intro f w_ H53 X53 hS53 hE53 hP53 hst
                        obtain ⟨g72, o72, cs72, hv72, hrk_hat72, hat72⟩ := (hP53 9 25 rfl rfl)
                        obtain rfl : _ = [_] := hrk_hat72
                        refine L_ld (v := .int .i64 x47) (g_yes rfl (Eq.trans (hP53 2 18 rfl rfl) (congrArg Value.bool hc57)) rfl) Try.isAgg3 hv72 (At.cell (AtH.at hat72 hst.sub) (j := 0) rfl) ?_
                        exact L_nil ⟨rfl, _, _, _, rfl, rfl, Le.refl _, rfl, hst⟩
                      exact opsS_nil
                    ·
                      refine L_eql (m := x42) (n := x47) (g_yes rfl (Eq.trans (hT53 2 18 rfl rfl) (congrArg Value.bool hc57)) rfl) (hT53 6 22 rfl rfl) (hT53 10 26 rfl rfl) ?_
                      refine L_pick (v := .bool b52) rfl (Eq.trans (hT53 2 18 rfl rfl) (congrArg Value.bool hc57)) (congrArg Value.bool (so hb52)) ?_
                      refine L_nil ?_
                      show R56 _ _
                      rw [hR56]
                      exact ⟨H53, hE53, ((hS53 0 rfl).trans sf0), ((hS53 2 rfl).trans sf2), ((hS53 6 rfl).trans sf6), ((hS53 7 rfl).trans sf7), rfl, hst⟩
                  ·
                    rw [ite_f hc57] at hb52
                    refine W_drawS 11 [isV (.int .i64 i_38), isV (.bool (decide (i_38 ≥ 0))), isV (.bool (decide (i_38 ≥ 0))), isV (undef), isV (undef), isV (undef), isV (undef), isV (undef), isV (undef), isV (undef), isV (undef)] [own (OR.ownS 3 (OR.frz RP.int)) [r14_0] cells_37] [] ([]) [([], []), ([], []), ([], []), ([], []), ([], []), ([], []), ([], []), ([], []), ([], []), ([], []), ([], [])] (S := []) Try_mix (by kernel_rfl) rfl (by kernel_rfl) (amF_cons (mono_V _) (amF_cons (mono_V _) (amF_cons (mono_V _) (amF_cons (mono_V _) (amF_cons (mono_V _) (amF_cons (mono_V _) (amF_cons (mono_V _) (amF_cons (mono_V _) (amF_cons (mono_V _) (amF_cons (mono_V _) (amF_cons (mono_V _) amF_nil))))))))))) hst ?_ (fun f w_ H53 hS53 hE53 hT53 hst => ?_)
                    ·
                      refine opsS_cons ?_ ?_
                      ·
                        intro f w_ H53 X53 hS53 hE53 hP53 hst
                        refine L_mv (v := .int .i64 i_38) rfl ((hS53 7 rfl).trans sf7) ?_
                        exact L_nil ⟨rfl, _, _, _, rfl, rfl, Le.refl _, rfl, hst⟩
                      refine opsS_cons ?_ ?_
                      ·
                        intro f w_ H53 X53 hS53 hE53 hP53 hst
                        refine L_geq (m := i_38) (n := 0) rfl (hP53 0 16 rfl rfl) rfl ?_
                        exact L_nil ⟨rfl, _, _, _, rfl, rfl, Le.refl _, rfl, hst⟩
                      refine opsS_cons ?_ ?_
                      ·
                        intro f w_ H53 X53 hS53 hE53 hP53 hst
                        refine L_mv (v := .bool (decide (i_38 ≥ 0))) rfl (hP53 1 17 rfl rfl) ?_
                        exact L_nil ⟨rfl, _, _, _, rfl, rfl, Le.refl _, rfl, hst⟩
                      refine opsS_cons ?_ ?_
                      ·
                        intro f w_ H53 X53 hS53 hE53 hP53 hst
                        refine L_pass (g_no rfl (Eq.trans (hP53 2 18 rfl rfl) (congrArg Value.bool hc57)) rfl rfl) ?_
                        exact L_nil ⟨rfl, _, _, _, rfl, rfl, Le.refl _, rfl, hst⟩
                      refine opsS_cons ?_ ?_
                      ·
                        intro f w_ H53 X53 hS53 hE53 hP53 hst
                        refine L_pass (g_no rfl (Eq.trans (hP53 2 18 rfl rfl) (congrArg Value.bool hc57)) rfl rfl) ?_
                        exact L_nil ⟨rfl, _, _, _, rfl, rfl, Le.refl _, rfl, hst⟩
                      refine opsS_cons ?_ ?_
                      ·
                        intro f w_ H53 X53 hS53 hE53 hP53 hst
                        refine L_pass (g_no rfl (Eq.trans (hP53 2 18 rfl rfl) (congrArg Value.bool hc57)) rfl rfl) ?_
                        exact L_nil ⟨rfl, _, _, _, rfl, rfl, Le.refl _, rfl, hst⟩
                      refine opsS_cons ?_ ?_
                      ·
                        intro f w_ H53 X53 hS53 hE53 hP53 hst
                        refine L_pass (g_no rfl (Eq.trans (hP53 2 18 rfl rfl) (congrArg Value.bool hc57)) rfl rfl) ?_
                        exact L_nil ⟨rfl, _, _, _, rfl, rfl, Le.refl _, rfl, hst⟩
                      refine opsS_cons ?_ ?_
                      ·
                        intro f w_ H53 X53 hS53 hE53 hP53 hst
                        refine L_pass (g_no rfl (Eq.trans (hP53 2 18 rfl rfl) (congrArg Value.bool hc57)) rfl rfl) ?_
                        exact L_nil ⟨rfl, _, _, _, rfl, rfl, Le.refl _, rfl, hst⟩
                      refine opsS_cons ?_ ?_
                      ·
                        intro f w_ H53 X53 hS53 hE53 hP53 hst
                        refine L_pass (g_no rfl (Eq.trans (hP53 2 18 rfl rfl) (congrArg Value.bool hc57)) rfl rfl) ?_
                        exact L_nil ⟨rfl, _, _, _, rfl, rfl, Le.refl _, rfl, hst⟩
                      refine opsS_cons ?_ ?_
                      ·
                        intro f w_ H53 X53 hS53 hE53 hP53 hst
                        refine L_pass (g_no rfl (Eq.trans (hP53 2 18 rfl rfl) (congrArg Value.bool hc57)) rfl rfl) ?_
                        exact L_nil ⟨rfl, _, _, _, rfl, rfl, Le.refl _, rfl, hst⟩
                      refine opsS_cons ?_ ?_
                      ·
                        intro f w_ H53 X53 hS53 hE53 hP53 hst
                        refine L_pass (g_no rfl (Eq.trans (hP53 2 18 rfl rfl) (congrArg Value.bool hc57)) rfl rfl) ?_
                        exact L_nil ⟨rfl, _, _, _, rfl, rfl, Le.refl _, rfl, hst⟩
                      exact opsS_nil
                    ·
                      refine L_pass (g_no rfl (Eq.trans (hT53 2 18 rfl rfl) (congrArg Value.bool hc57)) rfl rfl) ?_
                      refine L_pick (v := .bool b52) rfl (Eq.trans (hT53 2 18 rfl rfl) (congrArg Value.bool hc57)) (congrArg Value.bool (so hb52)) ?_
                      refine L_nil ?_
                      show R56 _ _
                      rw [hR56]
                      exact ⟨H53, hE53, ((hS53 0 rfl).trans sf0), ((hS53 2 rfl).trans sf2), ((hS53 6 rfl).trans sf6), ((hS53 7 rfl).trans sf7), rfl, hst⟩
                ·
                  intro f w_ hR
                  rw [hR56] at hR
                  obtain ⟨H54, hle55, sf0, sf2, sf6, sf7, sf28, hst⟩ := hR
                  clear hR56
                  refine W_cond (b := b52) sf28 (fun hc74 => ?_) (fun hc74 => ?_)
                  ·
                    have hB41 := (ite_t hc74).symm.trans hB41
                    refine W_skip ?_
                    refine W_block ?_
                    refine W_seq ?_
                    obtain ⟨x75, hx75, hB41⟩ := bind_some hB41
                    refine W_region ?_
                    refine L_mv (v := r14_0) rfl sf6 ?_
                    refine L_mv (v := .int .i64 i_38) rfl sf7 ?_
                    obtain ⟨g79, cap_g79, hv80, _, _⟩ := Star.row 0 hst rfl hx75
                    refine L_ixO (R := (OR.frz RP.int)) (tb := 0) 0 rfl Try.underlying23 Try.sizeOf3 rfl hv80 (by first | rfl | simp) rfl hx75 ?_
                    have hst := Star.addF (r := RP.int) (cs := [.int .i64 0]) (x := 0) hst rfl
                    refine L_stE1 (u := .int .i64 0) rfl Try.sizeOf3 rfl rfl rfl hv80 hst hx75 ?_
                    intro w81 hst
                    refine L_nil ?_
                    refine W_region ?_
                    refine L_mv (v := .int .i64 i_38) rfl sf7 ?_
                    refine L_sub (m := i_38) (n := 1) rfl rfl rfl ?_
                    refine L_as (v := .int .i64 (i64 (i_38 - 1))) rfl rfl ?_
                    refine L_nil ?_
                    obtain rfl := so hB41
                    show ∃ m, m < _ ∧ I41 m _ _
                    refine ⟨n41, Nat.lt_succ_self _, ?_⟩
                    rw [hI41]
                    exact ⟨(cells_37.set (Int.toNat i_38) 0), i64 (i_38 - 1), H54, hL41, (Le.trans hle40 hle55), sf0, sf2, sf6, rfl, hst⟩
                  ·
                    have hB41 := (ite_f hc74).symm.trans hB41
                    refine W_exit ?_
                    obtain rfl := so hB41
                    obtain rfl := so hL41
                    show R41 _ _
                    rw [hR41]
                    exact ⟨cells_37, i_38, H54, rfl, (Le.trans hle40 hle55), sf0, sf2, sf6, sf7, hst⟩
          ·
            clear hst
            intro f w_ hR
            rw [hR41] at hR
            obtain ⟨cells_37, i_38, H39, rfl, hle40, sf0, sf2, sf6, sf7, hst⟩ := hR
            clear hR41
            refine W_seq ?_
            refine W_seq ?_
            refine W_region ?_
            refine L_mv (v := .int .i64 i_38) rfl sf7 ?_
            refine L_lss (m := i_38) (n := 0) rfl rfl rfl ?_
            refine L_nil ?_
            refine W_cond (b := decide (i_38 < 0)) rfl (fun hc82 => ?_) (fun hc82 => ?_)
            ·
              have hB20 := (ite_t hc82).symm.trans hB20
              refine W_ret ?_
              refine ret0 Try.results63 ?_
              obtain rfl := so hB20
              obtain rfl := so hL20
              obtain rfl := so hF
              exact ⟨rfl, (Star.down (Star.keepN 0 hst) (Le.trans hle19 hle40) closedL_nil)⟩
            ·
              have hB20 := (ite_f hc82).symm.trans hB20
              refine W_skip ?_
              obtain ⟨x83, hx83, hB20⟩ := bind_some hB20
              refine W_region ?_
              refine L_mv (v := r14_0) rfl sf6 ?_
              refine L_mv (v := .int .i64 i_38) rfl sf7 ?_
              obtain ⟨g89, cap_g89, hv90, _, _⟩ := Star.row 0 hst rfl hx83
              refine L_ixO (R := (OR.frz RP.int)) (tb := 0) 0 rfl Try.underlying23 Try.sizeOf3 rfl hv90 (by first | rfl | simp) rfl hx83 ?_
              obtain ⟨cs91, hr91, hat91⟩ := Star.eltF 0 hst rfl hv90 hx83
              obtain rfl : _ = [_] := hr91
              refine L_ld (v := .int .i64 x83) rfl Try.isAgg3 rfl (At.cell hat91 (j := 0) rfl) ?_
              refine L_add (m := x83) (n := 1) rfl rfl rfl ?_
              refine L_ixO (R := (OR.frz RP.int)) (tb := 0) 0 rfl Try.underlying23 Try.sizeOf3 rfl hv90 (by first | rfl | simp) rfl hx83 ?_
              have hst := Star.addF (r := RP.int) (cs := [.int .i64 (i64 (x83 + 1))]) (x := (i64 (x83 + 1))) hst rfl
              refine L_stE1 (u := .int .i64 (i64 (x83 + 1))) rfl Try.sizeOf3 rfl rfl rfl hv90 hst hx83 ?_
              intro w93 hst
              refine L_nil ?_
              obtain rfl := so hB20
              show ∃ m, m < _ ∧ I20 m _ _
              refine ⟨n20, Nat.lt_succ_self _, ?_⟩
              rw [hI20]
              exact ⟨(cells_37.set (Int.toNat i_38) (i64 (x83 + 1))), H39, hL20, (Le.trans hle19 hle40), sf0, sf2, sf6, hst⟩
        ·
          have hB20 := (ite_f hc35).symm.trans hB20
          refine W_exit ?_
          obtain rfl := so hB20
          obtain rfl := so hL20
          show R20 _ _
          rw [hR20]
          exact ⟨cells_17, H18, rfl, hle19, (Star.keepN 0 hst)⟩
  ·
    clear hst
    intro f w_ hR
    rw [hR20] at hR
    obtain ⟨cells_17, H18, rfl, hle19, hst⟩ := hR
    clear hR20
    refine ret0 Try.results63 ?_
    obtain rfl := so hF
    exact ⟨rfl, (Star.down hst hle19 closedL_nil)⟩

theorem s_l6Next_c {fu : Nat} {m : Model} {cells : List Int} {v0_0 : Value} {v0_1 : Value} {v1 : Value} {H : FH} {w : World} (hst : Star H w []) (h0_0 : (RP.slice 3 RP.int).rel H [v0_0] m.sizes) (h0_1 : (RP.slice 36 (rRule 3 23)).rel H [v0_1] m.rules) (h1 : (RP.slice 3 RP.int).rel H [v1] cells) {r : (List Int) × Bool} (hF : s_l6Next fu m cells = some r) :
    C Try.prog 65 #[.agg #[v0_0, v0_1], v1] w fun v w' => ∃ (u1 : Value), v = .tuple #[u1, .bool r.2] ∧ Star H w' [own (OR.ownS 3 (OR.frz RP.int)) [u1] r.1] := by
  unfold s_l6Next at hF
  refine C_enter Try.func65 rfl Try.ntmps65 rfl ?_
  refine W_seq ?_
  refine W_region ?_
  refine L_box (v := .agg #[v0_0, v0_1]) (cs := #[v0_0, v0_1]) rfl rfl rfl hst ?_
  intro g3 w4 hst
  refine L_as (v := (.slice none 0 0)) rfl rfl ?_
  refine L_as (v := .bool false) rfl rfl ?_
  refine L_nil ?_
  refine W_seq ?_
  obtain ⟨x8, hx8, hF⟩ := bind_some hF
  refine W_region ?_
  refine L_bs rfl parts0 (bs_23_0  ) hst ?_
  intro g12 w13 hst
  have hst := Star.mkRow (R := (OR.frz RP.int)) [] [] 0 hst rfl rfl rfl (by decide)
  refine L_mv (v := v1) rfl rfl ?_
  refine L_app (v := (.slice (some ⟨g12, 0, none⟩) 0 0)) (u := v1) rfl et_23 rfl rfl hst h1 hx8 ?_
  intro v15 w16 hst
  refine L_as (v := v15) rfl rfl ?_
  refine L_nil ?_
  refine W_seq ?_
  refine W_seq ?_
  refine W_region ?_
  refine L_mv (v := v15) rfl rfl ?_
  refine L_len (v := v15) (n := List.length x8) rfl Try.underlying23 rfl (Star.len 0 hst rfl) ?_
  refine L_sub (m := (x8.length : Int)) (n := 1) rfl rfl rfl ?_
  refine L_as (v := .int .i64 (i64 ((x8.length : Int) - 1))) rfl rfl ?_
  refine L_nil ?_
  obtain ⟨j23, hL23, hF⟩ := bind_some hF
  obtain ⟨R23, hR23⟩ : ∃ RR_ : Fr → World → Prop, RR_ = fun f w_ => ∃ out_19 : List Int, ∃ i_20 : Int, ∃ H21 : FH, j23 = .nx (out_19, i_20) ∧ Le H H21 ∧ f 6 = v15 ∧ Star H21 w_ ([own (OR.ownS 3 (OR.frz RP.int)) [v15] out_19]) := ⟨_, rfl⟩
  refine W_join R23 ?_ ?_
  ·
    refine W_block ?_
    obtain ⟨I23, hI23⟩ : ∃ I : Nat → Fr → World → Prop, I = fun n f w_ => ∃ out_19 : List Int, ∃ i_20 : Int, ∃ H21 : FH, whileL (s_l6Next_b1 m) n (out_19, i_20) = some j23 ∧ Le H H21 ∧ f 2 = .pointer (some ⟨g3, 0, none⟩) ∧ f 6 = v15 ∧ f 7 = .int .i64 i_20 ∧ Star H21 w_ ([own (OR.ownS 3 (OR.frz RP.int)) [v15] out_19, box g3 26 #[v0_0, v0_1]]) := ⟨_, rfl⟩
    refine W_loop I23 (n := fu) ?_ ?_
    · rw [hI23]; exact ⟨x8, i64 ((x8.length : Int) - 1), H, hL23, (Le.refl _), rfl, rfl, rfl, hst⟩
    ·
      clear hst
      intro n23 f w_ hI
      rw [hI23] at hI
      obtain ⟨out_19, i_20, H21, hL23, hle22, sf2, sf6, sf7, hst⟩ := hI
      cases n23 with
      | zero => exact (while_zero hL23).elim
      | succ n23 =>
        obtain ⟨o23, hB23, hL23⟩ := while_succ hL23
        rw [s_l6Next_b1] at hB23
        refine W_seq ?_
        refine W_seq ?_
        refine W_region ?_
        refine L_mv (v := .int .i64 i_20) rfl sf7 ?_
        refine L_geq (m := i_20) (n := 0) rfl rfl rfl ?_
        refine L_nil ?_
        refine W_cond (b := decide (i_20 ≥ 0)) rfl (fun hc24 => ?_) (fun hc24 => ?_)
        ·
          have hB23 := (ite_t hc24).symm.trans hB23
          refine W_skip ?_
          refine W_seq ?_
          refine W_block ?_
          refine W_seq ?_
          refine W_seq ?_
          obtain ⟨x25, hx25, hB23⟩ := bind_some hB23
          obtain ⟨x30, hx30, hB23⟩ := bind_some hB23
          obtain ⟨g36, cap_g36, hv37, _, _⟩ := Star.row 0 hst rfl hx25
          refine W_drawS 9 [isV (v15), isV (.int .i64 i_20), isV (.pointer (some ⟨g36, Int.toNat i_20 * 1, none⟩)), isV (.int .i64 x25), isV (.pointer (some ⟨g3, 0, none⟩)), isV (v0_0), isV (.int .i64 i_20), isEl RP.int x30 0, isV (.int .i64 x30)] [own (OR.ownS 3 (OR.frz RP.int)) [v15] out_19, box g3 26 #[v0_0, v0_1]] [] ([]) [([], []), ([], []), ([], []), ([], []), ([], []), ([], []), ([], []), ([], []), ([], [])] (S := []) Try_mix (by kernel_rfl) rfl (by kernel_rfl) (amF_cons (mono_V _) (amF_cons (mono_V _) (amF_cons (mono_V _) (amF_cons (mono_V _) (amF_cons (mono_V _) (amF_cons (mono_V _) (amF_cons (mono_V _) (amF_cons (mono_el _ _ _) (amF_cons (mono_V _) amF_nil))))))))) hst ?_ (fun f w_ H35 hS35 hE35 hT35 hst => ?_)
          ·
            refine opsS_cons ?_ ?_
            ·
              intro f w_ H35 X35 hS35 hE35 hP35 hst
              refine L_mv (v := v15) rfl ((hS35 6 rfl).trans sf6) ?_
              exact L_nil ⟨rfl, _, _, _, rfl, rfl, Le.refl _, rfl, hst⟩
            refine opsS_cons ?_ ?_
            ·
              intro f w_ H35 X35 hS35 hE35 hP35 hst
              refine L_mv (v := .int .i64 i_20) rfl ((hS35 7 rfl).trans sf7) ?_
              exact L_nil ⟨rfl, _, _, _, rfl, rfl, Le.refl _, rfl, hst⟩
            refine opsS_cons ?_ ?_
            ·
              intro f w_ H35 X35 hS35 hE35 hP35 hst
              refine L_ixO (R := (OR.frz RP.int)) (tb := 0) 0 rfl Try.underlying23 Try.sizeOf3 (hP35 0 18 rfl rfl) hv37 (by first | rfl | simp) (hP35 1 19 rfl rfl) hx25 ?_
              exact L_nil ⟨rfl, _, _, _, rfl, rfl, Le.refl _, rfl, hst⟩
            refine opsS_cons ?_ ?_
            ·
              intro f w_ H35 X35 hS35 hE35 hP35 hst
              obtain ⟨cs44, hr44, hat44⟩ := Star.eltF 0 hst rfl hv37 hx25
              obtain rfl : _ = [_] := hr44
              refine L_ld (v := .int .i64 x25) rfl Try.isAgg3 (hP35 2 20 rfl rfl) (At.cell hat44 (j := 0) rfl) ?_
              exact L_nil ⟨rfl, _, _, _, rfl, rfl, Le.refl _, rfl, hst⟩
            refine opsS_cons ?_ ?_
            ·
              intro f w_ H35 X35 hS35 hE35 hP35 hst
              refine L_fa (o' := 0) rfl fa_26_0 ((hS35 2 rfl).trans sf2) rfl ?_
              exact L_nil ⟨rfl, _, _, _, rfl, rfl, Le.refl _, rfl, hst⟩
            refine opsS_cons ?_ ?_
            ·
              intro f w_ H35 X35 hS35 hE35 hP35 hst
              refine L_ld (v := v0_0) rfl Try.isAgg23 (hP35 4 22 rfl rfl) (At.cell0 (Blk.at (Star.blkAt 1 hst rfl)) (j := 0) rfl) ?_
              exact L_nil ⟨rfl, _, _, _, rfl, rfl, Le.refl _, rfl, hst⟩
            refine opsS_cons ?_ ?_
            ·
              intro f w_ H35 X35 hS35 hE35 hP35 hst
              refine L_mv (v := .int .i64 i_20) rfl ((hS35 7 rfl).trans sf7) ?_
              exact L_nil ⟨rfl, _, _, _, rfl, rfl, Le.refl _, rfl, hst⟩
            refine opsS_cons ?_ ?_
            ·
              intro f w_ H35 X35 hS35 hE35 hP35 hst
              refine L_ix (r := RP.int) rfl Try.underlying23 Try.sizeOf3 (hP35 5 23 rfl rfl) (RP.mono _ h0_0 (Le.trans hle22 hE35)) (hP35 6 24 rfl rfl) hx30 ?_
              intro g46 o47 cs_g46 hrk_hat48 hat48
              obtain rfl : _ = [_] := hrk_hat48
              exact L_nil ⟨rfl, _, _, _, rfl, rfl, Le.refl _, ⟨_, _, _, rfl, rfl, hat48⟩, hst⟩
            refine opsS_cons ?_ ?_
            ·
              intro f w_ H35 X35 hS35 hE35 hP35 hst
              obtain ⟨g50, o50, cs50, hv50, hrk_hat50, hat50⟩ := (hP35 7 25 rfl rfl)
              obtain rfl : _ = [_] := hrk_hat50
              refine L_ld (v := .int .i64 x30) rfl Try.isAgg3 hv50 (At.cell (AtH.at hat50 hst.sub) (j := 0) rfl) ?_
              exact L_nil ⟨rfl, _, _, _, rfl, rfl, Le.refl _, rfl, hst⟩
            exact opsS_nil
          ·
            refine L_lss (m := x25) (n := x30) rfl (hT35 3 21 rfl rfl) (hT35 8 26 rfl rfl) ?_
            refine L_nil ?_
            refine W_cond (b := decide (x25 < x30)) rfl (fun hc52 => ?_) (fun hc52 => ?_)
            ·
              have hB23 := (ite_t hc52).symm.trans hB23
              refine W_seq ?_
              refine W_region ?_
              refine L_mv (v := v15) rfl ((hS35 6 rfl).trans sf6) ?_
              refine L_mv (v := .int .i64 i_20) rfl ((hS35 7 rfl).trans sf7) ?_
              refine L_mv (v := v15) rfl ((hS35 6 rfl).trans sf6) ?_
              refine L_mv (v := .int .i64 i_20) rfl ((hS35 7 rfl).trans sf7) ?_
              refine L_ixO (R := (OR.frz RP.int)) (tb := 0) 0 rfl Try.underlying23 Try.sizeOf3 rfl hv37 (by first | rfl | simp) rfl hx25 ?_
              obtain ⟨cs56, hr56, hat56⟩ := Star.eltF 0 hst rfl hv37 hx25
              obtain rfl : _ = [_] := hr56
              refine L_ld (v := .int .i64 x25) rfl Try.isAgg3 rfl (At.cell hat56 (j := 0) rfl) ?_
              refine L_add (m := x25) (n := 1) rfl rfl rfl ?_
              refine L_ixO (R := (OR.frz RP.int)) (tb := 0) 0 rfl Try.underlying23 Try.sizeOf3 rfl hv37 (by first | rfl | simp) rfl hx25 ?_
              have hst := Star.addF (r := RP.int) (cs := [.int .i64 (i64 (x25 + 1))]) (x := (i64 (x25 + 1))) hst rfl
              refine L_stE1 (u := .int .i64 (i64 (x25 + 1))) rfl Try.sizeOf3 rfl rfl rfl hv37 hst hx25 ?_
              intro w58 hst
              refine L_nil ?_
              refine W_seq ?_
              refine W_region ?_
              refine L_mv (v := v15) rfl ((hS35 6 rfl).trans sf6) ?_
              refine L_as (v := v15) rfl rfl ?_
              refine L_as (v := .bool true) rfl rfl ?_
              refine L_nil ?_
              refine W_ret ?_
              refine retG2 (v1 := v15) (v2 := .bool true) Try.results65 rfl rfl ?_
              obtain rfl := so hB23
              obtain rfl := so hL23
              obtain rfl := so hF
              exact ⟨v15, rfl, (Star.down (Star.keepN 1 hst) (Le.trans hle22 hE35) (closedL_cons (closed_own (OR.closed_ownS closed_int) _ _) closedL_nil))⟩
            ·
              have hB23 := (ite_f hc52).symm.trans hB23
              refine W_skip ?_
              refine W_region ?_
              refine L_mv (v := v15) rfl ((hS35 6 rfl).trans sf6) ?_
              refine L_mv (v := .int .i64 i_20) rfl ((hS35 7 rfl).trans sf7) ?_
              refine L_ixO (R := (OR.frz RP.int)) (tb := 0) 0 rfl Try.underlying23 Try.sizeOf3 rfl hv37 (by first | rfl | simp) rfl hx25 ?_
              have hst := Star.addF (r := RP.int) (cs := [.int .i64 0]) (x := 0) hst rfl
              refine L_stE1 (u := .int .i64 0) rfl Try.sizeOf3 rfl rfl rfl hv37 hst hx25 ?_
              intro w60 hst
              refine L_nil ?_
              refine W_region ?_
              refine L_mv (v := .int .i64 i_20) rfl ((hS35 7 rfl).trans sf7) ?_
              refine L_sub (m := i_20) (n := 1) rfl rfl rfl ?_
              refine L_as (v := .int .i64 (i64 (i_20 - 1))) rfl rfl ?_
              refine L_nil ?_
              obtain rfl := so hB23
              show ∃ m, m < _ ∧ I23 m _ _
              refine ⟨n23, Nat.lt_succ_self _, ?_⟩
              rw [hI23]
              exact ⟨(out_19.set (Int.toNat i_20) 0), i64 (i_20 - 1), H35, hL23, (Le.trans hle22 hE35), ((hS35 2 rfl).trans sf2), ((hS35 6 rfl).trans sf6), rfl, hst⟩
        ·
          have hB23 := (ite_f hc24).symm.trans hB23
          refine W_exit ?_
          obtain rfl := so hB23
          obtain rfl := so hL23
          show R23 _ _
          rw [hR23]
          exact ⟨out_19, i_20, H21, rfl, hle22, sf6, (Star.keepN 1 hst)⟩
  ·
    clear hst
    intro f w_ hR
    rw [hR23] at hR
    obtain ⟨out_19, i_20, H21, rfl, hle22, sf6, hst⟩ := hR
    clear hR23
    refine W_seq ?_
    refine W_region ?_
    refine L_mv (v := v15) rfl sf6 ?_
    refine L_as (v := v15) rfl rfl ?_
    refine L_as (v := .bool false) rfl rfl ?_
    refine L_nil ?_
    refine W_ret ?_
    refine retG2 (v1 := v15) (v2 := .bool false) Try.results65 rfl rfl ?_
    obtain rfl := so hF
    exact ⟨v15, rfl, (Star.down hst hle22 (closedL_cons (closed_own (OR.closed_ownS closed_int) _ _) closedL_nil))⟩

theorem i_NextModel_c {fu : Nat} {m : Model} {cells : List Int} {v0_0 : Value} {v0_1 : Value} {v1 : Value} {H : FH} {w : World} (hst : Star H w []) (h0_0 : (RP.slice 3 RP.int).rel H [v0_0] m.sizes) (h0_1 : (RP.slice 36 (rRule 3 23)).rel H [v0_1] m.rules) (h1 : (RP.slice 3 RP.int).rel H [v1] cells) {r : (List Int) × Bool} (hF : i_NextModel fu m cells = some r) :
    C Try.prog 35 #[.agg #[v0_0, v0_1], v1] w fun v w' => ∃ (u1 : Value), v = .tuple #[u1, .bool r.2] ∧ Star H w' [own (OR.ownS 3 (OR.frz RP.int)) [u1] r.1] := by
  unfold i_NextModel at hF
  refine C_enter Try.func35 rfl Try.ntmps35 rfl ?_
  refine W_seq ?_
  refine W_region ?_
  refine L_box (v := .agg #[v0_0, v0_1]) (cs := #[v0_0, v0_1]) rfl rfl rfl hst ?_
  intro g3 w4 hst
  refine L_as (v := (.slice none 0 0)) rfl rfl ?_
  refine L_as (v := .bool false) rfl rfl ?_
  refine L_nil ?_
  refine W_seq ?_
  refine W_seq ?_
  obtain ⟨x10, hx10, hF⟩ := bind_some hF
  refine W_region ?_
  refine L_lda (cs := [v0_0, v0_1]) rfl Try.isAgg26 Try.sizeOf26 rfl (At.sub0 (Blk.at (Star.blkAt 0 hst rfl)) 0 2) rfl ?_
  refine L_mv (v := v1) rfl rfl ?_
  obtain ⟨Hb12, hle13, hsb14, hfz15, hbk16⟩ := Star.borrow hst
  refine L_call (args := #[.agg #[v0_0, v0_1], v1]) rfl Try.call20 (ops2 rfl rfl) (i_CellsValid_c (m := m) (cells := cells) hsb14 (RP.mono _ h0_0 hle13) (RP.mono _ h0_1 hle13) (RP.mono _ h1 hle13) hx10) ?_
  rintro _ w17 ⟨rfl, hst⟩
  have hst := hbk16 hst closedL_nil
  refine L_not_ (b := x10) rfl rfl ?_
  refine L_nil ?_
  refine W_cond (b := (!x10)) rfl (fun hc18 => ?_) (fun hc18 => ?_)
  ·
    have hF := (ite_t hc18).symm.trans hF
    refine W_seq ?_
    refine W_region ?_
    refine L_as (v := (.slice none 0 0)) rfl rfl ?_
    refine L_as (v := .bool false) rfl rfl ?_
    refine L_nil ?_
    refine W_ret ?_
    refine retG2 (v1 := (.slice none 0 0)) (v2 := .bool false) Try.results35 rfl rfl ?_
    obtain rfl := so hF
    have hst := Star.addNil (R := (OR.frz RP.int)) (e := 3) hst
    exact ⟨(.slice none 0 0), rfl, (Star.keepN 1 hst)⟩
  ·
    have hF := (ite_f hc18).symm.trans hF
    refine W_skip ?_
    refine W_seq ?_
    refine W_region ?_
    refine L_al (cs := #[(.slice none 0 0)]) rfl Try.zeroValue23 rfl hst ?_
    intro g22 w23 hst
    refine L_nil ?_
    refine W_seq ?_
    obtain ⟨g22_0_24, hI29, hF⟩ := bind_some hF
    refine W_region ?_
    refine L_fa (o' := 0) rfl fa_26_0 rfl rfl ?_
    refine L_ld (v := v0_0) rfl Try.isAgg23 rfl (At.cell0 (Blk.at (Star.blkAt 1 hst rfl)) (j := 0) rfl) ?_
    refine L_mv (v := v1) rfl rfl ?_
    refine L_mf rfl (ops2 rfl rfl) ?_
    obtain ⟨R35, hR35⟩ : ∃ R : Value → World → Prop, R = fun v w_ => ∃ H33 : FH, ∃ v30_g22_0 : Value, v = .tuple #[] ∧ Le H H33 ∧ isNilS v30_g22_0 = List.isEmpty g22_0_24 ∧ Star H33 w_ ([own (OR.ownS 3 (OR.frz RP.int)) [v30_g22_0] g22_0_24, box g22 23 #[v30_g22_0]]) := ⟨_, rfl⟩
    refine L_call (args := #[v0_0, v1, .func (.func 73) #[] #[.pointer (some ⟨g3, 0, none⟩), .pointer (some ⟨g22, 0, none⟩)]]) (R := R35) rfl Try.call63 (ops3 rfl rfl rfl) ?_ ?_
    ·
      refine C_enter Try.func63 rfl Try.ntmps63 rfl ?_
      have hA35 := hI29
      unfold i_NextModel_i1 at hA35
      refine W_seq ?_
      obtain ⟨x41, hx41, hA35⟩ := bind_some hA35
      obtain ⟨q44, hq44, hA35⟩ := bind_some hA35
      refine W_region ?_
      refine L_mv (v := v1) rfl rfl ?_
      obtain ⟨Hb45, hle46, hsb47, hfz48, hbk49⟩ := Star.borrow hst
      refine L_call (args := #[v1]) rfl Try.call74 (ops1 rfl) (slices_Clone_int_c (s := cells) hsb47 (RP.mono _ h1 hle46) hx41) ?_
      rintro r50_0 w50 ⟨_, rfl, hst⟩
      have hst := hbk49 hst (closedL_cons (closed_own (OR.closed_ownS closed_int) _ _) closedL_nil)
      have hst50 := strict_ne 0 hst rfl hq44
      refine L_as (v := r50_0) rfl rfl ?_
      refine L_nil ?_
      obtain ⟨j59, hL59, hA35⟩ := bind_some hA35
      obtain ⟨R59, hR59⟩ : ∃ RR_ : Fr → World → Prop, RR_ = fun f w_ => ∃ cells_53 : List Int, ∃ g22_0_54 : List Int, ∃ H57 : FH, ∃ v54_g22_0 : Value, j59 = .nx (cells_53, g22_0_54) ∧ Le H H57 ∧ isNilS v54_g22_0 = List.isEmpty g22_0_54 ∧ Star H57 w_ ([own (OR.ownS 3 (OR.frz RP.int)) [v54_g22_0] g22_0_54, box g22 23 #[v54_g22_0]]) := ⟨_, rfl⟩
      refine W_join R59 ?_ ?_
      ·
        refine W_block ?_
        obtain ⟨I59, hI59⟩ : ∃ I : Nat → Fr → World → Prop, I = fun n f w_ => ∃ cells_53 : List Int, ∃ g22_0_54 : List Int, ∃ H57 : FH, ∃ v54_g22_0 : Value, whileL (i_NextModel_b2 fu m) n (cells_53, g22_0_54) = some j59 ∧ Le H H57 ∧ f 0 = v0_0 ∧ f 2 = .func (.func 73) #[] #[.pointer (some ⟨g3, 0, none⟩), .pointer (some ⟨g22, 0, none⟩)] ∧ f 6 = r50_0 ∧ isNilS v54_g22_0 = List.isEmpty g22_0_54 ∧ Star H57 w_ ([own (OR.ownS 3 (OR.frz RP.int)) [r50_0] cells_53, own (OR.ownS 3 (OR.frz RP.int)) [v54_g22_0] g22_0_54, box g22 23 #[v54_g22_0], box g3 26 #[v0_0, v0_1]]) := ⟨_, rfl⟩
        have hst := Star.addNil (R := (OR.frz RP.int)) (e := 3) hst
        have hst := Star.get 3 hst rfl
        have hst := Star.get 3 hst rfl
        have hst := Star.get 2 hst rfl
        have hst := Star.get 3 hst rfl
        refine W_loop I59 (n := fu) ?_ ?_
        · rw [hI59]; exact ⟨x41, [], H, (.slice none 0 0), hL59, (Le.refl _), rfl, rfl, rfl, rfl, hst⟩
        ·
          clear hst
          intro n59 f w_ hI
          rw [hI59] at hI
          obtain ⟨cells_53, g22_0_54, H57, v54_g22_0, hL59, hle58, sf0, sf2, sf6, hst56, hst⟩ := hI
          cases n59 with
          | zero => exact (while_zero hL59).elim
          | succ n59 =>
            obtain ⟨o59, hB59, hL59⟩ := while_succ hL59
            rw [i_NextModel_b2] at hB59
            refine W_seq ?_
            refine W_seq ?_
            obtain ⟨⟨ret0_61, g22_0_62⟩, hI65, hB59⟩ := bind_some hB59
            refine W_region ?_
            refine L_mv (v := .func (.func 73) #[] #[.pointer (some ⟨g3, 0, none⟩), .pointer (some ⟨g22, 0, none⟩)]) rfl sf2 ?_
            refine L_mv (v := r50_0) rfl sf6 ?_
            obtain ⟨R70, hR70⟩ : ∃ R : Value → World → Prop, R = fun v w_ => ∃ v67_g22_0 : Value, v = .bool ret0_61 ∧ isNilS v67_g22_0 = List.isEmpty g22_0_62 ∧ Star H57 w_ ([own (OR.ownS 3 (OR.frz RP.int)) [r50_0] cells_53, own (OR.ownS 3 (OR.frz RP.int)) [v67_g22_0] g22_0_62, box g22 23 #[v67_g22_0], box g3 26 #[v0_0, v0_1]]) := ⟨_, rfl⟩
            refine L_callv (args := #[r50_0]) (R := R70) rfl Try.call73 rfl (ops1 rfl) ?_ ?_
            ·
              show C _ _ #[r50_0, .pointer (some ⟨g3, 0, none⟩), .pointer (some ⟨g22, 0, none⟩)] _ _
              refine C_enter Try.func73 rfl Try.ntmps73 rfl ?_
              have hA70 := hI65
              unfold i_NextModel_i3 at hA70
              refine W_seq ?_
              refine W_region ?_
              refine L_as (v := .bool false) rfl rfl ?_
              refine L_nil ?_
              refine W_seq ?_
              refine W_seq ?_
              obtain ⟨x77, hx77, hA70⟩ := bind_some hA70
              refine W_region ?_
              refine L_lda (cs := [v0_0, v0_1]) rfl Try.isAgg26 Try.sizeOf26 rfl (At.sub0 (Blk.at (Star.blkAt 3 hst rfl)) 0 2) rfl ?_
              refine L_mv (v := r50_0) rfl rfl ?_
              obtain ⟨Hb79, hle80, hsb81, hfz82, hbk83⟩ := Star.borrow hst
              have hb84 : (RP.slice 3 RP.int).rel Hb79 [r50_0] cells_53 := fz_own 0 hfz82 rfl
              refine L_call (args := #[.agg #[v0_0, v0_1], r50_0]) rfl Try.call59 (ops2 rfl rfl) (i_Model_solves_c (m := m) (cells := cells_53) hsb81 (RP.mono _ h0_0 (Le.trans hle58 hle80)) (RP.mono _ h0_1 (Le.trans hle58 hle80)) hb84 hx77) ?_
              rintro _ w85 ⟨rfl, hst⟩
              have hst := hbk83 hst closedL_nil
              refine L_nil ?_
              obtain ⟨g22_0_86, hA89, hA70⟩ := bind_some hA70
              obtain ⟨R89, hR89⟩ : ∃ RR_ : Fr → World → Prop, RR_ = fun f w_ => ∃ v86_g22_0 : Value, f 2 = .pointer (some ⟨g22, 0, none⟩) ∧ isNilS v86_g22_0 = List.isEmpty g22_0_86 ∧ Star H57 w_ ([own (OR.ownS 3 (OR.frz RP.int)) [r50_0] cells_53, own (OR.ownS 3 (OR.frz RP.int)) [v86_g22_0] g22_0_86, box g22 23 #[v86_g22_0], box g3 26 #[v0_0, v0_1]]) := ⟨_, rfl⟩
              refine W_join R89 ?_ ?_
              ·
                refine W_cond (b := x77) rfl (fun hc90 => ?_) (fun hc90 => ?_)
                ·
                  have hA89 := (ite_t hc90).symm.trans hA89
                  obtain ⟨x97, hx97, hA89⟩ := bind_some hA89
                  obtain ⟨q100, hq100, hA89⟩ := bind_some hA89
                  refine W_region ?_
                  refine L_mv (v := r50_0) rfl rfl ?_
                  obtain ⟨Hb102, hle103, hsb104, hfz105, hbk106⟩ := Star.borrow hst
                  have hb107 : (RP.slice 3 RP.int).rel Hb102 [r50_0] cells_53 := fz_own 0 hfz105 rfl
                  refine L_call (args := #[r50_0]) rfl Try.call74 (ops1 rfl) (slices_Clone_int_c (s := cells_53) hsb104 hb107 hx97) ?_
                  rintro r108_0 w108 ⟨_, rfl, hst⟩
                  have hst := hbk106 hst (closedL_cons (closed_own (OR.closed_ownS closed_int) _ _) closedL_nil)
                  have hst108 := strict_ne 0 hst rfl hq100
                  refine L_stB (v := r108_0) (cs2 := #[r108_0]) 3 rfl Try.sizeOf23 rfl rfl (one_len (Star.len 0 hst rfl)) hst rfl rfl rfl ?_
                  intro w110 hst
                  refine L_nil ?_
                  obtain rfl := so hA89
                  have hst := Star.get 4 hst rfl
                  have hst := Star.get 1 hst rfl
                  have hst := Star.get 2 hst rfl
                  have hst := Star.get 3 hst rfl
                  show R89 _ _
                  rw [hR89]
                  exact ⟨r108_0, rfl, hst108, (Star.keepN 4 hst)⟩
                ·
                  have hA89 := (ite_f hc90).symm.trans hA89
                  refine W_skip ?_
                  obtain rfl := so hA89
                  show R89 _ _
                  rw [hR89]
                  exact ⟨v54_g22_0, rfl, hst56, hst⟩
              ·
                intro f w_ hR
                rw [hR89] at hR
                obtain ⟨v86_g22_0, sf2, hst88, hst⟩ := hR
                clear hR89
                refine W_seq ?_
                refine W_region ?_
                refine L_ld (v := v86_g22_0) rfl Try.isAgg23 sf2 (At.cell0 (Blk.at (Star.blkAt 2 hst rfl)) (j := 0) rfl) ?_
                obtain ⟨a111, cap111, hsl111, _, _⟩ := (Star.len 1 hst rfl)
                refine L_nileq (a := a111) rfl Try.underlying23 (Eq.trans rfl hsl111) rfl ?_
                rw [← hsl111]
                rw [hst88]
                refine L_as (v := .bool (List.isEmpty g22_0_86)) rfl rfl ?_
                refine L_nil ?_
                refine W_ret ?_
                refine retG1 (v1 := .bool (List.isEmpty g22_0_86)) Try.results73 rfl ?_
                obtain ⟨rfl, rfl⟩ := so2 hA70
                show R70 _ _
                rw [hR70]
                exact ⟨v86_g22_0, rfl, hst88, hst⟩
            intro v_70 w_ hR
            rw [hR70] at hR
            obtain ⟨v67_g22_0, rfl, hst69, hst⟩ := hR
            clear hR70
            refine L_nil ?_
            refine W_cond (b := ret0_61) rfl (fun hc112 => ?_) (fun hc112 => ?_)
            ·
              have hB59 := (ite_t hc112).symm.trans hB59
              refine W_skip ?_
              refine W_block ?_
              refine W_seq ?_
              refine W_region ?_
              refine L_mv (v := r50_0) rfl sf6 ?_
              refine L_len (v := r50_0) (n := List.length cells_53) rfl Try.underlying23 rfl (Star.len 0 hst rfl) ?_
              refine L_sub (m := (cells_53.length : Int)) (n := 1) rfl rfl rfl ?_
              refine L_as (v := .int .i64 (i64 ((cells_53.length : Int) - 1))) rfl rfl ?_
              refine L_nil ?_
              refine W_seq ?_
              obtain ⟨j118, hL118, hB59⟩ := bind_some hB59
              obtain ⟨R118, hR118⟩ : ∃ RR_ : Fr → World → Prop, RR_ = fun f w_ => ∃ cells_114 : List Int, ∃ i_115 : Int, ∃ H116 : FH, j118 = .nx (cells_114, i_115) ∧ Le H57 H116 ∧ f 0 = v0_0 ∧ f 2 = .func (.func 73) #[] #[.pointer (some ⟨g3, 0, none⟩), .pointer (some ⟨g22, 0, none⟩)] ∧ f 6 = r50_0 ∧ f 7 = .int .i64 i_115 ∧ Star H116 w_ ([own (OR.ownS 3 (OR.frz RP.int)) [r50_0] cells_114, own (OR.ownS 3 (OR.frz RP.int)) [v67_g22_0] g22_0_62, box g22 23 #[v67_g22_0], box g3 26 #[v0_0, v0_1]]) := ⟨_, rfl⟩
              refine W_join R118 ?_ ?_
              ·
                refine W_block ?_
                obtain ⟨I118, hI118⟩ : ∃ I : Nat → Fr → World → Prop, I = fun n f w_ => ∃ cells_114 : List Int, ∃ i_115 : Int, ∃ H116 : FH, whileL (i_NextModel_b4 m) n (cells_114, i_115) = some j118 ∧ Le H57 H116 ∧ f 0 = v0_0 ∧ f 2 = .func (.func 73) #[] #[.pointer (some ⟨g3, 0, none⟩), .pointer (some ⟨g22, 0, none⟩)] ∧ f 6 = r50_0 ∧ f 7 = .int .i64 i_115 ∧ Star H116 w_ ([own (OR.ownS 3 (OR.frz RP.int)) [r50_0] cells_114, own (OR.ownS 3 (OR.frz RP.int)) [v67_g22_0] g22_0_62, box g22 23 #[v67_g22_0], box g3 26 #[v0_0, v0_1]]) := ⟨_, rfl⟩
                refine W_loop I118 (n := fu) ?_ ?_
                · rw [hI118]; exact ⟨cells_53, i64 ((cells_53.length : Int) - 1), H57, hL118, (Le.refl _), sf0, sf2, sf6, rfl, hst⟩
                ·
                  clear hst
                  intro n118 f w_ hI
                  rw [hI118] at hI
                  obtain ⟨cells_114, i_115, H116, hL118, hle117, sf0, sf2, sf6, sf7, hst⟩ := hI
                  cases n118 with
                  | zero => exact (while_zero hL118).elim
                  | succ n118 =>
                    obtain ⟨o118, hB118, hL118⟩ := while_succ hL118
                    rw [i_NextModel_b4] at hB118
                    refine W_seq ?_
                    refine W_seq ?_
                    obtain ⟨b129, hb129, hB118⟩ := bind_some hB118
                    obtain ⟨R133, hR133⟩ : ∃ RR_ : Fr → World → Prop, RR_ = fun f w_ => ∃ H131 : FH, Le H116 H131 ∧ f 0 = v0_0 ∧ f 2 = .func (.func 73) #[] #[.pointer (some ⟨g3, 0, none⟩), .pointer (some ⟨g22, 0, none⟩)] ∧ f 6 = r50_0 ∧ f 7 = .int .i64 i_115 ∧ f 28 = .bool b129 ∧ Star H131 w_ ([own (OR.ownS 3 (OR.frz RP.int)) [r50_0] cells_114, own (OR.ownS 3 (OR.frz RP.int)) [v67_g22_0] g22_0_62, box g22 23 #[v67_g22_0], box g3 26 #[v0_0, v0_1]]) := ⟨_, rfl⟩
                    refine W_join R133 ?_ ?_
                    ·
                      rcases Bool.eq_false_or_eq_true (decide (i_115 ≥ 0)) with hc134 | hc134
                      ·
                        rw [ite_t hc134] at hb129
                        obtain ⟨x119, hx119, hb129⟩ := bind_some hb129
                        obtain ⟨x124, hx124, hb129⟩ := bind_some hb129
                        obtain ⟨g135, cap_g135, hv136, _, _⟩ := Star.row 0 hst rfl hx119
                        refine W_drawS 11 [isV (.int .i64 i_115), isV (.bool (decide (i_115 ≥ 0))), isV (.bool (decide (i_115 ≥ 0))), isV (r50_0), isV (.int .i64 i_115), isV (.pointer (some ⟨g135, Int.toNat i_115 * 1, none⟩)), isV (.int .i64 x119), isV (v0_0), isV (.int .i64 i_115), isEl RP.int x124 0, isV (.int .i64 x124)] [own (OR.ownS 3 (OR.frz RP.int)) [r50_0] cells_114, own (OR.ownS 3 (OR.frz RP.int)) [v67_g22_0] g22_0_62, box g22 23 #[v67_g22_0], box g3 26 #[v0_0, v0_1]] [] ([]) [([], []), ([], []), ([], []), ([], []), ([], []), ([], []), ([], []), ([], []), ([], []), ([], []), ([], [])] (S := []) Try_mix (by kernel_rfl) rfl (by kernel_rfl) (amF_cons (mono_V _) (amF_cons (mono_V _) (amF_cons (mono_V _) (amF_cons (mono_V _) (amF_cons (mono_V _) (amF_cons (mono_V _) (amF_cons (mono_V _) (amF_cons (mono_V _) (amF_cons (mono_V _) (amF_cons (mono_el _ _ _) (amF_cons (mono_V _) amF_nil))))))))))) hst ?_ (fun f w_ H130 hS130 hE130 hT130 hst => ?_)
                        ·
                          refine opsS_cons ?_ ?_
                          ·
                            intro f w_ H130 X130 hS130 hE130 hP130 hst
                            refine L_mv (v := .int .i64 i_115) rfl ((hS130 7 rfl).trans sf7) ?_
                            exact L_nil ⟨rfl, _, _, _, rfl, rfl, Le.refl _, rfl, hst⟩
                          refine opsS_cons ?_ ?_
                          ·
                            intro f w_ H130 X130 hS130 hE130 hP130 hst
                            refine L_geq (m := i_115) (n := 0) rfl (hP130 0 16 rfl rfl) rfl ?_
                            exact L_nil ⟨rfl, _, _, _, rfl, rfl, Le.refl _, rfl, hst⟩
                          refine opsS_cons ?_ ?_
                          ·
                            intro f w_ H130 X130 hS130 hE130 hP130 hst
                            refine L_mv (v := .bool (decide (i_115 ≥ 0))) rfl (hP130 1 17 rfl rfl) ?_
                            exact L_nil ⟨rfl, _, _, _, rfl, rfl, Le.refl _, rfl, hst⟩
                          refine opsS_cons ?_ ?_
                          ·
                            intro f w_ H130 X130 hS130 hE130 hP130 hst
                            refine L_mv (v := r50_0) (g_yes rfl (Eq.trans (hP130 2 18 rfl rfl) (congrArg Value.bool hc134)) rfl) ((hS130 6 rfl).trans sf6) ?_
                            exact L_nil ⟨rfl, _, _, _, rfl, rfl, Le.refl _, rfl, hst⟩
                          refine opsS_cons ?_ ?_
                          ·
                            intro f w_ H130 X130 hS130 hE130 hP130 hst
                            refine L_mv (v := .int .i64 i_115) (g_yes rfl (Eq.trans (hP130 2 18 rfl rfl) (congrArg Value.bool hc134)) rfl) ((hS130 7 rfl).trans sf7) ?_
                            exact L_nil ⟨rfl, _, _, _, rfl, rfl, Le.refl _, rfl, hst⟩
                          refine opsS_cons ?_ ?_
                          ·
                            intro f w_ H130 X130 hS130 hE130 hP130 hst
                            refine L_ixO (R := (OR.frz RP.int)) (tb := 0) 0 (g_yes rfl (Eq.trans (hP130 2 18 rfl rfl) (congrArg Value.bool hc134)) rfl) Try.underlying23 Try.sizeOf3 (hP130 3 19 rfl rfl) hv136 (by first | rfl | simp) (hP130 4 20 rfl rfl) hx119 ?_
                            exact L_nil ⟨rfl, _, _, _, rfl, rfl, Le.refl _, rfl, hst⟩
                          refine opsS_cons ?_ ?_
                          ·
                            intro f w_ H130 X130 hS130 hE130 hP130 hst
                            obtain ⟨cs143, hr143, hat143⟩ := Star.eltF 0 hst rfl hv136 hx119
                            obtain rfl : _ = [_] := hr143
                            refine L_ld (v := .int .i64 x119) (g_yes rfl (Eq.trans (hP130 2 18 rfl rfl) (congrArg Value.bool hc134)) rfl) Try.isAgg3 (hP130 5 21 rfl rfl) (At.cell hat143 (j := 0) rfl) ?_
                            exact L_nil ⟨rfl, _, _, _, rfl, rfl, Le.refl _, rfl, hst⟩
                          refine opsS_cons ?_ ?_
                          ·
                            intro f w_ H130 X130 hS130 hE130 hP130 hst
                            refine L_mv (v := v0_0) (g_yes rfl (Eq.trans (hP130 2 18 rfl rfl) (congrArg Value.bool hc134)) rfl) ((hS130 0 rfl).trans sf0) ?_
                            exact L_nil ⟨rfl, _, _, _, rfl, rfl, Le.refl _, rfl, hst⟩
                          refine opsS_cons ?_ ?_
                          ·
                            intro f w_ H130 X130 hS130 hE130 hP130 hst
                            refine L_mv (v := .int .i64 i_115) (g_yes rfl (Eq.trans (hP130 2 18 rfl rfl) (congrArg Value.bool hc134)) rfl) ((hS130 7 rfl).trans sf7) ?_
                            exact L_nil ⟨rfl, _, _, _, rfl, rfl, Le.refl _, rfl, hst⟩
                          refine opsS_cons ?_ ?_
                          ·
                            intro f w_ H130 X130 hS130 hE130 hP130 hst
                            refine L_ix (r := RP.int) (g_yes rfl (Eq.trans (hP130 2 18 rfl rfl) (congrArg Value.bool hc134)) rfl) Try.underlying23 Try.sizeOf3 (hP130 7 23 rfl rfl) (RP.mono _ h0_0 (Le.trans (Le.trans hle58 hle117) hE130)) (hP130 8 24 rfl rfl) hx124 ?_
                            intro g145 o146 cs_g145 hrk_hat147 hat147
                            obtain rfl : _ = [_] := hrk_hat147
                            exact L_nil ⟨rfl, _, _, _, rfl, rfl, Le.refl _, ⟨_, _, _, rfl, rfl, hat147⟩, hst⟩
                          refine opsS_cons ?_ ?_
                          ·
                            intro f w_ H130 X130 hS130 hE130 hP130 hst
                            obtain ⟨g149, o149, cs149, hv149, hrk_hat149, hat149⟩ := (hP130 9 25 rfl rfl)
                            obtain rfl : _ = [_] := hrk_hat149
                            refine L_ld (v := .int .i64 x124) (g_yes rfl (Eq.trans (hP130 2 18 rfl rfl) (congrArg Value.bool hc134)) rfl) Try.isAgg3 hv149 (At.cell (AtH.at hat149 hst.sub) (j := 0) rfl) ?_
                            exact L_nil ⟨rfl, _, _, _, rfl, rfl, Le.refl _, rfl, hst⟩
                          exact opsS_nil
                        ·
                          refine L_eql (m := x119) (n := x124) (g_yes rfl (Eq.trans (hT130 2 18 rfl rfl) (congrArg Value.bool hc134)) rfl) (hT130 6 22 rfl rfl) (hT130 10 26 rfl rfl) ?_
                          refine L_pick (v := .bool b129) rfl (Eq.trans (hT130 2 18 rfl rfl) (congrArg Value.bool hc134)) (congrArg Value.bool (so hb129)) ?_
                          refine L_nil ?_
                          show R133 _ _
                          rw [hR133]
                          exact ⟨H130, hE130, ((hS130 0 rfl).trans sf0), ((hS130 2 rfl).trans sf2), ((hS130 6 rfl).trans sf6), ((hS130 7 rfl).trans sf7), rfl, hst⟩
                      ·
                        rw [ite_f hc134] at hb129
                        refine W_drawS 11 [isV (.int .i64 i_115), isV (.bool (decide (i_115 ≥ 0))), isV (.bool (decide (i_115 ≥ 0))), isV (undef), isV (undef), isV (undef), isV (undef), isV (undef), isV (undef), isV (undef), isV (undef)] [own (OR.ownS 3 (OR.frz RP.int)) [r50_0] cells_114, own (OR.ownS 3 (OR.frz RP.int)) [v67_g22_0] g22_0_62, box g22 23 #[v67_g22_0], box g3 26 #[v0_0, v0_1]] [] ([]) [([], []), ([], []), ([], []), ([], []), ([], []), ([], []), ([], []), ([], []), ([], []), ([], []), ([], [])] (S := []) Try_mix (by kernel_rfl) rfl (by kernel_rfl) (amF_cons (mono_V _) (amF_cons (mono_V _) (amF_cons (mono_V _) (amF_cons (mono_V _) (amF_cons (mono_V _) (amF_cons (mono_V _) (amF_cons (mono_V _) (amF_cons (mono_V _) (amF_cons (mono_V _) (amF_cons (mono_V _) (amF_cons (mono_V _) amF_nil))))))))))) hst ?_ (fun f w_ H130 hS130 hE130 hT130 hst => ?_)
                        ·
                          refine opsS_cons ?_ ?_
                          ·
                            intro f w_ H130 X130 hS130 hE130 hP130 hst
                            refine L_mv (v := .int .i64 i_115) rfl ((hS130 7 rfl).trans sf7) ?_
                            exact L_nil ⟨rfl, _, _, _, rfl, rfl, Le.refl _, rfl, hst⟩
                          refine opsS_cons ?_ ?_
                          ·
                            intro f w_ H130 X130 hS130 hE130 hP130 hst
                            refine L_geq (m := i_115) (n := 0) rfl (hP130 0 16 rfl rfl) rfl ?_
                            exact L_nil ⟨rfl, _, _, _, rfl, rfl, Le.refl _, rfl, hst⟩
                          refine opsS_cons ?_ ?_
                          ·
                            intro f w_ H130 X130 hS130 hE130 hP130 hst
                            refine L_mv (v := .bool (decide (i_115 ≥ 0))) rfl (hP130 1 17 rfl rfl) ?_
                            exact L_nil ⟨rfl, _, _, _, rfl, rfl, Le.refl _, rfl, hst⟩
                          refine opsS_cons ?_ ?_
                          ·
                            intro f w_ H130 X130 hS130 hE130 hP130 hst
                            refine L_pass (g_no rfl (Eq.trans (hP130 2 18 rfl rfl) (congrArg Value.bool hc134)) rfl rfl) ?_
                            exact L_nil ⟨rfl, _, _, _, rfl, rfl, Le.refl _, rfl, hst⟩
                          refine opsS_cons ?_ ?_
                          ·
                            intro f w_ H130 X130 hS130 hE130 hP130 hst
                            refine L_pass (g_no rfl (Eq.trans (hP130 2 18 rfl rfl) (congrArg Value.bool hc134)) rfl rfl) ?_
                            exact L_nil ⟨rfl, _, _, _, rfl, rfl, Le.refl _, rfl, hst⟩
                          refine opsS_cons ?_ ?_
                          ·
                            intro f w_ H130 X130 hS130 hE130 hP130 hst
                            refine L_pass (g_no rfl (Eq.trans (hP130 2 18 rfl rfl) (congrArg Value.bool hc134)) rfl rfl) ?_
                            exact L_nil ⟨rfl, _, _, _, rfl, rfl, Le.refl _, rfl, hst⟩
                          refine opsS_cons ?_ ?_
                          ·
                            intro f w_ H130 X130 hS130 hE130 hP130 hst
                            refine L_pass (g_no rfl (Eq.trans (hP130 2 18 rfl rfl) (congrArg Value.bool hc134)) rfl rfl) ?_
                            exact L_nil ⟨rfl, _, _, _, rfl, rfl, Le.refl _, rfl, hst⟩
                          refine opsS_cons ?_ ?_
                          ·
                            intro f w_ H130 X130 hS130 hE130 hP130 hst
                            refine L_pass (g_no rfl (Eq.trans (hP130 2 18 rfl rfl) (congrArg Value.bool hc134)) rfl rfl) ?_
                            exact L_nil ⟨rfl, _, _, _, rfl, rfl, Le.refl _, rfl, hst⟩
                          refine opsS_cons ?_ ?_
                          ·
                            intro f w_ H130 X130 hS130 hE130 hP130 hst
                            refine L_pass (g_no rfl (Eq.trans (hP130 2 18 rfl rfl) (congrArg Value.bool hc134)) rfl rfl) ?_
                            exact L_nil ⟨rfl, _, _, _, rfl, rfl, Le.refl _, rfl, hst⟩
                          refine opsS_cons ?_ ?_
                          ·
                            intro f w_ H130 X130 hS130 hE130 hP130 hst
                            refine L_pass (g_no rfl (Eq.trans (hP130 2 18 rfl rfl) (congrArg Value.bool hc134)) rfl rfl) ?_
                            exact L_nil ⟨rfl, _, _, _, rfl, rfl, Le.refl _, rfl, hst⟩
                          refine opsS_cons ?_ ?_
                          ·
                            intro f w_ H130 X130 hS130 hE130 hP130 hst
                            refine L_pass (g_no rfl (Eq.trans (hP130 2 18 rfl rfl) (congrArg Value.bool hc134)) rfl rfl) ?_
                            exact L_nil ⟨rfl, _, _, _, rfl, rfl, Le.refl _, rfl, hst⟩
                          exact opsS_nil
                        ·
                          refine L_pass (g_no rfl (Eq.trans (hT130 2 18 rfl rfl) (congrArg Value.bool hc134)) rfl rfl) ?_
                          refine L_pick (v := .bool b129) rfl (Eq.trans (hT130 2 18 rfl rfl) (congrArg Value.bool hc134)) (congrArg Value.bool (so hb129)) ?_
                          refine L_nil ?_
                          show R133 _ _
                          rw [hR133]
                          exact ⟨H130, hE130, ((hS130 0 rfl).trans sf0), ((hS130 2 rfl).trans sf2), ((hS130 6 rfl).trans sf6), ((hS130 7 rfl).trans sf7), rfl, hst⟩
                    ·
                      intro f w_ hR
                      rw [hR133] at hR
                      obtain ⟨H131, hle132, sf0, sf2, sf6, sf7, sf28, hst⟩ := hR
                      clear hR133
                      refine W_cond (b := b129) sf28 (fun hc151 => ?_) (fun hc151 => ?_)
                      ·
                        have hB118 := (ite_t hc151).symm.trans hB118
                        refine W_skip ?_
                        refine W_block ?_
                        refine W_seq ?_
                        obtain ⟨x152, hx152, hB118⟩ := bind_some hB118
                        refine W_region ?_
                        refine L_mv (v := r50_0) rfl sf6 ?_
                        refine L_mv (v := .int .i64 i_115) rfl sf7 ?_
                        obtain ⟨g156, cap_g156, hv157, _, _⟩ := Star.row 0 hst rfl hx152
                        refine L_ixO (R := (OR.frz RP.int)) (tb := 0) 0 rfl Try.underlying23 Try.sizeOf3 rfl hv157 (by first | rfl | simp) rfl hx152 ?_
                        have hst := Star.addF (r := RP.int) (cs := [.int .i64 0]) (x := 0) hst rfl
                        refine L_stE1 (u := .int .i64 0) rfl Try.sizeOf3 rfl rfl rfl hv157 hst hx152 ?_
                        intro w158 hst
                        refine L_nil ?_
                        refine W_region ?_
                        refine L_mv (v := .int .i64 i_115) rfl sf7 ?_
                        refine L_sub (m := i_115) (n := 1) rfl rfl rfl ?_
                        refine L_as (v := .int .i64 (i64 (i_115 - 1))) rfl rfl ?_
                        refine L_nil ?_
                        obtain rfl := so hB118
                        show ∃ m, m < _ ∧ I118 m _ _
                        refine ⟨n118, Nat.lt_succ_self _, ?_⟩
                        rw [hI118]
                        exact ⟨(cells_114.set (Int.toNat i_115) 0), i64 (i_115 - 1), H131, hL118, (Le.trans hle117 hle132), sf0, sf2, sf6, rfl, hst⟩
                      ·
                        have hB118 := (ite_f hc151).symm.trans hB118
                        refine W_exit ?_
                        obtain rfl := so hB118
                        obtain rfl := so hL118
                        show R118 _ _
                        rw [hR118]
                        exact ⟨cells_114, i_115, H131, rfl, (Le.trans hle117 hle132), sf0, sf2, sf6, sf7, hst⟩
              ·
                clear hst
                intro f w_ hR
                rw [hR118] at hR
                obtain ⟨cells_114, i_115, H116, rfl, hle117, sf0, sf2, sf6, sf7, hst⟩ := hR
                clear hR118
                refine W_seq ?_
                refine W_seq ?_
                refine W_region ?_
                refine L_mv (v := .int .i64 i_115) rfl sf7 ?_
                refine L_lss (m := i_115) (n := 0) rfl rfl rfl ?_
                refine L_nil ?_
                refine W_cond (b := decide (i_115 < 0)) rfl (fun hc159 => ?_) (fun hc159 => ?_)
                ·
                  have hB59 := (ite_t hc159).symm.trans hB59
                  refine W_ret ?_
                  refine ret0 Try.results63 ?_
                  obtain rfl := so hB59
                  obtain rfl := so hL59
                  obtain rfl := so hA35
                  have hst := Star.get 2 hst rfl
                  have hst := Star.get 2 hst rfl
                  show R35 _ _
                  rw [hR35]
                  exact ⟨H116, v67_g22_0, rfl, (Le.trans hle58 hle117), hst69, (Star.keepN 2 hst)⟩
                ·
                  have hB59 := (ite_f hc159).symm.trans hB59
                  refine W_skip ?_
                  obtain ⟨x160, hx160, hB59⟩ := bind_some hB59
                  refine W_region ?_
                  refine L_mv (v := r50_0) rfl sf6 ?_
                  refine L_mv (v := .int .i64 i_115) rfl sf7 ?_
                  obtain ⟨g166, cap_g166, hv167, _, _⟩ := Star.row 0 hst rfl hx160
                  refine L_ixO (R := (OR.frz RP.int)) (tb := 0) 0 rfl Try.underlying23 Try.sizeOf3 rfl hv167 (by first | rfl | simp) rfl hx160 ?_
                  obtain ⟨cs168, hr168, hat168⟩ := Star.eltF 0 hst rfl hv167 hx160
                  obtain rfl : _ = [_] := hr168
                  refine L_ld (v := .int .i64 x160) rfl Try.isAgg3 rfl (At.cell hat168 (j := 0) rfl) ?_
                  refine L_add (m := x160) (n := 1) rfl rfl rfl ?_
                  refine L_ixO (R := (OR.frz RP.int)) (tb := 0) 0 rfl Try.underlying23 Try.sizeOf3 rfl hv167 (by first | rfl | simp) rfl hx160 ?_
                  have hst := Star.addF (r := RP.int) (cs := [.int .i64 (i64 (x160 + 1))]) (x := (i64 (x160 + 1))) hst rfl
                  refine L_stE1 (u := .int .i64 (i64 (x160 + 1))) rfl Try.sizeOf3 rfl rfl rfl hv167 hst hx160 ?_
                  intro w170 hst
                  refine L_nil ?_
                  obtain rfl := so hB59
                  show ∃ m, m < _ ∧ I59 m _ _
                  refine ⟨n59, Nat.lt_succ_self _, ?_⟩
                  rw [hI59]
                  exact ⟨(cells_114.set (Int.toNat i_115) (i64 (x160 + 1))), g22_0_62, H116, v67_g22_0, hL59, (Le.trans hle58 hle117), sf0, sf2, sf6, hst69, hst⟩
            ·
              have hB59 := (ite_f hc112).symm.trans hB59
              refine W_exit ?_
              obtain rfl := so hB59
              obtain rfl := so hL59
              have hst := Star.get 2 hst rfl
              have hst := Star.get 2 hst rfl
              show R59 _ _
              rw [hR59]
              exact ⟨cells_53, g22_0_62, H57, v67_g22_0, rfl, hle58, hst69, (Star.keepN 2 hst)⟩
      ·
        clear hst
        intro f w_ hR
        rw [hR59] at hR
        obtain ⟨cells_53, g22_0_54, H57, v54_g22_0, rfl, hle58, hst56, hst⟩ := hR
        clear hR59
        obtain rfl := so hA35
        refine end0 Try.results63 ?_
        show R35 _ _
        rw [hR35]
        exact ⟨H57, v54_g22_0, rfl, hle58, hst56, hst⟩
    intro v_35 w_ hR
    rw [hR35] at hR
    obtain ⟨H33, v30_g22_0, rfl, hle34, hst32, hst⟩ := hR
    clear hR35
    refine L_nil ?_
    refine W_seq ?_
    refine W_drawS 4 [isV (v30_g22_0), isV (v30_g22_0), isV (.bool (!(List.isEmpty g22_0_24))), isV (v30_g22_0)] [own (OR.ownS 3 (OR.frz RP.int)) [v30_g22_0] g22_0_24, box g22 23 #[v30_g22_0]] [] ([]) [([], []), ([], []), ([], []), ([], [])] (S := []) Try_mix (by kernel_rfl) rfl (by kernel_rfl) (amF_cons (mono_V _) (amF_cons (mono_V _) (amF_cons (mono_V _) (amF_cons (mono_V _) amF_nil)))) hst ?_ (fun f w_ H171 hS171 hE171 hT171 hst => ?_)
    ·
      refine opsS_cons ?_ ?_
      ·
        intro f w_ H171 X171 hS171 hE171 hP171 hst
        refine L_ld (v := v30_g22_0) rfl Try.isAgg23 ((hS171 6 rfl).trans rfl) (At.cell0 (Blk.at (Star.blkAt 1 hst rfl)) (j := 0) rfl) ?_
        exact L_nil ⟨rfl, _, _, _, rfl, rfl, Le.refl _, rfl, hst⟩
      refine opsS_cons ?_ ?_
      ·
        intro f w_ H171 X171 hS171 hE171 hP171 hst
        refine L_ld (v := v30_g22_0) rfl Try.isAgg23 ((hS171 6 rfl).trans rfl) (At.cell0 (Blk.at (Star.blkAt 1 hst rfl)) (j := 0) rfl) ?_
        exact L_nil ⟨rfl, _, _, _, rfl, rfl, Le.refl _, rfl, hst⟩
      refine opsS_cons ?_ ?_
      ·
        intro f w_ H171 X171 hS171 hE171 hP171 hst
        obtain ⟨a173, cap173, hsl173, _, _⟩ := (Star.len 0 hst rfl)
        refine L_nilne (a := a173) rfl Try.underlying23 (Eq.trans (hP171 1 17 rfl rfl) hsl173) rfl ?_
        rw [← hsl173]
        rw [hst32]
        exact L_nil ⟨rfl, _, _, _, rfl, rfl, Le.refl _, rfl, hst⟩
      refine opsS_cons ?_ ?_
      ·
        intro f w_ H171 X171 hS171 hE171 hP171 hst
        refine L_as (v := v30_g22_0) rfl (hP171 0 16 rfl rfl) ?_
        exact L_nil ⟨rfl, _, _, _, rfl, rfl, Le.refl _, rfl, hst⟩
      exact opsS_nil
    ·
      refine L_as (v := .bool (!(List.isEmpty g22_0_24))) rfl (hT171 2 18 rfl rfl) ?_
      refine L_nil ?_
      refine W_ret ?_
      refine retG2 (v1 := v30_g22_0) (v2 := .bool (!(List.isEmpty g22_0_24))) Try.results35 (hT171 3 4 rfl rfl) rfl ?_
      obtain rfl := so hF
      exact ⟨v30_g22_0, rfl, (Star.down (Star.keepN 1 hst) (Le.trans hle34 hE171) (closedL_cons (closed_own (OR.closed_ownS closed_int) _ _) closedL_nil))⟩

theorem s_NextModel_c {fu : Nat} {m : Model} {cells : List Int} {v0_0 : Value} {v0_1 : Value} {v1 : Value} {H : FH} {w : World} (hst : Star H w []) (h0_0 : (RP.slice 3 RP.int).rel H [v0_0] m.sizes) (h0_1 : (RP.slice 36 (rRule 3 23)).rel H [v0_1] m.rules) (h1 : (RP.slice 3 RP.int).rel H [v1] cells) {r : (List Int) × Bool} (hF : s_NextModel fu m cells = some r) :
    C Try.prog 36 #[.agg #[v0_0, v0_1], v1] w fun v w' => ∃ (u1 : Value), v = .tuple #[u1, .bool r.2] ∧ Star H w' [own (OR.ownS 3 (OR.frz RP.int)) [u1] r.1] := by
  unfold s_NextModel at hF
  refine C_enter Try.func36 rfl Try.ntmps36 rfl ?_
  refine W_seq ?_
  refine W_region ?_
  refine L_box (v := .agg #[v0_0, v0_1]) (cs := #[v0_0, v0_1]) rfl rfl rfl hst ?_
  intro g3 w4 hst
  refine L_as (v := (.slice none 0 0)) rfl rfl ?_
  refine L_as (v := .bool false) rfl rfl ?_
  refine L_nil ?_
  refine W_seq ?_
  refine W_seq ?_
  obtain ⟨x10, hx10, hF⟩ := bind_some hF
  refine W_region ?_
  refine L_lda (cs := [v0_0, v0_1]) rfl Try.isAgg26 Try.sizeOf26 rfl (At.sub0 (Blk.at (Star.blkAt 0 hst rfl)) 0 2) rfl ?_
  refine L_mv (v := v1) rfl rfl ?_
  obtain ⟨Hb12, hle13, hsb14, hfz15, hbk16⟩ := Star.borrow hst
  refine L_call (args := #[.agg #[v0_0, v0_1], v1]) rfl Try.call24 (ops2 rfl rfl) (s_CellsValid_c (m := m) (cells := cells) hsb14 (RP.mono _ h0_0 hle13) (RP.mono _ h0_1 hle13) (RP.mono _ h1 hle13) hx10) ?_
  rintro _ w17 ⟨rfl, hst⟩
  have hst := hbk16 hst closedL_nil
  refine L_not_ (b := x10) rfl rfl ?_
  refine L_nil ?_
  refine W_cond (b := (!x10)) rfl (fun hc18 => ?_) (fun hc18 => ?_)
  ·
    have hF := (ite_t hc18).symm.trans hF
    refine W_seq ?_
    refine W_region ?_
    refine L_bs rfl parts0 (bs_23_0  ) hst ?_
    intro g22 w23 hst
    have hst := Star.mkRow (R := (OR.frz RP.int)) [] [] 0 hst rfl rfl rfl (by decide)
    refine L_as (v := (.slice (some ⟨g22, 0, none⟩) 0 0)) rfl rfl ?_
    refine L_as (v := .bool false) rfl rfl ?_
    refine L_nil ?_
    refine W_ret ?_
    refine retG2 (v1 := (.slice (some ⟨g22, 0, none⟩) 0 0)) (v2 := .bool false) Try.results36 rfl rfl ?_
    obtain rfl := so hF
    exact ⟨(.slice (some ⟨g22, 0, none⟩) 0 0), rfl, (Star.keepN 1 hst)⟩
  ·
    have hF := (ite_f hc18).symm.trans hF
    refine W_skip ?_
    refine W_seq ?_
    obtain ⟨x28, hx28, hF⟩ := bind_some hF
    refine W_region ?_
    refine L_bs rfl parts0 (bs_23_0  ) hst ?_
    intro g32 w33 hst
    have hst := Star.mkRow (R := (OR.frz RP.int)) [] [] 0 hst rfl rfl rfl (by decide)
    refine L_mv (v := v1) rfl rfl ?_
    refine L_app (v := (.slice (some ⟨g32, 0, none⟩) 0 0)) (u := v1) rfl et_23 rfl rfl hst h1 hx28 ?_
    intro v35 w36 hst
    refine L_as (v := v35) rfl rfl ?_
    refine L_nil ?_
    refine W_seq ?_
    refine W_seq ?_
    refine W_region ?_
    refine L_as (v := .bool true) rfl rfl ?_
    refine L_nil ?_
    obtain ⟨j42, hL42, hF⟩ := bind_some hF
    obtain ⟨R42, hR42⟩ : ∃ RR_ : Fr → World → Prop, RR_ = fun f w_ => ∃ out_39 : List Int, ∃ more_41 : Bool, j42 = .nx (out_39, more_41) ∧ Star H w_ ([]) := ⟨_, rfl⟩
    refine W_join R42 ?_ ?_
    ·
      refine W_block ?_
      obtain ⟨I42, hI42⟩ : ∃ I : Nat → Fr → World → Prop, I = fun n f w_ => ∃ out_39 : List Int, ∃ more_41 : Bool, ∃ v39_out : Value, whileL (s_NextModel_b1 fu m) n (out_39, more_41) = some j42 ∧ f 2 = .pointer (some ⟨g3, 0, none⟩) ∧ f 6 = v39_out ∧ f 7 = .bool more_41 ∧ Star H w_ ([own (OR.ownS 3 (OR.frz RP.int)) [v39_out] out_39, box g3 26 #[v0_0, v0_1]]) := ⟨_, rfl⟩
      refine W_loop I42 (n := fu) ?_ ?_
      · rw [hI42]; exact ⟨x28, true, v35, hL42, rfl, rfl, rfl, hst⟩
      ·
        clear hst
        intro n42 f w_ hI
        rw [hI42] at hI
        obtain ⟨out_39, more_41, v39_out, hL42, sf2, sf6, sf7, hst⟩ := hI
        cases n42 with
        | zero => exact (while_zero hL42).elim
        | succ n42 =>
          obtain ⟨o42, hB42, hL42⟩ := while_succ hL42
          rw [s_NextModel_b1] at hB42
          refine W_seq ?_
          refine W_seq ?_
          refine W_region ?_
          refine L_mv (v := .bool more_41) rfl sf7 ?_
          refine L_nil ?_
          refine W_cond (b := more_41) rfl (fun hc43 => ?_) (fun hc43 => ?_)
          ·
            have hB42 := (ite_t hc43).symm.trans hB42
            refine W_skip ?_
            refine W_block ?_
            refine W_seq ?_
            refine W_seq ?_
            obtain ⟨x50, hx50, hB42⟩ := bind_some hB42
            refine W_region ?_
            refine L_lda (cs := [v0_0, v0_1]) rfl Try.isAgg26 Try.sizeOf26 sf2 (At.sub0 (Blk.at (Star.blkAt 1 hst rfl)) 0 2) rfl ?_
            refine L_mv (v := v39_out) rfl sf6 ?_
            obtain ⟨Hb52, hle53, hsb54, hfz55, hbk56⟩ := Star.borrow hst
            have hb57 : (RP.slice 3 RP.int).rel Hb52 [v39_out] out_39 := fz_own 0 hfz55 rfl
            refine L_call (args := #[.agg #[v0_0, v0_1], v39_out]) rfl Try.call60 (ops2 rfl rfl) (s_l6Solves_c (m := m) (cells := out_39) hsb54 (RP.mono _ h0_0 hle53) (RP.mono _ h0_1 hle53) hb57 hx50) ?_
            rintro _ w58 ⟨rfl, hst⟩
            have hst := hbk56 hst closedL_nil
            refine L_nil ?_
            refine W_cond (b := x50) rfl (fun hc59 => ?_) (fun hc59 => ?_)
            ·
              have hB42 := (ite_t hc59).symm.trans hB42
              refine W_seq ?_
              refine W_region ?_
              refine L_mv (v := v39_out) rfl sf6 ?_
              refine L_as (v := v39_out) rfl rfl ?_
              refine L_as (v := .bool true) rfl rfl ?_
              refine L_nil ?_
              refine W_ret ?_
              refine retG2 (v1 := v39_out) (v2 := .bool true) Try.results36 rfl rfl ?_
              obtain rfl := so hB42
              obtain rfl := so hL42
              obtain rfl := so hF
              exact ⟨v39_out, rfl, (Star.keepN 1 hst)⟩
            ·
              have hB42 := (ite_f hc59).symm.trans hB42
              refine W_skip ?_
              obtain ⟨x66, hx66, hB42⟩ := bind_some hB42
              refine W_region ?_
              refine L_lda (cs := [v0_0, v0_1]) rfl Try.isAgg26 Try.sizeOf26 sf2 (At.sub0 (Blk.at (Star.blkAt 1 hst rfl)) 0 2) rfl ?_
              refine L_mv (v := v39_out) rfl sf6 ?_
              obtain ⟨Hb69, hle70, hsb71, hfz72, hbk73⟩ := Star.borrow hst
              have hb74 : (RP.slice 3 RP.int).rel Hb69 [v39_out] out_39 := fz_own 0 hfz72 rfl
              refine L_call (args := #[.agg #[v0_0, v0_1], v39_out]) rfl Try.call65 (ops2 rfl rfl) (s_l6Next_c (m := m) (cells := out_39) hsb71 (RP.mono _ h0_0 hle70) (RP.mono _ h0_1 hle70) hb74 hx66) ?_
              rintro _ w75 ⟨r75_0, rfl, hst⟩
              have hst := hbk73 hst (closedL_cons (closed_own (OR.closed_ownS closed_int) _ _) closedL_nil)
              refine L_mv (v := .tuple #[r75_0, .bool x66.2]) rfl rfl ?_
              refine L_ex (v := r75_0) rfl rfl rfl ?_
              refine L_ex (v := .bool x66.2) rfl rfl rfl ?_
              refine L_as (v := r75_0) rfl rfl ?_
              refine L_as (v := .bool x66.2) rfl rfl ?_
              refine L_nil ?_
              obtain rfl := so hB42
              have hst := Star.get 2 hst rfl
              have hst := Star.get 1 hst rfl
              show ∃ m, m < _ ∧ I42 m _ _
              refine ⟨n42, Nat.lt_succ_self _, ?_⟩
              rw [hI42]
              exact ⟨x66.1, x66.2, r75_0, hL42, sf2, rfl, rfl, (Star.keepN 2 hst)⟩
          ·
            have hB42 := (ite_f hc43).symm.trans hB42
            refine W_exit ?_
            obtain rfl := so hB42
            obtain rfl := so hL42
            show R42 _ _
            rw [hR42]
            exact ⟨out_39, more_41, rfl, (Star.keepN 0 hst)⟩
    ·
      clear hst
      intro f w_ hR
      rw [hR42] at hR
      obtain ⟨out_39, more_41, rfl, hst⟩ := hR
      clear hR42
      refine W_seq ?_
      refine W_region ?_
      refine L_bs rfl parts0 (bs_23_0  ) hst ?_
      intro g80 w81 hst
      have hst := Star.mkRow (R := (OR.frz RP.int)) [] [] 0 hst rfl rfl rfl (by decide)
      refine L_as (v := (.slice (some ⟨g80, 0, none⟩) 0 0)) rfl rfl ?_
      refine L_as (v := .bool false) rfl rfl ?_
      refine L_nil ?_
      refine W_ret ?_
      refine retG2 (v1 := (.slice (some ⟨g80, 0, none⟩) 0 0)) (v2 := .bool false) Try.results36 rfl rfl ?_
      obtain rfl := so hF
      exact ⟨(.slice (some ⟨g80, 0, none⟩) 0 0), rfl, hst⟩

theorem l_szIntS_c {a : List Int} {left : Int} {v0 : Value} {H : FH} {w : World} (hst : Star H w []) (h0 : (RP.slice 3 RP.int).rel H [v0] a) {r : Int} (hF : l_szIntS a left = some r) :
    C Try.prog 75 #[v0, .int .i64 left] w fun v w' => v = .int .i64 r ∧ Star H w' [] := by
  unfold l_szIntS at hF
  refine C_enter Try.func75 rfl Try.ntmps75 rfl ?_
  refine W_seq ?_
  refine W_region ?_
  refine L_as (v := .int .i64 0) rfl rfl ?_
  refine L_nil ?_
  refine W_seq ?_
  refine W_region ?_
  refine L_mv (v := .int .i64 left) rfl rfl ?_
  refine L_mv (v := v0) rfl rfl ?_
  refine L_len (v := v0) (n := List.length a) rfl Try.underlying23 rfl (slice_len h0) ?_
  refine L_sub (m := left) (n := (a.length : Int)) rfl rfl rfl ?_
  refine L_as (v := .int .i64 (i64 (left - (a.length : Int)))) rfl rfl ?_
  refine L_nil ?_
  refine W_seq ?_
  refine W_seq ?_
  refine W_region ?_
  refine L_mv (v := .int .i64 (i64 (left - (a.length : Int)))) rfl rfl ?_
  refine L_lss (m := i64 (left - (a.length : Int))) (n := 0) rfl rfl rfl ?_
  refine L_nil ?_
  refine W_cond (b := decide ((i64 (left - (a.length : Int))) < 0)) rfl (fun hc1 => ?_) (fun hc1 => ?_)
  ·
    have hF := (ite_t hc1).symm.trans hF
    refine W_seq ?_
    refine W_region ?_
    refine L_as (v := .int .i64 (-1)) rfl rfl ?_
    refine L_nil ?_
    refine W_ret ?_
    refine retG1 (v1 := .int .i64 (-1)) Try.results75 rfl ?_
    obtain rfl := so hF
    exact ⟨rfl, hst⟩
  ·
    have hF := (ite_f hc1).symm.trans hF
    refine W_skip ?_
    refine W_seq ?_
    refine W_region ?_
    refine L_mv (v := .int .i64 (i64 (left - (a.length : Int)))) rfl rfl ?_
    refine L_as (v := .int .i64 (i64 (left - (a.length : Int)))) rfl rfl ?_
    refine L_nil ?_
    refine W_ret ?_
    refine retG1 (v1 := .int .i64 (i64 (left - (a.length : Int)))) Try.results75 rfl ?_
    obtain rfl := so hF
    exact ⟨rfl, hst⟩

theorem l_szIntSS_c {a : List (List Int)} {left : Int} {v0 : Value} {H : FH} {w : World} (hst : Star H w []) (h0 : (RP.slice 23 (RP.slice 3 RP.int)).rel H [v0] a) {r : Int} (hF : l_szIntSS a left = some r) :
    C Try.prog 106 #[v0, .int .i64 left] w fun v w' => v = .int .i64 r ∧ Star H w' [] := by
  unfold l_szIntSS at hF
  refine C_enter Try.func106 rfl Try.ntmps106 rfl ?_
  refine W_seq ?_
  refine W_region ?_
  refine L_as (v := .int .i64 0) rfl rfl ?_
  refine L_nil ?_
  refine W_seq ?_
  refine W_region ?_
  refine L_mv (v := .int .i64 left) rfl rfl ?_
  refine L_mv (v := v0) rfl rfl ?_
  refine L_len (v := v0) (n := List.length a) rfl Try.underlying34 rfl (slice_len h0) ?_
  refine L_sub (m := left) (n := (a.length : Int)) rfl rfl rfl ?_
  refine L_as (v := .int .i64 (i64 (left - (a.length : Int)))) rfl rfl ?_
  refine L_nil ?_
  refine W_seq ?_
  refine W_seq ?_
  refine W_region ?_
  refine L_mv (v := .int .i64 (i64 (left - (a.length : Int)))) rfl rfl ?_
  refine L_lss (m := i64 (left - (a.length : Int))) (n := 0) rfl rfl rfl ?_
  refine L_nil ?_
  refine W_cond (b := decide ((i64 (left - (a.length : Int))) < 0)) rfl (fun hc1 => ?_) (fun hc1 => ?_)
  ·
    have hF := (ite_t hc1).symm.trans hF
    refine W_seq ?_
    refine W_region ?_
    refine L_as (v := .int .i64 (-1)) rfl rfl ?_
    refine L_nil ?_
    refine W_ret ?_
    refine retG1 (v1 := .int .i64 (-1)) Try.results106 rfl ?_
    obtain rfl := so hF
    exact ⟨rfl, hst⟩
  ·
    have hF := (ite_f hc1).symm.trans hF
    refine W_skip ?_
    refine W_seq ?_
    refine W_seq ?_
    refine W_region ?_
    refine L_as (v := .int .i64 0) rfl rfl ?_
    refine L_nil ?_
    have hlen4 : List.length a ≤ 9223372036854775807 := len_le (slice_len h0)
    obtain ⟨j4, hL4, hF⟩ := bind_some hF
    obtain ⟨R4, hR4⟩ : ∃ RR_ : Fr → World → Prop, RR_ = fun f w_ => ∃ left_3 : Int, j4 = .nx left_3 ∧ f 1 = .int .i64 left_3 ∧ Star H w_ ([]) := ⟨_, rfl⟩
    refine W_join R4 ?_ ?_
    ·
      refine W_block ?_
      obtain ⟨I4, hI4⟩ : ∃ I : Nat → Fr → World → Prop, I = fun n f w_ => ∃ i_2 : Nat, ∃ suf4 : List (List Int), ∃ left_3 : Int, n = suf4.length ∧ List.drop i_2 a = suf4 ∧ i_2 + suf4.length = a.length ∧ rangeL l_szIntSS_b1 suf4 i_2 left_3 = some j4 ∧ f 0 = v0 ∧ f 1 = .int .i64 left_3 ∧ f 5 = .int .i64 (i_2 : Int) ∧ Star H w_ ([]) := ⟨_, rfl⟩
      refine W_loop I4 (n := a.length) ?_ ?_
      · rw [hI4]; exact ⟨0, a, i64 (left - (a.length : Int)), rfl, rfl, Nat.zero_add _, hL4, rfl, rfl, rfl, hst⟩
      ·
        clear hst
        intro n4 f w_ hI
        rw [hI4] at hI
        obtain ⟨i_2, suf4, left_3, rfl, hd4, hl4, hL4, sf0, sf1, sf5, hst⟩ := hI
        refine W_seq ?_
        refine W_seq ?_
        refine W_region ?_
        refine L_mv (v := .int .i64 (i_2 : Int)) rfl sf5 ?_
        refine L_mv (v := v0) rfl sf0 ?_
        refine L_len (v := v0) (n := List.length a) rfl Try.underlying34 rfl (slice_len h0) ?_
        refine L_lss (m := (i_2 : Int)) (n := (a.length : Int)) rfl rfl rfl ?_
        refine L_nil ?_
        refine W_cond (b := decide ((i_2 : Int) < (a.length : Int))) rfl (fun hc5 => ?_) (fun hc5 => ?_)
        ·
          have hlt4 := of_decide_eq_true hc5
          cases suf4 with
          | nil => exact absurd hlt4 (by simp at hl4; omega)
          | cons x_4 rest4 =>
            obtain ⟨o4, hB4, hL4⟩ := range_cons hL4
            rw [l_szIntSS_b1] at hB4
            have hix4 := drop_idx hd4
            refine W_skip ?_
            refine W_seq ?_
            refine W_block ?_
            refine W_seq ?_
            obtain ⟨x15, hx15, hB4⟩ := bind_some hB4
            refine W_region ?_
            refine L_mv (v := v0) rfl sf0 ?_
            refine L_mv (v := .int .i64 (i_2 : Int)) rfl sf5 ?_
            refine L_ix (r := (RP.slice 3 RP.int)) rfl Try.underlying34 Try.sizeOf23 rfl h0 rfl hix4 ?_
            intro g17 o18 cs_g17 hrk_hat19 hat19
            obtain ⟨u20, rfl, hu20⟩ := slice1 hrk_hat19
            refine L_ld (v := u20) rfl Try.isAgg23 rfl (At.cell (AtH.at hat19 hst.sub) (j := 0) rfl) ?_
            refine L_mv (v := .int .i64 left_3) rfl sf1 ?_
            obtain ⟨Hb21, hle22, hsb23, hfz24, hbk25⟩ := Star.borrow hst
            refine L_call (args := #[u20, .int .i64 left_3]) rfl Try.call75 (ops2 rfl rfl) (l_szIntS_c (a := x_4) (left := left_3) hsb23 (RP.mono _ hu20 hle22) hx15) ?_
            rintro _ w26 ⟨rfl, hst⟩
            have hst := hbk25 hst closedL_nil
            refine L_as (v := .int .i64 x15) rfl rfl ?_
            refine L_nil ?_
            refine W_seq ?_
            refine W_region ?_
            refine L_mv (v := .int .i64 x15) rfl rfl ?_
            refine L_lss (m := x15) (n := 0) rfl rfl rfl ?_
            refine L_nil ?_
            refine W_cond (b := decide (x15 < 0)) rfl (fun hc27 => ?_) (fun hc27 => ?_)
            ·
              have hB4 := (ite_t hc27).symm.trans hB4
              refine W_seq ?_
              refine W_region ?_
              refine L_as (v := .int .i64 (-1)) rfl rfl ?_
              refine L_nil ?_
              refine W_ret ?_
              refine retG1 (v1 := .int .i64 (-1)) Try.results106 rfl ?_
              obtain rfl := so hB4
              obtain rfl := so hL4
              obtain rfl := so hF
              exact ⟨rfl, hst⟩
            ·
              have hB4 := (ite_f hc27).symm.trans hB4
              refine W_skip ?_
              refine W_region ?_
              refine L_mv (v := .int .i64 (i_2 : Int)) rfl sf5 ?_
              refine L_add (m := (i_2 : Int)) (n := 1) rfl rfl rfl ?_
              refine L_as (v := .int .i64 (i64 ((i_2 : Int) + 1))) rfl rfl ?_
              refine L_nil ?_
              obtain rfl := so hB4
              show ∃ m, m < _ ∧ I4 m _ _
              refine ⟨rest4.length, by simp, ?_⟩
              rw [hI4]
              exact ⟨i_2 + 1, rest4, x15, rfl, drop_next hd4, by simp at hl4; omega, hL4, sf0, rfl, (Eq.trans rfl (congrArg (Value.int .i64) (i64_succ (n := a.length) (by simp at hl4; omega) hlen4))), hst⟩
        ·
          cases suf4 with
          | cons _ _ => exact absurd (of_decide_eq_false hc5) (by simp at hl4; omega)
          | nil =>
            obtain rfl := range_nil hL4
            refine W_exit ?_
            show R4 _ _
            rw [hR4]
            exact ⟨left_3, rfl, sf1, hst⟩
    ·
      clear hst
      intro f w_ hR
      rw [hR4] at hR
      obtain ⟨left_3, rfl, sf1, hst⟩ := hR
      clear hR4
      refine W_seq ?_
      refine W_region ?_
      refine L_mv (v := .int .i64 left_3) rfl sf1 ?_
      refine L_as (v := .int .i64 left_3) rfl rfl ?_
      refine L_nil ?_
      refine W_ret ?_
      refine retG1 (v1 := .int .i64 left_3) Try.results106 rfl ?_
      obtain rfl := so hF
      exact ⟨rfl, hst⟩

theorem l_szRule_c {a : Rule} {left : Int} {v0_1 : Value} {v0_2 : Value} {v0_4 : Value} {H : FH} {w : World} (hst : Star H w []) (h0_1 : (RP.slice 3 RP.int).rel H [v0_1] a.vars) (h0_2 : (RP.slice 3 RP.int).rel H [v0_2] a.coefs) (h0_4 : (RP.slice 23 (RP.slice 3 RP.int)).rel H [v0_4] a.rows) {r : Int} (hF : l_szRule a left = some r) :
    C Try.prog 93 #[.agg #[.int .i64 a.kind, v0_1, v0_2, .int .i64 a.bound, v0_4], .int .i64 left] w fun v w' => v = .int .i64 r ∧ Star H w' [] := by
  unfold l_szRule at hF
  refine C_enter Try.func93 rfl Try.ntmps93 rfl ?_
  refine W_seq ?_
  refine W_region ?_
  refine L_box (v := .agg #[.int .i64 a.kind, v0_1, v0_2, .int .i64 a.bound, v0_4]) (cs := #[.int .i64 a.kind, v0_1, v0_2, .int .i64 a.bound, v0_4]) rfl rfl rfl hst ?_
  intro g3 w4 hst
  refine L_as (v := .int .i64 0) rfl rfl ?_
  refine L_nil ?_
  refine W_seq ?_
  obtain ⟨x10, hx10, hF⟩ := bind_some hF
  refine W_region ?_
  refine L_fa (o' := 1) rfl fa_96_1 rfl rfl ?_
  refine L_ld (v := v0_1) rfl Try.isAgg23 rfl (At.cell0 (Blk.at (Star.blkAt 0 hst rfl)) (j := 1) rfl) ?_
  refine L_mv (v := .int .i64 left) rfl rfl ?_
  obtain ⟨Hb12, hle13, hsb14, hfz15, hbk16⟩ := Star.borrow hst
  refine L_call (args := #[v0_1, .int .i64 left]) rfl Try.call75 (ops2 rfl rfl) (l_szIntS_c (a := a.vars) (left := left) hsb14 (RP.mono _ h0_1 hle13) hx10) ?_
  rintro _ w17 ⟨rfl, hst⟩
  have hst := hbk16 hst closedL_nil
  refine L_as (v := .int .i64 x10) rfl rfl ?_
  refine L_nil ?_
  refine W_seq ?_
  refine W_seq ?_
  refine W_region ?_
  refine L_mv (v := .int .i64 x10) rfl rfl ?_
  refine L_lss (m := x10) (n := 0) rfl rfl rfl ?_
  refine L_nil ?_
  refine W_cond (b := decide (x10 < 0)) rfl (fun hc18 => ?_) (fun hc18 => ?_)
  ·
    have hF := (ite_t hc18).symm.trans hF
    refine W_seq ?_
    refine W_region ?_
    refine L_as (v := .int .i64 (-1)) rfl rfl ?_
    refine L_nil ?_
    refine W_ret ?_
    refine retG1 (v1 := .int .i64 (-1)) Try.results93 rfl ?_
    obtain rfl := so hF
    exact ⟨rfl, (Star.keepN 0 hst)⟩
  ·
    have hF := (ite_f hc18).symm.trans hF
    refine W_skip ?_
    refine W_seq ?_
    obtain ⟨x24, hx24, hF⟩ := bind_some hF
    refine W_region ?_
    refine L_fa (o' := 2) rfl fa_96_2 rfl rfl ?_
    refine L_ld (v := v0_2) rfl Try.isAgg23 rfl (At.cell0 (Blk.at (Star.blkAt 0 hst rfl)) (j := 2) rfl) ?_
    refine L_mv (v := .int .i64 x10) rfl rfl ?_
    obtain ⟨Hb26, hle27, hsb28, hfz29, hbk30⟩ := Star.borrow hst
    refine L_call (args := #[v0_2, .int .i64 x10]) rfl Try.call75 (ops2 rfl rfl) (l_szIntS_c (a := a.coefs) (left := x10) hsb28 (RP.mono _ h0_2 hle27) hx24) ?_
    rintro _ w31 ⟨rfl, hst⟩
    have hst := hbk30 hst closedL_nil
    refine L_as (v := .int .i64 x24) rfl rfl ?_
    refine L_nil ?_
    refine W_seq ?_
    refine W_seq ?_
    refine W_region ?_
    refine L_mv (v := .int .i64 x24) rfl rfl ?_
    refine L_lss (m := x24) (n := 0) rfl rfl rfl ?_
    refine L_nil ?_
    refine W_cond (b := decide (x24 < 0)) rfl (fun hc32 => ?_) (fun hc32 => ?_)
    ·
      have hF := (ite_t hc32).symm.trans hF
      refine W_seq ?_
      refine W_region ?_
      refine L_as (v := .int .i64 (-1)) rfl rfl ?_
      refine L_nil ?_
      refine W_ret ?_
      refine retG1 (v1 := .int .i64 (-1)) Try.results93 rfl ?_
      obtain rfl := so hF
      exact ⟨rfl, (Star.keepN 0 hst)⟩
    ·
      have hF := (ite_f hc32).symm.trans hF
      refine W_skip ?_
      refine W_seq ?_
      obtain ⟨x38, hx38, hF⟩ := bind_some hF
      refine W_region ?_
      refine L_fa (o' := 4) rfl fa_96_4 rfl rfl ?_
      refine L_ld (v := v0_4) rfl Try.isAgg34 rfl (At.cell0 (Blk.at (Star.blkAt 0 hst rfl)) (j := 4) rfl) ?_
      refine L_mv (v := .int .i64 x24) rfl rfl ?_
      obtain ⟨Hb40, hle41, hsb42, hfz43, hbk44⟩ := Star.borrow hst
      refine L_call (args := #[v0_4, .int .i64 x24]) rfl Try.call106 (ops2 rfl rfl) (l_szIntSS_c (a := a.rows) (left := x24) hsb42 (RP.mono _ h0_4 hle41) hx38) ?_
      rintro _ w45 ⟨rfl, hst⟩
      have hst := hbk44 hst closedL_nil
      refine L_as (v := .int .i64 x38) rfl rfl ?_
      refine L_nil ?_
      refine W_seq ?_
      refine W_seq ?_
      refine W_region ?_
      refine L_mv (v := .int .i64 x38) rfl rfl ?_
      refine L_lss (m := x38) (n := 0) rfl rfl rfl ?_
      refine L_nil ?_
      refine W_cond (b := decide (x38 < 0)) rfl (fun hc46 => ?_) (fun hc46 => ?_)
      ·
        have hF := (ite_t hc46).symm.trans hF
        refine W_seq ?_
        refine W_region ?_
        refine L_as (v := .int .i64 (-1)) rfl rfl ?_
        refine L_nil ?_
        refine W_ret ?_
        refine retG1 (v1 := .int .i64 (-1)) Try.results93 rfl ?_
        obtain rfl := so hF
        exact ⟨rfl, (Star.keepN 0 hst)⟩
      ·
        have hF := (ite_f hc46).symm.trans hF
        refine W_skip ?_
        refine W_seq ?_
        refine W_region ?_
        refine L_mv (v := .int .i64 x38) rfl rfl ?_
        refine L_as (v := .int .i64 x38) rfl rfl ?_
        refine L_nil ?_
        refine W_ret ?_
        refine retG1 (v1 := .int .i64 x38) Try.results93 rfl ?_
        obtain rfl := so hF
        exact ⟨rfl, (Star.keepN 0 hst)⟩

theorem l_szRuleS_c {a : List Rule} {left : Int} {v0 : Value} {H : FH} {w : World} (hst : Star H w []) (h0 : (RP.slice 96 (rRule 3 23)).rel H [v0] a) {r : Int} (hF : l_szRuleS a left = some r) :
    C Try.prog 76 #[v0, .int .i64 left] w fun v w' => v = .int .i64 r ∧ Star H w' [] := by
  unfold l_szRuleS at hF
  refine C_enter Try.func76 rfl Try.ntmps76 rfl ?_
  refine W_seq ?_
  refine W_region ?_
  refine L_as (v := .int .i64 0) rfl rfl ?_
  refine L_nil ?_
  refine W_seq ?_
  refine W_region ?_
  refine L_mv (v := .int .i64 left) rfl rfl ?_
  refine L_mv (v := v0) rfl rfl ?_
  refine L_len (v := v0) (n := List.length a) rfl Try.underlying53 rfl (slice_len h0) ?_
  refine L_sub (m := left) (n := (a.length : Int)) rfl rfl rfl ?_
  refine L_as (v := .int .i64 (i64 (left - (a.length : Int)))) rfl rfl ?_
  refine L_nil ?_
  refine W_seq ?_
  refine W_seq ?_
  refine W_region ?_
  refine L_mv (v := .int .i64 (i64 (left - (a.length : Int)))) rfl rfl ?_
  refine L_lss (m := i64 (left - (a.length : Int))) (n := 0) rfl rfl rfl ?_
  refine L_nil ?_
  refine W_cond (b := decide ((i64 (left - (a.length : Int))) < 0)) rfl (fun hc1 => ?_) (fun hc1 => ?_)
  ·
    have hF := (ite_t hc1).symm.trans hF
    refine W_seq ?_
    refine W_region ?_
    refine L_as (v := .int .i64 (-1)) rfl rfl ?_
    refine L_nil ?_
    refine W_ret ?_
    refine retG1 (v1 := .int .i64 (-1)) Try.results76 rfl ?_
    obtain rfl := so hF
    exact ⟨rfl, hst⟩
  ·
    have hF := (ite_f hc1).symm.trans hF
    refine W_skip ?_
    refine W_seq ?_
    refine W_seq ?_
    refine W_region ?_
    refine L_as (v := .int .i64 0) rfl rfl ?_
    refine L_nil ?_
    have hlen4 : List.length a ≤ 9223372036854775807 := len_le (slice_len h0)
    obtain ⟨j4, hL4, hF⟩ := bind_some hF
    obtain ⟨R4, hR4⟩ : ∃ RR_ : Fr → World → Prop, RR_ = fun f w_ => ∃ left_3 : Int, j4 = .nx left_3 ∧ f 1 = .int .i64 left_3 ∧ Star H w_ ([]) := ⟨_, rfl⟩
    refine W_join R4 ?_ ?_
    ·
      refine W_block ?_
      obtain ⟨I4, hI4⟩ : ∃ I : Nat → Fr → World → Prop, I = fun n f w_ => ∃ i_2 : Nat, ∃ suf4 : List Rule, ∃ left_3 : Int, n = suf4.length ∧ List.drop i_2 a = suf4 ∧ i_2 + suf4.length = a.length ∧ rangeL l_szRuleS_b1 suf4 i_2 left_3 = some j4 ∧ f 0 = v0 ∧ f 1 = .int .i64 left_3 ∧ f 5 = .int .i64 (i_2 : Int) ∧ Star H w_ ([]) := ⟨_, rfl⟩
      refine W_loop I4 (n := a.length) ?_ ?_
      · rw [hI4]; exact ⟨0, a, i64 (left - (a.length : Int)), rfl, rfl, Nat.zero_add _, hL4, rfl, rfl, rfl, hst⟩
      ·
        clear hst
        intro n4 f w_ hI
        rw [hI4] at hI
        obtain ⟨i_2, suf4, left_3, rfl, hd4, hl4, hL4, sf0, sf1, sf5, hst⟩ := hI
        refine W_seq ?_
        refine W_seq ?_
        refine W_region ?_
        refine L_mv (v := .int .i64 (i_2 : Int)) rfl sf5 ?_
        refine L_mv (v := v0) rfl sf0 ?_
        refine L_len (v := v0) (n := List.length a) rfl Try.underlying53 rfl (slice_len h0) ?_
        refine L_lss (m := (i_2 : Int)) (n := (a.length : Int)) rfl rfl rfl ?_
        refine L_nil ?_
        refine W_cond (b := decide ((i_2 : Int) < (a.length : Int))) rfl (fun hc5 => ?_) (fun hc5 => ?_)
        ·
          have hlt4 := of_decide_eq_true hc5
          cases suf4 with
          | nil => exact absurd hlt4 (by simp at hl4; omega)
          | cons x_4 rest4 =>
            obtain ⟨o4, hB4, hL4⟩ := range_cons hL4
            rw [l_szRuleS_b1] at hB4
            have hix4 := drop_idx hd4
            refine W_skip ?_
            refine W_seq ?_
            refine W_block ?_
            refine W_seq ?_
            obtain ⟨x15, hx15, hB4⟩ := bind_some hB4
            refine W_region ?_
            refine L_mv (v := v0) rfl sf0 ?_
            refine L_mv (v := .int .i64 (i_2 : Int)) rfl sf5 ?_
            refine L_ix (r := (rRule 3 23)) rfl Try.underlying53 Try.sizeOf96 rfl h0 rfl hix4 ?_
            intro g17 o18 cs_g17 hrk_hat19 hat19
            obtain ⟨u20_0, u20_1, u20_2, rfl, hu20_0, hu20_1, hu20_2⟩ := rRule_iff.1 hrk_hat19
            refine L_lda (cs := [.int .i64 x_4.kind, u20_0, u20_1, .int .i64 x_4.bound, u20_2]) rfl Try.isAgg96 Try.sizeOf96 rfl (At.sub (AtH.at hat19 hst.sub) 0 5) rfl ?_
            refine L_mv (v := .int .i64 left_3) rfl sf1 ?_
            obtain ⟨Hb21, hle22, hsb23, hfz24, hbk25⟩ := Star.borrow hst
            refine L_call (args := #[.agg #[.int .i64 x_4.kind, u20_0, u20_1, .int .i64 x_4.bound, u20_2], .int .i64 left_3]) rfl Try.call93 (ops2 rfl rfl) (l_szRule_c (a := x_4) (left := left_3) hsb23 (RP.mono _ hu20_0 hle22) (RP.mono _ hu20_1 hle22) (RP.mono _ hu20_2 hle22) hx15) ?_
            rintro _ w26 ⟨rfl, hst⟩
            have hst := hbk25 hst closedL_nil
            refine L_as (v := .int .i64 x15) rfl rfl ?_
            refine L_nil ?_
            refine W_seq ?_
            refine W_region ?_
            refine L_mv (v := .int .i64 x15) rfl rfl ?_
            refine L_lss (m := x15) (n := 0) rfl rfl rfl ?_
            refine L_nil ?_
            refine W_cond (b := decide (x15 < 0)) rfl (fun hc27 => ?_) (fun hc27 => ?_)
            ·
              have hB4 := (ite_t hc27).symm.trans hB4
              refine W_seq ?_
              refine W_region ?_
              refine L_as (v := .int .i64 (-1)) rfl rfl ?_
              refine L_nil ?_
              refine W_ret ?_
              refine retG1 (v1 := .int .i64 (-1)) Try.results76 rfl ?_
              obtain rfl := so hB4
              obtain rfl := so hL4
              obtain rfl := so hF
              exact ⟨rfl, hst⟩
            ·
              have hB4 := (ite_f hc27).symm.trans hB4
              refine W_skip ?_
              refine W_region ?_
              refine L_mv (v := .int .i64 (i_2 : Int)) rfl sf5 ?_
              refine L_add (m := (i_2 : Int)) (n := 1) rfl rfl rfl ?_
              refine L_as (v := .int .i64 (i64 ((i_2 : Int) + 1))) rfl rfl ?_
              refine L_nil ?_
              obtain rfl := so hB4
              show ∃ m, m < _ ∧ I4 m _ _
              refine ⟨rest4.length, by simp, ?_⟩
              rw [hI4]
              exact ⟨i_2 + 1, rest4, x15, rfl, drop_next hd4, by simp at hl4; omega, hL4, sf0, rfl, (Eq.trans rfl (congrArg (Value.int .i64) (i64_succ (n := a.length) (by simp at hl4; omega) hlen4))), hst⟩
        ·
          cases suf4 with
          | cons _ _ => exact absurd (of_decide_eq_false hc5) (by simp at hl4; omega)
          | nil =>
            obtain rfl := range_nil hL4
            refine W_exit ?_
            show R4 _ _
            rw [hR4]
            exact ⟨left_3, rfl, sf1, hst⟩
    ·
      clear hst
      intro f w_ hR
      rw [hR4] at hR
      obtain ⟨left_3, rfl, sf1, hst⟩ := hR
      clear hR4
      refine W_seq ?_
      refine W_region ?_
      refine L_mv (v := .int .i64 left_3) rfl sf1 ?_
      refine L_as (v := .int .i64 left_3) rfl rfl ?_
      refine L_nil ?_
      refine W_ret ?_
      refine retG1 (v1 := .int .i64 left_3) Try.results76 rfl ?_
      obtain rfl := so hF
      exact ⟨rfl, hst⟩

theorem l_szModel_c {a : Model} {left : Int} {v0_0 : Value} {v0_1 : Value} {H : FH} {w : World} (hst : Star H w []) (h0_0 : (RP.slice 3 RP.int).rel H [v0_0] a.sizes) (h0_1 : (RP.slice 96 (rRule 3 23)).rel H [v0_1] a.rules) {r : Int} (hF : l_szModel a left = some r) :
    C Try.prog 38 #[.agg #[v0_0, v0_1], .int .i64 left] w fun v w' => v = .int .i64 r ∧ Star H w' [] := by
  unfold l_szModel at hF
  refine C_enter Try.func38 rfl Try.ntmps38 rfl ?_
  refine W_seq ?_
  refine W_region ?_
  refine L_box (v := .agg #[v0_0, v0_1]) (cs := #[v0_0, v0_1]) rfl rfl rfl hst ?_
  intro g3 w4 hst
  refine L_as (v := .int .i64 0) rfl rfl ?_
  refine L_nil ?_
  refine W_seq ?_
  obtain ⟨x10, hx10, hF⟩ := bind_some hF
  refine W_region ?_
  refine L_fa (o' := 0) rfl fa_55_0 rfl rfl ?_
  refine L_ld (v := v0_0) rfl Try.isAgg23 rfl (At.cell0 (Blk.at (Star.blkAt 0 hst rfl)) (j := 0) rfl) ?_
  refine L_mv (v := .int .i64 left) rfl rfl ?_
  obtain ⟨Hb12, hle13, hsb14, hfz15, hbk16⟩ := Star.borrow hst
  refine L_call (args := #[v0_0, .int .i64 left]) rfl Try.call75 (ops2 rfl rfl) (l_szIntS_c (a := a.sizes) (left := left) hsb14 (RP.mono _ h0_0 hle13) hx10) ?_
  rintro _ w17 ⟨rfl, hst⟩
  have hst := hbk16 hst closedL_nil
  refine L_as (v := .int .i64 x10) rfl rfl ?_
  refine L_nil ?_
  refine W_seq ?_
  refine W_seq ?_
  refine W_region ?_
  refine L_mv (v := .int .i64 x10) rfl rfl ?_
  refine L_lss (m := x10) (n := 0) rfl rfl rfl ?_
  refine L_nil ?_
  refine W_cond (b := decide (x10 < 0)) rfl (fun hc18 => ?_) (fun hc18 => ?_)
  ·
    have hF := (ite_t hc18).symm.trans hF
    refine W_seq ?_
    refine W_region ?_
    refine L_as (v := .int .i64 (-1)) rfl rfl ?_
    refine L_nil ?_
    refine W_ret ?_
    refine retG1 (v1 := .int .i64 (-1)) Try.results38 rfl ?_
    obtain rfl := so hF
    exact ⟨rfl, (Star.keepN 0 hst)⟩
  ·
    have hF := (ite_f hc18).symm.trans hF
    refine W_skip ?_
    refine W_seq ?_
    obtain ⟨x24, hx24, hF⟩ := bind_some hF
    refine W_region ?_
    refine L_fa (o' := 1) rfl fa_55_1 rfl rfl ?_
    refine L_ld (v := v0_1) rfl Try.isAgg53 rfl (At.cell0 (Blk.at (Star.blkAt 0 hst rfl)) (j := 1) rfl) ?_
    refine L_mv (v := .int .i64 x10) rfl rfl ?_
    obtain ⟨Hb26, hle27, hsb28, hfz29, hbk30⟩ := Star.borrow hst
    refine L_call (args := #[v0_1, .int .i64 x10]) rfl Try.call76 (ops2 rfl rfl) (l_szRuleS_c (a := a.rules) (left := x10) hsb28 (RP.mono _ h0_1 hle27) hx24) ?_
    rintro _ w31 ⟨rfl, hst⟩
    have hst := hbk30 hst closedL_nil
    refine L_as (v := .int .i64 x24) rfl rfl ?_
    refine L_nil ?_
    refine W_seq ?_
    refine W_seq ?_
    refine W_region ?_
    refine L_mv (v := .int .i64 x24) rfl rfl ?_
    refine L_lss (m := x24) (n := 0) rfl rfl rfl ?_
    refine L_nil ?_
    refine W_cond (b := decide (x24 < 0)) rfl (fun hc32 => ?_) (fun hc32 => ?_)
    ·
      have hF := (ite_t hc32).symm.trans hF
      refine W_seq ?_
      refine W_region ?_
      refine L_as (v := .int .i64 (-1)) rfl rfl ?_
      refine L_nil ?_
      refine W_ret ?_
      refine retG1 (v1 := .int .i64 (-1)) Try.results38 rfl ?_
      obtain rfl := so hF
      exact ⟨rfl, (Star.keepN 0 hst)⟩
    ·
      have hF := (ite_f hc32).symm.trans hF
      refine W_skip ?_
      refine W_seq ?_
      refine W_region ?_
      refine L_mv (v := .int .i64 x24) rfl rfl ?_
      refine L_as (v := .int .i64 x24) rfl rfl ?_
      refine L_nil ?_
      refine W_ret ?_
      refine retG1 (v1 := .int .i64 x24) Try.results38 rfl ?_
      obtain rfl := so hF
      exact ⟨rfl, (Star.keepN 0 hst)⟩

theorem l_toIntS_c {a : List Int} {v0 : Value} {H : FH} {w : World} (hst : Star H w []) (h0 : (RP.slice 3 RP.int).rel H [v0] a) {r : List Int} (hF : l_toIntS a = some r) :
    C Try.prog 40 #[v0] w fun v w' => ∃ (u1 : Value), v = u1 ∧ Star H w' [own (OR.ownS 3 (OR.frz RP.int)) [u1] r] := by
  unfold l_toIntS at hF
  refine C_enter Try.func40 rfl Try.ntmps40 rfl ?_
  refine W_seq ?_
  refine W_region ?_
  refine L_as (v := (.slice none 0 0)) rfl rfl ?_
  refine L_nil ?_
  refine W_seq ?_
  obtain ⟨x1, hx1, hF⟩ := bind_some hF
  refine W_region ?_
  refine L_mv (v := v0) rfl rfl ?_
  refine L_len (v := v0) (n := List.length a) rfl Try.underlying23 rfl (slice_len h0) ?_
  refine L_mk (R := (OR.frz RP.int)) (z0 := 0) (zc := [.int .i64 0]) rfl et_23 (by kernel_rfl) (fun _ _ => ⟨rfl, rfl⟩) rfl rfl hx1 hst ?_
  intro v5 w6 hst
  refine L_as (v := v5) rfl rfl ?_
  refine L_nil ?_
  refine W_seq ?_
  refine W_seq ?_
  refine W_region ?_
  refine L_as (v := .int .i64 0) rfl rfl ?_
  refine L_nil ?_
  have hlen10 : List.length a ≤ 9223372036854775807 := len_le (slice_len h0)
  obtain ⟨j10, hL10, hF⟩ := bind_some hF
  obtain ⟨R10, hR10⟩ : ∃ RR_ : Fr → World → Prop, RR_ = fun f w_ => ∃ out_9 : List Int, j10 = .nx out_9 ∧ f 3 = v5 ∧ Star H w_ ([own (OR.ownS 3 (OR.frz RP.int)) [v5] out_9]) := ⟨_, rfl⟩
  refine W_join R10 ?_ ?_
  ·
    refine W_block ?_
    obtain ⟨I10, hI10⟩ : ∃ I : Nat → Fr → World → Prop, I = fun n f w_ => ∃ i_8 : Nat, ∃ suf10 : List Int, ∃ out_9 : List Int, n = suf10.length ∧ List.drop i_8 a = suf10 ∧ i_8 + suf10.length = a.length ∧ rangeL l_toIntS_b1 suf10 i_8 out_9 = some j10 ∧ f 0 = v0 ∧ f 3 = v5 ∧ f 4 = .int .i64 (i_8 : Int) ∧ Star H w_ ([own (OR.ownS 3 (OR.frz RP.int)) [v5] out_9]) := ⟨_, rfl⟩
    refine W_loop I10 (n := a.length) ?_ ?_
    · rw [hI10]; exact ⟨0, a, x1, rfl, rfl, Nat.zero_add _, hL10, rfl, rfl, rfl, hst⟩
    ·
      clear hst
      intro n10 f w_ hI
      rw [hI10] at hI
      obtain ⟨i_8, suf10, out_9, rfl, hd10, hl10, hL10, sf0, sf3, sf4, hst⟩ := hI
      refine W_seq ?_
      refine W_seq ?_
      refine W_region ?_
      refine L_mv (v := .int .i64 (i_8 : Int)) rfl sf4 ?_
      refine L_mv (v := v0) rfl sf0 ?_
      refine L_len (v := v0) (n := List.length a) rfl Try.underlying23 rfl (slice_len h0) ?_
      refine L_lss (m := (i_8 : Int)) (n := (a.length : Int)) rfl rfl rfl ?_
      refine L_nil ?_
      refine W_cond (b := decide ((i_8 : Int) < (a.length : Int))) rfl (fun hc11 => ?_) (fun hc11 => ?_)
      ·
        have hlt10 := of_decide_eq_true hc11
        cases suf10 with
        | nil => exact absurd hlt10 (by simp at hl10; omega)
        | cons x_10 rest10 =>
          obtain ⟨o10, hB10, hL10⟩ := range_cons hL10
          rw [l_toIntS_b1] at hB10
          have hix10 := drop_idx hd10
          refine W_skip ?_
          refine W_seq ?_
          refine W_block ?_
          obtain ⟨x16, hx16, hB10⟩ := bind_some hB10
          refine W_region ?_
          refine L_mv (v := v5) rfl sf3 ?_
          refine L_mv (v := .int .i64 (i_8 : Int)) rfl sf4 ?_
          refine L_mv (v := v0) rfl sf0 ?_
          refine L_mv (v := .int .i64 (i_8 : Int)) rfl sf4 ?_
          refine L_ix (r := RP.int) rfl Try.underlying23 Try.sizeOf3 rfl h0 rfl hix10 ?_
          intro g20 o21 cs_g20 hrk_hat22 hat22
          obtain rfl : _ = [_] := hrk_hat22
          refine L_ld (v := .int .i64 x_10) rfl Try.isAgg3 rfl (At.cell (AtH.at hat22 hst.sub) (j := 0) rfl) ?_
          obtain ⟨g24, cap_g24, hv25, _, _⟩ := Star.row 0 hst rfl hx16
          refine L_ixO (R := (OR.frz RP.int)) (tb := 0) 0 rfl Try.underlying23 Try.sizeOf3 rfl hv25 (by first | rfl | simp) rfl hx16 ?_
          have hst := Star.addF (r := RP.int) (cs := [.int .i64 x_10]) (x := x_10) hst rfl
          refine L_stE1 (u := .int .i64 x_10) rfl Try.sizeOf3 rfl rfl rfl hv25 hst hx16 ?_
          intro w26 hst
          refine L_nil ?_
          refine W_region ?_
          refine L_mv (v := .int .i64 (i_8 : Int)) rfl sf4 ?_
          refine L_add (m := (i_8 : Int)) (n := 1) rfl rfl rfl ?_
          refine L_as (v := .int .i64 (i64 ((i_8 : Int) + 1))) rfl rfl ?_
          refine L_nil ?_
          obtain rfl := so hB10
          show ∃ m, m < _ ∧ I10 m _ _
          refine ⟨rest10.length, by simp, ?_⟩
          rw [hI10]
          exact ⟨i_8 + 1, rest10, (out_9.set (Int.toNat (i_8 : Int)) x_10), rfl, drop_next hd10, by simp at hl10; omega, hL10, sf0, sf3, (Eq.trans rfl (congrArg (Value.int .i64) (i64_succ (n := a.length) (by simp at hl10; omega) hlen10))), hst⟩
      ·
        cases suf10 with
        | cons _ _ => exact absurd (of_decide_eq_false hc11) (by simp at hl10; omega)
        | nil =>
          obtain rfl := range_nil hL10
          refine W_exit ?_
          show R10 _ _
          rw [hR10]
          exact ⟨out_9, rfl, sf3, hst⟩
  ·
    clear hst
    intro f w_ hR
    rw [hR10] at hR
    obtain ⟨out_9, rfl, sf3, hst⟩ := hR
    clear hR10
    refine W_seq ?_
    refine W_region ?_
    refine L_mv (v := v5) rfl sf3 ?_
    refine L_as (v := v5) rfl rfl ?_
    refine L_nil ?_
    refine W_ret ?_
    refine retG1 (v1 := v5) Try.results40 rfl ?_
    obtain rfl := so hF
    exact ⟨v5, rfl, hst⟩

theorem l_toIntSS_c {a : List (List Int)} {v0 : Value} {H : FH} {w : World} (hst : Star H w []) (h0 : (RP.slice 23 (RP.slice 3 RP.int)).rel H [v0] a) {r : List (List Int)} (hF : l_toIntSS a = some r) :
    C Try.prog 107 #[v0] w fun v w' => ∃ (u1 : Value), v = u1 ∧ Star H w' [own (OR.ownS 23 (OR.ownS 3 (OR.frz RP.int))) [u1] r] := by
  unfold l_toIntSS at hF
  refine C_enter Try.func107 rfl Try.ntmps107 rfl ?_
  refine W_seq ?_
  refine W_region ?_
  refine L_as (v := (.slice none 0 0)) rfl rfl ?_
  refine L_nil ?_
  refine W_seq ?_
  obtain ⟨x1, hx1, hF⟩ := bind_some hF
  refine W_region ?_
  refine L_mv (v := v0) rfl rfl ?_
  refine L_len (v := v0) (n := List.length a) rfl Try.underlying34 rfl (slice_len h0) ?_
  refine L_mk (R := (OR.ownS 3 (OR.frz RP.int))) (z0 := []) (zc := [(.slice none 0 0)]) rfl et_34 (by kernel_rfl) (fun _ _ => .inl ⟨rfl, rfl, rfl⟩) rfl rfl hx1 hst ?_
  intro v5 w6 hst
  refine L_as (v := v5) rfl rfl ?_
  refine L_nil ?_
  refine W_seq ?_
  refine W_seq ?_
  refine W_region ?_
  refine L_as (v := .int .i64 0) rfl rfl ?_
  refine L_nil ?_
  have hlen10 : List.length a ≤ 9223372036854775807 := len_le (slice_len h0)
  obtain ⟨j10, hL10, hF⟩ := bind_some hF
  obtain ⟨R10, hR10⟩ : ∃ RR_ : Fr → World → Prop, RR_ = fun f w_ => ∃ out_9 : List (List Int), j10 = .nx out_9 ∧ f 3 = v5 ∧ Star H w_ ([own (OR.ownS 23 (OR.ownS 3 (OR.frz RP.int))) [v5] out_9]) := ⟨_, rfl⟩
  refine W_join R10 ?_ ?_
  ·
    refine W_block ?_
    obtain ⟨I10, hI10⟩ : ∃ I : Nat → Fr → World → Prop, I = fun n f w_ => ∃ i_8 : Nat, ∃ suf10 : List (List Int), ∃ out_9 : List (List Int), n = suf10.length ∧ List.drop i_8 a = suf10 ∧ i_8 + suf10.length = a.length ∧ rangeL l_toIntSS_b1 suf10 i_8 out_9 = some j10 ∧ f 0 = v0 ∧ f 3 = v5 ∧ f 4 = .int .i64 (i_8 : Int) ∧ Star H w_ ([own (OR.ownS 23 (OR.ownS 3 (OR.frz RP.int))) [v5] out_9]) := ⟨_, rfl⟩
    refine W_loop I10 (n := a.length) ?_ ?_
    · rw [hI10]; exact ⟨0, a, x1, rfl, rfl, Nat.zero_add _, hL10, rfl, rfl, rfl, hst⟩
    ·
      clear hst
      intro n10 f w_ hI
      rw [hI10] at hI
      obtain ⟨i_8, suf10, out_9, rfl, hd10, hl10, hL10, sf0, sf3, sf4, hst⟩ := hI
      refine W_seq ?_
      refine W_seq ?_
      refine W_region ?_
      refine L_mv (v := .int .i64 (i_8 : Int)) rfl sf4 ?_
      refine L_mv (v := v0) rfl sf0 ?_
      refine L_len (v := v0) (n := List.length a) rfl Try.underlying34 rfl (slice_len h0) ?_
      refine L_lss (m := (i_8 : Int)) (n := (a.length : Int)) rfl rfl rfl ?_
      refine L_nil ?_
      refine W_cond (b := decide ((i_8 : Int) < (a.length : Int))) rfl (fun hc11 => ?_) (fun hc11 => ?_)
      ·
        have hlt10 := of_decide_eq_true hc11
        cases suf10 with
        | nil => exact absurd hlt10 (by simp at hl10; omega)
        | cons x_10 rest10 =>
          obtain ⟨o10, hB10, hL10⟩ := range_cons hL10
          rw [l_toIntSS_b1] at hB10
          have hix10 := drop_idx hd10
          refine W_skip ?_
          refine W_seq ?_
          refine W_block ?_
          obtain ⟨x21, hx21, hB10⟩ := bind_some hB10
          obtain ⟨x24, hx24, hB10⟩ := bind_some hB10
          refine W_region ?_
          refine L_mv (v := v5) rfl sf3 ?_
          refine L_mv (v := .int .i64 (i_8 : Int)) rfl sf4 ?_
          refine L_mv (v := v0) rfl sf0 ?_
          refine L_mv (v := .int .i64 (i_8 : Int)) rfl sf4 ?_
          refine L_ix (r := (RP.slice 3 RP.int)) rfl Try.underlying34 Try.sizeOf23 rfl h0 rfl hix10 ?_
          intro g28 o29 cs_g28 hrk_hat30 hat30
          obtain ⟨u31, rfl, hu31⟩ := slice1 hrk_hat30
          refine L_ld (v := u31) rfl Try.isAgg23 rfl (At.cell (AtH.at hat30 hst.sub) (j := 0) rfl) ?_
          obtain ⟨Hb32, hle33, hsb34, hfz35, hbk36⟩ := Star.borrow hst
          refine L_call (args := #[u31]) rfl Try.call40 (ops1 rfl) (l_toIntS_c (a := x_10) hsb34 (RP.mono _ hu31 hle33) hx21) ?_
          rintro r37_0 w37 ⟨_, rfl, hst⟩
          have hst := hbk36 hst (closedL_cons (closed_own (OR.closed_ownS closed_int) _ _) closedL_nil)
          obtain ⟨g39, cap_g39, hv40, _, _⟩ := Star.row 1 hst rfl hx24
          refine L_ixO (R := (OR.ownS 3 (OR.frz RP.int))) (tb := 0) 0 rfl Try.underlying34 Try.sizeOf23 rfl hv40 (by first | rfl | simp) rfl hx24 ?_
          refine L_stE1 (u := r37_0) rfl Try.sizeOf23 rfl rfl rfl hv40 hst hx24 ?_
          intro w41 hst
          refine L_nil ?_
          refine W_region ?_
          refine L_mv (v := .int .i64 (i_8 : Int)) rfl sf4 ?_
          refine L_add (m := (i_8 : Int)) (n := 1) rfl rfl rfl ?_
          refine L_as (v := .int .i64 (i64 ((i_8 : Int) + 1))) rfl rfl ?_
          refine L_nil ?_
          obtain rfl := so hB10
          show ∃ m, m < _ ∧ I10 m _ _
          refine ⟨rest10.length, by simp, ?_⟩
          rw [hI10]
          exact ⟨i_8 + 1, rest10, (out_9.set (Int.toNat (i_8 : Int)) x21), rfl, drop_next hd10, by simp at hl10; omega, hL10, sf0, sf3, (Eq.trans rfl (congrArg (Value.int .i64) (i64_succ (n := a.length) (by simp at hl10; omega) hlen10))), hst⟩
      ·
        cases suf10 with
        | cons _ _ => exact absurd (of_decide_eq_false hc11) (by simp at hl10; omega)
        | nil =>
          obtain rfl := range_nil hL10
          refine W_exit ?_
          show R10 _ _
          rw [hR10]
          exact ⟨out_9, rfl, sf3, hst⟩
  ·
    clear hst
    intro f w_ hR
    rw [hR10] at hR
    obtain ⟨out_9, rfl, sf3, hst⟩ := hR
    clear hR10
    refine W_seq ?_
    refine W_region ?_
    refine L_mv (v := v5) rfl sf3 ?_
    refine L_as (v := v5) rfl rfl ?_
    refine L_nil ?_
    refine W_ret ?_
    refine retG1 (v1 := v5) Try.results107 rfl ?_
    obtain rfl := so hF
    exact ⟨v5, rfl, hst⟩

theorem l_toRule_c {a : Rule} {v0_1 : Value} {v0_2 : Value} {v0_4 : Value} {H : FH} {w : World} (hst : Star H w []) (h0_1 : (RP.slice 3 RP.int).rel H [v0_1] a.vars) (h0_2 : (RP.slice 3 RP.int).rel H [v0_2] a.coefs) (h0_4 : (RP.slice 23 (RP.slice 3 RP.int)).rel H [v0_4] a.rows) {r : Rule} (hF : l_toRule a = some r) :
    C Try.prog 94 #[.agg #[.int .i64 a.kind, v0_1, v0_2, .int .i64 a.bound, v0_4]] w fun v w' => ∃ (u1 : Value) (u2 : Value) (u3 : Value), v = .agg #[.int .i64 r.kind, u1, u2, .int .i64 r.bound, u3] ∧ Star H w' [own (OR.ownS 3 (OR.frz RP.int)) [u1] r.vars, own (OR.ownS 3 (OR.frz RP.int)) [u2] r.coefs, own (OR.ownS 23 (OR.ownS 3 (OR.frz RP.int))) [u3] r.rows] := by
  unfold l_toRule at hF
  refine C_enter Try.func94 rfl Try.ntmps94 rfl ?_
  refine W_seq ?_
  refine W_region ?_
  refine L_box (v := .agg #[.int .i64 a.kind, v0_1, v0_2, .int .i64 a.bound, v0_4]) (cs := #[.int .i64 a.kind, v0_1, v0_2, .int .i64 a.bound, v0_4]) rfl rfl rfl hst ?_
  intro g5 w6 hst
  refine L_al (cs := #[.int .i64 0, (.slice none 0 0), (.slice none 0 0), .int .i64 0, (.slice none 0 0)]) rfl Try.zeroValue36 rfl hst ?_
  intro g7 w8 hst
  refine L_nil ?_
  refine W_seq ?_
  refine W_region ?_
  refine L_al (cs := #[.int .i64 0, (.slice none 0 0), (.slice none 0 0), .int .i64 0, (.slice none 0 0)]) rfl Try.zeroValue36 rfl hst ?_
  intro g11 w12 hst
  refine L_nil ?_
  refine W_seq ?_
  refine W_region ?_
  refine L_fa (o' := 0) rfl fa_96_0 rfl rfl ?_
  refine L_ld (v := .int .i64 a.kind) rfl Try.isAgg3 rfl (At.cell0 (Blk.at (Star.blkAt 2 hst rfl)) (j := 0) rfl) ?_
  refine L_fa (o' := 0) rfl fa_36_0 rfl rfl ?_
  refine L_stB (v := .int .i64 a.kind) (cs2 := #[.int .i64 a.kind, (.slice none 0 0), (.slice none 0 0), .int .i64 0, (.slice none 0 0)]) 0 rfl Try.sizeOf3 rfl rfl rfl hst rfl rfl rfl ?_
  intro w14 hst
  refine L_nil ?_
  refine W_seq ?_
  obtain ⟨x20, hx20, hF⟩ := bind_some hF
  refine W_region ?_
  refine L_fa (o' := 1) rfl fa_96_1 rfl rfl ?_
  refine L_ld (v := v0_1) rfl Try.isAgg23 rfl (At.cell0 (Blk.at (Star.blkAt 2 hst rfl)) (j := 1) rfl) ?_
  obtain ⟨Hb24, hle25, hsb26, hfz27, hbk28⟩ := Star.borrow hst
  refine L_call (args := #[v0_1]) rfl Try.call40 (ops1 rfl) (l_toIntS_c (a := a.vars) hsb26 (RP.mono _ h0_1 hle25) hx20) ?_
  rintro r29_0 w29 ⟨_, rfl, hst⟩
  have hst := hbk28 hst (closedL_cons (closed_own (OR.closed_ownS closed_int) _ _) closedL_nil)
  refine L_fa (o' := 1) rfl fa_36_1 rfl rfl ?_
  refine L_stB (v := r29_0) (cs2 := #[.int .i64 a.kind, r29_0, (.slice none 0 0), .int .i64 0, (.slice none 0 0)]) 1 rfl Try.sizeOf23 rfl rfl (one_len (Star.len 0 hst rfl)) hst rfl rfl rfl ?_
  intro w31 hst
  refine L_nil ?_
  refine W_seq ?_
  obtain ⟨x37, hx37, hF⟩ := bind_some hF
  refine W_region ?_
  refine L_fa (o' := 2) rfl fa_96_2 rfl rfl ?_
  refine L_ld (v := v0_2) rfl Try.isAgg23 rfl (At.cell0 (Blk.at (Star.blkAt 3 hst rfl)) (j := 2) rfl) ?_
  obtain ⟨Hb41, hle42, hsb43, hfz44, hbk45⟩ := Star.borrow hst
  refine L_call (args := #[v0_2]) rfl Try.call40 (ops1 rfl) (l_toIntS_c (a := a.coefs) hsb43 (RP.mono _ h0_2 hle42) hx37) ?_
  rintro r46_0 w46 ⟨_, rfl, hst⟩
  have hst := hbk45 hst (closedL_cons (closed_own (OR.closed_ownS closed_int) _ _) closedL_nil)
  refine L_fa (o' := 2) rfl fa_36_2 rfl rfl ?_
  refine L_stB (v := r46_0) (cs2 := #[.int .i64 a.kind, r29_0, r46_0, .int .i64 0, (.slice none 0 0)]) 1 rfl Try.sizeOf23 rfl rfl (one_len (Star.len 0 hst rfl)) hst rfl rfl rfl ?_
  intro w48 hst
  refine L_nil ?_
  refine W_seq ?_
  refine W_region ?_
  refine L_fa (o' := 3) rfl fa_96_3 rfl rfl ?_
  refine L_ld (v := .int .i64 a.bound) rfl Try.isAgg3 rfl (At.cell0 (Blk.at (Star.blkAt 4 hst rfl)) (j := 3) rfl) ?_
  refine L_fa (o' := 3) rfl fa_36_3 rfl rfl ?_
  refine L_stB (v := .int .i64 a.bound) (cs2 := #[.int .i64 a.kind, r29_0, r46_0, .int .i64 a.bound, (.slice none 0 0)]) 0 rfl Try.sizeOf3 rfl rfl rfl hst rfl rfl rfl ?_
  intro w50 hst
  refine L_nil ?_
  refine W_seq ?_
  obtain ⟨x56, hx56, hF⟩ := bind_some hF
  refine W_region ?_
  refine L_fa (o' := 4) rfl fa_96_4 rfl rfl ?_
  refine L_ld (v := v0_4) rfl Try.isAgg34 rfl (At.cell0 (Blk.at (Star.blkAt 4 hst rfl)) (j := 4) rfl) ?_
  obtain ⟨Hb60, hle61, hsb62, hfz63, hbk64⟩ := Star.borrow hst
  refine L_call (args := #[v0_4]) rfl Try.call107 (ops1 rfl) (l_toIntSS_c (a := a.rows) hsb62 (RP.mono _ h0_4 hle61) hx56) ?_
  rintro r65_0 w65 ⟨_, rfl, hst⟩
  have hst := hbk64 hst (closedL_cons (closed_own (OR.closed_ownS (OR.closed_ownS closed_int)) _ _) closedL_nil)
  refine L_fa (o' := 4) rfl fa_36_4 rfl rfl ?_
  refine L_stB (v := r65_0) (cs2 := #[.int .i64 a.kind, r29_0, r46_0, .int .i64 a.bound, r65_0]) 1 rfl Try.sizeOf34 rfl rfl (one_len (Star.len 0 hst rfl)) hst rfl rfl rfl ?_
  intro w67 hst
  refine L_nil ?_
  refine W_seq ?_
  refine W_region ?_
  refine L_lda (cs := [.int .i64 a.kind, r29_0, r46_0, .int .i64 a.bound, r65_0]) rfl Try.isAgg36 Try.sizeOf36 rfl (At.sub0 (Blk.at (Star.blkAt 0 hst rfl)) 0 5) rfl ?_
  refine L_staB (vs := #[.int .i64 a.kind, r29_0, r46_0, .int .i64 a.bound, r65_0]) (cs2 := #[.int .i64 a.kind, r29_0, r46_0, .int .i64 a.bound, r65_0]) 4 rfl Try.sizeOf36 rfl rfl rfl (ones_cons rfl (ones_cons (one_len (Star.len 3 hst rfl)) (ones_cons (one_len (Star.len 2 hst rfl)) (ones_cons rfl (ones_cons (one_len (Star.len 1 hst rfl)) ones_nil))))) hst rfl (by decide) rfl ?_
  intro w69 hst
  refine L_nil ?_
  refine W_ret ?_
  refine retG1 (v1 := .agg #[.int .i64 a.kind, r29_0, r46_0, .int .i64 a.bound, r65_0]) Try.results94 (resV_agg Try.isAgg36 Try.sizeOf36 rfl (Star.blkAt 0 hst rfl) rfl) ?_
  obtain rfl := so hF
  have hst := Star.get 2 hst rfl
  have hst := Star.get 3 hst rfl
  have hst := Star.get 4 hst rfl
  exact ⟨r29_0, r46_0, r65_0, rfl, (Star.keepN 3 hst)⟩

theorem l_toRuleS_c {a : List Rule} {v0 : Value} {H : FH} {w : World} (hst : Star H w []) (h0 : (RP.slice 96 (rRule 3 23)).rel H [v0] a) {r : List Rule} (hF : l_toRuleS a = some r) :
    C Try.prog 77 #[v0] w fun v w' => ∃ (u1 : Value), v = u1 ∧ Star H w' [own (OR.ownS 36 (oRule 3 23)) [u1] r] := by
  unfold l_toRuleS at hF
  refine C_enter Try.func77 rfl Try.ntmps77 rfl ?_
  refine W_seq ?_
  refine W_region ?_
  refine L_as (v := (.slice none 0 0)) rfl rfl ?_
  refine L_nil ?_
  refine W_seq ?_
  obtain ⟨x1, hx1, hF⟩ := bind_some hF
  refine W_region ?_
  refine L_mv (v := v0) rfl rfl ?_
  refine L_len (v := v0) (n := List.length a) rfl Try.underlying53 rfl (slice_len h0) ?_
  refine L_mk (R := (oRule 3 23)) (z0 := ({ kind := 0, vars := [], coefs := [], bound := 0, rows := [] } : Rule)) (zc := [.int .i64 0, (.slice none 0 0), (.slice none 0 0), .int .i64 0, (.slice none 0 0)]) rfl et_24 (by kernel_rfl) (fun _ _ => oRule_zero) rfl rfl hx1 hst ?_
  intro v5 w6 hst
  refine L_as (v := v5) rfl rfl ?_
  refine L_nil ?_
  refine W_seq ?_
  refine W_seq ?_
  refine W_region ?_
  refine L_as (v := .int .i64 0) rfl rfl ?_
  refine L_nil ?_
  have hlen10 : List.length a ≤ 9223372036854775807 := len_le (slice_len h0)
  obtain ⟨j10, hL10, hF⟩ := bind_some hF
  obtain ⟨R10, hR10⟩ : ∃ RR_ : Fr → World → Prop, RR_ = fun f w_ => ∃ out_9 : List Rule, j10 = .nx out_9 ∧ f 3 = v5 ∧ Star H w_ ([own (OR.ownS 36 (oRule 3 23)) [v5] out_9]) := ⟨_, rfl⟩
  refine W_join R10 ?_ ?_
  ·
    refine W_block ?_
    obtain ⟨I10, hI10⟩ : ∃ I : Nat → Fr → World → Prop, I = fun n f w_ => ∃ i_8 : Nat, ∃ suf10 : List Rule, ∃ out_9 : List Rule, n = suf10.length ∧ List.drop i_8 a = suf10 ∧ i_8 + suf10.length = a.length ∧ rangeL l_toRuleS_b1 suf10 i_8 out_9 = some j10 ∧ f 0 = v0 ∧ f 3 = v5 ∧ f 4 = .int .i64 (i_8 : Int) ∧ Star H w_ ([own (OR.ownS 36 (oRule 3 23)) [v5] out_9]) := ⟨_, rfl⟩
    refine W_loop I10 (n := a.length) ?_ ?_
    · rw [hI10]; exact ⟨0, a, x1, rfl, rfl, Nat.zero_add _, hL10, rfl, rfl, rfl, hst⟩
    ·
      clear hst
      intro n10 f w_ hI
      rw [hI10] at hI
      obtain ⟨i_8, suf10, out_9, rfl, hd10, hl10, hL10, sf0, sf3, sf4, hst⟩ := hI
      refine W_seq ?_
      refine W_seq ?_
      refine W_region ?_
      refine L_mv (v := .int .i64 (i_8 : Int)) rfl sf4 ?_
      refine L_mv (v := v0) rfl sf0 ?_
      refine L_len (v := v0) (n := List.length a) rfl Try.underlying53 rfl (slice_len h0) ?_
      refine L_lss (m := (i_8 : Int)) (n := (a.length : Int)) rfl rfl rfl ?_
      refine L_nil ?_
      refine W_cond (b := decide ((i_8 : Int) < (a.length : Int))) rfl (fun hc11 => ?_) (fun hc11 => ?_)
      ·
        have hlt10 := of_decide_eq_true hc11
        cases suf10 with
        | nil => exact absurd hlt10 (by simp at hl10; omega)
        | cons x_10 rest10 =>
          obtain ⟨o10, hB10, hL10⟩ := range_cons hL10
          rw [l_toRuleS_b1] at hB10
          have hix10 := drop_idx hd10
          refine W_skip ?_
          refine W_seq ?_
          refine W_block ?_
          obtain ⟨x21, hx21, hB10⟩ := bind_some hB10
          obtain ⟨x26, hx26, hB10⟩ := bind_some hB10
          refine W_region ?_
          refine L_mv (v := v5) rfl sf3 ?_
          refine L_mv (v := .int .i64 (i_8 : Int)) rfl sf4 ?_
          refine L_mv (v := v0) rfl sf0 ?_
          refine L_mv (v := .int .i64 (i_8 : Int)) rfl sf4 ?_
          refine L_ix (r := (rRule 3 23)) rfl Try.underlying53 Try.sizeOf96 rfl h0 rfl hix10 ?_
          intro g30 o31 cs_g30 hrk_hat32 hat32
          obtain ⟨u33_0, u33_1, u33_2, rfl, hu33_0, hu33_1, hu33_2⟩ := rRule_iff.1 hrk_hat32
          refine L_lda (cs := [.int .i64 x_10.kind, u33_0, u33_1, .int .i64 x_10.bound, u33_2]) rfl Try.isAgg96 Try.sizeOf96 rfl (At.sub (AtH.at hat32 hst.sub) 0 5) rfl ?_
          obtain ⟨Hb34, hle35, hsb36, hfz37, hbk38⟩ := Star.borrow hst
          refine L_call (args := #[.agg #[.int .i64 x_10.kind, u33_0, u33_1, .int .i64 x_10.bound, u33_2]]) rfl Try.call94 (ops1 rfl) (l_toRule_c (a := x_10) hsb36 (RP.mono _ hu33_0 hle35) (RP.mono _ hu33_1 hle35) (RP.mono _ hu33_2 hle35) hx21) ?_
          rintro _ w39 ⟨r39_0, r39_1, r39_2, rfl, hst⟩
          have hst := hbk38 hst (closedL_cons (closed_own (OR.closed_ownS closed_int) _ _) (closedL_cons (closed_own (OR.closed_ownS closed_int) _ _) (closedL_cons (closed_own (OR.closed_ownS (OR.closed_ownS closed_int)) _ _) closedL_nil)))
          obtain ⟨g43, cap_g43, hv44, _, _⟩ := Star.row 3 hst rfl hx26
          refine L_ixO (R := (oRule 3 23)) (tb := 0) 0 rfl Try.underlying24 Try.sizeOf36 rfl hv44 (by first | rfl | simp) rfl hx26 ?_
          have hst := oRule_close (r := x21) hst
          refine L_stE (vs := #[.int .i64 x21.kind, r39_0, r39_1, .int .i64 x21.bound, r39_2]) rfl Try.sizeOf36 rfl rfl rfl hv44 hst hx26 ?_
          intro w45 hst
          refine L_nil ?_
          refine W_region ?_
          refine L_mv (v := .int .i64 (i_8 : Int)) rfl sf4 ?_
          refine L_add (m := (i_8 : Int)) (n := 1) rfl rfl rfl ?_
          refine L_as (v := .int .i64 (i64 ((i_8 : Int) + 1))) rfl rfl ?_
          refine L_nil ?_
          obtain rfl := so hB10
          show ∃ m, m < _ ∧ I10 m _ _
          refine ⟨rest10.length, by simp, ?_⟩
          rw [hI10]
          exact ⟨i_8 + 1, rest10, (out_9.set (Int.toNat (i_8 : Int)) x21), rfl, drop_next hd10, by simp at hl10; omega, hL10, sf0, sf3, (Eq.trans rfl (congrArg (Value.int .i64) (i64_succ (n := a.length) (by simp at hl10; omega) hlen10))), hst⟩
      ·
        cases suf10 with
        | cons _ _ => exact absurd (of_decide_eq_false hc11) (by simp at hl10; omega)
        | nil =>
          obtain rfl := range_nil hL10
          refine W_exit ?_
          show R10 _ _
          rw [hR10]
          exact ⟨out_9, rfl, sf3, hst⟩
  ·
    clear hst
    intro f w_ hR
    rw [hR10] at hR
    obtain ⟨out_9, rfl, sf3, hst⟩ := hR
    clear hR10
    refine W_seq ?_
    refine W_region ?_
    refine L_mv (v := v5) rfl sf3 ?_
    refine L_as (v := v5) rfl rfl ?_
    refine L_nil ?_
    refine W_ret ?_
    refine retG1 (v1 := v5) Try.results77 rfl ?_
    obtain rfl := so hF
    exact ⟨v5, rfl, hst⟩

end Go.Proofs.Ytcjjfneofcpmfaa

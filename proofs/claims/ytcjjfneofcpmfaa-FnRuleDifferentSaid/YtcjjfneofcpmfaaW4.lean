/- Part of a proof by program: W4. -/
import Derived.Test.YtcjjfneofcpmfaaD1
import Derived.Test.YtcjjfneofcpmfaaW3
namespace Go.Proofs.Ytcjjfneofcpmfaa
open Go Go.E Go.L Go.RowKit
set_option linter.unusedVariables false
set_option linter.unusedSimpArgs false
set_option maxRecDepth 100000

theorem l_FnRuleDifferent_c {fu : Nat} {code : List UInt8} {v0 : Value} {H : FH} {w : World} (hst : Star H w []) (h0 : (RP.slice 5 RP.u8).rel H [v0] code) {r : Bool} (hF : l_FnRuleDifferent fu code = some r) :
    C Try.prog 4 #[v0] w fun v w' => v = .bool r ∧ Star H w' [] := by
  unfold l_FnRuleDifferent at hF
  refine C_enter Try.func4 rfl Try.ntmps4 rfl ?_
  refine W_seq ?_
  refine W_region ?_
  refine L_as (v := .bool false) rfl rfl ?_
  refine L_nil ?_
  refine W_seq ?_
  refine W_seq ?_
  refine W_region ?_
  refine L_mv (v := v0) rfl rfl ?_
  refine L_len (v := v0) (n := List.length code) rfl Try.underlying22 rfl (slice_len h0) ?_
  refine L_gtr (m := (code.length : Int)) (n := 1048576) rfl rfl rfl ?_
  refine L_nil ?_
  refine W_cond (b := decide ((code.length : Int) > 1048576)) rfl (fun hc1 => ?_) (fun hc1 => ?_)
  ·
    have hF := (ite_t hc1).symm.trans hF
    refine W_seq ?_
    refine W_region ?_
    refine L_as (v := .bool true) rfl rfl ?_
    refine L_nil ?_
    refine W_ret ?_
    refine retG1 (v1 := .bool true) Try.results4 rfl ?_
    obtain rfl := so hF
    exact ⟨rfl, hst⟩
  ·
    have hF := (ite_f hc1).symm.trans hF
    refine W_skip ?_
    refine W_seq ?_
    obtain ⟨hx2, hF⟩ := anyB_some hF
    refine W_region ?_
    refine L_mv (v := v0) rfl rfl ?_
    refine L_call (args := #[v0]) rfl Try.call17 (ops1 rfl) (s_DrawRuleHolds_c (code := code) hst h0 hx2) ?_
    rintro _ w7 ⟨x2, gd7, H7, hle7, r7_0, r7_1, r7_2, rfl, hr7_0, hr7_1, hr7_2, hst⟩
    have hF := hF x2 gd7
    refine L_mv (v := .tuple #[.agg #[r7_0, r7_1], .int .i64 x2.2.1, r7_2]) rfl rfl ?_
    refine L_ex (v := .agg #[r7_0, r7_1]) rfl rfl rfl ?_
    refine L_ex (v := .int .i64 x2.2.1) rfl rfl rfl ?_
    refine L_ex (v := r7_2) rfl rfl rfl ?_
    refine L_al (cs := #[(.slice none 0 0), (.slice none 0 0)]) rfl Try.zeroValue26 rfl hst ?_
    intro g8 w9 hst
    refine L_staB (vs := #[r7_0, r7_1]) (cs2 := #[r7_0, r7_1]) 0 rfl Try.sizeOf26 rfl rfl rfl (ones_cons (one_len (slice_len hr7_0)) (ones_cons (one_len (slice_len hr7_1)) ones_nil)) hst rfl (by decide) rfl ?_
    intro w10 hst
    refine L_as (v := .int .i64 x2.2.1) rfl rfl ?_
    refine L_as (v := r7_2) rfl rfl ?_
    refine L_nil ?_
    refine W_seq ?_
    refine W_region ?_
    refine L_fa (o' := 0) rfl fa_26_0 rfl rfl ?_
    refine L_ld (v := r7_0) rfl Try.isAgg23 rfl (At.cell0 (Blk.at (Star.blkAt 0 hst rfl)) (j := 0) rfl) ?_
    refine L_bld rfl (parts1 rfl) (bld_36_0 (.int .i64 2) rfl) ?_
    refine L_bs rfl (parts1 rfl) (bs_24_1_5 (.int .i64 2) ((.slice none 0 0)) ((.slice none 0 0)) (.int .i64 0) ((.slice none 0 0)) ) hst ?_
    intro g20 w21 hst
    have hst := Star.addNil (R := (OR.frz RP.int)) (e := 3) hst
    have hst := Star.addNil (R := (OR.frz RP.int)) (e := 3) hst
    have hst := Star.addNil (R := (OR.ownS 3 (OR.frz RP.int))) (e := 23) hst
    have hst := Star.get 1 hst rfl
    have hst := Star.get 2 hst rfl
    have hst := oRule_close (r := ({ kind := 2, vars := [], coefs := [], bound := 0, rows := [] } : Rule)) hst
    have hst := Star.mkRow (R := (oRule 3 23)) [([.int .i64 2, (.slice none 0 0), (.slice none 0 0), .int .i64 0, (.slice none 0 0)], ({ kind := 2, vars := [], coefs := [], bound := 0, rows := [] } : Rule))] [({ kind := 2, vars := [], coefs := [], bound := 0, rows := [] } : Rule)] 1 hst rfl rfl rfl (by decide)
    refine L_bld rfl (parts2 rfl rfl) (bld_26_0_1 (r7_0) ((.slice (some ⟨g20, 0, none⟩) 1 1)) (one_len (slice_len hr7_0)) (one_len (Star.len 0 hst rfl))) ?_
    refine L_al (cs := #[(.slice none 0 0), (.slice none 0 0)]) rfl Try.zeroValue26 rfl hst ?_
    intro g26 w27 hst
    refine L_staB (vs := #[r7_0, (.slice (some ⟨g20, 0, none⟩) 1 1)]) (cs2 := #[r7_0, (.slice (some ⟨g20, 0, none⟩) 1 1)]) 0 rfl Try.sizeOf26 rfl rfl rfl (ones_cons (one_len (slice_len hr7_0)) (ones_cons (one_len (Star.len 1 hst rfl)) ones_nil)) hst rfl (by decide) rfl ?_
    intro w28 hst
    refine L_nil ?_
    refine W_seq ?_
    refine W_seq ?_
    refine W_region ?_
    refine L_fa (o' := 0) rfl fa_26_0 rfl rfl ?_
    refine L_ld (v := r7_0) rfl Try.isAgg23 rfl (At.cell0 (Blk.at (Star.blkAt 2 hst rfl)) (j := 0) rfl) ?_
    refine L_len (v := r7_0) (n := List.length x2.1.sizes) rfl Try.underlying23 rfl (slice_len hr7_0) ?_
    refine L_sub (m := (x2.1.sizes.length : Int)) (n := 1) rfl rfl rfl ?_
    refine L_as (v := .int .i64 (i64 ((x2.1.sizes.length : Int) - 1))) rfl rfl ?_
    refine L_nil ?_
    obtain ⟨j34, hL34, hF⟩ := bind_some hF
    obtain ⟨R34, hR34⟩ : ∃ RR_ : Fr → World → Prop, RR_ = fun f w_ => ∃ i_30 : Int, ∃ g26_1_31 : List Rule, ∃ H32 : FH, j34 = .nx (i_30, g26_1_31) ∧ Le H7 H32 ∧ f 5 = r7_2 ∧ f 6 = .pointer (some ⟨g26, 0, none⟩) ∧ Star H32 w_ ([own (OR.ownS 36 (oRule 3 23)) [(.slice (some ⟨g20, 0, none⟩) 1 1)] g26_1_31, box g26 26 #[r7_0, (.slice (some ⟨g20, 0, none⟩) 1 1)]]) := ⟨_, rfl⟩
    refine W_join R34 ?_ ?_
    ·
      refine W_block ?_
      obtain ⟨I34, hI34⟩ : ∃ I : Nat → Fr → World → Prop, I = fun n f w_ => ∃ i_30 : Int, ∃ g26_1_31 : List Rule, ∃ H32 : FH, whileL l_FnRuleDifferent_b1 n (i_30, g26_1_31) = some j34 ∧ Le H7 H32 ∧ f 5 = r7_2 ∧ f 6 = .pointer (some ⟨g26, 0, none⟩) ∧ f 7 = .int .i64 i_30 ∧ Star H32 w_ ([own (OR.ownS 36 (oRule 3 23)) [(.slice (some ⟨g20, 0, none⟩) 1 1)] g26_1_31, box g26 26 #[r7_0, (.slice (some ⟨g20, 0, none⟩) 1 1)]]) := ⟨_, rfl⟩
      have hst := Star.get 1 hst rfl
      refine W_loop I34 (n := fu) ?_ ?_
      · rw [hI34]; exact ⟨i64 ((x2.1.sizes.length : Int) - 1), [({ kind := 2, vars := [], coefs := [], bound := 0, rows := [] } : Rule)], H7, hL34, (Le.refl _), rfl, rfl, rfl, (Star.keepN 2 hst)⟩
      ·
        clear hst
        intro n34 f w_ hI
        rw [hI34] at hI
        obtain ⟨i_30, g26_1_31, H32, hL34, hle33, sf5, sf6, sf7, hst⟩ := hI
        cases n34 with
        | zero => exact (while_zero hL34).elim
        | succ n34 =>
          obtain ⟨o34, hB34, hL34⟩ := while_succ hL34
          rw [l_FnRuleDifferent_b1] at hB34
          refine W_seq ?_
          refine W_seq ?_
          refine W_region ?_
          refine L_mv (v := .int .i64 i_30) rfl sf7 ?_
          refine L_geq (m := i_30) (n := 0) rfl rfl rfl ?_
          refine L_nil ?_
          refine W_cond (b := decide (i_30 ≥ 0)) rfl (fun hc35 => ?_) (fun hc35 => ?_)
          ·
            have hB34 := (ite_t hc35).symm.trans hB34
            refine W_skip ?_
            refine W_seq ?_
            refine W_block ?_
            obtain ⟨x36, hx36, hB34⟩ := bind_some hB34
            obtain ⟨x46, hx46, hB34⟩ := bind_some hB34
            obtain ⟨g52, cap_g52, hv53, _, _⟩ := Star.row 0 hst rfl hx36
            have hst := Star.get 1 hst rfl
            refine W_drawS 10 [isV (.pointer (some ⟨g26, 1, none⟩)), isV ((.slice (some ⟨g20, 0, none⟩) 1 1)), isV (.pointer (some ⟨g26, 1, none⟩)), isV ((.slice (some ⟨g20, 0, none⟩) 1 1)), isV (.pointer (some ⟨g52, Int.toNat 0 * 5, none⟩)), isV (.pointer (some ⟨g52, Int.toNat 0 * 5 + 1, none⟩)), anyF, isV (.int .i64 i_30), anyF, anyF] [box g26 26 #[r7_0, (.slice (some ⟨g20, 0, none⟩) 1 1)]] [.base (own (OR.ownS 36 (oRule 3 23)) [(.slice (some ⟨g20, 0, none⟩) 1 1)] g26_1_31) (some 6), .made 6 40 (fun v_ => packA (fun (u_ : Value × Value) => [hole 36 (oRule 3 23) (.slice (some ⟨g20, 0, none⟩) 1 1) g26_1_31 (Int.toNat 0) [.int .i64 x36.kind, v_, u_.1, .int .i64 x36.bound, u_.2], own (OR.ownS 3 (OR.frz RP.int)) [u_.1] x36.coefs, own (OR.ownS 23 (OR.ownS 3 (OR.frz RP.int))) [u_.2] x36.rows])) none, .made 6 40 (fun v_ => own (OR.ownS 3 (OR.frz RP.int)) [v_] x36.vars) (some 9), .made 8 42 (fun v_ => own (OR.ownS 3 (OR.frz RP.int)) [v_] ([i_30])) (some 9), .made 9 43 (fun v_ => own (OR.ownS 3 (OR.frz RP.int)) [v_] x46) none] ([]) [([], []), ([], []), ([], []), ([], []), ([0], [0]), ([], []), ([0], [1, 2]), ([], []), ([], [3]), ([2, 3], [4])] (S := [(none, none, some 6), (some 6, some 40, none), (some 6, some 40, some 9), (some 8, some 42, some 9), (some 9, some 43, none)]) Try_mix (by kernel_rfl) rfl (by kernel_rfl) (amF_cons (mono_V _) (amF_cons (mono_V _) (amF_cons (mono_V _) (amF_cons (mono_V _) (amF_cons (mono_V _) (amF_cons (mono_V _) (amF_cons (mono_any) (amF_cons (mono_V _) (amF_cons (mono_any) (amF_cons (mono_any) amF_nil)))))))))) hst ?_ (fun f w_ H51 hS51 hE51 hT51 hst => ?_)
            ·
              refine opsS_cons ?_ ?_
              ·
                intro f w_ H51 X51 hS51 hE51 hP51 hst
                refine L_fa (o' := 1) rfl fa_26_1 ((hS51 6 rfl).trans sf6) rfl ?_
                exact L_nil ⟨rfl, _, _, _, rfl, rfl, Le.refl _, rfl, hst⟩
              refine opsS_cons ?_ ?_
              ·
                intro f w_ H51 X51 hS51 hE51 hP51 hst
                refine L_ld (v := (.slice (some ⟨g20, 0, none⟩) 1 1)) rfl Try.isAgg24 (hP51 0 34 rfl rfl) (At.cell0 (Blk.at (Star.blkAt 0 hst rfl)) (j := 1) rfl) ?_
                exact L_nil ⟨rfl, _, _, _, rfl, rfl, Le.refl _, rfl, hst⟩
              refine opsS_cons ?_ ?_
              ·
                intro f w_ H51 X51 hS51 hE51 hP51 hst
                refine L_fa (o' := 1) rfl fa_26_1 ((hS51 6 rfl).trans sf6) rfl ?_
                exact L_nil ⟨rfl, _, _, _, rfl, rfl, Le.refl _, rfl, hst⟩
              refine opsS_cons ?_ ?_
              ·
                intro f w_ H51 X51 hS51 hE51 hP51 hst
                refine L_ld (v := (.slice (some ⟨g20, 0, none⟩) 1 1)) rfl Try.isAgg24 (hP51 2 36 rfl rfl) (At.cell0 (Blk.at (Star.blkAt 0 hst rfl)) (j := 1) rfl) ?_
                exact L_nil ⟨rfl, _, _, _, rfl, rfl, Le.refl _, rfl, hst⟩
              refine opsS_cons ?_ ?_
              ·
                intro f w_ H51 X51 hS51 hE51 hP51 hst
                have hst : Star H51 w_ (box g26 26 #[r7_0, (.slice (some ⟨g20, 0, none⟩) 1 1)] :: own (OR.ownS 36 (oRule 3 23)) [(.slice (some ⟨g20, 0, none⟩) 1 1)] g26_1_31 :: X51) := hst
                refine L_ixO (R := (oRule 3 23)) (tb := 0) 0 rfl Try.underlying24 Try.sizeOf36 (hP51 3 37 rfl rfl) hv53 (by first | rfl | simp) rfl hx36 ?_
                exact L_nil ⟨rfl, _, _, _, rfl, rfl, Le.refl _, rfl, hst⟩
              refine opsS_cons ?_ ?_
              ·
                intro f w_ H51 X51 hS51 hE51 hP51 hst
                refine L_fa (o' := Int.toNat 0 * 5 + 1) rfl fa_36_1 (hP51 4 38 rfl rfl) rfl ?_
                exact L_nil ⟨rfl, _, _, _, rfl, rfl, Le.refl _, rfl, hst⟩
              refine opsS_cons ?_ ?_
              ·
                intro f w_ H51 X51 hS51 hE51 hP51 hst
                have hst : Star H51 w_ (box g26 26 #[r7_0, (.slice (some ⟨g20, 0, none⟩) 1 1)] :: own (OR.ownS 36 (oRule 3 23)) [(.slice (some ⟨g20, 0, none⟩) 1 1)] g26_1_31 :: X51) := hst
                have hst := Star.get 1 hst rfl
                obtain ⟨cs64, hst, hat64⟩ := Star.focus hst hx36
                have hat64 := hat64 _ _ _ hv53
                obtain ⟨u64_0, u64_1, u64_2, rfl, hst⟩ := oRule_open hst
                refine L_ld (v := u64_0) rfl Try.isAgg23 (hP51 5 39 rfl rfl) (At.cell hat64 (j := 1) rfl) ?_
                have hst := Star.get 2 hst rfl
                have hst := Star.get 2 hst rfl
                have hst := Star.get 3 hst rfl
                have hst := Star.pack (fun (u_ : Value × Value) => [hole 36 (oRule 3 23) (.slice (some ⟨g20, 0, none⟩) 1 1) g26_1_31 (Int.toNat 0) [.int .i64 x36.kind, u64_0, u_.1, .int .i64 x36.bound, u_.2], own (OR.ownS 3 (OR.frz RP.int)) [u_.1] x36.coefs, own (OR.ownS 23 (OR.ownS 3 (OR.frz RP.int))) [u_.2] x36.rows]) (u64_1, u64_2) hst
                have hst := Star.get 1 hst rfl
                have hst := Star.get 1 hst rfl
                have hst := Star.get 2 hst rfl
                exact L_nil ⟨rfl, _, _, _, rfl, rfl, Le.refl _, trivial, hst⟩
              refine opsS_cons ?_ ?_
              ·
                intro f w_ H51 X51 hS51 hE51 hP51 hst
                refine L_mv (v := .int .i64 i_30) rfl ((hS51 7 rfl).trans sf7) ?_
                exact L_nil ⟨rfl, _, _, _, rfl, rfl, Le.refl _, rfl, hst⟩
              refine opsS_cons ?_ ?_
              ·
                intro f w_ H51 X51 hS51 hE51 hP51 hst
                refine L_bs rfl (parts1 (hP51 7 41 rfl rfl)) (bs_23_1_0 (.int .i64 i_30) rfl) hst ?_
                intro g68 w69 hst
                have hst := Star.addF (r := RP.int) (cs := [.int .i64 i_30]) (x := i_30) hst rfl
                have hst := Star.mkRow (R := (OR.frz RP.int)) [([.int .i64 i_30], i_30)] [i_30] 1 hst rfl rfl rfl (by decide)
                have hst := Star.get 1 hst rfl
                exact L_nil ⟨rfl, _, _, _, rfl, rfl, Le.refl _, trivial, hst⟩
              refine opsS_cons ?_ ?_
              ·
                intro f w_ H51 X51 hS51 hE51 hP51 hst
                have hst : Star H51 w_ (box g26 26 #[r7_0, (.slice (some ⟨g20, 0, none⟩) 1 1)] :: own (OR.ownS 3 (OR.frz RP.int)) [(f 40)] x36.vars :: own (OR.ownS 3 (OR.frz RP.int)) [(f 42)] ([i_30]) :: X51) := hst
                have hst := Star.get 2 hst rfl
                have hst := Star.get 2 hst rfl
                refine L_appM (v := (f 40)) (u := (f 42)) rfl et_23 rfl rfl hst hx46 ?_
                intro v73 w74 hst
                have hst := Star.get 1 hst rfl
                exact L_nil ⟨rfl, _, _, _, rfl, rfl, Le.refl _, trivial, hst⟩
              exact opsS_nil
            ·
              have hst : Star H51 w_ ([box g26 26 #[r7_0, (.slice (some ⟨g20, 0, none⟩) 1 1)], packA (fun (u_ : Value × Value) => [hole 36 (oRule 3 23) (.slice (some ⟨g20, 0, none⟩) 1 1) g26_1_31 (Int.toNat 0) [.int .i64 x36.kind, (f 40), u_.1, .int .i64 x36.bound, u_.2], own (OR.ownS 3 (OR.frz RP.int)) [u_.1] x36.coefs, own (OR.ownS 23 (OR.ownS 3 (OR.frz RP.int))) [u_.2] x36.rows]), own (OR.ownS 3 (OR.frz RP.int)) [(f 43)] x46]) := hst
              have hst := Star.get 1 hst rfl
              obtain ⟨⟨u76_0, u77_1⟩, hst⟩ := Star.unpack hst
              have hst : Star H51 w_ ([hole 36 (oRule 3 23) (.slice (some ⟨g20, 0, none⟩) 1 1) g26_1_31 (Int.toNat 0) [.int .i64 x36.kind, (f 40), u76_0, .int .i64 x36.bound, u77_1], own (OR.ownS 3 (OR.frz RP.int)) [u76_0] x36.coefs, own (OR.ownS 23 (OR.ownS 3 (OR.frz RP.int))) [u77_1] x36.rows, box g26 26 #[r7_0, (.slice (some ⟨g20, 0, none⟩) 1 1)], own (OR.ownS 3 (OR.frz RP.int)) [(f 43)] x46]) := hst
              refine L_ixO (R := (oRule 3 23)) (tb := 0) 0 rfl Try.underlying24 Try.sizeOf36 (hT51 1 35 rfl rfl) hv53 (by first | rfl | simp) rfl hx36 ?_
              refine L_fa (o' := Int.toNat 0 * 5 + 1) rfl fa_36_1 rfl rfl ?_
              refine L_stH (j := 1) (u := (f 43)) rfl Try.sizeOf23 rfl rfl rfl (one_len (Star.len 4 hst rfl)) hv53 hst (by show 1 < 5; decide) rfl ?_
              intro w79 hst
              have hst : Star H51 w79 ([hole 36 (oRule 3 23) (.slice (some ⟨g20, 0, none⟩) 1 1) g26_1_31 (Int.toNat 0) [.int .i64 x36.kind, (f 43), u76_0, .int .i64 x36.bound, u77_1], own (OR.ownS 3 (OR.frz RP.int)) [u76_0] x36.coefs, own (OR.ownS 23 (OR.ownS 3 (OR.frz RP.int))) [u77_1] x36.rows, box g26 26 #[r7_0, (.slice (some ⟨g20, 0, none⟩) 1 1)], own (OR.ownS 3 (OR.frz RP.int)) [(f 43)] x46]) := hst
              refine L_nil ?_
              have hst := Star.get 2 hst rfl
              have hst := Star.get 2 hst rfl
              have hst := Star.get 4 hst rfl
              have hst := oRule_close (r := ({ kind := x36.kind, vars := x46, coefs := x36.coefs, bound := x36.bound, rows := x36.rows } : Rule)) hst
              have hst := Star.unfocus (x' := ({ kind := x36.kind, vars := x46, coefs := x36.coefs, bound := x36.bound, rows := x36.rows } : Rule)) (idx_some hx36).2.2 hst
              refine W_region ?_
              refine L_mv (v := .int .i64 i_30) rfl ((hS51 7 rfl).trans sf7) ?_
              refine L_sub (m := i_30) (n := 1) rfl rfl rfl ?_
              refine L_as (v := .int .i64 (i64 (i_30 - 1))) rfl rfl ?_
              refine L_nil ?_
              obtain rfl := so hB34
              show ∃ m, m < _ ∧ I34 m _ _
              refine ⟨n34, Nat.lt_succ_self _, ?_⟩
              rw [hI34]
              exact ⟨i64 (i_30 - 1), (g26_1_31.set (Int.toNat 0) ({ kind := x36.kind, vars := x46, coefs := x36.coefs, bound := x36.bound, rows := x36.rows } : Rule)), H51, hL34, (Le.trans hle33 hE51), ((hS51 5 rfl).trans sf5), ((hS51 6 rfl).trans sf6), rfl, hst⟩
          ·
            have hB34 := (ite_f hc35).symm.trans hB34
            refine W_exit ?_
            obtain rfl := so hB34
            obtain rfl := so hL34
            show R34 _ _
            rw [hR34]
            exact ⟨i_30, g26_1_31, H32, rfl, hle33, sf5, sf6, hst⟩
    ·
      clear hst
      intro f w_ hR
      rw [hR34] at hR
      obtain ⟨i_30, g26_1_31, H32, rfl, hle33, sf5, sf6, hst⟩ := hR
      clear hR34
      refine W_seq ?_
      obtain ⟨x86, hx86, hF⟩ := bind_some hF
      refine W_region ?_
      refine L_lda (cs := [r7_0, (.slice (some ⟨g20, 0, none⟩) 1 1)]) rfl Try.isAgg26 Try.sizeOf26 sf6 (At.sub0 (Blk.at (Star.blkAt 1 hst rfl)) 0 2) rfl ?_
      refine L_mv (v := r7_2) rfl sf5 ?_
      obtain ⟨Hb88, hle89, hsb90, hfz91, hbk92⟩ := Star.borrow hst
      have hb93 : (RP.slice 36 (rRule 3 23)).rel Hb88 [(.slice (some ⟨g20, 0, none⟩) 1 1)] g26_1_31 := fz_own 0 hfz91 rfl
      refine L_call (args := #[.agg #[r7_0, (.slice (some ⟨g20, 0, none⟩) 1 1)], .int .i64 0, r7_2]) rfl Try.call18 (ops3 rfl rfl rfl) (i_RuleHolds_c (m := ({ sizes := x2.1.sizes, rules := g26_1_31 } : Model)) (rule := 0) (cells := x2.2.2) hsb90 (RP.mono _ hr7_0 (Le.trans hle33 hle89)) hb93 (RP.mono _ hr7_2 (Le.trans hle33 hle89)) hx86) ?_
      rintro _ w94 ⟨rfl, hst⟩
      have hst := hbk92 hst closedL_nil
      refine L_as (v := .bool x86) rfl rfl ?_
      refine L_nil ?_
      refine W_seq ?_
      refine W_seq ?_
      obtain ⟨x101, hx101, hF⟩ := bind_some hF
      obtain ⟨b111, hb111, hF⟩ := bind_some hF
      obtain ⟨R112, hR112⟩ : ∃ RR_ : Fr → World → Prop, RR_ = fun f w_ => f 5 = r7_2 ∧ f 6 = .pointer (some ⟨g26, 0, none⟩) ∧ f 8 = .bool x86 ∧ f 59 = .bool b111 ∧ Star H32 w_ ([own (OR.ownS 36 (oRule 3 23)) [(.slice (some ⟨g20, 0, none⟩) 1 1)] g26_1_31, box g26 26 #[r7_0, (.slice (some ⟨g20, 0, none⟩) 1 1)]]) := ⟨_, rfl⟩
      refine W_join R112 ?_ ?_
      ·
        refine W_region ?_
        refine L_mv (v := .bool x86) rfl rfl ?_
        refine L_lda (cs := [r7_0, (.slice (some ⟨g20, 0, none⟩) 1 1)]) rfl Try.isAgg26 Try.sizeOf26 sf6 (At.sub0 (Blk.at (Star.blkAt 1 hst rfl)) 0 2) rfl ?_
        refine L_mv (v := r7_2) rfl sf5 ?_
        obtain ⟨Hb113, hle114, hsb115, hfz116, hbk117⟩ := Star.borrow hst
        have hb118 : (RP.slice 36 (rRule 3 23)).rel Hb113 [(.slice (some ⟨g20, 0, none⟩) 1 1)] g26_1_31 := fz_own 0 hfz116 rfl
        refine L_call (args := #[.agg #[r7_0, (.slice (some ⟨g20, 0, none⟩) 1 1)], .int .i64 0, r7_2]) rfl Try.call19 (ops3 rfl rfl rfl) (s_RuleHolds_c (m := ({ sizes := x2.1.sizes, rules := g26_1_31 } : Model)) (rule := 0) (cells := x2.2.2) hsb115 (RP.mono _ hr7_0 (Le.trans hle33 hle114)) hb118 (RP.mono _ hr7_2 (Le.trans hle33 hle114)) hx101) ?_
        rintro _ w119 ⟨rfl, hst⟩
        have hst := hbk117 hst closedL_nil
        refine L_bneq (b := x86) (c := x101) rfl Try.underlying4 rfl rfl ?_
        refine L_mv (v := .bool (x86 != x101)) rfl rfl ?_
        refine L_split (d := 54) (b := (x86 != x101)) rfl (fun hc120 => ?_) (fun hc120 => ?_)
        ·
          rw [ite_t hc120] at hb111
          refine L_pass rfl ?_
          refine L_pass rfl ?_
          refine L_pass rfl ?_
          refine L_pass rfl ?_
          refine L_pick (v := .bool b111) rfl rfl (congrArg Value.bool (so hb111)) ?_
          refine L_nil ?_
          show R112 _ _
          rw [hR112]
          exact ⟨sf5, sf6, rfl, rfl, hst⟩
        ·
          rw [ite_f hc120] at hb111
          obtain ⟨x109, hx109, hb111⟩ := bind_some hb111
          refine L_lda (cs := [r7_0, (.slice (some ⟨g20, 0, none⟩) 1 1)]) rfl Try.isAgg26 Try.sizeOf26 sf6 (At.sub0 (Blk.at (Star.blkAt 1 hst rfl)) 0 2) rfl ?_
          refine L_mv (v := r7_2) rfl sf5 ?_
          obtain ⟨Hb121, hle122, hsb123, hfz124, hbk125⟩ := Star.borrow hst
          have hb126 : (RP.slice 36 (rRule 3 23)).rel Hb121 [(.slice (some ⟨g20, 0, none⟩) 1 1)] g26_1_31 := fz_own 0 hfz124 rfl
          refine L_call (args := #[.agg #[r7_0, (.slice (some ⟨g20, 0, none⟩) 1 1)], r7_2]) rfl Try.call20 (ops2 rfl rfl) (i_CellsValid_c (m := ({ sizes := x2.1.sizes, rules := g26_1_31 } : Model)) (cells := x2.2.2) hsb123 (RP.mono _ hr7_0 (Le.trans hle33 hle122)) hb126 (RP.mono _ hr7_2 (Le.trans hle33 hle122)) hx109) ?_
          rintro _ w127 ⟨rfl, hst⟩
          have hst := hbk125 hst closedL_nil
          refine L_not_ (b := x109) rfl rfl ?_
          refine L_pick (v := .bool b111) rfl rfl (congrArg Value.bool (so hb111)) ?_
          refine L_nil ?_
          show R112 _ _
          rw [hR112]
          exact ⟨sf5, sf6, rfl, rfl, hst⟩
      ·
        intro f w_ hR
        rw [hR112] at hR
        obtain ⟨sf5, sf6, sf8, sf59, hst⟩ := hR
        clear hR112
        refine W_cond (b := b111) sf59 (fun hc128 => ?_) (fun hc128 => ?_)
        ·
          have hF := (ite_t hc128).symm.trans hF
          refine W_seq ?_
          obtain ⟨x135, hx135, hF⟩ := bind_some hF
          refine W_region ?_
          refine L_mv (v := .bool x86) rfl sf8 ?_
          refine L_lda (cs := [r7_0, (.slice (some ⟨g20, 0, none⟩) 1 1)]) rfl Try.isAgg26 Try.sizeOf26 sf6 (At.sub0 (Blk.at (Star.blkAt 1 hst rfl)) 0 2) rfl ?_
          refine L_mv (v := r7_2) rfl sf5 ?_
          obtain ⟨Hb137, hle138, hsb139, hfz140, hbk141⟩ := Star.borrow hst
          have hb142 : (RP.slice 36 (rRule 3 23)).rel Hb137 [(.slice (some ⟨g20, 0, none⟩) 1 1)] g26_1_31 := fz_own 0 hfz140 rfl
          refine L_call (args := #[.agg #[r7_0, (.slice (some ⟨g20, 0, none⟩) 1 1)], .int .i64 0, r7_2]) rfl Try.call19 (ops3 rfl rfl rfl) (s_RuleHolds_c (m := ({ sizes := x2.1.sizes, rules := g26_1_31 } : Model)) (rule := 0) (cells := x2.2.2) hsb139 (RP.mono _ hr7_0 (Le.trans hle33 hle138)) hb142 (RP.mono _ hr7_2 (Le.trans hle33 hle138)) hx135) ?_
          rintro _ w143 ⟨rfl, hst⟩
          have hst := hbk141 hst closedL_nil
          refine L_beql (b := x86) (c := x135) rfl Try.underlying4 rfl rfl ?_
          refine L_as (v := .bool (x86 == x135)) rfl rfl ?_
          refine L_nil ?_
          refine W_ret ?_
          refine retG1 (v1 := .bool (x86 == x135)) Try.results4 rfl ?_
          obtain rfl := so hF
          exact ⟨rfl, (Star.down (Star.keepN 0 hst) (Le.trans hle7 hle33) closedL_nil)⟩
        ·
          have hF := (ite_f hc128).symm.trans hF
          refine W_skip ?_
          refine W_seq ?_
          refine W_region ?_
          refine L_as (v := .bool false) rfl rfl ?_
          refine L_nil ?_
          refine W_seq ?_
          refine W_seq ?_
          refine W_region ?_
          refine L_as (v := .int .i64 0) rfl rfl ?_
          refine L_nil ?_
          have hlen148 : List.length x2.2.2 ≤ 9223372036854775807 := len_le (slice_len (RP.mono _ hr7_2 hle33))
          obtain ⟨j148, hL148, hF⟩ := bind_some hF
          obtain ⟨R148, hR148⟩ : ∃ RR_ : Fr → World → Prop, RR_ = fun f w_ => ∃ twice_145 : Bool, ∃ H146 : FH, j148 = .nx twice_145 ∧ Le H32 H146 ∧ f 8 = .bool x86 ∧ f 9 = .bool twice_145 ∧ Star H146 w_ ([]) := ⟨_, rfl⟩
          refine W_join R148 ?_ ?_
          ·
            refine W_block ?_
            obtain ⟨I148, hI148⟩ : ∃ I : Nat → Fr → World → Prop, I = fun n f w_ => ∃ i_144 : Nat, ∃ suf148 : List Int, ∃ twice_145 : Bool, ∃ H146 : FH, n = suf148.length ∧ List.drop i_144 x2.2.2 = suf148 ∧ i_144 + suf148.length = x2.2.2.length ∧ rangeL (l_FnRuleDifferent_b2 x2) suf148 i_144 twice_145 = some j148 ∧ Le H32 H146 ∧ f 5 = r7_2 ∧ f 8 = .bool x86 ∧ f 9 = .bool twice_145 ∧ f 10 = .int .i64 (i_144 : Int) ∧ Star H146 w_ ([]) := ⟨_, rfl⟩
            refine W_loop I148 (n := x2.2.2.length) ?_ ?_
            · rw [hI148]; exact ⟨0, x2.2.2, false, H32, rfl, rfl, Nat.zero_add _, hL148, (Le.refl _), sf5, sf8, rfl, rfl, (Star.keepN 0 hst)⟩
            ·
              clear hst
              intro n148 f w_ hI
              rw [hI148] at hI
              obtain ⟨i_144, suf148, twice_145, H146, rfl, hd148, hl148, hL148, hle147, sf5, sf8, sf9, sf10, hst⟩ := hI
              refine W_seq ?_
              refine W_seq ?_
              refine W_region ?_
              refine L_mv (v := .int .i64 (i_144 : Int)) rfl sf10 ?_
              refine L_mv (v := r7_2) rfl sf5 ?_
              refine L_len (v := r7_2) (n := List.length x2.2.2) rfl Try.underlying23 rfl (slice_len (RP.mono _ hr7_2 (Le.trans hle33 hle147))) ?_
              refine L_lss (m := (i_144 : Int)) (n := (x2.2.2.length : Int)) rfl rfl rfl ?_
              refine L_nil ?_
              refine W_cond (b := decide ((i_144 : Int) < (x2.2.2.length : Int))) rfl (fun hc149 => ?_) (fun hc149 => ?_)
              ·
                have hlt148 := of_decide_eq_true hc149
                cases suf148 with
                | nil => exact absurd hlt148 (by simp at hl148; omega)
                | cons x_148 rest148 =>
                  obtain ⟨o148, hB148, hL148⟩ := range_cons hL148
                  rw [l_FnRuleDifferent_b2] at hB148
                  have hix148 := drop_idx hd148
                  refine W_skip ?_
                  refine W_seq ?_
                  refine W_block ?_
                  refine W_seq ?_
                  refine W_region ?_
                  refine L_as (v := .int .i64 0) rfl rfl ?_
                  refine L_nil ?_
                  obtain ⟨k155, hk155, hB148⟩ := bind_some hB148
                  obtain ⟨j154, hL154, hB148⟩ := bind_some hB148
                  obtain ⟨R154, hR154⟩ : ∃ RR_ : Fr → World → Prop, RR_ = fun f w_ => ∃ twice_151 : Bool, ∃ H152 : FH, j154 = .nx twice_151 ∧ Le H146 H152 ∧ f 5 = r7_2 ∧ f 8 = .bool x86 ∧ f 9 = .bool twice_151 ∧ f 10 = .int .i64 (i_144 : Int) ∧ Star H152 w_ ([]) := ⟨_, rfl⟩
                  refine W_join R154 ?_ ?_
                  ·
                    refine W_block ?_
                    obtain ⟨I154, hI154⟩ : ∃ I : Nat → Fr → World → Prop, I = fun n f w_ => ∃ i_150 : Nat, ∃ suf154 : Nat, ∃ twice_151 : Bool, ∃ H152 : FH, suf154 = n ∧ 0 ≤ i_150 ∧ i_150 + suf154 = 0 + k155 ∧ countL (l_FnRuleDifferent_b3 x2 x_148) suf154 i_150 twice_151 = some j154 ∧ Le H146 H152 ∧ f 5 = r7_2 ∧ f 8 = .bool x86 ∧ f 9 = .bool twice_151 ∧ f 10 = .int .i64 (i_144 : Int) ∧ f 11 = .int .i64 (i_150 : Int) ∧ Star H152 w_ ([]) := ⟨_, rfl⟩
                    refine W_loop I154 (n := k155) ?_ ?_
                    · rw [hI154]; exact ⟨0, k155, twice_145, H146, rfl, Nat.le_refl _, rfl, hL154, (Le.refl _), sf5, sf8, sf9, sf10, rfl, hst⟩
                    ·
                      clear hst
                      intro n154 f w_ hI
                      rw [hI154] at hI
                      obtain ⟨i_150, suf154, twice_151, H152, rfl, hs154, hl154, hL154, hle153, sf5, sf8, sf9, sf10, sf11, hst⟩ := hI
                      refine W_seq ?_
                      refine W_seq ?_
                      refine W_region ?_
                      refine L_mv (v := .int .i64 (i_150 : Int)) rfl sf11 ?_
                      refine L_mv (v := .int .i64 (i_144 : Int)) rfl sf10 ?_
                      refine L_lss (m := (i_150 : Int)) (n := (i_144 : Int)) rfl rfl rfl ?_
                      refine L_nil ?_
                      refine W_cond (b := decide ((i_150 : Int) < (i_144 : Int))) rfl (fun hc156 => ?_) (fun hc156 => ?_)
                      ·
                        have hlt154 := of_decide_eq_true hc156
                        cases suf154 with
                        | zero => exact absurd hlt154 (cntF_no hl154 hk155)
                        | succ rest154 =>
                          obtain ⟨o154, hB154, hL154⟩ := count_succ hL154
                          rw [l_FnRuleDifferent_b3] at hB154
                          refine W_skip ?_
                          refine W_seq ?_
                          refine W_block ?_
                          obtain ⟨b166, hb166, hB154⟩ := bind_some hB154
                          obtain ⟨R170, hR170⟩ : ∃ RR_ : Fr → World → Prop, RR_ = fun f w_ => ∃ H168 : FH, Le H152 H168 ∧ f 5 = r7_2 ∧ f 8 = .bool x86 ∧ f 9 = .bool b166 ∧ f 10 = .int .i64 (i_144 : Int) ∧ f 11 = .int .i64 (i_150 : Int) ∧ Star H168 w_ ([]) := ⟨_, rfl⟩
                          refine W_join R170 ?_ ?_
                          ·
                            rcases Bool.eq_false_or_eq_true twice_151 with hc171 | hc171
                            ·
                              rw [ite_t hc171] at hb166
                              refine W_drawS 10 [isV (.bool twice_151), isV (.bool twice_151), isV (undef), isV (undef), isV (undef), isV (undef), isV (undef), isV (undef), isV (undef), isV (undef)] [] [] ([]) [([], []), ([], []), ([], []), ([], []), ([], []), ([], []), ([], []), ([], []), ([], []), ([], [])] (S := []) Try_mix (by kernel_rfl) rfl (by kernel_rfl) (amF_cons (mono_V _) (amF_cons (mono_V _) (amF_cons (mono_V _) (amF_cons (mono_V _) (amF_cons (mono_V _) (amF_cons (mono_V _) (amF_cons (mono_V _) (amF_cons (mono_V _) (amF_cons (mono_V _) (amF_cons (mono_V _) amF_nil)))))))))) hst ?_ (fun f w_ H167 hS167 hE167 hT167 hst => ?_)
                              ·
                                refine opsS_cons ?_ ?_
                                ·
                                  intro f w_ H167 X167 hS167 hE167 hP167 hst
                                  refine L_mv (v := .bool twice_151) rfl ((hS167 9 rfl).trans sf9) ?_
                                  exact L_nil ⟨rfl, _, _, _, rfl, rfl, Le.refl _, rfl, hst⟩
                                refine opsS_cons ?_ ?_
                                ·
                                  intro f w_ H167 X167 hS167 hE167 hP167 hst
                                  refine L_mv (v := .bool twice_151) rfl (hP167 0 76 rfl rfl) ?_
                                  exact L_nil ⟨rfl, _, _, _, rfl, rfl, Le.refl _, rfl, hst⟩
                                refine opsS_cons ?_ ?_
                                ·
                                  intro f w_ H167 X167 hS167 hE167 hP167 hst
                                  refine L_pass (g_no rfl (Eq.trans (hP167 1 77 rfl rfl) (congrArg Value.bool hc171)) rfl rfl) ?_
                                  exact L_nil ⟨rfl, _, _, _, rfl, rfl, Le.refl _, rfl, hst⟩
                                refine opsS_cons ?_ ?_
                                ·
                                  intro f w_ H167 X167 hS167 hE167 hP167 hst
                                  refine L_pass (g_no rfl (Eq.trans (hP167 1 77 rfl rfl) (congrArg Value.bool hc171)) rfl rfl) ?_
                                  exact L_nil ⟨rfl, _, _, _, rfl, rfl, Le.refl _, rfl, hst⟩
                                refine opsS_cons ?_ ?_
                                ·
                                  intro f w_ H167 X167 hS167 hE167 hP167 hst
                                  refine L_pass (g_no rfl (Eq.trans (hP167 1 77 rfl rfl) (congrArg Value.bool hc171)) rfl rfl) ?_
                                  exact L_nil ⟨rfl, _, _, _, rfl, rfl, Le.refl _, rfl, hst⟩
                                refine opsS_cons ?_ ?_
                                ·
                                  intro f w_ H167 X167 hS167 hE167 hP167 hst
                                  refine L_pass (g_no rfl (Eq.trans (hP167 1 77 rfl rfl) (congrArg Value.bool hc171)) rfl rfl) ?_
                                  exact L_nil ⟨rfl, _, _, _, rfl, rfl, Le.refl _, rfl, hst⟩
                                refine opsS_cons ?_ ?_
                                ·
                                  intro f w_ H167 X167 hS167 hE167 hP167 hst
                                  refine L_pass (g_no rfl (Eq.trans (hP167 1 77 rfl rfl) (congrArg Value.bool hc171)) rfl rfl) ?_
                                  exact L_nil ⟨rfl, _, _, _, rfl, rfl, Le.refl _, rfl, hst⟩
                                refine opsS_cons ?_ ?_
                                ·
                                  intro f w_ H167 X167 hS167 hE167 hP167 hst
                                  refine L_pass (g_no rfl (Eq.trans (hP167 1 77 rfl rfl) (congrArg Value.bool hc171)) rfl rfl) ?_
                                  exact L_nil ⟨rfl, _, _, _, rfl, rfl, Le.refl _, rfl, hst⟩
                                refine opsS_cons ?_ ?_
                                ·
                                  intro f w_ H167 X167 hS167 hE167 hP167 hst
                                  refine L_pass (g_no rfl (Eq.trans (hP167 1 77 rfl rfl) (congrArg Value.bool hc171)) rfl rfl) ?_
                                  exact L_nil ⟨rfl, _, _, _, rfl, rfl, Le.refl _, rfl, hst⟩
                                refine opsS_cons ?_ ?_
                                ·
                                  intro f w_ H167 X167 hS167 hE167 hP167 hst
                                  refine L_pass (g_no rfl (Eq.trans (hP167 1 77 rfl rfl) (congrArg Value.bool hc171)) rfl rfl) ?_
                                  exact L_nil ⟨rfl, _, _, _, rfl, rfl, Le.refl _, rfl, hst⟩
                                exact opsS_nil
                              ·
                                refine L_pass (g_no rfl (Eq.trans (hT167 1 77 rfl rfl) (congrArg Value.bool hc171)) rfl rfl) ?_
                                refine L_pick (v := .bool b166) rfl (Eq.trans (hT167 1 77 rfl rfl) (congrArg Value.bool hc171)) (congrArg Value.bool (so hb166)) ?_
                                refine L_as (v := .bool b166) rfl rfl ?_
                                refine L_nil ?_
                                show R170 _ _
                                rw [hR170]
                                exact ⟨H167, hE167, ((hS167 5 rfl).trans sf5), ((hS167 8 rfl).trans sf8), rfl, ((hS167 10 rfl).trans sf10), ((hS167 11 rfl).trans sf11), hst⟩
                            ·
                              rw [ite_f hc171] at hb166
                              obtain ⟨x161, hx161, hb166⟩ := bind_some hb166
                              refine W_drawS 10 [isV (.bool twice_151), isV (.bool twice_151), isV (r7_2), isV (.int .i64 (i_144 : Int)), isEl RP.int x_148 0, isV (.int .i64 x_148), isV (r7_2), isV (.int .i64 (i_150 : Int)), isEl RP.int x161 0, isV (.int .i64 x161)] [] [] ([]) [([], []), ([], []), ([], []), ([], []), ([], []), ([], []), ([], []), ([], []), ([], []), ([], [])] (S := []) Try_mix (by kernel_rfl) rfl (by kernel_rfl) (amF_cons (mono_V _) (amF_cons (mono_V _) (amF_cons (mono_V _) (amF_cons (mono_V _) (amF_cons (mono_el _ _ _) (amF_cons (mono_V _) (amF_cons (mono_V _) (amF_cons (mono_V _) (amF_cons (mono_el _ _ _) (amF_cons (mono_V _) amF_nil)))))))))) hst ?_ (fun f w_ H167 hS167 hE167 hT167 hst => ?_)
                              ·
                                refine opsS_cons ?_ ?_
                                ·
                                  intro f w_ H167 X167 hS167 hE167 hP167 hst
                                  refine L_mv (v := .bool twice_151) rfl ((hS167 9 rfl).trans sf9) ?_
                                  exact L_nil ⟨rfl, _, _, _, rfl, rfl, Le.refl _, rfl, hst⟩
                                refine opsS_cons ?_ ?_
                                ·
                                  intro f w_ H167 X167 hS167 hE167 hP167 hst
                                  refine L_mv (v := .bool twice_151) rfl (hP167 0 76 rfl rfl) ?_
                                  exact L_nil ⟨rfl, _, _, _, rfl, rfl, Le.refl _, rfl, hst⟩
                                refine opsS_cons ?_ ?_
                                ·
                                  intro f w_ H167 X167 hS167 hE167 hP167 hst
                                  refine L_mv (v := r7_2) (g_yes rfl (Eq.trans (hP167 1 77 rfl rfl) (congrArg Value.bool hc171)) rfl) ((hS167 5 rfl).trans sf5) ?_
                                  exact L_nil ⟨rfl, _, _, _, rfl, rfl, Le.refl _, rfl, hst⟩
                                refine opsS_cons ?_ ?_
                                ·
                                  intro f w_ H167 X167 hS167 hE167 hP167 hst
                                  refine L_mv (v := .int .i64 (i_144 : Int)) (g_yes rfl (Eq.trans (hP167 1 77 rfl rfl) (congrArg Value.bool hc171)) rfl) ((hS167 10 rfl).trans sf10) ?_
                                  exact L_nil ⟨rfl, _, _, _, rfl, rfl, Le.refl _, rfl, hst⟩
                                refine opsS_cons ?_ ?_
                                ·
                                  intro f w_ H167 X167 hS167 hE167 hP167 hst
                                  refine L_ix (r := RP.int) (g_yes rfl (Eq.trans (hP167 1 77 rfl rfl) (congrArg Value.bool hc171)) rfl) Try.underlying23 Try.sizeOf3 (hP167 2 78 rfl rfl) (RP.mono _ hr7_2 (Le.trans (Le.trans (Le.trans hle33 hle147) hle153) hE167)) (hP167 3 79 rfl rfl) hix148 ?_
                                  intro g180 o181 cs_g180 hrk_hat182 hat182
                                  obtain rfl : _ = [_] := hrk_hat182
                                  exact L_nil ⟨rfl, _, _, _, rfl, rfl, Le.refl _, ⟨_, _, _, rfl, rfl, hat182⟩, hst⟩
                                refine opsS_cons ?_ ?_
                                ·
                                  intro f w_ H167 X167 hS167 hE167 hP167 hst
                                  obtain ⟨g184, o184, cs184, hv184, hrk_hat184, hat184⟩ := (hP167 4 80 rfl rfl)
                                  obtain rfl : _ = [_] := hrk_hat184
                                  refine L_ld (v := .int .i64 x_148) (g_yes rfl (Eq.trans (hP167 1 77 rfl rfl) (congrArg Value.bool hc171)) rfl) Try.isAgg3 hv184 (At.cell (AtH.at hat184 hst.sub) (j := 0) rfl) ?_
                                  exact L_nil ⟨rfl, _, _, _, rfl, rfl, Le.refl _, rfl, hst⟩
                                refine opsS_cons ?_ ?_
                                ·
                                  intro f w_ H167 X167 hS167 hE167 hP167 hst
                                  refine L_mv (v := r7_2) (g_yes rfl (Eq.trans (hP167 1 77 rfl rfl) (congrArg Value.bool hc171)) rfl) ((hS167 5 rfl).trans sf5) ?_
                                  exact L_nil ⟨rfl, _, _, _, rfl, rfl, Le.refl _, rfl, hst⟩
                                refine opsS_cons ?_ ?_
                                ·
                                  intro f w_ H167 X167 hS167 hE167 hP167 hst
                                  refine L_mv (v := .int .i64 (i_150 : Int)) (g_yes rfl (Eq.trans (hP167 1 77 rfl rfl) (congrArg Value.bool hc171)) rfl) ((hS167 11 rfl).trans sf11) ?_
                                  exact L_nil ⟨rfl, _, _, _, rfl, rfl, Le.refl _, rfl, hst⟩
                                refine opsS_cons ?_ ?_
                                ·
                                  intro f w_ H167 X167 hS167 hE167 hP167 hst
                                  refine L_ix (r := RP.int) (g_yes rfl (Eq.trans (hP167 1 77 rfl rfl) (congrArg Value.bool hc171)) rfl) Try.underlying23 Try.sizeOf3 (hP167 6 82 rfl rfl) (RP.mono _ hr7_2 (Le.trans (Le.trans (Le.trans hle33 hle147) hle153) hE167)) (hP167 7 83 rfl rfl) hx161 ?_
                                  intro g186 o187 cs_g186 hrk_hat188 hat188
                                  obtain rfl : _ = [_] := hrk_hat188
                                  exact L_nil ⟨rfl, _, _, _, rfl, rfl, Le.refl _, ⟨_, _, _, rfl, rfl, hat188⟩, hst⟩
                                refine opsS_cons ?_ ?_
                                ·
                                  intro f w_ H167 X167 hS167 hE167 hP167 hst
                                  obtain ⟨g190, o190, cs190, hv190, hrk_hat190, hat190⟩ := (hP167 8 84 rfl rfl)
                                  obtain rfl : _ = [_] := hrk_hat190
                                  refine L_ld (v := .int .i64 x161) (g_yes rfl (Eq.trans (hP167 1 77 rfl rfl) (congrArg Value.bool hc171)) rfl) Try.isAgg3 hv190 (At.cell (AtH.at hat190 hst.sub) (j := 0) rfl) ?_
                                  exact L_nil ⟨rfl, _, _, _, rfl, rfl, Le.refl _, rfl, hst⟩
                                exact opsS_nil
                              ·
                                refine L_eql (m := x_148) (n := x161) (g_yes rfl (Eq.trans (hT167 1 77 rfl rfl) (congrArg Value.bool hc171)) rfl) (hT167 5 81 rfl rfl) (hT167 9 85 rfl rfl) ?_
                                refine L_pick (v := .bool b166) rfl (Eq.trans (hT167 1 77 rfl rfl) (congrArg Value.bool hc171)) (congrArg Value.bool (so hb166)) ?_
                                refine L_as (v := .bool b166) rfl rfl ?_
                                refine L_nil ?_
                                show R170 _ _
                                rw [hR170]
                                exact ⟨H167, hE167, ((hS167 5 rfl).trans sf5), ((hS167 8 rfl).trans sf8), rfl, ((hS167 10 rfl).trans sf10), ((hS167 11 rfl).trans sf11), hst⟩
                          ·
                            intro f w_ hR
                            rw [hR170] at hR
                            obtain ⟨H168, hle169, sf5, sf8, sf9, sf10, sf11, hst⟩ := hR
                            clear hR170
                            refine W_region ?_
                            refine L_mv (v := .int .i64 (i_150 : Int)) rfl sf11 ?_
                            refine L_add (m := (i_150 : Int)) (n := 1) rfl rfl rfl ?_
                            refine L_as (v := .int .i64 (i64 ((i_150 : Int) + 1))) rfl rfl ?_
                            refine L_nil ?_
                            obtain rfl := so hB154
                            show ∃ m, m < _ ∧ I154 m _ _
                            refine ⟨rest154, Nat.lt_succ_self _, ?_⟩
                            rw [hI154]
                            exact ⟨i_150 + 1, rest154, b166, H168, rfl, by omega, by omega, hL154, (Le.trans hle153 hle169), sf5, sf8, sf9, sf10, (Eq.trans rfl (congrArg (Value.int .i64) (i64_succ (n := 0 + k155) (by omega) (cntF_le hk155)))), hst⟩
                      ·
                        cases suf154 with
                        | succ _ => exact absurd (cntF_yes hs154 hl154 hk155) (of_decide_eq_false hc156)
                        | zero =>
                          obtain rfl := count_zero hL154
                          refine W_exit ?_
                          show R154 _ _
                          rw [hR154]
                          exact ⟨twice_151, H152, rfl, hle153, sf5, sf8, sf9, sf10, hst⟩
                  ·
                    clear hst
                    intro f w_ hR
                    rw [hR154] at hR
                    obtain ⟨twice_151, H152, rfl, hle153, sf5, sf8, sf9, sf10, hst⟩ := hR
                    clear hR154
                    refine W_region ?_
                    refine L_mv (v := .int .i64 (i_144 : Int)) rfl sf10 ?_
                    refine L_add (m := (i_144 : Int)) (n := 1) rfl rfl rfl ?_
                    refine L_as (v := .int .i64 (i64 ((i_144 : Int) + 1))) rfl rfl ?_
                    refine L_nil ?_
                    obtain rfl := so hB148
                    show ∃ m, m < _ ∧ I148 m _ _
                    refine ⟨rest148.length, by simp, ?_⟩
                    rw [hI148]
                    exact ⟨i_144 + 1, rest148, twice_151, H152, rfl, drop_next hd148, by simp at hl148; omega, hL148, (Le.trans hle147 hle153), sf5, sf8, sf9, (Eq.trans rfl (congrArg (Value.int .i64) (i64_succ (n := x2.2.2.length) (by simp at hl148; omega) hlen148))), hst⟩
              ·
                cases suf148 with
                | cons _ _ => exact absurd (of_decide_eq_false hc149) (by simp at hl148; omega)
                | nil =>
                  obtain rfl := range_nil hL148
                  refine W_exit ?_
                  show R148 _ _
                  rw [hR148]
                  exact ⟨twice_145, H146, rfl, hle147, sf8, sf9, hst⟩
          ·
            clear hst
            intro f w_ hR
            rw [hR148] at hR
            obtain ⟨twice_145, H146, rfl, hle147, sf8, sf9, hst⟩ := hR
            clear hR148
            refine W_seq ?_
            refine W_region ?_
            refine L_mv (v := .bool x86) rfl sf8 ?_
            refine L_mv (v := .bool twice_145) rfl sf9 ?_
            refine L_bneq (b := x86) (c := twice_145) rfl Try.underlying4 rfl rfl ?_
            refine L_as (v := .bool (x86 != twice_145)) rfl rfl ?_
            refine L_nil ?_
            refine W_ret ?_
            refine retG1 (v1 := .bool (x86 != twice_145)) Try.results4 rfl ?_
            obtain rfl := so hF
            exact ⟨rfl, (Star.down hst (Le.trans (Le.trans hle7 hle33) hle147) closedL_nil)⟩

end Go.Proofs.Ytcjjfneofcpmfaa

/- Part of a proof by program: W3. -/
import Derived.Test.YteeilbddjlpiaaaGreatD1
import Derived.Test.YteeilbddjlpiaaaGreatW2
namespace Go.Proofs.YteeilbddjlpiaaaGreat
open Go Go.E Go.L Go.RowKit
set_option linter.unusedVariables false
set_option linter.unusedSimpArgs false
set_option maxRecDepth 100000
theorem i_Step_shaped_c {s : Step} {v0_3 : Value} {H : FH} {w : World} (hst : Star H w []) (h0_3 : (rS 85 rTerm).rel H [v0_3] s.given.terms) {r : Bool} (hF : i_Step_shaped s = some r) :
 C Tryz.prog 75 #[.agg #[I s.kind,I s.a,I s.b,v0_3,I s.given.bound]] w fun v w'=>v = Bo r∧Star H w' []:=by
 unfold i_Step_shaped at hF
 refine C_enter Tryz.func75 rfl Tryz.ntmps75 rfl (sq (L_box (v:=.agg #[I s.kind,I s.a,I s.b,v0_3,I s.given.bound]) (cs:=#[I s.kind,I s.a,I s.b,v0_3,I s.given.bound]) rfl rfl rfl hst (fun g3 w4 hst=>aB rfl (nq ?_))))
 obtain ⟨x10,hx10,hF⟩:=bind_some hF
 refine W_region (fA 0 fa_56_0 rfl rfl (ldB 0 hst Tryz.isAgg3 rfl rfl rfl ?_))
 obtain ⟨H12b,l13,s14,z15,k16⟩:=hst.borrow
 refine L_call rfl Tryz.call74 (ops1 rfl) (i_refers_c (kind:=s.kind) s14 hx10) ?_
 rintro _ w17 ⟨rfl,hst⟩
 have hst:=k16 hst c0
 refine mV (.tuple #[I x10.1,Bo x10.2]) rfl (L_ex (v:=I x10.1) rfl rfl rfl (L_ex (v:=Bo x10.2) rfl rfl rfl (aI rfl (aB rfl (nq ?_)))))
 obtain ⟨b26,hb26,hF⟩:=bind_some hF
 obtain ⟨R27,hR27⟩:=exR fun f w_=>f 2 = Bo b26∧Star H w_ ([])
 refine W_join R27 ?_ ?_
 refine W_region (mI rfl (L_geq rfl rfl rfl (mB rfl (L_split (d:=13) (b:=decide (x10.1 ≥ 0)) rfl (fun hc28=>?_) (fun hc28=>?_)))))
 refine mI rfl (L_gtr rfl rfl rfl (mB rfl (L_split (d:=16) (b:=decide (x10.1 > 0)) rfl (fun hc29=>?_) (fun hc29=>?_))))
 refine ps rfl (ps rfl (ps rfl (L_pick (v:=Bo ((decide (x10.1 > 0)) || (s.kind == 6))) rfl rfl (or_t hc29) (mB rfl (L_split (d:=21) (b:=((decide (x10.1 > 0)) || (s.kind == 6))) rfl (fun hc30=>?_) (fun hc30=>?_))))))
 refine ps rfl (ps rfl (ps rfl (L_pick (v:=Bo (((decide (x10.1 > 0)) || (s.kind == 6)) || (s.a == 0))) rfl rfl (or_t hc30) (L_pick (v:=Bo ((decide (x10.1 ≥ 0)) && (((decide (x10.1 > 0)) || (s.kind == 6)) || (s.a == 0)))) rfl rfl (and_t hc28 rfl) (mB rfl (L_split (d:=27) (b:=((decide (x10.1 ≥ 0)) && (((decide (x10.1 > 0)) || (s.kind == 6)) || (s.a == 0)))) rfl (fun hc31=>?_) (fun hc31=>?_)))))))
 refine mI rfl (L_eql rfl rfl rfl (mB rfl (L_split (d:=30) (b:=(x10.1 == 2)) rfl (fun hc32=>?_) (fun hc32=>?_))))
 refine ps rfl (L_pick (v:=Bo ((x10.1 == 2) || x10.2)) rfl rfl (or_t hc32) (mB rfl (L_split (d:=33) (b:=((x10.1 == 2) || x10.2)) rfl (fun hc33=>?_) (fun hc33=>?_))))
 refine ps rfl (ps rfl (ps rfl (L_pick (v:=Bo (((x10.1 == 2) || x10.2) || (s.b == 0))) rfl rfl (or_t hc33) (L_pick (v:=Bo (((decide (x10.1 ≥ 0)) && (((decide (x10.1 > 0)) || (s.kind == 6)) || (s.a == 0))) && (((x10.1 == 2) || x10.2) || (s.b == 0)))) rfl rfl (and_t hc31 rfl) (mB rfl (L_split (d:=39) (b:=(((decide (x10.1 ≥ 0)) && (((decide (x10.1 > 0)) || (s.kind == 6)) || (s.a == 0))) && (((x10.1 == 2) || x10.2) || (s.b == 0)))) rfl (fun hc34=>?_) (fun hc34=>?_)))))))
 rw [ite_t hc34] at hb26
 obtain ⟨b25,hb25,hb26⟩:=bind_some hb26
 refine fA 0 fa_56_0 rfl rfl (ldB 0 hst Tryz.isAgg3 rfl rfl rfl (L_eql rfl rfl rfl (mB rfl (L_split (d:=43) (b:=(s.kind == 7)) rfl (fun hc35=>?_) (fun hc35=>?_)))))
 rw [ite_t hc35] at hb25
 refine ps rfl (ps rfl (ps rfl (ps rfl (L_pick (v:=Bo b25) rfl rfl (congrArg Value.bool (so hb25)) (L_pick (v:=Bo b26) rfl rfl (congrArg Value.bool (so hb26)) (aB rfl (nn (rj hR27 ⟨rfl,(Star.keepN 0 hst)⟩))))))))
 rw [ite_f hc35] at hb25
 obtain ⟨x23,hx23,hb25⟩:=bind_some hb25
 refine fA 3 fa_56_3 rfl rfl (L_lda (cs:=[v0_3,I s.given.bound]) rfl Tryz.isAgg46 Tryz.sizeOf46 rfl (At.sub0 (Blk.at (Star.blkAt 0 hst rfl)) 3 2) rfl (L_bld rfl (parts0 ) (bld_46_  ) ?_))
 obtain ⟨H36b,l37,s38,z39,k40⟩:=hst.borrow
 refine L_call rfl Tryz.call24 (ops2 rfl rfl) (i_ConstraintSame_c (a:=s.given) (b:=({ terms:=[],bound:=0 } : Con)) s38 (RP.mono _ h0_3 l37) (rel_nil _ _ _) hx23) ?_
 rintro _ w41 ⟨rfl,hst⟩
 have hst:=k40 hst c0
 refine L_pick (v:=Bo b25) rfl rfl (congrArg Value.bool (so hb25)) (L_pick (v:=Bo b26) rfl rfl (congrArg Value.bool (so hb26)) (aB rfl (nn (rj hR27 ⟨rfl,(Star.keepN 0 hst)⟩))))
 rw [ite_f hc34] at hb26
 refine ps rfl (ps rfl (ps rfl (ps rfl (ps rfl (ps rfl (ps rfl (ps rfl (ps rfl (L_pick (v:=Bo b26) rfl rfl (congrArg Value.bool (so hb26)) (aB rfl (nn (rj hR27 ⟨rfl,(Star.keepN 0 hst)⟩))))))))))))
 refine fA 2 fa_56_2 rfl rfl (ldB 0 hst Tryz.isAgg3 rfl rfl rfl (L_eql rfl rfl rfl (L_pick (v:=Bo (((x10.1 == 2) || x10.2) || (s.b == 0))) rfl rfl (or_f hc33 rfl) (L_pick (v:=Bo (((decide (x10.1 ≥ 0)) && (((decide (x10.1 > 0)) || (s.kind == 6)) || (s.a == 0))) && (((x10.1 == 2) || x10.2) || (s.b == 0)))) rfl rfl (and_t hc31 rfl) (mB rfl (L_split (d:=39) (b:=(((decide (x10.1 ≥ 0)) && (((decide (x10.1 > 0)) || (s.kind == 6)) || (s.a == 0))) && (((x10.1 == 2) || x10.2) || (s.b == 0)))) rfl (fun hc42=>?_) (fun hc42=>?_)))))))
 rw [ite_t hc42] at hb26
 obtain ⟨b25,hb25,hb26⟩:=bind_some hb26
 refine fA 0 fa_56_0 rfl rfl (ldB 0 hst Tryz.isAgg3 rfl rfl rfl (L_eql rfl rfl rfl (mB rfl (L_split (d:=43) (b:=(s.kind == 7)) rfl (fun hc43=>?_) (fun hc43=>?_)))))
 rw [ite_t hc43] at hb25
 refine ps rfl (ps rfl (ps rfl (ps rfl (L_pick (v:=Bo b25) rfl rfl (congrArg Value.bool (so hb25)) (L_pick (v:=Bo b26) rfl rfl (congrArg Value.bool (so hb26)) (aB rfl (nn (rj hR27 ⟨rfl,(Star.keepN 0 hst)⟩))))))))
 rw [ite_f hc43] at hb25
 obtain ⟨x23,hx23,hb25⟩:=bind_some hb25
 refine fA 3 fa_56_3 rfl rfl (L_lda (cs:=[v0_3,I s.given.bound]) rfl Tryz.isAgg46 Tryz.sizeOf46 rfl (At.sub0 (Blk.at (Star.blkAt 0 hst rfl)) 3 2) rfl (L_bld rfl (parts0 ) (bld_46_  ) ?_))
 obtain ⟨H44b,l45,s46,z47,k48⟩:=hst.borrow
 refine L_call rfl Tryz.call24 (ops2 rfl rfl) (i_ConstraintSame_c (a:=s.given) (b:=({ terms:=[],bound:=0 } : Con)) s46 (RP.mono _ h0_3 l45) (rel_nil _ _ _) hx23) ?_
 rintro _ w49 ⟨rfl,hst⟩
 have hst:=k48 hst c0
 refine L_pick (v:=Bo b25) rfl rfl (congrArg Value.bool (so hb25)) (L_pick (v:=Bo b26) rfl rfl (congrArg Value.bool (so hb26)) (aB rfl (nn (rj hR27 ⟨rfl,(Star.keepN 0 hst)⟩))))
 rw [ite_f hc42] at hb26
 refine ps rfl (ps rfl (ps rfl (ps rfl (ps rfl (ps rfl (ps rfl (ps rfl (ps rfl (L_pick (v:=Bo b26) rfl rfl (congrArg Value.bool (so hb26)) (aB rfl (nn (rj hR27 ⟨rfl,(Star.keepN 0 hst)⟩))))))))))))
 refine mB rfl (L_pick (v:=Bo ((x10.1 == 2) || x10.2)) rfl rfl (or_f hc32 rfl) (mB rfl (L_split (d:=33) (b:=((x10.1 == 2) || x10.2)) rfl (fun hc50=>?_) (fun hc50=>?_))))
 refine ps rfl (ps rfl (ps rfl (L_pick (v:=Bo (((x10.1 == 2) || x10.2) || (s.b == 0))) rfl rfl (or_t hc50) (L_pick (v:=Bo (((decide (x10.1 ≥ 0)) && (((decide (x10.1 > 0)) || (s.kind == 6)) || (s.a == 0))) && (((x10.1 == 2) || x10.2) || (s.b == 0)))) rfl rfl (and_t hc31 rfl) (mB rfl (L_split (d:=39) (b:=(((decide (x10.1 ≥ 0)) && (((decide (x10.1 > 0)) || (s.kind == 6)) || (s.a == 0))) && (((x10.1 == 2) || x10.2) || (s.b == 0)))) rfl (fun hc51=>?_) (fun hc51=>?_)))))))
 rw [ite_t hc51] at hb26
 obtain ⟨b25,hb25,hb26⟩:=bind_some hb26
 refine fA 0 fa_56_0 rfl rfl (ldB 0 hst Tryz.isAgg3 rfl rfl rfl (L_eql rfl rfl rfl (mB rfl (L_split (d:=43) (b:=(s.kind == 7)) rfl (fun hc52=>?_) (fun hc52=>?_)))))
 rw [ite_t hc52] at hb25
 refine ps rfl (ps rfl (ps rfl (ps rfl (L_pick (v:=Bo b25) rfl rfl (congrArg Value.bool (so hb25)) (L_pick (v:=Bo b26) rfl rfl (congrArg Value.bool (so hb26)) (aB rfl (nn (rj hR27 ⟨rfl,(Star.keepN 0 hst)⟩))))))))
 rw [ite_f hc52] at hb25
 obtain ⟨x23,hx23,hb25⟩:=bind_some hb25
 refine fA 3 fa_56_3 rfl rfl (L_lda (cs:=[v0_3,I s.given.bound]) rfl Tryz.isAgg46 Tryz.sizeOf46 rfl (At.sub0 (Blk.at (Star.blkAt 0 hst rfl)) 3 2) rfl (L_bld rfl (parts0 ) (bld_46_  ) ?_))
 obtain ⟨H53b,l54,s55,z56,k57⟩:=hst.borrow
 refine L_call rfl Tryz.call24 (ops2 rfl rfl) (i_ConstraintSame_c (a:=s.given) (b:=({ terms:=[],bound:=0 } : Con)) s55 (RP.mono _ h0_3 l54) (rel_nil _ _ _) hx23) ?_
 rintro _ w58 ⟨rfl,hst⟩
 have hst:=k57 hst c0
 refine L_pick (v:=Bo b25) rfl rfl (congrArg Value.bool (so hb25)) (L_pick (v:=Bo b26) rfl rfl (congrArg Value.bool (so hb26)) (aB rfl (nn (rj hR27 ⟨rfl,(Star.keepN 0 hst)⟩))))
 rw [ite_f hc51] at hb26
 refine ps rfl (ps rfl (ps rfl (ps rfl (ps rfl (ps rfl (ps rfl (ps rfl (ps rfl (L_pick (v:=Bo b26) rfl rfl (congrArg Value.bool (so hb26)) (aB rfl (nn (rj hR27 ⟨rfl,(Star.keepN 0 hst)⟩))))))))))))
 refine fA 2 fa_56_2 rfl rfl (ldB 0 hst Tryz.isAgg3 rfl rfl rfl (L_eql rfl rfl rfl (L_pick (v:=Bo (((x10.1 == 2) || x10.2) || (s.b == 0))) rfl rfl (or_f hc50 rfl) (L_pick (v:=Bo (((decide (x10.1 ≥ 0)) && (((decide (x10.1 > 0)) || (s.kind == 6)) || (s.a == 0))) && (((x10.1 == 2) || x10.2) || (s.b == 0)))) rfl rfl (and_t hc31 rfl) (mB rfl (L_split (d:=39) (b:=(((decide (x10.1 ≥ 0)) && (((decide (x10.1 > 0)) || (s.kind == 6)) || (s.a == 0))) && (((x10.1 == 2) || x10.2) || (s.b == 0)))) rfl (fun hc59=>?_) (fun hc59=>?_)))))))
 rw [ite_t hc59] at hb26
 obtain ⟨b25,hb25,hb26⟩:=bind_some hb26
 refine fA 0 fa_56_0 rfl rfl (ldB 0 hst Tryz.isAgg3 rfl rfl rfl (L_eql rfl rfl rfl (mB rfl (L_split (d:=43) (b:=(s.kind == 7)) rfl (fun hc60=>?_) (fun hc60=>?_)))))
 rw [ite_t hc60] at hb25
 refine ps rfl (ps rfl (ps rfl (ps rfl (L_pick (v:=Bo b25) rfl rfl (congrArg Value.bool (so hb25)) (L_pick (v:=Bo b26) rfl rfl (congrArg Value.bool (so hb26)) (aB rfl (nn (rj hR27 ⟨rfl,(Star.keepN 0 hst)⟩))))))))
 rw [ite_f hc60] at hb25
 obtain ⟨x23,hx23,hb25⟩:=bind_some hb25
 refine fA 3 fa_56_3 rfl rfl (L_lda (cs:=[v0_3,I s.given.bound]) rfl Tryz.isAgg46 Tryz.sizeOf46 rfl (At.sub0 (Blk.at (Star.blkAt 0 hst rfl)) 3 2) rfl (L_bld rfl (parts0 ) (bld_46_  ) ?_))
 obtain ⟨H61b,l62,s63,z64,k65⟩:=hst.borrow
 refine L_call rfl Tryz.call24 (ops2 rfl rfl) (i_ConstraintSame_c (a:=s.given) (b:=({ terms:=[],bound:=0 } : Con)) s63 (RP.mono _ h0_3 l62) (rel_nil _ _ _) hx23) ?_
 rintro _ w66 ⟨rfl,hst⟩
 have hst:=k65 hst c0
 refine L_pick (v:=Bo b25) rfl rfl (congrArg Value.bool (so hb25)) (L_pick (v:=Bo b26) rfl rfl (congrArg Value.bool (so hb26)) (aB rfl (nn (rj hR27 ⟨rfl,(Star.keepN 0 hst)⟩))))
 rw [ite_f hc59] at hb26
 refine ps rfl (ps rfl (ps rfl (ps rfl (ps rfl (ps rfl (ps rfl (ps rfl (ps rfl (L_pick (v:=Bo b26) rfl rfl (congrArg Value.bool (so hb26)) (aB rfl (nn (rj hR27 ⟨rfl,(Star.keepN 0 hst)⟩))))))))))))
 refine ps rfl (ps rfl (ps rfl (ps rfl (ps rfl (ps rfl (ps rfl (ps rfl (ps rfl (ps rfl (L_pick (v:=Bo (((decide (x10.1 ≥ 0)) && (((decide (x10.1 > 0)) || (s.kind == 6)) || (s.a == 0))) && (((x10.1 == 2) || x10.2) || (s.b == 0)))) rfl rfl (and_f hc31) (mB rfl (L_split (d:=39) (b:=(((decide (x10.1 ≥ 0)) && (((decide (x10.1 > 0)) || (s.kind == 6)) || (s.a == 0))) && (((x10.1 == 2) || x10.2) || (s.b == 0)))) rfl (fun hc67=>?_) (fun hc67=>?_)))))))))))))
 rw [ite_t hc67] at hb26
 obtain ⟨b25,hb25,hb26⟩:=bind_some hb26
 refine fA 0 fa_56_0 rfl rfl (ldB 0 hst Tryz.isAgg3 rfl rfl rfl (L_eql rfl rfl rfl (mB rfl (L_split (d:=43) (b:=(s.kind == 7)) rfl (fun hc68=>?_) (fun hc68=>?_)))))
 rw [ite_t hc68] at hb25
 refine ps rfl (ps rfl (ps rfl (ps rfl (L_pick (v:=Bo b25) rfl rfl (congrArg Value.bool (so hb25)) (L_pick (v:=Bo b26) rfl rfl (congrArg Value.bool (so hb26)) (aB rfl (nn (rj hR27 ⟨rfl,(Star.keepN 0 hst)⟩))))))))
 rw [ite_f hc68] at hb25
 obtain ⟨x23,hx23,hb25⟩:=bind_some hb25
 refine fA 3 fa_56_3 rfl rfl (L_lda (cs:=[v0_3,I s.given.bound]) rfl Tryz.isAgg46 Tryz.sizeOf46 rfl (At.sub0 (Blk.at (Star.blkAt 0 hst rfl)) 3 2) rfl (L_bld rfl (parts0 ) (bld_46_  ) ?_))
 obtain ⟨H69b,l70,s71,z72,k73⟩:=hst.borrow
 refine L_call rfl Tryz.call24 (ops2 rfl rfl) (i_ConstraintSame_c (a:=s.given) (b:=({ terms:=[],bound:=0 } : Con)) s71 (RP.mono _ h0_3 l70) (rel_nil _ _ _) hx23) ?_
 rintro _ w74 ⟨rfl,hst⟩
 have hst:=k73 hst c0
 refine L_pick (v:=Bo b25) rfl rfl (congrArg Value.bool (so hb25)) (L_pick (v:=Bo b26) rfl rfl (congrArg Value.bool (so hb26)) (aB rfl (nn (rj hR27 ⟨rfl,(Star.keepN 0 hst)⟩))))
 rw [ite_f hc67] at hb26
 refine ps rfl (ps rfl (ps rfl (ps rfl (ps rfl (ps rfl (ps rfl (ps rfl (ps rfl (L_pick (v:=Bo b26) rfl rfl (congrArg Value.bool (so hb26)) (aB rfl (nn (rj hR27 ⟨rfl,(Star.keepN 0 hst)⟩))))))))))))
 refine fA 1 fa_56_1 rfl rfl (ldB 0 hst Tryz.isAgg3 rfl rfl rfl (L_eql rfl rfl rfl (L_pick (v:=Bo (((decide (x10.1 > 0)) || (s.kind == 6)) || (s.a == 0))) rfl rfl (or_f hc30 rfl) (L_pick (v:=Bo ((decide (x10.1 ≥ 0)) && (((decide (x10.1 > 0)) || (s.kind == 6)) || (s.a == 0)))) rfl rfl (and_t hc28 rfl) (mB rfl (L_split (d:=27) (b:=((decide (x10.1 ≥ 0)) && (((decide (x10.1 > 0)) || (s.kind == 6)) || (s.a == 0)))) rfl (fun hc75=>?_) (fun hc75=>?_)))))))
 refine mI rfl (L_eql rfl rfl rfl (mB rfl (L_split (d:=30) (b:=(x10.1 == 2)) rfl (fun hc76=>?_) (fun hc76=>?_))))
 refine ps rfl (L_pick (v:=Bo ((x10.1 == 2) || x10.2)) rfl rfl (or_t hc76) (mB rfl (L_split (d:=33) (b:=((x10.1 == 2) || x10.2)) rfl (fun hc77=>?_) (fun hc77=>?_))))
 refine ps rfl (ps rfl (ps rfl (L_pick (v:=Bo (((x10.1 == 2) || x10.2) || (s.b == 0))) rfl rfl (or_t hc77) (L_pick (v:=Bo (((decide (x10.1 ≥ 0)) && (((decide (x10.1 > 0)) || (s.kind == 6)) || (s.a == 0))) && (((x10.1 == 2) || x10.2) || (s.b == 0)))) rfl rfl (and_t hc75 rfl) (mB rfl (L_split (d:=39) (b:=(((decide (x10.1 ≥ 0)) && (((decide (x10.1 > 0)) || (s.kind == 6)) || (s.a == 0))) && (((x10.1 == 2) || x10.2) || (s.b == 0)))) rfl (fun hc78=>?_) (fun hc78=>?_)))))))
 rw [ite_t hc78] at hb26
 obtain ⟨b25,hb25,hb26⟩:=bind_some hb26
 refine fA 0 fa_56_0 rfl rfl (ldB 0 hst Tryz.isAgg3 rfl rfl rfl (L_eql rfl rfl rfl (mB rfl (L_split (d:=43) (b:=(s.kind == 7)) rfl (fun hc79=>?_) (fun hc79=>?_)))))
 rw [ite_t hc79] at hb25
 refine ps rfl (ps rfl (ps rfl (ps rfl (L_pick (v:=Bo b25) rfl rfl (congrArg Value.bool (so hb25)) (L_pick (v:=Bo b26) rfl rfl (congrArg Value.bool (so hb26)) (aB rfl (nn (rj hR27 ⟨rfl,(Star.keepN 0 hst)⟩))))))))
 rw [ite_f hc79] at hb25
 obtain ⟨x23,hx23,hb25⟩:=bind_some hb25
 refine fA 3 fa_56_3 rfl rfl (L_lda (cs:=[v0_3,I s.given.bound]) rfl Tryz.isAgg46 Tryz.sizeOf46 rfl (At.sub0 (Blk.at (Star.blkAt 0 hst rfl)) 3 2) rfl (L_bld rfl (parts0 ) (bld_46_  ) ?_))
 obtain ⟨H80b,l81,s82,z83,k84⟩:=hst.borrow
 refine L_call rfl Tryz.call24 (ops2 rfl rfl) (i_ConstraintSame_c (a:=s.given) (b:=({ terms:=[],bound:=0 } : Con)) s82 (RP.mono _ h0_3 l81) (rel_nil _ _ _) hx23) ?_
 rintro _ w85 ⟨rfl,hst⟩
 have hst:=k84 hst c0
 refine L_pick (v:=Bo b25) rfl rfl (congrArg Value.bool (so hb25)) (L_pick (v:=Bo b26) rfl rfl (congrArg Value.bool (so hb26)) (aB rfl (nn (rj hR27 ⟨rfl,(Star.keepN 0 hst)⟩))))
 rw [ite_f hc78] at hb26
 refine ps rfl (ps rfl (ps rfl (ps rfl (ps rfl (ps rfl (ps rfl (ps rfl (ps rfl (L_pick (v:=Bo b26) rfl rfl (congrArg Value.bool (so hb26)) (aB rfl (nn (rj hR27 ⟨rfl,(Star.keepN 0 hst)⟩))))))))))))
 refine fA 2 fa_56_2 rfl rfl (ldB 0 hst Tryz.isAgg3 rfl rfl rfl (L_eql rfl rfl rfl (L_pick (v:=Bo (((x10.1 == 2) || x10.2) || (s.b == 0))) rfl rfl (or_f hc77 rfl) (L_pick (v:=Bo (((decide (x10.1 ≥ 0)) && (((decide (x10.1 > 0)) || (s.kind == 6)) || (s.a == 0))) && (((x10.1 == 2) || x10.2) || (s.b == 0)))) rfl rfl (and_t hc75 rfl) (mB rfl (L_split (d:=39) (b:=(((decide (x10.1 ≥ 0)) && (((decide (x10.1 > 0)) || (s.kind == 6)) || (s.a == 0))) && (((x10.1 == 2) || x10.2) || (s.b == 0)))) rfl (fun hc86=>?_) (fun hc86=>?_)))))))
 rw [ite_t hc86] at hb26
 obtain ⟨b25,hb25,hb26⟩:=bind_some hb26
 refine fA 0 fa_56_0 rfl rfl (ldB 0 hst Tryz.isAgg3 rfl rfl rfl (L_eql rfl rfl rfl (mB rfl (L_split (d:=43) (b:=(s.kind == 7)) rfl (fun hc87=>?_) (fun hc87=>?_)))))
 rw [ite_t hc87] at hb25
 refine ps rfl (ps rfl (ps rfl (ps rfl (L_pick (v:=Bo b25) rfl rfl (congrArg Value.bool (so hb25)) (L_pick (v:=Bo b26) rfl rfl (congrArg Value.bool (so hb26)) (aB rfl (nn (rj hR27 ⟨rfl,(Star.keepN 0 hst)⟩))))))))
 rw [ite_f hc87] at hb25
 obtain ⟨x23,hx23,hb25⟩:=bind_some hb25
 refine fA 3 fa_56_3 rfl rfl (L_lda (cs:=[v0_3,I s.given.bound]) rfl Tryz.isAgg46 Tryz.sizeOf46 rfl (At.sub0 (Blk.at (Star.blkAt 0 hst rfl)) 3 2) rfl (L_bld rfl (parts0 ) (bld_46_  ) ?_))
 obtain ⟨H88b,l89,s90,z91,k92⟩:=hst.borrow
 refine L_call rfl Tryz.call24 (ops2 rfl rfl) (i_ConstraintSame_c (a:=s.given) (b:=({ terms:=[],bound:=0 } : Con)) s90 (RP.mono _ h0_3 l89) (rel_nil _ _ _) hx23) ?_
 rintro _ w93 ⟨rfl,hst⟩
 have hst:=k92 hst c0
 refine L_pick (v:=Bo b25) rfl rfl (congrArg Value.bool (so hb25)) (L_pick (v:=Bo b26) rfl rfl (congrArg Value.bool (so hb26)) (aB rfl (nn (rj hR27 ⟨rfl,(Star.keepN 0 hst)⟩))))
 rw [ite_f hc86] at hb26
 refine ps rfl (ps rfl (ps rfl (ps rfl (ps rfl (ps rfl (ps rfl (ps rfl (ps rfl (L_pick (v:=Bo b26) rfl rfl (congrArg Value.bool (so hb26)) (aB rfl (nn (rj hR27 ⟨rfl,(Star.keepN 0 hst)⟩))))))))))))
 refine mB rfl (L_pick (v:=Bo ((x10.1 == 2) || x10.2)) rfl rfl (or_f hc76 rfl) (mB rfl (L_split (d:=33) (b:=((x10.1 == 2) || x10.2)) rfl (fun hc94=>?_) (fun hc94=>?_))))
 refine ps rfl (ps rfl (ps rfl (L_pick (v:=Bo (((x10.1 == 2) || x10.2) || (s.b == 0))) rfl rfl (or_t hc94) (L_pick (v:=Bo (((decide (x10.1 ≥ 0)) && (((decide (x10.1 > 0)) || (s.kind == 6)) || (s.a == 0))) && (((x10.1 == 2) || x10.2) || (s.b == 0)))) rfl rfl (and_t hc75 rfl) (mB rfl (L_split (d:=39) (b:=(((decide (x10.1 ≥ 0)) && (((decide (x10.1 > 0)) || (s.kind == 6)) || (s.a == 0))) && (((x10.1 == 2) || x10.2) || (s.b == 0)))) rfl (fun hc95=>?_) (fun hc95=>?_)))))))
 rw [ite_t hc95] at hb26
 obtain ⟨b25,hb25,hb26⟩:=bind_some hb26
 refine fA 0 fa_56_0 rfl rfl (ldB 0 hst Tryz.isAgg3 rfl rfl rfl (L_eql rfl rfl rfl (mB rfl (L_split (d:=43) (b:=(s.kind == 7)) rfl (fun hc96=>?_) (fun hc96=>?_)))))
 rw [ite_t hc96] at hb25
 refine ps rfl (ps rfl (ps rfl (ps rfl (L_pick (v:=Bo b25) rfl rfl (congrArg Value.bool (so hb25)) (L_pick (v:=Bo b26) rfl rfl (congrArg Value.bool (so hb26)) (aB rfl (nn (rj hR27 ⟨rfl,(Star.keepN 0 hst)⟩))))))))
 rw [ite_f hc96] at hb25
 obtain ⟨x23,hx23,hb25⟩:=bind_some hb25
 refine fA 3 fa_56_3 rfl rfl (L_lda (cs:=[v0_3,I s.given.bound]) rfl Tryz.isAgg46 Tryz.sizeOf46 rfl (At.sub0 (Blk.at (Star.blkAt 0 hst rfl)) 3 2) rfl (L_bld rfl (parts0 ) (bld_46_  ) ?_))
 obtain ⟨H97b,l98,s99,z100,k101⟩:=hst.borrow
 refine L_call rfl Tryz.call24 (ops2 rfl rfl) (i_ConstraintSame_c (a:=s.given) (b:=({ terms:=[],bound:=0 } : Con)) s99 (RP.mono _ h0_3 l98) (rel_nil _ _ _) hx23) ?_
 rintro _ w102 ⟨rfl,hst⟩
 have hst:=k101 hst c0
 refine L_pick (v:=Bo b25) rfl rfl (congrArg Value.bool (so hb25)) (L_pick (v:=Bo b26) rfl rfl (congrArg Value.bool (so hb26)) (aB rfl (nn (rj hR27 ⟨rfl,(Star.keepN 0 hst)⟩))))
 rw [ite_f hc95] at hb26
 refine ps rfl (ps rfl (ps rfl (ps rfl (ps rfl (ps rfl (ps rfl (ps rfl (ps rfl (L_pick (v:=Bo b26) rfl rfl (congrArg Value.bool (so hb26)) (aB rfl (nn (rj hR27 ⟨rfl,(Star.keepN 0 hst)⟩))))))))))))
 refine fA 2 fa_56_2 rfl rfl (ldB 0 hst Tryz.isAgg3 rfl rfl rfl (L_eql rfl rfl rfl (L_pick (v:=Bo (((x10.1 == 2) || x10.2) || (s.b == 0))) rfl rfl (or_f hc94 rfl) (L_pick (v:=Bo (((decide (x10.1 ≥ 0)) && (((decide (x10.1 > 0)) || (s.kind == 6)) || (s.a == 0))) && (((x10.1 == 2) || x10.2) || (s.b == 0)))) rfl rfl (and_t hc75 rfl) (mB rfl (L_split (d:=39) (b:=(((decide (x10.1 ≥ 0)) && (((decide (x10.1 > 0)) || (s.kind == 6)) || (s.a == 0))) && (((x10.1 == 2) || x10.2) || (s.b == 0)))) rfl (fun hc103=>?_) (fun hc103=>?_)))))))
 rw [ite_t hc103] at hb26
 obtain ⟨b25,hb25,hb26⟩:=bind_some hb26
 refine fA 0 fa_56_0 rfl rfl (ldB 0 hst Tryz.isAgg3 rfl rfl rfl (L_eql rfl rfl rfl (mB rfl (L_split (d:=43) (b:=(s.kind == 7)) rfl (fun hc104=>?_) (fun hc104=>?_)))))
 rw [ite_t hc104] at hb25
 refine ps rfl (ps rfl (ps rfl (ps rfl (L_pick (v:=Bo b25) rfl rfl (congrArg Value.bool (so hb25)) (L_pick (v:=Bo b26) rfl rfl (congrArg Value.bool (so hb26)) (aB rfl (nn (rj hR27 ⟨rfl,(Star.keepN 0 hst)⟩))))))))
 rw [ite_f hc104] at hb25
 obtain ⟨x23,hx23,hb25⟩:=bind_some hb25
 refine fA 3 fa_56_3 rfl rfl (L_lda (cs:=[v0_3,I s.given.bound]) rfl Tryz.isAgg46 Tryz.sizeOf46 rfl (At.sub0 (Blk.at (Star.blkAt 0 hst rfl)) 3 2) rfl (L_bld rfl (parts0 ) (bld_46_  ) ?_))
 obtain ⟨H105b,l106,s107,z108,k109⟩:=hst.borrow
 refine L_call rfl Tryz.call24 (ops2 rfl rfl) (i_ConstraintSame_c (a:=s.given) (b:=({ terms:=[],bound:=0 } : Con)) s107 (RP.mono _ h0_3 l106) (rel_nil _ _ _) hx23) ?_
 rintro _ w110 ⟨rfl,hst⟩
 have hst:=k109 hst c0
 refine L_pick (v:=Bo b25) rfl rfl (congrArg Value.bool (so hb25)) (L_pick (v:=Bo b26) rfl rfl (congrArg Value.bool (so hb26)) (aB rfl (nn (rj hR27 ⟨rfl,(Star.keepN 0 hst)⟩))))
 rw [ite_f hc103] at hb26
 refine ps rfl (ps rfl (ps rfl (ps rfl (ps rfl (ps rfl (ps rfl (ps rfl (ps rfl (L_pick (v:=Bo b26) rfl rfl (congrArg Value.bool (so hb26)) (aB rfl (nn (rj hR27 ⟨rfl,(Star.keepN 0 hst)⟩))))))))))))
 refine ps rfl (ps rfl (ps rfl (ps rfl (ps rfl (ps rfl (ps rfl (ps rfl (ps rfl (ps rfl (L_pick (v:=Bo (((decide (x10.1 ≥ 0)) && (((decide (x10.1 > 0)) || (s.kind == 6)) || (s.a == 0))) && (((x10.1 == 2) || x10.2) || (s.b == 0)))) rfl rfl (and_f hc75) (mB rfl (L_split (d:=39) (b:=(((decide (x10.1 ≥ 0)) && (((decide (x10.1 > 0)) || (s.kind == 6)) || (s.a == 0))) && (((x10.1 == 2) || x10.2) || (s.b == 0)))) rfl (fun hc111=>?_) (fun hc111=>?_)))))))))))))
 rw [ite_t hc111] at hb26
 obtain ⟨b25,hb25,hb26⟩:=bind_some hb26
 refine fA 0 fa_56_0 rfl rfl (ldB 0 hst Tryz.isAgg3 rfl rfl rfl (L_eql rfl rfl rfl (mB rfl (L_split (d:=43) (b:=(s.kind == 7)) rfl (fun hc112=>?_) (fun hc112=>?_)))))
 rw [ite_t hc112] at hb25
 refine ps rfl (ps rfl (ps rfl (ps rfl (L_pick (v:=Bo b25) rfl rfl (congrArg Value.bool (so hb25)) (L_pick (v:=Bo b26) rfl rfl (congrArg Value.bool (so hb26)) (aB rfl (nn (rj hR27 ⟨rfl,(Star.keepN 0 hst)⟩))))))))
 rw [ite_f hc112] at hb25
 obtain ⟨x23,hx23,hb25⟩:=bind_some hb25
 refine fA 3 fa_56_3 rfl rfl (L_lda (cs:=[v0_3,I s.given.bound]) rfl Tryz.isAgg46 Tryz.sizeOf46 rfl (At.sub0 (Blk.at (Star.blkAt 0 hst rfl)) 3 2) rfl (L_bld rfl (parts0 ) (bld_46_  ) ?_))
 obtain ⟨H113b,l114,s115,z116,k117⟩:=hst.borrow
 refine L_call rfl Tryz.call24 (ops2 rfl rfl) (i_ConstraintSame_c (a:=s.given) (b:=({ terms:=[],bound:=0 } : Con)) s115 (RP.mono _ h0_3 l114) (rel_nil _ _ _) hx23) ?_
 rintro _ w118 ⟨rfl,hst⟩
 have hst:=k117 hst c0
 refine L_pick (v:=Bo b25) rfl rfl (congrArg Value.bool (so hb25)) (L_pick (v:=Bo b26) rfl rfl (congrArg Value.bool (so hb26)) (aB rfl (nn (rj hR27 ⟨rfl,(Star.keepN 0 hst)⟩))))
 rw [ite_f hc111] at hb26
 refine ps rfl (ps rfl (ps rfl (ps rfl (ps rfl (ps rfl (ps rfl (ps rfl (ps rfl (L_pick (v:=Bo b26) rfl rfl (congrArg Value.bool (so hb26)) (aB rfl (nn (rj hR27 ⟨rfl,(Star.keepN 0 hst)⟩))))))))))))
 refine fA 0 fa_56_0 rfl rfl (ldB 0 hst Tryz.isAgg3 rfl rfl rfl (L_eql rfl rfl rfl (L_pick (v:=Bo ((decide (x10.1 > 0)) || (s.kind == 6))) rfl rfl (or_f hc29 rfl) (mB rfl (L_split (d:=21) (b:=((decide (x10.1 > 0)) || (s.kind == 6))) rfl (fun hc119=>?_) (fun hc119=>?_))))))
 refine ps rfl (ps rfl (ps rfl (L_pick (v:=Bo (((decide (x10.1 > 0)) || (s.kind == 6)) || (s.a == 0))) rfl rfl (or_t hc119) (L_pick (v:=Bo ((decide (x10.1 ≥ 0)) && (((decide (x10.1 > 0)) || (s.kind == 6)) || (s.a == 0)))) rfl rfl (and_t hc28 rfl) (mB rfl (L_split (d:=27) (b:=((decide (x10.1 ≥ 0)) && (((decide (x10.1 > 0)) || (s.kind == 6)) || (s.a == 0)))) rfl (fun hc120=>?_) (fun hc120=>?_)))))))
 refine mI rfl (L_eql rfl rfl rfl (mB rfl (L_split (d:=30) (b:=(x10.1 == 2)) rfl (fun hc121=>?_) (fun hc121=>?_))))
 refine ps rfl (L_pick (v:=Bo ((x10.1 == 2) || x10.2)) rfl rfl (or_t hc121) (mB rfl (L_split (d:=33) (b:=((x10.1 == 2) || x10.2)) rfl (fun hc122=>?_) (fun hc122=>?_))))
 refine ps rfl (ps rfl (ps rfl (L_pick (v:=Bo (((x10.1 == 2) || x10.2) || (s.b == 0))) rfl rfl (or_t hc122) (L_pick (v:=Bo (((decide (x10.1 ≥ 0)) && (((decide (x10.1 > 0)) || (s.kind == 6)) || (s.a == 0))) && (((x10.1 == 2) || x10.2) || (s.b == 0)))) rfl rfl (and_t hc120 rfl) (mB rfl (L_split (d:=39) (b:=(((decide (x10.1 ≥ 0)) && (((decide (x10.1 > 0)) || (s.kind == 6)) || (s.a == 0))) && (((x10.1 == 2) || x10.2) || (s.b == 0)))) rfl (fun hc123=>?_) (fun hc123=>?_)))))))
 rw [ite_t hc123] at hb26
 obtain ⟨b25,hb25,hb26⟩:=bind_some hb26
 refine fA 0 fa_56_0 rfl rfl (ldB 0 hst Tryz.isAgg3 rfl rfl rfl (L_eql rfl rfl rfl (mB rfl (L_split (d:=43) (b:=(s.kind == 7)) rfl (fun hc124=>?_) (fun hc124=>?_)))))
 rw [ite_t hc124] at hb25
 refine ps rfl (ps rfl (ps rfl (ps rfl (L_pick (v:=Bo b25) rfl rfl (congrArg Value.bool (so hb25)) (L_pick (v:=Bo b26) rfl rfl (congrArg Value.bool (so hb26)) (aB rfl (nn (rj hR27 ⟨rfl,(Star.keepN 0 hst)⟩))))))))
 rw [ite_f hc124] at hb25
 obtain ⟨x23,hx23,hb25⟩:=bind_some hb25
 refine fA 3 fa_56_3 rfl rfl (L_lda (cs:=[v0_3,I s.given.bound]) rfl Tryz.isAgg46 Tryz.sizeOf46 rfl (At.sub0 (Blk.at (Star.blkAt 0 hst rfl)) 3 2) rfl (L_bld rfl (parts0 ) (bld_46_  ) ?_))
 obtain ⟨H125b,l126,s127,z128,k129⟩:=hst.borrow
 refine L_call rfl Tryz.call24 (ops2 rfl rfl) (i_ConstraintSame_c (a:=s.given) (b:=({ terms:=[],bound:=0 } : Con)) s127 (RP.mono _ h0_3 l126) (rel_nil _ _ _) hx23) ?_
 rintro _ w130 ⟨rfl,hst⟩
 have hst:=k129 hst c0
 refine L_pick (v:=Bo b25) rfl rfl (congrArg Value.bool (so hb25)) (L_pick (v:=Bo b26) rfl rfl (congrArg Value.bool (so hb26)) (aB rfl (nn (rj hR27 ⟨rfl,(Star.keepN 0 hst)⟩))))
 rw [ite_f hc123] at hb26
 refine ps rfl (ps rfl (ps rfl (ps rfl (ps rfl (ps rfl (ps rfl (ps rfl (ps rfl (L_pick (v:=Bo b26) rfl rfl (congrArg Value.bool (so hb26)) (aB rfl (nn (rj hR27 ⟨rfl,(Star.keepN 0 hst)⟩))))))))))))
 refine fA 2 fa_56_2 rfl rfl (ldB 0 hst Tryz.isAgg3 rfl rfl rfl (L_eql rfl rfl rfl (L_pick (v:=Bo (((x10.1 == 2) || x10.2) || (s.b == 0))) rfl rfl (or_f hc122 rfl) (L_pick (v:=Bo (((decide (x10.1 ≥ 0)) && (((decide (x10.1 > 0)) || (s.kind == 6)) || (s.a == 0))) && (((x10.1 == 2) || x10.2) || (s.b == 0)))) rfl rfl (and_t hc120 rfl) (mB rfl (L_split (d:=39) (b:=(((decide (x10.1 ≥ 0)) && (((decide (x10.1 > 0)) || (s.kind == 6)) || (s.a == 0))) && (((x10.1 == 2) || x10.2) || (s.b == 0)))) rfl (fun hc131=>?_) (fun hc131=>?_)))))))
 rw [ite_t hc131] at hb26
 obtain ⟨b25,hb25,hb26⟩:=bind_some hb26
 refine fA 0 fa_56_0 rfl rfl (ldB 0 hst Tryz.isAgg3 rfl rfl rfl (L_eql rfl rfl rfl (mB rfl (L_split (d:=43) (b:=(s.kind == 7)) rfl (fun hc132=>?_) (fun hc132=>?_)))))
 rw [ite_t hc132] at hb25
 refine ps rfl (ps rfl (ps rfl (ps rfl (L_pick (v:=Bo b25) rfl rfl (congrArg Value.bool (so hb25)) (L_pick (v:=Bo b26) rfl rfl (congrArg Value.bool (so hb26)) (aB rfl (nn (rj hR27 ⟨rfl,(Star.keepN 0 hst)⟩))))))))
 rw [ite_f hc132] at hb25
 obtain ⟨x23,hx23,hb25⟩:=bind_some hb25
 refine fA 3 fa_56_3 rfl rfl (L_lda (cs:=[v0_3,I s.given.bound]) rfl Tryz.isAgg46 Tryz.sizeOf46 rfl (At.sub0 (Blk.at (Star.blkAt 0 hst rfl)) 3 2) rfl (L_bld rfl (parts0 ) (bld_46_  ) ?_))
 obtain ⟨H133b,l134,s135,z136,k137⟩:=hst.borrow
 refine L_call rfl Tryz.call24 (ops2 rfl rfl) (i_ConstraintSame_c (a:=s.given) (b:=({ terms:=[],bound:=0 } : Con)) s135 (RP.mono _ h0_3 l134) (rel_nil _ _ _) hx23) ?_
 rintro _ w138 ⟨rfl,hst⟩
 have hst:=k137 hst c0
 refine L_pick (v:=Bo b25) rfl rfl (congrArg Value.bool (so hb25)) (L_pick (v:=Bo b26) rfl rfl (congrArg Value.bool (so hb26)) (aB rfl (nn (rj hR27 ⟨rfl,(Star.keepN 0 hst)⟩))))
 rw [ite_f hc131] at hb26
 refine ps rfl (ps rfl (ps rfl (ps rfl (ps rfl (ps rfl (ps rfl (ps rfl (ps rfl (L_pick (v:=Bo b26) rfl rfl (congrArg Value.bool (so hb26)) (aB rfl (nn (rj hR27 ⟨rfl,(Star.keepN 0 hst)⟩))))))))))))
 refine mB rfl (L_pick (v:=Bo ((x10.1 == 2) || x10.2)) rfl rfl (or_f hc121 rfl) (mB rfl (L_split (d:=33) (b:=((x10.1 == 2) || x10.2)) rfl (fun hc139=>?_) (fun hc139=>?_))))
 refine ps rfl (ps rfl (ps rfl (L_pick (v:=Bo (((x10.1 == 2) || x10.2) || (s.b == 0))) rfl rfl (or_t hc139) (L_pick (v:=Bo (((decide (x10.1 ≥ 0)) && (((decide (x10.1 > 0)) || (s.kind == 6)) || (s.a == 0))) && (((x10.1 == 2) || x10.2) || (s.b == 0)))) rfl rfl (and_t hc120 rfl) (mB rfl (L_split (d:=39) (b:=(((decide (x10.1 ≥ 0)) && (((decide (x10.1 > 0)) || (s.kind == 6)) || (s.a == 0))) && (((x10.1 == 2) || x10.2) || (s.b == 0)))) rfl (fun hc140=>?_) (fun hc140=>?_)))))))
 rw [ite_t hc140] at hb26
 obtain ⟨b25,hb25,hb26⟩:=bind_some hb26
 refine fA 0 fa_56_0 rfl rfl (ldB 0 hst Tryz.isAgg3 rfl rfl rfl (L_eql rfl rfl rfl (mB rfl (L_split (d:=43) (b:=(s.kind == 7)) rfl (fun hc141=>?_) (fun hc141=>?_)))))
 rw [ite_t hc141] at hb25
 refine ps rfl (ps rfl (ps rfl (ps rfl (L_pick (v:=Bo b25) rfl rfl (congrArg Value.bool (so hb25)) (L_pick (v:=Bo b26) rfl rfl (congrArg Value.bool (so hb26)) (aB rfl (nn (rj hR27 ⟨rfl,(Star.keepN 0 hst)⟩))))))))
 rw [ite_f hc141] at hb25
 obtain ⟨x23,hx23,hb25⟩:=bind_some hb25
 refine fA 3 fa_56_3 rfl rfl (L_lda (cs:=[v0_3,I s.given.bound]) rfl Tryz.isAgg46 Tryz.sizeOf46 rfl (At.sub0 (Blk.at (Star.blkAt 0 hst rfl)) 3 2) rfl (L_bld rfl (parts0 ) (bld_46_  ) ?_))
 obtain ⟨H142b,l143,s144,z145,k146⟩:=hst.borrow
 refine L_call rfl Tryz.call24 (ops2 rfl rfl) (i_ConstraintSame_c (a:=s.given) (b:=({ terms:=[],bound:=0 } : Con)) s144 (RP.mono _ h0_3 l143) (rel_nil _ _ _) hx23) ?_
 rintro _ w147 ⟨rfl,hst⟩
 have hst:=k146 hst c0
 refine L_pick (v:=Bo b25) rfl rfl (congrArg Value.bool (so hb25)) (L_pick (v:=Bo b26) rfl rfl (congrArg Value.bool (so hb26)) (aB rfl (nn (rj hR27 ⟨rfl,(Star.keepN 0 hst)⟩))))
 rw [ite_f hc140] at hb26
 refine ps rfl (ps rfl (ps rfl (ps rfl (ps rfl (ps rfl (ps rfl (ps rfl (ps rfl (L_pick (v:=Bo b26) rfl rfl (congrArg Value.bool (so hb26)) (aB rfl (nn (rj hR27 ⟨rfl,(Star.keepN 0 hst)⟩))))))))))))
 refine fA 2 fa_56_2 rfl rfl (ldB 0 hst Tryz.isAgg3 rfl rfl rfl (L_eql rfl rfl rfl (L_pick (v:=Bo (((x10.1 == 2) || x10.2) || (s.b == 0))) rfl rfl (or_f hc139 rfl) (L_pick (v:=Bo (((decide (x10.1 ≥ 0)) && (((decide (x10.1 > 0)) || (s.kind == 6)) || (s.a == 0))) && (((x10.1 == 2) || x10.2) || (s.b == 0)))) rfl rfl (and_t hc120 rfl) (mB rfl (L_split (d:=39) (b:=(((decide (x10.1 ≥ 0)) && (((decide (x10.1 > 0)) || (s.kind == 6)) || (s.a == 0))) && (((x10.1 == 2) || x10.2) || (s.b == 0)))) rfl (fun hc148=>?_) (fun hc148=>?_)))))))
 rw [ite_t hc148] at hb26
 obtain ⟨b25,hb25,hb26⟩:=bind_some hb26
 refine fA 0 fa_56_0 rfl rfl (ldB 0 hst Tryz.isAgg3 rfl rfl rfl (L_eql rfl rfl rfl (mB rfl (L_split (d:=43) (b:=(s.kind == 7)) rfl (fun hc149=>?_) (fun hc149=>?_)))))
 rw [ite_t hc149] at hb25
 refine ps rfl (ps rfl (ps rfl (ps rfl (L_pick (v:=Bo b25) rfl rfl (congrArg Value.bool (so hb25)) (L_pick (v:=Bo b26) rfl rfl (congrArg Value.bool (so hb26)) (aB rfl (nn (rj hR27 ⟨rfl,(Star.keepN 0 hst)⟩))))))))
 rw [ite_f hc149] at hb25
 obtain ⟨x23,hx23,hb25⟩:=bind_some hb25
 refine fA 3 fa_56_3 rfl rfl (L_lda (cs:=[v0_3,I s.given.bound]) rfl Tryz.isAgg46 Tryz.sizeOf46 rfl (At.sub0 (Blk.at (Star.blkAt 0 hst rfl)) 3 2) rfl (L_bld rfl (parts0 ) (bld_46_  ) ?_))
 obtain ⟨H150b,l151,s152,z153,k154⟩:=hst.borrow
 refine L_call rfl Tryz.call24 (ops2 rfl rfl) (i_ConstraintSame_c (a:=s.given) (b:=({ terms:=[],bound:=0 } : Con)) s152 (RP.mono _ h0_3 l151) (rel_nil _ _ _) hx23) ?_
 rintro _ w155 ⟨rfl,hst⟩
 have hst:=k154 hst c0
 refine L_pick (v:=Bo b25) rfl rfl (congrArg Value.bool (so hb25)) (L_pick (v:=Bo b26) rfl rfl (congrArg Value.bool (so hb26)) (aB rfl (nn (rj hR27 ⟨rfl,(Star.keepN 0 hst)⟩))))
 rw [ite_f hc148] at hb26
 refine ps rfl (ps rfl (ps rfl (ps rfl (ps rfl (ps rfl (ps rfl (ps rfl (ps rfl (L_pick (v:=Bo b26) rfl rfl (congrArg Value.bool (so hb26)) (aB rfl (nn (rj hR27 ⟨rfl,(Star.keepN 0 hst)⟩))))))))))))
 refine ps rfl (ps rfl (ps rfl (ps rfl (ps rfl (ps rfl (ps rfl (ps rfl (ps rfl (ps rfl (L_pick (v:=Bo (((decide (x10.1 ≥ 0)) && (((decide (x10.1 > 0)) || (s.kind == 6)) || (s.a == 0))) && (((x10.1 == 2) || x10.2) || (s.b == 0)))) rfl rfl (and_f hc120) (mB rfl (L_split (d:=39) (b:=(((decide (x10.1 ≥ 0)) && (((decide (x10.1 > 0)) || (s.kind == 6)) || (s.a == 0))) && (((x10.1 == 2) || x10.2) || (s.b == 0)))) rfl (fun hc156=>?_) (fun hc156=>?_)))))))))))))
 rw [ite_t hc156] at hb26
 obtain ⟨b25,hb25,hb26⟩:=bind_some hb26
 refine fA 0 fa_56_0 rfl rfl (ldB 0 hst Tryz.isAgg3 rfl rfl rfl (L_eql rfl rfl rfl (mB rfl (L_split (d:=43) (b:=(s.kind == 7)) rfl (fun hc157=>?_) (fun hc157=>?_)))))
 rw [ite_t hc157] at hb25
 refine ps rfl (ps rfl (ps rfl (ps rfl (L_pick (v:=Bo b25) rfl rfl (congrArg Value.bool (so hb25)) (L_pick (v:=Bo b26) rfl rfl (congrArg Value.bool (so hb26)) (aB rfl (nn (rj hR27 ⟨rfl,(Star.keepN 0 hst)⟩))))))))
 rw [ite_f hc157] at hb25
 obtain ⟨x23,hx23,hb25⟩:=bind_some hb25
 refine fA 3 fa_56_3 rfl rfl (L_lda (cs:=[v0_3,I s.given.bound]) rfl Tryz.isAgg46 Tryz.sizeOf46 rfl (At.sub0 (Blk.at (Star.blkAt 0 hst rfl)) 3 2) rfl (L_bld rfl (parts0 ) (bld_46_  ) ?_))
 obtain ⟨H158b,l159,s160,z161,k162⟩:=hst.borrow
 refine L_call rfl Tryz.call24 (ops2 rfl rfl) (i_ConstraintSame_c (a:=s.given) (b:=({ terms:=[],bound:=0 } : Con)) s160 (RP.mono _ h0_3 l159) (rel_nil _ _ _) hx23) ?_
 rintro _ w163 ⟨rfl,hst⟩
 have hst:=k162 hst c0
 refine L_pick (v:=Bo b25) rfl rfl (congrArg Value.bool (so hb25)) (L_pick (v:=Bo b26) rfl rfl (congrArg Value.bool (so hb26)) (aB rfl (nn (rj hR27 ⟨rfl,(Star.keepN 0 hst)⟩))))
 rw [ite_f hc156] at hb26
 refine ps rfl (ps rfl (ps rfl (ps rfl (ps rfl (ps rfl (ps rfl (ps rfl (ps rfl (L_pick (v:=Bo b26) rfl rfl (congrArg Value.bool (so hb26)) (aB rfl (nn (rj hR27 ⟨rfl,(Star.keepN 0 hst)⟩))))))))))))
 refine fA 1 fa_56_1 rfl rfl (ldB 0 hst Tryz.isAgg3 rfl rfl rfl (L_eql rfl rfl rfl (L_pick (v:=Bo (((decide (x10.1 > 0)) || (s.kind == 6)) || (s.a == 0))) rfl rfl (or_f hc119 rfl) (L_pick (v:=Bo ((decide (x10.1 ≥ 0)) && (((decide (x10.1 > 0)) || (s.kind == 6)) || (s.a == 0)))) rfl rfl (and_t hc28 rfl) (mB rfl (L_split (d:=27) (b:=((decide (x10.1 ≥ 0)) && (((decide (x10.1 > 0)) || (s.kind == 6)) || (s.a == 0)))) rfl (fun hc164=>?_) (fun hc164=>?_)))))))
 refine mI rfl (L_eql rfl rfl rfl (mB rfl (L_split (d:=30) (b:=(x10.1 == 2)) rfl (fun hc165=>?_) (fun hc165=>?_))))
 refine ps rfl (L_pick (v:=Bo ((x10.1 == 2) || x10.2)) rfl rfl (or_t hc165) (mB rfl (L_split (d:=33) (b:=((x10.1 == 2) || x10.2)) rfl (fun hc166=>?_) (fun hc166=>?_))))
 refine ps rfl (ps rfl (ps rfl (L_pick (v:=Bo (((x10.1 == 2) || x10.2) || (s.b == 0))) rfl rfl (or_t hc166) (L_pick (v:=Bo (((decide (x10.1 ≥ 0)) && (((decide (x10.1 > 0)) || (s.kind == 6)) || (s.a == 0))) && (((x10.1 == 2) || x10.2) || (s.b == 0)))) rfl rfl (and_t hc164 rfl) (mB rfl (L_split (d:=39) (b:=(((decide (x10.1 ≥ 0)) && (((decide (x10.1 > 0)) || (s.kind == 6)) || (s.a == 0))) && (((x10.1 == 2) || x10.2) || (s.b == 0)))) rfl (fun hc167=>?_) (fun hc167=>?_)))))))
 rw [ite_t hc167] at hb26
 obtain ⟨b25,hb25,hb26⟩:=bind_some hb26
 refine fA 0 fa_56_0 rfl rfl (ldB 0 hst Tryz.isAgg3 rfl rfl rfl (L_eql rfl rfl rfl (mB rfl (L_split (d:=43) (b:=(s.kind == 7)) rfl (fun hc168=>?_) (fun hc168=>?_)))))
 rw [ite_t hc168] at hb25
 refine ps rfl (ps rfl (ps rfl (ps rfl (L_pick (v:=Bo b25) rfl rfl (congrArg Value.bool (so hb25)) (L_pick (v:=Bo b26) rfl rfl (congrArg Value.bool (so hb26)) (aB rfl (nn (rj hR27 ⟨rfl,(Star.keepN 0 hst)⟩))))))))
 rw [ite_f hc168] at hb25
 obtain ⟨x23,hx23,hb25⟩:=bind_some hb25
 refine fA 3 fa_56_3 rfl rfl (L_lda (cs:=[v0_3,I s.given.bound]) rfl Tryz.isAgg46 Tryz.sizeOf46 rfl (At.sub0 (Blk.at (Star.blkAt 0 hst rfl)) 3 2) rfl (L_bld rfl (parts0 ) (bld_46_  ) ?_))
 obtain ⟨H169b,l170,s171,z172,k173⟩:=hst.borrow
 refine L_call rfl Tryz.call24 (ops2 rfl rfl) (i_ConstraintSame_c (a:=s.given) (b:=({ terms:=[],bound:=0 } : Con)) s171 (RP.mono _ h0_3 l170) (rel_nil _ _ _) hx23) ?_
 rintro _ w174 ⟨rfl,hst⟩
 have hst:=k173 hst c0
 refine L_pick (v:=Bo b25) rfl rfl (congrArg Value.bool (so hb25)) (L_pick (v:=Bo b26) rfl rfl (congrArg Value.bool (so hb26)) (aB rfl (nn (rj hR27 ⟨rfl,(Star.keepN 0 hst)⟩))))
 rw [ite_f hc167] at hb26
 refine ps rfl (ps rfl (ps rfl (ps rfl (ps rfl (ps rfl (ps rfl (ps rfl (ps rfl (L_pick (v:=Bo b26) rfl rfl (congrArg Value.bool (so hb26)) (aB rfl (nn (rj hR27 ⟨rfl,(Star.keepN 0 hst)⟩))))))))))))
 refine fA 2 fa_56_2 rfl rfl (ldB 0 hst Tryz.isAgg3 rfl rfl rfl (L_eql rfl rfl rfl (L_pick (v:=Bo (((x10.1 == 2) || x10.2) || (s.b == 0))) rfl rfl (or_f hc166 rfl) (L_pick (v:=Bo (((decide (x10.1 ≥ 0)) && (((decide (x10.1 > 0)) || (s.kind == 6)) || (s.a == 0))) && (((x10.1 == 2) || x10.2) || (s.b == 0)))) rfl rfl (and_t hc164 rfl) (mB rfl (L_split (d:=39) (b:=(((decide (x10.1 ≥ 0)) && (((decide (x10.1 > 0)) || (s.kind == 6)) || (s.a == 0))) && (((x10.1 == 2) || x10.2) || (s.b == 0)))) rfl (fun hc175=>?_) (fun hc175=>?_)))))))
 rw [ite_t hc175] at hb26
 obtain ⟨b25,hb25,hb26⟩:=bind_some hb26
 refine fA 0 fa_56_0 rfl rfl (ldB 0 hst Tryz.isAgg3 rfl rfl rfl (L_eql rfl rfl rfl (mB rfl (L_split (d:=43) (b:=(s.kind == 7)) rfl (fun hc176=>?_) (fun hc176=>?_)))))
 rw [ite_t hc176] at hb25
 refine ps rfl (ps rfl (ps rfl (ps rfl (L_pick (v:=Bo b25) rfl rfl (congrArg Value.bool (so hb25)) (L_pick (v:=Bo b26) rfl rfl (congrArg Value.bool (so hb26)) (aB rfl (nn (rj hR27 ⟨rfl,(Star.keepN 0 hst)⟩))))))))
 rw [ite_f hc176] at hb25
 obtain ⟨x23,hx23,hb25⟩:=bind_some hb25
 refine fA 3 fa_56_3 rfl rfl (L_lda (cs:=[v0_3,I s.given.bound]) rfl Tryz.isAgg46 Tryz.sizeOf46 rfl (At.sub0 (Blk.at (Star.blkAt 0 hst rfl)) 3 2) rfl (L_bld rfl (parts0 ) (bld_46_  ) ?_))
 obtain ⟨H177b,l178,s179,z180,k181⟩:=hst.borrow
 refine L_call rfl Tryz.call24 (ops2 rfl rfl) (i_ConstraintSame_c (a:=s.given) (b:=({ terms:=[],bound:=0 } : Con)) s179 (RP.mono _ h0_3 l178) (rel_nil _ _ _) hx23) ?_
 rintro _ w182 ⟨rfl,hst⟩
 have hst:=k181 hst c0
 refine L_pick (v:=Bo b25) rfl rfl (congrArg Value.bool (so hb25)) (L_pick (v:=Bo b26) rfl rfl (congrArg Value.bool (so hb26)) (aB rfl (nn (rj hR27 ⟨rfl,(Star.keepN 0 hst)⟩))))
 rw [ite_f hc175] at hb26
 refine ps rfl (ps rfl (ps rfl (ps rfl (ps rfl (ps rfl (ps rfl (ps rfl (ps rfl (L_pick (v:=Bo b26) rfl rfl (congrArg Value.bool (so hb26)) (aB rfl (nn (rj hR27 ⟨rfl,(Star.keepN 0 hst)⟩))))))))))))
 refine mB rfl (L_pick (v:=Bo ((x10.1 == 2) || x10.2)) rfl rfl (or_f hc165 rfl) (mB rfl (L_split (d:=33) (b:=((x10.1 == 2) || x10.2)) rfl (fun hc183=>?_) (fun hc183=>?_))))
 refine ps rfl (ps rfl (ps rfl (L_pick (v:=Bo (((x10.1 == 2) || x10.2) || (s.b == 0))) rfl rfl (or_t hc183) (L_pick (v:=Bo (((decide (x10.1 ≥ 0)) && (((decide (x10.1 > 0)) || (s.kind == 6)) || (s.a == 0))) && (((x10.1 == 2) || x10.2) || (s.b == 0)))) rfl rfl (and_t hc164 rfl) (mB rfl (L_split (d:=39) (b:=(((decide (x10.1 ≥ 0)) && (((decide (x10.1 > 0)) || (s.kind == 6)) || (s.a == 0))) && (((x10.1 == 2) || x10.2) || (s.b == 0)))) rfl (fun hc184=>?_) (fun hc184=>?_)))))))
 rw [ite_t hc184] at hb26
 obtain ⟨b25,hb25,hb26⟩:=bind_some hb26
 refine fA 0 fa_56_0 rfl rfl (ldB 0 hst Tryz.isAgg3 rfl rfl rfl (L_eql rfl rfl rfl (mB rfl (L_split (d:=43) (b:=(s.kind == 7)) rfl (fun hc185=>?_) (fun hc185=>?_)))))
 rw [ite_t hc185] at hb25
 refine ps rfl (ps rfl (ps rfl (ps rfl (L_pick (v:=Bo b25) rfl rfl (congrArg Value.bool (so hb25)) (L_pick (v:=Bo b26) rfl rfl (congrArg Value.bool (so hb26)) (aB rfl (nn (rj hR27 ⟨rfl,(Star.keepN 0 hst)⟩))))))))
 rw [ite_f hc185] at hb25
 obtain ⟨x23,hx23,hb25⟩:=bind_some hb25
 refine fA 3 fa_56_3 rfl rfl (L_lda (cs:=[v0_3,I s.given.bound]) rfl Tryz.isAgg46 Tryz.sizeOf46 rfl (At.sub0 (Blk.at (Star.blkAt 0 hst rfl)) 3 2) rfl (L_bld rfl (parts0 ) (bld_46_  ) ?_))
 obtain ⟨H186b,l187,s188,z189,k190⟩:=hst.borrow
 refine L_call rfl Tryz.call24 (ops2 rfl rfl) (i_ConstraintSame_c (a:=s.given) (b:=({ terms:=[],bound:=0 } : Con)) s188 (RP.mono _ h0_3 l187) (rel_nil _ _ _) hx23) ?_
 rintro _ w191 ⟨rfl,hst⟩
 have hst:=k190 hst c0
 refine L_pick (v:=Bo b25) rfl rfl (congrArg Value.bool (so hb25)) (L_pick (v:=Bo b26) rfl rfl (congrArg Value.bool (so hb26)) (aB rfl (nn (rj hR27 ⟨rfl,(Star.keepN 0 hst)⟩))))
 rw [ite_f hc184] at hb26
 refine ps rfl (ps rfl (ps rfl (ps rfl (ps rfl (ps rfl (ps rfl (ps rfl (ps rfl (L_pick (v:=Bo b26) rfl rfl (congrArg Value.bool (so hb26)) (aB rfl (nn (rj hR27 ⟨rfl,(Star.keepN 0 hst)⟩))))))))))))
 refine fA 2 fa_56_2 rfl rfl (ldB 0 hst Tryz.isAgg3 rfl rfl rfl (L_eql rfl rfl rfl (L_pick (v:=Bo (((x10.1 == 2) || x10.2) || (s.b == 0))) rfl rfl (or_f hc183 rfl) (L_pick (v:=Bo (((decide (x10.1 ≥ 0)) && (((decide (x10.1 > 0)) || (s.kind == 6)) || (s.a == 0))) && (((x10.1 == 2) || x10.2) || (s.b == 0)))) rfl rfl (and_t hc164 rfl) (mB rfl (L_split (d:=39) (b:=(((decide (x10.1 ≥ 0)) && (((decide (x10.1 > 0)) || (s.kind == 6)) || (s.a == 0))) && (((x10.1 == 2) || x10.2) || (s.b == 0)))) rfl (fun hc192=>?_) (fun hc192=>?_)))))))
 rw [ite_t hc192] at hb26
 obtain ⟨b25,hb25,hb26⟩:=bind_some hb26
 refine fA 0 fa_56_0 rfl rfl (ldB 0 hst Tryz.isAgg3 rfl rfl rfl (L_eql rfl rfl rfl (mB rfl (L_split (d:=43) (b:=(s.kind == 7)) rfl (fun hc193=>?_) (fun hc193=>?_)))))
 rw [ite_t hc193] at hb25
 refine ps rfl (ps rfl (ps rfl (ps rfl (L_pick (v:=Bo b25) rfl rfl (congrArg Value.bool (so hb25)) (L_pick (v:=Bo b26) rfl rfl (congrArg Value.bool (so hb26)) (aB rfl (nn (rj hR27 ⟨rfl,(Star.keepN 0 hst)⟩))))))))
 rw [ite_f hc193] at hb25
 obtain ⟨x23,hx23,hb25⟩:=bind_some hb25
 refine fA 3 fa_56_3 rfl rfl (L_lda (cs:=[v0_3,I s.given.bound]) rfl Tryz.isAgg46 Tryz.sizeOf46 rfl (At.sub0 (Blk.at (Star.blkAt 0 hst rfl)) 3 2) rfl (L_bld rfl (parts0 ) (bld_46_  ) ?_))
 obtain ⟨H194b,l195,s196,z197,k198⟩:=hst.borrow
 refine L_call rfl Tryz.call24 (ops2 rfl rfl) (i_ConstraintSame_c (a:=s.given) (b:=({ terms:=[],bound:=0 } : Con)) s196 (RP.mono _ h0_3 l195) (rel_nil _ _ _) hx23) ?_
 rintro _ w199 ⟨rfl,hst⟩
 have hst:=k198 hst c0
 refine L_pick (v:=Bo b25) rfl rfl (congrArg Value.bool (so hb25)) (L_pick (v:=Bo b26) rfl rfl (congrArg Value.bool (so hb26)) (aB rfl (nn (rj hR27 ⟨rfl,(Star.keepN 0 hst)⟩))))
 rw [ite_f hc192] at hb26
 refine ps rfl (ps rfl (ps rfl (ps rfl (ps rfl (ps rfl (ps rfl (ps rfl (ps rfl (L_pick (v:=Bo b26) rfl rfl (congrArg Value.bool (so hb26)) (aB rfl (nn (rj hR27 ⟨rfl,(Star.keepN 0 hst)⟩))))))))))))
 refine ps rfl (ps rfl (ps rfl (ps rfl (ps rfl (ps rfl (ps rfl (ps rfl (ps rfl (ps rfl (L_pick (v:=Bo (((decide (x10.1 ≥ 0)) && (((decide (x10.1 > 0)) || (s.kind == 6)) || (s.a == 0))) && (((x10.1 == 2) || x10.2) || (s.b == 0)))) rfl rfl (and_f hc164) (mB rfl (L_split (d:=39) (b:=(((decide (x10.1 ≥ 0)) && (((decide (x10.1 > 0)) || (s.kind == 6)) || (s.a == 0))) && (((x10.1 == 2) || x10.2) || (s.b == 0)))) rfl (fun hc200=>?_) (fun hc200=>?_)))))))))))))
 rw [ite_t hc200] at hb26
 obtain ⟨b25,hb25,hb26⟩:=bind_some hb26
 refine fA 0 fa_56_0 rfl rfl (ldB 0 hst Tryz.isAgg3 rfl rfl rfl (L_eql rfl rfl rfl (mB rfl (L_split (d:=43) (b:=(s.kind == 7)) rfl (fun hc201=>?_) (fun hc201=>?_)))))
 rw [ite_t hc201] at hb25
 refine ps rfl (ps rfl (ps rfl (ps rfl (L_pick (v:=Bo b25) rfl rfl (congrArg Value.bool (so hb25)) (L_pick (v:=Bo b26) rfl rfl (congrArg Value.bool (so hb26)) (aB rfl (nn (rj hR27 ⟨rfl,(Star.keepN 0 hst)⟩))))))))
 rw [ite_f hc201] at hb25
 obtain ⟨x23,hx23,hb25⟩:=bind_some hb25
 refine fA 3 fa_56_3 rfl rfl (L_lda (cs:=[v0_3,I s.given.bound]) rfl Tryz.isAgg46 Tryz.sizeOf46 rfl (At.sub0 (Blk.at (Star.blkAt 0 hst rfl)) 3 2) rfl (L_bld rfl (parts0 ) (bld_46_  ) ?_))
 obtain ⟨H202b,l203,s204,z205,k206⟩:=hst.borrow
 refine L_call rfl Tryz.call24 (ops2 rfl rfl) (i_ConstraintSame_c (a:=s.given) (b:=({ terms:=[],bound:=0 } : Con)) s204 (RP.mono _ h0_3 l203) (rel_nil _ _ _) hx23) ?_
 rintro _ w207 ⟨rfl,hst⟩
 have hst:=k206 hst c0
 refine L_pick (v:=Bo b25) rfl rfl (congrArg Value.bool (so hb25)) (L_pick (v:=Bo b26) rfl rfl (congrArg Value.bool (so hb26)) (aB rfl (nn (rj hR27 ⟨rfl,(Star.keepN 0 hst)⟩))))
 rw [ite_f hc200] at hb26
 refine ps rfl (ps rfl (ps rfl (ps rfl (ps rfl (ps rfl (ps rfl (ps rfl (ps rfl (L_pick (v:=Bo b26) rfl rfl (congrArg Value.bool (so hb26)) (aB rfl (nn (rj hR27 ⟨rfl,(Star.keepN 0 hst)⟩))))))))))))
 refine ps rfl (ps rfl (ps rfl (ps rfl (ps rfl (ps rfl (ps rfl (ps rfl (ps rfl (ps rfl (ps rfl (ps rfl (L_pick (v:=Bo ((decide (x10.1 ≥ 0)) && (((decide (x10.1 > 0)) || (s.kind == 6)) || (s.a == 0)))) rfl rfl (and_f hc28) (mB rfl (L_split (d:=27) (b:=((decide (x10.1 ≥ 0)) && (((decide (x10.1 > 0)) || (s.kind == 6)) || (s.a == 0)))) rfl (fun hc208=>?_) (fun hc208=>?_)))))))))))))))
 refine mI rfl (L_eql rfl rfl rfl (mB rfl (L_split (d:=30) (b:=(x10.1 == 2)) rfl (fun hc209=>?_) (fun hc209=>?_))))
 refine ps rfl (L_pick (v:=Bo ((x10.1 == 2) || x10.2)) rfl rfl (or_t hc209) (mB rfl (L_split (d:=33) (b:=((x10.1 == 2) || x10.2)) rfl (fun hc210=>?_) (fun hc210=>?_))))
 refine ps rfl (ps rfl (ps rfl (L_pick (v:=Bo (((x10.1 == 2) || x10.2) || (s.b == 0))) rfl rfl (or_t hc210) (L_pick (v:=Bo (((decide (x10.1 ≥ 0)) && (((decide (x10.1 > 0)) || (s.kind == 6)) || (s.a == 0))) && (((x10.1 == 2) || x10.2) || (s.b == 0)))) rfl rfl (and_t hc208 rfl) (mB rfl (L_split (d:=39) (b:=(((decide (x10.1 ≥ 0)) && (((decide (x10.1 > 0)) || (s.kind == 6)) || (s.a == 0))) && (((x10.1 == 2) || x10.2) || (s.b == 0)))) rfl (fun hc211=>?_) (fun hc211=>?_)))))))
 rw [ite_t hc211] at hb26
 obtain ⟨b25,hb25,hb26⟩:=bind_some hb26
 refine fA 0 fa_56_0 rfl rfl (ldB 0 hst Tryz.isAgg3 rfl rfl rfl (L_eql rfl rfl rfl (mB rfl (L_split (d:=43) (b:=(s.kind == 7)) rfl (fun hc212=>?_) (fun hc212=>?_)))))
 rw [ite_t hc212] at hb25
 refine ps rfl (ps rfl (ps rfl (ps rfl (L_pick (v:=Bo b25) rfl rfl (congrArg Value.bool (so hb25)) (L_pick (v:=Bo b26) rfl rfl (congrArg Value.bool (so hb26)) (aB rfl (nn (rj hR27 ⟨rfl,(Star.keepN 0 hst)⟩))))))))
 rw [ite_f hc212] at hb25
 obtain ⟨x23,hx23,hb25⟩:=bind_some hb25
 refine fA 3 fa_56_3 rfl rfl (L_lda (cs:=[v0_3,I s.given.bound]) rfl Tryz.isAgg46 Tryz.sizeOf46 rfl (At.sub0 (Blk.at (Star.blkAt 0 hst rfl)) 3 2) rfl (L_bld rfl (parts0 ) (bld_46_  ) ?_))
 obtain ⟨H213b,l214,s215,z216,k217⟩:=hst.borrow
 refine L_call rfl Tryz.call24 (ops2 rfl rfl) (i_ConstraintSame_c (a:=s.given) (b:=({ terms:=[],bound:=0 } : Con)) s215 (RP.mono _ h0_3 l214) (rel_nil _ _ _) hx23) ?_
 rintro _ w218 ⟨rfl,hst⟩
 have hst:=k217 hst c0
 refine L_pick (v:=Bo b25) rfl rfl (congrArg Value.bool (so hb25)) (L_pick (v:=Bo b26) rfl rfl (congrArg Value.bool (so hb26)) (aB rfl (nn (rj hR27 ⟨rfl,(Star.keepN 0 hst)⟩))))
 rw [ite_f hc211] at hb26
 refine ps rfl (ps rfl (ps rfl (ps rfl (ps rfl (ps rfl (ps rfl (ps rfl (ps rfl (L_pick (v:=Bo b26) rfl rfl (congrArg Value.bool (so hb26)) (aB rfl (nn (rj hR27 ⟨rfl,(Star.keepN 0 hst)⟩))))))))))))
 refine fA 2 fa_56_2 rfl rfl (ldB 0 hst Tryz.isAgg3 rfl rfl rfl (L_eql rfl rfl rfl (L_pick (v:=Bo (((x10.1 == 2) || x10.2) || (s.b == 0))) rfl rfl (or_f hc210 rfl) (L_pick (v:=Bo (((decide (x10.1 ≥ 0)) && (((decide (x10.1 > 0)) || (s.kind == 6)) || (s.a == 0))) && (((x10.1 == 2) || x10.2) || (s.b == 0)))) rfl rfl (and_t hc208 rfl) (mB rfl (L_split (d:=39) (b:=(((decide (x10.1 ≥ 0)) && (((decide (x10.1 > 0)) || (s.kind == 6)) || (s.a == 0))) && (((x10.1 == 2) || x10.2) || (s.b == 0)))) rfl (fun hc219=>?_) (fun hc219=>?_)))))))
 rw [ite_t hc219] at hb26
 obtain ⟨b25,hb25,hb26⟩:=bind_some hb26
 refine fA 0 fa_56_0 rfl rfl (ldB 0 hst Tryz.isAgg3 rfl rfl rfl (L_eql rfl rfl rfl (mB rfl (L_split (d:=43) (b:=(s.kind == 7)) rfl (fun hc220=>?_) (fun hc220=>?_)))))
 rw [ite_t hc220] at hb25
 refine ps rfl (ps rfl (ps rfl (ps rfl (L_pick (v:=Bo b25) rfl rfl (congrArg Value.bool (so hb25)) (L_pick (v:=Bo b26) rfl rfl (congrArg Value.bool (so hb26)) (aB rfl (nn (rj hR27 ⟨rfl,(Star.keepN 0 hst)⟩))))))))
 rw [ite_f hc220] at hb25
 obtain ⟨x23,hx23,hb25⟩:=bind_some hb25
 refine fA 3 fa_56_3 rfl rfl (L_lda (cs:=[v0_3,I s.given.bound]) rfl Tryz.isAgg46 Tryz.sizeOf46 rfl (At.sub0 (Blk.at (Star.blkAt 0 hst rfl)) 3 2) rfl (L_bld rfl (parts0 ) (bld_46_  ) ?_))
 obtain ⟨H221b,l222,s223,z224,k225⟩:=hst.borrow
 refine L_call rfl Tryz.call24 (ops2 rfl rfl) (i_ConstraintSame_c (a:=s.given) (b:=({ terms:=[],bound:=0 } : Con)) s223 (RP.mono _ h0_3 l222) (rel_nil _ _ _) hx23) ?_
 rintro _ w226 ⟨rfl,hst⟩
 have hst:=k225 hst c0
 refine L_pick (v:=Bo b25) rfl rfl (congrArg Value.bool (so hb25)) (L_pick (v:=Bo b26) rfl rfl (congrArg Value.bool (so hb26)) (aB rfl (nn (rj hR27 ⟨rfl,(Star.keepN 0 hst)⟩))))
 rw [ite_f hc219] at hb26
 refine ps rfl (ps rfl (ps rfl (ps rfl (ps rfl (ps rfl (ps rfl (ps rfl (ps rfl (L_pick (v:=Bo b26) rfl rfl (congrArg Value.bool (so hb26)) (aB rfl (nn (rj hR27 ⟨rfl,(Star.keepN 0 hst)⟩))))))))))))
 refine mB rfl (L_pick (v:=Bo ((x10.1 == 2) || x10.2)) rfl rfl (or_f hc209 rfl) (mB rfl (L_split (d:=33) (b:=((x10.1 == 2) || x10.2)) rfl (fun hc227=>?_) (fun hc227=>?_))))
 refine ps rfl (ps rfl (ps rfl (L_pick (v:=Bo (((x10.1 == 2) || x10.2) || (s.b == 0))) rfl rfl (or_t hc227) (L_pick (v:=Bo (((decide (x10.1 ≥ 0)) && (((decide (x10.1 > 0)) || (s.kind == 6)) || (s.a == 0))) && (((x10.1 == 2) || x10.2) || (s.b == 0)))) rfl rfl (and_t hc208 rfl) (mB rfl (L_split (d:=39) (b:=(((decide (x10.1 ≥ 0)) && (((decide (x10.1 > 0)) || (s.kind == 6)) || (s.a == 0))) && (((x10.1 == 2) || x10.2) || (s.b == 0)))) rfl (fun hc228=>?_) (fun hc228=>?_)))))))
 rw [ite_t hc228] at hb26
 obtain ⟨b25,hb25,hb26⟩:=bind_some hb26
 refine fA 0 fa_56_0 rfl rfl (ldB 0 hst Tryz.isAgg3 rfl rfl rfl (L_eql rfl rfl rfl (mB rfl (L_split (d:=43) (b:=(s.kind == 7)) rfl (fun hc229=>?_) (fun hc229=>?_)))))
 rw [ite_t hc229] at hb25
 refine ps rfl (ps rfl (ps rfl (ps rfl (L_pick (v:=Bo b25) rfl rfl (congrArg Value.bool (so hb25)) (L_pick (v:=Bo b26) rfl rfl (congrArg Value.bool (so hb26)) (aB rfl (nn (rj hR27 ⟨rfl,(Star.keepN 0 hst)⟩))))))))
 rw [ite_f hc229] at hb25
 obtain ⟨x23,hx23,hb25⟩:=bind_some hb25
 refine fA 3 fa_56_3 rfl rfl (L_lda (cs:=[v0_3,I s.given.bound]) rfl Tryz.isAgg46 Tryz.sizeOf46 rfl (At.sub0 (Blk.at (Star.blkAt 0 hst rfl)) 3 2) rfl (L_bld rfl (parts0 ) (bld_46_  ) ?_))
 obtain ⟨H230b,l231,s232,z233,k234⟩:=hst.borrow
 refine L_call rfl Tryz.call24 (ops2 rfl rfl) (i_ConstraintSame_c (a:=s.given) (b:=({ terms:=[],bound:=0 } : Con)) s232 (RP.mono _ h0_3 l231) (rel_nil _ _ _) hx23) ?_
 rintro _ w235 ⟨rfl,hst⟩
 have hst:=k234 hst c0
 refine L_pick (v:=Bo b25) rfl rfl (congrArg Value.bool (so hb25)) (L_pick (v:=Bo b26) rfl rfl (congrArg Value.bool (so hb26)) (aB rfl (nn (rj hR27 ⟨rfl,(Star.keepN 0 hst)⟩))))
 rw [ite_f hc228] at hb26
 refine ps rfl (ps rfl (ps rfl (ps rfl (ps rfl (ps rfl (ps rfl (ps rfl (ps rfl (L_pick (v:=Bo b26) rfl rfl (congrArg Value.bool (so hb26)) (aB rfl (nn (rj hR27 ⟨rfl,(Star.keepN 0 hst)⟩))))))))))))
 refine fA 2 fa_56_2 rfl rfl (ldB 0 hst Tryz.isAgg3 rfl rfl rfl (L_eql rfl rfl rfl (L_pick (v:=Bo (((x10.1 == 2) || x10.2) || (s.b == 0))) rfl rfl (or_f hc227 rfl) (L_pick (v:=Bo (((decide (x10.1 ≥ 0)) && (((decide (x10.1 > 0)) || (s.kind == 6)) || (s.a == 0))) && (((x10.1 == 2) || x10.2) || (s.b == 0)))) rfl rfl (and_t hc208 rfl) (mB rfl (L_split (d:=39) (b:=(((decide (x10.1 ≥ 0)) && (((decide (x10.1 > 0)) || (s.kind == 6)) || (s.a == 0))) && (((x10.1 == 2) || x10.2) || (s.b == 0)))) rfl (fun hc236=>?_) (fun hc236=>?_)))))))
 rw [ite_t hc236] at hb26
 obtain ⟨b25,hb25,hb26⟩:=bind_some hb26
 refine fA 0 fa_56_0 rfl rfl (ldB 0 hst Tryz.isAgg3 rfl rfl rfl (L_eql rfl rfl rfl (mB rfl (L_split (d:=43) (b:=(s.kind == 7)) rfl (fun hc237=>?_) (fun hc237=>?_)))))
 rw [ite_t hc237] at hb25
 refine ps rfl (ps rfl (ps rfl (ps rfl (L_pick (v:=Bo b25) rfl rfl (congrArg Value.bool (so hb25)) (L_pick (v:=Bo b26) rfl rfl (congrArg Value.bool (so hb26)) (aB rfl (nn (rj hR27 ⟨rfl,(Star.keepN 0 hst)⟩))))))))
 rw [ite_f hc237] at hb25
 obtain ⟨x23,hx23,hb25⟩:=bind_some hb25
 refine fA 3 fa_56_3 rfl rfl (L_lda (cs:=[v0_3,I s.given.bound]) rfl Tryz.isAgg46 Tryz.sizeOf46 rfl (At.sub0 (Blk.at (Star.blkAt 0 hst rfl)) 3 2) rfl (L_bld rfl (parts0 ) (bld_46_  ) ?_))
 obtain ⟨H238b,l239,s240,z241,k242⟩:=hst.borrow
 refine L_call rfl Tryz.call24 (ops2 rfl rfl) (i_ConstraintSame_c (a:=s.given) (b:=({ terms:=[],bound:=0 } : Con)) s240 (RP.mono _ h0_3 l239) (rel_nil _ _ _) hx23) ?_
 rintro _ w243 ⟨rfl,hst⟩
 have hst:=k242 hst c0
 refine L_pick (v:=Bo b25) rfl rfl (congrArg Value.bool (so hb25)) (L_pick (v:=Bo b26) rfl rfl (congrArg Value.bool (so hb26)) (aB rfl (nn (rj hR27 ⟨rfl,(Star.keepN 0 hst)⟩))))
 rw [ite_f hc236] at hb26
 refine ps rfl (ps rfl (ps rfl (ps rfl (ps rfl (ps rfl (ps rfl (ps rfl (ps rfl (L_pick (v:=Bo b26) rfl rfl (congrArg Value.bool (so hb26)) (aB rfl (nn (rj hR27 ⟨rfl,(Star.keepN 0 hst)⟩))))))))))))
 refine ps rfl (ps rfl (ps rfl (ps rfl (ps rfl (ps rfl (ps rfl (ps rfl (ps rfl (ps rfl (L_pick (v:=Bo (((decide (x10.1 ≥ 0)) && (((decide (x10.1 > 0)) || (s.kind == 6)) || (s.a == 0))) && (((x10.1 == 2) || x10.2) || (s.b == 0)))) rfl rfl (and_f hc208) (mB rfl (L_split (d:=39) (b:=(((decide (x10.1 ≥ 0)) && (((decide (x10.1 > 0)) || (s.kind == 6)) || (s.a == 0))) && (((x10.1 == 2) || x10.2) || (s.b == 0)))) rfl (fun hc244=>?_) (fun hc244=>?_)))))))))))))
 rw [ite_t hc244] at hb26
 obtain ⟨b25,hb25,hb26⟩:=bind_some hb26
 refine fA 0 fa_56_0 rfl rfl (ldB 0 hst Tryz.isAgg3 rfl rfl rfl (L_eql rfl rfl rfl (mB rfl (L_split (d:=43) (b:=(s.kind == 7)) rfl (fun hc245=>?_) (fun hc245=>?_)))))
 rw [ite_t hc245] at hb25
 refine ps rfl (ps rfl (ps rfl (ps rfl (L_pick (v:=Bo b25) rfl rfl (congrArg Value.bool (so hb25)) (L_pick (v:=Bo b26) rfl rfl (congrArg Value.bool (so hb26)) (aB rfl (nn (rj hR27 ⟨rfl,(Star.keepN 0 hst)⟩))))))))
 rw [ite_f hc245] at hb25
 obtain ⟨x23,hx23,hb25⟩:=bind_some hb25
 refine fA 3 fa_56_3 rfl rfl (L_lda (cs:=[v0_3,I s.given.bound]) rfl Tryz.isAgg46 Tryz.sizeOf46 rfl (At.sub0 (Blk.at (Star.blkAt 0 hst rfl)) 3 2) rfl (L_bld rfl (parts0 ) (bld_46_  ) ?_))
 obtain ⟨H246b,l247,s248,z249,k250⟩:=hst.borrow
 refine L_call rfl Tryz.call24 (ops2 rfl rfl) (i_ConstraintSame_c (a:=s.given) (b:=({ terms:=[],bound:=0 } : Con)) s248 (RP.mono _ h0_3 l247) (rel_nil _ _ _) hx23) ?_
 rintro _ w251 ⟨rfl,hst⟩
 have hst:=k250 hst c0
 refine L_pick (v:=Bo b25) rfl rfl (congrArg Value.bool (so hb25)) (L_pick (v:=Bo b26) rfl rfl (congrArg Value.bool (so hb26)) (aB rfl (nn (rj hR27 ⟨rfl,(Star.keepN 0 hst)⟩))))
 rw [ite_f hc244] at hb26
 refine ps rfl (ps rfl (ps rfl (ps rfl (ps rfl (ps rfl (ps rfl (ps rfl (ps rfl (L_pick (v:=Bo b26) rfl rfl (congrArg Value.bool (so hb26)) (aB rfl (nn (rj hR27 ⟨rfl,(Star.keepN 0 hst)⟩))))))))))))
 intro f w_ hR
 obtain ⟨sf2,hst⟩:=rk hR27 hR
 refine W_ret (retG1 (v1:=Bo b26) Tryz.results75 sf2 ?_)
 obtain rfl:=so hF
 exact ⟨rfl,hst⟩
theorem i_running_has_c {r_ : Db} {i : Int} {g_0 : Nat} {v0_0 : Value} {v0_1 : Value} {H : FH} {w : World} {R : List Ass} (hst : Star H w (box g_0 89 #[v0_0,v0_1] :: oF 46 (rCon 85) v0_0 r_.list :: oF 4 RP.bool v0_1 r_.gone :: R)) {r : Bool} (hF : i_running_has r_ i = some r) :
 C Tryz.prog 76 #[Pt g_0,I i] w fun v w'=>∃ H' : FH,Le H H'∧v = Bo r∧Star H' w' (box g_0 89 #[v0_0,v0_1] :: oF 46 (rCon 85) v0_0 r_.list :: oF 4 RP.bool v0_1 r_.gone :: R):=by
 unfold i_running_has at hF
 refine C_enter Tryz.func76 rfl Tryz.ntmps76 rfl (sq (aB rfl (nq ?_)))
 obtain ⟨x6,hx6,hF⟩:=bind_some hF
 obtain ⟨b13,hb13,hF⟩:=bind_some hF
 obtain ⟨R14,hR14⟩:=exR fun f w_=>f 4 = Bo b13∧Star H w_ (oF 46 (rCon 85) v0_0 r_.list :: oF 4 RP.bool v0_1 r_.gone :: box g_0 89 #[v0_0,v0_1] :: R)
 refine W_join R14 ?_ ?_
 refine W_region (mI rfl (mV (Pt g_0) rfl (L_nc rfl rfl (fA 0 fa_89_0 rfl rfl (ldB 0 hst Tryz.isAgg23 rfl rfl rfl (L_len rfl Tryz.underlying23 rfl (Star.len 1 hst rfl) (L_sub rfl rfl rfl ?_)))))))
 obtain ⟨H15b,l16,s17,z18,k19⟩:=hst.borrow
 refine L_call rfl Tryz.call34 (ops3 rfl rfl rfl) (i_within_c (n_:=i) (low:=0) (high:=i64 ((r_.list.length : Int) - 1)) s17 hx6) ?_
 rintro _ w20 ⟨rfl,hst⟩
 have hst:=k19 hst c0
 refine mB rfl (L_split (d:=13) (b:=x6) rfl (fun hc21=>?_) (fun hc21=>?_))
 rw [ite_t hc21] at hb13
 obtain ⟨x8,hx8,hb13⟩:=bind_some hb13
 refine mV (Pt g_0) rfl (L_nc rfl rfl (fA 1 fa_89_1 rfl rfl (ldB 0 hst Tryz.isAgg26 rfl rfl rfl (mI rfl ?_))))
 obtain ⟨g22,cap_g22,hv23,_,_⟩:=Star.row 2 hst rfl hx8
 refine L_ixO (R:=(OR.frz RP.bool)) (tb:=0) 0 rfl Tryz.underlying26 Tryz.sizeOf4 rfl hv23 (by first | rfl | simp) rfl hx8 ?_
 obtain ⟨cs24,hr24,hat24⟩:=Star.eltF 2 hst rfl hv23 hx8
 obtain rfl : _ = [_]:=hr24
 refine L_ld rfl Tryz.isAgg4 rfl (At.cell hat24 (j:=0) rfl) (L_not_ rfl rfl (L_pick (v:=Bo b13) rfl rfl (congrArg Value.bool (so hb13)) (aB rfl (nn ?_))))
 have hst:=hst.gets [2,2] rfl
 exact rj hR14 ⟨rfl,hst⟩
 rw [ite_f hc21] at hb13
 refine ps rfl (ps rfl (ps rfl (ps rfl (ps rfl (ps rfl (ps rfl (ps rfl (L_pick (v:=Bo b13) rfl rfl (congrArg Value.bool (so hb13)) (aB rfl (nn ?_))))))))))
 have hst:=hst.gets [2,2] rfl
 exact rj hR14 ⟨rfl,hst⟩
 intro f w_ hR
 obtain ⟨sf4,hst⟩:=rk hR14 hR
 refine W_ret (retG1 (v1:=Bo b13) Tryz.results76 sf4 ?_)
 obtain rfl:=so hF
 have hst:=hst.gets [1,1,2] rfl
 exact ⟨H,(Le.refl _),rfl,hst⟩
theorem i_Constraint_valid_c {c : Con} {v0_0 : Value} {H : FH} {w : World} {R : List Ass} (hst : Star H w R) (h0_0 : (rS 85 rTerm).rel H [v0_0] c.terms) {r : Con × Bool} (hF : i_Constraint_valid c = some r) :
 C Tryz.prog 104 #[.agg #[v0_0,I c.bound]] w fun v w'=>∃ H' : FH,Le H H'∧∃ (u1 : Value),v = .tuple #[.agg #[u1,I r.1.bound],Bo r.2]∧(rS 85 rTerm).rel H' [u1] r.1.terms∧Star H' w' (R):=by
 unfold i_Constraint_valid at hF
 refine C_enter Tryz.func104 rfl Tryz.ntmps104 rfl (sq (L_box (v:=.agg #[v0_0,I c.bound]) (cs:=#[v0_0,I c.bound]) rfl rfl rfl hst (fun g5 w6 hst=>L_al (cs:=#[S0,I 0]) rfl Tryz.zeroValue46 rfl hst (fun g7 w8 hst=>aB rfl (nq (W_seq ?_))))))
 obtain ⟨x14,hx14,hF⟩:=bind_some hF
 refine W_region (L_lda (cs:=[v0_0,I c.bound]) rfl Tryz.isAgg46 Tryz.sizeOf46 rfl (At.sub0 (Blk.at (Star.blkAt 1 hst rfl)) 0 2) rfl ?_)
 obtain ⟨H16b,l17,s18,z19,k20⟩:=hst.borrow
 refine L_call rfl Tryz.call52 (ops1 rfl) (i_ConstraintValid_c (c:=c) s18 (RP.mono _ h0_0 l17) hx14) ?_
 rintro _ w21 ⟨rfl,hst⟩
 have hst:=k20 hst c0
 refine L_not_ rfl rfl (nn (W_cond (b:=(!x14)) rfl (fun hc22=>?_) (fun hc22=>?_)))
 have hF:=(ite_t hc22).symm.trans hF
 refine sq (L_bld rfl (parts0 ) (bld_46_  ) (L_staB (vs:=#[S0,I 0]) (cs2:=#[S0,I 0]) 0 rfl Tryz.sizeOf46 rfl rfl rfl (ones_cons rfl (ones_cons rfl ones_nil)) hst rfl (by show 0 + 2≤2; decide) rfl (fun w24 hst=>aB rfl (nn (W_ret (retG2 (v1:=.agg #[S0,I 0]) (v2:=Bo false) Tryz.results104 (resV_agg Tryz.isAgg46 Tryz.sizeOf46 rfl (Star.blkAt 0 hst rfl) rfl) rfl ?_))))))
 obtain rfl:=so hF
 have hst:=Star.drop 0 hst rfl
 have hst:=Star.drop 0 hst rfl
 exact ⟨H,(Le.refl _),S0,rfl,(rel_nil _ _ _),hst⟩
 have hF:=(ite_f hc22).symm.trans hF
 refine W_skip (sq (L_lda (cs:=[v0_0,I c.bound]) rfl Tryz.isAgg46 Tryz.sizeOf46 rfl (At.sub0 (Blk.at (Star.blkAt 1 hst rfl)) 0 2) rfl (L_staB (vs:=#[v0_0,I c.bound]) (cs2:=#[v0_0,I c.bound]) 0 rfl Tryz.sizeOf46 rfl rfl rfl (ones_cons (one_len (slice_len h0_0)) (ones_cons rfl ones_nil)) hst rfl (by show 0 + 2≤2; decide) rfl (fun w26 hst=>aB rfl (nn (W_ret (retG2 (v1:=.agg #[v0_0,I c.bound]) (v2:=Bo true) Tryz.results104 (resV_agg Tryz.isAgg46 Tryz.sizeOf46 rfl (Star.blkAt 0 hst rfl) rfl) rfl ?_)))))))
 obtain rfl:=so hF
 have hst:=Star.drop 0 hst rfl
 have hst:=Star.drop 0 hst rfl
 exact ⟨H,(Le.refl _),v0_0,rfl,h0_0,hst⟩
theorem i_normal_c {terms : List Term} {bound : Int} {v0 : Value} {H : FH} {w : World} {R : List Ass} (hst : Star H w R) (h0 : (rS 85 rTerm).rel H [v0] terms) {r : Con × Bool} (hF : i_normal terms bound = some r) :
 C Tryz.prog 88 #[v0,I bound] w fun v w'=>∃ H' : FH,Le H H'∧∃ (u1 : Value),v = .tuple #[.agg #[u1,I r.1.bound],Bo r.2]∧(rS 85 rTerm).rel H' [u1] r.1.terms∧Star H' w' (R):=by
 unfold i_normal at hF
 refine C_enter Tryz.func88 rfl Tryz.ntmps88 rfl (sq (L_al (cs:=#[S0,I 0]) rfl Tryz.zeroValue46 rfl hst (fun g3 w4 hst=>aB rfl (ns (L_al (cs:=arrC (List.replicate 13 (0 : Int))) rfl Tryz.zeroValue131 rfl hst (fun g11 w12 hst=>?_))))))
 have hst:=Star.toArr (List.replicate 13 (0 : Int)) 13 rfl rfl hst
 refine nq (sq (mV v0 rfl (L_len rfl Tryz.underlying44 rfl (slice_len h0) (mI rfl (nn ?_)))))
 have hlen18 : List.length terms≤9223372036854775807:=len_le (slice_len h0)
 obtain ⟨j18,hL18,hF⟩:=bind_some hF
 obtain ⟨R18,hR18⟩:=exR fun f w_=>∃ bound_14 : Int,∃ ag11_15 : List Int,∃ H16 : FH,j18 = .nx (bound_14,ag11_15)∧Le H H16∧f 1 = I bound_14∧f 4 = Pt g3∧f 6 = Pt g11∧Star H16 w_ (arr g11 131 13 ag11_15 :: box g3 46 #[S0,I 0] :: R)
 refine W_join R18 ?_ ?_
 refine W_block ?_
 obtain ⟨I18,hI18⟩:=exI fun n f w_=>∃ i_13 : Nat,∃ suf18 : List Term,∃ bound_14 : Int,∃ ag11_15 : List Int,∃ H16 : FH,n = suf18.length∧List.drop i_13 terms = suf18∧i_13 + suf18.length = terms.length∧rangeL i_normal_b1 suf18 i_13 (bound_14,ag11_15) = some j18∧Le H H16∧f 1 = I bound_14∧f 4 = Pt g3∧f 6 = Pt g11∧f 12 = v0∧f 13 = I (terms.length : Int)∧f 14 = I i_13∧Star H16 w_ (arr g11 131 13 ag11_15 :: box g3 46 #[S0,I 0] :: R)
 refine W_loop I18 (n:=terms.length) ?_ ?_
 exact ij hI18 ⟨0,terms,bound,(List.replicate 13 (0 : Int)),H,rfl,rfl,Nat.zero_add _,hL18,(Le.refl _),rfl,rfl,rfl,rfl,rfl,rfl,hst⟩
 intro n18 f w_ hI
 obtain ⟨i_13,suf18,bound_14,ag11_15,H16,rfl,hd18,hl18,hL18,l17,sf1,sf4,sf6,sf12,sf13,sf14,hst⟩:=ik hI18 hI
 refine sq (L_lss rfl sf14 sf13 (nq (W_cond (b:=decide ((i_13 : Int) < (terms.length : Int))) rfl (fun hc19=>?_) (fun hc19=>?_))))
 have hlt18:=of_decide_eq_true hc19
 rcases suf18 with _ | ⟨x_18,rest18⟩
 exact absurd hlt18 (by simp at hl18; omega)
 obtain ⟨o18,hB18,hL18⟩:=range_cons hL18
 rw [i_normal_b1] at hB18
 have hix18:=drop_idx hd18
 refine W_skip (W_seq (W_block (sq (L_ix (r:=rTerm) rfl Tryz.underlying44 Tryz.sizeOf85 sf12 (RP.mono _ h0 l17) sf14 hix18 (fun g27 o28 cs_g27 hrk_hat29 hat29=>?_)))))
 obtain rfl:=rTerm_iff.1 hrk_hat29
 refine L_lda (cs:=[I x_18.coef,I x_18.lit]) rfl Tryz.isAgg85 Tryz.sizeOf85 rfl (At.sub (AtH.at hat29 hst.sub) 0 2) rfl (L_al (cs:=#[I 0,I 0]) rfl Tryz.zeroValue85 rfl hst (fun g31 w32 hst=>L_staB (vs:=#[I x_18.coef,I x_18.lit]) (cs2:=#[I x_18.coef,I x_18.lit]) 0 rfl Tryz.sizeOf85 rfl rfl rfl (ones_cons rfl (ones_cons rfl ones_nil)) hst rfl (by show 0 + 2≤2; decide) rfl (fun w33 hst=>ns (fA 1 fa_85_1 rfl rfl (ldB 0 hst Tryz.isAgg3 rfl rfl rfl (L_lss rfl rfl rfl (nn ?_)))))))
 obtain ⟨⟨bound_34,ag11_35⟩,hA38,hB18⟩:=bind_some hB18
 obtain ⟨R38,hR38⟩:=exR fun f w_=>∃ H36 : FH,Le H16 H36∧f 1 = I bound_34∧f 4 = Pt g3∧f 6 = Pt g11∧f 12 = v0∧f 13 = I (terms.length : Int)∧f 14 = I i_13∧Star H36 w_ (arr g11 131 13 ag11_35 :: box g3 46 #[S0,I 0] :: R)
 refine W_join R38 ?_ ?_
 refine W_cond (b:=decide (x_18.lit < 0)) rfl (fun hc39=>?_) (fun hc39=>?_)
 have hA38:=(ite_t hc39).symm.trans hA38
 refine sq (mF sf1 rfl (fA 0 fa_85_0 rfl rfl (ldB 0 hst Tryz.isAgg3 rfl rfl rfl (L_sub rfl rfl rfl (aI rfl (nn ?_))))))
 obtain ⟨x40,hx40,hA38⟩:=bind_some hA38
 refine W_drawS 7 [isV (Pq g31 1),isV (I x_18.lit),isV (I (i64 (-x_18.lit))),isV (.pointer (some ⟨g11,Int.toNat (i64 (-x_18.lit)) * 1,none⟩)),isV (I x40),isV (Pt g31),isV (I x_18.coef)] [box g31 85 #[I x_18.coef,I x_18.lit],arr g11 131 13 ag11_15,box g3 46 #[S0,I 0]] [] (R) [([],[]),([],[]),([],[]),([],[]),([],[]),([],[]),([],[])] (S:=[]) Tryz_mix (by kernel_rfl) rfl (by kernel_rfl) (amF_cons (mono_V _) (amF_cons (mono_V _) (amF_cons (mono_V _) (amF_cons (mono_V _) (amF_cons (mono_V _) (amF_cons (mono_V _) (amF_cons (mono_V _) amF_nil))))))) hst ?_ (fun f w_ H42 hS42 hE42 hT42 hst=>?_)
 refine opsS_cons (fun f w_ _ _ s _ _ hst=>fA 1 fa_85_1 ((s 8 rfl).trans rfl) rfl (nO rfl rfl hst)) (opsS_cons (fun f w_ _ _ _ _ p hst=>ldB 0 hst Tryz.isAgg3 (p 0 25 rfl rfl) rfl rfl (nO rfl rfl hst)) (opsS_cons (fun f w_ _ _ _ _ p hst=>L_neg rfl (p 1 26 rfl rfl) (nO rfl rfl hst)) (opsS_cons (fun f w_ _ _ s _ p hst=>L_ixA 1 rfl Tryz.underlying131 Tryz.sizeOf3 ((s 6 rfl).trans sf6) (p 2 27 rfl rfl) hst rfl hx40 (nO rfl rfl hst)) (opsS_cons (fun f w_ _ _ _ _ p hst=>L_ldA 1 rfl Tryz.isAgg3 (p 3 28 rfl rfl) hst rfl hx40 (nO rfl rfl hst)) (opsS_cons (fun f w_ _ _ s _ _ hst=>fA 0 fa_85_0 ((s 8 rfl).trans rfl) rfl (nO rfl rfl hst)) (opsS_cons (fun f w_ _ _ _ _ p hst=>ldB 0 hst Tryz.isAgg3 (p 5 30 rfl rfl) rfl rfl (nO rfl rfl hst)) (opsS_nil)))))))
 refine L_sub rfl (hT42 4 29 rfl rfl) (hT42 6 31 rfl rfl) (L_ixA 1 rfl Tryz.underlying131 Tryz.sizeOf3 ((hS42 6 rfl).trans sf6) (hT42 2 27 rfl rfl) hst rfl hx40 ?_)
 have hst:=hst.get 1 rfl
 refine L_stA rfl Tryz.sizeOf3 rfl rfl hst hx40 (fun w43 hst=>nn ?_)
 obtain ⟨rfl,rfl⟩:=so2 hA38
 have hst:=hst.gets [2,1] rfl
 have hst:=Star.drop 2 hst rfl
 exact rj hR38 ⟨H42,hE42,((hS42 1 rfl).trans rfl),((hS42 4 rfl).trans sf4),((hS42 6 rfl).trans sf6),((hS42 12 rfl).trans sf12),((hS42 13 rfl).trans sf13),((hS42 14 rfl).trans sf14),hst⟩
 have hA38:=(ite_f hc39).symm.trans hA38
 obtain ⟨x44,hx44,hA38⟩:=bind_some hA38
 refine W_drawS 6 [isV (Pq g31 1),isV (I x_18.lit),isV (.pointer (some ⟨g11,Int.toNat x_18.lit * 1,none⟩)),isV (I x44),isV (Pt g31),isV (I x_18.coef)] [box g31 85 #[I x_18.coef,I x_18.lit],arr g11 131 13 ag11_15,box g3 46 #[S0,I 0]] [] (R) [([],[]),([],[]),([],[]),([],[]),([],[]),([],[])] (S:=[]) Tryz_mix (by kernel_rfl) rfl (by kernel_rfl) (amF_cons (mono_V _) (amF_cons (mono_V _) (amF_cons (mono_V _) (amF_cons (mono_V _) (amF_cons (mono_V _) (amF_cons (mono_V _) amF_nil)))))) hst ?_ (fun f w_ H46 hS46 hE46 hT46 hst=>?_)
 refine opsS_cons (fun f w_ _ _ s _ _ hst=>fA 1 fa_85_1 ((s 8 rfl).trans rfl) rfl (nO rfl rfl hst)) (opsS_cons (fun f w_ _ _ _ _ p hst=>ldB 0 hst Tryz.isAgg3 (p 0 34 rfl rfl) rfl rfl (nO rfl rfl hst)) (opsS_cons (fun f w_ _ _ s _ p hst=>L_ixA 1 rfl Tryz.underlying131 Tryz.sizeOf3 ((s 6 rfl).trans sf6) (p 1 35 rfl rfl) hst rfl hx44 (nO rfl rfl hst)) (opsS_cons (fun f w_ _ _ _ _ p hst=>L_ldA 1 rfl Tryz.isAgg3 (p 2 36 rfl rfl) hst rfl hx44 (nO rfl rfl hst)) (opsS_cons (fun f w_ _ _ s _ _ hst=>fA 0 fa_85_0 ((s 8 rfl).trans rfl) rfl (nO rfl rfl hst)) (opsS_cons (fun f w_ _ _ _ _ p hst=>ldB 0 hst Tryz.isAgg3 (p 4 38 rfl rfl) rfl rfl (nO rfl rfl hst)) (opsS_nil))))))
 refine L_add rfl (hT46 3 37 rfl rfl) (hT46 5 39 rfl rfl) (L_ixA 1 rfl Tryz.underlying131 Tryz.sizeOf3 ((hS46 6 rfl).trans sf6) (hT46 1 35 rfl rfl) hst rfl hx44 ?_)
 have hst:=hst.get 1 rfl
 refine L_stA rfl Tryz.sizeOf3 rfl rfl hst hx44 (fun w47 hst=>nn ?_)
 obtain ⟨rfl,rfl⟩:=so2 hA38
 have hst:=hst.gets [2,1] rfl
 have hst:=Star.drop 2 hst rfl
 exact rj hR38 ⟨H46,hE46,((hS46 1 rfl).trans sf1),((hS46 4 rfl).trans sf4),((hS46 6 rfl).trans sf6),((hS46 12 rfl).trans sf12),((hS46 13 rfl).trans sf13),((hS46 14 rfl).trans sf14),hst⟩
 intro f w_ hR
 obtain ⟨H36,l37,sf1,sf4,sf6,sf12,sf13,sf14,hst⟩:=rk hR38 hR
 refine W_region (L_add rfl sf14 rfl (mI rfl (nn ?_)))
 obtain rfl:=so hB18
 show ∃ m,m < _∧I18 m _ _
 refine ⟨rest18.length,by simp,?_⟩
 exact ij hI18 ⟨i_13 + 1,rest18,bound_34,ag11_35,H36,rfl,drop_next hd18,by simp at hl18; omega,hL18,(Le.trans l17 l37),sf1,sf4,sf6,sf12,sf13,(Eq.trans rfl (congrArg (Value.int .i64) (i64_succ (n:=terms.length) (by simp at hl18; omega) hlen18))),hst⟩
 rcases suf18 with _ | ⟨_,_⟩
 obtain rfl:=range_nil hL18
 refine W_exit (rj hR18 ⟨bound_14,ag11_15,H16,rfl,l17,sf1,sf4,sf6,hst⟩)
 exact absurd (of_decide_eq_false hc19) (by simp at hl18; omega)
 intro f w_ hR
 obtain ⟨bound_14,ag11_15,H16,rfl,l17,sf1,sf4,sf6,hst⟩:=rk hR18 hR
 refine sq (L_bld rfl (parts0 ) (bld_46_  ) (L_al (cs:=#[S0,I 0]) rfl Tryz.zeroValue46 rfl hst (fun g51 w52 hst=>L_staB (vs:=#[S0,I 0]) (cs2:=#[S0,I 0]) 0 rfl Tryz.sizeOf46 rfl rfl rfl (ones_cons rfl (ones_cons rfl ones_nil)) hst rfl (by show 0 + 2≤2; decide) rfl (fun w53 hst=>nq (sq ?_)))))
 have hla55:=(Star.arrAt 1 hst rfl).2
 refine L_ldAA 1 rfl Tryz.isAgg131 Tryz.sizeOf131 sf6 hst rfl (mI rfl (nn ?_))
 obtain ⟨k61,hk61,hF⟩:=bind_some hF
 obtain ⟨j60,hL60,hF⟩:=bind_some hF
 obtain ⟨R60,hR60⟩:=exR fun f w_=>∃ bound_57 : Int,∃ g51_0_58 : List Term,∃ v58_g51_0 : Value,j60 = .nx (bound_57,g51_0_58)∧f 1 = I bound_57∧f 4 = Pt g3∧f 9 = Pt g51∧Star H16 w_ (oF 85 rTerm v58_g51_0 g51_0_58 :: box g51 46 #[v58_g51_0,I 0] :: box g3 46 #[S0,I 0] :: R)
 refine W_join R60 ?_ ?_
 refine W_block ?_
 obtain ⟨I60,hI60⟩:=exI fun n f w_=>∃ i_56 : Nat,∃ suf60 : Nat,∃ bound_57 : Int,∃ g51_0_58 : List Term,∃ v58_g51_0 : Value,suf60 = n∧0≤i_56∧i_56 + suf60 = 0 + k61∧countL (i_normal_b2 ag11_15) suf60 i_56 (bound_57,g51_0_58) = some j60∧f 1 = I bound_57∧f 4 = Pt g3∧f 9 = Pt g51∧f 44 = (.agg (arrC ag11_15))∧f 45 = I i_56∧Star H16 w_ (oF 85 rTerm v58_g51_0 g51_0_58 :: box g51 46 #[v58_g51_0,I 0] :: box g3 46 #[S0,I 0] :: R)
 have hst:=Star.addNil (R:=(OR.frz rTerm)) (e:=85) hst
 have hst:=hst.gets [3,2,2] rfl
 have hst:=Star.drop 3 hst rfl
 refine W_loop I60 (n:=k61) ?_ ?_
 exact ij hI60 ⟨0,k61,bound_14,[],S0,rfl,Nat.le_refl _,rfl,hL60,sf1,sf4,rfl,rfl,rfl,hst⟩
 intro n60 f w_ hI
 obtain ⟨i_56,suf60,bound_57,g51_0_58,v58_g51_0,rfl,hs60,hl60,hL60,sf1,sf4,sf9,sf44,sf45,hst⟩:=ik hI60 hI
 refine sq (L_lss rfl sf45 rfl (nq (W_cond (b:=decide ((i_56 : Int) < 13)) rfl (fun hc63=>?_) (fun hc63=>?_))))
 have hlt60:=of_decide_eq_true hc63
 rcases suf60 with _ | rest60
 exact absurd hlt60 (cntF_no hl60 hk61)
 obtain ⟨o60,hB60,hL60⟩:=count_succ hL60
 rw [i_normal_b2] at hB60
 refine W_skip (W_seq (W_block (W_seq ?_)))
 obtain ⟨x64,hx64,hB60⟩:=bind_some hB60
 refine W_region (mF sf45 rfl (L_ixV rfl Tryz.underlying131 Tryz.sizeOf3 Tryz.isAgg3 sf44 sf45 hla55 hx64 (aI rfl (aI rfl (nn (W_block (sq (mI rfl (L_gtr rfl rfl rfl (aB rfl (nn ?_)))))))))))
 obtain ⟨⟨bound_65,g51_0_66⟩,hA68,hB60⟩:=bind_some hB60
 obtain ⟨R68,hR68⟩:=exR fun f w_=>∃ v66_g51_0 : Value,f 1 = I bound_65∧f 4 = Pt g3∧f 9 = Pt g51∧f 44 = (.agg (arrC ag11_15))∧f 45 = I i_56∧Star H16 w_ (oF 85 rTerm v66_g51_0 g51_0_66 :: box g51 46 #[v66_g51_0,I 0] :: box g3 46 #[S0,I 0] :: R)
 refine W_join R68 ?_ ?_
 refine W_cond (b:=decide (x64 > 0)) rfl (fun hc69=>?_) (fun hc69=>?_)
 have hA68:=(ite_t hc69).symm.trans hA68
 obtain ⟨x73,hx73,hA68⟩:=bind_some hA68
 refine W_region (fA 0 fa_46_0 sf9 rfl (ldB 1 hst Tryz.isAgg44 rfl rfl rfl (mI rfl (mI rfl (L_bld rfl (parts2 rfl rfl) (bld_85_0_1 (I x64) (I i_56) rfl rfl) (L_bs rfl (parts1 rfl) (bs_44_1_2 (I x64) (I i_56) ) hst (fun g78 w79 hst=>?_)))))))
 have hst:=Star.addF (r:=rTerm) (cs:=[I x64,I i_56]) (x:=({ coef:=x64,lit:=(i_56 : Int) } : Term)) hst (rTerm_iff.2 rfl)
 have hst:=Star.mkRow (R:=(OR.frz rTerm)) [([I x64,I i_56],({ coef:=x64,lit:=(i_56 : Int) } : Term))] [({ coef:=x64,lit:=(i_56 : Int) } : Term)] 1 hst rfl rfl rfl (by decide)
 have hst:=hst.get 1 rfl
 refine L_appM (v:=v58_g51_0) (u:=(Sl g78 1 1)) rfl et_44 rfl rfl hst hx73 (fun v81 w82 hst=>fA 0 fa_46_0 sf9 rfl (L_stB (v:=v81) (cs2:=#[v81,I 0]) 1 rfl Tryz.sizeOf44 rfl rfl (one_len (Star.len 0 hst rfl)) hst rfl rfl rfl (fun w84 hst=>nn ?_)))
 obtain ⟨rfl,rfl⟩:=so2 hA68
 have hst:=hst.gets [2,1,2] rfl
 exact rj hR68 ⟨v81,sf1,sf4,sf9,sf44,sf45,hst⟩
 have hA68:=(ite_f hc69).symm.trans hA68
 refine sq (mI rfl (L_lss rfl rfl rfl (aB rfl (nn ?_))))
 obtain ⟨⟨bound_85,g51_0_86⟩,hA88,hA68⟩:=bind_some hA68
 obtain ⟨R88,hR88⟩:=exR fun f w_=>∃ v86_g51_0 : Value,f 1 = I bound_85∧f 4 = Pt g3∧f 9 = Pt g51∧f 44 = (.agg (arrC ag11_15))∧f 45 = I i_56∧Star H16 w_ (oF 85 rTerm v86_g51_0 g51_0_86 :: box g51 46 #[v86_g51_0,I 0] :: box g3 46 #[S0,I 0] :: R)
 refine W_join R88 ?_ ?_
 refine W_cond (b:=decide (x64 < 0)) rfl (fun hc89=>?_) (fun hc89=>?_)
 have hA88:=(ite_t hc89).symm.trans hA88
 refine W_seq ?_
 obtain ⟨x93,hx93,hA88⟩:=bind_some hA88
 refine W_region (fA 0 fa_46_0 sf9 rfl (ldB 1 hst Tryz.isAgg44 rfl rfl rfl (mI rfl (L_neg rfl rfl (mI rfl (L_neg rfl rfl (L_bld rfl (parts2 rfl rfl) (bld_85_0_1 (I (i64 (-x64))) (I (i64 (-(i_56 : Int)))) rfl rfl) (L_bs rfl (parts1 rfl) (bs_44_1_2 (I (i64 (-x64))) (I (i64 (-(i_56 : Int)))) ) hst (fun g98 w99 hst=>?_)))))))))
 have hst:=Star.addF (r:=rTerm) (cs:=[I (i64 (-x64)),I (i64 (-(i_56 : Int)))]) (x:=({ coef:=i64 (-x64),lit:=i64 (-(i_56 : Int)) } : Term)) hst (rTerm_iff.2 rfl)
 have hst:=Star.mkRow (R:=(OR.frz rTerm)) [([I (i64 (-x64)),I (i64 (-(i_56 : Int)))],({ coef:=i64 (-x64),lit:=i64 (-(i_56 : Int)) } : Term))] [({ coef:=i64 (-x64),lit:=i64 (-(i_56 : Int)) } : Term)] 1 hst rfl rfl rfl (by decide)
 have hst:=hst.get 1 rfl
 refine L_appM (v:=v58_g51_0) (u:=(Sl g98 1 1)) rfl et_44 rfl rfl hst hx93 (fun v101 w102 hst=>fA 0 fa_46_0 sf9 rfl (L_stB (v:=v101) (cs2:=#[v101,I 0]) 1 rfl Tryz.sizeOf44 rfl rfl (one_len (Star.len 0 hst rfl)) hst rfl rfl rfl (fun w104 hst=>nn (W_region (mF sf1 rfl (mI rfl (L_sub rfl rfl rfl (aI rfl (nn ?_)))))))))
 obtain ⟨rfl,rfl⟩:=so2 hA88
 have hst:=hst.gets [2,1,2] rfl
 exact rj hR88 ⟨v101,rfl,sf4,sf9,sf44,sf45,hst⟩
 have hA88:=(ite_f hc89).symm.trans hA88
 refine W_skip ?_
 obtain ⟨rfl,rfl⟩:=so2 hA88
 exact rj hR88 ⟨v58_g51_0,sf1,sf4,sf9,sf44,sf45,hst⟩
 intro f w_ hR
 obtain ⟨v86_g51_0,sf1,sf4,sf9,sf44,sf45,hst⟩:=rk hR88 hR
 obtain ⟨rfl,rfl⟩:=so2 hA68
 exact rj hR68 ⟨v86_g51_0,sf1,sf4,sf9,sf44,sf45,hst⟩
 intro f w_ hR
 obtain ⟨v66_g51_0,sf1,sf4,sf9,sf44,sf45,hst⟩:=rk hR68 hR
 refine W_region (L_add rfl sf45 rfl (mI rfl (nn ?_)))
 obtain rfl:=so hB60
 show ∃ m,m < _∧I60 m _ _
 refine ⟨rest60,Nat.lt_succ_self _,?_⟩
 exact ij hI60 ⟨i_56 + 1,rest60,bound_65,g51_0_66,v66_g51_0,rfl,by omega,by omega,hL60,sf1,sf4,sf9,sf44,(Eq.trans rfl (congrArg (Value.int .i64) (i64_succ (n:=0 + k61) (by omega) (cntF_le hk61)))),hst⟩
 rcases suf60 with _ | _
 obtain rfl:=count_zero hL60
 refine W_exit (rj hR60 ⟨bound_57,g51_0_58,v58_g51_0,rfl,sf1,sf4,sf9,hst⟩)
 exact absurd (cntF_yes hs60 hl60 hk61) (of_decide_eq_false hc63)
 intro f w_ hR
 obtain ⟨bound_57,g51_0_58,v58_g51_0,rfl,sf1,sf4,sf9,hst⟩:=rk hR60 hR
 refine sq (mF sf1 rfl (L_max rfl rfl rfl (fA 1 fa_46_1 sf9 rfl (L_stB (v:=I (max 0 bound_57)) (cs2:=#[v58_g51_0,I (max 0 bound_57)]) 1 rfl Tryz.sizeOf3 rfl rfl rfl hst rfl rfl rfl (fun w106 hst=>nq ?_)))))
 obtain ⟨x110,hx110,hF⟩:=bind_some hF
 refine W_region (L_lda (cs:=[v58_g51_0,I (max 0 bound_57)]) rfl Tryz.isAgg46 Tryz.sizeOf46 sf9 (At.sub0 (Blk.at (Star.blkAt 0 hst rfl)) 0 2) rfl ?_)
 have hst:=hst.get 1 rfl
 obtain ⟨H113,l114,hst,hz115⟩:=Star.freeze hst
 have hz115 : (rS 85 rTerm).rel H113 [v58_g51_0] g51_0_58:=hz115
 refine L_call rfl Tryz.call104 (ops1 rfl) (i_Constraint_valid_c (c:=({ terms:=g51_0_58,bound:=max 0 bound_57 } : Con)) hst hz115 hx110) ?_
 rintro _ w116 ⟨H116,l116,r116_0,rfl,hr116_0,hst⟩
 refine L_ex (v:=.agg #[r116_0,I x110.1.bound]) rfl rfl rfl (L_ex (v:=Bo x110.2) rfl rfl rfl (L_staB (vs:=#[r116_0,I x110.1.bound]) (cs2:=#[r116_0,I x110.1.bound]) 1 rfl Tryz.sizeOf46 sf4 rfl rfl (ones_cons (one_len (slice_len hr116_0)) (ones_cons rfl ones_nil)) hst rfl (by show 0 + 2≤2; decide) rfl (fun w117 hst=>aB rfl (nn (W_ret (retG2 (v1:=.agg #[r116_0,I x110.1.bound]) (v2:=Bo x110.2) Tryz.results88 (resV_agg Tryz.isAgg46 Tryz.sizeOf46 sf4 (Star.blkAt 0 hst rfl) rfl) rfl ?_))))))
 obtain rfl:=so hF
 have hst:=Star.drop 0 hst rfl
 have hst:=Star.drop 0 hst rfl
 exact ⟨H116,(Le.trans (Le.trans l17 l114) l116),r116_0,rfl,hr116_0,hst⟩
theorem slices_Concat_implTerm_c {slices : List (List Term)} {v0 : Value} {H : FH} {w : World} (hst : Star H w []) (h0 : (rS 44 (rS 85 rTerm)).rel H [v0] slices) {r : List Term} (hF : slices_Concat_implTerm slices = some r) :
 C Tryz.prog 89 #[v0] w fun v w'=>∃ (u1 : Value),v = u1∧Star H w' [oF 85 rTerm u1 r]:=by
 unfold slices_Concat_implTerm at hF
 refine C_enter Tryz.func89 rfl Tryz.ntmps89 rfl (sq (aV S0 rfl (ns (aI rfl (nq (sq (mV v0 rfl (L_len rfl Tryz.underlying133 rfl (slice_len h0) (mI rfl (nn ?_))))))))))
 have hlen3 : List.length slices≤9223372036854775807:=len_le (slice_len h0)
 obtain ⟨j3,hL3,hF⟩:=bind_some hF
 obtain ⟨R3,hR3⟩:=exR fun f w_=>∃ size_2 : Int,j3 = .nx size_2∧f 0 = v0∧f 3 = I size_2∧Star H w_ ([])
 refine W_join R3 ?_ ?_
 refine W_block ?_
 obtain ⟨I3,hI3⟩:=exI fun n f w_=>∃ i_1 : Nat,∃ suf3 : List (List Term),∃ size_2 : Int,n = suf3.length∧List.drop i_1 slices = suf3∧i_1 + suf3.length = slices.length∧rangeL slices_Concat_implTerm_b1 suf3 i_1 size_2 = some j3∧f 0 = v0∧f 3 = I size_2∧f 9 = v0∧f 10 = I (slices.length : Int)∧f 11 = I i_1∧Star H w_ ([])
 refine W_loop I3 (n:=slices.length) ?_ ?_
 exact ij hI3 ⟨0,slices,0,rfl,rfl,Nat.zero_add _,hL3,rfl,rfl,rfl,rfl,rfl,hst⟩
 intro n3 f w_ hI
 obtain ⟨i_1,suf3,size_2,rfl,hd3,hl3,hL3,sf0,sf3,sf9,sf10,sf11,hst⟩:=ik hI3 hI
 refine sq (L_lss rfl sf11 sf10 (nq (W_cond (b:=decide ((i_1 : Int) < (slices.length : Int))) rfl (fun hc4=>?_) (fun hc4=>?_))))
 have hlt3:=of_decide_eq_true hc4
 rcases suf3 with _ | ⟨x_3,rest3⟩
 exact absurd hlt3 (by simp at hl3; omega)
 obtain ⟨o3,hB3,hL3⟩:=range_cons hL3
 rw [slices_Concat_implTerm_b1] at hB3
 have hix3:=drop_idx hd3
 refine W_skip (W_seq (W_block (sq (L_ix (r:=(rS 85 rTerm)) rfl Tryz.underlying133 Tryz.sizeOf44 sf9 h0 sf11 hix3 (fun g9 o10 cs_g9 hrk_hat11 hat11=>?_)))))
 obtain ⟨u12,rfl,hu12⟩:=slice1 hrk_hat11
 refine L_ld rfl Tryz.isAgg44 rfl (At.cell (AtH.at hat11 hst.sub) (j:=0) rfl) (aV u12 rfl (ns (mF sf3 rfl (mV u12 rfl (L_len rfl Tryz.underlying44 rfl (slice_len hu12) (L_add rfl rfl rfl (aI rfl (ns (mI rfl (L_lss rfl rfl rfl (nn ?_)))))))))))
 obtain ⟨_,hA13,hB3⟩:=bind_some hB3
 obtain ⟨R13,hR13⟩:=exR fun f w_=>f 0 = v0∧f 3 = I (i64 (size_2 + (x_3.length : Int)))∧f 9 = v0∧f 10 = I (slices.length : Int)∧f 11 = I i_1∧Star H w_ ([])
 refine W_join R13 ?_ ?_
 refine W_cond (b:=decide ((i64 (size_2 + (x_3.length : Int))) < 0)) rfl (fun hc14=>?_) (fun hc14=>?_)
 have hA13:=(ite_t hc14).symm.trans hA13
 cases hA13
 have hA13:=(ite_f hc14).symm.trans hA13
 refine W_skip (rj hR13 ⟨sf0,rfl,sf9,sf10,sf11,hst⟩)
 intro f w_ hR
 obtain ⟨sf0,sf3,sf9,sf10,sf11,hst⟩:=rk hR13 hR
 refine W_region (L_add rfl sf11 rfl (mI rfl (nn ?_)))
 obtain rfl:=so hB3
 show ∃ m,m < _∧I3 m _ _
 refine ⟨rest3.length,by simp,?_⟩
 exact ij hI3 ⟨i_1 + 1,rest3,i64 (size_2 + (x_3.length : Int)),rfl,drop_next hd3,by simp at hl3; omega,hL3,sf0,sf3,sf9,sf10,(Eq.trans rfl (congrArg (Value.int .i64) (i64_succ (n:=slices.length) (by simp at hl3; omega) hlen3))),hst⟩
 rcases suf3 with _ | ⟨_,_⟩
 obtain rfl:=range_nil hL3
 refine W_exit (rj hR3 ⟨size_2,rfl,sf0,sf3,hst⟩)
 exact absurd (of_decide_eq_false hc4) (by simp at hl3; omega)
 intro f w_ hR
 obtain ⟨size_2,rfl,sf0,sf3,hst⟩:=rk hR3 hR
 refine W_seq ?_
 obtain ⟨ret0_15,hI17,hF⟩:=bind_some hF
 refine W_region (mF sf3 rfl ?_)
 obtain ⟨R20,hR20⟩ : ∃ R : Value→World→Prop,R = fun v w_=>∃ v18_ret0 : Value,v = v18_ret0∧Star H w_ ([oF 85 rTerm v18_ret0 ret0_15]):=⟨_,rfl⟩
 refine L_call (args:=#[S0,I size_2]) (R:=R20) rfl Tryz.call105 (ops2 rfl rfl) ?_ ?_
 refine C_enter Tryz.func105 rfl Tryz.ntmps105 rfl ?_
 have hA20:=hI17
 unfold slices_Concat_implTerm_i2 at hA20
 refine sq (aV S0 rfl (nq (sq (mI rfl (L_lss rfl rfl rfl (nn ?_))))))
 obtain ⟨_,hA21,hA20⟩:=bind_some hA20
 obtain ⟨R21,hR21⟩:=exR fun f w_=>f 0 = S0∧f 1 = I size_2∧Star H w_ ([])
 refine W_join R21 ?_ ?_
 refine W_cond (b:=decide (size_2 < 0)) rfl (fun hc22=>?_) (fun hc22=>?_)
 have hA21:=(ite_t hc22).symm.trans hA21
 cases hA21
 have hA21:=(ite_f hc22).symm.trans hA21
 refine W_skip (rj hR21 ⟨rfl,rfl,hst⟩)
 intro f w_ hR
 obtain ⟨sf0,sf1,hst⟩:=rk hR21 hR
 refine W_seq (sq (mF sf1 rfl (mF sf0 rfl (L_capN rfl Tryz.underlying44 rfl (mF sf0 rfl (L_len rfl Tryz.underlying44 rfl (slice_len (r:=RP.int) (t:=0) (rel_nil _ _ H)) (L_sub rfl rfl rfl (L_sub rfl rfl rfl (aI rfl (ns (mI rfl (L_gtr rfl rfl rfl (nn ?_)))))))))))))
 obtain ⟨s_23,hA25,hA20⟩:=bind_some hA20
 obtain ⟨R25,hR25⟩:=exR fun f w_=>∃ v23_s : Value,f 0 = v23_s∧Star H w_ ([oF 85 rTerm v23_s s_23])
 refine W_join R25 ?_ ?_
 refine W_cond (b:=decide ((i64 (size_2 - (i64 (0 - 0)))) > 0)) rfl (fun hc26=>?_) (fun hc26=>?_)
 have hA25:=(ite_t hc26).symm.trans hA25
 obtain ⟨x27,hx27,hA25⟩:=bind_some hA25
 obtain ⟨x31,hx31,hA25⟩:=bind_some hA25
 refine W_region (mF sf0 rfl (mF sf0 rfl (L_capN rfl Tryz.underlying44 rfl (L_slN rfl et_44 rfl rfl (mI rfl (L_appZ (R:=(OR.frz rTerm)) (z0:=({ coef:=0,lit:=0 } : Term)) (zc:=[I 0,I 0]) rfl et_44 Tryz.underlying3 (by kernel_rfl) (fun _ _=>⟨rfl,rTerm_iff.2 rfl⟩) rfl rfl hx27 hst (fun v34 w35 hst=>mF sf0 rfl (L_len rfl Tryz.underlying44 rfl (slice_len (r:=RP.int) (t:=0) (rel_nil _ _ H)) (L_slO (R:=(OR.frz rTerm)) (b:=0) rfl et_44 rfl hst trivial rfl hx31 (fun v37 hst=>aV v37 rfl (nn ?_)))))))))))
 obtain rfl:=so hA25
 exact rj hR25 ⟨v37,rfl,hst⟩
 have hA25:=(ite_f hc26).symm.trans hA25
 refine W_skip ?_
 obtain rfl:=so hA25
 have hst:=Star.addNil (R:=(OR.frz rTerm)) (e:=85) hst
 exact rj hR25 ⟨S0,sf0,hst⟩
 intro f w_ hR
 obtain ⟨v23_s,sf0,hst⟩:=rk hR25 hR
 refine sq (mF sf0 rfl (aV v23_s rfl (nn (W_ret (retG1 (v1:=v23_s) Tryz.results105 rfl ?_)))))
 obtain rfl:=so hA20
 show R20 _ _
 rw [hR20]
 exact ⟨v23_s,rfl,hst⟩
 intro v_20 w_ hR
 rw [hR20] at hR
 obtain ⟨v18_ret0,hvr20,hst⟩:=hR
 obtain rfl:=hvr20.symm
 clear hR20
 refine aV v18_ret0 rfl (nq (sq (mF sf0 rfl (L_len rfl Tryz.underlying133 rfl (slice_len h0) (mI rfl (nn ?_))))))
 have hlen43 : List.length slices≤9223372036854775807:=len_le (slice_len h0)
 obtain ⟨j43,hL43,hF⟩:=bind_some hF
 obtain ⟨R43,hR43⟩:=exR fun f w_=>∃ newslice_41 : List Term,∃ v41_newslice : Value,j43 = .nx newslice_41∧f 6 = v41_newslice∧Star H w_ ([oF 85 rTerm v41_newslice newslice_41])
 refine W_join R43 ?_ ?_
 refine W_block ?_
 obtain ⟨I43,hI43⟩:=exI fun n f w_=>∃ i_40 : Nat,∃ suf43 : List (List Term),∃ newslice_41 : List Term,∃ v41_newslice : Value,n = suf43.length∧List.drop i_40 slices = suf43∧i_40 + suf43.length = slices.length∧rangeL slices_Concat_implTerm_b3 suf43 i_40 newslice_41 = some j43∧f 6 = v41_newslice∧f 25 = v0∧f 26 = I (slices.length : Int)∧f 27 = I i_40∧Star H w_ ([oF 85 rTerm v41_newslice newslice_41])
 refine W_loop I43 (n:=slices.length) ?_ ?_
 exact ij hI43 ⟨0,slices,ret0_15,v18_ret0,rfl,rfl,Nat.zero_add _,hL43,rfl,rfl,rfl,rfl,hst⟩
 intro n43 f w_ hI
 obtain ⟨i_40,suf43,newslice_41,v41_newslice,rfl,hd43,hl43,hL43,sf6,sf25,sf26,sf27,hst⟩:=ik hI43 hI
 refine sq (L_lss rfl sf27 sf26 (nq (W_cond (b:=decide ((i_40 : Int) < (slices.length : Int))) rfl (fun hc44=>?_) (fun hc44=>?_))))
 have hlt43:=of_decide_eq_true hc44
 rcases suf43 with _ | ⟨x_43,rest43⟩
 exact absurd hlt43 (by simp at hl43; omega)
 obtain ⟨o43,hB43,hL43⟩:=range_cons hL43
 rw [slices_Concat_implTerm_b3] at hB43
 have hix43:=drop_idx hd43
 refine W_skip (W_seq (W_block (sq (L_ix (r:=(rS 85 rTerm)) rfl Tryz.underlying133 Tryz.sizeOf44 sf25 h0 sf27 hix43 (fun g49 o50 cs_g49 hrk_hat51 hat51=>?_)))))
 obtain ⟨u52,rfl,hu52⟩:=slice1 hrk_hat51
 refine L_ld rfl Tryz.isAgg44 rfl (At.cell (AtH.at hat51 hst.sub) (j:=0) rfl) (aV u52 rfl (nn ?_))
 obtain ⟨x53,hx53,hB43⟩:=bind_some hB43
 refine W_region (mF sf6 rfl (mV u52 rfl (L_app (v:=v41_newslice) (u:=u52) rfl et_44 rfl rfl hst hu52 hx53 (fun v57 w58 hst=>aV v57 rfl (nn (W_region (L_add rfl sf27 rfl (mI rfl (nn ?_)))))))))
 obtain rfl:=so hB43
 show ∃ m,m < _∧I43 m _ _
 refine ⟨rest43.length,by simp,?_⟩
 exact ij hI43 ⟨i_40 + 1,rest43,x53,v57,rfl,drop_next hd43,by simp at hl43; omega,hL43,rfl,sf25,sf26,(Eq.trans rfl (congrArg (Value.int .i64) (i64_succ (n:=slices.length) (by simp at hl43; omega) hlen43))),hst⟩
 rcases suf43 with _ | ⟨_,_⟩
 obtain rfl:=range_nil hL43
 refine W_exit (rj hR43 ⟨newslice_41,v41_newslice,rfl,sf6,hst⟩)
 exact absurd (of_decide_eq_false hc44) (by simp at hl43; omega)
 intro f w_ hR
 obtain ⟨newslice_41,v41_newslice,rfl,sf6,hst⟩:=rk hR43 hR
 refine sq (mF sf6 rfl (aV v41_newslice rfl (nn (W_ret (retG1 (v1:=v41_newslice) Tryz.results89 rfl ?_)))))
 obtain rfl:=so hF
 exact ⟨v41_newslice,rfl,hst⟩
theorem i_AddConstraints_c {a : Con} {b : Con} {v0_0 : Value} {v1_0 : Value} {H : FH} {w : World} {R : List Ass} (hst : Star H w R) (h0_0 : (rS 85 rTerm).rel H [v0_0] a.terms) (h1_0 : (rS 85 rTerm).rel H [v1_0] b.terms) {r : Con × Bool} (hF : i_AddConstraints a b = some r) :
 C Tryz.prog 77 #[.agg #[v0_0,I a.bound],.agg #[v1_0,I b.bound]] w fun v w'=>∃ H' : FH,Le H H'∧∃ (u1 : Value),v = .tuple #[.agg #[u1,I r.1.bound],Bo r.2]∧(rS 85 rTerm).rel H' [u1] r.1.terms∧Star H' w' (R):=by
 unfold i_AddConstraints at hF
 refine C_enter Tryz.func77 rfl Tryz.ntmps77 rfl (sq (L_box (v:=.agg #[v0_0,I a.bound]) (cs:=#[v0_0,I a.bound]) rfl rfl rfl hst (fun g7 w8 hst=>L_box (v:=.agg #[v1_0,I b.bound]) (cs:=#[v1_0,I b.bound]) rfl rfl rfl hst (fun g9 w10 hst=>L_al (cs:=#[S0,I 0]) rfl Tryz.zeroValue46 rfl hst (fun g11 w12 hst=>aB rfl (nq (W_seq ?_)))))))
 obtain ⟨x18,hx18,hF⟩:=bind_some hF
 obtain ⟨b27,hb27,hF⟩:=bind_some hF
 obtain ⟨R28,hR28⟩:=exR fun f w_=>f 2 = Pt g7∧f 3 = Pt g9∧f 4 = Pt g11∧f 13 = Bo b27∧Star H w_ (box g11 46 #[S0,I 0] :: box g9 46 #[v1_0,I b.bound] :: box g7 46 #[v0_0,I a.bound] :: R)
 refine W_join R28 ?_ ?_
 refine W_region (L_lda (cs:=[v0_0,I a.bound]) rfl Tryz.isAgg46 Tryz.sizeOf46 rfl (At.sub0 (Blk.at (Star.blkAt 2 hst rfl)) 0 2) rfl ?_)
 obtain ⟨H29b,l30,s31,z32,k33⟩:=hst.borrow
 refine L_call rfl Tryz.call52 (ops1 rfl) (i_ConstraintValid_c (c:=a) s31 (RP.mono _ h0_0 l30) hx18) ?_
 rintro _ w34 ⟨rfl,hst⟩
 have hst:=k33 hst c0
 refine L_not_ rfl rfl (mB rfl (L_split (d:=9) (b:=(!x18)) rfl (fun hc35=>?_) (fun hc35=>?_)))
 rw [ite_t hc35] at hb27
 refine ps rfl (ps rfl (ps rfl (L_pick (v:=Bo b27) rfl rfl (congrArg Value.bool (so hb27)) (nn (rj hR28 ⟨rfl,rfl,rfl,rfl,hst⟩)))))
 rw [ite_f hc35] at hb27
 obtain ⟨x25,hx25,hb27⟩:=bind_some hb27
 refine L_lda (cs:=[v1_0,I b.bound]) rfl Tryz.isAgg46 Tryz.sizeOf46 rfl (At.sub0 (Blk.at (Star.blkAt 1 hst rfl)) 0 2) rfl ?_
 obtain ⟨H36b,l37,s38,z39,k40⟩:=hst.borrow
 refine L_call rfl Tryz.call52 (ops1 rfl) (i_ConstraintValid_c (c:=b) s38 (RP.mono _ h1_0 l37) hx25) ?_
 rintro _ w41 ⟨rfl,hst⟩
 have hst:=k40 hst c0
 refine L_not_ rfl rfl (L_pick (v:=Bo b27) rfl rfl (congrArg Value.bool (so hb27)) (nn (rj hR28 ⟨rfl,rfl,rfl,rfl,hst⟩)))
 intro f w_ hR
 obtain ⟨sf2,sf3,sf4,sf13,hst⟩:=rk hR28 hR
 refine W_cond (b:=b27) sf13 (fun hc42=>?_) (fun hc42=>?_)
 have hF:=(ite_t hc42).symm.trans hF
 refine sq (L_bld rfl (parts0 ) (bld_46_  ) (L_staB (vs:=#[S0,I 0]) (cs2:=#[S0,I 0]) 0 rfl Tryz.sizeOf46 sf4 rfl rfl (ones_cons rfl (ones_cons rfl ones_nil)) hst rfl (by show 0 + 2≤2; decide) rfl (fun w44 hst=>aB rfl (nn (W_ret (retG2 (v1:=.agg #[S0,I 0]) (v2:=Bo false) Tryz.results77 (resV_agg Tryz.isAgg46 Tryz.sizeOf46 sf4 (Star.blkAt 0 hst rfl) rfl) rfl ?_))))))
 obtain rfl:=so hF
 have hst:=Star.drop 0 hst rfl
 have hst:=Star.drop 0 hst rfl
 have hst:=Star.drop 0 hst rfl
 exact ⟨H,(Le.refl _),S0,rfl,(rel_nil _ _ _),hst⟩
 have hF:=(ite_f hc42).symm.trans hF
 refine W_skip (W_seq ?_)
 obtain ⟨x54,hx54,hF⟩:=bind_some hF
 obtain ⟨x60,hx60,hF⟩:=bind_some hF
 refine W_drawS 14 [isV (Pt g7),isV (v0_0),isV (Pt g9),isV (v1_0),anyF,anyF,isV (Pq g7 1),isV (I a.bound),isV (Pq g9 1),isV (I b.bound),isV (I (i64 (a.bound + b.bound))),tup2 (exD (isData (rS 85 rTerm) x60.1.terms) fun u_0=>isV (.agg #[u_0,I x60.1.bound])) (isV (Bo x60.2)),exD (isData (rS 85 rTerm) x60.1.terms) fun u_0=>isV (.agg #[u_0,I x60.1.bound]),isV (Bo x60.2)] [box g11 46 #[S0,I 0],box g9 46 #[v1_0,I b.bound],box g7 46 #[v0_0,I a.bound]] [.made 4 19 (fun v_=>oF 44 (rS 85 rTerm) v_ ([a.terms,b.terms])) none,.made 5 20 (fun v_=>oF 85 rTerm v_ x54) (some 11)] (R) [([],[]),([],[]),([],[]),([],[]),([],[0]),([0],[0,1]),([],[]),([],[]),([],[]),([],[]),([],[]),([1],[]),([],[]),([],[])] (S:=[(some 4,[19],none),(some 5,[20],some 11)]) Tryz_mix (by kernel_rfl) rfl (by kernel_rfl) (amF_cons (mono_V _) (amF_cons (mono_V _) (amF_cons (mono_V _) (amF_cons (mono_V _) (amF_cons (mono_any) (amF_cons (mono_any) (amF_cons (mono_V _) (amF_cons (mono_V _) (amF_cons (mono_V _) (amF_cons (mono_V _) (amF_cons (mono_V _) (amF_cons (mono_tup2 (mono_exD (mono_data _ _) fun _=>mono_V _) (mono_V _)) (amF_cons (mono_exD (mono_data _ _) fun _=>mono_V _) (amF_cons (mono_V _) amF_nil)))))))))))))) hst ?_ (fun f w_ H63 hS63 hE63 hT63 hst=>?_)
 refine opsS_cons (fun f w_ _ _ s _ _ hst=>fA 0 fa_46_0 ((s 2 rfl).trans sf2) rfl (nO rfl rfl hst)) (opsS_cons (fun f w_ _ _ _ _ p hst=>ldB 2 hst Tryz.isAgg44 (p 0 15 rfl rfl) rfl rfl (nO rfl rfl hst)) (opsS_cons (fun f w_ _ _ s _ _ hst=>fA 0 fa_46_0 ((s 3 rfl).trans sf3) rfl (nO rfl rfl hst)) (opsS_cons (fun f w_ _ _ _ _ p hst=>ldB 1 hst Tryz.isAgg44 (p 2 17 rfl rfl) rfl rfl (nO rfl rfl hst)) (opsS_cons ?_ ?_))))
 intro f w_ H63 X63 hS63 hE63 hP63 hst
 refine L_bs rfl (parts2 (hP63 1 16 rfl rfl) (hP63 3 18 rfl rfl)) (bs_133_2_0_0 (v0_0) (v1_0) (one_len (slice_len (RP.mono _ h0_0 hE63))) (one_len (slice_len (RP.mono _ h1_0 hE63)))) hst (fun g79 w80 hst=>?_)
 have hst:=Star.addF (r:=(rS 85 rTerm)) (cs:=[v1_0]) (x:=b.terms) hst (RP.mono _ h1_0 hE63)
 have hst:=Star.addF (r:=(rS 85 rTerm)) (cs:=[v0_0]) (x:=a.terms) hst (RP.mono _ h0_0 hE63)
 have hst:=Star.mkRow (R:=(OR.frz (rS 85 rTerm))) [([v0_0],a.terms),([v1_0],b.terms)] [a.terms,b.terms] 2 hst rfl rfl rfl (by decide)
 have hst:=hst.gets [3,3,3] rfl
 exact L_nil ⟨rfl,_,_,rfl,Le.refl _,fun _ _=>trivial,hst⟩
 refine opsS_cons ?_ ?_
 intro f w_ H63 X63 hS63 hE63 hP63 hst
 have hst : Star H63 w_ (box g11 46 #[S0,I 0] :: box g9 46 #[v1_0,I b.bound] :: box g7 46 #[v0_0,I a.bound] :: oF 44 (rS 85 rTerm) (f 19) ([a.terms,b.terms]) :: X63):=hst
 obtain ⟨H83b,l84,s85,z86,k87⟩:=hst.borrow
 have hb88 : (rS 44 (rS 85 rTerm)).rel H83b [(f 19)] ([a.terms,b.terms]):=fz_own 3 z86 rfl
 refine L_call rfl Tryz.call89 (ops1 rfl) (slices_Concat_implTerm_c (slices:=[a.terms,b.terms]) s85 hb88 hx54) ?_
 rintro r89_0 w89 ⟨_,rfl,hst⟩
 have hst:=k87 hst (co closed_term c0)
 have hst:=hst.gets [4,4,4,4] rfl
 exact L_nil ⟨rfl,_,_,rfl,Le.refl _,fun _ _=>trivial,hst⟩
 refine opsS_cons (fun f w_ _ _ s _ _ hst=>fA 1 fa_46_1 ((s 2 rfl).trans sf2) rfl (nO rfl rfl hst)) (opsS_cons (fun f w_ _ _ _ _ p hst=>ldB 2 hst Tryz.isAgg3 (p 6 21 rfl rfl) rfl rfl (nO rfl rfl hst)) (opsS_cons (fun f w_ _ _ s _ _ hst=>fA 1 fa_46_1 ((s 3 rfl).trans sf3) rfl (nO rfl rfl hst)) (opsS_cons (fun f w_ _ _ _ _ p hst=>ldB 1 hst Tryz.isAgg3 (p 8 23 rfl rfl) rfl rfl (nO rfl rfl hst)) (opsS_cons (fun f w_ _ _ _ _ p hst=>L_add rfl (p 7 22 rfl rfl) (p 9 24 rfl rfl) (nO rfl rfl hst)) (opsS_cons ?_ ?_)))))
 intro f w_ H63 X63 hS63 hE63 hP63 hst
 have hst : Star H63 w_ (box g11 46 #[S0,I 0] :: box g9 46 #[v1_0,I b.bound] :: box g7 46 #[v0_0,I a.bound] :: oF 85 rTerm (f 20) x54 :: X63):=hst
 have hst:=hst.get 3 rfl
 obtain ⟨H92,l93,hst,hz94⟩:=Star.freeze hst
 have hz94 : (rS 85 rTerm).rel H92 [(f 20)] x54:=hz94
 refine L_call rfl Tryz.call88 (ops2 rfl (hP63 10 25 rfl rfl)) (i_normal_c (terms:=x54) (bound:=i64 (a.bound + b.bound)) hst hz94 hx60) ?_
 rintro _ w95 ⟨H95,l95,r95_0,rfl,hr95_0,hst⟩
 exact L_nil ⟨rfl,_,_,rfl,(Le.trans l93 l95),fun _ _=>⟨_,_,rfl,⟨_,hr95_0,rfl⟩,rfl⟩,hst⟩
 refine opsS_cons ?_ ?_
 intro f w_ H63 X63 hS63 hE63 hP63 hst
 obtain ⟨a96_0,a96_1,hv96,ht96_0,ht96_1⟩:=(hP63 11 26 rfl rfl)
 obtain ⟨u97_0,hu97_0,rfl⟩:=ht96_0
 obtain rfl:=ht96_1
 refine L_ex (v:=.agg #[u97_0,I x60.1.bound]) rfl hv96 rfl (L_nil ⟨rfl,_,_,rfl,Le.refl _,fun _ _=>⟨_,hu97_0,rfl⟩,hst⟩)
 refine opsS_cons ?_ ?_
 intro f w_ H63 X63 hS63 hE63 hP63 hst
 obtain ⟨a98_0,a98_1,hv98,ht98_0,ht98_1⟩:=(hP63 11 26 rfl rfl)
 obtain ⟨u99_0,hu99_0,rfl⟩:=ht98_0
 obtain rfl:=ht98_1
 refine L_ex (v:=Bo x60.2) rfl hv98 rfl (L_nil ⟨rfl,_,_,rfl,Le.refl _,fun _ _=>rfl,hst⟩)
 exact opsS_nil
 have hst : Star H63 w_ (box g11 46 #[S0,I 0] :: box g9 46 #[v1_0,I b.bound] :: box g7 46 #[v0_0,I a.bound] :: oF 44 (rS 85 rTerm) (f 19) ([a.terms,b.terms]) :: R):=hst
 obtain ⟨u100_0,hu100_0,hv100⟩:=(hT63 12 27 rfl rfl)
 refine L_staB (vs:=#[u100_0,I x60.1.bound]) (cs2:=#[u100_0,I x60.1.bound]) 0 rfl Tryz.sizeOf46 ((hS63 4 rfl).trans sf4) hv100 rfl (ones_cons (one_len (slice_len hu100_0)) (ones_cons rfl ones_nil)) hst rfl (by show 0 + 2≤2; decide) rfl (fun w101 hst=>aF (hT63 13 28 rfl rfl) rfl (nn (W_ret (retG2 (v1:=.agg #[u100_0,I x60.1.bound]) (v2:=Bo x60.2) Tryz.results77 (resV_agg Tryz.isAgg46 Tryz.sizeOf46 ((hS63 4 rfl).trans sf4) (Star.blkAt 0 hst rfl) rfl) rfl ?_))))
 obtain rfl:=so hF
 have hst:=Star.drop 0 hst rfl
 have hst:=Star.drop 0 hst rfl
 have hst:=Star.drop 0 hst rfl
 have hst:=Star.drop 0 hst rfl
 exact ⟨H63,hE63,u100_0,rfl,hu100_0,hst⟩
theorem i_Constraint_changed_c {c : Con} {change : (Int→Option Int)} {v0_0 : Value} {v1 : Value} {H : FH} {w : World} {R : List Ass} (hst : Star H w R) (h0_0 : (rS 85 rTerm).rel H [v0_0] c.terms) (h1 : Fun1 Tryz.prog RP.int false (Value.int .i64) change v1 H) {r : Con × Bool} (hF : i_Constraint_changed c change = some r) :
 C Tryz.prog 90 #[.agg #[v0_0,I c.bound],v1] w fun v w'=>∃ H' : FH,Le H H'∧∃ (u1 : Value),v = .tuple #[.agg #[u1,I r.1.bound],Bo r.2]∧(rS 85 rTerm).rel H' [u1] r.1.terms∧Star H' w' (R):=by
 unfold i_Constraint_changed at hF
 obtain ⟨fid_1,caps_1,rfl,hcall_1,hc_1⟩:=h1
 refine C_enter Tryz.func90 rfl Tryz.ntmps90 rfl (sq (L_box (v:=.agg #[v0_0,I c.bound]) (cs:=#[v0_0,I c.bound]) rfl rfl rfl hst (fun g5 w6 hst=>L_al (cs:=#[S0,I 0]) rfl Tryz.zeroValue46 rfl hst (fun g7 w8 hst=>aB rfl (nq ?_)))))
 obtain ⟨x14,hx14,hF⟩:=bind_some hF
 refine W_region (L_lda (cs:=[v0_0,I c.bound]) rfl Tryz.isAgg46 Tryz.sizeOf46 rfl (At.sub0 (Blk.at (Star.blkAt 1 hst rfl)) 0 2) rfl ?_)
 obtain ⟨H20b,l21,s22,z23,k24⟩:=hst.borrow
 refine L_call rfl Tryz.call56 (ops1 rfl) (i_Constraint_own_c (c:=c) s22 (RP.mono _ h0_0 l21) hx14) ?_
 rintro _ w25 ⟨r25_0,rfl,hst⟩
 have hst:=k24 hst (co closed_term c0)
 refine L_al (cs:=#[S0,I 0]) rfl Tryz.zeroValue46 rfl hst (fun g27 w28 hst=>L_staB (vs:=#[r25_0,I x14.bound]) (cs2:=#[r25_0,I x14.bound]) 0 rfl Tryz.sizeOf46 rfl rfl rfl (ones_cons (one_len (Star.len 1 hst rfl)) (ones_cons rfl ones_nil)) hst rfl (by show 0 + 2≤2; decide) rfl (fun w29 hst=>nq ?_))
 obtain ⟨x30,hx30,hF⟩:=bind_some hF
 refine W_region (mV (.func (.func fid_1) #[] caps_1) rfl (fA 1 fa_46_1 rfl rfl (ldB 3 hst Tryz.isAgg3 rfl rfl rfl ?_)))
 obtain ⟨H38b,l39,s40,z41,k42⟩:=hst.borrow
 refine L_callv (args:=#[I c.bound]) rfl hcall_1 rfl (ops1 rfl) (hc_1 _ _ l39 s40 [I c.bound] _ _ _ rfl hx30 (args_app rfl)) ?_
 rintro _ w43 ⟨rfl,hst⟩
 have hst:=k42 hst c0
 refine fA 1 fa_46_1 rfl rfl (L_stB (v:=I x30) (cs2:=#[r25_0,I x30]) 0 rfl Tryz.sizeOf3 rfl rfl rfl hst rfl rfl rfl (fun w44 hst=>nq (sq (fA 0 fa_46_0 rfl rfl (ldB 0 hst Tryz.isAgg44 rfl rfl rfl (L_len rfl Tryz.underlying44 rfl (Star.len 1 hst rfl) (mI rfl (nn ?_))))))))
 have hlen49 : List.length x14.terms≤9223372036854775807:=len_le (Star.len 1 hst rfl)
 obtain ⟨j49,hL49,hF⟩:=bind_some hF
 obtain ⟨R49,hR49⟩:=exR fun f w_=>∃ g27_0_46 : List Term,∃ H47 : FH,j49 = .nx g27_0_46∧Le H H47∧f 4 = Pt g7∧f 6 = Pt g27∧Star H47 w_ (oF 85 rTerm r25_0 g27_0_46 :: box g27 46 #[r25_0,I x30] :: box g7 46 #[S0,I 0] :: R)
 refine W_join R49 ?_ ?_
 refine W_block ?_
 obtain ⟨I49,hI49⟩:=exI fun n f w_=>∃ i_45 : Nat,∃ suf49 : List Term,∃ g27_0_46 : List Term,∃ H47 : FH,n = suf49.length∧List.drop i_45 x14.terms = suf49∧i_45 + suf49.length = x14.terms.length∧rangeL (i_Constraint_changed_b1 change) suf49 i_45 g27_0_46 = some j49∧Le H H47∧f 1 = .func (.func fid_1) #[] caps_1∧f 4 = Pt g7∧f 6 = Pt g27∧f 17 = I (x14.terms.length : Int)∧f 18 = I i_45∧Star H47 w_ (oF 85 rTerm r25_0 g27_0_46 :: box g27 46 #[r25_0,I x30] :: box g7 46 #[S0,I 0] :: R)
 have hst:=hst.gets [2,1,2] rfl
 have hst:=Star.drop 3 hst rfl
 refine W_loop I49 (n:=x14.terms.length) ?_ ?_
 exact ij hI49 ⟨0,x14.terms,x14.terms,H,rfl,rfl,Nat.zero_add _,hL49,(Le.refl _),rfl,rfl,rfl,rfl,rfl,hst⟩
 intro n49 f w_ hI
 obtain ⟨i_45,suf49,g27_0_46,H47,rfl,hd49,hl49,hL49,l48,sf1,sf4,sf6,sf17,sf18,hst⟩:=ik hI49 hI
 refine sq (L_lss rfl sf18 sf17 (nq (W_cond (b:=decide ((i_45 : Int) < (x14.terms.length : Int))) rfl (fun hc50=>?_) (fun hc50=>?_))))
 have hlt49:=of_decide_eq_true hc50
 rcases suf49 with _ | ⟨x_49,rest49⟩
 exact absurd hlt49 (by simp at hl49; omega)
 obtain ⟨o49,hB49,hL49⟩:=range_cons hL49
 rw [i_Constraint_changed_b1] at hB49
 have hix49:=drop_idx hd49
 refine W_skip (W_seq (W_block (sq (mF sf18 rfl (aI rfl (nn ?_))))))
 obtain ⟨x51,hx51,hB49⟩:=bind_some hB49
 obtain ⟨x56,hx56,hB49⟩:=bind_some hB49
 obtain ⟨g65,cap_g65,hv66,_,_⟩:=Star.row 0 hst rfl hx51
 refine W_drawS 11 [isV (Pt g27),isV (r25_0),isV (I i_45),isV (.func (.func fid_1) #[] caps_1),isV (Pt g27),isV (r25_0),isV (I i_45),isV (.pointer (some ⟨g65,Int.toNat (i_45 : Int) * 2,none⟩)),isV (.pointer (some ⟨g65,Int.toNat (i_45 : Int) * 2 + 0,none⟩)),isV (I x51.coef),isV (I x56)] [oF 85 rTerm r25_0 g27_0_46,box g27 46 #[r25_0,I x30],box g7 46 #[S0,I 0]] [] (R) [([],[]),([],[]),([],[]),([],[]),([],[]),([],[]),([],[]),([],[]),([],[]),([],[]),([],[])] (S:=[]) Tryz_mix (by kernel_rfl) rfl (by kernel_rfl) (amF_cons (mono_V _) (amF_cons (mono_V _) (amF_cons (mono_V _) (amF_cons (mono_V _) (amF_cons (mono_V _) (amF_cons (mono_V _) (amF_cons (mono_V _) (amF_cons (mono_V _) (amF_cons (mono_V _) (amF_cons (mono_V _) (amF_cons (mono_V _) amF_nil))))))))))) hst ?_ (fun f w_ H64 hS64 hE64 hT64 hst=>?_)
 refine opsS_cons (fun f w_ _ _ s _ _ hst=>fA 0 fa_46_0 ((s 6 rfl).trans sf6) rfl (nO rfl rfl hst)) (opsS_cons (fun f w_ _ _ _ _ p hst=>ldB 1 hst Tryz.isAgg44 (p 0 21 rfl rfl) rfl rfl (nO rfl rfl hst)) (opsS_cons (fun f w_ _ _ s _ _ hst=>mF ((s 7 rfl).trans rfl) rfl (nO rfl rfl hst)) (opsS_cons (fun f w_ _ _ s _ _ hst=>mF ((s 1 rfl).trans sf1) rfl (nO rfl rfl hst)) (opsS_cons (fun f w_ _ _ s _ _ hst=>fA 0 fa_46_0 ((s 6 rfl).trans sf6) rfl (nO rfl rfl hst)) (opsS_cons (fun f w_ _ _ _ _ p hst=>ldB 1 hst Tryz.isAgg44 (p 4 25 rfl rfl) rfl rfl (nO rfl rfl hst)) (opsS_cons (fun f w_ _ _ s _ _ hst=>mF ((s 7 rfl).trans rfl) rfl (nO rfl rfl hst)) (opsS_cons (fun f w_ _ _ _ _ p hst=>L_ixO (R:=(OR.frz rTerm)) (tb:=0) 0 rfl Tryz.underlying44 Tryz.sizeOf85 (p 5 26 rfl rfl) hv66 (by first | rfl | simp) (p 6 27 rfl rfl) hx51 (nO rfl rfl hst)) (opsS_cons (fun f w_ _ _ _ _ p hst=>fA (Int.toNat (i_45 : Int) * 2 + 0) fa_85_0 (p 7 28 rfl rfl) rfl (nO rfl rfl hst)) (opsS_cons ?_ ?_)))))))))
 intro f w_ H64 X64 hS64 hE64 hP64 hst
 obtain ⟨cs75,hr75,hat75⟩:=Star.eltF 0 hst rfl hv66 hx51
 obtain rfl:=rTerm_iff.1 hr75
 refine L_ld rfl Tryz.isAgg3 (hP64 8 29 rfl rfl) (At.cell hat75 (j:=0) rfl) (L_nil ⟨rfl,_,_,rfl,Le.refl _,fun _ _=>rfl,hst⟩)
 refine opsS_cons ?_ ?_
 intro f w_ H64 X64 hS64 hE64 hP64 hst
 obtain ⟨H77b,l78,s79,z80,k81⟩:=hst.borrow
 refine L_callv (args:=#[I x51.coef]) rfl hcall_1 (hP64 3 24 rfl rfl) (ops1 (hP64 9 30 rfl rfl)) (hc_1 _ _ (Le.trans (Le.trans l48 hE64) l78) s79 [I x51.coef] _ _ _ rfl hx56 (args_app rfl)) ?_
 rintro _ w82 ⟨rfl,hst⟩
 have hst:=k81 hst c0
 exact L_nil ⟨rfl,_,_,rfl,Le.refl _,fun _ _=>rfl,hst⟩
 exact opsS_nil
 refine L_ixO (R:=(OR.frz rTerm)) (tb:=0) 0 rfl Tryz.underlying44 Tryz.sizeOf85 (hT64 1 22 rfl rfl) hv66 (by first | rfl | simp) (hT64 2 23 rfl rfl) hx51 (fA (Int.toNat (i_45 : Int) * 2 + 0) fa_85_0 rfl rfl (L_stF (j:=0) (u:=I x56) (z:={ x51 with coef:=x56 }) rfl Tryz.sizeOf3 rfl rfl (hT64 10 31 rfl rfl) rfl hv66 hst hx51 fldF_rTerm_0 (fun w83 hst=>nn (W_region (L_add rfl ((hS64 18 rfl).trans sf18) rfl (mI rfl (nn ?_)))))))
 obtain rfl:=so hB49
 show ∃ m,m < _∧I49 m _ _
 refine ⟨rest49.length,by simp,?_⟩
 exact ij hI49 ⟨i_45 + 1,rest49,(g27_0_46.set (Int.toNat (i_45 : Int)) ({ x51 with coef:=x56 })),H64,rfl,drop_next hd49,by simp at hl49; omega,hL49,(Le.trans l48 hE64),((hS64 1 rfl).trans sf1),((hS64 4 rfl).trans sf4),((hS64 6 rfl).trans sf6),((hS64 17 rfl).trans sf17),(Eq.trans rfl (congrArg (Value.int .i64) (i64_succ (n:=x14.terms.length) (by simp at hl49; omega) hlen49))),hst⟩
 rcases suf49 with _ | ⟨_,_⟩
 obtain rfl:=range_nil hL49
 refine W_exit (rj hR49 ⟨g27_0_46,H47,rfl,l48,sf4,sf6,hst⟩)
 exact absurd (of_decide_eq_false hc50) (by simp at hl49; omega)
 intro f w_ hR
 obtain ⟨g27_0_46,H47,rfl,l48,sf4,sf6,hst⟩:=rk hR49 hR
 refine W_seq ?_
 obtain ⟨x87,hx87,hF⟩:=bind_some hF
 refine W_region (L_lda (cs:=[r25_0,I x30]) rfl Tryz.isAgg46 Tryz.sizeOf46 sf6 (At.sub0 (Blk.at (Star.blkAt 1 hst rfl)) 0 2) rfl ?_)
 obtain ⟨H90,l91,hst,hz92⟩:=Star.freeze hst
 have hz92 : (rS 85 rTerm).rel H90 [r25_0] g27_0_46:=hz92
 refine L_call rfl Tryz.call104 (ops1 rfl) (i_Constraint_valid_c (c:=({ terms:=g27_0_46,bound:=x30 } : Con)) hst hz92 hx87) ?_
 rintro _ w93 ⟨H93,l93,r93_0,rfl,hr93_0,hst⟩
 refine L_ex (v:=.agg #[r93_0,I x87.1.bound]) rfl rfl rfl (L_ex (v:=Bo x87.2) rfl rfl rfl (L_staB (vs:=#[r93_0,I x87.1.bound]) (cs2:=#[r93_0,I x87.1.bound]) 1 rfl Tryz.sizeOf46 sf4 rfl rfl (ones_cons (one_len (slice_len hr93_0)) (ones_cons rfl ones_nil)) hst rfl (by show 0 + 2≤2; decide) rfl (fun w94 hst=>aB rfl (nn (W_ret (retG2 (v1:=.agg #[r93_0,I x87.1.bound]) (v2:=Bo x87.2) Tryz.results90 (resV_agg Tryz.isAgg46 Tryz.sizeOf46 sf4 (Star.blkAt 0 hst rfl) rfl) rfl ?_))))))
 obtain rfl:=so hF
 have hst:=Star.drop 0 hst rfl
 have hst:=Star.drop 0 hst rfl
 exact ⟨H93,(Le.trans (Le.trans l48 l91) l93),r93_0,rfl,hr93_0,hst⟩
theorem i_MultiplyConstraint_1_c {c1 : Int} {n_ : Int} {g_c1 : Nat} {H : FH} {w : World} (hst : Star H w []) (hat_g_c1 : AtH H g_c1 0 [I c1]) {r : Int} (hF : i_MultiplyConstraint_1 c1 n_ = some r) :
 C Tryz.prog 91 #[I n_,Pt g_c1] w fun v w'=>v = I r∧Star H w' []:=by
 unfold i_MultiplyConstraint_1 at hF
 refine C_enter Tryz.func91 rfl Tryz.ntmps91 rfl (sq (aI rfl (ns (mI rfl (L_ld rfl Tryz.isAgg3 rfl (At.cell0 (AtH.at hat_g_c1 hst.sub) (j:=0) rfl) (L_mul rfl rfl rfl (aI rfl (nn (W_ret (retG1 (v1:=I (i64 (n_ * c1))) Tryz.results91 rfl ?_))))))))))
 obtain rfl:=so hF
 exact ⟨rfl,hst⟩
theorem i_MultiplyConstraint_c {c : Con} {k : Int} {v0_0 : Value} {H : FH} {w : World} {R : List Ass} (hst : Star H w R) (h0_0 : (rS 85 rTerm).rel H [v0_0] c.terms) {r : Con × Bool} (hF : i_MultiplyConstraint c k = some r) :
 C Tryz.prog 78 #[.agg #[v0_0,I c.bound],I k] w fun v w'=>∃ H' : FH,Le H H'∧∃ (u1 : Value),v = .tuple #[.agg #[u1,I r.1.bound],Bo r.2]∧(rS 85 rTerm).rel H' [u1] r.1.terms∧Star H' w' (R):=by
 unfold i_MultiplyConstraint at hF
 refine C_enter Tryz.func78 rfl Tryz.ntmps78 rfl (sq (L_box (v:=.agg #[v0_0,I c.bound]) (cs:=#[v0_0,I c.bound]) rfl rfl rfl hst (fun g7 w8 hst=>L_box (v:=I k) (cs:=#[I k]) rfl rfl rfl hst (fun g9 w10 hst=>L_al (cs:=#[S0,I 0]) rfl Tryz.zeroValue46 rfl hst (fun g11 w12 hst=>aB rfl (nq (W_seq ?_)))))))
 obtain ⟨x18,hx18,hF⟩:=bind_some hF
 obtain ⟨b27,hb27,hF⟩:=bind_some hF
 obtain ⟨R28,hR28⟩:=exR fun f w_=>f 2 = Pt g7∧f 3 = Pt g9∧f 4 = Pt g11∧f 13 = Bo b27∧Star H w_ (box g11 46 #[S0,I 0] :: box g9 3 #[I k] :: box g7 46 #[v0_0,I c.bound] :: R)
 refine W_join R28 ?_ ?_
 refine W_region (L_lda (cs:=[v0_0,I c.bound]) rfl Tryz.isAgg46 Tryz.sizeOf46 rfl (At.sub0 (Blk.at (Star.blkAt 2 hst rfl)) 0 2) rfl ?_)
 obtain ⟨H29b,l30,s31,z32,k33⟩:=hst.borrow
 refine L_call rfl Tryz.call52 (ops1 rfl) (i_ConstraintValid_c (c:=c) s31 (RP.mono _ h0_0 l30) hx18) ?_
 rintro _ w34 ⟨rfl,hst⟩
 have hst:=k33 hst c0
 refine L_not_ rfl rfl (mB rfl (L_split (d:=9) (b:=(!x18)) rfl (fun hc35=>?_) (fun hc35=>?_)))
 rw [ite_t hc35] at hb27
 refine ps rfl (ps rfl (ps rfl (L_pick (v:=Bo b27) rfl rfl (congrArg Value.bool (so hb27)) (nn (rj hR28 ⟨rfl,rfl,rfl,rfl,hst⟩)))))
 rw [ite_f hc35] at hb27
 obtain ⟨x25,hx25,hb27⟩:=bind_some hb27
 refine ldB 1 hst Tryz.isAgg3 rfl rfl rfl ?_
 obtain ⟨H36b,l37,s38,z39,k40⟩:=hst.borrow
 refine L_call rfl Tryz.call34 (ops3 rfl rfl rfl) (i_within_c (n_:=k) (low:=1) (high:=1000) s38 hx25) ?_
 rintro _ w41 ⟨rfl,hst⟩
 have hst:=k40 hst c0
 refine L_not_ rfl rfl (L_pick (v:=Bo b27) rfl rfl (congrArg Value.bool (so hb27)) (nn (rj hR28 ⟨rfl,rfl,rfl,rfl,hst⟩)))
 intro f w_ hR
 obtain ⟨sf2,sf3,sf4,sf13,hst⟩:=rk hR28 hR
 refine W_cond (b:=b27) sf13 (fun hc42=>?_) (fun hc42=>?_)
 have hF:=(ite_t hc42).symm.trans hF
 refine sq (L_bld rfl (parts0 ) (bld_46_  ) (L_staB (vs:=#[S0,I 0]) (cs2:=#[S0,I 0]) 0 rfl Tryz.sizeOf46 sf4 rfl rfl (ones_cons rfl (ones_cons rfl ones_nil)) hst rfl (by show 0 + 2≤2; decide) rfl (fun w44 hst=>aB rfl (nn (W_ret (retG2 (v1:=.agg #[S0,I 0]) (v2:=Bo false) Tryz.results78 (resV_agg Tryz.isAgg46 Tryz.sizeOf46 sf4 (Star.blkAt 0 hst rfl) rfl) rfl ?_))))))
 obtain rfl:=so hF
 have hst:=Star.drop 0 hst rfl
 have hst:=Star.drop 0 hst rfl
 have hst:=Star.drop 0 hst rfl
 exact ⟨H,(Le.refl _),S0,rfl,(rel_nil _ _ _),hst⟩
 have hF:=(ite_f hc42).symm.trans hF
 refine W_skip (W_seq ?_)
 obtain ⟨x48,hx48,hF⟩:=bind_some hF
 refine W_region (L_lda (cs:=[v0_0,I c.bound]) rfl Tryz.isAgg46 Tryz.sizeOf46 sf2 (At.sub0 (Blk.at (Star.blkAt 2 hst rfl)) 0 2) rfl (L_mf rfl (ops1 sf3) ?_))
 have hst:=hst.get 1 rfl
 obtain ⟨H51,l52,hst,hz_hat53⟩:=Star.freeze hst
 have hat53 : AtH H51 g9 0 [I k]:=AtH.of hz_hat53
 have hf54 : Fun1 Tryz.prog RP.int false (Value.int .i64) (i_MultiplyConstraint_1 k) (.func (.func 91) #[] #[Pt g9]) H51:=by
   refine ⟨_,_,rfl,Tryz.call91,fun H_ w_ hE_ hs_ cs_ x_ y_ args_ hr_ hy_ ha_=>?_⟩
   obtain rfl : cs_ = [_]:=hr_
   obtain rfl:=args_of (b:=#[I x_,Pt g9]) ha_
   exact i_MultiplyConstraint_1_c (c1:=k) (n_:=x_) hs_ (AtH.le (AtH.le hat53 (Le.refl _)) hE_) hy_
 refine L_call rfl Tryz.call90 (ops2 rfl rfl) (i_Constraint_changed_c (c:=c) (change:=(i_MultiplyConstraint_1 k)) hst (RP.mono _ h0_0 l52) hf54 hx48) ?_
 rintro _ w55 ⟨H55,l55,r55_0,rfl,hr55_0,hst⟩
 refine L_ex (v:=.agg #[r55_0,I x48.1.bound]) rfl rfl rfl (L_ex (v:=Bo x48.2) rfl rfl rfl (L_staB (vs:=#[r55_0,I x48.1.bound]) (cs2:=#[r55_0,I x48.1.bound]) 0 rfl Tryz.sizeOf46 sf4 rfl rfl (ones_cons (one_len (slice_len hr55_0)) (ones_cons rfl ones_nil)) hst rfl (by show 0 + 2≤2; decide) rfl (fun w56 hst=>aB rfl (nn (W_ret (retG2 (v1:=.agg #[r55_0,I x48.1.bound]) (v2:=Bo x48.2) Tryz.results78 (resV_agg Tryz.isAgg46 Tryz.sizeOf46 sf4 (Star.blkAt 0 hst rfl) rfl) rfl ?_))))))
 obtain rfl:=so hF
 have hst:=Star.drop 0 hst rfl
 have hst:=Star.drop 0 hst rfl
 exact ⟨H55,(Le.trans l52 l55),r55_0,rfl,hr55_0,hst⟩
theorem i_DivideConstraint_1_c {c1 : Int} {n_ : Int} {g_c1 : Nat} {H : FH} {w : World} (hst : Star H w []) (hat_g_c1 : AtH H g_c1 0 [I c1]) {r : Int} (hF : i_DivideConstraint_1 c1 n_ = some r) :
 C Tryz.prog 92 #[I n_,Pt g_c1] w fun v w'=>v = I r∧Star H w' []:=by
 unfold i_DivideConstraint_1 at hF
 refine C_enter Tryz.func92 rfl Tryz.ntmps92 rfl (sq (aI rfl (nq ?_)))
 obtain ⟨q1,hq1,hF⟩:=bind_some hF
 refine W_region (mI rfl (L_ld rfl Tryz.isAgg3 rfl (At.cell0 (AtH.at hat_g_c1 hst.sub) (j:=0) rfl) (L_add rfl rfl rfl (L_sub rfl rfl rfl (L_ld rfl Tryz.isAgg3 rfl (At.cell0 (AtH.at hat_g_c1 hst.sub) (j:=0) rfl) (L_quo (m:=i64 ((i64 (n_ + c1)) - 1)) (n:=c1) rfl rfl rfl (fun he=>by rw [if_pos he] at hq1; cases hq1) (aI rfl (nn (W_ret (retG1 (v1:=I (i64 (Int.tdiv (i64 ((i64 (n_ + c1)) - 1)) c1))) Tryz.results92 rfl ?_))))))))))
 obtain rfl:=so hF
 exact ⟨rfl,hst⟩
theorem i_DivideConstraint_c {c : Con} {k : Int} {v0_0 : Value} {H : FH} {w : World} {R : List Ass} (hst : Star H w R) (h0_0 : (rS 85 rTerm).rel H [v0_0] c.terms) {r : Con × Bool} (hF : i_DivideConstraint c k = some r) :
 C Tryz.prog 79 #[.agg #[v0_0,I c.bound],I k] w fun v w'=>∃ H' : FH,Le H H'∧∃ (u1 : Value),v = .tuple #[.agg #[u1,I r.1.bound],Bo r.2]∧(rS 85 rTerm).rel H' [u1] r.1.terms∧Star H' w' (R):=by
 unfold i_DivideConstraint at hF
 refine C_enter Tryz.func79 rfl Tryz.ntmps79 rfl (sq (L_box (v:=.agg #[v0_0,I c.bound]) (cs:=#[v0_0,I c.bound]) rfl rfl rfl hst (fun g7 w8 hst=>L_box (v:=I k) (cs:=#[I k]) rfl rfl rfl hst (fun g9 w10 hst=>L_al (cs:=#[S0,I 0]) rfl Tryz.zeroValue46 rfl hst (fun g11 w12 hst=>aB rfl (nq (W_seq ?_)))))))
 obtain ⟨x18,hx18,hF⟩:=bind_some hF
 obtain ⟨b27,hb27,hF⟩:=bind_some hF
 obtain ⟨R28,hR28⟩:=exR fun f w_=>f 2 = Pt g7∧f 3 = Pt g9∧f 4 = Pt g11∧f 13 = Bo b27∧Star H w_ (box g11 46 #[S0,I 0] :: box g9 3 #[I k] :: box g7 46 #[v0_0,I c.bound] :: R)
 refine W_join R28 ?_ ?_
 refine W_region (L_lda (cs:=[v0_0,I c.bound]) rfl Tryz.isAgg46 Tryz.sizeOf46 rfl (At.sub0 (Blk.at (Star.blkAt 2 hst rfl)) 0 2) rfl ?_)
 obtain ⟨H29b,l30,s31,z32,k33⟩:=hst.borrow
 refine L_call rfl Tryz.call52 (ops1 rfl) (i_ConstraintValid_c (c:=c) s31 (RP.mono _ h0_0 l30) hx18) ?_
 rintro _ w34 ⟨rfl,hst⟩
 have hst:=k33 hst c0
 refine L_not_ rfl rfl (mB rfl (L_split (d:=9) (b:=(!x18)) rfl (fun hc35=>?_) (fun hc35=>?_)))
 rw [ite_t hc35] at hb27
 refine ps rfl (ps rfl (ps rfl (L_pick (v:=Bo b27) rfl rfl (congrArg Value.bool (so hb27)) (nn (rj hR28 ⟨rfl,rfl,rfl,rfl,hst⟩)))))
 rw [ite_f hc35] at hb27
 obtain ⟨x25,hx25,hb27⟩:=bind_some hb27
 refine ldB 1 hst Tryz.isAgg3 rfl rfl rfl ?_
 obtain ⟨H36b,l37,s38,z39,k40⟩:=hst.borrow
 refine L_call rfl Tryz.call34 (ops3 rfl rfl rfl) (i_within_c (n_:=k) (low:=1) (high:=1000) s38 hx25) ?_
 rintro _ w41 ⟨rfl,hst⟩
 have hst:=k40 hst c0
 refine L_not_ rfl rfl (L_pick (v:=Bo b27) rfl rfl (congrArg Value.bool (so hb27)) (nn (rj hR28 ⟨rfl,rfl,rfl,rfl,hst⟩)))
 intro f w_ hR
 obtain ⟨sf2,sf3,sf4,sf13,hst⟩:=rk hR28 hR
 refine W_cond (b:=b27) sf13 (fun hc42=>?_) (fun hc42=>?_)
 have hF:=(ite_t hc42).symm.trans hF
 refine sq (L_bld rfl (parts0 ) (bld_46_  ) (L_staB (vs:=#[S0,I 0]) (cs2:=#[S0,I 0]) 0 rfl Tryz.sizeOf46 sf4 rfl rfl (ones_cons rfl (ones_cons rfl ones_nil)) hst rfl (by show 0 + 2≤2; decide) rfl (fun w44 hst=>aB rfl (nn (W_ret (retG2 (v1:=.agg #[S0,I 0]) (v2:=Bo false) Tryz.results79 (resV_agg Tryz.isAgg46 Tryz.sizeOf46 sf4 (Star.blkAt 0 hst rfl) rfl) rfl ?_))))))
 obtain rfl:=so hF
 have hst:=Star.drop 0 hst rfl
 have hst:=Star.drop 0 hst rfl
 have hst:=Star.drop 0 hst rfl
 exact ⟨H,(Le.refl _),S0,rfl,(rel_nil _ _ _),hst⟩
 have hF:=(ite_f hc42).symm.trans hF
 refine W_skip (W_seq ?_)
 obtain ⟨x48,hx48,hF⟩:=bind_some hF
 refine W_region (L_lda (cs:=[v0_0,I c.bound]) rfl Tryz.isAgg46 Tryz.sizeOf46 sf2 (At.sub0 (Blk.at (Star.blkAt 2 hst rfl)) 0 2) rfl (L_mf rfl (ops1 sf3) ?_))
 have hst:=hst.get 1 rfl
 obtain ⟨H51,l52,hst,hz_hat53⟩:=Star.freeze hst
 have hat53 : AtH H51 g9 0 [I k]:=AtH.of hz_hat53
 have hf54 : Fun1 Tryz.prog RP.int false (Value.int .i64) (i_DivideConstraint_1 k) (.func (.func 92) #[] #[Pt g9]) H51:=by
   refine ⟨_,_,rfl,Tryz.call92,fun H_ w_ hE_ hs_ cs_ x_ y_ args_ hr_ hy_ ha_=>?_⟩
   obtain rfl : cs_ = [_]:=hr_
   obtain rfl:=args_of (b:=#[I x_,Pt g9]) ha_
   exact i_DivideConstraint_1_c (c1:=k) (n_:=x_) hs_ (AtH.le (AtH.le hat53 (Le.refl _)) hE_) hy_
 refine L_call rfl Tryz.call90 (ops2 rfl rfl) (i_Constraint_changed_c (c:=c) (change:=(i_DivideConstraint_1 k)) hst (RP.mono _ h0_0 l52) hf54 hx48) ?_
 rintro _ w55 ⟨H55,l55,r55_0,rfl,hr55_0,hst⟩
 refine L_ex (v:=.agg #[r55_0,I x48.1.bound]) rfl rfl rfl (L_ex (v:=Bo x48.2) rfl rfl rfl (L_staB (vs:=#[r55_0,I x48.1.bound]) (cs2:=#[r55_0,I x48.1.bound]) 0 rfl Tryz.sizeOf46 sf4 rfl rfl (ones_cons (one_len (slice_len hr55_0)) (ones_cons rfl ones_nil)) hst rfl (by show 0 + 2≤2; decide) rfl (fun w56 hst=>aB rfl (nn (W_ret (retG2 (v1:=.agg #[r55_0,I x48.1.bound]) (v2:=Bo x48.2) Tryz.results79 (resV_agg Tryz.isAgg46 Tryz.sizeOf46 sf4 (Star.blkAt 0 hst rfl) rfl) rfl ?_))))))
 obtain rfl:=so hF
 have hst:=Star.drop 0 hst rfl
 have hst:=Star.drop 0 hst rfl
 exact ⟨H55,(Le.trans l52 l55),r55_0,rfl,hr55_0,hst⟩
theorem i_SaturateConstraint_c {c : Con} {v0_0 : Value} {H : FH} {w : World} (hst : Star H w []) (h0_0 : (rS 85 rTerm).rel H [v0_0] c.terms) {r : Con × Bool} (hF : i_SaturateConstraint c = some r) :
 C Tryz.prog 80 #[.agg #[v0_0,I c.bound]] w fun v w'=>∃ (u1 : Value),v = .tuple #[.agg #[u1,I r.1.bound],Bo r.2]∧Star H w' [oF 85 rTerm u1 r.1.terms]:=by
 unfold i_SaturateConstraint at hF
 refine C_enter Tryz.func80 rfl Tryz.ntmps80 rfl (sq (L_box (v:=.agg #[v0_0,I c.bound]) (cs:=#[v0_0,I c.bound]) rfl rfl rfl hst (fun g5 w6 hst=>L_al (cs:=#[S0,I 0]) rfl Tryz.zeroValue46 rfl hst (fun g7 w8 hst=>aB rfl (nq (W_seq ?_))))))
 obtain ⟨x14,hx14,hF⟩:=bind_some hF
 refine W_region (L_lda (cs:=[v0_0,I c.bound]) rfl Tryz.isAgg46 Tryz.sizeOf46 rfl (At.sub0 (Blk.at (Star.blkAt 1 hst rfl)) 0 2) rfl ?_)
 obtain ⟨H16b,l17,s18,z19,k20⟩:=hst.borrow
 refine L_call rfl Tryz.call52 (ops1 rfl) (i_ConstraintValid_c (c:=c) s18 (RP.mono _ h0_0 l17) hx14) ?_
 rintro _ w21 ⟨rfl,hst⟩
 have hst:=k20 hst c0
 refine L_not_ rfl rfl (nn (W_cond (b:=(!x14)) rfl (fun hc22=>?_) (fun hc22=>?_)))
 have hF:=(ite_t hc22).symm.trans hF
 refine sq (L_bld rfl (parts0 ) (bld_46_  ) (L_staB (vs:=#[S0,I 0]) (cs2:=#[S0,I 0]) 0 rfl Tryz.sizeOf46 rfl rfl rfl (ones_cons rfl (ones_cons rfl ones_nil)) hst rfl (by show 0 + 2≤2; decide) rfl (fun w24 hst=>aB rfl (nn (W_ret (retG2 (v1:=.agg #[S0,I 0]) (v2:=Bo false) Tryz.results80 (resV_agg Tryz.isAgg46 Tryz.sizeOf46 rfl (Star.blkAt 0 hst rfl) rfl) rfl ?_))))))
 obtain rfl:=so hF
 have hst:=Star.addNil (R:=(OR.frz rTerm)) (e:=85) hst
 exact ⟨S0,rfl,(Star.keepN 1 hst)⟩
 have hF:=(ite_f hc22).symm.trans hF
 refine W_skip (sq (fA 1 fa_46_1 rfl rfl (ldB 1 hst Tryz.isAgg3 rfl rfl rfl (L_bld rfl (parts1 rfl) (bld_46_1 (I c.bound) rfl) (L_al (cs:=#[S0,I 0]) rfl Tryz.zeroValue46 rfl hst (fun g29 w30 hst=>L_staB (vs:=#[S0,I c.bound]) (cs2:=#[S0,I c.bound]) 0 rfl Tryz.sizeOf46 rfl rfl rfl (ones_cons rfl (ones_cons rfl ones_nil)) hst rfl (by show 0 + 2≤2; decide) rfl (fun w31 hst=>nq (sq (fA 1 fa_46_1 rfl rfl (ldB 2 hst Tryz.isAgg3 rfl rfl rfl (L_gtr rfl rfl rfl (nn ?_))))))))))))
 obtain ⟨g29_0_32,hA34,hF⟩:=bind_some hF
 obtain ⟨R34,hR34⟩:=exR fun f w_=>∃ v32_g29_0 : Value,f 2 = Pt g7∧f 4 = Pt g29∧Star H w_ ([oF 85 rTerm v32_g29_0 g29_0_32,box g29 46 #[v32_g29_0,I c.bound],box g7 46 #[S0,I 0]])
 refine W_join R34 ?_ ?_
 refine W_cond (b:=decide (c.bound > 0)) rfl (fun hc35=>?_) (fun hc35=>?_)
 have hA34:=(ite_t hc35).symm.trans hA34
 refine sq (fA 0 fa_46_0 rfl rfl (ldB 2 hst Tryz.isAgg44 rfl rfl rfl (L_len rfl Tryz.underlying44 rfl (slice_len h0_0) (mI rfl (nn ?_)))))
 have hlen39 : List.length c.terms≤9223372036854775807:=len_le (slice_len h0_0)
 obtain ⟨j39,hL39,hA34⟩:=bind_some hA34
 obtain ⟨R39,hR39⟩:=exR fun f w_=>∃ g29_0_37 : List Term,∃ v37_g29_0 : Value,j39 = .nx g29_0_37∧f 2 = Pt g7∧f 4 = Pt g29∧Star H w_ ([oF 85 rTerm v37_g29_0 g29_0_37,box g29 46 #[v37_g29_0,I c.bound],box g7 46 #[S0,I 0]])
 refine W_join R39 ?_ ?_
 refine W_block ?_
 obtain ⟨I39,hI39⟩:=exI fun n f w_=>∃ i_36 : Nat,∃ suf39 : List Term,∃ g29_0_37 : List Term,∃ v37_g29_0 : Value,n = suf39.length∧List.drop i_36 c.terms = suf39∧i_36 + suf39.length = c.terms.length∧rangeL (i_SaturateConstraint_b1 c) suf39 i_36 g29_0_37 = some j39∧f 1 = Pt g5∧f 2 = Pt g7∧f 4 = Pt g29∧f 18 = v0_0∧f 19 = I (c.terms.length : Int)∧f 20 = I i_36∧Star H w_ ([oF 85 rTerm v37_g29_0 g29_0_37,box g29 46 #[v37_g29_0,I c.bound],box g7 46 #[S0,I 0],box g5 46 #[v0_0,I c.bound]])
 have hst:=Star.addNil (R:=(OR.frz rTerm)) (e:=85) hst
 refine W_loop I39 (n:=c.terms.length) ?_ ?_
 exact ij hI39 ⟨0,c.terms,[],S0,rfl,rfl,Nat.zero_add _,hL39,rfl,rfl,rfl,rfl,rfl,rfl,hst⟩
 intro n39 f w_ hI
 obtain ⟨i_36,suf39,g29_0_37,v37_g29_0,rfl,hd39,hl39,hL39,sf1,sf2,sf4,sf18,sf19,sf20,hst⟩:=ik hI39 hI
 refine sq (L_lss rfl sf20 sf19 (nq (W_cond (b:=decide ((i_36 : Int) < (c.terms.length : Int))) rfl (fun hc41=>?_) (fun hc41=>?_))))
 have hlt39:=of_decide_eq_true hc41
 rcases suf39 with _ | ⟨x_39,rest39⟩
 exact absurd hlt39 (by simp at hl39; omega)
 obtain ⟨o39,hB39,hL39⟩:=range_cons hL39
 rw [i_SaturateConstraint_b1] at hB39
 have hix39:=drop_idx hd39
 refine W_skip (W_seq (W_block (sq (L_ix (r:=rTerm) rfl Tryz.underlying44 Tryz.sizeOf85 sf18 h0_0 sf20 hix39 (fun g49 o50 cs_g49 hrk_hat51 hat51=>?_)))))
 obtain rfl:=rTerm_iff.1 hrk_hat51
 refine L_lda (cs:=[I x_39.coef,I x_39.lit]) rfl Tryz.isAgg85 Tryz.sizeOf85 rfl (At.sub (AtH.at hat51 hst.sub) 0 2) rfl (L_al (cs:=#[I 0,I 0]) rfl Tryz.zeroValue85 rfl hst (fun g53 w54 hst=>L_staB (vs:=#[I x_39.coef,I x_39.lit]) (cs2:=#[I x_39.coef,I x_39.lit]) 0 rfl Tryz.sizeOf85 rfl rfl rfl (ones_cons rfl (ones_cons rfl ones_nil)) hst rfl (by show 0 + 2≤2; decide) rfl (fun w55 hst=>nn ?_)))
 obtain ⟨x59,hx59,hB39⟩:=bind_some hB39
 refine W_region (fA 0 fa_46_0 sf4 rfl (ldB 2 hst Tryz.isAgg44 rfl rfl rfl (fA 0 fa_85_0 rfl rfl (ldB 0 hst Tryz.isAgg3 rfl rfl rfl (fA 1 fa_46_1 sf1 rfl (ldB 4 hst Tryz.isAgg3 rfl rfl rfl (L_min rfl rfl rfl (fA 1 fa_85_1 rfl rfl (ldB 0 hst Tryz.isAgg3 rfl rfl rfl (L_bld rfl (parts2 rfl rfl) (bld_85_0_1 (I (min x_39.coef c.bound)) (I x_39.lit) rfl rfl) (L_bs rfl (parts1 rfl) (bs_44_1_2 (I (min x_39.coef c.bound)) (I x_39.lit) ) hst (fun g64 w65 hst=>?_))))))))))))
 have hst:=Star.addF (r:=rTerm) (cs:=[I (min x_39.coef c.bound),I x_39.lit]) (x:=({ coef:=min x_39.coef c.bound,lit:=x_39.lit } : Term)) hst (rTerm_iff.2 rfl)
 have hst:=Star.mkRow (R:=(OR.frz rTerm)) [([I (min x_39.coef c.bound),I x_39.lit],({ coef:=min x_39.coef c.bound,lit:=x_39.lit } : Term))] [({ coef:=min x_39.coef c.bound,lit:=x_39.lit } : Term)] 1 hst rfl rfl rfl (by decide)
 have hst:=hst.get 2 rfl
 refine L_appM (v:=v37_g29_0) (u:=(Sl g64 1 1)) rfl et_44 rfl rfl hst hx59 (fun v67 w68 hst=>fA 0 fa_46_0 sf4 rfl (L_stB (v:=v67) (cs2:=#[v67,I c.bound]) 2 rfl Tryz.sizeOf44 rfl rfl (one_len (Star.len 0 hst rfl)) hst rfl rfl rfl (fun w70 hst=>nn (W_region (L_add rfl sf20 rfl (mI rfl (nn ?_)))))))
 obtain rfl:=so hB39
 have hst:=hst.gets [4,4,2,3] rfl
 show ∃ m,m < _∧I39 m _ _
 refine ⟨rest39.length,by simp,?_⟩
 exact ij hI39 ⟨i_36 + 1,rest39,x59,v67,rfl,drop_next hd39,by simp at hl39; omega,hL39,sf1,sf2,sf4,sf18,sf19,(Eq.trans rfl (congrArg (Value.int .i64) (i64_succ (n:=c.terms.length) (by simp at hl39; omega) hlen39))),(Star.keepN 4 hst)⟩
 rcases suf39 with _ | ⟨_,_⟩
 obtain rfl:=range_nil hL39
 refine W_exit (rj hR39 ⟨g29_0_37,v37_g29_0,rfl,sf2,sf4,(Star.keepN 3 hst)⟩)
 exact absurd (of_decide_eq_false hc41) (by simp at hl39; omega)
 intro f w_ hR
 obtain ⟨g29_0_37,v37_g29_0,rfl,sf2,sf4,hst⟩:=rk hR39 hR
 obtain rfl:=so hA34
 exact rj hR34 ⟨v37_g29_0,sf2,sf4,hst⟩
 have hA34:=(ite_f hc35).symm.trans hA34
 refine W_skip ?_
 obtain rfl:=so hA34
 have hst:=Star.addNil (R:=(OR.frz rTerm)) (e:=85) hst
 exact rj hR34 ⟨S0,rfl,rfl,(Star.keepN 3 hst)⟩
 intro f w_ hR
 obtain ⟨v32_g29_0,sf2,sf4,hst⟩:=rk hR34 hR
 refine sq (L_lda (cs:=[v32_g29_0,I c.bound]) rfl Tryz.isAgg46 Tryz.sizeOf46 sf4 (At.sub0 (Blk.at (Star.blkAt 1 hst rfl)) 0 2) rfl (L_staB (vs:=#[v32_g29_0,I c.bound]) (cs2:=#[v32_g29_0,I c.bound]) 2 rfl Tryz.sizeOf46 sf2 rfl rfl (ones_cons (one_len (Star.len 0 hst rfl)) (ones_cons rfl ones_nil)) hst rfl (by show 0 + 2≤2; decide) rfl (fun w73 hst=>aB rfl (nn (W_ret (retG2 (v1:=.agg #[v32_g29_0,I c.bound]) (v2:=Bo true) Tryz.results80 (resV_agg Tryz.isAgg46 Tryz.sizeOf46 sf2 (Star.blkAt 0 hst rfl) rfl) rfl ?_))))))
 obtain rfl:=so hF
 have hst:=hst.get 1 rfl
 exact ⟨v32_g29_0,rfl,(Star.keepN 1 hst)⟩
theorem i_WeakenConstraint_c {c : Con} {variable_ : Int} {v0_0 : Value} {H : FH} {w : World} (hst : Star H w []) (h0_0 : (rS 85 rTerm).rel H [v0_0] c.terms) {r : Con × Bool} (hF : i_WeakenConstraint c variable_ = some r) :
 C Tryz.prog 81 #[.agg #[v0_0,I c.bound],I variable_] w fun v w'=>∃ (u1 : Value),v = .tuple #[.agg #[u1,I r.1.bound],Bo r.2]∧Star H w' [oF 85 rTerm u1 r.1.terms]:=by
 unfold i_WeakenConstraint at hF
 refine C_enter Tryz.func81 rfl Tryz.ntmps81 rfl (sq (L_box (v:=.agg #[v0_0,I c.bound]) (cs:=#[v0_0,I c.bound]) rfl rfl rfl hst (fun g5 w6 hst=>L_al (cs:=#[S0,I 0]) rfl Tryz.zeroValue46 rfl hst (fun g7 w8 hst=>aB rfl (nq (W_seq ?_))))))
 obtain ⟨x14,hx14,hF⟩:=bind_some hF
 obtain ⟨b23,hb23,hF⟩:=bind_some hF
 obtain ⟨R24,hR24⟩:=exR fun f w_=>f 1 = I variable_∧f 2 = Pt g5∧f 4 = Pt g7∧f 16 = Bo b23∧Star H w_ ([box g7 46 #[S0,I 0],box g5 46 #[v0_0,I c.bound]])
 refine W_join R24 ?_ ?_
 refine W_region (L_lda (cs:=[v0_0,I c.bound]) rfl Tryz.isAgg46 Tryz.sizeOf46 rfl (At.sub0 (Blk.at (Star.blkAt 1 hst rfl)) 0 2) rfl ?_)
 obtain ⟨H25b,l26,s27,z28,k29⟩:=hst.borrow
 refine L_call rfl Tryz.call52 (ops1 rfl) (i_ConstraintValid_c (c:=c) s27 (RP.mono _ h0_0 l26) hx14) ?_
 rintro _ w30 ⟨rfl,hst⟩
 have hst:=k29 hst c0
 refine L_not_ rfl rfl (mB rfl (L_split (d:=12) (b:=(!x14)) rfl (fun hc31=>?_) (fun hc31=>?_)))
 rw [ite_t hc31] at hb23
 refine ps rfl (ps rfl (ps rfl (L_pick (v:=Bo b23) rfl rfl (congrArg Value.bool (so hb23)) (nn (rj hR24 ⟨rfl,rfl,rfl,rfl,hst⟩)))))
 rw [ite_f hc31] at hb23
 obtain ⟨x21,hx21,hb23⟩:=bind_some hb23
 refine mI rfl ?_
 obtain ⟨H32b,l33,s34,z35,k36⟩:=hst.borrow
 refine L_call rfl Tryz.call34 (ops3 rfl rfl rfl) (i_within_c (n_:=variable_) (low:=1) (high:=12) s34 hx21) ?_
 rintro _ w37 ⟨rfl,hst⟩
 have hst:=k36 hst c0
 refine L_not_ rfl rfl (L_pick (v:=Bo b23) rfl rfl (congrArg Value.bool (so hb23)) (nn (rj hR24 ⟨rfl,rfl,rfl,rfl,hst⟩)))
 intro f w_ hR
 obtain ⟨sf1,sf2,sf4,sf16,hst⟩:=rk hR24 hR
 refine W_cond (b:=b23) sf16 (fun hc38=>?_) (fun hc38=>?_)
 have hF:=(ite_t hc38).symm.trans hF
 refine sq (L_bld rfl (parts0 ) (bld_46_  ) (L_staB (vs:=#[S0,I 0]) (cs2:=#[S0,I 0]) 0 rfl Tryz.sizeOf46 sf4 rfl rfl (ones_cons rfl (ones_cons rfl ones_nil)) hst rfl (by show 0 + 2≤2; decide) rfl (fun w40 hst=>aB rfl (nn (W_ret (retG2 (v1:=.agg #[S0,I 0]) (v2:=Bo false) Tryz.results81 (resV_agg Tryz.isAgg46 Tryz.sizeOf46 sf4 (Star.blkAt 0 hst rfl) rfl) rfl ?_))))))
 obtain rfl:=so hF
 have hst:=Star.addNil (R:=(OR.frz rTerm)) (e:=85) hst
 exact ⟨S0,rfl,(Star.keepN 1 hst)⟩
 have hF:=(ite_f hc38).symm.trans hF
 refine W_skip (sq (fA 1 fa_46_1 sf2 rfl (ldB 1 hst Tryz.isAgg3 rfl rfl rfl (L_bld rfl (parts1 rfl) (bld_46_1 (I c.bound) rfl) (L_al (cs:=#[S0,I 0]) rfl Tryz.zeroValue46 rfl hst (fun g45 w46 hst=>L_staB (vs:=#[S0,I c.bound]) (cs2:=#[S0,I c.bound]) 0 rfl Tryz.sizeOf46 rfl rfl rfl (ones_cons rfl (ones_cons rfl ones_nil)) hst rfl (by show 0 + 2≤2; decide) rfl (fun w47 hst=>nq (sq (fA 0 fa_46_0 sf2 rfl (ldB 2 hst Tryz.isAgg44 rfl rfl rfl (L_len rfl Tryz.underlying44 rfl (slice_len h0_0) (mI rfl (nn ?_)))))))))))))
 have hlen52 : List.length c.terms≤9223372036854775807:=len_le (slice_len h0_0)
 obtain ⟨j52,hL52,hF⟩:=bind_some hF
 obtain ⟨R52,hR52⟩:=exR fun f w_=>∃ g45_0_49 : List Term,∃ g45_1_51 : Int,∃ v49_g45_0 : Value,j52 = .nx (g45_0_49,g45_1_51)∧f 4 = Pt g7∧f 6 = Pt g45∧Star H w_ ([oF 85 rTerm v49_g45_0 g45_0_49,box g45 46 #[v49_g45_0,I g45_1_51],box g7 46 #[S0,I 0]])
 refine W_join R52 ?_ ?_
 refine W_block ?_
 obtain ⟨I52,hI52⟩:=exI fun n f w_=>∃ i_48 : Nat,∃ suf52 : List Term,∃ g45_0_49 : List Term,∃ g45_1_51 : Int,∃ v49_g45_0 : Value,n = suf52.length∧List.drop i_48 c.terms = suf52∧i_48 + suf52.length = c.terms.length∧rangeL (i_WeakenConstraint_b1 c variable_) suf52 i_48 (g45_0_49,g45_1_51) = some j52∧f 1 = I variable_∧f 2 = Pt g5∧f 4 = Pt g7∧f 6 = Pt g45∧f 22 = v0_0∧f 23 = I (c.terms.length : Int)∧f 24 = I i_48∧Star H w_ ([oF 85 rTerm v49_g45_0 g45_0_49,box g45 46 #[v49_g45_0,I g45_1_51],box g7 46 #[S0,I 0],box g5 46 #[v0_0,I c.bound]])
 have hst:=Star.addNil (R:=(OR.frz rTerm)) (e:=85) hst
 refine W_loop I52 (n:=c.terms.length) ?_ ?_
 exact ij hI52 ⟨0,c.terms,[],c.bound,S0,rfl,rfl,Nat.zero_add _,hL52,sf1,sf2,sf4,rfl,rfl,rfl,rfl,hst⟩
 intro n52 f w_ hI
 obtain ⟨i_48,suf52,g45_0_49,g45_1_51,v49_g45_0,rfl,hd52,hl52,hL52,sf1,sf2,sf4,sf6,sf22,sf23,sf24,hst⟩:=ik hI52 hI
 refine sq (L_lss rfl sf24 sf23 (nq (W_cond (b:=decide ((i_48 : Int) < (c.terms.length : Int))) rfl (fun hc54=>?_) (fun hc54=>?_))))
 have hlt52:=of_decide_eq_true hc54
 rcases suf52 with _ | ⟨x_52,rest52⟩
 exact absurd hlt52 (by simp at hl52; omega)
 obtain ⟨o52,hB52,hL52⟩:=range_cons hL52
 rw [i_WeakenConstraint_b1] at hB52
 have hix52:=drop_idx hd52
 refine W_skip (W_seq (W_block (sq (L_ix (r:=rTerm) rfl Tryz.underlying44 Tryz.sizeOf85 sf22 h0_0 sf24 hix52 (fun g62 o63 cs_g62 hrk_hat64 hat64=>?_)))))
 obtain rfl:=rTerm_iff.1 hrk_hat64
 refine L_lda (cs:=[I x_52.coef,I x_52.lit]) rfl Tryz.isAgg85 Tryz.sizeOf85 rfl (At.sub (AtH.at hat64 hst.sub) 0 2) rfl (L_al (cs:=#[I 0,I 0]) rfl Tryz.zeroValue85 rfl hst (fun g66 w67 hst=>L_staB (vs:=#[I x_52.coef,I x_52.lit]) (cs2:=#[I x_52.coef,I x_52.lit]) 0 rfl Tryz.sizeOf85 rfl rfl rfl (ones_cons rfl (ones_cons rfl ones_nil)) hst rfl (by show 0 + 2≤2; decide) rfl (fun w68 hst=>nq ?_)))
 obtain ⟨x74,hx74,hB52⟩:=bind_some hB52
 refine W_region (fA 1 fa_85_1 rfl rfl (ldB 0 hst Tryz.isAgg3 rfl rfl rfl ?_))
 obtain ⟨H76b,l77,s78,z79,k80⟩:=hst.borrow
 refine L_call rfl Tryz.call35 (ops1 rfl) (i_variableOf_c (l:=x_52.lit) s78 hx74) ?_
 rintro _ w81 ⟨rfl,hst⟩
 have hst:=k80 hst c0
 refine mF sf1 rfl (L_eql rfl rfl rfl (nn ?_))
 obtain ⟨⟨g45_0_82,g45_1_84⟩,hA85,hB52⟩:=bind_some hB52
 obtain ⟨R85,hR85⟩:=exR fun f w_=>∃ v82_g45_0 : Value,f 1 = I variable_∧f 2 = Pt g5∧f 4 = Pt g7∧f 6 = Pt g45∧f 22 = v0_0∧f 23 = I (c.terms.length : Int)∧f 24 = I i_48∧Star H w_ ([oF 85 rTerm v82_g45_0 g45_0_82,box g45 46 #[v82_g45_0,I g45_1_84],box g7 46 #[S0,I 0],box g5 46 #[v0_0,I c.bound]])
 refine W_join R85 ?_ ?_
 refine W_cond (b:=(x74 == variable_)) rfl (fun hc86=>?_) (fun hc86=>?_)
 have hA85:=(ite_t hc86).symm.trans hA85
 refine W_region (fA 1 fa_46_1 sf2 rfl (ldB 4 hst Tryz.isAgg3 rfl rfl rfl (fA 0 fa_85_0 rfl rfl (ldB 0 hst Tryz.isAgg3 rfl rfl rfl (L_sub rfl rfl rfl (L_max rfl rfl rfl (fA 1 fa_46_1 sf6 rfl (L_stB (v:=I (max 0 (i64 (c.bound - x_52.coef)))) (cs2:=#[v49_g45_0,I (max 0 (i64 (c.bound - x_52.coef)))]) 2 rfl Tryz.sizeOf3 rfl rfl rfl hst rfl rfl rfl (fun w88 hst=>nn ?_)))))))))
 obtain ⟨rfl,rfl⟩:=so2 hA85
 have hst:=hst.gets [4,4,2,4] rfl
 exact rj hR85 ⟨v49_g45_0,sf1,sf2,sf4,sf6,sf22,sf23,sf24,(Star.keepN 4 hst)⟩
 have hA85:=(ite_f hc86).symm.trans hA85
 obtain ⟨x92,hx92,hA85⟩:=bind_some hA85
 refine W_region (fA 0 fa_46_0 sf6 rfl (ldB 2 hst Tryz.isAgg44 rfl rfl rfl (L_lda (cs:=[I x_52.coef,I x_52.lit]) rfl Tryz.isAgg85 Tryz.sizeOf85 rfl (At.sub0 (Blk.at (Star.blkAt 0 hst rfl)) 0 2) rfl (L_bs rfl (parts1 rfl) (bs_44_1_2 (I x_52.coef) (I x_52.lit) ) hst (fun g97 w98 hst=>?_)))))
 have hst:=Star.addF (r:=rTerm) (cs:=[I x_52.coef,I x_52.lit]) (x:=x_52) hst (rTerm_iff.2 rfl)
 have hst:=Star.mkRow (R:=(OR.frz rTerm)) [([I x_52.coef,I x_52.lit],x_52)] [x_52] 1 hst rfl rfl rfl (by decide)
 have hst:=hst.get 2 rfl
 refine L_appM (v:=v49_g45_0) (u:=(Sl g97 1 1)) rfl et_44 rfl rfl hst hx92 (fun v100 w101 hst=>fA 0 fa_46_0 sf6 rfl (L_stB (v:=v100) (cs2:=#[v100,I g45_1_51]) 2 rfl Tryz.sizeOf44 rfl rfl (one_len (Star.len 0 hst rfl)) hst rfl rfl rfl (fun w103 hst=>nn ?_)))
 obtain ⟨rfl,rfl⟩:=so2 hA85
 have hst:=hst.gets [4,4,2,3] rfl
 exact rj hR85 ⟨v100,sf1,sf2,sf4,sf6,sf22,sf23,sf24,(Star.keepN 4 hst)⟩
 intro f w_ hR
 obtain ⟨v82_g45_0,sf1,sf2,sf4,sf6,sf22,sf23,sf24,hst⟩:=rk hR85 hR
 refine W_region (L_add rfl sf24 rfl (mI rfl (nn ?_)))
 obtain rfl:=so hB52
 show ∃ m,m < _∧I52 m _ _
 refine ⟨rest52.length,by simp,?_⟩
 exact ij hI52 ⟨i_48 + 1,rest52,g45_0_82,g45_1_84,v82_g45_0,rfl,drop_next hd52,by simp at hl52; omega,hL52,sf1,sf2,sf4,sf6,sf22,sf23,(Eq.trans rfl (congrArg (Value.int .i64) (i64_succ (n:=c.terms.length) (by simp at hl52; omega) hlen52))),hst⟩
 rcases suf52 with _ | ⟨_,_⟩
 obtain rfl:=range_nil hL52
 refine W_exit (rj hR52 ⟨g45_0_49,g45_1_51,v49_g45_0,rfl,sf4,sf6,(Star.keepN 3 hst)⟩)
 exact absurd (of_decide_eq_false hc54) (by simp at hl52; omega)
 intro f w_ hR
 obtain ⟨g45_0_49,g45_1_51,v49_g45_0,rfl,sf4,sf6,hst⟩:=rk hR52 hR
 refine sq (L_lda (cs:=[v49_g45_0,I g45_1_51]) rfl Tryz.isAgg46 Tryz.sizeOf46 sf6 (At.sub0 (Blk.at (Star.blkAt 1 hst rfl)) 0 2) rfl (L_staB (vs:=#[v49_g45_0,I g45_1_51]) (cs2:=#[v49_g45_0,I g45_1_51]) 2 rfl Tryz.sizeOf46 sf4 rfl rfl (ones_cons (one_len (Star.len 0 hst rfl)) (ones_cons rfl ones_nil)) hst rfl (by show 0 + 2≤2; decide) rfl (fun w105 hst=>aB rfl (nn (W_ret (retG2 (v1:=.agg #[v49_g45_0,I g45_1_51]) (v2:=Bo true) Tryz.results81 (resV_agg Tryz.isAgg46 Tryz.sizeOf46 sf4 (Star.blkAt 0 hst rfl) rfl) rfl ?_))))))
 obtain rfl:=so hF
 have hst:=hst.get 1 rfl
 exact ⟨v49_g45_0,rfl,(Star.keepN 1 hst)⟩
theorem i_LiteralAxiom_c {lit : Int} {H : FH} {w : World} (hst : Star H w []) {r : Con × Bool} (hF : i_LiteralAxiom lit = some r) :
 C Tryz.prog 82 #[I lit] w fun v w'=>∃ (u1 : Value),v = .tuple #[.agg #[u1,I r.1.bound],Bo r.2]∧Star H w' [oF 85 rTerm u1 r.1.terms]:=by
 unfold i_LiteralAxiom at hF
 refine C_enter Tryz.func82 rfl Tryz.ntmps82 rfl (sq (L_al (cs:=#[S0,I 0]) rfl Tryz.zeroValue46 rfl hst (fun g3 w4 hst=>aB rfl (nq (W_seq ?_)))))
 obtain ⟨x10,hx10,hF⟩:=bind_some hF
 refine W_region (mI rfl ?_)
 obtain ⟨H12b,l13,s14,z15,k16⟩:=hst.borrow
 refine L_call rfl Tryz.call66 (ops1 rfl) (i_isLiteral_c (l:=lit) s14 hx10) ?_
 rintro _ w17 ⟨rfl,hst⟩
 have hst:=k16 hst c0
 refine L_not_ rfl rfl (nn (W_cond (b:=(!x10)) rfl (fun hc18=>?_) (fun hc18=>?_)))
 have hF:=(ite_t hc18).symm.trans hF
 refine sq (L_bld rfl (parts0 ) (bld_46_  ) (L_staB (vs:=#[S0,I 0]) (cs2:=#[S0,I 0]) 0 rfl Tryz.sizeOf46 rfl rfl rfl (ones_cons rfl (ones_cons rfl ones_nil)) hst rfl (by show 0 + 2≤2; decide) rfl (fun w20 hst=>aB rfl (nn (W_ret (retG2 (v1:=.agg #[S0,I 0]) (v2:=Bo false) Tryz.results82 (resV_agg Tryz.isAgg46 Tryz.sizeOf46 rfl (Star.blkAt 0 hst rfl) rfl) rfl ?_))))))
 obtain rfl:=so hF
 have hst:=Star.addNil (R:=(OR.frz rTerm)) (e:=85) hst
 exact ⟨S0,rfl,(Star.keepN 1 hst)⟩
 have hF:=(ite_f hc18).symm.trans hF
 refine W_skip (sq (mI rfl (L_bld rfl (parts2 rfl rfl) (bld_85_0_1 (I 1) (I lit) rfl rfl) (L_bs rfl (parts1 rfl) (bs_44_1_2 (I 1) (I lit) ) hst (fun g26 w27 hst=>?_)))))
 have hst:=Star.addF (r:=rTerm) (cs:=[I 1,I lit]) (x:=({ coef:=1,lit:=lit } : Term)) hst (rTerm_iff.2 rfl)
 have hst:=Star.mkRow (R:=(OR.frz rTerm)) [([I 1,I lit],({ coef:=1,lit:=lit } : Term))] [({ coef:=1,lit:=lit } : Term)] 1 hst rfl rfl rfl (by decide)
 refine L_bld rfl (parts1 rfl) (bld_46_0 ((Sl g26 1 1)) (one_len (Star.len 0 hst rfl))) (L_staB (vs:=#[(Sl g26 1 1),I 0]) (cs2:=#[(Sl g26 1 1),I 0]) 1 rfl Tryz.sizeOf46 rfl rfl rfl (ones_cons (one_len (Star.len 0 hst rfl)) (ones_cons rfl ones_nil)) hst rfl (by show 0 + 2≤2; decide) rfl (fun w29 hst=>aB rfl (nn (W_ret (retG2 (v1:=.agg #[(Sl g26 1 1),I 0]) (v2:=Bo true) Tryz.results82 (resV_agg Tryz.isAgg46 Tryz.sizeOf46 rfl (Star.blkAt 0 hst rfl) rfl) rfl ?_)))))
 obtain rfl:=so hF
 have hst:=hst.get 1 rfl
 exact ⟨(Sl g26 1 1),rfl,(Star.keepN 1 hst)⟩
theorem i_Constraint_total_c {c : Con} {v0_0 : Value} {H : FH} {w : World} (hst : Star H w []) (h0_0 : (rS 85 rTerm).rel H [v0_0] c.terms) {r : Int} (hF : i_Constraint_total c = some r) :
 C Tryz.prog 65 #[.agg #[v0_0,I c.bound]] w fun v w'=>v = I r∧Star H w' []:=by
 unfold i_Constraint_total at hF
 refine C_enter Tryz.func65 rfl Tryz.ntmps65 rfl (sq (L_box (v:=.agg #[v0_0,I c.bound]) (cs:=#[v0_0,I c.bound]) rfl rfl rfl hst (fun g3 w4 hst=>aI rfl (ns (aI rfl (nq (sq (fA 0 fa_46_0 rfl rfl (ldB 0 hst Tryz.isAgg44 rfl rfl rfl (L_len rfl Tryz.underlying44 rfl (slice_len h0_0) (mI rfl (nn ?_))))))))))))
 have hlen7 : List.length c.terms≤9223372036854775807:=len_le (slice_len h0_0)
 obtain ⟨j7,hL7,hF⟩:=bind_some hF
 obtain ⟨R7,hR7⟩:=exR fun f w_=>∃ sum_6 : Int,j7 = .nx sum_6∧f 3 = I sum_6∧Star H w_ ([])
 refine W_join R7 ?_ ?_
 refine W_block ?_
 obtain ⟨I7,hI7⟩:=exI fun n f w_=>∃ i_5 : Nat,∃ suf7 : List Term,∃ sum_6 : Int,n = suf7.length∧List.drop i_5 c.terms = suf7∧i_5 + suf7.length = c.terms.length∧rangeL i_Constraint_total_b1 suf7 i_5 sum_6 = some j7∧f 3 = I sum_6∧f 7 = v0_0∧f 8 = I (c.terms.length : Int)∧f 9 = I i_5∧Star H w_ ([])
 refine W_loop I7 (n:=c.terms.length) ?_ ?_
 exact ij hI7 ⟨0,c.terms,0,rfl,rfl,Nat.zero_add _,hL7,rfl,rfl,rfl,rfl,(Star.keepN 0 hst)⟩
 intro n7 f w_ hI
 obtain ⟨i_5,suf7,sum_6,rfl,hd7,hl7,hL7,sf3,sf7,sf8,sf9,hst⟩:=ik hI7 hI
 refine sq (L_lss rfl sf9 sf8 (nq (W_cond (b:=decide ((i_5 : Int) < (c.terms.length : Int))) rfl (fun hc8=>?_) (fun hc8=>?_))))
 have hlt7:=of_decide_eq_true hc8
 rcases suf7 with _ | ⟨x_7,rest7⟩
 exact absurd hlt7 (by simp at hl7; omega)
 obtain ⟨o7,hB7,hL7⟩:=range_cons hL7
 rw [i_Constraint_total_b1] at hB7
 have hix7:=drop_idx hd7
 refine W_skip (W_seq (W_block (sq (L_ix (r:=rTerm) rfl Tryz.underlying44 Tryz.sizeOf85 sf7 h0_0 sf9 hix7 (fun g16 o17 cs_g16 hrk_hat18 hat18=>?_)))))
 obtain rfl:=rTerm_iff.1 hrk_hat18
 refine L_lda (cs:=[I x_7.coef,I x_7.lit]) rfl Tryz.isAgg85 Tryz.sizeOf85 rfl (At.sub (AtH.at hat18 hst.sub) 0 2) rfl (L_al (cs:=#[I 0,I 0]) rfl Tryz.zeroValue85 rfl hst (fun g20 w21 hst=>L_staB (vs:=#[I x_7.coef,I x_7.lit]) (cs2:=#[I x_7.coef,I x_7.lit]) 0 rfl Tryz.sizeOf85 rfl rfl rfl (ones_cons rfl (ones_cons rfl ones_nil)) hst rfl (by show 0 + 2≤2; decide) rfl (fun w22 hst=>nn (W_region (mF sf3 rfl (fA 0 fa_85_0 rfl rfl (ldB 0 hst Tryz.isAgg3 rfl rfl rfl (L_add rfl rfl rfl (aI rfl (nn (W_region (L_add rfl sf9 rfl (mI rfl (nn ?_))))))))))))))
 obtain rfl:=so hB7
 show ∃ m,m < _∧I7 m _ _
 refine ⟨rest7.length,by simp,?_⟩
 exact ij hI7 ⟨i_5 + 1,rest7,i64 (sum_6 + x_7.coef),rfl,drop_next hd7,by simp at hl7; omega,hL7,rfl,sf7,sf8,(Eq.trans rfl (congrArg (Value.int .i64) (i64_succ (n:=c.terms.length) (by simp at hl7; omega) hlen7))),(Star.keepN 0 hst)⟩
 rcases suf7 with _ | ⟨_,_⟩
 obtain rfl:=range_nil hL7
 refine W_exit (rj hR7 ⟨sum_6,rfl,sf3,hst⟩)
 exact absurd (of_decide_eq_false hc8) (by simp at hl7; omega)
 intro f w_ hR
 obtain ⟨sum_6,rfl,sf3,hst⟩:=rk hR7 hR
 refine sq (mF sf3 rfl (aI rfl (nn (W_ret (retG1 (v1:=I sum_6) Tryz.results65 rfl ?_)))))
 obtain rfl:=so hF
 exact ⟨rfl,hst⟩
theorem i_Constraint_negation_c {c : Con} {v0_0 : Value} {H : FH} {w : World} (hst : Star H w []) (h0_0 : (rS 85 rTerm).rel H [v0_0] c.terms) {r : Con} (hF : i_Constraint_negation c = some r) :
 C Tryz.prog 93 #[.agg #[v0_0,I c.bound]] w fun v w'=>∃ (u1 : Value),v = .agg #[u1,I r.bound]∧Star H w' [oF 85 rTerm u1 r.terms]:=by
 unfold i_Constraint_negation at hF
 refine C_enter Tryz.func93 rfl Tryz.ntmps93 rfl (sq (L_box (v:=.agg #[v0_0,I c.bound]) (cs:=#[v0_0,I c.bound]) rfl rfl rfl hst (fun g5 w6 hst=>L_al (cs:=#[S0,I 0]) rfl Tryz.zeroValue46 rfl hst (fun g7 w8 hst=>nq ?_))))
 obtain ⟨x14,hx14,hF⟩:=bind_some hF
 refine W_drawS 9 [isV (.agg #[v0_0,I c.bound]),isV (I x14),isV (Pq g5 1),isV (I c.bound),isV (I (i64 (x14 - c.bound))),isV (I (i64 ((i64 (x14 - c.bound)) + 1))),isV (I (max 0 (i64 ((i64 (x14 - c.bound)) + 1)))),isV (.agg #[S0,I (max 0 (i64 ((i64 (x14 - c.bound)) + 1)))]),anyF] [box g7 46 #[S0,I 0],box g5 46 #[v0_0,I c.bound]] [.made 8 3 (fun v_=>boxV v_ 46 #[S0,I 0]) none] ([]) [([],[]),([],[]),([],[]),([],[]),([],[]),([],[]),([],[]),([],[]),([],[0])] (S:=[(some 8,[3],none)]) Tryz_mix (by kernel_rfl) rfl (by kernel_rfl) (amF_cons (mono_V _) (amF_cons (mono_V _) (amF_cons (mono_V _) (amF_cons (mono_V _) (amF_cons (mono_V _) (amF_cons (mono_V _) (amF_cons (mono_V _) (amF_cons (mono_V _) (amF_cons (mono_any) amF_nil))))))))) hst ?_ (fun f w_ H19 hS19 hE19 hT19 hst=>?_)
 refine opsS_cons (fun f w_ _ _ s _ _ hst=>L_lda (cs:=[v0_0,I c.bound]) rfl Tryz.isAgg46 Tryz.sizeOf46 ((s 1 rfl).trans rfl) (At.sub0 (Blk.at (Star.blkAt 1 hst rfl)) 0 2) rfl (nO rfl rfl hst)) (opsS_cons ?_ ?_)
 intro f w_ H19 X19 hS19 hE19 hP19 hst
 obtain ⟨H28b,l29,s30,z31,k32⟩:=hst.borrow
 refine L_call rfl Tryz.call65 (ops1 (hP19 0 6 rfl rfl)) (i_Constraint_total_c (c:=c) s30 (RP.mono _ h0_0 (Le.trans hE19 l29)) hx14) ?_
 rintro _ w33 ⟨rfl,hst⟩
 have hst:=k32 hst c0
 exact L_nil ⟨rfl,_,_,rfl,Le.refl _,fun _ _=>rfl,hst⟩
 refine opsS_cons (fun f w_ _ _ s _ _ hst=>fA 1 fa_46_1 ((s 1 rfl).trans rfl) rfl (nO rfl rfl hst)) (opsS_cons (fun f w_ _ _ _ _ p hst=>ldB 1 hst Tryz.isAgg3 (p 2 8 rfl rfl) rfl rfl (nO rfl rfl hst)) (opsS_cons (fun f w_ _ _ _ _ p hst=>L_sub rfl (p 1 7 rfl rfl) (p 3 9 rfl rfl) (nO rfl rfl hst)) (opsS_cons (fun f w_ _ _ _ _ p hst=>L_add rfl (p 4 10 rfl rfl) rfl (nO rfl rfl hst)) (opsS_cons (fun f w_ _ _ _ _ p hst=>L_max rfl rfl (p 5 11 rfl rfl) (nO rfl rfl hst)) (opsS_cons (fun f w_ _ _ _ _ p hst=>L_bld rfl (parts1 (p 6 12 rfl rfl)) (bld_46_1 (I (max 0 (i64 ((i64 (x14 - c.bound)) + 1)))) rfl) (nO rfl rfl hst)) (opsS_cons ?_ ?_))))))
 intro f w_ H19 X19 hS19 hE19 hP19 hst
 refine L_al (cs:=#[S0,I 0]) rfl Tryz.zeroValue46 rfl hst (fun g34 w35 hst=>?_)
 have hst:=hst.gets [2,2,2] rfl
 have hst:=Star.boxV (v:=Pt g34) rfl hst
 have hst:=hst.gets [2,2] rfl
 exact L_nil ⟨rfl,_,_,rfl,Le.refl _,fun _ _=>trivial,hst⟩
 exact opsS_nil
 have hst : Star H19 w_ ([box g7 46 #[S0,I 0],box g5 46 #[v0_0,I c.bound],boxV (f 3) 46 #[S0,I 0]]):=hst
 obtain ⟨g36,hv36,hst⟩:=Star.unboxV (Star.get 2 hst rfl)
 refine L_staB (vs:=#[S0,I (max 0 (i64 ((i64 (x14 - c.bound)) + 1)))]) (cs2:=#[S0,I (max 0 (i64 ((i64 (x14 - c.bound)) + 1)))]) 0 rfl Tryz.sizeOf46 hv36 (hT19 7 13 rfl rfl) rfl (ones_cons rfl (ones_cons rfl ones_nil)) hst rfl (by show 0 + 2≤2; decide) rfl (fun w37 hst=>nq (sq (fA 0 fa_46_0 ((hS19 1 rfl).trans rfl) rfl (ldB 2 hst Tryz.isAgg44 rfl rfl rfl (L_len rfl Tryz.underlying44 rfl (slice_len (RP.mono _ h0_0 hE19)) (mI rfl (nn ?_)))))))
 have hlen41 : List.length c.terms≤9223372036854775807:=len_le (slice_len (RP.mono _ h0_0 hE19))
 obtain ⟨j41,hL41,hF⟩:=bind_some hF
 obtain ⟨R41,hR41⟩:=exR fun f w_=>∃ g36_0_39 : List Term,∃ v39_g36_0 : Value,j41 = .nx g36_0_39∧f 2 = Pt g7∧f 3 = Pt g36∧Star H19 w_ ([oF 85 rTerm v39_g36_0 g36_0_39,box g36 46 #[v39_g36_0,I (max 0 (i64 ((i64 (x14 - c.bound)) + 1)))],box g7 46 #[S0,I 0]])
 refine W_join R41 ?_ ?_
 refine W_block ?_
 obtain ⟨I41,hI41⟩:=exI fun n f w_=>∃ i_38 : Nat,∃ suf41 : List Term,∃ g36_0_39 : List Term,∃ v39_g36_0 : Value,n = suf41.length∧List.drop i_38 c.terms = suf41∧i_38 + suf41.length = c.terms.length∧rangeL i_Constraint_negation_b1 suf41 i_38 g36_0_39 = some j41∧f 2 = Pt g7∧f 3 = Pt g36∧f 15 = v0_0∧f 16 = I (c.terms.length : Int)∧f 17 = I i_38∧Star H19 w_ ([oF 85 rTerm v39_g36_0 g36_0_39,box g36 46 #[v39_g36_0,I (max 0 (i64 ((i64 (x14 - c.bound)) + 1)))],box g7 46 #[S0,I 0]])
 have hst:=Star.addNil (R:=(OR.frz rTerm)) (e:=85) hst
 refine W_loop I41 (n:=c.terms.length) ?_ ?_
 exact ij hI41 ⟨0,c.terms,[],S0,rfl,rfl,Nat.zero_add _,hL41,((hS19 2 rfl).trans rfl),hv36,rfl,rfl,rfl,(Star.keepN 3 hst)⟩
 intro n41 f w_ hI
 obtain ⟨i_38,suf41,g36_0_39,v39_g36_0,rfl,hd41,hl41,hL41,sf2,sf3,sf15,sf16,sf17,hst⟩:=ik hI41 hI
 refine sq (L_lss rfl sf17 sf16 (nq (W_cond (b:=decide ((i_38 : Int) < (c.terms.length : Int))) rfl (fun hc43=>?_) (fun hc43=>?_))))
 have hlt41:=of_decide_eq_true hc43
 rcases suf41 with _ | ⟨x_41,rest41⟩
 exact absurd hlt41 (by simp at hl41; omega)
 obtain ⟨o41,hB41,hL41⟩:=range_cons hL41
 rw [i_Constraint_negation_b1] at hB41
 have hix41:=drop_idx hd41
 refine W_skip (W_seq (W_block (sq (L_ix (r:=rTerm) rfl Tryz.underlying44 Tryz.sizeOf85 sf15 (RP.mono _ h0_0 hE19) sf17 hix41 (fun g51 o52 cs_g51 hrk_hat53 hat53=>?_)))))
 obtain rfl:=rTerm_iff.1 hrk_hat53
 refine L_lda (cs:=[I x_41.coef,I x_41.lit]) rfl Tryz.isAgg85 Tryz.sizeOf85 rfl (At.sub (AtH.at hat53 hst.sub) 0 2) rfl (L_al (cs:=#[I 0,I 0]) rfl Tryz.zeroValue85 rfl hst (fun g55 w56 hst=>L_staB (vs:=#[I x_41.coef,I x_41.lit]) (cs2:=#[I x_41.coef,I x_41.lit]) 0 rfl Tryz.sizeOf85 rfl rfl rfl (ones_cons rfl (ones_cons rfl ones_nil)) hst rfl (by show 0 + 2≤2; decide) rfl (fun w57 hst=>nn ?_)))
 obtain ⟨x61,hx61,hB41⟩:=bind_some hB41
 refine W_region (fA 0 fa_46_0 sf3 rfl (ldB 2 hst Tryz.isAgg44 rfl rfl rfl (fA 0 fa_85_0 rfl rfl (ldB 0 hst Tryz.isAgg3 rfl rfl rfl (fA 1 fa_85_1 rfl rfl (ldB 0 hst Tryz.isAgg3 rfl rfl rfl (L_neg rfl rfl (L_bld rfl (parts2 rfl rfl) (bld_85_0_1 (I x_41.coef) (I (i64 (-x_41.lit))) rfl rfl) (L_bs rfl (parts1 rfl) (bs_44_1_2 (I x_41.coef) (I (i64 (-x_41.lit))) ) hst (fun g66 w67 hst=>?_))))))))))
 have hst:=Star.addF (r:=rTerm) (cs:=[I x_41.coef,I (i64 (-x_41.lit))]) (x:=({ coef:=x_41.coef,lit:=i64 (-x_41.lit) } : Term)) hst (rTerm_iff.2 rfl)
 have hst:=Star.mkRow (R:=(OR.frz rTerm)) [([I x_41.coef,I (i64 (-x_41.lit))],({ coef:=x_41.coef,lit:=i64 (-x_41.lit) } : Term))] [({ coef:=x_41.coef,lit:=i64 (-x_41.lit) } : Term)] 1 hst rfl rfl rfl (by decide)
 have hst:=hst.get 2 rfl
 refine L_appM (v:=v39_g36_0) (u:=(Sl g66 1 1)) rfl et_44 rfl rfl hst hx61 (fun v69 w70 hst=>fA 0 fa_46_0 sf3 rfl (L_stB (v:=v69) (cs2:=#[v69,I (max 0 (i64 ((i64 (x14 - c.bound)) + 1)))]) 2 rfl Tryz.sizeOf44 rfl rfl (one_len (Star.len 0 hst rfl)) hst rfl rfl rfl (fun w72 hst=>nn (W_region (L_add rfl sf17 rfl (mI rfl (nn ?_)))))))
 obtain rfl:=so hB41
 have hst:=hst.gets [3,1,2] rfl
 show ∃ m,m < _∧I41 m _ _
 refine ⟨rest41.length,by simp,?_⟩
 exact ij hI41 ⟨i_38 + 1,rest41,x61,v69,rfl,drop_next hd41,by simp at hl41; omega,hL41,sf2,sf3,sf15,sf16,(Eq.trans rfl (congrArg (Value.int .i64) (i64_succ (n:=c.terms.length) (by simp at hl41; omega) hlen41))),(Star.keepN 3 hst)⟩
 rcases suf41 with _ | ⟨_,_⟩
 obtain rfl:=range_nil hL41
 refine W_exit (rj hR41 ⟨g36_0_39,v39_g36_0,rfl,sf2,sf3,hst⟩)
 exact absurd (of_decide_eq_false hc43) (by simp at hl41; omega)
 intro f w_ hR
 obtain ⟨g36_0_39,v39_g36_0,rfl,sf2,sf3,hst⟩:=rk hR41 hR
 refine sq (L_lda (cs:=[v39_g36_0,I (max 0 (i64 ((i64 (x14 - c.bound)) + 1)))]) rfl Tryz.isAgg46 Tryz.sizeOf46 sf3 (At.sub0 (Blk.at (Star.blkAt 1 hst rfl)) 0 2) rfl (L_staB (vs:=#[v39_g36_0,I (max 0 (i64 ((i64 (x14 - c.bound)) + 1)))]) (cs2:=#[v39_g36_0,I (max 0 (i64 ((i64 (x14 - c.bound)) + 1)))]) 2 rfl Tryz.sizeOf46 sf2 rfl rfl (ones_cons (one_len (Star.len 0 hst rfl)) (ones_cons rfl ones_nil)) hst rfl (by show 0 + 2≤2; decide) rfl (fun w74 hst=>nn (W_ret (retG1 (v1:=.agg #[v39_g36_0,I (max 0 (i64 ((i64 (x14 - c.bound)) + 1)))]) Tryz.results93 (resV_agg Tryz.isAgg46 Tryz.sizeOf46 sf2 (Star.blkAt 0 hst rfl) rfl) ?_)))))
 obtain rfl:=so hF
 have hst:=hst.get 1 rfl
 exact ⟨v39_g36_0,rfl,(Star.down (Star.keepN 1 hst) hE19 (co closed_term c0))⟩
theorem i_rup_c {fu : Nat} {list : List Con} {c : Con} {v0 : Value} {v1_0 : Value} {H : FH} {w : World} (hst : Star H w []) (h0 : (rS 46 (rCon 85)).rel H [v0] list) (h1_0 : (rS 85 rTerm).rel H [v1_0] c.terms) {r : Bool} (hF : i_rup fu list c = some r) :
 C Tryz.prog 83 #[v0,.agg #[v1_0,I c.bound]] w fun v w'=>v = Bo r∧Star H w' []:=by
 unfold i_rup at hF
 refine C_enter Tryz.func83 rfl Tryz.ntmps83 rfl (sq (L_box (v:=.agg #[v1_0,I c.bound]) (cs:=#[v1_0,I c.bound]) rfl rfl rfl hst (fun g3 w4 hst=>aB rfl (nq ?_))))
 obtain ⟨x5,hx5,hF⟩:=bind_some hF
 obtain ⟨x13,hx13,hF⟩:=bind_some hF
 obtain ⟨x19,hx19,hF⟩:=bind_some hF
 obtain ⟨x25,hx25,hF⟩:=bind_some hF
 obtain ⟨x36,hx36,hF⟩:=bind_some hF
 refine W_drawS 12 [isV (v0),anyF,isV (.agg #[v1_0,I c.bound]),exA fun u_0=>isV (.agg #[u_0,I x13.bound]),anyF,anyF,anyF,tup2 (anyF) (isV (I x36.2)),tup2 (anyF) (isV (I x36.2)),anyF,isV (I x36.2),anyF] [box g3 46 #[v1_0,I c.bound]] [.made 1 9 (fun v_=>oF 46 (rCon 85) v_ x5) (some 5),.made 3 11 (fun v_=>oF 85 rTerm (aggC v_ 0) x13.terms) (some 4),.made 4 12 (fun v_=>oS 46 (oCon 85) v_ ([x13])) (some 5),.made 5 13 (fun v_=>oF 46 (rCon 85) v_ x19) none,.made 6 14 (fun v_=>oF 3 RP.int v_ x25) none,.made 7 15 (fun v_=>oF 3 RP.int (tupC v_ 0) x36.1) (some 8),.made 8 7 (fun v_=>oF 3 RP.int (tupC v_ 0) x36.1) (some 9),.made 9 16 (fun v_=>oF 3 RP.int v_ x36.1) (some 11),.made 11 5 (fun v_=>oF 3 RP.int v_ x36.1) none] ([]) [([],[]),([],[0]),([],[]),([],[1]),([1],[2]),([0,2],[3]),([],[4]),([3,4],[3,4,5]),([5],[6]),([6],[7]),([],[]),([7],[8])] (S:=[(some 1,[9],some 5),(some 3,[11],some 4),(some 4,[12],some 5),(some 5,[13],none),(some 6,[14],none),(some 7,[15],some 8),(some 8,[7],some 9),(some 9,[16],some 11),(some 11,[5],none)]) Tryz_mix (by kernel_rfl) rfl (by kernel_rfl) (amF_cons (mono_V _) (amF_cons (mono_any) (amF_cons (mono_V _) (amF_cons (mono_exA fun _=>mono_V _) (amF_cons (mono_any) (amF_cons (mono_any) (amF_cons (mono_any) (amF_cons (mono_tup2 (mono_any) (mono_V _)) (amF_cons (mono_tup2 (mono_any) (mono_V _)) (amF_cons (mono_any) (amF_cons (mono_V _) (amF_cons (mono_any) amF_nil)))))))))))) hst ?_ (fun f w_ H39 hS39 hE39 hT39 hst=>?_)
 refine opsS_cons (fun f w_ _ _ s _ _ hst=>mF ((s 0 rfl).trans rfl) rfl (nO rfl rfl hst)) (opsS_cons ?_ ?_)
 intro f w_ H39 X39 hS39 hE39 hP39 hst
 refine L_call rfl Tryz.call17 (ops1 (hP39 0 8 rfl rfl)) (slices_Clone_implConstraint_c (s:=list) hst (RP.mono _ h0 hE39) hx5) ?_
 rintro r69_0 w69 ⟨H69,l69,_,rfl,hst⟩
 have hst:=hst.get 1 rfl
 exact L_nil ⟨rfl,_,_,rfl,l69,fun _ _=>trivial,hst⟩
 refine opsS_cons (fun f w_ _ _ s _ _ hst=>L_lda (cs:=[v1_0,I c.bound]) rfl Tryz.isAgg46 Tryz.sizeOf46 ((s 3 rfl).trans rfl) (At.sub0 (Blk.at (Star.blkAt 0 hst rfl)) 0 2) rfl (nO rfl rfl hst)) (opsS_cons ?_ ?_)
 intro f w_ H39 X39 hS39 hE39 hP39 hst
 obtain ⟨H71b,l72,s73,z74,k75⟩:=hst.borrow
 refine L_call rfl Tryz.call93 (ops1 (hP39 2 10 rfl rfl)) (i_Constraint_negation_c (c:=c) s73 (RP.mono _ h1_0 (Le.trans hE39 l72)) hx13) ?_
 rintro _ w76 ⟨r76_0,rfl,hst⟩
 have hst:=k75 hst (co closed_term c0)
 have hst:=hst.get 1 rfl
 exact L_nil ⟨rfl,_,_,rfl,Le.refl _,fun _ _=>⟨_,rfl⟩,hst⟩
 refine opsS_cons ?_ ?_
 intro f w_ H39 X39 hS39 hE39 hP39 hst
 have hst : Star H39 w_ (box g3 46 #[v1_0,I c.bound] :: own (OR.ownS 85 (OR.frz rTerm)) [(aggC (f 11) 0)] x13.terms :: X39):=hst
 obtain ⟨u78_0,hv78⟩:=(hP39 3 11 rfl rfl)
 have hren : Star H39 w_ (box g3 46 #[v1_0,I c.bound] :: own (OR.ownS 85 (OR.frz rTerm)) [(aggC (f 11) 0)] x13.terms :: X39):=hst
 rw [hv78] at hren
 have hst : Star H39 w_ (box g3 46 #[v1_0,I c.bound] :: oF 85 rTerm u78_0 x13.terms :: X39):=hren
 refine L_bs rfl (parts1 hv78) (bs_23_1_2 (u78_0) (I x13.bound) ) hst (fun g79 w80 hst=>?_)
 have hst:=hst.get 2 rfl
 have hst:=oCon_close (c:=x13) hst
 have hst:=Star.mkRow (R:=(oCon 85)) [([u78_0,I x13.bound],x13)] [x13] 1 hst rfl rfl rfl (by decide)
 have hst:=hst.get 1 rfl
 exact L_nil ⟨rfl,_,_,rfl,Le.refl _,fun _ _=>trivial,hst⟩
 refine opsS_cons ?_ ?_
 intro f w_ H39 X39 hS39 hE39 hP39 hst
 have hst : Star H39 w_ (box g3 46 #[v1_0,I c.bound] :: oF 46 (rCon 85) (f 9) x5 :: oS 46 (oCon 85) (f 12) ([x13]) :: X39):=hst
 have hst:=hst.get 2 rfl
 obtain ⟨H84,l85,hst⟩:=Star.shallow hst
 have hst : Star H84 w_ (oF 46 (rCon 85) (f 12) ([x13]) :: _):=hst
 have hst:=hst.get 2 rfl
 refine L_appM (v:=(f 9)) (u:=(f 12)) rfl et_23 rfl rfl hst hx19 (fun v86 w87 hst=>?_)
 have hst:=hst.get 1 rfl
 exact L_nil ⟨rfl,_,_,rfl,l85,fun _ _=>trivial,hst⟩
 refine opsS_cons ?_ ?_
 intro f w_ H39 X39 hS39 hE39 hP39 hst
 refine L_mk (R:=(OR.frz RP.int)) (z0:=0) (zc:=[I 0]) rfl et_69 (by kernel_rfl) (fun _ _=>⟨rfl,rfl⟩) rfl rfl hx25 hst (fun v89 w90 hst=>?_)
 have hst:=hst.get 1 rfl
 exact L_nil ⟨rfl,_,_,rfl,Le.refl _,fun _ _=>trivial,hst⟩
 refine opsS_cons ?_ ?_
 intro f w_ H39 X39 hS39 hE39 hP39 hst
 have hst : Star H39 w_ (box g3 46 #[v1_0,I c.bound] :: oF 46 (rCon 85) (f 13) x19 :: oF 3 RP.int (f 14) x25 :: X39):=hst
 obtain ⟨H94b,l95,s96,z97,k98⟩:=hst.borrow
 have hb99 : (rS 46 (rCon 85)).rel H94b [(f 13)] x19:=fz_own 1 z97 rfl
 have hb100 : (rS 3 RP.int).rel H94b [(f 14)] x25:=fz_own 2 z97 rfl
 refine L_call rfl Tryz.call36 (ops2 rfl rfl) (i_propagate_c (list:=x19) (p:=x25) s96 hb99 hb100 hx36) ?_
 rintro _ w101 ⟨r101_0,rfl,hst⟩
 have hst:=k98 hst (co closed_int c0)
 have hst:=hst.gets [3,3,3] rfl
 exact L_nil ⟨rfl,_,_,rfl,Le.refl _,fun _ _=>⟨_,_,rfl,trivial,rfl⟩,hst⟩
 refine opsS_cons ?_ ?_
 intro f w_ H39 X39 hS39 hE39 hP39 hst
 have hst : Star H39 w_ (box g3 46 #[v1_0,I c.bound] :: own (OR.ownS 3 (OR.frz RP.int)) [(tupC (f 15) 0)] x36.1 :: X39):=hst
 obtain ⟨a103_0,a103_1,hv103,ht103_0,ht103_1⟩:=(hP39 7 15 rfl rfl)
 obtain rfl:=ht103_1
 have hren : Star H39 w_ (box g3 46 #[v1_0,I c.bound] :: own (OR.ownS 3 (OR.frz RP.int)) [(tupC (f 15) 0)] x36.1 :: X39):=hst
 rw [hv103] at hren
 have hst : Star H39 w_ (box g3 46 #[v1_0,I c.bound] :: oF 3 RP.int a103_0 x36.1 :: X39):=hren
 refine mF hv103 rfl (L_nil ⟨rfl,_,_,rfl,Le.refl _,fun _ _=>⟨_,_,rfl,trivial,rfl⟩,hst⟩)
 refine opsS_cons ?_ ?_
 intro f w_ H39 X39 hS39 hE39 hP39 hst
 have hst : Star H39 w_ (box g3 46 #[v1_0,I c.bound] :: own (OR.ownS 3 (OR.frz RP.int)) [(tupC (f 7) 0)] x36.1 :: X39):=hst
 obtain ⟨a104_0,a104_1,hv104,ht104_0,ht104_1⟩:=(hP39 8 7 rfl rfl)
 obtain rfl:=ht104_1
 have hren : Star H39 w_ (box g3 46 #[v1_0,I c.bound] :: own (OR.ownS 3 (OR.frz RP.int)) [(tupC (f 7) 0)] x36.1 :: X39):=hst
 rw [hv104] at hren
 have hst : Star H39 w_ (box g3 46 #[v1_0,I c.bound] :: oF 3 RP.int a104_0 x36.1 :: X39):=hren
 refine L_ex (v:=a104_0) rfl hv104 rfl (L_nil ⟨rfl,_,_,rfl,Le.refl _,fun _ _=>trivial,hst⟩)
 refine opsS_cons ?_ ?_
 intro f w_ H39 X39 hS39 hE39 hP39 hst
 obtain ⟨a105_0,a105_1,hv105,ht105_0,ht105_1⟩:=(hP39 8 7 rfl rfl)
 obtain rfl:=ht105_1
 refine L_ex (v:=I x36.2) rfl hv105 rfl (L_nil ⟨rfl,_,_,rfl,Le.refl _,fun _ _=>rfl,hst⟩)
 refine opsS_cons ?_ ?_
 intro f w_ H39 X39 hS39 hE39 hP39 hst
 have hst : Star H39 w_ (box g3 46 #[v1_0,I c.bound] :: oF 3 RP.int (f 16) x36.1 :: X39):=hst
 refine aV (f 16) rfl (L_nil ⟨rfl,_,_,rfl,Le.refl _,fun _ _=>trivial,hst⟩)
 exact opsS_nil
 have hst : Star H39 w_ ([box g3 46 #[v1_0,I c.bound],oF 46 (rCon 85) (f 13) x19,oF 3 RP.int (f 14) x25,oF 3 RP.int (f 5) x36.1]):=hst
 refine aF (hT39 10 17 rfl rfl) rfl (ns (mI rfl (L_geq rfl rfl rfl (aB rfl (nn (W_ret (retG1 (v1:=Bo (decide (x36.2 ≥ 0))) Tryz.results83 rfl ?_)))))))
 obtain rfl:=so hF
 exact ⟨rfl,(Star.down (Star.keepN 0 hst) hE39 c0)⟩
theorem i_running_left_c {r_ : Db} {g_0 : Nat} {v0_0 : Value} {v0_1 : Value} {H : FH} {w : World} {R : List Ass} (hst : Star H w (box g_0 89 #[v0_0,v0_1] :: oF 46 (rCon 85) v0_0 r_.list :: oF 4 RP.bool v0_1 r_.gone :: R)) {r : List Con} (hF : i_running_left r_ = some r) :
 C Tryz.prog 84 #[Pt g_0] w fun v w'=>∃ H' : FH,Le H H'∧∃ (u1 : Value),v = u1∧Star H' w' (oF 46 (rCon 85) u1 r :: box g_0 89 #[v0_0,v0_1] :: oF 46 (rCon 85) v0_0 r_.list :: oF 4 RP.bool v0_1 r_.gone :: R):=by
 unfold i_running_left at hF
 refine C_enter Tryz.func84 rfl Tryz.ntmps84 rfl (sq (aV S0 rfl (ns (aV S0 rfl (nq (sq (mV (Pt g_0) rfl (L_nc rfl rfl (fA 0 fa_89_0 rfl rfl (ldB 0 hst Tryz.isAgg23 rfl rfl rfl (L_len rfl Tryz.underlying23 rfl (Star.len 1 hst rfl) (mI rfl (nn ?_)))))))))))))
 have hlen4 : List.length r_.list≤9223372036854775807:=len_le (Star.len 1 hst rfl)
 obtain ⟨j4,hL4,hF⟩:=bind_some hF
 obtain ⟨R4,hR4⟩:=exR fun f w_=>∃ out_2 : List Con,∃ v2_out : Value,j4 = .nx out_2∧f 3 = v2_out∧Star H w_ (oF 46 (rCon 85) v2_out out_2 :: oF 46 (rCon 85) v0_0 r_.list :: oF 4 RP.bool v0_1 r_.gone :: box g_0 89 #[v0_0,v0_1] :: R)
 refine W_join R4 ?_ ?_
 refine W_block ?_
 obtain ⟨I4,hI4⟩:=exI fun n f w_=>∃ i_1 : Nat,∃ suf4 : List Con,∃ out_2 : List Con,∃ v2_out : Value,n = suf4.length∧List.drop i_1 r_.list = suf4∧i_1 + suf4.length = r_.list.length∧rangeL (i_running_left_b1 r_) suf4 i_1 out_2 = some j4∧f 0 = Pt g_0∧f 3 = v2_out∧f 9 = v0_0∧f 10 = I (r_.list.length : Int)∧f 11 = I i_1∧Star H w_ (oF 46 (rCon 85) v2_out out_2 :: oF 46 (rCon 85) v0_0 r_.list :: oF 4 RP.bool v0_1 r_.gone :: box g_0 89 #[v0_0,v0_1] :: R)
 have hst:=Star.addNil (R:=(OR.frz (rCon 85))) (e:=46) hst
 have hst:=hst.gets [1,3,3,3] rfl
 refine W_loop I4 (n:=r_.list.length) ?_ ?_
 exact ij hI4 ⟨0,r_.list,[],S0,rfl,rfl,Nat.zero_add _,hL4,rfl,rfl,rfl,rfl,rfl,hst⟩
 intro n4 f w_ hI
 obtain ⟨i_1,suf4,out_2,v2_out,rfl,hd4,hl4,hL4,sf0,sf3,sf9,sf10,sf11,hst⟩:=ik hI4 hI
 refine sq (L_lss rfl sf11 sf10 (nq (W_cond (b:=decide ((i_1 : Int) < (r_.list.length : Int))) rfl (fun hc6=>?_) (fun hc6=>?_))))
 have hlt4:=of_decide_eq_true hc6
 rcases suf4 with _ | ⟨x_4,rest4⟩
 exact absurd hlt4 (by simp at hl4; omega)
 obtain ⟨o4,hB4,hL4⟩:=range_cons hL4
 rw [i_running_left_b1] at hB4
 have hix4:=drop_idx hd4
 refine W_skip (W_seq (W_block (sq (mF sf11 rfl ?_))))
 obtain ⟨g14,cap_g14,hv15,_,_⟩:=Star.row 1 hst rfl hix4
 refine L_ixO (R:=(OR.frz (rCon 85))) (tb:=0) 0 rfl Tryz.underlying23 Tryz.sizeOf46 sf9 hv15 (by first | rfl | simp) sf11 hix4 ?_
 obtain ⟨cs16,hr16,hat16⟩:=Star.eltF 1 hst rfl hv15 hix4
 obtain ⟨u17_0,rfl,hu17_0⟩:=rCon_iff.1 hr16
 refine L_lda (cs:=[u17_0,I x_4.bound]) rfl Tryz.isAgg46 Tryz.sizeOf46 rfl (At.sub hat16 0 2) rfl (L_al (cs:=#[S0,I 0]) rfl Tryz.zeroValue46 rfl hst (fun g18 w19 hst=>aI rfl (L_staB (vs:=#[u17_0,I x_4.bound]) (cs2:=#[u17_0,I x_4.bound]) 0 rfl Tryz.sizeOf46 rfl rfl rfl (ones_cons (one_len (slice_len hu17_0)) (ones_cons rfl ones_nil)) hst rfl (by show 0 + 2≤2; decide) rfl (fun w20 hst=>nq ?_))))
 obtain ⟨x21,hx21,hB4⟩:=bind_some hB4
 refine W_region (mF sf0 rfl (L_nc rfl rfl (fA 1 fa_89_1 rfl rfl (ldB 4 hst Tryz.isAgg26 rfl rfl rfl (mI rfl ?_)))))
 obtain ⟨g26,cap_g26,hv27,_,_⟩:=Star.row 3 hst rfl hx21
 refine L_ixO (R:=(OR.frz RP.bool)) (tb:=0) 0 rfl Tryz.underlying26 Tryz.sizeOf4 rfl hv27 (by first | rfl | simp) rfl hx21 ?_
 obtain ⟨cs28,hr28,hat28⟩:=Star.eltF 3 hst rfl hv27 hx21
 obtain rfl : _ = [_]:=hr28
 refine L_ld rfl Tryz.isAgg4 rfl (At.cell hat28 (j:=0) rfl) (L_not_ rfl rfl (nn ?_))
 obtain ⟨out_30,hA32,hB4⟩:=bind_some hB4
 obtain ⟨R32,hR32⟩:=exR fun f w_=>∃ v30_out : Value,f 0 = Pt g_0∧f 3 = v30_out∧f 9 = v0_0∧f 10 = I (r_.list.length : Int)∧f 11 = I i_1∧Star H w_ (oF 46 (rCon 85) v30_out out_30 :: oF 46 (rCon 85) v0_0 r_.list :: oF 4 RP.bool v0_1 r_.gone :: box g_0 89 #[v0_0,v0_1] :: R)
 refine W_join R32 ?_ ?_
 refine W_cond (b:=(!x21)) rfl (fun hc33=>?_) (fun hc33=>?_)
 have hA32:=(ite_t hc33).symm.trans hA32
 obtain ⟨x37,hx37,hA32⟩:=bind_some hA32
 refine W_region (mF sf3 rfl (L_lda (cs:=[u17_0,I x_4.bound]) rfl Tryz.isAgg46 Tryz.sizeOf46 rfl (At.sub0 (Blk.at (Star.blkAt 0 hst rfl)) 0 2) rfl (L_bs rfl (parts1 rfl) (bs_23_1_2 (u17_0) (I x_4.bound) ) hst (fun g41 w42 hst=>?_))))
 have hst:=Star.addF (r:=(rCon 85)) (cs:=[u17_0,I x_4.bound]) (x:=x_4) hst (rCon_iff.2 ⟨_,rfl,hu17_0⟩)
 have hst:=Star.mkRow (R:=(OR.frz (rCon 85))) [([u17_0,I x_4.bound],x_4)] [x_4] 1 hst rfl rfl rfl (by decide)
 have hst:=hst.get 2 rfl
 refine L_appM (v:=v2_out) (u:=(Sl g41 1 1)) rfl et_23 rfl rfl hst hx37 (fun v44 w45 hst=>aV v44 rfl (nn ?_))
 obtain rfl:=so hA32
 have hst:=hst.gets [4,4,4,3] rfl
 have hst:=Star.drop 4 hst rfl
 exact rj hR32 ⟨v44,sf0,rfl,sf9,sf10,sf11,hst⟩
 have hA32:=(ite_f hc33).symm.trans hA32
 refine W_skip ?_
 obtain rfl:=so hA32
 have hst:=hst.gets [4,4,4,4] rfl
 have hst:=Star.drop 4 hst rfl
 exact rj hR32 ⟨v2_out,sf0,sf3,sf9,sf10,sf11,hst⟩
 intro f w_ hR
 obtain ⟨v30_out,sf0,sf3,sf9,sf10,sf11,hst⟩:=rk hR32 hR
 refine W_region (L_add rfl sf11 rfl (mI rfl (nn ?_)))
 obtain rfl:=so hB4
 show ∃ m,m < _∧I4 m _ _
 refine ⟨rest4.length,by simp,?_⟩
 exact ij hI4 ⟨i_1 + 1,rest4,out_30,v30_out,rfl,drop_next hd4,by simp at hl4; omega,hL4,sf0,sf3,sf9,sf10,(Eq.trans rfl (congrArg (Value.int .i64) (i64_succ (n:=r_.list.length) (by simp at hl4; omega) hlen4))),hst⟩
 rcases suf4 with _ | ⟨_,_⟩
 obtain rfl:=range_nil hL4
 refine W_exit (rj hR4 ⟨out_2,v2_out,rfl,sf3,hst⟩)
 exact absurd (of_decide_eq_false hc6) (by simp at hl4; omega)
 intro f w_ hR
 obtain ⟨out_2,v2_out,rfl,sf3,hst⟩:=rk hR4 hR
 refine sq (mF sf3 rfl (aV v2_out rfl (nn (W_ret (retG1 (v1:=v2_out) Tryz.results84 rfl ?_)))))
 obtain rfl:=so hF
 have hst:=hst.gets [2,2,3,3] rfl
 exact ⟨H,(Le.refl _),v2_out,rfl,hst⟩
theorem i_running_step_c {fu : Nat} {r_ : Db} {s : Step} {g_0 : Nat} {v0_0 : Value} {v0_1 : Value} {v1_3 : Value} {H : FH} {w : World} {R : List Ass} (hst : Star H w (box g_0 89 #[v0_0,v0_1] :: oF 46 (rCon 85) v0_0 r_.list :: oF 4 RP.bool v0_1 r_.gone :: R)) (h1_3 : (rS 85 rTerm).rel H [v1_3] s.given.terms) {r : Bool × (List Con) × (List Bool)} (hF : i_running_step fu r_ s = some r) :
 C Tryz.prog 64 #[Pt g_0,.agg #[I s.kind,I s.a,I s.b,v1_3,I s.given.bound]] w fun v w'=>∃ H' : FH,Le H H'∧∃ (u1 : Value) (u2 : Value),v = Bo r.1∧Star H' w' (box g_0 89 #[u1,u2] :: oF 46 (rCon 85) u1 r.2.1 :: oF 4 RP.bool u2 r.2.2 :: R):=by
 unfold i_running_step at hF
 refine C_enter Tryz.func64 rfl Tryz.ntmps64 rfl (sq (L_box (v:=.agg #[I s.kind,I s.a,I s.b,v1_3,I s.given.bound]) (cs:=#[I s.kind,I s.a,I s.b,v1_3,I s.given.bound]) rfl rfl rfl hst (fun g3 w4 hst=>aB rfl (nq ?_))))
 obtain ⟨x10,hx10,hF⟩:=bind_some hF
 refine W_region (fA 0 fa_56_0 rfl rfl (ldB 0 hst Tryz.isAgg3 rfl rfl rfl ?_))
 obtain ⟨H12b,l13,s14,z15,k16⟩:=hst.borrow
 refine L_call rfl Tryz.call74 (ops1 rfl) (i_refers_c (kind:=s.kind) s14 hx10) ?_
 rintro _ w17 ⟨rfl,hst⟩
 have hst:=k16 hst c0
 refine mV (.tuple #[I x10.1,Bo x10.2]) rfl (L_ex (v:=I x10.1) rfl rfl rfl (L_ex (v:=Bo x10.2) rfl rfl rfl (aI rfl (aB rfl (nq (W_seq ?_))))))
 obtain ⟨x23,hx23,hF⟩:=bind_some hF
 obtain ⟨b28,hb28,hF⟩:=bind_some hF
 obtain ⟨b32,hb32,hF⟩:=bind_some hF
 obtain ⟨R35,hR35⟩:=exR fun f w_=>∃ H33 : FH,Le H H33∧f 0 = Pt g_0∧f 3 = Pt g3∧f 39 = Bo b32∧Star H33 w_ (oF 46 (rCon 85) v0_0 r_.list :: oF 4 RP.bool v0_1 r_.gone :: box g_0 89 #[v0_0,v0_1] :: box g3 56 #[I s.kind,I s.a,I s.b,v1_3,I s.given.bound] :: R)
 refine W_join R35 ?_ ?_
 refine W_region (L_lda (cs:=[I s.kind,I s.a,I s.b,v1_3,I s.given.bound]) rfl Tryz.isAgg56 Tryz.sizeOf56 rfl (At.sub0 (Blk.at (Star.blkAt 0 hst rfl)) 0 5) rfl ?_)
 obtain ⟨H36b,l37,s38,z39,k40⟩:=hst.borrow
 refine L_call rfl Tryz.call75 (ops1 rfl) (i_Step_shaped_c (s:=s) s38 (RP.mono _ h1_3 l37) hx23) ?_
 rintro _ w41 ⟨rfl,hst⟩
 have hst:=k40 hst c0
 refine L_not_ rfl rfl (mB rfl (L_split (d:=18) (b:=(!x23)) rfl (fun hc42=>?_) (fun hc42=>?_)))
 rw [ite_t hc42] at hb28
 refine ps rfl (ps rfl (ps rfl (ps rfl (ps rfl (ps rfl (ps rfl (ps rfl (ps rfl (L_pick (v:=Bo b28) rfl rfl (congrArg Value.bool (so hb28)) (mB rfl (L_split (d:=29) (b:=b28) rfl (fun hc43=>?_) (fun hc43=>?_))))))))))))
 rw [ite_t hc43] at hb32
 refine ps rfl (ps rfl (ps rfl (ps rfl (ps rfl (ps rfl (ps rfl (ps rfl (ps rfl (L_pick (v:=Bo b32) rfl rfl (congrArg Value.bool (so hb32)) (nn ?_))))))))))
 have hst:=hst.gets [1,3,3] rfl
 exact rj hR35 ⟨H,(Le.refl _),rfl,rfl,rfl,hst⟩
 rw [ite_f hc43] at hb32
 obtain ⟨b31,hb31,hb32⟩:=bind_some hb32
 refine mI rfl (L_gtr rfl rfl rfl (mB rfl (L_split (d:=32) (b:=decide (x10.1 > 1)) rfl (fun hc44=>?_) (fun hc44=>?_))))
 rw [ite_t hc44] at hb31
 obtain ⟨x29,hx29,hb31⟩:=bind_some hb31
 refine mV (Pt g_0) rfl (fA 2 fa_56_2 rfl rfl (ldB 0 hst Tryz.isAgg3 rfl rfl rfl ?_))
 have hst:=hst.gets [3,3,3] rfl
 refine L_call rfl Tryz.call76 (ops2 rfl rfl) (i_running_has_c (r_:=r_) (i:=s.b) hst hx29) ?_
 rintro _ w45 ⟨H45,l45,rfl,hst⟩
 refine L_not_ rfl rfl (L_pick (v:=Bo b31) rfl rfl (congrArg Value.bool (so hb31)) (L_pick (v:=Bo b32) rfl rfl (congrArg Value.bool (so hb32)) (nn ?_)))
 have hst:=hst.gets [3,1,3,3] rfl
 exact rj hR35 ⟨H45,l45,rfl,rfl,rfl,hst⟩
 rw [ite_f hc44] at hb31
 refine ps rfl (ps rfl (ps rfl (ps rfl (ps rfl (L_pick (v:=Bo b31) rfl rfl (congrArg Value.bool (so hb31)) (L_pick (v:=Bo b32) rfl rfl (congrArg Value.bool (so hb32)) (nn ?_)))))))
 have hst:=hst.gets [1,3,3] rfl
 exact rj hR35 ⟨H,(Le.refl _),rfl,rfl,rfl,hst⟩
 rw [ite_f hc42] at hb28
 obtain ⟨b27,hb27,hb28⟩:=bind_some hb28
 refine mI rfl (L_gtr rfl rfl rfl (mB rfl (L_split (d:=21) (b:=decide (x10.1 > 0)) rfl (fun hc46=>?_) (fun hc46=>?_))))
 rw [ite_t hc46] at hb27
 obtain ⟨x25,hx25,hb27⟩:=bind_some hb27
 refine mV (Pt g_0) rfl (fA 1 fa_56_1 rfl rfl (ldB 0 hst Tryz.isAgg3 rfl rfl rfl ?_))
 have hst:=hst.gets [3,3,3] rfl
 refine L_call rfl Tryz.call76 (ops2 rfl rfl) (i_running_has_c (r_:=r_) (i:=s.a) hst hx25) ?_
 rintro _ w47 ⟨H47,l47,rfl,hst⟩
 refine L_not_ rfl rfl (L_pick (v:=Bo b27) rfl rfl (congrArg Value.bool (so hb27)) (L_pick (v:=Bo b28) rfl rfl (congrArg Value.bool (so hb28)) (mB rfl (L_split (d:=29) (b:=b28) rfl (fun hc48=>?_) (fun hc48=>?_)))))
 rw [ite_t hc48] at hb32
 refine ps rfl (ps rfl (ps rfl (ps rfl (ps rfl (ps rfl (ps rfl (ps rfl (ps rfl (L_pick (v:=Bo b32) rfl rfl (congrArg Value.bool (so hb32)) (nn ?_))))))))))
 have hst:=hst.gets [3,1,3,3] rfl
 exact rj hR35 ⟨H47,l47,rfl,rfl,rfl,hst⟩
 rw [ite_f hc48] at hb32
 obtain ⟨b31,hb31,hb32⟩:=bind_some hb32
 refine mI rfl (L_gtr rfl rfl rfl (mB rfl (L_split (d:=32) (b:=decide (x10.1 > 1)) rfl (fun hc49=>?_) (fun hc49=>?_))))
 rw [ite_t hc49] at hb31
 obtain ⟨x29,hx29,hb31⟩:=bind_some hb31
 refine mV (Pt g_0) rfl (fA 2 fa_56_2 rfl rfl (ldB 3 hst Tryz.isAgg3 rfl rfl rfl (L_call rfl Tryz.call76 (ops2 rfl rfl) (i_running_has_c (r_:=r_) (i:=s.b) hst hx29) ?_)))
 rintro _ w50 ⟨H50,l50,rfl,hst⟩
 refine L_not_ rfl rfl (L_pick (v:=Bo b31) rfl rfl (congrArg Value.bool (so hb31)) (L_pick (v:=Bo b32) rfl rfl (congrArg Value.bool (so hb32)) (nn ?_)))
 have hst:=hst.gets [3,1,3,3] rfl
 exact rj hR35 ⟨H50,(Le.trans l47 l50),rfl,rfl,rfl,hst⟩
 rw [ite_f hc49] at hb31
 refine ps rfl (ps rfl (ps rfl (ps rfl (ps rfl (L_pick (v:=Bo b31) rfl rfl (congrArg Value.bool (so hb31)) (L_pick (v:=Bo b32) rfl rfl (congrArg Value.bool (so hb32)) (nn ?_)))))))
 have hst:=hst.gets [3,1,3,3] rfl
 exact rj hR35 ⟨H47,l47,rfl,rfl,rfl,hst⟩
 rw [ite_f hc46] at hb27
 refine ps rfl (ps rfl (ps rfl (ps rfl (ps rfl (L_pick (v:=Bo b27) rfl rfl (congrArg Value.bool (so hb27)) (L_pick (v:=Bo b28) rfl rfl (congrArg Value.bool (so hb28)) (mB rfl (L_split (d:=29) (b:=b28) rfl (fun hc51=>?_) (fun hc51=>?_)))))))))
 rw [ite_t hc51] at hb32
 refine ps rfl (ps rfl (ps rfl (ps rfl (ps rfl (ps rfl (ps rfl (ps rfl (ps rfl (L_pick (v:=Bo b32) rfl rfl (congrArg Value.bool (so hb32)) (nn ?_))))))))))
 have hst:=hst.gets [1,3,3] rfl
 exact rj hR35 ⟨H,(Le.refl _),rfl,rfl,rfl,hst⟩
 rw [ite_f hc51] at hb32
 obtain ⟨b31,hb31,hb32⟩:=bind_some hb32
 refine mI rfl (L_gtr rfl rfl rfl (mB rfl (L_split (d:=32) (b:=decide (x10.1 > 1)) rfl (fun hc52=>?_) (fun hc52=>?_))))
 rw [ite_t hc52] at hb31
 obtain ⟨x29,hx29,hb31⟩:=bind_some hb31
 refine mV (Pt g_0) rfl (fA 2 fa_56_2 rfl rfl (ldB 0 hst Tryz.isAgg3 rfl rfl rfl ?_))
 have hst:=hst.gets [3,3,3] rfl
 refine L_call rfl Tryz.call76 (ops2 rfl rfl) (i_running_has_c (r_:=r_) (i:=s.b) hst hx29) ?_
 rintro _ w53 ⟨H53,l53,rfl,hst⟩
 refine L_not_ rfl rfl (L_pick (v:=Bo b31) rfl rfl (congrArg Value.bool (so hb31)) (L_pick (v:=Bo b32) rfl rfl (congrArg Value.bool (so hb32)) (nn ?_)))
 have hst:=hst.gets [3,1,3,3] rfl
 exact rj hR35 ⟨H53,l53,rfl,rfl,rfl,hst⟩
 rw [ite_f hc52] at hb31
 refine ps rfl (ps rfl (ps rfl (ps rfl (ps rfl (L_pick (v:=Bo b31) rfl rfl (congrArg Value.bool (so hb31)) (L_pick (v:=Bo b32) rfl rfl (congrArg Value.bool (so hb32)) (nn ?_)))))))
 have hst:=hst.gets [1,3,3] rfl
 exact rj hR35 ⟨H,(Le.refl _),rfl,rfl,rfl,hst⟩
 intro f w_ hR
 obtain ⟨H33,l34,sf0,sf3,sf39,hst⟩:=rk hR35 hR
 refine W_cond (b:=b32) sf39 (fun hc54=>?_) (fun hc54=>?_)
 have hF:=(ite_t hc54).symm.trans hF
 refine sq (aB rfl (nn (W_ret (retG1 (v1:=Bo false) Tryz.results64 rfl ?_))))
 obtain rfl:=so hF
 have hst:=hst.gets [1,1,2] rfl
 have hst:=Star.drop 3 hst rfl
 exact ⟨H33,l34,v0_0,v0_1,rfl,hst⟩
 have hF:=(ite_f hc54).symm.trans hF
 refine W_skip (sq (L_al (cs:=#[S0,I 0]) rfl Tryz.zeroValue46 rfl hst (fun g57 w58 hst=>ns (aB rfl (nq (sq (fA 0 fa_56_0 sf3 rfl (ldB 4 hst Tryz.isAgg3 rfl rfl rfl (nn (W_block (sq (L_eql rfl rfl rfl (aB rfl (nn (W_cond (b:=(s.kind == 8)) rfl (fun hc59=>?_) (fun hc59=>?_))))))))))))))))
 have hF:=(ite_t hc59).symm.trans hF
 refine W_seq ?_
 obtain ⟨x60,hx60,hF⟩:=bind_some hF
 have hst:=Star.drop 0 hst rfl
 refine W_drawS 6 [isV (Pt g_0),isV (Pt g_0),isV (Pq g_0 1),isV (v0_1),isV (Pq g3 1),isV (I s.a)] [oF 46 (rCon 85) v0_0 r_.list,oF 4 RP.bool v0_1 r_.gone,box g_0 89 #[v0_0,v0_1],box g3 56 #[I s.kind,I s.a,I s.b,v1_3,I s.given.bound]] [] (R) [([],[]),([],[]),([],[]),([],[]),([],[]),([],[])] (S:=[]) Tryz_mix (by kernel_rfl) rfl (by kernel_rfl) (amF_cons (mono_V _) (amF_cons (mono_V _) (amF_cons (mono_V _) (amF_cons (mono_V _) (amF_cons (mono_V _) (amF_cons (mono_V _) amF_nil)))))) hst ?_ (fun f w_ H64 hS64 hE64 hT64 hst=>?_)
 refine opsS_cons (fun f w_ _ _ s _ _ hst=>mF ((s 0 rfl).trans sf0) rfl (nO rfl rfl hst)) (opsS_cons (fun f w_ _ _ _ _ p hst=>L_nc rfl (p 0 44 rfl rfl) (nO rfl rfl hst)) (opsS_cons (fun f w_ _ _ _ _ p hst=>fA 1 fa_89_1 (p 1 45 rfl rfl) rfl (nO rfl rfl hst)) (opsS_cons (fun f w_ _ _ _ _ p hst=>ldB 2 hst Tryz.isAgg26 (p 2 46 rfl rfl) rfl rfl (nO rfl rfl hst)) (opsS_cons (fun f w_ _ _ s _ _ hst=>fA 1 fa_56_1 ((s 3 rfl).trans sf3) rfl (nO rfl rfl hst)) (opsS_cons (fun f w_ _ _ _ _ p hst=>ldB 3 hst Tryz.isAgg3 (p 4 48 rfl rfl) rfl rfl (nO rfl rfl hst)) (opsS_nil))))))
 obtain ⟨g65,cap_g65,hv66,_,_⟩:=Star.row 1 hst rfl hx60
 refine L_ixO (R:=(OR.frz RP.bool)) (tb:=0) 0 rfl Tryz.underlying26 Tryz.sizeOf4 (hT64 3 47 rfl rfl) hv66 (by first | rfl | simp) (hT64 5 49 rfl rfl) hx60 ?_
 have hst:=Star.addF (r:=RP.bool) (cs:=[Bo true]) (x:=true) hst rfl
 have hst:=hst.gets [2,1] rfl
 refine L_stE1 (u:=Bo true) rfl Tryz.sizeOf4 rfl rfl rfl hv66 hst hx60 (fun w67 hst=>ns (aB rfl (nn (W_ret (retG1 (v1:=Bo true) Tryz.results64 rfl ?_)))))
 obtain rfl:=so hF
 have hst:=hst.gets [1,2] rfl
 have hst:=Star.drop 3 hst rfl
 exact ⟨H64,(Le.trans l34 hE64),v0_0,v0_1,rfl,hst⟩
 have hF:=(ite_f hc59).symm.trans hF
 refine sq (L_eql rfl rfl rfl (aB rfl (nn ?_)))
 obtain ⟨⟨ok_68,g57_0_69,g57_1_71⟩,hA74,hF⟩:=bind_some hF
 obtain ⟨R74,hR74⟩:=exR fun f w_=>∃ H72 : FH,∃ v69_g57_0 : Value,Le H33 H72∧f 0 = Pt g_0∧f 7 = Pt g57∧f 8 = Bo ok_68∧(rS 85 rTerm).rel H72 [v69_g57_0] g57_0_69∧Star H72 w_ (oF 46 (rCon 85) v0_0 r_.list :: oF 4 RP.bool v0_1 r_.gone :: box g_0 89 #[v0_0,v0_1] :: box g57 46 #[v69_g57_0,I g57_1_71] :: R)
 refine W_join R74 ?_ ?_
 refine W_cond (b:=(s.kind == 1)) rfl (fun hc75=>?_) (fun hc75=>?_)
 have hA74:=(ite_t hc75).symm.trans hA74
 obtain ⟨x76,hx76,hA74⟩:=bind_some hA74
 obtain ⟨x81,hx81,hA74⟩:=bind_some hA74
 obtain ⟨x84,hx84,hA74⟩:=bind_some hA74
 obtain ⟨g88,cap_g88,hv89,_,_⟩:=Star.row 1 hst rfl hx76
 have hst:=hst.gets [4,4,4,4] rfl
 refine W_drawS 21 [isV (Pt g_0),isV (Pt g_0),isV (Pt g_0),isV (v0_0),isV (Pq g3 1),isV (I s.a),isV (.pointer (some ⟨g88,Int.toNat s.a * 2,none⟩)),exD (isData (rS 85 rTerm) x76.terms) fun u_0=>isV (.agg #[u_0,I x76.bound]),isV (Pt g_0),isV (Pt g_0),isV (Pt g_0),isV (v0_0),isV (Pq g3 2),isV (I s.b),isV (.pointer (some ⟨g88,Int.toNat s.b * 2,none⟩)),exD (isData (rS 85 rTerm) x81.terms) fun u_0=>isV (.agg #[u_0,I x81.bound]),tup2 (exD (isData (rS 85 rTerm) x84.1.terms) fun u_0=>isV (.agg #[u_0,I x84.1.bound])) (isV (Bo x84.2)),tup2 (exD (isData (rS 85 rTerm) x84.1.terms) fun u_0=>isV (.agg #[u_0,I x84.1.bound])) (isV (Bo x84.2)),exD (isData (rS 85 rTerm) x84.1.terms) fun u_0=>isV (.agg #[u_0,I x84.1.bound]),isV (Bo x84.2),anyF] [oF 46 (rCon 85) v0_0 r_.list,oF 4 RP.bool v0_1 r_.gone,box g_0 89 #[v0_0,v0_1],box g3 56 #[I s.kind,I s.a,I s.b,v1_3,I s.given.bound]] [.base (box g57 46 #[S0,I 0]) (some 20),.madeN 20 [71] (fun vs_=>box g57 46 #[(aggC (vs_.getD 0 undef) 0),I x84.1.bound]) none] (R) [([],[]),([],[]),([],[]),([],[]),([],[]),([],[]),([],[]),([],[]),([],[]),([],[]),([],[]),([],[]),([],[]),([],[]),([],[]),([],[]),([],[]),([],[]),([],[]),([],[]),([0],[1])] (S:=[(none,[],some 20),(some 20,[71],none)]) Tryz_mix (by kernel_rfl) rfl (by kernel_rfl) (amF_cons (mono_V _) (amF_cons (mono_V _) (amF_cons (mono_V _) (amF_cons (mono_V _) (amF_cons (mono_V _) (amF_cons (mono_V _) (amF_cons (mono_V _) (amF_cons (mono_exD (mono_data _ _) fun _=>mono_V _) (amF_cons (mono_V _) (amF_cons (mono_V _) (amF_cons (mono_V _) (amF_cons (mono_V _) (amF_cons (mono_V _) (amF_cons (mono_V _) (amF_cons (mono_V _) (amF_cons (mono_exD (mono_data _ _) fun _=>mono_V _) (amF_cons (mono_tup2 (mono_exD (mono_data _ _) fun _=>mono_V _) (mono_V _)) (amF_cons (mono_tup2 (mono_exD (mono_data _ _) fun _=>mono_V _) (mono_V _)) (amF_cons (mono_exD (mono_data _ _) fun _=>mono_V _) (amF_cons (mono_V _) (amF_cons (mono_any) amF_nil))))))))))))))))))))) hst ?_ (fun f w_ H87 hS87 hE87 hT87 hst=>?_)
 refine opsS_cons (fun f w_ _ _ s _ _ hst=>mF ((s 0 rfl).trans sf0) rfl (nO rfl rfl hst)) (opsS_cons (fun f w_ _ _ _ _ p hst=>L_nc rfl (p 0 54 rfl rfl) (nO rfl rfl hst)) (opsS_cons (fun f w_ _ _ _ _ p hst=>fA 0 fa_89_0 (p 1 55 rfl rfl) rfl (nO rfl rfl hst)) (opsS_cons (fun f w_ _ _ _ _ p hst=>ldB 2 hst Tryz.isAgg23 (p 2 56 rfl rfl) rfl rfl (nO rfl rfl hst)) (opsS_cons (fun f w_ _ _ s _ _ hst=>fA 1 fa_56_1 ((s 3 rfl).trans sf3) rfl (nO rfl rfl hst)) (opsS_cons (fun f w_ _ _ _ _ p hst=>ldB 3 hst Tryz.isAgg3 (p 4 58 rfl rfl) rfl rfl (nO rfl rfl hst)) (opsS_cons (fun f w_ _ _ _ _ p hst=>L_ixO (R:=(OR.frz (rCon 85))) (tb:=0) 0 rfl Tryz.underlying23 Tryz.sizeOf46 (p 3 57 rfl rfl) hv89 (by first | rfl | simp) (p 5 59 rfl rfl) hx76 (nO rfl rfl hst)) (opsS_cons ?_ ?_)))))))
 intro f w_ H87 X87 hS87 hE87 hP87 hst
 obtain ⟨cs96,hr96,hat96⟩:=Star.eltF 0 hst rfl hv89 hx76
 obtain ⟨u97_0,rfl,hu97_0⟩:=rCon_iff.1 hr96
 refine L_lda (cs:=[u97_0,I x76.bound]) rfl Tryz.isAgg46 Tryz.sizeOf46 (hP87 6 60 rfl rfl) (At.sub hat96 0 2) rfl (L_nil ⟨rfl,_,_,rfl,Le.refl _,fun _ _=>⟨_,hu97_0,rfl⟩,hst⟩)
 refine opsS_cons (fun f w_ _ _ s _ _ hst=>mF ((s 0 rfl).trans sf0) rfl (nO rfl rfl hst)) (opsS_cons (fun f w_ _ _ _ _ p hst=>L_nc rfl (p 8 62 rfl rfl) (nO rfl rfl hst)) (opsS_cons (fun f w_ _ _ _ _ p hst=>fA 0 fa_89_0 (p 9 63 rfl rfl) rfl (nO rfl rfl hst)) (opsS_cons (fun f w_ _ _ _ _ p hst=>ldB 2 hst Tryz.isAgg23 (p 10 64 rfl rfl) rfl rfl (nO rfl rfl hst)) (opsS_cons (fun f w_ _ _ s _ _ hst=>fA 2 fa_56_2 ((s 3 rfl).trans sf3) rfl (nO rfl rfl hst)) (opsS_cons (fun f w_ _ _ _ _ p hst=>ldB 3 hst Tryz.isAgg3 (p 12 66 rfl rfl) rfl rfl (nO rfl rfl hst)) (opsS_cons (fun f w_ _ _ _ _ p hst=>L_ixO (R:=(OR.frz (rCon 85))) (tb:=0) 0 rfl Tryz.underlying23 Tryz.sizeOf46 (p 11 65 rfl rfl) hv89 (by first | rfl | simp) (p 13 67 rfl rfl) hx81 (nO rfl rfl hst)) (opsS_cons ?_ ?_)))))))
 intro f w_ H87 X87 hS87 hE87 hP87 hst
 obtain ⟨cs98,hr98,hat98⟩:=Star.eltF 0 hst rfl hv89 hx81
 obtain ⟨u99_0,rfl,hu99_0⟩:=rCon_iff.1 hr98
 refine L_lda (cs:=[u99_0,I x81.bound]) rfl Tryz.isAgg46 Tryz.sizeOf46 (hP87 14 68 rfl rfl) (At.sub hat98 0 2) rfl (L_nil ⟨rfl,_,_,rfl,Le.refl _,fun _ _=>⟨_,hu99_0,rfl⟩,hst⟩)
 refine opsS_cons ?_ ?_
 intro f w_ H87 X87 hS87 hE87 hP87 hst
 obtain ⟨u100_0,hu100_0,hv100⟩:=(hP87 7 61 rfl rfl)
 obtain ⟨u101_0,hu101_0,hv101⟩:=(hP87 15 69 rfl rfl)
 refine L_call rfl Tryz.call77 (ops2 hv100 hv101) (i_AddConstraints_c (a:=x76) (b:=x81) hst hu100_0 hu101_0 hx84) ?_
 rintro _ w102 ⟨H102,l102,r102_0,rfl,hr102_0,hst⟩
 exact L_nil ⟨rfl,_,_,rfl,l102,fun _ _=>⟨_,_,rfl,⟨_,hr102_0,rfl⟩,rfl⟩,hst⟩
 refine opsS_cons ?_ ?_
 intro f w_ H87 X87 hS87 hE87 hP87 hst
 obtain ⟨a103_0,a103_1,hv103,ht103_0,ht103_1⟩:=(hP87 16 70 rfl rfl)
 obtain ⟨u104_0,hu104_0,rfl⟩:=ht103_0
 obtain rfl:=ht103_1
 refine mF hv103 rfl (L_nil ⟨rfl,_,_,rfl,Le.refl _,fun _ _=>⟨_,_,rfl,⟨_,hu104_0,rfl⟩,rfl⟩,hst⟩)
 refine opsS_cons ?_ ?_
 intro f w_ H87 X87 hS87 hE87 hP87 hst
 obtain ⟨a105_0,a105_1,hv105,ht105_0,ht105_1⟩:=(hP87 17 53 rfl rfl)
 obtain ⟨u106_0,hu106_0,rfl⟩:=ht105_0
 obtain rfl:=ht105_1
 refine L_ex (v:=.agg #[u106_0,I x84.1.bound]) rfl hv105 rfl (L_nil ⟨rfl,_,_,rfl,Le.refl _,fun _ _=>⟨_,hu106_0,rfl⟩,hst⟩)
 refine opsS_cons ?_ ?_
 intro f w_ H87 X87 hS87 hE87 hP87 hst
 obtain ⟨a107_0,a107_1,hv107,ht107_0,ht107_1⟩:=(hP87 17 53 rfl rfl)
 obtain ⟨u108_0,hu108_0,rfl⟩:=ht107_0
 obtain rfl:=ht107_1
 refine L_ex (v:=Bo x84.2) rfl hv107 rfl (L_nil ⟨rfl,_,_,rfl,Le.refl _,fun _ _=>rfl,hst⟩)
 refine opsS_cons ?_ ?_
 intro f w_ H87 X87 hS87 hE87 hP87 hst
 have hst : Star H87 w_ (oF 46 (rCon 85) v0_0 r_.list :: oF 4 RP.bool v0_1 r_.gone :: box g_0 89 #[v0_0,v0_1] :: box g3 56 #[I s.kind,I s.a,I s.b,v1_3,I s.given.bound] :: box g57 46 #[S0,I 0] :: X87):=hst
 obtain ⟨u109_0,hu109_0,hv109⟩:=(hP87 18 71 rfl rfl)
 refine L_staB (vs:=#[u109_0,I x84.1.bound]) (cs2:=#[u109_0,I x84.1.bound]) 4 rfl Tryz.sizeOf46 ((hS87 7 rfl).trans rfl) hv109 rfl (ones_cons (one_len (slice_len hu109_0)) (ones_cons rfl ones_nil)) hst rfl (by show 0 + 2≤2; decide) rfl (fun w110 hst=>?_)
 have hst:=hst.gets [4,4,4,4] rfl
 have hst : Star H87 w110 (oF 46 (rCon 85) v0_0 r_.list :: oF 4 RP.bool v0_1 r_.gone :: box g_0 89 #[v0_0,v0_1] :: box g3 56 #[I s.kind,I s.a,I s.b,v1_3,I s.given.bound] :: box g57 46 #[(aggC (f 71) 0),I x84.1.bound] :: X87):=by rw [hv109]; exact hst
 exact L_nil ⟨rfl,Bo false,_,rfl,Le.refl _,(fun _ h=>nomatch h),hst⟩
 exact opsS_nil
 have hst : Star H87 w_ (oF 46 (rCon 85) v0_0 r_.list :: oF 4 RP.bool v0_1 r_.gone :: box g_0 89 #[v0_0,v0_1] :: box g3 56 #[I s.kind,I s.a,I s.b,v1_3,I s.given.bound] :: box g57 46 #[(aggC (f 71) 0),I x84.1.bound] :: R):=hst
 obtain ⟨u111_0,hu111_0,hv111⟩:=(hT87 18 71 rfl rfl)
 have hren : Star H87 w_ (oF 46 (rCon 85) v0_0 r_.list :: oF 4 RP.bool v0_1 r_.gone :: box g_0 89 #[v0_0,v0_1] :: box g3 56 #[I s.kind,I s.a,I s.b,v1_3,I s.given.bound] :: box g57 46 #[(aggC (f 71) 0),I x84.1.bound] :: R):=hst
 rw [hv111] at hren
 have hst : Star H87 w_ (oF 46 (rCon 85) v0_0 r_.list :: oF 4 RP.bool v0_1 r_.gone :: box g_0 89 #[v0_0,v0_1] :: box g3 56 #[I s.kind,I s.a,I s.b,v1_3,I s.given.bound] :: box g57 46 #[u111_0,I x84.1.bound] :: R):=hren
 refine aF (hT87 19 72 rfl rfl) rfl (nn ?_)
 obtain ⟨rfl,rfl,rfl⟩:=so3 hA74
 have hst:=hst.gets [4,3,3,3] rfl
 have hst:=Star.drop 4 hst rfl
 exact rj hR74 ⟨H87,u111_0,hE87,((hS87 0 rfl).trans sf0),((hS87 7 rfl).trans rfl),rfl,hu111_0,hst⟩
 have hA74:=(ite_f hc75).symm.trans hA74
 refine sq (L_eql rfl rfl rfl (aB rfl (nn ?_)))
 obtain ⟨⟨ok_112,g57_0_113,g57_1_115⟩,hA118,hA74⟩:=bind_some hA74
 obtain ⟨R118,hR118⟩:=exR fun f w_=>∃ H116 : FH,∃ v113_g57_0 : Value,Le H33 H116∧f 0 = Pt g_0∧f 7 = Pt g57∧f 8 = Bo ok_112∧(rS 85 rTerm).rel H116 [v113_g57_0] g57_0_113∧Star H116 w_ (oF 46 (rCon 85) v0_0 r_.list :: oF 4 RP.bool v0_1 r_.gone :: box g_0 89 #[v0_0,v0_1] :: box g57 46 #[v113_g57_0,I g57_1_115] :: R)
 refine W_join R118 ?_ ?_
 refine W_cond (b:=(s.kind == 2)) rfl (fun hc119=>?_) (fun hc119=>?_)
 have hA118:=(ite_t hc119).symm.trans hA118
 obtain ⟨x120,hx120,hA118⟩:=bind_some hA118
 obtain ⟨x125,hx125,hA118⟩:=bind_some hA118
 obtain ⟨g129,cap_g129,hv130,_,_⟩:=Star.row 1 hst rfl hx120
 have hst:=hst.gets [4,4,4,4] rfl
 refine W_drawS 15 [isV (Pt g_0),isV (Pt g_0),isV (Pt g_0),isV (v0_0),isV (Pq g3 1),isV (I s.a),isV (.pointer (some ⟨g129,Int.toNat s.a * 2,none⟩)),exD (isData (rS 85 rTerm) x120.terms) fun u_0=>isV (.agg #[u_0,I x120.bound]),isV (Pq g3 2),isV (I s.b),tup2 (exD (isData (rS 85 rTerm) x125.1.terms) fun u_0=>isV (.agg #[u_0,I x125.1.bound])) (isV (Bo x125.2)),tup2 (exD (isData (rS 85 rTerm) x125.1.terms) fun u_0=>isV (.agg #[u_0,I x125.1.bound])) (isV (Bo x125.2)),exD (isData (rS 85 rTerm) x125.1.terms) fun u_0=>isV (.agg #[u_0,I x125.1.bound]),isV (Bo x125.2),anyF] [oF 46 (rCon 85) v0_0 r_.list,oF 4 RP.bool v0_1 r_.gone,box g_0 89 #[v0_0,v0_1],box g3 56 #[I s.kind,I s.a,I s.b,v1_3,I s.given.bound]] [.base (box g57 46 #[S0,I 0]) (some 14),.madeN 14 [87] (fun vs_=>box g57 46 #[(aggC (vs_.getD 0 undef) 0),I x125.1.bound]) none] (R) [([],[]),([],[]),([],[]),([],[]),([],[]),([],[]),([],[]),([],[]),([],[]),([],[]),([],[]),([],[]),([],[]),([],[]),([0],[1])] (S:=[(none,[],some 14),(some 14,[87],none)]) Tryz_mix (by kernel_rfl) rfl (by kernel_rfl) (amF_cons (mono_V _) (amF_cons (mono_V _) (amF_cons (mono_V _) (amF_cons (mono_V _) (amF_cons (mono_V _) (amF_cons (mono_V _) (amF_cons (mono_V _) (amF_cons (mono_exD (mono_data _ _) fun _=>mono_V _) (amF_cons (mono_V _) (amF_cons (mono_V _) (amF_cons (mono_tup2 (mono_exD (mono_data _ _) fun _=>mono_V _) (mono_V _)) (amF_cons (mono_tup2 (mono_exD (mono_data _ _) fun _=>mono_V _) (mono_V _)) (amF_cons (mono_exD (mono_data _ _) fun _=>mono_V _) (amF_cons (mono_V _) (amF_cons (mono_any) amF_nil))))))))))))))) hst ?_ (fun f w_ H128 hS128 hE128 hT128 hst=>?_)
 refine opsS_cons (fun f w_ _ _ s _ _ hst=>mF ((s 0 rfl).trans sf0) rfl (nO rfl rfl hst)) (opsS_cons (fun f w_ _ _ _ _ p hst=>L_nc rfl (p 0 76 rfl rfl) (nO rfl rfl hst)) (opsS_cons (fun f w_ _ _ _ _ p hst=>fA 0 fa_89_0 (p 1 77 rfl rfl) rfl (nO rfl rfl hst)) (opsS_cons (fun f w_ _ _ _ _ p hst=>ldB 2 hst Tryz.isAgg23 (p 2 78 rfl rfl) rfl rfl (nO rfl rfl hst)) (opsS_cons (fun f w_ _ _ s _ _ hst=>fA 1 fa_56_1 ((s 3 rfl).trans sf3) rfl (nO rfl rfl hst)) (opsS_cons (fun f w_ _ _ _ _ p hst=>ldB 3 hst Tryz.isAgg3 (p 4 80 rfl rfl) rfl rfl (nO rfl rfl hst)) (opsS_cons (fun f w_ _ _ _ _ p hst=>L_ixO (R:=(OR.frz (rCon 85))) (tb:=0) 0 rfl Tryz.underlying23 Tryz.sizeOf46 (p 3 79 rfl rfl) hv130 (by first | rfl | simp) (p 5 81 rfl rfl) hx120 (nO rfl rfl hst)) (opsS_cons ?_ ?_)))))))
 intro f w_ H128 X128 hS128 hE128 hP128 hst
 obtain ⟨cs135,hr135,hat135⟩:=Star.eltF 0 hst rfl hv130 hx120
 obtain ⟨u136_0,rfl,hu136_0⟩:=rCon_iff.1 hr135
 refine L_lda (cs:=[u136_0,I x120.bound]) rfl Tryz.isAgg46 Tryz.sizeOf46 (hP128 6 82 rfl rfl) (At.sub hat135 0 2) rfl (L_nil ⟨rfl,_,_,rfl,Le.refl _,fun _ _=>⟨_,hu136_0,rfl⟩,hst⟩)
 refine opsS_cons (fun f w_ _ _ s _ _ hst=>fA 2 fa_56_2 ((s 3 rfl).trans sf3) rfl (nO rfl rfl hst)) (opsS_cons (fun f w_ _ _ _ _ p hst=>ldB 3 hst Tryz.isAgg3 (p 8 84 rfl rfl) rfl rfl (nO rfl rfl hst)) (opsS_cons ?_ ?_))
 intro f w_ H128 X128 hS128 hE128 hP128 hst
 obtain ⟨u137_0,hu137_0,hv137⟩:=(hP128 7 83 rfl rfl)
 refine L_call rfl Tryz.call78 (ops2 hv137 (hP128 9 85 rfl rfl)) (i_MultiplyConstraint_c (c:=x120) (k:=s.b) hst hu137_0 hx125) ?_
 rintro _ w138 ⟨H138,l138,r138_0,rfl,hr138_0,hst⟩
 exact L_nil ⟨rfl,_,_,rfl,l138,fun _ _=>⟨_,_,rfl,⟨_,hr138_0,rfl⟩,rfl⟩,hst⟩
 refine opsS_cons ?_ ?_
 intro f w_ H128 X128 hS128 hE128 hP128 hst
 obtain ⟨a139_0,a139_1,hv139,ht139_0,ht139_1⟩:=(hP128 10 86 rfl rfl)
 obtain ⟨u140_0,hu140_0,rfl⟩:=ht139_0
 obtain rfl:=ht139_1
 refine mF hv139 rfl (L_nil ⟨rfl,_,_,rfl,Le.refl _,fun _ _=>⟨_,_,rfl,⟨_,hu140_0,rfl⟩,rfl⟩,hst⟩)
 refine opsS_cons ?_ ?_
 intro f w_ H128 X128 hS128 hE128 hP128 hst
 obtain ⟨a141_0,a141_1,hv141,ht141_0,ht141_1⟩:=(hP128 11 75 rfl rfl)
 obtain ⟨u142_0,hu142_0,rfl⟩:=ht141_0
 obtain rfl:=ht141_1
 refine L_ex (v:=.agg #[u142_0,I x125.1.bound]) rfl hv141 rfl (L_nil ⟨rfl,_,_,rfl,Le.refl _,fun _ _=>⟨_,hu142_0,rfl⟩,hst⟩)
 refine opsS_cons ?_ ?_
 intro f w_ H128 X128 hS128 hE128 hP128 hst
 obtain ⟨a143_0,a143_1,hv143,ht143_0,ht143_1⟩:=(hP128 11 75 rfl rfl)
 obtain ⟨u144_0,hu144_0,rfl⟩:=ht143_0
 obtain rfl:=ht143_1
 refine L_ex (v:=Bo x125.2) rfl hv143 rfl (L_nil ⟨rfl,_,_,rfl,Le.refl _,fun _ _=>rfl,hst⟩)
 refine opsS_cons ?_ ?_
 intro f w_ H128 X128 hS128 hE128 hP128 hst
 have hst : Star H128 w_ (oF 46 (rCon 85) v0_0 r_.list :: oF 4 RP.bool v0_1 r_.gone :: box g_0 89 #[v0_0,v0_1] :: box g3 56 #[I s.kind,I s.a,I s.b,v1_3,I s.given.bound] :: box g57 46 #[S0,I 0] :: X128):=hst
 obtain ⟨u145_0,hu145_0,hv145⟩:=(hP128 12 87 rfl rfl)
 refine L_staB (vs:=#[u145_0,I x125.1.bound]) (cs2:=#[u145_0,I x125.1.bound]) 4 rfl Tryz.sizeOf46 ((hS128 7 rfl).trans rfl) hv145 rfl (ones_cons (one_len (slice_len hu145_0)) (ones_cons rfl ones_nil)) hst rfl (by show 0 + 2≤2; decide) rfl (fun w146 hst=>?_)
 have hst:=hst.gets [4,4,4,4] rfl
 have hst : Star H128 w146 (oF 46 (rCon 85) v0_0 r_.list :: oF 4 RP.bool v0_1 r_.gone :: box g_0 89 #[v0_0,v0_1] :: box g3 56 #[I s.kind,I s.a,I s.b,v1_3,I s.given.bound] :: box g57 46 #[(aggC (f 87) 0),I x125.1.bound] :: X128):=by rw [hv145]; exact hst
 exact L_nil ⟨rfl,Bo false,_,rfl,Le.refl _,(fun _ h=>nomatch h),hst⟩
 exact opsS_nil
 have hst : Star H128 w_ (oF 46 (rCon 85) v0_0 r_.list :: oF 4 RP.bool v0_1 r_.gone :: box g_0 89 #[v0_0,v0_1] :: box g3 56 #[I s.kind,I s.a,I s.b,v1_3,I s.given.bound] :: box g57 46 #[(aggC (f 87) 0),I x125.1.bound] :: R):=hst
 obtain ⟨u147_0,hu147_0,hv147⟩:=(hT128 12 87 rfl rfl)
 have hren : Star H128 w_ (oF 46 (rCon 85) v0_0 r_.list :: oF 4 RP.bool v0_1 r_.gone :: box g_0 89 #[v0_0,v0_1] :: box g3 56 #[I s.kind,I s.a,I s.b,v1_3,I s.given.bound] :: box g57 46 #[(aggC (f 87) 0),I x125.1.bound] :: R):=hst
 rw [hv147] at hren
 have hst : Star H128 w_ (oF 46 (rCon 85) v0_0 r_.list :: oF 4 RP.bool v0_1 r_.gone :: box g_0 89 #[v0_0,v0_1] :: box g3 56 #[I s.kind,I s.a,I s.b,v1_3,I s.given.bound] :: box g57 46 #[u147_0,I x125.1.bound] :: R):=hren
 refine aF (hT128 13 88 rfl rfl) rfl (nn ?_)
 obtain ⟨rfl,rfl,rfl⟩:=so3 hA118
 have hst:=hst.gets [4,3,3,3] rfl
 have hst:=Star.drop 4 hst rfl
 exact rj hR118 ⟨H128,u147_0,hE128,((hS128 0 rfl).trans sf0),((hS128 7 rfl).trans rfl),rfl,hu147_0,hst⟩
 have hA118:=(ite_f hc119).symm.trans hA118
 refine sq (L_eql rfl rfl rfl (aB rfl (nn ?_)))
 obtain ⟨⟨ok_148,g57_0_149,g57_1_151⟩,hA154,hA118⟩:=bind_some hA118
 obtain ⟨R154,hR154⟩:=exR fun f w_=>∃ H152 : FH,∃ v149_g57_0 : Value,Le H33 H152∧f 0 = Pt g_0∧f 7 = Pt g57∧f 8 = Bo ok_148∧(rS 85 rTerm).rel H152 [v149_g57_0] g57_0_149∧Star H152 w_ (oF 46 (rCon 85) v0_0 r_.list :: oF 4 RP.bool v0_1 r_.gone :: box g_0 89 #[v0_0,v0_1] :: box g57 46 #[v149_g57_0,I g57_1_151] :: R)
 refine W_join R154 ?_ ?_
 refine W_cond (b:=(s.kind == 3)) rfl (fun hc155=>?_) (fun hc155=>?_)
 have hA154:=(ite_t hc155).symm.trans hA154
 obtain ⟨x156,hx156,hA154⟩:=bind_some hA154
 obtain ⟨x161,hx161,hA154⟩:=bind_some hA154
 obtain ⟨g165,cap_g165,hv166,_,_⟩:=Star.row 1 hst rfl hx156
 have hst:=hst.gets [4,4,4,4] rfl
 refine W_drawS 15 [isV (Pt g_0),isV (Pt g_0),isV (Pt g_0),isV (v0_0),isV (Pq g3 1),isV (I s.a),isV (.pointer (some ⟨g165,Int.toNat s.a * 2,none⟩)),exD (isData (rS 85 rTerm) x156.terms) fun u_0=>isV (.agg #[u_0,I x156.bound]),isV (Pq g3 2),isV (I s.b),tup2 (exD (isData (rS 85 rTerm) x161.1.terms) fun u_0=>isV (.agg #[u_0,I x161.1.bound])) (isV (Bo x161.2)),tup2 (exD (isData (rS 85 rTerm) x161.1.terms) fun u_0=>isV (.agg #[u_0,I x161.1.bound])) (isV (Bo x161.2)),exD (isData (rS 85 rTerm) x161.1.terms) fun u_0=>isV (.agg #[u_0,I x161.1.bound]),isV (Bo x161.2),anyF] [oF 46 (rCon 85) v0_0 r_.list,oF 4 RP.bool v0_1 r_.gone,box g_0 89 #[v0_0,v0_1],box g3 56 #[I s.kind,I s.a,I s.b,v1_3,I s.given.bound]] [.base (box g57 46 #[S0,I 0]) (some 14),.madeN 14 [103] (fun vs_=>box g57 46 #[(aggC (vs_.getD 0 undef) 0),I x161.1.bound]) none] (R) [([],[]),([],[]),([],[]),([],[]),([],[]),([],[]),([],[]),([],[]),([],[]),([],[]),([],[]),([],[]),([],[]),([],[]),([0],[1])] (S:=[(none,[],some 14),(some 14,[103],none)]) Tryz_mix (by kernel_rfl) rfl (by kernel_rfl) (amF_cons (mono_V _) (amF_cons (mono_V _) (amF_cons (mono_V _) (amF_cons (mono_V _) (amF_cons (mono_V _) (amF_cons (mono_V _) (amF_cons (mono_V _) (amF_cons (mono_exD (mono_data _ _) fun _=>mono_V _) (amF_cons (mono_V _) (amF_cons (mono_V _) (amF_cons (mono_tup2 (mono_exD (mono_data _ _) fun _=>mono_V _) (mono_V _)) (amF_cons (mono_tup2 (mono_exD (mono_data _ _) fun _=>mono_V _) (mono_V _)) (amF_cons (mono_exD (mono_data _ _) fun _=>mono_V _) (amF_cons (mono_V _) (amF_cons (mono_any) amF_nil))))))))))))))) hst ?_ (fun f w_ H164 hS164 hE164 hT164 hst=>?_)
 refine opsS_cons (fun f w_ _ _ s _ _ hst=>mF ((s 0 rfl).trans sf0) rfl (nO rfl rfl hst)) (opsS_cons (fun f w_ _ _ _ _ p hst=>L_nc rfl (p 0 92 rfl rfl) (nO rfl rfl hst)) (opsS_cons (fun f w_ _ _ _ _ p hst=>fA 0 fa_89_0 (p 1 93 rfl rfl) rfl (nO rfl rfl hst)) (opsS_cons (fun f w_ _ _ _ _ p hst=>ldB 2 hst Tryz.isAgg23 (p 2 94 rfl rfl) rfl rfl (nO rfl rfl hst)) (opsS_cons (fun f w_ _ _ s _ _ hst=>fA 1 fa_56_1 ((s 3 rfl).trans sf3) rfl (nO rfl rfl hst)) (opsS_cons (fun f w_ _ _ _ _ p hst=>ldB 3 hst Tryz.isAgg3 (p 4 96 rfl rfl) rfl rfl (nO rfl rfl hst)) (opsS_cons (fun f w_ _ _ _ _ p hst=>L_ixO (R:=(OR.frz (rCon 85))) (tb:=0) 0 rfl Tryz.underlying23 Tryz.sizeOf46 (p 3 95 rfl rfl) hv166 (by first | rfl | simp) (p 5 97 rfl rfl) hx156 (nO rfl rfl hst)) (opsS_cons ?_ ?_)))))))
 intro f w_ H164 X164 hS164 hE164 hP164 hst
 obtain ⟨cs171,hr171,hat171⟩:=Star.eltF 0 hst rfl hv166 hx156
 obtain ⟨u172_0,rfl,hu172_0⟩:=rCon_iff.1 hr171
 refine L_lda (cs:=[u172_0,I x156.bound]) rfl Tryz.isAgg46 Tryz.sizeOf46 (hP164 6 98 rfl rfl) (At.sub hat171 0 2) rfl (L_nil ⟨rfl,_,_,rfl,Le.refl _,fun _ _=>⟨_,hu172_0,rfl⟩,hst⟩)
 refine opsS_cons (fun f w_ _ _ s _ _ hst=>fA 2 fa_56_2 ((s 3 rfl).trans sf3) rfl (nO rfl rfl hst)) (opsS_cons (fun f w_ _ _ _ _ p hst=>ldB 3 hst Tryz.isAgg3 (p 8 100 rfl rfl) rfl rfl (nO rfl rfl hst)) (opsS_cons ?_ ?_))
 intro f w_ H164 X164 hS164 hE164 hP164 hst
 obtain ⟨u173_0,hu173_0,hv173⟩:=(hP164 7 99 rfl rfl)
 refine L_call rfl Tryz.call79 (ops2 hv173 (hP164 9 101 rfl rfl)) (i_DivideConstraint_c (c:=x156) (k:=s.b) hst hu173_0 hx161) ?_
 rintro _ w174 ⟨H174,l174,r174_0,rfl,hr174_0,hst⟩
 exact L_nil ⟨rfl,_,_,rfl,l174,fun _ _=>⟨_,_,rfl,⟨_,hr174_0,rfl⟩,rfl⟩,hst⟩
 refine opsS_cons ?_ ?_
 intro f w_ H164 X164 hS164 hE164 hP164 hst
 obtain ⟨a175_0,a175_1,hv175,ht175_0,ht175_1⟩:=(hP164 10 102 rfl rfl)
 obtain ⟨u176_0,hu176_0,rfl⟩:=ht175_0
 obtain rfl:=ht175_1
 refine mF hv175 rfl (L_nil ⟨rfl,_,_,rfl,Le.refl _,fun _ _=>⟨_,_,rfl,⟨_,hu176_0,rfl⟩,rfl⟩,hst⟩)
 refine opsS_cons ?_ ?_
 intro f w_ H164 X164 hS164 hE164 hP164 hst
 obtain ⟨a177_0,a177_1,hv177,ht177_0,ht177_1⟩:=(hP164 11 91 rfl rfl)
 obtain ⟨u178_0,hu178_0,rfl⟩:=ht177_0
 obtain rfl:=ht177_1
 refine L_ex (v:=.agg #[u178_0,I x161.1.bound]) rfl hv177 rfl (L_nil ⟨rfl,_,_,rfl,Le.refl _,fun _ _=>⟨_,hu178_0,rfl⟩,hst⟩)
 refine opsS_cons ?_ ?_
 intro f w_ H164 X164 hS164 hE164 hP164 hst
 obtain ⟨a179_0,a179_1,hv179,ht179_0,ht179_1⟩:=(hP164 11 91 rfl rfl)
 obtain ⟨u180_0,hu180_0,rfl⟩:=ht179_0
 obtain rfl:=ht179_1
 refine L_ex (v:=Bo x161.2) rfl hv179 rfl (L_nil ⟨rfl,_,_,rfl,Le.refl _,fun _ _=>rfl,hst⟩)
 refine opsS_cons ?_ ?_
 intro f w_ H164 X164 hS164 hE164 hP164 hst
 have hst : Star H164 w_ (oF 46 (rCon 85) v0_0 r_.list :: oF 4 RP.bool v0_1 r_.gone :: box g_0 89 #[v0_0,v0_1] :: box g3 56 #[I s.kind,I s.a,I s.b,v1_3,I s.given.bound] :: box g57 46 #[S0,I 0] :: X164):=hst
 obtain ⟨u181_0,hu181_0,hv181⟩:=(hP164 12 103 rfl rfl)
 refine L_staB (vs:=#[u181_0,I x161.1.bound]) (cs2:=#[u181_0,I x161.1.bound]) 4 rfl Tryz.sizeOf46 ((hS164 7 rfl).trans rfl) hv181 rfl (ones_cons (one_len (slice_len hu181_0)) (ones_cons rfl ones_nil)) hst rfl (by show 0 + 2≤2; decide) rfl (fun w182 hst=>?_)
 have hst:=hst.gets [4,4,4,4] rfl
 have hst : Star H164 w182 (oF 46 (rCon 85) v0_0 r_.list :: oF 4 RP.bool v0_1 r_.gone :: box g_0 89 #[v0_0,v0_1] :: box g3 56 #[I s.kind,I s.a,I s.b,v1_3,I s.given.bound] :: box g57 46 #[(aggC (f 103) 0),I x161.1.bound] :: X164):=by rw [hv181]; exact hst
 exact L_nil ⟨rfl,Bo false,_,rfl,Le.refl _,(fun _ h=>nomatch h),hst⟩
 exact opsS_nil
 have hst : Star H164 w_ (oF 46 (rCon 85) v0_0 r_.list :: oF 4 RP.bool v0_1 r_.gone :: box g_0 89 #[v0_0,v0_1] :: box g3 56 #[I s.kind,I s.a,I s.b,v1_3,I s.given.bound] :: box g57 46 #[(aggC (f 103) 0),I x161.1.bound] :: R):=hst
 obtain ⟨u183_0,hu183_0,hv183⟩:=(hT164 12 103 rfl rfl)
 have hren : Star H164 w_ (oF 46 (rCon 85) v0_0 r_.list :: oF 4 RP.bool v0_1 r_.gone :: box g_0 89 #[v0_0,v0_1] :: box g3 56 #[I s.kind,I s.a,I s.b,v1_3,I s.given.bound] :: box g57 46 #[(aggC (f 103) 0),I x161.1.bound] :: R):=hst
 rw [hv183] at hren
 have hst : Star H164 w_ (oF 46 (rCon 85) v0_0 r_.list :: oF 4 RP.bool v0_1 r_.gone :: box g_0 89 #[v0_0,v0_1] :: box g3 56 #[I s.kind,I s.a,I s.b,v1_3,I s.given.bound] :: box g57 46 #[u183_0,I x161.1.bound] :: R):=hren
 refine aF (hT164 13 104 rfl rfl) rfl (nn ?_)
 obtain ⟨rfl,rfl,rfl⟩:=so3 hA154
 have hst:=hst.gets [4,3,3,3] rfl
 have hst:=Star.drop 4 hst rfl
 exact rj hR154 ⟨H164,u183_0,hE164,((hS164 0 rfl).trans sf0),((hS164 7 rfl).trans rfl),rfl,hu183_0,hst⟩
 have hA154:=(ite_f hc155).symm.trans hA154
 refine sq (L_eql rfl rfl rfl (aB rfl (nn ?_)))
 obtain ⟨⟨ok_184,g57_0_185,g57_1_187⟩,hA190,hA154⟩:=bind_some hA154
 obtain ⟨R190,hR190⟩:=exR fun f w_=>∃ H188 : FH,∃ v185_g57_0 : Value,Le H33 H188∧f 0 = Pt g_0∧f 7 = Pt g57∧f 8 = Bo ok_184∧(rS 85 rTerm).rel H188 [v185_g57_0] g57_0_185∧Star H188 w_ (oF 46 (rCon 85) v0_0 r_.list :: oF 4 RP.bool v0_1 r_.gone :: box g_0 89 #[v0_0,v0_1] :: box g57 46 #[v185_g57_0,I g57_1_187] :: R)
 refine W_join R190 ?_ ?_
 refine W_cond (b:=(s.kind == 4)) rfl (fun hc191=>?_) (fun hc191=>?_)
 have hA190:=(ite_t hc191).symm.trans hA190
 obtain ⟨x192,hx192,hA190⟩:=bind_some hA190
 obtain ⟨x202,hx202,hA190⟩:=bind_some hA190
 obtain ⟨g207,cap_g207,hv208,_,_⟩:=Star.row 1 hst rfl hx192
 have hst:=hst.gets [4,4,4,4] rfl
 refine W_drawS 13 [isV (Pt g_0),isV (Pt g_0),isV (Pt g_0),isV (v0_0),isV (Pq g3 1),isV (I s.a),isV (.pointer (some ⟨g207,Int.toNat s.a * 2,none⟩)),exD (isData (rS 85 rTerm) x192.terms) fun u_0=>isV (.agg #[u_0,I x192.bound]),tup2 (exA fun u_0=>isV (.agg #[u_0,I x202.1.bound])) (isV (Bo x202.2)),tup2 (exA fun u_0=>isV (.agg #[u_0,I x202.1.bound])) (isV (Bo x202.2)),exA fun u_0=>isV (.agg #[u_0,I x202.1.bound]),isV (Bo x202.2),anyF] [oF 46 (rCon 85) v0_0 r_.list,oF 4 RP.bool v0_1 r_.gone,box g_0 89 #[v0_0,v0_1],box g3 56 #[I s.kind,I s.a,I s.b,v1_3,I s.given.bound]] [.base (box g57 46 #[S0,I 0]) (some 12),.made 8 116 (fun v_=>own (OR.ownS 85 (OR.frz rTerm)) [(aggC (tupC v_ 0) 0)] x202.1.terms) (some 9),.made 9 107 (fun v_=>own (OR.ownS 85 (OR.frz rTerm)) [(aggC (tupC v_ 0) 0)] x202.1.terms) (some 10),.made 10 117 (fun v_=>oF 85 rTerm (aggC v_ 0) x202.1.terms) none,.madeN 12 [117] (fun vs_=>box g57 46 #[(aggC (vs_.getD 0 undef) 0),I x202.1.bound]) none] (R) [([],[]),([],[]),([],[]),([],[]),([],[]),([],[]),([],[]),([],[]),([],[1]),([1],[2]),([2],[3]),([],[]),([0,3],[3,4])] (S:=[(none,[],some 12),(some 8,[116],some 9),(some 9,[107],some 10),(some 10,[117],none),(some 12,[117],none)]) Tryz_mix (by kernel_rfl) rfl (by kernel_rfl) (amF_cons (mono_V _) (amF_cons (mono_V _) (amF_cons (mono_V _) (amF_cons (mono_V _) (amF_cons (mono_V _) (amF_cons (mono_V _) (amF_cons (mono_V _) (amF_cons (mono_exD (mono_data _ _) fun _=>mono_V _) (amF_cons (mono_tup2 (mono_exA fun _=>mono_V _) (mono_V _)) (amF_cons (mono_tup2 (mono_exA fun _=>mono_V _) (mono_V _)) (amF_cons (mono_exA fun _=>mono_V _) (amF_cons (mono_V _) (amF_cons (mono_any) amF_nil))))))))))))) hst ?_ (fun f w_ H206 hS206 hE206 hT206 hst=>?_)
 refine opsS_cons (fun f w_ _ _ s _ _ hst=>mF ((s 0 rfl).trans sf0) rfl (nO rfl rfl hst)) (opsS_cons (fun f w_ _ _ _ _ p hst=>L_nc rfl (p 0 108 rfl rfl) (nO rfl rfl hst)) (opsS_cons (fun f w_ _ _ _ _ p hst=>fA 0 fa_89_0 (p 1 109 rfl rfl) rfl (nO rfl rfl hst)) (opsS_cons (fun f w_ _ _ _ _ p hst=>ldB 2 hst Tryz.isAgg23 (p 2 110 rfl rfl) rfl rfl (nO rfl rfl hst)) (opsS_cons (fun f w_ _ _ s _ _ hst=>fA 1 fa_56_1 ((s 3 rfl).trans sf3) rfl (nO rfl rfl hst)) (opsS_cons (fun f w_ _ _ _ _ p hst=>ldB 3 hst Tryz.isAgg3 (p 4 112 rfl rfl) rfl rfl (nO rfl rfl hst)) (opsS_cons (fun f w_ _ _ _ _ p hst=>L_ixO (R:=(OR.frz (rCon 85))) (tb:=0) 0 rfl Tryz.underlying23 Tryz.sizeOf46 (p 3 111 rfl rfl) hv208 (by first | rfl | simp) (p 5 113 rfl rfl) hx192 (nO rfl rfl hst)) (opsS_cons ?_ ?_)))))))
 intro f w_ H206 X206 hS206 hE206 hP206 hst
 obtain ⟨cs219,hr219,hat219⟩:=Star.eltF 0 hst rfl hv208 hx192
 obtain ⟨u220_0,rfl,hu220_0⟩:=rCon_iff.1 hr219
 refine L_lda (cs:=[u220_0,I x192.bound]) rfl Tryz.isAgg46 Tryz.sizeOf46 (hP206 6 114 rfl rfl) (At.sub hat219 0 2) rfl (L_nil ⟨rfl,_,_,rfl,Le.refl _,fun _ _=>⟨_,hu220_0,rfl⟩,hst⟩)
 refine opsS_cons ?_ ?_
 intro f w_ H206 X206 hS206 hE206 hP206 hst
 obtain ⟨u221_0,hu221_0,hv221⟩:=(hP206 7 115 rfl rfl)
 obtain ⟨H222b,l223,s224,z225,k226⟩:=hst.borrow
 refine L_call rfl Tryz.call80 (ops1 hv221) (i_SaturateConstraint_c (c:=x192) s224 (RP.mono _ hu221_0 l223) hx202) ?_
 rintro _ w227 ⟨r227_0,rfl,hst⟩
 have hst:=k226 hst (co closed_term c0)
 have hst:=hst.gets [4,4,4,4] rfl
 exact L_nil ⟨rfl,_,_,rfl,Le.refl _,fun _ _=>⟨_,_,rfl,⟨_,rfl⟩,rfl⟩,hst⟩
 refine opsS_cons ?_ ?_
 intro f w_ H206 X206 hS206 hE206 hP206 hst
 have hst : Star H206 w_ (oF 46 (rCon 85) v0_0 r_.list :: oF 4 RP.bool v0_1 r_.gone :: box g_0 89 #[v0_0,v0_1] :: box g3 56 #[I s.kind,I s.a,I s.b,v1_3,I s.given.bound] :: own (OR.ownS 85 (OR.frz rTerm)) [(aggC (tupC (f 116) 0) 0)] x202.1.terms :: X206):=hst
 obtain ⟨a229_0,a229_1,hv229,ht229_0,ht229_1⟩:=(hP206 8 116 rfl rfl)
 obtain ⟨u230_0,rfl⟩:=ht229_0
 obtain rfl:=ht229_1
 have hren : Star H206 w_ (oF 46 (rCon 85) v0_0 r_.list :: oF 4 RP.bool v0_1 r_.gone :: box g_0 89 #[v0_0,v0_1] :: box g3 56 #[I s.kind,I s.a,I s.b,v1_3,I s.given.bound] :: own (OR.ownS 85 (OR.frz rTerm)) [(aggC (tupC (f 116) 0) 0)] x202.1.terms :: X206):=hst
 rw [hv229] at hren
 have hst : Star H206 w_ (oF 46 (rCon 85) v0_0 r_.list :: oF 4 RP.bool v0_1 r_.gone :: box g_0 89 #[v0_0,v0_1] :: box g3 56 #[I s.kind,I s.a,I s.b,v1_3,I s.given.bound] :: oF 85 rTerm u230_0 x202.1.terms :: X206):=hren
 refine mF hv229 rfl (L_nil ⟨rfl,_,_,rfl,Le.refl _,fun _ _=>⟨_,_,rfl,⟨_,rfl⟩,rfl⟩,hst⟩)
 refine opsS_cons ?_ ?_
 intro f w_ H206 X206 hS206 hE206 hP206 hst
 have hst : Star H206 w_ (oF 46 (rCon 85) v0_0 r_.list :: oF 4 RP.bool v0_1 r_.gone :: box g_0 89 #[v0_0,v0_1] :: box g3 56 #[I s.kind,I s.a,I s.b,v1_3,I s.given.bound] :: own (OR.ownS 85 (OR.frz rTerm)) [(aggC (tupC (f 107) 0) 0)] x202.1.terms :: X206):=hst
 obtain ⟨a231_0,a231_1,hv231,ht231_0,ht231_1⟩:=(hP206 9 107 rfl rfl)
 obtain ⟨u232_0,rfl⟩:=ht231_0
 obtain rfl:=ht231_1
 have hren : Star H206 w_ (oF 46 (rCon 85) v0_0 r_.list :: oF 4 RP.bool v0_1 r_.gone :: box g_0 89 #[v0_0,v0_1] :: box g3 56 #[I s.kind,I s.a,I s.b,v1_3,I s.given.bound] :: own (OR.ownS 85 (OR.frz rTerm)) [(aggC (tupC (f 107) 0) 0)] x202.1.terms :: X206):=hst
 rw [hv231] at hren
 have hst : Star H206 w_ (oF 46 (rCon 85) v0_0 r_.list :: oF 4 RP.bool v0_1 r_.gone :: box g_0 89 #[v0_0,v0_1] :: box g3 56 #[I s.kind,I s.a,I s.b,v1_3,I s.given.bound] :: oF 85 rTerm u232_0 x202.1.terms :: X206):=hren
 refine L_ex (v:=.agg #[u232_0,I x202.1.bound]) rfl hv231 rfl (L_nil ⟨rfl,_,_,rfl,Le.refl _,fun _ _=>⟨_,rfl⟩,hst⟩)
 refine opsS_cons ?_ ?_
 intro f w_ H206 X206 hS206 hE206 hP206 hst
 obtain ⟨a233_0,a233_1,hv233,ht233_0,ht233_1⟩:=(hP206 9 107 rfl rfl)
 obtain ⟨u234_0,rfl⟩:=ht233_0
 obtain rfl:=ht233_1
 refine L_ex (v:=Bo x202.2) rfl hv233 rfl (L_nil ⟨rfl,_,_,rfl,Le.refl _,fun _ _=>rfl,hst⟩)
 refine opsS_cons ?_ ?_
 intro f w_ H206 X206 hS206 hE206 hP206 hst
 have hst : Star H206 w_ (oF 46 (rCon 85) v0_0 r_.list :: oF 4 RP.bool v0_1 r_.gone :: box g_0 89 #[v0_0,v0_1] :: box g3 56 #[I s.kind,I s.a,I s.b,v1_3,I s.given.bound] :: box g57 46 #[S0,I 0] :: own (OR.ownS 85 (OR.frz rTerm)) [(aggC (f 117) 0)] x202.1.terms :: X206):=hst
 obtain ⟨u235_0,hv235⟩:=(hP206 10 117 rfl rfl)
 have hren : Star H206 w_ (oF 46 (rCon 85) v0_0 r_.list :: oF 4 RP.bool v0_1 r_.gone :: box g_0 89 #[v0_0,v0_1] :: box g3 56 #[I s.kind,I s.a,I s.b,v1_3,I s.given.bound] :: box g57 46 #[S0,I 0] :: own (OR.ownS 85 (OR.frz rTerm)) [(aggC (f 117) 0)] x202.1.terms :: X206):=hst
 rw [hv235] at hren
 have hst : Star H206 w_ (oF 46 (rCon 85) v0_0 r_.list :: oF 4 RP.bool v0_1 r_.gone :: box g_0 89 #[v0_0,v0_1] :: box g3 56 #[I s.kind,I s.a,I s.b,v1_3,I s.given.bound] :: box g57 46 #[S0,I 0] :: oF 85 rTerm u235_0 x202.1.terms :: X206):=hren
 refine L_staB (vs:=#[u235_0,I x202.1.bound]) (cs2:=#[u235_0,I x202.1.bound]) 4 rfl Tryz.sizeOf46 ((hS206 7 rfl).trans rfl) hv235 rfl (ones_cons (one_len (Star.len 5 hst rfl)) (ones_cons rfl ones_nil)) hst rfl (by show 0 + 2≤2; decide) rfl (fun w236 hst=>?_)
 have hst:=hst.gets [5,5,5,5,5] rfl
 have hst : Star H206 w236 (oF 46 (rCon 85) v0_0 r_.list :: oF 4 RP.bool v0_1 r_.gone :: box g_0 89 #[v0_0,v0_1] :: box g3 56 #[I s.kind,I s.a,I s.b,v1_3,I s.given.bound] :: own (OR.ownS 85 (OR.frz rTerm)) [(aggC (f 117) 0)] x202.1.terms :: box g57 46 #[(aggC (f 117) 0),I x202.1.bound] :: X206):=by rw [hv235]; exact hst
 exact L_nil ⟨rfl,Bo false,_,rfl,Le.refl _,(fun _ h=>nomatch h),hst⟩
 exact opsS_nil
 have hst : Star H206 w_ (oF 46 (rCon 85) v0_0 r_.list :: oF 4 RP.bool v0_1 r_.gone :: box g_0 89 #[v0_0,v0_1] :: box g3 56 #[I s.kind,I s.a,I s.b,v1_3,I s.given.bound] :: own (OR.ownS 85 (OR.frz rTerm)) [(aggC (f 117) 0)] x202.1.terms :: box g57 46 #[(aggC (f 117) 0),I x202.1.bound] :: R):=hst
 refine aF (hT206 11 118 rfl rfl) rfl (nn ?_)
 obtain ⟨rfl,rfl,rfl⟩:=so3 hA190
 have hst:=hst.get 4 rfl
 obtain ⟨H237,l238,hst,hz239⟩:=Star.freeze hst
 have hz239 : (rS 85 rTerm).rel H237 [(aggC (f 117) 0)] x202.1.terms:=hz239
 have hst:=hst.gets [4,3,3,3] rfl
 have hst:=Star.drop 4 hst rfl
 exact rj hR190 ⟨H237,(aggC (f 117) 0),(Le.trans hE206 l238),((hS206 0 rfl).trans sf0),((hS206 7 rfl).trans rfl),rfl,hz239,hst⟩
 have hA190:=(ite_f hc191).symm.trans hA190
 refine sq (L_eql rfl rfl rfl (aB rfl (nn ?_)))
 obtain ⟨⟨ok_240,g57_0_241,g57_1_243⟩,hA246,hA190⟩:=bind_some hA190
 obtain ⟨R246,hR246⟩:=exR fun f w_=>∃ H244 : FH,∃ v241_g57_0 : Value,Le H33 H244∧f 0 = Pt g_0∧f 7 = Pt g57∧f 8 = Bo ok_240∧(rS 85 rTerm).rel H244 [v241_g57_0] g57_0_241∧Star H244 w_ (oF 46 (rCon 85) v0_0 r_.list :: oF 4 RP.bool v0_1 r_.gone :: box g_0 89 #[v0_0,v0_1] :: box g57 46 #[v241_g57_0,I g57_1_243] :: R)
 refine W_join R246 ?_ ?_
 refine W_cond (b:=(s.kind == 5)) rfl (fun hc247=>?_) (fun hc247=>?_)
 have hA246:=(ite_t hc247).symm.trans hA246
 obtain ⟨x248,hx248,hA246⟩:=bind_some hA246
 obtain ⟨x258,hx258,hA246⟩:=bind_some hA246
 obtain ⟨g263,cap_g263,hv264,_,_⟩:=Star.row 1 hst rfl hx248
 have hst:=hst.gets [4,4,4,4] rfl
 refine W_drawS 15 [isV (Pt g_0),isV (Pt g_0),isV (Pt g_0),isV (v0_0),isV (Pq g3 1),isV (I s.a),isV (.pointer (some ⟨g263,Int.toNat s.a * 2,none⟩)),exD (isData (rS 85 rTerm) x248.terms) fun u_0=>isV (.agg #[u_0,I x248.bound]),isV (Pq g3 2),isV (I s.b),tup2 (exA fun u_0=>isV (.agg #[u_0,I x258.1.bound])) (isV (Bo x258.2)),tup2 (exA fun u_0=>isV (.agg #[u_0,I x258.1.bound])) (isV (Bo x258.2)),exA fun u_0=>isV (.agg #[u_0,I x258.1.bound]),isV (Bo x258.2),anyF] [oF 46 (rCon 85) v0_0 r_.list,oF 4 RP.bool v0_1 r_.gone,box g_0 89 #[v0_0,v0_1],box g3 56 #[I s.kind,I s.a,I s.b,v1_3,I s.given.bound]] [.base (box g57 46 #[S0,I 0]) (some 14),.made 10 132 (fun v_=>own (OR.ownS 85 (OR.frz rTerm)) [(aggC (tupC v_ 0) 0)] x258.1.terms) (some 11),.made 11 121 (fun v_=>own (OR.ownS 85 (OR.frz rTerm)) [(aggC (tupC v_ 0) 0)] x258.1.terms) (some 12),.made 12 133 (fun v_=>oF 85 rTerm (aggC v_ 0) x258.1.terms) none,.madeN 14 [133] (fun vs_=>box g57 46 #[(aggC (vs_.getD 0 undef) 0),I x258.1.bound]) none] (R) [([],[]),([],[]),([],[]),([],[]),([],[]),([],[]),([],[]),([],[]),([],[]),([],[]),([],[1]),([1],[2]),([2],[3]),([],[]),([0,3],[3,4])] (S:=[(none,[],some 14),(some 10,[132],some 11),(some 11,[121],some 12),(some 12,[133],none),(some 14,[133],none)]) Tryz_mix (by kernel_rfl) rfl (by kernel_rfl) (amF_cons (mono_V _) (amF_cons (mono_V _) (amF_cons (mono_V _) (amF_cons (mono_V _) (amF_cons (mono_V _) (amF_cons (mono_V _) (amF_cons (mono_V _) (amF_cons (mono_exD (mono_data _ _) fun _=>mono_V _) (amF_cons (mono_V _) (amF_cons (mono_V _) (amF_cons (mono_tup2 (mono_exA fun _=>mono_V _) (mono_V _)) (amF_cons (mono_tup2 (mono_exA fun _=>mono_V _) (mono_V _)) (amF_cons (mono_exA fun _=>mono_V _) (amF_cons (mono_V _) (amF_cons (mono_any) amF_nil))))))))))))))) hst ?_ (fun f w_ H262 hS262 hE262 hT262 hst=>?_)
 refine opsS_cons (fun f w_ _ _ s _ _ hst=>mF ((s 0 rfl).trans sf0) rfl (nO rfl rfl hst)) (opsS_cons (fun f w_ _ _ _ _ p hst=>L_nc rfl (p 0 122 rfl rfl) (nO rfl rfl hst)) (opsS_cons (fun f w_ _ _ _ _ p hst=>fA 0 fa_89_0 (p 1 123 rfl rfl) rfl (nO rfl rfl hst)) (opsS_cons (fun f w_ _ _ _ _ p hst=>ldB 2 hst Tryz.isAgg23 (p 2 124 rfl rfl) rfl rfl (nO rfl rfl hst)) (opsS_cons (fun f w_ _ _ s _ _ hst=>fA 1 fa_56_1 ((s 3 rfl).trans sf3) rfl (nO rfl rfl hst)) (opsS_cons (fun f w_ _ _ _ _ p hst=>ldB 3 hst Tryz.isAgg3 (p 4 126 rfl rfl) rfl rfl (nO rfl rfl hst)) (opsS_cons (fun f w_ _ _ _ _ p hst=>L_ixO (R:=(OR.frz (rCon 85))) (tb:=0) 0 rfl Tryz.underlying23 Tryz.sizeOf46 (p 3 125 rfl rfl) hv264 (by first | rfl | simp) (p 5 127 rfl rfl) hx248 (nO rfl rfl hst)) (opsS_cons ?_ ?_)))))))
 intro f w_ H262 X262 hS262 hE262 hP262 hst
 obtain ⟨cs275,hr275,hat275⟩:=Star.eltF 0 hst rfl hv264 hx248
 obtain ⟨u276_0,rfl,hu276_0⟩:=rCon_iff.1 hr275
 refine L_lda (cs:=[u276_0,I x248.bound]) rfl Tryz.isAgg46 Tryz.sizeOf46 (hP262 6 128 rfl rfl) (At.sub hat275 0 2) rfl (L_nil ⟨rfl,_,_,rfl,Le.refl _,fun _ _=>⟨_,hu276_0,rfl⟩,hst⟩)
 refine opsS_cons (fun f w_ _ _ s _ _ hst=>fA 2 fa_56_2 ((s 3 rfl).trans sf3) rfl (nO rfl rfl hst)) (opsS_cons (fun f w_ _ _ _ _ p hst=>ldB 3 hst Tryz.isAgg3 (p 8 130 rfl rfl) rfl rfl (nO rfl rfl hst)) (opsS_cons ?_ ?_))
 intro f w_ H262 X262 hS262 hE262 hP262 hst
 obtain ⟨u277_0,hu277_0,hv277⟩:=(hP262 7 129 rfl rfl)
 obtain ⟨H278b,l279,s280,z281,k282⟩:=hst.borrow
 refine L_call rfl Tryz.call81 (ops2 hv277 (hP262 9 131 rfl rfl)) (i_WeakenConstraint_c (c:=x248) (variable_:=s.b) s280 (RP.mono _ hu277_0 l279) hx258) ?_
 rintro _ w283 ⟨r283_0,rfl,hst⟩
 have hst:=k282 hst (co closed_term c0)
 have hst:=hst.gets [4,4,4,4] rfl
 exact L_nil ⟨rfl,_,_,rfl,Le.refl _,fun _ _=>⟨_,_,rfl,⟨_,rfl⟩,rfl⟩,hst⟩
 refine opsS_cons ?_ ?_
 intro f w_ H262 X262 hS262 hE262 hP262 hst
 have hst : Star H262 w_ (oF 46 (rCon 85) v0_0 r_.list :: oF 4 RP.bool v0_1 r_.gone :: box g_0 89 #[v0_0,v0_1] :: box g3 56 #[I s.kind,I s.a,I s.b,v1_3,I s.given.bound] :: own (OR.ownS 85 (OR.frz rTerm)) [(aggC (tupC (f 132) 0) 0)] x258.1.terms :: X262):=hst
 obtain ⟨a285_0,a285_1,hv285,ht285_0,ht285_1⟩:=(hP262 10 132 rfl rfl)
 obtain ⟨u286_0,rfl⟩:=ht285_0
 obtain rfl:=ht285_1
 have hren : Star H262 w_ (oF 46 (rCon 85) v0_0 r_.list :: oF 4 RP.bool v0_1 r_.gone :: box g_0 89 #[v0_0,v0_1] :: box g3 56 #[I s.kind,I s.a,I s.b,v1_3,I s.given.bound] :: own (OR.ownS 85 (OR.frz rTerm)) [(aggC (tupC (f 132) 0) 0)] x258.1.terms :: X262):=hst
 rw [hv285] at hren
 have hst : Star H262 w_ (oF 46 (rCon 85) v0_0 r_.list :: oF 4 RP.bool v0_1 r_.gone :: box g_0 89 #[v0_0,v0_1] :: box g3 56 #[I s.kind,I s.a,I s.b,v1_3,I s.given.bound] :: oF 85 rTerm u286_0 x258.1.terms :: X262):=hren
 refine mF hv285 rfl (L_nil ⟨rfl,_,_,rfl,Le.refl _,fun _ _=>⟨_,_,rfl,⟨_,rfl⟩,rfl⟩,hst⟩)
 refine opsS_cons ?_ ?_
 intro f w_ H262 X262 hS262 hE262 hP262 hst
 have hst : Star H262 w_ (oF 46 (rCon 85) v0_0 r_.list :: oF 4 RP.bool v0_1 r_.gone :: box g_0 89 #[v0_0,v0_1] :: box g3 56 #[I s.kind,I s.a,I s.b,v1_3,I s.given.bound] :: own (OR.ownS 85 (OR.frz rTerm)) [(aggC (tupC (f 121) 0) 0)] x258.1.terms :: X262):=hst
 obtain ⟨a287_0,a287_1,hv287,ht287_0,ht287_1⟩:=(hP262 11 121 rfl rfl)
 obtain ⟨u288_0,rfl⟩:=ht287_0
 obtain rfl:=ht287_1
 have hren : Star H262 w_ (oF 46 (rCon 85) v0_0 r_.list :: oF 4 RP.bool v0_1 r_.gone :: box g_0 89 #[v0_0,v0_1] :: box g3 56 #[I s.kind,I s.a,I s.b,v1_3,I s.given.bound] :: own (OR.ownS 85 (OR.frz rTerm)) [(aggC (tupC (f 121) 0) 0)] x258.1.terms :: X262):=hst
 rw [hv287] at hren
 have hst : Star H262 w_ (oF 46 (rCon 85) v0_0 r_.list :: oF 4 RP.bool v0_1 r_.gone :: box g_0 89 #[v0_0,v0_1] :: box g3 56 #[I s.kind,I s.a,I s.b,v1_3,I s.given.bound] :: oF 85 rTerm u288_0 x258.1.terms :: X262):=hren
 refine L_ex (v:=.agg #[u288_0,I x258.1.bound]) rfl hv287 rfl (L_nil ⟨rfl,_,_,rfl,Le.refl _,fun _ _=>⟨_,rfl⟩,hst⟩)
 refine opsS_cons ?_ ?_
 intro f w_ H262 X262 hS262 hE262 hP262 hst
 obtain ⟨a289_0,a289_1,hv289,ht289_0,ht289_1⟩:=(hP262 11 121 rfl rfl)
 obtain ⟨u290_0,rfl⟩:=ht289_0
 obtain rfl:=ht289_1
 refine L_ex (v:=Bo x258.2) rfl hv289 rfl (L_nil ⟨rfl,_,_,rfl,Le.refl _,fun _ _=>rfl,hst⟩)
 refine opsS_cons ?_ ?_
 intro f w_ H262 X262 hS262 hE262 hP262 hst
 have hst : Star H262 w_ (oF 46 (rCon 85) v0_0 r_.list :: oF 4 RP.bool v0_1 r_.gone :: box g_0 89 #[v0_0,v0_1] :: box g3 56 #[I s.kind,I s.a,I s.b,v1_3,I s.given.bound] :: box g57 46 #[S0,I 0] :: own (OR.ownS 85 (OR.frz rTerm)) [(aggC (f 133) 0)] x258.1.terms :: X262):=hst
 obtain ⟨u291_0,hv291⟩:=(hP262 12 133 rfl rfl)
 have hren : Star H262 w_ (oF 46 (rCon 85) v0_0 r_.list :: oF 4 RP.bool v0_1 r_.gone :: box g_0 89 #[v0_0,v0_1] :: box g3 56 #[I s.kind,I s.a,I s.b,v1_3,I s.given.bound] :: box g57 46 #[S0,I 0] :: own (OR.ownS 85 (OR.frz rTerm)) [(aggC (f 133) 0)] x258.1.terms :: X262):=hst
 rw [hv291] at hren
 have hst : Star H262 w_ (oF 46 (rCon 85) v0_0 r_.list :: oF 4 RP.bool v0_1 r_.gone :: box g_0 89 #[v0_0,v0_1] :: box g3 56 #[I s.kind,I s.a,I s.b,v1_3,I s.given.bound] :: box g57 46 #[S0,I 0] :: oF 85 rTerm u291_0 x258.1.terms :: X262):=hren
 refine L_staB (vs:=#[u291_0,I x258.1.bound]) (cs2:=#[u291_0,I x258.1.bound]) 4 rfl Tryz.sizeOf46 ((hS262 7 rfl).trans rfl) hv291 rfl (ones_cons (one_len (Star.len 5 hst rfl)) (ones_cons rfl ones_nil)) hst rfl (by show 0 + 2≤2; decide) rfl (fun w292 hst=>?_)
 have hst:=hst.gets [5,5,5,5,5] rfl
 have hst : Star H262 w292 (oF 46 (rCon 85) v0_0 r_.list :: oF 4 RP.bool v0_1 r_.gone :: box g_0 89 #[v0_0,v0_1] :: box g3 56 #[I s.kind,I s.a,I s.b,v1_3,I s.given.bound] :: own (OR.ownS 85 (OR.frz rTerm)) [(aggC (f 133) 0)] x258.1.terms :: box g57 46 #[(aggC (f 133) 0),I x258.1.bound] :: X262):=by rw [hv291]; exact hst
 exact L_nil ⟨rfl,Bo false,_,rfl,Le.refl _,(fun _ h=>nomatch h),hst⟩
 exact opsS_nil
 have hst : Star H262 w_ (oF 46 (rCon 85) v0_0 r_.list :: oF 4 RP.bool v0_1 r_.gone :: box g_0 89 #[v0_0,v0_1] :: box g3 56 #[I s.kind,I s.a,I s.b,v1_3,I s.given.bound] :: own (OR.ownS 85 (OR.frz rTerm)) [(aggC (f 133) 0)] x258.1.terms :: box g57 46 #[(aggC (f 133) 0),I x258.1.bound] :: R):=hst
 refine aF (hT262 13 134 rfl rfl) rfl (nn ?_)
 obtain ⟨rfl,rfl,rfl⟩:=so3 hA246
 have hst:=hst.get 4 rfl
 obtain ⟨H293,l294,hst,hz295⟩:=Star.freeze hst
 have hz295 : (rS 85 rTerm).rel H293 [(aggC (f 133) 0)] x258.1.terms:=hz295
 have hst:=hst.gets [4,3,3,3] rfl
 have hst:=Star.drop 4 hst rfl
 exact rj hR246 ⟨H293,(aggC (f 133) 0),(Le.trans hE262 l294),((hS262 0 rfl).trans sf0),((hS262 7 rfl).trans rfl),rfl,hz295,hst⟩
 have hA246:=(ite_f hc247).symm.trans hA246
 refine sq (L_eql rfl rfl rfl (aB rfl (nn ?_)))
 obtain ⟨⟨ok_296,g57_0_297,g57_1_299⟩,hA302,hA246⟩:=bind_some hA246
 obtain ⟨R302,hR302⟩:=exR fun f w_=>∃ H300 : FH,∃ v297_g57_0 : Value,Le H33 H300∧f 0 = Pt g_0∧f 7 = Pt g57∧f 8 = Bo ok_296∧(rS 85 rTerm).rel H300 [v297_g57_0] g57_0_297∧Star H300 w_ (oF 46 (rCon 85) v0_0 r_.list :: oF 4 RP.bool v0_1 r_.gone :: box g_0 89 #[v0_0,v0_1] :: box g57 46 #[v297_g57_0,I g57_1_299] :: R)
 refine W_join R302 ?_ ?_
 refine W_cond (b:=(s.kind == 6)) rfl (fun hc303=>?_) (fun hc303=>?_)
 have hA302:=(ite_t hc303).symm.trans hA302
 obtain ⟨x309,hx309,hA302⟩:=bind_some hA302
 refine W_region (fA 1 fa_56_1 sf3 rfl (ldB 4 hst Tryz.isAgg3 rfl rfl rfl ?_))
 obtain ⟨H313b,l314,s315,z316,k317⟩:=hst.borrow
 refine L_call rfl Tryz.call82 (ops1 rfl) (i_LiteralAxiom_c (lit:=s.a) s315 hx309) ?_
 rintro _ w318 ⟨r318_0,rfl,hst⟩
 have hst:=k317 hst (co closed_term c0)
 refine mV (.tuple #[.agg #[r318_0,I x309.1.bound],Bo x309.2]) rfl (L_ex (v:=.agg #[r318_0,I x309.1.bound]) rfl rfl rfl (L_ex (v:=Bo x309.2) rfl rfl rfl (L_staB (vs:=#[r318_0,I x309.1.bound]) (cs2:=#[r318_0,I x309.1.bound]) 1 rfl Tryz.sizeOf46 rfl rfl rfl (ones_cons (one_len (Star.len 0 hst rfl)) (ones_cons rfl ones_nil)) hst rfl (by show 0 + 2≤2; decide) rfl (fun w320 hst=>aB rfl (nn ?_)))))
 obtain ⟨rfl,rfl,rfl⟩:=so3 hA302
 have hst:=hst.get 1 rfl
 obtain ⟨H321,l322,hst,hz323⟩:=Star.freeze hst
 have hz323 : (rS 85 rTerm).rel H321 [r318_0] x309.1.terms:=hz323
 have hst:=hst.gets [3,3,3] rfl
 have hst:=Star.drop 4 hst rfl
 exact rj hR302 ⟨H321,r318_0,l322,sf0,rfl,rfl,hz323,hst⟩
 have hA302:=(ite_f hc303).symm.trans hA302
 refine sq (L_eql rfl rfl rfl (aB rfl (nn ?_)))
 obtain ⟨⟨ok_324,g57_0_325,g57_1_327⟩,hA330,hA302⟩:=bind_some hA302
 obtain ⟨R330,hR330⟩:=exR fun f w_=>∃ H328 : FH,∃ v325_g57_0 : Value,Le H33 H328∧f 0 = Pt g_0∧f 7 = Pt g57∧f 8 = Bo ok_324∧(rS 85 rTerm).rel H328 [v325_g57_0] g57_0_325∧Star H328 w_ (oF 46 (rCon 85) v0_0 r_.list :: oF 4 RP.bool v0_1 r_.gone :: box g_0 89 #[v0_0,v0_1] :: box g57 46 #[v325_g57_0,I g57_1_327] :: R)
 refine W_join R330 ?_ ?_
 refine W_cond (b:=(s.kind == 7)) rfl (fun hc331=>?_) (fun hc331=>?_)
 have hA330:=(ite_t hc331).symm.trans hA330
 obtain ⟨x337,hx337,hA330⟩:=bind_some hA330
 obtain ⟨b350,hb350,hA330⟩:=bind_some hA330
 obtain ⟨R357,hR357⟩:=exR fun f w_=>∃ H355 : FH,∃ v353_g57_0 : Value,Le H33 H355∧f 0 = Pt g_0∧f 7 = Pt g57∧f 8 = Bo b350∧(rS 85 rTerm).rel H355 [v353_g57_0] s.given.terms∧Star H355 w_ (oF 46 (rCon 85) v0_0 r_.list :: oF 4 RP.bool v0_1 r_.gone :: box g_0 89 #[v0_0,v0_1] :: box g57 46 #[v353_g57_0,I s.given.bound] :: R)
 refine W_join R357 ?_ ?_
 rcases Bool.eq_false_or_eq_true x337 with hc358 | hc358
 rw [ite_t hc358] at hb350
 obtain ⟨x339,hx339,hb350⟩:=bind_some hb350
 obtain ⟨x348,hx348,hb350⟩:=bind_some hb350
 have hst:=hst.gets [4,4,4,4] rfl
 refine W_drawS 13 [isV (Pq g3 3),isV (.agg #[v1_3,I s.given.bound]),isV (Pq g3 3),isV (.agg #[v1_3,I s.given.bound]),isV (Bo x337),isV (Bo x337),isV (Pt g_0),anyF,isV (Pq g3 3),isV (.agg #[v1_3,I s.given.bound]),isV (Bo x348),isV (Bo b350),anyF] [oF 46 (rCon 85) v0_0 r_.list,oF 4 RP.bool v0_1 r_.gone,box g_0 89 #[v0_0,v0_1],box g3 56 #[I s.kind,I s.a,I s.b,v1_3,I s.given.bound]] [.base (box g57 46 #[S0,I 0]) (some 12),.made 7 152 (fun v_=>oF 46 (rCon 85) v_ x339) none,.madeN 12 [] (fun vs_=>box g57 46 #[v1_3,I s.given.bound]) none] (R) [([],[]),([],[]),([],[]),([],[]),([],[]),([],[]),([],[]),([],[1]),([],[]),([],[]),([1],[1]),([],[]),([0],[2])] (S:=[(none,[],some 12),(some 7,[152],none),(some 12,[],none)]) Tryz_mix (by kernel_rfl) rfl (by kernel_rfl) (amF_cons (mono_V _) (amF_cons (mono_V _) (amF_cons (mono_V _) (amF_cons (mono_V _) (amF_cons (mono_V _) (amF_cons (mono_V _) (amF_cons (mono_V _) (amF_cons (mono_any) (amF_cons (mono_V _) (amF_cons (mono_V _) (amF_cons (mono_V _) (amF_cons (mono_V _) (amF_cons (mono_any) amF_nil))))))))))))) hst ?_ (fun f w_ H352 hS352 hE352 hT352 hst=>?_)
 refine opsS_cons (fun f w_ _ _ s _ _ hst=>fA 3 fa_56_3 ((s 3 rfl).trans sf3) rfl (nO rfl rfl hst)) (opsS_cons (fun f w_ _ _ _ _ p hst=>L_lda (cs:=[v1_3,I s.given.bound]) rfl Tryz.isAgg46 Tryz.sizeOf46 (p 0 145 rfl rfl) (At.sub0 (Blk.at (Star.blkAt 3 hst rfl)) 3 2) rfl (nO rfl rfl hst)) (opsS_cons (fun f w_ _ _ s _ _ hst=>fA 3 fa_56_3 ((s 3 rfl).trans sf3) rfl (nO rfl rfl hst)) (opsS_cons (fun f w_ _ _ _ _ p hst=>L_lda (cs:=[v1_3,I s.given.bound]) rfl Tryz.isAgg46 Tryz.sizeOf46 (p 2 147 rfl rfl) (At.sub0 (Blk.at (Star.blkAt 3 hst rfl)) 3 2) rfl (nO rfl rfl hst)) (opsS_cons ?_ ?_))))
 intro f w_ H352 X352 hS352 hE352 hP352 hst
 obtain ⟨H375b,l376,s377,z378,k379⟩:=hst.borrow
 refine L_call rfl Tryz.call52 (ops1 (hP352 3 148 rfl rfl)) (i_ConstraintValid_c (c:=s.given) s377 (RP.mono _ h1_3 (Le.trans (Le.trans l34 hE352) l376)) hx337) ?_
 rintro _ w380 ⟨rfl,hst⟩
 have hst:=k379 hst c0
 exact L_nil ⟨rfl,_,_,rfl,Le.refl _,fun _ _=>rfl,hst⟩
 refine opsS_cons (fun f w_ _ _ _ _ p hst=>mF (p 4 149 rfl rfl) rfl (nO rfl rfl hst)) (opsS_cons (fun f w_ _ _ s _ p hst=>L_mv (v:=Pt g_0) (g_yes rfl (Eq.trans (p 5 150 rfl rfl) (congrArg Value.bool hc358)) rfl) ((s 0 rfl).trans sf0) (nO rfl rfl hst)) (opsS_cons ?_ ?_))
 intro f w_ H352 X352 hS352 hE352 hP352 hst
 have hst:=hst.gets [1,1,2] rfl
 refine L_call (g_yes rfl (Eq.trans (hP352 5 150 rfl rfl) (congrArg Value.bool hc358)) rfl) Tryz.call84 (ops1 (hP352 6 151 rfl rfl)) (i_running_left_c (r_:=r_) hst hx339) ?_
 rintro r381_0 w381 ⟨H381,l381,_,rfl,hst⟩
 have hst:=hst.gets [4,2,4,4] rfl
 exact L_nil ⟨rfl,_,_,rfl,l381,fun _ _=>trivial,hst⟩
 refine opsS_cons (fun f w_ _ _ s _ p hst=>L_fa (o':=3) (g_yes rfl (Eq.trans (p 5 150 rfl rfl) (congrArg Value.bool hc358)) rfl) fa_56_3 ((s 3 rfl).trans sf3) rfl (nO rfl rfl hst)) (opsS_cons (fun f w_ _ _ _ _ p hst=>L_lda (cs:=[v1_3,I s.given.bound]) (g_yes rfl (Eq.trans (p 5 150 rfl rfl) (congrArg Value.bool hc358)) rfl) Tryz.isAgg46 Tryz.sizeOf46 (p 8 153 rfl rfl) (At.sub0 (Blk.at (Star.blkAt 3 hst rfl)) 3 2) rfl (nO rfl rfl hst)) (opsS_cons ?_ ?_))
 intro f w_ H352 X352 hS352 hE352 hP352 hst
 have hst : Star H352 w_ (oF 46 (rCon 85) v0_0 r_.list :: oF 4 RP.bool v0_1 r_.gone :: box g_0 89 #[v0_0,v0_1] :: box g3 56 #[I s.kind,I s.a,I s.b,v1_3,I s.given.bound] :: oF 46 (rCon 85) (f 152) x339 :: X352):=hst
 obtain ⟨H384b,l385,s386,z387,k388⟩:=hst.borrow
 have hb389 : (rS 46 (rCon 85)).rel H384b [(f 152)] x339:=fz_own 4 z387 rfl
 refine L_call (g_yes rfl (Eq.trans (hP352 5 150 rfl rfl) (congrArg Value.bool hc358)) rfl) Tryz.call83 (ops2 rfl (hP352 9 154 rfl rfl)) (i_rup_c (list:=x339) (c:=s.given) s386 hb389 (RP.mono _ h1_3 (Le.trans (Le.trans l34 hE352) l385)) hx348) ?_
 rintro _ w390 ⟨rfl,hst⟩
 have hst:=k388 hst c0
 exact L_nil ⟨rfl,_,_,rfl,Le.refl _,fun _ _=>rfl,hst⟩
 refine opsS_cons (fun f w_ _ _ _ _ p hst=>pkT (v:=Bo b350) (p 5 150 rfl rfl) hc358 rfl (Eq.trans (p 10 155 rfl rfl) (congrArg Value.bool (so hb350))) (nO rfl rfl hst)) (opsS_cons ?_ ?_)
 intro f w_ H352 X352 hS352 hE352 hP352 hst
 have hst : Star H352 w_ (oF 46 (rCon 85) v0_0 r_.list :: oF 4 RP.bool v0_1 r_.gone :: box g_0 89 #[v0_0,v0_1] :: box g3 56 #[I s.kind,I s.a,I s.b,v1_3,I s.given.bound] :: box g57 46 #[S0,I 0] :: X352):=hst
 refine L_staB (vs:=#[v1_3,I s.given.bound]) (cs2:=#[v1_3,I s.given.bound]) 4 rfl Tryz.sizeOf46 ((hS352 7 rfl).trans rfl) (hP352 1 146 rfl rfl) rfl (ones_cons (one_len (slice_len (RP.mono _ h1_3 (Le.trans l34 hE352)))) (ones_cons rfl ones_nil)) hst rfl (by show 0 + 2≤2; decide) rfl (fun w391 hst=>?_)
 have hst:=hst.gets [4,4,4,4] rfl
 exact L_nil ⟨rfl,Bo false,_,rfl,Le.refl _,(fun _ h=>nomatch h),hst⟩
 exact opsS_nil
 have hst : Star H352 w_ (oF 46 (rCon 85) v0_0 r_.list :: oF 4 RP.bool v0_1 r_.gone :: box g_0 89 #[v0_0,v0_1] :: box g3 56 #[I s.kind,I s.a,I s.b,v1_3,I s.given.bound] :: oF 46 (rCon 85) (f 152) x339 :: box g57 46 #[v1_3,I s.given.bound] :: R):=hst
 refine aF (hT352 11 156 rfl rfl) rfl (nn ?_)
 have hst:=hst.gets [5,3,3,3] rfl
 have hst:=Star.drop 4 hst rfl
 have hst:=Star.drop 4 hst rfl
 exact rj hR357 ⟨H352,v1_3,hE352,((hS352 0 rfl).trans sf0),((hS352 7 rfl).trans rfl),rfl,(RP.mono _ h1_3 (Le.trans l34 hE352)),hst⟩
 rw [ite_f hc358] at hb350
 have hst:=hst.gets [4,4,4,4] rfl
 refine W_drawS 13 [isV (Pq g3 3),isV (.agg #[v1_3,I s.given.bound]),isV (Pq g3 3),isV (.agg #[v1_3,I s.given.bound]),isV (Bo x337),isV (Bo x337),isV (undef),isV (undef),isV (undef),isV (undef),isV (undef),isV (Bo b350),anyF] [oF 46 (rCon 85) v0_0 r_.list,oF 4 RP.bool v0_1 r_.gone,box g_0 89 #[v0_0,v0_1],box g3 56 #[I s.kind,I s.a,I s.b,v1_3,I s.given.bound]] [.base (box g57 46 #[S0,I 0]) (some 12),.madeN 12 [] (fun vs_=>box g57 46 #[v1_3,I s.given.bound]) none] (R) [([],[]),([],[]),([],[]),([],[]),([],[]),([],[]),([],[]),([],[]),([],[]),([],[]),([],[]),([],[]),([0],[1])] (S:=[(none,[],some 12),(some 12,[],none)]) Tryz_mix (by kernel_rfl) rfl (by kernel_rfl) (amF_cons (mono_V _) (amF_cons (mono_V _) (amF_cons (mono_V _) (amF_cons (mono_V _) (amF_cons (mono_V _) (amF_cons (mono_V _) (amF_cons (mono_V _) (amF_cons (mono_V _) (amF_cons (mono_V _) (amF_cons (mono_V _) (amF_cons (mono_V _) (amF_cons (mono_V _) (amF_cons (mono_any) amF_nil))))))))))))) hst ?_ (fun f w_ H352 hS352 hE352 hT352 hst=>?_)
 refine opsS_cons (fun f w_ _ _ s _ _ hst=>fA 3 fa_56_3 ((s 3 rfl).trans sf3) rfl (nO rfl rfl hst)) (opsS_cons (fun f w_ _ _ _ _ p hst=>L_lda (cs:=[v1_3,I s.given.bound]) rfl Tryz.isAgg46 Tryz.sizeOf46 (p 0 145 rfl rfl) (At.sub0 (Blk.at (Star.blkAt 3 hst rfl)) 3 2) rfl (nO rfl rfl hst)) (opsS_cons (fun f w_ _ _ s _ _ hst=>fA 3 fa_56_3 ((s 3 rfl).trans sf3) rfl (nO rfl rfl hst)) (opsS_cons (fun f w_ _ _ _ _ p hst=>L_lda (cs:=[v1_3,I s.given.bound]) rfl Tryz.isAgg46 Tryz.sizeOf46 (p 2 147 rfl rfl) (At.sub0 (Blk.at (Star.blkAt 3 hst rfl)) 3 2) rfl (nO rfl rfl hst)) (opsS_cons ?_ ?_))))
 intro f w_ H352 X352 hS352 hE352 hP352 hst
 obtain ⟨H399b,l400,s401,z402,k403⟩:=hst.borrow
 refine L_call rfl Tryz.call52 (ops1 (hP352 3 148 rfl rfl)) (i_ConstraintValid_c (c:=s.given) s401 (RP.mono _ h1_3 (Le.trans (Le.trans l34 hE352) l400)) hx337) ?_
 rintro _ w404 ⟨rfl,hst⟩
 have hst:=k403 hst c0
 exact L_nil ⟨rfl,_,_,rfl,Le.refl _,fun _ _=>rfl,hst⟩
 refine opsS_cons (fun f w_ _ _ _ _ p hst=>mF (p 4 149 rfl rfl) rfl (nO rfl rfl hst)) (oP (fun _ _ p=>gN (p 5 150 rfl rfl) hc358 rfl) (fun _=>rfl) (oP (fun _ _ p=>gN (p 5 150 rfl rfl) hc358 rfl) (fun _=>rfl) (oP (fun _ _ p=>gN (p 5 150 rfl rfl) hc358 rfl) (fun _=>rfl) (oP (fun _ _ p=>gN (p 5 150 rfl rfl) hc358 rfl) (fun _=>rfl) (oP (fun _ _ p=>gN (p 5 150 rfl rfl) hc358 rfl) (fun _=>rfl) (opsS_cons (fun f w_ _ _ _ _ p hst=>pkT (v:=Bo b350) (p 5 150 rfl rfl) hc358 rfl (congrArg Value.bool (so hb350)) (nO rfl rfl hst)) (opsS_cons ?_ ?_)))))))
 intro f w_ H352 X352 hS352 hE352 hP352 hst
 have hst : Star H352 w_ (oF 46 (rCon 85) v0_0 r_.list :: oF 4 RP.bool v0_1 r_.gone :: box g_0 89 #[v0_0,v0_1] :: box g3 56 #[I s.kind,I s.a,I s.b,v1_3,I s.given.bound] :: box g57 46 #[S0,I 0] :: X352):=hst
 refine L_staB (vs:=#[v1_3,I s.given.bound]) (cs2:=#[v1_3,I s.given.bound]) 4 rfl Tryz.sizeOf46 ((hS352 7 rfl).trans rfl) (hP352 1 146 rfl rfl) rfl (ones_cons (one_len (slice_len (RP.mono _ h1_3 (Le.trans l34 hE352)))) (ones_cons rfl ones_nil)) hst rfl (by show 0 + 2≤2; decide) rfl (fun w405 hst=>?_)
 have hst:=hst.gets [4,4,4,4] rfl
 exact L_nil ⟨rfl,Bo false,_,rfl,Le.refl _,(fun _ h=>nomatch h),hst⟩
 exact opsS_nil
 have hst : Star H352 w_ (oF 46 (rCon 85) v0_0 r_.list :: oF 4 RP.bool v0_1 r_.gone :: box g_0 89 #[v0_0,v0_1] :: box g3 56 #[I s.kind,I s.a,I s.b,v1_3,I s.given.bound] :: box g57 46 #[v1_3,I s.given.bound] :: R):=hst
 refine aF (hT352 11 156 rfl rfl) rfl (nn ?_)
 have hst:=hst.gets [4,3,3,3] rfl
 have hst:=Star.drop 4 hst rfl
 exact rj hR357 ⟨H352,v1_3,hE352,((hS352 0 rfl).trans sf0),((hS352 7 rfl).trans rfl),rfl,(RP.mono _ h1_3 (Le.trans l34 hE352)),hst⟩
 intro f w_ hR
 obtain ⟨H355,v353_g57_0,l356,sf0,sf7,sf8,hv354_g57_0,hst⟩:=rk hR357 hR
 obtain ⟨rfl,rfl,rfl⟩:=so3 hA330
 exact rj hR330 ⟨H355,v353_g57_0,l356,sf0,sf7,sf8,hv354_g57_0,hst⟩
 have hA330:=(ite_f hc331).symm.trans hA330
 refine W_skip ?_
 obtain ⟨rfl,rfl,rfl⟩:=so3 hA330
 have hst:=hst.gets [3,3,3] rfl
 have hst:=Star.drop 4 hst rfl
 exact rj hR330 ⟨H33,S0,(Le.refl _),sf0,rfl,rfl,(rel_nil _ _ _),hst⟩
 intro f w_ hR
 obtain ⟨H328,v325_g57_0,l329,sf0,sf7,sf8,hv326_g57_0,hst⟩:=rk hR330 hR
 obtain ⟨rfl,rfl,rfl⟩:=so3 hA302
 exact rj hR302 ⟨H328,v325_g57_0,l329,sf0,sf7,sf8,hv326_g57_0,hst⟩
 intro f w_ hR
 obtain ⟨H300,v297_g57_0,l301,sf0,sf7,sf8,hv298_g57_0,hst⟩:=rk hR302 hR
 obtain ⟨rfl,rfl,rfl⟩:=so3 hA246
 exact rj hR246 ⟨H300,v297_g57_0,l301,sf0,sf7,sf8,hv298_g57_0,hst⟩
 intro f w_ hR
 obtain ⟨H244,v241_g57_0,l245,sf0,sf7,sf8,hv242_g57_0,hst⟩:=rk hR246 hR
 obtain ⟨rfl,rfl,rfl⟩:=so3 hA190
 exact rj hR190 ⟨H244,v241_g57_0,l245,sf0,sf7,sf8,hv242_g57_0,hst⟩
 intro f w_ hR
 obtain ⟨H188,v185_g57_0,l189,sf0,sf7,sf8,hv186_g57_0,hst⟩:=rk hR190 hR
 obtain ⟨rfl,rfl,rfl⟩:=so3 hA154
 exact rj hR154 ⟨H188,v185_g57_0,l189,sf0,sf7,sf8,hv186_g57_0,hst⟩
 intro f w_ hR
 obtain ⟨H152,v149_g57_0,l153,sf0,sf7,sf8,hv150_g57_0,hst⟩:=rk hR154 hR
 obtain ⟨rfl,rfl,rfl⟩:=so3 hA118
 exact rj hR118 ⟨H152,v149_g57_0,l153,sf0,sf7,sf8,hv150_g57_0,hst⟩
 intro f w_ hR
 obtain ⟨H116,v113_g57_0,l117,sf0,sf7,sf8,hv114_g57_0,hst⟩:=rk hR118 hR
 obtain ⟨rfl,rfl,rfl⟩:=so3 hA74
 exact rj hR74 ⟨H116,v113_g57_0,l117,sf0,sf7,sf8,hv114_g57_0,hst⟩
 intro f w_ hR
 obtain ⟨H72,v69_g57_0,l73,sf0,sf7,sf8,hv70_g57_0,hst⟩:=rk hR74 hR
 refine W_seq ?_
 obtain ⟨x409,hx409,hF⟩:=bind_some hF
 obtain ⟨x416,hx416,hF⟩:=bind_some hF
 have hst:=hst.gets [2,2,2,3] rfl
 refine W_drawS 18 [isV (Pt g_0),isV (Pt g_0),isV (Pt g_0),isV (Pt g_0),isV (Pt g_0),isV (v0_0),isV (.agg #[v69_g57_0,I g57_1_71]),anyF,anyF,isV (Pt g_0),isV (Pt g_0),isV (Pq g_0 1),isV (v0_1),anyF,anyF,isV (Pt g_0),isV (Pt g_0),anyF] [box g57 46 #[v69_g57_0,I g57_1_71]] [.base (oF 46 (rCon 85) v0_0 r_.list) (some 8),.base (oF 4 RP.bool v0_1 r_.gone) (some 14),.base (box g_0 89 #[v0_0,v0_1]) (some 17),.made 7 164 (fun v_=>oF 46 (rCon 85) v_ ([({ terms:=g57_0_69,bound:=g57_1_71 } : Con)])) (some 8),.made 8 165 (fun v_=>oF 46 (rCon 85) v_ x409) none,.made 13 170 (fun v_=>oF 4 RP.bool v_ ([false])) (some 14),.made 14 171 (fun v_=>oF 4 RP.bool v_ x416) none,.madeN 17 [165] (fun vs_=>box g_0 89 #[(vs_.getD 0 undef),v0_1]) none] (R) [([],[]),([],[]),([],[]),([],[]),([],[]),([2],[2]),([],[]),([],[3]),([0,3],[4]),([],[]),([],[]),([],[]),([2],[2]),([],[5]),([1,5],[6]),([],[]),([],[]),([2,4],[4,7])] (S:=[(none,[],some 8),(none,[],some 14),(none,[],some 17),(some 7,[164],some 8),(some 8,[165],none),(some 13,[170],some 14),(some 14,[171],none),(some 17,[165],none)]) Tryz_mix (by kernel_rfl) rfl (by kernel_rfl) (amF_cons (mono_V _) (amF_cons (mono_V _) (amF_cons (mono_V _) (amF_cons (mono_V _) (amF_cons (mono_V _) (amF_cons (mono_V _) (amF_cons (mono_V _) (amF_cons (mono_any) (amF_cons (mono_any) (amF_cons (mono_V _) (amF_cons (mono_V _) (amF_cons (mono_V _) (amF_cons (mono_V _) (amF_cons (mono_any) (amF_cons (mono_any) (amF_cons (mono_V _) (amF_cons (mono_V _) (amF_cons (mono_any) amF_nil)))))))))))))))))) hst ?_ (fun f w_ H422 hS422 hE422 hT422 hst=>?_)
 refine opsS_cons (fun f w_ _ _ s _ _ hst=>mF ((s 0 rfl).trans sf0) rfl (nO rfl rfl hst)) (opsS_cons (fun f w_ _ _ s _ _ hst=>mF ((s 0 rfl).trans sf0) rfl (nO rfl rfl hst)) (opsS_cons (fun f w_ _ _ s _ _ hst=>mF ((s 0 rfl).trans sf0) rfl (nO rfl rfl hst)) (opsS_cons (fun f w_ _ _ _ _ p hst=>L_nc rfl (p 2 159 rfl rfl) (nO rfl rfl hst)) (opsS_cons (fun f w_ _ _ _ _ p hst=>fA 0 fa_89_0 (p 3 160 rfl rfl) rfl (nO rfl rfl hst)) (opsS_cons ?_ ?_)))))
 intro f w_ H422 X422 hS422 hE422 hP422 hst
 have hst : Star H422 w_ (box g57 46 #[v69_g57_0,I g57_1_71] :: box g_0 89 #[v0_0,v0_1] :: X422):=hst
 refine ldB 1 hst Tryz.isAgg23 (hP422 4 161 rfl rfl) rfl rfl (L_nil ⟨rfl,_,_,rfl,Le.refl _,fun _ _=>rfl,hst⟩)
 refine opsS_cons (fun f w_ _ _ s _ _ hst=>L_lda (cs:=[v69_g57_0,I g57_1_71]) rfl Tryz.isAgg46 Tryz.sizeOf46 ((s 7 rfl).trans sf7) (At.sub0 (Blk.at (Star.blkAt 0 hst rfl)) 0 2) rfl (nO rfl rfl hst)) (opsS_cons ?_ ?_)
 intro f w_ H422 X422 hS422 hE422 hP422 hst
 refine L_bs rfl (parts1 (hP422 6 163 rfl rfl)) (bs_23_1_2 (v69_g57_0) (I g57_1_71) ) hst (fun g436 w437 hst=>?_)
 have hst:=Star.addF (r:=(rCon 85)) (cs:=[v69_g57_0,I g57_1_71]) (x:=({ terms:=g57_0_69,bound:=g57_1_71 } : Con)) hst (rCon_iff.2 ⟨_,rfl,(RP.mono _ hv70_g57_0 hE422)⟩)
 have hst:=Star.mkRow (R:=(OR.frz (rCon 85))) [([v69_g57_0,I g57_1_71],({ terms:=g57_0_69,bound:=g57_1_71 } : Con))] [({ terms:=g57_0_69,bound:=g57_1_71 } : Con)] 1 hst rfl rfl rfl (by decide)
 have hst:=hst.get 1 rfl
 exact L_nil ⟨rfl,_,_,rfl,Le.refl _,fun _ _=>trivial,hst⟩
 refine opsS_cons ?_ ?_
 intro f w_ H422 X422 hS422 hE422 hP422 hst
 have hst : Star H422 w_ (box g57 46 #[v69_g57_0,I g57_1_71] :: oF 46 (rCon 85) v0_0 r_.list :: oF 46 (rCon 85) (f 164) ([({ terms:=g57_0_69,bound:=g57_1_71 } : Con)]) :: X422):=hst
 have hst:=hst.gets [2,2] rfl
 refine L_appM (v:=v0_0) (u:=(f 164)) rfl et_23 (hP422 5 162 rfl rfl) rfl hst hx409 (fun v440 w441 hst=>?_)
 have hst:=hst.get 1 rfl
 exact L_nil ⟨rfl,_,_,rfl,Le.refl _,fun _ _=>trivial,hst⟩
 refine opsS_cons (fun f w_ _ _ s _ _ hst=>mF ((s 0 rfl).trans sf0) rfl (nO rfl rfl hst)) (opsS_cons (fun f w_ _ _ _ _ p hst=>L_nc rfl (p 9 166 rfl rfl) (nO rfl rfl hst)) (opsS_cons (fun f w_ _ _ _ _ p hst=>fA 1 fa_89_1 (p 10 167 rfl rfl) rfl (nO rfl rfl hst)) (opsS_cons ?_ ?_)))
 intro f w_ H422 X422 hS422 hE422 hP422 hst
 have hst : Star H422 w_ (box g57 46 #[v69_g57_0,I g57_1_71] :: box g_0 89 #[v0_0,v0_1] :: X422):=hst
 refine ldB 1 hst Tryz.isAgg26 (hP422 11 168 rfl rfl) rfl rfl (L_nil ⟨rfl,_,_,rfl,Le.refl _,fun _ _=>rfl,hst⟩)
 refine opsS_cons ?_ ?_
 intro f w_ H422 X422 hS422 hE422 hP422 hst
 refine L_bs rfl (parts1 rfl) (bs_26_1_0 (Bo false) rfl) hst (fun g443 w444 hst=>?_)
 have hst:=Star.addF (r:=RP.bool) (cs:=[Bo false]) (x:=false) hst rfl
 have hst:=Star.mkRow (R:=(OR.frz RP.bool)) [([Bo false],false)] [false] 1 hst rfl rfl rfl (by decide)
 have hst:=hst.get 1 rfl
 exact L_nil ⟨rfl,_,_,rfl,Le.refl _,fun _ _=>trivial,hst⟩
 refine opsS_cons ?_ ?_
 intro f w_ H422 X422 hS422 hE422 hP422 hst
 have hst : Star H422 w_ (box g57 46 #[v69_g57_0,I g57_1_71] :: oF 4 RP.bool v0_1 r_.gone :: oF 4 RP.bool (f 170) ([false]) :: X422):=hst
 have hst:=hst.gets [2,2] rfl
 refine L_appM (v:=v0_1) (u:=(f 170)) rfl et_26 (hP422 12 169 rfl rfl) rfl hst hx416 (fun v447 w448 hst=>?_)
 have hst:=hst.get 1 rfl
 exact L_nil ⟨rfl,_,_,rfl,Le.refl _,fun _ _=>trivial,hst⟩
 refine opsS_cons (fun f w_ _ _ _ _ p hst=>L_nc rfl (p 0 157 rfl rfl) (nO rfl rfl hst)) (opsS_cons (fun f w_ _ _ _ _ p hst=>fA 0 fa_89_0 (p 15 172 rfl rfl) rfl (nO rfl rfl hst)) (opsS_cons ?_ ?_))
 intro f w_ H422 X422 hS422 hE422 hP422 hst
 have hst : Star H422 w_ (box g57 46 #[v69_g57_0,I g57_1_71] :: box g_0 89 #[v0_0,v0_1] :: oF 46 (rCon 85) (f 165) x409 :: X422):=hst
 refine L_stB (v:=(f 165)) (cs2:=#[(f 165),v0_1]) 1 rfl Tryz.sizeOf23 (hP422 16 173 rfl rfl) rfl (one_len (Star.len 2 hst rfl)) hst rfl rfl rfl (fun w451 hst=>?_)
 have hst:=hst.gets [2,2] rfl
 exact L_nil ⟨rfl,Bo false,_,rfl,Le.refl _,(fun _ h=>nomatch h),hst⟩
 exact opsS_nil
 have hst : Star H422 w_ (box g57 46 #[v69_g57_0,I g57_1_71] :: oF 46 (rCon 85) (f 165) x409 :: oF 4 RP.bool (f 171) x416 :: box g_0 89 #[(f 165),v0_1] :: R):=hst
 refine L_nc rfl (hT422 1 158 rfl rfl) (fA 1 fa_89_1 rfl rfl (L_stB (v:=(f 171)) (cs2:=#[(f 165),(f 171)]) 3 rfl Tryz.sizeOf26 rfl rfl (one_len (Star.len 2 hst rfl)) hst rfl rfl rfl (fun w453 hst=>ns (mF ((hS422 8 rfl).trans sf8) rfl (aB rfl (nn (W_ret (retG1 (v1:=Bo ok_68) Tryz.results64 rfl ?_))))))))
 obtain rfl:=so hF
 have hst:=hst.gets [3,3,2] rfl
 have hst:=Star.drop 3 hst rfl
 exact ⟨H422,(Le.trans (Le.trans l34 l73) hE422),(f 165),(f 171),rfl,hst⟩
theorem i_run_c {fu : Nat} {list : List Con} {steps : List Step} {v0 : Value} {v1 : Value} {H : FH} {w : World} {R : List Ass} (hst : Star H w R) (h0 : (rS 46 (rCon 85)).rel H [v0] list) (h1 : (rS 56 (rStep 85)).rel H [v1] steps) {r : (Option Db) × Int} (hF : i_run fu list steps = some r) :
 C Tryz.prog 49 #[v0,v1] w fun v w'=>∃ H' : FH,Le H H'∧∃ (u1 : Value),v = .tuple #[u1,I r.2]∧Star H' w' (optA u1 r.1 (fun (d_ : Db) (g_ : Nat) (u_ : Value × Value)=>[box g_ 89 #[u_.1,u_.2],oF 46 (rCon 85) u_.1 d_.list,oF 4 RP.bool u_.2 d_.gone]) :: R):=by
 unfold i_run at hF
 refine C_enter Tryz.func49 rfl Tryz.ntmps49 rfl (sq (aV (.pointer none) rfl (aI rfl (nq (W_seq ?_)))))
 obtain ⟨x6,hx6,hF⟩:=bind_some hF
 obtain ⟨R8,hR8⟩:=exR fun f w_=>f 0 = v0∧f 1 = v1∧f 16 = Bo ((!x6) || (decide ((steps.length : Int) > 1000)))∧Star H w_ (R)
 refine W_join R8 ?_ ?_
 refine W_region (mV v0 rfl ?_)
 obtain ⟨H9b,l10,s11,z12,k13⟩:=hst.borrow
 refine L_call rfl Tryz.call15 (ops1 rfl) (i_ProblemValid_c (list:=list) s11 (RP.mono _ h0 l10) hx6) ?_
 rintro _ w14 ⟨rfl,hst⟩
 have hst:=k13 hst c0
 refine L_not_ rfl rfl (mB rfl (L_split (d:=12) (b:=(!x6)) rfl (fun hc15=>?_) (fun hc15=>?_)))
 refine ps rfl (ps rfl (ps rfl (L_pick (v:=Bo ((!x6) || (decide ((steps.length : Int) > 1000)))) rfl rfl (or_t hc15) (nn (rj hR8 ⟨rfl,rfl,rfl,hst⟩)))))
 refine mV v1 rfl (L_len rfl Tryz.underlying27 rfl (slice_len h1) (L_gtr rfl rfl rfl (L_pick (v:=Bo ((!x6) || (decide ((steps.length : Int) > 1000)))) rfl rfl (or_f hc15 rfl) (nn (rj hR8 ⟨rfl,rfl,rfl,hst⟩)))))
 intro f w_ hR
 obtain ⟨sf0,sf1,sf16,hst⟩:=rk hR8 hR
 refine W_cond (b:=((!x6) || (decide ((steps.length : Int) > 1000)))) sf16 (fun hc16=>?_) (fun hc16=>?_)
 have hF:=(ite_t hc16).symm.trans hF
 refine sq (aV (.pointer none) rfl (aI rfl (nn (W_ret (retG2 (v1:=.pointer none) (v2:=I 0) Tryz.results49 rfl rfl ?_)))))
 obtain rfl:=so hF
 have hst:=Star.optNone (fun (d_ : Db) (g_ : Nat) (u_ : Value × Value)=>[box g_ 89 #[u_.1,u_.2],oF 46 (rCon 85) u_.1 d_.list,oF 4 RP.bool u_.2 d_.gone]) hst
 exact ⟨H,(Le.refl _),.pointer none,rfl,hst⟩
 have hF:=(ite_f hc16).symm.trans hF
 refine W_skip (W_seq ?_)
 obtain ⟨x18,hx18,hF⟩:=bind_some hF
 obtain ⟨x21,hx21,hF⟩:=bind_some hF
 refine W_drawS 5 [isV (v0),anyF,isV (v0),isV (I (list.length : Int)),anyF] [] [.made 1 18 (fun v_=>oF 46 (rCon 85) v_ x18) none,.made 4 21 (fun v_=>oF 4 RP.bool v_ x21) none] (R) [([],[]),([],[0]),([],[]),([],[]),([],[1])] (S:=[(some 1,[18],none),(some 4,[21],none)]) Tryz_mix (by kernel_rfl) rfl (by kernel_rfl) (amF_cons (mono_V _) (amF_cons (mono_any) (amF_cons (mono_V _) (amF_cons (mono_V _) (amF_cons (mono_any) amF_nil))))) hst ?_ (fun f w_ H27 hS27 hE27 hT27 hst=>?_)
 refine opsS_cons (fun f w_ _ _ s _ _ hst=>mF ((s 0 rfl).trans sf0) rfl (nO rfl rfl hst)) (opsS_cons ?_ ?_)
 intro f w_ H27 X27 hS27 hE27 hP27 hst
 refine L_call rfl Tryz.call17 (ops1 (hP27 0 17 rfl rfl)) (slices_Clone_implConstraint_c (s:=list) hst (RP.mono _ h0 hE27) hx18) ?_
 rintro r33_0 w33 ⟨H33,l33,_,rfl,hst⟩
 exact L_nil ⟨rfl,_,_,rfl,l33,fun _ _=>trivial,hst⟩
 refine opsS_cons (fun f w_ _ _ s _ _ hst=>mF ((s 0 rfl).trans sf0) rfl (nO rfl rfl hst)) (opsS_cons (fun f w_ _ _ _ hE27 p hst=>L_len rfl Tryz.underlying23 (p 2 19 rfl rfl) (slice_len (RP.mono _ h0 hE27)) (nO rfl rfl hst)) (opsS_cons ?_ ?_))
 intro f w_ H27 X27 hS27 hE27 hP27 hst
 refine L_mk (R:=(OR.frz RP.bool)) (z0:=false) (zc:=[Bo false]) rfl et_26 (by kernel_rfl) (fun _ _=>⟨rfl,rfl⟩) (hP27 3 20 rfl rfl) (hP27 3 20 rfl rfl) hx21 hst (fun v35 w36 hst=>L_nil ⟨rfl,_,_,rfl,Le.refl _,fun _ _=>trivial,hst⟩)
 exact opsS_nil
 have hst : Star H27 w_ (oF 46 (rCon 85) (f 18) x18 :: oF 4 RP.bool (f 21) x21 :: R):=hst
 refine L_bld rfl (parts2 rfl rfl) (bld_89_0_1 ((f 18)) ((f 21)) (one_len (Star.len 0 hst rfl)) (one_len (Star.len 1 hst rfl))) (L_box (v:=.agg #[(f 18),(f 21)]) (cs:=#[(f 18),(f 21)]) rfl rfl rfl hst (fun g40 w41 hst=>aV (Pt g40) rfl (nq (sq (mF ((hS27 1 rfl).trans sf1) rfl (L_len rfl Tryz.underlying27 rfl (slice_len (RP.mono _ h1 hE27)) (mI rfl (nn ?_))))))))
 have hlen49 : List.length steps≤9223372036854775807:=len_le (slice_len (RP.mono _ h1 hE27))
 obtain ⟨j49,hL49,hF⟩:=bind_some hF
 obtain ⟨R49,hR49⟩:=exR fun f w_=>∃ g40_0_43 : List Con,∃ g40_1_45 : List Bool,∃ H47 : FH,∃ v43_g40_0 v45_g40_1 : Value,j49 = .nx (g40_0_43,g40_1_45)∧Le H27 H47∧f 6 = Pt g40∧Star H47 w_ (oF 46 (rCon 85) v43_g40_0 g40_0_43 :: oF 4 RP.bool v45_g40_1 g40_1_45 :: box g40 89 #[v43_g40_0,v45_g40_1] :: R)
 refine W_join R49 ?_ ?_
 refine W_block ?_
 obtain ⟨I49,hI49⟩:=exI fun n f w_=>∃ i_42 : Nat,∃ suf49 : List Step,∃ g40_0_43 : List Con,∃ g40_1_45 : List Bool,∃ H47 : FH,∃ v43_g40_0 v45_g40_1 : Value,n = suf49.length∧List.drop i_42 steps = suf49∧i_42 + suf49.length = steps.length∧rangeL (i_run_b1 fu list) suf49 i_42 (g40_0_43,g40_1_45) = some j49∧Le H27 H47∧f 6 = Pt g40∧f 24 = v1∧f 25 = I (steps.length : Int)∧f 26 = I i_42∧Star H47 w_ (oF 46 (rCon 85) v43_g40_0 g40_0_43 :: oF 4 RP.bool v45_g40_1 g40_1_45 :: box g40 89 #[v43_g40_0,v45_g40_1] :: R)
 have hst:=hst.gets [2,2] rfl
 refine W_loop I49 (n:=steps.length) ?_ ?_
 exact ij hI49 ⟨0,steps,x18,x21,H27,(f 18),(f 21),rfl,rfl,Nat.zero_add _,hL49,(Le.refl _),rfl,rfl,rfl,rfl,hst⟩
 intro n49 f w_ hI
 obtain ⟨i_42,suf49,g40_0_43,g40_1_45,H47,v43_g40_0,v45_g40_1,rfl,hd49,hl49,hL49,l48,sf6,sf24,sf25,sf26,hst⟩:=ik hI49 hI
 refine sq (L_lss rfl sf26 sf25 (nq (W_cond (b:=decide ((i_42 : Int) < (steps.length : Int))) rfl (fun hc50=>?_) (fun hc50=>?_))))
 have hlt49:=of_decide_eq_true hc50
 rcases suf49 with _ | ⟨x_49,rest49⟩
 exact absurd hlt49 (by simp at hl49; omega)
 obtain ⟨o49,hB49,hL49⟩:=range_cons hL49
 rw [i_run_b1] at hB49
 have hix49:=drop_idx hd49
 refine W_skip (W_seq (W_block (sq (mF sf26 rfl (L_ix (r:=(rStep 85)) rfl Tryz.underlying27 Tryz.sizeOf56 sf24 (RP.mono _ h1 (Le.trans hE27 l48)) sf26 hix49 (fun g58 o59 cs_g58 hrk_hat60 hat60=>?_))))))
 obtain ⟨u61_0,rfl,hu61_0⟩:=rStep_iff.1 hrk_hat60
 refine L_lda (cs:=[I x_49.kind,I x_49.a,I x_49.b,u61_0,I x_49.given.bound]) rfl Tryz.isAgg56 Tryz.sizeOf56 rfl (At.sub (AtH.at hat60 hst.sub) 0 5) rfl (L_al (cs:=#[I 0,I 0,I 0,S0,I 0]) rfl Tryz.zeroValue56 rfl hst (fun g62 w63 hst=>aI rfl (L_staB (vs:=#[I x_49.kind,I x_49.a,I x_49.b,u61_0,I x_49.given.bound]) (cs2:=#[I x_49.kind,I x_49.a,I x_49.b,u61_0,I x_49.given.bound]) 0 rfl Tryz.sizeOf56 rfl rfl rfl (ones_cons rfl (ones_cons rfl (ones_cons rfl (ones_cons (one_len (slice_len hu61_0)) (ones_cons rfl ones_nil))))) hst rfl (by show 0 + 5≤5; decide) rfl (fun w64 hst=>nq ?_))))
 obtain ⟨x65,hx65,hB49⟩:=bind_some hB49
 refine W_region (mF sf6 rfl (L_lda (cs:=[I x_49.kind,I x_49.a,I x_49.b,u61_0,I x_49.given.bound]) rfl Tryz.isAgg56 Tryz.sizeOf56 rfl (At.sub0 (Blk.at (Star.blkAt 0 hst rfl)) 0 5) rfl ?_))
 have hst:=hst.gets [2,2,3] rfl
 refine L_call rfl Tryz.call64 (ops2 rfl rfl) (i_running_step_c (r_:=({ list:=g40_0_43,gone:=g40_1_45 } : Db)) (s:=x_49) hst hu61_0 hx65) ?_
 rintro _ w69 ⟨H69,l69,r69_0,r69_1,rfl,hst⟩
 refine L_not_ rfl rfl (nn (W_cond (b:=(!x65.1)) rfl (fun hc72=>?_) (fun hc72=>?_)))
 have hB49:=(ite_t hc72).symm.trans hB49
 refine sq (mI rfl (aV (.pointer none) rfl (aI rfl (nn (W_ret (retG2 (v1:=.pointer none) (v2:=I i_42) Tryz.results49 rfl rfl ?_))))))
 obtain rfl:=so hB49
 obtain rfl:=so hL49
 obtain rfl:=so hF
 have hst:=Star.optNone (fun (d_ : Db) (g_ : Nat) (u_ : Value × Value)=>[box g_ 89 #[u_.1,u_.2],oF 46 (rCon 85) u_.1 d_.list,oF 4 RP.bool u_.2 d_.gone]) hst
 have hst:=Star.drop 1 hst rfl
 have hst:=Star.drop 1 hst rfl
 have hst:=Star.drop 1 hst rfl
 have hst:=Star.drop 1 hst rfl
 exact ⟨H69,(Le.trans (Le.trans hE27 l48) l69),.pointer none,rfl,hst⟩
 have hB49:=(ite_f hc72).symm.trans hB49
 refine W_skip (W_region (L_add rfl sf26 rfl (mI rfl (nn ?_))))
 obtain rfl:=so hB49
 have hst:=hst.gets [2,2] rfl
 have hst:=Star.drop 3 hst rfl
 show ∃ m,m < _∧I49 m _ _
 refine ⟨rest49.length,by simp,?_⟩
 exact ij hI49 ⟨i_42 + 1,rest49,x65.2.1,x65.2.2,H69,r69_0,r69_1,rfl,drop_next hd49,by simp at hl49; omega,hL49,(Le.trans l48 l69),sf6,sf24,sf25,(Eq.trans rfl (congrArg (Value.int .i64) (i64_succ (n:=steps.length) (by simp at hl49; omega) hlen49))),hst⟩
 rcases suf49 with _ | ⟨_,_⟩
 obtain rfl:=range_nil hL49
 refine W_exit (rj hR49 ⟨g40_0_43,g40_1_45,H47,v43_g40_0,v45_g40_1,rfl,l48,sf6,hst⟩)
 exact absurd (of_decide_eq_false hc50) (by simp at hl49; omega)
 intro f w_ hR
 obtain ⟨g40_0_43,g40_1_45,H47,v43_g40_0,v45_g40_1,rfl,l48,sf6,hst⟩:=rk hR49 hR
 refine sq (mF sf6 rfl (aV (Pt g40) rfl (aI rfl (nn (W_ret (retG2 (v1:=Pt g40) (v2:=I (-1)) Tryz.results49 rfl rfl ?_))))))
 obtain rfl:=so hF
 have hst:=hst.gets [1,1,2] rfl
 have hst:=Star.optSome (fun (d_ : Db) (g_ : Nat) (u_ : Value × Value)=>[box g_ 89 #[u_.1,u_.2],oF 46 (rCon 85) u_.1 d_.list,oF 4 RP.bool u_.2 d_.gone]) ({ list:=g40_0_43,gone:=g40_1_45 } : Db) g40 (v43_g40_0,v45_g40_1) hst
 exact ⟨H47,(Le.trans hE27 l48),Pt g40,rfl,hst⟩
end Go.Proofs.YteeilbddjlpiaaaGreat

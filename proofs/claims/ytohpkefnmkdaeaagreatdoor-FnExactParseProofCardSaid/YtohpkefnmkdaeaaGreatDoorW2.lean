/- Part of a proof by program: W2. -/
import Derived.Test.YtohpkefnmkdaeaaGreatDoorD1
import Derived.Test.YtohpkefnmkdaeaaGreatDoorW1
namespace Go.Proofs.YtohpkefnmkdaeaaGreatDoor
open Go Go.E Go.L Go.RowKit
set_option linter.unusedVariables false
set_option linter.unusedSimpArgs false
set_option maxRecDepth 100000
theorem i_Step_shaped_c {s : Step} {v0_3 : Value} {H : FH} {w : World} (Z : Star H w []) (h0_3 : (rS 126 rTerm).rel H [v0_3] s.given.terms) {r : Bool} (hF : i_Step_shaped s = some r) :
 C Tryz.prog 114 #[.agg #[I s.kind,I s.a,I s.b,v0_3,I s.given.bound]] w fun v w'=>v = Bo r∧Star H w' []:=by
 unfold i_Step_shaped at hF
 refine C_enter Tryz.func114 rfl Tryz.ntmps114 rfl (sq (L_box (v:=.agg #[I s.kind,I s.a,I s.b,v0_3,I s.given.bound]) (cs:=#[I s.kind,I s.a,I s.b,v0_3,I s.given.bound]) rfl rfl rfl Z (fun g3 w4 Z=>aB rfl (nq ?_))))
 obtain ⟨x10,hx10,hF⟩:=bind_some hF
 refine W_region (fA 0 fa_76_0 rfl rfl (ldB 0 Z Tryz.isAgg3 rfl rfl rfl ?_))
 obtain ⟨H12b,l13,s14,z15,k16⟩:=Z.borrow
 refine L_call rfl Tryz.call118 (ops1 rfl) (i_refers_c (kind:=s.kind) s14 hx10) ?_
 rintro _ w17 ⟨rfl,Z⟩
 have Z:=k16 Z c0
 refine mV (.tuple #[I x10.1,Bo x10.2]) rfl (L_ex (v:=I x10.1) rfl rfl rfl (L_ex (v:=Bo x10.2) rfl rfl rfl (aI rfl (aB rfl (nq ?_)))))
 obtain ⟨b26,hb26,hF⟩:=bind_some hF
 obtain ⟨R27,hR27⟩:=exR fun f w_=>f 2 = Bo b26∧Star H w_ ([])
 refine W_join R27 ?_ ?_
 refine W_region (mI rfl (L_geq rfl rfl rfl (mB rfl (L_split (d:=13) (b:=decide (x10.1 ≥ 0)) rfl (fun hc28=>?_) (fun hc28=>?_)))))
 refine mI rfl (L_gtr rfl rfl rfl (mB rfl (L_split (d:=16) (b:=decide (x10.1 > 0)) rfl (fun hc29=>?_) (fun hc29=>?_))))
 refine ps rfl (ps rfl (ps rfl (L_pick (v:=Bo ((decide (x10.1 > 0)) || (s.kind == 6))) rfl rfl (or_t hc29) (mB rfl (L_split (d:=21) (b:=((decide (x10.1 > 0)) || (s.kind == 6))) rfl (fun hc30=>?_) (fun hc30=>?_))))))
 refine ps rfl (ps rfl (ps rfl (L_pick (v:=Bo (((decide (x10.1 > 0)) || (s.kind == 6)) || (s.a == 0))) rfl rfl (or_t hc30) (L_pick (v:=Bo ((decide (x10.1 ≥ 0)) && (((decide (x10.1 > 0)) || (s.kind == 6)) || (s.a == 0)))) rfl rfl (and_t hc28 rfl) (mB rfl (L_split (d:=27) (b:=((decide (x10.1 ≥ 0)) && (((decide (x10.1 > 0)) || (s.kind == 6)) || (s.a == 0)))) rfl (fun hc31=>?_) (fun hc31=>?_)))))))
 refine mI rfl (L_eql rfl rfl rfl (mB rfl (L_split (d:=30) (b:=(x10.1 == 2)) rfl (fun hc32=>?_) (fun hc32=>?_))))
 refine ps rfl (L_pick (v:=Bo ((x10.1 == 2) || x10.2)) rfl rfl (or_t hc32) (mB rfl (L_split (d:=33) (b:=((x10.1 == 2) || x10.2)) rfl (fun hc33=>?_) (fun hc33=>?_))))
 refine ps rfl (ps rfl (ps rfl (L_pick (v:=Bo (((x10.1 == 2) || x10.2) || (s.b == 0))) rfl rfl (or_t hc33) (L_pick (v:=Bo (((decide (x10.1 ≥ 0)) && (((decide (x10.1 > 0)) || (s.kind == 6)) || (s.a == 0))) && (((x10.1 == 2) || x10.2) || (s.b == 0)))) rfl rfl (and_t hc31 rfl) (mB rfl (L_split (d:=39) (b:=(((decide (x10.1 ≥ 0)) && (((decide (x10.1 > 0)) || (s.kind == 6)) || (s.a == 0))) && (((x10.1 == 2) || x10.2) || (s.b == 0)))) rfl (fun hc34=>?_) (fun hc34=>?_)))))))
 rw [ite_t hc34] at hb26
 obtain ⟨b25,hb25,hb26⟩:=bind_some hb26
 refine fA 0 fa_76_0 rfl rfl (ldB 0 Z Tryz.isAgg3 rfl rfl rfl (L_eql rfl rfl rfl (mB rfl (L_split (d:=43) (b:=(s.kind == 7)) rfl (fun hc35=>?_) (fun hc35=>?_)))))
 rw [ite_t hc35] at hb25
 refine ps rfl (ps rfl (ps rfl (ps rfl (L_pick (v:=Bo b25) rfl rfl (congrArg Value.bool (so hb25)) (L_pick (v:=Bo b26) rfl rfl (congrArg Value.bool (so hb26)) (aB rfl (nn (rj hR27 ⟨rfl,(Star.keepN 0 Z)⟩))))))))
 rw [ite_f hc35] at hb25
 obtain ⟨x23,hx23,hb25⟩:=bind_some hb25
 refine fA 3 fa_76_3 rfl rfl (L_lda (cs:=[v0_3,I s.given.bound]) rfl Tryz.isAgg74 Tryz.sizeOf74 rfl (At.sub0 (Blk.at (Star.blkAt 0 Z rfl)) 3 2) rfl (L_bld rfl (parts0 ) (bld_74_  ) ?_))
 obtain ⟨H36b,l37,s38,z39,k40⟩:=Z.borrow
 refine L_call rfl Tryz.call72 (ops2 rfl rfl) (i_ConstraintSame_c (a:=s.given) (b:=({ terms:=[],bound:=0 } : Con)) s38 (RP.mono _ h0_3 l37) (rel_nil _ _ _) hx23) ?_
 rintro _ w41 ⟨rfl,Z⟩
 have Z:=k40 Z c0
 refine L_pick (v:=Bo b25) rfl rfl (congrArg Value.bool (so hb25)) (L_pick (v:=Bo b26) rfl rfl (congrArg Value.bool (so hb26)) (aB rfl (nn (rj hR27 ⟨rfl,(Star.keepN 0 Z)⟩))))
 rw [ite_f hc34] at hb26
 refine ps rfl (ps rfl (ps rfl (ps rfl (ps rfl (ps rfl (ps rfl (ps rfl (ps rfl (L_pick (v:=Bo b26) rfl rfl (congrArg Value.bool (so hb26)) (aB rfl (nn (rj hR27 ⟨rfl,(Star.keepN 0 Z)⟩))))))))))))
 refine fA 2 fa_76_2 rfl rfl (ldB 0 Z Tryz.isAgg3 rfl rfl rfl (L_eql rfl rfl rfl (L_pick (v:=Bo (((x10.1 == 2) || x10.2) || (s.b == 0))) rfl rfl (or_f hc33 rfl) (L_pick (v:=Bo (((decide (x10.1 ≥ 0)) && (((decide (x10.1 > 0)) || (s.kind == 6)) || (s.a == 0))) && (((x10.1 == 2) || x10.2) || (s.b == 0)))) rfl rfl (and_t hc31 rfl) (mB rfl (L_split (d:=39) (b:=(((decide (x10.1 ≥ 0)) && (((decide (x10.1 > 0)) || (s.kind == 6)) || (s.a == 0))) && (((x10.1 == 2) || x10.2) || (s.b == 0)))) rfl (fun hc42=>?_) (fun hc42=>?_)))))))
 rw [ite_t hc42] at hb26
 obtain ⟨b25,hb25,hb26⟩:=bind_some hb26
 refine fA 0 fa_76_0 rfl rfl (ldB 0 Z Tryz.isAgg3 rfl rfl rfl (L_eql rfl rfl rfl (mB rfl (L_split (d:=43) (b:=(s.kind == 7)) rfl (fun hc43=>?_) (fun hc43=>?_)))))
 rw [ite_t hc43] at hb25
 refine ps rfl (ps rfl (ps rfl (ps rfl (L_pick (v:=Bo b25) rfl rfl (congrArg Value.bool (so hb25)) (L_pick (v:=Bo b26) rfl rfl (congrArg Value.bool (so hb26)) (aB rfl (nn (rj hR27 ⟨rfl,(Star.keepN 0 Z)⟩))))))))
 rw [ite_f hc43] at hb25
 obtain ⟨x23,hx23,hb25⟩:=bind_some hb25
 refine fA 3 fa_76_3 rfl rfl (L_lda (cs:=[v0_3,I s.given.bound]) rfl Tryz.isAgg74 Tryz.sizeOf74 rfl (At.sub0 (Blk.at (Star.blkAt 0 Z rfl)) 3 2) rfl (L_bld rfl (parts0 ) (bld_74_  ) ?_))
 obtain ⟨H44b,l45,s46,z47,k48⟩:=Z.borrow
 refine L_call rfl Tryz.call72 (ops2 rfl rfl) (i_ConstraintSame_c (a:=s.given) (b:=({ terms:=[],bound:=0 } : Con)) s46 (RP.mono _ h0_3 l45) (rel_nil _ _ _) hx23) ?_
 rintro _ w49 ⟨rfl,Z⟩
 have Z:=k48 Z c0
 refine L_pick (v:=Bo b25) rfl rfl (congrArg Value.bool (so hb25)) (L_pick (v:=Bo b26) rfl rfl (congrArg Value.bool (so hb26)) (aB rfl (nn (rj hR27 ⟨rfl,(Star.keepN 0 Z)⟩))))
 rw [ite_f hc42] at hb26
 refine ps rfl (ps rfl (ps rfl (ps rfl (ps rfl (ps rfl (ps rfl (ps rfl (ps rfl (L_pick (v:=Bo b26) rfl rfl (congrArg Value.bool (so hb26)) (aB rfl (nn (rj hR27 ⟨rfl,(Star.keepN 0 Z)⟩))))))))))))
 refine mB rfl (L_pick (v:=Bo ((x10.1 == 2) || x10.2)) rfl rfl (or_f hc32 rfl) (mB rfl (L_split (d:=33) (b:=((x10.1 == 2) || x10.2)) rfl (fun hc50=>?_) (fun hc50=>?_))))
 refine ps rfl (ps rfl (ps rfl (L_pick (v:=Bo (((x10.1 == 2) || x10.2) || (s.b == 0))) rfl rfl (or_t hc50) (L_pick (v:=Bo (((decide (x10.1 ≥ 0)) && (((decide (x10.1 > 0)) || (s.kind == 6)) || (s.a == 0))) && (((x10.1 == 2) || x10.2) || (s.b == 0)))) rfl rfl (and_t hc31 rfl) (mB rfl (L_split (d:=39) (b:=(((decide (x10.1 ≥ 0)) && (((decide (x10.1 > 0)) || (s.kind == 6)) || (s.a == 0))) && (((x10.1 == 2) || x10.2) || (s.b == 0)))) rfl (fun hc51=>?_) (fun hc51=>?_)))))))
 rw [ite_t hc51] at hb26
 obtain ⟨b25,hb25,hb26⟩:=bind_some hb26
 refine fA 0 fa_76_0 rfl rfl (ldB 0 Z Tryz.isAgg3 rfl rfl rfl (L_eql rfl rfl rfl (mB rfl (L_split (d:=43) (b:=(s.kind == 7)) rfl (fun hc52=>?_) (fun hc52=>?_)))))
 rw [ite_t hc52] at hb25
 refine ps rfl (ps rfl (ps rfl (ps rfl (L_pick (v:=Bo b25) rfl rfl (congrArg Value.bool (so hb25)) (L_pick (v:=Bo b26) rfl rfl (congrArg Value.bool (so hb26)) (aB rfl (nn (rj hR27 ⟨rfl,(Star.keepN 0 Z)⟩))))))))
 rw [ite_f hc52] at hb25
 obtain ⟨x23,hx23,hb25⟩:=bind_some hb25
 refine fA 3 fa_76_3 rfl rfl (L_lda (cs:=[v0_3,I s.given.bound]) rfl Tryz.isAgg74 Tryz.sizeOf74 rfl (At.sub0 (Blk.at (Star.blkAt 0 Z rfl)) 3 2) rfl (L_bld rfl (parts0 ) (bld_74_  ) ?_))
 obtain ⟨H53b,l54,s55,z56,k57⟩:=Z.borrow
 refine L_call rfl Tryz.call72 (ops2 rfl rfl) (i_ConstraintSame_c (a:=s.given) (b:=({ terms:=[],bound:=0 } : Con)) s55 (RP.mono _ h0_3 l54) (rel_nil _ _ _) hx23) ?_
 rintro _ w58 ⟨rfl,Z⟩
 have Z:=k57 Z c0
 refine L_pick (v:=Bo b25) rfl rfl (congrArg Value.bool (so hb25)) (L_pick (v:=Bo b26) rfl rfl (congrArg Value.bool (so hb26)) (aB rfl (nn (rj hR27 ⟨rfl,(Star.keepN 0 Z)⟩))))
 rw [ite_f hc51] at hb26
 refine ps rfl (ps rfl (ps rfl (ps rfl (ps rfl (ps rfl (ps rfl (ps rfl (ps rfl (L_pick (v:=Bo b26) rfl rfl (congrArg Value.bool (so hb26)) (aB rfl (nn (rj hR27 ⟨rfl,(Star.keepN 0 Z)⟩))))))))))))
 refine fA 2 fa_76_2 rfl rfl (ldB 0 Z Tryz.isAgg3 rfl rfl rfl (L_eql rfl rfl rfl (L_pick (v:=Bo (((x10.1 == 2) || x10.2) || (s.b == 0))) rfl rfl (or_f hc50 rfl) (L_pick (v:=Bo (((decide (x10.1 ≥ 0)) && (((decide (x10.1 > 0)) || (s.kind == 6)) || (s.a == 0))) && (((x10.1 == 2) || x10.2) || (s.b == 0)))) rfl rfl (and_t hc31 rfl) (mB rfl (L_split (d:=39) (b:=(((decide (x10.1 ≥ 0)) && (((decide (x10.1 > 0)) || (s.kind == 6)) || (s.a == 0))) && (((x10.1 == 2) || x10.2) || (s.b == 0)))) rfl (fun hc59=>?_) (fun hc59=>?_)))))))
 rw [ite_t hc59] at hb26
 obtain ⟨b25,hb25,hb26⟩:=bind_some hb26
 refine fA 0 fa_76_0 rfl rfl (ldB 0 Z Tryz.isAgg3 rfl rfl rfl (L_eql rfl rfl rfl (mB rfl (L_split (d:=43) (b:=(s.kind == 7)) rfl (fun hc60=>?_) (fun hc60=>?_)))))
 rw [ite_t hc60] at hb25
 refine ps rfl (ps rfl (ps rfl (ps rfl (L_pick (v:=Bo b25) rfl rfl (congrArg Value.bool (so hb25)) (L_pick (v:=Bo b26) rfl rfl (congrArg Value.bool (so hb26)) (aB rfl (nn (rj hR27 ⟨rfl,(Star.keepN 0 Z)⟩))))))))
 rw [ite_f hc60] at hb25
 obtain ⟨x23,hx23,hb25⟩:=bind_some hb25
 refine fA 3 fa_76_3 rfl rfl (L_lda (cs:=[v0_3,I s.given.bound]) rfl Tryz.isAgg74 Tryz.sizeOf74 rfl (At.sub0 (Blk.at (Star.blkAt 0 Z rfl)) 3 2) rfl (L_bld rfl (parts0 ) (bld_74_  ) ?_))
 obtain ⟨H61b,l62,s63,z64,k65⟩:=Z.borrow
 refine L_call rfl Tryz.call72 (ops2 rfl rfl) (i_ConstraintSame_c (a:=s.given) (b:=({ terms:=[],bound:=0 } : Con)) s63 (RP.mono _ h0_3 l62) (rel_nil _ _ _) hx23) ?_
 rintro _ w66 ⟨rfl,Z⟩
 have Z:=k65 Z c0
 refine L_pick (v:=Bo b25) rfl rfl (congrArg Value.bool (so hb25)) (L_pick (v:=Bo b26) rfl rfl (congrArg Value.bool (so hb26)) (aB rfl (nn (rj hR27 ⟨rfl,(Star.keepN 0 Z)⟩))))
 rw [ite_f hc59] at hb26
 refine ps rfl (ps rfl (ps rfl (ps rfl (ps rfl (ps rfl (ps rfl (ps rfl (ps rfl (L_pick (v:=Bo b26) rfl rfl (congrArg Value.bool (so hb26)) (aB rfl (nn (rj hR27 ⟨rfl,(Star.keepN 0 Z)⟩))))))))))))
 refine ps rfl (ps rfl (ps rfl (ps rfl (ps rfl (ps rfl (ps rfl (ps rfl (ps rfl (ps rfl (L_pick (v:=Bo (((decide (x10.1 ≥ 0)) && (((decide (x10.1 > 0)) || (s.kind == 6)) || (s.a == 0))) && (((x10.1 == 2) || x10.2) || (s.b == 0)))) rfl rfl (and_f hc31) (mB rfl (L_split (d:=39) (b:=(((decide (x10.1 ≥ 0)) && (((decide (x10.1 > 0)) || (s.kind == 6)) || (s.a == 0))) && (((x10.1 == 2) || x10.2) || (s.b == 0)))) rfl (fun hc67=>?_) (fun hc67=>?_)))))))))))))
 rw [ite_t hc67] at hb26
 obtain ⟨b25,hb25,hb26⟩:=bind_some hb26
 refine fA 0 fa_76_0 rfl rfl (ldB 0 Z Tryz.isAgg3 rfl rfl rfl (L_eql rfl rfl rfl (mB rfl (L_split (d:=43) (b:=(s.kind == 7)) rfl (fun hc68=>?_) (fun hc68=>?_)))))
 rw [ite_t hc68] at hb25
 refine ps rfl (ps rfl (ps rfl (ps rfl (L_pick (v:=Bo b25) rfl rfl (congrArg Value.bool (so hb25)) (L_pick (v:=Bo b26) rfl rfl (congrArg Value.bool (so hb26)) (aB rfl (nn (rj hR27 ⟨rfl,(Star.keepN 0 Z)⟩))))))))
 rw [ite_f hc68] at hb25
 obtain ⟨x23,hx23,hb25⟩:=bind_some hb25
 refine fA 3 fa_76_3 rfl rfl (L_lda (cs:=[v0_3,I s.given.bound]) rfl Tryz.isAgg74 Tryz.sizeOf74 rfl (At.sub0 (Blk.at (Star.blkAt 0 Z rfl)) 3 2) rfl (L_bld rfl (parts0 ) (bld_74_  ) ?_))
 obtain ⟨H69b,l70,s71,z72,k73⟩:=Z.borrow
 refine L_call rfl Tryz.call72 (ops2 rfl rfl) (i_ConstraintSame_c (a:=s.given) (b:=({ terms:=[],bound:=0 } : Con)) s71 (RP.mono _ h0_3 l70) (rel_nil _ _ _) hx23) ?_
 rintro _ w74 ⟨rfl,Z⟩
 have Z:=k73 Z c0
 refine L_pick (v:=Bo b25) rfl rfl (congrArg Value.bool (so hb25)) (L_pick (v:=Bo b26) rfl rfl (congrArg Value.bool (so hb26)) (aB rfl (nn (rj hR27 ⟨rfl,(Star.keepN 0 Z)⟩))))
 rw [ite_f hc67] at hb26
 refine ps rfl (ps rfl (ps rfl (ps rfl (ps rfl (ps rfl (ps rfl (ps rfl (ps rfl (L_pick (v:=Bo b26) rfl rfl (congrArg Value.bool (so hb26)) (aB rfl (nn (rj hR27 ⟨rfl,(Star.keepN 0 Z)⟩))))))))))))
 refine fA 1 fa_76_1 rfl rfl (ldB 0 Z Tryz.isAgg3 rfl rfl rfl (L_eql rfl rfl rfl (L_pick (v:=Bo (((decide (x10.1 > 0)) || (s.kind == 6)) || (s.a == 0))) rfl rfl (or_f hc30 rfl) (L_pick (v:=Bo ((decide (x10.1 ≥ 0)) && (((decide (x10.1 > 0)) || (s.kind == 6)) || (s.a == 0)))) rfl rfl (and_t hc28 rfl) (mB rfl (L_split (d:=27) (b:=((decide (x10.1 ≥ 0)) && (((decide (x10.1 > 0)) || (s.kind == 6)) || (s.a == 0)))) rfl (fun hc75=>?_) (fun hc75=>?_)))))))
 refine mI rfl (L_eql rfl rfl rfl (mB rfl (L_split (d:=30) (b:=(x10.1 == 2)) rfl (fun hc76=>?_) (fun hc76=>?_))))
 refine ps rfl (L_pick (v:=Bo ((x10.1 == 2) || x10.2)) rfl rfl (or_t hc76) (mB rfl (L_split (d:=33) (b:=((x10.1 == 2) || x10.2)) rfl (fun hc77=>?_) (fun hc77=>?_))))
 refine ps rfl (ps rfl (ps rfl (L_pick (v:=Bo (((x10.1 == 2) || x10.2) || (s.b == 0))) rfl rfl (or_t hc77) (L_pick (v:=Bo (((decide (x10.1 ≥ 0)) && (((decide (x10.1 > 0)) || (s.kind == 6)) || (s.a == 0))) && (((x10.1 == 2) || x10.2) || (s.b == 0)))) rfl rfl (and_t hc75 rfl) (mB rfl (L_split (d:=39) (b:=(((decide (x10.1 ≥ 0)) && (((decide (x10.1 > 0)) || (s.kind == 6)) || (s.a == 0))) && (((x10.1 == 2) || x10.2) || (s.b == 0)))) rfl (fun hc78=>?_) (fun hc78=>?_)))))))
 rw [ite_t hc78] at hb26
 obtain ⟨b25,hb25,hb26⟩:=bind_some hb26
 refine fA 0 fa_76_0 rfl rfl (ldB 0 Z Tryz.isAgg3 rfl rfl rfl (L_eql rfl rfl rfl (mB rfl (L_split (d:=43) (b:=(s.kind == 7)) rfl (fun hc79=>?_) (fun hc79=>?_)))))
 rw [ite_t hc79] at hb25
 refine ps rfl (ps rfl (ps rfl (ps rfl (L_pick (v:=Bo b25) rfl rfl (congrArg Value.bool (so hb25)) (L_pick (v:=Bo b26) rfl rfl (congrArg Value.bool (so hb26)) (aB rfl (nn (rj hR27 ⟨rfl,(Star.keepN 0 Z)⟩))))))))
 rw [ite_f hc79] at hb25
 obtain ⟨x23,hx23,hb25⟩:=bind_some hb25
 refine fA 3 fa_76_3 rfl rfl (L_lda (cs:=[v0_3,I s.given.bound]) rfl Tryz.isAgg74 Tryz.sizeOf74 rfl (At.sub0 (Blk.at (Star.blkAt 0 Z rfl)) 3 2) rfl (L_bld rfl (parts0 ) (bld_74_  ) ?_))
 obtain ⟨H80b,l81,s82,z83,k84⟩:=Z.borrow
 refine L_call rfl Tryz.call72 (ops2 rfl rfl) (i_ConstraintSame_c (a:=s.given) (b:=({ terms:=[],bound:=0 } : Con)) s82 (RP.mono _ h0_3 l81) (rel_nil _ _ _) hx23) ?_
 rintro _ w85 ⟨rfl,Z⟩
 have Z:=k84 Z c0
 refine L_pick (v:=Bo b25) rfl rfl (congrArg Value.bool (so hb25)) (L_pick (v:=Bo b26) rfl rfl (congrArg Value.bool (so hb26)) (aB rfl (nn (rj hR27 ⟨rfl,(Star.keepN 0 Z)⟩))))
 rw [ite_f hc78] at hb26
 refine ps rfl (ps rfl (ps rfl (ps rfl (ps rfl (ps rfl (ps rfl (ps rfl (ps rfl (L_pick (v:=Bo b26) rfl rfl (congrArg Value.bool (so hb26)) (aB rfl (nn (rj hR27 ⟨rfl,(Star.keepN 0 Z)⟩))))))))))))
 refine fA 2 fa_76_2 rfl rfl (ldB 0 Z Tryz.isAgg3 rfl rfl rfl (L_eql rfl rfl rfl (L_pick (v:=Bo (((x10.1 == 2) || x10.2) || (s.b == 0))) rfl rfl (or_f hc77 rfl) (L_pick (v:=Bo (((decide (x10.1 ≥ 0)) && (((decide (x10.1 > 0)) || (s.kind == 6)) || (s.a == 0))) && (((x10.1 == 2) || x10.2) || (s.b == 0)))) rfl rfl (and_t hc75 rfl) (mB rfl (L_split (d:=39) (b:=(((decide (x10.1 ≥ 0)) && (((decide (x10.1 > 0)) || (s.kind == 6)) || (s.a == 0))) && (((x10.1 == 2) || x10.2) || (s.b == 0)))) rfl (fun hc86=>?_) (fun hc86=>?_)))))))
 rw [ite_t hc86] at hb26
 obtain ⟨b25,hb25,hb26⟩:=bind_some hb26
 refine fA 0 fa_76_0 rfl rfl (ldB 0 Z Tryz.isAgg3 rfl rfl rfl (L_eql rfl rfl rfl (mB rfl (L_split (d:=43) (b:=(s.kind == 7)) rfl (fun hc87=>?_) (fun hc87=>?_)))))
 rw [ite_t hc87] at hb25
 refine ps rfl (ps rfl (ps rfl (ps rfl (L_pick (v:=Bo b25) rfl rfl (congrArg Value.bool (so hb25)) (L_pick (v:=Bo b26) rfl rfl (congrArg Value.bool (so hb26)) (aB rfl (nn (rj hR27 ⟨rfl,(Star.keepN 0 Z)⟩))))))))
 rw [ite_f hc87] at hb25
 obtain ⟨x23,hx23,hb25⟩:=bind_some hb25
 refine fA 3 fa_76_3 rfl rfl (L_lda (cs:=[v0_3,I s.given.bound]) rfl Tryz.isAgg74 Tryz.sizeOf74 rfl (At.sub0 (Blk.at (Star.blkAt 0 Z rfl)) 3 2) rfl (L_bld rfl (parts0 ) (bld_74_  ) ?_))
 obtain ⟨H88b,l89,s90,z91,k92⟩:=Z.borrow
 refine L_call rfl Tryz.call72 (ops2 rfl rfl) (i_ConstraintSame_c (a:=s.given) (b:=({ terms:=[],bound:=0 } : Con)) s90 (RP.mono _ h0_3 l89) (rel_nil _ _ _) hx23) ?_
 rintro _ w93 ⟨rfl,Z⟩
 have Z:=k92 Z c0
 refine L_pick (v:=Bo b25) rfl rfl (congrArg Value.bool (so hb25)) (L_pick (v:=Bo b26) rfl rfl (congrArg Value.bool (so hb26)) (aB rfl (nn (rj hR27 ⟨rfl,(Star.keepN 0 Z)⟩))))
 rw [ite_f hc86] at hb26
 refine ps rfl (ps rfl (ps rfl (ps rfl (ps rfl (ps rfl (ps rfl (ps rfl (ps rfl (L_pick (v:=Bo b26) rfl rfl (congrArg Value.bool (so hb26)) (aB rfl (nn (rj hR27 ⟨rfl,(Star.keepN 0 Z)⟩))))))))))))
 refine mB rfl (L_pick (v:=Bo ((x10.1 == 2) || x10.2)) rfl rfl (or_f hc76 rfl) (mB rfl (L_split (d:=33) (b:=((x10.1 == 2) || x10.2)) rfl (fun hc94=>?_) (fun hc94=>?_))))
 refine ps rfl (ps rfl (ps rfl (L_pick (v:=Bo (((x10.1 == 2) || x10.2) || (s.b == 0))) rfl rfl (or_t hc94) (L_pick (v:=Bo (((decide (x10.1 ≥ 0)) && (((decide (x10.1 > 0)) || (s.kind == 6)) || (s.a == 0))) && (((x10.1 == 2) || x10.2) || (s.b == 0)))) rfl rfl (and_t hc75 rfl) (mB rfl (L_split (d:=39) (b:=(((decide (x10.1 ≥ 0)) && (((decide (x10.1 > 0)) || (s.kind == 6)) || (s.a == 0))) && (((x10.1 == 2) || x10.2) || (s.b == 0)))) rfl (fun hc95=>?_) (fun hc95=>?_)))))))
 rw [ite_t hc95] at hb26
 obtain ⟨b25,hb25,hb26⟩:=bind_some hb26
 refine fA 0 fa_76_0 rfl rfl (ldB 0 Z Tryz.isAgg3 rfl rfl rfl (L_eql rfl rfl rfl (mB rfl (L_split (d:=43) (b:=(s.kind == 7)) rfl (fun hc96=>?_) (fun hc96=>?_)))))
 rw [ite_t hc96] at hb25
 refine ps rfl (ps rfl (ps rfl (ps rfl (L_pick (v:=Bo b25) rfl rfl (congrArg Value.bool (so hb25)) (L_pick (v:=Bo b26) rfl rfl (congrArg Value.bool (so hb26)) (aB rfl (nn (rj hR27 ⟨rfl,(Star.keepN 0 Z)⟩))))))))
 rw [ite_f hc96] at hb25
 obtain ⟨x23,hx23,hb25⟩:=bind_some hb25
 refine fA 3 fa_76_3 rfl rfl (L_lda (cs:=[v0_3,I s.given.bound]) rfl Tryz.isAgg74 Tryz.sizeOf74 rfl (At.sub0 (Blk.at (Star.blkAt 0 Z rfl)) 3 2) rfl (L_bld rfl (parts0 ) (bld_74_  ) ?_))
 obtain ⟨H97b,l98,s99,z100,k101⟩:=Z.borrow
 refine L_call rfl Tryz.call72 (ops2 rfl rfl) (i_ConstraintSame_c (a:=s.given) (b:=({ terms:=[],bound:=0 } : Con)) s99 (RP.mono _ h0_3 l98) (rel_nil _ _ _) hx23) ?_
 rintro _ w102 ⟨rfl,Z⟩
 have Z:=k101 Z c0
 refine L_pick (v:=Bo b25) rfl rfl (congrArg Value.bool (so hb25)) (L_pick (v:=Bo b26) rfl rfl (congrArg Value.bool (so hb26)) (aB rfl (nn (rj hR27 ⟨rfl,(Star.keepN 0 Z)⟩))))
 rw [ite_f hc95] at hb26
 refine ps rfl (ps rfl (ps rfl (ps rfl (ps rfl (ps rfl (ps rfl (ps rfl (ps rfl (L_pick (v:=Bo b26) rfl rfl (congrArg Value.bool (so hb26)) (aB rfl (nn (rj hR27 ⟨rfl,(Star.keepN 0 Z)⟩))))))))))))
 refine fA 2 fa_76_2 rfl rfl (ldB 0 Z Tryz.isAgg3 rfl rfl rfl (L_eql rfl rfl rfl (L_pick (v:=Bo (((x10.1 == 2) || x10.2) || (s.b == 0))) rfl rfl (or_f hc94 rfl) (L_pick (v:=Bo (((decide (x10.1 ≥ 0)) && (((decide (x10.1 > 0)) || (s.kind == 6)) || (s.a == 0))) && (((x10.1 == 2) || x10.2) || (s.b == 0)))) rfl rfl (and_t hc75 rfl) (mB rfl (L_split (d:=39) (b:=(((decide (x10.1 ≥ 0)) && (((decide (x10.1 > 0)) || (s.kind == 6)) || (s.a == 0))) && (((x10.1 == 2) || x10.2) || (s.b == 0)))) rfl (fun hc103=>?_) (fun hc103=>?_)))))))
 rw [ite_t hc103] at hb26
 obtain ⟨b25,hb25,hb26⟩:=bind_some hb26
 refine fA 0 fa_76_0 rfl rfl (ldB 0 Z Tryz.isAgg3 rfl rfl rfl (L_eql rfl rfl rfl (mB rfl (L_split (d:=43) (b:=(s.kind == 7)) rfl (fun hc104=>?_) (fun hc104=>?_)))))
 rw [ite_t hc104] at hb25
 refine ps rfl (ps rfl (ps rfl (ps rfl (L_pick (v:=Bo b25) rfl rfl (congrArg Value.bool (so hb25)) (L_pick (v:=Bo b26) rfl rfl (congrArg Value.bool (so hb26)) (aB rfl (nn (rj hR27 ⟨rfl,(Star.keepN 0 Z)⟩))))))))
 rw [ite_f hc104] at hb25
 obtain ⟨x23,hx23,hb25⟩:=bind_some hb25
 refine fA 3 fa_76_3 rfl rfl (L_lda (cs:=[v0_3,I s.given.bound]) rfl Tryz.isAgg74 Tryz.sizeOf74 rfl (At.sub0 (Blk.at (Star.blkAt 0 Z rfl)) 3 2) rfl (L_bld rfl (parts0 ) (bld_74_  ) ?_))
 obtain ⟨H105b,l106,s107,z108,k109⟩:=Z.borrow
 refine L_call rfl Tryz.call72 (ops2 rfl rfl) (i_ConstraintSame_c (a:=s.given) (b:=({ terms:=[],bound:=0 } : Con)) s107 (RP.mono _ h0_3 l106) (rel_nil _ _ _) hx23) ?_
 rintro _ w110 ⟨rfl,Z⟩
 have Z:=k109 Z c0
 refine L_pick (v:=Bo b25) rfl rfl (congrArg Value.bool (so hb25)) (L_pick (v:=Bo b26) rfl rfl (congrArg Value.bool (so hb26)) (aB rfl (nn (rj hR27 ⟨rfl,(Star.keepN 0 Z)⟩))))
 rw [ite_f hc103] at hb26
 refine ps rfl (ps rfl (ps rfl (ps rfl (ps rfl (ps rfl (ps rfl (ps rfl (ps rfl (L_pick (v:=Bo b26) rfl rfl (congrArg Value.bool (so hb26)) (aB rfl (nn (rj hR27 ⟨rfl,(Star.keepN 0 Z)⟩))))))))))))
 refine ps rfl (ps rfl (ps rfl (ps rfl (ps rfl (ps rfl (ps rfl (ps rfl (ps rfl (ps rfl (L_pick (v:=Bo (((decide (x10.1 ≥ 0)) && (((decide (x10.1 > 0)) || (s.kind == 6)) || (s.a == 0))) && (((x10.1 == 2) || x10.2) || (s.b == 0)))) rfl rfl (and_f hc75) (mB rfl (L_split (d:=39) (b:=(((decide (x10.1 ≥ 0)) && (((decide (x10.1 > 0)) || (s.kind == 6)) || (s.a == 0))) && (((x10.1 == 2) || x10.2) || (s.b == 0)))) rfl (fun hc111=>?_) (fun hc111=>?_)))))))))))))
 rw [ite_t hc111] at hb26
 obtain ⟨b25,hb25,hb26⟩:=bind_some hb26
 refine fA 0 fa_76_0 rfl rfl (ldB 0 Z Tryz.isAgg3 rfl rfl rfl (L_eql rfl rfl rfl (mB rfl (L_split (d:=43) (b:=(s.kind == 7)) rfl (fun hc112=>?_) (fun hc112=>?_)))))
 rw [ite_t hc112] at hb25
 refine ps rfl (ps rfl (ps rfl (ps rfl (L_pick (v:=Bo b25) rfl rfl (congrArg Value.bool (so hb25)) (L_pick (v:=Bo b26) rfl rfl (congrArg Value.bool (so hb26)) (aB rfl (nn (rj hR27 ⟨rfl,(Star.keepN 0 Z)⟩))))))))
 rw [ite_f hc112] at hb25
 obtain ⟨x23,hx23,hb25⟩:=bind_some hb25
 refine fA 3 fa_76_3 rfl rfl (L_lda (cs:=[v0_3,I s.given.bound]) rfl Tryz.isAgg74 Tryz.sizeOf74 rfl (At.sub0 (Blk.at (Star.blkAt 0 Z rfl)) 3 2) rfl (L_bld rfl (parts0 ) (bld_74_  ) ?_))
 obtain ⟨H113b,l114,s115,z116,k117⟩:=Z.borrow
 refine L_call rfl Tryz.call72 (ops2 rfl rfl) (i_ConstraintSame_c (a:=s.given) (b:=({ terms:=[],bound:=0 } : Con)) s115 (RP.mono _ h0_3 l114) (rel_nil _ _ _) hx23) ?_
 rintro _ w118 ⟨rfl,Z⟩
 have Z:=k117 Z c0
 refine L_pick (v:=Bo b25) rfl rfl (congrArg Value.bool (so hb25)) (L_pick (v:=Bo b26) rfl rfl (congrArg Value.bool (so hb26)) (aB rfl (nn (rj hR27 ⟨rfl,(Star.keepN 0 Z)⟩))))
 rw [ite_f hc111] at hb26
 refine ps rfl (ps rfl (ps rfl (ps rfl (ps rfl (ps rfl (ps rfl (ps rfl (ps rfl (L_pick (v:=Bo b26) rfl rfl (congrArg Value.bool (so hb26)) (aB rfl (nn (rj hR27 ⟨rfl,(Star.keepN 0 Z)⟩))))))))))))
 refine fA 0 fa_76_0 rfl rfl (ldB 0 Z Tryz.isAgg3 rfl rfl rfl (L_eql rfl rfl rfl (L_pick (v:=Bo ((decide (x10.1 > 0)) || (s.kind == 6))) rfl rfl (or_f hc29 rfl) (mB rfl (L_split (d:=21) (b:=((decide (x10.1 > 0)) || (s.kind == 6))) rfl (fun hc119=>?_) (fun hc119=>?_))))))
 refine ps rfl (ps rfl (ps rfl (L_pick (v:=Bo (((decide (x10.1 > 0)) || (s.kind == 6)) || (s.a == 0))) rfl rfl (or_t hc119) (L_pick (v:=Bo ((decide (x10.1 ≥ 0)) && (((decide (x10.1 > 0)) || (s.kind == 6)) || (s.a == 0)))) rfl rfl (and_t hc28 rfl) (mB rfl (L_split (d:=27) (b:=((decide (x10.1 ≥ 0)) && (((decide (x10.1 > 0)) || (s.kind == 6)) || (s.a == 0)))) rfl (fun hc120=>?_) (fun hc120=>?_)))))))
 refine mI rfl (L_eql rfl rfl rfl (mB rfl (L_split (d:=30) (b:=(x10.1 == 2)) rfl (fun hc121=>?_) (fun hc121=>?_))))
 refine ps rfl (L_pick (v:=Bo ((x10.1 == 2) || x10.2)) rfl rfl (or_t hc121) (mB rfl (L_split (d:=33) (b:=((x10.1 == 2) || x10.2)) rfl (fun hc122=>?_) (fun hc122=>?_))))
 refine ps rfl (ps rfl (ps rfl (L_pick (v:=Bo (((x10.1 == 2) || x10.2) || (s.b == 0))) rfl rfl (or_t hc122) (L_pick (v:=Bo (((decide (x10.1 ≥ 0)) && (((decide (x10.1 > 0)) || (s.kind == 6)) || (s.a == 0))) && (((x10.1 == 2) || x10.2) || (s.b == 0)))) rfl rfl (and_t hc120 rfl) (mB rfl (L_split (d:=39) (b:=(((decide (x10.1 ≥ 0)) && (((decide (x10.1 > 0)) || (s.kind == 6)) || (s.a == 0))) && (((x10.1 == 2) || x10.2) || (s.b == 0)))) rfl (fun hc123=>?_) (fun hc123=>?_)))))))
 rw [ite_t hc123] at hb26
 obtain ⟨b25,hb25,hb26⟩:=bind_some hb26
 refine fA 0 fa_76_0 rfl rfl (ldB 0 Z Tryz.isAgg3 rfl rfl rfl (L_eql rfl rfl rfl (mB rfl (L_split (d:=43) (b:=(s.kind == 7)) rfl (fun hc124=>?_) (fun hc124=>?_)))))
 rw [ite_t hc124] at hb25
 refine ps rfl (ps rfl (ps rfl (ps rfl (L_pick (v:=Bo b25) rfl rfl (congrArg Value.bool (so hb25)) (L_pick (v:=Bo b26) rfl rfl (congrArg Value.bool (so hb26)) (aB rfl (nn (rj hR27 ⟨rfl,(Star.keepN 0 Z)⟩))))))))
 rw [ite_f hc124] at hb25
 obtain ⟨x23,hx23,hb25⟩:=bind_some hb25
 refine fA 3 fa_76_3 rfl rfl (L_lda (cs:=[v0_3,I s.given.bound]) rfl Tryz.isAgg74 Tryz.sizeOf74 rfl (At.sub0 (Blk.at (Star.blkAt 0 Z rfl)) 3 2) rfl (L_bld rfl (parts0 ) (bld_74_  ) ?_))
 obtain ⟨H125b,l126,s127,z128,k129⟩:=Z.borrow
 refine L_call rfl Tryz.call72 (ops2 rfl rfl) (i_ConstraintSame_c (a:=s.given) (b:=({ terms:=[],bound:=0 } : Con)) s127 (RP.mono _ h0_3 l126) (rel_nil _ _ _) hx23) ?_
 rintro _ w130 ⟨rfl,Z⟩
 have Z:=k129 Z c0
 refine L_pick (v:=Bo b25) rfl rfl (congrArg Value.bool (so hb25)) (L_pick (v:=Bo b26) rfl rfl (congrArg Value.bool (so hb26)) (aB rfl (nn (rj hR27 ⟨rfl,(Star.keepN 0 Z)⟩))))
 rw [ite_f hc123] at hb26
 refine ps rfl (ps rfl (ps rfl (ps rfl (ps rfl (ps rfl (ps rfl (ps rfl (ps rfl (L_pick (v:=Bo b26) rfl rfl (congrArg Value.bool (so hb26)) (aB rfl (nn (rj hR27 ⟨rfl,(Star.keepN 0 Z)⟩))))))))))))
 refine fA 2 fa_76_2 rfl rfl (ldB 0 Z Tryz.isAgg3 rfl rfl rfl (L_eql rfl rfl rfl (L_pick (v:=Bo (((x10.1 == 2) || x10.2) || (s.b == 0))) rfl rfl (or_f hc122 rfl) (L_pick (v:=Bo (((decide (x10.1 ≥ 0)) && (((decide (x10.1 > 0)) || (s.kind == 6)) || (s.a == 0))) && (((x10.1 == 2) || x10.2) || (s.b == 0)))) rfl rfl (and_t hc120 rfl) (mB rfl (L_split (d:=39) (b:=(((decide (x10.1 ≥ 0)) && (((decide (x10.1 > 0)) || (s.kind == 6)) || (s.a == 0))) && (((x10.1 == 2) || x10.2) || (s.b == 0)))) rfl (fun hc131=>?_) (fun hc131=>?_)))))))
 rw [ite_t hc131] at hb26
 obtain ⟨b25,hb25,hb26⟩:=bind_some hb26
 refine fA 0 fa_76_0 rfl rfl (ldB 0 Z Tryz.isAgg3 rfl rfl rfl (L_eql rfl rfl rfl (mB rfl (L_split (d:=43) (b:=(s.kind == 7)) rfl (fun hc132=>?_) (fun hc132=>?_)))))
 rw [ite_t hc132] at hb25
 refine ps rfl (ps rfl (ps rfl (ps rfl (L_pick (v:=Bo b25) rfl rfl (congrArg Value.bool (so hb25)) (L_pick (v:=Bo b26) rfl rfl (congrArg Value.bool (so hb26)) (aB rfl (nn (rj hR27 ⟨rfl,(Star.keepN 0 Z)⟩))))))))
 rw [ite_f hc132] at hb25
 obtain ⟨x23,hx23,hb25⟩:=bind_some hb25
 refine fA 3 fa_76_3 rfl rfl (L_lda (cs:=[v0_3,I s.given.bound]) rfl Tryz.isAgg74 Tryz.sizeOf74 rfl (At.sub0 (Blk.at (Star.blkAt 0 Z rfl)) 3 2) rfl (L_bld rfl (parts0 ) (bld_74_  ) ?_))
 obtain ⟨H133b,l134,s135,z136,k137⟩:=Z.borrow
 refine L_call rfl Tryz.call72 (ops2 rfl rfl) (i_ConstraintSame_c (a:=s.given) (b:=({ terms:=[],bound:=0 } : Con)) s135 (RP.mono _ h0_3 l134) (rel_nil _ _ _) hx23) ?_
 rintro _ w138 ⟨rfl,Z⟩
 have Z:=k137 Z c0
 refine L_pick (v:=Bo b25) rfl rfl (congrArg Value.bool (so hb25)) (L_pick (v:=Bo b26) rfl rfl (congrArg Value.bool (so hb26)) (aB rfl (nn (rj hR27 ⟨rfl,(Star.keepN 0 Z)⟩))))
 rw [ite_f hc131] at hb26
 refine ps rfl (ps rfl (ps rfl (ps rfl (ps rfl (ps rfl (ps rfl (ps rfl (ps rfl (L_pick (v:=Bo b26) rfl rfl (congrArg Value.bool (so hb26)) (aB rfl (nn (rj hR27 ⟨rfl,(Star.keepN 0 Z)⟩))))))))))))
 refine mB rfl (L_pick (v:=Bo ((x10.1 == 2) || x10.2)) rfl rfl (or_f hc121 rfl) (mB rfl (L_split (d:=33) (b:=((x10.1 == 2) || x10.2)) rfl (fun hc139=>?_) (fun hc139=>?_))))
 refine ps rfl (ps rfl (ps rfl (L_pick (v:=Bo (((x10.1 == 2) || x10.2) || (s.b == 0))) rfl rfl (or_t hc139) (L_pick (v:=Bo (((decide (x10.1 ≥ 0)) && (((decide (x10.1 > 0)) || (s.kind == 6)) || (s.a == 0))) && (((x10.1 == 2) || x10.2) || (s.b == 0)))) rfl rfl (and_t hc120 rfl) (mB rfl (L_split (d:=39) (b:=(((decide (x10.1 ≥ 0)) && (((decide (x10.1 > 0)) || (s.kind == 6)) || (s.a == 0))) && (((x10.1 == 2) || x10.2) || (s.b == 0)))) rfl (fun hc140=>?_) (fun hc140=>?_)))))))
 rw [ite_t hc140] at hb26
 obtain ⟨b25,hb25,hb26⟩:=bind_some hb26
 refine fA 0 fa_76_0 rfl rfl (ldB 0 Z Tryz.isAgg3 rfl rfl rfl (L_eql rfl rfl rfl (mB rfl (L_split (d:=43) (b:=(s.kind == 7)) rfl (fun hc141=>?_) (fun hc141=>?_)))))
 rw [ite_t hc141] at hb25
 refine ps rfl (ps rfl (ps rfl (ps rfl (L_pick (v:=Bo b25) rfl rfl (congrArg Value.bool (so hb25)) (L_pick (v:=Bo b26) rfl rfl (congrArg Value.bool (so hb26)) (aB rfl (nn (rj hR27 ⟨rfl,(Star.keepN 0 Z)⟩))))))))
 rw [ite_f hc141] at hb25
 obtain ⟨x23,hx23,hb25⟩:=bind_some hb25
 refine fA 3 fa_76_3 rfl rfl (L_lda (cs:=[v0_3,I s.given.bound]) rfl Tryz.isAgg74 Tryz.sizeOf74 rfl (At.sub0 (Blk.at (Star.blkAt 0 Z rfl)) 3 2) rfl (L_bld rfl (parts0 ) (bld_74_  ) ?_))
 obtain ⟨H142b,l143,s144,z145,k146⟩:=Z.borrow
 refine L_call rfl Tryz.call72 (ops2 rfl rfl) (i_ConstraintSame_c (a:=s.given) (b:=({ terms:=[],bound:=0 } : Con)) s144 (RP.mono _ h0_3 l143) (rel_nil _ _ _) hx23) ?_
 rintro _ w147 ⟨rfl,Z⟩
 have Z:=k146 Z c0
 refine L_pick (v:=Bo b25) rfl rfl (congrArg Value.bool (so hb25)) (L_pick (v:=Bo b26) rfl rfl (congrArg Value.bool (so hb26)) (aB rfl (nn (rj hR27 ⟨rfl,(Star.keepN 0 Z)⟩))))
 rw [ite_f hc140] at hb26
 refine ps rfl (ps rfl (ps rfl (ps rfl (ps rfl (ps rfl (ps rfl (ps rfl (ps rfl (L_pick (v:=Bo b26) rfl rfl (congrArg Value.bool (so hb26)) (aB rfl (nn (rj hR27 ⟨rfl,(Star.keepN 0 Z)⟩))))))))))))
 refine fA 2 fa_76_2 rfl rfl (ldB 0 Z Tryz.isAgg3 rfl rfl rfl (L_eql rfl rfl rfl (L_pick (v:=Bo (((x10.1 == 2) || x10.2) || (s.b == 0))) rfl rfl (or_f hc139 rfl) (L_pick (v:=Bo (((decide (x10.1 ≥ 0)) && (((decide (x10.1 > 0)) || (s.kind == 6)) || (s.a == 0))) && (((x10.1 == 2) || x10.2) || (s.b == 0)))) rfl rfl (and_t hc120 rfl) (mB rfl (L_split (d:=39) (b:=(((decide (x10.1 ≥ 0)) && (((decide (x10.1 > 0)) || (s.kind == 6)) || (s.a == 0))) && (((x10.1 == 2) || x10.2) || (s.b == 0)))) rfl (fun hc148=>?_) (fun hc148=>?_)))))))
 rw [ite_t hc148] at hb26
 obtain ⟨b25,hb25,hb26⟩:=bind_some hb26
 refine fA 0 fa_76_0 rfl rfl (ldB 0 Z Tryz.isAgg3 rfl rfl rfl (L_eql rfl rfl rfl (mB rfl (L_split (d:=43) (b:=(s.kind == 7)) rfl (fun hc149=>?_) (fun hc149=>?_)))))
 rw [ite_t hc149] at hb25
 refine ps rfl (ps rfl (ps rfl (ps rfl (L_pick (v:=Bo b25) rfl rfl (congrArg Value.bool (so hb25)) (L_pick (v:=Bo b26) rfl rfl (congrArg Value.bool (so hb26)) (aB rfl (nn (rj hR27 ⟨rfl,(Star.keepN 0 Z)⟩))))))))
 rw [ite_f hc149] at hb25
 obtain ⟨x23,hx23,hb25⟩:=bind_some hb25
 refine fA 3 fa_76_3 rfl rfl (L_lda (cs:=[v0_3,I s.given.bound]) rfl Tryz.isAgg74 Tryz.sizeOf74 rfl (At.sub0 (Blk.at (Star.blkAt 0 Z rfl)) 3 2) rfl (L_bld rfl (parts0 ) (bld_74_  ) ?_))
 obtain ⟨H150b,l151,s152,z153,k154⟩:=Z.borrow
 refine L_call rfl Tryz.call72 (ops2 rfl rfl) (i_ConstraintSame_c (a:=s.given) (b:=({ terms:=[],bound:=0 } : Con)) s152 (RP.mono _ h0_3 l151) (rel_nil _ _ _) hx23) ?_
 rintro _ w155 ⟨rfl,Z⟩
 have Z:=k154 Z c0
 refine L_pick (v:=Bo b25) rfl rfl (congrArg Value.bool (so hb25)) (L_pick (v:=Bo b26) rfl rfl (congrArg Value.bool (so hb26)) (aB rfl (nn (rj hR27 ⟨rfl,(Star.keepN 0 Z)⟩))))
 rw [ite_f hc148] at hb26
 refine ps rfl (ps rfl (ps rfl (ps rfl (ps rfl (ps rfl (ps rfl (ps rfl (ps rfl (L_pick (v:=Bo b26) rfl rfl (congrArg Value.bool (so hb26)) (aB rfl (nn (rj hR27 ⟨rfl,(Star.keepN 0 Z)⟩))))))))))))
 refine ps rfl (ps rfl (ps rfl (ps rfl (ps rfl (ps rfl (ps rfl (ps rfl (ps rfl (ps rfl (L_pick (v:=Bo (((decide (x10.1 ≥ 0)) && (((decide (x10.1 > 0)) || (s.kind == 6)) || (s.a == 0))) && (((x10.1 == 2) || x10.2) || (s.b == 0)))) rfl rfl (and_f hc120) (mB rfl (L_split (d:=39) (b:=(((decide (x10.1 ≥ 0)) && (((decide (x10.1 > 0)) || (s.kind == 6)) || (s.a == 0))) && (((x10.1 == 2) || x10.2) || (s.b == 0)))) rfl (fun hc156=>?_) (fun hc156=>?_)))))))))))))
 rw [ite_t hc156] at hb26
 obtain ⟨b25,hb25,hb26⟩:=bind_some hb26
 refine fA 0 fa_76_0 rfl rfl (ldB 0 Z Tryz.isAgg3 rfl rfl rfl (L_eql rfl rfl rfl (mB rfl (L_split (d:=43) (b:=(s.kind == 7)) rfl (fun hc157=>?_) (fun hc157=>?_)))))
 rw [ite_t hc157] at hb25
 refine ps rfl (ps rfl (ps rfl (ps rfl (L_pick (v:=Bo b25) rfl rfl (congrArg Value.bool (so hb25)) (L_pick (v:=Bo b26) rfl rfl (congrArg Value.bool (so hb26)) (aB rfl (nn (rj hR27 ⟨rfl,(Star.keepN 0 Z)⟩))))))))
 rw [ite_f hc157] at hb25
 obtain ⟨x23,hx23,hb25⟩:=bind_some hb25
 refine fA 3 fa_76_3 rfl rfl (L_lda (cs:=[v0_3,I s.given.bound]) rfl Tryz.isAgg74 Tryz.sizeOf74 rfl (At.sub0 (Blk.at (Star.blkAt 0 Z rfl)) 3 2) rfl (L_bld rfl (parts0 ) (bld_74_  ) ?_))
 obtain ⟨H158b,l159,s160,z161,k162⟩:=Z.borrow
 refine L_call rfl Tryz.call72 (ops2 rfl rfl) (i_ConstraintSame_c (a:=s.given) (b:=({ terms:=[],bound:=0 } : Con)) s160 (RP.mono _ h0_3 l159) (rel_nil _ _ _) hx23) ?_
 rintro _ w163 ⟨rfl,Z⟩
 have Z:=k162 Z c0
 refine L_pick (v:=Bo b25) rfl rfl (congrArg Value.bool (so hb25)) (L_pick (v:=Bo b26) rfl rfl (congrArg Value.bool (so hb26)) (aB rfl (nn (rj hR27 ⟨rfl,(Star.keepN 0 Z)⟩))))
 rw [ite_f hc156] at hb26
 refine ps rfl (ps rfl (ps rfl (ps rfl (ps rfl (ps rfl (ps rfl (ps rfl (ps rfl (L_pick (v:=Bo b26) rfl rfl (congrArg Value.bool (so hb26)) (aB rfl (nn (rj hR27 ⟨rfl,(Star.keepN 0 Z)⟩))))))))))))
 refine fA 1 fa_76_1 rfl rfl (ldB 0 Z Tryz.isAgg3 rfl rfl rfl (L_eql rfl rfl rfl (L_pick (v:=Bo (((decide (x10.1 > 0)) || (s.kind == 6)) || (s.a == 0))) rfl rfl (or_f hc119 rfl) (L_pick (v:=Bo ((decide (x10.1 ≥ 0)) && (((decide (x10.1 > 0)) || (s.kind == 6)) || (s.a == 0)))) rfl rfl (and_t hc28 rfl) (mB rfl (L_split (d:=27) (b:=((decide (x10.1 ≥ 0)) && (((decide (x10.1 > 0)) || (s.kind == 6)) || (s.a == 0)))) rfl (fun hc164=>?_) (fun hc164=>?_)))))))
 refine mI rfl (L_eql rfl rfl rfl (mB rfl (L_split (d:=30) (b:=(x10.1 == 2)) rfl (fun hc165=>?_) (fun hc165=>?_))))
 refine ps rfl (L_pick (v:=Bo ((x10.1 == 2) || x10.2)) rfl rfl (or_t hc165) (mB rfl (L_split (d:=33) (b:=((x10.1 == 2) || x10.2)) rfl (fun hc166=>?_) (fun hc166=>?_))))
 refine ps rfl (ps rfl (ps rfl (L_pick (v:=Bo (((x10.1 == 2) || x10.2) || (s.b == 0))) rfl rfl (or_t hc166) (L_pick (v:=Bo (((decide (x10.1 ≥ 0)) && (((decide (x10.1 > 0)) || (s.kind == 6)) || (s.a == 0))) && (((x10.1 == 2) || x10.2) || (s.b == 0)))) rfl rfl (and_t hc164 rfl) (mB rfl (L_split (d:=39) (b:=(((decide (x10.1 ≥ 0)) && (((decide (x10.1 > 0)) || (s.kind == 6)) || (s.a == 0))) && (((x10.1 == 2) || x10.2) || (s.b == 0)))) rfl (fun hc167=>?_) (fun hc167=>?_)))))))
 rw [ite_t hc167] at hb26
 obtain ⟨b25,hb25,hb26⟩:=bind_some hb26
 refine fA 0 fa_76_0 rfl rfl (ldB 0 Z Tryz.isAgg3 rfl rfl rfl (L_eql rfl rfl rfl (mB rfl (L_split (d:=43) (b:=(s.kind == 7)) rfl (fun hc168=>?_) (fun hc168=>?_)))))
 rw [ite_t hc168] at hb25
 refine ps rfl (ps rfl (ps rfl (ps rfl (L_pick (v:=Bo b25) rfl rfl (congrArg Value.bool (so hb25)) (L_pick (v:=Bo b26) rfl rfl (congrArg Value.bool (so hb26)) (aB rfl (nn (rj hR27 ⟨rfl,(Star.keepN 0 Z)⟩))))))))
 rw [ite_f hc168] at hb25
 obtain ⟨x23,hx23,hb25⟩:=bind_some hb25
 refine fA 3 fa_76_3 rfl rfl (L_lda (cs:=[v0_3,I s.given.bound]) rfl Tryz.isAgg74 Tryz.sizeOf74 rfl (At.sub0 (Blk.at (Star.blkAt 0 Z rfl)) 3 2) rfl (L_bld rfl (parts0 ) (bld_74_  ) ?_))
 obtain ⟨H169b,l170,s171,z172,k173⟩:=Z.borrow
 refine L_call rfl Tryz.call72 (ops2 rfl rfl) (i_ConstraintSame_c (a:=s.given) (b:=({ terms:=[],bound:=0 } : Con)) s171 (RP.mono _ h0_3 l170) (rel_nil _ _ _) hx23) ?_
 rintro _ w174 ⟨rfl,Z⟩
 have Z:=k173 Z c0
 refine L_pick (v:=Bo b25) rfl rfl (congrArg Value.bool (so hb25)) (L_pick (v:=Bo b26) rfl rfl (congrArg Value.bool (so hb26)) (aB rfl (nn (rj hR27 ⟨rfl,(Star.keepN 0 Z)⟩))))
 rw [ite_f hc167] at hb26
 refine ps rfl (ps rfl (ps rfl (ps rfl (ps rfl (ps rfl (ps rfl (ps rfl (ps rfl (L_pick (v:=Bo b26) rfl rfl (congrArg Value.bool (so hb26)) (aB rfl (nn (rj hR27 ⟨rfl,(Star.keepN 0 Z)⟩))))))))))))
 refine fA 2 fa_76_2 rfl rfl (ldB 0 Z Tryz.isAgg3 rfl rfl rfl (L_eql rfl rfl rfl (L_pick (v:=Bo (((x10.1 == 2) || x10.2) || (s.b == 0))) rfl rfl (or_f hc166 rfl) (L_pick (v:=Bo (((decide (x10.1 ≥ 0)) && (((decide (x10.1 > 0)) || (s.kind == 6)) || (s.a == 0))) && (((x10.1 == 2) || x10.2) || (s.b == 0)))) rfl rfl (and_t hc164 rfl) (mB rfl (L_split (d:=39) (b:=(((decide (x10.1 ≥ 0)) && (((decide (x10.1 > 0)) || (s.kind == 6)) || (s.a == 0))) && (((x10.1 == 2) || x10.2) || (s.b == 0)))) rfl (fun hc175=>?_) (fun hc175=>?_)))))))
 rw [ite_t hc175] at hb26
 obtain ⟨b25,hb25,hb26⟩:=bind_some hb26
 refine fA 0 fa_76_0 rfl rfl (ldB 0 Z Tryz.isAgg3 rfl rfl rfl (L_eql rfl rfl rfl (mB rfl (L_split (d:=43) (b:=(s.kind == 7)) rfl (fun hc176=>?_) (fun hc176=>?_)))))
 rw [ite_t hc176] at hb25
 refine ps rfl (ps rfl (ps rfl (ps rfl (L_pick (v:=Bo b25) rfl rfl (congrArg Value.bool (so hb25)) (L_pick (v:=Bo b26) rfl rfl (congrArg Value.bool (so hb26)) (aB rfl (nn (rj hR27 ⟨rfl,(Star.keepN 0 Z)⟩))))))))
 rw [ite_f hc176] at hb25
 obtain ⟨x23,hx23,hb25⟩:=bind_some hb25
 refine fA 3 fa_76_3 rfl rfl (L_lda (cs:=[v0_3,I s.given.bound]) rfl Tryz.isAgg74 Tryz.sizeOf74 rfl (At.sub0 (Blk.at (Star.blkAt 0 Z rfl)) 3 2) rfl (L_bld rfl (parts0 ) (bld_74_  ) ?_))
 obtain ⟨H177b,l178,s179,z180,k181⟩:=Z.borrow
 refine L_call rfl Tryz.call72 (ops2 rfl rfl) (i_ConstraintSame_c (a:=s.given) (b:=({ terms:=[],bound:=0 } : Con)) s179 (RP.mono _ h0_3 l178) (rel_nil _ _ _) hx23) ?_
 rintro _ w182 ⟨rfl,Z⟩
 have Z:=k181 Z c0
 refine L_pick (v:=Bo b25) rfl rfl (congrArg Value.bool (so hb25)) (L_pick (v:=Bo b26) rfl rfl (congrArg Value.bool (so hb26)) (aB rfl (nn (rj hR27 ⟨rfl,(Star.keepN 0 Z)⟩))))
 rw [ite_f hc175] at hb26
 refine ps rfl (ps rfl (ps rfl (ps rfl (ps rfl (ps rfl (ps rfl (ps rfl (ps rfl (L_pick (v:=Bo b26) rfl rfl (congrArg Value.bool (so hb26)) (aB rfl (nn (rj hR27 ⟨rfl,(Star.keepN 0 Z)⟩))))))))))))
 refine mB rfl (L_pick (v:=Bo ((x10.1 == 2) || x10.2)) rfl rfl (or_f hc165 rfl) (mB rfl (L_split (d:=33) (b:=((x10.1 == 2) || x10.2)) rfl (fun hc183=>?_) (fun hc183=>?_))))
 refine ps rfl (ps rfl (ps rfl (L_pick (v:=Bo (((x10.1 == 2) || x10.2) || (s.b == 0))) rfl rfl (or_t hc183) (L_pick (v:=Bo (((decide (x10.1 ≥ 0)) && (((decide (x10.1 > 0)) || (s.kind == 6)) || (s.a == 0))) && (((x10.1 == 2) || x10.2) || (s.b == 0)))) rfl rfl (and_t hc164 rfl) (mB rfl (L_split (d:=39) (b:=(((decide (x10.1 ≥ 0)) && (((decide (x10.1 > 0)) || (s.kind == 6)) || (s.a == 0))) && (((x10.1 == 2) || x10.2) || (s.b == 0)))) rfl (fun hc184=>?_) (fun hc184=>?_)))))))
 rw [ite_t hc184] at hb26
 obtain ⟨b25,hb25,hb26⟩:=bind_some hb26
 refine fA 0 fa_76_0 rfl rfl (ldB 0 Z Tryz.isAgg3 rfl rfl rfl (L_eql rfl rfl rfl (mB rfl (L_split (d:=43) (b:=(s.kind == 7)) rfl (fun hc185=>?_) (fun hc185=>?_)))))
 rw [ite_t hc185] at hb25
 refine ps rfl (ps rfl (ps rfl (ps rfl (L_pick (v:=Bo b25) rfl rfl (congrArg Value.bool (so hb25)) (L_pick (v:=Bo b26) rfl rfl (congrArg Value.bool (so hb26)) (aB rfl (nn (rj hR27 ⟨rfl,(Star.keepN 0 Z)⟩))))))))
 rw [ite_f hc185] at hb25
 obtain ⟨x23,hx23,hb25⟩:=bind_some hb25
 refine fA 3 fa_76_3 rfl rfl (L_lda (cs:=[v0_3,I s.given.bound]) rfl Tryz.isAgg74 Tryz.sizeOf74 rfl (At.sub0 (Blk.at (Star.blkAt 0 Z rfl)) 3 2) rfl (L_bld rfl (parts0 ) (bld_74_  ) ?_))
 obtain ⟨H186b,l187,s188,z189,k190⟩:=Z.borrow
 refine L_call rfl Tryz.call72 (ops2 rfl rfl) (i_ConstraintSame_c (a:=s.given) (b:=({ terms:=[],bound:=0 } : Con)) s188 (RP.mono _ h0_3 l187) (rel_nil _ _ _) hx23) ?_
 rintro _ w191 ⟨rfl,Z⟩
 have Z:=k190 Z c0
 refine L_pick (v:=Bo b25) rfl rfl (congrArg Value.bool (so hb25)) (L_pick (v:=Bo b26) rfl rfl (congrArg Value.bool (so hb26)) (aB rfl (nn (rj hR27 ⟨rfl,(Star.keepN 0 Z)⟩))))
 rw [ite_f hc184] at hb26
 refine ps rfl (ps rfl (ps rfl (ps rfl (ps rfl (ps rfl (ps rfl (ps rfl (ps rfl (L_pick (v:=Bo b26) rfl rfl (congrArg Value.bool (so hb26)) (aB rfl (nn (rj hR27 ⟨rfl,(Star.keepN 0 Z)⟩))))))))))))
 refine fA 2 fa_76_2 rfl rfl (ldB 0 Z Tryz.isAgg3 rfl rfl rfl (L_eql rfl rfl rfl (L_pick (v:=Bo (((x10.1 == 2) || x10.2) || (s.b == 0))) rfl rfl (or_f hc183 rfl) (L_pick (v:=Bo (((decide (x10.1 ≥ 0)) && (((decide (x10.1 > 0)) || (s.kind == 6)) || (s.a == 0))) && (((x10.1 == 2) || x10.2) || (s.b == 0)))) rfl rfl (and_t hc164 rfl) (mB rfl (L_split (d:=39) (b:=(((decide (x10.1 ≥ 0)) && (((decide (x10.1 > 0)) || (s.kind == 6)) || (s.a == 0))) && (((x10.1 == 2) || x10.2) || (s.b == 0)))) rfl (fun hc192=>?_) (fun hc192=>?_)))))))
 rw [ite_t hc192] at hb26
 obtain ⟨b25,hb25,hb26⟩:=bind_some hb26
 refine fA 0 fa_76_0 rfl rfl (ldB 0 Z Tryz.isAgg3 rfl rfl rfl (L_eql rfl rfl rfl (mB rfl (L_split (d:=43) (b:=(s.kind == 7)) rfl (fun hc193=>?_) (fun hc193=>?_)))))
 rw [ite_t hc193] at hb25
 refine ps rfl (ps rfl (ps rfl (ps rfl (L_pick (v:=Bo b25) rfl rfl (congrArg Value.bool (so hb25)) (L_pick (v:=Bo b26) rfl rfl (congrArg Value.bool (so hb26)) (aB rfl (nn (rj hR27 ⟨rfl,(Star.keepN 0 Z)⟩))))))))
 rw [ite_f hc193] at hb25
 obtain ⟨x23,hx23,hb25⟩:=bind_some hb25
 refine fA 3 fa_76_3 rfl rfl (L_lda (cs:=[v0_3,I s.given.bound]) rfl Tryz.isAgg74 Tryz.sizeOf74 rfl (At.sub0 (Blk.at (Star.blkAt 0 Z rfl)) 3 2) rfl (L_bld rfl (parts0 ) (bld_74_  ) ?_))
 obtain ⟨H194b,l195,s196,z197,k198⟩:=Z.borrow
 refine L_call rfl Tryz.call72 (ops2 rfl rfl) (i_ConstraintSame_c (a:=s.given) (b:=({ terms:=[],bound:=0 } : Con)) s196 (RP.mono _ h0_3 l195) (rel_nil _ _ _) hx23) ?_
 rintro _ w199 ⟨rfl,Z⟩
 have Z:=k198 Z c0
 refine L_pick (v:=Bo b25) rfl rfl (congrArg Value.bool (so hb25)) (L_pick (v:=Bo b26) rfl rfl (congrArg Value.bool (so hb26)) (aB rfl (nn (rj hR27 ⟨rfl,(Star.keepN 0 Z)⟩))))
 rw [ite_f hc192] at hb26
 refine ps rfl (ps rfl (ps rfl (ps rfl (ps rfl (ps rfl (ps rfl (ps rfl (ps rfl (L_pick (v:=Bo b26) rfl rfl (congrArg Value.bool (so hb26)) (aB rfl (nn (rj hR27 ⟨rfl,(Star.keepN 0 Z)⟩))))))))))))
 refine ps rfl (ps rfl (ps rfl (ps rfl (ps rfl (ps rfl (ps rfl (ps rfl (ps rfl (ps rfl (L_pick (v:=Bo (((decide (x10.1 ≥ 0)) && (((decide (x10.1 > 0)) || (s.kind == 6)) || (s.a == 0))) && (((x10.1 == 2) || x10.2) || (s.b == 0)))) rfl rfl (and_f hc164) (mB rfl (L_split (d:=39) (b:=(((decide (x10.1 ≥ 0)) && (((decide (x10.1 > 0)) || (s.kind == 6)) || (s.a == 0))) && (((x10.1 == 2) || x10.2) || (s.b == 0)))) rfl (fun hc200=>?_) (fun hc200=>?_)))))))))))))
 rw [ite_t hc200] at hb26
 obtain ⟨b25,hb25,hb26⟩:=bind_some hb26
 refine fA 0 fa_76_0 rfl rfl (ldB 0 Z Tryz.isAgg3 rfl rfl rfl (L_eql rfl rfl rfl (mB rfl (L_split (d:=43) (b:=(s.kind == 7)) rfl (fun hc201=>?_) (fun hc201=>?_)))))
 rw [ite_t hc201] at hb25
 refine ps rfl (ps rfl (ps rfl (ps rfl (L_pick (v:=Bo b25) rfl rfl (congrArg Value.bool (so hb25)) (L_pick (v:=Bo b26) rfl rfl (congrArg Value.bool (so hb26)) (aB rfl (nn (rj hR27 ⟨rfl,(Star.keepN 0 Z)⟩))))))))
 rw [ite_f hc201] at hb25
 obtain ⟨x23,hx23,hb25⟩:=bind_some hb25
 refine fA 3 fa_76_3 rfl rfl (L_lda (cs:=[v0_3,I s.given.bound]) rfl Tryz.isAgg74 Tryz.sizeOf74 rfl (At.sub0 (Blk.at (Star.blkAt 0 Z rfl)) 3 2) rfl (L_bld rfl (parts0 ) (bld_74_  ) ?_))
 obtain ⟨H202b,l203,s204,z205,k206⟩:=Z.borrow
 refine L_call rfl Tryz.call72 (ops2 rfl rfl) (i_ConstraintSame_c (a:=s.given) (b:=({ terms:=[],bound:=0 } : Con)) s204 (RP.mono _ h0_3 l203) (rel_nil _ _ _) hx23) ?_
 rintro _ w207 ⟨rfl,Z⟩
 have Z:=k206 Z c0
 refine L_pick (v:=Bo b25) rfl rfl (congrArg Value.bool (so hb25)) (L_pick (v:=Bo b26) rfl rfl (congrArg Value.bool (so hb26)) (aB rfl (nn (rj hR27 ⟨rfl,(Star.keepN 0 Z)⟩))))
 rw [ite_f hc200] at hb26
 refine ps rfl (ps rfl (ps rfl (ps rfl (ps rfl (ps rfl (ps rfl (ps rfl (ps rfl (L_pick (v:=Bo b26) rfl rfl (congrArg Value.bool (so hb26)) (aB rfl (nn (rj hR27 ⟨rfl,(Star.keepN 0 Z)⟩))))))))))))
 refine ps rfl (ps rfl (ps rfl (ps rfl (ps rfl (ps rfl (ps rfl (ps rfl (ps rfl (ps rfl (ps rfl (ps rfl (L_pick (v:=Bo ((decide (x10.1 ≥ 0)) && (((decide (x10.1 > 0)) || (s.kind == 6)) || (s.a == 0)))) rfl rfl (and_f hc28) (mB rfl (L_split (d:=27) (b:=((decide (x10.1 ≥ 0)) && (((decide (x10.1 > 0)) || (s.kind == 6)) || (s.a == 0)))) rfl (fun hc208=>?_) (fun hc208=>?_)))))))))))))))
 refine mI rfl (L_eql rfl rfl rfl (mB rfl (L_split (d:=30) (b:=(x10.1 == 2)) rfl (fun hc209=>?_) (fun hc209=>?_))))
 refine ps rfl (L_pick (v:=Bo ((x10.1 == 2) || x10.2)) rfl rfl (or_t hc209) (mB rfl (L_split (d:=33) (b:=((x10.1 == 2) || x10.2)) rfl (fun hc210=>?_) (fun hc210=>?_))))
 refine ps rfl (ps rfl (ps rfl (L_pick (v:=Bo (((x10.1 == 2) || x10.2) || (s.b == 0))) rfl rfl (or_t hc210) (L_pick (v:=Bo (((decide (x10.1 ≥ 0)) && (((decide (x10.1 > 0)) || (s.kind == 6)) || (s.a == 0))) && (((x10.1 == 2) || x10.2) || (s.b == 0)))) rfl rfl (and_t hc208 rfl) (mB rfl (L_split (d:=39) (b:=(((decide (x10.1 ≥ 0)) && (((decide (x10.1 > 0)) || (s.kind == 6)) || (s.a == 0))) && (((x10.1 == 2) || x10.2) || (s.b == 0)))) rfl (fun hc211=>?_) (fun hc211=>?_)))))))
 rw [ite_t hc211] at hb26
 obtain ⟨b25,hb25,hb26⟩:=bind_some hb26
 refine fA 0 fa_76_0 rfl rfl (ldB 0 Z Tryz.isAgg3 rfl rfl rfl (L_eql rfl rfl rfl (mB rfl (L_split (d:=43) (b:=(s.kind == 7)) rfl (fun hc212=>?_) (fun hc212=>?_)))))
 rw [ite_t hc212] at hb25
 refine ps rfl (ps rfl (ps rfl (ps rfl (L_pick (v:=Bo b25) rfl rfl (congrArg Value.bool (so hb25)) (L_pick (v:=Bo b26) rfl rfl (congrArg Value.bool (so hb26)) (aB rfl (nn (rj hR27 ⟨rfl,(Star.keepN 0 Z)⟩))))))))
 rw [ite_f hc212] at hb25
 obtain ⟨x23,hx23,hb25⟩:=bind_some hb25
 refine fA 3 fa_76_3 rfl rfl (L_lda (cs:=[v0_3,I s.given.bound]) rfl Tryz.isAgg74 Tryz.sizeOf74 rfl (At.sub0 (Blk.at (Star.blkAt 0 Z rfl)) 3 2) rfl (L_bld rfl (parts0 ) (bld_74_  ) ?_))
 obtain ⟨H213b,l214,s215,z216,k217⟩:=Z.borrow
 refine L_call rfl Tryz.call72 (ops2 rfl rfl) (i_ConstraintSame_c (a:=s.given) (b:=({ terms:=[],bound:=0 } : Con)) s215 (RP.mono _ h0_3 l214) (rel_nil _ _ _) hx23) ?_
 rintro _ w218 ⟨rfl,Z⟩
 have Z:=k217 Z c0
 refine L_pick (v:=Bo b25) rfl rfl (congrArg Value.bool (so hb25)) (L_pick (v:=Bo b26) rfl rfl (congrArg Value.bool (so hb26)) (aB rfl (nn (rj hR27 ⟨rfl,(Star.keepN 0 Z)⟩))))
 rw [ite_f hc211] at hb26
 refine ps rfl (ps rfl (ps rfl (ps rfl (ps rfl (ps rfl (ps rfl (ps rfl (ps rfl (L_pick (v:=Bo b26) rfl rfl (congrArg Value.bool (so hb26)) (aB rfl (nn (rj hR27 ⟨rfl,(Star.keepN 0 Z)⟩))))))))))))
 refine fA 2 fa_76_2 rfl rfl (ldB 0 Z Tryz.isAgg3 rfl rfl rfl (L_eql rfl rfl rfl (L_pick (v:=Bo (((x10.1 == 2) || x10.2) || (s.b == 0))) rfl rfl (or_f hc210 rfl) (L_pick (v:=Bo (((decide (x10.1 ≥ 0)) && (((decide (x10.1 > 0)) || (s.kind == 6)) || (s.a == 0))) && (((x10.1 == 2) || x10.2) || (s.b == 0)))) rfl rfl (and_t hc208 rfl) (mB rfl (L_split (d:=39) (b:=(((decide (x10.1 ≥ 0)) && (((decide (x10.1 > 0)) || (s.kind == 6)) || (s.a == 0))) && (((x10.1 == 2) || x10.2) || (s.b == 0)))) rfl (fun hc219=>?_) (fun hc219=>?_)))))))
 rw [ite_t hc219] at hb26
 obtain ⟨b25,hb25,hb26⟩:=bind_some hb26
 refine fA 0 fa_76_0 rfl rfl (ldB 0 Z Tryz.isAgg3 rfl rfl rfl (L_eql rfl rfl rfl (mB rfl (L_split (d:=43) (b:=(s.kind == 7)) rfl (fun hc220=>?_) (fun hc220=>?_)))))
 rw [ite_t hc220] at hb25
 refine ps rfl (ps rfl (ps rfl (ps rfl (L_pick (v:=Bo b25) rfl rfl (congrArg Value.bool (so hb25)) (L_pick (v:=Bo b26) rfl rfl (congrArg Value.bool (so hb26)) (aB rfl (nn (rj hR27 ⟨rfl,(Star.keepN 0 Z)⟩))))))))
 rw [ite_f hc220] at hb25
 obtain ⟨x23,hx23,hb25⟩:=bind_some hb25
 refine fA 3 fa_76_3 rfl rfl (L_lda (cs:=[v0_3,I s.given.bound]) rfl Tryz.isAgg74 Tryz.sizeOf74 rfl (At.sub0 (Blk.at (Star.blkAt 0 Z rfl)) 3 2) rfl (L_bld rfl (parts0 ) (bld_74_  ) ?_))
 obtain ⟨H221b,l222,s223,z224,k225⟩:=Z.borrow
 refine L_call rfl Tryz.call72 (ops2 rfl rfl) (i_ConstraintSame_c (a:=s.given) (b:=({ terms:=[],bound:=0 } : Con)) s223 (RP.mono _ h0_3 l222) (rel_nil _ _ _) hx23) ?_
 rintro _ w226 ⟨rfl,Z⟩
 have Z:=k225 Z c0
 refine L_pick (v:=Bo b25) rfl rfl (congrArg Value.bool (so hb25)) (L_pick (v:=Bo b26) rfl rfl (congrArg Value.bool (so hb26)) (aB rfl (nn (rj hR27 ⟨rfl,(Star.keepN 0 Z)⟩))))
 rw [ite_f hc219] at hb26
 refine ps rfl (ps rfl (ps rfl (ps rfl (ps rfl (ps rfl (ps rfl (ps rfl (ps rfl (L_pick (v:=Bo b26) rfl rfl (congrArg Value.bool (so hb26)) (aB rfl (nn (rj hR27 ⟨rfl,(Star.keepN 0 Z)⟩))))))))))))
 refine mB rfl (L_pick (v:=Bo ((x10.1 == 2) || x10.2)) rfl rfl (or_f hc209 rfl) (mB rfl (L_split (d:=33) (b:=((x10.1 == 2) || x10.2)) rfl (fun hc227=>?_) (fun hc227=>?_))))
 refine ps rfl (ps rfl (ps rfl (L_pick (v:=Bo (((x10.1 == 2) || x10.2) || (s.b == 0))) rfl rfl (or_t hc227) (L_pick (v:=Bo (((decide (x10.1 ≥ 0)) && (((decide (x10.1 > 0)) || (s.kind == 6)) || (s.a == 0))) && (((x10.1 == 2) || x10.2) || (s.b == 0)))) rfl rfl (and_t hc208 rfl) (mB rfl (L_split (d:=39) (b:=(((decide (x10.1 ≥ 0)) && (((decide (x10.1 > 0)) || (s.kind == 6)) || (s.a == 0))) && (((x10.1 == 2) || x10.2) || (s.b == 0)))) rfl (fun hc228=>?_) (fun hc228=>?_)))))))
 rw [ite_t hc228] at hb26
 obtain ⟨b25,hb25,hb26⟩:=bind_some hb26
 refine fA 0 fa_76_0 rfl rfl (ldB 0 Z Tryz.isAgg3 rfl rfl rfl (L_eql rfl rfl rfl (mB rfl (L_split (d:=43) (b:=(s.kind == 7)) rfl (fun hc229=>?_) (fun hc229=>?_)))))
 rw [ite_t hc229] at hb25
 refine ps rfl (ps rfl (ps rfl (ps rfl (L_pick (v:=Bo b25) rfl rfl (congrArg Value.bool (so hb25)) (L_pick (v:=Bo b26) rfl rfl (congrArg Value.bool (so hb26)) (aB rfl (nn (rj hR27 ⟨rfl,(Star.keepN 0 Z)⟩))))))))
 rw [ite_f hc229] at hb25
 obtain ⟨x23,hx23,hb25⟩:=bind_some hb25
 refine fA 3 fa_76_3 rfl rfl (L_lda (cs:=[v0_3,I s.given.bound]) rfl Tryz.isAgg74 Tryz.sizeOf74 rfl (At.sub0 (Blk.at (Star.blkAt 0 Z rfl)) 3 2) rfl (L_bld rfl (parts0 ) (bld_74_  ) ?_))
 obtain ⟨H230b,l231,s232,z233,k234⟩:=Z.borrow
 refine L_call rfl Tryz.call72 (ops2 rfl rfl) (i_ConstraintSame_c (a:=s.given) (b:=({ terms:=[],bound:=0 } : Con)) s232 (RP.mono _ h0_3 l231) (rel_nil _ _ _) hx23) ?_
 rintro _ w235 ⟨rfl,Z⟩
 have Z:=k234 Z c0
 refine L_pick (v:=Bo b25) rfl rfl (congrArg Value.bool (so hb25)) (L_pick (v:=Bo b26) rfl rfl (congrArg Value.bool (so hb26)) (aB rfl (nn (rj hR27 ⟨rfl,(Star.keepN 0 Z)⟩))))
 rw [ite_f hc228] at hb26
 refine ps rfl (ps rfl (ps rfl (ps rfl (ps rfl (ps rfl (ps rfl (ps rfl (ps rfl (L_pick (v:=Bo b26) rfl rfl (congrArg Value.bool (so hb26)) (aB rfl (nn (rj hR27 ⟨rfl,(Star.keepN 0 Z)⟩))))))))))))
 refine fA 2 fa_76_2 rfl rfl (ldB 0 Z Tryz.isAgg3 rfl rfl rfl (L_eql rfl rfl rfl (L_pick (v:=Bo (((x10.1 == 2) || x10.2) || (s.b == 0))) rfl rfl (or_f hc227 rfl) (L_pick (v:=Bo (((decide (x10.1 ≥ 0)) && (((decide (x10.1 > 0)) || (s.kind == 6)) || (s.a == 0))) && (((x10.1 == 2) || x10.2) || (s.b == 0)))) rfl rfl (and_t hc208 rfl) (mB rfl (L_split (d:=39) (b:=(((decide (x10.1 ≥ 0)) && (((decide (x10.1 > 0)) || (s.kind == 6)) || (s.a == 0))) && (((x10.1 == 2) || x10.2) || (s.b == 0)))) rfl (fun hc236=>?_) (fun hc236=>?_)))))))
 rw [ite_t hc236] at hb26
 obtain ⟨b25,hb25,hb26⟩:=bind_some hb26
 refine fA 0 fa_76_0 rfl rfl (ldB 0 Z Tryz.isAgg3 rfl rfl rfl (L_eql rfl rfl rfl (mB rfl (L_split (d:=43) (b:=(s.kind == 7)) rfl (fun hc237=>?_) (fun hc237=>?_)))))
 rw [ite_t hc237] at hb25
 refine ps rfl (ps rfl (ps rfl (ps rfl (L_pick (v:=Bo b25) rfl rfl (congrArg Value.bool (so hb25)) (L_pick (v:=Bo b26) rfl rfl (congrArg Value.bool (so hb26)) (aB rfl (nn (rj hR27 ⟨rfl,(Star.keepN 0 Z)⟩))))))))
 rw [ite_f hc237] at hb25
 obtain ⟨x23,hx23,hb25⟩:=bind_some hb25
 refine fA 3 fa_76_3 rfl rfl (L_lda (cs:=[v0_3,I s.given.bound]) rfl Tryz.isAgg74 Tryz.sizeOf74 rfl (At.sub0 (Blk.at (Star.blkAt 0 Z rfl)) 3 2) rfl (L_bld rfl (parts0 ) (bld_74_  ) ?_))
 obtain ⟨H238b,l239,s240,z241,k242⟩:=Z.borrow
 refine L_call rfl Tryz.call72 (ops2 rfl rfl) (i_ConstraintSame_c (a:=s.given) (b:=({ terms:=[],bound:=0 } : Con)) s240 (RP.mono _ h0_3 l239) (rel_nil _ _ _) hx23) ?_
 rintro _ w243 ⟨rfl,Z⟩
 have Z:=k242 Z c0
 refine L_pick (v:=Bo b25) rfl rfl (congrArg Value.bool (so hb25)) (L_pick (v:=Bo b26) rfl rfl (congrArg Value.bool (so hb26)) (aB rfl (nn (rj hR27 ⟨rfl,(Star.keepN 0 Z)⟩))))
 rw [ite_f hc236] at hb26
 refine ps rfl (ps rfl (ps rfl (ps rfl (ps rfl (ps rfl (ps rfl (ps rfl (ps rfl (L_pick (v:=Bo b26) rfl rfl (congrArg Value.bool (so hb26)) (aB rfl (nn (rj hR27 ⟨rfl,(Star.keepN 0 Z)⟩))))))))))))
 refine ps rfl (ps rfl (ps rfl (ps rfl (ps rfl (ps rfl (ps rfl (ps rfl (ps rfl (ps rfl (L_pick (v:=Bo (((decide (x10.1 ≥ 0)) && (((decide (x10.1 > 0)) || (s.kind == 6)) || (s.a == 0))) && (((x10.1 == 2) || x10.2) || (s.b == 0)))) rfl rfl (and_f hc208) (mB rfl (L_split (d:=39) (b:=(((decide (x10.1 ≥ 0)) && (((decide (x10.1 > 0)) || (s.kind == 6)) || (s.a == 0))) && (((x10.1 == 2) || x10.2) || (s.b == 0)))) rfl (fun hc244=>?_) (fun hc244=>?_)))))))))))))
 rw [ite_t hc244] at hb26
 obtain ⟨b25,hb25,hb26⟩:=bind_some hb26
 refine fA 0 fa_76_0 rfl rfl (ldB 0 Z Tryz.isAgg3 rfl rfl rfl (L_eql rfl rfl rfl (mB rfl (L_split (d:=43) (b:=(s.kind == 7)) rfl (fun hc245=>?_) (fun hc245=>?_)))))
 rw [ite_t hc245] at hb25
 refine ps rfl (ps rfl (ps rfl (ps rfl (L_pick (v:=Bo b25) rfl rfl (congrArg Value.bool (so hb25)) (L_pick (v:=Bo b26) rfl rfl (congrArg Value.bool (so hb26)) (aB rfl (nn (rj hR27 ⟨rfl,(Star.keepN 0 Z)⟩))))))))
 rw [ite_f hc245] at hb25
 obtain ⟨x23,hx23,hb25⟩:=bind_some hb25
 refine fA 3 fa_76_3 rfl rfl (L_lda (cs:=[v0_3,I s.given.bound]) rfl Tryz.isAgg74 Tryz.sizeOf74 rfl (At.sub0 (Blk.at (Star.blkAt 0 Z rfl)) 3 2) rfl (L_bld rfl (parts0 ) (bld_74_  ) ?_))
 obtain ⟨H246b,l247,s248,z249,k250⟩:=Z.borrow
 refine L_call rfl Tryz.call72 (ops2 rfl rfl) (i_ConstraintSame_c (a:=s.given) (b:=({ terms:=[],bound:=0 } : Con)) s248 (RP.mono _ h0_3 l247) (rel_nil _ _ _) hx23) ?_
 rintro _ w251 ⟨rfl,Z⟩
 have Z:=k250 Z c0
 refine L_pick (v:=Bo b25) rfl rfl (congrArg Value.bool (so hb25)) (L_pick (v:=Bo b26) rfl rfl (congrArg Value.bool (so hb26)) (aB rfl (nn (rj hR27 ⟨rfl,(Star.keepN 0 Z)⟩))))
 rw [ite_f hc244] at hb26
 refine ps rfl (ps rfl (ps rfl (ps rfl (ps rfl (ps rfl (ps rfl (ps rfl (ps rfl (L_pick (v:=Bo b26) rfl rfl (congrArg Value.bool (so hb26)) (aB rfl (nn (rj hR27 ⟨rfl,(Star.keepN 0 Z)⟩))))))))))))
 intro f w_ hR
 obtain ⟨sf2,Z⟩:=rk hR27 hR
 refine W_ret (retG1 (v1:=Bo b26) Tryz.results114 sf2 ?_)
 obtain rfl:=so hF
 exact ⟨rfl,Z⟩
theorem i_isLiteral_c {l : Int} {H : FH} {w : World} (Z : Star H w []) {r : Bool} (hF : i_isLiteral l = some r) :
 C Tryz.prog 115 #[I l] w fun v w'=>v = Bo r∧Star H w' []:=by
 unfold i_isLiteral at hF
 refine C_enter Tryz.func115 rfl Tryz.ntmps115 rfl (sq (aB rfl (nq ?_)))
 obtain ⟨b8,hb8,hF⟩:=bind_some hF
 obtain ⟨R9,hR9⟩:=exR fun f w_=>f 2 = Bo b8∧Star H w_ ([])
 refine W_join R9 ?_ ?_
 refine W_region (mI rfl (L_neq rfl rfl rfl (mB rfl (L_split (d:=5) (b:=(l != 0)) rfl (fun hc10=>?_) (fun hc10=>?_)))))
 rw [ite_t hc10] at hb8
 obtain ⟨x6,hx6,hb8⟩:=bind_some hb8
 refine mI rfl ?_
 obtain ⟨H11b,l12,s13,z14,k15⟩:=Z.borrow
 refine L_call rfl Tryz.call46 (ops3 rfl rfl rfl) (i_within_c (n_:=l) (low:=(-12)) (high:=12) s13 hx6) ?_
 rintro _ w16 ⟨rfl,Z⟩
 have Z:=k15 Z c0
 refine L_pick (v:=Bo b8) rfl rfl (congrArg Value.bool (so hb8)) (aB rfl (nn (rj hR9 ⟨rfl,Z⟩)))
 rw [ite_f hc10] at hb8
 refine ps rfl (ps rfl (L_pick (v:=Bo b8) rfl rfl (congrArg Value.bool (so hb8)) (aB rfl (nn (rj hR9 ⟨rfl,Z⟩)))))
 intro f w_ hR
 obtain ⟨sf2,Z⟩:=rk hR9 hR
 refine W_ret (retG1 (v1:=Bo b8) Tryz.results115 sf2 ?_)
 obtain rfl:=so hF
 exact ⟨rfl,Z⟩
theorem i_variableOf_c {l : Int} {H : FH} {w : World} (Z : Star H w []) {r : Int} (hF : i_variableOf l = some r) :
 C Tryz.prog 145 #[I l] w fun v w'=>v = I r∧Star H w' []:=by
 unfold i_variableOf at hF
 refine C_enter Tryz.func145 rfl Tryz.ntmps145 rfl (sq (aI rfl (ns (mI rfl (mI rfl (L_neg rfl rfl (L_max rfl rfl rfl (aI rfl (nn (W_ret (retG1 (v1:=I (max l (i64 (-l)))) Tryz.results145 rfl ?_)))))))))))
 obtain rfl:=so hF
 exact ⟨rfl,Z⟩
theorem i_ConstraintValid_c {c : Con} {v0_0 : Value} {H : FH} {w : World} (Z : Star H w []) (h0_0 : (rS 126 rTerm).rel H [v0_0] c.terms) {r : Bool} (hF : i_ConstraintValid c = some r) :
 C Tryz.prog 116 #[.agg #[v0_0,I c.bound]] w fun v w'=>v = Bo r∧Star H w' []:=by
 unfold i_ConstraintValid at hF
 refine C_enter Tryz.func116 rfl Tryz.ntmps116 rfl (sq (L_box (v:=.agg #[v0_0,I c.bound]) (cs:=#[v0_0,I c.bound]) rfl rfl rfl Z (fun g3 w4 Z=>aB rfl (ns (aI rfl (nq (sq (fA 0 fa_74_0 rfl rfl (ldB 0 Z Tryz.isAgg72 rfl rfl rfl (L_len rfl Tryz.underlying72 rfl (slice_len h0_0) (mI rfl (nn ?_))))))))))))
 have hlen7 : List.length c.terms≤9223372036854775807:=len_le (slice_len h0_0)
 obtain ⟨j7,hL7,hF⟩:=bind_some hF
 obtain ⟨R7,hR7⟩:=exR fun f w_=>∃ before_6 : Int,j7 = .nx before_6∧f 1 = Pt g3∧Star H w_ ([box g3 74 #[v0_0,I c.bound]])
 refine W_join R7 ?_ ?_
 refine W_block ?_
 obtain ⟨I7,hI7⟩:=exI fun n f w_=>∃ i_5 : Nat,∃ suf7 : List Term,∃ before_6 : Int,n = suf7.length∧List.drop i_5 c.terms = suf7∧i_5 + suf7.length = c.terms.length∧rangeL i_ConstraintValid_b1 suf7 i_5 before_6 = some j7∧f 1 = Pt g3∧f 3 = I before_6∧f 7 = v0_0∧f 8 = I (c.terms.length : Int)∧f 9 = I i_5∧Star H w_ ([box g3 74 #[v0_0,I c.bound]])
 refine W_loop I7 (n:=c.terms.length) ?_ ?_
 exact ij hI7 ⟨0,c.terms,0,rfl,rfl,Nat.zero_add _,hL7,rfl,rfl,rfl,rfl,rfl,Z⟩
 intro n7 f w_ hI
 obtain ⟨i_5,suf7,before_6,rfl,hd7,hl7,hL7,sf1,sf3,sf7,sf8,sf9,Z⟩:=ik hI7 hI
 refine sq (L_lss rfl sf9 sf8 (nq (W_cond (b:=decide ((i_5 : Int) < (c.terms.length : Int))) rfl (fun hc8=>?_) (fun hc8=>?_))))
 have hlt7:=of_decide_eq_true hc8
 rcases suf7 with _ | ⟨x_7,rest7⟩
 exact absurd hlt7 (by simp at hl7; omega)
 obtain ⟨o7,hB7,hL7⟩:=range_cons hL7
 rw [i_ConstraintValid_b1] at hB7
 have hix7:=drop_idx hd7
 refine W_skip (W_seq (W_block (sq (L_ix (r:=rTerm) rfl Tryz.underlying72 Tryz.sizeOf126 sf7 h0_0 sf9 hix7 (fun g16 o17 cs_g16 hrk_hat18 hat18=>?_)))))
 obtain rfl:=rTerm_iff.1 hrk_hat18
 refine L_lda (cs:=[I x_7.coef,I x_7.lit]) rfl Tryz.isAgg126 Tryz.sizeOf126 rfl (At.sub (AtH.at hat18 Z.sub) 0 2) rfl (L_al (cs:=#[I 0,I 0]) rfl Tryz.zeroValue126 rfl Z (fun g20 w21 Z=>L_staB (vs:=#[I x_7.coef,I x_7.lit]) (cs2:=#[I x_7.coef,I x_7.lit]) 0 rfl Tryz.sizeOf126 rfl rfl rfl (ones_cons rfl (ones_cons rfl ones_nil)) Z rfl (by show 0 + 2≤2; decide) rfl (fun w22 Z=>nq (W_seq ?_))))
 obtain ⟨x28,hx28,hB7⟩:=bind_some hB7
 obtain ⟨b37,hb37,hB7⟩:=bind_some hB7
 obtain ⟨b45,hb45,hB7⟩:=bind_some hB7
 obtain ⟨R46,hR46⟩:=exR fun f w_=>f 1 = Pt g3∧f 5 = Pt g20∧f 7 = v0_0∧f 8 = I (c.terms.length : Int)∧f 9 = I i_5∧f 29 = Bo b45∧Star H w_ ([box g20 126 #[I x_7.coef,I x_7.lit],box g3 74 #[v0_0,I c.bound]])
 refine W_join R46 ?_ ?_
 refine W_region (fA 1 fa_126_1 rfl rfl (ldB 0 Z Tryz.isAgg3 rfl rfl rfl ?_))
 obtain ⟨H47b,l48,s49,z50,k51⟩:=Z.borrow
 refine L_call rfl Tryz.call115 (ops1 rfl) (i_isLiteral_c (l:=x_7.lit) s49 hx28) ?_
 rintro _ w52 ⟨rfl,Z⟩
 have Z:=k51 Z c0
 refine L_not_ rfl rfl (mB rfl (L_split (d:=17) (b:=(!x28)) rfl (fun hc53=>?_) (fun hc53=>?_)))
 rw [ite_t hc53] at hb37
 refine ps rfl (ps rfl (ps rfl (ps rfl (ps rfl (L_pick (v:=Bo b37) rfl rfl (congrArg Value.bool (so hb37)) (mB rfl (L_split (d:=24) (b:=b37) rfl (fun hc54=>?_) (fun hc54=>?_))))))))
 rw [ite_t hc54] at hb45
 refine ps rfl (ps rfl (ps rfl (ps rfl (L_pick (v:=Bo b45) rfl rfl (congrArg Value.bool (so hb45)) (nn (rj hR46 ⟨sf1,rfl,sf7,sf8,sf9,rfl,Z⟩))))))
 rw [ite_f hc54] at hb45
 obtain ⟨x43,hx43,hb45⟩:=bind_some hb45
 refine fA 0 fa_126_0 rfl rfl (ldB 0 Z Tryz.isAgg3 rfl rfl rfl ?_)
 obtain ⟨H55b,l56,s57,z58,k59⟩:=Z.borrow
 refine L_call rfl Tryz.call46 (ops3 rfl rfl rfl) (i_within_c (n_:=x_7.coef) (low:=1) (high:=1000) s57 hx43) ?_
 rintro _ w60 ⟨rfl,Z⟩
 have Z:=k59 Z c0
 refine L_not_ rfl rfl (L_pick (v:=Bo b45) rfl rfl (congrArg Value.bool (so hb45)) (nn (rj hR46 ⟨sf1,rfl,sf7,sf8,sf9,rfl,Z⟩)))
 rw [ite_f hc53] at hb37
 obtain ⟨x35,hx35,hb37⟩:=bind_some hb37
 refine fA 1 fa_126_1 rfl rfl (ldB 0 Z Tryz.isAgg3 rfl rfl rfl ?_)
 obtain ⟨H61b,l62,s63,z64,k65⟩:=Z.borrow
 refine L_call rfl Tryz.call145 (ops1 rfl) (i_variableOf_c (l:=x_7.lit) s63 hx35) ?_
 rintro _ w66 ⟨rfl,Z⟩
 have Z:=k65 Z c0
 refine mF sf3 rfl (L_leq rfl rfl rfl (L_pick (v:=Bo b37) rfl rfl (congrArg Value.bool (so hb37)) (mB rfl (L_split (d:=24) (b:=b37) rfl (fun hc67=>?_) (fun hc67=>?_)))))
 rw [ite_t hc67] at hb45
 refine ps rfl (ps rfl (ps rfl (ps rfl (L_pick (v:=Bo b45) rfl rfl (congrArg Value.bool (so hb45)) (nn (rj hR46 ⟨sf1,rfl,sf7,sf8,sf9,rfl,Z⟩))))))
 rw [ite_f hc67] at hb45
 obtain ⟨x43,hx43,hb45⟩:=bind_some hb45
 refine fA 0 fa_126_0 rfl rfl (ldB 0 Z Tryz.isAgg3 rfl rfl rfl ?_)
 obtain ⟨H68b,l69,s70,z71,k72⟩:=Z.borrow
 refine L_call rfl Tryz.call46 (ops3 rfl rfl rfl) (i_within_c (n_:=x_7.coef) (low:=1) (high:=1000) s70 hx43) ?_
 rintro _ w73 ⟨rfl,Z⟩
 have Z:=k72 Z c0
 refine L_not_ rfl rfl (L_pick (v:=Bo b45) rfl rfl (congrArg Value.bool (so hb45)) (nn (rj hR46 ⟨sf1,rfl,sf7,sf8,sf9,rfl,Z⟩)))
 intro f w_ hR
 obtain ⟨sf1,sf5,sf7,sf8,sf9,sf29,Z⟩:=rk hR46 hR
 refine W_cond (b:=b45) sf29 (fun hc74=>?_) (fun hc74=>?_)
 have hB7:=(ite_t hc74).symm.trans hB7
 refine sq (aB rfl (nn (W_ret (retG1 (v1:=Bo false) Tryz.results116 rfl ?_))))
 obtain rfl:=so hB7
 obtain rfl:=so hL7
 obtain rfl:=so hF
 exact ⟨rfl,(Star.keepN 0 Z)⟩
 have hB7:=(ite_f hc74).symm.trans hB7
 refine W_skip ?_
 obtain ⟨x80,hx80,hB7⟩:=bind_some hB7
 refine W_region (fA 1 fa_126_1 sf5 rfl (ldB 0 Z Tryz.isAgg3 rfl rfl rfl ?_))
 obtain ⟨H82b,l83,s84,z85,k86⟩:=Z.borrow
 refine L_call rfl Tryz.call145 (ops1 rfl) (i_variableOf_c (l:=x_7.lit) s84 hx80) ?_
 rintro _ w87 ⟨rfl,Z⟩
 have Z:=k86 Z c0
 refine aI rfl (nn (W_region (L_add rfl sf9 rfl (mI rfl (nn ?_)))))
 obtain rfl:=so hB7
 have Z:=Z.get 1 rfl
 show ∃ m,m < _∧I7 m _ _
 refine ⟨rest7.length,by simp,?_⟩
 exact ij hI7 ⟨i_5 + 1,rest7,x80,rfl,drop_next hd7,by simp at hl7; omega,hL7,sf1,rfl,sf7,sf8,(Eq.trans rfl (congrArg (Value.int .i64) (i64_succ (n:=c.terms.length) (by simp at hl7; omega) hlen7))),(Star.keepN 1 Z)⟩
 rcases suf7 with _ | ⟨_,_⟩
 obtain rfl:=range_nil hL7
 refine W_exit (rj hR7 ⟨before_6,rfl,sf1,Z⟩)
 exact absurd (of_decide_eq_false hc8) (by simp at hl7; omega)
 intro f w_ hR
 obtain ⟨before_6,rfl,sf1,Z⟩:=rk hR7 hR
 refine W_seq ?_
 obtain ⟨x93,hx93,hF⟩:=bind_some hF
 refine W_region (fA 1 fa_74_1 sf1 rfl (ldB 0 Z Tryz.isAgg3 rfl rfl rfl ?_))
 obtain ⟨H95b,l96,s97,z98,k99⟩:=Z.borrow
 refine L_call rfl Tryz.call46 (ops3 rfl rfl rfl) (i_within_c (n_:=c.bound) (low:=0) (high:=20000) s97 hx93) ?_
 rintro _ w100 ⟨rfl,Z⟩
 have Z:=k99 Z c0
 refine aB rfl (nn (W_ret (retG1 (v1:=Bo x93) Tryz.results116 rfl ?_)))
 obtain rfl:=so hF
 exact ⟨rfl,(Star.keepN 0 Z)⟩
theorem i_Step_writable_c {s : Step} {v0_3 : Value} {H : FH} {w : World} (Z : Star H w []) (h0_3 : (rS 126 rTerm).rel H [v0_3] s.given.terms) {r : Bool} (hF : i_Step_writable s = some r) :
 C Tryz.prog 65 #[.agg #[I s.kind,I s.a,I s.b,v0_3,I s.given.bound]] w fun v w'=>v = Bo r∧Star H w' []:=by
 unfold i_Step_writable at hF
 refine C_enter Tryz.func65 rfl Tryz.ntmps65 rfl (sq (L_box (v:=.agg #[I s.kind,I s.a,I s.b,v0_3,I s.given.bound]) (cs:=#[I s.kind,I s.a,I s.b,v0_3,I s.given.bound]) rfl rfl rfl Z (fun g3 w4 Z=>aB rfl (nq (W_block (W_seq ?_))))))
 obtain ⟨x10,hx10,hF⟩:=bind_some hF
 refine W_region (L_lda (cs:=[I s.kind,I s.a,I s.b,v0_3,I s.given.bound]) rfl Tryz.isAgg76 Tryz.sizeOf76 rfl (At.sub0 (Blk.at (Star.blkAt 0 Z rfl)) 0 5) rfl ?_)
 obtain ⟨H12b,l13,s14,z15,k16⟩:=Z.borrow
 refine L_call rfl Tryz.call114 (ops1 rfl) (i_Step_shaped_c (s:=s) s14 (RP.mono _ h0_3 l13) hx10) ?_
 rintro _ w17 ⟨rfl,Z⟩
 have Z:=k16 Z c0
 refine L_not_ rfl rfl (aB rfl (nn (W_cond (b:=(!x10)) rfl (fun hc18=>?_) (fun hc18=>?_))))
 have hF:=(ite_t hc18).symm.trans hF
 refine sq (aB rfl (nn (W_ret (retG1 (v1:=Bo false) Tryz.results65 rfl ?_))))
 obtain rfl:=so hF
 exact ⟨rfl,(Star.keepN 0 Z)⟩
 have hF:=(ite_f hc18).symm.trans hF
 refine sq (fA 0 fa_76_0 rfl rfl (ldB 0 Z Tryz.isAgg3 rfl rfl rfl (L_eql rfl rfl rfl (aB rfl (nn (W_cond (b:=(s.kind == 6)) rfl (fun hc19=>?_) (fun hc19=>?_)))))))
 have hF:=(ite_t hc19).symm.trans hF
 refine W_seq ?_
 obtain ⟨x25,hx25,hF⟩:=bind_some hF
 refine W_region (fA 1 fa_76_1 rfl rfl (ldB 0 Z Tryz.isAgg3 rfl rfl rfl ?_))
 obtain ⟨H27b,l28,s29,z30,k31⟩:=Z.borrow
 refine L_call rfl Tryz.call115 (ops1 rfl) (i_isLiteral_c (l:=s.a) s29 hx25) ?_
 rintro _ w32 ⟨rfl,Z⟩
 have Z:=k31 Z c0
 refine aB rfl (nn (W_ret (retG1 (v1:=Bo x25) Tryz.results65 rfl ?_)))
 obtain rfl:=so hF
 exact ⟨rfl,(Star.keepN 0 Z)⟩
 have hF:=(ite_f hc19).symm.trans hF
 refine sq (fA 0 fa_76_0 rfl rfl (ldB 0 Z Tryz.isAgg3 rfl rfl rfl (L_eql rfl rfl rfl (aB rfl (nn (W_cond (b:=(s.kind == 7)) rfl (fun hc33=>?_) (fun hc33=>?_)))))))
 have hF:=(ite_t hc33).symm.trans hF
 refine W_seq ?_
 obtain ⟨x39,hx39,hF⟩:=bind_some hF
 refine W_region (fA 3 fa_76_3 rfl rfl (L_lda (cs:=[v0_3,I s.given.bound]) rfl Tryz.isAgg74 Tryz.sizeOf74 rfl (At.sub0 (Blk.at (Star.blkAt 0 Z rfl)) 3 2) rfl ?_))
 obtain ⟨H41b,l42,s43,z44,k45⟩:=Z.borrow
 refine L_call rfl Tryz.call116 (ops1 rfl) (i_ConstraintValid_c (c:=s.given) s43 (RP.mono _ h0_3 l42) hx39) ?_
 rintro _ w46 ⟨rfl,Z⟩
 have Z:=k45 Z c0
 refine aB rfl (nn (W_ret (retG1 (v1:=Bo x39) Tryz.results65 rfl ?_)))
 obtain rfl:=so hF
 exact ⟨rfl,(Star.keepN 0 Z)⟩
 have hF:=(ite_f hc33).symm.trans hF
 refine W_skip (W_seq ?_)
 obtain ⟨x52,hx52,hF⟩:=bind_some hF
 obtain ⟨b61,hb61,hF⟩:=bind_some hF
 obtain ⟨R62,hR62⟩:=exR fun f w_=>f 2 = Bo b61∧Star H w_ ([])
 refine W_join R62 ?_ ?_
 refine W_region (fA 1 fa_76_1 rfl rfl (ldB 0 Z Tryz.isAgg3 rfl rfl rfl ?_))
 obtain ⟨H63b,l64,s65,z66,k67⟩:=Z.borrow
 refine L_call rfl Tryz.call46 (ops3 rfl rfl rfl) (i_within_c (n_:=s.a) (low:=0) (high:=20000) s65 hx52) ?_
 rintro _ w68 ⟨rfl,Z⟩
 have Z:=k67 Z c0
 refine mB rfl (L_split (d:=24) (b:=x52) rfl (fun hc69=>?_) (fun hc69=>?_))
 rw [ite_t hc69] at hb61
 obtain ⟨x59,hx59,hb61⟩:=bind_some hb61
 refine fA 2 fa_76_2 rfl rfl (ldB 0 Z Tryz.isAgg3 rfl rfl rfl ?_)
 obtain ⟨H70b,l71,s72,z73,k74⟩:=Z.borrow
 refine L_call rfl Tryz.call46 (ops3 rfl rfl rfl) (i_within_c (n_:=s.b) (low:=0) (high:=20000) s72 hx59) ?_
 rintro _ w75 ⟨rfl,Z⟩
 have Z:=k74 Z c0
 refine L_pick (v:=Bo b61) rfl rfl (congrArg Value.bool (so hb61)) (aB rfl (nn (rj hR62 ⟨rfl,(Star.keepN 0 Z)⟩)))
 rw [ite_f hc69] at hb61
 refine ps rfl (ps rfl (ps rfl (L_pick (v:=Bo b61) rfl rfl (congrArg Value.bool (so hb61)) (aB rfl (nn (rj hR62 ⟨rfl,(Star.keepN 0 Z)⟩))))))
 intro f w_ hR
 obtain ⟨sf2,Z⟩:=rk hR62 hR
 refine W_ret (retG1 (v1:=Bo b61) Tryz.results65 sf2 ?_)
 obtain rfl:=so hF
 exact ⟨rfl,Z⟩
theorem i_stepWords_c {H : FH} {w : World} (Z : Star H w []) {r : List ByteArray} (hF : i_stepWords = some r) :
 C Tryz.prog 106 #[] w fun v w'=>∃ (u1 : Value),v = u1∧Star H w' [oF 9 RP.str u1 r]:=by
 unfold i_stepWords at hF
 refine C_enter Tryz.func106 rfl Tryz.ntmps106 rfl (sq (aV S0 rfl (ns (L_bs rfl (parts9 rfl rfl rfl rfl rfl rfl rfl rfl rfl) (bs_44_9_0_0_0_0_0_0_0_0_0 (.string (⟨#[]⟩ : ByteArray)) (.string (⟨#[97,100,100]⟩ : ByteArray)) (.string (⟨#[109,117,108,116,105,112,108,121]⟩ : ByteArray)) (.string (⟨#[100,105,118,105,100,101]⟩ : ByteArray)) (.string (⟨#[115,97,116,117,114,97,116,101]⟩ : ByteArray)) (.string (⟨#[119,101,97,107,101,110]⟩ : ByteArray)) (.string (⟨#[108,105,116,101,114,97,108]⟩ : ByteArray)) (.string (⟨#[114,117,112]⟩ : ByteArray)) (.string (⟨#[100,101,108,101,116,101]⟩ : ByteArray)) rfl rfl rfl rfl rfl rfl rfl rfl rfl) Z (fun g4 w5 Z=>?_)))))
 have Z:=Star.addF (r:=RP.str) (cs:=[.string (⟨#[100,101,108,101,116,101]⟩ : ByteArray)]) (x:=(⟨#[100,101,108,101,116,101]⟩ : ByteArray)) Z rfl
 have Z:=Star.addF (r:=RP.str) (cs:=[.string (⟨#[114,117,112]⟩ : ByteArray)]) (x:=(⟨#[114,117,112]⟩ : ByteArray)) Z rfl
 have Z:=Star.addF (r:=RP.str) (cs:=[.string (⟨#[108,105,116,101,114,97,108]⟩ : ByteArray)]) (x:=(⟨#[108,105,116,101,114,97,108]⟩ : ByteArray)) Z rfl
 have Z:=Star.addF (r:=RP.str) (cs:=[.string (⟨#[119,101,97,107,101,110]⟩ : ByteArray)]) (x:=(⟨#[119,101,97,107,101,110]⟩ : ByteArray)) Z rfl
 have Z:=Star.addF (r:=RP.str) (cs:=[.string (⟨#[115,97,116,117,114,97,116,101]⟩ : ByteArray)]) (x:=(⟨#[115,97,116,117,114,97,116,101]⟩ : ByteArray)) Z rfl
 have Z:=Star.addF (r:=RP.str) (cs:=[.string (⟨#[100,105,118,105,100,101]⟩ : ByteArray)]) (x:=(⟨#[100,105,118,105,100,101]⟩ : ByteArray)) Z rfl
 have Z:=Star.addF (r:=RP.str) (cs:=[.string (⟨#[109,117,108,116,105,112,108,121]⟩ : ByteArray)]) (x:=(⟨#[109,117,108,116,105,112,108,121]⟩ : ByteArray)) Z rfl
 have Z:=Star.addF (r:=RP.str) (cs:=[.string (⟨#[97,100,100]⟩ : ByteArray)]) (x:=(⟨#[97,100,100]⟩ : ByteArray)) Z rfl
 have Z:=Star.addF (r:=RP.str) (cs:=[.string (⟨#[]⟩ : ByteArray)]) (x:=(⟨#[]⟩ : ByteArray)) Z rfl
 have Z:=Star.mkRow (R:=(OR.frz RP.str)) [([.string (⟨#[]⟩ : ByteArray)],(⟨#[]⟩ : ByteArray)),([.string (⟨#[97,100,100]⟩ : ByteArray)],(⟨#[97,100,100]⟩ : ByteArray)),([.string (⟨#[109,117,108,116,105,112,108,121]⟩ : ByteArray)],(⟨#[109,117,108,116,105,112,108,121]⟩ : ByteArray)),([.string (⟨#[100,105,118,105,100,101]⟩ : ByteArray)],(⟨#[100,105,118,105,100,101]⟩ : ByteArray)),([.string (⟨#[115,97,116,117,114,97,116,101]⟩ : ByteArray)],(⟨#[115,97,116,117,114,97,116,101]⟩ : ByteArray)),([.string (⟨#[119,101,97,107,101,110]⟩ : ByteArray)],(⟨#[119,101,97,107,101,110]⟩ : ByteArray)),([.string (⟨#[108,105,116,101,114,97,108]⟩ : ByteArray)],(⟨#[108,105,116,101,114,97,108]⟩ : ByteArray)),([.string (⟨#[114,117,112]⟩ : ByteArray)],(⟨#[114,117,112]⟩ : ByteArray)),([.string (⟨#[100,101,108,101,116,101]⟩ : ByteArray)],(⟨#[100,101,108,101,116,101]⟩ : ByteArray))] [(⟨#[]⟩ : ByteArray),(⟨#[97,100,100]⟩ : ByteArray),(⟨#[109,117,108,116,105,112,108,121]⟩ : ByteArray),(⟨#[100,105,118,105,100,101]⟩ : ByteArray),(⟨#[115,97,116,117,114,97,116,101]⟩ : ByteArray),(⟨#[119,101,97,107,101,110]⟩ : ByteArray),(⟨#[108,105,116,101,114,97,108]⟩ : ByteArray),(⟨#[114,117,112]⟩ : ByteArray),(⟨#[100,101,108,101,116,101]⟩ : ByteArray)] 9 Z rfl rfl rfl (by decide)
 refine aV (Sl g4 9 9) rfl (nn (W_ret (retG1 (v1:=(Sl g4 9 9)) Tryz.results106 rfl ?_)))
 obtain rfl:=so hF
 exact ⟨(Sl g4 9 9),rfl,Z⟩
theorem i_literalText_c {l : Int} {H : FH} {w : World} (Z : Star H w []) {r : ByteArray} (hF : i_literalText l = some r) :
 C Tryz.prog 119 #[I l] w fun v w'=>v = .string r∧Star H w' []:=by
 unfold i_literalText at hF
 refine C_enter Tryz.func119 rfl Tryz.ntmps119 rfl (sq (aV (.string (⟨#[]⟩ : ByteArray)) rfl (nq (sq (mI rfl (L_lss rfl rfl rfl (nn (W_cond (b:=decide (l < 0)) rfl (fun hc1=>?_) (fun hc1=>?_)))))))))
 have hF:=(ite_t hc1).symm.trans hF
 refine W_seq ?_
 obtain ⟨x7,hx7,hF⟩:=bind_some hF
 obtain ⟨x9,hx9,hF⟩:=bind_some hF
 refine W_region (mI rfl (L_neg rfl rfl ?_))
 obtain ⟨H10b,l11,s12,z13,k14⟩:=Z.borrow
 refine L_call rfl Tryz.call121 (ops1 rfl) (strconv_Itoa_c (x_:=i64 (-l)) s12 hx7) ?_
 rintro _ w15 ⟨rfl,Z⟩
 have Z:=k14 Z c0
 obtain ⟨hx9_l,hx9_e⟩:=cat_some hx9
 refine L_sadd (s:=(⟨#[126,120]⟩ : ByteArray)) (s':=x7) rfl rfl rfl hx9_l ?_
 rw [← hx9_e]
 refine aV (.string x9) rfl (nn (W_ret (retG1 (v1:=.string x9) Tryz.results119 rfl ?_)))
 obtain rfl:=so hF
 exact ⟨rfl,Z⟩
 have hF:=(ite_f hc1).symm.trans hF
 refine W_skip (W_seq ?_)
 obtain ⟨x21,hx21,hF⟩:=bind_some hF
 obtain ⟨x23,hx23,hF⟩:=bind_some hF
 refine W_region (mI rfl ?_)
 obtain ⟨H24b,l25,s26,z27,k28⟩:=Z.borrow
 refine L_call rfl Tryz.call121 (ops1 rfl) (strconv_Itoa_c (x_:=l) s26 hx21) ?_
 rintro _ w29 ⟨rfl,Z⟩
 have Z:=k28 Z c0
 obtain ⟨hx23_l,hx23_e⟩:=cat_some hx23
 refine L_sadd (s:=(⟨#[120]⟩ : ByteArray)) (s':=x21) rfl rfl rfl hx23_l ?_
 rw [← hx23_e]
 refine aV (.string x23) rfl (nn (W_ret (retG1 (v1:=.string x23) Tryz.results119 rfl ?_)))
 obtain rfl:=so hF
 exact ⟨rfl,Z⟩
theorem i_Constraint_text_c {c : Con} {v0_0 : Value} {H : FH} {w : World} (Z : Star H w []) (h0_0 : (rS 126 rTerm).rel H [v0_0] c.terms) {r : ByteArray} (hF : i_Constraint_text c = some r) :
 C Tryz.prog 120 #[.agg #[v0_0,I c.bound]] w fun v w'=>v = .string r∧Star H w' []:=by
 unfold i_Constraint_text at hF
 refine C_enter Tryz.func120 rfl Tryz.ntmps120 rfl (sq (L_box (v:=.agg #[v0_0,I c.bound]) (cs:=#[v0_0,I c.bound]) rfl rfl rfl Z (fun g3 w4 Z=>aV (.string (⟨#[]⟩ : ByteArray)) rfl (ns (aV (.string (⟨#[]⟩ : ByteArray)) rfl (nq (sq (fA 0 fa_74_0 rfl rfl (ldB 0 Z Tryz.isAgg72 rfl rfl rfl (L_len rfl Tryz.underlying72 rfl (slice_len h0_0) (mI rfl (nn ?_))))))))))))
 have hlen9 : List.length c.terms≤9223372036854775807:=len_le (slice_len h0_0)
 obtain ⟨j9,hL9,hF⟩:=bind_some hF
 obtain ⟨R9,hR9⟩:=exR fun f w_=>∃ out_6 : ByteArray,∃ H7 : FH,j9 = .nx out_6∧Le H H7∧f 1 = Pt g3∧f 3 = .string out_6∧Star H7 w_ ([box g3 74 #[v0_0,I c.bound]])
 refine W_join R9 ?_ ?_
 refine W_block ?_
 obtain ⟨I9,hI9⟩:=exI fun n f w_=>∃ i_5 : Nat,∃ suf9 : List Term,∃ out_6 : ByteArray,∃ H7 : FH,n = suf9.length∧List.drop i_5 c.terms = suf9∧i_5 + suf9.length = c.terms.length∧rangeL i_Constraint_text_b1 suf9 i_5 out_6 = some j9∧Le H H7∧f 1 = Pt g3∧f 3 = .string out_6∧f 7 = v0_0∧f 8 = I (c.terms.length : Int)∧f 9 = I i_5∧Star H7 w_ ([box g3 74 #[v0_0,I c.bound]])
 refine W_loop I9 (n:=c.terms.length) ?_ ?_
 exact ij hI9 ⟨0,c.terms,(⟨#[]⟩ : ByteArray),H,rfl,rfl,Nat.zero_add _,hL9,(Le.refl _),rfl,rfl,rfl,rfl,rfl,Z⟩
 intro n9 f w_ hI
 obtain ⟨i_5,suf9,out_6,H7,rfl,hd9,hl9,hL9,l8,sf1,sf3,sf7,sf8,sf9,Z⟩:=ik hI9 hI
 refine sq (L_lss rfl sf9 sf8 (nq (W_cond (b:=decide ((i_5 : Int) < (c.terms.length : Int))) rfl (fun hc10=>?_) (fun hc10=>?_))))
 have hlt9:=of_decide_eq_true hc10
 rcases suf9 with _ | ⟨x_9,rest9⟩
 exact absurd hlt9 (by simp at hl9; omega)
 obtain ⟨o9,hB9,hL9⟩:=range_cons hL9
 rw [i_Constraint_text_b1] at hB9
 have hix9:=drop_idx hd9
 refine W_skip (W_seq (W_block (sq (L_ix (r:=rTerm) rfl Tryz.underlying72 Tryz.sizeOf126 sf7 (RP.mono _ h0_0 l8) sf9 hix9 (fun g18 o19 cs_g18 hrk_hat20 hat20=>?_)))))
 obtain rfl:=rTerm_iff.1 hrk_hat20
 refine L_lda (cs:=[I x_9.coef,I x_9.lit]) rfl Tryz.isAgg126 Tryz.sizeOf126 rfl (At.sub (AtH.at hat20 Z.sub) 0 2) rfl (L_al (cs:=#[I 0,I 0]) rfl Tryz.zeroValue126 rfl Z (fun g22 w23 Z=>L_staB (vs:=#[I x_9.coef,I x_9.lit]) (cs2:=#[I x_9.coef,I x_9.lit]) 0 rfl Tryz.sizeOf126 rfl rfl rfl (ones_cons rfl (ones_cons rfl ones_nil)) Z rfl (by show 0 + 2≤2; decide) rfl (fun w24 Z=>nn ?_)))
 obtain ⟨x30,hx30,hB9⟩:=bind_some hB9
 obtain ⟨x32,hx32,hB9⟩:=bind_some hB9
 obtain ⟨x38,hx38,hB9⟩:=bind_some hB9
 obtain ⟨x40,hx40,hB9⟩:=bind_some hB9
 obtain ⟨x41,hx41,hB9⟩:=bind_some hB9
 obtain ⟨x42,hx42,hB9⟩:=bind_some hB9
 refine W_drawS 10 [isV (.string out_6),isV (Pt g22),isV (I x_9.coef),isV (.string x30),isV (.string x32),isV (Pq g22 1),isV (I x_9.lit),isV (.string x38),isV (.string x40),isV (.string x41)] [box g22 126 #[I x_9.coef,I x_9.lit],box g3 74 #[v0_0,I c.bound]] [] ([]) [([],[]),([],[]),([],[]),([],[]),([],[]),([],[]),([],[]),([],[]),([],[]),([],[])] (S:=[]) Tryz_mix (by kernel_rfl) rfl (by kernel_rfl) (amF_cons (mono_V _) (amF_cons (mono_V _) (amF_cons (mono_V _) (amF_cons (mono_V _) (amF_cons (mono_V _) (amF_cons (mono_V _) (amF_cons (mono_V _) (amF_cons (mono_V _) (amF_cons (mono_V _) (amF_cons (mono_V _) amF_nil)))))))))) Z ?_ (fun f w_ H43 hS43 hE43 hT43 Z=>?_)
 refine opsS_cons (fun f w_ _ _ s _ _ Z=>mF ((s 3 rfl).trans sf3) rfl (nO rfl rfl Z)) (opsS_cons (fun f w_ _ _ s _ _ Z=>fA 0 fa_126_0 ((s 5 rfl).trans rfl) rfl (nO rfl rfl Z)) (opsS_cons (fun f w_ _ _ _ _ p Z=>ldB 0 Z Tryz.isAgg3 (p 1 14 rfl rfl) rfl rfl (nO rfl rfl Z)) (opsS_cons ?_ ?_)))
 intro f w_ H43 X43 hS43 hE43 hP43 Z
 obtain ⟨H56b,l57,s58,z59,k60⟩:=Z.borrow
 refine L_call rfl Tryz.call121 (ops1 (hP43 2 15 rfl rfl)) (strconv_Itoa_c (x_:=x_9.coef) s58 hx30) ?_
 rintro _ w61 ⟨rfl,Z⟩
 have Z:=k60 Z c0
 exact L_nil ⟨rfl,_,_,rfl,Le.refl _,fun _ _=>rfl,Z⟩
 refine opsS_cons ?_ ?_
 intro f w_ H43 X43 hS43 hE43 hP43 Z
 obtain ⟨hx32_l,hx32_e⟩:=cat_some hx32
 refine L_sadd (s:=x30) (s':=(⟨#[32]⟩ : ByteArray)) rfl (hP43 3 16 rfl rfl) rfl hx32_l ?_
 rw [← hx32_e]
 exact L_nil ⟨rfl,_,_,rfl,Le.refl _,fun _ _=>rfl,Z⟩
 refine opsS_cons (fun f w_ _ _ s _ _ Z=>fA 1 fa_126_1 ((s 5 rfl).trans rfl) rfl (nO rfl rfl Z)) (opsS_cons (fun f w_ _ _ _ _ p Z=>ldB 0 Z Tryz.isAgg3 (p 5 18 rfl rfl) rfl rfl (nO rfl rfl Z)) (opsS_cons ?_ ?_))
 intro f w_ H43 X43 hS43 hE43 hP43 Z
 obtain ⟨H62b,l63,s64,z65,k66⟩:=Z.borrow
 refine L_call rfl Tryz.call119 (ops1 (hP43 6 19 rfl rfl)) (i_literalText_c (l:=x_9.lit) s64 hx38) ?_
 rintro _ w67 ⟨rfl,Z⟩
 have Z:=k66 Z c0
 exact L_nil ⟨rfl,_,_,rfl,Le.refl _,fun _ _=>rfl,Z⟩
 refine opsS_cons ?_ ?_
 intro f w_ H43 X43 hS43 hE43 hP43 Z
 obtain ⟨hx40_l,hx40_e⟩:=cat_some hx40
 refine L_sadd (s:=x32) (s':=x38) rfl (hP43 4 17 rfl rfl) (hP43 7 20 rfl rfl) hx40_l ?_
 rw [← hx40_e]
 exact L_nil ⟨rfl,_,_,rfl,Le.refl _,fun _ _=>rfl,Z⟩
 refine opsS_cons ?_ ?_
 intro f w_ H43 X43 hS43 hE43 hP43 Z
 obtain ⟨hx41_l,hx41_e⟩:=cat_some hx41
 refine L_sadd (s:=x40) (s':=(⟨#[32]⟩ : ByteArray)) rfl (hP43 8 21 rfl rfl) rfl hx41_l ?_
 rw [← hx41_e]
 exact L_nil ⟨rfl,_,_,rfl,Le.refl _,fun _ _=>rfl,Z⟩
 exact opsS_nil
 obtain ⟨hx42_l,hx42_e⟩:=cat_some hx42
 refine L_sadd (s:=out_6) (s':=x41) rfl (hT43 0 13 rfl rfl) (hT43 9 22 rfl rfl) hx42_l ?_
 rw [← hx42_e]
 refine aV (.string x42) rfl (nn (W_region (L_add rfl ((hS43 9 rfl).trans sf9) rfl (mI rfl (nn ?_)))))
 obtain rfl:=so hB9
 have Z:=Z.get 1 rfl
 show ∃ m,m < _∧I9 m _ _
 refine ⟨rest9.length,by simp,?_⟩
 exact ij hI9 ⟨i_5 + 1,rest9,x42,H43,rfl,drop_next hd9,by simp at hl9; omega,hL9,(Le.trans l8 hE43),((hS43 1 rfl).trans sf1),rfl,((hS43 7 rfl).trans sf7),((hS43 8 rfl).trans sf8),(Eq.trans rfl (congrArg (Value.int .i64) (i64_succ (n:=c.terms.length) (by simp at hl9; omega) hlen9))),(Star.keepN 1 Z)⟩
 rcases suf9 with _ | ⟨_,_⟩
 obtain rfl:=range_nil hL9
 refine W_exit (rj hR9 ⟨out_6,H7,rfl,l8,sf1,sf3,Z⟩)
 exact absurd (of_decide_eq_false hc10) (by simp at hl9; omega)
 intro f w_ hR
 obtain ⟨out_6,H7,rfl,l8,sf1,sf3,Z⟩:=rk hR9 hR
 refine W_seq ?_
 obtain ⟨x68,hx68,hF⟩:=bind_some hF
 obtain ⟨x74,hx74,hF⟩:=bind_some hF
 obtain ⟨x76,hx76,hF⟩:=bind_some hF
 refine W_region (mF sf3 rfl ?_)
 obtain ⟨hx68_l,hx68_e⟩:=cat_some hx68
 refine L_sadd (s:=out_6) (s':=(⟨#[62,61,32]⟩ : ByteArray)) rfl rfl rfl hx68_l ?_
 rw [← hx68_e]
 refine fA 1 fa_74_1 sf1 rfl (ldB 0 Z Tryz.isAgg3 rfl rfl rfl ?_)
 obtain ⟨H77b,l78,s79,z80,k81⟩:=Z.borrow
 refine L_call rfl Tryz.call121 (ops1 rfl) (strconv_Itoa_c (x_:=c.bound) s79 hx74) ?_
 rintro _ w82 ⟨rfl,Z⟩
 have Z:=k81 Z c0
 obtain ⟨hx76_l,hx76_e⟩:=cat_some hx76
 refine L_sadd (s:=x68) (s':=x74) rfl rfl rfl hx76_l ?_
 rw [← hx76_e]
 refine aV (.string x76) rfl (nn (W_ret (retG1 (v1:=.string x76) Tryz.results120 rfl ?_)))
 obtain rfl:=so hF
 exact ⟨rfl,(Star.down (Star.keepN 0 Z) l8 c0)⟩
theorem i_Step_text_c {s : Step} {v0_3 : Value} {H : FH} {w : World} (Z : Star H w []) (h0_3 : (rS 126 rTerm).rel H [v0_3] s.given.terms) {r : ByteArray} (hF : i_Step_text s = some r) :
 C Tryz.prog 67 #[.agg #[I s.kind,I s.a,I s.b,v0_3,I s.given.bound]] w fun v w'=>v = .string r∧Star H w' []:=by
 unfold i_Step_text at hF
 refine C_enter Tryz.func67 rfl Tryz.ntmps67 rfl (sq (L_box (v:=.agg #[I s.kind,I s.a,I s.b,v0_3,I s.given.bound]) (cs:=#[I s.kind,I s.a,I s.b,v0_3,I s.given.bound]) rfl rfl rfl Z (fun g3 w4 Z=>aV (.string (⟨#[]⟩ : ByteArray)) rfl (nq ?_))))
 obtain ⟨x10,hx10,hF⟩:=bind_some hF
 obtain ⟨x13,hx13,hF⟩:=bind_some hF
 obtain ⟨x18,hx18,hF⟩:=bind_some hF
 refine W_drawS 3 [anyF,isV (Pt g3),isV (I s.kind)] [box g3 76 #[I s.kind,I s.a,I s.b,v0_3,I s.given.bound]] [.made 0 6 (fun v_=>oF 9 RP.str v_ x10) none] ([]) [([],[0]),([],[]),([],[])] (S:=[(some 0,[6],none)]) Tryz_mix (by kernel_rfl) rfl (by kernel_rfl) (amF_cons (mono_any) (amF_cons (mono_V _) (amF_cons (mono_V _) amF_nil))) Z ?_ (fun f w_ H19 hS19 hE19 hT19 Z=>?_)
 refine opsS_cons ?_ ?_
 intro f w_ H19 X19 hS19 hE19 hP19 Z
 obtain ⟨H27b,l28,s29,z30,k31⟩:=Z.borrow
 refine L_call rfl Tryz.call106 ops0 (i_stepWords_c s29 hx10) ?_
 rintro r32_0 w32 ⟨_,rfl,Z⟩
 have Z:=k31 Z (co closed_str c0)
 have Z:=Z.get 1 rfl
 exact L_nil ⟨rfl,_,_,rfl,Le.refl _,fun _ _=>trivial,Z⟩
 refine opsS_cons (fun f w_ _ _ s _ _ Z=>fA 0 fa_76_0 ((s 1 rfl).trans rfl) rfl (nO rfl rfl Z)) (opsS_cons (fun f w_ _ _ _ _ p Z=>ldB 0 Z Tryz.isAgg3 (p 1 7 rfl rfl) rfl rfl (nO rfl rfl Z)) (opsS_nil))
 have Z : Star H19 w_ ([box g3 76 #[I s.kind,I s.a,I s.b,v0_3,I s.given.bound],oF 9 RP.str (f 6) x10]):=Z
 obtain ⟨g35,cap_g35,hv36,_,_⟩:=Star.row 1 Z rfl hx13
 refine L_ixO (R:=(OR.frz RP.str)) (tb:=0) 0 rfl Tryz.underlying44 Tryz.sizeOf9 rfl hv36 (by first | rfl | simp) (hT19 2 8 rfl rfl) hx13 ?_
 obtain ⟨cs37,hr37,hat37⟩:=Star.eltF 1 Z rfl hv36 hx13
 obtain rfl : _ = [_]:=hr37
 refine L_ld rfl Tryz.isAgg9 rfl (At.cell hat37 (j:=0) rfl) ?_
 obtain ⟨hx18_l,hx18_e⟩:=cat_some hx18
 refine L_sadd (s:=x13) (s':=(⟨#[32]⟩ : ByteArray)) rfl rfl rfl hx18_l ?_
 rw [← hx18_e]
 refine aV (.string x18) rfl (nq ?_)
 obtain ⟨x44,hx44,hF⟩:=bind_some hF
 refine W_region (fA 0 fa_76_0 ((hS19 1 rfl).trans rfl) rfl (ldB 0 Z Tryz.isAgg3 rfl rfl rfl ?_))
 obtain ⟨H46b,l47,s48,z49,k50⟩:=Z.borrow
 refine L_call rfl Tryz.call118 (ops1 rfl) (i_refers_c (kind:=s.kind) s48 hx44) ?_
 rintro _ w51 ⟨rfl,Z⟩
 have Z:=k50 Z c0
 refine mV (.tuple #[I x44.1,Bo x44.2]) rfl (L_ex (v:=I x44.1) rfl rfl rfl (L_ex (v:=Bo x44.2) rfl rfl rfl (aI rfl (aB rfl (nq (W_block (sq (fA 0 fa_76_0 ((hS19 1 rfl).trans rfl) rfl (ldB 0 Z Tryz.isAgg3 rfl rfl rfl (L_eql rfl rfl rfl (aB rfl (nn (W_cond (b:=(s.kind == 6)) rfl (fun hc52=>?_) (fun hc52=>?_))))))))))))))
 have hF:=(ite_t hc52).symm.trans hF
 refine W_seq ?_
 obtain ⟨x58,hx58,hF⟩:=bind_some hF
 obtain ⟨x60,hx60,hF⟩:=bind_some hF
 refine W_region (mV (.string x18) rfl (fA 1 fa_76_1 ((hS19 1 rfl).trans rfl) rfl (ldB 0 Z Tryz.isAgg3 rfl rfl rfl ?_)))
 obtain ⟨H61b,l62,s63,z64,k65⟩:=Z.borrow
 refine L_call rfl Tryz.call119 (ops1 rfl) (i_literalText_c (l:=s.a) s63 hx58) ?_
 rintro _ w66 ⟨rfl,Z⟩
 have Z:=k65 Z c0
 obtain ⟨hx60_l,hx60_e⟩:=cat_some hx60
 refine L_sadd (s:=x18) (s':=x58) rfl rfl rfl hx60_l ?_
 rw [← hx60_e]
 refine aV (.string x60) rfl (nn (W_ret (retG1 (v1:=.string x60) Tryz.results67 rfl ?_)))
 obtain rfl:=so hF
 exact ⟨rfl,(Star.down (Star.keepN 0 Z) hE19 c0)⟩
 have hF:=(ite_f hc52).symm.trans hF
 refine sq (fA 0 fa_76_0 ((hS19 1 rfl).trans rfl) rfl (ldB 0 Z Tryz.isAgg3 rfl rfl rfl (L_eql rfl rfl rfl (aB rfl (nn (W_cond (b:=(s.kind == 7)) rfl (fun hc67=>?_) (fun hc67=>?_)))))))
 have hF:=(ite_t hc67).symm.trans hF
 refine W_seq ?_
 obtain ⟨x73,hx73,hF⟩:=bind_some hF
 obtain ⟨x75,hx75,hF⟩:=bind_some hF
 refine W_region (mV (.string x18) rfl (fA 3 fa_76_3 ((hS19 1 rfl).trans rfl) rfl (L_lda (cs:=[v0_3,I s.given.bound]) rfl Tryz.isAgg74 Tryz.sizeOf74 rfl (At.sub0 (Blk.at (Star.blkAt 0 Z rfl)) 3 2) rfl ?_)))
 obtain ⟨H76b,l77,s78,z79,k80⟩:=Z.borrow
 refine L_call rfl Tryz.call120 (ops1 rfl) (i_Constraint_text_c (c:=s.given) s78 (RP.mono _ h0_3 (Le.trans hE19 l77)) hx73) ?_
 rintro _ w81 ⟨rfl,Z⟩
 have Z:=k80 Z c0
 obtain ⟨hx75_l,hx75_e⟩:=cat_some hx75
 refine L_sadd (s:=x18) (s':=x73) rfl rfl rfl hx75_l ?_
 rw [← hx75_e]
 refine aV (.string x75) rfl (nn (W_ret (retG1 (v1:=.string x75) Tryz.results67 rfl ?_)))
 obtain rfl:=so hF
 exact ⟨rfl,(Star.down (Star.keepN 0 Z) hE19 c0)⟩
 have hF:=(ite_f hc67).symm.trans hF
 refine W_seq ?_
 obtain ⟨R82,hR82⟩:=exR fun f w_=>f 1 = Pt g3∧f 3 = .string x18∧f 36 = Bo ((decide (x44.1 > 1)) || x44.2)∧Star H19 w_ ([box g3 76 #[I s.kind,I s.a,I s.b,v0_3,I s.given.bound]])
 refine W_join R82 ?_ ?_
 refine W_region (mI rfl (L_gtr rfl rfl rfl (mB rfl (L_split (d:=39) (b:=decide (x44.1 > 1)) rfl (fun hc83=>?_) (fun hc83=>?_)))))
 refine ps rfl (L_pick (v:=Bo ((decide (x44.1 > 1)) || x44.2)) rfl rfl (or_t hc83) (aB rfl (nn (rj hR82 ⟨((hS19 1 rfl).trans rfl),rfl,rfl,(Star.keepN 1 Z)⟩))))
 refine mB rfl (L_pick (v:=Bo ((decide (x44.1 > 1)) || x44.2)) rfl rfl (or_f hc83 rfl) (aB rfl (nn (rj hR82 ⟨((hS19 1 rfl).trans rfl),rfl,rfl,(Star.keepN 1 Z)⟩))))
 intro f w_ hR
 obtain ⟨sf1,sf3,sf36,Z⟩:=rk hR82 hR
 refine W_cond (b:=((decide (x44.1 > 1)) || x44.2)) sf36 (fun hc84=>?_) (fun hc84=>?_)
 have hF:=(ite_t hc84).symm.trans hF
 refine W_seq ?_
 obtain ⟨x90,hx90,hF⟩:=bind_some hF
 obtain ⟨x92,hx92,hF⟩:=bind_some hF
 obtain ⟨x93,hx93,hF⟩:=bind_some hF
 obtain ⟨x99,hx99,hF⟩:=bind_some hF
 obtain ⟨x101,hx101,hF⟩:=bind_some hF
 refine W_drawS 9 [isV (.string x18),isV (Pq g3 1),isV (I s.a),isV (.string x90),isV (.string x92),isV (.string x93),isV (Pq g3 2),isV (I s.b),isV (.string x99)] [box g3 76 #[I s.kind,I s.a,I s.b,v0_3,I s.given.bound]] [] ([]) [([],[]),([],[]),([],[]),([],[]),([],[]),([],[]),([],[]),([],[]),([],[])] (S:=[]) Tryz_mix (by kernel_rfl) rfl (by kernel_rfl) (amF_cons (mono_V _) (amF_cons (mono_V _) (amF_cons (mono_V _) (amF_cons (mono_V _) (amF_cons (mono_V _) (amF_cons (mono_V _) (amF_cons (mono_V _) (amF_cons (mono_V _) (amF_cons (mono_V _) amF_nil))))))))) Z ?_ (fun f w_ H102 hS102 hE102 hT102 Z=>?_)
 refine opsS_cons (fun f w_ _ _ s _ _ Z=>mF ((s 3 rfl).trans sf3) rfl (nO rfl rfl Z)) (opsS_cons (fun f w_ _ _ s _ _ Z=>fA 1 fa_76_1 ((s 1 rfl).trans sf1) rfl (nO rfl rfl Z)) (opsS_cons (fun f w_ _ _ _ _ p Z=>ldB 0 Z Tryz.isAgg3 (p 1 43 rfl rfl) rfl rfl (nO rfl rfl Z)) (opsS_cons ?_ ?_)))
 intro f w_ H102 X102 hS102 hE102 hP102 Z
 obtain ⟨H115b,l116,s117,z118,k119⟩:=Z.borrow
 refine L_call rfl Tryz.call121 (ops1 (hP102 2 44 rfl rfl)) (strconv_Itoa_c (x_:=s.a) s117 hx90) ?_
 rintro _ w120 ⟨rfl,Z⟩
 have Z:=k119 Z c0
 exact L_nil ⟨rfl,_,_,rfl,Le.refl _,fun _ _=>rfl,Z⟩
 refine opsS_cons ?_ ?_
 intro f w_ H102 X102 hS102 hE102 hP102 Z
 obtain ⟨hx92_l,hx92_e⟩:=cat_some hx92
 refine L_sadd (s:=x18) (s':=x90) rfl (hP102 0 42 rfl rfl) (hP102 3 45 rfl rfl) hx92_l ?_
 rw [← hx92_e]
 exact L_nil ⟨rfl,_,_,rfl,Le.refl _,fun _ _=>rfl,Z⟩
 refine opsS_cons ?_ ?_
 intro f w_ H102 X102 hS102 hE102 hP102 Z
 obtain ⟨hx93_l,hx93_e⟩:=cat_some hx93
 refine L_sadd (s:=x92) (s':=(⟨#[32]⟩ : ByteArray)) rfl (hP102 4 46 rfl rfl) rfl hx93_l ?_
 rw [← hx93_e]
 exact L_nil ⟨rfl,_,_,rfl,Le.refl _,fun _ _=>rfl,Z⟩
 refine opsS_cons (fun f w_ _ _ s _ _ Z=>fA 2 fa_76_2 ((s 1 rfl).trans sf1) rfl (nO rfl rfl Z)) (opsS_cons (fun f w_ _ _ _ _ p Z=>ldB 0 Z Tryz.isAgg3 (p 6 48 rfl rfl) rfl rfl (nO rfl rfl Z)) (opsS_cons ?_ ?_))
 intro f w_ H102 X102 hS102 hE102 hP102 Z
 obtain ⟨H121b,l122,s123,z124,k125⟩:=Z.borrow
 refine L_call rfl Tryz.call121 (ops1 (hP102 7 49 rfl rfl)) (strconv_Itoa_c (x_:=s.b) s123 hx99) ?_
 rintro _ w126 ⟨rfl,Z⟩
 have Z:=k125 Z c0
 exact L_nil ⟨rfl,_,_,rfl,Le.refl _,fun _ _=>rfl,Z⟩
 exact opsS_nil
 obtain ⟨hx101_l,hx101_e⟩:=cat_some hx101
 refine L_sadd (s:=x93) (s':=x99) rfl (hT102 5 47 rfl rfl) (hT102 8 50 rfl rfl) hx101_l ?_
 rw [← hx101_e]
 refine aV (.string x101) rfl (nn (W_ret (retG1 (v1:=.string x101) Tryz.results67 rfl ?_)))
 obtain rfl:=so hF
 exact ⟨rfl,(Star.down (Star.keepN 0 Z) (Le.trans hE19 hE102) c0)⟩
 have hF:=(ite_f hc84).symm.trans hF
 refine W_skip (W_seq ?_)
 obtain ⟨x132,hx132,hF⟩:=bind_some hF
 obtain ⟨x134,hx134,hF⟩:=bind_some hF
 refine W_region (mF sf3 rfl (fA 1 fa_76_1 sf1 rfl (ldB 0 Z Tryz.isAgg3 rfl rfl rfl ?_)))
 obtain ⟨H135b,l136,s137,z138,k139⟩:=Z.borrow
 refine L_call rfl Tryz.call121 (ops1 rfl) (strconv_Itoa_c (x_:=s.a) s137 hx132) ?_
 rintro _ w140 ⟨rfl,Z⟩
 have Z:=k139 Z c0
 obtain ⟨hx134_l,hx134_e⟩:=cat_some hx134
 refine L_sadd (s:=x18) (s':=x132) rfl rfl rfl hx134_l ?_
 rw [← hx134_e]
 refine aV (.string x134) rfl (nn (W_ret (retG1 (v1:=.string x134) Tryz.results67 rfl ?_)))
 obtain rfl:=so hF
 exact ⟨rfl,(Star.down (Star.keepN 0 Z) hE19 c0)⟩
theorem strings_Cut_c {x_ : ByteArray} {y_ : ByteArray} {H : FH} {w : World} (Z : Star H w []) {r : ByteArray × ByteArray × Bool} (hF : strings_Cut x_ y_ = some r) :
 C Tryz.prog 105 #[.string x_,.string y_] w fun v w'=>v = .tuple #[.string r.1,.string r.2.1,Bo r.2.2]∧Star H w' []:=by
 obtain ⟨hs,rfl⟩:=strings_Cut_some hF
 obtain ⟨m,hm⟩:=H.glob.maxlen
 refine Calls.mono (Tryz.strings_Cut x_ y_ m w hs (Z.sub.cell hm)) ?_
 rintro e w' ⟨rfl,n,rfl⟩
 exact ⟨_,rfl,rfl,Star.ext Z (below_drewN w n)⟩
theorem strings_TrimPrefix_c {x_ : ByteArray} {y_ : ByteArray} {H : FH} {w : World} (Z : Star H w []) {r : ByteArray} (hF : strings_TrimPrefix x_ y_ = some r) :
 C Tryz.prog 139 #[.string x_,.string y_] w fun v w'=>v = .string r∧Star H w' []:=by
 cases hF
 refine Calls.mono (Tryz.strings_TrimPrefix x_ y_ w) ?_
 rintro e w' ⟨rfl,rfl⟩
 exact ⟨_,rfl,rfl,Z⟩
theorem i_readLiteral_c {s : ByteArray} {H : FH} {w : World} (Z : Star H w []) {r : Int} (hF : i_readLiteral s = some r) :
 C Tryz.prog 107 #[.string s] w fun v w'=>v = I r∧Star H w' []:=by
 unfold i_readLiteral at hF
 refine C_enter Tryz.func107 rfl Tryz.ntmps107 rfl (sq (aI rfl (nq ?_)))
 obtain ⟨x6,hx6,hF⟩:=bind_some hF
 refine W_region (mV (.string s) rfl ?_)
 obtain ⟨H8b,l9,s10,z11,k12⟩:=Z.borrow
 refine L_call rfl Tryz.call33 (ops2 rfl rfl) (strings_CutPrefix_c (x_:=s) (y_:=(⟨#[126]⟩ : ByteArray)) s10 hx6) ?_
 rintro _ w13 ⟨rfl,Z⟩
 have Z:=k12 Z c0
 refine mV (.tuple #[.string x6.1,Bo x6.2]) rfl (L_ex (v:=.string x6.1) rfl rfl rfl (L_ex (v:=Bo x6.2) rfl rfl rfl (aV (.string x6.1) rfl (aB rfl (nq ?_)))))
 obtain ⟨x19,hx19,hF⟩:=bind_some hF
 obtain ⟨x26,hx26,hF⟩:=bind_some hF
 refine W_region (mV (.string x6.1) rfl ?_)
 obtain ⟨H28b,l29,s30,z31,k32⟩:=Z.borrow
 refine L_call rfl Tryz.call139 (ops2 rfl rfl) (strings_TrimPrefix_c (x_:=x6.1) (y_:=(⟨#[120]⟩ : ByteArray)) s30 hx19) ?_
 rintro _ w33 ⟨rfl,Z⟩
 have Z:=k32 Z c0
 obtain ⟨H34b,l35,s36,z37,k38⟩:=Z.borrow
 refine L_call rfl Tryz.call79 (ops1 rfl) (i_number_c (s:=x19) s36 hx26) ?_
 rintro _ w39 ⟨rfl,Z⟩
 have Z:=k38 Z c0
 refine aI rfl (nq (sq (mB rfl (nn ?_))))
 obtain ⟨l_40,hA41,hF⟩:=bind_some hF
 obtain ⟨R41,hR41⟩:=exR fun f w_=>f 0 = .string s∧f 5 = I l_40∧Star H w_ ([])
 refine W_join R41 ?_ ?_
 refine W_cond (b:=x6.2) rfl (fun hc42=>?_) (fun hc42=>?_)
 have hA41:=(ite_t hc42).symm.trans hA41
 refine W_region (mI rfl (L_neg rfl rfl (aI rfl (nn ?_))))
 obtain rfl:=so hA41
 exact rj hR41 ⟨rfl,rfl,Z⟩
 have hA41:=(ite_f hc42).symm.trans hA41
 refine W_skip ?_
 obtain rfl:=so hA41
 exact rj hR41 ⟨rfl,rfl,Z⟩
 intro f w_ hR
 obtain ⟨sf0,sf5,Z⟩:=rk hR41 hR
 refine W_seq (W_seq ?_)
 obtain ⟨x48,hx48,hF⟩:=bind_some hF
 obtain ⟨b57,hb57,hF⟩:=bind_some hF
 obtain ⟨R58,hR58⟩:=exR fun f w_=>f 5 = I l_40∧f 25 = Bo b57∧Star H w_ ([])
 refine W_join R58 ?_ ?_
 refine W_region (mF sf5 rfl ?_)
 obtain ⟨H59b,l60,s61,z62,k63⟩:=Z.borrow
 refine L_call rfl Tryz.call115 (ops1 rfl) (i_isLiteral_c (l:=l_40) s61 hx48) ?_
 rintro _ w64 ⟨rfl,Z⟩
 have Z:=k63 Z c0
 refine L_not_ rfl rfl (mB rfl (L_split (d:=20) (b:=(!x48)) rfl (fun hc65=>?_) (fun hc65=>?_)))
 rw [ite_t hc65] at hb57
 refine ps rfl (ps rfl (ps rfl (ps rfl (L_pick (v:=Bo b57) rfl rfl (congrArg Value.bool (so hb57)) (nn (rj hR58 ⟨sf5,rfl,Z⟩))))))
 rw [ite_f hc65] at hb57
 obtain ⟨x55,hx55,hb57⟩:=bind_some hb57
 refine mF sf5 rfl ?_
 obtain ⟨H66b,l67,s68,z69,k70⟩:=Z.borrow
 refine L_call rfl Tryz.call119 (ops1 rfl) (i_literalText_c (l:=l_40) s68 hx55) ?_
 rintro _ w71 ⟨rfl,Z⟩
 have Z:=k70 Z c0
 refine mF sf0 rfl (L_sneq (s:=x55) (s':=s) rfl rfl rfl (L_pick (v:=Bo b57) rfl rfl (congrArg Value.bool (so hb57)) (nn (rj hR58 ⟨sf5,rfl,Z⟩))))
 intro f w_ hR
 obtain ⟨sf5,sf25,Z⟩:=rk hR58 hR
 refine W_cond (b:=b57) sf25 (fun hc72=>?_) (fun hc72=>?_)
 have hF:=(ite_t hc72).symm.trans hF
 refine sq (aI rfl (nn (W_ret (retG1 (v1:=I 0) Tryz.results107 rfl ?_))))
 obtain rfl:=so hF
 exact ⟨rfl,Z⟩
 have hF:=(ite_f hc72).symm.trans hF
 refine W_skip (sq (mF sf5 rfl (aI rfl (nn (W_ret (retG1 (v1:=I l_40) Tryz.results107 rfl ?_))))))
 obtain rfl:=so hF
 exact ⟨rfl,Z⟩
theorem i_ParseConstraint_c {fu : Nat} {text : ByteArray} {H : FH} {w : World} (Z : Star H w []) {r : Con × Bool} (hF : i_ParseConstraint fu text = some r) :
 C Tryz.prog 108 #[.string text] w fun v w'=>∃ (u1 : Value),v = .tuple #[.agg #[u1,I r.1.bound],Bo r.2]∧Star H w' [oF 126 rTerm u1 r.1.terms]:=by
 unfold i_ParseConstraint at hF
 refine C_enter Tryz.func108 rfl Tryz.ntmps108 rfl (sq (L_al (cs:=#[S0,I 0]) rfl Tryz.zeroValue74 rfl Z (fun g3 w4 Z=>aB rfl (nq ?_))))
 obtain ⟨x10,hx10,hF⟩:=bind_some hF
 refine W_region (mV (.string text) rfl ?_)
 obtain ⟨H13b,l14,s15,z16,k17⟩:=Z.borrow
 refine L_call rfl Tryz.call75 (ops2 rfl rfl) (strings_Split_c (x_:=text) (y_:=(⟨#[32]⟩ : ByteArray)) s15 hx10) ?_
 rintro r18_0 w18 ⟨_,rfl,Z⟩
 have Z:=k17 Z (co closed_str c0)
 refine aV r18_0 rfl (ns (mV r18_0 rfl (L_len rfl Tryz.underlying44 rfl (Star.len 0 Z rfl) (L_sub rfl rfl rfl (aI rfl (nq (W_seq ?_)))))))
 obtain ⟨R20,hR20⟩:=exR fun f w_=>f 0 = .string text∧f 2 = Pt g3∧f 4 = r18_0∧f 5 = I (i64 ((x10.length : Int) - 2))∧f 23 = Bo (((decide ((i64 ((x10.length : Int) - 2)) < 0)) || (decide ((i64 ((x10.length : Int) - 2)) > 24))) || ((Int.tmod (i64 ((x10.length : Int) - 2)) 2) != 0))∧Star H w_ ([oF 9 RP.str r18_0 x10,box g3 74 #[S0,I 0]])
 refine W_join R20 ?_ ?_
 refine W_region (mI rfl (L_lss rfl rfl rfl (mB rfl (L_split (d:=15) (b:=decide ((i64 ((x10.length : Int) - 2)) < 0)) rfl (fun hc21=>?_) (fun hc21=>?_)))))
 refine ps rfl (ps rfl (L_pick (v:=Bo ((decide ((i64 ((x10.length : Int) - 2)) < 0)) || (decide ((i64 ((x10.length : Int) - 2)) > 24)))) rfl rfl (or_t hc21) (mB rfl (L_split (d:=19) (b:=((decide ((i64 ((x10.length : Int) - 2)) < 0)) || (decide ((i64 ((x10.length : Int) - 2)) > 24)))) rfl (fun hc22=>?_) (fun hc22=>?_)))))
 refine ps rfl (ps rfl (ps rfl (L_pick (v:=Bo (((decide ((i64 ((x10.length : Int) - 2)) < 0)) || (decide ((i64 ((x10.length : Int) - 2)) > 24))) || ((Int.tmod (i64 ((x10.length : Int) - 2)) 2) != 0))) rfl rfl (or_t hc22) (nn (rj hR20 ⟨rfl,rfl,rfl,rfl,rfl,Z⟩)))))
 refine mI rfl (L_rem (m:=i64 ((x10.length : Int) - 2)) (n:=2) rfl rfl rfl (by decide) (L_neq rfl rfl rfl (L_pick (v:=Bo (((decide ((i64 ((x10.length : Int) - 2)) < 0)) || (decide ((i64 ((x10.length : Int) - 2)) > 24))) || ((Int.tmod (i64 ((x10.length : Int) - 2)) 2) != 0))) rfl rfl (or_f hc22 rfl) (nn (rj hR20 ⟨rfl,rfl,rfl,rfl,rfl,Z⟩)))))
 refine mI rfl (L_gtr rfl rfl rfl (L_pick (v:=Bo ((decide ((i64 ((x10.length : Int) - 2)) < 0)) || (decide ((i64 ((x10.length : Int) - 2)) > 24)))) rfl rfl (or_f hc21 rfl) (mB rfl (L_split (d:=19) (b:=((decide ((i64 ((x10.length : Int) - 2)) < 0)) || (decide ((i64 ((x10.length : Int) - 2)) > 24)))) rfl (fun hc23=>?_) (fun hc23=>?_)))))
 refine ps rfl (ps rfl (ps rfl (L_pick (v:=Bo (((decide ((i64 ((x10.length : Int) - 2)) < 0)) || (decide ((i64 ((x10.length : Int) - 2)) > 24))) || ((Int.tmod (i64 ((x10.length : Int) - 2)) 2) != 0))) rfl rfl (or_t hc23) (nn (rj hR20 ⟨rfl,rfl,rfl,rfl,rfl,Z⟩)))))
 refine mI rfl (L_rem (m:=i64 ((x10.length : Int) - 2)) (n:=2) rfl rfl rfl (by decide) (L_neq rfl rfl rfl (L_pick (v:=Bo (((decide ((i64 ((x10.length : Int) - 2)) < 0)) || (decide ((i64 ((x10.length : Int) - 2)) > 24))) || ((Int.tmod (i64 ((x10.length : Int) - 2)) 2) != 0))) rfl rfl (or_f hc23 rfl) (nn (rj hR20 ⟨rfl,rfl,rfl,rfl,rfl,Z⟩)))))
 intro f w_ hR
 obtain ⟨sf0,sf2,sf4,sf5,sf23,Z⟩:=rk hR20 hR
 refine W_cond (b:=(((decide ((i64 ((x10.length : Int) - 2)) < 0)) || (decide ((i64 ((x10.length : Int) - 2)) > 24))) || ((Int.tmod (i64 ((x10.length : Int) - 2)) 2) != 0))) sf23 (fun hc24=>?_) (fun hc24=>?_)
 have hF:=(ite_t hc24).symm.trans hF
 refine sq (L_bld rfl (parts0 ) (bld_74_  ) (L_staB (vs:=#[S0,I 0]) (cs2:=#[S0,I 0]) 1 rfl Tryz.sizeOf74 sf2 rfl rfl (ones_cons rfl (ones_cons rfl ones_nil)) Z rfl (by show 0 + 2≤2; decide) rfl (fun w26 Z=>aB rfl (nn (W_ret (retG2 (v1:=.agg #[S0,I 0]) (v2:=Bo false) Tryz.results108 (resV_agg Tryz.isAgg74 Tryz.sizeOf74 sf2 (Star.blkAt 0 Z rfl) rfl) rfl ?_))))))
 obtain rfl:=so hF
 have Z:=Star.addNil (R:=(OR.frz rTerm)) (e:=126) Z
 exact ⟨S0,rfl,(Star.keepN 1 Z)⟩
 have hF:=(ite_f hc24).symm.trans hF
 refine W_skip (W_seq ?_)
 obtain ⟨x28,hx28,hF⟩:=bind_some hF
 obtain ⟨x38,hx38,hF⟩:=bind_some hF
 refine W_region (mF sf4 rfl (mF sf5 rfl (L_add rfl rfl rfl ?_)))
 obtain ⟨g43,cap_g43,hv44,_,_⟩:=Star.row 0 Z rfl hx28
 refine L_ixO (R:=(OR.frz RP.str)) (tb:=0) 0 rfl Tryz.underlying44 Tryz.sizeOf9 rfl hv44 (by first | rfl | simp) rfl hx28 ?_
 obtain ⟨cs45,hr45,hat45⟩:=Star.eltF 0 Z rfl hv44 hx28
 obtain rfl : _ = [_]:=hr45
 refine L_ld rfl Tryz.isAgg9 rfl (At.cell hat45 (j:=0) rfl) ?_
 obtain ⟨H47b,l48,s49,z50,k51⟩:=Z.borrow
 refine L_call rfl Tryz.call79 (ops1 rfl) (i_number_c (s:=x28) s49 hx38) ?_
 rintro _ w52 ⟨rfl,Z⟩
 have Z:=k51 Z c0
 refine L_bld rfl (parts1 rfl) (bld_74_1 (I x38) rfl) (L_al (cs:=#[S0,I 0]) rfl Tryz.zeroValue74 rfl Z (fun g53 w54 Z=>L_staB (vs:=#[S0,I x38]) (cs2:=#[S0,I x38]) 0 rfl Tryz.sizeOf74 rfl rfl rfl (ones_cons rfl (ones_cons rfl ones_nil)) Z rfl (by show 0 + 2≤2; decide) rfl (fun w55 Z=>nq (sq (aI rfl (nn ?_))))))
 obtain ⟨j62,hL62,hF⟩:=bind_some hF
 obtain ⟨R62,hR62⟩:=exR fun f w_=>∃ i_57 : Int,∃ g53_0_58 : List Term,∃ H60 : FH,∃ v58_g53_0 : Value,j62 = .nx (i_57,g53_0_58)∧Le H H60∧f 0 = .string text∧f 2 = Pt g3∧f 6 = Pt g53∧Star H60 w_ ([oF 126 rTerm v58_g53_0 g53_0_58,box g53 74 #[v58_g53_0,I x38],box g3 74 #[S0,I 0]])
 refine W_join R62 ?_ ?_
 refine W_block ?_
 obtain ⟨I62,hI62⟩:=exI fun n f w_=>∃ i_57 : Int,∃ g53_0_58 : List Term,∃ H60 : FH,∃ v58_g53_0 : Value,whileL (i_ParseConstraint_b1 x10) n (i_57,g53_0_58) = some j62∧Le H H60∧f 0 = .string text∧f 2 = Pt g3∧f 4 = r18_0∧f 5 = I (i64 ((x10.length : Int) - 2))∧f 6 = Pt g53∧f 7 = I i_57∧Star H60 w_ ([oF 9 RP.str r18_0 x10,oF 126 rTerm v58_g53_0 g53_0_58,box g53 74 #[v58_g53_0,I x38],box g3 74 #[S0,I 0]])
 have Z:=Star.addNil (R:=(OR.frz rTerm)) (e:=126) Z
 have Z:=Z.gets [3,2,2,3] rfl
 refine W_loop I62 (n:=fu) ?_ ?_
 exact ij hI62 ⟨0,[],H,S0,hL62,(Le.refl _),sf0,sf2,sf4,sf5,rfl,rfl,Z⟩
 intro n62 f w_ hI
 obtain ⟨i_57,g53_0_58,H60,v58_g53_0,hL62,l61,sf0,sf2,sf4,sf5,sf6,sf7,Z⟩:=ik hI62 hI
 rcases n62 with _ | n62
 exact (while_zero hL62).elim
 obtain ⟨o62,hB62,hL62⟩:=while_succ hL62
 rw [i_ParseConstraint_b1] at hB62
 refine W_seq (sq (mF sf7 rfl (mF sf5 rfl (L_lss rfl rfl rfl (nn (W_cond (b:=decide (i_57 < (i64 ((x10.length : Int) - 2)))) rfl (fun hc64=>?_) (fun hc64=>?_)))))))
 have hB62:=(ite_t hc64).symm.trans hB62
 refine W_skip (W_seq (W_block ?_))
 obtain ⟨x65,hx65,hB62⟩:=bind_some hB62
 obtain ⟨x75,hx75,hB62⟩:=bind_some hB62
 obtain ⟨x77,hx77,hB62⟩:=bind_some hB62
 obtain ⟨x85,hx85,hB62⟩:=bind_some hB62
 obtain ⟨x90,hx90,hB62⟩:=bind_some hB62
 obtain ⟨g96,cap_g96,hv97,_,_⟩:=Star.row 0 Z rfl hx65
 refine W_drawS 15 [isV (Pt g53),isV (v58_g53_0),isV (r18_0),isV (I i_57),isV (.pointer (some ⟨g96,Int.toNat i_57 * 1,none⟩)),isV (.string x65),isV (I x75),isV (r18_0),isV (I i_57),isV (I (i64 (i_57 + 1))),isV (.pointer (some ⟨g96,Int.toNat (i64 (i_57 + 1)) * 1,none⟩)),isV (.string x77),isV (I x85),isV (.agg #[I x75,I x85]),anyF] [oF 9 RP.str r18_0 x10,oF 126 rTerm v58_g53_0 g53_0_58,box g53 74 #[v58_g53_0,I x38],box g3 74 #[S0,I 0]] [.made 14 51 (fun v_=>oF 126 rTerm v_ ([({ coef:=x75,lit:=x85 } : Term)])) none] ([]) [([],[]),([],[]),([],[]),([],[]),([],[]),([],[]),([],[]),([],[]),([],[]),([],[]),([],[]),([],[]),([],[]),([],[]),([],[0])] (S:=[(some 14,[51],none)]) Tryz_mix (by kernel_rfl) rfl (by kernel_rfl) (amF_cons (mono_V _) (amF_cons (mono_V _) (amF_cons (mono_V _) (amF_cons (mono_V _) (amF_cons (mono_V _) (amF_cons (mono_V _) (amF_cons (mono_V _) (amF_cons (mono_V _) (amF_cons (mono_V _) (amF_cons (mono_V _) (amF_cons (mono_V _) (amF_cons (mono_V _) (amF_cons (mono_V _) (amF_cons (mono_V _) (amF_cons (mono_any) amF_nil))))))))))))))) Z ?_ (fun f w_ H95 hS95 hE95 hT95 Z=>?_)
 refine opsS_cons (fun f w_ _ _ s _ _ Z=>fA 0 fa_74_0 ((s 6 rfl).trans sf6) rfl (nO rfl rfl Z)) (opsS_cons (fun f w_ _ _ _ _ p Z=>ldB 2 Z Tryz.isAgg72 (p 0 37 rfl rfl) rfl rfl (nO rfl rfl Z)) (opsS_cons (fun f w_ _ _ s _ _ Z=>mF ((s 4 rfl).trans sf4) rfl (nO rfl rfl Z)) (opsS_cons (fun f w_ _ _ s _ _ Z=>mF ((s 7 rfl).trans sf7) rfl (nO rfl rfl Z)) (opsS_cons (fun f w_ _ _ _ _ p Z=>L_ixO (R:=(OR.frz RP.str)) (tb:=0) 0 rfl Tryz.underlying44 Tryz.sizeOf9 (p 2 39 rfl rfl) hv97 (by first | rfl | simp) (p 3 40 rfl rfl) hx65 (nO rfl rfl Z)) (opsS_cons ?_ ?_)))))
 intro f w_ H95 X95 hS95 hE95 hP95 Z
 obtain ⟨cs117,hr117,hat117⟩:=Star.eltF 0 Z rfl hv97 hx65
 obtain rfl : _ = [_]:=hr117
 refine L_ld rfl Tryz.isAgg9 (hP95 4 41 rfl rfl) (At.cell hat117 (j:=0) rfl) (L_nil ⟨rfl,_,_,rfl,Le.refl _,fun _ _=>rfl,Z⟩)
 refine opsS_cons ?_ ?_
 intro f w_ H95 X95 hS95 hE95 hP95 Z
 obtain ⟨H119b,l120,s121,z122,k123⟩:=Z.borrow
 refine L_call rfl Tryz.call79 (ops1 (hP95 5 42 rfl rfl)) (i_number_c (s:=x65) s121 hx75) ?_
 rintro _ w124 ⟨rfl,Z⟩
 have Z:=k123 Z c0
 exact L_nil ⟨rfl,_,_,rfl,Le.refl _,fun _ _=>rfl,Z⟩
 refine opsS_cons (fun f w_ _ _ s _ _ Z=>mF ((s 4 rfl).trans sf4) rfl (nO rfl rfl Z)) (opsS_cons (fun f w_ _ _ s _ _ Z=>mF ((s 7 rfl).trans sf7) rfl (nO rfl rfl Z)) (opsS_cons (fun f w_ _ _ _ _ p Z=>L_add rfl (p 8 45 rfl rfl) rfl (nO rfl rfl Z)) (opsS_cons (fun f w_ _ _ _ _ p Z=>L_ixO (R:=(OR.frz RP.str)) (tb:=0) 0 rfl Tryz.underlying44 Tryz.sizeOf9 (p 7 44 rfl rfl) hv97 (by first | rfl | simp) (p 9 46 rfl rfl) hx77 (nO rfl rfl Z)) (opsS_cons ?_ ?_))))
 intro f w_ H95 X95 hS95 hE95 hP95 Z
 obtain ⟨cs125,hr125,hat125⟩:=Star.eltF 0 Z rfl hv97 hx77
 obtain rfl : _ = [_]:=hr125
 refine L_ld rfl Tryz.isAgg9 (hP95 10 47 rfl rfl) (At.cell hat125 (j:=0) rfl) (L_nil ⟨rfl,_,_,rfl,Le.refl _,fun _ _=>rfl,Z⟩)
 refine opsS_cons ?_ ?_
 intro f w_ H95 X95 hS95 hE95 hP95 Z
 obtain ⟨H127b,l128,s129,z130,k131⟩:=Z.borrow
 refine L_call rfl Tryz.call107 (ops1 (hP95 11 48 rfl rfl)) (i_readLiteral_c (s:=x77) s129 hx85) ?_
 rintro _ w132 ⟨rfl,Z⟩
 have Z:=k131 Z c0
 exact L_nil ⟨rfl,_,_,rfl,Le.refl _,fun _ _=>rfl,Z⟩
 refine opsS_cons (fun f w_ _ _ _ _ p Z=>L_bld rfl (parts2 (p 6 43 rfl rfl) (p 12 49 rfl rfl)) (bld_126_0_1 (I x75) (I x85) rfl rfl) (nO rfl rfl Z)) (opsS_cons ?_ ?_)
 intro f w_ H95 X95 hS95 hE95 hP95 Z
 refine L_bs rfl (parts1 (hP95 13 50 rfl rfl)) (bs_72_1_2 (I x75) (I x85) ) Z (fun g133 w134 Z=>?_)
 have Z:=Star.addF (r:=rTerm) (cs:=[I x75,I x85]) (x:=({ coef:=x75,lit:=x85 } : Term)) Z (rTerm_iff.2 rfl)
 have Z:=Star.mkRow (R:=(OR.frz rTerm)) [([I x75,I x85],({ coef:=x75,lit:=x85 } : Term))] [({ coef:=x75,lit:=x85 } : Term)] 1 Z rfl rfl rfl (by decide)
 have Z:=Z.gets [4,4,4,4] rfl
 exact L_nil ⟨rfl,_,_,rfl,Le.refl _,fun _ _=>trivial,Z⟩
 exact opsS_nil
 have Z : Star H95 w_ ([oF 9 RP.str r18_0 x10,oF 126 rTerm v58_g53_0 g53_0_58,box g53 74 #[v58_g53_0,I x38],box g3 74 #[S0,I 0],oF 126 rTerm (f 51) ([({ coef:=x75,lit:=x85 } : Term)])]):=Z
 have Z:=Z.gets [4,2] rfl
 refine L_appM (v:=v58_g53_0) (u:=(f 51)) rfl et_72 (hT95 1 38 rfl rfl) rfl Z hx90 (fun v137 w138 Z=>fA 0 fa_74_0 ((hS95 6 rfl).trans sf6) rfl (L_stB (v:=v137) (cs2:=#[v137,I x38]) 2 rfl Tryz.sizeOf72 rfl rfl (one_len (Star.len 0 Z rfl)) Z rfl rfl rfl (fun w140 Z=>nn (W_region (mF ((hS95 7 rfl).trans sf7) rfl (L_add rfl rfl rfl (aI rfl (nn ?_))))))))
 obtain rfl:=so hB62
 have Z:=Z.gets [3,1,2,3] rfl
 show ∃ m,m < _∧I62 m _ _
 refine ⟨n62,Nat.lt_succ_self _,?_⟩
 exact ij hI62 ⟨i64 (i_57 + 2),x90,H95,v137,hL62,(Le.trans l61 hE95),((hS95 0 rfl).trans sf0),((hS95 2 rfl).trans sf2),((hS95 4 rfl).trans sf4),((hS95 5 rfl).trans sf5),((hS95 6 rfl).trans sf6),rfl,Z⟩
 have hB62:=(ite_f hc64).symm.trans hB62
 refine W_exit ?_
 obtain rfl:=so hB62
 obtain rfl:=so hL62
 have Z:=Z.gets [3,3,3] rfl
 exact rj hR62 ⟨i_57,g53_0_58,H60,v58_g53_0,rfl,l61,sf0,sf2,sf6,(Star.keepN 3 Z)⟩
 intro f w_ hR
 obtain ⟨i_57,g53_0_58,H60,v58_g53_0,rfl,l61,sf0,sf2,sf6,Z⟩:=rk hR62 hR
 refine W_seq (W_seq ?_)
 obtain ⟨x147,hx147,hF⟩:=bind_some hF
 obtain ⟨b157,hb157,hF⟩:=bind_some hF
 obtain ⟨R158,hR158⟩:=exR fun f w_=>f 2 = Pt g3∧f 6 = Pt g53∧f 62 = Bo b157∧Star H60 w_ ([oF 126 rTerm v58_g53_0 g53_0_58,box g53 74 #[v58_g53_0,I x38],box g3 74 #[S0,I 0]])
 refine W_join R158 ?_ ?_
 refine W_region (L_lda (cs:=[v58_g53_0,I x38]) rfl Tryz.isAgg74 Tryz.sizeOf74 sf6 (At.sub0 (Blk.at (Star.blkAt 1 Z rfl)) 0 2) rfl ?_)
 obtain ⟨H159b,l160,s161,z162,k163⟩:=Z.borrow
 have hb164 : (rS 126 rTerm).rel H159b [v58_g53_0] g53_0_58:=fz_own 0 z162 rfl
 refine L_call rfl Tryz.call116 (ops1 rfl) (i_ConstraintValid_c (c:=({ terms:=g53_0_58,bound:=x38 } : Con)) s161 hb164 hx147) ?_
 rintro _ w165 ⟨rfl,Z⟩
 have Z:=k163 Z c0
 refine L_not_ rfl rfl (mB rfl (L_split (d:=57) (b:=(!x147)) rfl (fun hc166=>?_) (fun hc166=>?_)))
 rw [ite_t hc166] at hb157
 refine ps rfl (ps rfl (ps rfl (ps rfl (L_pick (v:=Bo b157) rfl rfl (congrArg Value.bool (so hb157)) (nn (rj hR158 ⟨sf2,sf6,rfl,Z⟩))))))
 rw [ite_f hc166] at hb157
 obtain ⟨x155,hx155,hb157⟩:=bind_some hb157
 refine L_lda (cs:=[v58_g53_0,I x38]) rfl Tryz.isAgg74 Tryz.sizeOf74 sf6 (At.sub0 (Blk.at (Star.blkAt 1 Z rfl)) 0 2) rfl ?_
 obtain ⟨H167b,l168,s169,z170,k171⟩:=Z.borrow
 have hb172 : (rS 126 rTerm).rel H167b [v58_g53_0] g53_0_58:=fz_own 0 z170 rfl
 refine L_call rfl Tryz.call120 (ops1 rfl) (i_Constraint_text_c (c:=({ terms:=g53_0_58,bound:=x38 } : Con)) s169 hb172 hx155) ?_
 rintro _ w173 ⟨rfl,Z⟩
 have Z:=k171 Z c0
 refine mF sf0 rfl (L_sneq (s:=x155) (s':=text) rfl rfl rfl (L_pick (v:=Bo b157) rfl rfl (congrArg Value.bool (so hb157)) (nn (rj hR158 ⟨sf2,sf6,rfl,Z⟩))))
 intro f w_ hR
 obtain ⟨sf2,sf6,sf62,Z⟩:=rk hR158 hR
 refine W_cond (b:=b157) sf62 (fun hc174=>?_) (fun hc174=>?_)
 have hF:=(ite_t hc174).symm.trans hF
 refine sq (L_bld rfl (parts0 ) (bld_74_  ) (L_staB (vs:=#[S0,I 0]) (cs2:=#[S0,I 0]) 2 rfl Tryz.sizeOf74 sf2 rfl rfl (ones_cons rfl (ones_cons rfl ones_nil)) Z rfl (by show 0 + 2≤2; decide) rfl (fun w176 Z=>aB rfl (nn (W_ret (retG2 (v1:=.agg #[S0,I 0]) (v2:=Bo false) Tryz.results108 (resV_agg Tryz.isAgg74 Tryz.sizeOf74 sf2 (Star.blkAt 0 Z rfl) rfl) rfl ?_))))))
 obtain rfl:=so hF
 have Z:=Star.addNil (R:=(OR.frz rTerm)) (e:=126) Z
 exact ⟨S0,rfl,(Star.down (Star.keepN 1 Z) l61 (co closed_term c0))⟩
 have hF:=(ite_f hc174).symm.trans hF
 refine W_skip (sq (L_lda (cs:=[v58_g53_0,I x38]) rfl Tryz.isAgg74 Tryz.sizeOf74 sf6 (At.sub0 (Blk.at (Star.blkAt 1 Z rfl)) 0 2) rfl (L_staB (vs:=#[v58_g53_0,I x38]) (cs2:=#[v58_g53_0,I x38]) 2 rfl Tryz.sizeOf74 sf2 rfl rfl (ones_cons (one_len (Star.len 0 Z rfl)) (ones_cons rfl ones_nil)) Z rfl (by show 0 + 2≤2; decide) rfl (fun w179 Z=>aB rfl (nn (W_ret (retG2 (v1:=.agg #[v58_g53_0,I x38]) (v2:=Bo true) Tryz.results108 (resV_agg Tryz.isAgg74 Tryz.sizeOf74 sf2 (Star.blkAt 0 Z rfl) rfl) rfl ?_)))))))
 obtain rfl:=so hF
 have Z:=Z.get 1 rfl
 exact ⟨v58_g53_0,rfl,(Star.down (Star.keepN 1 Z) l61 (co closed_term c0))⟩
theorem i_readStep_c {fu : Nat} {line : ByteArray} {H : FH} {w : World} (Z : Star H w []) {r : Step × Bool} (hF : i_readStep fu line = some r) :
 C Tryz.prog 58 #[.string line] w fun v w'=>∃ (u1 : Value),v = .tuple #[.agg #[I r.1.kind,I r.1.a,I r.1.b,u1,I r.1.given.bound],Bo r.2]∧Star H w' [oF 126 rTerm u1 r.1.given.terms]:=by
 unfold i_readStep at hF
 refine C_enter Tryz.func58 rfl Tryz.ntmps58 rfl (sq (L_al (cs:=#[I 0,I 0,I 0,S0,I 0]) rfl Tryz.zeroValue76 rfl Z (fun g3 w4 Z=>aB rfl (nq ?_))))
 obtain ⟨x10,hx10,hF⟩:=bind_some hF
 refine W_region (mV (.string line) rfl ?_)
 obtain ⟨H12b,l13,s14,z15,k16⟩:=Z.borrow
 refine L_call rfl Tryz.call105 (ops2 rfl rfl) (strings_Cut_c (x_:=line) (y_:=(⟨#[32]⟩ : ByteArray)) s14 hx10) ?_
 rintro _ w17 ⟨rfl,Z⟩
 have Z:=k16 Z c0
 refine mV (.tuple #[.string x10.1,.string x10.2.1,Bo x10.2.2]) rfl (L_ex (v:=.string x10.1) rfl rfl rfl (L_ex (v:=.string x10.2.1) rfl rfl rfl (L_ex (v:=Bo x10.2.2) rfl rfl rfl (aV (.string x10.1) rfl (aV (.string x10.2.1) rfl (aB rfl (nq ?_)))))))
 obtain ⟨x23,hx23,hF⟩:=bind_some hF
 obtain ⟨x32,hx32,hF⟩:=bind_some hF
 refine W_region ?_
 obtain ⟨H37b,l38,s39,z40,k41⟩:=Z.borrow
 refine L_call rfl Tryz.call106 ops0 (i_stepWords_c s39 hx23) ?_
 rintro r42_0 w42 ⟨_,rfl,Z⟩
 have Z:=k41 Z (co closed_str c0)
 refine mV (.string x10.1) rfl ?_
 obtain ⟨H44b,l45,s46,z47,k48⟩:=Z.borrow
 have hb49 : (rS 9 RP.str).rel H44b [r42_0] x23:=fz_own 0 z47 rfl
 refine L_call rfl Tryz.call77 (ops2 rfl rfl) (slices_Index_string_c (s:=x23) (v_:=x10.1) s46 hb49 hx32) ?_
 rintro _ w50 ⟨rfl,Z⟩
 have Z:=k48 Z c0
 refine L_max rfl rfl rfl (L_bld rfl (parts1 rfl) (bld_76_0 (I (max 0 x32)) rfl) (L_al (cs:=#[I 0,I 0,I 0,S0,I 0]) rfl Tryz.zeroValue76 rfl Z (fun g51 w52 Z=>L_staB (vs:=#[I (max 0 x32),I 0,I 0,S0,I 0]) (cs2:=#[I (max 0 x32),I 0,I 0,S0,I 0]) 0 rfl Tryz.sizeOf76 rfl rfl rfl (ones_cons rfl (ones_cons rfl (ones_cons rfl (ones_cons rfl (ones_cons rfl ones_nil))))) Z rfl (by show 0 + 5≤5; decide) rfl (fun w53 Z=>nq (sq (fA 0 fa_76_0 rfl rfl (ldB 0 Z Tryz.isAgg3 rfl rfl rfl (nn (W_block (sq (L_eql rfl rfl rfl (aB rfl (nn ?_)))))))))))))
 obtain ⟨⟨g51_1_54,g51_2_55,g51_3_56,g51_4_58⟩,hA59,hF⟩:=bind_some hF
 obtain ⟨R59,hR59⟩:=exR fun f w_=>∃ v56_g51_3 : Value,f 0 = .string line∧f 2 = Pt g3∧f 7 = Pt g51∧Star H w_ ([oF 126 rTerm v56_g51_3 g51_3_56,box g51 76 #[I (max 0 x32),I g51_1_54,I g51_2_55,v56_g51_3,I g51_4_58],box g3 76 #[I 0,I 0,I 0,S0,I 0]])
 refine W_join R59 ?_ ?_
 refine W_cond (b:=((max 0 x32) == 6)) rfl (fun hc60=>?_) (fun hc60=>?_)
 have hA59:=(ite_t hc60).symm.trans hA59
 obtain ⟨x66,hx66,hA59⟩:=bind_some hA59
 refine W_region (mV (.string x10.2.1) rfl ?_)
 obtain ⟨H69b,l70,s71,z72,k73⟩:=Z.borrow
 refine L_call rfl Tryz.call107 (ops1 rfl) (i_readLiteral_c (s:=x10.2.1) s71 hx66) ?_
 rintro _ w74 ⟨rfl,Z⟩
 have Z:=k73 Z c0
 refine fA 1 fa_76_1 rfl rfl (L_stB (v:=I x66) (cs2:=#[I (max 0 x32),I x66,I 0,S0,I 0]) 0 rfl Tryz.sizeOf3 rfl rfl rfl Z rfl rfl rfl (fun w75 Z=>nn ?_))
 obtain ⟨rfl,rfl,rfl,rfl⟩:=so4 hA59
 have Z:=Star.addNil (R:=(OR.frz rTerm)) (e:=126) Z
 have Z:=Z.gets [3,2,2] rfl
 exact rj hR59 ⟨S0,rfl,rfl,rfl,(Star.keepN 3 Z)⟩
 have hA59:=(ite_f hc60).symm.trans hA59
 refine sq (L_eql rfl rfl rfl (aB rfl (nn ?_)))
 obtain ⟨⟨g51_1_77,g51_2_78,g51_3_79,g51_4_81⟩,hA82,hA59⟩:=bind_some hA59
 obtain ⟨R82,hR82⟩:=exR fun f w_=>∃ v79_g51_3 : Value,f 0 = .string line∧f 2 = Pt g3∧f 7 = Pt g51∧Star H w_ ([oF 126 rTerm v79_g51_3 g51_3_79,box g51 76 #[I (max 0 x32),I g51_1_77,I g51_2_78,v79_g51_3,I g51_4_81],box g3 76 #[I 0,I 0,I 0,S0,I 0]])
 refine W_join R82 ?_ ?_
 refine W_cond (b:=((max 0 x32) == 7)) rfl (fun hc83=>?_) (fun hc83=>?_)
 have hA82:=(ite_t hc83).symm.trans hA82
 obtain ⟨x89,hx89,hA82⟩:=bind_some hA82
 refine W_region (mV (.string x10.2.1) rfl ?_)
 obtain ⟨H93b,l94,s95,z96,k97⟩:=Z.borrow
 refine L_call rfl Tryz.call108 (ops1 rfl) (i_ParseConstraint_c (text:=x10.2.1) s95 hx89) ?_
 rintro _ w98 ⟨r98_0,rfl,Z⟩
 have Z:=k97 Z (co closed_term c0)
 refine mV (.tuple #[.agg #[r98_0,I x89.1.bound],Bo x89.2]) rfl (L_ex (v:=.agg #[r98_0,I x89.1.bound]) rfl rfl rfl (L_ex (v:=Bo x89.2) rfl rfl rfl (fA 3 fa_76_3 rfl rfl (L_staB (vs:=#[r98_0,I x89.1.bound]) (cs2:=#[I (max 0 x32),I 0,I 0,r98_0,I x89.1.bound]) 1 rfl Tryz.sizeOf74 rfl rfl rfl (ones_cons (one_len (Star.len 0 Z rfl)) (ones_cons rfl ones_nil)) Z rfl (by show 3 + 2≤5; decide) rfl (fun w100 Z=>nn ?_)))))
 obtain ⟨rfl,rfl,rfl,rfl⟩:=so4 hA82
 have Z:=Z.gets [3,1,2] rfl
 exact rj hR82 ⟨r98_0,rfl,rfl,rfl,(Star.keepN 3 Z)⟩
 have hA82:=(ite_f hc83).symm.trans hA82
 refine W_seq ?_
 obtain ⟨x106,hx106,hA82⟩:=bind_some hA82
 refine W_region (mV (.string x10.2.1) rfl ?_)
 obtain ⟨H108b,l109,s110,z111,k112⟩:=Z.borrow
 refine L_call rfl Tryz.call105 (ops2 rfl rfl) (strings_Cut_c (x_:=x10.2.1) (y_:=(⟨#[32]⟩ : ByteArray)) s110 hx106) ?_
 rintro _ w113 ⟨rfl,Z⟩
 have Z:=k112 Z c0
 refine mV (.tuple #[.string x106.1,.string x106.2.1,Bo x106.2.2]) rfl (L_ex (v:=.string x106.1) rfl rfl rfl (L_ex (v:=.string x106.2.1) rfl rfl rfl (L_ex (v:=Bo x106.2.2) rfl rfl rfl (aV (.string x106.1) rfl (aV (.string x106.2.1) rfl (aB rfl (nq ?_)))))))
 obtain ⟨x119,hx119,hA82⟩:=bind_some hA82
 refine W_region (mV (.string x106.1) rfl ?_)
 obtain ⟨H122b,l123,s124,z125,k126⟩:=Z.borrow
 refine L_call rfl Tryz.call79 (ops1 rfl) (i_number_c (s:=x106.1) s124 hx119) ?_
 rintro _ w127 ⟨rfl,Z⟩
 have Z:=k126 Z c0
 refine fA 1 fa_76_1 rfl rfl (L_stB (v:=I x119) (cs2:=#[I (max 0 x32),I x119,I 0,S0,I 0]) 0 rfl Tryz.sizeOf3 rfl rfl rfl Z rfl rfl rfl (fun w128 Z=>ns (mB rfl (nn ?_))))
 obtain ⟨g51_2_129,hA130,hA82⟩:=bind_some hA82
 obtain ⟨R130,hR130⟩:=exR fun f w_=>f 0 = .string line∧f 2 = Pt g3∧f 7 = Pt g51∧Star H w_ ([box g51 76 #[I (max 0 x32),I x119,I g51_2_129,S0,I 0],box g3 76 #[I 0,I 0,I 0,S0,I 0]])
 refine W_join R130 ?_ ?_
 refine W_cond (b:=x106.2.2) rfl (fun hc131=>?_) (fun hc131=>?_)
 have hA130:=(ite_t hc131).symm.trans hA130
 obtain ⟨x137,hx137,hA130⟩:=bind_some hA130
 refine W_region (mV (.string x106.2.1) rfl ?_)
 obtain ⟨H140b,l141,s142,z143,k144⟩:=Z.borrow
 refine L_call rfl Tryz.call79 (ops1 rfl) (i_number_c (s:=x106.2.1) s142 hx137) ?_
 rintro _ w145 ⟨rfl,Z⟩
 have Z:=k144 Z c0
 refine fA 2 fa_76_2 rfl rfl (L_stB (v:=I x137) (cs2:=#[I (max 0 x32),I x119,I x137,S0,I 0]) 0 rfl Tryz.sizeOf3 rfl rfl rfl Z rfl rfl rfl (fun w146 Z=>nn ?_))
 obtain rfl:=so hA130
 have Z:=Z.gets [2,1] rfl
 exact rj hR130 ⟨rfl,rfl,rfl,(Star.keepN 2 Z)⟩
 have hA130:=(ite_f hc131).symm.trans hA130
 refine W_skip ?_
 obtain rfl:=so hA130
 have Z:=Z.gets [2,1] rfl
 exact rj hR130 ⟨rfl,rfl,rfl,(Star.keepN 2 Z)⟩
 intro f w_ hR
 obtain ⟨sf0,sf2,sf7,Z⟩:=rk hR130 hR
 obtain ⟨rfl,rfl,rfl,rfl⟩:=so4 hA82
 have Z:=Star.addNil (R:=(OR.frz rTerm)) (e:=126) Z
 exact rj hR82 ⟨S0,sf0,sf2,sf7,Z⟩
 intro f w_ hR
 obtain ⟨v79_g51_3,sf0,sf2,sf7,Z⟩:=rk hR82 hR
 obtain ⟨rfl,rfl,rfl,rfl⟩:=so4 hA59
 exact rj hR59 ⟨v79_g51_3,sf0,sf2,sf7,Z⟩
 intro f w_ hR
 obtain ⟨v56_g51_3,sf0,sf2,sf7,Z⟩:=rk hR59 hR
 refine W_seq ?_
 obtain ⟨x154,hx154,hF⟩:=bind_some hF
 obtain ⟨b164,hb164,hF⟩:=bind_some hF
 obtain ⟨R171,hR171⟩:=exR fun f w_=>∃ H169 : FH,∃ v167_g3_3 : Value,Le H H169∧f 2 = Pt g3∧f 3 = Bo b164∧Star H169 w_ ([oF 126 rTerm v167_g3_3 g51_3_56,box g3 76 #[I (max 0 x32),I g51_1_54,I g51_2_55,v167_g3_3,I g51_4_58]])
 refine W_join R171 ?_ ?_
 rcases Bool.eq_false_or_eq_true x154 with hc172 | hc172
 rw [ite_t hc172] at hb164
 obtain ⟨x162,hx162,hb164⟩:=bind_some hb164
 refine W_drawS 10 [isV (.agg #[I (max 0 x32),I g51_1_54,I g51_2_55,v56_g51_3,I g51_4_58]),isV (.agg #[I (max 0 x32),I g51_1_54,I g51_2_55,v56_g51_3,I g51_4_58]),isV (Bo x154),isV (Bo x154),isV (.agg #[I (max 0 x32),I g51_1_54,I g51_2_55,v56_g51_3,I g51_4_58]),isV (.string x162),isV (.string line),isV (Bo (ByteArray.toList x162 == ByteArray.toList line)),isV (Bo b164),anyF] [oF 126 rTerm v56_g51_3 g51_3_56,box g51 76 #[I (max 0 x32),I g51_1_54,I g51_2_55,v56_g51_3,I g51_4_58]] [.base (box g3 76 #[I 0,I 0,I 0,S0,I 0]) (some 9),.madeN 9 [] (fun vs_=>box g3 76 #[I (max 0 x32),I g51_1_54,I g51_2_55,v56_g51_3,I g51_4_58]) none] ([]) [([],[]),([],[]),([],[]),([],[]),([],[]),([],[]),([],[]),([],[]),([],[]),([0],[1])] (S:=[(none,[],some 9),(some 9,[],none)]) Tryz_mix (by kernel_rfl) rfl (by kernel_rfl) (amF_cons (mono_V _) (amF_cons (mono_V _) (amF_cons (mono_V _) (amF_cons (mono_V _) (amF_cons (mono_V _) (amF_cons (mono_V _) (amF_cons (mono_V _) (amF_cons (mono_V _) (amF_cons (mono_V _) (amF_cons (mono_any) amF_nil)))))))))) Z ?_ (fun f w_ H166 hS166 hE166 hT166 Z=>?_)
 refine opsS_cons (fun f w_ _ _ s _ _ Z=>L_lda (cs:=[I (max 0 x32),I g51_1_54,I g51_2_55,v56_g51_3,I g51_4_58]) rfl Tryz.isAgg76 Tryz.sizeOf76 ((s 7 rfl).trans sf7) (At.sub0 (Blk.at (Star.blkAt 1 Z rfl)) 0 5) rfl (nO rfl rfl Z)) (opsS_cons (fun f w_ _ _ s _ _ Z=>L_lda (cs:=[I (max 0 x32),I g51_1_54,I g51_2_55,v56_g51_3,I g51_4_58]) rfl Tryz.isAgg76 Tryz.sizeOf76 ((s 7 rfl).trans sf7) (At.sub0 (Blk.at (Star.blkAt 1 Z rfl)) 0 5) rfl (nO rfl rfl Z)) (opsS_cons ?_ ?_))
 intro f w_ H166 X166 hS166 hE166 hP166 Z
 obtain ⟨H188b,l189,s190,z191,k192⟩:=Z.borrow
 have hb193 : (rS 126 rTerm).rel H188b [v56_g51_3] g51_3_56:=fz_own 0 z191 rfl
 refine L_call rfl Tryz.call65 (ops1 (hP166 1 51 rfl rfl)) (i_Step_writable_c (s:=({ kind:=max 0 x32,a:=g51_1_54,b:=g51_2_55,given:=({ terms:=g51_3_56,bound:=g51_4_58 } : Con) } : Step)) s190 hb193 hx154) ?_
 rintro _ w194 ⟨rfl,Z⟩
 have Z:=k192 Z c0
 exact L_nil ⟨rfl,_,_,rfl,Le.refl _,fun _ _=>rfl,Z⟩
 refine opsS_cons (fun f w_ _ _ _ _ p Z=>mF (p 2 52 rfl rfl) rfl (nO rfl rfl Z)) (opsS_cons (fun f w_ _ _ s _ p Z=>L_lda (cs:=[I (max 0 x32),I g51_1_54,I g51_2_55,v56_g51_3,I g51_4_58]) (g_yes rfl (Eq.trans (p 3 53 rfl rfl) (congrArg Value.bool hc172)) rfl) Tryz.isAgg76 Tryz.sizeOf76 ((s 7 rfl).trans sf7) (At.sub0 (Blk.at (Star.blkAt 1 Z rfl)) 0 5) rfl (nO rfl rfl Z)) (opsS_cons ?_ ?_))
 intro f w_ H166 X166 hS166 hE166 hP166 Z
 obtain ⟨H195b,l196,s197,z198,k199⟩:=Z.borrow
 have hb200 : (rS 126 rTerm).rel H195b [v56_g51_3] g51_3_56:=fz_own 0 z198 rfl
 refine L_call (g_yes rfl (Eq.trans (hP166 3 53 rfl rfl) (congrArg Value.bool hc172)) rfl) Tryz.call67 (ops1 (hP166 4 54 rfl rfl)) (i_Step_text_c (s:=({ kind:=max 0 x32,a:=g51_1_54,b:=g51_2_55,given:=({ terms:=g51_3_56,bound:=g51_4_58 } : Con) } : Step)) s197 hb200 hx162) ?_
 rintro _ w201 ⟨rfl,Z⟩
 have Z:=k199 Z c0
 exact L_nil ⟨rfl,_,_,rfl,Le.refl _,fun _ _=>rfl,Z⟩
 refine opsS_cons (fun f w_ _ _ s _ p Z=>L_mv (v:=.string line) (g_yes rfl (Eq.trans (p 3 53 rfl rfl) (congrArg Value.bool hc172)) rfl) ((s 0 rfl).trans sf0) (nO rfl rfl Z)) (opsS_cons (fun f w_ _ _ _ _ p Z=>L_seql (s:=x162) (s':=line) (g_yes rfl (Eq.trans (p 3 53 rfl rfl) (congrArg Value.bool hc172)) rfl) (p 5 55 rfl rfl) (p 6 56 rfl rfl) (nO rfl rfl Z)) (opsS_cons (fun f w_ _ _ _ _ p Z=>pkT (v:=Bo b164) (p 3 53 rfl rfl) hc172 rfl (Eq.trans (p 7 57 rfl rfl) (congrArg Value.bool (so hb164))) (nO rfl rfl Z)) (opsS_cons ?_ ?_)))
 intro f w_ H166 X166 hS166 hE166 hP166 Z
 have Z : Star H166 w_ (oF 126 rTerm v56_g51_3 g51_3_56 :: box g51 76 #[I (max 0 x32),I g51_1_54,I g51_2_55,v56_g51_3,I g51_4_58] :: box g3 76 #[I 0,I 0,I 0,S0,I 0] :: X166):=Z
 refine L_staB (vs:=#[I (max 0 x32),I g51_1_54,I g51_2_55,v56_g51_3,I g51_4_58]) (cs2:=#[I (max 0 x32),I g51_1_54,I g51_2_55,v56_g51_3,I g51_4_58]) 2 rfl Tryz.sizeOf76 ((hS166 2 rfl).trans sf2) (hP166 0 50 rfl rfl) rfl (ones_cons rfl (ones_cons rfl (ones_cons rfl (ones_cons (one_len (Star.len 0 Z rfl)) (ones_cons rfl ones_nil))))) Z rfl (by show 0 + 5≤5; decide) rfl (fun w202 Z=>?_)
 have Z:=Z.gets [2,2] rfl
 exact L_nil ⟨rfl,Bo false,_,rfl,Le.refl _,(fun _ h=>nomatch h),Z⟩
 exact opsS_nil
 have Z : Star H166 w_ ([oF 126 rTerm v56_g51_3 g51_3_56,box g51 76 #[I (max 0 x32),I g51_1_54,I g51_2_55,v56_g51_3,I g51_4_58],box g3 76 #[I (max 0 x32),I g51_1_54,I g51_2_55,v56_g51_3,I g51_4_58]]):=Z
 refine aF (hT166 8 58 rfl rfl) rfl (nn ?_)
 have Z:=Z.gets [2,1] rfl
 exact rj hR171 ⟨H166,v56_g51_3,hE166,((hS166 2 rfl).trans sf2),rfl,(Star.keepN 2 Z)⟩
 rw [ite_f hc172] at hb164
 refine W_drawS 10 [isV (.agg #[I (max 0 x32),I g51_1_54,I g51_2_55,v56_g51_3,I g51_4_58]),isV (.agg #[I (max 0 x32),I g51_1_54,I g51_2_55,v56_g51_3,I g51_4_58]),isV (Bo x154),isV (Bo x154),isV (undef),isV (undef),isV (undef),isV (undef),isV (Bo b164),anyF] [oF 126 rTerm v56_g51_3 g51_3_56,box g51 76 #[I (max 0 x32),I g51_1_54,I g51_2_55,v56_g51_3,I g51_4_58]] [.base (box g3 76 #[I 0,I 0,I 0,S0,I 0]) (some 9),.madeN 9 [] (fun vs_=>box g3 76 #[I (max 0 x32),I g51_1_54,I g51_2_55,v56_g51_3,I g51_4_58]) none] ([]) [([],[]),([],[]),([],[]),([],[]),([],[]),([],[]),([],[]),([],[]),([],[]),([0],[1])] (S:=[(none,[],some 9),(some 9,[],none)]) Tryz_mix (by kernel_rfl) rfl (by kernel_rfl) (amF_cons (mono_V _) (amF_cons (mono_V _) (amF_cons (mono_V _) (amF_cons (mono_V _) (amF_cons (mono_V _) (amF_cons (mono_V _) (amF_cons (mono_V _) (amF_cons (mono_V _) (amF_cons (mono_V _) (amF_cons (mono_any) amF_nil)))))))))) Z ?_ (fun f w_ H166 hS166 hE166 hT166 Z=>?_)
 refine opsS_cons (fun f w_ _ _ s _ _ Z=>L_lda (cs:=[I (max 0 x32),I g51_1_54,I g51_2_55,v56_g51_3,I g51_4_58]) rfl Tryz.isAgg76 Tryz.sizeOf76 ((s 7 rfl).trans sf7) (At.sub0 (Blk.at (Star.blkAt 1 Z rfl)) 0 5) rfl (nO rfl rfl Z)) (opsS_cons (fun f w_ _ _ s _ _ Z=>L_lda (cs:=[I (max 0 x32),I g51_1_54,I g51_2_55,v56_g51_3,I g51_4_58]) rfl Tryz.isAgg76 Tryz.sizeOf76 ((s 7 rfl).trans sf7) (At.sub0 (Blk.at (Star.blkAt 1 Z rfl)) 0 5) rfl (nO rfl rfl Z)) (opsS_cons ?_ ?_))
 intro f w_ H166 X166 hS166 hE166 hP166 Z
 obtain ⟨H211b,l212,s213,z214,k215⟩:=Z.borrow
 have hb216 : (rS 126 rTerm).rel H211b [v56_g51_3] g51_3_56:=fz_own 0 z214 rfl
 refine L_call rfl Tryz.call65 (ops1 (hP166 1 51 rfl rfl)) (i_Step_writable_c (s:=({ kind:=max 0 x32,a:=g51_1_54,b:=g51_2_55,given:=({ terms:=g51_3_56,bound:=g51_4_58 } : Con) } : Step)) s213 hb216 hx154) ?_
 rintro _ w217 ⟨rfl,Z⟩
 have Z:=k215 Z c0
 exact L_nil ⟨rfl,_,_,rfl,Le.refl _,fun _ _=>rfl,Z⟩
 refine opsS_cons (fun f w_ _ _ _ _ p Z=>mF (p 2 52 rfl rfl) rfl (nO rfl rfl Z)) (oP (fun _ _ p=>gN (p 3 53 rfl rfl) hc172 rfl) (fun _=>rfl) (oP (fun _ _ p=>gN (p 3 53 rfl rfl) hc172 rfl) (fun _=>rfl) (oP (fun _ _ p=>gN (p 3 53 rfl rfl) hc172 rfl) (fun _=>rfl) (oP (fun _ _ p=>gN (p 3 53 rfl rfl) hc172 rfl) (fun _=>rfl) (opsS_cons (fun f w_ _ _ _ _ p Z=>pkT (v:=Bo b164) (p 3 53 rfl rfl) hc172 rfl (congrArg Value.bool (so hb164)) (nO rfl rfl Z)) (opsS_cons ?_ ?_))))))
 intro f w_ H166 X166 hS166 hE166 hP166 Z
 have Z : Star H166 w_ (oF 126 rTerm v56_g51_3 g51_3_56 :: box g51 76 #[I (max 0 x32),I g51_1_54,I g51_2_55,v56_g51_3,I g51_4_58] :: box g3 76 #[I 0,I 0,I 0,S0,I 0] :: X166):=Z
 refine L_staB (vs:=#[I (max 0 x32),I g51_1_54,I g51_2_55,v56_g51_3,I g51_4_58]) (cs2:=#[I (max 0 x32),I g51_1_54,I g51_2_55,v56_g51_3,I g51_4_58]) 2 rfl Tryz.sizeOf76 ((hS166 2 rfl).trans sf2) (hP166 0 50 rfl rfl) rfl (ones_cons rfl (ones_cons rfl (ones_cons rfl (ones_cons (one_len (Star.len 0 Z rfl)) (ones_cons rfl ones_nil))))) Z rfl (by show 0 + 5≤5; decide) rfl (fun w218 Z=>?_)
 have Z:=Z.gets [2,2] rfl
 exact L_nil ⟨rfl,Bo false,_,rfl,Le.refl _,(fun _ h=>nomatch h),Z⟩
 exact opsS_nil
 have Z : Star H166 w_ ([oF 126 rTerm v56_g51_3 g51_3_56,box g51 76 #[I (max 0 x32),I g51_1_54,I g51_2_55,v56_g51_3,I g51_4_58],box g3 76 #[I (max 0 x32),I g51_1_54,I g51_2_55,v56_g51_3,I g51_4_58]]):=Z
 refine aF (hT166 8 58 rfl rfl) rfl (nn ?_)
 have Z:=Z.gets [2,1] rfl
 exact rj hR171 ⟨H166,v56_g51_3,hE166,((hS166 2 rfl).trans sf2),rfl,(Star.keepN 2 Z)⟩
 intro f w_ hR
 obtain ⟨H169,v167_g3_3,l170,sf2,sf3,Z⟩:=rk hR171 hR
 refine W_ret (retG2 (v1:=.agg #[I (max 0 x32),I g51_1_54,I g51_2_55,v167_g3_3,I g51_4_58]) (v2:=Bo b164) Tryz.results58 (resV_agg Tryz.isAgg76 Tryz.sizeOf76 sf2 (Star.blkAt 1 Z rfl) rfl) sf3 ?_)
 obtain rfl:=so hF
 exact ⟨v167_g3_3,rfl,(Star.down (Star.keepN 1 Z) l170 (co closed_term c0))⟩
theorem i_ParseProof_c {fu : Nat} {text : ByteArray} {H : FH} {w : World} (Z : Star H w []) {r : (List Step) × Bool} (hF : i_ParseProof fu text = some r) :
 C Tryz.prog 20 #[.string text] w fun v w'=>∃ (u1 : Value),v = .tuple #[u1,Bo r.2]∧Star H w' [oS 76 (oStep 126) u1 r.1]:=by
 unfold i_ParseProof at hF
 refine C_enter Tryz.func20 rfl Tryz.ntmps20 rfl (sq (aV S0 rfl (aB rfl (nq ?_))))
 obtain ⟨x1,hx1,hF⟩:=bind_some hF
 refine W_region (mV (.string text) rfl (L_call rfl Tryz.call32 (ops2 rfl rfl) (i_linesOf_c (text:=text) (most:=1000) Z hx1) ?_))
 rintro _ w3 ⟨H3,l3,r3_0,rfl,hr3_0,Z⟩
 refine mV (.tuple #[r3_0,Bo x1.2]) rfl (L_ex (v:=r3_0) rfl rfl rfl (L_ex (v:=Bo x1.2) rfl rfl rfl (aV r3_0 rfl (aB rfl (nq (sq (mB rfl (L_not_ rfl rfl (nn (W_cond (b:=(!x1.2)) rfl (fun hc4=>?_) (fun hc4=>?_)))))))))))
 have hF:=(ite_t hc4).symm.trans hF
 refine sq (aV S0 rfl (aB rfl (nn (W_ret (retG2 (v1:=S0) (v2:=Bo false) Tryz.results20 rfl rfl ?_)))))
 obtain rfl:=so hF
 have Z:=Star.addNil (R:=(oStep 126)) (e:=76) Z
 exact ⟨S0,rfl,(Star.down Z l3 (co closed_oStep c0))⟩
 have hF:=(ite_f hc4).symm.trans hF
 refine W_skip (sq (aV S0 rfl (nq (sq (mV r3_0 rfl (L_len rfl Tryz.underlying44 rfl (slice_len hr3_0) (mI rfl (nn ?_))))))))
 have hlen9 : List.length x1.1≤9223372036854775807:=len_le (slice_len hr3_0)
 obtain ⟨j9,hL9,hF⟩:=bind_some hF
 obtain ⟨R9,hR9⟩:=exR fun f w_=>∃ steps_7 : List Step,∃ v7_steps : Value,j9 = .nx steps_7∧f 6 = v7_steps∧Star H3 w_ ([oS 76 (oStep 126) v7_steps steps_7])
 refine W_join R9 ?_ ?_
 refine W_block ?_
 obtain ⟨I9,hI9⟩:=exI fun n f w_=>∃ i_6 : Nat,∃ suf9 : List ByteArray,∃ steps_7 : List Step,∃ v7_steps : Value,n = suf9.length∧List.drop i_6 x1.1 = suf9∧i_6 + suf9.length = x1.1.length∧rangeL (i_ParseProof_b1 fu) suf9 i_6 steps_7 = some j9∧f 6 = v7_steps∧f 18 = r3_0∧f 19 = I (x1.1.length : Int)∧f 20 = I i_6∧Star H3 w_ ([oS 76 (oStep 126) v7_steps steps_7])
 have Z:=Star.addNil (R:=(oStep 126)) (e:=76) Z
 refine W_loop I9 (n:=x1.1.length) ?_ ?_
 exact ij hI9 ⟨0,x1.1,[],S0,rfl,rfl,Nat.zero_add _,hL9,rfl,rfl,rfl,rfl,Z⟩
 intro n9 f w_ hI
 obtain ⟨i_6,suf9,steps_7,v7_steps,rfl,hd9,hl9,hL9,sf6,sf18,sf19,sf20,Z⟩:=ik hI9 hI
 refine sq (L_lss rfl sf20 sf19 (nq (W_cond (b:=decide ((i_6 : Int) < (x1.1.length : Int))) rfl (fun hc11=>?_) (fun hc11=>?_))))
 have hlt9:=of_decide_eq_true hc11
 rcases suf9 with _ | ⟨x_9,rest9⟩
 exact absurd hlt9 (by simp at hl9; omega)
 obtain ⟨o9,hB9,hL9⟩:=range_cons hL9
 rw [i_ParseProof_b1] at hB9
 have hix9:=drop_idx hd9
 refine W_skip (W_seq (W_block (sq (L_ix (r:=RP.str) rfl Tryz.underlying44 Tryz.sizeOf9 sf18 hr3_0 sf20 hix9 (fun g16 o17 cs_g16 hrk_hat18 hat18=>?_)))))
 obtain rfl : _ = [_]:=hrk_hat18
 refine L_ld rfl Tryz.isAgg9 rfl (At.cell (AtH.at hat18 Z.sub) (j:=0) rfl) (aV (.string x_9) rfl (nq ?_))
 obtain ⟨x25,hx25,hB9⟩:=bind_some hB9
 refine W_region (mV (.string x_9) rfl ?_)
 obtain ⟨H31b,l32,s33,z34,k35⟩:=Z.borrow
 refine L_call rfl Tryz.call58 (ops1 rfl) (i_readStep_c (line:=x_9) s33 hx25) ?_
 rintro _ w36 ⟨r36_0,rfl,Z⟩
 have Z:=k35 Z (co closed_term c0)
 refine mV (.tuple #[.agg #[I x25.1.kind,I x25.1.a,I x25.1.b,r36_0,I x25.1.given.bound],Bo x25.2]) rfl (L_ex (v:=.agg #[I x25.1.kind,I x25.1.a,I x25.1.b,r36_0,I x25.1.given.bound]) rfl rfl rfl (L_ex (v:=Bo x25.2) rfl rfl rfl (L_al (cs:=#[I 0,I 0,I 0,S0,I 0]) rfl Tryz.zeroValue76 rfl Z (fun g38 w39 Z=>L_staB (vs:=#[I x25.1.kind,I x25.1.a,I x25.1.b,r36_0,I x25.1.given.bound]) (cs2:=#[I x25.1.kind,I x25.1.a,I x25.1.b,r36_0,I x25.1.given.bound]) 0 rfl Tryz.sizeOf76 rfl rfl rfl (ones_cons rfl (ones_cons rfl (ones_cons rfl (ones_cons (one_len (Star.len 1 Z rfl)) (ones_cons rfl ones_nil))))) Z rfl (by show 0 + 5≤5; decide) rfl (fun w40 Z=>aB rfl (nq (sq (mB rfl (L_not_ rfl rfl (nn (W_cond (b:=(!x25.2)) rfl (fun hc41=>?_) (fun hc41=>?_))))))))))))
 have hB9:=(ite_t hc41).symm.trans hB9
 refine sq (aV S0 rfl (aB rfl (nn (W_ret (retG2 (v1:=S0) (v2:=Bo false) Tryz.results20 rfl rfl ?_)))))
 obtain rfl:=so hB9
 obtain rfl:=so hL9
 obtain rfl:=so hF
 have Z:=Star.addNil (R:=(oStep 126)) (e:=76) Z
 exact ⟨S0,rfl,(Star.down (Star.keepN 1 Z) l3 (co closed_oStep c0))⟩
 have hB9:=(ite_f hc41).symm.trans hB9
 refine W_skip ?_
 obtain ⟨x46,hx46,hB9⟩:=bind_some hB9
 refine W_region (mF sf6 rfl (L_lda (cs:=[I x25.1.kind,I x25.1.a,I x25.1.b,r36_0,I x25.1.given.bound]) rfl Tryz.isAgg76 Tryz.sizeOf76 rfl (At.sub0 (Blk.at (Star.blkAt 0 Z rfl)) 0 5) rfl (L_bs rfl (parts1 rfl) (bs_37_1_5 (I x25.1.kind) (I x25.1.a) (I x25.1.b) (r36_0) (I x25.1.given.bound) ) Z (fun g50 w51 Z=>?_))))
 have Z:=Z.get 2 rfl
 have Z:=oStep_close (s:=x25.1) Z
 have Z:=Star.mkRow (R:=(oStep 126)) [([I x25.1.kind,I x25.1.a,I x25.1.b,r36_0,I x25.1.given.bound],x25.1)] [x25.1] 1 Z rfl rfl rfl (by decide)
 have Z:=Z.get 2 rfl
 refine L_appM (v:=v7_steps) (u:=(Sl g50 1 1)) rfl et_37 rfl rfl Z hx46 (fun v53 w54 Z=>aV v53 rfl (nn (W_region (L_add rfl sf20 rfl (mI rfl (nn ?_))))))
 obtain rfl:=so hB9
 show ∃ m,m < _∧I9 m _ _
 refine ⟨rest9.length,by simp,?_⟩
 exact ij hI9 ⟨i_6 + 1,rest9,x46,v53,rfl,drop_next hd9,by simp at hl9; omega,hL9,rfl,sf18,sf19,(Eq.trans rfl (congrArg (Value.int .i64) (i64_succ (n:=x1.1.length) (by simp at hl9; omega) hlen9))),(Star.keepN 1 Z)⟩
 rcases suf9 with _ | ⟨_,_⟩
 obtain rfl:=range_nil hL9
 refine W_exit (rj hR9 ⟨steps_7,v7_steps,rfl,sf6,Z⟩)
 exact absurd (of_decide_eq_false hc11) (by simp at hl9; omega)
 intro f w_ hR
 obtain ⟨steps_7,v7_steps,rfl,sf6,Z⟩:=rk hR9 hR
 refine sq (mF sf6 rfl (aV v7_steps rfl (aB rfl (nn (W_ret (retG2 (v1:=v7_steps) (v2:=Bo true) Tryz.results20 rfl rfl ?_))))))
 obtain rfl:=so hF
 exact ⟨v7_steps,rfl,(Star.down Z l3 (co closed_oStep c0))⟩
theorem l_eqTerm_c {a : Term} {b : Term} {H : FH} {w : World} (Z : Star H w []) {r : Bool} (hF : l_eqTerm a b = some r) :
 C Tryz.prog 156 #[.agg #[I a.coef,I a.lit],.agg #[I b.coef,I b.lit]] w fun v w'=>v = Bo r∧Star H w' []:=by
 unfold l_eqTerm at hF
 refine C_enter Tryz.func156 rfl Tryz.ntmps156 rfl (sq (L_box (v:=.agg #[I a.coef,I a.lit]) (cs:=#[I a.coef,I a.lit]) rfl rfl rfl Z (fun g5 w6 Z=>L_box (v:=.agg #[I b.coef,I b.lit]) (cs:=#[I b.coef,I b.lit]) rfl rfl rfl Z (fun g7 w8 Z=>aB rfl (nq (sq (fA 0 fa_126_0 rfl rfl (ldB 1 Z Tryz.isAgg3 rfl rfl rfl (fA 0 fa_126_0 rfl rfl (ldB 0 Z Tryz.isAgg3 rfl rfl rfl (L_neq rfl rfl rfl (nn (W_cond (b:=(a.coef != b.coef)) rfl (fun hc9=>?_) (fun hc9=>?_))))))))))))))
 have hF:=(ite_t hc9).symm.trans hF
 refine sq (aB rfl (nn (W_ret (retG1 (v1:=Bo false) Tryz.results156 rfl ?_))))
 obtain rfl:=so hF
 exact ⟨rfl,(Star.keepN 0 Z)⟩
 have hF:=(ite_f hc9).symm.trans hF
 refine W_skip (W_seq (sq (fA 1 fa_126_1 rfl rfl (ldB 1 Z Tryz.isAgg3 rfl rfl rfl (fA 1 fa_126_1 rfl rfl (ldB 0 Z Tryz.isAgg3 rfl rfl rfl (L_neq rfl rfl rfl (nn (W_cond (b:=(a.lit != b.lit)) rfl (fun hc10=>?_) (fun hc10=>?_))))))))))
 have hF:=(ite_t hc10).symm.trans hF
 refine sq (aB rfl (nn (W_ret (retG1 (v1:=Bo false) Tryz.results156 rfl ?_))))
 obtain rfl:=so hF
 exact ⟨rfl,(Star.keepN 0 Z)⟩
 have hF:=(ite_f hc10).symm.trans hF
 refine W_skip (sq (aB rfl (nn (W_ret (retG1 (v1:=Bo true) Tryz.results156 rfl ?_)))))
 obtain rfl:=so hF
 exact ⟨rfl,(Star.keepN 0 Z)⟩
theorem l_eqTermS_c {a : List Term} {b : List Term} {v0 : Value} {v1 : Value} {H : FH} {w : World} (Z : Star H w []) (h0 : (rS 126 rTerm).rel H [v0] a) (h1 : (rS 126 rTerm).rel H [v1] b) {r : Bool} (hF : l_eqTermS a b = some r) :
 C Tryz.prog 140 #[v0,v1] w fun v w'=>v = Bo r∧Star H w' []:=by
 unfold l_eqTermS at hF
 refine C_enter Tryz.func140 rfl Tryz.ntmps140 rfl (sq (aB rfl (nq (sq (mV v0 rfl (L_len rfl Tryz.underlying72 rfl (slice_len h0) (mV v1 rfl (L_len rfl Tryz.underlying72 rfl (slice_len h1) (L_neq rfl rfl rfl (nn (W_cond (b:=((a.length : Int) != (b.length : Int))) rfl (fun hc1=>?_) (fun hc1=>?_))))))))))))
 have hF:=(ite_t hc1).symm.trans hF
 refine sq (aB rfl (nn (W_ret (retG1 (v1:=Bo false) Tryz.results140 rfl ?_))))
 obtain rfl:=so hF
 exact ⟨rfl,Z⟩
 have hF:=(ite_f hc1).symm.trans hF
 refine W_skip (W_seq (sq (aI rfl (nn ?_))))
 have hlen5 : List.length a≤9223372036854775807:=len_le (slice_len h0)
 obtain ⟨j5,hL5,hF⟩:=bind_some hF
 obtain ⟨R5,hR5⟩:=exR fun f w_=>∃ H3 : FH,j5 = .nx ()∧Le H H3∧Star H3 w_ ([])
 refine W_join R5 ?_ ?_
 refine W_block ?_
 obtain ⟨I5,hI5⟩:=exI fun n f w_=>∃ i_2 : Nat,∃ suf5 : List Term,∃ H3 : FH,n = suf5.length∧List.drop i_2 a = suf5∧i_2 + suf5.length = a.length∧rangeL (l_eqTermS_b1 b) suf5 i_2 () = some j5∧Le H H3∧f 0 = v0∧f 1 = v1∧f 5 = I i_2∧Star H3 w_ ([])
 refine W_loop I5 (n:=a.length) ?_ ?_
 exact ij hI5 ⟨0,a,H,rfl,rfl,Nat.zero_add _,hL5,(Le.refl _),rfl,rfl,rfl,Z⟩
 intro n5 f w_ hI
 obtain ⟨i_2,suf5,H3,rfl,hd5,hl5,hL5,l4,sf0,sf1,sf5,Z⟩:=ik hI5 hI
 refine W_seq (sq (mF sf5 rfl (mF sf0 rfl (L_len rfl Tryz.underlying72 rfl (slice_len (RP.mono _ h0 l4)) (L_lss rfl rfl rfl (nn (W_cond (b:=decide ((i_2 : Int) < (a.length : Int))) rfl (fun hc6=>?_) (fun hc6=>?_))))))))
 have hlt5:=of_decide_eq_true hc6
 rcases suf5 with _ | ⟨x_5,rest5⟩
 exact absurd hlt5 (by simp at hl5; omega)
 obtain ⟨o5,hB5,hL5⟩:=range_cons hL5
 rw [l_eqTermS_b1] at hB5
 have hix5:=drop_idx hd5
 refine W_skip (W_seq (W_block (W_seq ?_)))
 obtain ⟨x11,hx11,hB5⟩:=bind_some hB5
 obtain ⟨x21,hx21,hB5⟩:=bind_some hB5
 refine W_drawS 8 [isV (v0),isV (I i_2),isEl rTerm x_5 0,isV (.agg #[I x_5.coef,I x_5.lit]),isV (v1),isV (I i_2),isEl rTerm x11 0,isV (.agg #[I x11.coef,I x11.lit])] [] [] ([]) [([],[]),([],[]),([],[]),([],[]),([],[]),([],[]),([],[]),([],[])] (S:=[]) Tryz_mix (by kernel_rfl) rfl (by kernel_rfl) (amF_cons (mono_V _) (amF_cons (mono_V _) (amF_cons (mono_el _ _ _) (amF_cons (mono_V _) (amF_cons (mono_V _) (amF_cons (mono_V _) (amF_cons (mono_el _ _ _) (amF_cons (mono_V _) amF_nil)))))))) Z ?_ (fun f w_ H23 hS23 hE23 hT23 Z=>?_)
 refine opsS_cons (fun f w_ _ _ s _ _ Z=>mF ((s 0 rfl).trans sf0) rfl (nO rfl rfl Z)) (opsS_cons (fun f w_ _ _ s _ _ Z=>mF ((s 5 rfl).trans sf5) rfl (nO rfl rfl Z)) (opsS_cons ?_ ?_))
 intro f w_ H23 X23 hS23 hE23 hP23 Z
 refine L_ix (r:=rTerm) rfl Tryz.underlying72 Tryz.sizeOf126 (hP23 0 17 rfl rfl) (RP.mono _ h0 (Le.trans l4 hE23)) (hP23 1 18 rfl rfl) hix5 (fun g32 o33 cs_g32 hrk_hat34 hat34=>?_)
 obtain rfl:=rTerm_iff.1 hrk_hat34
 exact L_nil ⟨rfl,_,_,rfl,Le.refl _,fun _ _=>⟨_,_,_,rfl,hrk_hat34,hat34⟩,Z⟩
 refine opsS_cons ?_ ?_
 intro f w_ H23 X23 hS23 hE23 hP23 Z
 obtain ⟨g36,o36,cs36,hv36,hrk_hat36,hat36⟩:=(hP23 2 19 rfl rfl)
 obtain rfl:=rTerm_iff.1 hrk_hat36
 refine L_lda (cs:=[I x_5.coef,I x_5.lit]) rfl Tryz.isAgg126 Tryz.sizeOf126 hv36 (At.sub (AtH.at hat36 Z.sub) 0 2) rfl (L_nil ⟨rfl,_,_,rfl,Le.refl _,fun _ _=>rfl,Z⟩)
 refine opsS_cons (fun f w_ _ _ s _ _ Z=>mF ((s 1 rfl).trans sf1) rfl (nO rfl rfl Z)) (opsS_cons (fun f w_ _ _ s _ _ Z=>mF ((s 5 rfl).trans sf5) rfl (nO rfl rfl Z)) (opsS_cons ?_ ?_))
 intro f w_ H23 X23 hS23 hE23 hP23 Z
 refine L_ix (r:=rTerm) rfl Tryz.underlying72 Tryz.sizeOf126 (hP23 4 21 rfl rfl) (RP.mono _ h1 (Le.trans l4 hE23)) (hP23 5 22 rfl rfl) hx11 (fun g38 o39 cs_g38 hrk_hat40 hat40=>?_)
 obtain rfl:=rTerm_iff.1 hrk_hat40
 exact L_nil ⟨rfl,_,_,rfl,Le.refl _,fun _ _=>⟨_,_,_,rfl,hrk_hat40,hat40⟩,Z⟩
 refine opsS_cons ?_ ?_
 intro f w_ H23 X23 hS23 hE23 hP23 Z
 obtain ⟨g42,o42,cs42,hv42,hrk_hat42,hat42⟩:=(hP23 6 23 rfl rfl)
 obtain rfl:=rTerm_iff.1 hrk_hat42
 refine L_lda (cs:=[I x11.coef,I x11.lit]) rfl Tryz.isAgg126 Tryz.sizeOf126 hv42 (At.sub (AtH.at hat42 Z.sub) 0 2) rfl (L_nil ⟨rfl,_,_,rfl,Le.refl _,fun _ _=>rfl,Z⟩)
 exact opsS_nil
 obtain ⟨H44b,l45,s46,z47,k48⟩:=Z.borrow
 refine L_call rfl Tryz.call156 (ops2 (hT23 3 20 rfl rfl) (hT23 7 24 rfl rfl)) (l_eqTerm_c (a:=x_5) (b:=x11) s46 hx21) ?_
 rintro _ w49 ⟨rfl,Z⟩
 have Z:=k48 Z c0
 refine L_not_ rfl rfl (nn (W_cond (b:=(!x21)) rfl (fun hc50=>?_) (fun hc50=>?_)))
 have hB5:=(ite_t hc50).symm.trans hB5
 refine sq (aB rfl (nn (W_ret (retG1 (v1:=Bo false) Tryz.results140 rfl ?_))))
 obtain rfl:=so hB5
 obtain rfl:=so hL5
 obtain rfl:=so hF
 exact ⟨rfl,(Star.down Z (Le.trans l4 hE23) c0)⟩
 have hB5:=(ite_f hc50).symm.trans hB5
 refine W_skip (W_region (mF ((hS23 5 rfl).trans sf5) rfl (L_add rfl rfl rfl (aI rfl (nn ?_)))))
 obtain rfl:=so hB5
 show ∃ m,m < _∧I5 m _ _
 refine ⟨rest5.length,by simp,?_⟩
 exact ij hI5 ⟨i_2 + 1,rest5,H23,rfl,drop_next hd5,by simp at hl5; omega,hL5,(Le.trans l4 hE23),((hS23 0 rfl).trans sf0),((hS23 1 rfl).trans sf1),(Eq.trans rfl (congrArg (Value.int .i64) (i64_succ (n:=a.length) (by simp at hl5; omega) hlen5))),Z⟩
 rcases suf5 with _ | ⟨_,_⟩
 obtain rfl:=range_nil hL5
 refine W_exit (rj hR5 ⟨H3,rfl,l4,Z⟩)
 exact absurd (of_decide_eq_false hc6) (by simp at hl5; omega)
 intro f w_ hR
 obtain ⟨H3,rfl,l4,Z⟩:=rk hR5 hR
 refine sq (aB rfl (nn (W_ret (retG1 (v1:=Bo true) Tryz.results140 rfl ?_))))
 obtain rfl:=so hF
 exact ⟨rfl,(Star.down Z l4 c0)⟩
theorem l_eqConstraint_c {a : Con} {b : Con} {v0_0 : Value} {v1_0 : Value} {H : FH} {w : World} (Z : Star H w []) (h0_0 : (rS 126 rTerm).rel H [v0_0] a.terms) (h1_0 : (rS 126 rTerm).rel H [v1_0] b.terms) {r : Bool} (hF : l_eqConstraint a b = some r) :
 C Tryz.prog 109 #[.agg #[v0_0,I a.bound],.agg #[v1_0,I b.bound]] w fun v w'=>v = Bo r∧Star H w' []:=by
 unfold l_eqConstraint at hF
 refine C_enter Tryz.func109 rfl Tryz.ntmps109 rfl (sq (L_box (v:=.agg #[v0_0,I a.bound]) (cs:=#[v0_0,I a.bound]) rfl rfl rfl Z (fun g5 w6 Z=>L_box (v:=.agg #[v1_0,I b.bound]) (cs:=#[v1_0,I b.bound]) rfl rfl rfl Z (fun g7 w8 Z=>aB rfl (nq (W_seq ?_))))))
 obtain ⟨x14,hx14,hF⟩:=bind_some hF
 refine W_region (fA 0 fa_74_0 rfl rfl (ldB 1 Z Tryz.isAgg72 rfl rfl rfl (fA 0 fa_74_0 rfl rfl (ldB 0 Z Tryz.isAgg72 rfl rfl rfl ?_))))
 obtain ⟨H16b,l17,s18,z19,k20⟩:=Z.borrow
 refine L_call rfl Tryz.call140 (ops2 rfl rfl) (l_eqTermS_c (a:=a.terms) (b:=b.terms) s18 (RP.mono _ h0_0 l17) (RP.mono _ h1_0 l17) hx14) ?_
 rintro _ w21 ⟨rfl,Z⟩
 have Z:=k20 Z c0
 refine L_not_ rfl rfl (nn (W_cond (b:=(!x14)) rfl (fun hc22=>?_) (fun hc22=>?_)))
 have hF:=(ite_t hc22).symm.trans hF
 refine sq (aB rfl (nn (W_ret (retG1 (v1:=Bo false) Tryz.results109 rfl ?_))))
 obtain rfl:=so hF
 exact ⟨rfl,(Star.keepN 0 Z)⟩
 have hF:=(ite_f hc22).symm.trans hF
 refine W_skip (W_seq (sq (fA 1 fa_74_1 rfl rfl (ldB 1 Z Tryz.isAgg3 rfl rfl rfl (fA 1 fa_74_1 rfl rfl (ldB 0 Z Tryz.isAgg3 rfl rfl rfl (L_neq rfl rfl rfl (nn (W_cond (b:=(a.bound != b.bound)) rfl (fun hc23=>?_) (fun hc23=>?_))))))))))
 have hF:=(ite_t hc23).symm.trans hF
 refine sq (aB rfl (nn (W_ret (retG1 (v1:=Bo false) Tryz.results109 rfl ?_))))
 obtain rfl:=so hF
 exact ⟨rfl,(Star.keepN 0 Z)⟩
 have hF:=(ite_f hc23).symm.trans hF
 refine W_skip (sq (aB rfl (nn (W_ret (retG1 (v1:=Bo true) Tryz.results109 rfl ?_)))))
 obtain rfl:=so hF
 exact ⟨rfl,(Star.keepN 0 Z)⟩
theorem l_eqStep_c {a : Step} {b : Step} {v0_3 : Value} {v1_3 : Value} {H : FH} {w : World} (Z : Star H w []) (h0_3 : (rS 126 rTerm).rel H [v0_3] a.given.terms) (h1_3 : (rS 126 rTerm).rel H [v1_3] b.given.terms) {r : Bool} (hF : l_eqStep a b = some r) :
 C Tryz.prog 59 #[.agg #[I a.kind,I a.a,I a.b,v0_3,I a.given.bound],.agg #[I b.kind,I b.a,I b.b,v1_3,I b.given.bound]] w fun v w'=>v = Bo r∧Star H w' []:=by
 unfold l_eqStep at hF
 refine C_enter Tryz.func59 rfl Tryz.ntmps59 rfl (sq (L_box (v:=.agg #[I a.kind,I a.a,I a.b,v0_3,I a.given.bound]) (cs:=#[I a.kind,I a.a,I a.b,v0_3,I a.given.bound]) rfl rfl rfl Z (fun g5 w6 Z=>L_box (v:=.agg #[I b.kind,I b.a,I b.b,v1_3,I b.given.bound]) (cs:=#[I b.kind,I b.a,I b.b,v1_3,I b.given.bound]) rfl rfl rfl Z (fun g7 w8 Z=>aB rfl (nq (sq (fA 0 fa_76_0 rfl rfl (ldB 1 Z Tryz.isAgg3 rfl rfl rfl (fA 0 fa_76_0 rfl rfl (ldB 0 Z Tryz.isAgg3 rfl rfl rfl (L_neq rfl rfl rfl (nn (W_cond (b:=(a.kind != b.kind)) rfl (fun hc9=>?_) (fun hc9=>?_))))))))))))))
 have hF:=(ite_t hc9).symm.trans hF
 refine sq (aB rfl (nn (W_ret (retG1 (v1:=Bo false) Tryz.results59 rfl ?_))))
 obtain rfl:=so hF
 exact ⟨rfl,(Star.keepN 0 Z)⟩
 have hF:=(ite_f hc9).symm.trans hF
 refine W_skip (W_seq (sq (fA 1 fa_76_1 rfl rfl (ldB 1 Z Tryz.isAgg3 rfl rfl rfl (fA 1 fa_76_1 rfl rfl (ldB 0 Z Tryz.isAgg3 rfl rfl rfl (L_neq rfl rfl rfl (nn (W_cond (b:=(a.a != b.a)) rfl (fun hc10=>?_) (fun hc10=>?_))))))))))
 have hF:=(ite_t hc10).symm.trans hF
 refine sq (aB rfl (nn (W_ret (retG1 (v1:=Bo false) Tryz.results59 rfl ?_))))
 obtain rfl:=so hF
 exact ⟨rfl,(Star.keepN 0 Z)⟩
 have hF:=(ite_f hc10).symm.trans hF
 refine W_skip (W_seq (sq (fA 2 fa_76_2 rfl rfl (ldB 1 Z Tryz.isAgg3 rfl rfl rfl (fA 2 fa_76_2 rfl rfl (ldB 0 Z Tryz.isAgg3 rfl rfl rfl (L_neq rfl rfl rfl (nn (W_cond (b:=(a.b != b.b)) rfl (fun hc11=>?_) (fun hc11=>?_))))))))))
 have hF:=(ite_t hc11).symm.trans hF
 refine sq (aB rfl (nn (W_ret (retG1 (v1:=Bo false) Tryz.results59 rfl ?_))))
 obtain rfl:=so hF
 exact ⟨rfl,(Star.keepN 0 Z)⟩
 have hF:=(ite_f hc11).symm.trans hF
 refine W_skip (W_seq (W_seq ?_))
 obtain ⟨x17,hx17,hF⟩:=bind_some hF
 refine W_region (fA 3 fa_76_3 rfl rfl (L_lda (cs:=[v0_3,I a.given.bound]) rfl Tryz.isAgg74 Tryz.sizeOf74 rfl (At.sub0 (Blk.at (Star.blkAt 1 Z rfl)) 3 2) rfl (fA 3 fa_76_3 rfl rfl (L_lda (cs:=[v1_3,I b.given.bound]) rfl Tryz.isAgg74 Tryz.sizeOf74 rfl (At.sub0 (Blk.at (Star.blkAt 0 Z rfl)) 3 2) rfl ?_))))
 obtain ⟨H19b,l20,s21,z22,k23⟩:=Z.borrow
 refine L_call rfl Tryz.call109 (ops2 rfl rfl) (l_eqConstraint_c (a:=a.given) (b:=b.given) s21 (RP.mono _ h0_3 l20) (RP.mono _ h1_3 l20) hx17) ?_
 rintro _ w24 ⟨rfl,Z⟩
 have Z:=k23 Z c0
 refine L_not_ rfl rfl (nn (W_cond (b:=(!x17)) rfl (fun hc25=>?_) (fun hc25=>?_)))
 have hF:=(ite_t hc25).symm.trans hF
 refine sq (aB rfl (nn (W_ret (retG1 (v1:=Bo false) Tryz.results59 rfl ?_))))
 obtain rfl:=so hF
 exact ⟨rfl,(Star.keepN 0 Z)⟩
 have hF:=(ite_f hc25).symm.trans hF
 refine W_skip (sq (aB rfl (nn (W_ret (retG1 (v1:=Bo true) Tryz.results59 rfl ?_)))))
 obtain rfl:=so hF
 exact ⟨rfl,(Star.keepN 0 Z)⟩
theorem l_eqStepS_c {a : List Step} {b : List Step} {v0 : Value} {v1 : Value} {H : FH} {w : World} (Z : Star H w []) (h0 : (rS 76 (rStep 126)).rel H [v0] a) (h1 : (rS 76 (rStep 126)).rel H [v1] b) {r : Bool} (hF : l_eqStepS a b = some r) :
 C Tryz.prog 21 #[v0,v1] w fun v w'=>v = Bo r∧Star H w' []:=by
 unfold l_eqStepS at hF
 refine C_enter Tryz.func21 rfl Tryz.ntmps21 rfl (sq (aB rfl (nq (sq (mV v0 rfl (L_len rfl Tryz.underlying37 rfl (slice_len h0) (mV v1 rfl (L_len rfl Tryz.underlying37 rfl (slice_len h1) (L_neq rfl rfl rfl (nn (W_cond (b:=((a.length : Int) != (b.length : Int))) rfl (fun hc1=>?_) (fun hc1=>?_))))))))))))
 have hF:=(ite_t hc1).symm.trans hF
 refine sq (aB rfl (nn (W_ret (retG1 (v1:=Bo false) Tryz.results21 rfl ?_))))
 obtain rfl:=so hF
 exact ⟨rfl,Z⟩
 have hF:=(ite_f hc1).symm.trans hF
 refine W_skip (W_seq (sq (aI rfl (nn ?_))))
 have hlen5 : List.length a≤9223372036854775807:=len_le (slice_len h0)
 obtain ⟨j5,hL5,hF⟩:=bind_some hF
 obtain ⟨R5,hR5⟩:=exR fun f w_=>∃ H3 : FH,j5 = .nx ()∧Le H H3∧Star H3 w_ ([])
 refine W_join R5 ?_ ?_
 refine W_block ?_
 obtain ⟨I5,hI5⟩:=exI fun n f w_=>∃ i_2 : Nat,∃ suf5 : List Step,∃ H3 : FH,n = suf5.length∧List.drop i_2 a = suf5∧i_2 + suf5.length = a.length∧rangeL (l_eqStepS_b1 b) suf5 i_2 () = some j5∧Le H H3∧f 0 = v0∧f 1 = v1∧f 5 = I i_2∧Star H3 w_ ([])
 refine W_loop I5 (n:=a.length) ?_ ?_
 exact ij hI5 ⟨0,a,H,rfl,rfl,Nat.zero_add _,hL5,(Le.refl _),rfl,rfl,rfl,Z⟩
 intro n5 f w_ hI
 obtain ⟨i_2,suf5,H3,rfl,hd5,hl5,hL5,l4,sf0,sf1,sf5,Z⟩:=ik hI5 hI
 refine W_seq (sq (mF sf5 rfl (mF sf0 rfl (L_len rfl Tryz.underlying37 rfl (slice_len (RP.mono _ h0 l4)) (L_lss rfl rfl rfl (nn (W_cond (b:=decide ((i_2 : Int) < (a.length : Int))) rfl (fun hc6=>?_) (fun hc6=>?_))))))))
 have hlt5:=of_decide_eq_true hc6
 rcases suf5 with _ | ⟨x_5,rest5⟩
 exact absurd hlt5 (by simp at hl5; omega)
 obtain ⟨o5,hB5,hL5⟩:=range_cons hL5
 rw [l_eqStepS_b1] at hB5
 have hix5:=drop_idx hd5
 refine W_skip (W_seq (W_block (W_seq ?_)))
 obtain ⟨x11,hx11,hB5⟩:=bind_some hB5
 obtain ⟨x21,hx21,hB5⟩:=bind_some hB5
 refine W_drawS 8 [isV (v0),isV (I i_2),isEl (rStep 126) x_5 0,exD (isData (rS 126 rTerm) x_5.given.terms) fun u_3=>isV (.agg #[I x_5.kind,I x_5.a,I x_5.b,u_3,I x_5.given.bound]),isV (v1),isV (I i_2),isEl (rStep 126) x11 0,exD (isData (rS 126 rTerm) x11.given.terms) fun u_3=>isV (.agg #[I x11.kind,I x11.a,I x11.b,u_3,I x11.given.bound])] [] [] ([]) [([],[]),([],[]),([],[]),([],[]),([],[]),([],[]),([],[]),([],[])] (S:=[]) Tryz_mix (by kernel_rfl) rfl (by kernel_rfl) (amF_cons (mono_V _) (amF_cons (mono_V _) (amF_cons (mono_el _ _ _) (amF_cons (mono_exD (mono_data _ _) fun _=>mono_V _) (amF_cons (mono_V _) (amF_cons (mono_V _) (amF_cons (mono_el _ _ _) (amF_cons (mono_exD (mono_data _ _) fun _=>mono_V _) amF_nil)))))))) Z ?_ (fun f w_ H23 hS23 hE23 hT23 Z=>?_)
 refine opsS_cons (fun f w_ _ _ s _ _ Z=>mF ((s 0 rfl).trans sf0) rfl (nO rfl rfl Z)) (opsS_cons (fun f w_ _ _ s _ _ Z=>mF ((s 5 rfl).trans sf5) rfl (nO rfl rfl Z)) (opsS_cons ?_ ?_))
 intro f w_ H23 X23 hS23 hE23 hP23 Z
 refine L_ix (r:=(rStep 126)) rfl Tryz.underlying37 Tryz.sizeOf76 (hP23 0 17 rfl rfl) (RP.mono _ h0 (Le.trans l4 hE23)) (hP23 1 18 rfl rfl) hix5 (fun g32 o33 cs_g32 hrk_hat34 hat34=>?_)
 obtain ⟨u35_0,rfl,hu35_0⟩:=rStep_iff.1 hrk_hat34
 exact L_nil ⟨rfl,_,_,rfl,Le.refl _,fun _ _=>⟨_,_,_,rfl,hrk_hat34,hat34⟩,Z⟩
 refine opsS_cons ?_ ?_
 intro f w_ H23 X23 hS23 hE23 hP23 Z
 obtain ⟨g36,o36,cs36,hv36,hrk_hat36,hat36⟩:=(hP23 2 19 rfl rfl)
 obtain ⟨u37_0,rfl,hu37_0⟩:=rStep_iff.1 hrk_hat36
 refine L_lda (cs:=[I x_5.kind,I x_5.a,I x_5.b,u37_0,I x_5.given.bound]) rfl Tryz.isAgg76 Tryz.sizeOf76 hv36 (At.sub (AtH.at hat36 Z.sub) 0 5) rfl (L_nil ⟨rfl,_,_,rfl,Le.refl _,fun _ _=>⟨_,hu37_0,rfl⟩,Z⟩)
 refine opsS_cons (fun f w_ _ _ s _ _ Z=>mF ((s 1 rfl).trans sf1) rfl (nO rfl rfl Z)) (opsS_cons (fun f w_ _ _ s _ _ Z=>mF ((s 5 rfl).trans sf5) rfl (nO rfl rfl Z)) (opsS_cons ?_ ?_))
 intro f w_ H23 X23 hS23 hE23 hP23 Z
 refine L_ix (r:=(rStep 126)) rfl Tryz.underlying37 Tryz.sizeOf76 (hP23 4 21 rfl rfl) (RP.mono _ h1 (Le.trans l4 hE23)) (hP23 5 22 rfl rfl) hx11 (fun g38 o39 cs_g38 hrk_hat40 hat40=>?_)
 obtain ⟨u41_0,rfl,hu41_0⟩:=rStep_iff.1 hrk_hat40
 exact L_nil ⟨rfl,_,_,rfl,Le.refl _,fun _ _=>⟨_,_,_,rfl,hrk_hat40,hat40⟩,Z⟩
 refine opsS_cons ?_ ?_
 intro f w_ H23 X23 hS23 hE23 hP23 Z
 obtain ⟨g42,o42,cs42,hv42,hrk_hat42,hat42⟩:=(hP23 6 23 rfl rfl)
 obtain ⟨u43_0,rfl,hu43_0⟩:=rStep_iff.1 hrk_hat42
 refine L_lda (cs:=[I x11.kind,I x11.a,I x11.b,u43_0,I x11.given.bound]) rfl Tryz.isAgg76 Tryz.sizeOf76 hv42 (At.sub (AtH.at hat42 Z.sub) 0 5) rfl (L_nil ⟨rfl,_,_,rfl,Le.refl _,fun _ _=>⟨_,hu43_0,rfl⟩,Z⟩)
 exact opsS_nil
 obtain ⟨u44_3,hu44_3,hv44⟩:=(hT23 3 20 rfl rfl)
 obtain ⟨u45_3,hu45_3,hv45⟩:=(hT23 7 24 rfl rfl)
 obtain ⟨H46b,l47,s48,z49,k50⟩:=Z.borrow
 refine L_call rfl Tryz.call59 (ops2 hv44 hv45) (l_eqStep_c (a:=x_5) (b:=x11) s48 (RP.mono _ hu44_3 l47) (RP.mono _ hu45_3 l47) hx21) ?_
 rintro _ w51 ⟨rfl,Z⟩
 have Z:=k50 Z c0
 refine L_not_ rfl rfl (nn (W_cond (b:=(!x21)) rfl (fun hc52=>?_) (fun hc52=>?_)))
 have hB5:=(ite_t hc52).symm.trans hB5
 refine sq (aB rfl (nn (W_ret (retG1 (v1:=Bo false) Tryz.results21 rfl ?_))))
 obtain rfl:=so hB5
 obtain rfl:=so hL5
 obtain rfl:=so hF
 exact ⟨rfl,(Star.down Z (Le.trans l4 hE23) c0)⟩
 have hB5:=(ite_f hc52).symm.trans hB5
 refine W_skip (W_region (mF ((hS23 5 rfl).trans sf5) rfl (L_add rfl rfl rfl (aI rfl (nn ?_)))))
 obtain rfl:=so hB5
 show ∃ m,m < _∧I5 m _ _
 refine ⟨rest5.length,by simp,?_⟩
 exact ij hI5 ⟨i_2 + 1,rest5,H23,rfl,drop_next hd5,by simp at hl5; omega,hL5,(Le.trans l4 hE23),((hS23 0 rfl).trans sf0),((hS23 1 rfl).trans sf1),(Eq.trans rfl (congrArg (Value.int .i64) (i64_succ (n:=a.length) (by simp at hl5; omega) hlen5))),Z⟩
 rcases suf5 with _ | ⟨_,_⟩
 obtain rfl:=range_nil hL5
 refine W_exit (rj hR5 ⟨H3,rfl,l4,Z⟩)
 exact absurd (of_decide_eq_false hc6) (by simp at hl5; omega)
 intro f w_ hR
 obtain ⟨H3,rfl,l4,Z⟩:=rk hR5 hR
 refine sq (aB rfl (nn (W_ret (retG1 (v1:=Bo true) Tryz.results21 rfl ?_))))
 obtain rfl:=so hF
 exact ⟨rfl,(Star.down Z l4 c0)⟩
theorem l_markTermS_c {fu : Nat} {a : List Term} {k : Int} {v0 : Value} {H : FH} {w : World} (Z : Star H w [oF 126 rTerm v0 a]) {r : Int × (List Term)} (hF : l_markTermS fu a k = some r) :
 C Tryz.prog 60 #[v0,I k] w fun v w'=>v = I r.1∧Star H w' [oF 126 rTerm v0 r.2]:=by
 unfold l_markTermS at hF
 refine C_enter Tryz.func60 rfl Tryz.ntmps60 rfl (sq (aI rfl (nq (sq (aI rfl (nn ?_))))))
 obtain ⟨j8,hL8,hF⟩:=bind_some hF
 obtain ⟨R8,hR8⟩:=exR fun f w_=>∃ a_5 : List Term,∃ k_6 : Int,∃ i_7 : Int,j8 = .nx (a_5,k_6,i_7)∧f 1 = I k_6∧Star H w_ ([oF 126 rTerm v0 a_5])
 refine W_join R8 ?_ ?_
 refine W_block ?_
 obtain ⟨I8,hI8⟩:=exI fun n f w_=>∃ a_5 : List Term,∃ k_6 : Int,∃ i_7 : Int,whileL l_markTermS_b1 n (a_5,k_6,i_7) = some j8∧f 0 = v0∧f 1 = I k_6∧f 5 = I i_7∧Star H w_ ([oF 126 rTerm v0 a_5])
 refine W_loop I8 (n:=fu) ?_ ?_
 exact ij hI8 ⟨a,k,0,hL8,rfl,rfl,rfl,Z⟩
 intro n8 f w_ hI
 obtain ⟨a_5,k_6,i_7,hL8,sf0,sf1,sf5,Z⟩:=ik hI8 hI
 rcases n8 with _ | n8
 exact (while_zero hL8).elim
 obtain ⟨o8,hB8,hL8⟩:=while_succ hL8
 rw [l_markTermS_b1] at hB8
 refine W_seq (sq (mF sf5 rfl (mF sf0 rfl (L_len rfl Tryz.underlying72 rfl (Star.len 0 Z rfl) (L_lss rfl rfl rfl (nn (W_cond (b:=decide (i_7 < (a_5.length : Int))) rfl (fun hc9=>?_) (fun hc9=>?_))))))))
 have hB8:=(ite_t hc9).symm.trans hB8
 refine W_skip (W_seq (W_block (W_seq ?_)))
 obtain ⟨x10,hx10,hB8⟩:=bind_some hB8
 refine W_region (mF sf0 rfl (mF sf5 rfl (mF sf1 rfl ?_)))
 obtain ⟨g14,cap_g14,hv15,_,_⟩:=Star.row 0 Z rfl hx10
 refine L_ixO (R:=(OR.frz rTerm)) (tb:=0) 0 rfl Tryz.underlying72 Tryz.sizeOf126 rfl hv15 (by first | rfl | simp) rfl hx10 (fA (Int.toNat i_7 * 2 + 0) fa_126_0 rfl rfl (L_stF (j:=0) (u:=I k_6) (z:={ x10 with coef:=k_6 }) rfl Tryz.sizeOf3 rfl rfl rfl rfl hv15 Z hx10 fldF_rTerm_0 (fun w16 Z=>ns (mF sf1 rfl (L_add rfl rfl rfl (aI rfl (nq ?_)))))))
 obtain ⟨x17,hx17,hB8⟩:=bind_some hB8
 refine W_region (mF sf0 rfl (mF sf5 rfl (mI rfl (L_ixO (R:=(OR.frz rTerm)) (tb:=0) 0 rfl Tryz.underlying72 Tryz.sizeOf126 rfl hv15 (by first | rfl | simp) rfl hx17 (fA (Int.toNat i_7 * 2 + 1) fa_126_1 rfl rfl (L_stF (j:=1) (u:=I (i64 (k_6 + 1))) (z:={ x17 with lit:=i64 (k_6 + 1) }) rfl Tryz.sizeOf3 rfl rfl rfl rfl hv15 Z hx17 fldF_rTerm_1 (fun w19 Z=>nn (W_region (mI rfl (L_add rfl rfl rfl (aI rfl (nn (W_region (mF sf5 rfl (L_add rfl rfl rfl (aI rfl (nn ?_)))))))))))))))))
 obtain rfl:=so hB8
 show ∃ m,m < _∧I8 m _ _
 refine ⟨n8,Nat.lt_succ_self _,?_⟩
 exact ij hI8 ⟨((a_5.set (Int.toNat i_7) ({ x10 with coef:=k_6 })).set (Int.toNat i_7) ({ x17 with lit:=i64 (k_6 + 1) })),i64 ((i64 (k_6 + 1)) + 1),i64 (i_7 + 1),hL8,sf0,rfl,rfl,Z⟩
 have hB8:=(ite_f hc9).symm.trans hB8
 refine W_exit ?_
 obtain rfl:=so hB8
 obtain rfl:=so hL8
 exact rj hR8 ⟨a_5,k_6,i_7,rfl,sf1,Z⟩
 intro f w_ hR
 obtain ⟨a_5,k_6,i_7,rfl,sf1,Z⟩:=rk hR8 hR
 refine sq (mF sf1 rfl (aI rfl (nn (W_ret (retG1 (v1:=I k_6) Tryz.results60 rfl ?_)))))
 obtain rfl:=so hF
 exact ⟨rfl,Z⟩
theorem l_markStepS_c {fu : Nat} {a : List Step} {k : Int} {v0 : Value} {H : FH} {w : World} (Z : Star H w [oS 76 (oStep 126) v0 a]) {r : Int × (List Step)} (hF : l_markStepS fu a k = some r) :
 C Tryz.prog 22 #[v0,I k] w fun v w'=>v = I r.1∧Star H w' [oS 76 (oStep 126) v0 r.2]:=by
 unfold l_markStepS at hF
 refine C_enter Tryz.func22 rfl Tryz.ntmps22 rfl (sq (aI rfl (nq (sq (aI rfl (nn ?_))))))
 obtain ⟨j8,hL8,hF⟩:=bind_some hF
 obtain ⟨R8,hR8⟩:=exR fun f w_=>∃ a_5 : List Step,∃ k_6 : Int,∃ i_7 : Int,j8 = .nx (a_5,k_6,i_7)∧f 1 = I k_6∧Star H w_ ([oS 76 (oStep 126) v0 a_5])
 refine W_join R8 ?_ ?_
 refine W_block ?_
 obtain ⟨I8,hI8⟩:=exI fun n f w_=>∃ a_5 : List Step,∃ k_6 : Int,∃ i_7 : Int,whileL (l_markStepS_b1 fu a) n (a_5,k_6,i_7) = some j8∧f 0 = v0∧f 1 = I k_6∧f 5 = I i_7∧Star H w_ ([oS 76 (oStep 126) v0 a_5])
 refine W_loop I8 (n:=fu) ?_ ?_
 exact ij hI8 ⟨a,k,0,hL8,rfl,rfl,rfl,Z⟩
 intro n8 f w_ hI
 obtain ⟨a_5,k_6,i_7,hL8,sf0,sf1,sf5,Z⟩:=ik hI8 hI
 rcases n8 with _ | n8
 exact (while_zero hL8).elim
 obtain ⟨o8,hB8,hL8⟩:=while_succ hL8
 rw [l_markStepS_b1] at hB8
 refine W_seq (sq (mF sf5 rfl (mF sf0 rfl (L_len rfl Tryz.underlying37 rfl (Star.len 0 Z rfl) (L_lss rfl rfl rfl (nn (W_cond (b:=decide (i_7 < (a_5.length : Int))) rfl (fun hc9=>?_) (fun hc9=>?_))))))))
 have hB8:=(ite_t hc9).symm.trans hB8
 refine W_skip (W_seq (W_block (W_seq ?_)))
 obtain ⟨x10,hx10,hB8⟩:=bind_some hB8
 refine W_region (mF sf0 rfl (mF sf5 rfl (mF sf1 rfl ?_)))
 obtain ⟨g14,cap_g14,hv15,_,_⟩:=Star.row 0 Z rfl hx10
 refine L_ixO (R:=(oStep 126)) (tb:=0) 0 rfl Tryz.underlying37 Tryz.sizeOf76 rfl hv15 (by first | rfl | simp) rfl hx10 (fA (Int.toNat i_7 * 5 + 0) fa_76_0 rfl rfl (L_stF (j:=0) (u:=I k_6) (z:={ x10 with kind:=k_6 }) rfl Tryz.sizeOf3 rfl rfl rfl rfl hv15 Z hx10 fld_oStep_0 (fun w16 Z=>ns (mF sf1 rfl (L_add rfl rfl rfl (aI rfl (nq ?_)))))))
 obtain ⟨x17,hx17,hB8⟩:=bind_some hB8
 refine W_region (mF sf0 rfl (mF sf5 rfl (mI rfl (L_ixO (R:=(oStep 126)) (tb:=0) 0 rfl Tryz.underlying37 Tryz.sizeOf76 rfl hv15 (by first | rfl | simp) rfl hx17 (fA (Int.toNat i_7 * 5 + 1) fa_76_1 rfl rfl (L_stF (j:=1) (u:=I (i64 (k_6 + 1))) (z:={ x17 with a:=i64 (k_6 + 1) }) rfl Tryz.sizeOf3 rfl rfl rfl rfl hv15 Z hx17 fld_oStep_1 (fun w19 Z=>ns (mI rfl (L_add rfl rfl rfl (aI rfl (nq ?_)))))))))))
 obtain ⟨x20,hx20,hB8⟩:=bind_some hB8
 refine W_region (mF sf0 rfl (mF sf5 rfl (mI rfl (L_ixO (R:=(oStep 126)) (tb:=0) 0 rfl Tryz.underlying37 Tryz.sizeOf76 rfl hv15 (by first | rfl | simp) rfl hx20 (fA (Int.toNat i_7 * 5 + 2) fa_76_2 rfl rfl (L_stF (j:=2) (u:=I (i64 ((i64 (k_6 + 1)) + 1))) (z:={ x20 with b:=i64 ((i64 (k_6 + 1)) + 1) }) rfl Tryz.sizeOf3 rfl rfl rfl rfl hv15 Z hx20 fld_oStep_2 (fun w22 Z=>ns (mI rfl (L_add rfl rfl rfl (aI rfl (nq ?_)))))))))))
 obtain ⟨x23,hx23,hB8⟩:=bind_some hB8
 obtain ⟨x31,hx31,hB8⟩:=bind_some hB8
 refine W_region (mF sf0 rfl (mF sf5 rfl (L_ixO (R:=(oStep 126)) (tb:=0) 0 rfl Tryz.underlying37 Tryz.sizeOf76 rfl hv15 (by first | rfl | simp) rfl hx23 (fA (Int.toNat i_7 * 5 + 3) fa_76_3 rfl rfl (fA (Int.toNat i_7 * 5 + 3) fa_74_0 rfl rfl ?_)))))
 obtain ⟨cs33,Z,hat33⟩:=Star.focus Z hx23
 have hat33:=hat33 _ _ _ hv15
 obtain ⟨u33_0,rfl,Z⟩:=oStep_open Z
 refine L_ld rfl Tryz.isAgg72 rfl (At.cell hat33 (j:=3) rfl) (mI rfl ?_)
 obtain ⟨H35b,l36,s37,z38,k39⟩:=Z.lend [_]
 refine L_call rfl Tryz.call60 (ops2 rfl rfl) (l_markTermS_c (a:=x23.given.terms) (k:=i64 ((i64 ((i64 (k_6 + 1)) + 1)) + 1)) s37 hx31) ?_
 rintro _ w40 ⟨rfl,Z⟩
 have Z:=k39 Z (co closed_term c0)
 refine aI rfl (nq ?_)
 have Z:=oStep_close (s:=({ kind:=x23.kind,a:=x23.a,b:=x23.b,given:=({ terms:=x31.2,bound:=x23.given.bound } : Con) } : Step)) Z
 have Z:=Star.unfocus (x':=({ kind:=x23.kind,a:=x23.a,b:=x23.b,given:=({ terms:=x31.2,bound:=x23.given.bound } : Con) } : Step)) (idx_some hx23).2.2 Z
 obtain ⟨x41,hx41,hB8⟩:=bind_some hB8
 refine W_region (mF sf0 rfl (mF sf5 rfl (mI rfl (L_ixO (R:=(oStep 126)) (tb:=0) 0 rfl Tryz.underlying37 Tryz.sizeOf76 rfl hv15 (by first | rfl | simp) rfl hx41 (fA (Int.toNat i_7 * 5 + 3) fa_76_3 rfl rfl (fA (Int.toNat i_7 * 5 + 4) fa_74_1 rfl rfl (L_stF (j:=4) (u:=I x31.1) (z:={ x41 with given:={ x41.given with bound:=x31.1 } }) rfl Tryz.sizeOf3 rfl rfl rfl rfl hv15 Z hx41 fld_oStep_4 (fun w43 Z=>nn (W_region (mI rfl (L_add rfl rfl rfl (aI rfl (nn (W_region (mF sf5 rfl (L_add rfl rfl rfl (aI rfl (nn ?_))))))))))))))))))
 obtain rfl:=so hB8
 show ∃ m,m < _∧I8 m _ _
 refine ⟨n8,Nat.lt_succ_self _,?_⟩
 exact ij hI8 ⟨(((((a_5.set (Int.toNat i_7) ({ x10 with kind:=k_6 })).set (Int.toNat i_7) ({ x17 with a:=i64 (k_6 + 1) })).set (Int.toNat i_7) ({ x20 with b:=i64 ((i64 (k_6 + 1)) + 1) })).set (Int.toNat i_7) ({ kind:=x23.kind,a:=x23.a,b:=x23.b,given:=({ terms:=x31.2,bound:=x23.given.bound } : Con) } : Step)).set (Int.toNat i_7) ({ x41 with given:={ x41.given with bound:=x31.1 } })),i64 (x31.1 + 1),i64 (i_7 + 1),hL8,sf0,rfl,rfl,Z⟩
 have hB8:=(ite_f hc9).symm.trans hB8
 refine W_exit ?_
 obtain rfl:=so hB8
 obtain rfl:=so hL8
 exact rj hR8 ⟨a_5,k_6,i_7,rfl,sf1,Z⟩
 intro f w_ hR
 obtain ⟨a_5,k_6,i_7,rfl,sf1,Z⟩:=rk hR8 hR
 refine sq (mF sf1 rfl (aI rfl (nn (W_ret (retG1 (v1:=I k_6) Tryz.results22 rfl ?_)))))
 obtain rfl:=so hF
 exact ⟨rfl,Z⟩
theorem l_heldTermS_c {a : List Term} {k : Int} {v0 : Value} {H : FH} {w : World} (Z : Star H w []) (h0 : (rS 126 rTerm).rel H [v0] a) {r : Int} (hF : l_heldTermS a k = some r) :
 C Tryz.prog 61 #[v0,I k] w fun v w'=>v = I r∧Star H w' []:=by
 unfold l_heldTermS at hF
 refine C_enter Tryz.func61 rfl Tryz.ntmps61 rfl (sq (aI rfl (nq (sq (aI rfl (nn ?_))))))
 have hlen3 : List.length a≤9223372036854775807:=len_le (slice_len h0)
 obtain ⟨j3,hL3,hF⟩:=bind_some hF
 obtain ⟨R3,hR3⟩:=exR fun f w_=>∃ k_2 : Int,j3 = .nx k_2∧f 1 = I k_2∧Star H w_ ([])
 refine W_join R3 ?_ ?_
 refine W_block ?_
 obtain ⟨I3,hI3⟩:=exI fun n f w_=>∃ i_1 : Nat,∃ suf3 : List Term,∃ k_2 : Int,n = suf3.length∧List.drop i_1 a = suf3∧i_1 + suf3.length = a.length∧rangeL l_heldTermS_b1 suf3 i_1 k_2 = some j3∧f 0 = v0∧f 1 = I k_2∧f 5 = I i_1∧Star H w_ ([])
 refine W_loop I3 (n:=a.length) ?_ ?_
 exact ij hI3 ⟨0,a,k,rfl,rfl,Nat.zero_add _,hL3,rfl,rfl,rfl,Z⟩
 intro n3 f w_ hI
 obtain ⟨i_1,suf3,k_2,rfl,hd3,hl3,hL3,sf0,sf1,sf5,Z⟩:=ik hI3 hI
 refine W_seq (sq (mF sf5 rfl (mF sf0 rfl (L_len rfl Tryz.underlying72 rfl (slice_len h0) (L_lss rfl rfl rfl (nn (W_cond (b:=decide ((i_1 : Int) < (a.length : Int))) rfl (fun hc4=>?_) (fun hc4=>?_))))))))
 have hlt3:=of_decide_eq_true hc4
 rcases suf3 with _ | ⟨x_3,rest3⟩
 exact absurd hlt3 (by simp at hl3; omega)
 obtain ⟨o3,hB3,hL3⟩:=range_cons hL3
 rw [l_heldTermS_b1] at hB3
 have hix3:=drop_idx hd3
 refine W_skip (W_seq (W_block (W_seq (sq (mF sf0 rfl (mF sf5 rfl (L_ix (r:=rTerm) rfl Tryz.underlying72 Tryz.sizeOf126 rfl h0 rfl hix3 (fun g9 o10 cs_g9 hrk_hat11 hat11=>?_))))))))
 obtain rfl:=rTerm_iff.1 hrk_hat11
 refine fA o10 fa_126_0 rfl rfl (L_ld rfl Tryz.isAgg3 rfl (At.cell (AtH.at hat11 Z.sub) (j:=0) rfl) (mF sf1 rfl (L_neq rfl rfl rfl (nn (W_cond (b:=(x_3.coef != k_2)) rfl (fun hc13=>?_) (fun hc13=>?_))))))
 have hB3:=(ite_t hc13).symm.trans hB3
 refine sq (aI rfl (nn (W_ret (retG1 (v1:=I (-1)) Tryz.results61 rfl ?_))))
 obtain rfl:=so hB3
 obtain rfl:=so hL3
 obtain rfl:=so hF
 exact ⟨rfl,Z⟩
 have hB3:=(ite_f hc13).symm.trans hB3
 refine W_skip (sq (mF sf1 rfl (L_add rfl rfl rfl (aI rfl (nq (sq (mF sf0 rfl (mF sf5 rfl (L_ix (r:=rTerm) rfl Tryz.underlying72 Tryz.sizeOf126 rfl h0 rfl hix3 (fun g18 o19 cs_g18 hrk_hat20 hat20=>?_))))))))))
 obtain rfl:=rTerm_iff.1 hrk_hat20
 refine fA (o19 + 1) fa_126_1 rfl rfl (L_ld rfl Tryz.isAgg3 rfl (At.cell (AtH.at hat20 Z.sub) (j:=1) rfl) (mI rfl (L_neq rfl rfl rfl (nn (W_cond (b:=(x_3.lit != (i64 (k_2 + 1)))) rfl (fun hc22=>?_) (fun hc22=>?_))))))
 have hB3:=(ite_t hc22).symm.trans hB3
 refine sq (aI rfl (nn (W_ret (retG1 (v1:=I (-1)) Tryz.results61 rfl ?_))))
 obtain rfl:=so hB3
 obtain rfl:=so hL3
 obtain rfl:=so hF
 exact ⟨rfl,Z⟩
 have hB3:=(ite_f hc22).symm.trans hB3
 refine W_skip (W_region (mI rfl (L_add rfl rfl rfl (aI rfl (nn (W_region (mF sf5 rfl (L_add rfl rfl rfl (aI rfl (nn ?_))))))))))
 obtain rfl:=so hB3
 show ∃ m,m < _∧I3 m _ _
 refine ⟨rest3.length,by simp,?_⟩
 exact ij hI3 ⟨i_1 + 1,rest3,i64 ((i64 (k_2 + 1)) + 1),rfl,drop_next hd3,by simp at hl3; omega,hL3,sf0,rfl,(Eq.trans rfl (congrArg (Value.int .i64) (i64_succ (n:=a.length) (by simp at hl3; omega) hlen3))),Z⟩
 rcases suf3 with _ | ⟨_,_⟩
 obtain rfl:=range_nil hL3
 refine W_exit (rj hR3 ⟨k_2,rfl,sf1,Z⟩)
 exact absurd (of_decide_eq_false hc4) (by simp at hl3; omega)
 intro f w_ hR
 obtain ⟨k_2,rfl,sf1,Z⟩:=rk hR3 hR
 refine sq (mF sf1 rfl (aI rfl (nn (W_ret (retG1 (v1:=I k_2) Tryz.results61 rfl ?_)))))
 obtain rfl:=so hF
 exact ⟨rfl,Z⟩
theorem l_heldStepS_c {a : List Step} {k : Int} {v0 : Value} {H : FH} {w : World} (Z : Star H w []) (h0 : (rS 76 (rStep 126)).rel H [v0] a) {r : Int} (hF : l_heldStepS a k = some r) :
 C Tryz.prog 23 #[v0,I k] w fun v w'=>v = I r∧Star H w' []:=by
 unfold l_heldStepS at hF
 refine C_enter Tryz.func23 rfl Tryz.ntmps23 rfl (sq (aI rfl (nq (sq (aI rfl (nn ?_))))))
 have hlen3 : List.length a≤9223372036854775807:=len_le (slice_len h0)
 obtain ⟨j3,hL3,hF⟩:=bind_some hF
 obtain ⟨R3,hR3⟩:=exR fun f w_=>∃ k_2 : Int,j3 = .nx k_2∧f 1 = I k_2∧Star H w_ ([])
 refine W_join R3 ?_ ?_
 refine W_block ?_
 obtain ⟨I3,hI3⟩:=exI fun n f w_=>∃ i_1 : Nat,∃ suf3 : List Step,∃ k_2 : Int,n = suf3.length∧List.drop i_1 a = suf3∧i_1 + suf3.length = a.length∧rangeL (l_heldStepS_b1 a) suf3 i_1 k_2 = some j3∧f 0 = v0∧f 1 = I k_2∧f 5 = I i_1∧Star H w_ ([])
 refine W_loop I3 (n:=a.length) ?_ ?_
 exact ij hI3 ⟨0,a,k,rfl,rfl,Nat.zero_add _,hL3,rfl,rfl,rfl,Z⟩
 intro n3 f w_ hI
 obtain ⟨i_1,suf3,k_2,rfl,hd3,hl3,hL3,sf0,sf1,sf5,Z⟩:=ik hI3 hI
 refine W_seq (sq (mF sf5 rfl (mF sf0 rfl (L_len rfl Tryz.underlying37 rfl (slice_len h0) (L_lss rfl rfl rfl (nn (W_cond (b:=decide ((i_1 : Int) < (a.length : Int))) rfl (fun hc4=>?_) (fun hc4=>?_))))))))
 have hlt3:=of_decide_eq_true hc4
 rcases suf3 with _ | ⟨x_3,rest3⟩
 exact absurd hlt3 (by simp at hl3; omega)
 obtain ⟨o3,hB3,hL3⟩:=range_cons hL3
 rw [l_heldStepS_b1] at hB3
 have hix3:=drop_idx hd3
 refine W_skip (W_seq (W_block (W_seq (sq (mF sf0 rfl (mF sf5 rfl (L_ix (r:=(rStep 126)) rfl Tryz.underlying37 Tryz.sizeOf76 rfl h0 rfl hix3 (fun g9 o10 cs_g9 hrk_hat11 hat11=>?_))))))))
 obtain ⟨u12_0,rfl,hu12_0⟩:=rStep_iff.1 hrk_hat11
 refine fA o10 fa_76_0 rfl rfl (L_ld rfl Tryz.isAgg3 rfl (At.cell (AtH.at hat11 Z.sub) (j:=0) rfl) (mF sf1 rfl (L_neq rfl rfl rfl (nn (W_cond (b:=(x_3.kind != k_2)) rfl (fun hc13=>?_) (fun hc13=>?_))))))
 have hB3:=(ite_t hc13).symm.trans hB3
 refine sq (aI rfl (nn (W_ret (retG1 (v1:=I (-1)) Tryz.results23 rfl ?_))))
 obtain rfl:=so hB3
 obtain rfl:=so hL3
 obtain rfl:=so hF
 exact ⟨rfl,Z⟩
 have hB3:=(ite_f hc13).symm.trans hB3
 refine W_skip (sq (mF sf1 rfl (L_add rfl rfl rfl (aI rfl (nq (sq (mF sf0 rfl (mF sf5 rfl (L_ix (r:=(rStep 126)) rfl Tryz.underlying37 Tryz.sizeOf76 rfl h0 rfl hix3 (fun g18 o19 cs_g18 hrk_hat20 hat20=>?_))))))))))
 obtain ⟨u21_0,rfl,hu21_0⟩:=rStep_iff.1 hrk_hat20
 refine fA (o19 + 1) fa_76_1 rfl rfl (L_ld rfl Tryz.isAgg3 rfl (At.cell (AtH.at hat20 Z.sub) (j:=1) rfl) (mI rfl (L_neq rfl rfl rfl (nn (W_cond (b:=(x_3.a != (i64 (k_2 + 1)))) rfl (fun hc22=>?_) (fun hc22=>?_))))))
 have hB3:=(ite_t hc22).symm.trans hB3
 refine sq (aI rfl (nn (W_ret (retG1 (v1:=I (-1)) Tryz.results23 rfl ?_))))
 obtain rfl:=so hB3
 obtain rfl:=so hL3
 obtain rfl:=so hF
 exact ⟨rfl,Z⟩
 have hB3:=(ite_f hc22).symm.trans hB3
 refine W_skip (sq (mI rfl (L_add rfl rfl rfl (aI rfl (nq (sq (mF sf0 rfl (mF sf5 rfl (L_ix (r:=(rStep 126)) rfl Tryz.underlying37 Tryz.sizeOf76 rfl h0 rfl hix3 (fun g27 o28 cs_g27 hrk_hat29 hat29=>?_))))))))))
 obtain ⟨u30_0,rfl,hu30_0⟩:=rStep_iff.1 hrk_hat29
 refine fA (o28 + 2) fa_76_2 rfl rfl (L_ld rfl Tryz.isAgg3 rfl (At.cell (AtH.at hat29 Z.sub) (j:=2) rfl) (mI rfl (L_neq rfl rfl rfl (nn (W_cond (b:=(x_3.b != (i64 ((i64 (k_2 + 1)) + 1)))) rfl (fun hc31=>?_) (fun hc31=>?_))))))
 have hB3:=(ite_t hc31).symm.trans hB3
 refine sq (aI rfl (nn (W_ret (retG1 (v1:=I (-1)) Tryz.results23 rfl ?_))))
 obtain rfl:=so hB3
 obtain rfl:=so hL3
 obtain rfl:=so hF
 exact ⟨rfl,Z⟩
 have hB3:=(ite_f hc31).symm.trans hB3
 refine W_skip (sq (mI rfl (L_add rfl rfl rfl (aI rfl (nq ?_)))))
 obtain ⟨x41,hx41,hB3⟩:=bind_some hB3
 refine W_region (mF sf0 rfl (mF sf5 rfl (L_ix (r:=(rStep 126)) rfl Tryz.underlying37 Tryz.sizeOf76 rfl h0 rfl hix3 (fun g43 o44 cs_g43 hrk_hat45 hat45=>?_))))
 obtain ⟨u46_0,rfl,hu46_0⟩:=rStep_iff.1 hrk_hat45
 refine fA (o44 + 3) fa_76_3 rfl rfl (fA (o44 + 3) fa_74_0 rfl rfl (L_ld rfl Tryz.isAgg72 rfl (At.cell (AtH.at hat45 Z.sub) (j:=3) rfl) (mI rfl ?_)))
 obtain ⟨H47b,l48,s49,z50,k51⟩:=Z.borrow
 refine L_call rfl Tryz.call61 (ops2 rfl rfl) (l_heldTermS_c (a:=x_3.given.terms) (k:=i64 ((i64 ((i64 (k_2 + 1)) + 1)) + 1)) s49 (RP.mono _ hu46_0 l48) hx41) ?_
 rintro _ w52 ⟨rfl,Z⟩
 have Z:=k51 Z c0
 refine aI rfl (nq (sq (mI rfl (L_lss rfl rfl rfl (nn (W_cond (b:=decide (x41 < 0)) rfl (fun hc53=>?_) (fun hc53=>?_)))))))
 have hB3:=(ite_t hc53).symm.trans hB3
 refine sq (aI rfl (nn (W_ret (retG1 (v1:=I (-1)) Tryz.results23 rfl ?_))))
 obtain rfl:=so hB3
 obtain rfl:=so hL3
 obtain rfl:=so hF
 exact ⟨rfl,Z⟩
 have hB3:=(ite_f hc53).symm.trans hB3
 refine W_skip (W_seq (sq (mF sf0 rfl (mF sf5 rfl (L_ix (r:=(rStep 126)) rfl Tryz.underlying37 Tryz.sizeOf76 rfl h0 rfl hix3 (fun g58 o59 cs_g58 hrk_hat60 hat60=>?_))))))
 obtain ⟨u61_0,rfl,hu61_0⟩:=rStep_iff.1 hrk_hat60
 refine fA (o59 + 3) fa_76_3 rfl rfl (fA (o59 + 4) fa_74_1 rfl rfl (L_ld rfl Tryz.isAgg3 rfl (At.cell (AtH.at hat60 Z.sub) (j:=4) rfl) (mI rfl (L_neq rfl rfl rfl (nn (W_cond (b:=(x_3.given.bound != x41)) rfl (fun hc62=>?_) (fun hc62=>?_)))))))
 have hB3:=(ite_t hc62).symm.trans hB3
 refine sq (aI rfl (nn (W_ret (retG1 (v1:=I (-1)) Tryz.results23 rfl ?_))))
 obtain rfl:=so hB3
 obtain rfl:=so hL3
 obtain rfl:=so hF
 exact ⟨rfl,Z⟩
 have hB3:=(ite_f hc62).symm.trans hB3
 refine W_skip (W_region (mI rfl (L_add rfl rfl rfl (aI rfl (nn (W_region (mF sf5 rfl (L_add rfl rfl rfl (aI rfl (nn ?_))))))))))
 obtain rfl:=so hB3
 show ∃ m,m < _∧I3 m _ _
 refine ⟨rest3.length,by simp,?_⟩
 exact ij hI3 ⟨i_1 + 1,rest3,i64 (x41 + 1),rfl,drop_next hd3,by simp at hl3; omega,hL3,sf0,rfl,(Eq.trans rfl (congrArg (Value.int .i64) (i64_succ (n:=a.length) (by simp at hl3; omega) hlen3))),Z⟩
 rcases suf3 with _ | ⟨_,_⟩
 obtain rfl:=range_nil hL3
 refine W_exit (rj hR3 ⟨k_2,rfl,sf1,Z⟩)
 exact absurd (of_decide_eq_false hc4) (by simp at hl3; omega)
 intro f w_ hR
 obtain ⟨k_2,rfl,sf1,Z⟩:=rk hR3 hR
 refine sq (mF sf1 rfl (aI rfl (nn (W_ret (retG1 (v1:=I k_2) Tryz.results23 rfl ?_)))))
 obtain rfl:=so hF
 exact ⟨rfl,Z⟩
theorem l_FnExactParseProof_c {fu : Nat} {aText : ByteArray} {H : FH} {w : World} (Z : Star H w []) {r : Bool} (hF : l_FnExactParseProof fu aText = some r) :
 C Tryz.prog 5 #[.string aText] w fun v w'=>v = Bo r∧Star H w' []:=by
 unfold l_FnExactParseProof at hF
 refine C_enter Tryz.func5 rfl Tryz.ntmps5 rfl (sq (aB rfl (nq (sq (mV (.string aText) rfl (L_slen (s:=aText) rfl Tryz.underlying9 rfl (L_gtr rfl rfl rfl (nn (W_cond (b:=decide ((aText.size : Int) > 1048576)) rfl (fun hc1=>?_) (fun hc1=>?_))))))))))
 have hF:=(ite_t hc1).symm.trans hF
 refine sq (aB rfl (nn (W_ret (retG1 (v1:=Bo true) Tryz.results5 rfl ?_))))
 obtain rfl:=so hF
 exact ⟨rfl,Z⟩
 have hF:=(ite_f hc1).symm.trans hF
 refine W_skip (W_seq ?_)
 obtain ⟨x7,hx7,hF⟩:=bind_some hF
 refine W_region (mV (.string aText) rfl ?_)
 obtain ⟨H10b,l11,s12,z13,k14⟩:=Z.borrow
 refine L_call rfl Tryz.call19 (ops1 rfl) (s_ParseProof_c (text:=aText) s12 hx7) ?_
 rintro _ w15 ⟨r15_0,rfl,Z⟩
 have Z:=k14 Z (co closed_oStep c0)
 refine mV (.tuple #[r15_0,Bo x7.2]) rfl (L_ex (v:=r15_0) rfl rfl rfl (L_ex (v:=Bo x7.2) rfl rfl rfl (aV r15_0 rfl (aB rfl (nq ?_)))))
 obtain ⟨x22,hx22,hF⟩:=bind_some hF
 refine W_region (mV (.string aText) rfl ?_)
 obtain ⟨H25b,l26,s27,z28,k29⟩:=Z.borrow
 refine L_call rfl Tryz.call20 (ops1 rfl) (i_ParseProof_c (text:=aText) s27 hx22) ?_
 rintro _ w30 ⟨r30_0,rfl,Z⟩
 have Z:=k29 Z (co closed_oStep c0)
 refine mV (.tuple #[r30_0,Bo x22.2]) rfl (L_ex (v:=r30_0) rfl rfl rfl (L_ex (v:=Bo x22.2) rfl rfl rfl (aV r30_0 rfl (aB rfl (nq (W_seq ?_))))))
 obtain ⟨x39,hx39,hF⟩:=bind_some hF
 obtain ⟨R41,hR41⟩:=exR fun f w_=>f 0 = .string aText∧f 3 = r15_0∧f 4 = Bo x7.2∧f 5 = r30_0∧f 32 = Bo ((!x39) || (x22.2 != x7.2))∧Star H w_ ([oS 76 (oStep 126) r15_0 x7.1,oS 76 (oStep 126) r30_0 x22.1])
 refine W_join R41 ?_ ?_
 refine W_region (mV r30_0 rfl (mV r15_0 rfl ?_))
 obtain ⟨H42b,l43,s44,z45,k46⟩:=Z.borrow
 have hb47 : (rS 76 (rStep 126)).rel H42b [r30_0] x22.1:=fz_own 0 z45 rfl
 have hb48 : (rS 76 (rStep 126)).rel H42b [r15_0] x7.1:=fz_own 1 z45 rfl
 refine L_call rfl Tryz.call21 (ops2 rfl rfl) (l_eqStepS_c (a:=x22.1) (b:=x7.1) s44 hb47 hb48 hx39) ?_
 rintro _ w49 ⟨rfl,Z⟩
 have Z:=k46 Z c0
 refine L_not_ rfl rfl (mB rfl (L_split (d:=28) (b:=(!x39)) rfl (fun hc50=>?_) (fun hc50=>?_)))
 refine ps rfl (ps rfl (ps rfl (L_pick (v:=Bo ((!x39) || (x22.2 != x7.2))) rfl rfl (or_t hc50) (nn ?_))))
 have Z:=Z.get 1 rfl
 exact rj hR41 ⟨rfl,rfl,rfl,rfl,rfl,Z⟩
 refine mB rfl (mB rfl (L_bneq (b:=x22.2) (c:=x7.2) rfl Tryz.underlying4 rfl rfl (L_pick (v:=Bo ((!x39) || (x22.2 != x7.2))) rfl rfl (or_f hc50 rfl) (nn ?_))))
 have Z:=Z.get 1 rfl
 exact rj hR41 ⟨rfl,rfl,rfl,rfl,rfl,Z⟩
 intro f w_ hR
 obtain ⟨sf0,sf3,sf4,sf5,sf32,Z⟩:=rk hR41 hR
 refine W_cond (b:=((!x39) || (x22.2 != x7.2))) sf32 (fun hc51=>?_) (fun hc51=>?_)
 have hF:=(ite_t hc51).symm.trans hF
 refine sq (aB rfl (nn (W_ret (retG1 (v1:=Bo false) Tryz.results5 rfl ?_))))
 obtain rfl:=so hF
 exact ⟨rfl,(Star.keepN 0 Z)⟩
 have hF:=(ite_f hc51).symm.trans hF
 refine W_skip (sq (aI rfl (nq ?_)))
 obtain ⟨x57,hx57,hF⟩:=bind_some hF
 refine W_region (mF sf5 rfl (mI rfl ?_))
 have Z:=Z.get 1 rfl
 obtain ⟨H59b,l60,s61,z62,k63⟩:=Z.lend [_]
 refine L_call rfl Tryz.call22 (ops2 rfl rfl) (l_markStepS_c (a:=x22.1) (k:=1) s61 hx57) ?_
 rintro _ w64 ⟨rfl,Z⟩
 have Z:=k63 Z (co closed_oStep c0)
 refine aI rfl (ns (aI rfl (nq ?_)))
 obtain ⟨x71,hx71,hF⟩:=bind_some hF
 refine W_region (mF sf5 rfl (mI rfl ?_))
 obtain ⟨H73b,l74,s75,z76,k77⟩:=Z.borrow
 have hb78 : (rS 76 (rStep 126)).rel H73b [r30_0] x57.2:=fz_own 0 z76 rfl
 refine L_call rfl Tryz.call23 (ops2 rfl rfl) (l_heldStepS_c (a:=x57.2) (k:=1) s75 hb78 hx71) ?_
 rintro _ w79 ⟨rfl,Z⟩
 have Z:=k77 Z c0
 refine aI rfl (nq (sq (mI rfl (L_lss rfl rfl rfl (nn (W_cond (b:=decide (x71 < 0)) rfl (fun hc80=>?_) (fun hc80=>?_)))))))
 have hF:=(ite_t hc80).symm.trans hF
 refine sq (aB rfl (nn (W_ret (retG1 (v1:=Bo false) Tryz.results5 rfl ?_))))
 obtain rfl:=so hF
 exact ⟨rfl,(Star.keepN 0 Z)⟩
 have hF:=(ite_f hc80).symm.trans hF
 refine W_skip (W_seq (sq (mI rfl (mI rfl (L_neq rfl rfl rfl (nn (W_cond (b:=(x71 != x57.1)) rfl (fun hc81=>?_) (fun hc81=>?_))))))))
 have hF:=(ite_t hc81).symm.trans hF
 refine sq (aB rfl (nn (W_ret (retG1 (v1:=Bo false) Tryz.results5 rfl ?_))))
 obtain rfl:=so hF
 exact ⟨rfl,(Star.keepN 0 Z)⟩
 have hF:=(ite_f hc81).symm.trans hF
 refine W_skip (W_seq ?_)
 obtain ⟨x87,hx87,hF⟩:=bind_some hF
 refine W_region (mF sf0 rfl ?_)
 obtain ⟨H90b,l91,s92,z93,k94⟩:=Z.borrow
 refine L_call rfl Tryz.call20 (ops1 rfl) (i_ParseProof_c (text:=aText) s92 hx87) ?_
 rintro _ w95 ⟨r95_0,rfl,Z⟩
 have Z:=k94 Z (co closed_oStep c0)
 refine mV (.tuple #[r95_0,Bo x87.2]) rfl (L_ex (v:=r95_0) rfl rfl rfl (L_ex (v:=Bo x87.2) rfl rfl rfl (aV r95_0 rfl (aB rfl (nq (W_seq ?_))))))
 obtain ⟨x104,hx104,hF⟩:=bind_some hF
 obtain ⟨R106,hR106⟩:=exR fun f w_=>f 5 = r30_0∧f 7 = I x57.1∧f 57 = Bo ((!x104) || (x87.2 != x7.2))∧Star H w_ ([oS 76 (oStep 126) r30_0 x57.2])
 refine W_join R106 ?_ ?_
 refine W_region (mV r95_0 rfl (mF sf3 rfl ?_))
 obtain ⟨H107b,l108,s109,z110,k111⟩:=Z.borrow
 have hb112 : (rS 76 (rStep 126)).rel H107b [r95_0] x87.1:=fz_own 0 z110 rfl
 have hb113 : (rS 76 (rStep 126)).rel H107b [r15_0] x7.1:=fz_own 2 z110 rfl
 refine L_call rfl Tryz.call21 (ops2 rfl rfl) (l_eqStepS_c (a:=x87.1) (b:=x7.1) s109 hb112 hb113 hx104) ?_
 rintro _ w114 ⟨rfl,Z⟩
 have Z:=k111 Z c0
 refine L_not_ rfl rfl (mB rfl (L_split (d:=53) (b:=(!x104)) rfl (fun hc115=>?_) (fun hc115=>?_)))
 refine ps rfl (ps rfl (ps rfl (L_pick (v:=Bo ((!x104) || (x87.2 != x7.2))) rfl rfl (or_t hc115) (nn ?_))))
 have Z:=Z.get 1 rfl
 exact rj hR106 ⟨sf5,rfl,rfl,(Star.keepN 1 Z)⟩
 refine mB rfl (mF sf4 rfl (L_bneq (b:=x87.2) (c:=x7.2) rfl Tryz.underlying4 rfl rfl (L_pick (v:=Bo ((!x104) || (x87.2 != x7.2))) rfl rfl (or_f hc115 rfl) (nn ?_))))
 have Z:=Z.get 1 rfl
 exact rj hR106 ⟨sf5,rfl,rfl,(Star.keepN 1 Z)⟩
 intro f w_ hR
 obtain ⟨sf5,sf7,sf57,Z⟩:=rk hR106 hR
 refine W_cond (b:=((!x104) || (x87.2 != x7.2))) sf57 (fun hc116=>?_) (fun hc116=>?_)
 have hF:=(ite_t hc116).symm.trans hF
 refine sq (aB rfl (nn (W_ret (retG1 (v1:=Bo false) Tryz.results5 rfl ?_))))
 obtain rfl:=so hF
 exact ⟨rfl,(Star.keepN 0 Z)⟩
 have hF:=(ite_f hc116).symm.trans hF
 refine W_skip (sq (aI rfl (nq ?_)))
 obtain ⟨x123,hx123,hF⟩:=bind_some hF
 refine W_region (mF sf5 rfl (mI rfl ?_))
 obtain ⟨H125b,l126,s127,z128,k129⟩:=Z.borrow
 have hb130 : (rS 76 (rStep 126)).rel H125b [r30_0] x57.2:=fz_own 0 z128 rfl
 refine L_call rfl Tryz.call23 (ops2 rfl rfl) (l_heldStepS_c (a:=x57.2) (k:=1) s127 hb130 hx123) ?_
 rintro _ w131 ⟨rfl,Z⟩
 have Z:=k129 Z c0
 refine aI rfl (nq (sq (mI rfl (L_lss rfl rfl rfl (nn (W_cond (b:=decide (x123 < 0)) rfl (fun hc132=>?_) (fun hc132=>?_)))))))
 have hF:=(ite_t hc132).symm.trans hF
 refine sq (aB rfl (nn (W_ret (retG1 (v1:=Bo false) Tryz.results5 rfl ?_))))
 obtain rfl:=so hF
 exact ⟨rfl,(Star.keepN 0 Z)⟩
 have hF:=(ite_f hc132).symm.trans hF
 refine W_skip (W_seq (sq (mI rfl (mF sf7 rfl (L_neq rfl rfl rfl (nn (W_cond (b:=(x123 != x57.1)) rfl (fun hc133=>?_) (fun hc133=>?_))))))))
 have hF:=(ite_t hc133).symm.trans hF
 refine sq (aB rfl (nn (W_ret (retG1 (v1:=Bo false) Tryz.results5 rfl ?_))))
 obtain rfl:=so hF
 exact ⟨rfl,(Star.keepN 0 Z)⟩
 have hF:=(ite_f hc133).symm.trans hF
 refine W_skip (sq (aB rfl (nn (W_ret (retG1 (v1:=Bo true) Tryz.results5 rfl ?_)))))
 obtain rfl:=so hF
 exact ⟨rfl,(Star.keepN 0 Z)⟩
end Go.Proofs.YtohpkefnmkdaeaaGreatDoor

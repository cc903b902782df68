/- Part of a proof by program: W4. -/
import Derived.Test.YtiodhgbfceahfaaD1
import Derived.Test.YtiodhgbfceahfaaW3
namespace Go.Proofs.Ytiodhgbfceahfaa
open Go Go.E Go.L Go.RowKit
set_option linter.unusedVariables false
set_option linter.unusedSimpArgs false
set_option maxRecDepth 100000
theorem l_FnProofPrefix_c {fu : Nat} {code : List UInt8} {more : List UInt8} {v0 : Value} {v1 : Value} {H : FH} {w : World} (hst : Star H w []) (h0 : (rS 5 RP.u8).rel H [v0] code) (h1 : (rS 5 RP.u8).rel H [v1] more) {r : Bool} (hF : l_FnProofPrefix fu code more = some r) :
 C Try.prog 9 #[v0,v1] w fun v w'=>v = Bo r∧Star H w' []:=by
 unfold l_FnProofPrefix at hF
 refine C_enter Try.func9 rfl Try.ntmps9 rfl (sq (aB rfl (nq (W_seq ?_))))
 obtain ⟨R1,hR1⟩:=exR fun f w_=>f 0 = v0∧f 1 = v1∧f 21 = Bo ((decide ((code.length : Int) > 1048576)) || (decide ((more.length : Int) > 1048576)))∧Star H w_ ([])
 refine W_join R1 ?_ ?_
 refine W_region (mV v0 rfl (L_len rfl Try.underlying45 rfl (slice_len h0) (L_gtr rfl rfl rfl (mB rfl (L_split (d:=17) (b:=decide ((code.length : Int) > 1048576)) rfl (fun hc2=>?_) (fun hc2=>?_))))))
 refine ps rfl (ps rfl (ps rfl (L_pick (v:=Bo ((decide ((code.length : Int) > 1048576)) || (decide ((more.length : Int) > 1048576)))) rfl rfl (or_t hc2) (nn (rj hR1 ⟨rfl,rfl,rfl,hst⟩)))))
 refine mV v1 rfl (L_len rfl Try.underlying45 rfl (slice_len h1) (L_gtr rfl rfl rfl (L_pick (v:=Bo ((decide ((code.length : Int) > 1048576)) || (decide ((more.length : Int) > 1048576)))) rfl rfl (or_f hc2 rfl) (nn (rj hR1 ⟨rfl,rfl,rfl,hst⟩)))))
 intro f w_ hR
 obtain ⟨sf0,sf1,sf21,hst⟩:=rk hR1 hR
 refine W_cond (b:=((decide ((code.length : Int) > 1048576)) || (decide ((more.length : Int) > 1048576)))) sf21 (fun hc3=>?_) (fun hc3=>?_)
 have hF:=(ite_t hc3).symm.trans hF
 refine sq (aB rfl (nn (W_ret (retG1 (v1:=Bo true) Try.results9 rfl ?_))))
 obtain rfl:=so hF
 exact ⟨rfl,hst⟩
 have hF:=(ite_f hc3).symm.trans hF
 refine W_skip (W_seq ?_)
 obtain ⟨x4,hx4,hF⟩:=bind_some hF
 refine W_region (mF sf0 rfl (L_call rfl Try.call33 (ops1 rfl) (s_DrawRunProof_c (code:=code) hst h0 hx4) ?_))
 rintro _ w7 ⟨H7,l7,r7_0,r7_1,rfl,hr7_0,hst⟩
 refine mV (.tuple #[r7_0,r7_1]) rfl (L_ex (v:=r7_0) rfl rfl rfl (L_ex (v:=r7_1) rfl rfl rfl (aV r7_0 rfl (aV r7_1 rfl (nq ?_)))))
 obtain ⟨x15,hx15,hF⟩:=bind_some hF
 refine W_region (mV r7_0 rfl (mV r7_1 rfl ?_))
 obtain ⟨H18b,l19,s20,z21,k22⟩:=hst.borrow
 have hb23 : (rS 63 (rStep 117)).rel H18b [r7_1] x4.2:=fz_own 0 z21 rfl
 refine L_call rfl Try.call34 (ops2 rfl rfl) (i_RunProof_c (list:=x4.1) (steps:=x4.2) s20 (RP.mono _ hr7_0 l19) hb23 hx15) ?_
 rintro _ w24 ⟨r24_0,rfl,hst⟩
 have hst:=k22 hst (co closed_oCon c0)
 refine mV (.tuple #[r24_0,I x15.2]) rfl (L_ex (v:=r24_0) rfl rfl rfl (L_ex (v:=I x15.2) rfl rfl rfl (aV r24_0 rfl (aI rfl (nq ?_)))))
 obtain ⟨x32,hx32,hF⟩:=bind_some hF
 refine W_region (mV r7_0 rfl (mV r7_1 rfl ?_))
 obtain ⟨H35b,l36,s37,z38,k39⟩:=hst.borrow
 have hb40 : (rS 63 (rStep 117)).rel H35b [r7_1] x4.2:=fz_own 1 z38 rfl
 refine L_call rfl Try.call35 (ops2 rfl rfl) (s_RunProof_c (list:=x4.1) (steps:=x4.2) s37 (RP.mono _ hr7_0 l36) hb40 hx32) ?_
 rintro _ w41 ⟨r41_0,rfl,hst⟩
 have hst:=k39 hst (co closed_oCon c0)
 refine mV (.tuple #[r41_0,I x32.2]) rfl (L_ex (v:=r41_0) rfl rfl rfl (L_ex (v:=I x32.2) rfl rfl rfl (aV r41_0 rfl (aI rfl (nq (W_seq ?_))))))
 obtain ⟨b50,hb50,hF⟩:=bind_some hF
 obtain ⟨R51,hR51⟩:=exR fun f w_=>f 1 = v1∧f 5 = r7_0∧f 6 = r7_1∧f 8 = I x15.2∧f 10 = I x32.2∧f 46 = Bo b50∧Star H7 w_ ([oF 63 (rStep 117) r7_1 x4.2])
 refine W_join R51 ?_ ?_
 refine W_region (mI rfl (mI rfl (L_neq rfl rfl rfl (mB rfl (L_split (d:=42) (b:=(x15.2 != x32.2)) rfl (fun hc52=>?_) (fun hc52=>?_))))))
 rw [ite_t hc52] at hb50
 refine ps rfl (ps rfl (ps rfl (L_pick (v:=Bo b50) rfl rfl (congrArg Value.bool (so hb50)) (nn ?_))))
 have hst:=hst.get 2 rfl
 exact rj hR51 ⟨sf1,rfl,rfl,rfl,rfl,rfl,(Star.keepN 1 hst)⟩
 rw [ite_f hc52] at hb50
 obtain ⟨x48,hx48,hb50⟩:=bind_some hb50
 refine mV r7_0 rfl ?_
 obtain ⟨H53b,l54,s55,z56,k57⟩:=hst.borrow
 refine L_call rfl Try.call39 (ops1 rfl) (i_ProblemValid_c (list:=x4.1) s55 (RP.mono _ hr7_0 l54) hx48) ?_
 rintro _ w58 ⟨rfl,hst⟩
 have hst:=k57 hst c0
 refine L_not_ rfl rfl (L_pick (v:=Bo b50) rfl rfl (congrArg Value.bool (so hb50)) (nn ?_))
 have hst:=hst.get 2 rfl
 exact rj hR51 ⟨sf1,rfl,rfl,rfl,rfl,rfl,(Star.keepN 1 hst)⟩
 intro f w_ hR
 obtain ⟨sf1,sf5,sf6,sf8,sf10,sf46,hst⟩:=rk hR51 hR
 refine W_cond (b:=b50) sf46 (fun hc59=>?_) (fun hc59=>?_)
 have hF:=(ite_t hc59).symm.trans hF
 refine sq (mF sf8 rfl (mF sf10 rfl (L_eql rfl rfl rfl (aB rfl (nn (W_ret (retG1 (v1:=Bo (x15.2 == x32.2)) Try.results9 rfl ?_)))))))
 obtain rfl:=so hF
 exact ⟨rfl,(Star.down (Star.keepN 0 hst) l7 c0)⟩
 have hF:=(ite_f hc59).symm.trans hF
 refine W_skip (W_seq ?_)
 obtain ⟨q60,hq60,hF⟩:=bind_some hF
 refine W_region (mF sf1 rfl (L_len rfl Try.underlying45 rfl (slice_len (RP.mono _ h1 l7)) (mF sf6 rfl (L_len rfl Try.underlying29 rfl (Star.len 0 hst rfl) (L_add rfl rfl rfl (L_rem (m:=(more.length : Int)) (n:=i64 ((x4.2.length : Int) + 1)) rfl rfl rfl (fun he=>by rw [if_pos he] at hq60; cases hq60) (aI rfl (nq ?_))))))))
 obtain ⟨x61,hx61,hF⟩:=bind_some hF
 obtain ⟨x70,hx70,hF⟩:=bind_some hF
 refine W_region (mF sf5 rfl (mF sf6 rfl (mI rfl (L_slO (R:=(OR.frz (rStep 117))) (b:=Int.tmod (more.length : Int) (i64 ((x4.2.length : Int) + 1))) rfl et_29 rfl hst trivial rfl hx61 (fun v73 hst=>?_)))))
 obtain ⟨H75b,l76,s77,z78,k79⟩:=hst.borrow
 have hb80 : (rS 63 (rStep 117)).rel H75b [v73] x61:=fz_own 0 z78 rfl
 refine L_call rfl Try.call34 (ops2 rfl rfl) (i_RunProof_c (list:=x4.1) (steps:=x61) s77 (RP.mono _ hr7_0 l76) hb80 hx70) ?_
 rintro _ w81 ⟨r81_0,rfl,hst⟩
 have hst:=k79 hst (co closed_oCon c0)
 refine mV (.tuple #[r81_0,I x70.2]) rfl (L_ex (v:=r81_0) rfl rfl rfl (L_ex (v:=I x70.2) rfl rfl rfl (aV r81_0 rfl (aI rfl (nq ?_)))))
 obtain ⟨R83,hR83⟩:=exR fun f w_=>f 4 = Bo (((x70.2 == (-1)) && ((decide (x15.2 < 0)) || (decide (x15.2 ≥ (Int.tmod (more.length : Int) (i64 ((x4.2.length : Int) + 1))))))) || (((decide (x70.2 ≥ 0)) && (x70.2 == x15.2)) && (decide (x15.2 < (Int.tmod (more.length : Int) (i64 ((x4.2.length : Int) + 1)))))))∧Star H7 w_ ([])
 refine W_join R83 ?_ ?_
 refine W_region (mI rfl (L_eql rfl rfl rfl (mB rfl (L_split (d:=66) (b:=(x70.2 == (-1))) rfl (fun hc84=>?_) (fun hc84=>?_)))))
 refine mF sf8 rfl (L_lss rfl rfl rfl (mB rfl (L_split (d:=69) (b:=decide (x15.2 < 0)) rfl (fun hc85=>?_) (fun hc85=>?_))))
 refine ps rfl (ps rfl (ps rfl (L_pick (v:=Bo ((decide (x15.2 < 0)) || (decide (x15.2 ≥ (Int.tmod (more.length : Int) (i64 ((x4.2.length : Int) + 1))))))) rfl rfl (or_t hc85) (L_pick (v:=Bo ((x70.2 == (-1)) && ((decide (x15.2 < 0)) || (decide (x15.2 ≥ (Int.tmod (more.length : Int) (i64 ((x4.2.length : Int) + 1)))))))) rfl rfl (and_t hc84 rfl) (mB rfl (L_split (d:=75) (b:=((x70.2 == (-1)) && ((decide (x15.2 < 0)) || (decide (x15.2 ≥ (Int.tmod (more.length : Int) (i64 ((x4.2.length : Int) + 1)))))))) rfl (fun hc86=>?_) (fun hc86=>?_)))))))
 refine ps rfl (ps rfl (ps rfl (ps rfl (ps rfl (ps rfl (ps rfl (ps rfl (ps rfl (ps rfl (ps rfl (ps rfl (L_pick (v:=Bo (((x70.2 == (-1)) && ((decide (x15.2 < 0)) || (decide (x15.2 ≥ (Int.tmod (more.length : Int) (i64 ((x4.2.length : Int) + 1))))))) || (((decide (x70.2 ≥ 0)) && (x70.2 == x15.2)) && (decide (x15.2 < (Int.tmod (more.length : Int) (i64 ((x4.2.length : Int) + 1)))))))) rfl rfl (or_t hc86) (aB rfl (nn (rj hR83 ⟨rfl,(Star.keepN 0 hst)⟩)))))))))))))))
 refine mI rfl (L_geq rfl rfl rfl (mB rfl (L_split (d:=78) (b:=decide (x70.2 ≥ 0)) rfl (fun hc87=>?_) (fun hc87=>?_))))
 refine mI rfl (mF sf8 rfl (L_eql rfl rfl rfl (L_pick (v:=Bo ((decide (x70.2 ≥ 0)) && (x70.2 == x15.2))) rfl rfl (and_t hc87 rfl) (mB rfl (L_split (d:=83) (b:=((decide (x70.2 ≥ 0)) && (x70.2 == x15.2))) rfl (fun hc88=>?_) (fun hc88=>?_))))))
 refine mF sf8 rfl (mI rfl (L_lss rfl rfl rfl (L_pick (v:=Bo (((decide (x70.2 ≥ 0)) && (x70.2 == x15.2)) && (decide (x15.2 < (Int.tmod (more.length : Int) (i64 ((x4.2.length : Int) + 1))))))) rfl rfl (and_t hc88 rfl) (L_pick (v:=Bo (((x70.2 == (-1)) && ((decide (x15.2 < 0)) || (decide (x15.2 ≥ (Int.tmod (more.length : Int) (i64 ((x4.2.length : Int) + 1))))))) || (((decide (x70.2 ≥ 0)) && (x70.2 == x15.2)) && (decide (x15.2 < (Int.tmod (more.length : Int) (i64 ((x4.2.length : Int) + 1)))))))) rfl rfl (or_f hc86 rfl) (aB rfl (nn (rj hR83 ⟨rfl,(Star.keepN 0 hst)⟩)))))))
 refine ps rfl (ps rfl (ps rfl (L_pick (v:=Bo (((decide (x70.2 ≥ 0)) && (x70.2 == x15.2)) && (decide (x15.2 < (Int.tmod (more.length : Int) (i64 ((x4.2.length : Int) + 1))))))) rfl rfl (and_f hc88) (L_pick (v:=Bo (((x70.2 == (-1)) && ((decide (x15.2 < 0)) || (decide (x15.2 ≥ (Int.tmod (more.length : Int) (i64 ((x4.2.length : Int) + 1))))))) || (((decide (x70.2 ≥ 0)) && (x70.2 == x15.2)) && (decide (x15.2 < (Int.tmod (more.length : Int) (i64 ((x4.2.length : Int) + 1)))))))) rfl rfl (or_f hc86 rfl) (aB rfl (nn (rj hR83 ⟨rfl,(Star.keepN 0 hst)⟩)))))))
 refine ps rfl (ps rfl (ps rfl (L_pick (v:=Bo ((decide (x70.2 ≥ 0)) && (x70.2 == x15.2))) rfl rfl (and_f hc87) (mB rfl (L_split (d:=83) (b:=((decide (x70.2 ≥ 0)) && (x70.2 == x15.2))) rfl (fun hc89=>?_) (fun hc89=>?_))))))
 refine mF sf8 rfl (mI rfl (L_lss rfl rfl rfl (L_pick (v:=Bo (((decide (x70.2 ≥ 0)) && (x70.2 == x15.2)) && (decide (x15.2 < (Int.tmod (more.length : Int) (i64 ((x4.2.length : Int) + 1))))))) rfl rfl (and_t hc89 rfl) (L_pick (v:=Bo (((x70.2 == (-1)) && ((decide (x15.2 < 0)) || (decide (x15.2 ≥ (Int.tmod (more.length : Int) (i64 ((x4.2.length : Int) + 1))))))) || (((decide (x70.2 ≥ 0)) && (x70.2 == x15.2)) && (decide (x15.2 < (Int.tmod (more.length : Int) (i64 ((x4.2.length : Int) + 1)))))))) rfl rfl (or_f hc86 rfl) (aB rfl (nn (rj hR83 ⟨rfl,(Star.keepN 0 hst)⟩)))))))
 refine ps rfl (ps rfl (ps rfl (L_pick (v:=Bo (((decide (x70.2 ≥ 0)) && (x70.2 == x15.2)) && (decide (x15.2 < (Int.tmod (more.length : Int) (i64 ((x4.2.length : Int) + 1))))))) rfl rfl (and_f hc89) (L_pick (v:=Bo (((x70.2 == (-1)) && ((decide (x15.2 < 0)) || (decide (x15.2 ≥ (Int.tmod (more.length : Int) (i64 ((x4.2.length : Int) + 1))))))) || (((decide (x70.2 ≥ 0)) && (x70.2 == x15.2)) && (decide (x15.2 < (Int.tmod (more.length : Int) (i64 ((x4.2.length : Int) + 1)))))))) rfl rfl (or_f hc86 rfl) (aB rfl (nn (rj hR83 ⟨rfl,(Star.keepN 0 hst)⟩)))))))
 refine mF sf8 rfl (mI rfl (L_geq rfl rfl rfl (L_pick (v:=Bo ((decide (x15.2 < 0)) || (decide (x15.2 ≥ (Int.tmod (more.length : Int) (i64 ((x4.2.length : Int) + 1))))))) rfl rfl (or_f hc85 rfl) (L_pick (v:=Bo ((x70.2 == (-1)) && ((decide (x15.2 < 0)) || (decide (x15.2 ≥ (Int.tmod (more.length : Int) (i64 ((x4.2.length : Int) + 1)))))))) rfl rfl (and_t hc84 rfl) (mB rfl (L_split (d:=75) (b:=((x70.2 == (-1)) && ((decide (x15.2 < 0)) || (decide (x15.2 ≥ (Int.tmod (more.length : Int) (i64 ((x4.2.length : Int) + 1)))))))) rfl (fun hc90=>?_) (fun hc90=>?_)))))))
 refine ps rfl (ps rfl (ps rfl (ps rfl (ps rfl (ps rfl (ps rfl (ps rfl (ps rfl (ps rfl (ps rfl (ps rfl (L_pick (v:=Bo (((x70.2 == (-1)) && ((decide (x15.2 < 0)) || (decide (x15.2 ≥ (Int.tmod (more.length : Int) (i64 ((x4.2.length : Int) + 1))))))) || (((decide (x70.2 ≥ 0)) && (x70.2 == x15.2)) && (decide (x15.2 < (Int.tmod (more.length : Int) (i64 ((x4.2.length : Int) + 1)))))))) rfl rfl (or_t hc90) (aB rfl (nn (rj hR83 ⟨rfl,(Star.keepN 0 hst)⟩)))))))))))))))
 refine mI rfl (L_geq rfl rfl rfl (mB rfl (L_split (d:=78) (b:=decide (x70.2 ≥ 0)) rfl (fun hc91=>?_) (fun hc91=>?_))))
 refine mI rfl (mF sf8 rfl (L_eql rfl rfl rfl (L_pick (v:=Bo ((decide (x70.2 ≥ 0)) && (x70.2 == x15.2))) rfl rfl (and_t hc91 rfl) (mB rfl (L_split (d:=83) (b:=((decide (x70.2 ≥ 0)) && (x70.2 == x15.2))) rfl (fun hc92=>?_) (fun hc92=>?_))))))
 refine mF sf8 rfl (mI rfl (L_lss rfl rfl rfl (L_pick (v:=Bo (((decide (x70.2 ≥ 0)) && (x70.2 == x15.2)) && (decide (x15.2 < (Int.tmod (more.length : Int) (i64 ((x4.2.length : Int) + 1))))))) rfl rfl (and_t hc92 rfl) (L_pick (v:=Bo (((x70.2 == (-1)) && ((decide (x15.2 < 0)) || (decide (x15.2 ≥ (Int.tmod (more.length : Int) (i64 ((x4.2.length : Int) + 1))))))) || (((decide (x70.2 ≥ 0)) && (x70.2 == x15.2)) && (decide (x15.2 < (Int.tmod (more.length : Int) (i64 ((x4.2.length : Int) + 1)))))))) rfl rfl (or_f hc90 rfl) (aB rfl (nn (rj hR83 ⟨rfl,(Star.keepN 0 hst)⟩)))))))
 refine ps rfl (ps rfl (ps rfl (L_pick (v:=Bo (((decide (x70.2 ≥ 0)) && (x70.2 == x15.2)) && (decide (x15.2 < (Int.tmod (more.length : Int) (i64 ((x4.2.length : Int) + 1))))))) rfl rfl (and_f hc92) (L_pick (v:=Bo (((x70.2 == (-1)) && ((decide (x15.2 < 0)) || (decide (x15.2 ≥ (Int.tmod (more.length : Int) (i64 ((x4.2.length : Int) + 1))))))) || (((decide (x70.2 ≥ 0)) && (x70.2 == x15.2)) && (decide (x15.2 < (Int.tmod (more.length : Int) (i64 ((x4.2.length : Int) + 1)))))))) rfl rfl (or_f hc90 rfl) (aB rfl (nn (rj hR83 ⟨rfl,(Star.keepN 0 hst)⟩)))))))
 refine ps rfl (ps rfl (ps rfl (L_pick (v:=Bo ((decide (x70.2 ≥ 0)) && (x70.2 == x15.2))) rfl rfl (and_f hc91) (mB rfl (L_split (d:=83) (b:=((decide (x70.2 ≥ 0)) && (x70.2 == x15.2))) rfl (fun hc93=>?_) (fun hc93=>?_))))))
 refine mF sf8 rfl (mI rfl (L_lss rfl rfl rfl (L_pick (v:=Bo (((decide (x70.2 ≥ 0)) && (x70.2 == x15.2)) && (decide (x15.2 < (Int.tmod (more.length : Int) (i64 ((x4.2.length : Int) + 1))))))) rfl rfl (and_t hc93 rfl) (L_pick (v:=Bo (((x70.2 == (-1)) && ((decide (x15.2 < 0)) || (decide (x15.2 ≥ (Int.tmod (more.length : Int) (i64 ((x4.2.length : Int) + 1))))))) || (((decide (x70.2 ≥ 0)) && (x70.2 == x15.2)) && (decide (x15.2 < (Int.tmod (more.length : Int) (i64 ((x4.2.length : Int) + 1)))))))) rfl rfl (or_f hc90 rfl) (aB rfl (nn (rj hR83 ⟨rfl,(Star.keepN 0 hst)⟩)))))))
 refine ps rfl (ps rfl (ps rfl (L_pick (v:=Bo (((decide (x70.2 ≥ 0)) && (x70.2 == x15.2)) && (decide (x15.2 < (Int.tmod (more.length : Int) (i64 ((x4.2.length : Int) + 1))))))) rfl rfl (and_f hc93) (L_pick (v:=Bo (((x70.2 == (-1)) && ((decide (x15.2 < 0)) || (decide (x15.2 ≥ (Int.tmod (more.length : Int) (i64 ((x4.2.length : Int) + 1))))))) || (((decide (x70.2 ≥ 0)) && (x70.2 == x15.2)) && (decide (x15.2 < (Int.tmod (more.length : Int) (i64 ((x4.2.length : Int) + 1)))))))) rfl rfl (or_f hc90 rfl) (aB rfl (nn (rj hR83 ⟨rfl,(Star.keepN 0 hst)⟩)))))))
 refine ps rfl (ps rfl (ps rfl (ps rfl (ps rfl (ps rfl (ps rfl (L_pick (v:=Bo ((x70.2 == (-1)) && ((decide (x15.2 < 0)) || (decide (x15.2 ≥ (Int.tmod (more.length : Int) (i64 ((x4.2.length : Int) + 1)))))))) rfl rfl (and_f hc84) (mB rfl (L_split (d:=75) (b:=((x70.2 == (-1)) && ((decide (x15.2 < 0)) || (decide (x15.2 ≥ (Int.tmod (more.length : Int) (i64 ((x4.2.length : Int) + 1)))))))) rfl (fun hc94=>?_) (fun hc94=>?_))))))))))
 refine ps rfl (ps rfl (ps rfl (ps rfl (ps rfl (ps rfl (ps rfl (ps rfl (ps rfl (ps rfl (ps rfl (ps rfl (L_pick (v:=Bo (((x70.2 == (-1)) && ((decide (x15.2 < 0)) || (decide (x15.2 ≥ (Int.tmod (more.length : Int) (i64 ((x4.2.length : Int) + 1))))))) || (((decide (x70.2 ≥ 0)) && (x70.2 == x15.2)) && (decide (x15.2 < (Int.tmod (more.length : Int) (i64 ((x4.2.length : Int) + 1)))))))) rfl rfl (or_t hc94) (aB rfl (nn (rj hR83 ⟨rfl,(Star.keepN 0 hst)⟩)))))))))))))))
 refine mI rfl (L_geq rfl rfl rfl (mB rfl (L_split (d:=78) (b:=decide (x70.2 ≥ 0)) rfl (fun hc95=>?_) (fun hc95=>?_))))
 refine mI rfl (mF sf8 rfl (L_eql rfl rfl rfl (L_pick (v:=Bo ((decide (x70.2 ≥ 0)) && (x70.2 == x15.2))) rfl rfl (and_t hc95 rfl) (mB rfl (L_split (d:=83) (b:=((decide (x70.2 ≥ 0)) && (x70.2 == x15.2))) rfl (fun hc96=>?_) (fun hc96=>?_))))))
 refine mF sf8 rfl (mI rfl (L_lss rfl rfl rfl (L_pick (v:=Bo (((decide (x70.2 ≥ 0)) && (x70.2 == x15.2)) && (decide (x15.2 < (Int.tmod (more.length : Int) (i64 ((x4.2.length : Int) + 1))))))) rfl rfl (and_t hc96 rfl) (L_pick (v:=Bo (((x70.2 == (-1)) && ((decide (x15.2 < 0)) || (decide (x15.2 ≥ (Int.tmod (more.length : Int) (i64 ((x4.2.length : Int) + 1))))))) || (((decide (x70.2 ≥ 0)) && (x70.2 == x15.2)) && (decide (x15.2 < (Int.tmod (more.length : Int) (i64 ((x4.2.length : Int) + 1)))))))) rfl rfl (or_f hc94 rfl) (aB rfl (nn (rj hR83 ⟨rfl,(Star.keepN 0 hst)⟩)))))))
 refine ps rfl (ps rfl (ps rfl (L_pick (v:=Bo (((decide (x70.2 ≥ 0)) && (x70.2 == x15.2)) && (decide (x15.2 < (Int.tmod (more.length : Int) (i64 ((x4.2.length : Int) + 1))))))) rfl rfl (and_f hc96) (L_pick (v:=Bo (((x70.2 == (-1)) && ((decide (x15.2 < 0)) || (decide (x15.2 ≥ (Int.tmod (more.length : Int) (i64 ((x4.2.length : Int) + 1))))))) || (((decide (x70.2 ≥ 0)) && (x70.2 == x15.2)) && (decide (x15.2 < (Int.tmod (more.length : Int) (i64 ((x4.2.length : Int) + 1)))))))) rfl rfl (or_f hc94 rfl) (aB rfl (nn (rj hR83 ⟨rfl,(Star.keepN 0 hst)⟩)))))))
 refine ps rfl (ps rfl (ps rfl (L_pick (v:=Bo ((decide (x70.2 ≥ 0)) && (x70.2 == x15.2))) rfl rfl (and_f hc95) (mB rfl (L_split (d:=83) (b:=((decide (x70.2 ≥ 0)) && (x70.2 == x15.2))) rfl (fun hc97=>?_) (fun hc97=>?_))))))
 refine mF sf8 rfl (mI rfl (L_lss rfl rfl rfl (L_pick (v:=Bo (((decide (x70.2 ≥ 0)) && (x70.2 == x15.2)) && (decide (x15.2 < (Int.tmod (more.length : Int) (i64 ((x4.2.length : Int) + 1))))))) rfl rfl (and_t hc97 rfl) (L_pick (v:=Bo (((x70.2 == (-1)) && ((decide (x15.2 < 0)) || (decide (x15.2 ≥ (Int.tmod (more.length : Int) (i64 ((x4.2.length : Int) + 1))))))) || (((decide (x70.2 ≥ 0)) && (x70.2 == x15.2)) && (decide (x15.2 < (Int.tmod (more.length : Int) (i64 ((x4.2.length : Int) + 1)))))))) rfl rfl (or_f hc94 rfl) (aB rfl (nn (rj hR83 ⟨rfl,(Star.keepN 0 hst)⟩)))))))
 refine ps rfl (ps rfl (ps rfl (L_pick (v:=Bo (((decide (x70.2 ≥ 0)) && (x70.2 == x15.2)) && (decide (x15.2 < (Int.tmod (more.length : Int) (i64 ((x4.2.length : Int) + 1))))))) rfl rfl (and_f hc97) (L_pick (v:=Bo (((x70.2 == (-1)) && ((decide (x15.2 < 0)) || (decide (x15.2 ≥ (Int.tmod (more.length : Int) (i64 ((x4.2.length : Int) + 1))))))) || (((decide (x70.2 ≥ 0)) && (x70.2 == x15.2)) && (decide (x15.2 < (Int.tmod (more.length : Int) (i64 ((x4.2.length : Int) + 1)))))))) rfl rfl (or_f hc94 rfl) (aB rfl (nn (rj hR83 ⟨rfl,(Star.keepN 0 hst)⟩)))))))
 intro f w_ hR
 obtain ⟨sf4,hst⟩:=rk hR83 hR
 refine W_ret (retG1 (v1:=Bo (((x70.2 == (-1)) && ((decide (x15.2 < 0)) || (decide (x15.2 ≥ (Int.tmod (more.length : Int) (i64 ((x4.2.length : Int) + 1))))))) || (((decide (x70.2 ≥ 0)) && (x70.2 == x15.2)) && (decide (x15.2 < (Int.tmod (more.length : Int) (i64 ((x4.2.length : Int) + 1)))))))) Try.results9 sf4 ?_)
 obtain rfl:=so hF
 exact ⟨rfl,(Star.down hst l7 c0)⟩
end Go.Proofs.Ytiodhgbfceahfaa

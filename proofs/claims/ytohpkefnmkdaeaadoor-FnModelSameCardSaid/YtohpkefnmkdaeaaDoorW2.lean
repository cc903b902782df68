/- Part of a proof by program: W2. -/
import Derived.Test.YtohpkefnmkdaeaaDoorD1
import Derived.Test.YtohpkefnmkdaeaaDoorW1
namespace Go.Proofs.YtohpkefnmkdaeaaDoor
open Go Go.E Go.L Go.RowKit
set_option linter.unusedVariables false
set_option linter.unusedSimpArgs false
set_option maxRecDepth 100000
theorem slices_ContainsFunc_Sint_c {s : List (List Int)} {f_ : ((List Int)→Option Bool)} {v0 : Value} {v1 : Value} {H : FH} {w : World} (Z : Star H w []) (h0 : (rS 23 (rS 3 RP.int)).rel H [v0] s) (h1 : Fun1 Tryd.prog (rS 3 RP.int) false Value.bool f_ v1 H) {r : Bool} (hF : slices_ContainsFunc_Sint s f_ = some r) :
 C Tryd.prog 86 #[v0,v1] w fun v w'=>v = Bo r∧Star H w' []:=by
 unfold slices_ContainsFunc_Sint at hF
 obtain ⟨fid_1,caps_1,rfl,hcall_1,hc_1⟩:=h1
 refine C_enter Tryd.func86 rfl Tryd.ntmps86 rfl (sq (aB rfl (nq ?_)))
 obtain ⟨x6,hx6,hF⟩:=bind_some hF
 refine W_region (mV v0 rfl (mV (.func (.func fid_1) #[] caps_1) rfl ?_))
 obtain ⟨H8b,l9,s10,z11,k12⟩:=Z.borrow
 refine L_call rfl Tryd.call106 (ops2 rfl rfl) (slices_IndexFunc_Sint_c (s:=s) (f_:=f_) s10 (RP.mono _ h0 l9) (Fun1.le ⟨_,_,rfl,hcall_1,hc_1⟩ l9) hx6) ?_
 rintro _ w13 ⟨rfl,Z⟩
 have Z:=k12 Z c0
 refine L_geq rfl rfl rfl (aB rfl (nn (W_ret (retG1 (v1:=Bo (decide (x6 ≥ 0))) Tryd.results86 rfl ?_))))
 obtain rfl:=so hF
 exact ⟨rfl,Z⟩
theorem i_ruleValid_2_1_c {n_ : Int} {H : FH} {w : World} (Z : Star H w []) {r : Bool} (hF : i_ruleValid_2_1 n_ = some r) :
 C Tryd.prog 88 #[I n_] w fun v w'=>v = Bo r∧Star H w' []:=by
 unfold i_ruleValid_2_1 at hF
 refine C_enter Tryd.func88 rfl Tryd.ntmps88 rfl (sq (aB rfl (nq ?_)))
 obtain ⟨x6,hx6,hF⟩:=bind_some hF
 refine W_region (mI rfl ?_)
 obtain ⟨H8b,l9,s10,z11,k12⟩:=Z.borrow
 refine L_call rfl Tryd.call51 (ops3 rfl rfl rfl) (i_within_c (n_:=n_) (low:=0) (high:=3) s10 hx6) ?_
 rintro _ w13 ⟨rfl,Z⟩
 have Z:=k12 Z c0
 refine L_not_ rfl rfl (aB rfl (nn (W_ret (retG1 (v1:=Bo (!x6)) Tryd.results88 rfl ?_))))
 obtain rfl:=so hF
 exact ⟨rfl,Z⟩
theorem i_ruleValid_2_c {c1 : Rule} {row : List Int} {v0 : Value} {g_c1 : Nat} {v1_1 : Value} {v1_2 : Value} {v1_4 : Value} {H : FH} {w : World} (Z : Star H w []) (h0 : (rS 3 RP.int).rel H [v0] row) (hat_g_c1 : AtH H g_c1 0 [I c1.kind,v1_1,v1_2,I c1.bound,v1_4]) (h1_1 : (rS 3 RP.int).rel H [v1_1] c1.vars) (h1_2 : (rS 3 RP.int).rel H [v1_2] c1.coefs) (h1_4 : (rS 23 (rS 3 RP.int)).rel H [v1_4] c1.rows) {r : Bool} (hF : i_ruleValid_2 c1 row = some r) :
 C Tryd.prog 87 #[v0,Pt g_c1] w fun v w'=>v = Bo r∧Star H w' []:=by
 unfold i_ruleValid_2 at hF
 refine C_enter Tryd.func87 rfl Tryd.ntmps87 rfl (sq (aB rfl (nq ?_)))
 obtain ⟨b8,hb8,hF⟩:=bind_some hF
 obtain ⟨R9,hR9⟩:=exR fun f w_=>f 3 = Bo b8∧Star H w_ ([])
 refine W_join R9 ?_ ?_
 refine W_region (mV v0 rfl (L_len rfl Tryd.underlying23 rfl (slice_len h0) (fA 1 fa_54_1 rfl rfl (L_ld rfl Tryd.isAgg23 rfl (At.cell0 (AtH.at hat_g_c1 Z.sub) (j:=1) rfl) (L_len rfl Tryd.underlying23 rfl (slice_len h1_1) (L_neq rfl rfl rfl (mB rfl (L_split (d:=10) (b:=((row.length : Int) != (c1.vars.length : Int))) rfl (fun hc10=>?_) (fun hc10=>?_)))))))))
 rw [ite_t hc10] at hb8
 refine ps rfl (ps rfl (L_pick (v:=Bo b8) rfl rfl (congrArg Value.bool (so hb8)) (aB rfl (nn (rj hR9 ⟨rfl,Z⟩)))))
 rw [ite_f hc10] at hb8
 obtain ⟨x6,hx6,hb8⟩:=bind_some hb8
 refine mV v0 rfl ?_
 obtain ⟨H11b,l12,s13,z14,k15⟩:=Z.borrow
 have hf16 : Fun1 Tryd.prog RP.int false Value.bool i_ruleValid_2_1 (.func (.func 88) #[] #[]) H11b:=by
   refine ⟨_,_,rfl,Tryd.call88,fun H_ w_ hE_ hs_ cs_ x_ y_ args_ hr_ hy_ ha_=>?_⟩
   obtain rfl : cs_ = [_]:=hr_
   obtain rfl:=args_of (b:=#[I x_]) ha_
   exact i_ruleValid_2_1_c (n_:=x_) hs_  hy_
 refine L_call rfl Tryd.call84 (ops2 rfl rfl) (slices_ContainsFunc_int_c (s:=row) (f_:=i_ruleValid_2_1) s13 (RP.mono _ h0 l12) hf16 hx6) ?_
 rintro _ w17 ⟨rfl,Z⟩
 have Z:=k15 Z c0
 refine L_pick (v:=Bo b8) rfl rfl (congrArg Value.bool (so hb8)) (aB rfl (nn (rj hR9 ⟨rfl,Z⟩)))
 intro f w_ hR
 obtain ⟨sf3,Z⟩:=rk hR9 hR
 refine W_ret (retG1 (v1:=Bo b8) Tryd.results87 sf3 ?_)
 obtain rfl:=so hF
 exact ⟨rfl,Z⟩
theorem i_ruleValid_c {r_ : Rule} {cells : Int} {v0_1 : Value} {v0_2 : Value} {v0_4 : Value} {H : FH} {w : World} (Z : Star H w []) (h0_1 : (rS 3 RP.int).rel H [v0_1] r_.vars) (h0_2 : (rS 3 RP.int).rel H [v0_2] r_.coefs) (h0_4 : (rS 23 (rS 3 RP.int)).rel H [v0_4] r_.rows) {r : Bool} (hF : i_ruleValid r_ cells = some r) :
 C Tryd.prog 54 #[.agg #[I r_.kind,v0_1,v0_2,I r_.bound,v0_4],I cells] w fun v w'=>v = Bo r∧Star H w' []:=by
 unfold i_ruleValid at hF
 refine C_enter Tryd.func54 rfl Tryd.ntmps54 rfl (sq (L_box (v:=.agg #[I r_.kind,v0_1,v0_2,I r_.bound,v0_4]) (cs:=#[I r_.kind,v0_1,v0_2,I r_.bound,v0_4]) rfl rfl rfl Z (fun g3 w4 Z=>aB rfl (nq (sq (fA 1 fa_54_1 rfl rfl (ldB 0 Z Tryd.isAgg23 rfl rfl rfl (L_len rfl Tryd.underlying23 rfl (slice_len h0_1) (mI rfl (nn ?_))))))))))
 have hlen6 : List.length r_.vars≤9223372036854775807:=len_le (slice_len h0_1)
 obtain ⟨j6,hL6,hF⟩:=bind_some hF
 obtain ⟨R6,hR6⟩:=exR fun f w_=>j6 = .nx ()∧f 2 = Pt g3∧Star H w_ ([box g3 54 #[I r_.kind,v0_1,v0_2,I r_.bound,v0_4]])
 refine W_join R6 ?_ ?_
 refine W_block ?_
 obtain ⟨I6,hI6⟩:=exI fun n f w_=>∃ i_5 : Nat,∃ suf6 : List Int,n = suf6.length∧List.drop i_5 r_.vars = suf6∧i_5 + suf6.length = r_.vars.length∧rangeL (i_ruleValid_b1 r_ cells) suf6 i_5 () = some j6∧f 1 = I cells∧f 2 = Pt g3∧f 8 = v0_1∧f 9 = I (r_.vars.length : Int)∧f 10 = I i_5∧Star H w_ ([box g3 54 #[I r_.kind,v0_1,v0_2,I r_.bound,v0_4]])
 refine W_loop I6 (n:=r_.vars.length) ?_ ?_
 exact ij hI6 ⟨0,r_.vars,rfl,rfl,Nat.zero_add _,hL6,rfl,rfl,rfl,rfl,rfl,Z⟩
 intro n6 f w_ hI
 obtain ⟨i_5,suf6,rfl,hd6,hl6,hL6,sf1,sf2,sf8,sf9,sf10,Z⟩:=ik hI6 hI
 refine sq (L_lss rfl sf10 sf9 (nq (W_cond (b:=decide ((i_5 : Int) < (r_.vars.length : Int))) rfl (fun hc7=>?_) (fun hc7=>?_))))
 have hlt6:=of_decide_eq_true hc7
 rcases suf6 with _ | ⟨x_6,rest6⟩
 exact absurd hlt6 (by simp at hl6; omega)
 obtain ⟨o6,hB6,hL6⟩:=range_cons hL6
 rw [i_ruleValid_b1] at hB6
 have hix6:=drop_idx hd6
 refine W_skip (W_seq (W_block (sq (mF sf10 rfl (L_ix (r:=RP.int) rfl Tryd.underlying23 Tryd.sizeOf3 sf8 h0_1 sf10 hix6 (fun g12 o13 cs_g12 hrk_hat14 hat14=>?_))))))
 obtain rfl : _ = [_]:=hrk_hat14
 refine L_ld rfl Tryd.isAgg3 rfl (At.cell (AtH.at hat14 Z.sub) (j:=0) rfl) (aI rfl (aI rfl (nq ?_)))
 obtain ⟨x21,hx21,hB6⟩:=bind_some hB6
 obtain ⟨b33,hb33,hB6⟩:=bind_some hB6
 obtain ⟨R34,hR34⟩:=exR fun f w_=>f 1 = I cells∧f 2 = Pt g3∧f 8 = v0_1∧f 9 = I (r_.vars.length : Int)∧f 10 = I i_5∧f 27 = Bo b33∧Star H w_ ([box g3 54 #[I r_.kind,v0_1,v0_2,I r_.bound,v0_4]])
 refine W_join R34 ?_ ?_
 refine W_region (mI rfl (mF sf1 rfl (L_sub rfl rfl rfl ?_)))
 obtain ⟨H35b,l36,s37,z38,k39⟩:=Z.borrow
 refine L_call rfl Tryd.call51 (ops3 rfl rfl rfl) (i_within_c (n_:=x_6) (low:=0) (high:=i64 (cells - 1)) s37 hx21) ?_
 rintro _ w40 ⟨rfl,Z⟩
 have Z:=k39 Z c0
 refine L_not_ rfl rfl (mB rfl (L_split (d:=20) (b:=(!x21)) rfl (fun hc41=>?_) (fun hc41=>?_)))
 rw [ite_t hc41] at hb33
 refine ps rfl (ps rfl (ps rfl (ps rfl (ps rfl (ps rfl (L_pick (v:=Bo b33) rfl rfl (congrArg Value.bool (so hb33)) (nn (rj hR34 ⟨sf1,sf2,sf8,sf9,sf10,rfl,Z⟩))))))))
 rw [ite_f hc41] at hb33
 obtain ⟨x23,hx23,hb33⟩:=bind_some hb33
 obtain ⟨x31,hx31,hb33⟩:=bind_some hb33
 refine fA 1 fa_54_1 sf2 rfl (ldB 0 Z Tryd.isAgg23 rfl rfl rfl (mI rfl (L_sl (a:=0) (b:=(i_5 : Int)) rfl et_23 rfl h0_1 rfl rfl hx23 (fun v42 hs43=>mI rfl ?_))))
 obtain ⟨H44b,l45,s46,z47,k48⟩:=Z.borrow
 refine L_call rfl Tryd.call83 (ops2 rfl rfl) (slices_Contains_int_c (s:=x23) (v_:=x_6) s46 (RP.mono _ hs43 l45) hx31) ?_
 rintro _ w49 ⟨rfl,Z⟩
 have Z:=k48 Z c0
 refine L_pick (v:=Bo b33) rfl rfl (congrArg Value.bool (so hb33)) (nn (rj hR34 ⟨sf1,sf2,sf8,sf9,sf10,rfl,Z⟩))
 intro f w_ hR
 obtain ⟨sf1,sf2,sf8,sf9,sf10,sf27,Z⟩:=rk hR34 hR
 refine W_cond (b:=b33) sf27 (fun hc50=>?_) (fun hc50=>?_)
 have hB6:=(ite_t hc50).symm.trans hB6
 refine sq (aB rfl (nn (W_ret (retG1 (v1:=Bo false) Tryd.results54 rfl ?_))))
 obtain rfl:=so hB6
 obtain rfl:=so hL6
 obtain rfl:=so hF
 exact ⟨rfl,(Star.keepN 0 Z)⟩
 have hB6:=(ite_f hc50).symm.trans hB6
 refine W_skip (W_region (L_add rfl sf10 rfl (mI rfl (nn ?_))))
 obtain rfl:=so hB6
 show ∃ m,m < _∧I6 m _ _
 refine ⟨rest6.length,by simp,?_⟩
 exact ij hI6 ⟨i_5 + 1,rest6,rfl,drop_next hd6,by simp at hl6; omega,hL6,sf1,sf2,sf8,sf9,(Eq.trans rfl (congrArg (Value.int .i64) (i64_succ (n:=r_.vars.length) (by simp at hl6; omega) hlen6))),Z⟩
 rcases suf6 with _ | ⟨_,_⟩
 obtain rfl:=range_nil hL6
 refine W_exit (rj hR6 ⟨rfl,sf2,Z⟩)
 exact absurd (of_decide_eq_false hc7) (by simp at hl6; omega)
 intro f w_ hR
 obtain ⟨rfl,sf2,Z⟩:=rk hR6 hR
 refine W_seq (W_seq ?_)
 obtain ⟨R51,hR51⟩:=exR fun f w_=>f 2 = Pt g3∧f 59 = Bo ((((r_.vars.length : Int) == 0) || ((r_.kind != 1) && ((decide ((r_.coefs.length : Int) > 0)) || (r_.bound != 0)))) || ((r_.kind != 3) && (decide ((r_.rows.length : Int) > 0))))∧Star H w_ ([box g3 54 #[I r_.kind,v0_1,v0_2,I r_.bound,v0_4]])
 refine W_join R51 ?_ ?_
 refine W_region (fA 1 fa_54_1 sf2 rfl (ldB 0 Z Tryd.isAgg23 rfl rfl rfl (L_len rfl Tryd.underlying23 rfl (slice_len h0_1) (L_eql rfl rfl rfl (mB rfl (L_split (d:=33) (b:=((r_.vars.length : Int) == 0)) rfl (fun hc52=>?_) (fun hc52=>?_)))))))
 refine ps rfl (ps rfl (ps rfl (ps rfl (ps rfl (ps rfl (ps rfl (ps rfl (ps rfl (ps rfl (ps rfl (ps rfl (ps rfl (ps rfl (L_pick (v:=Bo (((r_.vars.length : Int) == 0) || ((r_.kind != 1) && ((decide ((r_.coefs.length : Int) > 0)) || (r_.bound != 0))))) rfl rfl (or_t hc52) (mB rfl (L_split (d:=49) (b:=(((r_.vars.length : Int) == 0) || ((r_.kind != 1) && ((decide ((r_.coefs.length : Int) > 0)) || (r_.bound != 0))))) rfl (fun hc53=>?_) (fun hc53=>?_)))))))))))))))))
 refine ps rfl (ps rfl (ps rfl (ps rfl (ps rfl (ps rfl (ps rfl (ps rfl (ps rfl (L_pick (v:=Bo ((((r_.vars.length : Int) == 0) || ((r_.kind != 1) && ((decide ((r_.coefs.length : Int) > 0)) || (r_.bound != 0)))) || ((r_.kind != 3) && (decide ((r_.rows.length : Int) > 0))))) rfl rfl (or_t hc53) (nn (rj hR51 ⟨sf2,rfl,Z⟩)))))))))))
 refine fA 0 fa_54_0 sf2 rfl (ldB 0 Z Tryd.isAgg3 rfl rfl rfl (L_neq rfl rfl rfl (mB rfl (L_split (d:=53) (b:=(r_.kind != 3)) rfl (fun hc54=>?_) (fun hc54=>?_)))))
 refine fA 4 fa_54_4 sf2 rfl (ldB 0 Z Tryd.isAgg52 rfl rfl rfl (L_len rfl Tryd.underlying52 rfl (slice_len h0_4) (L_gtr rfl rfl rfl (L_pick (v:=Bo ((r_.kind != 3) && (decide ((r_.rows.length : Int) > 0)))) rfl rfl (and_t hc54 rfl) (L_pick (v:=Bo ((((r_.vars.length : Int) == 0) || ((r_.kind != 1) && ((decide ((r_.coefs.length : Int) > 0)) || (r_.bound != 0)))) || ((r_.kind != 3) && (decide ((r_.rows.length : Int) > 0))))) rfl rfl (or_f hc53 rfl) (nn (rj hR51 ⟨sf2,rfl,Z⟩)))))))
 refine ps rfl (ps rfl (ps rfl (ps rfl (L_pick (v:=Bo ((r_.kind != 3) && (decide ((r_.rows.length : Int) > 0)))) rfl rfl (and_f hc54) (L_pick (v:=Bo ((((r_.vars.length : Int) == 0) || ((r_.kind != 1) && ((decide ((r_.coefs.length : Int) > 0)) || (r_.bound != 0)))) || ((r_.kind != 3) && (decide ((r_.rows.length : Int) > 0))))) rfl rfl (or_f hc53 rfl) (nn (rj hR51 ⟨sf2,rfl,Z⟩)))))))
 refine fA 0 fa_54_0 sf2 rfl (ldB 0 Z Tryd.isAgg3 rfl rfl rfl (L_neq rfl rfl rfl (mB rfl (L_split (d:=37) (b:=(r_.kind != 1)) rfl (fun hc55=>?_) (fun hc55=>?_)))))
 refine fA 2 fa_54_2 sf2 rfl (ldB 0 Z Tryd.isAgg23 rfl rfl rfl (L_len rfl Tryd.underlying23 rfl (slice_len h0_2) (L_gtr rfl rfl rfl (mB rfl (L_split (d:=42) (b:=decide ((r_.coefs.length : Int) > 0)) rfl (fun hc56=>?_) (fun hc56=>?_))))))
 refine ps rfl (ps rfl (ps rfl (L_pick (v:=Bo ((decide ((r_.coefs.length : Int) > 0)) || (r_.bound != 0))) rfl rfl (or_t hc56) (L_pick (v:=Bo ((r_.kind != 1) && ((decide ((r_.coefs.length : Int) > 0)) || (r_.bound != 0)))) rfl rfl (and_t hc55 rfl) (L_pick (v:=Bo (((r_.vars.length : Int) == 0) || ((r_.kind != 1) && ((decide ((r_.coefs.length : Int) > 0)) || (r_.bound != 0))))) rfl rfl (or_f hc52 rfl) (mB rfl (L_split (d:=49) (b:=(((r_.vars.length : Int) == 0) || ((r_.kind != 1) && ((decide ((r_.coefs.length : Int) > 0)) || (r_.bound != 0))))) rfl (fun hc57=>?_) (fun hc57=>?_))))))))
 refine ps rfl (ps rfl (ps rfl (ps rfl (ps rfl (ps rfl (ps rfl (ps rfl (ps rfl (L_pick (v:=Bo ((((r_.vars.length : Int) == 0) || ((r_.kind != 1) && ((decide ((r_.coefs.length : Int) > 0)) || (r_.bound != 0)))) || ((r_.kind != 3) && (decide ((r_.rows.length : Int) > 0))))) rfl rfl (or_t hc57) (nn (rj hR51 ⟨sf2,rfl,Z⟩)))))))))))
 refine fA 0 fa_54_0 sf2 rfl (ldB 0 Z Tryd.isAgg3 rfl rfl rfl (L_neq rfl rfl rfl (mB rfl (L_split (d:=53) (b:=(r_.kind != 3)) rfl (fun hc58=>?_) (fun hc58=>?_)))))
 refine fA 4 fa_54_4 sf2 rfl (ldB 0 Z Tryd.isAgg52 rfl rfl rfl (L_len rfl Tryd.underlying52 rfl (slice_len h0_4) (L_gtr rfl rfl rfl (L_pick (v:=Bo ((r_.kind != 3) && (decide ((r_.rows.length : Int) > 0)))) rfl rfl (and_t hc58 rfl) (L_pick (v:=Bo ((((r_.vars.length : Int) == 0) || ((r_.kind != 1) && ((decide ((r_.coefs.length : Int) > 0)) || (r_.bound != 0)))) || ((r_.kind != 3) && (decide ((r_.rows.length : Int) > 0))))) rfl rfl (or_f hc57 rfl) (nn (rj hR51 ⟨sf2,rfl,Z⟩)))))))
 refine ps rfl (ps rfl (ps rfl (ps rfl (L_pick (v:=Bo ((r_.kind != 3) && (decide ((r_.rows.length : Int) > 0)))) rfl rfl (and_f hc58) (L_pick (v:=Bo ((((r_.vars.length : Int) == 0) || ((r_.kind != 1) && ((decide ((r_.coefs.length : Int) > 0)) || (r_.bound != 0)))) || ((r_.kind != 3) && (decide ((r_.rows.length : Int) > 0))))) rfl rfl (or_f hc57 rfl) (nn (rj hR51 ⟨sf2,rfl,Z⟩)))))))
 refine fA 3 fa_54_3 sf2 rfl (ldB 0 Z Tryd.isAgg3 rfl rfl rfl (L_neq rfl rfl rfl (L_pick (v:=Bo ((decide ((r_.coefs.length : Int) > 0)) || (r_.bound != 0))) rfl rfl (or_f hc56 rfl) (L_pick (v:=Bo ((r_.kind != 1) && ((decide ((r_.coefs.length : Int) > 0)) || (r_.bound != 0)))) rfl rfl (and_t hc55 rfl) (L_pick (v:=Bo (((r_.vars.length : Int) == 0) || ((r_.kind != 1) && ((decide ((r_.coefs.length : Int) > 0)) || (r_.bound != 0))))) rfl rfl (or_f hc52 rfl) (mB rfl (L_split (d:=49) (b:=(((r_.vars.length : Int) == 0) || ((r_.kind != 1) && ((decide ((r_.coefs.length : Int) > 0)) || (r_.bound != 0))))) rfl (fun hc59=>?_) (fun hc59=>?_))))))))
 refine ps rfl (ps rfl (ps rfl (ps rfl (ps rfl (ps rfl (ps rfl (ps rfl (ps rfl (L_pick (v:=Bo ((((r_.vars.length : Int) == 0) || ((r_.kind != 1) && ((decide ((r_.coefs.length : Int) > 0)) || (r_.bound != 0)))) || ((r_.kind != 3) && (decide ((r_.rows.length : Int) > 0))))) rfl rfl (or_t hc59) (nn (rj hR51 ⟨sf2,rfl,Z⟩)))))))))))
 refine fA 0 fa_54_0 sf2 rfl (ldB 0 Z Tryd.isAgg3 rfl rfl rfl (L_neq rfl rfl rfl (mB rfl (L_split (d:=53) (b:=(r_.kind != 3)) rfl (fun hc60=>?_) (fun hc60=>?_)))))
 refine fA 4 fa_54_4 sf2 rfl (ldB 0 Z Tryd.isAgg52 rfl rfl rfl (L_len rfl Tryd.underlying52 rfl (slice_len h0_4) (L_gtr rfl rfl rfl (L_pick (v:=Bo ((r_.kind != 3) && (decide ((r_.rows.length : Int) > 0)))) rfl rfl (and_t hc60 rfl) (L_pick (v:=Bo ((((r_.vars.length : Int) == 0) || ((r_.kind != 1) && ((decide ((r_.coefs.length : Int) > 0)) || (r_.bound != 0)))) || ((r_.kind != 3) && (decide ((r_.rows.length : Int) > 0))))) rfl rfl (or_f hc59 rfl) (nn (rj hR51 ⟨sf2,rfl,Z⟩)))))))
 refine ps rfl (ps rfl (ps rfl (ps rfl (L_pick (v:=Bo ((r_.kind != 3) && (decide ((r_.rows.length : Int) > 0)))) rfl rfl (and_f hc60) (L_pick (v:=Bo ((((r_.vars.length : Int) == 0) || ((r_.kind != 1) && ((decide ((r_.coefs.length : Int) > 0)) || (r_.bound != 0)))) || ((r_.kind != 3) && (decide ((r_.rows.length : Int) > 0))))) rfl rfl (or_f hc59 rfl) (nn (rj hR51 ⟨sf2,rfl,Z⟩)))))))
 refine ps rfl (ps rfl (ps rfl (ps rfl (ps rfl (ps rfl (ps rfl (ps rfl (ps rfl (L_pick (v:=Bo ((r_.kind != 1) && ((decide ((r_.coefs.length : Int) > 0)) || (r_.bound != 0)))) rfl rfl (and_f hc55) (L_pick (v:=Bo (((r_.vars.length : Int) == 0) || ((r_.kind != 1) && ((decide ((r_.coefs.length : Int) > 0)) || (r_.bound != 0))))) rfl rfl (or_f hc52 rfl) (mB rfl (L_split (d:=49) (b:=(((r_.vars.length : Int) == 0) || ((r_.kind != 1) && ((decide ((r_.coefs.length : Int) > 0)) || (r_.bound != 0))))) rfl (fun hc61=>?_) (fun hc61=>?_)))))))))))))
 refine ps rfl (ps rfl (ps rfl (ps rfl (ps rfl (ps rfl (ps rfl (ps rfl (ps rfl (L_pick (v:=Bo ((((r_.vars.length : Int) == 0) || ((r_.kind != 1) && ((decide ((r_.coefs.length : Int) > 0)) || (r_.bound != 0)))) || ((r_.kind != 3) && (decide ((r_.rows.length : Int) > 0))))) rfl rfl (or_t hc61) (nn (rj hR51 ⟨sf2,rfl,Z⟩)))))))))))
 refine fA 0 fa_54_0 sf2 rfl (ldB 0 Z Tryd.isAgg3 rfl rfl rfl (L_neq rfl rfl rfl (mB rfl (L_split (d:=53) (b:=(r_.kind != 3)) rfl (fun hc62=>?_) (fun hc62=>?_)))))
 refine fA 4 fa_54_4 sf2 rfl (ldB 0 Z Tryd.isAgg52 rfl rfl rfl (L_len rfl Tryd.underlying52 rfl (slice_len h0_4) (L_gtr rfl rfl rfl (L_pick (v:=Bo ((r_.kind != 3) && (decide ((r_.rows.length : Int) > 0)))) rfl rfl (and_t hc62 rfl) (L_pick (v:=Bo ((((r_.vars.length : Int) == 0) || ((r_.kind != 1) && ((decide ((r_.coefs.length : Int) > 0)) || (r_.bound != 0)))) || ((r_.kind != 3) && (decide ((r_.rows.length : Int) > 0))))) rfl rfl (or_f hc61 rfl) (nn (rj hR51 ⟨sf2,rfl,Z⟩)))))))
 refine ps rfl (ps rfl (ps rfl (ps rfl (L_pick (v:=Bo ((r_.kind != 3) && (decide ((r_.rows.length : Int) > 0)))) rfl rfl (and_f hc62) (L_pick (v:=Bo ((((r_.vars.length : Int) == 0) || ((r_.kind != 1) && ((decide ((r_.coefs.length : Int) > 0)) || (r_.bound != 0)))) || ((r_.kind != 3) && (decide ((r_.rows.length : Int) > 0))))) rfl rfl (or_f hc61 rfl) (nn (rj hR51 ⟨sf2,rfl,Z⟩)))))))
 intro f w_ hR
 obtain ⟨sf2,sf59,Z⟩:=rk hR51 hR
 refine W_cond (b:=((((r_.vars.length : Int) == 0) || ((r_.kind != 1) && ((decide ((r_.coefs.length : Int) > 0)) || (r_.bound != 0)))) || ((r_.kind != 3) && (decide ((r_.rows.length : Int) > 0))))) sf59 (fun hc63=>?_) (fun hc63=>?_)
 have hF:=(ite_t hc63).symm.trans hF
 refine sq (aB rfl (nn (W_ret (retG1 (v1:=Bo false) Tryd.results54 rfl ?_))))
 obtain rfl:=so hF
 exact ⟨rfl,(Star.keepN 0 Z)⟩
 have hF:=(ite_f hc63).symm.trans hF
 refine W_skip (W_seq (sq (fA 0 fa_54_0 sf2 rfl (ldB 0 Z Tryd.isAgg3 rfl rfl rfl (nn (W_block (sq (L_eql rfl rfl rfl (aB rfl (nn (W_cond (b:=(r_.kind == 1)) rfl (fun hc64=>?_) (fun hc64=>?_))))))))))))
 have hF:=(ite_t hc64).symm.trans hF
 refine W_seq ?_
 obtain ⟨b72,hb72,hF⟩:=bind_some hF
 obtain ⟨b80,hb80,hF⟩:=bind_some hF
 obtain ⟨R81,hR81⟩:=exR fun f w_=>f 4 = Bo b80∧Star H w_ ([])
 refine W_join R81 ?_ ?_
 refine W_region (fA 2 fa_54_2 sf2 rfl (ldB 0 Z Tryd.isAgg23 rfl rfl rfl (L_len rfl Tryd.underlying23 rfl (slice_len h0_2) (fA 1 fa_54_1 sf2 rfl (ldB 0 Z Tryd.isAgg23 rfl rfl rfl (L_len rfl Tryd.underlying23 rfl (slice_len h0_1) (L_eql rfl rfl rfl (mB rfl (L_split (d:=71) (b:=((r_.coefs.length : Int) == (r_.vars.length : Int))) rfl (fun hc82=>?_) (fun hc82=>?_))))))))))
 rw [ite_t hc82] at hb72
 obtain ⟨x70,hx70,hb72⟩:=bind_some hb72
 refine fA 3 fa_54_3 sf2 rfl (ldB 0 Z Tryd.isAgg3 rfl rfl rfl ?_)
 obtain ⟨H83b,l84,s85,z86,k87⟩:=Z.borrow
 refine L_call rfl Tryd.call51 (ops3 rfl rfl rfl) (i_within_c (n_:=r_.bound) (low:=(-1000)) (high:=1000) s85 hx70) ?_
 rintro _ w88 ⟨rfl,Z⟩
 have Z:=k87 Z c0
 refine L_pick (v:=Bo b72) rfl rfl (congrArg Value.bool (so hb72)) (mB rfl (L_split (d:=76) (b:=b72) rfl (fun hc89=>?_) (fun hc89=>?_)))
 rw [ite_t hc89] at hb80
 obtain ⟨x78,hx78,hb80⟩:=bind_some hb80
 refine fA 2 fa_54_2 sf2 rfl (ldB 0 Z Tryd.isAgg23 rfl rfl rfl ?_)
 obtain ⟨H90b,l91,s92,z93,k94⟩:=Z.borrow
 have hf95 : Fun1 Tryd.prog RP.int false Value.bool i_ruleValid_1 (.func (.func 85) #[] #[]) H90b:=by
   refine ⟨_,_,rfl,Tryd.call85,fun H_ w_ hE_ hs_ cs_ x_ y_ args_ hr_ hy_ ha_=>?_⟩
   obtain rfl : cs_ = [_]:=hr_
   obtain rfl:=args_of (b:=#[I x_]) ha_
   exact i_ruleValid_1_c (n_:=x_) hs_  hy_
 refine L_call rfl Tryd.call84 (ops2 rfl rfl) (slices_ContainsFunc_int_c (s:=r_.coefs) (f_:=i_ruleValid_1) s92 (RP.mono _ h0_2 l91) hf95 hx78) ?_
 rintro _ w96 ⟨rfl,Z⟩
 have Z:=k94 Z c0
 refine L_not_ rfl rfl (L_pick (v:=Bo b80) rfl rfl (congrArg Value.bool (so hb80)) (aB rfl (nn (rj hR81 ⟨rfl,(Star.keepN 0 Z)⟩))))
 rw [ite_f hc89] at hb80
 refine ps rfl (ps rfl (ps rfl (ps rfl (L_pick (v:=Bo b80) rfl rfl (congrArg Value.bool (so hb80)) (aB rfl (nn (rj hR81 ⟨rfl,(Star.keepN 0 Z)⟩)))))))
 rw [ite_f hc82] at hb72
 refine ps rfl (ps rfl (ps rfl (L_pick (v:=Bo b72) rfl rfl (congrArg Value.bool (so hb72)) (mB rfl (L_split (d:=76) (b:=b72) rfl (fun hc97=>?_) (fun hc97=>?_))))))
 rw [ite_t hc97] at hb80
 obtain ⟨x78,hx78,hb80⟩:=bind_some hb80
 refine fA 2 fa_54_2 sf2 rfl (ldB 0 Z Tryd.isAgg23 rfl rfl rfl ?_)
 obtain ⟨H98b,l99,s100,z101,k102⟩:=Z.borrow
 have hf103 : Fun1 Tryd.prog RP.int false Value.bool i_ruleValid_1 (.func (.func 85) #[] #[]) H98b:=by
   refine ⟨_,_,rfl,Tryd.call85,fun H_ w_ hE_ hs_ cs_ x_ y_ args_ hr_ hy_ ha_=>?_⟩
   obtain rfl : cs_ = [_]:=hr_
   obtain rfl:=args_of (b:=#[I x_]) ha_
   exact i_ruleValid_1_c (n_:=x_) hs_  hy_
 refine L_call rfl Tryd.call84 (ops2 rfl rfl) (slices_ContainsFunc_int_c (s:=r_.coefs) (f_:=i_ruleValid_1) s100 (RP.mono _ h0_2 l99) hf103 hx78) ?_
 rintro _ w104 ⟨rfl,Z⟩
 have Z:=k102 Z c0
 refine L_not_ rfl rfl (L_pick (v:=Bo b80) rfl rfl (congrArg Value.bool (so hb80)) (aB rfl (nn (rj hR81 ⟨rfl,(Star.keepN 0 Z)⟩))))
 rw [ite_f hc97] at hb80
 refine ps rfl (ps rfl (ps rfl (ps rfl (L_pick (v:=Bo b80) rfl rfl (congrArg Value.bool (so hb80)) (aB rfl (nn (rj hR81 ⟨rfl,(Star.keepN 0 Z)⟩)))))))
 intro f w_ hR
 obtain ⟨sf4,Z⟩:=rk hR81 hR
 refine W_ret (retG1 (v1:=Bo b80) Tryd.results54 sf4 ?_)
 obtain rfl:=so hF
 exact ⟨rfl,Z⟩
 have hF:=(ite_f hc64).symm.trans hF
 refine sq (L_eql rfl rfl rfl (aB rfl (nn (W_cond (b:=(r_.kind == 3)) rfl (fun hc105=>?_) (fun hc105=>?_)))))
 have hF:=(ite_t hc105).symm.trans hF
 refine W_seq ?_
 obtain ⟨b113,hb113,hF⟩:=bind_some hF
 obtain ⟨R114,hR114⟩:=exR fun f w_=>f 4 = Bo b113∧Star H w_ ([])
 refine W_join R114 ?_ ?_
 refine W_region (fA 4 fa_54_4 sf2 rfl (ldB 0 Z Tryd.isAgg52 rfl rfl rfl (L_len rfl Tryd.underlying52 rfl (slice_len h0_4) (L_leq rfl rfl rfl (mB rfl (L_split (d:=88) (b:=decide ((r_.rows.length : Int)≤8)) rfl (fun hc115=>?_) (fun hc115=>?_)))))))
 rw [ite_t hc115] at hb113
 obtain ⟨x111,hx111,hb113⟩:=bind_some hb113
 refine fA 4 fa_54_4 sf2 rfl (ldB 0 Z Tryd.isAgg52 rfl rfl rfl (L_mf rfl (ops1 sf2) ?_))
 obtain ⟨H116b,l117,s118,z119,k120⟩:=Z.borrow
 have hf121 : Fun1 Tryd.prog (rS 3 RP.int) false Value.bool (i_ruleValid_2 r_) (.func (.func 87) #[] #[Pt g3]) H116b:=by
   refine ⟨_,_,rfl,Tryd.call87,fun H_ w_ hE_ hs_ cs_ x_ y_ args_ hr_ hy_ ha_=>?_⟩
   obtain ⟨p_0,rfl,hp_0⟩:=slice1 hr_
   obtain rfl:=args_of (b:=#[p_0,Pt g3]) ha_
   exact i_ruleValid_2_c (c1:=r_) (row:=x_) hs_ hp_0 (AtH.le (AtH.of (fz_box 0 z119 rfl)) hE_) (RP.mono _ (RP.mono _ h0_1 l117) hE_) (RP.mono _ (RP.mono _ h0_2 l117) hE_) (RP.mono _ (RP.mono _ h0_4 l117) hE_) hy_
 refine L_call rfl Tryd.call86 (ops2 rfl rfl) (slices_ContainsFunc_Sint_c (s:=r_.rows) (f_:=(i_ruleValid_2 r_)) s118 (RP.mono _ h0_4 l117) hf121 hx111) ?_
 rintro _ w122 ⟨rfl,Z⟩
 have Z:=k120 Z c0
 refine L_not_ rfl rfl (L_pick (v:=Bo b113) rfl rfl (congrArg Value.bool (so hb113)) (aB rfl (nn (rj hR114 ⟨rfl,(Star.keepN 0 Z)⟩))))
 rw [ite_f hc115] at hb113
 refine ps rfl (ps rfl (ps rfl (ps rfl (ps rfl (L_pick (v:=Bo b113) rfl rfl (congrArg Value.bool (so hb113)) (aB rfl (nn (rj hR114 ⟨rfl,(Star.keepN 0 Z)⟩))))))))
 intro f w_ hR
 obtain ⟨sf4,Z⟩:=rk hR114 hR
 refine W_ret (retG1 (v1:=Bo b113) Tryd.results54 sf4 ?_)
 obtain rfl:=so hF
 exact ⟨rfl,Z⟩
 have hF:=(ite_f hc105).symm.trans hF
 refine sq (L_eql rfl rfl rfl (aB rfl (nn (W_cond (b:=(r_.kind == 4)) rfl (fun hc123=>?_) (fun hc123=>?_)))))
 have hF:=(ite_t hc123).symm.trans hF
 refine sq (fA 1 fa_54_1 sf2 rfl (ldB 0 Z Tryd.isAgg23 rfl rfl rfl (L_len rfl Tryd.underlying23 rfl (slice_len h0_1) (L_eql rfl rfl rfl (aB rfl (nn (W_ret (retG1 (v1:=Bo ((r_.vars.length : Int) == 2)) Tryd.results54 rfl ?_))))))))
 obtain rfl:=so hF
 exact ⟨rfl,(Star.keepN 0 Z)⟩
 have hF:=(ite_f hc123).symm.trans hF
 refine W_skip (sq (fA 0 fa_54_0 sf2 rfl (ldB 0 Z Tryd.isAgg3 rfl rfl rfl (L_eql rfl rfl rfl (aB rfl (nn (W_ret (retG1 (v1:=Bo (r_.kind == 2)) Tryd.results54 rfl ?_))))))))
 obtain rfl:=so hF
 exact ⟨rfl,(Star.keepN 0 Z)⟩
theorem i_ModelValid_1_c {c1 : Model} {r_ : Rule} {v0_1 : Value} {v0_2 : Value} {v0_4 : Value} {g_c1 : Nat} {v1_0 : Value} {v1_1 : Value} {H : FH} {w : World} (Z : Star H w []) (h0_1 : (rS 3 RP.int).rel H [v0_1] r_.vars) (h0_2 : (rS 3 RP.int).rel H [v0_2] r_.coefs) (h0_4 : (rS 23 (rS 3 RP.int)).rel H [v0_4] r_.rows) (hat_g_c1 : AtH H g_c1 0 [v1_0,v1_1]) (h1_0 : (rS 3 RP.int).rel H [v1_0] c1.sizes) (h1_1 : (rS 54 (rRule 3 23)).rel H [v1_1] c1.rules) {r : Bool} (hF : i_ModelValid_1 c1 r_ = some r) :
 C Tryd.prog 53 #[.agg #[I r_.kind,v0_1,v0_2,I r_.bound,v0_4],Pt g_c1] w fun v w'=>v = Bo r∧Star H w' []:=by
 unfold i_ModelValid_1 at hF
 refine C_enter Tryd.func53 rfl Tryd.ntmps53 rfl (sq (L_box (v:=.agg #[I r_.kind,v0_1,v0_2,I r_.bound,v0_4]) (cs:=#[I r_.kind,v0_1,v0_2,I r_.bound,v0_4]) rfl rfl rfl Z (fun g3 w4 Z=>aB rfl (nq ?_))))
 obtain ⟨x10,hx10,hF⟩:=bind_some hF
 refine W_region (L_lda (cs:=[I r_.kind,v0_1,v0_2,I r_.bound,v0_4]) rfl Tryd.isAgg54 Tryd.sizeOf54 rfl (At.sub0 (Blk.at (Star.blkAt 0 Z rfl)) 0 5) rfl (fA 0 fa_26_0 rfl rfl (L_ld rfl Tryd.isAgg23 rfl (At.cell0 (AtH.at hat_g_c1 Z.sub) (j:=0) rfl) (L_len rfl Tryd.underlying23 rfl (slice_len h1_0) ?_))))
 obtain ⟨H12b,l13,s14,z15,k16⟩:=Z.borrow
 refine L_call rfl Tryd.call54 (ops2 rfl rfl) (i_ruleValid_c (r_:=r_) (cells:=(c1.sizes.length : Int)) s14 (RP.mono _ h0_1 l13) (RP.mono _ h0_2 l13) (RP.mono _ h0_4 l13) hx10) ?_
 rintro _ w17 ⟨rfl,Z⟩
 have Z:=k16 Z c0
 refine L_not_ rfl rfl (aB rfl (nn (W_ret (retG1 (v1:=Bo (!x10)) Tryd.results53 rfl ?_))))
 obtain rfl:=so hF
 exact ⟨rfl,(Star.keepN 0 Z)⟩
theorem i_ModelValid_c {m : Model} {v0_0 : Value} {v0_1 : Value} {H : FH} {w : World} (Z : Star H w []) (h0_0 : (rS 3 RP.int).rel H [v0_0] m.sizes) (h0_1 : (rS 54 (rRule 3 23)).rel H [v0_1] m.rules) {r : Bool} (hF : i_ModelValid m = some r) :
 C Tryd.prog 28 #[.agg #[v0_0,v0_1]] w fun v w'=>v = Bo r∧Star H w' []:=by
 unfold i_ModelValid at hF
 refine C_enter Tryd.func28 rfl Tryd.ntmps28 rfl (sq (L_box (v:=.agg #[v0_0,v0_1]) (cs:=#[v0_0,v0_1]) rfl rfl rfl Z (fun g3 w4 Z=>aB rfl (nq (W_seq ?_)))))
 obtain ⟨x10,hx10,hF⟩:=bind_some hF
 obtain ⟨R12,hR12⟩:=exR fun f w_=>f 1 = Pt g3∧f 16 = Bo ((!x10) || (decide ((m.rules.length : Int) > 8)))∧Star H w_ ([box g3 26 #[v0_0,v0_1]])
 refine W_join R12 ?_ ?_
 refine W_region (fA 0 fa_26_0 rfl rfl (ldB 0 Z Tryd.isAgg23 rfl rfl rfl (L_len rfl Tryd.underlying23 rfl (slice_len h0_0) ?_)))
 obtain ⟨H13b,l14,s15,z16,k17⟩:=Z.borrow
 refine L_call rfl Tryd.call51 (ops3 rfl rfl rfl) (i_within_c (n_:=(m.sizes.length : Int)) (low:=1) (high:=5) s15 hx10) ?_
 rintro _ w18 ⟨rfl,Z⟩
 have Z:=k17 Z c0
 refine L_not_ rfl rfl (mB rfl (L_split (d:=11) (b:=(!x10)) rfl (fun hc19=>?_) (fun hc19=>?_)))
 refine ps rfl (ps rfl (ps rfl (ps rfl (L_pick (v:=Bo ((!x10) || (decide ((m.rules.length : Int) > 8)))) rfl rfl (or_t hc19) (nn (rj hR12 ⟨rfl,rfl,Z⟩))))))
 refine fA 1 fa_26_1 rfl rfl (ldB 0 Z Tryd.isAgg24 rfl rfl rfl (L_len rfl Tryd.underlying24 rfl (slice_len h0_1) (L_gtr rfl rfl rfl (L_pick (v:=Bo ((!x10) || (decide ((m.rules.length : Int) > 8)))) rfl rfl (or_f hc19 rfl) (nn (rj hR12 ⟨rfl,rfl,Z⟩))))))
 intro f w_ hR
 obtain ⟨sf1,sf16,Z⟩:=rk hR12 hR
 refine W_cond (b:=((!x10) || (decide ((m.rules.length : Int) > 8)))) sf16 (fun hc20=>?_) (fun hc20=>?_)
 have hF:=(ite_t hc20).symm.trans hF
 refine sq (aB rfl (nn (W_ret (retG1 (v1:=Bo false) Tryd.results28 rfl ?_))))
 obtain rfl:=so hF
 exact ⟨rfl,(Star.keepN 0 Z)⟩
 have hF:=(ite_f hc20).symm.trans hF
 refine W_skip (sq (aI rfl (nq (sq (fA 0 fa_26_0 sf1 rfl (ldB 0 Z Tryd.isAgg23 rfl rfl rfl (L_len rfl Tryd.underlying23 rfl (slice_len h0_0) (mI rfl (nn ?_)))))))))
 have hlen23 : List.length m.sizes≤9223372036854775807:=len_le (slice_len h0_0)
 obtain ⟨j23,hL23,hF⟩:=bind_some hF
 obtain ⟨R23,hR23⟩:=exR fun f w_=>∃ count_22 : Int,j23 = .nx count_22∧f 1 = Pt g3∧f 3 = I count_22∧Star H w_ ([box g3 26 #[v0_0,v0_1]])
 refine W_join R23 ?_ ?_
 refine W_block ?_
 obtain ⟨I23,hI23⟩:=exI fun n f w_=>∃ i_21 : Nat,∃ suf23 : List Int,∃ count_22 : Int,n = suf23.length∧List.drop i_21 m.sizes = suf23∧i_21 + suf23.length = m.sizes.length∧rangeL i_ModelValid_b1 suf23 i_21 count_22 = some j23∧f 1 = Pt g3∧f 3 = I count_22∧f 18 = v0_0∧f 19 = I (m.sizes.length : Int)∧f 20 = I i_21∧Star H w_ ([box g3 26 #[v0_0,v0_1]])
 refine W_loop I23 (n:=m.sizes.length) ?_ ?_
 exact ij hI23 ⟨0,m.sizes,0,rfl,rfl,Nat.zero_add _,hL23,sf1,rfl,rfl,rfl,rfl,Z⟩
 intro n23 f w_ hI
 obtain ⟨i_21,suf23,count_22,rfl,hd23,hl23,hL23,sf1,sf3,sf18,sf19,sf20,Z⟩:=ik hI23 hI
 refine sq (L_lss rfl sf20 sf19 (nq (W_cond (b:=decide ((i_21 : Int) < (m.sizes.length : Int))) rfl (fun hc24=>?_) (fun hc24=>?_))))
 have hlt23:=of_decide_eq_true hc24
 rcases suf23 with _ | ⟨x_23,rest23⟩
 exact absurd hlt23 (by simp at hl23; omega)
 obtain ⟨o23,hB23,hL23⟩:=range_cons hL23
 rw [i_ModelValid_b1] at hB23
 have hix23:=drop_idx hd23
 refine W_skip (W_seq (W_block (sq (L_ix (r:=RP.int) rfl Tryd.underlying23 Tryd.sizeOf3 sf18 h0_0 sf20 hix23 (fun g29 o30 cs_g29 hrk_hat31 hat31=>?_)))))
 obtain rfl : _ = [_]:=hrk_hat31
 refine L_ld rfl Tryd.isAgg3 rfl (At.cell (AtH.at hat31 Z.sub) (j:=0) rfl) (aI rfl (nq (W_seq ?_)))
 obtain ⟨x38,hx38,hB23⟩:=bind_some hB23
 refine W_region (mI rfl ?_)
 obtain ⟨H40b,l41,s42,z43,k44⟩:=Z.borrow
 refine L_call rfl Tryd.call51 (ops3 rfl rfl rfl) (i_within_c (n_:=x_23) (low:=0) (high:=3) s42 hx38) ?_
 rintro _ w45 ⟨rfl,Z⟩
 have Z:=k44 Z c0
 refine L_not_ rfl rfl (nn (W_cond (b:=(!x38)) rfl (fun hc46=>?_) (fun hc46=>?_)))
 have hB23:=(ite_t hc46).symm.trans hB23
 refine sq (aB rfl (nn (W_ret (retG1 (v1:=Bo false) Tryd.results28 rfl ?_))))
 obtain rfl:=so hB23
 obtain rfl:=so hL23
 obtain rfl:=so hF
 exact ⟨rfl,(Star.keepN 0 Z)⟩
 have hB23:=(ite_f hc46).symm.trans hB23
 refine W_skip (W_region (mF sf3 rfl (mI rfl (L_add rfl rfl rfl (L_add rfl rfl rfl (aI rfl (nn (W_region (L_add rfl sf20 rfl (mI rfl (nn ?_)))))))))))
 obtain rfl:=so hB23
 show ∃ m,m < _∧I23 m _ _
 refine ⟨rest23.length,by simp,?_⟩
 exact ij hI23 ⟨i_21 + 1,rest23,i64 (count_22 + (i64 (x_23 + 1))),rfl,drop_next hd23,by simp at hl23; omega,hL23,sf1,rfl,sf18,sf19,(Eq.trans rfl (congrArg (Value.int .i64) (i64_succ (n:=m.sizes.length) (by simp at hl23; omega) hlen23))),Z⟩
 rcases suf23 with _ | ⟨_,_⟩
 obtain rfl:=range_nil hL23
 refine W_exit (rj hR23 ⟨count_22,rfl,sf1,sf3,Z⟩)
 exact absurd (of_decide_eq_false hc24) (by simp at hl23; omega)
 intro f w_ hR
 obtain ⟨count_22,rfl,sf1,sf3,Z⟩:=rk hR23 hR
 refine W_seq ?_
 obtain ⟨b54,hb54,hF⟩:=bind_some hF
 obtain ⟨R55,hR55⟩:=exR fun f w_=>f 2 = Bo b54∧Star H w_ ([])
 refine W_join R55 ?_ ?_
 refine W_region (mF sf3 rfl (L_leq rfl rfl rfl (mB rfl (L_split (d:=34) (b:=decide (count_22≤12)) rfl (fun hc56=>?_) (fun hc56=>?_)))))
 rw [ite_t hc56] at hb54
 obtain ⟨x52,hx52,hb54⟩:=bind_some hb54
 refine fA 1 fa_26_1 sf1 rfl (ldB 0 Z Tryd.isAgg24 rfl rfl rfl (L_mf rfl (ops1 sf1) ?_))
 obtain ⟨H57b,l58,s59,z60,k61⟩:=Z.borrow
 have hf62 : Fun1 Tryd.prog (rRule 3 23) true Value.bool (i_ModelValid_1 m) (.func (.func 53) #[] #[Pt g3]) H57b:=by
   refine ⟨_,_,rfl,Tryd.call53,fun H_ w_ hE_ hs_ cs_ x_ y_ args_ hr_ hy_ ha_=>?_⟩
   obtain ⟨p_0,p_1,p_2,rfl,hp_0,hp_1,hp_2⟩:=rRule_iff.1 hr_
   obtain rfl:=args_of (b:=#[.agg #[I x_.kind,p_0,p_1,I x_.bound,p_2],Pt g3]) ha_
   exact i_ModelValid_1_c (c1:=m) (r_:=x_) hs_ hp_0 hp_1 hp_2 (AtH.le (AtH.of (fz_box 0 z60 rfl)) hE_) (RP.mono _ (RP.mono _ h0_0 l58) hE_) (RP.mono _ (RP.mono _ h0_1 l58) hE_) hy_
 refine L_call rfl Tryd.call52 (ops2 rfl rfl) (slices_ContainsFunc_implRule_c (s:=m.rules) (f_:=(i_ModelValid_1 m)) s59 (RP.mono _ h0_1 l58) hf62 hx52) ?_
 rintro _ w63 ⟨rfl,Z⟩
 have Z:=k61 Z c0
 refine L_not_ rfl rfl (L_pick (v:=Bo b54) rfl rfl (congrArg Value.bool (so hb54)) (aB rfl (nn (rj hR55 ⟨rfl,(Star.keepN 0 Z)⟩))))
 rw [ite_f hc56] at hb54
 refine ps rfl (ps rfl (ps rfl (ps rfl (ps rfl (L_pick (v:=Bo b54) rfl rfl (congrArg Value.bool (so hb54)) (aB rfl (nn (rj hR55 ⟨rfl,(Star.keepN 0 Z)⟩))))))))
 intro f w_ hR
 obtain ⟨sf2,Z⟩:=rk hR55 hR
 refine W_ret (retG1 (v1:=Bo b54) Tryd.results28 sf2 ?_)
 obtain rfl:=so hF
 exact ⟨rfl,Z⟩
theorem strconv_Itoa_c {x_ : Int} {H : FH} {w : World} (Z : Star H w []) {r : ByteArray} (hF : strconv_Itoa x_ = some r) :
 C Tryd.prog 79 #[I x_] w fun v w'=>v = .string r∧Star H w' []:=by
 obtain ⟨h0,h1,rfl⟩:=strconv_Itoa_some hF
 refine Calls.mono (Tryd.strconv_Itoa x_ h0 h1 w (Z.sub.var H.glob.tab)) ?_
 rintro e w' ⟨rfl,k,os,rfl⟩
 exact ⟨_,rfl,rfl,Star.ext Z (grown_drew w k os)⟩
theorem i_digits_c {list : List Int} {v0 : Value} {H : FH} {w : World} (Z : Star H w []) (h0 : (rS 3 RP.int).rel H [v0] list) {r : ByteArray} (hF : i_digits list = some r) :
 C Tryd.prog 55 #[v0] w fun v w'=>v = .string r∧Star H w' []:=by
 unfold i_digits at hF
 refine C_enter Tryd.func55 rfl Tryd.ntmps55 rfl (sq (aV (.string (⟨#[]⟩ : ByteArray)) rfl (ns (aV (.string (⟨#[]⟩ : ByteArray)) rfl (nq (sq (mV v0 rfl (L_len rfl Tryd.underlying23 rfl (slice_len h0) (mI rfl (nn ?_))))))))))
 have hlen3 : List.length list≤9223372036854775807:=len_le (slice_len h0)
 obtain ⟨j3,hL3,hF⟩:=bind_some hF
 obtain ⟨R3,hR3⟩:=exR fun f w_=>∃ out_2 : ByteArray,j3 = .nx out_2∧f 3 = .string out_2∧Star H w_ ([])
 refine W_join R3 ?_ ?_
 refine W_block ?_
 obtain ⟨I3,hI3⟩:=exI fun n f w_=>∃ i_1 : Nat,∃ suf3 : List Int,∃ out_2 : ByteArray,n = suf3.length∧List.drop i_1 list = suf3∧i_1 + suf3.length = list.length∧rangeL i_digits_b1 suf3 i_1 out_2 = some j3∧f 3 = .string out_2∧f 6 = v0∧f 7 = I (list.length : Int)∧f 8 = I i_1∧Star H w_ ([])
 refine W_loop I3 (n:=list.length) ?_ ?_
 exact ij hI3 ⟨0,list,(⟨#[]⟩ : ByteArray),rfl,rfl,Nat.zero_add _,hL3,rfl,rfl,rfl,rfl,Z⟩
 intro n3 f w_ hI
 obtain ⟨i_1,suf3,out_2,rfl,hd3,hl3,hL3,sf3,sf6,sf7,sf8,Z⟩:=ik hI3 hI
 refine sq (L_lss rfl sf8 sf7 (nq (W_cond (b:=decide ((i_1 : Int) < (list.length : Int))) rfl (fun hc4=>?_) (fun hc4=>?_))))
 have hlt3:=of_decide_eq_true hc4
 rcases suf3 with _ | ⟨x_3,rest3⟩
 exact absurd hlt3 (by simp at hl3; omega)
 obtain ⟨o3,hB3,hL3⟩:=range_cons hL3
 rw [i_digits_b1] at hB3
 have hix3:=drop_idx hd3
 refine W_skip (W_seq (W_block (sq (L_ix (r:=RP.int) rfl Tryd.underlying23 Tryd.sizeOf3 sf6 h0 sf8 hix3 (fun g9 o10 cs_g9 hrk_hat11 hat11=>?_)))))
 obtain rfl : _ = [_]:=hrk_hat11
 refine L_ld rfl Tryd.isAgg3 rfl (At.cell (AtH.at hat11 Z.sub) (j:=0) rfl) (aI rfl (nn ?_))
 obtain ⟨x18,hx18,hB3⟩:=bind_some hB3
 obtain ⟨x20,hx20,hB3⟩:=bind_some hB3
 refine W_region (mF sf3 rfl (mI rfl ?_))
 obtain ⟨H21b,l22,s23,z24,k25⟩:=Z.borrow
 refine L_call rfl Tryd.call79 (ops1 rfl) (strconv_Itoa_c (x_:=x_3) s23 hx18) ?_
 rintro _ w26 ⟨rfl,Z⟩
 have Z:=k25 Z c0
 obtain ⟨hx20_l,hx20_e⟩:=cat_some hx20
 refine L_sadd (s:=out_2) (s':=x18) rfl rfl rfl hx20_l ?_
 rw [← hx20_e]
 refine aV (.string x20) rfl (nn (W_region (L_add rfl sf8 rfl (mI rfl (nn ?_)))))
 obtain rfl:=so hB3
 show ∃ m,m < _∧I3 m _ _
 refine ⟨rest3.length,by simp,?_⟩
 exact ij hI3 ⟨i_1 + 1,rest3,x20,rfl,drop_next hd3,by simp at hl3; omega,hL3,rfl,sf6,sf7,(Eq.trans rfl (congrArg (Value.int .i64) (i64_succ (n:=list.length) (by simp at hl3; omega) hlen3))),Z⟩
 rcases suf3 with _ | ⟨_,_⟩
 obtain rfl:=range_nil hL3
 refine W_exit (rj hR3 ⟨out_2,rfl,sf3,Z⟩)
 exact absurd (of_decide_eq_false hc4) (by simp at hl3; omega)
 intro f w_ hR
 obtain ⟨out_2,rfl,sf3,Z⟩:=rk hR3 hR
 refine sq (mF sf3 rfl (aV (.string out_2) rfl (nn (W_ret (retG1 (v1:=.string out_2) Tryd.results55 rfl ?_)))))
 obtain rfl:=so hF
 exact ⟨rfl,Z⟩
theorem i_ruleWords_c {H : FH} {w : World} (Z : Star H w []) {r : List ByteArray} (hF : i_ruleWords = some r) :
 C Tryd.prog 89 #[] w fun v w'=>∃ (u1 : Value),v = u1∧Star H w' [oF 9 RP.str u1 r]:=by
 unfold i_ruleWords at hF
 refine C_enter Tryd.func89 rfl Tryd.ntmps89 rfl (sq (aV S0 rfl (ns (L_bs rfl (parts5 rfl rfl rfl rfl rfl) (bs_104_5_0_0_0_0_0 (.string (⟨#[]⟩ : ByteArray)) (.string (⟨#[108,105,110,101,97,114]⟩ : ByteArray)) (.string (⟨#[100,105,102,102,101,114,101,110,116]⟩ : ByteArray)) (.string (⟨#[116,97,98,108,101]⟩ : ByteArray)) (.string (⟨#[108,101,115,115]⟩ : ByteArray)) rfl rfl rfl rfl rfl) Z (fun g4 w5 Z=>?_)))))
 have Z:=Star.addF (r:=RP.str) (cs:=[.string (⟨#[108,101,115,115]⟩ : ByteArray)]) (x:=(⟨#[108,101,115,115]⟩ : ByteArray)) Z rfl
 have Z:=Star.addF (r:=RP.str) (cs:=[.string (⟨#[116,97,98,108,101]⟩ : ByteArray)]) (x:=(⟨#[116,97,98,108,101]⟩ : ByteArray)) Z rfl
 have Z:=Star.addF (r:=RP.str) (cs:=[.string (⟨#[100,105,102,102,101,114,101,110,116]⟩ : ByteArray)]) (x:=(⟨#[100,105,102,102,101,114,101,110,116]⟩ : ByteArray)) Z rfl
 have Z:=Star.addF (r:=RP.str) (cs:=[.string (⟨#[108,105,110,101,97,114]⟩ : ByteArray)]) (x:=(⟨#[108,105,110,101,97,114]⟩ : ByteArray)) Z rfl
 have Z:=Star.addF (r:=RP.str) (cs:=[.string (⟨#[]⟩ : ByteArray)]) (x:=(⟨#[]⟩ : ByteArray)) Z rfl
 have Z:=Star.mkRow (R:=(OR.frz RP.str)) [([.string (⟨#[]⟩ : ByteArray)],(⟨#[]⟩ : ByteArray)),([.string (⟨#[108,105,110,101,97,114]⟩ : ByteArray)],(⟨#[108,105,110,101,97,114]⟩ : ByteArray)),([.string (⟨#[100,105,102,102,101,114,101,110,116]⟩ : ByteArray)],(⟨#[100,105,102,102,101,114,101,110,116]⟩ : ByteArray)),([.string (⟨#[116,97,98,108,101]⟩ : ByteArray)],(⟨#[116,97,98,108,101]⟩ : ByteArray)),([.string (⟨#[108,101,115,115]⟩ : ByteArray)],(⟨#[108,101,115,115]⟩ : ByteArray))] [(⟨#[]⟩ : ByteArray),(⟨#[108,105,110,101,97,114]⟩ : ByteArray),(⟨#[100,105,102,102,101,114,101,110,116]⟩ : ByteArray),(⟨#[116,97,98,108,101]⟩ : ByteArray),(⟨#[108,101,115,115]⟩ : ByteArray)] 5 Z rfl rfl rfl (by decide)
 refine aV (Sl g4 5 5) rfl (nn (W_ret (retG1 (v1:=(Sl g4 5 5)) Tryd.results89 rfl ?_)))
 obtain rfl:=so hF
 exact ⟨(Sl g4 5 5),rfl,Z⟩
theorem i_Rule_text_c {r_ : Rule} {v0_1 : Value} {v0_2 : Value} {v0_4 : Value} {H : FH} {w : World} (Z : Star H w []) (h0_1 : (rS 3 RP.int).rel H [v0_1] r_.vars) (h0_2 : (rS 3 RP.int).rel H [v0_2] r_.coefs) (h0_4 : (rS 23 (rS 3 RP.int)).rel H [v0_4] r_.rows) {r : ByteArray} (hF : i_Rule_text r_ = some r) :
 C Tryd.prog 56 #[.agg #[I r_.kind,v0_1,v0_2,I r_.bound,v0_4]] w fun v w'=>v = .string r∧Star H w' []:=by
 unfold i_Rule_text at hF
 refine C_enter Tryd.func56 rfl Tryd.ntmps56 rfl (sq (L_box (v:=.agg #[I r_.kind,v0_1,v0_2,I r_.bound,v0_4]) (cs:=#[I r_.kind,v0_1,v0_2,I r_.bound,v0_4]) rfl rfl rfl Z (fun g3 w4 Z=>aV (.string (⟨#[]⟩ : ByteArray)) rfl (nq ?_))))
 obtain ⟨x10,hx10,hF⟩:=bind_some hF
 obtain ⟨x13,hx13,hF⟩:=bind_some hF
 refine W_drawS 3 [anyF,isV (Pt g3),isV (I r_.kind)] [box g3 54 #[I r_.kind,v0_1,v0_2,I r_.bound,v0_4]] [.made 0 8 (fun v_=>oF 9 RP.str v_ x10) none] ([]) [([],[0]),([],[]),([],[])] (S:=[(some 0,[8],none)]) Tryd_mix (by kernel_rfl) rfl (by kernel_rfl) (amF_cons (mono_any) (amF_cons (mono_V _) (amF_cons (mono_V _) amF_nil))) Z ?_ (fun f w_ H18 hS18 hE18 hT18 Z=>?_)
 refine opsS_cons ?_ ?_
 intro f w_ H18 X18 hS18 hE18 hP18 Z
 obtain ⟨H26b,l27,s28,z29,k30⟩:=Z.borrow
 refine L_call rfl Tryd.call89 ops0 (i_ruleWords_c s28 hx10) ?_
 rintro r31_0 w31 ⟨_,rfl,Z⟩
 have Z:=k30 Z (co closed_str c0)
 have Z:=Z.get 1 rfl
 exact L_nil ⟨rfl,_,_,rfl,Le.refl _,fun _ _=>trivial,Z⟩
 refine opsS_cons (fun f w_ _ _ s _ _ Z=>fA 0 fa_54_0 ((s 1 rfl).trans rfl) rfl (nO rfl rfl Z)) (opsS_cons (fun f w_ _ _ _ _ p Z=>ldB 0 Z Tryd.isAgg3 (p 1 9 rfl rfl) rfl rfl (nO rfl rfl Z)) (opsS_nil))
 have Z : Star H18 w_ ([box g3 54 #[I r_.kind,v0_1,v0_2,I r_.bound,v0_4],oF 9 RP.str (f 8) x10]):=Z
 obtain ⟨g34,cap_g34,hv35,_,_⟩:=Star.row 1 Z rfl hx13
 refine L_ixO (R:=(OR.frz RP.str)) (tb:=0) 0 rfl Tryd.underlying104 Tryd.sizeOf9 rfl hv35 (by first | rfl | simp) (hT18 2 10 rfl rfl) hx13 ?_
 obtain ⟨cs36,hr36,hat36⟩:=Star.eltF 1 Z rfl hv35 hx13
 obtain rfl : _ = [_]:=hr36
 refine L_ld rfl Tryd.isAgg9 rfl (At.cell hat36 (j:=0) rfl) (aV (.string x13) rfl (nq (sq (fA 0 fa_54_0 ((hS18 1 rfl).trans rfl) rfl (ldB 0 Z Tryd.isAgg3 rfl rfl rfl (L_eql rfl rfl rfl (nn (W_cond (b:=(r_.kind == 1)) rfl (fun hc38=>?_) (fun hc38=>?_)))))))))
 have hF:=(ite_t hc38).symm.trans hF
 refine W_seq (sq (fA 1 fa_54_1 ((hS18 1 rfl).trans rfl) rfl (ldB 0 Z Tryd.isAgg23 rfl rfl rfl (L_len rfl Tryd.underlying23 rfl (slice_len (RP.mono _ h0_1 hE18)) (mI rfl (nn ?_))))))
 have hlen41 : List.length r_.vars≤9223372036854775807:=len_le (slice_len (RP.mono _ h0_1 hE18))
 obtain ⟨j41,hL41,hF⟩:=bind_some hF
 obtain ⟨R41,hR41⟩:=exR fun f w_=>∃ out_40 : ByteArray,j41 = .nx out_40∧f 1 = Pt g3∧f 3 = .string out_40∧Star H18 w_ ([box g3 54 #[I r_.kind,v0_1,v0_2,I r_.bound,v0_4]])
 refine W_join R41 ?_ ?_
 refine W_block ?_
 obtain ⟨I41,hI41⟩:=exI fun n f w_=>∃ i_39 : Nat,∃ suf41 : List Int,∃ out_40 : ByteArray,n = suf41.length∧List.drop i_39 r_.vars = suf41∧i_39 + suf41.length = r_.vars.length∧rangeL (i_Rule_text_b1 r_) suf41 i_39 out_40 = some j41∧f 1 = Pt g3∧f 3 = .string out_40∧f 17 = v0_1∧f 18 = I (r_.vars.length : Int)∧f 19 = I i_39∧Star H18 w_ ([box g3 54 #[I r_.kind,v0_1,v0_2,I r_.bound,v0_4]])
 refine W_loop I41 (n:=r_.vars.length) ?_ ?_
 exact ij hI41 ⟨0,r_.vars,x13,rfl,rfl,Nat.zero_add _,hL41,((hS18 1 rfl).trans rfl),rfl,rfl,rfl,rfl,(Star.keepN 1 Z)⟩
 intro n41 f w_ hI
 obtain ⟨i_39,suf41,out_40,rfl,hd41,hl41,hL41,sf1,sf3,sf17,sf18,sf19,Z⟩:=ik hI41 hI
 refine sq (L_lss rfl sf19 sf18 (nq (W_cond (b:=decide ((i_39 : Int) < (r_.vars.length : Int))) rfl (fun hc42=>?_) (fun hc42=>?_))))
 have hlt41:=of_decide_eq_true hc42
 rcases suf41 with _ | ⟨x_41,rest41⟩
 exact absurd hlt41 (by simp at hl41; omega)
 obtain ⟨o41,hB41,hL41⟩:=range_cons hL41
 rw [i_Rule_text_b1] at hB41
 have hix41:=drop_idx hd41
 refine W_skip (W_seq (W_block (sq (mF sf19 rfl (L_ix (r:=RP.int) rfl Tryd.underlying23 Tryd.sizeOf3 sf17 (RP.mono _ h0_1 hE18) sf19 hix41 (fun g47 o48 cs_g47 hrk_hat49 hat49=>?_))))))
 obtain rfl : _ = [_]:=hrk_hat49
 refine L_ld rfl Tryd.isAgg3 rfl (At.cell (AtH.at hat49 Z.sub) (j:=0) rfl) (aI rfl (aI rfl (nn ?_)))
 obtain ⟨x51,hx51,hB41⟩:=bind_some hB41
 obtain ⟨x61,hx61,hB41⟩:=bind_some hB41
 obtain ⟨x63,hx63,hB41⟩:=bind_some hB41
 obtain ⟨x64,hx64,hB41⟩:=bind_some hB41
 obtain ⟨x70,hx70,hB41⟩:=bind_some hB41
 obtain ⟨x72,hx72,hB41⟩:=bind_some hB41
 obtain ⟨x73,hx73,hB41⟩:=bind_some hB41
 refine W_region (mF sf3 rfl (fA 2 fa_54_2 sf1 rfl (ldB 0 Z Tryd.isAgg23 rfl rfl rfl (mI rfl (L_ix (r:=RP.int) rfl Tryd.underlying23 Tryd.sizeOf3 rfl (RP.mono _ h0_2 hE18) rfl hx51 (fun g74 o75 cs_g74 hrk_hat76 hat76=>?_))))))
 obtain rfl : _ = [_]:=hrk_hat76
 refine L_ld rfl Tryd.isAgg3 rfl (At.cell (AtH.at hat76 Z.sub) (j:=0) rfl) ?_
 obtain ⟨H78b,l79,s80,z81,k82⟩:=Z.borrow
 refine L_call rfl Tryd.call79 (ops1 rfl) (strconv_Itoa_c (x_:=x51) s80 hx61) ?_
 rintro _ w83 ⟨rfl,Z⟩
 have Z:=k82 Z c0
 obtain ⟨hx63_l,hx63_e⟩:=cat_some hx63
 refine L_sadd (s:=(⟨#[32]⟩ : ByteArray)) (s':=x61) rfl rfl rfl hx63_l ?_
 rw [← hx63_e]
 obtain ⟨hx64_l,hx64_e⟩:=cat_some hx64
 refine L_sadd (s:=x63) (s':=(⟨#[32]⟩ : ByteArray)) rfl rfl rfl hx64_l ?_
 rw [← hx64_e]
 refine mI rfl ?_
 obtain ⟨H84b,l85,s86,z87,k88⟩:=Z.borrow
 refine L_call rfl Tryd.call79 (ops1 rfl) (strconv_Itoa_c (x_:=x_41) s86 hx70) ?_
 rintro _ w89 ⟨rfl,Z⟩
 have Z:=k88 Z c0
 obtain ⟨hx72_l,hx72_e⟩:=cat_some hx72
 refine L_sadd (s:=x64) (s':=x70) rfl rfl rfl hx72_l ?_
 rw [← hx72_e]
 obtain ⟨hx73_l,hx73_e⟩:=cat_some hx73
 refine L_sadd (s:=out_40) (s':=x72) rfl rfl rfl hx73_l ?_
 rw [← hx73_e]
 refine aV (.string x73) rfl (nn (W_region (L_add rfl sf19 rfl (mI rfl (nn ?_)))))
 obtain rfl:=so hB41
 show ∃ m,m < _∧I41 m _ _
 refine ⟨rest41.length,by simp,?_⟩
 exact ij hI41 ⟨i_39 + 1,rest41,x73,rfl,drop_next hd41,by simp at hl41; omega,hL41,sf1,rfl,sf17,sf18,(Eq.trans rfl (congrArg (Value.int .i64) (i64_succ (n:=r_.vars.length) (by simp at hl41; omega) hlen41))),Z⟩
 rcases suf41 with _ | ⟨_,_⟩
 obtain rfl:=range_nil hL41
 refine W_exit (rj hR41 ⟨out_40,rfl,sf1,sf3,Z⟩)
 exact absurd (of_decide_eq_false hc42) (by simp at hl41; omega)
 intro f w_ hR
 obtain ⟨out_40,rfl,sf1,sf3,Z⟩:=rk hR41 hR
 refine W_seq ?_
 obtain ⟨x90,hx90,hF⟩:=bind_some hF
 obtain ⟨x96,hx96,hF⟩:=bind_some hF
 obtain ⟨x98,hx98,hF⟩:=bind_some hF
 refine W_region (mF sf3 rfl ?_)
 obtain ⟨hx90_l,hx90_e⟩:=cat_some hx90
 refine L_sadd (s:=out_40) (s':=(⟨#[32,62,61,32]⟩ : ByteArray)) rfl rfl rfl hx90_l ?_
 rw [← hx90_e]
 refine fA 3 fa_54_3 sf1 rfl (ldB 0 Z Tryd.isAgg3 rfl rfl rfl ?_)
 obtain ⟨H99b,l100,s101,z102,k103⟩:=Z.borrow
 refine L_call rfl Tryd.call79 (ops1 rfl) (strconv_Itoa_c (x_:=r_.bound) s101 hx96) ?_
 rintro _ w104 ⟨rfl,Z⟩
 have Z:=k103 Z c0
 obtain ⟨hx98_l,hx98_e⟩:=cat_some hx98
 refine L_sadd (s:=x90) (s':=x96) rfl rfl rfl hx98_l ?_
 rw [← hx98_e]
 refine aV (.string x98) rfl (nn (W_ret (retG1 (v1:=.string x98) Tryd.results56 rfl ?_)))
 obtain rfl:=so hF
 exact ⟨rfl,(Star.down (Star.keepN 0 Z) hE18 c0)⟩
 have hF:=(ite_f hc38).symm.trans hF
 refine W_skip (W_seq ?_)
 obtain ⟨x110,hx110,hF⟩:=bind_some hF
 obtain ⟨x112,hx112,hF⟩:=bind_some hF
 obtain ⟨x113,hx113,hF⟩:=bind_some hF
 refine W_region (mV (.string x13) rfl (fA 1 fa_54_1 ((hS18 1 rfl).trans rfl) rfl (ldB 0 Z Tryd.isAgg23 rfl rfl rfl ?_)))
 obtain ⟨H114b,l115,s116,z117,k118⟩:=Z.borrow
 refine L_call rfl Tryd.call55 (ops1 rfl) (i_digits_c (list:=r_.vars) s116 (RP.mono _ h0_1 (Le.trans hE18 l115)) hx110) ?_
 rintro _ w119 ⟨rfl,Z⟩
 have Z:=k118 Z c0
 obtain ⟨hx112_l,hx112_e⟩:=cat_some hx112
 refine L_sadd (s:=(⟨#[32]⟩ : ByteArray)) (s':=x110) rfl rfl rfl hx112_l ?_
 rw [← hx112_e]
 obtain ⟨hx113_l,hx113_e⟩:=cat_some hx113
 refine L_sadd (s:=x13) (s':=x112) rfl rfl rfl hx113_l ?_
 rw [← hx113_e]
 refine aV (.string x113) rfl (nq (sq (fA 4 fa_54_4 ((hS18 1 rfl).trans rfl) rfl (ldB 0 Z Tryd.isAgg52 rfl rfl rfl (L_len rfl Tryd.underlying52 rfl (slice_len (RP.mono _ h0_4 hE18)) (mI rfl (nn ?_)))))))
 have hlen122 : List.length r_.rows≤9223372036854775807:=len_le (slice_len (RP.mono _ h0_4 hE18))
 obtain ⟨j122,hL122,hF⟩:=bind_some hF
 obtain ⟨R122,hR122⟩:=exR fun f w_=>∃ out_121 : ByteArray,j122 = .nx out_121∧f 3 = .string out_121∧Star H18 w_ ([])
 refine W_join R122 ?_ ?_
 refine W_block ?_
 obtain ⟨I122,hI122⟩:=exI fun n f w_=>∃ i_120 : Nat,∃ suf122 : List (List Int),∃ out_121 : ByteArray,n = suf122.length∧List.drop i_120 r_.rows = suf122∧i_120 + suf122.length = r_.rows.length∧rangeL i_Rule_text_b2 suf122 i_120 out_121 = some j122∧f 3 = .string out_121∧f 51 = v0_4∧f 52 = I (r_.rows.length : Int)∧f 53 = I i_120∧Star H18 w_ ([])
 refine W_loop I122 (n:=r_.rows.length) ?_ ?_
 exact ij hI122 ⟨0,r_.rows,x113,rfl,rfl,Nat.zero_add _,hL122,rfl,rfl,rfl,rfl,(Star.keepN 0 Z)⟩
 intro n122 f w_ hI
 obtain ⟨i_120,suf122,out_121,rfl,hd122,hl122,hL122,sf3,sf51,sf52,sf53,Z⟩:=ik hI122 hI
 refine sq (L_lss rfl sf53 sf52 (nq (W_cond (b:=decide ((i_120 : Int) < (r_.rows.length : Int))) rfl (fun hc123=>?_) (fun hc123=>?_))))
 have hlt122:=of_decide_eq_true hc123
 rcases suf122 with _ | ⟨x_122,rest122⟩
 exact absurd hlt122 (by simp at hl122; omega)
 obtain ⟨o122,hB122,hL122⟩:=range_cons hL122
 rw [i_Rule_text_b2] at hB122
 have hix122:=drop_idx hd122
 refine W_skip (W_seq (W_block (sq (L_ix (r:=(rS 3 RP.int)) rfl Tryd.underlying52 Tryd.sizeOf23 sf51 (RP.mono _ h0_4 hE18) sf53 hix122 (fun g128 o129 cs_g128 hrk_hat130 hat130=>?_)))))
 obtain ⟨u131,rfl,hu131⟩:=slice1 hrk_hat130
 refine L_ld rfl Tryd.isAgg23 rfl (At.cell (AtH.at hat130 Z.sub) (j:=0) rfl) (aV u131 rfl (nn ?_))
 obtain ⟨x137,hx137,hB122⟩:=bind_some hB122
 obtain ⟨x139,hx139,hB122⟩:=bind_some hB122
 obtain ⟨x140,hx140,hB122⟩:=bind_some hB122
 refine W_region (mF sf3 rfl (mV u131 rfl ?_))
 obtain ⟨H141b,l142,s143,z144,k145⟩:=Z.borrow
 refine L_call rfl Tryd.call55 (ops1 rfl) (i_digits_c (list:=x_122) s143 (RP.mono _ hu131 l142) hx137) ?_
 rintro _ w146 ⟨rfl,Z⟩
 have Z:=k145 Z c0
 obtain ⟨hx139_l,hx139_e⟩:=cat_some hx139
 refine L_sadd (s:=(⟨#[32]⟩ : ByteArray)) (s':=x137) rfl rfl rfl hx139_l ?_
 rw [← hx139_e]
 obtain ⟨hx140_l,hx140_e⟩:=cat_some hx140
 refine L_sadd (s:=out_121) (s':=x139) rfl rfl rfl hx140_l ?_
 rw [← hx140_e]
 refine aV (.string x140) rfl (nn (W_region (L_add rfl sf53 rfl (mI rfl (nn ?_)))))
 obtain rfl:=so hB122
 show ∃ m,m < _∧I122 m _ _
 refine ⟨rest122.length,by simp,?_⟩
 exact ij hI122 ⟨i_120 + 1,rest122,x140,rfl,drop_next hd122,by simp at hl122; omega,hL122,rfl,sf51,sf52,(Eq.trans rfl (congrArg (Value.int .i64) (i64_succ (n:=r_.rows.length) (by simp at hl122; omega) hlen122))),Z⟩
 rcases suf122 with _ | ⟨_,_⟩
 obtain rfl:=range_nil hL122
 refine W_exit (rj hR122 ⟨out_121,rfl,sf3,Z⟩)
 exact absurd (of_decide_eq_false hc123) (by simp at hl122; omega)
 intro f w_ hR
 obtain ⟨out_121,rfl,sf3,Z⟩:=rk hR122 hR
 refine sq (mF sf3 rfl (aV (.string out_121) rfl (nn (W_ret (retG1 (v1:=.string out_121) Tryd.results56 rfl ?_)))))
 obtain rfl:=so hF
 exact ⟨rfl,(Star.down Z hE18 c0)⟩
theorem i_formatModel_c {m : Model} {v0_0 : Value} {v0_1 : Value} {H : FH} {w : World} (Z : Star H w []) (h0_0 : (rS 3 RP.int).rel H [v0_0] m.sizes) (h0_1 : (rS 54 (rRule 3 23)).rel H [v0_1] m.rules) {r : ByteArray} (hF : i_formatModel m = some r) :
 C Tryd.prog 29 #[.agg #[v0_0,v0_1]] w fun v w'=>v = .string r∧Star H w' []:=by
 unfold i_formatModel at hF
 refine C_enter Tryd.func29 rfl Tryd.ntmps29 rfl (sq (L_box (v:=.agg #[v0_0,v0_1]) (cs:=#[v0_0,v0_1]) rfl rfl rfl Z (fun g3 w4 Z=>aV (.string (⟨#[]⟩ : ByteArray)) rfl (nq ?_))))
 obtain ⟨x10,hx10,hF⟩:=bind_some hF
 obtain ⟨x12,hx12,hF⟩:=bind_some hF
 obtain ⟨x13,hx13,hF⟩:=bind_some hF
 refine W_region (fA 0 fa_26_0 rfl rfl (ldB 0 Z Tryd.isAgg23 rfl rfl rfl ?_))
 obtain ⟨H14b,l15,s16,z17,k18⟩:=Z.borrow
 refine L_call rfl Tryd.call55 (ops1 rfl) (i_digits_c (list:=m.sizes) s16 (RP.mono _ h0_0 l15) hx10) ?_
 rintro _ w19 ⟨rfl,Z⟩
 have Z:=k18 Z c0
 obtain ⟨hx12_l,hx12_e⟩:=cat_some hx12
 refine L_sadd (s:=(⟨#[115,105,122,101,115,32]⟩ : ByteArray)) (s':=x10) rfl rfl rfl hx12_l ?_
 rw [← hx12_e]
 obtain ⟨hx13_l,hx13_e⟩:=cat_some hx13
 refine L_sadd (s:=x12) (s':=(⟨#[10]⟩ : ByteArray)) rfl rfl rfl hx13_l ?_
 rw [← hx13_e]
 refine aV (.string x13) rfl (nq (sq (fA 1 fa_26_1 rfl rfl (ldB 0 Z Tryd.isAgg24 rfl rfl rfl (L_len rfl Tryd.underlying24 rfl (slice_len h0_1) (mI rfl (nn ?_)))))))
 have hlen22 : List.length m.rules≤9223372036854775807:=len_le (slice_len h0_1)
 obtain ⟨j22,hL22,hF⟩:=bind_some hF
 obtain ⟨R22,hR22⟩:=exR fun f w_=>∃ out_21 : ByteArray,j22 = .nx out_21∧f 3 = .string out_21∧Star H w_ ([])
 refine W_join R22 ?_ ?_
 refine W_block ?_
 obtain ⟨I22,hI22⟩:=exI fun n f w_=>∃ i_20 : Nat,∃ suf22 : List Rule,∃ out_21 : ByteArray,n = suf22.length∧List.drop i_20 m.rules = suf22∧i_20 + suf22.length = m.rules.length∧rangeL i_formatModel_b1 suf22 i_20 out_21 = some j22∧f 3 = .string out_21∧f 12 = v0_1∧f 13 = I (m.rules.length : Int)∧f 14 = I i_20∧Star H w_ ([])
 refine W_loop I22 (n:=m.rules.length) ?_ ?_
 exact ij hI22 ⟨0,m.rules,x13,rfl,rfl,Nat.zero_add _,hL22,rfl,rfl,rfl,rfl,(Star.keepN 0 Z)⟩
 intro n22 f w_ hI
 obtain ⟨i_20,suf22,out_21,rfl,hd22,hl22,hL22,sf3,sf12,sf13,sf14,Z⟩:=ik hI22 hI
 refine sq (L_lss rfl sf14 sf13 (nq (W_cond (b:=decide ((i_20 : Int) < (m.rules.length : Int))) rfl (fun hc23=>?_) (fun hc23=>?_))))
 have hlt22:=of_decide_eq_true hc23
 rcases suf22 with _ | ⟨x_22,rest22⟩
 exact absurd hlt22 (by simp at hl22; omega)
 obtain ⟨o22,hB22,hL22⟩:=range_cons hL22
 rw [i_formatModel_b1] at hB22
 have hix22:=drop_idx hd22
 refine W_skip (W_seq (W_block (sq (L_ix (r:=(rRule 3 23)) rfl Tryd.underlying24 Tryd.sizeOf54 sf12 h0_1 sf14 hix22 (fun g31 o32 cs_g31 hrk_hat33 hat33=>?_)))))
 obtain ⟨u34_0,u34_1,u34_2,rfl,hu34_0,hu34_1,hu34_2⟩:=rRule_iff.1 hrk_hat33
 refine L_lda (cs:=[I x_22.kind,u34_0,u34_1,I x_22.bound,u34_2]) rfl Tryd.isAgg54 Tryd.sizeOf54 rfl (At.sub (AtH.at hat33 Z.sub) 0 5) rfl (L_al (cs:=#[I 0,S0,S0,I 0,S0]) rfl Tryd.zeroValue54 rfl Z (fun g35 w36 Z=>L_staB (vs:=#[I x_22.kind,u34_0,u34_1,I x_22.bound,u34_2]) (cs2:=#[I x_22.kind,u34_0,u34_1,I x_22.bound,u34_2]) 0 rfl Tryd.sizeOf54 rfl rfl rfl (ones_cons rfl (ones_cons (one_len (slice_len hu34_0)) (ones_cons (one_len (slice_len hu34_1)) (ones_cons rfl (ones_cons (one_len (slice_len hu34_2)) ones_nil))))) Z rfl (by show 0 + 5≤5; decide) rfl (fun w37 Z=>nn ?_)))
 obtain ⟨x43,hx43,hB22⟩:=bind_some hB22
 obtain ⟨x45,hx45,hB22⟩:=bind_some hB22
 obtain ⟨x46,hx46,hB22⟩:=bind_some hB22
 refine W_region (mF sf3 rfl (L_lda (cs:=[I x_22.kind,u34_0,u34_1,I x_22.bound,u34_2]) rfl Tryd.isAgg54 Tryd.sizeOf54 rfl (At.sub0 (Blk.at (Star.blkAt 0 Z rfl)) 0 5) rfl ?_))
 obtain ⟨H47b,l48,s49,z50,k51⟩:=Z.borrow
 refine L_call rfl Tryd.call56 (ops1 rfl) (i_Rule_text_c (r_:=x_22) s49 (RP.mono _ hu34_0 l48) (RP.mono _ hu34_1 l48) (RP.mono _ hu34_2 l48) hx43) ?_
 rintro _ w52 ⟨rfl,Z⟩
 have Z:=k51 Z c0
 obtain ⟨hx45_l,hx45_e⟩:=cat_some hx45
 refine L_sadd (s:=x43) (s':=(⟨#[10]⟩ : ByteArray)) rfl rfl rfl hx45_l ?_
 rw [← hx45_e]
 obtain ⟨hx46_l,hx46_e⟩:=cat_some hx46
 refine L_sadd (s:=out_21) (s':=x45) rfl rfl rfl hx46_l ?_
 rw [← hx46_e]
 refine aV (.string x46) rfl (nn (W_region (L_add rfl sf14 rfl (mI rfl (nn ?_)))))
 obtain rfl:=so hB22
 show ∃ m,m < _∧I22 m _ _
 refine ⟨rest22.length,by simp,?_⟩
 exact ij hI22 ⟨i_20 + 1,rest22,x46,rfl,drop_next hd22,by simp at hl22; omega,hL22,rfl,sf12,sf13,(Eq.trans rfl (congrArg (Value.int .i64) (i64_succ (n:=m.rules.length) (by simp at hl22; omega) hlen22))),(Star.keepN 0 Z)⟩
 rcases suf22 with _ | ⟨_,_⟩
 obtain rfl:=range_nil hL22
 refine W_exit (rj hR22 ⟨out_21,rfl,sf3,Z⟩)
 exact absurd (of_decide_eq_false hc23) (by simp at hl22; omega)
 intro f w_ hR
 obtain ⟨out_21,rfl,sf3,Z⟩:=rk hR22 hR
 refine sq (mF sf3 rfl (aV (.string out_21) rfl (nn (W_ret (retG1 (v1:=.string out_21) Tryd.results29 rfl ?_)))))
 obtain rfl:=so hF
 exact ⟨rfl,Z⟩
theorem i_FormatModel_c {m : Model} {v0_0 : Value} {v0_1 : Value} {H : FH} {w : World} (Z : Star H w []) (h0_0 : (rS 3 RP.int).rel H [v0_0] m.sizes) (h0_1 : (rS 54 (rRule 3 23)).rel H [v0_1] m.rules) {r : ByteArray} (hF : i_FormatModel m = some r) :
 C Tryd.prog 9 #[.agg #[v0_0,v0_1]] w fun v w'=>v = .string r∧Star H w' []:=by
 unfold i_FormatModel at hF
 refine C_enter Tryd.func9 rfl Tryd.ntmps9 rfl (sq (L_box (v:=.agg #[v0_0,v0_1]) (cs:=#[v0_0,v0_1]) rfl rfl rfl Z (fun g3 w4 Z=>aV (.string (⟨#[]⟩ : ByteArray)) rfl (nq (W_seq ?_)))))
 obtain ⟨x10,hx10,hF⟩:=bind_some hF
 refine W_region (L_lda (cs:=[v0_0,v0_1]) rfl Tryd.isAgg26 Tryd.sizeOf26 rfl (At.sub0 (Blk.at (Star.blkAt 0 Z rfl)) 0 2) rfl ?_)
 obtain ⟨H12b,l13,s14,z15,k16⟩:=Z.borrow
 refine L_call rfl Tryd.call28 (ops1 rfl) (i_ModelValid_c (m:=m) s14 (RP.mono _ h0_0 l13) (RP.mono _ h0_1 l13) hx10) ?_
 rintro _ w17 ⟨rfl,Z⟩
 have Z:=k16 Z c0
 refine L_not_ rfl rfl (nn (W_cond (b:=(!x10)) rfl (fun hc18=>?_) (fun hc18=>?_)))
 have hF:=(ite_t hc18).symm.trans hF
 refine sq (aV (.string (⟨#[]⟩ : ByteArray)) rfl (nn (W_ret (retG1 (v1:=.string (⟨#[]⟩ : ByteArray)) Tryd.results9 rfl ?_))))
 obtain rfl:=so hF
 exact ⟨rfl,(Star.keepN 0 Z)⟩
 have hF:=(ite_f hc18).symm.trans hF
 refine W_skip (W_seq ?_)
 obtain ⟨x24,hx24,hF⟩:=bind_some hF
 refine W_region (L_lda (cs:=[v0_0,v0_1]) rfl Tryd.isAgg26 Tryd.sizeOf26 rfl (At.sub0 (Blk.at (Star.blkAt 0 Z rfl)) 0 2) rfl ?_)
 obtain ⟨H26b,l27,s28,z29,k30⟩:=Z.borrow
 refine L_call rfl Tryd.call29 (ops1 rfl) (i_formatModel_c (m:=m) s28 (RP.mono _ h0_0 l27) (RP.mono _ h0_1 l27) hx24) ?_
 rintro _ w31 ⟨rfl,Z⟩
 have Z:=k30 Z c0
 refine aV (.string x24) rfl (nn (W_ret (retG1 (v1:=.string x24) Tryd.results9 rfl ?_)))
 obtain rfl:=so hF
 exact ⟨rfl,(Star.keepN 0 Z)⟩
theorem l_FnModelSame_c {fu : Nat} {code : List UInt8} {v0 : Value} {H : FH} {w : World} (Z : Star H w []) (h0 : (rS 5 RP.u8).rel H [v0] code) {r : Bool} (hF : l_FnModelSame fu code = some r) :
 C Tryd.prog 3 #[v0] w fun v w'=>v = Bo r∧Star H w' []:=by
 unfold l_FnModelSame at hF
 refine C_enter Tryd.func3 rfl Tryd.ntmps3 rfl (sq (aB rfl (nq (sq (mV v0 rfl (L_len rfl Tryd.underlying22 rfl (slice_len h0) (L_gtr rfl rfl rfl (nn (W_cond (b:=decide ((code.length : Int) > 1048576)) rfl (fun hc1=>?_) (fun hc1=>?_))))))))))
 have hF:=(ite_t hc1).symm.trans hF
 refine sq (aB rfl (nn (W_ret (retG1 (v1:=Bo true) Tryd.results3 rfl ?_))))
 obtain rfl:=so hF
 exact ⟨rfl,Z⟩
 have hF:=(ite_f hc1).symm.trans hF
 refine W_skip (W_seq ?_)
 obtain ⟨x2,hx2,hF⟩:=bind_some hF
 refine W_region (mV v0 rfl (L_call rfl Tryd.call6 (ops1 rfl) (s_DrawModelSame_c (code:=code) Z h0 hx2) ?_))
 rintro _ w12 ⟨H12,l12,r12_0,r12_1,r12_2,r12_3,rfl,hr12_0,hr12_2,Z⟩
 refine mV (.tuple #[.agg #[r12_0,r12_1],.agg #[r12_2,r12_3]]) rfl (L_ex (v:=.agg #[r12_0,r12_1]) rfl rfl rfl (L_ex (v:=.agg #[r12_2,r12_3]) rfl rfl rfl (L_al (cs:=#[S0,S0]) rfl Tryd.zeroValue26 rfl Z (fun g15 w16 Z=>L_al (cs:=#[S0,S0]) rfl Tryd.zeroValue26 rfl Z (fun g17 w18 Z=>L_staB (vs:=#[r12_0,r12_1]) (cs2:=#[r12_0,r12_1]) 1 rfl Tryd.sizeOf26 rfl rfl rfl (ones_cons (one_len (slice_len hr12_0)) (ones_cons (one_len (Star.len 2 Z rfl)) ones_nil)) Z rfl (by show 0 + 2≤2; decide) rfl (fun w19 Z=>L_staB (vs:=#[r12_2,r12_3]) (cs2:=#[r12_2,r12_3]) 1 rfl Tryd.sizeOf26 rfl rfl rfl (ones_cons (one_len (slice_len hr12_2)) (ones_cons (one_len (Star.len 3 Z rfl)) ones_nil)) Z rfl (by show 0 + 2≤2; decide) rfl (fun w20 Z=>nq ?_)))))))
 obtain ⟨x28,hx28,hF⟩:=bind_some hF
 refine W_region (L_lda (cs:=[r12_0,r12_1]) rfl Tryd.isAgg26 Tryd.sizeOf26 rfl (At.sub0 (Blk.at (Star.blkAt 1 Z rfl)) 0 2) rfl (L_lda (cs:=[r12_2,r12_3]) rfl Tryd.isAgg26 Tryd.sizeOf26 rfl (At.sub0 (Blk.at (Star.blkAt 0 Z rfl)) 0 2) rfl ?_))
 obtain ⟨H30b,l31,s32,z33,k34⟩:=Z.borrow
 have hb35 : (rS 54 (rRule 3 23)).rel H30b [r12_1] x2.1.rules:=fz_own 2 z33 rfl
 have hb36 : (rS 54 (rRule 3 23)).rel H30b [r12_3] x2.2.rules:=fz_own 3 z33 rfl
 refine L_call rfl Tryd.call7 (ops2 rfl rfl) (i_ModelSame_c (a:=x2.1) (b:=x2.2) s32 (RP.mono _ hr12_0 l31) hb35 (RP.mono _ hr12_2 l31) hb36 hx28) ?_
 rintro _ w37 ⟨rfl,Z⟩
 have Z:=k34 Z c0
 refine aB rfl (nq (W_seq ?_))
 obtain ⟨x45,hx45,hF⟩:=bind_some hF
 obtain ⟨b56,hb56,hF⟩:=bind_some hF
 obtain ⟨b66,hb66,hF⟩:=bind_some hF
 obtain ⟨R67,hR67⟩:=exR fun f w_=>f 3 = Pt g15∧f 4 = Pt g17∧f 5 = Bo x28∧f 36 = Bo b66∧Star H12 w_ ([oS 54 (oRule 3 23) r12_3 x2.2.rules,box g17 26 #[r12_2,r12_3],oS 54 (oRule 3 23) r12_1 x2.1.rules,box g15 26 #[r12_0,r12_1]])
 refine W_join R67 ?_ ?_
 refine W_region (mB rfl (L_lda (cs:=[r12_0,r12_1]) rfl Tryd.isAgg26 Tryd.sizeOf26 rfl (At.sub0 (Blk.at (Star.blkAt 1 Z rfl)) 0 2) rfl (L_lda (cs:=[r12_2,r12_3]) rfl Tryd.isAgg26 Tryd.sizeOf26 rfl (At.sub0 (Blk.at (Star.blkAt 0 Z rfl)) 0 2) rfl ?_)))
 obtain ⟨H68b,l69,s70,z71,k72⟩:=Z.borrow
 have hb73 : (rS 54 (rRule 3 23)).rel H68b [r12_1] x2.1.rules:=fz_own 2 z71 rfl
 have hb74 : (rS 54 (rRule 3 23)).rel H68b [r12_3] x2.2.rules:=fz_own 3 z71 rfl
 refine L_call rfl Tryd.call8 (ops2 rfl rfl) (s_ModelSame_c (a:=x2.1) (b:=x2.2) s70 (RP.mono _ hr12_0 l69) hb73 (RP.mono _ hr12_2 l69) hb74 hx45) ?_
 rintro _ w75 ⟨rfl,Z⟩
 have Z:=k72 Z c0
 refine L_bneq (b:=x28) (c:=x45) rfl Tryd.underlying4 rfl rfl (mB rfl (L_split (d:=24) (b:=(x28 != x45)) rfl (fun hc76=>?_) (fun hc76=>?_)))
 rw [ite_t hc76] at hb56
 refine ps rfl (ps rfl (ps rfl (ps rfl (ps rfl (L_pick (v:=Bo b56) rfl rfl (congrArg Value.bool (so hb56)) (mB rfl (L_split (d:=31) (b:=b56) rfl (fun hc77=>?_) (fun hc77=>?_))))))))
 rw [ite_t hc77] at hb66
 refine ps rfl (ps rfl (ps rfl (ps rfl (L_pick (v:=Bo b66) rfl rfl (congrArg Value.bool (so hb66)) (nn ?_)))))
 have Z:=Z.gets [1,2,2,3] rfl
 exact rj hR67 ⟨rfl,rfl,rfl,rfl,Z⟩
 rw [ite_f hc77] at hb66
 obtain ⟨x64,hx64,hb66⟩:=bind_some hb66
 refine L_lda (cs:=[r12_0,r12_1]) rfl Tryd.isAgg26 Tryd.sizeOf26 rfl (At.sub0 (Blk.at (Star.blkAt 1 Z rfl)) 0 2) rfl (L_lda (cs:=[r12_0,r12_1]) rfl Tryd.isAgg26 Tryd.sizeOf26 rfl (At.sub0 (Blk.at (Star.blkAt 1 Z rfl)) 0 2) rfl ?_)
 obtain ⟨H78b,l79,s80,z81,k82⟩:=Z.borrow
 have hb83 : (rS 54 (rRule 3 23)).rel H78b [r12_1] x2.1.rules:=fz_own 2 z81 rfl
 have hb84 : (rS 54 (rRule 3 23)).rel H78b [r12_1] x2.1.rules:=fz_own 2 z81 rfl
 refine L_call rfl Tryd.call7 (ops2 rfl rfl) (i_ModelSame_c (a:=x2.1) (b:=x2.1) s80 (RP.mono _ hr12_0 l79) hb83 (RP.mono _ hr12_0 l79) hb84 hx64) ?_
 rintro _ w85 ⟨rfl,Z⟩
 have Z:=k82 Z c0
 refine L_not_ rfl rfl (L_pick (v:=Bo b66) rfl rfl (congrArg Value.bool (so hb66)) (nn ?_))
 have Z:=Z.gets [1,2,2,3] rfl
 exact rj hR67 ⟨rfl,rfl,rfl,rfl,Z⟩
 rw [ite_f hc76] at hb56
 obtain ⟨x54,hx54,hb56⟩:=bind_some hb56
 refine mB rfl (L_lda (cs:=[r12_2,r12_3]) rfl Tryd.isAgg26 Tryd.sizeOf26 rfl (At.sub0 (Blk.at (Star.blkAt 0 Z rfl)) 0 2) rfl (L_lda (cs:=[r12_0,r12_1]) rfl Tryd.isAgg26 Tryd.sizeOf26 rfl (At.sub0 (Blk.at (Star.blkAt 1 Z rfl)) 0 2) rfl ?_))
 obtain ⟨H86b,l87,s88,z89,k90⟩:=Z.borrow
 have hb91 : (rS 54 (rRule 3 23)).rel H86b [r12_3] x2.2.rules:=fz_own 3 z89 rfl
 have hb92 : (rS 54 (rRule 3 23)).rel H86b [r12_1] x2.1.rules:=fz_own 2 z89 rfl
 refine L_call rfl Tryd.call7 (ops2 rfl rfl) (i_ModelSame_c (a:=x2.2) (b:=x2.1) s88 (RP.mono _ hr12_2 l87) hb91 (RP.mono _ hr12_0 l87) hb92 hx54) ?_
 rintro _ w93 ⟨rfl,Z⟩
 have Z:=k90 Z c0
 refine L_bneq (b:=x28) (c:=x54) rfl Tryd.underlying4 rfl rfl (L_pick (v:=Bo b56) rfl rfl (congrArg Value.bool (so hb56)) (mB rfl (L_split (d:=31) (b:=b56) rfl (fun hc94=>?_) (fun hc94=>?_))))
 rw [ite_t hc94] at hb66
 refine ps rfl (ps rfl (ps rfl (ps rfl (L_pick (v:=Bo b66) rfl rfl (congrArg Value.bool (so hb66)) (nn ?_)))))
 have Z:=Z.gets [1,2,2,3] rfl
 exact rj hR67 ⟨rfl,rfl,rfl,rfl,Z⟩
 rw [ite_f hc94] at hb66
 obtain ⟨x64,hx64,hb66⟩:=bind_some hb66
 refine L_lda (cs:=[r12_0,r12_1]) rfl Tryd.isAgg26 Tryd.sizeOf26 rfl (At.sub0 (Blk.at (Star.blkAt 1 Z rfl)) 0 2) rfl (L_lda (cs:=[r12_0,r12_1]) rfl Tryd.isAgg26 Tryd.sizeOf26 rfl (At.sub0 (Blk.at (Star.blkAt 1 Z rfl)) 0 2) rfl ?_)
 obtain ⟨H95b,l96,s97,z98,k99⟩:=Z.borrow
 have hb100 : (rS 54 (rRule 3 23)).rel H95b [r12_1] x2.1.rules:=fz_own 2 z98 rfl
 have hb101 : (rS 54 (rRule 3 23)).rel H95b [r12_1] x2.1.rules:=fz_own 2 z98 rfl
 refine L_call rfl Tryd.call7 (ops2 rfl rfl) (i_ModelSame_c (a:=x2.1) (b:=x2.1) s97 (RP.mono _ hr12_0 l96) hb100 (RP.mono _ hr12_0 l96) hb101 hx64) ?_
 rintro _ w102 ⟨rfl,Z⟩
 have Z:=k99 Z c0
 refine L_not_ rfl rfl (L_pick (v:=Bo b66) rfl rfl (congrArg Value.bool (so hb66)) (nn ?_))
 have Z:=Z.gets [1,2,2,3] rfl
 exact rj hR67 ⟨rfl,rfl,rfl,rfl,Z⟩
 intro f w_ hR
 obtain ⟨sf3,sf4,sf5,sf36,Z⟩:=rk hR67 hR
 refine W_cond (b:=b66) sf36 (fun hc103=>?_) (fun hc103=>?_)
 have hF:=(ite_t hc103).symm.trans hF
 refine sq (aB rfl (nn (W_ret (retG1 (v1:=Bo false) Tryd.results3 rfl ?_))))
 obtain rfl:=so hF
 exact ⟨rfl,(Star.down (Star.keepN 0 Z) l12 c0)⟩
 have hF:=(ite_f hc103).symm.trans hF
 refine W_skip (W_seq ?_)
 obtain ⟨x110,hx110,hF⟩:=bind_some hF
 refine W_region (L_lda (cs:=[r12_0,r12_1]) rfl Tryd.isAgg26 Tryd.sizeOf26 sf3 (At.sub0 (Blk.at (Star.blkAt 3 Z rfl)) 0 2) rfl ?_)
 obtain ⟨H112b,l113,s114,z115,k116⟩:=Z.borrow
 have hb117 : (rS 54 (rRule 3 23)).rel H112b [r12_1] x2.1.rules:=fz_own 2 z115 rfl
 refine L_call rfl Tryd.call9 (ops1 rfl) (i_FormatModel_c (m:=x2.1) s114 (RP.mono _ hr12_0 l113) hb117 hx110) ?_
 rintro _ w118 ⟨rfl,Z⟩
 have Z:=k116 Z c0
 refine aV (.string x110) rfl (nq ?_)
 obtain ⟨x125,hx125,hF⟩:=bind_some hF
 refine W_region (L_lda (cs:=[r12_2,r12_3]) rfl Tryd.isAgg26 Tryd.sizeOf26 sf4 (At.sub0 (Blk.at (Star.blkAt 1 Z rfl)) 0 2) rfl ?_)
 obtain ⟨H127b,l128,s129,z130,k131⟩:=Z.borrow
 have hb132 : (rS 54 (rRule 3 23)).rel H127b [r12_3] x2.2.rules:=fz_own 0 z130 rfl
 refine L_call rfl Tryd.call9 (ops1 rfl) (i_FormatModel_c (m:=x2.2) s129 (RP.mono _ hr12_2 l128) hb132 hx125) ?_
 rintro _ w133 ⟨rfl,Z⟩
 have Z:=k131 Z c0
 refine aV (.string x125) rfl (nq ?_)
 obtain ⟨R134,hR134⟩:=exR fun f w_=>f 2 = Bo (((ByteArray.toList x110 == ByteArray.toList (⟨#[]⟩ : ByteArray)) || (ByteArray.toList x125 == ByteArray.toList (⟨#[]⟩ : ByteArray))) || (x28 == (ByteArray.toList x110 == ByteArray.toList x125)))∧Star H12 w_ ([])
 refine W_join R134 ?_ ?_
 refine W_region (mV (.string x110) rfl (L_seql (s:=x110) (s':=(⟨#[]⟩ : ByteArray)) rfl rfl rfl (mB rfl (L_split (d:=43) (b:=(ByteArray.toList x110 == ByteArray.toList (⟨#[]⟩ : ByteArray))) rfl (fun hc135=>?_) (fun hc135=>?_)))))
 refine ps rfl (ps rfl (L_pick (v:=Bo ((ByteArray.toList x110 == ByteArray.toList (⟨#[]⟩ : ByteArray)) || (ByteArray.toList x125 == ByteArray.toList (⟨#[]⟩ : ByteArray)))) rfl rfl (or_t hc135) (mB rfl (L_split (d:=47) (b:=((ByteArray.toList x110 == ByteArray.toList (⟨#[]⟩ : ByteArray)) || (ByteArray.toList x125 == ByteArray.toList (⟨#[]⟩ : ByteArray)))) rfl (fun hc136=>?_) (fun hc136=>?_)))))
 refine ps rfl (ps rfl (ps rfl (ps rfl (ps rfl (L_pick (v:=Bo (((ByteArray.toList x110 == ByteArray.toList (⟨#[]⟩ : ByteArray)) || (ByteArray.toList x125 == ByteArray.toList (⟨#[]⟩ : ByteArray))) || (x28 == (ByteArray.toList x110 == ByteArray.toList x125)))) rfl rfl (or_t hc136) (aB rfl (nn (rj hR134 ⟨rfl,(Star.keepN 0 Z)⟩))))))))
 refine mF sf5 rfl (mV (.string x110) rfl (mV (.string x125) rfl (L_seql (s:=x110) (s':=x125) rfl rfl rfl (L_beql (b:=x28) (c:=(ByteArray.toList x110 == ByteArray.toList x125)) rfl Tryd.underlying4 rfl rfl (L_pick (v:=Bo (((ByteArray.toList x110 == ByteArray.toList (⟨#[]⟩ : ByteArray)) || (ByteArray.toList x125 == ByteArray.toList (⟨#[]⟩ : ByteArray))) || (x28 == (ByteArray.toList x110 == ByteArray.toList x125)))) rfl rfl (or_f hc136 rfl) (aB rfl (nn (rj hR134 ⟨rfl,(Star.keepN 0 Z)⟩))))))))
 refine mV (.string x125) rfl (L_seql (s:=x125) (s':=(⟨#[]⟩ : ByteArray)) rfl rfl rfl (L_pick (v:=Bo ((ByteArray.toList x110 == ByteArray.toList (⟨#[]⟩ : ByteArray)) || (ByteArray.toList x125 == ByteArray.toList (⟨#[]⟩ : ByteArray)))) rfl rfl (or_f hc135 rfl) (mB rfl (L_split (d:=47) (b:=((ByteArray.toList x110 == ByteArray.toList (⟨#[]⟩ : ByteArray)) || (ByteArray.toList x125 == ByteArray.toList (⟨#[]⟩ : ByteArray)))) rfl (fun hc137=>?_) (fun hc137=>?_)))))
 refine ps rfl (ps rfl (ps rfl (ps rfl (ps rfl (L_pick (v:=Bo (((ByteArray.toList x110 == ByteArray.toList (⟨#[]⟩ : ByteArray)) || (ByteArray.toList x125 == ByteArray.toList (⟨#[]⟩ : ByteArray))) || (x28 == (ByteArray.toList x110 == ByteArray.toList x125)))) rfl rfl (or_t hc137) (aB rfl (nn (rj hR134 ⟨rfl,(Star.keepN 0 Z)⟩))))))))
 refine mF sf5 rfl (mV (.string x110) rfl (mV (.string x125) rfl (L_seql (s:=x110) (s':=x125) rfl rfl rfl (L_beql (b:=x28) (c:=(ByteArray.toList x110 == ByteArray.toList x125)) rfl Tryd.underlying4 rfl rfl (L_pick (v:=Bo (((ByteArray.toList x110 == ByteArray.toList (⟨#[]⟩ : ByteArray)) || (ByteArray.toList x125 == ByteArray.toList (⟨#[]⟩ : ByteArray))) || (x28 == (ByteArray.toList x110 == ByteArray.toList x125)))) rfl rfl (or_f hc137 rfl) (aB rfl (nn (rj hR134 ⟨rfl,(Star.keepN 0 Z)⟩))))))))
 intro f w_ hR
 obtain ⟨sf2,Z⟩:=rk hR134 hR
 refine W_ret (retG1 (v1:=Bo (((ByteArray.toList x110 == ByteArray.toList (⟨#[]⟩ : ByteArray)) || (ByteArray.toList x125 == ByteArray.toList (⟨#[]⟩ : ByteArray))) || (x28 == (ByteArray.toList x110 == ByteArray.toList x125)))) Tryd.results3 sf2 ?_)
 obtain rfl:=so hF
 exact ⟨rfl,(Star.down Z l12 c0)⟩
end Go.Proofs.YtohpkefnmkdaeaaDoor
